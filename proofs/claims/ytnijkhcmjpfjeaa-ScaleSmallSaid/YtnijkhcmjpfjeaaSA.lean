/- SA: the reference apportions: handing out;the function. -/
import Derived.Test.YtnijkhcmjpfjeaaS8
namespace Go.Proofs.Ytnijkhcmjpfjeaa
open Go Go.Vm
namespace P
def bsv (m t s:Int) (l:List Int) (f dn:List Bool) (o:List Int):Nat→Nat→Int→Int
 | _,0,v=>v
 | i,d+1,v=>if elig m f dn o i=true∧rem t s l i>v then bsv m t s l f dn o (i+1) d (rem t s l i) else bsv m t s l f dn o (i+1) d v
end P
def gSt (n:Bool) (l:List Int) (f dn:List Bool) (o:List Int) (t m w s g:Int):St:=⟨[(0,V.sl n (List.map encI l)),(1,.int .i64 t),(2,.int .i64 m),(9,.int .i64 l.length),(10,V.ex 1 false (List.map encB f)),(15,.int .i64 w),(16,.int .i64 s),(17,V.ex 1 false (o.map encI)),(18,.int .i64 g),(20,V.ex 1 false (dn.map encB))],[]⟩
def bsSt (n:Bool) (l:List Int) (f dn:List Bool) (o:List Int) (t m w s g b v i:Int):St:=⟨(gSt n l f dn o t m w s g).env++[(21,.int .i64 b),(22,.int .i64 v),(23,.int .i64 i)],[]⟩
theorem bs_loop (n:Bool) (l:List Int) (f dn:List Bool) (o:List Int) (t m w s g:Int) (hl:l.length≤16) (hp:pwP l) (hf:f.length=l.length) (hdn:dn.length=l.length) (ho:o.length=l.length) (hw:0≤w∧w≤1000000) (h0:∀ i,f.getD i true=false→0<s) :
  ∀ (d i:Nat) (b v:Int),i+d=l.length→LRuns (vstep T (vlim T F) lplim fi12.cx 0 (lb fi12 5)) (bsSt n l f dn o t m w s g b v i) (.exit 10,⟨(bsSt n l f dn o t m w s g (P.bst m w s l f dn o i d b v) (P.bsv m w s l f dn o i d v) l.length).env++[(143,.bool false)],[]⟩)
 | 0,i,b,v,hd=>by
  have hi:i=l.length:=by omega
  subst hi;refine lastE Y43_ok noL [(decide ((↑(l.length):Int)<(↑l.length:Int)),false)] [2] (Ex.exit 10,{env:=[(0,V.sl n (List.map encI l)),(1,.int .i64 t),(2,.int .i64 m),(9,.int .i64 (↑l.length:Int)),(10,V.ex 1 false (List.map encB f)),(15,.int .i64 w),(16,.int .i64 s),(17,V.ex 1 false (List.map encI o)),(18,.int .i64 g),(20,V.ex 1 false (List.map encB dn)),(21,.int .i64 b),(22,.int .i64 v),(23,.int .i64 (↑(l.length):Int)),(143,V.bool (decide ((↑(l.length):Int)<(↑l.length:Int))))],heap:=[]}) (by kernel_rfl) (by simp) ⟨by simp,trivial⟩ (by simp[bsSt,gSt,P.bst,P.bsv])
 | d+1,i,b,v,hd=>by
  have hk:i<l.length:=by omega
  have hi:i<f.length:=by omega
  have hid:i<dn.length:=by omega
  have hio:i<o.length:=by omega
  have hwi:IntKind.i64.wrap ((i:Int)+1)=((i+1:Nat):Int):=by rw[i64in (by omega) (by omega)];rfl
  have hg:Fd.it l i=l[i]:=it_at l i hk;have hoa:Fd.it o i=o[i]:=it_at o i hio;have hfa:=fa_at f i hi;have hda:=fa_at dn i hid;have hpi:=hp l[i] (List.getElem_mem hk);have m1:=mulb (x:=w) (y:=l[i]) (A:=1000000) (B:=100000000000) ⟨by omega,by omega⟩ ⟨by omega,by omega⟩
  have hwp:IntKind.i64.wrap (w*l[i])=w*l[i]:=i64in (by omega) (by omega)
  have he:P.elig m f dn o i=(!f[i]&&!dn[i]&&decide (o[i]<m)):=by simp[P.elig,hi,hid,hio]
  have hr:P.rem w s l i=(w*l[i]).tmod s:=by simp[P.rem,hk]
  have ih:=fun b v=>bs_loop n l f dn o t m w s g hl hp hf hdn ho hw h0 d (i+1) b v (by omega)
  unfold P.bst P.bsv;rw[he,hr];by_cases hb:f[i]=true
  ·rw[if_neg (by simp[hb]),if_neg (by simp[hb])]
   refine nextE Y43_ok noL [(decide ((↑i:Int)<(↑l.length:Int)),true),(decide ((↑i:Int)<(↑(List.map encB f).length:Int)),true),(decide (i<(List.map encB f).length),true),(fitP [TK.bool] 0 ((List.map encB f).getD i V.undef),true),(Fd.fa f i,true)] [2,0,3,4,5,6,6,6,6,6,0,0,0,0,0,0,0,0] {env:=[(0,V.sl n (List.map encI l)),(1,.int .i64 t),(2,.int .i64 m),(9,.int .i64 (↑l.length:Int)),(10,V.ex 1 false (List.map encB f)),(15,.int .i64 w),(16,.int .i64 s),(17,V.ex 1 false (List.map encI o)),(18,.int .i64 g),(20,V.ex 1 false (List.map encB dn)),(21,.int .i64 b),(22,.int .i64 v),(23,.int .i64 (IntKind.i64.wrap ((↑i:Int)+1)))],heap:=[]} (by kernel_rfl) ?_ (by rw[hwi];rfl) (ih b v)
   refine⟨?_,?_,?_,?_,?_,trivial⟩
   all_goals first|exact fitI _ _ (by omega)|exact fitB _ _ (by omega)|exact fitB' _ _ (by omega)|exact celB _ _ (by omega)|exact fitI' _ _ (by omega)|exact celI _ _ (by omega)|(simp only[hfa,hb];done)|(simp only[hda,hc];done)|(simp only[hoa];simp;omega)|(simp only[hg,hwp];simp;omega)|(simp;done)|(simp;omega)|done
  ·have hb:f[i]=false:=by simpa using hb
   by_cases hc:dn[i]=true
   ·rw[if_neg (by simp[hc]),if_neg (by simp[hc])]
    refine nextE Y43_ok noL [(decide ((↑i:Int)<(↑l.length:Int)),true),(decide ((↑i:Int)<(↑(List.map encB f).length:Int)),true),(decide (i<(List.map encB f).length),true),(fitP [TK.bool] 0 ((List.map encB f).getD i V.undef),true),(Fd.fa f i,false),(decide ((↑i:Int)<(↑(List.map encB dn).length:Int)),true),(decide (i<(List.map encB dn).length),true),(fitP [TK.bool] 0 ((List.map encB dn).getD i V.undef),true),(Fd.fa dn i,true)] [2,0,3,4,5,6,6,6,0,7,6,8,9,6,10,10,10,10,10,10,10,0] {env:=[(0,V.sl n (List.map encI l)),(1,.int .i64 t),(2,.int .i64 m),(9,.int .i64 (↑l.length:Int)),(10,V.ex 1 false (List.map encB f)),(15,.int .i64 w),(16,.int .i64 s),(17,V.ex 1 false (List.map encI o)),(18,.int .i64 g),(20,V.ex 1 false (List.map encB dn)),(21,.int .i64 b),(22,.int .i64 v),(23,.int .i64 (IntKind.i64.wrap ((↑i:Int)+1)))],heap:=[]} (by kernel_rfl) ?_ (by rw[hwi];rfl) (ih b v)
    refine⟨?_,?_,?_,?_,?_,?_,?_,?_,?_,trivial⟩
    all_goals first|exact fitI _ _ (by omega)|exact fitB _ _ (by omega)|exact fitB' _ _ (by omega)|exact celB _ _ (by omega)|exact fitI' _ _ (by omega)|exact celI _ _ (by omega)|(simp only[hfa,hb];done)|(simp only[hda,hc];done)|(simp only[hoa];simp;omega)|(simp only[hg,hwp];simp;omega)|(simp;done)|(simp;omega)|done
   ·have hc:dn[i]=false:=by simpa using hc
    by_cases hx:o[i]<m
    ·have hs0:0<s:=h0 i (by simp[hi,hb])
     by_cases hy:(w*l[i]).tmod s>v
     ·rw[if_pos (by simp[hb,hc,hx,hy]),if_pos (by simp[hb,hc,hx,hy])]
      refine nextE Y43_ok noL [(decide ((↑i:Int)<(↑l.length:Int)),true),(decide ((↑i:Int)<(↑(List.map encB f).length:Int)),true),(decide (i<(List.map encB f).length),true),(fitP [TK.bool] 0 ((List.map encB f).getD i V.undef),true),(Fd.fa f i,false),(decide ((↑i:Int)<(↑(List.map encB dn).length:Int)),true),(decide (i<(List.map encB dn).length),true),(fitP [TK.bool] 0 ((List.map encB dn).getD i V.undef),true),(Fd.fa dn i,false),(decide ((↑i:Int)<(↑(List.map encI o).length:Int)),true),(decide (i<(List.map encI o).length),true),(fitP [.int .i64] 0 ((List.map encI o).getD i V.undef),true),(decide (Fd.it o i≥m),false),(decide ((↑i:Int)<(↑(List.map encI l).length:Int)),true),(((List.map encI l).getD i V.undef).cells.length==1&&fitP [.int .i64] 0 ((List.map encI l).getD i V.undef),true),(!decide (s=0),true),(decide ((IntKind.i64.wrap (w*Fd.it l i)).tmod s>v),true)] [2,0,3,4,5,6,6,6,0,7,6,8,9,6,10,10,10,0,11,10,12,13,10,10,10,14,0,15,16,17,18] {env:=[(0,V.sl n (List.map encI l)),(1,.int .i64 t),(2,.int .i64 m),(9,.int .i64 (↑l.length:Int)),(10,V.ex 1 false (List.map encB f)),(15,.int .i64 w),(16,.int .i64 s),(17,V.ex 1 false (List.map encI o)),(18,.int .i64 g),(20,V.ex 1 false (List.map encB dn)),(21,.int .i64 (↑i:Int)),(22,.int .i64 ((IntKind.i64.wrap (w*Fd.it l i)).tmod s)),(23,.int .i64 (IntKind.i64.wrap ((↑i:Int)+1)))],heap:=[]} (by kernel_rfl) ?_ (by rw[hwi,hg,hwp];rfl) (ih i _)
      refine⟨?_,?_,?_,?_,?_,?_,?_,?_,?_,?_,?_,?_,?_,?_,?_,?_,?_,trivial⟩
      all_goals first|exact fitI _ _ (by omega)|exact fitB _ _ (by omega)|exact fitB' _ _ (by omega)|exact celB _ _ (by omega)|exact fitI' _ _ (by omega)|exact celI _ _ (by omega)|(simp only[hfa,hb];done)|(simp only[hda,hc];done)|(simp only[hoa];simp;omega)|(simp only[hg,hwp];simp;omega)|(simp;done)|(simp;omega)|done
     ·rw[if_neg (fun h=>hy h.2),if_neg (fun h=>hy h.2)]
      refine nextE Y43_ok noL [(decide ((↑i:Int)<(↑l.length:Int)),true),(decide ((↑i:Int)<(↑(List.map encB f).length:Int)),true),(decide (i<(List.map encB f).length),true),(fitP [TK.bool] 0 ((List.map encB f).getD i V.undef),true),(Fd.fa f i,false),(decide ((↑i:Int)<(↑(List.map encB dn).length:Int)),true),(decide (i<(List.map encB dn).length),true),(fitP [TK.bool] 0 ((List.map encB dn).getD i V.undef),true),(Fd.fa dn i,false),(decide ((↑i:Int)<(↑(List.map encI o).length:Int)),true),(decide (i<(List.map encI o).length),true),(fitP [.int .i64] 0 ((List.map encI o).getD i V.undef),true),(decide (Fd.it o i≥m),false),(decide ((↑i:Int)<(↑(List.map encI l).length:Int)),true),(((List.map encI l).getD i V.undef).cells.length==1&&fitP [.int .i64] 0 ((List.map encI l).getD i V.undef),true),(!decide (s=0),true),(decide ((IntKind.i64.wrap (w*Fd.it l i)).tmod s>v),false)] [2,0,3,4,5,6,6,6,0,7,6,8,9,6,10,10,10,0,11,10,12,13,10,10,10,14,0,15,16,17,18] {env:=[(0,V.sl n (List.map encI l)),(1,.int .i64 t),(2,.int .i64 m),(9,.int .i64 (↑l.length:Int)),(10,V.ex 1 false (List.map encB f)),(15,.int .i64 w),(16,.int .i64 s),(17,V.ex 1 false (List.map encI o)),(18,.int .i64 g),(20,V.ex 1 false (List.map encB dn)),(21,.int .i64 b),(22,.int .i64 v),(23,.int .i64 (IntKind.i64.wrap ((↑i:Int)+1)))],heap:=[]} (by kernel_rfl) ?_ (by rw[hwi];rfl) (ih b v)
      refine⟨?_,?_,?_,?_,?_,?_,?_,?_,?_,?_,?_,?_,?_,?_,?_,?_,?_,trivial⟩
      all_goals first|exact fitI _ _ (by omega)|exact fitB _ _ (by omega)|exact fitB' _ _ (by omega)|exact celB _ _ (by omega)|exact fitI' _ _ (by omega)|exact celI _ _ (by omega)|(simp only[hfa,hb];done)|(simp only[hda,hc];done)|(simp only[hoa];simp;omega)|(simp only[hg,hwp];simp;omega)|(simp;done)|(simp;omega)|done
    ·rw[if_neg (by simp[hx]),if_neg (by simp[hx])]
     refine nextE Y43_ok noL [(decide ((↑i:Int)<(↑l.length:Int)),true),(decide ((↑i:Int)<(↑(List.map encB f).length:Int)),true),(decide (i<(List.map encB f).length),true),(fitP [TK.bool] 0 ((List.map encB f).getD i V.undef),true),(Fd.fa f i,false),(decide ((↑i:Int)<(↑(List.map encB dn).length:Int)),true),(decide (i<(List.map encB dn).length),true),(fitP [TK.bool] 0 ((List.map encB dn).getD i V.undef),true),(Fd.fa dn i,false),(decide ((↑i:Int)<(↑(List.map encI o).length:Int)),true),(decide (i<(List.map encI o).length),true),(fitP [.int .i64] 0 ((List.map encI o).getD i V.undef),true),(decide (Fd.it o i≥m),true)] [2,0,3,4,5,6,6,6,0,7,6,8,9,6,10,10,10,0,11,10,12,13,10,10,10,14] {env:=[(0,V.sl n (List.map encI l)),(1,.int .i64 t),(2,.int .i64 m),(9,.int .i64 (↑l.length:Int)),(10,V.ex 1 false (List.map encB f)),(15,.int .i64 w),(16,.int .i64 s),(17,V.ex 1 false (List.map encI o)),(18,.int .i64 g),(20,V.ex 1 false (List.map encB dn)),(21,.int .i64 b),(22,.int .i64 v),(23,.int .i64 (IntKind.i64.wrap ((↑i:Int)+1)))],heap:=[]} (by kernel_rfl) ?_ (by rw[hwi];rfl) (ih b v)
     refine⟨?_,?_,?_,?_,?_,?_,?_,?_,?_,?_,?_,?_,?_,trivial⟩
     all_goals first|exact fitI _ _ (by omega)|exact fitB _ _ (by omega)|exact fitB' _ _ (by omega)|exact celB _ _ (by omega)|exact fitI' _ _ (by omega)|exact celI _ _ (by omega)|(simp only[hfa,hb];done)|(simp only[hda,hc];done)|(simp only[hoa];simp;omega)|(simp only[hg,hwp];simp;omega)|(simp;done)|(simp;omega)|done
theorem g_loop (n:Bool) (l:List Int) (f:List Bool) (t m w s:Int) (hl:l.length≤16) (hp:pwP l) (hf:f.length=l.length) (hw:0≤w∧w≤1000000) (hm:m≤1000000) (ht:t≤1000000) (h0:∀ i,f.getD i true=false→0<s) :
  ∀ (k:Nat) (dn:List Bool) (o:List Int) (g:Int),dn.length=l.length→o.length=l.length→0≤g→P.fine m w s l f k dn o (t-g) →
  ∃ dn' g',LRuns (vstep T (vlim T F) lplim fi12.cx 0 (lb fi12 4)) (gSt n l f dn o t m w s g) (.exit 8,⟨(gSt n l f dn' (P.giv m w s l f k dn o (t-g)) t m w s g').env++[(140,.bool false)],[]⟩):=by
 intro k
 induction k with
 | zero =>
  intro dn o g hdn ho hg hfi;have hle:t-g≤0:=hfi;refine⟨dn,g,?_⟩;rw[giv_none _ _ _ _ _ _ _ _ _ hle];refine lastE Y43_ok noL [(decide (g<t),false)] [2] (Ex.exit 8,{env:=[(0,V.sl n (List.map encI l)),(1,.int .i64 t),(2,.int .i64 m),(9,.int .i64 (↑l.length:Int)),(10,V.ex 1 false (List.map encB f)),(15,.int .i64 w),(16,.int .i64 s),(17,V.ex 1 false (List.map encI o)),(18,.int .i64 g),(20,V.ex 1 false (List.map encB dn)),(140,V.bool (decide (g<t)))],heap:=[]}) (by kernel_rfl) (by simp) ⟨by simp;omega,trivial⟩ (by rw[show decide (g<t)=false by simp;omega];rfl)
 | succ k ih =>
  intro dn o g hdn ho hg hfi;by_cases hle:t-g≤0
  ·refine⟨dn,g,?_⟩
   rw[giv_none _ _ _ _ _ _ _ _ _ hle];refine lastE Y43_ok noL [(decide (g<t),false)] [2] (Ex.exit 8,{env:=[(0,V.sl n (List.map encI l)),(1,.int .i64 t),(2,.int .i64 m),(9,.int .i64 (↑l.length:Int)),(10,V.ex 1 false (List.map encB f)),(15,.int .i64 w),(16,.int .i64 s),(17,V.ex 1 false (List.map encI o)),(18,.int .i64 g),(20,V.ex 1 false (List.map encB dn)),(140,V.bool (decide (g<t)))],heap:=[]}) (by kernel_rfl) (by simp) ⟨by simp;omega,trivial⟩ (by rw[show decide (g<t)=false by simp;omega];rfl)
  ·rcases hfi with h | ⟨j,hj,hjl,hj0,hjm,hfi⟩
   ·exact absurd h hle
   ·have hjo:j<o.length:=by omega
    have hjd:j<dn.length:=by omega
    have hgd:o.getD j 0=o[j]:=by simp[hjo]
    rw[hgd] at hj0 hjm hfi;have hoa:Fd.it o j=o[j]:=it_at o j hjo;have hq:=bs_loop n l f dn o t m w s g hl hp hf hdn ho hw h0 l.length 0 (-1) (-1) (by omega)
    rw[hj] at hq;have hwo:IntKind.i64.wrap (o[j]+1)=o[j]+1:=i64in (by omega) (by omega)
    have hwg:IntKind.i64.wrap (g+1)=g+1:=i64in (by omega) (by omega)
    rw[show t-g-1=t-(g+1) by omega] at hfi
    obtain⟨dn',g',ih⟩:=ih (dn.set j true) (o.set j (o[j]+1)) (g+1) (by simpa using hdn) (by simpa using ho) (by omega) hfi
    refine⟨dn',g',?_⟩;unfold P.giv;rw[if_pos (by omega),hj]
    simp only[Int.toNat_natCast];rw[hgd,show t-g-1=t-(g+1) by omega]
    generalize P.bsv m w s l f dn o 0 l.length (-1)=v at *;refine nextE Y43_ok (LGood.one (b:=lb fi12 5) (k:=37) (σ0:=bsSt n l f dn o t m w s g (-1) (-1) 0) (by kernel_rfl) (by exact hq)) [(decide (g<t),true),(is {env:=[(0,V.sl n (List.map encI l)),(1,.int .i64 t),(2,.int .i64 m),(9,.int .i64 (↑l.length:Int)),(10,V.ex 1 false (List.map encB f)),(15,.int .i64 w),(16,.int .i64 s),(17,V.ex 1 false (List.map encI o)),(18,.int .i64 g),(20,V.ex 1 false (List.map encB dn)),(21,.int .i64 (-1)),(22,.int .i64 (-1)),(23,.int .i64 0)],heap:=[]} {env:=[(0,V.sl n (List.map encI l)),(1,.int .i64 t),(2,.int .i64 m),(9,.int .i64 (↑l.length:Int)),(10,V.ex 1 false (List.map encB f)),(15,.int .i64 w),(16,.int .i64 s),(17,V.ex 1 false (List.map encI o)),(18,.int .i64 g),(20,V.ex 1 false (List.map encB dn)),(21,.int .i64 (-1)),(22,.int .i64 (-1)),(23,.int .i64 0)],heap:=[]},true),(decide ((↑j:Int)<(↑(List.map encI o).length:Int)),true),(decide (j<(List.map encI o).length),true),(fitP [.int .i64] 0 ((List.map encI o).getD j V.undef),true),(decide (1≤((List.map encI o).getD j V.undef).cells.length),true),(decide ((↑j:Int)<(↑(List.map encB dn).length:Int)),true),(decide (j<(List.map encB dn).length),true),(decide (1≤((List.map encB dn).getD j V.undef).cells.length),true)] [2,3,0,4,5,6,0,4,5,7,0,8,9,10] {env:=[(0,V.sl n (List.map encI l)),(1,.int .i64 t),(2,.int .i64 m),(9,.int .i64 (↑l.length:Int)),(10,V.ex 1 false (List.map encB f)),(15,.int .i64 w),(16,.int .i64 s),(17,V.ex 1 false (Fd.sv (List.map encI o) j (V.int IntKind.i64 (IntKind.i64.wrap (Fd.it o j+1))))),(18,.int .i64 (IntKind.i64.wrap (g+1))),(20,V.ex 1 false (Fd.sv (List.map encB dn) j (V.bool true)))],heap:=[]} (by kernel_rfl) ?_ (by rw[hoa,hwo,sv_I o j _ hjo,sv_B dn j hjd,hwg];rfl) ih
    refine⟨?_,?_,?_,?_,?_,?_,?_,?_,?_,trivial⟩
    all_goals first
     | exact fitI _ _ (by omega)
     | exact fitB _ _ (by omega)
     | exact fitB' _ _ (by omega)
     | exact celB _ _ (by omega)
     | exact fitI' _ _ (by omega)
     | exact celI _ _ (by omega)
     | exact is_eq rfl
     | (simp;done)
     | (simp;omega)
     | done
theorem ap_loops {n:Bool} {l:List Int} {t m:Int} {e0:Ex×St} {f0 f1:List Bool} {e1:Ex×St} {o0:List Int} {w s:Int} {e3:Ex×St} {o1:List Int} {dn:List Bool} {g:Int} {e4:Ex×St}
  (h0:LRuns (vstep T (vlim T F) lplim fi12.cx 0 (lb fi12 0)) (pSt n l t m 0) e0)
  (h1:LRuns (vstep T (vlim T F) lplim fi12.cx 0 (lb fi12 1)) (mSt n l f0 t m 0) e1)
  (h3:LRuns (vstep T (vlim T F) lplim fi12.cx 0 (lb fi12 3)) (oSt n l f1 o0 t m w s 0 0) e3)
  (h4:LRuns (vstep T (vlim T F) lplim fi12.cx 0 (lb fi12 4)) (gSt n l f1 dn o1 t m w s g) e4) :
  LGood T (vlim T F) lplim fi12.cx (loopsIs [(4,pSt n l t m 0,e0),(15,mSt n l f0 t m 0,e1),(27,oSt n l f1 o0 t m w s 0 0,e3),(34,gSt n l f1 dn o1 t m w s g,e4)]) fi12.body:=LGood.is fun b hb x hx hf=>by
 have hl:loopsOf fi12.body=[lb fi12 0,lb fi12 1,lb fi12 2,lb fi12 3,lb fi12 4,lb fi12 5]:=by kernel_rfl
 have r0:firstRegion (lb fi12 0)=4:=by kernel_rfl
 have r1:firstRegion (lb fi12 1)=15:=by kernel_rfl
 have r2:firstRegion (lb fi12 2)=19:=by kernel_rfl
 have r3:firstRegion (lb fi12 3)=27:=by kernel_rfl
 have r4:firstRegion (lb fi12 4)=34:=by kernel_rfl
 have r5:firstRegion (lb fi12 5)=37:=by kernel_rfl
 rw[hl] at hb;simp only[List.mem_cons,List.not_mem_nil,or_false] at hb hx;rcases hx with rfl | rfl | rfl | rfl<;>rcases hb with rfl | rfl | rfl | rfl | rfl | rfl<;>simp only[r0,r1,r2,r3,r4,r5] at hf<;>first | exact h0 | exact h1 | exact h3 | exact h4 | omega
theorem ap_loop1 {n:Bool} {l:List Int} {t m:Int} {e0:Ex×St} (h0:LRuns (vstep T (vlim T F) lplim fi12.cx 0 (lb fi12 0)) (pSt n l t m 0) e0):LGood T (vlim T F) lplim fi12.cx (loopsIs [(4,pSt n l t m 0,e0)]) fi12.body:=LGood.is fun b hb x hx hf=>by
 have hl:loopsOf fi12.body=[lb fi12 0,lb fi12 1,lb fi12 2,lb fi12 3,lb fi12 4,lb fi12 5]:=by kernel_rfl
 have r0:firstRegion (lb fi12 0)=4:=by kernel_rfl
 have r1:firstRegion (lb fi12 1)=15:=by kernel_rfl
 have r2:firstRegion (lb fi12 2)=19:=by kernel_rfl
 have r3:firstRegion (lb fi12 3)=27:=by kernel_rfl
 have r4:firstRegion (lb fi12 4)=34:=by kernel_rfl
 have r5:firstRegion (lb fi12 5)=37:=by kernel_rfl
 rw[hl] at hb;simp only[List.mem_cons,List.not_mem_nil,or_false] at hb hx;rcases hx with rfl<;>rcases hb with rfl | rfl | rfl | rfl | rfl | rfl<;>simp only[r0,r1,r2,r3,r4,r5] at hf<;>first | exact h0 | omega
theorem ap_bad (n:Bool) (l:List Int) (t m:Int) (hb:P.bad l t m≠0):Runs T F 12 [.sl n (l.map encI),.int .i64 t,.int .i64 m] [] (.tup [.ex 1 true [],.int .i64 (P.bad l t m)],[]):=by
 unfold P.bad at hb ⊢;by_cases h1:16<l.length
 ·rw[if_pos h1]
  refine wayE Y43_ok (fi:=fi12) (by kernel_rfl) noL [(decide ((↑(List.map encI l).length:Int)>16),true)] [2] (V.tup [V.ex 1 true [],.int .i64 2],[]) (by kernel_rfl) ?_ rfl
  refine⟨?_,trivial⟩
  all_goals first|exact is_eq rfl|exact isI_enc l|(simp;done)|(simp;omega)|(rw[hwm];simp;omega)|done
 ·rw[if_neg h1] at hb ⊢
  have h0:=p_loop n l t m (by omega) l.length 0 (by omega)
  rw[List.drop_zero] at h0;by_cases hp:P.pw l=true
  ·rw[hp] at h0
   have hL:=ap_loop1 h0;by_cases ht0:0≤t
   ·by_cases ht1:t≤1000000
    ·by_cases hm0:0≤m
     ·by_cases hm1:m≤1000000
      ·rw[if_pos ⟨hp,ht0,ht1,hm0,hm1⟩] at hb ⊢
       by_cases hw:m*l.length<t
       ·rw[if_pos hw]
        have m1:=mulb (x:=m) (y:=l.length) (A:=1000000) (B:=16) ⟨by omega,by omega⟩ ⟨by omega,by omega⟩
        have hwm:IntKind.i64.wrap (((l.map encI).length:Int)*m)=m*l.length:=by rw[List.length_map,Int.mul_comm,i64in (by omega) (by omega)]
        refine wayE Y43_ok (fi:=fi12) (by kernel_rfl) hL [(decide ((↑(List.map encI l).length:Int)>16),false),(is {env:=[(0,V.sl n (List.map encI l)),(1,.int .i64 t),(2,.int .i64 m),(8,.int .i64 0)],heap:=[]} {env:=[(0,V.sl n (List.map encI l)),(1,.int .i64 t),(2,.int .i64 m),(8,.int .i64 0)],heap:=[]},true),(decide (t≥0),true),(!decide (t≤1000000),false),(decide (m≥0),true),(!decide (m≤1000000),false),(decide (IntKind.i64.wrap ((↑(List.map encI l).length:Int)*m)<t),true)] [2,3,4,4,4,4,5,5,6,6,6,6,5,5,7,8] (V.tup [V.ex 1 true [],.int .i64 40],[]) (by kernel_rfl) ?_ rfl
        refine⟨?_,?_,?_,?_,?_,?_,?_,trivial⟩
        all_goals first|exact is_eq rfl|exact isI_enc l|(simp;done)|(simp;omega)|(rw[hwm];simp;omega)|done
       ·rw[if_neg hw] at hb;exact absurd rfl hb
      ·rw[if_neg (by omega)]
       refine wayE Y43_ok (fi:=fi12) (by kernel_rfl) hL [(decide ((↑(List.map encI l).length:Int)>16),false),(is {env:=[(0,V.sl n (List.map encI l)),(1,.int .i64 t),(2,.int .i64 m),(8,.int .i64 0)],heap:=[]} {env:=[(0,V.sl n (List.map encI l)),(1,.int .i64 t),(2,.int .i64 m),(8,.int .i64 0)],heap:=[]},true),(decide (t≥0),true),(!decide (t≤1000000),false),(decide (m≥0),true),(!decide (m≤1000000),true)] [2,3,4,4,4,4,5,5,6,6,6,6,5,5,7] (V.tup [V.ex 1 true [],.int .i64 6],[]) (by kernel_rfl) ?_ rfl
       refine⟨?_,?_,?_,?_,?_,?_,trivial⟩
       all_goals first|exact is_eq rfl|exact isI_enc l|(simp;done)|(simp;omega)|(rw[hwm];simp;omega)|done
     ·rw[if_neg (by omega)]
      refine wayE Y43_ok (fi:=fi12) (by kernel_rfl) hL [(decide ((↑(List.map encI l).length:Int)>16),false),(is {env:=[(0,V.sl n (List.map encI l)),(1,.int .i64 t),(2,.int .i64 m),(8,.int .i64 0)],heap:=[]} {env:=[(0,V.sl n (List.map encI l)),(1,.int .i64 t),(2,.int .i64 m),(8,.int .i64 0)],heap:=[]},true),(decide (t≥0),true),(!decide (t≤1000000),false),(decide (m≥0),false)] [2,3,4,4,4,4,5,5,6,6,6,6,5,5,0] (V.tup [V.ex 1 true [],.int .i64 6],[]) (by kernel_rfl) ?_ rfl
      refine⟨?_,?_,?_,?_,?_,trivial⟩
      all_goals first|exact is_eq rfl|exact isI_enc l|(simp;done)|(simp;omega)|(rw[hwm];simp;omega)|done
    ·rw[if_neg (by omega)]
     refine wayE Y43_ok (fi:=fi12) (by kernel_rfl) hL [(decide ((↑(List.map encI l).length:Int)>16),false),(is {env:=[(0,V.sl n (List.map encI l)),(1,.int .i64 t),(2,.int .i64 m),(8,.int .i64 0)],heap:=[]} {env:=[(0,V.sl n (List.map encI l)),(1,.int .i64 t),(2,.int .i64 m),(8,.int .i64 0)],heap:=[]},true),(decide (t≥0),true),(!decide (t≤1000000),true)] [2,3,4,4,4,4,5,5,5,5,0] (V.tup [V.ex 1 true [],.int .i64 6],[]) (by kernel_rfl) ?_ rfl
     refine⟨?_,?_,?_,?_,trivial⟩
     all_goals first|exact is_eq rfl|exact isI_enc l|(simp;done)|(simp;omega)|(rw[hwm];simp;omega)|done
   ·rw[if_neg (by omega)]
    refine wayE Y43_ok (fi:=fi12) (by kernel_rfl) hL [(decide ((↑(List.map encI l).length:Int)>16),false),(is {env:=[(0,V.sl n (List.map encI l)),(1,.int .i64 t),(2,.int .i64 m),(8,.int .i64 0)],heap:=[]} {env:=[(0,V.sl n (List.map encI l)),(1,.int .i64 t),(2,.int .i64 m),(8,.int .i64 0)],heap:=[]},true),(decide (t≥0),false)] [2,3,4,4,4,4,0,0,0,0,0] (V.tup [V.ex 1 true [],.int .i64 6],[]) (by kernel_rfl) ?_ rfl
    refine⟨?_,?_,?_,trivial⟩
    all_goals first|exact is_eq rfl|exact isI_enc l|(simp;done)|(simp;omega)|(rw[hwm];simp;omega)|done
  ·rw[if_neg (by simp[hp])]
   rw[show P.pw l=false by simpa using hp] at h0
   refine wayE Y43_ok (fi:=fi12) (by kernel_rfl) (ap_loop1 h0) [(decide ((↑(List.map encI l).length:Int)>16),false),(is {env:=[(0,V.sl n (List.map encI l)),(1,.int .i64 t),(2,.int .i64 m),(8,.int .i64 0)],heap:=[]} {env:=[(0,V.sl n (List.map encI l)),(1,.int .i64 t),(2,.int .i64 m),(8,.int .i64 0)],heap:=[]},true)] [2,3] (V.tup [V.ex 1 true [],.int .i64 6],[]) (by kernel_rfl) ?_ rfl
   refine⟨?_,?_,trivial⟩
   all_goals first|exact is_eq rfl|exact isI_enc l|(simp;done)|(simp;omega)|(rw[hwm];simp;omega)|done
theorem ap_good (n:Bool) (l:List Int) (t m:Int) (hl:l.length≤16) (hpw:P.pw l=true) (ht:0≤t∧t≤1000000) (hm:0≤m∧m≤1000000) (hw:t≤m*l.length) :
  Runs T F 12 [.sl n (l.map encI),.int .i64 t,.int .i64 m] [] (.tup [.ex 1 false ((P.app l t m).map encI),.int .i64 0],[]):=by
 have hp:=pw_iff.1 hpw;have m1:=mulb (x:=m) (y:=l.length) (A:=1000000) (B:=16) ⟨by omega,by omega⟩ ⟨by omega,by omega⟩
 have hwm:IntKind.i64.wrap (((l.map encI).length:Int)*m)=m*l.length:=by rw[List.length_map,Int.mul_comm,i64in (by omega) (by omega)]
 obtain⟨ra,rf⟩:=rapp_app l t m hp ht hm hl hw;rw[←ra];unfold P.rapp;unfold P.rfine at rf
 dsimp only at rf ⊢
 obtain⟨f0,hf0⟩:∃ f0,f0=List.replicate l.length false:=⟨_,rfl⟩;obtain⟨o0,ho0⟩:∃ o0:List Int,o0=List.replicate l.length 0:=⟨_,rfl⟩;have h0:=p_loop n l t m (by omega) l.length 0 (by omega)
 rw[List.drop_zero,hpw] at h0;have h1:=m_loop n l t m hl hp hm ht l.length 0 f0 (by omega) (by simp[hf0]) (by rw[hf0,cnt_none];omega)
 have hleft:=its_left (m:=m) (t0:=t) hp l.length f0 (by rw[hf0,cnt_none];omega)
 have hfl:(P.its m t l l.length f0).length=l.length:=by rw[its_length,hf0];simp
 obtain⟨dn,hdn⟩:∃ dn,dn=List.replicate l.length false:=⟨_,rfl⟩;rw[←hf0] at rf ⊢;generalize P.its m t l l.length f0=f at *;have hcf:=cnt_le f;have hmc:0≤m*P.cnt f:=Int.mul_nonneg hm.1 hcf.1;have hle:t-m*P.cnt f≤t:=by omega
 have hsm:=sm_le l f hp;have hz:∀ i,f.getD i true=false→0<P.sml l f:=by
  intro i hi;have hil:i<l.length:=by
   rcases Nat.lt_or_ge i f.length with h | h
   ·omega
   ·simp[h] at hi
  have:=sml_one l f i hil hp hi
  have:=hp l[i] (List.getElem_mem hil);omega
 have hto:=tot_ous (t-m*P.cnt f) (P.sml l f) m l f 0 hfl;generalize hw':t-m*P.cnt f=w at *;generalize hs':P.sml l f=s at *;have h3:=o_loop n l f t m w s hl hp hfl hm ⟨hleft,by omega⟩ hsm.1 hz l.length 0 o0 0 (by omega) (by simp[ho0]) (by omega) (by omega)
 simp only[List.drop_zero,List.take_zero,List.nil_append,Int.zero_add] at h3;have hol:(P.ous w s m l f).length=l.length:=ous_len2 hfl;have hg0:0≤P.tot (P.ous w s m l f):=by
  have:=ous_b (m:=m) ⟨hleft,by omega⟩ hm hsm.1 l f hp
  generalize P.ous w s m l f=o at *;clear rf h3 hto hol
  induction o with
  | nil=>simp[P.tot]
  | cons x o ih =>
   have h1:=this x (by simp)
   have h2:=ih (fun y hy=>this y (by simp[hy]))
   simp only[P.tot];omega
 obtain⟨dn1,g1,h4⟩:=g_loop n l f t m w s hl hp hfl ⟨hleft,by omega⟩ hm.2 ht.2 hz 16 dn (P.ous w s m l f) (P.tot (P.ous w s m l f)) (by simp[hdn]) hol hg0 (by
  rw[hto,show t-(m*P.cnt f+P.pts (P.shs w s 0 l f))=w-P.pts (P.shs w s 0 l f) by omega,hdn,←hf0];exact rf)
 rw[show w-P.pts (P.shs w s 0 l f)=t-P.tot (P.ous w s m l f) by omega]
 have hfd:f0=dn:=by rw[hf0,hdn]
 rw[show P.giv m w s l f 16 f0=P.giv m w s l f 16 dn by rw[hfd]]
 generalize P.giv m w s l f 16 dn (P.ous w s m l f) (t-P.tot (P.ous w s m l f))=o2 at *;generalize P.tot (P.ous w s m l f)=g at *;generalize P.ous w s m l f=o1 at *;have hr8:rooms (l.length:Int).toNat 8=true:=rooms_ok (by omega)
 refine wayE Y43_ok (fi:=fi12) (by kernel_rfl) (ap_loops h0 h1 h3 h4) [(decide ((↑(List.map encI l).length:Int)>16),false),(is {env:=[(0,V.sl n (List.map encI l)),(1,.int .i64 t),(2,.int .i64 m),(8,.int .i64 0)],heap:=[]} {env:=[(0,V.sl n (List.map encI l)),(1,.int .i64 t),(2,.int .i64 m),(8,.int .i64 0)],heap:=[]},true),(decide (t≥0),true),(!decide (t≤1000000),false),(decide (m≥0),true),(!decide (m≤1000000),false),(decide (IntKind.i64.wrap ((↑(List.map encI l).length:Int)*m)<t),false),(decide ((↑(List.map encI l).length:Int)≤(↑(List.map encI l).length:Int)),true),(rooms (↑(List.map encI l).length:Int).toNat 1,true),(decide ((↑(List.map encI l).length:Int).toNat<4611686018427387904),true),(is {env:=[(0,V.sl n (List.map encI l)),(1,.int .i64 t),(2,.int .i64 m),(9,.int .i64 (↑(List.map encI l).length:Int)),(10,V.ex 1 false (List.replicate (↑(List.map encI l).length:Int).toNat (V.bool false))),(11,.int .i64 0)],heap:=[]} {env:=[(0,V.sl n (List.map encI l)),(1,.int .i64 t),(2,.int .i64 m),(9,.int .i64 (↑l.length:Int)),(10,V.ex 1 false (List.map encB f0)),(11,.int .i64 0)],heap:=[]},true),((List.map encI l).all isI,true),((List.map encB (f)).all isB,true),(decide ((List.map encB (f)).length=(List.map encI l).length∧(List.map encI l).length≤16),true),(P.pw (List.map intOf (List.map encI l)),true),(decide (0≤m∧m≤1000000∧0≤t∧t≤1000000),true),(decide ((↑l.length:Int)≤(↑l.length:Int)),true),(rooms (↑l.length:Int).toNat 8,true),(decide ((↑l.length:Int).toNat<4611686018427387904),true),(is {env:=[(0,V.sl n (List.map encI l)),(1,.int .i64 t),(2,.int .i64 m),(9,.int .i64 (↑l.length:Int)),(10,V.ex 1 false (List.map encB (f))),(15,.int .i64 (t-m*P.cnt (List.map boolOf (List.map encB (f))))),(16,.int .i64 (P.sml (List.map intOf (List.map encI l)) (List.map boolOf (List.map encB (f))))),(17,V.ex 1 false (List.replicate (↑l.length:Int).toNat (V.int IntKind.i64 0))),(18,.int .i64 0),(19,.int .i64 0)],heap:=[]} {env:=[(0,V.sl n (List.map encI l)),(1,.int .i64 t),(2,.int .i64 m),(9,.int .i64 (↑l.length:Int)),(10,V.ex 1 false (List.map encB (f))),(15,.int .i64 w),(16,.int .i64 s),(17,V.ex 1 false (List.map encI o0)),(18,.int .i64 0),(19,.int .i64 0)],heap:=[]},true),(rooms (↑l.length:Int).toNat 1,true),(is {env:=[(0,V.sl n (List.map encI l)),(1,.int .i64 t),(2,.int .i64 m),(9,.int .i64 (↑l.length:Int)),(10,V.ex 1 false (List.map encB (f))),(15,.int .i64 w),(16,.int .i64 s),(17,V.ex 1 false (List.map encI o1)),(18,.int .i64 g),(20,V.ex 1 false (List.replicate (↑l.length:Int).toNat (V.bool false)))],heap:=[]} {env:=[(0,V.sl n (List.map encI l)),(1,.int .i64 t),(2,.int .i64 m),(9,.int .i64 (↑l.length:Int)),(10,V.ex 1 false (List.map encB (f))),(15,.int .i64 w),(16,.int .i64 s),(17,V.ex 1 false (List.map encI o1)),(18,.int .i64 g),(20,V.ex 1 false (List.map encB dn))],heap:=[]},true)] [2,3,4,4,4,4,5,5,6,6,6,6,5,5,7,8,0,9,10,11,12,13,14,15,16,17,0,0,18,19,20,21,0,18,22,20,23] (V.tup [V.ex 1 false (List.map encI o2),.int .i64 0],[]) (by kernel_rfl) ?_ rfl
 refine⟨?_,?_,?_,?_,?_,?_,?_,?_,?_,?_,?_,?_,?_,?_,?_,?_,?_,?_,?_,?_,?_,?_,trivial⟩
 all_goals first|exact isI_enc l|exact isB_enc _|exact is_eq rfl|(rw[hwm];simp;omega)|(refine is_eq ?_;simp[hf0,encB];done)|(rw[ints_enc];exact hpw)|(refine is_eq ?_;simp[hf0,encB,mSt];done)|(refine is_eq ?_;rw[ints_enc,bools_enc,←hw',←hs'];simp[ho0,encI];done)|(refine is_eq ?_;simp[hdn,encB];done)|exact hr8|(simp[rooms,maxRoom];omega)|(simp;done)|(simp;omega)|done
theorem rapS_ok:∀ a H r,(appS a H).run=some r→Runs T F 12 a H r:=by
 intro a H r h;unfold appS at h;split at h
 ·rename_i n xs t m
  obtain⟨h1,h⟩:=Tr.must_some h;obtain⟨h2,h⟩:=Tr.must_some h;have hr:=ret_some h;clear h;subst hr;have hx:=isI_all h1;generalize xs.map intOf=l at *;subst hx;by_cases hb:P.bad l t m=0
  ·obtain⟨g1,g2,g3,g4,g5⟩:=bad_ok hb
   simp only[P.outs,hb,if_true,decide_true,Bool.not_true];exact ap_good n l t m g1 g2 g3 g4 g5
  ·simp only[P.outs,hb,if_false,decide_false,Bool.not_false,List.map_nil]
   exact ap_bad n l t m hb
 ·cases h
noncomputable def Y12:Vm.Spec:=Y43.add 12 appS
theorem Y12_ok:Vm.Good (vlim T F) Y12:=Y43_ok.add rapS_ok
end Go.Proofs.Ytnijkhcmjpfjeaa
