/- S8: the reference apportions: the function. -/
import Derived.Test.YtnijkhcmjpfjeaaS7
namespace Go.Proofs.Ytnijkhcmjpfjeaa
open Go Go.Vm
def pSt (n:Bool) (l:List Int) (t m i:Int):St:=⟨[(0,V.sl n (List.map encI l)),(1,.int .i64 t),(2,.int .i64 m),(8,.int .i64 i)],[]⟩
def pEnd (n:Bool) (l:List Int) (t m:Int) (b:Bool):Ex×St:=if b=true then (.exit 0,⟨(pSt n l t m l.length).env++[(31,.bool false)],[]⟩) else (.ret,⟨[(6,.ex 1 true []),(7,.int .i64 6)],[]⟩)
theorem pw_cons (x:Int) (l:List Int):P.pw (x::l)=(decide (1≤x)&&decide (x≤100000000000)&&P.pw l):=rfl
theorem p_loop (n:Bool) (l:List Int) (t m:Int) (hl:l.length≤16):∀ (d i:Nat),i+d=l.length→LRuns (vstep T (vlim T F) lplim fi12.cx 0 (lb fi12 0)) (pSt n l t m i) (pEnd n l t m (P.pw (l.drop i)))
 | 0,i,hd=>by
  have hi:i=l.length:=by omega
  subst hi;rw[List.drop_length];refine lastE Y43_ok noL [(decide ((↑(l.length):Int)<(↑(List.map encI l).length:Int)),false)] [2] (Ex.exit 0,{env:=[(0,V.sl n (List.map encI l)),(1,.int .i64 t),(2,.int .i64 m),(8,.int .i64 (↑(l.length):Int)),(31,V.bool (decide ((↑(l.length):Int)<(↑(List.map encI l).length:Int))))],heap:=[]}) (by kernel_rfl) (by simp) ⟨by simp,trivial⟩ (by simp[pSt,P.pw,pEnd])
 | d+1,i,hd=>by
  have hk:i<l.length:=by omega
  have hwi:IntKind.i64.wrap ((i:Int)+1)=((i+1:Nat):Int):=by rw[i64in (by omega) (by omega)];rfl
  have hg:Fd.it l i=l[i]:=it_at l i hk;rw[List.drop_eq_getElem_cons hk];by_cases h1:l[i]≥1
  ·by_cases h2:l[i]≤100000000000
   ·rw[show P.pw (l[i]::l.drop (i+1))=P.pw (l.drop (i+1)) by rw[pw_cons];simp[show 1≤l[i] from h1,h2]]
    refine nextE Y43_ok noL [(decide ((↑i:Int)<(↑(List.map encI l).length:Int)),true),(decide ((↑i:Int)<(↑(List.map encI l).length:Int)),true),(((List.map encI l).getD i V.undef).cells.length==1&&fitP [.int .i64] 0 ((List.map encI l).getD i V.undef),true),(decide (Fd.it l i≥1),true),(!decide (Fd.it l i≤100000000000),false)] [2,0,3,4,5,5,5,5,6] {env:=[(0,V.sl n (List.map encI l)),(1,.int .i64 t),(2,.int .i64 m),(8,.int .i64 (IntKind.i64.wrap ((↑i:Int)+1)))],heap:=[]} (by kernel_rfl) ?_ (by rw[hwi];rfl) (p_loop n l t m hl d (i+1) (by omega))
    refine⟨?_,?_,?_,?_,?_,trivial⟩
    all_goals first|exact fitI _ _ (by omega)|exact fitB _ _ (by omega)|exact fitB' _ _ (by omega)|exact celB _ _ (by omega)|exact fitI' _ _ (by omega)|exact celI _ _ (by omega)|(simp only[hg];simp;omega)|(simp only[hfa,hb];simp;done)|(simp only[hwp,hmo,hg];simp;omega)|(simp;done)|(simp;omega)|done
   ·rw[show P.pw (l[i]::l.drop (i+1))=false by rw[pw_cons];simp[h2]]
    refine lastE Y43_ok noL [(decide ((↑i:Int)<(↑(List.map encI l).length:Int)),true),(decide ((↑i:Int)<(↑(List.map encI l).length:Int)),true),(((List.map encI l).getD i V.undef).cells.length==1&&fitP [.int .i64] 0 ((List.map encI l).getD i V.undef),true),(decide (Fd.it l i≥1),true),(!decide (Fd.it l i≤100000000000),true)] [2,0,3,4,5,5,5,5,6] (Ex.ret,{env:=[(6,V.ex 1 true []),(7,.int .i64 6)],heap:=[]}) (by kernel_rfl) (by simp) ?_ rfl
    refine⟨?_,?_,?_,?_,?_,trivial⟩
    all_goals first|exact fitI _ _ (by omega)|exact fitB _ _ (by omega)|exact fitB' _ _ (by omega)|exact celB _ _ (by omega)|exact fitI' _ _ (by omega)|exact celI _ _ (by omega)|(simp only[hg];simp;omega)|(simp only[hfa,hb];simp;done)|(simp only[hwp,hmo,hg];simp;omega)|(simp;done)|(simp;omega)|done
  ·rw[show P.pw (l[i]::l.drop (i+1))=false by rw[pw_cons];simp[show ¬1≤l[i] from h1]]
   refine lastE Y43_ok noL [(decide ((↑i:Int)<(↑(List.map encI l).length:Int)),true),(decide ((↑i:Int)<(↑(List.map encI l).length:Int)),true),(((List.map encI l).getD i V.undef).cells.length==1&&fitP [.int .i64] 0 ((List.map encI l).getD i V.undef),true),(decide (Fd.it l i≥1),false)] [2,0,3,4,5,5,5,5,0] (Ex.ret,{env:=[(6,V.ex 1 true []),(7,.int .i64 6)],heap:=[]}) (by kernel_rfl) (by simp) ?_ rfl
   refine⟨?_,?_,?_,?_,trivial⟩
   all_goals first|exact fitI _ _ (by omega)|exact fitB _ _ (by omega)|exact fitB' _ _ (by omega)|exact celB _ _ (by omega)|exact fitI' _ _ (by omega)|exact celI _ _ (by omega)|(simp only[hg];simp;omega)|(simp only[hfa,hb];simp;done)|(simp only[hwp,hmo,hg];simp;omega)|(simp;done)|(simp;omega)|done
def mSt (n:Bool) (l:List Int) (f:List Bool) (t m i:Int):St:=⟨[(0,V.sl n (List.map encI l)),(1,.int .i64 t),(2,.int .i64 m),(9,.int .i64 l.length),(10,V.ex 1 false (f.map encB)),(11,.int .i64 i)],[]⟩
def kSt (n:Bool) (l:List Int) (f:List Bool) (t m k w o i:Int):St:=⟨[(0,V.sl n (List.map encI l)),(1,.int .i64 t),(2,.int .i64 m),(9,.int .i64 l.length),(10,V.ex 1 false (List.map encB f)),(11,.int .i64 k),(12,.int .i64 w),(13,.int .i64 o),(14,.int .i64 i)],[]⟩
theorem k_loop (n:Bool) (l:List Int) (t m k w o:Int) (hl:l.length≤16) (hp:pwP l) (hm:0≤m∧m≤1000000) (hw:0≤w∧w≤1000000) (ho:0≤o∧o≤1600000000000):∀ (d i:Nat) (f:List Bool) (g:Bool),i+d=l.length→f.length=l.length →
  LRuns (vstep T (vlim T F) lplim fi12.cx 0 (lb fi12 2)) (kSt n l f t m k w o i) (.exit 4,⟨(kSt n l (P.stp m w o l i d f g).1 t m k w o l.length).env++[(72,.bool false)],[]⟩)
 | 0,i,f,g,hd,hf=>by
  have hi:i=l.length:=by omega
  subst hi;refine lastE Y43_ok noL [(decide ((↑(l.length):Int)<(↑l.length:Int)),false)] [2] (Ex.exit 4,{env:=[(0,V.sl n (List.map encI l)),(1,.int .i64 t),(2,.int .i64 m),(9,.int .i64 (↑l.length:Int)),(10,V.ex 1 false (List.map encB f)),(11,.int .i64 k),(12,.int .i64 w),(13,.int .i64 o),(14,.int .i64 (↑(l.length):Int)),(72,V.bool (decide ((↑(l.length):Int)<(↑l.length:Int))))],heap:=[]}) (by kernel_rfl) (by simp) ⟨by simp,trivial⟩ (by simp[kSt,P.stp])
 | d+1,i,f,g,hd,hf=>by
  have hk:i<l.length:=by omega
  have hi:i<f.length:=by omega
  have hwi:IntKind.i64.wrap ((i:Int)+1)=((i+1:Nat):Int):=by rw[i64in (by omega) (by omega)];rfl
  have hg:Fd.it l i=l[i]:=it_at l i hk;have hfa:=fa_at f i hi;have hpi:=hp l[i] (List.getElem_mem hk);have m1:=mulb (x:=w) (y:=l[i]) (A:=1000000) (B:=100000000000) ⟨by omega,by omega⟩ ⟨by omega,by omega⟩
  have m2:=mulb (x:=m) (y:=o) (A:=1000000) (B:=1600000000000) ⟨by omega,by omega⟩ ⟨by omega,by omega⟩
  have hwp:IntKind.i64.wrap (w*l[i])=w*l[i]:=i64in (by omega) (by omega)
  have hmo:IntKind.i64.wrap (m*o)=m*o:=i64in (by omega) (by omega)
  have ed:l.getD i 0=l[i]:=by simp[hk]
  have ef:f.getD i true=f[i]:=by simp[hi]
  unfold P.stp;rw[ed,ef];by_cases hb:f[i]=false
  ·by_cases hx:w*l[i] > m*o
   ·rw[if_pos ⟨hb,hx⟩]
    refine nextE Y43_ok noL [(decide ((↑i:Int)<(↑l.length:Int)),true),(decide ((↑i:Int)<(↑(List.map encB f).length:Int)),true),(decide (i<(List.map encB f).length),true),(fitP [TK.bool] 0 ((List.map encB f).getD i V.undef),true),(!Fd.fa f i,true),(decide ((↑i:Int)<(↑(List.map encI l).length:Int)),true),(((List.map encI l).getD i V.undef).cells.length==1&&fitP [.int .i64] 0 ((List.map encI l).getD i V.undef),true),(decide (IntKind.i64.wrap (w*Fd.it l i)>IntKind.i64.wrap (m*o)),true),(decide (1≤((List.map encB f).getD i V.undef).cells.length),true)] [2,0,3,4,5,6,6,6,6,0,7,8,6,6,6,6,6,6,6,9,0,3,4,10] {env:=[(0,V.sl n (List.map encI l)),(1,.int .i64 t),(2,.int .i64 m),(9,.int .i64 (↑l.length:Int)),(10,V.ex 1 false (Fd.sv (List.map encB f) i (V.bool true))),(11,.int .i64 k),(12,.int .i64 w),(13,.int .i64 o),(14,.int .i64 (IntKind.i64.wrap ((↑i:Int)+1)))],heap:=[]} (by kernel_rfl) ?_ (by rw[sv_B f i hi,hwi];rfl) (k_loop n l t m k w o hl hp hm hw ho d (i+1) (f.set i true) true (by omega) (by simpa using hf))
    refine⟨?_,?_,?_,?_,?_,?_,?_,?_,?_,trivial⟩
    all_goals first|exact fitI _ _ (by omega)|exact fitB _ _ (by omega)|exact fitB' _ _ (by omega)|exact celB _ _ (by omega)|exact fitI' _ _ (by omega)|exact celI _ _ (by omega)|(simp only[hg];simp;omega)|(simp only[hfa,hb];simp;done)|(simp only[hwp,hmo,hg];simp;omega)|(simp;done)|(simp;omega)|done
   ·rw[if_neg (by intro h;exact hx h.2)]
    refine nextE Y43_ok noL [(decide ((↑i:Int)<(↑l.length:Int)),true),(decide ((↑i:Int)<(↑(List.map encB f).length:Int)),true),(decide (i<(List.map encB f).length),true),(fitP [TK.bool] 0 ((List.map encB f).getD i V.undef),true),(!Fd.fa f i,true),(decide ((↑i:Int)<(↑(List.map encI l).length:Int)),true),(((List.map encI l).getD i V.undef).cells.length==1&&fitP [.int .i64] 0 ((List.map encI l).getD i V.undef),true),(decide (IntKind.i64.wrap (w*Fd.it l i)>IntKind.i64.wrap (m*o)),false)] [2,0,3,4,5,6,6,6,6,0,7,8,6,6,6,6,6,6,6,9] {env:=[(0,V.sl n (List.map encI l)),(1,.int .i64 t),(2,.int .i64 m),(9,.int .i64 (↑l.length:Int)),(10,V.ex 1 false (List.map encB f)),(11,.int .i64 k),(12,.int .i64 w),(13,.int .i64 o),(14,.int .i64 (IntKind.i64.wrap ((↑i:Int)+1)))],heap:=[]} (by kernel_rfl) ?_ (by rw[hwi];rfl) (k_loop n l t m k w o hl hp hm hw ho d (i+1) f g (by omega) hf)
    refine⟨?_,?_,?_,?_,?_,?_,?_,?_,trivial⟩
    all_goals first|exact fitI _ _ (by omega)|exact fitB _ _ (by omega)|exact fitB' _ _ (by omega)|exact celB _ _ (by omega)|exact fitI' _ _ (by omega)|exact celI _ _ (by omega)|(simp only[hg];simp;omega)|(simp only[hfa,hb];simp;done)|(simp only[hwp,hmo,hg];simp;omega)|(simp;done)|(simp;omega)|done
  ·rw[if_neg (by intro h;exact hb h.1)]
   have hb:f[i]=true:=by simpa using hb
   refine nextE Y43_ok noL [(decide ((↑i:Int)<(↑l.length:Int)),true),(decide ((↑i:Int)<(↑(List.map encB f).length:Int)),true),(decide (i<(List.map encB f).length),true),(fitP [TK.bool] 0 ((List.map encB f).getD i V.undef),true),(!Fd.fa f i,false)] [2,0,3,4,5,6,6,6,6,6,6,6,6,6,6,6,1] {env:=[(0,V.sl n (List.map encI l)),(1,.int .i64 t),(2,.int .i64 m),(9,.int .i64 (↑l.length:Int)),(10,V.ex 1 false (List.map encB f)),(11,.int .i64 k),(12,.int .i64 w),(13,.int .i64 o),(14,.int .i64 (IntKind.i64.wrap ((↑i:Int)+1)))],heap:=[]} (by kernel_rfl) ?_ (by rw[hwi];rfl) (k_loop n l t m k w o hl hp hm hw ho d (i+1) f g (by omega) hf)
   refine⟨?_,?_,?_,?_,?_,trivial⟩
   all_goals first|exact fitI _ _ (by omega)|exact fitB _ _ (by omega)|exact fitB' _ _ (by omega)|exact celB _ _ (by omega)|exact fitI' _ _ (by omega)|exact celI _ _ (by omega)|(simp only[hg];simp;omega)|(simp only[hfa,hb];simp;done)|(simp only[hwp,hmo,hg];simp;omega)|(simp;done)|(simp;omega)|done
theorem m_loop (n:Bool) (l:List Int) (t m:Int) (hl:l.length≤16) (hp:pwP l) (hm:0≤m∧m≤1000000) (ht:0≤t∧t≤1000000):∀ (d k:Nat) (f:List Bool),k+d=l.length→f.length=l.length→0≤t-m*P.cnt f →
  LRuns (vstep T (vlim T F) lplim fi12.cx 0 (lb fi12 1)) (mSt n l f t m k) (.exit 2,⟨(mSt n l (P.its m t l d f) t m l.length).env++[(59,.bool false)],[]⟩)
 | 0,k,f,hd,hf,h0=>by
  have hi:k=l.length:=by omega
  subst hi;refine lastE Y43_ok noL [(decide ((↑(l.length):Int)<(↑l.length:Int)),false)] [2] (Ex.exit 2,{env:=[(0,V.sl n (List.map encI l)),(1,.int .i64 t),(2,.int .i64 m),(9,.int .i64 (↑l.length:Int)),(10,V.ex 1 false (List.map encB f)),(11,.int .i64 (↑(l.length):Int)),(59,V.bool (decide ((↑(l.length):Int)<(↑l.length:Int))))],heap:=[]}) (by kernel_rfl) (by simp) ⟨by simp,trivial⟩ (by simp[mSt,P.its])
 | d+1,k,f,hd,hf,h0=>by
  have hwi:IntKind.i64.wrap ((k:Int)+1)=((k+1:Nat):Int):=by rw[i64in (by omega) (by omega)];rfl
  have c:=cnt_le f;have m4:=Int.mul_nonneg hm.1 c.1;have cs:=sm_le l f hp;have hq:=k_loop n l t m k (t-m*P.cnt f) (P.sml l f) hl hp hm ⟨by omega,by omega⟩ ⟨by omega,by omega⟩ l.length 0 f false (by omega) hf
  have ih:=m_loop n l t m hl hp hm ht d (k+1) (P.one m t l f) (by omega) ((stp_length ..).trans hf) (one_left hp h0)
  unfold P.its
  change LRuns _ _ (.exit 4,⟨(kSt n l (P.one m t l f) t m k _ _ _).env++_,[]⟩) at hq
  generalize P.one m t l f=f1 at *;refine nextE Y43_ok (LGood.one (b:=lb fi12 2) (k:=19) (σ0:=kSt n l f t m k (t-m*P.cnt f) (P.sml l f) 0) (by kernel_rfl) (by exact hq)) [(decide ((↑k:Int)<(↑l.length:Int)),true),((List.map encI l).all isI,true),((List.map encB f).all isB,true),(decide ((List.map encB f).length=(List.map encI l).length∧(List.map encI l).length≤16),true),(P.pw (List.map intOf (List.map encI l)),true),(decide (0≤m∧m≤1000000∧0≤t∧t≤1000000),true),(is {env:=[(0,V.sl n (List.map encI l)),(1,.int .i64 t),(2,.int .i64 m),(9,.int .i64 (↑l.length:Int)),(10,V.ex 1 false (List.map encB f)),(11,.int .i64 (↑k:Int)),(12,.int .i64 (t-m*P.cnt (List.map boolOf (List.map encB f)))),(13,.int .i64 (P.sml (List.map intOf (List.map encI l)) (List.map boolOf (List.map encB f)))),(14,.int .i64 0)],heap:=[]} {env:=[(0,V.sl n (List.map encI l)),(1,.int .i64 t),(2,.int .i64 m),(9,.int .i64 (↑l.length:Int)),(10,V.ex 1 false (List.map encB f)),(11,.int .i64 (↑k:Int)),(12,.int .i64 (t-m*P.cnt f)),(13,.int .i64 (P.sml l f)),(14,.int .i64 0)],heap:=[]},true)] [2,3,4,5,6,7,0,8] {env:=[(0,V.sl n (List.map encI l)),(1,.int .i64 t),(2,.int .i64 m),(9,.int .i64 (↑l.length:Int)),(10,V.ex 1 false (List.map encB f1)),(11,.int .i64 (IntKind.i64.wrap ((↑k:Int)+1)))],heap:=[]} (by kernel_rfl) ?_ (by rw[hwi];rfl) ih
  refine⟨?_,?_,?_,?_,?_,?_,?_,trivial⟩
  all_goals first
   | exact isI_enc _
   | exact isB_enc _
   | (rw[ints_enc];exact pw_iff.2 hp)
   | (refine is_eq ?_;rw[ints_enc,bools_enc];done)
   | (refine is_eq ?_;rw[ints_enc,bools_enc];rfl)
   | (simp;done)
   | (simp;omega)
   | done
def oSt (n:Bool) (l:List Int) (f:List Bool) (o:List Int) (t m w s g i:Int):St:=⟨[(0,V.sl n (List.map encI l)),(1,.int .i64 t),(2,.int .i64 m),(9,.int .i64 l.length),(10,V.ex 1 false (List.map encB f)),(15,.int .i64 w),(16,.int .i64 s),(17,V.ex 1 false (o.map encI)),(18,.int .i64 g),(19,.int .i64 i)],[]⟩
theorem o_loop (n:Bool) (l:List Int) (f:List Bool) (t m w s:Int) (hl:l.length≤16) (hp:pwP l) (hf:f.length=l.length) (hm:0≤m∧m≤1000000) (hw:0≤w∧w≤1000000) (hs:0≤s) (h0:∀ i,f.getD i true=false→0<s) :
  ∀ (d i:Nat) (o:List Int) (g:Int),i+d=l.length→o.length=l.length→0≤g→g≤100000000000000000*(i:Int) →
  LRuns (vstep T (vlim T F) lplim fi12.cx 0 (lb fi12 3)) (oSt n l f o t m w s g i) (.exit 6,⟨(oSt n l f (o.take i++P.ous w s m (l.drop i) (f.drop i)) t m w s (g+P.tot (P.ous w s m (l.drop i) (f.drop i))) l.length).env++[(107,.bool false)],[]⟩)
 | 0,i,o,g,hd,ho,h1,h2=>by
  have hi:i=l.length:=by omega
  subst hi;rw[List.drop_length,←ho,List.take_length,ho];refine lastE Y43_ok noL [(decide ((↑(l.length):Int)<(↑l.length:Int)),false)] [2] (Ex.exit 6,{env:=[(0,V.sl n (List.map encI l)),(1,.int .i64 t),(2,.int .i64 m),(9,.int .i64 (↑l.length:Int)),(10,V.ex 1 false (List.map encB f)),(15,.int .i64 w),(16,.int .i64 s),(17,V.ex 1 false (List.map encI o)),(18,.int .i64 g),(19,.int .i64 (↑(l.length):Int)),(107,V.bool (decide ((↑(l.length):Int)<(↑l.length:Int))))],heap:=[]}) (by kernel_rfl) (by simp) ⟨by simp,trivial⟩ (by simp[oSt,P.ous,P.tot])
 | d+1,i,o,g,hd,ho,h1,h2=>by
  have hk:i<l.length:=by omega
  have hi:i<f.length:=by omega
  have hio:i<o.length:=by omega
  have hwi:IntKind.i64.wrap ((i:Int)+1)=((i+1:Nat):Int):=by rw[i64in (by omega) (by omega)];rfl
  have hg:Fd.it l i=l[i]:=it_at l i hk;have hfa:=fa_at f i hi;have hpi:=hp l[i] (List.getElem_mem hk);have hsv:=fun v=>sv_I o i v hio
  rw[List.drop_eq_getElem_cons hk,List.drop_eq_getElem_cons hi];have ho1:Fd.it (o.set i m) i=m:=by rw[it_at _ i (by simpa using hio)];simp
  by_cases hb:f[i]=true
  ·have hwg:IntKind.i64.wrap (g+m)=g+m:=i64in (by omega) (by omega)
   have ih:=o_loop n l f t m w s hl hp hf hm hw hs h0 d (i+1) (o.set i m) (g+m) (by omega) (by simpa using ho) (by omega) (by omega)
   rw[take_set o _ i m hio] at ih;simp only[P.ous,P.tot,hb,if_true];rw[←Int.add_assoc];refine nextE Y43_ok noL [(decide ((↑i:Int)<(↑l.length:Int)),true),(decide ((↑i:Int)<(↑(List.map encI o).length:Int)),true),(decide (i<(List.map encI o).length),true),(decide (1≤((List.map encI o).getD i V.undef).cells.length),true),(decide ((↑i:Int)<(↑(List.map encB f).length:Int)),true),(decide (i<(List.map encB f).length),true),(fitP [TK.bool] 0 ((List.map encB f).getD i V.undef),true),(!Fd.fa f i,false),(decide ((↑i:Int)<(↑(Fd.sv (List.map encI o) i (V.int IntKind.i64 m)).length:Int)),true),(decide (i<(Fd.sv (List.map encI o) i (V.int IntKind.i64 m)).length),true),(fitP [.int .i64] 0 ((Fd.sv (List.map encI o) i (V.int IntKind.i64 m)).getD i V.undef),true)] [2,0,3,4,5,0,6,7,8,9,0,10,11,12] {env:=[(0,V.sl n (List.map encI l)),(1,.int .i64 t),(2,.int .i64 m),(9,.int .i64 (↑l.length:Int)),(10,V.ex 1 false (List.map encB f)),(15,.int .i64 w),(16,.int .i64 s),(17,V.ex 1 false (Fd.sv (List.map encI o) i (V.int IntKind.i64 m))),(18,.int .i64 (IntKind.i64.wrap (g+intOf (fld 0 ((Fd.sv (List.map encI o) i (V.int IntKind.i64 m)).getD i V.undef))))),(19,.int .i64 (IntKind.i64.wrap ((↑i:Int)+1)))],heap:=[]} (by kernel_rfl) ?_ (by rw[hsv];change (⟨_,_⟩:St)=_;rw[show (intOf (fld 0 (((o.set i m).map encI).getD i V.undef)))=m from ho1,hwg,hwi];rfl) ih
   refine⟨?_,?_,?_,?_,?_,?_,?_,?_,?_,?_,?_,trivial⟩
   all_goals first
    | exact fitI _ _ (by omega)
    | exact fitB _ _ (by omega)
    | exact fitB' _ _ (by omega)
    | exact fitI' _ _ (by omega)
    | exact celI _ _ (by omega)
    | (simp only[hfa,hb];simp;done)
    | (rw[hsv];exact fitI' _ _ (by simpa using hio))
    | (simp;done)
    | (simp;omega)
    | (simp only[hsv];simp;omega)
    | (simp[encI,V.cells,hio];done)
    | done
  ·have hb:f[i]=false:=by simpa using hb
   have hs0:0<s:=h0 i (by simp[hi,hb])
   have m1:=mulb (x:=w) (y:=l[i]) (A:=1000000) (B:=100000000000) ⟨by omega,by omega⟩ ⟨by omega,by omega⟩
   have m2:0≤w*l[i]:=Int.mul_nonneg hw.1 (by omega)
   have hwp:IntKind.i64.wrap (w*l[i])=w*l[i]:=i64in (by omega) (by omega)
   have v1:0≤(w*l[i]).tdiv s:=Int.tdiv_nonneg m2 (by omega)
   have v2:(w*l[i]).tdiv s≤w*l[i]:=Int.tdiv_le_self _ m2;have hwv:IntKind.i64.wrap ((w*l[i]).tdiv s)=(w*l[i]).tdiv s:=i64in (by omega) (by omega)
   have hwg:IntKind.i64.wrap (g+(w*l[i]).tdiv s)=g+(w*l[i]).tdiv s:=i64in (by omega) (by omega)
   have ih:=o_loop n l f t m w s hl hp hf hm hw hs h0 d (i+1) (o.set i ((w*l[i]).tdiv s)) (g+(w*l[i]).tdiv s) (by omega) (by simpa using ho) (by omega) (by omega)
   rw[take_set o _ i _ hio] at ih;simp only[P.ous,P.tot,hb,Bool.false_eq_true,if_false];rw[←Int.add_assoc];have hsw:∀ v,Fd.sv ((o.set i m).map encI) i (.int .i64 v)=(o.set i v).map encI:=fun v=>by rw[sv_I _ _ _ (by simpa using hio)];simp
   have ho2:∀ v,Fd.it (o.set i v) i=v:=fun v=>by rw[it_at _ i (by simpa using hio)];simp
   refine nextE Y43_ok noL [(decide ((↑i:Int)<(↑l.length:Int)),true),(decide ((↑i:Int)<(↑(List.map encI o).length:Int)),true),(decide (i<(List.map encI o).length),true),(decide (1≤((List.map encI o).getD i V.undef).cells.length),true),(decide ((↑i:Int)<(↑(List.map encB f).length:Int)),true),(decide (i<(List.map encB f).length),true),(fitP [TK.bool] 0 ((List.map encB f).getD i V.undef),true),(!Fd.fa f i,true),(decide ((↑i:Int)<(↑(List.map encI l).length:Int)),true),(((List.map encI l).getD i V.undef).cells.length==1&&fitP [.int .i64] 0 ((List.map encI l).getD i V.undef),true),(!decide (s=0),true),(decide ((↑i:Int)<(↑(Fd.sv (List.map encI o) i (V.int IntKind.i64 m)).length:Int)),true),(decide (i<(Fd.sv (List.map encI o) i (V.int IntKind.i64 m)).length),true),(decide (1≤((Fd.sv (List.map encI o) i (V.int IntKind.i64 m)).getD i V.undef).cells.length),true),(decide ((↑i:Int)<(↑(Fd.sv (Fd.sv (List.map encI o) i (V.int IntKind.i64 m)) i (V.int IntKind.i64 (IntKind.i64.wrap ((IntKind.i64.wrap (w*Fd.it l i)).tdiv s)))).length:Int)),true),(decide (i<(Fd.sv (Fd.sv (List.map encI o) i (V.int IntKind.i64 m)) i (V.int IntKind.i64 (IntKind.i64.wrap ((IntKind.i64.wrap (w*Fd.it l i)).tdiv s)))).length),true),(fitP [.int .i64] 0 ((Fd.sv (Fd.sv (List.map encI o) i (V.int IntKind.i64 m)) i (V.int IntKind.i64 (IntKind.i64.wrap ((IntKind.i64.wrap (w*Fd.it l i)).tdiv s)))).getD i V.undef),true)] [2,0,3,4,5,0,6,7,8,9,0,10,11,12,0,13,14,15,0,16,17,18] {env:=[(0,V.sl n (List.map encI l)),(1,.int .i64 t),(2,.int .i64 m),(9,.int .i64 (↑l.length:Int)),(10,V.ex 1 false (List.map encB f)),(15,.int .i64 w),(16,.int .i64 s),(17,V.ex 1 false (Fd.sv (Fd.sv (List.map encI o) i (V.int IntKind.i64 m)) i (V.int IntKind.i64 (IntKind.i64.wrap ((IntKind.i64.wrap (w*Fd.it l i)).tdiv s))))),(18,.int .i64 (IntKind.i64.wrap (g+intOf (fld 0 ((Fd.sv (Fd.sv (List.map encI o) i (V.int IntKind.i64 m)) i (V.int IntKind.i64 (IntKind.i64.wrap ((IntKind.i64.wrap (w*Fd.it l i)).tdiv s)))).getD i V.undef))))),(19,.int .i64 (IntKind.i64.wrap ((↑i:Int)+1)))],heap:=[]} (by kernel_rfl) ?_ (by rw[hsv,hsw,hg,hwp,hwv];change (⟨_,_⟩:St)=_;rw[show (intOf (fld 0 (((o.set i ((w*l[i]).tdiv s)).map encI).getD i V.undef)))=_ from ho2 _,hwg,hwi];rfl) ih
   refine⟨?_,?_,?_,?_,?_,?_,?_,?_,?_,?_,?_,?_,?_,?_,?_,?_,?_,trivial⟩
   all_goals first
    | exact fitI _ _ (by omega)
    | exact fitB _ _ (by omega)
    | exact fitB' _ _ (by omega)
    | exact fitI' _ _ (by omega)
    | exact celI _ _ (by omega)
    | (simp only[hfa,hb];simp;done)
    | (rw[hsv,hsw];exact fitI' _ _ (by simpa using hio))
    | (simp;done)
    | (simp;omega)
    | (simp only[hsv,hsw];simp;omega)
    | (simp[encI,V.cells,hio];done)
    | (rw[hsv];simp[encI,V.cells,hio];done)
    | done
end Go.Proofs.Ytnijkhcmjpfjeaa
