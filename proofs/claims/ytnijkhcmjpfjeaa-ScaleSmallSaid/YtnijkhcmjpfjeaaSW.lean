/- SW: the law ScaleSmall: its loops. -/
import Derived.Test.YtnijkhcmjpfjeaaSC
import Derived.Test.YtnijkhcmjpfjeaaDJ
namespace Go.Proofs.Ytnijkhcmjpfjeaa
open Go Go.Vm
def shS:List V→Heap→Tr (V×Heap):=fun a H=>match a,H with
 | [.sl _ xs,.int .i64 _,.int .i64 _,.agg [.int .i64 _,.int .i64 _,.int .i64 _,.int .i64 _]],[]=>.must (xs.all isI) (.must (decide (xs.length<2 ^ 40)) (.ret (.bool true,[])))
 | _,_=>.fail
noncomputable def X3:Vm.Spec:=(((((U19.add 12 appS).add 9 awakeS).add 3 shS).add 28 newS).add 19 takeR).add 26 exrS
theorem shS_ok:∀ a H r,(shS a H).run=some r→Runs T F 3 a H r:=by
 intro a H r h;unfold shS at h;split at h
 ·rename_i z xs t m a b c d
  obtain⟨h1,g⟩:=Tr.must_some h;obtain⟨h2,g'⟩:=Tr.must_some g;have hr:=ret_some g';clear h g g';subst hr;rw[isI_all h1];simp only[decide_eq_true_eq] at h2;exact shares_runs z (xs.map intOf) t m a b c d
 ·cases h
theorem X3_ok:Vm.Good (vlim T F) X3:=(((((U19_ok.add rapS_ok).add awakeS_ok).add shS_ok).add newS_ok).add takeR_ok).add exrS_ok
theorem LRuns.eval {cx:Cx} {n:Nat} {b:Code} {σ:St} {r:Ex×St} (k m:Nat) (h:rounds (vstep T (sq (vcall T F k)) (fun s=>rounds s k) cx n b) m σ=some r):LRuns (vstep T (vlim T F) lplim cx n b) σ r:=by
 refine⟨m,rounds_le (fun τ s hs=>?_) (Nat.le_refl m) h⟩
 unfold vstep at hs ⊢;cases hv:vcode T (sq (vcall T F k)) (fun s=>rounds s k) cx b τ with
 | none=>rw[hv] at hs;cases hs
 | some x =>
  obtain⟨k0,hk⟩:=ev_code (T:=T) (cx:=cx) (calls:=fun _=>vlim T F) (lps:=fun _=>lplim) (fun f a H r h=>.all fun _=>sq_mono (fun f a H r h=>vlim_iff.2 ⟨k,h⟩) h) (fun step steps hs σ r h=>by
    obtain⟨k1,h1⟩:=ev_rounds hs k σ r h;exact⟨k1,fun j hj=>lplim_iff.2 ⟨k,h1 j hj k (Nat.le_refl _)⟩⟩) b τ x hv
  rw[show vcode T (vlim T F) lplim cx b τ=some x from hk k0 (Nat.le_refl _)];rw[hv] at hs;exact hs
def Fd.pl (n:Int):List V:=List.take (3-(n.tmod 2).toNat) (List.drop (n.tmod 2).toNat [.int .i64 (n.tmod 7),.int .i64 ((IntKind.i64.wrap (n.tdiv 7)).tmod 7),.int .i64 (IntKind.i64.wrap (n.tdiv 49))])
def w0S (n:Int):St:=⟨[(1,.int .i64 n)],[]⟩
def w1S (n t:Int):St:=⟨[(1,.int .i64 n),(2,.int .i64 t)],[]⟩
def w2S (n t m:Int):St:=⟨[(1,.int .i64 n),(2,.int .i64 t),(3,.int .i64 m)],[]⟩
def w0E:Ex×St:=(.exit 0,⟨(w0S 343).env++[(44,.bool false)],[]⟩)
def w1E (n:Int):Ex×St:=(.exit 2,⟨(w1S n 12).env++[(48,.bool false)],[]⟩)
def w2E (n t:Int):Ex×St:=(.exit 4,⟨(w2S n t 8).env++[(52,.bool false)],[]⟩)
def Fd.lsV:List V:=[V.sl false [.int .i64 100000000000,.int .i64 1],V.sl false [.int .i64 100000000000,.int .i64 100000000000,.int .i64 100000000000],V.sl false [.int .i64 100000000001],V.sl false [.int .i64 0],V.sl false [.int .i64 100000000000,.int .i64 1,.int .i64 1,.int .i64 1,.int .i64 1,.int .i64 1,.int .i64 1,.int .i64 1,.int .i64 1,.int .i64 1,.int .i64 1,.int .i64 1,.int .i64 1,.int .i64 1,.int .i64 1,.int .i64 100000000000],V.sl false [.int .i64 0,.int .i64 0,.int .i64 0,.int .i64 0,.int .i64 0,.int .i64 0,.int .i64 0,.int .i64 0,.int .i64 0,.int .i64 0,.int .i64 0,.int .i64 0,.int .i64 0,.int .i64 0,.int .i64 0,.int .i64 0,.int .i64 0]]
def Fd.tV:List V:=[.int .i64 0,.int .i64 1,.int .i64 1000000,.int .i64 1000001,.int .i64 (-1)]
def Fd.mV:List V:=[.int .i64 0,.int .i64 1,.int .i64 62500,.int .i64 500000,.int .i64 1000000,.int .i64 1000001,.int .i64 (-1)]
def w3S (i:Int):St:=⟨[(106,.ex 1 false Fd.lsV),(107,.int .i64 6),(108,.int .i64 i)],[]⟩
def w3E:Ex×St:=(.exit 6,⟨(w3S 6).env++[(109,.bool false)],[]⟩)
def w4S (l:List Int) (i k:Int):St:=⟨[(11,.sl false (l.map encI)),(106,.ex 1 false Fd.lsV),(107,.int .i64 6),(108,.int .i64 i),(112,.ex 1 false Fd.tV),(113,.int .i64 5),(114,.int .i64 k)],[]⟩
def w4E (l:List Int) (i:Int):Ex×St:=(.exit 8,⟨(w4S l i 5).env++[(115,.bool false)],[]⟩)
def w5S (l:List Int) (i k t j:Int):St:=⟨[(11,.sl false (l.map encI)),(13,.int .i64 t),(106,.ex 1 false Fd.lsV),(107,.int .i64 6),(108,.int .i64 i),(112,.ex 1 false Fd.tV),(113,.int .i64 5),(114,.int .i64 k),(118,.ex 1 false Fd.mV),(119,.int .i64 7),(120,.int .i64 j)],[]⟩
def w5E (l:List Int) (i k t:Int):Ex×St:=(.exit 10,⟨(w5S l i k t 7).env++[(121,.bool false)],[]⟩)
def Fd.tk (k:Nat):Int:=intOf (fld 0 (Fd.tV.getD k V.undef))
theorem pl_isI (n:Int):(Fd.pl n).all isI=true∧(Fd.pl n).length≤3:=by
 refine⟨?_,by unfold Fd.pl;rw[List.length_take];omega⟩
 rw[List.all_eq_true];intro x hx;have:=List.mem_of_mem_drop (List.mem_of_mem_take hx)
 simp only[List.mem_cons,List.not_mem_nil,or_false] at this;rcases this with rfl | rfl | rfl<;>rfl
theorem w2_loop (n t:Int) (hn:0≤n∧n<343):∀ (d:Nat) (m:Int),m+d=8→0≤m→LRuns (vstep T (vlim T F) lplim fi8.cx 0 (lb fi8 2)) (w2S n t m) (w2E n t)
 | 0,m,hd,h0=>by
  have hm:m=8:=by omega
  subst hm;exact lastE X3_ok noL [(decide ((8)<8),false)] [2] (Ex.exit 4,{env:=[(1,.int .i64 n),(2,.int .i64 t),(3,.int .i64 (8)),(52,V.bool (decide ((8)<8)))],heap:=[]}) (by kernel_rfl) (by simp) ⟨by simp,trivial⟩ (by simp[w2S,w2E])
 | d+1,m,hd,h0=>by
  obtain⟨p1,p2⟩:=pl_isI n;have hol:=outs_length (List.map intOf (Fd.pl n)) t m;have ht0:0≤n.tmod 2:=Int.tmod_nonneg 2 hn.1;have ht1:n.tmod 2<2:=Int.tmod_lt_of_pos n (by omega)
  refine nextE X3_ok noL [(decide (m<8),true),(decide (0≤n.tmod 2),true),(decide (n.tmod 2≤3),true),((Fd.pl n).all isI,true),(decide ((Fd.pl n).length<4611686018427387904),true),(P.bad (List.map intOf (Fd.pl n)) t m != P.bad (List.map intOf (Fd.pl n)) t m,false),((List.map encI (P.outs (List.map intOf (Fd.pl n)) t m)).all isI,true),(decide ((List.map encI (P.outs (List.map intOf (Fd.pl n)) t m)).length<4611686018427387904),true),(!P.sm (List.map intOf (List.map encI (P.outs (List.map intOf (Fd.pl n)) t m))) (List.map intOf (List.map encI (P.outs (List.map intOf (Fd.pl n)) t m))),false)] [2,0,0,0,0,0,3,4,0,0,5,6,0,3,4,0,0,5,6,7,7,7,8,8,9,7,7,10] {env:=[(1,.int .i64 n),(2,.int .i64 t),(3,.int .i64 (IntKind.i64.wrap (m+1)))],heap:=[]} (by kernel_rfl) ?_ (by rw[i64in (by omega) (by omega)];rfl) (w2_loop n t hn d (m+1) (by omega) (by omega))
  refine⟨?_,?_,?_,?_,?_,?_,?_,?_,?_,trivial⟩
  all_goals first
   | exact decide_eq_true (by omega)
   | exact p1
   | exact isI_enc _
   | (rw[List.length_map];exact decide_eq_true (by omega))
   | (simp[P.sm];done)
   | done
theorem lb8_1:loopsOf (lb fi8 1)=[lb fi8 2]:=by kernel_rfl
theorem lb8_0:loopsOf (lb fi8 0)=[lb fi8 1,lb fi8 2]:=by kernel_rfl
theorem w1_loop (n:Int) (hn:0≤n∧n<343):∀ (d:Nat) (t:Int),t+d=12→0≤t→LRuns (vstep T (vlim T F) lplim fi8.cx 0 (lb fi8 1)) (w1S n t) (w1E n)
 | 0,t,hd,h0=>by
  have hm:t=12:=by omega
  subst hm;exact lastE X3_ok noL [(decide ((12)<12),false)] [2] (Ex.exit 2,{env:=[(1,.int .i64 n),(2,.int .i64 (12)),(48,V.bool (decide ((12)<12)))],heap:=[]}) (by kernel_rfl) (by simp) ⟨by simp,trivial⟩ (by simp[w1S,w1E])
 | d+1,t,hd,h0=>by
  refine nextE X3_ok (LGood.one (b:=lb fi8 2) (k:=8) (σ0:=w2S n t 0) lb8_1 (by exact w2_loop n t hn 8 0 (by omega) (by omega))) [(decide (t<12),true),(is {env:=[(1,.int .i64 n),(2,.int .i64 t),(3,.int .i64 0)],heap:=[]} {env:=[(1,.int .i64 n),(2,.int .i64 t),(3,.int .i64 0)],heap:=[]},true)] [2,3] {env:=[(1,.int .i64 n),(2,.int .i64 (IntKind.i64.wrap (t+1)))],heap:=[]} (by kernel_rfl) ?_ (by rw[i64in (by omega) (by omega)];rfl) (w1_loop n hn d (t+1) (by omega) (by omega))
  exact⟨decide_eq_true (by omega),is_eq rfl,trivial⟩
theorem w0_loop:∀ (d:Nat) (n:Int),n+d=343→0≤n→LRuns (vstep T (vlim T F) lplim fi8.cx 0 (lb fi8 0)) (w0S n) w0E
 | 0,n,hd,h0=>by
  have hm:n=343:=by omega
  subst hm;exact lastE X3_ok noL [(decide ((343)<343),false)] [2] (Ex.exit 0,{env:=[(1,.int .i64 (343)),(44,V.bool (decide ((343)<343)))],heap:=[]}) (by kernel_rfl) (by simp) ⟨by simp,trivial⟩ (by simp[w0S,w0E])
 | d+1,n,hd,h0=>by
  refine nextE X3_ok (lg_fst (b0:=lb fi8 1) (b1:=lb fi8 2) (k0:=5) (σ0:=w1S n 0) lb8_0 (by kernel_rfl) (by exact w1_loop n ⟨h0,by omega⟩ 12 0 (by omega) (by omega))) [(decide (n<343),true),(is {env:=[(1,.int .i64 n),(2,.int .i64 0)],heap:=[]} {env:=[(1,.int .i64 n),(2,.int .i64 0)],heap:=[]},true)] [2,3] {env:=[(1,.int .i64 (IntKind.i64.wrap (n+1)))],heap:=[]} (by kernel_rfl) ?_ (by rw[i64in (by omega) (by omega)];rfl) (w0_loop d (n+1) (by omega) (by omega))
  exact⟨decide_eq_true (by omega),is_eq rfl,trivial⟩
theorem w5_loop (l:List Int) (hl:l.length<2 ^ 40) (i k t:Int):∀ (d j:Nat),j+d=7→LRuns (vstep T (vlim T F) lplim fi8.cx 0 (lb fi8 5)) (w5S l i k t j) (w5E l i k t)
 | 0,j,hd=>by
  have hm:j=7:=by omega
  subst hm;exact lastE X3_ok noL [(decide ((↑(7):Int)<7),false)] [2] (Ex.exit 10,{env:=[(11,V.sl false (List.map encI l)),(13,.int .i64 t),(106,V.ex 1 false Fd.lsV),(107,.int .i64 6),(108,.int .i64 i),(112,V.ex 1 false Fd.tV),(113,.int .i64 5),(114,.int .i64 k),(118,V.ex 1 false Fd.mV),(119,.int .i64 7),(120,.int .i64 (↑(7):Int)),(121,V.bool (decide ((↑(7):Int)<7)))],heap:=[]}) (by kernel_rfl) (by simp) ⟨by simp,trivial⟩ (by simp[w5S,w5E])
 | d+1,j,hd=>by
  have hj:j<7:=by omega
  have hf:fitP [.int .i64] 0 (Fd.mV.getD j V.undef)=true:=by
   have:∀ j:Nat,j<7→fitP [.int .i64] 0 (Fd.mV.getD j V.undef)=true:=by decide
   exact this j hj
  refine nextE X3_ok noL [(decide ((↑j:Int)<7),true),(decide (j<7),true),(fitP [.int .i64] 0 (Fd.mV.getD j V.undef),true),((List.map encI l).all isI,true),(decide ((List.map encI l).length<1099511627776),true)] [2,0,2,3,4,5,6,1] {env:=[(11,V.sl false (List.map encI l)),(13,.int .i64 t),(106,V.ex 1 false Fd.lsV),(107,.int .i64 6),(108,.int .i64 i),(112,V.ex 1 false Fd.tV),(113,.int .i64 5),(114,.int .i64 k),(118,V.ex 1 false Fd.mV),(119,.int .i64 7),(120,.int .i64 (IntKind.i64.wrap ((↑j:Int)+1)))],heap:=[]} (by kernel_rfl) ?_ (by rw[i64in (by omega) (by omega)];rfl) (w5_loop l hl i k t d (j+1) (by omega))
  exact⟨decide_eq_true (by omega),decide_eq_true hj,hf,isI_enc _,by rw[List.length_map];exact decide_eq_true hl,trivial⟩
theorem lb8_4:loopsOf (lb fi8 4)=[lb fi8 5]:=by kernel_rfl
theorem lb8_3:loopsOf (lb fi8 3)=[lb fi8 4,lb fi8 5]:=by kernel_rfl
theorem w4_loop (l:List Int) (hl:l.length<2 ^ 40) (i:Int):∀ (d k:Nat),k+d=5→LRuns (vstep T (vlim T F) lplim fi8.cx 0 (lb fi8 4)) (w4S l i k) (w4E l i)
 | 0,k,hd=>by
  have hm:k=5:=by omega
  subst hm;exact lastE X3_ok noL [(decide ((↑(5):Int)<5),false)] [2] (Ex.exit 8,{env:=[(11,V.sl false (List.map encI l)),(106,V.ex 1 false Fd.lsV),(107,.int .i64 6),(108,.int .i64 i),(112,V.ex 1 false Fd.tV),(113,.int .i64 5),(114,.int .i64 (↑(5):Int)),(115,V.bool (decide ((↑(5):Int)<5)))],heap:=[]}) (by kernel_rfl) (by simp) ⟨by simp,trivial⟩ (by simp[w4S,w4E])
 | d+1,k,hd=>by
  have hj:k<5:=by omega
  have hf:fitP [.int .i64] 0 (Fd.tV.getD k V.undef)=true:=by
   have:∀ j:Nat,j<5→fitP [.int .i64] 0 (Fd.tV.getD j V.undef)=true:=by decide
   exact this k hj
  refine nextE X3_ok (LGood.one (b:=lb fi8 5) (k:=23) (σ0:=w5S l i k (Fd.tk k) 0) lb8_4 (by exact w5_loop l hl i k (Fd.tk k) 7 0 (by omega))) [(decide ((↑k:Int)<5),true),(decide (k<5),true),(fitP [.int .i64] 0 (Fd.tV.getD k V.undef),true),(is {env:=[(11,V.sl false (List.map encI l)),(13,.int .i64 (Fd.tk k)),(106,V.ex 1 false Fd.lsV),(107,.int .i64 6),(108,.int .i64 i),(112,V.ex 1 false Fd.tV),(113,.int .i64 5),(114,.int .i64 (↑k:Int)),(118,V.ex 1 false Fd.mV),(119,.int .i64 7),(120,.int .i64 0)],heap:=[]} {env:=[(11,V.sl false (List.map encI l)),(13,.int .i64 (Fd.tk k)),(106,V.ex 1 false Fd.lsV),(107,.int .i64 6),(108,.int .i64 i),(112,V.ex 1 false Fd.tV),(113,.int .i64 5),(114,.int .i64 (↑k:Int)),(118,V.ex 1 false Fd.mV),(119,.int .i64 7),(120,.int .i64 0)],heap:=[]},true)] [2,0,2,3,4,5] {env:=[(11,V.sl false (List.map encI l)),(106,V.ex 1 false Fd.lsV),(107,.int .i64 6),(108,.int .i64 i),(112,V.ex 1 false Fd.tV),(113,.int .i64 5),(114,.int .i64 (IntKind.i64.wrap ((↑k:Int)+1)))],heap:=[]} (by kernel_rfl) ?_ (by rw[i64in (by omega) (by omega)];rfl) (w4_loop l hl i d (k+1) (by omega))
  exact⟨decide_eq_true (by omega),decide_eq_true hj,hf,is_eq rfl,trivial⟩
theorem w3_step (l:List Int) (hl:l.length<2 ^ 40) (i:Int):LGood T (vlim T F) lplim fi8.cx (loopsIs [(20,w4S l i 0,w4E l i)]) (lb fi8 3):=lg_fst (b0:=lb fi8 4) (b1:=lb fi8 5) (k0:=20) (σ0:=w4S l i 0) lb8_3 (by kernel_rfl) (by exact w4_loop l hl i 5 0 (by omega))
theorem w3_loop:LRuns (vstep T (vlim T F) lplim fi8.cx 0 (lb fi8 3)) (w3S 0) w3E:=by
 refine nextE X3_ok (w3_step [100000000000,1] (by simp) 0) [(is {env:=[(11,V.sl false [.int .i64 100000000000,.int .i64 1]),(106,V.ex 1 false Fd.lsV),(107,.int .i64 6),(108,.int .i64 0),(112,V.ex 1 false Fd.tV),(113,.int .i64 5),(114,.int .i64 0)],heap:=[]} {env:=[(11,V.sl false [.int .i64 100000000000,.int .i64 1]),(106,V.ex 1 false Fd.lsV),(107,.int .i64 6),(108,.int .i64 0),(112,V.ex 1 false Fd.tV),(113,.int .i64 5),(114,.int .i64 0)],heap:=[]},true)] [0,0,0,0,0,2] {env:=[(106,V.ex 1 false Fd.lsV),(107,.int .i64 6),(108,.int .i64 1)],heap:=[]} (by kernel_rfl) ⟨is_eq rfl,trivial⟩ (τ':=w3S 1) rfl ?_
 refine nextE X3_ok (w3_step [100000000000,100000000000,100000000000] (by simp) 1) [(is {env:=[(11,V.sl false [.int .i64 100000000000,.int .i64 100000000000,.int .i64 100000000000]),(106,V.ex 1 false Fd.lsV),(107,.int .i64 6),(108,.int .i64 1),(112,V.ex 1 false Fd.tV),(113,.int .i64 5),(114,.int .i64 0)],heap:=[]} {env:=[(11,V.sl false [.int .i64 100000000000,.int .i64 100000000000,.int .i64 100000000000]),(106,V.ex 1 false Fd.lsV),(107,.int .i64 6),(108,.int .i64 1),(112,V.ex 1 false Fd.tV),(113,.int .i64 5),(114,.int .i64 0)],heap:=[]},true)] [0,0,0,0,0,2] {env:=[(106,V.ex 1 false Fd.lsV),(107,.int .i64 6),(108,.int .i64 2)],heap:=[]} (by kernel_rfl) ⟨is_eq rfl,trivial⟩ (τ':=w3S 2) rfl ?_
 refine nextE X3_ok (w3_step [100000000001] (by simp) 2) [(is {env:=[(11,V.sl false [.int .i64 100000000001]),(106,V.ex 1 false Fd.lsV),(107,.int .i64 6),(108,.int .i64 2),(112,V.ex 1 false Fd.tV),(113,.int .i64 5),(114,.int .i64 0)],heap:=[]} {env:=[(11,V.sl false [.int .i64 100000000001]),(106,V.ex 1 false Fd.lsV),(107,.int .i64 6),(108,.int .i64 2),(112,V.ex 1 false Fd.tV),(113,.int .i64 5),(114,.int .i64 0)],heap:=[]},true)] [0,0,0,0,0,2] {env:=[(106,V.ex 1 false Fd.lsV),(107,.int .i64 6),(108,.int .i64 3)],heap:=[]} (by kernel_rfl) ⟨is_eq rfl,trivial⟩ (τ':=w3S 3) rfl ?_
 refine nextE X3_ok (w3_step [0] (by simp) 3) [(is {env:=[(11,V.sl false [.int .i64 0]),(106,V.ex 1 false Fd.lsV),(107,.int .i64 6),(108,.int .i64 3),(112,V.ex 1 false Fd.tV),(113,.int .i64 5),(114,.int .i64 0)],heap:=[]} {env:=[(11,V.sl false [.int .i64 0]),(106,V.ex 1 false Fd.lsV),(107,.int .i64 6),(108,.int .i64 3),(112,V.ex 1 false Fd.tV),(113,.int .i64 5),(114,.int .i64 0)],heap:=[]},true)] [0,0,0,0,0,2] {env:=[(106,V.ex 1 false Fd.lsV),(107,.int .i64 6),(108,.int .i64 4)],heap:=[]} (by kernel_rfl) ⟨is_eq rfl,trivial⟩ (τ':=w3S 4) rfl ?_
 refine nextE X3_ok (w3_step [100000000000,1,1,1,1,1,1,1,1,1,1,1,1,1,1,100000000000] (by simp) 4) [(is {env:=[(11,V.sl false [.int .i64 100000000000,.int .i64 1,.int .i64 1,.int .i64 1,.int .i64 1,.int .i64 1,.int .i64 1,.int .i64 1,.int .i64 1,.int .i64 1,.int .i64 1,.int .i64 1,.int .i64 1,.int .i64 1,.int .i64 1,.int .i64 100000000000]),(106,V.ex 1 false Fd.lsV),(107,.int .i64 6),(108,.int .i64 4),(112,V.ex 1 false Fd.tV),(113,.int .i64 5),(114,.int .i64 0)],heap:=[]} {env:=[(11,V.sl false [.int .i64 100000000000,.int .i64 1,.int .i64 1,.int .i64 1,.int .i64 1,.int .i64 1,.int .i64 1,.int .i64 1,.int .i64 1,.int .i64 1,.int .i64 1,.int .i64 1,.int .i64 1,.int .i64 1,.int .i64 1,.int .i64 100000000000]),(106,V.ex 1 false Fd.lsV),(107,.int .i64 6),(108,.int .i64 4),(112,V.ex 1 false Fd.tV),(113,.int .i64 5),(114,.int .i64 0)],heap:=[]},true)] [0,0,0,0,0,2] {env:=[(106,V.ex 1 false Fd.lsV),(107,.int .i64 6),(108,.int .i64 5)],heap:=[]} (by kernel_rfl) ⟨is_eq rfl,trivial⟩ (τ':=w3S 5) rfl ?_
 refine nextE X3_ok (w3_step [0,0,0,0,0,0,0,0,0,0,0,0,0,0,0,0,0] (by simp) 5) [(is {env:=[(11,V.sl false [.int .i64 0,.int .i64 0,.int .i64 0,.int .i64 0,.int .i64 0,.int .i64 0,.int .i64 0,.int .i64 0,.int .i64 0,.int .i64 0,.int .i64 0,.int .i64 0,.int .i64 0,.int .i64 0,.int .i64 0,.int .i64 0,.int .i64 0]),(106,V.ex 1 false Fd.lsV),(107,.int .i64 6),(108,.int .i64 5),(112,V.ex 1 false Fd.tV),(113,.int .i64 5),(114,.int .i64 0)],heap:=[]} {env:=[(11,V.sl false [.int .i64 0,.int .i64 0,.int .i64 0,.int .i64 0,.int .i64 0,.int .i64 0,.int .i64 0,.int .i64 0,.int .i64 0,.int .i64 0,.int .i64 0,.int .i64 0,.int .i64 0,.int .i64 0,.int .i64 0,.int .i64 0,.int .i64 0]),(106,V.ex 1 false Fd.lsV),(107,.int .i64 6),(108,.int .i64 5),(112,V.ex 1 false Fd.tV),(113,.int .i64 5),(114,.int .i64 0)],heap:=[]},true)] [0,0,0,0,0,2] {env:=[(106,V.ex 1 false Fd.lsV),(107,.int .i64 6),(108,.int .i64 6)],heap:=[]} (by kernel_rfl) ⟨is_eq rfl,trivial⟩ (τ':=w3S 6) rfl ?_
 exact lastE X3_ok noL [] [1] (Ex.exit 6,{env:=[(106,V.ex 1 false Fd.lsV),(107,.int .i64 6),(108,.int .i64 6),(109,V.bool false)],heap:=[]}) (by kernel_rfl) (by simp) trivial rfl
namespace P
def M16:List Mem:=(List.range 16).map fun (i:Nat)=>⟨(i:Int)*60000,2000000000000-(i:Int),if i=0 then 0 else 1000000000-(i:Int),1000-(i:Int)*60,0,true,[]⟩
def R16:List Rd:=(List.range 16).map fun (i:Nat)=>⟨(i:Int)*60000,1000000000000-(i:Int)⟩
end P
def s8:Set4:=⟨70000,100000000000,0,30⟩
def p8:Pnt:=⟨0,1000000000000,true,[],true,[]⟩
def w6E:Ex×St:=(.exit 12,⟨[(16,.ptr 1 0),(20,.ex 2 false (P.R16.map encD)),(21,.int .i64 16),(161,.bool false)],[bS s8,bD P.M16 [p8]]⟩)
def Fd.x8:List V:=[V.agg [.int .i64 1000001,.int .i64 0,.int .i64 0,.int .i64 1],V.agg [.int .i64 (-1),.int .i64 0,.int .i64 0,.int .i64 1],V.agg [.int .i64 7,.int .i64 1000000000001,.int .i64 0,.int .i64 1],V.agg [.int .i64 7,.int .i64 0,.int .i64 (-1000000001),.int .i64 1],V.agg [.int .i64 7,.int .i64 0,.int .i64 0,.int .i64 0],V.agg [.int .i64 7,.int .i64 0,.int .i64 0,.int .i64 1001],V.agg [.int .i64 60000,.int .i64 0,.int .i64 0,.int .i64 1],V.agg [.int .i64 7,.int .i64 0,.int .i64 0,.int .i64 1]]
def w7S (k:Int):St:=⟨[(16,.ptr 1 0),(20,.ex 2 false (P.R16.map encD)),(195,.ex 4 false Fd.x8),(196,.int .i64 8),(197,.int .i64 k)],[bS s8,bD P.M16 [p8]]⟩
def w7E:Ex×St:=(.exit 14,⟨(w7S 8).env++[(198,.bool false)],(w7S 8).heap⟩)
namespace P
def M17:List Mem:=takeM s8 M16 [p8] R16
def pt1:Pnt:=pto s8 M16 [p8] R16
def m0:Mem:=⟨0,2000937499993,937499,1000,0,false,[-937499993]⟩
end P
def bPt (p:Pnt):B:=.cells [.int .i64 p.ep,.int .i64 p.u,.sl false (p.ids.map encI),.sl false (p.ws.map encI)]
def w8S (ms:List Mem) (k:Int):St:=⟨[(16,.ptr 1 0),(27,.int .i64 k)],[bS s8,bD ms [p8,P.pt1],bPt P.pt1]⟩
def w8E:Ex×St:=(.exit 16,⟨(w8S [P.m0] 16).env++[(234,.bool false)],(w8S [P.m0] 0).heap⟩)
end Go.Proofs.Ytnijkhcmjpfjeaa
