/- SC: the law of the shares,over V. -/
import Derived.Test.YtnijkhcmjpfjeaaSA
import Derived.Test.YtnijkhcmjpfjeaaH
import Derived.Test.YtnijkhcmjpfjeaaA6
namespace Go.Proofs.Ytnijkhcmjpfjeaa
open Go Go.Vm
def awakeS:List V→Heap→Tr (V×Heap):=fun a H=>match a,H with
 | [],[]=>.ret (.bool true,[])
 | _,_=>.fail
theorem awakeS_ok:∀ a H r,(awakeS a H).run=some r→Runs T F 9 a H r:=by
 intro a H r h;unfold awakeS at h;split at h
 ·have hr:=ret_some h;clear h;subst hr;exact⟨60,awake_v⟩
 ·cases h
noncomputable def Y9:Vm.Spec:=Y12.add 9 awakeS
theorem Y9_ok:Vm.Good (vlim T F) Y9:=Y12_ok.add awakeS_ok
theorem hnd_length (m:Int):∀ (d:List Shr) (o:List Int) (e:Int),(P.hnd m d o e).1.length=o.length
 | [],o,e=>rfl
 | x::d,o,e=>by
  unfold P.hnd;split
  ·rw[hnd_length];simp
  ·exact hnd_length m d o e
theorem outs_length (l:List Int) (t m:Int):(P.outs l t m).length≤16:=by
 unfold P.outs;by_cases h:P.bad l t m=0
 ·rw[if_pos h]
  unfold P.app
  dsimp only
  rw[hnd_length,ous_len2 (by rw[its_length];simp)]
  exact (bad_ok h).1
 ·rw[if_neg h];simp
theorem shares_runs (n:Bool) (l:List Int) (t m a b c d:Int):Runs T F 3 [.sl n (l.map encI),.int .i64 t,.int .i64 m,.agg [.int .i64 a,.int .i64 b,.int .i64 c,.int .i64 d]] [] (.bool true,[]):=by
 by_cases h:30<l.length
 ·refine wayE Y9_ok (fi:=fi3) (by kernel_rfl) noL [(decide ((↑(List.map encI l).length:Int)>30),true)] [2] (V.bool true,[]) (by kernel_rfl) ?_ rfl
  exact⟨by simp;omega,trivial⟩
 ·refine wayE Y9_ok (fi:=fi3) (by kernel_rfl) noL [(decide ((↑(List.map encI l).length:Int)>30),false),((List.map encI l).all isI,true),(decide ((List.map encI l).length<1099511627776),true),(decide ((List.map encI l).length<4611686018427387904),true),(P.bad (List.map intOf (List.map encI l)) t m==P.bad (List.map intOf (List.map encI l)) t m,true),((List.map encI (P.outs (List.map intOf (List.map encI l)) t m)).all isI,true),(decide ((List.map encI (P.outs (List.map intOf (List.map encI l)) t m)).length<4611686018427387904),true),(P.sm (List.map intOf (List.map encI (P.outs (List.map intOf (List.map encI l)) t m))) (List.map intOf (List.map encI (P.outs (List.map intOf (List.map encI l)) t m))),true),(P.sm (List.map intOf (List.map encI l)) (List.map intOf (List.map encI l)),true),(P.st a b c d==P.st a b c d,true)] [2,3,4,3,5,3,5,6,6,6,7,7,8,6,9,9,9,3,3,5,9,10,10,10,10,10,10,11,11] (V.bool true,[]) (by kernel_rfl) ?_ rfl
  have hol:=outs_length (List.map intOf (List.map encI l)) t m;refine⟨?_,?_,?_,?_,?_,?_,?_,?_,?_,?_,trivial⟩
  all_goals first
   | exact isI_enc _
   | exact decide_eq_true rfl
   | (simp;done)
   | (simp;omega)
   | (rw[List.length_map];exact decide_eq_true (by omega))
   | done
end Go.Proofs.Ytnijkhcmjpfjeaa
