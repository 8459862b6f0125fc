/- SL: steps told up to an equation;lists of numbers and of truths. -/
import Derived.Test.YtnijkhcmjpfjeaaS4
namespace Go.Proofs.Ytnijkhcmjpfjeaa
open Go Go.Vm
theorem nextE {S:Vm.Spec} (hS:Vm.Good (vlim T F) S) {L:LSpec} {cx:Cx} {n:Nat} {b:Code} {τ τ':St} {r:Ex×St} (hL:LGood T (vlim T F) lplim cx L b) (cs:List (Bool×Bool)) (l:List Nat) (τ1:St)
  (h:(roundT T Sh S L cx n b τ).follow (answers cs l)=some (spread cs l,some (.normal,τ1))) (hc:AllOk cs) (e:τ1=τ') (hr:LRuns (vstep T (vlim T F) lplim cx n b) τ' r):LRuns (vstep T (vlim T F) lplim cx n b) τ r :=
 LRuns.next hS hL cs l h hc (e▸hr)
theorem lastE {S:Vm.Spec} (hS:Vm.Good (vlim T F) S) {L:LSpec} {cx:Cx} {n:Nat} {b:Code} {τ:St} {r:Ex×St} (hL:LGood T (vlim T F) lplim cx L b) (cs:List (Bool×Bool)) (l:List Nat) (r1:Ex×St)
  (h:(roundT T Sh S L cx n b τ).follow (answers cs l)=some (spread cs l,some r1)) (hx:r1.1≠.normal) (hc:AllOk cs) (e:r1=r):LRuns (vstep T (vlim T F) lplim cx n b) τ r :=
 e▸LRuns.last hS hL cs l h hx hc
theorem wayE {S:Vm.Spec} (hS:Vm.Good (vlim T F) S) {f:FuncId} {fi:FI} {L:LSpec} (hf:F f=some fi) (hL:LGood T (vlim T F) lplim fi.cx L fi.body) (cs:List (Bool×Bool)) (l:List Nat) {a:List V} {H:Heap} {r:V×Heap} (r1:V×Heap)
  (h:(funT T Sh S L fi a H).follow (answers cs l)=some (spread cs l,some r1)) (hc:AllOk cs) (e:r1=r):Runs T F f a H r:=e▸Runs.way hS hf hL cs l h hc
theorem noL {cx:Cx} {b:Code}:LGood T (vlim T F) lplim cx (fun _ _=>.fail) b:=fun _ _ _ _ h=>by cases h
theorem rooms_ok {n b:Nat} (h:n*b≤140737488355328):rooms (n:Int).toNat b=true:=by
 rw[Int.toNat_natCast];exact decide_eq_true (by unfold maxRoom;omega)
def Fd.fa (f:List Bool) (i:Nat):Bool:=boolOf (fld 0 ((f.map encB).getD i V.undef))
def Fd.sv (xs:List V) (i:Nat) (v:V):List V:=xs.set i (mkOf (xs.getD i V.undef) (setCells (xs.getD i V.undef).cells 0 [v]))
theorem fa_at (f:List Bool) (i:Nat) (h:i<f.length):Fd.fa f i=f[i]:=by simp[Fd.fa,encB,h,fld,V.cells,boolOf]
theorem fitB (f:List Bool) (i:Nat) (h:i<f.length):(((f.map encB).getD i V.undef).cells.length==1&&fitP [TK.bool] 0 ((f.map encB).getD i V.undef))=true:=by
 rw[fl_at f i h];rfl
theorem fitI (l:List Int) (i:Nat) (h:i<l.length):(((l.map encI).getD i V.undef).cells.length==1&&fitP [.int .i64] 0 ((l.map encI).getD i V.undef))=true:=by
 simp[encI,fitP,fld,leafFits,V.cells,h]
theorem fitB' (f:List Bool) (i:Nat) (h:i<f.length):fitP [TK.bool] 0 ((f.map encB).getD i V.undef)=true:=by
 rw[fl_at f i h];rfl
theorem fitI' (l:List Int) (i:Nat) (h:i<l.length):fitP [.int .i64] 0 ((l.map encI).getD i V.undef)=true:=by
 simp[encI,fitP,fld,leafFits,V.cells,h]
theorem celB (f:List Bool) (i:Nat) (h:i<f.length):decide (1≤((f.map encB).getD i V.undef).cells.length)=true:=by
 rw[fl_at f i h];rfl
theorem celI (l:List Int) (i:Nat) (h:i<l.length):decide (1≤((l.map encI).getD i V.undef).cells.length)=true:=by
 simp[encI,V.cells,h]
theorem sv_I (o:List Int) (i:Nat) (v:Int) (h:i<o.length):Fd.sv (o.map encI) i (.int .i64 v)=(o.set i v).map encI:=it_set o i v h
theorem sv_B (f:List Bool) (i:Nat) (h:i<f.length):Fd.sv (f.map encB) i (.bool true)=(f.set i true).map encB:=fl_set f i h
end Go.Proofs.Ytnijkhcmjpfjeaa
