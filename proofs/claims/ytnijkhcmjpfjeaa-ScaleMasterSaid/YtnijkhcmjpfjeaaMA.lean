/- MA: the law of the master: what is taken,told raw;its loops. -/
import Derived.Test.YtnijkhcmjpfjeaaDI
import Derived.Test.YtnijkhcmjpfjeaaE5
import Derived.Test.YtnijkhcmjpfjeaaH4
namespace Go.Proofs.Ytnijkhcmjpfjeaa
open Go Go.Vm
noncomputable def W19:Vm.Spec:=W21.add 19 takeR
theorem W19_ok:Vm.Good (vlim T F) W19:=W21_ok.add takeR_ok
def ma1 (b0 b1 b2 b3 b4 b5 b6:B) (z:Bool) (r y:List Rd) (e i:Int):St:=⟨[(4,.int .i64 e),(11,.ptr 3 0),(12,.ptr 6 0),(13,.sl z (r.map encD)),(14,.ex 2 z (y.map encD)),(15,.int .i64 i)],[b0,b1,b2,b3,b4,b5,b6]⟩
def ma1E (b0 b1 b2 b3 b4 b5 b6:B) (z:Bool) (r:List Rd) (e:Int):Ex×St:=(.exit 0,⟨(ma1 b0 b1 b2 b3 b4 b5 b6 z r (r.map (shR e)) e r.length).env++[(63,.bool false)],[b0,b1,b2,b3,b4,b5,b6]⟩)
def ma1X (b0 b1 b2 b3 b4 b5 b6:B):Ex×St:=(.ret,⟨[(10,.bool true)],[b0,b1,b2,b3,b4,b5,b6]⟩)
theorem stD (l:List Rd) (k:Nat) (h:k<l.length) (v:Int):Fd.st (l.map encD) k 1 (.int .i64 v)=(l.set k ⟨l[k].id,v⟩).map encD:=by
 unfold Fd.st;rw[d_at l k h,List.map_set];rfl
theorem fitD1 (l:List Rd) (k:Nat) (h:k<l.length):fitP [.int .i64] 1 ((l.map encD).getD k V.undef)=true:=by
 rw[d_at l k h];rfl
theorem ma1_loop (b0 b1 b2 b3 b4 b5 b6:B) (z:Bool) (r:List Rd) (e:Int) (hr:r.length<2 ^ 40) (he:-100000000001<e∧e<100000000001):∀ (d i:Nat),i+d=r.length →
  LRuns (vstep T (vlim T F) lplim fi4.cx 7 (lb fi4 0)) (ma1 b0 b1 b2 b3 b4 b5 b6 z r ((r.take i).map (shR e)++r.drop i) e i) (ma1E b0 b1 b2 b3 b4 b5 b6 z r e) ∨
  LRuns (vstep T (vlim T F) lplim fi4.cx 7 (lb fi4 0)) (ma1 b0 b1 b2 b3 b4 b5 b6 z r ((r.take i).map (shR e)++r.drop i) e i) (ma1X b0 b1 b2 b3 b4 b5 b6)
 | 0,i,hd=>by
  have hi:i=r.length:=by omega
  subst hi
  left
  rw[List.take_length,List.drop_length,List.append_nil];refine lastE W19_ok noL [(decide ((↑(r.length):Int)<(↑(List.map encD (r.map (shR e))).length:Int)),false)] [2] (Ex.exit 0,{env:=[(4,.int .i64 e),(11,V.ptr 3 0),(12,V.ptr 6 0),(13,V.sl z (List.map encD r)),(14,V.ex 2 z (List.map encD (r.map (shR e)))),(15,.int .i64 (↑(r.length):Int)),(63,V.bool (decide ((↑(r.length):Int)<(↑(List.map encD (r.map (shR e))).length:Int))))],heap:=[b0,b1,b2,b3,b4,b5,b6]}) (by kernel_rfl) (by simp) ⟨by simp,trivial⟩ (by simp[ma1,ma1E])
 | d+1,i,hd=>by
  have hi:i<r.length:=by omega
  have hwi:IntKind.i64.wrap ((i:Int)+1)=((i+1:Nat):Int):=by rw[i64in (by omega) (by omega)];rfl
  generalize hy:(r.take i).map (shR e)++r.drop i=y;have hyl:y.length=r.length:=by rw[←hy];simp;omega
  have hiy:i<y.length:=by omega
  have hyi:y[i]=r[i]:=by
   simp only[←hy];rw[List.getElem_append_right (by simp;omega)]
   simp[Nat.min_eq_left (Nat.le_of_lt hi)]
  have hlt:decide ((i:Int)<((y.map encD).length:Int))=true:=by simp;omega
  have hrd:Fd.rd y i 1=r[i].df:=by rw[rd1 y i hiy,hyi]
  by_cases h1:r[i].df < -800000000000
  ·right
   refine lastE W19_ok noL [(decide ((↑i:Int)<(↑(List.map encD y).length:Int)),true),(decide (i<(List.map encD y).length),true),(fitP [.int .i64] 1 ((List.map encD y).getD i V.undef),true),(decide (Fd.rd y i 1 < -800000000000),true)] [2,0,2,3,4,5,5,5,5,5,5,5,0] (Ex.ret,{env:=[(10,V.bool true)],heap:=[b0,b1,b2,b3,b4,b5,b6]}) (by kernel_rfl) (by simp) ⟨hlt,by simp;omega,fitD1 y i hiy,decide_eq_true (by rw[hrd];exact h1),trivial⟩ rfl
  ·by_cases h2:r[i].df>800000000000
   ·right
    refine lastE W19_ok noL [(decide ((↑i:Int)<(↑(List.map encD y).length:Int)),true),(decide (i<(List.map encD y).length),true),(fitP [.int .i64] 1 ((List.map encD y).getD i V.undef),true),(decide (Fd.rd y i 1 < -800000000000),false),(decide (Fd.rd y i 1>800000000000),true)] [2,0,2,3,4,5,5,5,0,2,5,5,3,4,5,5,6] (Ex.ret,{env:=[(10,V.bool true)],heap:=[b0,b1,b2,b3,b4,b5,b6]}) (by kernel_rfl) (by simp) ⟨hlt,by simp;omega,fitD1 y i hiy,decide_eq_false (by rw[hrd];exact h1),decide_eq_true (by rw[hrd];exact h2),trivial⟩ rfl
   ·have hst:Fd.st (y.map encD) i 1 (.int .i64 (IntKind.i64.wrap (Fd.rd y i 1-e)))=((r.take (i+1)).map (shR e)++r.drop (i+1)).map encD:=by
     rw[stD y i hiy,hrd,i64in (by omega) (by omega)]
     congr 1
     rw[hyi,←hy,List.set_append_right _ _ (by simp;omega),List.take_succ_eq_append_getElem hi,List.map_append,List.append_assoc]
     congr 1
     rw[List.length_map,List.length_take,Nat.min_eq_left (Nat.le_of_lt hi),Nat.sub_self,List.drop_eq_getElem_cons hi];rfl
    have hs:∀ q,LRuns (vstep T (vlim T F) lplim fi4.cx 7 (lb fi4 0)) (ma1 b0 b1 b2 b3 b4 b5 b6 z r ((r.take (i+1)).map (shR e)++r.drop (i+1)) e ((i+1:Nat):Int)) q→LRuns (vstep T (vlim T F) lplim fi4.cx 7 (lb fi4 0)) (ma1 b0 b1 b2 b3 b4 b5 b6 z r y e i) q:=fun q hq=>by
     refine nextE W19_ok noL [(decide ((↑i:Int)<(↑(List.map encD y).length:Int)),true),(decide (i<(List.map encD y).length),true),(fitP [.int .i64] 1 ((List.map encD y).getD i V.undef),true),(decide (Fd.rd y i 1 < -800000000000),false),(decide (Fd.rd y i 1>800000000000),false),(decide (2≤((List.map encD y).getD i V.undef).cells.length),true)] [2,0,2,3,4,5,5,5,0,2,5,5,3,4,5,5,6,0,2,3,4,0,2,3,7] {env:=[(4,.int .i64 e),(11,V.ptr 3 0),(12,V.ptr 6 0),(13,V.sl z (List.map encD r)),(14,V.ex 2 z (Fd.st (List.map encD y) i 1 (V.int IntKind.i64 (IntKind.i64.wrap (Fd.rd y i 1-e))))),(15,.int .i64 (IntKind.i64.wrap ((↑i:Int)+1)))],heap:=[b0,b1,b2,b3,b4,b5,b6]} (by kernel_rfl) ?_ (by rw[hwi,hst];rfl) hq
     exact⟨hlt,by simp;omega,fitD1 y i hiy,decide_eq_false (by rw[hrd];exact h1),decide_eq_false (by rw[hrd];exact h2),by rw[d_at y i hiy];rfl,trivial⟩
    rcases ma1_loop b0 b1 b2 b3 b4 b5 b6 z r e hr he d (i+1) (by omega) with h | h
    ·exact .inl (hs _ h)
    ·exact .inr (hs _ h)
def ma2 (b0 b1 b2 b3 b4 b5 b6 b7 b8:B) (z1 z2:Bool) (m1 m2:List Mem) (i:Int):St:=⟨[(20,.sl z1 (m1.map encM)),(21,.sl z2 (m2.map encM)),(22,.int .i64 i)],[b0,b1,b2,b3,b4,b5,b6,b7,b8]⟩
theorem ma2_loop (b0 b1 b2 b3 b4 b5 b6 b7 b8:B) (z1 z2:Bool) (M:List Mem) (hM:M.length<2 ^ 40) (hm:∀ m∈M,m.miss.length≤1000000):∀ (d i:Nat),i+d=M.length →
  LRuns (vstep T (vlim T F) lplim fi4.cx 9 (lb fi4 1)) (ma2 b0 b1 b2 b3 b4 b5 b6 b7 b8 z1 z2 M M i) (.exit 2,⟨(ma2 b0 b1 b2 b3 b4 b5 b6 b7 b8 z1 z2 M M M.length).env++[(173,.bool false)],[b0,b1,b2,b3,b4,b5,b6,b7,b8]⟩)
 | 0,i,hd=>by
  have hi:i=M.length:=by omega
  subst hi;refine lastE W19_ok noL [(decide ((↑(M.length):Int)<(↑(List.map encM (M)).length:Int)),false)] [2] (Ex.exit 2,{env:=[(20,V.sl z1 (List.map encM (M))),(21,V.sl z2 (List.map encM (M))),(22,.int .i64 (↑(M.length):Int)),(173,V.bool (decide ((↑(M.length):Int)<(↑(List.map encM (M)).length:Int))))],heap:=[b0,b1,b2,b3,b4,b5,b6,b7,b8]}) (by kernel_rfl) (by simp) ⟨by simp,trivial⟩ (by simp[ma2])
 | d+1,i,hd=>by
  have hi:i<M.length:=by omega
  have hwi:IntKind.i64.wrap ((i:Int)+1)=((i+1:Nat):Int):=by rw[i64in (by omega) (by omega)];rfl
  refine nextE W19_ok noL [(decide ((↑i:Int)<(↑(List.map encM (M)).length:Int)),true),(((List.map encM (M)).getD i V.undef).cells.length==6&&fitP [.int .i64,.int .i64,.int .i64,.int .i64,.int .i64,TK.slice 3] 0 ((List.map encM (M)).getD i V.undef),true),(decide ((↑i:Int)<(↑(List.map encM (M)).length:Int)),true),(((List.map encM (M)).getD i V.undef).cells.length==6&&fitP [.int .i64,.int .i64,.int .i64,.int .i64,.int .i64,TK.slice 3] 0 ((List.map encM (M)).getD i V.undef),true),(Fd.mi (M) i != Fd.mi (M) i,false),(Fd.mj (M) i 1 != Fd.mj (M) i 1,false),(Fd.mj (M) i 2 != Fd.mj (M) i 2,false),((listOf (fld 5 ((List.map encM (M)).getD i V.undef))).all isI,true),((listOf (fld 5 ((List.map encM (M)).getD i V.undef))).all isI,true),(decide ((listOf (fld 5 ((List.map encM (M)).getD i V.undef))).length<4611686018427387904),true),(!P.sm (List.map intOf (listOf (fld 5 ((List.map encM (M)).getD i V.undef)))) (List.map intOf (listOf (fld 5 ((List.map encM (M)).getD i V.undef)))),false)] [2,0,2,3,0,4,5,6,6,6,0,2,3,6,6,6,6,6,0,4,5,6,6,6,6,7,7,7,0,2,3,7,7,7,7,7,0,4,5,7,7,7,7,8,8,8,0,2,3,8,8,8,8,8,0,4,5,8,8,8,9,10,11,8,8,12] {env:=[(20,V.sl z1 (List.map encM (M))),(21,V.sl z2 (List.map encM (M))),(22,.int .i64 (IntKind.i64.wrap ((↑i:Int)+1)))],heap:=[b0,b1,b2,b3,b4,b5,b6,b7,b8]} (by kernel_rfl) ?_ (by rw[hwi];rfl) (ma2_loop b0 b1 b2 b3 b4 b5 b6 b7 b8 z1 z2 M hM hm d (i+1) (by omega))
  have hf:listOf (fld 5 ((List.map encM M).getD i V.undef))=M[i].miss.map encI:=by rw[m_at M i hi];rfl
  have hml:=hm _ (List.getElem_mem hi);refine⟨?_,?_,?_,?_,?_,?_,?_,?_,?_,?_,?_,trivial⟩
  all_goals first
   | (simp;done)
   | (simp;omega)
   | exact fitM M i hi
   | (rw[hf];exact isI_enc _)
   | (rw[hf,List.length_map];exact decide_eq_true (by omega))
   | (simp[P.sm];done)
   | done
end Go.Proofs.Ytnijkhcmjpfjeaa
