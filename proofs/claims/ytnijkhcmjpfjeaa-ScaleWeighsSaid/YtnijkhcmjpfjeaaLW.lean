/- LW: the law of what is weighed. -/
import Derived.Test.YtnijkhcmjpfjeaaDG
import Derived.Test.YtnijkhcmjpfjeaaH
namespace Go.Proofs.Ytnijkhcmjpfjeaa
open Go Go.Vm
def lwH (s:Set4) (ms:List Mem) (ps:List Pnt) (ep u:Int) (ids ws:List Int):Heap:=[bS s,bS s,bS s,.cells [.ptr 2 0,.ex 6 false (ms.map encM),.ex 4 false (ps.map encP)],.cells [.int .i64 ep,.int .i64 u,.sl false (ids.map encI),.sl false (ws.map encI)]]
def lwS (s:Set4) (ms:List Mem) (ps:List Pnt) (zr:Bool) (r:List Rd) (ep u:Int) (ids ws:List Int) (a b t i:Int):St:=⟨[(3,.sl zr (r.map encD)),(4,.ptr 0 0),(9,.ptr 3 0),(10,.int .i64 a),(11,.int .i64 b),(13,.ptr 4 0),(15,.int .i64 t),(16,.int .i64 i)],lwH s ms ps ep u ids ws⟩
def liS (s:Set4) (ms:List Mem) (ps:List Pnt) (zr:Bool) (r:List Rd) (ep u:Int) (ids ws:List Int) (a b t i:Int) (f:Bool) (k:Int):St:=⟨[(3,.sl zr (r.map encD)),(4,.ptr 0 0),(9,.ptr 3 0),(10,.int .i64 a),(11,.int .i64 b),(13,.ptr 4 0),(15,.int .i64 t),(16,.int .i64 i),(17,.bool f),(18,.int .i64 k)],lwH s ms ps ep u ids ws⟩
theorem iu_at (l:List Int) (k:Nat) (h:k < l.length):Fd.iu l k=l[k]:=by simp[Fd.iu,encI,h]
namespace P
def mn (i:Nat) (e a:Int):Int:=if i=0∨e < a then e else a
def mx (i:Nat) (e b:Int):Int:=if i=0∨e > b then e else b
end P
section LWs
variable (s:Set4) (ms:List Mem) (ps:List Pnt) (zr:Bool) (r:List Rd) (ep u:Int) (ids ws:List Int) (t:Int)
theorem li_hit {n:Nat} (hI:Inv s ms ps n) (hn:n≤20000) (hrl:r.length < 2 ^ 40) (hil:ids.length≤16) (a b e:Int) (i:Nat) (f:Bool) (k:Nat) (hk:k < r.length) (hi:i < ids.length) (hid:r[k].id=ids[i]) (hoE:P.hoE ms ids[i] r[k].df=0) (hho:P.hoV ms ids[i] r[k].df=e)
  (hu:-2000000000002≤u∧u≤2000000000002) (he:-2000000000000≤e∧e≤2000000000000) (hg:ids.length≤1∨(e - u≤s.gate∧u - e≤s.gate)) {R:Ex×St}
  (hr:LRuns (vstep T (vlim T F) lplim fi6.cx 5 (lb fi6 1)) (liS s ms ps zr r ep u ids ws (P.mn i e a) (P.mx i e b) t i true (k+1:Nat)) R):LRuns (vstep T (vlim T F) lplim fi6.cx 5 (lb fi6 1)) (liS s ms ps zr r ep u ids ws a b t i f k) R:=by
 have hwi:IntKind.i64.wrap ((k:Int)+1)=((k+1:Nat):Int):=by rw[i64in (by omega) (by omega)];rfl
 have h0:Fd.rd r k 0=ids[i]:=by rw[rd0 r k hk,hid]
 have h1:=rd1 r k hk
 have hp0:=hI.p0;have hp1:=hI.p1;have hml:=hI.len
 have hne:(Fd.rd r k 0 != Fd.iu ids i)=false:=by rw[h0,iu_at ids i hi];simp
 have hE:(P.hoE ms ids[i] r[k].df != 0)=false:=by rw[hoE];rfl
 by_cases hl:ids.length≤1
 ·by_cases hz:i=0
  ·have hi0:((i:Int)==0)=true:=by subst hz;rfl
   rw[show P.mn i e a=e by unfold P.mn;rw[if_pos (.inl hz)],show P.mx i e b=e by unfold P.mx;rw[if_pos (.inl hz)]] at hr
   refine nextE U17_ok noL [(decide ((↑k:Int) < (↑(List.map encD r).length:Int)),true),(((List.map encD r).getD k V.undef).cells.length==2&&fitP [.int .i64,.int .i64] 0 ((List.map encD r).getD k V.undef),true),(decide ((↑i:Int) < (↑(List.map encI ids).length:Int)),true),(((List.map encI ids).getD i V.undef).cells.length==1&&fitP [.int .i64] 0 ((List.map encI ids).getD i V.undef),true),(Fd.rd r k 0 != Fd.iu ids i,false),(eqB [V.int IntKind.i64 s.1,.int .i64 s.2,.int .i64 s.3,.int .i64 s.4] [.int .i64 s.1,.int .i64 s.2,.int .i64 s.3,.int .i64 s.4],true),(eqB (List.map encP ps) (List.map encP (P.decPs (List.map encP ps))),true),(decide (0 < (List.map encP ps).length),true),(decide ((List.map encP ps).length < 1099511627776),true),(eqB (List.map encM ms) (List.map encM (P.decMs (List.map encM ms))),true),(decide ((List.map encM ms).length < 1099511627776),true),((P.decMs (List.map encM ms)).all fun m=>decide (-1000000000000000000≤m.2∧m.2≤1000000000000000000∧-1000000000000000000≤m.3∧m.3≤1000000000000000000),true),(P.hoE (P.decMs (List.map encM ms)) (Fd.rd r k 0) (Fd.rd r k 1) != 0,false),(decide ((↑(List.map encI ids).length:Int) > 1),false),((↑i:Int)==0,true)] [2,0,2,3,0,4,5,6,0,2,3,0,2,3,0,1,7,8,9,10,11,12,13,0,1,14,14,14,14,14,15,15,15,15,15,15,15,15,15,14,15,14,1,16,16,16,16,0,16,16,16,16,0] { env:=[(3,V.sl zr (List.map encD r)),(4,V.ptr 0 0),(9,V.ptr 3 0),(10,.int .i64 (P.hoV (P.decMs (List.map encM ms)) (Fd.rd r k 0) (Fd.rd r k 1))),(11,.int .i64 (P.hoV (P.decMs (List.map encM ms)) (Fd.rd r k 0) (Fd.rd r k 1))),(13,V.ptr 4 0),(15,.int .i64 t),(16,.int .i64 (↑i:Int)),(17,V.bool true),(18,.int .i64 (IntKind.i64.wrap ((↑k:Int)+1)))],heap:=[B.cells [.int .i64 s.1,.int .i64 s.2,.int .i64 s.3,.int .i64 s.4],B.cells [.int .i64 s.1,.int .i64 s.2,.int .i64 s.3,.int .i64 s.4],B.cells [.int .i64 s.1,.int .i64 s.2,.int .i64 s.3,.int .i64 s.4],B.cells [V.ptr 2 0,V.ex 6 false (List.map encM ms),V.ex 4 false (List.map encP ps)],B.cells [.int .i64 ep,.int .i64 u,V.sl false (List.map encI ids),V.sl false (List.map encI ws)]] } (by kernel_rfl) ?_ (by rw[hwi,decMs_enc,h0,h1];first | (rw[hho];done) | (rw[hho];rfl) | rfl) hr
   refine⟨?_,?_,?_,?_,?_,?_,?_,?_,?_,?_,?_,?_,?_,?_,?_,trivial⟩
   all_goals first
                   | (simp;done)
                   | (simp;omega)
                   | exact fitD _ _ hk
                   | exact fitI _ _ hi
                   | exact hne
                   | exact eqB_self _
                   | exact isPs_enc _
                   | exact isMs_enc _
                   | (rw[List.length_map];exact decide_eq_true (by omega))
                   | (rw[List.length_map];exact decide_eq_false (by omega))
                   | (rw[decMs_enc];exact hI.okMs (by omega))
                   | (rw[decMs_enc,h0,h1];exact hE)
                   | (rw[decMs_enc,h0,h1,hho];first | exact hg1 | exact hg2 | exact ha | exact hb)
                   | exact hi0
                   | done
  ·omega
 ·have hg:=hg.resolve_left hl
  have hg1:decide (IntKind.i64.wrap (e - u) > s.gate)=false:=decide_eq_false (by rw[i64in (by omega) (by omega)];omega)
  have hg2:decide (IntKind.i64.wrap (u - e) > s.gate)=false:=decide_eq_false (by rw[i64in (by omega) (by omega)];omega)
  by_cases hz:i=0
  ·have hi0:((i:Int)==0)=true:=by subst hz;rfl
   rw[show P.mn i e a=e by unfold P.mn;rw[if_pos (.inl hz)],show P.mx i e b=e by unfold P.mx;rw[if_pos (.inl hz)]] at hr
   refine nextE U17_ok noL [(decide ((↑k:Int) < (↑(List.map encD r).length:Int)),true),(((List.map encD r).getD k V.undef).cells.length==2&&fitP [.int .i64,.int .i64] 0 ((List.map encD r).getD k V.undef),true),(decide ((↑i:Int) < (↑(List.map encI ids).length:Int)),true),(((List.map encI ids).getD i V.undef).cells.length==1&&fitP [.int .i64] 0 ((List.map encI ids).getD i V.undef),true),(Fd.rd r k 0 != Fd.iu ids i,false),(eqB [V.int IntKind.i64 s.1,.int .i64 s.2,.int .i64 s.3,.int .i64 s.4] [.int .i64 s.1,.int .i64 s.2,.int .i64 s.3,.int .i64 s.4],true),(eqB (List.map encP ps) (List.map encP (P.decPs (List.map encP ps))),true),(decide (0 < (List.map encP ps).length),true),(decide ((List.map encP ps).length < 1099511627776),true),(eqB (List.map encM ms) (List.map encM (P.decMs (List.map encM ms))),true),(decide ((List.map encM ms).length < 1099511627776),true),((P.decMs (List.map encM ms)).all fun m=>decide (-1000000000000000000≤m.2∧m.2≤1000000000000000000∧-1000000000000000000≤m.3∧m.3≤1000000000000000000),true),(P.hoE (P.decMs (List.map encM ms)) (Fd.rd r k 0) (Fd.rd r k 1) != 0,false),(decide ((↑(List.map encI ids).length:Int) > 1),true),(decide (IntKind.i64.wrap (P.hoV (P.decMs (List.map encM ms)) (Fd.rd r k 0) (Fd.rd r k 1) - u) > s.2),false),(decide (IntKind.i64.wrap (u - P.hoV (P.decMs (List.map encM ms)) (Fd.rd r k 0) (Fd.rd r k 1)) > s.2),false),((↑i:Int)==0,true)] [2,0,2,3,0,4,5,6,0,2,3,0,2,3,0,1,7,8,9,10,11,12,13,0,1,14,14,14,14,14,15,15,15,15,15,15,15,15,16,16,16,16,16,16,16,15,16,14,15,14,17,18,18,18,18,0,18,18,18,18,0] { env:=[(3,V.sl zr (List.map encD r)),(4,V.ptr 0 0),(9,V.ptr 3 0),(10,.int .i64 (P.hoV (P.decMs (List.map encM ms)) (Fd.rd r k 0) (Fd.rd r k 1))),(11,.int .i64 (P.hoV (P.decMs (List.map encM ms)) (Fd.rd r k 0) (Fd.rd r k 1))),(13,V.ptr 4 0),(15,.int .i64 t),(16,.int .i64 (↑i:Int)),(17,V.bool true),(18,.int .i64 (IntKind.i64.wrap ((↑k:Int)+1)))],heap:=[B.cells [.int .i64 s.1,.int .i64 s.2,.int .i64 s.3,.int .i64 s.4],B.cells [.int .i64 s.1,.int .i64 s.2,.int .i64 s.3,.int .i64 s.4],B.cells [.int .i64 s.1,.int .i64 s.2,.int .i64 s.3,.int .i64 s.4],B.cells [V.ptr 2 0,V.ex 6 false (List.map encM ms),V.ex 4 false (List.map encP ps)],B.cells [.int .i64 ep,.int .i64 u,V.sl false (List.map encI ids),V.sl false (List.map encI ws)]] } (by kernel_rfl) ?_ (by rw[hwi,decMs_enc,h0,h1];first | (rw[hho];done) | (rw[hho];rfl) | rfl) hr
   refine⟨?_,?_,?_,?_,?_,?_,?_,?_,?_,?_,?_,?_,?_,?_,?_,?_,?_,trivial⟩
   all_goals first
                   | (simp;done)
                   | (simp;omega)
                   | exact fitD _ _ hk
                   | exact fitI _ _ hi
                   | exact hne
                   | exact eqB_self _
                   | exact isPs_enc _
                   | exact isMs_enc _
                   | (rw[List.length_map];exact decide_eq_true (by omega))
                   | (rw[List.length_map];exact decide_eq_false (by omega))
                   | (rw[decMs_enc];exact hI.okMs (by omega))
                   | (rw[decMs_enc,h0,h1];exact hE)
                   | (rw[decMs_enc,h0,h1,hho];first | exact hg1 | exact hg2 | exact ha | exact hb)
                   | exact hi0
                   | done
  ·have hi0:((i:Int)==0)=false:=beq_eq_false_iff_ne.2 (by omega)
   by_cases ha':e < a
   ·have ha:=decide_eq_true ha'
    rw[show P.mn i e a=e by unfold P.mn;rw[if_pos (.inr ha')]] at hr
    by_cases hb':e > b
    ·have hb:=decide_eq_true hb'
     rw[show P.mx i e b=e by unfold P.mx;rw[if_pos (.inr hb')]] at hr
     refine nextE U17_ok noL [(decide ((↑k:Int) < (↑(List.map encD r).length:Int)),true),(((List.map encD r).getD k V.undef).cells.length==2&&fitP [.int .i64,.int .i64] 0 ((List.map encD r).getD k V.undef),true),(decide ((↑i:Int) < (↑(List.map encI ids).length:Int)),true),(((List.map encI ids).getD i V.undef).cells.length==1&&fitP [.int .i64] 0 ((List.map encI ids).getD i V.undef),true),(Fd.rd r k 0 != Fd.iu ids i,false),(eqB [V.int IntKind.i64 s.1,.int .i64 s.2,.int .i64 s.3,.int .i64 s.4] [.int .i64 s.1,.int .i64 s.2,.int .i64 s.3,.int .i64 s.4],true),(eqB (List.map encP ps) (List.map encP (P.decPs (List.map encP ps))),true),(decide (0 < (List.map encP ps).length),true),(decide ((List.map encP ps).length < 1099511627776),true),(eqB (List.map encM ms) (List.map encM (P.decMs (List.map encM ms))),true),(decide ((List.map encM ms).length < 1099511627776),true),((P.decMs (List.map encM ms)).all fun m=>decide (-1000000000000000000≤m.2∧m.2≤1000000000000000000∧-1000000000000000000≤m.3∧m.3≤1000000000000000000),true),(P.hoE (P.decMs (List.map encM ms)) (Fd.rd r k 0) (Fd.rd r k 1) != 0,false),(decide ((↑(List.map encI ids).length:Int) > 1),true),(decide (IntKind.i64.wrap (P.hoV (P.decMs (List.map encM ms)) (Fd.rd r k 0) (Fd.rd r k 1) - u) > s.2),false),(decide (IntKind.i64.wrap (u - P.hoV (P.decMs (List.map encM ms)) (Fd.rd r k 0) (Fd.rd r k 1)) > s.2),false),((↑i:Int)==0,false),(decide (P.hoV (P.decMs (List.map encM ms)) (Fd.rd r k 0) (Fd.rd r k 1) < a),true),(decide (P.hoV (P.decMs (List.map encM ms)) (Fd.rd r k 0) (Fd.rd r k 1) > b),true)] [2,0,2,3,0,4,5,6,0,2,3,0,2,3,0,1,7,8,9,10,11,12,13,0,1,14,14,14,14,14,15,15,15,15,15,15,15,15,16,16,16,16,16,16,16,15,16,14,15,14,17,18,18,18,18,19,18,18,18,18,20] { env:=[(3,V.sl zr (List.map encD r)),(4,V.ptr 0 0),(9,V.ptr 3 0),(10,.int .i64 (P.hoV (P.decMs (List.map encM ms)) (Fd.rd r k 0) (Fd.rd r k 1))),(11,.int .i64 (P.hoV (P.decMs (List.map encM ms)) (Fd.rd r k 0) (Fd.rd r k 1))),(13,V.ptr 4 0),(15,.int .i64 t),(16,.int .i64 (↑i:Int)),(17,V.bool true),(18,.int .i64 (IntKind.i64.wrap ((↑k:Int)+1)))],heap:=[B.cells [.int .i64 s.1,.int .i64 s.2,.int .i64 s.3,.int .i64 s.4],B.cells [.int .i64 s.1,.int .i64 s.2,.int .i64 s.3,.int .i64 s.4],B.cells [.int .i64 s.1,.int .i64 s.2,.int .i64 s.3,.int .i64 s.4],B.cells [V.ptr 2 0,V.ex 6 false (List.map encM ms),V.ex 4 false (List.map encP ps)],B.cells [.int .i64 ep,.int .i64 u,V.sl false (List.map encI ids),V.sl false (List.map encI ws)]] } (by kernel_rfl) ?_ (by rw[hwi,decMs_enc,h0,h1];first | (rw[hho];done) | (rw[hho];rfl) | rfl) hr
     refine⟨?_,?_,?_,?_,?_,?_,?_,?_,?_,?_,?_,?_,?_,?_,?_,?_,?_,?_,?_,trivial⟩
     all_goals first
                   | (simp;done)
                   | (simp;omega)
                   | exact fitD _ _ hk
                   | exact fitI _ _ hi
                   | exact hne
                   | exact eqB_self _
                   | exact isPs_enc _
                   | exact isMs_enc _
                   | (rw[List.length_map];exact decide_eq_true (by omega))
                   | (rw[List.length_map];exact decide_eq_false (by omega))
                   | (rw[decMs_enc];exact hI.okMs (by omega))
                   | (rw[decMs_enc,h0,h1];exact hE)
                   | (rw[decMs_enc,h0,h1,hho];first | exact hg1 | exact hg2 | exact ha | exact hb)
                   | exact hi0
                   | done
    ·have hb:=decide_eq_false hb'
     rw[show P.mx i e b=b by unfold P.mx;rw[if_neg (by omega)]] at hr
     refine nextE U17_ok noL [(decide ((↑k:Int) < (↑(List.map encD r).length:Int)),true),(((List.map encD r).getD k V.undef).cells.length==2&&fitP [.int .i64,.int .i64] 0 ((List.map encD r).getD k V.undef),true),(decide ((↑i:Int) < (↑(List.map encI ids).length:Int)),true),(((List.map encI ids).getD i V.undef).cells.length==1&&fitP [.int .i64] 0 ((List.map encI ids).getD i V.undef),true),(Fd.rd r k 0 != Fd.iu ids i,false),(eqB [V.int IntKind.i64 s.1,.int .i64 s.2,.int .i64 s.3,.int .i64 s.4] [.int .i64 s.1,.int .i64 s.2,.int .i64 s.3,.int .i64 s.4],true),(eqB (List.map encP ps) (List.map encP (P.decPs (List.map encP ps))),true),(decide (0 < (List.map encP ps).length),true),(decide ((List.map encP ps).length < 1099511627776),true),(eqB (List.map encM ms) (List.map encM (P.decMs (List.map encM ms))),true),(decide ((List.map encM ms).length < 1099511627776),true),((P.decMs (List.map encM ms)).all fun m=>decide (-1000000000000000000≤m.2∧m.2≤1000000000000000000∧-1000000000000000000≤m.3∧m.3≤1000000000000000000),true),(P.hoE (P.decMs (List.map encM ms)) (Fd.rd r k 0) (Fd.rd r k 1) != 0,false),(decide ((↑(List.map encI ids).length:Int) > 1),true),(decide (IntKind.i64.wrap (P.hoV (P.decMs (List.map encM ms)) (Fd.rd r k 0) (Fd.rd r k 1) - u) > s.2),false),(decide (IntKind.i64.wrap (u - P.hoV (P.decMs (List.map encM ms)) (Fd.rd r k 0) (Fd.rd r k 1)) > s.2),false),((↑i:Int)==0,false),(decide (P.hoV (P.decMs (List.map encM ms)) (Fd.rd r k 0) (Fd.rd r k 1) < a),true),(decide (P.hoV (P.decMs (List.map encM ms)) (Fd.rd r k 0) (Fd.rd r k 1) > b),false)] [2,0,2,3,0,4,5,6,0,2,3,0,2,3,0,1,7,8,9,10,11,12,13,0,1,14,14,14,14,14,15,15,15,15,15,15,15,15,16,16,16,16,16,16,16,15,16,14,15,14,17,18,18,18,18,19,18,18,18,18,20] { env:=[(3,V.sl zr (List.map encD r)),(4,V.ptr 0 0),(9,V.ptr 3 0),(10,.int .i64 (P.hoV (P.decMs (List.map encM ms)) (Fd.rd r k 0) (Fd.rd r k 1))),(11,.int .i64 b),(13,V.ptr 4 0),(15,.int .i64 t),(16,.int .i64 (↑i:Int)),(17,V.bool true),(18,.int .i64 (IntKind.i64.wrap ((↑k:Int)+1)))],heap:=[B.cells [.int .i64 s.1,.int .i64 s.2,.int .i64 s.3,.int .i64 s.4],B.cells [.int .i64 s.1,.int .i64 s.2,.int .i64 s.3,.int .i64 s.4],B.cells [.int .i64 s.1,.int .i64 s.2,.int .i64 s.3,.int .i64 s.4],B.cells [V.ptr 2 0,V.ex 6 false (List.map encM ms),V.ex 4 false (List.map encP ps)],B.cells [.int .i64 ep,.int .i64 u,V.sl false (List.map encI ids),V.sl false (List.map encI ws)]] } (by kernel_rfl) ?_ (by rw[hwi,decMs_enc,h0,h1];first | (rw[hho];done) | (rw[hho];rfl) | rfl) hr
     refine⟨?_,?_,?_,?_,?_,?_,?_,?_,?_,?_,?_,?_,?_,?_,?_,?_,?_,?_,?_,trivial⟩
     all_goals first
                   | (simp;done)
                   | (simp;omega)
                   | exact fitD _ _ hk
                   | exact fitI _ _ hi
                   | exact hne
                   | exact eqB_self _
                   | exact isPs_enc _
                   | exact isMs_enc _
                   | (rw[List.length_map];exact decide_eq_true (by omega))
                   | (rw[List.length_map];exact decide_eq_false (by omega))
                   | (rw[decMs_enc];exact hI.okMs (by omega))
                   | (rw[decMs_enc,h0,h1];exact hE)
                   | (rw[decMs_enc,h0,h1,hho];first | exact hg1 | exact hg2 | exact ha | exact hb)
                   | exact hi0
                   | done
   ·have ha:=decide_eq_false ha'
    rw[show P.mn i e a=a by unfold P.mn;rw[if_neg (by omega)]] at hr
    by_cases hb':e > b
    ·have hb:=decide_eq_true hb'
     rw[show P.mx i e b=e by unfold P.mx;rw[if_pos (.inr hb')]] at hr
     refine nextE U17_ok noL [(decide ((↑k:Int) < (↑(List.map encD r).length:Int)),true),(((List.map encD r).getD k V.undef).cells.length==2&&fitP [.int .i64,.int .i64] 0 ((List.map encD r).getD k V.undef),true),(decide ((↑i:Int) < (↑(List.map encI ids).length:Int)),true),(((List.map encI ids).getD i V.undef).cells.length==1&&fitP [.int .i64] 0 ((List.map encI ids).getD i V.undef),true),(Fd.rd r k 0 != Fd.iu ids i,false),(eqB [V.int IntKind.i64 s.1,.int .i64 s.2,.int .i64 s.3,.int .i64 s.4] [.int .i64 s.1,.int .i64 s.2,.int .i64 s.3,.int .i64 s.4],true),(eqB (List.map encP ps) (List.map encP (P.decPs (List.map encP ps))),true),(decide (0 < (List.map encP ps).length),true),(decide ((List.map encP ps).length < 1099511627776),true),(eqB (List.map encM ms) (List.map encM (P.decMs (List.map encM ms))),true),(decide ((List.map encM ms).length < 1099511627776),true),((P.decMs (List.map encM ms)).all fun m=>decide (-1000000000000000000≤m.2∧m.2≤1000000000000000000∧-1000000000000000000≤m.3∧m.3≤1000000000000000000),true),(P.hoE (P.decMs (List.map encM ms)) (Fd.rd r k 0) (Fd.rd r k 1) != 0,false),(decide ((↑(List.map encI ids).length:Int) > 1),true),(decide (IntKind.i64.wrap (P.hoV (P.decMs (List.map encM ms)) (Fd.rd r k 0) (Fd.rd r k 1) - u) > s.2),false),(decide (IntKind.i64.wrap (u - P.hoV (P.decMs (List.map encM ms)) (Fd.rd r k 0) (Fd.rd r k 1)) > s.2),false),((↑i:Int)==0,false),(decide (P.hoV (P.decMs (List.map encM ms)) (Fd.rd r k 0) (Fd.rd r k 1) < a),false),(decide (P.hoV (P.decMs (List.map encM ms)) (Fd.rd r k 0) (Fd.rd r k 1) > b),true)] [2,0,2,3,0,4,5,6,0,2,3,0,2,3,0,1,7,8,9,10,11,12,13,0,1,14,14,14,14,14,15,15,15,15,15,15,15,15,16,16,16,16,16,16,16,15,16,14,15,14,17,18,18,18,18,19,18,18,18,18,20] { env:=[(3,V.sl zr (List.map encD r)),(4,V.ptr 0 0),(9,V.ptr 3 0),(10,.int .i64 a),(11,.int .i64 (P.hoV (P.decMs (List.map encM ms)) (Fd.rd r k 0) (Fd.rd r k 1))),(13,V.ptr 4 0),(15,.int .i64 t),(16,.int .i64 (↑i:Int)),(17,V.bool true),(18,.int .i64 (IntKind.i64.wrap ((↑k:Int)+1)))],heap:=[B.cells [.int .i64 s.1,.int .i64 s.2,.int .i64 s.3,.int .i64 s.4],B.cells [.int .i64 s.1,.int .i64 s.2,.int .i64 s.3,.int .i64 s.4],B.cells [.int .i64 s.1,.int .i64 s.2,.int .i64 s.3,.int .i64 s.4],B.cells [V.ptr 2 0,V.ex 6 false (List.map encM ms),V.ex 4 false (List.map encP ps)],B.cells [.int .i64 ep,.int .i64 u,V.sl false (List.map encI ids),V.sl false (List.map encI ws)]] } (by kernel_rfl) ?_ (by rw[hwi,decMs_enc,h0,h1];first | (rw[hho];done) | (rw[hho];rfl) | rfl) hr
     refine⟨?_,?_,?_,?_,?_,?_,?_,?_,?_,?_,?_,?_,?_,?_,?_,?_,?_,?_,?_,trivial⟩
     all_goals first
                   | (simp;done)
                   | (simp;omega)
                   | exact fitD _ _ hk
                   | exact fitI _ _ hi
                   | exact hne
                   | exact eqB_self _
                   | exact isPs_enc _
                   | exact isMs_enc _
                   | (rw[List.length_map];exact decide_eq_true (by omega))
                   | (rw[List.length_map];exact decide_eq_false (by omega))
                   | (rw[decMs_enc];exact hI.okMs (by omega))
                   | (rw[decMs_enc,h0,h1];exact hE)
                   | (rw[decMs_enc,h0,h1,hho];first | exact hg1 | exact hg2 | exact ha | exact hb)
                   | exact hi0
                   | done
    ·have hb:=decide_eq_false hb'
     rw[show P.mx i e b=b by unfold P.mx;rw[if_neg (by omega)]] at hr
     refine nextE U17_ok noL [(decide ((↑k:Int) < (↑(List.map encD r).length:Int)),true),(((List.map encD r).getD k V.undef).cells.length==2&&fitP [.int .i64,.int .i64] 0 ((List.map encD r).getD k V.undef),true),(decide ((↑i:Int) < (↑(List.map encI ids).length:Int)),true),(((List.map encI ids).getD i V.undef).cells.length==1&&fitP [.int .i64] 0 ((List.map encI ids).getD i V.undef),true),(Fd.rd r k 0 != Fd.iu ids i,false),(eqB [V.int IntKind.i64 s.1,.int .i64 s.2,.int .i64 s.3,.int .i64 s.4] [.int .i64 s.1,.int .i64 s.2,.int .i64 s.3,.int .i64 s.4],true),(eqB (List.map encP ps) (List.map encP (P.decPs (List.map encP ps))),true),(decide (0 < (List.map encP ps).length),true),(decide ((List.map encP ps).length < 1099511627776),true),(eqB (List.map encM ms) (List.map encM (P.decMs (List.map encM ms))),true),(decide ((List.map encM ms).length < 1099511627776),true),((P.decMs (List.map encM ms)).all fun m=>decide (-1000000000000000000≤m.2∧m.2≤1000000000000000000∧-1000000000000000000≤m.3∧m.3≤1000000000000000000),true),(P.hoE (P.decMs (List.map encM ms)) (Fd.rd r k 0) (Fd.rd r k 1) != 0,false),(decide ((↑(List.map encI ids).length:Int) > 1),true),(decide (IntKind.i64.wrap (P.hoV (P.decMs (List.map encM ms)) (Fd.rd r k 0) (Fd.rd r k 1) - u) > s.2),false),(decide (IntKind.i64.wrap (u - P.hoV (P.decMs (List.map encM ms)) (Fd.rd r k 0) (Fd.rd r k 1)) > s.2),false),((↑i:Int)==0,false),(decide (P.hoV (P.decMs (List.map encM ms)) (Fd.rd r k 0) (Fd.rd r k 1) < a),false),(decide (P.hoV (P.decMs (List.map encM ms)) (Fd.rd r k 0) (Fd.rd r k 1) > b),false)] [2,0,2,3,0,4,5,6,0,2,3,0,2,3,0,1,7,8,9,10,11,12,13,0,1,14,14,14,14,14,15,15,15,15,15,15,15,15,16,16,16,16,16,16,16,15,16,14,15,14,17,18,18,18,18,19,18,18,18,18,20] { env:=[(3,V.sl zr (List.map encD r)),(4,V.ptr 0 0),(9,V.ptr 3 0),(10,.int .i64 a),(11,.int .i64 b),(13,V.ptr 4 0),(15,.int .i64 t),(16,.int .i64 (↑i:Int)),(17,V.bool true),(18,.int .i64 (IntKind.i64.wrap ((↑k:Int)+1)))],heap:=[B.cells [.int .i64 s.1,.int .i64 s.2,.int .i64 s.3,.int .i64 s.4],B.cells [.int .i64 s.1,.int .i64 s.2,.int .i64 s.3,.int .i64 s.4],B.cells [.int .i64 s.1,.int .i64 s.2,.int .i64 s.3,.int .i64 s.4],B.cells [V.ptr 2 0,V.ex 6 false (List.map encM ms),V.ex 4 false (List.map encP ps)],B.cells [.int .i64 ep,.int .i64 u,V.sl false (List.map encI ids),V.sl false (List.map encI ws)]] } (by kernel_rfl) ?_ (by rw[hwi];rfl) hr
     refine⟨?_,?_,?_,?_,?_,?_,?_,?_,?_,?_,?_,?_,?_,?_,?_,?_,?_,?_,?_,trivial⟩
     all_goals first
                   | (simp;done)
                   | (simp;omega)
                   | exact fitD _ _ hk
                   | exact fitI _ _ hi
                   | exact hne
                   | exact eqB_self _
                   | exact isPs_enc _
                   | exact isMs_enc _
                   | (rw[List.length_map];exact decide_eq_true (by omega))
                   | (rw[List.length_map];exact decide_eq_false (by omega))
                   | (rw[decMs_enc];exact hI.okMs (by omega))
                   | (rw[decMs_enc,h0,h1];exact hE)
                   | (rw[decMs_enc,h0,h1,hho];first | exact hg1 | exact hg2 | exact ha | exact hb)
                   | exact hi0
                   | done
def liE (a b:Int) (i:Nat) (f:Bool):Ex×St:=(.exit 2,⟨(liS s ms ps zr r ep u ids ws a b t i f r.length).env++[(102,.bool false)],lwH s ms ps ep u ids ws⟩)
theorem li_none (hrl:r.length < 2 ^ 40) (a b:Int) (i:Nat) (hi:i < ids.length) (f:Bool):∀ (d k:Nat),k+d=r.length→(r.drop k).filter (fun x=>decide (x.id=ids[i]))=[] →
  LRuns (vstep T (vlim T F) lplim fi6.cx 5 (lb fi6 1)) (liS s ms ps zr r ep u ids ws a b t i f k) (liE s ms ps zr r ep u ids ws t a b i f)
 | 0,k,hd,_=>by
  have hk:k=r.length:=by omega
  subst hk
  refine lastE U17_ok noL [(decide ((↑(r.length):Int) < (↑(List.map encD r).length:Int)),false)] [2] (Ex.exit 2,{ env:=[(3,V.sl zr (List.map encD r)),(4,V.ptr 0 0),(9,V.ptr 3 0),(10,.int .i64 a),(11,.int .i64 b),(13,V.ptr 4 0),(15,.int .i64 t),(16,.int .i64 (↑i:Int)),(17,V.bool f),(18,.int .i64 (↑(r.length):Int)),(102,V.bool (decide ((↑(r.length):Int) < (↑(List.map encD r).length:Int))))],heap:=[B.cells [.int .i64 s.1,.int .i64 s.2,.int .i64 s.3,.int .i64 s.4],B.cells [.int .i64 s.1,.int .i64 s.2,.int .i64 s.3,.int .i64 s.4],B.cells [.int .i64 s.1,.int .i64 s.2,.int .i64 s.3,.int .i64 s.4],B.cells [V.ptr 2 0,V.ex 6 false (List.map encM ms),V.ex 4 false (List.map encP ps)],B.cells [.int .i64 ep,.int .i64 u,V.sl false (List.map encI ids),V.sl false (List.map encI ws)]] }) (by kernel_rfl) (by simp) ⟨by simp,trivial⟩ (by simp[liS,liE,lwH,bS])
 | d+1,k,hd,hf=>by
  have hk:k < r.length:=by omega
  have hwi:IntKind.i64.wrap ((k:Int)+1)=((k+1:Nat):Int):=by rw[i64in (by omega) (by omega)];rfl
  rw[List.drop_eq_getElem_cons hk] at hf
  by_cases hid:r[k].id=ids[i]
  ·rw[List.filter_cons_of_pos (by simpa using hid)] at hf;cases hf
  ·rw[List.filter_cons_of_neg (by simpa using hid)] at hf
   have hne:(Fd.rd r k 0 != Fd.iu ids i)=true:=by rw[rd0 r k hk,iu_at ids i hi];simpa using hid
   refine nextE U17_ok noL [(decide ((↑k:Int) < (↑(List.map encD r).length:Int)),true),(((List.map encD r).getD k V.undef).cells.length==2&&fitP [.int .i64,.int .i64] 0 ((List.map encD r).getD k V.undef),true),(decide ((↑i:Int) < (↑(List.map encI ids).length:Int)),true),(((List.map encI ids).getD i V.undef).cells.length==1&&fitP [.int .i64] 0 ((List.map encI ids).getD i V.undef),true),(Fd.rd r k 0 != Fd.iu ids i,true)] [2,0,2,3,0,4,5,6] { env:=[(3,V.sl zr (List.map encD r)),(4,V.ptr 0 0),(9,V.ptr 3 0),(10,.int .i64 a),(11,.int .i64 b),(13,V.ptr 4 0),(15,.int .i64 t),(16,.int .i64 (↑i:Int)),(17,V.bool f),(18,.int .i64 (IntKind.i64.wrap ((↑k:Int)+1)))],heap:=[B.cells [.int .i64 s.1,.int .i64 s.2,.int .i64 s.3,.int .i64 s.4],B.cells [.int .i64 s.1,.int .i64 s.2,.int .i64 s.3,.int .i64 s.4],B.cells [.int .i64 s.1,.int .i64 s.2,.int .i64 s.3,.int .i64 s.4],B.cells [V.ptr 2 0,V.ex 6 false (List.map encM ms),V.ex 4 false (List.map encP ps)],B.cells [.int .i64 ep,.int .i64 u,V.sl false (List.map encI ids),V.sl false (List.map encI ws)]] } (by kernel_rfl) ?_ (by rw[hwi];rfl) (li_none hrl a b i hi f d (k+1) (by omega) hf)
   exact⟨by simp;omega,fitD _ _ hk,by simp;omega,fitI _ _ hi,hne,trivial⟩
theorem li_one {n:Nat} (hI:Inv s ms ps n) (hn:n≤20000) (hrl:r.length < 2 ^ 40) (hil:ids.length≤16) (a b e df:Int) (i:Nat) (hi:i < ids.length) (hoE:P.hoE ms ids[i] df=0) (hho:P.hoV ms ids[i] df=e)
  (hu:-2000000000002≤u∧u≤2000000000002) (he:-2000000000000≤e∧e≤2000000000000) (hg:ids.length≤1∨(e - u≤s.gate∧u - e≤s.gate)):∀ (d k:Nat) (f:Bool),k+d=r.length→(r.drop k).filter (fun x=>decide (x.id=ids[i]))=[⟨ids[i],df⟩] →
  LRuns (vstep T (vlim T F) lplim fi6.cx 5 (lb fi6 1)) (liS s ms ps zr r ep u ids ws a b t i f k) (liE s ms ps zr r ep u ids ws t (P.mn i e a) (P.mx i e b) i true)
 | 0,k,f,hd,hf=>by
  have hk:k=r.length:=by omega
  subst hk
  rw[List.drop_length] at hf
  simp at hf
 | d+1,k,f,hd,hf=>by
  have hk:k < r.length:=by omega
  have hwi:IntKind.i64.wrap ((k:Int)+1)=((k+1:Nat):Int):=by rw[i64in (by omega) (by omega)];rfl
  rw[List.drop_eq_getElem_cons hk] at hf
  by_cases hid:r[k].id=ids[i]
  ·rw[List.filter_cons_of_pos (by simpa using hid)] at hf
   injection hf with h1 h2
   have hdf:r[k].df=df:=by rw[h1]
   exact li_hit s ms ps zr r ep u ids ws t hI hn hrl hil a b e i f k hk hi hid (by rw[hdf];exact hoE) (by rw[hdf];exact hho) hu he hg (li_none s ms ps zr r ep u ids ws t hrl _ _ i hi true d (k+1) (by omega) h2)
  ·rw[List.filter_cons_of_neg (by simpa using hid)] at hf
   have hne:(Fd.rd r k 0 != Fd.iu ids i)=true:=by rw[rd0 r k hk,iu_at ids i hi];simpa using hid
   refine nextE U17_ok noL [(decide ((↑k:Int) < (↑(List.map encD r).length:Int)),true),(((List.map encD r).getD k V.undef).cells.length==2&&fitP [.int .i64,.int .i64] 0 ((List.map encD r).getD k V.undef),true),(decide ((↑i:Int) < (↑(List.map encI ids).length:Int)),true),(((List.map encI ids).getD i V.undef).cells.length==1&&fitP [.int .i64] 0 ((List.map encI ids).getD i V.undef),true),(Fd.rd r k 0 != Fd.iu ids i,true)] [2,0,2,3,0,4,5,6] { env:=[(3,V.sl zr (List.map encD r)),(4,V.ptr 0 0),(9,V.ptr 3 0),(10,.int .i64 a),(11,.int .i64 b),(13,V.ptr 4 0),(15,.int .i64 t),(16,.int .i64 (↑i:Int)),(17,V.bool f),(18,.int .i64 (IntKind.i64.wrap ((↑k:Int)+1)))],heap:=[B.cells [.int .i64 s.1,.int .i64 s.2,.int .i64 s.3,.int .i64 s.4],B.cells [.int .i64 s.1,.int .i64 s.2,.int .i64 s.3,.int .i64 s.4],B.cells [.int .i64 s.1,.int .i64 s.2,.int .i64 s.3,.int .i64 s.4],B.cells [V.ptr 2 0,V.ex 6 false (List.map encM ms),V.ex 4 false (List.map encP ps)],B.cells [.int .i64 ep,.int .i64 u,V.sl false (List.map encI ids),V.sl false (List.map encI ws)]] } (by kernel_rfl) ?_ (by rw[hwi];rfl) (li_one hI hn hrl hil a b e df i hi hoE hho hu he hg d (k+1) f (by omega) hf)
   exact⟨by simp;omega,fitD _ _ hk,by simp;omega,fitI _ _ hi,hne,trivial⟩
end LWs
theorem lb6:loopsOf (lb fi6 0)=[lb fi6 1]:=by kernel_rfl
theorem tot_take (l:List Int) (k:Nat) (h:k < l.length):P.tot (l.take (k+1))=P.tot (l.take k)+l[k]:=by
 induction l generalizing k with
 | nil=>simp at h
 | cons x l ih =>
  cases k with
  | zero=>simp[P.tot]
  | succ k =>
   simp only[List.take_succ_cons,P.tot,List.getElem_cons_succ,ih k (by simpa using h)];omega
theorem tot_take_b:∀ (l:List Int) (k:Nat),(∀ x∈l,0≤x∧x≤1000000)→0≤P.tot (l.take k)∧P.tot (l.take k)≤k*1000000
 | [],k,_=>by simp[P.tot];omega
 | x::l,0,_=>by simp[P.tot]
 | x::l,k+1,h=>by
  have:=tot_take_b l k (fun y hy=>h y (by simp[hy]))
  have:=h x (by simp)
  simp only[List.take_succ_cons,P.tot];omega
structure Kn (s:Set4) (ms:List Mem) (r:List Rd) (u:Int) (ids ws ests:List Int):Prop where
 il:ids.length≤16
 wl:ws.length=ids.length
 el:ests.length=ids.length
 wb:∀ x∈ws,0≤x∧x≤1000000
 wt:P.tot ws=1000000
 wc:1000000≤s.cap*ids.length→∀ x∈ws,x≤s.cap
 ub:-2000000000002≤u∧u≤2000000000002
 eb:∀ e∈ests,-2000000000000≤e∧e≤2000000000000
 ga:ids.length≤1∨∀ e∈ests,e - u≤s.gate∧u - e≤s.gate
 hit:∀ (i:Nat) (h:i < ids.length),∃ d,r.filter (fun x=>decide (x.id=ids[i]))=[⟨ids[i],d⟩]∧P.hoE ms ids[i] d=0∧∃ h':i < ests.length,P.hoV ms ids[i] d=ests[i]
theorem lw_loop (s:Set4) (ms:List Mem) (ps:List Pnt) (zr:Bool) (r:List Rd) (ep u:Int) (ids ws ests:List Int) {n:Nat} (hI:Inv s ms ps n) (hn:n≤20000) (hrl:r.length < 2 ^ 40) (K:Kn s ms r u ids ws ests):∀ (d i:Nat) (a b:Int),i+d=ids.length→(∀ (j:Nat) (h:j < ests.length),j < i→a≤ests[j]∧ests[j]≤b) →
  ∃ a2 b2,(∀ e∈ests,a2≤e∧e≤b2)∧LRuns (vstep T (vlim T F) lplim fi6.cx 5 (lb fi6 0)) (lwS s ms ps zr r ep u ids ws a b (P.tot (ws.take i)) i) (.exit 0,⟨(lwS s ms ps zr r ep u ids ws a2 b2 1000000 ids.length).env++[(64,.bool false)],lwH s ms ps ep u ids ws⟩)
 | 0,i,a,b,hd,hab=>by
  have hi:i=ids.length:=by omega
  subst hi
  refine⟨a,b,fun e he=>?_,?_⟩
  ·obtain⟨j,hj,rfl⟩:=List.mem_iff_getElem.1 he
   exact hab j hj (by have:=K.el;omega)
  ·rw[←K.wl,List.take_length,K.wt,K.wl]
   refine lastE U17_ok noL [(decide ((↑(ids.length):Int) < (↑(List.map encI ids).length:Int)),false)] [2,2,2,2,2,2,1] (Ex.exit 0,{ env:=[(3,V.sl zr (List.map encD r)),(4,V.ptr 0 0),(9,V.ptr 3 0),(10,.int .i64 a),(11,.int .i64 b),(13,V.ptr 4 0),(15,.int .i64 (1000000)),(16,.int .i64 (↑(ids.length):Int)),(64,V.bool false)],heap:=[B.cells [.int .i64 s.1,.int .i64 s.2,.int .i64 s.3,.int .i64 s.4],B.cells [.int .i64 s.1,.int .i64 s.2,.int .i64 s.3,.int .i64 s.4],B.cells [.int .i64 s.1,.int .i64 s.2,.int .i64 s.3,.int .i64 s.4],B.cells [V.ptr 2 0,V.ex 6 false (List.map encM ms),V.ex 4 false (List.map encP ps)],B.cells [.int .i64 ep,.int .i64 u,V.sl false (List.map encI ids),V.sl false (List.map encI ws)]] }) (by kernel_rfl) (by simp) ⟨by simp,trivial⟩ (by simp[lwS,lwH,bS])
 | d+1,i,a,b,hd,hab=>by
  have hi:i < ids.length:=by omega
  have hw:i < ws.length:=by have:=K.wl;omega
  have hil:=K.il
  have hwi:IntKind.i64.wrap ((i:Int)+1)=((i+1:Nat):Int):=by rw[i64in (by omega) (by omega)];rfl
  obtain⟨df,h1,h2,he,h3⟩:=K.hit i hi
  have hwb:=K.wb ws[i] (List.getElem_mem hw)
  have htb:=tot_take_b ws i K.wb
  have hes:=K.eb ests[i] (List.getElem_mem he)
  have ht:IntKind.i64.wrap (P.tot (ws.take i)+Fd.iu ws i)=P.tot (ws.take (i+1)):=by
   rw[iu_at ws i hw,tot_take ws i hw,i64in (by omega) (by omega)]
  have hq:=li_one s ms ps zr r ep u ids ws (P.tot (ws.take (i+1))) hI hn hrl hil a b ests[i] df i hi h2 h3 K.ub hes (K.ga.imp id (fun h=>h _ (List.getElem_mem he))) r.length 0 false (by omega) (by rw[List.drop_zero];exact h1)
  obtain⟨a2,b2,g1,g2⟩:=lw_loop s ms ps zr r ep u ids ws ests hI hn hrl K d (i+1) (P.mn i ests[i] a) (P.mx i ests[i] b) (by omega) (fun j hj hji=>by
   unfold P.mn P.mx
   by_cases hjj:j=i
   ·subst hjj
    split <;> split <;> omega
   ·have:=hab j hj (by omega)
    split <;> split <;> omega)
  refine⟨a2,b2,g1,?_⟩
  have hL:LGood T (vlim T F) lplim fi6.cx (loopsIs [(20,liS s ms ps zr r ep u ids ws a b (P.tot (ws.take (i+1))) i false 0,liE s ms ps zr r ep u ids ws (P.tot (ws.take (i+1))) (P.mn i ests[i] a) (P.mx i ests[i] b) i true)]) (lb fi6 0) :=
   LGood.one (b:=lb fi6 1) lb6 (by exact hq)
  have hw0:decide (Fd.iu ws i < 0)=false:=decide_eq_false (by rw[iu_at ws i hw];omega)
  have hcl:IntKind.i64.wrap (s.cap*(↑(List.map encI ids).length:Int))=s.cap*ids.length:=by
   have hc:=hI.set.cap
   have:=mulb (x:=s.cap) (y:=ids.length) (A:=1000000) (B:=16) ⟨by omega,by omega⟩ ⟨by omega,by omega⟩
   rw[List.length_map,i64in (by omega) (by omega)]
  by_cases hc:1000000≤s.cap*ids.length
  ·have hc1:decide (IntKind.i64.wrap (s.cap*(↑(List.map encI ids).length:Int))≥1000000)=true:=decide_eq_true (by rw[hcl];exact hc)
   have hc2:decide (Fd.iu ws i > s.cap)=false:=decide_eq_false (by rw[iu_at ws i hw];have:=K.wc hc _ (List.getElem_mem hw);omega)
   refine nextE U17_ok hL [(decide ((↑i:Int) < (↑(List.map encI ids).length:Int)),true),(decide ((↑i:Int) < (↑(List.map encI ws).length:Int)),true),(((List.map encI ws).getD i V.undef).cells.length==1&&fitP [.int .i64] 0 ((List.map encI ws).getD i V.undef),true),(decide (Fd.iu ws i < 0),false),(decide (IntKind.i64.wrap (s.1*(↑(List.map encI ids).length:Int))≥1000000),true),(decide (Fd.iu ws i > s.1),false),(is { env:=[(3,V.sl zr (List.map encD r)),(4,V.ptr 0 0),(9,V.ptr 3 0),(10,.int .i64 a),(11,.int .i64 b),(13,V.ptr 4 0),(15,.int .i64 (IntKind.i64.wrap (((P.tot (ws.take i)))+Fd.iu ws i))),(16,.int .i64 (↑i:Int)),(17,V.bool false),(18,.int .i64 0)],heap:=[B.cells [.int .i64 s.1,.int .i64 s.2,.int .i64 s.3,.int .i64 s.4],B.cells [.int .i64 s.1,.int .i64 s.2,.int .i64 s.3,.int .i64 s.4],B.cells [.int .i64 s.1,.int .i64 s.2,.int .i64 s.3,.int .i64 s.4],B.cells [V.ptr 2 0,V.ex 6 false (List.map encM ms),V.ex 4 false (List.map encP ps)],B.cells [.int .i64 ep,.int .i64 u,V.sl false (List.map encI ids),V.sl false (List.map encI ws)]] } { env:=[(3,V.sl zr (List.map encD r)),(4,V.ptr 0 0),(9,V.ptr 3 0),(10,.int .i64 a),(11,.int .i64 b),(13,V.ptr 4 0),(15,.int .i64 ((P.tot (ws.take (i+1))))),(16,.int .i64 (↑i:Int)),(17,V.bool false),(18,.int .i64 0)],heap:=[B.cells [.int .i64 s.1,.int .i64 s.2,.int .i64 s.3,.int .i64 s.4],B.cells [.int .i64 s.1,.int .i64 s.2,.int .i64 s.3,.int .i64 s.4],B.cells [.int .i64 s.1,.int .i64 s.2,.int .i64 s.3,.int .i64 s.4],B.cells [V.ptr 2 0,V.ex 6 false (List.map encM ms),V.ex 4 false (List.map encP ps)],B.cells [.int .i64 ep,.int .i64 u,V.sl false (List.map encI ids),V.sl false (List.map encI ws)]] },true)] [2,2,2,2,2,2,3,0,3,4,0,3,4,5,5,5,5,5,5,5,5,6,6,6,6,0,3,4,6,6,6,6,5,6,5,7,8,1] { env:=[(3,V.sl zr (List.map encD r)),(4,V.ptr 0 0),(9,V.ptr 3 0),(10,.int .i64 ((P.mn i ests[i] a))),(11,.int .i64 ((P.mx i ests[i] b))),(13,V.ptr 4 0),(15,.int .i64 ((P.tot (ws.take (i+1))))),(16,.int .i64 (IntKind.i64.wrap ((↑i:Int)+1)))],heap:=[B.cells [.int .i64 s.1,.int .i64 s.2,.int .i64 s.3,.int .i64 s.4],B.cells [.int .i64 s.1,.int .i64 s.2,.int .i64 s.3,.int .i64 s.4],B.cells [.int .i64 s.1,.int .i64 s.2,.int .i64 s.3,.int .i64 s.4],B.cells [V.ptr 2 0,V.ex 6 false (List.map encM ms),V.ex 4 false (List.map encP ps)],B.cells [.int .i64 ep,.int .i64 u,V.sl false (List.map encI ids),V.sl false (List.map encI ws)]] } (by kernel_rfl) ?_ (by rw[hwi];rfl) g2
   exact⟨by simp;omega,by simp;omega,fitI _ _ hw,hw0,hc1,hc2,is_eq (by rw[ht]),trivial⟩
  ·have hc1:decide (IntKind.i64.wrap (s.cap*(↑(List.map encI ids).length:Int))≥1000000)=false:=decide_eq_false (by rw[hcl];omega)
   refine nextE U17_ok hL [(decide ((↑i:Int) < (↑(List.map encI ids).length:Int)),true),(decide ((↑i:Int) < (↑(List.map encI ws).length:Int)),true),(((List.map encI ws).getD i V.undef).cells.length==1&&fitP [.int .i64] 0 ((List.map encI ws).getD i V.undef),true),(decide (Fd.iu ws i < 0),false),(decide (IntKind.i64.wrap (s.1*(↑(List.map encI ids).length:Int))≥1000000),false),(is { env:=[(3,V.sl zr (List.map encD r)),(4,V.ptr 0 0),(9,V.ptr 3 0),(10,.int .i64 a),(11,.int .i64 b),(13,V.ptr 4 0),(15,.int .i64 (IntKind.i64.wrap (((P.tot (ws.take i)))+Fd.iu ws i))),(16,.int .i64 (↑i:Int)),(17,V.bool false),(18,.int .i64 0)],heap:=[B.cells [.int .i64 s.1,.int .i64 s.2,.int .i64 s.3,.int .i64 s.4],B.cells [.int .i64 s.1,.int .i64 s.2,.int .i64 s.3,.int .i64 s.4],B.cells [.int .i64 s.1,.int .i64 s.2,.int .i64 s.3,.int .i64 s.4],B.cells [V.ptr 2 0,V.ex 6 false (List.map encM ms),V.ex 4 false (List.map encP ps)],B.cells [.int .i64 ep,.int .i64 u,V.sl false (List.map encI ids),V.sl false (List.map encI ws)]] } { env:=[(3,V.sl zr (List.map encD r)),(4,V.ptr 0 0),(9,V.ptr 3 0),(10,.int .i64 a),(11,.int .i64 b),(13,V.ptr 4 0),(15,.int .i64 ((P.tot (ws.take (i+1))))),(16,.int .i64 (↑i:Int)),(17,V.bool false),(18,.int .i64 0)],heap:=[B.cells [.int .i64 s.1,.int .i64 s.2,.int .i64 s.3,.int .i64 s.4],B.cells [.int .i64 s.1,.int .i64 s.2,.int .i64 s.3,.int .i64 s.4],B.cells [.int .i64 s.1,.int .i64 s.2,.int .i64 s.3,.int .i64 s.4],B.cells [V.ptr 2 0,V.ex 6 false (List.map encM ms),V.ex 4 false (List.map encP ps)],B.cells [.int .i64 ep,.int .i64 u,V.sl false (List.map encI ids),V.sl false (List.map encI ws)]] },true)] [2,2,2,2,2,2,3,0,3,4,0,3,4,5,5,5,5,5,5,5,5,6,6,6,6,6,6,6,6,5,6,5,1,7,1] { env:=[(3,V.sl zr (List.map encD r)),(4,V.ptr 0 0),(9,V.ptr 3 0),(10,.int .i64 ((P.mn i ests[i] a))),(11,.int .i64 ((P.mx i ests[i] b))),(13,V.ptr 4 0),(15,.int .i64 ((P.tot (ws.take (i+1))))),(16,.int .i64 (IntKind.i64.wrap ((↑i:Int)+1)))],heap:=[B.cells [.int .i64 s.1,.int .i64 s.2,.int .i64 s.3,.int .i64 s.4],B.cells [.int .i64 s.1,.int .i64 s.2,.int .i64 s.3,.int .i64 s.4],B.cells [.int .i64 s.1,.int .i64 s.2,.int .i64 s.3,.int .i64 s.4],B.cells [V.ptr 2 0,V.ex 6 false (List.map encM ms),V.ex 4 false (List.map encP ps)],B.cells [.int .i64 ep,.int .i64 u,V.sl false (List.map encI ids),V.sl false (List.map encI ws)]] } (by kernel_rfl) ?_ (by rw[hwi];rfl) g2
   exact⟨by simp;omega,by simp;omega,fitI _ _ hw,hw0,hc1,is_eq (by rw[ht]),trivial⟩
end Go.Proofs.Ytnijkhcmjpfjeaa
