/- D4: powers,the average. -/
import Derived.Test.YtnijkhcmjpfjeaaD3
import Derived.Test.YtnijkhcmjpfjeaaE1
namespace Go.Proofs.Ytnijkhcmjpfjeaa
open Go Go.Vm
namespace P
def vs:List Int→Int
 | []=>0
 | x::l=>x.tdiv 1000*x.tdiv 1000+vs l
def pow (l:List Int):Int :=
 let v:=if 0<l.length then (vs l).tdiv l.length else vs l
 let x:=(100000000000:Int).tdiv (v+1)
 if 1>x then 1 else x
end P
def okI (l:List Int):Prop:=∀ x∈l,-1000000000≤x∧x≤1000000000
theorem sq_le {x:Int} (h:-1000000000≤x∧x≤1000000000):-1000000≤x.tdiv 1000∧x.tdiv 1000≤1000000∧0≤x.tdiv 1000*x.tdiv 1000∧x.tdiv 1000*x.tdiv 1000≤1000000000000:=by
 have h1:-1000000≤x.tdiv 1000∧x.tdiv 1000≤1000000:=by
  rcases Int.le_total 0 x with h0 | h0
  ·have:=Int.mul_tdiv_add_tmod x 1000
   have:=Int.tmod_nonneg 1000 h0
   have:=Int.tdiv_nonneg h0 (show (0:Int)≤1000 by omega)
   omega
  ·have e:x.tdiv 1000=-((-x).tdiv 1000):=by rw[Int.neg_tdiv];omega
   have:=Int.mul_tdiv_add_tmod (-x) 1000
   have:=Int.tmod_nonneg (a:=-x) 1000 (by omega)
   have:=Int.tdiv_nonneg (a:=-x) (b:=1000) (by omega) (by omega)
   omega
 have m1:=mulb (x:=x.tdiv 1000) (y:=x.tdiv 1000) (A:=1000000) (B:=1000000) h1 h1;have h3:0≤x.tdiv 1000*x.tdiv 1000:=by
  rcases Int.le_total 0 (x.tdiv 1000) with h0 | h0
  ·exact Int.mul_nonneg h0 h0
  ·exact Int.mul_nonneg_of_nonpos_of_nonpos h0 h0
 exact⟨h1.1,h1.2,h3,by omega⟩
theorem vs_le:∀ {l:List Int},okI l→0≤P.vs l∧P.vs l≤1000000000000*(l.length:Int)
 | [],_=>by simp[P.vs]
 | x::l,h=>by
  have:=vs_le (l:=l) (fun y hy=>h y (by simp[hy]))
  have:=sq_le (h x (by simp))
  simp only[P.vs,List.length_cons];omega
theorem vs_avg {l:List Int} (h:okI l) (hl:l.length≤1000000):0≤(if 0<l.length then (P.vs l).tdiv l.length else P.vs l)∧(if 0<l.length then (P.vs l).tdiv l.length else P.vs l)≤1000000000000000000:=by
 have h1:=vs_le h;split
 ·have h2:=Int.tdiv_nonneg h1.1 (show (0:Int)≤l.length by omega)
  have h3:=Int.tdiv_le_self (l.length:Int) h1.1;omega
 ·omega
theorem pow_ok {l:List Int} (h:okI l) (hl:l.length≤1000000):1≤P.pow l∧P.pow l≤100000000000:=by
 unfold P.pow
 dsimp only
 have h1:=vs_avg h hl;generalize (if 0<l.length then (P.vs l).tdiv l.length else P.vs l)=v at *;have h2:=Int.tdiv_le_self (v+1) (show (0:Int)≤100000000000 by omega)
 split<;>omega
def pwS (m:Mem) (v k:Int):St:=⟨[(1,V.ptr 0 0),(3,.int .i64 v),(8,V.sl m.nil (List.map encI m.miss)),(9,.int .i64 m.miss.length),(10,.int .i64 k)],[B.cells [.int .i64 m.id,.int .i64 m.h,.int .i64 m.rate,.int .i64 m.memory,.int .i64 m.since,V.sl m.nil (List.map encI m.miss)]]⟩
theorem pw_loop (m:Mem) (h:okI m.miss) (hl:m.miss.length≤1000000):∀ (d k:Nat) (v:Int),k+d=m.miss.length→0≤v→v≤1000000000000*(k:Int) →
  LRuns (vstep T (vlim T F) lplim fi77.cx 1 (lb fi77 0)) (pwS m v k) (.exit 0,⟨(pwS m (v+P.vs (m.miss.drop k)) m.miss.length).env++[(11,.bool false)],(pwS m v 0).heap⟩)
 | 0,k,v,hd,h0,h1=>by
  have hk:k=m.miss.length:=by omega
  subst hk;rw[List.drop_length];refine lastE U48_ok noL [(decide ((↑(m.miss.length):Int)<(↑m.7.length:Int)),false)] [2] (Ex.exit 0,{env:=[(1,V.ptr 0 0),(3,.int .i64 v),(8,V.sl m.6 (List.map encI m.7)),(9,.int .i64 (↑m.7.length:Int)),(10,.int .i64 (↑(m.miss.length):Int)),(11,V.bool (decide ((↑(m.miss.length):Int)<(↑m.7.length:Int))))],heap:=[B.cells [.int .i64 m.1,.int .i64 m.2,.int .i64 m.3,.int .i64 m.4,.int .i64 m.5,V.sl m.6 (List.map encI m.7)]]}) (by kernel_rfl) (by simp) ⟨by simp,trivial⟩ (by simp[pwS,P.vs])
 | d+1,k,v,hd,h0,h1=>by
  have hk:k<m.miss.length:=by omega
  have hwi:IntKind.i64.wrap ((k:Int)+1)=((k+1:Nat):Int):=by rw[i64in (by omega) (by omega)];rfl
  have hg:Fd.it m.miss k=m.miss[k]:=it_at _ k hk;have hs:=sq_le (h m.miss[k] (List.getElem_mem hk));rw[List.drop_eq_getElem_cons hk];simp only[P.vs];rw[←Int.add_assoc];refine nextE U48_ok noL [(decide ((↑k:Int)<(↑m.7.length:Int)),true),(decide ((↑k:Int)<(↑(List.map encI m.7).length:Int)),true),(((List.map encI m.7).getD k V.undef).cells.length==1&&fitP [.int .i64] 0 ((List.map encI m.7).getD k V.undef),true)] [2,0,3,4,0,0] {env:=[(1,V.ptr 0 0),(3,.int .i64 (IntKind.i64.wrap (v+IntKind.i64.wrap (IntKind.i64.wrap ((Fd.it m.7 k).tdiv 1000)*IntKind.i64.wrap ((Fd.it m.7 k).tdiv 1000))))),(8,V.sl m.6 (List.map encI m.7)),(9,.int .i64 (↑m.7.length:Int)),(10,.int .i64 (IntKind.i64.wrap ((↑k:Int)+1)))],heap:=[B.cells [.int .i64 m.1,.int .i64 m.2,.int .i64 m.3,.int .i64 m.4,.int .i64 m.5,V.sl m.6 (List.map encI m.7)]]} (by kernel_rfl) ?_ (by rw[hg,i64in (n:=m.miss[k].tdiv 1000) (by omega) (by omega),i64in (n:=m.miss[k].tdiv 1000*m.miss[k].tdiv 1000) (by omega) (by omega),i64in (n:=v+_) (by omega) (by omega),hwi];rfl) (pw_loop m h hl d (k+1) _ (by omega) (by omega) (by omega))
  refine⟨?_,?_,?_,trivial⟩
  all_goals first
   | exact fitI _ _ hk
   | exact fitI' _ _ hk
   | (simp;done)
   | (simp;omega)
theorem pow_runs (m:Mem) (h:okI m.miss) (hl:m.miss.length≤1000000):Runs T F 77 [encM m] [] (.int .i64 (P.pow m.miss),[]):=by
 have hq:=pw_loop m h hl m.miss.length 0 0 (by omega) (by omega) (by omega)
 rw[List.drop_zero,Int.zero_add] at hq;have hv:=vs_le h;have ha:=vs_avg h hl;have hL:=LGood.one (c:=fi77.body) (b:=lb fi77 0) (k:=3) (σ0:=pwS m 0 0) (by kernel_rfl) (by exact hq)
 have fin:∀ v:Int,0≤v→v≤1000000000000000000→IntKind.i64.wrap (v+1)=v+1∧IntKind.i64.wrap (Int.tdiv 100000000000 (v+1))=Int.tdiv 100000000000 (v+1):=fun v h1 h2=>by
  have g1:=Int.tdiv_le_self (v+1) (show (0:Int)≤100000000000 by omega)
  have g2:=Int.tdiv_nonneg (show (0:Int)≤100000000000 by omega) (show 0≤v+1 by omega)
  exact⟨i64in (by omega) (by omega),i64in (by omega) (by omega)⟩
 unfold P.pow
 dsimp only
 by_cases h0:0<m.miss.length
 ·rw[if_pos h0] at ha ⊢
  obtain⟨f1,f2⟩:=fin _ ha.1 ha.2;have hw:IntKind.i64.wrap ((P.vs m.miss).tdiv (m.miss.length:Int))=(P.vs m.miss).tdiv (m.miss.length:Int):=i64in (by omega) (by omega)
  refine wayE U48_ok (fi:=fi77) (by kernel_rfl) hL [(is {env:=[(1,V.ptr 0 0),(3,.int .i64 0),(8,V.sl m.6 (List.map encI m.7)),(9,.int .i64 (↑(List.map encI m.7).length:Int)),(10,.int .i64 0)],heap:=[B.cells [.int .i64 m.1,.int .i64 m.2,.int .i64 m.3,.int .i64 m.4,.int .i64 m.5,V.sl m.6 (List.map encI m.7)]]} {env:=[(1,V.ptr 0 0),(3,.int .i64 0),(8,V.sl m.6 (List.map encI m.7)),(9,.int .i64 (↑m.7.length:Int)),(10,.int .i64 0)],heap:=[B.cells [.int .i64 m.1,.int .i64 m.2,.int .i64 m.3,.int .i64 m.4,.int .i64 m.5,V.sl m.6 (List.map encI m.7)]]},true),(decide ((↑(List.map encI m.7).length:Int)>0),true),(!decide ((↑(List.map encI m.7).length:Int)=0),true),(!decide (IntKind.i64.wrap (IntKind.i64.wrap ((P.vs m.miss).tdiv (↑(List.map encI m.7).length:Int))+1)=0),true)] [2,3,4,5] (V.int IntKind.i64 (if if true=true then 1>IntKind.i64.wrap (Int.tdiv 100000000000 (IntKind.i64.wrap (IntKind.i64.wrap ((P.vs m.miss).tdiv (↑(List.map encI m.7).length:Int))+1))) else 1<IntKind.i64.wrap (Int.tdiv 100000000000 (IntKind.i64.wrap (IntKind.i64.wrap ((P.vs m.miss).tdiv (↑(List.map encI m.7).length:Int))+1))) then 1 else IntKind.i64.wrap (Int.tdiv 100000000000 (IntKind.i64.wrap (IntKind.i64.wrap ((P.vs m.miss).tdiv (↑(List.map encI m.7).length:Int))+1)))),[]) (by kernel_rfl) ?_ (by rw[List.length_map,hw,f1,f2];simp only[if_true])
  refine⟨?_,?_,?_,?_,trivial⟩
  all_goals first
   | (refine is_eq ?_;simp[pwS];done)
   | (rw[List.length_map];simp;omega)
   | (rw[List.length_map,hw];simp;omega)
   | (show (!decide _)=true;rw[decide_eq_false (by rw[List.length_map];omega)];rfl)
   | (simp;omega)
   | done
 ·rw[if_neg h0] at ha ⊢
  obtain⟨f1,f2⟩:=fin _ ha.1 ha.2;refine wayE U48_ok (fi:=fi77) (by kernel_rfl) hL [(is {env:=[(1,V.ptr 0 0),(3,.int .i64 0),(8,V.sl m.6 (List.map encI m.7)),(9,.int .i64 (↑(List.map encI m.7).length:Int)),(10,.int .i64 0)],heap:=[B.cells [.int .i64 m.1,.int .i64 m.2,.int .i64 m.3,.int .i64 m.4,.int .i64 m.5,V.sl m.6 (List.map encI m.7)]]} {env:=[(1,V.ptr 0 0),(3,.int .i64 0),(8,V.sl m.6 (List.map encI m.7)),(9,.int .i64 (↑m.7.length:Int)),(10,.int .i64 0)],heap:=[B.cells [.int .i64 m.1,.int .i64 m.2,.int .i64 m.3,.int .i64 m.4,.int .i64 m.5,V.sl m.6 (List.map encI m.7)]]},true),(decide ((↑(List.map encI m.7).length:Int)>0),false),(!decide (IntKind.i64.wrap ((P.vs m.miss)+1)=0),true)] [2,3,4] (V.int IntKind.i64 (if if true=true then 1>IntKind.i64.wrap (Int.tdiv 100000000000 (IntKind.i64.wrap ((P.vs m.miss)+1))) else 1<IntKind.i64.wrap (Int.tdiv 100000000000 (IntKind.i64.wrap ((P.vs m.miss)+1))) then 1 else IntKind.i64.wrap (Int.tdiv 100000000000 (IntKind.i64.wrap ((P.vs m.miss)+1)))),[]) (by kernel_rfl) ?_ (by rw[f1,f2];simp only[if_true])
  refine⟨?_,?_,?_,trivial⟩
  all_goals first
   | (refine is_eq ?_;simp[pwS];done)
   | exact decide_eq_false (by rw[List.length_map];omega)
   | (simp;omega)
   | done
end Go.Proofs.Ytnijkhcmjpfjeaa
