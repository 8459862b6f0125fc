/- SM: the law of the smooth scale: its loops. -/
import Derived.Test.YtnijkhcmjpfjeaaNX
import Derived.Test.YtnijkhcmjpfjeaaH4
namespace Go.Proofs.Ytnijkhcmjpfjeaa
open Go Go.Vm
namespace P
noncomputable def okNx (s:Set4) (ms:List Mem) (ps:List Pnt) (u c:Int):Bool:=@decide (∃ n,n≤20000∧Inv s ms ps n∧Nx ms u c) (Classical.propDecidable _)
end P
theorem okNx_iff {s:Set4} {ms:List Mem} {ps:List Pnt} {u c:Int}:P.okNx s ms ps u c=true↔∃ n,n≤20000∧Inv s ms ps n∧Nx ms u c:=by
 unfold P.okNx;exact @decide_eq_true_iff _ (Classical.propDecidable _)
noncomputable def nextS:List V→Heap→Tr (V×Heap):=fun a H=>match a with
 | [p,.int .i64 u,.int .i64 c]=>match isPtr 1 p with
  | true=>onSr H (fun s xs ys=>.must (P.okNx s (P.decMs xs) (P.decPs ys) u c) (.ret (.bool true,H))) (fun _ ys=>.must ((P.decPs ys).all okN2) (.ret (.bool true,H)))
  | false=>.fail
 | _=>.fail
theorem nextS_ok:∀ a H r,(nextS a H).run=some r→Runs T F 23 a H r:=by
 intro a H x h;unfold nextS at h;split at h
 ·rename_i p u c
  split at h
  ·rename_i hp
   rw[of_isPtr hp];rcases onSr_run h with ⟨s,ms,ps,rfl,h1,h2,h3,h⟩ | ⟨s,ps,rfl,h1,h2,h⟩
   ·obtain⟨h4,k1⟩:=Tr.must_some h
    have hr:=ret_some k1;subst hr;rw[decMs_enc,decPs_enc] at h4;obtain⟨n,g1,g2,g3⟩:=okNx_iff.1 h4;exact next_runs s ms ps u c g2 g1 g3
   ·obtain⟨h4,k1⟩:=Tr.must_some h
    have hr:=ret_some k1;subst hr;rw[decPs_enc] at h4;exact next0_runs s ps u c h1 h2 h4
  ·cases h
 ·cases h
noncomputable def W23:Vm.Spec:=W21.add 23 nextS
theorem W23_ok:Vm.Good (vlim T F) W23:=W21_ok.add nextS_ok
def smH (s:Set4) (x:Dd) (ms:List Mem) (ps:List Pnt) (ep u:Int) (ids ws:V):Heap:=[bS s,.cells [.int .i64 x.kind,.int .i64 x.id,.int .i64 x.diff,.int .i64 x.rate,.int .i64 x.mem,.sl x.nil (x.rds.map encD)],bS s,bS s,.cells [.ptr 3 0,.ex 6 false (ms.map encM),.ex 4 false (ps.map encP)],.cells [.int .i64 ep,.int .i64 u,ids,ws]]
def sm1 (s:Set4) (x:Dd) (M ms:List Mem) (ps:List Pnt) (ep u:Int) (ids ws:V) (lv ch i:Int):St:=⟨[(3,.int .i64 lv),(5,.int .i64 ch),(10,.ptr 1 0),(13,.ptr 4 0),(14,.sl false (ps.map encP)),(16,.sl false (M.map encM)),(18,.ptr 5 0),(19,.int .i64 i)],smH s x ms ps ep u ids ws⟩
def sm2 (b0 b2 b3 b4 b5:B) (x:Dd) (ch:Int) (z1 z3:Bool) (m1 m3:List Mem) (en:Bool) (i:Int):St:=⟨[(5,.int .i64 ch),(10,.ptr 1 0),(13,.ptr 4 0),(16,.sl z1 (m1.map encM)),(18,.ptr 5 0),(21,.bool en),(23,.sl z3 (m3.map encM)),(24,.int .i64 i)],[b0,.cells [.int .i64 x.kind,.int .i64 x.id,.int .i64 x.diff,.int .i64 x.rate,.int .i64 x.mem,.sl x.nil (x.rds.map encD)],b2,b3,b4,b5]⟩
def sm3 (b0 b2 b3 b4 b5:B) (x:Dd) (ch:Int) (z1 z3:Bool) (m1 m3:List Mem) (en:Bool) (i k:Int):St:=⟨(sm2 b0 b2 b3 b4 b5 x ch z1 z3 m1 m3 en i).env++[(25,.int .i64 k)],(sm2 b0 b2 b3 b4 b5 x ch z1 z3 m1 m3 en i).heap⟩
theorem nod_idx {ms:List Mem} (hn:(ms.map Mem.id).Nodup) {i j:Nat} (hi:i<ms.length) (hj:j<ms.length) (h:ms[i].id=ms[j].id):i=j:=by
 have hp:=List.pairwise_iff_getElem.1 hn;rcases Nat.lt_trichotomy i j with hl | hl | hl
 ·exact absurd (by rw[List.getElem_map,List.getElem_map];exact h) (hp i j (by simpa using hi) (by simpa using hj) hl)
 ·exact hl
 ·exact absurd (by rw[List.getElem_map,List.getElem_map];exact h.symm) (hp j i (by simpa using hj) (by simpa using hi) hl)
theorem leM_mem {ms:List Mem} {i:Int} (hn:(ms.map Mem.id).Nodup) {m:Mem}:m∈P.leM ms i↔m∈ms∧m.id≠i:=by
 unfold P.leM;by_cases h:P.fd ms i 0<0
 ·rw[if_pos h]
  have:=fd_no (Int.le_refl 0) h
  exact⟨fun hm=>⟨hm,fun e=>this (List.mem_map.2 ⟨m,hm,e⟩)⟩,fun hm=>hm.1⟩
 ·rw[if_neg h]
  obtain⟨x,hx,hxi⟩:=fd_some (Int.le_refl 0) h;obtain⟨j,hj,rfl⟩:=List.mem_iff_getElem.1 hx;have hf:P.fd ms i 0=j:=by rw[fd_mem (j:=j) hn (List.getElem?_eq_getElem hj) hxi];omega
  rw[hf,Int.toNat_natCast,List.mem_eraseIdx_iff_getElem];constructor
  ·rintro ⟨k,hk,hkj,rfl⟩
   refine⟨List.getElem_mem hk,fun e=>hkj ?_⟩
   exact nod_idx hn hk hj (by rw[e,hxi])
  ·rintro ⟨hm,hne⟩
   obtain⟨k,hk,rfl⟩:=List.mem_iff_getElem.1 hm;exact⟨k,hk,fun e=>hne (by subst e;exact hxi),rfl⟩
def good (u c:Int) (m:Mem):Prop:=-1000000000000≤m.h+m.rate-u-c∧m.h+m.rate-u-c≤1000000000000
theorem sv_loop (s:Set4) (x:Dd) (M:List Mem) (ps:List Pnt) (ep u:Int) (ids ws:List V) (b1 b2:Bool) (lv ch:Int) {n:Nat} (hn:n≤20000) (hM:Inv s M ps n) (hu:-1000000000000≤u∧u≤1000000000000) (hc:-1000000000000≤ch∧ch≤1000000000000):∀ (d i:Nat) (cur:List Mem),i+d=M.length→Inv s cur ps n→(∀ (j:Nat) (h:j<M.length),i≤j→M[j]∈cur)→(∀ m∈cur,m∈M.drop i∨good u ch m) →
  ∃ ms1,Inv s ms1 ps n∧(∀ m∈ms1,good u ch m)∧LRuns (vstep T (vlim T F) lplim fi5.cx 6 (lb fi5 0)) (sm1 s x M cur ps ep u (.sl b1 ids) (.sl b2 ws) lv ch i) (.exit 0,⟨(sm1 s x M ms1 ps ep u (.sl b1 ids) (.sl b2 ws) lv ch M.length).env++[(79,.bool false)],smH s x ms1 ps ep u (.sl b1 ids) (.sl b2 ws)⟩)
 | 0,i,cur,hd,hI,hin,hg=>by
  have hi:i=M.length:=by omega
  subst hi;rw[List.drop_length] at hg;refine⟨cur,hI,fun m hm=>(hg m hm).resolve_left (by simp),?_⟩
  refine lastE W23_ok noL [(decide ((↑(M.length):Int)<(↑(List.map encM M).length:Int)),false)] [2] (Ex.exit 0,{env:=[(3,.int .i64 lv),(5,.int .i64 ch),(10,V.ptr 1 0),(13,V.ptr 4 0),(14,V.sl false (List.map encP ps)),(16,V.sl false (List.map encM M)),(18,V.ptr 5 0),(19,.int .i64 (↑(M.length):Int)),(79,V.bool (decide ((↑(M.length):Int)<(↑(List.map encM M).length:Int))))],heap:=[bS s,B.cells [.int .i64 x.1,.int .i64 x.2,.int .i64 x.3,.int .i64 x.4,.int .i64 x.5,V.sl x.6 (List.map encD x.7)],bS s,bS s,B.cells [V.ptr 3 0,V.ex 6 false (List.map encM (cur)),V.ex 4 false (List.map encP ps)],B.cells [.int .i64 ep,.int .i64 u,V.sl b1 ids,V.sl b2 ws]]}) (by kernel_rfl) (by simp) ⟨by simp,trivial⟩ (by simp[sm1,smH,bS])
 | d+1,i,cur,hd,hI,hin,hg=>by
  have hi:i<M.length:=by omega
  have hml:=hM.len;have hcl:=hI.len;have hp0:=hI.p0;have hp1:=hI.p1;have hwi:IntKind.i64.wrap ((i:Int)+1)=((i+1:Nat):Int):=by rw[i64in (by omega) (by omega)];rfl
  have hmi:=hM.mem M[i] (List.getElem_mem hi);have hb1:=hmi.h;have hb2:=hmi.rate;have hx:IntKind.i64.wrap (IntKind.i64.wrap (IntKind.i64.wrap (Fd.mj M i 1+Fd.mj M i 2)-u)-ch)=M[i].h+M[i].rate-u-ch:=by
   rw[mj1 M i hi,mj2 M i hi,i64in (n:=M[i].h+M[i].rate) (by omega) (by omega),i64in (n:=M[i].h+M[i].rate-u) (by omega) (by omega),i64in (by omega) (by omega)]
  have hdr:M.drop i=M[i]::M.drop (i+1):=List.drop_eq_getElem_cons hi;have hcur:=hin i hi (Nat.le_refl _);have hle:(P.leE cur M[i].id != 0)=false:=by
   have:=fd_has hI.nod hcur
   unfold P.leE;rw[if_neg this];rfl
  have hne:∀ (j:Nat) (h:j<M.length),i+1≤j→M[j].id≠M[i].id:=by
   intro j h hji e;have:=nod_idx hM.nod h hi e
   omega
  have hI':=hI.leave M[i].id;have hin':∀ (j:Nat) (h:j<M.length),i+1≤j→M[j]∈P.leM cur M[i].id:=fun j h hji=>(leM_mem hI.nod).2 ⟨hin j h (by omega),hne j h hji⟩
  have hg':∀ m∈P.leM cur M[i].id,m∈M.drop (i+1)∨good u ch m:=by
   intro m hm;obtain⟨h1,h2⟩:=(leM_mem hI.nod).1 hm;rcases hg m h1 with h | h
   ·rw[hdr] at h
    rcases List.mem_cons.1 h with h | h
    ·rw[h] at h2;exact absurd rfl h2
    ·exact .inl h
   ·exact .inr h
  by_cases hlo:M[i].h+M[i].rate-u-ch < -1000000000000
  ·have hd1:decide (IntKind.i64.wrap (IntKind.i64.wrap (IntKind.i64.wrap (Fd.mj M i 1+Fd.mj M i 2)-u)-ch) < -1000000000000)=true:=decide_eq_true (by rw[hx];exact hlo)
   obtain⟨ms1,g1,g2,g3⟩:=sv_loop s x M ps ep u ids ws b1 b2 lv ch hn hM hu hc d (i+1) _ (by omega) hI' hin' hg'
   refine⟨ms1,g1,g2,?_⟩;refine nextE W23_ok noL [(decide ((↑i:Int)<(↑(List.map encM M).length:Int)),true),(((List.map encM M).getD i V.undef).cells.length==6&&fitP [.int .i64,.int .i64,.int .i64,.int .i64,.int .i64,TK.slice 3] 0 ((List.map encM M).getD i V.undef),true),(decide (IntKind.i64.wrap (IntKind.i64.wrap (IntKind.i64.wrap (Fd.mj M i 1+Fd.mj M i 2)-u)-ch) < -1000000000000),true),(eqB (encS4 s) (encS4 s),true),(eqB (List.map encP ps) (List.map encP (P.decPs (List.map encP ps))),true),(decide (0<(List.map encP ps).length),true),(decide ((List.map encP ps).length<1099511627776),true),(eqB (List.map encM (cur)) (List.map encM (P.decMs (List.map encM (cur)))),true),(decide ((List.map encM (cur)).length<1099511627776),true),(P.leE (P.decMs (List.map encM (cur))) (Fd.mi M i) != 0,false)] [2,0,2,3,0,2,3,4,4,4,0,0,2,3,0,1,5,6,7,8,9,10,0,1,11] {env:=[(3,.int .i64 lv),(5,.int .i64 ch),(10,V.ptr 1 0),(13,V.ptr 4 0),(14,V.sl false (List.map encP ps)),(16,V.sl false (List.map encM M)),(18,V.ptr 5 0),(19,.int .i64 (IntKind.i64.wrap ((↑i:Int)+1)))],heap:=[bS s,B.cells [.int .i64 x.1,.int .i64 x.2,.int .i64 x.3,.int .i64 x.4,.int .i64 x.5,V.sl x.6 (List.map encD x.7)],bS s,bS s,B.cells [V.ptr 3 0,V.ex 6 false (List.map encM (P.leM (P.decMs (List.map encM (cur))) (Fd.mi M i))),V.ex 4 false (List.map encP ps)],B.cells [.int .i64 ep,.int .i64 u,V.sl b1 ids,V.sl b2 ws]]} (by kernel_rfl) ?_ (by rw[hwi,decMs_enc,mi_at M i hi];rfl) g3
   refine⟨?_,?_,?_,?_,?_,?_,?_,?_,?_,?_,trivial⟩
   all_goals first|(simp;done)|(simp;omega)|exact fitM M i hi|exact hd1|exact hd2|exact eqB_self _|exact isMs_enc _|exact isPs_enc _|(rw[List.length_map];exact decide_eq_true (by omega))|(rw[decMs_enc,mi_at M i hi];exact hle)|done
  ·have hd1:decide (IntKind.i64.wrap (IntKind.i64.wrap (IntKind.i64.wrap (Fd.mj M i 1+Fd.mj M i 2)-u)-ch) < -1000000000000)=false:=decide_eq_false (by rw[hx];exact hlo)
   by_cases hhi:M[i].h+M[i].rate-u-ch>1000000000000
   ·have hd2:decide (IntKind.i64.wrap (IntKind.i64.wrap (IntKind.i64.wrap (Fd.mj M i 1+Fd.mj M i 2)-u)-ch)>1000000000000)=true:=decide_eq_true (by rw[hx];exact hhi)
    obtain⟨ms1,g1,g2,g3⟩:=sv_loop s x M ps ep u ids ws b1 b2 lv ch hn hM hu hc d (i+1) _ (by omega) hI' hin' hg'
    refine⟨ms1,g1,g2,?_⟩;refine nextE W23_ok noL [(decide ((↑i:Int)<(↑(List.map encM M).length:Int)),true),(((List.map encM M).getD i V.undef).cells.length==6&&fitP [.int .i64,.int .i64,.int .i64,.int .i64,.int .i64,TK.slice 3] 0 ((List.map encM M).getD i V.undef),true),(decide (IntKind.i64.wrap (IntKind.i64.wrap (IntKind.i64.wrap (Fd.mj M i 1+Fd.mj M i 2)-u)-ch) < -1000000000000),false),(decide (IntKind.i64.wrap (IntKind.i64.wrap (IntKind.i64.wrap (Fd.mj M i 1+Fd.mj M i 2)-u)-ch)>1000000000000),true),(eqB (encS4 s) (encS4 s),true),(eqB (List.map encP ps) (List.map encP (P.decPs (List.map encP ps))),true),(decide (0<(List.map encP ps).length),true),(decide ((List.map encP ps).length<1099511627776),true),(eqB (List.map encM (cur)) (List.map encM (P.decMs (List.map encM (cur)))),true),(decide ((List.map encM (cur)).length<1099511627776),true),(P.leE (P.decMs (List.map encM (cur))) (Fd.mi M i) != 0,false)] [2,0,2,3,0,2,3,4,4,4,5,0,2,3,0,1,6,7,8,9,10,11,0,1,12] {env:=[(3,.int .i64 lv),(5,.int .i64 ch),(10,V.ptr 1 0),(13,V.ptr 4 0),(14,V.sl false (List.map encP ps)),(16,V.sl false (List.map encM M)),(18,V.ptr 5 0),(19,.int .i64 (IntKind.i64.wrap ((↑i:Int)+1)))],heap:=[bS s,B.cells [.int .i64 x.1,.int .i64 x.2,.int .i64 x.3,.int .i64 x.4,.int .i64 x.5,V.sl x.6 (List.map encD x.7)],bS s,bS s,B.cells [V.ptr 3 0,V.ex 6 false (List.map encM (P.leM (P.decMs (List.map encM (cur))) (Fd.mi M i))),V.ex 4 false (List.map encP ps)],B.cells [.int .i64 ep,.int .i64 u,V.sl b1 ids,V.sl b2 ws]]} (by kernel_rfl) ?_ (by rw[hwi,decMs_enc,mi_at M i hi];rfl) g3
    refine⟨?_,?_,?_,?_,?_,?_,?_,?_,?_,?_,?_,trivial⟩
    all_goals first|(simp;done)|(simp;omega)|exact fitM M i hi|exact hd1|exact hd2|exact eqB_self _|exact isMs_enc _|exact isPs_enc _|(rw[List.length_map];exact decide_eq_true (by omega))|(rw[decMs_enc,mi_at M i hi];exact hle)|done
   ·have hd2:decide (IntKind.i64.wrap (IntKind.i64.wrap (IntKind.i64.wrap (Fd.mj M i 1+Fd.mj M i 2)-u)-ch)>1000000000000)=false:=decide_eq_false (by rw[hx];exact hhi)
    obtain⟨ms1,g1,g2,g3⟩:=sv_loop s x M ps ep u ids ws b1 b2 lv ch hn hM hu hc d (i+1) cur (by omega) hI (fun j h hji=>hin j h (by omega)) (fun m hm=>by
     rcases hg m hm with h | h
     ·rw[hdr] at h
      rcases List.mem_cons.1 h with h | h
      ·exact .inr (by rw[h];exact⟨by omega,by omega⟩)
      ·exact .inl h
     ·exact .inr h)
    refine⟨ms1,g1,g2,?_⟩;refine nextE W23_ok noL [(decide ((↑i:Int)<(↑(List.map encM M).length:Int)),true),(((List.map encM M).getD i V.undef).cells.length==6&&fitP [.int .i64,.int .i64,.int .i64,.int .i64,.int .i64,TK.slice 3] 0 ((List.map encM M).getD i V.undef),true),(decide (IntKind.i64.wrap (IntKind.i64.wrap (IntKind.i64.wrap (Fd.mj M i 1+Fd.mj M i 2)-u)-ch) < -1000000000000),false),(decide (IntKind.i64.wrap (IntKind.i64.wrap (IntKind.i64.wrap (Fd.mj M i 1+Fd.mj M i 2)-u)-ch)>1000000000000),false)] [2,0,2,3,0,2,3,4,4,4,5] {env:=[(3,.int .i64 lv),(5,.int .i64 ch),(10,V.ptr 1 0),(13,V.ptr 4 0),(14,V.sl false (List.map encP ps)),(16,V.sl false (List.map encM M)),(18,V.ptr 5 0),(19,.int .i64 (IntKind.i64.wrap ((↑i:Int)+1)))],heap:=[bS s,B.cells [.int .i64 x.1,.int .i64 x.2,.int .i64 x.3,.int .i64 x.4,.int .i64 x.5,V.sl x.6 (List.map encD x.7)],bS s,bS s,B.cells [V.ptr 3 0,V.ex 6 false (List.map encM (cur)),V.ex 4 false (List.map encP ps)],B.cells [.int .i64 ep,.int .i64 u,V.sl b1 ids,V.sl b2 ws]]} (by kernel_rfl) ?_ (by rw[hwi];rfl) g3
    refine⟨?_,?_,?_,?_,trivial⟩
    all_goals first|(simp;done)|(simp;omega)|exact fitM M i hi|exact hd1|exact hd2|exact eqB_self _|exact isMs_enc _|exact isPs_enc _|(rw[List.length_map];exact decide_eq_true (by omega))|(rw[decMs_enc,mi_at M i hi];exact hle)|done
section SMo
variable (b0 b2 b3 b4 b5:B) (x:Dd) (ch:Int) (z1 z3:Bool) (m1 m3:List Mem) (en:Bool)
theorem o3_loop (h1:m1.length<2 ^ 40) (i:Nat) (hi:i<m3.length) (hs:∀ m∈m1,m.id=m3[i].id→m3[i].id≠x.id→m.h=m3[i].h∧m.rate=m3[i].rate):∀ (d k:Nat),k+d=m1.length →
  LRuns (vstep T (vlim T F) lplim fi5.cx 6 (lb fi5 2)) (sm3 b0 b2 b3 b4 b5 x ch z1 z3 m1 m3 en i k) (.exit 4,⟨(sm3 b0 b2 b3 b4 b5 x ch z1 z3 m1 m3 en i m1.length).env++[(198,.bool false)],(sm3 b0 b2 b3 b4 b5 x ch z1 z3 m1 m3 en i 0).heap⟩)
 | 0,k,hd=>by
  have hk:k=m1.length:=by omega
  subst hk;refine lastE W23_ok noL [(decide ((↑(m1.length):Int)<(↑(List.map encM m1).length:Int)),false)] [2] (Ex.exit 4,{env:=[(5,.int .i64 ch),(10,V.ptr 1 0),(13,V.ptr 4 0),(16,V.sl z1 (List.map encM m1)),(18,V.ptr 5 0),(21,V.bool en),(23,V.sl z3 (List.map encM m3)),(24,.int .i64 (↑i:Int)),(25,.int .i64 (↑(m1.length):Int)),(198,V.bool (decide ((↑(m1.length):Int)<(↑(List.map encM m1).length:Int))))],heap:=[b0,B.cells [.int .i64 x.1,.int .i64 x.2,.int .i64 x.3,.int .i64 x.4,.int .i64 x.5,V.sl x.6 (List.map encD x.7)],b2,b3,b4,b5]}) (by kernel_rfl) (by simp) ⟨by simp,trivial⟩ (by simp[sm3,sm2])
 | d+1,k,hd=>by
  have hk:k<m1.length:=by omega
  have hwi:IntKind.i64.wrap ((k:Int)+1)=((k+1:Nat):Int):=by rw[i64in (by omega) (by omega)];rfl
  have ih:=o3_loop h1 i hi hs d (k+1) (by omega)
  have hsk:=hs m1[k] (List.getElem_mem hk);by_cases e1:m1[k].id=m3[i].id
  ·have q1:(Fd.mi m1 k==Fd.mi m3 i)=true:=by rw[mi_at m1 k hk,mi_at m3 i hi,e1];simp
   by_cases e2:m3[i].id=x.id
   ·have q2:(Fd.mi m3 i != x.id)=false:=by rw[mi_at m3 i hi,e2];simp
    refine nextE W23_ok noL [(decide ((↑k:Int)<(↑(List.map encM m1).length:Int)),true),(((List.map encM m1).getD k V.undef).cells.length==6&&fitP [.int .i64,.int .i64,.int .i64,.int .i64,.int .i64,TK.slice 3] 0 ((List.map encM m1).getD k V.undef),true),(decide ((↑i:Int)<(↑(List.map encM m3).length:Int)),true),(((List.map encM m3).getD i V.undef).cells.length==6&&fitP [.int .i64,.int .i64,.int .i64,.int .i64,.int .i64,TK.slice 3] 0 ((List.map encM m3).getD i V.undef),true),(Fd.mi m1 k==Fd.mi m3 i,true),(Fd.mi m3 i != x.2,false)] [2,0,2,3,0,4,5,6,6,6,0,4,5,6,6,6,6,6,6,7,7,7,7,7,7,7,7,7,7,7,7,7,7,1] {env:=[(5,.int .i64 ch),(10,V.ptr 1 0),(13,V.ptr 4 0),(16,V.sl z1 (List.map encM m1)),(18,V.ptr 5 0),(21,V.bool en),(23,V.sl z3 (List.map encM m3)),(24,.int .i64 (↑i:Int)),(25,.int .i64 (IntKind.i64.wrap ((↑k:Int)+1)))],heap:=[b0,B.cells [.int .i64 x.1,.int .i64 x.2,.int .i64 x.3,.int .i64 x.4,.int .i64 x.5,V.sl x.6 (List.map encD x.7)],b2,b3,b4,b5]} (by kernel_rfl) ?_ (by rw[hwi];rfl) ih
    exact⟨by simp;omega,fitM m1 k hk,by simp;omega,fitM m3 i hi,q1,q2,trivial⟩
   ·have q2:(Fd.mi m3 i != x.id)=true:=by rw[mi_at m3 i hi];simpa using e2
    obtain⟨g1,g2⟩:=hsk e1 e2;have q3:(Fd.mj m1 k 1 != Fd.mj m3 i 1)=false:=by rw[mj1 m1 k hk,mj1 m3 i hi,g1];simp
    have q4:(Fd.mj m1 k 2 != Fd.mj m3 i 2)=false:=by rw[mj2 m1 k hk,mj2 m3 i hi,g2];simp
    refine nextE W23_ok noL [(decide ((↑k:Int)<(↑(List.map encM m1).length:Int)),true),(((List.map encM m1).getD k V.undef).cells.length==6&&fitP [.int .i64,.int .i64,.int .i64,.int .i64,.int .i64,TK.slice 3] 0 ((List.map encM m1).getD k V.undef),true),(decide ((↑i:Int)<(↑(List.map encM m3).length:Int)),true),(((List.map encM m3).getD i V.undef).cells.length==6&&fitP [.int .i64,.int .i64,.int .i64,.int .i64,.int .i64,TK.slice 3] 0 ((List.map encM m3).getD i V.undef),true),(Fd.mi m1 k==Fd.mi m3 i,true),(Fd.mi m3 i != x.2,true),(Fd.mj m1 k 1 != Fd.mj m3 i 1,false),(Fd.mj m1 k 2 != Fd.mj m3 i 2,false)] [2,0,2,3,0,4,5,6,6,6,0,4,5,6,6,6,6,6,6,7,7,7,0,2,3,7,7,7,7,7,0,4,5,7,7,7,7,8,8,8,0,2,3,8,8,8,8,8,0,4,5,8,8,8,7,8,7,9] {env:=[(5,.int .i64 ch),(10,V.ptr 1 0),(13,V.ptr 4 0),(16,V.sl z1 (List.map encM m1)),(18,V.ptr 5 0),(21,V.bool en),(23,V.sl z3 (List.map encM m3)),(24,.int .i64 (↑i:Int)),(25,.int .i64 (IntKind.i64.wrap ((↑k:Int)+1)))],heap:=[b0,B.cells [.int .i64 x.1,.int .i64 x.2,.int .i64 x.3,.int .i64 x.4,.int .i64 x.5,V.sl x.6 (List.map encD x.7)],b2,b3,b4,b5]} (by kernel_rfl) ?_ (by rw[hwi];rfl) ih
    exact⟨by simp;omega,fitM m1 k hk,by simp;omega,fitM m3 i hi,q1,q2,q3,q4,trivial⟩
  ·have q1:(Fd.mi m1 k==Fd.mi m3 i)=false:=by rw[mi_at m1 k hk,mi_at m3 i hi];simpa using e1
   refine nextE W23_ok noL [(decide ((↑k:Int)<(↑(List.map encM m1).length:Int)),true),(((List.map encM m1).getD k V.undef).cells.length==6&&fitP [.int .i64,.int .i64,.int .i64,.int .i64,.int .i64,TK.slice 3] 0 ((List.map encM m1).getD k V.undef),true),(decide ((↑i:Int)<(↑(List.map encM m3).length:Int)),true),(((List.map encM m3).getD i V.undef).cells.length==6&&fitP [.int .i64,.int .i64,.int .i64,.int .i64,.int .i64,TK.slice 3] 0 ((List.map encM m3).getD i V.undef),true),(Fd.mi m1 k==Fd.mi m3 i,false)] [2,0,2,3,0,4,5,6,6,6,6,6,6,6,6,6,1,1,1,1,1,1,1,1,1,1,1,1,1,1,1] {env:=[(5,.int .i64 ch),(10,V.ptr 1 0),(13,V.ptr 4 0),(16,V.sl z1 (List.map encM m1)),(18,V.ptr 5 0),(21,V.bool en),(23,V.sl z3 (List.map encM m3)),(24,.int .i64 (↑i:Int)),(25,.int .i64 (IntKind.i64.wrap ((↑k:Int)+1)))],heap:=[b0,B.cells [.int .i64 x.1,.int .i64 x.2,.int .i64 x.3,.int .i64 x.4,.int .i64 x.5,V.sl x.6 (List.map encD x.7)],b2,b3,b4,b5]} (by kernel_rfl) ?_ (by rw[hwi];rfl) ih
   exact⟨by simp;omega,fitM m1 k hk,by simp;omega,fitM m3 i hi,q1,trivial⟩
end SMo
theorem lb5:loopsOf (lb fi5 1)=[lb fi5 2]:=by kernel_rfl
def sm2E (b0 b2 b3 b4 b5:B) (x:Dd) (ch:Int) (z1 z3:Bool) (m1 m3:List Mem) (en:Bool):Ex×St:=(.exit 2,⟨(sm2 b0 b2 b3 b4 b5 x ch z1 z3 m1 m3 en m3.length).env++[(192,.bool false)],(sm2 b0 b2 b3 b4 b5 x ch z1 z3 m1 m3 en 0).heap⟩)
theorem o2_loop (b0 b2 b3 b4 b5:B) (x:Dd) (ch:Int) (z1 z3:Bool) (m1 m3:List Mem) (en:Bool) (h1:m1.length<2 ^ 40) (h3:m3.length<2 ^ 40) (hs:∀ o∈m3,∀ m∈m1,m.id=o.id→o.id≠x.id→m.h=o.h∧m.rate=o.rate):∀ (d i:Nat),i+d=m3.length →
  LRuns (vstep T (vlim T F) lplim fi5.cx 6 (lb fi5 1)) (sm2 b0 b2 b3 b4 b5 x ch z1 z3 m1 m3 en i) (sm2E b0 b2 b3 b4 b5 x ch z1 z3 m1 m3 en)
 | 0,i,hd=>by
  have hi:i=m3.length:=by omega
  subst hi;refine lastE W23_ok noL [(decide ((↑(m3.length):Int)<(↑(List.map encM m3).length:Int)),false)] [2] (Ex.exit 2,{env:=[(5,.int .i64 ch),(10,V.ptr 1 0),(13,V.ptr 4 0),(16,V.sl z1 (List.map encM m1)),(18,V.ptr 5 0),(21,V.bool en),(23,V.sl z3 (List.map encM m3)),(24,.int .i64 (↑(m3.length):Int)),(192,V.bool (decide ((↑(m3.length):Int)<(↑(List.map encM m3).length:Int))))],heap:=[b0,B.cells [.int .i64 x.1,.int .i64 x.2,.int .i64 x.3,.int .i64 x.4,.int .i64 x.5,V.sl x.6 (List.map encD x.7)],b2,b3,b4,b5]}) (by kernel_rfl) (by simp) ⟨by simp,trivial⟩ (by simp[sm2,sm2E])
 | d+1,i,hd=>by
  have hi:i<m3.length:=by omega
  have hwi:IntKind.i64.wrap ((i:Int)+1)=((i+1:Nat):Int):=by rw[i64in (by omega) (by omega)];rfl
  have hq:=o3_loop b0 b2 b3 b4 b5 x ch z1 z3 m1 m3 en h1 i hi (hs m3[i] (List.getElem_mem hi)) m1.length 0 (by omega)
  refine nextE W23_ok (LGood.one (b:=lb fi5 2) (k:=37) (σ0:=sm3 b0 b2 b3 b4 b5 x ch z1 z3 m1 m3 en i 0) lb5 (by exact hq)) [(decide ((↑i:Int)<(↑(List.map encM m3).length:Int)),true),(is {env:=[(5,.int .i64 ch),(10,V.ptr 1 0),(13,V.ptr 4 0),(16,V.sl z1 (List.map encM m1)),(18,V.ptr 5 0),(21,V.bool en),(23,V.sl z3 (List.map encM m3)),(24,.int .i64 (↑i:Int)),(25,.int .i64 0)],heap:=[b0,B.cells [.int .i64 x.1,.int .i64 x.2,.int .i64 x.3,.int .i64 x.4,.int .i64 x.5,V.sl x.6 (List.map encD x.7)],b2,b3,b4,b5]} {env:=[(5,.int .i64 ch),(10,V.ptr 1 0),(13,V.ptr 4 0),(16,V.sl z1 (List.map encM m1)),(18,V.ptr 5 0),(21,V.bool en),(23,V.sl z3 (List.map encM m3)),(24,.int .i64 (↑i:Int)),(25,.int .i64 0)],heap:=[b0,B.cells [.int .i64 x.1,.int .i64 x.2,.int .i64 x.3,.int .i64 x.4,.int .i64 x.5,V.sl x.6 (List.map encD x.7)],b2,b3,b4,b5]},true)] [2,3] {env:=[(5,.int .i64 ch),(10,V.ptr 1 0),(13,V.ptr 4 0),(16,V.sl z1 (List.map encM m1)),(18,V.ptr 5 0),(21,V.bool en),(23,V.sl z3 (List.map encM m3)),(24,.int .i64 (IntKind.i64.wrap ((↑i:Int)+1)))],heap:=[b0,B.cells [.int .i64 x.1,.int .i64 x.2,.int .i64 x.3,.int .i64 x.4,.int .i64 x.5,V.sl x.6 (List.map encD x.7)],b2,b3,b4,b5]} (by kernel_rfl) ?_ (by rw[hwi];rfl) (o2_loop b0 b2 b3 b4 b5 x ch z1 z3 m1 m3 en h1 h3 hs d (i+1) (by omega))
  exact⟨by simp;omega,is_eq rfl,trivial⟩
end Go.Proofs.Ytnijkhcmjpfjeaa
