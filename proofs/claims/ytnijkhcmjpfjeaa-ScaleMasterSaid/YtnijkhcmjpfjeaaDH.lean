/- DH: members,points handed out. -/
import Derived.Test.YtnijkhcmjpfjeaaDG
namespace Go.Proofs.Ytnijkhcmjpfjeaa
open Go Go.Vm
noncomputable def U48':Vm.Spec:=U17.add 48 (inl T Sh U17 0 0 fi48)
theorem U48'_ok:Vm.Good (vlim T F) U48':=U17_ok.inl (by kernel_rfl) 0 0 (by kernel_rfl)
namespace P
def mfl (ms:List Mem):List V:=(ms.map encM).flatMap V.cells
def decMf:List V→List Mem
 | a::b::c::d::e::m::r=>⟨intOf a,intOf b,intOf c,intOf d,intOf e,nilOf m,(listOf m).map intOf⟩::decMf r
 | _=>[]
end P
theorem decMf_mfl:∀ ms:List Mem,P.decMf (P.mfl ms)=ms
 | []=>rfl
 | m::ms=>by
  have ih:=decMf_mfl ms;simp only[P.mfl,List.map_cons,List.flatMap_cons,encM,V.cells,List.cons_append,List.nil_append,P.decMf,intOf,nilOf,listOf,ints_enc] at ih ⊢;rw[ih]
def iM:TI:={kind:=TK.struct [(0,3),(1,3),(2,3),(3,3),(4,3),(5,22)],size:=6,bytes:=64,zero:=V.agg [.int .i64 0,.int .i64 0,.int .i64 0,.int .i64 0,.int .i64 0,V.sl true []]}
theorem chunks_M:∀ ms:List Mem,chunks iM ms.length (P.mfl ms)=some (ms.map encM)
 | []=>rfl
 | m::ms=>by
  have ih:=chunks_M ms;simp only[P.mfl,List.map_cons,List.flatMap_cons,List.length_cons] at ih ⊢;rw[show (encM m).cells=[V.int .i64 m.id,.int .i64 m.h,.int .i64 m.rate,.int .i64 m.memory,.int .i64 m.since,.sl m.nil (m.miss.map encI)] from rfl];simp only[chunks,iM,List.cons_append,List.nil_append,List.take_succ_cons,List.take_zero,List.drop_succ_cons,List.drop_zero] at ih ⊢;rw[ih];rfl
theorem mfl_spec (ms:List Mem):specB (P.mfl ms)=false:=by
 cases ms with
 | nil=>rfl
 | cons m ms=>rfl
theorem mfl_dat:∀ ms:List Mem,(P.mfl ms).all cellDat=true
 | []=>rfl
 | m::ms=>by
  have ih:=mfl_dat ms;simp only[P.mfl,List.map_cons,List.flatMap_cons,List.all_append,Bool.and_eq_true] at ih ⊢;exact⟨rfl,ih⟩
theorem cm_runs (ms:List Mem) (h0:0<ms.length) (h1:ms.length<2 ^ 40):Runs T F 51 [.ref (.arr ms.length) 0] [.cells (P.mfl ms)] (.ex 6 false (ms.map encM),[.cells (P.mfl ms)]):=by
 have hc:chunks {kind:=TK.struct [(0,3),(1,3),(2,3),(3,3),(4,3),(5,22)],size:=6,bytes:=64,zero:=V.agg [.int .i64 0,.int .i64 0,.int .i64 0,.int .i64 0,.int .i64 0,V.sl true []]} ms.length (P.mfl ms)=some (ms.map encM):=chunks_M ms;refine wayE U48'_ok (fi:=fi51) (by kernel_rfl) noL [(!specB (P.mfl ms),true),((P.mfl ms).all cellDat,true),(decide (0<ms.length),true),((chunks {kind:=TK.struct [(0,3),(1,3),(2,3),(3,3),(4,3),(5,22)],size:=6,bytes:=64,zero:=V.agg [.int .i64 0,.int .i64 0,.int .i64 0,.int .i64 0,.int .i64 0,V.sl true []]} ms.length (P.mfl ms)).isSome,true),(rooms (0+((chunks {kind:=TK.struct [(0,3),(1,3),(2,3),(3,3),(4,3),(5,22)],size:=6,bytes:=64,zero:=V.agg [.int .i64 0,.int .i64 0,.int .i64 0,.int .i64 0,.int .i64 0,V.sl true []]} ms.length (P.mfl ms)).getD []).length) 64,true),(decide (0+((chunks {kind:=TK.struct [(0,3),(1,3),(2,3),(3,3),(4,3),(5,22)],size:=6,bytes:=64,zero:=V.agg [.int .i64 0,.int .i64 0,.int .i64 0,.int .i64 0,.int .i64 0,V.sl true []]} ms.length (P.mfl ms)).getD []).length<4611686018427387904),true),(((chunks {kind:=TK.struct [(0,3),(1,3),(2,3),(3,3),(4,3),(5,22)],size:=6,bytes:=64,zero:=V.agg [.int .i64 0,.int .i64 0,.int .i64 0,.int .i64 0,.int .i64 0,V.sl true []]} ms.length (P.mfl ms)).getD []).all fun y=>y.cells.length==6,true)] [1,2,3,4,5,6,7,8] (V.ex 6 false ([]++(chunks {kind:=TK.struct [(0,3),(1,3),(2,3),(3,3),(4,3),(5,22)],size:=6,bytes:=64,zero:=V.agg [.int .i64 0,.int .i64 0,.int .i64 0,.int .i64 0,.int .i64 0,V.sl true []]} ms.length (P.mfl ms)).getD []),[B.cells (P.mfl ms)]) (by kernel_rfl) ?_ (by rw[hc];simp)
 exact⟨by rw[mfl_spec];rfl,mfl_dat ms,decide_eq_true h0,by rw[hc];rfl,by (rw[hc];exact decide_eq_true (by simp;unfold maxRoom;omega)),by (rw[hc];exact decide_eq_true (by simp;omega)),by (rw[hc,Option.getD_some,List.all_eq_true];intro x hx;obtain⟨m,_,rfl⟩:=List.mem_map.1 hx;rfl),trivial⟩
noncomputable def clmS:List V→Heap→Tr (V×Heap):=fun a H=>match a with
 | [.ref (.arr n) id]=>match Nat.beq id 0,H with
  | true,[.cells cs]=>.must (eqB cs (P.mfl (P.decMf cs))) (.must (eqB n (P.decMf cs).length) (.must (decide (0<n)) (.must (decide (n<2 ^ 40)) (.ret (.ex 6 false ((P.decMf cs).map encM),[.cells cs])))))
  | _,_=>.fail
 | [.sl z xs]=>match H with
  | []=>.must xs.isEmpty (.ask z (.ret (.ex 6 true [],[])) (.ret (.ex 6 false [],[])))
  | _=>.fail
 | _=>.fail
theorem clmS_ok:∀ a H r,(clmS a H).run=some r→Runs T F 51 a H r:=by
 intro a H r h;unfold clmS at h;split at h
 ·rename_i n id
  split at h
  ·rename_i cs hi
   obtain⟨h1,g1⟩:=Tr.must_some h;obtain⟨h2,g2⟩:=Tr.must_some g1;obtain⟨h3,g3⟩:=Tr.must_some g2;obtain⟨h4,g4⟩:=Tr.must_some g3;have hr:=ret_some g4;clear h g1 g2 g3 g4;subst hr;have h1:=of_eqB h1;have h2:=of_eqB h2;generalize P.decMf cs=ms at *;subst h1;subst h2;rw[Nat.eq_of_beq_eq_true hi];exact cm_runs ms (by simpa using h3) (by simpa using h4)
  ·cases h
 ·rename_i z xs
  split at h
  ·obtain⟨h1,g⟩:=Tr.must_some h
   have hx:xs=[]:=List.isEmpty_iff.1 h1;subst hx;cases z with
   | true =>
    have hr:=ret_some (show (Tr.ret _).run=some r from g);subst hr;exact wayE U48'_ok (fi:=fi51) (by kernel_rfl) noL [] [0] (V.ex 6 true [],[]) (by kernel_rfl) trivial rfl
   | false =>
    have hr:=ret_some (show (Tr.ret _).run=some r from g);subst hr;exact wayE U48'_ok (fi:=fi51) (by kernel_rfl) noL [] [1,0,0,0] (V.ex 6 false [],[]) (by kernel_rfl) trivial rfl
  ·cases h
 ·cases h
noncomputable def U51:Vm.Spec:=U48'.add 51 clmS
theorem U51_ok:Vm.Good (vlim T F) U51:=U48'_ok.add clmS_ok
def mbS (H:Heap) (z:Bool) (out:List Mem) (k:Int):St:=⟨[(4,V.ex 6 z (out.map encM)),(14,.int .i64 out.length),(15,.int .i64 k)],H⟩
def mbE (H:Heap) (z:Bool) (out:List Mem):Ex×St:=(.exit 0,⟨(mbS H z out out.length).env++[(16,.bool false)],H⟩)
theorem st_same (out:List Mem) (k:Nat) (h:k<out.length) (b:Bool) (xs:List V) (hb:out[k].nil=b) (hx:xs=out[k].miss.map encI):Fd.st (List.map encM out) k 5 (V.sl b xs)=out.map encM:=by
 subst hb;subst hx;unfold Fd.st;rw[getD_encM out k h];refine Eq.trans (b:=(List.map encM out).set k (encM out[k])) rfl ?_;rw[set_encM,List.set_getElem_self]
def okN1 (m:Mem):Bool:=decide (m.miss.length≤1000000∧(m.nil=true→m.miss=[]))
theorem mb_loop (b0 b1:B) (z:Bool) (out:List Mem) (ho:out.all okN1=true) (hl:out.length<2 ^ 40):∀ (d k:Nat),k+d=out.length→LRuns (vstep T (vlim T F) lplim fi20.cx 2 (lb fi20 0)) (mbS [b0,b1] z out k) (mbE [b0,b1] z out)
 | 0,k,hd=>by
  have hk:k=out.length:=by omega
  subst hk;refine lastE U51_ok noL [(decide ((↑(out.length):Int)<(↑out.length:Int)),false)] [2] (Ex.exit 0,{env:=[(4,V.ex 6 z (List.map encM out)),(14,.int .i64 (↑out.length:Int)),(15,.int .i64 (↑(out.length):Int)),(16,V.bool (decide ((↑(out.length):Int)<(↑out.length:Int))))],heap:=[b0,b1]}) (by kernel_rfl) (by simp) ⟨by simp,trivial⟩ (by simp[mbS,mbE])
 | d+1,k,hd=>by
  have hk:k<out.length:=by omega
  have hwi:IntKind.i64.wrap ((k:Int)+1)=((k+1:Nat):Int):=by rw[i64in (by omega) (by omega)];rfl
  have hg:=getD_encM out k hk;have hm:=List.all_eq_true.1 ho out[k] (List.getElem_mem hk);simp only[okN1,decide_eq_true_eq] at hm;have hx:listOf (fld 5 ((List.map encM out).getD k V.undef))=out[k].miss.map encI:=by rw[hg];rfl
  cases hn:out[k].nil with
  | true =>
   refine nextE U51_ok noL [(decide ((↑k:Int)<(↑out.length:Int)),true),(decide ((↑k:Int)<(↑(List.map encM out).length:Int)),true),(decide (k<(List.map encM out).length),true),(fitP [TK.slice 3] 5 ((List.map encM out).getD k V.undef),true),(nilOf (fld 5 ((List.map encM out).getD k V.undef))==true,true),(decide (6≤((List.map encM out).getD k V.undef).cells.length),true)] [2,0,3,4,5,6,0,3,4,7] {env:=[(4,V.ex 6 z (Fd.st (List.map encM out) k 5 (V.sl true []))),(14,.int .i64 (↑out.length:Int)),(15,.int .i64 (IntKind.i64.wrap ((↑k:Int)+1)))],heap:=[b0,b1]} (by kernel_rfl) ?_ (by rw[hwi,st_same out k hk true [] hn (by rw[hm.2 hn];rfl)];rfl) (mb_loop b0 b1 z out ho hl d (k+1) (by omega))
   exact⟨by simp;omega,by simp;omega,by simp;omega,by (rw[hg];rfl),by (rw[hg];exact (show (out[k].nil==true)=true by rw[hn];rfl)),by (rw[hg];rfl),trivial⟩
  | false =>
   refine nextE U51_ok noL [(decide ((↑k:Int)<(↑out.length:Int)),true),(decide ((↑k:Int)<(↑(List.map encM out).length:Int)),true),(decide (k<(List.map encM out).length),true),(fitP [TK.slice 3] 5 ((List.map encM out).getD k V.undef),true),(nilOf (fld 5 ((List.map encM out).getD k V.undef))==true,false),(rooms (0+(listOf (fld 5 ((List.map encM out).getD k V.undef))).length) 8,true),(decide (0+(listOf (fld 5 ((List.map encM out).getD k V.undef))).length<4611686018427387904),true),((listOf (fld 5 ((List.map encM out).getD k V.undef))).all fun y=>y.cells.length==1,true),(decide (6≤((List.map encM out).getD k V.undef).cells.length),true)] [2,0,3,4,5,6,7,8,9,0,3,4,10] {env:=[(4,V.ex 6 z (Fd.st (List.map encM out) k 5 (V.sl false ([]++listOf (fld 5 ((List.map encM out).getD k V.undef)))))),(14,.int .i64 (↑out.length:Int)),(15,.int .i64 (IntKind.i64.wrap ((↑k:Int)+1)))],heap:=[b0,b1]} (by kernel_rfl) ?_ (by rw[hwi,st_same out k hk false _ hn (by rw[List.nil_append,hx])];rfl) (mb_loop b0 b1 z out ho hl d (k+1) (by omega))
   exact⟨by simp;omega,by simp;omega,by simp;omega,by (rw[hg];rfl),by (rw[hg];exact (show (out[k].nil==true)=false by rw[hn];rfl)),by (rw[hx,List.length_map];exact decide_eq_true (by unfold maxRoom;omega)),by (rw[hx,List.length_map];exact decide_eq_true (by omega)),by (rw[hx];exact datI _),by (rw[hg];rfl),trivial⟩
theorem mfl_flat (ms:List Mem):(List.map V.cells (List.map encM ms)).flatten=P.mfl ms:=by rw[P.mfl,List.flatMap_def]
theorem mfl_dataB:∀ ms:List Mem,dataB (P.mfl ms)=true
 | []=>rfl
 | m::ms=>by
  have ih:=mfl_dataB ms;simp only[P.mfl,List.map_cons,List.flatMap_cons] at ih ⊢;exact ih
theorem mfl_dataC:∀ ms:List Mem,dataC (P.mfl ms)=true
 | []=>rfl
 | m::ms=>by
  have ih:=mfl_dataC ms;simp only[P.mfl,List.map_cons,List.flatMap_cons] at ih ⊢;exact ih
theorem mem_runs (s:Set4) (ms:List Mem) (ps:List Pnt) (hm:ms.length<2 ^ 40) (ho:ms.all okN1=true):Runs T F 20 [.ptr 1 0] [bS s,bD ms ps] (.tup [.ex 6 false (ms.map encM),.int .i64 0],[bS s,bD ms ps]):=by
 have hq:=mb_loop (bS s) (bD ms ps) false ms ho hm ms.length 0 (by omega)
 have hL:LGood T (vlim T F) lplim fi20.cx (loopsIs [(5,mbS [bS s,bD ms ps] false ms 0,mbE [bS s,bD ms ps] false ms)]) fi20.body:=LGood.one (b:=lb fi20 0) (by kernel_rfl) (by exact hq)
 cases hz:(List.map encM ms).isEmpty with
 | true =>
  have h0:ms=[]:=by simpa using hz
  refine wayE U51_ok (fi:=fi20) (by kernel_rfl) hL [((List.map encM ms).isEmpty,true),(is {env:=[(4,V.ex 6 false []),(14,.int .i64 0),(15,.int .i64 0)],heap:=[bS s,bD ms ps]} {env:=[(4,V.ex 6 false (List.map encM ms)),(14,.int .i64 (↑ms.length:Int)),(15,.int .i64 0)],heap:=[bS s,bD ms ps]},true)] [1,1,1,1,1,1,1,2,2,1,0,3] (V.tup [V.ex 6 false (List.map encM ms),.int .i64 0],[bS s,bD ms ps]) (by kernel_rfl) ?_ rfl
  exact⟨hz,is_eq (by subst h0;rfl),trivial⟩
 | false =>
  have h0:0<ms.length:=by cases ms;simp at hz;simp
  refine wayE U51_ok (fi:=fi20) (by kernel_rfl) hL [((List.map encM ms).isEmpty,false),(dataB (List.map V.cells (List.map encM ms)).flatten,true),(eqB (List.map V.cells (List.map encM ms)).flatten (P.mfl (P.decMf (List.map V.cells (List.map encM ms)).flatten)),true),(eqB (List.map encM ms).length (P.decMf (List.map V.cells (List.map encM ms)).flatten).length,true),(decide (0<(List.map encM ms).length),true),(decide ((List.map encM ms).length<1099511627776),true),(eqB (List.map V.cells (List.map encM ms)).flatten (List.map V.cells (List.map encM ms)).flatten,true),(dataC (List.map V.cells (List.map encM ms)).flatten,true),(is {env:=[(4,V.ex 6 false (List.map encM (P.decMf (List.map V.cells (List.map encM ms)).flatten))),(14,.int .i64 (↑(List.map encM (P.decMf (List.map V.cells (List.map encM ms)).flatten)).length:Int)),(15,.int .i64 0)],heap:=[bS s,bD ms ps]} {env:=[(4,V.ex 6 false (List.map encM ms)),(14,.int .i64 (↑ms.length:Int)),(15,.int .i64 0)],heap:=[bS s,bD ms ps]},true)] [1,1,1,1,1,1,1,2,3,4,5,6,7,3,8,9,10] (V.tup [V.ex 6 false (List.map encM ms),.int .i64 0],[bS s,bD ms ps]) (by kernel_rfl) ?_ rfl
  refine⟨hz,by (rw[mfl_flat];exact mfl_dataB ms),by (rw[mfl_flat,decMf_mfl];exact eqB_self _),by (rw[mfl_flat,decMf_mfl,List.length_map];exact eqB_self _),by (rw[List.length_map];exact decide_eq_true h0),by (rw[List.length_map];exact decide_eq_true hm),eqB_self _,by (rw[mfl_flat];exact mfl_dataC ms),is_eq (by rw[mfl_flat,decMf_mfl,List.length_map]),trivial⟩
theorem mem0_runs (s:Set4) (ps:List Pnt):Runs T F 20 [.ptr 1 0] [bS s,bE ps] (.tup [.ex 6 true [],.int .i64 0],[bS s,bE ps]):=by
 have hq:=mb_loop (bS s) (bE ps) true [] rfl (by simp) 0 0 (by simp)
 have hL:LGood T (vlim T F) lplim fi20.cx (loopsIs [(5,mbS [bS s,bE ps] true [] 0,mbE [bS s,bE ps] true [])]) fi20.body:=LGood.one (b:=lb fi20 0) (by kernel_rfl) (by exact hq)
 exact wayE U51_ok (fi:=fi20) (by kernel_rfl) hL [(is {env:=[(4,V.ex 6 true []),(14,.int .i64 0),(15,.int .i64 0)],heap:=[bS s,bE ps]} {env:=[(4,V.ex 6 true []),(14,.int .i64 0),(15,.int .i64 0)],heap:=[bS s,bE ps]},true)] [1,1,1,1,1,1,1,0,0,2] (V.tup [V.ex 6 true [],.int .i64 0],[bS s,bE ps]) (by kernel_rfl) ⟨is_eq rfl,trivial⟩ rfl
noncomputable def memS:List V→Heap→Tr (V×Heap):=fun a H=>match a with
 | [p]=>match isPtr 1 p with
  | true=>onSc H (fun s ms ps=>.must (ms.all okN1) (.ret (.tup [.ex 6 false (ms.map encM),.int .i64 0],[bS s,bD ms ps]))) (fun s ps=>.ret (.tup [.ex 6 true [],.int .i64 0],[bS s,bE ps]))
  | false=>.fail
 | _=>.fail
theorem memS_ok:∀ a H r,(memS a H).run=some r→Runs T F 20 a H r:=by
 intro a H x h;unfold memS at h;split at h
 ·rename_i p
  split at h
  ·rename_i hp
   rw[of_isPtr hp];rcases onSc_run h with ⟨s,ms,ps,rfl,h1,h2,h3,h⟩ | ⟨s,ps,rfl,h1,h2,h⟩
   ·obtain⟨h4,k1⟩:=Tr.must_some h
    have hr:=ret_some k1;subst hr;exact mem_runs s ms ps h3 h4
   ·have hr:=ret_some h;subst hr
    exact mem0_runs s ps
  ·cases h
 ·cases h
noncomputable def U20:Vm.Spec:=U51.add 20 memS
theorem U20_ok:Vm.Good (vlim T F) U20:=U51_ok.add memS_ok
def poS (b0:B) (q mc:V) (ps:List Pnt) (z:Bool) (acc:List Pnt) (k:Int):St:=⟨[(4,.ex 4 z (acc.map encP)),(12,.lent (.cell 1 2)),(13,.int .i64 ps.length),(14,.int .i64 k)],[b0,.cells [q,mc,.ex 4 false (ps.map encP)]]⟩
def poE (b0:B) (q mc:V) (ps:List Pnt) (z:Bool) (acc:List Pnt):Ex×St:=(.exit 0,⟨(poS b0 q mc ps z acc ps.length).env++[(15,.bool false)],[b0,.cells [q,mc,.ex 4 false (ps.map encP)]]⟩)
theorem p_at (ps:List Pnt) (k:Nat) (h:k<ps.length):(ps.map encP).getD k V.undef=encP ps[k]:=by simp[h]
def okN2 (p:Pnt):Bool:=decide (p.ids.length≤1000000∧p.ws.length≤1000000∧(p.ni=true→p.ids=[])∧(p.nw=true→p.ws=[]))
theorem okN2_iff {p:Pnt} (h:okN2 p=true):p.ids.length≤1000000∧p.ws.length≤1000000∧(p.ni=true→p.ids=[])∧(p.nw=true→p.ws=[]):=of_decide_eq_true h
set_option maxHeartbeats 1000000 in
theorem po_loop (b0:B) (q mc:V) (ps:List Pnt) (hl:ps.length<2 ^ 40) (ho:ps.all okN2=true):∀ (d k:Nat),k+d=ps.length→LRuns (vstep T (vlim T F) lplim fi21.cx 2 (lb fi21 0)) (poS b0 q mc ps (ps.take k).isEmpty (ps.take k) k) (poE b0 q mc ps ps.isEmpty ps)
 | 0,k,hd=>by
  have hk:k=ps.length:=by omega
  subst hk;rw[List.take_length];refine lastE U20_ok noL [(decide ((↑(ps.length):Int)<(↑ps.length:Int)),false)] [2] (Ex.exit 0,{env:=[(4,V.ex 4 (ps.isEmpty) (List.map encP (ps))),(12,V.lent (Place.cell 1 2)),(13,.int .i64 (↑ps.length:Int)),(14,.int .i64 (↑(ps.length):Int)),(15,V.bool (decide ((↑(ps.length):Int)<(↑ps.length:Int))))],heap:=[b0,B.cells [q,mc,V.ex 4 false (List.map encP ps)]]}) (by kernel_rfl) (by simp) ⟨by simp,trivial⟩ (by simp[poS,poE])
 | d+1,k,hd=>by
  have hk:k<ps.length:=by omega
  have hwi:IntKind.i64.wrap ((k:Int)+1)=((k+1:Nat):Int):=by rw[i64in (by omega) (by omega)];rfl
  have hg:=p_at ps k hk;have hac:(ps.take k).length<2 ^ 40:=by rw[List.length_take];omega
  obtain⟨m1,m2,m3,m4⟩:=okN2_iff (List.all_eq_true.1 ho ps[k] (List.getElem_mem hk));have hi:listOf (fld 2 ((List.map encP ps).getD k V.undef))=ps[k].ids.map encI:=by rw[hg];rfl
  have hw:listOf (fld 3 ((List.map encP ps).getD k V.undef))=ps[k].ws.map encI:=by rw[hg];rfl
  have ih:=po_loop b0 q mc ps hl ho d (k+1) (by omega)
  rw[List.take_succ_eq_append_getElem hk] at ih;have hst:(⟨[(4,V.ex 4 ((ps.take k).isEmpty&&false) (List.map encP (ps.take k)++[encP ps[k]])),(12,V.lent (Place.cell 1 2)),(13,.int .i64 ps.length),(14,.int .i64 ((k+1:Nat):Int))],[b0,.cells [q,mc,.ex 4 false (ps.map encP)]]⟩:St)=poS b0 q mc ps (ps.take k++[ps[k]]).isEmpty (ps.take k++[ps[k]]) (k+1:Nat):=by
   rw[poS,show (ps.take k++[ps[k]]).isEmpty=false by cases ps.take k<;>rfl,Bool.and_false,List.map_append]
   rfl
  cases hni:ps[k].ni<;>cases hnw:ps[k].nw
  ·have hfin:V.agg [.int .i64 (intOf (fld 0 ((List.map encP ps).getD k V.undef))),.int .i64 (intOf (fld 1 ((List.map encP ps).getD k V.undef))),V.sl false ([]++listOf (fld 2 ((List.map encP ps).getD k V.undef))),V.sl false ([]++listOf (fld 3 ((List.map encP ps).getD k V.undef)))]=encP ps[k]:=by
    rw[hg];unfold encP;rw[hni,hnw];rfl
   refine nextE U20_ok noL [(decide ((↑k:Int)<(↑ps.length:Int)),true),(decide ((↑k:Int)<(↑(List.map encP ps).length:Int)),true),(decide (k<(List.map encP ps).length),true),(fitP [.int .i64,.int .i64,TK.slice 3,TK.slice 3] 0 ((List.map encP ps).getD k V.undef),true),(nilOf (fld 2 ((List.map encP ps).getD k V.undef))==true,false),(rooms (0+(listOf (fld 2 ((List.map encP ps).getD k V.undef))).length) 8,true),(decide (0+(listOf (fld 2 ((List.map encP ps).getD k V.undef))).length<4611686018427387904),true),((listOf (fld 2 ((List.map encP ps).getD k V.undef))).all fun y=>y.cells.length==1,true),(nilOf (fld 3 ((List.map encP ps).getD k V.undef))==true,false),(rooms (0+(listOf (fld 3 ((List.map encP ps).getD k V.undef))).length) 8,true),(decide (0+(listOf (fld 3 ((List.map encP ps).getD k V.undef))).length<4611686018427387904),true),((listOf (fld 3 ((List.map encP ps).getD k V.undef))).all fun y=>y.cells.length==1,true),(rooms ((List.map encP (ps.take k)).length+1) 64,true),(decide ((List.map encP (ps.take k)).length+1<4611686018427387904),true)] [2,0,3,4,5,6,7,8,9,10,11,12,13,14,15,0] {env:=[(4,V.ex 4 (((ps.take k).isEmpty)&&false) (List.map encP (ps.take k)++[V.agg [.int .i64 (intOf (fld 0 ((List.map encP ps).getD k V.undef))),.int .i64 (intOf (fld 1 ((List.map encP ps).getD k V.undef))),V.sl false ([]++listOf (fld 2 ((List.map encP ps).getD k V.undef))),V.sl false ([]++listOf (fld 3 ((List.map encP ps).getD k V.undef)))]])),(12,V.lent (Place.cell 1 2)),(13,.int .i64 (↑ps.length:Int)),(14,.int .i64 (IntKind.i64.wrap ((↑k:Int)+1)))],heap:=[b0,B.cells [q,mc,V.ex 4 false (List.map encP ps)]]} (by kernel_rfl) ?_ (by rw[hwi,hfin];exact hst) ih
   exact⟨by simp;omega,by simp;omega,by simp;omega,by (rw[hg];rfl),by (rw[hg];exact (show (ps[k].ni==true)=false by rw[hni];rfl)),by (rw[hi];exact decide_eq_true (by rw[List.length_map];unfold maxRoom;omega)),by (rw[hi];exact decide_eq_true (by rw[List.length_map];omega)),by (rw[hi];exact datI _),by (rw[hg];exact (show (ps[k].nw==true)=false by rw[hnw];rfl)),by (rw[hw];exact decide_eq_true (by rw[List.length_map];unfold maxRoom;omega)),by (rw[hw];exact decide_eq_true (by rw[List.length_map];omega)),by (rw[hw];exact datI _),decide_eq_true (by rw[List.length_map];unfold maxRoom;omega),decide_eq_true (by rw[List.length_map];omega),trivial⟩
  ·have hfin:V.agg [.int .i64 (intOf (fld 0 ((List.map encP ps).getD k V.undef))),.int .i64 (intOf (fld 1 ((List.map encP ps).getD k V.undef))),V.sl false ([]++listOf (fld 2 ((List.map encP ps).getD k V.undef))),V.sl true []]=encP ps[k]:=by
    rw[hg];unfold encP;rw[hni,hnw,m4 hnw];rfl
   refine nextE U20_ok noL [(decide ((↑k:Int)<(↑ps.length:Int)),true),(decide ((↑k:Int)<(↑(List.map encP ps).length:Int)),true),(decide (k<(List.map encP ps).length),true),(fitP [.int .i64,.int .i64,TK.slice 3,TK.slice 3] 0 ((List.map encP ps).getD k V.undef),true),(nilOf (fld 2 ((List.map encP ps).getD k V.undef))==true,false),(rooms (0+(listOf (fld 2 ((List.map encP ps).getD k V.undef))).length) 8,true),(decide (0+(listOf (fld 2 ((List.map encP ps).getD k V.undef))).length<4611686018427387904),true),((listOf (fld 2 ((List.map encP ps).getD k V.undef))).all fun y=>y.cells.length==1,true),(nilOf (fld 3 ((List.map encP ps).getD k V.undef))==true,true),(rooms ((List.map encP (ps.take k)).length+1) 64,true),(decide ((List.map encP (ps.take k)).length+1<4611686018427387904),true)] [2,0,3,4,5,6,7,8,9,10,11,12,0] {env:=[(4,V.ex 4 (((ps.take k).isEmpty)&&false) (List.map encP (ps.take k)++[V.agg [.int .i64 (intOf (fld 0 ((List.map encP ps).getD k V.undef))),.int .i64 (intOf (fld 1 ((List.map encP ps).getD k V.undef))),V.sl false ([]++listOf (fld 2 ((List.map encP ps).getD k V.undef))),V.sl true []]])),(12,V.lent (Place.cell 1 2)),(13,.int .i64 (↑ps.length:Int)),(14,.int .i64 (IntKind.i64.wrap ((↑k:Int)+1)))],heap:=[b0,B.cells [q,mc,V.ex 4 false (List.map encP ps)]]} (by kernel_rfl) ?_ (by rw[hwi,hfin];exact hst) ih
   exact⟨by simp;omega,by simp;omega,by simp;omega,by (rw[hg];rfl),by (rw[hg];exact (show (ps[k].ni==true)=false by rw[hni];rfl)),by (rw[hi];exact decide_eq_true (by rw[List.length_map];unfold maxRoom;omega)),by (rw[hi];exact decide_eq_true (by rw[List.length_map];omega)),by (rw[hi];exact datI _),by (rw[hg];exact (show (ps[k].nw==true)=true by rw[hnw];rfl)),decide_eq_true (by rw[List.length_map];unfold maxRoom;omega),decide_eq_true (by rw[List.length_map];omega),trivial⟩
  ·have hfin:V.agg [.int .i64 (intOf (fld 0 ((List.map encP ps).getD k V.undef))),.int .i64 (intOf (fld 1 ((List.map encP ps).getD k V.undef))),V.sl true [],V.sl false ([]++listOf (fld 3 ((List.map encP ps).getD k V.undef)))]=encP ps[k]:=by
    rw[hg];unfold encP;rw[hni,hnw,m3 hni];rfl
   refine nextE U20_ok noL [(decide ((↑k:Int)<(↑ps.length:Int)),true),(decide ((↑k:Int)<(↑(List.map encP ps).length:Int)),true),(decide (k<(List.map encP ps).length),true),(fitP [.int .i64,.int .i64,TK.slice 3,TK.slice 3] 0 ((List.map encP ps).getD k V.undef),true),(nilOf (fld 2 ((List.map encP ps).getD k V.undef))==true,true),(nilOf (fld 3 ((List.map encP ps).getD k V.undef))==true,false),(rooms (0+(listOf (fld 3 ((List.map encP ps).getD k V.undef))).length) 8,true),(decide (0+(listOf (fld 3 ((List.map encP ps).getD k V.undef))).length<4611686018427387904),true),((listOf (fld 3 ((List.map encP ps).getD k V.undef))).all fun y=>y.cells.length==1,true),(rooms ((List.map encP (ps.take k)).length+1) 64,true),(decide ((List.map encP (ps.take k)).length+1<4611686018427387904),true)] [2,0,3,4,5,6,7,8,9,10,11,12,0] {env:=[(4,V.ex 4 (((ps.take k).isEmpty)&&false) (List.map encP (ps.take k)++[V.agg [.int .i64 (intOf (fld 0 ((List.map encP ps).getD k V.undef))),.int .i64 (intOf (fld 1 ((List.map encP ps).getD k V.undef))),V.sl true [],V.sl false ([]++listOf (fld 3 ((List.map encP ps).getD k V.undef)))]])),(12,V.lent (Place.cell 1 2)),(13,.int .i64 (↑ps.length:Int)),(14,.int .i64 (IntKind.i64.wrap ((↑k:Int)+1)))],heap:=[b0,B.cells [q,mc,V.ex 4 false (List.map encP ps)]]} (by kernel_rfl) ?_ (by rw[hwi,hfin];exact hst) ih
   exact⟨by simp;omega,by simp;omega,by simp;omega,by (rw[hg];rfl),by (rw[hg];exact (show (ps[k].ni==true)=true by rw[hni];rfl)),by (rw[hg];exact (show (ps[k].nw==true)=false by rw[hnw];rfl)),by (rw[hw];exact decide_eq_true (by rw[List.length_map];unfold maxRoom;omega)),by (rw[hw];exact decide_eq_true (by rw[List.length_map];omega)),by (rw[hw];exact datI _),decide_eq_true (by rw[List.length_map];unfold maxRoom;omega),decide_eq_true (by rw[List.length_map];omega),trivial⟩
  ·have hfin:V.agg [.int .i64 (intOf (fld 0 ((List.map encP ps).getD k V.undef))),.int .i64 (intOf (fld 1 ((List.map encP ps).getD k V.undef))),V.sl true [],V.sl true []]=encP ps[k]:=by
    rw[hg];unfold encP;rw[hni,hnw,m3 hni,m4 hnw];rfl
   refine nextE U20_ok noL [(decide ((↑k:Int)<(↑ps.length:Int)),true),(decide ((↑k:Int)<(↑(List.map encP ps).length:Int)),true),(decide (k<(List.map encP ps).length),true),(fitP [.int .i64,.int .i64,TK.slice 3,TK.slice 3] 0 ((List.map encP ps).getD k V.undef),true),(nilOf (fld 2 ((List.map encP ps).getD k V.undef))==true,true),(nilOf (fld 3 ((List.map encP ps).getD k V.undef))==true,true),(rooms ((List.map encP (ps.take k)).length+1) 64,true),(decide ((List.map encP (ps.take k)).length+1<4611686018427387904),true)] [2,0,3,4,5,6,7,8,9,0] {env:=[(4,V.ex 4 (((ps.take k).isEmpty)&&false) (List.map encP (ps.take k)++[V.agg [.int .i64 (intOf (fld 0 ((List.map encP ps).getD k V.undef))),.int .i64 (intOf (fld 1 ((List.map encP ps).getD k V.undef))),V.sl true [],V.sl true []]])),(12,V.lent (Place.cell 1 2)),(13,.int .i64 (↑ps.length:Int)),(14,.int .i64 (IntKind.i64.wrap ((↑k:Int)+1)))],heap:=[b0,B.cells [q,mc,V.ex 4 false (List.map encP ps)]]} (by kernel_rfl) ?_ (by rw[hwi,hfin];exact hst) ih
   exact⟨by simp;omega,by simp;omega,by simp;omega,by (rw[hg];rfl),by (rw[hg];exact (show (ps[k].ni==true)=true by rw[hni];rfl)),by (rw[hg];exact (show (ps[k].nw==true)=true by rw[hnw];rfl)),decide_eq_true (by rw[List.length_map];unfold maxRoom;omega),decide_eq_true (by rw[List.length_map];omega),trivial⟩
theorem ptsD_runs (s:Set4) (ms:List Mem) (ps:List Pnt) (h0:0<ps.length) (hl:ps.length<2 ^ 40) (ho:ps.all okN2=true):Runs T F 21 [.ptr 1 0] [bS s,bD ms ps] (.tup [.ex 4 false (ps.map encP),.int .i64 0],[bS s,bD ms ps]):=by
 have hq:=po_loop (bS s) (.ptr 0 0) (.ex 6 false (ms.map encM)) ps hl ho ps.length 0 (by omega)
 simp only[List.take_zero,List.isEmpty_nil] at hq;rw[show ps.isEmpty=false by cases ps;simp at h0;rfl] at hq
 refine wayE U20_ok (fi:=fi21) (by kernel_rfl) (LGood.one (b:=lb fi21 0) (k:=5) (σ0:=poS (bS s) (.ptr 0 0) (.ex 6 false (ms.map encM)) ps true [] 0) (by kernel_rfl) (by exact hq)) [(is {env:=[(4,V.ex 4 true []),(12,V.lent (Place.cell 1 2)),(13,.int .i64 (↑(List.map encP ps).length:Int)),(14,.int .i64 0)],heap:=[bS s,bD ms ps]} {env:=[(4,V.ex 4 true []),(12,V.lent (Place.cell 1 2)),(13,.int .i64 (↑ps.length:Int)),(14,.int .i64 0)],heap:=[bS s,bD ms ps]},true)] [1,1,1,1,1,1,1,2] (V.tup [V.ex 4 (false) (List.map encP ps),.int .i64 0],[bS s,bD ms ps]) (by kernel_rfl) ?_ rfl
 exact⟨is_eq (by rw[List.length_map]),trivial⟩
theorem ptsE_runs (s:Set4) (ps:List Pnt) (h0:0<ps.length) (hl:ps.length<2 ^ 40) (ho:ps.all okN2=true):Runs T F 21 [.ptr 1 0] [bS s,bE ps] (.tup [.ex 4 false (ps.map encP),.int .i64 0],[bS s,bE ps]):=by
 have hq:=po_loop (bS s) (.ptr 0 0) (.sl true []) ps hl ho ps.length 0 (by omega)
 simp only[List.take_zero,List.isEmpty_nil] at hq;rw[show ps.isEmpty=false by cases ps;simp at h0;rfl] at hq
 refine wayE U20_ok (fi:=fi21) (by kernel_rfl) (LGood.one (b:=lb fi21 0) (k:=5) (σ0:=poS (bS s) (.ptr 0 0) (.sl true []) ps true [] 0) (by kernel_rfl) (by exact hq)) [(is {env:=[(4,V.ex 4 true []),(12,V.lent (Place.cell 1 2)),(13,.int .i64 (↑(List.map encP ps).length:Int)),(14,.int .i64 0)],heap:=[bS s,bE ps]} {env:=[(4,V.ex 4 true []),(12,V.lent (Place.cell 1 2)),(13,.int .i64 (↑ps.length:Int)),(14,.int .i64 0)],heap:=[bS s,bE ps]},true)] [1,1,1,1,1,1,1,2] (V.tup [V.ex 4 (false) (List.map encP ps),.int .i64 0],[bS s,bE ps]) (by kernel_rfl) ?_ rfl
 exact⟨is_eq (by rw[List.length_map]),trivial⟩
noncomputable def ptsS:List V→Heap→Tr (V×Heap):=fun a H=>match a with
 | [p]=>match isPtr 1 p with
  | true=>onSc H (fun s ms ps=>.must (ps.all okN2) (.ret (.tup [.ex 4 false (ps.map encP),.int .i64 0],[bS s,bD ms ps]))) (fun s ps=>.must (ps.all okN2) (.ret (.tup [.ex 4 false (ps.map encP),.int .i64 0],[bS s,bE ps])))
  | false=>.fail
 | _=>.fail
theorem ptsS_ok:∀ a H r,(ptsS a H).run=some r→Runs T F 21 a H r:=by
 intro a H x h;unfold ptsS at h;split at h
 ·rename_i p
  split at h
  ·rename_i hp
   rw[of_isPtr hp];rcases onSc_run h with ⟨s,ms,ps,rfl,h1,h2,h3,h⟩ | ⟨s,ps,rfl,h1,h2,h⟩
   ·obtain⟨h4,k1⟩:=Tr.must_some h
    have hr:=ret_some k1;subst hr;exact ptsD_runs s ms ps h1 h2 h4
   ·obtain⟨h4,k1⟩:=Tr.must_some h
    have hr:=ret_some k1;subst hr;exact ptsE_runs s ps h1 h2 h4
  ·cases h
 ·cases h
noncomputable def U21:Vm.Spec:=U20.add 21 ptsS
theorem U21_ok:Vm.Good (vlim T F) U21:=U20_ok.add ptsS_ok
theorem Inv.okN1 {s:Set4} {ms:List Mem} {ps:List Pnt} {n:Nat} (h:Inv s ms ps n):ms.all Go.Proofs.Ytnijkhcmjpfjeaa.okN1=true:=by
 rw[List.all_eq_true];intro m hm;have:=h.mem m hm
 exact decide_eq_true ⟨by have:=this.len;omega,this.nil⟩
theorem Inv.okN2 {s:Set4} {ms:List Mem} {ps:List Pnt} {n:Nat} (h:Inv s ms ps n):ps.all Go.Proofs.Ytnijkhcmjpfjeaa.okN2=true:=by
 rw[List.all_eq_true];intro p hp;have:=h.pl p hp
 exact decide_eq_true ⟨by have:=this.ids;omega,by have:=this.ws;omega,this.ni,this.nw⟩
end Go.Proofs.Ytnijkhcmjpfjeaa
