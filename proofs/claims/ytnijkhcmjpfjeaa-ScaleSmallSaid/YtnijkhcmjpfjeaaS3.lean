/- S3: shares are sorted by what is left over: the sort. -/
import Derived.Test.YtnijkhcmjpfjeaaS2
namespace Go.Proofs.Ytnijkhcmjpfjeaa
open Go Go.Vm
theorem r_loop (n:Nat):∀ (m i:Nat) (d:List Shr),(i+m=n∨m=0∧n≤i)→i<2 ^ 40→n=d.length→n<2 ^ 40→OkR d→LRuns (vstep T (vlim T F) lplim fi74.cx 1 (lb fi74 0)) (iSt n i d) (.exit 0,⟨(iSt n (i+m:Nat) d).env++[(14,.bool false)],[.cells (P.flat (P.isort d i m))]⟩)
 | 0,i,d,hm,hi,hn,hs,ho=>by
  have:=LRuns.last (F:=F) Y_ok (sh:=Sh) (L:=fun _ _=>.fail) (n:=1) (b:=lb fi74 0) (cx:=fi74.cx) (τ:=iSt n i d) (fun _ _ _ _ h=>by cases h) [(decide ((i:Int)<(n:Int)),false)] [2]
   (r:=(.exit 0,⟨(iSt n i d).env++[(14,.bool (decide ((i:Int)<(n:Int))))],[.cells (P.flat d)]⟩)) (by kernel_rfl) (by simp) ⟨by simp;omega,trivial⟩
  rw[show decide ((i:Int)<(n:Int))=false by simp;omega] at this
  exact this
 | m+1,i,d,hm,hi,hn,hs,ho=>by
  have hw:IntKind.i64.wrap ((i:Int)+1)=((i+1:Nat):Int):=by rw[i64in (by omega) (by omega)];rfl
  obtain⟨jf,hq⟩:=q_loop n i i i d rfl (by omega) hn hs ho
  have ih:=r_loop n m (i+1) (P.ins d i) (by omega) (by omega) (by rw[ins_length];exact hn) hs (ho.ins i)
  rw[show P.isort d i (m+1)=P.isort (P.ins d i) (i+1) m from rfl,show i+(m+1)=i+1+m by omega]
  generalize P.ins d i=e at *;refine LRuns.next (F:=F) Y_ok (sh:=Sh) (L:=loopsIs [(4,jSt n i i d,(.exit 2,⟨(jSt n i jf d).env++[(34,.bool false)],[.cells (P.flat e)]⟩))]) (LGood.one (b:=lb fi74 1) (k:=4) (σ0:=jSt n i i d) (by kernel_rfl) (by exact hq)) [(decide ((↑i:Int)<(↑n:Int)),true),(is {env:=[(0,V.ref (RK.arr n) 0),(1,.int .i64 0),(2,.int .i64 (↑n:Int)),(3,V.clo (Fn.func 41) [] []),(8,.int .i64 (↑i:Int)),(9,.int .i64 (↑i:Int))],heap:=[B.cells (P.flat d)]} {env:=[(0,V.ref (RK.arr n) 0),(1,.int .i64 0),(2,.int .i64 (↑n:Int)),(3,V.clo (Fn.func 41) [] []),(8,.int .i64 (↑i:Int)),(9,.int .i64 (↑i:Int))],heap:=[B.cells (P.flat d)]},true)] [2,3] (τ':={env:=[(0,V.ref (RK.arr n) 0),(1,.int .i64 0),(2,.int .i64 (↑n:Int)),(3,V.clo (Fn.func 41) [] []),(8,.int .i64 (IntKind.i64.wrap ((↑i:Int)+1)))],heap:=[B.cells (P.flat e)]}) (by kernel_rfl) ⟨by simp;omega,is_eq rfl,trivial⟩ ?_
  rw[hw];exact ih
namespace P
def dec:List V→List Shr
 | a::b::c::l=>⟨intOf a,intOf b,intOf c⟩::dec l
 | _=>[]
end P
theorem dec_flat:∀ d:List Shr,P.dec (P.flat d)=d
 | []=>rfl
 | x::d=>by rw[flat_cons];simp only[P.dec,intOf,dec_flat d]
def okRb (d:List Shr):Bool:=d.all fun s=>decide (0≤s.rest)&&decide (s.rest≤2000000000000)
theorem okRb_iff {d:List Shr}:okRb d=true↔OkR d:=by simp[okRb,OkR]
theorem flat_ids:∀ d:List Shr,(P.flat d).flatMap ptrX=[]
 | []=>rfl
 | x::d=>by rw[flat_cons];simp[List.flatMap_cons,ptrX,ptrId,flat_ids d]
theorem flat_cids (d:List Shr):cellIds [.cells (P.flat d)] 0=[]:=by simp[cellIds,bcells,flat_ids]
theorem flat_reach (d:List Shr):reach [.cells (P.flat d)] 1 [0]=[0]:=by simp[reach,more,flat_cids]
theorem flat_closed (d:List Shr):closedK [0] [.cells (P.flat d)]=true:=by simp[closedK,flat_cids]
noncomputable def srtT (ok:Bool) (n:Nat) (k:Int) (cs:List V):Tr (V×Heap):=.must ok (.must (eqB cs (P.flat (P.dec cs))) (.must (eqB (n:Int) k) (.must (eqB n (P.dec cs).length) (.must (decide (n≤16)) (.must (okRb (P.dec cs))
   (.ret (.tup [],[.cells (P.flat (P.isort (P.dec cs) 1 (n-1)))])))))))
theorem srtT_run {ok:Bool} {n:Nat} {k:Int} {cs:List V} {r:V×Heap} (h:(srtT ok n k cs).run=some r):ok=true∧∃ d,cs=P.flat d∧k=n∧n=d.length∧n≤16∧OkR d∧r=(.tup [],[.cells (P.flat (P.isort d 1 (n-1)))]):=by
 unfold srtT at h;obtain⟨h0,h⟩:=Tr.must_some h;obtain⟨h1,h⟩:=Tr.must_some h;obtain⟨h2,h⟩:=Tr.must_some h;obtain⟨h3,h⟩:=Tr.must_some h;obtain⟨h4,h⟩:=Tr.must_some h;obtain⟨h5,h⟩:=Tr.must_some h;have hr:=ret_some h;exact⟨h0,P.dec cs,of_eqB h1,(of_eqB h2).symm,of_eqB h3,by simpa using h4,okRb_iff.1 h5,hr.symm⟩
noncomputable def insS:List V→Heap→Tr (V×Heap):=fun a H=>match a,H with
 | [.ref (.arr n) 0,.int .i64 0,.int .i64 k,.clo (.func 41) [] []],[.cells cs]=>srtT true n k cs
 | _,_=>.fail
theorem insS_ok:∀ a H r,(insS a H).run=some r→Runs T F 74 a H r:=by
 intro a H r h;unfold insS at h;split at h
 ·obtain⟨-,d,rfl,rfl,hn,hs,ho,rfl⟩:=srtT_run h
  rename_i n;have hq:=r_loop n (n-1) 1 d (by omega) (by omega) hn (by omega) ho
  generalize P.isort d 1 (n-1)=e at *;exact Runs.way (F:=F) (sh:=Sh) (S:=Y) Y_ok (fi:=fi74) (by kernel_rfl) (L:=loopsIs [(1,iSt n 1 d,(.exit 0,⟨(iSt n (1+(n-1):Nat) d).env++[(14,.bool false)],[.cells (P.flat e)]⟩))])
   (LGood.is fun b hb x hx hf=>by
    have hl:loopsOf fi74.body=[lb fi74 0,lb fi74 1]:=by kernel_rfl
    rw[hl] at hb;simp only[List.mem_cons,List.not_mem_nil,or_false] at hb hx;subst hx;rcases hb with rfl | rfl
    ·exact hq
    ·exact absurd (show Nat.beq (firstRegion (lb fi74 1)) 1=true by rw[hf];rfl) (by rw[show Nat.beq (firstRegion (lb fi74 1)) 1=false by kernel_rfl];simp)) [(is {env:=[(0,V.ref (RK.arr n) 0),(1,.int .i64 0),(2,.int .i64 (↑n:Int)),(3,V.clo (Fn.func 41) [] []),(8,.int .i64 1)],heap:=[B.cells (P.flat d)]} {env:=[(0,V.ref (RK.arr n) 0),(1,.int .i64 0),(2,.int .i64 (↑n:Int)),(3,V.clo (Fn.func 41) [] []),(8,.int .i64 1)],heap:=[B.cells (P.flat d)]},true)] [2] (by kernel_rfl) ⟨is_eq rfl,trivial⟩
 ·cases h
noncomputable def Y74:Vm.Spec:=Y.add 74 insS
theorem Y74_ok:Vm.Good (vlim T F) Y74:=Y_ok.add insS_ok
def stS1 (n:Nat) (d:List Shr):St:=⟨[(0,.ref (.arr n) 0),(1,.int .i64 n),(2,.clo (.func 41) [] []),(6,.int .i64 20),(7,.int .i64 0),(8,.int .i64 20)],[.cells (P.flat d)]⟩
def stS2 (n:Nat) (d:List Shr):St:=⟨[(0,.ref (.arr n) 0),(1,.int .i64 n),(2,.clo (.func 41) [] []),(6,.int .i64 20)],[.cells (P.flat d)]⟩
theorem s1_loop (n:Nat) (d:List Shr) (h:n≤16):LRuns (vstep T (vlim T F) lplim fi62.cx 1 (lb fi62 0)) (stS1 n d) (.exit 0,⟨(stS1 n d).env++[(13,.bool false)],[.cells (P.flat d)]⟩):=by
 have:=LRuns.last (F:=F) Y74_ok (sh:=Sh) (L:=fun _ _=>.fail) (n:=1) (b:=lb fi62 0) (cx:=fi62.cx) (τ:=stS1 n d) (LGood.none (by kernel_rfl)) [(decide (20≤(↑n:Int)),false)] [2]
  (r:=(Ex.exit 0,{env:=[(0,V.ref (RK.arr n) 0),(1,.int .i64 (↑n:Int)),(2,V.clo (Fn.func 41) [] []),(6,.int .i64 20),(7,.int .i64 0),(8,.int .i64 20),(13,V.bool (decide (20≤(↑n:Int))))],heap:=[B.cells (P.flat d)]})) (by kernel_rfl) (by simp) ⟨by simp;omega,trivial⟩
 rw[show decide (20≤(n:Int))=false by simp;omega] at this
 exact this
theorem s2_loop (n:Nat) (d:List Shr) (h:n≤16):LRuns (vstep T (vlim T F) lplim fi62.cx 1 (lb fi62 1)) (stS2 n d) (.exit 2,⟨(stS2 n d).env++[(30,.bool false)],[.cells (P.flat d)]⟩):=by
 have:=LRuns.last (F:=F) Y74_ok (sh:=Sh) (L:=fun _ _=>.fail) (n:=1) (b:=lb fi62 1) (cx:=fi62.cx) (τ:=stS2 n d) (fun _ _ _ _ h=>by cases h) [(decide (20<(↑n:Int)),false)] [2]
  (r:=(Ex.exit 2,{env:=[(0,V.ref (RK.arr n) 0),(1,.int .i64 (↑n:Int)),(2,V.clo (Fn.func 41) [] []),(6,.int .i64 20),(30,V.bool (decide (20<(↑n:Int))))],heap:=[B.cells (P.flat d)]})) (by kernel_rfl) (by simp) ⟨by simp;omega,trivial⟩
 rw[show decide (20<(n:Int))=false by simp;omega] at this
 exact this
theorem stb_loops (n:Nat) (d:List Shr) (hs:n≤16):LGood T (vlim T F) lplim fi62.cx (loopsIs [(2,stS1 n d,(.exit 0,⟨(stS1 n d).env++[(13,.bool false)],[.cells (P.flat d)]⟩)),(7,stS2 n (P.isort (P.dec (P.flat d)) 1 (n-1)),(.exit 2,⟨(stS2 n (P.isort (P.dec (P.flat d)) 1 (n-1))).env++[(30,.bool false)],[.cells (P.flat (P.isort (P.dec (P.flat d)) 1 (n-1)))]⟩))]) fi62.body:=LGood.is fun b hb x hx hf=>by
 have hl:loopsOf fi62.body=[lb fi62 0,lb fi62 1,lb fi62 2]:=by kernel_rfl
 have h0:Nat.beq (firstRegion (lb fi62 0)) 7=false:=by kernel_rfl
 have h1:Nat.beq (firstRegion (lb fi62 1)) 2=false:=by kernel_rfl
 have h2:Nat.beq (firstRegion (lb fi62 2)) 2=false:=by kernel_rfl
 have h3:Nat.beq (firstRegion (lb fi62 2)) 7=false:=by kernel_rfl
 rw[hl] at hb;simp only[List.mem_cons,List.not_mem_nil,or_false] at hb hx;rcases hb with rfl | rfl | rfl<;>rcases hx with rfl | rfl
 ·exact s1_loop n d hs
 ·simp only at hf;rw[hf] at h0;cases h0
 ·simp only at hf;rw[hf] at h1;cases h1
 ·exact s2_loop n _ hs
 ·simp only at hf;rw[hf] at h2;cases h2
 ·simp only at hf;rw[hf] at h3;cases h3
noncomputable def stbS:List V→Heap→Tr (V×Heap):=fun a H=>match a,H with
 | [.ref (.arr n) 0,.int .i64 k,.clo (.func 41) [] []],[.cells cs]=>srtT true n k cs
 | _,_=>.fail
theorem stbS_ok:∀ a H r,(stbS a H).run=some r→Runs T F 62 a H r:=by
 intro a H r h;unfold stbS at h;split at h
 ·obtain⟨-,d,rfl,rfl,hn,hs,ho,rfl⟩:=srtT_run h
  rename_i n;have:=Runs.way (F:=F) (sh:=Sh) (S:=Y74) Y74_ok (fi:=fi62) (f:=62) (a:=[.ref (.arr n) 0,.int .i64 n,.clo (.func 41) [] []]) (H:=[.cells (P.flat d)]) (by kernel_rfl) (L:=loopsIs [(2,stS1 n d,(.exit 0,⟨(stS1 n d).env++[(13,.bool false)],[.cells (P.flat d)]⟩)),(7,stS2 n (P.isort (P.dec (P.flat d)) 1 (n-1)),(.exit 2,⟨(stS2 n (P.isort (P.dec (P.flat d)) 1 (n-1))).env++[(30,.bool false)],[.cells (P.flat (P.isort (P.dec (P.flat d)) 1 (n-1)))]⟩))])
   (stb_loops n d hs) [(is {env:=[(0,V.ref (RK.arr n) 0),(1,.int .i64 (↑n:Int)),(2,V.clo (Fn.func 41) [] []),(6,.int .i64 20),(7,.int .i64 0),(8,.int .i64 20)],heap:=[B.cells (P.flat d)]} {env:=[(0,V.ref (RK.arr n) 0),(1,.int .i64 (↑n:Int)),(2,V.clo (Fn.func 41) [] []),(6,.int .i64 20),(7,.int .i64 0),(8,.int .i64 20)],heap:=[B.cells (P.flat d)]},true),(decide (reach [B.cells (P.flat d)] 1 [0]=[0]),true),(closedK [0] [B.cells (P.flat d)],true),(eqB (P.flat d) (P.flat (P.dec (P.flat d))),true),(eqB (↑n:Int) (↑n:Int),true),(eqB n (P.dec (P.flat d)).length,true),(decide (n≤16),true),((P.dec (P.flat d)).all fun s=>decide (0≤s.3)&&decide (s.3≤2000000000000),true),(is {env:=[(0,V.ref (RK.arr n) 0),(1,.int .i64 (↑n:Int)),(2,V.clo (Fn.func 41) [] []),(6,.int .i64 20)],heap:=[B.cells (P.flat (P.isort (P.dec (P.flat d)) 1 (n-1)))]} {env:=[(0,V.ref (RK.arr n) 0),(1,.int .i64 (↑n:Int)),(2,V.clo (Fn.func 41) [] []),(6,.int .i64 20)],heap:=[B.cells (P.flat (P.isort (P.dec (P.flat d)) 1 (n-1)))]},true)] [2,3,4,0,5,6,7,8,9,10] (r:=(V.tup [],[B.cells (P.flat (P.isort (P.dec (P.flat d)) 1 (n-1)))])) (by kernel_rfl)
   (by refine⟨?_,?_,?_,?_,?_,?_,?_,?_,?_,trivial⟩;all_goals first | exact is_eq rfl | exact decide_eq_true (flat_reach d) | exact flat_closed d | exact eqB_eq rfl | (rw[dec_flat];exact eqB_eq rfl) | (rw[dec_flat];exact eqB_eq hn) | exact decide_eq_true hs | (rw[dec_flat];exact okRb_iff.2 ho))
  rw[dec_flat] at this;exact this
 ·cases h
noncomputable def Y62:Vm.Spec:=Y74.add 62 stbS
theorem Y62_ok:Vm.Good (vlim T F) Y62:=Y74_ok.add stbS_ok
noncomputable def sfS:List V→Heap→Tr (V×Heap):=fun a H=>match a,H with
 | [.ref (.arr n) 0,.clo (.func 41) [] []],[.cells cs]=>srtT true n n cs
 | [.sl _ xs,.clo (.func 41) [] []],[]=>.must xs.isEmpty (.ret (.tup [],[]))
 | _,_=>.fail
theorem sf_none:∀ z,Runs T F 40 [.sl z [],.clo (.func 41) [] []] [] (.tup [],[])
 | true=>⟨20,by kernel_rfl⟩
 | false=>⟨20,by kernel_rfl⟩
theorem sfS_ok:∀ a H r,(sfS a H).run=some r→Runs T F 40 a H r:=by
 intro a H r h;unfold sfS at h;split at h
 ·obtain⟨-,d,rfl,-,hn,hs,ho,rfl⟩:=srtT_run h
  rename_i n;have:=Runs.way (F:=F) (sh:=Sh) (S:=Y62) Y62_ok (fi:=fi40) (f:=40) (a:=[.ref (.arr n) 0,.clo (.func 41) [] []]) (H:=[.cells (P.flat d)]) (by kernel_rfl) (L:=fun _ _=>.fail)
   (LGood.none (by kernel_rfl)) [(decide (reach [B.cells (P.flat d)] 1 [0]=[0]),true),(closedK [0] [B.cells (P.flat d)],true),(eqB (P.flat d) (P.flat (P.dec (P.flat d))),true),(eqB (↑n:Int) (↑n:Int),true),(eqB n (P.dec (P.flat d)).length,true),(decide (n≤16),true),((P.dec (P.flat d)).all fun s=>decide (0≤s.3)&&decide (s.3≤2000000000000),true)] [2,3,0,4,5,6,7,8] (r:=(V.tup [],[B.cells (P.flat (P.isort (P.dec (P.flat d)) 1 (n-1)))])) (by kernel_rfl)
   (by refine⟨?_,?_,?_,?_,?_,?_,?_,trivial⟩;all_goals first | exact is_eq rfl | exact decide_eq_true (flat_reach d) | exact flat_closed d | exact eqB_eq rfl | (rw[dec_flat];exact eqB_eq rfl) | (rw[dec_flat];exact eqB_eq hn) | exact decide_eq_true hs | (rw[dec_flat];exact okRb_iff.2 ho))
  rw[dec_flat] at this;exact this
 ·rename_i z xs
  obtain⟨h1,h⟩:=Tr.must_some h;have hr:=ret_some h;clear h;subst hr;cases xs with
  | nil=>exact sf_none z
  | cons x xs=>cases h1
 ·cases h
noncomputable def Y40:Vm.Spec:=Y62.add 40 sfS
theorem Y40_ok:Vm.Good (vlim T F) Y40:=Y62_ok.add sfS_ok
theorem regroup_flat:∀ d e:List Shr,d.length=e.length→regroup (d.map encR) (P.flat e)=e.map encR
 | [],[],_=>rfl
 | x::d,y::e,h=>by
  rw[flat_cons];simp only[List.map_cons,regroup];have:=regroup_flat d e (by simpa using h)
  simp only[encR,V.cells,List.length_cons,List.length_nil] at this ⊢
  congr 1
theorem flat_join (d:List Shr):((d.map encR).map V.cells).flatten=P.flat d:=by rw[P.flat,List.flatMap_def]
end Go.Proofs.Ytnijkhcmjpfjeaa
