/- SY: the law ScaleSmall over V: all small powers;sixteen members;ten thousand epochs;what is no scale. -/
import Derived.Test.YtnijkhcmjpfjeaaSX
namespace Go.Proofs.Ytnijkhcmjpfjeaa
open Go Go.Vm
def w9S (m:Mem) (ps:List Pnt) (k:Int):St:=⟨[(16,.ptr 1 0),(28,.int .i64 k)],[bS s8,bD [m] ps,bPt P.pt1]⟩
def w9E (m:Mem) (ps:List Pnt):Ex×St:=(.exit 18,⟨(w9S m ps 10000).env++[(243,.bool false)],(w9S m ps 0).heap⟩)
def Fd.d9 (k:Nat):Int:=IntKind.i64.wrap (1000000000000-(k:Int).tmod 5)
def Fd.s8:Set4:=⟨70000,100000000000,0,30⟩
def Fd.eM (m:Mem):List V:=[V.agg [.int .i64 m.id,.int .i64 m.h,.int .i64 m.rate,.int .i64 m.memory,.int .i64 m.since,V.sl m.nil (List.map encI m.miss)]]
def Fd.ok8 (ps:List Pnt):Bool:=decide (0≤(ps.getD (ps.length-1) ⟨0,0,true,[],true,[]⟩).ep∧(ps.getD (ps.length-1) ⟨0,0,true,[],true,[]⟩).ep≤1000000000000∧(0:Int)≤0∧(0:Int)≤100)
def Fd.p8:List V:=[V.agg [.int .i64 0,.int .i64 1000000000000,V.sl true [],V.sl true []]]
def w10S (m:Mem) (ps:List Pnt) (k:Int):St:=⟨[(278,.ref (.arr 2) 4),(279,.int .i64 2),(280,.int .i64 k)],[bS s8,bD [m] ps,bPt P.pt1,.cells [.nilp,.sl true [],.sl true []],.cells [.nilp,.ptr 3 0]]⟩
def w10E (m:Mem) (ps:List Pnt):Ex×St:=(.exit 20,⟨(w10S m ps 2).env++[(281,.bool false)],(w10S m ps 0).heap⟩)
theorem w10_loop (m:Mem) (ps:List Pnt):LRuns (vstep T (vlim T F) lplim fi8.cx 5 (lb fi8 10)) (w10S m ps 0) (w10E m ps):=LRuns.eval 40 20 (by kernel_rfl)
theorem e8:Fd.s8=s8:=rfl
theorem eM_dec (m:Mem):P.decMs (Fd.eM m)=[m]:=decMs_enc [m]
theorem p8_dec:P.decPs Fd.p8=[p8]:=decPs_enc [p8]
theorem d1_dec (d:Int):P.decDs [V.agg [.int .i64 0,.int .i64 d]]=[⟨0,d⟩]:=decDs_enc [⟨0,d⟩]
theorem one_take {m:Mem} {ps:List Pnt} {n:Nat} {d:Int} (hI:Inv s8 [m] ps n) (hm:m.id=0) (hd:-1000000000000≤d∧d≤1000000000000) (hh:-2000000000000≤m.h+m.rate-d∧m.h+m.rate-d≤2000000000000) (hp:ps.length≤10000) :
  P.rdE [m] ps [⟨0,d⟩]=0∧∃ m',P.takeM s8 [m] ps [⟨0,d⟩]=[m']∧m'.id=0∧m'.h=m.h+m.rate∧m'.rate=m.rate∧m'.memory=m.memory:=by
 have hdf:P.dfo [⟨0,d⟩] m.id=some d:=by simp[P.dfo,hm]
 have hL:P.rdL [m] [] [⟨0,d⟩]=0:=by simp[P.rdL,P.fd,hm,hd]
 have hM:P.rdM [⟨0,d⟩] [m] 0=some [⟨0,m.h+m.rate-d⟩]:=by simp[P.rdM,hdf,hh]
 have he:P.rdE [m] ps [⟨0,d⟩]=0:=by
  unfold P.rdE;rw[if_neg (by omega),if_pos hL,if_neg (by simp),hM]
 refine⟨he,?_⟩;have hV:P.rdV [m] ps [⟨0,d⟩]=[⟨0,m.h+m.rate-d⟩]:=by unfold P.rdV;rw[if_pos he,hM];rfl
 have hv:=rdV_ok he;have hl:=hI.len;obtain⟨q0,q1,q2,_⟩:=pq_ok (s:=s8) (ps:=ps) hv.1 (by omega) hv.2.2
 have hs:∀ e∈P.pq s8 [m] ps (P.rdV [m] ps [⟨0,d⟩]),e.est=m.h+m.rate-d:=fun e h=>by
  have:=(pq_sub s8 [m] ps (P.rdV [m] ps [⟨0,d⟩])).subset h
  rw[hV] at this;simp only[List.mem_singleton] at this;rw[this]
 have hu:P.avU s8.cap [m] (P.pq s8 [m] ps (P.rdV [m] ps [⟨0,d⟩]))=m.h+m.rate-d:=by
  have h1:=avU_ge (cap:=s8.cap) (m:=m.h+m.rate-d) hI.okMb q2 q0 q1 (fun e h=>by rw[hs e h];exact Int.le_refl _)
  have h2:=avU_le (cap:=s8.cap) (m:=m.h+m.rate-d) hI.okMb q2 q0 q1 (fun e h=>by rw[hs e h];exact Int.le_refl _)
  omega
 rw[takeM_map he,hu];refine⟨_,rfl,?_⟩;unfold P.tkG;rw[hdf];simp only[Option.map_some,P.tk1,P.nxt];refine⟨hm,by omega,?_,trivial⟩
 rw[Int.sub_self];simp
theorem w9_loop:∀ (dd k:Nat) (m:Mem) (ps:List Pnt),k+dd=10000→m.id=0→m.h=2000937499993+937499*((k:Int)-1)→m.rate=937499→1≤k→ps.length=k+1→Inv s8 [m] ps (k+100) →
  ∃ m' ps',Inv s8 [m'] ps' 10100∧ps'.length=10001∧LRuns (vstep T (vlim T F) lplim fi8.cx 3 (lb fi8 9)) (w9S m ps k) (w9E m' ps')
 | 0,k,m,ps,hk,h0,h1,h2,h3,h4,hI=>by
  have hm:k=10000:=by omega
  subst hm;exact⟨m,ps,hI,h4,lastE X3_ok noL [(decide ((↑(10000):Int)<10000),false)] [2] (Ex.exit 18,{env:=[(16,V.ptr 1 0),(28,.int .i64 (↑(10000):Int)),(243,V.bool (decide ((↑(10000):Int)<10000)))],heap:=[B.cells [.int .i64 70000,.int .i64 100000000000,.int .i64 0,.int .i64 30],B.cells [V.ptr 0 0,V.ex 6 false (Fd.eM m),V.ex 4 false (List.map encP ps)],B.cells [.int .i64 P.pt1.1,.int .i64 P.pt1.2,V.sl false (List.map encI P.pt1.4),V.sl false (List.map encI P.pt1.6)]]}) (by kernel_rfl) (by simp) ⟨by simp,trivial⟩ (by simp[w9S,w9E,bD,bS,bPt,s8,Fd.eM,encM])⟩
 | dd+1,k,m,ps,hk,h0,h1,h2,h3,h4,hI=>by
  have ht0:0≤(k:Int).tmod 5:=Int.tmod_nonneg 5 (by omega)
  have ht1:(k:Int).tmod 5<5:=Int.tmod_lt_of_pos _ (by omega)
  have hd9:Fd.d9 k=1000000000000-(k:Int).tmod 5:=by unfold Fd.d9;rw[i64in (by omega) (by omega)]
  obtain⟨he,m1,g1,g2,g3,g4,g5⟩:=one_take (d:=Fd.d9 k) hI h0 (by rw[hd9];omega) (by rw[hd9];omega) (by omega)
  have hI1:=hI.take he;rw[g1] at hI1;have hinv:P.inv s8 [m] ps=true:=inv_iff.2 ⟨k+100,by omega,hI⟩
  obtain⟨m',ps',r1,r2,r3⟩:=w9_loop dd (k+1) m1 (ps++[P.pto s8 [m] ps [⟨0,Fd.d9 k⟩]]) (by omega) g2 (by rw[g3];omega) (by rw[g4,h2]) (by omega) (by simp;omega) (by rw[show k+1+100=k+100+1 by omega];exact hI1)
  refine⟨m',ps',r1,r2,?_⟩;refine nextE X3_ok noL [(decide ((↑k:Int)<10000),true),(eqB [V.agg [.int .i64 0,.int .i64 (Fd.d9 k)]] (List.map encD (P.decDs [V.agg [.int .i64 0,.int .i64 (Fd.d9 k)]])),true),(eqB [V.int IntKind.i64 70000,.int .i64 100000000000,.int .i64 0,.int .i64 30] [.int .i64 70000,.int .i64 100000000000,.int .i64 0,.int .i64 30],true),(eqB (List.map encP ps) (List.map encP (P.decPs (List.map encP ps))),true),(decide (0<(List.map encP ps).length),true),(decide ((List.map encP ps).length<1099511627776),true),(eqB (Fd.eM m) (List.map encM (P.decMs (Fd.eM m))),true),(P.inv Fd.s8 (P.decMs (Fd.eM m)) (P.decPs (List.map encP ps)),true),(decide (P.rdE (P.decMs (Fd.eM m)) (P.decPs (List.map encP ps)) (P.decDs [V.agg [.int .i64 0,.int .i64 (Fd.d9 k)]])=0),true)] [2,0,0,1,3,0,4,5,6,7,8,0,9,10,0,1,1,1] {env:=[(16,V.ptr 1 0),(28,.int .i64 (IntKind.i64.wrap ((↑k:Int)+1)))],heap:=[B.cells [.int .i64 70000,.int .i64 100000000000,.int .i64 0,.int .i64 30],B.cells [V.ptr 0 0,V.ex 6 false (List.map encM (P.takeM Fd.s8 (P.decMs (Fd.eM m)) (P.decPs (List.map encP ps)) (P.decDs [V.agg [.int .i64 0,.int .i64 (Fd.d9 k)]]))),V.ex 4 false (List.map encP (P.decPs (List.map encP ps)++[P.pto Fd.s8 (P.decMs (Fd.eM m)) (P.decPs (List.map encP ps)) (P.decDs [V.agg [.int .i64 0,.int .i64 (Fd.d9 k)]])]))],B.cells [.int .i64 P.pt1.1,.int .i64 P.pt1.2,V.sl false (List.map encI P.pt1.4),V.sl false (List.map encI P.pt1.6)]]} (by kernel_rfl) ?_ (by rw[eM_dec,decPs_enc,d1_dec,show Fd.s8=s8 from rfl,g1,i64in (by omega) (by omega)];rfl) r3
  have hk1:(k:Int)<10000:=by omega
  refine⟨?_,?_,?_,?_,?_,?_,?_,?_,?_,trivial⟩
  ·dsimp only;exact decide_eq_true hk1
  ·exact isDs_enc [⟨0,Fd.d9 k⟩]
  ·exact eqB_self _
  ·exact isPs_enc _
  ·rw[List.length_map];exact decide_eq_true (by omega)
  ·rw[List.length_map];exact decide_eq_true (by omega)
  ·exact isMs_enc [m]
  ·rw[eM_dec,decPs_enc];exact hinv
  ·rw[eM_dec,decPs_enc,d1_dec];exact decide_eq_true he
theorem okEp8 (ps:List Pnt):okEp s8 ps=Fd.ok8 ps:=rfl
theorem nwE_ok:P.nwE 70000 100000000000 0 30 1000000000000=0:=by kernel_rfl
theorem inv16:Inv s8 P.M16 [p8] 0:=by
 have h0:=Inv.new nwE_ok;refine⟨h0.set,of_decide_eq_true (by kernel_rfl),of_decide_eq_true (by kernel_rfl),fun m hm=>?_,h0.p0,h0.p1,h0.ep,h0.u,h0.pl⟩
 obtain⟨i,hi,rfl⟩:=List.mem_map.1 hm;rw[List.mem_range] at hi;refine⟨by simp only;omega,by simp only;split<;>omega,by simp only;omega,by simp,by simp,by simp⟩
theorem rd16:P.rdE P.M16 [p8] P.R16=0:=by kernel_rfl
theorem inv1:Inv s8 [P.m0] [p8,P.pt1] 101:=by
 have h1:Inv s8 P.M17 [p8,P.pt1] 1:=inv16.take rd16;have hm:=h1.mem P.m0 (by rw[m17_eq];simp)
 refine⟨h1.set,by decide,by decide,fun m hm'=>?_,h1.p0,by have:=h1.p1;omega,h1.ep,h1.u,h1.pl⟩
 simp only[List.mem_singleton] at hm';subst hm';exact⟨hm.h,by have:=hm.rate;omega,hm.mem,hm.len,hm.miss,hm.nil⟩
theorem ws16:P.pt1.ws.length=16:=by kernel_rfl
theorem law8_runs:Runs T F 8 [] [] (.bool true,[]):=by
 obtain⟨m,ps,hI,hp,h9⟩:=w9_loop 9999 1 P.m0 [p8,P.pt1] (by omega) rfl (by decide) rfl (by omega) rfl inv1
 have hL:LGood T (vlim T F) lplim fi8.cx (loopsIs [(2,w0S 0,w0E),(17,w3S 0,w3E),(36,w6S 0,w6E),(45,w7S 0,w7E),(59,w8S P.M17 1,w8E),(64,w9S P.m0 [p8,P.pt1] 1,w9E m ps),(74,w10S m ps 0,w10E m ps)]) fi8.body:=by
  refine LGood.is fun b hb x hx hf=>?_
  have hll:loopsOf fi8.body=[lb fi8 0,lb fi8 1,lb fi8 2,lb fi8 3,lb fi8 4,lb fi8 5,lb fi8 6,lb fi8 7,lb fi8 8,lb fi8 9,lb fi8 10]:=by kernel_rfl
  have hfr:(loopsOf fi8.body).map firstRegion=[2,5,8,17,20,23,36,45,59,64,74]:=by kernel_rfl
  rw[hll] at hb hfr;simp only[List.map_cons,List.map_nil,List.cons.injEq,and_true] at hfr;obtain⟨f0,f1,f2,f3,f4,f5,f6,f7,f8,f9,f10⟩:=hfr;simp only[List.mem_cons,List.not_mem_nil,or_false] at hb hx;rcases hx with rfl | rfl | rfl | rfl | rfl | rfl | rfl<;>simp only at hf ⊢
  ·rcases hb with rfl | rfl | rfl | rfl | rfl | rfl | rfl | rfl | rfl | rfl | rfl<;>first | (exfalso;omega) | exact w0_loop 343 0 (by omega) (by omega)
  ·rcases hb with rfl | rfl | rfl | rfl | rfl | rfl | rfl | rfl | rfl | rfl | rfl<;>first | (exfalso;omega) | exact w3_loop
  ·rcases hb with rfl | rfl | rfl | rfl | rfl | rfl | rfl | rfl | rfl | rfl | rfl<;>first | (exfalso;omega) | exact w6_loop
  ·rcases hb with rfl | rfl | rfl | rfl | rfl | rfl | rfl | rfl | rfl | rfl | rfl<;>first | (exfalso;omega) | exact w7_loop
  ·rcases hb with rfl | rfl | rfl | rfl | rfl | rfl | rfl | rfl | rfl | rfl | rfl<;>first | (exfalso;omega) | exact w8_loop
  ·rcases hb with rfl | rfl | rfl | rfl | rfl | rfl | rfl | rfl | rfl | rfl | rfl<;>first | (exfalso;omega) | exact h9
  ·rcases hb with rfl | rfl | rfl | rfl | rfl | rfl | rfl | rfl | rfl | rfl | rfl<;>first | (exfalso;omega) | exact w10_loop m ps
 have h2:∀ l:List Rd,P.rdE [m] (P.decPs (ps.map encP)) l=2:=fun l=>by rw[decPs_enc];unfold P.rdE;rw[if_pos (by omega)]
 refine wayE X3_ok (fi:=fi8) (by kernel_rfl) hL [(is {env:=[(1,.int .i64 0)],heap:=[]} {env:=[(1,.int .i64 0)],heap:=[]},true),(is {env:=[(106,V.ex 1 false Fd.lsV),(107,.int .i64 6),(108,.int .i64 0)],heap:=[]} {env:=[(106,V.ex 1 false Fd.lsV),(107,.int .i64 6),(108,.int .i64 0)],heap:=[]},true),(decide (P.nwE 70000 100000000000 0 30 1000000000000=0),true),(decide (P.nwE 70000 100000000000 0 30 1000000000001=0),false),(P.nwE 70000 100000000000 0 30 1000000000001 != 6,false),(is {env:=[(16,V.ptr 1 0),(20,V.ex 2 true []),(21,.int .i64 0)],heap:=[B.cells [.int .i64 70000,.int .i64 100000000000,.int .i64 0,.int .i64 30],B.cells [V.ptr 0 0,V.sl true [],V.ex 4 false Fd.p8]]} {env:=[(16,V.ptr 1 0),(20,V.ex 2 true []),(21,.int .i64 0)],heap:=[B.cells [.int .i64 70000,.int .i64 100000000000,.int .i64 0,.int .i64 30],B.cells [V.ptr 0 0,V.sl true [],V.ex 4 false Fd.p8]]},true),(is {env:=[(16,V.ptr 1 0),(20,V.ex 2 false (List.map encD P.R16)),(195,V.ex 4 false Fd.x8),(196,.int .i64 8),(197,.int .i64 0)],heap:=[B.cells [.int .i64 70000,.int .i64 100000000000,.int .i64 0,.int .i64 30],B.cells [V.ptr 0 0,V.ex 6 false (List.map encM P.M16),V.ex 4 false Fd.p8]]} {env:=[(16,V.ptr 1 0),(20,V.ex 2 false (List.map encD P.R16)),(195,V.ex 4 false Fd.x8),(196,.int .i64 8),(197,.int .i64 0)],heap:=[B.cells [.int .i64 70000,.int .i64 100000000000,.int .i64 0,.int .i64 30],B.cells [V.ptr 0 0,V.ex 6 false (List.map encM P.M16),V.ex 4 false Fd.p8]]},true),(eqB (List.map encD P.R16) (List.map encD (P.decDs (List.map encD P.R16))),true),(decide ((List.map encD P.R16).length<1099511627776),true),(eqB [V.int IntKind.i64 70000,.int .i64 100000000000,.int .i64 0,.int .i64 30] [.int .i64 70000,.int .i64 100000000000,.int .i64 0,.int .i64 30],true),(eqB Fd.p8 (List.map encP (P.decPs Fd.p8)),true),(eqB (List.map encM P.M16) (List.map encM (P.decMs (List.map encM P.M16))),true),(decide ((List.map encM P.M16).length<1099511627776),true),(P.inv Fd.s8 (P.decMs (List.map encM P.M16)) (P.decPs Fd.p8),true),(decide (P.rdE (P.decMs (List.map encM P.M16)) (P.decPs Fd.p8) (P.decDs (List.map encD P.R16))=0),true),((↑(List.map encI (P.pto Fd.s8 (P.decMs (List.map encM P.M16)) (P.decPs Fd.p8) (P.decDs (List.map encD P.R16))).6).length:Int) != 16,false),(is {env:=[(16,V.ptr 1 0),(27,.int .i64 1)],heap:=[B.cells [.int .i64 70000,.int .i64 100000000000,.int .i64 0,.int .i64 30],B.cells [V.ptr 0 0,V.ex 6 false (List.map encM (P.takeM Fd.s8 (P.decMs (List.map encM P.M16)) (P.decPs Fd.p8) (P.decDs (List.map encD P.R16)))),V.ex 4 false (List.map encP (P.decPs Fd.p8++[P.pto Fd.s8 (P.decMs (List.map encM P.M16)) (P.decPs Fd.p8) (P.decDs (List.map encD P.R16))]))],B.cells [.int .i64 (P.pto Fd.s8 (P.decMs (List.map encM P.M16)) (P.decPs Fd.p8) (P.decDs (List.map encD P.R16))).1,.int .i64 (P.pto Fd.s8 (P.decMs (List.map encM P.M16)) (P.decPs Fd.p8) (P.decDs (List.map encD P.R16))).2,V.sl false (List.map encI (P.pto Fd.s8 (P.decMs (List.map encM P.M16)) (P.decPs Fd.p8) (P.decDs (List.map encD P.R16))).4),V.sl false (List.map encI (P.pto Fd.s8 (P.decMs (List.map encM P.M16)) (P.decPs Fd.p8) (P.decDs (List.map encD P.R16))).6)]]} {env:=[(16,V.ptr 1 0),(27,.int .i64 1)],heap:=[B.cells [.int .i64 70000,.int .i64 100000000000,.int .i64 0,.int .i64 30],B.cells [V.ptr 0 0,V.ex 6 false (List.map encM P.M17),V.ex 4 false [V.agg [.int .i64 0,.int .i64 1000000000000,V.sl true [],V.sl true []],V.agg [.int .i64 P.pt1.1,.int .i64 P.pt1.2,V.sl P.pt1.3 (List.map encI P.pt1.4),V.sl P.pt1.5 (List.map encI P.pt1.6)]]],B.cells [.int .i64 P.pt1.1,.int .i64 P.pt1.2,V.sl false (List.map encI P.pt1.4),V.sl false (List.map encI P.pt1.6)]]},true),(is {env:=[(16,V.ptr 1 0),(28,.int .i64 1)],heap:=[B.cells [.int .i64 70000,.int .i64 100000000000,.int .i64 0,.int .i64 30],B.cells [V.ptr 0 0,V.ex 6 false (Fd.eM P.m0),V.ex 4 false [V.agg [.int .i64 0,.int .i64 1000000000000,V.sl true [],V.sl true []],V.agg [.int .i64 P.pt1.1,.int .i64 P.pt1.2,V.sl P.pt1.3 (List.map encI P.pt1.4),V.sl P.pt1.5 (List.map encI P.pt1.6)]]],B.cells [.int .i64 P.pt1.1,.int .i64 P.pt1.2,V.sl false (List.map encI P.pt1.4),V.sl false (List.map encI P.pt1.6)]]} {env:=[(16,V.ptr 1 0),(28,.int .i64 1)],heap:=[B.cells [.int .i64 70000,.int .i64 100000000000,.int .i64 0,.int .i64 30],B.cells [V.ptr 0 0,V.ex 6 false (Fd.eM P.m0),V.ex 4 false [V.agg [.int .i64 0,.int .i64 1000000000000,V.sl true [],V.sl true []],V.agg [.int .i64 P.pt1.1,.int .i64 P.pt1.2,V.sl P.pt1.3 (List.map encI P.pt1.4),V.sl P.pt1.5 (List.map encI P.pt1.6)]]],B.cells [.int .i64 P.pt1.1,.int .i64 P.pt1.2,V.sl false (List.map encI P.pt1.4),V.sl false (List.map encI P.pt1.6)]]},true),(eqB [V.agg [.int .i64 0,.int .i64 0]] (List.map encD (P.decDs [V.agg [.int .i64 0,.int .i64 0]])),true),(eqB (List.map encP ps) (List.map encP (P.decPs (List.map encP ps))),true),(decide (0<(List.map encP ps).length),true),(decide ((List.map encP ps).length<1099511627776),true),(eqB (Fd.eM m) (List.map encM (P.decMs (Fd.eM m))),true),(P.inv Fd.s8 (P.decMs (Fd.eM m)) (P.decPs (List.map encP ps)),true),(decide (P.rdE (P.decMs (Fd.eM m)) (P.decPs (List.map encP ps)) (P.decDs [V.agg [.int .i64 0,.int .i64 0]])=0),false),(P.rdE (P.decMs (Fd.eM m)) (P.decPs (List.map encP ps)) (P.decDs [V.agg [.int .i64 0,.int .i64 0]]) != 0,true),(eqB [] (List.map encD (P.decDs [])),true),(decide ((P.decMs (Fd.eM m)).length≤16),true),((P.decMs (Fd.eM m)).all fun m=>decide (-1000000000000000000≤m.2∧m.2≤1000000000000000000∧-1000000000000000000≤m.3∧m.3≤1000000000000000000),true),((P.decMs (Fd.eM m)).all fun m=>(m.7.all fun x=>decide (-1000000000≤x∧x≤1000000000))&&decide (m.7.length≤1000000),true),(Fd.ok8 (P.decPs (List.map encP ps)),true),(decide (P.rdE (P.decMs (Fd.eM m)) (P.decPs (List.map encP ps)) (P.decDs [])=0),false),(P.rdE (P.decMs (Fd.eM m)) (P.decPs (List.map encP ps)) (P.decDs []) != 0,true),(P.rdE (P.decMs (Fd.eM m)) (P.decPs (List.map encP ps)) (P.decDs [V.agg [.int .i64 0,.int .i64 0]]) != 2,false),(P.rdE (P.decMs (Fd.eM m)) (P.decPs (List.map encP ps)) (P.decDs []) != 2,false),(is {env:=[(278,V.ref (RK.arr 2) 4),(279,.int .i64 2),(280,.int .i64 0)],heap:=[B.cells [.int .i64 70000,.int .i64 100000000000,.int .i64 0,.int .i64 30],B.cells [V.ptr 0 0,V.ex 6 false (Fd.eM m),V.ex 4 false (List.map encP ps)],B.cells [.int .i64 P.pt1.1,.int .i64 P.pt1.2,V.sl false (List.map encI P.pt1.4),V.sl false (List.map encI P.pt1.6)],B.cells [V.nilp,V.sl true [],V.sl true []],B.cells [V.nilp,V.ptr 3 0]]} {env:=[(278,V.ref (RK.arr 2) 4),(279,.int .i64 2),(280,.int .i64 0)],heap:=[B.cells [.int .i64 70000,.int .i64 100000000000,.int .i64 0,.int .i64 30],B.cells [V.ptr 0 0,V.ex 6 false (Fd.eM m),V.ex 4 false (List.map encP ps)],B.cells [.int .i64 P.pt1.1,.int .i64 P.pt1.2,V.sl false (List.map encI P.pt1.4),V.sl false (List.map encI P.pt1.6)],B.cells [V.nilp,V.sl true [],V.sl true []],B.cells [V.nilp,V.ptr 3 0]]},true)] [2,0,0,0,0,3,4,5,1,1,1,6,6,6,1,7,8,0,1,9,10,11,12,0,0,13,14,15,16,0,1,1,1,1,1,1,1,17,18,19,0,1,20,0,11,21,22,23,24,0,25,26,27,0,1,1,0,1,28,0,11,21,22,23,24,0,29,30,31,32,33,34,0,1,35,35,35,36,37] (V.bool true,[]) (by kernel_rfl) ?_ rfl
 exact⟨is_eq rfl,is_eq rfl,decide_eq_true nwE_ok,by kernel_rfl,by kernel_rfl,is_eq rfl,is_eq rfl,isDs_enc _,by kernel_rfl,eqB_self _,isPs_enc [p8],isMs_enc _,by kernel_rfl,by rw[decMs_enc,p8_dec];exact inv_iff.2 ⟨0,by omega,inv16⟩,by rw[decMs_enc,p8_dec,decDs_enc];exact decide_eq_true rd16,
  by rw[decMs_enc,p8_dec,decDs_enc,List.length_map,show (P.pto Fd.s8 P.M16 [p8] P.R16).ws.length=16 from ws16];rfl,by (rw[decMs_enc,p8_dec,decDs_enc];exact is_eq rfl),is_eq rfl,isDs_enc [⟨0,0⟩],isPs_enc _,by rw[List.length_map];exact decide_eq_true (by omega),by rw[List.length_map];exact decide_eq_true (by omega),isMs_enc [m],
  by rw[eM_dec,decPs_enc];exact inv_iff.2 ⟨10100,by omega,hI⟩,by rw[eM_dec,h2];rfl,by rw[eM_dec,h2];rfl,isDs_enc [],by rw[eM_dec];rfl,by rw[eM_dec];exact hI.okMs (by omega),by rw[eM_dec];exact hI.okMb,by rw[decPs_enc];have h:=hI.okEp (by omega);rw[okEp8] at h;dsimp only;exact h,by rw[eM_dec,h2];rfl,by rw[eM_dec,h2];rfl,by rw[eM_dec,h2];rfl,by rw[eM_dec,h2];rfl,is_eq rfl,trivial⟩
theorem lawScaleSmall:∀ xs,AllV T 8 [] xs→∃ k,vcall T F k 8 xs []=some (.bool true,[]):=by
 intro xs hxs;obtain rfl:=allV_nil hxs
 exact law8_runs
end Go.Proofs.Ytnijkhcmjpfjeaa
