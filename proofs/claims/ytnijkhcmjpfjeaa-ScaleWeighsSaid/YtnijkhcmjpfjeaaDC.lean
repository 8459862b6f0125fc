/- DC: what is taken. -/
import Derived.Test.YtnijkhcmjpfjeaaDA
namespace Go.Proofs.Ytnijkhcmjpfjeaa
open Go Go.Vm
def tkH (s:Set4) (ms:List Mem) (ps:List Pnt) (p:Pnt) (ks vs:List Int):Heap:=[bS s,bD ms ps,.cells [.int .i64 0,.int .i64 0,.sl true [],.sl true []],.cells [.int .i64 p.ep,.int .i64 p.u,.sl false (p.ids.map encI),.sl false (p.ws.map encI)],.cells [.mp (ks.map encI) (vs.map encI)]]
def t1S (s:Set4) (ms:List Mem) (ps:List Pnt) (p:Pnt) (l:List Prs) (b:Bool) (ks vs:List Int) (k:Int):St:=⟨[(0,V.ptr 1 0),(4,V.ptr 2 0),(8,V.ptr 3 0),(9,V.ref RK.map 4),(30,V.sl b (l.map encE)),(31,.int .i64 l.length),(32,.int .i64 k)],tkH s ms ps p ks vs⟩
def Fd.st (xs:List V) (k j:Nat) (v:V):List V:=xs.set k (mkOf (xs.getD k V.undef) (setCells (xs.getD k V.undef).cells j [v]))
def Fd.ev (ks vs:List Int) (k:Nat):Int:=Fd.it vs ((findK (V.int IntKind.i64 (k:Int)) (List.map encI ks)).getD 0)
def Fd.es (ms:List Mem) (ks vs:List Int) (k:Nat):Int:=IntKind.i64.wrap (IntKind.i64.wrap (Fd.mj ms k 1+Fd.mj ms k 2) - Fd.ev ks vs k)
def Fd.x1 (ms:List Mem) (ks vs:List Int) (u:Int) (k:Nat):List V:=Fd.st (List.map encM ms) k 1 (V.int IntKind.i64 (IntKind.i64.wrap (Fd.es ms ks vs k+u)))
def Fd.y1 (ms:List Mem) (ks vs:List Int) (u:Int) (k:Nat):V:=(Fd.x1 ms ks vs u k).getD k V.undef
def Fd.x2 (ms:List Mem) (ks vs:List Int) (u:Int) (k:Nat):List V:=(Fd.x1 ms ks vs u k).set k (mkOf (Fd.y1 ms ks vs u k) (setCells (Fd.y1 ms ks vs u k).cells 2 [.int .i64 (IntKind.i64.wrap (intOf (fld 2 (Fd.y1 ms ks vs u k))+IntKind.i64.wrap ((IntKind.i64.wrap (u - Fd.ev ks vs k)).tdiv (intOf (fld 3 (Fd.y1 ms ks vs u k))))))]))
def Fd.y2 (ms:List Mem) (ks vs:List Int) (u:Int) (k:Nat):V:=(Fd.x2 ms ks vs u k).getD k V.undef
def Fd.lo (e u:Int):Int:=if if true=true then -1000000000 > IntKind.i64.wrap (e - u) else -1000000000 < IntKind.i64.wrap (e - u) then -1000000000 else IntKind.i64.wrap (e - u)
def Fd.mz (e u:Int):Int:=if if false=true then 1000000000 > Fd.lo e u else 1000000000 < Fd.lo e u then 1000000000 else Fd.lo e u
def Fd.z3 (ms:List Mem) (ks vs:List Int) (u:Int) (k:Nat) (L:List V):List V:=(Fd.x2 ms ks vs u k).set k (mkOf (Fd.y2 ms ks vs u k) (setCells (Fd.y2 ms ks vs u k).cells 5 [V.sl false L]))
def Fd.z4 (ms:List Mem) (ks vs:List Int) (u:Int) (k:Nat) (L:List V):V:=(Fd.z3 ms ks vs u k L).getD k V.undef
def Fd.zk (n s:Int):Int:=if if true=true then 0 > IntKind.i64.wrap (n - s) else 0 < IntKind.i64.wrap (n - s) then 0 else IntKind.i64.wrap (n - s)
def Fd.z5 (ms:List Mem) (ks vs:List Int) (u:Int) (k:Nat) (L:List V) (n s:Int) (q:V):List V:=(Fd.z3 ms ks vs u k L).set k (mkOf (Fd.z4 ms ks vs u k L) (setCells (Fd.z4 ms ks vs u k L).cells 5 [V.sl (nilOf (fld 5 (Fd.z4 ms ks vs u k L))) (List.take (n.toNat - (Fd.zk n s).toNat) (List.drop (Fd.zk n s).toNat (listOf q)))]))
def t2S (s:Set4) (ms:List Mem) (ps:List Pnt) (p:Pnt) (ks vs:List Int) (k:Int):St:=⟨[(0,V.ptr 1 0),(4,V.ptr 2 0),(8,V.ptr 3 0),(9,V.ref RK.map 4),(46,.int .i64 ms.length),(47,.int .i64 k)],tkH s ms ps p ks vs⟩
theorem getD_encM (l:List Mem) (k:Nat) (h:k < l.length):(l.map encM).getD k V.undef=encM l[k]:=by simp[List.getD,h]
theorem set_encM (l:List Mem) (k:Nat) (m:Mem):(l.map encM).set k (encM m)=(l.set k m).map encM:=by rw[List.map_set]
theorem st1 (ms:List Mem) (k:Nat) (h:k < ms.length) (v:Int):Fd.st (ms.map encM) k 1 (.int .i64 v)=(ms.set k { ms[k] with h:=v }).map encM:=by
 unfold Fd.st
 rw[getD_encM ms k h,←set_encM]
 rfl
theorem x1_eq (ms:List Mem) (ks vs:List Int) (u:Int) (k:Nat) (h:k < ms.length):Fd.x1 ms ks vs u k=(ms.set k { ms[k] with h:=IntKind.i64.wrap (Fd.es ms ks vs k+u) }).map encM:=st1 ms k h _
theorem y1_eq (ms:List Mem) (ks vs:List Int) (u:Int) (k:Nat) (h:k < ms.length):Fd.y1 ms ks vs u k=encM { ms[k] with h:=IntKind.i64.wrap (Fd.es ms ks vs k+u) }:=by
 unfold Fd.y1
 rw[x1_eq ms ks vs u k h,getD_encM _ k (by rw[List.length_set];exact h),List.getElem_set_self]
def P.m2 (m:Mem) (h ev u:Int):Mem:={ m with h:=h,rate:=IntKind.i64.wrap (m.rate+IntKind.i64.wrap ((IntKind.i64.wrap (u - ev)).tdiv m.memory)) }
theorem x2_eq (ms:List Mem) (ks vs:List Int) (u:Int) (k:Nat) (h:k < ms.length):Fd.x2 ms ks vs u k=(ms.set k (P.m2 ms[k] (IntKind.i64.wrap (Fd.es ms ks vs k+u)) (Fd.ev ks vs k) u)).map encM:=by
 unfold Fd.x2
 rw[y1_eq ms ks vs u k h,x1_eq ms ks vs u k h]
 refine Eq.trans (b:=(List.map encM _).set k (encM (P.m2 ms[k] (IntKind.i64.wrap (Fd.es ms ks vs k+u)) (Fd.ev ks vs k) u))) rfl ?_
 rw[set_encM,List.set_set]
theorem y2_eq (ms:List Mem) (ks vs:List Int) (u:Int) (k:Nat) (h:k < ms.length):Fd.y2 ms ks vs u k=encM (P.m2 ms[k] (IntKind.i64.wrap (Fd.es ms ks vs k+u)) (Fd.ev ks vs k) u):=by
 unfold Fd.y2
 rw[x2_eq ms ks vs u k h,getD_encM _ k (by rw[List.length_set];exact h),List.getElem_set_self]
theorem z3_eq (ms:List Mem) (ks vs:List Int) (u:Int) (k:Nat) (h:k < ms.length) (L:List Int):Fd.z3 ms ks vs u k (L.map encI)=(ms.set k { P.m2 ms[k] (IntKind.i64.wrap (Fd.es ms ks vs k+u)) (Fd.ev ks vs k) u with nil:=false,miss:=L }).map encM:=by
 unfold Fd.z3
 rw[y2_eq ms ks vs u k h,x2_eq ms ks vs u k h]
 refine Eq.trans (b:=(List.map encM _).set k (encM { P.m2 ms[k] (IntKind.i64.wrap (Fd.es ms ks vs k+u)) (Fd.ev ks vs k) u with nil:=false,miss:=L })) rfl ?_
 rw[set_encM,List.set_set]
theorem z4_eq (ms:List Mem) (ks vs:List Int) (u:Int) (k:Nat) (h:k < ms.length) (L:List Int):Fd.z4 ms ks vs u k (L.map encI)=encM { P.m2 ms[k] (IntKind.i64.wrap (Fd.es ms ks vs k+u)) (Fd.ev ks vs k) u with nil:=false,miss:=L }:=by
 unfold Fd.z4
 rw[z3_eq ms ks vs u k h,getD_encM _ k (by rw[List.length_set];exact h),List.getElem_set_self]
namespace P
def clm (x:Int):Int:=if x < -1000000000 then -1000000000 else if x > 1000000000 then 1000000000 else x
def kept (keep:Int) (L:List Int):List Int:=L.drop (L.length - keep.toNat)
def nxt (keep u e:Int) (m:Mem):Mem:={ m with h:=m.h+m.rate - e+u,rate:=m.rate+(u - e).tdiv m.memory,nil:=false,miss:=kept keep (m.miss++[clm (e - u)]) }
def hld (m:Mem):Mem:={ m with h:=m.h+m.rate }
def tk1 (keep u:Int) (o:Option Int) (m:Mem):Mem:=match o with
 | some e=>nxt keep u e m
 | none=>hld m
end P
theorem mz_eq {e u:Int} (he:-2000000000000≤e∧e≤2000000000000) (hu:-1000000000000000≤u∧u≤1000000000000000):Fd.mz e u=P.clm (e - u):=by
 unfold Fd.mz Fd.lo P.clm
 simp only[if_true,Bool.false_eq_true,if_false]
 rw[i64in (n:=e - u) (by omega) (by omega)]
 split <;> split <;> (try split) <;> omega
theorem zk_eq {n:Nat} {s:Int} (hs:1≤s∧s≤1000) (hn:n < 2 ^ 40):Fd.zk n s=((n - s.toNat:Nat):Int):=by
 unfold Fd.zk
 simp only[if_true]
 rw[i64in (by omega) (by omega)]
 split <;> omega
def okM1 (m:Mem):Prop:=(-1000000000000000000≤m.h∧m.h≤1000000000000000000)∧(-1000000000000000000≤m.rate∧m.rate≤1000000000000000000)∧1≤m.memory∧m.miss.length≤1000000∧(m.nil=true→m.miss=[])
set_option maxHeartbeats 1000000 in
theorem t2_step (s:Set4) (ms:List Mem) (ps:List Pnt) (p:Pnt) (Q:List Rd) (k:Nat) (hk:k < ms.length) (hml:ms.length < 2 ^ 40) (hm:okM1 ms[k]) (hQ:∀ r∈Q,-2000000000000≤r.df∧r.df≤2000000000000) (hu:-1000000000000000≤p.u∧p.u≤1000000000000000) (hs:1≤s.keep∧s.keep≤30) {r:Ex×St}
  (hr:LRuns (vstep T (vlim T F) lplim fi19.cx 5 (lb fi19 1)) (t2S s (ms.set k (P.tk1 s.keep p.u (P.dfo Q k) ms[k])) ps p (Q.map Rd.id) (Q.map Rd.df) (k+1:Nat)) r):LRuns (vstep T (vlim T F) lplim fi19.cx 5 (lb fi19 1)) (t2S s ms ps p (Q.map Rd.id) (Q.map Rd.df) k) r:=by
 have hwi:IntKind.i64.wrap ((k:Int)+1)=((k+1:Nat):Int):=by rw[i64in (by omega) (by omega)];rfl
 obtain⟨b1,b2,b3,b4,b5⟩:=hm
 have hx:IntKind.i64.wrap (Fd.mj ms k 1+Fd.mj ms k 2)=ms[k].h+ms[k].rate:=by rw[mj1 ms k hk,mj2 ms k hk,i64in (by omega) (by omega)]
 cases hq:P.dfo Q k with
 | none =>
  rw[hq] at hr
  have hf:(findK (V.int IntKind.i64 (k:Int)) (List.map encI (Q.map Rd.id))).isSome=false:=by rw[(findK_D (k:Int) Q).2 hq];rfl
  refine nextE U49_ok noL [(decide ((↑k:Int) < (↑ms.length:Int)),true),(decide ((↑k:Int) < (↑(List.map encM ms).length:Int)),true),((List.map encI (Q.map Rd.id)).all (keyFits { kind:=TK.int IntKind.i64,size:=1,bytes:=8,zero:=V.int IntKind.i64 0 }),true),((findK (V.int IntKind.i64 (↑k:Int)) (List.map encI (Q.map Rd.id))).isSome,false),(decide (k < (List.map encM ms).length),true),(fitP [.int .i64,.int .i64,.int .i64,.int .i64,.int .i64,TK.slice 3] 0 ((List.map encM ms).getD k V.undef),true),(decide (2≤((List.map encM ms).getD k V.undef).cells.length),true)] [2,0,3,0,4,5,0,6,7,6,8] { env:=[(0,V.ptr 1 0),(4,V.ptr 2 0),(8,V.ptr 3 0),(9,V.ref RK.map 4),(46,.int .i64 (↑ms.length:Int)),(47,.int .i64 (IntKind.i64.wrap ((↑k:Int)+1)))],heap:=[B.cells [.int .i64 s.1,.int .i64 s.2,.int .i64 s.3,.int .i64 s.4],B.cells [V.ptr 0 0,V.ex 6 false (Fd.st (List.map encM ms) k 1 (V.int IntKind.i64 (IntKind.i64.wrap (Fd.mj ms k 1+Fd.mj ms k 2)))),V.ex 4 false (List.map encP ps)],B.cells [.int .i64 0,.int .i64 0,V.sl true [],V.sl true []],B.cells [.int .i64 p.1,.int .i64 p.2,V.sl false (List.map encI p.4),V.sl false (List.map encI p.6)],B.cells [V.mp (List.map encI (Q.map Rd.id)) (List.map encI (Q.map Rd.df))]] } (by kernel_rfl) ?_ (by rw[hwi,hx,st1 ms k hk];simp only[t2S,tkH,P.tk1,P.hld,List.length_set];rfl) hr
  refine⟨?_,?_,?_,?_,?_,?_,?_,trivial⟩
  all_goals first
                   | exact keys_fit _
                   | exact hf
                   | exact decide_eq_true (by rw[List.length_map];exact hj)
                   | exact fitI _ _ hj
                   | exact agg_I hj
                   | exact fitM' _ _ hk
                   | (rw[m_at ms k hk];rfl)
                   | (rw[x1_eq ms _ _ _ k hk];simp;omega)
                   | (rw[x2_eq ms _ _ _ k hk];simp;omega)
                   | (rw[y1_eq ms _ _ _ k hk];rfl)
                   | (rw[y2_eq ms _ _ _ k hk];rfl)
                   | (rw[y1_eq ms _ _ _ k hk];exact hmm)
                   | (rw[y2_eq ms _ _ _ k hk];exact hn')
                   | (rw[hL];exact hro)
                   | (rw[hL];exact hro2)
                   | (rw[hL];exact hro3)
                   | (rw[hL];exact hro4)
                   | (rw[hL];exact hro5)
                   | (rw[hLL,z3_eq ms _ _ _ k hk];simp;omega)
                   | (rw[hLL,z4_eq ms _ _ _ k hk];rfl)
                   | (rw[hLL,z4_eq ms _ _ _ k hk];exact hc1)
                   | (rw[hLL,z4_eq ms _ _ _ k hk];exact hc2)
                   | (rw[hLL,z4_eq ms _ _ _ k hk];exact hc3)
                   | (rw[hLL,z4_eq ms _ _ _ k hk];exact hc4)
                   | (simp;done)
                   | (simp;omega)
                   | (exact decide_eq_true (by rw[List.length_map];omega))
                   | done
 | some e =>
  rw[hq] at hr
  obtain⟨j,h1,h2,h3⟩:=(findK_D (k:Int) Q).1 e hq
  have hf:(findK (V.int IntKind.i64 (k:Int)) (List.map encI (Q.map Rd.id))).isSome=true:=by rw[h1];rfl
  have hj:(findK (V.int IntKind.i64 (k:Int)) (List.map encI (Q.map Rd.id))).getD 0 < (Q.map Rd.df).length:=by rw[h1];simpa using h2
  have hev:Fd.ev (Q.map Rd.id) (Q.map Rd.df) k=e:=by
   unfold Fd.ev
   rw[h1,it_at _ _ (by simpa using h2)]
   simp only[Option.getD_some,List.getElem_map,h3]
  have hde:=hQ Q[j] (List.getElem_mem h2)
  rw[h3] at hde
  have hes:IntKind.i64.wrap (Fd.es ms (Q.map Rd.id) (Q.map Rd.df) k+p.u)=ms[k].h+ms[k].rate - e+p.u:=by
   unfold Fd.es
   rw[hx,hev,i64in (n:=ms[k].h+ms[k].rate - e) (by omega) (by omega),i64in (by omega) (by omega)]
  have hmz:Fd.mz (Fd.ev (Q.map Rd.id) (Q.map Rd.df) k) p.u=P.clm (e - p.u):=by rw[hev];exact mz_eq hde hu
  have hmm:(!decide (ms[k].memory=0))=true:=by rw[decide_eq_false (by omega)];rfl
  have hdv:-2000000000000000≤(p.u - e).tdiv ms[k].memory∧(p.u - e).tdiv ms[k].memory≤2000000000000000:=by
   have:=Int.natAbs_tdiv_le_natAbs (p.u - e) ms[k].memory
   omega
  have hm2:P.m2 ms[k] (ms[k].h+ms[k].rate - e+p.u) e p.u={ ms[k] with h:=ms[k].h+ms[k].rate - e+p.u,rate:=ms[k].rate+(p.u - e).tdiv ms[k].memory }:=by
   unfold P.m2
   rw[i64in (n:=p.u - e) (by omega) (by omega),i64in (n:=(p.u - e).tdiv ms[k].memory) (by omega) (by omega),i64in (by omega) (by omega)]
  have key:∀ L:List Int,L.length≤1000001→(ms[k].miss++[P.clm (e - p.u)]=L)→(Fd.z5 ms (Q.map Rd.id) (Q.map Rd.df) p.u k (L.map encI) (L.map encI).length s.keep (V.sl false (L.map encI)))=(ms.set k (P.tk1 s.keep p.u (some e) ms[k])).map encM:=by
   intro L hl hL
   unfold Fd.z5
   rw[z4_eq ms _ _ _ k hk,z3_eq ms _ _ _ k hk,List.length_map,zk_eq (by omega) (by omega),hes,hev,hm2]
   refine Eq.trans (b:=(List.map encM (ms.set k { ms[k] with h:=ms[k].h+ms[k].rate - e+p.u,rate:=ms[k].rate+(p.u - e).tdiv ms[k].memory,nil:=false,miss:=L })).set k (encM { ms[k] with h:=ms[k].h+ms[k].rate - e+p.u,rate:=ms[k].rate+(p.u - e).tdiv ms[k].memory,nil:=false,miss:=P.kept s.keep L })) ?_ ?_
   ·congr 1
    simp only[encM,mkOf,setCells,V.cells,fld,listOf,P.kept,List.map_drop,Int.toNat_natCast]
    rw[List.take_of_length_le (by simp)]
    rfl
   ·rw[set_encM,List.set_set,←hL];rfl
  cases hn:ms[k].nil with
  | true =>
   have hn':(ms[k].nil==true)=true:=by rw[hn];rfl
   have hz:=b5 hn
   have hLL:[.int .i64 (Fd.mz (Fd.ev (Q.map Rd.id) (Q.map Rd.df) k) p.u)]=[P.clm (e - p.u)].map encI:=by rw[hmz];rfl
   have hc1:decide (0≤Fd.zk (↑([P.clm (e - p.u)].map encI).length:Int) s.keep)=true:=by rw[zk_eq (by omega) (by simp)];simp
   have hc2:decide (Fd.zk (↑([P.clm (e - p.u)].map encI).length:Int) s.keep≤(↑([P.clm (e - p.u)].map encI).length:Int))=true:=by rw[zk_eq (by omega) (by simp)];simp;omega
   have hc3:decide ((↑([P.clm (e - p.u)].map encI).length:Int)≤(↑([P.clm (e - p.u)].map encI).length:Int))=true:=by simp
   have hc4:((([P.clm (e - p.u)].map encI)).all fun x=>x.cells.length==1)=true:=by rw[List.all_eq_true];intro x hx;obtain⟨e,_,rfl⟩:=List.mem_map.1 hx;rfl
   have hL:True:=trivial
   refine nextE U49_ok noL [(decide ((↑k:Int) < (↑ms.length:Int)),true),(decide ((↑k:Int) < (↑(List.map encM ms).length:Int)),true),((List.map encI (Q.map Rd.id)).all (keyFits { kind:=TK.int IntKind.i64,size:=1,bytes:=8,zero:=V.int IntKind.i64 0 }),true),((findK (V.int IntKind.i64 (↑k:Int)) (List.map encI (Q.map Rd.id))).isSome,true),(decide ((findK (V.int IntKind.i64 (↑k:Int)) (List.map encI (Q.map Rd.id))).getD 0 < (List.map encI (Q.map Rd.df)).length),true),(((List.map encI (Q.map Rd.df)).getD ((findK (V.int IntKind.i64 (↑k:Int)) (List.map encI (Q.map Rd.id))).getD 0) V.undef).cells.length==1&&fitP [.int .i64] 0 ((List.map encI (Q.map Rd.df)).getD ((findK (V.int IntKind.i64 (↑k:Int)) (List.map encI (Q.map Rd.id))).getD 0) V.undef),true),(isAggV ((List.map encI (Q.map Rd.df)).getD ((findK (V.int IntKind.i64 (↑k:Int)) (List.map encI (Q.map Rd.id))).getD 0) V.undef)==false,true),(decide (k < (List.map encM ms).length),true),(fitP [.int .i64,.int .i64,.int .i64,.int .i64,.int .i64,TK.slice 3] 0 ((List.map encM ms).getD k V.undef),true),(decide (2≤((List.map encM ms).getD k V.undef).cells.length),true),(decide (k < (Fd.x1 ms (Q.map Rd.id) (Q.map Rd.df) p.2 k).length),true),(fitP [.int .i64] 2 (Fd.y1 ms (Q.map Rd.id) (Q.map Rd.df) p.2 k),true),(fitP [.int .i64] 3 (Fd.y1 ms (Q.map Rd.id) (Q.map Rd.df) p.2 k),true),(!decide (intOf (fld 3 (Fd.y1 ms (Q.map Rd.id) (Q.map Rd.df) p.2 k))=0),true),(decide (3≤(Fd.y1 ms (Q.map Rd.id) (Q.map Rd.df) p.2 k).cells.length),true),(decide (k < (Fd.x2 ms (Q.map Rd.id) (Q.map Rd.df) p.2 k).length),true),(fitP [TK.slice 3] 5 (Fd.y2 ms (Q.map Rd.id) (Q.map Rd.df) p.2 k),true),(nilOf (fld 5 (Fd.y2 ms (Q.map Rd.id) (Q.map Rd.df) p.2 k))==true,true),(decide (6≤(Fd.y2 ms (Q.map Rd.id) (Q.map Rd.df) p.2 k).cells.length),true),(decide (k < (Fd.z3 ms (Q.map Rd.id) (Q.map Rd.df) p.2 k [.int .i64 (Fd.mz (Fd.ev (Q.map Rd.id) (Q.map Rd.df) k) p.2)]).length),true),(fitP [TK.slice 3] 5 (Fd.z4 ms (Q.map Rd.id) (Q.map Rd.df) p.2 k [.int .i64 (Fd.mz (Fd.ev (Q.map Rd.id) (Q.map Rd.df) k) p.2)]),true),(decide (0≤Fd.zk (↑(listOf (fld 5 (Fd.z4 ms (Q.map Rd.id) (Q.map Rd.df) p.2 k [.int .i64 (Fd.mz (Fd.ev (Q.map Rd.id) (Q.map Rd.df) k) p.2)]))).length:Int) s.4),true),(decide (Fd.zk (↑(listOf (fld 5 (Fd.z4 ms (Q.map Rd.id) (Q.map Rd.df) p.2 k [.int .i64 (Fd.mz (Fd.ev (Q.map Rd.id) (Q.map Rd.df) k) p.2)]))).length:Int) s.4≤(↑(listOf (fld 5 (Fd.z4 ms (Q.map Rd.id) (Q.map Rd.df) p.2 k [.int .i64 (Fd.mz (Fd.ev (Q.map Rd.id) (Q.map Rd.df) k) p.2)]))).length:Int)),true),(decide ((↑(listOf (fld 5 (Fd.z4 ms (Q.map Rd.id) (Q.map Rd.df) p.2 k [.int .i64 (Fd.mz (Fd.ev (Q.map Rd.id) (Q.map Rd.df) k) p.2)]))).length:Int)≤(↑(listOf (fld 5 (Fd.z4 ms (Q.map Rd.id) (Q.map Rd.df) p.2 k [.int .i64 (Fd.mz (Fd.ev (Q.map Rd.id) (Q.map Rd.df) k) p.2)]))).length:Int)),true),((listOf (fld 5 (Fd.z4 ms (Q.map Rd.id) (Q.map Rd.df) p.2 k [.int .i64 (Fd.mz (Fd.ev (Q.map Rd.id) (Q.map Rd.df) k) p.2)]))).all fun x=>x.cells.length==1,true),(decide (6≤(Fd.z4 ms (Q.map Rd.id) (Q.map Rd.df) p.2 k [.int .i64 (Fd.mz (Fd.ev (Q.map Rd.id) (Q.map Rd.df) k) p.2)]).cells.length),true)] [2,0,3,0,4,5,6,7,8,1,9,10,9,11,12,13,12,14,15,12,16,17,18,19,0,0,0,17,20,21,22,21,22,23,24,25,26,21,27] { env:=[(0,V.ptr 1 0),(4,V.ptr 2 0),(8,V.ptr 3 0),(9,V.ref RK.map 4),(46,.int .i64 (↑ms.length:Int)),(47,.int .i64 (IntKind.i64.wrap ((↑k:Int)+1)))],heap:=[B.cells [.int .i64 s.1,.int .i64 s.2,.int .i64 s.3,.int .i64 s.4],B.cells [V.ptr 0 0,V.ex 6 false (Fd.z5 ms (Q.map Rd.id) (Q.map Rd.df) p.2 k [.int .i64 (Fd.mz (Fd.ev (Q.map Rd.id) (Q.map Rd.df) k) p.2)] (↑(listOf (fld 5 (Fd.z4 ms (Q.map Rd.id) (Q.map Rd.df) p.2 k [.int .i64 (Fd.mz (Fd.ev (Q.map Rd.id) (Q.map Rd.df) k) p.2)]))).length:Int) s.4 (fld 5 (Fd.z4 ms (Q.map Rd.id) (Q.map Rd.df) p.2 k [.int .i64 (Fd.mz (Fd.ev (Q.map Rd.id) (Q.map Rd.df) k) p.2)]))),V.ex 4 false (List.map encP ps)],B.cells [.int .i64 0,.int .i64 0,V.sl true [],V.sl true []],B.cells [.int .i64 p.1,.int .i64 p.2,V.sl false (List.map encI p.4),V.sl false (List.map encI p.6)],B.cells [V.mp (List.map encI (Q.map Rd.id)) (List.map encI (Q.map Rd.df))]] } (by kernel_rfl) ?_ ?_ hr
   ·refine⟨?_,?_,?_,?_,?_,?_,?_,?_,?_,?_,?_,?_,?_,?_,?_,?_,?_,?_,?_,?_,?_,?_,?_,?_,?_,?_,trivial⟩
    all_goals first
                   | exact keys_fit _
                   | exact hf
                   | exact decide_eq_true (by rw[List.length_map];exact hj)
                   | exact fitI _ _ hj
                   | exact agg_I hj
                   | exact fitM' _ _ hk
                   | (rw[m_at ms k hk];rfl)
                   | (rw[x1_eq ms _ _ _ k hk];simp;omega)
                   | (rw[x2_eq ms _ _ _ k hk];simp;omega)
                   | (rw[y1_eq ms _ _ _ k hk];rfl)
                   | (rw[y2_eq ms _ _ _ k hk];rfl)
                   | (rw[y1_eq ms _ _ _ k hk];exact hmm)
                   | (rw[y2_eq ms _ _ _ k hk];exact hn')
                   | (rw[hL];exact hro)
                   | (rw[hL];exact hro2)
                   | (rw[hL];exact hro3)
                   | (rw[hL];exact hro4)
                   | (rw[hL];exact hro5)
                   | (rw[hLL,z3_eq ms _ _ _ k hk];simp;omega)
                   | (rw[hLL,z4_eq ms _ _ _ k hk];rfl)
                   | (rw[hLL,z4_eq ms _ _ _ k hk];exact hc1)
                   | (rw[hLL,z4_eq ms _ _ _ k hk];exact hc2)
                   | (rw[hLL,z4_eq ms _ _ _ k hk];exact hc3)
                   | (rw[hLL,z4_eq ms _ _ _ k hk];exact hc4)
                   | (simp;done)
                   | (simp;omega)
                   | (exact decide_eq_true (by rw[List.length_map];omega))
                   | done
   ·rw[hwi,hLL,z4_eq ms _ _ _ k hk]
    have:=key [P.clm (e - p.u)] (by simp) (by rw[hz];rfl)
    simp only[t2S,tkH,List.length_set]
    rw[bD,←this]
    rfl
  | false =>
   have hn':(ms[k].nil==true)=false:=by rw[hn];rfl
   have hL:listOf (fld 5 (Fd.y2 ms (Q.map Rd.id) (Q.map Rd.df) p.u k))=ms[k].miss.map encI:=by rw[y2_eq ms _ _ _ k hk];rfl
   have hLL:[]++listOf (fld 5 (Fd.y2 ms (Q.map Rd.id) (Q.map Rd.df) p.u k))++[.int .i64 (Fd.mz (Fd.ev (Q.map Rd.id) (Q.map Rd.df) k) p.u)]=(ms[k].miss++[P.clm (e - p.u)]).map encI:=by rw[hL,hmz];simp[encI]
   have hlen:(ms[k].miss++[P.clm (e - p.u)]).length≤1000001:=by simp;omega
   have hro:rooms (0+(ms[k].miss.map encI).length) 8=true:=decide_eq_true (by rw[List.length_map];unfold maxRoom;omega)
   have hro2:decide (0+(ms[k].miss.map encI).length < 4611686018427387904)=true:=decide_eq_true (by rw[List.length_map];omega)
   have hro3:((ms[k].miss.map encI).all fun y=>y.cells.length==1)=true:=by rw[List.all_eq_true];intro x hx;obtain⟨e,_,rfl⟩:=List.mem_map.1 hx;rfl
   have hro4:rooms (([]++ms[k].miss.map encI).length+1) 8=true:=decide_eq_true (by rw[List.nil_append,List.length_map];unfold maxRoom;omega)
   have hro5:decide (([]++ms[k].miss.map encI).length+1 < 4611686018427387904)=true:=decide_eq_true (by rw[List.nil_append,List.length_map];omega)
   have key:=key _ hlen rfl
   generalize ms[k].miss++[P.clm (e - p.u)]=LL at *
   have hc1:decide (0≤Fd.zk (↑(LL.map encI).length:Int) s.keep)=true:=by rw[List.length_map,zk_eq (by omega) (by omega)];simp
   have hc2:decide (Fd.zk (↑(LL.map encI).length:Int) s.keep≤(↑(LL.map encI).length:Int))=true:=by rw[List.length_map,zk_eq (by omega) (by omega)];simp
   have hc3:decide ((↑(LL.map encI).length:Int)≤(↑(LL.map encI).length:Int))=true:=by simp
   have hc4:(((LL.map encI)).all fun x=>x.cells.length==1)=true:=by rw[List.all_eq_true];intro x hx;obtain⟨e,_,rfl⟩:=List.mem_map.1 hx;rfl
   refine nextE U49_ok noL [(decide ((↑k:Int) < (↑ms.length:Int)),true),(decide ((↑k:Int) < (↑(List.map encM ms).length:Int)),true),((List.map encI (Q.map Rd.id)).all (keyFits { kind:=TK.int IntKind.i64,size:=1,bytes:=8,zero:=V.int IntKind.i64 0 }),true),((findK (V.int IntKind.i64 (↑k:Int)) (List.map encI (Q.map Rd.id))).isSome,true),(decide ((findK (V.int IntKind.i64 (↑k:Int)) (List.map encI (Q.map Rd.id))).getD 0 < (List.map encI (Q.map Rd.df)).length),true),(((List.map encI (Q.map Rd.df)).getD ((findK (V.int IntKind.i64 (↑k:Int)) (List.map encI (Q.map Rd.id))).getD 0) V.undef).cells.length==1&&fitP [.int .i64] 0 ((List.map encI (Q.map Rd.df)).getD ((findK (V.int IntKind.i64 (↑k:Int)) (List.map encI (Q.map Rd.id))).getD 0) V.undef),true),(isAggV ((List.map encI (Q.map Rd.df)).getD ((findK (V.int IntKind.i64 (↑k:Int)) (List.map encI (Q.map Rd.id))).getD 0) V.undef)==false,true),(decide (k < (List.map encM ms).length),true),(fitP [.int .i64,.int .i64,.int .i64,.int .i64,.int .i64,TK.slice 3] 0 ((List.map encM ms).getD k V.undef),true),(decide (2≤((List.map encM ms).getD k V.undef).cells.length),true),(decide (k < (Fd.x1 ms (Q.map Rd.id) (Q.map Rd.df) p.2 k).length),true),(fitP [.int .i64] 2 (Fd.y1 ms (Q.map Rd.id) (Q.map Rd.df) p.2 k),true),(fitP [.int .i64] 3 (Fd.y1 ms (Q.map Rd.id) (Q.map Rd.df) p.2 k),true),(!decide (intOf (fld 3 (Fd.y1 ms (Q.map Rd.id) (Q.map Rd.df) p.2 k))=0),true),(decide (3≤(Fd.y1 ms (Q.map Rd.id) (Q.map Rd.df) p.2 k).cells.length),true),(decide (k < (Fd.x2 ms (Q.map Rd.id) (Q.map Rd.df) p.2 k).length),true),(fitP [TK.slice 3] 5 (Fd.y2 ms (Q.map Rd.id) (Q.map Rd.df) p.2 k),true),(nilOf (fld 5 (Fd.y2 ms (Q.map Rd.id) (Q.map Rd.df) p.2 k))==true,false),(rooms (0+(listOf (fld 5 (Fd.y2 ms (Q.map Rd.id) (Q.map Rd.df) p.2 k))).length) 8,true),(decide (0+(listOf (fld 5 (Fd.y2 ms (Q.map Rd.id) (Q.map Rd.df) p.2 k))).length < 4611686018427387904),true),((listOf (fld 5 (Fd.y2 ms (Q.map Rd.id) (Q.map Rd.df) p.2 k))).all fun y=>y.cells.length==1,true),(rooms (([]++listOf (fld 5 (Fd.y2 ms (Q.map Rd.id) (Q.map Rd.df) p.2 k))).length+1) 8,true),(decide (([]++listOf (fld 5 (Fd.y2 ms (Q.map Rd.id) (Q.map Rd.df) p.2 k))).length+1 < 4611686018427387904),true),(decide (6≤(Fd.y2 ms (Q.map Rd.id) (Q.map Rd.df) p.2 k).cells.length),true),(decide (k < (Fd.z3 ms (Q.map Rd.id) (Q.map Rd.df) p.2 k ([]++listOf (fld 5 (Fd.y2 ms (Q.map Rd.id) (Q.map Rd.df) p.2 k))++[.int .i64 (Fd.mz (Fd.ev (Q.map Rd.id) (Q.map Rd.df) k) p.2)])).length),true),(fitP [TK.slice 3] 5 (Fd.z4 ms (Q.map Rd.id) (Q.map Rd.df) p.2 k ([]++listOf (fld 5 (Fd.y2 ms (Q.map Rd.id) (Q.map Rd.df) p.2 k))++[.int .i64 (Fd.mz (Fd.ev (Q.map Rd.id) (Q.map Rd.df) k) p.2)])),true),(decide (0≤Fd.zk (↑(listOf (fld 5 (Fd.z4 ms (Q.map Rd.id) (Q.map Rd.df) p.2 k ([]++listOf (fld 5 (Fd.y2 ms (Q.map Rd.id) (Q.map Rd.df) p.2 k))++[.int .i64 (Fd.mz (Fd.ev (Q.map Rd.id) (Q.map Rd.df) k) p.2)])))).length:Int) s.4),true),(decide (Fd.zk (↑(listOf (fld 5 (Fd.z4 ms (Q.map Rd.id) (Q.map Rd.df) p.2 k ([]++listOf (fld 5 (Fd.y2 ms (Q.map Rd.id) (Q.map Rd.df) p.2 k))++[.int .i64 (Fd.mz (Fd.ev (Q.map Rd.id) (Q.map Rd.df) k) p.2)])))).length:Int) s.4≤(↑(listOf (fld 5 (Fd.z4 ms (Q.map Rd.id) (Q.map Rd.df) p.2 k ([]++listOf (fld 5 (Fd.y2 ms (Q.map Rd.id) (Q.map Rd.df) p.2 k))++[.int .i64 (Fd.mz (Fd.ev (Q.map Rd.id) (Q.map Rd.df) k) p.2)])))).length:Int)),true),(decide ((↑(listOf (fld 5 (Fd.z4 ms (Q.map Rd.id) (Q.map Rd.df) p.2 k ([]++listOf (fld 5 (Fd.y2 ms (Q.map Rd.id) (Q.map Rd.df) p.2 k))++[.int .i64 (Fd.mz (Fd.ev (Q.map Rd.id) (Q.map Rd.df) k) p.2)])))).length:Int)≤(↑(listOf (fld 5 (Fd.z4 ms (Q.map Rd.id) (Q.map Rd.df) p.2 k ([]++listOf (fld 5 (Fd.y2 ms (Q.map Rd.id) (Q.map Rd.df) p.2 k))++[.int .i64 (Fd.mz (Fd.ev (Q.map Rd.id) (Q.map Rd.df) k) p.2)])))).length:Int)),true),((listOf (fld 5 (Fd.z4 ms (Q.map Rd.id) (Q.map Rd.df) p.2 k ([]++listOf (fld 5 (Fd.y2 ms (Q.map Rd.id) (Q.map Rd.df) p.2 k))++[.int .i64 (Fd.mz (Fd.ev (Q.map Rd.id) (Q.map Rd.df) k) p.2)])))).all fun x=>x.cells.length==1,true),(decide (6≤(Fd.z4 ms (Q.map Rd.id) (Q.map Rd.df) p.2 k ([]++listOf (fld 5 (Fd.y2 ms (Q.map Rd.id) (Q.map Rd.df) p.2 k))++[.int .i64 (Fd.mz (Fd.ev (Q.map Rd.id) (Q.map Rd.df) k) p.2)])).cells.length),true)] [2,0,3,0,4,5,6,7,8,1,9,10,9,11,12,13,12,14,15,12,16,17,18,19,20,21,22,23,24,0,17,25,26,27,26,27,28,29,30,31,26,32] { env:=[(0,V.ptr 1 0),(4,V.ptr 2 0),(8,V.ptr 3 0),(9,V.ref RK.map 4),(46,.int .i64 (↑ms.length:Int)),(47,.int .i64 (IntKind.i64.wrap ((↑k:Int)+1)))],heap:=[B.cells [.int .i64 s.1,.int .i64 s.2,.int .i64 s.3,.int .i64 s.4],B.cells [V.ptr 0 0,V.ex 6 false (Fd.z5 ms (Q.map Rd.id) (Q.map Rd.df) p.2 k ([]++listOf (fld 5 (Fd.y2 ms (Q.map Rd.id) (Q.map Rd.df) p.2 k))++[.int .i64 (Fd.mz (Fd.ev (Q.map Rd.id) (Q.map Rd.df) k) p.2)]) (↑(listOf (fld 5 (Fd.z4 ms (Q.map Rd.id) (Q.map Rd.df) p.2 k ([]++listOf (fld 5 (Fd.y2 ms (Q.map Rd.id) (Q.map Rd.df) p.2 k))++[.int .i64 (Fd.mz (Fd.ev (Q.map Rd.id) (Q.map Rd.df) k) p.2)])))).length:Int) s.4 (fld 5 (Fd.z4 ms (Q.map Rd.id) (Q.map Rd.df) p.2 k ([]++listOf (fld 5 (Fd.y2 ms (Q.map Rd.id) (Q.map Rd.df) p.2 k))++[.int .i64 (Fd.mz (Fd.ev (Q.map Rd.id) (Q.map Rd.df) k) p.2)])))),V.ex 4 false (List.map encP ps)],B.cells [.int .i64 0,.int .i64 0,V.sl true [],V.sl true []],B.cells [.int .i64 p.1,.int .i64 p.2,V.sl false (List.map encI p.4),V.sl false (List.map encI p.6)],B.cells [V.mp (List.map encI (Q.map Rd.id)) (List.map encI (Q.map Rd.df))]] } (by kernel_rfl) ?_ ?_ hr
   ·refine⟨?_,?_,?_,?_,?_,?_,?_,?_,?_,?_,?_,?_,?_,?_,?_,?_,?_,?_,?_,?_,?_,?_,?_,?_,?_,?_,?_,?_,?_,?_,?_,trivial⟩
    all_goals first
                   | exact keys_fit _
                   | exact hf
                   | exact decide_eq_true (by rw[List.length_map];exact hj)
                   | exact fitI _ _ hj
                   | exact agg_I hj
                   | exact fitM' _ _ hk
                   | (rw[m_at ms k hk];rfl)
                   | (rw[x1_eq ms _ _ _ k hk];simp;omega)
                   | (rw[x2_eq ms _ _ _ k hk];simp;omega)
                   | (rw[y1_eq ms _ _ _ k hk];rfl)
                   | (rw[y2_eq ms _ _ _ k hk];rfl)
                   | (rw[y1_eq ms _ _ _ k hk];exact hmm)
                   | (rw[y2_eq ms _ _ _ k hk];exact hn')
                   | (rw[hL];exact hro)
                   | (rw[hL];exact hro2)
                   | (rw[hL];exact hro3)
                   | (rw[hL];exact hro4)
                   | (rw[hL];exact hro5)
                   | (rw[hLL,z3_eq ms _ _ _ k hk];simp;omega)
                   | (rw[hLL,z4_eq ms _ _ _ k hk];rfl)
                   | (rw[hLL,z4_eq ms _ _ _ k hk];exact hc1)
                   | (rw[hLL,z4_eq ms _ _ _ k hk];exact hc2)
                   | (rw[hLL,z4_eq ms _ _ _ k hk];exact hc3)
                   | (rw[hLL,z4_eq ms _ _ _ k hk];exact hc4)
                   | (simp;done)
                   | (simp;omega)
                   | (exact decide_eq_true (by rw[List.length_map];omega))
                   | done
   ·rw[hwi,hLL,z4_eq ms _ _ _ k hk]
    simp only[t2S,tkH,List.length_set]
    rw[bD,←key]
    rfl
end Go.Proofs.Ytnijkhcmjpfjeaa
