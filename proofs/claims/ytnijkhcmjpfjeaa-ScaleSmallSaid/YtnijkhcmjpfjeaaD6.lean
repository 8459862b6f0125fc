/- D6: which is farthest. -/
import Derived.Test.YtnijkhcmjpfjeaaD5
namespace Go.Proofs.Ytnijkhcmjpfjeaa
open Go Go.Vm
def Fd.fe (l:List Prs):List V:=(l.map encE).flatMap V.cells
namespace P
def decE:List V→List Prs
 | a::b::r=>⟨intOf a,intOf b⟩::decE r
 | _=>[]
end P
theorem decE_fl2:∀ l:List Prs,P.decE (P.fl2 l)=l
 | []=>rfl
 | x::l=>by rw[fl2_cons];simp only[P.decE,intOf,decE_fl2 l]
noncomputable def avgS:List V→Heap→Tr (V×Heap):=fun a H=>match a with
 | [p,.ref (.arr n) id]=>match isPtr 1 p,Nat.beq id 2 with
  | true,true=>match H with
   | [b0,b1,.cells cs]=>.must (eqB cs (P.fl2 (P.decE cs))) (.must (eqB n (P.decE cs).length) (.must (decide (0<n∧n≤16)) (onSc [b0,b1] (fun s ms ps=>.must (okPb ms (P.decE cs)) (.must (okMb ms)
     (.ret (.tup [.sl false ((P.avW s.cap ms (P.decE cs)).map encI),.int .i64 (P.avU s.cap ms (P.decE cs))],[b0,b1,.cells cs])))) (fun _ _=>.fail))))
   | _=>.fail
  | _,_=>.fail
 | _=>.fail
theorem avgS_ok:∀ a H r,(avgS a H).run=some r→Runs T F 65 a H r:=by
 intro a H r h;unfold avgS at h;split at h
 ·rename_i p n id
  cases hp:isPtr 1 p<;>cases hi:Nat.beq id 2<;>simp only[hp,hi] at h<;>first | (cases h;done) | skip
  split at h
  ·rename_i b0 b1 cs
   obtain⟨h1,g1⟩:=Tr.must_some h;obtain⟨h2,g2⟩:=Tr.must_some g1;obtain⟨h3,g3⟩:=Tr.must_some g2;clear h g1 g2;have h1:=of_eqB h1;have h2:=of_eqB h2;generalize P.decE cs=l at *;subst h1;subst h2;simp only[decide_eq_true_eq] at h3;rw[of_isPtr hp,Nat.eq_of_beq_eq_true hi];rcases onSc_run g3 with ⟨s,ms,ps,he,h4,h5,h6,g⟩ | ⟨s,ps,he,_,_,g⟩
   ·injection he with e0 he
    injection he with e1 _;subst e0;subst e1;obtain⟨h7,g⟩:=Tr.must_some g;obtain⟨h8,g⟩:=Tr.must_some g;have hr:=ret_some g;subst hr;exact avg_runs s ms ps l h6 h3.1 h3.2 h7 h8
   ·cases g
  ·cases h
 ·cases h
noncomputable def U65:Vm.Spec:=U78.add 65 avgS
theorem U65_ok:Vm.Good (vlim T F) U65:=U78_ok.add avgS_ok
noncomputable def U67:Vm.Spec:=U65.add 67 (inl T Sh U65 0 0 fi67)
theorem U67_ok:Vm.Good (vlim T F) U67:=U65_ok.inl (by kernel_rfl) 0 0 (by kernel_rfl)
noncomputable def U66:Vm.Spec:=U67.add 66 (inl T Sh U67 0 0 fi66)
theorem U66_ok:Vm.Good (vlim T F) U66:=U67_ok.inl (by kernel_rfl) 0 0 (by kernel_rfl)
namespace P
def far (e u:Int):Int:=if u-e>e-u then u-e else e-u
def gst (u:Int) (l:List Prs) (b:Nat):Nat→Nat→Nat
 | _,0=>b
 | k,d+1=>match l[k]?,l[b]? with
  | some x,some y=>if far x.est u>far y.est u then gst u l k (k+1) d else gst u l b (k+1) d
  | _,_=>b
end P
def okEb (l:List Prs):Bool:=l.all fun e=>decide (-2000000000000≤e.est∧e.est≤2000000000000)
def Fd.fr (e u:Int):Int:=if if true=true then IntKind.i64.wrap (u-e)>IntKind.i64.wrap (e-u) else IntKind.i64.wrap (u-e)<IntKind.i64.wrap (e-u) then IntKind.i64.wrap (u-e) else IntKind.i64.wrap (e-u)
theorem fr_eq {e u:Int} (he:-2000000000000≤e∧e≤2000000000000) (hu:-1000000000000000≤u∧u≤1000000000000000):Fd.fr e u=P.far e u:=by
 unfold Fd.fr P.far;rw[i64in (n:=u-e) (by omega) (by omega),i64in (n:=e-u) (by omega) (by omega)]
 simp only[if_true]
def grS (ep u:Int) (a b2:Bool) (xs ys:List V) (l:List Prs) (b k:Int):St:=⟨[(0,V.ref (RK.arr l.length) 1),(1,V.clo (Fn.func 66) [] [V.ptr 0 0]),(5,.int .i64 b),(8,V.ref (RK.arr l.length) 1),(9,.int .i64 (↑l.length:Int)),(10,.int .i64 k)],[.cells [.int .i64 ep,.int .i64 u,.sl a xs,.sl b2 ys],.cells (P.fl2 l)]⟩
theorem okEb_at {l:List Prs} (h:okEb l=true) (k:Nat) (hk:k<l.length):-2000000000000≤l[k].est∧l[k].est≤2000000000000:=by
 have:=List.all_eq_true.1 h l[k] (List.getElem_mem hk)
 simpa using this
theorem gst_lt (u:Int) (l:List Prs):∀ (d k b:Nat),k+d=l.length→b<l.length→P.gst u l b k d<l.length
 | 0,k,b,_,hb=>hb
 | d+1,k,b,hd,hb=>by
  have hk:k<l.length:=by omega
  unfold P.gst;rw[List.getElem?_eq_getElem hk,List.getElem?_eq_getElem hb];simp only;split
  ·exact gst_lt u l d (k+1) k (by omega) hk
  ·exact gst_lt u l d (k+1) b (by omega) hb
theorem gr_loop (ep u:Int) (a b2:Bool) (xs ys:List V) (l:List Prs) (hl:l.length<2 ^ 30) (hE:okEb l=true) (hu:-1000000000000000≤u∧u≤1000000000000000):∀ (d k b:Nat),k+d=l.length→b<l.length →
  LRuns (vstep T (vlim T F) lplim fi68.cx 2 (lb fi68 0)) (grS ep u a b2 xs ys l b k) (.exit 0,⟨(grS ep u a b2 xs ys l (P.gst u l b k d:Nat) l.length).env++[(11,.bool false)],(grS ep u a b2 xs ys l 0 0).heap⟩)
 | 0,k,b,hd,hb=>by
  have hk:k=l.length:=by omega
  subst hk;refine lastE U66_ok noL [(decide ((↑(l.length):Int)<(↑l.length:Int)),false)] [2] (Ex.exit 0,{env:=[(0,V.ref (RK.arr l.length) 1),(1,V.clo (Fn.func 66) [] [V.ptr 0 0]),(5,.int .i64 (↑b:Int)),(8,V.ref (RK.arr l.length) 1),(9,.int .i64 (↑l.length:Int)),(10,.int .i64 (↑(l.length):Int)),(11,V.bool (decide ((↑(l.length):Int)<(↑l.length:Int))))],heap:=[B.cells [.int .i64 ep,.int .i64 u,V.sl a xs,V.sl b2 ys],B.cells (P.fl2 l)]}) (by kernel_rfl) (by simp) ⟨by simp,trivial⟩ (by simp[grS,P.gst])
 | d+1,k,b,hd,hb=>by
  have hk:k<l.length:=by omega
  have hwi:IntKind.i64.wrap ((k:Int)+1)=((k+1:Nat):Int):=by rw[i64in (by omega) (by omega)];rfl
  have hfk:Fd.fr (Fd.at3 (P.fl2 l) (k*2+1)) u=P.far l[k].est u:=by rw[fl2_1 l k hk,fr_eq (okEb_at hE k hk) hu]
  have hfb:Fd.fr (Fd.at3 (P.fl2 l) (b*2+1)) u=P.far l[b].est u:=by rw[fl2_1 l b hb,fr_eq (okEb_at hE b hb) hu]
  unfold P.gst;rw[List.getElem?_eq_getElem hk,List.getElem?_eq_getElem hb];simp only;by_cases hq:P.far l[k].est u>P.far l[b].est u
  ·rw[if_pos hq]
   have hc:decide (Fd.fr (Fd.at3 (P.fl2 l) (k*2+1)) u>Fd.fr (Fd.at3 (P.fl2 l) (b*2+1)) u)=true:=decide_eq_true (by rw[hfk,hfb];exact hq)
   refine nextE U66_ok noL [(decide ((↑k:Int)<(↑l.length:Int)),true),(!specB (P.fl2 l),true),(fitP [.int .i64,.int .i64] (k*2) (V.agg (P.fl2 l)),true),(decide ((↑b:Int)<(↑l.length:Int)),true),(fitP [.int .i64,.int .i64] (b*2) (V.agg (P.fl2 l)),true),(decide ((if if true=true then IntKind.i64.wrap (u-Fd.at3 (P.fl2 l) (k*2+1))>IntKind.i64.wrap (Fd.at3 (P.fl2 l) (k*2+1)-u) else IntKind.i64.wrap (u-Fd.at3 (P.fl2 l) (k*2+1))<IntKind.i64.wrap (Fd.at3 (P.fl2 l) (k*2+1)-u) then IntKind.i64.wrap (u-Fd.at3 (P.fl2 l) (k*2+1)) else IntKind.i64.wrap (Fd.at3 (P.fl2 l) (k*2+1)-u))>Fd.fr (Fd.at3 (P.fl2 l) (b*2+1)) u),true)] [2,0,2,3,4,0,0,0,0,0,0,0,0,0,5,3,6,0,0,0,0,7] {env:=[(0,V.ref (RK.arr l.length) 1),(1,V.clo (Fn.func 66) [] [V.ptr 0 0]),(5,.int .i64 (↑k:Int)),(8,V.ref (RK.arr l.length) 1),(9,.int .i64 (↑l.length:Int)),(10,.int .i64 (IntKind.i64.wrap ((↑k:Int)+1)))],heap:=[B.cells [.int .i64 ep,.int .i64 u,V.sl a xs,V.sl b2 ys],B.cells (P.fl2 l)]} (by kernel_rfl) ?_ (by rw[hwi];rfl) (gr_loop ep u a b2 xs ys l hl hE hu d (k+1) k (by omega) hk)
   refine⟨?_,?_,?_,?_,?_,?_,trivial⟩
   all_goals first|(rw[fl2_spec];rfl)|exact fl2_fit _ _ hk|exact fl2_fit _ _ hb|exact hc|(simp;done)|(simp;omega)|done
  ·rw[if_neg hq]
   have hc:decide (Fd.fr (Fd.at3 (P.fl2 l) (k*2+1)) u>Fd.fr (Fd.at3 (P.fl2 l) (b*2+1)) u)=false:=decide_eq_false (by rw[hfk,hfb];exact hq)
   refine nextE U66_ok noL [(decide ((↑k:Int)<(↑l.length:Int)),true),(!specB (P.fl2 l),true),(fitP [.int .i64,.int .i64] (k*2) (V.agg (P.fl2 l)),true),(decide ((↑b:Int)<(↑l.length:Int)),true),(fitP [.int .i64,.int .i64] (b*2) (V.agg (P.fl2 l)),true),(decide ((if if true=true then IntKind.i64.wrap (u-Fd.at3 (P.fl2 l) (k*2+1))>IntKind.i64.wrap (Fd.at3 (P.fl2 l) (k*2+1)-u) else IntKind.i64.wrap (u-Fd.at3 (P.fl2 l) (k*2+1))<IntKind.i64.wrap (Fd.at3 (P.fl2 l) (k*2+1)-u) then IntKind.i64.wrap (u-Fd.at3 (P.fl2 l) (k*2+1)) else IntKind.i64.wrap (Fd.at3 (P.fl2 l) (k*2+1)-u))>Fd.fr (Fd.at3 (P.fl2 l) (b*2+1)) u),false)] [2,0,2,3,4,0,0,0,0,0,0,0,0,0,5,3,6,0,0,0,0,7] {env:=[(0,V.ref (RK.arr l.length) 1),(1,V.clo (Fn.func 66) [] [V.ptr 0 0]),(5,.int .i64 (↑b:Int)),(8,V.ref (RK.arr l.length) 1),(9,.int .i64 (↑l.length:Int)),(10,.int .i64 (IntKind.i64.wrap ((↑k:Int)+1)))],heap:=[B.cells [.int .i64 ep,.int .i64 u,V.sl a xs,V.sl b2 ys],B.cells (P.fl2 l)]} (by kernel_rfl) ?_ (by rw[hwi];rfl) (gr_loop ep u a b2 xs ys l hl hE hu d (k+1) b (by omega) hb)
   refine⟨?_,?_,?_,?_,?_,?_,trivial⟩
   all_goals first|(rw[fl2_spec];rfl)|exact fl2_fit _ _ hk|exact fl2_fit _ _ hb|exact hc|(simp;done)|(simp;omega)|done
theorem gr_runs (ep u:Int) (a b2:Bool) (xs ys:List V) (l:List Prs) (h0:0<l.length) (hl:l.length<2 ^ 30) (hE:okEb l=true) (hu:-1000000000000000≤u∧u≤1000000000000000) :
  Runs T F 68 [.ref (.arr l.length) 1,.clo (.func 66) [] [.ptr 0 0]] [.cells [.int .i64 ep,.int .i64 u,.sl a xs,.sl b2 ys],.cells (P.fl2 l)] (.int .i64 (P.gst u l 0 0 l.length:Nat),[.cells [.int .i64 ep,.int .i64 u,.sl a xs,.sl b2 ys],.cells (P.fl2 l)]):=by
 have hq:=gr_loop ep u a b2 xs ys l hl hE hu l.length 0 0 (by omega) h0
 refine wayE U66_ok (fi:=fi68) (by kernel_rfl) (LGood.one (b:=lb fi68 0) (k:=3) (σ0:=grS ep u a b2 xs ys l 0 0) (by kernel_rfl) (by exact hq)) [(is {env:=[(0,V.ref (RK.arr l.length) 1),(1,V.clo (Fn.func 66) [] [V.ptr 0 0]),(5,.int .i64 0),(8,V.ref (RK.arr l.length) 1),(9,.int .i64 (↑l.length:Int)),(10,.int .i64 0)],heap:=[B.cells [.int .i64 ep,.int .i64 u,V.sl a xs,V.sl b2 ys],B.cells (P.fl2 l)]} {env:=[(0,V.ref (RK.arr l.length) 1),(1,V.clo (Fn.func 66) [] [V.ptr 0 0]),(5,.int .i64 0),(8,V.ref (RK.arr l.length) 1),(9,.int .i64 (↑l.length:Int)),(10,.int .i64 0)],heap:=[B.cells [.int .i64 ep,.int .i64 u,V.sl a xs,V.sl b2 ys],B.cells (P.fl2 l)]},true)] [2] (V.int IntKind.i64 ((P.gst u l 0 0 l.length:Nat)),[B.cells [.int .i64 ep,.int .i64 u,V.sl a xs,V.sl b2 ys],B.cells (P.fl2 l)]) (by kernel_rfl) ?_ rfl
 exact⟨is_eq rfl,trivial⟩
noncomputable def grtS:List V→Heap→Tr (V×Heap):=fun a H=>match a with
 | [.ref (.arr n) i,.clo (.func f) [] [p]]=>match isPtr 0 p,Nat.beq i 1,Nat.beq f 66 with
  | true,true,true=>match H with
   | [.cells [.int .i64 ep,.int .i64 u,.sl a xs,.sl b2 ys],.cells cs]=>.must (eqB cs (P.fl2 (P.decE cs))) (.must (eqB n (P.decE cs).length) (.must (decide (0<n∧n<2 ^ 30)) (.must (okEb (P.decE cs)) (.must (decide (-1000000000000000≤u∧u≤1000000000000000))
     (.ret (.int .i64 (P.gst u (P.decE cs) 0 0 n:Nat),[.cells [.int .i64 ep,.int .i64 u,.sl a xs,.sl b2 ys],.cells cs]))))))
   | _=>.fail
  | _,_,_=>.fail
 | _=>.fail
theorem grtS_ok:∀ a H r,(grtS a H).run=some r→Runs T F 68 a H r:=by
 intro a H r h;unfold grtS at h;split at h
 ·rename_i n i f p
  cases hp:isPtr 0 p<;>cases hi:Nat.beq i 1<;>cases hf:Nat.beq f 66<;>simp only[hp,hi,hf] at h<;>first | (cases h;done) | skip
  split at h
  ·rename_i ep u a xs b2 ys cs
   obtain⟨h1,g1⟩:=Tr.must_some h;obtain⟨h2,g2⟩:=Tr.must_some g1;obtain⟨h3,g3⟩:=Tr.must_some g2;obtain⟨h4,g4⟩:=Tr.must_some g3;obtain⟨h5,g5⟩:=Tr.must_some g4;have hr:=ret_some g5;clear h g1 g2 g3 g4 g5;subst hr;have h1:=of_eqB h1;have h2:=of_eqB h2;generalize P.decE cs=l at *;subst h1;subst h2;simp only[decide_eq_true_eq] at h3 h5;rw[of_isPtr hp,Nat.eq_of_beq_eq_true hi,Nat.eq_of_beq_eq_true hf];exact gr_runs ep u a b2 xs ys l h3.1 h3.2 h4 h5
  ·cases h
 ·cases h
noncomputable def U68:Vm.Spec:=U66.add 68 grtS
theorem U68_ok:Vm.Good (vlim T F) U68:=U66_ok.add grtS_ok
end Go.Proofs.Ytnijkhcmjpfjeaa
