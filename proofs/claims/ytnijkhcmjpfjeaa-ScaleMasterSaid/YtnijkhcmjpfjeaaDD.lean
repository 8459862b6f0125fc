/- DD: readings made;a number picked. -/
import Derived.Test.YtnijkhcmjpfjeaaDA
namespace Go.Proofs.Ytnijkhcmjpfjeaa
open Go Go.Vm
def rgS (x z:Bool) (l acc:List Rd) (k:Int):St:=⟨[(0,V.sl x (l.map encD)),(3,V.ex 2 z (acc.map encD)),(4,V.int .i64 k)],[]⟩
theorem rooms_d {acc:List Rd} (h:acc.length<2 ^ 41):rooms ((acc.map encD).length+1) 16=true:=by
 exact decide_eq_true (by rw[List.length_map];unfold maxRoom;omega)
theorem rg_loop (x:Bool) (l:List Rd) (hl:l.length<2 ^ 40):∀ (d k:Nat),k+d=l.length →
  LRuns (vstep T (vlim T F) lplim fi18.cx 0 (lb fi18 0)) (rgS x (l.take k).isEmpty l (l.take k) k) (.exit 0,⟨(rgS x l.isEmpty l l l.length).env++[(8,.bool false)],[]⟩)
 | 0,k,hd=>by
  have hk:k=l.length:=by omega
  subst hk;rw[List.take_length];refine lastE U49_ok noL [(decide ((↑(l.length):Int)<(↑(List.map encD l).length:Int)),false)] [2] (Ex.exit 0,{env:=[(0,V.sl x (List.map encD l)),(3,V.ex 2 (l.isEmpty) (List.map encD (l))),(4,.int .i64 (↑(l.length):Int)),(8,V.bool (decide ((↑(l.length):Int)<(↑(List.map encD l).length:Int))))],heap:=[]}) (by kernel_rfl) (by simp) ⟨by simp,trivial⟩ (by simp[rgS])
 | d+1,k,hd=>by
  have hk:k<l.length:=by omega
  have hwi:IntKind.i64.wrap ((k:Int)+1)=((k+1:Nat):Int):=by rw[i64in (by omega) (by omega)];rfl
  have hac:(l.take k).length<2 ^ 41:=by rw[List.length_take];omega
  have hlt:(l.take k).length<2 ^ 40:=by rw[List.length_take];omega
  have h0:=rd0 l k hk;have h1:=rd1 l k hk;have he:encD l[k]=V.agg [.int .i64 (Fd.rd l k 0),.int .i64 (Fd.rd l k 1)]:=by rw[h0,h1];rfl
  have ih:=rg_loop x l hl d (k+1) (by omega)
  rw[List.take_succ_eq_append_getElem hk] at ih;refine nextE U49_ok noL [(decide ((↑k:Int)<(↑(List.map encD l).length:Int)),true),(decide ((↑k:Int)<(↑(List.map encD l).length:Int)),true),(((List.map encD l).getD k V.undef).cells.length==2&&fitP [.int .i64,.int .i64] 0 ((List.map encD l).getD k V.undef),true),(rooms ((List.map encD (l.take k)).length+1) 16,true),(decide ((List.map encD (l.take k)).length+1<4611686018427387904),true)] [2,0,3,4,5,6,0] {env:=[(0,V.sl x (List.map encD l)),(3,V.ex 2 (((l.take k).isEmpty)&&false) (List.map encD (l.take k)++[V.agg [.int .i64 (Fd.rd l k 0),.int .i64 (Fd.rd l k 1)]])),(4,.int .i64 (IntKind.i64.wrap ((↑k:Int)+1)))],heap:=[]} (by kernel_rfl) ?_ ?_ ih
  ·refine⟨?_,?_,?_,?_,?_,trivial⟩
   all_goals first|exact fitD _ _ hk|exact rooms_d hac|(rw[List.length_map];exact decide_eq_true (by omega))|(simp;done)|done
  ·rw[hwi,←he]
   unfold rgS;rw[List.map_append];simp
   try (intro hnil;rw[hnil] at hk;simp at hk)
theorem rg_runs (x:Bool) (l:List Rd) (hl:l.length<2 ^ 40):Runs T F 18 [.sl x (l.map encD)] [] (.ex 2 l.isEmpty (l.map encD),[]):=by
 have hq:=rg_loop x l hl l.length 0 (by omega)
 simp only[List.take_zero,List.isEmpty_nil] at hq;refine wayE U49_ok (fi:=fi18) (by kernel_rfl) (LGood.one (b:=lb fi18 0) (k:=3) (σ0:=rgS x true l [] 0) (by kernel_rfl) (by exact hq)) [(is {env:=[(0,V.sl x (List.map encD l)),(3,V.ex 2 true []),(4,.int .i64 0)],heap:=[]} {env:=[(0,V.sl x (List.map encD l)),(3,V.ex 2 true []),(4,.int .i64 0)],heap:=[]},true)] [2] (V.ex 2 (l.isEmpty) (List.map encD l),[]) (by kernel_rfl) ?_ rfl
 exact⟨is_eq rfl,trivial⟩
noncomputable def rdgS:List V→Heap→Tr (V×Heap):=fun a H=>match a,H with
 | [.sl _ ys],[]=>.must (isDs ys) (.must (decide (ys.length<2 ^ 40)) (.ret (.ex 2 ys.isEmpty ys,[])))
 | _,_=>.fail
theorem rdgS_ok:∀ a H r,(rdgS a H).run=some r→Runs T F 18 a H r:=by
 intro a H r h;unfold rdgS at h;split at h
 ·rename_i x ys
  obtain⟨h1,g⟩:=Tr.must_some h;obtain⟨h2,g'⟩:=Tr.must_some g;have hr:=ret_some g';clear h g g';subst hr;obtain⟨l,rfl⟩:=isDs_of h1;rw[show (List.map encD l).isEmpty=l.isEmpty by cases l<;>rfl]
  exact rg_runs x l (by simpa using h2)
 ·cases h
namespace P
def pick (a b:Int):Int:=if b<1 then 0 else if a.tmod b<0 then a.tmod b+b else a.tmod b
end P
theorem pk_runs (a b:Int) (hb:b≤1000000000):Runs T F 24 [.int .i64 a,.int .i64 b] [] (.int .i64 (P.pick a b),[]):=by
 unfold P.pick;by_cases h:b<1
 ·rw[if_pos h]
  refine wayE U49_ok (fi:=fi24) (by kernel_rfl) noL [(decide (b<1),true)] [2] (V.int IntKind.i64 0,[]) (by kernel_rfl) ⟨decide_eq_true h,trivial⟩ rfl
 ·rw[if_neg h]
  have hn:(!decide (b=0))=true:=by rw[decide_eq_false (by omega)];rfl
  have h1:=Int.lt_tmod_of_pos a (show 0<b by omega)
  have h2:=Int.tmod_lt_of_pos a (show 0<b by omega)
  by_cases hm:a.tmod b<0
  ·rw[if_pos hm]
   refine wayE U49_ok (fi:=fi24) (by kernel_rfl) noL [(decide (b<1),false),(!decide (b=0),true),(decide (a.tmod b<0),true)] [2,3,4] (V.int IntKind.i64 (IntKind.i64.wrap (a.tmod b+b)),[]) (by kernel_rfl) ⟨decide_eq_false h,hn,decide_eq_true hm,trivial⟩ (by rw[i64in (by omega) (by omega)])
  ·rw[if_neg hm]
   refine wayE U49_ok (fi:=fi24) (by kernel_rfl) noL [(decide (b<1),false),(!decide (b=0),true),(decide (a.tmod b<0),false)] [2,3,4] (V.int IntKind.i64 (a.tmod b),[]) (by kernel_rfl) ⟨decide_eq_false h,hn,decide_eq_false hm,trivial⟩ rfl
def pickS:List V→Heap→Tr (V×Heap):=fun a H=>match a,H with
 | [.int .i64 a,.int .i64 b],[]=>.must (decide (b≤1000000000)) (.ret (.int .i64 (P.pick a b),[]))
 | _,_=>.fail
theorem pickS_ok:∀ a H r,(pickS a H).run=some r→Runs T F 24 a H r:=by
 intro a H r h;unfold pickS at h;split at h
 ·rename_i a b
  obtain⟨h1,g⟩:=Tr.must_some h;have hr:=ret_some g;clear h g;subst hr;exact pk_runs a b (by simpa using h1)
 ·cases h
end Go.Proofs.Ytnijkhcmjpfjeaa
