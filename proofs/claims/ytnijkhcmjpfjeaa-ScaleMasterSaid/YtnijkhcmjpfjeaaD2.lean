/- D2: the scale: made,entered,left,held. -/
import Derived.Test.YtnijkhcmjpfjeaaD1
namespace Go.Proofs.Ytnijkhcmjpfjeaa
open Go Go.Vm
def lst (ps:List Pnt):Pnt:=ps.getD (ps.length-1) ⟨0,0,true,[],true,[]⟩
def Fd.lp (ps:List Pnt):V:=(ps.map encP).getD (IntKind.i64.wrap (((ps.map encP).length:Int)-1)).toNat V.undef
theorem lp_at {ps:List Pnt} (h0:0<ps.length) (h1:ps.length<2 ^ 40):Fd.lp ps=encP (lst ps):=by
 have e:(IntKind.i64.wrap (((ps.map encP).length:Int)-1)).toNat=ps.length-1:=by
  rw[List.length_map,i64in (by omega) (by omega)];omega
 unfold Fd.lp lst;rw[e];have:ps.length-1<ps.length:=by omega
 simp[this]
theorem fitPt {ps:List Pnt} (h0:0<ps.length) (h1:ps.length<2 ^ 40):fitP [.int .i64,.int .i64,TK.slice 3,TK.slice 3] 0 (Fd.lp ps)=true:=by
 rw[lp_at h0 h1];rfl
theorem fitPt' {ps:List Pnt} (h0:0<ps.length) (h1:ps.length<2 ^ 40):((Fd.lp ps).cells.length==4&&fitP [.int .i64,.int .i64,TK.slice 3,TK.slice 3] 0 (Fd.lp ps))=true:=by
 rw[lp_at h0 h1];rfl
def bD (ms:List Mem) (ps:List Pnt):B:=.cells [.ptr 0 0,.ex 6 false (ms.map encM),.ex 4 false (ps.map encP)]
def bE (ps:List Pnt):B:=.cells [.ptr 0 0,.sl true [],.ex 4 false (ps.map encP)]
namespace P
def enE (ms:List Mem) (i d r m:Int):Int :=
 if 0≤i∧i≤1000000∧-1000000000000≤d∧d≤1000000000000∧-1000000000≤r∧r≤1000000000∧1≤m∧m≤1000 then (if 0≤fd ms i 0 then 10 else if 16≤ms.length then 2 else 0) else 6
def enM (ms:List Mem) (ps:List Pnt) (i d r m:Int):List Mem:=if enE ms i d r m=0 then ms++[⟨i,d+(lst ps).u,r,m,(lst ps).ep,true,[]⟩] else ms
def leE (ms:List Mem) (i:Int):Int:=if fd ms i 0<0 then 41 else 0
def leM (ms:List Mem) (i:Int):List Mem:=if fd ms i 0<0 then ms else ms.eraseIdx (fd ms i 0).toNat
def hoE (ms:List Mem) (i d:Int):Int:=if fd ms i 0<0 then 41 else if -1000000000000≤d∧d≤1000000000000 then 0 else 6
def hoV (ms:List Mem) (i d:Int):Int:=if hoE ms i d=0 then (match ms[(fd ms i 0).toNat]? with | some m=>m.h+m.rate-d | none=>0) else 0
end P
theorem enE_bad {ms:List Mem} {i d r m:Int} (h:¬(0≤i∧i≤1000000∧-1000000000000≤d∧d≤1000000000000∧-1000000000≤r∧r≤1000000000∧1≤m∧m≤1000)):P.enE ms i d r m=6:=by unfold P.enE;rw[if_neg h]
theorem enE_in {ms:List Mem} {i d r m:Int} (h:0≤i∧i≤1000000∧-1000000000000≤d∧d≤1000000000000∧-1000000000≤r∧r≤1000000000∧1≤m∧m≤1000):P.enE ms i d r m=if 0≤P.fd ms i 0 then 10 else if 16≤ms.length then 2 else 0:=by unfold P.enE;rw[if_pos h]
theorem enM_bad {ms:List Mem} {ps:List Pnt} {i d r m:Int} (h:P.enE ms i d r m≠0):P.enM ms ps i d r m=ms:=by unfold P.enM;rw[if_neg h]
theorem rooms_n {n:Nat} (h:n<2 ^ 40):rooms (n+1) 64=true:=by
 exact decide_eq_true (by unfold maxRoom;omega)
theorem en_6 {s:Set4} {ms:List Mem} {ps:List Pnt} {i d r m:Int} (h:¬(0≤i∧i≤1000000∧-1000000000000≤d∧d≤1000000000000∧-1000000000≤r∧r≤1000000000∧1≤m∧m≤1000)):(V.int .i64 6,[bS s,bD ms ps])=(V.int .i64 (P.enE ms i d r m),[bS s,bD (P.enM ms ps i d r m) ps]):=by
 have hE:=enE_bad (ms:=ms) h;rw[enM_bad (by rw[hE];omega),hE]
theorem en_10 {s:Set4} {ms:List Mem} {ps:List Pnt} {i d r m:Int} (h:0≤i∧i≤1000000∧-1000000000000≤d∧d≤1000000000000∧-1000000000≤r∧r≤1000000000∧1≤m∧m≤1000) (hf:0≤P.fd ms i 0):(V.int .i64 10,[bS s,bD ms ps])=(V.int .i64 (P.enE ms i d r m),[bS s,bD (P.enM ms ps i d r m) ps]):=by
 have hE:P.enE ms i d r m=10:=by rw[enE_in h,if_pos hf]
 rw[enM_bad (by rw[hE];omega),hE]
theorem en_2 {s:Set4} {ms:List Mem} {ps:List Pnt} {i d r m:Int} (h:0≤i∧i≤1000000∧-1000000000000≤d∧d≤1000000000000∧-1000000000≤r∧r≤1000000000∧1≤m∧m≤1000) (hf:¬0≤P.fd ms i 0) (hl:16≤ms.length):(V.int .i64 2,[bS s,bD ms ps])=(V.int .i64 (P.enE ms i d r m),[bS s,bD (P.enM ms ps i d r m) ps]):=by
 have hE:P.enE ms i d r m=2:=by rw[enE_in h,if_neg hf,if_pos hl]
 rw[enM_bad (by rw[hE];omega),hE]
theorem en_0 {s:Set4} {ms:List Mem} {ps:List Pnt} {i d r m:Int} (h:0≤i∧i≤1000000∧-1000000000000≤d∧d≤1000000000000∧-1000000000≤r∧r≤1000000000∧1≤m∧m≤1000) (hf:¬0≤P.fd ms i 0) (hl:¬16≤ms.length)
  (hp0:0<ps.length) (hp1:ps.length<2 ^ 40) (hu:-1000000000000000≤(lst ps).u∧(lst ps).u≤1000000000000000) :
  (V.int .i64 0,[bS s,B.cells [V.ptr 0 0,V.ex 6 false (List.map encM ms++[V.agg [.int .i64 i,.int .i64 (IntKind.i64.wrap (d+intOf (fld 1 (Fd.lp ps)))),.int .i64 r,.int .i64 m,.int .i64 (intOf (fld 0 (Fd.lp ps))),V.sl true []]]),V.ex 4 false (List.map encP ps)]])=(V.int .i64 (P.enE ms i d r m),[bS s,bD (P.enM ms ps i d r m) ps]):=by
 have hE:P.enE ms i d r m=0:=by rw[enE_in h,if_neg hf,if_neg hl]
 rw[lp_at hp0 hp1,show P.enM ms ps i d r m=ms++[⟨i,d+(lst ps).u,r,m,(lst ps).ep,true,[]⟩] by unfold P.enM;rw[if_pos hE],hE]
 simp only[bD,List.map_append,List.map_cons,List.map_nil,encM,encP,fld,V.cells,List.getD_cons_zero,List.getD_cons_succ,intOf];rw[i64in (by omega) (by omega)]
set_option maxHeartbeats 1000000 in
theorem en_runs (s:Set4) (ms:List Mem) (ps:List Pnt) (i d r m:Int) (hm:ms.length<2 ^ 40) (hp0:0<ps.length) (hp1:ps.length<2 ^ 40) (hu:-1000000000000000≤(lst ps).u∧(lst ps).u≤1000000000000000) :
  Runs T F 25 [.ptr 1 0,.int .i64 i,.int .i64 d,.int .i64 r,.int .i64 m] [bS s,bD ms ps] (.int .i64 (P.enE ms i d r m),[bS s,bD (P.enM ms ps i d r m) ps]):=by
 have hwl:IntKind.i64.wrap ((ps.length:Int)-1)=ps.length-1:=i64in (by omega) (by omega)
 by_cases h0:i≥0
 ·skip
  by_cases h1:(!decide (i≤1000000))=true
  ·skip
   refine wayE U48_ok (fi:=fi25) (by kernel_rfl) noL [(decide (i≥0),true),
     (!decide (i≤1000000),true)] [1,1,1,1,1,1,1,2,2,2,2,3,3,3,3,0,0,0,0,0,0,0,0,0] (V.int IntKind.i64 6,[bS s,B.cells [V.ptr 0 0,V.ex 6 false (List.map encM ms),V.ex 4 false (List.map encP ps)]]) (by kernel_rfl) ⟨(decide_eq_true h0),h1,trivial⟩ ?_
   all_goals try simp only[Bool.not_eq_true',decide_eq_false_iff_not] at *
   all_goals first|exact isMs_enc _|exact eqB_self _|(simp;done)|omega|(rw[hwl];omega)|exact fitPt' (by omega) (by omega)|exact fitPt (by omega) (by omega)|(rw[List.length_map,hwl];simp;omega)|exact rooms_n hm|(simp;omega)|exact en_6 (by omega)|exact en_10 (by omega) (by omega)|exact en_2 (by omega) (by omega) (by omega)|exact en_0 (by omega) (by omega) (by omega) hp0 hp1 hu|done
  ·skip
   by_cases h2:d≥-1000000000000
   ·skip
    by_cases h3:(!decide (d≤1000000000000))=true
    ·skip
     refine wayE U48_ok (fi:=fi25) (by kernel_rfl) noL [(decide (i≥0),true),
       (!decide (i≤1000000),false),
       (decide (d≥-1000000000000),true),
       (!decide (d≤1000000000000),true)] [1,1,1,1,1,1,1,2,2,2,2,3,3,4,4,4,4,3,3,5,5,5,5,0,0,0,0,0] (V.int IntKind.i64 6,[bS s,B.cells [V.ptr 0 0,V.ex 6 false (List.map encM ms),V.ex 4 false (List.map encP ps)]]) (by kernel_rfl) ⟨(decide_eq_true h0),(Bool.eq_false_iff.2 h1),(decide_eq_true h2),h3,trivial⟩ ?_
     all_goals try simp only[Bool.not_eq_true',decide_eq_false_iff_not] at *
     all_goals first|exact isMs_enc _|exact eqB_self _|(simp;done)|omega|(rw[hwl];omega)|exact fitPt' (by omega) (by omega)|exact fitPt (by omega) (by omega)|(rw[List.length_map,hwl];simp;omega)|exact rooms_n hm|(simp;omega)|exact en_6 (by omega)|exact en_10 (by omega) (by omega)|exact en_2 (by omega) (by omega) (by omega)|exact en_0 (by omega) (by omega) (by omega) hp0 hp1 hu|done
    ·skip
     by_cases h4:r≥-1000000000
     ·skip
      by_cases h5:(!decide (r≤1000000000))=true
      ·skip
       refine wayE U48_ok (fi:=fi25) (by kernel_rfl) noL [(decide (i≥0),true),
         (!decide (i≤1000000),false),
         (decide (d≥-1000000000000),true),
         (!decide (d≤1000000000000),false),
         (decide (r≥-1000000000),true),
         (!decide (r≤1000000000),true)] [1,1,1,1,1,1,1,2,2,2,2,3,3,4,4,4,4,3,3,5,5,6,6,6,6,5,5,7,7,7,7,0] (V.int IntKind.i64 6,[bS s,B.cells [V.ptr 0 0,V.ex 6 false (List.map encM ms),V.ex 4 false (List.map encP ps)]]) (by kernel_rfl) ⟨(decide_eq_true h0),(Bool.eq_false_iff.2 h1),(decide_eq_true h2),(Bool.eq_false_iff.2 h3),(decide_eq_true h4),h5,trivial⟩ ?_
       all_goals try simp only[Bool.not_eq_true',decide_eq_false_iff_not] at *
       all_goals first|exact isMs_enc _|exact eqB_self _|(simp;done)|omega|(rw[hwl];omega)|exact fitPt' (by omega) (by omega)|exact fitPt (by omega) (by omega)|(rw[List.length_map,hwl];simp;omega)|exact rooms_n hm|(simp;omega)|exact en_6 (by omega)|exact en_10 (by omega) (by omega)|exact en_2 (by omega) (by omega) (by omega)|exact en_0 (by omega) (by omega) (by omega) hp0 hp1 hu|done
      ·skip
       by_cases h6:m≥1
       ·skip
        by_cases h7:(!decide (m≤1000))=true
        ·skip
         refine wayE U48_ok (fi:=fi25) (by kernel_rfl) noL [(decide (i≥0),true),
           (!decide (i≤1000000),false),
           (decide (d≥-1000000000000),true),
           (!decide (d≤1000000000000),false),
           (decide (r≥-1000000000),true),
           (!decide (r≤1000000000),false),
           (decide (m≥1),true),
           (!decide (m≤1000),true)] [1,1,1,1,1,1,1,2,2,2,2,3,3,4,4,4,4,3,3,5,5,6,6,6,6,5,5,7,7,8,8,8,8,7,7,9] (V.int IntKind.i64 6,[bS s,B.cells [V.ptr 0 0,V.ex 6 false (List.map encM ms),V.ex 4 false (List.map encP ps)]]) (by kernel_rfl) ⟨(decide_eq_true h0),(Bool.eq_false_iff.2 h1),(decide_eq_true h2),(Bool.eq_false_iff.2 h3),(decide_eq_true h4),(Bool.eq_false_iff.2 h5),(decide_eq_true h6),h7,trivial⟩ ?_
         all_goals try simp only[Bool.not_eq_true',decide_eq_false_iff_not] at *
         all_goals first|exact isMs_enc _|exact eqB_self _|(simp;done)|omega|(rw[hwl];omega)|exact fitPt' (by omega) (by omega)|exact fitPt (by omega) (by omega)|(rw[List.length_map,hwl];simp;omega)|exact rooms_n hm|(simp;omega)|exact en_6 (by omega)|exact en_10 (by omega) (by omega)|exact en_2 (by omega) (by omega) (by omega)|exact en_0 (by omega) (by omega) (by omega) hp0 hp1 hu|done
        ·skip
         by_cases h8:P.fd (P.decMs (List.map encM ms)) i 0≥0
         ·skip
          refine wayE U48_ok (fi:=fi25) (by kernel_rfl) noL [(decide (i≥0),true),
            (!decide (i≤1000000),false),
            (decide (d≥-1000000000000),true),
            (!decide (d≤1000000000000),false),
            (decide (r≥-1000000000),true),
            (!decide (r≤1000000000),false),
            (decide (m≥1),true),
            (!decide (m≤1000),false),
            (eqB (List.map encM ms) (List.map encM (P.decMs (List.map encM ms))),true),
            (decide ((List.map encM ms).length<1099511627776),true),
            (decide (P.fd (P.decMs (List.map encM ms)) i 0≥0),true)] [1,1,1,1,1,1,1,2,2,2,2,3,3,4,4,4,4,3,3,5,5,6,6,6,6,5,5,7,7,8,8,8,8,7,7,9,0,10,11,12] (V.int IntKind.i64 10,[bS s,B.cells [V.ptr 0 0,V.ex 6 false (List.map encM ms),V.ex 4 false (List.map encP ps)]]) (by kernel_rfl) ⟨(decide_eq_true h0),(Bool.eq_false_iff.2 h1),(decide_eq_true h2),(Bool.eq_false_iff.2 h3),(decide_eq_true h4),(Bool.eq_false_iff.2 h5),(decide_eq_true h6),(Bool.eq_false_iff.2 h7),?_,?_,(decide_eq_true h8),trivial⟩ ?_
          all_goals try simp only[decMs_enc,List.length_map,Bool.not_eq_true',decide_eq_true_eq,decide_eq_false_iff_not] at *
          all_goals first|exact isMs_enc _|exact eqB_self _|(simp;done)|omega|(rw[hwl];omega)|exact fitPt' (by omega) (by omega)|exact fitPt (by omega) (by omega)|(rw[List.length_map,hwl];simp;omega)|exact rooms_n hm|(simp;omega)|exact en_6 (by omega)|exact en_10 (by omega) (by omega)|exact en_2 (by omega) (by omega) (by omega)|exact en_0 (by omega) (by omega) (by omega) hp0 hp1 hu|done
         ·skip
          by_cases h9:(↑(List.map encM ms).length:Int)≥16
          ·skip
           refine wayE U48_ok (fi:=fi25) (by kernel_rfl) noL [(decide (i≥0),true),
             (!decide (i≤1000000),false),
             (decide (d≥-1000000000000),true),
             (!decide (d≤1000000000000),false),
             (decide (r≥-1000000000),true),
             (!decide (r≤1000000000),false),
             (decide (m≥1),true),
             (!decide (m≤1000),false),
             (eqB (List.map encM ms) (List.map encM (P.decMs (List.map encM ms))),true),
             (decide ((List.map encM ms).length<1099511627776),true),
             (decide (P.fd (P.decMs (List.map encM ms)) i 0≥0),false),
             (decide ((↑(List.map encM ms).length:Int)≥16),true)] [1,1,1,1,1,1,1,2,2,2,2,3,3,4,4,4,4,3,3,5,5,6,6,6,6,5,5,7,7,8,8,8,8,7,7,9,0,10,11,12,13] (V.int IntKind.i64 2,[bS s,B.cells [V.ptr 0 0,V.ex 6 false (List.map encM ms),V.ex 4 false (List.map encP ps)]]) (by kernel_rfl) ⟨(decide_eq_true h0),(Bool.eq_false_iff.2 h1),(decide_eq_true h2),(Bool.eq_false_iff.2 h3),(decide_eq_true h4),(Bool.eq_false_iff.2 h5),(decide_eq_true h6),(Bool.eq_false_iff.2 h7),?_,?_,(decide_eq_false h8),(decide_eq_true h9),trivial⟩ ?_
           all_goals try simp only[decMs_enc,List.length_map,Bool.not_eq_true',decide_eq_true_eq,decide_eq_false_iff_not] at *
           all_goals first|exact isMs_enc _|exact eqB_self _|(simp;done)|omega|(rw[hwl];omega)|exact fitPt' (by omega) (by omega)|exact fitPt (by omega) (by omega)|(rw[List.length_map,hwl];simp;omega)|exact rooms_n hm|(simp;omega)|exact en_6 (by omega)|exact en_10 (by omega) (by omega)|exact en_2 (by omega) (by omega) (by omega)|exact en_0 (by omega) (by omega) (by omega) hp0 hp1 hu|done
          ·skip
           refine wayE U48_ok (fi:=fi25) (by kernel_rfl) noL [(decide (i≥0),true),
             (!decide (i≤1000000),false),
             (decide (d≥-1000000000000),true),
             (!decide (d≤1000000000000),false),
             (decide (r≥-1000000000),true),
             (!decide (r≤1000000000),false),
             (decide (m≥1),true),
             (!decide (m≤1000),false),
             (eqB (List.map encM ms) (List.map encM (P.decMs (List.map encM ms))),true),
             (decide ((List.map encM ms).length<1099511627776),true),
             (decide (P.fd (P.decMs (List.map encM ms)) i 0≥0),false),
             (decide ((↑(List.map encM ms).length:Int)≥16),false),
             (decide (0≤IntKind.i64.wrap ((↑(List.map encP ps).length:Int)-1)),true),
             (decide (IntKind.i64.wrap ((↑(List.map encP ps).length:Int)-1)<(↑(List.map encP ps).length:Int)),true),
             ((Fd.lp ps).cells.length==4&&fitP [.int .i64,.int .i64,TK.slice 3,TK.slice 3] 0 (Fd.lp ps),true),
             (rooms ((List.map encM ms).length+1) 64,true),
             (decide ((List.map encM ms).length+1<4611686018427387904),true)] [1,1,1,1,1,1,1,2,2,2,2,3,3,4,4,4,4,3,3,5,5,6,6,6,6,5,5,7,7,8,8,8,8,7,7,9,0,10,11,12,13,14,15,16,17,18,0] (V.int IntKind.i64 0,[bS s,B.cells [V.ptr 0 0,V.ex 6 false (List.map encM ms++[V.agg [.int .i64 i,.int .i64 (IntKind.i64.wrap (d+intOf (fld 1 (Fd.lp ps)))),.int .i64 r,.int .i64 m,.int .i64 (intOf (fld 0 (Fd.lp ps))),V.sl true []]]),V.ex 4 false (List.map encP ps)]]) (by kernel_rfl) ⟨(decide_eq_true h0),(Bool.eq_false_iff.2 h1),(decide_eq_true h2),(Bool.eq_false_iff.2 h3),(decide_eq_true h4),(Bool.eq_false_iff.2 h5),(decide_eq_true h6),(Bool.eq_false_iff.2 h7),?_,?_,(decide_eq_false h8),(decide_eq_false h9),?_,?_,?_,?_,?_,trivial⟩ ?_
           all_goals try simp only[decMs_enc,List.length_map,Bool.not_eq_true',decide_eq_true_eq,decide_eq_false_iff_not] at *
           all_goals first|exact isMs_enc _|exact eqB_self _|(simp;done)|omega|(rw[hwl];omega)|exact fitPt' (by omega) (by omega)|exact fitPt (by omega) (by omega)|(rw[List.length_map,hwl];simp;omega)|exact rooms_n hm|(simp;omega)|exact en_6 (by omega)|exact en_10 (by omega) (by omega)|exact en_2 (by omega) (by omega) (by omega)|exact en_0 (by omega) (by omega) (by omega) hp0 hp1 hu|done
       ·skip
        refine wayE U48_ok (fi:=fi25) (by kernel_rfl) noL [(decide (i≥0),true),
          (!decide (i≤1000000),false),
          (decide (d≥-1000000000000),true),
          (!decide (d≤1000000000000),false),
          (decide (r≥-1000000000),true),
          (!decide (r≤1000000000),false),
          (decide (m≥1),false)] [1,1,1,1,1,1,1,2,2,2,2,3,3,4,4,4,4,3,3,5,5,6,6,6,6,5,5,7,7,8,8,8,8,7,7,0] (V.int IntKind.i64 6,[bS s,B.cells [V.ptr 0 0,V.ex 6 false (List.map encM ms),V.ex 4 false (List.map encP ps)]]) (by kernel_rfl) ⟨(decide_eq_true h0),(Bool.eq_false_iff.2 h1),(decide_eq_true h2),(Bool.eq_false_iff.2 h3),(decide_eq_true h4),(Bool.eq_false_iff.2 h5),(decide_eq_false h6),trivial⟩ ?_
        all_goals try simp only[Bool.not_eq_true',decide_eq_false_iff_not] at *
        all_goals first|exact isMs_enc _|exact eqB_self _|(simp;done)|omega|(rw[hwl];omega)|exact fitPt' (by omega) (by omega)|exact fitPt (by omega) (by omega)|(rw[List.length_map,hwl];simp;omega)|exact rooms_n hm|(simp;omega)|exact en_6 (by omega)|exact en_10 (by omega) (by omega)|exact en_2 (by omega) (by omega) (by omega)|exact en_0 (by omega) (by omega) (by omega) hp0 hp1 hu|done
     ·skip
      refine wayE U48_ok (fi:=fi25) (by kernel_rfl) noL [(decide (i≥0),true),
        (!decide (i≤1000000),false),
        (decide (d≥-1000000000000),true),
        (!decide (d≤1000000000000),false),
        (decide (r≥-1000000000),false)] [1,1,1,1,1,1,1,2,2,2,2,3,3,4,4,4,4,3,3,5,5,6,6,6,6,5,5,0,0,0,0,0] (V.int IntKind.i64 6,[bS s,B.cells [V.ptr 0 0,V.ex 6 false (List.map encM ms),V.ex 4 false (List.map encP ps)]]) (by kernel_rfl) ⟨(decide_eq_true h0),(Bool.eq_false_iff.2 h1),(decide_eq_true h2),(Bool.eq_false_iff.2 h3),(decide_eq_false h4),trivial⟩ ?_
      all_goals try simp only[Bool.not_eq_true',decide_eq_false_iff_not] at *
      all_goals first|exact isMs_enc _|exact eqB_self _|(simp;done)|omega|(rw[hwl];omega)|exact fitPt' (by omega) (by omega)|exact fitPt (by omega) (by omega)|(rw[List.length_map,hwl];simp;omega)|exact rooms_n hm|(simp;omega)|exact en_6 (by omega)|exact en_10 (by omega) (by omega)|exact en_2 (by omega) (by omega) (by omega)|exact en_0 (by omega) (by omega) (by omega) hp0 hp1 hu|done
   ·skip
    refine wayE U48_ok (fi:=fi25) (by kernel_rfl) noL [(decide (i≥0),true),
      (!decide (i≤1000000),false),
      (decide (d≥-1000000000000),false)] [1,1,1,1,1,1,1,2,2,2,2,3,3,4,4,4,4,3,3,0,0,0,0,0,0,0,0,0] (V.int IntKind.i64 6,[bS s,B.cells [V.ptr 0 0,V.ex 6 false (List.map encM ms),V.ex 4 false (List.map encP ps)]]) (by kernel_rfl) ⟨(decide_eq_true h0),(Bool.eq_false_iff.2 h1),(decide_eq_false h2),trivial⟩ ?_
    all_goals try simp only[Bool.not_eq_true',decide_eq_false_iff_not] at *
    all_goals first|exact isMs_enc _|exact eqB_self _|(simp;done)|omega|(rw[hwl];omega)|exact fitPt' (by omega) (by omega)|exact fitPt (by omega) (by omega)|(rw[List.length_map,hwl];simp;omega)|exact rooms_n hm|(simp;omega)|exact en_6 (by omega)|exact en_10 (by omega) (by omega)|exact en_2 (by omega) (by omega) (by omega)|exact en_0 (by omega) (by omega) (by omega) hp0 hp1 hu|done
 ·skip
  refine wayE U48_ok (fi:=fi25) (by kernel_rfl) noL [(decide (i≥0),false)] [1,1,1,1,1,1,1,2,2,2,2,0,0,0,0,0,0,0,0,0,0,0,0,0] (V.int IntKind.i64 6,[bS s,B.cells [V.ptr 0 0,V.ex 6 false (List.map encM ms),V.ex 4 false (List.map encP ps)]]) (by kernel_rfl) ⟨(decide_eq_false h0),trivial⟩ ?_
  all_goals try simp only[decMs_enc,List.length_map,Bool.not_eq_true',Bool.not_eq_true,Bool.not_eq_false',Bool.not_eq_false,decide_eq_true_eq,decide_eq_false_iff_not] at *
  all_goals first|exact isMs_enc _|exact eqB_self _|(simp;done)|omega|(rw[hwl];omega)|exact fitPt' (by omega) (by omega)|exact fitPt (by omega) (by omega)|(rw[List.length_map,hwl];simp;omega)|exact rooms_n hm|(simp;omega)|exact en_6 (by omega)|exact en_10 (by omega) (by omega)|exact en_2 (by omega) (by omega) (by omega)|exact en_0 (by omega) (by omega) (by omega) hp0 hp1 hu|done
theorem fd_nil (i:Int):P.fd [] i 0=-1:=rfl
set_option maxHeartbeats 1000000 in
theorem en0_runs (s:Set4) (ps:List Pnt) (i d r m:Int) (hp0:0<ps.length) (hp1:ps.length<2 ^ 40) (hu:-1000000000000000≤(lst ps).u∧(lst ps).u≤1000000000000000) :
  Runs T F 25 [.ptr 1 0,.int .i64 i,.int .i64 d,.int .i64 r,.int .i64 m] [bS s,bE ps] (.int .i64 (P.enE [] i d r m),[bS s,if P.enE [] i d r m=0 then bD (P.enM [] ps i d r m) ps else bE ps]):=by
 have hf:=fd_nil i;have hwl:IntKind.i64.wrap ((ps.length:Int)-1)=ps.length-1:=i64in (by omega) (by omega)
 by_cases h0:i≥0
 ·skip
  by_cases h1:(!decide (i≤1000000))=true
  ·skip
   refine wayE U48_ok (fi:=fi25) (by kernel_rfl) noL [(decide (i≥0),true),
     (!decide (i≤1000000),true)] [1,1,1,1,1,1,1,2,2,2,2,3,3,3,3,0,0,0,0,0,0,0,0,0] (V.int IntKind.i64 6,[bS s,B.cells [V.ptr 0 0,V.sl true [],V.ex 4 false (List.map encP ps)]]) (by kernel_rfl) ⟨(decide_eq_true h0),h1,trivial⟩ ?_
   all_goals try simp only[Bool.not_eq_true',decide_eq_false_iff_not] at *
   all_goals first|exact isMs_enc _|exact eqB_self _|(simp;done)|omega|(rw[hwl];omega)|exact fitPt' (by omega) (by omega)|exact fitPt (by omega) (by omega)|(rw[List.length_map,hwl];simp;omega)|exact rooms_n (n:=0) (by decide)|(simp;omega)|(rw[enE_bad (by omega),if_neg (by omega)];rfl)|(have h:=en_0 (s:=s) (ms:=[]) (ps:=ps) (i:=i) (d:=d) (r:=r) (m:=m) (by omega) (by omega) (by simp) hp0 hp1 hu;have hE:P.enE [] i d r m=0:=by {rw[enE_in (by omega),if_neg (by omega),if_neg (by simp)]};rw[if_pos hE];exact h)|done
  ·skip
   by_cases h2:d≥-1000000000000
   ·skip
    by_cases h3:(!decide (d≤1000000000000))=true
    ·skip
     refine wayE U48_ok (fi:=fi25) (by kernel_rfl) noL [(decide (i≥0),true),
       (!decide (i≤1000000),false),
       (decide (d≥-1000000000000),true),
       (!decide (d≤1000000000000),true)] [1,1,1,1,1,1,1,2,2,2,2,3,3,4,4,4,4,3,3,5,5,5,5,0,0,0,0,0] (V.int IntKind.i64 6,[bS s,B.cells [V.ptr 0 0,V.sl true [],V.ex 4 false (List.map encP ps)]]) (by kernel_rfl) ⟨(decide_eq_true h0),(Bool.eq_false_iff.2 h1),(decide_eq_true h2),h3,trivial⟩ ?_
     all_goals try simp only[Bool.not_eq_true',decide_eq_false_iff_not] at *
     all_goals first|exact isMs_enc _|exact eqB_self _|(simp;done)|omega|(rw[hwl];omega)|exact fitPt' (by omega) (by omega)|exact fitPt (by omega) (by omega)|(rw[List.length_map,hwl];simp;omega)|exact rooms_n (n:=0) (by decide)|(simp;omega)|(rw[enE_bad (by omega),if_neg (by omega)];rfl)|(have h:=en_0 (s:=s) (ms:=[]) (ps:=ps) (i:=i) (d:=d) (r:=r) (m:=m) (by omega) (by omega) (by simp) hp0 hp1 hu;have hE:P.enE [] i d r m=0:=by {rw[enE_in (by omega),if_neg (by omega),if_neg (by simp)]};rw[if_pos hE];exact h)|done
    ·skip
     by_cases h4:r≥-1000000000
     ·skip
      by_cases h5:(!decide (r≤1000000000))=true
      ·skip
       refine wayE U48_ok (fi:=fi25) (by kernel_rfl) noL [(decide (i≥0),true),
         (!decide (i≤1000000),false),
         (decide (d≥-1000000000000),true),
         (!decide (d≤1000000000000),false),
         (decide (r≥-1000000000),true),
         (!decide (r≤1000000000),true)] [1,1,1,1,1,1,1,2,2,2,2,3,3,4,4,4,4,3,3,5,5,6,6,6,6,5,5,7,7,7,7,0] (V.int IntKind.i64 6,[bS s,B.cells [V.ptr 0 0,V.sl true [],V.ex 4 false (List.map encP ps)]]) (by kernel_rfl) ⟨(decide_eq_true h0),(Bool.eq_false_iff.2 h1),(decide_eq_true h2),(Bool.eq_false_iff.2 h3),(decide_eq_true h4),h5,trivial⟩ ?_
       all_goals try simp only[Bool.not_eq_true',decide_eq_false_iff_not] at *
       all_goals first|exact isMs_enc _|exact eqB_self _|(simp;done)|omega|(rw[hwl];omega)|exact fitPt' (by omega) (by omega)|exact fitPt (by omega) (by omega)|(rw[List.length_map,hwl];simp;omega)|exact rooms_n (n:=0) (by decide)|(simp;omega)|(rw[enE_bad (by omega),if_neg (by omega)];rfl)|(have h:=en_0 (s:=s) (ms:=[]) (ps:=ps) (i:=i) (d:=d) (r:=r) (m:=m) (by omega) (by omega) (by simp) hp0 hp1 hu;have hE:P.enE [] i d r m=0:=by {rw[enE_in (by omega),if_neg (by omega),if_neg (by simp)]};rw[if_pos hE];exact h)|done
      ·skip
       by_cases h6:m≥1
       ·skip
        by_cases h7:(!decide (m≤1000))=true
        ·skip
         refine wayE U48_ok (fi:=fi25) (by kernel_rfl) noL [(decide (i≥0),true),
           (!decide (i≤1000000),false),
           (decide (d≥-1000000000000),true),
           (!decide (d≤1000000000000),false),
           (decide (r≥-1000000000),true),
           (!decide (r≤1000000000),false),
           (decide (m≥1),true),
           (!decide (m≤1000),true)] [1,1,1,1,1,1,1,2,2,2,2,3,3,4,4,4,4,3,3,5,5,6,6,6,6,5,5,7,7,8,8,8,8,7,7,9] (V.int IntKind.i64 6,[bS s,B.cells [V.ptr 0 0,V.sl true [],V.ex 4 false (List.map encP ps)]]) (by kernel_rfl) ⟨(decide_eq_true h0),(Bool.eq_false_iff.2 h1),(decide_eq_true h2),(Bool.eq_false_iff.2 h3),(decide_eq_true h4),(Bool.eq_false_iff.2 h5),(decide_eq_true h6),h7,trivial⟩ ?_
         all_goals try simp only[Bool.not_eq_true',decide_eq_false_iff_not] at *
         all_goals first|exact isMs_enc _|exact eqB_self _|(simp;done)|omega|(rw[hwl];omega)|exact fitPt' (by omega) (by omega)|exact fitPt (by omega) (by omega)|(rw[List.length_map,hwl];simp;omega)|exact rooms_n (n:=0) (by decide)|(simp;omega)|(rw[enE_bad (by omega),if_neg (by omega)];rfl)|(have h:=en_0 (s:=s) (ms:=[]) (ps:=ps) (i:=i) (d:=d) (r:=r) (m:=m) (by omega) (by omega) (by simp) hp0 hp1 hu;have hE:P.enE [] i d r m=0:=by {rw[enE_in (by omega),if_neg (by omega),if_neg (by simp)]};rw[if_pos hE];exact h)|done
        ·skip
         refine wayE U48_ok (fi:=fi25) (by kernel_rfl) noL [(decide (i≥0),true),
           (!decide (i≤1000000),false),
           (decide (d≥-1000000000000),true),
           (!decide (d≤1000000000000),false),
           (decide (r≥-1000000000),true),
           (!decide (r≤1000000000),false),
           (decide (m≥1),true),
           (!decide (m≤1000),false),
           (decide (0≤IntKind.i64.wrap ((↑(List.map encP ps).length:Int)-1)),true),
           (decide (IntKind.i64.wrap ((↑(List.map encP ps).length:Int)-1)<(↑(List.map encP ps).length:Int)),true),
           ((Fd.lp ps).cells.length==4&&fitP [.int .i64,.int .i64,TK.slice 3,TK.slice 3] 0 (Fd.lp ps),true)] [1,1,1,1,1,1,1,2,2,2,2,3,3,4,4,4,4,3,3,5,5,6,6,6,6,5,5,7,7,8,8,8,8,7,7,9,0,1,1,10,11,12,0,0,0] (V.int IntKind.i64 0,[bS s,B.cells [V.ptr 0 0,V.ex 6 false [V.agg [.int .i64 i,.int .i64 (IntKind.i64.wrap (d+intOf (fld 1 (Fd.lp ps)))),.int .i64 r,.int .i64 m,.int .i64 (intOf (fld 0 (Fd.lp ps))),V.sl true []]],V.ex 4 false (List.map encP ps)]]) (by kernel_rfl) ⟨(decide_eq_true h0),(Bool.eq_false_iff.2 h1),(decide_eq_true h2),(Bool.eq_false_iff.2 h3),(decide_eq_true h4),(Bool.eq_false_iff.2 h5),(decide_eq_true h6),(Bool.eq_false_iff.2 h7),?_,?_,?_,trivial⟩ ?_
         all_goals try simp only[List.length_map,Bool.not_eq_true',decide_eq_true_eq,decide_eq_false_iff_not] at *
         all_goals first|exact isMs_enc _|exact eqB_self _|(simp;done)|omega|(rw[hwl];omega)|exact fitPt' (by omega) (by omega)|exact fitPt (by omega) (by omega)|(rw[List.length_map,hwl];simp;omega)|exact rooms_n (n:=0) (by decide)|(simp;omega)|(rw[enE_bad (by omega),if_neg (by omega)];rfl)|(have h:=en_0 (s:=s) (ms:=[]) (ps:=ps) (i:=i) (d:=d) (r:=r) (m:=m) (by omega) (by omega) (by simp) hp0 hp1 hu;have hE:P.enE [] i d r m=0:=by {rw[enE_in (by omega),if_neg (by omega),if_neg (by simp)]};rw[if_pos hE];exact h)|done
       ·skip
        refine wayE U48_ok (fi:=fi25) (by kernel_rfl) noL [(decide (i≥0),true),
          (!decide (i≤1000000),false),
          (decide (d≥-1000000000000),true),
          (!decide (d≤1000000000000),false),
          (decide (r≥-1000000000),true),
          (!decide (r≤1000000000),false),
          (decide (m≥1),false)] [1,1,1,1,1,1,1,2,2,2,2,3,3,4,4,4,4,3,3,5,5,6,6,6,6,5,5,7,7,8,8,8,8,7,7,0] (V.int IntKind.i64 6,[bS s,B.cells [V.ptr 0 0,V.sl true [],V.ex 4 false (List.map encP ps)]]) (by kernel_rfl) ⟨(decide_eq_true h0),(Bool.eq_false_iff.2 h1),(decide_eq_true h2),(Bool.eq_false_iff.2 h3),(decide_eq_true h4),(Bool.eq_false_iff.2 h5),(decide_eq_false h6),trivial⟩ ?_
        all_goals try simp only[Bool.not_eq_true',decide_eq_false_iff_not] at *
        all_goals first|exact isMs_enc _|exact eqB_self _|(simp;done)|omega|(rw[hwl];omega)|exact fitPt' (by omega) (by omega)|exact fitPt (by omega) (by omega)|(rw[List.length_map,hwl];simp;omega)|exact rooms_n (n:=0) (by decide)|(simp;omega)|(rw[enE_bad (by omega),if_neg (by omega)];rfl)|(have h:=en_0 (s:=s) (ms:=[]) (ps:=ps) (i:=i) (d:=d) (r:=r) (m:=m) (by omega) (by omega) (by simp) hp0 hp1 hu;have hE:P.enE [] i d r m=0:=by {rw[enE_in (by omega),if_neg (by omega),if_neg (by simp)]};rw[if_pos hE];exact h)|done
     ·skip
      refine wayE U48_ok (fi:=fi25) (by kernel_rfl) noL [(decide (i≥0),true),
        (!decide (i≤1000000),false),
        (decide (d≥-1000000000000),true),
        (!decide (d≤1000000000000),false),
        (decide (r≥-1000000000),false)] [1,1,1,1,1,1,1,2,2,2,2,3,3,4,4,4,4,3,3,5,5,6,6,6,6,5,5,0,0,0,0,0] (V.int IntKind.i64 6,[bS s,B.cells [V.ptr 0 0,V.sl true [],V.ex 4 false (List.map encP ps)]]) (by kernel_rfl) ⟨(decide_eq_true h0),(Bool.eq_false_iff.2 h1),(decide_eq_true h2),(Bool.eq_false_iff.2 h3),(decide_eq_false h4),trivial⟩ ?_
      all_goals try simp only[Bool.not_eq_true',decide_eq_false_iff_not] at *
      all_goals first|exact isMs_enc _|exact eqB_self _|(simp;done)|omega|(rw[hwl];omega)|exact fitPt' (by omega) (by omega)|exact fitPt (by omega) (by omega)|(rw[List.length_map,hwl];simp;omega)|exact rooms_n (n:=0) (by decide)|(simp;omega)|(rw[enE_bad (by omega),if_neg (by omega)];rfl)|(have h:=en_0 (s:=s) (ms:=[]) (ps:=ps) (i:=i) (d:=d) (r:=r) (m:=m) (by omega) (by omega) (by simp) hp0 hp1 hu;have hE:P.enE [] i d r m=0:=by {rw[enE_in (by omega),if_neg (by omega),if_neg (by simp)]};rw[if_pos hE];exact h)|done
   ·skip
    refine wayE U48_ok (fi:=fi25) (by kernel_rfl) noL [(decide (i≥0),true),
      (!decide (i≤1000000),false),
      (decide (d≥-1000000000000),false)] [1,1,1,1,1,1,1,2,2,2,2,3,3,4,4,4,4,3,3,0,0,0,0,0,0,0,0,0] (V.int IntKind.i64 6,[bS s,B.cells [V.ptr 0 0,V.sl true [],V.ex 4 false (List.map encP ps)]]) (by kernel_rfl) ⟨(decide_eq_true h0),(Bool.eq_false_iff.2 h1),(decide_eq_false h2),trivial⟩ ?_
    all_goals try simp only[Bool.not_eq_true',decide_eq_false_iff_not] at *
    all_goals first|exact isMs_enc _|exact eqB_self _|(simp;done)|omega|(rw[hwl];omega)|exact fitPt' (by omega) (by omega)|exact fitPt (by omega) (by omega)|(rw[List.length_map,hwl];simp;omega)|exact rooms_n (n:=0) (by decide)|(simp;omega)|(rw[enE_bad (by omega),if_neg (by omega)];rfl)|(have h:=en_0 (s:=s) (ms:=[]) (ps:=ps) (i:=i) (d:=d) (r:=r) (m:=m) (by omega) (by omega) (by simp) hp0 hp1 hu;have hE:P.enE [] i d r m=0:=by {rw[enE_in (by omega),if_neg (by omega),if_neg (by simp)]};rw[if_pos hE];exact h)|done
 ·skip
  refine wayE U48_ok (fi:=fi25) (by kernel_rfl) noL [(decide (i≥0),false)] [1,1,1,1,1,1,1,2,2,2,2,0,0,0,0,0,0,0,0,0,0,0,0,0] (V.int IntKind.i64 6,[bS s,B.cells [V.ptr 0 0,V.sl true [],V.ex 4 false (List.map encP ps)]]) (by kernel_rfl) ⟨(decide_eq_false h0),trivial⟩ ?_
  all_goals try simp only[decMs_enc,List.length_map,Bool.not_eq_true',Bool.not_eq_true,Bool.not_eq_false',Bool.not_eq_false,decide_eq_true_eq,decide_eq_false_iff_not] at *
  all_goals first|exact isMs_enc _|exact eqB_self _|(simp;done)|omega|(rw[hwl];omega)|exact fitPt' (by omega) (by omega)|exact fitPt (by omega) (by omega)|(rw[List.length_map,hwl];simp;omega)|exact rooms_n (n:=0) (by decide)|(simp;omega)|(rw[enE_bad (by omega),if_neg (by omega)];rfl)|(have h:=en_0 (s:=s) (ms:=[]) (ps:=ps) (i:=i) (d:=d) (r:=r) (m:=m) (by omega) (by omega) (by simp) hp0 hp1 hu;have hE:P.enE [] i d r m=0:=by {rw[enE_in (by omega),if_neg (by omega),if_neg (by simp)]};rw[if_pos hE];exact h)|done
theorem fd_at {ms:List Mem} {i:Int} (h:¬P.fd ms i 0<0):0≤P.fd ms i 0∧P.fd ms i 0<ms.length:=by
 have:=fd_range ms i 0 (by omega);omega
theorem le_0 {s:Set4} {ms:List Mem} {ps:List Pnt} {i:Int} (hm:ms.length<2 ^ 40) (h:¬P.fd ms i 0<0) :
  (V.int IntKind.i64 0,[bS s,B.cells [V.ptr 0 0,V.ex 6 false (List.take (P.fd ms i 0).toNat (List.map encM ms)++List.drop (IntKind.i64.wrap (P.fd ms i 0+1)).toNat (List.map encM ms)),V.ex 4 false (List.map encP ps)]])=(V.int .i64 (P.leE ms i),[bS s,bD (P.leM ms i) ps]):=by
 have:=fd_at h
 have hE:P.leE ms i=0:=by unfold P.leE;rw[if_neg h]
 rw[show P.leM ms i=ms.eraseIdx (P.fd ms i 0).toNat by unfold P.leM;rw[if_neg h],hE,i64in (by omega) (by omega),List.eraseIdx_eq_take_drop_succ]
 simp only[bD,List.map_append,List.map_take,List.map_drop];rw[show (P.fd ms i 0+1).toNat=(P.fd ms i 0).toNat+1 by omega]
set_option maxHeartbeats 1000000 in
theorem le_runs (s:Set4) (ms:List Mem) (ps:List Pnt) (i:Int) (hm:ms.length<2 ^ 40) (hp0:0<ps.length) (hp1:ps.length<2 ^ 40) :
  Runs T F 22 [.ptr 1 0,.int .i64 i] [bS s,bD ms ps] (.int .i64 (P.leE ms i),[bS s,bD (P.leM ms i) ps]):=by
 have hwl:IntKind.i64.wrap ((ps.length:Int)-1)=ps.length-1:=i64in (by omega) (by omega)
 by_cases h0:P.fd (P.decMs (List.map encM ms)) i 0<0
 ·skip
  refine wayE U48_ok (fi:=fi22) (by kernel_rfl) noL [(eqB (List.map encM ms) (List.map encM (P.decMs (List.map encM ms))),true),
    (decide ((List.map encM ms).length<1099511627776),true),
    (decide (P.fd (P.decMs (List.map encM ms)) i 0<0),true)] [1,1,1,1,1,1,1,0,2,3,4] (V.int IntKind.i64 41,[bS s,B.cells [V.ptr 0 0,V.ex 6 false (List.map encM ms),V.ex 4 false (List.map encP ps)]]) (by kernel_rfl) ⟨?_,?_,(decide_eq_true h0),trivial⟩ ?_
  all_goals try simp only[decMs_enc,List.length_map,decide_eq_true_eq] at *
  all_goals first|exact isMs_enc _|exact eqB_self _|(simp;done)|omega|(rw[hwl];omega)|exact fitPt' (by omega) (by omega)|exact fitPt (by omega) (by omega)|(rw[List.length_map,hwl];simp;omega)|exact rooms_n hm|(simp;omega)|(rw[i64in (n:=P.fd ms i 0+1) (by omega) (by omega)];omega)|(have:=fd_at (ms:=ms) (i:=i) (by omega);rw[i64in (n:=P.fd ms i 0+1) (by omega) (by omega)];omega)|(have:=fd_at (ms:=ms) (i:=i) (by omega);omega)|exact le_0 hm (by omega)|(rw[show P.leE ms i=41 by unfold P.leE;rw[if_pos (by omega)],show P.leM ms i=ms by unfold P.leM;rw[if_pos (by omega)]];rfl)|done
 ·skip
  refine wayE U48_ok (fi:=fi22) (by kernel_rfl) noL [(eqB (List.map encM ms) (List.map encM (P.decMs (List.map encM ms))),true),
    (decide ((List.map encM ms).length<1099511627776),true),
    (decide (P.fd (P.decMs (List.map encM ms)) i 0<0),false),
    (decide (0≤P.fd (P.decMs (List.map encM ms)) i 0),true),
    (decide (P.fd (P.decMs (List.map encM ms)) i 0≤IntKind.i64.wrap (P.fd (P.decMs (List.map encM ms)) i 0+1)),true),
    (decide (IntKind.i64.wrap (P.fd (P.decMs (List.map encM ms)) i 0+1)≤(↑(List.map encM ms).length:Int)),true),
    (decide (0<(List.map encM ms).length),true)] [1,1,1,1,1,1,1,0,2,3,4,5,6,7,8] (V.int IntKind.i64 0,[bS s,B.cells [V.ptr 0 0,V.ex 6 false (List.take (P.fd (P.decMs (List.map encM ms)) i 0).toNat (List.map encM ms)++List.drop (IntKind.i64.wrap (P.fd (P.decMs (List.map encM ms)) i 0+1)).toNat (List.map encM ms)),V.ex 4 false (List.map encP ps)]]) (by kernel_rfl) ⟨?_,?_,(decide_eq_false h0),?_,?_,?_,?_,trivial⟩ ?_
  all_goals try simp only[decMs_enc,List.length_map,decide_eq_true_eq] at *
  all_goals first|exact isMs_enc _|exact eqB_self _|(simp;done)|omega|(rw[hwl];omega)|exact fitPt' (by omega) (by omega)|exact fitPt (by omega) (by omega)|(rw[List.length_map,hwl];simp;omega)|exact rooms_n hm|(simp;omega)|(rw[i64in (n:=P.fd ms i 0+1) (by omega) (by omega)];omega)|(have:=fd_at (ms:=ms) (i:=i) (by omega);rw[i64in (n:=P.fd ms i 0+1) (by omega) (by omega)];omega)|(have:=fd_at (ms:=ms) (i:=i) (by omega);omega)|exact le_0 hm (by omega)|(rw[show P.leE ms i=41 by unfold P.leE;rw[if_pos (by omega)],show P.leM ms i=ms by unfold P.leM;rw[if_pos (by omega)]];rfl)|done
theorem le0_runs (s:Set4) (ps:List Pnt) (i:Int):Runs T F 22 [.ptr 1 0,.int .i64 i] [bS s,bE ps] (.int .i64 41,[bS s,bE ps]):=by
 refine wayE U48_ok (fi:=fi22) (by kernel_rfl) noL [] [1,1,1,1,1,1,1,0,0] (V.int IntKind.i64 41,[bS s,B.cells [V.ptr 0 0,V.sl true [],V.ex 4 false (List.map encP ps)]]) (by kernel_rfl) ?_ rfl
 exact trivial
def Fd.hm (ms:List Mem) (i:Int) (j:Nat):Int:=intOf (fld j ((List.map encM ms).getD (P.fd ms i 0).toNat V.undef))
theorem hm_at {ms:List Mem} {i:Int} (h:¬P.fd ms i 0<0):∃ m,ms[(P.fd ms i 0).toNat]?=some m∧(List.map encM ms).getD (P.fd ms i 0).toNat V.undef=encM m:=by
 have:=fd_at h
 have hl:(P.fd ms i 0).toNat<ms.length:=by omega
 exact⟨ms[(P.fd ms i 0).toNat],List.getElem?_eq_getElem hl,m_at ms _ hl⟩
def okMs (ms:List Mem):Bool:=ms.all fun m=>decide (-1000000000000000000≤m.h∧m.h≤1000000000000000000∧-1000000000000000000≤m.rate∧m.rate≤1000000000000000000)
theorem ho_0 {s:Set4} {ms:List Mem} {ps:List Pnt} {i d:Int} (ho:okMs ms=true) (h:¬P.fd ms i 0<0) (hd:-1000000000000≤d∧d≤1000000000000) :
  (V.tup [.int .i64 (IntKind.i64.wrap (IntKind.i64.wrap (intOf (fld 1 ((List.map encM ms).getD (P.fd ms i 0).toNat V.undef))+intOf (fld 2 ((List.map encM ms).getD (P.fd ms i 0).toNat V.undef)))-d)),.int .i64 0],[bS s,bD ms ps])=(V.tup [.int .i64 (P.hoV ms i d),.int .i64 (P.hoE ms i d)],[bS s,bD ms ps]):=by
 obtain⟨m,h1,h2⟩:=hm_at h;have hE:P.hoE ms i d=0:=by unfold P.hoE;rw[if_neg h,if_pos hd]
 have:=List.all_eq_true.1 ho m (List.mem_of_getElem? h1)
 simp only[decide_eq_true_eq] at this;rw[h2,show P.hoV ms i d=m.h+m.rate-d by unfold P.hoV;rw[if_pos hE,h1],hE]
 simp only[encM,fld,V.cells,List.getD_cons_zero,List.getD_cons_succ,intOf];rw[i64in (n:=m.h+m.rate) (by omega) (by omega),i64in (by omega) (by omega)]
theorem ho_e {s:Set4} {ms:List Mem} {ps:List Pnt} {i d e:Int} (he:P.hoE ms i d=e) (h0:e≠0):(V.tup [.int .i64 0,.int .i64 e],[bS s,bD ms ps])=(V.tup [.int .i64 (P.hoV ms i d),.int .i64 (P.hoE ms i d)],[bS s,bD ms ps]):=by
 rw[show P.hoV ms i d=0 by unfold P.hoV;rw[if_neg (by omega)],he]
theorem fitH {ms:List Mem} {i:Int} (h:¬P.fd ms i 0<0):fitP [.int .i64,.int .i64,.int .i64,.int .i64,.int .i64,TK.slice 3] 0 ((List.map encM ms).getD (P.fd ms i 0).toNat V.undef)=true:=by
 obtain⟨m,h1,h2⟩:=hm_at h;rw[h2];rfl
set_option maxHeartbeats 1000000 in
theorem ho_runs (s:Set4) (ms:List Mem) (ps:List Pnt) (i d:Int) (hm:ms.length<2 ^ 40) (hp0:0<ps.length) (hp1:ps.length<2 ^ 40) (ho:okMs ms=true) :
  Runs T F 27 [.ptr 1 0,.int .i64 i,.int .i64 d] [bS s,bD ms ps] (.tup [.int .i64 (P.hoV ms i d),.int .i64 (P.hoE ms i d)],[bS s,bD ms ps]):=by
 have hwl:IntKind.i64.wrap ((ps.length:Int)-1)=ps.length-1:=i64in (by omega) (by omega)
 by_cases h0:P.fd (P.decMs (List.map encM ms)) i 0<0
 ·skip
  refine wayE U48_ok (fi:=fi27) (by kernel_rfl) noL [(eqB (List.map encM ms) (List.map encM (P.decMs (List.map encM ms))),true),
    (decide ((List.map encM ms).length<1099511627776),true),
    (decide (P.fd (P.decMs (List.map encM ms)) i 0<0),true)] [1,1,1,1,1,1,1,0,2,3,4] (V.tup [.int .i64 0,.int .i64 41],[bS s,B.cells [V.ptr 0 0,V.ex 6 false (List.map encM ms),V.ex 4 false (List.map encP ps)]]) (by kernel_rfl) ⟨?_,?_,(decide_eq_true h0),trivial⟩ ?_
  all_goals try simp only[decMs_enc,List.length_map,decide_eq_true_eq] at *
  all_goals first|exact isMs_enc _|exact eqB_self _|(simp;done)|omega|(rw[hwl];omega)|exact fitPt' (by omega) (by omega)|exact fitPt (by omega) (by omega)|(rw[List.length_map,hwl];simp;omega)|exact rooms_n hm|(simp;omega)|(have:=fd_at (ms:=ms) (i:=i) (by omega);omega)|exact fitH (by omega)|exact ho_0 ho (by omega) (by omega)|exact ho_e (by unfold P.hoE;rw[if_pos (by omega)]) (by omega)|exact ho_e (by unfold P.hoE;rw[if_neg (by omega),if_neg (by omega)]) (by omega)|done
 ·skip
  by_cases h1:d≥-1000000000000
  ·skip
   by_cases h2:(!decide (d≤1000000000000))=true
   ·skip
    refine wayE U48_ok (fi:=fi27) (by kernel_rfl) noL [(eqB (List.map encM ms) (List.map encM (P.decMs (List.map encM ms))),true),
      (decide ((List.map encM ms).length<1099511627776),true),
      (decide (P.fd (P.decMs (List.map encM ms)) i 0<0),false),
      (decide (d≥-1000000000000),true),
      (!decide (d≤1000000000000),true)] [1,1,1,1,1,1,1,0,2,3,4,5,5,5,5,6] (V.tup [.int .i64 0,.int .i64 6],[bS s,B.cells [V.ptr 0 0,V.ex 6 false (List.map encM ms),V.ex 4 false (List.map encP ps)]]) (by kernel_rfl) ⟨?_,?_,(decide_eq_false h0),(decide_eq_true h1),h2,trivial⟩ ?_
    all_goals try simp only[decMs_enc,List.length_map,Bool.not_eq_true',decide_eq_true_eq,decide_eq_false_iff_not] at *
    all_goals first|exact isMs_enc _|exact eqB_self _|(simp;done)|omega|(rw[hwl];omega)|exact fitPt' (by omega) (by omega)|exact fitPt (by omega) (by omega)|(rw[List.length_map,hwl];simp;omega)|exact rooms_n hm|(simp;omega)|(have:=fd_at (ms:=ms) (i:=i) (by omega);omega)|exact fitH (by omega)|exact ho_0 ho (by omega) (by omega)|exact ho_e (by unfold P.hoE;rw[if_pos (by omega)]) (by omega)|exact ho_e (by unfold P.hoE;rw[if_neg (by omega),if_neg (by omega)]) (by omega)|done
   ·skip
    refine wayE U48_ok (fi:=fi27) (by kernel_rfl) noL [(eqB (List.map encM ms) (List.map encM (P.decMs (List.map encM ms))),true),
      (decide ((List.map encM ms).length<1099511627776),true),
      (decide (P.fd (P.decMs (List.map encM ms)) i 0<0),false),
      (decide (d≥-1000000000000),true),
      (!decide (d≤1000000000000),false),
      (decide (0≤P.fd (P.decMs (List.map encM ms)) i 0),true),
      (decide (P.fd (P.decMs (List.map encM ms)) i 0<(↑(List.map encM ms).length:Int)),true),
      (decide ((P.fd (P.decMs (List.map encM ms)) i 0).toNat<(List.map encM ms).length),true),
      (fitP [.int .i64,.int .i64,.int .i64,.int .i64,.int .i64,TK.slice 3] 0 ((List.map encM ms).getD (P.fd (P.decMs (List.map encM ms)) i 0).toNat V.undef),true)] [1,1,1,1,1,1,1,0,2,3,4,5,5,5,5,6,7,8,9,10] (V.tup [.int .i64 (IntKind.i64.wrap (IntKind.i64.wrap (intOf (fld 1 ((List.map encM ms).getD (P.fd (P.decMs (List.map encM ms)) i 0).toNat V.undef))+intOf (fld 2 ((List.map encM ms).getD (P.fd (P.decMs (List.map encM ms)) i 0).toNat V.undef)))-d)),.int .i64 0],[bS s,B.cells [V.ptr 0 0,V.ex 6 false (List.map encM ms),V.ex 4 false (List.map encP ps)]]) (by kernel_rfl) ⟨?_,?_,(decide_eq_false h0),(decide_eq_true h1),(Bool.eq_false_iff.2 h2),?_,?_,?_,?_,trivial⟩ ?_
    all_goals try simp only[decMs_enc,List.length_map,Bool.not_eq_true',decide_eq_true_eq,decide_eq_false_iff_not] at *
    all_goals first|exact isMs_enc _|exact eqB_self _|(simp;done)|omega|(rw[hwl];omega)|exact fitPt' (by omega) (by omega)|exact fitPt (by omega) (by omega)|(rw[List.length_map,hwl];simp;omega)|exact rooms_n hm|(simp;omega)|(have:=fd_at (ms:=ms) (i:=i) (by omega);omega)|exact fitH (by omega)|exact ho_0 ho (by omega) (by omega)|exact ho_e (by unfold P.hoE;rw[if_pos (by omega)]) (by omega)|exact ho_e (by unfold P.hoE;rw[if_neg (by omega),if_neg (by omega)]) (by omega)|done
  ·skip
   refine wayE U48_ok (fi:=fi27) (by kernel_rfl) noL [(eqB (List.map encM ms) (List.map encM (P.decMs (List.map encM ms))),true),
     (decide ((List.map encM ms).length<1099511627776),true),
     (decide (P.fd (P.decMs (List.map encM ms)) i 0<0),false),
     (decide (d≥-1000000000000),false)] [1,1,1,1,1,1,1,0,2,3,4,5,5,5,5,0] (V.tup [.int .i64 0,.int .i64 6],[bS s,B.cells [V.ptr 0 0,V.ex 6 false (List.map encM ms),V.ex 4 false (List.map encP ps)]]) (by kernel_rfl) ⟨?_,?_,(decide_eq_false h0),(decide_eq_false h1),trivial⟩ ?_
   all_goals try simp only[decMs_enc,List.length_map,decide_eq_true_eq] at *
   all_goals first|exact isMs_enc _|exact eqB_self _|(simp;done)|omega|(rw[hwl];omega)|exact fitPt' (by omega) (by omega)|exact fitPt (by omega) (by omega)|(rw[List.length_map,hwl];simp;omega)|exact rooms_n hm|(simp;omega)|(have:=fd_at (ms:=ms) (i:=i) (by omega);omega)|exact fitH (by omega)|exact ho_0 ho (by omega) (by omega)|exact ho_e (by unfold P.hoE;rw[if_pos (by omega)]) (by omega)|exact ho_e (by unfold P.hoE;rw[if_neg (by omega),if_neg (by omega)]) (by omega)|done
theorem ho0_runs (s:Set4) (ps:List Pnt) (i d:Int):Runs T F 27 [.ptr 1 0,.int .i64 i,.int .i64 d] [bS s,bE ps] (.tup [.int .i64 0,.int .i64 41],[bS s,bE ps]):=by
 refine wayE U48_ok (fi:=fi27) (by kernel_rfl) noL [] [1,1,1,1,1,1,1,0,0] (V.tup [.int .i64 0,.int .i64 41],[bS s,B.cells [V.ptr 0 0,V.sl true [],V.ex 4 false (List.map encP ps)]]) (by kernel_rfl) ?_ rfl
 exact trivial
namespace P
def nwE (a b c d u:Int):Int:=if st a b c d=0 then (if -1000000000000≤u∧u≤1000000000000 then 0 else 6) else st a b c d
end P
theorem nw_runs (a b c d u:Int):Runs T F 28 [.agg [.int .i64 a,.int .i64 b,.int .i64 c,.int .i64 d],.int .i64 u] []
  (if P.nwE a b c d u=0 then (.tup [.ptr 1 0,.int .i64 0],[bS ⟨a,b,c,d⟩,bE [⟨0,u,true,[],true,[]⟩]]) else (.tup [.nilp,.int .i64 (P.nwE a b c d u)],[])):=by
 by_cases h0:(P.st a b c d != 0)=true
 ·skip
  refine wayE U48_ok (fi:=fi28) (by kernel_rfl) noL [(P.st a b c d != 0,true)] [2] (V.tup [V.nilp,.int .i64 (P.st a b c d)],[]) (by kernel_rfl) ⟨h0,trivial⟩ ?_
  all_goals try simp only[bne_iff_ne,ne_eq] at *
  all_goals first|(simp;done)|(simp;omega)|(rw[show P.nwE a b c d u=P.st a b c d by unfold P.nwE;rw[if_neg (by assumption)],if_neg (by assumption)];done)|(have hE:P.nwE a b c d u=6:=by {unfold P.nwE;rw[if_pos (by assumption),if_neg (by omega)]};rw[hE,if_neg (by omega)];done)|(have hE:P.nwE a b c d u=0:=by {unfold P.nwE;rw[if_pos (by assumption),if_pos (by omega)]};rw[hE,if_pos rfl];rfl)|done
 ·skip
  by_cases h1:u≥-1000000000000
  ·skip
   by_cases h2:(!decide (u≤1000000000000))=true
   ·skip
    refine wayE U48_ok (fi:=fi28) (by kernel_rfl) noL [(P.st a b c d != 0,false),
      (decide (u≥-1000000000000),true),
      (!decide (u≤1000000000000),true)] [2,3,3,3,3,4] (V.tup [V.nilp,.int .i64 6],[]) (by kernel_rfl) ⟨(Bool.eq_false_iff.2 h0),(decide_eq_true h1),h2,trivial⟩ ?_
    all_goals try simp only[bne_iff_ne,ne_eq,Decidable.not_not,Bool.not_eq_true',decide_eq_false_iff_not] at *
    all_goals first|(simp;done)|(simp;omega)|(rw[show P.nwE a b c d u=P.st a b c d by unfold P.nwE;rw[if_neg (by assumption)],if_neg (by assumption)];done)|(have hE:P.nwE a b c d u=6:=by {unfold P.nwE;rw[if_pos (by assumption),if_neg (by omega)]};rw[hE,if_neg (by omega)];done)|(have hE:P.nwE a b c d u=0:=by {unfold P.nwE;rw[if_pos (by assumption),if_pos (by omega)]};rw[hE,if_pos rfl];rfl)|done
   ·skip
    refine wayE U48_ok (fi:=fi28) (by kernel_rfl) noL [(P.st a b c d != 0,false),
      (decide (u≥-1000000000000),true),
      (!decide (u≤1000000000000),false)] [2,3,3,3,3,4] (V.tup [V.ptr 1 0,.int .i64 0],[B.cells [.int .i64 a,.int .i64 b,.int .i64 c,.int .i64 d],B.cells [V.ptr 0 0,V.sl true [],V.ex 4 false [V.agg [.int .i64 0,.int .i64 u,V.sl true [],V.sl true []]]]]) (by kernel_rfl) ⟨(Bool.eq_false_iff.2 h0),(decide_eq_true h1),(Bool.eq_false_iff.2 h2),trivial⟩ ?_
    all_goals try simp only[bne_iff_ne,ne_eq,Decidable.not_not,Bool.not_eq_true',decide_eq_false_iff_not] at *
    all_goals first|(simp;done)|(simp;omega)|(rw[show P.nwE a b c d u=P.st a b c d by unfold P.nwE;rw[if_neg (by assumption)],if_neg (by assumption)];done)|(have hE:P.nwE a b c d u=6:=by {unfold P.nwE;rw[if_pos (by assumption),if_neg (by omega)]};rw[hE,if_neg (by omega)];done)|(have hE:P.nwE a b c d u=0:=by {unfold P.nwE;rw[if_pos (by assumption),if_pos (by omega)]};rw[hE,if_pos rfl];rfl)|done
  ·skip
   refine wayE U48_ok (fi:=fi28) (by kernel_rfl) noL [(P.st a b c d != 0,false),
     (decide (u≥-1000000000000),false)] [2,3,3,3,3,0] (V.tup [V.nilp,.int .i64 6],[]) (by kernel_rfl) ⟨(Bool.eq_false_iff.2 h0),(decide_eq_false h1),trivial⟩ ?_
   all_goals try simp only[bne_iff_ne,ne_eq,Decidable.not_not] at *
   all_goals first|(simp;done)|(simp;omega)|(rw[show P.nwE a b c d u=P.st a b c d by unfold P.nwE;rw[if_neg (by assumption)],if_neg (by assumption)];done)|(have hE:P.nwE a b c d u=6:=by {unfold P.nwE;rw[if_pos (by assumption),if_neg (by omega)]};rw[hE,if_neg (by omega)];done)|(have hE:P.nwE a b c d u=0:=by {unfold P.nwE;rw[if_pos (by assumption),if_pos (by omega)]};rw[hE,if_pos rfl];rfl)|done
def decS (sc:List V):Set4:=match sc with
 | [a,b,c,d]=>⟨intOf a,intOf b,intOf c,intOf d⟩
 | _=>⟨0,0,0,0⟩
def encS4 (s:Set4):List V:=[.int .i64 s.cap,.int .i64 s.gate,.int .i64 s.wait,.int .i64 s.keep]
noncomputable def isPs (xs:List V):Bool:=eqB xs ((P.decPs xs).map encP)
theorem isPs_enc (ps:List Pnt):isPs (ps.map encP)=true:=by unfold isPs;rw[decPs_enc];exact eqB_self _
theorem isPs_of {xs:List V} (h:isPs xs=true):∃ ps:List Pnt,xs=ps.map encP:=⟨_,of_eqB h⟩
def onP {α:Type} (pc:V) (f:List V→Tr α):Tr α:=match pc with
 | .ex sz z xs=>match Nat.beq sz 4,z with
  | true,false=>f xs
  | _,_=>.fail
 | _=>.fail
theorem onP_run {α:Type} {pc:V} {f:List V→Tr α} {r:α} (h:(onP pc f).run=some r):∃ xs,pc=.ex 4 false xs∧(f xs).run=some r:=by
 unfold onP at h;split at h
 ·rename_i sz z xs
  cases hb:Nat.beq sz 4<;>cases z<;>simp only[hb] at h<;>first | (cases h;done) | skip
  rw[Nat.eq_of_beq_eq_true hb];exact⟨xs,rfl,h⟩
 ·cases h
noncomputable def onSc {α:Type} (H:Heap) (f:Set4→List Mem→List Pnt→Tr α) (g:Set4→List Pnt→Tr α):Tr α :=
 onC H fun sc mc pc=>.must (eqB sc (encS4 (decS sc))) (onP pc fun xs=>.must (isPs xs) (.must (decide (0<xs.length)) (.must (decide (xs.length<2 ^ 40)) (onM mc (fun z ys=>match z with
  | false=>.must (isMs ys) (.must (decide (ys.length<2 ^ 40)) (f (decS sc) (P.decMs ys) (P.decPs xs)))
  | true=>.fail) (g (decS sc) (P.decPs xs))))))
theorem onSc_run {α:Type} {H:Heap} {f:Set4→List Mem→List Pnt→Tr α} {g:Set4→List Pnt→Tr α} {r:α} (h:(onSc H f g).run=some r) :
  (∃ s ms ps,H=[bS s,bD ms ps]∧0<ps.length∧ps.length<2 ^ 40∧ms.length<2 ^ 40∧(f s ms ps).run=some r)∨(∃ s ps,H=[bS s,bE ps]∧0<ps.length∧ps.length<2 ^ 40∧(g s ps).run=some r):=by
 unfold onSc at h;obtain⟨sc,mc,pc,rfl,g0⟩:=onC_run h;clear h;obtain⟨h1,g1⟩:=Tr.must_some g0;clear g0;obtain⟨xs,rfl,g2⟩:=onP_run g1;clear g1;obtain⟨h2,g3⟩:=Tr.must_some g2;obtain⟨h3,g4⟩:=Tr.must_some g3;obtain⟨h4,h⟩:=Tr.must_some g4;clear g2 g3 g4;obtain⟨ps,rfl⟩:=isPs_of h2;have h1:=of_eqB h1;generalize decS sc=s at *;subst h1;simp only[decide_eq_true_eq,List.length_map] at h3 h4;rw[decPs_enc] at h;rcases onM_run h with ⟨z,ys,rfl,h⟩ | ⟨rfl,h⟩
 ·cases z
  ·obtain⟨h5,h⟩:=Tr.must_some h
   obtain⟨h6,h⟩:=Tr.must_some h;obtain⟨ms,rfl⟩:=isMs_of h5;rw[decMs_enc] at h;exact .inl ⟨s,ms,ps,rfl,h3,h4,by simpa using h6,h⟩
  ·cases h
 ·exact .inr ⟨s,ps,rfl,h3,h4,h⟩
def okU (ps:List Pnt):Bool:=decide (-1000000000000000≤(lst ps).u∧(lst ps).u≤1000000000000000)
noncomputable def enterS:List V→Heap→Tr (V×Heap):=fun a H=>match a with
 | [p,.int .i64 i,.int .i64 d,.int .i64 r,.int .i64 m]=>match isPtr 1 p with
  | true=>onSc H (fun s ms ps=>.must (okU ps) (.ret (.int .i64 (P.enE ms i d r m),[bS s,bD (P.enM ms ps i d r m) ps])))
    (fun s ps=>.must (okU ps) (.ask (decide (P.enE [] i d r m=0)) (.ret (.int .i64 (P.enE [] i d r m),[bS s,bD (P.enM [] ps i d r m) ps])) (.ret (.int .i64 (P.enE [] i d r m),[bS s,bE ps]))))
  | false=>.fail
 | _=>.fail
theorem enterS_ok:∀ a H r,(enterS a H).run=some r→Runs T F 25 a H r:=by
 intro a H x h;unfold enterS at h;split at h
 ·rename_i p i d r m
  split at h
  ·rename_i hp
   rw[of_isPtr hp];rcases onSc_run h with ⟨s,ms,ps,rfl,h1,h2,h3,h⟩ | ⟨s,ps,rfl,h1,h2,h⟩
   ·obtain⟨h4,h⟩:=Tr.must_some h
    have hr:=ret_some h;clear h;subst hr;exact en_runs s ms ps i d r m h3 h1 h2 (by simpa [okU] using h4)
   ·obtain⟨h4,h⟩:=Tr.must_some h
    have hq:=en0_runs s ps i d r m h1 h2 (by simpa [okU] using h4)
    by_cases he:P.enE [] i d r m=0
    ·rw[if_pos he] at hq
     rw[decide_eq_true he] at h;have hr:=ret_some h;clear h;subst hr;exact hq
    ·rw[if_neg he] at hq
     rw[decide_eq_false he] at h;have hr:=ret_some h;clear h;subst hr;exact hq
  ·cases h
 ·cases h
noncomputable def leaveS:List V→Heap→Tr (V×Heap):=fun a H=>match a with
 | [p,.int .i64 i]=>match isPtr 1 p with
  | true=>onSc H (fun s ms ps=>.ret (.int .i64 (P.leE ms i),[bS s,bD (P.leM ms i) ps])) (fun _ _=>.ret (.int .i64 41,H))
  | false=>.fail
 | _=>.fail
theorem leaveS_ok:∀ a H r,(leaveS a H).run=some r→Runs T F 22 a H r:=by
 intro a H x h;unfold leaveS at h;split at h
 ·rename_i p i
  split at h
  ·rename_i hp
   rw[of_isPtr hp];rcases onSc_run h with ⟨s,ms,ps,rfl,h1,h2,h3,h⟩ | ⟨s,ps,rfl,h1,h2,h⟩
   ·have hr:=ret_some h;clear h;subst hr
    exact le_runs s ms ps i h3 h1 h2
   ·have hr:=ret_some h;clear h;subst hr
    exact le0_runs s ps i
  ·cases h
 ·cases h
noncomputable def holdS:List V→Heap→Tr (V×Heap):=fun a H=>match a with
 | [p,.int .i64 i,.int .i64 d]=>match isPtr 1 p with
  | true=>onSc H (fun s ms ps=>.must (okMs ms) (.ret (.tup [.int .i64 (P.hoV ms i d),.int .i64 (P.hoE ms i d)],H))) (fun _ _=>.ret (.tup [.int .i64 0,.int .i64 41],H))
  | false=>.fail
 | _=>.fail
theorem holdS_ok:∀ a H r,(holdS a H).run=some r→Runs T F 27 a H r:=by
 intro a H x h;unfold holdS at h;split at h
 ·rename_i p i d
  split at h
  ·rename_i hp
   rw[of_isPtr hp];rcases onSc_run h with ⟨s,ms,ps,rfl,h1,h2,h3,h⟩ | ⟨s,ps,rfl,h1,h2,h⟩
   ·obtain⟨h4,h⟩:=Tr.must_some h
    have hr:=ret_some h;clear h;subst hr;exact ho_runs s ms ps i d h3 h1 h2 h4
   ·have hr:=ret_some h;clear h;subst hr
    exact ho0_runs s ps i d
  ·cases h
 ·cases h
noncomputable def newS:List V→Heap→Tr (V×Heap):=fun a H=>match a,H with
 | [.agg [.int .i64 a,.int .i64 b,.int .i64 c,.int .i64 d],.int .i64 u],[]=>.ask (decide (P.nwE a b c d u=0)) (.ret (.tup [.ptr 1 0,.int .i64 0],[bS ⟨a,b,c,d⟩,bE [⟨0,u,true,[],true,[]⟩]])) (.ret (.tup [.nilp,.int .i64 (P.nwE a b c d u)],[]))
 | _,_=>.fail
theorem newS_ok:∀ a H r,(newS a H).run=some r→Runs T F 28 a H r:=by
 intro a H x h;unfold newS at h;split at h
 ·rename_i a b c d u
  have hq:=nw_runs a b c d u;by_cases he:P.nwE a b c d u=0
  ·rw[if_pos he] at hq
   rw[decide_eq_true he] at h;have hr:=ret_some h;clear h;subst hr;exact hq
  ·rw[if_neg he] at hq
   rw[decide_eq_false he] at h;have hr:=ret_some h;clear h;subst hr;exact hq
 ·cases h
end Go.Proofs.Ytnijkhcmjpfjeaa
