/- SX: the law ScaleSmall: what is worked out. -/
import Derived.Test.YtnijkhcmjpfjeaaSW
namespace Go.Proofs.Ytnijkhcmjpfjeaa
open Go Go.Vm
def w6S (k:Int):St:=⟨[(16,.ptr 1 0),(20,.ex 2 true []),(21,.int .i64 k)],[bS s8,bE [p8]]⟩
theorem w6_loop:LRuns (vstep T (vlim T F) lplim fi8.cx 2 (lb fi8 6)) (w6S 0) w6E:=LRuns.eval 40 20 (by kernel_rfl)
theorem w7_loop:LRuns (vstep T (vlim T F) lplim fi8.cx 2 (lb fi8 7)) (w7S 0) w7E:=LRuns.eval 40 20 (by kernel_rfl)
theorem m17_eq:P.M17=P.m0::[⟨60000,2000937499992,999933510,940,0,false,[62500006]⟩,⟨120000,2000937499991,999928976,880,0,false,[62500005]⟩,⟨180000,2000937499990,999923778,820,0,false,[62500004]⟩,⟨240000,2000937499989,999917760,760,0,false,[62500003]⟩,⟨300000,2000937499988,999910710,700,0,false,[62500002]⟩,⟨360000,2000937499987,999902338,640,0,false,[62500001]⟩,⟨420000,2000937499986,999892235,580,0,false,[62500000]⟩,⟨480000,2000937499985,999879800,520,0,false,[62499999]⟩,⟨540000,2000937499984,999864122,460,0,false,[62499998]⟩,⟨600000,2000937499983,999843741,400,0,false,[62499997]⟩,⟨660000,2000937499982,999816166,340,0,false,[62499996]⟩,⟨720000,2000937499981,999776774,280,0,false,[62499995]⟩,⟨780000,2000937499980,999715897,220,0,false,[62499994]⟩,⟨840000,2000937499979,999609362,160,0,false,[62499993]⟩,⟨900000,2000937499978,999374986,100,0,false,[62499992]⟩]:=by kernel_rfl
theorem w8_loop:LRuns (vstep T (vlim T F) lplim fi8.cx 3 (lb fi8 8)) (w8S P.M17 1) w8E:=by
 rw[m17_eq];exact LRuns.eval 40 20 (by kernel_rfl)
end Go.Proofs.Ytnijkhcmjpfjeaa
