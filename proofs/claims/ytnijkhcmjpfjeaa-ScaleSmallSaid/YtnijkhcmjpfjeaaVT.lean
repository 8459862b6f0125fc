/- V's tables for this seat: rows of types,of functions,with hints. Written by vgen.py. -/
import Derived.Test.YtnijkhcmjpfjeaaProg
import Derived.Test.YtnijkhcmjpfjeaaW4
namespace Go.Proofs.Ytnijkhcmjpfjeaa
open Go Go.Vm
def T0:Types:=fun t=>match t with
 | 1=>some {kind:=.func,size:=1,bytes:=8,zero:=.nilf,leaves:=[]}
 | 2=>some {kind:=.int .i64,size:=1,bytes:=8,zero:=.int .i64 0,leaves:=[]}
 | 3=>some {kind:=.int .i64,size:=1,bytes:=8,zero:=.int .i64 0,leaves:=[]}
 | 4=>some {kind:=.bool,size:=1,bytes:=1,zero:=.bool false,leaves:=[]}
 | 5=>some {kind:=.int .u8,size:=1,bytes:=1,zero:=.int .u8 0,leaves:=[]}
 | 6=>some {kind:=.int .u8,size:=1,bytes:=1,zero:=.int .u8 0,leaves:=[]}
 | 7=>some {kind:=.struct [(0,2),(1,3),(2,4),(3,6)],size:=4,bytes:=24,zero:=.agg [.int .i64 0,.int .i64 0,.bool false,.int .u8 0],leaves:=[]}
 | 8=>some {kind:=.struct [(0,2),(1,3),(2,4),(3,6)],size:=4,bytes:=24,zero:=.agg [.int .i64 0,.int .i64 0,.bool false,.int .u8 0],leaves:=[]}
 | 9=>some {kind:=.str,size:=1,bytes:=16,zero:=.str ⟨#[]⟩,leaves:=[]}
 | 10=>some {kind:=.str,size:=1,bytes:=16,zero:=.str ⟨#[]⟩,leaves:=[]}
 | 12=>some {kind:=.int .u64,size:=1,bytes:=8,zero:=.int .u64 0,leaves:=[]}
 | 16=>some {kind:=.ptr,size:=1,bytes:=8,zero:=.nilp,leaves:=[]}
 | 17=>some {kind:=.ptr,size:=1,bytes:=8,zero:=.nilp,leaves:=[]}
 | 21=>some {kind:=.int .i32,size:=1,bytes:=4,zero:=.int .i32 0,leaves:=[]}
 | 22=>some {kind:=.slice 3,size:=1,bytes:=24,zero:=.sl true [],leaves:=[]}
 | 23=>some {kind:=.struct [(0,3),(1,3),(2,3),(3,3)],size:=4,bytes:=32,zero:=.agg [.int .i64 0,.int .i64 0,.int .i64 0,.int .i64 0],leaves:=[.int .i64,.int .i64,.int .i64,.int .i64]}
 | 24=>some {kind:=.struct [(0,3),(1,3),(2,3),(3,3)],size:=4,bytes:=32,zero:=.agg [.int .i64 0,.int .i64 0,.int .i64 0,.int .i64 0],leaves:=[.int .i64,.int .i64,.int .i64,.int .i64]}
 | 27=>some {kind:=.int .i64,size:=1,bytes:=8,zero:=.int .i64 0,leaves:=[]}
 | 32=>some {kind:=.struct [(0,3),(1,3),(2,3),(3,3)],size:=4,bytes:=32,zero:=.agg [.int .i64 0,.int .i64 0,.int .i64 0,.int .i64 0],leaves:=[.int .i64,.int .i64,.int .i64,.int .i64]}
 | 35=>some {kind:=.slice 55,size:=1,bytes:=24,zero:=.sl true [],leaves:=[]}
 | 36=>some {kind:=.slice 64,size:=1,bytes:=24,zero:=.sl true [],leaves:=[]}
 | 38=>some {kind:=.ptr,size:=1,bytes:=8,zero:=.nilp,leaves:=[]}
 | 40=>some {kind:=.slice 43,size:=1,bytes:=24,zero:=.sl true [],leaves:=[]}
 | 42=>some {kind:=.struct [(0,3),(1,3)],size:=2,bytes:=16,zero:=.agg [.int .i64 0,.int .i64 0],leaves:=[.int .i64,.int .i64]}
 | 43=>some {kind:=.struct [(0,3),(1,3)],size:=2,bytes:=16,zero:=.agg [.int .i64 0,.int .i64 0],leaves:=[.int .i64,.int .i64]}
 | 44=>some {kind:=.struct [(0,3),(1,3),(2,22),(3,22)],size:=4,bytes:=64,zero:=.agg [.int .i64 0,.int .i64 0,.sl true [],.sl true []],leaves:=[]}
 | 45=>some {kind:=.struct [(0,3),(1,3),(2,22),(3,22)],size:=4,bytes:=64,zero:=.agg [.int .i64 0,.int .i64 0,.sl true [],.sl true []],leaves:=[]}
 | 48=>some {kind:=.slice 52,size:=1,bytes:=24,zero:=.sl true [],leaves:=[]}
 | 51=>some {kind:=.struct [(0,3),(1,3),(2,3),(3,3),(4,3),(5,22)],size:=6,bytes:=64,zero:=.agg [.int .i64 0,.int .i64 0,.int .i64 0,.int .i64 0,.int .i64 0,.sl true []],leaves:=[]}
 | 52=>some {kind:=.struct [(0,3),(1,3),(2,3),(3,3),(4,3),(5,22)],size:=6,bytes:=64,zero:=.agg [.int .i64 0,.int .i64 0,.int .i64 0,.int .i64 0,.int .i64 0,.sl true []],leaves:=[]}
 | 54=>some {kind:=.struct [(0,3),(1,3),(2,3),(3,3),(4,3),(5,36)],size:=6,bytes:=64,zero:=.agg [.int .i64 0,.int .i64 0,.int .i64 0,.int .i64 0,.int .i64 0,.sl true []],leaves:=[]}
 | 55=>some {kind:=.struct [(0,3),(1,3),(2,3),(3,3),(4,3),(5,36)],size:=6,bytes:=64,zero:=.agg [.int .i64 0,.int .i64 0,.int .i64 0,.int .i64 0,.int .i64 0,.sl true []],leaves:=[]}
 | 56=>some {kind:=.slice 45,size:=1,bytes:=24,zero:=.sl true [],leaves:=[]}
 | 64=>some {kind:=.struct [(0,3),(1,3)],size:=2,bytes:=16,zero:=.agg [.int .i64 0,.int .i64 0],leaves:=[.int .i64,.int .i64]}
 | 87=>some {kind:=.slice 22,size:=1,bytes:=24,zero:=.sl true [],leaves:=[]}
 | 88=>some {kind:=.array 4 3,size:=4,bytes:=32,zero:=.agg [.int .i64 0,.int .i64 0,.int .i64 0,.int .i64 0],leaves:=[.int .i64,.int .i64,.int .i64,.int .i64]}
 | 89=>some {kind:=.slice 88,size:=1,bytes:=24,zero:=.sl true [],leaves:=[]}
 | 90=>some {kind:=.ptr,size:=1,bytes:=8,zero:=.nilp,leaves:=[]}
 | 91=>some {kind:=.struct [(0,90),(1,48),(2,56)],size:=3,bytes:=56,zero:=.agg [.nilp,.sl true [],.sl true []],leaves:=[]}
 | 92=>some {kind:=.struct [(0,90),(1,48),(2,56)],size:=3,bytes:=56,zero:=.agg [.nilp,.sl true [],.sl true []],leaves:=[]}
 | 93=>some {kind:=.slice 38,size:=1,bytes:=24,zero:=.sl true [],leaves:=[]}
 | 96=>some {kind:=.func,size:=1,bytes:=8,zero:=.nilf,leaves:=[]}
 | 97=>some {kind:=.slice 4,size:=1,bytes:=24,zero:=.sl true [],leaves:=[]}
 | 98=>some {kind:=.slice 100,size:=1,bytes:=24,zero:=.sl true [],leaves:=[]}
 | 99=>some {kind:=.struct [(0,3),(1,3),(2,3)],size:=3,bytes:=24,zero:=.agg [.int .i64 0,.int .i64 0,.int .i64 0],leaves:=[.int .i64,.int .i64,.int .i64]}
 | 100=>some {kind:=.struct [(0,3),(1,3),(2,3)],size:=3,bytes:=24,zero:=.agg [.int .i64 0,.int .i64 0,.int .i64 0],leaves:=[.int .i64,.int .i64,.int .i64]}
 | 102=>some {kind:=.func,size:=1,bytes:=8,zero:=.nilf,leaves:=[]}
 | 106=>some {kind:=.slice 112,size:=1,bytes:=24,zero:=.sl true [],leaves:=[]}
 | 110=>some {kind:=.map 3 3,size:=1,bytes:=8,zero:=.nilm,leaves:=[]}
 | 111=>some {kind:=.struct [(0,3),(1,3)],size:=2,bytes:=16,zero:=.agg [.int .i64 0,.int .i64 0],leaves:=[.int .i64,.int .i64]}
 | 112=>some {kind:=.struct [(0,3),(1,3)],size:=2,bytes:=16,zero:=.agg [.int .i64 0,.int .i64 0],leaves:=[.int .i64,.int .i64]}
 | 113=>some {kind:=.ptr,size:=1,bytes:=8,zero:=.nilp,leaves:=[]}
 | 131=>some {kind:=.func,size:=1,bytes:=8,zero:=.nilf,leaves:=[]}
 | 132=>some {kind:=.func,size:=1,bytes:=8,zero:=.nilf,leaves:=[]}
 | 136=>some {kind:=.func,size:=1,bytes:=8,zero:=.nilf,leaves:=[]}
 | 140=>some {kind:=.func,size:=1,bytes:=8,zero:=.nilf,leaves:=[]}
 | 144=>some {kind:=.func,size:=1,bytes:=8,zero:=.nilf,leaves:=[]}
 | 145=>some {kind:=.int .u64,size:=1,bytes:=8,zero:=.int .u64 0,leaves:=[]}
 | 149=>some {kind:=.array 0 16,size:=0,bytes:=0,zero:=.agg [],leaves:=[]}
 | 150=>some {kind:=.struct [(0,149)],size:=0,bytes:=0,zero:=.agg [],leaves:=[]}
 | 151=>some {kind:=.struct [(0,149)],size:=0,bytes:=0,zero:=.agg [],leaves:=[]}
 | 152=>some {kind:=.int .u32,size:=1,bytes:=4,zero:=.int .u32 0,leaves:=[]}
 | 153=>some {kind:=.int .u8,size:=1,bytes:=1,zero:=.int .u8 0,leaves:=[]}
 | 154=>some {kind:=.int .u8,size:=1,bytes:=1,zero:=.int .u8 0,leaves:=[]}
 | 155=>some {kind:=.func,size:=1,bytes:=8,zero:=.nilf,leaves:=[]}
 | 156=>some {kind:=.ptr,size:=1,bytes:=8,zero:=.nilp,leaves:=[]}
 | 157=>some {kind:=.int .i32,size:=1,bytes:=4,zero:=.int .i32 0,leaves:=[]}
 | 158=>some {kind:=.int .i32,size:=1,bytes:=4,zero:=.int .i32 0,leaves:=[]}
 | 159=>some {kind:=.struct [(0,12),(1,12),(2,152),(3,153),(4,5),(5,5),(6,154),(7,155),(8,156),(9,157),(10,158)],size:=11,bytes:=48,zero:=.agg [.int .u64 0,.int .u64 0,.int .u32 0,.int .u8 0,.int .u8 0,.int .u8 0,.int .u8 0,.nilf,.nilp,.int .i32 0,.int .i32 0],leaves:=[]}
 | 160=>some {kind:=.struct [(0,12),(1,12),(2,152),(3,153),(4,5),(5,5),(6,154),(7,155),(8,156),(9,157),(10,158)],size:=11,bytes:=48,zero:=.agg [.int .u64 0,.int .u64 0,.int .u32 0,.int .u8 0,.int .u8 0,.int .u8 0,.int .u8 0,.nilf,.nilp,.int .i32 0,.int .i32 0],leaves:=[]}
 | _=>none
def T:Types:=fun t=>if t<162 then T0 t else none
theorem T_ok:TOk Try.prog T:=TOk.of_all 162 (by kernel_rfl) (fun t ht=>if_neg (by omega)) (by kernel_rfl)
def Sh:Nat→List TK:=fun t=>match t with
 | 2=>[.int .i64]
 | 3=>[.int .i64]
 | 4=>[.bool]
 | 5=>[.int .u8]
 | 6=>[.int .u8]
 | 7=>[.int .i64,.int .i64,.bool,.int .u8]
 | 8=>[.int .i64,.int .i64,.bool,.int .u8]
 | 9=>[.str]
 | 10=>[.str]
 | 12=>[.int .u64]
 | 21=>[.int .i32]
 | 22=>[.slice 3]
 | 23=>[.int .i64,.int .i64,.int .i64,.int .i64]
 | 24=>[.int .i64,.int .i64,.int .i64,.int .i64]
 | 27=>[.int .i64]
 | 32=>[.int .i64,.int .i64,.int .i64,.int .i64]
 | 35=>[.slice 55]
 | 36=>[.slice 64]
 | 40=>[.slice 43]
 | 42=>[.int .i64,.int .i64]
 | 43=>[.int .i64,.int .i64]
 | 44=>[.int .i64,.int .i64,.slice 3,.slice 3]
 | 45=>[.int .i64,.int .i64,.slice 3,.slice 3]
 | 48=>[.slice 52]
 | 51=>[.int .i64,.int .i64,.int .i64,.int .i64,.int .i64,.slice 3]
 | 52=>[.int .i64,.int .i64,.int .i64,.int .i64,.int .i64,.slice 3]
 | 54=>[.int .i64,.int .i64,.int .i64,.int .i64,.int .i64,.slice 64]
 | 55=>[.int .i64,.int .i64,.int .i64,.int .i64,.int .i64,.slice 64]
 | 56=>[.slice 45]
 | 64=>[.int .i64,.int .i64]
 | 87=>[.slice 22]
 | 88=>[.int .i64,.int .i64,.int .i64,.int .i64]
 | 89=>[.slice 88]
 | 93=>[.slice 38]
 | 97=>[.slice 4]
 | 98=>[.slice 100]
 | 99=>[.int .i64,.int .i64,.int .i64]
 | 100=>[.int .i64,.int .i64,.int .i64]
 | 106=>[.slice 112]
 | 111=>[.int .i64,.int .i64]
 | 112=>[.int .i64,.int .i64]
 | 145=>[.int .u64]
 | 152=>[.int .u32]
 | 153=>[.int .u8]
 | 154=>[.int .u8]
 | 157=>[.int .i32]
 | 158=>[.int .i32]
 | _=>[]
def cx3:Cx:={mu:=[],keep:=fun r=>match r with | 0=>some [0,1,2,7] | 1=>some [0,1,2,7,16] | 2=>some [8] | 3=>some [0,1,2,7,9] | 4=>some [0,1,2,7,9,10,11] | 5=>some [0,7,9,10,11,12,13] | 6=>some [8] | _=>none,head:=fun r=>match r with  | _=>none,free:=fun r=>match r with | 6=>[(0,1),(4,5),(9,10),(14,16),(15,16)] | _=>[],msz:=fun d=>match d with  | _=>none,self:=3}
noncomputable def fi3:FI:={body:=bodyOf Try.f3,results:=Try.f3.results.toList,cx:=cx3}
def cx8:Cx:={mu:=[20],keep:=fun r=>match r with | 0=>some [] | 1=>some [1] | 2=>some [1,44] | 3=>some [1] | 4=>some [1,2] | 5=>some [1,2,48] | 6=>some [1,2] | 7=>some [1,2,3] | 8=>some [1,2,3,52] | 9=>some [1,2,3] | 10=>some [1,2,3,4] | 11=>some [1,2,3,4,5,6] | 12=>some [1,2,3,5,6,7,8] | 13=>some [1,2,3,91] | 14=>some [0] | 15=>some [9] | 16=>some [106,107,108] | 17=>some [106,107,108,109] | 18=>some [11,106,107,108] | 19=>some [11,106,107,108,112,113,114] | 20=>some [11,106,107,108,112,113,114,115] | 21=>some [11,13,106,107,108,112,113,114] | 22=>some [11,13,106,107,108,112,113,114,118,119,120] | 23=>some [11,13,106,107,108,112,113,114,118,119,120,121] | 24=>some [11,13,15,106,107,108,112,113,114,118,119,120] | 25=>some [11,13,106,107,108,112,113,114,118,119,120,136] | 26=>some [0] | 27=>some [11,13,106,107,108,112,113,114,118,119,120] | 28=>some [11,106,107,108,112,113,114] | 29=>some [106,107,108] | 30=>some [16,17] | 31=>some [16,17,19] | 32=>some [16,159] | 33=>some [0] | 34=>some [16,20] | 35=>some [16,20,21] | 36=>some [16,20,21,161] | 37=>some [16,20,21] | 38=>some [16,20,21,22] | 39=>some [16,20,21,22,167] | 40=>some [16,20,21,22] | 41=>some [16,20,21,178] | 42=>some [0] | 43=>some [16,20,21] | 44=>some [16,20,195,196,197] | 45=>some [16,20,195,196,197,198] | 46=>some [16,20,23,24,195,196,197] | 47=>some [16,20,23,24,25,195,196,197] | 48=>some [16,20,23,24,25,195,196,197,203] | 49=>some [16,20,23,24,25,195,196,197] | 50=>some [16,20,24,25,195,196,197,205] | 51=>some [16,20,24,25,195,196,197] | 52=>some [16,20,195,196,197,217] | 53=>some [0] | 54=>some [16,20,195,196,197] | 55=>some [16,17,26] | 56=>some [16,232] | 57=>some [0] | 58=>some [16,27] | 59=>some [16,27,234] | 60=>some [16,27] | 61=>some [16,27,241] | 62=>some [0] | 63=>some [16,28] | 64=>some [16,28,243] | 65=>some [16,28] | 66=>some [16,28,30] | 67=>some [16,28,257] | 68=>some [0] | 69=>some [16,17] | 70=>some [17,19] | 71=>some [275] | 72=>some [0] | 73=>some [278,279,280] | 74=>some [278,279,280,281] | 75=>some [32,278,279,280] | 76=>some [32,34,278,279,280] | 77=>some [32,34,36,278,279,280] | 78=>some [32,34,36,37,38,278,279,280] | 79=>some [32,34,36,37,38,39,40,278,279,280] | 80=>some [32,34,36,37,38,39,40,41,42,278,279,280] | 81=>some [278,279,280,346] | 82=>some [0] | 83=>some [278,279,280] | 84=>some [0] | _=>none,head:=fun r=>match r with | 2=>some [1] | 5=>some [1,2] | 8=>some [1,2,3] | 17=>some [106,107,108] | 20=>some [11,106,107,108,112,113,114] | 23=>some [11,13,106,107,108,112,113,114,118,119,120] | 36=>some [16,20,21] | 45=>some [16,20,195,196,197] | 59=>some [16,27] | 64=>some [16,28] | 74=>some [278,279,280] | _=>none,free:=fun r=>match r with  | _=>[],msz:=fun d=>match d with | 20=>some 2 | _=>none,self:=8}
noncomputable def fi8:FI:={body:=bodyOf Try.f8,results:=Try.f8.results.toList,cx:=cx8}
def cx9:Cx:={mu:=[],keep:=fun r=>match r with | 0=>some [] | 1=>some [1,2] | 2=>some [1,2,3,4] | 3=>some [1,2,3,4,6] | 4=>some [1,2,3,4,6,7,8] | 5=>some [64] | 6=>some [0] | 7=>some [2,9] | 8=>some [9,85] | 9=>some [0] | 10=>some [2,9,10] | 11=>some [2,4,9,10,11] | 12=>some [2,4,6,10,11,12] | 13=>some [11,12,133] | 14=>some [0] | 15=>some [0] | _=>none,head:=fun r=>match r with  | _=>none,free:=fun r=>match r with  | _=>[],msz:=fun d=>match d with  | _=>none,self:=9}
noncomputable def fi9:FI:={body:=bodyOf Try.f9,results:=Try.f9.results.toList,cx:=cx9}
def cx10:Cx:={mu:=[2,3],keep:=fun r=>match r with | 0=>some [0] | 1=>some [0,3] | 2=>some [2] | _=>none,head:=fun r=>match r with  | _=>none,free:=fun r=>match r with  | _=>[],msz:=fun d=>match d with | 2=>some 1 | 3=>some 1 | _=>none,self:=10}
noncomputable def fi10:FI:={body:=bodyOf Try.f10,results:=Try.f10.results.toList,cx:=cx10}
def cx11:Cx:={mu:=[6,8,18,19],keep:=fun r=>match r with | 0=>some [0,1,2] | 1=>some [0,1,2,26] | 2=>some [6,7] | 3=>some [0,1,2,30] | 4=>some [6,7] | 5=>some [0,1,2,43] | 6=>some [6,7] | 7=>some [0,1,2,8] | 8=>some [0,2,8,9,10] | 9=>some [0,2,8,9,10,54,55,56] | 10=>some [0,2,8,9,10,54,55,56,57] | 11=>some [0,2,8,9,10,12,54,55,56] | 12=>some [0,2,8,9,10,54,55,56] | 13=>some [0,2,8,9,10,54,55,56] | 14=>some [0,2,8,9,10,13] | 15=>some [0,2,8,9,10,64] | 16=>some [0,2,8,9,10,13] | 17=>some [0,2,8,9,10,13,14,15] | 18=>some [0,2,8,9,10,13,14,15,67,68,69] | 19=>some [0,2,8,9,10,13,14,15,67,68,69,70] | 20=>some [0,2,8,9,10,13,14,15,16,17,67,68,69] | 21=>some [0,2,8,9,10,13,14,15,16,17,67,68,69,87] | 22=>some [0,2,8,9,10,13,14,15,17,67,68,69] | 23=>some [0,2,8,9,10,13,14,15,17,67,68,69] | 24=>some [0,2,8,9,10,13,14,15,67,68,69] | 25=>some [0,2,8,9,10,13,14,15,67,68,69] | 26=>some [0,2,8,9,10,18] | 27=>some [0,2,8,9,10,18,19] | 28=>some [0,2,8,9,10,18,19,20] | 29=>some [2,8,9,10,18,19,20,102,103,104] | 30=>some [2,8,9,10,18,19,20,102,103,104,105] | 31=>some [2,8,9,10,18,19,20,21,22,102,103,104] | 32=>some [2,8,9,10,18,19,20,21,22,102,103,104,112] | 33=>some [2,8,9,10,18,19,20,102,103,104] | 34=>some [2,8,9,10,18,19,20,21,23,102,103,104] | 35=>some [2,8,9,10,18,19,20,23,102,103,104] | 36=>some [2,8,9,10,18,19,20,23,102,103,104] | 37=>some [2,8,9,10,18,19,20,102,103,104] | 38=>some [2,8,9,10,18,19,20,102,103,104] | 39=>some [2,18,19,20] | 40=>some [2,18,19,20,145,146,147] | 41=>some [2,18,19,20,145,146,147,148] | 42=>some [2,18,19,20,25,145,146,147] | 43=>some [2,18,19,20,25,145,146,147,158] | 44=>some [2,18,19,20,145,146,147] | 45=>some [2,18,19,20,145,146,147] | 46=>some [2,18,19,20,145,146,147] | 47=>some [6,7] | _=>none,head:=fun r=>match r with | 10=>some [0,2,8,9,10,54,55,56] | 15=>some [0,2,8,9,10,13] | 19=>some [0,2,8,9,10,13,14,15,67,68,69] | 30=>some [2,8,9,10,18,19,20,102,103,104] | 41=>some [2,18,19,20,145,146,147] | _=>none,free:=fun r=>match r with | 34=>[(0,1),(0,2),(1,2),(0,3),(0,4),(1,4),(2,4),(3,4),(0,5),(0,6),(1,6),(2,6),(3,6),(4,6),(5,6),(0,7),(1,7),(2,7),(3,7),(4,7),(5,7),(6,7),(0,8),(1,8),(2,8),(3,8),(4,8),(5,8),(0,9),(1,9),(2,9),(3,9),(4,9),(5,9),(6,9),(7,9),(8,9),(0,10),(1,10),(2,10),(3,10),(4,10),(5,10),(0,12),(1,12),(2,12),(3,12),(4,12),(5,12),(6,12),(7,12),(8,12),(9,12),(10,12),(11,12)] | _=>[],msz:=fun d=>match d with | 6=>some 1 | 8=>some 1 | 18=>some 1 | 19=>some 3 | _=>none,lend:=[(40,0)],self:=11}
noncomputable def fi11:FI:={body:=bodyOf Try.f11,results:=Try.f11.results.toList,cx:=cx11}
def cx12:Cx:={mu:=[6,10,17,20],keep:=fun r=>match r with | 0=>some [0,1,2] | 1=>some [0,1,2,27] | 2=>some [6,7] | 3=>some [0,1,2,8] | 4=>some [0,1,2,8,31] | 5=>some [0,1,2,8] | 6=>some [0,1,2,8,39] | 7=>some [6,7] | 8=>some [0,1,2,47] | 9=>some [6,7] | 10=>some [0,1,2,9] | 11=>some [0,1,2,9,54] | 12=>some [6,7] | 13=>some [0,1,2,9,10] | 14=>some [0,1,2,9,10,11] | 15=>some [0,1,2,9,10,11,59] | 16=>some [0,1,2,9,10,11] | 17=>some [0,1,2,9,10,11,12,13] | 18=>some [0,1,2,9,10,11,12,13,14] | 19=>some [0,1,2,9,10,11,12,13,14,72] | 20=>some [0,1,2,9,10,11,12,13,14] | 21=>some [0,1,2,9,10,11,12,13,14,91] | 22=>some [0,1,2,9,10,11,12,13,14] | 23=>some [0,1,2,9,10,15,16] | 24=>some [0,1,2,9,10,15,16,17] | 25=>some [0,1,2,9,10,15,16,17,18] | 26=>some [0,1,2,9,10,15,16,17,18,19] | 27=>some [0,1,2,9,10,15,16,17,18,19,107] | 28=>some [0,1,2,9,10,15,16,17,18,19] | 29=>some [0,1,2,9,10,15,16,17,18,19] | 30=>some [0,1,2,9,10,15,16,17,18,19,118] | 31=>some [0,1,2,9,10,15,16,17,18,19] | 32=>some [0,1,2,9,10,15,16,17,18,19] | 33=>some [0,1,2,9,10,15,16,17,18,20] | 34=>some [0,1,2,9,10,15,16,17,18,20,140] | 35=>some [0,1,2,9,10,15,16,17,18,20,21,22] | 36=>some [0,1,2,9,10,15,16,17,18,20,21,22,23] | 37=>some [0,1,2,9,10,15,16,17,18,20,21,22,23,143] | 38=>some [0,1,2,9,10,15,16,17,18,20,21,22,23] | 39=>some [0,1,2,9,10,15,16,17,18,20,21,22,23,163] | 40=>some [0,1,2,9,10,15,16,17,18,20,21,22,23,24] | 41=>some [0,1,2,9,10,15,16,17,18,20,21,22,23,24,174] | 42=>some [0,1,2,9,10,15,16,17,18,20,21,23,24] | 43=>some [0,1,2,9,10,15,16,17,18,20,21,22,23] | 44=>some [0,1,2,9,10,15,16,17,18,20,21] | 45=>some [0,1,2,9,10,15,16,17,18,20] | 46=>some [0,1,2,9,10,15,16,17,18,20] | 47=>some [6,7] | _=>none,head:=fun r=>match r with | 4=>some [0,1,2,8] | 15=>some [0,1,2,9,10,11] | 19=>some [0,1,2,9,10,11,12,13,14] | 27=>some [0,1,2,9,10,15,16,17,18,19] | 34=>some [0,1,2,9,10,15,16,17,18,20] | 37=>some [0,1,2,9,10,15,16,17,18,20,21,22,23] | _=>none,free:=fun r=>match r with  | _=>[],msz:=fun d=>match d with | 6=>some 1 | 10=>some 1 | 17=>some 1 | 20=>some 1 | _=>none,self:=12}
noncomputable def fi12:FI:={body:=bodyOf Try.f12,results:=Try.f12.results.toList,cx:=cx12}
def cx13:Cx:={mu:=[],keep:=fun r=>match r with | 0=>some [0,1] | 1=>some [0,1,10] | 2=>some [4] | 3=>some [0,1,5] | 4=>some [0,1,5,14] | 5=>some [0,1,5] | 6=>some [0,1,5,25] | 7=>some [4] | 8=>some [4] | _=>none,head:=fun r=>match r with | 4=>some [0,1,5] | _=>none,free:=fun r=>match r with | 6=>[(0,1),(0,4),(1,4),(2,4),(3,4),(0,5),(1,5),(2,5),(3,5),(4,5),(0,6),(1,6),(2,6),(3,6),(0,7),(1,7),(2,7),(3,7)] | _=>[],msz:=fun d=>match d with  | _=>none,self:=13}
noncomputable def fi13:FI:={body:=bodyOf Try.f13,results:=Try.f13.results.toList,cx:=cx13}
def cx14:Cx:={mu:=[],keep:=fun r=>match r with | 0=>some [1] | 1=>some [24] | 2=>some [2] | 3=>some [2] | _=>none,head:=fun r=>match r with  | _=>none,free:=fun r=>match r with  | _=>[],msz:=fun d=>match d with  | _=>none,self:=14}
noncomputable def fi14:FI:={body:=bodyOf Try.f14,results:=Try.f14.results.toList,cx:=cx14}
def cx15:Cx:={mu:=[],keep:=fun r=>match r with | 0=>some [1] | 1=>some [24] | 2=>some [2] | 3=>some [2] | _=>none,head:=fun r=>match r with  | _=>none,free:=fun r=>match r with  | _=>[],msz:=fun d=>match d with  | _=>none,self:=15}
noncomputable def fi15:FI:={body:=bodyOf Try.f15,results:=Try.f15.results.toList,cx:=cx15}
def cx19:Cx:={mu:=[],keep:=fun r=>match r with | 0=>some [0,1,4] | 1=>some [0,4,6,7] | 2=>some [0,4,6,7,23] | 3=>some [4,5] | 4=>some [0,4,6,8] | 5=>some [0,4,6,8,9] | 6=>some [0,4,8,9,30,31,32] | 7=>some [0,4,8,9,30,31,32,33] | 8=>some [0,4,8,9,11,30,31,32] | 9=>some [0,4,8,9,30,31,32] | 10=>some [0,4,8,9,30,31,32] | 11=>some [0,4,8,9,46,47] | 12=>some [0,4,8,9,46,47,48] | 13=>some [0,4,8,9,12,46,47] | 14=>some [0,4,8,9,12,13,46,47] | 15=>some [0,4,8,9,13,14,15,46,47] | 16=>some [0,4,8,9,13,14,46,47,63] | 17=>some [0,4,8,9,46,47] | 18=>some [0,4,8,9,13,14,46,47] | 19=>some [0,4,8,9,13,14,46,47] | 20=>some [0,4,8,9,13,46,47] | 21=>some [0,4,8,9,46,47] | 22=>some [0,4,8,9,46,47] | 23=>some [4,8] | 24=>some [4,5] | _=>none,head:=fun r=>match r with | 7=>some [0,4,8,9,30,31,32] | 12=>some [0,4,8,9,46,47] | _=>none,free:=fun r=>match r with | 18=>[(0,1),(0,2),(0,3),(0,4),(0,5),(1,5),(2,5),(3,5),(4,5),(0,6),(0,7),(1,7),(2,7),(3,7),(4,7),(5,7),(6,7),(0,8),(1,8),(2,8),(3,8),(4,8),(5,8),(6,8),(0,9)] | 19=>[(0,4),(1,4),(2,4),(3,4),(0,5),(1,5),(2,5),(3,5),(0,6),(1,6),(2,6),(3,6),(4,6),(5,6),(0,7),(1,7),(2,7),(3,7),(0,8),(1,8),(2,8),(3,8),(4,8),(5,8),(6,8),(7,8),(0,9),(1,9),(2,9),(3,9),(4,9),(5,9),(6,9),(7,9),(0,10),(1,10),(2,10),(3,10),(4,10),(5,10),(6,10),(7,10),(0,11),(1,11),(2,11),(3,11),(4,11),(5,11),(6,11),(7,11),(0,12),(1,12),(2,12),(3,12)] | 20=>[(0,1),(0,2),(0,3),(0,4),(0,5),(0,6),(1,6),(2,6),(3,6),(4,6),(5,6),(0,7),(1,7),(2,7),(3,7),(4,7),(5,7),(6,7),(0,8),(1,8),(2,8),(3,8),(4,8),(5,8),(6,8),(0,9),(1,9),(2,9),(3,9),(4,9),(5,9),(0,10),(1,10),(2,10),(3,10),(4,10),(5,10),(0,11),(1,11),(2,11),(3,11),(4,11),(5,11),(0,12),(1,12),(2,12),(3,12),(4,12),(5,12),(0,13)] | 21=>[(0,1),(0,2),(0,3),(0,4),(0,5),(1,5),(2,5),(3,5),(4,5),(0,6),(1,6),(2,6),(3,6),(4,6),(0,7),(1,7),(2,7),(3,7),(4,7),(0,8),(1,8),(2,8),(3,8),(4,8),(0,9),(1,9),(2,9),(3,9),(4,9),(0,10),(1,10),(2,10),(3,10),(4,10),(5,10),(6,10),(7,10),(8,10),(9,10),(0,11),(1,11),(2,11),(3,11),(4,11),(5,11),(6,11),(7,11),(8,11),(9,11),(0,12),(1,12),(2,12),(3,12),(4,12),(5,12),(6,12),(7,12),(8,12),(9,12),(0,13),(1,13),(2,13),(3,13),(4,13),(5,13),(6,13),(7,13),(8,13),(9,13),(0,14),(1,14),(2,14),(3,14),(4,14),(5,14),(6,14),(7,14),(8,14),(9,14),(0,15),(1,15),(2,15),(3,15),(4,15),(5,15),(6,15),(7,15),(8,15),(9,15),(0,16),(1,16),(2,16),(3,16),(4,16),(5,16),(6,16),(7,16),(8,16),(9,16),(0,17),(1,17),(2,17),(3,17),(4,17),(0,18),(1,18),(2,18),(3,18),(4,18),(0,19)] | 23=>[(0,1),(0,2),(0,3),(0,4),(0,5),(1,5),(2,5),(3,5),(4,5),(0,6),(1,6),(2,6),(3,6),(4,6),(0,7)] | _=>[],msz:=fun d=>match d with  | _=>none,self:=19}
noncomputable def fi19:FI:={body:=bodyOf Try.f19,results:=Try.f19.results.toList,cx:=cx19}
def cx20:Cx:={mu:=[2,4],keep:=fun r=>match r with | 0=>some [0] | 1=>some [0,7] | 2=>some [2,3] | 3=>some [4] | 4=>some [4,14,15] | 5=>some [4,14,15,16] | 6=>some [4,5,14,15] | 7=>some [4,14,15] | 8=>some [4,14,15] | 9=>some [2,3] | _=>none,head:=fun r=>match r with | 5=>some [4,14,15] | _=>none,free:=fun r=>match r with  | _=>[],msz:=fun d=>match d with | 2=>some 6 | 4=>some 6 | _=>none,lend:=[(51,0)],self:=20}
noncomputable def fi20:FI:={body:=bodyOf Try.f20,results:=Try.f20.results.toList,cx:=cx20}
def cx21:Cx:={mu:=[2,4],keep:=fun r=>match r with | 0=>some [0] | 1=>some [0,8] | 2=>some [2,3] | 3=>some [0,4] | 4=>some [4,12,13,14] | 5=>some [4,12,13,14,15] | 6=>some [4,6,12,13,14] | 7=>some [4,12,13,14] | 8=>some [4,12,13,14] | 9=>some [2,3] | _=>none,head:=fun r=>match r with | 5=>some [4,12,13,14] | _=>none,free:=fun r=>match r with  | _=>[],msz:=fun d=>match d with | 2=>some 4 | 4=>some 4 | _=>none,self:=21}
noncomputable def fi21:FI:={body:=bodyOf Try.f21,results:=Try.f21.results.toList,cx:=cx21}
def cx22:Cx:={mu:=[],keep:=fun r=>match r with | 0=>some [0,1] | 1=>some [0,1,7] | 2=>some [4] | 3=>some [0,5] | 4=>some [0,5,12] | 5=>some [4] | 6=>some [] | 7=>some [4] | _=>none,head:=fun r=>match r with  | _=>none,free:=fun r=>match r with  | _=>[],msz:=fun d=>match d with  | _=>none,told:=[(53,6)],self:=22}
noncomputable def fi22:FI:={body:=bodyOf Try.f22,results:=Try.f22.results.toList,cx:=cx22}
def cx25:Cx:={mu:=[],keep:=fun r=>match r with | 0=>some [0,1,2,3,4] | 1=>some [0,1,2,3,4,12] | 2=>some [10] | 3=>some [0,1,2,3,4,15] | 4=>some [10] | 5=>some [0,1,2,3,4,34] | 6=>some [10] | 7=>some [0,1,2,3,4,39] | 8=>some [10] | 9=>some [0,1,2,3,4,11] | 10=>some [] | 11=>some [10] | _=>none,head:=fun r=>match r with  | _=>none,free:=fun r=>match r with | 10=>[(0,1),(0,2),(0,3),(0,4),(0,5),(1,5),(2,5),(3,5),(4,5),(0,6),(1,6),(2,6),(3,6),(4,6),(5,6),(0,7),(1,7),(2,7),(3,7),(4,7),(5,7),(6,7),(0,8),(1,8),(2,8),(3,8),(4,8),(5,8),(6,8),(0,9),(1,9),(2,9),(3,9),(4,9),(5,9),(0,10),(1,10),(2,10),(3,10),(4,10),(5,10),(6,10),(7,10),(8,10),(9,10),(0,11),(1,11),(2,11),(3,11),(4,11),(5,11),(6,11),(7,11),(8,11),(9,11),(10,11),(0,12),(1,12),(2,12),(3,12),(4,12),(5,12),(6,12),(7,12),(8,12),(9,12),(10,12),(11,12),(0,13),(1,13),(2,13),(3,13),(4,13),(5,13),(6,13),(7,13),(8,13),(9,13),(10,13),(11,13),(0,14),(1,14),(2,14),(3,14),(4,14),(0,15),(1,15),(2,15),(3,15),(4,15),(0,16)] | _=>[],msz:=fun d=>match d with  | _=>none,glance:=[54],self:=25}
noncomputable def fi25:FI:={body:=bodyOf Try.f25,results:=Try.f25.results.toList,cx:=cx25}
def cx26:Cx:={mu:=[],keep:=fun r=>match r with | 0=>some [0,1,4] | 1=>some [0,4,6,7] | 2=>some [0,4,6,7,15] | 3=>some [4,5] | 4=>some [4,5] | _=>none,head:=fun r=>match r with  | _=>none,free:=fun r=>match r with  | _=>[],msz:=fun d=>match d with  | _=>none,self:=26}
noncomputable def fi26:FI:={body:=bodyOf Try.f26,results:=Try.f26.results.toList,cx:=cx26}
def cx27:Cx:={mu:=[],keep:=fun r=>match r with | 0=>some [0,1,2] | 1=>some [0,1,2,10] | 2=>some [6,7] | 3=>some [0,2,8] | 4=>some [0,2,8,14] | 5=>some [6,7] | 6=>some [0,2,8,17] | 7=>some [6,7] | 8=>some [6,7] | _=>none,head:=fun r=>match r with  | _=>none,free:=fun r=>match r with  | _=>[],msz:=fun d=>match d with  | _=>none,self:=27}
noncomputable def fi27:FI:={body:=bodyOf Try.f27,results:=Try.f27.results.toList,cx:=cx27}
def cx28:Cx:={mu:=[],keep:=fun r=>match r with | 0=>some [1,2] | 1=>some [1,2,6] | 2=>some [1,2,6,10] | 3=>some [4,5] | 4=>some [1,2,14] | 5=>some [4,5] | 6=>some [4,5] | _=>none,head:=fun r=>match r with  | _=>none,free:=fun r=>match r with  | _=>[],msz:=fun d=>match d with  | _=>none,self:=28}
noncomputable def fi28:FI:={body:=bodyOf Try.f28,results:=Try.f28.results.toList,cx:=cx28}
def cx37:Cx:={mu:=[],keep:=fun r=>match r with | 0=>some [0,1] | 1=>some [4] | _=>none,head:=fun r=>match r with  | _=>none,free:=fun r=>match r with  | _=>[],msz:=fun d=>match d with  | _=>none,self:=37}
noncomputable def fi37:FI:={body:=bodyOf Try.f37,results:=Try.f37.results.toList,cx:=cx37}
def cx38:Cx:={mu:=[],keep:=fun r=>match r with | 0=>some [0] | 1=>some [2] | _=>none,head:=fun r=>match r with  | _=>none,free:=fun r=>match r with  | _=>[],msz:=fun d=>match d with  | _=>none,self:=38}
noncomputable def fi38:FI:={body:=bodyOf Try.f38,results:=Try.f38.results.toList,cx:=cx38}
def cx39:Cx:={mu:=[],keep:=fun r=>match r with | 0=>some [0,1,2] | 1=>some [6] | _=>none,head:=fun r=>match r with  | _=>none,free:=fun r=>match r with  | _=>[],msz:=fun d=>match d with  | _=>none,self:=39}
noncomputable def fi39:FI:={body:=bodyOf Try.f39,results:=Try.f39.results.toList,cx:=cx39}
def cx40:Cx:={mu:=[],keep:=fun r=>match r with | 0=>some [] | _=>none,head:=fun r=>match r with  | _=>none,free:=fun r=>match r with  | _=>[],msz:=fun d=>match d with  | _=>none,arr:=true,self:=40}
noncomputable def fi40:FI:={body:=bodyOf Try.f40,results:=Try.f40.results.toList,cx:=cx40}
def cx41:Cx:={mu:=[],keep:=fun r=>match r with | 0=>some [2,3] | 1=>some [4] | _=>none,head:=fun r=>match r with  | _=>none,free:=fun r=>match r with  | _=>[],msz:=fun d=>match d with  | _=>none,self:=41}
noncomputable def fi41:FI:={body:=bodyOf Try.f41,results:=Try.f41.results.toList,cx:=cx41}
def cx42:Cx:={mu:=[],keep:=fun r=>match r with | 0=>some [0,1,2] | 1=>some [6] | _=>none,head:=fun r=>match r with  | _=>none,free:=fun r=>match r with  | _=>[],msz:=fun d=>match d with  | _=>none,self:=42}
noncomputable def fi42:FI:={body:=bodyOf Try.f42,results:=Try.f42.results.toList,cx:=cx42}
def cx43:Cx:={mu:=[],keep:=fun r=>match r with | 0=>some [0,1,2,3] | 1=>some [0,1,3,10,11] | 2=>some [0,1,3,10,11,12] | 3=>some [0,1,3,10,11,12,17] | 4=>some [0,1,3,10,11,12] | 5=>some [0,1,3,10,11,12,23] | 6=>some [0,1,3,10,11,12] | 7=>some [0,1,3,10,11,12] | 8=>some [8,9] | _=>none,head:=fun r=>match r with | 3=>some [0,1,3,10,11,12] | _=>none,free:=fun r=>match r with  | _=>[],msz:=fun d=>match d with  | _=>none,self:=43}
noncomputable def fi43:FI:={body:=bodyOf Try.f43,results:=Try.f43.results.toList,cx:=cx43}
def cx45:Cx:={mu:=[4,11],keep:=fun r=>match r with | 0=>some [0,1] | 1=>some [0,1,18] | 2=>some [4,5] | 3=>some [0,1,24] | 4=>some [4,5] | 5=>some [0,1,6] | 6=>some [0,1,6,26,27,28] | 7=>some [0,1,6,26,27,28,29] | 8=>some [0,1,6,8,26,27,28] | 9=>some [0,1,6,8,10,26,27,28] | 10=>some [0,1,6,8,10,26,27,28,39] | 11=>some [4,5] | 12=>some [0,1,6,8,26,27,28,45] | 13=>some [4,5] | 14=>some [0,1,6,8,26,27,28,47] | 15=>some [4,5] | 16=>some [0,1,6,26,27,28] | 17=>some [0,1,6,26,27,28] | 18=>some [0,6,60] | 19=>some [4,5] | 20=>some [0,6,11] | 21=>some [6,11,64,65,66] | 22=>some [6,11,64,65,66,67] | 23=>some [6,11,12,13,64,65,66] | 24=>some [6,11,12,13,14,15,64,65,66] | 25=>some [6,11,12,14,15,16,64,65,66] | 26=>some [6,11,12,14,15,16,64,65,66,80] | 27=>some [6,11,64,65,66] | 28=>some [6,11,64,65,66,96] | 29=>some [4,5] | 30=>some [6,11,64,65,66] | 31=>some [4,5] | _=>none,head:=fun r=>match r with | 7=>some [0,1,6,26,27,28] | 22=>some [6,11,64,65,66] | _=>none,free:=fun r=>match r with  | _=>[],msz:=fun d=>match d with | 4=>some 2 | 11=>some 2 | _=>none,self:=45}
noncomputable def fi45:FI:={body:=bodyOf Try.f45,results:=Try.f45.results.toList,cx:=cx45}
def cx46:Cx:={mu:=[],keep:=fun r=>match r with | 0=>some [0,1,4] | 1=>some [0,1,4,5] | 2=>some [0,1,4,5,14] | 3=>some [5,6] | 4=>some [] | 5=>some [0,1,4,5,22] | 6=>some [0,4,5] | 7=>some [0,4,5,7] | 8=>some [0,4,5,7] | 9=>some [0,4,5,7,8] | 10=>some [0,4,5,7,8,9] | 11=>some [0,4,5,7,9,55] | 12=>some [0,4,5,7] | 13=>some [0,4,5,7] | 14=>some [0,4,7,66,67,68] | 15=>some [0,4,7,66,67,68,69] | 16=>some [0,4,7,11,66,67,68] | 17=>some [0,4,7,66,67,68] | 18=>some [0,4,7,66,67,68] | 19=>some [4] | _=>none,head:=fun r=>match r with | 3=>some [5] | 8=>some [0,4,5,7] | 15=>some [0,4,7,66,67,68] | _=>none,free:=fun r=>match r with | 11=>[(4,5),(4,6),(5,6),(4,7),(4,8),(4,10),(5,10),(6,10),(7,10),(8,10),(9,10),(4,11),(5,11),(6,11),(7,11),(8,11),(9,11),(4,12),(5,12),(6,12),(7,12),(8,12),(9,12),(4,13),(5,13),(6,13),(7,13),(8,13),(9,13),(4,14),(5,14),(6,14),(7,14),(8,14),(9,14),(4,15),(5,15),(6,15),(7,15),(8,15),(9,15),(4,16),(5,16),(6,16),(7,16),(8,16),(9,16)] | 17=>[(0,2),(1,2),(0,3),(1,3),(0,4),(1,4),(0,5),(1,5),(0,6),(1,6),(2,6),(3,6),(4,6),(5,6),(0,7),(1,7),(2,7),(3,7),(4,7),(5,7),(0,8),(1,8),(0,9),(1,9),(0,10),(1,10),(0,11),(1,11)] | _=>[],msz:=fun d=>match d with  | _=>none,told:=[(69,2)],lend:=[(65,1),(68,0)],glance:=[54],self:=46}
noncomputable def fi46:FI:={body:=bodyOf Try.f46,results:=Try.f46.results.toList,cx:=cx46}
def cx47:Cx:={mu:=[],keep:=fun r=>match r with | 0=>some [1] | 1=>some [2] | _=>none,head:=fun r=>match r with  | _=>none,free:=fun r=>match r with  | _=>[],msz:=fun d=>match d with  | _=>none,self:=47}
noncomputable def fi47:FI:={body:=bodyOf Try.f47,results:=Try.f47.results.toList,cx:=cx47}
def cx48:Cx:={mu:=[2],keep:=fun r=>match r with | 0=>some [0] | 1=>some [0,4] | 2=>some [2] | 3=>some [2] | _=>none,head:=fun r=>match r with  | _=>none,free:=fun r=>match r with  | _=>[],msz:=fun d=>match d with | 2=>some 1 | _=>none,self:=48}
noncomputable def fi48:FI:={body:=bodyOf Try.f48,results:=Try.f48.results.toList,cx:=cx48}
def cx49:Cx:={mu:=[],keep:=fun r=>match r with | 0=>some [1,2] | 1=>some [1,2] | 2=>some [2] | _=>none,head:=fun r=>match r with  | _=>none,free:=fun r=>match r with | 1=>[(0,3),(1,3),(2,3),(0,4),(1,4),(2,4),(5,6)] | _=>[],msz:=fun d=>match d with  | _=>none,self:=49}
noncomputable def fi49:FI:={body:=bodyOf Try.f49,results:=Try.f49.results.toList,cx:=cx49}
def cx50:Cx:={mu:=[],keep:=fun r=>match r with | 0=>some [0] | 1=>some [2] | _=>none,head:=fun r=>match r with  | _=>none,free:=fun r=>match r with  | _=>[],msz:=fun d=>match d with  | _=>none,self:=50}
noncomputable def fi50:FI:={body:=bodyOf Try.f50,results:=Try.f50.results.toList,cx:=cx50}
def cx51:Cx:={mu:=[2],keep:=fun r=>match r with | 0=>some [0] | 1=>some [0,4] | 2=>some [2] | 3=>some [2] | _=>none,head:=fun r=>match r with  | _=>none,free:=fun r=>match r with  | _=>[],msz:=fun d=>match d with | 2=>some 6 | _=>none,self:=51}
noncomputable def fi51:FI:={body:=bodyOf Try.f51,results:=Try.f51.results.toList,cx:=cx51}
def cx52:Cx:={mu:=[],keep:=fun r=>match r with | 0=>some [0,3] | 1=>some [4] | _=>none,head:=fun r=>match r with  | _=>none,free:=fun r=>match r with  | _=>[],msz:=fun d=>match d with  | _=>none,self:=52}
noncomputable def fi52:FI:={body:=bodyOf Try.f52,results:=Try.f52.results.toList,cx:=cx52}
def cx53:Cx:={mu:=[6],keep:=fun r=>match r with | 0=>some [0,1,2] | 1=>some [0,1,2] | 2=>some [0,1,2,16] | 3=>some [6] | 4=>some [0,1,2,7] | 5=>some [0,7] | 6=>some [0] | 7=>some [6] | _=>none,head:=fun r=>match r with  | _=>none,free:=fun r=>match r with | 5=>[(0,1),(0,3),(1,3),(2,3),(0,4),(1,4),(2,4),(3,4),(0,5),(1,5),(2,5)] | _=>[],msz:=fun d=>match d with | 6=>some 6 | _=>none,self:=53}
noncomputable def fi53:FI:={body:=bodyOf Try.f53,results:=Try.f53.results.toList,cx:=cx53}
def cx54:Cx:={mu:=[],keep:=fun r=>match r with | 0=>some [0,2] | 1=>some [2] | _=>none,head:=fun r=>match r with  | _=>none,free:=fun r=>match r with | 1=>[(0,4),(1,4),(2,4),(3,4),(0,5),(1,5),(2,5),(3,5),(0,6),(1,6),(2,6),(3,6),(0,7),(1,7),(2,7),(3,7),(0,8),(1,8),(2,8),(3,8),(0,9),(1,9),(2,9),(3,9)] | _=>[],msz:=fun d=>match d with  | _=>none,self:=54}
noncomputable def fi54:FI:={body:=bodyOf Try.f54,results:=Try.f54.results.toList,cx:=cx54}
def cx61:Cx:={mu:=[],keep:=fun r=>match r with | 0=>some [0,1] | 1=>some [0,1,7,8] | 2=>some [0,1,7,8,9] | 3=>some [0,1,5,7,8] | 4=>some [0,1,5,7,8,16] | 5=>some [4] | 6=>some [0,1,7,8] | 7=>some [4] | _=>none,head:=fun r=>match r with | 2=>some [0,1,7,8] | _=>none,free:=fun r=>match r with  | _=>[],msz:=fun d=>match d with  | _=>none,self:=61}
noncomputable def fi61:FI:={body:=bodyOf Try.f61,results:=Try.f61.results.toList,cx:=cx61}
def cx62:Cx:={mu:=[],keep:=fun r=>match r with | 0=>some [0,1,2,6] | 1=>some [0,1,2,6,7,8] | 2=>some [0,1,2,6,7,8,13] | 3=>some [0,1,2,6,8] | 4=>some [0,1,2,6,7,8] | 5=>some [0,1,2,6,7,8] | 6=>some [0,1,2,6] | 7=>some [0,1,2,6,30] | 8=>some [0,1,2,6,7,8] | 9=>some [0,1,2,6,7,8,35] | 10=>some [0,1,2,6,8] | 11=>some [0,1,2,6,7,8] | 12=>some [0,1,2,6,7,8] | 13=>some [0,1,2,6,7,9] | 14=>some [0,1,2,6,7,9,54] | 15=>some [0,1,2,6] | 16=>some [0,1,2,6] | _=>none,head:=fun r=>match r with | 2=>some [0,1,2,6,7,8] | 7=>some [0,1,2,6] | 9=>some [0,1,2,6,7,8] | _=>none,free:=fun r=>match r with  | _=>[],msz:=fun d=>match d with  | _=>none,arr:=true,self:=62}
noncomputable def fi62:FI:={body:=bodyOf Try.f62,results:=Try.f62.results.toList,cx:=cx62}
def cx63:Cx:={mu:=[],keep:=fun r=>match r with | 0=>some [2,3] | 1=>some [4] | _=>none,head:=fun r=>match r with  | _=>none,free:=fun r=>match r with  | _=>[],msz:=fun d=>match d with  | _=>none,self:=63}
noncomputable def fi63:FI:={body:=bodyOf Try.f63,results:=Try.f63.results.toList,cx:=cx63}
def cx64:Cx:={mu:=[2],keep:=fun r=>match r with | 0=>some [0] | 1=>some [0,4] | 2=>some [2] | 3=>some [2] | _=>none,head:=fun r=>match r with  | _=>none,free:=fun r=>match r with  | _=>[],msz:=fun d=>match d with | 2=>some 2 | _=>none,self:=64}
noncomputable def fi64:FI:={body:=bodyOf Try.f64,results:=Try.f64.results.toList,cx:=cx64}
def cx65:Cx:={mu:=[4,6],keep:=fun r=>match r with | 0=>some [0,1] | 1=>some [0,1,6] | 2=>some [0,1,6,14,15,16] | 3=>some [0,1,6,14,15,16,17] | 4=>some [0,1,6,8,14,15,16] | 5=>some [0,1,6,14,15,16] | 6=>some [0,1,6,14,15,16] | 7=>some [1,6,9,10] | 8=>some [1,6,9,46] | 9=>some [1,9] | 10=>some [1,9,11] | 11=>some [9,11,59,60,61] | 12=>some [9,11,59,60,61,62] | 13=>some [9,11,12,13,59,60,61] | 14=>some [9,11,59,60,61] | 15=>some [9,11,59,60,61] | 16=>some [4,5] | _=>none,head:=fun r=>match r with | 3=>some [0,1,6,14,15,16] | 12=>some [9,11,59,60,61] | _=>none,free:=fun r=>match r with | 5=>[(0,1),(0,2),(0,3),(0,4),(0,5),(1,5),(2,5),(3,5),(4,5),(0,6),(1,6),(2,6),(3,6),(4,6),(0,7),(0,8),(0,9),(0,10)] | 14=>[(0,1),(0,2),(1,2),(0,3),(0,4),(0,5),(1,5),(2,5),(3,5),(4,5),(0,6),(1,6),(2,6),(3,6),(4,6),(0,7)] | _=>[],msz:=fun d=>match d with | 4=>some 1 | 6=>some 1 | _=>none,arr:=true,self:=65}
noncomputable def fi65:FI:={body:=bodyOf Try.f65,results:=Try.f65.results.toList,cx:=cx65}
def cx66:Cx:={mu:=[],keep:=fun r=>match r with | 0=>some [1,2] | 1=>some [3] | _=>none,head:=fun r=>match r with  | _=>none,free:=fun r=>match r with  | _=>[],msz:=fun d=>match d with  | _=>none,self:=66}
noncomputable def fi66:FI:={body:=bodyOf Try.f66,results:=Try.f66.results.toList,cx:=cx66}
def cx67:Cx:={mu:=[],keep:=fun r=>match r with | 0=>some [0,1] | 1=>some [4] | _=>none,head:=fun r=>match r with  | _=>none,free:=fun r=>match r with  | _=>[],msz:=fun d=>match d with  | _=>none,self:=67}
noncomputable def fi67:FI:={body:=bodyOf Try.f67,results:=Try.f67.results.toList,cx:=cx67}
def cx68:Cx:={mu:=[],keep:=fun r=>match r with | 0=>some [0,1] | 1=>some [0,1,5] | 2=>some [0,1,5,8,9,10] | 3=>some [0,1,5,8,9,10,11] | 4=>some [0,1,5,6,7,8,9,10] | 5=>some [0,1,5,6,8,9,10,24] | 6=>some [0,1,5,8,9,10] | 7=>some [0,1,5,8,9,10] | 8=>some [4] | _=>none,head:=fun r=>match r with | 3=>some [0,1,5,8,9,10] | _=>none,free:=fun r=>match r with | 5=>[(0,1),(0,3),(1,3),(2,3),(0,4),(1,4),(2,4),(3,4),(0,5),(1,5),(2,5),(3,5),(4,5),(0,6),(1,6),(2,6),(3,6),(0,7),(1,7),(2,7),(3,7)] | _=>[],msz:=fun d=>match d with  | _=>none,arr:=true,self:=68}
noncomputable def fi68:FI:={body:=bodyOf Try.f68,results:=Try.f68.results.toList,cx:=cx68}
def cx69:Cx:={mu:=[6],keep:=fun r=>match r with | 0=>some [0,1,2] | 1=>some [0,1,2] | 2=>some [0,1,2,16] | 3=>some [6] | 4=>some [0,1,2,7] | 5=>some [0,7] | 6=>some [0] | 7=>some [6] | _=>none,head:=fun r=>match r with  | _=>none,free:=fun r=>match r with | 5=>[(0,1),(0,3),(1,3),(2,3),(0,4),(1,4),(2,4),(3,4),(0,5),(1,5),(2,5)] | _=>[],msz:=fun d=>match d with | 6=>some 2 | _=>none,self:=69}
noncomputable def fi69:FI:={body:=bodyOf Try.f69,results:=Try.f69.results.toList,cx:=cx69}
def cx70:Cx:={mu:=[],keep:=fun r=>match r with | 0=>some [0,1] | 1=>some [0,1,7,8] | 2=>some [0,1,7,8,9] | 3=>some [0,1,5,7,8] | 4=>some [0,1,5,7,8,16] | 5=>some [4] | 6=>some [0,1,7,8] | 7=>some [4] | _=>none,head:=fun r=>match r with | 2=>some [0,1,7,8] | _=>none,free:=fun r=>match r with  | _=>[],msz:=fun d=>match d with  | _=>none,self:=70}
noncomputable def fi70:FI:={body:=bodyOf Try.f70,results:=Try.f70.results.toList,cx:=cx70}
def cx71:Cx:={mu:=[],keep:=fun r=>match r with | 0=>some [1,2] | 1=>some [3] | _=>none,head:=fun r=>match r with  | _=>none,free:=fun r=>match r with  | _=>[],msz:=fun d=>match d with  | _=>none,self:=71}
noncomputable def fi71:FI:={body:=bodyOf Try.f71,results:=Try.f71.results.toList,cx:=cx71}
def cx74:Cx:={mu:=[],keep:=fun r=>match r with | 0=>some [0,1,2,3,8] | 1=>some [0,1,2,3,8,14] | 2=>some [0,1,2,3,8] | 3=>some [0,1,2,3,8,9] | 4=>some [0,1,2,3,8,9,34] | 5=>some [0,1,2,3,8,9] | 6=>some [0,1,2,3,8,9] | _=>none,head:=fun r=>match r with | 1=>some [0,1,2,3,8] | 4=>some [0,1,2,3,8,9] | _=>none,free:=fun r=>match r with | 4=>[(0,1),(4,5),(4,6),(5,6),(4,7),(4,8),(4,9),(5,9),(6,9),(7,9),(8,9),(4,10),(5,10),(6,10),(7,10),(8,10),(9,10),(4,11),(5,11),(6,11),(7,11),(8,11),(9,11),(4,12),(5,12),(6,12),(7,12),(8,12),(4,13),(5,13),(6,13),(7,13),(8,13)] | 6=>[(0,1),(0,2),(1,2),(0,3),(1,3),(2,3),(0,4),(1,4),(2,4),(0,5),(1,5),(2,5),(3,5),(4,5),(0,6),(1,6),(2,6),(3,6),(4,6),(5,6),(0,7),(1,7),(2,7),(3,7),(4,7),(5,7),(0,8),(1,8),(2,8),(3,8),(4,8),(0,9),(1,9),(2,9),(3,9),(4,9),(0,10),(1,10),(2,10),(3,10),(4,10),(5,10),(6,10),(7,10),(8,10),(9,10),(0,11),(1,11),(2,11),(3,11),(4,11),(5,11),(6,11),(7,11),(8,11),(9,11),(10,11),(0,12),(1,12),(2,12),(3,12),(4,12),(5,12),(6,12),(7,12),(8,12),(9,12),(0,13),(1,13),(2,13),(3,13),(4,13),(5,13),(6,13),(7,13),(8,13),(9,13),(2,14),(3,14),(4,14),(2,15),(3,15),(4,15)] | _=>[],msz:=fun d=>match d with  | _=>none,arr:=true,self:=74}
noncomputable def fi74:FI:={body:=bodyOf Try.f74,results:=Try.f74.results.toList,cx:=cx74}
def cx75:Cx:={mu:=[],keep:=fun r=>match r with | 0=>some [0,1,2,3,4,28] | 1=>some [0,1,3,4,10] | 2=>some [0,1,4,10,11] | 3=>some [0,1,4,10,11,33] | 4=>some [0,1,4,10,11,12] | 5=>some [0,1,4,10,11,12,50] | 6=>some [0,1,4,10,11] | 7=>some [0,1,4,10,11] | 8=>some [0,10,13] | 9=>some [0,10,13,58] | 10=>some [0,10,13] | 11=>some [0,10,13] | 12=>some [0,1,2,3,4,80] | 13=>some [0,2,4,14] | 14=>some [0,2,4,14,15] | 15=>some [0,2,4,14,15,85] | 16=>some [0,2,4,14,15,16] | 17=>some [0,2,4,14,15,16,103] | 18=>some [0,2,4,14,15] | 19=>some [0,2,4,14,15] | 20=>some [0,14,17] | 21=>some [0,14,17,110] | 22=>some [0,14,17] | 23=>some [0,14,17] | 24=>some [0,1,2,3,4,18] | 25=>some [0,1,2,3,4,18,19] | 26=>some [0,1,2,3,4,18,19] | 27=>some [0,1,2,3,4,18,19,140] | 28=>some [0,1,2,3,4,18,19,20] | 29=>some [0,1,2,3,4,18,19,20,21] | 30=>some [0,1,2,3,4,18,19,20] | 31=>some [0,1,2,3,4,18,19,20,21] | 32=>some [0,1,2,3,4,18,19,20,21,22] | 33=>some [0,1,2,3,4,18,19,20,21,22,151] | 34=>some [0,1,2,3,4,18,19,20,21,22,23] | 35=>some [0,1,2,3,4,18,19,20,21,22,23,171] | 36=>some [0,1,2,3,4,18,19,20,21,22] | 37=>some [0,1,2,3,4,18,19,20,21,22] | 38=>some [0,1,2,3,4,18,20,24] | 39=>some [0,1,2,3,4,18,20,24,185] | 40=>some [0,1,3,4,18,20,24] | 41=>some [0,1,3,4,18,20,24,199] | 42=>some [0,3,4,18,24] | 43=>some [0,3,4,18,24,213] | 44=>some [] | _=>none,head:=fun r=>match r with | 3=>some [0,1,4,10,11] | 9=>some [0,10,13] | 15=>some [0,2,4,14,15] | 21=>some [0,14,17] | 33=>some [0,1,2,3,4,18,19,20,21,22] | _=>none,free:=fun r=>match r with | 5=>[(0,1),(0,2),(1,2),(0,3),(0,4),(0,5),(1,5),(2,5),(3,5),(4,5),(0,6),(1,6),(2,6),(3,6),(4,6),(5,6),(0,7),(1,7),(2,7),(3,7),(4,7),(0,8),(1,8),(2,8),(3,8),(4,8)] | 11=>[(0,1),(0,2),(1,2),(0,3),(1,3),(2,3),(0,4),(1,4),(2,4),(0,5),(1,5),(2,5),(3,5),(4,5),(0,6),(1,6),(2,6),(3,6),(4,6),(5,6),(0,7),(1,7),(2,7),(3,7),(4,7),(5,7),(0,8),(1,8),(2,8),(3,8),(4,8),(0,9),(1,9),(2,9),(3,9),(4,9),(0,10),(1,10),(2,10),(3,10),(4,10),(5,10),(6,10),(7,10),(8,10),(9,10),(0,11),(1,11),(2,11),(3,11),(4,11),(5,11),(6,11),(7,11),(8,11),(9,11),(10,11),(0,12),(1,12),(2,12),(3,12),(4,12),(5,12),(6,12),(7,12),(8,12),(9,12),(0,13),(1,13),(2,13),(3,13),(4,13),(5,13),(6,13),(7,13),(8,13),(9,13),(2,14),(3,14),(4,14),(2,15),(3,15),(4,15)] | 17=>[(0,1),(0,2),(1,2),(0,3),(0,4),(0,5),(1,5),(2,5),(3,5),(4,5),(0,6),(1,6),(2,6),(3,6),(4,6),(5,6),(0,7),(1,7),(2,7),(3,7),(4,7),(0,8),(1,8),(2,8),(3,8),(4,8)] | 23=>[(0,1),(0,2),(1,2),(0,3),(1,3),(2,3),(0,4),(1,4),(2,4),(0,5),(1,5),(2,5),(3,5),(4,5),(0,6),(1,6),(2,6),(3,6),(4,6),(5,6),(0,7),(1,7),(2,7),(3,7),(4,7),(5,7),(0,8),(1,8),(2,8),(3,8),(4,8),(0,9),(1,9),(2,9),(3,9),(4,9),(0,10),(1,10),(2,10),(3,10),(4,10),(5,10),(6,10),(7,10),(8,10),(9,10),(0,11),(1,11),(2,11),(3,11),(4,11),(5,11),(6,11),(7,11),(8,11),(9,11),(10,11),(0,12),(1,12),(2,12),(3,12),(4,12),(5,12),(6,12),(7,12),(8,12),(9,12),(0,13),(1,13),(2,13),(3,13),(4,13),(5,13),(6,13),(7,13),(8,13),(9,13),(2,14),(3,14),(4,14),(2,15),(3,15),(4,15)] | 35=>[(0,1),(0,2),(1,2),(0,3),(1,3),(2,3),(0,4),(1,4),(0,5),(0,6),(0,7),(1,7),(2,7),(3,7),(4,7),(5,7),(6,7),(0,8),(1,8),(2,8),(3,8),(4,8),(5,8),(6,8),(7,8),(0,9),(1,9),(2,9),(3,9),(4,9),(5,9),(6,9),(0,10),(1,10),(2,10),(3,10),(4,10),(5,10),(6,10)] | _=>[],msz:=fun d=>match d with  | _=>none,self:=75}
noncomputable def fi75:FI:={body:=bodyOf Try.f75,results:=Try.f75.results.toList,cx:=cx75}
def cx76:Cx:={mu:=[],keep:=fun r=>match r with | 0=>some [0,2,6,7,8] | 1=>some [0,2,6,7,8,9] | 2=>some [0,2,5,6,7,8] | 3=>some [0,2,6,7,8,39] | 4=>some [0,2,6,7,8] | _=>none,head:=fun r=>match r with | 1=>some [0,2,6,7,8] | _=>none,free:=fun r=>match r with | 3=>[(0,4),(1,4),(2,4),(3,4),(0,5),(1,5),(2,5),(3,5),(0,9),(1,9),(2,9),(3,9),(4,9),(5,9),(6,9),(7,9),(8,9),(0,10),(1,10),(2,10),(3,10),(4,10),(5,10),(6,10),(7,10),(8,10),(0,11),(1,11),(2,11),(3,11),(4,11),(5,11),(6,11),(7,11),(8,11),(0,12),(1,12),(2,12),(3,12),(4,12),(5,12),(6,12),(7,12),(8,12),(0,13),(1,13),(2,13),(3,13),(4,13),(5,13),(6,13),(7,13),(8,13),(9,13),(10,13),(11,13),(12,13),(0,14),(1,14),(2,14),(3,14),(4,14),(5,14),(6,14),(7,14),(8,14),(9,14),(10,14),(11,14),(12,14),(0,15),(1,15),(2,15),(3,15),(4,15),(5,15),(6,15),(7,15),(8,15),(9,15),(10,15),(11,15),(12,15),(0,16),(1,16),(2,16),(3,16),(4,16),(5,16),(6,16),(7,16),(8,16),(9,16),(10,16),(11,16),(12,16),(0,17),(1,17),(2,17),(3,17),(4,17),(5,17),(6,17),(7,17),(8,17),(9,17),(10,17),(11,17),(12,17),(0,18),(1,18),(2,18),(3,18),(4,18),(5,18),(6,18),(7,18),(8,18),(9,18),(10,18),(11,18),(12,18),(0,19),(1,19),(2,19),(3,19),(4,19),(5,19),(6,19),(7,19),(8,19),(9,19),(10,19),(11,19),(12,19),(0,20),(1,20),(2,20),(3,20),(4,20),(5,20),(6,20),(7,20),(8,20),(23,24)] | _=>[],msz:=fun d=>match d with  | _=>none,glance:=[54],self:=76}
noncomputable def fi76:FI:={body:=bodyOf Try.f76,results:=Try.f76.results.toList,cx:=cx76}
def cx77:Cx:={mu:=[],keep:=fun r=>match r with | 0=>some [1] | 1=>some [1,3] | 2=>some [1,3,8,9,10] | 3=>some [1,3,8,9,10,11] | 4=>some [1,3,5,8,9,10] | 5=>some [1,3,8,9,10] | 6=>some [1,3,8,9,10] | 7=>some [3,6] | 8=>some [3,6,26] | 9=>some [3] | 10=>some [2] | _=>none,head:=fun r=>match r with | 3=>some [1,3,8,9,10] | _=>none,free:=fun r=>match r with  | _=>[],msz:=fun d=>match d with  | _=>none,self:=77}
noncomputable def fi77:FI:={body:=bodyOf Try.f77,results:=Try.f77.results.toList,cx:=cx77}
def cx78:Cx:={mu:=[],keep:=fun r=>match r with | 0=>some [0,1] | 1=>some [0,1,5] | 2=>some [5,12] | 3=>some [5] | 4=>some [4] | _=>none,head:=fun r=>match r with  | _=>none,free:=fun r=>match r with  | _=>[],msz:=fun d=>match d with  | _=>none,self:=78}
noncomputable def fi78:FI:={body:=bodyOf Try.f78,results:=Try.f78.results.toList,cx:=cx78}
def cx79:Cx:={mu:=[],keep:=fun r=>match r with | 0=>some [0,2,3,4,10] | 1=>some [0,2,4,10,11] | 2=>some [0,2,4,10,11,20] | 3=>some [0,2,4,10,11,23] | 4=>some [0,2,4,10,11] | 5=>some [0,2,4,10,11] | 6=>some [0,2,4,10,11] | 7=>some [0,2,4,10,11] | 8=>some [] | _=>none,head:=fun r=>match r with | 2=>some [0,2,4,10,11] | _=>none,free:=fun r=>match r with  | _=>[],msz:=fun d=>match d with  | _=>none,self:=79}
noncomputable def fi79:FI:={body:=bodyOf Try.f79,results:=Try.f79.results.toList,cx:=cx79}
def cx80:Cx:={mu:=[],keep:=fun r=>match r with | 0=>some [0,1,2,3,10] | 1=>some [0,1,2,3,10,13] | 2=>some [0,1,2,3,10] | 3=>some [0,1,2,3,10] | _=>none,head:=fun r=>match r with | 1=>some [0,1,2,3,10] | _=>none,free:=fun r=>match r with | 3=>[(0,1),(0,2),(1,2),(0,3),(0,4),(1,4),(2,4),(3,4),(0,5),(1,5),(2,5),(3,5),(4,5),(0,6),(1,6),(2,6),(3,6),(4,6),(5,6),(0,7),(1,7),(2,7),(3,7),(4,7),(0,8),(1,8),(2,8),(3,8),(4,8),(5,8),(6,8),(7,8),(0,9),(1,9),(2,9),(3,9),(4,9),(5,9),(6,9),(7,9),(8,9),(0,10),(1,10),(2,10),(3,10),(4,10),(5,10),(6,10),(7,10),(8,10),(9,10),(0,11),(1,11),(2,11),(3,11),(4,11),(5,11),(6,11),(7,11),(8,11),(0,12),(1,12),(2,12),(3,12),(4,12),(5,12),(6,12),(7,12),(0,13),(1,13),(2,13),(3,13),(4,13),(5,13),(6,13),(7,13),(0,14),(1,14),(2,14),(3,14),(4,14),(5,14),(6,14),(7,14),(8,14),(9,14),(10,14),(11,14),(12,14),(13,14),(0,15),(1,15),(2,15),(3,15),(4,15),(5,15),(6,15),(7,15),(8,15),(9,15),(10,15),(11,15),(12,15),(13,15),(14,15),(0,16),(1,16),(2,16),(3,16),(4,16),(5,16),(6,16),(7,16),(8,16),(9,16),(10,16),(11,16),(12,16),(13,16),(14,16),(15,16),(0,17),(1,17),(2,17),(3,17),(4,17),(5,17),(6,17),(7,17),(8,17),(9,17),(10,17),(11,17),(12,17),(13,17),(14,17),(0,18),(1,18),(2,18),(3,18),(4,18),(5,18),(6,18),(7,18),(8,18),(9,18),(10,18),(11,18),(12,18),(13,18),(0,19),(1,19),(2,19),(3,19),(4,19),(5,19),(6,19),(7,19),(8,19),(9,19),(10,19),(11,19),(12,19),(13,19),(4,20),(5,20),(6,20),(7,20),(4,21),(5,21),(6,21),(7,21)] | _=>[],msz:=fun d=>match d with  | _=>none,self:=80}
noncomputable def fi80:FI:={body:=bodyOf Try.f80,results:=Try.f80.results.toList,cx:=cx80}
def ren53:Go.Shelf.Ren:=⟨fun n=>if n=45 then 53 else n,fun n=>match n with | 22=>48 | 23=>52 | n=>n,fun n=>n⟩
theorem told53:DelOk Try.prog 53 6:=del_of_rows T_ok ren53 ⟨Try.f53.name,by kernel_rfl,(Try.func53:_=_).trans (congrArg some (by kernel_rfl))⟩ (i3:={kind:=.int .i64,size:=1,bytes:=8,zero:=.int .i64 0,leaves:=[]}) (i4:={kind:=.bool,size:=1,bytes:=1,zero:=.bool false,leaves:=[]}) (i22:={kind:=.slice 52,size:=1,bytes:=24,zero:=.sl true [],leaves:=[]}) (i23:={kind:=.struct [(0,3),(1,3),(2,3),(3,3),(4,3),(5,22)],size:=6,bytes:=64,zero:=.agg [.int .i64 0,.int .i64 0,.int .i64 0,.int .i64 0,.int .i64 0,.sl true []],leaves:=[]}) (by kernel_rfl) (by kernel_rfl) (by kernel_rfl) (by kernel_rfl) (by kernel_rfl) (by kernel_rfl) (by kernel_rfl) (by kernel_rfl) (by kernel_rfl) (by kernel_rfl)
def ren69:Go.Shelf.Ren:=⟨fun n=>if n=45 then 69 else n,fun n=>match n with | 22=>106 | 23=>112 | n=>n,fun n=>n⟩
theorem told69:DelOk Try.prog 69 2:=del_of_rows T_ok ren69 ⟨Try.f69.name,by kernel_rfl,(Try.func69:_=_).trans (congrArg some (by kernel_rfl))⟩ (i3:={kind:=.int .i64,size:=1,bytes:=8,zero:=.int .i64 0,leaves:=[]}) (i4:={kind:=.bool,size:=1,bytes:=1,zero:=.bool false,leaves:=[]}) (i22:={kind:=.slice 112,size:=1,bytes:=24,zero:=.sl true [],leaves:=[]}) (i23:={kind:=.struct [(0,3),(1,3)],size:=2,bytes:=16,zero:=.agg [.int .i64 0,.int .i64 0],leaves:=[.int .i64,.int .i64]}) (by kernel_rfl) (by kernel_rfl) (by kernel_rfl) (by kernel_rfl) (by kernel_rfl) (by kernel_rfl) (by kernel_rfl) (by kernel_rfl) (by kernel_rfl) (by kernel_rfl)
theorem fok3:FnOk Try.prog 3 fi3:=⟨Try.f3,Try.func3,rfl,rfl,by kernel_rfl,by kernel_rfl,CxOk.nil rfl⟩
theorem fok8:FnOk Try.prog 8 fi8:=⟨Try.f8,Try.func8,rfl,rfl,by kernel_rfl,by kernel_rfl,CxOk.nil rfl⟩
theorem fok9:FnOk Try.prog 9 fi9:=⟨Try.f9,Try.func9,rfl,rfl,by kernel_rfl,by kernel_rfl,CxOk.nil rfl⟩
theorem fok10:FnOk Try.prog 10 fi10:=⟨Try.f10,Try.func10,rfl,rfl,by kernel_rfl,by kernel_rfl,CxOk.nil rfl⟩
theorem fok11:FnOk Try.prog 11 fi11:=⟨Try.f11,Try.func11,rfl,rfl,by kernel_rfl,by kernel_rfl,CxOk.nil rfl⟩
theorem fok12:FnOk Try.prog 12 fi12:=⟨Try.f12,Try.func12,rfl,rfl,by kernel_rfl,by kernel_rfl,CxOk.nil rfl⟩
theorem fok13:FnOk Try.prog 13 fi13:=⟨Try.f13,Try.func13,rfl,rfl,by kernel_rfl,by kernel_rfl,CxOk.nil rfl⟩
theorem fok14:FnOk Try.prog 14 fi14:=⟨Try.f14,Try.func14,rfl,rfl,by kernel_rfl,by kernel_rfl,CxOk.nil rfl⟩
theorem fok15:FnOk Try.prog 15 fi15:=⟨Try.f15,Try.func15,rfl,rfl,by kernel_rfl,by kernel_rfl,CxOk.nil rfl⟩
theorem fok19:FnOk Try.prog 19 fi19:=⟨Try.f19,Try.func19,rfl,rfl,by kernel_rfl,by kernel_rfl,CxOk.nil rfl⟩
theorem fok20:FnOk Try.prog 20 fi20:=⟨Try.f20,Try.func20,rfl,rfl,by kernel_rfl,by kernel_rfl,CxOk.nil rfl⟩
theorem fok21:FnOk Try.prog 21 fi21:=⟨Try.f21,Try.func21,rfl,rfl,by kernel_rfl,by kernel_rfl,CxOk.nil rfl⟩
theorem fok22:FnOk Try.prog 22 fi22:=⟨Try.f22,Try.func22,rfl,rfl,by kernel_rfl,by kernel_rfl,List.forall_mem_cons.2 ⟨told53,fun _ h=>nomatch h⟩⟩
theorem fok25:FnOk Try.prog 25 fi25:=⟨Try.f25,Try.func25,rfl,rfl,by kernel_rfl,by kernel_rfl,CxOk.nil rfl⟩
theorem fok26:FnOk Try.prog 26 fi26:=⟨Try.f26,Try.func26,rfl,rfl,by kernel_rfl,by kernel_rfl,CxOk.nil rfl⟩
theorem fok27:FnOk Try.prog 27 fi27:=⟨Try.f27,Try.func27,rfl,rfl,by kernel_rfl,by kernel_rfl,CxOk.nil rfl⟩
theorem fok28:FnOk Try.prog 28 fi28:=⟨Try.f28,Try.func28,rfl,rfl,by kernel_rfl,by kernel_rfl,CxOk.nil rfl⟩
theorem fok37:FnOk Try.prog 37 fi37:=⟨Try.f37,Try.func37,rfl,rfl,by kernel_rfl,by kernel_rfl,CxOk.nil rfl⟩
theorem fok38:FnOk Try.prog 38 fi38:=⟨Try.f38,Try.func38,rfl,rfl,by kernel_rfl,by kernel_rfl,CxOk.nil rfl⟩
theorem fok39:FnOk Try.prog 39 fi39:=⟨Try.f39,Try.func39,rfl,rfl,by kernel_rfl,by kernel_rfl,CxOk.nil rfl⟩
theorem fok40:FnOk Try.prog 40 fi40:=⟨Try.f40,Try.func40,rfl,rfl,by kernel_rfl,by kernel_rfl,CxOk.nil rfl⟩
theorem fok41:FnOk Try.prog 41 fi41:=⟨Try.f41,Try.func41,rfl,rfl,by kernel_rfl,by kernel_rfl,CxOk.nil rfl⟩
theorem fok42:FnOk Try.prog 42 fi42:=⟨Try.f42,Try.func42,rfl,rfl,by kernel_rfl,by kernel_rfl,CxOk.nil rfl⟩
theorem fok43:FnOk Try.prog 43 fi43:=⟨Try.f43,Try.func43,rfl,rfl,by kernel_rfl,by kernel_rfl,CxOk.nil rfl⟩
theorem fok45:FnOk Try.prog 45 fi45:=⟨Try.f45,Try.func45,rfl,rfl,by kernel_rfl,by kernel_rfl,CxOk.nil rfl⟩
theorem fok46:FnOk Try.prog 46 fi46:=⟨Try.f46,Try.func46,rfl,rfl,by kernel_rfl,by kernel_rfl,List.forall_mem_cons.2 ⟨told69,fun _ h=>nomatch h⟩⟩
theorem fok47:FnOk Try.prog 47 fi47:=⟨Try.f47,Try.func47,rfl,rfl,by kernel_rfl,by kernel_rfl,CxOk.nil rfl⟩
theorem fok48:FnOk Try.prog 48 fi48:=⟨Try.f48,Try.func48,rfl,rfl,by kernel_rfl,by kernel_rfl,CxOk.nil rfl⟩
theorem fok49:FnOk Try.prog 49 fi49:=⟨Try.f49,Try.func49,rfl,rfl,by kernel_rfl,by kernel_rfl,CxOk.nil rfl⟩
theorem fok50:FnOk Try.prog 50 fi50:=⟨Try.f50,Try.func50,rfl,rfl,by kernel_rfl,by kernel_rfl,CxOk.nil rfl⟩
theorem fok51:FnOk Try.prog 51 fi51:=⟨Try.f51,Try.func51,rfl,rfl,by kernel_rfl,by kernel_rfl,CxOk.nil rfl⟩
theorem fok52:FnOk Try.prog 52 fi52:=⟨Try.f52,Try.func52,rfl,rfl,by kernel_rfl,by kernel_rfl,CxOk.nil rfl⟩
theorem fok53:FnOk Try.prog 53 fi53:=⟨Try.f53,Try.func53,rfl,rfl,by kernel_rfl,by kernel_rfl,CxOk.nil rfl⟩
theorem fok54:FnOk Try.prog 54 fi54:=⟨Try.f54,Try.func54,rfl,rfl,by kernel_rfl,by kernel_rfl,CxOk.nil rfl⟩
theorem fok61:FnOk Try.prog 61 fi61:=⟨Try.f61,Try.func61,rfl,rfl,by kernel_rfl,by kernel_rfl,CxOk.nil rfl⟩
theorem fok62:FnOk Try.prog 62 fi62:=⟨Try.f62,Try.func62,rfl,rfl,by kernel_rfl,by kernel_rfl,CxOk.nil rfl⟩
theorem fok63:FnOk Try.prog 63 fi63:=⟨Try.f63,Try.func63,rfl,rfl,by kernel_rfl,by kernel_rfl,CxOk.nil rfl⟩
theorem fok64:FnOk Try.prog 64 fi64:=⟨Try.f64,Try.func64,rfl,rfl,by kernel_rfl,by kernel_rfl,CxOk.nil rfl⟩
theorem fok65:FnOk Try.prog 65 fi65:=⟨Try.f65,Try.func65,rfl,rfl,by kernel_rfl,by kernel_rfl,CxOk.nil rfl⟩
theorem fok66:FnOk Try.prog 66 fi66:=⟨Try.f66,Try.func66,rfl,rfl,by kernel_rfl,by kernel_rfl,CxOk.nil rfl⟩
theorem fok67:FnOk Try.prog 67 fi67:=⟨Try.f67,Try.func67,rfl,rfl,by kernel_rfl,by kernel_rfl,CxOk.nil rfl⟩
theorem fok68:FnOk Try.prog 68 fi68:=⟨Try.f68,Try.func68,rfl,rfl,by kernel_rfl,by kernel_rfl,CxOk.nil rfl⟩
theorem fok69:FnOk Try.prog 69 fi69:=⟨Try.f69,Try.func69,rfl,rfl,by kernel_rfl,by kernel_rfl,CxOk.nil rfl⟩
theorem fok70:FnOk Try.prog 70 fi70:=⟨Try.f70,Try.func70,rfl,rfl,by kernel_rfl,by kernel_rfl,CxOk.nil rfl⟩
theorem fok71:FnOk Try.prog 71 fi71:=⟨Try.f71,Try.func71,rfl,rfl,by kernel_rfl,by kernel_rfl,CxOk.nil rfl⟩
theorem fok74:FnOk Try.prog 74 fi74:=⟨Try.f74,Try.func74,rfl,rfl,by kernel_rfl,by kernel_rfl,CxOk.nil rfl⟩
theorem fok75:FnOk Try.prog 75 fi75:=⟨Try.f75,Try.func75,rfl,rfl,by kernel_rfl,by kernel_rfl,CxOk.nil rfl⟩
theorem fok76:FnOk Try.prog 76 fi76:=⟨Try.f76,Try.func76,rfl,rfl,by kernel_rfl,by kernel_rfl,CxOk.nil rfl⟩
theorem fok77:FnOk Try.prog 77 fi77:=⟨Try.f77,Try.func77,rfl,rfl,by kernel_rfl,by kernel_rfl,CxOk.nil rfl⟩
theorem fok78:FnOk Try.prog 78 fi78:=⟨Try.f78,Try.func78,rfl,rfl,by kernel_rfl,by kernel_rfl,CxOk.nil rfl⟩
theorem fok79:FnOk Try.prog 79 fi79:=⟨Try.f79,Try.func79,rfl,rfl,by kernel_rfl,by kernel_rfl,CxOk.nil rfl⟩
theorem fok80:FnOk Try.prog 80 fi80:=⟨Try.f80,Try.func80,rfl,rfl,by kernel_rfl,by kernel_rfl,CxOk.nil rfl⟩
noncomputable def Fl:List (Option FI):=[none,none,none,some fi3,none,none,none,none,some fi8,some fi9,some fi10,some fi11,some fi12,some fi13,some fi14,some fi15,none,none,none,some fi19,some fi20,some fi21,some fi22,none,none,some fi25,some fi26,some fi27,some fi28,none,none,none,none,none,none,none,none,some fi37,some fi38,some fi39,some fi40,some fi41,some fi42,some fi43,none,some fi45,some fi46,some fi47,some fi48,some fi49,some fi50,some fi51,some fi52,some fi53,some fi54,none,none,none,none,none,none,some fi61,some fi62,some fi63,some fi64,some fi65,some fi66,some fi67,some fi68,some fi69,some fi70,some fi71,none,none,some fi74,some fi75,some fi76,some fi77,some fi78,some fi79,some fi80]
noncomputable def F:Fns:=fnsOf Fl
theorem F_ok:FnsOk Try.prog F:=FnsOk.of_list (show FnOks Try.prog 0 Fl from ⟨fun _ h=>(nomatch h),fun _ h=>(nomatch h),fun _ h=>(nomatch h),fun _ h=>Option.some.inj h▸fok3,fun _ h=>(nomatch h),fun _ h=>(nomatch h),fun _ h=>(nomatch h),fun _ h=>(nomatch h),fun _ h=>Option.some.inj h▸fok8,fun _ h=>Option.some.inj h▸fok9,fun _ h=>Option.some.inj h▸fok10,fun _ h=>Option.some.inj h▸fok11,fun _ h=>Option.some.inj h▸fok12,fun _ h=>Option.some.inj h▸fok13,fun _ h=>Option.some.inj h▸fok14,fun _ h=>Option.some.inj h▸fok15,fun _ h=>(nomatch h),fun _ h=>(nomatch h),fun _ h=>(nomatch h),fun _ h=>Option.some.inj h▸fok19,fun _ h=>Option.some.inj h▸fok20,fun _ h=>Option.some.inj h▸fok21,fun _ h=>Option.some.inj h▸fok22,fun _ h=>(nomatch h),fun _ h=>(nomatch h),fun _ h=>Option.some.inj h▸fok25,fun _ h=>Option.some.inj h▸fok26,fun _ h=>Option.some.inj h▸fok27,fun _ h=>Option.some.inj h▸fok28,fun _ h=>(nomatch h),fun _ h=>(nomatch h),fun _ h=>(nomatch h),fun _ h=>(nomatch h),fun _ h=>(nomatch h),fun _ h=>(nomatch h),fun _ h=>(nomatch h),fun _ h=>(nomatch h),fun _ h=>Option.some.inj h▸fok37,fun _ h=>Option.some.inj h▸fok38,fun _ h=>Option.some.inj h▸fok39,fun _ h=>Option.some.inj h▸fok40,fun _ h=>Option.some.inj h▸fok41,fun _ h=>Option.some.inj h▸fok42,fun _ h=>Option.some.inj h▸fok43,fun _ h=>(nomatch h),fun _ h=>Option.some.inj h▸fok45,fun _ h=>Option.some.inj h▸fok46,fun _ h=>Option.some.inj h▸fok47,fun _ h=>Option.some.inj h▸fok48,fun _ h=>Option.some.inj h▸fok49,fun _ h=>Option.some.inj h▸fok50,fun _ h=>Option.some.inj h▸fok51,fun _ h=>Option.some.inj h▸fok52,fun _ h=>Option.some.inj h▸fok53,fun _ h=>Option.some.inj h▸fok54,fun _ h=>(nomatch h),fun _ h=>(nomatch h),fun _ h=>(nomatch h),fun _ h=>(nomatch h),fun _ h=>(nomatch h),fun _ h=>(nomatch h),fun _ h=>Option.some.inj h▸fok61,fun _ h=>Option.some.inj h▸fok62,fun _ h=>Option.some.inj h▸fok63,fun _ h=>Option.some.inj h▸fok64,fun _ h=>Option.some.inj h▸fok65,fun _ h=>Option.some.inj h▸fok66,fun _ h=>Option.some.inj h▸fok67,fun _ h=>Option.some.inj h▸fok68,fun _ h=>Option.some.inj h▸fok69,fun _ h=>Option.some.inj h▸fok70,fun _ h=>Option.some.inj h▸fok71,fun _ h=>(nomatch h),fun _ h=>(nomatch h),fun _ h=>Option.some.inj h▸fok74,fun _ h=>Option.some.inj h▸fok75,fun _ h=>Option.some.inj h▸fok76,fun _ h=>Option.some.inj h▸fok77,fun _ h=>Option.some.inj h▸fok78,fun _ h=>Option.some.inj h▸fok79,fun _ h=>Option.some.inj h▸fok80,trivial⟩) (by kernel_rfl)
end Go.Proofs.Ytnijkhcmjpfjeaa
