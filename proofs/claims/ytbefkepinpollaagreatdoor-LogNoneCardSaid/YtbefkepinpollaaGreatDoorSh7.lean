/- The Go functions' code as the abstract machine's, over values; each is the code that the machine makes of the program's (theorems s_.._eq). No condition. -/
import Derived.Test.YtbefkepinpollaaGreatDoorAmLoop
import Derived.Test.YtbefkepinpollaaGreatDoorProg
import Derived.KernelRfl
namespace Go.Proofs.YtbefkepinpollaaGreatDoor.sh7
open Go Go.Am Go.Proofs
set_option linter.unusedVariables false
set_option maxRecDepth 100000
abbrev f_gosem_cut_vars : Nat := 231

-- 225 FAILS no body
-- 226 FAILS no body
-- 227 FAILS no body
-- 228 FAILS no body
-- 229 FAILS no body
-- 230 FAILS no body
noncomputable def s_gosem_cut_vars (cf : CallK) (fuel : Nat) (h : Hp) (K : AV → Hp → Prop) : Prop :=
vBuild (List.replicate 32 (.int .u8 0)) [(0, 1, (.int .u8 0)), (1, 1, (.int .u8 1)), (2, 1, (.int .u8 28)), (3, 1, (.int .u8 2)), (4, 1, (.int .u8 29)), (5, 1, (.int .u8 14)), (6, 1, (.int .u8 24)), (7, 1, (.int .u8 3)), (8, 1, (.int .u8 30)), (9, 1, (.int .u8 22)), (10, 1, (.int .u8 20)), (11, 1, (.int .u8 15)), (12, 1, (.int .u8 25)), (13, 1, (.int .u8 17)), (14, 1, (.int .u8 4)), (15, 1, (.int .u8 8)), (16, 1, (.int .u8 31)), (17, 1, (.int .u8 27)), (18, 1, (.int .u8 13)), (19, 1, (.int .u8 23)), (20, 1, (.int .u8 21)), (21, 1, (.int .u8 19)), (22, 1, (.int .u8 16)), (23, 1, (.int .u8 7)), (24, 1, (.int .u8 26)), (25, 1, (.int .u8 12)), (26, 1, (.int .u8 18)), (27, 1, (.int .u8 6)), (28, 1, (.int .u8 11)), (29, 1, (.int .u8 5)), (30, 1, (.int .u8 10)), (31, 1, (.int .u8 9))] h fun t0 h =>
vStore 32 (.gptr 2) t0 h fun _ h =>
vBuild (List.replicate 64 (.int .u8 0)) [(0, 1, (.int .u8 0)), (1, 1, (.int .u8 1)), (2, 1, (.int .u8 56)), (3, 1, (.int .u8 2)), (4, 1, (.int .u8 57)), (5, 1, (.int .u8 49)), (6, 1, (.int .u8 28)), (7, 1, (.int .u8 3)), (8, 1, (.int .u8 61)), (9, 1, (.int .u8 58)), (10, 1, (.int .u8 42)), (11, 1, (.int .u8 50)), (12, 1, (.int .u8 38)), (13, 1, (.int .u8 29)), (14, 1, (.int .u8 17)), (15, 1, (.int .u8 4)), (16, 1, (.int .u8 62)), (17, 1, (.int .u8 47)), (18, 1, (.int .u8 59)), (19, 1, (.int .u8 36)), (20, 1, (.int .u8 45)), (21, 1, (.int .u8 43)), (22, 1, (.int .u8 51)), (23, 1, (.int .u8 22)), (24, 1, (.int .u8 53)), (25, 1, (.int .u8 39)), (26, 1, (.int .u8 33)), (27, 1, (.int .u8 30)), (28, 1, (.int .u8 24)), (29, 1, (.int .u8 18)), (30, 1, (.int .u8 12)), (31, 1, (.int .u8 5)), (32, 1, (.int .u8 63)), (33, 1, (.int .u8 55)), (34, 1, (.int .u8 48)), (35, 1, (.int .u8 27)), (36, 1, (.int .u8 60)), (37, 1, (.int .u8 41)), (38, 1, (.int .u8 37)), (39, 1, (.int .u8 16)), (40, 1, (.int .u8 46)), (41, 1, (.int .u8 35)), (42, 1, (.int .u8 44)), (43, 1, (.int .u8 21)), (44, 1, (.int .u8 52)), (45, 1, (.int .u8 32)), (46, 1, (.int .u8 23)), (47, 1, (.int .u8 11)), (48, 1, (.int .u8 54)), (49, 1, (.int .u8 26)), (50, 1, (.int .u8 40)), (51, 1, (.int .u8 15)), (52, 1, (.int .u8 34)), (53, 1, (.int .u8 20)), (54, 1, (.int .u8 31)), (55, 1, (.int .u8 10)), (56, 1, (.int .u8 25)), (57, 1, (.int .u8 14)), (58, 1, (.int .u8 19)), (59, 1, (.int .u8 9)), (60, 1, (.int .u8 13)), (61, 1, (.int .u8 8)), (62, 1, (.int .u8 7)), (63, 1, (.int .u8 6))] h fun t1 h =>
vStore 64 (.gptr 3) t1 h fun _ h =>
vBuild (List.replicate 20 (.int .u64 0)) [(0, 1, (.int .u64 1)), (1, 1, (.int .u64 10)), (2, 1, (.int .u64 100)), (3, 1, (.int .u64 1000)), (4, 1, (.int .u64 10000)), (5, 1, (.int .u64 100000)), (6, 1, (.int .u64 1000000)), (7, 1, (.int .u64 10000000)), (8, 1, (.int .u64 100000000)), (9, 1, (.int .u64 1000000000)), (10, 1, (.int .u64 10000000000)), (11, 1, (.int .u64 100000000000)), (12, 1, (.int .u64 1000000000000)), (13, 1, (.int .u64 10000000000000)), (14, 1, (.int .u64 100000000000000)), (15, 1, (.int .u64 1000000000000000)), (16, 1, (.int .u64 10000000000000000)), (17, 1, (.int .u64 100000000000000000)), (18, 1, (.int .u64 1000000000000000000)), (19, 1, (.int .u64 10000000000000000000))] h fun t2 h =>
vStore 20 (.gptr 0) t2 h fun _ h =>
K (.tup []) h
theorem s_gosem_cut_vars_eq (cf : CallK) (fuel : Nat) (h : Hp) (K : AV → Hp → Prop) : s_gosem_cut_vars cf fuel h K = deepT (tabOf Tryz.prog) f_gosem_cut_vars cf fuel [] h K :=
  Eq.trans (by kernel_rfl) (rFun (by kernel_rfl) rExact)


end Go.Proofs.YtbefkepinpollaaGreatDoor.sh7
