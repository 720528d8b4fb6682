/- The kernel's own runs of the law 'TreeCross' on the abstract machine, the four numbers standing for themselves, their order known: part C: each ends, and its answer is true. No condition. -/
import Derived.Test.YtplcaelchkpndaaCon
import Derived.Test.YtplcaelchkpndaaAmArgs
namespace Go.Proofs.Ytplcaelchkpndaa.treeCrossRun
open Go Go.Am Go.Proofs.Ytplcaelchkpndaa
def Fm2 : Fx := ⟨[(0, 10, 1000), (1, 10, 1000), (2, 1, 9), (3, 1, 9)], [(1, 0, false)]⟩
theorem run_m2_true : RunsArgs Try.prog con.con 1000 30 10 [.sym .i64 Fm2 0, .sym .i64 Fm2 1, .sym .i64 Fm2 2, .sym .i64 Fm2 3, .bool true] 4 = (True ∧ True) := by kernel_rfl
theorem run_m2_false : RunsArgs Try.prog con.con 1000 30 10 [.sym .i64 Fm2 0, .sym .i64 Fm2 1, .sym .i64 Fm2 2, .sym .i64 Fm2 3, .bool false] 4 = (True ∧ True) := by kernel_rfl
def Fm3 : Fx := ⟨[(0, 10, 1000), (1, 10, 1000), (2, 1, 9), (3, 1, 9)], [(0, 1, true), (2, 3, false)]⟩
theorem run_m3_true : RunsArgs Try.prog con.con 1000 30 10 [.sym .i64 Fm3 0, .sym .i64 Fm3 1, .sym .i64 Fm3 2, .sym .i64 Fm3 3, .bool true] 4 = (True ∧ True) := by kernel_rfl
theorem run_m3_false : RunsArgs Try.prog con.con 1000 30 10 [.sym .i64 Fm3 0, .sym .i64 Fm3 1, .sym .i64 Fm3 2, .sym .i64 Fm3 3, .bool false] 4 = (True ∧ True) := by kernel_rfl
def Fm4 : Fx := ⟨[(0, 10, 1000), (1, 10, 1000), (2, 1, 9), (3, 1, 9)], [(0, 1, true), (3, 2, false)]⟩
theorem run_m4_true : RunsArgs Try.prog con.con 1000 30 10 [.sym .i64 Fm4 0, .sym .i64 Fm4 1, .sym .i64 Fm4 2, .sym .i64 Fm4 3, .bool true] 4 = (True ∧ True) := by kernel_rfl
theorem run_m4_false : RunsArgs Try.prog con.con 1000 30 10 [.sym .i64 Fm4 0, .sym .i64 Fm4 1, .sym .i64 Fm4 2, .sym .i64 Fm4 3, .bool false] 4 = (True ∧ True) := by kernel_rfl
end Go.Proofs.Ytplcaelchkpndaa.treeCrossRun
