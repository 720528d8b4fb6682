/- The kernel's own runs of the law 'TreeCross' on the abstract machine, the four numbers standing for themselves, their order known: part B: each ends, and its answer is true. No condition. -/
import Derived.Test.YtplcaelchkpndaaCon
import Derived.Test.YtplcaelchkpndaaAmArgs
namespace Go.Proofs.Ytplcaelchkpndaa.treeCrossRun
open Go Go.Am Go.Proofs.Ytplcaelchkpndaa
def Fg7 : Fx := ⟨[(0, 10, 1000), (1, 10, 1000), (2, 1, 9), (3, -9223372036854775808, 0)], []⟩
theorem run_g7_true : RunsArgs Try.prog con.con 1000 30 10 [.sym .i64 Fg7 0, .sym .i64 Fg7 1, .sym .i64 Fg7 2, .sym .i64 Fg7 3, .bool true] 4 = (True ∧ True) := by kernel_rfl
theorem run_g7_false : RunsArgs Try.prog con.con 1000 30 10 [.sym .i64 Fg7 0, .sym .i64 Fg7 1, .sym .i64 Fg7 2, .sym .i64 Fg7 3, .bool false] 4 = (True ∧ True) := by kernel_rfl
def Fg8 : Fx := ⟨[(0, 10, 1000), (1, 10, 1000), (2, 1, 9), (3, 10, 9223372036854775807)], []⟩
theorem run_g8_true : RunsArgs Try.prog con.con 1000 30 10 [.sym .i64 Fg8 0, .sym .i64 Fg8 1, .sym .i64 Fg8 2, .sym .i64 Fg8 3, .bool true] 4 = (True ∧ True) := by kernel_rfl
theorem run_g8_false : RunsArgs Try.prog con.con 1000 30 10 [.sym .i64 Fg8 0, .sym .i64 Fg8 1, .sym .i64 Fg8 2, .sym .i64 Fg8 3, .bool false] 4 = (True ∧ True) := by kernel_rfl
def Fg9 : Fx := ⟨[(0, 10, 1000), (1, 10, 1000), (2, 1, 9), (3, 1, 9)], [(0, 1, true), (2, 3, true)]⟩
theorem run_g9_true : RunsArgs Try.prog con.con 1000 30 10 [.sym .i64 Fg9 0, .sym .i64 Fg9 1, .sym .i64 Fg9 2, .sym .i64 Fg9 3, .bool true] 4 = (True ∧ True) := by kernel_rfl
theorem run_g9_false : RunsArgs Try.prog con.con 1000 30 10 [.sym .i64 Fg9 0, .sym .i64 Fg9 1, .sym .i64 Fg9 2, .sym .i64 Fg9 3, .bool false] 4 = (True ∧ True) := by kernel_rfl
def Fm1 : Fx := ⟨[(0, 10, 1000), (1, 10, 1000), (2, 1, 9), (3, 1, 9)], [(0, 1, false)]⟩
theorem run_m1_true : RunsArgs Try.prog con.con 1000 30 10 [.sym .i64 Fm1 0, .sym .i64 Fm1 1, .sym .i64 Fm1 2, .sym .i64 Fm1 3, .bool true] 4 = (True ∧ True) := by kernel_rfl
theorem run_m1_false : RunsArgs Try.prog con.con 1000 30 10 [.sym .i64 Fm1 0, .sym .i64 Fm1 1, .sym .i64 Fm1 2, .sym .i64 Fm1 3, .bool false] 4 = (True ∧ True) := by kernel_rfl
end Go.Proofs.Ytplcaelchkpndaa.treeCrossRun
