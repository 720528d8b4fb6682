/- The kernel's own runs of the law 'TreeCross' on the abstract machine, the four numbers standing for themselves, their order known: part A: each ends, and its answer is true. No condition. -/
import Derived.Test.YtplcaelchkpndaaCon
import Derived.Test.YtplcaelchkpndaaAmArgs
namespace Go.Proofs.Ytplcaelchkpndaa.treeCrossRun
open Go Go.Am Go.Proofs.Ytplcaelchkpndaa
def Fg1 : Fx := ⟨[(0, -9223372036854775808, 9)], []⟩
theorem run_g1_true : RunsArgs Try.prog con.con 1000 30 10 [.sym .i64 Fg1 0, .sym .i64 Fg1 1, .sym .i64 Fg1 2, .sym .i64 Fg1 3, .bool true] 4 = (True ∧ True) := by kernel_rfl
theorem run_g1_false : RunsArgs Try.prog con.con 1000 30 10 [.sym .i64 Fg1 0, .sym .i64 Fg1 1, .sym .i64 Fg1 2, .sym .i64 Fg1 3, .bool false] 4 = (True ∧ True) := by kernel_rfl
def Fg2 : Fx := ⟨[(0, 10, 9223372036854775807), (1, -9223372036854775808, 9)], []⟩
theorem run_g2_true : RunsArgs Try.prog con.con 1000 30 10 [.sym .i64 Fg2 0, .sym .i64 Fg2 1, .sym .i64 Fg2 2, .sym .i64 Fg2 3, .bool true] 4 = (True ∧ True) := by kernel_rfl
theorem run_g2_false : RunsArgs Try.prog con.con 1000 30 10 [.sym .i64 Fg2 0, .sym .i64 Fg2 1, .sym .i64 Fg2 2, .sym .i64 Fg2 3, .bool false] 4 = (True ∧ True) := by kernel_rfl
def Fg3 : Fx := ⟨[(0, 1001, 9223372036854775807), (1, 10, 9223372036854775807)], []⟩
theorem run_g3_true : RunsArgs Try.prog con.con 1000 30 10 [.sym .i64 Fg3 0, .sym .i64 Fg3 1, .sym .i64 Fg3 2, .sym .i64 Fg3 3, .bool true] 4 = (True ∧ True) := by kernel_rfl
theorem run_g3_false : RunsArgs Try.prog con.con 1000 30 10 [.sym .i64 Fg3 0, .sym .i64 Fg3 1, .sym .i64 Fg3 2, .sym .i64 Fg3 3, .bool false] 4 = (True ∧ True) := by kernel_rfl
def Fg4 : Fx := ⟨[(0, 10, 1000), (1, 1001, 9223372036854775807)], []⟩
theorem run_g4_true : RunsArgs Try.prog con.con 1000 30 10 [.sym .i64 Fg4 0, .sym .i64 Fg4 1, .sym .i64 Fg4 2, .sym .i64 Fg4 3, .bool true] 4 = (True ∧ True) := by kernel_rfl
theorem run_g4_false : RunsArgs Try.prog con.con 1000 30 10 [.sym .i64 Fg4 0, .sym .i64 Fg4 1, .sym .i64 Fg4 2, .sym .i64 Fg4 3, .bool false] 4 = (True ∧ True) := by kernel_rfl
def Fg5 : Fx := ⟨[(0, 10, 1000), (1, 10, 1000), (2, -9223372036854775808, 0)], []⟩
theorem run_g5_true : RunsArgs Try.prog con.con 1000 30 10 [.sym .i64 Fg5 0, .sym .i64 Fg5 1, .sym .i64 Fg5 2, .sym .i64 Fg5 3, .bool true] 4 = (True ∧ True) := by kernel_rfl
theorem run_g5_false : RunsArgs Try.prog con.con 1000 30 10 [.sym .i64 Fg5 0, .sym .i64 Fg5 1, .sym .i64 Fg5 2, .sym .i64 Fg5 3, .bool false] 4 = (True ∧ True) := by kernel_rfl
def Fg6 : Fx := ⟨[(0, 10, 1000), (1, 10, 1000), (2, 10, 9223372036854775807)], []⟩
theorem run_g6_true : RunsArgs Try.prog con.con 1000 30 10 [.sym .i64 Fg6 0, .sym .i64 Fg6 1, .sym .i64 Fg6 2, .sym .i64 Fg6 3, .bool true] 4 = (True ∧ True) := by kernel_rfl
theorem run_g6_false : RunsArgs Try.prog con.con 1000 30 10 [.sym .i64 Fg6 0, .sym .i64 Fg6 1, .sym .i64 Fg6 2, .sym .i64 Fg6 3, .bool false] 4 = (True ∧ True) := by kernel_rfl
end Go.Proofs.Ytplcaelchkpndaa.treeCrossRun
