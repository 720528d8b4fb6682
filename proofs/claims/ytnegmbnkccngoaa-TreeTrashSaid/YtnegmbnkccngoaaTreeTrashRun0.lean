/- The kernel's own runs of the law 'TreeTrash' on the abstract machine, by the functions' shallow code, part 0: each ends, and its answer is true. No condition. -/
import Derived.Test.YtnegmbnkccngoaaOv
import Derived.Test.YtnegmbnkccngoaaAmC
import Derived.KernelRfl
namespace Go.Proofs.Ytnegmbnkccngoaa.treeTrashRun
open Go Go.Am Go.Proofs Go.Proofs.Ytnegmbnkccngoaa
set_option maxRecDepth 1000000
set_option maxHeartbeats 4000000
def F0lo : Fx := ⟨[(0, -9223372036854775808, 0)], []⟩
theorem run_F0lo_t : TabArgs Try.prog (tabF ov.rows) 1000 40 4 [.sym .i64 F0lo 0, .bool true] 1 = True := by kernel_rfl
theorem run_F0lo_f : TabArgs Try.prog (tabF ov.rows) 1000 40 4 [.sym .i64 F0lo 0, .bool false] 1 = True := by kernel_rfl
def F0hi : Fx := ⟨[(0, 21, 9223372036854775807)], []⟩
theorem run_F0hi_t : TabArgs Try.prog (tabF ov.rows) 1000 40 4 [.sym .i64 F0hi 0, .bool true] 1 = True := by kernel_rfl
theorem run_F0hi_f : TabArgs Try.prog (tabF ov.rows) 1000 40 4 [.sym .i64 F0hi 0, .bool false] 1 = True := by kernel_rfl
theorem run_1_t : callT (tabF ov.rows) (tabOf Try.prog) 1000 40 4 [.int .i64 (1), .bool true] ⟨E1.lf, 0⟩ (fun v _ => Go.Am.asBool v fun b => Go.Am.gd b True) = True := by kernel_rfl
theorem run_3_t : callT (tabF ov.rows) (tabOf Try.prog) 1000 40 4 [.int .i64 (3), .bool true] ⟨E1.lf, 0⟩ (fun v _ => Go.Am.asBool v fun b => Go.Am.gd b True) = True := by kernel_rfl
theorem run_5_t : callT (tabF ov.rows) (tabOf Try.prog) 1000 40 4 [.int .i64 (5), .bool true] ⟨E1.lf, 0⟩ (fun v _ => Go.Am.asBool v fun b => Go.Am.gd b True) = True := by kernel_rfl
theorem run_7_t : callT (tabF ov.rows) (tabOf Try.prog) 1000 40 4 [.int .i64 (7), .bool true] ⟨E1.lf, 0⟩ (fun v _ => Go.Am.asBool v fun b => Go.Am.gd b True) = True := by kernel_rfl
theorem run_9_t : callT (tabF ov.rows) (tabOf Try.prog) 1000 40 4 [.int .i64 (9), .bool true] ⟨E1.lf, 0⟩ (fun v _ => Go.Am.asBool v fun b => Go.Am.gd b True) = True := by kernel_rfl
theorem run_11_t : callT (tabF ov.rows) (tabOf Try.prog) 1000 40 4 [.int .i64 (11), .bool true] ⟨E1.lf, 0⟩ (fun v _ => Go.Am.asBool v fun b => Go.Am.gd b True) = True := by kernel_rfl
theorem run_13_t : callT (tabF ov.rows) (tabOf Try.prog) 1000 40 4 [.int .i64 (13), .bool true] ⟨E1.lf, 0⟩ (fun v _ => Go.Am.asBool v fun b => Go.Am.gd b True) = True := by kernel_rfl
theorem run_15_t : callT (tabF ov.rows) (tabOf Try.prog) 1000 40 4 [.int .i64 (15), .bool true] ⟨E1.lf, 0⟩ (fun v _ => Go.Am.asBool v fun b => Go.Am.gd b True) = True := by kernel_rfl
theorem run_17_t : callT (tabF ov.rows) (tabOf Try.prog) 1000 40 4 [.int .i64 (17), .bool true] ⟨E1.lf, 0⟩ (fun v _ => Go.Am.asBool v fun b => Go.Am.gd b True) = True := by kernel_rfl
theorem run_19_t : callT (tabF ov.rows) (tabOf Try.prog) 1000 40 4 [.int .i64 (19), .bool true] ⟨E1.lf, 0⟩ (fun v _ => Go.Am.asBool v fun b => Go.Am.gd b True) = True := by kernel_rfl
end Go.Proofs.Ytnegmbnkccngoaa.treeTrashRun
