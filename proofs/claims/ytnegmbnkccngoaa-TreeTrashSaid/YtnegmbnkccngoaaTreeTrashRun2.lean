/- The kernel's own runs of the law 'TreeTrash' on the abstract machine, by the functions' shallow code, part 2: each ends, and its answer is true. No condition. -/
import Derived.Test.YtnegmbnkccngoaaOv
import Derived.Test.YtnegmbnkccngoaaAmC
import Derived.KernelRfl
namespace Go.Proofs.Ytnegmbnkccngoaa.treeTrashRun
open Go Go.Am Go.Proofs Go.Proofs.Ytnegmbnkccngoaa
set_option maxRecDepth 1000000
set_option maxHeartbeats 4000000
theorem run_2_t : callT (tabF ov.rows) (tabOf Try.prog) 1000 40 4 [.int .i64 (2), .bool true] ⟨E1.lf, 0⟩ (fun v _ => Go.Am.asBool v fun b => Go.Am.gd b True) = True := by kernel_rfl
theorem run_4_t : callT (tabF ov.rows) (tabOf Try.prog) 1000 40 4 [.int .i64 (4), .bool true] ⟨E1.lf, 0⟩ (fun v _ => Go.Am.asBool v fun b => Go.Am.gd b True) = True := by kernel_rfl
theorem run_6_t : callT (tabF ov.rows) (tabOf Try.prog) 1000 40 4 [.int .i64 (6), .bool true] ⟨E1.lf, 0⟩ (fun v _ => Go.Am.asBool v fun b => Go.Am.gd b True) = True := by kernel_rfl
theorem run_8_t : callT (tabF ov.rows) (tabOf Try.prog) 1000 40 4 [.int .i64 (8), .bool true] ⟨E1.lf, 0⟩ (fun v _ => Go.Am.asBool v fun b => Go.Am.gd b True) = True := by kernel_rfl
theorem run_10_t : callT (tabF ov.rows) (tabOf Try.prog) 1000 40 4 [.int .i64 (10), .bool true] ⟨E1.lf, 0⟩ (fun v _ => Go.Am.asBool v fun b => Go.Am.gd b True) = True := by kernel_rfl
theorem run_12_t : callT (tabF ov.rows) (tabOf Try.prog) 1000 40 4 [.int .i64 (12), .bool true] ⟨E1.lf, 0⟩ (fun v _ => Go.Am.asBool v fun b => Go.Am.gd b True) = True := by kernel_rfl
theorem run_14_t : callT (tabF ov.rows) (tabOf Try.prog) 1000 40 4 [.int .i64 (14), .bool true] ⟨E1.lf, 0⟩ (fun v _ => Go.Am.asBool v fun b => Go.Am.gd b True) = True := by kernel_rfl
theorem run_16_t : callT (tabF ov.rows) (tabOf Try.prog) 1000 40 4 [.int .i64 (16), .bool true] ⟨E1.lf, 0⟩ (fun v _ => Go.Am.asBool v fun b => Go.Am.gd b True) = True := by kernel_rfl
theorem run_18_t : callT (tabF ov.rows) (tabOf Try.prog) 1000 40 4 [.int .i64 (18), .bool true] ⟨E1.lf, 0⟩ (fun v _ => Go.Am.asBool v fun b => Go.Am.gd b True) = True := by kernel_rfl
theorem run_20_t : callT (tabF ov.rows) (tabOf Try.prog) 1000 40 4 [.int .i64 (20), .bool true] ⟨E1.lf, 0⟩ (fun v _ => Go.Am.asBool v fun b => Go.Am.gd b True) = True := by kernel_rfl
end Go.Proofs.Ytnegmbnkccngoaa.treeTrashRun
