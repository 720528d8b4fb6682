/- The kernel's own runs of the law 'TreeTrash' on the abstract machine, by the functions' shallow code, part 1: each ends, and its answer is true. No condition. -/
import Derived.Test.YtnegmbnkccngoaaOv
import Derived.Test.YtnegmbnkccngoaaAmC
import Derived.KernelRfl
namespace Go.Proofs.Ytnegmbnkccngoaa.treeTrashRun
open Go Go.Am Go.Proofs Go.Proofs.Ytnegmbnkccngoaa
set_option maxRecDepth 1000000
set_option maxHeartbeats 4000000
theorem run_1_f : callT (tabF ov.rows) (tabOf Try.prog) 1000 40 4 [.int .i64 (1), .bool false] ⟨E1.lf, 0⟩ (fun v _ => Go.Am.asBool v fun b => Go.Am.gd b True) = True := by kernel_rfl
theorem run_3_f : callT (tabF ov.rows) (tabOf Try.prog) 1000 40 4 [.int .i64 (3), .bool false] ⟨E1.lf, 0⟩ (fun v _ => Go.Am.asBool v fun b => Go.Am.gd b True) = True := by kernel_rfl
theorem run_5_f : callT (tabF ov.rows) (tabOf Try.prog) 1000 40 4 [.int .i64 (5), .bool false] ⟨E1.lf, 0⟩ (fun v _ => Go.Am.asBool v fun b => Go.Am.gd b True) = True := by kernel_rfl
theorem run_7_f : callT (tabF ov.rows) (tabOf Try.prog) 1000 40 4 [.int .i64 (7), .bool false] ⟨E1.lf, 0⟩ (fun v _ => Go.Am.asBool v fun b => Go.Am.gd b True) = True := by kernel_rfl
theorem run_9_f : callT (tabF ov.rows) (tabOf Try.prog) 1000 40 4 [.int .i64 (9), .bool false] ⟨E1.lf, 0⟩ (fun v _ => Go.Am.asBool v fun b => Go.Am.gd b True) = True := by kernel_rfl
theorem run_11_f : callT (tabF ov.rows) (tabOf Try.prog) 1000 40 4 [.int .i64 (11), .bool false] ⟨E1.lf, 0⟩ (fun v _ => Go.Am.asBool v fun b => Go.Am.gd b True) = True := by kernel_rfl
theorem run_13_f : callT (tabF ov.rows) (tabOf Try.prog) 1000 40 4 [.int .i64 (13), .bool false] ⟨E1.lf, 0⟩ (fun v _ => Go.Am.asBool v fun b => Go.Am.gd b True) = True := by kernel_rfl
theorem run_15_f : callT (tabF ov.rows) (tabOf Try.prog) 1000 40 4 [.int .i64 (15), .bool false] ⟨E1.lf, 0⟩ (fun v _ => Go.Am.asBool v fun b => Go.Am.gd b True) = True := by kernel_rfl
theorem run_17_f : callT (tabF ov.rows) (tabOf Try.prog) 1000 40 4 [.int .i64 (17), .bool false] ⟨E1.lf, 0⟩ (fun v _ => Go.Am.asBool v fun b => Go.Am.gd b True) = True := by kernel_rfl
theorem run_19_f : callT (tabF ov.rows) (tabOf Try.prog) 1000 40 4 [.int .i64 (19), .bool false] ⟨E1.lf, 0⟩ (fun v _ => Go.Am.asBool v fun b => Go.Am.gd b True) = True := by kernel_rfl
end Go.Proofs.Ytnegmbnkccngoaa.treeTrashRun
