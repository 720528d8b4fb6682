/- No function of the program goes: the card's word 'goes', looked at in parts. No condition. -/
import Derived.Test.YtciipeallilmiaaGreatDoorRows
import Derived.Test.YtciipeallilmiaaGreatDoorAmGoes
import Derived.KernelRfl
namespace Go.Proofs.YtciipeallilmiaaGreatDoor.nodeNoneG
open Go Go.Am
set_option maxRecDepth 1000000
theorem size : Tryz.pinned.checked.prog.funcs.size = 455 := by kernel_rfl
theorem s0 : stillFrom Tryz.pinned.checked.prog 0 76 = true := by kernel_rfl
theorem s1 : stillFrom Tryz.pinned.checked.prog 76 76 = true := by kernel_rfl
theorem s2 : stillFrom Tryz.pinned.checked.prog 152 76 = true := by kernel_rfl
theorem s3 : stillFrom Tryz.pinned.checked.prog 228 76 = true := by kernel_rfl
theorem s4 : stillFrom Tryz.pinned.checked.prog 304 76 = true := by kernel_rfl
theorem s5 : stillFrom Tryz.pinned.checked.prog 380 75 = true := by kernel_rfl
theorem still : stillFrom Tryz.pinned.checked.prog 0 455 = true :=
  stillFrom_add (m := 75) (stillFrom_add (m := 76) (stillFrom_add (m := 76) (stillFrom_add (m := 76) (stillFrom_add (n := 76) (m := 76) s0 s1) s2) s3) s4) s5
theorem goes : false = Rows.nodeNoneRow.goesBy Tryz.pinned.checked.prog := goesBy_still rfl size still
end Go.Proofs.YtciipeallilmiaaGreatDoor.nodeNoneG
