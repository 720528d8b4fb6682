/- The kernel's own run of the law 'LogNone' on the abstract machine, by the functions' shallow code: it ends, and its answer is true. No condition. -/
import Derived.Test.YtbefkepinpollaaGreatDoorOv
import Derived.KernelRfl
namespace Go.Proofs.YtbefkepinpollaaGreatDoor.logNoneRun
open Go Go.Am Go.Proofs Go.Proofs.YtbefkepinpollaaGreatDoor
set_option maxRecDepth 1000000
theorem run3 : (callT (tabF ov.rows) (tabOf Tryz.prog) 2000 30 3 [] ⟨E1.lf, 0⟩ fun v _ => Go.Am.asBool v fun b => Go.Am.gd b True) = True := by kernel_rfl
end Go.Proofs.YtbefkepinpollaaGreatDoor.logNoneRun
