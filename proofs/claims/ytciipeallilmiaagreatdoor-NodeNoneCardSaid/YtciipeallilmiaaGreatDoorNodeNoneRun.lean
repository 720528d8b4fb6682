/- The kernel's own run of the law 'NodeNone' on the abstract machine, by the functions' shallow code: it ends, and its answer is true. No condition. -/
import Derived.Test.YtciipeallilmiaaGreatDoorOv
import Derived.Test.YtciipeallilmiaaGreatDoorAmC
import Derived.KernelRfl
namespace Go.Proofs.YtciipeallilmiaaGreatDoor.nodeNoneRun
open Go Go.Am Go.Proofs Go.Proofs.YtciipeallilmiaaGreatDoor
set_option maxRecDepth 1000000
theorem run3 : (callT (tabF ov.rows) (tabOf Tryz.prog) 2000 30 3 [] (globHp 6 481 8) fun v _ => Go.Am.asBool v fun b => Go.Am.gd b True) = True := by kernel_rfl
end Go.Proofs.YtciipeallilmiaaGreatDoor.nodeNoneRun
