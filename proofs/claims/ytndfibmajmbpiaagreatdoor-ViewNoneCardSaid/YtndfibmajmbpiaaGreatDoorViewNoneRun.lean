/- The kernel's own run of the law 'ViewNone' on the abstract machine: it ends, and its answer is true. No condition. -/
import Derived.Test.YtndfibmajmbpiaaGreatDoorProg
import Derived.Test.YtndfibmajmbpiaaGreatDoorAmPost
import Derived.Test.YtndfibmajmbpiaaGreatDoorCon
import Derived.KernelRfl
namespace Go.Proofs.YtndfibmajmbpiaaGreatDoor.viewNoneRun
open Go Go.Am Go.Proofs.YtndfibmajmbpiaaGreatDoor
theorem run3 : RunsTrue Tryz.prog con.con 1000 30 3 = (True) := by kernel_rfl
end Go.Proofs.YtndfibmajmbpiaaGreatDoor.viewNoneRun
