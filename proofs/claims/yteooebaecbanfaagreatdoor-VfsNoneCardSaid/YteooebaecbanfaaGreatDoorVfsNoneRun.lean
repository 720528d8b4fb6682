/- The kernel's own run of the law 'VfsNone' on the abstract machine: it ends, and its answer is true. No condition. -/
import Derived.Test.YteooebaecbanfaaGreatDoorProg
import Derived.Test.YteooebaecbanfaaGreatDoorAmGlob
import Derived.Test.YteooebaecbanfaaGreatDoorCon
import Derived.KernelRfl
namespace Go.Proofs.YteooebaecbanfaaGreatDoor.vfsNoneRun
open Go Go.Am Go.Proofs.YteooebaecbanfaaGreatDoor
set_option maxRecDepth 1000000 in
theorem run3 : RunsGlob Tryz.prog con.con 1000 30 3 6 427 800 = True := by kernel_rfl
end Go.Proofs.YteooebaecbanfaaGreatDoor.vfsNoneRun
