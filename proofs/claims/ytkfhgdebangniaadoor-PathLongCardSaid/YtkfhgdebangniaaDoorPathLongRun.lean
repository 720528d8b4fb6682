/- The kernel's own run of the law 'PathLong' on the abstract machine: it ends, and its answer is true. No condition. -/
import Derived.Test.YtkfhgdebangniaaDoorProg
import Derived.Test.YtkfhgdebangniaaDoorAmGlob
import Derived.Test.YtkfhgdebangniaaDoorCon
import Derived.KernelRfl
namespace Go.Proofs.YtkfhgdebangniaaDoor.pathLongRun
open Go Go.Am Go.Proofs.YtkfhgdebangniaaDoor
set_option maxRecDepth 1000000 in
theorem run7 : RunsGlob Tryd.prog con.con 1000 30 7 2 121 200 = True := by kernel_rfl
end Go.Proofs.YtkfhgdebangniaaDoor.pathLongRun
