/- The kernel's own run of the law 'TreeNone' on the abstract machine: it ends, and its answer is true. No condition. -/
import Derived.Test.YtplcaelchkpndaaProg
import Derived.Test.YtplcaelchkpndaaAmPost
import Derived.Test.YtplcaelchkpndaaCon
import Derived.KernelRfl
namespace Go.Proofs.Ytplcaelchkpndaa.treeNoneRun
open Go Go.Am Go.Proofs.Ytplcaelchkpndaa
theorem run9 : RunsTrue Try.prog con.con 1000 30 9 = (True ∧ True) := by kernel_rfl
end Go.Proofs.Ytplcaelchkpndaa.treeNoneRun
