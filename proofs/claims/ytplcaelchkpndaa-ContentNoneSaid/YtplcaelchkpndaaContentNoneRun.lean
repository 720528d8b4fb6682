/- The kernel's own run of the law 'ContentNone' on the abstract machine: it ends, and its answer is true. No condition. -/
import Derived.Test.YtplcaelchkpndaaProg
import Derived.Test.YtplcaelchkpndaaAmPost
import Derived.Test.YtplcaelchkpndaaCon
import Derived.KernelRfl
namespace Go.Proofs.Ytplcaelchkpndaa.contentNoneRun
open Go Go.Am Go.Proofs.Ytplcaelchkpndaa
theorem run5 : RunsTrue Try.prog con.con 1000 30 5 = True := by kernel_rfl
end Go.Proofs.Ytplcaelchkpndaa.contentNoneRun
