/- The kernel's own run of the law 'WalNone' on the abstract machine: it ends, and its answer is true. No condition. -/
import Derived.Test.YthabhlfjbpdfkaaProg
import Derived.Test.YthabhlfjbpdfkaaAmPost
import Derived.KernelRfl
namespace Go.Proofs.Ythabhlfjbpdfkaa.walNoneRun
open Go Go.Am
theorem run4 : RunsTrue Try.prog 1000 30 4 = True := by kernel_rfl
end Go.Proofs.Ythabhlfjbpdfkaa.walNoneRun
