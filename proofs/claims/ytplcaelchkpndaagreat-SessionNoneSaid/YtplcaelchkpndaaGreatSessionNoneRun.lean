/- The kernel's own run of the law 'SessionNone' on the abstract machine: it ends, and its answer is true. No condition. -/
import Derived.Test.YtplcaelchkpndaaGreatProg
import Derived.Test.YtplcaelchkpndaaGreatAmPost
import Derived.KernelRfl
namespace Go.Proofs.YtplcaelchkpndaaGreat.sessionNoneRun
open Go Go.Am Go.Proofs.YtplcaelchkpndaaGreat
theorem run4 : RunsTrue Tryz.prog Go.Am.noCon 1000 30 4 = (True) := by kernel_rfl
end Go.Proofs.YtplcaelchkpndaaGreat.sessionNoneRun
