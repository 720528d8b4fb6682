/- The kernel's own run of the law 'CacheNone' on the abstract machine: it ends, and its answer is true. No condition. -/
import Derived.Test.YtplcaelchkpndaaProg
import Derived.Test.YtplcaelchkpndaaAmPost
import Derived.KernelRfl
namespace Go.Proofs.Ytplcaelchkpndaa.cacheNoneRun
open Go Go.Am Go.Proofs.Ytplcaelchkpndaa
theorem run8 : RunsTrue Try.prog Go.Am.noCon 1000 30 8 = (True) := by kernel_rfl
end Go.Proofs.Ytplcaelchkpndaa.cacheNoneRun
