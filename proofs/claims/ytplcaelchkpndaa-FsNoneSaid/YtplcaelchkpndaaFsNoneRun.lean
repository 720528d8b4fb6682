/- The kernel's own run of the law 'FsNone' on the abstract machine, by pieces: it ends, and its answer is true. No condition. -/
import Derived.Test.YtplcaelchkpndaaProg
import Derived.Test.YtplcaelchkpndaaAmPost
import Derived.Test.YtplcaelchkpndaaFsNoneC
import Derived.KernelRfl
namespace Go.Proofs.Ytplcaelchkpndaa.fsNoneRun
open Go Go.Am Go.Proofs.Ytplcaelchkpndaa
theorem run12 : RunsTrue Try.prog fsNoneMem.conTop 1000 30 12 = (True) := by kernel_rfl
end Go.Proofs.Ytplcaelchkpndaa.fsNoneRun
