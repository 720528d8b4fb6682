/- A piece of 'FsNone', run by the kernel. No condition. -/
import Derived.Test.YtplcaelchkpndaaProg
import Derived.Test.YtplcaelchkpndaaCon
import Derived.Test.YtplcaelchkpndaaFsNoneM
import Derived.KernelRfl
namespace Go.Proofs.Ytplcaelchkpndaa.fsNoneMem
open Go Go.Am T Go.Proofs Go.Proofs.Ytplcaelchkpndaa
set_option maxRecDepth 100000
theorem run1 : MemoRun Try.prog con.con 1000 30 59 a1 h1 v1 k1 = True := by kernel_rfl
end Go.Proofs.Ytplcaelchkpndaa.fsNoneMem
