/- A piece of 'FsNone', run by the kernel. No condition. -/
import Derived.Test.YtplcaelchkpndaaProg
import Derived.Test.YtplcaelchkpndaaCon
import Derived.Test.YtplcaelchkpndaaFsNoneM
import Derived.Test.YtplcaelchkpndaaFsNoneM1
import Derived.KernelRfl
namespace Go.Proofs.Ytplcaelchkpndaa.fsNoneMem
open Go Go.Am T Go.Proofs Go.Proofs.Ytplcaelchkpndaa
set_option maxRecDepth 100000
theorem mixed2 : Try.prog.follows .mixedOrders = true := by kernel_rfl
noncomputable def con2 (f : FuncId) : Option ConD := (match Nat.beq f 59 with | true => some (memoK a1 h1 v1 k1 noMemo) | false => con.con f)
theorem con2_ok : ConOK Try.prog con2 := by
  intro f c h B w0
  unfold con2 at h
  cases e59 : Nat.beq f 59 with
  | true =>
    rw [e59] at h
    have e := Nat.eq_of_beq_eq_true e59
    subst e
    cases h
    exact (memo_ok mixed2 con.con_ok run1 (noMemo_ok B w0))
  | false =>
  rw [e59] at h
  replace h := h
  exact con.con_ok f c h B w0
theorem run2 : MemoRun Try.prog con2 1000 30 61 a2 h2 v2 k2 = True := by kernel_rfl
end Go.Proofs.Ytplcaelchkpndaa.fsNoneMem
