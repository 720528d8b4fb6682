/- The contracts that the run of 'FsNone' goes by. No condition. -/
import Derived.Test.YtplcaelchkpndaaCon
import Derived.Test.YtplcaelchkpndaaFsNoneM0
import Derived.Test.YtplcaelchkpndaaFsNoneM2
import Derived.Test.YtplcaelchkpndaaFsNoneM3
import Derived.Test.YtplcaelchkpndaaFsNoneM4
import Derived.Test.YtplcaelchkpndaaFsNoneM5
import Derived.Test.YtplcaelchkpndaaFsNoneM6
import Derived.Test.YtplcaelchkpndaaFsNoneM7
import Derived.KernelRfl
namespace Go.Proofs.Ytplcaelchkpndaa.fsNoneMem
open Go Go.Am T Go.Proofs Go.Proofs.Ytplcaelchkpndaa
set_option maxRecDepth 100000
theorem mixed : Try.prog.follows .mixedOrders = true := by kernel_rfl
noncomputable def conTop (f : FuncId) : Option ConD := (match Nat.beq f 61 with | true => some (memoK a2 h2 v2 k2 (memoK a7 h7 v7 k7 noMemo)) | false => (match Nat.beq f 59 with | true => some (memoK a4 h4 v4 k4 (memoK a6 h6 v6 k6 noMemo)) | false => (match Nat.beq f 56 with | true => some (memoK a0 h0 v0 k0 (memoK a3 h3 v3 k3 (memoK a5 h5 v5 k5 noMemo))) | false => con.con f)))
theorem conTop_ok : ConOK Try.prog conTop := by
  intro f c h B w0
  unfold conTop at h
  cases e61 : Nat.beq f 61 with
  | true =>
    rw [e61] at h
    have e := Nat.eq_of_beq_eq_true e61
    subst e
    cases h
    exact (memo_ok mixed con2_ok run2 (memo_ok mixed con.con_ok run7 (noMemo_ok B w0)))
  | false =>
  rw [e61] at h
  replace h := h
  cases e59 : Nat.beq f 59 with
  | true =>
    rw [e59] at h
    have e := Nat.eq_of_beq_eq_true e59
    subst e
    cases h
    exact (memo_ok mixed con.con_ok run4 (memo_ok mixed con.con_ok run6 (noMemo_ok B w0)))
  | false =>
  rw [e59] at h
  replace h := h
  cases e56 : Nat.beq f 56 with
  | true =>
    rw [e56] at h
    have e := Nat.eq_of_beq_eq_true e56
    subst e
    cases h
    exact (memo_ok mixed con.con_ok run0 (memo_ok mixed con.con_ok run3 (memo_ok mixed con.con_ok run5 (noMemo_ok B w0))))
  | false =>
  rw [e56] at h
  replace h := h
  exact con.con_ok f c h B w0
end Go.Proofs.Ytplcaelchkpndaa.fsNoneMem
