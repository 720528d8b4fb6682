/-
 The law 'WalCommits' returns true at every argument: the statement 'Rows.WalCommitsSaid', with no condition of its own.
-/
import Derived.Test.YtnhamanffojhfaaRows
import Derived.WalkKit
import Derived.ProofKit
import Derived.OpenShut
import Derived.Test.YtnhamanffojhfaaG5
namespace Go.Proofs.Ytnhamanffojhfaa.walCommits
open Go.ChangeShapes Go.WideShapes Go.ChangeAt Go.RowKit Lg
open Go.Proofs.Ytnhamanffojhfaa.shl
set_option linter.unusedSimpArgs false
set_option linter.unusedVariables false
theorem own : ownKnob Try.prog.godebug = none := by kernel_rfl
theorem laidOut : laidOutB Try.prog = true := by kernel_rfl
theorem preU {H : Type} {enc : TypeId × Value → H} {P : Program} {fn : Func} {c : OpenClaim} {s : ChangeSpec} (hl : c.laid = []) : c.pre enc P fn (OpenSpec.ofChange s) = fun w args => (s.pre enc P fn c.domain c.apart w args ∧ True) ∧ sizedMet enc P fn (OpenSpec.ofChange s) c.apart w args := by
  funext w args
  unfold OpenClaim.pre OpenClaim.preLaid
  rw [hl, and_true]
  rfl
set_option maxRecDepth 100000 in
open Go.Am in
theorem runs {H : Type} (avs : List AV) (h : Hp) (ds : List (DataW H)) (hr : RdA Try.prog h 7 [3, 64] avs ds) : ∃ fuel, deepT (tabOf Try.prog) 9 (cfn Try.prog (lookC LT) fuel) fuel avs h fun v _ => v = .bool true := by
  obtain ⟨a, r, d, e, rfl, rfl, hr1, hn⟩ := rdA_cons hr
  obtain ⟨b, r, d2, e, rfl, rfl, hr2, hn⟩ := rdA_cons hn
  obtain rfl := rdA_nil hn
  obtain ⟨z, hz, hz1, hz2⟩ := rdt_intb (n := 6) Try.underlying3 hr1
  obtain rfl : a = I z := by simpa using hz
  obtain ⟨v, els, hv, h1, h2⟩ := rd_acts (n := 1) hr2
  obtain rfl : b = v := by simpa using hv
  exact ⟨70000, Eq.mp (s_lagoonlaw6_WalCommits_eq ..) (Commits_run _ _ (cfn_con rfl) (cfn_con rfl) (cfn_con rfl) (cfn_con rfl) (cfn_con rfl) (cfn_con rfl) (cfn_con rfl) (cfn_con rfl) (cfn_con rfl) (cfn_con rfl) ⟨hz1, hz2⟩ h1 h2 (by omega) fun _ => rfl)⟩
set_option maxRecDepth 100000 in
theorem lifted (os : Os) (started : os.Started) (H : Type) (enc : TypeId × Value → H) :
    ReturnsInHanded {} Try.checked os 9 .any (Rows.walCommitsRow.pre enc Try.prog Try.f9 (OpenSpec.ofChange Rows.walCommitsSpec)) (Rows.walCommitsSpec.post enc Try.prog Try.f9 false true false false) := by
  rw [preU rfl]
  obtain ⟨w, tp, i, w1, w2, w3, w4, w5, w6⟩ := ChangeSpec.witness6 (enc := enc) (C := Try.checked) (os := os) (f := 9) (fn := Try.f9) (s := Rows.walCommitsSpec) (conds := Rows.walCommitsRow.domain) (apart := false) false ⟨#[], #[.int .i64 0, .slice none 0 0], []⟩ 8 (by kernel_rfl) (by kernel_rfl) (by kernel_rfl) (by kernel_rfl)
  refine returnsInHanded_of_change_and (C := Try.checked) (X := fun _ _ => True) (fun _ _ _ _ h => h) own started (by kernel_rfl) Try.func9 ⟨w, tp, i, w1, w2, w3, w4, ⟨⟨w5.1, trivial⟩, w5.2⟩, w6⟩ ?_
  intro W base args ds gs before hval hW _ hw _ _
  exact Go.Am.law_contract (n := 7) mixed laidOut okT (by kernel_rfl) (by kernel_rfl) (by kernel_rfl) Try.underlying4 (by kernel_rfl) rfl (fun ds hd => by
    match ds, hd with
    | [d1, d2], _ => exact ⟨rfl, rfl, rfl⟩) (fun avs h ds hr => runs avs h ds hr) hval hW hw
set_option maxRecDepth 100000 in
theorem over : Rows.walCommitsRow.holds Try.pinned (OpenSpec.ofChange Rows.walCommitsSpec) :=
  OpenClaim.holds_of_wide 9 Try.f9 rfl rfl rfl rfl rfl rfl rfl ⟨rfl, rfl, rfl, rfl, rfl⟩ rfl rfl rfl rfl rfl (by kernel_rfl) Try.func9 (by kernel_rfl)
    (of_decide_eq_true (by kernel_rfl)) (by unfold Func.isWrapper; first | (rw [if_pos (by decide +kernel)]; kernel_rfl) | (rw [if_neg (by decide +kernel)]; exact ⟨rfl, rfl⟩))
    (fun os started H enc _ => lifted os started H enc)

/-- The statement. -/
theorem proved : Rows.WalCommitsSaid :=
  over
#print axioms proved
end Go.Proofs.Ytnhamanffojhfaa.walCommits
