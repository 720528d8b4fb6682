/-
 The law 'ContentMerge' returns true at every argument: the statement 'Rows.ContentMergeSaid', with no condition of its own.
-/
import Derived.Test.YtnhamanffojhfaaRows
import Derived.WalkKit
import Derived.ProofKit
import Derived.OpenShut
import Derived.Test.YtnhamanffojhfaaG5
namespace Go.Proofs.Ytnhamanffojhfaa.contentMerge
open Go.ChangeShapes Go.WideShapes Go.ChangeAt Go.RowKit Lg
open Go.Proofs.Ytnhamanffojhfaa.shl
set_option linter.unusedSimpArgs false
set_option linter.unusedVariables false
theorem own : ownKnob Try.prog.godebug = none := by kernel_rfl
theorem laidOut : laidOutB Try.prog = true := by kernel_rfl
theorem preU {H : Type} {enc : TypeId × Value → H} {P : Program} {fn : Func} {c : OpenClaim} {s : ChangeSpec} (hl : c.laid = []) : c.pre enc P fn (OpenSpec.ofChange s) = fun w args => (s.pre enc P fn c.domain c.apart w args ∧ True) ∧ sizedMet enc P fn (OpenSpec.ofChange s) c.apart w args := by
  funext w args
  unfold OpenClaim.pre OpenClaim.preLaid
  rw [hl, and_true]
  rfl
set_option maxRecDepth 100000 in
open Go.Am in
theorem runs {H : Type} (avs : List AV) (h : Hp) (ds : List (DataW H)) (hr : RdA Try.prog h 6 [22, 31, 4] avs ds) : ∃ fuel, deepT (tabOf Try.prog) 5 (cfn Try.prog (lookC LT) fuel) fuel avs h fun v _ => v = .bool true := by
  obtain ⟨a, r, d, e, rfl, rfl, hr1, hn⟩ := rdA_cons hr
  obtain ⟨b, r, d2, e, rfl, rfl, hr2, hn⟩ := rdA_cons hn
  obtain ⟨c, r, d3, e, rfl, rfl, hr3, hn⟩ := rdA_cons hn
  obtain rfl := rdA_nil hn
  obtain ⟨v, els, os, hv, h1, h2, h3⟩ := rd_ops (n := 1) hr1
  obtain rfl : a = v := by simpa using hv
  obtain ⟨w, bl, hw, hb⟩ := rdt_by (n := 5) Try.underlying31 Try.underlying5 (by kernel_rfl) hr2
  obtain rfl : b = w := by simpa using hw
  obtain ⟨z, hz⟩ := rdt_bool (n := 5) Try.underlying4 hr3
  obtain rfl : c = .bool z := by simpa using hz
  exact ⟨1001, Eq.mp (s_lagoonlaw17_ContentMerge_eq ..) (Merge_run _ _ (cfn_con rfl) (cfn_con rfl) (cfn_con rfl) (cfn_con rfl) (cfn_con rfl) (cfn_con rfl) (cfn_con rfl) (cfn_con rfl) (cfn_con rfl) h1 ⟨h2, h3⟩ hb z (by omega) fun _ => rfl)⟩
set_option maxRecDepth 100000 in
theorem lifted (os : Os) (started : os.Started) (H : Type) (enc : TypeId × Value → H) :
    ReturnsInHanded {} Try.checked os 5 .any (Rows.contentMergeRow.pre enc Try.prog Try.f5 (OpenSpec.ofChange Rows.contentMergeSpec)) (Rows.contentMergeSpec.post enc Try.prog Try.f5 false true false false) := by
  rw [preU rfl]
  obtain ⟨w, tp, i, w1, w2, w3, w4, w5, w6⟩ := ChangeSpec.witness6 (enc := enc) (C := Try.checked) (os := os) (f := 5) (fn := Try.f5) (s := Rows.contentMergeSpec) (conds := Rows.contentMergeRow.domain) (apart := false) false ⟨#[], #[.slice none 0 0, .slice none 0 0, .bool false], []⟩ 8 (by kernel_rfl) (by kernel_rfl) (by kernel_rfl) (by kernel_rfl)
  refine returnsInHanded_of_change_and (C := Try.checked) (X := fun _ _ => True) (fun _ _ _ _ h => h) own started (by kernel_rfl) Try.func5 ⟨w, tp, i, w1, w2, w3, w4, ⟨⟨w5.1, trivial⟩, w5.2⟩, w6⟩ ?_
  intro W base args ds gs before hval hW _ hw _ _
  exact Go.Am.law_contract (n := 6) mixed laidOut okT (by kernel_rfl) (by kernel_rfl) (by kernel_rfl) Try.underlying4 (by kernel_rfl) rfl (fun ds hd => by
    match ds, hd with
    | [d1, d2, d3], _ => exact ⟨rfl, rfl, rfl⟩) (fun avs h ds hr => runs avs h ds hr) hval hW hw
set_option maxRecDepth 100000 in
theorem over : Rows.contentMergeRow.holds Try.pinned (OpenSpec.ofChange Rows.contentMergeSpec) :=
  OpenClaim.holds_of_wide 5 Try.f5 rfl rfl rfl rfl rfl rfl rfl ⟨rfl, rfl, rfl, rfl, rfl⟩ rfl rfl rfl rfl rfl (by kernel_rfl) Try.func5 (by kernel_rfl)
    (of_decide_eq_true (by kernel_rfl)) (by unfold Func.isWrapper; first | (rw [if_pos (by decide +kernel)]; kernel_rfl) | (rw [if_neg (by decide +kernel)]; exact ⟨rfl, rfl⟩))
    (fun os started H enc _ => lifted os started H enc)

/-- The statement. -/
theorem proved : Rows.ContentMergeSaid :=
  over
#print axioms proved
end Go.Proofs.Ytnhamanffojhfaa.contentMerge
