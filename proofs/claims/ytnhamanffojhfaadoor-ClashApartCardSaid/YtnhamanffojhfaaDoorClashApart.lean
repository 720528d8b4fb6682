/-
 The law 'ClashApart' returns true at every argument: the statement 'Rows.ClashApartCardSaid' (the tied card), with no condition of its own but what the row lists.
-/
import Derived.Test.YtnhamanffojhfaaDoorRows
import Derived.Test.YtnhamanffojhfaaDoorCards
import Derived.Test.YtnhamanffojhfaaDoorTie
import Derived.LaidLaws
import Derived.WalkKit
import Derived.ProofKit
import Derived.OpenShut
import Derived.LaidMore
import Derived.Lay
import Derived.SevenTiedAt
import Derived.Stop.Joined
import Derived.Test.YtnhamanffojhfaaDoorG5
namespace Go.Proofs.YtnhamanffojhfaaDoor.clashApart
open Go.ChangeShapes Go.WideShapes Go.ChangeAt Go.RowKit Lg
open Go.Proofs.YtnhamanffojhfaaDoor.shl
set_option linter.unusedSimpArgs false
set_option linter.unusedVariables false
theorem own : ownKnob Tryd.prog.godebug = none := by kernel_rfl
theorem laidOut : laidOutB Tryd.prog = true := by kernel_rfl
set_option maxRecDepth 100000 in
theorem gv {W : World} (h : laidMetH Tryd.prog Rows.clashApartRow.laid W) : GV W.heap.size W := by
  rw [MakeChecks.laidMetH_plain _ _ _ (by kernel_rfl)] at h
  exact gv_of h.tail.tail
set_option maxRecDepth 100000 in
open Go.Am in
theorem runs {H : Type} (avs : List AV) (h : Hp) (ds : List (DataW H)) (hr : RdB Tryd.prog h 7 [22, 23] avs ds) : ∃ fuel, deepT (tabOf Tryd.prog) 4 (cfn Tryd.prog (lookC LT) fuel) fuel avs h fun v _ => v = .bool true := by
  obtain ⟨a, r, d, e, rfl, rfl, hr1, hn⟩ := rdB_cons hr
  obtain ⟨b, r, d2, e, rfl, rfl, hr2, hn⟩ := rdB_cons hn
  obtain rfl := rdB_nil hn
  obtain ⟨v1, els1, ids, hv1, h1, h2, h3⟩ := rd_ids (n := 4) (rdV_one (by kernel_rfl) hr1)
  obtain rfl : a = v1 := by simpa using hv1
  obtain ⟨v2, els2, nms, hv2, h4, h5, h6⟩ := rd_nms (n := 5) (rdV_one (by kernel_rfl) hr2)
  obtain rfl : b = v2 := by simpa using hv2
  exact ⟨200, Eq.mp (s_lagoonlaw16_ClashApart_eq ..) (lawApart_run _ _ (cfn_con rfl) (cfn_con rfl) (cfn_con rfl) (cfn_con rfl) (cfn_con rfl) (cfn_con rfl) h1 h2 h4 h5 h6 (by omega) fun _ => rfl)⟩
set_option maxRecDepth 100000 in
theorem lifted (os : Os) (started : os.Started) (H : Type) (enc : TypeId × Value → H) :
    ReturnsInHanded {} Tryd.checked os 4 .any (fun w args => (Rows.clashApartSpec.pre enc Tryd.prog Tryd.f4 Rows.clashApartRow.domain false w args ∧ laidMetH Tryd.prog Rows.clashApartRow.laid w) ∧ sizedMet enc Tryd.prog Tryd.f4 (OpenSpec.ofChange Rows.clashApartSpec) false w args)
      (Rows.clashApartSpec.post enc Tryd.prog Tryd.f4 false true false false) := by
  refine returnsInHanded_of_change_and (C := Tryd.checked) (X := fun w _ => laidMetH Tryd.prog Rows.clashApartRow.laid w) (fun _ _ _ hh h => h.of_heap hh) own started (by kernel_rfl) Tryd.func4
    (ChangeSpec.witness_shaped (enc := enc) (C := Tryd.checked) (os := os) (X := fun w _ => laidMetH Tryd.prog Rows.clashApartRow.laid w) false (World.laidAll Tryd.prog os Rows.clashApartRow.laid) #[.slice none 0 0, .slice none 0 0] 8 (World.laidAll_os _ _ _)
      (World.shaped_of_ZipB (by kernel_rfl) (by kernel_rfl)) (by kernel_rfl) (by kernel_rfl) (by kernel_rfl)
      (by rw [MakeChecks.laidMetH_plain _ _ _ (by kernel_rfl)]; exact laidMet_laidAll _ (by kernel_rfl) (by kernel_rfl))) ?_
  intro W base args ds gs before hval hW hc hw hL _
  exact Go.Am.law_contract_atB (n := 7) mixed laidOut (okT (gv hL)) (by kernel_rfl) (by kernel_rfl) (by kernel_rfl) Tryd.underlying4 (by kernel_rfl) rfl (fun ds hd => by
    match ds, hd with
    | [d1, d2], _ => exact ⟨rfl, rfl, rfl⟩) (fun avs h ds hr => runs avs h ds hr) hval hW hw
set_option maxRecDepth 100000 in
theorem over : Rows.ClashApartSaid :=
  OpenClaim.holds_of_wide 4 Tryd.f4 rfl rfl rfl rfl rfl rfl rfl ⟨rfl, rfl, rfl, rfl, rfl⟩ rfl rfl rfl rfl rfl (by kernel_rfl) Tryd.func4 (by kernel_rfl)
    (of_decide_eq_true (by kernel_rfl)) (by unfold Func.isWrapper; first | (rw [if_pos (by decide +kernel)]; kernel_rfl) | (rw [if_neg (by decide +kernel)]; exact ⟨rfl, rfl⟩))
    (fun os started H enc _ => lifted os started H enc)

theorem stand9 : Tryd.prog.wantsStandIn 22 = false := by kernel_rfl
theorem stand29 : Tryd.prog.wantsStandIn 23 = false := by kernel_rfl
theorem stand (t : TypeId) (h : t = 22 ∨ t = 23) : Tryd.prog.wantsStandIn t = false := by
  rcases h with rfl | rfl
  · exact stand9
  · exact stand29
/-- The statement. -/
theorem proved : Rows.ClashApartCardSaid :=
  Claim7.holds_tied_plain_at .later [] [.data, .data, .data, .sentinel, .sentinel] true (true, "3f71e5a48b55df71bcdfa39708385a25512babbbd173318b3c6aa7cc5648e218") true over (fun _ h => by cases h) (by kernel_rfl) (fun _ h => by cases h) clashApart_row_tie rfl ⟨rfl, rfl⟩ (by kernel_rfl) rfl
    (fun f fn hf hfn => by
      obtain rfl : f = 4 := Option.some.inj ((show Tryd.prog.funcNamed "lagoon/lagoonlaw16.ClashApart" = some 4 by kernel_rfl).symm.trans hf) |>.symm
      obtain rfl : fn = Tryd.f4 := (Option.some.inj (Tryd.func4.symm.trans hfn)).symm
      exact ⟨by kernel_rfl, fun j t ht => by
        rw [Tryd.params4] at ht
        exact stand t (by
          rcases j with _ | _ | j
          · exact .inl (by simpa using ht.symm)
          · exact .inr (by simpa using ht.symm)
          · simp at ht)⟩)
    (by kernel_rfl)
#print axioms proved
end Go.Proofs.YtnhamanffojhfaaDoor.clashApart
