/-
 The law 'ClashSplit' returns true at every argument: the statement 'Rows.ClashSplitCardSaid' (the tied card), with no condition of its own but what the row lists.
-/
import Derived.Test.YtnhamanffojhfaaDoorRows
import Derived.Test.YtnhamanffojhfaaDoorCards
import Derived.Test.YtnhamanffojhfaaDoorTie
import Derived.LaidLaws
import Derived.WalkKit
import Derived.ProofKit
import Derived.OpenShut
import Derived.LaidMore
import Derived.Lay
import Derived.SevenTiedAt
import Derived.Stop.Joined
import Derived.Test.YtnhamanffojhfaaDoorG5
namespace Go.Proofs.YtnhamanffojhfaaDoor.clashSplit
open Go.ChangeShapes Go.WideShapes Go.ChangeAt Go.RowKit Lg
open Go.Proofs.YtnhamanffojhfaaDoor.shl
set_option linter.unusedSimpArgs false
set_option linter.unusedVariables false
theorem own : ownKnob Tryd.prog.godebug = none := by kernel_rfl
theorem laidOut : laidOutB Tryd.prog = true := by kernel_rfl
set_option maxRecDepth 100000 in
theorem gv {W : World} (h : laidMetH Tryd.prog Rows.clashSplitRow.laid W) : GV W.heap.size W := by
  rw [MakeChecks.laidMetH_plain _ _ _ (by kernel_rfl)] at h
  exact gv_of h.tail.tail
set_option maxRecDepth 100000 in
open Go.Am in
theorem runs {H : Type} (avs : List AV) (h : Hp) (ds : List (DataW H)) (hr : RdB Tryd.prog h 7 [9, 29] avs ds) : ∃ fuel, deepT (tabOf Tryd.prog) 5 (cfn Tryd.prog (lookC LT) fuel) fuel avs h fun v _ => v = .bool true := by
  obtain ⟨a, r, d, e, rfl, rfl, hr1, hn⟩ := rdB_cons hr
  obtain ⟨b, r, d2, e, rfl, rfl, hr2, hn⟩ := rdB_cons hn
  obtain rfl := rdB_nil hn
  obtain ⟨l, hl, hl2⟩ := rdt_str (n := 6) Tryd.underlying9 (rdV_one (by kernel_rfl) hr1)
  obtain rfl : a = S l := by simpa using hl
  obtain ⟨c, rfl, hc⟩ := rdV_struct (by kernel_rfl) hr2
  obtain ⟨t, k, rfl, ht, hk⟩ := rd_idb (n := 5) hc
  exact ⟨200, Eq.mp (s_lagoonlaw16_ClashSplit_eq ..) (lawSplit_run _ _ (cfn_con rfl) (cfn_con rfl) (cfn_con rfl) (cfn_con rfl) (cfn_con rfl) (cfn_con rfl) l hl2 ⟨ht, hk⟩ fun _ => rfl)⟩
set_option maxRecDepth 100000 in
theorem lifted (os : Os) (started : os.Started) (H : Type) (enc : TypeId × Value → H) :
    ReturnsInHanded {} Tryd.checked os 5 .any (fun w args => (Rows.clashSplitSpec.pre enc Tryd.prog Tryd.f5 Rows.clashSplitRow.domain false w args ∧ laidMetH Tryd.prog Rows.clashSplitRow.laid w) ∧ sizedMet enc Tryd.prog Tryd.f5 (OpenSpec.ofChange Rows.clashSplitSpec) false w args)
      (Rows.clashSplitSpec.post enc Tryd.prog Tryd.f5 false true false false) := by
  refine returnsInHanded_of_change_and (C := Tryd.checked) (X := fun w _ => laidMetH Tryd.prog Rows.clashSplitRow.laid w) (fun _ _ _ hh h => h.of_heap hh) own started (by kernel_rfl) Tryd.func5
    (ChangeSpec.witness_shaped (enc := enc) (C := Tryd.checked) (os := os) (X := fun w _ => laidMetH Tryd.prog Rows.clashSplitRow.laid w) false (World.laidAll Tryd.prog os Rows.clashSplitRow.laid) #[.string ⟨#[]⟩, .agg #[.int .i64 0, .int .i64 0]] 8 (World.laidAll_os _ _ _)
      (World.shaped_of_ZipB (by kernel_rfl) (by kernel_rfl)) (by kernel_rfl) (by kernel_rfl) (by kernel_rfl)
      (by rw [MakeChecks.laidMetH_plain _ _ _ (by kernel_rfl)]; exact laidMet_laidAll _ (by kernel_rfl) (by kernel_rfl))) ?_
  intro W base args ds gs before hval hW hc hw hL _
  exact Go.Am.law_contract_atB (n := 7) mixed laidOut (okT (gv hL)) (by kernel_rfl) (by kernel_rfl) (by kernel_rfl) Tryd.underlying4 (by kernel_rfl) rfl (fun ds hd => by
    match ds, hd with
    | [d1, d2], _ => exact ⟨rfl, rfl, rfl⟩) (fun avs h ds hr => runs avs h ds hr) hval hW hw
set_option maxRecDepth 100000 in
theorem over : Rows.ClashSplitSaid :=
  OpenClaim.holds_of_wide 5 Tryd.f5 rfl rfl rfl rfl rfl rfl rfl ⟨rfl, rfl, rfl, rfl, rfl⟩ rfl rfl rfl rfl rfl (by kernel_rfl) Tryd.func5 (by kernel_rfl)
    (of_decide_eq_true (by kernel_rfl)) (by unfold Func.isWrapper; first | (rw [if_pos (by decide +kernel)]; kernel_rfl) | (rw [if_neg (by decide +kernel)]; exact ⟨rfl, rfl⟩))
    (fun os started H enc _ => lifted os started H enc)

theorem stand9 : Tryd.prog.wantsStandIn 9 = false := by kernel_rfl
theorem stand29 : Tryd.prog.wantsStandIn 29 = false := by kernel_rfl
theorem stand (t : TypeId) (h : t = 9 ∨ t = 29) : Tryd.prog.wantsStandIn t = false := by
  rcases h with rfl | rfl
  · exact stand9
  · exact stand29
/-- The statement. -/
theorem proved : Rows.ClashSplitCardSaid :=
  Claim7.holds_tied_plain_at .later [] [.data, .data, .data, .sentinel, .sentinel] true (true, "3f71e5a48b55df71bcdfa39708385a25512babbbd173318b3c6aa7cc5648e218") true over (fun _ h => by cases h) (by kernel_rfl) (fun _ h => by cases h) clashSplit_row_tie rfl ⟨rfl, rfl⟩ (by kernel_rfl) rfl
    (fun f fn hf hfn => by
      obtain rfl : f = 5 := Option.some.inj ((show Tryd.prog.funcNamed "lagoon/lagoonlaw16.ClashSplit" = some 5 by kernel_rfl).symm.trans hf) |>.symm
      obtain rfl : fn = Tryd.f5 := (Option.some.inj (Tryd.func5.symm.trans hfn)).symm
      exact ⟨by kernel_rfl, fun j t ht => by
        rw [Tryd.params5] at ht
        exact stand t (by
          rcases j with _ | _ | j
          · exact .inl (by simpa using ht.symm)
          · exact .inr (by simpa using ht.symm)
          · simp at ht)⟩)
    (by kernel_rfl)
#print axioms proved
end Go.Proofs.YtnhamanffojhfaaDoor.clashSplit
