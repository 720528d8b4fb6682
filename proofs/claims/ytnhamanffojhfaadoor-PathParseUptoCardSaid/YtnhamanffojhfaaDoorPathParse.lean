/-
 The law 'PathParse' returns true at every argument: the statement 'Rows.PathParseUptoCardSaid' (the tied card), where what it reads is of bulk at most 1048576.
-/
import Derived.Test.YtnhamanffojhfaaDoorRows
import Derived.Test.YtnhamanffojhfaaDoorCards
import Derived.Test.YtnhamanffojhfaaDoorTie
import Derived.LaidLaws
import Derived.WalkKit
import Derived.ProofKit
import Derived.OpenShut
import Derived.LaidMore
import Derived.Lay
import Derived.SevenTiedAt
import Derived.Stop.Joined
import Derived.Test.YtnhamanffojhfaaDoorG5
import Derived.Deep.DeepHandedRow
import Derived.JoinedCond
namespace Go.Proofs.YtnhamanffojhfaaDoor.pathParse
open Go.ChangeShapes Go.WideShapes Go.ChangeAt Go.RowKit Lg
open Go.Proofs.YtnhamanffojhfaaDoor.shl
set_option linter.unusedSimpArgs false
set_option linter.unusedVariables false
theorem own : ownKnob Tryd.prog.godebug = none := by kernel_rfl
theorem laidOut : laidOutB Tryd.prog = true := by kernel_rfl
set_option maxRecDepth 100000 in
theorem gv {W : World} (h : laidMetH Tryd.prog Rows.pathParseUptoRow.laid W) : GV W.heap.size W := by
  rw [MakeChecks.laidMetH_plain _ _ _ (by kernel_rfl)] at h
  exact gv_parts h.tail.tail h.tail.tail.tail.tail
set_option maxRecDepth 100000 in
open Go.Am in
theorem runs {H : Type} (avs : List AV) (h : Hp) (ds : List (DataW H)) (hk : Rows.uptoBulkAll ds ≤ 1048576) (hr : RdB Tryd.prog h 7 [9, 23] avs ds) : ∃ fuel, deepT (tabOf Tryd.prog) 6 (cfn Tryd.prog (lookC LT) fuel) fuel avs h fun v _ => v = .bool true := by
  obtain ⟨a, r, d, e, rfl, rfl, hr1, hn⟩ := rdB_cons hr
  obtain ⟨b, r, d2, e, rfl, rfl, hr2, hn⟩ := rdB_cons hn
  obtain rfl := rdB_nil hn
  obtain ⟨l, hl, hl2⟩ := rdt_str (n := 6) Tryd.underlying9 (rdV_one (by kernel_rfl) hr1)
  obtain rfl : a = S l := by simpa using hl
  obtain ⟨v2, nms, hv2, h4, h5, h6⟩ := rd_nmsU (n := 5) (rdV_one (by kernel_rfl) hr2)
  obtain rfl : b = v2 := by simpa using hv2
  have hb : (Lg.joinP nms).length ≤ 1000000000 := by
    have : Rows.uptoBulk d + (Rows.uptoBulk d2 + Rows.uptoBulkAll e) ≤ 1048576 := hk
    omega
  exact ⟨4000, Eq.mp (s_lagoonlaw19_PathParse_eq ..) (lawPath_run _ _ (cfn_con rfl) (cfn_con rfl) (cfn_con rfl) (cfn_con rfl) (cfn_con rfl) (cfn_con rfl) (cfn_con rfl) (cfn_con rfl) h4 h5 hb (by omega) fun _ => rfl)⟩
theorem reads (os : Os) {H : Type} (enc : TypeId × Value → H) : ∃ places, DataW.whole enc Tryd.prog (((World.laidAll Tryd.prog os Rows.pathParseUptoRow.laid)).forCall (fun _ _ => 0) ⟨#[], #[.string ⟨#[]⟩, .slice none 0 0], []⟩).memory Tryd.f6.params.toList Rows.pathParseSpec.vars false #[Value.string ⟨#[]⟩, .slice none 0 0].toList 8 = some ([.lit (.string []), .nil], [], places) :=
  ⟨[], by kernel_rfl⟩
set_option maxRecDepth 100000 in
theorem lifted (os : Os) (started : os.Started) (H : Type) (enc : TypeId × Value → H) (F : Stop.Interp) :
    ReturnsInHanded {} Tryd.checked os 6 .any ((Rows.OpenSpec.upto Rows.pathParseSpec).preRow enc Tryd.prog Tryd.f6 Rows.pathParseUptoRow.domain false Rows.pathParseUptoRow.laid) (((Rows.OpenSpec.upto Rows.pathParseSpec).at F).post enc Tryd.prog Tryd.f6 false true false false) := by
  obtain ⟨places, hx⟩ := reads os enc
  refine returnsInHanded_of_row (C := Tryd.checked) (s := Rows.OpenSpec.upto Rows.pathParseSpec) own started (by kernel_rfl) Tryd.func6
    (witness_row_at (enc := enc) (C := Tryd.checked) false (World.laidAll Tryd.prog os Rows.pathParseUptoRow.laid) #[.string ⟨#[]⟩, .slice none 0 0] (World.laidAll_os _ _ _) (by kernel_rfl) (by kernel_rfl) (by kernel_rfl)
      (OpenSpec.preRow_of_cond 8 hx (by kernel_rfl) (fun k hk => by cases hk; kernel_rfl) (by kernel_rfl) (by rw [MakeChecks.laidMetH_plain _ _ _ (by kernel_rfl)]; exact laidMet_laidAll _ (by kernel_rfl) (by kernel_rfl)))) ?_
  intro W base args ds gs before hval hW _ hcond hw hL _ _
  have hk : Rows.uptoBulkAll (ds ++ gs) ≤ 1048576 := of_decide_eq_true (hcond _ rfl)
  have hk2 : Rows.uptoBulkAll ds ≤ 1048576 := by
    have : ∀ (a b : List (DataW H)), Rows.uptoBulkAll a ≤ Rows.uptoBulkAll (a ++ b) := by
      intro a b
      induction a with
      | nil => exact Nat.zero_le _
      | cons x r ih => show Rows.uptoBulk x + Rows.uptoBulkAll r ≤ Rows.uptoBulk x + Rows.uptoBulkAll (r ++ b); omega
    exact Nat.le_trans (this ds gs) hk
  exact Go.Am.law_contract_atU (s := Rows.pathParseSpec) (n := 7) mixed laidOut (okT (gv hL)) (by kernel_rfl) (by kernel_rfl) (by kernel_rfl) Tryd.underlying4 (by kernel_rfl) rfl (fun ds hd => by
    match ds, hd with
    | [d1, d2], _ => exact ⟨rfl, rfl, rfl⟩) (fun avs h hr => runs avs h ds hk2 hr) hval hW hw
set_option maxRecDepth 100000 in
theorem over : Rows.PathParseUptoSaid :=
  OpenClaim.holds_of_cond 6 Tryd.f6 rfl rfl rfl rfl rfl rfl rfl ⟨rfl, rfl, rfl, rfl, rfl⟩ rfl rfl rfl rfl rfl (by kernel_rfl) Tryd.func6 (by kernel_rfl)
    (of_decide_eq_true (by kernel_rfl)) (by unfold Func.isWrapper; first | (rw [if_pos (by decide +kernel)]; kernel_rfl) | (rw [if_neg (by decide +kernel)]; exact ⟨rfl, rfl⟩))
    (fun os started H enc _ F => by rw [OpenClaim.pre_eq_preRow]; exact lifted os started H enc F)

theorem stand9 : Tryd.prog.wantsStandIn 9 = false := by kernel_rfl
theorem stand22 : Tryd.prog.wantsStandIn 23 = false := by kernel_rfl
theorem stand (t : TypeId) (h : t = 9 ∨ t = 23) : Tryd.prog.wantsStandIn t = false := by
  rcases h with rfl | rfl
  · exact stand9
  · exact stand22
/-- The statement. -/
theorem proved : Rows.PathParseUptoCardSaid :=
  Claim7.holds_tied_plain_at .later [] [.data, .data, .data, .data, .sentinel, .sentinel, .pinned] true (true, "3f71e5a48b55df71bcdfa39708385a25512babbbd173318b3c6aa7cc5648e218") true over (fun _ h => by cases h) (by kernel_rfl) (fun _ h => by cases h) pathParseUpto_row_tie rfl ⟨rfl, rfl⟩ (by kernel_rfl) rfl
    (fun f fn hf hfn => by
      obtain rfl : f = 6 := Option.some.inj ((show Tryd.prog.funcNamed "lagoon/lagoonlaw19.PathParse" = some 6 by kernel_rfl).symm.trans hf) |>.symm
      obtain rfl : fn = Tryd.f6 := (Option.some.inj (Tryd.func6.symm.trans hfn)).symm
      exact ⟨by kernel_rfl, fun j t ht => by
        rw [Tryd.params6] at ht
        exact stand t (by
          rcases j with _ | _ | j
          · exact .inl (by simpa using ht.symm)
          · exact .inr (by simpa using ht.symm)
          · simp at ht)⟩)
    (by kernel_rfl)
#print axioms proved
end Go.Proofs.YtnhamanffojhfaaDoor.pathParse
