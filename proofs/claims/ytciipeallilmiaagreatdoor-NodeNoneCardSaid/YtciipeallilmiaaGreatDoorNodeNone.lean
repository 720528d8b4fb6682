/-
 The law 'NodeNone' returns true at every world: the statement 'Rows.NodeNoneCardSaid' (the tied card), with no condition of its own but what the row lists.
 The walk is the kernel's run of the abstract machine (YtciipeallilmiaaGreatDoorNodeNoneRun); of the listed variables it reads strconv.ErrSyntax, an error.
-/
import Derived.Test.YtciipeallilmiaaGreatDoorRows
import Derived.Test.YtciipeallilmiaaGreatDoorCards
import Derived.Test.YtciipeallilmiaaGreatDoorTie
import Derived.Test.YtciipeallilmiaaGreatDoorNodeNoneRun
import Derived.Test.YtciipeallilmiaaGreatDoorNodeNoneJ
import Derived.Test.YtciipeallilmiaaGreatDoorNodeNoneG
import Derived.Test.YtciipeallilmiaaGreatDoorAmC
import Derived.LaidLaws
import Derived.WalkKit
import Derived.ProofKit
import Derived.OpenShut
import Derived.LaidMore
import Derived.Lay
import Derived.SevenTiedAt
import Derived.Stop.Joined
namespace Go.Proofs.YtciipeallilmiaaGreatDoor.nodeNone
open Go.ChangeShapes Go.WideShapes Go.ChangeAt Go.RowKit
set_option linter.unusedVariables false

theorem own : ownKnob Tryz.prog.godebug = none := by kernel_rfl
theorem mixed : Tryz.prog.follows .mixedOrders = true := by kernel_rfl

theorem star : "*" ++ "errors.errorString" = "*errors.errorString" := by decide
theorem rowErr (u : TypeId) (h : Tryz.prog.typeName? 3 u = some "*errors.errorString") : u = 481 :=
  typeName_ptr_named (nm := "errors.errorString") (by rw [star]; kernel_rfl) (by kernel_rfl) (by decide) u (by rw [star]; exact h)

set_option maxRecDepth 100000 in
/-- What the row lists gives the variable that the run reads: strconv.ErrSyntax. -/
theorem err_cell {W : World} (h : laidMetH Tryz.prog Rows.nodeNoneRow.laid W) : ∃ (a : Addr) (c : Array Value) (t : TypeId), W.heap[6]? = some (.cells c t (0, 0)) ∧ c[0]? = some (.iface 481 (.pointer (some a))) ∧ a.spot = none := by
  rw [MakeChecks.laidMetH_plain _ _ _ (by kernel_rfl)] at h
  obtain ⟨ps, ⟨g0, t0, cs0, f0, p0, q0, hg0, ht0, hv0, hd0, ⟨g1, t1, cs1, f1, p1, q1, hg1, ht1, hv1, hd1, ⟨g2, t2, cs2, f2, p2, q2, hg2, ht2, hv2, hd2, ⟨g3, t3, cs3, f3, p3, q3, hg3, ht3, hv3, hd3, ⟨g4, t4, cs4, f4, p4, q4, hg4, ht4, hv4, hd4, ⟨g5, t5, cs5, f5, p5, q5, hg5, ht5, hv5, hd5, _, e5⟩, e4⟩, e3⟩, e2⟩, e1⟩, e0⟩, hnd, hrows⟩ := h
  obtain rfl := Option.some.inj ((show Tryz.prog.globalNamed "strconv.ErrSyntax" = some 6 by kernel_rfl).symm.trans hg5)
  obtain rfl := Option.some.inj ((show (Tryz.prog.globals[6]?).map (·.type) = some 417 by kernel_rfl).symm.trans ht5)
  have hmem : ∀ x ∈ MemPlace.row ⟨6, 0, none⟩ cs5.size, x ∈ ps := by
    intro x hx
    rw [e0, e1, e2, e3, e4, e5]
    simp [hx]
  clear e0 e1 e2 e3 e4 e5 hd0 hd1 hd2 hd3 hd4
  obtain ⟨l5⟩ := cs5
  have ok5 : ∀ u v, l5 = [.iface u v] → Value.okWide Tryz.prog W .any 0 u v := fun u v e => by
    subst e
    exact (hrows 6 0 (hmem _ (by simp [MemPlace.row]))).2 u v (by simpa using World.var?_cell hg5 hv5 0)
  obtain ⟨a, s, rfl, hc, hs, hz, rfl⟩ := errorString_of_trod Tryz.underlying417 rowErr Tryz.underlying481 Tryz.underlying483 rfl rfl Tryz.underlying9 (by kernel_rfl) (by kernel_rfl) hd5 ok5
  obtain ⟨c, t, hb⟩ := (hrows 6 0 (hmem _ (by simp [MemPlace.row]))).1
  refine ⟨a, c, t, hb, ?_, ?_⟩
  · have h6 := World.var?_cell hg5 hv5 0
    simp only [World.cell?, hb] at h6
    simpa using h6
  · cases hsp : a.spot with
    | none => rfl
    | some x =>
      simp only [World.cell?] at hc
      split at hc
      · simp [hsp] at hc
      · cases hc

theorem walk (w : World) (hL : laidMetH Tryz.prog Rows.nodeNoneRow.laid w) :
    Calls Tryz.prog 3 #[] w fun e w' => e = .returned (.bool true) ∧ Below w.heap.size w w' := by
  obtain ⟨a, c, t, h1, h2, h3⟩ := err_cell hL
  exact Go.Am.glob_true mixed ov.rows_ok 2000 30 3 6 481 8 (by omega) nodeNoneRun.run3 w h1 h2 h3

set_option maxRecDepth 100000 in
theorem lifted (os : Os) (started : os.Started) (H : Type) (enc : TypeId × Value → H) :
    ReturnsInHanded {} Tryz.checked os 3 .any (fun w args => (Rows.nodeNoneSpec.pre enc Tryz.prog Tryz.f3 Rows.nodeNoneRow.domain false w args ∧ laidMetH Tryz.prog Rows.nodeNoneRow.laid w) ∧ sizedMet enc Tryz.prog Tryz.f3 (OpenSpec.ofChange Rows.nodeNoneSpec) false w args)
      (Rows.nodeNoneSpec.post enc Tryz.prog Tryz.f3 false true false false) := by
  refine returnsInHanded_of_change_and (C := Tryz.checked) (X := fun w _ => laidMetH Tryz.prog Rows.nodeNoneRow.laid w) (fun _ _ _ hh h => h.of_heap hh) own started (by kernel_rfl) Tryz.func3
    (ChangeSpec.witness_shaped (enc := enc) (C := Tryz.checked) (os := os) (X := fun w _ => laidMetH Tryz.prog Rows.nodeNoneRow.laid w) false (World.laidAll Tryz.prog os Rows.nodeNoneRow.laid) #[] 8 (World.laidAll_os _ _ _)
      (World.shaped_of_ZipB (by kernel_rfl) (by kernel_rfl)) (by kernel_rfl) (by kernel_rfl) (by kernel_rfl)
      (by rw [MakeChecks.laidMetH_plain _ _ _ (by kernel_rfl)]; exact laidMet_laidAll _ (by kernel_rfl) (by kernel_rfl))) ?_
  intro W base args ds gs before hval0 hW hc _ hL _
  have hval : ∀ (j : Nat) t v, Tryz.f3.params[j]? = some t → args[j]? = some v → Value.okWide Tryz.prog W .any base t v := hval0
  have hW' := hW
  obtain ⟨p, q, hA0, hV, rfl, hfz, hnd⟩ := hW
  have hA : DataW.TrodAll enc Tryz.prog W 0 (fun _ => true) true Tryz.f3.params.toList args.toList ds p := hA0
  rw [Tryz.params3] at hA hval
  obtain ⟨rfl, rfl, rfl⟩ := trodAll_none hA
  obtain ⟨rfl, rfl⟩ := trodVars_none hV
  clear hA0 hval0
  simp only [List.append_nil] at hW'
  refine (walk W hL).mono fun e W' ⟨he, hg⟩ => ?_
  subst he
  exact ⟨_, rfl, Go.Am.post_of_below (pa := []) (pv := []) hW' (fun _ _ _ => (trodAll_cons_mk (shut_bool Tryz.underlying4 _) trodAll_mk0)) (fun sp _ => rfl) (fun _ _ => rfl) rfl
    hg (ok_one (by kernel_rfl) rfl (okWide_bool_mk Tryz.underlying4 _))⟩

theorem over : Rows.NodeNoneSaid :=
  OpenClaim.holds_of_wide 3 Tryz.f3 rfl rfl rfl rfl rfl rfl rfl ⟨rfl, rfl, rfl, rfl, rfl⟩ rfl rfl rfl rfl rfl (by kernel_rfl) Tryz.func3 nodeNoneJ.closed
    (of_decide_eq_true (by kernel_rfl)) (by unfold Func.isWrapper; first | (rw [if_pos (by decide +kernel)]; kernel_rfl) | (rw [if_neg (by decide +kernel)]; exact ⟨rfl, rfl⟩))
    (fun os started H enc _ => lifted os started H enc)

theorem proved : Rows.NodeNoneCardSaid :=
  Claim7.holds_tied_plain_at .later [] [.data, .data, .data, .data, .sentinel, .sentinel, .pinned] true (true, "81b85df386cf8e8ab57c581b6263265f2c156c8ad286c20c33e6bc2530b2e205") true over (fun _ h => by cases h) (by kernel_rfl) (fun _ h => by cases h) nodeNone_row_tie rfl ⟨rfl, rfl⟩ (by kernel_rfl) rfl
    (fun f fn hf hfn => by
      obtain rfl : f = 3 := Option.some.inj ((show Tryz.prog.funcNamed "lagoon/lagoonlaw24.NodeNone" = some 3 by kernel_rfl).symm.trans hf) |>.symm
      obtain rfl : fn = Tryz.f3 := (Option.some.inj (Tryz.func3.symm.trans hfn)).symm
      exact ⟨by kernel_rfl, fun j t ht => by
        rw [Tryz.params3] at ht
        simp at ht⟩)
    nodeNoneG.goes
#print axioms proved
end Go.Proofs.YtciipeallilmiaaGreatDoor.nodeNone
