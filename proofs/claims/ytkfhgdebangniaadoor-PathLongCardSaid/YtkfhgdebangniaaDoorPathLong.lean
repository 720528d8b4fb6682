/-
 The law 'PathLong' returns true at every world: the statement 'Rows.PathLongCardSaid' (the tied card), with no condition of its own but what the row lists.
 The walk is the kernel's run of the abstract machine (YtkfhgdebangniaaDoorPathLongRun); of the listed variables it reads strconv.ErrSyntax, an error.
-/
import Derived.Test.YtkfhgdebangniaaDoorRows
import Derived.Test.YtkfhgdebangniaaDoorCards
import Derived.Test.YtkfhgdebangniaaDoorTie
import Derived.Test.YtkfhgdebangniaaDoorPathLongRun
import Derived.Test.YtkfhgdebangniaaDoorAmGlob
import Derived.LaidLaws
import Derived.WalkKit
import Derived.ProofKit
import Derived.OpenShut
import Derived.LaidMore
import Derived.Lay
import Derived.SevenTiedAt
import Derived.Stop.Joined
namespace Go.Proofs.YtkfhgdebangniaaDoor.pathLong
open Go.ChangeShapes Go.WideShapes Go.ChangeAt Go.RowKit
set_option linter.unusedVariables false

theorem own : ownKnob Tryd.prog.godebug = none := by kernel_rfl
theorem mixed : Tryd.prog.follows .mixedOrders = true := by kernel_rfl

theorem star : "*" ++ "errors.errorString" = "*errors.errorString" := by decide
theorem rowErr (u : TypeId) (h : Tryd.prog.typeName? 3 u = some "*errors.errorString") : u = 121 :=
  typeName_ptr_named (nm := "errors.errorString") (by rw [star]; kernel_rfl) (by kernel_rfl) (by decide) u (by rw [star]; exact h)

set_option maxRecDepth 100000 in
/-- What the row lists gives the variable that the run reads: strconv.ErrSyntax. -/
theorem err_cell {W : World} (h : laidMetH Tryd.prog Rows.pathLongRow.laid W) : ∃ (a : Addr) (c : Array Value) (t : TypeId), W.heap[2]? = some (.cells c t (0, 0)) ∧ c[0]? = some (.iface 121 (.pointer (some a))) ∧ a.spot = none := by
  rw [MakeChecks.laidMetH_plain _ _ _ (by kernel_rfl)] at h
  obtain ⟨ps, ⟨g0, t0, cs0, f0, p0, q0, hg0, ht0, hv0, hd0, ⟨g1, t1, cs1, f1, p1, q1, hg1, ht1, hv1, hd1, ⟨g2, t2, cs2, f2, p2, q2, hg2, ht2, hv2, hd2, ⟨g3, t3, cs3, f3, p3, q3, hg3, ht3, hv3, hd3, ⟨g4, t4, cs4, f4, p4, q4, hg4, ht4, hv4, hd4, ⟨g5, t5, cs5, f5, p5, q5, hg5, ht5, hv5, hd5, _, e5⟩, e4⟩, e3⟩, e2⟩, e1⟩, e0⟩, hnd, hrows⟩ := h
  obtain rfl := Option.some.inj ((show Tryd.prog.globalNamed "strconv.ErrSyntax" = some 2 by kernel_rfl).symm.trans hg5)
  obtain rfl := Option.some.inj ((show (Tryd.prog.globals[2]?).map (·.type) = some 58 by kernel_rfl).symm.trans ht5)
  have hmem : ∀ x ∈ MemPlace.row ⟨2, 0, none⟩ cs5.size, x ∈ ps := by
    intro x hx
    rw [e0, e1, e2, e3, e4, e5]
    simp [hx]
  clear e0 e1 e2 e3 e4 e5 hd0 hd1 hd2 hd3 hd4
  obtain ⟨l5⟩ := cs5
  have ok5 : ∀ u v, l5 = [.iface u v] → Value.okWide Tryd.prog W .any 0 u v := fun u v e => by
    subst e
    exact (hrows 2 0 (hmem _ (by simp [MemPlace.row]))).2 u v (by simpa using World.var?_cell hg5 hv5 0)
  obtain ⟨a, s, rfl, hc, hs, hz, rfl⟩ := errorString_of_trod Tryd.underlying58 rowErr Tryd.underlying121 Tryd.underlying123 rfl rfl Tryd.underlying9 (by kernel_rfl) (by kernel_rfl) hd5 ok5
  obtain ⟨c, t, hb⟩ := (hrows 2 0 (hmem _ (by simp [MemPlace.row]))).1
  refine ⟨a, c, t, hb, ?_, ?_⟩
  · have h6 := World.var?_cell hg5 hv5 0
    simp only [World.cell?, hb] at h6
    simpa using h6
  · cases hsp : a.spot with
    | none => rfl
    | some x =>
      simp only [World.cell?] at hc
      split at hc
      · simp [hsp] at hc
      · cases hc

theorem walk (w : World) (hL : laidMetH Tryd.prog Rows.pathLongRow.laid w) :
    Calls Tryd.prog 7 #[] w fun e w' => e = .returned (.bool true) ∧ Below w.heap.size w w' := by
  obtain ⟨a, c, t, h1, h2, h3⟩ := err_cell hL
  exact Go.Am.glob_true mixed con.con_ok 1000 30 7 2 121 200 (by omega) pathLongRun.run7 w h1 h2 h3

set_option maxRecDepth 100000 in
theorem lifted (os : Os) (started : os.Started) (H : Type) (enc : TypeId × Value → H) :
    ReturnsInHanded {} Tryd.checked os 7 .any (fun w args => (Rows.pathLongSpec.pre enc Tryd.prog Tryd.f7 Rows.pathLongRow.domain false w args ∧ laidMetH Tryd.prog Rows.pathLongRow.laid w) ∧ sizedMet enc Tryd.prog Tryd.f7 (OpenSpec.ofChange Rows.pathLongSpec) false w args)
      (Rows.pathLongSpec.post enc Tryd.prog Tryd.f7 false true false false) := by
  refine returnsInHanded_of_change_and (C := Tryd.checked) (X := fun w _ => laidMetH Tryd.prog Rows.pathLongRow.laid w) (fun _ _ _ hh h => h.of_heap hh) own started (by kernel_rfl) Tryd.func7
    (ChangeSpec.witness_shaped (enc := enc) (C := Tryd.checked) (os := os) (X := fun w _ => laidMetH Tryd.prog Rows.pathLongRow.laid w) false (World.laidAll Tryd.prog os Rows.pathLongRow.laid) #[] 8 (World.laidAll_os _ _ _)
      (World.shaped_of_ZipB (by kernel_rfl) (by kernel_rfl)) (by kernel_rfl) (by kernel_rfl) (by kernel_rfl)
      (by rw [MakeChecks.laidMetH_plain _ _ _ (by kernel_rfl)]; exact laidMet_laidAll _ (by kernel_rfl) (by kernel_rfl))) ?_
  intro W base args ds gs before hval0 hW hc _ hL _
  have hval : ∀ (j : Nat) t v, Tryd.f7.params[j]? = some t → args[j]? = some v → Value.okWide Tryd.prog W .any base t v := hval0
  have hW' := hW
  obtain ⟨p, q, hA0, hV, rfl, hfz, hnd⟩ := hW
  have hA : DataW.TrodAll enc Tryd.prog W 0 (fun _ => true) true Tryd.f7.params.toList args.toList ds p := hA0
  rw [Tryd.params7] at hA hval
  obtain ⟨rfl, rfl, rfl⟩ := trodAll_none hA
  obtain ⟨rfl, rfl⟩ := trodVars_none hV
  clear hA0 hval0
  simp only [List.append_nil] at hW'
  refine (walk W hL).mono fun e W' ⟨he, hg⟩ => ?_
  subst he
  exact ⟨_, rfl, Go.Am.post_of_below (pa := []) (pv := []) hW' (fun _ _ _ => (trodAll_cons_mk (shut_bool Tryd.underlying4 _) trodAll_mk0)) (fun sp _ => rfl) (fun _ _ => rfl) rfl
    hg (ok_one (by kernel_rfl) rfl (okWide_bool_mk Tryd.underlying4 _))⟩

theorem over : Rows.PathLongSaid :=
  OpenClaim.holds_of_wide 7 Tryd.f7 rfl rfl rfl rfl rfl rfl rfl ⟨rfl, rfl, rfl, rfl, rfl⟩ rfl rfl rfl rfl rfl (by kernel_rfl) Tryd.func7 (by kernel_rfl)
    (of_decide_eq_true (by kernel_rfl)) (by unfold Func.isWrapper; first | (rw [if_pos (by decide +kernel)]; kernel_rfl) | (rw [if_neg (by decide +kernel)]; exact ⟨rfl, rfl⟩))
    (fun os started H enc _ => lifted os started H enc)

theorem proved : Rows.PathLongCardSaid :=
  Claim7.holds_tied_plain_at .later [] [.data, .data, .data, .data, .sentinel, .sentinel, .pinned] true (true, "f8cd8d02ae7687ba915bca1cbe5d22e992c5c7d4b8d703c0aec2920ed50348fb") true over (fun _ h => by cases h) (by kernel_rfl) (fun _ h => by cases h) pathLong_row_tie rfl ⟨rfl, rfl⟩ (by kernel_rfl) rfl
    (fun f fn hf hfn => by
      obtain rfl : f = 7 := Option.some.inj ((show Tryd.prog.funcNamed "lagoon/lagoonlaw19.PathLong" = some 7 by kernel_rfl).symm.trans hf) |>.symm
      obtain rfl : fn = Tryd.f7 := (Option.some.inj (Tryd.func7.symm.trans hfn)).symm
      exact ⟨by kernel_rfl, fun j t ht => by
        rw [Tryd.params7] at ht
        simp at ht⟩)
    (by kernel_rfl)
#print axioms proved
end Go.Proofs.YtkfhgdebangniaaDoor.pathLong
