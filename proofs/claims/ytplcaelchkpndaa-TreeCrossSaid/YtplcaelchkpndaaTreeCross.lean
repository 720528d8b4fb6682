/-
 The law 'TreeCross' returns true at every five arguments: the statement 'Rows.TreeCrossSaid', with no condition of its own.
 The walk is the kernel's runs of the abstract machine (YtplcaelchkpndaaTreeCrossRunA to C), one for each order of the four numbers, carried over by 'runs_args' (YtplcaelchkpndaaAmArgs).
-/
import Derived.Test.YtplcaelchkpndaaRows
import Derived.WalkKit
import Derived.ProofKit
import Derived.OpenShut
import Derived.Test.YtplcaelchkpndaaTreeCrossRunA
import Derived.Test.YtplcaelchkpndaaTreeCrossRunB
import Derived.Test.YtplcaelchkpndaaTreeCrossRunC
namespace Go.Proofs.Ytplcaelchkpndaa.treeCross
open Go.ChangeShapes Go.WideShapes Go.ChangeAt Go.RowKit
set_option linter.unusedSimpArgs false
set_option linter.unusedVariables false      -- a walk need not use every 'w<i>' (that an integer argument fits its kind)

theorem own : ownKnob Try.prog.godebug = none := by kernel_rfl

theorem range64 {a : Int} (h : (Lit.int .i64 a).wf = true) : -9223372036854775808 ≤ a ∧ a ≤ 9223372036854775807 := by
  have e1 : IntKind.i64.min = -9223372036854775808 := by decide
  have e2 : IntKind.i64.max = 9223372036854775807 := by decide
  simp only [Lit.wf, Bool.and_eq_true, decide_eq_true_eq, e1, e2] at h
  exact h
theorem of_two {p : Prop} (h : p = (True ∧ True)) : p := by rw [h]; exact ⟨trivial, trivial⟩
open Go.Am in
theorem runs_two {P : Program} (hmix : P.follows .mixedOrders = true) {con : FuncId → Option ConD} (hcon : ConOK P con) {fuel n f : Nat} {avs : List AV} {next : Nat} (h : RunsArgs P con fuel n f avs next = (True ∧ True)) {κ : Kap} (hκ : ∀ o ki, κ o = some ki → o < next)
    {args : List Value} (ha : gams κ avs = some args) (w : World) : Calls P f args.toArray w fun e w' => e = .returned (.bool true) ∧ Below w.heap.size w w' := runs_args hmix hcon (of_two h) hκ ha w
theorem mixed : Try.prog.follows .mixedOrders = true := by kernel_rfl
open Go.Am in
theorem step {F : Fx} {a0 a1 a2 a3 : Int} {a4 : Bool} (w : World) (l0 : -9223372036854775808 ≤ a0) (l1 : -9223372036854775808 ≤ a1) (l2 : -9223372036854775808 ≤ a2) (l3 : -9223372036854775808 ≤ a3)
    (hF : okF (symK [a0, a1, a2, a3]) F = true) (hr : RunsArgs Try.prog con.con 1000 30 10 [.sym .i64 F 0, .sym .i64 F 1, .sym .i64 F 2, .sym .i64 F 3, .bool a4] 4 = (True ∧ True)) :
    Calls Try.prog 10 #[.int .i64 a0, .int .i64 a1, .int .i64 a2, .int .i64 a3, .bool a4] w fun e w' => e = .returned (.bool true) ∧ Below w.heap.size w w' := by
  have ha : gams (symK [a0, a1, a2, a3]) [.sym .i64 F 0, .sym .i64 F 1, .sym .i64 F 2, .sym .i64 F 3, .bool a4] = some [.int .i64 a0, .int .i64 a1, .int .i64 a2, .int .i64 a3, .bool a4] := by
    have g0 := gam_symK (k := .i64) hF (i := 0) (v := a0) rfl l0
    have g1 := gam_symK (k := .i64) hF (i := 1) (v := a1) rfl l1
    have g2 := gam_symK (k := .i64) hF (i := 2) (v := a2) rfl l2
    have g3 := gam_symK (k := .i64) hF (i := 3) (v := a3) rfl l3
    have g4 : gam (symK [a0, a1, a2, a3]) (.bool a4) = some (.bool a4) := by simp [gam]
    simp only [gams, g0, g1, g2, g3, g4, Option.bind_some, Option.map_some]
  have hk : ∀ o ki, symK [a0, a1, a2, a3] o = some ki → o < 4 := fun o ki h => symK_lt _ o ki h
  exact runs_two mixed con.con_ok hr hk ha w
open Go.Am in
theorem all_two {α : Type} {p : α → Bool} : ∀ {l : List α}, (∀ x ∈ l, p x = true) → l.all p = true := fun h => List.all_eq_true.2 h
open Go.Am treeCrossRun in
theorem walk (a0 : Int) (a1 : Int) (a2 : Int) (a3 : Int) (a4 : Bool) (w0 : (Lit.int .i64 a0).wf = true) (w1 : (Lit.int .i64 a1).wf = true) (w2 : (Lit.int .i64 a2).wf = true) (w3 : (Lit.int .i64 a3).wf = true) (w : World) :
    Calls Try.prog 10 #[.int .i64 a0, .int .i64 a1, .int .i64 a2, .int .i64 a3, .bool a4] w fun e w' => e = .returned (.bool true) ∧ Below w.heap.size w w' := by
  have r0 := range64 w0
  have r1 := range64 w1
  have r2 := range64 w2
  have r3 := range64 w3
  obtain ⟨l0, u0⟩ := r0
  obtain ⟨l1, u1⟩ := r1
  obtain ⟨l2, u2⟩ := r2
  obtain ⟨l3, u3⟩ := r3
  by_cases c0 : a0 < 10
  · have hF : okF (symK [a0, a1, a2, a3]) Fg1 = true := by
      simp only [okF, Fg1, List.all_cons, List.all_nil, Bool.and_true, Bool.and_eq_true]
      exact okB_of (v := a0) rfl l0 (by omega) (by omega)
    cases a4 with
    | true => exact step w l0 l1 l2 l3 hF run_g1_true
    | false => exact step w l0 l1 l2 l3 hF run_g1_false
  by_cases c1 : a1 < 10
  · have hF : okF (symK [a0, a1, a2, a3]) Fg2 = true := by
      simp only [okF, Fg2, List.all_cons, List.all_nil, Bool.and_true, Bool.and_eq_true]
      exact ⟨okB_of (v := a0) rfl l0 (by omega) (by omega), okB_of (v := a1) rfl l1 (by omega) (by omega)⟩
    cases a4 with
    | true => exact step w l0 l1 l2 l3 hF run_g2_true
    | false => exact step w l0 l1 l2 l3 hF run_g2_false
  by_cases c2 : a0 > 1000
  · have hF : okF (symK [a0, a1, a2, a3]) Fg3 = true := by
      simp only [okF, Fg3, List.all_cons, List.all_nil, Bool.and_true, Bool.and_eq_true]
      exact ⟨okB_of (v := a0) rfl l0 (by omega) (by omega), okB_of (v := a1) rfl l1 (by omega) (by omega)⟩
    cases a4 with
    | true => exact step w l0 l1 l2 l3 hF run_g3_true
    | false => exact step w l0 l1 l2 l3 hF run_g3_false
  by_cases c3 : a1 > 1000
  · have hF : okF (symK [a0, a1, a2, a3]) Fg4 = true := by
      simp only [okF, Fg4, List.all_cons, List.all_nil, Bool.and_true, Bool.and_eq_true]
      exact ⟨okB_of (v := a0) rfl l0 (by omega) (by omega), okB_of (v := a1) rfl l1 (by omega) (by omega)⟩
    cases a4 with
    | true => exact step w l0 l1 l2 l3 hF run_g4_true
    | false => exact step w l0 l1 l2 l3 hF run_g4_false
  by_cases c4 : a2 < 1
  · have hF : okF (symK [a0, a1, a2, a3]) Fg5 = true := by
      simp only [okF, Fg5, List.all_cons, List.all_nil, Bool.and_true, Bool.and_eq_true]
      exact ⟨okB_of (v := a0) rfl l0 (by omega) (by omega), ⟨okB_of (v := a1) rfl l1 (by omega) (by omega), okB_of (v := a2) rfl l2 (by omega) (by omega)⟩⟩
    cases a4 with
    | true => exact step w l0 l1 l2 l3 hF run_g5_true
    | false => exact step w l0 l1 l2 l3 hF run_g5_false
  by_cases c5 : a2 > 9
  · have hF : okF (symK [a0, a1, a2, a3]) Fg6 = true := by
      simp only [okF, Fg6, List.all_cons, List.all_nil, Bool.and_true, Bool.and_eq_true]
      exact ⟨okB_of (v := a0) rfl l0 (by omega) (by omega), ⟨okB_of (v := a1) rfl l1 (by omega) (by omega), okB_of (v := a2) rfl l2 (by omega) (by omega)⟩⟩
    cases a4 with
    | true => exact step w l0 l1 l2 l3 hF run_g6_true
    | false => exact step w l0 l1 l2 l3 hF run_g6_false
  by_cases c6 : a3 < 1
  · have hF : okF (symK [a0, a1, a2, a3]) Fg7 = true := by
      simp only [okF, Fg7, List.all_cons, List.all_nil, Bool.and_true, Bool.and_eq_true]
      exact ⟨okB_of (v := a0) rfl l0 (by omega) (by omega), ⟨okB_of (v := a1) rfl l1 (by omega) (by omega), ⟨okB_of (v := a2) rfl l2 (by omega) (by omega), okB_of (v := a3) rfl l3 (by omega) (by omega)⟩⟩⟩
    cases a4 with
    | true => exact step w l0 l1 l2 l3 hF run_g7_true
    | false => exact step w l0 l1 l2 l3 hF run_g7_false
  by_cases c7 : a3 > 9
  · have hF : okF (symK [a0, a1, a2, a3]) Fg8 = true := by
      simp only [okF, Fg8, List.all_cons, List.all_nil, Bool.and_true, Bool.and_eq_true]
      exact ⟨okB_of (v := a0) rfl l0 (by omega) (by omega), ⟨okB_of (v := a1) rfl l1 (by omega) (by omega), ⟨okB_of (v := a2) rfl l2 (by omega) (by omega), okB_of (v := a3) rfl l3 (by omega) (by omega)⟩⟩⟩
    cases a4 with
    | true => exact step w l0 l1 l2 l3 hF run_g8_true
    | false => exact step w l0 l1 l2 l3 hF run_g8_false
  by_cases c8 : a0 < a1
  · have hF : okF (symK [a0, a1, a2, a3]) Fm1 = true := by
      simp only [okF, Fm1, List.all_cons, List.all_nil, Bool.and_true, Bool.and_eq_true]
      exact ⟨⟨okB_of (v := a0) rfl l0 (by omega) (by omega), ⟨okB_of (v := a1) rfl l1 (by omega) (by omega), ⟨okB_of (v := a2) rfl l2 (by omega) (by omega), okB_of (v := a3) rfl l3 (by omega) (by omega)⟩⟩⟩, okR_lt (v := a0) (u := a1) rfl rfl l0 l1 (by omega)⟩
    cases a4 with
    | true => exact step w l0 l1 l2 l3 hF run_m1_true
    | false => exact step w l0 l1 l2 l3 hF run_m1_false
  by_cases c9 : a1 < a0
  · have hF : okF (symK [a0, a1, a2, a3]) Fm2 = true := by
      simp only [okF, Fm2, List.all_cons, List.all_nil, Bool.and_true, Bool.and_eq_true]
      exact ⟨⟨okB_of (v := a0) rfl l0 (by omega) (by omega), ⟨okB_of (v := a1) rfl l1 (by omega) (by omega), ⟨okB_of (v := a2) rfl l2 (by omega) (by omega), okB_of (v := a3) rfl l3 (by omega) (by omega)⟩⟩⟩, okR_lt (v := a1) (u := a0) rfl rfl l1 l0 (by omega)⟩
    cases a4 with
    | true => exact step w l0 l1 l2 l3 hF run_m2_true
    | false => exact step w l0 l1 l2 l3 hF run_m2_false
  by_cases c10 : a2 < a3
  · have hF : okF (symK [a0, a1, a2, a3]) Fm3 = true := by
      simp only [okF, Fm3, List.all_cons, List.all_nil, Bool.and_true, Bool.and_eq_true]
      exact ⟨⟨okB_of (v := a0) rfl l0 (by omega) (by omega), ⟨okB_of (v := a1) rfl l1 (by omega) (by omega), ⟨okB_of (v := a2) rfl l2 (by omega) (by omega), okB_of (v := a3) rfl l3 (by omega) (by omega)⟩⟩⟩, ⟨okR_eq (v := a0) (u := a1) rfl rfl l0 l1 (by omega), okR_lt (v := a2) (u := a3) rfl rfl l2 l3 (by omega)⟩⟩
    cases a4 with
    | true => exact step w l0 l1 l2 l3 hF run_m3_true
    | false => exact step w l0 l1 l2 l3 hF run_m3_false
  by_cases c11 : a3 < a2
  · have hF : okF (symK [a0, a1, a2, a3]) Fm4 = true := by
      simp only [okF, Fm4, List.all_cons, List.all_nil, Bool.and_true, Bool.and_eq_true]
      exact ⟨⟨okB_of (v := a0) rfl l0 (by omega) (by omega), ⟨okB_of (v := a1) rfl l1 (by omega) (by omega), ⟨okB_of (v := a2) rfl l2 (by omega) (by omega), okB_of (v := a3) rfl l3 (by omega) (by omega)⟩⟩⟩, ⟨okR_eq (v := a0) (u := a1) rfl rfl l0 l1 (by omega), okR_lt (v := a3) (u := a2) rfl rfl l3 l2 (by omega)⟩⟩
    cases a4 with
    | true => exact step w l0 l1 l2 l3 hF run_m4_true
    | false => exact step w l0 l1 l2 l3 hF run_m4_false
  have hF : okF (symK [a0, a1, a2, a3]) Fg9 = true := by
    simp only [okF, Fg9, List.all_cons, List.all_nil, Bool.and_true, Bool.and_eq_true]
    exact ⟨⟨okB_of (v := a0) rfl l0 (by omega) (by omega), ⟨okB_of (v := a1) rfl l1 (by omega) (by omega), ⟨okB_of (v := a2) rfl l2 (by omega) (by omega), okB_of (v := a3) rfl l3 (by omega) (by omega)⟩⟩⟩, ⟨okR_eq (v := a0) (u := a1) rfl rfl l0 l1 (by omega), okR_eq (v := a2) (u := a3) rfl rfl l2 l3 (by omega)⟩⟩
  cases a4 with
  | true => exact step w l0 l1 l2 l3 hF run_g9_true
  | false => exact step w l0 l1 l2 l3 hF run_g9_false

/-! ### THE ROW's STEP: WRITTEN OUT: LEAVE IT -/
set_option maxRecDepth 100000 in
theorem lifted (os : Os) (started : os.Started) (H : Type) (enc : TypeId × Value → H) :
    ReturnsInHanded {} Try.checked os 10 .any (Rows.treeCrossSpec.pre6 enc Try.prog Try.f10 Rows.treeCrossRow.domain false) (Rows.treeCrossSpec.post enc Try.prog Try.f10 false true false false) := by
  refine returnsInHanded_of_change (C := Try.checked) own started (by kernel_rfl) Try.func10
    (ChangeSpec.witness6 (enc := enc) (C := Try.checked) false ⟨#[], #[.int .i64 0, .int .i64 0, .int .i64 0, .int .i64 0, .bool false], []⟩ 8 (by kernel_rfl) (by kernel_rfl) (by kernel_rfl) (by kernel_rfl)) ?_
  intro W base args ds gs before hval0 hW hcnd _
  have hval : ∀ (j : Nat) t v, Try.f10.params[j]? = some t → args[j]? = some v → Value.okWide Try.prog W .any base t v := hval0
  have hW' := hW
  obtain ⟨p, q, hA0, hV, rfl, hfz, hnd⟩ := hW
  have hA : DataW.TrodAll enc Try.prog W 0 (fun _ => true) true Try.f10.params.toList args.toList ds p := hA0
  rw [Try.params10] at hA hval
  obtain ⟨v0, vs0, d0, ds0, p0, q0, hargs, rfl, rfl, h0, r0⟩ := trodAll_cons hA
  obtain ⟨v1, vs1, d1, ds1, p1, q1, rfl, rfl, rfl, h1, r1⟩ := trodAll_cons r0
  obtain ⟨v2, vs2, d2, ds2, p2, q2, rfl, rfl, rfl, h2, r2⟩ := trodAll_cons r1
  obtain ⟨v3, vs3, d3, ds3, p3, q3, rfl, rfl, rfl, h3, r3⟩ := trodAll_cons r2
  obtain ⟨v4, vs4, d4, ds4, p4, q4, rfl, rfl, rfl, h4, r4⟩ := trodAll_cons r3
  obtain ⟨rfl, rfl, rfl⟩ := trodAll_nil r4
  obtain rfl : args = #[v0, v1, v2, v3, v4] := by cases args; simp_all
  obtain ⟨rfl, rfl⟩ := trodVars_none hV
  obtain ⟨a0, rfl, rfl, rfl, w0⟩ := open_int Try.underlying2 (hval 0 2 v0 rfl rfl) h0
  obtain ⟨a1, rfl, rfl, rfl, w1⟩ := open_int Try.underlying2 (hval 1 2 v1 rfl rfl) h1
  obtain ⟨a2, rfl, rfl, rfl, w2⟩ := open_int Try.underlying3 (hval 2 3 v2 rfl rfl) h2
  obtain ⟨a3, rfl, rfl, rfl, w3⟩ := open_int Try.underlying3 (hval 3 3 v3 rfl rfl) h3
  obtain ⟨a4, rfl, rfl, rfl⟩ := open_bool Try.underlying4 (hval 4 4 v4 rfl rfl) h4
  clear hA0 hval0
  simp only [List.append_nil] at hW'
  refine (walk a0 a1 a2 a3 a4 w0 w1 w2 w3 W).mono fun e W' ⟨he, hg⟩ => ?_
  subst he
  exact ⟨_, rfl, Go.Am.post_of_below (pa := []) (pv := []) hW' (fun _ _ _ => (trodAll_cons_mk (shut_bool Try.underlying4 _) trodAll_mk0)) (fun sp _ => (trodAll_cons_mk (shut_int Try.underlying2 w0) (trodAll_cons_mk (shut_int Try.underlying2 w1) (trodAll_cons_mk (shut_int Try.underlying3 w2) (trodAll_cons_mk (shut_int Try.underlying3 w3) (trodAll_cons_mk (shut_bool Try.underlying4 _) trodAll_mk0)))))) (fun _ _ => rfl) rfl
    hg (ok_one (by kernel_rfl) rfl (okWide_bool_mk Try.underlying4 _))⟩

theorem over : Rows.treeCrossRow.holds Try.pinned (OpenSpec.ofChange Rows.treeCrossSpec) :=
  OpenClaim.holds_of_wide 10 Try.f10 rfl rfl rfl rfl rfl rfl rfl ⟨rfl, rfl, rfl, rfl, rfl⟩ rfl rfl rfl rfl rfl (by kernel_rfl) Try.func10 (by kernel_rfl)
    (of_decide_eq_true (by kernel_rfl)) (by unfold Func.isWrapper; first | (rw [if_pos (by decide +kernel)]; kernel_rfl) | (rw [if_neg (by decide +kernel)]; exact ⟨rfl, rfl⟩))
    (fun os started H enc _ => lifted os started H enc)

/-- ████ THE STATEMENT ████ -/
theorem proved : Rows.TreeCrossSaid :=
  over
#print axioms proved
end Go.Proofs.Ytplcaelchkpndaa.treeCross
