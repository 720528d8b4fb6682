/-
 The law 'TreeTrash' returns true at every argument: the statement 'Rows.TreeTrashSaid', with no condition of its own.
 The walk is the kernel's runs of the abstract machine (YtnegmbnkccngoaaTreeTrashRun0 and on), one for each choice of the arguments within the ranges that the law looks at, and symbolic ones for all others, carried over by 'tab_args' and 'tab_syms'.
-/
import Derived.Test.YtnegmbnkccngoaaRows
import Derived.WalkKit
import Derived.ProofKit
import Derived.OpenShut
import Derived.Test.YtnegmbnkccngoaaTreeTrashRun0
import Derived.Test.YtnegmbnkccngoaaTreeTrashRun1
import Derived.Test.YtnegmbnkccngoaaTreeTrashRun2
import Derived.Test.YtnegmbnkccngoaaTreeTrashRun3
import Derived.Test.YtnegmbnkccngoaaAmC
namespace Go.Proofs.Ytnegmbnkccngoaa.treeTrash
open Go.ChangeShapes Go.WideShapes Go.ChangeAt Go.RowKit
set_option linter.unusedSimpArgs false
set_option linter.unusedVariables false      -- a walk need not use every 'w<i>' (that an integer argument fits its kind)

theorem own : ownKnob Try.prog.godebug = none := by kernel_rfl

theorem mixed : Try.prog.follows .mixedOrders = true := by kernel_rfl
theorem range64 {a : Int} (h : (Lit.int .i64 a).wf = true) : -9223372036854775808 ≤ a ∧ a ≤ 9223372036854775807 := by
  have e1 : IntKind.i64.min = -9223372036854775808 := by decide
  have e2 : IntKind.i64.max = 9223372036854775807 := by decide
  simp only [Lit.wf, Bool.and_eq_true, decide_eq_true_eq, e1, e2] at h
  exact h
open Go.Am in
theorem symsT {P : Program} (hmix : P.follows .mixedOrders = true) {ov : FuncId → Option FunD} (hov : OvOK P ov) {fuel n f : Nat} {avs : List AV} {next : Nat} (h : TabArgs P ov fuel n f avs next = True) {κ : Kap} (hκ : ∀ o ki, κ o = some ki → o < next)
    {args : List Value} (ha : gams κ avs = some args) (w : World) : Calls P f args.toArray w fun e w' => e = .returned (.bool true) ∧ Below w.heap.size w w' := tab_syms hmix hov (of_eq_true h) hκ ha w
open Go.Am treeTrashRun in
theorem sym_t {F : Fx} (a0 : Int) (l0 : -9223372036854775808 ≤ a0) (hF : okF (symK [a0]) F = true) (hr : TabArgs Try.prog (tabF ov.rows) 1000 40 4 [.sym .i64 F 0, .bool true] 1 = True) (w : World) :
    Calls Try.prog 4 #[.int .i64 a0, .bool true] w fun e w' => e = .returned (.bool true) ∧ Below w.heap.size w w' := by
  have g0 := gam_symK (k := .i64) hF (i := 0) (v := a0) rfl l0
  have ha : gams (symK [a0]) [.sym .i64 F 0, .bool true] = some [.int .i64 a0, .bool true] := by
    simp only [gams, g0]
    simp [gam]
  exact symsT mixed ov.rows_ok hr (fun o ki h => symK_lt [a0] o ki h) ha w
open Go.Am treeTrashRun in
theorem sym_f {F : Fx} (a0 : Int) (l0 : -9223372036854775808 ≤ a0) (hF : okF (symK [a0]) F = true) (hr : TabArgs Try.prog (tabF ov.rows) 1000 40 4 [.sym .i64 F 0, .bool false] 1 = True) (w : World) :
    Calls Try.prog 4 #[.int .i64 a0, .bool false] w fun e w' => e = .returned (.bool true) ∧ Below w.heap.size w w' := by
  have g0 := gam_symK (k := .i64) hF (i := 0) (v := a0) rfl l0
  have ha : gams (symK [a0]) [.sym .i64 F 0, .bool false] = some [.int .i64 a0, .bool false] := by
    simp only [gams, g0]
    simp [gam]
  exact symsT mixed ov.rows_ok hr (fun o ki h => symK_lt [a0] o ki h) ha w
open Go.Am treeTrashRun in
theorem walk (a0 : Int) (a1 : Bool) (w0 : (Lit.int .i64 a0).wf = true) (w : World) :
    Calls Try.prog 4 #[.int .i64 a0, .bool a1] w fun e w' => e = .returned (.bool true) ∧ Below w.heap.size w w' := by
  obtain ⟨l0, u0⟩ := range64 w0
  by_cases c0lo : a0 < 1
  · have hF : okF (symK [a0]) F0lo = true := by
      simp only [okF, F0lo, List.all_cons, List.all_nil, Bool.and_true, Bool.and_eq_true]
      exact okB_of (v := a0) rfl l0 (by omega) (by omega)
    cases a1 with
    | true =>
      exact sym_t a0 l0 hF run_F0lo_t w
    | false =>
      exact sym_f a0 l0 hF run_F0lo_f w
  by_cases c0hi : 20 < a0
  · have hF : okF (symK [a0]) F0hi = true := by
      simp only [okF, F0hi, List.all_cons, List.all_nil, Bool.and_true, Bool.and_eq_true]
      exact okB_of (v := a0) rfl l0 (by omega) (by omega)
    cases a1 with
    | true =>
      exact sym_t a0 l0 hF run_F0hi_t w
    | false =>
      exact sym_f a0 l0 hF run_F0hi_f w
  have hc0 : a0 = 1 ∨ a0 = 2 ∨ a0 = 3 ∨ a0 = 4 ∨ a0 = 5 ∨ a0 = 6 ∨ a0 = 7 ∨ a0 = 8 ∨ a0 = 9 ∨ a0 = 10 ∨ a0 = 11 ∨ a0 = 12 ∨ a0 = 13 ∨ a0 = 14 ∨ a0 = 15 ∨ a0 = 16 ∨ a0 = 17 ∨ a0 = 18 ∨ a0 = 19 ∨ a0 = 20 := by omega
  rcases hc0 with rfl | rfl | rfl | rfl | rfl | rfl | rfl | rfl | rfl | rfl | rfl | rfl | rfl | rfl | rfl | rfl | rfl | rfl | rfl | rfl
  · cases a1 with
    | true =>
      exact tab_args mixed ov.rows_ok 1000 40 4 (args := [.int .i64 (1), .bool true]) (by simp [gams, gam]) run_1_t w
    | false =>
      exact tab_args mixed ov.rows_ok 1000 40 4 (args := [.int .i64 (1), .bool false]) (by simp [gams, gam]) run_1_f w
  · cases a1 with
    | true =>
      exact tab_args mixed ov.rows_ok 1000 40 4 (args := [.int .i64 (2), .bool true]) (by simp [gams, gam]) run_2_t w
    | false =>
      exact tab_args mixed ov.rows_ok 1000 40 4 (args := [.int .i64 (2), .bool false]) (by simp [gams, gam]) run_2_f w
  · cases a1 with
    | true =>
      exact tab_args mixed ov.rows_ok 1000 40 4 (args := [.int .i64 (3), .bool true]) (by simp [gams, gam]) run_3_t w
    | false =>
      exact tab_args mixed ov.rows_ok 1000 40 4 (args := [.int .i64 (3), .bool false]) (by simp [gams, gam]) run_3_f w
  · cases a1 with
    | true =>
      exact tab_args mixed ov.rows_ok 1000 40 4 (args := [.int .i64 (4), .bool true]) (by simp [gams, gam]) run_4_t w
    | false =>
      exact tab_args mixed ov.rows_ok 1000 40 4 (args := [.int .i64 (4), .bool false]) (by simp [gams, gam]) run_4_f w
  · cases a1 with
    | true =>
      exact tab_args mixed ov.rows_ok 1000 40 4 (args := [.int .i64 (5), .bool true]) (by simp [gams, gam]) run_5_t w
    | false =>
      exact tab_args mixed ov.rows_ok 1000 40 4 (args := [.int .i64 (5), .bool false]) (by simp [gams, gam]) run_5_f w
  · cases a1 with
    | true =>
      exact tab_args mixed ov.rows_ok 1000 40 4 (args := [.int .i64 (6), .bool true]) (by simp [gams, gam]) run_6_t w
    | false =>
      exact tab_args mixed ov.rows_ok 1000 40 4 (args := [.int .i64 (6), .bool false]) (by simp [gams, gam]) run_6_f w
  · cases a1 with
    | true =>
      exact tab_args mixed ov.rows_ok 1000 40 4 (args := [.int .i64 (7), .bool true]) (by simp [gams, gam]) run_7_t w
    | false =>
      exact tab_args mixed ov.rows_ok 1000 40 4 (args := [.int .i64 (7), .bool false]) (by simp [gams, gam]) run_7_f w
  · cases a1 with
    | true =>
      exact tab_args mixed ov.rows_ok 1000 40 4 (args := [.int .i64 (8), .bool true]) (by simp [gams, gam]) run_8_t w
    | false =>
      exact tab_args mixed ov.rows_ok 1000 40 4 (args := [.int .i64 (8), .bool false]) (by simp [gams, gam]) run_8_f w
  · cases a1 with
    | true =>
      exact tab_args mixed ov.rows_ok 1000 40 4 (args := [.int .i64 (9), .bool true]) (by simp [gams, gam]) run_9_t w
    | false =>
      exact tab_args mixed ov.rows_ok 1000 40 4 (args := [.int .i64 (9), .bool false]) (by simp [gams, gam]) run_9_f w
  · cases a1 with
    | true =>
      exact tab_args mixed ov.rows_ok 1000 40 4 (args := [.int .i64 (10), .bool true]) (by simp [gams, gam]) run_10_t w
    | false =>
      exact tab_args mixed ov.rows_ok 1000 40 4 (args := [.int .i64 (10), .bool false]) (by simp [gams, gam]) run_10_f w
  · cases a1 with
    | true =>
      exact tab_args mixed ov.rows_ok 1000 40 4 (args := [.int .i64 (11), .bool true]) (by simp [gams, gam]) run_11_t w
    | false =>
      exact tab_args mixed ov.rows_ok 1000 40 4 (args := [.int .i64 (11), .bool false]) (by simp [gams, gam]) run_11_f w
  · cases a1 with
    | true =>
      exact tab_args mixed ov.rows_ok 1000 40 4 (args := [.int .i64 (12), .bool true]) (by simp [gams, gam]) run_12_t w
    | false =>
      exact tab_args mixed ov.rows_ok 1000 40 4 (args := [.int .i64 (12), .bool false]) (by simp [gams, gam]) run_12_f w
  · cases a1 with
    | true =>
      exact tab_args mixed ov.rows_ok 1000 40 4 (args := [.int .i64 (13), .bool true]) (by simp [gams, gam]) run_13_t w
    | false =>
      exact tab_args mixed ov.rows_ok 1000 40 4 (args := [.int .i64 (13), .bool false]) (by simp [gams, gam]) run_13_f w
  · cases a1 with
    | true =>
      exact tab_args mixed ov.rows_ok 1000 40 4 (args := [.int .i64 (14), .bool true]) (by simp [gams, gam]) run_14_t w
    | false =>
      exact tab_args mixed ov.rows_ok 1000 40 4 (args := [.int .i64 (14), .bool false]) (by simp [gams, gam]) run_14_f w
  · cases a1 with
    | true =>
      exact tab_args mixed ov.rows_ok 1000 40 4 (args := [.int .i64 (15), .bool true]) (by simp [gams, gam]) run_15_t w
    | false =>
      exact tab_args mixed ov.rows_ok 1000 40 4 (args := [.int .i64 (15), .bool false]) (by simp [gams, gam]) run_15_f w
  · cases a1 with
    | true =>
      exact tab_args mixed ov.rows_ok 1000 40 4 (args := [.int .i64 (16), .bool true]) (by simp [gams, gam]) run_16_t w
    | false =>
      exact tab_args mixed ov.rows_ok 1000 40 4 (args := [.int .i64 (16), .bool false]) (by simp [gams, gam]) run_16_f w
  · cases a1 with
    | true =>
      exact tab_args mixed ov.rows_ok 1000 40 4 (args := [.int .i64 (17), .bool true]) (by simp [gams, gam]) run_17_t w
    | false =>
      exact tab_args mixed ov.rows_ok 1000 40 4 (args := [.int .i64 (17), .bool false]) (by simp [gams, gam]) run_17_f w
  · cases a1 with
    | true =>
      exact tab_args mixed ov.rows_ok 1000 40 4 (args := [.int .i64 (18), .bool true]) (by simp [gams, gam]) run_18_t w
    | false =>
      exact tab_args mixed ov.rows_ok 1000 40 4 (args := [.int .i64 (18), .bool false]) (by simp [gams, gam]) run_18_f w
  · cases a1 with
    | true =>
      exact tab_args mixed ov.rows_ok 1000 40 4 (args := [.int .i64 (19), .bool true]) (by simp [gams, gam]) run_19_t w
    | false =>
      exact tab_args mixed ov.rows_ok 1000 40 4 (args := [.int .i64 (19), .bool false]) (by simp [gams, gam]) run_19_f w
  · cases a1 with
    | true =>
      exact tab_args mixed ov.rows_ok 1000 40 4 (args := [.int .i64 (20), .bool true]) (by simp [gams, gam]) run_20_t w
    | false =>
      exact tab_args mixed ov.rows_ok 1000 40 4 (args := [.int .i64 (20), .bool false]) (by simp [gams, gam]) run_20_f w

/-! ### THE ROW's STEP: WRITTEN OUT: LEAVE IT -/
set_option maxRecDepth 100000 in
theorem lifted (os : Os) (started : os.Started) (H : Type) (enc : TypeId × Value → H) :
    ReturnsInHanded {} Try.checked os 4 .any (Rows.treeTrashSpec.pre6 enc Try.prog Try.f4 Rows.treeTrashRow.domain false) (Rows.treeTrashSpec.post enc Try.prog Try.f4 false true false false) := by
  refine returnsInHanded_of_change (C := Try.checked) own started (by kernel_rfl) Try.func4
    (ChangeSpec.witness6 (enc := enc) (C := Try.checked) false ⟨#[], #[.int .i64 0, .bool false], []⟩ 8 (by kernel_rfl) (by kernel_rfl) (by kernel_rfl) (by kernel_rfl)) ?_
  intro W base args ds gs before hval0 hW hcnd _
  have hval : ∀ (j : Nat) t v, Try.f4.params[j]? = some t → args[j]? = some v → Value.okWide Try.prog W .any base t v := hval0
  have hW' := hW
  obtain ⟨p, q, hA0, hV, rfl, hfz, hnd⟩ := hW
  have hA : DataW.TrodAll enc Try.prog W 0 (fun _ => true) true Try.f4.params.toList args.toList ds p := hA0
  rw [Try.params4] at hA hval
  obtain ⟨v0, vs0, d0, ds0, p0, q0, hargs, rfl, rfl, h0, r0⟩ := trodAll_cons hA
  obtain ⟨v1, vs1, d1, ds1, p1, q1, rfl, rfl, rfl, h1, r1⟩ := trodAll_cons r0
  obtain ⟨rfl, rfl, rfl⟩ := trodAll_nil r1
  obtain rfl : args = #[v0, v1] := by cases args; simp_all
  obtain ⟨rfl, rfl⟩ := trodVars_none hV
  obtain ⟨a0, rfl, rfl, rfl, w0⟩ := open_int Try.underlying3 (hval 0 3 v0 rfl rfl) h0
  obtain ⟨a1, rfl, rfl, rfl⟩ := open_bool Try.underlying4 (hval 1 4 v1 rfl rfl) h1
  clear hA0 hval0
  simp only [List.append_nil] at hW'
  refine (walk a0 a1 w0 W).mono fun e W' ⟨he, hg⟩ => ?_
  subst he
  exact ⟨_, rfl, Go.Am.post_of_below (pa := []) (pv := []) hW' (fun _ _ _ => (trodAll_cons_mk (shut_bool Try.underlying4 _) trodAll_mk0)) (fun sp _ => (trodAll_cons_mk (shut_int Try.underlying3 w0) (trodAll_cons_mk (shut_bool Try.underlying4 _) trodAll_mk0))) (fun _ _ => rfl) rfl
    hg (ok_one (by kernel_rfl) rfl (okWide_bool_mk Try.underlying4 _))⟩

theorem over : Rows.treeTrashRow.holds Try.pinned (OpenSpec.ofChange Rows.treeTrashSpec) :=
  OpenClaim.holds_of_wide 4 Try.f4 rfl rfl rfl rfl rfl rfl rfl ⟨rfl, rfl, rfl, rfl, rfl⟩ rfl rfl rfl rfl rfl (by kernel_rfl) Try.func4 (by kernel_rfl)
    (of_decide_eq_true (by kernel_rfl)) (by unfold Func.isWrapper; first | (rw [if_pos (by decide +kernel)]; kernel_rfl) | (rw [if_neg (by decide +kernel)]; exact ⟨rfl, rfl⟩))
    (fun os started H enc _ => lifted os started H enc)

/-- ████ THE STATEMENT ████ -/
theorem proved : Rows.TreeTrashSaid :=
  over
#print axioms proved
end Go.Proofs.Ytnegmbnkccngoaa.treeTrash
