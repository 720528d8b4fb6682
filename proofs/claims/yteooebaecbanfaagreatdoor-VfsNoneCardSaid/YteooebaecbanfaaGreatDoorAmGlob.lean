/-
  A law without arguments that reads one variable of the program's, which holds an error.
-/
import Derived.Test.YteooebaecbanfaaGreatDoorAmPost
namespace Go.Am
set_option linter.unusedSimpArgs false
set_option linter.unusedVariables false
open Go Go.RowKit
variable {P : Program}

/-- A heap that holds the variable g alone: a pointer p under the type tp. -/
noncomputable def globHp (g tp p : Nat) : Hp := ⟨T.upd (some ⟨false, 1, .row [.iface tp (.ptr p 0)]⟩) (npos g) .lf, p + 1⟩
def RunsGlob (P : Program) (con : FuncId → Option ConD) (fuel n f g tp p : Nat) : Prop := callN con (tabOf P) fuel n f [] (globHp g tp p) fun v _ => asBool v fun b => gd b True
theorem glob_true (hmix : P.follows .mixedOrders = true) {con : FuncId → Option ConD} (hcon : ConOK P con) (fuel n f g tp p : Nat) (hgp : g < p) (h : RunsGlob P con fuel n f g tp p = True) (w : World) {a : Addr} {c : Array Value} {t : TypeId}
    (hb : w.heap[g]? = some (.cells c t (0, 0))) (hc : c[0]? = some (.iface tp (.pointer (some a)))) (ha : a.spot = none) :
    Calls P f #[] w fun e w' => e = .returned (.bool true) ∧ Below w.heap.size w w' := by
  let κ : Kap := fun o => if o = g then some ⟨g, 0, 0⟩ else if o = p then some ⟨a.block, a.off, 0⟩ else none
  have kg : κ g = some ⟨g, 0, 0⟩ := by simp [κ]
  have kp : κ p = some ⟨a.block, a.off, 0⟩ := by simp [κ, show p ≠ g by omega]
  have hlt : g < w.heap.size := (Array.getElem?_eq_some_iff.1 hb).1
  have hat : (⟨a.block, a.off, 0⟩ : Ki).at 0 = a := by
    cases a
    simp only at ha
    subst ha
    simp [Ki.at]
  have get : ∀ o e, (globHp g tp p).objs.get (npos o) = some e → o = g ∧ e = ⟨false, 1, .row [.iface tp (.ptr p 0)]⟩ := by
    intro o e he
    by_cases hog : o = g
    · subst hog
      simp only [globHp, T.get_upd_self, Option.some.injEq] at he
      exact ⟨rfl, he.symm⟩
    · simp only [globHp] at he
      rw [T.get_upd_ne _ _ _ _ (fun e => hog (npos_inj e).symm), T.get_lf] at he
      cases he
  have hs : Sim w.heap.size (W0.of w) κ (globHp g tp p) w := by
    refine ⟨Below.refl _ _, Nat.le_refl _, fun o e he => ?_, fun o o' e e' ki ki' he he' _ _ h1 _ _ => ?_, fun o ki hk => ?_, (fun b ob hb => by cases hb), fun o e ki he hk ho => rfl⟩
    · obtain ⟨rfl, rfl⟩ := get o e he
      refine ⟨_, kg, (fun h => by cases h), fun _ => ⟨hlt, rfl, rfl⟩, ?_⟩
      refine ⟨c, t, (0, 0), hb, by simp, .inl rfl, fun j hj => ?_, fun j v hv => ?_⟩
      · have : j = 0 := by simp [sizeOfObj] at hj; omega
        subst this
        exact ⟨_, rfl⟩
      · have hj : j = 0 := by
          cases j with
          | zero => rfl
          | succ j => simp [cellAt, getL_eq] at hv
        subst hj
        simp only [cellAt, getL_eq, List.getElem?_cons_zero, Option.some.injEq] at hv
        subst hv
        exact ⟨.iface tp (.pointer (some a)), by simp [gam, kp, hat], rfl, by simpa using hc⟩
    · obtain ⟨_, rfl⟩ := get o e he
      cases h1
    · simp only [κ] at hk
      show o < p + 1
      split at hk
      · omega
      · split at hk
        · omega
        · cases hk
  exact ((callN_ok (B := w.heap.size) (w0 := W0.of w) hmix hcon fuel n) f [] _ _ (of_eq_true h)).2 κ w [] hs rfl _ fun κ' av h' v w' h1 h2 h3 h4 => by
    obtain ⟨b, rfl, hb⟩ := asBool_iff.1 h4
    obtain ⟨hb, _⟩ := gd_iff.1 hb
    subst hb
    simp only [gam, Option.some.injEq] at h3
    exact ⟨by rw [← h3], h2.below⟩

end Go.Am
