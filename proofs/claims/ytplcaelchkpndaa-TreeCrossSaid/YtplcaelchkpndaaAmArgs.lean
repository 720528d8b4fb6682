/-
  A law over few arguments: numbers that are only compared stand for themselves.
-/
import Derived.Test.YtplcaelchkpndaaAmPost
namespace Go.Am
set_option linter.unusedSimpArgs false
set_option linter.unusedVariables false
open Go Go.RowKit
variable {P : Program}

/-- The machine says that the call comes to 'true'. -/
def RunsArgs (P : Program) (con : FuncId → Option ConD) (fuel n f : Nat) (avs : List AV) (next : Nat) : Prop := callN con (tabOf P) fuel n f avs ⟨.lf, next⟩ fun v _ => asBool v fun b => gd b True
theorem runs_args (hmix : P.follows .mixedOrders = true) {con : FuncId → Option ConD} (hcon : ConOK P con) {fuel n f : Nat} {avs : List AV} {next : Nat} (h : RunsArgs P con fuel n f avs next) {κ : Kap} (hκ : ∀ o ki, κ o = some ki → o < next)
    {args : List Value} (ha : gams κ avs = some args) (w : World) :
    Calls P f args.toArray w fun e w' => e = .returned (.bool true) ∧ Below w.heap.size w w' := by
  have hs : Sim w.heap.size w κ ⟨.lf, next⟩ w := ⟨Below.refl _ _, Nat.le_refl _, (fun o e he => by rw [T.get_lf] at he; cases he), (fun o _ e _ _ _ he => by rw [T.get_lf] at he; cases he), hκ⟩
  exact ((callN_ok (B := w.heap.size) (w0 := w) hmix hcon fuel n) f avs _ _ h).2 κ w args hs ha _ fun κ' av h' v w' h1 h2 h3 h4 => by
    obtain ⟨b, rfl, hb⟩ := asBool_iff.1 h4
    obtain ⟨hb, _⟩ := gd_iff.1 hb
    subst hb
    simp only [gam, Option.some.injEq] at h3
    exact ⟨by rw [← h3], h2.below⟩

/-- The symbols' numbers. -/
def symK (l : List Int) : Kap := fun o => (l[o]?).map fun v => ⟨(v + 9223372036854775808).toNat, 0, 0⟩
theorem symK_lt (l : List Int) (o : Nat) (ki : Ki) (h : symK l o = some ki) : o < l.length := by
  simp only [symK, Option.map_eq_some_iff] at h
  obtain ⟨v, h1, _⟩ := h
  exact (List.getElem?_eq_some_iff.1 h1).1
theorem num_of {v : Int} (h : -9223372036854775808 ≤ v) : (⟨(v + 9223372036854775808).toNat, 0, 0⟩ : Ki).num = v := by
  simp only [Ki.num]; omega
theorem symK_at {l : List Int} {i : Nat} {v : Int} (h : l[i]? = some v) : symK l i = some ⟨(v + 9223372036854775808).toNat, 0, 0⟩ := by simp [symK, h]
theorem gam_symK {l : List Int} {i : Nat} {v : Int} {k : IntKind} {F : Fx} (hF : okF (symK l) F = true) (h : l[i]? = some v) (hv : -9223372036854775808 ≤ v) : gam (symK l) (.sym k F i) = some (.int k v) := by
  simp only [gam, hF, if_true, symK_at h, Option.map_some, num_of hv]
theorem okB_of {l : List Int} {i : Nat} {v lo hi : Int} (h : l[i]? = some v) (hv : -9223372036854775808 ≤ v) (h1 : lo ≤ v) (h2 : v ≤ hi) : okB (symK l) (i, lo, hi) = true := by
  simp only [okB, symK_at h, num_of hv, Bool.and_eq_true, decide_eq_true_eq]; exact ⟨h1, h2⟩
theorem okR_lt {l : List Int} {i j : Nat} {v u : Int} (h : l[i]? = some v) (hj : l[j]? = some u) (hv : -9223372036854775808 ≤ v) (hu : -9223372036854775808 ≤ u) (h1 : v < u) : okR (symK l) (i, j, false) = true := by
  simp only [okR, symK_at h, symK_at hj, num_of hv, num_of hu, decide_eq_true_eq]; exact h1
theorem okR_eq {l : List Int} {i j : Nat} {v u : Int} (h : l[i]? = some v) (hj : l[j]? = some u) (hv : -9223372036854775808 ≤ v) (hu : -9223372036854775808 ≤ u) (h1 : v = u) : okR (symK l) (i, j, true) = true := by
  simp only [okR, symK_at h, symK_at hj, num_of hv, num_of hu, decide_eq_true_eq]; exact h1

end Go.Am
