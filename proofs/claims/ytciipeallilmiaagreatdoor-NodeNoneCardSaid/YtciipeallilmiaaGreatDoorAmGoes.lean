/-
  A whole program without a go statement: no row of it goes. The functions are looked at in parts (else the kernel's memory does not do for a great program).
-/
import GoSem.ClaimGoes
namespace Go.Am
open Go

/-- None of the functions from i on, so many, goes. -/
def stillFrom (P : Program) (i n : Nat) : Bool := (List.range' i n).all fun g => !((P.funcs[g]?).any Func.goes)
theorem stillFrom_at {P : Program} {i n : Nat} (h : stillFrom P i n = true) {g : Nat} (h1 : i ≤ g) (h2 : g < i + n) : (P.funcs[g]?).any Func.goes = false := by
  have := List.all_eq_true.1 h g (List.mem_range'_1.2 ⟨h1, h2⟩)
  simpa using this
theorem stillFrom_add {P : Program} {i n m : Nat} (h1 : stillFrom P i n = true) (h2 : stillFrom P (i + n) m = true) : stillFrom P i (n + m) = true := by
  refine List.all_eq_true.2 fun g hg => ?_
  obtain ⟨a, b⟩ := List.mem_range'_1.1 hg
  by_cases hq : g < i + n
  · rw [stillFrom_at h1 a hq]; rfl
  · rw [stillFrom_at h2 (by omega) (by omega)]; rfl
theorem still_goes {P : Program} {n : Nat} (hn : P.funcs.size = n) (h : stillFrom P 0 n = true) (f : FuncId) : P.goes f = false := by
  have hall : ∀ g : Nat, (P.funcs[g]?).any Func.goes = false := fun g => by
    by_cases hg : g < n
    · exact stillFrom_at h (Nat.zero_le _) (by omega)
    · rw [Array.getElem?_eq_none (by omega)]; rfl
  have h1 : ((P.closure f).any fun g => (P.funcs[g]?).any Func.goes) = false := by
    rw [List.any_eq_false]; intro g _; rw [hall g]; simp
  have h2 : P.funcs.any Func.goes = false := by
    rw [Array.any_eq_false]
    intro i hi
    have := hall i
    rw [Array.getElem?_eq_getElem hi] at this
    simpa using this
  unfold Program.goes
  rw [h1, h2, Bool.and_false]
  rfl
/-- The card's word: nothing goes. -/
theorem goesBy_still {P : Program} {c : OpenClaim} {n : Nat} (hs : c.start = .entering) (hn : P.funcs.size = n) (h : stillFrom P 0 n = true) : false = c.goesBy P := by
  unfold OpenClaim.goesBy Program.goesAt Program.goesFrom
  rw [hs]
  cases hf : P.funcNamed c.func with
  | none => rfl
  | some f => simp [still_goes hn h f]
end Go.Am
