/-
  Loops: a loop of the machine's code by another text of it, which goes over values.
-/
import Derived.Test.YtbefkepinpollaaGreatDoorAmCode
namespace Go.Am
set_option linter.unusedSimpArgs false
set_option linter.unusedVariables false
open Go Go.RowKit
noncomputable section

def lft (c : Code) : Code := match c with
  | .seq x _ => x
  | .cond _ x _ => x
  | .block _ x => x
  | .loop x => x
  | .scope x => x
  | x => x
def rgt (c : Code) : Code := match c with
  | .seq _ y => y
  | .cond _ _ y => y
  | x => x
def cndO (c : Code) : Opd := match c with
  | .cond o _ _ => (match opd o with | some d => d | none => konst undefV)
  | _ => konst undefV
def idO (c : Code) : Nat := match c with
  | .block i _ => i
  | _ => 0
/-- Which form a piece of code has. -/
def kindC (c : Code) : Nat := match c with
  | .seq _ _ => 1
  | .cond o _ _ => (match opd o with | some _ => 2 | none => 0)
  | .block _ _ => 3
  | .loop _ => 4
  | .scope _ => 5
  | _ => 0

/-- A branch. -/
def vIf (x : AV) (A B : Prop) : Prop := asBool x fun b => Bool.rec (motive := fun _ => Prop) B A b
/-- What a piece of code does, said by D. -/
def Rel (P : Program) (n : Nat) (cf : CallK) (fuel : Nat) (c : Code) (K : Ex → Fr → Hp → Prop) (D : Fr → Hp → Prop) : Prop := ∀ d, comp P n c = some d → D = d cf fuel K
section
variable {P : Program} {n : Nat} {cf : CallK} {fuel : Nat} {c : Code} {K : Ex → Fr → Hp → Prop}
theorem rExact : Rel P n cf fuel c K (orFail (comp P n c) cf fuel K) := fun d h => by rw [h]; rfl
theorem rCast {D D' : Fr → Hp → Prop} (h : D' = D) (r : Rel P n cf fuel c K D) : Rel P n cf fuel c K D' := fun d hd => h.trans (r d hd)
theorem rSeq (hc : kindC c = 1) {Dy Dx : Fr → Hp → Prop} (ry : Rel P n cf fuel (rgt c) K Dy) (rx : Rel P n cf fuel (lft c) (thenE Dy K) Dx) : Rel P n cf fuel c K Dx := fun d hd => by
  cases c <;> simp [kindC] at hc
  case cond => split at hc <;> simp at hc
  rename_i x y
  simp only [comp, Option.bind_eq_some_iff, Option.map_eq_some_iff] at hd
  obtain ⟨dx, hx, dy, hy, rfl⟩ := hd
  have e1 := ry dy hy
  subst e1
  exact rx dx hx
theorem rCond (hc : kindC c = 2) {Dx Dy : Fr → Hp → Prop} (rx : Rel P n cf fuel (lft c) K Dx) (ry : Rel P n cf fuel (rgt c) K Dy) :
    Rel P n cf fuel c K (fun fr h => asBool (cndO c fr) fun t => Bool.rec (motive := fun _ => Prop) (Dy fr h) (Dx fr h) t) := fun d hd => by
  cases c <;> simp [kindC] at hc
  rename_i o x y
  simp only [comp, Option.bind_eq_some_iff, Option.map_eq_some_iff] at hd
  obtain ⟨dx, hx, dy, hy, hd⟩ := hd
  cases ho : opd o with
  | none => rw [ho] at hc; simp at hc
  | some t =>
  rw [ho] at hd
  have e : d = cCond t dx dy := hd.symm
  subst e
  have e1 := rx dx hx
  have e2 := ry dy hy
  subst e1 e2
  simp only [cndO, ho]
theorem rBlock (hc : kindC c = 3) {D : Fr → Hp → Prop} (r : Rel P n cf fuel (lft c) (blkE (idO c) K) D) : Rel P n cf fuel c K D := fun d hd => by
  cases c <;> simp [kindC] at hc
  case cond => split at hc <;> simp at hc
  simp only [comp, Option.map_eq_some_iff] at hd
  obtain ⟨dx, hx, rfl⟩ := hd
  exact r dx hx
theorem rScope (hc : kindC c = 5) {D : Fr → Hp → Prop} (r : Rel P n cf fuel (lft c) K D) : Rel P n cf fuel c K D := fun d hd => by
  cases c <;> simp [kindC] at hc
  case cond => split at hc <;> simp at hc
  simp only [comp] at hd
  exact r d hd
theorem rLoop (hc : kindC c = 4) (S : Nat → Fr → Hp → Prop) (h0 : S 0 = fun _ _ => False) (hs : ∀ m, Rel P n cf fuel (lft c) (thenE (S m) K) (S (m + 1))) : Rel P n cf fuel c K (S fuel) := fun d hd => by
  cases c <;> simp [kindC] at hc
  case cond => split at hc <;> simp at hc
  simp only [comp, Option.map_eq_some_iff] at hd
  obtain ⟨dx, hx, rfl⟩ := hd
  have key : ∀ m, S m = Nat.rec (motive := fun _ => Fr → Hp → Prop) (fun _ _ => False) (fun _ ih => dx cf fuel (thenE ih K)) m := by
    intro m
    induction m with
    | zero => exact h0
    | succ m ih =>
      have := hs m dx hx
      rw [this, ih]
  exact key fuel

def fnC (P : Program) (f : FuncId) : Code := match P.funcs[f]? with
  | some fn => (match fn.body with | some c => c | none => .skip)
  | none => .skip
def fnN (P : Program) (f : FuncId) : Nat := match P.funcs[f]? with
  | some fn => fn.ntmps
  | none => 0
def fnR (P : Program) (f : FuncId) : List ARes := match P.funcs[f]? with
  | some fn => (match compRes P fn.results.toList with | some r => r | none => [])
  | none => []
def fnOK (P : Program) (f : FuncId) : Bool := match P.funcs[f]? with
  | some fn => !(fn.name == "runtime.NumGoroutine") && (fn.body.isSome && ((compRes P fn.results.toList).isSome && (comp P (fnN P f) (fnC P f)).isSome))
  | none => false
/-- A function's code is what D says. -/
theorem rFun {f : FuncId} (hok : fnOK P f = true) {args : List AV} {h : Hp} {K : AV → Hp → Prop} {D : Fr → Hp → Prop} (r : Rel P (fnN P f) cf fuel (fnC P f) (endK (fnR P f) K) D) :
    argK args 0 G1.lf (fun fr => D fr h) = deepT (tabOf P) f cf fuel args h K := by
  cases hf : P.funcs[f]? with
  | none => simp [fnOK, hf] at hok
  | some fn =>
  simp only [fnOK, hf, Bool.and_eq_true, Bool.not_eq_true'] at hok
  obtain ⟨h1, h2, h3, h4⟩ := hok
  obtain ⟨c, hc⟩ := Option.isSome_iff_exists.1 h2
  obtain ⟨rr, hr⟩ := Option.isSome_iff_exists.1 h3
  have eC : fnC P f = c := by simp only [fnC, hf, hc]
  have eN : fnN P f = fn.ntmps := by simp only [fnN, hf]
  have eR : fnR P f = rr := by simp only [fnR, hf, hr]
  obtain ⟨d, hd⟩ := Option.isSome_iff_exists.1 h4
  have e := r d hd
  subst e
  rw [eN, eC] at hd
  have : tabOf P f = some ⟨d, rr⟩ := by
    unfold tabOf
    rw [hf]
    show compF P fn = _
    unfold compF
    rw [h1, hc]
    simp only [hd, hr, Option.bind_some, Option.map_some]
  show _ = asOpt (tabOf P f) fun af => argK args 0 G1.lf fun fr => af.body cf fuel (endK af.res K) fr h
  rw [this, eR]
  rfl
end
end
end Go.Am
