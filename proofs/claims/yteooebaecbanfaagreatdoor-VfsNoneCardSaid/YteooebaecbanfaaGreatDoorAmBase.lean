/-
  An abstract machine over the model's code: the words (tries, values, objects), each with its laws. No program in sight.
-/
import Derived.WalkKit
import Derived.Orders
import Derived.KernelRfl
namespace Go.Am
set_option linter.unusedSimpArgs false
set_option linter.unusedVariables false
open Go Go.RowKit

/-! ### places: binary numbers, the lowest digit first -/
inductive Pos where
  | h | o (p : Pos) | i (p : Pos)

noncomputable def Pos.num (p : Pos) : Nat := Pos.rec (motive := fun _ => Nat) 1 (fun _ n => 2 * n) (fun _ n => 2 * n + 1) p

noncomputable def posF (f : Nat) : Nat → Pos :=
  Nat.rec (motive := fun _ => Nat → Pos) (fun _ => .h)
    (fun _ ih m => Nat.rec (motive := fun _ => Pos) (.o (ih (m / 2))) (fun _ _ => .i (ih (m / 2))) (m % 2)) f

noncomputable def npos (n : Nat) : Pos := posF (Nat.log2 (n + 1)) (n + 1)

theorem posF_num : ∀ (f m : Nat), 2 ^ f ≤ m → m < 2 ^ (f + 1) → (posF f m).num = m := by
  intro f
  induction f with
  | zero => intro m h1 h2; simp at h1 h2; have : m = 1 := by omega
            subst this; rfl
  | succ f ih =>
    intro m h1 h2
    have hd : (posF f (m / 2)).num = m / 2 := ih (m / 2) (by rw [Nat.le_div_iff_mul_le (by omega)]; rw [Nat.pow_succ] at h1; exact h1) (by rw [Nat.div_lt_iff_lt_mul (by omega)]; rw [Nat.pow_succ] at h2; exact h2)
    have e : posF (f + 1) m = Nat.rec (motive := fun _ => Pos) (.o (posF f (m / 2))) (fun _ _ => .i (posF f (m / 2))) (m % 2) := rfl
    rw [e]
    rcases Nat.mod_two_eq_zero_or_one m with h | h <;> rw [h]
    · show 2 * (posF f (m / 2)).num = m
      rw [hd]; omega
    · show 2 * (posF f (m / 2)).num + 1 = m
      rw [hd]; omega

theorem npos_num (n : Nat) : (npos n).num = n + 1 := by
  unfold npos
  exact posF_num _ _ (Nat.log2_self_le (by omega)) Nat.lt_log2_self

theorem npos_inj {m n : Nat} (h : npos m = npos n) : m = n := by
  have := congrArg Pos.num h
  rw [npos_num, npos_num] at this
  omega

/-! ### tries -/
inductive T (α : Type) where
  | lf : T α
  | nd (l : T α) (v : Option α) (r : T α) : T α

noncomputable def T.get {α : Type} (t : T α) (p : Pos) : Option α :=
  Pos.rec (motive := fun _ => T α → Option α)
    (fun t => T.rec (motive := fun _ => Option α) none (fun _ v _ _ _ => v) t)
    (fun _ ih t => T.rec (motive := fun _ => Option α) none (fun l _ _ _ _ => ih l) t)
    (fun _ ih t => T.rec (motive := fun _ => Option α) none (fun _ _ r _ _ => ih r) t) p t

noncomputable def T.upd {α : Type} (x : Option α) (p : Pos) (t : T α) : T α :=
  Pos.rec (motive := fun _ => T α → T α)
    (fun t => T.rec (motive := fun _ => T α) (.nd .lf x .lf) (fun l _ r _ _ => .nd l x r) t)
    (fun _ ih t => T.rec (motive := fun _ => T α) (.nd (ih .lf) none .lf) (fun l v r _ _ => .nd (ih l) v r) t)
    (fun _ ih t => T.rec (motive := fun _ => T α) (.nd .lf none (ih .lf)) (fun l v r _ _ => .nd l v (ih r)) t) p t

/-- 'upd' with all of the new trie worked out ahead of 'k'. -/
noncomputable def T.updK {α : Type} (x : Option α) (p : Pos) (t : T α) (k : T α → Prop) : Prop :=
  Pos.rec (motive := fun _ => T α → (T α → Prop) → Prop)
    (fun t k => T.rec (motive := fun _ => Prop) (k (.nd .lf x .lf)) (fun l _ r _ _ => k (.nd l x r)) t)
    (fun _ ih t k => T.rec (motive := fun _ => Prop) (ih .lf fun l => k (.nd l none .lf)) (fun l v r _ _ => ih l fun l => k (.nd l v r)) t)
    (fun _ ih t k => T.rec (motive := fun _ => Prop) (ih .lf fun r => k (.nd .lf none r)) (fun l v r _ _ => ih r fun r => k (.nd l v r)) t) p t k

theorem T.updK_eq {α : Type} (x : Option α) (p : Pos) : ∀ (t : T α) (k : T α → Prop), T.updK x p t k = k (T.upd x p t) := by
  induction p with
  | h => intro t k; cases t <;> rfl
  | o p ih =>
    intro t k
    cases t with
    | lf => exact ih .lf fun l => k (.nd l none .lf)
    | nd l v r => exact ih l fun l => k (.nd l v r)
  | i p ih =>
    intro t k
    cases t with
    | lf => exact ih .lf fun r => k (.nd .lf none r)
    | nd l v r => exact ih r fun r => k (.nd l v r)

theorem T.get_lf {α : Type} (p : Pos) : (T.lf : T α).get p = none := by cases p <;> rfl

theorem T.get_upd_self {α : Type} (x : Option α) (p : Pos) : ∀ (t : T α), (T.upd x p t).get p = x := by
  induction p with
  | h => intro t; cases t <;> rfl
  | o p ih => intro t; cases t with
    | lf => exact ih .lf
    | nd l v r => exact ih l
  | i p ih => intro t; cases t with
    | lf => exact ih .lf
    | nd l v r => exact ih r

theorem T.get_upd_ne {α : Type} (x : Option α) : ∀ (p q : Pos) (t : T α), p ≠ q → (T.upd x p t).get q = t.get q
  | .h, .h, t, hne => absurd rfl hne
  | .h, .o q, t, _ => by cases t <;> first | rfl | exact T.get_lf q
  | .h, .i q, t, _ => by cases t <;> first | rfl | exact T.get_lf q
  | .o p, .h, t, _ => by cases t <;> rfl
  | .o p, .o q, t, hne => by
    have hne' : p ≠ q := fun e => hne (e ▸ rfl)
    cases t with
    | lf => exact (T.get_upd_ne x p q .lf hne').trans ((T.get_lf q).trans rfl)
    | nd l v r => exact T.get_upd_ne x p q l hne'
  | .o p, .i q, t, _ => by cases t <;> first | rfl | exact T.get_lf q
  | .i p, .h, t, _ => by cases t <;> rfl
  | .i p, .o q, t, _ => by cases t <;> first | rfl | exact T.get_lf q
  | .i p, .i q, t, hne => by
    have hne' : p ≠ q := fun e => hne (e ▸ rfl)
    cases t with
    | lf => exact (T.get_upd_ne x p q .lf hne').trans ((T.get_lf q).trans rfl)
    | nd l v r => exact T.get_upd_ne x p q r hne'

/-! ### numbers worked out ahead -/
noncomputable def forceN {α : Sort _} (n : Nat) (k : Nat → α) : α := Nat.rec (motive := fun _ => α) (k 0) (fun m _ => k (Nat.succ m)) n
theorem forceN_eq {α : Sort _} (n : Nat) (k : Nat → α) : forceN n k = k n := by cases n <;> rfl
noncomputable def forceI {α : Sort _} (n : Int) (k : Int → α) : α :=
  Int.rec (motive := fun _ => α) (fun m => forceN m fun m => k (Int.ofNat m)) (fun m => forceN m fun m => k (Int.negSucc m)) n
theorem forceI_eq {α : Sort _} (n : Int) (k : Int → α) : forceI n k = k n := by
  cases n <;> simp [forceI, forceN_eq]

/-! ### lists worked out ahead -/
noncomputable def setLK {α : Type} (l : List α) (i : Nat) (v : α) (k : List α → Prop) : Prop :=
  List.rec (motive := fun _ => Nat → (List α → Prop) → Prop) (fun _ k => k [])
    (fun x xs ih i k => Nat.rec (motive := fun _ => Prop) (k (v :: xs)) (fun i _ => ih i fun xs => k (x :: xs)) i) l i k
theorem setLK_eq {α : Type} (v : α) : ∀ (l : List α) (i : Nat) (k : List α → Prop), setLK l i v k = k (l.set i v)
  | [], i, k => by cases i <;> rfl
  | x :: xs, 0, k => rfl
  | x :: xs, i + 1, k => setLK_eq v xs i fun xs => k (x :: xs)

noncomputable def getL {α : Type} (l : List α) (i : Nat) : Option α :=
  List.rec (motive := fun _ => Nat → Option α) (fun _ => none) (fun x _ ih i => Nat.rec (motive := fun _ => Option α) (some x) (fun i _ => ih i) i) l i
theorem getL_eq {α : Type} : ∀ (l : List α) (i : Nat), getL l i = l[i]?
  | [], i => by simp; rfl
  | x :: xs, 0 => by simp; rfl
  | x :: xs, i + 1 => by simp only [List.getElem?_cons_succ]; exact getL_eq xs i

end Go.Am
