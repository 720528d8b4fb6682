/-
  An abstract machine over the model's code: the words (tries, values, objects), each with its laws. No program in sight.
-/
import Derived.WalkKit
import Derived.Orders
import Derived.KernelRfl
namespace Go.Am
set_option linter.unusedSimpArgs false
set_option linter.unusedVariables false
open Go Go.RowKit

/-! ### places: binary numbers, the lowest digit first -/
inductive Pos0 where
  | h | o (p : Pos0) | i (p : Pos0)

noncomputable def Pos0.num (p : Pos0) : Nat := Pos0.rec (motive := fun _ => Nat) 1 (fun _ n => 2 * n) (fun _ n => 2 * n + 1) p

noncomputable def posF (f : Nat) : Nat → Pos0 :=
  Nat.rec (motive := fun _ => Nat → Pos0) (fun _ => .h)
    (fun _ ih m => Nat.rec (motive := fun _ => Pos0) (.o (ih (m / 2))) (fun _ _ => .i (ih (m / 2))) (m % 2)) f

noncomputable def npos0 (n : Nat) : Pos0 := posF (Nat.log2 (n + 1)) (n + 1)

theorem posF_num : ∀ (f m : Nat), 2 ^ f ≤ m → m < 2 ^ (f + 1) → (posF f m).num = m := by
  intro f
  induction f with
  | zero => intro m h1 h2; simp at h1 h2; have : m = 1 := by omega
            subst this; rfl
  | succ f ih =>
    intro m h1 h2
    have hd : (posF f (m / 2)).num = m / 2 := ih (m / 2) (by rw [Nat.le_div_iff_mul_le (by omega)]; rw [Nat.pow_succ] at h1; exact h1) (by rw [Nat.div_lt_iff_lt_mul (by omega)]; rw [Nat.pow_succ] at h2; exact h2)
    have e : posF (f + 1) m = Nat.rec (motive := fun _ => Pos0) (.o (posF f (m / 2))) (fun _ _ => .i (posF f (m / 2))) (m % 2) := rfl
    rw [e]
    rcases Nat.mod_two_eq_zero_or_one m with h | h <;> rw [h]
    · show 2 * (posF f (m / 2)).num = m
      rw [hd]; omega
    · show 2 * (posF f (m / 2)).num + 1 = m
      rw [hd]; omega

theorem npos0_num (n : Nat) : (npos0 n).num = n + 1 := by
  unfold npos0
  exact posF_num _ _ (Nat.log2_self_le (by omega)) Nat.lt_log2_self

theorem npos0_inj {m n : Nat} (h : npos0 m = npos0 n) : m = n := by
  have := congrArg Pos0.num h
  rw [npos0_num, npos0_num] at this
  omega

/-! ### places: digits of eight, then binary -/
inductive D where
  | c0 | c1 | c2 | c3 | c4 | c5 | c6 | c7
noncomputable def dig (n : Nat) : D := Nat.rec (motive := fun _ => D) .c0 (fun m0 _ => Nat.rec (motive := fun _ => D) .c1 (fun m1 _ => Nat.rec (motive := fun _ => D) .c2 (fun m2 _ => Nat.rec (motive := fun _ => D) .c3 (fun m3 _ => Nat.rec (motive := fun _ => D) .c4 (fun m4 _ => Nat.rec (motive := fun _ => D) .c5 (fun m5 _ => Nat.rec (motive := fun _ => D) .c6 (fun m6 _ => .c7) m5) m4) m3) m2) m1) m0) n
noncomputable def D.num (d : D) : Nat := D.rec (motive := fun _ => Nat) 0 1 2 3 4 5 6 7 d
theorem dig_num : ∀ (n : Nat), n < 8 → (dig n).num = n
  | 0, _ => rfl
  | 1, _ => rfl
  | 2, _ => rfl
  | 3, _ => rfl
  | 4, _ => rfl
  | 5, _ => rfl
  | 6, _ => rfl
  | 7, _ => rfl
  | n + 8, h => by omega
theorem dig_inj {m n : Nat} (hm : m < 8) (hn : n < 8) (h : dig m = dig n) : m = n := by
  have := congrArg D.num h
  rwa [dig_num m hm, dig_num n hn] at this

/-! ### digits of sixteen -/
inductive DD where
  | e0 | e1 | e2 | e3 | e4 | e5 | e6 | e7 | e8 | e9 | e10 | e11 | e12 | e13 | e14 | e15
noncomputable def digg (n : Nat) : DD := Nat.rec (motive := fun _ => DD) .e0 (fun m0 _ => Nat.rec (motive := fun _ => DD) .e1 (fun m1 _ => Nat.rec (motive := fun _ => DD) .e2 (fun m2 _ => Nat.rec (motive := fun _ => DD) .e3 (fun m3 _ => Nat.rec (motive := fun _ => DD) .e4 (fun m4 _ => Nat.rec (motive := fun _ => DD) .e5 (fun m5 _ => Nat.rec (motive := fun _ => DD) .e6 (fun m6 _ => Nat.rec (motive := fun _ => DD) .e7 (fun m7 _ => Nat.rec (motive := fun _ => DD) .e8 (fun m8 _ => Nat.rec (motive := fun _ => DD) .e9 (fun m9 _ => Nat.rec (motive := fun _ => DD) .e10 (fun m10 _ => Nat.rec (motive := fun _ => DD) .e11 (fun m11 _ => Nat.rec (motive := fun _ => DD) .e12 (fun m12 _ => Nat.rec (motive := fun _ => DD) .e13 (fun m13 _ => Nat.rec (motive := fun _ => DD) .e14 (fun m14 _ => .e15) m13) m12) m11) m10) m9) m8) m7) m6) m5) m4) m3) m2) m1) m0) n
noncomputable def DD.num (d : DD) : Nat := DD.rec (motive := fun _ => Nat) 0 1 2 3 4 5 6 7 8 9 10 11 12 13 14 15 d
theorem digg_num : ∀ (n : Nat), n < 16 → (digg n).num = n
  | 0, _ => rfl
  | 1, _ => rfl
  | 2, _ => rfl
  | 3, _ => rfl
  | 4, _ => rfl
  | 5, _ => rfl
  | 6, _ => rfl
  | 7, _ => rfl
  | 8, _ => rfl
  | 9, _ => rfl
  | 10, _ => rfl
  | 11, _ => rfl
  | 12, _ => rfl
  | 13, _ => rfl
  | 14, _ => rfl
  | 15, _ => rfl
  | n + 16, h => by omega
theorem digg_inj {m n : Nat} (hm : m < 16) (hn : n < 16) (h : digg m = digg n) : m = n := by
  have := congrArg DD.num h
  rwa [digg_num m hm, digg_num n hn] at this

/-! ### numbers worked out ahead -/
noncomputable def forceN {α : Sort _} (n : Nat) (k : Nat → α) : α := Nat.rec (motive := fun _ => α) (k 0) (fun m _ => k (Nat.succ m)) n
theorem forceN_eq {α : Sort _} (n : Nat) (k : Nat → α) : forceN n k = k n := by cases n <;> rfl
noncomputable def forceI {α : Sort _} (n : Int) (k : Int → α) : α :=
  Int.rec (motive := fun _ => α) (fun m => forceN m fun m => k (Int.ofNat m)) (fun m => forceN m fun m => k (Int.negSucc m)) n
theorem forceI_eq {α : Sort _} (n : Int) (k : Int → α) : forceI n k = k n := by
  cases n <;> simp [forceI, forceN_eq]

/-! ### lists worked out ahead -/
noncomputable def setLK {α : Type} (l : List α) (i : Nat) (v : α) (k : List α → Prop) : Prop :=
  List.rec (motive := fun _ => Nat → (List α → Prop) → Prop) (fun _ k => k [])
    (fun x xs ih i k => Nat.rec (motive := fun _ => Prop) (k (v :: xs)) (fun i _ => ih i fun xs => k (x :: xs)) i) l i k
theorem setLK_eq {α : Type} (v : α) : ∀ (l : List α) (i : Nat) (k : List α → Prop), setLK l i v k = k (l.set i v)
  | [], i, k => by cases i <;> rfl
  | x :: xs, 0, k => rfl
  | x :: xs, i + 1, k => setLK_eq v xs i fun xs => k (x :: xs)

noncomputable def getL {α : Type} (l : List α) (i : Nat) : Option α :=
  List.rec (motive := fun _ => Nat → Option α) (fun _ => none) (fun x _ ih i => Nat.rec (motive := fun _ => Option α) (some x) (fun i _ => ih i) i) l i
theorem getL_eq {α : Type} : ∀ (l : List α) (i : Nat), getL l i = l[i]?
  | [], i => by simp; rfl
  | x :: xs, 0 => by simp; rfl
  | x :: xs, i + 1 => by simp only [List.getElem?_cons_succ]; exact getL_eq xs i

end Go.Am
