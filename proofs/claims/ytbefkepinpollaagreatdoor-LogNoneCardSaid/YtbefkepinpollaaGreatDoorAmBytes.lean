/-
  Bytes in a number: the laws.
-/
import Derived.Test.YtbefkepinpollaaGreatDoorAmSim
namespace Go.Am
set_option linter.unusedSimpArgs false
set_option linter.unusedVariables false
open Go Go.RowKit

theorem pow256 (n : Nat) : 2 ^ (8 * n) = 256 ^ n := by rw [Nat.pow_mul]
theorem byteAt_eq (x j : Nat) : byteAt x j = x / 256 ^ j % 256 := by rw [byteAt, Nat.shiftRight_eq_div_pow, pow256]
theorem byteAt_lt (x j : Nat) : byteAt x j < 256 := by rw [byteAt_eq]; exact Nat.mod_lt _ (by omega)
theorem cutB_eq (z l n : Nat) : cutB z l n = z / 256 ^ l % 256 ^ n := by rw [cutB, Nat.shiftRight_eq_div_pow, pow256, pow256]
theorem cutB_lt (z l n : Nat) : cutB z l n < 256 ^ n := by rw [cutB_eq]; exact Nat.mod_lt _ (Nat.pow_pos (by omega))
theorem byteAt_zero (x : Nat) : byteAt x 0 = x % 256 := by simp [byteAt_eq]
theorem byteAt_succ (x j : Nat) : byteAt x (j + 1) = byteAt (x / 256) j := by rw [byteAt_eq, byteAt_eq, Nat.pow_succ, Nat.div_div_eq_div_mul, Nat.mul_comm]
theorem byteAt_add_idx (x l j : Nat) : byteAt x (l + j) = byteAt (x / 256 ^ l) j := by rw [byteAt_eq, byteAt_eq, Nat.pow_add, Nat.div_div_eq_div_mul]
theorem byteAt_mod (x n j : Nat) (h : j < n) : byteAt (x % 256 ^ n) j = byteAt x j := by
  obtain ⟨d, rfl⟩ : ∃ d, n = j + 1 + d := ⟨n - (j + 1), by omega⟩
  rw [byteAt_eq, byteAt_eq, Nat.pow_add, Nat.pow_succ, Nat.mul_assoc, Nat.mod_mul_right_div_self, Nat.mod_mul_right_mod]
theorem byteAt_cut (z l n j : Nat) (h : j < n) : byteAt (cutB z l n) j = byteAt z (l + j) := by rw [cutB_eq, byteAt_mod _ _ _ h, byteAt_add_idx]
theorem byteAt_join (a b n j : Nat) (ha : a < 256 ^ n) : byteAt (a + b <<< (8 * n)) j = if j < n then byteAt a j else byteAt b (j - n) := by
  rw [Nat.shiftLeft_eq, pow256]
  split
  · rename_i h
    rw [← byteAt_mod _ n j h, Nat.add_mul_mod_self_right, Nat.mod_eq_of_lt ha]
  · rename_i h
    obtain ⟨d, rfl⟩ : ∃ d, j = n + d := ⟨j - n, by omega⟩
    rw [byteAt_add_idx, Nat.add_mul_div_right _ _ (Nat.pow_pos (by omega)), Nat.div_eq_of_lt ha, Nat.zero_add]
    congr 1; omega
theorem join_lt (a b n m : Nat) (ha : a < 256 ^ n) (hb : b < 256 ^ m) : a + b <<< (8 * n) < 256 ^ (n + m) := by
  rw [Nat.shiftLeft_eq, pow256, Nat.pow_add]
  have : b * 256 ^ n + 256 ^ n ≤ 256 ^ m * 256 ^ n := by rw [← Nat.succ_mul]; exact Nat.mul_le_mul_right _ hb
  have e := Nat.mul_comm (256 ^ m) (256 ^ n)
  omega
theorem byteAt_ext : ∀ (n x y : Nat), x < 256 ^ n → y < 256 ^ n → (∀ j, j < n → byteAt x j = byteAt y j) → x = y
  | 0, x, y, hx, hy, _ => by simp at hx hy; omega
  | n + 1, x, y, hx, hy, h => by
    have h0 := h 0 (by omega)
    rw [byteAt_zero, byteAt_zero] at h0
    have hr := byteAt_ext n (x / 256) (y / 256) (by rw [Nat.div_lt_iff_lt_mul (by omega)]; rwa [Nat.pow_succ] at hx) (by rw [Nat.div_lt_iff_lt_mul (by omega)]; rwa [Nat.pow_succ] at hy)
      (fun j hj => by have := h (j + 1) (by omega); rwa [byteAt_succ, byteAt_succ] at this)
    omega
theorem byteAt_set (x j m i : Nat) (hm : m < 256) : byteAt (x - (byteAt x j) <<< (8 * j) + m <<< (8 * j)) i = if i = j then m else byteAt x i := by
  have hq : 0 < 256 ^ j := Nat.pow_pos (by omega)
  rw [Nat.shiftLeft_eq, Nat.shiftLeft_eq, pow256, byteAt_eq x j]
  have hx := Nat.div_add_mod x (256 ^ j)
  have hlt := Nat.mod_lt x hq
  have hy := Nat.div_add_mod (x / 256 ^ j) 256
  have key : x - x / 256 ^ j % 256 * 256 ^ j + m * 256 ^ j = x % 256 ^ j + (256 * (x / 256 ^ j / 256) + m) * 256 ^ j := by
    have e : x = x % 256 ^ j + (256 * (x / 256 ^ j / 256) + x / 256 ^ j % 256) * 256 ^ j := by
      rw [hy, Nat.mul_comm (x / 256 ^ j)]; omega
    rw [Nat.add_mul] at e ⊢
    generalize x / 256 ^ j % 256 * 256 ^ j = p at *
    generalize 256 * (x / 256 ^ j / 256) * 256 ^ j = q at *
    generalize m * 256 ^ j = r at *
    generalize x % 256 ^ j = u at *
    omega
  rw [key]
  split
  · rename_i h; subst h
    rw [byteAt_eq, Nat.add_mul_div_right _ _ hq, Nat.div_eq_of_lt hlt]
    omega
  · rename_i h
    rcases Nat.lt_or_gt_of_ne h with h | h
    · rw [← byteAt_mod _ j i h, Nat.add_mul_mod_self_right, Nat.mod_mod, byteAt_mod _ j i h]
    · obtain ⟨d, rfl⟩ : ∃ d, i = j + (1 + d) := ⟨i - j - 1, by omega⟩
      rw [byteAt_add_idx, Nat.add_mul_div_right _ _ hq, Nat.div_eq_of_lt hlt, Nat.zero_add, byteAt_add_idx, Nat.pow_one, byteAt_add_idx x, byteAt_add_idx _ 1, Nat.pow_one]
      congr 1; omega

theorem bytesL_length (n x : Nat) : (bytesL n x).length = n := by simp [bytesL]
theorem bytesL_get (n x j : Nat) : (bytesL n x)[j]? = if j < n then some (UInt8.ofNat (byteAt x j)) else none := by
  simp only [bytesL, List.getElem?_map]
  split
  · rename_i h; rw [List.getElem?_range h]; rfl
  · rename_i h; rw [List.getElem?_eq_none (by simpa using h)]; rfl
theorem toNat_byteAt (x j : Nat) : (UInt8.ofNat (byteAt x j)).toNat = byteAt x j := by
  simp [UInt8.toNat_ofNat', Nat.mod_eq_of_lt (byteAt_lt x j)]
theorem bytesL_join (a b n m : Nat) (ha : a < 256 ^ n) : bytesL (n + m) (a + b <<< (8 * n)) = bytesL n a ++ bytesL m b := by
  apply List.ext_getElem?
  intro j
  rw [List.getElem?_append, bytesL_get, bytesL_get, bytesL_get, bytesL_length, byteAt_join a b n j ha]
  by_cases h : j < n
  · simp [h, Nat.lt_of_lt_of_le h (Nat.le_add_right n m)]
  · simp only [h, if_false]
    by_cases h2 : j < n + m
    · simp [h2, show j - n < m by omega]
    · simp [h2, show ¬ j - n < m by omega]
theorem bytesL_cut (n z l h : Nat) (hl : l ≤ h) (hh : h ≤ n) : bytesL (h - l) (cutB z l (h - l)) = ((bytesL n z).take h).drop l := by
  apply List.ext_getElem?
  intro j
  rw [List.getElem?_drop, List.getElem?_take, bytesL_get, bytesL_get]
  by_cases hj : j < h - l
  · rw [if_pos hj, if_pos (by omega), if_pos (by omega), byteAt_cut _ _ _ _ hj]
  · rw [if_neg hj, if_neg (by omega)]
theorem bytesL_inj {n x m y : Nat} (hx : x < 256 ^ n) (hy : y < 256 ^ m) (h : bytesL n x = bytesL m y) : n = m ∧ x = y := by
  have hn : n = m := by rw [← bytesL_length n x, ← bytesL_length m y, h]
  subst hn
  refine ⟨rfl, byteAt_ext n x y hx hy fun j hj => ?_⟩
  have := congrArg (fun l : List UInt8 => l[j]?) h
  simp only [bytesL_get, if_pos hj, Option.some.injEq] at this
  have := congrArg UInt8.toNat this
  rwa [toNat_byteAt, toNat_byteAt] at this
theorem packL_lt : ∀ (l : List UInt8), packL l < 256 ^ l.length
  | [] => by simp [packL]
  | b :: l => by
    have := packL_lt l
    have hb := b.toNat_lt
    simp only [packL, List.length_cons, Nat.pow_succ]
    omega
theorem bytesL_pack : ∀ (l : List UInt8), bytesL l.length (packL l) = l := by
  intro l
  apply List.ext_getElem?
  intro j
  rw [bytesL_get]
  induction l generalizing j with
  | nil => simp
  | cons b l ih =>
    have hb := b.toNat_lt
    cases j with
    | zero =>
      have e : byteAt (packL (b :: l)) 0 = b.toNat := by rw [byteAt_zero]; simp only [packL]; omega
      simp [e]
    | succ j =>
      have e : byteAt (packL (b :: l)) (j + 1) = byteAt (packL l) j := by
        rw [byteAt_succ]; simp only [packL]
        congr 1; omega
      have := ih j
      rw [e]
      simpa using this
theorem strOf_pack (s : ByteArray) : strOf s.data.toList.length (packL s.data.toList) = s := by
  unfold strOf
  rw [bytesL_pack]
theorem strOf_size (n x : Nat) : (strOf n x).size = n := by
  show (bytesL n x).toArray.size = n
  simp [bytesL_length]
theorem strOf_data (n x : Nat) : (strOf n x).data.toList = bytesL n x := by simp [strOf]
theorem ba_ext {a b : ByteArray} (h : a.data.toList = b.data.toList) : a = b := by
  cases a; cases b; simp only [ByteArray.mk.injEq] at *; exact Array.toList_inj.1 h
theorem strOf_append (a b n m : Nat) (ha : a < 256 ^ n) : strOf n a ++ strOf m b = strOf (n + m) (a + b <<< (8 * n)) := by
  apply ba_ext
  rw [strOf_data, bytesL_join a b n m ha]
  simp [strOf]
theorem strOf_extract (n z l h : Nat) (hl : l ≤ h) (hh : h ≤ n) : (strOf n z).extract l h = strOf (h - l) (cutB z l (h - l)) := by
  apply ba_ext
  rw [strOf_data, bytesL_cut n z l h hl hh]
  have e : ((strOf n z).extract l h).data = (strOf n z).data.extract l h := by simp
  rw [e, Array.toList_extract, strOf_data, List.extract_eq_take_drop, List.drop_take]
theorem strOf_get (n z i : Nat) (hi : i < n) : (strOf n z)[i]? = some (UInt8.ofNat (byteAt z i)) := by
  have hs : i < (strOf n z).size := by rw [strOf_size]; exact hi
  have h1 := bytesL_get n z i
  rw [if_pos hi] at h1
  rw [getElem?_pos (strOf n z) i hs]
  have : (strOf n z).data.toList[i]? = some (strOf n z)[i] := by
    rw [Array.getElem?_toList]; exact getElem?_pos (strOf n z).data i hs
  rw [strOf_data, h1] at this
  exact this.symm
theorem strOf_inj {n x m y : Nat} (hx : x < 256 ^ n) (hy : y < 256 ^ m) (h : strOf n x = strOf m y) : n = m ∧ x = y :=
  bytesL_inj hx hy (by rw [← strOf_data, ← strOf_data, h])

end Go.Am
