/-
  Appends.
-/
import Derived.Test.YtbefkepinpollaaGreatDoorAmActs3
namespace Go.Am
set_option linter.unusedSimpArgs false
set_option linter.unusedVariables false
open Go Go.RowKit
variable {P : Program} {o : Oper}

def bcells (m z : Nat) : List AV := (List.range m).map fun j => .int .u8 (Int.ofNat (byteAt z j))
theorem bcells_length (m z : Nat) : (bcells m z).length = m := by simp [bcells]
theorem bcells_get (m z j : Nat) : (bcells m z)[j]? = if j < m then some (.int .u8 (Int.ofNat (byteAt z j))) else none := by
  simp only [bcells, List.getElem?_map]
  split
  · rename_i h; rw [List.getElem?_range h]; rfl
  · rename_i h; rw [List.getElem?_eq_none (by simpa using h)]; rfl
def bvals (m z : Nat) : List Value := (List.range m).map fun j => .int .u8 (byteAt z j : Int)
theorem bcells_gam (κ : Kap) (m z : Nat) : gams κ (bcells m z) = some (bvals m z) :=
  gams_of _ _ (by simp [bcells, bvals]) fun i v hv => by
    rw [bcells_get] at hv
    split at hv
    · rename_i h
      cases hv
      exact ⟨.int .u8 (byteAt z i : Int), by simp [bvals, List.getElem?_range h], by simp [gam]⟩
    · cases hv
theorem bvals_one (m z : Nat) : (bvals m z).all Value.oneCell' = true := by
  rw [List.all_eq_true]; intro v hv
  simp only [bvals, List.mem_map] at hv
  obtain ⟨j, _, rfl⟩ := hv; rfl

theorem growBK_iff {ob : AObj} {off m l y : Nat} {k : AObj → Prop} (h : growBK ob off m l y k) :
    ∃ ob', k ob' ∧ rowLike ob ∧ rowLike ob' ∧ off + m ≤ sizeOfObj ob ∧ sizeOfObj ob' = m + l ∧ ∀ j, cellAt ob' j = if j < m then cellAt ob (off + j) else (bcells l y)[j - m]? := by
  obtain ⟨n, x, rfl, h⟩ := asByts_iff h
  obtain ⟨hb, h⟩ := gd_iff.1 h
  simp only [forceN_eq] at h
  have hb' : off + m ≤ n := by simpa using hb
  refine ⟨_, h, trivial, trivial, hb', rfl, fun j => ?_⟩
  rw [cellAt_byts, cellAt_byts, bcells_get, byteAt_join _ _ _ _ (cutB_lt _ _ _)]
  by_cases hj : j < m
  · rw [if_pos (by omega), if_pos hj, if_pos hj, if_pos (by omega), byteAt_cut _ _ _ _ hj]
  · rw [if_neg hj, if_neg hj]
    by_cases hj2 : j < m + l
    · rw [if_pos hj2, if_pos (by omega)]
    · rw [if_neg hj2, if_neg (by omega)]
theorem growK_iff {ob : AObj} {off m : Nat} {new : List AV} {k : AObj → Prop} (h : growK ob off m new k) :
    ∃ ob', k ob' ∧ rowLike ob ∧ rowLike ob' ∧ off + m ≤ sizeOfObj ob ∧ sizeOfObj ob' = m + new.length ∧ ∀ j, cellAt ob' j = if j < m then cellAt ob (off + j) else new[j - m]? := by
  cases ob with
  | row cs =>
    obtain ⟨hb, h⟩ := gd_iff.1 h
    have hb' : off + m ≤ cs.length := by simpa using hb
    obtain ⟨ob', h1, h2, h3, h4⟩ := rowK_iff h
    refine ⟨ob', h1, trivial, h2, hb', by rw [h3]; simp; omega, fun j => ?_⟩
    have hl : ((cs.drop off).take m).length = m := by simp; omega
    rw [h4, List.getElem?_append, hl]
    by_cases hj : j < m
    · rw [if_pos hj, if_pos hj, List.getElem?_take, if_pos hj, List.getElem?_drop]; simp [cellAt, getL_eq]
    · rw [if_neg hj, if_neg hj]
  | big n t d =>
    obtain ⟨hb, h⟩ := gd_iff.1 h
    have hb' : off + m ≤ n := by simpa using hb
    cases hz : Nat.beq off 0 with
    | true =>
      rw [hz] at h
      obtain ⟨t', h1, h2⟩ := trieK_eq _ _ _ _ h
      rw [forceN_eq] at h1
      have h0 : off = 0 := by simpa using hz
      subst h0
      refine ⟨_, h1, trivial, trivial, hb', rfl, fun j => ?_⟩
      rw [cellAt_big, cellAt_big, h2, Nat.zero_add]
      by_cases hj : j < m
      · rw [if_pos (by omega), if_neg (by omega), if_pos hj, if_pos (by omega)]
      · rw [if_neg hj]
        by_cases hj2 : j < m + new.length
        · rw [if_pos hj2, if_pos (by omega), List.getElem?_eq_getElem (by omega)]
        · rw [if_neg hj2, List.getElem?_eq_none (by omega)]
    | false =>
      rw [hz] at h
      obtain ⟨l, h1, h2, h3⟩ := cellsK_iff _ _ _ _ h
      obtain ⟨ob', h4, h5, h6, h7⟩ := rowK_iff h1
      refine ⟨ob', h4, trivial, h5, hb', by rw [h6, List.length_append, h2], fun j => ?_⟩
      rw [h7, List.getElem?_append, h2]
      by_cases hj : j < m
      · rw [if_pos hj, if_pos hj]
        obtain ⟨v, q1, q2⟩ := h3 j hj
        rw [q1, q2]
      · rw [if_neg hj, if_neg hj]
  | byts n x =>
    obtain ⟨hb, h⟩ := gd_iff.1 h
    have hb' : off + m ≤ n := by simpa using hb
    obtain ⟨y, hy, h⟩ := asOpt_iff.1 h
    simp only [forceN_eq] at h
    refine ⟨_, h, trivial, trivial, hb', rfl, fun j => ?_⟩
    rw [cellAt_byts, cellAt_byts, byteAt_join _ _ _ _ (cutB_lt _ _ _)]
    by_cases hj : j < m
    · rw [if_pos (by omega), if_pos hj, if_pos hj, if_pos (by omega), byteAt_cut _ _ _ _ hj]
    · rw [if_neg hj, if_neg hj]
      by_cases hj2 : j < m + new.length
      · rw [if_pos hj2, packAV_get _ _ hy _ (by omega)]
      · rw [if_neg hj2, List.getElem?_eq_none (by omega)]
  | _ => exact h.elim
theorem overBK_iff {ob : AObj} {a m z : Nat} {k : AObj → Prop} (h : overBK ob a m z k) :
    ∃ ob', k ob' ∧ rowLike ob ∧ rowLike ob' ∧ sizeOfObj ob' = sizeOfObj ob ∧ a + (bcells m z).length ≤ sizeOfObj ob ∧ ∀ j, cellAt ob' j = if a ≤ j ∧ j < a + (bcells m z).length then (bcells m z)[j - a]? else cellAt ob j := by
  obtain ⟨n, x, rfl, h⟩ := asByts_iff h
  obtain ⟨hb, h⟩ := gd_iff.1 h
  simp only [forceN_eq] at h
  have hb' : a + m ≤ n := by simpa using hb
  refine ⟨_, h, trivial, trivial, rfl, by rw [bcells_length]; exact hb', fun j => ?_⟩
  rw [cellAt_byts, cellAt_byts, bcells_get, bcells_length, byteAt_join _ _ _ _ (cutB_lt _ _ _)]
  by_cases hn : j < n
  · simp only [hn, if_true]
    by_cases h1 : j < a
    · rw [if_pos h1, if_neg (by omega), byteAt_cut _ _ _ _ h1, Nat.zero_add]
    · rw [if_neg h1, byteAt_join _ _ _ _ (cutB_lt _ _ _)]
      by_cases h2 : j < a + m
      · rw [if_pos (show j - a < m by omega), if_pos (show a ≤ j ∧ j < a + m by omega), if_pos (by omega), byteAt_cut _ _ _ _ (by omega), Nat.zero_add]
      · rw [if_neg (show ¬ j - a < m by omega), if_neg (show ¬ (a ≤ j ∧ j < a + m) by omega)]
        have e : byteAt (x >>> (8 * (a + m))) (j - a - m) = byteAt x j := by
          rw [Nat.shiftRight_eq_div_pow, pow256, ← byteAt_add_idx]; congr 1; omega
        rw [e]
  · rw [if_neg hn, if_neg (show ¬ (a ≤ j ∧ j < a + m) by omega), if_neg hn]

/-! ### what is appended -/
structure Src (P : Program) (κ : Kap) (w : World) (esz m : Nat) (X : Value) (new : List AV) : Prop where
  intro ::
  ex : ∃ NEW, gams κ new = some NEW ∧ NEW.all Value.oneCell' = true ∧ (∀ w', (Builtin.lenOf X).run P w' = .ok m w') ∧ ∀ w' : World, w'.heap = w.heap → (Builtin.firstCells esz m X).run P w' = .ok NEW.toArray w'
theorem cell?_heap {w w' : World} (h : w'.heap = w.heap) (a : Addr) : w'.cell? a = w.cell? a := by simp [World.cell?, h]
theorem srcK_iff {h : Hp} {esz : Nat} {u8 : Bool} {x : AV} {k0 : Prop} {kl : Nat → List AV → Prop} {kb : Nat → Nat → Prop} (hu : u8 = true → esz = 1) (hD : srcK h esz u8 x k0 kl kb) :
    (k0 ∧ ∀ B w0 κ w X, Sim B w0 κ h w → gam κ x = some X → Src P κ w esz 0 X []) ∨
    (∃ m l, 0 < m ∧ l.length = m * esz ∧ kl m l ∧ ∀ B w0 κ w X, Sim B w0 κ h w → gam κ x = some X → Src P κ w esz m X l) ∨
    (∃ m z, 0 < m ∧ esz = 1 ∧ kb m z ∧ ∀ B w0 κ w X, Sim B w0 κ h w → gam κ x = some X → Src P κ w esz m X (bcells m z)) := by
  have zero : ∀ (κ : Kap) (w : World) (X : Value), (∀ w', (Builtin.lenOf X).run P w' = .ok 0 w') → (∀ w', (Builtin.firstCells esz 0 X).run P w' = .ok #[] w') → Src P κ w esz 0 X [] :=
    fun κ w X h1 h2 => ⟨[], rfl, rfl, h1, fun w' _ => h2 w'⟩
  cases x with
  | nilslice =>
    refine .inl ⟨hD, fun B w0 κ w X s hX => zero κ w X ?_ ?_⟩ <;> (simp [gam] at hX; subst hX; intro w'; simp [Builtin.lenOf, Builtin.firstCells])
  | slice p off m kn c =>
    have hX' : ∀ (κ : Kap) X, gam κ (.slice p off m kn c) = some X → ∃ ki cap, κ p = some ki ∧ X = .slice (some (ki.at off)) m cap := by
      intro κ X hX
      simp only [gam, Option.bind_eq_some_iff] at hX
      obtain ⟨ki, h1, h2⟩ := hX
      cases kn with
      | true => simp only [if_true] at h2; split at h2 <;> simp_all; exact ⟨_, h2.symm⟩
      | false => simp only [Bool.false_eq_true, if_false] at h2; split at h2 <;> simp_all; exact ⟨_, h2.symm⟩
    have hD' : Bool.rec (motive := fun _ => Prop) (objAt h p fun e => Bool.rec (motive := fun _ => Prop)
      (cellsK e.obj (m * esz) off fun l => kl m l)
      (asByts e.obj fun n z => gd (Nat.ble (off + m) n) (forceN (cutB z off m) fun z => kb m z)) u8) k0 (Nat.beq m 0) := hD
    cases hm : Nat.beq m 0 with
    | true =>
      rw [hm] at hD'
      have h0 : m = 0 := by simpa using hm
      subst h0
      refine .inl ⟨hD', fun B w0 κ w X s hX => ?_⟩
      obtain ⟨ki, cap, _, rfl⟩ := hX' κ X hX
      exact zero _ _ _ (fun w' => by simp [Builtin.lenOf]) (fun w' => by simp [Builtin.firstCells, loadCells, loadCellsFrom])
    | false =>
      rw [hm] at hD'
      have hm' : 0 < m := by
        have : ¬ m = 0 := by intro h0; rw [h0] at hm; exact absurd hm (by decide)
        omega
      obtain ⟨e, he, hD'⟩ := objAt_iff.1 hD'
      cases u8 with
      | false =>
        obtain ⟨l, h1, h2, h3⟩ := cellsK_iff _ _ _ _ hD'
        refine .inr (.inl ⟨m, l, hm', h2, h1, fun B w0 κ w X s hX => ?_⟩)
        obtain ⟨ki, cap, hk, rfl⟩ := hX' κ X hX
        obtain ⟨L, f1, f2, f3⟩ := s.cells he hk l off (fun j hj => h3 j (by omega))
        refine ⟨L, f1, f2, fun w' => by simp [Builtin.lenOf], fun w' hw => ?_⟩
        exact run_firstCells_some w' esz m (ki.at off) m cap L (by rw [gams_length _ _ f1, h2]) (fun j v hv => by rw [at_add, cell?_heap hw]; exact f3 j v hv)
      | true =>
        have h1 := hu rfl
        subst h1
        obtain ⟨n, z, hob, hD'⟩ := asByts_iff hD'
        obtain ⟨hb, hD'⟩ := gd_iff.1 hD'
        rw [forceN_eq] at hD'
        have hb' : off + m ≤ n := by simpa using hb
        refine .inr (.inr ⟨m, _, hm', rfl, hD', fun B w0 κ w X s hX => ?_⟩)
        obtain ⟨ki, cap, hk, rfl⟩ := hX' κ X hX
        have hc : ∀ j, j < (bcells m (cutB z off m)).length → ∃ v, (bcells m (cutB z off m))[j]? = some v ∧ cellAt e.obj (off + j) = some v := by
          intro j hj
          rw [bcells_length] at hj
          refine ⟨_, by rw [bcells_get, if_pos hj], ?_⟩
          rw [hob, cellAt_byts, if_pos (by omega), byteAt_cut _ _ _ _ hj]
        obtain ⟨L, f1, f2, f3⟩ := s.cells he hk _ off hc
        refine ⟨L, f1, f2, fun w' => by simp [Builtin.lenOf], fun w' hw => ?_⟩
        exact run_firstCells_some w' 1 m (ki.at off) m cap L (by rw [gams_length _ _ f1, bcells_length]; omega) (fun j v hv => by rw [at_add, cell?_heap hw]; exact f3 j v hv)
  | sliceE p a b c =>
    refine .inl ⟨hD, fun B w0 κ w X s hX => ?_⟩
    simp only [gam, Option.bind_eq_some_iff] at hX
    obtain ⟨ki, h1, h2⟩ := hX
    split at h2
    · simp only [Option.some.injEq] at h2
      subst h2
      exact zero _ _ _ (fun w' => by simp [Builtin.lenOf]) (fun w' => by simp [Builtin.firstCells, loadCells, loadCellsFrom])
    · cases h2
  | str m z =>
    obtain ⟨hsz, hD⟩ := gd_iff.1 (show gd (Nat.beq esz 1) _ from hD)
    have h1 : esz = 1 := by simpa using hsz
    subst h1
    have hX' : ∀ (κ : Kap) X, gam κ (.str m z) = some X → z < 256 ^ m ∧ X = .string (strOf m z) := by
      intro κ X hX
      simp only [gam] at hX
      split at hX
      · rename_i hlt; exact ⟨hlt, by simpa using hX.symm⟩
      · cases hX
    have hD' : Bool.rec (motive := fun _ => Prop) (forceN (cutB z 0 m) fun z => kb m z) k0 (Nat.beq m 0) := hD
    cases hm : Nat.beq m 0 with
    | true =>
      rw [hm] at hD'
      have h0 : m = 0 := by simpa using hm
      subst h0
      refine .inl ⟨hD', fun B w0 κ w X s hX => ?_⟩
      obtain ⟨_, rfl⟩ := hX' κ X hX
      exact zero _ _ _ (fun w' => by simp [Builtin.lenOf, strOf_size]) (fun w' => by simp [Builtin.firstCells, strOf, bytesL])
    | false =>
      rw [hm] at hD'
      rw [forceN_eq] at hD'
      have hm' : 0 < m := by
        have : ¬ m = 0 := by intro h0; rw [h0] at hm; exact absurd hm (by decide)
        omega
      refine .inr (.inr ⟨m, _, hm', rfl, hD', fun B w0 κ w X s hX => ?_⟩)
      obtain ⟨hlt, rfl⟩ := hX' κ X hX
      refine ⟨bvals m (cutB z 0 m), bcells_gam _ _ _, bvals_one _ _, fun w' => by simp [Builtin.lenOf, strOf_size], fun w' hw => ?_⟩
      have e : (((strOf m z).extract 0 m).data.map fun b => Value.int .u8 b.toNat) = (bvals m (cutB z 0 m)).toArray := by
        apply Array.toList_inj.1
        have e1 := strOf_extract m z 0 m (by omega) (Nat.le_refl m)
        rw [e1, Array.toList_map, strOf_data]
        simp only [bytesL, bvals, Nat.sub_zero, List.map_map]
        apply List.map_congr_left
        intro j _
        simp only [Function.comp, toNat_byteAt]
      simp only [Builtin.firstCells, e, Sem.run_pure]
  | _ => exact hD.elim

/-! ### the model's append -/
set_option maxHeartbeats 1000000 in
theorem app_room {t u ty e : TypeId} {i : TypeInfo} {du : TypeDesc} (ht : P.underlying t = some (.slice e)) (hi : P.info? e = some i) (hu : P.underlying u = some du) (hdu : (∃ e', du = .slice e') ∨ du = .string)
    {κ : Kap} {w w' : World} {m len cap : Nat} {X : Value} {base : Option Addr} {NEW : List Value} (hl : (Builtin.lenOf X).run P w = .ok m w) (hf : (Builtin.firstCells i.size m X).run P w = .ok NEW.toArray w) (hroom : len + m ≤ cap)
    (hst : ∀ a, base = some a → (storeCells (a.add (len * i.size)) NEW).run P w = .ok () w') (hno : base = none → w' = w) :
    (Builtin.append_ #[t, u] ty #[.slice base len cap, X]).run P w = .ok (.slice base (len + m) cap) w' := by
  cases base with
  | none =>
    obtain rfl := hno rfl
    rcases hdu with ⟨e', rfl⟩ | rfl <;> simp [Builtin.append_, run_underlying ht, run_underlying hu, sizeOf, typeInfo, hi, hl, hroom, hf]
  | some a =>
    have hst := hst a rfl
    rcases hdu with ⟨e', rfl⟩ | rfl <;> simp [Builtin.append_, run_underlying ht, run_underlying hu, sizeOf, typeInfo, hi, hl, hroom, hf, hst]
set_option maxHeartbeats 1000000 in
theorem app_grow {t u ty e : TypeId} {i : TypeInfo} {z : Value} {du : TypeDesc} (ht : P.underlying t = some (.slice e)) (hi : P.info? e = some i) (hz : i.zero = some z) (hu : P.underlying u = some du) (hdu : (∃ e', du = .slice e') ∨ du = .string)
    {w : World} {m len cap : Nat} {X : Value} {base : Option Addr} {NEW OLD : List Value} (hl : (Builtin.lenOf X).run P w = .ok m w) (hf : (Builtin.firstCells i.size m X).run P w.drew = .ok NEW.toArray w.drew)
    (hold : (Builtin.firstCells i.size len (.slice base len cap)).run P w.drew = .ok OLD.toArray w.drew) (hgt : cap < len + m) (hb : (len + m) * i.bytes ≤ 140737488355328) (hb1 : 0 < i.bytes) :
    (Builtin.append_ #[t, u] ty #[.slice base len cap, X]).run P w = .ok (.slice (some ⟨w.heap.size, 0, none⟩) (len + m) (grownCap w (len + m) cap e))
      (w.drew.alloc (.cells (OLD.toArray ++ NEW.toArray ++ Builtin.zeroCells z.cells (grownCap w (len + m) cap e - (len + m))) e)) := by
  have hn : ¬ (len + m ≤ cap) := by omega
  have hfit := growslice_fits hgt hb
  have h48' : ¬ (281474976710656 < Builtin.nextslicecap (len + m) cap * i.bytes) := by omega
  have hb0 : i.bytes ≠ 0 := by omega
  rcases hdu with ⟨e', rfl⟩ | rfl <;> (
    simp [Builtin.append_, run_underlying ht, run_underlying hu, sizeOf, typeInfo, zeroValue, hi, hz, hl, hn, h48', hb0, Question.forced, hf, hold, newRow, grownCap]
    try (congr 2; apply Array.ext'; simp [List.append_assoc]))

end Go.Am
