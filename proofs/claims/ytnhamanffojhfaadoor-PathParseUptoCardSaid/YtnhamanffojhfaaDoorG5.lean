/-
  What functions of the program do, said of the abstract machine, and plain lemmas: LcMap LcShown LcShown2 LcShown3 LcPath LcPath2 LcPath3 LcPath4 LcPath5 LcPath6 YtnhamanffojhfaaDoorCon LgTab16P LcArg LcGv LcArgU. No condition.
-/
import Derived.Test.YtnhamanffojhfaaDoorG4
import Derived.KernelRfl
import Derived.Shelf.Strings.Builder1
import Derived.Shelf.Strings.Builder2
import Derived.Shelf.Strings.OnBuilder
import Derived.Test.YtnhamanffojhfaaDoorProg
import Derived.Test.YtnhamanffojhfaaDoorRows
import Derived.Stop.LaidErr
import Derived.Lib.LaidTab
import Derived.Lib.AppendIntMem
namespace Lg
set_option linter.unusedSimpArgs false
set_option linter.unusedVariables false
set_option maxRecDepth 100000
open Go Go.Am Go.Lib
open Go.Proofs.YtnhamanffojhfaaDoor.shl
theorem eqKS_S (a b : List UInt8) : eqKS (S a) (S b) = some (decide (a = b)) := by
  show some (eqS a.length (packL a) b.length (packL b)) = _
  rw [eqS_S]
abbrev KV := List UInt8 × Int × Nat
def kvE (p : KV) : AV × AV × Nat := (S p.1, I p.2.1, p.2.2)
def lk : List KV → List UInt8 → Option Int
  | [], _ => none
  | p :: r, key => if key = p.1 then some p.2.1 else lk r key
def updKV : List KV → List UInt8 → Int → List KV
  | [], _, _ => []
  | p :: r, key, v => if key = p.1 then (p.1, v, p.2.2) :: r else p :: updKV r key v
theorem find_none : ∀ (kvs : List KV) (key : List UInt8) (i : Nat), lk kvs key = none → findA eqKS (S key) (kvs.map kvE) i = some none
  | [], _, _, _ => rfl
  | p :: r, key, i, h => by
    unfold lk at h
    split at h
    · cases h
    · rename_i hk
      show (match eqKS (S key) (S p.1) with | some true => _ | some false => findA eqKS (S key) (r.map kvE) (Nat.succ i) | none => none) = _
      rw [eqKS_S, decide_eq_false hk]
      exact find_none r key (Nat.succ i) h
theorem find_some : ∀ (kvs : List KV) (key : List UInt8) (i : Nat) (v : Int), lk kvs key = some v → ∃ j, findA eqKS (S key) (kvs.map kvE) i = some (some (i + j, I v)) ∧ ∀ u, modE (I u) (kvs.map kvE) j = (updKV kvs key u).map kvE
  | [], _, _, _, h => by cases h
  | p :: r, key, i, v, h => by
    unfold lk at h
    split at h
    · rename_i hk
      cases h
      refine ⟨0, ?_, fun u => ?_⟩
      · show (match eqKS (S key) (S p.1) with | some true => some (some (i, I p.2.1)) | some false => findA eqKS (S key) (r.map kvE) (Nat.succ i) | none => none) = _
        rw [eqKS_S, decide_eq_true hk]
        rfl
      · unfold updKV
        rw [if_pos hk]
        rfl
    · rename_i hk
      obtain ⟨j, h1, h2⟩ := find_some r key (Nat.succ i) v h
      refine ⟨j + 1, ?_, fun u => ?_⟩
      · show (match eqKS (S key) (S p.1) with | some true => some (some (i, I p.2.1)) | some false => findA eqKS (S key) (r.map kvE) (Nat.succ i) | none => none) = _
        rw [eqKS_S, decide_eq_false hk]
        show findA eqKS (S key) (r.map kvE) (Nat.succ i) = _
        rw [h1]
        congr 3
        omega
      · unfold updKV
        rw [if_neg hk]
        show kvE p :: modE (I u) (r.map kvE) j = kvE p :: _
        rw [h2 u]
theorem lk_upd : ∀ (kvs : List KV) (key : List UInt8) (v u : Int), lk kvs key = some v → ∀ k2, lk (updKV kvs key u) k2 = if k2 = key then some u else lk kvs k2
  | [], _, _, _, h, _ => by cases h
  | p :: r, key, v, u, h, k2 => by
    unfold lk at h
    unfold updKV
    split at h
    · rename_i hk
      rw [if_pos hk]
      unfold lk
      by_cases h2 : k2 = key
      · rw [if_pos h2, if_pos (h2.trans hk)]
      · rw [if_neg h2, if_neg (fun e => h2 (e.trans hk.symm))]
        try dsimp only
        try rw [if_neg (fun e => h2 (e.trans hk.symm))]
    · rename_i hk
      rw [if_neg hk]
      unfold lk
      by_cases h2 : k2 = p.1
      · rw [if_pos h2, if_neg (fun e => hk (e.symm.trans h2)), if_pos h2]
      · rw [if_neg h2, if_neg h2]
        exact lk_upd r key v u h k2
theorem lk_app : ∀ (kvs : List KV) (key : List UInt8) (u : Int) (c : Nat), lk kvs key = none → ∀ k2, lk (kvs ++ [(key, u, c)]) k2 = if k2 = key then some u else lk kvs k2
  | [], key, u, c, _, k2 => rfl
  | p :: r, key, u, c, h, k2 => by
    unfold lk at h
    split at h
    · cases h
    · rename_i hk
      show lk (p :: (r ++ [(key, u, c)])) k2 = _
      unfold lk
      by_cases h2 : k2 = p.1
      · rw [if_pos h2, if_neg (fun e => hk (e.symm.trans h2)), if_pos h2]
      · rw [if_neg h2, if_neg h2]
        exact lk_app r key u c h k2
section
variable {h : Hp} {K : AV → Hp → Prop} {mo c : Nat} {kvs : List KV} {key : List UInt8}
theorem look2_go (hat : h.at mo = some ⟨true, 0, .map (kvs.map kvE) c⟩) (h1 : ∀ v, lk kvs key = some v → K (.tup [I v, .bool true]) h) (h2 : lk kvs key = none → K (.tup [I 0, .bool false]) h) : vLookup eqKS true (.int .i64 0) (.map mo) (S key) h K := by
  show asOpt (eqKS (S key) (S key)) fun b => gd b (asOpt (h.at mo) fun e => asMap e.obj fun es _ => asOpt (findA eqKS (S key) es 0) fun r => finLook true (.int .i64 0) h K r)
  rw [eqKS_S, asOpt_some, decide_eq_true rfl, gd_true, hat, asOpt_some]
  show asOpt (findA eqKS (S key) (kvs.map kvE) 0) fun r => finLook true (.int .i64 0) h K r
  cases hl : lk kvs key with
  | none =>
    rw [find_none kvs key 0 hl, asOpt_some]
    exact h2 hl
  | some v =>
    obtain ⟨j, q1, _⟩ := find_some kvs key 0 v hl
    rw [q1, asOpt_some]
    exact h1 v hl
theorem look1_go (hat : h.at mo = some ⟨true, 0, .map (kvs.map kvE) c⟩) (h1 : ∀ v, lk kvs key = some v → K (I v) h) (h2 : lk kvs key = none → K (I 0) h) : vLookup eqKS false (.int .i64 0) (.map mo) (S key) h K := by
  show asOpt (eqKS (S key) (S key)) fun b => gd b (asOpt (h.at mo) fun e => asMap e.obj fun es _ => asOpt (findA eqKS (S key) es 0) fun r => finLook false (.int .i64 0) h K r)
  rw [eqKS_S, asOpt_some, decide_eq_true rfl, gd_true, hat, asOpt_some]
  show asOpt (findA eqKS (S key) (kvs.map kvE) 0) fun r => finLook false (.int .i64 0) h K r
  cases hl : lk kvs key with
  | none =>
    rw [find_none kvs key 0 hl, asOpt_some]
    exact h2 hl
  | some v =>
    obtain ⟨j, q1, _⟩ := find_some kvs key 0 v hl
    rw [q1, asOpt_some]
    exact h1 v hl
theorem mapset_go {u : Int} (hat : h.at mo = some ⟨true, 0, .map (kvs.map kvE) c⟩) (q : ∀ kvs' c', (∀ k2, lk kvs' k2 = if k2 = key then some u else lk kvs k2) → K undefV (h.put mo (some ⟨true, 0, .map (kvs'.map kvE) c'⟩))) : vMapSet eqKS (.map mo) (S key) (I u) h K := by
  show asOpt (eqKS (S key) (S key)) fun b => gd b (asOpt (h.at mo) fun e => gd e.own (asMap e.obj fun es c => asOpt (findA eqKS (S key) es 0) fun r =>
    Option.rec (motive := fun _ => Prop) (putK h mo (some ⟨true, e.esz, .map (es ++ [(S key, I u, c)]) (Nat.succ c)⟩) fun h => K undefV h)
      (fun p => putK h mo (some ⟨true, e.esz, .map (modE (I u) es p.1) c⟩) fun h => K undefV h) r))
  rw [eqKS_S, asOpt_some, decide_eq_true rfl, gd_true, hat, asOpt_some]
  show gd true (asOpt (findA eqKS (S key) (kvs.map kvE) 0) fun r =>
    Option.rec (motive := fun _ => Prop) (putK h mo (some ⟨true, 0, .map (kvs.map kvE ++ [(S key, I u, c)]) (Nat.succ c)⟩) fun h => K undefV h)
      (fun p => putK h mo (some ⟨true, 0, .map (modE (I u) (kvs.map kvE) p.1) c⟩) fun h => K undefV h) r)
  rw [gd_true]
  cases hl : lk kvs key with
  | none =>
    rw [find_none kvs key 0 hl, asOpt_some]
    show putK h mo (some ⟨true, 0, .map (kvs.map kvE ++ [(S key, I u, c)]) (Nat.succ c)⟩) fun h => K undefV h
    rw [putK_eq']
    have := q (kvs ++ [(key, u, c)]) (Nat.succ c) (lk_app kvs key u c hl)
    rw [List.map_append] at this
    exact this
  | some v =>
    obtain ⟨j, q1, q2⟩ := find_some kvs key 0 v hl
    rw [q1, asOpt_some]
    show putK h mo (some ⟨true, 0, .map (modE (I u) (kvs.map kvE) (0 + j)) c⟩) fun h => K undefV h
    rw [putK_eq', Nat.zero_add, q2 u]
    exact q _ c (lk_upd kvs key v u hl)
theorem mkmap_go (q : K (.map h.next) (h.new ⟨true, 0, .map (([] : List KV).map kvE) 0⟩)) : vMkMap h K := by
  show newK h ⟨true, 0, .map [] 0⟩ fun o h => K (.map o) h
  rw [newK_eq']
  exact q
end
/-- Names and IDs as they are read. -/
def NmsR (els : List (List AV)) (ns : List (List UInt8)) : Prop := els = ns.map fun s => [S s]
abbrev IdI := Int × Int
def IdsR (els : List (List AV)) (ids : List IdI) : Prop := els = ids.map fun i => [I i.1, I i.2]
theorem cut_rd {h : Hp} {K : AV → Hp → Prop} {esz : Nat} {v : AV} {els : List (List AV)} (hv : Rd h esz v els) (k : Nat) (hk : k ≤ els.length) (hK : ∀ v', Rd h esz v' (els.take k) → K v' h) : vSlice2 esz v none (some (I k)) h K := by
  rcases hv with ⟨rfl, rfl⟩ | ⟨o, rfl, rfl⟩ | ⟨o, off, kn, c, e, rfl, h1, h2, h3, h4⟩
  · have : k = 0 := by simpa using hk
    subst this
    exact cut_nil (hK _ (.inl ⟨rfl, rfl⟩))
  · have : k = 0 := by simpa using hk
    subst this
    exact cut_z (hK _ (.inr (.inl ⟨o, rfl, rfl⟩)))
  · refine cut_slice hk h3.2 (hK _ (.inr (.inr ⟨o, off, kn, c, e, ?_, h1, h2, ⟨?_, ?_⟩, fun j hj => ?_⟩)))
    · rw [List.length_take, Nat.min_eq_left hk]
    · rw [List.length_take]; omega
    · intro q; have := h3.2 q; rw [List.length_take]; omega
    · have hj' : j < els.length := by rw [List.length_take] at hj; omega
      rw [List.getElem_take]
      exact h4 j hj'
end Lg

namespace Lg
set_option linter.unusedSimpArgs false
set_option linter.unusedVariables false
set_option maxRecDepth 100000
open Go Go.Am Go.Lib
open Go.Proofs.YtnhamanffojhfaaDoor.shl
/-! ### plain -/
def betB (f : Nat → IdI) (k i : Nat) : Bool := lessI (f k).1 (f k).2 (f i).1 (f i).2 || (decide (k < i) && sameI (f k).1 (f k).2 (f i).1 (f i).2)
def isBet (f : Nat → IdI) (g : Nat → List UInt8) (n i : Nat) : Bool := (List.range n).any fun k => decide (g k = g i) && betB f k i
def shG (f : Nat → IdI) (g : Nat → List UInt8) (n i : Nat) : List UInt8 := if isBet f g n i = true then g i ++ sufB (f i).1 (f i).2 else g i
def idAt (ids : List IdI) (k : Nat) : IdI := ids.getD k (0, 0)
def nmAt (nms : List (List UInt8)) (k : Nat) : List UInt8 := nms.getD k []
def shL (f : Nat → IdI) (g : Nat → List UInt8) (n : Nat) : List (List UInt8) := (List.range n).map (shG f g n)
def FirstI (f : Nat → IdI) (g : Nat → List UInt8) (j : Nat) (M : List UInt8 → Option Int) : Prop :=
  ∀ key, (M key = none → ∀ k, k < j → g k ≠ key) ∧ ∀ v, M key = some v → ∃ k : Nat, v = (k : Int) ∧ k < j ∧ g k = key ∧ ∀ k', k' < j → g k' = key → betB f k' k = false
theorem bet_iff (f : Nat → IdI) (k i : Nat) : betB f k i = true ↔ ((f k).1 < (f i).1 ∨ ((f k).1 = (f i).1 ∧ (f k).2 < (f i).2)) ∨ (k < i ∧ (f k).1 = (f i).1 ∧ (f k).2 = (f i).2) := by
  unfold betB lessI sameI
  simp
theorem bet_no (f : Nat → IdI) (k i : Nat) : betB f k i = false ↔ ¬ (((f k).1 < (f i).1 ∨ ((f k).1 = (f i).1 ∧ (f k).2 < (f i).2)) ∨ (k < i ∧ (f k).1 = (f i).1 ∧ (f k).2 = (f i).2)) := by
  rw [← bet_iff]
  simp
theorem first_nil (f : Nat → IdI) (g : Nat → List UInt8) : FirstI f g 0 (lk []) := fun key => ⟨fun _ k hk => absurd hk (Nat.not_lt_zero _), fun v hv => by cases hv⟩
theorem first_set {f : Nat → IdI} {g : Nat → List UInt8} {j : Nat} {M M' : List UInt8 → Option Int} (hM : FirstI f g j M) (hj : M (g j) = none ∨ ∃ k : Nat, M (g j) = some (k : Int) ∧ lessI (f j).1 (f j).2 (f k).1 (f k).2 = true) (h' : ∀ key, M' key = if key = g j then some (j : Int) else M key) : FirstI f g (j + 1) M' := fun key => by
  rw [h' key]
  by_cases hk : key = g j
  · rw [if_pos hk]
    refine ⟨fun q => (by cases q), fun v hv => ⟨j, (by cases hv; rfl), by omega, hk.symm, fun k' hk' he => ?_⟩⟩
    rw [bet_no]
    rcases hj with hj | ⟨k, hk1, hk2⟩
    · have h1 := (hM (g j)).1 hj
      have : k' = j := by
        rcases Nat.lt_or_ge k' j with q | q
        · exact absurd (he.trans hk) (h1 k' q)
        · omega
      subst this
      omega
    · obtain ⟨k0, e0, k1, k2, k3⟩ := (hM (g j)).2 _ hk1
      have : k = k0 := by omega
      subst this
      by_cases hkj : k' = j
      · subst hkj; omega
      · have := k3 k' (by omega) (he.trans hk)
        rw [bet_no] at this
        unfold lessI at hk2
        simp at hk2
        omega
  · rw [if_neg hk]
    refine ⟨fun q k hk' => ?_, fun v hv => ?_⟩
    · by_cases hkj : k = j
      · subst hkj; exact fun e => hk e.symm
      · exact (hM key).1 q k (by omega)
    · obtain ⟨k, e1, e2, e3, e4⟩ := (hM key).2 v hv
      refine ⟨k, e1, by omega, e3, fun k' hk' he => ?_⟩
      by_cases hkj : k' = j
      · subst hkj; exact absurd he.symm hk
      · exact e4 k' (by omega) he
theorem first_keep {f : Nat → IdI} {g : Nat → List UInt8} {j k : Nat} {M : List UInt8 → Option Int} (hM : FirstI f g j M) (hk : M (g j) = some (k : Int)) (hl : lessI (f j).1 (f j).2 (f k).1 (f k).2 = false) : FirstI f g (j + 1) M := fun key => by
  refine ⟨fun q k' hk' => ?_, fun v hv => ?_⟩
  · by_cases hkj : k' = j
    · subst hkj
      intro e
      rw [← e, hk] at q
      cases q
    · exact (hM key).1 q k' (by omega)
  · obtain ⟨k1, e1, e2, e3, e4⟩ := (hM key).2 v hv
    refine ⟨k1, e1, by omega, e3, fun k' hk' he => ?_⟩
    by_cases hkj : k' = j
    · subst hkj
      rw [← he, hk] at hv
      have : k = k1 := by
        have := Option.some.inj hv
        omega
      subst this
      rw [bet_no]
      unfold lessI at hl
      simp at hl
      omega
    · exact e4 k' (by omega) he
theorem first_end {f : Nat → IdI} {g : Nat → List UInt8} {n i : Nat} {M : List UInt8 → Option Int} (hM : FirstI f g n M) (hi : i < n) : ∃ k : Nat, M (g i) = some (k : Int) ∧ (k = i ↔ isBet f g n i = false) := by
  cases hm : M (g i) with
  | none => exact absurd rfl ((hM (g i)).1 hm i hi)
  | some v =>
    obtain ⟨k, e1, e2, e3, e4⟩ := (hM (g i)).2 v hm
    refine ⟨k, by rw [e1], fun e => ?_, fun e => ?_⟩
    · subst e
      unfold isBet
      rw [List.any_eq_false]
      intro k' hk'
      have hlt := List.mem_range.1 hk'
      by_cases hg : g k' = g k
      · rw [decide_eq_true hg, e4 k' hlt hg]; simp
      · rw [decide_eq_false hg]; simp
    · unfold isBet at e
      rw [List.any_eq_false] at e
      have h1 := e k (List.mem_range.2 e2)
      rw [decide_eq_true e3, Bool.true_and] at h1
      have h1' : betB f k i = false := by simpa using h1
      have h2 := e4 i hi rfl
      rw [bet_no] at h1' h2
      omega
/-! ### the run -/
section
variable (cf : CallK) (fuel : Nat) {h : Hp} {K : AV → Hp → Prop}
theorem nms_at {els : List (List AV)} {nms : List (List UInt8)} (hn : NmsR els nms) {i : Nat} (hi : i < els.length) : els[i] = [S (nmAt nms i)] := by
  unfold NmsR at hn
  subst hn
  have hi' : i < nms.length := by simpa using hi
  simp [nmAt, hi']
theorem ids_at {els : List (List AV)} {ids : List IdI} (hn : IdsR els ids) {i : Nat} (hi : i < els.length) : els[i] = [I (idAt ids i).1, I (idAt ids i).2] := by
  unfold IdsR at hn
  subst hn
  have hi' : i < ids.length := by simpa using hi
  simp [idAt, hi']
theorem cellsO_one {ob : AObj} {off : Nat} {a : AV} (h : cellsO ob 1 off = some [a]) : cellAt ob off = some a := by
  unfold cellsO at h
  cases hc : cellAt ob off with
  | none => rw [hc] at h; simp at h
  | some b =>
    rw [hc] at h
    simp [cellsO] at h
    rw [h]
theorem ShownL6_run (hL : cf 25 = cIdB2 lessI) {h0 : Hp} {v1 v2 : AV} {els1 els2 : List (List AV)} {ids : List IdI} {nms : List (List UInt8)} (hr1 : Rd h0 2 v1 els1) (hi1 : IdsR els1 ids) (hr2 : Rd h0 1 v2 els2) (hi2 : NmsR els2 nms) {n : Nat} (hn : n ≤ els1.length ∧ n ≤ els2.length) (hsm : n ≤ 1000000) {mo : Nat} (hmo : h0.next ≤ mo) (t5 : AV) (e0 : Hp → Prop)
    (he : ∀ h' kvs c, Ext h0 h' → mo < h'.next → h'.at mo = some ⟨true, 0, .map (kvs.map kvE) c⟩ → FirstI (idAt ids) (nmAt nms) n (lk kvs) → e0 h') :
    ∀ (d i fm : Nat) (h : Hp) (kvs : List KV) (c : Nat), i + d = n → d < fm → Ext h0 h → mo < h.next → h.at mo = some ⟨true, 0, .map (kvs.map kvE) c⟩ → FirstI (idAt ids) (nmAt nms) i (lk kvs) → s_clash_ShownL6 cf fuel e0 v1 v2 t5 (.map mo) (I n) fm (I i) h
  | d, i, fm, h, kvs, c, hd, hm, hx, hlt, hmap, hF => by
    obtain ⟨fm, rfl⟩ : ∃ j, fm = j + 1 := ⟨fm - 1, by omega⟩
    rw [s_clash_ShownL6_succ]
    unfold s_clash_ShownL6B
    by_cases hi : i < n
    · obtain ⟨d, rfl⟩ : ∃ j, d = j + 1 := ⟨d - 1, by omega⟩
      have e1 : ((i : Int) + 1) = ((i + 1 : Nat) : Int) := by omega
      obtain ⟨o1, off1, kn1, c1, en1, rfl, hat1, hc1⟩ := (hr1.mono hx).openS (i := i) (by omega)
      obtain ⟨o2, off2, kn2, c2, en2, rfl, hat2, hc2⟩ := (hr2.mono hx).openS (i := i) (by omega)
      have q2 := hc2 i (by omega)
      rw [nms_at hi2] at q2
      have q2' := cellsO_one q2
      have q1 := hc1 i (by omega)
      rw [ids_at hi1] at q1
      have ih := ShownL6_run hL hr1 hi1 hr2 hi2 hn hsm hmo t5 e0 he d (i + 1) fm
      have setv : lk kvs (nmAt nms i) = none ∨ (∃ k : Nat, lk kvs (nmAt nms i) = some (k : Int) ∧ lessI (idAt ids i).1 (idAt ids i).2 (idAt ids k).1 (idAt ids k).2 = true) → vMapSet eqKS (.map mo) (S (nmAt nms i)) (I i) h fun _ h => vAdd (I i) (.int .i64 1) h fun t51 h => s_clash_ShownL6 cf fuel e0 (.slice o1 off1 els1.length kn1 c1) (.slice o2 off2 els2.length kn2 c2) t5 (.map mo) (I n) fm t51 h := fun hor => by
        refine mapset_go hmap (fun kvs' c' hk => ?_)
        (try unfold vMov); repeat' (first | refine Step.imp ?_ | (refine Way.mk (fun hp => ?_) (fun hp => ?_) <;> first | contradiction | (exfalso; omega) | skip) | refine LoadG.mkG ?_ | refine LoadsG.mkG ?_ | refine AtG.mkG ?_ | refine StoreG.mkG ?_ | refine CondG.mkG ?_ | fail); (all_goals (try dsimp only))
        rw [e1]
        exact ih _ kvs' c' (by omega) (by omega) (hx.put _ hmo) (by simp only [Hp.next_put]; exact hlt) (Hp.at_put_self _ _ _) (first_set hF hor hk)
      (try unfold vMov); repeat' (first | refine Step.imp ?_ | (refine Way.mk (fun hp => ?_) (fun hp => ?_) <;> first | contradiction | (exfalso; omega) | skip) | refine LoadG.mkG ?_ | refine LoadsG.mkG ?_ | refine AtG.mkG ?_ | refine StoreG.mkG ?_ | refine CondG.mkG ?_ | fail); (all_goals (try dsimp only))
      unfold s_clash_ShownB17
      (try unfold vMov); repeat' (first | refine Step.imp ?_ | (refine Way.mk (fun hp => ?_) (fun hp => ?_) <;> first | contradiction | (exfalso; omega) | skip) | refine LoadG.mkG ?_ | refine LoadsG.mkG ?_ | refine AtG.mkG ?_ | refine StoreG.mkG ?_ | refine CondG.mkG ?_ | (refine LoadG.mk2 hat2 q2' (by omega) ?_) | fail); (all_goals (try dsimp only))
      refine look2_go hmap (fun v hv => ?_) (fun hnone => ?_)
      · obtain ⟨k, rfl, hk1, hk2, hk3⟩ := (hF (nmAt nms i)).2 v hv
        have q3 := hc1 k (by omega)
        rw [ids_at hi1] at q3
        (try unfold vMov); repeat' (first | refine Step.imp ?_ | (refine Way.mk (fun hp => ?_) (fun hp => ?_) <;> first | contradiction | (exfalso; omega) | skip) | refine LoadG.mkG ?_ | refine LoadsG.mkG ?_ | refine AtG.mkG ?_ | refine StoreG.mkG ?_ | refine CondG.mkG ?_ | (refine LoadsG.mk2 hat1 q1 (by omega) ?_) | (refine LoadsG.mk2 hat1 q3 (by omega) ?_) | fail); (all_goals (try dsimp only))
        refine cIdB2_go hL (fun hl => ?_) (fun hl => ?_)
        · (try unfold vMov); repeat' (first | refine Step.imp ?_ | (refine Way.mk (fun hp => ?_) (fun hp => ?_) <;> first | contradiction | (exfalso; omega) | skip) | refine LoadG.mkG ?_ | refine LoadsG.mkG ?_ | refine AtG.mkG ?_ | refine StoreG.mkG ?_ | refine CondG.mkG ?_ | (refine LoadG.mk2 hat2 q2' (by omega) ?_) | fail); (all_goals (try dsimp only))
          exact setv (.inr ⟨k, hv, hl⟩)
        · (try unfold vMov); repeat' (first | refine Step.imp ?_ | (refine Way.mk (fun hp => ?_) (fun hp => ?_) <;> first | contradiction | (exfalso; omega) | skip) | refine LoadG.mkG ?_ | refine LoadsG.mkG ?_ | refine AtG.mkG ?_ | refine StoreG.mkG ?_ | refine CondG.mkG ?_ | fail); (all_goals (try dsimp only))
          rw [e1]
          exact ih h kvs c (by omega) (by omega) hx hlt hmap (first_keep hF hv hl)
      · (try unfold vMov); repeat' (first | refine Step.imp ?_ | (refine Way.mk (fun hp => ?_) (fun hp => ?_) <;> first | contradiction | (exfalso; omega) | skip) | refine LoadG.mkG ?_ | refine LoadsG.mkG ?_ | refine AtG.mkG ?_ | refine StoreG.mkG ?_ | refine CondG.mkG ?_ | (refine LoadG.mk2 hat2 q2' (by omega) ?_) | fail); (all_goals (try dsimp only))
        exact setv (.inl hnone)
    · have hd0 : d = 0 := by omega
      subst hd0
      have : i = n := by omega
      subst this
      (try unfold vMov); repeat' (first | refine Step.imp ?_ | (refine Way.mk (fun hp => ?_) (fun hp => ?_) <;> first | contradiction | (exfalso; omega) | skip) | refine LoadG.mkG ?_ | refine LoadsG.mkG ?_ | refine AtG.mkG ?_ | refine StoreG.mkG ?_ | refine CondG.mkG ?_ | fail); (all_goals (try dsimp only))
      exact he h kvs c hx hlt hmap hF
end
end Lg

namespace Lg
set_option linter.unusedSimpArgs false
set_option linter.unusedVariables false
set_option maxRecDepth 100000
open Go Go.Am Go.Lib
open Go.Proofs.YtnhamanffojhfaaDoor.shl
def strE (l : List (List UInt8)) : List (List AV) := l.map fun s => [S s]
theorem ext_none2 (h : Hp) : Ext ⟨.lf, 0⟩ h := ⟨Nat.zero_le _, fun o ho => absurd ho (Nat.not_lt_zero _)⟩
theorem rdLen {h : Hp} {esz : Nat} {v : AV} {els : List (List AV)} (hv : Rd h esz v els) (h' : Hp) : vLenL2 v h' = fun K' => K' (I els.length) h' := by
  funext K'
  rcases hv with ⟨rfl, rfl⟩ | ⟨_, rfl, rfl⟩ | ⟨o, off, kn, c, e, rfl, _⟩ <;> rfl
section
variable (cf : CallK) (fuel : Nat) {h : Hp} {K : AV → Hp → Prop}
/-- One string more. -/
theorem appStr_go {h0 : Hp} {v : AV} {out : List (List UInt8)} {B : Nat} {s : List UInt8} (hx : Ext h0 h) (hv : SlN h 1 v (strE out) B) (hB : h0.next ≤ B) (hBn : B ≤ h.next) (hs : out.length ≤ 1000000) (q : ∀ v' h', Ext h0 h' → h.next < h'.next → (∀ p, p < B → h'.at p = h.at p) → SlN h' 1 v' (strE (out ++ [s])) B → K v' h') :
    vAppend2 1 16 false v (.slice h.next 0 1 true 1) (h.new ⟨true, 1, .row (setL (repL [AV.str 0 0] 1) 0 [S s])⟩) K := by
  have hrow : setL (repL [AV.str 0 0] 1) 0 [S s] = [S s] := rfl
  try rw [hrow]
  have hlen : (strE out).length = out.length := by simp [strE]
  refine append_own2 (els := strE out) (news := [[S s]]) (B := B) (h0 := h0) (hx.new _) (hv.ext (by repeat (first | exact Ext.refl _ | assumption | apply Ext.new | (refine Ext.put ?_ _ (by first | omega | (simp; done) | (simp; omega)))))) hB (by simp only [Hp.next_new]; omega) ⟨_, 0, true, 1, _, rfl, Hp.at_new_self _ _, rfl⟩ (by intro y hy; rw [List.mem_singleton.1 hy]; rfl) (by simp) (by simp only [List.length_singleton]; omega) (fun v' h' w1 w2 w3 w4 => ?_)
  refine q v' h' w1 (by simp only [Hp.next_new] at w2; omega) (fun p hp => ?_) ?_
  · rw [w3 p (by simp only [Hp.next_new]; omega) (fun off n kn c e => ?_), Hp.at_new_lt _ (by omega)]
    rcases hv with ⟨e9, _⟩ | ⟨o9, ob9, e9, b9, _⟩
    · rw [e9] at e; cases e
    · rw [e9] at e; cases e; omega
  · have : strE (out ++ [s]) = strE out ++ [[S s]] := by simp [strE]
    rw [this]
    exact w4.weak (by simp only [Hp.next_new]; omega)
def IdsB (ids : List IdI) : Prop := ∀ i ∈ ids, InI i.1 ∧ InI i.2
def NmsB (nms : List (List UInt8)) : Prop := ∀ s ∈ nms, s.length ≤ 140737488355328
theorem idsB_at {ids : List IdI} (hb : IdsB ids) (k : Nat) : InI (idAt ids k).1 ∧ InI (idAt ids k).2 := by
  unfold idAt
  by_cases hk : k < ids.length
  · have : ids.getD k (0, 0) = ids[k] := by simp [hk]
    rw [this]
    exact hb _ (List.getElem_mem hk)
  · have : ids.getD k (0, 0) = (0, 0) := by simp [hk]
    rw [this]
    exact ⟨⟨by omega, by omega⟩, ⟨by omega, by omega⟩⟩
theorem nmsB_at {nms : List (List UInt8)} (hb : NmsB nms) (k : Nat) : (nmAt nms k).length ≤ 140737488355328 := by
  unfold nmAt
  by_cases hk : k < nms.length
  · have : nms.getD k [] = nms[k] := by simp [hk]
    rw [this]
    exact hb _ (List.getElem_mem hk)
  · have : nms.getD k [] = [] := by simp [hk]
    rw [this]
    simp
theorem shL_snoc (f : Nat → IdI) (g : Nat → List UInt8) (n i : Nat) : (List.range (i + 1)).map (shG f g n) = (List.range i).map (shG f g n) ++ [shG f g n i] := by
  rw [List.range_succ, List.map_append]
  rfl
theorem sufB_len {t n : Int} (ht : InI t) (hn : InI n) : (sufB t n).length ≤ 50 := by
  have l1 := itoa_length_le t ht.1 ht.2
  have l2 := itoa_length_le n hn.1 hn.2
  unfold sufB
  simp only [List.length_append, List.length_singleton]
  omega
theorem ShownL2_run (hS : cf 15 = cSuf) {h0 : Hp} {v1 v2 : AV} {els1 els2 : List (List AV)} {ids : List IdI} {nms : List (List UInt8)} (hr1 : Rd h0 2 v1 els1) (hi1 : IdsR els1 ids) (hr2 : Rd h0 1 v2 els2) (hi2 : NmsR els2 nms) (hb1 : IdsB ids) (hb2 : NmsB nms) {n : Nat} (hn : n ≤ els1.length ∧ n ≤ els2.length) (hsm : n ≤ 1000000) {mo c : Nat} {kvs : List KV} (hmo : h0.next ≤ mo) (hF : FirstI (idAt ids) (nmAt nms) n (lk kvs)) (e1 : AV → Hp → Prop)
    (he : ∀ v' h', Ext h0 h' → SlN h' 1 v' (strE (shL (idAt ids) (nmAt nms) n)) (mo + 1) → e1 v' h') :
    ∀ (d i fm : Nat) (h : Hp) (v : AV), i + d = n → d < fm → Ext h0 h → mo < h.next → h.at mo = some ⟨true, 0, .map (kvs.map kvE) c⟩ → SlN h 1 v (strE ((List.range i).map (shG (idAt ids) (nmAt nms) n))) (mo + 1) → s_clash_ShownL2 cf fuel e1 v1 v2 (.map mo) (I n) fm v (I i) h
  | d, i, fm, h, v, hd, hm, hx, hlt, hmap, hv => by
    obtain ⟨fm, rfl⟩ : ∃ j, fm = j + 1 := ⟨fm - 1, by omega⟩
    rw [s_clash_ShownL2_succ]
    unfold s_clash_ShownL2B
    by_cases hi : i < n
    · obtain ⟨d, rfl⟩ : ∃ j, d = j + 1 := ⟨d - 1, by omega⟩
      have ei : ((i : Int) + 1) = ((i + 1 : Nat) : Int) := by omega
      obtain ⟨o1, off1, kn1, c1, en1, rfl, hat1, hc1⟩ := (hr1.mono hx).openS (i := i) (by omega)
      obtain ⟨o2, off2, kn2, c2, en2, rfl, hat2, hc2⟩ := (hr2.mono hx).openS (i := i) (by omega)
      have q2 := hc2 i (by omega)
      rw [nms_at hi2] at q2
      have q2' := cellsO_one q2
      have q1 := hc1 i (by omega)
      rw [ids_at hi1] at q1
      have hlen : ((List.range i).map (shG (idAt ids) (nmAt nms) n)).length = i := by simp
      have ih := ShownL2_run (c := c) hS hr1 hi1 hr2 hi2 hb1 hb2 hn hsm hmo hF e1 he d (i + 1) fm
      have nx := hx.next
      have push : ∀ (s : List UInt8) (h2 : Hp), s = shG (idAt ids) (nmAt nms) n i → Ext h h2 → vAppend2 1 16 false v (.slice h2.next 0 1 true 1) (h2.new ⟨true, 1, .row (setL (repL [AV.str 0 0] 1) 0 [S s])⟩) fun t75 h => vAdd (I i) (.int .i64 1) h fun t76 h => s_clash_ShownL2 cf fuel e1 (.slice o1 off1 els1.length kn1 c1) (.slice o2 off2 els2.length kn2 c2) (.map mo) (I n) fm t75 t76 h := fun s h2 hs x2 => by
        have n2 := x2.next
        refine appStr_go (hx.trans x2) (hv.ext x2) (by omega) (by omega) (by rw [hlen]; omega) (fun v' h' w1 w2 w3 w4 => ?_)
        (try unfold vMov); repeat' (first | refine Step.imp ?_ | (refine Way.mk (fun hp => ?_) (fun hp => ?_) <;> first | contradiction | (exfalso; omega) | skip) | refine LoadG.mkG ?_ | refine LoadsG.mkG ?_ | refine AtG.mkG ?_ | refine StoreG.mkG ?_ | refine CondG.mkG ?_ | fail); (all_goals (try dsimp only))
        rw [ei]
        rw [hs, ← shL_snoc] at w4
        exact ih h' v' (by omega) (by omega) w1 (by omega) (by rw [w3 mo (by omega), x2.same mo hlt]; exact hmap) w4
      obtain ⟨k, hk1, hk2⟩ := first_end hF hi
      (try unfold vMov); repeat' (first | refine Step.imp ?_ | (refine Way.mk (fun hp => ?_) (fun hp => ?_) <;> first | contradiction | (exfalso; omega) | skip) | refine LoadG.mkG ?_ | refine LoadsG.mkG ?_ | refine AtG.mkG ?_ | refine StoreG.mkG ?_ | refine CondG.mkG ?_ | fail); (all_goals (try dsimp only))
      unfold s_clash_ShownB5
      (try unfold vMov); repeat' (first | refine Step.imp ?_ | (refine Way.mk (fun hp => ?_) (fun hp => ?_) <;> first | contradiction | (exfalso; omega) | skip) | refine LoadG.mkG ?_ | refine LoadsG.mkG ?_ | refine AtG.mkG ?_ | refine StoreG.mkG ?_ | refine CondG.mkG ?_ | (refine LoadG.mk2 hat2 q2' (by omega) ?_) | fail); (all_goals (try dsimp only))
      refine look1_go hmap (fun v0 hv0 => ?_) (fun hnone => by rw [hk1] at hnone; cases hnone)
      rw [hk1] at hv0
      cases hv0
      by_cases hki : k = i
      · have hs : nmAt nms i = shG (idAt ids) (nmAt nms) n i := by
          unfold shG
          rw [hk2.1 hki]
          rfl
        have := push _ h hs (Ext.refl h)
        subst hki
        (try unfold vMov); repeat' (first | refine Step.imp ?_ | (refine Way.mk (fun hp => ?_) (fun hp => ?_) <;> first | contradiction | (exfalso; omega) | skip) | refine LoadG.mkG ?_ | refine LoadsG.mkG ?_ | refine AtG.mkG ?_ | refine StoreG.mkG ?_ | refine CondG.mkG ?_ | fail); (all_goals (try dsimp only))
        exact this
      · have hb : isBet (idAt ids) (nmAt nms) n i = true := by
          cases hq : isBet (idAt ids) (nmAt nms) n i with
          | true => rfl
          | false => exact absurd (hk2.2 hq) hki
        have hs : nmAt nms i ++ sufB (idAt ids i).1 (idAt ids i).2 = shG (idAt ids) (nmAt nms) n i := by
          unfold shG
          rw [if_pos hb]
        have hbi := idsB_at hb1 i
        have hbn := nmsB_at hb2 i
        have hsl := sufB_len hbi.1 hbi.2
        (try unfold vMov); repeat' (first | refine Step.imp ?_ | (refine Way.mk (fun hp => ?_) (fun hp => ?_) <;> first | contradiction | (exfalso; omega) | skip) | refine LoadG.mkG ?_ | refine LoadsG.mkG ?_ | refine AtG.mkG ?_ | refine StoreG.mkG ?_ | refine CondG.mkG ?_ | (refine LoadsG.mk2 hat1 q1 (by omega) ?_) | fail); (all_goals (try dsimp only))
        refine cSuf_go hS hbi (fun h2 x2 => ?_)
        have := push _ h2 hs x2
        refine Step.imp (CondG.mk (by omega) ?_)
        (try unfold vMov); repeat' (first | refine Step.imp ?_ | (refine Way.mk (fun hp => ?_) (fun hp => ?_) <;> first | contradiction | (exfalso; omega) | skip) | refine LoadG.mkG ?_ | refine LoadsG.mkG ?_ | refine AtG.mkG ?_ | refine StoreG.mkG ?_ | refine CondG.mkG ?_ | fail); (all_goals (try dsimp only))
        exact this
    · have hd0 : d = 0 := by omega
      subst hd0
      have : i = n := by omega
      subst this
      (try unfold vMov); repeat' (first | refine Step.imp ?_ | (refine Way.mk (fun hp => ?_) (fun hp => ?_) <;> first | contradiction | (exfalso; omega) | skip) | refine LoadG.mkG ?_ | refine LoadsG.mkG ?_ | refine AtG.mkG ?_ | refine StoreG.mkG ?_ | refine CondG.mkG ?_ | fail); (all_goals (try dsimp only))
      exact he v h hx hv
def cShown : ConD := fun args h K => ∃ v1 v2 els1 els2 ids nms, args = [v1, v2] ∧ Rd h 2 v1 els1 ∧ IdsR els1 ids ∧ Rd h 1 v2 els2 ∧ NmsR els2 nms ∧ (IdsB ids ∧ NmsB nms) ∧ min els1.length els2.length ≤ 1000 ∧ ∀ v' h', Ext h h' → SlN h' 1 v' (strE (shL (idAt ids) (nmAt nms) (min els1.length els2.length))) h.next → K v' h'
theorem cShown_go {cf : CallK} {g : FuncId} (hg : cf g = cShown) {v1 v2 : AV} {els1 els2 : List (List AV)} {ids : List IdI} {nms : List (List UInt8)} (hr1 : Rd h 2 v1 els1) (hi1 : IdsR els1 ids) (hr2 : Rd h 1 v2 els2) (hi2 : NmsR els2 nms) (hb : IdsB ids ∧ NmsB nms) (hn : min els1.length els2.length ≤ 1000) (hK : ∀ v' h', Ext h h' → SlN h' 1 v' (strE (shL (idAt ids) (nmAt nms) (min els1.length els2.length))) h.next → K v' h') : cf g [v1, v2] h K := by rw [hg]; exact ⟨v1, v2, els1, els2, ids, nms, rfl, hr1, hi1, hr2, hi2, hb, hn, hK⟩
theorem Shown_run (hL : cf 25 = cIdB2 lessI) (hS : cf 15 = cSuf) {v1 v2 : AV} {els1 els2 : List (List AV)} {ids : List IdI} {nms : List (List UInt8)} (hr1 : Rd h 2 v1 els1) (hi1 : IdsR els1 ids) (hr2 : Rd h 1 v2 els2) (hi2 : NmsR els2 nms) (hb : IdsB ids ∧ NmsB nms) (hn : min els1.length els2.length ≤ 1000) (hf : 1001 < fuel) (hK : ∀ v' h', Ext h h' → SlN h' 1 v' (strE (shL (idAt ids) (nmAt nms) (min els1.length els2.length))) h.next → K v' h') : s_clash_Shown cf fuel v1 v2 h K := by
  unfold s_clash_Shown
  rw [rdLen hr1]
  dsimp only
  rw [rdLen hr2]
  dsimp only
  have hmin : min (els1.length : Int) (els2.length : Int) = ((min els1.length els2.length : Nat) : Int) := by omega
  refine Step.imp ?_
  rw [hmin]
  generalize hN : min els1.length els2.length = n at *
  refine mkmap_go ?_
  have x1 : Ext h (h.new ⟨true, 0, .map (([] : List KV).map kvE) 0⟩) := (by repeat (first | exact Ext.refl _ | assumption | apply Ext.new | (refine Ext.put ?_ _ (by first | omega | (simp; done) | (simp; omega)))))
  refine ShownL6_run cf fuel hL (h0 := h) hr1 hi1 hr2 hi2 (n := n) (by omega) (by omega) (Nat.le_refl _) (I n) _ (fun h' kvs c x hlt hm hF => ?_) n 0 fuel _ [] 0 (by omega) (by omega) x1 (by simp only [Hp.next_new]; omega) (Hp.at_new_self _ _) (first_nil _ _)
  unfold s_clash_ShownE0
  refine ShownL2_run cf fuel hS (h0 := h) hr1 hi1 hr2 hi2 hb.1 hb.2 (n := n) (by omega) (by omega) (Nat.le_refl _) hF _ (fun v' h2 x2 hv => ?_) n 0 fuel h' .nilslice (by omega) (by omega) x hlt hm (.inl ⟨rfl, rfl⟩)
  unfold s_clash_ShownE1
  exact hK v' h2 x2 (hv.weak (by omega))
end
end Lg

namespace Lg
set_option linter.unusedSimpArgs false
set_option linter.unusedVariables false
set_option maxRecDepth 100000
open Go Go.Am Go.Lib
open Go.Proofs.YtnhamanffojhfaaDoor.shl
section
variable (cf : CallK) (fuel : Nat) {h : Hp} {K : AV → Hp → Prop}
theorem refShownL5_run (hLs : cf 26 = cIdB2 lessI) (hSm : cf 12 = cIdB2 sameI) (hSf : cf 16 = cSuf) {v1 v2 : AV} {els1 els2 : List (List AV)} {ids : List IdI} {nms : List (List UInt8)} (hr1 : Rd h 2 v1 els1) (hi1 : IdsR els1 ids) (hr2 : Rd h 1 v2 els2) (hi2 : NmsR els2 nms) (hb1 : IdsB ids) (hb2 : NmsB nms) {n i : Nat} (hn : n ≤ els1.length ∧ n ≤ els2.length) (hsm : n ≤ 1000000) (hin : i < n) (t6 : AV) (e4 : AV → Hp → Prop)
    (he : ∀ h', Ext h h' → e4 (S (shG (idAt ids) (nmAt nms) n i)) h') :
    ∀ (d k fm : Nat), k + d = n → d < fm → (∀ k', k' < k → (decide (nmAt nms k' = nmAt nms i) && betB (idAt ids) k' i) = false) → s_lagoonref15_ShownL5 cf fuel e4 v1 v2 (I n) t6 (I i) fm (S (nmAt nms i)) (I k) h
  | d, k, fm, hd, hm, hno => by
    obtain ⟨fm, rfl⟩ : ∃ j, fm = j + 1 := ⟨fm - 1, by omega⟩
    rw [s_lagoonref15_ShownL5_succ]
    unfold s_lagoonref15_ShownL5B
    by_cases hk : k < n
    · obtain ⟨d, rfl⟩ : ∃ j, d = j + 1 := ⟨d - 1, by omega⟩
      have ek : ((k : Int) + 1) = ((k + 1 : Nat) : Int) := by omega
      have ih := refShownL5_run hLs hSm hSf hr1 hi1 hr2 hi2 hb1 hb2 hn hsm hin t6 e4 he d (k + 1) fm (by omega) (by omega)
      obtain ⟨o1, off1, kn1, c1, en1, rfl, hat1, hc1⟩ := hr1.openS (i := i) (by omega)
      obtain ⟨o2, off2, kn2, c2, en2, rfl, hat2, hc2⟩ := hr2.openS (i := i) (by omega)
      have ni := hc2 i (by omega)
      rw [nms_at hi2] at ni
      have ni' := cellsO_one ni
      have nk := hc2 k (by omega)
      rw [nms_at hi2] at nk
      have nk' := cellsO_one nk
      have di := hc1 i (by omega)
      rw [ids_at hi1] at di
      have dk := hc1 k (by omega)
      rw [ids_at hi1] at dk
      have stop : (decide (nmAt nms k = nmAt nms i) && betB (idAt ids) k i) = true → nmAt nms i ++ sufB (idAt ids i).1 (idAt ids i).2 = shG (idAt ids) (nmAt nms) n i := fun q => by
        unfold shG
        rw [if_pos]
        unfold isBet
        exact List.any_eq_true.2 ⟨k, List.mem_range.2 hk, q⟩
      have go : (decide (nmAt nms k = nmAt nms i) && betB (idAt ids) k i) = false → s_lagoonref15_ShownL5 cf fuel e4 (.slice o1 off1 els1.length kn1 c1) (.slice o2 off2 els2.length kn2 c2) (I n) t6 (I i) fm (S (nmAt nms i)) (I ((k + 1 : Nat) : Int)) h := fun q => ih fun k' hk' => by
        by_cases hkk : k' = k
        · subst hkk; exact q
        · exact hno k' (by omega)
      have hbi := idsB_at hb1 i
      have hbn := nmsB_at hb2 i
      have hsl := sufB_len hbi.1 hbi.2
      (try unfold vMov); repeat' (first | refine Step.imp ?_ | (refine Way.mk (fun hp => ?_) (fun hp => ?_) <;> first | contradiction | (exfalso; omega) | skip) | refine LoadG.mkG ?_ | refine LoadsG.mkG ?_ | refine AtG.mkG ?_ | refine StoreG.mkG ?_ | refine CondG.mkG ?_ | fail); (all_goals (try dsimp only))
      unfold s_lagoonref15_ShownB32
      by_cases hg : nmAt nms k = nmAt nms i
      · have hbet : betB (idAt ids) k i = (lessI (idAt ids k).1 (idAt ids k).2 (idAt ids i).1 (idAt ids i).2 || (decide (k < i) && sameI (idAt ids k).1 (idAt ids k).2 (idAt ids i).1 (idAt ids i).2)) := rfl
        rw [decide_eq_true hg, Bool.true_and, hbet] at stop go
        have fin : nmAt nms i ++ sufB (idAt ids i).1 (idAt ids i).2 = shG (idAt ids) (nmAt nms) n i → ∀ K2 : AV → Hp → Prop, K2 = e4 → cf 16 [.agg [I (idAt ids i).1, I (idAt ids i).2]] h fun t76 h => vLoad2 (.ptr o2 (off2 + (i : Int).toNat * 1)) h fun c _ => gd (sameV c (S (nmAt nms i))) (vAdd (S (nmAt nms i)) t76 h K2) := fun hs K2 hK2 => by
          subst hK2
          refine cSuf_go hSf hbi (fun h2 x2 => ?_)
          have hat2' := (x2.same o2 (by
            rcases hr2 with ⟨e', _⟩ | ⟨_, e', _⟩ | ⟨_, _, _, _, _, e', ho, _⟩
            · cases e'
            · cases e'
            · cases e'; exact ho)).trans hat2
          (try unfold vMov); repeat' (first | refine Step.imp ?_ | (refine Way.mk (fun hp => ?_) (fun hp => ?_) <;> first | contradiction | (exfalso; omega) | skip) | refine LoadG.mkG ?_ | refine LoadsG.mkG ?_ | refine AtG.mkG ?_ | refine StoreG.mkG ?_ | refine CondG.mkG ?_ | (refine LoadG.mk2 hat2' ni' (by omega) ?_) | (refine CondG.mk (sameV_flat _ rfl) ?_) | fail); (all_goals (try dsimp only))
          rw [hs]
          exact he h2 x2
        (try unfold vMov); repeat' (first | refine Step.imp ?_ | (refine Way.mk (fun hp => ?_) (fun hp => ?_) <;> first | contradiction | (exfalso; omega) | skip) | refine LoadG.mkG ?_ | refine LoadsG.mkG ?_ | refine AtG.mkG ?_ | refine StoreG.mkG ?_ | refine CondG.mkG ?_ | (refine LoadG.mk2 hat2 nk' (by omega) ?_) | (refine LoadG.mk2 hat2 ni' (by omega) ?_) | (refine LoadsG.mk2 hat1 dk (by omega) ?_) | (refine LoadsG.mk2 hat1 di (by omega) ?_) | fail); (all_goals (try dsimp only))
        refine cIdB2_go hLs (fun hl => ?_) (fun hl => ?_)
        · (try unfold vMov); repeat' (first | refine Step.imp ?_ | (refine Way.mk (fun hp => ?_) (fun hp => ?_) <;> first | contradiction | (exfalso; omega) | skip) | refine LoadG.mkG ?_ | refine LoadsG.mkG ?_ | refine AtG.mkG ?_ | refine StoreG.mkG ?_ | refine CondG.mkG ?_ | (refine LoadG.mk2 hat2 nk' (by omega) ?_) | (refine LoadG.mk2 hat2 ni' (by omega) ?_) | (refine LoadsG.mk2 hat1 dk (by omega) ?_) | (refine LoadsG.mk2 hat1 di (by omega) ?_) | fail); (all_goals (try dsimp only))
          exact fin (stop (by rw [hl]; rfl)) e4 rfl
        · rw [hl, Bool.false_or] at stop go
          by_cases hki : k < i
          · rw [decide_eq_true hki, Bool.true_and] at stop go
            (try unfold vMov); repeat' (first | refine Step.imp ?_ | (refine Way.mk (fun hp => ?_) (fun hp => ?_) <;> first | contradiction | (exfalso; omega) | skip) | refine LoadG.mkG ?_ | refine LoadsG.mkG ?_ | refine AtG.mkG ?_ | refine StoreG.mkG ?_ | refine CondG.mkG ?_ | (refine LoadG.mk2 hat2 nk' (by omega) ?_) | (refine LoadG.mk2 hat2 ni' (by omega) ?_) | (refine LoadsG.mk2 hat1 dk (by omega) ?_) | (refine LoadsG.mk2 hat1 di (by omega) ?_) | fail); (all_goals (try dsimp only))
            refine cIdB2_go hSm (fun hs => ?_) (fun hs => ?_)
            · (try unfold vMov); repeat' (first | refine Step.imp ?_ | (refine Way.mk (fun hp => ?_) (fun hp => ?_) <;> first | contradiction | (exfalso; omega) | skip) | refine LoadG.mkG ?_ | refine LoadsG.mkG ?_ | refine AtG.mkG ?_ | refine StoreG.mkG ?_ | refine CondG.mkG ?_ | (refine LoadG.mk2 hat2 nk' (by omega) ?_) | (refine LoadG.mk2 hat2 ni' (by omega) ?_) | (refine LoadsG.mk2 hat1 dk (by omega) ?_) | (refine LoadsG.mk2 hat1 di (by omega) ?_) | fail); (all_goals (try dsimp only))
              exact fin (stop hs) e4 rfl
            · have := go hs
              (try unfold vMov); repeat' (first | refine Step.imp ?_ | (refine Way.mk (fun hp => ?_) (fun hp => ?_) <;> first | contradiction | (exfalso; omega) | skip) | refine LoadG.mkG ?_ | refine LoadsG.mkG ?_ | refine AtG.mkG ?_ | refine StoreG.mkG ?_ | refine CondG.mkG ?_ | (refine LoadG.mk2 hat2 nk' (by omega) ?_) | (refine LoadG.mk2 hat2 ni' (by omega) ?_) | (refine LoadsG.mk2 hat1 dk (by omega) ?_) | (refine LoadsG.mk2 hat1 di (by omega) ?_) | fail); (all_goals (try dsimp only))
              rw [ek]
              exact this
          · rw [decide_eq_false hki, Bool.false_and] at stop go
            have := go rfl
            (try unfold vMov); repeat' (first | refine Step.imp ?_ | (refine Way.mk (fun hp => ?_) (fun hp => ?_) <;> first | contradiction | (exfalso; omega) | skip) | refine LoadG.mkG ?_ | refine LoadsG.mkG ?_ | refine AtG.mkG ?_ | refine StoreG.mkG ?_ | refine CondG.mkG ?_ | (refine LoadG.mk2 hat2 nk' (by omega) ?_) | (refine LoadG.mk2 hat2 ni' (by omega) ?_) | (refine LoadsG.mk2 hat1 dk (by omega) ?_) | (refine LoadsG.mk2 hat1 di (by omega) ?_) | fail); (all_goals (try dsimp only))
            rw [ek]
            exact this
      · have q : (decide (nmAt nms k = nmAt nms i) && betB (idAt ids) k i) = false := by rw [decide_eq_false hg]; rfl
        have := go q
        (try unfold vMov); repeat' (first | refine Step.imp ?_ | (refine Way.mk (fun hp => ?_) (fun hp => ?_) <;> first | contradiction | (exfalso; omega) | skip) | refine LoadG.mkG ?_ | refine LoadsG.mkG ?_ | refine AtG.mkG ?_ | refine StoreG.mkG ?_ | refine CondG.mkG ?_ | (refine LoadG.mk2 hat2 nk' (by omega) ?_) | (refine LoadG.mk2 hat2 ni' (by omega) ?_) | fail); (all_goals (try dsimp only))
        rw [ek]
        exact this
    · have hd0 : d = 0 := by omega
      subst hd0
      have : k = n := by omega
      subst this
      have hs : nmAt nms i = shG (idAt ids) (nmAt nms) k i := by
        unfold shG
        rw [if_neg]
        intro q
        unfold isBet at q
        obtain ⟨k', h1, h2⟩ := List.any_eq_true.1 q
        rw [hno k' (List.mem_range.1 h1)] at h2
        cases h2
      have := he h (Ext.refl h)
      rw [← hs] at this
      (try unfold vMov); repeat' (first | refine Step.imp ?_ | (refine Way.mk (fun hp => ?_) (fun hp => ?_) <;> first | contradiction | (exfalso; omega) | skip) | refine LoadG.mkG ?_ | refine LoadsG.mkG ?_ | refine AtG.mkG ?_ | refine StoreG.mkG ?_ | refine CondG.mkG ?_ | fail); (all_goals (try dsimp only))
      exact this
theorem refShownL2_run (hLs : cf 26 = cIdB2 lessI) (hSm : cf 12 = cIdB2 sameI) (hSf : cf 16 = cSuf) {h0 : Hp} {v1 v2 : AV} {els1 els2 : List (List AV)} {ids : List IdI} {nms : List (List UInt8)} (hr1 : Rd h0 2 v1 els1) (hi1 : IdsR els1 ids) (hr2 : Rd h0 1 v2 els2) (hi2 : NmsR els2 nms) (hb1 : IdsB ids) (hb2 : NmsB nms) {n : Nat} (hn : n ≤ els1.length ∧ n ≤ els2.length) (hsm : n ≤ 1000000) (hf : n + 1 < fuel) (e1 : AV → Hp → Prop)
    (he : ∀ v' h', Ext h0 h' → SlN h' 1 v' (strE (shL (idAt ids) (nmAt nms) n)) h0.next → e1 v' h') :
    ∀ (d i fm : Nat) (h : Hp) (v : AV), i + d = n → d < fm → Ext h0 h → SlN h 1 v (strE ((List.range i).map (shG (idAt ids) (nmAt nms) n))) h0.next → s_lagoonref15_ShownL2 cf fuel e1 v1 v2 (I n) fm v (I i) h
  | d, i, fm, h, v, hd, hm, hx, hv => by
    obtain ⟨fm, rfl⟩ : ∃ j, fm = j + 1 := ⟨fm - 1, by omega⟩
    rw [s_lagoonref15_ShownL2_succ]
    unfold s_lagoonref15_ShownL2B
    by_cases hi : i < n
    · obtain ⟨d, rfl⟩ : ∃ j, d = j + 1 := ⟨d - 1, by omega⟩
      have ei : ((i : Int) + 1) = ((i + 1 : Nat) : Int) := by omega
      have ih := refShownL2_run hLs hSm hSf hr1 hi1 hr2 hi2 hb1 hb2 hn hsm hf e1 he d (i + 1) fm
      have inner := fun t6 e4 he4 => refShownL5_run cf fuel hLs hSm hSf (hr1.mono hx) hi1 (hr2.mono hx) hi2 hb1 hb2 hn hsm hi t6 e4 he4 n 0 fuel (by omega) (by omega) (fun k' hk' => absurd hk' (Nat.not_lt_zero _))
      obtain ⟨o2, off2, kn2, c2, en2, rfl, hat2, hc2⟩ := (hr2.mono hx).openS (i := i) (by omega)
      have ni := hc2 i (by omega)
      rw [nms_at hi2] at ni
      have ni' := cellsO_one ni
      have hlen : ((List.range i).map (shG (idAt ids) (nmAt nms) n)).length = i := by simp
      (try unfold vMov); repeat' (first | refine Step.imp ?_ | (refine Way.mk (fun hp => ?_) (fun hp => ?_) <;> first | contradiction | (exfalso; omega) | skip) | refine LoadG.mkG ?_ | refine LoadsG.mkG ?_ | refine AtG.mkG ?_ | refine StoreG.mkG ?_ | refine CondG.mkG ?_ | (refine LoadG.mk2 hat2 ni' (by omega) ?_) | fail); (all_goals (try dsimp only))
      refine inner _ _ (fun h2 x2 => ?_)
      unfold s_lagoonref15_ShownE4
      have n0 := hx.next
      have n2 := x2.next
      (try unfold vMov); repeat' (first | refine Step.imp ?_ | (refine Way.mk (fun hp => ?_) (fun hp => ?_) <;> first | contradiction | (exfalso; omega) | skip) | refine LoadG.mkG ?_ | refine LoadsG.mkG ?_ | refine AtG.mkG ?_ | refine StoreG.mkG ?_ | refine CondG.mkG ?_ | fail); (all_goals (try dsimp only))
      refine appStr_go (hx.trans x2) (hv.ext x2) (Nat.le_refl _) (by omega) (by rw [hlen]; omega) (fun v' h' w1 w2 w3 w4 => ?_)
      unfold s_lagoonref15_ShownE3
      (try unfold vMov); repeat' (first | refine Step.imp ?_ | (refine Way.mk (fun hp => ?_) (fun hp => ?_) <;> first | contradiction | (exfalso; omega) | skip) | refine LoadG.mkG ?_ | refine LoadsG.mkG ?_ | refine AtG.mkG ?_ | refine StoreG.mkG ?_ | refine CondG.mkG ?_ | fail); (all_goals (try dsimp only))
      rw [ei]
      rw [← shL_snoc] at w4
      exact ih h' v' (by omega) (by omega) w1 w4
    · have hd0 : d = 0 := by omega
      subst hd0
      have : i = n := by omega
      subst this
      (try unfold vMov); repeat' (first | refine Step.imp ?_ | (refine Way.mk (fun hp => ?_) (fun hp => ?_) <;> first | contradiction | (exfalso; omega) | skip) | refine LoadG.mkG ?_ | refine LoadsG.mkG ?_ | refine AtG.mkG ?_ | refine StoreG.mkG ?_ | refine CondG.mkG ?_ | fail); (all_goals (try dsimp only))
      exact he v h hx hv
theorem refShown_run (hLs : cf 26 = cIdB2 lessI) (hSm : cf 12 = cIdB2 sameI) (hSf : cf 16 = cSuf) {v1 v2 : AV} {els1 els2 : List (List AV)} {ids : List IdI} {nms : List (List UInt8)} (hr1 : Rd h 2 v1 els1) (hi1 : IdsR els1 ids) (hr2 : Rd h 1 v2 els2) (hi2 : NmsR els2 nms) (hb : IdsB ids ∧ NmsB nms) (hn : min els1.length els2.length ≤ 1000) (hf : 1001 < fuel) (hK : ∀ v' h', Ext h h' → SlN h' 1 v' (strE (shL (idAt ids) (nmAt nms) (min els1.length els2.length))) h.next → K v' h') : s_lagoonref15_Shown cf fuel v1 v2 h K := by
  unfold s_lagoonref15_Shown
  have main : ∀ n : Nat, n = min els1.length els2.length → s_lagoonref15_ShownL2 cf fuel (s_lagoonref15_ShownE1 cf fuel K) v1 v2 (I n) fuel .nilslice (I ((0 : Nat) : Int)) h := fun n e => by
    rw [← e] at hn hK
    refine refShownL2_run cf fuel hLs hSm hSf (h0 := h) hr1 hi1 hr2 hi2 hb.1 hb.2 (n := n) (by omega) (by omega) (by omega) _ (fun v' h' x hv => ?_) n 0 fuel h .nilslice (by omega) (by omega) (Ext.refl h) (.inl ⟨rfl, rfl⟩)
    unfold s_lagoonref15_ShownE1
    exact hK v' h' x hv
  rw [rdLen hr1]
  dsimp only
  rw [rdLen hr2]
  dsimp only
  by_cases hlt : els2.length < els1.length
  · have := main els2.length (by omega)
    refine Step.imp ?_
    refine Way.mk (fun hp => ?_) (fun hp => by omega)
    refine Step.imp ?_
    try dsimp only
    rw [rdLen hr2]
    exact this
  · have := main els1.length (by omega)
    refine Step.imp ?_
    refine Way.mk (fun hp => by omega) (fun hp => ?_)
    refine Step.imp ?_
    exact this
theorem cmpStr_run (e2 : Hp → Prop) {t5 : AV} {v1 v2 : AV} {l : List (List UInt8)} (h1 : Rd h 1 v1 (strE l)) (h2 : Rd h 1 v2 (strE l)) (hsm : l.length ≤ 1000000) (he : e2 h) :
    ∀ (d i fm : Nat), i + d = l.length → d < fm → s_lagoonlaw16_ClashShownL3 cf fuel K e2 t5 v1 v2 fm (I i) h
  | d, i, fm, hd, hm => by
    obtain ⟨fm, rfl⟩ : ∃ j, fm = j + 1 := ⟨fm - 1, by omega⟩
    rw [s_lagoonlaw16_ClashShownL3_succ]
    unfold s_lagoonlaw16_ClashShownL3B
    have hlen : (strE l).length = l.length := by simp [strE]
    rw [rdLen h1]
    try dsimp only
    by_cases hi : i < l.length
    · obtain ⟨d, rfl⟩ : ∃ j, d = j + 1 := ⟨d - 1, by omega⟩
      have ei : ((i : Int) + 1) = ((i + 1 : Nat) : Int) := by omega
      have ih := cmpStr_run e2 (t5 := t5) h1 h2 hsm he d (i + 1) fm (by omega) (by omega)
      obtain ⟨o1, off1, kn1, c1, en1, rfl, hat1, hc1⟩ := h1.openS (i := i) (by omega)
      obtain ⟨o2, off2, kn2, c2, en2, rfl, hat2, hc2⟩ := h2.openS (i := i) (by omega)
      have hel : ∀ (q : i < (strE l).length), (strE l)[i] = [S l[i]] := fun q => by simp [strE]
      have q1 := hc1 i (by omega)
      rw [hel] at q1
      have q1' := cellsO_one q1
      have q2 := hc2 i (by omega)
      rw [hel] at q2
      have q2' := cellsO_one q2
      (try unfold vMov); repeat' (first | refine Step.imp ?_ | (refine Way.mk (fun hp => ?_) (fun hp => ?_) <;> first | contradiction | (exfalso; omega) | skip) | refine LoadG.mkG ?_ | refine LoadsG.mkG ?_ | refine AtG.mkG ?_ | refine StoreG.mkG ?_ | refine CondG.mkG ?_ | (refine LoadG.mk2 hat1 q1' (by omega) ?_) | (refine LoadG.mk2 hat2 q2' (by omega) ?_) | fail); (all_goals (try dsimp only))
      rw [ei]
      exact ih
    · have hd0 : d = 0 := by omega
      subst hd0
      (try unfold vMov); repeat' (first | refine Step.imp ?_ | (refine Way.mk (fun hp => ?_) (fun hp => ?_) <;> first | contradiction | (exfalso; omega) | skip) | refine LoadG.mkG ?_ | refine LoadsG.mkG ?_ | refine AtG.mkG ?_ | refine StoreG.mkG ?_ | refine CondG.mkG ?_ | fail); (all_goals (try dsimp only))
      exact he
theorem lawShown_run (hBg : cf 7 = trueC) (hC : cf 8 = cShown) (hR : cf 9 = cShown) {v1 v2 : AV} {els1 els2 : List (List AV)} {ids : List IdI} {nms : List (List UInt8)} (hr1 : Rd h 2 v1 els1) (hi1 : IdsR els1 ids) (hr2 : Rd h 1 v2 els2) (hi2 : NmsR els2 nms) (hb : IdsB ids ∧ NmsB nms) (hf : 100 < fuel) (hK : ∀ h', K (.bool true) h') : s_lagoonlaw16_ClashShown cf fuel v1 v2 h K := by
  unfold s_lagoonlaw16_ClashShown
  rw [hBg]
  refine ⟨rfl, ?_⟩
  have main : ∀ (w1 w2 : AV) (es1 es2 : List (List AV)) (ids : List IdI) (nms : List (List UInt8)), Rd h 2 w1 es1 → IdsR es1 ids → Rd h 1 w2 es2 → NmsR es2 nms → (IdsB ids ∧ NmsB nms) → es1.length ≤ 12 → cf 8 [w1, w2] h fun t22 h => cf 9 [w1, w2] h fun t25 h => vLenL2 t22 h fun t27 h => vLenL2 t25 h fun t29 h => vNeq t27 t29 h fun t30 h => vIf t30 (K (.bool .false) h) (s_lagoonlaw16_ClashShownL3 cf fuel K (s_lagoonlaw16_ClashShownE2 cf fuel K (.bool true)) (.bool true) t22 t25 fuel (.int .i64 0) h) := fun w1 w2 es1 es2 ids nms h1 h2 h3 h4 hb h12 => by
    refine cShown_go hC h1 h2 h3 h4 hb (by omega) (fun va ha xa sa => ?_)
    refine cShown_go hR (h1.mono xa) h2 (h3.mono xa) h4 hb (by omega) (fun vb hb2 xb sb => ?_)
    have hlen : (strE (shL (idAt ids) (nmAt nms) (min es1.length es2.length))).length = min es1.length es2.length := by simp [strE, shL]
    have hlen2 : (shL (idAt ids) (nmAt nms) (min es1.length es2.length)).length = min es1.length es2.length := by simp [shL]
    have ra := SlN.rd (sa.ext xb) (by omega)
    have rb := SlN.rd sb (by omega)
    rw [rdLen ra]
    dsimp only
    rw [rdLen rb]
    dsimp only
    (try unfold vMov); repeat' (first | refine Step.imp ?_ | (refine Way.mk (fun hp => ?_) (fun hp => ?_) <;> first | contradiction | (exfalso; omega) | skip) | refine LoadG.mkG ?_ | refine LoadsG.mkG ?_ | refine AtG.mkG ?_ | refine StoreG.mkG ?_ | refine CondG.mkG ?_ | fail); (all_goals (try dsimp only))
    refine cmpStr_run cf fuel _ ra rb (by omega) ?_ _ 0 fuel (by rw [Nat.zero_add]) (by omega)
    unfold s_lagoonlaw16_ClashShownE2
    exact hK _
  have tk1 : ∀ k, IdsR (els1.take k) (ids.take k) := fun k => by
    unfold IdsR at *
    rw [hi1, List.map_take]
  have tk2 : ∀ k, NmsR (els2.take k) (nms.take k) := fun k => by
    unfold NmsR at *
    rw [hi2, List.map_take]
  have b1 : ∀ k, IdsB (ids.take k) := fun k i hi => hb.1 i (List.mem_of_mem_take hi)
  have b2 : ∀ k, NmsB (nms.take k) := fun k i hi => hb.2 i (List.mem_of_mem_take hi)
  have l1 : (els1.take 12).length ≤ 12 := by rw [List.length_take]; omega
  have bd1 := hr1.bound
  have bd2 := hr2.bound
  dsimp only
  rw [rdLen hr1]
  dsimp only
  by_cases h1 : 12 < els1.length
  · refine Step.imp (Way.mk (fun hp => ?_) (fun hp => by omega))
    refine Step.imp ?_
    refine cut_rd hr1 12 (by omega) (fun w1 rw1 => ?_)
    rw [rdLen hr2]
    dsimp only
    by_cases h2 : 12 < els2.length
    · refine Step.imp (Way.mk (fun hp => ?_) (fun hp => by omega))
      refine Step.imp ?_
      refine cut_rd hr2 12 (by omega) (fun w2 rw2 => ?_)
      exact main w1 w2 _ _ _ _ rw1 (tk1 12) rw2 (tk2 12) ⟨b1 12, b2 12⟩ l1
    · refine Step.imp (Way.mk (fun hp => by omega) (fun hp => ?_))
      refine Step.imp ?_
      exact main w1 v2 _ _ _ _ rw1 (tk1 12) hr2 hi2 ⟨b1 12, hb.2⟩ l1
  · refine Step.imp (Way.mk (fun hp => by omega) (fun hp => ?_))
    refine Step.imp ?_
    rw [rdLen hr2]
    dsimp only
    by_cases h2 : 12 < els2.length
    · refine Step.imp (Way.mk (fun hp => ?_) (fun hp => by omega))
      refine Step.imp ?_
      refine cut_rd hr2 12 (by omega) (fun w2 rw2 => ?_)
      exact main v1 w2 _ _ _ _ hr1 hi1 rw2 (tk2 12) ⟨hb.1, b2 12⟩ (by omega)
    · refine Step.imp (Way.mk (fun hp => by omega) (fun hp => ?_))
      refine Step.imp ?_
      exact main v1 v2 _ _ _ _ hr1 hi1 hr2 hi2 hb (by omega)
end
end Lg

namespace Lg
set_option linter.unusedSimpArgs false
set_option linter.unusedVariables false
set_option maxRecDepth 100000
open Go Go.Am Go.Lib
open Go.Proofs.YtnhamanffojhfaaDoor.shl
theorem S_47 : AV.str 1 47 = S [47] := rfl
def splitC (b : Nat) : List UInt8 → List (List UInt8)
  | [] => [[]]
  | x :: r => if x.toNat = b then [] :: splitC b r else match splitC b r with
    | [] => [[x]]
    | p :: ps => (x :: p) :: ps
def cntC (b : Nat) (l : List UInt8) : Nat := (l.filter fun x => decide (x.toNat = b)).length
theorem splitC_ne (b : Nat) : ∀ l, splitC b l ≠ []
  | [] => by simp [splitC]
  | x :: r => by
    unfold splitC
    split
    · simp
    · split <;> simp
theorem splitC_len (b : Nat) : ∀ l, (splitC b l).length = cntC b l + 1
  | [] => rfl
  | x :: r => by
    have ih := splitC_len b r
    unfold splitC cntC
    by_cases hx : x.toNat = b
    · rw [if_pos hx]
      unfold cntC at ih
      simp [hx, ih]
    · rw [if_neg hx]
      unfold cntC at ih
      cases hs : splitC b r with
      | nil => exact absurd hs (splitC_ne b r)
      | cons p ps =>
        rw [hs] at ih
        simp [hx] at ih ⊢
        exact ih
theorem splitC_none (b : Nat) : ∀ l, fiN l b = none → splitC b l = [l]
  | [], _ => rfl
  | x :: r, h => by
    unfold fiN at h
    by_cases hx : x.toNat = b
    · rw [if_pos hx] at h; cases h
    · rw [if_neg hx] at h
      have : fiN r b = none := by
        cases hq : fiN r b with
        | none => rfl
        | some j => rw [hq] at h; cases h
      unfold splitC
      rw [if_neg hx, splitC_none b r this]
theorem splitC_some (b : Nat) : ∀ l i, fiN l b = some i → splitC b l = l.take i :: splitC b (l.drop (i + 1))
  | [], _, h => by cases h
  | x :: r, i, h => by
    unfold fiN at h
    by_cases hx : x.toNat = b
    · rw [if_pos hx] at h
      cases h
      show splitC b (x :: r) = [] :: splitC b r
      rw [splitC.eq_def]
      dsimp only
      rw [if_pos hx]
    · rw [if_neg hx] at h
      cases hq : fiN r b with
      | none => rw [hq] at h; cases h
      | some j =>
        rw [hq] at h
        simp at h
        subst h
        show splitC b (x :: r) = (x :: r.take j) :: splitC b (r.drop (j + 1))
        rw [splitC.eq_def]
        dsimp only
        rw [if_neg hx, splitC_some b r j hq]
theorem cntC_none (b : Nat) (l : List UInt8) (h : fiN l b = none) : cntC b l = 0 := by
  have := splitC_len b l
  rw [splitC_none b l h] at this
  simpa using this.symm
theorem cntC_some (b : Nat) (l : List UInt8) (i : Nat) (h : fiN l b = some i) : cntC b l = cntC b (l.drop (i + 1)) + 1 := by
  have h1 := splitC_len b l
  rw [splitC_some b l i h, List.length_cons, splitC_len] at h1
  omega
theorem cntC_le (b : Nat) (l : List UInt8) : cntC b l ≤ l.length := List.length_filter_le _ _
theorem cntB_S (b : Nat) : ∀ (l : List UInt8) (i : Nat), cntB l.length (packL l) b i = i + cntC b l
  | [], i => rfl
  | x :: l, i => by
    have h1 : packL (x :: l) % 256 = x.toNat := by simp only [packL]; have := x.toNat_lt; omega
    have h2 : packL (x :: l) / 256 = packL l := by simp only [packL]; have := x.toNat_lt; omega
    show cntB (l.length + 1) (packL (x :: l)) b i = _
    unfold cntB
    rw [h1, h2]
    by_cases hx : x.toNat = b
    · have : Nat.beq x.toNat b = true := by simp [hx]
      rw [this]
      have e : cntC b (x :: l) = cntC b l + 1 := by unfold cntC; simp [hx]
      rw [e]
      first
        | (rw [cntB_S b l]; omega)
        | (show cntB l.length (packL l) b (Nat.succ i) = _; rw [cntB_S b l]; omega)
    · have : Nat.beq x.toNat b = false := by
        cases q : Nat.beq x.toNat b with
        | false => rfl
        | true => exact absurd (Nat.eq_of_beq_eq_true q) hx
      rw [this]
      have e : cntC b (x :: l) = cntC b l := by unfold cntC; simp [hx]
      rw [e]
      first
        | exact cntB_S b l i
        | (show cntB l.length (packL l) b i = _; exact cntB_S b l i)
section
variable (cf : CallK) (fuel : Nat) {h : Hp} {K : AV → Hp → Prop}
theorem cntB_go {l : List UInt8} {b : UInt8} (q : K (I (cntC b.toNat l)) h) : vCntB (S l) (.int .u8 (b.toNat : Nat)) h K := by
  show gd (Nat.blt b.toNat 256) (forceN (cntB l.length (packL l) b.toNat 0) fun i => K (.int .i64 (.ofNat i)) h)
  have : Nat.blt b.toNat 256 = true := by have := b.toNat_lt; simp; omega
  rw [this, gd_true, forceN_eq, cntB_S, Nat.zero_add]
  exact q
def cHasPL : ConD := fun args h K => ∃ l, ∃ b : UInt8, args = [S l, S [b]] ∧ l.length ≤ 140737488355328 ∧ K (.bool (decide (l.head? = some b))) h
theorem cHasP_go {cf : CallK} {g : FuncId} (hg : cf g = cHasPL) {l : List UInt8} {b : UInt8} (hl : l.length ≤ 140737488355328) (hK : K (.bool (decide (l.head? = some b))) h) : cf g [S l, S [b]] h K := by rw [hg]; exact ⟨l, b, rfl, hl, hK⟩
theorem liteHasP_run (l : List UInt8) (b : UInt8) (hl : l.length ≤ 140737488355328) (hK : K (.bool (decide (l.head? = some b))) h) : s_int_stringslite_HasPrefix cf fuel (S l) (S [b]) h K := by
  unfold s_int_stringslite_HasPrefix
  have hlen : ∀ h', vLenS (S [b]) h' = fun K' : AV → Hp → Prop => K' (I 1) h' := fun h' => rfl
  cases l with
  | nil =>
    have e : decide (([] : List UInt8).head? = some b) = false := by simp
    rw [e] at hK
    (try unfold vMov); repeat' (first | refine Step.imp ?_ | (refine Way.mk (fun hp => ?_) (fun hp => ?_) <;> first | contradiction | (exfalso; omega) | skip) | refine LoadG.mkG ?_ | refine LoadsG.mkG ?_ | refine AtG.mkG ?_ | refine StoreG.mkG ?_ | refine CondG.mkG ?_ | ((rw [hlen])) | fail); (all_goals (try dsimp only))
    exact hK
  | cons c r =>
    have lenE : (c :: r).length = r.length + 1 := rfl
    by_cases hc : c = b
    · have e : decide ((c :: r).head? = some b) = true := by simp [hc]
      rw [e] at hK
      subst hc
      (try unfold vMov); repeat' (first | refine Step.imp ?_ | (refine Way.mk (fun hp => ?_) (fun hp => ?_) <;> first | contradiction | (exfalso; omega) | skip) | refine LoadG.mkG ?_ | refine LoadsG.mkG ?_ | refine AtG.mkG ?_ | refine StoreG.mkG ?_ | refine CondG.mkG ?_ | ((rw [hlen])) | fail); (all_goals (try dsimp only))
      all_goals first
        | exact hK
        | (exfalso; simp at hp; done)
        | (exfalso; simp at hp; omega)
        | (exfalso; simp_all; done)
        | trace_state
    · have e : decide ((c :: r).head? = some b) = false := by simp [hc]
      rw [e] at hK
      (try unfold vMov); repeat' (first | refine Step.imp ?_ | (refine Way.mk (fun hp => ?_) (fun hp => ?_) <;> first | contradiction | (exfalso; omega) | skip) | refine LoadG.mkG ?_ | refine LoadsG.mkG ?_ | refine AtG.mkG ?_ | refine StoreG.mkG ?_ | refine CondG.mkG ?_ | ((rw [hlen])) | fail); (all_goals (try dsimp only))
      all_goals first
        | exact hK
        | (exfalso; simp at hp; done)
        | (exfalso; simp at hp; omega)
        | (exfalso; simp_all; done)
        | trace_state
def cCnt : ConD := fun args h K => ∃ l, ∃ b : UInt8, args = [S l, S [b]] ∧ K (I (cntC b.toNat l)) h
theorem cCnt_go {cf : CallK} {g : FuncId} (hg : cf g = cCnt) {l : List UInt8} {b : UInt8} (hK : K (I (cntC b.toNat l)) h) : cf g [S l, S [b]] h K := by rw [hg]; exact ⟨l, b, rfl, hK⟩
theorem Count1_run (l : List UInt8) (b : UInt8) (hK : K (I (cntC b.toNat l)) h) : s_strings_Count cf fuel (S l) (S [b]) h K := by
  unfold s_strings_Count
  have hlen : ∀ h', vLenS (S [b]) h' = fun K' : AV → Hp → Prop => K' (I 1) h' := fun h' => rfl
  rw [hlen]
  dsimp only
  refine Step.imp (Way.mk (fun hp => by omega) (fun _ => ?_))
  refine Step.imp ?_
  rw [hlen]
  dsimp only
  refine Step.imp (Way.mk (fun _ => ?_) (fun hp => by omega))
  refine Step.imp ?_
  refine idxS1 b ?_
  exact cntB_go hK
end
end Lg

namespace Lg
set_option linter.unusedSimpArgs false
set_option linter.unusedVariables false
set_option maxRecDepth 100000
open Go Go.Am Go.Lib
open Go.Proofs.YtnhamanffojhfaaDoor.shl
theorem cells_one {ob : AObj} {cs : List AV} {j : Nat} {a : AV} (hc : Cells ob cs) (hj : cs[j]? = some a) : cellsO ob 1 j = some [a] := by
  unfold cellsO
  rw [hc.2.2 j, hj]
  rfl
theorem strE_len (l : List (List UInt8)) : (strE l).length = l.length := by simp [strE]
theorem strE_at {l : List (List UInt8)} {i : Nat} (hi : i < (strE l).length) : (strE l)[i] = [S (l[i]'(by simpa [strE] using hi))] := by simp [strE]
section
variable (cf : CallK) (fuel : Nat) {h : Hp} {K : AV → Hp → Prop}
theorem strIndex_run (hI : cf 54 = cIdx1) (l : List UInt8) (b : UInt8) (hK : K (I (fi l (b.toNat : Int))) h) : s_strings_Index cf fuel (S l) (S [b]) h K := by
  unfold s_strings_Index
  (try unfold vMov); repeat' (first | refine Step.imp ?_ | (refine Way.mk (fun hp => ?_) (fun hp => ?_) <;> first | contradiction | (exfalso; omega) | skip) | refine LoadG.mkG ?_ | refine LoadsG.mkG ?_ | refine AtG.mkG ?_ | refine StoreG.mkG ?_ | refine CondG.mkG ?_ | (refine cIdx1_go hI ?_) | fail); (all_goals (try dsimp only))
  exact hK
/-- The row that is filled. -/
def RowS (h : Hp) (ro n i : Nat) (P : List (List UInt8)) : Prop := ∃ ob cs, h.at ro = some ⟨true, 1, ob⟩ ∧ Cells ob cs ∧ cs.length = n ∧ ∀ j, j < i → cs[j]? = (P[j]?).map S
theorem split_loop (hI : cf 64 = cIdx1) {h0 : Hp} {ro n : Nat} {b : UInt8} {P : List (List UInt8)} (hn : P.length = n) (hn1 : n ≤ 1000000) (hro : h0.next ≤ ro)
    (hK : ∀ v' h', Ext h0 h' → Rd h' 1 v' (strE P) → K v' h') :
    ∀ (d i fm : Nat) (rest : List UInt8) (h : Hp), i + d + 1 = n → d < fm → Ext h0 h → ro < h.next → P.drop i = splitC b.toNat rest → rest.length ≤ 1000000 → RowS h ro n i P → s_strings_genSplitL3 cf fuel (s_strings_genSplitE2 cf fuel K (.slice ro 0 n true n)) (S [b]) (I 0) (I ((n - 1 : Nat) : Int)) (.slice ro 0 n true n) fm (S rest) (I i) h
  | d, i, fm, rest, h, hd, hm, hx, hlt, hP, hrl, hrow => by
    obtain ⟨fm, rfl⟩ : ∃ j, fm = j + 1 := ⟨fm - 1, by omega⟩
    rw [s_strings_genSplitL3_succ]
    unfold s_strings_genSplitL3B
    have hlen : ∀ h', vLenS (S [b]) h' = fun K' : AV → Hp → Prop => K' (I 1) h' := fun h' => rfl
    have hPi : P[i]? = (splitC b.toNat rest)[0]? := by rw [← hP, List.getElem?_drop, Nat.add_zero]
    have hPl : (splitC b.toNat rest).length = n - i := by rw [← hP, List.length_drop, hn]
    have e1 : ((i : Int) + 1) = ((i + 1 : Nat) : Int) := by omega
    obtain ⟨ob, cs, r1, r2, r3, r4⟩ := hrow
    by_cases hi : i < n - 1
    · obtain ⟨d, rfl⟩ : ∃ j, d = j + 1 := ⟨d - 1, by omega⟩
      cases hf : fiN rest b.toNat with
      | none => rw [splitC_none _ _ hf] at hPl; simp at hPl; omega
      | some j =>
        have hj := fiN_lt _ _ _ hf
        have hs := splitC_some _ _ _ hf
        have ej1 : ((j : Int) + (([b].length : Nat) : Int)).toNat = j + 1 := by simp only [List.length_singleton]; omega
        have ej0 : ((j : Int) + 0).toNat = j := by omega
        have hfi := fi_some hf
        (try unfold vMov); repeat' (first | refine Step.imp ?_ | (refine Way.mk (fun hp => ?_) (fun hp => ?_) <;> first | contradiction | (exfalso; omega) | skip) | refine LoadG.mkG ?_ | refine LoadsG.mkG ?_ | refine AtG.mkG ?_ | refine StoreG.mkG ?_ | refine CondG.mkG ?_ | fail); (all_goals (try dsimp only))
        unfold s_strings_genSplitB6
        (try unfold vMov); repeat' (first | refine Step.imp ?_ | (refine Way.mk (fun hp => ?_) (fun hp => ?_) <;> first | contradiction | (exfalso; omega) | skip) | refine LoadG.mkG ?_ | refine LoadsG.mkG ?_ | refine AtG.mkG ?_ | refine StoreG.mkG ?_ | refine CondG.mkG ?_ | ((refine cIdx1_go hI ?_; rw [hfi])) | ((rw [hlen])) | (refine StoreG.mkC2 (off := i) r1 r2 (by omega) ⟨rfl, by simp only [List.length_singleton]; omega⟩ (fun ob2 c2 => ?_)) | fail); (all_goals (try dsimp only))
        rw [ej0] at c2
        rw [e1, ej1]
        refine split_loop hI hn hn1 hro hK d (i + 1) fm _ _ (by omega) (by omega) (Ext.put hx _ (by omega)) (by simp only [Hp.next_put]; exact hlt) ?_ (by rw [List.length_drop]; omega) ⟨ob2, _, Hp.at_put_self _ _ _, c2, by rw [setL_length _ _ _ (by simp only [List.length_singleton]; omega)]; exact r3, fun k hk => ?_⟩
        · have : P.drop (i + 1) = (P.drop i).drop 1 := by rw [List.drop_drop]
          rw [this, hP, hs]
          rfl
        · rw [getElem?_setL _ _ _ _ (by omega)]
          by_cases hki : k = i
          · subst hki
            rw [if_pos rfl, hPi, hs]
            rfl
          · rw [if_neg hki]
            exact r4 k (by omega)
    · have hd0 : d = 0 := by omega
      subst hd0
      have hone : splitC b.toNat rest = [rest] := by
        cases hf : fiN rest b.toNat with
        | none => exact splitC_none _ _ hf
        | some j =>
          have hs := splitC_some _ _ _ hf
          rw [hs] at hPl
          have := splitC_ne b.toNat (rest.drop (j + 1))
          cases hq : splitC b.toNat (rest.drop (j + 1)) with
          | nil => exact absurd hq this
          | cons a r => rw [hq] at hPl; simp at hPl; omega
      (try unfold vMov); repeat' (first | refine Step.imp ?_ | (refine Way.mk (fun hp => ?_) (fun hp => ?_) <;> first | contradiction | (exfalso; omega) | skip) | refine LoadG.mkG ?_ | refine LoadsG.mkG ?_ | refine AtG.mkG ?_ | refine StoreG.mkG ?_ | refine CondG.mkG ?_ | fail); (all_goals (try dsimp only))
      unfold s_strings_genSplitE2
      (try unfold vMov); repeat' (first | refine Step.imp ?_ | (refine Way.mk (fun hp => ?_) (fun hp => ?_) <;> first | contradiction | (exfalso; omega) | skip) | refine LoadG.mkG ?_ | refine LoadsG.mkG ?_ | refine AtG.mkG ?_ | refine StoreG.mkG ?_ | refine CondG.mkG ?_ | (refine StoreG.mkC2 (off := i) r1 r2 (by omega) ⟨rfl, by simp only [List.length_singleton]; omega⟩ (fun ob2 c2 => ?_)) | fail); (all_goals (try dsimp only))
      have hin : i + 1 = n := by omega
      rw [e1, hin]
      have hrd : Rd (h.put ro (some ⟨true, 1, ob2⟩)) 1 (.slice ro 0 n true n) (strE P) := by
        refine .inr (.inr ⟨ro, 0, true, n, _, by rw [strE_len, hn], by simp only [Hp.next_put]; exact hlt, Hp.at_put_self _ _ _, ⟨by rw [strE_len]; omega, fun _ => by rw [strE_len]; omega⟩, fun k hk => ?_⟩)
        rw [strE_at hk]
        rw [strE_len] at hk
        refine cells_one c2 ?_
        rw [Nat.zero_add, Nat.mul_one, getElem?_setL _ _ _ _ (by omega)]
        by_cases hki : k = i
        · subst hki
          rw [if_pos rfl]
          have : P[k]? = some rest := by rw [hPi, hone]; rfl
          rw [List.getElem?_eq_getElem hk] at this
          simp only [Option.some.injEq] at this
          rw [this]
        · rw [if_neg hki, r4 k (by omega), List.getElem?_eq_getElem hk]
          rfl
      refine cut_rd hrd n (by rw [strE_len]; omega) (fun v' hv' => hK v' _ (Ext.put hx _ (by omega)) ?_)
      rw [List.take_of_length_le (by rw [strE_len]; omega)] at hv'
      exact hv'
def cSpl : ConD := fun args h K => ∃ l, ∃ b : UInt8, args = [S l, S [b]] ∧ l.length ≤ 2000 ∧ ∀ v' h', Ext h h' → Rd h' 1 v' (strE (splitC b.toNat l)) → K v' h'
theorem cSpl_go {cf : CallK} {g : FuncId} (hg : cf g = cSpl) {l : List UInt8} {b : UInt8} (hl : l.length ≤ 2000) (hK : ∀ v' h', Ext h h' → Rd h' 1 v' (strE (splitC b.toNat l)) → K v' h') : cf g [S l, S [b]] h K := by rw [hg]; exact ⟨l, b, rfl, hl, hK⟩
def cGenS : ConD := fun args h K => ∃ l, ∃ b : UInt8, args = [S l, S [b], I 0, I (-1)] ∧ l.length ≤ 2000 ∧ ∀ v' h', Ext h h' → Rd h' 1 v' (strE (splitC b.toNat l)) → K v' h'
theorem cGenS_go {cf : CallK} {g : FuncId} (hg : cf g = cGenS) {l : List UInt8} {b : UInt8} (hl : l.length ≤ 2000) (hK : ∀ v' h', Ext h h' → Rd h' 1 v' (strE (splitC b.toNat l)) → K v' h') : cf g [S l, S [b], I 0, I (-1)] h K := by rw [hg]; exact ⟨l, b, rfl, hl, hK⟩
theorem genSplit_run (hI : cf 64 = cIdx1) (hC : cf 63 = cCnt) (l : List UInt8) (b : UInt8) (hl : l.length ≤ 2000) (hf : 3000 < fuel) (hK : ∀ v' h', Ext h h' → Rd h' 1 v' (strE (splitC b.toNat l)) → K v' h') : s_strings_genSplit cf fuel (S l) (S [b]) (I 0) (I (-1)) h K := by
  unfold s_strings_genSplit
  have hne : ([b] : List UInt8) ≠ bytesL 0 0 := by simp [bytesL]
  have hc := cntC_le b.toNat l
  have hlen := splitC_len b.toNat l
  (try unfold vMov); repeat' (first | refine Step.imp ?_ | (refine Way.mk (fun hp => ?_) (fun hp => ?_) <;> first | contradiction | (exfalso; omega) | skip) | refine LoadG.mkG ?_ | refine LoadsG.mkG ?_ | refine AtG.mkG ?_ | refine StoreG.mkG ?_ | refine CondG.mkG ?_ | fail); (all_goals (try dsimp only))
  unfold s_strings_genSplitB7
  have emin : min (((cntC b.toNat l : Nat) : Int) + 1) ((l.length : Int) + 1) = ((cntC b.toNat l + 1 : Nat) : Int) := by omega
  have esub : (((cntC b.toNat l + 1 : Nat) : Int) - 1) = ((cntC b.toNat l + 1 - 1 : Nat) : Int) := by omega
  (try unfold vMov); repeat' (first | refine Step.imp ?_ | (refine Way.mk (fun hp => ?_) (fun hp => ?_) <;> first | contradiction | (exfalso; omega) | skip) | refine LoadG.mkG ?_ | refine LoadsG.mkG ?_ | refine AtG.mkG ?_ | refine StoreG.mkG ?_ | refine CondG.mkG ?_ | (refine cCnt_go hC ?_) | (rw [emin]) | (refine mkSlice_go (n := cntC b.toNat l + 1) (by omega) (by omega) (fun ob hob => ?_)) | fail); (all_goals (try dsimp only))
  all_goals first
    | (exfalso; exact hne (by assumption))
    | skip
  rw [esub]
  refine split_loop cf fuel hI hlen (by omega) (Nat.le_refl h.next) hK (cntC b.toNat l) 0 fuel l _ (by omega) (by omega) ((Ext.refl h).new _) (Nat.lt_succ_self _) rfl (by omega) ⟨ob, _, Hp.at_new_self _ _, hob, by rw [repL_length]; simp, fun j hj => by omega⟩
theorem split_run (hG : cf 48 = cGenS) (l : List UInt8) (b : UInt8) (hl : l.length ≤ 2000) (hK : ∀ v' h', Ext h h' → Rd h' 1 v' (strE (splitC b.toNat l)) → K v' h') : s_strings_Split cf fuel (S l) (S [b]) h K := by
  unfold s_strings_Split
  (try unfold vMov); repeat' (first | refine Step.imp ?_ | (refine Way.mk (fun hp => ?_) (fun hp => ?_) <;> first | contradiction | (exfalso; omega) | skip) | refine LoadG.mkG ?_ | refine LoadsG.mkG ?_ | refine AtG.mkG ?_ | refine StoreG.mkG ?_ | refine CondG.mkG ?_ | (refine cGenS_go hG hl (fun v' h' x' r' => ?_)) | fail); (all_goals (try dsimp only))
  exact hK v' h' x' r'
end
end Lg

namespace Lg
set_option linter.unusedSimpArgs false
set_option linter.unusedVariables false
set_option maxRecDepth 100000
open Go Go.Am Go.Lib
open Go.Proofs.YtnhamanffojhfaaDoor.shl
def badF : List (List UInt8) → Int
  | [] => 0
  | x :: r => if (splitF x).2.2.2 = true then badF r else if nameE x = 0 then badF r else nameE x
def piecesF (s : List UInt8) : List (List UInt8) := if s = [47] then [] else splitC 47 (s.drop 1)
def parseF (s : List UInt8) : List (List UInt8) × Int := if s.head? = some 47 then (if 1024 < s.length ∨ 64 < (piecesF s).length then ([], 36) else if badF (piecesF s) = 0 then (piecesF s, 0) else ([], badF (piecesF s))) else ([], 22)
theorem splitC_each (b : Nat) : ∀ (l : List UInt8), ∀ x ∈ splitC b l, x.length ≤ l.length
  | [], x, hx => by simp [splitC] at hx; simp [hx]
  | c :: r, x, hx => by
    have ih := splitC_each b r
    unfold splitC at hx
    split at hx
    · rcases List.mem_cons.1 hx with rfl | hx
      · simp
      · have := ih x hx; simp only [List.length_cons]; omega
    · split at hx
      · rename_i e; exact absurd e (splitC_ne b r)
      · rename_i p ps e
        rw [e] at ih
        rcases List.mem_cons.1 hx with rfl | hx
        · have := ih p (by simp); simp only [List.length_cons]; omega
        · have := ih x (by simp [hx]); simp only [List.length_cons]; omega
theorem piecesF_each {s : List UInt8} : ∀ x ∈ piecesF s, x.length ≤ s.length := fun x hx => by
  unfold piecesF at hx
  split at hx
  · cases hx
  · have := splitC_each _ _ x hx
    rw [List.length_drop] at this
    omega
theorem piecesF_len (s : List UInt8) : (piecesF s).length ≤ s.length + 1 := by
  unfold piecesF
  split
  · simp
  · rw [splitC_len]
    have := cntC_le 47 (s.drop 1)
    rw [List.length_drop] at this
    omega
def cPar : ConD := fun args h K => ∃ l, args = [S l] ∧ l.length ≤ 2000 ∧ ∀ v' h', Ext h h' → Rd h' 1 v' (strE (parseF l).1) → K (.tup [v', I (parseF l).2]) h'
theorem cPar_go {cf : CallK} {g : FuncId} (hg : cf g = cPar) {l : List UInt8} {h : Hp} {K : AV → Hp → Prop} (hl : l.length ≤ 2000) (hK : ∀ v' h', Ext h h' → Rd h' 1 v' (strE (parseF l).1) → K (.tup [v', I (parseF l).2]) h') : cf g [S l] h K := by rw [hg]; exact ⟨l, rfl, hl, hK⟩
section
variable (cf : CallK) (fuel : Nat) {h : Hp} {K : AV → Hp → Prop}
theorem strHasP_run (hP : cf 47 = cHasPL) (l : List UInt8) (b : UInt8) (hl : l.length ≤ 140737488355328) (hK : K (.bool (decide (l.head? = some b))) h) : s_strings_HasPrefix cf fuel (S l) (S [b]) h K := by
  unfold s_strings_HasPrefix
  (try unfold vMov); repeat' (first | refine Step.imp ?_ | (refine Way.mk (fun hp => ?_) (fun hp => ?_) <;> first | contradiction | (exfalso; omega) | skip) | refine LoadG.mkG ?_ | refine LoadsG.mkG ?_ | refine AtG.mkG ?_ | refine StoreG.mkG ?_ | refine CondG.mkG ?_ | (refine cHasP_go hP hl ?_) | fail); (all_goals (try dsimp only))
  exact hK
theorem parseL2_run (hS : cf 13 = cSplit) (hN : cf 31 = cS nameE) {h0 : Hp} {v t4 : AV} {p : List (List UInt8)} (hr : Rd h0 1 v (strE p)) (hb : ∀ s ∈ p, s.length ≤ 1000000) (hsm : p.length ≤ 1000000) (e1 : Hp → Prop) :
    ∀ (d i fm : Nat) (h : Hp), i + d = p.length → d < fm → Ext h0 h → (badF (p.drop i) = 0 → ∀ h', Ext h0 h' → e1 h') → (badF (p.drop i) ≠ 0 → ∀ h', Ext h0 h' → K (.tup [.nilslice, I (badF (p.drop i))]) h') → s_path_ParseL2 cf fuel K e1 t4 v (I p.length) fm (I i) h
  | d, i, fm, h, hd, hm, hx, he, hK => by
    obtain ⟨fm, rfl⟩ : ∃ j, fm = j + 1 := ⟨fm - 1, by omega⟩
    rw [s_path_ParseL2_succ]
    unfold s_path_ParseL2B
    by_cases hi : i < p.length
    · obtain ⟨d, rfl⟩ : ∃ j, d = j + 1 := ⟨d - 1, by omega⟩
      have e1' : ((i : Int) + 1) = ((i + 1 : Nat) : Int) := by omega
      obtain ⟨o, off, kn, c, en, rfl, hat, hc⟩ := (hr.mono hx).openS (i := i) (by rw [strE_len]; exact hi)
      have q := hc i (by rw [strE_len]; exact hi)
      rw [strE_at] at q
      have q' := cellsO_one q
      have hlx := hb _ (List.getElem_mem hi)
      have hdr : p.drop i = p[i] :: p.drop (i + 1) := (List.drop_eq_getElem_cons hi)
      rw [hdr] at he hK
      generalize p[i] = x at *
      unfold badF at he hK
      have ih : ∀ h2, Ext h0 h2 → (badF (p.drop (i + 1)) = 0 → ∀ h', Ext h0 h' → e1 h') → (badF (p.drop (i + 1)) ≠ 0 → ∀ h', Ext h0 h' → K (.tup [.nilslice, I (badF (p.drop (i + 1)))]) h') → s_path_ParseL2 cf fuel K e1 t4 (.slice o off (strE p).length kn c) (I p.length) fm (I ((i + 1 : Nat) : Int)) h2 := fun h2 x2 y1 y2 => parseL2_run hS hN hr hb hsm e1 d (i + 1) fm h2 (by omega) (by omega) x2 y1 y2
      rw [strE_len] at ih ⊢
      (try unfold vMov); repeat' (first | refine Step.imp ?_ | (refine Way.mk (fun hp => ?_) (fun hp => ?_) <;> first | contradiction | (exfalso; omega) | skip) | refine LoadG.mkG ?_ | refine LoadsG.mkG ?_ | refine AtG.mkG ?_ | refine StoreG.mkG ?_ | refine CondG.mkG ?_ | fail); (all_goals (try dsimp only))
      unfold s_path_ParseB4
      (try unfold vMov); repeat' (first | refine Step.imp ?_ | (refine Way.mk (fun hp => ?_) (fun hp => ?_) <;> first | contradiction | (exfalso; omega) | skip) | refine LoadG.mkG ?_ | refine LoadsG.mkG ?_ | refine AtG.mkG ?_ | refine StoreG.mkG ?_ | refine CondG.mkG ?_ | (refine LoadG.mk2 hat q' (by omega) ?_) | fail); (all_goals (try dsimp only))
      refine cSplit_go hS (by omega) (fun h2 x2 => ?_)
      have hx2 := hx.trans x2
      have nx2 := hx2.next
      unfold spAV
      cases hsh : (splitF x).2.2.2 with
      | true =>
        rw [if_pos hsh] at he hK
        (try unfold vMov); repeat' (first | refine Step.imp ?_ | (refine Way.mk (fun hp => ?_) (fun hp => ?_) <;> first | contradiction | (exfalso; omega) | skip) | refine LoadG.mkG ?_ | refine LoadsG.mkG ?_ | refine AtG.mkG ?_ | refine StoreG.mkG ?_ | refine CondG.mkG ?_ | fail); (all_goals (try dsimp only))
        rw [e1']
        exact ih _ (by repeat (first | exact Ext.refl _ | assumption | apply Ext.new | (refine Ext.put ?_ _ (by first | omega | (simp; done) | (simp; omega))))) he hK
      | false =>
        rw [if_neg (by rw [hsh]; simp)] at he hK
        by_cases hn : nameE x = 0
        · rw [if_pos hn] at he hK
          (try unfold vMov); repeat' (first | refine Step.imp ?_ | (refine Way.mk (fun hp => ?_) (fun hp => ?_) <;> first | contradiction | (exfalso; omega) | skip) | refine LoadG.mkG ?_ | refine LoadsG.mkG ?_ | refine AtG.mkG ?_ | refine StoreG.mkG ?_ | refine CondG.mkG ?_ | (refine cS_go hN (by omega) ?_) | fail); (all_goals (try dsimp only))
          all_goals first
            | (exfalso; omega)
            | skip
          rw [e1']
          exact ih _ (by repeat (first | exact Ext.refl _ | assumption | apply Ext.new | (refine Ext.put ?_ _ (by first | omega | (simp; done) | (simp; omega))))) he hK
        · rw [if_neg hn] at he hK
          (try unfold vMov); repeat' (first | refine Step.imp ?_ | (refine Way.mk (fun hp => ?_) (fun hp => ?_) <;> first | contradiction | (exfalso; omega) | skip) | refine LoadG.mkG ?_ | refine LoadsG.mkG ?_ | refine AtG.mkG ?_ | refine StoreG.mkG ?_ | refine CondG.mkG ?_ | (refine cS_go hN (by omega) ?_) | fail); (all_goals (try dsimp only))
          all_goals first
            | (exfalso; omega)
            | skip
          exact hK hn _ (by repeat (first | exact Ext.refl _ | assumption | apply Ext.new | (refine Ext.put ?_ _ (by first | omega | (simp; done) | (simp; omega)))))
    · have hd0 : d = 0 := by omega
      subst hd0
      have : p.drop i = [] := List.drop_eq_nil_of_le (by omega)
      rw [this] at he
      (try unfold vMov); repeat' (first | refine Step.imp ?_ | (refine Way.mk (fun hp => ?_) (fun hp => ?_) <;> first | contradiction | (exfalso; omega) | skip) | refine LoadG.mkG ?_ | refine LoadsG.mkG ?_ | refine AtG.mkG ?_ | refine StoreG.mkG ?_ | refine CondG.mkG ?_ | fail); (all_goals (try dsimp only))
      exact he rfl h hx
noncomputable def s_path_ParseB8C0 (cf : CallK) (fuel : Nat) (K : AV → Hp → Prop) (t0 : AV) : AV → Hp → Prop := fun t4 h =>
vLenS t0 h fun t20 h =>
vGtr t20 (.int .i64 1024) h fun t21 h =>
joinG (fun g7 => grdV t21 false (vMov t4 h g7) (g7 undefV h)) fun t23 h =>
joinG (fun g6 => grdV t21 false (vLenL2 t23 h g6) (g6 undefV h)) fun t24 h =>
joinG (fun g5 => grdV t21 false (vGtr t24 (.int .i64 64) h g5) (g5 undefV h)) fun t25 h =>
vPick t21 (.bool .true) t25 h fun t26 h =>
vIf t26 (
K (.tup [.nilslice, (.int .i64 36)]) h) (
vLenL2 t4 h fun t28 h =>
(fun (e1 : Hp → Prop) =>
s_path_ParseL2 cf fuel K (s_path_ParseE1 cf fuel K t4) t4 t4 t28 fuel (.int .i64 0) h) (s_path_ParseE1 cf fuel K t4))
theorem s_path_ParseB8_cut (cf : CallK) (fuel : Nat) (K : AV → Hp → Prop) (t0 : AV) (h : Hp)  : s_path_ParseB8 cf fuel K t0 h = (
(fun (j0 : AV → Hp → Prop) =>
vNeq t0 (.str 1 47) h fun t15 h =>
vIf t15 (
vSliceS t0 (some (.int .i64 1)) none h fun t17 h =>
cf 37 [t17, (.str 1 47)] h fun t18 h =>
j0 t18 h) (
j0 .nilslice h)) (s_path_ParseB8C0 cf fuel K t0)) := by kernel_rfl

theorem pathParse_run (hH : cf 36 = cHasPL) (hSp : cf 37 = cSpl) (hS : cf 13 = cSplit) (hN : cf 31 = cS nameE) (l : List UInt8) (hl : l.length ≤ 2000) (hf : 3000 < fuel)
    (hK : ∀ v' h', Ext h h' → Rd h' 1 v' (strE (parseF l).1) → K (.tup [v', I (parseF l).2]) h') : s_path_Parse cf fuel (S l) h K := by
  unfold s_path_Parse
  have hnil : ∀ h' : Hp, Rd h' 1 .nilslice (strE []) := fun h' => .inl ⟨rfl, rfl⟩
  rw [S_47]
  refine cHasP_go hH (by omega) ?_
  by_cases hh : l.head? = some 47
  · have e : decide (l.head? = some 47) = true := by simp [hh]
    rw [e]
    have hne : 1 ≤ l.length := by
      cases l with
      | nil => cases hh
      | cons a r => simp
    unfold parseF at hK
    rw [if_pos hh] at hK
    have hpl := piecesF_len l
    have hpe := @piecesF_each l
    have J : ∀ v h', Ext h h' → Rd h' 1 v (strE (piecesF l)) → s_path_ParseB8C0 cf fuel K (S l) v h' := fun v h' x' r' => by
      unfold s_path_ParseB8C0
      have hlen := fun h => rdLen r' h
      rw [strE_len] at hlen
      by_cases h1 : 1024 < l.length
      · rw [if_pos (.inl h1)] at hK
        (try unfold vMov); repeat' (first | refine Step.imp ?_ | (refine Way.mk (fun hp => ?_) (fun hp => ?_) <;> first | contradiction | (exfalso; omega) | skip) | refine LoadG.mkG ?_ | refine LoadsG.mkG ?_ | refine AtG.mkG ?_ | refine StoreG.mkG ?_ | refine CondG.mkG ?_ | ((rw [hlen])) | fail); (all_goals (try dsimp only))
        all_goals first
          | exact hK _ _ x' (hnil _)
          | (exfalso; omega)
      · by_cases h2 : 64 < (piecesF l).length
        · rw [if_pos (.inr h2)] at hK
          (try unfold vMov); repeat' (first | refine Step.imp ?_ | (refine Way.mk (fun hp => ?_) (fun hp => ?_) <;> first | contradiction | (exfalso; omega) | skip) | refine LoadG.mkG ?_ | refine LoadsG.mkG ?_ | refine AtG.mkG ?_ | refine StoreG.mkG ?_ | refine CondG.mkG ?_ | ((rw [hlen])) | fail); (all_goals (try dsimp only))
          all_goals first
            | exact hK _ _ x' (hnil _)
            | (exfalso; omega)
        · rw [if_neg (by omega)] at hK
          (try unfold vMov); repeat' (first | refine Step.imp ?_ | (refine Way.mk (fun hp => ?_) (fun hp => ?_) <;> first | contradiction | (exfalso; omega) | skip) | refine LoadG.mkG ?_ | refine LoadsG.mkG ?_ | refine AtG.mkG ?_ | refine StoreG.mkG ?_ | refine CondG.mkG ?_ | ((rw [hlen])) | fail); (all_goals (try dsimp only))
          all_goals first
            | (exfalso; omega)
            | skip
          refine parseL2_run cf fuel hS hN r' (fun s hs => by have := hpe s hs; omega) (by omega) _ _ 0 fuel h' (Nat.zero_add _) (by omega) (Ext.refl _) (fun q h2 x2 => ?_) (fun q h2 x2 => ?_)
          · unfold s_path_ParseE1
            rw [List.drop_zero] at q
            rw [if_pos q] at hK
            exact hK v h2 (x'.trans x2) (r'.mono x2)
          · rw [List.drop_zero] at q ⊢
            rw [if_neg q] at hK
            exact hK _ h2 (x'.trans x2) (hnil _)
    (try unfold vMov); repeat' (first | refine Step.imp ?_ | (refine Way.mk (fun hp => ?_) (fun hp => ?_) <;> first | contradiction | (exfalso; omega) | skip) | refine LoadG.mkG ?_ | refine LoadsG.mkG ?_ | refine AtG.mkG ?_ | refine StoreG.mkG ?_ | refine CondG.mkG ?_ | fail); (all_goals (try dsimp only))
    rw [s_path_ParseB8_cut]
    by_cases h47 : l = [47]
    · have hp : piecesF l = [] := by unfold piecesF; rw [if_pos h47]
      rw [hp] at J
      have j := J .nilslice h (Ext.refl _) (hnil _)
      generalize s_path_ParseB8C0 cf fuel K (S l) = JJ at *
      rw [S_47]
      (try unfold vMov); repeat' (first | refine Step.imp ?_ | (refine Way.mk (fun hp => ?_) (fun hp => ?_) <;> first | contradiction | (exfalso; omega) | skip) | refine LoadG.mkG ?_ | refine LoadsG.mkG ?_ | refine AtG.mkG ?_ | refine StoreG.mkG ?_ | refine CondG.mkG ?_ | fail); (all_goals (try dsimp only))
      all_goals first
        | exact j
        | contradiction
    · have hp : piecesF l = splitC 47 (l.drop 1) := by unfold piecesF; rw [if_neg h47]
      rw [hp] at J
      generalize s_path_ParseB8C0 cf fuel K (S l) = JJ at *
      rw [S_47]
      (try unfold vMov); repeat' (first | refine Step.imp ?_ | (refine Way.mk (fun hp => ?_) (fun hp => ?_) <;> first | contradiction | (exfalso; omega) | skip) | refine LoadG.mkG ?_ | refine LoadsG.mkG ?_ | refine AtG.mkG ?_ | refine StoreG.mkG ?_ | refine CondG.mkG ?_ | fail); (all_goals (try dsimp only))
      all_goals first
        | contradiction
        | skip
      refine cSpl_go hSp (by rw [List.length_drop]; omega) (fun v' h' x' r' => J v' h' x' r')
  · have e : decide (l.head? = some 47) = false := by simp [hh]
    rw [e]
    unfold parseF at hK
    rw [if_neg hh] at hK
    (try unfold vMov); repeat' (first | refine Step.imp ?_ | (refine Way.mk (fun hp => ?_) (fun hp => ?_) <;> first | contradiction | (exfalso; omega) | skip) | refine LoadG.mkG ?_ | refine LoadsG.mkG ?_ | refine AtG.mkG ?_ | refine StoreG.mkG ?_ | refine CondG.mkG ?_ | fail); (all_goals (try dsimp only))
    exact hK .nilslice h (Ext.refl h) (hnil h)
end
end Lg

namespace Lg
set_option linter.unusedSimpArgs false
set_option linter.unusedVariables false
set_option maxRecDepth 100000
open Go Go.Am Go.Lib
open Go.Proofs.YtnhamanffojhfaaDoor.shl
theorem fiN_absent {b : Nat} : ∀ (l : List UInt8), (∀ j (hj : j < l.length), l[j].toNat ≠ b) → fiN l b = none
  | [], _ => rfl
  | x :: r, h => by
    unfold fiN
    rw [if_neg (by have := h 0 (by simp); simpa using this), fiN_absent r fun j hj => by have := h (j + 1) (by simp; omega); simpa using this]
    rfl
theorem fiN_first {b : Nat} : ∀ (l : List UInt8) (k : Nat) (hk : k < l.length), l[k].toNat = b → (∀ j (hj : j < k), l[j].toNat ≠ b) → fiN l b = some k
  | [], k, hk, _, _ => by simp at hk
  | x :: r, 0, hk, h, _ => by
    unfold fiN
    rw [if_pos (by simpa using h)]
  | x :: r, k + 1, hk, h, hl => by
    unfold fiN
    rw [if_neg (by have := hl 0 (by omega); simpa using this), fiN_first r k (by simpa using hk) (by simpa using h) fun j hj => by have := hl (j + 1) (by omega); simpa using this]
    rfl
section
variable (cf : CallK) (fuel : Nat) {h : Hp} {K : AV → Hp → Prop}
theorem sliceLH {l : List UInt8} {a b : Nat} (h1 : a ≤ b) (h2 : b ≤ l.length) (q : K (S ((l.take b).drop a)) h) : vSliceS (S l) (some (I a)) (some (I b)) h K := by
  rw [vSliceS_lh l .i64 .i64 a b (by omega) (by omega) (by omega)]
  exact q
theorem idxSB {l : List UInt8} {i : Nat} (hi : i < l.length) (q : K (.int .u8 (l[i].toNat : Int)) h) : vIdxS (S l) (I i) h K := idxSN hi q
theorem refParseL10_run {h0 : Hp} {s : List UInt8} {P : List (List UInt8)} (hs : s.length ≤ 2000) (e0 : AV → Hp → Prop) (he : ∀ v h', Ext h0 h' → SlN h' 1 v (strE P) h0.next → e0 v h') :
    ∀ (d i f fm : Nat) (done : List (List UInt8)) (v : AV) (h : Hp), i + d = s.length → d + 2 < fm → Ext h0 h → f ≤ i → done.length ≤ f → done ++ splitC 47 (s.drop f) = P → (∀ j (hj : j < s.length), f ≤ j → j < i → s[j].toNat ≠ 47) → SlN h 1 v (strE done) h0.next → s_lagoonref19_ParseL10 cf fuel e0 (S s) fm v (I f) (I i) h
  | d, i, f, fm, done, v, h, hd, hm, hx, hfi, hdf, hP, hno, hv => by
    obtain ⟨fm, rfl⟩ : ∃ j, fm = j + 1 := ⟨fm - 1, by omega⟩
    rw [s_lagoonref19_ParseL10_succ]
    unfold s_lagoonref19_ParseL10B
    have e1 : ((i : Int) + 1) = ((i + 1 : Nat) : Int) := by omega
    by_cases hi : i < s.length
    · obtain ⟨d, rfl⟩ : ∃ j, d = j + 1 := ⟨d - 1, by omega⟩
      by_cases h47 : s[i].toNat = 47
      · have hsp : splitC 47 (s.drop f) = (s.take i).drop f :: splitC 47 (s.drop (i + 1)) := by
          have hf := fiN_first (b := 47) (s.drop f) (i - f) (by rw [List.length_drop]; omega) (by
            rw [List.getElem_drop]
            have : f + (i - f) = i := by omega
            simp only [this]
            exact h47) (fun j hj => by
            rw [List.getElem_drop]
            exact hno (f + j) (by omega) (by omega) (by omega))
          rw [splitC_some _ _ _ hf, List.drop_drop, List.take_drop]
          have a1 : f + (i - f) = i := by omega
          have a2 : f + (i - f + 1) = i + 1 := by omega
          rw [a1, a2]
        rw [hsp] at hP
        have hgi : (s[(i : Int).toNat]'(by omega)).toNat = s[i].toNat := rfl
        (try unfold vMov); repeat' (first | refine Step.imp ?_ | (refine Way.mk (fun hp => ?_) (fun hp => ?_) <;> first | contradiction | (exfalso; omega) | skip) | refine LoadG.mkG ?_ | refine LoadsG.mkG ?_ | refine AtG.mkG ?_ | refine StoreG.mkG ?_ | refine CondG.mkG ?_ | fail); (all_goals (try dsimp only))
        unfold s_lagoonref19_ParseB16
        (try unfold vMov); repeat' (first | refine Step.imp ?_ | (refine Way.mk (fun hp => ?_) (fun hp => ?_) <;> first | contradiction | (exfalso; omega) | skip) | refine LoadG.mkG ?_ | refine LoadsG.mkG ?_ | refine AtG.mkG ?_ | refine StoreG.mkG ?_ | refine CondG.mkG ?_ | (refine ⟨by omega, by omega, ?_⟩) | (refine sliceLH hfi (Nat.le_of_lt hi) ?_) | fail); (all_goals (try dsimp only))
        all_goals first
          | (exfalso; omega)
          | skip
        refine appStr_go hx hv (Nat.le_refl _) hx.next (by omega) (fun v' h' w1 w2 w3 w4 => ?_)
        (try unfold vMov); repeat' (first | refine Step.imp ?_ | (refine Way.mk (fun hp => ?_) (fun hp => ?_) <;> first | contradiction | (exfalso; omega) | skip) | refine LoadG.mkG ?_ | refine LoadsG.mkG ?_ | refine AtG.mkG ?_ | refine StoreG.mkG ?_ | refine CondG.mkG ?_ | fail); (all_goals (try dsimp only))
        rw [e1]
        exact refParseL10_run hs e0 he d (i + 1) (i + 1) fm _ v' h' (by omega) (by omega) w1 (Nat.le_refl _) (by simp only [List.length_append, List.length_singleton]; omega) (by rw [List.append_assoc]; exact hP) (fun j hj q1 q2 => by omega) w4
      · have hgi : (s[(i : Int).toNat]'(by omega)).toNat = s[i].toNat := rfl
        (try unfold vMov); repeat' (first | refine Step.imp ?_ | (refine Way.mk (fun hp => ?_) (fun hp => ?_) <;> first | contradiction | (exfalso; omega) | skip) | refine LoadG.mkG ?_ | refine LoadsG.mkG ?_ | refine AtG.mkG ?_ | refine StoreG.mkG ?_ | refine CondG.mkG ?_ | fail); (all_goals (try dsimp only))
        unfold s_lagoonref19_ParseB16
        (try unfold vMov); repeat' (first | refine Step.imp ?_ | (refine Way.mk (fun hp => ?_) (fun hp => ?_) <;> first | contradiction | (exfalso; omega) | skip) | refine LoadG.mkG ?_ | refine LoadsG.mkG ?_ | refine AtG.mkG ?_ | refine StoreG.mkG ?_ | refine CondG.mkG ?_ | (refine ⟨by omega, by omega, ?_⟩) | fail); (all_goals (try dsimp only))
        all_goals first
          | (exfalso; omega)
          | skip
        rw [e1]
        refine refParseL10_run hs e0 he d (i + 1) f fm done v h (by omega) (by omega) hx (by omega) hdf hP (fun j hj q1 q2 => ?_) hv
        by_cases hj2 : j = i
        · subst hj2; exact h47
        · exact hno j hj q1 (by omega)
    · have hd0 : d = 0 := by omega
      subst hd0
      have hil : i = s.length := by omega
      have hsp : splitC 47 (s.drop f) = [(s.take i).drop f] := by
        rw [splitC_none, List.take_of_length_le (by omega)]
        exact fiN_absent _ fun j hj => by
          rw [List.getElem_drop]
          rw [List.length_drop] at hj
          exact hno (f + j) (by omega) (by omega) (by omega)
      rw [hsp] at hP
      (try unfold vMov); repeat' (first | refine Step.imp ?_ | (refine Way.mk (fun hp => ?_) (fun hp => ?_) <;> first | contradiction | (exfalso; omega) | skip) | refine LoadG.mkG ?_ | refine LoadsG.mkG ?_ | refine AtG.mkG ?_ | refine StoreG.mkG ?_ | refine CondG.mkG ?_ | fail); (all_goals (try dsimp only))
      unfold s_lagoonref19_ParseB16
      (try unfold vMov); repeat' (first | refine Step.imp ?_ | (refine Way.mk (fun hp => ?_) (fun hp => ?_) <;> first | contradiction | (exfalso; omega) | skip) | refine LoadG.mkG ?_ | refine LoadsG.mkG ?_ | refine AtG.mkG ?_ | refine StoreG.mkG ?_ | refine CondG.mkG ?_ | (refine sliceLH hfi (Nat.le_of_eq hil) ?_) | fail); (all_goals (try dsimp only))
      all_goals first
        | (exfalso; omega)
        | skip
      refine appStr_go hx hv (Nat.le_refl _) hx.next (by omega) (fun v' h' w1 w2 w3 w4 => ?_)
      rw [hP] at w4
      obtain ⟨fm, rfl⟩ : ∃ j, fm = j + 1 := ⟨fm - 1, by omega⟩
      (try unfold vMov); repeat' (first | refine Step.imp ?_ | (refine Way.mk (fun hp => ?_) (fun hp => ?_) <;> first | contradiction | (exfalso; omega) | skip) | refine LoadG.mkG ?_ | refine LoadsG.mkG ?_ | refine AtG.mkG ?_ | refine StoreG.mkG ?_ | refine CondG.mkG ?_ | fail); (all_goals (try dsimp only))
      rw [s_lagoonref19_ParseL10_succ]
      unfold s_lagoonref19_ParseL10B
      (try unfold vMov); repeat' (first | refine Step.imp ?_ | (refine Way.mk (fun hp => ?_) (fun hp => ?_) <;> first | contradiction | (exfalso; omega) | skip) | refine LoadG.mkG ?_ | refine LoadsG.mkG ?_ | refine AtG.mkG ?_ | refine StoreG.mkG ?_ | refine CondG.mkG ?_ | fail); (all_goals (try dsimp only))
      all_goals first
        | exact he v' h' w1 w4
        | (exfalso; omega)
theorem refParseL2_run (hS : cf 14 = cSplitG) (hN : cf 11 = cS nameE) {h0 : Hp} {v : AV} {p : List (List UInt8)} (hr : Rd h0 1 v (strE p)) (hb : ∀ s ∈ p, s.length ≤ 1000000) (hsm : p.length ≤ 1000000) (e1 : Hp → Prop) :
    ∀ (d i fm : Nat) (h : Hp), i + d = p.length → d < fm → Ext h0 h → (badF (p.drop i) = 0 → ∀ h', Ext h0 h' → e1 h') → (badF (p.drop i) ≠ 0 → ∀ h', Ext h0 h' → K (.tup [.nilslice, I (badF (p.drop i))]) h') → s_lagoonref19_ParseL2 cf fuel K e1 v fm (I i) h
  | d, i, fm, h, hd, hm, hx, he, hK => by
    obtain ⟨fm, rfl⟩ : ∃ j, fm = j + 1 := ⟨fm - 1, by omega⟩
    rw [s_lagoonref19_ParseL2_succ]
    unfold s_lagoonref19_ParseL2B
    by_cases hi : i < p.length
    · obtain ⟨d, rfl⟩ : ∃ j, d = j + 1 := ⟨d - 1, by omega⟩
      have e1' : ((i : Int) + 1) = ((i + 1 : Nat) : Int) := by omega
      obtain ⟨o, off, kn, c, en, rfl, hat, hc⟩ := (hr.mono hx).openS (i := i) (by rw [strE_len]; exact hi)
      have q := hc i (by rw [strE_len]; exact hi)
      rw [strE_at] at q
      have q' := cellsO_one q
      have hlx := hb _ (List.getElem_mem hi)
      have hdr : p.drop i = p[i] :: p.drop (i + 1) := (List.drop_eq_getElem_cons hi)
      rw [hdr] at he hK
      generalize p[i] = x at *
      unfold badF at he hK
      have ih : ∀ h2, Ext h0 h2 → (badF (p.drop (i + 1)) = 0 → ∀ h', Ext h0 h' → e1 h') → (badF (p.drop (i + 1)) ≠ 0 → ∀ h', Ext h0 h' → K (.tup [.nilslice, I (badF (p.drop (i + 1)))]) h') → s_lagoonref19_ParseL2 cf fuel K e1 (.slice o off (strE p).length kn c) fm (I ((i + 1 : Nat) : Int)) h2 := fun h2 x2 y1 y2 => refParseL2_run hS hN hr hb hsm e1 d (i + 1) fm h2 (by omega) (by omega) x2 y1 y2
      rw [strE_len] at ih ⊢
      (try unfold vMov); repeat' (first | refine Step.imp ?_ | (refine Way.mk (fun hp => ?_) (fun hp => ?_) <;> first | contradiction | (exfalso; omega) | skip) | refine LoadG.mkG ?_ | refine LoadsG.mkG ?_ | refine AtG.mkG ?_ | refine StoreG.mkG ?_ | refine CondG.mkG ?_ | fail); (all_goals (try dsimp only))
      unfold s_lagoonref19_ParseB6
      (try unfold vMov); repeat' (first | refine Step.imp ?_ | (refine Way.mk (fun hp => ?_) (fun hp => ?_) <;> first | contradiction | (exfalso; omega) | skip) | refine LoadG.mkG ?_ | refine LoadsG.mkG ?_ | refine AtG.mkG ?_ | refine StoreG.mkG ?_ | refine CondG.mkG ?_ | (refine LoadG.mk2 hat q' (by omega) ?_) | (refine cS_go hN (by omega) ?_) | fail); (all_goals (try dsimp only))
      refine cSplitG_go hS (by omega) (fun h2 x2 => ?_)
      rw [← split_same]
      have hx2 := hx.trans x2
      have nx2 := hx2.next
      unfold spAV
      cases hsh : (splitF x).2.2.2 with
      | true =>
        rw [if_pos hsh] at he hK
        (try unfold vMov); repeat' (first | refine Step.imp ?_ | (refine Way.mk (fun hp => ?_) (fun hp => ?_) <;> first | contradiction | (exfalso; omega) | skip) | refine LoadG.mkG ?_ | refine LoadsG.mkG ?_ | refine AtG.mkG ?_ | refine StoreG.mkG ?_ | refine CondG.mkG ?_ | fail); (all_goals (try dsimp only))
        all_goals (rw [e1'])
        all_goals exact ih _ (by repeat (first | exact Ext.refl _ | assumption | apply Ext.new | (refine Ext.put ?_ _ (by first | omega | (simp; done) | (simp; omega))))) he hK
      | false =>
        rw [if_neg (by rw [hsh]; simp)] at he hK
        by_cases hn : nameE x = 0
        · rw [if_pos hn] at he hK
          (try unfold vMov); repeat' (first | refine Step.imp ?_ | (refine Way.mk (fun hp => ?_) (fun hp => ?_) <;> first | contradiction | (exfalso; omega) | skip) | refine LoadG.mkG ?_ | refine LoadsG.mkG ?_ | refine AtG.mkG ?_ | refine StoreG.mkG ?_ | refine CondG.mkG ?_ | fail); (all_goals (try dsimp only))
          all_goals first
            | (exfalso; omega)
            | skip
          rw [e1']
          exact ih _ (by repeat (first | exact Ext.refl _ | assumption | apply Ext.new | (refine Ext.put ?_ _ (by first | omega | (simp; done) | (simp; omega))))) he hK
        · rw [if_neg hn] at he hK
          (try unfold vMov); repeat' (first | refine Step.imp ?_ | (refine Way.mk (fun hp => ?_) (fun hp => ?_) <;> first | contradiction | (exfalso; omega) | skip) | refine LoadG.mkG ?_ | refine LoadsG.mkG ?_ | refine AtG.mkG ?_ | refine StoreG.mkG ?_ | refine CondG.mkG ?_ | fail); (all_goals (try dsimp only))
          all_goals first
            | (exfalso; omega)
            | skip
          exact hK hn _ (by repeat (first | exact Ext.refl _ | assumption | apply Ext.new | (refine Ext.put ?_ _ (by first | omega | (simp; done) | (simp; omega)))))
    · have hd0 : d = 0 := by omega
      subst hd0
      have : p.drop i = [] := List.drop_eq_nil_of_le (by omega)
      rw [this] at he
      rw [rdLen (hr.mono hx), strE_len]
      (try unfold vMov); repeat' (first | refine Step.imp ?_ | (refine Way.mk (fun hp => ?_) (fun hp => ?_) <;> first | contradiction | (exfalso; omega) | skip) | refine LoadG.mkG ?_ | refine LoadsG.mkG ?_ | refine AtG.mkG ?_ | refine StoreG.mkG ?_ | refine CondG.mkG ?_ | fail); (all_goals (try dsimp only))
      all_goals first
        | exact he rfl h hx
        | (exfalso; omega)
theorem refParse_run (hS : cf 14 = cSplitG) (hN : cf 11 = cS nameE) (l : List UInt8) (hl : l.length ≤ 2000) (hf : 3000 < fuel)
    (hK : ∀ v' h', Ext h h' → Rd h' 1 v' (strE (parseF l).1) → K (.tup [v', I (parseF l).2]) h') : s_lagoonref19_Parse cf fuel (S l) h K := by
  unfold s_lagoonref19_Parse
  have hnil : ∀ h' : Hp, Rd h' 1 .nilslice (strE []) := fun h' => .inl ⟨rfl, rfl⟩
  have hpl := piecesF_len l
  have hpe := @piecesF_each l
  rw [S_nil]
  by_cases h0 : l = []
  · subst h0
    have : parseF [] = ([], 22) := rfl
    rw [this] at hK
    (try unfold vMov); repeat' (first | refine Step.imp ?_ | (refine Way.mk (fun hp => ?_) (fun hp => ?_) <;> first | contradiction | (exfalso; omega) | skip) | refine LoadG.mkG ?_ | refine LoadsG.mkG ?_ | refine AtG.mkG ?_ | refine StoreG.mkG ?_ | refine CondG.mkG ?_ | fail); (all_goals (try dsimp only))
    all_goals first
      | exact hK .nilslice h (Ext.refl h) (hnil h)
      | contradiction
  · have hpos : 0 < l.length := List.length_pos_iff.2 h0
    have hhd : l.head? = some l[0] := by
      cases l with
      | nil => exact absurd rfl h0
      | cons a r => rfl
    have hgi : (l[(0 : Int).toNat]'(by omega)).toNat = l[0].toNat := rfl
    by_cases hh : l.head? = some 47
    · have h47 : l[0].toNat = 47 := by
        rw [hhd] at hh
        simp only [Option.some.injEq] at hh
        rw [hh]
        rfl
      unfold parseF at hK
      rw [if_pos hh] at hK
      rw [S_47]
      by_cases hone : l = [47]
      · have hp : piecesF l = [] := by unfold piecesF; rw [if_pos hone]
        rw [hp] at hK
        have hl1 : l.length = 1 := by rw [hone]; rfl
        rw [if_neg (by rw [hl1]; simp), if_pos (show badF [] = 0 from rfl)] at hK
        (try unfold vMov); repeat' (first | refine Step.imp ?_ | (refine Way.mk (fun hp => ?_) (fun hp => ?_) <;> first | contradiction | (exfalso; omega) | skip) | refine LoadG.mkG ?_ | refine LoadsG.mkG ?_ | refine AtG.mkG ?_ | refine StoreG.mkG ?_ | refine CondG.mkG ?_ | (refine ⟨by omega, by omega, ?_⟩) | fail); (all_goals (try dsimp only))
        all_goals first
          | exact hK .nilslice h (Ext.refl h) (hnil h)
          | contradiction
          | (exfalso; omega)
      · have hpp : piecesF l = splitC 47 (l.drop 1) := by unfold piecesF; rw [if_neg hone]
        (try unfold vMov); repeat' (first | refine Step.imp ?_ | (refine Way.mk (fun hp => ?_) (fun hp => ?_) <;> first | contradiction | (exfalso; omega) | skip) | refine LoadG.mkG ?_ | refine LoadsG.mkG ?_ | refine AtG.mkG ?_ | refine StoreG.mkG ?_ | refine CondG.mkG ?_ | (refine ⟨by omega, by omega, ?_⟩) | fail); (all_goals (try dsimp only))
        all_goals first
          | contradiction
          | (exfalso; omega)
          | skip
        refine refParseL10_run cf fuel hl _ (P := piecesF l) (fun v h' x' sl => ?_) (l.length - 1) 1 1 fuel [] .nilslice h (by omega) (by omega) (Ext.refl h) (Nat.le_refl _) (by simp) (by rw [hpp]; rfl) (fun j hj q1 q2 => by omega) (.inl ⟨rfl, rfl⟩)
        have r' := Lg.SlN.rd sl (by rw [strE_len]; omega)
        unfold s_lagoonref19_ParseE0
        have hlen := fun h => rdLen r' h
        rw [strE_len] at hlen
        by_cases h1 : 1024 < l.length
        · rw [if_pos (.inl h1)] at hK
          (try unfold vMov); repeat' (first | refine Step.imp ?_ | (refine Way.mk (fun hp => ?_) (fun hp => ?_) <;> first | contradiction | (exfalso; omega) | skip) | refine LoadG.mkG ?_ | refine LoadsG.mkG ?_ | refine AtG.mkG ?_ | refine StoreG.mkG ?_ | refine CondG.mkG ?_ | ((rw [hlen])) | fail); (all_goals (try dsimp only))
          all_goals first
            | exact hK _ _ x' (hnil _)
            | (exfalso; omega)
        · by_cases h2 : 64 < (piecesF l).length
          · rw [if_pos (.inr h2)] at hK
            (try unfold vMov); repeat' (first | refine Step.imp ?_ | (refine Way.mk (fun hp => ?_) (fun hp => ?_) <;> first | contradiction | (exfalso; omega) | skip) | refine LoadG.mkG ?_ | refine LoadsG.mkG ?_ | refine AtG.mkG ?_ | refine StoreG.mkG ?_ | refine CondG.mkG ?_ | ((rw [hlen])) | fail); (all_goals (try dsimp only))
            all_goals first
              | exact hK _ _ x' (hnil _)
              | (exfalso; omega)
          · rw [if_neg (by omega)] at hK
            (try unfold vMov); repeat' (first | refine Step.imp ?_ | (refine Way.mk (fun hp => ?_) (fun hp => ?_) <;> first | contradiction | (exfalso; omega) | skip) | refine LoadG.mkG ?_ | refine LoadsG.mkG ?_ | refine AtG.mkG ?_ | refine StoreG.mkG ?_ | refine CondG.mkG ?_ | ((rw [hlen])) | fail); (all_goals (try dsimp only))
            all_goals first
              | (exfalso; omega)
              | skip
            refine refParseL2_run cf fuel hS hN r' (fun s hs => by have := hpe s hs; omega) (by omega) _ _ 0 fuel h' (Nat.zero_add _) (by omega) (Ext.refl _) (fun q h2 x2 => ?_) (fun q h2 x2 => ?_)
            · unfold s_lagoonref19_ParseE1
              rw [List.drop_zero] at q
              rw [if_pos q] at hK
              exact hK v h2 (x'.trans x2) (r'.mono x2)
            · rw [List.drop_zero] at q ⊢
              rw [if_neg q] at hK
              exact hK _ h2 (x'.trans x2) (hnil _)
    · have h47 : l[0].toNat ≠ 47 := fun e => by
        apply hh
        rw [hhd]
        congr 1
        exact UInt8.toNat_inj.1 e
      unfold parseF at hK
      rw [if_neg hh] at hK
      (try unfold vMov); repeat' (first | refine Step.imp ?_ | (refine Way.mk (fun hp => ?_) (fun hp => ?_) <;> first | contradiction | (exfalso; omega) | skip) | refine LoadG.mkG ?_ | refine LoadsG.mkG ?_ | refine AtG.mkG ?_ | refine StoreG.mkG ?_ | refine CondG.mkG ?_ | (refine ⟨by omega, by omega, ?_⟩) | fail); (all_goals (try dsimp only))
      all_goals first
        | exact hK .nilslice h (Ext.refl h) (hnil h)
        | contradiction
        | (exfalso; omega)
end
end Lg

namespace Lg
set_option linter.unusedSimpArgs false
set_option linter.unusedVariables false
set_option maxRecDepth 100000
open Go Go.Am Go.Lib
open Go.Proofs.YtnhamanffojhfaaDoor.shl
def tailP : List (List UInt8) → List UInt8
  | [] => []
  | p :: r => 47 :: (p ++ tailP r)
def joinP : List (List UInt8) → List UInt8
  | [] => []
  | p :: r => p ++ tailP r
def joinF (p : List (List UInt8)) : List UInt8 := if p = [] then [47] else tailP p
theorem joinF_eq (p : List (List UInt8)) : [47] ++ joinP p = joinF p := by
  unfold joinF
  cases p with
  | nil => rfl
  | cons a r => rw [if_neg (by simp)]; rfl
theorem join_split (l : List UInt8) : joinP (splitC 47 l) = l := by
  induction l with
  | nil => rfl
  | cons x r ih =>
    unfold splitC
    by_cases hx : x.toNat = 47
    · rw [if_pos hx]
      have : x = 47 := UInt8.toNat_inj.1 hx
      subst this
      cases hq : splitC 47 r with
      | nil => exact absurd hq (splitC_ne _ _)
      | cons p ps =>
        rw [hq] at ih
        show [] ++ (47 :: (p ++ tailP ps)) = _
        have ih : p ++ tailP ps = r := ih
        rw [ih]
        rfl
    · rw [if_neg hx]
      cases hq : splitC 47 r with
      | nil => exact absurd hq (splitC_ne _ _)
      | cons p ps =>
        rw [hq] at ih
        show x :: (p ++ tailP ps) = _
        have ih : p ++ tailP ps = r := ih
        rw [ih]
theorem parse_join {s : List UInt8} (h : (parseF s).2 = 0) : joinF (parseF s).1 = s := by
  unfold parseF at h ⊢
  by_cases hh : s.head? = some 47
  · rw [if_pos hh] at h ⊢
    split at h
    · cases h
    · rename_i hs
      rw [if_neg hs]
      split at h
      · rename_i hb
        rw [if_pos hb]
        obtain ⟨r, rfl⟩ : ∃ r, s = 47 :: r := by
          cases s with
          | nil => cases hh
          | cons a r => simp at hh; exact ⟨r, by rw [hh]⟩
        show joinF (piecesF (47 :: r)) = _
        rw [← joinF_eq]
        unfold piecesF
        by_cases h1 : (47 :: r : List UInt8) = [47]
        · rw [if_pos h1, h1]
          rfl
        · rw [if_neg h1]
          show [47] ++ joinP (splitC 47 r) = _
          rw [join_split]
          rfl
      · rename_i hb
        exact absurd h hb
  · rw [if_neg hh] at h
    cases h
def numP (p : List UInt8) : Nat × Nat := (p.length, packL p)
theorem catT_S : ∀ ps : List (List UInt8), catT 1 47 (ps.map numP) = numP (tailP ps)
  | [] => rfl
  | p :: r => by
    have e : tailP (p :: r) = [47] ++ (p ++ tailP r) := rfl
    show (match catT 1 47 (r.map numP) with | (l, z) => (1 + (p.length + l), 47 + (packL p + z <<< (8 * p.length)) <<< (8 * 1))) = _
    rw [catT_S r, e]
    unfold numP
    rw [packL_app, packL_app]
    simp only [List.length_append, List.length_singleton]
    rfl
theorem joinN_S : ∀ ps : List (List UInt8), joinN 1 47 (ps.map numP) = numP (joinP ps)
  | [] => rfl
  | p :: r => by
    show (match catT 1 47 (r.map numP) with | (l, z) => (p.length + l, packL p + z <<< (8 * p.length))) = _
    rw [catT_S r]
    unfold numP joinP
    rw [packL_app, List.length_append]
theorem strsK_S : ∀ (ps : List (List UInt8)) (k : List (Nat × Nat) → Prop), k (ps.map numP) → strsK (ps.map S) k
  | [], k, q => q
  | p :: r, k, q => by
    show strsK (r.map S) fun x => k ((p.length, packL p) :: x)
    exact strsK_S r _ q
theorem cellsO_of {ob : AObj} : ∀ (l : List AV) (off : Nat), (∀ j, j < l.length → cellAt ob (off + j) = l[j]?) → cellsO ob l.length off = some l
  | [], off, _ => rfl
  | x :: r, off, h => by
    have h0 := h 0 (by simp)
    have ih := cellsO_of r (off + 1) fun j hj => by
      have := h (j + 1) (by simpa using hj)
      rw [Nat.add_assoc, Nat.add_comm 1 j]
      simpa using this
    show cellsO ob (r.length + 1) off = _
    unfold cellsO
    rw [Nat.add_zero] at h0
    rw [h0, ih]
    rfl
def cJoin : ConD := fun args h K => ∃ v ps, args = [v, S [47]] ∧ Rd h 1 v (strE ps) ∧ (joinP ps).length ≤ 1000000000 ∧ K (S (joinP ps)) h
theorem cJoin_go {cf : CallK} {g : FuncId} (hg : cf g = cJoin) {v : AV} {ps : List (List UInt8)} {h : Hp} {K : AV → Hp → Prop} (hr : Rd h 1 v (strE ps)) (hl : (joinP ps).length ≤ 1000000000) (hK : K (S (joinP ps)) h) : cf g [v, S [47]] h K := by rw [hg]; exact ⟨v, ps, rfl, hr, hl, hK⟩
def cJoinZ : ConD := fun args h K => ∃ o, args = [.sliceZ o, S [47]] ∧ K (S []) h
theorem joinZ_run (cf : CallK) (fuel : Nat) {h : Hp} {K : AV → Hp → Prop} (o : Nat) (hK : K (S []) h) : s_strings_Join cf fuel (.sliceZ o) (S [47]) h K := by
  unfold s_strings_Join
  (try unfold vMov); repeat' (first | refine Step.imp ?_ | (refine Way.mk (fun hp => ?_) (fun hp => ?_) <;> first | contradiction | (exfalso; omega) | skip) | refine LoadG.mkG ?_ | refine LoadsG.mkG ?_ | refine AtG.mkG ?_ | refine StoreG.mkG ?_ | refine CondG.mkG ?_ | fail); (all_goals (try dsimp only))
  all_goals first
    | exact hK
    | (exfalso; omega)
theorem join_one {P : Program} {B : Nat} {w0 : W0} {f : FuncId} (h1 : ConOne P B w0 f strJoinK) (h2 : ConOne P B w0 f cJoinZ) : ConOne P B w0 f cJoin := by
  rintro avs h K ⟨v, ps, rfl, hr, hl, hK⟩
  rcases hr with ⟨rfl, he⟩ | ⟨o, rfl, he⟩ | ⟨o, off, kn, c, e, rfl, hlt, hat, hb, hc⟩
  · have : ps = [] := by simpa [strE] using he
    subst this
    exact h1 [.nilslice, S [47]] h K hK
  · have : ps = [] := by simpa [strE] using he
    subst this
    exact h2 [.sliceZ o, S [47]] h K ⟨o, rfl, hK⟩
  · refine h1 _ h K ?_
    rw [strE_len] at hb ⊢
    show asOpt (h.at o) fun e => cellsK e.obj ps.length off fun l => strsK l fun xs => gd (Nat.ble ps.length 140737488355328 && Nat.ble (joinN 1 47 xs).1 140737488355328) (forceN (joinN 1 47 xs).1 fun N => forceN (joinN 1 47 xs).2 fun X => K (.str N X) h)
    rw [hat, asOpt_some, cellsK_O]
    have hcs : cellsO e.obj ps.length off = some (ps.map S) := by
      have := cellsO_of (ob := e.obj) (ps.map S) off fun j hj => by
        rw [List.length_map] at hj
        have := hc j (by rw [strE_len]; exact hj)
        rw [strE_at, Nat.mul_one] at this
        rw [cellsO_one this, List.getElem?_map, List.getElem?_eq_getElem hj]
        rfl
      rwa [List.length_map] at this
    rw [hcs, asOpt_some]
    refine strsK_S ps _ ?_
    rw [joinN_S]
    refine gd_iff.2 ⟨?_, ?_⟩
    · simp only [Bool.and_eq_true, Nat.ble_eq]
      exact ⟨by omega, by show (joinP ps).length ≤ _; omega⟩
    · rw [forceN_eq, forceN_eq]
      exact hK
def cPJoin : ConD := fun args h K => ∃ v ps, args = [v] ∧ Rd h 1 v (strE ps) ∧ (joinP ps).length ≤ 1000000000 ∧ K (S (joinF ps)) h
theorem cPJoin_go {cf : CallK} {g : FuncId} (hg : cf g = cPJoin) {v : AV} {ps : List (List UInt8)} {h : Hp} {K : AV → Hp → Prop} (hr : Rd h 1 v (strE ps)) (hl : (joinP ps).length ≤ 1000000000) (hK : K (S (joinF ps)) h) : cf g [v] h K := by rw [hg]; exact ⟨v, ps, rfl, hr, hl, hK⟩
def freshF (q : List (List UInt8)) : Int := if q.length = 0 then 17 else nameE (nmAt q (q.length - 1))
def cFresh : ConD := fun args h K => ∃ v q, args = [v] ∧ Rd h 1 v (strE q) ∧ NmsB q ∧ K (I (freshF q)) h
theorem cFresh_go {cf : CallK} {g : FuncId} (hg : cf g = cFresh) {v : AV} {q : List (List UInt8)} {h : Hp} {K : AV → Hp → Prop} (hr : Rd h 1 v (strE q)) (hb : NmsB q) (hK : K (I (freshF q)) h) : cf g [v] h K := by rw [hg]; exact ⟨v, q, rfl, hr, hb, hK⟩
def cEqS : ConD := fun args h K => ∃ v1 v2 p q, args = [v1, v2] ∧ Rd h 1 v1 (strE p) ∧ Rd h 1 v2 (strE q) ∧ p.length ≤ 1000000 ∧ K (.bool (decide (p = q))) h
theorem cEqS_go {cf : CallK} {g : FuncId} (hg : cf g = cEqS) {v1 v2 : AV} {p q : List (List UInt8)} {h : Hp} {K : AV → Hp → Prop} (h1 : Rd h 1 v1 (strE p)) (h2 : Rd h 1 v2 (strE q)) (hl : p.length ≤ 1000000) (hK : K (.bool (decide (p = q))) h) : cf g [v1, v2] h K := by rw [hg]; exact ⟨v1, v2, p, q, rfl, h1, h2, hl, hK⟩
def aboveF (p q : List (List UInt8)) : Bool := decide (p.length < q.length) && decide (p = q.take p.length)
def cAbove : ConD := fun args h K => ∃ v1 v2 p q, args = [v1, v2] ∧ Rd h 1 v1 (strE p) ∧ Rd h 1 v2 (strE q) ∧ p.length ≤ 1000000 ∧ K (.bool (aboveF p q)) h
theorem cAbove_go {cf : CallK} {g : FuncId} (hg : cf g = cAbove) {v1 v2 : AV} {p q : List (List UInt8)} {h : Hp} {K : AV → Hp → Prop} (h1 : Rd h 1 v1 (strE p)) (h2 : Rd h 1 v2 (strE q)) (hl : p.length ≤ 1000000) (hK : K (.bool (aboveF p q)) h) : cf g [v1, v2] h K := by rw [hg]; exact ⟨v1, v2, p, q, rfl, h1, h2, hl, hK⟩
theorem rdCell {h : Hp} {v : AV} {p : List (List UInt8)} (hr : Rd h 1 v (strE p)) {i : Nat} (hi : i < p.length) : ∃ o off kn c e, v = .slice o off p.length kn c ∧ h.at o = some e ∧ cellAt e.obj (off + i * 1) = some (S p[i]) := by
  obtain ⟨o, off, kn, c, en, rfl, hat, hc⟩ := hr.openS (i := i) (by rw [strE_len]; exact hi)
  have q := hc i (by rw [strE_len]; exact hi)
  rw [strE_at] at q
  exact ⟨o, off, kn, c, en, by rw [strE_len], hat, cellsO_one q⟩
section
variable (cf : CallK) (fuel : Nat) {h : Hp} {K : AV → Hp → Prop}
theorem pathJoin_run (hJ : cf 38 = cJoin) {v : AV} {ps : List (List UInt8)} (hr : Rd h 1 v (strE ps)) (hl : (joinP ps).length ≤ 1000000000) (hK : K (S (joinF ps)) h) : s_path_Join cf fuel v h K := by
  unfold s_path_Join
  rw [S_47]
  refine cJoin_go hJ hr hl ?_
  (try unfold vMov); repeat' (first | refine Step.imp ?_ | (refine Way.mk (fun hp => ?_) (fun hp => ?_) <;> first | contradiction | (exfalso; omega) | skip) | refine LoadG.mkG ?_ | refine LoadsG.mkG ?_ | refine AtG.mkG ?_ | refine StoreG.mkG ?_ | refine CondG.mkG ?_ | fail); (all_goals (try dsimp only))
  rw [joinF_eq]
  exact hK
theorem tailP_len (p : List (List UInt8)) : (tailP p).length ≤ (joinP p).length + 1 := by
  cases p with
  | nil => simp [tailP]
  | cons a r => show (47 :: (a ++ tailP r)).length ≤ (a ++ tailP r).length + 1; simp
theorem tailP_snoc : ∀ (p : List (List UInt8)) (i : Nat) (hi : i < p.length), tailP (p.take i) ++ ([47] ++ p[i]) = tailP (p.take (i + 1))
  | [], i, hi => by simp at hi
  | x :: r, 0, hi => by simp [tailP]
  | x :: r, i + 1, hi => by
    have hi' : i < r.length := by simpa using hi
    have ih := tailP_snoc r i hi'
    show 47 :: (x ++ tailP (r.take i)) ++ ([47] ++ r[i]) = 47 :: (x ++ tailP (r.take (i + 1)))
    rw [← ih]
    simp
theorem tailP_app : ∀ (p q : List (List UInt8)), tailP (p ++ q) = tailP p ++ tailP q
  | [], q => rfl
  | x :: r, q => by
    show 47 :: (x ++ tailP (r ++ q)) = 47 :: (x ++ tailP r) ++ tailP q
    rw [tailP_app r q]
    simp
theorem tailP_take (p : List (List UInt8)) (i : Nat) : (tailP (p.take i)).length ≤ (tailP p).length := by
  have : tailP p = tailP (p.take i) ++ tailP (p.drop i) := by rw [← tailP_app, List.take_append_drop]
  rw [this, List.length_append]
  omega
theorem refJoinL1_run {v : AV} {p : List (List UInt8)} (hr : Rd h 1 v (strE p)) (hl : (tailP p).length ≤ 2000000000) (e0 : AV → Hp → Prop) (he : e0 (S (tailP p)) h) :
    ∀ (d i fm : Nat), i + d = p.length → d < fm → s_lagoonref19_JoinL1 cf fuel e0 v fm (S (tailP (p.take i))) (I i) h
  | d, i, fm, hd, hm => by
    obtain ⟨fm, rfl⟩ : ∃ j, fm = j + 1 := ⟨fm - 1, by omega⟩
    rw [s_lagoonref19_JoinL1_succ]
    unfold s_lagoonref19_JoinL1B
    have e1 : ((i : Int) + 1) = ((i + 1 : Nat) : Int) := by omega
    by_cases hi : i < p.length
    · obtain ⟨d, rfl⟩ : ∃ j, d = j + 1 := ⟨d - 1, by omega⟩
      obtain ⟨o, off, kn, c, e, rfl, hat, hc⟩ := rdCell hr hi
      have hsn := tailP_snoc p i hi
      have ht := tailP_take p (i + 1)
      rw [← hsn, List.length_append, List.length_append] at ht
      have hb := Rd.bound hr
      rw [strE_len] at hb
      rw [S_47]
      (try unfold vMov); repeat' (first | refine Step.imp ?_ | (refine Way.mk (fun hp => ?_) (fun hp => ?_) <;> first | contradiction | (exfalso; omega) | skip) | refine LoadG.mkG ?_ | refine LoadsG.mkG ?_ | refine AtG.mkG ?_ | refine StoreG.mkG ?_ | refine CondG.mkG ?_ | (refine LoadG.mk2 hat hc (by omega) ?_) | (refine CondG.mk (by simp only [List.length_append]; omega) ?_) | fail); (all_goals (try dsimp only))
      rw [e1, hsn]
      exact refJoinL1_run hr hl e0 he d (i + 1) fm (by omega) (by omega)
    · have hd0 : d = 0 := by omega
      subst hd0
      rw [rdLen hr, strE_len, List.take_of_length_le (by omega)]
      (try unfold vMov); repeat' (first | refine Step.imp ?_ | (refine Way.mk (fun hp => ?_) (fun hp => ?_) <;> first | contradiction | (exfalso; omega) | skip) | refine LoadG.mkG ?_ | refine LoadsG.mkG ?_ | refine AtG.mkG ?_ | refine StoreG.mkG ?_ | refine CondG.mkG ?_ | fail); (all_goals (try dsimp only))
      all_goals first
        | exact he
        | (exfalso; omega)
theorem refJoin_run {v : AV} {p : List (List UInt8)} (hr : Rd h 1 v (strE p)) (hl : (joinP p).length ≤ 1000000000) (hf : p.length < fuel) (hK : K (S (joinF p)) h) : s_lagoonref19_Join cf fuel v h K := by
  unfold s_lagoonref19_Join
  have htl := tailP_len p
  rw [rdLen hr, strE_len, S_47, S_nil]
  unfold joinF at hK
  by_cases h0 : p = []
  · subst h0
    (try unfold vMov); repeat' (first | refine Step.imp ?_ | (refine Way.mk (fun hp => ?_) (fun hp => ?_) <;> first | contradiction | (exfalso; omega) | skip) | refine LoadG.mkG ?_ | refine LoadsG.mkG ?_ | refine AtG.mkG ?_ | refine StoreG.mkG ?_ | refine CondG.mkG ?_ | fail); (all_goals (try dsimp only))
    all_goals first
      | exact hK
      | (exfalso; simp at *; done)
  · rw [if_neg h0] at hK
    have hpos : 0 < p.length := List.length_pos_iff.2 h0
    (try unfold vMov); repeat' (first | refine Step.imp ?_ | (refine Way.mk (fun hp => ?_) (fun hp => ?_) <;> first | contradiction | (exfalso; omega) | skip) | refine LoadG.mkG ?_ | refine LoadsG.mkG ?_ | refine AtG.mkG ?_ | refine StoreG.mkG ?_ | refine CondG.mkG ?_ | fail); (all_goals (try dsimp only))
    all_goals first
      | (exfalso; omega)
      | skip
    exact refJoinL1_run cf fuel hr (by omega) _ hK p.length 0 fuel (Nat.zero_add _) hf
theorem fresh_end {v : AV} {q : List (List UInt8)} (hr : Rd h 1 v (strE q)) (hpos : q.length ≠ 0) : ∃ o off kn c e, v = .slice o off q.length kn c ∧ h.at o = some e ∧ cellAt e.obj (off + (q.length - 1) * 1) = some (S (nmAt q (q.length - 1))) := by
  obtain ⟨o, off, kn, c, e, w1, w2, w3⟩ := rdCell hr (i := q.length - 1) (by omega)
  refine ⟨o, off, kn, c, e, w1, w2, ?_⟩
  rw [w3]
  unfold nmAt
  rw [List.getD_eq_getElem?_getD, List.getElem?_eq_getElem (by omega)]
  rfl
theorem pathFresh_run (hN : cf 31 = cS nameE) {v : AV} {q : List (List UInt8)} (hr : Rd h 1 v (strE q)) (hb : NmsB q) (hK : K (I (freshF q)) h) : s_path_Fresh cf fuel v h K := by
  unfold s_path_Fresh
  unfold freshF at hK
  have hbd := Rd.bound hr
  rw [strE_len] at hbd
  by_cases h0 : q.length = 0
  · rw [if_pos h0] at hK
    rw [rdLen hr, strE_len]
    (try unfold vMov); repeat' (first | refine Step.imp ?_ | (refine Way.mk (fun hp => ?_) (fun hp => ?_) <;> first | contradiction | (exfalso; omega) | skip) | refine LoadG.mkG ?_ | refine LoadsG.mkG ?_ | refine AtG.mkG ?_ | refine StoreG.mkG ?_ | refine CondG.mkG ?_ | fail); (all_goals (try dsimp only))
    all_goals first
      | exact hK
      | (exfalso; omega)
  · rw [if_neg h0] at hK
    obtain ⟨o, off, kn, c, e, rfl, hat, hc⟩ := fresh_end hr h0
    have := nmsB_at hb (q.length - 1)
    (try unfold vMov); repeat' (first | refine Step.imp ?_ | (refine Way.mk (fun hp => ?_) (fun hp => ?_) <;> first | contradiction | (exfalso; omega) | skip) | refine LoadG.mkG ?_ | refine LoadsG.mkG ?_ | refine AtG.mkG ?_ | refine StoreG.mkG ?_ | refine CondG.mkG ?_ | (refine LoadG.mk2 hat hc (by omega) ?_) | (refine cS_go hN (by omega) ?_) | fail); (all_goals (try dsimp only))
    all_goals first
      | exact hK
      | (exfalso; omega)
theorem refFresh_run (hN : cf 11 = cS nameE) {v : AV} {q : List (List UInt8)} (hr : Rd h 1 v (strE q)) (hb : NmsB q) (hK : K (I (freshF q)) h) : s_lagoonref19_Fresh cf fuel v h K := by
  unfold s_lagoonref19_Fresh
  unfold freshF at hK
  have hbd := Rd.bound hr
  rw [strE_len] at hbd
  by_cases h0 : q.length = 0
  · rw [if_pos h0] at hK
    rw [rdLen hr, strE_len]
    (try unfold vMov); repeat' (first | refine Step.imp ?_ | (refine Way.mk (fun hp => ?_) (fun hp => ?_) <;> first | contradiction | (exfalso; omega) | skip) | refine LoadG.mkG ?_ | refine LoadsG.mkG ?_ | refine AtG.mkG ?_ | refine StoreG.mkG ?_ | refine CondG.mkG ?_ | fail); (all_goals (try dsimp only))
    all_goals first
      | exact hK
      | (exfalso; omega)
  · rw [if_neg h0] at hK
    obtain ⟨o, off, kn, c, e, rfl, hat, hc⟩ := fresh_end hr h0
    have := nmsB_at hb (q.length - 1)
    (try unfold vMov); repeat' (first | refine Step.imp ?_ | (refine Way.mk (fun hp => ?_) (fun hp => ?_) <;> first | contradiction | (exfalso; omega) | skip) | refine LoadG.mkG ?_ | refine LoadsG.mkG ?_ | refine AtG.mkG ?_ | refine StoreG.mkG ?_ | refine CondG.mkG ?_ | (refine LoadG.mk2 hat hc (by omega) ?_) | (refine cS_go hN (by omega) ?_) | fail); (all_goals (try dsimp only))
    all_goals first
      | exact hK
      | (exfalso; omega)
theorem equalL1_run {v1 v2 : AV} {p q : List (List UInt8)} (h1 : Rd h 1 v1 (strE p)) (h2 : Rd h 1 v2 (strE q)) (hl : p.length = q.length) (hs : p.length ≤ 1000000) (e0 : Hp → Prop) :
    ∀ (d i fm : Nat), i + d = p.length → d < fm → (p.drop i = q.drop i → e0 h) → (p.drop i ≠ q.drop i → K (.bool false) h) → s_slices_Equal_string_stringL1 cf fuel K e0 v1 v2 (I p.length) fm (I i) h
  | d, i, fm, hd, hm, he, hK => by
    obtain ⟨fm, rfl⟩ : ∃ j, fm = j + 1 := ⟨fm - 1, by omega⟩
    rw [s_slices_Equal_string_stringL1_succ]
    unfold s_slices_Equal_string_stringL1B
    have e1 : ((i : Int) + 1) = ((i + 1 : Nat) : Int) := by omega
    by_cases hi : i < p.length
    · obtain ⟨d, rfl⟩ : ∃ j, d = j + 1 := ⟨d - 1, by omega⟩
      obtain ⟨o, off, kn, c, e, rfl, hat, hc⟩ := rdCell h1 hi
      obtain ⟨o2, off2, kn2, c2, en2, rfl, hat2, hc2⟩ := rdCell h2 (i := i) (by omega)
      have d1 : p.drop i = p[i] :: p.drop (i + 1) := List.drop_eq_getElem_cons hi
      have d2 : q.drop i = q[i] :: q.drop (i + 1) := List.drop_eq_getElem_cons (by omega)
      rw [d1, d2] at he hK
      have ih := equalL1_run h1 h2 hl hs e0 d (i + 1) fm (by omega) (by omega)
      by_cases hx : p[i] = q[i]
      · have hh := ih (fun q9 => he (by rw [hx, q9])) (fun q9 => hK (fun q8 => q9 (List.cons.inj q8).2))
        (try unfold vMov); repeat' (first | refine Step.imp ?_ | (refine Way.mk (fun hp => ?_) (fun hp => ?_) <;> first | contradiction | (exfalso; omega) | skip) | refine LoadG.mkG ?_ | refine LoadsG.mkG ?_ | refine AtG.mkG ?_ | refine StoreG.mkG ?_ | refine CondG.mkG ?_ | (refine LoadG.mk2 hat hc (by omega) ?_) | (refine LoadG.mk2 hat2 hc2 (by omega) ?_) | fail); (all_goals (try dsimp only))
        all_goals first
          | (exfalso; exact absurd hx (by assumption))
          | skip
        rw [e1]
        exact hh
      · have hh := hK (fun q8 => hx (List.cons.inj q8).1)
        (try unfold vMov); repeat' (first | refine Step.imp ?_ | (refine Way.mk (fun hp => ?_) (fun hp => ?_) <;> first | contradiction | (exfalso; omega) | skip) | refine LoadG.mkG ?_ | refine LoadsG.mkG ?_ | refine AtG.mkG ?_ | refine StoreG.mkG ?_ | refine CondG.mkG ?_ | (refine LoadG.mk2 hat hc (by omega) ?_) | (refine LoadG.mk2 hat2 hc2 (by omega) ?_) | fail); (all_goals (try dsimp only))
        all_goals first
          | exact hh
          | (exfalso; exact absurd (by assumption) hx)
    · have hd0 : d = 0 := by omega
      subst hd0
      have a1 : p.drop i = [] := List.drop_eq_nil_of_le (by omega)
      have a2 : q.drop i = [] := List.drop_eq_nil_of_le (by omega)
      (try unfold vMov); repeat' (first | refine Step.imp ?_ | (refine Way.mk (fun hp => ?_) (fun hp => ?_) <;> first | contradiction | (exfalso; omega) | skip) | refine LoadG.mkG ?_ | refine LoadsG.mkG ?_ | refine AtG.mkG ?_ | refine StoreG.mkG ?_ | refine CondG.mkG ?_ | fail); (all_goals (try dsimp only))
      all_goals first
        | exact he (by rw [a1, a2])
        | (exfalso; omega)
theorem equal_run {v1 v2 : AV} {p q : List (List UInt8)} (h1 : Rd h 1 v1 (strE p)) (h2 : Rd h 1 v2 (strE q)) (hs : p.length ≤ 1000000) (hf : p.length < fuel) (hK : K (.bool (decide (p = q))) h) : s_slices_Equal_string_string cf fuel v1 v2 h K := by
  unfold s_slices_Equal_string_string
  rw [rdLen h1, strE_len]
  dsimp only
  rw [rdLen h2, strE_len]
  dsimp only
  by_cases hl : p.length = q.length
  · rw [← hl]
    (try unfold vMov); repeat' (first | refine Step.imp ?_ | (refine Way.mk (fun hp => ?_) (fun hp => ?_) <;> first | contradiction | (exfalso; omega) | skip) | refine LoadG.mkG ?_ | refine LoadsG.mkG ?_ | refine AtG.mkG ?_ | refine StoreG.mkG ?_ | refine CondG.mkG ?_ | ((rw [rdLen h1, strE_len])) | fail); (all_goals (try dsimp only))
    all_goals first
      | (exfalso; omega)
      | skip
    refine equalL1_run cf fuel h1 h2 hl hs _ p.length 0 fuel (Nat.zero_add _) hf (fun e => ?_) (fun e => ?_)
    · unfold s_slices_Equal_string_stringE0
      have : p = q := by simpa using e
      have e2 : decide (p = q) = true := by simp [this]
      rw [e2] at hK
      exact hK
    · have : ¬ p = q := fun e2 => e (by rw [e2])
      have e2 : decide (p = q) = false := by simp [this]
      rw [e2] at hK
      exact hK
  · have : ¬ p = q := fun e2 => hl (by rw [e2])
    have e2 : decide (p = q) = false := by simp [this]
    rw [e2] at hK
    (try unfold vMov); repeat' (first | refine Step.imp ?_ | (refine Way.mk (fun hp => ?_) (fun hp => ?_) <;> first | contradiction | (exfalso; omega) | skip) | refine LoadG.mkG ?_ | refine LoadsG.mkG ?_ | refine AtG.mkG ?_ | refine StoreG.mkG ?_ | refine CondG.mkG ?_ | fail); (all_goals (try dsimp only))
    all_goals first
      | exact hK
      | (exfalso; omega)
theorem above_run (hE : cf 39 = cEqS) {v1 v2 : AV} {p q : List (List UInt8)} (h1 : Rd h 1 v1 (strE p)) (h2 : Rd h 1 v2 (strE q)) (hs : p.length ≤ 1000000) (hK : K (.bool (aboveF p q)) h) : s_path_Above cf fuel v1 v2 h K := by
  unfold s_path_Above
  unfold aboveF at hK
  rw [rdLen h1, strE_len]
  dsimp only
  rw [rdLen h2, strE_len]
  dsimp only
  by_cases hl : p.length < q.length
  · have e : decide (p.length < q.length) = true := by simp [hl]
    rw [e, Bool.true_and] at hK
    (try unfold vMov); repeat' (first | refine Step.imp ?_ | (refine Way.mk (fun hp => ?_) (fun hp => ?_) <;> first | contradiction | (exfalso; omega) | skip) | refine LoadG.mkG ?_ | refine LoadsG.mkG ?_ | refine AtG.mkG ?_ | refine StoreG.mkG ?_ | refine CondG.mkG ?_ | ((rw [rdLen h1, strE_len])) | (refine cut_rd h2 p.length (by rw [strE_len]; omega) (fun v' hv' => ?_)) | fail); (all_goals (try dsimp only))
    all_goals first
      | (exfalso; omega)
      | skip
    have e3 : (strE q).take p.length = strE (q.take p.length) := by unfold strE; rw [List.map_take]
    rw [e3] at hv'
    refine cEqS_go hE h1 hv' hs ?_
    (try unfold vMov); repeat' (first | refine Step.imp ?_ | (refine Way.mk (fun hp => ?_) (fun hp => ?_) <;> first | contradiction | (exfalso; omega) | skip) | refine LoadG.mkG ?_ | refine LoadsG.mkG ?_ | refine AtG.mkG ?_ | refine StoreG.mkG ?_ | refine CondG.mkG ?_ | fail); (all_goals (try dsimp only))
    exact hK
  · have e : decide (p.length < q.length) = false := by simp [hl]
    rw [e, Bool.false_and] at hK
    (try unfold vMov); repeat' (first | refine Step.imp ?_ | (refine Way.mk (fun hp => ?_) (fun hp => ?_) <;> first | contradiction | (exfalso; omega) | skip) | refine LoadG.mkG ?_ | refine LoadsG.mkG ?_ | refine AtG.mkG ?_ | refine StoreG.mkG ?_ | refine CondG.mkG ?_ | fail); (all_goals (try dsimp only))
    all_goals first
      | exact hK
      | (exfalso; omega)
end
end Lg

namespace Lg
set_option linter.unusedSimpArgs false
set_option linter.unusedVariables false
set_option maxRecDepth 100000
open Go Go.Am Go.Lib
open Go.Proofs.YtnhamanffojhfaaDoor.shl
noncomputable def s_lagoonlaw19_PathParseC1 (cf : CallK) (fuel : Nat) (h : Hp) (K : AV → Hp → Prop) (t0 : AV) (t13 : AV) : AV → Hp → Prop := fun t1 h =>
cf 18 [t0] h fun t26 h =>
vExtract 0 t26 h fun t27 h =>
vExtract 1 t26 h fun t28 h =>
cf 19 [t0] h fun t31 h =>
vExtract 0 t31 h fun t32 h =>
vExtract 1 t31 h fun t33 h =>
vNeq t28 t33 h fun t36 h =>
joinG (fun g36 => grdV t36 false (vMov t27 h g36) (g36 undefV h)) fun t38 h =>
joinG (fun g35 => grdV t36 false (vLenL2 t38 h g35) (g35 undefV h)) fun t39 h =>
joinG (fun g34 => grdV t36 false (vMov t32 h g34) (g34 undefV h)) fun t40 h =>
joinG (fun g33 => grdV t36 false (vLenL2 t40 h g33) (g33 undefV h)) fun t41 h =>
joinG (fun g32 => grdV t36 false (vNeq t39 t41 h g32) (g32 undefV h)) fun t42 h =>
vPick t36 (.bool .true) t42 h fun t43 h =>
vIf t43 (
K (.bool .false) h) (
(fun (e2 : Hp → Prop) =>
s_lagoonlaw19_PathParseL30 cf fuel K (s_lagoonlaw19_PathParseE2 cf fuel K t0 t1 t13 t27 t28) t0 t1 t13 t27 t28 t32 fuel (.int .i64 0) h) (s_lagoonlaw19_PathParseE2 cf fuel K t0 t1 t13 t27 t28))
noncomputable def s_lagoonlaw19_PathParseC0 (cf : CallK) (fuel : Nat) (h : Hp) (K : AV → Hp → Prop) (t1 : AV) (t13 : AV) : AV → Hp → Prop := fun t0 h =>
(fun (j1 : AV → Hp → Prop) =>
vLenL2 t1 h fun t20 h =>
vGtr t20 (.int .i64 70) h fun t21 h =>
vIf t21 (
vSlice2 1 t1 none (some (.int .i64 70)) h fun t23 h =>
j1 t23 h) (
j1 t1 h)) (s_lagoonlaw19_PathParseC1 cf fuel h K t0 t13)
theorem s_lagoonlaw19_PathParse_cut (cf : CallK) (fuel : Nat) (t0 : AV) (t1 : AV) (h : Hp) (K : AV → Hp → Prop)   : s_lagoonlaw19_PathParse cf fuel t0 t1 h K = (
cf 17 [] h fun t13 h =>
(fun (j0 : AV → Hp → Prop) =>
vLenS t0 h fun t15 h =>
vGtr t15 (.int .i64 1100) h fun t16 h =>
vIf t16 (
vSliceS t0 none (some (.int .i64 1100)) h fun t18 h =>
j0 t18 h) (
j0 t0 h)) (s_lagoonlaw19_PathParseC0 cf fuel h K t1 t13)) := by kernel_rfl

def abI (p q : List (List UInt8)) (i : Nat) : Bool := decide (p.length < q.length) && decide (p.take i = q.take i)
theorem abI_end (p q : List (List UInt8)) : abI p q p.length = aboveF p q := by
  unfold abI aboveF
  rw [List.take_length]
theorem abI_no {p q : List (List UInt8)} {i : Nat} (hi : i ≤ p.length) (h : abI p q i = false) : aboveF p q = false := by
  unfold abI at h
  unfold aboveF
  rw [Bool.and_eq_false_iff] at h ⊢
  rcases h with h | h
  · exact .inl h
  · refine .inr ?_
    have h := of_decide_eq_false h
    refine decide_eq_false fun e => h ?_
    have : p.take i = (q.take p.length).take i := by rw [← e]
    rw [this, List.take_take, Nat.min_eq_left hi]
theorem abI_succ {p q : List (List UInt8)} {i : Nat} (hi : i < p.length) (hq : i < q.length) (h : abI p q i = true) : abI p q (i + 1) = decide (p[i] = q[i]) := by
  unfold abI at h ⊢
  rw [Bool.and_eq_true, decide_eq_true_eq, decide_eq_true_eq] at h
  obtain ⟨h1, h2⟩ := h
  have : decide (p.length < q.length) = true := by simp [h1]
  rw [this, Bool.true_and, List.take_succ_eq_append_getElem hi, List.take_succ_eq_append_getElem hq, h2]
  simp only [List.append_cancel_left_eq, List.cons.injEq, and_true]
section
variable (cf : CallK) (fuel : Nat) {h : Hp} {K : AV → Hp → Prop}
theorem lawL30_run (t0 t1 t5 t7 : AV) {v1 v2 : AV} {p : List (List UInt8)} (h1 : Rd h 1 v1 (strE p)) (h2 : Rd h 1 v2 (strE p)) (hs : p.length ≤ 1000000) (e2 : Hp → Prop) (he : e2 h) :
    ∀ (d i fm : Nat), i + d = p.length → d < fm → s_lagoonlaw19_PathParseL30 cf fuel K e2 t0 t1 t5 v1 t7 v2 fm (I i) h
  | d, i, fm, hd, hm => by
    obtain ⟨fm, rfl⟩ : ∃ j, fm = j + 1 := ⟨fm - 1, by omega⟩
    rw [s_lagoonlaw19_PathParseL30_succ]
    unfold s_lagoonlaw19_PathParseL30B
    have e1 : ((i : Int) + 1) = ((i + 1 : Nat) : Int) := by omega
    by_cases hi : i < p.length
    · obtain ⟨d, rfl⟩ : ∃ j, d = j + 1 := ⟨d - 1, by omega⟩
      have ih := lawL30_run t0 t1 t5 t7 h1 h2 hs e2 he d (i + 1) fm (by omega) (by omega)
      obtain ⟨o, off, kn, c, e, rfl, hat, hc⟩ := rdCell h1 hi
      obtain ⟨o2, off2, kn2, c2, en2, rfl, hat2, hc2⟩ := rdCell h2 hi
      (try unfold vMov); repeat' (first | refine Step.imp ?_ | (refine Way.mk (fun hp => ?_) (fun hp => ?_) <;> first | contradiction | (exfalso; omega) | skip) | refine LoadG.mkG ?_ | refine LoadsG.mkG ?_ | refine AtG.mkG ?_ | refine StoreG.mkG ?_ | refine CondG.mkG ?_ | (refine LoadG.mk2 hat hc (by omega) ?_) | (refine LoadG.mk2 hat2 hc2 (by omega) ?_) | fail); (all_goals (try dsimp only))
      all_goals first
        | contradiction
        | skip
      rw [e1]
      exact ih
    · have hd0 : d = 0 := by omega
      subst hd0
      rw [rdLen h1, strE_len]
      (try unfold vMov); repeat' (first | refine Step.imp ?_ | (refine Way.mk (fun hp => ?_) (fun hp => ?_) <;> first | contradiction | (exfalso; omega) | skip) | refine LoadG.mkG ?_ | refine LoadsG.mkG ?_ | refine AtG.mkG ?_ | refine StoreG.mkG ?_ | refine CondG.mkG ?_ | fail); (all_goals (try dsimp only))
      all_goals first
        | exact he
        | (exfalso; omega)
theorem lawL27_run (t0 t5 t7 : AV) {v1 vq : AV} {p q : List (List UInt8)} (h1 : Rd h 1 v1 (strE p)) (h2 : Rd h 1 vq (strE q)) (hs : p.length ≤ 1000000) (e3 : AV → Hp → Prop) (he : e3 (.bool (aboveF p q)) h) :
    ∀ (d i fm : Nat), i + d = p.length → d < fm → s_lagoonlaw19_PathParseL27 cf fuel e3 t0 vq t5 v1 t7 fm (.bool (abI p q i)) (I i) h
  | d, i, fm, hd, hm => by
    obtain ⟨fm, rfl⟩ : ∃ j, fm = j + 1 := ⟨fm - 1, by omega⟩
    rw [s_lagoonlaw19_PathParseL27_succ]
    unfold s_lagoonlaw19_PathParseL27B
    have e1 : ((i : Int) + 1) = ((i + 1 : Nat) : Int) := by omega
    cases hb : abI p q i with
    | false =>
      rw [abI_no (by omega) hb] at he
      rw [rdLen h1, strE_len]
      (try unfold vMov); repeat' (first | refine Step.imp ?_ | (refine Way.mk (fun hp => ?_) (fun hp => ?_) <;> first | contradiction | (exfalso; omega) | skip) | refine LoadG.mkG ?_ | refine LoadsG.mkG ?_ | refine AtG.mkG ?_ | refine StoreG.mkG ?_ | refine CondG.mkG ?_ | fail); (all_goals (try dsimp only))
      all_goals exact he
    | true =>
      by_cases hi : i < p.length
      · obtain ⟨d, rfl⟩ : ∃ j, d = j + 1 := ⟨d - 1, by omega⟩
        have hpq : p.length < q.length := by
          unfold abI at hb
          rw [Bool.and_eq_true, decide_eq_true_eq] at hb
          exact hb.1
        have hi2 : i < q.length := by omega
        have ih := lawL27_run t0 t5 t7 h1 h2 hs e3 he d (i + 1) fm (by omega) (by omega)
        rw [abI_succ hi hi2 hb] at ih
        obtain ⟨o, off, kn, c, e, rfl, hat, hc⟩ := rdCell h1 hi
        obtain ⟨o2, off2, kn2, c2, en2, rfl, hat2, hc2⟩ := rdCell h2 hi2
        by_cases hx : p[i] = q[i]
        · have : decide (p[i] = q[i]) = true := by simp [hx]
          rw [this] at ih
          (try unfold vMov); repeat' (first | refine Step.imp ?_ | (refine Way.mk (fun hp => ?_) (fun hp => ?_) <;> first | contradiction | (exfalso; omega) | skip) | refine LoadG.mkG ?_ | refine LoadsG.mkG ?_ | refine AtG.mkG ?_ | refine StoreG.mkG ?_ | refine CondG.mkG ?_ | (refine LoadG.mk2 hat hc (by omega) ?_) | (refine LoadG.mk2 hat2 hc2 (by omega) ?_) | fail); (all_goals (try dsimp only))
          all_goals first
            | (exfalso; exact absurd hx (by assumption))
            | skip
          rw [e1]
          exact ih
        · have : decide (p[i] = q[i]) = false := by simp [hx]
          rw [this] at ih
          (try unfold vMov); repeat' (first | refine Step.imp ?_ | (refine Way.mk (fun hp => ?_) (fun hp => ?_) <;> first | contradiction | (exfalso; omega) | skip) | refine LoadG.mkG ?_ | refine LoadsG.mkG ?_ | refine AtG.mkG ?_ | refine StoreG.mkG ?_ | refine CondG.mkG ?_ | (refine LoadG.mk2 hat hc (by omega) ?_) | (refine LoadG.mk2 hat2 hc2 (by omega) ?_) | fail); (all_goals (try dsimp only))
          all_goals first
            | (exfalso; exact absurd (by assumption) hx)
            | skip
          rw [e1]
          exact ih
      · have hd0 : d = 0 := by omega
        subst hd0
        have : i = p.length := by omega
        subst this
        rw [abI_end] at hb
        rw [hb] at he
        rw [rdLen h1, strE_len]
        (try unfold vMov); repeat' (first | refine Step.imp ?_ | (refine Way.mk (fun hp => ?_) (fun hp => ?_) <;> first | contradiction | (exfalso; omega) | skip) | refine LoadG.mkG ?_ | refine LoadsG.mkG ?_ | refine AtG.mkG ?_ | refine StoreG.mkG ?_ | refine CondG.mkG ?_ | fail); (all_goals (try dsimp only))
        all_goals first
          | exact he
          | (exfalso; omega)
theorem lawC1_run (hP : cf 18 = cPar) (hR : cf 19 = cPar) (hJ : cf 20 = cPJoin) (hJ2 : cf 21 = cPJoin) (hF : cf 22 = cFresh) (hF2 : cf 23 = cFresh) (hA : cf 24 = cAbove)
    {s : List UInt8} (hs : s.length ≤ 2000) {vq : AV} {q : List (List UInt8)} (hq : Rd h 1 vq (strE q)) (hb : NmsB q) (hl : (joinP q).length ≤ 1000000000) (hf : 3000 < fuel) (hK : ∀ h', K (.bool true) h') (hx : Hp) : s_lagoonlaw19_PathParseC1 cf fuel hx K (S s) (.bool true) vq h := by
  unfold s_lagoonlaw19_PathParseC1
  refine cPar_go hP hs (fun v1 h1 x1 r1 => ?_)
  (try unfold vMov); repeat' (first | refine Step.imp ?_ | (refine Way.mk (fun hp => ?_) (fun hp => ?_) <;> first | contradiction | (exfalso; omega) | skip) | refine LoadG.mkG ?_ | refine LoadsG.mkG ?_ | refine AtG.mkG ?_ | refine StoreG.mkG ?_ | refine CondG.mkG ?_ | fail); (all_goals (try dsimp only))
  refine cPar_go hR hs (fun v2 h2 x2 r2 => ?_)
  have r1' := r1.mono x2
  have hq2 := (hq.mono x1).mono x2
  have hpl : (parseF s).1.length ≤ 2001 := by
    unfold parseF
    split
    · split
      · simp
      · split
        · have := piecesF_len s; dsimp only; omega
        · simp
    · simp
  have hjl : (joinP (parseF s).1).length ≤ 2001 ∨ (parseF s).2 ≠ 0 := by
    by_cases h0 : (parseF s).2 = 0
    · have := parse_join h0
      have e := joinF_eq (parseF s).1
      rw [this] at e
      have := congrArg List.length e
      rw [List.length_append, List.length_singleton] at this
      exact .inl (by omega)
    · exact .inr h0
  have hpj := @parse_join s
  generalize parseF s = r at *
  obtain ⟨p, e⟩ := r
  dsimp only at *
  (try unfold vMov); repeat' (first | refine Step.imp ?_ | (refine Way.mk (fun hp => ?_) (fun hp => ?_) <;> first | contradiction | (exfalso; omega) | skip) | refine LoadG.mkG ?_ | refine LoadsG.mkG ?_ | refine AtG.mkG ?_ | refine StoreG.mkG ?_ | refine CondG.mkG ?_ | ((rw [rdLen r1', strE_len])) | ((rw [rdLen r2, strE_len])) | fail); (all_goals (try dsimp only))
  all_goals first
    | contradiction
    | skip
  refine lawL30_run cf fuel _ _ _ _ r1' r2 (by omega) _ ?_ p.length 0 fuel (Nat.zero_add _) (by omega)
  unfold s_lagoonlaw19_PathParseE2
  have fin : ∀ h', h' = h2 → s_lagoonlaw19_PathParseE3 cf fuel K (S s) vq (.bool true) v1 (I e) (.bool (aboveF p q)) h' := fun h' eh => by
    subst eh
    unfold s_lagoonlaw19_PathParseE3
    (try unfold vMov); repeat' (first | refine Step.imp ?_ | (refine Way.mk (fun hp => ?_) (fun hp => ?_) <;> first | contradiction | (exfalso; omega) | skip) | refine LoadG.mkG ?_ | refine LoadsG.mkG ?_ | refine AtG.mkG ?_ | refine StoreG.mkG ?_ | refine CondG.mkG ?_ | fail); (all_goals (try dsimp only))
    all_goals (try (refine cPJoin_go hJ r1' (by omega) ?_))
    all_goals (try (try unfold vMov); repeat' (first | refine Step.imp ?_ | (refine Way.mk (fun hp => ?_) (fun hp => ?_) <;> first | contradiction | (exfalso; omega) | skip) | refine LoadG.mkG ?_ | refine LoadsG.mkG ?_ | refine AtG.mkG ?_ | refine StoreG.mkG ?_ | refine CondG.mkG ?_ | fail); (all_goals (try dsimp only)))
    all_goals (try (refine cPJoin_go hJ hq2 hl ?_))
    all_goals (try (try unfold vMov); repeat' (first | refine Step.imp ?_ | (refine Way.mk (fun hp => ?_) (fun hp => ?_) <;> first | contradiction | (exfalso; omega) | skip) | refine LoadG.mkG ?_ | refine LoadsG.mkG ?_ | refine AtG.mkG ?_ | refine StoreG.mkG ?_ | refine CondG.mkG ?_ | fail); (all_goals (try dsimp only)))
    all_goals (try (refine cPJoin_go hJ2 hq2 hl ?_))
    all_goals (try (try unfold vMov); repeat' (first | refine Step.imp ?_ | (refine Way.mk (fun hp => ?_) (fun hp => ?_) <;> first | contradiction | (exfalso; omega) | skip) | refine LoadG.mkG ?_ | refine LoadsG.mkG ?_ | refine AtG.mkG ?_ | refine StoreG.mkG ?_ | refine CondG.mkG ?_ | fail); (all_goals (try dsimp only)))
    all_goals (try (refine cFresh_go hF hq2 hb ?_))
    all_goals (try (try unfold vMov); repeat' (first | refine Step.imp ?_ | (refine Way.mk (fun hp => ?_) (fun hp => ?_) <;> first | contradiction | (exfalso; omega) | skip) | refine LoadG.mkG ?_ | refine LoadsG.mkG ?_ | refine AtG.mkG ?_ | refine StoreG.mkG ?_ | refine CondG.mkG ?_ | fail); (all_goals (try dsimp only)))
    all_goals (try (refine cFresh_go hF2 hq2 hb ?_))
    all_goals (try (try unfold vMov); repeat' (first | refine Step.imp ?_ | (refine Way.mk (fun hp => ?_) (fun hp => ?_) <;> first | contradiction | (exfalso; omega) | skip) | refine LoadG.mkG ?_ | refine LoadsG.mkG ?_ | refine AtG.mkG ?_ | refine StoreG.mkG ?_ | refine CondG.mkG ?_ | fail); (all_goals (try dsimp only)))
    all_goals (try (refine cAbove_go hA r1' hq2 (by omega) ?_))
    all_goals (try (try unfold vMov); repeat' (first | refine Step.imp ?_ | (refine Way.mk (fun hp => ?_) (fun hp => ?_) <;> first | contradiction | (exfalso; omega) | skip) | refine LoadG.mkG ?_ | refine LoadsG.mkG ?_ | refine AtG.mkG ?_ | refine StoreG.mkG ?_ | refine CondG.mkG ?_ | fail); (all_goals (try dsimp only)))
    all_goals first
      | exact hK _
      | (exfalso; simp_all; done)
  have hfr : abI p q 0 = decide (p.length < q.length) := by unfold abI; simp
  have l27 := lawL27_run cf fuel (S s) (.bool true) (I e) r1' hq2 (by omega) (s_lagoonlaw19_PathParseE3 cf fuel K (S s) vq (.bool true) v1 (I e)) (fin h2 rfl) p.length 0 fuel (Nat.zero_add _) (by omega)
  rw [hfr] at l27
  rw [rdLen r1', strE_len]
  dsimp only
  rw [rdLen hq2, strE_len]
  by_cases hpq : p.length < q.length
  · rw [decide_eq_true hpq] at l27
    (try unfold vMov); repeat' (first | refine Step.imp ?_ | (refine Way.mk (fun hp => ?_) (fun hp => ?_) <;> first | contradiction | (exfalso; omega) | skip) | refine LoadG.mkG ?_ | refine LoadsG.mkG ?_ | refine AtG.mkG ?_ | refine StoreG.mkG ?_ | refine CondG.mkG ?_ | fail); (all_goals (try dsimp only))
    all_goals first
      | exact l27
      | (exfalso; omega)
  · rw [decide_eq_false hpq] at l27
    (try unfold vMov); repeat' (first | refine Step.imp ?_ | (refine Way.mk (fun hp => ?_) (fun hp => ?_) <;> first | contradiction | (exfalso; omega) | skip) | refine LoadG.mkG ?_ | refine LoadsG.mkG ?_ | refine AtG.mkG ?_ | refine StoreG.mkG ?_ | refine CondG.mkG ?_ | fail); (all_goals (try dsimp only))
    all_goals first
      | exact l27
      | (exfalso; omega)
theorem joinP_take (q : List (List UInt8)) (i : Nat) : (joinP (q.take i)).length ≤ (joinP q).length := by
  cases q with
  | nil => simp
  | cons a r =>
    cases i with
    | zero => simp [joinP]
    | succ i =>
      show (a ++ tailP (r.take i)).length ≤ (a ++ tailP r).length
      have := tailP_take r i
      simp only [List.length_append]
      omega
theorem lawC0_run (hP : cf 18 = cPar) (hR : cf 19 = cPar) (hJ : cf 20 = cPJoin) (hJ2 : cf 21 = cPJoin) (hF : cf 22 = cFresh) (hF2 : cf 23 = cFresh) (hA : cf 24 = cAbove)
    {s : List UInt8} (hs : s.length ≤ 2000) {vq : AV} {q : List (List UInt8)} (hq : Rd h 1 vq (strE q)) (hb : NmsB q) (hl : (joinP q).length ≤ 1000000000) (hf : 3000 < fuel) (hK : ∀ h', K (.bool true) h') (hx : Hp) : s_lagoonlaw19_PathParseC0 cf fuel hx K vq (.bool true) (S s) h := by
  unfold s_lagoonlaw19_PathParseC0
  have J : ∀ v' (q' : List (List UInt8)), Rd h 1 v' (strE q') → NmsB q' → (joinP q').length ≤ 1000000000 → s_lagoonlaw19_PathParseC1 cf fuel h K (S s) (.bool true) v' h := fun v' q' a b c => lawC1_run cf fuel hP hR hJ hJ2 hF hF2 hA hs a b c hf hK h
  dsimp only
  generalize s_lagoonlaw19_PathParseC1 cf fuel h K (S s) (.bool true) = JJ at *
  by_cases h70 : 70 < q.length
  · rw [rdLen hq, strE_len]
    (try unfold vMov); repeat' (first | refine Step.imp ?_ | (refine Way.mk (fun hp => ?_) (fun hp => ?_) <;> first | contradiction | (exfalso; omega) | skip) | refine LoadG.mkG ?_ | refine LoadsG.mkG ?_ | refine AtG.mkG ?_ | refine StoreG.mkG ?_ | refine CondG.mkG ?_ | (refine cut_rd hq 70 (by rw [strE_len]; omega) (fun v' hv' => ?_)) | fail); (all_goals (try dsimp only))
    all_goals first
      | (exfalso; omega)
      | skip
    have e3 : (strE q).take 70 = strE (q.take 70) := by unfold strE; rw [List.map_take]
    rw [e3] at hv'
    have := joinP_take q 70
    exact J v' _ hv' (fun x hx => hb x (List.mem_of_mem_take hx)) (by omega)
  · rw [rdLen hq, strE_len]
    (try unfold vMov); repeat' (first | refine Step.imp ?_ | (refine Way.mk (fun hp => ?_) (fun hp => ?_) <;> first | contradiction | (exfalso; omega) | skip) | refine LoadG.mkG ?_ | refine LoadsG.mkG ?_ | refine AtG.mkG ?_ | refine StoreG.mkG ?_ | refine CondG.mkG ?_ | fail); (all_goals (try dsimp only))
    all_goals first
      | exact J _ _ hq hb hl
      | (exfalso; omega)
def cBegX : ConD := fun args h K => args = [] ∧ ∀ h', Ext h h' → K (.bool true) h'
theorem parse_ab : parseF [47, 97, 47, 98] = ([[97], [98]], 0) := by kernel_rfl
theorem above_ab : aboveF [[97]] [[97], [98]] = true := by kernel_rfl
theorem fresh_ab : freshF [[97], [98]] = 0 := by kernel_rfl
theorem S_ab : AV.str 4 1647272239 = S [47, 97, 47, 98] := rfl
theorem S_b : AV.str 1 98 = S [98] := rfl
theorem begun_run (hP : cf 18 = cPar) (hJ : cf 20 = cPJoin) (hF : cf 22 = cFresh) (hA : cf 24 = cAbove) (hK : ∀ h', Ext h h' → K (.bool true) h') : s_lagoonlaw19_begun cf fuel h K := by
  unfold s_lagoonlaw19_begun
  rw [S_ab, S_b]
  refine cPar_go hP (by simp) (fun v h1 x1 r1 => ?_)
  rw [parse_ab] at r1 ⊢
  dsimp only at r1 ⊢
  have hjl : (joinP [[97], [98]]).length ≤ 1000000000 := by simp [joinP, tailP]
  have hjf : joinF [[97], [98]] = [47, 97, 47, 98] := rfl
  have hnb : NmsB [[97], [98]] := fun s hs => by
    simp at hs
    rcases hs with rfl | rfl <;> simp
  obtain ⟨o, off, kn, c, e, rfl, hat, hc⟩ := rdCell r1 (i := 1) (by simp)
  have hlen : ∀ h', vLenL2 (.slice o off ([[97], [98]] : List (List UInt8)).length kn c) h' = fun K' : AV → Hp → Prop => K' (I 2) h' := fun h' => rfl
  have hc' : cellAt e.obj (off + 1 * 1) = some (S [98]) := hc
  (try unfold vMov); repeat' (first | refine Step.imp ?_ | (refine Way.mk (fun hp => ?_) (fun hp => ?_) <;> first | contradiction | (exfalso; omega) | skip) | refine LoadG.mkG ?_ | refine LoadsG.mkG ?_ | refine AtG.mkG ?_ | refine StoreG.mkG ?_ | refine CondG.mkG ?_ | ((rw [hlen])) | (refine LoadG.mk2 hat hc' (by omega) ?_) | ((refine cPJoin_go hJ r1 hjl ?_; rw [hjf])) | (refine cut_rd r1 1 (by simp [strE]) (fun v' hv' => ?_)) | fail); (all_goals (try dsimp only))
  all_goals first
    | contradiction
    | (exfalso; omega)
    | skip
  have hv2 : Rd h1 1 v' (strE [[97]]) := hv'
  refine cAbove_go hA hv2 r1 (by simp) ?_
  rw [above_ab]
  (try unfold vMov); repeat' (first | refine Step.imp ?_ | (refine Way.mk (fun hp => ?_) (fun hp => ?_) <;> first | contradiction | (exfalso; omega) | skip) | refine LoadG.mkG ?_ | refine LoadsG.mkG ?_ | refine AtG.mkG ?_ | refine StoreG.mkG ?_ | refine CondG.mkG ?_ | ((refine cFresh_go hF r1 hnb ?_; rw [fresh_ab])) | fail); (all_goals (try dsimp only))
  all_goals first
    | exact hK _ x1
    | contradiction
    | (exfalso; omega)
theorem lawPath_run (hBg : cf 17 = cBegX) (hP : cf 18 = cPar) (hR : cf 19 = cPar) (hJ : cf 20 = cPJoin) (hJ2 : cf 21 = cPJoin) (hF : cf 22 = cFresh) (hF2 : cf 23 = cFresh) (hA : cf 24 = cAbove)
    {s : List UInt8} {vq : AV} {q : List (List UInt8)} (hq : Rd h 1 vq (strE q)) (hb : NmsB q) (hl : (joinP q).length ≤ 1000000000) (hf : 3000 < fuel) (hK : ∀ h', K (.bool true) h') : s_lagoonlaw19_PathParse cf fuel (S s) vq h K := by
  rw [s_lagoonlaw19_PathParse_cut]
  rw [hBg]
  refine ⟨rfl, fun h2 x2 => ?_⟩
  have J : ∀ s' : List UInt8, s'.length ≤ 2000 → s_lagoonlaw19_PathParseC0 cf fuel h2 K vq (.bool true) (S s') h2 := fun s' hs' => lawC0_run cf fuel hP hR hJ hJ2 hF hF2 hA hs' (hq.mono x2) hb hl hf hK h2
  dsimp only
  generalize s_lagoonlaw19_PathParseC0 cf fuel h2 K vq (.bool true) = JJ at *
  by_cases h11 : 1100 < s.length
  · (try unfold vMov); repeat' (first | refine Step.imp ?_ | (refine Way.mk (fun hp => ?_) (fun hp => ?_) <;> first | contradiction | (exfalso; omega) | skip) | refine LoadG.mkG ?_ | refine LoadsG.mkG ?_ | refine AtG.mkG ?_ | refine StoreG.mkG ?_ | refine CondG.mkG ?_ | fail); (all_goals (try dsimp only))
    all_goals first
      | (exfalso; omega)
      | skip
    exact J _ (by rw [List.length_take]; omega)
  · (try unfold vMov); repeat' (first | refine Step.imp ?_ | (refine Way.mk (fun hp => ?_) (fun hp => ?_) <;> first | contradiction | (exfalso; omega) | skip) | refine LoadG.mkG ?_ | refine LoadsG.mkG ?_ | refine AtG.mkG ?_ | refine StoreG.mkG ?_ | refine CondG.mkG ?_ | fail); (all_goals (try dsimp only))
    all_goals first
      | exact J _ (by omega)
      | (exfalso; omega)
end
end Lg

namespace Go.Proofs
open Go.Shelf
def Tryd.lays156_ren : Go.Shelf.Ren := ⟨fun | 156 => 38 | 165 => 49 | 166 => 50 | 169 => 51 | 240 => 65 | 241 => 66 | 276 => 90 | 277 => 91 | n => n, fun | 31 => 23 | 9 => 9 | 3 => 3 | 4 => 4 | 0 => 0 | 20 => 20 | 72 => 66 | 76 => 68 | 70 => 64 | 37 => 62 | 75 => 58 | 127 => 82 | 164 => 107 | 5 => 5 | 80 => 70 | n => n, fun | n => n⟩
theorem Tryd.lays156 : Go.Proofs.Lays.n156 Tryd.prog Tryd.lays156_ren := {
  mixed := by kernel_rfl
  f156 := Tryd.func38.trans (congrArg some (by kernel_rfl))
  f165 := Tryd.func49.trans (congrArg some (by kernel_rfl))
  f166 := Tryd.func50.trans (congrArg some (by kernel_rfl))
  f169 := Tryd.func51.trans (congrArg some (by kernel_rfl))
  f240 := Tryd.func65.trans (congrArg some (by kernel_rfl))
  f241 := Tryd.func66.trans (congrArg some (by kernel_rfl))
  f276 := Tryd.func90.trans (congrArg some (by kernel_rfl))
  f277 := Tryd.func91.trans (congrArg some (by kernel_rfl))
  t0 := Tryd.underlying0
  a0 := Tryd.isAgg0
  z0 := Tryd.sizeOf0
  v0 := Tryd.zeroValue0
  t3 := Tryd.underlying3
  a3 := Tryd.isAgg3
  z3 := Tryd.sizeOf3
  v3 := Tryd.zeroValue3
  t4 := Tryd.underlying4
  a4 := Tryd.isAgg4
  z4 := Tryd.sizeOf4
  v4 := Tryd.zeroValue4
  t9 := Tryd.underlying9
  a9 := Tryd.isAgg9
  z9 := Tryd.sizeOf9
  v9 := Tryd.zeroValue9
  t20 := Tryd.underlying20
  a20 := Tryd.isAgg20
  z20 := Tryd.sizeOf20
  v20 := Tryd.zeroValue20
  t31 := Tryd.underlying23
  a31 := Tryd.isAgg23
  z31 := Tryd.sizeOf23
  v31 := Tryd.zeroValue23
  t37 := Tryd.underlying62
  a37 := Tryd.isAgg62
  z37 := Tryd.sizeOf62
  v37 := Tryd.zeroValue62
  t70 := Tryd.underlying64
  a70 := Tryd.isAgg64
  z70 := Tryd.sizeOf64
  v70 := Tryd.zeroValue64
  t72 := Tryd.underlying66
  a72 := Tryd.isAgg66
  z72 := Tryd.sizeOf66
  v72 := Tryd.zeroValue66
  t75 := Tryd.underlying58
  a75 := Tryd.isAgg58
  z75 := Tryd.sizeOf58
  v75 := Tryd.zeroValue58
  t76 := Tryd.underlying68
  a76 := Tryd.isAgg68
  z76 := Tryd.sizeOf68
  v76 := Tryd.zeroValue68
  t127 := Tryd.underlying82
  a127 := Tryd.isAgg82
  z127 := Tryd.sizeOf82
  v127 := Tryd.zeroValue82
  t164 := Tryd.underlying107
  a164 := Tryd.isAgg107
  z164 := Tryd.sizeOf107
  v164 := Tryd.zeroValue107 }
theorem Tryd.Builder_Extra_156 : Builder.Extra Tryd.prog Tryd.lays156_ren := {
  sizeBuilder := by kernel_rfl
  liesBuilder := by kernel_rfl
  t5 := Tryd.underlying5
  a5 := Tryd.isAgg5
  z5 := Tryd.sizeOf5
  v5 := Tryd.zeroValue5
  infoByte := by kernel_rfl
  cellsByte := by kernel_rfl
  sizeByte := by kernel_rfl
  neB5 := by decide }
end Go.Proofs

namespace Lg
set_option linter.unusedSimpArgs false
set_option linter.unusedVariables false
set_option maxRecDepth 100000
open Go Go.Am Go.Proofs
open Go.Proofs.YtnhamanffojhfaaDoor.shl
theorem mixed : Tryd.prog.follows .mixedOrders = true := by kernel_rfl
set_option maxRecDepth 1000000 in
theorem set3_runs : RunsTo Tryd.prog (lookC []) 1000 3 80 [S [0, 1, 47]] (.tup [.agg set3, .bool true]) = True := by kernel_rfl
variable {B : Nat} {W : World}
noncomputable def L0 : List (Nat × ConD) := []
theorem ok0 (hG : GV B W) : ConAt Tryd.prog (lookC L0) B W := con_nil_at
theorem one1 (hG : GV B W) (w0 : W0) (hw : w0.w = W) : ConOne Tryd.prog B w0 10 (cIdB validB) := one_pure_at mixed (ok0 hG) rfl (fun avs h K hc => by
  obtain ⟨t, n, rfl, hK⟩ := hc
  exact ⟨_, by simp [oldV, oldVs], hK, 0, fun K2 hK2 => Eq.mp (s_lagoonref4_Valid_eq ..) (Valid_run _ _ t n hK2)⟩) w0 hw
noncomputable def L1 : List (Nat × ConD) := (10, cIdB validB) :: L0
theorem ok1 (hG : GV B W) : ConAt Tryd.prog (lookC L1) B W := con_cons_at (ok0 hG) (one1 hG)
theorem one2 (hG : GV B W) (w0 : W0) (hw : w0.w = W) : ConOne Tryd.prog B w0 12 (cIdB2 sameI) := one_pure_at mixed (ok1 hG) rfl (fun avs h K hc => by
  obtain ⟨t, n, t', n', rfl, hK⟩ := hc
  exact ⟨_, by simp [oldV, oldVs], hK, 0, fun K2 hK2 => Eq.mp (s_lagoonref4_Same_eq ..) (Same_run _ _ t n t' n' hK2)⟩) w0 hw
noncomputable def L2 : List (Nat × ConD) := (12, cIdB2 sameI) :: L1
theorem ok2 (hG : GV B W) : ConAt Tryd.prog (lookC L2) B W := con_cons_at (ok1 hG) (one2 hG)
theorem one3 (hG : GV B W) (w0 : W0) (hw : w0.w = W) : ConOne Tryd.prog B w0 26 (cIdB2 lessI) := one_pure_at mixed (ok2 hG) rfl (fun avs h K hc => by
  obtain ⟨t, n, t', n', rfl, hK⟩ := hc
  exact ⟨_, by simp [oldV, oldVs], hK, 0, fun K2 hK2 => Eq.mp (s_lagoonref4_Less_eq ..) (Less_run _ _ t n t' n' hK2)⟩) w0 hw
noncomputable def L3 : List (Nat × ConD) := (26, cIdB2 lessI) :: L2
theorem ok3 (hG : GV B W) : ConAt Tryd.prog (lookC L3) B W := con_cons_at (ok2 hG) (one3 hG)
theorem one4 (hG : GV B W) (w0 : W0) (hw : w0.w = W) : ConOne Tryd.prog B w0 43 (cIB fun n => decide (0 ≤ n) && decide (n < 64)) := one_pure_at mixed (ok3 hG) rfl (fun avs h K hc => by
  obtain ⟨n, rfl, hK⟩ := hc
  exact ⟨_, by simp [oldV, oldVs], hK, 0, fun K2 hK2 => Eq.mp (s_clock_node_eq ..) (node_run _ _ n hK2)⟩) w0 hw
noncomputable def L4 : List (Nat × ConD) := (43, cIB fun n => decide (0 ≤ n) && decide (n < 64)) :: L3
theorem ok4 (hG : GV B W) : ConAt Tryd.prog (lookC L4) B W := con_cons_at (ok3 hG) (one4 hG)
theorem one5 (hG : GV B W) (w0 : W0) (hw : w0.w = W) : ConOne Tryd.prog B w0 30 (cIdB validB) := one_pure_at mixed (ok4 hG) rfl (fun avs h K hc => by
  obtain ⟨t, n, rfl, hK⟩ := hc
  exact ⟨_, by simp [oldV, oldVs], hK, 0, fun K2 hK2 => Eq.mp (s_clock_Valid_eq ..) (clockValid_run _ _ (cfn_con rfl) t n hK2)⟩) w0 hw
noncomputable def L5 : List (Nat × ConD) := (30, cIdB validB) :: L4
theorem ok5 (hG : GV B W) : ConAt Tryd.prog (lookC L5) B W := con_cons_at (ok4 hG) (one5 hG)
theorem one6 (hG : GV B W) (w0 : W0) (hw : w0.w = W) : ConOne Tryd.prog B w0 67 (cNaN) := one_pure_at mixed (ok5 hG) rfl (fun avs h K hc => by
  obtain ⟨n, rfl, hK⟩ := hc
  exact ⟨_, by simp [oldV, oldVs], hK, 0, fun K2 hK2 => Eq.mp (s_cmp_isNaN_int64_eq ..) (isNaN64_run _ _ n hK2)⟩) w0 hw
noncomputable def L6 : List (Nat × ConD) := (67, cNaN) :: L5
theorem ok6 (hG : GV B W) : ConAt Tryd.prog (lookC L6) B W := con_cons_at (ok5 hG) (one6 hG)
theorem one7 (hG : GV B W) (w0 : W0) (hw : w0.w = W) : ConOne Tryd.prog B w0 68 (cNaN) := one_pure_at mixed (ok6 hG) rfl (fun avs h K hc => by
  obtain ⟨n, rfl, hK⟩ := hc
  exact ⟨_, by simp [oldV, oldVs], hK, 0, fun K2 hK2 => Eq.mp (s_cmp_isNaN_int_eq ..) (isNaN_run _ _ n hK2)⟩) w0 hw
noncomputable def L7 : List (Nat × ConD) := (68, cNaN) :: L6
theorem ok7 (hG : GV B W) : ConAt Tryd.prog (lookC L7) B W := con_cons_at (ok6 hG) (one7 hG)
theorem one8 (hG : GV B W) (w0 : W0) (hw : w0.w = W) : ConOne Tryd.prog B w0 52 (cCmp) := one_pure_at mixed (ok7 hG) rfl (fun avs h K hc => by
  obtain ⟨x, y, rfl, hK⟩ := hc
  exact ⟨_, by simp [oldV, oldVs], hK, 0, fun K2 hK2 => Eq.mp (s_cmp_Compare_int64_eq ..) (Compare64_run _ _ (cfn_con rfl) x y (hK2 h (Ext.refl h)))⟩) w0 hw
noncomputable def L8 : List (Nat × ConD) := (52, cCmp) :: L7
theorem ok8 (hG : GV B W) : ConAt Tryd.prog (lookC L8) B W := con_cons_at (ok7 hG) (one8 hG)
theorem one9 (hG : GV B W) (w0 : W0) (hw : w0.w = W) : ConOne Tryd.prog B w0 53 (cCmp) := one_pure_at mixed (ok8 hG) rfl (fun avs h K hc => by
  obtain ⟨x, y, rfl, hK⟩ := hc
  exact ⟨_, by simp [oldV, oldVs], hK, 0, fun K2 hK2 => Eq.mp (s_cmp_Compare_int_eq ..) (Compare_run _ _ (cfn_con rfl) x y (hK2 h (Ext.refl h)))⟩) w0 hw
noncomputable def L9 : List (Nat × ConD) := (53, cCmp) :: L8
theorem ok9 (hG : GV B W) : ConAt Tryd.prog (lookC L9) B W := con_cons_at (ok8 hG) (one9 hG)
theorem one10 (hG : GV B W) (w0 : W0) (hw : w0.w = W) : ConOne Tryd.prog B w0 40 (cIdI cmpI) := one_pure_at mixed (ok9 hG) rfl (fun avs h K hc => by
  obtain ⟨t, n, t', n', rfl, hK⟩ := hc
  exact ⟨_, by simp [oldV, oldVs], hK, 0, fun K2 hK2 => Eq.mp (s_clock_Cmp_eq ..) (Cmp_run _ _ (cfn_con rfl) (cfn_con rfl) t n t' n' hK2)⟩) w0 hw
noncomputable def L10 : List (Nat × ConD) := (40, cIdI cmpI) :: L9
theorem ok10 (hG : GV B W) : ConAt Tryd.prog (lookC L10) B W := con_cons_at (ok9 hG) (one10 hG)
theorem one11 (hG : GV B W) (w0 : W0) (hw : w0.w = W) : ConOne Tryd.prog B w0 25 (cIdB2 lessI) := one_pure_at mixed (ok10 hG) rfl (fun avs h K hc => by
  obtain ⟨t, n, t', n', rfl, hK⟩ := hc
  exact ⟨_, by simp [oldV, oldVs], hK, 0, fun K2 hK2 => Eq.mp (s_clock_Less_eq ..) (clockLess_run _ _ (cfn_con rfl) t n t' n' hK2)⟩) w0 hw
noncomputable def L11 : List (Nat × ConD) := (25, cIdB2 lessI) :: L10
theorem ok11 (hG : GV B W) : ConAt Tryd.prog (lookC L11) B W := con_cons_at (ok10 hG) (one11 hG)
theorem one12 (hG : GV B W) (w0 : W0) (hw : w0.w = W) : ConOne Tryd.prog B w0 69 (cIdxB) := one_pure_at mixed (ok11 hG) rfl (fun avs h K hc => by
  obtain ⟨l, b, rfl, h0, h1, hK⟩ := hc
  exact ⟨_, by simp [oldV, oldVs], hK, 0, fun K2 hK2 => Eq.mp (s_int_stringslite_IndexByte_eq ..) (litIndexByte_run _ _ l b h0 h1 hK2)⟩) w0 hw
noncomputable def L12 : List (Nat × ConD) := (69, cIdxB) :: L11
theorem ok12 (hG : GV B W) : ConAt Tryd.prog (lookC L12) B W := con_cons_at (ok11 hG) (one12 hG)
theorem one13 (hG : GV B W) (w0 : W0) (hw : w0.w = W) : ConOne Tryd.prog B w0 98 (cIdxB) := one_pure_at mixed (ok12 hG) rfl (fun avs h K hc => by
  obtain ⟨l, b, rfl, h0, h1, hK⟩ := hc
  exact ⟨_, by simp [oldV, oldVs], hK, 0, fun K2 hK2 => Eq.mp (s_strings_IndexByte_eq ..) (IndexByte_run _ _ (cfn_con rfl) l b h0 h1 hK2)⟩) w0 hw
noncomputable def L13 : List (Nat × ConD) := (98, cIdxB) :: L12
theorem ok13 (hG : GV B W) : ConAt Tryd.prog (lookC L13) B W := con_cons_at (ok12 hG) (one13 hG)
theorem one14 (hG : GV B W) (w0 : W0) (hw : w0.w = W) : ConOne Tryd.prog B w0 99 (cVR) := one_pure_at mixed (ok13 hG) rfl (fun avs h K hc => by
  obtain ⟨r, rfl, hK⟩ := hc
  exact ⟨_, by simp [oldV, oldVs], hK, 0, fun K2 hK2 => Eq.mp (s_unicode_utf8_ValidRune_eq ..) (ValidRune_run _ _ r hK2)⟩) w0 hw
noncomputable def L14 : List (Nat × ConD) := (99, cVR) :: L13
theorem ok14 (hG : GV B W) : ConAt Tryd.prog (lookC L14) B W := con_cons_at (ok13 hG) (one14 hG)
theorem one15 (hG : GV B W) (w0 : W0) (hw : w0.w = W) : ConOne Tryd.prog B w0 78 (cRune) := one_pure_at mixed (ok14 hG) rfl (fun avs h K hc => by
  obtain ⟨r, rfl, h0, h1, hK⟩ := hc
  exact ⟨_, by simp [oldV, oldVs], hK, 10, fun K2 hK2 => Eq.mp (s_strings_IndexRune_eq ..) (IndexRune_run _ _ (cfn_con rfl) (cfn_con rfl) r h0 h1 (by omega) hK2)⟩) w0 hw
noncomputable def L15 : List (Nat × ConD) := (78, cRune) :: L14
theorem ok15 (hG : GV B W) : ConAt Tryd.prog (lookC L15) B W := con_cons_at (ok14 hG) (one15 hG)
theorem one16 (hG : GV B W) (w0 : W0) (hw : w0.w = W) : ConOne Tryd.prog B w0 79 (cI1 fun n => decide (8 < n)) := one_pure_at mixed (ok15 hG) rfl (fun avs h K hc => by
  obtain ⟨n, rfl, hK⟩ := hc
  exact ⟨_, by simp [oldV, oldVs], hK, 0, fun K2 hK2 => Eq.mp (s_strings_shouldUseASCIISet_eq ..) (should_run _ _ n hK2)⟩) w0 hw
noncomputable def L16 : List (Nat × ConD) := (79, cI1 fun n => decide (8 < n)) :: L15
theorem ok16 (hG : GV B W) : ConAt Tryd.prog (lookC L16) B W := con_cons_at (ok15 hG) (one16 hG)
theorem one17 (hG : GV B W) (w0 : W0) (hw : w0.w = W) : ConOne Tryd.prog B w0 80 (cSet3) := one_to mixed con_nil 1000 3 80 [S [0, 1, 47]] (.tup [.agg set3, .bool true]) (by kernel_rfl) (by kernel_rfl) set3_runs B w0
noncomputable def L17 : List (Nat × ConD) := (80, cSet3) :: L16
theorem ok17 (hG : GV B W) : ConAt Tryd.prog (lookC L17) B W := con_cons_at (ok16 hG) (one17 hG)
theorem one18 (hG : GV B W) (w0 : W0) (hw : w0.w = W) : ConOne Tryd.prog B w0 81 (cContains) := one_pure_at mixed (ok17 hG) rfl (fun avs h K hc => by
  obtain ⟨o, e, f, b, rfl, he, h0, h1, hc, hK⟩ := hc
  exact ⟨_, by simp [oldV, oldVs], hK, 0, fun K2 hK2 => Eq.mp (s_strings_asciiSet_contains_eq ..) (contains_run _ _ o e f b he h0 h1 hc hK2)⟩) w0 hw
noncomputable def L18 : List (Nat × ConD) := (81, cContains) :: L17
theorem ok18 (hG : GV B W) : ConAt Tryd.prog (lookC L18) B W := con_cons_at (ok17 hG) (one18 hG)
theorem one19 (hG : GV B W) (w0 : W0) (hw : w0.w = W) : ConOne Tryd.prog B w0 57 (cIxAny) := one_pure_at mixed (ok18 hG) rfl (fun avs h K hc => by
  obtain ⟨l, rfl, hl, hK⟩ := hc
  exact ⟨_, by simp [oldV, oldVs], hK, l.length + 70, fun K2 hK2 => Eq.mp (s_strings_IndexAny_eq ..) (IndexAny_run _ _ (cfn_con rfl) (cfn_con rfl) (cfn_con rfl) (cfn_con rfl) l hl (by omega) hK2)⟩) w0 hw
noncomputable def L19 : List (Nat × ConD) := (57, cIxAny) :: L18
theorem ok19 (hG : GV B W) : ConAt Tryd.prog (lookC L19) B W := con_cons_at (ok18 hG) (one19 hG)
theorem one20 (hG : GV B W) (w0 : W0) (hw : w0.w = W) : ConOne Tryd.prog B w0 44 (cBad) := one_pure_at mixed (ok19 hG) rfl (fun avs h K hc => by
  obtain ⟨l, rfl, hl, hK⟩ := hc
  exact ⟨_, by simp [oldV, oldVs], hK, 0, fun K2 hK2 => Eq.mp (s_strings_ContainsAny_eq ..) (ContainsAny_run _ _ (cfn_con rfl) l hl hK2)⟩) w0 hw
noncomputable def L20 : List (Nat × ConD) := (44, cBad) :: L19
theorem ok20 (hG : GV B W) : ConAt Tryd.prog (lookC L20) B W := con_cons_at (ok19 hG) (one20 hG)
theorem one21 (hG : GV B W) (w0 : W0) (hw : w0.w = W) : ConOne Tryd.prog B w0 27 (cS localE) := one_pure_at mixed (ok20 hG) rfl (fun avs h K hc => by
  obtain ⟨l, rfl, hl, hK⟩ := hc
  exact ⟨_, by simp [oldV, oldVs], hK, l.length + 70, fun K2 hK2 => Eq.mp (s_lagoonref12_Local_eq ..) (Local_run _ _ l hl (by omega) hK2)⟩) w0 hw
noncomputable def L21 : List (Nat × ConD) := (27, cS localE) :: L20
theorem ok21 (hG : GV B W) : ConAt Tryd.prog (lookC L21) B W := con_cons_at (ok20 hG) (one21 hG)
theorem one22 (hG : GV B W) (w0 : W0) (hw : w0.w = W) : ConOne Tryd.prog B w0 11 (cS nameE) := one_pure_at mixed (ok21 hG) rfl (fun avs h K hc => by
  obtain ⟨l, rfl, hl, hK⟩ := hc
  exact ⟨_, by simp [oldV, oldVs], hK, l.length + 70, fun K2 hK2 => Eq.mp (s_lagoonref12_Name_eq ..) (refName_run _ _ (cfn_con rfl) l hl (by omega) hK2)⟩) w0 hw
noncomputable def L22 : List (Nat × ConD) := (11, cS nameE) :: L21
theorem ok22 (hG : GV B W) : ConAt Tryd.prog (lookC L22) B W := con_cons_at (ok21 hG) (one22 hG)
theorem one23 (hG : GV B W) (w0 : W0) (hw : w0.w = W) : ConOne Tryd.prog B w0 31 (cS nameE) := one_pure_at mixed (ok22 hG) rfl (fun avs h K hc => by
  obtain ⟨l, rfl, hl, hK⟩ := hc
  exact ⟨_, by simp [oldV, oldVs], hK, 0, fun K2 hK2 => Eq.mp (s_ops_Name_eq ..) (opsName_run _ _ (cfn_con rfl) l hl hK2)⟩) w0 hw
noncomputable def L23 : List (Nat × ConD) := (31, cS nameE) :: L22
theorem ok23 (hG : GV B W) : ConAt Tryd.prog (lookC L23) B W := con_cons_at (ok22 hG) (one23 hG)
theorem one24 (hG : GV B W) (w0 : W0) (hw : w0.w = W) : ConOne Tryd.prog B w0 54 (cIdx1) := one_code_at mixed (ok23 hG) rfl (fun avs h K hc => by
  obtain ⟨l, b, rfl, hK⟩ := hc
  exact ⟨0, Eq.mp (s_int_stringslite_Index_eq ..) (Index1_run _ _ (cfn_con rfl) l b hK)⟩) w0 hw
noncomputable def L24 : List (Nat × ConD) := (54, cIdx1) :: L23
theorem ok24 (hG : GV B W) : ConAt Tryd.prog (lookC L24) B W := con_cons_at (ok23 hG) (one24 hG)
theorem one25 (hG : GV B W) (w0 : W0) (hw : w0.w = W) : ConOne Tryd.prog B w0 41 (cCut) := one_code_at mixed (ok24 hG) rfl (fun avs h K hc => by
  obtain ⟨l, b, rfl, hl, hK⟩ := hc
  exact ⟨0, Eq.mp (s_int_stringslite_Cut_eq ..) (liteCut_run _ _ (cfn_con rfl) l b hl hK)⟩) w0 hw
noncomputable def L25 : List (Nat × ConD) := (41, cCut) :: L24
theorem ok25 (hG : GV B W) : ConAt Tryd.prog (lookC L25) B W := con_cons_at (ok24 hG) (one25 hG)
theorem one26 (hG : GV B W) (w0 : W0) (hw : w0.w = W) : ConOne Tryd.prog B w0 28 (cCut) := one_code_at mixed (ok25 hG) rfl (fun avs h K hc => by
  obtain ⟨l, b, rfl, hl, hK⟩ := hc
  exact ⟨0, Eq.mp (s_strings_Cut_eq ..) (Cut_run _ _ (cfn_con rfl) l b hl hK)⟩) w0 hw
noncomputable def L26 : List (Nat × ConD) := (28, cCut) :: L25
theorem ok26 (hG : GV B W) : ConAt Tryd.prog (lookC L26) B W := con_cons_at (ok25 hG) (one26 hG)
theorem one27 (hG : GV B W) (w0 : W0) (hw : w0.w = W) : ConOne Tryd.prog B w0 33 (cFmt) := fmt_one hG w0 hw
noncomputable def L27 : List (Nat × ConD) := (33, cFmt) :: L26
theorem ok27 (hG : GV B W) : ConAt Tryd.prog (lookC L27) B W := con_cons_at (ok26 hG) (one27 hG)
theorem one28 (hG : GV B W) (w0 : W0) (hw : w0.w = W) : ConOne Tryd.prog B w0 34 (cItoa) := itoa_one hG w0 hw
noncomputable def L28 : List (Nat × ConD) := (34, cItoa) :: L27
theorem ok28 (hG : GV B W) : ConAt Tryd.prog (lookC L28) B W := con_cons_at (ok27 hG) (one28 hG)
theorem one29 (hG : GV B W) (w0 : W0) (hw : w0.w = W) : ConOne Tryd.prog B w0 42 (cParse) := parse_one hG w0 hw
noncomputable def L29 : List (Nat × ConD) := (42, cParse) :: L28
theorem ok29 (hG : GV B W) : ConAt Tryd.prog (lookC L29) B W := con_cons_at (ok28 hG) (one29 hG)
theorem one30 (hG : GV B W) (w0 : W0) (hw : w0.w = W) : ConOne Tryd.prog B w0 15 (cSuf) := one_code_at mixed (ok29 hG) rfl (fun avs h K hc => by
  obtain ⟨t, n, rfl, hb, hK⟩ := hc
  exact ⟨0, Eq.mp (s_clash_Suffix_eq ..) (Suffix_run _ _ (cfn_con rfl) (cfn_con rfl) hb hK)⟩) w0 hw
noncomputable def L30 : List (Nat × ConD) := (15, cSuf) :: L29
theorem ok30 (hG : GV B W) : ConAt Tryd.prog (lookC L30) B W := con_cons_at (ok29 hG) (one30 hG)
theorem one31 (hG : GV B W) (w0 : W0) (hw : w0.w = W) : ConOne Tryd.prog B w0 29 (cNum) := one_code_at mixed (ok30 hG) rfl (fun avs h K hc => by
  obtain ⟨l, rfl, hl, h1, h2⟩ := hc
  exact ⟨0, Eq.mp (s_clash_number_eq ..) (number_run _ _ (cfn_con rfl) (cfn_con rfl) hl h1 h2)⟩) w0 hw
noncomputable def L31 : List (Nat × ConD) := (29, cNum) :: L30
theorem ok31 (hG : GV B W) : ConAt Tryd.prog (lookC L31) B W := con_cons_at (ok30 hG) (one31 hG)
theorem one32 (hG : GV B W) (w0 : W0) (hw : w0.w = W) : ConOne Tryd.prog B w0 13 (cSplit) := one_code_at mixed (ok31 hG) rfl (fun avs h K hc => by
  obtain ⟨l, rfl, hl, hK⟩ := hc
  exact ⟨0, Eq.mp (s_clash_Split_eq ..) (clashSplit_run _ _ (cfn_con rfl) (cfn_con rfl) (cfn_con rfl) (cfn_con rfl) (cfn_con rfl) l hl hK)⟩) w0 hw
noncomputable def L32 : List (Nat × ConD) := (13, cSplit) :: L31
theorem ok32 (hG : GV B W) : ConAt Tryd.prog (lookC L32) B W := con_cons_at (ok31 hG) (one32 hG)
theorem one33 (hG : GV B W) (w0 : W0) (hw : w0.w = W) : ConOne Tryd.prog B w0 35 (cDig) := one_code_at mixed (ok32 hG) rfl (fun avs h K hc => by
  obtain ⟨n, rfl, hn, hK⟩ := hc
  exact ⟨200, Eq.mp (s_lagoonref15_digits_eq ..) (digits_run _ _ hn (by omega) hK)⟩) w0 hw
noncomputable def L33 : List (Nat × ConD) := (35, cDig) :: L32
theorem ok33 (hG : GV B W) : ConAt Tryd.prog (lookC L33) B W := con_cons_at (ok32 hG) (one33 hG)
theorem one34 (hG : GV B W) (w0 : W0) (hw : w0.w = W) : ConOne Tryd.prog B w0 16 (cSuf) := one_code_at mixed (ok33 hG) rfl (fun avs h K hc => by
  obtain ⟨t, n, rfl, hb, hK⟩ := hc
  exact ⟨0, Eq.mp (s_lagoonref15_Suffix_eq ..) (refSuffix_run _ _ (cfn_con rfl) hb hK)⟩) w0 hw
noncomputable def L34 : List (Nat × ConD) := (16, cSuf) :: L33
theorem ok34 (hG : GV B W) : ConAt Tryd.prog (lookC L34) B W := con_cons_at (ok33 hG) (one34 hG)
theorem one35 (hG : GV B W) (w0 : W0) (hw : w0.w = W) : ConOne Tryd.prog B w0 32 (cNumG) := one_code_at mixed (ok34 hG) rfl (fun avs h K hc => by
  obtain ⟨l, rfl, hl, hK⟩ := hc
  exact ⟨200, Eq.mp (s_lagoonref15_number_eq ..) (numberG_run _ _ l hl (by omega) hK)⟩) w0 hw
noncomputable def L35 : List (Nat × ConD) := (32, cNumG) :: L34
theorem ok35 (hG : GV B W) : ConAt Tryd.prog (lookC L35) B W := con_cons_at (ok34 hG) (one35 hG)
theorem one36 (hG : GV B W) (w0 : W0) (hw : w0.w = W) : ConOne Tryd.prog B w0 14 (cSplitG) := one_code_at mixed (ok35 hG) rfl (fun avs h K hc => by
  obtain ⟨l, rfl, hl, hK⟩ := hc
  exact ⟨l.length + 10, Eq.mp (s_lagoonref15_Split_eq ..) (refSplit_run _ _ (cfn_con rfl) (cfn_con rfl) (cfn_con rfl) l hl (by omega) hK)⟩) w0 hw
noncomputable def L36 : List (Nat × ConD) := (14, cSplitG) :: L35
theorem ok36 (hG : GV B W) : ConAt Tryd.prog (lookC L36) B W := con_cons_at (ok35 hG) (one36 hG)
theorem one37 (hG : GV B W) (w0 : W0) (hw : w0.w = W) : ConOne Tryd.prog B w0 38 (cJoin) := join_one (strJoin_ok Tryd.lays156 Tryd.Builder_Extra_156 B w0) (one_code_at mixed (ok36 hG) rfl (fun avs h K hc => by
  obtain ⟨o, rfl, hK⟩ := hc
  exact ⟨0, Eq.mp (s_strings_Join_eq ..) (joinZ_run _ _ o hK)⟩) w0 hw)
noncomputable def L37 : List (Nat × ConD) := (38, cJoin) :: L36
theorem ok37 (hG : GV B W) : ConAt Tryd.prog (lookC L37) B W := con_cons_at (ok36 hG) (one37 hG)
theorem one38 (hG : GV B W) (w0 : W0) (hw : w0.w = W) : ConOne Tryd.prog B w0 47 (cHasPL) := one_code_at mixed (ok37 hG) rfl (fun avs h K hc => by
  obtain ⟨l, b, rfl, hl, hK⟩ := hc
  exact ⟨0, Eq.mp (s_int_stringslite_HasPrefix_eq ..) (liteHasP_run _ _ l b hl hK)⟩) w0 hw
noncomputable def L38 : List (Nat × ConD) := (47, cHasPL) :: L37
theorem ok38 (hG : GV B W) : ConAt Tryd.prog (lookC L38) B W := con_cons_at (ok37 hG) (one38 hG)
theorem one39 (hG : GV B W) (w0 : W0) (hw : w0.w = W) : ConOne Tryd.prog B w0 36 (cHasPL) := one_code_at mixed (ok38 hG) rfl (fun avs h K hc => by
  obtain ⟨l, b, rfl, hl, hK⟩ := hc
  exact ⟨0, Eq.mp (s_strings_HasPrefix_eq ..) (strHasP_run _ _ (cfn_con rfl) l b hl hK)⟩) w0 hw
noncomputable def L39 : List (Nat × ConD) := (36, cHasPL) :: L38
theorem ok39 (hG : GV B W) : ConAt Tryd.prog (lookC L39) B W := con_cons_at (ok38 hG) (one39 hG)
theorem one40 (hG : GV B W) (w0 : W0) (hw : w0.w = W) : ConOne Tryd.prog B w0 64 (cIdx1) := one_code_at mixed (ok39 hG) rfl (fun avs h K hc => by
  obtain ⟨l, b, rfl, hK⟩ := hc
  exact ⟨0, Eq.mp (s_strings_Index_eq ..) (strIndex_run _ _ (cfn_con rfl) l b hK)⟩) w0 hw
noncomputable def L40 : List (Nat × ConD) := (64, cIdx1) :: L39
theorem ok40 (hG : GV B W) : ConAt Tryd.prog (lookC L40) B W := con_cons_at (ok39 hG) (one40 hG)
theorem one41 (hG : GV B W) (w0 : W0) (hw : w0.w = W) : ConOne Tryd.prog B w0 63 (cCnt) := one_code_at mixed (ok40 hG) rfl (fun avs h K hc => by
  obtain ⟨l, b, rfl, hK⟩ := hc
  exact ⟨0, Eq.mp (s_strings_Count_eq ..) (Count1_run _ _ l b hK)⟩) w0 hw
noncomputable def L41 : List (Nat × ConD) := (63, cCnt) :: L40
theorem ok41 (hG : GV B W) : ConAt Tryd.prog (lookC L41) B W := con_cons_at (ok40 hG) (one41 hG)
theorem one42 (hG : GV B W) (w0 : W0) (hw : w0.w = W) : ConOne Tryd.prog B w0 48 (cGenS) := one_code_at mixed (ok41 hG) rfl (fun avs h K hc => by
  obtain ⟨l, b, rfl, hl, hK⟩ := hc
  exact ⟨4000, Eq.mp (s_strings_genSplit_eq ..) (genSplit_run _ _ (cfn_con rfl) (cfn_con rfl) l b hl (by omega) hK)⟩) w0 hw
noncomputable def L42 : List (Nat × ConD) := (48, cGenS) :: L41
theorem ok42 (hG : GV B W) : ConAt Tryd.prog (lookC L42) B W := con_cons_at (ok41 hG) (one42 hG)
theorem one43 (hG : GV B W) (w0 : W0) (hw : w0.w = W) : ConOne Tryd.prog B w0 37 (cSpl) := one_code_at mixed (ok42 hG) rfl (fun avs h K hc => by
  obtain ⟨l, b, rfl, hl, hK⟩ := hc
  exact ⟨0, Eq.mp (s_strings_Split_eq ..) (split_run _ _ (cfn_con rfl) l b hl hK)⟩) w0 hw
noncomputable def L43 : List (Nat × ConD) := (37, cSpl) :: L42
theorem ok43 (hG : GV B W) : ConAt Tryd.prog (lookC L43) B W := con_cons_at (ok42 hG) (one43 hG)
theorem one44 (hG : GV B W) (w0 : W0) (hw : w0.w = W) : ConOne Tryd.prog B w0 18 (cPar) := one_code_at mixed (ok43 hG) rfl (fun avs h K hc => by
  obtain ⟨l, rfl, hl, hK⟩ := hc
  exact ⟨4000, Eq.mp (s_path_Parse_eq ..) (pathParse_run _ _ (cfn_con rfl) (cfn_con rfl) (cfn_con rfl) (cfn_con rfl) l hl (by omega) hK)⟩) w0 hw
noncomputable def L44 : List (Nat × ConD) := (18, cPar) :: L43
theorem ok44 (hG : GV B W) : ConAt Tryd.prog (lookC L44) B W := con_cons_at (ok43 hG) (one44 hG)
theorem one45 (hG : GV B W) (w0 : W0) (hw : w0.w = W) : ConOne Tryd.prog B w0 19 (cPar) := one_code_at mixed (ok44 hG) rfl (fun avs h K hc => by
  obtain ⟨l, rfl, hl, hK⟩ := hc
  exact ⟨4000, Eq.mp (s_lagoonref19_Parse_eq ..) (refParse_run _ _ (cfn_con rfl) (cfn_con rfl) l hl (by omega) hK)⟩) w0 hw
noncomputable def L45 : List (Nat × ConD) := (19, cPar) :: L44
theorem ok45 (hG : GV B W) : ConAt Tryd.prog (lookC L45) B W := con_cons_at (ok44 hG) (one45 hG)
theorem one46 (hG : GV B W) (w0 : W0) (hw : w0.w = W) : ConOne Tryd.prog B w0 20 (cPJoin) := one_code_at mixed (ok45 hG) rfl (fun avs h K hc => by
  obtain ⟨v, ps, rfl, hr, hl, hK⟩ := hc
  exact ⟨0, Eq.mp (s_path_Join_eq ..) (pathJoin_run _ _ (cfn_con rfl) hr hl hK)⟩) w0 hw
noncomputable def L46 : List (Nat × ConD) := (20, cPJoin) :: L45
theorem ok46 (hG : GV B W) : ConAt Tryd.prog (lookC L46) B W := con_cons_at (ok45 hG) (one46 hG)
theorem one47 (hG : GV B W) (w0 : W0) (hw : w0.w = W) : ConOne Tryd.prog B w0 21 (cPJoin) := one_code_at mixed (ok46 hG) rfl (fun avs h K hc => by
  obtain ⟨v, ps, rfl, hr, hl, hK⟩ := hc
  exact ⟨ps.length + 1, Eq.mp (s_lagoonref19_Join_eq ..) (refJoin_run _ _ hr hl (by omega) hK)⟩) w0 hw
noncomputable def L47 : List (Nat × ConD) := (21, cPJoin) :: L46
theorem ok47 (hG : GV B W) : ConAt Tryd.prog (lookC L47) B W := con_cons_at (ok46 hG) (one47 hG)
theorem one48 (hG : GV B W) (w0 : W0) (hw : w0.w = W) : ConOne Tryd.prog B w0 22 (cFresh) := one_code_at mixed (ok47 hG) rfl (fun avs h K hc => by
  obtain ⟨v, q, rfl, hr, hb, hK⟩ := hc
  exact ⟨0, Eq.mp (s_path_Fresh_eq ..) (pathFresh_run _ _ (cfn_con rfl) hr hb hK)⟩) w0 hw
noncomputable def L48 : List (Nat × ConD) := (22, cFresh) :: L47
theorem ok48 (hG : GV B W) : ConAt Tryd.prog (lookC L48) B W := con_cons_at (ok47 hG) (one48 hG)
theorem one49 (hG : GV B W) (w0 : W0) (hw : w0.w = W) : ConOne Tryd.prog B w0 23 (cFresh) := one_code_at mixed (ok48 hG) rfl (fun avs h K hc => by
  obtain ⟨v, q, rfl, hr, hb, hK⟩ := hc
  exact ⟨0, Eq.mp (s_lagoonref19_Fresh_eq ..) (refFresh_run _ _ (cfn_con rfl) hr hb hK)⟩) w0 hw
noncomputable def L49 : List (Nat × ConD) := (23, cFresh) :: L48
theorem ok49 (hG : GV B W) : ConAt Tryd.prog (lookC L49) B W := con_cons_at (ok48 hG) (one49 hG)
theorem one50 (hG : GV B W) (w0 : W0) (hw : w0.w = W) : ConOne Tryd.prog B w0 39 (cEqS) := one_code_at mixed (ok49 hG) rfl (fun avs h K hc => by
  obtain ⟨v1, v2, p, q, rfl, h1, h2, hl, hK⟩ := hc
  exact ⟨p.length + 1, Eq.mp (s_slices_Equal_string_string_eq ..) (equal_run _ _ h1 h2 hl (by omega) hK)⟩) w0 hw
noncomputable def L50 : List (Nat × ConD) := (39, cEqS) :: L49
theorem ok50 (hG : GV B W) : ConAt Tryd.prog (lookC L50) B W := con_cons_at (ok49 hG) (one50 hG)
theorem one51 (hG : GV B W) (w0 : W0) (hw : w0.w = W) : ConOne Tryd.prog B w0 24 (cAbove) := one_code_at mixed (ok50 hG) rfl (fun avs h K hc => by
  obtain ⟨v1, v2, p, q, rfl, h1, h2, hl, hK⟩ := hc
  exact ⟨0, Eq.mp (s_path_Above_eq ..) (above_run _ _ (cfn_con rfl) h1 h2 hl hK)⟩) w0 hw
noncomputable def L51 : List (Nat × ConD) := (24, cAbove) :: L50
theorem ok51 (hG : GV B W) : ConAt Tryd.prog (lookC L51) B W := con_cons_at (ok50 hG) (one51 hG)
theorem one52 (hG : GV B W) (w0 : W0) (hw : w0.w = W) : ConOne Tryd.prog B w0 17 (cBegX) := one_code_at mixed (ok51 hG) rfl (fun avs h K hc => by
  obtain ⟨rfl, hK⟩ := hc
  exact ⟨0, Eq.mp (s_lagoonlaw19_begun_eq ..) (begun_run _ _ (cfn_con rfl) (cfn_con rfl) (cfn_con rfl) (cfn_con rfl) hK)⟩) w0 hw
noncomputable def L52 : List (Nat × ConD) := (17, cBegX) :: L51
theorem ok52 (hG : GV B W) : ConAt Tryd.prog (lookC L52) B W := con_cons_at (ok51 hG) (one52 hG)
noncomputable abbrev LT : List (Nat × ConD) := L52
theorem okT (hG : GV B W) : ConAt Tryd.prog (lookC LT) B W := ok52 hG
end Lg

namespace Lg
set_option linter.unusedSimpArgs false
set_option linter.unusedVariables false
set_option maxRecDepth 100000
open Go Go.Am Go.Proofs Go.RowKit
theorem list_choose {α : Type} {p : Nat → α → Prop} : ∀ n, (∀ j, j < n → ∃ x, p j x) → ∃ l : List α, l.length = n ∧ ∀ j (hj : j < l.length), p j l[j]
  | 0, _ => ⟨[], rfl, fun j hj => by simp at hj⟩
  | n + 1, h => by
    obtain ⟨l, h1, h2⟩ := list_choose n fun j hj => h j (by omega)
    obtain ⟨x, hx⟩ := h n (by omega)
    refine ⟨l ++ [x], by simp [h1], fun j hj => ?_⟩
    by_cases e : j < l.length
    · rw [List.getElem_append_left e]; exact h2 j e
    · have hj' : j = n := by simp at hj; omega
      subst hj'
      rw [List.getElem_append_right (by omega)]
      simpa [h1] using hx
section
variable {P : Program} {H : Type} {hp : Hp}
theorem rdt_intb {n : Nat} {t : TypeId} {avs : List AV} {d : DataW H} (hu : P.underlying t = some (.int .i64)) (h : RdT P hp (n + 1) t avs d) : ∃ z, avs = [I z] ∧ InI z := by
  unfold RdT at h
  simp only [hu] at h
  obtain ⟨z, h1, _, h3⟩ := h
  refine ⟨z, h1, ?_⟩
  simp only [Lit.wf, Bool.and_eq_true, decide_eq_true_eq] at h3
  exact h3
theorem rdt_str {n : Nat} {t : TypeId} {avs : List AV} {d : DataW H} (hu : P.underlying t = some .string) (h : RdT P hp (n + 1) t avs d) : ∃ l, avs = [S l] ∧ l.length ≤ 140737488355328 := by
  unfold RdT at h
  simp only [hu] at h
  obtain ⟨z, h1, _, h2⟩ := h
  have : reachBytes ≤ 140737488355328 := by decide
  exact ⟨z, h1, by omega⟩
theorem rdB_cons {n : Nat} {t : TypeId} {ts : List TypeId} {avs : List AV} {ds : List (DataW H)} (h : RdB P hp n (t :: ts) avs ds) : ∃ a r d e, avs = a :: r ∧ ds = d :: e ∧ RdV P hp n t a d ∧ RdB P hp n ts r e := by
  cases avs with
  | nil => cases ds <;> exact h.elim
  | cons a r => cases ds with
    | nil => exact h.elim
    | cons d e => exact ⟨a, r, d, e, rfl, rfl, h.1, h.2⟩
theorem rdB_nil {n : Nat} {avs : List AV} {ds : List (DataW H)} (h : RdB P hp n [] avs ds) : avs = [] := by
  cases avs with
  | nil => rfl
  | cons a r => cases ds <;> exact h.elim
theorem rdf_cons {R : TypeId → List AV → DataW H → Prop} {f : Field} {fs : List Field} {cl : List (List AV)} {dl : List (DataW H)} (h : RdF P R (f :: fs) cl dl) : ∃ c cl' d dl', cl = c :: cl' ∧ dl = d :: dl' ∧ R f.type c d ∧ RdF P R fs cl' dl' := by
  match cl, dl, h with
  | c :: cl', d :: dl', h => exact ⟨c, cl', d, dl', rfl, rfl, h.2.1, h.2.2⟩
theorem rdf_nil {R : TypeId → List AV → DataW H → Prop} {cl : List (List AV)} {dl : List (DataW H)} (h : RdF P R [] cl dl) : cl = [] := by
  match cl, dl, h with
  | [], [], _ => rfl
theorem rdV_one {n : Nat} {t : TypeId} {a : AV} {d : DataW H} (hs : structT P t = false) (h : RdV P hp n t a d) : RdT P hp n t [a] d := by
  rcases h with h | h
  · exact h.2
  · rw [hs] at h; cases h.1
theorem rdV_struct {n : Nat} {t : TypeId} {a : AV} {d : DataW H} (hs : cell1T P t = false) (h : RdV P hp n t a d) : ∃ l, a = .agg l ∧ RdT P hp n t l d := by
  rcases h with h | h
  · rw [hs] at h; cases h.1
  · exact h.2
end
section
variable {H : Type} {hp : Hp}
theorem rd_idb {n : Nat} {avs : List AV} {d : DataW H} (h : RdT Tryd.prog hp (n + 2) 29 avs d) : ∃ t k, avs = [I t, I k] ∧ InI t ∧ InI k := by
  unfold RdT at h
  simp only [Tryd.underlying29] at h
  obtain ⟨dl, cl, _, rfl, hf⟩ := h
  obtain ⟨c0, cl, d0, dl, rfl, rfl, h0, hf⟩ := rdf_cons hf
  obtain ⟨c1, cl, d1, dl, rfl, rfl, h1, hf⟩ := rdf_cons hf
  obtain rfl := rdf_nil hf
  obtain ⟨t, rfl, ht⟩ := rdt_intb Tryd.underlying2 h0
  obtain ⟨k, rfl, hk⟩ := rdt_intb Tryd.underlying3 h1
  exact ⟨t, k, rfl, ht, hk⟩
theorem rd_ids {n : Nat} {avs : List AV} {d : DataW H} (h : RdT Tryd.prog hp (n + 3) 22 avs d) : ∃ (v : AV) (els : List (List AV)) (ids : List IdI), avs = [v] ∧ Rd hp 2 v els ∧ IdsR els ids ∧ IdsB ids := by
  unfold RdT at h
  simp only [Tryd.underlying22] at h
  have hc : Tryd.prog.cellsOf 29 = 2 := by kernel_rfl
  have hb : Tryd.prog.bytesOf 29 = 16 := by kernel_rfl
  rcases h with ⟨rfl, _⟩ | ⟨o, rfl, _⟩ | ⟨o, c, ob, ds, sp, rfl, _, h1, h2, h3, h4, _, h5⟩
  · exact ⟨_, [], [], rfl, .inl ⟨rfl, rfl⟩, rfl, fun i hi => by cases hi⟩
  · exact ⟨_, [], [], rfl, .inr (.inl ⟨o, rfl, rfl⟩), rfl, fun i hi => by cases hi⟩
  · rw [hc] at h5
    obtain ⟨l, l1, l2⟩ := list_choose (p := fun j (z : IdI) => cellsO ob 2 (j * 2) = some [I z.1, I z.2] ∧ InI z.1 ∧ InI z.2) ds.length fun j hj => by
      obtain ⟨cj, r1, _, r3⟩ := h5 j hj
      obtain ⟨t, k, rfl, ht, hk⟩ := rd_idb r3
      exact ⟨(t, k), r1, ht, hk⟩
    have hbd : ds.length ≤ 8796093022208 := by
      rw [hb] at h2
      have : reachBytes ≤ 140737488355328 := by decide
      omega
    refine ⟨_, l.map fun (i : IdI) => [I i.1, I i.2], l, rfl, .inr (.inr ⟨o, 0, true, c, _, by simp [l1], h3, h4, ⟨by simp; omega, fun _ => by simp; omega⟩, fun j hj => ?_⟩), rfl, fun i hi => ?_⟩
    · have hj' : j < l.length := by simpa using hj
      rw [Nat.zero_add, List.getElem_map]
      exact (l2 j hj').1
    · obtain ⟨j, hj, rfl⟩ := List.mem_iff_getElem.1 hi
      exact (l2 j hj).2
theorem rd_nms {n : Nat} {avs : List AV} {d : DataW H} (h : RdT Tryd.prog hp (n + 2) 23 avs d) : ∃ (v : AV) (els : List (List AV)) (nms : List (List UInt8)), avs = [v] ∧ Rd hp 1 v els ∧ NmsR els nms ∧ NmsB nms := by
  unfold RdT at h
  simp only [Tryd.underlying23] at h
  have hc : Tryd.prog.cellsOf 9 = 1 := by kernel_rfl
  have hb : Tryd.prog.bytesOf 9 = 16 := by kernel_rfl
  rcases h with ⟨rfl, _⟩ | ⟨o, rfl, _⟩ | ⟨o, c, ob, ds, sp, rfl, _, h1, h2, h3, h4, _, h5⟩
  · exact ⟨_, [], [], rfl, .inl ⟨rfl, rfl⟩, rfl, fun i hi => by cases hi⟩
  · exact ⟨_, [], [], rfl, .inr (.inl ⟨o, rfl, rfl⟩), rfl, fun i hi => by cases hi⟩
  · rw [hc] at h5
    obtain ⟨l, l1, l2⟩ := list_choose (p := fun j (z : List UInt8) => cellsO ob 1 (j * 1) = some [S z] ∧ z.length ≤ 140737488355328) ds.length fun j hj => by
      obtain ⟨cj, r1, _, r3⟩ := h5 j hj
      obtain ⟨s, rfl, hs⟩ := rdt_str Tryd.underlying9 r3
      exact ⟨s, r1, hs⟩
    have hbd : ds.length ≤ 8796093022208 := by
      rw [hb] at h2
      have : reachBytes ≤ 140737488355328 := by decide
      omega
    refine ⟨_, l.map fun s => [S s], l, rfl, .inr (.inr ⟨o, 0, true, c, _, by simp [l1], h3, h4, ⟨by simp; omega, fun _ => by simp; omega⟩, fun j hj => ?_⟩), rfl, fun i hi => ?_⟩
    · have hj' : j < l.length := by simpa using hj
      rw [Nat.zero_add, List.getElem_map]
      exact (l2 j hj').1
    · obtain ⟨j, hj, rfl⟩ := List.mem_iff_getElem.1 hi
      exact (l2 j hj).2
end
end Lg

namespace Lg
set_option linter.unusedSimpArgs false
set_option linter.unusedVariables false
set_option maxRecDepth 100000
open Go Go.Am Go.Proofs Go.RowKit Go.Proofs.YtnhamanffojhfaaDoor
theorem var_below {P : Program} {W w : World} (h : Below W.heap.size W w) {n : String} {cs : Array Value} (hv : W.var? P n = some cs) : w.var? P n = some cs := by
  unfold World.var? at hv ⊢
  cases hg : P.globalNamed n with
  | none => simp [hg] at hv
  | some g =>
    simp only [hg, Option.bind_some] at hv ⊢
    have hlt : g < W.heap.size := by
      rcases Nat.lt_or_ge g W.heap.size with h' | h'
      · exact h'
      · simp [Array.getElem?_eq_none h'] at hv
    rw [h.block g hlt]
    exact hv
theorem star : "*" ++ "errors.errorString" = "*errors.errorString" := by decide
theorem rowErr (u : TypeId) (h : Tryd.prog.typeName? 3 u = some "*errors.errorString") : u = 121 :=
  typeName_ptr_named (nm := "errors.errorString") (by rw [star]; kernel_rfl) (by kernel_rfl) (by decide) u (by rw [star]; exact h)
theorem gv_of {W : World} {r : List (String × DataW Unit)}
    (h : laidMet Tryd.prog (("internal/strconv.uint64pow10", Rows.laid_internal_strconv_uint64pow10) :: ("strconv.ErrRange", Rows.laid_strconv_ErrRange) :: ("strconv.ErrSyntax", Rows.laid_strconv_ErrSyntax) :: r) W) : GV W.heap.size W := by
  have htab : Lib.TabIs Tryd.prog W "internal/strconv.uint64pow10" .u64 Lib.pow10Tab := Lib.tabIs_of_head (g := 1) (t := 100) (e := 76) (by kernel_rfl) (by kernel_rfl) Tryd.underlying100 Tryd.underlying76 (by kernel_rfl) (by kernel_rfl) h
  have h1 := h.tail
  obtain ⟨a1, s1, v1, _⟩ := laid_sentinel (g := 3) (ti := 58) (tp := 121) h1 (by kernel_rfl) (by kernel_rfl) Tryd.underlying58 rowErr Tryd.underlying121 Tryd.underlying123 rfl rfl Tryd.underlying9 (by kernel_rfl) (by kernel_rfl)
  have h2 := h1.tail
  obtain ⟨a2, s2, v2, _⟩ := laid_sentinel (g := 2) (ti := 58) (tp := 121) h2 (by kernel_rfl) (by kernel_rfl) Tryd.underlying58 rowErr Tryd.underlying121 Tryd.underlying123 rfl rfl Tryd.underlying9 (by kernel_rfl) (by kernel_rfl)
  exact ⟨Lib.tabBelow_of_tabIs htab, ⟨_, _, fun w hb => var_below hb v2⟩, ⟨_, _, fun w hb => var_below hb v1⟩⟩
end Lg

namespace Lg
set_option linter.unusedSimpArgs false
set_option linter.unusedVariables false
set_option maxRecDepth 100000
open Go Go.Am Go.RowKit Go.Proofs Go.Proofs.YtnhamanffojhfaaDoor
open Go.Proofs.YtnhamanffojhfaaDoor.shl
section
variable {P : Program} {H : Type} {hp : Hp}
theorem rdt_strU {n : Nat} {t : TypeId} {avs : List AV} {d : DataW H} (hu : P.underlying t = some .string) (h : RdT P hp (n + 1) t avs d) : ∃ l, avs = [S l] ∧ l.length ≤ 140737488355328 ∧ d = .lit (.string l) := by
  unfold RdT at h
  simp only [hu] at h
  obtain ⟨z, h1, h3, h2⟩ := h
  have : reachBytes ≤ 140737488355328 := by decide
  exact ⟨z, h1, by omega, h3⟩
theorem bulk_strs : ∀ l : List (List UInt8), (tailP l).length = Rows.uptoBulkAll (l.map fun s => (DataW.lit (.string s) : DataW H))
  | [] => rfl
  | x :: r => by
    show (47 :: (x ++ tailP r)).length = (x.length + 1) + Rows.uptoBulkAll (r.map fun s => (DataW.lit (.string s) : DataW H))
    rw [← bulk_strs r]
    simp only [List.length_cons, List.length_append]
    omega
theorem joinP_le (l : List (List UInt8)) : (joinP l).length ≤ (tailP l).length := by
  cases l with
  | nil => exact Nat.le_refl _
  | cons a r => show (a ++ tailP r).length ≤ (47 :: (a ++ tailP r)).length; simp
theorem rd_nmsU {n : Nat} {avs : List AV} {d : DataW H} (h : RdT Tryd.prog hp (n + 2) 23 avs d) : ∃ (v : AV) (nms : List (List UInt8)), avs = [v] ∧ Rd hp 1 v (strE nms) ∧ NmsB nms ∧ (joinP nms).length ≤ Rows.uptoBulk d := by
  unfold RdT at h
  simp only [Tryd.underlying23] at h
  have hc : Tryd.prog.cellsOf 9 = 1 := by kernel_rfl
  have hb : Tryd.prog.bytesOf 9 = 16 := by kernel_rfl
  rcases h with ⟨rfl, _⟩ | ⟨o, rfl, _⟩ | ⟨o, c, ob, ds, sp, rfl, hd, h1, h2, h3, h4, _, h5⟩
  · exact ⟨_, [], rfl, .inl ⟨rfl, rfl⟩, (fun i hi => by cases hi), Nat.zero_le _⟩
  · exact ⟨_, [], rfl, .inr (.inl ⟨o, rfl, rfl⟩), (fun i hi => by cases hi), Nat.zero_le _⟩
  · rw [hc] at h5
    obtain ⟨l, l1, l2⟩ := list_choose (p := fun j (z : List UInt8) => cellsO ob 1 (j * 1) = some [S z] ∧ z.length ≤ 140737488355328 ∧ ds[j]? = some (.lit (.string z))) ds.length fun j hj => by
      obtain ⟨cj, r1, _, r3⟩ := h5 j hj
      obtain ⟨s, rfl, hs, hds⟩ := rdt_strU Tryd.underlying9 r3
      exact ⟨s, r1, hs, by rw [List.getElem?_eq_getElem hj, hds]⟩
    have hbd : ds.length ≤ 8796093022208 := by
      rw [hb] at h2
      have : reachBytes ≤ 140737488355328 := by decide
      omega
    have hds : ds = l.map fun s => .lit (.string s) := List.ext_getElem? fun j => by
      rw [List.getElem?_map]
      by_cases hj : j < l.length
      · rw [(l2 j hj).2.2, List.getElem?_eq_getElem hj]
        rfl
      · rw [List.getElem?_eq_none (by omega), List.getElem?_eq_none (by omega)]
        rfl
    refine ⟨_, l, rfl, .inr (.inr ⟨o, 0, true, c, _, by rw [strE_len, l1], h3, h4, ⟨by rw [strE_len]; omega, fun _ => by rw [strE_len]; omega⟩, fun j hj => ?_⟩), fun i hi => ?_, ?_⟩
    · have hj' : j < l.length := by simpa [strE] using hj
      rw [Nat.zero_add, strE_at]
      exact (l2 j hj').1
    · obtain ⟨j, hj, rfl⟩ := List.mem_iff_getElem.1 hi
      exact (l2 j hj).2.1
    · rw [hd]
      have := bulk_strs (H := H) l
      have := joinP_le l
      show _ ≤ Rows.uptoBulkAll ds + Rows.uptoBulkAll sp + 1
      rw [hds]
      omega
end
theorem gv_parts {W : World} {r r' : List (String × DataW Unit)} (h : laidMet Tryd.prog (("internal/strconv.uint64pow10", Rows.laid_internal_strconv_uint64pow10) :: r) W)
    (h1 : laidMet Tryd.prog (("strconv.ErrRange", Rows.laid_strconv_ErrRange) :: ("strconv.ErrSyntax", Rows.laid_strconv_ErrSyntax) :: r') W) : GV W.heap.size W := by
  have htab : Lib.TabIs Tryd.prog W "internal/strconv.uint64pow10" .u64 Lib.pow10Tab := Lib.tabIs_of_head (g := 1) (t := 100) (e := 76) (by kernel_rfl) (by kernel_rfl) Tryd.underlying100 Tryd.underlying76 (by kernel_rfl) (by kernel_rfl) h
  obtain ⟨a1, s1, v1, _⟩ := laid_sentinel (g := 3) (ti := 58) (tp := 121) h1 (by kernel_rfl) (by kernel_rfl) Tryd.underlying58 rowErr Tryd.underlying121 Tryd.underlying123 rfl rfl Tryd.underlying9 (by kernel_rfl) (by kernel_rfl)
  have h2 := h1.tail
  obtain ⟨a2, s2, v2, _⟩ := laid_sentinel (g := 2) (ti := 58) (tp := 121) h2 (by kernel_rfl) (by kernel_rfl) Tryd.underlying58 rowErr Tryd.underlying121 Tryd.underlying123 rfl rfl Tryd.underlying9 (by kernel_rfl) (by kernel_rfl)
  exact ⟨Lib.tabBelow_of_tabIs htab, ⟨_, _, fun w hb => var_below hb v2⟩, ⟨_, _, fun w hb => var_below hb v1⟩⟩
end Lg

