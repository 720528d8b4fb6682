/-
  What functions of the program do, said of the abstract machine, and plain lemmas: LcMap LcShown LcShown2 LcShown3 LcApart LcApart2 LcApart3 LgTab16A LcArg LcGv. No condition.
-/
import Derived.Test.YtnhamanffojhfaaDoorG4
import Derived.KernelRfl
import Derived.Test.YtnhamanffojhfaaDoorRows
import Derived.Stop.LaidErr
import Derived.Lib.LaidTab
import Derived.Lib.AppendIntMem
namespace Lg
set_option linter.unusedSimpArgs false
set_option linter.unusedVariables false
set_option maxRecDepth 100000
open Go Go.Am Go.Lib
open Go.Proofs.YtnhamanffojhfaaDoor.shl
theorem eqKS_S (a b : List UInt8) : eqKS (S a) (S b) = some (decide (a = b)) := by
  show some (eqS a.length (packL a) b.length (packL b)) = _
  rw [eqS_S]
abbrev KV := List UInt8 × Int × Nat
def kvE (p : KV) : AV × AV × Nat := (S p.1, I p.2.1, p.2.2)
def lk : List KV → List UInt8 → Option Int
  | [], _ => none
  | p :: r, key => if key = p.1 then some p.2.1 else lk r key
def updKV : List KV → List UInt8 → Int → List KV
  | [], _, _ => []
  | p :: r, key, v => if key = p.1 then (p.1, v, p.2.2) :: r else p :: updKV r key v
theorem find_none : ∀ (kvs : List KV) (key : List UInt8) (i : Nat), lk kvs key = none → findA eqKS (S key) (kvs.map kvE) i = some none
  | [], _, _, _ => rfl
  | p :: r, key, i, h => by
    unfold lk at h
    split at h
    · cases h
    · rename_i hk
      show (match eqKS (S key) (S p.1) with | some true => _ | some false => findA eqKS (S key) (r.map kvE) (Nat.succ i) | none => none) = _
      rw [eqKS_S, decide_eq_false hk]
      exact find_none r key (Nat.succ i) h
theorem find_some : ∀ (kvs : List KV) (key : List UInt8) (i : Nat) (v : Int), lk kvs key = some v → ∃ j, findA eqKS (S key) (kvs.map kvE) i = some (some (i + j, I v)) ∧ ∀ u, modE (I u) (kvs.map kvE) j = (updKV kvs key u).map kvE
  | [], _, _, _, h => by cases h
  | p :: r, key, i, v, h => by
    unfold lk at h
    split at h
    · rename_i hk
      cases h
      refine ⟨0, ?_, fun u => ?_⟩
      · show (match eqKS (S key) (S p.1) with | some true => some (some (i, I p.2.1)) | some false => findA eqKS (S key) (r.map kvE) (Nat.succ i) | none => none) = _
        rw [eqKS_S, decide_eq_true hk]
        rfl
      · unfold updKV
        rw [if_pos hk]
        rfl
    · rename_i hk
      obtain ⟨j, h1, h2⟩ := find_some r key (Nat.succ i) v h
      refine ⟨j + 1, ?_, fun u => ?_⟩
      · show (match eqKS (S key) (S p.1) with | some true => some (some (i, I p.2.1)) | some false => findA eqKS (S key) (r.map kvE) (Nat.succ i) | none => none) = _
        rw [eqKS_S, decide_eq_false hk]
        show findA eqKS (S key) (r.map kvE) (Nat.succ i) = _
        rw [h1]
        congr 3
        omega
      · unfold updKV
        rw [if_neg hk]
        show kvE p :: modE (I u) (r.map kvE) j = kvE p :: _
        rw [h2 u]
theorem lk_upd : ∀ (kvs : List KV) (key : List UInt8) (v u : Int), lk kvs key = some v → ∀ k2, lk (updKV kvs key u) k2 = if k2 = key then some u else lk kvs k2
  | [], _, _, _, h, _ => by cases h
  | p :: r, key, v, u, h, k2 => by
    unfold lk at h
    unfold updKV
    split at h
    · rename_i hk
      rw [if_pos hk]
      unfold lk
      by_cases h2 : k2 = key
      · rw [if_pos h2, if_pos (h2.trans hk)]
      · rw [if_neg h2, if_neg (fun e => h2 (e.trans hk.symm))]
        try dsimp only
        try rw [if_neg (fun e => h2 (e.trans hk.symm))]
    · rename_i hk
      rw [if_neg hk]
      unfold lk
      by_cases h2 : k2 = p.1
      · rw [if_pos h2, if_neg (fun e => hk (e.symm.trans h2)), if_pos h2]
      · rw [if_neg h2, if_neg h2]
        exact lk_upd r key v u h k2
theorem lk_app : ∀ (kvs : List KV) (key : List UInt8) (u : Int) (c : Nat), lk kvs key = none → ∀ k2, lk (kvs ++ [(key, u, c)]) k2 = if k2 = key then some u else lk kvs k2
  | [], key, u, c, _, k2 => rfl
  | p :: r, key, u, c, h, k2 => by
    unfold lk at h
    split at h
    · cases h
    · rename_i hk
      show lk (p :: (r ++ [(key, u, c)])) k2 = _
      unfold lk
      by_cases h2 : k2 = p.1
      · rw [if_pos h2, if_neg (fun e => hk (e.symm.trans h2)), if_pos h2]
      · rw [if_neg h2, if_neg h2]
        exact lk_app r key u c h k2
section
variable {h : Hp} {K : AV → Hp → Prop} {mo c : Nat} {kvs : List KV} {key : List UInt8}
theorem look2_go (hat : h.at mo = some ⟨true, 0, .map (kvs.map kvE) c⟩) (h1 : ∀ v, lk kvs key = some v → K (.tup [I v, .bool true]) h) (h2 : lk kvs key = none → K (.tup [I 0, .bool false]) h) : vLookup eqKS true (.int .i64 0) (.map mo) (S key) h K := by
  show asOpt (eqKS (S key) (S key)) fun b => gd b (asOpt (h.at mo) fun e => asMap e.obj fun es _ => asOpt (findA eqKS (S key) es 0) fun r => finLook true (.int .i64 0) h K r)
  rw [eqKS_S, asOpt_some, decide_eq_true rfl, gd_true, hat, asOpt_some]
  show asOpt (findA eqKS (S key) (kvs.map kvE) 0) fun r => finLook true (.int .i64 0) h K r
  cases hl : lk kvs key with
  | none =>
    rw [find_none kvs key 0 hl, asOpt_some]
    exact h2 hl
  | some v =>
    obtain ⟨j, q1, _⟩ := find_some kvs key 0 v hl
    rw [q1, asOpt_some]
    exact h1 v hl
theorem look1_go (hat : h.at mo = some ⟨true, 0, .map (kvs.map kvE) c⟩) (h1 : ∀ v, lk kvs key = some v → K (I v) h) (h2 : lk kvs key = none → K (I 0) h) : vLookup eqKS false (.int .i64 0) (.map mo) (S key) h K := by
  show asOpt (eqKS (S key) (S key)) fun b => gd b (asOpt (h.at mo) fun e => asMap e.obj fun es _ => asOpt (findA eqKS (S key) es 0) fun r => finLook false (.int .i64 0) h K r)
  rw [eqKS_S, asOpt_some, decide_eq_true rfl, gd_true, hat, asOpt_some]
  show asOpt (findA eqKS (S key) (kvs.map kvE) 0) fun r => finLook false (.int .i64 0) h K r
  cases hl : lk kvs key with
  | none =>
    rw [find_none kvs key 0 hl, asOpt_some]
    exact h2 hl
  | some v =>
    obtain ⟨j, q1, _⟩ := find_some kvs key 0 v hl
    rw [q1, asOpt_some]
    exact h1 v hl
theorem mapset_go {u : Int} (hat : h.at mo = some ⟨true, 0, .map (kvs.map kvE) c⟩) (q : ∀ kvs' c', (∀ k2, lk kvs' k2 = if k2 = key then some u else lk kvs k2) → K undefV (h.put mo (some ⟨true, 0, .map (kvs'.map kvE) c'⟩))) : vMapSet eqKS (.map mo) (S key) (I u) h K := by
  show asOpt (eqKS (S key) (S key)) fun b => gd b (asOpt (h.at mo) fun e => gd e.own (asMap e.obj fun es c => asOpt (findA eqKS (S key) es 0) fun r =>
    Option.rec (motive := fun _ => Prop) (putK h mo (some ⟨true, e.esz, .map (es ++ [(S key, I u, c)]) (Nat.succ c)⟩) fun h => K undefV h)
      (fun p => putK h mo (some ⟨true, e.esz, .map (modE (I u) es p.1) c⟩) fun h => K undefV h) r))
  rw [eqKS_S, asOpt_some, decide_eq_true rfl, gd_true, hat, asOpt_some]
  show gd true (asOpt (findA eqKS (S key) (kvs.map kvE) 0) fun r =>
    Option.rec (motive := fun _ => Prop) (putK h mo (some ⟨true, 0, .map (kvs.map kvE ++ [(S key, I u, c)]) (Nat.succ c)⟩) fun h => K undefV h)
      (fun p => putK h mo (some ⟨true, 0, .map (modE (I u) (kvs.map kvE) p.1) c⟩) fun h => K undefV h) r)
  rw [gd_true]
  cases hl : lk kvs key with
  | none =>
    rw [find_none kvs key 0 hl, asOpt_some]
    show putK h mo (some ⟨true, 0, .map (kvs.map kvE ++ [(S key, I u, c)]) (Nat.succ c)⟩) fun h => K undefV h
    rw [putK_eq']
    have := q (kvs ++ [(key, u, c)]) (Nat.succ c) (lk_app kvs key u c hl)
    rw [List.map_append] at this
    exact this
  | some v =>
    obtain ⟨j, q1, q2⟩ := find_some kvs key 0 v hl
    rw [q1, asOpt_some]
    show putK h mo (some ⟨true, 0, .map (modE (I u) (kvs.map kvE) (0 + j)) c⟩) fun h => K undefV h
    rw [putK_eq', Nat.zero_add, q2 u]
    exact q _ c (lk_upd kvs key v u hl)
theorem mkmap_go (q : K (.map h.next) (h.new ⟨true, 0, .map (([] : List KV).map kvE) 0⟩)) : vMkMap h K := by
  show newK h ⟨true, 0, .map [] 0⟩ fun o h => K (.map o) h
  rw [newK_eq']
  exact q
end
/-- Names and IDs as they are read. -/
def NmsR (els : List (List AV)) (ns : List (List UInt8)) : Prop := els = ns.map fun s => [S s]
abbrev IdI := Int × Int
def IdsR (els : List (List AV)) (ids : List IdI) : Prop := els = ids.map fun i => [I i.1, I i.2]
theorem cut_rd {h : Hp} {K : AV → Hp → Prop} {esz : Nat} {v : AV} {els : List (List AV)} (hv : Rd h esz v els) (k : Nat) (hk : k ≤ els.length) (hK : ∀ v', Rd h esz v' (els.take k) → K v' h) : vSlice2 esz v none (some (I k)) h K := by
  rcases hv with ⟨rfl, rfl⟩ | ⟨o, rfl, rfl⟩ | ⟨o, off, kn, c, e, rfl, h1, h2, h3, h4⟩
  · have : k = 0 := by simpa using hk
    subst this
    exact cut_nil (hK _ (.inl ⟨rfl, rfl⟩))
  · have : k = 0 := by simpa using hk
    subst this
    exact cut_z (hK _ (.inr (.inl ⟨o, rfl, rfl⟩)))
  · refine cut_slice hk h3.2 (hK _ (.inr (.inr ⟨o, off, kn, c, e, ?_, h1, h2, ⟨?_, ?_⟩, fun j hj => ?_⟩)))
    · rw [List.length_take, Nat.min_eq_left hk]
    · rw [List.length_take]; omega
    · intro q; have := h3.2 q; rw [List.length_take]; omega
    · have hj' : j < els.length := by rw [List.length_take] at hj; omega
      rw [List.getElem_take]
      exact h4 j hj'
end Lg

namespace Lg
set_option linter.unusedSimpArgs false
set_option linter.unusedVariables false
set_option maxRecDepth 100000
open Go Go.Am Go.Lib
open Go.Proofs.YtnhamanffojhfaaDoor.shl
/-! ### plain -/
def betB (f : Nat → IdI) (k i : Nat) : Bool := lessI (f k).1 (f k).2 (f i).1 (f i).2 || (decide (k < i) && sameI (f k).1 (f k).2 (f i).1 (f i).2)
def isBet (f : Nat → IdI) (g : Nat → List UInt8) (n i : Nat) : Bool := (List.range n).any fun k => decide (g k = g i) && betB f k i
def shG (f : Nat → IdI) (g : Nat → List UInt8) (n i : Nat) : List UInt8 := if isBet f g n i = true then g i ++ sufB (f i).1 (f i).2 else g i
def idAt (ids : List IdI) (k : Nat) : IdI := ids.getD k (0, 0)
def nmAt (nms : List (List UInt8)) (k : Nat) : List UInt8 := nms.getD k []
def shL (f : Nat → IdI) (g : Nat → List UInt8) (n : Nat) : List (List UInt8) := (List.range n).map (shG f g n)
def FirstI (f : Nat → IdI) (g : Nat → List UInt8) (j : Nat) (M : List UInt8 → Option Int) : Prop :=
  ∀ key, (M key = none → ∀ k, k < j → g k ≠ key) ∧ ∀ v, M key = some v → ∃ k : Nat, v = (k : Int) ∧ k < j ∧ g k = key ∧ ∀ k', k' < j → g k' = key → betB f k' k = false
theorem bet_iff (f : Nat → IdI) (k i : Nat) : betB f k i = true ↔ ((f k).1 < (f i).1 ∨ ((f k).1 = (f i).1 ∧ (f k).2 < (f i).2)) ∨ (k < i ∧ (f k).1 = (f i).1 ∧ (f k).2 = (f i).2) := by
  unfold betB lessI sameI
  simp
theorem bet_no (f : Nat → IdI) (k i : Nat) : betB f k i = false ↔ ¬ (((f k).1 < (f i).1 ∨ ((f k).1 = (f i).1 ∧ (f k).2 < (f i).2)) ∨ (k < i ∧ (f k).1 = (f i).1 ∧ (f k).2 = (f i).2)) := by
  rw [← bet_iff]
  simp
theorem first_nil (f : Nat → IdI) (g : Nat → List UInt8) : FirstI f g 0 (lk []) := fun key => ⟨fun _ k hk => absurd hk (Nat.not_lt_zero _), fun v hv => by cases hv⟩
theorem first_set {f : Nat → IdI} {g : Nat → List UInt8} {j : Nat} {M M' : List UInt8 → Option Int} (hM : FirstI f g j M) (hj : M (g j) = none ∨ ∃ k : Nat, M (g j) = some (k : Int) ∧ lessI (f j).1 (f j).2 (f k).1 (f k).2 = true) (h' : ∀ key, M' key = if key = g j then some (j : Int) else M key) : FirstI f g (j + 1) M' := fun key => by
  rw [h' key]
  by_cases hk : key = g j
  · rw [if_pos hk]
    refine ⟨fun q => (by cases q), fun v hv => ⟨j, (by cases hv; rfl), by omega, hk.symm, fun k' hk' he => ?_⟩⟩
    rw [bet_no]
    rcases hj with hj | ⟨k, hk1, hk2⟩
    · have h1 := (hM (g j)).1 hj
      have : k' = j := by
        rcases Nat.lt_or_ge k' j with q | q
        · exact absurd (he.trans hk) (h1 k' q)
        · omega
      subst this
      omega
    · obtain ⟨k0, e0, k1, k2, k3⟩ := (hM (g j)).2 _ hk1
      have : k = k0 := by omega
      subst this
      by_cases hkj : k' = j
      · subst hkj; omega
      · have := k3 k' (by omega) (he.trans hk)
        rw [bet_no] at this
        unfold lessI at hk2
        simp at hk2
        omega
  · rw [if_neg hk]
    refine ⟨fun q k hk' => ?_, fun v hv => ?_⟩
    · by_cases hkj : k = j
      · subst hkj; exact fun e => hk e.symm
      · exact (hM key).1 q k (by omega)
    · obtain ⟨k, e1, e2, e3, e4⟩ := (hM key).2 v hv
      refine ⟨k, e1, by omega, e3, fun k' hk' he => ?_⟩
      by_cases hkj : k' = j
      · subst hkj; exact absurd he.symm hk
      · exact e4 k' (by omega) he
theorem first_keep {f : Nat → IdI} {g : Nat → List UInt8} {j k : Nat} {M : List UInt8 → Option Int} (hM : FirstI f g j M) (hk : M (g j) = some (k : Int)) (hl : lessI (f j).1 (f j).2 (f k).1 (f k).2 = false) : FirstI f g (j + 1) M := fun key => by
  refine ⟨fun q k' hk' => ?_, fun v hv => ?_⟩
  · by_cases hkj : k' = j
    · subst hkj
      intro e
      rw [← e, hk] at q
      cases q
    · exact (hM key).1 q k' (by omega)
  · obtain ⟨k1, e1, e2, e3, e4⟩ := (hM key).2 v hv
    refine ⟨k1, e1, by omega, e3, fun k' hk' he => ?_⟩
    by_cases hkj : k' = j
    · subst hkj
      rw [← he, hk] at hv
      have : k = k1 := by
        have := Option.some.inj hv
        omega
      subst this
      rw [bet_no]
      unfold lessI at hl
      simp at hl
      omega
    · exact e4 k' (by omega) he
theorem first_end {f : Nat → IdI} {g : Nat → List UInt8} {n i : Nat} {M : List UInt8 → Option Int} (hM : FirstI f g n M) (hi : i < n) : ∃ k : Nat, M (g i) = some (k : Int) ∧ (k = i ↔ isBet f g n i = false) := by
  cases hm : M (g i) with
  | none => exact absurd rfl ((hM (g i)).1 hm i hi)
  | some v =>
    obtain ⟨k, e1, e2, e3, e4⟩ := (hM (g i)).2 v hm
    refine ⟨k, by rw [e1], fun e => ?_, fun e => ?_⟩
    · subst e
      unfold isBet
      rw [List.any_eq_false]
      intro k' hk'
      have hlt := List.mem_range.1 hk'
      by_cases hg : g k' = g k
      · rw [decide_eq_true hg, e4 k' hlt hg]; simp
      · rw [decide_eq_false hg]; simp
    · unfold isBet at e
      rw [List.any_eq_false] at e
      have h1 := e k (List.mem_range.2 e2)
      rw [decide_eq_true e3, Bool.true_and] at h1
      have h1' : betB f k i = false := by simpa using h1
      have h2 := e4 i hi rfl
      rw [bet_no] at h1' h2
      omega
/-! ### the run -/
section
variable (cf : CallK) (fuel : Nat) {h : Hp} {K : AV → Hp → Prop}
theorem nms_at {els : List (List AV)} {nms : List (List UInt8)} (hn : NmsR els nms) {i : Nat} (hi : i < els.length) : els[i] = [S (nmAt nms i)] := by
  unfold NmsR at hn
  subst hn
  have hi' : i < nms.length := by simpa using hi
  simp [nmAt, hi']
theorem ids_at {els : List (List AV)} {ids : List IdI} (hn : IdsR els ids) {i : Nat} (hi : i < els.length) : els[i] = [I (idAt ids i).1, I (idAt ids i).2] := by
  unfold IdsR at hn
  subst hn
  have hi' : i < ids.length := by simpa using hi
  simp [idAt, hi']
theorem cellsO_one {ob : AObj} {off : Nat} {a : AV} (h : cellsO ob 1 off = some [a]) : cellAt ob off = some a := by
  unfold cellsO at h
  cases hc : cellAt ob off with
  | none => rw [hc] at h; simp at h
  | some b =>
    rw [hc] at h
    simp [cellsO] at h
    rw [h]
theorem ShownL6_run (hL : cf 25 = cIdB2 lessI) {h0 : Hp} {v1 v2 : AV} {els1 els2 : List (List AV)} {ids : List IdI} {nms : List (List UInt8)} (hr1 : Rd h0 2 v1 els1) (hi1 : IdsR els1 ids) (hr2 : Rd h0 1 v2 els2) (hi2 : NmsR els2 nms) {n : Nat} (hn : n ≤ els1.length ∧ n ≤ els2.length) (hsm : n ≤ 1000000) {mo : Nat} (hmo : h0.next ≤ mo) (t5 : AV) (e0 : Hp → Prop)
    (he : ∀ h' kvs c, Ext h0 h' → mo < h'.next → h'.at mo = some ⟨true, 0, .map (kvs.map kvE) c⟩ → FirstI (idAt ids) (nmAt nms) n (lk kvs) → e0 h') :
    ∀ (d i fm : Nat) (h : Hp) (kvs : List KV) (c : Nat), i + d = n → d < fm → Ext h0 h → mo < h.next → h.at mo = some ⟨true, 0, .map (kvs.map kvE) c⟩ → FirstI (idAt ids) (nmAt nms) i (lk kvs) → s_clash_ShownL6 cf fuel e0 v1 v2 t5 (.map mo) (I n) fm (I i) h
  | d, i, fm, h, kvs, c, hd, hm, hx, hlt, hmap, hF => by
    obtain ⟨fm, rfl⟩ : ∃ j, fm = j + 1 := ⟨fm - 1, by omega⟩
    rw [s_clash_ShownL6_succ]
    unfold s_clash_ShownL6B
    by_cases hi : i < n
    · obtain ⟨d, rfl⟩ : ∃ j, d = j + 1 := ⟨d - 1, by omega⟩
      have e1 : ((i : Int) + 1) = ((i + 1 : Nat) : Int) := by omega
      obtain ⟨o1, off1, kn1, c1, en1, rfl, hat1, hc1⟩ := (hr1.mono hx).openS (i := i) (by omega)
      obtain ⟨o2, off2, kn2, c2, en2, rfl, hat2, hc2⟩ := (hr2.mono hx).openS (i := i) (by omega)
      have q2 := hc2 i (by omega)
      rw [nms_at hi2] at q2
      have q2' := cellsO_one q2
      have q1 := hc1 i (by omega)
      rw [ids_at hi1] at q1
      have ih := ShownL6_run hL hr1 hi1 hr2 hi2 hn hsm hmo t5 e0 he d (i + 1) fm
      have setv : lk kvs (nmAt nms i) = none ∨ (∃ k : Nat, lk kvs (nmAt nms i) = some (k : Int) ∧ lessI (idAt ids i).1 (idAt ids i).2 (idAt ids k).1 (idAt ids k).2 = true) → vMapSet eqKS (.map mo) (S (nmAt nms i)) (I i) h fun _ h => vAdd (I i) (.int .i64 1) h fun t51 h => s_clash_ShownL6 cf fuel e0 (.slice o1 off1 els1.length kn1 c1) (.slice o2 off2 els2.length kn2 c2) t5 (.map mo) (I n) fm t51 h := fun hor => by
        refine mapset_go hmap (fun kvs' c' hk => ?_)
        (try unfold vMov); repeat' (first | refine Step.imp ?_ | (refine Way.mk (fun hp => ?_) (fun hp => ?_) <;> first | contradiction | (exfalso; omega) | skip) | refine LoadG.mkG ?_ | refine LoadsG.mkG ?_ | refine AtG.mkG ?_ | refine StoreG.mkG ?_ | refine CondG.mkG ?_ | fail); (all_goals (try dsimp only))
        rw [e1]
        exact ih _ kvs' c' (by omega) (by omega) (hx.put _ hmo) (by simp only [Hp.next_put]; exact hlt) (Hp.at_put_self _ _ _) (first_set hF hor hk)
      (try unfold vMov); repeat' (first | refine Step.imp ?_ | (refine Way.mk (fun hp => ?_) (fun hp => ?_) <;> first | contradiction | (exfalso; omega) | skip) | refine LoadG.mkG ?_ | refine LoadsG.mkG ?_ | refine AtG.mkG ?_ | refine StoreG.mkG ?_ | refine CondG.mkG ?_ | fail); (all_goals (try dsimp only))
      unfold s_clash_ShownB17
      (try unfold vMov); repeat' (first | refine Step.imp ?_ | (refine Way.mk (fun hp => ?_) (fun hp => ?_) <;> first | contradiction | (exfalso; omega) | skip) | refine LoadG.mkG ?_ | refine LoadsG.mkG ?_ | refine AtG.mkG ?_ | refine StoreG.mkG ?_ | refine CondG.mkG ?_ | (refine LoadG.mk2 hat2 q2' (by omega) ?_) | fail); (all_goals (try dsimp only))
      refine look2_go hmap (fun v hv => ?_) (fun hnone => ?_)
      · obtain ⟨k, rfl, hk1, hk2, hk3⟩ := (hF (nmAt nms i)).2 v hv
        have q3 := hc1 k (by omega)
        rw [ids_at hi1] at q3
        (try unfold vMov); repeat' (first | refine Step.imp ?_ | (refine Way.mk (fun hp => ?_) (fun hp => ?_) <;> first | contradiction | (exfalso; omega) | skip) | refine LoadG.mkG ?_ | refine LoadsG.mkG ?_ | refine AtG.mkG ?_ | refine StoreG.mkG ?_ | refine CondG.mkG ?_ | (refine LoadsG.mk2 hat1 q1 (by omega) ?_) | (refine LoadsG.mk2 hat1 q3 (by omega) ?_) | fail); (all_goals (try dsimp only))
        refine cIdB2_go hL (fun hl => ?_) (fun hl => ?_)
        · (try unfold vMov); repeat' (first | refine Step.imp ?_ | (refine Way.mk (fun hp => ?_) (fun hp => ?_) <;> first | contradiction | (exfalso; omega) | skip) | refine LoadG.mkG ?_ | refine LoadsG.mkG ?_ | refine AtG.mkG ?_ | refine StoreG.mkG ?_ | refine CondG.mkG ?_ | (refine LoadG.mk2 hat2 q2' (by omega) ?_) | fail); (all_goals (try dsimp only))
          exact setv (.inr ⟨k, hv, hl⟩)
        · (try unfold vMov); repeat' (first | refine Step.imp ?_ | (refine Way.mk (fun hp => ?_) (fun hp => ?_) <;> first | contradiction | (exfalso; omega) | skip) | refine LoadG.mkG ?_ | refine LoadsG.mkG ?_ | refine AtG.mkG ?_ | refine StoreG.mkG ?_ | refine CondG.mkG ?_ | fail); (all_goals (try dsimp only))
          rw [e1]
          exact ih h kvs c (by omega) (by omega) hx hlt hmap (first_keep hF hv hl)
      · (try unfold vMov); repeat' (first | refine Step.imp ?_ | (refine Way.mk (fun hp => ?_) (fun hp => ?_) <;> first | contradiction | (exfalso; omega) | skip) | refine LoadG.mkG ?_ | refine LoadsG.mkG ?_ | refine AtG.mkG ?_ | refine StoreG.mkG ?_ | refine CondG.mkG ?_ | (refine LoadG.mk2 hat2 q2' (by omega) ?_) | fail); (all_goals (try dsimp only))
        exact setv (.inl hnone)
    · have hd0 : d = 0 := by omega
      subst hd0
      have : i = n := by omega
      subst this
      (try unfold vMov); repeat' (first | refine Step.imp ?_ | (refine Way.mk (fun hp => ?_) (fun hp => ?_) <;> first | contradiction | (exfalso; omega) | skip) | refine LoadG.mkG ?_ | refine LoadsG.mkG ?_ | refine AtG.mkG ?_ | refine StoreG.mkG ?_ | refine CondG.mkG ?_ | fail); (all_goals (try dsimp only))
      exact he h kvs c hx hlt hmap hF
end
end Lg

namespace Lg
set_option linter.unusedSimpArgs false
set_option linter.unusedVariables false
set_option maxRecDepth 100000
open Go Go.Am Go.Lib
open Go.Proofs.YtnhamanffojhfaaDoor.shl
def strE (l : List (List UInt8)) : List (List AV) := l.map fun s => [S s]
theorem ext_none2 (h : Hp) : Ext ⟨.lf, 0⟩ h := ⟨Nat.zero_le _, fun o ho => absurd ho (Nat.not_lt_zero _)⟩
theorem rdLen {h : Hp} {esz : Nat} {v : AV} {els : List (List AV)} (hv : Rd h esz v els) (h' : Hp) : vLenL2 v h' = fun K' => K' (I els.length) h' := by
  funext K'
  rcases hv with ⟨rfl, rfl⟩ | ⟨_, rfl, rfl⟩ | ⟨o, off, kn, c, e, rfl, _⟩ <;> rfl
section
variable (cf : CallK) (fuel : Nat) {h : Hp} {K : AV → Hp → Prop}
/-- One string more. -/
theorem appStr_go {h0 : Hp} {v : AV} {out : List (List UInt8)} {B : Nat} {s : List UInt8} (hx : Ext h0 h) (hv : SlN h 1 v (strE out) B) (hB : h0.next ≤ B) (hBn : B ≤ h.next) (hs : out.length ≤ 1000000) (q : ∀ v' h', Ext h0 h' → h.next < h'.next → (∀ p, p < B → h'.at p = h.at p) → SlN h' 1 v' (strE (out ++ [s])) B → K v' h') :
    vAppend2 1 16 false v (.slice h.next 0 1 true 1) (h.new ⟨true, 1, .row (setL (repL [AV.str 0 0] 1) 0 [S s])⟩) K := by
  have hrow : setL (repL [AV.str 0 0] 1) 0 [S s] = [S s] := rfl
  try rw [hrow]
  have hlen : (strE out).length = out.length := by simp [strE]
  refine append_own2 (els := strE out) (news := [[S s]]) (B := B) (h0 := h0) (hx.new _) (hv.ext (by repeat (first | exact Ext.refl _ | assumption | apply Ext.new | (refine Ext.put ?_ _ (by first | omega | (simp; done) | (simp; omega)))))) hB (by simp only [Hp.next_new]; omega) ⟨_, 0, true, 1, _, rfl, Hp.at_new_self _ _, rfl⟩ (by intro y hy; rw [List.mem_singleton.1 hy]; rfl) (by simp) (by simp only [List.length_singleton]; omega) (fun v' h' w1 w2 w3 w4 => ?_)
  refine q v' h' w1 (by simp only [Hp.next_new] at w2; omega) (fun p hp => ?_) ?_
  · rw [w3 p (by simp only [Hp.next_new]; omega) (fun off n kn c e => ?_), Hp.at_new_lt _ (by omega)]
    rcases hv with ⟨e9, _⟩ | ⟨o9, ob9, e9, b9, _⟩
    · rw [e9] at e; cases e
    · rw [e9] at e; cases e; omega
  · have : strE (out ++ [s]) = strE out ++ [[S s]] := by simp [strE]
    rw [this]
    exact w4.weak (by simp only [Hp.next_new]; omega)
def IdsB (ids : List IdI) : Prop := ∀ i ∈ ids, InI i.1 ∧ InI i.2
def NmsB (nms : List (List UInt8)) : Prop := ∀ s ∈ nms, s.length ≤ 140737488355328
theorem idsB_at {ids : List IdI} (hb : IdsB ids) (k : Nat) : InI (idAt ids k).1 ∧ InI (idAt ids k).2 := by
  unfold idAt
  by_cases hk : k < ids.length
  · have : ids.getD k (0, 0) = ids[k] := by simp [hk]
    rw [this]
    exact hb _ (List.getElem_mem hk)
  · have : ids.getD k (0, 0) = (0, 0) := by simp [hk]
    rw [this]
    exact ⟨⟨by omega, by omega⟩, ⟨by omega, by omega⟩⟩
theorem nmsB_at {nms : List (List UInt8)} (hb : NmsB nms) (k : Nat) : (nmAt nms k).length ≤ 140737488355328 := by
  unfold nmAt
  by_cases hk : k < nms.length
  · have : nms.getD k [] = nms[k] := by simp [hk]
    rw [this]
    exact hb _ (List.getElem_mem hk)
  · have : nms.getD k [] = [] := by simp [hk]
    rw [this]
    simp
theorem shL_snoc (f : Nat → IdI) (g : Nat → List UInt8) (n i : Nat) : (List.range (i + 1)).map (shG f g n) = (List.range i).map (shG f g n) ++ [shG f g n i] := by
  rw [List.range_succ, List.map_append]
  rfl
theorem sufB_len {t n : Int} (ht : InI t) (hn : InI n) : (sufB t n).length ≤ 50 := by
  have l1 := itoa_length_le t ht.1 ht.2
  have l2 := itoa_length_le n hn.1 hn.2
  unfold sufB
  simp only [List.length_append, List.length_singleton]
  omega
theorem ShownL2_run (hS : cf 15 = cSuf) {h0 : Hp} {v1 v2 : AV} {els1 els2 : List (List AV)} {ids : List IdI} {nms : List (List UInt8)} (hr1 : Rd h0 2 v1 els1) (hi1 : IdsR els1 ids) (hr2 : Rd h0 1 v2 els2) (hi2 : NmsR els2 nms) (hb1 : IdsB ids) (hb2 : NmsB nms) {n : Nat} (hn : n ≤ els1.length ∧ n ≤ els2.length) (hsm : n ≤ 1000000) {mo c : Nat} {kvs : List KV} (hmo : h0.next ≤ mo) (hF : FirstI (idAt ids) (nmAt nms) n (lk kvs)) (e1 : AV → Hp → Prop)
    (he : ∀ v' h', Ext h0 h' → SlN h' 1 v' (strE (shL (idAt ids) (nmAt nms) n)) (mo + 1) → e1 v' h') :
    ∀ (d i fm : Nat) (h : Hp) (v : AV), i + d = n → d < fm → Ext h0 h → mo < h.next → h.at mo = some ⟨true, 0, .map (kvs.map kvE) c⟩ → SlN h 1 v (strE ((List.range i).map (shG (idAt ids) (nmAt nms) n))) (mo + 1) → s_clash_ShownL2 cf fuel e1 v1 v2 (.map mo) (I n) fm v (I i) h
  | d, i, fm, h, v, hd, hm, hx, hlt, hmap, hv => by
    obtain ⟨fm, rfl⟩ : ∃ j, fm = j + 1 := ⟨fm - 1, by omega⟩
    rw [s_clash_ShownL2_succ]
    unfold s_clash_ShownL2B
    by_cases hi : i < n
    · obtain ⟨d, rfl⟩ : ∃ j, d = j + 1 := ⟨d - 1, by omega⟩
      have ei : ((i : Int) + 1) = ((i + 1 : Nat) : Int) := by omega
      obtain ⟨o1, off1, kn1, c1, en1, rfl, hat1, hc1⟩ := (hr1.mono hx).openS (i := i) (by omega)
      obtain ⟨o2, off2, kn2, c2, en2, rfl, hat2, hc2⟩ := (hr2.mono hx).openS (i := i) (by omega)
      have q2 := hc2 i (by omega)
      rw [nms_at hi2] at q2
      have q2' := cellsO_one q2
      have q1 := hc1 i (by omega)
      rw [ids_at hi1] at q1
      have hlen : ((List.range i).map (shG (idAt ids) (nmAt nms) n)).length = i := by simp
      have ih := ShownL2_run (c := c) hS hr1 hi1 hr2 hi2 hb1 hb2 hn hsm hmo hF e1 he d (i + 1) fm
      have nx := hx.next
      have push : ∀ (s : List UInt8) (h2 : Hp), s = shG (idAt ids) (nmAt nms) n i → Ext h h2 → vAppend2 1 16 false v (.slice h2.next 0 1 true 1) (h2.new ⟨true, 1, .row (setL (repL [AV.str 0 0] 1) 0 [S s])⟩) fun t75 h => vAdd (I i) (.int .i64 1) h fun t76 h => s_clash_ShownL2 cf fuel e1 (.slice o1 off1 els1.length kn1 c1) (.slice o2 off2 els2.length kn2 c2) (.map mo) (I n) fm t75 t76 h := fun s h2 hs x2 => by
        have n2 := x2.next
        refine appStr_go (hx.trans x2) (hv.ext x2) (by omega) (by omega) (by rw [hlen]; omega) (fun v' h' w1 w2 w3 w4 => ?_)
        (try unfold vMov); repeat' (first | refine Step.imp ?_ | (refine Way.mk (fun hp => ?_) (fun hp => ?_) <;> first | contradiction | (exfalso; omega) | skip) | refine LoadG.mkG ?_ | refine LoadsG.mkG ?_ | refine AtG.mkG ?_ | refine StoreG.mkG ?_ | refine CondG.mkG ?_ | fail); (all_goals (try dsimp only))
        rw [ei]
        rw [hs, ← shL_snoc] at w4
        exact ih h' v' (by omega) (by omega) w1 (by omega) (by rw [w3 mo (by omega), x2.same mo hlt]; exact hmap) w4
      obtain ⟨k, hk1, hk2⟩ := first_end hF hi
      (try unfold vMov); repeat' (first | refine Step.imp ?_ | (refine Way.mk (fun hp => ?_) (fun hp => ?_) <;> first | contradiction | (exfalso; omega) | skip) | refine LoadG.mkG ?_ | refine LoadsG.mkG ?_ | refine AtG.mkG ?_ | refine StoreG.mkG ?_ | refine CondG.mkG ?_ | fail); (all_goals (try dsimp only))
      unfold s_clash_ShownB5
      (try unfold vMov); repeat' (first | refine Step.imp ?_ | (refine Way.mk (fun hp => ?_) (fun hp => ?_) <;> first | contradiction | (exfalso; omega) | skip) | refine LoadG.mkG ?_ | refine LoadsG.mkG ?_ | refine AtG.mkG ?_ | refine StoreG.mkG ?_ | refine CondG.mkG ?_ | (refine LoadG.mk2 hat2 q2' (by omega) ?_) | fail); (all_goals (try dsimp only))
      refine look1_go hmap (fun v0 hv0 => ?_) (fun hnone => by rw [hk1] at hnone; cases hnone)
      rw [hk1] at hv0
      cases hv0
      by_cases hki : k = i
      · have hs : nmAt nms i = shG (idAt ids) (nmAt nms) n i := by
          unfold shG
          rw [hk2.1 hki]
          rfl
        have := push _ h hs (Ext.refl h)
        subst hki
        (try unfold vMov); repeat' (first | refine Step.imp ?_ | (refine Way.mk (fun hp => ?_) (fun hp => ?_) <;> first | contradiction | (exfalso; omega) | skip) | refine LoadG.mkG ?_ | refine LoadsG.mkG ?_ | refine AtG.mkG ?_ | refine StoreG.mkG ?_ | refine CondG.mkG ?_ | fail); (all_goals (try dsimp only))
        exact this
      · have hb : isBet (idAt ids) (nmAt nms) n i = true := by
          cases hq : isBet (idAt ids) (nmAt nms) n i with
          | true => rfl
          | false => exact absurd (hk2.2 hq) hki
        have hs : nmAt nms i ++ sufB (idAt ids i).1 (idAt ids i).2 = shG (idAt ids) (nmAt nms) n i := by
          unfold shG
          rw [if_pos hb]
        have hbi := idsB_at hb1 i
        have hbn := nmsB_at hb2 i
        have hsl := sufB_len hbi.1 hbi.2
        (try unfold vMov); repeat' (first | refine Step.imp ?_ | (refine Way.mk (fun hp => ?_) (fun hp => ?_) <;> first | contradiction | (exfalso; omega) | skip) | refine LoadG.mkG ?_ | refine LoadsG.mkG ?_ | refine AtG.mkG ?_ | refine StoreG.mkG ?_ | refine CondG.mkG ?_ | (refine LoadsG.mk2 hat1 q1 (by omega) ?_) | fail); (all_goals (try dsimp only))
        refine cSuf_go hS hbi (fun h2 x2 => ?_)
        have := push _ h2 hs x2
        refine Step.imp (CondG.mk (by omega) ?_)
        (try unfold vMov); repeat' (first | refine Step.imp ?_ | (refine Way.mk (fun hp => ?_) (fun hp => ?_) <;> first | contradiction | (exfalso; omega) | skip) | refine LoadG.mkG ?_ | refine LoadsG.mkG ?_ | refine AtG.mkG ?_ | refine StoreG.mkG ?_ | refine CondG.mkG ?_ | fail); (all_goals (try dsimp only))
        exact this
    · have hd0 : d = 0 := by omega
      subst hd0
      have : i = n := by omega
      subst this
      (try unfold vMov); repeat' (first | refine Step.imp ?_ | (refine Way.mk (fun hp => ?_) (fun hp => ?_) <;> first | contradiction | (exfalso; omega) | skip) | refine LoadG.mkG ?_ | refine LoadsG.mkG ?_ | refine AtG.mkG ?_ | refine StoreG.mkG ?_ | refine CondG.mkG ?_ | fail); (all_goals (try dsimp only))
      exact he v h hx hv
def cShown : ConD := fun args h K => ∃ v1 v2 els1 els2 ids nms, args = [v1, v2] ∧ Rd h 2 v1 els1 ∧ IdsR els1 ids ∧ Rd h 1 v2 els2 ∧ NmsR els2 nms ∧ (IdsB ids ∧ NmsB nms) ∧ min els1.length els2.length ≤ 1000 ∧ ∀ v' h', Ext h h' → SlN h' 1 v' (strE (shL (idAt ids) (nmAt nms) (min els1.length els2.length))) h.next → K v' h'
theorem cShown_go {cf : CallK} {g : FuncId} (hg : cf g = cShown) {v1 v2 : AV} {els1 els2 : List (List AV)} {ids : List IdI} {nms : List (List UInt8)} (hr1 : Rd h 2 v1 els1) (hi1 : IdsR els1 ids) (hr2 : Rd h 1 v2 els2) (hi2 : NmsR els2 nms) (hb : IdsB ids ∧ NmsB nms) (hn : min els1.length els2.length ≤ 1000) (hK : ∀ v' h', Ext h h' → SlN h' 1 v' (strE (shL (idAt ids) (nmAt nms) (min els1.length els2.length))) h.next → K v' h') : cf g [v1, v2] h K := by rw [hg]; exact ⟨v1, v2, els1, els2, ids, nms, rfl, hr1, hi1, hr2, hi2, hb, hn, hK⟩
theorem Shown_run (hL : cf 25 = cIdB2 lessI) (hS : cf 15 = cSuf) {v1 v2 : AV} {els1 els2 : List (List AV)} {ids : List IdI} {nms : List (List UInt8)} (hr1 : Rd h 2 v1 els1) (hi1 : IdsR els1 ids) (hr2 : Rd h 1 v2 els2) (hi2 : NmsR els2 nms) (hb : IdsB ids ∧ NmsB nms) (hn : min els1.length els2.length ≤ 1000) (hf : 1001 < fuel) (hK : ∀ v' h', Ext h h' → SlN h' 1 v' (strE (shL (idAt ids) (nmAt nms) (min els1.length els2.length))) h.next → K v' h') : s_clash_Shown cf fuel v1 v2 h K := by
  unfold s_clash_Shown
  rw [rdLen hr1]
  dsimp only
  rw [rdLen hr2]
  dsimp only
  have hmin : min (els1.length : Int) (els2.length : Int) = ((min els1.length els2.length : Nat) : Int) := by omega
  refine Step.imp ?_
  rw [hmin]
  generalize hN : min els1.length els2.length = n at *
  refine mkmap_go ?_
  have x1 : Ext h (h.new ⟨true, 0, .map (([] : List KV).map kvE) 0⟩) := (by repeat (first | exact Ext.refl _ | assumption | apply Ext.new | (refine Ext.put ?_ _ (by first | omega | (simp; done) | (simp; omega)))))
  refine ShownL6_run cf fuel hL (h0 := h) hr1 hi1 hr2 hi2 (n := n) (by omega) (by omega) (Nat.le_refl _) (I n) _ (fun h' kvs c x hlt hm hF => ?_) n 0 fuel _ [] 0 (by omega) (by omega) x1 (by simp only [Hp.next_new]; omega) (Hp.at_new_self _ _) (first_nil _ _)
  unfold s_clash_ShownE0
  refine ShownL2_run cf fuel hS (h0 := h) hr1 hi1 hr2 hi2 hb.1 hb.2 (n := n) (by omega) (by omega) (Nat.le_refl _) hF _ (fun v' h2 x2 hv => ?_) n 0 fuel h' .nilslice (by omega) (by omega) x hlt hm (.inl ⟨rfl, rfl⟩)
  unfold s_clash_ShownE1
  exact hK v' h2 x2 (hv.weak (by omega))
end
end Lg

namespace Lg
set_option linter.unusedSimpArgs false
set_option linter.unusedVariables false
set_option maxRecDepth 100000
open Go Go.Am Go.Lib
open Go.Proofs.YtnhamanffojhfaaDoor.shl
section
variable (cf : CallK) (fuel : Nat) {h : Hp} {K : AV → Hp → Prop}
theorem refShownL5_run (hLs : cf 26 = cIdB2 lessI) (hSm : cf 12 = cIdB2 sameI) (hSf : cf 16 = cSuf) {v1 v2 : AV} {els1 els2 : List (List AV)} {ids : List IdI} {nms : List (List UInt8)} (hr1 : Rd h 2 v1 els1) (hi1 : IdsR els1 ids) (hr2 : Rd h 1 v2 els2) (hi2 : NmsR els2 nms) (hb1 : IdsB ids) (hb2 : NmsB nms) {n i : Nat} (hn : n ≤ els1.length ∧ n ≤ els2.length) (hsm : n ≤ 1000000) (hin : i < n) (t6 : AV) (e4 : AV → Hp → Prop)
    (he : ∀ h', Ext h h' → e4 (S (shG (idAt ids) (nmAt nms) n i)) h') :
    ∀ (d k fm : Nat), k + d = n → d < fm → (∀ k', k' < k → (decide (nmAt nms k' = nmAt nms i) && betB (idAt ids) k' i) = false) → s_lagoonref15_ShownL5 cf fuel e4 v1 v2 (I n) t6 (I i) fm (S (nmAt nms i)) (I k) h
  | d, k, fm, hd, hm, hno => by
    obtain ⟨fm, rfl⟩ : ∃ j, fm = j + 1 := ⟨fm - 1, by omega⟩
    rw [s_lagoonref15_ShownL5_succ]
    unfold s_lagoonref15_ShownL5B
    by_cases hk : k < n
    · obtain ⟨d, rfl⟩ : ∃ j, d = j + 1 := ⟨d - 1, by omega⟩
      have ek : ((k : Int) + 1) = ((k + 1 : Nat) : Int) := by omega
      have ih := refShownL5_run hLs hSm hSf hr1 hi1 hr2 hi2 hb1 hb2 hn hsm hin t6 e4 he d (k + 1) fm (by omega) (by omega)
      obtain ⟨o1, off1, kn1, c1, en1, rfl, hat1, hc1⟩ := hr1.openS (i := i) (by omega)
      obtain ⟨o2, off2, kn2, c2, en2, rfl, hat2, hc2⟩ := hr2.openS (i := i) (by omega)
      have ni := hc2 i (by omega)
      rw [nms_at hi2] at ni
      have ni' := cellsO_one ni
      have nk := hc2 k (by omega)
      rw [nms_at hi2] at nk
      have nk' := cellsO_one nk
      have di := hc1 i (by omega)
      rw [ids_at hi1] at di
      have dk := hc1 k (by omega)
      rw [ids_at hi1] at dk
      have stop : (decide (nmAt nms k = nmAt nms i) && betB (idAt ids) k i) = true → nmAt nms i ++ sufB (idAt ids i).1 (idAt ids i).2 = shG (idAt ids) (nmAt nms) n i := fun q => by
        unfold shG
        rw [if_pos]
        unfold isBet
        exact List.any_eq_true.2 ⟨k, List.mem_range.2 hk, q⟩
      have go : (decide (nmAt nms k = nmAt nms i) && betB (idAt ids) k i) = false → s_lagoonref15_ShownL5 cf fuel e4 (.slice o1 off1 els1.length kn1 c1) (.slice o2 off2 els2.length kn2 c2) (I n) t6 (I i) fm (S (nmAt nms i)) (I ((k + 1 : Nat) : Int)) h := fun q => ih fun k' hk' => by
        by_cases hkk : k' = k
        · subst hkk; exact q
        · exact hno k' (by omega)
      have hbi := idsB_at hb1 i
      have hbn := nmsB_at hb2 i
      have hsl := sufB_len hbi.1 hbi.2
      (try unfold vMov); repeat' (first | refine Step.imp ?_ | (refine Way.mk (fun hp => ?_) (fun hp => ?_) <;> first | contradiction | (exfalso; omega) | skip) | refine LoadG.mkG ?_ | refine LoadsG.mkG ?_ | refine AtG.mkG ?_ | refine StoreG.mkG ?_ | refine CondG.mkG ?_ | fail); (all_goals (try dsimp only))
      unfold s_lagoonref15_ShownB32
      by_cases hg : nmAt nms k = nmAt nms i
      · have hbet : betB (idAt ids) k i = (lessI (idAt ids k).1 (idAt ids k).2 (idAt ids i).1 (idAt ids i).2 || (decide (k < i) && sameI (idAt ids k).1 (idAt ids k).2 (idAt ids i).1 (idAt ids i).2)) := rfl
        rw [decide_eq_true hg, Bool.true_and, hbet] at stop go
        have fin : nmAt nms i ++ sufB (idAt ids i).1 (idAt ids i).2 = shG (idAt ids) (nmAt nms) n i → ∀ K2 : AV → Hp → Prop, K2 = e4 → cf 16 [.agg [I (idAt ids i).1, I (idAt ids i).2]] h fun t76 h => vLoad2 (.ptr o2 (off2 + (i : Int).toNat * 1)) h fun c _ => gd (sameV c (S (nmAt nms i))) (vAdd (S (nmAt nms i)) t76 h K2) := fun hs K2 hK2 => by
          subst hK2
          refine cSuf_go hSf hbi (fun h2 x2 => ?_)
          have hat2' := (x2.same o2 (by
            rcases hr2 with ⟨e', _⟩ | ⟨_, e', _⟩ | ⟨_, _, _, _, _, e', ho, _⟩
            · cases e'
            · cases e'
            · cases e'; exact ho)).trans hat2
          (try unfold vMov); repeat' (first | refine Step.imp ?_ | (refine Way.mk (fun hp => ?_) (fun hp => ?_) <;> first | contradiction | (exfalso; omega) | skip) | refine LoadG.mkG ?_ | refine LoadsG.mkG ?_ | refine AtG.mkG ?_ | refine StoreG.mkG ?_ | refine CondG.mkG ?_ | (refine LoadG.mk2 hat2' ni' (by omega) ?_) | (refine CondG.mk (sameV_flat _ rfl) ?_) | fail); (all_goals (try dsimp only))
          rw [hs]
          exact he h2 x2
        (try unfold vMov); repeat' (first | refine Step.imp ?_ | (refine Way.mk (fun hp => ?_) (fun hp => ?_) <;> first | contradiction | (exfalso; omega) | skip) | refine LoadG.mkG ?_ | refine LoadsG.mkG ?_ | refine AtG.mkG ?_ | refine StoreG.mkG ?_ | refine CondG.mkG ?_ | (refine LoadG.mk2 hat2 nk' (by omega) ?_) | (refine LoadG.mk2 hat2 ni' (by omega) ?_) | (refine LoadsG.mk2 hat1 dk (by omega) ?_) | (refine LoadsG.mk2 hat1 di (by omega) ?_) | fail); (all_goals (try dsimp only))
        refine cIdB2_go hLs (fun hl => ?_) (fun hl => ?_)
        · (try unfold vMov); repeat' (first | refine Step.imp ?_ | (refine Way.mk (fun hp => ?_) (fun hp => ?_) <;> first | contradiction | (exfalso; omega) | skip) | refine LoadG.mkG ?_ | refine LoadsG.mkG ?_ | refine AtG.mkG ?_ | refine StoreG.mkG ?_ | refine CondG.mkG ?_ | (refine LoadG.mk2 hat2 nk' (by omega) ?_) | (refine LoadG.mk2 hat2 ni' (by omega) ?_) | (refine LoadsG.mk2 hat1 dk (by omega) ?_) | (refine LoadsG.mk2 hat1 di (by omega) ?_) | fail); (all_goals (try dsimp only))
          exact fin (stop (by rw [hl]; rfl)) e4 rfl
        · rw [hl, Bool.false_or] at stop go
          by_cases hki : k < i
          · rw [decide_eq_true hki, Bool.true_and] at stop go
            (try unfold vMov); repeat' (first | refine Step.imp ?_ | (refine Way.mk (fun hp => ?_) (fun hp => ?_) <;> first | contradiction | (exfalso; omega) | skip) | refine LoadG.mkG ?_ | refine LoadsG.mkG ?_ | refine AtG.mkG ?_ | refine StoreG.mkG ?_ | refine CondG.mkG ?_ | (refine LoadG.mk2 hat2 nk' (by omega) ?_) | (refine LoadG.mk2 hat2 ni' (by omega) ?_) | (refine LoadsG.mk2 hat1 dk (by omega) ?_) | (refine LoadsG.mk2 hat1 di (by omega) ?_) | fail); (all_goals (try dsimp only))
            refine cIdB2_go hSm (fun hs => ?_) (fun hs => ?_)
            · (try unfold vMov); repeat' (first | refine Step.imp ?_ | (refine Way.mk (fun hp => ?_) (fun hp => ?_) <;> first | contradiction | (exfalso; omega) | skip) | refine LoadG.mkG ?_ | refine LoadsG.mkG ?_ | refine AtG.mkG ?_ | refine StoreG.mkG ?_ | refine CondG.mkG ?_ | (refine LoadG.mk2 hat2 nk' (by omega) ?_) | (refine LoadG.mk2 hat2 ni' (by omega) ?_) | (refine LoadsG.mk2 hat1 dk (by omega) ?_) | (refine LoadsG.mk2 hat1 di (by omega) ?_) | fail); (all_goals (try dsimp only))
              exact fin (stop hs) e4 rfl
            · have := go hs
              (try unfold vMov); repeat' (first | refine Step.imp ?_ | (refine Way.mk (fun hp => ?_) (fun hp => ?_) <;> first | contradiction | (exfalso; omega) | skip) | refine LoadG.mkG ?_ | refine LoadsG.mkG ?_ | refine AtG.mkG ?_ | refine StoreG.mkG ?_ | refine CondG.mkG ?_ | (refine LoadG.mk2 hat2 nk' (by omega) ?_) | (refine LoadG.mk2 hat2 ni' (by omega) ?_) | (refine LoadsG.mk2 hat1 dk (by omega) ?_) | (refine LoadsG.mk2 hat1 di (by omega) ?_) | fail); (all_goals (try dsimp only))
              rw [ek]
              exact this
          · rw [decide_eq_false hki, Bool.false_and] at stop go
            have := go rfl
            (try unfold vMov); repeat' (first | refine Step.imp ?_ | (refine Way.mk (fun hp => ?_) (fun hp => ?_) <;> first | contradiction | (exfalso; omega) | skip) | refine LoadG.mkG ?_ | refine LoadsG.mkG ?_ | refine AtG.mkG ?_ | refine StoreG.mkG ?_ | refine CondG.mkG ?_ | (refine LoadG.mk2 hat2 nk' (by omega) ?_) | (refine LoadG.mk2 hat2 ni' (by omega) ?_) | (refine LoadsG.mk2 hat1 dk (by omega) ?_) | (refine LoadsG.mk2 hat1 di (by omega) ?_) | fail); (all_goals (try dsimp only))
            rw [ek]
            exact this
      · have q : (decide (nmAt nms k = nmAt nms i) && betB (idAt ids) k i) = false := by rw [decide_eq_false hg]; rfl
        have := go q
        (try unfold vMov); repeat' (first | refine Step.imp ?_ | (refine Way.mk (fun hp => ?_) (fun hp => ?_) <;> first | contradiction | (exfalso; omega) | skip) | refine LoadG.mkG ?_ | refine LoadsG.mkG ?_ | refine AtG.mkG ?_ | refine StoreG.mkG ?_ | refine CondG.mkG ?_ | (refine LoadG.mk2 hat2 nk' (by omega) ?_) | (refine LoadG.mk2 hat2 ni' (by omega) ?_) | fail); (all_goals (try dsimp only))
        rw [ek]
        exact this
    · have hd0 : d = 0 := by omega
      subst hd0
      have : k = n := by omega
      subst this
      have hs : nmAt nms i = shG (idAt ids) (nmAt nms) k i := by
        unfold shG
        rw [if_neg]
        intro q
        unfold isBet at q
        obtain ⟨k', h1, h2⟩ := List.any_eq_true.1 q
        rw [hno k' (List.mem_range.1 h1)] at h2
        cases h2
      have := he h (Ext.refl h)
      rw [← hs] at this
      (try unfold vMov); repeat' (first | refine Step.imp ?_ | (refine Way.mk (fun hp => ?_) (fun hp => ?_) <;> first | contradiction | (exfalso; omega) | skip) | refine LoadG.mkG ?_ | refine LoadsG.mkG ?_ | refine AtG.mkG ?_ | refine StoreG.mkG ?_ | refine CondG.mkG ?_ | fail); (all_goals (try dsimp only))
      exact this
theorem refShownL2_run (hLs : cf 26 = cIdB2 lessI) (hSm : cf 12 = cIdB2 sameI) (hSf : cf 16 = cSuf) {h0 : Hp} {v1 v2 : AV} {els1 els2 : List (List AV)} {ids : List IdI} {nms : List (List UInt8)} (hr1 : Rd h0 2 v1 els1) (hi1 : IdsR els1 ids) (hr2 : Rd h0 1 v2 els2) (hi2 : NmsR els2 nms) (hb1 : IdsB ids) (hb2 : NmsB nms) {n : Nat} (hn : n ≤ els1.length ∧ n ≤ els2.length) (hsm : n ≤ 1000000) (hf : n + 1 < fuel) (e1 : AV → Hp → Prop)
    (he : ∀ v' h', Ext h0 h' → SlN h' 1 v' (strE (shL (idAt ids) (nmAt nms) n)) h0.next → e1 v' h') :
    ∀ (d i fm : Nat) (h : Hp) (v : AV), i + d = n → d < fm → Ext h0 h → SlN h 1 v (strE ((List.range i).map (shG (idAt ids) (nmAt nms) n))) h0.next → s_lagoonref15_ShownL2 cf fuel e1 v1 v2 (I n) fm v (I i) h
  | d, i, fm, h, v, hd, hm, hx, hv => by
    obtain ⟨fm, rfl⟩ : ∃ j, fm = j + 1 := ⟨fm - 1, by omega⟩
    rw [s_lagoonref15_ShownL2_succ]
    unfold s_lagoonref15_ShownL2B
    by_cases hi : i < n
    · obtain ⟨d, rfl⟩ : ∃ j, d = j + 1 := ⟨d - 1, by omega⟩
      have ei : ((i : Int) + 1) = ((i + 1 : Nat) : Int) := by omega
      have ih := refShownL2_run hLs hSm hSf hr1 hi1 hr2 hi2 hb1 hb2 hn hsm hf e1 he d (i + 1) fm
      have inner := fun t6 e4 he4 => refShownL5_run cf fuel hLs hSm hSf (hr1.mono hx) hi1 (hr2.mono hx) hi2 hb1 hb2 hn hsm hi t6 e4 he4 n 0 fuel (by omega) (by omega) (fun k' hk' => absurd hk' (Nat.not_lt_zero _))
      obtain ⟨o2, off2, kn2, c2, en2, rfl, hat2, hc2⟩ := (hr2.mono hx).openS (i := i) (by omega)
      have ni := hc2 i (by omega)
      rw [nms_at hi2] at ni
      have ni' := cellsO_one ni
      have hlen : ((List.range i).map (shG (idAt ids) (nmAt nms) n)).length = i := by simp
      (try unfold vMov); repeat' (first | refine Step.imp ?_ | (refine Way.mk (fun hp => ?_) (fun hp => ?_) <;> first | contradiction | (exfalso; omega) | skip) | refine LoadG.mkG ?_ | refine LoadsG.mkG ?_ | refine AtG.mkG ?_ | refine StoreG.mkG ?_ | refine CondG.mkG ?_ | (refine LoadG.mk2 hat2 ni' (by omega) ?_) | fail); (all_goals (try dsimp only))
      refine inner _ _ (fun h2 x2 => ?_)
      unfold s_lagoonref15_ShownE4
      have n0 := hx.next
      have n2 := x2.next
      (try unfold vMov); repeat' (first | refine Step.imp ?_ | (refine Way.mk (fun hp => ?_) (fun hp => ?_) <;> first | contradiction | (exfalso; omega) | skip) | refine LoadG.mkG ?_ | refine LoadsG.mkG ?_ | refine AtG.mkG ?_ | refine StoreG.mkG ?_ | refine CondG.mkG ?_ | fail); (all_goals (try dsimp only))
      refine appStr_go (hx.trans x2) (hv.ext x2) (Nat.le_refl _) (by omega) (by rw [hlen]; omega) (fun v' h' w1 w2 w3 w4 => ?_)
      unfold s_lagoonref15_ShownE3
      (try unfold vMov); repeat' (first | refine Step.imp ?_ | (refine Way.mk (fun hp => ?_) (fun hp => ?_) <;> first | contradiction | (exfalso; omega) | skip) | refine LoadG.mkG ?_ | refine LoadsG.mkG ?_ | refine AtG.mkG ?_ | refine StoreG.mkG ?_ | refine CondG.mkG ?_ | fail); (all_goals (try dsimp only))
      rw [ei]
      rw [← shL_snoc] at w4
      exact ih h' v' (by omega) (by omega) w1 w4
    · have hd0 : d = 0 := by omega
      subst hd0
      have : i = n := by omega
      subst this
      (try unfold vMov); repeat' (first | refine Step.imp ?_ | (refine Way.mk (fun hp => ?_) (fun hp => ?_) <;> first | contradiction | (exfalso; omega) | skip) | refine LoadG.mkG ?_ | refine LoadsG.mkG ?_ | refine AtG.mkG ?_ | refine StoreG.mkG ?_ | refine CondG.mkG ?_ | fail); (all_goals (try dsimp only))
      exact he v h hx hv
theorem refShown_run (hLs : cf 26 = cIdB2 lessI) (hSm : cf 12 = cIdB2 sameI) (hSf : cf 16 = cSuf) {v1 v2 : AV} {els1 els2 : List (List AV)} {ids : List IdI} {nms : List (List UInt8)} (hr1 : Rd h 2 v1 els1) (hi1 : IdsR els1 ids) (hr2 : Rd h 1 v2 els2) (hi2 : NmsR els2 nms) (hb : IdsB ids ∧ NmsB nms) (hn : min els1.length els2.length ≤ 1000) (hf : 1001 < fuel) (hK : ∀ v' h', Ext h h' → SlN h' 1 v' (strE (shL (idAt ids) (nmAt nms) (min els1.length els2.length))) h.next → K v' h') : s_lagoonref15_Shown cf fuel v1 v2 h K := by
  unfold s_lagoonref15_Shown
  have main : ∀ n : Nat, n = min els1.length els2.length → s_lagoonref15_ShownL2 cf fuel (s_lagoonref15_ShownE1 cf fuel K) v1 v2 (I n) fuel .nilslice (I ((0 : Nat) : Int)) h := fun n e => by
    rw [← e] at hn hK
    refine refShownL2_run cf fuel hLs hSm hSf (h0 := h) hr1 hi1 hr2 hi2 hb.1 hb.2 (n := n) (by omega) (by omega) (by omega) _ (fun v' h' x hv => ?_) n 0 fuel h .nilslice (by omega) (by omega) (Ext.refl h) (.inl ⟨rfl, rfl⟩)
    unfold s_lagoonref15_ShownE1
    exact hK v' h' x hv
  rw [rdLen hr1]
  dsimp only
  rw [rdLen hr2]
  dsimp only
  by_cases hlt : els2.length < els1.length
  · have := main els2.length (by omega)
    refine Step.imp ?_
    refine Way.mk (fun hp => ?_) (fun hp => by omega)
    refine Step.imp ?_
    try dsimp only
    rw [rdLen hr2]
    exact this
  · have := main els1.length (by omega)
    refine Step.imp ?_
    refine Way.mk (fun hp => by omega) (fun hp => ?_)
    refine Step.imp ?_
    exact this
theorem cmpStr_run (e2 : Hp → Prop) {t5 : AV} {v1 v2 : AV} {l : List (List UInt8)} (h1 : Rd h 1 v1 (strE l)) (h2 : Rd h 1 v2 (strE l)) (hsm : l.length ≤ 1000000) (he : e2 h) :
    ∀ (d i fm : Nat), i + d = l.length → d < fm → s_lagoonlaw16_ClashShownL3 cf fuel K e2 t5 v1 v2 fm (I i) h
  | d, i, fm, hd, hm => by
    obtain ⟨fm, rfl⟩ : ∃ j, fm = j + 1 := ⟨fm - 1, by omega⟩
    rw [s_lagoonlaw16_ClashShownL3_succ]
    unfold s_lagoonlaw16_ClashShownL3B
    have hlen : (strE l).length = l.length := by simp [strE]
    rw [rdLen h1]
    try dsimp only
    by_cases hi : i < l.length
    · obtain ⟨d, rfl⟩ : ∃ j, d = j + 1 := ⟨d - 1, by omega⟩
      have ei : ((i : Int) + 1) = ((i + 1 : Nat) : Int) := by omega
      have ih := cmpStr_run e2 (t5 := t5) h1 h2 hsm he d (i + 1) fm (by omega) (by omega)
      obtain ⟨o1, off1, kn1, c1, en1, rfl, hat1, hc1⟩ := h1.openS (i := i) (by omega)
      obtain ⟨o2, off2, kn2, c2, en2, rfl, hat2, hc2⟩ := h2.openS (i := i) (by omega)
      have hel : ∀ (q : i < (strE l).length), (strE l)[i] = [S l[i]] := fun q => by simp [strE]
      have q1 := hc1 i (by omega)
      rw [hel] at q1
      have q1' := cellsO_one q1
      have q2 := hc2 i (by omega)
      rw [hel] at q2
      have q2' := cellsO_one q2
      (try unfold vMov); repeat' (first | refine Step.imp ?_ | (refine Way.mk (fun hp => ?_) (fun hp => ?_) <;> first | contradiction | (exfalso; omega) | skip) | refine LoadG.mkG ?_ | refine LoadsG.mkG ?_ | refine AtG.mkG ?_ | refine StoreG.mkG ?_ | refine CondG.mkG ?_ | (refine LoadG.mk2 hat1 q1' (by omega) ?_) | (refine LoadG.mk2 hat2 q2' (by omega) ?_) | fail); (all_goals (try dsimp only))
      rw [ei]
      exact ih
    · have hd0 : d = 0 := by omega
      subst hd0
      (try unfold vMov); repeat' (first | refine Step.imp ?_ | (refine Way.mk (fun hp => ?_) (fun hp => ?_) <;> first | contradiction | (exfalso; omega) | skip) | refine LoadG.mkG ?_ | refine LoadsG.mkG ?_ | refine AtG.mkG ?_ | refine StoreG.mkG ?_ | refine CondG.mkG ?_ | fail); (all_goals (try dsimp only))
      exact he
theorem lawShown_run (hBg : cf 7 = trueC) (hC : cf 8 = cShown) (hR : cf 9 = cShown) {v1 v2 : AV} {els1 els2 : List (List AV)} {ids : List IdI} {nms : List (List UInt8)} (hr1 : Rd h 2 v1 els1) (hi1 : IdsR els1 ids) (hr2 : Rd h 1 v2 els2) (hi2 : NmsR els2 nms) (hb : IdsB ids ∧ NmsB nms) (hf : 100 < fuel) (hK : ∀ h', K (.bool true) h') : s_lagoonlaw16_ClashShown cf fuel v1 v2 h K := by
  unfold s_lagoonlaw16_ClashShown
  rw [hBg]
  refine ⟨rfl, ?_⟩
  have main : ∀ (w1 w2 : AV) (es1 es2 : List (List AV)) (ids : List IdI) (nms : List (List UInt8)), Rd h 2 w1 es1 → IdsR es1 ids → Rd h 1 w2 es2 → NmsR es2 nms → (IdsB ids ∧ NmsB nms) → es1.length ≤ 12 → cf 8 [w1, w2] h fun t22 h => cf 9 [w1, w2] h fun t25 h => vLenL2 t22 h fun t27 h => vLenL2 t25 h fun t29 h => vNeq t27 t29 h fun t30 h => vIf t30 (K (.bool .false) h) (s_lagoonlaw16_ClashShownL3 cf fuel K (s_lagoonlaw16_ClashShownE2 cf fuel K (.bool true)) (.bool true) t22 t25 fuel (.int .i64 0) h) := fun w1 w2 es1 es2 ids nms h1 h2 h3 h4 hb h12 => by
    refine cShown_go hC h1 h2 h3 h4 hb (by omega) (fun va ha xa sa => ?_)
    refine cShown_go hR (h1.mono xa) h2 (h3.mono xa) h4 hb (by omega) (fun vb hb2 xb sb => ?_)
    have hlen : (strE (shL (idAt ids) (nmAt nms) (min es1.length es2.length))).length = min es1.length es2.length := by simp [strE, shL]
    have hlen2 : (shL (idAt ids) (nmAt nms) (min es1.length es2.length)).length = min es1.length es2.length := by simp [shL]
    have ra := SlN.rd (sa.ext xb) (by omega)
    have rb := SlN.rd sb (by omega)
    rw [rdLen ra]
    dsimp only
    rw [rdLen rb]
    dsimp only
    (try unfold vMov); repeat' (first | refine Step.imp ?_ | (refine Way.mk (fun hp => ?_) (fun hp => ?_) <;> first | contradiction | (exfalso; omega) | skip) | refine LoadG.mkG ?_ | refine LoadsG.mkG ?_ | refine AtG.mkG ?_ | refine StoreG.mkG ?_ | refine CondG.mkG ?_ | fail); (all_goals (try dsimp only))
    refine cmpStr_run cf fuel _ ra rb (by omega) ?_ _ 0 fuel (by rw [Nat.zero_add]) (by omega)
    unfold s_lagoonlaw16_ClashShownE2
    exact hK _
  have tk1 : ∀ k, IdsR (els1.take k) (ids.take k) := fun k => by
    unfold IdsR at *
    rw [hi1, List.map_take]
  have tk2 : ∀ k, NmsR (els2.take k) (nms.take k) := fun k => by
    unfold NmsR at *
    rw [hi2, List.map_take]
  have b1 : ∀ k, IdsB (ids.take k) := fun k i hi => hb.1 i (List.mem_of_mem_take hi)
  have b2 : ∀ k, NmsB (nms.take k) := fun k i hi => hb.2 i (List.mem_of_mem_take hi)
  have l1 : (els1.take 12).length ≤ 12 := by rw [List.length_take]; omega
  have bd1 := hr1.bound
  have bd2 := hr2.bound
  dsimp only
  rw [rdLen hr1]
  dsimp only
  by_cases h1 : 12 < els1.length
  · refine Step.imp (Way.mk (fun hp => ?_) (fun hp => by omega))
    refine Step.imp ?_
    refine cut_rd hr1 12 (by omega) (fun w1 rw1 => ?_)
    rw [rdLen hr2]
    dsimp only
    by_cases h2 : 12 < els2.length
    · refine Step.imp (Way.mk (fun hp => ?_) (fun hp => by omega))
      refine Step.imp ?_
      refine cut_rd hr2 12 (by omega) (fun w2 rw2 => ?_)
      exact main w1 w2 _ _ _ _ rw1 (tk1 12) rw2 (tk2 12) ⟨b1 12, b2 12⟩ l1
    · refine Step.imp (Way.mk (fun hp => by omega) (fun hp => ?_))
      refine Step.imp ?_
      exact main w1 v2 _ _ _ _ rw1 (tk1 12) hr2 hi2 ⟨b1 12, hb.2⟩ l1
  · refine Step.imp (Way.mk (fun hp => by omega) (fun hp => ?_))
    refine Step.imp ?_
    rw [rdLen hr2]
    dsimp only
    by_cases h2 : 12 < els2.length
    · refine Step.imp (Way.mk (fun hp => ?_) (fun hp => by omega))
      refine Step.imp ?_
      refine cut_rd hr2 12 (by omega) (fun w2 rw2 => ?_)
      exact main v1 w2 _ _ _ _ hr1 hi1 rw2 (tk2 12) ⟨hb.1, b2 12⟩ (by omega)
    · refine Step.imp (Way.mk (fun hp => by omega) (fun hp => ?_))
      refine Step.imp ?_
      exact main v1 v2 _ _ _ _ hr1 hi1 hr2 hi2 hb (by omega)
end
end Lg

namespace Lg
set_option linter.unusedSimpArgs false
set_option linter.unusedVariables false
set_option maxRecDepth 100000
open Go Go.Am Go.Lib
open Go.Proofs.YtnhamanffojhfaaDoor.shl
/-! ### plain -/
theorem fiN_no : ∀ (l : List UInt8) (b : Nat), (∀ x ∈ l, x.toNat ≠ b) → fiN l b = none
  | [], _, _ => rfl
  | x :: l, b, h => by
    unfold fiN
    rw [if_neg (h x (by simp)), fiN_no l b fun y hy => h y (by simp [hy])]
    rfl
theorem fiN_app : ∀ (a : List UInt8) (x : UInt8) (r : List UInt8) (b : Nat), (∀ y ∈ a, y.toNat ≠ b) → x.toNat = b → fiN (a ++ x :: r) b = some a.length
  | [], x, r, b, _, hx => by
    show fiN (x :: r) b = _
    unfold fiN
    rw [if_pos hx]
    rfl
  | y :: a, x, r, b, h, hx => by
    show fiN (y :: (a ++ x :: r)) b = _
    unfold fiN
    rw [if_neg (h y (by simp)), fiN_app a x r b (fun z hz => h z (by simp [hz])) hx]
    rfl
theorem name_no1 {l : List UInt8} (h : nameE l = 0) : ∀ x ∈ l, x.toNat ≠ 1 := by
  unfold nameE at h
  split at h
  · omega
  · rename_i hn
    intro x hx e
    apply hn
    refine .inr (.inr (.inr ?_))
    unfold anyBad
    rw [List.any_eq_true]
    exact ⟨x, hx, (badB_iff x).2 (.inr (.inl e))⟩
theorem itoa_no46 (n : Int) : ∀ x ∈ itoa n, x.toNat ≠ 46 := by
  have key : ∀ u : Nat, ∀ x ∈ decDigits u, x.toNat ≠ 46 := fun u x hx e => by
    have := List.all_eq_true.1 (dec_dig u) x hx
    unfold isDig at this
    simp at this
    omega
  intro x hx
  unfold itoa at hx
  split at hx
  · rcases List.mem_cons.1 hx with rfl | hx
    · decide
    · exact key _ x hx
  · exact key _ x hx
theorem split_plain {l : List UInt8} (h : nameE l = 0) : splitF l = (l, 0, 0, false) := by
  have h1 : cutP l 1 = (l, [], false) := by unfold cutP; rw [fiN_no l 1 (name_no1 h)]
  unfold splitF
  rw [h1]
  rfl
theorem validIn {t n : Int} (h : validB t n = true) : InI t ∧ InI n := by
  unfold validB at h
  simp at h
  exact ⟨⟨by omega, by omega⟩, ⟨by omega, by omega⟩⟩
theorem split_suf {l : List UInt8} {t n : Int} (h : nameE l = 0) (hv : validB t n = true) : splitF (l ++ sufB t n) = (l, t, n, true) := by
  have hb := validIn hv
  have e : l ++ sufB t n = l ++ (1 : UInt8) :: (itoa t ++ (46 : UInt8) :: itoa n) := by unfold sufB; simp
  have h1 : cutP (l ++ sufB t n) 1 = (l, itoa t ++ (46 : UInt8) :: itoa n, true) := by
    unfold cutP
    rw [e, fiN_app l 1 _ 1 (name_no1 h) rfl]
    simp
  have h2 : cutP (itoa t ++ (46 : UInt8) :: itoa n) 46 = (itoa t, itoa n, true) := by
    unfold cutP
    rw [fiN_app (itoa t) 46 _ 46 (itoa_no46 t) rfl]
    simp
  unfold splitF
  rw [h1]
  dsimp only
  rw [h2]
  dsimp only
  rw [(numF_iff _ _).2 ⟨rfl, hb.1.1, hb.1.2⟩, (numF_iff _ _).2 ⟨rfl, hb.2.1, hb.2.2⟩]
  dsimp only
  rw [if_pos ⟨hv, h, rfl⟩]
/-- A list of IDs and names as the law makes it. -/
def ApOK (A : List IdI) (N : List (List UInt8)) : Prop := A.length = N.length ∧ (∀ i ∈ A, validB i.1 i.2 = true) ∧ (∀ s ∈ N, nameE s = 0) ∧ ∀ j k, j < k → k < A.length → sameI (idAt A j).1 (idAt A j).2 (idAt A k).1 (idAt A k).2 = false
theorem ap_id {A : List IdI} {N : List (List UInt8)} (h : ApOK A N) {k : Nat} (hk : k < A.length) : validB (idAt A k).1 (idAt A k).2 = true := by
  have : idAt A k = A[k] := by unfold idAt; simp [hk]
  rw [this]
  exact h.2.1 _ (List.getElem_mem hk)
theorem ap_nm {A : List IdI} {N : List (List UInt8)} (h : ApOK A N) {k : Nat} (hk : k < A.length) : nameE (nmAt N k) = 0 := by
  have hk' : k < N.length := by rw [← h.1]; exact hk
  have : nmAt N k = N[k] := by unfold nmAt; simp [hk']
  rw [this]
  exact h.2.2.1 _ (List.getElem_mem hk')
theorem ap_ne {A : List IdI} {N : List (List UInt8)} (h : ApOK A N) {j k : Nat} (hj : j < A.length) (hk : k < A.length) (hjk : j ≠ k) : sameI (idAt A j).1 (idAt A j).2 (idAt A k).1 (idAt A k).2 = false := by
  rcases Nat.lt_or_gt_of_ne hjk with q | q
  · exact h.2.2.2 j k q hk
  · have := h.2.2.2 k j q hj
    unfold sameI at *
    simp at *
    omega
theorem ap_split {A : List IdI} {N : List (List UInt8)} (h : ApOK A N) {k : Nat} (hk : k < A.length) : splitF (shG (idAt A) (nmAt N) A.length k) = if isBet (idAt A) (nmAt N) A.length k = true then (nmAt N k, (idAt A k).1, (idAt A k).2, true) else (nmAt N k, 0, 0, false) := by
  unfold shG
  split
  · exact split_suf (ap_nm h hk) (ap_id h hk)
  · exact split_plain (ap_nm h hk)
theorem ap_apart {A : List IdI} {N : List (List UInt8)} (h : ApOK A N) {j k : Nat} (hj : j < A.length) (hk : k < A.length) (hjk : j ≠ k) : shG (idAt A) (nmAt N) A.length j ≠ shG (idAt A) (nmAt N) A.length k := by
  intro e
  have sj := ap_split h hj
  have sk := ap_split h hk
  rw [e, sk] at sj
  have hne := ap_ne h hj hk hjk
  have hnb : ∀ i i', i < A.length → i' < A.length → nmAt N i = nmAt N i' → isBet (idAt A) (nmAt N) A.length i' = false → betB (idAt A) i i' = false := fun i i' hi hi' hn hb => by
    unfold isBet at hb
    rw [List.any_eq_false] at hb
    have := hb i (List.mem_range.2 hi)
    rw [decide_eq_true hn, Bool.true_and] at this
    simpa using this
  by_cases bj : isBet (idAt A) (nmAt N) A.length j = true
  · by_cases bk : isBet (idAt A) (nmAt N) A.length k = true
    · rw [if_pos bj, if_pos bk] at sj
      simp only [Prod.mk.injEq] at sj
      unfold sameI at hne
      simp at hne
      omega
    · rw [if_pos bj, if_neg bk] at sj
      simp at sj
  · by_cases bk : isBet (idAt A) (nmAt N) A.length k = true
    · rw [if_neg bj, if_pos bk] at sj
      simp at sj
    · rw [if_neg bj, if_neg bk] at sj
      simp only [Prod.mk.injEq] at sj
      have b1 := hnb k j hk hj sj.1 (by simpa using bj)
      have b2 := hnb j k hj hk sj.1.symm (by simpa using bk)
      rw [bet_no] at b1 b2
      unfold sameI at hne
      simp at hne
      omega
/-! ### the run -/
def idsE (l : List IdI) : List (List AV) := l.map fun i => [I i.1, I i.2]
theorem SlNkeep {h h' : Hp} {esz esz' : Nat} {v w : AV} {els els' : List (List AV)} {B B' : Nat} (hv : SlN h esz v els B) (hw : SlN h esz' w els' B') (hne : esz ≠ esz') (hn : h.next ≤ h'.next) (hs : ∀ p, p < h.next → (∀ off n kn c, w ≠ .slice p off n kn c) → h'.at p = h.at p) : SlN h' esz v els B := by
  rcases hv with hv | ⟨o, ob, h1, h2, h3, h4, h5⟩
  · exact .inl hv
  · refine .inr ⟨o, ob, h1, h2, Nat.lt_of_lt_of_le h3 hn, ?_, h5⟩
    rw [hs o h3 (fun off n kn c e => ?_)]
    · exact h4
    · rcases hw with ⟨e9, _⟩ | ⟨o9, ob9, e9, _, _, e10, _⟩
      · rw [e9] at e; cases e
      · rw [e9] at e
        cases e
        rw [h4] at e10
        cases e10
        exact hne rfl
section
variable (cf : CallK) (fuel : Nat) {h : Hp} {K : AV → Hp → Prop}
theorem ApartL30_run (hSm : cf 12 = cIdB2 sameI) {v1 t1 t5 t6 t7 : AV} {els1 : List (List AV)} {ids A : List IdI} (hr1 : Rd h 2 v1 els1) (hi1 : IdsR els1 ids) (hrA : Rd h 2 t6 (idsE A)) {i : Nat} (hi : i < els1.length) (hsm : A.length ≤ 1000000) (e29 : AV → Hp → Prop) :
    ∀ (d k fm : Nat) (b : Bool), k + d = A.length → d < fm → e29 (.bool (b && (A.drop k).all fun x => !(sameI x.1 x.2 (idAt ids i).1 (idAt ids i).2))) h → s_lagoonlaw16_ClashApartL30 cf fuel e29 v1 t1 t5 t6 t7 (I i) fm (.bool b) (I k) h
  | d, k, fm, b, hd, hm, he => by
    obtain ⟨fm, rfl⟩ : ∃ j, fm = j + 1 := ⟨fm - 1, by omega⟩
    rw [s_lagoonlaw16_ClashApartL30_succ]
    unfold s_lagoonlaw16_ClashApartL30B
    have hlen : (idsE A).length = A.length := by simp [idsE]
    rw [rdLen hrA]
    try dsimp only
    by_cases hk : k < A.length
    · obtain ⟨d, rfl⟩ : ∃ j, d = j + 1 := ⟨d - 1, by omega⟩
      have ek : ((k : Int) + 1) = ((k + 1 : Nat) : Int) := by omega
      cases b with
      | false =>
        rw [Bool.false_and] at he
        (try unfold vMov); repeat' (first | refine Step.imp ?_ | (refine Way.mk (fun hp => ?_) (fun hp => ?_) <;> first | contradiction | (exfalso; omega) | skip) | refine LoadG.mkG ?_ | refine LoadsG.mkG ?_ | refine AtG.mkG ?_ | refine StoreG.mkG ?_ | refine CondG.mkG ?_ | fail); (all_goals (try dsimp only))
        exact he
      | true =>
        rw [Bool.true_and, List.drop_eq_getElem_cons hk, List.all_cons] at he
        obtain ⟨o1, off1, kn1, c1, en1, rfl, hat1, hc1⟩ := hr1.openS hi
        obtain ⟨o2, off2, kn2, c2, en2, rfl, hat2, hc2⟩ := hrA.openS (i := k) (by omega)
        have q1 := hc1 i hi
        rw [ids_at hi1] at q1
        have q2 := hc2 k (by omega)
        have hel : ∀ (q : k < (idsE A).length), (idsE A)[k] = [I A[k].1, I A[k].2] := fun q => by simp [idsE]
        rw [hel] at q2
        have ih := fun b' hb' => ApartL30_run hSm (t1 := t1) (t5 := t5) (t7 := t7) hr1 hi1 hrA hi hsm e29 d (k + 1) fm b' (by omega) (by omega) hb'
        (try unfold vMov); repeat' (first | refine Step.imp ?_ | (refine Way.mk (fun hp => ?_) (fun hp => ?_) <;> first | contradiction | (exfalso; omega) | skip) | refine LoadG.mkG ?_ | refine LoadsG.mkG ?_ | refine AtG.mkG ?_ | refine StoreG.mkG ?_ | refine CondG.mkG ?_ | (refine LoadsG.mk2 hat2 q2 (by omega) ?_) | (refine LoadsG.mk2 hat1 q1 (by omega) ?_) | fail); (all_goals (try dsimp only))
        refine cIdB2_go hSm (fun hs => ?_) (fun hs => ?_)
        · rw [hs] at he
          have := ih false (by rw [Bool.false_and]; exact he)
          (try unfold vMov); repeat' (first | refine Step.imp ?_ | (refine Way.mk (fun hp => ?_) (fun hp => ?_) <;> first | contradiction | (exfalso; omega) | skip) | refine LoadG.mkG ?_ | refine LoadsG.mkG ?_ | refine AtG.mkG ?_ | refine StoreG.mkG ?_ | refine CondG.mkG ?_ | fail); (all_goals (try dsimp only))
          rw [ek]
          exact this
        · rw [hs] at he
          have := ih true (by rw [Bool.true_and]; exact he)
          (try unfold vMov); repeat' (first | refine Step.imp ?_ | (refine Way.mk (fun hp => ?_) (fun hp => ?_) <;> first | contradiction | (exfalso; omega) | skip) | refine LoadG.mkG ?_ | refine LoadsG.mkG ?_ | refine AtG.mkG ?_ | refine StoreG.mkG ?_ | refine CondG.mkG ?_ | fail); (all_goals (try dsimp only))
          rw [ek]
          exact this
    · have hd0 : d = 0 := by omega
      subst hd0
      rw [List.drop_eq_nil_of_le (by omega), List.all_nil, Bool.and_true] at he
      (try unfold vMov); repeat' (first | refine Step.imp ?_ | (refine Way.mk (fun hp => ?_) (fun hp => ?_) <;> first | contradiction | (exfalso; omega) | skip) | refine LoadG.mkG ?_ | refine LoadsG.mkG ?_ | refine AtG.mkG ?_ | refine StoreG.mkG ?_ | refine CondG.mkG ?_ | fail); (all_goals (try dsimp only))
      exact he
end
end Lg

namespace Lg
set_option linter.unusedSimpArgs false
set_option linter.unusedVariables false
set_option maxRecDepth 100000
open Go Go.Am Go.Lib
open Go.Proofs.YtnhamanffojhfaaDoor.shl
theorem Rd.openT {h : Hp} {esz : Nat} {v : AV} {els : List (List AV)} (hr : Rd h esz v els) {i : Nat} (hi : i < els.length) : ∃ o off kn c e, v = .slice o off els.length kn c ∧ o < h.next ∧ h.at o = some e ∧ ∀ j (hj : j < els.length), cellsO e.obj esz (off + j * esz) = some els[j] := by
  rcases hr with ⟨_, rfl⟩ | ⟨_, _, rfl⟩ | ⟨o, off, kn, c, e, h1, h2, h3, _, h5⟩
  · simp at hi
  · simp at hi
  · exact ⟨o, off, kn, c, e, h1, h2, h3, h5⟩
theorem idAt_app (A : List IdI) (x : IdI) (j : Nat) : idAt (A ++ [x]) j = if j < A.length then idAt A j else if j = A.length then x else (0, 0) := by
  unfold idAt
  by_cases h1 : j < A.length
  · rw [if_pos h1]
    simp [List.getD, List.getElem?_append_left h1]
  · rw [if_neg h1]
    by_cases h2 : j = A.length
    · subst h2
      simp
    · rw [if_neg h2]
      have : (A ++ [x]).length ≤ j := by simp; omega
      simp [List.getD, List.getElem?_eq_none this]
theorem ap_snoc {A : List IdI} {N : List (List UInt8)} {x : IdI} {s : List UInt8} (h : ApOK A N) (h1 : validB x.1 x.2 = true) (h2 : nameE s = 0) (h3 : (A.all fun y => !(sameI y.1 y.2 x.1 x.2)) = true) : ApOK (A ++ [x]) (N ++ [s]) := by
  refine ⟨by simp [h.1], fun i hi => ?_, fun t ht => ?_, fun j k hjk hk => ?_⟩
  · rcases List.mem_append.1 hi with q | q
    · exact h.2.1 i q
    · rw [List.mem_singleton.1 q]; exact h1
  · rcases List.mem_append.1 ht with q | q
    · exact h.2.2.1 t q
    · rw [List.mem_singleton.1 q]; exact h2
  · rw [idAt_app, idAt_app]
    have hk' : k < A.length + 1 := by simpa using hk
    rw [if_pos (by omega : j < A.length)]
    by_cases hkA : k < A.length
    · rw [if_pos hkA]
      exact h.2.2.2 j k hjk hkA
    · rw [if_neg hkA, if_pos (by omega)]
      have hj : j < A.length := by omega
      have := List.all_eq_true.1 h3 (A[j]) (List.getElem_mem hj)
      have e : idAt A j = A[j] := by unfold idAt; simp [hj]
      rw [e]
      simpa using this
theorem name_len {l : List UInt8} (h : nameE l = 0) : l.length ≤ 64 := by
  unfold nameE at h
  split at h
  · omega
  · split at h
    · omega
    · omega
section
variable (cf : CallK) (fuel : Nat) {h : Hp} {K : AV → Hp → Prop}
/-- One more of some cells. -/
theorem appE_go {k by' : Nat} {h0 : Hp} {v : AV} {els : List (List AV)} {B : Nat} {cs : List AV} (hx : Ext h0 h) (hv : SlN h k v els B) (hB : h0.next ≤ B) (hBn : B ≤ h.next) (hk : cs.length = k) (hby : by' ≤ 64) (hs : els.length ≤ 1000000) (q : ∀ v' h', Ext h0 h' → h.next < h'.next → (∀ p, p < h.next → (∀ off n kn c, v ≠ .slice p off n kn c) → h'.at p = h.at p) → SlN h' k v' (els ++ [cs]) B → K v' h') :
    vAppend2 k by' false v (.slice h.next 0 1 true 1) (h.new ⟨true, k, .row cs⟩) K := by
  have hmul : (els.length + 1) * by' ≤ 1000001 * 64 := Nat.mul_le_mul (by omega) hby
  refine append_own2 (els := els) (news := [cs]) (B := B) (h0 := h0) (hx.new _) (hv.ext (by repeat (first | exact Ext.refl _ | assumption | apply Ext.new | (refine Ext.put ?_ _ (by first | omega | (simp; done) | (simp; omega)))))) hB (by simp only [Hp.next_new]; omega) ⟨_, 0, true, 1, _, rfl, Hp.at_new_self _ _, ?_⟩ (by intro y hy; rw [List.mem_singleton.1 hy]; exact hk) (by simp) (by simp only [List.length_singleton]; omega) (fun v' h' w1 w2 w3 w4 => ?_)
  · show cellsO (.row cs) (1 * k) 0 = some [cs].flatten
    rw [cellsO_cells (Cells.row cs) _ _ (by omega), List.drop_zero, List.take_of_length_le (by omega)]
    simp
  · refine q v' h' w1 (by simp only [Hp.next_new] at w2; omega) (fun p hp hpv => ?_) (w4.weak (by simp only [Hp.next_new]; omega))
    rw [w3 p (by simp only [Hp.next_new]; omega) hpv, Hp.at_new_lt _ hp]
theorem ApartL27_run (hV : cf 10 = cIdB validB) (hN : cf 11 = cS nameE) (hSm : cf 12 = cIdB2 sameI) {h0 : Hp} {v1 v2 t5 : AV} {els1 els2 : List (List AV)} {ids : List IdI} {nms : List (List UInt8)} (hr1 : Rd h0 2 v1 els1) (hi1 : IdsR els1 ids) (hr2 : Rd h0 1 v2 els2) (hi2 : NmsR els2 nms) (hb2 : NmsB nms) (hf : 20 < fuel) (e0 : AV → AV → Hp → Prop)
    (he : ∀ h' t6 t7 A N, Ext h0 h' → SlN h' 2 t6 (idsE A) h0.next → SlN h' 1 t7 (strE N) h0.next → ApOK A N → A.length ≤ 12 → e0 t6 t7 h') :
    ∀ (d i fm : Nat) (h : Hp) (t6 t7 : AV) (A : List IdI) (N : List (List UInt8)), i + d = 12 → d < fm → Ext h0 h → SlN h 2 t6 (idsE A) h0.next → SlN h 1 t7 (strE N) h0.next → ApOK A N → A.length ≤ i → s_lagoonlaw16_ClashApartL27 cf fuel e0 v1 v2 t5 fm t6 t7 (I i) h
  | d, i, fm, h, t6, t7, A, N, hd, hm, hx, s6, s7, ok, hA => by
    obtain ⟨fm, rfl⟩ : ∃ j, fm = j + 1 := ⟨fm - 1, by omega⟩
    rw [s_lagoonlaw16_ClashApartL27_succ]
    unfold s_lagoonlaw16_ClashApartL27B
    have stop := he h t6 t7 A N hx s6 s7 ok (by omega)
    rw [rdLen hr1]
    dsimp only
    by_cases h1 : i < els1.length
    · have len2 := fun hh => rdLen hr2 hh
      by_cases h2 : i < els2.length
      · by_cases h3 : i < 12
        · obtain ⟨d, rfl⟩ : ∃ j, d = j + 1 := ⟨d - 1, by omega⟩
          have ei : ((i : Int) + 1) = ((i + 1 : Nat) : Int) := by omega
          have ih := ApartL27_run hV hN hSm (t5 := t5) hr1 hi1 hr2 hi2 hb2 hf e0 he d (i + 1) fm
          have lenA : (idsE A).length = A.length := by simp [idsE]
          have lenN : (strE N).length = N.length := by simp [strE]
          have okl := ok.1
          have R6 : Rd h 2 t6 (idsE A) := SlN.rd s6 (by omega)
          have L30 := fun b q => ApartL30_run cf fuel hSm (t1 := v2) (t5 := t5) (t7 := t7) (hr1.mono hx) hi1 R6 h1 (by omega) (s_lagoonlaw16_ClashApartE29 cf fuel (s_lagoonlaw16_ClashApartE28 cf fuel (s_lagoonlaw16_ClashApartL27 cf fuel e0 v1 v2 t5 fm) v1 v2 t5 (I i)) v1 v2 t5 t6 t7 (I i)) A.length 0 fuel b (by omega) (by omega) q
          have hbn := nmsB_at hb2 i
          -- what is done with the answer
          have e29F : s_lagoonlaw16_ClashApartE29 cf fuel (s_lagoonlaw16_ClashApartE28 cf fuel (s_lagoonlaw16_ClashApartL27 cf fuel e0 v1 v2 t5 fm) v1 v2 t5 (I i)) v1 v2 t5 t6 t7 (I i) (.bool false) h := by
            unfold s_lagoonlaw16_ClashApartE29
            (try unfold vMov); repeat' (first | refine Step.imp ?_ | (refine Way.mk (fun hp => ?_) (fun hp => ?_) <;> first | contradiction | (exfalso; omega) | skip) | refine LoadG.mkG ?_ | refine LoadsG.mkG ?_ | refine AtG.mkG ?_ | refine StoreG.mkG ?_ | refine CondG.mkG ?_ | fail); (all_goals (try dsimp only))
            unfold s_lagoonlaw16_ClashApartE28
            (try unfold vMov); repeat' (first | refine Step.imp ?_ | (refine Way.mk (fun hp => ?_) (fun hp => ?_) <;> first | contradiction | (exfalso; omega) | skip) | refine LoadG.mkG ?_ | refine LoadsG.mkG ?_ | refine AtG.mkG ?_ | refine StoreG.mkG ?_ | refine CondG.mkG ?_ | fail); (all_goals (try dsimp only))
            rw [ei]
            exact ih h t6 t7 A N (by omega) (by omega) hx s6 s7 ok (by omega)
          have e29T : validB (idAt ids i).1 (idAt ids i).2 = true → nameE (nmAt nms i) = 0 → (A.all fun y => !(sameI y.1 y.2 (idAt ids i).1 (idAt ids i).2)) = true → s_lagoonlaw16_ClashApartE29 cf fuel (s_lagoonlaw16_ClashApartE28 cf fuel (s_lagoonlaw16_ClashApartL27 cf fuel e0 v1 v2 t5 fm) v1 v2 t5 (I i)) v1 v2 t5 t6 t7 (I i) (.bool true) h := fun q1 q2 q3 => by
            have ok' := ap_snoc ok q1 q2 q3
            unfold s_lagoonlaw16_ClashApartE29
            obtain ⟨o1, off1, kn1, c1, en1, rfl, lt1, hat1, hc1⟩ := Rd.openT (hr1.mono hx) h1
            obtain ⟨o2, off2, kn2, c2, en2, rfl, lt2, hat2, hc2⟩ := Rd.openT (hr2.mono hx) h2
            have z1 := hc1 i h1
            rw [ids_at hi1] at z1
            have z2 := hc2 i h2
            rw [nms_at hi2] at z2
            have z2' := cellsO_one z2
            have n0 := hx.next
            have low2 : o2 < h0.next := by
              rcases hr2 with ⟨e', _⟩ | ⟨_, e', _⟩ | ⟨_, _, _, _, _, e', ho, _⟩
              · cases e'
              · cases e'
              · cases e'; exact ho
            (try unfold vMov); repeat' (first | refine Step.imp ?_ | (refine Way.mk (fun hp => ?_) (fun hp => ?_) <;> first | contradiction | (exfalso; omega) | skip) | refine LoadG.mkG ?_ | refine LoadsG.mkG ?_ | refine AtG.mkG ?_ | refine StoreG.mkG ?_ | refine CondG.mkG ?_ | (refine LoadsG.mk2 hat1 z1 (by omega) ?_) | fail); (all_goals (try dsimp only))
            refine appE_go hx s6 (Nat.le_refl _) n0 rfl (by omega) (by omega) (fun v' h' w1 w2 w3 w4 => ?_)
            have s7' := SlNkeep s7 s6 (by omega) (by omega) w3
            have hat2' : h'.at o2 = some en2 := by
              rw [w1.same o2 low2, ← hx.same o2 low2]
              exact hat2
            (try unfold vMov); repeat' (first | refine Step.imp ?_ | (refine Way.mk (fun hp => ?_) (fun hp => ?_) <;> first | contradiction | (exfalso; omega) | skip) | refine LoadG.mkG ?_ | refine LoadsG.mkG ?_ | refine AtG.mkG ?_ | refine StoreG.mkG ?_ | refine CondG.mkG ?_ | (refine LoadG.mk2 hat2' z2' (by omega) ?_) | fail); (all_goals (try dsimp only))
            refine appE_go w1 s7' (Nat.le_refl _) w1.next rfl (by omega) (by omega) (fun v'' h'' y1 y2 y3 y4 => ?_)
            have w4' := SlNkeep w4 s7' (by omega) (by omega) y3
            unfold s_lagoonlaw16_ClashApartE28
            (try unfold vMov); repeat' (first | refine Step.imp ?_ | (refine Way.mk (fun hp => ?_) (fun hp => ?_) <;> first | contradiction | (exfalso; omega) | skip) | refine LoadG.mkG ?_ | refine LoadsG.mkG ?_ | refine AtG.mkG ?_ | refine StoreG.mkG ?_ | refine CondG.mkG ?_ | fail); (all_goals (try dsimp only))
            rw [ei]
            refine ih h'' v' v'' (A ++ [idAt ids i]) (N ++ [nmAt nms i]) (by omega) (by omega) y1 ?_ ?_ ok' (by simp; omega)
            · have : idsE (A ++ [idAt ids i]) = idsE A ++ [[I (idAt ids i).1, I (idAt ids i).2]] := by simp [idsE]
              rw [this]
              exact w4'
            · have : strE (N ++ [nmAt nms i]) = strE N ++ [[S (nmAt nms i)]] := by simp [strE]
              rw [this]
              exact y4
          obtain ⟨o1, off1, kn1, c1, en1, e1v, lt1, hat1, hc1⟩ := Rd.openT (hr1.mono hx) h1
          obtain ⟨o2, off2, kn2, c2, en2, e2v, lt2, hat2, hc2⟩ := Rd.openT (hr2.mono hx) h2
          have z1 := hc1 i h1
          rw [ids_at hi1] at z1
          have z2 := hc2 i h2
          rw [nms_at hi2] at z2
          have z2' := cellsO_one z2
          subst e1v e2v
          (try unfold vMov); repeat' (first | refine Step.imp ?_ | (refine Way.mk (fun hp => ?_) (fun hp => ?_) <;> first | contradiction | (exfalso; omega) | skip) | refine LoadG.mkG ?_ | refine LoadsG.mkG ?_ | refine AtG.mkG ?_ | refine StoreG.mkG ?_ | refine CondG.mkG ?_ | ((rw [len2])) | (refine LoadsG.mk2 hat1 z1 (by omega) ?_) | fail); (all_goals (try dsimp only))
          refine cIdB_go hV (fun hv => ?_) (fun hv => ?_)
          · by_cases hnm : nameE (nmAt nms i) = 0
            · (try unfold vMov); repeat' (first | refine Step.imp ?_ | (refine Way.mk (fun hp => ?_) (fun hp => ?_) <;> first | contradiction | (exfalso; omega) | skip) | refine LoadG.mkG ?_ | refine LoadsG.mkG ?_ | refine AtG.mkG ?_ | refine StoreG.mkG ?_ | refine CondG.mkG ?_ | (refine LoadG.mk2 hat2 z2' (by omega) ?_) | (refine cS_go hN hbn ?_) | fail); (all_goals (try dsimp only))
              refine L30 true ?_
              rw [List.drop_zero, Bool.true_and]
              cases hq : (A.all fun y => !(sameI y.1 y.2 (idAt ids i).1 (idAt ids i).2)) with
              | false => exact e29F
              | true => exact e29T hv hnm hq
            · (try unfold vMov); repeat' (first | refine Step.imp ?_ | (refine Way.mk (fun hp => ?_) (fun hp => ?_) <;> first | contradiction | (exfalso; omega) | skip) | refine LoadG.mkG ?_ | refine LoadsG.mkG ?_ | refine AtG.mkG ?_ | refine StoreG.mkG ?_ | refine CondG.mkG ?_ | (refine LoadG.mk2 hat2 z2' (by omega) ?_) | (refine cS_go hN hbn ?_) | fail); (all_goals (try dsimp only))
              refine L30 false ?_
              rw [Bool.false_and]
              exact e29F
          · (try unfold vMov); repeat' (first | refine Step.imp ?_ | (refine Way.mk (fun hp => ?_) (fun hp => ?_) <;> first | contradiction | (exfalso; omega) | skip) | refine LoadG.mkG ?_ | refine LoadsG.mkG ?_ | refine AtG.mkG ?_ | refine StoreG.mkG ?_ | refine CondG.mkG ?_ | fail); (all_goals (try dsimp only))
            refine L30 false ?_
            rw [Bool.false_and]
            exact e29F
        · (try unfold vMov); repeat' (first | refine Step.imp ?_ | (refine Way.mk (fun hp => ?_) (fun hp => ?_) <;> first | contradiction | (exfalso; omega) | skip) | refine LoadG.mkG ?_ | refine LoadsG.mkG ?_ | refine AtG.mkG ?_ | refine StoreG.mkG ?_ | refine CondG.mkG ?_ | ((rw [len2])) | fail); (all_goals (try dsimp only))
          exact stop
      · (try unfold vMov); repeat' (first | refine Step.imp ?_ | (refine Way.mk (fun hp => ?_) (fun hp => ?_) <;> first | contradiction | (exfalso; omega) | skip) | refine LoadG.mkG ?_ | refine LoadsG.mkG ?_ | refine AtG.mkG ?_ | refine StoreG.mkG ?_ | refine CondG.mkG ?_ | ((rw [len2])) | fail); (all_goals (try dsimp only))
        exact stop
    · (try unfold vMov); repeat' (first | refine Step.imp ?_ | (refine Way.mk (fun hp => ?_) (fun hp => ?_) <;> first | contradiction | (exfalso; omega) | skip) | refine LoadG.mkG ?_ | refine LoadsG.mkG ?_ | refine AtG.mkG ?_ | refine StoreG.mkG ?_ | refine CondG.mkG ?_ | fail); (all_goals (try dsimp only))
      exact stop
end
end Lg

namespace Lg
set_option linter.unusedSimpArgs false
set_option linter.unusedVariables false
set_option maxRecDepth 100000
open Go Go.Am Go.Lib
open Go.Proofs.YtnhamanffojhfaaDoor.shl
theorem ap_nil : ApOK [] [] := ⟨rfl, by simp, by simp, by intro j k _ hk; simp at hk⟩
section
variable (cf : CallK) (fuel : Nat) {h : Hp} {K : AV → Hp → Prop}
theorem ap_nm_len {A : List IdI} {N : List (List UInt8)} (ok : ApOK A N) {k : Nat} (hk : k < A.length) : (shG (idAt A) (nmAt N) A.length k).length ≤ 1000 := by
  have h1 := name_len (ap_nm ok hk)
  have h2 := validIn (ap_id ok hk)
  have h3 := sufB_len h2.1 h2.2
  unfold shG
  split
  · rw [List.length_append]; omega
  · omega
theorem ApartE4_run (hSp : cf 13 = cSplit) (hSm : cf 12 = cIdB2 sameI) {t5 t6 t7 t11 : AV} {A : List IdI} {N : List (List UInt8)} (ok : ApOK A N) (hA : A.length ≤ 12) (R6 : Rd h 2 t6 (idsE A)) (R7 : Rd h 1 t7 (strE N)) (R11 : Rd h 1 t11 (strE (shL (idAt A) (nmAt N) A.length))) {i : Nat} (hi : i < A.length) (e3 : Hp → Prop) (he : ∀ h', Ext h h' → e3 h') : s_lagoonlaw16_ClashApartE4 cf fuel K e3 t5 t6 t7 t11 (I i) h := by
  unfold s_lagoonlaw16_ClashApartE4
  have l6 : (idsE A).length = A.length := by simp [idsE]
  have l7 : (strE N).length = A.length := by simp [strE, ok.1]
  have l11 : (strE (shL (idAt A) (nmAt N) A.length)).length = A.length := by simp [strE, shL]
  obtain ⟨o1, off1, kn1, c1, en1, rfl, lt1, hat1, hc1⟩ := Rd.openT R6 (i := i) (by omega)
  obtain ⟨o2, off2, kn2, c2, en2, rfl, lt2, hat2, hc2⟩ := Rd.openT R7 (i := i) (by omega)
  obtain ⟨o3, off3, kn3, c3, en3, rfl, lt3, hat3, hc3⟩ := Rd.openT R11 (i := i) (by omega)
  have z1 := hc1 i (by omega)
  rw [ids_at (rfl : IdsR (idsE A) A)] at z1
  have z2 := hc2 i (by omega)
  rw [nms_at (rfl : NmsR (strE N) N)] at z2
  have z2' := cellsO_one z2
  have z3 := hc3 i (by omega)
  have hel : ∀ (q : i < (strE (shL (idAt A) (nmAt N) A.length)).length), (strE (shL (idAt A) (nmAt N) A.length))[i] = [S (shG (idAt A) (nmAt N) A.length i)] := fun q => by simp [strE, shL]
  rw [hel] at z3
  have z3' := cellsO_one z3
  have hlen := ap_nm_len ok hi
  have hsp := ap_split ok hi
  (try unfold vMov); repeat' (first | refine Step.imp ?_ | (refine Way.mk (fun hp => ?_) (fun hp => ?_) <;> first | contradiction | (exfalso; omega) | skip) | refine LoadG.mkG ?_ | refine LoadsG.mkG ?_ | refine AtG.mkG ?_ | refine StoreG.mkG ?_ | refine CondG.mkG ?_ | (refine LoadG.mk2 hat3 z3' (by omega) ?_) | fail); (all_goals (try dsimp only))
  refine cSplit_go hSp (by omega) (fun h2 x2 => ?_)
  unfold spAV
  rw [hsp]
  have y1 := (x2.same o1 lt1).trans hat1
  have y2 := (x2.same o2 lt2).trans hat2
  have y3 := (x2.same o3 lt3).trans hat3
  have n2 := x2.next
  by_cases hb : isBet (idAt A) (nmAt N) A.length i = true
  · rw [if_pos hb]
    have hs : shG (idAt A) (nmAt N) A.length i = nmAt N i ++ sufB (idAt A i).1 (idAt A i).2 := by unfold shG; rw [if_pos hb]
    have hne : ¬ shG (idAt A) (nmAt N) A.length i = nmAt N i := fun e => by
      rw [hs] at e
      have := congrArg List.length e
      rw [List.length_append] at this
      unfold sufB at this
      simp at this
    generalize shG (idAt A) (nmAt N) A.length i = s at *
    (try unfold vMov); repeat' (first | refine Step.imp ?_ | (refine Way.mk (fun hp => ?_) (fun hp => ?_) <;> first | contradiction | (exfalso; omega) | skip) | refine LoadG.mkG ?_ | refine LoadsG.mkG ?_ | refine AtG.mkG ?_ | refine StoreG.mkG ?_ | refine CondG.mkG ?_ | fail); (all_goals (try dsimp only))
    have x3 : Ext h2 ((h2.new ⟨true, 2, .row [.int .i64 0, .int .i64 0]⟩).put h2.next (some ⟨true, 2, .row (setL [AV.int .i64 0, .int .i64 0] 0 [I (idAt A i).1, I (idAt A i).2])⟩)) := (by repeat (first | exact Ext.refl _ | assumption | apply Ext.new | (refine Ext.put ?_ _ (by first | omega | (simp; done) | (simp; omega)))))
    have b3 : ((h2.new ⟨true, 2, .row [.int .i64 0, .int .i64 0]⟩).put h2.next (some ⟨true, 2, .row (setL [AV.int .i64 0, .int .i64 0] 0 [I (idAt A i).1, I (idAt A i).2])⟩)).at h2.next = some ⟨true, 2, .row [I (idAt A i).1, I (idAt A i).2]⟩ := Hp.at_put_self _ _ _
    have w1 := (x3.same o1 (by omega)).trans y1
    have w2 := (x3.same o2 (by omega)).trans y2
    have w3 := (x3.same o3 (by omega)).trans y3
    generalize ((h2.new ⟨true, 2, .row [.int .i64 0, .int .i64 0]⟩).put h2.next (some ⟨true, 2, .row (setL [AV.int .i64 0, .int .i64 0] 0 [I (idAt A i).1, I (idAt A i).2])⟩)) = h3 at *
    (try unfold vMov); repeat' (first | refine Step.imp ?_ | (refine Way.mk (fun hp => ?_) (fun hp => ?_) <;> first | contradiction | (exfalso; omega) | skip) | refine LoadG.mkG ?_ | refine LoadsG.mkG ?_ | refine AtG.mkG ?_ | refine StoreG.mkG ?_ | refine CondG.mkG ?_ | (refine LoadG.mk2 w3 z3' (by omega) ?_) | (refine LoadG.mk2 w2 z2' (by omega) ?_) | fail); (all_goals (try dsimp only))
    unfold s_lagoonlaw16_ClashApartB24
    (try unfold vMov); repeat' (first | refine Step.imp ?_ | (refine Way.mk (fun hp => ?_) (fun hp => ?_) <;> first | contradiction | (exfalso; omega) | skip) | refine LoadG.mkG ?_ | refine LoadsG.mkG ?_ | refine AtG.mkG ?_ | refine StoreG.mkG ?_ | refine CondG.mkG ?_ | (refine LoadG.mk2 w2 z2' (by omega) ?_) | (refine LoadsG.mk b3 (by rfl) ?_) | (refine LoadsG.mk2 w1 z1 (by omega) ?_) | fail); (all_goals (try dsimp only))
    refine cIdB2_go hSm (fun _ => ?_) (fun q => by unfold sameI at q; simp at q)
    (try unfold vMov); repeat' (first | refine Step.imp ?_ | (refine Way.mk (fun hp => ?_) (fun hp => ?_) <;> first | contradiction | (exfalso; omega) | skip) | refine LoadG.mkG ?_ | refine LoadsG.mkG ?_ | refine AtG.mkG ?_ | refine StoreG.mkG ?_ | refine CondG.mkG ?_ | fail); (all_goals (try dsimp only))
    exact he _ (x2.trans x3)
  · rw [if_neg hb]
    have hs : shG (idAt A) (nmAt N) A.length i = nmAt N i := by unfold shG; rw [if_neg hb]
    generalize shG (idAt A) (nmAt N) A.length i = s at *
    subst hs
    (try unfold vMov); repeat' (first | refine Step.imp ?_ | (refine Way.mk (fun hp => ?_) (fun hp => ?_) <;> first | contradiction | (exfalso; omega) | skip) | refine LoadG.mkG ?_ | refine LoadsG.mkG ?_ | refine AtG.mkG ?_ | refine StoreG.mkG ?_ | refine CondG.mkG ?_ | fail); (all_goals (try dsimp only))
    have x3 : Ext h2 ((h2.new ⟨true, 2, .row [.int .i64 0, .int .i64 0]⟩).put h2.next (some ⟨true, 2, .row (setL [AV.int .i64 0, .int .i64 0] 0 [I 0, I 0])⟩)) := (by repeat (first | exact Ext.refl _ | assumption | apply Ext.new | (refine Ext.put ?_ _ (by first | omega | (simp; done) | (simp; omega)))))
    have w1 := (x3.same o1 (by omega)).trans y1
    have w2 := (x3.same o2 (by omega)).trans y2
    have w3 := (x3.same o3 (by omega)).trans y3
    generalize ((h2.new ⟨true, 2, .row [.int .i64 0, .int .i64 0]⟩).put h2.next (some ⟨true, 2, .row (setL [AV.int .i64 0, .int .i64 0] 0 [I 0, I 0])⟩)) = h3 at *
    (try unfold vMov); repeat' (first | refine Step.imp ?_ | (refine Way.mk (fun hp => ?_) (fun hp => ?_) <;> first | contradiction | (exfalso; omega) | skip) | refine LoadG.mkG ?_ | refine LoadsG.mkG ?_ | refine AtG.mkG ?_ | refine StoreG.mkG ?_ | refine CondG.mkG ?_ | (refine LoadG.mk2 w3 z3' (by omega) ?_) | (refine LoadG.mk2 w2 z2' (by omega) ?_) | fail); (all_goals (try dsimp only))
    exact he _ (x2.trans x3)
theorem ApartL25_run {t5 t6 t7 t11 : AV} {A : List IdI} {N : List (List UInt8)} (ok : ApOK A N) (hA : A.length ≤ 12) (R11 : Rd h 1 t11 (strE (shL (idAt A) (nmAt N) A.length))) {i : Nat} (hi : i < A.length) (e4 : Hp → Prop) (he : e4 h) :
    ∀ (d k fm : Nat), k + d = i → d < fm → s_lagoonlaw16_ClashApartL25 cf fuel K e4 t5 t6 t7 t11 (I i) fm (I k) h
  | d, k, fm, hd, hm => by
    obtain ⟨fm, rfl⟩ : ∃ j, fm = j + 1 := ⟨fm - 1, by omega⟩
    rw [s_lagoonlaw16_ClashApartL25_succ]
    unfold s_lagoonlaw16_ClashApartL25B
    by_cases hk : k < i
    · obtain ⟨d, rfl⟩ : ∃ j, d = j + 1 := ⟨d - 1, by omega⟩
      have ek : ((k : Int) + 1) = ((k + 1 : Nat) : Int) := by omega
      have ih := ApartL25_run (t5 := t5) (t6 := t6) (t7 := t7) ok hA R11 hi e4 he d (k + 1) fm (by omega) (by omega)
      have l11 : (strE (shL (idAt A) (nmAt N) A.length)).length = A.length := by simp [strE, shL]
      obtain ⟨o3, off3, kn3, c3, en3, rfl, lt3, hat3, hc3⟩ := Rd.openT R11 (i := i) (by omega)
      have hel : ∀ (j : Nat) (q : j < (strE (shL (idAt A) (nmAt N) A.length)).length), (strE (shL (idAt A) (nmAt N) A.length))[j] = [S (shG (idAt A) (nmAt N) A.length j)] := fun j q => by simp [strE, shL]
      have z3 := hc3 i (by omega)
      rw [hel] at z3
      have z3' := cellsO_one z3
      have z4 := hc3 k (by omega)
      rw [hel] at z4
      have z4' := cellsO_one z4
      have hne := ap_apart ok hi (by omega : k < A.length) (by omega)
      (try unfold vMov); repeat' (first | refine Step.imp ?_ | (refine Way.mk (fun hp => ?_) (fun hp => ?_) <;> first | contradiction | (exfalso; omega) | skip) | refine LoadG.mkG ?_ | refine LoadsG.mkG ?_ | refine AtG.mkG ?_ | refine StoreG.mkG ?_ | refine CondG.mkG ?_ | (refine LoadG.mk2 hat3 z3' (by omega) ?_) | (refine LoadG.mk2 hat3 z4' (by omega) ?_) | fail); (all_goals (try dsimp only))
      rw [ek]
      exact ih
    · have hd0 : d = 0 := by omega
      subst hd0
      (try unfold vMov); repeat' (first | refine Step.imp ?_ | (refine Way.mk (fun hp => ?_) (fun hp => ?_) <;> first | contradiction | (exfalso; omega) | skip) | refine LoadG.mkG ?_ | refine LoadsG.mkG ?_ | refine AtG.mkG ?_ | refine StoreG.mkG ?_ | refine CondG.mkG ?_ | fail); (all_goals (try dsimp only))
      exact he
theorem ApartL2_run (hSp : cf 13 = cSplit) (hSm : cf 12 = cIdB2 sameI) (hf : 20 < fuel) {h0 : Hp} {t5 t6 t7 t11 : AV} {A : List IdI} {N : List (List UInt8)} (ok : ApOK A N) (hA : A.length ≤ 12) (R6 : Rd h0 2 t6 (idsE A)) (R7 : Rd h0 1 t7 (strE N)) (R11 : Rd h0 1 t11 (strE (shL (idAt A) (nmAt N) A.length))) (e1 : Hp → Prop) (he : ∀ h', Ext h0 h' → e1 h') :
    ∀ (d i fm : Nat) (h : Hp), i + d = A.length → d < fm → Ext h0 h → s_lagoonlaw16_ClashApartL2 cf fuel K e1 t5 t6 t7 t11 fm (I i) h
  | d, i, fm, h, hd, hm, hx => by
    obtain ⟨fm, rfl⟩ : ∃ j, fm = j + 1 := ⟨fm - 1, by omega⟩
    rw [s_lagoonlaw16_ClashApartL2_succ]
    unfold s_lagoonlaw16_ClashApartL2B
    have l11 : (strE (shL (idAt A) (nmAt N) A.length)).length = A.length := by simp [strE, shL]
    rw [rdLen R11]
    dsimp only
    by_cases hi : i < A.length
    · obtain ⟨d, rfl⟩ : ∃ j, d = j + 1 := ⟨d - 1, by omega⟩
      have ei : ((i : Int) + 1) = ((i + 1 : Nat) : Int) := by omega
      have ih := ApartL2_run hSp hSm hf (t5 := t5) ok hA R6 R7 R11 e1 he d (i + 1) fm
      have inner : s_lagoonlaw16_ClashApartL25 cf fuel K (s_lagoonlaw16_ClashApartE4 cf fuel K (s_lagoonlaw16_ClashApartE3 cf fuel (s_lagoonlaw16_ClashApartL2 cf fuel K e1 t5 t6 t7 t11 fm) t5 t6 t7 t11 (I i)) t5 t6 t7 t11 (I i)) t5 t6 t7 t11 (I i) fuel (I ((0 : Nat) : Int)) h := by
        refine ApartL25_run cf fuel ok hA (R11.mono hx) hi _ ?_ i 0 fuel (by omega) (by omega)
        refine ApartE4_run cf fuel hSp hSm ok hA (R6.mono hx) (R7.mono hx) (R11.mono hx) hi _ (fun h' x => ?_)
        unfold s_lagoonlaw16_ClashApartE3
        (try unfold vMov); repeat' (first | refine Step.imp ?_ | (refine Way.mk (fun hp => ?_) (fun hp => ?_) <;> first | contradiction | (exfalso; omega) | skip) | refine LoadG.mkG ?_ | refine LoadsG.mkG ?_ | refine AtG.mkG ?_ | refine StoreG.mkG ?_ | refine CondG.mkG ?_ | fail); (all_goals (try dsimp only))
        rw [ei]
        exact ih h' (by omega) (by omega) (hx.trans x)
      (try unfold vMov); repeat' (first | refine Step.imp ?_ | (refine Way.mk (fun hp => ?_) (fun hp => ?_) <;> first | contradiction | (exfalso; omega) | skip) | refine LoadG.mkG ?_ | refine LoadsG.mkG ?_ | refine AtG.mkG ?_ | refine StoreG.mkG ?_ | refine CondG.mkG ?_ | fail); (all_goals (try dsimp only))
      exact inner
    · have hd0 : d = 0 := by omega
      subst hd0
      (try unfold vMov); repeat' (first | refine Step.imp ?_ | (refine Way.mk (fun hp => ?_) (fun hp => ?_) <;> first | contradiction | (exfalso; omega) | skip) | refine LoadG.mkG ?_ | refine LoadsG.mkG ?_ | refine AtG.mkG ?_ | refine StoreG.mkG ?_ | refine CondG.mkG ?_ | fail); (all_goals (try dsimp only))
      exact he h hx
theorem lawApart_run (hBg : cf 7 = trueC) (hV : cf 10 = cIdB validB) (hN : cf 11 = cS nameE) (hSm : cf 12 = cIdB2 sameI) (hC : cf 8 = cShown) (hSp : cf 13 = cSplit) {v1 v2 : AV} {els1 els2 : List (List AV)} {ids : List IdI} {nms : List (List UInt8)} (hr1 : Rd h 2 v1 els1) (hi1 : IdsR els1 ids) (hr2 : Rd h 1 v2 els2) (hi2 : NmsR els2 nms) (hb2 : NmsB nms) (hf : 100 < fuel) (hK : ∀ h', K (.bool true) h') : s_lagoonlaw16_ClashApart cf fuel v1 v2 h K := by
  unfold s_lagoonlaw16_ClashApart
  rw [hBg]
  refine ⟨rfl, ?_⟩
  dsimp only
  refine ApartL27_run cf fuel hV hN hSm (h0 := h) hr1 hi1 hr2 hi2 hb2 (by omega) _ (fun h1 t6 t7 A N x1 s6 s7 ok hA => ?_) 12 0 fuel h .nilslice .nilslice [] [] (by omega) (by omega) (Ext.refl h) (.inl ⟨rfl, rfl⟩) (.inl ⟨rfl, rfl⟩) ap_nil (by simp)
  unfold s_lagoonlaw16_ClashApartE0
  have l6 : (idsE A).length = A.length := by simp [idsE]
  have l7 : (strE N).length = A.length := by simp [strE, ok.1]
  have R6 : Rd h1 2 t6 (idsE A) := SlN.rd s6 (by omega)
  have R7 : Rd h1 1 t7 (strE N) := SlN.rd s7 (by omega)
  have hmin : min (idsE A).length (strE N).length = A.length := by omega
  refine cShown_go hC R6 (rfl : IdsR (idsE A) A) R7 (rfl : NmsR (strE N) N) ⟨fun i hi => validIn (ok.2.1 i hi), fun s hs => by have := name_len (ok.2.2.1 s hs); omega⟩ (by omega) (fun v' h2 x2 s2 => ?_)
  rw [hmin] at s2
  have l11 : (strE (shL (idAt A) (nmAt N) A.length)).length = A.length := by simp [strE, shL]
  have R11 := SlN.rd s2 (by omega)
  rw [rdLen R11]
  dsimp only
  rw [rdLen R6]
  dsimp only
  (try unfold vMov); repeat' (first | refine Step.imp ?_ | (refine Way.mk (fun hp => ?_) (fun hp => ?_) <;> first | contradiction | (exfalso; omega) | skip) | refine LoadG.mkG ?_ | refine LoadsG.mkG ?_ | refine AtG.mkG ?_ | refine StoreG.mkG ?_ | refine CondG.mkG ?_ | fail); (all_goals (try dsimp only))
  refine ApartL2_run cf fuel hSp hSm (by omega) (h0 := h2) ok hA (R6.mono x2) (R7.mono x2) R11 _ (fun h' x => ?_) A.length 0 fuel h2 (by omega) (by omega) (Ext.refl h2)
  unfold s_lagoonlaw16_ClashApartE1
  exact hK _
end
end Lg

namespace Lg
set_option linter.unusedSimpArgs false
set_option linter.unusedVariables false
set_option maxRecDepth 100000
open Go Go.Am Go.Proofs
open Go.Proofs.YtnhamanffojhfaaDoor.shl
theorem mixed : Tryd.prog.follows .mixedOrders = true := by kernel_rfl
set_option maxRecDepth 1000000 in
theorem begun_runs : RunsTrue Tryd.prog (lookC []) 1000 30 7 = True := by kernel_rfl
set_option maxRecDepth 1000000 in
theorem set3_runs : RunsTo Tryd.prog (lookC []) 1000 3 80 [S [0, 1, 47]] (.tup [.agg set3, .bool true]) = True := by kernel_rfl
variable {B : Nat} {W : World}
noncomputable def L0 : List (Nat × ConD) := []
theorem ok0 (hG : GV B W) : ConAt Tryd.prog (lookC L0) B W := con_nil_at
theorem one1 (hG : GV B W) (w0 : W0) (hw : w0.w = W) : ConOne Tryd.prog B w0 10 (cIdB validB) := one_pure_at mixed (ok0 hG) rfl (fun avs h K hc => by
  obtain ⟨t, n, rfl, hK⟩ := hc
  exact ⟨_, by simp [oldV, oldVs], hK, 0, fun K2 hK2 => Eq.mp (s_lagoonref4_Valid_eq ..) (Valid_run _ _ t n hK2)⟩) w0 hw
noncomputable def L1 : List (Nat × ConD) := (10, cIdB validB) :: L0
theorem ok1 (hG : GV B W) : ConAt Tryd.prog (lookC L1) B W := con_cons_at (ok0 hG) (one1 hG)
theorem one2 (hG : GV B W) (w0 : W0) (hw : w0.w = W) : ConOne Tryd.prog B w0 12 (cIdB2 sameI) := one_pure_at mixed (ok1 hG) rfl (fun avs h K hc => by
  obtain ⟨t, n, t', n', rfl, hK⟩ := hc
  exact ⟨_, by simp [oldV, oldVs], hK, 0, fun K2 hK2 => Eq.mp (s_lagoonref4_Same_eq ..) (Same_run _ _ t n t' n' hK2)⟩) w0 hw
noncomputable def L2 : List (Nat × ConD) := (12, cIdB2 sameI) :: L1
theorem ok2 (hG : GV B W) : ConAt Tryd.prog (lookC L2) B W := con_cons_at (ok1 hG) (one2 hG)
theorem one3 (hG : GV B W) (w0 : W0) (hw : w0.w = W) : ConOne Tryd.prog B w0 26 (cIdB2 lessI) := one_pure_at mixed (ok2 hG) rfl (fun avs h K hc => by
  obtain ⟨t, n, t', n', rfl, hK⟩ := hc
  exact ⟨_, by simp [oldV, oldVs], hK, 0, fun K2 hK2 => Eq.mp (s_lagoonref4_Less_eq ..) (Less_run _ _ t n t' n' hK2)⟩) w0 hw
noncomputable def L3 : List (Nat × ConD) := (26, cIdB2 lessI) :: L2
theorem ok3 (hG : GV B W) : ConAt Tryd.prog (lookC L3) B W := con_cons_at (ok2 hG) (one3 hG)
theorem one4 (hG : GV B W) (w0 : W0) (hw : w0.w = W) : ConOne Tryd.prog B w0 43 (cIB fun n => decide (0 ≤ n) && decide (n < 64)) := one_pure_at mixed (ok3 hG) rfl (fun avs h K hc => by
  obtain ⟨n, rfl, hK⟩ := hc
  exact ⟨_, by simp [oldV, oldVs], hK, 0, fun K2 hK2 => Eq.mp (s_clock_node_eq ..) (node_run _ _ n hK2)⟩) w0 hw
noncomputable def L4 : List (Nat × ConD) := (43, cIB fun n => decide (0 ≤ n) && decide (n < 64)) :: L3
theorem ok4 (hG : GV B W) : ConAt Tryd.prog (lookC L4) B W := con_cons_at (ok3 hG) (one4 hG)
theorem one5 (hG : GV B W) (w0 : W0) (hw : w0.w = W) : ConOne Tryd.prog B w0 30 (cIdB validB) := one_pure_at mixed (ok4 hG) rfl (fun avs h K hc => by
  obtain ⟨t, n, rfl, hK⟩ := hc
  exact ⟨_, by simp [oldV, oldVs], hK, 0, fun K2 hK2 => Eq.mp (s_clock_Valid_eq ..) (clockValid_run _ _ (cfn_con rfl) t n hK2)⟩) w0 hw
noncomputable def L5 : List (Nat × ConD) := (30, cIdB validB) :: L4
theorem ok5 (hG : GV B W) : ConAt Tryd.prog (lookC L5) B W := con_cons_at (ok4 hG) (one5 hG)
theorem one6 (hG : GV B W) (w0 : W0) (hw : w0.w = W) : ConOne Tryd.prog B w0 67 (cNaN) := one_pure_at mixed (ok5 hG) rfl (fun avs h K hc => by
  obtain ⟨n, rfl, hK⟩ := hc
  exact ⟨_, by simp [oldV, oldVs], hK, 0, fun K2 hK2 => Eq.mp (s_cmp_isNaN_int64_eq ..) (isNaN64_run _ _ n hK2)⟩) w0 hw
noncomputable def L6 : List (Nat × ConD) := (67, cNaN) :: L5
theorem ok6 (hG : GV B W) : ConAt Tryd.prog (lookC L6) B W := con_cons_at (ok5 hG) (one6 hG)
theorem one7 (hG : GV B W) (w0 : W0) (hw : w0.w = W) : ConOne Tryd.prog B w0 68 (cNaN) := one_pure_at mixed (ok6 hG) rfl (fun avs h K hc => by
  obtain ⟨n, rfl, hK⟩ := hc
  exact ⟨_, by simp [oldV, oldVs], hK, 0, fun K2 hK2 => Eq.mp (s_cmp_isNaN_int_eq ..) (isNaN_run _ _ n hK2)⟩) w0 hw
noncomputable def L7 : List (Nat × ConD) := (68, cNaN) :: L6
theorem ok7 (hG : GV B W) : ConAt Tryd.prog (lookC L7) B W := con_cons_at (ok6 hG) (one7 hG)
theorem one8 (hG : GV B W) (w0 : W0) (hw : w0.w = W) : ConOne Tryd.prog B w0 52 (cCmp) := one_pure_at mixed (ok7 hG) rfl (fun avs h K hc => by
  obtain ⟨x, y, rfl, hK⟩ := hc
  exact ⟨_, by simp [oldV, oldVs], hK, 0, fun K2 hK2 => Eq.mp (s_cmp_Compare_int64_eq ..) (Compare64_run _ _ (cfn_con rfl) x y (hK2 h (Ext.refl h)))⟩) w0 hw
noncomputable def L8 : List (Nat × ConD) := (52, cCmp) :: L7
theorem ok8 (hG : GV B W) : ConAt Tryd.prog (lookC L8) B W := con_cons_at (ok7 hG) (one8 hG)
theorem one9 (hG : GV B W) (w0 : W0) (hw : w0.w = W) : ConOne Tryd.prog B w0 53 (cCmp) := one_pure_at mixed (ok8 hG) rfl (fun avs h K hc => by
  obtain ⟨x, y, rfl, hK⟩ := hc
  exact ⟨_, by simp [oldV, oldVs], hK, 0, fun K2 hK2 => Eq.mp (s_cmp_Compare_int_eq ..) (Compare_run _ _ (cfn_con rfl) x y (hK2 h (Ext.refl h)))⟩) w0 hw
noncomputable def L9 : List (Nat × ConD) := (53, cCmp) :: L8
theorem ok9 (hG : GV B W) : ConAt Tryd.prog (lookC L9) B W := con_cons_at (ok8 hG) (one9 hG)
theorem one10 (hG : GV B W) (w0 : W0) (hw : w0.w = W) : ConOne Tryd.prog B w0 40 (cIdI cmpI) := one_pure_at mixed (ok9 hG) rfl (fun avs h K hc => by
  obtain ⟨t, n, t', n', rfl, hK⟩ := hc
  exact ⟨_, by simp [oldV, oldVs], hK, 0, fun K2 hK2 => Eq.mp (s_clock_Cmp_eq ..) (Cmp_run _ _ (cfn_con rfl) (cfn_con rfl) t n t' n' hK2)⟩) w0 hw
noncomputable def L10 : List (Nat × ConD) := (40, cIdI cmpI) :: L9
theorem ok10 (hG : GV B W) : ConAt Tryd.prog (lookC L10) B W := con_cons_at (ok9 hG) (one10 hG)
theorem one11 (hG : GV B W) (w0 : W0) (hw : w0.w = W) : ConOne Tryd.prog B w0 25 (cIdB2 lessI) := one_pure_at mixed (ok10 hG) rfl (fun avs h K hc => by
  obtain ⟨t, n, t', n', rfl, hK⟩ := hc
  exact ⟨_, by simp [oldV, oldVs], hK, 0, fun K2 hK2 => Eq.mp (s_clock_Less_eq ..) (clockLess_run _ _ (cfn_con rfl) t n t' n' hK2)⟩) w0 hw
noncomputable def L11 : List (Nat × ConD) := (25, cIdB2 lessI) :: L10
theorem ok11 (hG : GV B W) : ConAt Tryd.prog (lookC L11) B W := con_cons_at (ok10 hG) (one11 hG)
theorem one12 (hG : GV B W) (w0 : W0) (hw : w0.w = W) : ConOne Tryd.prog B w0 69 (cIdxB) := one_pure_at mixed (ok11 hG) rfl (fun avs h K hc => by
  obtain ⟨l, b, rfl, h0, h1, hK⟩ := hc
  exact ⟨_, by simp [oldV, oldVs], hK, 0, fun K2 hK2 => Eq.mp (s_int_stringslite_IndexByte_eq ..) (litIndexByte_run _ _ l b h0 h1 hK2)⟩) w0 hw
noncomputable def L12 : List (Nat × ConD) := (69, cIdxB) :: L11
theorem ok12 (hG : GV B W) : ConAt Tryd.prog (lookC L12) B W := con_cons_at (ok11 hG) (one12 hG)
theorem one13 (hG : GV B W) (w0 : W0) (hw : w0.w = W) : ConOne Tryd.prog B w0 98 (cIdxB) := one_pure_at mixed (ok12 hG) rfl (fun avs h K hc => by
  obtain ⟨l, b, rfl, h0, h1, hK⟩ := hc
  exact ⟨_, by simp [oldV, oldVs], hK, 0, fun K2 hK2 => Eq.mp (s_strings_IndexByte_eq ..) (IndexByte_run _ _ (cfn_con rfl) l b h0 h1 hK2)⟩) w0 hw
noncomputable def L13 : List (Nat × ConD) := (98, cIdxB) :: L12
theorem ok13 (hG : GV B W) : ConAt Tryd.prog (lookC L13) B W := con_cons_at (ok12 hG) (one13 hG)
theorem one14 (hG : GV B W) (w0 : W0) (hw : w0.w = W) : ConOne Tryd.prog B w0 99 (cVR) := one_pure_at mixed (ok13 hG) rfl (fun avs h K hc => by
  obtain ⟨r, rfl, hK⟩ := hc
  exact ⟨_, by simp [oldV, oldVs], hK, 0, fun K2 hK2 => Eq.mp (s_unicode_utf8_ValidRune_eq ..) (ValidRune_run _ _ r hK2)⟩) w0 hw
noncomputable def L14 : List (Nat × ConD) := (99, cVR) :: L13
theorem ok14 (hG : GV B W) : ConAt Tryd.prog (lookC L14) B W := con_cons_at (ok13 hG) (one14 hG)
theorem one15 (hG : GV B W) (w0 : W0) (hw : w0.w = W) : ConOne Tryd.prog B w0 78 (cRune) := one_pure_at mixed (ok14 hG) rfl (fun avs h K hc => by
  obtain ⟨r, rfl, h0, h1, hK⟩ := hc
  exact ⟨_, by simp [oldV, oldVs], hK, 10, fun K2 hK2 => Eq.mp (s_strings_IndexRune_eq ..) (IndexRune_run _ _ (cfn_con rfl) (cfn_con rfl) r h0 h1 (by omega) hK2)⟩) w0 hw
noncomputable def L15 : List (Nat × ConD) := (78, cRune) :: L14
theorem ok15 (hG : GV B W) : ConAt Tryd.prog (lookC L15) B W := con_cons_at (ok14 hG) (one15 hG)
theorem one16 (hG : GV B W) (w0 : W0) (hw : w0.w = W) : ConOne Tryd.prog B w0 79 (cI1 fun n => decide (8 < n)) := one_pure_at mixed (ok15 hG) rfl (fun avs h K hc => by
  obtain ⟨n, rfl, hK⟩ := hc
  exact ⟨_, by simp [oldV, oldVs], hK, 0, fun K2 hK2 => Eq.mp (s_strings_shouldUseASCIISet_eq ..) (should_run _ _ n hK2)⟩) w0 hw
noncomputable def L16 : List (Nat × ConD) := (79, cI1 fun n => decide (8 < n)) :: L15
theorem ok16 (hG : GV B W) : ConAt Tryd.prog (lookC L16) B W := con_cons_at (ok15 hG) (one16 hG)
theorem one17 (hG : GV B W) (w0 : W0) (hw : w0.w = W) : ConOne Tryd.prog B w0 80 (cSet3) := one_to mixed con_nil 1000 3 80 [S [0, 1, 47]] (.tup [.agg set3, .bool true]) (by kernel_rfl) (by kernel_rfl) set3_runs B w0
noncomputable def L17 : List (Nat × ConD) := (80, cSet3) :: L16
theorem ok17 (hG : GV B W) : ConAt Tryd.prog (lookC L17) B W := con_cons_at (ok16 hG) (one17 hG)
theorem one18 (hG : GV B W) (w0 : W0) (hw : w0.w = W) : ConOne Tryd.prog B w0 81 (cContains) := one_pure_at mixed (ok17 hG) rfl (fun avs h K hc => by
  obtain ⟨o, e, f, b, rfl, he, h0, h1, hc, hK⟩ := hc
  exact ⟨_, by simp [oldV, oldVs], hK, 0, fun K2 hK2 => Eq.mp (s_strings_asciiSet_contains_eq ..) (contains_run _ _ o e f b he h0 h1 hc hK2)⟩) w0 hw
noncomputable def L18 : List (Nat × ConD) := (81, cContains) :: L17
theorem ok18 (hG : GV B W) : ConAt Tryd.prog (lookC L18) B W := con_cons_at (ok17 hG) (one18 hG)
theorem one19 (hG : GV B W) (w0 : W0) (hw : w0.w = W) : ConOne Tryd.prog B w0 57 (cIxAny) := one_pure_at mixed (ok18 hG) rfl (fun avs h K hc => by
  obtain ⟨l, rfl, hl, hK⟩ := hc
  exact ⟨_, by simp [oldV, oldVs], hK, l.length + 70, fun K2 hK2 => Eq.mp (s_strings_IndexAny_eq ..) (IndexAny_run _ _ (cfn_con rfl) (cfn_con rfl) (cfn_con rfl) (cfn_con rfl) l hl (by omega) hK2)⟩) w0 hw
noncomputable def L19 : List (Nat × ConD) := (57, cIxAny) :: L18
theorem ok19 (hG : GV B W) : ConAt Tryd.prog (lookC L19) B W := con_cons_at (ok18 hG) (one19 hG)
theorem one20 (hG : GV B W) (w0 : W0) (hw : w0.w = W) : ConOne Tryd.prog B w0 44 (cBad) := one_pure_at mixed (ok19 hG) rfl (fun avs h K hc => by
  obtain ⟨l, rfl, hl, hK⟩ := hc
  exact ⟨_, by simp [oldV, oldVs], hK, 0, fun K2 hK2 => Eq.mp (s_strings_ContainsAny_eq ..) (ContainsAny_run _ _ (cfn_con rfl) l hl hK2)⟩) w0 hw
noncomputable def L20 : List (Nat × ConD) := (44, cBad) :: L19
theorem ok20 (hG : GV B W) : ConAt Tryd.prog (lookC L20) B W := con_cons_at (ok19 hG) (one20 hG)
theorem one21 (hG : GV B W) (w0 : W0) (hw : w0.w = W) : ConOne Tryd.prog B w0 27 (cS localE) := one_pure_at mixed (ok20 hG) rfl (fun avs h K hc => by
  obtain ⟨l, rfl, hl, hK⟩ := hc
  exact ⟨_, by simp [oldV, oldVs], hK, l.length + 70, fun K2 hK2 => Eq.mp (s_lagoonref12_Local_eq ..) (Local_run _ _ l hl (by omega) hK2)⟩) w0 hw
noncomputable def L21 : List (Nat × ConD) := (27, cS localE) :: L20
theorem ok21 (hG : GV B W) : ConAt Tryd.prog (lookC L21) B W := con_cons_at (ok20 hG) (one21 hG)
theorem one22 (hG : GV B W) (w0 : W0) (hw : w0.w = W) : ConOne Tryd.prog B w0 11 (cS nameE) := one_pure_at mixed (ok21 hG) rfl (fun avs h K hc => by
  obtain ⟨l, rfl, hl, hK⟩ := hc
  exact ⟨_, by simp [oldV, oldVs], hK, l.length + 70, fun K2 hK2 => Eq.mp (s_lagoonref12_Name_eq ..) (refName_run _ _ (cfn_con rfl) l hl (by omega) hK2)⟩) w0 hw
noncomputable def L22 : List (Nat × ConD) := (11, cS nameE) :: L21
theorem ok22 (hG : GV B W) : ConAt Tryd.prog (lookC L22) B W := con_cons_at (ok21 hG) (one22 hG)
theorem one23 (hG : GV B W) (w0 : W0) (hw : w0.w = W) : ConOne Tryd.prog B w0 31 (cS nameE) := one_pure_at mixed (ok22 hG) rfl (fun avs h K hc => by
  obtain ⟨l, rfl, hl, hK⟩ := hc
  exact ⟨_, by simp [oldV, oldVs], hK, 0, fun K2 hK2 => Eq.mp (s_ops_Name_eq ..) (opsName_run _ _ (cfn_con rfl) l hl hK2)⟩) w0 hw
noncomputable def L23 : List (Nat × ConD) := (31, cS nameE) :: L22
theorem ok23 (hG : GV B W) : ConAt Tryd.prog (lookC L23) B W := con_cons_at (ok22 hG) (one23 hG)
theorem one24 (hG : GV B W) (w0 : W0) (hw : w0.w = W) : ConOne Tryd.prog B w0 54 (cIdx1) := one_code_at mixed (ok23 hG) rfl (fun avs h K hc => by
  obtain ⟨l, b, rfl, hK⟩ := hc
  exact ⟨0, Eq.mp (s_int_stringslite_Index_eq ..) (Index1_run _ _ (cfn_con rfl) l b hK)⟩) w0 hw
noncomputable def L24 : List (Nat × ConD) := (54, cIdx1) :: L23
theorem ok24 (hG : GV B W) : ConAt Tryd.prog (lookC L24) B W := con_cons_at (ok23 hG) (one24 hG)
theorem one25 (hG : GV B W) (w0 : W0) (hw : w0.w = W) : ConOne Tryd.prog B w0 41 (cCut) := one_code_at mixed (ok24 hG) rfl (fun avs h K hc => by
  obtain ⟨l, b, rfl, hl, hK⟩ := hc
  exact ⟨0, Eq.mp (s_int_stringslite_Cut_eq ..) (liteCut_run _ _ (cfn_con rfl) l b hl hK)⟩) w0 hw
noncomputable def L25 : List (Nat × ConD) := (41, cCut) :: L24
theorem ok25 (hG : GV B W) : ConAt Tryd.prog (lookC L25) B W := con_cons_at (ok24 hG) (one25 hG)
theorem one26 (hG : GV B W) (w0 : W0) (hw : w0.w = W) : ConOne Tryd.prog B w0 28 (cCut) := one_code_at mixed (ok25 hG) rfl (fun avs h K hc => by
  obtain ⟨l, b, rfl, hl, hK⟩ := hc
  exact ⟨0, Eq.mp (s_strings_Cut_eq ..) (Cut_run _ _ (cfn_con rfl) l b hl hK)⟩) w0 hw
noncomputable def L26 : List (Nat × ConD) := (28, cCut) :: L25
theorem ok26 (hG : GV B W) : ConAt Tryd.prog (lookC L26) B W := con_cons_at (ok25 hG) (one26 hG)
theorem one27 (hG : GV B W) (w0 : W0) (hw : w0.w = W) : ConOne Tryd.prog B w0 33 (cFmt) := fmt_one hG w0 hw
noncomputable def L27 : List (Nat × ConD) := (33, cFmt) :: L26
theorem ok27 (hG : GV B W) : ConAt Tryd.prog (lookC L27) B W := con_cons_at (ok26 hG) (one27 hG)
theorem one28 (hG : GV B W) (w0 : W0) (hw : w0.w = W) : ConOne Tryd.prog B w0 34 (cItoa) := itoa_one hG w0 hw
noncomputable def L28 : List (Nat × ConD) := (34, cItoa) :: L27
theorem ok28 (hG : GV B W) : ConAt Tryd.prog (lookC L28) B W := con_cons_at (ok27 hG) (one28 hG)
theorem one29 (hG : GV B W) (w0 : W0) (hw : w0.w = W) : ConOne Tryd.prog B w0 42 (cParse) := parse_one hG w0 hw
noncomputable def L29 : List (Nat × ConD) := (42, cParse) :: L28
theorem ok29 (hG : GV B W) : ConAt Tryd.prog (lookC L29) B W := con_cons_at (ok28 hG) (one29 hG)
theorem one30 (hG : GV B W) (w0 : W0) (hw : w0.w = W) : ConOne Tryd.prog B w0 15 (cSuf) := one_code_at mixed (ok29 hG) rfl (fun avs h K hc => by
  obtain ⟨t, n, rfl, hb, hK⟩ := hc
  exact ⟨0, Eq.mp (s_clash_Suffix_eq ..) (Suffix_run _ _ (cfn_con rfl) (cfn_con rfl) hb hK)⟩) w0 hw
noncomputable def L30 : List (Nat × ConD) := (15, cSuf) :: L29
theorem ok30 (hG : GV B W) : ConAt Tryd.prog (lookC L30) B W := con_cons_at (ok29 hG) (one30 hG)
theorem one31 (hG : GV B W) (w0 : W0) (hw : w0.w = W) : ConOne Tryd.prog B w0 29 (cNum) := one_code_at mixed (ok30 hG) rfl (fun avs h K hc => by
  obtain ⟨l, rfl, hl, h1, h2⟩ := hc
  exact ⟨0, Eq.mp (s_clash_number_eq ..) (number_run _ _ (cfn_con rfl) (cfn_con rfl) hl h1 h2)⟩) w0 hw
noncomputable def L31 : List (Nat × ConD) := (29, cNum) :: L30
theorem ok31 (hG : GV B W) : ConAt Tryd.prog (lookC L31) B W := con_cons_at (ok30 hG) (one31 hG)
theorem one32 (hG : GV B W) (w0 : W0) (hw : w0.w = W) : ConOne Tryd.prog B w0 13 (cSplit) := one_code_at mixed (ok31 hG) rfl (fun avs h K hc => by
  obtain ⟨l, rfl, hl, hK⟩ := hc
  exact ⟨0, Eq.mp (s_clash_Split_eq ..) (clashSplit_run _ _ (cfn_con rfl) (cfn_con rfl) (cfn_con rfl) (cfn_con rfl) (cfn_con rfl) l hl hK)⟩) w0 hw
noncomputable def L32 : List (Nat × ConD) := (13, cSplit) :: L31
theorem ok32 (hG : GV B W) : ConAt Tryd.prog (lookC L32) B W := con_cons_at (ok31 hG) (one32 hG)
theorem one33 (hG : GV B W) (w0 : W0) (hw : w0.w = W) : ConOne Tryd.prog B w0 35 (cDig) := one_code_at mixed (ok32 hG) rfl (fun avs h K hc => by
  obtain ⟨n, rfl, hn, hK⟩ := hc
  exact ⟨200, Eq.mp (s_lagoonref15_digits_eq ..) (digits_run _ _ hn (by omega) hK)⟩) w0 hw
noncomputable def L33 : List (Nat × ConD) := (35, cDig) :: L32
theorem ok33 (hG : GV B W) : ConAt Tryd.prog (lookC L33) B W := con_cons_at (ok32 hG) (one33 hG)
theorem one34 (hG : GV B W) (w0 : W0) (hw : w0.w = W) : ConOne Tryd.prog B w0 16 (cSuf) := one_code_at mixed (ok33 hG) rfl (fun avs h K hc => by
  obtain ⟨t, n, rfl, hb, hK⟩ := hc
  exact ⟨0, Eq.mp (s_lagoonref15_Suffix_eq ..) (refSuffix_run _ _ (cfn_con rfl) hb hK)⟩) w0 hw
noncomputable def L34 : List (Nat × ConD) := (16, cSuf) :: L33
theorem ok34 (hG : GV B W) : ConAt Tryd.prog (lookC L34) B W := con_cons_at (ok33 hG) (one34 hG)
theorem one35 (hG : GV B W) (w0 : W0) (hw : w0.w = W) : ConOne Tryd.prog B w0 32 (cNumG) := one_code_at mixed (ok34 hG) rfl (fun avs h K hc => by
  obtain ⟨l, rfl, hl, hK⟩ := hc
  exact ⟨200, Eq.mp (s_lagoonref15_number_eq ..) (numberG_run _ _ l hl (by omega) hK)⟩) w0 hw
noncomputable def L35 : List (Nat × ConD) := (32, cNumG) :: L34
theorem ok35 (hG : GV B W) : ConAt Tryd.prog (lookC L35) B W := con_cons_at (ok34 hG) (one35 hG)
theorem one36 (hG : GV B W) (w0 : W0) (hw : w0.w = W) : ConOne Tryd.prog B w0 14 (cSplitG) := one_code_at mixed (ok35 hG) rfl (fun avs h K hc => by
  obtain ⟨l, rfl, hl, hK⟩ := hc
  exact ⟨l.length + 10, Eq.mp (s_lagoonref15_Split_eq ..) (refSplit_run _ _ (cfn_con rfl) (cfn_con rfl) (cfn_con rfl) l hl (by omega) hK)⟩) w0 hw
noncomputable def L36 : List (Nat × ConD) := (14, cSplitG) :: L35
theorem ok36 (hG : GV B W) : ConAt Tryd.prog (lookC L36) B W := con_cons_at (ok35 hG) (one36 hG)
theorem one37 (hG : GV B W) (w0 : W0) (hw : w0.w = W) : ConOne Tryd.prog B w0 8 (cShown) := one_code_at mixed (ok36 hG) rfl (fun avs h K hc => by
  obtain ⟨v1, v2, els1, els2, ids, nms, rfl, hr1, hi1, hr2, hi2, hb, hn, hK⟩ := hc
  exact ⟨2000, Eq.mp (s_clash_Shown_eq ..) (Shown_run _ _ (cfn_con rfl) (cfn_con rfl) hr1 hi1 hr2 hi2 hb hn (by omega) hK)⟩) w0 hw
noncomputable def L37 : List (Nat × ConD) := (8, cShown) :: L36
theorem ok37 (hG : GV B W) : ConAt Tryd.prog (lookC L37) B W := con_cons_at (ok36 hG) (one37 hG)
theorem one38 (hG : GV B W) (w0 : W0) (hw : w0.w = W) : ConOne Tryd.prog B w0 9 (cShown) := one_code_at mixed (ok37 hG) rfl (fun avs h K hc => by
  obtain ⟨v1, v2, els1, els2, ids, nms, rfl, hr1, hi1, hr2, hi2, hb, hn, hK⟩ := hc
  exact ⟨2000, Eq.mp (s_lagoonref15_Shown_eq ..) (refShown_run _ _ (cfn_con rfl) (cfn_con rfl) (cfn_con rfl) hr1 hi1 hr2 hi2 hb hn (by omega) hK)⟩) w0 hw
noncomputable def L38 : List (Nat × ConD) := (9, cShown) :: L37
theorem ok38 (hG : GV B W) : ConAt Tryd.prog (lookC L38) B W := con_cons_at (ok37 hG) (one38 hG)
theorem one39 (hG : GV B W) (w0 : W0) (hw : w0.w = W) : ConOne Tryd.prog B w0 7 (trueC) := one_true mixed con_nil 1000 30 7 begun_runs B w0
noncomputable def L39 : List (Nat × ConD) := (7, trueC) :: L38
theorem ok39 (hG : GV B W) : ConAt Tryd.prog (lookC L39) B W := con_cons_at (ok38 hG) (one39 hG)
noncomputable abbrev LT : List (Nat × ConD) := L39
theorem okT (hG : GV B W) : ConAt Tryd.prog (lookC LT) B W := ok39 hG
end Lg

namespace Lg
set_option linter.unusedSimpArgs false
set_option linter.unusedVariables false
set_option maxRecDepth 100000
open Go Go.Am Go.Proofs Go.RowKit
theorem list_choose {α : Type} {p : Nat → α → Prop} : ∀ n, (∀ j, j < n → ∃ x, p j x) → ∃ l : List α, l.length = n ∧ ∀ j (hj : j < l.length), p j l[j]
  | 0, _ => ⟨[], rfl, fun j hj => by simp at hj⟩
  | n + 1, h => by
    obtain ⟨l, h1, h2⟩ := list_choose n fun j hj => h j (by omega)
    obtain ⟨x, hx⟩ := h n (by omega)
    refine ⟨l ++ [x], by simp [h1], fun j hj => ?_⟩
    by_cases e : j < l.length
    · rw [List.getElem_append_left e]; exact h2 j e
    · have hj' : j = n := by simp at hj; omega
      subst hj'
      rw [List.getElem_append_right (by omega)]
      simpa [h1] using hx
section
variable {P : Program} {H : Type} {hp : Hp}
theorem rdt_intb {n : Nat} {t : TypeId} {avs : List AV} {d : DataW H} (hu : P.underlying t = some (.int .i64)) (h : RdT P hp (n + 1) t avs d) : ∃ z, avs = [I z] ∧ InI z := by
  unfold RdT at h
  simp only [hu] at h
  obtain ⟨z, h1, _, h3⟩ := h
  refine ⟨z, h1, ?_⟩
  simp only [Lit.wf, Bool.and_eq_true, decide_eq_true_eq] at h3
  exact h3
theorem rdt_str {n : Nat} {t : TypeId} {avs : List AV} {d : DataW H} (hu : P.underlying t = some .string) (h : RdT P hp (n + 1) t avs d) : ∃ l, avs = [S l] ∧ l.length ≤ 140737488355328 := by
  unfold RdT at h
  simp only [hu] at h
  obtain ⟨z, h1, _, h2⟩ := h
  have : reachBytes ≤ 140737488355328 := by decide
  exact ⟨z, h1, by omega⟩
theorem rdB_cons {n : Nat} {t : TypeId} {ts : List TypeId} {avs : List AV} {ds : List (DataW H)} (h : RdB P hp n (t :: ts) avs ds) : ∃ a r d e, avs = a :: r ∧ ds = d :: e ∧ RdV P hp n t a d ∧ RdB P hp n ts r e := by
  cases avs with
  | nil => cases ds <;> exact h.elim
  | cons a r => cases ds with
    | nil => exact h.elim
    | cons d e => exact ⟨a, r, d, e, rfl, rfl, h.1, h.2⟩
theorem rdB_nil {n : Nat} {avs : List AV} {ds : List (DataW H)} (h : RdB P hp n [] avs ds) : avs = [] := by
  cases avs with
  | nil => rfl
  | cons a r => cases ds <;> exact h.elim
theorem rdf_cons {R : TypeId → List AV → DataW H → Prop} {f : Field} {fs : List Field} {cl : List (List AV)} {dl : List (DataW H)} (h : RdF P R (f :: fs) cl dl) : ∃ c cl' d dl', cl = c :: cl' ∧ dl = d :: dl' ∧ R f.type c d ∧ RdF P R fs cl' dl' := by
  match cl, dl, h with
  | c :: cl', d :: dl', h => exact ⟨c, cl', d, dl', rfl, rfl, h.2.1, h.2.2⟩
theorem rdf_nil {R : TypeId → List AV → DataW H → Prop} {cl : List (List AV)} {dl : List (DataW H)} (h : RdF P R [] cl dl) : cl = [] := by
  match cl, dl, h with
  | [], [], _ => rfl
theorem rdV_one {n : Nat} {t : TypeId} {a : AV} {d : DataW H} (hs : structT P t = false) (h : RdV P hp n t a d) : RdT P hp n t [a] d := by
  rcases h with h | h
  · exact h.2
  · rw [hs] at h; cases h.1
theorem rdV_struct {n : Nat} {t : TypeId} {a : AV} {d : DataW H} (hs : cell1T P t = false) (h : RdV P hp n t a d) : ∃ l, a = .agg l ∧ RdT P hp n t l d := by
  rcases h with h | h
  · rw [hs] at h; cases h.1
  · exact h.2
end
section
variable {H : Type} {hp : Hp}
theorem rd_idb {n : Nat} {avs : List AV} {d : DataW H} (h : RdT Tryd.prog hp (n + 2) 29 avs d) : ∃ t k, avs = [I t, I k] ∧ InI t ∧ InI k := by
  unfold RdT at h
  simp only [Tryd.underlying29] at h
  obtain ⟨dl, cl, _, rfl, hf⟩ := h
  obtain ⟨c0, cl, d0, dl, rfl, rfl, h0, hf⟩ := rdf_cons hf
  obtain ⟨c1, cl, d1, dl, rfl, rfl, h1, hf⟩ := rdf_cons hf
  obtain rfl := rdf_nil hf
  obtain ⟨t, rfl, ht⟩ := rdt_intb Tryd.underlying2 h0
  obtain ⟨k, rfl, hk⟩ := rdt_intb Tryd.underlying3 h1
  exact ⟨t, k, rfl, ht, hk⟩
theorem rd_ids {n : Nat} {avs : List AV} {d : DataW H} (h : RdT Tryd.prog hp (n + 3) 22 avs d) : ∃ (v : AV) (els : List (List AV)) (ids : List IdI), avs = [v] ∧ Rd hp 2 v els ∧ IdsR els ids ∧ IdsB ids := by
  unfold RdT at h
  simp only [Tryd.underlying22] at h
  have hc : Tryd.prog.cellsOf 29 = 2 := by kernel_rfl
  have hb : Tryd.prog.bytesOf 29 = 16 := by kernel_rfl
  rcases h with ⟨rfl, _⟩ | ⟨o, rfl, _⟩ | ⟨o, c, ob, ds, sp, rfl, _, h1, h2, h3, h4, _, h5⟩
  · exact ⟨_, [], [], rfl, .inl ⟨rfl, rfl⟩, rfl, fun i hi => by cases hi⟩
  · exact ⟨_, [], [], rfl, .inr (.inl ⟨o, rfl, rfl⟩), rfl, fun i hi => by cases hi⟩
  · rw [hc] at h5
    obtain ⟨l, l1, l2⟩ := list_choose (p := fun j (z : IdI) => cellsO ob 2 (j * 2) = some [I z.1, I z.2] ∧ InI z.1 ∧ InI z.2) ds.length fun j hj => by
      obtain ⟨cj, r1, _, r3⟩ := h5 j hj
      obtain ⟨t, k, rfl, ht, hk⟩ := rd_idb r3
      exact ⟨(t, k), r1, ht, hk⟩
    have hbd : ds.length ≤ 8796093022208 := by
      rw [hb] at h2
      have : reachBytes ≤ 140737488355328 := by decide
      omega
    refine ⟨_, l.map fun (i : IdI) => [I i.1, I i.2], l, rfl, .inr (.inr ⟨o, 0, true, c, _, by simp [l1], h3, h4, ⟨by simp; omega, fun _ => by simp; omega⟩, fun j hj => ?_⟩), rfl, fun i hi => ?_⟩
    · have hj' : j < l.length := by simpa using hj
      rw [Nat.zero_add, List.getElem_map]
      exact (l2 j hj').1
    · obtain ⟨j, hj, rfl⟩ := List.mem_iff_getElem.1 hi
      exact (l2 j hj).2
theorem rd_nms {n : Nat} {avs : List AV} {d : DataW H} (h : RdT Tryd.prog hp (n + 2) 23 avs d) : ∃ (v : AV) (els : List (List AV)) (nms : List (List UInt8)), avs = [v] ∧ Rd hp 1 v els ∧ NmsR els nms ∧ NmsB nms := by
  unfold RdT at h
  simp only [Tryd.underlying23] at h
  have hc : Tryd.prog.cellsOf 9 = 1 := by kernel_rfl
  have hb : Tryd.prog.bytesOf 9 = 16 := by kernel_rfl
  rcases h with ⟨rfl, _⟩ | ⟨o, rfl, _⟩ | ⟨o, c, ob, ds, sp, rfl, _, h1, h2, h3, h4, _, h5⟩
  · exact ⟨_, [], [], rfl, .inl ⟨rfl, rfl⟩, rfl, fun i hi => by cases hi⟩
  · exact ⟨_, [], [], rfl, .inr (.inl ⟨o, rfl, rfl⟩), rfl, fun i hi => by cases hi⟩
  · rw [hc] at h5
    obtain ⟨l, l1, l2⟩ := list_choose (p := fun j (z : List UInt8) => cellsO ob 1 (j * 1) = some [S z] ∧ z.length ≤ 140737488355328) ds.length fun j hj => by
      obtain ⟨cj, r1, _, r3⟩ := h5 j hj
      obtain ⟨s, rfl, hs⟩ := rdt_str Tryd.underlying9 r3
      exact ⟨s, r1, hs⟩
    have hbd : ds.length ≤ 8796093022208 := by
      rw [hb] at h2
      have : reachBytes ≤ 140737488355328 := by decide
      omega
    refine ⟨_, l.map fun s => [S s], l, rfl, .inr (.inr ⟨o, 0, true, c, _, by simp [l1], h3, h4, ⟨by simp; omega, fun _ => by simp; omega⟩, fun j hj => ?_⟩), rfl, fun i hi => ?_⟩
    · have hj' : j < l.length := by simpa using hj
      rw [Nat.zero_add, List.getElem_map]
      exact (l2 j hj').1
    · obtain ⟨j, hj, rfl⟩ := List.mem_iff_getElem.1 hi
      exact (l2 j hj).2
end
end Lg

namespace Lg
set_option linter.unusedSimpArgs false
set_option linter.unusedVariables false
set_option maxRecDepth 100000
open Go Go.Am Go.Proofs Go.RowKit Go.Proofs.YtnhamanffojhfaaDoor
theorem var_below {P : Program} {W w : World} (h : Below W.heap.size W w) {n : String} {cs : Array Value} (hv : W.var? P n = some cs) : w.var? P n = some cs := by
  unfold World.var? at hv ⊢
  cases hg : P.globalNamed n with
  | none => simp [hg] at hv
  | some g =>
    simp only [hg, Option.bind_some] at hv ⊢
    have hlt : g < W.heap.size := by
      rcases Nat.lt_or_ge g W.heap.size with h' | h'
      · exact h'
      · simp [Array.getElem?_eq_none h'] at hv
    rw [h.block g hlt]
    exact hv
theorem star : "*" ++ "errors.errorString" = "*errors.errorString" := by decide
theorem rowErr (u : TypeId) (h : Tryd.prog.typeName? 3 u = some "*errors.errorString") : u = 121 :=
  typeName_ptr_named (nm := "errors.errorString") (by rw [star]; kernel_rfl) (by kernel_rfl) (by decide) u (by rw [star]; exact h)
theorem gv_of {W : World} {r : List (String × DataW Unit)}
    (h : laidMet Tryd.prog (("internal/strconv.uint64pow10", Rows.laid_internal_strconv_uint64pow10) :: ("strconv.ErrRange", Rows.laid_strconv_ErrRange) :: ("strconv.ErrSyntax", Rows.laid_strconv_ErrSyntax) :: r) W) : GV W.heap.size W := by
  have htab : Lib.TabIs Tryd.prog W "internal/strconv.uint64pow10" .u64 Lib.pow10Tab := Lib.tabIs_of_head (g := 1) (t := 100) (e := 76) (by kernel_rfl) (by kernel_rfl) Tryd.underlying100 Tryd.underlying76 (by kernel_rfl) (by kernel_rfl) h
  have h1 := h.tail
  obtain ⟨a1, s1, v1, _⟩ := laid_sentinel (g := 3) (ti := 58) (tp := 121) h1 (by kernel_rfl) (by kernel_rfl) Tryd.underlying58 rowErr Tryd.underlying121 Tryd.underlying123 rfl rfl Tryd.underlying9 (by kernel_rfl) (by kernel_rfl)
  have h2 := h1.tail
  obtain ⟨a2, s2, v2, _⟩ := laid_sentinel (g := 2) (ti := 58) (tp := 121) h2 (by kernel_rfl) (by kernel_rfl) Tryd.underlying58 rowErr Tryd.underlying121 Tryd.underlying123 rfl rfl Tryd.underlying9 (by kernel_rfl) (by kernel_rfl)
  exact ⟨Lib.tabBelow_of_tabIs htab, ⟨_, _, fun w hb => var_below hb v2⟩, ⟨_, _, fun w hb => var_below hb v1⟩⟩
end Lg

