/-
  Stores, new slices, bytes.
-/
import Derived.Test.YtbefkepinpollaaGreatDoorAmActs
namespace Go.Am
set_option linter.unusedSimpArgs false
set_option linter.unusedVariables false
open Go Go.RowKit
variable {P : Program} {o : Oper}

def arrSet : Array Value → Nat → List Value → Array Value
  | c, _, [] => c
  | c, i, v :: vs => arrSet (c.setIfInBounds i v) (i + 1) vs
theorem arrSet_size : ∀ (vs : List Value) (c : Array Value) (i : Nat), (arrSet c i vs).size = c.size
  | [], c, i => rfl
  | v :: vs, c, i => by rw [arrSet, arrSet_size vs]; simp
theorem arrSet_get : ∀ (vs : List Value) (c : Array Value) (i j : Nat), i + vs.length ≤ c.size → (arrSet c i vs)[j]? = if i ≤ j ∧ j < i + vs.length then vs[j - i]? else c[j]?
  | [], c, i, j, h => by simp [arrSet]; omega
  | v :: vs, c, i, j, h => by
    simp only [List.length_cons] at h
    rw [arrSet, arrSet_get vs _ (i + 1) j (by simp; omega), Array.getElem?_setIfInBounds]
    by_cases h1 : j = i
    · subst h1
      rw [if_neg (by omega), if_pos rfl, if_pos (by omega), if_pos (by simp)]; simp
    · by_cases h2 : i + 1 ≤ j ∧ j < i + 1 + vs.length
      · rw [if_pos h2, if_pos (by simp; omega), show j - i = (j - (i + 1)) + 1 by omega]; simp
      · rw [if_neg h2, if_neg (by omega), if_neg (by simp; omega)]
theorem setCell_block (w : World) (b i : Nat) (v : Value) {c : Array Value} {t : TypeId} {fr : Nat × Nat} (h : w.heap[b]? = some (.cells c t fr)) : (w.setCell ⟨b, i, none⟩ v).heap[b]? = some (.cells (c.setIfInBounds i v) t fr) := by
  simp [World.setCell, Array.getElem?_modify, h]
theorem setCells_block (b : Nat) : ∀ (vs : List Value) (i : Nat) (w : World) (c : Array Value) (t : TypeId) (fr : Nat × Nat), w.heap[b]? = some (.cells c t fr) → (w.setCells b i vs).heap[b]? = some (.cells (arrSet c i vs) t fr)
  | [], i, w, c, t, fr, h => h
  | v :: vs, i, w, c, t, fr, h => setCells_block b vs (i + 1) _ _ t fr (setCell_block w b i v h)
theorem setCells_other (b k : Nat) (hk : k ≠ b) : ∀ (vs : List Value) (i : Nat) (w : World), (w.setCells b i vs).heap[k]? = w.heap[k]?
  | [], i, w => rfl
  | v :: vs, i, w => by
    rw [World.setCells, setCells_other b k hk vs (i + 1)]
    exact Below.heap_setCell _ _ _ _ hk
theorem setCells_size (b : Nat) : ∀ (vs : List Value) (i : Nat) (w : World), (w.setCells b i vs).heap.size = w.heap.size
  | [], i, w => rfl
  | v :: vs, i, w => by rw [World.setCells, setCells_size b vs (i + 1)]; simp [World.setCell]
theorem setCells_below {B b : Nat} (hb : B ≤ b) : ∀ (vs : List Value) (i : Nat) (w : World), Below B w (w.setCells b i vs)
  | [], i, w => Below.refl _ _
  | v :: vs, i, w => by
    rw [World.setCells]
    exact ((Below.refl B w).setCell (p := ⟨b, i, none⟩) hb v).trans (setCells_below hb vs (i + 1) _)

theorem setCellK_iff {ob : AObj} {j : Nat} {v : AV} {k : AObj → Prop} (hj : j < sizeOfObj ob) (h : setCellK ob j v k) :
    ∃ ob', k ob' ∧ rowLike ob' ∧ sizeOfObj ob' = sizeOfObj ob ∧ ∀ i, cellAt ob' i = if i = j then some v else cellAt ob i := by
  cases ob with
  | row cs =>
    simp only [setCellK, setLK_eq] at h
    refine ⟨_, h, trivial, by simp [sizeOfObj], fun i => ?_⟩
    simp only [cellAt, getL_eq, List.getElem?_set]
    simp only [sizeOfObj] at hj
    by_cases hi : i = j
    · subst hi; simp [hj]
    · rw [if_neg (fun e => hi e.symm), if_neg hi]
  | big n t d =>
    simp only [setCellK, V1.updPK_eq] at h
    refine ⟨_, h, trivial, rfl, fun i => ?_⟩
    rw [cellAt_big, cellAt_big]
    simp only [sizeOfObj] at hj
    by_cases hi : i = j
    · subst hi; rw [V1.getP_upd_self]; simp [hj]
    · rw [V1.getP_upd_ne _ _ _ _ (fun e => hi (fpos_inj e).symm), if_neg hi]
  | byts n x =>
    rw [setCellK_byts] at h
    split at h
    · rename_i m
      split at h
      · rename_i hm
        rw [forceN_eq] at h
        have hm' : m < 256 := by simpa using hm
        refine ⟨_, h, trivial, rfl, fun i => ?_⟩
        rw [cellAt_byts, cellAt_byts, byteAt_set _ _ _ _ hm']
        simp only [sizeOfObj] at hj
        by_cases hi : i = j
        · subst hi; simp [hj]
        · simp [hi]
      · exact h.elim
    · exact h.elim
  | _ => exact h.elim
theorem setCellsK_iff : ∀ (l : List AV) (ob : AObj) (off : Nat) (k : AObj → Prop), rowLike ob → setCellsK l ob off k →
    ∃ ob', k ob' ∧ rowLike ob' ∧ sizeOfObj ob' = sizeOfObj ob ∧ (l = [] ∨ off + l.length ≤ sizeOfObj ob) ∧ ∀ j, cellAt ob' j = if off ≤ j ∧ j < off + l.length then l[j - off]? else cellAt ob j
  | [], ob, off, k, hr, h => ⟨ob, h, hr, rfl, .inl rfl, fun j => by simp; omega⟩
  | v :: l, ob, off, k, hr, h => by
    rw [setCellsK_cons] at h
    split at h
    · rename_i hb
      have hb' : off < sizeOfObj ob := by simpa using hb
      obtain ⟨ob1, h1, r1, s1, c1⟩ := setCellK_iff hb' h
      obtain ⟨ob2, h2, r2, s2, b2, c2⟩ := setCellsK_iff l ob1 (off + 1) k r1 h1
      refine ⟨ob2, h2, r2, by rw [s2, s1], .inr ?_, fun j => ?_⟩
      · rcases b2 with rfl | b2
        · simp; omega
        · simp; omega
      · rw [c2, c1]
        by_cases hj : off + 1 ≤ j ∧ j < off + 1 + l.length
        · rw [if_pos hj, if_pos (by simp; omega), show j - off = (j - (off + 1)) + 1 by omega]; simp
        · rw [if_neg hj]
          by_cases hi : j = off
          · subst hi; rw [if_pos rfl, if_pos (by simp)]; simp
          · rw [if_neg hi, if_neg (by simp; omega)]
    · exact h.elim

/-- A row that is written in place. -/
theorem Sim.write {B : Nat} {w0 : W0} {w : World} {κ : Kap} {h : Hp} (s : Sim B w0 κ h w) {p : Nat} {e : Ent} {ki : Ki} (he : h.objs.getP (npos p) = some e) (hk : κ p = some ki) (hown : e.own = true) {l : List AV} {L : List Value} (hg : gams κ l = some L) (h1 : L.all Value.oneCell' = true)
    {off : Nat} {ob : AObj} (hr : rowLike e.obj) (hro : rowLike ob) (hsz : sizeOfObj ob = sizeOfObj e.obj) (hb : l = [] ∨ off + l.length ≤ sizeOfObj e.obj) (hc : ∀ j, cellAt ob j = if off ≤ j ∧ j < off + l.length then l[j - off]? else cellAt e.obj j) :
    (storeCells (ki.at off) L).run P w = .ok () (w.setCells ki.blk (ki.base + off) L) ∧ Sim B w0 κ ⟨E1.updP (some ⟨true, e.esz, ob⟩) (npos p) h.objs, h.next⟩ (w.setCells ki.blk (ki.base + off) L) := by
  have hlen := gams_length _ _ hg
  have hB : B ≤ ki.blk := by
    obtain ⟨ki', q1, q2, _, _⟩ := s.obj p e he
    rw [hk] at q1; cases q1; exact q2 hown
  obtain ⟨ki', q1, c, t, fr, q2, q3, q4, hdef, q5⟩ := s.row he hr
  rw [hk] at q1; cases q1
  have hcell : ∀ j, j < L.length → ∃ V, w.cell? ⟨ki.blk, ki.base + off + j, none⟩ = some V ∧ w.frozen? ⟨ki.blk, ki.base + off + j, none⟩ = false := by
    intro j hj
    have hlt : off + j < sizeOfObj e.obj := by
      rcases hb with rfl | hb
      · simp only [List.length_nil] at hlen; omega
      · omega
    obtain ⟨v, hv⟩ := hdef _ hlt
    obtain ⟨V, _, _, g3, g4⟩ := s.cell he hk hv
    have ea : (⟨ki.blk, ki.base + off + j, none⟩ : Addr) = ki.at (off + j) := by simp [Ki.at, Nat.add_assoc]
    exact ⟨V, by rw [ea]; exact g3, by rw [ea]; exact g4⟩
  refine ⟨?_, ?_⟩
  · have := run_storeCells_cells (P := P) ki.blk (ki.base + off) L 0 w (fun j hj => by obtain ⟨V, g, _⟩ := hcell j hj; simp [g]) (fun j hj => by obtain ⟨V, _, g⟩ := hcell j hj; simpa using g) (List.all_eq_true.1 h1)
    simpa [Ki.at] using this
  · refine s.put he hk hown (setCells_below hB _ _ _) (setCells_size _ _ _ _) (fun b hb => setCells_other _ _ hb _ _ _) ob ?_
    rw [objSim_row hro, setCells_block _ _ _ _ _ _ _ q2]
    have hroom : L = [] ∨ ki.base + off + L.length ≤ c.size := by
      rcases hb with rfl | hb
      · exact .inl (List.eq_nil_of_length_eq_zero (by simpa using hlen))
      · by_cases hz : L.length = 0
        · exact .inl (List.eq_nil_of_length_eq_zero hz)
        · right
          obtain ⟨v, hv⟩ := hdef (off + (L.length - 1)) (by omega)
          obtain ⟨V, _, _, g3⟩ := q5 _ v hv
          have := (Array.getElem?_eq_some_iff.1 g3).1
          omega
    have hget : ∀ j, (arrSet c (ki.base + off) L)[j]? = if ki.base + off ≤ j ∧ j < ki.base + off + L.length then L[j - (ki.base + off)]? else c[j]? := by
      intro j
      rcases hroom with h0 | h0
      · rw [h0]; simp [arrSet]; omega
      · exact arrSet_get _ _ _ _ h0
    refine ⟨_, t, fr, rfl, by rw [arrSet_size]; exact q3, by rw [arrSet_size]; exact q4, fun j hj => ?_, fun j v hv => ?_⟩
    · rw [hc]
      split
      · exact ⟨_, List.getElem?_eq_getElem (by omega)⟩
      · exact hdef j (hsz ▸ hj)
    rw [hc] at hv
    rw [hget]
    split at hv
    · rename_i hj
      obtain ⟨V, g1, g2⟩ := gams_get _ _ _ _ hg hv
      refine ⟨V, g1, (List.all_eq_true.1 h1) V (List.mem_of_getElem? g2), ?_⟩
      rw [if_pos (by omega), show ki.base + j - (ki.base + off) = j - off by omega]
      exact g2
    · rename_i hj
      obtain ⟨V, g1, g2, g3⟩ := q5 j v hv
      exact ⟨V, g1, g2, by rw [if_neg (by omega)]; exact g3⟩

end Go.Am
