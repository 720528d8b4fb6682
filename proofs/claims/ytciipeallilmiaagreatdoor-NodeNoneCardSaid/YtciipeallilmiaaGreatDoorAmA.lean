/-
  Parts of the abstract machine and its use, joined: AmActs AmActs2 AmActs3 AmActs4 AmActs5 AmActs6 AmCopy. No condition.
-/
import Derived.Test.YtciipeallilmiaaGreatDoorAmP
namespace Go.Am
set_option linter.unusedSimpArgs false
set_option linter.unusedVariables false
open Go Go.RowKit
variable {P : Program} {o : Oper}

def ActOK (P : Program) (D : OpD) (o : Oper) : Prop :=
  ∀ fr h K, D fr h K → ∃ av h', K av h' ∧ ∀ B w0 κ ρ w, Sim B w0 κ h w → Rho κ fr ρ →
    ∃ κ' v w', κ.le κ' ∧ Sim B w0 κ' h' w' ∧ gam κ' av = some v ∧ ((execOp ρ o).run P w = .ok (.value v) w' ∨ ((execOp ρ o).run P w = .ok .skip w' ∧ v = undef))
theorem ReadOK.act {D : OpD} (h : ReadOK P D o) : ActOK P D o := fun fr h' K hD =>
  let ⟨av, hK, hr⟩ := h fr h' K hD
  ⟨av, h', hK, fun B w0 κ ρ w s hρ => let ⟨v, h1, h2⟩ := hr B w0 κ ρ w s hρ; ⟨κ, v, w, κ.le_refl, s, h1, .inl h2⟩⟩

/-! ### new rows -/
theorem trieK_eq : ∀ (l : List AV) (i : Nat) (t : V1) (k : V1 → Prop), trieK l i t k → ∃ t', k t' ∧ ∀ j, t'.getP (fpos j) = if i ≤ j ∧ j < i + l.length then l[j - i]? else t.getP (fpos j)
  | [], i, t, k, h => ⟨t, h, fun j => by simp; omega⟩
  | v :: l, i, t, k, h => by
    rw [trieK_cons, V1.updPK_eq] at h
    obtain ⟨t', h1, h2⟩ := trieK_eq l (i + 1) _ k h
    refine ⟨t', h1, fun j => ?_⟩
    rw [h2]
    by_cases hj : i + 1 ≤ j ∧ j < i + 1 + l.length
    · rw [if_pos hj, if_pos (by simp; omega), show j - i = (j - (i + 1)) + 1 by omega]; simp
    · rw [if_neg hj]
      by_cases hi : j = i
      · subst hi
        rw [V1.getP_upd_self, if_pos (by simp)]; simp
      · rw [V1.getP_upd_ne _ _ _ _ (fun e => hi (fpos_inj e).symm), if_neg (by simp; omega)]
theorem packAV_get : ∀ (l : List AV) (x : Nat), packAV l = some x → ∀ j, j < l.length → l[j]? = some (.int .u8 (Int.ofNat (byteAt x j)))
  | [], x, h, j, hj => by simp at hj
  | v :: l, x, h, j, hj => by
    simp only [packAV] at h
    split at h
    · rename_i b
      split at h
      · rename_i hb
        have hb' : b < 256 := by simpa using hb
        simp only [Option.map_eq_some_iff] at h
        obtain ⟨y, h1, rfl⟩ := h
        cases j with
        | zero => simp [byteAt_zero]; omega
        | succ j =>
          have := packAV_get l y h1 j (by simpa using hj)
          rw [byteAt_succ, show (b + 256 * y) / 256 = y by omega]
          simpa using this
      · cases h
    · cases h
theorem cellAt_byts (n x j : Nat) : cellAt (.byts n x) j = if j < n then some (.int .u8 (Int.ofNat (byteAt x j))) else none := by
  simp only [cellAt]
  by_cases h : j < n
  · have : Nat.blt j n = true := by simpa using h
    rw [this, if_pos h]
  · have : Nat.blt j n = false := by rw [Bool.eq_false_iff]; simpa using h
    rw [this, if_neg h]
theorem cellAt_big (n : Nat) (t : V1) (d : List AV) (j : Nat) : cellAt (.big n t d) j = if j < n then (match t.getP (fpos j) with | some v => some v | none => d[j % d.length]?) else none := by
  simp only [cellAt, getL_eq]
  by_cases h : j < n
  · have : Nat.blt j n = true := by simpa using h
    rw [this, if_pos h]
    show Option.rec (motive := fun _ => Option AV) d[j % d.length]? some (t.getP (fpos j)) = _
    cases t.getP (fpos j) <;> rfl
  · have : Nat.blt j n = false := by rw [Bool.eq_false_iff]; simpa using h
    rw [this, if_neg h]
theorem cellAt_lt {ob : AObj} {j : Nat} {v : AV} (h : cellAt ob j = some v) : j < sizeOfObj ob := by
  cases ob with
  | row cs => simp only [cellAt, getL_eq] at h; exact (List.getElem?_eq_some_iff.1 h).1
  | big n t d => rw [cellAt_big] at h; split at h <;> simp_all [sizeOfObj]
  | byts n x => rw [cellAt_byts] at h; split at h <;> simp_all [sizeOfObj]
  | _ => simp [cellAt] at h
theorem rowK_iff {u8 : Bool} {cs : List AV} {k : AObj → Prop} (h : rowK u8 cs k) : ∃ ob, k ob ∧ rowLike ob ∧ sizeOfObj ob = cs.length ∧ ∀ j, cellAt ob j = cs[j]? := by
  cases u8 with
  | true =>
    obtain ⟨x, hx, h⟩ := asOpt_iff.1 (show asOpt (packAV cs) _ from h)
    simp only [forceN_eq] at h
    refine ⟨_, h, trivial, rfl, fun j => ?_⟩
    rw [cellAt_byts]
    split
    · rename_i hj; exact (packAV_get cs x hx j hj).symm
    · rename_i hj; rw [List.getElem?_eq_none (by omega)]
  | false =>
    have h' : Bool.rec (motive := fun _ => Prop) (trieK cs 0 .lf fun t => forceN cs.length fun n => k (.big n t [])) (k (.row cs)) (Nat.ble cs.length 24) := h
    cases hb : Nat.ble cs.length 24 with
    | true => rw [hb] at h'; exact ⟨.row cs, h', trivial, rfl, fun j => by simp [cellAt, getL_eq]⟩
    | false =>
      rw [hb] at h'
      obtain ⟨t, h1, h2⟩ := trieK_eq _ _ _ _ h'
      rw [forceN_eq] at h1
      refine ⟨_, h1, trivial, rfl, fun j => ?_⟩
      rw [cellAt_big, h2]
      by_cases hj : j < cs.length
      · rw [if_pos hj, if_pos (by omega)]
        simp only [Nat.sub_zero]
        rw [List.getElem?_eq_getElem hj]
      · rw [if_neg hj, List.getElem?_eq_none (by omega)]
theorem repL_get {α : Type} [Inhabited α] (d : List AV) : ∀ (n j : Nat), (repL d n)[j]? = if j < n * d.length then d[j % d.length]? else none
  | 0, j => by simp [repL]
  | n + 1, j => by
    simp only [repL, List.getElem?_append, repL_get (α := α) d n]
    by_cases h : j < d.length
    · rw [if_pos h, if_pos (by rw [Nat.succ_mul]; omega), Nat.mod_eq_of_lt h]
    · rw [if_neg h]
      by_cases h2 : j - d.length < n * d.length
      · rw [if_pos h2, if_pos (by rw [Nat.succ_mul]; omega), ← Nat.mod_eq_sub_mod (by omega)]
      · rw [if_neg h2, if_neg (by rw [Nat.succ_mul]; omega)]
theorem repL_length (d : List AV) : ∀ n, (repL d n).length = n * d.length
  | 0 => by simp [repL]
  | n + 1 => by simp [repL, repL_length d n, Nat.succ_mul]; omega
theorem zerosK_iff {u8 : Bool} {n : Nat} {d : List AV} {k : AObj → Prop} (hu : u8 = true → d = [.int .u8 (.ofNat 0)]) (h : zerosK u8 n d k) :
    ∃ ob, k ob ∧ rowLike ob ∧ sizeOfObj ob = n * d.length ∧ ∀ j, cellAt ob j = (repL d n)[j]? := by
  cases u8 with
  | true =>
    have hd := hu rfl; subst hd
    refine ⟨_, h, trivial, by simp [sizeOfObj], fun j => ?_⟩
    rw [repL_get (α := Unit), cellAt_byts]
    simp only [List.length_singleton, Nat.mul_one, Nat.mod_one]
    split <;> simp [byteAt]
  | false =>
    have h' : Bool.rec (motive := fun _ => Prop) (forceN (n * d.length) fun n => k (.big n .lf d)) (k (.row (repL d n))) (Nat.ble (n * d.length) 24) := h
    cases hb : Nat.ble (n * d.length) 24 with
    | true => rw [hb] at h'; exact ⟨_, h', trivial, by simp [sizeOfObj, repL_length], fun j => by simp [cellAt, getL_eq]⟩
    | false =>
      rw [hb] at h'
      simp only [forceN_eq] at h'
      exact ⟨_, h', trivial, rfl, fun j => by rw [cellAt_big, V1.getP_lf, repL_get (α := Unit)]⟩
/-- A row whose cells are some values of the model's lies in a new block. -/
theorem rowSim_new {κ : Kap} {ob : AObj} {cs : List AV} {C : Array Value} (hsz : sizeOfObj ob = cs.length) (hc : ∀ j, cellAt ob j = cs[j]?) (hg : gams κ cs = some C.toList) (h1 : C.toList.all Value.oneCell' = true)
    (rest : Array Value) (t : TypeId) (esz cap b : Nat) (hcap : cap * esz ≤ (C ++ rest).size) : RowSim κ ob esz ⟨b, 0, cap⟩ (some (.cells (C ++ rest) t)) := by
  refine ⟨_, t, (0, 0), rfl, by simpa using hcap, Or.inl rfl, fun j hj => ⟨_, (hc j).trans (List.getElem?_eq_getElem (hsz ▸ hj))⟩, fun j v hv => ?_⟩
  rw [hc] at hv
  obtain ⟨V, g1, g2⟩ := gams_get _ _ _ _ hg hv
  refine ⟨V, g1, (List.all_eq_true.1 h1) V (List.mem_of_getElem? g2), ?_⟩
  have hj : j < C.size := by simpa using (List.getElem?_eq_some_iff.1 g2).1
  simp only [Nat.zero_add]
  rw [Array.getElem?_append_left hj]
  simpa using g2

theorem newK_eq (h : Hp) (e : Ent) (k : Nat → Hp → Prop) : newK h e k = k h.next ⟨E1.updP (some e) (npos h.next) h.objs, h.next + 1⟩ := by
  simp only [newK, E1.updPK_eq, forceN_eq]
theorem putK_eq (h : Hp) (p : Nat) (e : Option Ent) (k : Hp → Prop) : putK h p e k = k ⟨E1.updP e (npos p) h.objs, h.next⟩ := by
  simp only [putK, E1.updPK_eq]

theorem box_core {fr : Fr} {h : Hp} {K : AV → Hp → Prop} {x : AV} {n : Nat} (hD : asCells x fun l => gd (Nat.beq l.length n) (rowK false l fun ob => newK h ⟨true, n, ob⟩ fun o h => K (.ptr o 0) h)) :
    ∃ av h', K av h' ∧ ∀ B w0 κ w (t : TypeId) V, Sim B w0 κ h w → gam κ x = some V → ∃ κ', κ.le κ' ∧ Sim B w0 κ' h' (w.alloc (.cells V.cells t)) ∧ gam κ' av = some (.pointer (some ⟨w.heap.size, 0, none⟩)) := by
  obtain ⟨l, hD, hl⟩ := asCells_iff hD
  obtain ⟨hn, hD⟩ := gd_iff.1 hD
  obtain ⟨ob, hD, hro, hsz, hcell⟩ := rowK_iff hD
  rw [newK_eq] at hD
  refine ⟨_, _, hD, fun B w0 κ w t V s hV => ?_⟩
  obtain ⟨g1, g2⟩ := hl κ V hV
  refine ⟨κ.set h.next ⟨w.heap.size, 0, 0⟩, Kap.le_set s.none_next, s.new n 0 ob _ ?_, by simp [gam, Kap.set_self, Ki.at]⟩
  rw [objSim_row hro]
  have := rowSim_new hsz hcell g1 g2 #[] t n 0 w.heap.size (by simp)
  simpa using this
theorem ok_box {t : TypeId} {n : Nat} {x : Operand} {dx : Opd} (hx : opd x = some dx) (ho : o.op = .box t x) : ActOK P (oBox n dx) o := by
  intro fr h K hD
  obtain ⟨av, h', hK, hr⟩ := box_core (fr := fr) hD
  refine ⟨av, h', hK, fun B w0 κ ρ w s hρ => ?_⟩
  obtain ⟨κ', h1, h2, h3⟩ := hr B w0 κ w t _ s (hρ x dx hx)
  exact ⟨κ', _, _, h1, h2, h3, .inl (by simp [execOp, ho, Instr.box, newVar, newRow])⟩
theorem ok_alloc {t : TypeId} {n : Nat} {i : TypeInfo} {z : Value} {av0 : AV} (ho : o.op = .alloc t) (hi : P.info? t = some i) (hz : i.zero = some z) (hav : ∀ κ, gam κ av0 = some z) : ActOK P (oBox n (konst av0)) o := by
  intro fr h K hD
  obtain ⟨av, h', hK, hr⟩ := box_core (fr := fr) hD
  refine ⟨av, h', hK, fun B w0 κ ρ w s hρ => ?_⟩
  obtain ⟨κ', h1, h2, h3⟩ := hr B w0 κ w t z s (hav κ)
  exact ⟨κ', _, _, h1, h2, h3, .inl (by simp [execOp, ho, Instr.alloc, zeroValue, typeInfo, hi, hz, newVar, newRow])⟩
/-- What is known of an element type. -/
structure ElemOK (P : Program) (e : TypeId) (n b : Nat) (u8 : Bool) (z : List AV) where
  i : TypeInfo
  Z : Value
  info : P.info? e = some i
  zero : i.zero = some Z
  size : i.size = n
  bytes : i.bytes = b
  len : z.length = n
  gam : ∀ κ, gams κ z = some Z.cells.toList
  one : Z.cells.toList.all Value.oneCell' = true
  byte : u8 = true → z = [.int .u8 (.ofNat 0)] ∧ P.underlying e = some (.int .u8)
theorem ElemOK.cells {P : Program} {e : TypeId} {n b : Nat} {u8 : Bool} {z : List AV} (E : ElemOK P e n b u8 z) : E.Z.cells.size = n := by
  have := gams_length _ _ (E.gam fun _ => none)
  rw [E.len] at this; simpa using this
theorem gams_rep {κ : Kap} {d : List AV} {D : List Value} (h : gams κ d = some D) : ∀ n, gams κ (repL d n) = some ((List.replicate n D).flatten)
  | 0 => rfl
  | n + 1 => by rw [repL, List.replicate_succ, List.flatten_cons]; exact gams_append _ _ _ _ h (gams_rep h n)
theorem rep_get (D : List Value) : ∀ (n j : Nat), ((List.replicate n D).flatten)[j]? = if j < n * D.length then D[j % D.length]? else none
  | 0, j => by simp
  | n + 1, j => by
    rw [List.replicate_succ, List.flatten_cons, List.getElem?_append, rep_get D n]
    by_cases h : j < D.length
    · rw [if_pos h, if_pos (by rw [Nat.succ_mul]; omega), Nat.mod_eq_of_lt h]
    · rw [if_neg h]
      by_cases h2 : j - D.length < n * D.length
      · rw [if_pos h2, if_pos (by rw [Nat.succ_mul]; omega), ← Nat.mod_eq_sub_mod (by omega)]
      · rw [if_neg h2, if_neg (by rw [Nat.succ_mul]; omega)]
theorem rep_range (D : Array Value) (n : Nat) : ((Array.range (n * D.size)).map (D[· % D.size]!)).toList = (List.replicate n D.toList).flatten := by
  apply List.ext_getElem?
  intro j
  rw [rep_get]
  simp only [Array.toList_map, Array.toList_range, List.getElem?_map, Array.length_toList]
  by_cases h : j < n * D.size
  · rw [List.getElem?_range h, if_pos h]
    have hp : 0 < D.size := by
      rcases Nat.eq_zero_or_pos D.size with h0 | h0
      · simp [h0] at h
      · exact h0
    have := Nat.mod_lt j hp
    simp [this]
  · rw [if_neg h, List.getElem?_eq_none (by simpa using h)]; rfl
theorem rep_all {D : List Value} (h : D.all Value.oneCell' = true) (n : Nat) : ((List.replicate n D).flatten).all Value.oneCell' = true := by
  rw [List.all_eq_true] at *
  intro v hv
  obtain ⟨l, hl, hv⟩ := List.mem_flatten.1 hv
  rw [List.eq_of_mem_replicate hl] at hv
  exact h v hv
theorem ok_bslice {t e : TypeId} {n b len : Nat} {u8 : Bool} {z : List AV} {parts : Array (Nat × Operand)} {ap : List (Nat × Nat × Opd)} (ho : o.op = .buildSlice t len parts) (ht : P.underlying t = some (.slice e))
    (E : ElemOK P e n b u8 z) (hle : len * n ≤ 2 ^ 24) (hp : partsOf (fun i => some (i * n, n)) parts.toList = some ap) : ActOK P (oBslice n len u8 z ap) o := by
  intro fr h K hD
  obtain ⟨cs, hD, hlen, hrest⟩ := fillK_ok _ fr _ _ _ _ hp hD
  obtain ⟨ob, hD, hro, hsz, hcell⟩ := rowK_iff hD
  rw [newK_eq] at hD
  refine ⟨_, _, hD, fun B w0 κ ρ w s hr => ?_⟩
  have hzl := E.cells
  obtain ⟨CS, f1, f2, f3⟩ := hrest κ ρ hr ((List.replicate len E.Z.cells.toList).flatten.toArray) (by simpa using gams_rep (E.gam κ) len) (by simpa using rep_all E.one len)
  refine ⟨κ.set h.next ⟨w.heap.size, 0, 0⟩, .slice (some ⟨w.heap.size, 0, none⟩) len len, _, Kap.le_set s.none_next, s.new n 0 ob (.cells CS e) ?_, ?_, .inl ?_⟩
  · rw [objSim_row hro]
    have := rowSim_new hsz hcell f2 f3 #[] e n 0 w.heap.size (by simp)
    simpa using this
  · simp [gam, Kap.set_self, Ki.at]
  · have hz : (Array.range (len * n)).map (E.Z.cells[· % E.Z.cells.size]!) = (List.replicate len E.Z.cells.toList).flatten.toArray := by
      apply Array.toList_inj.1
      have e9 : Array.range (len * n) = Array.range (len * E.Z.cells.size) := by rw [hzl]
      rw [e9]
      exact rep_range _ _
    have hnot : ¬ (2 ^ 24 < len * n) := by omega
    by_cases h0 : len * n = 0
    · have he : (List.replicate len E.Z.cells.toList).flatten.toArray = #[] := by
        apply Array.toList_inj.1
        apply List.eq_nil_of_length_eq_zero
        have := gams_length _ _ (gams_rep (E.gam κ) len)
        rw [repL_length, E.len] at this
        simpa [h0] using this
      rw [he] at f1
      simp [execOp, ho, Instr.buildSlice, run_underlying ht, sizeOf, typeInfo, E.info, E.size, hnot, h0, f1, newRow]
      have e2 : Instr.fill (fun i => some (i * n, n)) #[] (List.map (fun x => (x.1, ρ x.2)) parts.toList) = some CS := f1
      simp [Array.range_zero', e2]
    · simp [execOp, ho, Instr.buildSlice, run_underlying ht, sizeOf, typeInfo, E.info, E.size, hnot, h0, zeroValue, E.zero, hz, f1, newRow]

end Go.Am

namespace Go.Am
set_option linter.unusedSimpArgs false
set_option linter.unusedVariables false
open Go Go.RowKit
variable {P : Program} {o : Oper}

def arrSet : Array Value → Nat → List Value → Array Value
  | c, _, [] => c
  | c, i, v :: vs => arrSet (c.setIfInBounds i v) (i + 1) vs
theorem arrSet_size : ∀ (vs : List Value) (c : Array Value) (i : Nat), (arrSet c i vs).size = c.size
  | [], c, i => rfl
  | v :: vs, c, i => by rw [arrSet, arrSet_size vs]; simp
theorem arrSet_get : ∀ (vs : List Value) (c : Array Value) (i j : Nat), i + vs.length ≤ c.size → (arrSet c i vs)[j]? = if i ≤ j ∧ j < i + vs.length then vs[j - i]? else c[j]?
  | [], c, i, j, h => by simp [arrSet]; omega
  | v :: vs, c, i, j, h => by
    simp only [List.length_cons] at h
    rw [arrSet, arrSet_get vs _ (i + 1) j (by simp; omega), Array.getElem?_setIfInBounds]
    by_cases h1 : j = i
    · subst h1
      rw [if_neg (by omega), if_pos rfl, if_pos (by omega), if_pos (by simp)]; simp
    · by_cases h2 : i + 1 ≤ j ∧ j < i + 1 + vs.length
      · rw [if_pos h2, if_pos (by simp; omega), show j - i = (j - (i + 1)) + 1 by omega]; simp
      · rw [if_neg h2, if_neg (by omega), if_neg (by simp; omega)]
theorem setCell_block (w : World) (b i : Nat) (v : Value) {c : Array Value} {t : TypeId} {fr : Nat × Nat} (h : w.heap[b]? = some (.cells c t fr)) : (w.setCell ⟨b, i, none⟩ v).heap[b]? = some (.cells (c.setIfInBounds i v) t fr) := by
  simp [World.setCell, Array.getElem?_modify, h]
theorem setCells_block (b : Nat) : ∀ (vs : List Value) (i : Nat) (w : World) (c : Array Value) (t : TypeId) (fr : Nat × Nat), w.heap[b]? = some (.cells c t fr) → (w.setCells b i vs).heap[b]? = some (.cells (arrSet c i vs) t fr)
  | [], i, w, c, t, fr, h => h
  | v :: vs, i, w, c, t, fr, h => setCells_block b vs (i + 1) _ _ t fr (setCell_block w b i v h)
theorem setCells_other (b k : Nat) (hk : k ≠ b) : ∀ (vs : List Value) (i : Nat) (w : World), (w.setCells b i vs).heap[k]? = w.heap[k]?
  | [], i, w => rfl
  | v :: vs, i, w => by
    rw [World.setCells, setCells_other b k hk vs (i + 1)]
    exact Below.heap_setCell _ _ _ _ hk
theorem setCells_size (b : Nat) : ∀ (vs : List Value) (i : Nat) (w : World), (w.setCells b i vs).heap.size = w.heap.size
  | [], i, w => rfl
  | v :: vs, i, w => by rw [World.setCells, setCells_size b vs (i + 1)]; simp [World.setCell]
theorem setCells_below {B b : Nat} (hb : B ≤ b) : ∀ (vs : List Value) (i : Nat) (w : World), Below B w (w.setCells b i vs)
  | [], i, w => Below.refl _ _
  | v :: vs, i, w => by
    rw [World.setCells]
    exact ((Below.refl B w).setCell (p := ⟨b, i, none⟩) hb v).trans (setCells_below hb vs (i + 1) _)

theorem setCellK_iff {ob : AObj} {j : Nat} {v : AV} {k : AObj → Prop} (hj : j < sizeOfObj ob) (h : setCellK ob j v k) :
    ∃ ob', k ob' ∧ rowLike ob' ∧ sizeOfObj ob' = sizeOfObj ob ∧ ∀ i, cellAt ob' i = if i = j then some v else cellAt ob i := by
  cases ob with
  | row cs =>
    simp only [setCellK, setLK_eq] at h
    refine ⟨_, h, trivial, by simp [sizeOfObj], fun i => ?_⟩
    simp only [cellAt, getL_eq, List.getElem?_set]
    simp only [sizeOfObj] at hj
    by_cases hi : i = j
    · subst hi; simp [hj]
    · rw [if_neg (fun e => hi e.symm), if_neg hi]
  | big n t d =>
    simp only [setCellK, V1.updPK_eq] at h
    refine ⟨_, h, trivial, rfl, fun i => ?_⟩
    rw [cellAt_big, cellAt_big]
    simp only [sizeOfObj] at hj
    by_cases hi : i = j
    · subst hi; rw [V1.getP_upd_self]; simp [hj]
    · rw [V1.getP_upd_ne _ _ _ _ (fun e => hi (fpos_inj e).symm), if_neg hi]
  | byts n x =>
    rw [setCellK_byts] at h
    split at h
    · rename_i m
      split at h
      · rename_i hm
        rw [forceN_eq] at h
        have hm' : m < 256 := by simpa using hm
        refine ⟨_, h, trivial, rfl, fun i => ?_⟩
        rw [cellAt_byts, cellAt_byts, byteAt_set _ _ _ _ hm']
        simp only [sizeOfObj] at hj
        by_cases hi : i = j
        · subst hi; simp [hj]
        · simp [hi]
      · exact h.elim
    · exact h.elim
  | _ => exact h.elim
theorem setCellsK_iff : ∀ (l : List AV) (ob : AObj) (off : Nat) (k : AObj → Prop), rowLike ob → setCellsK l ob off k →
    ∃ ob', k ob' ∧ rowLike ob' ∧ sizeOfObj ob' = sizeOfObj ob ∧ (l = [] ∨ off + l.length ≤ sizeOfObj ob) ∧ ∀ j, cellAt ob' j = if off ≤ j ∧ j < off + l.length then l[j - off]? else cellAt ob j
  | [], ob, off, k, hr, h => ⟨ob, h, hr, rfl, .inl rfl, fun j => by simp; omega⟩
  | v :: l, ob, off, k, hr, h => by
    rw [setCellsK_cons] at h
    split at h
    · rename_i hb
      have hb' : off < sizeOfObj ob := by simpa using hb
      obtain ⟨ob1, h1, r1, s1, c1⟩ := setCellK_iff hb' h
      obtain ⟨ob2, h2, r2, s2, b2, c2⟩ := setCellsK_iff l ob1 (off + 1) k r1 h1
      refine ⟨ob2, h2, r2, by rw [s2, s1], .inr ?_, fun j => ?_⟩
      · rcases b2 with rfl | b2
        · simp; omega
        · simp; omega
      · rw [c2, c1]
        by_cases hj : off + 1 ≤ j ∧ j < off + 1 + l.length
        · rw [if_pos hj, if_pos (by simp; omega), show j - off = (j - (off + 1)) + 1 by omega]; simp
        · rw [if_neg hj]
          by_cases hi : j = off
          · subst hi; rw [if_pos rfl, if_pos (by simp)]; simp
          · rw [if_neg hi, if_neg (by simp; omega)]
    · exact h.elim

theorem setCellK_by {ob : AObj} {j : Nat} {v : AV} {k : AObj → Prop} (h : setCellK ob j v k) : setCellK ob j v fun ob' => (isBy ob → isBy ob') ∧ k ob' := by
  cases ob with
  | row cs => simp only [setCellK, setLK_eq] at h ⊢; exact ⟨fun x => x.elim, h⟩
  | big n t d => simp only [setCellK, V1.updPK_eq] at h ⊢; exact ⟨fun x => x.elim, h⟩
  | byts n x =>
    rw [setCellK_byts] at h ⊢
    split at h
    · split at h
      · rename_i hm
        try simp only [hm]
        rw [forceN_eq] at h ⊢
        exact ⟨fun _ => trivial, h⟩
      · exact h.elim
    · exact h.elim
  | _ => exact h.elim
theorem setCellK_mono {ob : AObj} {j : Nat} {v : AV} {k k' : AObj → Prop} (hk : ∀ ob', k ob' → k' ob') (h : setCellK ob j v k) : setCellK ob j v k' := by
  cases ob with
  | row cs => simp only [setCellK, setLK_eq] at h ⊢; exact hk _ h
  | big n t d => simp only [setCellK, V1.updPK_eq] at h ⊢; exact hk _ h
  | byts n x =>
    rw [setCellK_byts] at h ⊢
    split at h
    · split at h
      · rename_i hm
        try simp only [hm]
        rw [forceN_eq] at h ⊢
        exact hk _ h
      · exact h.elim
    · exact h.elim
  | _ => exact h.elim
theorem setCellsK_mono : ∀ (l : List AV) (ob : AObj) (off : Nat) (k k' : AObj → Prop), (∀ ob', k ob' → k' ob') → setCellsK l ob off k → setCellsK l ob off k'
  | [], ob, off, k, k', hk, h => hk _ h
  | v :: l, ob, off, k, k', hk, h => by
    rw [setCellsK_cons] at h ⊢
    split at h
    · rename_i hb
      try simp only [hb]
      exact setCellK_mono (fun ob1 h1 => setCellsK_mono l ob1 (off + 1) k k' hk h1) h
    · exact h.elim
/-- Bytes stay bytes. -/
theorem setCellsK_by : ∀ (l : List AV) (ob : AObj) (off : Nat) (k : AObj → Prop), setCellsK l ob off k → setCellsK l ob off fun ob' => (isBy ob → isBy ob') ∧ k ob'
  | [], ob, off, k, h => ⟨id, h⟩
  | v :: l, ob, off, k, h => by
    rw [setCellsK_cons] at h ⊢
    split at h
    · rename_i hb
      try simp only [hb]
      exact setCellK_mono (fun ob1 h1 => setCellsK_mono l ob1 (off + 1) _ _ (fun ob' h2 => ⟨fun x => h2.1 (h1.1 x), h2.2⟩) (setCellsK_by l ob1 (off + 1) k h1.2)) (setCellK_by h)
    · exact h.elim

/-- A row that is written in place. -/
theorem Sim.write {B : Nat} {w0 : W0} {w : World} {κ : Kap} {h : Hp} (s : Sim B w0 κ h w) {p : Nat} {e : Ent} {ki : Ki} (he : h.objs.getP (npos p) = some e) (hk : κ p = some ki) (hown : e.own = true) {l : List AV} {L : List Value} (hg : gams κ l = some L) (h1 : L.all Value.oneCell' = true)
    {off : Nat} {ob : AObj} (hr : rowLike e.obj) (hro : rowLike ob) (hsz : sizeOfObj ob = sizeOfObj e.obj) (hkb : isBy e.obj → isBy ob) (hb : l = [] ∨ off + l.length ≤ sizeOfObj e.obj) (hc : ∀ j, cellAt ob j = if off ≤ j ∧ j < off + l.length then l[j - off]? else cellAt e.obj j) :
    (storeCells (ki.at off) L).run P w = .ok () (w.setCells ki.blk (ki.base + off) L) ∧ Sim B w0 κ ⟨E1.updP (some ⟨true, e.esz, ob⟩) (npos p) h.objs, h.next⟩ (w.setCells ki.blk (ki.base + off) L) := by
  have hlen := gams_length _ _ hg
  have hB : B ≤ ki.blk := by
    obtain ⟨ki', q1, q2, _, _⟩ := s.obj p e he
    rw [hk] at q1; cases q1; exact q2 hown
  obtain ⟨ki', q1, c, t, fr, q2, q3, q4, hdef, q5⟩ := s.row he hr
  rw [hk] at q1; cases q1
  have hcell : ∀ j, j < L.length → ∃ V, w.cell? ⟨ki.blk, ki.base + off + j, none⟩ = some V ∧ w.frozen? ⟨ki.blk, ki.base + off + j, none⟩ = false := by
    intro j hj
    have hlt : off + j < sizeOfObj e.obj := by
      rcases hb with rfl | hb
      · simp only [List.length_nil] at hlen; omega
      · omega
    obtain ⟨v, hv⟩ := hdef _ hlt
    obtain ⟨V, _, _, g3, g4⟩ := s.cell he hk hv
    have ea : (⟨ki.blk, ki.base + off + j, none⟩ : Addr) = ki.at (off + j) := by simp [Ki.at, Nat.add_assoc]
    exact ⟨V, by rw [ea]; exact g3, by rw [ea]; exact g4⟩
  refine ⟨?_, ?_⟩
  · have := run_storeCells_cells (P := P) ki.blk (ki.base + off) L 0 w (fun j hj => by obtain ⟨V, g, _⟩ := hcell j hj; simp [g]) (fun j hj => by obtain ⟨V, _, g⟩ := hcell j hj; simpa using g) (List.all_eq_true.1 h1)
    simpa [Ki.at] using this
  · refine s.put he hk hown (setCells_below hB _ _ _) (setCells_size _ _ _ _) (fun b hb => setCells_other _ _ hb _ _ _) ob ?_
    rw [objSim_row hro, setCells_block _ _ _ _ _ _ _ q2]
    have hroom : L = [] ∨ ki.base + off + L.length ≤ c.size := by
      rcases hb with rfl | hb
      · exact .inl (List.eq_nil_of_length_eq_zero (by simpa using hlen))
      · by_cases hz : L.length = 0
        · exact .inl (List.eq_nil_of_length_eq_zero hz)
        · right
          obtain ⟨v, hv⟩ := hdef (off + (L.length - 1)) (by omega)
          obtain ⟨V, _, _, g3⟩ := q5 _ v hv
          have := (Array.getElem?_eq_some_iff.1 g3).1
          omega
    have hget : ∀ j, (arrSet c (ki.base + off) L)[j]? = if ki.base + off ≤ j ∧ j < ki.base + off + L.length then L[j - (ki.base + off)]? else c[j]? := by
      intro j
      rcases hroom with h0 | h0
      · rw [h0]; simp [arrSet]; omega
      · exact arrSet_get _ _ _ _ h0
    have q4' : fr.1 = fr.2 ∨ (c.size ≤ fr.1 ∧ e.esz = 1 ∧ isBy ob) ∨ (ki.cap = 0 ∧ 4294967296 ≤ e.esz ∧ ∀ j v, cellAt ob j = some v → ¬ (fr.1 ≤ ki.base + j ∧ ki.base + j < fr.2)) :=
      q4.imp id (Or.imp (fun ⟨a1, a2, a3⟩ => ⟨a1, a2, hkb a3⟩) fun ⟨a1, a2, a3⟩ => ⟨a1, a2, fun j v hv => by
        rw [hc] at hv
        split at hv
        · rename_i hj
          obtain ⟨u, hu⟩ := hdef j (by
            rcases hb with rfl | hb
            · simp at hj; omega
            · omega)
          exact a3 j u hu
        · exact a3 j v hv⟩)
    refine ⟨_, t, fr, rfl, by rw [arrSet_size]; exact q3, by rw [arrSet_size]; exact q4', fun j hj => ?_, fun j v hv => ?_⟩
    · rw [hc]
      split
      · exact ⟨_, List.getElem?_eq_getElem (by omega)⟩
      · exact hdef j (hsz ▸ hj)
    rw [hc] at hv
    rw [hget]
    split at hv
    · rename_i hj
      obtain ⟨V, g1, g2⟩ := gams_get _ _ _ _ hg hv
      refine ⟨V, g1, (List.all_eq_true.1 h1) V (List.mem_of_getElem? g2), ?_⟩
      rw [if_pos (by omega), show ki.base + j - (ki.base + off) = j - off by omega]
      exact g2
    · rename_i hj
      obtain ⟨V, g1, g2, g3⟩ := q5 j v hv
      exact ⟨V, g1, g2, by rw [if_neg (by omega)]; exact g3⟩

end Go.Am

namespace Go.Am
set_option linter.unusedSimpArgs false
set_option linter.unusedVariables false
open Go Go.RowKit
variable {P : Program} {o : Oper}

theorem rowLike_of_size {ob : AObj} (h : 0 < sizeOfObj ob) : rowLike ob := by
  cases ob <;> first | trivial | (simp [sizeOfObj] at h)
theorem ok_store {t : TypeId} {n : Nat} {a x : Operand} {da dx : Opd} (ha : opd a = some da) (hx : opd x = some dx) (ho : o.op = .store t a x) (hn : szOf P t = some (n + 1)) : ActOK P (oStore (n + 1) da dx) o := by
  intro fr h K hD
  obtain ⟨p, off, e1, hD⟩ := asPtr_iff.1 hD
  obtain ⟨e, he, hD⟩ := objAt_iff.1 hD
  obtain ⟨l, hD, hl⟩ := asCells_iff hD
  obtain ⟨hb, hD⟩ := gd_iff.1 hD
  simp only [Bool.and_eq_true, Nat.beq_eq] at hb
  have hro : rowLike e.obj := by
    cases l with
    | nil => simp at hb
    | cons v l =>
      rw [setCellsK_cons] at hD
      split at hD
      · rename_i h1
        exact rowLike_of_size (by have : off < sizeOfObj e.obj := by simpa using h1
                                  omega)
      · exact hD.elim
  obtain ⟨ob, ⟨hkb, hD⟩, hrb, hsz, hroom, hcell⟩ := setCellsK_iff _ _ _ _ hro (setCellsK_by _ _ _ _ hD)
  rw [putK_eq] at hD
  refine ⟨_, _, hD, fun B w0 κ ρ w s hr => ?_⟩
  obtain ⟨ki, hk, h3⟩ := rho_ptr hr ha e1
  obtain ⟨g1, g2⟩ := hl κ _ (hr x dx hx)
  obtain ⟨r1, r2⟩ := s.write (P := P) he hk hb.1 g1 g2 hro hrb hsz hkb hroom hcell
  refine ⟨κ, undef, _, κ.le_refl, r2, by simp [gam, gams, undefV, undef], .inr ⟨?_, rfl⟩⟩
  have hc : (ρ x).cells.size = n + 1 := by have := gams_length _ _ g1; simp at this; omega
  simp [execOp, ho, Instr.storeAt, h3, Instr.sureAddr, storeVar, szRun hn, hc, r1]

theorem ok_toBytes {s t e : TypeId} {x : Operand} {dx : Opd} (hx : opd x = some dx) (ho : o.op = .convert s t x) (hs : P.underlying s = some .string) (ht : P.underlying t = some (.slice e)) (he : P.underlying e = some (.int .u8)) : ActOK P (oToBytes dx) o := by
  intro fr h K hD
  obtain ⟨n, z, e1, hD⟩ := asStr_iff.1 hD
  rw [newK_eq] at hD
  refine ⟨_, _, hD, fun B w0 κ ρ w sm hr => ?_⟩
  obtain ⟨_, h3⟩ := rho_str hr hx e1
  have hrun := run_bytes_of_string (P := P) w s t e (strOf n z) hs ht he
  rw [strOf_size] at hrun
  have hge := grownCap_ge w n 0 e
  generalize hC : grownCap w n 0 e = cap at hrun hge
  have hbs : (bytesRow (strOf n z) cap).size = cap := by
    have e4 : (strOf n z).data.size = n := by have := strOf_size n z; exact this
    simp only [bytesRow, Array.size_append, Array.size_map, Array.size_replicate, strOf_size, e4]; omega
  refine ⟨κ.set h.next ⟨w.heap.size, 0, cap⟩, .slice (some ⟨w.heap.size, 0, none⟩) n cap, _, Kap.le_set sm.none_next, (sm.drew).new 1 cap (.byts n z) (.cells (bytesRow (strOf n z) cap) e ((bytesRow (strOf n z) cap).size, (bytesRow (strOf n z) cap).size + 1)) ?_, ?_, .inl ?_⟩
  · refine ⟨_, e, _, rfl, by simp [hbs], Or.inr (.inl ⟨Nat.le_refl _, rfl, trivial⟩), fun j hj => ⟨_, by rw [cellAt_byts, if_pos (show j < n from hj)]⟩, fun j v hv => ?_⟩
    rw [cellAt_byts] at hv
    split at hv
    · rename_i hj
      cases hv
      refine ⟨.int .u8 (byteAt z j), by simp [gam], rfl, ?_⟩
      have hjd : j < (strOf n z).data.size := by have := strOf_size n z; show j < (strOf n z).size; omega
      have hb := bytesRow_at (strOf n z) cap j hjd
      simp only [Nat.zero_add]
      rw [hb]
      have hg := bytesL_get n z j
      rw [if_pos hj, ← strOf_data, Array.getElem?_toList, Array.getElem?_eq_getElem hjd] at hg
      injection hg with hg
      rw [hg, toNat_byteAt]
    · cases hv
  · simp [gam, Kap.set_self, Ki.at, hge]
  · simp only [execOp, ho, h3, Sem.run_bind, hrun, Result.andThen_ok, Sem.run_pure]

theorem ok_mkSlice {t e : TypeId} {n b : Nat} {u8 : Bool} {z : List AV} {l c : Operand} {dl dc : Opd} (hl : opd l = some dl) (hc : opd c = some dc) (ho : o.op = .makeSlice t l c) (ht : P.underlying t = some (.slice e)) (E : ElemOK P e n b u8 z) : ActOK P (oMkSlice n b u8 z dl dc) o := by
  intro fr h K hD
  obtain ⟨kl, L, e1, hD⟩ := asNat_iff.1 hD
  obtain ⟨kc, C, e2, hD⟩ := asNat_iff.1 hD
  obtain ⟨hb, hD⟩ := gd_iff.1 hD
  simp only [Bool.and_eq_true, Nat.ble_eq] at hb
  simp only [forceN_eq] at hD
  obtain ⟨ob, hD, hro, hsz, hcell⟩ := zerosK_iff (fun hu => (E.byte hu).1) hD
  rw [newK_eq] at hD
  refine ⟨_, _, hD, fun B w0 κ ρ w sm hr => ?_⟩
  have h1 := rho_int hr hl e1
  have h2 := rho_int hr hc e2
  have hcb : ((C * b : Nat) : Int) ≤ 281474976710656 := by omega
  rw [Int.natCast_mul] at hcb
  have hrun := run_make (P := P) w t e E.i E.Z ht E.info E.zero kl kc (L : Int) (C : Int) (by omega) (by omega) (by rw [E.bytes, Int.mul_comm]; exact hcb) (by omega)
  refine ⟨κ.set h.next ⟨w.heap.size, 0, 0⟩, .slice (some ⟨w.heap.size, 0, none⟩) L C, _, Kap.le_set sm.none_next, sm.new n 0 ob (.cells (madeCells E.Z.cells (C * n)) e) ?_, ?_, .inl ?_⟩
  · rw [objSim_row hro]
    have hm : (madeCells E.Z.cells (C * n)).toList = (List.replicate C E.Z.cells.toList).flatten := by
      have e9 : Array.range (C * n) = Array.range (C * E.Z.cells.size) := by rw [E.cells]
      unfold madeCells
      rw [e9]
      exact rep_range _ _
    have := rowSim_new (κ := κ) (C := madeCells E.Z.cells (C * n)) (by rw [hsz, repL_length]) hcell (by rw [hm]; exact gams_rep (E.gam _) C) (by rw [hm]; exact rep_all E.one C) #[] e n 0 w.heap.size (by rw [Nat.zero_mul]; exact Nat.zero_le _)
    rw [Array.append_empty] at this
    exact this
  · simp [gam, Kap.set_self, Ki.at, hb.1]
  · simp only [execOp, ho, h1, h2, Sem.run_bind]
    have hrun' : (Instr.makeSlice t (.int kl (Int.ofNat L)) (.int kc (Int.ofNat C))).run P w = _ := hrun
    rw [hrun', E.size]
    rfl

theorem freeze_last (w : World) (b : Nat) {c : Array Value} {t : TypeId} {fr : Nat × Nat} (h : w.heap[b]? = some (.cells c t fr)) (hf : fr.1 = fr.2 ∨ c.size ≤ fr.1) :
    ∃ fr', (w.freeze ⟨b, c.size, none⟩ 1).heap[b]? = some (.cells c t fr') ∧ (fr'.1 = fr'.2 ∨ c.size ≤ fr'.1) ∧ (w.freeze ⟨b, c.size, none⟩ 1).heap.size = w.heap.size ∧
      (∀ k, k ≠ b → (w.freeze ⟨b, c.size, none⟩ 1).heap[k]? = w.heap[k]?) ∧ (w.freeze ⟨b, c.size, none⟩ 1).os = w.os ∧ (w.freeze ⟨b, c.size, none⟩ 1).tape = w.tape ∧ (w.freeze ⟨b, c.size, none⟩ 1).output = w.output := by
  obtain ⟨lo, hi⟩ := fr
  refine ⟨if lo == hi then (c.size, c.size + 1) else (min lo c.size, max hi (c.size + 1)), ?_, ?_, ?_, ?_, rfl, rfl, rfl⟩
  · simp [World.freeze, Array.getElem?_modify, h]
  · by_cases e : lo = hi
    · simp [e]
    · have : (lo == hi) = false := by simpa using e
      rw [this]
      simp only [Bool.false_eq_true, if_false]
      simp only at hf
      right; omega
  · simp [World.freeze]
  · intro k hk
    simp [World.freeze, Array.getElem?_modify, Ne.symm hk]
theorem ok_strish {t e e' : TypeId} {x : Operand} {dx : Opd} (hx : opd x = some dx) (ho : o.op = .convert t t x) (ht : P.underlying t = some (.slice e)) (he : P.underlying e = some (.int .u8)) : ActOK P (oStrish dx) o := by
  intro fr h K hD
  rcases asSl_iff.1 hD with ⟨_, hD⟩ | ⟨p, off, n, kn, c, e1, hD⟩
  · exact hD.elim
  obtain ⟨en, hg, hD⟩ := objAt_iff.1 hD
  obtain ⟨hown, hD⟩ := gd_iff.1 hD
  simp only [Bool.and_eq_true, Nat.beq_eq] at hown
  obtain ⟨hown, hsz1⟩ := hown
  obtain ⟨m, z, hob, hD⟩ := asByts_iff hD
  refine ⟨_, _, hD, fun B w0 κ ρ w s hr => ?_⟩
  have hv := hr x dx hx
  rw [e1] at hv
  obtain ⟨ki, cap, hk, h3, _⟩ := rho_slice hr hx e1
  obtain ⟨ki', q1, ca, ty, fr, q2, q3, q4, q5, q6⟩ := s.row hg (by rw [hob]; trivial)
  rw [hk] at q1; cases q1
  obtain ⟨fr', f1, f2, f3, f4, f5, f6, f7⟩ := freeze_last w ki.blk q2 (by
    rcases q4 with q4 | ⟨q4, _⟩ | ⟨_, q4, _⟩
    · exact .inl q4
    · exact .inr q4
    · omega)
  have hB : B ≤ ki.blk := by
    obtain ⟨ki', q1, q2, _, _⟩ := s.obj p en hg
    rw [hk] at q1; cases q1; exact q2 hown
  refine ⟨κ, _, w.freeze ⟨ki.blk, ca.size, none⟩ 1, κ.le_refl, s.touch hg hk hown ⟨f5, f6, f7, by rw [f3]; exact Nat.le_refl _, fun k hkb => f4 k (by omega)⟩ f3 f4 ?_, hv, .inl ?_⟩
  · rw [objSim_row (by rw [hob]; trivial), f1]
    exact ⟨ca, ty, fr', rfl, q3, f2.imp id fun x => .inl ⟨x, hsz1, by rw [hob]; trivial⟩, q5, q6⟩
  · have hsh : w.shape? ki.blk = some (ty, ca.size) := by simp [World.shape?, q2]
    simp [execOp, ho, h3, convert, run_underlying ht, run_underlying he, markStringish, Ki.at, hsh]

end Go.Am

namespace Go.Am
set_option linter.unusedSimpArgs false
set_option linter.unusedVariables false
open Go Go.RowKit
variable {P : Program} {o : Oper}

def bcells (m z : Nat) : List AV := (List.range m).map fun j => .int .u8 (Int.ofNat (byteAt z j))
theorem bcells_length (m z : Nat) : (bcells m z).length = m := by simp [bcells]
theorem bcells_get (m z j : Nat) : (bcells m z)[j]? = if j < m then some (.int .u8 (Int.ofNat (byteAt z j))) else none := by
  simp only [bcells, List.getElem?_map]
  split
  · rename_i h; rw [List.getElem?_range h]; rfl
  · rename_i h; rw [List.getElem?_eq_none (by simpa using h)]; rfl
def bvals (m z : Nat) : List Value := (List.range m).map fun j => .int .u8 (byteAt z j : Int)
theorem bcells_gam (κ : Kap) (m z : Nat) : gams κ (bcells m z) = some (bvals m z) :=
  gams_of _ _ (by simp [bcells, bvals]) fun i v hv => by
    rw [bcells_get] at hv
    split at hv
    · rename_i h
      cases hv
      exact ⟨.int .u8 (byteAt z i : Int), by simp [bvals, List.getElem?_range h], by simp [gam]⟩
    · cases hv
theorem bvals_one (m z : Nat) : (bvals m z).all Value.oneCell' = true := by
  rw [List.all_eq_true]; intro v hv
  simp only [bvals, List.mem_map] at hv
  obtain ⟨j, _, rfl⟩ := hv; rfl

theorem growBK_iff {ob : AObj} {off m l y : Nat} {k : AObj → Prop} (h : growBK ob off m l y k) :
    ∃ ob', k ob' ∧ rowLike ob ∧ rowLike ob' ∧ off + m ≤ sizeOfObj ob ∧ sizeOfObj ob' = m + l ∧ ∀ j, cellAt ob' j = if j < m then cellAt ob (off + j) else (bcells l y)[j - m]? := by
  obtain ⟨n, x, rfl, h⟩ := asByts_iff h
  obtain ⟨hb, h⟩ := gd_iff.1 h
  simp only [forceN_eq] at h
  have hb' : off + m ≤ n := by simpa using hb
  refine ⟨_, h, trivial, trivial, hb', rfl, fun j => ?_⟩
  rw [cellAt_byts, cellAt_byts, bcells_get, byteAt_join _ _ _ _ (cutB_lt _ _ _)]
  by_cases hj : j < m
  · rw [if_pos (by omega), if_pos hj, if_pos hj, if_pos (by omega), byteAt_cut _ _ _ _ hj]
  · rw [if_neg hj, if_neg hj]
    by_cases hj2 : j < m + l
    · rw [if_pos hj2, if_pos (by omega)]
    · rw [if_neg hj2, if_neg (by omega)]
theorem growBK_by {ob : AObj} {off m l y : Nat} {k : AObj → Prop} (h : growBK ob off m l y k) : growBK ob off m l y fun ob' => (isBy ob → isBy ob') ∧ k ob' := by
  obtain ⟨n, x, rfl, h⟩ := asByts_iff (show asByts ob _ from h)
  obtain ⟨hb, h⟩ := gd_iff.1 h
  rw [forceN_eq, forceN_eq] at h
  show gd _ _
  refine gd_iff.2 ⟨hb, ?_⟩
  rw [forceN_eq, forceN_eq]
  exact ⟨fun _ => trivial, h⟩
theorem overBK_by {ob : AObj} {a m z : Nat} {k : AObj → Prop} (h : overBK ob a m z k) : overBK ob a m z fun ob' => (isBy ob → isBy ob') ∧ k ob' := by
  obtain ⟨n, x, rfl, h⟩ := asByts_iff (show asByts ob _ from h)
  obtain ⟨hb, h⟩ := gd_iff.1 h
  rw [forceN_eq] at h
  show gd _ _
  refine gd_iff.2 ⟨hb, ?_⟩
  rw [forceN_eq]
  exact ⟨fun _ => trivial, h⟩
theorem growK_by {ob : AObj} {off m : Nat} {new : List AV} {k : AObj → Prop} (h : growK ob off m new k) : isBy ob → growK ob off m new fun ob' => (isBy ob → isBy ob') ∧ k ob' := by
  cases ob with
  | byts n x =>
    intro _
    obtain ⟨hb, h⟩ := gd_iff.1 (show gd _ _ from h)
    obtain ⟨y, hy, h⟩ := asOpt_iff.1 h
    rw [forceN_eq, forceN_eq] at h
    show gd _ _
    refine gd_iff.2 ⟨hb, asOpt_iff.2 ⟨y, hy, ?_⟩⟩
    rw [forceN_eq, forceN_eq]
    exact ⟨fun _ => trivial, h⟩
  | _ => intro x; exact x.elim
theorem growK_iff {ob : AObj} {off m : Nat} {new : List AV} {k : AObj → Prop} (h : growK ob off m new k) :
    ∃ ob', k ob' ∧ rowLike ob ∧ rowLike ob' ∧ off + m ≤ sizeOfObj ob ∧ sizeOfObj ob' = m + new.length ∧ ∀ j, cellAt ob' j = if j < m then cellAt ob (off + j) else new[j - m]? := by
  cases ob with
  | row cs =>
    obtain ⟨hb, h⟩ := gd_iff.1 h
    have hb' : off + m ≤ cs.length := by simpa using hb
    obtain ⟨ob', h1, h2, h3, h4⟩ := rowK_iff h
    refine ⟨ob', h1, trivial, h2, hb', by rw [h3]; simp; omega, fun j => ?_⟩
    have hl : ((cs.drop off).take m).length = m := by simp; omega
    rw [h4, List.getElem?_append, hl]
    by_cases hj : j < m
    · rw [if_pos hj, if_pos hj, List.getElem?_take, if_pos hj, List.getElem?_drop]; simp [cellAt, getL_eq]
    · rw [if_neg hj, if_neg hj]
  | big n t d =>
    obtain ⟨hb, h⟩ := gd_iff.1 h
    have hb' : off + m ≤ n := by simpa using hb
    cases hz : Nat.beq off 0 with
    | true =>
      rw [hz] at h
      obtain ⟨t', h1, h2⟩ := trieK_eq _ _ _ _ h
      rw [forceN_eq] at h1
      have h0 : off = 0 := by simpa using hz
      subst h0
      refine ⟨_, h1, trivial, trivial, hb', rfl, fun j => ?_⟩
      rw [cellAt_big, cellAt_big, h2, Nat.zero_add]
      by_cases hj : j < m
      · rw [if_pos (by omega), if_neg (by omega), if_pos hj, if_pos (by omega)]
      · rw [if_neg hj]
        by_cases hj2 : j < m + new.length
        · rw [if_pos hj2, if_pos (by omega), List.getElem?_eq_getElem (by omega)]
        · rw [if_neg hj2, List.getElem?_eq_none (by omega)]
    | false =>
      rw [hz] at h
      obtain ⟨l, h1, h2, h3⟩ := cellsK_iff _ _ _ _ h
      obtain ⟨ob', h4, h5, h6, h7⟩ := rowK_iff h1
      refine ⟨ob', h4, trivial, h5, hb', by rw [h6, List.length_append, h2], fun j => ?_⟩
      rw [h7, List.getElem?_append, h2]
      by_cases hj : j < m
      · rw [if_pos hj, if_pos hj]
        obtain ⟨v, q1, q2⟩ := h3 j hj
        rw [q1, q2]
      · rw [if_neg hj, if_neg hj]
  | byts n x =>
    obtain ⟨hb, h⟩ := gd_iff.1 h
    have hb' : off + m ≤ n := by simpa using hb
    obtain ⟨y, hy, h⟩ := asOpt_iff.1 h
    simp only [forceN_eq] at h
    refine ⟨_, h, trivial, trivial, hb', rfl, fun j => ?_⟩
    rw [cellAt_byts, cellAt_byts, byteAt_join _ _ _ _ (cutB_lt _ _ _)]
    by_cases hj : j < m
    · rw [if_pos (by omega), if_pos hj, if_pos hj, if_pos (by omega), byteAt_cut _ _ _ _ hj]
    · rw [if_neg hj, if_neg hj]
      by_cases hj2 : j < m + new.length
      · rw [if_pos hj2, packAV_get _ _ hy _ (by omega)]
      · rw [if_neg hj2, List.getElem?_eq_none (by omega)]
  | _ => exact h.elim
theorem growK_iff2 {ob : AObj} {off m : Nat} {new : List AV} {k : AObj → Prop} (h : growK ob off m new k) :
    ∃ ob', ((isBy ob → isBy ob') ∧ k ob') ∧ rowLike ob ∧ rowLike ob' ∧ off + m ≤ sizeOfObj ob ∧ sizeOfObj ob' = m + new.length ∧ ∀ j, cellAt ob' j = if j < m then cellAt ob (off + j) else new[j - m]? := by
  by_cases hb : isBy ob
  · exact growK_iff (growK_by h hb)
  · obtain ⟨ob', h1, r⟩ := growK_iff h
    exact ⟨ob', ⟨fun x => absurd x hb, h1⟩, r⟩

theorem overBK_iff {ob : AObj} {a m z : Nat} {k : AObj → Prop} (h : overBK ob a m z k) :
    ∃ ob', k ob' ∧ rowLike ob ∧ rowLike ob' ∧ sizeOfObj ob' = sizeOfObj ob ∧ a + (bcells m z).length ≤ sizeOfObj ob ∧ ∀ j, cellAt ob' j = if a ≤ j ∧ j < a + (bcells m z).length then (bcells m z)[j - a]? else cellAt ob j := by
  obtain ⟨n, x, rfl, h⟩ := asByts_iff h
  obtain ⟨hb, h⟩ := gd_iff.1 h
  simp only [forceN_eq] at h
  have hb' : a + m ≤ n := by simpa using hb
  refine ⟨_, h, trivial, trivial, rfl, by rw [bcells_length]; exact hb', fun j => ?_⟩
  rw [cellAt_byts, cellAt_byts, bcells_get, bcells_length, byteAt_join _ _ _ _ (cutB_lt _ _ _)]
  by_cases hn : j < n
  · simp only [hn, if_true]
    by_cases h1 : j < a
    · rw [if_pos h1, if_neg (by omega), byteAt_cut _ _ _ _ h1, Nat.zero_add]
    · rw [if_neg h1, byteAt_join _ _ _ _ (cutB_lt _ _ _)]
      by_cases h2 : j < a + m
      · rw [if_pos (show j - a < m by omega), if_pos (show a ≤ j ∧ j < a + m by omega), if_pos (by omega), byteAt_cut _ _ _ _ (by omega), Nat.zero_add]
      · rw [if_neg (show ¬ j - a < m by omega), if_neg (show ¬ (a ≤ j ∧ j < a + m) by omega)]
        have e : byteAt (x >>> (8 * (a + m))) (j - a - m) = byteAt x j := by
          rw [Nat.shiftRight_eq_div_pow, pow256, ← byteAt_add_idx]; congr 1; omega
        rw [e]
  · rw [if_neg hn, if_neg (show ¬ (a ≤ j ∧ j < a + m) by omega), if_neg hn]

/-! ### what is appended -/
structure Src (P : Program) (κ : Kap) (w : World) (esz m : Nat) (X : Value) (new : List AV) : Prop where
  intro ::
  ex : ∃ NEW, gams κ new = some NEW ∧ NEW.all Value.oneCell' = true ∧ (∀ w', (Builtin.lenOf X).run P w' = .ok m w') ∧ ∀ w' : World, w'.heap = w.heap → (Builtin.firstCells esz m X).run P w' = .ok NEW.toArray w'
theorem cell?_heap {w w' : World} (h : w'.heap = w.heap) (a : Addr) : w'.cell? a = w.cell? a := by simp [World.cell?, h]
theorem srcK_iff {h : Hp} {esz : Nat} {u8 : Bool} {x : AV} {k0 : Prop} {kl : Nat → List AV → Prop} {kb : Nat → Nat → Prop} (hu : u8 = true → esz = 1) (hD : srcK h esz u8 x k0 kl kb) :
    (k0 ∧ ∀ B w0 κ w X, Sim B w0 κ h w → gam κ x = some X → Src P κ w esz 0 X []) ∨
    (∃ m l, 0 < m ∧ l.length = m * esz ∧ kl m l ∧ ∀ B w0 κ w X, Sim B w0 κ h w → gam κ x = some X → Src P κ w esz m X l) ∨
    (∃ m z, 0 < m ∧ esz = 1 ∧ kb m z ∧ ∀ B w0 κ w X, Sim B w0 κ h w → gam κ x = some X → Src P κ w esz m X (bcells m z)) := by
  have zero : ∀ (κ : Kap) (w : World) (X : Value), (∀ w', (Builtin.lenOf X).run P w' = .ok 0 w') → (∀ w', (Builtin.firstCells esz 0 X).run P w' = .ok #[] w') → Src P κ w esz 0 X [] :=
    fun κ w X h1 h2 => ⟨[], rfl, rfl, h1, fun w' _ => h2 w'⟩
  cases x with
  | nilslice =>
    refine .inl ⟨hD, fun B w0 κ w X s hX => zero κ w X ?_ ?_⟩ <;> (simp [gam] at hX; subst hX; intro w'; simp [Builtin.lenOf, Builtin.firstCells])
  | slice p off m kn c =>
    have hX' : ∀ (κ : Kap) X, gam κ (.slice p off m kn c) = some X → ∃ ki cap, κ p = some ki ∧ X = .slice (some (ki.at off)) m cap := by
      intro κ X hX
      simp only [gam, Option.bind_eq_some_iff] at hX
      obtain ⟨ki, h1, h2⟩ := hX
      cases kn with
      | true => simp only [if_true] at h2; split at h2 <;> simp_all; exact ⟨_, h2.symm⟩
      | false => simp only [Bool.false_eq_true, if_false] at h2; split at h2 <;> simp_all; exact ⟨_, h2.symm⟩
    have hD' : Bool.rec (motive := fun _ => Prop) (objAt h p fun e => Bool.rec (motive := fun _ => Prop)
      (cellsK e.obj (m * esz) off fun l => kl m l)
      (asByts e.obj fun n z => gd (Nat.ble (off + m) n) (forceN (cutB z off m) fun z => kb m z)) u8) k0 (Nat.beq m 0) := hD
    cases hm : Nat.beq m 0 with
    | true =>
      rw [hm] at hD'
      have h0 : m = 0 := by simpa using hm
      subst h0
      refine .inl ⟨hD', fun B w0 κ w X s hX => ?_⟩
      obtain ⟨ki, cap, _, rfl⟩ := hX' κ X hX
      exact zero _ _ _ (fun w' => by simp [Builtin.lenOf]) (fun w' => by simp [Builtin.firstCells, loadCells, loadCellsFrom])
    | false =>
      rw [hm] at hD'
      have hm' : 0 < m := by
        have : ¬ m = 0 := by intro h0; rw [h0] at hm; exact absurd hm (by decide)
        omega
      obtain ⟨e, he, hD'⟩ := objAt_iff.1 hD'
      cases u8 with
      | false =>
        obtain ⟨l, h1, h2, h3⟩ := cellsK_iff _ _ _ _ hD'
        refine .inr (.inl ⟨m, l, hm', h2, h1, fun B w0 κ w X s hX => ?_⟩)
        obtain ⟨ki, cap, hk, rfl⟩ := hX' κ X hX
        obtain ⟨L, f1, f2, f3⟩ := s.cells he hk l off (fun j hj => h3 j (by omega))
        refine ⟨L, f1, f2, fun w' => by simp [Builtin.lenOf], fun w' hw => ?_⟩
        exact run_firstCells_some w' esz m (ki.at off) m cap L (by rw [gams_length _ _ f1, h2]) (fun j v hv => by rw [at_add, cell?_heap hw]; exact f3 j v hv)
      | true =>
        have h1 := hu rfl
        subst h1
        obtain ⟨n, z, hob, hD'⟩ := asByts_iff hD'
        obtain ⟨hb, hD'⟩ := gd_iff.1 hD'
        rw [forceN_eq] at hD'
        have hb' : off + m ≤ n := by simpa using hb
        refine .inr (.inr ⟨m, _, hm', rfl, hD', fun B w0 κ w X s hX => ?_⟩)
        obtain ⟨ki, cap, hk, rfl⟩ := hX' κ X hX
        have hc : ∀ j, j < (bcells m (cutB z off m)).length → ∃ v, (bcells m (cutB z off m))[j]? = some v ∧ cellAt e.obj (off + j) = some v := by
          intro j hj
          rw [bcells_length] at hj
          refine ⟨_, by rw [bcells_get, if_pos hj], ?_⟩
          rw [hob, cellAt_byts, if_pos (by omega), byteAt_cut _ _ _ _ hj]
        obtain ⟨L, f1, f2, f3⟩ := s.cells he hk _ off hc
        refine ⟨L, f1, f2, fun w' => by simp [Builtin.lenOf], fun w' hw => ?_⟩
        exact run_firstCells_some w' 1 m (ki.at off) m cap L (by rw [gams_length _ _ f1, bcells_length]; omega) (fun j v hv => by rw [at_add, cell?_heap hw]; exact f3 j v hv)
  | sliceE p a b c =>
    refine .inl ⟨hD, fun B w0 κ w X s hX => ?_⟩
    simp only [gam, Option.bind_eq_some_iff] at hX
    obtain ⟨ki, h1, h2⟩ := hX
    split at h2
    · simp only [Option.some.injEq] at h2
      subst h2
      exact zero _ _ _ (fun w' => by simp [Builtin.lenOf]) (fun w' => by simp [Builtin.firstCells, loadCells, loadCellsFrom])
    · cases h2
  | sliceZ p =>
    refine .inl ⟨hD, fun B w0 κ w X s hX => ?_⟩
    obtain ⟨x, rfl⟩ := gam_sliceZ_ne hX
    exact zero _ _ _ (fun w' => by simp [Builtin.lenOf]) (fun w' => by simp [Builtin.firstCells, loadCells, loadCellsFrom])
  | str m z =>
    obtain ⟨hsz, hD⟩ := gd_iff.1 (show gd (Nat.beq esz 1) _ from hD)
    have h1 : esz = 1 := by simpa using hsz
    subst h1
    have hX' : ∀ (κ : Kap) X, gam κ (.str m z) = some X → z < 256 ^ m ∧ X = .string (strOf m z) := by
      intro κ X hX
      simp only [gam] at hX
      split at hX
      · rename_i hlt; exact ⟨hlt, by simpa using hX.symm⟩
      · cases hX
    have hD' : Bool.rec (motive := fun _ => Prop) (forceN (cutB z 0 m) fun z => kb m z) k0 (Nat.beq m 0) := hD
    cases hm : Nat.beq m 0 with
    | true =>
      rw [hm] at hD'
      have h0 : m = 0 := by simpa using hm
      subst h0
      refine .inl ⟨hD', fun B w0 κ w X s hX => ?_⟩
      obtain ⟨_, rfl⟩ := hX' κ X hX
      exact zero _ _ _ (fun w' => by simp [Builtin.lenOf, strOf_size]) (fun w' => by simp [Builtin.firstCells, strOf, bytesL])
    | false =>
      rw [hm] at hD'
      rw [forceN_eq] at hD'
      have hm' : 0 < m := by
        have : ¬ m = 0 := by intro h0; rw [h0] at hm; exact absurd hm (by decide)
        omega
      refine .inr (.inr ⟨m, _, hm', rfl, hD', fun B w0 κ w X s hX => ?_⟩)
      obtain ⟨hlt, rfl⟩ := hX' κ X hX
      refine ⟨bvals m (cutB z 0 m), bcells_gam _ _ _, bvals_one _ _, fun w' => by simp [Builtin.lenOf, strOf_size], fun w' hw => ?_⟩
      have e : (((strOf m z).extract 0 m).data.map fun b => Value.int .u8 b.toNat) = (bvals m (cutB z 0 m)).toArray := by
        apply Array.toList_inj.1
        have e1 := strOf_extract m z 0 m (by omega) (Nat.le_refl m)
        rw [e1, Array.toList_map, strOf_data]
        simp only [bytesL, bvals, Nat.sub_zero, List.map_map]
        apply List.map_congr_left
        intro j _
        simp only [Function.comp, toNat_byteAt]
      simp only [Builtin.firstCells, e, Sem.run_pure]
  | _ => exact hD.elim

/-! ### the model's append -/
set_option maxHeartbeats 1000000 in
theorem app_room {t u ty e : TypeId} {i : TypeInfo} {du : TypeDesc} (ht : P.underlying t = some (.slice e)) (hi : P.info? e = some i) (hu : P.underlying u = some du) (hdu : (∃ e', du = .slice e') ∨ du = .string)
    {κ : Kap} {w w' : World} {m len cap : Nat} {X : Value} {base : Option Addr} {NEW : List Value} (hl : (Builtin.lenOf X).run P w = .ok m w) (hf : (Builtin.firstCells i.size m X).run P w = .ok NEW.toArray w) (hroom : len + m ≤ cap)
    (hst : ∀ a, base = some a → (storeCells (a.add (len * i.size)) NEW).run P w = .ok () w') (hno : base = none → w' = w) :
    (Builtin.append_ #[t, u] ty #[.slice base len cap, X]).run P w = .ok (.slice base (len + m) cap) w' := by
  cases base with
  | none =>
    obtain rfl := hno rfl
    rcases hdu with ⟨e', rfl⟩ | rfl <;> simp [Builtin.append_, run_underlying ht, run_underlying hu, sizeOf, typeInfo, hi, hl, hroom, hf]
  | some a =>
    have hst := hst a rfl
    rcases hdu with ⟨e', rfl⟩ | rfl <;> simp [Builtin.append_, run_underlying ht, run_underlying hu, sizeOf, typeInfo, hi, hl, hroom, hf, hst]
set_option maxHeartbeats 1000000 in
theorem app_grow {t u ty e : TypeId} {i : TypeInfo} {z : Value} {du : TypeDesc} (ht : P.underlying t = some (.slice e)) (hi : P.info? e = some i) (hz : i.zero = some z) (hu : P.underlying u = some du) (hdu : (∃ e', du = .slice e') ∨ du = .string)
    {w : World} {m len cap : Nat} {X : Value} {base : Option Addr} {NEW OLD : List Value} (hl : (Builtin.lenOf X).run P w = .ok m w) (hf : (Builtin.firstCells i.size m X).run P w.drew = .ok NEW.toArray w.drew)
    (hold : (Builtin.firstCells i.size len (.slice base len cap)).run P w.drew = .ok OLD.toArray w.drew) (hgt : cap < len + m) (hb : (len + m) * i.bytes ≤ 140737488355328) (hb1 : 0 < i.bytes) :
    (Builtin.append_ #[t, u] ty #[.slice base len cap, X]).run P w = .ok (.slice (some ⟨w.heap.size, 0, none⟩) (len + m) (grownCap w (len + m) cap e))
      (w.drew.alloc (.cells (OLD.toArray ++ NEW.toArray ++ Builtin.zeroCells z.cells (grownCap w (len + m) cap e - (len + m))) e)) := by
  have hn : ¬ (len + m ≤ cap) := by omega
  have hfit := growslice_fits hgt hb
  have h48' : ¬ (281474976710656 < Builtin.nextslicecap (len + m) cap * i.bytes) := by omega
  have hb0 : i.bytes ≠ 0 := by omega
  rcases hdu with ⟨e', rfl⟩ | rfl <;> (
    simp [Builtin.append_, run_underlying ht, run_underlying hu, sizeOf, typeInfo, zeroValue, hi, hz, hl, hn, h48', hb0, Question.forced, hf, hold, newRow, grownCap]
    try (congr 2; apply Array.ext'; simp [List.append_assoc]))

end Go.Am

namespace Go.Am
set_option linter.unusedSimpArgs false
set_option linter.unusedVariables false
open Go Go.RowKit
variable {P : Program} {o : Oper}

/-- What the model does at an append: in place where there is room, else in a new block. -/
structure MRun (P : Program) (o : Oper) (ρ : Operand → Value) (w : World) (e : TypeId) (esz : Nat) (base : Option Addr) (len cap m : Nat) (NEW : List Value) : Prop where
  room : len + m ≤ cap → ∀ w', (∀ a, base = some a → (storeCells (a.add (len * esz)) NEW).run P w = .ok () w') → (base = none → w' = w) → (execOp ρ o).run P w = .ok (.value (.slice base (len + m) cap)) w'
  grow : cap < len + m → ∀ OLD : List Value, (Builtin.firstCells esz len (.slice base len cap)).run P w.drew = .ok OLD.toArray w.drew →
    ∃ (g : Nat) (REST : Array Value), len + m ≤ g ∧ REST.size = (g - (len + m)) * esz ∧ (execOp ρ o).run P w = .ok (.value (.slice (some ⟨w.heap.size, 0, none⟩) (len + m) g)) (w.drew.alloc (.cells (OLD.toArray ++ NEW.toArray ++ REST) e))

theorem listOf (f : Nat → Option AV) : ∀ N, (∀ j, j < N → ∃ v, f j = some v) → ∃ l : List AV, l.length = N ∧ ∀ j, j < N → ∃ v, l[j]? = some v ∧ f j = some v
  | 0, _ => ⟨[], rfl, fun j hj => by omega⟩
  | N + 1, h => by
    obtain ⟨l, h1, h2⟩ := listOf f N (fun j hj => h j (by omega))
    obtain ⟨v, hv⟩ := h N (by omega)
    refine ⟨l ++ [v], by simp [h1], fun j hj => ?_⟩
    by_cases hjN : j < N
    · obtain ⟨u, q1, q2⟩ := h2 j hjN
      exact ⟨u, by rw [List.getElem?_append_left (by omega)]; exact q1, q2⟩
    · have : j = N := by omega
      subst this
      exact ⟨v, by rw [List.getElem?_append_right (by omega), h1]; simp, hv⟩

theorem fin_iff {esz n : Nat} {h : Hp} {ob : AObj} {K : AV → Hp → Prop} (hD : finK esz n h ob K) : K (.slice h.next 0 n false 0) ⟨E1.updP (some ⟨true, esz, ob⟩) (npos h.next) h.objs, h.next + 1⟩ := by
  unfold finK at hD
  rwa [newK_eq] at hD

/-- The new block that a growing append makes. -/
theorem grow_new {B : Nat} {w0 : W0} {w : World} {κ : Kap} {h : Hp} (s : Sim B w0 κ h w) {esz len m g : Nat} {l new : List AV} {OLD NEW : List Value} {REST : Array Value} {e : TypeId} {ob : AObj} (hro : rowLike ob)
    (hl : l.length = len * esz) (hn : new.length = m * esz) (hsz : sizeOfObj ob = (l ++ new).length) (hc : ∀ j, cellAt ob j = (l ++ new)[j]?) (hold : gams κ l = some OLD) (hold1 : OLD.all Value.oneCell' = true) (hnew : gams κ new = some NEW) (hnew1 : NEW.all Value.oneCell' = true)
    (hg : len + m ≤ g) (hr : REST.size = (g - (len + m)) * esz) :
    Sim B w0 (κ.set h.next ⟨w.heap.size, 0, g⟩) ⟨E1.updP (some ⟨true, esz, ob⟩) (npos h.next) h.objs, h.next + 1⟩ (w.drew.alloc (.cells (OLD.toArray ++ NEW.toArray ++ REST) e)) ∧
      gam (κ.set h.next ⟨w.heap.size, 0, g⟩) (.slice h.next 0 (len + m) false 0) = some (.slice (some ⟨w.heap.size, 0, none⟩) (len + m) g) := by
  refine ⟨s.drew.new esz g ob _ ?_, by simp [gam, Kap.set_self, Ki.at, hg]⟩
  rw [objSim_row hro]
  have hsum : g * esz = (OLD.toArray ++ NEW.toArray ++ REST).size := by
    have h1 := gams_length _ _ hold
    have h2 := gams_length _ _ hnew
    simp only [Array.size_append, List.size_toArray, h1, h2, hl, hn, hr]
    rw [← Nat.add_mul, ← Nat.add_mul]
    congr 1; omega
  exact rowSim_new (C := OLD.toArray ++ NEW.toArray) hsz hc (by simpa using gams_append _ _ _ _ hold hnew) (by simp only [Array.toList_append, List.all_append, Bool.and_eq_true]; exact ⟨hold1, hnew1⟩) REST e esz g w.heap.size (Nat.le_of_eq hsum)

theorem join_ok {h : Hp} {p off len m : Nat} {kn : Bool} {cap esz bytes : Nat} {grow over : AObj → (AObj → Prop) → Prop} {K : AV → Hp → Prop} {new : List AV} (hD : joinK h p off len m kn cap esz bytes grow over K) (hnl : new.length = m * esz) (hm : 0 < m) (hesz : 0 < esz)
    (hgrow : ∀ ob k, grow ob k → ∃ ob', ((isBy ob → isBy ob') ∧ k ob') ∧ rowLike ob ∧ rowLike ob' ∧ off + len * esz ≤ sizeOfObj ob ∧ sizeOfObj ob' = len * esz + new.length ∧ ∀ j, cellAt ob' j = if j < len * esz then cellAt ob (off + j) else new[j - len * esz]?)
    (hover : ∀ ob k, over ob k → ∃ ob', ((isBy ob → isBy ob') ∧ k ob') ∧ rowLike ob ∧ rowLike ob' ∧ sizeOfObj ob' = sizeOfObj ob ∧ (new = [] ∨ off + len * esz + new.length ≤ sizeOfObj ob) ∧ ∀ j, cellAt ob' j = if off + len * esz ≤ j ∧ j < off + len * esz + new.length then new[j - (off + len * esz)]? else cellAt ob j) :
    ((len + m) * bytes ≤ 140737488355328) ∧ ∃ av h', K av h' ∧ ∀ B w0 κ ρ w ki rcap NEW (e : TypeId), Sim B w0 κ h w → κ p = some ki → (kn = true → len ≤ cap ∧ rcap = cap) → (kn = false → len + cap ≤ ki.cap ∧ rcap = ki.cap - cap) →
      gams κ new = some NEW → NEW.all Value.oneCell' = true → MRun P o ρ w e esz (some (ki.at off)) len rcap m NEW →
      ∃ κ' v w', κ.le κ' ∧ Sim B w0 κ' h' w' ∧ gam κ' av = some v ∧ (execOp ρ o).run P w = .ok (.value v) w' := by
  obtain ⟨hby, hD⟩ := gd_iff.1 hD
  obtain ⟨e, he, hD⟩ := objAt_iff.1 hD
  obtain ⟨hee, hD⟩ := gd_iff.1 hD
  have hee' : e.esz = esz := by simpa using hee
  refine ⟨by simpa using hby, ?_⟩
  -- the old cells, wherever they lie
  have olds : ∀ {B w0 κ w ki}, Sim B w0 κ h w → κ p = some ki → rowLike e.obj → off + len * esz ≤ sizeOfObj e.obj → ∃ l OLD, l.length = len * esz ∧ gams κ l = some OLD ∧ OLD.all Value.oneCell' = true ∧
      (∀ j, j < len * esz → ∃ v, l[j]? = some v ∧ cellAt e.obj (off + j) = some v) ∧ ∀ rcap, (Builtin.firstCells esz len (.slice (some (ki.at off)) len rcap)).run P w.drew = .ok OLD.toArray w.drew := by
    intro B w0 κ w ki s hk hr hb
    obtain ⟨ki', q1, c, t, fr, q2, q3, q4, q5, q6⟩ := s.row he hr
    rw [hk] at q1; cases q1
    obtain ⟨l, h1, h2⟩ := listOf (fun j => cellAt e.obj (off + j)) (len * esz) (fun j hj => q5 (off + j) (by omega))
    obtain ⟨OLD, f1, f2, f3⟩ := s.cells he hk l off (fun j hj => h2 j (by omega))
    refine ⟨l, OLD, h1, f1, f2, h2, fun rcap => ?_⟩
    exact run_firstCells_some w.drew esz len (ki.at off) len rcap OLD (by rw [gams_length _ _ f1, h1]) (fun j v hv => by rw [at_add]; exact f3 j v hv)
  have both : ∀ {l : List AV} {ob' : AObj}, l.length = len * esz → (∀ j, j < len * esz → ∃ v, l[j]? = some v ∧ cellAt e.obj (off + j) = some v) → (∀ j, cellAt ob' j = if j < len * esz then cellAt e.obj (off + j) else new[j - len * esz]?) → ∀ j, cellAt ob' j = (l ++ new)[j]? := by
    intro l ob' h1 h2 h3 j
    rw [h3, List.getElem?_append, h1]
    split
    · rename_i hj
      obtain ⟨v, q1, q2⟩ := h2 j hj
      rw [q1, q2]
    · rfl
  cases kn with
  | false =>
    obtain ⟨hb, hD⟩ := gd_iff.1 (show gd (e.own && Nat.ble off (cap * esz)) _ from hD)
    simp only [Bool.and_eq_true, Nat.ble_eq] at hb
    obtain ⟨ob', ⟨hkb, hD⟩, r1, r2, r3, r4, r5⟩ := hgrow _ _ hD
    rw [putK_eq, forceN_eq] at hD
    have hD := fin_iff hD
    refine ⟨_, _, hD, fun B w0 κ ρ w ki rcap NEW ety s hk _ hcap hg h1 M => ?_⟩
    obtain ⟨hc1, rfl⟩ := hcap rfl
    obtain ⟨l, OLD, l1, l2, l3, l4, l5⟩ := olds s hk r1 r3
    by_cases hroom : len + m ≤ ki.cap - cap
    · -- in place
      obtain ⟨ki', q1, c, t, fr, q2, q3, q4, q5, q6⟩ := s.row he r1
      rw [hk] at q1; cases q1
      rw [hee'] at q3 q4
      have hNl := gams_length _ _ hg
      have hbound : off + len * esz + m * esz ≤ ki.cap * esz := by
        have e1 : len * esz + m * esz ≤ (ki.cap - cap) * esz := by rw [← Nat.add_mul]; exact Nat.mul_le_mul_right _ hroom
        have e2 : (ki.cap - cap) * esz + cap * esz = ki.cap * esz := by rw [← Nat.add_mul]; congr 1; omega
        omega
      have hB : B ≤ ki.blk := by
        obtain ⟨ki', q1, q2, _, _⟩ := s.obj p e he
        rw [hk] at q1; cases q1; exact q2 hb.1
      have hst := run_storeCells_cells (P := P) ki.blk (ki.base + off + len * esz) NEW 0 w (fun j hj => by
          have : ki.base + off + len * esz + j < c.size := by omega
          simp [World.cell?, q2, this])
        (fun j hj => by
          have : ki.base + off + len * esz + j < c.size := by omega
          simp only [World.frozen?, q2, Nat.add_zero]
          simp only [Bool.and_eq_false_iff, decide_eq_false_iff_not]
          omega) (List.all_eq_true.1 h1)
      have hrun := M.room hroom (w.setCells ki.blk (ki.base + off + len * esz) NEW) (fun a ha => by
        cases ha
        rw [at_add]
        have e5 : ki.at (off + len * esz) = ⟨ki.blk, ki.base + off + len * esz, none⟩ := by simp [Ki.at, Nat.add_assoc]
        rw [e5]; simpa using hst) (fun hno => by cases hno)
      refine ⟨κ.set h.next ⟨ki.blk, ki.base + off, ki.cap - cap⟩, _, _, Kap.le_set s.none_next,
        s.renew he hk hb.1 (setCells_below hB _ _ _) (setCells_size _ _ _ _) (fun b hbb => setCells_other _ _ hbb _ _ _) ⟨ki.blk, ki.base + off, ki.cap - cap⟩ rfl esz ob' ?_, ?_, hrun⟩
      · rw [objSim_row r2, setCells_block _ _ _ _ _ _ _ q2]
        have hroomc : ki.base + off + len * esz + NEW.length ≤ c.size := by omega
        have q4' : fr.1 = fr.2 ∨ (c.size ≤ fr.1 ∧ esz = 1 ∧ isBy ob') ∨ ((⟨ki.blk, ki.base + off, ki.cap - cap⟩ : Ki).cap = 0 ∧ 4294967296 ≤ esz ∧ ∀ j v, cellAt ob' j = some v → ¬ (fr.1 ≤ (⟨ki.blk, ki.base + off, ki.cap - cap⟩ : Ki).base + j ∧ (⟨ki.blk, ki.base + off, ki.cap - cap⟩ : Ki).base + j < fr.2)) :=
          q4.imp id (Or.imp (fun ⟨a1, a2, a3⟩ => ⟨a1, a2, hkb a3⟩) fun ⟨a1, a2, a3⟩ => ⟨by show ki.cap - cap = 0; omega, a2, fun j v hv => by
            exfalso
            have z1 : ki.cap * esz = 0 := by rw [a1, Nat.zero_mul]
            rw [r5, if_neg (by omega)] at hv
            have := (List.getElem?_eq_some_iff.1 hv).1
            omega⟩)
        refine ⟨_, t, fr, rfl, ?_, by rw [arrSet_size]; exact q4', fun j hj => ?_, fun j v hv => ?_⟩
        · rw [arrSet_size]
          show ki.base + off + (ki.cap - cap) * esz ≤ c.size
          have e2 : (ki.cap - cap) * esz + cap * esz = ki.cap * esz := by rw [← Nat.add_mul]; congr 1; omega
          omega
        · rw [both l1 l4 r5]
          exact ⟨_, List.getElem?_eq_getElem (by simp [l1]; omega)⟩
        · show ∃ v', gam κ v = some v' ∧ v'.oneCell' = true ∧ (arrSet c (ki.base + off + len * esz) NEW)[ki.base + off + j]? = some v'
          rw [arrSet_get _ _ _ _ hroomc]
          rw [r5] at hv
          split at hv
          · rename_i hj
            obtain ⟨V, g1, g2, g3⟩ := q6 _ v hv
            exact ⟨V, g1, g2, by rw [if_neg (by omega), Nat.add_assoc]; exact g3⟩
          · rename_i hj
            obtain ⟨V, g1, g2⟩ := gams_get _ _ _ _ hg hv
            have hlt := (List.getElem?_eq_some_iff.1 g2).1
            refine ⟨V, g1, (List.all_eq_true.1 h1) V (List.mem_of_getElem? g2), ?_⟩
            rw [if_pos (by omega), show ki.base + off + j - (ki.base + off + len * esz) = j - len * esz by omega]
            exact g2
      · simp [gam, Kap.set_self, Ki.at, hroom]
    · -- in a new block
      obtain ⟨g, REST, g1, g2, hrun⟩ := M.grow (by omega) OLD (l5 _)
      have hn := grow_new (s.kill p) (e := ety) r2 l1 hnl (by rw [r4]; simp [l1]) (both l1 l4 r5) l2 l3 hg h1 g1 g2
      exact ⟨_, _, _, Kap.le_set s.none_next, hn.1, hn.2, hrun⟩
  | true =>
    have hD' : Bool.rec (motive := fun _ => Prop)
      (grow e.obj fun ob => forceN (len + m) fun n => finK esz n h ob K)
      (gd e.own (over e.obj fun ob => putK h p (some ⟨true, e.esz, ob⟩) fun h => forceN (len + m) fun n => K (.slice p off n true cap) h))
      (Nat.ble (len + m) cap) := hD
    cases hble : Nat.ble (len + m) cap with
    | true =>
      rw [hble] at hD'
      have hroom : len + m ≤ cap := by simpa using hble
      obtain ⟨hown, hD'⟩ := gd_iff.1 hD'
      obtain ⟨ob', ⟨hkb, hD'⟩, r1, r2, r3, r4, r5⟩ := hover _ _ hD'
      rw [putK_eq, forceN_eq] at hD'
      refine ⟨_, _, hD', fun B w0 κ ρ w ki rcap NEW ety s hk hcap _ hg h1 M => ?_⟩
      obtain ⟨_, rfl⟩ := hcap rfl
      obtain ⟨w1, w2⟩ := s.write (P := P) he hk hown hg h1 (off := off + len * esz) r1 r2 r3 hkb r4 r5
      refine ⟨κ, _, _, κ.le_refl, w2, ?_, M.room hroom _ (fun a ha => by cases ha; rw [at_add]; exact w1) (fun hno => by cases hno)⟩
      simp [gam, hk, hroom]
    | false =>
      rw [hble] at hD'
      have hroom : ¬ (len + m ≤ cap) := by intro hc; rw [Nat.ble_eq_true_of_le hc] at hble; cases hble
      obtain ⟨ob', ⟨hkb, hD'⟩, r1, r2, r3, r4, r5⟩ := hgrow _ _ hD'
      rw [forceN_eq] at hD'
      have hD' := fin_iff hD'
      refine ⟨_, _, hD', fun B w0 κ ρ w ki rcap NEW ety s hk hcap _ hg h1 M => ?_⟩
      obtain ⟨_, rfl⟩ := hcap rfl
      obtain ⟨l, OLD, l1, l2, l3, l4, l5⟩ := olds s hk r1 r3
      obtain ⟨g, REST, g1, g2, hrun⟩ := M.grow (by omega) OLD (l5 _)
      have hn := grow_new s (e := ety) r2 l1 hnl (by rw [r4]; simp [l1]) (both l1 l4 r5) l2 l3 hg h1 g1 g2
      exact ⟨_, _, _, Kap.le_set s.none_next, hn.1, hn.2, hrun⟩

end Go.Am

namespace Go.Am
set_option linter.unusedSimpArgs false
set_option linter.unusedVariables false
open Go Go.RowKit
variable {P : Program} {o : Oper}

theorem size_zeroC (z : Array Value) (n : Nat) : (Builtin.zeroCells z n).size = n * z.size := by simp [Builtin.zeroCells]
theorem ElemOK.esz1 {e : TypeId} {n b : Nat} {u8 : Bool} {z : List AV} (E : ElemOK P e n b u8 z) (h : u8 = true) : n = 1 := by
  have := E.len
  rw [(E.byte h).1] at this
  simpa using this.symm
theorem mrun_app {t u e : TypeId} {n b : Nat} {u8 : Bool} {z : List AV} {du : TypeDesc} {c : Call} {s x : Operand} (ho : o.op = .call c) (hc : c.callee = .builtin .append) (h1 : c.args = #[s, x]) (h2 : c.argTypes = #[t, u])
    (ht : P.underlying t = some (.slice e)) (hu : P.underlying u = some du) (hdu : (∃ e', du = .slice e') ∨ du = .string) (E : ElemOK P e n b u8 z) (hb : 0 < b) {ρ : Operand → Value} {w : World} {base : Option Addr} {len cap m : Nat}
    (hs : ρ s = .slice base len cap) {κ : Kap} {new : List AV} (hsrc : Src P κ w n m (ρ x) new) (hby : (len + m) * b ≤ 140737488355328) :
    ∃ NEW, gams κ new = some NEW ∧ NEW.all Value.oneCell' = true ∧ MRun P o ρ w e n base len cap m NEW := by
  obtain ⟨NEW, g1, g2, hl, hf⟩ := hsrc.ex
  refine ⟨NEW, g1, g2, fun hroom w' hst hno => ?_, fun hgt OLD hold => ?_⟩
  · have := app_room (P := P) (ty := o.type) ht E.info hu hdu (κ := κ) (base := base) (hl w) (by rw [E.size]; exact hf w rfl) hroom (by rw [E.size]; exact hst) hno
    simp [execOp, ho, resolve, hc, h1, h2, invoke, builtin, hs, this]
  · have := app_grow (P := P) (ty := o.type) ht E.info E.zero hu hdu (base := base) (hl w) (by rw [E.size]; exact hf w.drew rfl) (by rw [E.size]; exact hold) hgt (by rw [E.bytes]; exact hby) (by rw [E.bytes]; exact hb)
    refine ⟨_, _, grownCap_ge w (len + m) cap e, ?_, by simp only [execOp, ho, resolve, hc, h1, h2, invoke, builtin, List.map_toArray, List.map_cons, List.map_nil, hs, Sem.run_bind, Sem.run_pure, Result.andThen_ok, this]; rfl⟩
    rw [size_zeroC, E.cells]

theorem gamk (κ : Kap) (p off n c : Nat) (kn : Bool) (X : Value) (h : gam κ (.slice p off n kn c) = some X) : ∃ ki cap, κ p = some ki ∧ X = .slice (some (ki.at off)) n cap ∧ n ≤ cap := by
  simp only [gam, Option.bind_eq_some_iff] at h
  obtain ⟨ki, h1, h2⟩ := h
  cases kn with
  | true =>
    simp only [if_true] at h2
    split at h2
    · rename_i hle; exact ⟨ki, c, h1, by simpa using h2.symm, hle⟩
    · cases h2
  | false =>
    simp only [Bool.false_eq_true, if_false] at h2
    split at h2
    · rename_i hle; exact ⟨ki, ki.cap - c, h1, by simpa using h2.symm, by omega⟩
    · cases h2
theorem ok_append {t u e : TypeId} {n b : Nat} {u8 : Bool} {z : List AV} {du : TypeDesc} {c : Call} {s x : Operand} {ds dx : Opd} (hs : opd s = some ds) (hx : opd x = some dx) (ho : o.op = .call c) (hc : c.callee = .builtin .append) (h1 : c.args = #[s, x]) (h2 : c.argTypes = #[t, u])
    (ht : P.underlying t = some (.slice e)) (hu : P.underlying u = some du) (hdu : (∃ e', du = .slice e') ∨ du = .string) (E : ElemOK P e n b u8 z) (hn : 0 < n) (hb : 0 < b) : ActOK P (oAppend n b u8 ds dx) o := by
  intro fr h K hD
  rcases asSl_iff.1 hD with ⟨e1, hD⟩ | ⟨p, off, len, kn, cap, e1, hD⟩
  · -- onto nil
    have rs : ∀ {κ ρ}, Rho κ fr ρ → ρ s = .slice none 0 0 := fun hr => rho_nilslice hr hs e1
    rcases srcK_iff E.esz1 hD with ⟨hK, hsrc⟩ | ⟨m, l, hm, hl, hK, hsrc⟩ | ⟨m, zz, hm, hz1, hK, hsrc⟩
    · refine ⟨_, _, hK, fun B w0 κ ρ w sm hr => ⟨κ, .slice none 0 0, w, κ.le_refl, sm, rfl, .inl ?_⟩⟩
      obtain ⟨NEW, _, _, M⟩ := mrun_app ho hc h1 h2 ht hu hdu E hb (rs hr) (hsrc B w0 κ w _ sm (hr x dx hx)) (by simp)
      exact M.room (by simp) w (fun a ha => by cases ha) (fun _ => rfl)
    · obtain ⟨hby, hK⟩ := gd_iff.1 hK
      have hby' : m * b ≤ 140737488355328 := by simpa using hby
      obtain ⟨ob, hK, r1, r2, r3⟩ := rowK_iff hK
      have hK := fin_iff hK
      refine ⟨_, _, hK, fun B w0 κ ρ w sm hr => ?_⟩
      obtain ⟨NEW, g1, g2, M⟩ := mrun_app ho hc h1 h2 ht hu hdu E hb (rs hr) (hsrc B w0 κ w _ sm (hr x dx hx)) (by simpa using hby')
      obtain ⟨g, REST, q1, q2, hrun⟩ := M.grow (by omega) [] (by simp [Builtin.firstCells])
      have hnw := grow_new sm (e := e) (len := 0) (l := []) r1 (by simp) hl (by simpa using r2) (by simpa using r3) rfl rfl g1 g2 q1 q2
      rw [Nat.zero_add] at hnw hrun
      exact ⟨_, _, _, Kap.le_set sm.none_next, hnw.1, hnw.2, .inl hrun⟩
    · obtain ⟨hby, hK⟩ := gd_iff.1 hK
      have hby' : m * b ≤ 140737488355328 := by simpa using hby
      have hK := fin_iff hK
      refine ⟨_, _, hK, fun B w0 κ ρ w sm hr => ?_⟩
      obtain ⟨NEW, g1, g2, M⟩ := mrun_app ho hc h1 h2 ht hu hdu E hb (rs hr) (hsrc B w0 κ w _ sm (hr x dx hx)) (by simpa using hby')
      obtain ⟨g, REST, q1, q2, hrun⟩ := M.grow (by omega) [] (by simp [Builtin.firstCells])
      have hnw := grow_new sm (e := e) (len := 0) (l := []) (ob := .byts m zz) trivial (by simp) (by rw [bcells_length, hz1]; omega) (by simp [sizeOfObj, bcells_length]) (fun j => by rw [cellAt_byts, List.nil_append, bcells_get]) rfl rfl g1 g2 q1 q2
      rw [Nat.zero_add] at hnw hrun
      exact ⟨_, _, _, Kap.le_set sm.none_next, hnw.1, hnw.2, .inl hrun⟩
  · -- onto a slice
    rcases srcK_iff E.esz1 hD with ⟨hK, hsrc⟩ | ⟨m, l, hm, hl, hK, hsrc⟩ | ⟨m, zz, hm, hz1, hK, hsrc⟩
    · refine ⟨_, _, hK, fun B w0 κ ρ w sm hr => ?_⟩
      have hv := hr s ds hs
      rw [e1] at hv
      obtain ⟨ki, rcap, hk, h3, hle⟩ := gamk _ _ _ _ _ _ _ hv
      refine ⟨κ, _, w, κ.le_refl, sm, hv, .inl ?_⟩
      obtain ⟨NEW, g1, _, hl0, hf0⟩ := (hsrc B w0 κ w _ sm (hr x dx hx)).ex
      have hN : NEW = [] := List.eq_nil_of_length_eq_zero (by have := gams_length _ _ g1; simpa using this)
      have := app_room (P := P) (ty := o.type) ht E.info hu hdu (κ := κ) (base := some (ki.at off)) (w' := w) (NEW := []) (hl0 w) (by rw [E.size, ← hN]; exact hf0 w rfl) (show len + 0 ≤ rcap by omega) (fun a _ => by simp [storeCells]) (fun hno => by cases hno)
      simp [execOp, ho, resolve, hc, h1, h2, invoke, builtin, h3, this]
    · obtain ⟨hby, av, h', hK, hrest⟩ := join_ok (P := P) (o := o) hK hl hm hn (fun ob k hg => growK_iff2 hg) (fun ob k hg => by
        have hro : rowLike ob := by
          cases l with
          | nil => have hpos := Nat.mul_pos hm hn; rw [← hl] at hpos; simp at hpos
          | cons v l =>
            rw [setCellsK_cons] at hg
            split at hg
            · rename_i hlt; exact rowLike_of_size (by have : off + len * n < sizeOfObj ob := by simpa using hlt
                                                      omega)
            · exact hg.elim
        obtain ⟨ob', a1, a2, a3, a4, a5⟩ := setCellsK_iff _ _ _ _ hro (setCellsK_by _ _ _ _ hg)
        exact ⟨ob', a1, hro, a2, a3, a4, a5⟩)
      refine ⟨av, h', hK, fun B w0 κ ρ w sm hr => ?_⟩
      obtain ⟨ki, rcap, hk, h3, hc1, hc2⟩ := rho_slice hr hs e1
      obtain ⟨NEW, g1, g2, M⟩ := mrun_app ho hc h1 h2 ht hu hdu E hb h3 (hsrc B w0 κ w _ sm (hr x dx hx)) hby
      obtain ⟨κ', v, w', a1, a2, a3, a4⟩ := hrest B w0 κ ρ w ki rcap NEW e sm hk hc1 hc2 g1 g2 M
      exact ⟨κ', v, w', a1, a2, a3, .inl a4⟩
    · have hz1' := hz1
      subst hz1
      obtain ⟨hby, av, h', hK, hrest⟩ := join_ok (P := P) (o := o) (new := bcells m zz) hK (by rw [bcells_length]; omega) hm hn
        (fun ob k hg => by
          obtain ⟨ob', a1, a2, a3, a4, a5, a6⟩ := growBK_iff (growBK_by hg)
          exact ⟨ob', a1, a2, a3, by simpa using a4, by rw [a5, bcells_length, Nat.mul_one], by simpa using a6⟩)
        (fun ob k hg => by
          obtain ⟨ob', a1, a2, a3, a4, a5, a6⟩ := overBK_iff (overBK_by hg)
          exact ⟨ob', a1, a2, a3, a4, .inr (by simpa using a5), by simpa using a6⟩)
      refine ⟨av, h', hK, fun B w0 κ ρ w sm hr => ?_⟩
      obtain ⟨ki, rcap, hk, h3, hc1, hc2⟩ := rho_slice hr hs e1
      obtain ⟨NEW, g1, g2, M⟩ := mrun_app ho hc h1 h2 ht hu hdu E hb h3 (hsrc B w0 κ w _ sm (hr x dx hx)) hby
      obtain ⟨κ', v, w', a1, a2, a3, a4⟩ := hrest B w0 κ ρ w ki rcap NEW e sm hk hc1 hc2 g1 g2 M
      exact ⟨κ', v, w', a1, a2, a3, .inl a4⟩

theorem MRun.other {ρ : Operand → Value} {w : World} {e : TypeId} {esz m : Nat} {a b : Option Addr} {NEW : List Value} (hm : 0 < m) (M : MRun P o ρ w e esz a 0 0 m NEW) : MRun P o ρ w e esz b 0 0 m NEW :=
  ⟨fun h => by omega, fun h OLD hold => by
    have e0 : OLD = [] := by
      cases b with
      | none => simpa [Builtin.firstCells] using hold.symm
      | some b => have := run_firstCells_some (P := P) w.drew esz 0 b 0 0 [] (by simp) (fun j v h => by simp at h); rw [this] at hold; simpa using hold.symm
    subst e0
    refine M.grow h [] ?_
    cases a with
    | none => simp [Builtin.firstCells]
    | some a => exact run_firstCells_some w.drew esz 0 a 0 0 [] (by simp) (fun j v h => by simp at h)⟩
theorem ok_append2 {t u e : TypeId} {n b : Nat} {u8 : Bool} {z : List AV} {du : TypeDesc} {c : Call} {s x : Operand} {ds dx : Opd} (hs : opd s = some ds) (hx : opd x = some dx) (ho : o.op = .call c) (hc : c.callee = .builtin .append) (h1 : c.args = #[s, x]) (h2 : c.argTypes = #[t, u])
    (ht : P.underlying t = some (.slice e)) (hu : P.underlying u = some du) (hdu : (∃ e', du = .slice e') ∨ du = .string) (E : ElemOK P e n b u8 z) (hn : 0 < n) (hb : 0 < b) : ActOK P (oAppend2 n b u8 ds dx) o := by
  intro fr h K hD
  rcases asSlE_iff hD with ⟨p, a, b', c', e1, hD⟩ | hD
  · have key : ∀ {m : Nat} {l : List AV} {κ ρ w ki}, 0 < m → κ p = some ki → ρ s = .slice (some (ki.at (if ki.cap = c' then a else b'))) 0 (ki.cap - c') → Src P κ w n m (ρ x) l → (0 + m) * b ≤ 140737488355328 →
        ∃ NEW, gams κ l = some NEW ∧ NEW.all Value.oneCell' = true ∧ MRun P o ρ w e n (some (ki.at b')) 0 (ki.cap - c') m NEW := by
      intro m l κ ρ w ki hm hk h3 hsrc hby
      obtain ⟨NEW, g1, g2, M⟩ := mrun_app ho hc h1 h2 ht hu hdu E hb h3 hsrc hby
      refine ⟨NEW, g1, g2, ?_⟩
      by_cases hq : ki.cap = c'
      · have h0 : ki.cap - c' = 0 := by omega
        rw [h0] at M ⊢
        exact M.other hm
      · rw [if_neg hq] at M; exact M
    rcases srcK_iff E.esz1 hD with ⟨hK, hsrc⟩ | ⟨m, l, hm, hl, hK, hsrc⟩ | ⟨m, zz, hm, hz1, hK, hsrc⟩
    · refine ⟨_, _, hK, fun B w0 κ ρ w sm hr => ?_⟩
      have hv := hr s ds hs
      rw [e1] at hv
      obtain ⟨ki, hk, hle, h3⟩ := rho_sliceE hr hs e1
      refine ⟨κ, _, w, κ.le_refl, sm, hv, .inl ?_⟩
      obtain ⟨NEW, g1, _, hl0, hf0⟩ := (hsrc B w0 κ w _ sm (hr x dx hx)).ex
      have hN : NEW = [] := List.eq_nil_of_length_eq_zero (by have := gams_length _ _ g1; simpa using this)
      have := app_room (P := P) (ty := o.type) ht E.info hu hdu (κ := κ) (base := some (ki.at (if ki.cap = c' then a else b'))) (w' := w) (NEW := []) (hl0 w) (by rw [E.size, ← hN]; exact hf0 w rfl) (show 0 + 0 ≤ ki.cap - c' by omega) (fun a _ => by simp [storeCells]) (fun hno => by cases hno)
      simp [execOp, ho, resolve, hc, h1, h2, invoke, builtin, h3, this]
    · obtain ⟨hby, av, h', hK, hrest⟩ := join_ok (P := P) (o := o) hK hl hm hn (fun ob k hg => growK_iff2 hg) (fun ob k hg => hg.elim)
      refine ⟨av, h', hK, fun B w0 κ ρ w sm hr => ?_⟩
      obtain ⟨ki, hk, hle, h3⟩ := rho_sliceE hr hs e1
      obtain ⟨NEW, g1, g2, M⟩ := key hm hk h3 (hsrc B w0 κ w _ sm (hr x dx hx)) hby
      obtain ⟨κ', v, w', a1, a2, a3, a4⟩ := hrest B w0 κ ρ w ki (ki.cap - c') NEW e sm hk (fun h => by cases h) (fun _ => ⟨by omega, rfl⟩) g1 g2 M
      exact ⟨κ', v, w', a1, a2, a3, .inl a4⟩
    · have hz1' := hz1
      subst hz1
      obtain ⟨hby, av, h', hK, hrest⟩ := join_ok (P := P) (o := o) (new := bcells m zz) hK (by rw [bcells_length]; omega) hm hn
        (fun ob k hg => by
          obtain ⟨ob', a1, a2, a3, a4, a5, a6⟩ := growBK_iff (growBK_by hg)
          exact ⟨ob', a1, a2, a3, by simpa using a4, by rw [a5, bcells_length], by simpa using a6⟩)
        (fun ob k hg => hg.elim)
      refine ⟨av, h', hK, fun B w0 κ ρ w sm hr => ?_⟩
      obtain ⟨ki, hk, hle, h3⟩ := rho_sliceE hr hs e1
      obtain ⟨NEW, g1, g2, M⟩ := key hm hk h3 (hsrc B w0 κ w _ sm (hr x dx hx)) hby
      obtain ⟨κ', v, w', a1, a2, a3, a4⟩ := hrest B w0 κ ρ w ki (ki.cap - c') NEW e sm hk (fun h => by cases h) (fun _ => ⟨by omega, rfl⟩) g1 g2 M
      exact ⟨κ', v, w', a1, a2, a3, .inl a4⟩
  · exact ok_append hs hx ho hc h1 h2 ht hu hdu E hn hb fr h K hD

/-! ### append(s, make([]T, n)...) -/
theorem wrap64_of (m : Nat) (h : m ≤ 140737488355328) : IntKind.i64.wrap (m : Int) = m := by
  rw [IntKind.wrap_i64]; omega
set_option maxHeartbeats 1000000 in
theorem mrun_appZ {t u e : TypeId} {n b : Nat} {u8 : Bool} {z : List AV} {k0 k : IntKind} {c : Call} {s x : Operand} (ho : o.op = .call c) (hc : c.callee = .builtin .append) (h1 : c.args = #[s, x]) (h2 : c.argTypes = #[t, u])
    (ht : P.underlying t = some (.slice e)) (hu : P.underlying u = some (.int k0)) (E : ElemOK P e n b u8 z) (hn : 0 < n) (hb : 0 < b) {ρ : Operand → Value} {w : World} {base : Option Addr} {len cap m : Nat}
    (hs : ρ s = .slice base len cap) (hx : ρ x = .int k (m : Int)) (κ : Kap) (hby : (len + m) * b ≤ 140737488355328) :
    ∃ NEW, gams κ (repL z m) = some NEW ∧ NEW.all Value.oneCell' = true ∧ MRun P o ρ w e n base len cap m NEW := by
  have hmb : m * b ≤ 140737488355328 := Nat.le_trans (Nat.mul_le_mul_right _ (by omega)) hby
  have hm0 : m ≤ 140737488355328 := Nat.le_trans (Nat.le_mul_of_pos_right m hb) hmb
  have hw := wrap64_of m hm0
  have hneg : ¬ ((m : Int) < 0) := by omega
  have hmi : ¬ (281474976710656 < (m : Int) * (b : Int)) := by
    have : ((m * b : Nat) : Int) ≤ 140737488355328 := by omega
    rw [Int.natCast_mul] at this; omega
  have hnew : (if m * n = 0 then (#[] : Array Value) else Builtin.zeroCells E.Z.cells m) = (List.replicate m E.Z.cells.toList).flatten.toArray := by
    have hz : Builtin.zeroCells E.Z.cells m = (List.replicate m E.Z.cells.toList).flatten.toArray := by
      apply Array.toList_inj.1
      exact rep_range E.Z.cells m
    split
    · rename_i h0
      have : m = 0 := by rcases Nat.mul_eq_zero.1 h0 with h | h <;> omega
      subst this; simp
    · exact hz
  have hzero : ∀ w : World, (zeroValue e).run P w = .ok E.Z w := fun w => by simp [zeroValue, typeInfo, E.info, E.zero]
  refine ⟨(List.replicate m E.Z.cells.toList).flatten, gams_rep (E.gam κ) m, rep_all E.one m, fun hroom w' hst hno => ?_, fun hgt OLD hold => ?_⟩
  · rcases Nat.eq_zero_or_pos m with rfl | hm
    · simp only [Nat.add_zero] at hroom
      cases base with
      | none =>
        obtain rfl := hno rfl
        simp [execOp, ho, resolve, hc, h1, h2, invoke, builtin, hs, hx, Builtin.append_, run_underlying ht, run_underlying hu, sizeOf, typeInfo, E.info, E.size, E.bytes, Go.asInt, asIntOf, IntKind.wrap_i64, hroom]
      | some a =>
        have hst := hst a rfl
        simp [storeCells] at hst
        subst hst
        simp [execOp, ho, resolve, hc, h1, h2, invoke, builtin, hs, hx, Builtin.append_, run_underlying ht, run_underlying hu, sizeOf, typeInfo, E.info, E.size, E.bytes, Go.asInt, asIntOf, IntKind.wrap_i64, hroom, storeCells]
    · have hmn : ¬ (m = 0 ∨ n = 0) := by omega
      have hmn' : m * n ≠ 0 := Nat.ne_of_gt (Nat.mul_pos hm hn)
      rw [if_neg hmn'] at hnew
      cases base with
      | none =>
        obtain rfl := hno rfl
        simp [execOp, ho, resolve, hc, h1, h2, invoke, builtin, hs, hx, Builtin.append_, run_underlying ht, run_underlying hu, sizeOf, typeInfo, E.info, E.size, E.bytes, Go.asInt, asIntOf, hw, hneg, hmi, hroom, hmn, hzero]
      | some a =>
        have hst := hst a rfl
        simp [execOp, ho, resolve, hc, h1, h2, invoke, builtin, hs, hx, Builtin.append_, run_underlying ht, run_underlying hu, sizeOf, typeInfo, E.info, E.size, E.bytes, Go.asInt, asIntOf, hw, hneg, hmi, hroom, hmn, hzero, hnew, hst]
        intro h0; exact absurd h0 hmn'
  · have hn' : ¬ (len + m ≤ cap) := by omega
    have hfit := growslice_fits hgt hby
    have h48' : ¬ (281474976710656 < Builtin.nextslicecap (len + m) cap * b) := by omega
    have hb0 : b ≠ 0 := by omega
    have h63 : ¬ (9223372036854775807 < (len : Int) + (m : Int)) := by
      have : len + m ≤ 140737488355328 := Nat.le_trans (Nat.le_mul_of_pos_right _ hb) hby
      omega
    refine ⟨grownCap w (len + m) cap e, Builtin.zeroCells E.Z.cells (grownCap w (len + m) cap e - (len + m)), grownCap_ge w (len + m) cap e, by rw [size_zeroC, E.cells], ?_⟩
    rcases Nat.eq_zero_or_pos m with rfl | hm
    · simp [execOp, ho, resolve, hc, h1, h2, invoke, builtin, hs, hx, Builtin.append_, run_underlying ht, run_underlying hu, sizeOf, typeInfo, E.info, E.size, E.bytes, Go.asInt, asIntOf, IntKind.wrap_i64]
      simp at hn' h48' h63 hold
      have a1 : ¬ (len ≤ cap) := by omega
      have a2 : ¬ (9223372036854775807 < (len : Int)) := by omega
      have a3 : ¬ (281474976710656 < Builtin.nextslicecap len cap * b) := by omega
      simp [a1, a2, a3, hb0, Question.forced, hold, newRow, grownCap, hzero, E.info]
    · have hmn : ¬ (m = 0 ∨ n = 0) := by omega
      have hmn' : m * n ≠ 0 := Nat.ne_of_gt (Nat.mul_pos hm hn)
      rw [if_neg hmn'] at hnew
      simp [execOp, ho, resolve, hc, h1, h2, invoke, builtin, hs, hx, Builtin.append_, run_underlying ht, run_underlying hu, sizeOf, typeInfo, E.info, E.size, E.bytes, Go.asInt, asIntOf, hw, hneg, hmi, hn', h48', hb0, h63, Question.forced, hold, newRow, grownCap, hmn, hzero, hnew]
      rw [if_neg hmn']
      have hcat : ∀ (A B : List Value) (C : Array Value), A.toArray ++ (B.toArray ++ C) = (A ++ B).toArray ++ C := by
        intro A B C; apply Array.ext'; simp
      rw [hcat]

theorem ok_appendZ {t u e : TypeId} {n b : Nat} {u8 : Bool} {z : List AV} {k0 : IntKind} {c : Call} {s x : Operand} {ds dx : Opd} (hs : opd s = some ds) (hx : opd x = some dx) (ho : o.op = .call c) (hc : c.callee = .builtin .append) (h1 : c.args = #[s, x]) (h2 : c.argTypes = #[t, u])
    (ht : P.underlying t = some (.slice e)) (hu : P.underlying u = some (.int k0)) (E : ElemOK P e n b u8 z) (hn : 0 < n) (hb : 0 < b) : ActOK P (oAppendZ n b u8 z ds dx) o := by
  intro fr h K hD
  obtain ⟨k, m, e0, hD⟩ := asNat_iff.1 hD
  rw [forceN_eq] at hD
  have hrl : (repL z m).length = m * n := by rw [repL_length, E.len]
  rcases asSl_iff.1 hD with ⟨e1, hD⟩ | ⟨p, off, len, kn, cap, e1, hD⟩
  · have rs : ∀ {κ ρ}, Rho κ fr ρ → ρ s = .slice none 0 0 := fun hr => rho_nilslice hr hs e1
    cases hm : Nat.beq m 0 with
    | true =>
      rw [hm] at hD
      have h0 : m = 0 := by simpa using hm
      subst h0
      refine ⟨_, _, hD, fun B w0 κ ρ w sm hr => ⟨κ, .slice none 0 0, w, κ.le_refl, sm, rfl, .inl ?_⟩⟩
      obtain ⟨NEW, _, _, M⟩ := mrun_appZ (P := P) (w := w) (k := k) ho hc h1 h2 ht hu E hn hb (rs hr) (m := 0) (rho_int hr hx e0) κ (by simp)
      exact M.room (by simp) w (fun a ha => by cases ha) (fun _ => rfl)
    | false =>
      rw [hm] at hD
      have hmp : 0 < m := by
        have : ¬ m = 0 := by intro h0; rw [h0] at hm; exact absurd hm (by decide)
        omega
      obtain ⟨hby, hK⟩ := gd_iff.1 hD
      have hby' : m * b ≤ 140737488355328 := by simpa using hby
      obtain ⟨ob, hK, r1, r2, r3⟩ := zerosK_iff (fun hu => (E.byte hu).1) hK
      have hK := fin_iff hK
      refine ⟨_, _, hK, fun B w0 κ ρ w sm hr => ?_⟩
      obtain ⟨NEW, g1, g2, M⟩ := mrun_appZ (P := P) (w := w) (k := k) ho hc h1 h2 ht hu E hn hb (rs hr) (m := m) (rho_int hr hx e0) κ (by simpa using hby')
      obtain ⟨g, REST, q1, q2, hrun⟩ := M.grow (by omega) [] (by simp [Builtin.firstCells])
      have hnw := grow_new sm (e := e) (len := 0) (l := []) r1 (by simp) hrl (by rw [r2, List.nil_append, repL_length]) (by simpa using r3) rfl rfl g1 g2 q1 q2
      rw [Nat.zero_add] at hnw hrun
      exact ⟨_, _, _, Kap.le_set sm.none_next, hnw.1, hnw.2, .inl hrun⟩
  · cases hm : Nat.beq m 0 with
    | true =>
      rw [hm] at hD
      have h0 : m = 0 := by simpa using hm
      subst h0
      refine ⟨_, _, hD, fun B w0 κ ρ w sm hr => ?_⟩
      have hv := hr s ds hs
      rw [e1] at hv
      obtain ⟨ki, rcap, hk, h3, hle⟩ := gamk _ _ _ _ _ _ _ hv
      refine ⟨κ, _, w, κ.le_refl, sm, hv, .inl ?_⟩
      have hxi := rho_int hr hx e0
      rw [h3]
      have hxi' : ρ x = .int k 0 := hxi
      simp [execOp, ho, resolve, hc, h1, h2, invoke, builtin, h3, hxi', Builtin.append_, run_underlying ht, run_underlying hu, sizeOf, typeInfo, E.info, E.size, E.bytes, Go.asInt, asIntOf, IntKind.wrap_i64, hle, storeCells]
    | false =>
      rw [hm] at hD
      have hmp : 0 < m := by
        have : ¬ m = 0 := by intro h0; rw [h0] at hm; exact absurd hm (by decide)
        omega
      obtain ⟨hby, av, h', hK, hrest⟩ := join_ok (P := P) (o := o) (new := repL z m) (show joinK h p off len m kn cap n b _ _ K from hD) hrl hmp hn
        (fun ob k hg => by
          cases u8 with
          | false => exact growK_iff2 hg
          | true =>
            have hz := (E.byte rfl).1
            have hn1 := E.esz1 rfl
            obtain ⟨ob', a1, a2, a3, a4, a5, a6⟩ := growBK_iff (growBK_by hg)
            have hbc : bcells m 0 = repL z m := by
              apply List.ext_getElem?
              intro j
              rw [bcells_get, repL_get (α := Unit), hz]
              simp only [List.length_singleton, Nat.mul_one, Nat.mod_one]
              split <;> simp [byteAt]
            refine ⟨ob', a1, a2, a3, by rw [hn1, Nat.mul_one]; exact a4, by rw [a5, hrl, hn1, Nat.mul_one, Nat.mul_one], ?_⟩
            intro j
            rw [a6, hn1, Nat.mul_one, hbc])
        (fun ob k hg => hg.elim)
      refine ⟨av, h', hK, fun B w0 κ ρ w sm hr => ?_⟩
      obtain ⟨ki, rcap, hk, h3, hc1, hc2⟩ := rho_slice hr hs e1
      obtain ⟨NEW, g1, g2, M⟩ := mrun_appZ (P := P) (w := w) (k := k) ho hc h1 h2 ht hu E hn hb h3 (m := m) (rho_int hr hx e0) κ hby
      obtain ⟨κ', v, w', a1, a2, a3, a4⟩ := hrest B w0 κ ρ w ki rcap NEW e sm hk hc1 hc2 g1 g2 M
      exact ⟨κ', v, w', a1, a2, a3, .inl a4⟩

end Go.Am

namespace Go.Am
set_option linter.unusedSimpArgs false
set_option linter.unusedVariables false
open Go Go.RowKit
variable {P : Program} {o : Oper}

theorem lenA_iff {x : AV} {k : Nat → Prop} (h : lenA x k) : ∃ m, k m ∧ ∀ κ X, gam κ x = some X → ∀ w', (Builtin.lenOf X).run P w' = .ok m w' := by
  cases x with
  | nilslice => exact ⟨0, h, fun κ X hX w' => by simp [gam] at hX; subst hX; simp [Builtin.lenOf]⟩
  | slice p off m kn c =>
    refine ⟨m, h, fun κ X hX w' => ?_⟩
    obtain ⟨ki, cap, _, rfl, _⟩ := gamk κ p off m c kn X hX
    simp [Builtin.lenOf]
  | sliceE p a b c =>
    refine ⟨0, h, fun κ X hX w' => ?_⟩
    simp only [gam, Option.bind_eq_some_iff] at hX
    obtain ⟨ki, _, h2⟩ := hX
    split at h2
    · simp only [Option.some.injEq] at h2
      subst h2
      simp [Builtin.lenOf]
    · cases h2
  | sliceZ p =>
    refine ⟨0, h, fun κ X hX w' => ?_⟩
    obtain ⟨x, rfl⟩ := gam_sliceZ_ne hX
    simp [Builtin.lenOf]
  | str m z =>
    refine ⟨m, h, fun κ X hX w' => ?_⟩
    simp only [gam] at hX
    split at hX
    · simp only [Option.some.injEq] at hX
      subst hX
      simp [Builtin.lenOf, strOf_size]
    · cases hX
  | _ => exact h.elim
theorem shortA_ok {κ : Kap} {x : AV} {X : Value} (hX : gam κ x = some X) {m k : Nat} (w : World) (hm : (Builtin.lenOf X).run P w = .ok m w) (hk : k ≤ m) (hne : shortA x k ≠ undefV) :
    ∃ X', gam κ (shortA x k) = some X' ∧ ∀ esz, Builtin.firstCells esz k X' = Builtin.firstCells esz k X := by
  cases x with
  | slice p off n kn c =>
    simp only [gam, Option.bind_eq_some_iff] at hX
    obtain ⟨ki, h1, h2⟩ := hX
    cases kn with
    | true =>
      simp only [if_true] at h2
      split at h2
      · rename_i hle
        simp only [Option.some.injEq] at h2
        subst h2
        simp only [Builtin.lenOf, Sem.run_pure, Result.ok.injEq] at hm
        have : n = m := hm.1
        refine ⟨.slice (some (ki.at off)) k c, by simp [shortA, gam, h1]; omega, fun esz => rfl⟩
      · cases h2
    | false =>
      simp only [Bool.false_eq_true, if_false] at h2
      split at h2
      · rename_i hle
        simp only [Option.some.injEq] at h2
        subst h2
        simp only [Builtin.lenOf, Sem.run_pure, Result.ok.injEq] at hm
        have : n = m := hm.1
        refine ⟨.slice (some (ki.at off)) k (ki.cap - c), by simp [shortA, gam, h1]; omega, fun esz => rfl⟩
      · cases h2
  | str n z =>
    simp only [shortA] at hne ⊢
    split at hne
    · exact ⟨X, hX, fun _ => rfl⟩
    · exact absurd rfl hne
  | _ => exact ⟨X, hX, fun _ => rfl⟩
theorem copy_run {t u e ty : TypeId} {n : Nat} (ht : P.underlying t = some (.slice e)) {i : TypeInfo} (hi : P.info? e = some i) (hn : i.size = n) {base : Option Addr} {dLen cap m : Nat} {X : Value} {w : World} (hl : (Builtin.lenOf X).run P w = .ok m w) {C : Array Value}
    (hf : (Builtin.firstCells n (Nat.min m dLen) X).run P w = .ok C w) {w' : World} (hst : (match base with | some a => storeCells a C.toList | none => pure ()).run P w = .ok () w') :
    (Builtin.copy_ #[t, u] ty #[.slice base dLen cap, X]).run P w = .ok (goInt (Nat.min m dLen)) w' := by
  cases base with
  | none =>
    simp only [Sem.run_pure, Result.ok.injEq, true_and] at hst
    subst hst
    simp [Builtin.copy_, run_underlying ht, hl, sizeOf, typeInfo, hi, hn, hf]
  | some a =>
    simp only at hst
    simp [Builtin.copy_, run_underlying ht, hl, sizeOf, typeInfo, hi, hn, hf, hst]
theorem firstCells_zero {κ : Kap} {x : AV} {X : Value} (hX : gam κ x = some X) {k : Nat → Prop} (hD : lenA x k) (n : Nat) (w : World) : ∃ C, (Builtin.firstCells n 0 X).run P w = .ok C w := by
  cases x with
  | nilslice => simp [gam] at hX; subst hX; simp [Builtin.firstCells]
  | slice p off m kn c =>
    obtain ⟨ki, cap, _, rfl, _⟩ := gamk κ p off m c kn X hX
    simp [Builtin.firstCells, loadCells, loadCellsFrom]
  | sliceE p a b c =>
    simp only [gam, Option.bind_eq_some_iff] at hX
    obtain ⟨ki, _, h2⟩ := hX
    split at h2
    · simp only [Option.some.injEq] at h2
      subst h2
      simp [Builtin.firstCells, loadCells, loadCellsFrom]
    · cases h2
  | sliceZ p =>
    obtain ⟨x, rfl⟩ := gam_sliceZ_ne hX
    simp [Builtin.firstCells, loadCells, loadCellsFrom]
  | str m z =>
    simp only [gam] at hX
    split at hX
    · simp only [Option.some.injEq] at hX
      subst hX
      simp [Builtin.firstCells]
    · cases hX
  | _ => exact hD.elim
theorem srcK_undef {h : Hp} {esz : Nat} {u8 : Bool} {x : AV} {k0 : Prop} {kl : Nat → List AV → Prop} {kb : Nat → Nat → Prop} (hD : srcK h esz u8 x k0 kl kb) : x ≠ undefV := by
  intro e; rw [e] at hD; exact hD.elim

theorem ok_copy {t e : TypeId} {n b : Nat} {u8 : Bool} {z : List AV} {c : Call} {s x : Operand} {ds dx : Opd} (hs : opd s = some ds) (hx : opd x = some dx) (ho : o.op = .call c) (hc : c.callee = .builtin .copy) (h1 : c.args = #[s, x]) (h2 : c.argTypes[0]? = some t)
    (ht : P.underlying t = some (.slice e)) (E : ElemOK P e n b u8 z) (hn : 0 < n) : ActOK P (oCopy n u8 ds dx) o := by
  intro fr h K hD
  obtain ⟨m, hD1, hlen⟩ := lenA_iff (P := P) hD
  have hL : lenA (dx fr) fun _ => True := by
    have hD' := hD
    revert hD'
    unfold oCopy
    cases dx fr <;> (intro q; first | trivial | exact q.elim)
  have fin : ∀ {ρ : Operand → Value} {w w' : World} {base : Option Addr} {dLen cap : Nat} {C : Array Value} {κ : Kap}, ρ s = .slice base dLen cap → Rho κ fr ρ →
      (Builtin.firstCells n (Nat.min m dLen) (ρ x)).run P w = .ok C w → (match base with | some a => storeCells a C.toList | none => pure ()).run P w = .ok () w' → (execOp ρ o).run P w = .ok (.value (goInt (Nat.min m dLen))) w' := by
    intro ρ w w' base dLen cap C κ e1 hr hf hst
    have hl := hlen κ _ (hr x dx hx) w
    obtain ⟨ats, hats⟩ : ∃ ats : Array TypeId, c.argTypes = ats := ⟨_, rfl⟩
    have hrun : ∀ ty, (Builtin.copy_ c.argTypes ty #[.slice base dLen cap, ρ x]).run P w = .ok (goInt (Nat.min m dLen)) w' := by
      intro ty
      have hcp := copy_run (P := P) (t := t) (u := t) (ty := ty) ht E.info E.size (base := base) (dLen := dLen) (cap := cap) hl hf hst
      have e : Builtin.copy_ c.argTypes ty #[.slice base dLen cap, ρ x] = Builtin.copy_ #[t, t] ty #[.slice base dLen cap, ρ x] := by
        simp [Builtin.copy_, h2]
      rw [e]; exact hcp
    simp [execOp, ho, resolve, hc, h1, invoke, builtin, e1, hrun]
  rcases asSl_iff.1 hD1 with ⟨e1, hD1⟩ | ⟨p, off, len, kn, cap, e1, hD1⟩
  · refine ⟨_, _, hD1, fun B w0 κ ρ w sm hr => ?_⟩
    obtain ⟨C, hC⟩ := firstCells_zero (P := P) (hr x dx hx) hL n w
    have := fin (w := w) (w' := w) (base := none) (dLen := 0) (cap := 0) (C := C) (rho_nilslice hr hs e1) hr (by simpa using hC) (by simp)
    exact ⟨κ, .int .i64 0, w, κ.le_refl, sm, by simp [gam], .inl (by simpa [goInt] using this)⟩
  · rw [forceN_eq] at hD1
    have hne := srcK_undef hD1
    have src : ∀ {B w0 κ ρ w} {kk : Nat} {new : List AV}, Sim B w0 κ h w → Rho κ fr ρ → kk = Nat.min m len → (∀ B w0 κ w X, Sim B w0 κ h w → gam κ (shortA (dx fr) (Nat.min m len)) = some X → Src P κ w n kk X new) →
        ∃ NEW, gams κ new = some NEW ∧ NEW.all Value.oneCell' = true ∧ (Builtin.firstCells n (Nat.min m len) (ρ x)).run P w = .ok NEW.toArray w := by
      intro B w0 κ ρ w kk new sm hr hkk hsrc
      obtain ⟨X', g1, g2⟩ := shortA_ok (P := P) (hr x dx hx) w (hlen κ _ (hr x dx hx) w) (Nat.min_le_left m len) hne
      obtain ⟨NEW, q1, q2, q3, q4⟩ := (hsrc B w0 κ w X' sm g1).ex
      refine ⟨NEW, q1, q2, ?_⟩
      rw [← g2 n]
      have := q4 w rfl
      rw [hkk] at this
      exact this
    have lens : ∀ {B w0 κ w} {kk : Nat} {new : List AV}, Sim B w0 κ h w → (∃ X, gam κ (dx fr) = some X) → (∀ B w0 κ w X, Sim B w0 κ h w → gam κ (shortA (dx fr) (Nat.min m len)) = some X → Src P κ w n kk X new) → kk = Nat.min m len := by
      intro B w0 κ w kk new sm ⟨X, hX⟩ hsrc
      obtain ⟨X', g1, g2⟩ := shortA_ok (P := P) hX w (hlen κ _ hX w) (Nat.min_le_left m len) hne
      obtain ⟨NEW, q1, q2, q3, q4⟩ := (hsrc B w0 κ w X' sm g1).ex
      have h5 := q3 w
      cases hdx : dx fr with
      | slice p off n' kn c =>
        rw [hdx] at g1
        obtain ⟨ki, cap, _, e, _⟩ := gamk κ _ _ _ _ _ _ (show gam κ (.slice p off (Nat.min m len) kn c) = some X' from g1)
        rw [e] at h5
        simp only [Builtin.lenOf, Sem.run_pure, Result.ok.injEq] at h5
        exact h5.1.symm
      | str n' z' =>
        rw [hdx] at hne g1 hX
        simp only [shortA] at hne g1
        split at hne
        · rename_i hb
          rw [hb] at g1
          rw [hX] at g1
          cases g1
          have h6 := hlen κ X (by rw [hdx]; exact hX) w
          simp only [gam] at hX
          split at hX
          · simp only [Option.some.injEq] at hX
            subst hX
            simp only [Builtin.lenOf, Sem.run_pure, Result.ok.injEq, strOf_size] at h5 h6
            have := Nat.eq_of_beq_eq_true hb
            omega
          · cases hX
        · exact absurd rfl hne
      | nilslice =>
        rw [hdx] at hX g1
        rw [show shortA .nilslice (Nat.min m len) = .nilslice from rfl, hX] at g1
        cases g1
        have h6 := hlen κ X (by rw [hdx]; exact hX) w
        rw [h5] at h6
        have : kk = m := by simpa using h6
        simp [gam] at hX
        subst hX
        simp only [Builtin.lenOf, Sem.run_pure, Result.ok.injEq] at h5
        have h7 : 0 = kk := h5.1
        have h8 : Nat.min m len ≤ m := Nat.min_le_left m len
        omega
      | sliceE p a b c =>
        rw [hdx] at hX g1
        rw [show shortA (.sliceE p a b c) (Nat.min m len) = .sliceE p a b c from rfl, hX] at g1
        cases g1
        have h6 := hlen κ X (by rw [hdx]; exact hX) w
        rw [h5] at h6
        have : kk = m := by simpa using h6
        simp only [gam, Option.bind_eq_some_iff] at hX
        obtain ⟨ki, _, h2⟩ := hX
        split at h2
        · simp only [Option.some.injEq] at h2
          subst h2
          simp only [Builtin.lenOf, Sem.run_pure, Result.ok.injEq] at h5
          have h7 : 0 = kk := h5.1
          have h8 : Nat.min m len ≤ m := Nat.min_le_left m len
          omega
        · cases h2
      | sliceZ p =>
        rw [hdx] at hX g1
        rw [show shortA (.sliceZ p) (Nat.min m len) = .sliceZ p from rfl, hX] at g1
        cases g1
        have h6 := hlen κ X (by rw [hdx]; exact hX) w
        rw [h5] at h6
        have : kk = m := by simpa using h6
        obtain ⟨x, rfl⟩ := gam_sliceZ_ne hX
        simp only [Builtin.lenOf, Sem.run_pure, Result.ok.injEq] at h5
        have h7 : 0 = kk := h5.1
        have h8 : Nat.min m len ≤ m := Nat.min_le_left m len
        omega
      | _ => rw [hdx] at hL; exact hL.elim
    rcases srcK_iff E.esz1 hD1 with ⟨hK, hsrc⟩ | ⟨kk, l, hkk, hll, hK, hsrc⟩ | ⟨kk, zz, hkk, hz1, hK, hsrc⟩
    · refine ⟨_, _, hK, fun B w0 κ ρ w sm hr => ?_⟩
      obtain ⟨ki, rcap, hk, h3, _⟩ := rho_slice hr hs e1
      have h0 := lens sm ⟨_, hr x dx hx⟩ hsrc
      obtain ⟨NEW, q1, q2, q3⟩ := src sm hr h0 hsrc
      simp only [gams, Option.some.injEq] at q1
      subst q1
      have := fin (w := w) (w' := w) h3 hr q3 (by simp [storeCells])
      rw [← h0] at this
      exact ⟨κ, .int .i64 0, w, κ.le_refl, sm, by simp [gam], .inl (by simpa [goInt] using this)⟩
    · obtain ⟨e, he, hK⟩ := objAt_iff.1 hK
      obtain ⟨hown, hK⟩ := gd_iff.1 hK
      have hro : rowLike e.obj := by
        cases l with
        | nil => have hpos := Nat.mul_pos hkk hn; rw [← hll] at hpos; simp at hpos
        | cons v l =>
          rw [setCellsK_cons] at hK
          split at hK
          · rename_i hlt; exact rowLike_of_size (by have : off < sizeOfObj e.obj := by simpa using hlt
                                                    omega)
          · exact hK.elim
      obtain ⟨ob, ⟨hkb, hK⟩, hrb, hsz, hroom, hcell⟩ := setCellsK_iff _ _ _ _ hro (setCellsK_by _ _ _ _ hK)
      rw [putK_eq] at hK
      refine ⟨_, _, hK, fun B w0 κ ρ w sm hr => ?_⟩
      obtain ⟨ki, rcap, hk, h3, _⟩ := rho_slice hr hs e1
      have h0 := lens sm ⟨_, hr x dx hx⟩ hsrc
      obtain ⟨NEW, q1, q2, q3⟩ := src sm hr h0 hsrc
      obtain ⟨r1, r2⟩ := sm.write (P := P) he hk hown q1 q2 hro hrb hsz hkb hroom hcell
      have := fin (w := w) h3 hr q3 r1
      rw [← h0] at this
      exact ⟨κ, _, _, κ.le_refl, r2, by simp [gam, goInt], .inl this⟩
    · obtain ⟨e, he, hK⟩ := objAt_iff.1 hK
      obtain ⟨hown, hK⟩ := gd_iff.1 hK
      obtain ⟨ob, ⟨hkb, hK⟩, hro, hrb, hsz, hroom, hcell⟩ := overBK_iff (overBK_by hK)
      rw [putK_eq] at hK
      refine ⟨_, _, hK, fun B w0 κ ρ w sm hr => ?_⟩
      obtain ⟨ki, rcap, hk, h3, _⟩ := rho_slice hr hs e1
      have h0 := lens sm ⟨_, hr x dx hx⟩ hsrc
      obtain ⟨NEW, q1, q2, q3⟩ := src sm hr h0 hsrc
      obtain ⟨r1, r2⟩ := sm.write (P := P) he hk hown q1 q2 hro hrb hsz hkb (.inr hroom) hcell
      have := fin (w := w) h3 hr q3 r1
      rw [← h0] at this
      exact ⟨κ, _, _, κ.le_refl, r2, by simp [gam, goInt], .inl this⟩

end Go.Am

