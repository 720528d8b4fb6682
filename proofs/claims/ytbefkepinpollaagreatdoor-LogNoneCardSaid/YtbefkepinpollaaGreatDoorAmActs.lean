/-
  The operations that act on the heap.
-/
import Derived.Test.YtbefkepinpollaaGreatDoorAmRead
namespace Go.Am
set_option linter.unusedSimpArgs false
set_option linter.unusedVariables false
open Go Go.RowKit
variable {P : Program} {o : Oper}

def ActOK (P : Program) (D : OpD) (o : Oper) : Prop :=
  ∀ fr h K, D fr h K → ∃ av h', K av h' ∧ ∀ B w0 κ ρ w, Sim B w0 κ h w → Rho κ fr ρ →
    ∃ κ' v w', κ.le κ' ∧ Sim B w0 κ' h' w' ∧ gam κ' av = some v ∧ ((execOp ρ o).run P w = .ok (.value v) w' ∨ ((execOp ρ o).run P w = .ok .skip w' ∧ v = undef))
theorem ReadOK.act {D : OpD} (h : ReadOK P D o) : ActOK P D o := fun fr h' K hD =>
  let ⟨av, hK, hr⟩ := h fr h' K hD
  ⟨av, h', hK, fun B w0 κ ρ w s hρ => let ⟨v, h1, h2⟩ := hr B w0 κ ρ w s hρ; ⟨κ, v, w, κ.le_refl, s, h1, .inl h2⟩⟩

/-! ### new rows -/
theorem trieK_eq : ∀ (l : List AV) (i : Nat) (t : V1) (k : V1 → Prop), trieK l i t k → ∃ t', k t' ∧ ∀ j, t'.getP (fpos j) = if i ≤ j ∧ j < i + l.length then l[j - i]? else t.getP (fpos j)
  | [], i, t, k, h => ⟨t, h, fun j => by simp; omega⟩
  | v :: l, i, t, k, h => by
    rw [trieK_cons, V1.updPK_eq] at h
    obtain ⟨t', h1, h2⟩ := trieK_eq l (i + 1) _ k h
    refine ⟨t', h1, fun j => ?_⟩
    rw [h2]
    by_cases hj : i + 1 ≤ j ∧ j < i + 1 + l.length
    · rw [if_pos hj, if_pos (by simp; omega), show j - i = (j - (i + 1)) + 1 by omega]; simp
    · rw [if_neg hj]
      by_cases hi : j = i
      · subst hi
        rw [V1.getP_upd_self, if_pos (by simp)]; simp
      · rw [V1.getP_upd_ne _ _ _ _ (fun e => hi (fpos_inj e).symm), if_neg (by simp; omega)]
theorem packAV_get : ∀ (l : List AV) (x : Nat), packAV l = some x → ∀ j, j < l.length → l[j]? = some (.int .u8 (Int.ofNat (byteAt x j)))
  | [], x, h, j, hj => by simp at hj
  | v :: l, x, h, j, hj => by
    simp only [packAV] at h
    split at h
    · rename_i b
      split at h
      · rename_i hb
        have hb' : b < 256 := by simpa using hb
        simp only [Option.map_eq_some_iff] at h
        obtain ⟨y, h1, rfl⟩ := h
        cases j with
        | zero => simp [byteAt_zero]; omega
        | succ j =>
          have := packAV_get l y h1 j (by simpa using hj)
          rw [byteAt_succ, show (b + 256 * y) / 256 = y by omega]
          simpa using this
      · cases h
    · cases h
theorem cellAt_byts (n x j : Nat) : cellAt (.byts n x) j = if j < n then some (.int .u8 (Int.ofNat (byteAt x j))) else none := by
  simp only [cellAt]
  by_cases h : j < n
  · have : Nat.blt j n = true := by simpa using h
    rw [this, if_pos h]
  · have : Nat.blt j n = false := by rw [Bool.eq_false_iff]; simpa using h
    rw [this, if_neg h]
theorem cellAt_big (n : Nat) (t : V1) (d : List AV) (j : Nat) : cellAt (.big n t d) j = if j < n then (match t.getP (fpos j) with | some v => some v | none => d[j % d.length]?) else none := by
  simp only [cellAt, getL_eq]
  by_cases h : j < n
  · have : Nat.blt j n = true := by simpa using h
    rw [this, if_pos h]
    show Option.rec (motive := fun _ => Option AV) d[j % d.length]? some (t.getP (fpos j)) = _
    cases t.getP (fpos j) <;> rfl
  · have : Nat.blt j n = false := by rw [Bool.eq_false_iff]; simpa using h
    rw [this, if_neg h]
theorem cellAt_lt {ob : AObj} {j : Nat} {v : AV} (h : cellAt ob j = some v) : j < sizeOfObj ob := by
  cases ob with
  | row cs => simp only [cellAt, getL_eq] at h; exact (List.getElem?_eq_some_iff.1 h).1
  | big n t d => rw [cellAt_big] at h; split at h <;> simp_all [sizeOfObj]
  | byts n x => rw [cellAt_byts] at h; split at h <;> simp_all [sizeOfObj]
  | _ => simp [cellAt] at h
theorem rowK_iff {u8 : Bool} {cs : List AV} {k : AObj → Prop} (h : rowK u8 cs k) : ∃ ob, k ob ∧ rowLike ob ∧ sizeOfObj ob = cs.length ∧ ∀ j, cellAt ob j = cs[j]? := by
  cases u8 with
  | true =>
    obtain ⟨x, hx, h⟩ := asOpt_iff.1 (show asOpt (packAV cs) _ from h)
    simp only [forceN_eq] at h
    refine ⟨_, h, trivial, rfl, fun j => ?_⟩
    rw [cellAt_byts]
    split
    · rename_i hj; exact (packAV_get cs x hx j hj).symm
    · rename_i hj; rw [List.getElem?_eq_none (by omega)]
  | false =>
    have h' : Bool.rec (motive := fun _ => Prop) (trieK cs 0 .lf fun t => forceN cs.length fun n => k (.big n t [])) (k (.row cs)) (Nat.ble cs.length 24) := h
    cases hb : Nat.ble cs.length 24 with
    | true => rw [hb] at h'; exact ⟨.row cs, h', trivial, rfl, fun j => by simp [cellAt, getL_eq]⟩
    | false =>
      rw [hb] at h'
      obtain ⟨t, h1, h2⟩ := trieK_eq _ _ _ _ h'
      rw [forceN_eq] at h1
      refine ⟨_, h1, trivial, rfl, fun j => ?_⟩
      rw [cellAt_big, h2]
      by_cases hj : j < cs.length
      · rw [if_pos hj, if_pos (by omega)]
        simp only [Nat.sub_zero]
        rw [List.getElem?_eq_getElem hj]
      · rw [if_neg hj, List.getElem?_eq_none (by omega)]
theorem repL_get {α : Type} [Inhabited α] (d : List AV) : ∀ (n j : Nat), (repL d n)[j]? = if j < n * d.length then d[j % d.length]? else none
  | 0, j => by simp [repL]
  | n + 1, j => by
    simp only [repL, List.getElem?_append, repL_get (α := α) d n]
    by_cases h : j < d.length
    · rw [if_pos h, if_pos (by rw [Nat.succ_mul]; omega), Nat.mod_eq_of_lt h]
    · rw [if_neg h]
      by_cases h2 : j - d.length < n * d.length
      · rw [if_pos h2, if_pos (by rw [Nat.succ_mul]; omega), ← Nat.mod_eq_sub_mod (by omega)]
      · rw [if_neg h2, if_neg (by rw [Nat.succ_mul]; omega)]
theorem repL_length (d : List AV) : ∀ n, (repL d n).length = n * d.length
  | 0 => by simp [repL]
  | n + 1 => by simp [repL, repL_length d n, Nat.succ_mul]; omega
theorem zerosK_iff {u8 : Bool} {n : Nat} {d : List AV} {k : AObj → Prop} (hu : u8 = true → d = [.int .u8 (.ofNat 0)]) (h : zerosK u8 n d k) :
    ∃ ob, k ob ∧ rowLike ob ∧ sizeOfObj ob = n * d.length ∧ ∀ j, cellAt ob j = (repL d n)[j]? := by
  cases u8 with
  | true =>
    have hd := hu rfl; subst hd
    refine ⟨_, h, trivial, by simp [sizeOfObj], fun j => ?_⟩
    rw [repL_get (α := Unit), cellAt_byts]
    simp only [List.length_singleton, Nat.mul_one, Nat.mod_one]
    split <;> simp [byteAt]
  | false =>
    have h' : Bool.rec (motive := fun _ => Prop) (forceN (n * d.length) fun n => k (.big n .lf d)) (k (.row (repL d n))) (Nat.ble (n * d.length) 24) := h
    cases hb : Nat.ble (n * d.length) 24 with
    | true => rw [hb] at h'; exact ⟨_, h', trivial, by simp [sizeOfObj, repL_length], fun j => by simp [cellAt, getL_eq]⟩
    | false =>
      rw [hb] at h'
      simp only [forceN_eq] at h'
      exact ⟨_, h', trivial, rfl, fun j => by rw [cellAt_big, V1.getP_lf, repL_get (α := Unit)]⟩
/-- A row whose cells are some values of the model's lies in a new block. -/
theorem rowSim_new {κ : Kap} {ob : AObj} {cs : List AV} {C : Array Value} (hsz : sizeOfObj ob = cs.length) (hc : ∀ j, cellAt ob j = cs[j]?) (hg : gams κ cs = some C.toList) (h1 : C.toList.all Value.oneCell' = true)
    (rest : Array Value) (t : TypeId) (esz cap b : Nat) (hcap : cap * esz ≤ (C ++ rest).size) : RowSim κ ob esz ⟨b, 0, cap⟩ (some (.cells (C ++ rest) t)) := by
  refine ⟨_, t, (0, 0), rfl, by simpa using hcap, Or.inl rfl, fun j hj => ⟨_, (hc j).trans (List.getElem?_eq_getElem (hsz ▸ hj))⟩, fun j v hv => ?_⟩
  rw [hc] at hv
  obtain ⟨V, g1, g2⟩ := gams_get _ _ _ _ hg hv
  refine ⟨V, g1, (List.all_eq_true.1 h1) V (List.mem_of_getElem? g2), ?_⟩
  have hj : j < C.size := by simpa using (List.getElem?_eq_some_iff.1 g2).1
  simp only [Nat.zero_add]
  rw [Array.getElem?_append_left hj]
  simpa using g2

theorem newK_eq (h : Hp) (e : Ent) (k : Nat → Hp → Prop) : newK h e k = k h.next ⟨E1.updP (some e) (npos h.next) h.objs, h.next + 1⟩ := by
  simp only [newK, E1.updPK_eq, forceN_eq]
theorem putK_eq (h : Hp) (p : Nat) (e : Option Ent) (k : Hp → Prop) : putK h p e k = k ⟨E1.updP e (npos p) h.objs, h.next⟩ := by
  simp only [putK, E1.updPK_eq]

theorem box_core {fr : Fr} {h : Hp} {K : AV → Hp → Prop} {x : AV} {n : Nat} (hD : asCells x fun l => gd (Nat.beq l.length n) (rowK false l fun ob => newK h ⟨true, n, ob⟩ fun o h => K (.ptr o 0) h)) :
    ∃ av h', K av h' ∧ ∀ B w0 κ w (t : TypeId) V, Sim B w0 κ h w → gam κ x = some V → ∃ κ', κ.le κ' ∧ Sim B w0 κ' h' (w.alloc (.cells V.cells t)) ∧ gam κ' av = some (.pointer (some ⟨w.heap.size, 0, none⟩)) := by
  obtain ⟨l, hD, hl⟩ := asCells_iff hD
  obtain ⟨hn, hD⟩ := gd_iff.1 hD
  obtain ⟨ob, hD, hro, hsz, hcell⟩ := rowK_iff hD
  rw [newK_eq] at hD
  refine ⟨_, _, hD, fun B w0 κ w t V s hV => ?_⟩
  obtain ⟨g1, g2⟩ := hl κ V hV
  refine ⟨κ.set h.next ⟨w.heap.size, 0, 0⟩, Kap.le_set s.none_next, s.new n 0 ob _ ?_, by simp [gam, Kap.set_self, Ki.at]⟩
  rw [objSim_row hro]
  have := rowSim_new hsz hcell g1 g2 #[] t n 0 w.heap.size (by simp)
  simpa using this
theorem ok_box {t : TypeId} {n : Nat} {x : Operand} {dx : Opd} (hx : opd x = some dx) (ho : o.op = .box t x) : ActOK P (oBox n dx) o := by
  intro fr h K hD
  obtain ⟨av, h', hK, hr⟩ := box_core (fr := fr) hD
  refine ⟨av, h', hK, fun B w0 κ ρ w s hρ => ?_⟩
  obtain ⟨κ', h1, h2, h3⟩ := hr B w0 κ w t _ s (hρ x dx hx)
  exact ⟨κ', _, _, h1, h2, h3, .inl (by simp [execOp, ho, Instr.box, newVar, newRow])⟩
theorem ok_alloc {t : TypeId} {n : Nat} {i : TypeInfo} {z : Value} {av0 : AV} (ho : o.op = .alloc t) (hi : P.info? t = some i) (hz : i.zero = some z) (hav : ∀ κ, gam κ av0 = some z) : ActOK P (oBox n (konst av0)) o := by
  intro fr h K hD
  obtain ⟨av, h', hK, hr⟩ := box_core (fr := fr) hD
  refine ⟨av, h', hK, fun B w0 κ ρ w s hρ => ?_⟩
  obtain ⟨κ', h1, h2, h3⟩ := hr B w0 κ w t z s (hav κ)
  exact ⟨κ', _, _, h1, h2, h3, .inl (by simp [execOp, ho, Instr.alloc, zeroValue, typeInfo, hi, hz, newVar, newRow])⟩
/-- What is known of an element type. -/
structure ElemOK (P : Program) (e : TypeId) (n b : Nat) (u8 : Bool) (z : List AV) where
  i : TypeInfo
  Z : Value
  info : P.info? e = some i
  zero : i.zero = some Z
  size : i.size = n
  bytes : i.bytes = b
  len : z.length = n
  gam : ∀ κ, gams κ z = some Z.cells.toList
  one : Z.cells.toList.all Value.oneCell' = true
  byte : u8 = true → z = [.int .u8 (.ofNat 0)] ∧ P.underlying e = some (.int .u8)
theorem ElemOK.cells {P : Program} {e : TypeId} {n b : Nat} {u8 : Bool} {z : List AV} (E : ElemOK P e n b u8 z) : E.Z.cells.size = n := by
  have := gams_length _ _ (E.gam fun _ => none)
  rw [E.len] at this; simpa using this
theorem gams_rep {κ : Kap} {d : List AV} {D : List Value} (h : gams κ d = some D) : ∀ n, gams κ (repL d n) = some ((List.replicate n D).flatten)
  | 0 => rfl
  | n + 1 => by rw [repL, List.replicate_succ, List.flatten_cons]; exact gams_append _ _ _ _ h (gams_rep h n)
theorem rep_get (D : List Value) : ∀ (n j : Nat), ((List.replicate n D).flatten)[j]? = if j < n * D.length then D[j % D.length]? else none
  | 0, j => by simp
  | n + 1, j => by
    rw [List.replicate_succ, List.flatten_cons, List.getElem?_append, rep_get D n]
    by_cases h : j < D.length
    · rw [if_pos h, if_pos (by rw [Nat.succ_mul]; omega), Nat.mod_eq_of_lt h]
    · rw [if_neg h]
      by_cases h2 : j - D.length < n * D.length
      · rw [if_pos h2, if_pos (by rw [Nat.succ_mul]; omega), ← Nat.mod_eq_sub_mod (by omega)]
      · rw [if_neg h2, if_neg (by rw [Nat.succ_mul]; omega)]
theorem rep_range (D : Array Value) (n : Nat) : ((Array.range (n * D.size)).map (D[· % D.size]!)).toList = (List.replicate n D.toList).flatten := by
  apply List.ext_getElem?
  intro j
  rw [rep_get]
  simp only [Array.toList_map, Array.toList_range, List.getElem?_map, Array.length_toList]
  by_cases h : j < n * D.size
  · rw [List.getElem?_range h, if_pos h]
    have hp : 0 < D.size := by
      rcases Nat.eq_zero_or_pos D.size with h0 | h0
      · simp [h0] at h
      · exact h0
    have := Nat.mod_lt j hp
    simp [this]
  · rw [if_neg h, List.getElem?_eq_none (by simpa using h)]; rfl
theorem rep_all {D : List Value} (h : D.all Value.oneCell' = true) (n : Nat) : ((List.replicate n D).flatten).all Value.oneCell' = true := by
  rw [List.all_eq_true] at *
  intro v hv
  obtain ⟨l, hl, hv⟩ := List.mem_flatten.1 hv
  rw [List.eq_of_mem_replicate hl] at hv
  exact h v hv
theorem ok_bslice {t e : TypeId} {n b len : Nat} {u8 : Bool} {z : List AV} {parts : Array (Nat × Operand)} {ap : List (Nat × Nat × Opd)} (ho : o.op = .buildSlice t len parts) (ht : P.underlying t = some (.slice e))
    (E : ElemOK P e n b u8 z) (hle : len * n ≤ 2 ^ 24) (hp : partsOf (fun i => some (i * n, n)) parts.toList = some ap) : ActOK P (oBslice n len u8 z ap) o := by
  intro fr h K hD
  obtain ⟨cs, hD, hlen, hrest⟩ := fillK_ok _ fr _ _ _ _ hp hD
  obtain ⟨ob, hD, hro, hsz, hcell⟩ := rowK_iff hD
  rw [newK_eq] at hD
  refine ⟨_, _, hD, fun B w0 κ ρ w s hr => ?_⟩
  have hzl := E.cells
  obtain ⟨CS, f1, f2, f3⟩ := hrest κ ρ hr ((List.replicate len E.Z.cells.toList).flatten.toArray) (by simpa using gams_rep (E.gam κ) len) (by simpa using rep_all E.one len)
  refine ⟨κ.set h.next ⟨w.heap.size, 0, 0⟩, .slice (some ⟨w.heap.size, 0, none⟩) len len, _, Kap.le_set s.none_next, s.new n 0 ob (.cells CS e) ?_, ?_, .inl ?_⟩
  · rw [objSim_row hro]
    have := rowSim_new hsz hcell f2 f3 #[] e n 0 w.heap.size (by simp)
    simpa using this
  · simp [gam, Kap.set_self, Ki.at]
  · have hz : (Array.range (len * n)).map (E.Z.cells[· % E.Z.cells.size]!) = (List.replicate len E.Z.cells.toList).flatten.toArray := by
      apply Array.toList_inj.1
      have e9 : Array.range (len * n) = Array.range (len * E.Z.cells.size) := by rw [hzl]
      rw [e9]
      exact rep_range _ _
    have hnot : ¬ (2 ^ 24 < len * n) := by omega
    by_cases h0 : len * n = 0
    · have he : (List.replicate len E.Z.cells.toList).flatten.toArray = #[] := by
        apply Array.toList_inj.1
        apply List.eq_nil_of_length_eq_zero
        have := gams_length _ _ (gams_rep (E.gam κ) len)
        rw [repL_length, E.len] at this
        simpa [h0] using this
      rw [he] at f1
      simp [execOp, ho, Instr.buildSlice, run_underlying ht, sizeOf, typeInfo, E.info, E.size, hnot, h0, f1, newRow]
      have e2 : Instr.fill (fun i => some (i * n, n)) #[] (List.map (fun x => (x.1, ρ x.2)) parts.toList) = some CS := f1
      simp [Array.range_zero', e2]
    · simp [execOp, ho, Instr.buildSlice, run_underlying ht, sizeOf, typeInfo, E.info, E.size, hnot, h0, zeroValue, E.zero, hz, f1, newRow]

end Go.Am
