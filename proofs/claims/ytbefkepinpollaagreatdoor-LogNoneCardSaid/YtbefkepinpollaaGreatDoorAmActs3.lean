/-
  Stores, new slices, bytes, appends.
-/
import Derived.Test.YtbefkepinpollaaGreatDoorAmActs2
namespace Go.Am
set_option linter.unusedSimpArgs false
set_option linter.unusedVariables false
open Go Go.RowKit
variable {P : Program} {o : Oper}

theorem rowLike_of_size {ob : AObj} (h : 0 < sizeOfObj ob) : rowLike ob := by
  cases ob <;> first | trivial | (simp [sizeOfObj] at h)
theorem ok_store {t : TypeId} {n : Nat} {a x : Operand} {da dx : Opd} (ha : opd a = some da) (hx : opd x = some dx) (ho : o.op = .store t a x) (hn : szOf P t = some (n + 1)) : ActOK P (oStore (n + 1) da dx) o := by
  intro fr h K hD
  obtain ⟨p, off, e1, hD⟩ := asPtr_iff.1 hD
  obtain ⟨e, he, hD⟩ := objAt_iff.1 hD
  obtain ⟨l, hD, hl⟩ := asCells_iff hD
  obtain ⟨hb, hD⟩ := gd_iff.1 hD
  simp only [Bool.and_eq_true, Nat.beq_eq] at hb
  have hro : rowLike e.obj := by
    cases l with
    | nil => simp at hb
    | cons v l =>
      rw [setCellsK_cons] at hD
      split at hD
      · rename_i h1
        exact rowLike_of_size (by have : off < sizeOfObj e.obj := by simpa using h1
                                  omega)
      · exact hD.elim
  obtain ⟨ob, hD, hrb, hsz, hroom, hcell⟩ := setCellsK_iff _ _ _ _ hro hD
  rw [putK_eq] at hD
  refine ⟨_, _, hD, fun B w0 κ ρ w s hr => ?_⟩
  obtain ⟨ki, hk, h3⟩ := rho_ptr hr ha e1
  obtain ⟨g1, g2⟩ := hl κ _ (hr x dx hx)
  obtain ⟨r1, r2⟩ := s.write (P := P) he hk hb.1 g1 g2 hro hrb hsz hroom hcell
  refine ⟨κ, undef, _, κ.le_refl, r2, by simp [gam, gams, undefV, undef], .inr ⟨?_, rfl⟩⟩
  have hc : (ρ x).cells.size = n + 1 := by have := gams_length _ _ g1; simp at this; omega
  simp [execOp, ho, Instr.storeAt, h3, Instr.sureAddr, storeVar, szRun hn, hc, r1]

theorem ok_toBytes {s t e : TypeId} {x : Operand} {dx : Opd} (hx : opd x = some dx) (ho : o.op = .convert s t x) (hs : P.underlying s = some .string) (ht : P.underlying t = some (.slice e)) (he : P.underlying e = some (.int .u8)) : ActOK P (oToBytes dx) o := by
  intro fr h K hD
  obtain ⟨n, z, e1, hD⟩ := asStr_iff.1 hD
  rw [newK_eq] at hD
  refine ⟨_, _, hD, fun B w0 κ ρ w sm hr => ?_⟩
  obtain ⟨_, h3⟩ := rho_str hr hx e1
  have hrun := run_bytes_of_string (P := P) w s t e (strOf n z) hs ht he
  rw [strOf_size] at hrun
  have hge := grownCap_ge w n 0 e
  generalize hC : grownCap w n 0 e = cap at hrun hge
  have hbs : (bytesRow (strOf n z) cap).size = cap := by
    have e4 : (strOf n z).data.size = n := by have := strOf_size n z; exact this
    simp only [bytesRow, Array.size_append, Array.size_map, Array.size_replicate, strOf_size, e4]; omega
  refine ⟨κ.set h.next ⟨w.heap.size, 0, cap⟩, .slice (some ⟨w.heap.size, 0, none⟩) n cap, _, Kap.le_set sm.none_next, (sm.drew).new 1 cap (.byts n z) (.cells (bytesRow (strOf n z) cap) e ((bytesRow (strOf n z) cap).size, (bytesRow (strOf n z) cap).size + 1)) ?_, ?_, .inl ?_⟩
  · refine ⟨_, e, _, rfl, by simp [hbs], Or.inr ⟨Nat.le_refl _, rfl⟩, fun j hj => ⟨_, by rw [cellAt_byts, if_pos (show j < n from hj)]⟩, fun j v hv => ?_⟩
    rw [cellAt_byts] at hv
    split at hv
    · rename_i hj
      cases hv
      refine ⟨.int .u8 (byteAt z j), by simp [gam], rfl, ?_⟩
      have hjd : j < (strOf n z).data.size := by have := strOf_size n z; show j < (strOf n z).size; omega
      have hb := bytesRow_at (strOf n z) cap j hjd
      simp only [Nat.zero_add]
      rw [hb]
      have hg := bytesL_get n z j
      rw [if_pos hj, ← strOf_data, Array.getElem?_toList, Array.getElem?_eq_getElem hjd] at hg
      injection hg with hg
      rw [hg, toNat_byteAt]
    · cases hv
  · simp [gam, Kap.set_self, Ki.at, hge]
  · simp only [execOp, ho, h3, Sem.run_bind, hrun, Result.andThen_ok, Sem.run_pure]

theorem ok_mkSlice {t e : TypeId} {n b : Nat} {u8 : Bool} {z : List AV} {l c : Operand} {dl dc : Opd} (hl : opd l = some dl) (hc : opd c = some dc) (ho : o.op = .makeSlice t l c) (ht : P.underlying t = some (.slice e)) (E : ElemOK P e n b u8 z) : ActOK P (oMkSlice n b u8 z dl dc) o := by
  intro fr h K hD
  obtain ⟨kl, L, e1, hD⟩ := asNat_iff.1 hD
  obtain ⟨kc, C, e2, hD⟩ := asNat_iff.1 hD
  obtain ⟨hb, hD⟩ := gd_iff.1 hD
  simp only [Bool.and_eq_true, Nat.ble_eq] at hb
  simp only [forceN_eq] at hD
  obtain ⟨ob, hD, hro, hsz, hcell⟩ := zerosK_iff (fun hu => (E.byte hu).1) hD
  rw [newK_eq] at hD
  refine ⟨_, _, hD, fun B w0 κ ρ w sm hr => ?_⟩
  have h1 := rho_int hr hl e1
  have h2 := rho_int hr hc e2
  have hcb : ((C * b : Nat) : Int) ≤ 281474976710656 := by omega
  rw [Int.natCast_mul] at hcb
  have hrun := run_make (P := P) w t e E.i E.Z ht E.info E.zero kl kc (L : Int) (C : Int) (by omega) (by omega) (by rw [E.bytes, Int.mul_comm]; exact hcb) (by omega)
  refine ⟨κ.set h.next ⟨w.heap.size, 0, 0⟩, .slice (some ⟨w.heap.size, 0, none⟩) L C, _, Kap.le_set sm.none_next, sm.new n 0 ob (.cells (madeCells E.Z.cells (C * n)) e) ?_, ?_, .inl ?_⟩
  · rw [objSim_row hro]
    have hm : (madeCells E.Z.cells (C * n)).toList = (List.replicate C E.Z.cells.toList).flatten := by
      have e9 : Array.range (C * n) = Array.range (C * E.Z.cells.size) := by rw [E.cells]
      unfold madeCells
      rw [e9]
      exact rep_range _ _
    have := rowSim_new (κ := κ) (C := madeCells E.Z.cells (C * n)) (by rw [hsz, repL_length]) hcell (by rw [hm]; exact gams_rep (E.gam _) C) (by rw [hm]; exact rep_all E.one C) #[] e n 0 w.heap.size (by rw [Nat.zero_mul]; exact Nat.zero_le _)
    rw [Array.append_empty] at this
    exact this
  · simp [gam, Kap.set_self, Ki.at, hb.1]
  · simp only [execOp, ho, h1, h2, Sem.run_bind]
    have hrun' : (Instr.makeSlice t (.int kl (Int.ofNat L)) (.int kc (Int.ofNat C))).run P w = _ := hrun
    rw [hrun', E.size]
    rfl

theorem freeze_last (w : World) (b : Nat) {c : Array Value} {t : TypeId} {fr : Nat × Nat} (h : w.heap[b]? = some (.cells c t fr)) (hf : fr.1 = fr.2 ∨ c.size ≤ fr.1) :
    ∃ fr', (w.freeze ⟨b, c.size, none⟩ 1).heap[b]? = some (.cells c t fr') ∧ (fr'.1 = fr'.2 ∨ c.size ≤ fr'.1) ∧ (w.freeze ⟨b, c.size, none⟩ 1).heap.size = w.heap.size ∧
      (∀ k, k ≠ b → (w.freeze ⟨b, c.size, none⟩ 1).heap[k]? = w.heap[k]?) ∧ (w.freeze ⟨b, c.size, none⟩ 1).os = w.os ∧ (w.freeze ⟨b, c.size, none⟩ 1).tape = w.tape ∧ (w.freeze ⟨b, c.size, none⟩ 1).output = w.output := by
  obtain ⟨lo, hi⟩ := fr
  refine ⟨if lo == hi then (c.size, c.size + 1) else (min lo c.size, max hi (c.size + 1)), ?_, ?_, ?_, ?_, rfl, rfl, rfl⟩
  · simp [World.freeze, Array.getElem?_modify, h]
  · by_cases e : lo = hi
    · simp [e]
    · have : (lo == hi) = false := by simpa using e
      rw [this]
      simp only [Bool.false_eq_true, if_false]
      simp only at hf
      right; omega
  · simp [World.freeze]
  · intro k hk
    simp [World.freeze, Array.getElem?_modify, Ne.symm hk]
theorem ok_strish {t e e' : TypeId} {x : Operand} {dx : Opd} (hx : opd x = some dx) (ho : o.op = .convert t t x) (ht : P.underlying t = some (.slice e)) (he : P.underlying e = some (.int .u8)) : ActOK P (oStrish dx) o := by
  intro fr h K hD
  rcases asSl_iff.1 hD with ⟨_, hD⟩ | ⟨p, off, n, kn, c, e1, hD⟩
  · exact hD.elim
  obtain ⟨en, hg, hD⟩ := objAt_iff.1 hD
  obtain ⟨hown, hD⟩ := gd_iff.1 hD
  simp only [Bool.and_eq_true, Nat.beq_eq] at hown
  obtain ⟨hown, hsz1⟩ := hown
  obtain ⟨m, z, hob, hD⟩ := asByts_iff hD
  refine ⟨_, _, hD, fun B w0 κ ρ w s hr => ?_⟩
  have hv := hr x dx hx
  rw [e1] at hv
  obtain ⟨ki, cap, hk, h3, _⟩ := rho_slice hr hx e1
  obtain ⟨ki', q1, ca, ty, fr, q2, q3, q4, q5, q6⟩ := s.row hg (by rw [hob]; trivial)
  rw [hk] at q1; cases q1
  obtain ⟨fr', f1, f2, f3, f4, f5, f6, f7⟩ := freeze_last w ki.blk q2 (q4.imp id And.left)
  have hB : B ≤ ki.blk := by
    obtain ⟨ki', q1, q2, _, _⟩ := s.obj p en hg
    rw [hk] at q1; cases q1; exact q2 hown
  refine ⟨κ, _, w.freeze ⟨ki.blk, ca.size, none⟩ 1, κ.le_refl, s.touch hg hk hown ⟨f5, f6, f7, by rw [f3]; exact Nat.le_refl _, fun k hkb => f4 k (by omega)⟩ f3 f4 ?_, hv, .inl ?_⟩
  · rw [objSim_row (by rw [hob]; trivial), f1]
    exact ⟨ca, ty, fr', rfl, q3, f2.imp id fun x => ⟨x, hsz1⟩, q5, q6⟩
  · have hsh : w.shape? ki.blk = some (ty, ca.size) := by simp [World.shape?, q2]
    simp [execOp, ho, h3, convert, run_underlying ht, run_underlying he, markStringish, Ki.at, hsh]

end Go.Am
