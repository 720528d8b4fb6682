/-
  Strings ranged over: the iterator and its steps, where the signs are of one byte.
-/
import Derived.Test.YtbefkepinpollaaGreatDoorAmMap
import Derived.Laws.RangeString
namespace Go.Am
set_option linter.unusedSimpArgs false
set_option linter.unusedVariables false
open Go Go.RowKit
variable {P : Program} {o : Oper}

theorem ok_rangeS {t : TypeId} {x : Operand} {dx : Opd} (hx : opd x = some dx) (ho : o.op = .range t x) (ht : P.underlying t = some .string) : ActOK P (oRangeS dx) o := by
  intro fr h K hD
  obtain ⟨n, z, e1, hD⟩ := asStr_iff.1 hD
  rw [newK_eq] at hD
  refine ⟨_, _, hD, fun B w0 κ ρ w s hr => ?_⟩
  obtain ⟨hz, h3⟩ := rho_str hr hx e1
  refine ⟨κ.set h.next ⟨w.heap.size, 0, 0⟩, _, _, Kap.le_set s.none_next, s.new 0 0 (.sit n z 0) (.stringIter (strOf n z) 0) ⟨rfl, hz, rfl⟩, by simp only [gam, Kap.set_self]; rfl, .inl ?_⟩
  simp [execOp, ho, Instr.range, run_underlying ht, h3, Ki.at]
theorem asSit_iff {ob : AObj} {k : Nat → Nat → Nat → Prop} (h : asSit ob k) : ∃ n z p, ob = .sit n z p ∧ k n z p := by
  cases ob <;> simp only [asSit] at h
  exact ⟨_, _, _, rfl, h⟩
theorem run_getObj_sit {w : World} {r : Nat} {s : ByteArray} {p : Nat} (hb : w.heap[r]? = some (.stringIter s p)) : (getObj r).run P w = .ok (.stringIter s p) w := by simp [getObj, Sem.run, hb]
theorem run_setObj_sit {w : World} {r : Nat} {s : ByteArray} {p : Nat} (ob : Obj) (hb : w.heap[r]? = some (.stringIter s p)) : (setObj r ob).run P w = .ok () { w with heap := w.heap.setIfInBounds r ob } := by simp [setObj, Sem.run, hb]
theorem sit_byte {n z pos : Nat} (hp : pos < n) : ∃ h : pos < (strOf n z).size, ((strOf n z)[pos]'h).toNat = byteAt z pos := by
  have hs : pos < (strOf n z).size := by rw [strOf_size]; exact hp
  refine ⟨hs, ?_⟩
  show ((strOf n z).data[pos]'_).toNat = _
  have : (strOf n z).data[pos]? = some (UInt8.ofNat (byteAt z pos)) := by
    simp [strOf, bytesL, hp]
  have h2 := (Array.getElem?_eq_some_iff.1 this).2
  rw [h2]
  have : byteAt z pos < 256 := by unfold byteAt; omega
  simp; omega
theorem ok_nextS {x : Operand} {dx : Opd} (hx : opd x = some dx) (ho : o.op = .next x true) : ActOK P (oNextS dx) o := by
  intro fr h K hD
  obtain ⟨p, off, e1, hD⟩ := asPtr_iff.1 hD
  obtain ⟨hoff, hD⟩ := gd_iff.1 hD
  obtain ⟨e, he, hD⟩ := objAt_iff.1 hD
  obtain ⟨hown, hD⟩ := gd_iff.1 hD
  obtain ⟨n, z, pos, hob, hD⟩ := asSit_iff hD
  have hoff' : off = 0 := by simpa using hoff
  rw [hoff'] at e1
  cases hb : Nat.blt pos n with
  | false =>
    rw [hb] at hD
    have hn : ¬ pos < n := by intro hlt; rw [show Nat.blt pos n = true by simpa using hlt] at hb; cases hb
    refine ⟨_, _, hD, fun B w0 κ ρ w s hr => ?_⟩
    obtain ⟨ki, hk, h3⟩ := rho_ptr hr hx e1
    obtain ⟨ki', hk', _, _, h4⟩ := s.obj p e he
    rw [hk] at hk'; cases hk'
    rw [hob] at h4
    obtain ⟨h5, h6, h7⟩ := h4
    refine ⟨κ, .tuple #[.bool false], w, κ.le_refl, s, by simp [gam, gams], .inl ?_⟩
    simp [execOp, ho, Instr.next, h3, Ki.at, h5, run_getObj_sit h7, strOf_size, hn]
  | true =>
    rw [hb] at hD
    have hp : pos < n := by simpa using hb
    simp only [forceN_eq] at hD
    have key : ∀ (c q : Nat), Utf8.decode (strOf n z) pos = (c, q) → putK h p (some ⟨true, e.esz, .sit n z (pos + q)⟩) (fun h => K (.tup [.bool true, .int .i64 (.ofNat pos), .int .i32 (.ofNat c)]) h) →
        ∃ av h', K av h' ∧ ∀ B w0 (κ : Kap) (ρ : Operand → Value) (w : World), Sim B w0 κ h w → Rho κ fr ρ → ∃ κ' v w', κ.le κ' ∧ Sim B w0 κ' h' w' ∧ gam κ' av = some v ∧ ((execOp ρ o).run P w = .ok (.value v) w' ∨ ((execOp ρ o).run P w = .ok .skip w' ∧ v = undef)) := by
      intro c q hdec hD
      rw [putK_eq] at hD
      refine ⟨_, _, hD, fun B w0 κ ρ w s hr => ?_⟩
      obtain ⟨ki, hk, h3⟩ := rho_ptr hr hx e1
      obtain ⟨ki', hk', hB', _, h4⟩ := s.obj p e he
      rw [hk] at hk'; cases hk'
      have hB := hB' hown
      rw [hob] at h4
      obtain ⟨h5, h6, h7⟩ := h4
      have hbel : Below B w { w with heap := w.heap.setIfInBounds ki.blk (.stringIter (strOf n z) (pos + q)) } := ⟨rfl, rfl, rfl, by simp, fun k hk' => setBlock_other w ki.blk k (by omega) _⟩
      refine ⟨κ, .tuple #[.bool true, .int .i64 pos, .int .i32 c], _, κ.le_refl, s.put he hk hown hbel (by simp) (fun b hb => setBlock_other w ki.blk b hb _) (.sit n z (pos + q)) ⟨h5, h6, ?_⟩, by simp [gam, gams], .inl ?_⟩
      · have := (Array.getElem?_eq_some_iff.1 h7).1
        simp [Array.getElem?_setIfInBounds, this]
      · simp [execOp, ho, Instr.next, h3, Ki.at, h5, run_getObj_sit h7, strOf_size, hp, hdec, run_setObj_sit _ h7, goInt]
    cases hlt : Nat.blt (byteAt z pos) 128 with
    | true =>
      rw [hlt] at hD
      have hlt' : byteAt z pos < 128 := by simpa using hlt
      obtain ⟨hs, hby⟩ := sit_byte (n := n) (z := z) hp
      have hdec := decode_ascii (strOf n z) pos hs (by rw [hby]; exact hlt')
      rw [hby] at hdec
      exact key _ 1 hdec hD
    | false =>
      rw [hlt] at hD
      exact key _ _ rfl hD
end Go.Am
