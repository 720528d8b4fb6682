/-
  Functions without a body: the search for a byte in a string.
-/
import Derived.Test.YtbefkepinpollaaGreatDoorAmIter
import Derived.Lib.Bytealg
import Derived.Laws.Externs
import Derived.KernelRfl
namespace Go.Am
set_option linter.unusedSimpArgs false
set_option linter.unusedVariables false
open Go Go.RowKit Go.Lib
variable {P : Program} {o : Oper}

theorem lookG : Extern.allGenericRows.lookup "internal/bytealg.IndexByteString" = none := by kernel_rfl
theorem lookT : Extern.allTypedRows.lookup "internal/bytealg.IndexByteString" = none := by kernel_rfl
theorem lookR : Extern.allRows.lookup "internal/bytealg.IndexByteString" = some Extern.BytealgIndexByte.indexByte := by kernel_rfl
theorem lookN : Extern.allNextRows.lookup "internal/bytealg.IndexByteString" = none := by kernel_rfl
theorem lookE : Extern.allNextRows.lookup "" = none := by kernel_rfl
theorem find_idx {fn : Func} (hn : fn.name = "internal/bytealg.IndexByteString") : Extern.find fn = some Extern.BytealgIndexByte.indexByte := by
  unfold Extern.find
  simp only [hn, lookG, lookT, lookR]
  rfl
theorem next_idx {fn : Func} (hn : fn.name = "internal/bytealg.IndexByteString") (ho : fn.origin = "") : Extern.findNext fn = none := by
  unfold Extern.findNext
  simp only [hn, ho, lookN, lookE]
  rfl
theorem idxB_ok (c : Nat) (hc : c < 256) : ∀ (n z i : Nat), indexByte (bytesL n z) c.toUInt8 = (match idxB n z c i with | some j => ((j - i : Nat) : Int) | none => -1) ∧ (∀ j, idxB n z c i = some j → i ≤ j)
  | 0, z, i => by simp [bytesL, idxB, indexByte]
  | n + 1, z, i => by
    have hcons : bytesL (n + 1) z = UInt8.ofNat (z % 256) :: bytesL n (z / 256) := by
      unfold bytesL
      rw [List.range_succ_eq_map, List.map_cons, List.map_map]
      rw [byteAt_zero]
      congr 1
      apply List.map_congr_left
      intro j _
      simp [byteAt_succ]
    obtain ⟨h1, h2⟩ := idxB_ok c hc n (z / 256) (i + 1)
    have hb : (UInt8.ofNat (z % 256) == c.toUInt8) = Nat.beq (z % 256) c := by
      rw [Bool.eq_iff_iff, beq_iff_eq, Nat.beq_eq, ← UInt8.toNat_inj]
      simp
      omega
    rw [hcons]
    simp only [indexByte, idxB, hb]
    cases hbe : Nat.beq (z % 256) c with
    | true => simp
    | false =>
      simp only [Bool.false_eq_true, if_false]
      rw [h1]
      cases hi : idxB n (z / 256) c (i + 1) with
      | none => simp
      | some j =>
        have := h2 j hi
        refine ⟨?_, fun k hk => by simp only [Option.some.injEq] at hk; omega⟩
        have hne : ((((j - (i + 1) : Nat) : Int)) == -1) = false := by rw [beq_eq_false_iff_ne]; omega
        simp only [hne, Bool.false_eq_true, if_false]
        omega
theorem ok_idxB {f : FuncId} {s x : Operand} {ds dx : Opd} {c : Call} (hi : isIdx P f = true) (hs : opd s = some ds) (hx : opd x = some dx) (ho : o.op = .call c) (hc : c.callee = .value (.func f)) (h1 : c.args = #[s, x]) : PureOK P (oIdxB ds dx) o := by
  intro fr h K hD
  obtain ⟨n, z, e1, hD⟩ := asStr_iff.1 hD
  obtain ⟨k, b, e2, hD⟩ := asInt_iff.1 hD
  obtain ⟨hk, hD⟩ := gd_iff.1 hD
  obtain ⟨b, hb0, hD⟩ := natOf_iff.1 hD
  rw [hb0] at e2
  obtain ⟨hlt, hD⟩ := gd_iff.1 hD
  have hk' := kindEq_iff.1 hk
  rw [hk'] at e2
  have hb : b < 256 := by simpa using hlt
  obtain ⟨q1, q2⟩ := idxB_ok b hb n z 0
  have hK : K (.int .i64 (match idxB n z b 0 with | some j => (j : Int) | none => -1)) h := by
    cases hi : idxB n z b 0 with
    | none => rw [hi] at hD; exact hD
    | some j => rw [hi] at hD; simp only [forceN_eq] at hD; exact hD
  refine ⟨_, hK, fun κ ρ w hr => ⟨.int .i64 (match idxB n z b 0 with | some j => (j : Int) | none => -1), rfl, ?_⟩⟩
  obtain ⟨_, h3⟩ := rho_str hr hs e1
  have h4 := rho_int hr hx e2
  have e : ρ (.func f) = .func (.func f) #[] #[] := by
    have := hr (.func f) _ rfl
    simpa [konst, gam, gams] using this.symm
  unfold isIdx at hi
  split at hi
  · rename_i fn hfn
    simp only [Bool.and_eq_true, beq_iff_eq] at hi
    obtain ⟨hb0, hn, hor⟩ := hi
    have hne : (fn.name == "runtime.NumGoroutine") = false := by rw [hn]; decide
    have hcall := run_callFunc_extern hfn hne hb0 (next_idx hn hor) (find_idx hn) #[.string (strOf n z), .int .u8 (b : Int)] w
    rw [run_indexByteString] at hcall
    have hl : (strOf n z).data.toList = bytesL n z := strOf_data n z
    rw [hl] at hcall
    have hv : indexByte (bytesL n z) ((b : Int).toNat.toUInt8) = (match idxB n z b 0 with | some j => (j : Int) | none => -1) := by
      rw [Int.toNat_natCast, q1]; cases idxB n z b 0 <;> simp
    rw [hv] at hcall
    simp [execOp, ho, resolve, hc, e, Deferred.ofValue, invoke, h1, h3, h4, hcall]
  · cases hi
theorem lookGc : Extern.allGenericRows.lookup "internal/bytealg.CountString" = none := by kernel_rfl
theorem lookTc : Extern.allTypedRows.lookup "internal/bytealg.CountString" = none := by kernel_rfl
theorem lookRc : Extern.allRows.lookup "internal/bytealg.CountString" = some Extern.BytealgCount.count := by kernel_rfl
theorem lookNc : Extern.allNextRows.lookup "internal/bytealg.CountString" = none := by kernel_rfl
theorem find_cnt {fn : Func} (hn : fn.name = "internal/bytealg.CountString") : Extern.find fn = some Extern.BytealgCount.count := by
  unfold Extern.find
  simp only [hn, lookGc, lookTc, lookRc]
  rfl
theorem next_cnt {fn : Func} (hn : fn.name = "internal/bytealg.CountString") (ho : fn.origin = "") : Extern.findNext fn = none := by
  unfold Extern.findNext
  simp only [hn, ho, lookNc, lookE]
  rfl
theorem cntB_ok (c : Nat) (hc : c < 256) : ∀ (n z a : Nat), cntB n z c a = a + countByte (bytesL n z) c.toUInt8
  | 0, z, a => by simp [bytesL, cntB, countByte]
  | n + 1, z, a => by
    have hb : (UInt8.ofNat (z % 256) == c.toUInt8) = Nat.beq (z % 256) c := by
      rw [Bool.eq_iff_iff, beq_iff_eq, Nat.beq_eq, ← UInt8.toNat_inj]
      simp
      omega
    have hcons : bytesL (n + 1) z = UInt8.ofNat (z % 256) :: bytesL n (z / 256) := bytesL_succ n z
    rw [hcons]
    unfold countByte
    rw [List.count_cons, hb]
    unfold cntB
    cases hbe : Nat.beq (z % 256) c with
    | true =>
      simp only [if_true]
      rw [cntB_ok c hc n (z / 256) (Nat.succ a)]
      unfold countByte; omega
    | false =>
      simp only [Bool.false_eq_true, if_false]
      rw [cntB_ok c hc n (z / 256) a]
      unfold countByte; omega
theorem ok_cntB {f : FuncId} {s x : Operand} {ds dx : Opd} {c : Call} (hi : isExt P "internal/bytealg.CountString" f = true) (hs : opd s = some ds) (hx : opd x = some dx) (ho : o.op = .call c) (hc : c.callee = .value (.func f)) (h1 : c.args = #[s, x]) : PureOK P (oCntB ds dx) o := by
  intro fr h K hD
  obtain ⟨n, z, e1, hD⟩ := asStr_iff.1 hD
  obtain ⟨k, b, e2, hD⟩ := asInt_iff.1 hD
  obtain ⟨hk, hD⟩ := gd_iff.1 hD
  obtain ⟨b, hb0, hD⟩ := natOf_iff.1 hD
  rw [hb0] at e2
  obtain ⟨hlt, hD⟩ := gd_iff.1 hD
  have hk' := kindEq_iff.1 hk
  rw [hk'] at e2
  have hb : b < 256 := by simpa using hlt
  rw [forceN_eq] at hD
  refine ⟨_, hD, fun κ ρ w hr => ⟨.int .i64 (cntB n z b 0 : Nat), rfl, ?_⟩⟩
  obtain ⟨_, h3⟩ := rho_str hr hs e1
  have h4 := rho_int hr hx e2
  have e : ρ (.func f) = .func (.func f) #[] #[] := by
    have := hr (.func f) _ rfl
    simpa [konst, gam, gams] using this.symm
  unfold isExt at hi
  split at hi
  · rename_i fn hfn
    simp only [Bool.and_eq_true, beq_iff_eq] at hi
    obtain ⟨hb0, hn, hor⟩ := hi
    have hne : (fn.name == "runtime.NumGoroutine") = false := by rw [hn]; decide
    have hcall := run_callFunc_extern hfn hne hb0 (next_cnt hn hor) (find_cnt hn) #[.string (strOf n z), .int .u8 (b : Int)] w
    rw [run_countString] at hcall
    have hl : (strOf n z).data.toList = bytesL n z := strOf_data n z
    rw [hl, Int.toNat_natCast] at hcall
    have hv := cntB_ok b hb n z 0
    rw [Nat.zero_add] at hv
    rw [← hv] at hcall
    simp [execOp, ho, resolve, hc, e, Deferred.ofValue, invoke, h1, h3, h4, hcall]
  · cases hi
end Go.Am
