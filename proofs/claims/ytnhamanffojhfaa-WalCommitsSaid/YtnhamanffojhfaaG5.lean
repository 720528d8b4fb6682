/-
  What functions of the program do, said of the abstract machine, and plain lemmas: LgCrc2 LgCrc3 LgHead LgLaw6A LgLaw6B LgLaw6C LgLaw6D LgLaw6E LgLaw6F LgLaw6G LgLaw6H LgArg LgArg6 LgLaw6I LgLaw6J LgLaw6K LgTab6. No condition.
-/
import Derived.Test.YtnhamanffojhfaaG4
import Derived.KernelRfl
namespace Lg
set_option linter.unusedSimpArgs false
set_option linter.unusedVariables false
set_option maxRecDepth 100000
open Go Go.Am
open Go.Proofs.Ytnhamanffojhfaa.shl
def tabR (i : Nat) : List AV := (List.range 16).map fun j => .int .u32 (((if j < i then nibN j else 0 : Nat)) : Int)
theorem tabR_len (i : Nat) : (tabR i).length = 16 := by simp [tabR]
theorem tabR_get (i j : Nat) (hj : j < 16) : (tabR i)[j]? = some (.int .u32 (((if j < i then nibN j else 0 : Nat)) : Int)) := by
  unfold tabR
  rw [List.getElem?_map, List.getElem?_range hj]
  rfl
theorem tabR_set (i : Nat) (hi : i < 16) : setL (tabR i) i [.int .u32 ((nibN i : Nat) : Int)] = tabR (i + 1) := by
  refine List.ext_getElem? fun j => ?_
  rw [getElem?_setL _ _ _ _ (by rw [tabR_len]; exact hi)]
  by_cases hj : j < 16
  · rw [tabR_get _ _ hj, tabR_get _ _ hj]
    by_cases hij : j = i
    · subst hij
      rw [if_pos rfl, if_pos (by omega)]
    · rw [if_neg hij]
      by_cases hlt : j < i
      · rw [if_pos hlt, if_pos (by omega)]
      · rw [if_neg hlt, if_neg (by omega)]
  · rw [if_neg (by omega), List.getElem?_eq_none (by rw [tabR_len]; omega), List.getElem?_eq_none (by rw [tabR_len]; omega)]
section
variable {h : Hp} {K : AV → Hp → Prop}
theorem AddL5_run (cf : CallK) (fuel : Nat) (hf : 10 < fuel) {h0 : Hp} {o4 : Nat} (t0 t1 : AV) (e0 : Hp → Prop) (he : ∀ h', Kp h0 h' o4 o4 → h'.at o4 = some ⟨true, 16, .row (tabR 16)⟩ → e0 h') :
    ∀ (d i fm : Nat) (h : Hp), i + d = 16 → d < fm → Kp h0 h o4 o4 → h.at o4 = some ⟨true, 16, .row (tabR i)⟩ → s_crc_Sum_AddL5 cf fuel e0 t0 t1 (.ptr o4 0) fm (I i) h
  | d, i, fm, h, hd, hm, kp, hat => by
    obtain ⟨fm, rfl⟩ : ∃ j, fm = j + 1 := ⟨fm - 1, by omega⟩
    rw [s_crc_Sum_AddL5_succ]
    unfold s_crc_Sum_AddL5B
    by_cases hi : i < 16
    · obtain ⟨d, rfl⟩ : ∃ j, d = j + 1 := ⟨d - 1, by omega⟩
      have e1 : ((i : Int) + 1) = ((i + 1 : Nat) : Int) := by omega
      (try unfold vMov); repeat' (first | refine Step.imp ?_ | (refine Way.mk (fun hp => ?_) (fun hp => ?_) <;> first | contradiction | (exfalso; omega) | skip) | refine LoadG.mkG ?_ | refine LoadsG.mkG ?_ | refine AtG.mkG ?_ | refine StoreG.mkG ?_ | refine CondG.mkG ?_ | fail); (all_goals (try dsimp only))
      refine toU32_go (by omega) ?_
      refine AddL8_run cf fuel _ t0 t1 _ _ _ 4 0 fuel i (by omega) (by omega) (by omega) ?_
      unfold s_crc_Sum_AddE7
      rw [vIaddrA_ptr _ _ _ _ _ _ (by omega) (by omega)]
      (try unfold vMov); repeat' (first | refine Step.imp ?_ | (refine Way.mk (fun hp => ?_) (fun hp => ?_) <;> first | contradiction | (exfalso; omega) | skip) | refine LoadG.mkG ?_ | refine LoadsG.mkG ?_ | refine AtG.mkG ?_ | refine StoreG.mkG ?_ | refine CondG.mkG ?_ | fail); (all_goals (try dsimp only))
      have ho : 0 + (i : Int).toNat * 1 = i := by omega
      rw [ho, show itN 4 i = nibN i from rfl]
      refine StoreG.mk hat ⟨rfl, by rw [tabR_len]; simp only [List.length_singleton]; omega⟩ ?_
      rw [tabR_set i hi]
      unfold s_crc_Sum_AddE6
      (try unfold vMov); repeat' (first | refine Step.imp ?_ | (refine Way.mk (fun hp => ?_) (fun hp => ?_) <;> first | contradiction | (exfalso; omega) | skip) | refine LoadG.mkG ?_ | refine LoadsG.mkG ?_ | refine AtG.mkG ?_ | refine StoreG.mkG ?_ | refine CondG.mkG ?_ | fail); (all_goals (try dsimp only))
      rw [e1]
      exact AddL5_run cf fuel hf t0 t1 e0 he d (i + 1) fm _ (by omega) (by omega) (kp.trans ⟨Nat.le_refl _, fun o _ q2 _ => Hp.at_put_ne _ q2⟩) (Hp.at_put_self _ _ _)
    · have hd0 : d = 0 := by omega
      subst hd0
      (try unfold vMov); repeat' (first | refine Step.imp ?_ | (refine Way.mk (fun hp => ?_) (fun hp => ?_) <;> first | contradiction | (exfalso; omega) | skip) | refine LoadG.mkG ?_ | refine LoadsG.mkG ?_ | refine AtG.mkG ?_ | refine StoreG.mkG ?_ | refine CondG.mkG ?_ | fail); (all_goals (try dsimp only))
      have : i = 16 := by omega
      rw [this] at hat
      exact he h kp hat
theorem crcHalf_lt {x : Nat} (hx : x < 4294967296) : crcHalf x < 4294967296 := by
  unfold crcHalf
  refine xor32_lt ?_ (nibN_lt (Nat.lt_of_le_of_lt Nat.and_le_right (by omega)))
  rw [Nat.shiftRight_eq_div_pow]
  exact Nat.lt_of_le_of_lt (Nat.div_le_self _ _) hx
theorem crcByte_lt {x : Nat} (hx : x < 4294967296) (b : UInt8) : crcByte x b < 4294967296 := crcHalf_lt (crcHalf_lt (xor32_lt hx (by have := b.toNat_lt; omega)))
/-- Half a byte. -/
theorem half_go {o4 x : Nat} (hat : h.at o4 = some ⟨true, 16, .row (tabR 16)⟩) (hx : x < 4294967296) {F : AV → Hp → Prop} (q : F (.int .u32 ((crcHalf x : Nat) : Int)) h) :
    vShr (.int .u32 (x : Nat)) (.int .u64 4) h fun t48 h => vBits Nat.land (.int .u32 (x : Nat)) (.int .u32 15) h fun t50 h => vIaddrA 1 16 (.ptr o4 0) t50 h fun t51 h => vLoad2 t51 h fun t52 h => vBits Nat.xor t48 t52 h F := by
  have ha : x &&& 15 < 16 := Nat.lt_of_le_of_lt Nat.and_le_right (by omega)
  refine shrN_go (k := .u32) (s := 4) (by decide) ?_
  refine bits32_go (f := Nat.land) (b := 15) hx (by omega) (show x &&& 15 < 4294967296 by omega) ?_
  show vIaddrA 1 16 (.ptr o4 0) (.int .u32 ((x &&& 15 : Nat) : Int)) h _
  rw [vIaddrA_ptr _ _ _ _ _ _ (Int.natCast_nonneg _) (by omega)]
  have c0 : cellAt (AObj.row (tabR 16)) (x &&& 15) = some (.int .u32 ((nibN (x &&& 15) : Nat) : Int)) := by rw [cellAt_row', tabR_get _ _ ha, if_pos ha]
  (try unfold vMov); repeat' (first | refine Step.imp ?_ | (refine Way.mk (fun hp => ?_) (fun hp => ?_) <;> first | contradiction | (exfalso; omega) | skip) | refine LoadG.mkG ?_ | refine LoadsG.mkG ?_ | refine AtG.mkG ?_ | refine StoreG.mkG ?_ | refine CondG.mkG ?_ | (refine LoadG.mk2 hat c0 (by omega) ?_) | fail); (all_goals (try dsimp only))
  have hs : x >>> 4 < 4294967296 := by
    rw [Nat.shiftRight_eq_div_pow]
    exact Nat.lt_of_le_of_lt (Nat.div_le_self _ _) hx
  exact bits32_go (f := Nat.xor) hs (nibN_lt ha) (crcHalf_lt hx) q
theorem AddL2_run (cf : CallK) (fuel : Nat) {o4 : Nat} (hat : h.at o4 = some ⟨true, 16, .row (tabR 16)⟩) {v : AV} {l : List UInt8} (hv : ByH h v l) (hl : l.length ≤ 1000000) (t0 : AV) (e1 : AV → Hp → Prop) :
    ∀ (d i fm x : Nat), i + d = l.length → d < fm → x < 4294967296 → e1 (.int .u32 (((l.drop i).foldl crcByte x : Nat) : Int)) h → s_crc_Sum_AddL2 cf fuel e1 t0 (.ptr o4 0) v (I l.length) fm (.int .u32 (x : Nat)) (I i) h
  | d, i, fm, x, hd, hm, hx, hK => by
    obtain ⟨fm, rfl⟩ : ∃ j, fm = j + 1 := ⟨fm - 1, by omega⟩
    rw [s_crc_Sum_AddL2_succ]
    unfold s_crc_Sum_AddL2B
    by_cases hi : i < l.length
    · obtain ⟨d, rfl⟩ : ∃ j, d = j + 1 := ⟨d - 1, by omega⟩
      have e2 : ((i : Int) + 1) = ((i + 1 : Nat) : Int) := by omega
      obtain ⟨o, off, kn, c, e, rfl, hatv, hc⟩ := byAt hv (by omega)
      have ci := hc i hi
      have hb := l[i].toNat_lt
      rw [List.drop_eq_getElem_cons hi, List.foldl_cons] at hK
      (try unfold vMov); repeat' (first | refine Step.imp ?_ | (refine Way.mk (fun hp => ?_) (fun hp => ?_) <;> first | contradiction | (exfalso; omega) | skip) | refine LoadG.mkG ?_ | refine LoadsG.mkG ?_ | refine AtG.mkG ?_ | refine StoreG.mkG ?_ | refine CondG.mkG ?_ | fail); (all_goals (try dsimp only))
      unfold s_crc_Sum_AddB4
      (try unfold vMov); repeat' (first | refine Step.imp ?_ | (refine Way.mk (fun hp => ?_) (fun hp => ?_) <;> first | contradiction | (exfalso; omega) | skip) | refine LoadG.mkG ?_ | refine LoadsG.mkG ?_ | refine AtG.mkG ?_ | refine StoreG.mkG ?_ | refine CondG.mkG ?_ | (refine LoadG.mk2 hatv ci (by omega) ?_) | fail); (all_goals (try dsimp only))
      refine toU32_go (by omega) ?_
      refine bits32_go (f := Nat.xor) hx (by omega) (xor32_lt hx (by omega)) ?_
      refine half_go hat (xor32_lt hx (by omega)) ?_
      refine half_go hat (crcHalf_lt (xor32_lt hx (by omega))) ?_
      (try unfold vMov); repeat' (first | refine Step.imp ?_ | (refine Way.mk (fun hp => ?_) (fun hp => ?_) <;> first | contradiction | (exfalso; omega) | skip) | refine LoadG.mkG ?_ | refine LoadsG.mkG ?_ | refine AtG.mkG ?_ | refine StoreG.mkG ?_ | refine CondG.mkG ?_ | fail); (all_goals (try dsimp only))
      rw [e2]
      exact AddL2_run cf fuel hat hv hl t0 e1 d (i + 1) fm (crcByte x l[i]) (by omega) (by omega) (crcByte_lt hx _) hK
    · have hd0 : d = 0 := by omega
      subst hd0
      (try unfold vMov); repeat' (first | refine Step.imp ?_ | (refine Way.mk (fun hp => ?_) (fun hp => ?_) <;> first | contradiction | (exfalso; omega) | skip) | refine LoadG.mkG ?_ | refine LoadsG.mkG ?_ | refine AtG.mkG ?_ | refine StoreG.mkG ?_ | refine CondG.mkG ?_ | fail); (all_goals (try dsimp only))
      rw [List.drop_eq_nil_of_le (by omega)] at hK
      exact hK
end
end Lg

namespace Lg
set_option linter.unusedSimpArgs false
set_option linter.unusedVariables false
set_option maxRecDepth 100000
open Go Go.Am
open Go.Proofs.Ytnhamanffojhfaa.shl
theorem crcFold_lt : ∀ (l : List UInt8) {x : Nat}, x < 4294967296 → l.foldl crcByte x < 4294967296
  | [], _, hx => hx
  | b :: l, _, hx => crcFold_lt l (crcByte_lt hx b)
theorem crcF_lt (l : List UInt8) : crcF l < 4294967296 := xor32_lt (by omega) (crcFold_lt l (by omega))
def sumE (x : Nat) : Option Ent := some ⟨true, 1, .row [.int .u32 ((x : Nat) : Int)]⟩
section
variable {h : Hp} {K : AV → Hp → Prop}
def cCrcAdd : ConD := fun args h K => ∃ so v l, args = [.ptr so 0, v] ∧ so < h.next ∧ h.at so = sumE 0 ∧ ByH h v l ∧ l.length ≤ 1000000 ∧ ∀ h', Kp h h' so so → h'.at so = sumE (crcF l) → K (.tup []) h'
theorem cCrcAdd_go {cf : CallK} {g : FuncId} (hg : cf g = cCrcAdd) {so : Nat} {v : AV} {l : List UInt8} (hs : so < h.next) (hat : h.at so = sumE 0) (hv : ByH h v l) (hl : l.length ≤ 1000000) (hK : ∀ h', Kp h h' so so → h'.at so = sumE (crcF l) → K (.tup []) h') : cf g [.ptr so 0, v] h K := by rw [hg]; exact ⟨so, v, l, rfl, hs, hat, hv, hl, hK⟩
theorem CrcAdd_run (cf : CallK) (fuel : Nat) (hf : 1000010 < fuel) {so : Nat} {v : AV} {l : List UInt8} (hs : so < h.next) (hat : h.at so = sumE 0) (hv : ByH h v l) (hl : l.length ≤ 1000000) (hK : ∀ h', Kp h h' so so → h'.at so = sumE (crcF l) → K (.tup []) h') : s_crc_Sum_Add cf fuel (.ptr so 0) v h K := by
  unfold s_crc_Sum_Add
  (try unfold vMov); repeat' (first | refine Step.imp ?_ | (refine Way.mk (fun hp => ?_) (fun hp => ?_) <;> first | contradiction | (exfalso; omega) | skip) | refine LoadG.mkG ?_ | refine LoadsG.mkG ?_ | refine AtG.mkG ?_ | refine StoreG.mkG ?_ | refine CondG.mkG ?_ | fail); (all_goals (try dsimp only))
  have xA : ∀ (e1 : Ent) (e2 : Option Ent), Ext h ((h.new e1).put h.next e2) := fun e1 e2 => ⟨by simp only [Hp.next_put, Hp.next_new]; omega, fun o ho => by rw [Hp.at_put_ne _ (by omega), Hp.at_new_lt _ ho]⟩
  generalize hHA : Hp.put (Hp.new h _) h.next _ = hA
  have x1 : Ext h hA := by rw [← hHA]; exact xA _ _
  have aA : hA.at h.next = some ⟨true, 16, .row (tabR 0)⟩ := by rw [← hHA, Hp.at_put_self]; rfl
  refine AddL5_run cf fuel (by omega) (o4 := h.next) (h0 := hA) _ _ _ (fun h2 k2 a2 => ?_) 16 0 fuel hA (by omega) (by omega) ⟨Nat.le_refl _, fun _ _ _ _ => rfl⟩ aA
  have k12 : Ext h h2 := ⟨Nat.le_trans x1.next k2.1, fun o ho => by rw [k2.2 o (Nat.lt_of_lt_of_le ho x1.next) (by omega) (by omega), x1.same o ho]⟩
  have at2 : h2.at so = sumE 0 := (k12.same so hs).trans hat
  have hv2 := hv.mono k12
  unfold s_crc_Sum_AddE0
  (try unfold vMov); repeat' (first | refine Step.imp ?_ | (refine Way.mk (fun hp => ?_) (fun hp => ?_) <;> first | contradiction | (exfalso; omega) | skip) | refine LoadG.mkG ?_ | refine LoadsG.mkG ?_ | refine AtG.mkG ?_ | refine StoreG.mkG ?_ | refine CondG.mkG ?_ | (refine LoadG.mk at2 (by rfl) ?_) | fail); (all_goals (try dsimp only))
  refine com32_go (a := 0) (by omega) ?_
  refine lenB_go hv2 ?_
  refine AddL2_run cf fuel a2 hv2 hl _ _ l.length 0 fuel (4294967295 ^^^ 0) (by omega) (by omega) (by rw [Nat.xor_zero]; omega) ?_
  rw [Nat.xor_zero, List.drop_zero]
  unfold s_crc_Sum_AddE1
  refine com32_go (crcFold_lt l (by omega)) ?_
  (try unfold vMov); repeat' (first | refine Step.imp ?_ | (refine Way.mk (fun hp => ?_) (fun hp => ?_) <;> first | contradiction | (exfalso; omega) | skip) | refine LoadG.mkG ?_ | refine LoadsG.mkG ?_ | refine AtG.mkG ?_ | refine StoreG.mkG ?_ | refine CondG.mkG ?_ | (refine StoreG.mk at2 (by first | omega | (simp; done) | (simp; omega)) ?_) | fail); (all_goals (try dsimp only))
  refine hK _ ⟨by simp only [Hp.next_put]; exact k12.next, fun o ho q2 _ => by rw [Hp.at_put_ne _ q2]; exact k12.same o ho⟩ ?_
  rw [Hp.at_put_self]
  rfl
def cCrcNew : ConD := fun args h K => args = [] ∧ K (.ptr h.next 0) (h.new ⟨true, 1, .row [.int .u32 0]⟩)
theorem CrcNew_run (cf : CallK) (fuel : Nat) (hK : K (.ptr h.next 0) (h.new ⟨true, 1, .row [.int .u32 0]⟩)) : s_crc_New cf fuel h K := by
  unfold s_crc_New
  (try unfold vMov); repeat' (first | refine Step.imp ?_ | (refine Way.mk (fun hp => ?_) (fun hp => ?_) <;> first | contradiction | (exfalso; omega) | skip) | refine LoadG.mkG ?_ | refine LoadsG.mkG ?_ | refine AtG.mkG ?_ | refine StoreG.mkG ?_ | refine CondG.mkG ?_ | fail); (all_goals (try dsimp only))
  exact hK
def cCrcVal : ConD := fun args h K => ∃ so x, args = [.ptr so 0] ∧ h.at so = sumE x ∧ K (.int .u32 ((x : Nat) : Int)) h
theorem CrcVal_run (cf : CallK) (fuel : Nat) {so x : Nat} (hat : h.at so = sumE x) (hK : K (.int .u32 ((x : Nat) : Int)) h) : s_crc_Sum_Value cf fuel (.ptr so 0) h K := by
  unfold s_crc_Sum_Value
  (try unfold vMov); repeat' (first | refine Step.imp ?_ | (refine Way.mk (fun hp => ?_) (fun hp => ?_) <;> first | contradiction | (exfalso; omega) | skip) | refine LoadG.mkG ?_ | refine LoadsG.mkG ?_ | refine AtG.mkG ?_ | refine StoreG.mkG ?_ | refine CondG.mkG ?_ | (refine LoadG.mk hat (by rfl) ?_) | fail); (all_goals (try dsimp only))
  exact hK
def cCrcEach : ConD := fun args h K => ∃ po so v l, args = [.slice po 0 1 true 1, .func 165 [.ptr so 0] []] ∧ po < h.next ∧ po ≠ so ∧ (∃ e, h.at po = some ⟨true, e, .row [v]⟩) ∧ so < h.next ∧ h.at so = sumE 0 ∧ ByH h v l ∧ l.length ≤ 1000000 ∧ ∀ h', Kp h h' so so → h'.at so = sumE (crcF l) → K (.tup []) h'
theorem CrcEach_run (cf : CallK) (fuel : Nat) (hA : cf 165 = cCrcAdd) (hf : 3 < fuel) {po so : Nat} {v : AV} {l : List UInt8} (hpo : po < h.next) (hne : po ≠ so) (hpv : ∃ e, h.at po = some ⟨true, e, .row [v]⟩) (hs : so < h.next) (hat : h.at so = sumE 0) (hv : ByH h v l) (hl : l.length ≤ 1000000) (hK : ∀ h', Kp h h' so so → h'.at so = sumE (crcF l) → K (.tup []) h') : s_crc_each cf fuel (.slice po 0 1 true 1) (.func 165 [.ptr so 0] []) h K := by
  unfold s_crc_each
  obtain ⟨e, hpv⟩ := hpv
  obtain ⟨f, rfl⟩ : ∃ f, fuel = f + 2 := ⟨fuel - 2, by omega⟩
  (try unfold vMov); repeat' (first | refine Step.imp ?_ | (refine Way.mk (fun hp => ?_) (fun hp => ?_) <;> first | contradiction | (exfalso; omega) | skip) | refine LoadG.mkG ?_ | refine LoadsG.mkG ?_ | refine AtG.mkG ?_ | refine StoreG.mkG ?_ | refine CondG.mkG ?_ | fail); (all_goals (try dsimp only))
  rw [s_crc_eachL1_succ]
  unfold s_crc_eachL1B
  (try unfold vMov); repeat' (first | refine Step.imp ?_ | (refine Way.mk (fun hp => ?_) (fun hp => ?_) <;> first | contradiction | (exfalso; omega) | skip) | refine LoadG.mkG ?_ | refine LoadsG.mkG ?_ | refine AtG.mkG ?_ | refine StoreG.mkG ?_ | refine CondG.mkG ?_ | fail); (all_goals (try dsimp only))
  refine LoadG.mk hpv (by rfl) ?_
  show cf 165 [.ptr so 0, v] h _
  refine cCrcAdd_go hA hs hat hv hl (fun h2 k2 a2 => ?_)
  (try unfold vMov); repeat' (first | refine Step.imp ?_ | (refine Way.mk (fun hp => ?_) (fun hp => ?_) <;> first | contradiction | (exfalso; omega) | skip) | refine LoadG.mkG ?_ | refine LoadsG.mkG ?_ | refine AtG.mkG ?_ | refine StoreG.mkG ?_ | refine CondG.mkG ?_ | fail); (all_goals (try dsimp only))
  rw [s_crc_eachL1_succ]
  unfold s_crc_eachL1B
  (try unfold vMov); repeat' (first | refine Step.imp ?_ | (refine Way.mk (fun hp => ?_) (fun hp => ?_) <;> first | contradiction | (exfalso; omega) | skip) | refine LoadG.mkG ?_ | refine LoadsG.mkG ?_ | refine AtG.mkG ?_ | refine StoreG.mkG ?_ | refine CondG.mkG ?_ | fail); (all_goals (try dsimp only))
  unfold s_crc_eachE0
  exact hK h2 k2 a2
def cCrcOf : ConD := fun args h K => ∃ po v l, args = [.slice po 0 1 true 1] ∧ po < h.next ∧ (∃ e, h.at po = some ⟨true, e, .row [v]⟩) ∧ ByH h v l ∧ l.length ≤ 1000000 ∧ ∀ h', Ext h h' → K (.int .u32 ((crcF l : Nat) : Int)) h'
theorem cCrcOf_go {cf : CallK} {g : FuncId} (hg : cf g = cCrcOf) {po : Nat} {v : AV} {l : List UInt8} (hpo : po < h.next) (hp : ∃ e, h.at po = some ⟨true, e, .row [v]⟩) (hv : ByH h v l) (hl : l.length ≤ 1000000) (hK : ∀ h', Ext h h' → K (.int .u32 ((crcF l : Nat) : Int)) h') : cf g [.slice po 0 1 true 1] h K := by rw [hg]; exact ⟨po, v, l, rfl, hpo, hp, hv, hl, hK⟩
theorem CrcOf_run (cf : CallK) (fuel : Nat) (hN : cf 163 = cCrcNew) (hE : cf 164 = cCrcEach) (hV : cf 166 = cCrcVal) {po : Nat} {v : AV} {l : List UInt8} (hpo : po < h.next) (hp : ∃ e, h.at po = some ⟨true, e, .row [v]⟩) (hv : ByH h v l) (hl : l.length ≤ 1000000) (hK : ∀ h', Ext h h' → K (.int .u32 ((crcF l : Nat) : Int)) h') : s_crc_Of cf fuel (.slice po 0 1 true 1) h K := by
  unfold s_crc_Of
  rw [show cf 163 = cCrcNew from hN]
  refine ⟨rfl, ?_⟩
  have x1 : Ext h (h.new ⟨true, 1, .row [.int .u32 0]⟩) := (by repeat (first | exact Ext.refl _ | assumption | apply Ext.new | (refine Ext.put ?_ _ (by first | omega | (simp; done) | (simp; omega)))))
  have a1 : (h.new ⟨true, 1, .row [.int .u32 0]⟩).at h.next = sumE 0 := Hp.at_new_self _ _
  refine funcV_go ?_
  rw [show cf 164 = cCrcEach from hE]
  refine ⟨po, h.next, v, l, rfl, by simp only [Hp.next_new]; omega, by omega, ?_, by simp only [Hp.next_new]; omega, a1, hv.mono x1, hl, fun h2 k2 a2 => ?_⟩
  · obtain ⟨e, hp⟩ := hp
    exact ⟨e, by rw [Hp.at_new_lt _ hpo]; exact hp⟩
  · rw [show cf 166 = cCrcVal from hV]
    refine ⟨h.next, crcF l, rfl, a2, ?_⟩
    exact hK h2 ⟨Nat.le_trans x1.next k2.1, fun o ho => by rw [k2.2 o (Nat.lt_of_lt_of_le ho x1.next) (by omega) (by omega), x1.same o ho]⟩
end
end Lg

namespace Lg
set_option linter.unusedSimpArgs false
set_option linter.unusedVariables false
set_option maxRecDepth 100000
open Go Go.Am
open Go.Proofs.Ytnhamanffojhfaa.shl
theorem appZ_go {h : Hp} {o : Nat} {v : AV} {l : List UInt8} {n : Nat} {K : AV → Hp → Prop} (hv : BO h o v l) (hn : 0 < n) (hs : l.length + n ≤ 1000000)
    (q : ∀ v' h', h.next < h'.next → (∀ p, p < h.next → p ≠ o → h'.at p = h.at p) → BO h' h.next v' (l ++ List.replicate n 0) → K v' h') : vAppendZ 1 1 true [.int .u8 0] v (I n) h K := by
  obtain ⟨h1, kn, z, rfl, h2, h3, h4⟩ := hv
  have hx : bytesL (l.length + n) (cutB z 0 l.length + 0 <<< (8 * l.length)) = l ++ List.replicate n 0 := by
    rw [bytesL_join _ _ _ _ (cutB_lt _ _ _), cutB_bytes, h3, bytesL_zero]
  have hbo : ∀ hh : Hp, hh.next = h.next → BO (hh.new ⟨true, 1, .byts (l.length + n) (cutB z 0 l.length + 0 <<< (8 * l.length))⟩) h.next (.slice h.next 0 (l.length + n) false 0) (l ++ List.replicate n 0) := fun hh e =>
    ⟨by simp only [Hp.next_new]; omega, false, _, by rw [List.length_append, List.length_replicate]; rfl, by rw [← e, Hp.at_new_self, List.length_append, List.length_replicate], by rw [List.length_append, List.length_replicate]; exact hx, by rw [List.length_append, List.length_replicate]; exact hs⟩
  have hle : Nat.ble ((l.length + n) * 1) 140737488355328 = true := Nat.ble_eq_true_of_le (by omega)
  have hz : Nat.beq n 0 = false := by
    cases n with
    | zero => omega
    | succ n => rfl
  show asNat (I n) (fun m => forceN m fun m => Bool.rec (motive := fun _ => Prop)
    (joinK h o 0 l.length m kn (if kn = true then l.length else 0) 1 1 (fun ob => growBK ob 0 l.length m 0) (fun _ _ => False) K)
    (K (.slice o 0 l.length kn (if kn = true then l.length else 0)) h) (Nat.beq m 0))
  rw [asNat_int _ _ (by omega), Int.toNat_natCast, forceN_eq, hz]
  cases kn with
  | false =>
    show gd (Nat.ble ((l.length + n) * 1) 140737488355328) (asOpt (h.at o) fun e => gd (Nat.beq e.esz 1) (gd (e.own && Nat.ble 0 (0 * 1)) (growBK e.obj 0 l.length n 0 fun ob => putK h o none fun h => forceN (l.length + n) fun n => finK 1 n h ob K)))
    rw [hle, gd_true, h2, asOpt_some]
    show gd (Nat.ble (0 + l.length) l.length) (forceN (cutB z 0 l.length + 0 <<< (8 * l.length)) fun x => forceN (l.length + n) fun n1 => putK h o none fun h => forceN (l.length + n) fun n' => finK 1 n' h (.byts n1 x) K)
    rw [Nat.ble_eq_true_of_le (by omega : 0 + l.length ≤ l.length), gd_true, forceN_eq, forceN_eq, putK_eq', forceN_eq]
    unfold finK
    rw [newK_eq']
    exact q _ _ (by simp only [Hp.next_new, Hp.next_put]; omega) (fun p hp hne => by rw [Hp.at_new_lt _ (by simp only [Hp.next_put]; exact hp), Hp.at_put_ne _ hne]) (hbo (h.put o none) (by simp only [Hp.next_put]))
  | true =>
    show gd (Nat.ble ((l.length + n) * 1) 140737488355328) (asOpt (h.at o) fun e => gd (Nat.beq e.esz 1) (Bool.rec (motive := fun _ => Prop) (growBK e.obj 0 l.length n 0 fun ob => forceN (l.length + n) fun n => finK 1 n h ob K)
      (gd e.own False) (Nat.ble (l.length + n) l.length)))
    have hb : Nat.ble (l.length + n) l.length = false := by
      cases hq : Nat.ble (l.length + n) l.length with
      | false => rfl
      | true => have := Nat.le_of_ble_eq_true hq; omega
    rw [hle, gd_true, h2, asOpt_some, hb]
    show gd (Nat.beq 1 1) (gd (Nat.ble (0 + l.length) l.length) (forceN (cutB z 0 l.length + 0 <<< (8 * l.length)) fun x => forceN (l.length + n) fun n1 => forceN (l.length + n) fun n' => finK 1 n' h (.byts n1 x) K))
    rw [Nat.ble_eq_true_of_le (by omega : 0 + l.length ≤ l.length), forceN_eq, forceN_eq, forceN_eq]
    refine gd_iff.2 ⟨rfl, gd_iff.2 ⟨rfl, ?_⟩⟩
    unfold finK
    rw [newK_eq']
    exact q _ _ (by simp only [Hp.next_new]; omega) (fun p hp hne => by rw [Hp.at_new_lt _ hp]) (hbo h rfl)
theorem strish_go {h : Hp} {o : Nat} {v : AV} {l : List UInt8} {K : AV → Hp → Prop} (hv : BO h o v l) (q : K v h) : vStrish v h K := by
  obtain ⟨h1, kn, z, rfl, h2, h3, h4⟩ := hv
  show asOpt (h.at o) fun e => gd (e.own && Nat.beq e.esz 1) (asByts e.obj fun _ _ => K (.slice o 0 l.length kn (if kn = true then l.length else 0)) h)
  rw [h2, asOpt_some]
  exact q
theorem BO.ext {h h' : Hp} {o : Nat} {v : AV} {l : List UInt8} (hv : BO h o v l) (x : Ext h h') : BO h' o v l := by
  obtain ⟨h1, kn, z, e1, e2, e3⟩ := hv
  exact ⟨Nat.lt_of_lt_of_le h1 x.next, kn, z, e1, (x.same o h1).trans e2, e3⟩
theorem bsliceM_go {h : Hp} {K : AV → Hp → Prop} (q : ∀ v', BO (h.new ⟨true, 1, .byts 16 (packL magicB)⟩) h.next v' magicB → K v' (h.new ⟨true, 1, .byts 16 (packL magicB)⟩)) :
    vBslice 1 16 true [.int .u8 0] [(0, 1, .int .u8 108), (1, 1, .int .u8 97), (2, 1, .int .u8 103), (3, 1, .int .u8 111), (4, 1, .int .u8 111), (5, 1, .int .u8 110), (6, 1, .int .u8 39), (7, 1, .int .u8 115), (8, 1, .int .u8 32), (9, 1, .int .u8 118), (10, 1, .int .u8 111), (11, 1, .int .u8 108), (12, 1, .int .u8 117), (13, 1, .int .u8 109), (14, 1, .int .u8 101), (15, 1, .int .u8 10)] h K := by
  show fillV _ ([.int .u8 0, .int .u8 0, .int .u8 0, .int .u8 0, .int .u8 0, .int .u8 0, .int .u8 0, .int .u8 0, .int .u8 0, .int .u8 0, .int .u8 0, .int .u8 0, .int .u8 0, .int .u8 0, .int .u8 0, .int .u8 0] : List AV) fun cs => asOpt (packAV cs) fun x => forceN x fun x => forceN cs.length fun n => newK h ⟨true, 1, .byts n x⟩ fun o h => K (.slice o 0 16 true 16) h
  refine stFill_aux _ _ _ _ _ _ _ rfl ⟨⟨rfl, by simp⟩, ?_⟩
  simp only [setL_cons0, setL_succ]
  refine stFill_aux _ _ _ _ _ _ _ rfl ⟨⟨rfl, by simp⟩, ?_⟩
  simp only [setL_cons0, setL_succ]
  refine stFill_aux _ _ _ _ _ _ _ rfl ⟨⟨rfl, by simp⟩, ?_⟩
  simp only [setL_cons0, setL_succ]
  refine stFill_aux _ _ _ _ _ _ _ rfl ⟨⟨rfl, by simp⟩, ?_⟩
  simp only [setL_cons0, setL_succ]
  refine stFill_aux _ _ _ _ _ _ _ rfl ⟨⟨rfl, by simp⟩, ?_⟩
  simp only [setL_cons0, setL_succ]
  refine stFill_aux _ _ _ _ _ _ _ rfl ⟨⟨rfl, by simp⟩, ?_⟩
  simp only [setL_cons0, setL_succ]
  refine stFill_aux _ _ _ _ _ _ _ rfl ⟨⟨rfl, by simp⟩, ?_⟩
  simp only [setL_cons0, setL_succ]
  refine stFill_aux _ _ _ _ _ _ _ rfl ⟨⟨rfl, by simp⟩, ?_⟩
  simp only [setL_cons0, setL_succ]
  refine stFill_aux _ _ _ _ _ _ _ rfl ⟨⟨rfl, by simp⟩, ?_⟩
  simp only [setL_cons0, setL_succ]
  refine stFill_aux _ _ _ _ _ _ _ rfl ⟨⟨rfl, by simp⟩, ?_⟩
  simp only [setL_cons0, setL_succ]
  refine stFill_aux _ _ _ _ _ _ _ rfl ⟨⟨rfl, by simp⟩, ?_⟩
  simp only [setL_cons0, setL_succ]
  refine stFill_aux _ _ _ _ _ _ _ rfl ⟨⟨rfl, by simp⟩, ?_⟩
  simp only [setL_cons0, setL_succ]
  refine stFill_aux _ _ _ _ _ _ _ rfl ⟨⟨rfl, by simp⟩, ?_⟩
  simp only [setL_cons0, setL_succ]
  refine stFill_aux _ _ _ _ _ _ _ rfl ⟨⟨rfl, by simp⟩, ?_⟩
  simp only [setL_cons0, setL_succ]
  refine stFill_aux _ _ _ _ _ _ _ rfl ⟨⟨rfl, by simp⟩, ?_⟩
  simp only [setL_cons0, setL_succ]
  refine stFill_aux _ _ _ _ _ _ _ rfl ⟨⟨rfl, by simp⟩, ?_⟩
  simp only [setL_cons0, setL_succ]
  have e : packAV [.int .u8 108, .int .u8 97, .int .u8 103, .int .u8 111, .int .u8 111, .int .u8 110, .int .u8 39, .int .u8 115, .int .u8 32, .int .u8 118, .int .u8 111, .int .u8 108, .int .u8 117, .int .u8 109, .int .u8 101, .int .u8 10] = some (packL magicB) := packAV_bytes magicB
  show asOpt (packAV [.int .u8 108, .int .u8 97, .int .u8 103, .int .u8 111, .int .u8 111, .int .u8 110, .int .u8 39, .int .u8 115, .int .u8 32, .int .u8 118, .int .u8 111, .int .u8 108, .int .u8 117, .int .u8 109, .int .u8 101, .int .u8 10]) fun x => forceN x fun x => forceN 16 fun n => newK h ⟨true, 1, .byts n x⟩ fun o h => K (.slice o 0 16 true 16) h
  rw [e, asOpt_some, forceN_eq, forceN_eq, newK_eq']
  exact q _ ⟨by simp [Hp.next_new], true, _, rfl, Hp.at_new_self _ _, bytesL_pack _, by simp [magicB]⟩
section
variable (cf : CallK) (fuel : Nat) {h : Hp} {K : AV → Hp → Prop} {k c : Nat}
theorem head_run (h64 : cf 153 = cApp64) (hO : cf 155 = cCrcOf) (h32 : cf 154 = cApp32) (hk : k ≤ 1000000 ∧ c ≤ 1000000) (hK : ∀ v' h', Ext h h' → ByH h' v' (headB k c) → K v' h') : s_wal_head cf fuel (I k) (I c) h K := by
  unfold s_wal_head
  obtain ⟨hk, hc⟩ := hk
  refine bsliceM_go fun v0 b0 => ?_
  have x0 : Ext h (h.new ⟨true, 1, .byts 16 (packL magicB)⟩) := (by repeat (first | exact Ext.refl _ | assumption | apply Ext.new | (refine Ext.put ?_ _ (by first | omega | (simp; done) | (simp; omega)))))
  have n0 : (h.new ⟨true, 1, .byts 16 (packL magicB)⟩).next = h.next + 1 := rfl
  generalize (h.new ⟨true, 1, .byts 16 (packL magicB)⟩) = hA at *
  refine strish_go b0 ?_
  (try unfold vMov); repeat' (first | refine Step.imp ?_ | (refine Way.mk (fun hp => ?_) (fun hp => ?_) <;> first | contradiction | (exfalso; omega) | skip) | refine LoadG.mkG ?_ | refine LoadsG.mkG ?_ | refine AtG.mkG ?_ | refine StoreG.mkG ?_ | refine CondG.mkG ?_ | fail); (all_goals (try dsimp only))
  refine cApp64_go h64 b0 (by simp [magicB]) (fun v1 o1 h1 f1 n1 s1 b1 => ?_)
  have x1 : Ext h h1 := ⟨by omega, fun o ho => by rw [s1 o (by omega) (by omega), x0.same o ho]⟩
  (try unfold vMov); repeat' (first | refine Step.imp ?_ | (refine Way.mk (fun hp => ?_) (fun hp => ?_) <;> first | contradiction | (exfalso; omega) | skip) | refine LoadG.mkG ?_ | refine LoadsG.mkG ?_ | refine AtG.mkG ?_ | refine StoreG.mkG ?_ | refine CondG.mkG ?_ | fail); (all_goals (try dsimp only))
  refine cApp64_go h64 b1 (by simp [magicB, le64]) (fun v2 o2 h2 f2 n2 s2 b2 => ?_)
  have x2 : Ext h h2 := ⟨by omega, fun o ho => by rw [s2 o (by omega) (by omega), x1.same o ho]⟩
  have cb := b2.by.cellB
  (try unfold vMov); repeat' (first | refine Step.imp ?_ | (refine Way.mk (fun hp => ?_) (fun hp => ?_) <;> first | contradiction | (exfalso; omega) | skip) | refine LoadG.mkG ?_ | refine LoadsG.mkG ?_ | refine AtG.mkG ?_ | refine StoreG.mkG ?_ | refine CondG.mkG ?_ | (refine stFill_aux _ _ _ _ _ _ _ cb ⟨⟨rfl, by simp [setL, repL]⟩, ?_⟩) | fail); (all_goals (try dsimp only))
  have hrow : setL (repL [AV.nilslice] 1) 0 [v2] = [v2] := rfl
  rw [hrow]
  have x3 : Ext h2 (h2.new ⟨true, 1, .row [v2]⟩) := (by repeat (first | exact Ext.refl _ | assumption | apply Ext.new | (refine Ext.put ?_ _ (by first | omega | (simp; done) | (simp; omega)))))
  refine cCrcOf_go hO (by simp only [Hp.next_new]; omega) ⟨1, Hp.at_new_self _ _⟩ ((b2.by).mono x3) (by simp [magicB, le64]) (fun h4 x4 => ?_)
  have x24 := x3.trans x4
  refine cApp32_go h32 (b2.ext x24) (by simp [magicB, le64]) (fun v5 o5 h5 f5 n5 s5 b5 => ?_)
  have hl : (magicB ++ le64 k ++ le64 c ++ le32 (crcF (magicB ++ le64 k ++ le64 c))).length = 36 := by simp [magicB, le64, le32]
  refine lenB_go b5.by ?_
  rw [hl]
  have n24 := x24.next
  have x5 : Ext h h5 := ⟨by have := x2.next; omega, fun o ho => by rw [s5 o (by have := x2.next; omega) (by have := x1.next; omega), x24.same o (by have := x2.next; omega), x2.same o ho]⟩
  (try unfold vMov); repeat' (first | refine Step.imp ?_ | (refine Way.mk (fun hp => ?_) (fun hp => ?_) <;> first | contradiction | (exfalso; omega) | skip) | refine LoadG.mkG ?_ | refine LoadsG.mkG ?_ | refine AtG.mkG ?_ | refine StoreG.mkG ?_ | refine CondG.mkG ?_ | fail); (all_goals (try dsimp only))
  refine appZ_go (n := 476) b5 (by omega) (by omega) (fun v6 h6 n6 s6 b6 => ?_)
  have nx5 := x5.next
  have nx2 := x2.next
  refine hK v6 h6 ⟨by omega, fun o ho => by rw [s6 o (by omega) (by omega), x5.same o ho]⟩ b6.by
end
end Lg

namespace Lg
set_option linter.unusedSimpArgs false
set_option linter.unusedVariables false
set_option maxRecDepth 100000
open Go Go.Am
open Go.Proofs.Ytnhamanffojhfaa.shl
/-- One byte stored. -/
theorem stByte {h : Hp} {o off n z : Nat} {b : UInt8} {k : Hp → Prop} (hat : h.at o = some ⟨true, 1, .byts n z⟩) (hb : off < n) (q : ∀ z', k (h.put o (some ⟨true, 1, .byts n z'⟩))) : StoreG h 1 o off [.int .u8 ((b.toNat : Nat) : Int)] k := by
  refine ⟨1, _, hat, rfl, ?_⟩
  unfold setO
  rw [setCellsK_cons]
  have hlt : Nat.blt off (sizeOfObj (.byts n z)) = true := Nat.ble_eq_true_of_le (show off < n from hb)
  rw [hlt]
  show setCellK (.byts n z) off (.int .u8 ((b.toNat : Nat) : Int)) (fun ob => setCellsK [] ob (off + 1) fun ob' => k (h.put o (some ⟨true, 1, ob'⟩)))
  have hb2 : Nat.blt b.toNat 256 = true := Nat.ble_eq_true_of_le b.toNat_lt
  show gd (Nat.blt b.toNat 256) _
  rw [hb2, gd_true]
  simp only [forceN_eq]
  exact q _
section
variable (cf : CallK) (fuel : Nat) {h : Hp} {K : AV → Hp → Prop}
theorem FullL4_run {h0 : Hp} {v : AV} {l : List UInt8} (hv : ByH h0 v l) {o5 n : Nat} (hq : SlP (fun o => o ≠ o5) v) (hn : n ≤ 70000) (e3 : Hp → Prop) (he : ∀ h' z, Kp h0 h' o5 o5 → h'.at o5 = some ⟨true, 1, .byts n z⟩ → e3 h') :
    ∀ (d i fm : Nat) (h : Hp) (z : Nat), i + d = n → d < fm → Kp h0 h o5 o5 → h.at o5 = some ⟨true, 1, .byts n z⟩ → s_lagoonlaw1_FullL4 cf fuel e3 v (I n) (.slice o5 0 n true n) fm (I i) h
  | d, i, fm, h, z, hd, hm, kp, hat => by
    obtain ⟨fm, rfl⟩ : ∃ j, fm = j + 1 := ⟨fm - 1, by omega⟩
    rw [s_lagoonlaw1_FullL4_succ]
    unfold s_lagoonlaw1_FullL4B
    have hvh : ByH h v l := hv.same kp.1 fun o off n kn c e ho => kp.2 o ho (hq _ _ _ _ _ e) (hq _ _ _ _ _ e)
    have hb := hvh.bound
    by_cases hi : i < n
    · obtain ⟨d, rfl⟩ : ∃ j, d = j + 1 := ⟨d - 1, by omega⟩
      have e1 : ((i : Int) + 1) = ((i + 1 : Nat) : Int) := by omega
      by_cases hl : 0 < l.length
      · have hmod : i % l.length < l.length := Nat.mod_lt _ hl
        have e2 : ((i : Int).tmod (l.length : Int)) = ((i % l.length : Nat) : Int) := by
          rw [Int.tmod_eq_emod_of_nonneg (by omega)]
          omega
        obtain ⟨o, off, kn, c, e, rfl, hatv, hc⟩ := byAt hvh hl
        have ci := hc _ hmod
        (try unfold vMov); repeat' (first | refine Step.imp ?_ | (refine Way.mk (fun hp => ?_) (fun hp => ?_) <;> first | contradiction | (exfalso; omega) | skip) | refine LoadG.mkG ?_ | refine LoadsG.mkG ?_ | refine AtG.mkG ?_ | refine StoreG.mkG ?_ | refine CondG.mkG ?_ | fail); (all_goals (try dsimp only))
        rw [vRem_int _ _ _ (by omega), e2]
        (try unfold vMov); repeat' (first | refine Step.imp ?_ | (refine Way.mk (fun hp => ?_) (fun hp => ?_) <;> first | contradiction | (exfalso; omega) | skip) | refine LoadG.mkG ?_ | refine LoadsG.mkG ?_ | refine AtG.mkG ?_ | refine StoreG.mkG ?_ | refine CondG.mkG ?_ | (refine LoadG.mk2 hatv ci (by omega) ?_) | fail); (all_goals (try dsimp only))
        refine stByte hat (by omega) (fun z' => ?_)
        (try unfold vMov); repeat' (first | refine Step.imp ?_ | (refine Way.mk (fun hp => ?_) (fun hp => ?_) <;> first | contradiction | (exfalso; omega) | skip) | refine LoadG.mkG ?_ | refine LoadsG.mkG ?_ | refine AtG.mkG ?_ | refine StoreG.mkG ?_ | refine CondG.mkG ?_ | fail); (all_goals (try dsimp only))
        rw [e1]
        exact FullL4_run hv hq hn e3 he d (i + 1) fm _ z' (by omega) (by omega) (kp.trans ⟨Nat.le_refl _, fun o _ q2 _ => Hp.at_put_ne _ q2⟩) (Hp.at_put_self _ _ _)
      · have hz : l.length = 0 := by omega
        (try unfold vMov); repeat' (first | refine Step.imp ?_ | (refine Way.mk (fun hp => ?_) (fun hp => ?_) <;> first | contradiction | (exfalso; omega) | skip) | refine LoadG.mkG ?_ | refine LoadsG.mkG ?_ | refine AtG.mkG ?_ | refine StoreG.mkG ?_ | refine CondG.mkG ?_ | (refine lenB_go hvh ?_) | fail); (all_goals (try dsimp only))
        exact he h z kp hat
    · have hd0 : d = 0 := by omega
      subst hd0
      (try unfold vMov); repeat' (first | refine Step.imp ?_ | (refine Way.mk (fun hp => ?_) (fun hp => ?_) <;> first | contradiction | (exfalso; omega) | skip) | refine LoadG.mkG ?_ | refine LoadsG.mkG ?_ | refine AtG.mkG ?_ | refine StoreG.mkG ?_ | refine CondG.mkG ?_ | fail); (all_goals (try dsimp only))
      exact he h z kp hat
def cFull : ConD := fun args h K => ∃ v l, ∃ n : Nat, args = [v, I n] ∧ ByH h v l ∧ n ≤ 70000 ∧ ∀ v' h' l', Ext h h' → ByH h' v' l' → l'.length = n → Fr h.next v' → K v' h'
theorem cFull_go {cf : CallK} {g : FuncId} (hg : cf g = cFull) {v : AV} {l : List UInt8} {n : Nat} (hv : ByH h v l) (hn : n ≤ 70000) (hK : ∀ v' h' l', Ext h h' → ByH h' v' l' → l'.length = n → Fr h.next v' → K v' h') : cf g [v, I n] h K := by rw [hg]; exact ⟨v, l, n, rfl, hv, hn, hK⟩
theorem Full_run {v : AV} {l : List UInt8} {n : Nat} (hv : ByH h v l) (hn : n ≤ 70000) (hf : 70001 < fuel) (hK : ∀ v' h' l', Ext h h' → ByH h' v' l' → l'.length = n → Fr h.next v' → K v' h') : s_lagoonlaw1_Full cf fuel v (I n) h K := by
  unfold s_lagoonlaw1_Full
  (try unfold vMov); repeat' (first | refine Step.imp ?_ | (refine Way.mk (fun hp => ?_) (fun hp => ?_) <;> first | contradiction | (exfalso; omega) | skip) | refine LoadG.mkG ?_ | refine LoadsG.mkG ?_ | refine AtG.mkG ?_ | refine StoreG.mkG ?_ | refine CondG.mkG ?_ | (refine mkBytes_go (n := n) (by omega) ?_) | fail); (all_goals (try dsimp only))
  have x0 : Ext h (h.new ⟨true, 1, .byts n 0⟩) := (by repeat (first | exact Ext.refl _ | assumption | apply Ext.new | (refine Ext.put ?_ _ (by first | omega | (simp; done) | (simp; omega)))))
  refine FullL4_run cf fuel (hv.mono x0) (o5 := h.next) (fun o off m kn c e => by have := hv.lt e; omega) hn _ (fun h2 z k2 a2 => ?_) n 0 fuel _ 0 (by omega) (by omega) ⟨Nat.le_refl _, fun _ _ _ _ => rfl⟩ (Hp.at_new_self _ _)
  unfold s_lagoonlaw1_FullE3
  have n0 := x0.next
  have hlt : h.next < h2.next := by
    have := k2.1
    simp only [Hp.next_new] at this
    omega
  refine hK _ h2 (bytesL n z) ⟨by omega, fun o ho => by rw [k2.2 o (by omega) (by omega) (by omega), x0.same o ho]⟩ (.inr (.inr ⟨h.next, 0, true, n, _, n, z, by rw [bytesL_length], hlt, a2, rfl, by rw [bytesL_length]; omega, ⟨by rw [bytesL_length]; omega, fun _ => by rw [bytesL_length]; omega⟩, by rw [List.drop_zero, bytesL_length, List.take_of_length_le (by rw [bytesL_length]; omega)]⟩)) (bytesL_length _ _) (fun o off m kn c e => by cases e; exact Nat.le_refl _)
end
end Lg

namespace Lg
set_option linter.unusedSimpArgs false
set_option linter.unusedVariables false
set_option maxRecDepth 100000
open Go Go.Am
open Go.Proofs.Ytnhamanffojhfaa.shl
/-- Nothing. -/
theorem ext_none (h : Hp) : Ext ⟨.lf, 0⟩ h := ⟨Nat.zero_le _, fun o ho => absurd ho (Nat.not_lt_zero _)⟩
theorem SlN_rowat {h : Hp} {v : AV} {els : List (List AV)} {B : Nat} (hs : SlN h 1 v els B) {o off n : Nat} {kn : Bool} {c : Nat} (e : v = .slice o off n kn c) : RowAt h o := by
  rcases hs with ⟨rfl, _⟩ | ⟨o', ob, rfl, h2, h3, h4, h5, h6⟩
  · cases e
  · cases e
    exact ⟨_, _, h4, h5⟩
theorem LisR.own {h h' : Hp} {els : List (List AV)} {L : List (List UInt8)} (r : LisR h els L) {v : AV} {es : List (List AV)} {B : Nat} (hs : SlN h 1 v es B) (hn : h.next ≤ h'.next) (hp : ∀ p, p < h.next → (∀ off n kn c, v ≠ .slice p off n kn c) → h'.at p = h.at p) : LisR h' els L := ⟨r.1, fun j h1 h2 => by
  obtain ⟨a, q1, q2⟩ := r.2 j h1 h2
  exact ⟨a, q1, q2.same hn fun o off n kn c e ho => hp o ho fun off' n' kn' c' e' => q2.row_ne (SlN_rowat hs e') e rfl⟩⟩
theorem zeroN_snoc (i : Nat) : zeroN (i + 1) = zeroN i ++ [zeroB] := List.replicate_succ'
theorem LisR.snoc {h : Hp} {els : List (List AV)} {L : List (List UInt8)} (r : LisR h els L) {a : AV} {l : List UInt8} (ha : ByH h a l) : LisR h (els ++ [[a]]) (L ++ [l]) := ⟨by simp [r.1], fun j h1 h2 => by
  have hl := r.1
  by_cases hj : j < els.length
  · rw [List.getElem_append_left hj, List.getElem_append_left (by omega)]
    exact r.2 j hj (by omega)
  · have : j = els.length := by simp at h1; omega
    subst this
    rw [List.getElem_append_right (by omega), List.getElem_append_right (by omega)]
    simp only [hl, Nat.sub_self, List.getElem_cons_zero]
    exact ⟨a, rfl, ha⟩⟩
section
variable (cf : CallK) (fuel : Nat) {h : Hp} {K : AV → Hp → Prop}
theorem freshL1_run {h0 : Hp} {n : Nat} (hn : 16 ≤ n) (hn2 : n ≤ 65536) (t5 t7 : AV) (e0 : AV → Hp → Prop) (he : ∀ v els h', Ext h0 h' → SlN h' 1 v els h0.next → LisR h' els (zeroN (roomN n)) → e0 v h') :
    ∀ (d i fm : Nat) (h : Hp) (t9 : AV) (els : List (List AV)), i + d = roomN n → d < fm → Ext h0 h → SlN h 1 t9 els h0.next → LisR h els (zeroN i) → s_lagoonlaw6_freshL1 cf fuel e0 (I n) t5 t7 fm t9 (I i) h
  | d, i, fm, h, t9, els, hd, hm, hx, hs, hl => by
    obtain ⟨fm, rfl⟩ : ∃ j, fm = j + 1 := ⟨fm - 1, by omega⟩
    rw [s_lagoonlaw6_freshL1_succ]
    unfold s_lagoonlaw6_freshL1B
    have hr : roomN n = (n - 8) / 4 := if_neg (by omega)
    have e4 : ((n : Int) - 8) / 4 = ((roomN n : Nat) : Int) := by rw [hr]; omega
    have hl1 := hl.1
    rw [zeroN_len] at hl1
    (try unfold vMov); repeat' (first | refine Step.imp ?_ | (refine Way.mk (fun hp => ?_) (fun hp => ?_) <;> first | contradiction | (exfalso; omega) | skip) | refine LoadG.mkG ?_ | refine LoadsG.mkG ?_ | refine AtG.mkG ?_ | refine StoreG.mkG ?_ | refine CondG.mkG ?_ | fail); (all_goals (try dsimp only))
    rw [vDiv_int _ _ _ (by omega), wrap64_in (by rw [Int.tdiv_eq_ediv_of_nonneg (by omega)]; omega) (by rw [Int.tdiv_eq_ediv_of_nonneg (by omega)]; omega), Int.tdiv_eq_ediv_of_nonneg (by omega), e4]
    by_cases hi : i < roomN n
    · obtain ⟨d, rfl⟩ : ∃ j, d = j + 1 := ⟨d - 1, by omega⟩
      have e1 : ((i : Int) + 1) = ((i + 1 : Nat) : Int) := by omega
      have hbig : roomN n ≤ 65536 := by omega
      (try unfold vMov); repeat' (first | refine Step.imp ?_ | (refine Way.mk (fun hp => ?_) (fun hp => ?_) <;> first | contradiction | (exfalso; omega) | skip) | refine LoadG.mkG ?_ | refine LoadsG.mkG ?_ | refine AtG.mkG ?_ | refine StoreG.mkG ?_ | refine CondG.mkG ?_ | (refine mkBytes_go (n := 512) (by omega) ?_) | fail); (all_goals (try dsimp only))
      have hrow : setL (repL [AV.nilslice] 1) 0 [.slice h.next 0 512 true 512] = [.slice h.next 0 512 true 512] := rfl
      try rw [hrow]
      have xA : Ext h (h.new ⟨true, 1, .byts 512 0⟩) := (by repeat (first | exact Ext.refl _ | assumption | apply Ext.new | (refine Ext.put ?_ _ (by first | omega | (simp; done) | (simp; omega)))))
      have hz : ByH (h.new ⟨true, 1, .byts 512 0⟩) (.slice h.next 0 512 true 512) zeroB := by
        refine .inr (.inr ⟨h.next, 0, true, 512, _, 512, 0, rfl, by simp [Hp.next_new], Hp.at_new_self _ _, rfl, by simp [zeroB], by simp [zeroB], ?_⟩)
        rw [bytesL_zero]
        rfl
      generalize (h.new ⟨true, 1, .byts 512 0⟩) = hA at *
      have hsB : SlN (hA.new ⟨true, 1, .row [.slice h.next 0 512 true 512]⟩) 1 t9 els h0.next := (hs.ext xA).ext (by repeat (first | exact Ext.refl _ | assumption | apply Ext.new | (refine Ext.put ?_ _ (by first | omega | (simp; done) | (simp; omega)))))
      have hlB : LisR (hA.new ⟨true, 1, .row [.slice h.next 0 512 true 512]⟩) (els ++ [[.slice h.next 0 512 true 512]]) (zeroN (i + 1)) := by
        rw [zeroN_snoc]
        exact ((hl.mono xA).snoc hz).mono (by repeat (first | exact Ext.refl _ | assumption | apply Ext.new | (refine Ext.put ?_ _ (by first | omega | (simp; done) | (simp; omega)))))
      have nA := xA.next
      refine append_own2 (els := els) (news := [[.slice h.next 0 512 true 512]]) (B := h0.next) (h0 := ⟨.lf, 0⟩) (ext_none _) hsB (Nat.zero_le _) (by have := hx.next; simp only [Hp.next_new]; omega) ⟨_, 0, true, 1, _, rfl, Hp.at_new_self _ _, rfl⟩ (by intro x hx1; rw [List.mem_singleton.1 hx1]; rfl) (by simp) (by simp only [List.length_singleton]; omega) (fun v' h' w1 w2 w3 w4 => ?_)
      (try unfold vMov); repeat' (first | refine Step.imp ?_ | (refine Way.mk (fun hp => ?_) (fun hp => ?_) <;> first | contradiction | (exfalso; omega) | skip) | refine LoadG.mkG ?_ | refine LoadsG.mkG ?_ | refine AtG.mkG ?_ | refine StoreG.mkG ?_ | refine CondG.mkG ?_ | fail); (all_goals (try dsimp only))
      rw [e1]
      have nB : (hA.new ⟨true, 1, .row [.slice h.next 0 512 true 512]⟩).next = hA.next + 1 := rfl
      have n0 := hx.next
      refine freshL1_run hn hn2 t5 t7 e0 he d (i + 1) fm h' v' _ (by omega) (by omega) ⟨by omega, fun o ho => ?_⟩ (w4.weak (by omega)) (hlB.own hsB (by omega) w3)
      rw [w3 o (by omega) (fun off m kn c e => ?_), Hp.at_new_lt _ (by omega), xA.same o (by omega), hx.same o ho]
      rcases hs with ⟨e9, _⟩ | ⟨o9, ob9, e9, b9, _⟩
      · rw [e9] at e; cases e
      · rw [e9] at e
        cases e
        omega
    · have hd0 : d = 0 := by omega
      subst hd0
      (try unfold vMov); repeat' (first | refine Step.imp ?_ | (refine Way.mk (fun hp => ?_) (fun hp => ?_) <;> first | contradiction | (exfalso; omega) | skip) | refine LoadG.mkG ?_ | refine LoadsG.mkG ?_ | refine AtG.mkG ?_ | refine StoreG.mkG ?_ | refine CondG.mkG ?_ | fail); (all_goals (try dsimp only))
      have : i = roomN n := by omega
      rw [this] at hl
      exact he t9 els h hx hs hl
end
end Lg

namespace Lg
set_option linter.unusedSimpArgs false
set_option linter.unusedVariables false
set_option maxRecDepth 100000
open Go Go.Am
open Go.Proofs.Ytnhamanffojhfaa.shl
/-- An own slice of values, of which the capacity is not known, or just met. -/
def OwnR (h : Hp) (B : Nat) (x : AV) (ats : List AV) : Prop := ∃ o kn ob, x = .slice o 0 ats.length kn (if kn = true then ats.length else 0) ∧ B ≤ o ∧ o < h.next ∧ h.at o = some ⟨true, 1, ob⟩ ∧ Cells ob ats ∧ ats ≠ []
/-- The model: m lists, of which the last one reads as L. -/
def MdlS (h : Hp) (B mo m : Nat) (L : List (List UInt8)) : Prop := B ≤ mo ∧ mo < h.next ∧ ∃ x ats sy lastv els, h.at mo = some ⟨true, 2, .row [x, I sy]⟩ ∧ OwnR h B x ats ∧ ats.length = m ∧ ats.getLast? = some lastv ∧ SlN h 1 lastv els B ∧ LisR h els L
theorem fmtN_heads (n : Nat) (hn : 16 ≤ n) : HeadsOK (fmtN n) 0 0 := by
  refine ⟨0, 0, by omega, by omega, rfl, ?_, .inl ⟨?_, rfl, rfl⟩⟩
  · unfold fmtN
    rw [List.getElem?_set_self (by rw [zeroN_len]; omega)]
  · unfold fmtN
    rw [List.getElem?_set_ne (by omega)]
    unfold zeroN
    rw [List.getElem?_replicate, if_pos (by omega)]
theorem fmtN_len (n : Nat) : (fmtN n).length = n := by simp [fmtN, zeroN_len]
theorem fmtN_side (n : Nat) (hn : 16 ≤ n) : sideN (fmtN n) (roomN n) 0 = zeroN (roomN n) := by
  have hr := roomN_fits n hn
  have hl := sideN_len (fmtN n) (roomN n) 0 (by rw [fmtN_len]; exact hr.1)
  refine List.ext_getElem? fun j => ?_
  by_cases hj : j < roomN n
  · rw [sideN_get _ _ _ _ hj]
    unfold fmtN placeN
    rw [List.getElem?_set_ne (by omega)]
    unfold zeroN
    rw [List.getElem?_replicate, List.getElem?_replicate, if_pos hj, if_pos (by omega)]
  · rw [List.getElem?_eq_none (by rw [hl]; omega), List.getElem?_eq_none (by rw [zeroN_len]; omega)]
section
variable (cf : CallK) (fuel : Nat) {h : Hp} {K : AV → Hp → Prop}
def FreshP (h h' : Hp) (n p q vo wo mo : Nat) : Prop := Ext h h' ∧ DevN h' p q (fmtN n) (fmtN n) ∧ VolR h' vo wo p (zeroN (roomN n)) 0 0 false false ∧ ((vo ≠ p ∧ vo ≠ q) ∧ wo ≠ p ∧ wo ≠ q) ∧ (h.next ≤ p ∧ h.next ≤ q ∧ h.next ≤ vo ∧ h.next ≤ wo) ∧ ∃ B, p < B ∧ q < B ∧ vo < B ∧ wo < B ∧ B ≤ h'.next ∧ MdlS h' B mo 1 (zeroN (roomN n))
def cFresh : ConD := fun args h K => ∃ n : Nat, args = [I n] ∧ (16 ≤ n ∧ n ≤ 65536) ∧ ∀ p q vo wo mo h', FreshP h h' n p q vo wo mo → K (.tup [.ptr p 0, .ptr vo 0, .ptr mo 0]) h'
theorem cFresh_go {cf : CallK} {g : FuncId} (hg : cf g = cFresh) {n : Nat} (hn : 16 ≤ n ∧ n ≤ 65536) (hK : ∀ p q vo wo mo h', FreshP h h' n p q vo wo mo → K (.tup [.ptr p 0, .ptr vo 0, .ptr mo 0]) h') : cf g [I n] h K := by rw [hg]; exact ⟨n, rfl, hn, hK⟩
theorem fresh_run (hN : cf 86 = cDNew) (hF : cf 87 = cFormat) (hM : cf 47 = cMount) {n : Nat} (hn : 16 ≤ n ∧ n ≤ 65536) (hf : 65537 < fuel) (hK : ∀ p q vo wo mo h', FreshP h h' n p q vo wo mo → K (.tup [.ptr p 0, .ptr vo 0, .ptr mo 0]) h') : s_lagoonlaw6_fresh cf fuel (I n) h K := by
  unfold s_lagoonlaw6_fresh
  obtain ⟨n1, n2⟩ := hn
  have hr := roomN_fits n n1
  refine new_goN hN ⟨by omega, n2⟩ (fun p q hA xA fp fq dA => ?_)
  refine cFormat_go hF dA n1 (fun hB kB dB => ?_)
  have xB : Ext h hB := ⟨Nat.le_trans xA.next kB.1, fun o ho => by rw [kB.2 o (Nat.lt_of_lt_of_le ho xA.next) (by omega) (by omega), xA.same o ho]⟩
  obtain ⟨rp, rq, pl, ql, hpq⟩ := dB.rows
  refine cMount_go hM dB (by rw [fmtN_len]; exact n1) (fmtN_heads n n1) (fun vo wo hC xC fv fw vC => ?_)
  rw [fmtN_len, fmtN_side n n1] at vC
  have dC := dB.ext xC
  have nB := xB.next
  have nC := xC.next
  (try unfold vMov); repeat' (first | refine Step.imp ?_ | (refine Way.mk (fun hp => ?_) (fun hp => ?_) <;> first | contradiction | (exfalso; omega) | skip) | refine LoadG.mkG ?_ | refine LoadsG.mkG ?_ | refine AtG.mkG ?_ | refine StoreG.mkG ?_ | refine CondG.mkG ?_ | fail); (all_goals (try dsimp only))
  refine freshL1_run cf fuel (h0 := hC) n1 n2 _ _ _ (fun t9 els hD xD sD lD => ?_) (roomN n) 0 fuel hC .nilslice [] (by omega) (by omega) (Ext.refl hC) (.inl ⟨rfl, rfl⟩) ⟨rfl, fun j h1 => by simp at h1⟩
  unfold s_lagoonlaw6_freshE0
  have ct : cellsV t9 = some [t9] := by
    rcases sD with ⟨rfl, _⟩ | ⟨o, ob, rfl, _⟩ <;> rfl
  have hvlt := vC.vol.1
  have hwlt := vC.row.1
  have nD := xD.next
  (try unfold vMov); repeat' (first | refine Step.imp ?_ | (refine Way.mk (fun hp => ?_) (fun hp => ?_) <;> first | contradiction | (exfalso; omega) | skip) | refine LoadG.mkG ?_ | refine LoadsG.mkG ?_ | refine AtG.mkG ?_ | refine StoreG.mkG ?_ | refine CondG.mkG ?_ | (refine stFill_aux _ _ _ _ _ _ _ ct ⟨⟨rfl, by simp [setL, repL]⟩, ?_⟩) | fail); (all_goals (try dsimp only))
  have xE : Ext hD ((hD.new ⟨true, 1, .row [t9]⟩).new ⟨true, 2, .row [.slice hD.next 0 1 true 1, I 0]⟩) := (by repeat (first | exact Ext.refl _ | assumption | apply Ext.new | (refine Ext.put ?_ _ (by first | omega | (simp; done) | (simp; omega)))))
  have aE : ((hD.new ⟨true, 1, .row [t9]⟩).new ⟨true, 2, .row [.slice hD.next 0 1 true 1, I 0]⟩).at hD.next = some ⟨true, 1, .row [t9]⟩ := by rw [Hp.at_new_lt _ (by simp only [Hp.next_new]; omega), Hp.at_new_self]
  refine hK p q vo wo (hD.next + 1) ((hD.new ⟨true, 1, .row [t9]⟩).new ⟨true, 2, .row [.slice hD.next 0 1 true 1, I 0]⟩) ⟨((xB.trans xC).trans xD).trans xE, (dC.ext xD).ext xE, (vC.ext xD).ext xE, ⟨⟨by omega, by omega⟩, by omega, by omega⟩, ⟨by omega, by omega, by omega, by omega⟩, hC.next, by omega, by omega, hvlt, hwlt, by simp only [Hp.next_new]; omega, by omega, by simp only [Hp.next_new]; omega, .slice hD.next 0 1 true 1, [t9], 0, t9, els, Hp.at_new_self (hD.new ⟨true, 1, .row [t9]⟩) _, ⟨hD.next, true, .row [t9], rfl, by omega, by simp only [Hp.next_new]; omega, aE, Cells.row _, by simp⟩, rfl, rfl, sD.ext xE, lD.mono xE⟩
end
end Lg

namespace Lg
set_option linter.unusedSimpArgs false
set_option linter.unusedVariables false
set_option maxRecDepth 100000
open Go Go.Am
open Go.Proofs.Ytnhamanffojhfaa.shl
section
variable (cf : CallK) (fuel : Nat) {h : Hp} {K : AV → Hp → Prop}
def cNow : ConD := fun args h K => ∃ B mo m L, args = [.ptr mo 0] ∧ MdlS h B mo m L ∧ m ≤ 1000000 ∧ ∀ v els, SlN h 1 v els B → LisR h els L → K v h
theorem cNow_go {cf : CallK} {g : FuncId} (hg : cf g = cNow) {B mo m : Nat} {L : List (List UInt8)} (hm : MdlS h B mo m L) (hb : m ≤ 1000000) (hK : ∀ v els, SlN h 1 v els B → LisR h els L → K v h) : cf g [.ptr mo 0] h K := by rw [hg]; exact ⟨B, mo, m, L, rfl, hm, hb, hK⟩
theorem now_run {B mo m : Nat} {L : List (List UInt8)} (hm : MdlS h B mo m L) (hb : m ≤ 1000000) (hK : ∀ v els, SlN h 1 v els B → LisR h els L → K v h) : s_lagoonlaw6_Model_now cf fuel (.ptr mo 0) h K := by
  unfold s_lagoonlaw6_Model_now
  obtain ⟨_, hlt, x, ats, sy, lastv, els, e1, ⟨o, kn, ob, rfl, hBo, hol, e2, e3, hne⟩, rfl, e4, e5, e6⟩ := hm
  have hpos : 0 < ats.length := List.length_pos_iff.2 hne
  have c0 : cellAt ob (ats.length - 1) = some lastv := by
    rw [e3.2.2, ← List.getLast?_eq_getElem?]
    exact e4
  (try unfold vMov); repeat' (first | refine Step.imp ?_ | (refine Way.mk (fun hp => ?_) (fun hp => ?_) <;> first | contradiction | (exfalso; omega) | skip) | refine LoadG.mkG ?_ | refine LoadsG.mkG ?_ | refine AtG.mkG ?_ | refine StoreG.mkG ?_ | refine CondG.mkG ?_ | (refine LoadG.mk e1 (by rfl) ?_) | (refine LoadG.mk2 e2 c0 (by omega) ?_) | fail); (all_goals (try dsimp only))
  exact hK lastv els e5 e6
end
/-- One more. -/
theorem appOwn_go {h : Hp} {B : Nat} {x : AV} {ats : List AV} {a : AV} {po : Nat} {K : AV → Hp → Prop} (hv : OwnR h B x ats) (hp : h.at po = some ⟨true, 1, .row [a]⟩) (hpl : po < h.next) (hs : ats.length + 1 ≤ 1000000) (hB : B ≤ h.next)
    (q : ∀ x' h', h.next < h'.next → (∀ p, p < h.next → (∀ off n kn c, x ≠ .slice p off n kn c) → h'.at p = h.at p) → OwnR h' B x' (ats ++ [a]) → K x' h') : vAppend2 1 24 false x (.slice po 0 1 true 1) h K := by
  obtain ⟨o, kn, ob, rfl, hBo, hol, e2, e3, hne⟩ := hv
  have hle : Nat.ble ((ats.length + 1) * 24) 140737488355328 = true := Nat.ble_eq_true_of_le (by omega)
  cases kn with
  | false =>
    -- it is as append_own2 has it
    have hs1 : SlN h 1 (.slice o 0 (ats.map fun y => [y]).length false 0) (ats.map fun y => [y]) B := .inr ⟨o, ob, rfl, hBo, hol, e2, by
      have : (ats.map fun y => [y]).flatten = ats := by
        clear e2 e3 hne hs hle q
        induction ats with
        | nil => rfl
        | cons y l ih => simp [ih]
      rw [this]; exact e3, by simp, by simpa using hne⟩
    have hlen : (ats.map fun y => [y]).length = ats.length := by simp
    rw [hlen] at hs1
    refine append_own2 (els := ats.map fun y => [y]) (news := [[a]]) (B := B) (h0 := ⟨.lf, 0⟩) (ext_none _) (by rw [← hlen] at hs1; simpa using hs1) (Nat.zero_le _) hB ⟨_, 0, true, 1, _, rfl, hp, rfl⟩ (by intro y hy; rw [List.mem_singleton.1 hy]; rfl) (by simp) (by simp; omega) (fun v' h' w1 w2 w3 w4 => ?_)
    refine q v' h' w2 w3 ?_
    rcases w4 with ⟨_, w⟩ | ⟨o', ob', rfl, u2, u3, u4, u5, u6⟩
    · simp at w
    · have hfl : ((ats.map fun y => [y]) ++ [[a]]).flatten = ats ++ [a] := by
        rw [List.flatten_append]
        have : (ats.map fun y => [y]).flatten = ats := by
          clear e2 e3 hne hs hle q w3 hs1 hlen u5 u6
          induction ats with
          | nil => rfl
          | cons y l ih => simp [ih]
        rw [this]
        rfl
      rw [hfl] at u5
      exact ⟨o', false, ob', by simp, by omega, u3, u4, u5, by simp⟩
  | true =>
    have hs1 : RdC h 1 (.slice po 0 1 true 1) [[a]] := ⟨po, 0, true, 1, _, rfl, hp, rfl⟩
    show srcK h 1 false (.slice po 0 1 true 1) (K (.slice o 0 ats.length true ats.length) h) (fun m l => joinK h o 0 ats.length m true ats.length 1 24 (fun ob => growK ob 0 (ats.length * 1) l) (fun ob => setCellsK l ob (0 + ats.length * 1)) K) (fun m z => joinK h o 0 ats.length m true ats.length 1 24 (fun ob => growBK ob 0 ats.length m z) (fun ob => overBK ob (0 + ats.length) m z) K)
    rw [srcK_cells hs1 (by simp)]
    show gd (Nat.ble ((ats.length + 1) * 24) 140737488355328) (asOpt (h.at o) fun e => gd (Nat.beq e.esz 1) (Bool.rec (motive := fun _ => Prop) (growK e.obj 0 (ats.length * 1) [a] fun ob => forceN (ats.length + 1) fun n => finK 1 n h ob K) (gd e.own (setCellsK [a] e.obj (0 + ats.length * 1) fun ob => putK h o (some ⟨true, e.esz, ob⟩) fun h => forceN (ats.length + 1) fun n => K (.slice o 0 n true ats.length) h)) (Nat.ble (ats.length + 1) ats.length)))
    have hb : Nat.ble (ats.length + 1) ats.length = false := by
      cases hq : Nat.ble (ats.length + 1) ats.length with
      | false => rfl
      | true => have := Nat.le_of_ble_eq_true hq; omega
    rw [hle, gd_true, e2, asOpt_some, hb]
    show gd (Nat.beq 1 1) (growK ob 0 (ats.length * 1) [a] fun ob => forceN (ats.length + 1) fun n => finK 1 n h ob K)
    refine gd_iff.2 ⟨rfl, ?_⟩
    rw [Nat.mul_one]
    refine growK_intro e3 fun ob' hob' => ?_
    rw [forceN_eq]
    unfold finK
    rw [newK_eq']
    exact q _ _ (by simp only [Hp.next_new]; omega) (fun p hp _ => Hp.at_new_lt _ hp) ⟨h.next, false, ob', by simp, hB, by simp only [Hp.next_new]; omega, Hp.at_new_self _ _, hob', by simp⟩
end Lg

namespace Lg
set_option linter.unusedSimpArgs false
set_option linter.unusedVariables false
set_option maxRecDepth 100000
open Go Go.Am
open Go.Proofs.Ytnhamanffojhfaa.shl
theorem place_ge (n k i : Nat) : 8 ≤ placeN n k i := by unfold placeN; omega
theorem place_le (n k : Nat) : placeN n k 0 ≤ 8 + n := by
  unfold placeN
  rcases Nat.mod_two_eq_zero_or_one k with h2 | h2 <;> rw [h2] <;> omega
theorem keptN_low (N L : List (List UInt8)) (k c j : Nat) (hj : j < 2) (hN : 8 + 2 * L.length ≤ N.length) : (keptN N L k c)[j]? = if j = (k + 1) % 2 then some (headB (k + 1) c) else N[j]? := by
  unfold keptN
  have h1 := place_ge L.length (k + 1) 0
  have h2 := place_le L.length (k + 1)
  by_cases e : j = (k + 1) % 2
  · rw [if_pos e, ← e, List.getElem?_set_self (by rw [wrN_len]; omega)]
  · rw [if_neg e, List.getElem?_set_ne (fun x => e x.symm), wrN_get _ _ _ _ (Nat.le_refl _) (by omega), if_neg (by omega)]
theorem keptN_side (N L : List (List UInt8)) (k c : Nat) (hN : 8 + 2 * L.length ≤ N.length) : sideN (keptN N L k c) L.length (k + 1) = L := by
  have hl := sideN_len (keptN N L k c) L.length (k + 1) (by rw [keptN_len]; exact hN)
  refine List.ext_getElem? fun j => ?_
  by_cases hj : j < L.length
  · rw [sideN_get _ _ _ _ hj]
    unfold keptN
    have h1 := place_ge L.length (k + 1) j
    have h2 := place_le L.length (k + 1)
    have h3 : placeN L.length (k + 1) j = placeN L.length (k + 1) 0 + j := by unfold placeN; omega
    rw [List.getElem?_set_ne (by omega), wrN_get _ _ _ _ (Nat.le_refl _) (by omega), if_pos (by omega)]
    congr 1
    omega
  · rw [List.getElem?_eq_none (by rw [hl]; omega), List.getElem?_eq_none (by omega)]
theorem keptN_heads (N L : List (List UInt8)) (k c cs : Nat) (hN : 8 + 2 * L.length ≤ N.length) (hh : HeadsOK N k cs) (hk : k + 1 ≤ 255) (hc : c ≤ 255) : HeadsOK (keptN N L k c) (k + 1) c := by
  have h0 := keptN_low N L k c 0 (by omega) hN
  have h1 := keptN_low N L k c 1 (by omega) hN
  obtain ⟨k0, c0, a1, a2, a3, a4, a5⟩ := hh
  rcases Nat.mod_two_eq_zero_or_one k with hp | hp
  · -- the other head is the second one
    rw [if_neg (by omega)] at h0
    rw [if_pos (by omega)] at h1
    have : k = k0 := by rcases a5 with ⟨_, e, _⟩ | ⟨k1, c1, b1, b2, b3, b4, ⟨_, e, _⟩ | ⟨_, e, _⟩⟩ <;> omega
    subst this
    exact ⟨k, c0, a1, a2, a3, by rw [h0]; exact a4, .inr ⟨k + 1, c, hk, hc, by omega, h1, .inl ⟨by omega, rfl, rfl⟩⟩⟩
  · rw [if_pos (by omega)] at h0
    rw [if_neg (by omega)] at h1
    rcases a5 with ⟨_, e, _⟩ | ⟨k1, c1, b1, b2, b3, b4, ⟨e1, e2, e3⟩ | ⟨e1, e2, e3⟩⟩
    · omega
    · subst e2
      exact ⟨k + 1, c, hk, hc, by omega, h0, .inr ⟨k, c1, b1, b2, b3, by rw [h1]; exact b4, .inr ⟨by omega, rfl, rfl⟩⟩⟩
    · omega
end Lg

namespace Lg
set_option linter.unusedSimpArgs false
set_option linter.unusedVariables false
set_option maxRecDepth 100000
open Go Go.Am
open Go.Proofs.Ytnhamanffojhfaa.shl
theorem cells3 {ob : AObj} {off : Nat} {a b c : AV} (h : cellsO ob 3 off = some [a, b, c]) : cellAt ob (off + 0) = some a ∧ cellAt ob (off + 1) = some b ∧ cellAt ob (off + 2) = some c := by
  unfold cellsO at h
  rw [Option.bind_eq_some_iff] at h
  obtain ⟨x, h0, h⟩ := h
  rw [Option.map_eq_some_iff] at h
  obtain ⟨l, h, e1⟩ := h
  cases e1
  unfold cellsO at h
  rw [Option.bind_eq_some_iff] at h
  obtain ⟨y, h1, h⟩ := h
  rw [Option.map_eq_some_iff] at h
  obtain ⟨l, h, e2⟩ := h
  cases e2
  exact ⟨h0, h1, cellsO_sub1 h⟩
abbrev LPut := Int × List UInt8 × Bool
def LPutR (h : Hp) (els : List (List AV)) (qs : List LPut) : Prop := els.length = qs.length ∧ ∀ j (h1 : j < els.length) (h2 : j < qs.length), ∃ d, els[j] = [I qs[j].1, d, .bool qs[j].2.2] ∧ ByH h d qs[j].2.1
theorem LPutR.mono {h h' : Hp} {els : List (List AV)} {qs : List LPut} (r : LPutR h els qs) (x : Ext h h') : LPutR h' els qs := ⟨r.1, fun j h1 h2 => by
  obtain ⟨d, a, b⟩ := r.2 j h1 h2
  exact ⟨d, a, b.mono x⟩⟩
theorem PutsR.own {h h' : Hp} {els : List (List AV)} {ps : List (Int × List UInt8)} (r : PutsR h els ps) {v : AV} {es : List (List AV)} {B : Nat} (hs : SlN h 2 v es B) (hn : h.next ≤ h'.next) (hp : ∀ p, p < h.next → (∀ off n kn c, v ≠ .slice p off n kn c) → h'.at p = h.at p) : PutsR h' els ps := ⟨r.1, fun j h1 h2 => by
  obtain ⟨a, q1, q2⟩ := r.2 j h1 h2
  refine ⟨a, q1, q2.same hn fun o off n kn c e ho => hp o ho fun off' n' kn' c' e' => ?_⟩
  rcases hs with ⟨rfl, _⟩ | ⟨o9, ob9, rfl, u2, u3, u4, u5, u6⟩
  · cases e'
  · cases e'
    exact q2.row_ne ⟨_, _, u4, u5⟩ e rfl⟩
theorem PutsR.snoc {h : Hp} {els : List (List AV)} {ps : List (Int × List UInt8)} (r : PutsR h els ps) {b : Int} {a : AV} {l : List UInt8} (ha : ByH h a l) : PutsR h (els ++ [[I b, a]]) (ps ++ [(b, l)]) := ⟨by simp [r.1], fun j h1 h2 => by
  have hl := r.1
  by_cases hj : j < els.length
  · rw [List.getElem_append_left hj, List.getElem_append_left (by omega)]
    exact r.2 j hj (by omega)
  · have : j = els.length := by simp at h1; omega
    subst this
    rw [List.getElem_append_right (by omega), List.getElem_append_right (by omega)]
    simp only [hl, Nat.sub_self, List.getElem_cons_zero]
    exact ⟨a, rfl, ha⟩⟩
section
variable (cf : CallK) (fuel : Nat) {h : Hp} {K : AV → Hp → Prop}
theorem putsL1_run (hF : cf 50 = cFull) {h0 : Hp} {v : AV} {els : List (List AV)} {qs : List LPut} (hr : Rd h0 3 v els) (hqs : LPutR h0 els qs) (hsm : els.length ≤ 4000000000000) {n : Nat} (hn : n ≤ 65536) (e0 : AV → AV → Hp → Prop)
    (he : ∀ v' es ps h', Ext h0 h' → SlN h' 2 v' es h0.next → PutsR h' es ps → ps.length = qs.length → e0 v' (.bool (mayP n ps)) h') :
    ∀ (d i fm : Nat) (h : Hp) (t6 : AV) (es : List (List AV)) (ps : List (Int × List UInt8)), i + d = els.length → d < fm → Ext h0 h → SlN h 2 t6 es h0.next → PutsR h es ps → ps.length = i → s_lagoonlaw6_putsL1 cf fuel e0 v (I n) fm t6 (.bool (decide (qs.length ≤ n) && ps.all (okP n))) (I i) h
  | d, i, fm, h, t6, es, ps, hd, hm, hx, hs, hp6, hpl => by
    obtain ⟨fm, rfl⟩ : ∃ j, fm = j + 1 := ⟨fm - 1, by omega⟩
    rw [s_lagoonlaw6_putsL1_succ]
    unfold s_lagoonlaw6_putsL1B
    have hl1 := hqs.1
    have hl6 := hp6.1
    rw [rdLen hr]
    try dsimp only
    by_cases hi : i < els.length
    · obtain ⟨d, rfl⟩ : ∃ j, d = j + 1 := ⟨d - 1, by omega⟩
      have e1 : ((i : Int) + 1) = ((i + 1 : Nat) : Int) := by omega
      have hi2 : i < qs.length := by omega
      obtain ⟨o, off, kn, c', e, rfl, hat, hc⟩ := (hr.mono hx).openS hi
      have ci := hc i hi
      obtain ⟨dv, hcs, hdv⟩ := (hqs.mono hx).2 i hi hi2
      obtain ⟨⟨b, bl, s⟩, hq⟩ : ∃ q : LPut, qs[i] = q := ⟨_, rfl⟩
      rw [hcs, hq] at ci
      rw [hq] at hdv
      dsimp only at ci hdv
      obtain ⟨c0, c1, c2⟩ := cells3 ci
      have hol : o < h.next := by
        rcases hr.mono hx with ⟨e', _⟩ | ⟨_, e', _⟩ | ⟨o', _, _, _, _, e', ho', _⟩
        · cases e'
        · cases e'
        · cases e'; exact ho'
      have step : ∀ (sz : Nat), sz ≤ 70000 → (∀ v1 h1 l1, Ext h h1 → ByH h1 v1 l1 → l1.length = sz → ∀ (t6' : AV) (h2 : Hp), Ext h0 h2 → SlN h2 2 t6' (es ++ [[I b, v1]]) h0.next → PutsR h2 (es ++ [[I b, v1]]) (ps ++ [(b, l1)]) → s_lagoonlaw6_putsL1 cf fuel e0 (.slice o off els.length kn c') (I n) fm t6' (.bool (decide (qs.length ≤ n) && (ps ++ [(b, l1)]).all (okP n))) (I ((i + 1 : Nat) : Int)) h2) := fun sz hsz v1 h1 l1 x1 y1 z1 t6' h2 x2 s2 p2 =>
        putsL1_run hF hr hqs hsm hn e0 he d (i + 1) fm h2 t6' _ _ (by omega) (by omega) x2 s2 p2 (by simp [hpl])
      have hallS : ∀ l1 : List UInt8, (decide (qs.length ≤ n) && (ps ++ [(b, l1)]).all (okP n)) = ((decide (qs.length ≤ n) && ps.all (okP n)) && okP n (b, l1)) := fun l1 => by
        rw [List.all_append, Bool.and_assoc]
        simp
      generalize hok : (decide (qs.length ≤ n) && ps.all (okP n)) = okb at *
      (try unfold vMov); repeat' (first | refine Step.imp ?_ | (refine Way.mk (fun hp => ?_) (fun hp => ?_) <;> first | contradiction | (exfalso; omega) | skip) | refine LoadG.mkG ?_ | refine LoadsG.mkG ?_ | refine AtG.mkG ?_ | refine StoreG.mkG ?_ | refine CondG.mkG ?_ | fail); (all_goals (try dsimp only))
      unfold s_lagoonlaw6_putsB19
      cases s
      all_goals
        (try unfold vMov); repeat' (first | refine Step.imp ?_ | (refine Way.mk (fun hp => ?_) (fun hp => ?_) <;> first | contradiction | (exfalso; omega) | skip) | refine LoadG.mkG ?_ | refine LoadsG.mkG ?_ | refine AtG.mkG ?_ | refine StoreG.mkG ?_ | refine CondG.mkG ?_ | (refine LoadG.mk2 hat c2 (by omega) ?_) | (refine LoadG.mk2 hat c0 (by omega) ?_) | (refine LoadG.mk2 hat c1 (by omega) ?_) | fail); (all_goals (try dsimp only))
      · refine cFull_go (n := 512) hF hdv (by omega) (fun v1 h1 l1 x1 y1 z1 w1 => ?_)
        have hat1 : h1.at o = some e := (x1.same o hol).trans hat
        have cv := y1.cellB
        (try unfold vMov); repeat' (first | refine Step.imp ?_ | (refine Way.mk (fun hp => ?_) (fun hp => ?_) <;> first | contradiction | (exfalso; omega) | skip) | refine LoadG.mkG ?_ | refine LoadsG.mkG ?_ | refine AtG.mkG ?_ | refine StoreG.mkG ?_ | refine CondG.mkG ?_ | (refine LoadG.mk2 hat1 c0 (by omega) ?_) | (refine stFill_aux _ _ _ _ _ _ _ cv ⟨⟨rfl, by simp [setL, repL]⟩, ?_⟩) | fail); (all_goals (try dsimp only))
        refine append_own2 (els := es) (news := [[I b, v1]]) (B := h0.next) (h0 := ⟨.lf, 0⟩) (ext_none _) ((hs.ext x1).ext (by repeat (first | exact Ext.refl _ | assumption | apply Ext.new | (refine Ext.put ?_ _ (by first | omega | (simp; done) | (simp; omega)))))) (Nat.zero_le _) (by have := hx.next; have := x1.next; simp only [Hp.next_new]; omega) ⟨_, 0, true, 1, _, rfl, Hp.at_new_self _ _, rfl⟩ (by intro y hy; rw [List.mem_singleton.1 hy]; rfl) (by simp) (by simp only [List.length_singleton]; omega) (fun t6' h2 u1 u2 u3 u4 => ?_)
        have ho0 : o < h0.next := by
          rcases hr with ⟨e', _⟩ | ⟨_, e', _⟩ | ⟨o', _, _, _, _, e', ho', _⟩
          · cases e'
          · cases e'
          · cases e'; exact ho'
        have n0 := hx.next
        have n1 := x1.next
        have hno : ∀ q, q < h0.next → ∀ off n kn c, t6 ≠ .slice q off n kn c := fun q hq off n kn c e' => by
          rcases hs with ⟨e9, _⟩ | ⟨o9, ob9, e9, b9, _⟩
          · rw [e9] at e'; cases e'
          · rw [e9] at e'
            cases e'
            omega
        have x2 : Ext h0 h2 := ⟨by simp only [Hp.next_new] at u2; omega, fun q hq => by rw [u3 q (by simp only [Hp.next_new]; omega) (hno q hq), Hp.at_new_lt _ (by omega), x1.same q (by omega), hx.same q hq]⟩
        have hat2 : h2.at o = some e := by rw [u3 o (by simp only [Hp.next_new]; omega) (hno o ho0), Hp.at_new_lt _ (by omega)]; exact hat1
        have p2 : PutsR h2 (es ++ [[I b, v1]]) (ps ++ [(b, l1)]) := PutsR.own (((hp6.mono x1).snoc y1).mono (by repeat (first | exact Ext.refl _ | assumption | apply Ext.new | (refine Ext.put ?_ _ (by first | omega | (simp; done) | (simp; omega)))))) ((hs.ext x1).ext (by repeat (first | exact Ext.refl _ | assumption | apply Ext.new | (refine Ext.put ?_ _ (by first | omega | (simp; done) | (simp; omega)))))) (by simp only [Hp.next_new] at *; omega) u3
        have fin := step 512 (by omega) v1 h1 l1 x1 y1 z1 t6' h2 x2 (u4.weak (by simp only [Hp.next_new]; omega)) p2
        rw [hallS l1] at fin
        cases okb
        all_goals
          (try unfold vMov); repeat' (first | refine Step.imp ?_ | (refine Way.mk (fun hp => ?_) (fun hp => ?_) <;> first | contradiction | (exfalso; omega) | skip) | refine LoadG.mkG ?_ | refine LoadsG.mkG ?_ | refine AtG.mkG ?_ | refine StoreG.mkG ?_ | refine CondG.mkG ?_ | (refine LoadG.mk2 hat2 c0 (by omega) ?_) | fail); (all_goals (try dsimp only))
        all_goals
          rw [e1]
          first
          | exact fin
          | (have hX : okP n (b, l1) = true := by unfold okP; simp [z1]; omega
             rw [hX] at fin
             exact fin)
          | (have hX : okP n (b, l1) = false := by unfold okP; simp [z1]; omega
             rw [hX] at fin
             exact fin)
          | (have hX : okP n (b, l1) = false := by unfold okP; simp [z1]
             rw [hX] at fin
             exact fin)
      · refine cFull_go (n := 100) hF hdv (by omega) (fun v1 h1 l1 x1 y1 z1 w1 => ?_)
        have hat1 : h1.at o = some e := (x1.same o hol).trans hat
        have cv := y1.cellB
        (try unfold vMov); repeat' (first | refine Step.imp ?_ | (refine Way.mk (fun hp => ?_) (fun hp => ?_) <;> first | contradiction | (exfalso; omega) | skip) | refine LoadG.mkG ?_ | refine LoadsG.mkG ?_ | refine AtG.mkG ?_ | refine StoreG.mkG ?_ | refine CondG.mkG ?_ | (refine LoadG.mk2 hat1 c0 (by omega) ?_) | (refine stFill_aux _ _ _ _ _ _ _ cv ⟨⟨rfl, by simp [setL, repL]⟩, ?_⟩) | fail); (all_goals (try dsimp only))
        refine append_own2 (els := es) (news := [[I b, v1]]) (B := h0.next) (h0 := ⟨.lf, 0⟩) (ext_none _) ((hs.ext x1).ext (by repeat (first | exact Ext.refl _ | assumption | apply Ext.new | (refine Ext.put ?_ _ (by first | omega | (simp; done) | (simp; omega)))))) (Nat.zero_le _) (by have := hx.next; have := x1.next; simp only [Hp.next_new]; omega) ⟨_, 0, true, 1, _, rfl, Hp.at_new_self _ _, rfl⟩ (by intro y hy; rw [List.mem_singleton.1 hy]; rfl) (by simp) (by simp only [List.length_singleton]; omega) (fun t6' h2 u1 u2 u3 u4 => ?_)
        have ho0 : o < h0.next := by
          rcases hr with ⟨e', _⟩ | ⟨_, e', _⟩ | ⟨o', _, _, _, _, e', ho', _⟩
          · cases e'
          · cases e'
          · cases e'; exact ho'
        have n0 := hx.next
        have n1 := x1.next
        have hno : ∀ q, q < h0.next → ∀ off n kn c, t6 ≠ .slice q off n kn c := fun q hq off n kn c e' => by
          rcases hs with ⟨e9, _⟩ | ⟨o9, ob9, e9, b9, _⟩
          · rw [e9] at e'; cases e'
          · rw [e9] at e'
            cases e'
            omega
        have x2 : Ext h0 h2 := ⟨by simp only [Hp.next_new] at u2; omega, fun q hq => by rw [u3 q (by simp only [Hp.next_new]; omega) (hno q hq), Hp.at_new_lt _ (by omega), x1.same q (by omega), hx.same q hq]⟩
        have hat2 : h2.at o = some e := by rw [u3 o (by simp only [Hp.next_new]; omega) (hno o ho0), Hp.at_new_lt _ (by omega)]; exact hat1
        have p2 : PutsR h2 (es ++ [[I b, v1]]) (ps ++ [(b, l1)]) := PutsR.own (((hp6.mono x1).snoc y1).mono (by repeat (first | exact Ext.refl _ | assumption | apply Ext.new | (refine Ext.put ?_ _ (by first | omega | (simp; done) | (simp; omega)))))) ((hs.ext x1).ext (by repeat (first | exact Ext.refl _ | assumption | apply Ext.new | (refine Ext.put ?_ _ (by first | omega | (simp; done) | (simp; omega)))))) (by simp only [Hp.next_new] at *; omega) u3
        have fin := step 100 (by omega) v1 h1 l1 x1 y1 z1 t6' h2 x2 (u4.weak (by simp only [Hp.next_new]; omega)) p2
        rw [hallS l1] at fin
        cases okb
        all_goals
          (try unfold vMov); repeat' (first | refine Step.imp ?_ | (refine Way.mk (fun hp => ?_) (fun hp => ?_) <;> first | contradiction | (exfalso; omega) | skip) | refine LoadG.mkG ?_ | refine LoadsG.mkG ?_ | refine AtG.mkG ?_ | refine StoreG.mkG ?_ | refine CondG.mkG ?_ | (refine LoadG.mk2 hat2 c0 (by omega) ?_) | fail); (all_goals (try dsimp only))
        all_goals
          rw [e1]
          first
          | exact fin
          | (have hX : okP n (b, l1) = true := by unfold okP; simp [z1]; omega
             rw [hX] at fin
             exact fin)
          | (have hX : okP n (b, l1) = false := by unfold okP; simp [z1]; omega
             rw [hX] at fin
             exact fin)
          | (have hX : okP n (b, l1) = false := by unfold okP; simp [z1]
             rw [hX] at fin
             exact fin)
    · have hd0 : d = 0 := by omega
      subst hd0
      (try unfold vMov); repeat' (first | refine Step.imp ?_ | (refine Way.mk (fun hp => ?_) (fun hp => ?_) <;> first | contradiction | (exfalso; omega) | skip) | refine LoadG.mkG ?_ | refine LoadsG.mkG ?_ | refine AtG.mkG ?_ | refine StoreG.mkG ?_ | refine CondG.mkG ?_ | fail); (all_goals (try dsimp only))
      have := he t6 es ps h hx hs hp6 (by omega)
      unfold mayP at this
      rw [show ps.length = qs.length by omega] at this
      exact this
def cPuts : ConD := fun args h K => ∃ v els qs, ∃ n : Nat, args = [v, I n] ∧ Rd h 3 v els ∧ LPutR h els qs ∧ els.length ≤ 4000000000000 ∧ n ≤ 65536 ∧ ∀ v' es ps h', Ext h h' → SlN h' 2 v' es h.next → PutsR h' es ps → ps.length = qs.length → K (.tup [v', .bool (mayP n ps)]) h'
theorem cPuts_go {cf : CallK} {g : FuncId} (hg : cf g = cPuts) {v : AV} {els : List (List AV)} {qs : List LPut} {n : Nat} (hr : Rd h 3 v els) (hqs : LPutR h els qs) (hsm : els.length ≤ 4000000000000) (hn : n ≤ 65536) (hK : ∀ v' es ps h', Ext h h' → SlN h' 2 v' es h.next → PutsR h' es ps → ps.length = qs.length → K (.tup [v', .bool (mayP n ps)]) h') : cf g [v, I n] h K := by rw [hg]; exact ⟨v, els, qs, n, rfl, hr, hqs, hsm, hn, hK⟩
theorem puts_run (hF : cf 50 = cFull) {v : AV} {els : List (List AV)} {qs : List LPut} {n : Nat} (hr : Rd h 3 v els) (hqs : LPutR h els qs) (hsm : els.length ≤ 4000000000000) (hn : n ≤ 65536) (hf : els.length < fuel) (hK : ∀ v' es ps h', Ext h h' → SlN h' 2 v' es h.next → PutsR h' es ps → ps.length = qs.length → K (.tup [v', .bool (mayP n ps)]) h') : s_lagoonlaw6_puts cf fuel v (I n) h K := by
  unfold s_lagoonlaw6_puts
  have hl1 := hqs.1
  have main : s_lagoonlaw6_putsL1 cf fuel (s_lagoonlaw6_putsE0 cf fuel K) v (I n) fuel .nilslice (.bool (decide (qs.length ≤ n) && ([] : List (Int × List UInt8)).all (okP n))) (I ((0 : Nat) : Int)) h := by
    refine putsL1_run cf fuel hF (h0 := h) hr hqs hsm hn _ (fun v' es ps h' x s p e => ?_) els.length 0 fuel h .nilslice [] [] (by omega) (by omega) (Ext.refl h) (.inl ⟨rfl, rfl⟩) ⟨rfl, fun j h1 => by simp at h1⟩ rfl
    unfold s_lagoonlaw6_putsE0
    exact hK v' es ps h' x s p e
  rw [List.all_nil, Bool.and_true] at main
  rw [rdLen hr]
  try dsimp only
  by_cases hle : qs.length ≤ n
  · rw [decide_eq_true hle] at main
    (try unfold vMov); repeat' (first | refine Step.imp ?_ | (refine Way.mk (fun hp => ?_) (fun hp => ?_) <;> first | contradiction | (exfalso; omega) | skip) | refine LoadG.mkG ?_ | refine LoadsG.mkG ?_ | refine AtG.mkG ?_ | refine StoreG.mkG ?_ | refine CondG.mkG ?_ | fail); (all_goals (try dsimp only))
    exact main
  · rw [decide_eq_false hle] at main
    (try unfold vMov); repeat' (first | refine Step.imp ?_ | (refine Way.mk (fun hp => ?_) (fun hp => ?_) <;> first | contradiction | (exfalso; omega) | skip) | refine LoadG.mkG ?_ | refine LoadsG.mkG ?_ | refine AtG.mkG ?_ | refine StoreG.mkG ?_ | refine CondG.mkG ?_ | fail); (all_goals (try dsimp only))
    exact main
end
end Lg

namespace Lg
set_option linter.unusedSimpArgs false
set_option linter.unusedVariables false
set_option maxRecDepth 100000
open Go Go.Am
open Go.Proofs.Ytnhamanffojhfaa.shl
theorem MdlS.keep {h h' : Hp} {B mo m : Nat} {L : List (List UInt8)} (hm : MdlS h B mo m L) (hn : h.next ≤ h'.next) (hs : ∀ o, o < h.next → (B ≤ o ∨ ¬ RowAt h o) → h'.at o = h.at o) : MdlS h' B mo m L := by
  obtain ⟨b1, hlt, x, ats, sy, lastv, els, e1, ⟨o, kn, ob, rfl, hBo, hol, e2, e3, hne⟩, hl, e4, e5, e6⟩ := hm
  refine ⟨b1, Nat.lt_of_lt_of_le hlt hn, _, ats, sy, lastv, els, by rw [hs mo hlt (.inl b1)]; exact e1, ⟨o, kn, ob, rfl, hBo, Nat.lt_of_lt_of_le hol hn, by rw [hs o hol (.inl hBo)]; exact e2, e3, hne⟩, hl, e4, e5.same hn fun p hp1 hp2 => hs p hp2 (.inl hp1), e6.1, fun j h1 h2 => ?_⟩
  obtain ⟨a, q1, q2⟩ := e6.2 j h1 h2
  exact ⟨a, q1, q2.same hn fun o off n kn c e ho => hs o ho (.inr fun r => q2.row_ne r e rfl)⟩
theorem MdlS.kt {h h' : Hp} {B mo m p q vo : Nat} {L : List (List UInt8)} (hm : MdlS h B mo m L) (k : Kt h h' (fun o => o = p ∨ o = q ∨ o = vo)) (hp : p < B ∧ RowAt h p) (hq : q < B ∧ RowAt h q) (hv : vo < B ∧ RowAt h vo) : MdlS h' B mo m L :=
  hm.keep k.1 fun o ho w => k.2 o ho (by
    rintro (rfl | rfl | rfl)
    · rcases w with w | w
      · omega
      · exact w hp.2
    · rcases w with w | w
      · omega
      · exact w hq.2
    · rcases w with w | w
      · omega
      · exact w hv.2)
section
variable (cf : CallK) (fuel : Nat) {h : Hp} {K : AV → Hp → Prop} {vo wo p q B mo m : Nat} {L N E : List (List UInt8)} {k c : Nat} {ch : Bool}
theorem actB9_run (hS : cf 46 = cVSync) (v : VolR h vo wo p L k c ch false) (d : DevN h p q N E) (n : (vo ≠ p ∧ vo ≠ q) ∧ wo ≠ p ∧ wo ≠ q) (hk : k < 1000000 ∧ c ≤ 1000000) (hN : 8 + 2 * L.length ≤ N.length) (hm : MdlS h B mo m L) (hmb : m ≤ 1000000) (hb : p < B ∧ q < B ∧ vo < B ∧ wo < B)
    (hK : ∀ h', Kt h h' (fun o => o = p ∨ o = q ∨ o = vo ∨ o = mo) → VolR h' vo wo p L (if ch = true then k + 1 else k) c false false → DevN h' p q (if ch = true then keptN N L k c else N) (if ch = true then keptN N L k c else E) → MdlS h' B mo m L → K (.bool true) h') : s_lagoonlaw6_Model_actB9 cf fuel K (.ptr mo 0) (.ptr vo 0) h := by
  unfold s_lagoonlaw6_Model_actB9
  obtain ⟨rp, rq, pl, ql, _⟩ := d.rows
  refine cVSync_go hS v d n hk hN (fun h1 k1 v1 d1 => ?_)
  have m1 := hm.kt k1 ⟨hb.1, rp⟩ ⟨hb.2.1, rq⟩ ⟨hb.2.2.1, v.vol.row⟩
  have m1' := m1
  obtain ⟨b1, hlt, x, ats, sy, lastv, els, e1, ⟨o, kn, ob, rfl, hBo, hol, e2, e3, hne⟩, hl, e4, e5, e6⟩ := m1'
  have hpos : 0 < ats.length := List.length_pos_iff.2 hne
  have rmo : RowAt h1 mo := ⟨_, _, e1, Cells.row _⟩
  have hs : ∀ (e : Option Ent) (o : Nat), o ≠ mo → (h1.put mo e).at o = h1.at o := fun e o ho => Hp.at_put_ne _ ho
  (try unfold vMov); repeat' (first | refine Step.imp ?_ | (refine Way.mk (fun hp => ?_) (fun hp => ?_) <;> first | contradiction | (exfalso; omega) | skip) | refine LoadG.mkG ?_ | refine LoadsG.mkG ?_ | refine AtG.mkG ?_ | refine StoreG.mkG ?_ | refine CondG.mkG ?_ | (refine LoadG.mk e1 (by rfl) ?_) | (refine StoreG.mk e1 (by first | omega | (simp; done) | (simp; omega)) ?_) | fail); (all_goals (try dsimp only))
  have nom : o ≠ mo := by
    rintro rfl
    rw [e1] at e2
    cases e2
  have hs' : ∀ (e : Option Ent) (o : Nat), o ≠ mo → (h1.put mo e).at o = h1.at o := hs
  have l6 : ∀ e : Option Ent, LisR (h1.put mo e) els L := fun e => ⟨e6.1, fun j q1 q2 => by
    obtain ⟨a, r1, r2⟩ := e6.2 j q1 q2
    exact ⟨a, r1, r2.same (by simp only [Hp.next_put]; omega) fun o off n kn c ee _ => hs e o (r2.row_ne rmo ee)⟩⟩
  have s5 : ∀ e : Option Ent, SlN (h1.put mo e) 1 lastv els B := fun e => by
    rcases e5 with e5 | ⟨o9, ob9, r1, r2, r3, r4, r5⟩
    · exact .inl e5
    · have : o9 ≠ mo := by
        rintro rfl
        rw [e1] at r4
        cases r4
      exact .inr ⟨o9, ob9, r1, r2, by simp only [Hp.next_put]; exact r3, by rw [hs e o9 this]; exact r4, r5⟩
  refine hK _ ⟨by simp only [Hp.next_put]; exact k1.1, fun o ho hq => ?_⟩ (v1.same (by simp only [Hp.next_put]; omega) fun o _ w => hs _ o ?_) (d1.kt (vo := mo) (by simp only [Hp.next_put]) rmo ⟨by omega, by omega⟩ (hs _)) ⟨b1, by simp only [Hp.next_put]; exact hlt, _, ats, _, lastv, els, by rw [Hp.at_put_self]; rfl, ⟨o, kn, ob, rfl, hBo, by simp only [Hp.next_put]; exact hol, by rw [hs _ o nom]; exact e2, e3, hne⟩, hl, e4, s5 _, l6 _⟩
  · rw [hs _ o (fun e => hq (.inr (.inr (.inr e)))), k1.2 o ho (fun w => hq (by rcases w with w | w | w; exact .inl w; exact .inr (.inl w); exact .inr (.inr (.inl w))))]
  · rintro rfl
    rcases w with w | w | w
    · omega
    · omega
    · exact w rmo
end
end Lg

namespace Lg
set_option linter.unusedSimpArgs false
set_option linter.unusedVariables false
set_option maxRecDepth 100000
open Go Go.Am
open Go.Proofs.Ytnhamanffojhfaa.shl
theorem cells2 {ob : AObj} {off : Nat} {a b : AV} (h : cellsO ob 2 off = some [a, b]) : cellAt ob (off + 0) = some a ∧ cellAt ob (off + 1) = some b := by
  unfold cellsO at h
  rw [Option.bind_eq_some_iff] at h
  obtain ⟨x, h0, h⟩ := h
  rw [Option.map_eq_some_iff] at h
  obtain ⟨l, h, e1⟩ := h
  cases e1
  exact ⟨h0, cellsO_sub1 h⟩
theorem flat_single : ∀ cs : List AV, (cs.map fun y => [y]).flatten = cs
  | [] => rfl
  | y :: l => by simp [flat_single l]
theorem single_flat : ∀ els : List (List AV), (∀ e ∈ els, e.length = 1) → els = els.flatten.map fun y => [y]
  | [], _ => rfl
  | x :: l, h => by
    have h1 := h x (by simp)
    have h2 := single_flat l fun e he => h e (by simp [he])
    match x, h1 with
    | [a], _ => simpa using h2
theorem rdSame {h : Hp} {esz : Nat} {v : AV} {els : List (List AV)} (hr : Rd h esz v els) : sameV v v = true := by
  rcases hr with ⟨rfl, _⟩ | ⟨o, rfl, _⟩ | ⟨o, off, kn, c, e, rfl, _⟩ <;> exact sameV_flat _ rfl
/-- A row of blocks from an own slice of them. -/
theorem SlN.blkR {h : Hp} {xo B : Nat} {els : List (List AV)} {L : List (List UInt8)} {n : Nat} (hs : SlN h 1 (.slice xo 0 n false 0) els B) (hl : LisR h els L) (h5 : ∀ l ∈ L, l.length = 512) : BlkR h xo L ∧ n = L.length ∧ B ≤ xo := by
  rcases hs with ⟨e, _⟩ | ⟨o, ob, e, h1, h2, h3, h4, h6, h7⟩
  · cases e
  · cases e
    refine ⟨⟨h2, ob, els.flatten, h3, h4, by rw [flat_len h6, Nat.mul_one, hl.1], fun j hj => ?_⟩, hl.1, h1⟩
    have hj' : j < els.length := by rw [hl.1]; exact hj
    obtain ⟨a, q1, q2⟩ := hl.2 j hj' hj
    refine ⟨a, ?_, q2, h5 _ (List.getElem_mem hj)⟩
    have := single_flat els h6
    have h8 : els[j]? = (els.flatten.map fun y => [y])[j]? := by rw [← this]
    rw [List.getElem?_eq_getElem hj', q1, List.getElem?_map] at h8
    cases hq : els.flatten[j]? with
    | none => rw [hq] at h8; simp at h8
    | some b =>
      rw [hq] at h8
      simp at h8
      rw [h8]
theorem BlkR.sln {h : Hp} {xo B : Nat} {L : List (List UInt8)} (r : BlkR h xo L) (hB : B ≤ xo) (hne : L ≠ []) : ∃ els, SlN h 1 (.slice xo 0 L.length false 0) els B ∧ LisR h els L := by
  obtain ⟨w, ob, cs, e1, e2, e3, e4⟩ := r
  refine ⟨cs.map fun y => [y], .inr ⟨xo, ob, by simp [e3], hB, w, e1, by rw [flat_single]; exact e2, by simp, ?_⟩, by simp [e3], fun j h1 h2 => ?_⟩
  · intro q
    have : cs = [] := by simpa using q
    rw [this] at e3
    exact hne (List.length_eq_zero_iff.1 e3.symm)
  · obtain ⟨a, q1, q2, q3⟩ := e4 j h2
    refine ⟨a, ?_, q2⟩
    have h1' : j < cs.length := by simpa using h1
    rw [List.getElem?_eq_getElem h1'] at q1
    simp at q1
    simp [q1]
section
variable (cf : CallK) (fuel : Nat) {h : Hp} {K : AV → Hp → Prop}
theorem actL4_run {h0 : Hp} {vl : AV} {es : List (List AV)} {ps : List (Int × List UInt8)} {L : List (List UInt8)} {xo : Nat} (t0 : AV) (hr : Rd h0 2 vl es) (hps : PutsR h0 es ps) (hq : SlP (fun o => o ≠ xo) vl) (hsm : es.length ≤ 1000000) (hok : ps.all (okP L.length) = true) (hL : L.length ≤ 65536) (rx : RowAt h0 xo)
    (e0 : Hp → Prop) (he : ∀ h', Kp h0 h' xo xo → BlkR h' xo (putsF L ps) → e0 h') :
    ∀ (d i fm : Nat) (h : Hp), i + d = es.length → d < fm → Kp h0 h xo xo → BlkR h xo (putsF L (ps.take i)) → s_lagoonlaw6_Model_actL4 cf fuel e0 t0 vl (.slice xo 0 L.length false 0) fm (I i) h
  | d, i, fm, h, hd, hm, kp, br => by
    obtain ⟨fm, rfl⟩ : ∃ j, fm = j + 1 := ⟨fm - 1, by omega⟩
    rw [s_lagoonlaw6_Model_actL4_succ]
    unfold s_lagoonlaw6_Model_actL4B
    have hlen := putsF_len (ps.take i) L
    have hl1 := hps.1
    rw [rdLen hr]
    try dsimp only
    by_cases hi : i < es.length
    · obtain ⟨d, rfl⟩ : ∃ j, d = j + 1 := ⟨d - 1, by omega⟩
      have e1 : ((i : Int) + 1) = ((i + 1 : Nat) : Int) := by omega
      have hi2 : i < ps.length := by omega
      have hrh : Rd h 2 vl es := hr.sameQ hq kp.1 fun o ho hne => kp.2 o ho hne hne
      obtain ⟨o, off, kn, c', e, rfl, hat, hc⟩ := hrh.openS hi
      have ci := hc i hi
      obtain ⟨dv, hcs, hdv⟩ := (hps.kp kp rx rx).2 i hi hi2
      rw [hcs] at ci
      have okI : okP L.length ps[i] = true := List.all_eq_true.1 hok _ (List.getElem_mem hi2)
      unfold okP at okI
      simp only [Bool.and_eq_true, decide_eq_true_eq] at okI
      obtain ⟨o1, o2, o3⟩ := okI
      obtain ⟨b, hb⟩ := Int.eq_ofNat_of_zero_le o1
      have hbl : b < L.length := by omega
      rw [hb] at ci
      obtain ⟨c0, c1⟩ := cells2 ci
      have cv := hdv.cellB
      have br1 := br
      obtain ⟨wl, ob, cs, r1, r2, r3, r4⟩ := br
      rw [hlen] at r3
      (try unfold vMov); repeat' (first | refine Step.imp ?_ | (refine Way.mk (fun hp => ?_) (fun hp => ?_) <;> first | contradiction | (exfalso; omega) | skip) | refine LoadG.mkG ?_ | refine LoadsG.mkG ?_ | refine AtG.mkG ?_ | refine StoreG.mkG ?_ | refine CondG.mkG ?_ | (refine LoadG.mk2 hat c0 (by omega) ?_) | (refine LoadG.mk2 hat c1 (by omega) ?_) | (refine stStore_aux _ _ _ _ _ cv ?_) | (refine StoreG.mkC2 (off := b) r1 r2 (by omega) ⟨rfl, by simp only [List.length_singleton]; omega⟩ (fun ob2 c2 => ?_)) | fail); (all_goals (try dsimp only))
      rw [e1]
      have hs : ∀ (e2 : Option Ent) (o : Nat), o ≠ xo → (h.put xo e2).at o = h.at o := fun e2 o ho => Hp.at_put_ne _ ho
      refine actL4_run t0 hr hps hq hsm hok hL rx e0 he d (i + 1) fm _ (by omega) (by omega) ⟨by simp only [Hp.next_put]; exact kp.1, fun o2 q1 q2 q3 => by rw [hs _ o2 q3, kp.2 o2 q1 q2 q3]⟩ ?_
      rw [putsF_snoc _ _ hi2, hb]
      exact br1.set (by simp only [Hp.next_put]) (hs _) r1 r2 (by rw [hlen]; omega) (Hp.at_put_self _ _ _) c2 hdv o3
    · have hd0 : d = 0 := by omega
      subst hd0
      (try unfold vMov); repeat' (first | refine Step.imp ?_ | (refine Way.mk (fun hp => ?_) (fun hp => ?_) <;> first | contradiction | (exfalso; omega) | skip) | refine LoadG.mkG ?_ | refine LoadsG.mkG ?_ | refine AtG.mkG ?_ | refine StoreG.mkG ?_ | refine CondG.mkG ?_ | fail); (all_goals (try dsimp only))
      refine he h kp ?_
      rw [List.take_of_length_le (by omega)] at br
      exact br
end
end Lg

namespace Lg
set_option linter.unusedSimpArgs false
set_option linter.unusedVariables false
set_option maxRecDepth 100000
open Go Go.Am Go.Proofs Go.RowKit
theorem list_choose {α : Type} {p : Nat → α → Prop} : ∀ n, (∀ j, j < n → ∃ x, p j x) → ∃ l : List α, l.length = n ∧ ∀ j (hj : j < l.length), p j l[j]
  | 0, _ => ⟨[], rfl, fun j hj => by simp at hj⟩
  | n + 1, h => by
    obtain ⟨l, h1, h2⟩ := list_choose n fun j hj => h j (by omega)
    obtain ⟨x, hx⟩ := h n (by omega)
    refine ⟨l ++ [x], by simp [h1], fun j hj => ?_⟩
    by_cases e : j < l.length
    · rw [List.getElem_append_left e]; exact h2 j e
    · have hj' : j = n := by simp at hj; omega
      subst hj'
      rw [List.getElem_append_right (by omega)]
      simpa [h1] using hx
section
variable {P : Program} {H : Type} {hp : Hp}
theorem rdt_int {n : Nat} {t : TypeId} {k : IntKind} {avs : List AV} {d : DataW H} (hu : P.underlying t = some (.int k)) (h : RdT P hp (n + 1) t avs d) : ∃ z, avs = [.int k z] := by
  unfold RdT at h
  simp only [hu] at h
  obtain ⟨z, h1, _⟩ := h
  exact ⟨z, h1⟩
theorem rdt_bool {n : Nat} {t : TypeId} {avs : List AV} {d : DataW H} (hu : P.underlying t = some .bool) (h : RdT P hp (n + 1) t avs d) : ∃ z, avs = [.bool z] := by
  unfold RdT at h
  simp only [hu] at h
  obtain ⟨z, h1, _⟩ := h
  exact ⟨z, h1⟩
theorem rdt_str {n : Nat} {t : TypeId} {avs : List AV} {d : DataW H} (hu : P.underlying t = some .string) (h : RdT P hp (n + 1) t avs d) : ∃ l, avs = [S l] ∧ l.length ≤ reachBytes := by
  unfold RdT at h
  simp only [hu] at h
  obtain ⟨z, h1, _, h2⟩ := h
  exact ⟨z, h1, h2⟩
theorem rdt_vec {n : Nat} {t e : TypeId} {avs : List AV} {d : DataW H} (hu : P.underlying t = some (.slice e)) (he : P.underlying e = some (.int .i64)) (hc : P.cellsOf e = 1) (hb : P.bytesOf e = 8) (h : RdT P hp (n + 2) t avs d) : ∃ v l, avs = [v] ∧ VecH hp v l := by
  unfold RdT at h
  simp only [hu] at h
  rcases h with ⟨rfl, _⟩ | ⟨o, rfl, _⟩ | ⟨o, c, ob, ds, sp, rfl, _, h1, h2, h3, h4, _, h5⟩
  · exact ⟨_, [], rfl, .inl ⟨rfl, rfl⟩⟩
  · exact ⟨_, [], rfl, .inr (.inl ⟨o, rfl, rfl⟩)⟩
  · rw [hc] at h5
    obtain ⟨l, l1, l2⟩ := list_choose (p := fun j z => cellsO ob 1 (j * 1) = some [I z]) ds.length fun j hj => by
      obtain ⟨cj, r1, _, r3⟩ := h5 j hj
      obtain ⟨z, rfl⟩ := rdt_int he r3
      exact ⟨z, r1⟩
    have hbd : ds.length ≤ 17592186044416 := by
      rw [hb] at h2
      have : reachBytes ≤ 140737488355328 := by decide
      omega
    refine ⟨_, l, rfl, .inr (.inr ⟨o, 0, true, c, _, by simp [l1], h3, h4, ⟨by simp; omega, fun _ => by simp; omega⟩, fun j hj => ?_⟩)⟩
    have hj' : j < l.length := by simpa using hj
    rw [Nat.zero_add, List.getElem_map]
    exact l2 j hj'
theorem rdt_by {n : Nat} {t e : TypeId} {avs : List AV} {d : DataW H} (hu : P.underlying t = some (.slice e)) (he : P.underlying e = some (.int .u8)) (hb : P.bytesOf e = 1) (h : RdT P hp (n + 1) t avs d) : ∃ v l, avs = [v] ∧ ByH hp v l := by
  unfold RdT at h
  simp only [hu] at h
  rcases h with ⟨rfl, _⟩ | ⟨o, rfl, _⟩ | ⟨o, c, ob, ds, sp, rfl, _, h1, h2, h3, h4, h6, _⟩
  · exact ⟨_, [], rfl, .inl ⟨rfl, rfl⟩⟩
  · exact ⟨_, [], rfl, .inr (.inl ⟨o, rfl, rfl⟩)⟩
  · obtain ⟨z, hz⟩ := h6 he
    have hbd : ds.length ≤ 140737488355328 := by
      rw [hb] at h2
      have : reachBytes ≤ 140737488355328 := by decide
      omega
    have hl : (bytesL ds.length z).length = ds.length := bytesL_length _ _
    refine ⟨_, bytesL ds.length z, rfl, .inr (.inr ⟨o, 0, true, c, _, ds.length, z, by rw [hl], h3, h4, hz, by omega, ⟨by omega, fun _ => by omega⟩, ?_⟩)⟩
    rw [List.drop_zero, List.take_of_length_le (Nat.le_refl _)]
theorem rdA_cons {n : Nat} {t : TypeId} {ts : List TypeId} {avs : List AV} {ds : List (DataW H)} (h : RdA P hp n (t :: ts) avs ds) : ∃ a r d e, avs = a :: r ∧ ds = d :: e ∧ RdT P hp n t [a] d ∧ RdA P hp n ts r e := by
  cases avs with
  | nil => cases ds <;> exact h.elim
  | cons a r => cases ds with
    | nil => exact h.elim
    | cons d e => exact ⟨a, r, d, e, rfl, rfl, h.1, h.2⟩
theorem rdA_nil {n : Nat} {avs : List AV} {ds : List (DataW H)} (h : RdA P hp n [] avs ds) : avs = [] := by
  cases avs with
  | nil => rfl
  | cons a r => cases ds <;> exact h.elim
theorem rdf_cons {R : TypeId → List AV → DataW H → Prop} {f : Field} {fs : List Field} {cl : List (List AV)} {dl : List (DataW H)} (h : RdF P R (f :: fs) cl dl) : ∃ c cl' d dl', cl = c :: cl' ∧ dl = d :: dl' ∧ R f.type c d ∧ RdF P R fs cl' dl' := by
  match cl, dl, h with
  | c :: cl', d :: dl', h => exact ⟨c, cl', d, dl', rfl, rfl, h.2.1, h.2.2⟩
theorem rdf_nil {R : TypeId → List AV → DataW H → Prop} {cl : List (List AV)} {dl : List (DataW H)} (h : RdF P R [] cl dl) : cl = [] := by
  match cl, dl, h with
  | [], [], _ => rfl
end
section
variable {H : Type} {hp : Hp}
theorem rd_id {n : Nat} {avs : List AV} {d : DataW H} (h : RdT Try.prog hp (n + 2) 30 avs d) : ∃ t k, avs = [I t, I k] := by
  unfold RdT at h
  simp only [Try.underlying30] at h
  obtain ⟨dl, cl, _, rfl, hf⟩ := h
  obtain ⟨c0, cl, d0, dl, rfl, rfl, h0, hf⟩ := rdf_cons hf
  obtain ⟨c1, cl, d1, dl, rfl, rfl, h1, hf⟩ := rdf_cons hf
  obtain rfl := rdf_nil hf
  obtain ⟨t, rfl⟩ := rdt_int Try.underlying2 h0
  obtain ⟨k, rfl⟩ := rdt_int Try.underlying3 h1
  exact ⟨t, k, rfl⟩
theorem rd_op {n : Nat} {avs : List AV} {d : DataW H} (h : RdT Try.prog hp (n + 4) 35 avs d) : ∃ o, OpH hp avs o := by
  unfold RdT at h
  simp only [Try.underlying35] at h
  obtain ⟨dl, cl, _, rfl, hf⟩ := h
  obtain ⟨c0, cl, d0, dl, rfl, rfl, h0, hf⟩ := rdf_cons hf
  obtain ⟨c1, cl, d1, dl, rfl, rfl, h1, hf⟩ := rdf_cons hf
  obtain ⟨c2, cl, d2, dl, rfl, rfl, h2, hf⟩ := rdf_cons hf
  obtain ⟨c3, cl, d3, dl, rfl, rfl, h3, hf⟩ := rdf_cons hf
  obtain ⟨c4, cl, d4, dl, rfl, rfl, h4, hf⟩ := rdf_cons hf
  obtain ⟨c5, cl, d5, dl, rfl, rfl, h5, hf⟩ := rdf_cons hf
  obtain ⟨c6, cl, d6, dl, rfl, rfl, h6, hf⟩ := rdf_cons hf
  obtain ⟨c7, cl, d7, dl, rfl, rfl, h7, hf⟩ := rdf_cons hf
  obtain rfl := rdf_nil hf
  obtain ⟨t, k, rfl⟩ := rd_id h0
  obtain ⟨q, rfl⟩ := rdt_int Try.underlying2 h1
  obtain ⟨kd, rfl⟩ := rdt_int Try.underlying3 h2
  obtain ⟨ot, ok, rfl⟩ := rd_id h3
  obtain ⟨pt, pk, rfl⟩ := rd_id h4
  obtain ⟨nm, rfl, hn⟩ := rdt_str Try.underlying9 h5
  obtain ⟨vd, dt, rfl, hd⟩ := rdt_by Try.underlying31 Try.underlying5 (by kernel_rfl) h6
  obtain ⟨vs, sn, rfl, hs⟩ := rdt_vec Try.underlying33 Try.underlying2 (by kernel_rfl) (by kernel_rfl) h7
  exact ⟨⟨t, k, q, kd, ot, ok, pt, pk, nm, dt, sn⟩, vd, vs, rfl, hd, hs, Nat.le_trans hn (by decide)⟩
theorem rd_ops {n : Nat} {avs : List AV} {d : DataW H} (h : RdT Try.prog hp (n + 5) 22 avs d) : ∃ (v : AV) (els : List (List AV)) (os : List FOp), avs = [v] ∧ Rd hp 11 v els ∧ els.length = os.length ∧ ∀ j (h1 : j < els.length) (h2 : j < os.length), OpH hp els[j] os[j] := by
  unfold RdT at h
  simp only [Try.underlying22] at h
  have hc : Try.prog.cellsOf 35 = 11 := by kernel_rfl
  have hb : Try.prog.bytesOf 35 = 128 := by kernel_rfl
  rcases h with ⟨rfl, _⟩ | ⟨o, rfl, _⟩ | ⟨o, c, ob, ds, sp, rfl, _, h1, h2, h3, h4, _, h5⟩
  · exact ⟨_, [], [], rfl, .inl ⟨rfl, rfl⟩, rfl, fun j h1 => by simp at h1⟩
  · exact ⟨_, [], [], rfl, .inr (.inl ⟨o, rfl, rfl⟩), rfl, fun j h1 => by simp at h1⟩
  · rw [hc] at h5
    obtain ⟨l, l1, l2⟩ := list_choose (p := fun j (z : List AV × FOp) => cellsO ob 11 (j * 11) = some z.1 ∧ OpH hp z.1 z.2) ds.length fun j hj => by
      obtain ⟨cj, r1, _, r3⟩ := h5 j hj
      obtain ⟨a, ha⟩ := rd_op r3
      exact ⟨(cj, a), r1, ha⟩
    have hbd : ds.length ≤ 17592186044416 := by
      rw [hb] at h2
      have : reachBytes ≤ 140737488355328 := by decide
      omega
    refine ⟨_, l.map Prod.fst, l.map Prod.snd, rfl, .inr (.inr ⟨o, 0, true, c, _, by simp [l1], h3, h4, ⟨by simp; omega, fun _ => by simp; omega⟩, fun j hj => ?_⟩), by simp, fun j h1 h2 => ?_⟩
    · have hj' : j < l.length := by simpa using hj
      rw [Nat.zero_add, List.getElem_map]
      exact (l2 j hj').1
    · have hj' : j < l.length := by simpa using h1
      rw [List.getElem_map, List.getElem_map]
      exact (l2 j hj').2
end
end Lg

namespace Lg
set_option linter.unusedSimpArgs false
set_option linter.unusedVariables false
set_option maxRecDepth 100000
open Go Go.Am Go.Proofs Go.RowKit
open Go.Proofs.Ytnhamanffojhfaa.shl
theorem rdt_intb {P : Program} {H : Type} {hp : Hp} {n : Nat} {t : TypeId} {avs : List AV} {d : DataW H} (hu : P.underlying t = some (.int .i64)) (h : RdT P hp (n + 1) t avs d) : ∃ z, avs = [I z] ∧ -9223372036854775808 ≤ z ∧ z ≤ 9223372036854775807 := by
  unfold RdT at h
  simp only [hu] at h
  obtain ⟨z, h1, _, h3⟩ := h
  refine ⟨z, h1, ?_⟩
  simp only [Lit.wf, Bool.and_eq_true, decide_eq_true_eq] at h3
  exact h3
section
variable {H : Type} {hp : Hp}
theorem rd_put {n : Nat} {avs : List AV} {d : DataW H} (h : RdT Try.prog hp (n + 3) 169 avs d) : ∃ q : LPut, ∃ dv, avs = [I q.1, dv, .bool q.2.2] ∧ ByH hp dv q.2.1 := by
  unfold RdT at h
  simp only [Try.underlying169] at h
  obtain ⟨dl, cl, _, rfl, hf⟩ := h
  obtain ⟨c0, cl, d0, dl, rfl, rfl, h0, hf⟩ := rdf_cons hf
  obtain ⟨c1, cl, d1, dl, rfl, rfl, h1, hf⟩ := rdf_cons hf
  obtain ⟨c2, cl, d2, dl, rfl, rfl, h2, hf⟩ := rdf_cons hf
  obtain rfl := rdf_nil hf
  obtain ⟨b, rfl⟩ := rdt_int Try.underlying3 h0
  obtain ⟨dv, l, rfl, hd⟩ := rdt_by Try.underlying31 Try.underlying5 (by kernel_rfl) h1
  obtain ⟨s, rfl⟩ := rdt_bool Try.underlying4 h2
  exact ⟨(b, l, s), dv, rfl, hd⟩
theorem rd_puts {n : Nat} {avs : List AV} {d : DataW H} (h : RdT Try.prog hp (n + 4) 72 avs d) : ∃ (v : AV) (els : List (List AV)) (qs : List LPut), avs = [v] ∧ Rd hp 3 v els ∧ LPutR hp els qs ∧ els.length ≤ 4000000000000 := by
  unfold RdT at h
  simp only [Try.underlying72] at h
  have hc : Try.prog.cellsOf 169 = 3 := by kernel_rfl
  have hb : Try.prog.bytesOf 169 = 40 := by kernel_rfl
  rcases h with ⟨rfl, _⟩ | ⟨o, rfl, _⟩ | ⟨o, c, ob, ds, sp, rfl, _, h1, h2, h3, h4, _, h5⟩
  · exact ⟨_, [], [], rfl, .inl ⟨rfl, rfl⟩, ⟨rfl, fun j h1 => by simp at h1⟩, by simp⟩
  · exact ⟨_, [], [], rfl, .inr (.inl ⟨o, rfl, rfl⟩), ⟨rfl, fun j h1 => by simp at h1⟩, by simp⟩
  · rw [hc] at h5
    obtain ⟨l, l1, l2⟩ := list_choose (p := fun j (z : List AV × LPut) => cellsO ob 3 (j * 3) = some z.1 ∧ ∃ dv, z.1 = [I z.2.1, dv, .bool z.2.2.2] ∧ ByH hp dv z.2.2.1) ds.length fun j hj => by
      obtain ⟨cj, r1, _, r3⟩ := h5 j hj
      obtain ⟨a, ha⟩ := rd_put r3
      exact ⟨(cj, a), r1, ha⟩
    have hbd : ds.length ≤ 3518437208883 := by
      rw [hb] at h2
      have : reachBytes ≤ 140737488355328 := by decide
      omega
    refine ⟨_, l.map Prod.fst, l.map Prod.snd, rfl, .inr (.inr ⟨o, 0, true, c, _, by simp [l1], h3, h4, ⟨by simp; omega, fun _ => by simp; omega⟩, fun j hj => ?_⟩), ⟨by simp, fun j h1 h2 => ?_⟩, by simp; omega⟩
    · have hj' : j < l.length := by simpa using hj
      rw [Nat.zero_add, List.getElem_map]
      exact (l2 j hj').1
    · have hj' : j < l.length := by simpa using h1
      rw [List.getElem_map, List.getElem_map]
      exact (l2 j hj').2
/-- An act as it is read. -/
def ActH (hp : Hp) (cs : List AV) : Prop := ∃ s pv pels qs, cs = [.bool s, pv] ∧ Rd hp 3 pv pels ∧ LPutR hp pels qs ∧ pels.length ≤ 4000000000000
theorem ActH.mono {h h' : Hp} {cs : List AV} (a : ActH h cs) (x : Ext h h') : ActH h' cs := by
  obtain ⟨s, pv, pels, qs, h1, h2, h3, h4⟩ := a
  exact ⟨s, pv, pels, qs, h1, h2.mono x, h3.mono x, h4⟩
theorem rd_act {n : Nat} {avs : List AV} {d : DataW H} (h : RdT Try.prog hp (n + 5) 74 avs d) : ActH hp avs := by
  unfold RdT at h
  simp only [Try.underlying74] at h
  obtain ⟨dl, cl, _, rfl, hf⟩ := h
  obtain ⟨c0, cl, d0, dl, rfl, rfl, h0, hf⟩ := rdf_cons hf
  obtain ⟨c1, cl, d1, dl, rfl, rfl, h1, hf⟩ := rdf_cons hf
  obtain rfl := rdf_nil hf
  obtain ⟨s, rfl⟩ := rdt_bool Try.underlying4 h0
  obtain ⟨v, els, qs, rfl, a, b, c⟩ := rd_puts h1
  exact ⟨s, v, els, qs, rfl, a, b, c⟩
theorem rd_acts {n : Nat} {avs : List AV} {d : DataW H} (h : RdT Try.prog hp (n + 6) 64 avs d) : ∃ (v : AV) (els : List (List AV)), avs = [v] ∧ Rd hp 2 v els ∧ ∀ j (h1 : j < els.length), ActH hp els[j] := by
  unfold RdT at h
  simp only [Try.underlying64] at h
  have hc : Try.prog.cellsOf 74 = 2 := by kernel_rfl
  have hb : Try.prog.bytesOf 74 = 32 := by kernel_rfl
  rcases h with ⟨rfl, _⟩ | ⟨o, rfl, _⟩ | ⟨o, c, ob, ds, sp, rfl, _, h1, h2, h3, h4, _, h5⟩
  · exact ⟨_, [], rfl, .inl ⟨rfl, rfl⟩, fun j h1 => by simp at h1⟩
  · exact ⟨_, [], rfl, .inr (.inl ⟨o, rfl, rfl⟩), fun j h1 => by simp at h1⟩
  · rw [hc] at h5
    obtain ⟨l, l1, l2⟩ := list_choose (p := fun j (z : List AV) => cellsO ob 2 (j * 2) = some z ∧ ActH hp z) ds.length fun j hj => by
      obtain ⟨cj, r1, _, r3⟩ := h5 j hj
      exact ⟨cj, r1, rd_act r3⟩
    have hbd : ds.length ≤ 4398046511104 := by
      rw [hb] at h2
      have : reachBytes ≤ 140737488355328 := by decide
      omega
    refine ⟨_, l, rfl, .inr (.inr ⟨o, 0, true, c, _, by simp [l1], h3, h4, ⟨by omega, fun _ => by omega⟩, fun j hj => ?_⟩), fun j h1 => ?_⟩
    · rw [Nat.zero_add]
      exact (l2 j hj).1
    · exact (l2 j h1).2
end
end Lg

namespace Lg
set_option linter.unusedSimpArgs false
set_option linter.unusedVariables false
set_option maxRecDepth 100000
open Go Go.Am
open Go.Proofs.Ytnhamanffojhfaa.shl
/-- The state of a law: what is ahead of h0 stays; a device, its volume, and the model. -/
structure St (h0 h : Hp) (p q vo wo B mo n : Nat) (L N : List (List UInt8)) (k c cs : Nat) (ch : Bool) : Prop where
  ext : Ext h0 h
  low : h0.next ≤ p ∧ h0.next ≤ q ∧ h0.next ≤ vo ∧ h0.next ≤ wo
  hb : p < B ∧ q < B ∧ vo < B ∧ wo < B
  ne : (vo ≠ p ∧ vo ≠ q) ∧ wo ≠ p ∧ wo ≠ q
  vol : VolR h vo wo p L k c ch false
  dev : DevN h p q N N
  mdl : MdlS h B mo (c + 1) L
  heads : HeadsOK N k cs
  len : N.length = n
  room : roomN n = L.length
  n16 : 16 ≤ n
  nB : B ≤ h.next
  side : ch = false → sideN N L.length k = L ∧ cs = c
theorem putsF_512 {L : List (List UInt8)} (h5 : ∀ l ∈ L, l.length = 512) : ∀ (ps : List (Int × List UInt8)), ps.all (okP L.length) = true → ∀ l ∈ putsF L ps, l.length = 512 := by
  intro ps
  induction ps generalizing L with
  | nil => intro _; exact h5
  | cons x r ih =>
    intro hok
    rw [List.all_cons, Bool.and_eq_true] at hok
    have h1 := hok.1
    unfold okP at h1
    simp only [Bool.and_eq_true, decide_eq_true_eq] at h1
    show ∀ l ∈ putsF (L.set x.1.toNat x.2) r, l.length = 512
    refine ih (L := L.set x.1.toNat x.2) (fun l hl => ?_) (by rw [List.length_set]; exact hok.2)
    rcases List.mem_or_eq_of_mem_set hl with hl | rfl
    · exact h5 l hl
    · exact h1.2.2
theorem BlkR.each {h : Hp} {wo : Nat} {L : List (List UInt8)} (r : BlkR h wo L) : ∀ l ∈ L, l.length = 512 := fun l hl => by
  obtain ⟨j, hj, rfl⟩ := List.mem_iff_getElem.1 hl
  obtain ⟨_, ob, cs, _, _, _, e4⟩ := r
  obtain ⟨a, _, _, q⟩ := e4 j hj
  exact q
section
variable (cf : CallK) (fuel : Nat) {h0 h : Hp} {K : AV → Hp → Prop} {vo wo p q B mo n m : Nat} {L N : List (List UInt8)} {k c cs : Nat} {ch : Bool}
theorem St.mono {h' : Hp} (s : St h0 h p q vo wo B mo n L N k c cs ch) (x : Ext h h') : St h0 h' p q vo wo B mo n L N k c cs ch :=
  ⟨s.ext.trans x, s.low, s.hb, s.ne, s.vol.ext x, s.dev.ext x, s.mdl.keep x.next (fun o ho _ => x.same o ho), s.heads, s.len, s.room, s.n16, Nat.le_trans s.nB x.next, s.side⟩
/-- Rows at B and behind, that are rows of cells, may change. -/
theorem vol_above {h' : Hp} (v : VolR h vo wo p L k c ch false) (hb : vo < B ∧ wo < B) (hn : h.next ≤ h'.next) (hs : ∀ o, o < h.next → (o < B ∨ ¬ RowAt h o) → h'.at o = h.at o) : VolR h' vo wo p L k c ch false :=
  v.same hn fun o ho w => hs o ho (by rcases w with rfl | rfl | w; exact .inl hb.1; exact .inl hb.2; exact .inr w)
theorem dev_above {h' : Hp} (d : DevN h p q N N) (hb : p < B ∧ q < B) (hn : h.next ≤ h'.next) (hs : ∀ o, o < h.next → (o < B ∨ ¬ RowAt h o) → h'.at o = h.at o) : DevN h' p q N N := by
  obtain ⟨bs, h1, h2, h3⟩ := d
  exact ⟨bs, h1.same hn fun o ho w => hs o ho (by rcases w with rfl | rfl | w; exact .inl hb.1; exact .inl hb.2; exact .inr w), h2, h3⟩
/-- A list behind the model's. -/
theorem mdl_push {F : AV → Hp → Prop} (hm : MdlS h B mo m L) (hmb : m ≤ 100000) (hB : B ≤ h.next) {xv : AV} {els : List (List AV)} {L' : List (List UInt8)} (hx : SlN h 1 xv els B) (hl : LisR h els L') (hcx : cellsV xv = some [xv])
    (hxo : ∀ o off n kn c, xv = .slice o off n kn c → o ≠ mo ∧ ∀ (x : AV) (sy : Int), h.at mo = some ⟨true, 2, .row [x, I sy]⟩ → ∀ off' n' kn' c', x ≠ .slice o off' n' kn' c')
    (hK : ∀ h', h.next ≤ h'.next → (∀ o, o < h.next → (o < B ∨ ¬ RowAt h o) → h'.at o = h.at o) → MdlS h' B mo (m + 1) L' → F (.bool true) h') : s_lagoonlaw6_Model_actE3 cf fuel F (.ptr mo 0) xv h := by
  unfold s_lagoonlaw6_Model_actE3
  obtain ⟨b1, hlt, x, ats, sy, lastv, els0, e1, ho, rfl, e4, e5, e6⟩ := hm
  have rmo : RowAt h mo := ⟨_, _, e1, Cells.row _⟩
  (try unfold vMov); repeat' (first | refine Step.imp ?_ | (refine Way.mk (fun hp => ?_) (fun hp => ?_) <;> first | contradiction | (exfalso; omega) | skip) | refine LoadG.mkG ?_ | refine LoadsG.mkG ?_ | refine AtG.mkG ?_ | refine StoreG.mkG ?_ | refine CondG.mkG ?_ | (refine LoadG.mk e1 (by rfl) ?_) | (refine stFill_aux _ _ _ _ _ _ _ hcx ⟨⟨rfl, by simp [setL, repL]⟩, ?_⟩) | fail); (all_goals (try dsimp only))
  have hrow : setL (repL [AV.nilslice] 1) 0 [xv] = [xv] := rfl
  try rw [hrow]
  have ho1 := ho
  obtain ⟨o, kn, ob, rfl, hBo, hol, e2, e3, hne⟩ := ho
  have x1 : Ext h (h.new ⟨true, 1, .row [xv]⟩) := (by repeat (first | exact Ext.refl _ | assumption | apply Ext.new | (refine Ext.put ?_ _ (by first | omega | (simp; done) | (simp; omega)))))
  have ownN : OwnR (h.new ⟨true, 1, .row [xv]⟩) B (.slice o 0 ats.length kn (if kn = true then ats.length else 0)) ats := ⟨o, kn, ob, rfl, hBo, Nat.lt_of_lt_of_le hol x1.next, by rw [x1.same o hol]; exact e2, e3, hne⟩
  refine appOwn_go ownN (Hp.at_new_self _ _) (by simp only [Hp.next_new]; omega) (by omega) (by simp only [Hp.next_new]; omega) (fun x' h2 w2 w3 w4 => ?_)
  have n2 : h.next + 1 < h2.next := by simpa [Hp.next_new] using w2
  have nom : mo ≠ o := by
    rintro rfl
    rw [e1] at e2
    cases e2
  have at2 : ∀ o', o' < h.next → o' ≠ o → h2.at o' = h.at o' := fun o' q1 q2 => by
    rw [w3 o' (by simp only [Hp.next_new]; omega) (fun off n kn c e => by cases e; exact q2 rfl), Hp.at_new_lt _ q1]
  have m2 : h2.at mo = some ⟨true, 2, .row [.slice o 0 ats.length kn (if kn = true then ats.length else 0), I sy]⟩ := (at2 mo hlt nom).trans e1
  have ⟨o', kn', ob', hx', hBo', hol', e2', e3', hne'⟩ := w4
  subst hx'
  (try unfold vMov); repeat' (first | refine Step.imp ?_ | (refine Way.mk (fun hp => ?_) (fun hp => ?_) <;> first | contradiction | (exfalso; omega) | skip) | refine LoadG.mkG ?_ | refine LoadsG.mkG ?_ | refine AtG.mkG ?_ | refine StoreG.mkG ?_ | refine CondG.mkG ?_ | (refine StoreG.mk m2 (by first | omega | (simp; done) | (simp; omega)) ?_) | fail); (all_goals (try dsimp only))
  have hs : ∀ (e : Option Ent) (o : Nat), o ≠ mo → (h2.put mo e).at o = h2.at o := fun e o ho => Hp.at_put_ne _ ho
  have keep : ∀ (e : Option Ent), ∀ o', o' < h.next → o' ≠ o → o' ≠ mo → (h2.put mo e).at o' = h.at o' := fun e o' q1 q2 q3 => by rw [hs e o' q3, at2 o' q1 q2]
  have ro : RowAt h o := ⟨_, _, e2, e3⟩
  have nom' : o' ≠ mo := by
    rintro rfl
    rw [m2] at e2'
    cases e2'
  refine hK _ (by simp only [Hp.next_put]; omega) (fun o'' q1 q2 => keep _ o'' q1 ?_ ?_) ⟨b1, by simp only [Hp.next_put]; omega, _, ats ++ [xv], sy, xv, els, by rw [Hp.at_put_self]; rfl, ⟨o', kn', ob', rfl, hBo', by simp only [Hp.next_put]; exact hol', by rw [hs _ o' nom']; exact e2', e3', hne'⟩, by simp, by simp, ?_, ?_⟩
  · rintro rfl
    rcases q2 with q2 | q2
    · omega
    · exact q2 ro
  · rintro rfl
    rcases q2 with q2 | q2
    · omega
    · exact q2 rmo
  · rcases hx with ⟨rfl, rfl⟩ | ⟨xo, xb, rfl, r2, r3, r4, r5, r6⟩
    · exact .inl ⟨rfl, rfl⟩
    · obtain ⟨t1, t2⟩ := hxo _ _ _ _ _ rfl
      have t3 : xo ≠ o := fun e => t2 _ _ e1 _ _ _ _ (by rw [e])
      exact .inr ⟨xo, xb, rfl, r2, by simp only [Hp.next_put]; omega, by rw [keep _ xo r3 t3 t1]; exact r4, r5, r6⟩
  · refine ⟨hl.1, fun j h1 h2 => ?_⟩
    obtain ⟨a, q1, q2⟩ := hl.2 j h1 h2
    exact ⟨a, q1, q2.same (by simp only [Hp.next_put]; omega) fun o'' off n kn c e hlt' => keep _ o'' hlt' (q2.row_ne ro e) (q2.row_ne rmo e)⟩
end
end Lg

namespace Lg
set_option linter.unusedSimpArgs false
set_option linter.unusedVariables false
set_option maxRecDepth 100000
open Go Go.Am
open Go.Proofs.Ytnhamanffojhfaa.shl
theorem flat_at6 {esz : Nat} : ∀ (els : List (List AV)) (_ : ∀ e ∈ els, e.length = esz) (j : Nat) (hj : j < els.length), (els.flatten.drop (j * esz)).take esz = els[j]
  | x :: l, he, 0, _ => by
    have h1 := he x (by simp)
    simp [List.take_left' h1]
  | x :: l, he, j + 1, hj => by
    have h1 := he x (by simp)
    have ih := flat_at6 l (fun e h => he e (by simp [h])) j (by simpa using hj)
    rw [List.flatten_cons, Nat.add_mul, Nat.one_mul, Nat.add_comm, ← List.drop_drop, List.drop_left' h1]
    simpa using ih
/-- What append made can be read. -/
theorem SlN.rd6 {h : Hp} {esz : Nat} {v : AV} {els : List (List AV)} {B : Nat} (hv : SlN h esz v els B) (hb : els.length ≤ 17592186044416) : Rd h esz v els := by
  rcases hv with ⟨h1, h2⟩ | ⟨o, ob, h1, h2, h3, h4, h5, h6, h7⟩
  · exact .inl ⟨h1, h2⟩
  · refine .inr (.inr ⟨o, 0, false, 0, _, h1, h3, h4, ⟨hb, fun q => by cases q⟩, fun j hj => ?_⟩)
    have hl := flat_len h6
    have hle : j * esz + esz ≤ els.flatten.length := by
      rw [hl]
      have : (j + 1) * esz ≤ els.length * esz := Nat.mul_le_mul_right _ hj
      rw [Nat.add_mul, Nat.one_mul] at this
      exact this
    show cellsO ob esz (0 + j * esz) = some els[j]
    rw [Nat.zero_add, cellsO_cells h5 esz (j * esz) hle, flat_at6 els h6 j hj]
theorem SlN.rdC {h : Hp} {v : AV} {els : List (List AV)} {B : Nat} (hv : SlN h 1 v els B) (hne : els ≠ []) : RdC h 1 v els := by
  rcases hv with ⟨_, h2⟩ | ⟨o, ob, h1, h2, h3, h4, h5, h6, h7⟩
  · exact absurd h2 hne
  · have hl := flat_len h6
    refine ⟨o, 0, false, 0, _, h1, h4, ?_⟩
    show cellsO ob (els.length * 1) 0 = some els.flatten
    rw [cellsO_cells h5 _ _ (by rw [hl]; omega), List.drop_zero, List.take_of_length_le (by rw [hl]; omega)]
section
variable (cf : CallK) (fuel : Nat) {h0 h : Hp} {K : AV → Hp → Prop} {vo wo p q B mo n m : Nat} {L N : List (List UInt8)} {k c cs : Nat} {ch : Bool}
def cAct : ConD := fun args h K => ∃ h0 p q vo wo B mo n L N k c cs ch cells, args = [.ptr mo 0, .ptr vo 0, .agg cells] ∧ St h0 h p q vo wo B mo n L N k c cs ch ∧ (k ≤ 100 ∧ c ≤ 100) ∧ ActH h cells ∧
  ∀ h' L' N' k' c' cs' ch', St h0 h' p q vo wo B mo n L' N' k' c' cs' ch' → k' ≤ k + 1 → c' ≤ c + 1 → K (.bool true) h'
theorem cAct_go {cf : CallK} {g : FuncId} (hg : cf g = cAct) {cells : List AV} (s : St h0 h p q vo wo B mo n L N k c cs ch) (hk : k ≤ 100 ∧ c ≤ 100) (ha : ActH h cells) (hK : ∀ h' L' N' k' c' cs' ch', St h0 h' p q vo wo B mo n L' N' k' c' cs' ch' → k' ≤ k + 1 → c' ≤ c + 1 → K (.bool true) h') : cf g [.ptr mo 0, .ptr vo 0, .agg cells] h K := by rw [hg]; exact ⟨h0, p, q, vo, wo, B, mo, n, L, N, k, c, cs, ch, cells, rfl, s, hk, ha, hK⟩
theorem St.hN (s : St h0 h p q vo wo B mo n L N k c cs ch) : 8 + 2 * L.length ≤ N.length ∧ 2 ≤ L.length := by
  have := roomN_fits n s.n16
  rw [s.room] at this
  rw [s.len]
  exact this
theorem act_sync (hS : cf 46 = cVSync) (s : St h0 h p q vo wo B mo n L N k c cs ch) (hk : k ≤ 100 ∧ c ≤ 100)
    (hK : ∀ h' L' N' k' c' cs' ch', St h0 h' p q vo wo B mo n L' N' k' c' cs' ch' → k' ≤ k + 1 → c' ≤ c + 1 → K (.bool true) h') : s_lagoonlaw6_Model_actB9 cf fuel K (.ptr mo 0) (.ptr vo 0) h := by
  have hN := s.hN
  have hb := s.hb
  have low := s.low
  have hmo := s.mdl.1
  have x0 := s.ext.next
  refine actB9_run cf fuel hS s.vol s.dev s.ne ⟨by omega, by omega⟩ hN.1 s.mdl (by omega) s.hb (fun h' k1 v1 d1 m1 => ?_)
  have x1 : Ext h0 h' := ⟨Nat.le_trans x0 k1.1, fun o ho => by rw [k1.2 o (by omega) (by omega), s.ext.same o ho]⟩
  cases hch : ch with
  | true =>
    subst hch
    refine hK h' L (keptN N L k c) (k + 1) c c false ⟨x1, s.low, s.hb, s.ne, v1, d1, m1, keptN_heads N L k c cs hN.1 s.heads (by omega) (by omega), by rw [keptN_len]; exact s.len, s.room, s.n16, Nat.le_trans s.nB k1.1, fun _ => ⟨keptN_side N L k c hN.1, rfl⟩⟩ (by omega) (by omega)
  | false =>
    subst hch
    obtain ⟨t1, t2⟩ := s.side rfl
    refine hK h' L N k c cs false ⟨x1, s.low, s.hb, s.ne, v1, d1, m1, s.heads, s.len, s.room, s.n16, Nat.le_trans s.nB k1.1, fun _ => ⟨t1, t2⟩⟩ (by omega) (by omega)
theorem act_run (hS : cf 46 = cVSync) (hNw : cf 44 = cNow) (hP : cf 89 = cPuts) (hC : cf 51 = cVCommit) {cells : List AV} (s : St h0 h p q vo wo B mo n L N k c cs ch) (hk : k ≤ 100 ∧ c ≤ 100) (ha : ActH h cells) (hf : 65537 < fuel)
    (hK : ∀ h' L' N' k' c' cs' ch', St h0 h' p q vo wo B mo n L' N' k' c' cs' ch' → k' ≤ k + 1 → c' ≤ c + 1 → K (.bool true) h') : s_lagoonlaw6_Model_act cf fuel (.ptr mo 0) (.ptr vo 0) (.agg cells) h K := by
  unfold s_lagoonlaw6_Model_act
  obtain ⟨sb, pv, pels, qs, rfl, hr, hqs, hle⟩ := ha
  have sA : ∀ e, St h0 (h.new e) p q vo wo B mo n L N k c cs ch := fun e => s.mono (by repeat (first | exact Ext.refl _ | assumption | apply Ext.new | (refine Ext.put ?_ _ (by first | omega | (simp; done) | (simp; omega)))))
  cases sb with
  | true =>
    (try unfold vMov); repeat' (first | refine Step.imp ?_ | (refine Way.mk (fun hp => ?_) (fun hp => ?_) <;> first | contradiction | (exfalso; omega) | skip) | refine LoadG.mkG ?_ | refine LoadsG.mkG ?_ | refine AtG.mkG ?_ | refine StoreG.mkG ?_ | refine CondG.mkG ?_ | fail); (all_goals (try dsimp only))
    exact act_sync cf fuel hS (sA _) hk hK
  | false =>
    have hN := s.hN
    have hsm := s.vol.small
    (try unfold vMov); repeat' (first | refine Step.imp ?_ | (refine Way.mk (fun hp => ?_) (fun hp => ?_) <;> first | contradiction | (exfalso; omega) | skip) | refine LoadG.mkG ?_ | refine LoadsG.mkG ?_ | refine AtG.mkG ?_ | refine StoreG.mkG ?_ | refine CondG.mkG ?_ | fail); (all_goals (try dsimp only))
    have xA : Ext h (h.new ⟨true, 2, .row [.bool false, pv]⟩) := (by repeat (first | exact Ext.refl _ | assumption | apply Ext.new | (refine Ext.put ?_ _ (by first | omega | (simp; done) | (simp; omega)))))
    replace sA := sA ⟨true, 2, .row [.bool false, pv]⟩
    refine cNow_go hNw sA.mdl (by omega) (fun v els hv hl => ?_)
    have hl1 := hl.1
    have hrv : Rd (h.new ⟨true, 2, .row [.bool false, pv]⟩) 1 v els := SlN.rd6 hv (by omega)
    (try unfold vMov); repeat' (first | refine Step.imp ?_ | (refine Way.mk (fun hp => ?_) (fun hp => ?_) <;> first | contradiction | (exfalso; omega) | skip) | refine LoadG.mkG ?_ | refine LoadsG.mkG ?_ | refine AtG.mkG ?_ | refine StoreG.mkG ?_ | refine CondG.mkG ?_ | (refine CondG.mk (rdSame hr) ?_) | fail); (all_goals (try dsimp only))
    rw [rdLen hrv]
    try dsimp only
    rw [hl1]
    generalize (h.new ⟨true, 2, .row [.bool false, pv]⟩) = hA at *
    refine cPuts_go hP (hr.mono xA) (hqs.mono xA) hle (by omega) (fun v' es ps h2 x2 sl2 pr2 el => ?_)
    (try unfold vMov); repeat' (first | refine Step.imp ?_ | (refine Way.mk (fun hp => ?_) (fun hp => ?_) <;> first | contradiction | (exfalso; omega) | skip) | refine LoadG.mkG ?_ | refine LoadsG.mkG ?_ | refine AtG.mkG ?_ | refine StoreG.mkG ?_ | refine CondG.mkG ?_ | fail); (all_goals (try dsimp only))
    have s2 := sA.mono x2
    have low := s2.low
    have hb := s2.hb
    have nB := sA.nB
    have hel := pr2.1
    have lqs := hqs.1
    have hq2 : SlP (fun o => o ≠ vo ∧ o ≠ wo) v' := fun o off n' kn c' e => by
      rcases sl2 with ⟨e9, _⟩ | ⟨o9, ob9, e9, b9, _⟩
      · rw [e9] at e; cases e
      · rw [e9] at e; cases e; omega
    refine cVCommit_go hC s2.vol s2.dev s2.ne.1 (SlN.rd6 sl2 (by omega)) pr2 hq2 (by omega) (fun hm h3 x3 => ?_) (fun hm hz h3 x3 => ?_) (fun hm hz h3 k3 v3 => ?_)
    · rw [hm]
      (try unfold vMov); repeat' (first | refine Step.imp ?_ | (refine Way.mk (fun hp => ?_) (fun hp => ?_) <;> first | contradiction | (exfalso; omega) | skip) | refine LoadG.mkG ?_ | refine LoadsG.mkG ?_ | refine AtG.mkG ?_ | refine StoreG.mkG ?_ | refine CondG.mkG ?_ | fail); (all_goals (try dsimp only))
      exact hK h3 L N k c cs ch (s2.mono x3) (by omega) (by omega)
    · rw [hm]
      (try unfold vMov); repeat' (first | refine Step.imp ?_ | (refine Way.mk (fun hp => ?_) (fun hp => ?_) <;> first | contradiction | (exfalso; omega) | skip) | refine LoadG.mkG ?_ | refine LoadsG.mkG ?_ | refine AtG.mkG ?_ | refine StoreG.mkG ?_ | refine CondG.mkG ?_ | fail); (all_goals (try dsimp only))
      have : es.length = 0 := by rw [hel, hz]; rfl
      unfold s_lagoonlaw6_Model_actB8
      (try unfold vMov); repeat' (first | refine Step.imp ?_ | (refine Way.mk (fun hp => ?_) (fun hp => ?_) <;> first | contradiction | (exfalso; omega) | skip) | refine LoadG.mkG ?_ | refine LoadsG.mkG ?_ | refine AtG.mkG ?_ | refine StoreG.mkG ?_ | refine CondG.mkG ?_ | fail); (all_goals (try dsimp only))
      rw [rdLen (SlN.rd6 sl2 (by omega))]
      try dsimp only
      (try unfold vMov); repeat' (first | refine Step.imp ?_ | (refine Way.mk (fun hp => ?_) (fun hp => ?_) <;> first | contradiction | (exfalso; omega) | skip) | refine LoadG.mkG ?_ | refine LoadsG.mkG ?_ | refine AtG.mkG ?_ | refine StoreG.mkG ?_ | refine CondG.mkG ?_ | fail); (all_goals (try dsimp only))
      exact hK h3 L N k c cs ch (s2.mono x3) (by omega) (by omega)
    · rw [hm]
      have hpos : 0 < ps.length := List.length_pos_iff.2 hz
      have hmay := hm
      unfold mayP at hmay
      rw [Bool.and_eq_true, decide_eq_true_eq] at hmay
      (try unfold vMov); repeat' (first | refine Step.imp ?_ | (refine Way.mk (fun hp => ?_) (fun hp => ?_) <;> first | contradiction | (exfalso; omega) | skip) | refine LoadG.mkG ?_ | refine LoadsG.mkG ?_ | refine AtG.mkG ?_ | refine StoreG.mkG ?_ | refine CondG.mkG ?_ | fail); (all_goals (try dsimp only))
      unfold s_lagoonlaw6_Model_actB8
      (try unfold vMov); repeat' (first | refine Step.imp ?_ | (refine Way.mk (fun hp => ?_) (fun hp => ?_) <;> first | contradiction | (exfalso; omega) | skip) | refine LoadG.mkG ?_ | refine LoadsG.mkG ?_ | refine AtG.mkG ?_ | refine StoreG.mkG ?_ | refine CondG.mkG ?_ | fail); (all_goals (try dsimp only))
      rw [rdLen (SlN.rd6 sl2 (by omega))]
      try dsimp only
      (try unfold vMov); repeat' (first | refine Step.imp ?_ | (refine Way.mk (fun hp => ?_) (fun hp => ?_) <;> first | contradiction | (exfalso; omega) | skip) | refine LoadG.mkG ?_ | refine LoadsG.mkG ?_ | refine AtG.mkG ?_ | refine StoreG.mkG ?_ | refine CondG.mkG ?_ | fail); (all_goals (try dsimp only))
      obtain ⟨rv, rw'⟩ := s2.vol.rows
      have m3 : MdlS h3 B mo (c + 1) L := s2.mdl.keep k3.1 (fun o ho w => k3.2 o ho (by rintro rfl; rcases w with w | w; omega; exact w rv) (by rintro rfl; rcases w with w | w; omega; exact w rw'))
      have d3 : DevN h3 p q N N := s2.dev.kp k3 rv rw' ⟨fun e => s2.ne.1.1 e.symm, fun e => s2.ne.2.1 e.symm⟩ ⟨fun e => s2.ne.1.2 e.symm, fun e => s2.ne.2.2 e.symm⟩
      refine cNow_go hNw m3 (by omega) (fun v2 els2 hv2 hl2 => ?_)
      have hl21 := hl2.1
      have hne2 : els2 ≠ [] := fun e => by rw [e] at hl21; simp at hl21; omega
      have n2 := x2.next
      have n3 := k3.1
      refine append_own2 (els := []) (news := els2) (B := h3.next) (h0 := ⟨.lf, 0⟩) (ext_none _) (.inl ⟨rfl, rfl⟩) (Nat.zero_le _) (Nat.le_refl _) (SlN.rdC hv2 hne2) (fun e he => ?_) hne2 (by simp only [List.length_nil]; omega) (fun v4 h4 _ w2 w3 w4 => ?_)
      · rcases hv2 with ⟨_, e9⟩ | ⟨_, _, _, _, _, _, _, q, _⟩
        · exact absurd e9 hne2
        · exact q e he
      rw [List.nil_append] at w4
      have x4 : Ext h3 h4 := ⟨by omega, fun o ho => w3 o ho (by intro off n kn c e; cases e)⟩
      have hl4 := hl2.mono x4
      have each := s.vol.row.each
      obtain ⟨xo, rfl⟩ : ∃ xo, v4 = .slice xo 0 L.length false 0 := by
        rcases w4 with ⟨_, e9⟩ | ⟨o9, _, e9, _⟩
        · exact absurd e9 hne2
        · exact ⟨o9, by rw [e9, hl21]⟩
      obtain ⟨b4, _, hxo⟩ := SlN.blkR w4 hl4 each
      have rx := b4.row
      (try unfold vMov); repeat' (first | refine Step.imp ?_ | (refine Way.mk (fun hp => ?_) (fun hp => ?_) <;> first | contradiction | (exfalso; omega) | skip) | refine LoadG.mkG ?_ | refine LoadsG.mkG ?_ | refine AtG.mkG ?_ | refine StoreG.mkG ?_ | refine CondG.mkG ?_ | fail); (all_goals (try dsimp only))
      have hr4 : Rd h4 2 v' es := ((SlN.rd6 sl2 (by omega)).sameQ (Q := fun o => o ≠ vo ∧ o ≠ wo) hq2 k3.1 (fun o ho q => k3.2 o ho q.1 q.2)).mono x4
      have p4 : PutsR h4 es ps := (pr2.kp k3 rv rw').mono x4
      have hqx : SlP (fun o => o ≠ xo) v' := fun o off n' kn c' e => by
        rcases sl2 with ⟨e9, _⟩ | ⟨o9, ob9, e9, b9, b10, _⟩
        · rw [e9] at e; cases e
        · rw [e9] at e; cases e; omega
      refine actL4_run cf fuel (.ptr mo 0) (h0 := h4) hr4 p4 hqx (by omega) hmay.2 hsm rx _ (fun h5 k5 b5 => ?_) es.length 0 fuel h4 (by omega) (by omega) ⟨Nat.le_refl _, fun _ _ _ _ => rfl⟩ (by simpa [putsF] using b4)
      have x5 : Ext h3 h5 := ⟨Nat.le_trans x4.next k5.1, fun o ho => by rw [k5.2 o (by omega) (by omega) (by omega), x4.same o ho]⟩
      have m5 : MdlS h5 B mo (c + 1) L := m3.keep x5.next (fun o ho _ => x5.same o ho)
      have hlen := putsF_len ps L
      obtain ⟨els5, sl5, li5⟩ := b5.sln (B := B) (by omega) (fun e => by rw [e] at hlen; simp at hlen; omega)
      rw [hlen] at sl5
      obtain ⟨_, mlt, x9, ats9, sy9, lv9, el9, t1, ⟨o9, kn9, ob9, t2, t3, t4, t5, t6⟩, _⟩ := m3
      refine mdl_push cf fuel m5 (by omega) (by have := x5.next; omega) sl5 li5 rfl (fun o off n' kn c' e => ?_) (fun h6 n6 k6 m6 => ?_)
      · cases e
        refine ⟨by omega, fun x sy hx off' n9 kn' c9 => ?_⟩
        rw [x5.same mo mlt, t1] at hx
        cases hx
        rw [t2]
        intro e
        cases e
        omega
      · have v6 := vol_above (v3.ext x5) ⟨hb.2.2.1, hb.2.2.2⟩ n6 k6
        have d6 := dev_above (d3.ext x5) ⟨hb.1, hb.2.1⟩ n6 k6
        have n5 := x5.next
        have n0 := s2.ext.next
        refine hK h6 (putsF L ps) N k (c + 1) cs true ⟨⟨by omega, fun o ho => ?_⟩, s2.low, s2.hb, s2.ne, v6, d6, m6, s2.heads, s2.len, by rw [hlen]; exact s2.room, s2.n16, by omega, fun e => by cases e⟩ (by omega) (by omega)
        rw [k6 o (by omega) (.inl (by omega)), x5.same o (by omega), k3.2 o (by omega) (by omega) (by omega), s2.ext.same o ho]
end
end Lg

namespace Lg
set_option linter.unusedSimpArgs false
set_option linter.unusedVariables false
set_option maxRecDepth 100000
open Go Go.Am
open Go.Proofs.Ytnhamanffojhfaa.shl
section
variable (cf : CallK) (fuel : Nat) {h0 h : Hp} {K : AV → Hp → Prop} {vo wo p q B mo n m : Nat} {L N : List (List UInt8)} {k c cs : Nat} {ch : Bool}
theorem St.synced {h' : Hp} (s : St h0 h p q vo wo B mo n L N k c cs ch) (hk : k ≤ 100 ∧ c ≤ 100) (k1 : Kt h h' (fun o => o = p ∨ o = q ∨ o = vo)) (v1 : VolR h' vo wo p L (if ch = true then k + 1 else k) c false false) (d1 : DevN h' p q (if ch = true then keptN N L k c else N) (if ch = true then keptN N L k c else N)) : ∃ N' k', St h0 h' p q vo wo B mo n L N' k' c c false ∧ k' ≤ k + 1 := by
  have hN := s.hN
  have hb := s.hb
  have low := s.low
  have x0 := s.ext.next
  obtain ⟨rp, rq, _, _, _⟩ := s.dev.rows
  have m1 := s.mdl.kt k1 ⟨hb.1, rp⟩ ⟨hb.2.1, rq⟩ ⟨hb.2.2.1, s.vol.vol.row⟩
  have x1 : Ext h0 h' := ⟨Nat.le_trans x0 k1.1, fun o ho => by rw [k1.2 o (by omega) (by omega), s.ext.same o ho]⟩
  cases hch : ch with
  | true =>
    subst hch
    exact ⟨keptN N L k c, k + 1, ⟨x1, s.low, s.hb, s.ne, v1, d1, m1, keptN_heads N L k c cs hN.1 s.heads (by omega) (by omega), by rw [keptN_len]; exact s.len, s.room, s.n16, Nat.le_trans s.nB k1.1, fun _ => ⟨keptN_side N L k c hN.1, rfl⟩⟩, by omega⟩
  | false =>
    subst hch
    obtain ⟨t1, t2⟩ := s.side rfl
    subst t2
    exact ⟨N, k, ⟨x1, s.low, s.hb, s.ne, v1, d1, m1, s.heads, s.len, s.room, s.n16, Nat.le_trans s.nB k1.1, fun _ => ⟨t1, rfl⟩⟩, by omega⟩
theorem FreshP.st {p q vo wo mo : Nat} {h' : Hp} (f : FreshP h h' n p q vo wo mo) (hn : 16 ≤ n) : ∃ B, St h h' p q vo wo B mo n (zeroN (roomN n)) (fmtN n) 0 0 0 false := by
  obtain ⟨x, d, v, ne, low, B, b1, b2, b3, b4, nB, m1⟩ := f
  exact ⟨B, x, low, ⟨b1, b2, b3, b4⟩, ne, v, d, m1, fmtN_heads n hn, fmtN_len n, by rw [zeroN_len], hn, nB, fun _ => ⟨by rw [zeroN_len]; exact fmtN_side n hn, rfl⟩⟩
theorem CommitsL30_run (hA : cf 42 = cAct) (hNw : cf 44 = cNow) (hIs : cf 43 = cIsV) (hCm : cf 45 = cVCommits) {va : AV} {els : List (List AV)} (hr : Rd h0 2 va els) (ha : ∀ j (h1 : j < els.length), ActH h0 els[j]) (t5 t6 : AV) (e0 : Hp → Prop)
    (he : ∀ h' L N k c cs ch, St h0 h' p q vo wo B mo n L N k c cs ch → k ≤ 12 → c ≤ 12 → e0 h') :
    ∀ (d i fm : Nat) (h : Hp) (L N : List (List UInt8)) (k c cs : Nat) (ch : Bool), i + d = 12 → d < fm → St h0 h p q vo wo B mo n L N k c cs ch → k ≤ i → c ≤ i → s_lagoonlaw6_WalCommitsL30 cf fuel K e0 va t5 t6 (.ptr vo 0) (.ptr mo 0) fm (I i) h
  | d, i, fm, h, L, N, k, c, cs, ch, hd, hm, s, hk, hc => by
    obtain ⟨fm, rfl⟩ : ∃ j, fm = j + 1 := ⟨fm - 1, by omega⟩
    rw [s_lagoonlaw6_WalCommitsL30_succ]
    unfold s_lagoonlaw6_WalCommitsL30B
    rw [rdLen hr]
    try dsimp only
    by_cases hi : i < els.length
    · by_cases h12 : i < 12
      · obtain ⟨d, rfl⟩ : ∃ j, d = j + 1 := ⟨d - 1, by omega⟩
        have e1 : ((i : Int) + 1) = ((i + 1 : Nat) : Int) := by omega
        obtain ⟨o, off, kn, c', e, rfl, hat, hcc⟩ := (hr.mono s.ext).openS hi
        have ci := hcc i hi
        (try unfold vMov); repeat' (first | refine Step.imp ?_ | (refine Way.mk (fun hp => ?_) (fun hp => ?_) <;> first | contradiction | (exfalso; omega) | skip) | refine LoadG.mkG ?_ | refine LoadsG.mkG ?_ | refine AtG.mkG ?_ | refine StoreG.mkG ?_ | refine CondG.mkG ?_ | fail); (all_goals (try dsimp only))
        unfold s_lagoonlaw6_WalCommitsB47
        (try unfold vMov); repeat' (first | refine Step.imp ?_ | (refine Way.mk (fun hp => ?_) (fun hp => ?_) <;> first | contradiction | (exfalso; omega) | skip) | refine LoadG.mkG ?_ | refine LoadsG.mkG ?_ | refine AtG.mkG ?_ | refine StoreG.mkG ?_ | refine CondG.mkG ?_ | (refine LoadsG.mk2 hat ci (by omega) ?_) | fail); (all_goals (try dsimp only))
        refine cAct_go hA s ⟨by omega, by omega⟩ ((ha i hi).mono s.ext) (fun h1 L1 N1 k1 c1 cs1 ch1 s1 hk1 hc1 => ?_)
        (try unfold vMov); repeat' (first | refine Step.imp ?_ | (refine Way.mk (fun hp => ?_) (fun hp => ?_) <;> first | contradiction | (exfalso; omega) | skip) | refine LoadG.mkG ?_ | refine LoadsG.mkG ?_ | refine AtG.mkG ?_ | refine StoreG.mkG ?_ | refine CondG.mkG ?_ | fail); (all_goals (try dsimp only))
        refine cNow_go hNw s1.mdl (by omega) (fun v es hv hl => ?_)
        have hsm := s1.vol.small
        have hl1 := hl.1
        (try unfold vMov); repeat' (first | refine Step.imp ?_ | (refine Way.mk (fun hp => ?_) (fun hp => ?_) <;> first | contradiction | (exfalso; omega) | skip) | refine LoadG.mkG ?_ | refine LoadsG.mkG ?_ | refine AtG.mkG ?_ | refine StoreG.mkG ?_ | refine CondG.mkG ?_ | fail); (all_goals (try dsimp only))
        refine cIsV_go hIs s1.vol (SlN.rd6 hv (by omega)) hl (fun h2 x2 => ?_)
        have s2 := s1.mono x2
        have m2 := s2.mdl
        obtain ⟨_, mlt, x9, ats9, sy9, lv9, el9, t1, ⟨o9, kn9, ob9, t2, t3, t4, t5', t6', t7⟩, t8, _⟩ := m2
        subst t2
        (try unfold vMov); repeat' (first | refine Step.imp ?_ | (refine Way.mk (fun hp => ?_) (fun hp => ?_) <;> first | contradiction | (exfalso; omega) | skip) | refine LoadG.mkG ?_ | refine LoadsG.mkG ?_ | refine AtG.mkG ?_ | refine StoreG.mkG ?_ | refine CondG.mkG ?_ | (refine LoadG.mk t1 (by rfl) ?_) | (refine cVCommits_go hCm s2.vol ?_) | fail); (all_goals (try dsimp only))
        rw [e1]
        exact CommitsL30_run hA hNw hIs hCm hr ha t5 t6 e0 he d (i + 1) fm h2 L1 N1 k1 c1 cs1 ch1 (by omega) (by omega) s2 (by omega) (by omega)
      · (try unfold vMov); repeat' (first | refine Step.imp ?_ | (refine Way.mk (fun hp => ?_) (fun hp => ?_) <;> first | contradiction | (exfalso; omega) | skip) | refine LoadG.mkG ?_ | refine LoadsG.mkG ?_ | refine AtG.mkG ?_ | refine StoreG.mkG ?_ | refine CondG.mkG ?_ | fail); (all_goals (try dsimp only))
        exact he h L N k c cs ch s (by omega) (by omega)
    · (try unfold vMov); repeat' (first | refine Step.imp ?_ | (refine Way.mk (fun hp => ?_) (fun hp => ?_) <;> first | contradiction | (exfalso; omega) | skip) | refine LoadG.mkG ?_ | refine LoadsG.mkG ?_ | refine AtG.mkG ?_ | refine StoreG.mkG ?_ | refine CondG.mkG ?_ | fail); (all_goals (try dsimp only))
      exact he h L N k c cs ch s (by omega) (by omega)
theorem Commits_run (hBg : cf 39 = trueC) (hSz : cf 41 = cSizeL) (hFr : cf 40 = cFresh) (hA : cf 42 = cAct) (hNw : cf 44 = cNow) (hIs : cf 43 = cIsV) (hCm : cf 45 = cVCommits) (hS : cf 46 = cVSync) (hM : cf 47 = cMount) (hCr : cf 48 = cCrash0)
    {b : Int} (hbd : -9223372036854775808 ≤ b ∧ b ≤ 9223372036854775807) {va : AV} {els : List (List AV)} (hr : Rd h 2 va els) (ha : ∀ j (h1 : j < els.length), ActH h els[j]) (hf : 65537 < fuel) (hK : ∀ h', K (.bool true) h') : s_lagoonlaw6_WalCommits cf fuel (I b) va h K := by
  unfold s_lagoonlaw6_WalCommits
  rw [hBg]
  refine ⟨rfl, ?_⟩
  have hsz := sizeN_bound b
  refine cSizeL_go hSz hbd ?_
  refine cFresh_go hFr (by omega) (fun p q vo wo mo h1 f1 => ?_)
  obtain ⟨B, s1⟩ := f1.st hsz.1
  (try unfold vMov); repeat' (first | refine Step.imp ?_ | (refine Way.mk (fun hp => ?_) (fun hp => ?_) <;> first | contradiction | (exfalso; omega) | skip) | refine LoadG.mkG ?_ | refine LoadsG.mkG ?_ | refine AtG.mkG ?_ | refine StoreG.mkG ?_ | refine CondG.mkG ?_ | fail); (all_goals (try dsimp only))
  refine CommitsL30_run cf fuel hA hNw hIs hCm (h0 := h) hr ha (.bool true) (.ptr p 0) _ (fun h2 L N k c cs ch s2 hk hc => ?_) 12 0 fuel h1 _ _ 0 0 0 false (by omega) (by omega) s1 (by omega) (by omega)
  unfold s_lagoonlaw6_WalCommitsE0
  refine cVSync_go hS s2.vol s2.dev s2.ne ⟨by omega, by omega⟩ s2.hN.1 (fun h3 k3 v3 d3 => ?_)
  obtain ⟨N3, k3', s3, hk3⟩ := s2.synced ⟨by omega, by omega⟩ k3 v3 d3
  obtain ⟨sd, _⟩ := s3.side rfl
  have rm := s3.room
  have ln := s3.len
  refine cMount_go hM s3.dev (by rw [ln]; exact s3.n16) s3.heads (fun vo4 wo4 h4 x4 f1 f2 v4 => ?_)
  rw [ln, rm, sd] at v4
  have s4 := s3.mono x4
  (try unfold vMov); repeat' (first | refine Step.imp ?_ | (refine Way.mk (fun hp => ?_) (fun hp => ?_) <;> first | contradiction | (exfalso; omega) | skip) | refine LoadG.mkG ?_ | refine LoadsG.mkG ?_ | refine AtG.mkG ?_ | refine StoreG.mkG ?_ | refine CondG.mkG ?_ | fail); (all_goals (try dsimp only))
  refine crash_goN hCr s4.dev (fun p5 q5 h5 x5 f3 f4 d5 => ?_)
  have s5 := s4.mono x5
  refine cMount_go hM d5 (by rw [ln]; exact s3.n16) s5.heads (fun vo6 wo6 h6 x6 f5 f6 v6 => ?_)
  rw [ln, rm, sd] at v6
  have s6 := s5.mono x6
  have hsm := s6.vol.small
  (try unfold vMov); repeat' (first | refine Step.imp ?_ | (refine Way.mk (fun hp => ?_) (fun hp => ?_) <;> first | contradiction | (exfalso; omega) | skip) | refine LoadG.mkG ?_ | refine LoadsG.mkG ?_ | refine AtG.mkG ?_ | refine StoreG.mkG ?_ | refine CondG.mkG ?_ | fail); (all_goals (try dsimp only))
  refine cNow_go hNw s6.mdl (by omega) (fun v es hv hl => ?_)
  have hl1 := hl.1
  (try unfold vMov); repeat' (first | refine Step.imp ?_ | (refine Way.mk (fun hp => ?_) (fun hp => ?_) <;> first | contradiction | (exfalso; omega) | skip) | refine LoadG.mkG ?_ | refine LoadsG.mkG ?_ | refine AtG.mkG ?_ | refine StoreG.mkG ?_ | refine CondG.mkG ?_ | fail); (all_goals (try dsimp only))
  refine cIsV_go hIs ((v4.ext x5).ext x6) (SlN.rd6 hv (by omega)) hl (fun h7 x7 => ?_)
  have s7 := s6.mono x7
  (try unfold vMov); repeat' (first | refine Step.imp ?_ | (refine Way.mk (fun hp => ?_) (fun hp => ?_) <;> first | contradiction | (exfalso; omega) | skip) | refine LoadG.mkG ?_ | refine LoadsG.mkG ?_ | refine AtG.mkG ?_ | refine StoreG.mkG ?_ | refine CondG.mkG ?_ | fail); (all_goals (try dsimp only))
  refine cNow_go hNw s7.mdl (by omega) (fun v es hv hl => ?_)
  have hl1 := hl.1
  (try unfold vMov); repeat' (first | refine Step.imp ?_ | (refine Way.mk (fun hp => ?_) (fun hp => ?_) <;> first | contradiction | (exfalso; omega) | skip) | refine LoadG.mkG ?_ | refine LoadsG.mkG ?_ | refine AtG.mkG ?_ | refine StoreG.mkG ?_ | refine CondG.mkG ?_ | fail); (all_goals (try dsimp only))
  refine cIsV_go hIs (v6.ext x7) (SlN.rd6 hv (by omega)) hl (fun h8 x8 => ?_)
  have s8 := s7.mono x8
  have m8 := s8.mdl
  obtain ⟨_, mlt, x9, ats9, sy9, lv9, el9, t1, ⟨o9, kn9, ob9, t2, t3, t4, t5', t6', t7⟩, t8, _⟩ := m8
  subst t2
  have v48 := ((v4.ext x5).ext x6).ext (x7.trans x8)
  have v68 := v6.ext (x7.trans x8)
  (try unfold vMov); repeat' (first | refine Step.imp ?_ | (refine Way.mk (fun hp => ?_) (fun hp => ?_) <;> first | contradiction | (exfalso; omega) | skip) | refine LoadG.mkG ?_ | refine LoadsG.mkG ?_ | refine AtG.mkG ?_ | refine StoreG.mkG ?_ | refine CondG.mkG ?_ | (refine LoadG.mk t1 (by rfl) ?_) | (refine cVCommits_go hCm v48 ?_) | (refine cVCommits_go hCm v68 ?_) | fail); (all_goals (try dsimp only))
  exact hK _
end
end Lg

namespace Lg
set_option linter.unusedSimpArgs false
set_option linter.unusedVariables false
set_option maxRecDepth 100000
open Go Go.Am Go.Proofs
open Go.Proofs.Ytnhamanffojhfaa.shl
theorem mixed : Try.prog.follows .mixedOrders = true := by kernel_rfl
set_option maxRecDepth 1000000 in
theorem begun_runs : RunsTrue Try.prog (lookC []) 1000 30 39 = True := by kernel_rfl
noncomputable def L0 : List (Nat × ConD) := []
theorem ok0 : ConOK Try.prog (lookC L0) := con_nil
theorem one1 (B : Nat) (w0 : W0) : ConOne Try.prog B w0 61 (cClone) := one_code mixed ok0 rfl (fun avs h K hc => by
  obtain ⟨v, l, rfl, hv, hK⟩ := hc
  exact ⟨0, Eq.mp (s_bytes_Clone_eq ..) (Clone_run _ _ hv hK)⟩) B w0
noncomputable def L1 : List (Nat × ConD) := (61, cClone) :: L0
theorem ok1 : ConOK Try.prog (lookC L1) := con_cons ok0 one1
theorem one2 (B : Nat) (w0 : W0) : ConOne Try.prog B w0 132 (cEqB) := one_code mixed ok1 rfl (fun avs h K hc => by
  obtain ⟨v, w, l, m, rfl, hv, hw, hK⟩ := hc
  exact ⟨0, Eq.mp (s_bytes_Equal_eq ..) (EqualB_run _ _ hv hw hK)⟩) B w0
noncomputable def L2 : List (Nat × ConD) := (132, cEqB) :: L1
theorem ok2 : ConOK Try.prog (lookC L2) := con_cons ok1 one2
theorem one3 (B : Nat) (w0 : W0) : ConOne Try.prog B w0 128 (cDead) := one_code mixed ok2 rfl (fun avs h K hc => by
  obtain ⟨p, q, bs, fu, le, de, rfl, d, hK⟩ := hc
  exact ⟨0, Eq.mp (s_device_Device_Dead_eq ..) (Dead_run _ _ d hK)⟩) B w0
noncomputable def L3 : List (Nat × ConD) := (128, cDead) :: L2
theorem ok3 : ConOK Try.prog (lookC L3) := con_cons ok2 one3
theorem one4 (B : Nat) (w0 : W0) : ConOne Try.prog B w0 151 (cBlocks) := one_code mixed ok3 rfl (fun avs h K hc => by
  obtain ⟨p, q, bs, fu, le, de, rfl, d, hK⟩ := hc
  exact ⟨0, Eq.mp (s_device_Device_Blocks_eq ..) (DBlocks_run _ _ d hK)⟩) B w0
noncomputable def L4 : List (Nat × ConD) := (151, cBlocks) :: L3
theorem ok4 : ConOK Try.prog (lookC L4) := con_cons ok3 one4
theorem one5 (B : Nat) (w0 : W0) : ConOne Try.prog B w0 130 (cDRead) := one_code mixed ok4 rfl (fun avs h K hc => by
  obtain ⟨p, q, bs, fu, le, de, i, hi, rfl, d, hK⟩ := hc
  exact ⟨0, Eq.mp (s_device_Device_Read_eq ..) (DRead_run _ _ (cfn_con rfl) (cfn_con rfl) d hi hK)⟩) B w0
noncomputable def L5 : List (Nat × ConD) := (130, cDRead) :: L4
theorem ok5 : ConOK Try.prog (lookC L5) := con_cons ok4 one5
theorem one6 (B : Nat) (w0 : W0) : ConOne Try.prog B w0 152 (cDone) := one_code mixed ok5 rfl (fun avs h K hc => by
  obtain ⟨p, q, bs, fu, le, rfl, d, hK⟩ := hc
  exact ⟨0, Eq.mp (s_device_Device_done_eq ..) (done_run _ _ d hK)⟩) B w0
noncomputable def L6 : List (Nat × ConD) := (152, cDone) :: L5
theorem ok6 : ConOK Try.prog (lookC L6) := con_cons ok5 one6
theorem one7 (B : Nat) (w0 : W0) : ConOne Try.prog B w0 126 (cWrite) := one_code mixed ok6 rfl (fun avs h K hc => by
  obtain ⟨p, q, bs, fu, le, i, hi, v, l, rfl, d, hv, hl, hK⟩ := hc
  exact ⟨0, Eq.mp (s_device_Device_Write_eq ..) (Write_run _ _ (cfn_con rfl) (cfn_con rfl) (cfn_con rfl) d hi hv hl hK)⟩) B w0
noncomputable def L7 : List (Nat × ConD) := (126, cWrite) :: L6
theorem ok7 : ConOK Try.prog (lookC L7) := con_cons ok6 one7
theorem one8 (B : Nat) (w0 : W0) : ConOne Try.prog B w0 86 (cDNew) := one_code mixed ok7 rfl (fun avs h K hc => by
  obtain ⟨n, rfl, hn, hK⟩ := hc
  exact ⟨0, Eq.mp (s_device_New_eq ..) (DNew_run _ _ hn hK)⟩) B w0
noncomputable def L8 : List (Nat × ConD) := (86, cDNew) :: L7
theorem ok8 : ConOK Try.prog (lookC L8) := con_cons ok7 one8
theorem one9 (B : Nat) (w0 : W0) : ConOne Try.prog B w0 125 (cFlush) := one_code mixed ok8 rfl (fun avs h K hc => by
  obtain ⟨p, q, bs, fu, le, rfl, d, hK⟩ := hc
  exact ⟨1000020, Eq.mp (s_device_Device_Flush_eq ..) (Flush_run _ _ (cfn_con rfl) (cfn_con rfl) d (by omega) hK)⟩) B w0
noncomputable def L9 : List (Nat × ConD) := (125, cFlush) :: L8
theorem ok9 : ConOK Try.prog (lookC L9) := con_cons ok8 one9
theorem one10 (B : Nat) (w0 : W0) : ConOne Try.prog B w0 48 (cCrash0) := one_code mixed ok9 rfl (fun avs h K hc => by
  obtain ⟨p, q, bs, fu, le, de, rfl, d, hK⟩ := hc
  exact ⟨1000020, Eq.mp (s_device_Device_Crash_eq ..) (Crash0_run _ _ (cfn_con rfl) d (by omega) hK)⟩) B w0
noncomputable def L10 : List (Nat × ConD) := (48, cCrash0) :: L9
theorem ok10 : ConOK Try.prog (lookC L10) := con_cons ok9 one10
theorem one11 (B : Nat) (w0 : W0) : ConOne Try.prog B w0 123 (cRoom) := one_code mixed ok10 rfl (fun avs h K hc => by
  obtain ⟨p, q, N, E, rfl, d, hK⟩ := hc
  exact ⟨0, Eq.mp (s_wal_room_eq ..) (room_run _ _ (cfn_con rfl) d hK)⟩) B w0
noncomputable def L11 : List (Nat × ConD) := (123, cRoom) :: L10
theorem ok11 : ConOK Try.prog (lookC L11) := con_cons ok10 one11
theorem one12 (B : Nat) (w0 : W0) : ConOne Try.prog B w0 124 (cWrote) := one_code mixed ok11 rfl (fun avs h K hc => by
  obtain ⟨p, q, N, E, i, v, l, rfl, d, hi, hv, hl, hK⟩ := hc
  exact ⟨0, Eq.mp (s_wal_wrote_eq ..) (wrote_run _ _ (cfn_con rfl) (cfn_con rfl) (cfn_con rfl) d hi hv hl hK)⟩) B w0
noncomputable def L12 : List (Nat × ConD) := (124, cWrote) :: L11
theorem ok12 : ConOK Try.prog (lookC L12) := con_cons ok11 one12
theorem one13 (B : Nat) (w0 : W0) : ConOne Try.prog B w0 49 (cVBlocks) := one_code mixed ok12 rfl (fun avs h K hc => by
  obtain ⟨vo, wo, p, L, k, c, ch, br, rfl, v, hK⟩ := hc
  exact ⟨0, Eq.mp (s_wal_Volume_Blocks_eq ..) (VBlocks_run _ _ v hK)⟩) B w0
noncomputable def L13 : List (Nat × ConD) := (49, cVBlocks) :: L12
theorem ok13 : ConOK Try.prog (lookC L13) := con_cons ok12 one13
theorem one14 (B : Nat) (w0 : W0) : ConOne Try.prog B w0 45 (cVCommits) := one_code mixed ok13 rfl (fun avs h K hc => by
  obtain ⟨vo, wo, p, L, k, c, ch, br, rfl, v, hK⟩ := hc
  exact ⟨0, Eq.mp (s_wal_Volume_Commits_eq ..) (VCommits_run _ _ v hK)⟩) B w0
noncomputable def L14 : List (Nat × ConD) := (45, cVCommits) :: L13
theorem ok14 : ConOK Try.prog (lookC L14) := con_cons ok13 one14
theorem one15 (B : Nat) (w0 : W0) : ConOne Try.prog B w0 88 (cVRead) := one_code mixed ok14 rfl (fun avs h K hc => by
  obtain ⟨vo, wo, p, L, k, c, ch, br, i, rfl, v, hK, hK2⟩ := hc
  exact ⟨0, Eq.mp (s_wal_Volume_Read_eq ..) (VRead_run _ _ (cfn_con rfl) (cfn_con rfl) v hK hK2)⟩) B w0
noncomputable def L15 : List (Nat × ConD) := (88, cVRead) :: L14
theorem ok15 : ConOK Try.prog (lookC L15) := con_cons ok14 one15
theorem one16 (B : Nat) (w0 : W0) : ConOne Try.prog B w0 90 (cVDead) := one_code mixed ok15 rfl (fun avs h K hc => by
  obtain ⟨vo, wo, p, q, L, N, E, k, c, ch, rfl, v, d, n, hK⟩ := hc
  exact ⟨0, Eq.mp (s_wal_Volume_dead_eq ..) (VDead_run _ _ (cfn_con rfl) v d hK)⟩) B w0
noncomputable def L16 : List (Nat × ConD) := (90, cVDead) :: L15
theorem ok16 : ConOK Try.prog (lookC L16) := con_cons ok15 one16
theorem one17 (B : Nat) (w0 : W0) : ConOne Try.prog B w0 96 (cVMay) := one_code mixed ok16 rfl (fun avs h K hc => by
  obtain ⟨vo, wo, p, L, k, c, ch, br, v, els, ps, rfl, vr, hr, hp, hK⟩ := hc
  exact ⟨1000020, Eq.mp (s_wal_Volume_may_eq ..) (VMay_run _ _ vr hr hp (by omega) hK)⟩) B w0
noncomputable def L17 : List (Nat × ConD) := (96, cVMay) :: L16
theorem ok17 : ConOK Try.prog (lookC L17) := con_cons ok16 one17
theorem one18 (B : Nat) (w0 : W0) : ConOne Try.prog B w0 51 (cVCommit) := one_code mixed ok17 rfl (fun avs h K hc => by
  obtain ⟨vo, wo, p, q, L, N, E, k, c, ch, v, els, ps, rfl, vr, dv, hn, hr, hps, hq, hc, h1, h2, h3⟩ := hc
  exact ⟨1000020, Eq.mp (s_wal_Volume_Commit_eq ..) (VCommit_run _ _ (cfn_con rfl) (cfn_con rfl) (cfn_con rfl) vr dv hn hr hps hq hc (by omega) h1 h2 h3)⟩) B w0
noncomputable def L18 : List (Nat × ConD) := (51, cVCommit) :: L17
theorem ok18 : ConOK Try.prog (lookC L18) := con_cons ok17 one18
theorem one19 (B : Nat) (w0 : W0) : ConOne Try.prog B w0 129 (cVAt) := one_code mixed ok18 rfl (fun avs h K hc => by
  obtain ⟨vo, wo, p, n, k', c', ch, br, k, i, rfl, v, hn, hk, hi, hK⟩ := hc
  exact ⟨0, Eq.mp (s_wal_Volume_at_eq ..) (VAt_run _ _ v hn hk hi hK)⟩) B w0
noncomputable def L19 : List (Nat × ConD) := (129, cVAt) :: L18
theorem ok19 : ConOK Try.prog (lookC L19) := con_cons ok18 one19
theorem one20 (B : Nat) (w0 : W0) : ConOne Try.prog B w0 165 (cCrcAdd) := one_code mixed ok19 rfl (fun avs h K hc => by
  obtain ⟨so, v, l, rfl, hs, hat, hv, hl, hK⟩ := hc
  exact ⟨1000020, Eq.mp (s_crc_Sum_Add_eq ..) (CrcAdd_run _ _ (by omega) hs hat hv hl hK)⟩) B w0
noncomputable def L20 : List (Nat × ConD) := (165, cCrcAdd) :: L19
theorem ok20 : ConOK Try.prog (lookC L20) := con_cons ok19 one20
theorem one21 (B : Nat) (w0 : W0) : ConOne Try.prog B w0 163 (cCrcNew) := one_code mixed ok20 rfl (fun avs h K hc => by
  obtain ⟨rfl, hK⟩ := hc
  exact ⟨0, Eq.mp (s_crc_New_eq ..) (CrcNew_run _ _ hK)⟩) B w0
noncomputable def L21 : List (Nat × ConD) := (163, cCrcNew) :: L20
theorem ok21 : ConOK Try.prog (lookC L21) := con_cons ok20 one21
theorem one22 (B : Nat) (w0 : W0) : ConOne Try.prog B w0 166 (cCrcVal) := one_code mixed ok21 rfl (fun avs h K hc => by
  obtain ⟨so, x, rfl, hat, hK⟩ := hc
  exact ⟨0, Eq.mp (s_crc_Sum_Value_eq ..) (CrcVal_run _ _ hat hK)⟩) B w0
noncomputable def L22 : List (Nat × ConD) := (166, cCrcVal) :: L21
theorem ok22 : ConOK Try.prog (lookC L22) := con_cons ok21 one22
theorem one23 (B : Nat) (w0 : W0) : ConOne Try.prog B w0 164 (cCrcEach) := one_code mixed ok22 rfl (fun avs h K hc => by
  obtain ⟨po, so, v, l, rfl, hpo, hne, hpv, hs, hat, hv, hl, hK⟩ := hc
  exact ⟨1000020, Eq.mp (s_crc_each_eq ..) (CrcEach_run _ _ (cfn_con rfl) (by omega) hpo hne hpv hs hat hv hl hK)⟩) B w0
noncomputable def L23 : List (Nat × ConD) := (164, cCrcEach) :: L22
theorem ok23 : ConOK Try.prog (lookC L23) := con_cons ok22 one23
theorem one24 (B : Nat) (w0 : W0) : ConOne Try.prog B w0 155 (cCrcOf) := one_code mixed ok23 rfl (fun avs h K hc => by
  obtain ⟨po, v, l, rfl, hpo, hp, hv, hl, hK⟩ := hc
  exact ⟨0, Eq.mp (s_crc_Of_eq ..) (CrcOf_run _ _ (cfn_con rfl) (cfn_con rfl) (cfn_con rfl) hpo hp hv hl hK)⟩) B w0
noncomputable def L24 : List (Nat × ConD) := (155, cCrcOf) :: L23
theorem ok24 : ConOK Try.prog (lookC L24) := con_cons ok23 one24
theorem one25 (B : Nat) (w0 : W0) : ConOne Try.prog B w0 153 (cApp64) := one_code mixed ok24 rfl (fun avs h K hc => by
  obtain ⟨v, o, l, x, rfl, hv, hl, hK⟩ := hc
  exact ⟨0, Eq.mp (s_zbyte_Append64_eq ..) (Append64_run _ _ hv hl hK)⟩) B w0
noncomputable def L25 : List (Nat × ConD) := (153, cApp64) :: L24
theorem ok25 : ConOK Try.prog (lookC L25) := con_cons ok24 one25
theorem one26 (B : Nat) (w0 : W0) : ConOne Try.prog B w0 154 (cApp32) := one_code mixed ok25 rfl (fun avs h K hc => by
  obtain ⟨v, o, l, x, rfl, hv, hl, hK⟩ := hc
  exact ⟨0, Eq.mp (s_zbyte_Append32_eq ..) (Append32_run _ _ hv hl hK)⟩) B w0
noncomputable def L26 : List (Nat × ConD) := (154, cApp32) :: L25
theorem ok26 : ConOK Try.prog (lookC L26) := con_cons ok25 one26
theorem one27 (B : Nat) (w0 : W0) : ConOne Try.prog B w0 127 (cHead) := one_code mixed ok26 rfl (fun avs h K hc => by
  obtain ⟨k, c, rfl, hk, hK⟩ := hc
  exact ⟨0, Eq.mp (s_wal_head_eq ..) (head_run _ _ (cfn_con rfl) (cfn_con rfl) (cfn_con rfl) hk hK)⟩) B w0
noncomputable def L27 : List (Nat × ConD) := (127, cHead) :: L26
theorem ok27 : ConOK Try.prog (lookC L27) := con_cons ok26 one27
theorem one28 (B : Nat) (w0 : W0) : ConOne Try.prog B w0 91 (cVKeep) := one_code mixed ok27 rfl (fun avs h K hc => by
  obtain ⟨vo, wo, p, q, L, N, E, k, c, ch, rfl, v, d, n, hk, hN, hK⟩ := hc
  exact ⟨1000020, Eq.mp (s_wal_Volume_keep_eq ..) (keep_run _ _ (cfn_con rfl) (cfn_con rfl) (cfn_con rfl) (cfn_con rfl) (cfn_con rfl) v d n hk hN (by omega) hK)⟩) B w0
noncomputable def L28 : List (Nat × ConD) := (91, cVKeep) :: L27
theorem ok28 : ConOK Try.prog (lookC L28) := con_cons ok27 one28
theorem one29 (B : Nat) (w0 : W0) : ConOne Try.prog B w0 46 (cVSync) := one_code mixed ok28 rfl (fun avs h K hc => by
  obtain ⟨vo, wo, p, q, L, N, E, k, c, ch, rfl, v, d, n, hk, hN, hK⟩ := hc
  exact ⟨0, Eq.mp (s_wal_Volume_Sync_eq ..) (VSync_run _ _ (cfn_con rfl) (cfn_con rfl) v d n hk hN hK)⟩) B w0
noncomputable def L29 : List (Nat × ConD) := (46, cVSync) :: L28
theorem ok29 : ConOK Try.prog (lookC L29) := con_cons ok28 one29
theorem one30 (B : Nat) (w0 : W0) : ConOne Try.prog B w0 92 (cVLarge) := one_code mixed ok29 rfl (fun avs h K hc => by
  obtain ⟨vo, p, q, x, k, c, ch, br, N, E, rfl, v, d, hN, hK⟩ := hc
  exact ⟨0, Eq.mp (s_wal_Volume_large_eq ..) (large_run _ _ (cfn_con rfl) v d hN hK)⟩) B w0
noncomputable def L30 : List (Nat × ConD) := (92, cVLarge) :: L29
theorem ok30 : ConOK Try.prog (lookC L30) := con_cons ok29 one30
theorem one31 (B : Nat) (w0 : W0) : ConOne Try.prog B w0 93 (cVAlive) := one_code mixed ok30 rfl (fun avs h K hc => by
  obtain ⟨vo, p, q, x, k, c, ch, br, N, E, rfl, v, d, hK⟩ := hc
  exact ⟨0, Eq.mp (s_wal_Volume_alive_eq ..) (alive_run _ _ (cfn_con rfl) v d hK)⟩) B w0
noncomputable def L31 : List (Nat × ConD) := (93, cVAlive) :: L30
theorem ok31 : ConOK Try.prog (lookC L31) := con_cons ok30 one31
theorem one32 (B : Nat) (w0 : W0) : ConOne Try.prog B w0 95 (cVBlk) := one_code mixed ok31 rfl (fun avs h K hc => by
  obtain ⟨vo, p, q, x, k, c, ch, br, N, E, rfl, v, d, hne, hN, hk, hK⟩ := hc
  exact ⟨1000020, Eq.mp (s_wal_Volume_blocks_eq ..) (blocks_run _ _ (cfn_con rfl) (cfn_con rfl) (cfn_con rfl) v d hne hN hk (by omega) hK)⟩) B w0
noncomputable def L32 : List (Nat × ConD) := (95, cVBlk) :: L31
theorem ok32 : ConOK Try.prog (lookC L32) := con_cons ok31 one32
theorem one33 (B : Nat) (w0 : W0) : ConOne Try.prog B w0 131 (cGet64) := one_code mixed ok32 rfl (fun avs h K hc => by
  obtain ⟨v, l, rfl, hv, hl, hK⟩ := hc
  exact ⟨0, Eq.mp (s_zbyte_Get64_eq ..) (Get64_run _ _ hv hl hK)⟩) B w0
noncomputable def L33 : List (Nat × ConD) := (131, cGet64) :: L32
theorem ok33 : ConOK Try.prog (lookC L33) := con_cons ok32 one33
theorem one34 (B : Nat) (w0 : W0) : ConOne Try.prog B w0 94 (cVHeads) := one_code mixed ok33 rfl (fun avs h K hc => by
  obtain ⟨vo, p, q, x, k0, c0, ch, br, N, E, k, c, rfl, v, d, hne, h2, hh, hK⟩ := hc
  exact ⟨1000020, Eq.mp (s_wal_Volume_heads_eq ..) (heads_run _ _ (cfn_con rfl) (cfn_con rfl) (cfn_con rfl) (cfn_con rfl) v d hne h2 hh (by omega) hK)⟩) B w0
noncomputable def L34 : List (Nat × ConD) := (94, cVHeads) :: L33
theorem ok34 : ConOK Try.prog (lookC L34) := con_cons ok33 one34
theorem one35 (B : Nat) (w0 : W0) : ConOne Try.prog B w0 47 (cMount) := one_code mixed ok34 rfl (fun avs h K hc => by
  obtain ⟨p, q, N, E, k, c, rfl, d, hN, hh, hK⟩ := hc
  exact ⟨1000020, Eq.mp (s_wal_Mount_eq ..) (Mount_run _ _ (cfn_con rfl) (cfn_con rfl) (cfn_con rfl) (cfn_con rfl) d hN hh (by omega) hK)⟩) B w0
noncomputable def L35 : List (Nat × ConD) := (47, cMount) :: L34
theorem ok35 : ConOK Try.prog (lookC L35) := con_cons ok34 one35
theorem one36 (B : Nat) (w0 : W0) : ConOne Try.prog B w0 87 (cFormat) := one_code mixed ok35 rfl (fun avs h K hc => by
  obtain ⟨p, q, n, E, rfl, d, hn, hK⟩ := hc
  exact ⟨1000020, Eq.mp (s_wal_Format_eq ..) (Format_run _ _ (cfn_con rfl) (cfn_con rfl) (cfn_con rfl) (cfn_con rfl) (cfn_con rfl) d hn (by omega) hK)⟩) B w0
noncomputable def L36 : List (Nat × ConD) := (87, cFormat) :: L35
theorem ok36 : ConOK Try.prog (lookC L36) := con_cons ok35 one36
theorem one37 (B : Nat) (w0 : W0) : ConOne Try.prog B w0 41 (cSizeL) := one_code mixed ok36 rfl (fun avs h K hc => by
  obtain ⟨n, rfl, hn, hK⟩ := hc
  exact ⟨0, Eq.mp (s_lagoonlaw6_Size_eq ..) (SizeL_run _ _ hn hK)⟩) B w0
noncomputable def L37 : List (Nat × ConD) := (41, cSizeL) :: L36
theorem ok37 : ConOK Try.prog (lookC L37) := con_cons ok36 one37
theorem one38 (B : Nat) (w0 : W0) : ConOne Try.prog B w0 43 (cIsV) := one_code mixed ok37 rfl (fun avs h K hc => by
  obtain ⟨vo, wo, p, L, k, c, ch, br, v, els, rfl, vr, hr, hl, hK⟩ := hc
  exact ⟨1000020, Eq.mp (s_lagoonlaw6_is_eq ..) (isV_run _ _ (cfn_con rfl) (cfn_con rfl) vr hr hl (by omega) hK)⟩) B w0
noncomputable def L38 : List (Nat × ConD) := (43, cIsV) :: L37
theorem ok38 : ConOK Try.prog (lookC L38) := con_cons ok37 one38
theorem one39 (B : Nat) (w0 : W0) : ConOne Try.prog B w0 50 (cFull) := one_code mixed ok38 rfl (fun avs h K hc => by
  obtain ⟨v, l, n, rfl, hv, hn, hK⟩ := hc
  exact ⟨1000020, Eq.mp (s_lagoonlaw1_Full_eq ..) (Full_run _ _ hv hn (by omega) hK)⟩) B w0
noncomputable def L39 : List (Nat × ConD) := (50, cFull) :: L38
theorem ok39 : ConOK Try.prog (lookC L39) := con_cons ok38 one39
theorem one40 (B : Nat) (w0 : W0) : ConOne Try.prog B w0 40 (cFresh) := one_code mixed ok39 rfl (fun avs h K hc => by
  obtain ⟨n, rfl, hn, hK⟩ := hc
  exact ⟨1000020, Eq.mp (s_lagoonlaw6_fresh_eq ..) (fresh_run _ _ (cfn_con rfl) (cfn_con rfl) (cfn_con rfl) hn (by omega) hK)⟩) B w0
noncomputable def L40 : List (Nat × ConD) := (40, cFresh) :: L39
theorem ok40 : ConOK Try.prog (lookC L40) := con_cons ok39 one40
theorem one41 (B : Nat) (w0 : W0) : ConOne Try.prog B w0 44 (cNow) := one_code mixed ok40 rfl (fun avs h K hc => by
  obtain ⟨B, mo, m, L, rfl, hm, hb, hK⟩ := hc
  exact ⟨0, Eq.mp (s_lagoonlaw6_Model_now_eq ..) (now_run _ _ hm hb hK)⟩) B w0
noncomputable def L41 : List (Nat × ConD) := (44, cNow) :: L40
theorem ok41 : ConOK Try.prog (lookC L41) := con_cons ok40 one41
theorem one42 (B : Nat) (w0 : W0) : ConOne Try.prog B w0 89 (cPuts) := one_code mixed ok41 rfl (fun avs h K hc => by
  obtain ⟨v, els, qs, n, rfl, hr, hqs, hsm, hn, hK⟩ := hc
  exact ⟨els.length + 2, Eq.mp (s_lagoonlaw6_puts_eq ..) (puts_run _ _ (cfn_con rfl) hr hqs hsm hn (by omega) hK)⟩) B w0
noncomputable def L42 : List (Nat × ConD) := (89, cPuts) :: L41
theorem ok42 : ConOK Try.prog (lookC L42) := con_cons ok41 one42
theorem one43 (B : Nat) (w0 : W0) : ConOne Try.prog B w0 42 (cAct) := one_code mixed ok42 rfl (fun avs h K hc => by
  obtain ⟨h0, p, q, vo, wo, B, mo, n, L, N, k, c, cs, ch, cells, rfl, s, hk, ha, hK⟩ := hc
  exact ⟨1000020, Eq.mp (s_lagoonlaw6_Model_act_eq ..) (act_run _ _ (cfn_con rfl) (cfn_con rfl) (cfn_con rfl) (cfn_con rfl) s hk ha (by omega) hK)⟩) B w0
noncomputable def L43 : List (Nat × ConD) := (42, cAct) :: L42
theorem ok43 : ConOK Try.prog (lookC L43) := con_cons ok42 one43
theorem one44 (B : Nat) (w0 : W0) : ConOne Try.prog B w0 39 (trueC) := one_true mixed con_nil 1000 30 39 begun_runs B w0
noncomputable def L44 : List (Nat × ConD) := (39, trueC) :: L43
theorem ok44 : ConOK Try.prog (lookC L44) := con_cons ok43 one44
noncomputable abbrev LT : List (Nat × ConD) := L44
theorem okT : ConOK Try.prog (lookC LT) := ok44
end Lg

