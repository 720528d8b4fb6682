/-
  What functions of the program do, said of the abstract machine, and plain lemmas: LgGo LcNum LdVec LdVec2 LdOp LdApp LdClone LdOf LdHeads LdFHeads LdFile LdFHeads2 LdDev LdDev2 LdDev3 LdDev4 LdDev5 LdWal1 YtnhamanffojhfaaDoorLib LcFmt LdFHeads3 LdFHeads4 LdValue LdValue2 LdMay LdUtf LdStr3 LdOps3 LcClash LdBytes LdZb LcRef LcSplit LcRef2 LcRef3. No condition.
-/
import Derived.Test.YtnhamanffojhfaaDoorG3
import Derived.Test.YtnhamanffojhfaaDoorShL
import Derived.Lib.ItoaMem
import Derived.Lib.ParseIntBTie
import Derived.Lib.ParseIntBCases
import Derived.Shelf.LaysM
import Derived.Shelf.Strconv.Itoa3
import Derived.Shelf.Strconv.Itoa4
import Derived.Shelf.LaysC
import Derived.Shelf.Strconv.ParseIntPublic10
import Derived.Shelf.Strconv.ErrVarParseInt
import Derived.Test.YtnhamanffojhfaaDoorProg
import Derived.KernelRfl
import Derived.Lib.ItoaLen
namespace Go.Am
set_option linter.unusedSimpArgs false
set_option linter.unusedVariables false
open Go Go.RowKit
section
variable {h : Hp}
theorem LoadG.mkG {o off : Nat} {k : AV → Prop} {e : Ent} {v : AV} (q : k v) (h1 : h.at o = some e := by simp (disch := (first | omega | (simp only [Hp.next_new, Hp.next_put]; omega))) only [Hp.at_new_self, Hp.at_put_self, Hp.at_new_lt, Hp.at_put_ne] <;> rfl)
    (h2 : cellAt e.obj off = some v := by simp only [cellAt_row', setL_cons0, setL_succ, Nat.reduceAdd, Nat.reduceMul, Nat.zero_add, Nat.add_zero, List.getElem?_cons_succ, List.getElem?_cons_zero]; rfl) : LoadG h o off k := LoadG.mk h1 h2 q
theorem LoadsG.mkG {n o off : Nat} {k : List AV → Prop} {e : Ent} {l : List AV} (q : k l) (h1 : h.at o = some e := by simp (disch := (first | omega | (simp only [Hp.next_new, Hp.next_put]; omega))) only [Hp.at_new_self, Hp.at_put_self, Hp.at_new_lt, Hp.at_put_ne] <;> rfl) (h2 : cellsO e.obj n off = some l := by rfl) : LoadsG h n o off k := LoadsG.mk h1 h2 q
theorem AtG.mkG {l : List AV} {i : Nat} {k : AV → Prop} {v : AV} (q : k v) (h1 : l[i]? = some v := by rfl) : AtG l i k := AtG.mk h1 q
theorem StoreG.mkG {n o off : Nat} {l : List AV} {k : Hp → Prop} {esz : Nat} {cs : List AV} (q : k (h.put o (some ⟨true, esz, .row (setL cs off l)⟩))) (h1 : h.at o = some ⟨true, esz, .row cs⟩ := by simp (disch := (first | omega | (simp only [Hp.next_new, Hp.next_put]; omega))) only [Hp.at_new_self, Hp.at_put_self, Hp.at_new_lt, Hp.at_put_ne] <;> rfl)
    (h2 : l.length = n ∧ off + l.length ≤ cs.length := by first | omega | (simp; done) | (simp; omega)) : StoreG h n o off l k := StoreG.mk h1 h2 q
theorem CondG.mkG {c A : Prop} (q : A) (h1 : c := by first | omega | exact sameV_flat _ rfl | exact sameV_agg _ (by simp [flatV]) | (simp; done) | (simp [repL, setL]; done) | (simp; omega)) : CondG c A := CondG.mk h1 q
end
end Go.Am

namespace Lg
set_option linter.unusedSimpArgs false
set_option linter.unusedVariables false
open Go Go.Am Go.Lib
def isDig (c : UInt8) : Bool := decide (48 ≤ c.toNat) && decide (c.toNat ≤ 57)
def valF (a : Nat) (l : List UInt8) : Nat := l.foldl (fun a c => a * 10 + (c.toNat - 48)) a
def Canon (l : List UInt8) : Prop := l ≠ [] ∧ l.all isDig = true ∧ (l.length = 1 ∨ l.head? ≠ some 48)
theorem isDig_of {d : Nat} (h : d < 10) : isDig (UInt8.ofNat (48 + d)) = true := by
  unfold isDig
  have : (UInt8.ofNat (48 + d)).toNat = 48 + d := by simp [UInt8.toNat_ofNat']; omega
  rw [this]
  simp
  omega
theorem ofNat_dig {c : UInt8} (h : isDig c = true) : UInt8.ofNat (48 + (c.toNat - 48)) = c := by
  unfold isDig at h
  simp at h
  rw [show 48 + (c.toNat - 48) = c.toNat by omega]
  exact UInt8.ofNat_toNat
theorem valF_snoc (a : Nat) (l : List UInt8) (c : UInt8) : valF a (l ++ [c]) = valF a l * 10 + (c.toNat - 48) := by simp [valF]
theorem head_app (l m : List UInt8) (h : l ≠ []) : (l ++ m).head? = l.head? := by
  cases l with
  | nil => exact absurd rfl h
  | cons a l => rfl
theorem dec_rec (u : Nat) (h : 10 ≤ u) : decDigits u = decDigits (u / 10) ++ [UInt8.ofNat (48 + u % 10)] := by
  rw [decDigits, dif_neg (by omega)]
theorem dec_dig : ∀ u : Nat, (decDigits u).all isDig = true := by
  intro u
  induction u using Nat.strongRecOn with
  | _ u ih =>
    by_cases h : u < 10
    · rw [decDigits_one h]
      rw [List.all_cons, isDig_of h]; rfl
    · rw [dec_rec u (by omega), List.all_append, ih (u / 10) (by omega)]
      rw [List.all_cons, isDig_of (Nat.mod_lt u (by omega : 0 < 10))]; rfl
theorem dec_ne (u : Nat) : decDigits u ≠ [] := by
  by_cases h : u < 10
  · rw [decDigits_one h]; simp
  · rw [dec_rec u (by omega)]; simp
theorem dec_head : ∀ u : Nat, 0 < u → (decDigits u).head? ≠ some 48 := by
  intro u
  induction u using Nat.strongRecOn with
  | _ u ih =>
    intro hu
    by_cases h : u < 10
    · rw [decDigits_one h]
      simp only [List.head?_cons, ne_eq, Option.some.injEq]
      intro e
      have := congrArg UInt8.toNat e
      simp [UInt8.toNat_ofNat'] at this
      omega
    · rw [dec_rec u (by omega), head_app _ _ (dec_ne _)]
      exact ih (u / 10) (by omega) (by omega)
theorem dec_val : ∀ u : Nat, valF 0 (decDigits u) = u := by
  intro u
  induction u using Nat.strongRecOn with
  | _ u ih =>
    have hc : ∀ d, d < 10 → (UInt8.ofNat (48 + d)).toNat - 48 = d := fun d hd => by simp [UInt8.toNat_ofNat']; omega
    by_cases h : u < 10
    · rw [decDigits_one h]
      simp only [valF, List.foldl_cons, List.foldl_nil, hc u h]
      omega
    · rw [dec_rec u (by omega), valF_snoc, ih (u / 10) (by omega), hc _ (Nat.mod_lt u (by omega))]
      omega
theorem dec_canon (u : Nat) : Canon (decDigits u) := by
  refine ⟨dec_ne u, dec_dig u, ?_⟩
  by_cases h : u = 0
  · subst h
    exact .inl (by rw [decDigits_one (by omega)]; rfl)
  · exact .inr (dec_head u (by omega))
theorem dec_len : ∀ (k u : Nat), 1 ≤ k → u < 10 ^ k → (decDigits u).length ≤ k
  | 0, u, h, _ => by omega
  | 1, u, _, h => by rw [decDigits_one (by omega)]; simp
  | k + 2, u, _, h => by
    by_cases h2 : u < 10
    · rw [decDigits_one h2]; simp
    · rw [dec_rec u (by omega), List.length_append]
      have : u / 10 < 10 ^ (k + 1) := by
        rw [Nat.div_lt_iff_lt_mul (by omega), ← Nat.pow_succ]
        exact h
      have := dec_len (k + 1) (u / 10) (by omega) this
      simp
      omega
theorem canon_dec (l : List UInt8) (hc : Canon l) : decDigits (valF 0 l) = l := by
  obtain ⟨n, hn⟩ : ∃ n, l.length = n := ⟨_, rfl⟩
  induction n generalizing l with
  | zero => exact absurd (List.length_eq_zero_iff.1 hn) hc.1
  | succ n ih =>
    obtain ⟨m, c, rfl⟩ : ∃ m c, l = m ++ [c] := ⟨l.dropLast, l.getLast hc.1, (List.dropLast_concat_getLast hc.1).symm⟩
    obtain ⟨h1, h2, h3⟩ := hc
    rw [List.all_append, Bool.and_eq_true] at h2
    have hd : isDig c = true := by simpa using h2.2
    have hdb := hd
    unfold isDig at hdb
    simp at hdb
    by_cases hm : m = []
    · subst hm
      have : valF 0 ([] ++ [c]) = c.toNat - 48 := by simp [valF]
      rw [this, decDigits_one (by omega), ofNat_dig hd]
      rfl
    · have hl : m.length ≠ 0 := fun e => hm (List.length_eq_zero_iff.1 e)
      have hh : (m ++ [c]).head? = m.head? := head_app _ _ hm
      have cm : Canon m := ⟨hm, h2.1, .inr (by
        rcases h3 with h3 | h3
        · simp at h3; exact absurd h3 hm
        · rw [hh] at h3; exact h3)⟩
      have im := ih m cm (by simp at hn; exact hn)
      have hpos : 0 < valF 0 m := by
        rcases Nat.eq_zero_or_pos (valF 0 m) with e | e
        · rw [e, decDigits_one (by omega)] at im
          rcases h3 with h3 | h3
          · simp at h3; exact absurd h3 hm
          · rw [hh, ← im] at h3
            exact absurd rfl h3
        · exact e
      rw [valF_snoc, dec_rec _ (by omega), show (valF 0 m * 10 + (c.toNat - 48)) / 10 = valF 0 m by omega, show (valF 0 m * 10 + (c.toNat - 48)) % 10 = c.toNat - 48 by omega, im, ofNat_dig hd]
theorem valF_le : ∀ (l : List UInt8) (a : Nat), a ≤ valF a l
  | [], a => Nat.le_refl _
  | c :: r, a => Nat.le_trans (by omega) (valF_le r (a * 10 + (c.toNat - 48)))
theorem valF_lt (l : List UInt8) (h : l.all isDig = true) : valF 0 l < 10 ^ l.length := by
  obtain ⟨n, hn⟩ : ∃ n, l.length = n := ⟨_, rfl⟩
  induction n generalizing l with
  | zero => rw [List.length_eq_zero_iff.1 hn]; simp [valF]
  | succ n ih =>
    have hne : l ≠ [] := fun e => by rw [e] at hn; simp at hn
    obtain ⟨m, c, rfl⟩ : ∃ m c, l = m ++ [c] := ⟨l.dropLast, l.getLast hne, (List.dropLast_concat_getLast hne).symm⟩
    rw [List.all_append, Bool.and_eq_true] at h
    have hd : isDig c = true := by simpa using h.2
    unfold isDig at hd
    simp at hd hn
    have := ih m h.1 hn
    rw [valF_snoc, List.length_append, Nat.pow_add]
    simp only [List.length_singleton, Nat.pow_one]
    omega
theorem parse_dig : ∀ (l : List UInt8) (a : Nat), l.all isDig = true → valF a l ≤ 18446744073709551615 → parseUintM (2 ^ 64 - 1) a l = .ok (valF a l)
  | [], a, _, _ => rfl
  | c :: r, a, h, hv => by
    rw [List.all_cons, Bool.and_eq_true] at h
    have hd := h.1
    unfold isDig at hd
    simp at hd
    have h1 : a * 10 + (c.toNat - 48) ≤ valF (a * 10 + (c.toNat - 48)) r := valF_le r _
    have h2 : valF a (c :: r) = valF (a * 10 + (c.toNat - 48)) r := rfl
    rw [h2] at hv ⊢
    unfold parseUintM
    rw [if_pos hd, if_neg (by omega), if_neg (by omega)]
    exact parse_dig r _ h.2 hv
theorem parse_itoa (n : Int) (h0 : -9223372036854775808 ≤ n) (h1 : n ≤ 9223372036854775807) : parseIntB 64 (itoa n) = .ok n := by
  have hu : ∀ u : Nat, u ≤ 9223372036854775808 → parseUintB 64 (decDigits u) = .ok u := fun u hu => by
    unfold parseUintB
    rw [if_neg (dec_ne u), parse_dig _ 0 (dec_dig u) (by rw [dec_val]; omega), dec_val]
  by_cases hn : n < 0
  · unfold itoa
    rw [if_pos hn, parseIntB_minus, hu _ (by omega)]
    have e : ((n.natAbs : Nat) : Int) = -n := by omega
    unfold signedC
    simp only []
    first
    | (rw [if_neg (by omega), e]; simp)
    | (split <;> first | (exfalso; omega) | (simp; omega))
  · unfold itoa
    rw [if_neg hn]
    have hd := dec_dig n.toNat
    have hu2 := hu n.toNat (by omega)
    cases hl : decDigits n.toNat with
    | nil => exact absurd hl (dec_ne _)
    | cons c r =>
      rw [hl] at hd hu2
      rw [List.all_cons, Bool.and_eq_true] at hd
      have h2 := hd.1
      unfold isDig at h2
      simp at h2
      rw [parseIntB_plain _ _ _ (by omega) (by omega), hu2]
      unfold signlessC
      simp only []
      first
      | (rw [if_neg (by omega)]; simp; omega)
      | (split <;> first | (exfalso; omega) | (simp; omega))
/-- clash.number. -/
def numF (a : List UInt8) : Option Int := match parseIntB 64 a with
  | .ok v => if itoa v = a then some v else none
  | _ => none
theorem numF_iff (a : List UInt8) (v : Int) : numF a = some v ↔ (itoa v = a ∧ -9223372036854775808 ≤ v ∧ v ≤ 9223372036854775807) := by
  constructor
  · intro h
    unfold numF at h
    split at h
    · rename_i u hu
      split at h
      · rename_i e
        cases h
        have := parseIntB_bounds hu
        exact ⟨e, by omega, by omega⟩
      · cases h
    · cases h
  · rintro ⟨rfl, h0, h1⟩
    unfold numF
    rw [parse_itoa v h0 h1]
    simp
/-- lagoonref15.number. -/
def numG (s : List UInt8) : Int := if s = [] ∨ (s.head? = some 48 ∧ 1 < s.length) ∨ 19 < s.length then -1 else if s.all isDig = true then IntKind.i64.wrap (valF 0 s) else -1
theorem wrap64_big {x : Nat} (h0 : 9223372036854775808 ≤ x) (h1 : x < 18446744073709551616) : IntKind.i64.wrap (x : Int) = (x : Int) - 18446744073709551616 := by
  simp only [IntKind.wrap, IntKind.bits, IntKind.signed]
  simp
  omega
theorem numG_iff (s : List UInt8) (v : Int) (hv : 0 ≤ v) : numG s = v ↔ numF s = some v := by
  rw [numF_iff]
  constructor
  · intro h
    unfold numG at h
    split at h
    · omega
    · rename_i hn
      split at h
      · rename_i hd
        have hl : s.length ≤ 19 := by
          rcases Nat.lt_or_ge 19 s.length with q | q
          · exact absurd (.inr (.inr q)) hn
          · exact q
        have hlt := valF_lt s hd
        have h19 : 10 ^ s.length ≤ 10 ^ 19 := Nat.pow_le_pow_right (by omega) hl
        have hsm : valF 0 s < 9223372036854775808 := by
          rcases Nat.lt_or_ge (valF 0 s) 9223372036854775808 with q | q
          · exact q
          · rw [wrap64_big q (by omega)] at h
            omega
        rw [wrap64_in (by omega) (by omega)] at h
        have hc : Canon s := ⟨fun e => hn (.inl e), hd, by
          by_cases h1 : s.length = 1
          · exact .inl h1
          · refine .inr fun e => hn (.inr (.inl ⟨e, ?_⟩))
            have : s.length ≠ 0 := fun q => hn (.inl (List.length_eq_zero_iff.1 q))
            omega⟩
        have := canon_dec s hc
        refine ⟨?_, by omega, by omega⟩
        rw [← h, itoa_nonneg, this]
      · omega
  · rintro ⟨rfl, h0, h1⟩
    obtain ⟨u, rfl⟩ := Int.eq_ofNat_of_zero_le hv
    rw [itoa_nonneg]
    have hc := dec_canon u
    have hl := dec_len 19 u (by omega) (by omega)
    unfold numG
    rw [if_neg (by
      rintro (e | ⟨e1, e2⟩ | e)
      · exact hc.1 e
      · rcases hc.2.2 with q | q
        · omega
        · exact q e1
      · omega), if_pos hc.2.1, dec_val, wrap64_in (by omega) (by omega)]
end Lg

namespace Lg
set_option linter.unusedSimpArgs false
set_option linter.unusedVariables false
set_option maxRecDepth 100000
open Go Go.Am
open Go.Proofs.YtnhamanffojhfaaDoor.shl

abbrev I (n : Int) : AV := .int .i64 n
/-- A contract's end, at a value that is the same. -/
theorem fin {h h' : Hp} {K : AV → Hp → Prop} {v v' : AV} (hK : ∀ h', Ext h h' → K v h') (e : v' = v) (hx : Ext h h') : K v' h' := e ▸ hK h' hx

/-! ### rows of elements -/
/-- A slice that can be read: its elements' cells. -/
def Rd (h : Hp) (esz : Nat) (v : AV) (els : List (List AV)) : Prop :=
  (v = .nilslice ∧ els = []) ∨ (∃ o, v = .sliceZ o ∧ els = []) ∨ ∃ o off kn c e, v = .slice o off els.length kn c ∧ o < h.next ∧ h.at o = some e ∧ (els.length ≤ 17592186044416 ∧ (kn = true → els.length ≤ c)) ∧ ∀ j (hj : j < els.length), cellsO e.obj esz (off + j * esz) = some els[j]
theorem Rd.mono {h h' : Hp} {esz : Nat} {v : AV} {els : List (List AV)} (hr : Rd h esz v els) (hx : Ext h h') : Rd h' esz v els := by
  rcases hr with hr | hr | ⟨o, off, kn, c, e, h1, h2, h3, h4⟩
  · exact .inl hr
  · exact .inr (.inl hr)
  · exact .inr (.inr ⟨o, off, kn, c, e, h1, Nat.lt_of_lt_of_le h2 hx.next, by rw [hx.same o h2, h3], h4⟩)
theorem Rd.bound {h : Hp} {esz : Nat} {v : AV} {els : List (List AV)} (hr : Rd h esz v els) : els.length ≤ 17592186044416 := by
  rcases hr with ⟨_, rfl⟩ | ⟨_, _, rfl⟩ | ⟨_, _, _, _, _, _, _, _, h, _⟩
  · simp
  · simp
  · exact h.1
/-- A vector of numbers. -/
def VecH (h : Hp) (v : AV) (l : List Int) : Prop := Rd h 1 v (l.map fun x => [I x])
theorem VecH.mono {h h' : Hp} {v : AV} {l : List Int} (hv : VecH h v l) (hx : Ext h h') : VecH h' v l := Rd.mono hv hx
theorem VecH.cases {h : Hp} {v : AV} {l : List Int} (hv : VecH h v l) : (v = .nilslice ∧ l = []) ∨ (∃ o, v = .sliceZ o ∧ l = []) ∨ ∃ o off kn c e, v = .slice o off l.length kn c ∧ o < h.next ∧ h.at o = some e ∧ ∀ j (hj : j < l.length), cellAt e.obj (off + j) = some (I l[j]) := by
  rcases hv with ⟨h1, h2⟩ | ⟨o, h1, h2⟩ | ⟨o, off, kn, c, e, h1, h2, h3, hb, h5⟩
  · exact .inl ⟨h1, by simpa using h2⟩
  · exact .inr (.inl ⟨o, h1, by simpa using h2⟩)
  · refine .inr (.inr ⟨o, off, kn, c, e, by simpa using h1, h2, h3, fun j hj => ?_⟩)
    have := h5 j (by simpa using hj)
    simp only [cellsO, Nat.mul_one, List.getElem_map] at this
    cases hc : cellAt e.obj (off + j) with
    | none => rw [hc] at this; simp at this
    | some x => rw [hc] at this; simpa using this
theorem VecH.casesC {h : Hp} {v : AV} {l : List Int} (hv : VecH h v l) : (v = .nilslice ∧ l = []) ∨ (∃ o, v = .sliceZ o ∧ l = []) ∨ ∃ o off kn c e, v = .slice o off l.length kn c ∧ (kn = true → l.length ≤ c) ∧ o < h.next ∧ h.at o = some e ∧ ∀ j (hj : j < l.length), cellAt e.obj (off + j) = some (I l[j]) := by
  rcases hv with ⟨h1, h2⟩ | ⟨o, h1, h2⟩ | ⟨o, off, kn, c, e, h1, h2, h3, hb, h5⟩
  · exact .inl ⟨h1, by simpa using h2⟩
  · exact .inr (.inl ⟨o, h1, by simpa using h2⟩)
  · refine .inr (.inr ⟨o, off, kn, c, e, by simpa using h1, fun q => by simpa using hb.2 q, h2, h3, fun j hj => ?_⟩)
    have := h5 j (by simpa using hj)
    simp only [cellsO, Nat.mul_one, List.getElem_map] at this
    cases hc : cellAt e.obj (off + j) with
    | none => rw [hc] at this; simp at this
    | some x => rw [hc] at this; simpa using this
theorem VecH.bound {h : Hp} {v : AV} {l : List Int} (hv : VecH h v l) : l.length ≤ 17592186044416 := by
  have := Rd.bound hv
  simpa using this
theorem VecH.nil (h : Hp) : VecH h .nilslice [] := .inl ⟨rfl, rfl⟩

/-! ### what is computed -/
def ix (l : List Int) (j : Nat) : Int := l.getD j 0
theorem getD_in {l : List Int} {j : Nat} (h : j < l.length) : ix l j = l[j] := by
  simp [ix, List.getD, h]
def vat (l : List Int) (n : Int) : Int := if 0 ≤ n ∧ n < 64 ∧ n < l.length then (let x := ix l n.toNat; if 0 ≤ x ∧ x ≤ 1152921504606846976 then x else 0) else 0
theorem vat_out {l : List Int} {n : Int} (h : ¬ (0 ≤ n ∧ n < 64 ∧ n < l.length)) : vat l n = 0 := by unfold vat; rw [if_neg h]
theorem vat_in {l : List Int} {n : Int} (h : 0 ≤ n ∧ n < 64 ∧ n < l.length) : vat l n = if 0 ≤ l[n.toNat]'(by omega) ∧ l[n.toNat]'(by omega) ≤ 1152921504606846976 then l[n.toNat]'(by omega) else 0 := by
  unfold vat; rw [if_pos h, getD_in (by omega)]

section
variable (cf : CallK) (fuel : Nat) {h : Hp} {K : AV → Hp → Prop}
def validB (t n : Int) : Bool := decide (1 ≤ t) && (decide (t ≤ 1152921504606846976) && (decide (0 ≤ n) && decide (n < 64)))
def sameI (t n t' n' : Int) : Bool := decide (t = t') && decide (n = n')
def lessI (t n t' n' : Int) : Bool := decide (t < t') || (decide (t = t') && decide (n < n'))
def cmpI (t n t' n' : Int) : Int := if t < t' then -1 else if t' < t then 1 else if n < n' then -1 else if n' < n then 1 else 0
theorem Same_run (t n t' n' : Int) (hK : ∀ h', Ext h h' → K (.bool (sameI t n t' n')) h') : s_lagoonref4_Same cf fuel (.agg [I t, I n]) (.agg [I t', I n']) h K := by
  unfold s_lagoonref4_Same
  (try unfold vMov); repeat' (first | refine Step.imp ?_ | (refine Way.mk (fun hp => ?_) (fun hp => ?_) <;> first | contradiction | (exfalso; omega) | skip) | refine LoadG.mkG ?_ | refine LoadsG.mkG ?_ | refine AtG.mkG ?_ | refine StoreG.mkG ?_ | refine CondG.mkG ?_ | fail); (all_goals (try dsimp only))
  all_goals (refine fin hK ?_ (by repeat (first | exact Ext.refl _ | assumption | apply Ext.new | (refine Ext.put ?_ _ (by first | omega | (simp; done) | (simp; omega))))); simp_all [sameI])
theorem Less_run (t n t' n' : Int) (hK : ∀ h', Ext h h' → K (.bool (lessI t n t' n')) h') : s_lagoonref4_Less cf fuel (.agg [I t, I n]) (.agg [I t', I n']) h K := by
  unfold s_lagoonref4_Less
  (try unfold vMov); repeat' (first | refine Step.imp ?_ | (refine Way.mk (fun hp => ?_) (fun hp => ?_) <;> first | contradiction | (exfalso; omega) | skip) | refine LoadG.mkG ?_ | refine LoadsG.mkG ?_ | refine AtG.mkG ?_ | refine StoreG.mkG ?_ | refine CondG.mkG ?_ | fail); (all_goals (try dsimp only))
  all_goals (refine fin hK ?_ (by repeat (first | exact Ext.refl _ | assumption | apply Ext.new | (refine Ext.put ?_ _ (by first | omega | (simp; done) | (simp; omega))))); first | (simp_all [lessI]; done) | (simp_all [lessI]; omega))
theorem Valid_run (t n : Int) (hK : ∀ h', Ext h h' → K (.bool (validB t n)) h') : s_lagoonref4_Valid cf fuel (.agg [I t, I n]) h K := by
  unfold s_lagoonref4_Valid
  (try unfold vMov); repeat' (first | refine Step.imp ?_ | (refine Way.mk (fun hp => ?_) (fun hp => ?_) <;> first | contradiction | (exfalso; omega) | skip) | refine LoadG.mkG ?_ | refine LoadsG.mkG ?_ | refine AtG.mkG ?_ | refine StoreG.mkG ?_ | refine CondG.mkG ?_ | fail); (all_goals (try dsimp only))
  all_goals (refine fin hK ?_ (by repeat (first | exact Ext.refl _ | assumption | apply Ext.new | (refine Ext.put ?_ _ (by first | omega | (simp; done) | (simp; omega))))); first | (simp_all [validB]; done) | (simp_all [validB]; omega))
end
end Lg

namespace Lg
set_option linter.unusedSimpArgs false
set_option linter.unusedVariables false
set_option maxRecDepth 100000
open Go Go.Am
open Go.Proofs.YtnhamanffojhfaaDoor.shl

def cAt : ConD := fun args h K => ∃ v l n, args = [v, I n] ∧ VecH h v l ∧ K (I (vat l n)) h
theorem cAt_go {cf : CallK} {g : FuncId} (hg : cf g = cAt) {h : Hp} {v : AV} {l : List Int} {n : Int} {K : AV → Hp → Prop} (hv : VecH h v l) (hK : K (I (vat l n)) h) : cf g [v, I n] h K := by rw [hg]; exact ⟨v, l, n, rfl, hv, hK⟩
/-- A pure contract of two IDs. -/
def cId2 (f : Int → Int → Int → Int → AV) : ConD := fun args h K => ∃ t n t' n', args = [.agg [I t, I n], .agg [I t', I n']] ∧ ∀ h', Ext h h' → K (f t n t' n') h'
theorem cId2_go {cf : CallK} {g : FuncId} {f : Int → Int → Int → Int → AV} (hg : cf g = cId2 f) {h : Hp} {t n t' n' : Int} {K : AV → Hp → Prop} (hK : ∀ h', Ext h h' → K (f t n t' n') h') : cf g [.agg [I t, I n], .agg [I t', I n']] h K := by rw [hg]; exact ⟨t, n, t', n', rfl, hK⟩
def allN (p : Nat → Bool) : Nat → Nat → Bool
  | _, 0 => true
  | k, d + 1 => p k && allN p (k + 1) d
theorem allN_iff {p : Nat → Bool} : ∀ (k d : Nat), allN p k d = true ↔ ∀ i, k ≤ i → i < k + d → p i = true
  | k, 0 => by simp [allN]; omega
  | k, d + 1 => by
    rw [allN, Bool.and_eq_true, allN_iff (k + 1) d]
    constructor
    · rintro ⟨h1, h2⟩ i hi hj
      by_cases e : i = k
      · subst e; exact h1
      · exact h2 i (by omega) (by omega)
    · exact fun h => ⟨h k (Nat.le_refl _) (by omega), fun i hi hj => h i (by omega) (by omega)⟩
def leqV (a b : List Int) : Bool := allN (fun k => decide (vat a k ≤ vat b k)) 0 64

section
variable (cf : CallK) (fuel : Nat) {h : Hp} {K : AV → Hp → Prop}
def cLeq : ConD := fun args h K => ∃ v l w m, args = [v, w] ∧ VecH h v l ∧ VecH h w m ∧ K (.bool (leqV l m)) h
theorem cLeq_go {cf : CallK} {g : FuncId} (hg : cf g = cLeq) {h : Hp} {v w : AV} {l m : List Int} {K : AV → Hp → Prop} (hv : VecH h v l) (hw : VecH h w m) (hK : K (.bool (leqV l m)) h) : cf g [v, w] h K := by rw [hg]; exact ⟨v, l, w, m, rfl, hv, hw, hK⟩
/-- Is it no number? Never. -/
def cNaN : ConD := fun args h K => ∃ n, args = [I n] ∧ K (.bool false) h
theorem cNaN_go {cf : CallK} {g : FuncId} (hg : cf g = cNaN) {h : Hp} {n : Int} {K : AV → Hp → Prop} (hK : K (.bool false) h) : cf g [I n] h K := by rw [hg]; exact ⟨n, rfl, hK⟩
def cmp1 (x y : Int) : Int := if x < y then -1 else if y < x then 1 else 0
def cCmp : ConD := fun args h K => ∃ x y, args = [I x, I y] ∧ K (I (cmp1 x y)) h
theorem cCmp_go {cf : CallK} {g : FuncId} (hg : cf g = cCmp) {h : Hp} {x y : Int} {K : AV → Hp → Prop} (hK : K (I (cmp1 x y)) h) : cf g [I x, I y] h K := by rw [hg]; exact ⟨x, y, rfl, hK⟩
theorem Compare64_run (hN : cf 67 = cNaN) (x y : Int) (hK : K (I (cmp1 x y)) h) : s_cmp_Compare_int64 cf fuel (I x) (I y) h K := by
  unfold s_cmp_Compare_int64
  (try unfold vMov); repeat' (first | refine Step.imp ?_ | (refine Way.mk (fun hp => ?_) (fun hp => ?_) <;> first | contradiction | (exfalso; omega) | skip) | refine LoadG.mkG ?_ | refine LoadsG.mkG ?_ | refine AtG.mkG ?_ | refine StoreG.mkG ?_ | refine CondG.mkG ?_ | (refine cNaN_go hN ?_) | fail); (all_goals (try dsimp only))
  all_goals (unfold cmp1 at hK; (repeat' split at hK) <;> first | exact hK | (exfalso; omega))
theorem Compare_run (hN : cf 68 = cNaN) (x y : Int) (hK : K (I (cmp1 x y)) h) : s_cmp_Compare_int cf fuel (I x) (I y) h K := by
  unfold s_cmp_Compare_int
  (try unfold vMov); repeat' (first | refine Step.imp ?_ | (refine Way.mk (fun hp => ?_) (fun hp => ?_) <;> first | contradiction | (exfalso; omega) | skip) | refine LoadG.mkG ?_ | refine LoadsG.mkG ?_ | refine AtG.mkG ?_ | refine StoreG.mkG ?_ | refine CondG.mkG ?_ | (refine cNaN_go hN ?_) | fail); (all_goals (try dsimp only))
  all_goals (unfold cmp1 at hK; (repeat' split at hK) <;> first | exact hK | (exfalso; omega))
theorem Cmp_run (h1 : cf 52 = cCmp) (h2 : cf 53 = cCmp) (t n t' n' : Int) (hK : ∀ h', Ext h h' → K (I (cmpI t n t' n')) h') : s_clock_Cmp cf fuel (.agg [I t, I n]) (.agg [I t', I n']) h K := by
  unfold s_clock_Cmp
  (try unfold vMov); repeat' (first | refine Step.imp ?_ | (refine Way.mk (fun hp => ?_) (fun hp => ?_) <;> first | contradiction | (exfalso; omega) | skip) | refine LoadG.mkG ?_ | refine LoadsG.mkG ?_ | refine AtG.mkG ?_ | refine StoreG.mkG ?_ | refine CondG.mkG ?_ | (refine cCmp_go h1 ?_) | (refine cCmp_go h2 ?_) | fail); (all_goals (try dsimp only))
  all_goals (refine fin hK ?_ (by repeat (first | exact Ext.refl _ | assumption | apply Ext.new | (refine Ext.put ?_ _ (by first | omega | (simp; done) | (simp; omega))))); simp only [cmpI, cmp1] at *; (repeat' split) <;> (repeat' split at *) <;> first | rfl | (exfalso; omega) | simp_all)
end
end Lg

namespace Lg
set_option linter.unusedSimpArgs false
set_option linter.unusedVariables false
set_option maxRecDepth 100000
open Go Go.Am
open Go.Proofs.YtnhamanffojhfaaDoor.shl

/-- Bytes. -/
def ByH (h : Hp) (v : AV) (l : List UInt8) : Prop := (v = .nilslice ∧ l = []) ∨ (∃ o, v = .sliceZ o ∧ l = []) ∨ ∃ o off kn c e n z, v = .slice o off l.length kn c ∧ o < h.next ∧ h.at o = some e ∧ e.obj = .byts n z ∧ off + l.length ≤ n ∧ (l.length ≤ 140737488355328 ∧ (kn = true → l.length ≤ c)) ∧ ((bytesL n z).drop off).take l.length = l
theorem ByH.mono {h h' : Hp} {v : AV} {l : List UInt8} (hv : ByH h v l) (hx : Ext h h') : ByH h' v l := by
  rcases hv with hv | hv | ⟨o, off, kn, c, e, n, z, h1, h2, h3, h4⟩
  · exact .inl hv
  · exact .inr (.inl hv)
  · exact .inr (.inr ⟨o, off, kn, c, e, n, z, h1, Nat.lt_of_lt_of_le h2 hx.next, by rw [hx.same o h2, h3], h4⟩)
theorem ByH.bound {h : Hp} {v : AV} {l : List UInt8} (hr : ByH h v l) : l.length ≤ 140737488355328 := by
  rcases hr with ⟨_, rfl⟩ | ⟨_, _, rfl⟩ | ⟨_, _, _, _, _, _, _, _, _, _, _, _, h, _⟩
  · simp
  · simp
  · exact h.1
theorem ByH.nil (h : Hp) : ByH h .nilslice [] := .inl ⟨rfl, rfl⟩

structure FOp where
  t : Int
  n : Int
  seq : Int
  kind : Int
  ot : Int
  on : Int
  pt : Int
  pn : Int
  name : List UInt8
  data : List UInt8
  seen : List Int
def opCells (o : FOp) (vd vs : AV) : List AV := [I o.t, I o.n, I o.seq, I o.kind, I o.ot, I o.on, I o.pt, I o.pn, S o.name, vd, vs]
/-- An operation's cells. -/
def OpH (h : Hp) (cs : List AV) (o : FOp) : Prop := ∃ vd vs, cs = opCells o vd vs ∧ ByH h vd o.data ∧ VecH h vs o.seen ∧ o.name.length ≤ 140737488355328
theorem OpH.mono {h h' : Hp} {cs : List AV} {o : FOp} (hv : OpH h cs o) (hx : Ext h h') : OpH h' cs o := by
  obtain ⟨vd, vs, h1, h2, h3, h4⟩ := hv
  exact ⟨vd, vs, h1, h2.mono hx, h3.mono hx, h4⟩
theorem OpH.len {h : Hp} {cs : List AV} {o : FOp} (hv : OpH h cs o) : cs.length = 11 := by
  obtain ⟨vd, vs, rfl, _⟩ := hv; rfl
/-- A version's cells: those of an operation's version. -/
def VerH (h : Hp) (cs : List AV) (o : FOp) : Prop := ∃ vs vd, cs = [I o.t, I o.n, I o.seq, vs, vd] ∧ VecH h vs o.seen ∧ ByH h vd o.data
theorem VerH.mono {h h' : Hp} {cs : List AV} {o : FOp} (hv : VerH h cs o) (hx : Ext h h') : VerH h' cs o := by
  obtain ⟨vs, vd, h1, h2, h3⟩ := hv
  exact ⟨vs, vd, h1, h2.mono hx, h3.mono hx⟩
theorem VerH.len {h : Hp} {cs : List AV} {o : FOp} (hv : VerH h cs o) : cs.length = 5 := by
  obtain ⟨vd, vs, rfl, _⟩ := hv; rfl
/-- P17.1. -/
def behind (a b : FOp) : Bool := decide (a.seq ≤ vat b.seen a.n)

section
variable (cf : CallK) (fuel : Nat) {h : Hp} {K : AV → Hp → Prop}
end
end Lg

namespace Lg
set_option linter.unusedSimpArgs false
set_option linter.unusedVariables false
set_option maxRecDepth 100000
open Go Go.Am

theorem cellsO_list {ob : AObj} : ∀ (l : List AV) (off : Nat), (∀ j (hj : j < l.length), cellAt ob (off + j) = some l[j]) → cellsO ob l.length off = some l
  | [], off, _ => rfl
  | v :: l, off, hc => by
    have h0 := hc 0 (by simp)
    simp only [Nat.add_zero, List.getElem_cons_zero] at h0
    have ih := cellsO_list l (off + 1) fun j hj => by
      have := hc (j + 1) (by simp; omega)
      simpa [Nat.add_assoc, Nat.add_comm 1 j] using this
    rw [List.length_cons]
    unfold cellsO
    simp [h0, ih]
theorem SlN.vec {h : Hp} {v : AV} {l : List Int} {B : Nat} (hv : SlN h 1 v (l.map fun x => [I x]) B) (hl : l.length ≤ 17592186044416) : VecH h v l := by
  rcases hv with ⟨h1, h2⟩ | ⟨o, ob, h1, h2, h3, h4, h5, h6, h7⟩
  · exact .inl ⟨h1, h2⟩
  · refine .inr (.inr ⟨o, 0, false, 0, _, by simpa using h1, h3, h4, ⟨by simpa using hl, fun q => by cases q⟩, fun j hj => ?_⟩)
    have hj' : j < l.length := by simpa using hj
    have hfl : (l.map fun x => [I x]).flatten = l.map I := by
      clear hj hj' h1 h5 h6 h7 hl
      induction l with
      | nil => rfl
      | cons x l ih => simp only [List.map_cons, List.flatten_cons, ih]; rfl
    have h8 := h5.2.2 j
    rw [hfl, List.getElem?_map, List.getElem?_eq_getElem hj'] at h8
    show cellsO ob 1 (0 + j * 1) = _
    rw [Nat.zero_add, Nat.mul_one]
    unfold cellsO
    rw [h8]
    simp [cellsO]
/-- A value that points to nothing ahead of B. -/
def Fr (B : Nat) (v : AV) : Prop := ∀ o off n kn c, v = .slice o off n kn c → B ≤ o
theorem Fr.weak {B C : Nat} {v : AV} (hv : Fr B v) (hc : C ≤ B) : Fr C v := fun o off n kn c e => Nat.le_trans hc (hv o off n kn c e)
theorem SlN.fr {h : Hp} {esz : Nat} {v : AV} {els : List (List AV)} {B : Nat} (hv : SlN h esz v els B) : Fr B v := by
  rcases hv with ⟨rfl, _⟩ | ⟨o, ob, rfl, h2, _⟩
  · intro o off n kn c e; cases e
  · intro o' off n kn c e; cases e; exact h2
theorem VecH.put {h : Hp} {v : AV} {l : List Int} (hv : VecH h v l) {B p : Nat} (hf : Fr B v) (hp : p < B) (e : Option Ent) : VecH (h.put p e) v l := by
  rcases hv with q | q | ⟨o, off, kn, c, e', h1, h2, h3, h4⟩
  · exact .inl q
  · exact .inr (.inl q)
  · have := hf _ _ _ _ _ h1
    exact .inr (.inr ⟨o, off, kn, c, e', h1, h2, by rw [Hp.at_put_ne _ (by omega)]; exact h3, h4⟩)
theorem ByH.put {h : Hp} {v : AV} {l : List UInt8} (hv : ByH h v l) {B p : Nat} (hf : Fr B v) (hp : p < B) (e : Option Ent) : ByH (h.put p e) v l := by
  rcases hv with q | q | ⟨o, off, kn, c, e', n, z, h1, h2, h3, h4⟩
  · exact .inl q
  · exact .inr (.inl q)
  · have := hf _ _ _ _ _ h1
    exact .inr (.inr ⟨o, off, kn, c, e', n, z, h1, h2, by rw [Hp.at_put_ne _ (by omega)]; exact h3, h4⟩)
theorem copyV {h : Hp} {v : AV} {l : List Int} {K : AV → Hp → Prop} (hv : VecH h v l) (hK : ∀ v' h', Ext h h' → VecH h' v' l → Fr h.next v' → K v' h') : vAppend2 1 8 false .nilslice v h K := by
  by_cases hl : l = []
  · subst hl
    have : vAppend2 1 8 false .nilslice v h K = K .nilslice h := by
      rcases hv with ⟨rfl, _⟩ | ⟨o, rfl, _⟩ | ⟨o, off, kn, c, e, rfl, _⟩ <;> rfl
    rw [this]
    exact hK _ h (Ext.refl h) (VecH.nil h) (fun o off n kn c e => by cases e)
  · rcases hv.cases with ⟨_, rfl⟩ | ⟨_, _, rfl⟩ | ⟨o, off, kn, c, e, rfl, h2, h3, h5⟩
    · exact absurd rfl hl
    · exact absurd rfl hl
    · have hb := hv.bound
      refine append_own (els := []) (news := l.map fun x => [I x]) (B := h.next) (h0 := h) (Ext.refl h) (.inl ⟨rfl, rfl⟩) (Nat.le_refl _) (Nat.le_refl _) ?_ ?_ ?_ ?_ ?_
      · refine ⟨o, off, kn, c, e, by simp, h3, ?_⟩
        have hfl : (l.map fun x => [I x]).flatten = l.map I := by
          clear hv hK hl h5 hb
          induction l with
          | nil => rfl
          | cons x l ih => simp only [List.map_cons, List.flatten_cons, ih]; rfl
        rw [hfl]
        have := cellsO_list (ob := e.obj) (l.map I) off (fun j hj => by
          have hj' : j < l.length := by simpa using hj
          rw [h5 j hj']; simp)
        simpa using this
      · intro x hx
        obtain ⟨y, _, rfl⟩ := List.mem_map.1 hx
        rfl
      · simpa using hl
      · simp only [List.length_nil, List.length_map]; omega
      · intro v' h' k1 k2 k3 k4
        exact hK v' h' k1 (SlN.vec (by simpa using k4) hb) (SlN.fr k4)
end Lg

namespace Lg
set_option linter.unusedSimpArgs false
set_option linter.unusedVariables false
set_option maxRecDepth 100000
open Go Go.Am
open Go.Proofs.YtnhamanffojhfaaDoor.shl
theorem srcK_by {h : Hp} {o off m : Nat} {kn : Bool} {c : Nat} {e : Ent} {n z : Nat} (hat : h.at o = some e) (he : e.obj = .byts n z) (hm : 0 < m) (hb : off + m ≤ n) (k0 : Prop) (kl : Nat → List AV → Prop) (kb : Nat → Nat → Prop) :
    srcK h 1 true (.slice o off m kn c) k0 kl kb = kb m (cutB z off m) := by
  show Bool.rec (motive := fun _ => Prop) (asOpt (h.at o) fun e => asByts e.obj fun n z => gd (Nat.ble (off + m) n) (forceN (cutB z off m) fun z => kb m z)) k0 (Nat.beq m 0) = _
  have : Nat.beq m 0 = false := by
    cases m with
    | zero => omega
    | succ m => rfl
  rw [this]
  show asOpt (h.at o) _ = _
  rw [hat, asOpt_some, he]
  show gd (Nat.ble (off + m) n) (forceN (cutB z off m) fun z => kb m z) = _
  have : Nat.ble (off + m) n = true := by simpa using hb
  rw [this, gd_true, forceN_eq]
theorem bslice0 (h : Hp) (K : AV → Hp → Prop) : vBslice 1 0 true [.int .u8 0] [] h K = K (.slice h.next 0 0 true 0) (h.new ⟨true, 1, .byts 0 0⟩) := by
  show newK h ⟨true, 1, .byts 0 0⟩ (fun o h => K (.slice o 0 0 true 0) h) = _
  rw [newK_eq']
/-- Bytes behind an empty slice that was just made. -/
theorem append_by {h : Hp} {p o off m : Nat} {kn : Bool} {c : Nat} {e : Ent} {n z : Nat} {K : AV → Hp → Prop} (hp : h.at p = some ⟨true, 1, .byts 0 0⟩) (hat : h.at o = some e) (he : e.obj = .byts n z) (hm : 0 < m) (hb : off + m ≤ n) (hl : m ≤ 140737488355328)
    (hK : K (.slice h.next 0 m false 0) (h.new ⟨true, 1, .byts m (cutB z off m)⟩)) : vAppend2 1 1 true (.slice p 0 0 true 0) (.slice o off m kn c) h K := by
  show srcK h 1 true (.slice o off m kn c) (K (.slice p 0 0 true 0) h) (fun m l => joinK h p 0 0 m true 0 1 1 (fun ob => growK ob 0 (0 * 1) l) (fun ob => setCellsK l ob (0 + 0 * 1)) K) (fun m z => joinK h p 0 0 m true 0 1 1 (fun ob => growBK ob 0 0 m z) (fun ob => overBK ob (0 + 0) m z) K)
  rw [srcK_by hat he hm hb]
  show gd (Nat.ble ((0 + m) * 1) 140737488355328) (asOpt (h.at p) fun e => gd (Nat.beq e.esz 1) (Bool.rec (motive := fun _ => Prop) (growBK e.obj 0 0 m (cutB z off m) fun ob => forceN (0 + m) fun n => finK 1 n h ob K)
    (gd e.own (overBK e.obj (0 + 0) m (cutB z off m) fun ob => putK h p (some ⟨true, e.esz, ob⟩) fun h => forceN (0 + m) fun n => K (.slice p 0 n true 0) h)) (Nat.ble (0 + m) 0)))
  have h1 : Nat.ble ((0 + m) * 1) 140737488355328 = true := by simp; omega
  have h2 : Nat.ble (0 + m) 0 = false := by
    cases hq : Nat.ble (0 + m) 0 with
    | false => rfl
    | true => have := Nat.le_of_ble_eq_true hq; omega
  rw [h1, gd_true, hp, asOpt_some]
  show gd (Nat.beq 1 1) _
  rw [h2]
  show gd (Nat.beq 1 1) (gd (Nat.ble (0 + 0) 0) (forceN (cutB 0 0 0 + cutB z off m <<< (8 * 0)) fun x => forceN (0 + m) fun n => forceN (0 + m) fun n' => finK 1 n' h (.byts n x) K))
  simp only [forceN_eq, Nat.zero_add]
  refine gd_iff.2 ⟨rfl, gd_iff.2 ⟨rfl, ?_⟩⟩
  unfold finK
  rw [newK_eq']
  have h3 : cutB 0 0 0 + cutB z off m <<< (8 * 0) = cutB z off m := by simp [cutB_eq]
  rw [h3]
  exact hK
section
variable (cf : CallK) (fuel : Nat) {h : Hp} {K : AV → Hp → Prop}
end
end Lg

namespace Lg
set_option linter.unusedSimpArgs false
set_option linter.unusedVariables false
set_option maxRecDepth 100000
open Go Go.Am
open Go.Proofs.YtnhamanffojhfaaDoor.shl
def cClone : ConD := fun args h K => ∃ v l, args = [v] ∧ ByH h v l ∧ ∀ v' h', Ext h h' → ByH h' v' l → Fr h.next v' → K v' h'
theorem cClone_go {cf : CallK} {g : FuncId} (hg : cf g = cClone) {h : Hp} {v : AV} {l : List UInt8} {K : AV → Hp → Prop} (hv : ByH h v l) (hK : ∀ v' h', Ext h h' → ByH h' v' l → Fr h.next v' → K v' h') : cf g [v] h K := by rw [hg]; exact ⟨v, l, rfl, hv, hK⟩
theorem ByH.shape {h : Hp} {v : AV} {l : List UInt8} (hv : ByH h v l) : v = .nilslice ∨ (∃ o, v = .sliceZ o) ∨ ∃ o off n kn c, v = .slice o off n kn c := by
  rcases hv with ⟨h, _⟩ | ⟨o, h, _⟩ | ⟨_, _, _, _, _, _, _, h, _⟩
  · exact .inl h
  · exact .inr (.inl ⟨o, h⟩)
  · exact .inr (.inr ⟨_, _, _, _, _, h⟩)
theorem VecH.shape {h : Hp} {v : AV} {l : List Int} (hv : VecH h v l) : v = .nilslice ∨ (∃ o, v = .sliceZ o) ∨ ∃ o off n kn c, v = .slice o off n kn c := by
  rcases hv with ⟨h, _⟩ | ⟨o, h, _⟩ | ⟨_, _, _, _, _, h, _⟩
  · exact .inl h
  · exact .inr (.inl ⟨o, h⟩)
  · exact .inr (.inr ⟨_, _, _, _, _, h⟩)
theorem ByH.flat {h : Hp} {v : AV} {l : List UInt8} (hv : ByH h v l) : flatV v = true := by
  rcases hv with ⟨rfl, _⟩ | ⟨_, rfl, _⟩ | ⟨_, _, _, _, _, _, _, rfl, _⟩ <;> rfl
theorem VecH.flat {h : Hp} {v : AV} {l : List Int} (hv : VecH h v l) : flatV v = true := by
  rcases hv with ⟨rfl, _⟩ | ⟨_, rfl, _⟩ | ⟨_, _, _, _, _, rfl, _⟩ <;> rfl
section
variable (cf : CallK) (fuel : Nat) {h : Hp} {K : AV → Hp → Prop}
end
end Lg

namespace Lg
set_option linter.unusedSimpArgs false
set_option linter.unusedVariables false
set_option maxRecDepth 100000
open Go Go.Am
open Go.Proofs.YtnhamanffojhfaaDoor.shl

theorem Rd.openS {h : Hp} {esz : Nat} {v : AV} {els : List (List AV)} (hr : Rd h esz v els) {i : Nat} (hi : i < els.length) : ∃ o off kn c e, v = .slice o off els.length kn c ∧ h.at o = some e ∧ ∀ j (hj : j < els.length), cellsO e.obj esz (off + j * esz) = some els[j] := by
  rcases hr with ⟨_, rfl⟩ | ⟨_, _, rfl⟩ | ⟨o, off, kn, c, e, h1, _, h3, _, h5⟩
  · simp at hi
  · simp at hi
  · exact ⟨o, off, kn, c, e, h1, h3, h5⟩
/-- Operations in a row. -/
def OpsR (h : Hp) (els : List (List AV)) (os : List FOp) : Prop := els.length = os.length ∧ ∀ j (h1 : j < els.length) (h2 : j < os.length), OpH h els[j] os[j]
theorem OpsR.mono {h h' : Hp} {els : List (List AV)} {os : List FOp} (ho : OpsR h els os) (hx : Ext h h') : OpsR h' els os := ⟨ho.1, fun j h1 h2 => (ho.2 j h1 h2).mono hx⟩
def cBeh : ConD := fun args h K => ∃ ca cb a b, args = [.agg ca, .agg cb] ∧ OpH h ca a ∧ OpH h cb b ∧ ∀ h', Ext h h' → K (.bool (behind a b)) h'
theorem cBeh_go {cf : CallK} {g : FuncId} (hg : cf g = cBeh) {h : Hp} {ca cb : List AV} {a b : FOp} {K : AV → Hp → Prop} (ha : OpH h ca a) (hb : OpH h cb b) (hK : ∀ h', Ext h h' → K (.bool (behind a b)) h') : cf g [.agg ca, .agg cb] h K := by rw [hg]; exact ⟨ca, cb, a, b, rfl, ha, hb, hK⟩
/-- No one of those from k on, so many, has seen the one at i. -/
def freeN (os : List FOp) (i : Nat) : Nat → Nat → Bool := allN fun k => k == i || !(match os[i]?, os[k]? with | some a, some b => behind a b | _, _ => false)
section
variable (cf : CallK) (fuel : Nat) {K : AV → Hp → Prop}
/-- The heads among those from i on, so many. -/
def headsN (os : List FOp) : Nat → Nat → List Nat
  | _, 0 => []
  | i, d + 1 => if freeN os i 0 os.length then i :: headsN os (i + 1) d else headsN os (i + 1) d
theorem headsN_len (os : List FOp) : ∀ (i d : Nat), (headsN os i d).length ≤ d
  | _, 0 => by simp [headsN]
  | i, d + 1 => by
    have := headsN_len os (i + 1) d
    unfold headsN
    split
    · simp only [List.length_cons]; omega
    · omega
end
end Lg

namespace Lg
set_option linter.unusedSimpArgs false
set_option linter.unusedVariables false
set_option maxRecDepth 100000
open Go Go.Am
open Go.Proofs.YtnhamanffojhfaaDoor.shl
/-- Versions in a row. -/
def VersR (h : Hp) (els : List (List AV)) (os : List FOp) : Prop := els.length = os.length ∧ ∀ j (h1 : j < els.length) (h2 : j < os.length), VerH h els[j] os[j]
theorem VersR.mono {h h' : Hp} {els : List (List AV)} {os : List FOp} (ho : VersR h els os) (hx : Ext h h') : VersR h' els os := ⟨ho.1, fun j h1 h2 => (ho.2 j h1 h2).mono hx⟩
def cBehV : ConD := fun args h K => ∃ ca cb a b, args = [.agg ca, .agg cb] ∧ VerH h ca a ∧ VerH h cb b ∧ ∀ h', Ext h h' → K (.bool (behind a b)) h'
theorem cBehV_go {cf : CallK} {g : FuncId} (hg : cf g = cBehV) {h : Hp} {ca cb : List AV} {a b : FOp} {K : AV → Hp → Prop} (ha : VerH h ca a) (hb : VerH h cb b) (hK : ∀ h', Ext h h' → K (.bool (behind a b)) h') : cf g [.agg ca, .agg cb] h K := by rw [hg]; exact ⟨ca, cb, a, b, rfl, ha, hb, hK⟩
/-- None of those from k on, so many, has seen a. -/
def freeP (os : List FOp) (a : FOp) : Nat → Nat → Bool := allN fun k => match os[k]? with | some b => sameI a.t a.n b.t b.n || !behind a b | none => true
section
variable (cf : CallK) (fuel : Nat) {K : AV → Hp → Prop}
end
end Lg

namespace Lg
set_option linter.unusedSimpArgs false
set_option linter.unusedVariables false
set_option maxRecDepth 100000
open Go Go.Am
open Go.Proofs.YtnhamanffojhfaaDoor.shl
/-- A file: where its versions lie. -/
def FileH (h : Hp) (fo : Nat) (v : AV) (els : List (List AV)) (os : List FOp) : Prop := fo < h.next ∧ h.at fo = some ⟨true, 1, .row [v]⟩ ∧ Rd h 5 v els ∧ VersR h els os
theorem FileH.mono {h h' : Hp} {fo : Nat} {v : AV} {els : List (List AV)} {os : List FOp} (hf : FileH h fo v els os) (hx : Ext h h') : FileH h' fo v els os :=
  ⟨Nat.lt_of_lt_of_le hf.1 hx.next, by rw [hx.same fo hf.1]; exact hf.2.1, hf.2.2.1.mono hx, hf.2.2.2.mono hx⟩
section
variable (cf : CallK) (fuel : Nat) {h : Hp} {K : AV → Hp → Prop}
end
end Lg

namespace Lg
set_option linter.unusedSimpArgs false
set_option linter.unusedVariables false
set_option maxRecDepth 100000
open Go Go.Am
open Go.Proofs.YtnhamanffojhfaaDoor.shl
theorem VecH.same {h h' : Hp} {v : AV} {l : List Int} (hv : VecH h v l) (hn : h.next ≤ h'.next) (hs : ∀ o off n kn c, v = .slice o off n kn c → o < h.next → h'.at o = h.at o) : VecH h' v l := by
  rcases hv with q | q | ⟨o, off, kn, c, e', h1, h2, h3, h4⟩
  · exact .inl q
  · exact .inr (.inl q)
  · exact .inr (.inr ⟨o, off, kn, c, e', h1, Nat.lt_of_lt_of_le h2 hn, by rw [hs _ _ _ _ _ h1 h2]; exact h3, h4⟩)
theorem ByH.same {h h' : Hp} {v : AV} {l : List UInt8} (hv : ByH h v l) (hn : h.next ≤ h'.next) (hs : ∀ o off n kn c, v = .slice o off n kn c → o < h.next → h'.at o = h.at o) : ByH h' v l := by
  rcases hv with q | q | ⟨o, off, kn, c, e', n, z, h1, h2, h3, h4⟩
  · exact .inl q
  · exact .inr (.inl q)
  · exact .inr (.inr ⟨o, off, kn, c, e', n, z, h1, Nat.lt_of_lt_of_le h2 hn, by rw [hs _ _ _ _ _ h1 h2]; exact h3, h4⟩)
theorem VecH.lt {h : Hp} {v : AV} {l : List Int} (hv : VecH h v l) {o off n : Nat} {kn : Bool} {c : Nat} (e : v = .slice o off n kn c) : o < h.next := by
  rcases hv with ⟨rfl, _⟩ | ⟨_, rfl, _⟩ | ⟨o', off', kn', c', e', rfl, h2, _⟩
  · cases e
  · cases e
  · cases e; exact h2
theorem ByH.lt {h : Hp} {v : AV} {l : List UInt8} (hv : ByH h v l) {o off n : Nat} {kn : Bool} {c : Nat} (e : v = .slice o off n kn c) : o < h.next := by
  rcases hv with ⟨rfl, _⟩ | ⟨_, rfl, _⟩ | ⟨o', off', kn', c', e', n', z', rfl, h2, _⟩
  · cases e
  · cases e
  · cases e; exact h2
theorem SlN.lt {h : Hp} {esz : Nat} {v : AV} {els : List (List AV)} {B o off n : Nat} {kn : Bool} {c : Nat} (hv : SlN h esz v els B) (e : v = .slice o off n kn c) : o < h.next := by
  rcases hv with ⟨rfl, _⟩ | ⟨o', ob, rfl, _, h2, _⟩
  · cases e
  · cases e; exact h2
section
variable (cf : CallK) (fuel : Nat) {K : AV → Hp → Prop}
end
end Lg

namespace Lg
set_option linter.unusedSimpArgs false
set_option linter.unusedVariables false
set_option maxRecDepth 100000
open Go Go.Am
open Go.Proofs.YtnhamanffojhfaaDoor.shl
theorem zerosK_intro (d : List AV) (n : Nat) (k : AObj → Prop) (q : ∀ ob, Cells ob (repL d n) → k ob) : zerosK false n d k := by
  show Bool.rec (motive := fun _ => Prop) (forceN (n * d.length) fun n => k (.big n .lf d)) (k (.row (repL d n))) (Nat.ble (n * d.length) 24)
  cases Nat.ble (n * d.length) 24 with
  | true => exact q _ (Cells.row _)
  | false =>
    show forceN _ _
    rw [forceN_eq]
    exact q _ ⟨trivial, (repL_length d n).symm, fun j => by rw [cellAt_big, V1.getP_lf, repL_get (α := Unit)]⟩
theorem mkSlice_go {esz bytes : Nat} {zero : List AV} {n : Nat} (hb : n * bytes ≤ 140737488355328) (hn : n ≤ 9223372036854775807) {h : Hp} {K : AV → Hp → Prop} (q : ∀ ob, Cells ob (repL zero n) → K (.slice h.next 0 n true n) (h.new ⟨true, esz, ob⟩)) : vMkSlice esz bytes false zero (I n) (I n) h K := by
  show asNat (I n) (fun l => asNat (I n) fun c => gd (Nat.ble l c && (Nat.ble (c * bytes) 140737488355328 && Nat.ble c 9223372036854775807)) (forceN l fun l => forceN c fun c => zerosK false c zero fun ob => newK h ⟨true, esz, ob⟩ fun o h => K (.slice o 0 l true c) h))
  rw [asNat_int _ _ (by omega), asNat_int _ _ (by omega), Int.toNat_natCast, forceN_eq, forceN_eq]
  refine gd_iff.2 ⟨by simp; omega, zerosK_intro _ _ _ fun ob hob => ?_⟩
  rw [newK_eq']
  exact q ob hob
theorem mkBytes_go {n : Nat} (hb : n ≤ 140737488355328) {h : Hp} {K : AV → Hp → Prop} (q : K (.slice h.next 0 n true n) (h.new ⟨true, 1, .byts n 0⟩)) : vMkSlice 1 1 true [.int .u8 0] (I n) (I n) h K := by
  show asNat (I n) (fun l => asNat (I n) fun c => gd (Nat.ble l c && (Nat.ble (c * 1) 140737488355328 && Nat.ble c 9223372036854775807)) (forceN l fun l => forceN c fun c => newK h ⟨true, 1, .byts c 0⟩ fun o h => K (.slice o 0 l true c) h))
  rw [asNat_int _ _ (by omega), asNat_int _ _ (by omega), Int.toNat_natCast, forceN_eq, forceN_eq, newK_eq']
  exact gd_iff.2 ⟨by simp; omega, q⟩
def zeroB : List UInt8 := List.replicate 512 0
theorem bytesL_zero (n : Nat) : bytesL n 0 = List.replicate n 0 := by
  refine List.ext_getElem? fun j => ?_
  rw [bytesL_get, List.getElem?_replicate]
  split
  · simp [byteAt]
  · rfl
/-- A device's block: nil is zeros. -/
def BlkH (h : Hp) (v : AV) (l : List UInt8) : Prop := l.length = 512 ∧ ((v = .nilslice ∧ l = zeroB) ∨ ByH h v l)
structure Blk where
  now : List UInt8
  kept : List UInt8
  loose : Bool
/-- A row of cells. -/
def RowAt (h : Hp) (p : Nat) : Prop := ∃ e cs, h.at p = some e ∧ Cells e.obj cs
theorem ByH.row_ne {h : Hp} {v : AV} {l : List UInt8} (hv : ByH h v l) {p : Nat} (hp : RowAt h p) {o off n : Nat} {kn : Bool} {c : Nat} (e : v = .slice o off n kn c) : o ≠ p := by
  rintro rfl
  obtain ⟨e1, cs, q1, q2⟩ := hp
  rcases hv with ⟨rfl, _⟩ | ⟨o, rfl, _⟩ | ⟨o, off, kn, c, e2, n, z, rfl, h2, h3, h4, _⟩
  · cases e
  · cases e
  · cases e
    rw [h3] at q1
    cases q1
    rw [h4] at q2
    exact q2.1
/-- What may be changed is two rows. -/
def Kp (h h' : Hp) (p q : Nat) : Prop := h.next ≤ h'.next ∧ ∀ o, o < h.next → o ≠ p → o ≠ q → h'.at o = h.at o
theorem Kp.trans {h h' h'' : Hp} {p q : Nat} (a : Kp h h' p q) (b : Kp h' h'' p q) : Kp h h'' p q := ⟨Nat.le_trans a.1 b.1, fun o q1 q2 q3 => by rw [b.2 o (Nat.lt_of_lt_of_le q1 a.1) q2 q3, a.2 o q1 q2 q3]⟩
theorem Kp.ext {h h' : Hp} (p q : Nat) (x : Ext h h') : Kp h h' p q := ⟨x.next, fun o q1 _ _ => x.same o q1⟩
theorem ByH.kp {h h' : Hp} {v : AV} {l : List UInt8} (hv : ByH h v l) {p q : Nat} (k : Kp h h' p q) (hp : RowAt h p) (hq : RowAt h q) : ByH h' v l :=
  hv.same k.1 fun o off n kn c e ho => k.2 o ho (hv.row_ne hp e) (hv.row_ne hq e)
theorem BlkH.kp {h h' : Hp} {v : AV} {l : List UInt8} (hv : BlkH h v l) {p q : Nat} (k : Kp h h' p q) (hp : RowAt h p) (hq : RowAt h q) : BlkH h' v l := ⟨hv.1, hv.2.imp id fun x => x.kp k hp hq⟩
theorem BlkH.mono {h h' : Hp} {v : AV} {l : List UInt8} (hv : BlkH h v l) (x : Ext h h') : BlkH h' v l := ⟨hv.1, hv.2.imp id fun y => y.mono x⟩
/-- The device's rows. -/
structure DevS (h : Hp) (p q : Nat) (bs : List Blk) (fu : Bool) (le : Int) (de : Bool) : Prop where
  plt : p < h.next
  qlt : q < h.next
  ne : p ≠ q
  pos : 0 < bs.length
  most : bs.length ≤ 65536
  fuse : (fu = false ∧ de = false) ∨ (fu = true ∧ de = decide (le < 1) ∧ 0 ≤ le ∧ le ≤ 1000)
  dev : ∃ cnt, h.at p = some ⟨true, 5, .row [.slice q 0 bs.length true bs.length, .bool fu, I le, .bool de, I cnt]⟩
  row : ∃ ob cs, h.at q = some ⟨true, 3, ob⟩ ∧ Cells ob cs ∧ cs.length = bs.length * 3 ∧ ∀ j (hj : j < bs.length), ∃ a b, cs[j * 3 + 0]? = some a ∧ cs[j * 3 + 1]? = some b ∧ cs[j * 3 + 2]? = some (.bool bs[j].loose) ∧ BlkH h a bs[j].now ∧ BlkH h b bs[j].kept
section
variable {h h' : Hp} {p q : Nat} {bs : List Blk} {fu : Bool} {le : Int} {de : Bool}
theorem DevS.rowp (d : DevS h p q bs fu le de) : RowAt h p := by
  obtain ⟨cnt, e⟩ := d.dev
  exact ⟨_, _, e, Cells.row _⟩
theorem DevS.rowq (d : DevS h p q bs fu le de) : RowAt h q := by
  obtain ⟨ob, cs, e, c, _⟩ := d.row
  exact ⟨_, _, e, c⟩
theorem DevS.same (d : DevS h p q bs fu le de) (hn : h.next ≤ h'.next) (hs : ∀ o, o < h.next → (o = p ∨ o = q ∨ ¬ RowAt h o) → h'.at o = h.at o) : DevS h' p q bs fu le de := by
  have hb : ∀ v l, BlkH h v l → BlkH h' v l := fun v l hv => ⟨hv.1, hv.2.imp id fun x => x.same hn fun o off n kn c e ho => hs o ho (.inr (.inr fun r => x.row_ne r e rfl))⟩
  obtain ⟨cnt, e⟩ := d.dev
  obtain ⟨ob, cs, e1, e2, e3, e4⟩ := d.row
  exact ⟨Nat.lt_of_lt_of_le d.plt hn, Nat.lt_of_lt_of_le d.qlt hn, d.ne, d.pos, d.most, d.fuse, ⟨cnt, by rw [hs p d.plt (.inl rfl)]; exact e⟩, ob, cs, by rw [hs q d.qlt (.inr (.inl rfl))]; exact e1, e2, e3, fun j hj => by
    obtain ⟨a, b, q1, q2, q3, q4, q5⟩ := e4 j hj
    exact ⟨a, b, q1, q2, q3, hb _ _ q4, hb _ _ q5⟩⟩
theorem DevS.ext (d : DevS h p q bs fu le de) (x : Ext h h') : DevS h' p q bs fu le de := d.same x.next fun o ho _ => x.same o ho
end
section
variable (cf : CallK) (fuel : Nat) {h : Hp} {K : AV → Hp → Prop} {p q : Nat} {bs : List Blk} {fu : Bool} {le : Int} {de : Bool}
def cDead : ConD := fun args h K => ∃ p q bs fu le de, args = [.ptr p 0] ∧ DevS h p q bs fu le de ∧ K (.bool de) h
theorem cDead_go {cf : CallK} {g : FuncId} (hg : cf g = cDead) (d : DevS h p q bs fu le de) (hK : K (.bool de) h) : cf g [.ptr p 0] h K := by rw [hg]; exact ⟨p, q, bs, fu, le, de, rfl, d, hK⟩
def cBlocks : ConD := fun args h K => ∃ p q bs fu le de, args = [.ptr p 0] ∧ DevS h p q bs fu le de ∧ K (I bs.length) h
theorem cBlocks_go {cf : CallK} {g : FuncId} (hg : cf g = cBlocks) (d : DevS h p q bs fu le de) (hK : K (I bs.length) h) : cf g [.ptr p 0] h K := by rw [hg]; exact ⟨p, q, bs, fu, le, de, rfl, d, hK⟩
def cDRead : ConD := fun args h K => ∃ p q bs fu le de, ∃ i : Nat, ∃ hi : i < bs.length, args = [.ptr p 0, I i] ∧ DevS h p q bs fu le de ∧ ∀ v' h', Ext h h' → ByH h' v' bs[i].now → Fr h.next v' → K (.tup [v', I 0]) h'
theorem cDRead_go {cf : CallK} {g : FuncId} (hg : cf g = cDRead) (d : DevS h p q bs fu le de) {i : Nat} (hi : i < bs.length) (hK : ∀ v' h', Ext h h' → ByH h' v' bs[i].now → Fr h.next v' → K (.tup [v', I 0]) h') : cf g [.ptr p 0, I i] h K := by rw [hg]; exact ⟨p, q, bs, fu, le, de, i, hi, rfl, d, hK⟩
end
end Lg

namespace Lg
set_option linter.unusedSimpArgs false
set_option linter.unusedVariables false
set_option maxRecDepth 100000
open Go Go.Am
open Go.Proofs.YtnhamanffojhfaaDoor.shl
theorem lenB_go {h h' : Hp} {v : AV} {l : List UInt8} {K : AV → Hp → Prop} (hv : ByH h v l) (q : K (.int .i64 l.length) h') : vLenL2 v h' K := by
  rcases hv with ⟨rfl, rfl⟩ | ⟨o, rfl, rfl⟩ | ⟨o, off, kn, c, e, n, z, rfl, _⟩ <;> exact q
theorem ByH.cellB {h : Hp} {v : AV} {l : List UInt8} (hv : ByH h v l) : cellsV v = some [v] := by
  rcases hv with ⟨rfl, rfl⟩ | ⟨o, rfl, rfl⟩ | ⟨o, off, kn, c, e, n, z, rfl, _⟩ <;> rfl
theorem getElem?_setL (cs : List AV) (off : Nat) (v : AV) (j : Nat) (ho : off < cs.length) : (setL cs off [v])[j]? = if j = off then some v else cs[j]? := by
  unfold setL
  simp only [List.append_assoc, List.length_singleton, List.singleton_append]
  rw [List.getElem?_append, List.length_take, Nat.min_eq_left (by omega)]
  split
  · rw [if_neg (by omega), List.getElem?_take, if_pos (by omega)]
  · rcases Nat.lt_or_ge off j with q | q
    · rw [if_neg (by omega), show j - off = (j - off - 1) + 1 by omega, List.getElem?_cons_succ, List.getElem?_drop]
      congr 1
      omega
    · have : j = off := by omega
      subst this
      simp
def leN (fu : Bool) (le : Int) : Int := if fu = true then le - 1 else le
def deN (fu : Bool) (le : Int) (de : Bool) : Bool := if fu = true then decide (le - 1 < 1) else de
section
variable (cf : CallK) (fuel : Nat) {h : Hp} {K : AV → Hp → Prop} {p q : Nat} {bs : List Blk} {fu : Bool} {le : Int}
def cDone : ConD := fun args h K => ∃ p q bs fu le, args = [.ptr p 0] ∧ DevS h p q bs fu le false ∧ ∀ h', h'.next = h.next → (∀ o, o ≠ p → h'.at o = h.at o) → DevS h' p q bs fu (leN fu le) (deN fu le false) → K (I 0) h'
theorem cDone_go {cf : CallK} {g : FuncId} (hg : cf g = cDone) (d : DevS h p q bs fu le false) (hK : ∀ h', h'.next = h.next → (∀ o, o ≠ p → h'.at o = h.at o) → DevS h' p q bs fu (leN fu le) (deN fu le false) → K (I 0) h') : cf g [.ptr p 0] h K := by rw [hg]; exact ⟨p, q, bs, fu, le, rfl, d, hK⟩
/-- The device's own row changed. -/
theorem DevS.own {h h' : Hp} {p q : Nat} {bs : List Blk} {fu fu' : Bool} {le le' : Int} {de de' : Bool} {cnt : Int} (d : DevS h p q bs fu le de) (hn : h'.next = h.next) (hs : ∀ o, o ≠ p → h'.at o = h.at o)
    (he : h'.at p = some ⟨true, 5, .row [.slice q 0 bs.length true bs.length, .bool fu', I le', .bool de', I cnt]⟩) (hf : (fu' = false ∧ de' = false) ∨ (fu' = true ∧ de' = decide (le' < 1) ∧ 0 ≤ le' ∧ le' ≤ 1000)) : DevS h' p q bs fu' le' de' := by
  obtain ⟨ob, cs, e1, e2, e3, e4⟩ := d.row
  have hb : ∀ v l, BlkH h v l → BlkH h' v l := fun v l hv => ⟨hv.1, hv.2.imp id fun x => x.same (by omega) fun o off n kn c e ho => hs o fun e' => x.row_ne d.rowp e e'⟩
  exact ⟨by rw [hn]; exact d.plt, by rw [hn]; exact d.qlt, d.ne, d.pos, d.most, hf, ⟨cnt, he⟩, ob, cs, by rw [hs q (fun e => d.ne e.symm)]; exact e1, e2, e3, fun j hj => by
    obtain ⟨a, b, q1, q2, q3, q4, q5⟩ := e4 j hj
    exact ⟨a, b, q1, q2, q3, hb _ _ q4, hb _ _ q5⟩⟩
end
end Lg

namespace Lg
set_option linter.unusedSimpArgs false
set_option linter.unusedVariables false
set_option maxRecDepth 100000
open Go Go.Am
open Go.Proofs.YtnhamanffojhfaaDoor.shl
theorem StoreG.mkC2 {h : Hp} {n o off off' : Nat} {l : List AV} {k : Hp → Prop} {esz : Nat} {ob : AObj} {cs : List AV} (h1 : h.at o = some ⟨true, esz, ob⟩) (hc : Cells ob cs) (ho : off' = off) (h2 : l.length = n ∧ off + l.length ≤ cs.length) (q : ∀ ob', Cells ob' (setL cs off l) → k (h.put o (some ⟨true, esz, ob'⟩))) : StoreG h n o off' l k := by
  subst ho
  exact StoreG.mkC h1 hc h2 q
/-- The list's row changed. -/
theorem DevS.upd {h h' : Hp} {p q : Nat} {bs bs' : List Blk} {fu : Bool} {le : Int} {de : Bool} (d : DevS h p q bs fu le de) (hn : h'.next = h.next) (hs : ∀ o, o ≠ q → h'.at o = h.at o) (hl : bs'.length = bs.length) {ob : AObj} {cs : List AV}
    (he : h'.at q = some ⟨true, 3, ob⟩) (hc : Cells ob cs) (hcl : cs.length = bs.length * 3) (hb : ∀ j (hj : j < bs'.length), ∃ a b, cs[j * 3 + 0]? = some a ∧ cs[j * 3 + 1]? = some b ∧ cs[j * 3 + 2]? = some (.bool bs'[j].loose) ∧ BlkH h a bs'[j].now ∧ BlkH h b bs'[j].kept) : DevS h' p q bs' fu le de := by
  have hk : ∀ v l, BlkH h v l → BlkH h' v l := fun v l hv => ⟨hv.1, hv.2.imp id fun x => x.same (by omega) fun o off n kn c e ho => hs o fun e' => x.row_ne d.rowq e e'⟩
  obtain ⟨cnt, e⟩ := d.dev
  exact ⟨by rw [hn]; exact d.plt, by rw [hn]; exact d.qlt, d.ne, by rw [hl]; exact d.pos, by rw [hl]; exact d.most, d.fuse, ⟨cnt, by rw [hs p d.ne, hl]; exact e⟩, ob, cs, he, hc, by rw [hl]; exact hcl, fun j hj => by
    obtain ⟨a, b, q1, q2, q3, q4, q5⟩ := hb j hj
    exact ⟨a, b, q1, q2, q3, hk _ _ q4, hk _ _ q5⟩⟩
section
variable (cf : CallK) (fuel : Nat) {h : Hp} {K : AV → Hp → Prop} {p q : Nat} {bs : List Blk} {fu : Bool} {le : Int}
def cWrite : ConD := fun args h K => ∃ p q bs fu le, ∃ i : Nat, ∃ hi : i < bs.length, ∃ v l, args = [.ptr p 0, I i, v] ∧ DevS h p q bs fu le false ∧ ByH h v l ∧ l.length = 512 ∧ ∀ h', Kp h h' p q → DevS h' p q (bs.set i ⟨l, bs[i].kept, true⟩) fu (leN fu le) (deN fu le false) → K (I 0) h'
theorem cWrite_go {cf : CallK} {g : FuncId} (hg : cf g = cWrite) (d : DevS h p q bs fu le false) {i : Nat} (hi : i < bs.length) {v : AV} {l : List UInt8} (hv : ByH h v l) (hl : l.length = 512) (hK : ∀ h', Kp h h' p q → DevS h' p q (bs.set i ⟨l, bs[i].kept, true⟩) fu (leN fu le) (deN fu le false) → K (I 0) h') : cf g [.ptr p 0, I i, v] h K := by rw [hg]; exact ⟨p, q, bs, fu, le, i, hi, v, l, rfl, d, hv, hl, hK⟩
end
end Lg

namespace Lg
set_option linter.unusedSimpArgs false
set_option linter.unusedVariables false
set_option maxRecDepth 100000
open Go Go.Am
open Go.Proofs.YtnhamanffojhfaaDoor.shl
section
variable (cf : CallK) (fuel : Nat) {h : Hp} {K : AV → Hp → Prop} {p q : Nat} {bs : List Blk} {fu : Bool} {le : Int}
def newBs (n : Nat) : List Blk := List.replicate n ⟨zeroB, zeroB, false⟩
theorem BlkH.nil (h : Hp) : BlkH h .nilslice zeroB := ⟨by simp [zeroB], .inl ⟨rfl, rfl⟩⟩
def cDNew : ConD := fun args h K => ∃ n : Nat, args = [I n] ∧ (1 ≤ n ∧ n ≤ 65536) ∧ ∀ p q h', Ext h h' → h.next ≤ p → h.next ≤ q → DevS h' p q (newBs n) false 0 false → K (.ptr p 0) h'
theorem cDNew_go {cf : CallK} {g : FuncId} (hg : cf g = cDNew) {n : Nat} (hn : 1 ≤ n ∧ n ≤ 65536) (hK : ∀ p q h', Ext h h' → h.next ≤ p → h.next ≤ q → DevS h' p q (newBs n) false 0 false → K (.ptr p 0) h') : cf g [I n] h K := by rw [hg]; exact ⟨n, rfl, hn, hK⟩
/-- The first i blocks flushed. -/
def flB (b : Blk) : Blk := ⟨b.now, b.now, false⟩
def flN (bs : List Blk) (i : Nat) : List Blk := bs.mapIdx fun j b => if j < i then flB b else b
theorem flN_len (bs : List Blk) (i : Nat) : (flN bs i).length = bs.length := by simp [flN]
theorem flN_zero (bs : List Blk) : flN bs 0 = bs := by
  refine List.ext_getElem (flN_len _ _) fun j h1 h2 => ?_
  simp [flN]
theorem flN_all (bs : List Blk) : flN bs bs.length = bs.map flB := by
  refine List.ext_getElem (by simp [flN_len]) fun j h1 h2 => ?_
  have : j < bs.length := by simpa using h2
  simp [flN, this]
theorem flN_get (bs : List Blk) (i j : Nat) (hj : j < (flN bs i).length) (hj' : j < bs.length) : (flN bs i)[j] = if j < i then flB bs[j] else bs[j] := by simp [flN]
def cFlush : ConD := fun args h K => ∃ p q bs fu le, args = [.ptr p 0] ∧ DevS h p q bs fu le false ∧ ∀ h', Kp h h' p q → DevS h' p q (bs.map flB) fu (leN fu le) (deN fu le false) → K (I 0) h'
theorem cFlush_go {cf : CallK} {g : FuncId} (hg : cf g = cFlush) (d : DevS h p q bs fu le false) (hK : ∀ h', Kp h h' p q → DevS h' p q (bs.map flB) fu (leN fu le) (deN fu le false) → K (I 0) h') : cf g [.ptr p 0] h K := by rw [hg]; exact ⟨p, q, bs, fu, le, rfl, d, hK⟩
end
end Lg

namespace Lg
set_option linter.unusedSimpArgs false
set_option linter.unusedVariables false
set_option maxRecDepth 100000
open Go Go.Am
open Go.Proofs.YtnhamanffojhfaaDoor.shl
theorem BlkH.cellB {h : Hp} {v : AV} {l : List UInt8} (hv : BlkH h v l) : cellsV v = some [v] := by
  rcases hv with ⟨_, ⟨rfl, _⟩ | q⟩
  · rfl
  · exact q.cellB
theorem setL3_get (cs : List AV) (off : Nat) (x y z : AV) (j : Nat) (ho : off + 3 ≤ cs.length) : (setL cs off [x, y, z])[j]? = if j = off then some x else if j = off + 1 then some y else if j = off + 2 then some z else cs[j]? := by
  unfold setL
  simp only [List.append_assoc, List.length_cons, List.length_nil]
  rw [List.getElem?_append, List.length_take, Nat.min_eq_left (by omega)]
  split
  · rw [if_neg (by omega), if_neg (by omega), if_neg (by omega), List.getElem?_take, if_pos (by omega)]
  · rcases Nat.lt_or_ge j (off + 3) with q | q
    · obtain rfl | rfl | rfl : j = off ∨ j = off + 1 ∨ j = off + 2 := by omega
      · simp
      · simp
      · simp
    · rw [if_neg (by omega), if_neg (by omega), if_neg (by omega), List.getElem?_append_right (by simp; omega), List.getElem?_drop]
      congr 1
      simp
      omega
theorem veqNF {h : Hp} {K : AV → Hp → Prop} (q : K (.bool false) h) : vEq true eqNF .nilfunc .nilfunc h K := q
def crB (b : Blk) : Blk := ⟨b.kept, b.kept, false⟩
def crN (bs : List Blk) (i : Nat) : List Blk := bs.mapIdx fun j b => if j < i then crB b else ⟨zeroB, zeroB, false⟩
theorem crN_len (bs : List Blk) (i : Nat) : (crN bs i).length = bs.length := by simp [crN]
theorem crN_zero (bs : List Blk) : crN bs 0 = newBs bs.length := by
  refine List.ext_getElem (by simp [crN_len, newBs]) fun j h1 h2 => ?_
  simp [crN, newBs]
theorem crN_all (bs : List Blk) : crN bs bs.length = bs.map crB := by
  refine List.ext_getElem (by simp [crN_len]) fun j h1 h2 => ?_
  have : j < bs.length := by simpa using h2
  simp [crN, this]
theorem crN_get (bs : List Blk) (i j : Nat) (hj : j < (crN bs i).length) (hj' : j < bs.length) : (crN bs i)[j] = if j < i then crB bs[j] else ⟨zeroB, zeroB, false⟩ := by simp [crN]
theorem DevS.kp2 {h h' : Hp} {p q p2 q2 : Nat} {bs : List Blk} {fu : Bool} {le : Int} {de : Bool} (d : DevS h p q bs fu le de) (k : Kp h h' p2 q2) (r1 : RowAt h p2) (r2 : RowAt h q2) (n1 : p ≠ p2 ∧ p ≠ q2) (n2 : q ≠ p2 ∧ q ≠ q2) : DevS h' p q bs fu le de :=
  d.same k.1 fun o ho w => k.2 o ho (by rintro rfl; rcases w with rfl | rfl | w <;> first | exact n1.1 rfl | exact n2.1 rfl | exact w r1) (by rintro rfl; rcases w with rfl | rfl | w <;> first | exact n1.2 rfl | exact n2.2 rfl | exact w r2)
section
variable (cf : CallK) (fuel : Nat) {h : Hp} {K : AV → Hp → Prop} {p q : Nat} {bs : List Blk} {fu : Bool} {le : Int} {de : Bool}
def cCrash0 : ConD := fun args h K => ∃ p q bs fu le de, args = [.ptr p 0, .nilfunc] ∧ DevS h p q bs fu le de ∧ ∀ p2 q2 h', Ext h h' → h.next ≤ p2 → h.next ≤ q2 → DevS h' p2 q2 (bs.map crB) false 0 false → K (.ptr p2 0) h'
theorem cCrash0_go {cf : CallK} {g : FuncId} (hg : cf g = cCrash0) (d : DevS h p q bs fu le de) (hK : ∀ p2 q2 h', Ext h h' → h.next ≤ p2 → h.next ≤ q2 → DevS h' p2 q2 (bs.map crB) false 0 false → K (.ptr p2 0) h') : cf g [.ptr p 0, .nilfunc] h K := by rw [hg]; exact ⟨p, q, bs, fu, le, de, rfl, d, hK⟩
end
end Lg

namespace Lg
set_option linter.unusedSimpArgs false
set_option linter.unusedVariables false
set_option maxRecDepth 100000
open Go Go.Am
open Go.Proofs.YtnhamanffojhfaaDoor.shl
theorem toStrB_go {h : Hp} {v : AV} {l : List UInt8} {K : AV → Hp → Prop} (hv : ByH h v l) (hK : K (S l) h) : vToStr v h K := by
  rcases hv with ⟨rfl, rfl⟩ | ⟨o, rfl, rfl⟩ | ⟨o, off, kn, c, e, n, z, rfl, h2, h3, h4, h5, h6, h7⟩
  · exact hK
  · exact hK
  · show asOpt (h.at o) fun e => asByts e.obj fun m z => gd (Nat.ble (off + l.length) m) (forceN l.length fun n => forceN (cutB z off n) fun z => K (.str n z) h)
    rw [h3, asOpt_some, h4]
    show gd (Nat.ble (off + l.length) n) (forceN l.length fun n => forceN (cutB z off n) fun z => K (.str n z) h)
    rw [Nat.ble_eq_true_of_le h5]
    simp only [gd_true, forceN_eq]
    rw [S_of (cutB_lt _ _ _)]
    have := bytesL_cut n z off (off + l.length) (by omega) h5
    rw [show off + l.length - off = l.length by omega, List.drop_take, show off + l.length - off = l.length by omega, h7] at this
    rw [this]
    exact hK
section
variable {h : Hp} {K : AV → Hp → Prop}
def cEqB : ConD := fun args h K => ∃ v w l m, args = [v, w] ∧ ByH h v l ∧ ByH h w m ∧ K (.bool (decide (l = m))) h
theorem cEqB_go {cf : CallK} {g : FuncId} (hg : cf g = cEqB) {v w : AV} {l m : List UInt8} (hv : ByH h v l) (hw : ByH h w m) (hK : K (.bool (decide (l = m))) h) : cf g [v, w] h K := by rw [hg]; exact ⟨v, w, l, m, rfl, hv, hw, hK⟩
end
/-- A device without a fuse: what its blocks are, and what they were at the last flush. -/
def DevN (h : Hp) (p q : Nat) (N E : List (List UInt8)) : Prop := ∃ bs, DevS h p q bs false 0 false ∧ bs.map Blk.now = N ∧ bs.map Blk.kept = E
section
variable {h : Hp} {K : AV → Hp → Prop} {p q : Nat} {N E : List (List UInt8)}
theorem DevN.len (d : DevN h p q N E) : N.length = E.length ∧ 0 < N.length ∧ N.length ≤ 65536 := by
  obtain ⟨bs, d, rfl, rfl⟩ := d
  simp only [List.length_map]
  exact ⟨trivial, d.pos, d.most⟩
theorem DevN.each (d : DevN h p q N E) : ∀ l ∈ N, l.length = 512 := by
  obtain ⟨bs, d, rfl, rfl⟩ := d
  intro l hl
  obtain ⟨b, hb, rfl⟩ := List.mem_map.1 hl
  obtain ⟨j, hj, rfl⟩ := List.getElem_of_mem hb
  obtain ⟨ob, cs, _, _, _, e4⟩ := d.row
  obtain ⟨_, _, _, _, _, q4, _⟩ := e4 j hj
  exact q4.1
theorem DevN.ext {h' : Hp} (d : DevN h p q N E) (x : Ext h h') : DevN h' p q N E := by
  obtain ⟨bs, d, r⟩ := d
  exact ⟨bs, d.ext x, r⟩
theorem DevN.rows (d : DevN h p q N E) : RowAt h p ∧ RowAt h q ∧ p < h.next ∧ q < h.next ∧ p ≠ q := by
  obtain ⟨bs, d, r⟩ := d
  exact ⟨d.rowp, d.rowq, d.plt, d.qlt, d.ne⟩
theorem DevN.kp {h' : Hp} {p2 q2 : Nat} (d : DevN h p q N E) (k : Kp h h' p2 q2) (r1 : RowAt h p2) (r2 : RowAt h q2) (n1 : p ≠ p2 ∧ p ≠ q2) (n2 : q ≠ p2 ∧ q ≠ q2) : DevN h' p q N E := by
  obtain ⟨bs, d, r⟩ := d
  exact ⟨bs, d.kp2 k r1 r2 n1 n2, r⟩
theorem dead_goN {cf : CallK} {g : FuncId} (hg : cf g = cDead) (d : DevN h p q N E) (hK : K (.bool false) h) : cf g [.ptr p 0] h K := by
  obtain ⟨bs, d, rfl, rfl⟩ := d
  exact cDead_go hg d hK
theorem blocks_goN {cf : CallK} {g : FuncId} (hg : cf g = cBlocks) (d : DevN h p q N E) (hK : K (I N.length) h) : cf g [.ptr p 0] h K := by
  obtain ⟨bs, d, rfl, rfl⟩ := d
  exact cBlocks_go hg d (by simpa using hK)
theorem read_goN {cf : CallK} {g : FuncId} (hg : cf g = cDRead) (d : DevN h p q N E) {i : Nat} (hi : i < N.length) (hK : ∀ v' h', Ext h h' → ByH h' v' N[i] → Fr h.next v' → K (.tup [v', I 0]) h') : cf g [.ptr p 0, I i] h K := by
  obtain ⟨bs, d, rfl, rfl⟩ := d
  exact cDRead_go hg d (by simpa using hi) (fun v' h' x y z => hK v' h' x (by simpa using y) z)
theorem write_goN {cf : CallK} {g : FuncId} (hg : cf g = cWrite) (d : DevN h p q N E) {i : Nat} (hi : i < N.length) {v : AV} {l : List UInt8} (hv : ByH h v l) (hl : l.length = 512) (hK : ∀ h', Kp h h' p q → DevN h' p q (N.set i l) E → K (I 0) h') : cf g [.ptr p 0, I i, v] h K := by
  obtain ⟨bs, d, rfl, rfl⟩ := d
  have hi' : i < bs.length := by simpa using hi
  refine cWrite_go hg d hi' hv hl (fun h' k d' => hK h' k ⟨_, d', ?_, ?_⟩)
  · simp
  · rw [List.map_set]
    refine List.ext_getElem (by simp) fun j h1 h2 => ?_
    rw [List.getElem_set]
    split
    · rename_i e; subst e; simp
    · simp
theorem flush_goN {cf : CallK} {g : FuncId} (hg : cf g = cFlush) (d : DevN h p q N E) (hK : ∀ h', Kp h h' p q → DevN h' p q N N → K (I 0) h') : cf g [.ptr p 0] h K := by
  obtain ⟨bs, d, rfl, rfl⟩ := d
  refine cFlush_go hg d (fun h' k d' => hK h' k ⟨_, d', ?_, ?_⟩)
  · simp [flB]
  · simp [flB]
theorem crash_goN {cf : CallK} {g : FuncId} (hg : cf g = cCrash0) (d : DevN h p q N E) (hK : ∀ p2 q2 h', Ext h h' → h.next ≤ p2 → h.next ≤ q2 → DevN h' p2 q2 E E → K (.ptr p2 0) h') : cf g [.ptr p 0, .nilfunc] h K := by
  obtain ⟨bs, d, rfl, rfl⟩ := d
  refine cCrash0_go hg d (fun p2 q2 h' x f1 f2 d' => hK p2 q2 h' x f1 f2 ⟨_, d', ?_, ?_⟩)
  · simp [crB]
  · simp [crB]
theorem new_goN {cf : CallK} {g : FuncId} (hg : cf g = cDNew) {n : Nat} (hn : 1 ≤ n ∧ n ≤ 65536) (hK : ∀ p q h', Ext h h' → h.next ≤ p → h.next ≤ q → DevN h' p q (List.replicate n zeroB) (List.replicate n zeroB) → K (.ptr p 0) h') : cf g [I n] h K :=
  cDNew_go hg hn (fun p q h' x f1 f2 d => hK p q h' x f1 f2 ⟨_, d, by simp [newBs], by simp [newBs]⟩)
/-! ### wal -/
def roomN (n : Nat) : Nat := if n < 16 then 0 else (n - 8) / 4
def cRoom : ConD := fun args h K => ∃ p q N E, args = [.ptr p 0] ∧ DevN h p q N E ∧ K (I (roomN N.length)) h
theorem cRoom_go {cf : CallK} {g : FuncId} (hg : cf g = cRoom) (d : DevN h p q N E) (hK : K (I (roomN N.length)) h) : cf g [.ptr p 0] h K := by rw [hg]; exact ⟨p, q, N, E, rfl, d, hK⟩
def cWrote : ConD := fun args h K => ∃ p q N E, ∃ i : Nat, ∃ v l, args = [.ptr p 0, I i, v] ∧ DevN h p q N E ∧ i < N.length ∧ ByH h v l ∧ l.length = 512 ∧ ∀ h', Kp h h' p q → DevN h' p q (N.set i l) E → K (I 0) h'
theorem cWrote_go {cf : CallK} {g : FuncId} (hg : cf g = cWrote) (d : DevN h p q N E) {i : Nat} (hi : i < N.length) {v : AV} {l : List UInt8} (hv : ByH h v l) (hl : l.length = 512) (hK : ∀ h', Kp h h' p q → DevN h' p q (N.set i l) E → K (I 0) h') : cf g [.ptr p 0, I i, v] h K := by rw [hg]; exact ⟨p, q, N, E, i, v, l, rfl, d, hi, hv, hl, hK⟩
end
end Lg

namespace Go.Proofs
open Go.Shelf
def Tryd.laysM171_ren : Go.Shelf.Ren := ⟨fun | 171 => 34 | 243 => 46 | 246 => 45 | 283 => 58 | 284 => 59 | 285 => 60 | 286 => 61 | 129 => 83 | 317 => 82 | 318 => 84 | 319 => 85 | 320 => 86 | 337 => 100 | 338 => 101 | n => n, fun | 3 => 3 | 9 => 9 | 2 => 2 | 4 => 4 | 171 => 75 | 0 => 0 | 53 => 76 | 37 => 62 | 5 => 5 | 173 => 79 | 212 => 100 | 51 => 101 | 20 => 20 | 213 => 102 | 46 => 86 | 232 => 124 | 233 => 125 | n => n, fun | 17 => 1 | 18 => 4 | 19 => 5 | n => n⟩
theorem Tryd.laysM171 : Go.Proofs.LaysM.n171 Tryd.prog Tryd.laysM171_ren := {
  mixed := by kernel_rfl
  f129 := Tryd.func83.trans (congrArg some (by kernel_rfl))
  f171 := Tryd.func34.trans (congrArg some (by kernel_rfl))
  f243 := Tryd.func46.trans (congrArg some (by kernel_rfl))
  f246 := Tryd.func45.trans (congrArg some (by kernel_rfl))
  f283 := Tryd.func58.trans (congrArg some (by kernel_rfl))
  f284 := Tryd.func59.trans (congrArg some (by kernel_rfl))
  f285 := Tryd.func60.trans (congrArg some (by kernel_rfl))
  f286 := Tryd.func61.trans (congrArg some (by kernel_rfl))
  f317 := Tryd.func82.trans (congrArg some (by kernel_rfl))
  f318 := Tryd.func84.trans (congrArg some (by kernel_rfl))
  f319 := Tryd.func85.trans (congrArg some (by kernel_rfl))
  f320 := Tryd.func86.trans (congrArg some (by kernel_rfl))
  f337 := Tryd.func100.trans (congrArg some (by kernel_rfl))
  f338 := Tryd.func101.trans (congrArg some (by kernel_rfl))
  t0 := Tryd.underlying0
  a0 := Tryd.isAgg0
  z0 := Tryd.sizeOf0
  v0 := Tryd.zeroValue0
  t2 := Tryd.underlying2
  a2 := Tryd.isAgg2
  z2 := Tryd.sizeOf2
  v2 := Tryd.zeroValue2
  t3 := Tryd.underlying3
  a3 := Tryd.isAgg3
  z3 := Tryd.sizeOf3
  v3 := Tryd.zeroValue3
  t4 := Tryd.underlying4
  a4 := Tryd.isAgg4
  z4 := Tryd.sizeOf4
  v4 := Tryd.zeroValue4
  t5 := Tryd.underlying5
  a5 := Tryd.isAgg5
  z5 := Tryd.sizeOf5
  v5 := Tryd.zeroValue5
  t9 := Tryd.underlying9
  a9 := Tryd.isAgg9
  z9 := Tryd.sizeOf9
  v9 := Tryd.zeroValue9
  t20 := Tryd.underlying20
  a20 := Tryd.isAgg20
  z20 := Tryd.sizeOf20
  v20 := Tryd.zeroValue20
  t37 := Tryd.underlying62
  a37 := Tryd.isAgg62
  z37 := Tryd.sizeOf62
  v37 := Tryd.zeroValue62
  t46 := Tryd.underlying86
  a46 := Tryd.isAgg86
  z46 := Tryd.sizeOf86
  v46 := Tryd.zeroValue86
  t51 := Tryd.underlying101
  a51 := Tryd.isAgg101
  z51 := Tryd.sizeOf101
  v51 := Tryd.zeroValue101
  t53 := Tryd.underlying76
  a53 := Tryd.isAgg76
  z53 := Tryd.sizeOf76
  v53 := Tryd.zeroValue76
  t171 := Tryd.underlying75
  a171 := Tryd.isAgg75
  z171 := Tryd.sizeOf75
  v171 := Tryd.zeroValue75
  t173 := Tryd.underlying79
  a173 := Tryd.isAgg79
  z173 := Tryd.sizeOf79
  v173 := Tryd.zeroValue79
  t212 := Tryd.underlying100
  a212 := Tryd.isAgg100
  z212 := Tryd.sizeOf100
  v212 := Tryd.zeroValue100
  t213 := Tryd.underlying102
  a213 := Tryd.isAgg102
  z213 := Tryd.sizeOf102
  t232 := Tryd.underlying124
  a232 := Tryd.isAgg124
  z232 := Tryd.sizeOf124
  v232 := Tryd.zeroValue124
  t233 := Tryd.underlying125
  a233 := Tryd.isAgg125
  z233 := Tryd.sizeOf125
  v233 := Tryd.zeroValue125
  g17 := by kernel_rfl
  g18 := by kernel_rfl
  g19 := by kernel_rfl
  i0 := by kernel_rfl
  i2 := by kernel_rfl
  i3 := by kernel_rfl
  i4 := by kernel_rfl
  i5 := by kernel_rfl
  i9 := by kernel_rfl
  i20 := by kernel_rfl
  i37 := by kernel_rfl
  i46 := by kernel_rfl
  i51 := by kernel_rfl
  i53 := by kernel_rfl
  i171 := by kernel_rfl
  i173 := by kernel_rfl
  i212 := by kernel_rfl
  i232 := by kernel_rfl
  i233 := by kernel_rfl
  m17 := by kernel_rfl
  m18 := by kernel_rfl
  m19 := by kernel_rfl }
open Go.RowKit Go.Sort Go.Lib in
/-- strconv.Itoa: "Itoa is equivalent to FormatInt(int64(i), 10).": i's DECIMAL NUMERAL ('Lib.itoa': a '-' where i is negative, then the digits), FOR EVERY int. The world behind the call: the world before it, new blocks behind the heap (the library's 'var a [24]byte'), draws. (LAID: no walk: one application.) -/
theorem Tryd.strconv_Itoa (n : Int) (h0 : -9223372036854775808 ≤ n) (h1 : n ≤ 9223372036854775807) (w : World) (htab : Lib.TabIs Tryd.prog w "internal/strconv.uint64pow10" .u64 Lib.pow10Tab) :
    Calls Tryd.prog 34 #[.int .i64 n] w fun e w' => e = .returned (.string ⟨(Lib.itoa n).toArray⟩) ∧ ∃ k os, w' = grow (w.drewN k) os := Any.strconv_Itoa Tryd.laysM171 n h0 h1 w htab
def Tryd.laysM173_ren : Go.Shelf.Ren := ⟨fun | 173 => 33 | 246 => 45 | 283 => 58 | 284 => 59 | 285 => 60 | 286 => 61 | 129 => 83 | 317 => 82 | 318 => 84 | 319 => 85 | 320 => 86 | 337 => 100 | 338 => 101 | n => n, fun | 2 => 2 | 3 => 3 | 9 => 9 | 4 => 4 | 171 => 75 | 0 => 0 | 53 => 76 | 37 => 62 | 5 => 5 | 173 => 79 | 212 => 100 | 51 => 101 | 20 => 20 | 213 => 102 | 46 => 86 | 232 => 124 | 233 => 125 | n => n, fun | 17 => 1 | 18 => 4 | 19 => 5 | n => n⟩
theorem Tryd.laysM173 : Go.Proofs.LaysM.n173 Tryd.prog Tryd.laysM173_ren := {
  mixed := by kernel_rfl
  f129 := Tryd.func83.trans (congrArg some (by kernel_rfl))
  f173 := Tryd.func33.trans (congrArg some (by kernel_rfl))
  f246 := Tryd.func45.trans (congrArg some (by kernel_rfl))
  f283 := Tryd.func58.trans (congrArg some (by kernel_rfl))
  f284 := Tryd.func59.trans (congrArg some (by kernel_rfl))
  f285 := Tryd.func60.trans (congrArg some (by kernel_rfl))
  f286 := Tryd.func61.trans (congrArg some (by kernel_rfl))
  f317 := Tryd.func82.trans (congrArg some (by kernel_rfl))
  f318 := Tryd.func84.trans (congrArg some (by kernel_rfl))
  f319 := Tryd.func85.trans (congrArg some (by kernel_rfl))
  f320 := Tryd.func86.trans (congrArg some (by kernel_rfl))
  f337 := Tryd.func100.trans (congrArg some (by kernel_rfl))
  f338 := Tryd.func101.trans (congrArg some (by kernel_rfl))
  t0 := Tryd.underlying0
  a0 := Tryd.isAgg0
  z0 := Tryd.sizeOf0
  v0 := Tryd.zeroValue0
  t2 := Tryd.underlying2
  a2 := Tryd.isAgg2
  z2 := Tryd.sizeOf2
  v2 := Tryd.zeroValue2
  t3 := Tryd.underlying3
  a3 := Tryd.isAgg3
  z3 := Tryd.sizeOf3
  v3 := Tryd.zeroValue3
  t4 := Tryd.underlying4
  a4 := Tryd.isAgg4
  z4 := Tryd.sizeOf4
  v4 := Tryd.zeroValue4
  t5 := Tryd.underlying5
  a5 := Tryd.isAgg5
  z5 := Tryd.sizeOf5
  v5 := Tryd.zeroValue5
  t9 := Tryd.underlying9
  a9 := Tryd.isAgg9
  z9 := Tryd.sizeOf9
  v9 := Tryd.zeroValue9
  t20 := Tryd.underlying20
  a20 := Tryd.isAgg20
  z20 := Tryd.sizeOf20
  v20 := Tryd.zeroValue20
  t37 := Tryd.underlying62
  a37 := Tryd.isAgg62
  z37 := Tryd.sizeOf62
  v37 := Tryd.zeroValue62
  t46 := Tryd.underlying86
  a46 := Tryd.isAgg86
  z46 := Tryd.sizeOf86
  v46 := Tryd.zeroValue86
  t51 := Tryd.underlying101
  a51 := Tryd.isAgg101
  z51 := Tryd.sizeOf101
  v51 := Tryd.zeroValue101
  t53 := Tryd.underlying76
  a53 := Tryd.isAgg76
  z53 := Tryd.sizeOf76
  v53 := Tryd.zeroValue76
  t171 := Tryd.underlying75
  a171 := Tryd.isAgg75
  z171 := Tryd.sizeOf75
  v171 := Tryd.zeroValue75
  t173 := Tryd.underlying79
  a173 := Tryd.isAgg79
  z173 := Tryd.sizeOf79
  v173 := Tryd.zeroValue79
  t212 := Tryd.underlying100
  a212 := Tryd.isAgg100
  z212 := Tryd.sizeOf100
  v212 := Tryd.zeroValue100
  t213 := Tryd.underlying102
  a213 := Tryd.isAgg102
  z213 := Tryd.sizeOf102
  t232 := Tryd.underlying124
  a232 := Tryd.isAgg124
  z232 := Tryd.sizeOf124
  v232 := Tryd.zeroValue124
  t233 := Tryd.underlying125
  a233 := Tryd.isAgg125
  z233 := Tryd.sizeOf125
  v233 := Tryd.zeroValue125
  g17 := by kernel_rfl
  g18 := by kernel_rfl
  g19 := by kernel_rfl
  i0 := by kernel_rfl
  i2 := by kernel_rfl
  i3 := by kernel_rfl
  i4 := by kernel_rfl
  i5 := by kernel_rfl
  i9 := by kernel_rfl
  i20 := by kernel_rfl
  i37 := by kernel_rfl
  i46 := by kernel_rfl
  i51 := by kernel_rfl
  i53 := by kernel_rfl
  i171 := by kernel_rfl
  i173 := by kernel_rfl
  i212 := by kernel_rfl
  i232 := by kernel_rfl
  i233 := by kernel_rfl
  m17 := by kernel_rfl
  m18 := by kernel_rfl
  m19 := by kernel_rfl }
open Go.RowKit Go.Sort Go.Lib in
/-- strconv.FormatInt: "FormatInt returns the string representation of i in the given base": AT BASE 10: i's decimal numeral, for every int64. (LAID: no walk: one application.) -/
theorem Tryd.strconv_FormatInt_10 (n : Int) (h0 : -9223372036854775808 ≤ n) (h1 : n ≤ 9223372036854775807) (w : World) (htab : Lib.TabIs Tryd.prog w "internal/strconv.uint64pow10" .u64 Lib.pow10Tab) :
    Calls Tryd.prog 33 #[.int .i64 n, .int .i64 10] w fun e w' => e = .returned (.string ⟨(Lib.itoa n).toArray⟩) ∧ ∃ k os, w' = grow (w.drewN k) os := Any.strconv_FormatInt_10 Tryd.laysM173 n h0 h1 w htab
def Tryd.laysC174_ren : Go.Shelf.Ren := ⟨fun | 174 => 42 | 247 => 55 | 245 => 56 | 287 => 73 | 279 => 74 | 280 => 75 | 281 => 76 | 282 => 77 | 321 => 94 | 322 => 95 | 316 => 96 | 171 => 34 | 205 => 97 | 243 => 46 | 246 => 45 | 283 => 58 | 284 => 59 | 285 => 60 | 286 => 61 | 129 => 83 | 317 => 82 | 318 => 84 | 319 => 85 | 320 => 86 | 337 => 100 | 338 => 101 | n => n, fun | 9 => 9 | 3 => 3 | 2 => 2 | 75 => 58 | 85 => 59 | 4 => 4 | 167 => 87 | 5 => 5 | 53 => 76 | 175 => 88 | 46 => 86 | 168 => 90 | 37 => 62 | 0 => 0 | 210 => 116 | 21 => 21 | 127 => 82 | 145 => 123 | 143 => 121 | 171 => 75 | 173 => 79 | 212 => 100 | 51 => 101 | 20 => 20 | 213 => 102 | 232 => 124 | 233 => 125 | 80 => 70 | n => n, fun | 15 => 2 | 16 => 3 | 17 => 1 | 18 => 4 | 19 => 5 | n => n⟩
theorem Tryd.laysC174 : Go.Proofs.LaysC.n174 Tryd.prog Tryd.laysC174_ren := {
  mixed := by kernel_rfl
  f129 := Tryd.func83.trans (congrArg some (by kernel_rfl))
  f171 := Tryd.func34.trans (congrArg some (by kernel_rfl))
  f174 := Tryd.func42.trans (congrArg some (by kernel_rfl))
  f205 := Tryd.func97.trans (congrArg some (by kernel_rfl))
  f243 := Tryd.func46.trans (congrArg some (by kernel_rfl))
  f245 := Tryd.func56.trans (congrArg some (by kernel_rfl))
  f246 := Tryd.func45.trans (congrArg some (by kernel_rfl))
  f247 := Tryd.func55.trans (congrArg some (by kernel_rfl))
  f279 := Tryd.func74.trans (congrArg some (by kernel_rfl))
  f280 := Tryd.func75.trans (congrArg some (by kernel_rfl))
  f281 := Tryd.func76.trans (congrArg some (by kernel_rfl))
  f282 := Tryd.func77.trans (congrArg some (by kernel_rfl))
  f283 := Tryd.func58.trans (congrArg some (by kernel_rfl))
  f284 := Tryd.func59.trans (congrArg some (by kernel_rfl))
  f285 := Tryd.func60.trans (congrArg some (by kernel_rfl))
  f286 := Tryd.func61.trans (congrArg some (by kernel_rfl))
  f287 := Tryd.func73.trans (congrArg some (by kernel_rfl))
  f316 := Tryd.func96.trans (congrArg some (by kernel_rfl))
  f317 := Tryd.func82.trans (congrArg some (by kernel_rfl))
  f318 := Tryd.func84.trans (congrArg some (by kernel_rfl))
  f319 := Tryd.func85.trans (congrArg some (by kernel_rfl))
  f320 := Tryd.func86.trans (congrArg some (by kernel_rfl))
  f321 := Tryd.func94.trans (congrArg some (by kernel_rfl))
  f322 := Tryd.func95.trans (congrArg some (by kernel_rfl))
  f337 := Tryd.func100.trans (congrArg some (by kernel_rfl))
  f338 := Tryd.func101.trans (congrArg some (by kernel_rfl))
  t0 := Tryd.underlying0
  a0 := Tryd.isAgg0
  z0 := Tryd.sizeOf0
  v0 := Tryd.zeroValue0
  t2 := Tryd.underlying2
  a2 := Tryd.isAgg2
  z2 := Tryd.sizeOf2
  v2 := Tryd.zeroValue2
  t3 := Tryd.underlying3
  a3 := Tryd.isAgg3
  z3 := Tryd.sizeOf3
  v3 := Tryd.zeroValue3
  t4 := Tryd.underlying4
  a4 := Tryd.isAgg4
  z4 := Tryd.sizeOf4
  v4 := Tryd.zeroValue4
  t5 := Tryd.underlying5
  a5 := Tryd.isAgg5
  z5 := Tryd.sizeOf5
  v5 := Tryd.zeroValue5
  t9 := Tryd.underlying9
  a9 := Tryd.isAgg9
  z9 := Tryd.sizeOf9
  v9 := Tryd.zeroValue9
  t20 := Tryd.underlying20
  a20 := Tryd.isAgg20
  z20 := Tryd.sizeOf20
  v20 := Tryd.zeroValue20
  t21 := Tryd.underlying21
  a21 := Tryd.isAgg21
  z21 := Tryd.sizeOf21
  v21 := Tryd.zeroValue21
  t37 := Tryd.underlying62
  a37 := Tryd.isAgg62
  z37 := Tryd.sizeOf62
  v37 := Tryd.zeroValue62
  t46 := Tryd.underlying86
  a46 := Tryd.isAgg86
  z46 := Tryd.sizeOf86
  v46 := Tryd.zeroValue86
  t51 := Tryd.underlying101
  a51 := Tryd.isAgg101
  z51 := Tryd.sizeOf101
  v51 := Tryd.zeroValue101
  t53 := Tryd.underlying76
  a53 := Tryd.isAgg76
  z53 := Tryd.sizeOf76
  v53 := Tryd.zeroValue76
  t75 := Tryd.underlying58
  a75 := Tryd.isAgg58
  z75 := Tryd.sizeOf58
  v75 := Tryd.zeroValue58
  t85 := Tryd.underlying59
  a85 := Tryd.isAgg59
  z85 := Tryd.sizeOf59
  v85 := Tryd.zeroValue59
  t127 := Tryd.underlying82
  a127 := Tryd.isAgg82
  z127 := Tryd.sizeOf82
  v127 := Tryd.zeroValue82
  t143 := Tryd.underlying121
  a143 := Tryd.isAgg121
  z143 := Tryd.sizeOf121
  v143 := Tryd.zeroValue121
  t145 := Tryd.underlying123
  a145 := Tryd.isAgg123
  z145 := Tryd.sizeOf123
  v145 := Tryd.zeroValue123
  t167 := Tryd.underlying87
  a167 := Tryd.isAgg87
  z167 := Tryd.sizeOf87
  v167 := Tryd.zeroValue87
  t168 := Tryd.underlying90
  a168 := Tryd.isAgg90
  z168 := Tryd.sizeOf90
  v168 := Tryd.zeroValue90
  t171 := Tryd.underlying75
  a171 := Tryd.isAgg75
  z171 := Tryd.sizeOf75
  v171 := Tryd.zeroValue75
  t173 := Tryd.underlying79
  a173 := Tryd.isAgg79
  z173 := Tryd.sizeOf79
  v173 := Tryd.zeroValue79
  t175 := Tryd.underlying88
  a175 := Tryd.isAgg88
  z175 := Tryd.sizeOf88
  v175 := Tryd.zeroValue88
  t210 := Tryd.underlying116
  a210 := Tryd.isAgg116
  z210 := Tryd.sizeOf116
  v210 := Tryd.zeroValue116
  t212 := Tryd.underlying100
  a212 := Tryd.isAgg100
  z212 := Tryd.sizeOf100
  v212 := Tryd.zeroValue100
  t213 := Tryd.underlying102
  a213 := Tryd.isAgg102
  z213 := Tryd.sizeOf102
  t232 := Tryd.underlying124
  a232 := Tryd.isAgg124
  z232 := Tryd.sizeOf124
  v232 := Tryd.zeroValue124
  t233 := Tryd.underlying125
  a233 := Tryd.isAgg125
  z233 := Tryd.sizeOf125
  v233 := Tryd.zeroValue125
  g15 := by kernel_rfl
  g16 := by kernel_rfl
  g17 := by kernel_rfl
  g18 := by kernel_rfl
  g19 := by kernel_rfl
  t80 := Tryd.underlying70
  a80 := Tryd.isAgg70
  z80 := Tryd.sizeOf70
  v80 := Tryd.zeroValue70
  i0 := by kernel_rfl
  i2 := by kernel_rfl
  i3 := by kernel_rfl
  i4 := by kernel_rfl
  i5 := by kernel_rfl
  i9 := by kernel_rfl
  i20 := by kernel_rfl
  i21 := by kernel_rfl
  i37 := by kernel_rfl
  i46 := by kernel_rfl
  i51 := by kernel_rfl
  i53 := by kernel_rfl
  i75 := by kernel_rfl
  i80 := by kernel_rfl
  i85 := by kernel_rfl
  i127 := by kernel_rfl
  i143 := by kernel_rfl
  i145 := by kernel_rfl
  i167 := by kernel_rfl
  i168 := by kernel_rfl
  i171 := by kernel_rfl
  i173 := by kernel_rfl
  i175 := by kernel_rfl
  i210 := by kernel_rfl
  i212 := by kernel_rfl
  i232 := by kernel_rfl
  i233 := by kernel_rfl
  m15 := by kernel_rfl
  m16 := by kernel_rfl
  m17 := by kernel_rfl
  m18 := by kernel_rfl
  m19 := by kernel_rfl
  c0 := by kernel_rfl
  c2 := by kernel_rfl
  c3 := by kernel_rfl
  c4 := by kernel_rfl
  c5 := by kernel_rfl
  c9 := by kernel_rfl
  c20 := by kernel_rfl
  c21 := by kernel_rfl
  c37 := by kernel_rfl
  c46 := by kernel_rfl
  c51 := by kernel_rfl
  c53 := by kernel_rfl
  c75 := by kernel_rfl
  c80 := by kernel_rfl
  c85 := by kernel_rfl
  c127 := by kernel_rfl
  c143 := by kernel_rfl
  c145 := by kernel_rfl
  c167 := by kernel_rfl
  c168 := by kernel_rfl
  c171 := by kernel_rfl
  c173 := by kernel_rfl
  c175 := by kernel_rfl
  c210 := by kernel_rfl
  c212 := by kernel_rfl
  c213 := by kernel_rfl
  c232 := by kernel_rfl
  c233 := by kernel_rfl }
open Go.RowKit in
/-- strconv.ParseInt(s, 10, 64), AT EVERY STRING THAT SPELLS AN int64 ('Lib.parseIntB 64 s.data.toList = .ok v'): v, AND NO ERROR. (LAID: no walk: one application.) -/
theorem Tryd.strconv_ParseInt_10_at64_ok (s : ByteArray) (hmax : s.size ≤ 9223372036854775806) (v : Int) (h : Lib.parseIntB 64 s.data.toList = .ok v) (w : World) :
    Calls Tryd.prog 42 #[.string s, .int .i64 10, .int .i64 64] w fun e w' => e = .returned (.tuple #[.int .i64 v, .nilIface]) ∧ (w' = w ∨ ∃ t, w' = Lib.bytesWorld w 5 t) := Any.strconv_ParseInt_10_at64_ok Tryd.laysC174 s hmax v h w
open Go.RowKit in
theorem Tryd.strconv_ParseInt_10_at64_range_var (s : ByteArray) (hlim : s.size ≤ 281474976710656) (h : Lib.parseIntB 64 s.data.toList = .range) (tp : TypeId) (p : Value) (w : World) (hvar : w.var? Tryd.prog "strconv.ErrRange" = some #[.iface tp p]) :
    Calls Tryd.prog 42 #[.string s, .int .i64 10, .int .i64 64] w fun e w' => ∃ N, e = .returned (.tuple #[.int .i64 (Lib.intSat 64 s.data.toList), .iface 90 (.pointer (some ⟨N, 0, none⟩))]) ∧ w.heap.size ≤ N ∧ w'.heap[N]? = some (.cells #[.string ⟨#[80, 97, 114, 115, 101, 73, 110, 116]⟩, .string s, .iface tp p] 116 (0, 0)) ∧ Below w.heap.size w w' := Any.strconv_ParseInt_10_at64_range_var Tryd.laysC174 s hlim h tp p w hvar
end Go.Proofs

namespace Lg
set_option linter.unusedSimpArgs false
set_option linter.unusedVariables false
set_option maxRecDepth 100000
open Go Go.Am Go.Proofs Go.Shelf Go.RowKit Go.Sort
open Go.Proofs.YtnhamanffojhfaaDoor.shl
/-- A call that leaves all that was there as it was. -/
theorem simLeft {B : Nat} {w0 : W0} {w w' : World} {κ : Kap} {h : Hp} (s : Sim B w0 κ h w) (hb : Below w.heap.size w w') : Sim B w0 κ h w' := by
  have same : ∀ (b : Nat) (ob : Obj), w.heap[b]? = some ob → w'.heap[b]? = some ob := fun b ob hb' => by
    rw [hb.block b (Array.getElem?_eq_some_iff.1 hb').1]; exact hb'
  refine ⟨s.below.trans (hb.mono s.size), Nat.le_trans s.size hb.size, fun o e he => ?_, s.apart, s.fresh, fun b ob hb' => ⟨(s.ghost b ob hb').1, same _ _ (s.ghost b ob hb').2⟩, s.gap⟩
  obtain ⟨ki, h1, h2, h3, h4⟩ := s.obj o e he
  obtain ⟨y, hy⟩ := Option.isSome_iff_exists.1 h4.isSome
  refine ⟨ki, h1, h2, h3, ?_⟩
  rw [same _ _ hy, ← hy]; exact h4
/-- One more place, of which nothing is said. -/
def Hp.skip (h : Hp) : Hp := ⟨h.objs, h.next + 1⟩
theorem skip_ext (h : Hp) : Ext h (Hp.skip h) := ⟨Nat.le_succ _, fun _ _ => rfl⟩
theorem simPoint {B : Nat} {w0 : W0} {w : World} {κ : Kap} {h : Hp} (s : Sim B w0 κ h w) (ki : Ki) : Sim B w0 (κ.set h.next ki) (Hp.skip h) w := by
  have hle : κ.le (κ.set h.next ki) := Kap.le_set s.none_next
  have at_ : ∀ o e, h.objs.getP (npos o) = some e → (κ.set h.next ki) o = κ o := fun o e he => by
    obtain ⟨k0, h1, _⟩ := s.obj o e he
    exact Kap.set_ne _ _ (by have := s.fresh o k0 h1; omega)
  refine ⟨s.below, s.size, fun o e he => ?_, fun o o' e e' k1 k2 he he' h1 h2 => ?_, fun o k1 hk => ?_, s.ghost, fun o e k1 he hk => ?_⟩
  · obtain ⟨k0, h1, h2, h3, h4⟩ := s.obj o e he
    exact ⟨k0, hle _ _ h1, h2, h3, h4.mono hle⟩
  · rw [at_ o e he] at h1
    rw [at_ o' e' he'] at h2
    exact s.apart o o' e e' k1 k2 he he' h1 h2
  · show o < h.next + 1
    by_cases ho : o = h.next
    · omega
    · rw [Kap.set_ne _ _ ho] at hk
      have := s.fresh o k1 hk
      omega
  · rw [at_ o e he] at hk
    exact s.gap o e k1 he hk
/-- What the laid variables say at all worlds of a run. -/
def GV (B : Nat) (W : World) : Prop := (∀ w, Below B W w → Lib.TabIs Tryd.prog w "internal/strconv.uint64pow10" .u64 Lib.pow10Tab) ∧ (∃ tp p, ∀ w, Below B W w → w.var? Tryd.prog "strconv.ErrSyntax" = some #[.iface tp p]) ∧ (∃ tp p, ∀ w, Below B W w → w.var? Tryd.prog "strconv.ErrRange" = some #[.iface tp p])
def InI (n : Int) : Prop := -9223372036854775808 ≤ n ∧ n ≤ 9223372036854775807
def cFmt : ConD := fun args h K => ∃ n, args = [I n, I 10] ∧ InI n ∧ K (S (Lib.itoa n)) h
def cItoa : ConD := fun args h K => ∃ n, args = [I n] ∧ InI n ∧ K (S (Lib.itoa n)) h
def cParse : ConD := fun args h K => ∃ s, args = [S s, I 10, I 64] ∧ s.length ≤ 140737488355328 ∧ (∀ v, Lib.parseIntB 64 s = .ok v → K (.tup [I v, .niliface]) h) ∧ ((∀ v, Lib.parseIntB 64 s ≠ .ok v) → ∀ v, InI v → K (.tup [I v, .iface 90 (.ptr h.next 0)]) (Hp.skip h))
theorem gam_S (l : List UInt8) (κ : Kap) : gam κ (S l) = some (.string ⟨l.toArray⟩) := by
  have := S_data ⟨l.toArray⟩ κ
  simpa using this
theorem grow_below {w w' : World} (h : ∃ k os, w' = grow (w.drewN k) os) : Below w.heap.size w w' := by
  obtain ⟨k, os, rfl⟩ := h
  exact ⟨rfl, rfl, rfl, by show _ ≤ (grow _ _).heap.size; rw [size_grow]; exact Nat.le_add_right _ _, fun k hk => heap_grow_old _ _ hk⟩
variable {B : Nat} {W : World}
theorem fmt_one (hG : GV B W) (w0 : W0) (hw : w0.w = W) : ConOne Tryd.prog B w0 33 cFmt := by
  rintro avs h K ⟨n, rfl, hn, hK⟩
  refine ⟨⟨_, Tryd.func33, by show "strconv.FormatInt" ≠ _; decide, rfl⟩, fun κ w args s hargs R hR => ?_⟩
  simp only [gams, gam, Option.bind_some, Option.map_some, Option.some.injEq] at hargs
  subst hargs
  refine (Tryd.strconv_FormatInt_10 n hn.1 hn.2 w (hG.1 w (hw ▸ s.below))).mono fun e w' ⟨he, hw'⟩ => ?_
  subst he
  exact hR κ (S (Lib.itoa n)) h _ w' κ.le_refl (simLeft s (grow_below hw')) (gam_S _ _) hK
theorem itoa_one (hG : GV B W) (w0 : W0) (hw : w0.w = W) : ConOne Tryd.prog B w0 34 cItoa := by
  rintro avs h K ⟨n, rfl, hn, hK⟩
  refine ⟨⟨_, Tryd.func34, by show "strconv.Itoa" ≠ _; decide, rfl⟩, fun κ w args s hargs R hR => ?_⟩
  simp only [gams, gam, Option.bind_some, Option.map_some, Option.some.injEq] at hargs
  subst hargs
  refine (Tryd.strconv_Itoa n hn.1 hn.2 w (hG.1 w (hw ▸ s.below))).mono fun e w' ⟨he, hw'⟩ => ?_
  subst he
  exact hR κ (S (Lib.itoa n)) h _ w' κ.le_refl (simLeft s (grow_below hw')) (gam_S _ _) hK
theorem parse_one (hG : GV B W) (w0 : W0) (hw : w0.w = W) : ConOne Tryd.prog B w0 42 cParse := by
  rintro avs h K ⟨l, rfl, hl, hK, hE⟩
  refine ⟨⟨_, Tryd.func42, by show "strconv.ParseInt" ≠ _; decide, rfl⟩, fun κ w args s hargs R hR => ?_⟩
  have hargs2 : args = [.string ⟨l.toArray⟩, .int .i64 10, .int .i64 64] := by
    simp only [gams, gam_S, gam, Option.bind_some, Option.map_some, Option.some.injEq] at hargs
    exact hargs.symm
  subst hargs2
  have hd : (⟨l.toArray⟩ : ByteArray).data.toList = l := rfl
  have hsz : (⟨l.toArray⟩ : ByteArray).size = l.length := rfl
  have err : ∀ (v : Int) (N : Nat) (e : Ending) (w' : World), (∀ u, Lib.parseIntB 64 l ≠ .ok u) → InI v → e = .returned (.tuple #[.int .i64 v, .iface 90 (.pointer (some ⟨N, 0, none⟩))]) → Below w.heap.size w w' → R e w' := fun v N e w' h1 h2 he hb => by
    subst he
    refine hR (κ.set h.next ⟨N, 0, 0⟩) (.tup [I v, .iface 90 (.ptr h.next 0)]) (Hp.skip h) _ w' (Kap.le_set s.none_next) (simPoint (simLeft s hb) _) ?_ (hE h1 v h2)
    simp [gam, gams, Kap.set_self, Ki.at]
  by_cases hok : ∃ v, Lib.parseIntB 64 l = .ok v
  · obtain ⟨v, hp⟩ := hok
    refine (Tryd.strconv_ParseInt_10_at64_ok ⟨l.toArray⟩ (by rw [hsz]; omega) v (by rw [hd]; exact hp) w).mono fun e w' ⟨he, hw'⟩ => ?_
    subst he
    refine hR κ (.tup [I v, .niliface]) h _ w' κ.le_refl (simLeft s ?_) (by simp [gam, gams]) (hK v hp)
    rcases hw' with rfl | ⟨t, rfl⟩
    · exact Below.refl _ _
    · exact Lib.bytesWorld_below _ _ _
  · have hno : ∀ u, Lib.parseIntB 64 l ≠ .ok u := fun u hu => hok ⟨u, hu⟩
    by_cases hr : Lib.parseIntB 64 l = .range
    · obtain ⟨tp, p, hv⟩ := hG.2.2
      refine (Tryd.strconv_ParseInt_10_at64_range_var ⟨l.toArray⟩ (by rw [hsz]; omega) (by rw [hd]; exact hr) tp p w (hv w (hw ▸ s.below))).mono fun e w' ⟨N, he, _, _, hb⟩ => ?_
      refine err _ N e w' hno ?_ he hb
      unfold Lib.intSat InI
      split <;> simp
    · obtain ⟨tp, p, hv⟩ := hG.2.1
      refine (Any.strconv_ParseInt_10_at64_syntax_var Tryd.laysC174 ⟨l.toArray⟩ (by rw [hsz]; omega) (by cases hp : Lib.parseIntB 64 l <;> first | exact absurd hp (hno _) | exact absurd hp hr | exact hp | rfl) tp p w (hv w (hw ▸ s.below))).mono fun e w' ⟨N, he, _, _, hb⟩ => ?_
      exact err 0 N e w' hno ⟨by omega, by omega⟩ he hb
end Lg

namespace Lg
set_option linter.unusedSimpArgs false
set_option linter.unusedVariables false
set_option maxRecDepth 100000
open Go Go.Am
open Go.Proofs.YtnhamanffojhfaaDoor.shl
def headsP (os : List FOp) : Nat → Nat → List FOp
  | _, 0 => []
  | i, d + 1 => match os[i]? with
    | some a => if freeP os a 0 os.length then a :: headsP os (i + 1) d else headsP os (i + 1) d
    | none => []
theorem headsP_len (os : List FOp) : ∀ (i d : Nat), (headsP os i d).length ≤ d
  | _, 0 => by simp [headsP]
  | i, d + 1 => by
    have := headsP_len os (i + 1) d
    unfold headsP
    split
    · split
      · simp only [List.length_cons]; omega
      · omega
    · simp
/-- The heads kept so far, in a list of the function's own. -/
def Kept (h : Hp) (t3 : AV) (cl : List (List AV)) (pre : List FOp) (B : Nat) : Prop :=
  ∃ M, B ≤ M ∧ M ≤ h.next ∧ SlN h 5 t3 cl M ∧ (∀ cs ∈ cl, ∀ x ∈ cs, ∀ o off n kn c, x = .slice o off n kn c → o < M) ∧ VersR h cl pre
theorem Kept.mono {h h' : Hp} {t3 : AV} {cl : List (List AV)} {pre : List FOp} {B : Nat} (hk : Kept h t3 cl pre B) (hx : Ext h h') : Kept h' t3 cl pre B := by
  obtain ⟨M, k1, k2, k3, k4, k5⟩ := hk
  exact ⟨M, k1, Nat.le_trans k2 hx.next, k3.ext hx, k4, k5.mono hx⟩
theorem SlN.ge {h : Hp} {esz : Nat} {v : AV} {els : List (List AV)} {B o off n : Nat} {kn : Bool} {c : Nat} (hv : SlN h esz v els B) (e : v = .slice o off n kn c) : B ≤ o := by
  rcases hv with ⟨rfl, _⟩ | ⟨o', ob, rfl, h1, _, _⟩
  · cases e
  · cases e; exact h1
/-- One head more. -/
theorem Kept.add {hb h' : Hp} {t3 v' : AV} {cl : List (List AV)} {cs : List AV} {pre : List FOp} {a : FOp} {B M' : Nat} (hk : Kept hb t3 cl pre B)
    (keep : ∀ q, q < hb.next → (∀ off n kn c, t3 ≠ .slice q off n kn c) → h'.at q = hb.at q) (m1 : hb.next ≤ M') (m2 : M' ≤ h'.next) (hs : SlN h' 5 v' (cl ++ [cs]) M') (hc : ∀ x ∈ cs, ∀ o off n kn c, x = .slice o off n kn c → o < M') (hv : VerH h' cs a) : Kept h' v' (cl ++ [cs]) (pre ++ [a]) B := by
  obtain ⟨M, k1, k2, k3, k4, k5⟩ := hk
  have hn : hb.next ≤ h'.next := Nat.le_trans m1 m2
  have move : ∀ x ∈ cl, ∀ (b : FOp), VerH hb x b → VerH h' x b := fun x hx b hb' => by
    obtain ⟨vs, vd, rfl, q1, q2⟩ := hb'
    have lo : ∀ y ∈ [I b.t, I b.n, I b.seq, vs, vd], ∀ o off n kn c, y = .slice o off n kn c → o < hb.next → h'.at o = hb.at o := fun y hy o off n kn c e q => by
      have := k4 _ hx y hy o off n kn c e
      exact keep o q (fun off n kn c e2 => by have := SlN.ge k3 e2; omega)
    exact ⟨vs, vd, rfl, q1.same hn (lo vs (by simp)), q2.same hn (lo vd (by simp))⟩
  refine ⟨M', by omega, m2, hs, ?_, by simp [k5.1], ?_⟩
  · intro x hx y hy o off n kn c e
    rcases List.mem_append.1 hx with q | q
    · have := k4 x q y hy o off n kn c e; omega
    · rw [List.mem_singleton.1 q] at hy; exact hc y hy o off n kn c e
  · intro j h1 h2
    by_cases hj : j < cl.length
    · have hj' : j < pre.length := by rw [← k5.1]; exact hj
      rw [List.getElem_append_left hj, List.getElem_append_left hj']
      exact move _ (List.getElem_mem hj) _ (k5.2 j hj hj')
    · have hjl : j = cl.length := by simp at h1; omega
      have hjp : j = pre.length := by rw [← k5.1]; exact hjl
      rw [List.getElem_append_right (by omega), List.getElem_append_right (by omega)]
      simp [hjl, hjp, k5.1]
      exact hv
end Lg

namespace Lg
set_option linter.unusedSimpArgs false
set_option linter.unusedVariables false
set_option maxRecDepth 100000
open Go Go.Am
open Go.Proofs.YtnhamanffojhfaaDoor.shl
section
variable (cf : CallK) (fuel : Nat) {K : AV → Hp → Prop}
end
end Lg

namespace Lg
set_option linter.unusedSimpArgs false
set_option linter.unusedVariables false
set_option maxRecDepth 100000
open Go Go.Am
open Go.Proofs.YtnhamanffojhfaaDoor.shl
theorem flat_at {esz : Nat} : ∀ (els : List (List AV)) (_ : ∀ e ∈ els, e.length = esz) (j : Nat) (hj : j < els.length), (els.flatten.drop (j * esz)).take esz = els[j]
  | x :: l, he, 0, _ => by
    have h1 := he x (by simp)
    simp [List.take_left' h1]
  | x :: l, he, j + 1, hj => by
    have h1 := he x (by simp)
    have ih := flat_at l (fun e h => he e (by simp [h])) j (by simpa using hj)
    rw [List.flatten_cons, Nat.add_mul, Nat.one_mul, Nat.add_comm, ← List.drop_drop, List.drop_left' h1]
    simpa using ih
/-- What append made can be read. -/
theorem SlN.rd {h : Hp} {esz : Nat} {v : AV} {els : List (List AV)} {B : Nat} (hv : SlN h esz v els B) (hb : els.length ≤ 17592186044416) : Rd h esz v els := by
  rcases hv with ⟨h1, h2⟩ | ⟨o, ob, h1, h2, h3, h4, h5, h6, h7⟩
  · exact .inl ⟨h1, h2⟩
  · refine .inr (.inr ⟨o, 0, false, 0, _, h1, h3, h4, ⟨hb, fun q => by cases q⟩, fun j hj => ?_⟩)
    have hl := flat_len h6
    have hle : j * esz + esz ≤ els.flatten.length := by
      rw [hl]
      have : (j + 1) * esz ≤ els.length * esz := Nat.mul_le_mul_right _ hj
      rw [Nat.add_mul, Nat.one_mul] at this
      exact this
    show cellsO ob esz (0 + j * esz) = some els[j]
    rw [Nat.zero_add, cellsO_cells h5 esz (j * esz) hle, flat_at els h6 j hj]
end Lg

namespace Lg
set_option linter.unusedSimpArgs false
set_option linter.unusedVariables false
set_option maxRecDepth 100000
open Go Go.Am
open Go.Proofs.YtnhamanffojhfaaDoor.shl
def cFHeads : ConD := fun args h K => ∃ fo v els os, args = [.ptr fo 0] ∧ FileH h fo v els os ∧ els.length ≤ 1000000 ∧ ∀ v' h' cl, Ext h h' → Kept h' v' cl (headsP os 0 els.length) h.next → K v' h'
theorem cFHeads_go {cf : CallK} {g : FuncId} (hg : cf g = cFHeads) {h : Hp} {fo : Nat} {v : AV} {els : List (List AV)} {os : List FOp} {K : AV → Hp → Prop} (hf : FileH h fo v els os) (hs : els.length ≤ 1000000) (hK : ∀ v' h' cl, Ext h h' → Kept h' v' cl (headsP os 0 els.length) h.next → K v' h') : cf g [.ptr fo 0] h K := by rw [hg]; exact ⟨fo, v, els, os, rfl, hf, hs, hK⟩
/-- The data of the last head. -/
def valueP (os : List FOp) : List UInt8 := match (headsP os 0 os.length).getLast? with | some a => a.data | none => []
def cFValue : ConD := fun args h K => ∃ fo v els os, args = [.ptr fo 0] ∧ FileH h fo v els os ∧ els.length ≤ 1000000 ∧ ∀ v' h', Ext h h' → ByH h' v' (valueP os) → K v' h'
theorem cFValue_go {cf : CallK} {g : FuncId} (hg : cf g = cFValue) {h : Hp} {fo : Nat} {v : AV} {els : List (List AV)} {os : List FOp} {K : AV → Hp → Prop} (hf : FileH h fo v els os) (hs : els.length ≤ 1000000) (hK : ∀ v' h', Ext h h' → ByH h' v' (valueP os) → K v' h') : cf g [.ptr fo 0] h K := by rw [hg]; exact ⟨fo, v, els, os, rfl, hf, hs, hK⟩
theorem cellsO_nth {ob : AObj} : ∀ (n : Nat) {off : Nat} {l : List AV}, cellsO ob n off = some l → ∀ i, i < n → cellAt ob (off + i) = l[i]?
  | n + 1, off, l, hc, i, hi => by
    unfold cellsO at hc
    cases h0 : cellAt ob off with
    | none => rw [h0] at hc; simp at hc
    | some x =>
      rw [h0] at hc
      cases h1 : cellsO ob n (off + 1) with
      | none => rw [h1] at hc; simp at hc
      | some r =>
        rw [h1] at hc
        simp at hc
        subst hc
        cases i with
        | zero => simpa using h0
        | succ i =>
          have := cellsO_nth n h1 i (by omega)
          rw [show off + (i + 1) = off + 1 + i by omega, this]
          simp
section
variable (cf : CallK) (fuel : Nat) {h : Hp} {K : AV → Hp → Prop}
end
end Lg

namespace Lg
set_option linter.unusedSimpArgs false
set_option linter.unusedVariables false
set_option maxRecDepth 100000
open Go Go.Am
open Go.Proofs.YtnhamanffojhfaaDoor.shl

def rootB (t n : Int) : Bool := decide (t = 0) && decide (n = 0)
def trashB (t n : Int) : Bool := decide (t = 0) && decide (n = 1)
def olderB (t n t' n' : Int) : Bool := validB t n && lessI t n t' n'
theorem cmpI_less (t n t' n' : Int) : decide (cmpI t n t' n' < 0) = lessI t n t' n' := by
  rw [Bool.eq_iff_iff]
  simp only [decide_eq_true_eq, lessI, Bool.or_eq_true, Bool.and_eq_true]
  unfold cmpI
  (repeat' split) <;> omega
theorem cmpI_same (t n t' n' : Int) : decide (cmpI t n t' n' = 0) = sameI t n t' n' := by
  rw [Bool.eq_iff_iff]
  simp only [decide_eq_true_eq, sameI, Bool.and_eq_true]
  unfold cmpI
  (repeat' split) <;> omega

/-! ### contracts of functions that leave nothing behind -/
def cIB (f : Int → Bool) : ConD := fun args h K => ∃ n, args = [I n] ∧ K (.bool (f n)) h
def cIdB (f : Int → Int → Bool) : ConD := fun args h K => ∃ t n, args = [.agg [I t, I n]] ∧ K (.bool (f t n)) h
def cIdB2 (f : Int → Int → Int → Int → Bool) : ConD := fun args h K => ∃ t n t' n', args = [.agg [I t, I n], .agg [I t', I n']] ∧ K (.bool (f t n t' n')) h
def cIdI (f : Int → Int → Int → Int → Int) : ConD := fun args h K => ∃ t n t' n', args = [.agg [I t, I n], .agg [I t', I n']] ∧ K (I (f t n t' n')) h
def cVecB (f : List Int → Bool) : ConD := fun args h K => ∃ v l, args = [v] ∧ VecH h v l ∧ K (.bool (f l)) h
def cConst (v : AV) : ConD := fun args h K => args = [] ∧ K v h
theorem two_ways {b : Bool} {F : Bool → Prop} (h1 : b = true → F true) (h2 : b = false → F false) : F b := by
  cases b
  · exact h2 rfl
  · exact h1 rfl
section
variable {cf : CallK} {g : FuncId} {h : Hp} {K : AV → Hp → Prop}
theorem cIB_go {f : Int → Bool} (hg : cf g = cIB f) {n : Int} (h1 : f n = true → K (.bool true) h) (h2 : f n = false → K (.bool false) h) : cf g [I n] h K := by
  rw [hg]; exact ⟨n, rfl, two_ways (F := fun b => K (.bool b) h) h1 h2⟩
theorem cIdB_go {f : Int → Int → Bool} (hg : cf g = cIdB f) {t n : Int} (h1 : f t n = true → K (.bool true) h) (h2 : f t n = false → K (.bool false) h) : cf g [.agg [I t, I n]] h K := by
  rw [hg]; exact ⟨t, n, rfl, two_ways (F := fun b => K (.bool b) h) h1 h2⟩
theorem cIdB2_go {f : Int → Int → Int → Int → Bool} (hg : cf g = cIdB2 f) {t n t' n' : Int} (h1 : f t n t' n' = true → K (.bool true) h) (h2 : f t n t' n' = false → K (.bool false) h) : cf g [.agg [I t, I n], .agg [I t', I n']] h K := by
  rw [hg]; exact ⟨t, n, t', n', rfl, two_ways (F := fun b => K (.bool b) h) h1 h2⟩
theorem cIdI_go {f : Int → Int → Int → Int → Int} (hg : cf g = cIdI f) {t n t' n' : Int} (q : K (I (f t n t' n')) h) : cf g [.agg [I t, I n], .agg [I t', I n']] h K := by
  rw [hg]; exact ⟨t, n, t', n', rfl, q⟩
theorem cVecB_go {f : List Int → Bool} (hg : cf g = cVecB f) {v : AV} {l : List Int} (hv : VecH h v l) (h1 : f l = true → K (.bool true) h) (h2 : f l = false → K (.bool false) h) : cf g [v] h K := by
  rw [hg]; exact ⟨v, l, rfl, hv, two_ways (F := fun b => K (.bool b) h) h1 h2⟩
theorem cConst_go {v : AV} (hg : cf g = cConst v) (q : K v h) : cf g [] h K := by
  rw [hg]; exact ⟨rfl, q⟩
end

section
variable (cf : CallK) (fuel : Nat) {h : Hp} {K : AV → Hp → Prop}
theorem node_run (n : Int) (hK : ∀ h', Ext h h' → K (.bool (decide (0 ≤ n) && decide (n < 64))) h') : s_clock_node cf fuel (I n) h K := by
  unfold s_clock_node
  (try unfold vMov); repeat' (first | refine Step.imp ?_ | (refine Way.mk (fun hp => ?_) (fun hp => ?_) <;> first | contradiction | (exfalso; omega) | skip) | refine LoadG.mkG ?_ | refine LoadsG.mkG ?_ | refine AtG.mkG ?_ | refine StoreG.mkG ?_ | refine CondG.mkG ?_ | fail); (all_goals (try dsimp only))
  all_goals (refine fin hK ?_ (by repeat (first | exact Ext.refl _ | assumption | apply Ext.new | (refine Ext.put ?_ _ (by first | omega | (simp; done) | (simp; omega))))); first | (simp_all; done) | (simp_all; omega))
theorem clockValid_run (hN : cf 43 = cIB fun n => decide (0 ≤ n) && decide (n < 64)) (t n : Int) (hK : ∀ h', Ext h h' → K (.bool (validB t n)) h') : s_clock_Valid cf fuel (.agg [I t, I n]) h K := by
  unfold s_clock_Valid
  (try unfold vMov); repeat' (first | refine Step.imp ?_ | (refine Way.mk (fun hp => ?_) (fun hp => ?_) <;> first | contradiction | (exfalso; omega) | skip) | refine LoadG.mkG ?_ | refine LoadsG.mkG ?_ | refine AtG.mkG ?_ | refine StoreG.mkG ?_ | refine CondG.mkG ?_ | (refine cIB_go hN (fun hp => ?_) (fun hp => ?_)) | fail); (all_goals (try dsimp only))
  all_goals (refine fin hK ?_ (by repeat (first | exact Ext.refl _ | assumption | apply Ext.new | (refine Ext.put ?_ _ (by first | omega | (simp; done) | (simp; omega))))); first | (simp_all [validB]; done) | (simp_all [validB]; omega))
theorem isNaN64_run (n : Int) (hK : ∀ h', Ext h h' → K (.bool false) h') : s_cmp_isNaN_int64 cf fuel (I n) h K := by
  unfold s_cmp_isNaN_int64
  (try unfold vMov); repeat' (first | refine Step.imp ?_ | (refine Way.mk (fun hp => ?_) (fun hp => ?_) <;> first | contradiction | (exfalso; omega) | skip) | refine LoadG.mkG ?_ | refine LoadsG.mkG ?_ | refine AtG.mkG ?_ | refine StoreG.mkG ?_ | refine CondG.mkG ?_ | fail); (all_goals (try dsimp only))
  all_goals first | contradiction | exact hK _ (by repeat (first | exact Ext.refl _ | assumption | apply Ext.new | (refine Ext.put ?_ _ (by first | omega | (simp; done) | (simp; omega)))))
theorem isNaN_run (n : Int) (hK : ∀ h', Ext h h' → K (.bool false) h') : s_cmp_isNaN_int cf fuel (I n) h K := by
  unfold s_cmp_isNaN_int
  (try unfold vMov); repeat' (first | refine Step.imp ?_ | (refine Way.mk (fun hp => ?_) (fun hp => ?_) <;> first | contradiction | (exfalso; omega) | skip) | refine LoadG.mkG ?_ | refine LoadsG.mkG ?_ | refine AtG.mkG ?_ | refine StoreG.mkG ?_ | refine CondG.mkG ?_ | fail); (all_goals (try dsimp only))
  all_goals first | contradiction | exact hK _ (by repeat (first | exact Ext.refl _ | assumption | apply Ext.new | (refine Ext.put ?_ _ (by first | omega | (simp; done) | (simp; omega)))))
theorem clockLess_run (hC : cf 40 = cIdI cmpI) (t n t' n' : Int) (hK : ∀ h', Ext h h' → K (.bool (lessI t n t' n')) h') : s_clock_Less cf fuel (.agg [I t, I n]) (.agg [I t', I n']) h K := by
  unfold s_clock_Less
  (try unfold vMov); repeat' (first | refine Step.imp ?_ | (refine Way.mk (fun hp => ?_) (fun hp => ?_) <;> first | contradiction | (exfalso; omega) | skip) | refine LoadG.mkG ?_ | refine LoadsG.mkG ?_ | refine AtG.mkG ?_ | refine StoreG.mkG ?_ | refine CondG.mkG ?_ | (refine cIdI_go hC ?_) | fail); (all_goals (try dsimp only))
  all_goals (refine fin hK ?_ (by repeat (first | exact Ext.refl _ | assumption | apply Ext.new | (refine Ext.put ?_ _ (by first | omega | (simp; done) | (simp; omega))))); rw [← cmpI_less]; simp_all)
/-! ### may it be a vector? -/
end
def okNum (x : Int) : Bool := decide (0 ≤ x) && decide (x ≤ 1152921504606846976)
theorem okNum_f {x : Int} (h : x < 0 ∨ 1152921504606846976 < x) : okNum x = false := by
  unfold okNum; simp only [Bool.and_eq_false_iff, decide_eq_false_iff_not]; omega
theorem okNum_t {x : Int} (h1 : 0 ≤ x) (h2 : x ≤ 1152921504606846976) : okNum x = true := by
  unfold okNum; simp only [Bool.and_eq_true, decide_eq_true_eq]; exact ⟨h1, h2⟩
/-- How long a vector is without the zeros at its end. -/
def trimN (l : List Int) : Nat → Nat
  | 0 => 0
  | n + 1 => if ix l n = 0 then trimN l n else n + 1
theorem trimN_le (l : List Int) : ∀ n, trimN l n ≤ n
  | 0 => Nat.le_refl _
  | n + 1 => by
    unfold trimN
    split
    · exact Nat.le_succ_of_le (trimN_le l n)
    · exact Nat.le_refl _
def mayV (l : List Int) : Bool := decide (trimN l l.length ≤ 64) && allN (fun i => okNum (ix l i)) 0 (trimN l l.length)
section
variable (cf : CallK) (fuel : Nat) {h : Hp} {K : AV → Hp → Prop}
theorem VecH.len {v : AV} {l : List Int} (hv : VecH h v l) (h' : Hp) : vLenL2 v h' = fun K' => K' (I l.length) h' := by
  funext K'
  rcases hv.cases with ⟨rfl, rfl⟩ | ⟨o, rfl, rfl⟩ | ⟨o, off, kn, c, e, rfl, _⟩ <;> rfl
theorem ByH.len {v : AV} {l : List UInt8} (hv : ByH h v l) (h' : Hp) : vLenL2 v h' = fun K' => K' (I l.length) h' := by
  funext K'
  rcases hv with ⟨rfl, rfl⟩ | ⟨o, rfl, rfl⟩ | ⟨o, off, kn, c, e, n, z, rfl, _⟩ <;> rfl
theorem Rd.len {esz : Nat} {v : AV} {els : List (List AV)} (hv : Rd h esz v els) (h' : Hp) : vLenL2 v h' = fun K' => K' (I els.length) h' := by
  funext K'
  rcases hv with ⟨rfl, rfl⟩ | ⟨_, rfl, rfl⟩ | ⟨o, off, kn, c, e, rfl, _⟩ <;> rfl
/-- A vector cut short. -/
theorem cut_vec {v : AV} {l : List Int} (hv : VecH h v l) (k : Nat) (hk : k ≤ l.length) (hK : ∀ v', VecH h v' (l.take k) → K v' h) : vSlice2 1 v none (some (I k)) h K := by
  rcases hv.casesC with ⟨rfl, rfl⟩ | ⟨o, rfl, rfl⟩ | ⟨o, off, kn, c, e, rfl, hc, h2, h3, h5⟩
  · obtain rfl : k = 0 := by simpa using hk
    exact cut_nil (hK _ (.inl ⟨rfl, rfl⟩))
  · obtain rfl : k = 0 := by simpa using hk
    exact cut_z (hK _ (.inr (.inl ⟨o, rfl, rfl⟩)))
  · have hb := hv.bound
    have hl : ((l.take k).map fun x => [I x]).length = k := by simp; omega
    refine cut_slice hk hc (hK _ (.inr (.inr ⟨o, off, kn, c, e, by rw [hl], h2, h3, ⟨by rw [hl]; omega, fun q => by rw [hl]; have := hc q; omega⟩, fun j hj => ?_⟩)))
    rw [hl] at hj
    have := h5 j (by omega)
    simp only [List.getElem_map, List.getElem_take]
    rw [Nat.mul_one]
    unfold cellsO
    rw [this]
    rfl
end
end Lg

namespace Go.Am
set_option linter.unusedSimpArgs false
set_option linter.unusedVariables false
open Go Go.RowKit

theorem valid_le {r : Int} (h : Utf8.valid r = true) : 0 ≤ r ∧ r ≤ 1114111 := by
  simp only [Utf8.valid, Bool.or_eq_true, Bool.and_eq_true, decide_eq_true_eq] at h
  omega
theorem decode_hi (s : ByteArray) (i : Nat) (hi : i < s.size) (hb : 128 ≤ (s.get! i).toNat) :
    128 ≤ (Utf8.decode s i).1 ∧ (Utf8.decode s i).1 ≤ 1114111 ∧ 1 ≤ (Utf8.decode s i).2 ∧ i + (Utf8.decode s i).2 ≤ s.size ∧ ∀ k, k < (Utf8.decode s i).2 → 128 ≤ (s.get! (i + k)).toNat := by
  have one : ∀ k, k < 1 → 128 ≤ (s.get! (i + k)).toNat := fun k hk => by
    have : k = 0 := by omega
    subst this; exact hb
  have h0 : ¬ (s.get! (i + 0)).toNat < 128 := by simpa using hb
  unfold Utf8.decode
  simp only [h0, if_false]
  split
  · rename_i h1
    simp only [Bool.and_eq_true, decide_eq_true_eq, beq_iff_eq] at h1
    split
    · refine ⟨by omega, by omega, by omega, by omega, fun k hk => ?_⟩
      have : k = 0 ∨ k = 1 := by simp at hk; omega
      rcases this with rfl | rfl
      · exact hb
      · omega
    · exact ⟨by decide, by decide, by decide, by simp; omega, one⟩
  · split
    · rename_i h1
      simp only [Bool.and_eq_true, decide_eq_true_eq, beq_iff_eq] at h1
      split
      · rename_i h2
        simp only [Bool.and_eq_true, decide_eq_true_eq] at h2
        have := valid_le h2.2
        refine ⟨by omega, by omega, by omega, by omega, fun k hk => ?_⟩
        have : k = 0 ∨ k = 1 ∨ k = 2 := by simp at hk; omega
        rcases this with rfl | rfl | rfl
        · exact hb
        · omega
        · omega
      · exact ⟨by decide, by decide, by decide, by simp; omega, one⟩
    · split
      · rename_i h1
        simp only [Bool.and_eq_true, decide_eq_true_eq, beq_iff_eq] at h1
        split
        · rename_i h2
          simp only [Bool.and_eq_true, decide_eq_true_eq] at h2
          have := valid_le h2.2
          refine ⟨by omega, by omega, by omega, by omega, fun k hk => ?_⟩
          have : k = 0 ∨ k = 1 ∨ k = 2 ∨ k = 3 := by simp at hk; omega
          rcases this with rfl | rfl | rfl | rfl
          · exact hb
          · omega
          · omega
          · omega
        · exact ⟨by decide, by decide, by decide, by simp; omega, one⟩
      · exact ⟨by decide, by decide, by decide, by simp; omega, one⟩

theorem enc_byte (n : Nat) (h1 : 128 ≤ n) (h2 : n < 256) : 128 ≤ (UInt8.ofNat n).toNat := by simp [UInt8.toNat_ofNat']; omega
/-- The bytes of a sign that is no ASCII sign. -/
theorem encode_hi (r : Int) (h : 128 ≤ r) (h2 : r ≤ 1114111) : ∃ l : List UInt8, (Utf8.encode r).data.toList = l ∧ 2 ≤ l.length ∧ l.length ≤ 4 ∧ ∀ b ∈ l, 128 ≤ b.toNat := by
  refine ⟨_, rfl, ?_⟩
  unfold Utf8.encode
  have hc : 128 ≤ (if Utf8.valid r = true then r.toNat else Utf8.runeError) ∧ (if Utf8.valid r = true then r.toNat else Utf8.runeError) ≤ 1114111 := by
    split
    · omega
    · decide
  generalize (if Utf8.valid r = true then r.toNat else Utf8.runeError) = c at hc
  simp only []
  rw [if_neg (by omega)]
  split
  · refine ⟨by simp, by simp, fun b hb => ?_⟩
    simp only [List.mem_cons, List.not_mem_nil, or_false] at hb
    rcases hb with rfl | rfl <;> exact enc_byte _ (by omega) (by omega)
  · split
    · refine ⟨by simp, by simp, fun b hb => ?_⟩
      simp only [List.mem_cons, List.not_mem_nil, or_false] at hb
      rcases hb with rfl | rfl | rfl <;> exact enc_byte _ (by omega) (by omega)
    · refine ⟨by simp, by simp, fun b hb => ?_⟩
      simp only [List.mem_cons, List.not_mem_nil, or_false] at hb
      rcases hb with rfl | rfl | rfl | rfl <;> exact enc_byte _ (by omega) (by omega)

/-- A sign at a place: its number, how many bytes. -/
structure Dec (l : List UInt8) (pos c w : Nat) : Prop where
  one : 1 ≤ w
  fits : pos + w ≤ l.length
  low : c < 128 → w = 1 ∧ ∃ h : pos < l.length, (l[pos]'h).toNat = c
  high : 128 ≤ c → ∀ k (h : k < l.length), pos ≤ k → k < pos + w → 128 ≤ (l[k]'h).toNat
  le : c ≤ 1114111
theorem strOf_S (l : List UInt8) : strOf l.length (packL l) = ⟨l.toArray⟩ := by rw [strOf, bytesL_pack]
theorem get_S (l : List UInt8) (k : Nat) (h : k < l.length) : (ByteArray.mk l.toArray).get! k = l[k] := by
  show l.toArray[k]! = _
  simp [h]
theorem vRangeS_S (l : List UInt8) (h : Hp) (K : AV → Hp → Prop) : vRangeS (S l) h K = K (.ptr h.next 0) (h.new ⟨true, 0, .sit l.length (packL l) 0⟩) := by
  show newK h ⟨true, 0, .sit l.length (packL l) 0⟩ (fun o h => K (.ptr o 0) h) = _
  rw [newK_eq']
attribute [simp] vRangeS_S
theorem vNextS_intro {l : List UInt8} {o pos : Nat} {esz : Nat} {h : Hp} {K : AV → Hp → Prop} (he : h.at o = some ⟨true, esz, .sit l.length (packL l) pos⟩)
    (h1 : l.length ≤ pos → K (.tup [.bool false]) h) (h2 : ∀ c w, Dec l pos c w → K (.tup [.bool true, .int .i64 pos, .int .i32 c]) (h.put o (some ⟨true, esz, .sit l.length (packL l) (pos + w)⟩))) : vNextS (.ptr o 0) h K := by
  show gd (Nat.beq 0 0) (asOpt (h.at o) _)
  rw [he]
  show Bool.rec (motive := fun _ => Prop) (K (.tup [.bool false]) h) _ (Nat.blt pos l.length)
  cases hb : Nat.blt pos l.length with
  | false =>
    refine h1 ?_
    have : ¬ pos < l.length := fun q => by rw [show Nat.blt pos l.length = true by simpa using q] at hb; cases hb
    omega
  | true =>
    have hp : pos < l.length := by simpa using hb
    have hbyte := byteAt_S l pos hp
    show forceN (byteAt (packL l) pos) _
    rw [forceN_eq]
    cases hq : Nat.blt (byteAt (packL l) pos) 128 with
    | true =>
      have hlt : byteAt (packL l) pos < 128 := by simpa using hq
      show forceN (Nat.succ pos) (fun p => putK h o (some ⟨true, esz, .sit l.length (packL l) p⟩) fun h => K (.tup [.bool true, .int .i64 (.ofNat pos), .int .i32 (.ofNat (byteAt (packL l) pos))]) h)
      rw [forceN_eq, putK_eq']
      exact h2 (byteAt (packL l) pos) 1 ⟨Nat.le_refl _, hp, fun _ => ⟨rfl, hp, hbyte.symm⟩, fun h => by omega, by omega⟩
    | false =>
      have hge : 128 ≤ (l[pos]'hp).toNat := by
        rw [← hbyte]
        have : ¬ byteAt (packL l) pos < 128 := fun q => by rw [show Nat.blt (byteAt (packL l) pos) 128 = true by simpa using q] at hq; cases hq
        omega
      show forceN (Utf8.decode (strOf l.length (packL l)) pos).1 (fun c => forceN (pos + (Utf8.decode (strOf l.length (packL l)) pos).2) fun p => putK h o (some ⟨true, esz, .sit l.length (packL l) p⟩) fun h => K (.tup [.bool true, .int .i64 (.ofNat pos), .int .i32 (.ofNat c)]) h)
      rw [forceN_eq, forceN_eq, putK_eq', strOf_S]
      have hsz : (ByteArray.mk l.toArray).size = l.length := by simp [ByteArray.size]
      obtain ⟨d1, d2, d3, d4, d5⟩ := decode_hi ⟨l.toArray⟩ pos (by rw [hsz]; exact hp) (by rw [get_S l pos hp]; exact hge)
      rw [hsz] at d4
      refine h2 _ _ ⟨d3, d4, fun h => by omega, fun _ k hk k1 k2 => ?_, d2⟩
      have := d5 (k - pos) (by omega)
      rw [show pos + (k - pos) = k by omega, get_S l k hk] at this
      exact this
theorem vNextS_ascii {l : List UInt8} {o pos : Nat} {esz : Nat} {h : Hp} {K : AV → Hp → Prop} (hall : ∀ b ∈ l, b.toNat < 128) (he : h.at o = some ⟨true, esz, .sit l.length (packL l) pos⟩)
    (h1 : l.length ≤ pos → K (.tup [.bool false]) h) (h2 : ∀ (hp : pos < l.length), K (.tup [.bool true, .int .i64 pos, .int .i32 ((l[pos]'hp).toNat : Int)]) (h.put o (some ⟨true, esz, .sit l.length (packL l) (pos + 1)⟩))) : vNextS (.ptr o 0) h K := by
  refine vNextS_intro he h1 fun c w d => ?_
  by_cases hc : c < 128
  · obtain ⟨rfl, hp, rfl⟩ := d.low hc
    exact h2 hp
  · have hp : pos < l.length := by have := d.one; have := d.fits; omega
    have := d.high (by omega) pos hp (Nat.le_refl _) (by have := d.one; omega)
    have := hall _ (List.getElem_mem hp)
    omega
end Go.Am

namespace Lg
set_option linter.unusedSimpArgs false
set_option linter.unusedVariables false
set_option maxRecDepth 100000
open Go Go.Am
open Go.Proofs.YtnhamanffojhfaaDoor.shl
/-- A name's error. -/
def badB (b : UInt8) : Bool := b == 0 || (b == 1 || b == 47)
def anyBad (l : List UInt8) : Bool := l.any badB
def nameE (l : List UInt8) : Int := if l = [] ∨ l = [46] ∨ l = [46, 46] ∨ anyBad l = true then 22 else if 64 < l.length then 36 else 0
theorem S_dot : AV.str 1 46 = S [46] := rfl
theorem S_dots : AV.str 2 11822 = S [46, 46] := rfl
theorem S_bad : AV.str 3 3080448 = S [0, 1, 47] := rfl
attribute [simp] S_dot S_dots S_bad
def cI1 (f : Int → Bool) : ConD := fun args h K => ∃ n, args = [I n] ∧ K (.bool (f n)) h
@[simp ↓] theorem cI1_eq (f : Int → Bool) (n : Int) (h : Hp) (K : AV → Hp → Prop) : cI1 f [.int .i64 n] h K = K (.bool (f n)) h := propext ⟨fun ⟨_, e, hK⟩ => by simp at e; subst e; exact hK, fun hK => ⟨_, rfl, hK⟩⟩
attribute [simp] cI1_eq
def cBad : ConD := fun args h K => ∃ l, args = [S l, S [0, 1, 47]] ∧ l.length ≤ 140737488355328 ∧ K (.bool (anyBad l)) h
/-- The first place of a byte. -/
def fiN : List UInt8 → Nat → Option Nat
  | [], _ => none
  | x :: l, b => if x.toNat = b then some 0 else (fiN l b).map (· + 1)
def fi (l : List UInt8) (b : Int) : Int := match fiN l b.toNat with | some i => i | none => -1
theorem idxB_S : ∀ (l : List UInt8) (b i : Nat), idxB l.length (packL l) b i = (fiN l b).map (· + i)
  | [], b, i => rfl
  | x :: l, b, i => by
    have h1 : packL (x :: l) % 256 = x.toNat := by simp only [packL]; have := x.toNat_lt; omega
    have h2 : packL (x :: l) / 256 = packL l := by simp only [packL]; have := x.toNat_lt; omega
    show (match Nat.beq (packL (x :: l) % 256) b with | true => some i | false => idxB l.length (packL (x :: l) / 256) b (Nat.succ i)) = _
    rw [h1, h2]
    by_cases hb : x.toNat = b
    · have : Nat.beq x.toNat b = true := by simp [hb]
      rw [this]
      simp [fiN, hb]
    · have : Nat.beq x.toNat b = false := by
        cases q : Nat.beq x.toNat b with
        | false => rfl
        | true => exact absurd (Nat.eq_of_beq_eq_true q) hb
      rw [this]
      simp only [idxB_S l b (Nat.succ i), fiN, hb, if_false]
      cases fiN l b with
      | none => rfl
      | some j => simp; omega
theorem vIdxB_S (l : List UInt8) (b : Int) (h0 : 0 ≤ b) (h1 : b < 256) (h : Hp) (K : AV → Hp → Prop) : vIdxB (S l) (.int .u8 b) h K = K (I (fi l b)) h := by
  obtain ⟨m, rfl⟩ := Int.eq_ofNat_of_zero_le h0
  show gd (Nat.blt m 256) (Option.rec (motive := fun _ => Prop) (K (.int .i64 (.negSucc 0)) h) (fun i => forceN i fun i => K (.int .i64 (.ofNat i)) h) (idxB l.length (packL l) m 0)) = _
  have : Nat.blt m 256 = true := by simp; omega
  rw [this, idxB_S]
  unfold fi
  show Option.rec (motive := fun _ => Prop) (K (.int .i64 (.negSucc 0)) h) (fun i => forceN i fun i => K (.int .i64 (.ofNat i)) h) ((fiN l m).map (· + 0)) = K (I (match fiN l m with | some i => (i : Int) | none => -1)) h
  cases fiN l m with
  | none => rfl
  | some i => simp only [Option.map_some, Nat.add_zero, forceN_eq]; rfl
theorem wrap8_in {n : Int} (h1 : 0 ≤ n) (h2 : n < 256) : IntKind.u8.wrap n = n := by
  have := wrapF_eq .u8 n
  rw [← this]
  cases n with
  | ofNat m =>
    show Bool.rec (motive := fun _ => Int) (IntKind.u8.wrap (.ofNat m)) (.ofNat m) (Nat.ble m 255) = _
    rw [Nat.ble_eq_true_of_le (by simp at h2; omega)]
  | negSucc m => omega
@[simp ↓ high] theorem vToInt_u8 (k : IntKind) (a : Int) (h1 : 0 ≤ a) (h2 : a < 256) (h : Hp) (K : AV → Hp → Prop) : vToInt .u8 (.int k a) h K = K (.int .u8 a) h := by
  rw [vToInt_int, wrap8_in h1 h2]
theorem vRuneS_eq (k : IntKind) (r : Int) (h : Hp) (K : AV → Hp → Prop) : vRuneS (.int k r) h K = K (S (Utf8.encode r).data.toList) h := rfl

def runeIx (r : Int) : Int := if r = 0 then 0 else if r = 1 then 1 else if r = 47 then 2 else -1
def cIdxB : ConD := fun args h K => ∃ l b, args = [S l, .int .u8 b] ∧ 0 ≤ b ∧ b < 256 ∧ K (I (fi l b)) h
theorem cIdxB_eq (l : List UInt8) (b : Int) (h0 : 0 ≤ b) (h1 : b < 256) (h : Hp) (K : AV → Hp → Prop) : cIdxB [S l, .int .u8 b] h K = K (I (fi l b)) h :=
  propext ⟨fun ⟨l', b', e, _, _, hK⟩ => by
    simp only [List.cons.injEq, AV.int.injEq, true_and, and_true] at e
    obtain ⟨e1, e2⟩ := e
    rw [S_inj] at e1
    subst e1 e2
    exact hK, fun hK => ⟨_, _, rfl, h0, h1, hK⟩⟩
def cRune : ConD := fun args h K => ∃ r, args = [S [0, 1, 47], .int .i32 r] ∧ 0 ≤ r ∧ r ≤ 1114111 ∧ K (I (runeIx r)) h

section
variable (cf : CallK) (fuel : Nat) {h : Hp} {K : AV → Hp → Prop}
theorem litIndexByte_run (l : List UInt8) (b : Int) (h0 : 0 ≤ b) (h1 : b < 256) (hK : ∀ h', Ext h h' → K (I (fi l b)) h') : s_int_stringslite_IndexByte cf fuel (S l) (.int .u8 b) h K := by
  unfold s_int_stringslite_IndexByte
  rw [vIdxB_S l b h0 h1]
  exact hK _ (Ext.refl _)
theorem IndexByte_run (hI : cf 69 = cIdxB) (l : List UInt8) (b : Int) (h0 : 0 ≤ b) (h1 : b < 256) (hK : ∀ h', Ext h h' → K (I (fi l b)) h') : s_strings_IndexByte cf fuel (S l) (.int .u8 b) h K := by
  unfold s_strings_IndexByte
  rw [hI, cIdxB_eq l b h0 h1]
  exact hK _ (Ext.refl _)
theorem ValidRune_run (r : Int) (hK : ∀ h', Ext h h' → K (.bool (Utf8.valid r)) h') : s_unicode_utf8_ValidRune cf fuel (.int .i32 r) h K := by
  unfold s_unicode_utf8_ValidRune
  simp
  repeat' (first | (first | refine joinG_split (fun hp => ?_) (fun hp => ?_) | refine joinP_split (fun hp => ?_) (fun hp => ?_) | refine vIf_split (fun hp => ?_) (fun hp => ?_)) <;> (try simp only [decide_eq_true_eq, decide_eq_false_iff_not, Bool.not_eq_true', Bool.not_eq_false', Bool.not_eq_true, Bool.not_eq_false] at hp) <;> try simp (disch := first | omega | (simp; done)) [hp])
  all_goals
    refine fin hK ?_ (Ext.refl _)
    congr 1
    rw [Bool.eq_iff_iff]
    simp only [Utf8.valid, Bool.or_eq_true, Bool.and_eq_true, decide_eq_true_eq, true_iff, Bool.false_eq_true, false_iff]
    omega
def cVR : ConD := fun args h K => ∃ r, args = [.int .i32 r] ∧ K (.bool (Utf8.valid r)) h
@[simp ↓] theorem cVR_eq (r : Int) (h : Hp) (K : AV → Hp → Prop) : cVR [.int .i32 r] h K = K (.bool (Utf8.valid r)) h := propext ⟨fun ⟨_, e, hK⟩ => by simp at e; subst e; exact hK, fun hK => ⟨_, rfl, hK⟩⟩
theorem IndexRuneL2_run {h0 : Hp} (e1 : Hp → Prop) (l : List UInt8) (hall : ∀ b ∈ l, b.toNat < 128) (o : Nat) (ho : h0.next ≤ o) (he1 : ∀ h', Ext h0 h' → e1 h') : ∀ (d pos m : Nat) (h : Hp), pos + d = l.length → d < m → Ext h0 h → h.at o = some ⟨true, 0, .sit l.length (packL l) pos⟩ →
    s_strings_IndexRuneL2 cf fuel K e1 (.ptr o 0) m h
  | d, pos, m, h, hd, hm, hx, hat => by
    obtain ⟨m, rfl⟩ : ∃ k, m = k + 1 := ⟨m - 1, by omega⟩
    rw [s_strings_IndexRuneL2_succ]
    unfold s_strings_IndexRuneL2B
    refine vNextS_ascii hall hat (fun hp => ?_) (fun hp => ?_)
    · simp
      exact he1 _ hx
    · have hb := hall _ (List.getElem_mem hp)
      have hne : ¬ (((l[pos]'hp).toNat : Int) = 65533) := by omega
      simp [hne]
      match d with
      | 0 => omega
      | d + 1 => exact IndexRuneL2_run e1 l hall o ho he1 d (pos + 1) m _ (by omega) (by omega) (hx.put _ ho) (by simp)
theorem lit_ascii : ∀ b ∈ ([0, 1, 47] : List UInt8), b.toNat < 128 := by decide
theorem fi_none (l : List UInt8) (b : Int) (hb : ∀ x ∈ l, (x.toNat : Int) ≠ b) (h0 : 0 ≤ b) : fi l b = -1 := by
  have : fiN l b.toNat = none := by
    induction l with
    | nil => rfl
    | cons x l ih =>
      have hx := hb x (by simp)
      rw [fiN, if_neg (by omega), ih fun y hy => hb y (by simp [hy])]
      rfl
  simp [fi, this]
theorem IndexRune_run (hB : cf 98 = cIdxB) (hV : cf 99 = cVR) (r : Int) (h0 : 0 ≤ r) (h1 : r ≤ 1114111) (hf : 4 < fuel) (hK : ∀ h', Ext h h' → K (I (runeIx r)) h') : s_strings_IndexRune cf fuel (S [0, 1, 47]) (.int .i32 r) h K := by
  unfold s_strings_IndexRune
  by_cases hr : r < 128
  · simp (disch := omega) [h0, hr, hB, cIdxB_eq]
    refine fin hK ?_ (Ext.refl _)
    congr 1
    obtain ⟨m, rfl⟩ := Int.eq_ofNat_of_zero_le h0
    unfold fi runeIx
    simp only [Int.toNat_natCast, fiN]
    by_cases e0 : m = 0
    · subst e0; rfl
    by_cases e1 : m = 1
    · subst e1; rfl
    by_cases e2 : m = 47
    · subst e2; rfl
    · rw [if_neg (show ¬ (0 : UInt8).toNat = m by simp; omega), if_neg (show ¬ (1 : UInt8).toNat = m by simp; omega), if_neg (show ¬ (47 : UInt8).toNat = m by simp; omega)]
      simp
      omega
  have hn : runeIx r = -1 := by unfold runeIx; split <;> (try split) <;> (try split) <;> omega
  rw [hn] at hK
  by_cases hr2 : r = 65533
  · subst hr2
    simp
    refine IndexRuneL2_run cf fuel (h0 := h) _ [0, 1, 47] lit_ascii h.next (Nat.le_refl _) (fun h' hx => ?_) 3 0 fuel _ rfl (by omega) ((Ext.refl _).new _) (by simp)
    exact hK h' hx
  · simp [h0, hr, hr2, hV]
    by_cases hv : Utf8.valid r = true
    · obtain ⟨l, hl, l1, l2, l3⟩ := encode_hi r (by omega) h1
      obtain ⟨m, rfl⟩ : ∃ k, fuel = k + 1 := ⟨fuel - 1, by omega⟩
      have big : ∀ (x : UInt8) (y : Int), x ∈ l → y < 128 → ¬ (y = (x.toNat : Int)) := fun x y hx hy => by
        have := l3 x hx
        omega
      have none : ∀ (x : UInt8) (t : List UInt8), x ∈ l → (∀ y ∈ t, y.toNat < 128) → fi t x.toNat = -1 := fun x t hx ht => fi_none _ _ (fun y hy => by
        have := l3 x hx
        have := ht y hy
        omega) (by omega)
      have small : ∀ x : UInt8, x.toNat < 256 := fun x => x.toNat_lt
      match l, l1, l2 with
      | [a, b], _, _ =>
        have k1 := big b 1 (by simp) (by omega)
        have k2 := none b [47] (by simp) (by decide)
        have k3 := small b
        simp [hv, vRuneS_eq, hl, s_strings_IndexRuneL5_succ]
        unfold s_strings_IndexRuneL5B s_strings_IndexRuneB12
        simp (disch := first | omega | (simp; done)) [hB, k1, cIdxB_eq, k2]
        exact hK _ (Ext.refl _)
      | [a, b, c], _, _ =>
        have k1 := big c 47 (by simp) (by omega)
        have k2 := none c [] (by simp) (by decide)
        have k3 := small c
        simp [hv, vRuneS_eq, hl, s_strings_IndexRuneL5_succ]
        unfold s_strings_IndexRuneL5B s_strings_IndexRuneB12
        simp (disch := first | omega | (simp; done)) [hB, k1, cIdxB_eq, k2]
        exact hK _ (Ext.refl _)
      | [a, b, c, d], _, _ =>
        simp [hv, vRuneS_eq, hl, s_strings_IndexRuneL5_succ]
        unfold s_strings_IndexRuneL5B s_strings_IndexRuneB12
        simp
        unfold s_strings_IndexRuneE4
        exact hK _ (Ext.refl _)
    · simp at hv
      simp [hv]
      exact hK _ (Ext.refl _)
end
/-- The first place of a bad sign. -/
def badIx (l : List UInt8) : Int := match l.findIdx? badB with | some i => i | none => -1
theorem badIx_at {l : List UInt8} {k : Nat} (hk : k < l.length) (h : badB l[k] = true) (hn : ∀ j (hj : j < k), badB (l[j]'(by omega)) = false) : badIx l = k := by
  have : l.findIdx? badB = some k := by
    rw [List.findIdx?_eq_some_iff_getElem]
    exact ⟨hk, h, fun j hj => by rw [hn j hj]; simp⟩
  simp [badIx, this]
theorem badIx_none {l : List UInt8} (hn : ∀ j (hj : j < l.length), badB l[j] = false) : badIx l = -1 := by
  have : l.findIdx? badB = none := by
    rw [List.findIdx?_eq_none_iff]
    intro x hx
    obtain ⟨j, hj, rfl⟩ := List.getElem_of_mem hx
    exact hn j hj
  simp [badIx, this]
theorem badIx_any (l : List UInt8) : decide (0 ≤ badIx l) = anyBad l := by
  rw [anyBad, Bool.eq_iff_iff, decide_eq_true_eq, List.any_eq_true]
  unfold badIx
  cases h : l.findIdx? badB with
  | none =>
    rw [List.findIdx?_eq_none_iff] at h
    simp only
    constructor
    · intro q; omega
    · rintro ⟨x, hx, hb⟩
      have := h x hx
      rw [hb] at this; cases this
  | some i =>
    rw [List.findIdx?_eq_some_iff_getElem] at h
    obtain ⟨hi, hb, _⟩ := h
    simp only
    exact ⟨fun _ => ⟨_, List.getElem_mem hi, hb⟩, fun _ => by omega⟩
theorem badB_iff (b : UInt8) : badB b = true ↔ (b.toNat = 0 ∨ b.toNat = 1 ∨ b.toNat = 47) := by
  simp only [badB, Bool.or_eq_true, beq_iff_eq]
  have e : ∀ n : UInt8, b = n ↔ b.toNat = n.toNat := fun n => ⟨fun h => by rw [h], fun h => UInt8.toNat_inj.1 h⟩
  rw [e, e, e]
  rfl
theorem runeIx_bad (b : UInt8) : decide (0 ≤ runeIx (b.toNat : Int)) = badB b := by
  rw [Bool.eq_iff_iff, decide_eq_true_eq, badB_iff]
  unfold runeIx
  split
  · simp; omega
  · split
    · simp; omega
    · split
      · simp; omega
      · simp; omega
def set3 : List AV := (List.range 256).map fun i => .bool (i == 0 || (i == 1 || i == 47))
theorem set3_get (b : UInt8) : set3[b.toNat]? = some (.bool (badB b)) := by
  have hlt := b.toNat_lt
  simp only [set3, List.getElem?_map]
  rw [List.getElem?_range (by omega)]
  simp only [Option.map_some, Option.some.injEq, AV.bool.injEq]
  rw [Bool.eq_iff_iff, badB_iff]
  simp
theorem set3_len : set3.length = 256 := by simp [set3]
def cSet3 : ConD := toC [S [0, 1, 47]] (.tup [.agg set3, .bool true])
theorem cSet3_eq (h : Hp) (K : AV → Hp → Prop) : cSet3 [S [0, 1, 47]] h K = K (.tup [.agg set3, .bool true]) h := propext ⟨fun ⟨_, hK⟩ => hK, fun hK => ⟨rfl, hK⟩⟩
def cContains : ConD := fun args h K => ∃ (o : Nat) (e : Ent) (f : Nat → Bool) (b : Int), args = [.ptr o 0, .int .u8 b] ∧ h.at o = some e ∧ 0 ≤ b ∧ b < 256 ∧ cellAt e.obj b.toNat = some (.bool (f b.toNat)) ∧ K (.bool (f b.toNat)) h
def cIxAny : ConD := fun args h K => ∃ l, args = [S l, S [0, 1, 47]] ∧ l.length ≤ 140737488355328 ∧ K (I (badIx l)) h

section
variable (cf : CallK) (fuel : Nat) {h : Hp} {K : AV → Hp → Prop}
theorem should_run (n : Int) (hK : ∀ h', Ext h h' → K (.bool (decide (8 < n))) h') : s_strings_shouldUseASCIISet cf fuel (I n) h K := by
  unfold s_strings_shouldUseASCIISet
  simp
  exact hK _ (Ext.refl _)
theorem contains_run (o : Nat) (e : Ent) (f : Nat → Bool) (b : Int) (he : h.at o = some e) (h0 : 0 ≤ b) (h1 : b < 256) (hc : cellAt e.obj b.toNat = some (.bool (f b.toNat))) (hK : ∀ h', Ext h h' → K (.bool (f b.toNat)) h') : s_strings_asciiSet_contains cf fuel (.ptr o 0) (.int .u8 b) h K := by
  unfold s_strings_asciiSet_contains
  simp (disch := omega) [he, hc]
  exact hK _ (Ext.refl _)
theorem IndexAnyL6_run (hC : cf 81 = cContains) (e5 : Hp → Prop) (l : List UInt8) (hl : l.length ≤ 140737488355328) (o : Nat) (ob : AObj) (hat : h.at o = some ⟨true, 256, ob⟩) (hc : Cells ob set3) (hK : K (I (badIx l)) h) (he : badIx l = -1 → e5 h) :
    ∀ (d k m : Nat), k + d = l.length → d < m → (∀ j (hj : j < k) (h2 : j < l.length), badB l[j] = false) → s_strings_IndexAnyL6 cf fuel K e5 (S l) (.ptr o 0) m (I k) h
  | 0, k, m, hd, hm, hn => by
    obtain ⟨m, rfl⟩ : ∃ k, m = k + 1 := ⟨m - 1, by omega⟩
    rw [s_strings_IndexAnyL6_succ]
    unfold s_strings_IndexAnyL6B
    have e : ¬ (k : Int) < l.length := by omega
    simp [e]
    exact he (badIx_none fun j hj => hn j (by omega) hj)
  | d + 1, k, m, hd, hm, hn => by
    obtain ⟨m, rfl⟩ : ∃ k, m = k + 1 := ⟨m - 1, by omega⟩
    rw [s_strings_IndexAnyL6_succ]
    unfold s_strings_IndexAnyL6B
    have hk : k < l.length := by omega
    have e : (k : Int) < l.length := by omega
    have hlt := (l[k]).toNat_lt
    simp (disch := omega) [e, hC]
    refine ⟨o, _, fun j => badB (UInt8.ofNat j), _, rfl, hat, by omega, by omega, ?_, ?_⟩
    · simp only [Int.toNat_natCast, UInt8.ofNat_toNat]
      rw [hc.2.2, set3_get]
    · simp only [Int.toNat_natCast, UInt8.ofNat_toNat]
      refine vIf_split (fun hp => ?_) (fun hp => ?_)
      · rw [badIx_at hk hp fun j hj => hn j hj (by omega)] at hK
        exact hK
      · try simp (disch := omega)
        have := IndexAnyL6_run hC e5 l hl o ob hat hc hK he d (k + 1) m (by omega) (by omega) fun j hj h2 => by
          by_cases q : j = k
          · subst q; exact hp
          · exact hn j (by omega) h2
        simpa using this
theorem IndexAnyL3_run {h0 : Hp} (hR : cf 78 = cRune) (e2 : Hp → Prop) (l : List UInt8) (o : Nat) (ho : h0.next ≤ o) (hK : ∀ h', Ext h0 h' → K (I (badIx l)) h') (he : badIx l = -1 → ∀ h', Ext h0 h' → e2 h') :
    ∀ (d pos m : Nat) (h : Hp), l.length ≤ pos + d → d < m → Ext h0 h → h.at o = some ⟨true, 0, .sit l.length (packL l) pos⟩ → (∀ j (hj : j < pos) (h2 : j < l.length), badB l[j] = false) →
    s_strings_IndexAnyL3 cf fuel K e2 (S [0, 1, 47]) (.ptr o 0) m h
  | d, pos, m, h, hd, hm, hx, hat, hn => by
    obtain ⟨m, rfl⟩ : ∃ k, m = k + 1 := ⟨m - 1, by omega⟩
    rw [s_strings_IndexAnyL3_succ]
    unfold s_strings_IndexAnyL3B
    refine vNextS_intro hat (fun hp => ?_) (fun c w dc => ?_)
    · simp
      exact he (badIx_none fun j hj => hn j (by omega) hj) _ hx
    · have hp : pos < l.length := by have := dc.one; have := dc.fits; omega
      simp [hR]
      refine ⟨c, rfl, by omega, by have := dc.le; omega, ?_⟩
      simp
      have step : (∀ j (hj : j < pos + w) (h2 : j < l.length), badB l[j] = false) → s_strings_IndexAnyL3 cf fuel K e2 (S [0, 1, 47]) (.ptr o 0) m (h.put o (some ⟨true, 0, .sit l.length (packL l) (pos + w)⟩)) := fun hn' => by
        match d with
        | 0 => omega
        | d + 1 => exact IndexAnyL3_run hR e2 l o ho hK he d (pos + w) m _ (by have := dc.one; omega) (by omega) (hx.put _ ho) (by simp) hn'
      by_cases hc : c < 128
      · obtain ⟨rfl, _, hb⟩ := dc.low hc
        subst hb
        refine vIf_split (fun hq => ?_) (fun hq => ?_)
        · rw [runeIx_bad] at hq
          have := badIx_at hp hq fun j hj => hn j hj (by omega)
          have hK2 := hK _ (hx.put (some ⟨true, 0, .sit l.length (packL l) (pos + 1)⟩) ho)
          rw [this] at hK2
          exact hK2
        · rw [runeIx_bad] at hq
          exact step fun j hj h2 => by
            by_cases q : j = pos
            · subst q; exact hq
            · exact hn j (by omega) h2
      · have e : ¬ (0 ≤ runeIx (c : Int)) := by unfold runeIx; split <;> (try split) <;> (try split) <;> omega
        simp [e]
        exact step fun j hj h2 => by
          by_cases q : j < pos
          · exact hn j q h2
          · have := dc.high (by omega) j h2 (by omega) hj
            cases hb : badB l[j] with
            | false => rfl
            | true => rw [badB_iff] at hb; omega
theorem IndexAny_run (hS : cf 79 = cI1 fun n => decide (8 < n)) (hM : cf 80 = cSet3) (hC : cf 81 = cContains) (hR : cf 78 = cRune) (l : List UInt8) (hl : l.length ≤ 140737488355328) (hf : l.length + 1 < fuel)
    (hK : ∀ h', Ext h h' → K (I (badIx l)) h') : s_strings_IndexAny cf fuel (S l) (S [0, 1, 47]) h K := by
  unfold s_strings_IndexAny s_strings_IndexAnyB8
  simp [hS]
  refine vIf_split (fun hp => ?_) (fun hp => ?_)
  · simp only [hM, cSet3_eq]
    simp
    refine rowK_intro _ _ fun ob hc => ?_
    simp only [Hp.at_new, if_true, asOpt_some, set3_len, and_self, ifP_true]
    refine setO_intro set3 0 _ hc (by simp [set3_len]) fun ob2 hc2 => ?_
    rw [setL_zero _ _ (by simp [set3_len])] at hc2
    have hx : Ext h ((h.new ⟨true, 256, ob⟩).put h.next (some ⟨true, 256, ob2⟩)) := ((Ext.refl h).new _).put _ (Nat.le_refl _)
    refine IndexAnyL6_run cf fuel hC _ l hl h.next ob2 (by simp) hc2 (hK _ hx) (fun hb => ?_) l.length 0 fuel (by omega) (by omega) (fun j hj => by omega)
    unfold s_strings_IndexAnyE5
    have := hK _ hx
    rw [hb] at this
    exact this
  · unfold s_strings_IndexAnyJ1
    simp
    refine IndexAnyL3_run cf fuel (h0 := h) hR _ l h.next (Nat.le_refl _) hK (fun hb h' hx => ?_) l.length 0 fuel _ (by omega) (by omega) ((Ext.refl h).new _) (by simp) (fun j hj => by omega)
    unfold s_strings_IndexAnyE2
    have := hK _ hx
    rw [hb] at this
    exact this
theorem ContainsAny_run (hI : cf 57 = cIxAny) (l : List UInt8) (hl : l.length ≤ 140737488355328) (hK : ∀ h', Ext h h' → K (.bool (anyBad l)) h') : s_strings_ContainsAny cf fuel (S l) (S [0, 1, 47]) h K := by
  unfold s_strings_ContainsAny
  rw [hI]
  refine ⟨l, rfl, hl, ?_⟩
  simp
  exact fin hK (by rw [← badIx_any]) (Ext.refl _)
end
end Lg

namespace Lg
set_option linter.unusedSimpArgs false
set_option linter.unusedVariables false
set_option maxRecDepth 100000
open Go Go.Am
open Go.Proofs.YtnhamanffojhfaaDoor.shl
theorem by0 : bytesL 0 0 = [] := rfl
theorem by1 : bytesL 1 46 = [46] := rfl
theorem by2 : bytesL 2 11822 = [46, 46] := rfl
def any1 (l : List UInt8) : Bool := l.any fun b => b == 1
def any0 (l : List UInt8) : Bool := l.any fun b => b == 0 || b == 47
def localE (l : List UInt8) : Int := if l = [] ∨ l = [46] ∨ l = [46, 46] ∨ any0 l = true then 22 else if 64 < l.length then 36 else 0
theorem any_bad (l : List UInt8) : anyBad l = (any1 l || any0 l) := by
  unfold anyBad any1 any0
  induction l with
  | nil => rfl
  | cons x l ih =>
    simp only [List.any_cons, ih, badB]
    cases (x == 0) <;> cases (x == 1) <;> cases (x == 47) <;> cases (l.any fun b => b == 1) <;> cases (l.any fun b => b == 0 || b == 47) <;> rfl
theorem nameE_local (l : List UInt8) : nameE l = if any1 l = true then 22 else localE l := by
  unfold nameE localE
  rw [any_bad]
  cases any1 l <;> cases any0 l <;> simp
theorem any_at {p : UInt8 → Bool} {l : List UInt8} {k : Nat} (hk : k < l.length) (h : p l[k] = true) : l.any p = true := List.any_eq_true.2 ⟨_, List.getElem_mem hk, h⟩
theorem any_none {p : UInt8 → Bool} {l : List UInt8} (h : ∀ j (hj : j < l.length), p l[j] = false) : l.any p = false := by
  rw [List.any_eq_false]
  intro x hx
  obtain ⟨j, hj, rfl⟩ := List.getElem_of_mem hx
  rw [h j hj]; simp
theorem u8_iff (b : UInt8) (n : Nat) (hn : n < 256) : ((b.toNat : Int) = n) ↔ b = UInt8.ofNat n := by
  constructor
  · intro h
    apply UInt8.toNat_inj.1
    simp [UInt8.toNat_ofNat']
    omega
  · intro h
    subst h
    simp [UInt8.toNat_ofNat']
    omega
def cS (f : List UInt8 → Int) : ConD := fun args h K => ∃ l, args = [S l] ∧ l.length ≤ 140737488355328 ∧ K (I (f l)) h
theorem cS_go {cf : CallK} {g : FuncId} {f : List UInt8 → Int} (hg : cf g = cS f) {l : List UInt8} {h : Hp} {K : AV → Hp → Prop} (hl : l.length ≤ 140737488355328) (hK : K (I (f l)) h) : cf g [S l] h K := by rw [hg]; exact ⟨l, rfl, hl, hK⟩
theorem len_by {h h' : Hp} {v : AV} {l : List UInt8} {K : AV → Hp → Prop} (hv : ByH h v l) (q : K (.int .i64 l.length) h') : vLenL2 v h' K := by
  rcases hv with ⟨rfl, rfl⟩ | ⟨o, rfl, rfl⟩ | ⟨o, off, kn, c, e, n, z, rfl, _⟩ <;> exact q
theorem cBad_go {cf : CallK} {g : FuncId} (hg : cf g = cBad) {l : List UInt8} {h : Hp} {K : AV → Hp → Prop} (hl : l.length ≤ 140737488355328) (h1 : anyBad l = true → K (.bool true) h) (h2 : anyBad l = false → K (.bool false) h) : cf g [S l, .str 3 3080448] h K := by
  rw [hg]; exact ⟨l, rfl, hl, two_ways (F := fun b => K (.bool b) h) h1 h2⟩

section
variable (cf : CallK) (fuel : Nat) {h : Hp} {K : AV → Hp → Prop}
theorem opsName_run (hC : cf 44 = cBad) (l : List UInt8) (hl : l.length ≤ 140737488355328) (hK : ∀ h', Ext h h' → K (I (nameE l)) h') : s_ops_Name cf fuel (S l) h K := by
  unfold s_ops_Name
  dsimp only
  (try unfold vMov); repeat' (first | refine Step.imp ?_ | (refine Way.mk (fun hp => ?_) (fun hp => ?_) <;> first | contradiction | (exfalso; omega) | skip) | refine LoadG.mkG ?_ | refine LoadsG.mkG ?_ | refine AtG.mkG ?_ | refine StoreG.mkG ?_ | refine CondG.mkG ?_ | (refine cBad_go hC hl (fun hp => ?_) (fun hp => ?_)) | fail); (all_goals (try dsimp only))
  all_goals
    refine fin hK ?_ (Ext.refl _)
    simp only [by0, by1, by2] at *
    first
      | (simp_all [nameE]; done)
      | (unfold nameE; simp_all; omega)
theorem LocalL1_run (e0 : Hp → Prop) (l : List UInt8) (hl : l.length ≤ 140737488355328) (hb : any0 l = true → K (I 22) h) (he : any0 l = false → e0 h) :
    ∀ (d k m : Nat), k + d = l.length → d < m → (∀ j (hj : j < k) (h2 : j < l.length), (l[j] == 0 || l[j] == 47) = false) → s_lagoonref12_LocalL1 cf fuel K e0 (S l) m (I k) h
  | 0, k, m, hd, hm, hn => by
    obtain ⟨m, rfl⟩ : ∃ k, m = k + 1 := ⟨m - 1, by omega⟩
    rw [s_lagoonref12_LocalL1_succ]
    unfold s_lagoonref12_LocalL1B
    dsimp only
    (try unfold vMov); repeat' (first | refine Step.imp ?_ | (refine Way.mk (fun hp => ?_) (fun hp => ?_) <;> first | contradiction | (exfalso; omega) | skip) | refine LoadG.mkG ?_ | refine LoadsG.mkG ?_ | refine AtG.mkG ?_ | refine StoreG.mkG ?_ | refine CondG.mkG ?_ | fail); (all_goals (try dsimp only))
    exact he (any_none fun j hj => hn j (by omega) hj)
  | d + 1, k, m, hd, hm, hn => by
    obtain ⟨m, rfl⟩ : ∃ k, m = k + 1 := ⟨m - 1, by omega⟩
    rw [s_lagoonref12_LocalL1_succ]
    unfold s_lagoonref12_LocalL1B
    have hk : k < l.length := by omega
    have ih := LocalL1_run e0 l hl hb he d (k + 1) m (by omega) (by omega)
    have e1 : ((k : Int) + 1) = ((k + 1 : Nat) : Int) := by omega
    have i0 := u8_iff l[k] 0 (by omega)
    have i1 := u8_iff l[k] 47 (by omega)
    dsimp only
    (try unfold vMov); repeat' (first | refine Step.imp ?_ | (refine Way.mk (fun hp => ?_) (fun hp => ?_) <;> first | contradiction | (exfalso; omega) | skip) | refine LoadG.mkG ?_ | refine LoadsG.mkG ?_ | refine AtG.mkG ?_ | refine StoreG.mkG ?_ | refine CondG.mkG ?_ | (refine ⟨by omega, by omega, ?_⟩) | fail); (all_goals (try dsimp only))
    · have q : l[k] = 0 := i0.1 (by simpa using hp)
      exact hb (any_at hk (by rw [q]; rfl))
    · have q : l[k] = 47 := i1.1 (by simpa using hp)
      exact hb (any_at hk (by rw [q]; rfl))
    · rename_i hp0
      rw [e1]
      refine ih fun j hj h2 => ?_
      by_cases q : j = k
      · subst q
        have n0 : ¬ l[j] = 0 := fun q => hp0 (by simpa using i0.2 q)
        have n1 : ¬ l[j] = 47 := fun q => hp (by simpa using i1.2 q)
        simp [n0, n1]
      · exact hn j (by omega) h2
theorem NameL1_run (e0 : Hp → Prop) (l : List UInt8) (hl : l.length ≤ 140737488355328) (hb : any1 l = true → K (I 22) h) (he : any1 l = false → e0 h) :
    ∀ (d k m : Nat), k + d = l.length → d < m → (∀ j (hj : j < k) (h2 : j < l.length), (l[j] == 1) = false) → s_lagoonref12_NameL1 cf fuel K e0 (S l) m (I k) h
  | 0, k, m, hd, hm, hn => by
    obtain ⟨m, rfl⟩ : ∃ k, m = k + 1 := ⟨m - 1, by omega⟩
    rw [s_lagoonref12_NameL1_succ]
    unfold s_lagoonref12_NameL1B
    dsimp only
    (try unfold vMov); repeat' (first | refine Step.imp ?_ | (refine Way.mk (fun hp => ?_) (fun hp => ?_) <;> first | contradiction | (exfalso; omega) | skip) | refine LoadG.mkG ?_ | refine LoadsG.mkG ?_ | refine AtG.mkG ?_ | refine StoreG.mkG ?_ | refine CondG.mkG ?_ | fail); (all_goals (try dsimp only))
    exact he (any_none fun j hj => hn j (by omega) hj)
  | d + 1, k, m, hd, hm, hn => by
    obtain ⟨m, rfl⟩ : ∃ k, m = k + 1 := ⟨m - 1, by omega⟩
    rw [s_lagoonref12_NameL1_succ]
    unfold s_lagoonref12_NameL1B
    have hk : k < l.length := by omega
    have ih := NameL1_run e0 l hl hb he d (k + 1) m (by omega) (by omega)
    have e1 : ((k : Int) + 1) = ((k + 1 : Nat) : Int) := by omega
    have i0 := u8_iff l[k] 1 (by omega)
    dsimp only
    (try unfold vMov); repeat' (first | refine Step.imp ?_ | (refine Way.mk (fun hp => ?_) (fun hp => ?_) <;> first | contradiction | (exfalso; omega) | skip) | refine LoadG.mkG ?_ | refine LoadsG.mkG ?_ | refine AtG.mkG ?_ | refine StoreG.mkG ?_ | refine CondG.mkG ?_ | (refine ⟨by omega, by omega, ?_⟩) | fail); (all_goals (try dsimp only))
    · have q : l[k] = 1 := i0.1 (by simpa using hp)
      exact hb (any_at hk (by rw [q]; rfl))
    · rw [e1]
      refine ih fun j hj h2 => ?_
      by_cases q : j = k
      · subst q
        have n0 : ¬ l[j] = 1 := fun q => hp (by simpa using i0.2 q)
        simp [n0]
      · exact hn j (by omega) h2
theorem Local_run (l : List UInt8) (hl : l.length ≤ 140737488355328) (hf : l.length + 1 < fuel) (hK : ∀ h', Ext h h' → K (I (localE l)) h') : s_lagoonref12_Local cf fuel (S l) h K := by
  unfold s_lagoonref12_Local
  have key : ¬ l = [] → ¬ l = [46] → ¬ l = [46, 46] → s_lagoonref12_LocalL1 cf fuel K (s_lagoonref12_LocalE0 cf fuel K (S l)) (S l) fuel (I 0) h := fun a1 a2 a3 => by
    refine LocalL1_run cf fuel _ l hl (fun hb => fin hK (by simp [localE, hb]) (Ext.refl _)) (fun hb => ?_) l.length 0 fuel (by omega) (by omega) (fun j hj => by omega)
    unfold s_lagoonref12_LocalE0
    (try unfold vMov); repeat' (first | refine Step.imp ?_ | (refine Way.mk (fun hp => ?_) (fun hp => ?_) <;> first | contradiction | (exfalso; omega) | skip) | refine LoadG.mkG ?_ | refine LoadsG.mkG ?_ | refine AtG.mkG ?_ | refine StoreG.mkG ?_ | refine CondG.mkG ?_ | fail); (all_goals (try dsimp only))
    · exact fin hK (by unfold localE; rw [if_neg (by simp [a1, a2, a3, hb]), if_pos (by omega)]) (Ext.refl _)
    · exact fin hK (by unfold localE; rw [if_neg (by simp [a1, a2, a3, hb]), if_neg (by omega)]) (Ext.refl _)
  dsimp only
  (try unfold vMov); repeat' (first | refine Step.imp ?_ | (refine Way.mk (fun hp => ?_) (fun hp => ?_) <;> first | contradiction | (exfalso; omega) | skip) | refine LoadG.mkG ?_ | refine LoadsG.mkG ?_ | refine AtG.mkG ?_ | refine StoreG.mkG ?_ | refine CondG.mkG ?_ | fail); (all_goals (try dsimp only))
  all_goals simp only [by0, by1, by2] at *
  all_goals first
    | exact key (by assumption) (by assumption) (by assumption)
    | exact fin hK (by simp_all [localE]) (Ext.refl _)
theorem refName_run (hL : cf 27 = cS localE) (l : List UInt8) (hl : l.length ≤ 140737488355328) (hf : l.length + 1 < fuel) (hK : ∀ h', Ext h h' → K (I (nameE l)) h') : s_lagoonref12_Name cf fuel (S l) h K := by
  unfold s_lagoonref12_Name
  dsimp only
  refine NameL1_run cf fuel _ l hl (fun hb => fin hK (by rw [nameE_local, hb]; rfl) (Ext.refl _)) (fun hb => ?_) l.length 0 fuel (by omega) (by omega) (fun j hj => by omega)
  unfold s_lagoonref12_NameE0
  refine cS_go hL hl ?_
  exact fin hK (by rw [nameE_local, hb]; rfl) (Ext.refl _)
end

/-- May an operation be? -/
def kindOK (o : FOp) : Bool :=
  if o.kind = 1 ∨ o.kind = 2 then sameI o.ot o.on o.t o.n && ((rootB o.pt o.pn || olderB o.pt o.pn o.t o.n) && (decide (nameE o.name = 0) && decide (o.data.length = 0)))
  else if o.kind = 3 then olderB o.ot o.on o.t o.n && ((rootB o.pt o.pn || (trashB o.pt o.pn || olderB o.pt o.pn o.t o.n)) && (decide (nameE o.name = 0) && decide (o.data.length = 0)))
  else if o.kind = 4 then olderB o.ot o.on o.t o.n && (rootB o.pt o.pn && (decide (o.name = []) && decide (o.data.length ≤ 65536)))
  else false
def seenO (o : FOp) : Bool := mayV o.seen && decide (vat o.seen o.n = o.seq - 1)
def mayO (o : FOp) : Bool := validB o.t o.n && (decide (1 ≤ o.seq) && (decide (o.seq ≤ 1152921504606846976) && (seenO o && kindOK o)))
theorem mayO_f (o : FOp) (h : validB o.t o.n = false ∨ o.seq < 1 ∨ 1152921504606846976 < o.seq ∨ seenO o = false ∨ kindOK o = false) : mayO o = false := by
  unfold mayO
  simp only [Bool.and_eq_false_iff, decide_eq_false_iff_not]
  rcases h with h | h | h | h | h
  · exact .inl h
  · exact .inr (.inl (by omega))
  · exact .inr (.inr (.inl (by omega)))
  · exact .inr (.inr (.inr (.inl h)))
  · exact .inr (.inr (.inr (.inr h)))
theorem mayO_k (o : FOp) (h1 : validB o.t o.n = true) (h2 : ¬ o.seq < 1) (h3 : ¬ 1152921504606846976 < o.seq) (h4 : seenO o = true) : mayO o = kindOK o := by
  unfold mayO
  rw [h1, h4, decide_eq_true (by omega), decide_eq_true (by omega)]
  simp
theorem seenO_f1 (o : FOp) (h : mayV o.seen = false) : seenO o = false := by unfold seenO; rw [h]; rfl
theorem seenO_f2 (o : FOp) (h : ¬ vat o.seen o.n = o.seq - 1) : seenO o = false := by unfold seenO; rw [decide_eq_false h]; simp
theorem seenO_t (o : FOp) (h1 : mayV o.seen = true) (h : vat o.seen o.n = o.seq - 1) : seenO o = true := by unfold seenO; rw [decide_eq_true h, h1]; rfl
theorem opFlat (o : FOp) (vd vs : AV) : opCells o vd vs = [I o.t, I o.n, I o.seq, I o.kind, I o.ot, I o.on, I o.pt, I o.pn, S o.name, vd, vs] := rfl
def cOpB (f : FOp → Bool) : ConD := fun args h K => ∃ cs o, args = [.agg cs] ∧ OpH h cs o ∧ K (.bool (f o)) h
def cSeen : ConD := fun args h K => ∃ cs o, args = [.agg cs] ∧ OpH h cs o ∧ (1 ≤ o.seq ∧ o.seq ≤ 1152921504606846976) ∧ K (.bool (seenO o)) h
def cEarlier : ConD := fun args h K => ∃ t n cs o, args = [.agg [I t, I n], .agg cs] ∧ OpH h cs o ∧ K (.bool (olderB t n o.t o.n)) h
section
variable {cf : CallK} {g : FuncId} {h : Hp} {K : AV → Hp → Prop}
theorem cOpB_go {f : FOp → Bool} (hg : cf g = cOpB f) {cs : List AV} {o : FOp} (ho : OpH h cs o) (h1 : f o = true → K (.bool true) h) (h2 : f o = false → K (.bool false) h) : cf g [.agg cs] h K := by
  rw [hg]; exact ⟨cs, o, rfl, ho, two_ways (F := fun b => K (.bool b) h) h1 h2⟩
theorem cSeen_go (hg : cf g = cSeen) {cs : List AV} {o : FOp} (ho : OpH h cs o) (hs : 1 ≤ o.seq ∧ o.seq ≤ 1152921504606846976) (h1 : seenO o = true → K (.bool true) h) (h2 : seenO o = false → K (.bool false) h) : cf g [.agg cs] h K := by
  rw [hg]; exact ⟨cs, o, rfl, ho, hs, two_ways (F := fun b => K (.bool b) h) h1 h2⟩
theorem cEarlier_go (hg : cf g = cEarlier) {t n : Int} {cs : List AV} {o : FOp} (ho : OpH h cs o) (h1 : olderB t n o.t o.n = true → K (.bool true) h) (h2 : olderB t n o.t o.n = false → K (.bool false) h) : cf g [.agg [I t, I n], .agg cs] h K := by
  rw [hg]; exact ⟨t, n, cs, o, rfl, ho, two_ways (F := fun b => K (.bool b) h) h1 h2⟩
end

section
variable (cf : CallK) (fuel : Nat) {h : Hp} {K : AV → Hp → Prop}
/-! ### the document's -/
/-! ### the program's -/
theorem allN_take (l : List Int) (N : Nat) (p : Int → Bool) : ∀ (d k : Nat), k + d ≤ N → allN (fun i => p (ix (l.take N) i)) k d = allN (fun i => p (ix l i)) k d
  | 0, k, _ => rfl
  | d + 1, k, hk => by
    have : ix (l.take N) k = ix l k := by
      unfold ix
      rw [List.getD_eq_getElem?_getD, List.getD_eq_getElem?_getD, List.getElem?_take, if_pos (by omega)]
    show (p (ix (l.take N) k) && _) = (p (ix l k) && _)
    rw [this, allN_take l N p d (k + 1) (by omega)]
end
end Lg

namespace Lg
set_option linter.unusedSimpArgs false
set_option linter.unusedVariables false
set_option maxRecDepth 100000
open Go Go.Am Go.Lib
open Go.Proofs.YtnhamanffojhfaaDoor.shl
theorem S_1 : AV.str 1 1 = S [1] := rfl
theorem S_46 : AV.str 1 46 = S [46] := rfl
theorem S_45 : AV.str 1 45 = S [45] := rfl
theorem S_nil : AV.str 0 0 = S [] := rfl
theorem fiN_lt : ∀ (l : List UInt8) (b i : Nat), fiN l b = some i → i < l.length
  | [], b, i, h => by cases h
  | x :: l, b, i, h => by
    unfold fiN at h
    split at h
    · cases h; simp
    · cases hq : fiN l b with
      | none => rw [hq] at h; simp at h
      | some j =>
        rw [hq] at h
        simp at h
        have := fiN_lt l b j hq
        simp
        omega
theorem fi_some {l : List UInt8} {b i : Nat} (h : fiN l b = some i) : fi l (b : Int) = (i : Int) := by unfold fi; simp [h]
theorem fi_no {l : List UInt8} {b : Nat} (h : fiN l b = none) : fi l (b : Int) = -1 := by unfold fi; simp [h]
def cutP (l : List UInt8) (b : Nat) : List UInt8 × List UInt8 × Bool := match fiN l b with
  | some i => (l.take i, l.drop (i + 1), true)
  | none => (l, [], false)
def sufB (t n : Int) : List UInt8 := (([1] ++ itoa t) ++ [46]) ++ itoa n
def splitF (l : List UInt8) : List UInt8 × Int × Int × Bool := match numF (cutP (cutP l 1).2.1 46).1, numF (cutP (cutP l 1).2.1 46).2.1 with
  | some t, some n => if validB t n = true ∧ nameE (cutP l 1).1 = 0 ∧ (cutP l 1).1 ++ sufB t n = l then ((cutP l 1).1, t, n, true) else (l, 0, 0, false)
  | _, _ => (l, 0, 0, false)
theorem cutP_len (l : List UInt8) (b : Nat) : (cutP l b).1.length ≤ l.length ∧ (cutP l b).2.1.length ≤ l.length := by
  unfold cutP
  cases fiN l b with
  | none => simp
  | some i => simp; omega
section
variable (cf : CallK) (fuel : Nat) {h : Hp} {K : AV → Hp → Prop}
def cIdx1 : ConD := fun args h K => ∃ l, ∃ b : UInt8, args = [S l, S [b]] ∧ K (I (fi l (b.toNat : Int))) h
theorem cIdx1_go {cf : CallK} {g : FuncId} (hg : cf g = cIdx1) {l : List UInt8} {b : UInt8} (hK : K (I (fi l (b.toNat : Int))) h) : cf g [S l, S [b]] h K := by rw [hg]; exact ⟨l, b, rfl, hK⟩
theorem cIdxB_go {cf : CallK} {g : FuncId} (hg : cf g = cIdxB) {l : List UInt8} {b : Int} (h0 : 0 ≤ b) (h1 : b < 256) (hK : K (I (fi l b)) h) : cf g [S l, .int .u8 b] h K := by rw [hg]; exact ⟨l, b, rfl, h0, h1, hK⟩
theorem idxS1 (b : UInt8) {h : Hp} {K : AV → Hp → Prop} (q : K (.int .u8 (b.toNat : Int)) h) : vIdxS (S [b]) (I 0) h K := by
  rw [vIdxS_S [b] .i64 0 (by omega) (by simp)]
  exact q
theorem Index1_run (hB : cf 69 = cIdxB) (l : List UInt8) (b : UInt8) (hK : K (I (fi l (b.toNat : Int))) h) : s_int_stringslite_Index cf fuel (S l) (S [b]) h K := by
  unfold s_int_stringslite_Index
  have hlen : ∀ h', vLenS (S [b]) h' = fun K' : AV → Hp → Prop => K' (I 1) h' := fun h' => rfl
  rw [hlen]
  have hb := b.toNat_lt
  by_cases he : [b] = l
  · subst he
    have e0 : fi [b] (b.toNat : Int) = 0 := by unfold fi; simp [fiN]
    rw [e0] at hK
    (try unfold vMov); repeat' (first | refine Step.imp ?_ | (refine Way.mk (fun hp => ?_) (fun hp => ?_) <;> first | contradiction | (exfalso; omega) | skip) | refine LoadG.mkG ?_ | refine LoadsG.mkG ?_ | refine AtG.mkG ?_ | refine StoreG.mkG ?_ | refine CondG.mkG ?_ | fail); (all_goals (try dsimp only))
    exact hK
  · (try unfold vMov); repeat' (first | refine Step.imp ?_ | (refine Way.mk (fun hp => ?_) (fun hp => ?_) <;> first | contradiction | (exfalso; omega) | skip) | refine LoadG.mkG ?_ | refine LoadsG.mkG ?_ | refine AtG.mkG ?_ | refine StoreG.mkG ?_ | refine CondG.mkG ?_ | fail); (all_goals (try dsimp only))
    unfold s_int_stringslite_IndexB4
    (try unfold vMov); repeat' (first | refine Step.imp ?_ | (refine Way.mk (fun hp => ?_) (fun hp => ?_) <;> first | contradiction | (exfalso; omega) | skip) | refine LoadG.mkG ?_ | refine LoadsG.mkG ?_ | refine AtG.mkG ?_ | refine StoreG.mkG ?_ | refine CondG.mkG ?_ | fail); (all_goals (try dsimp only))
    refine ⟨by omega, by simp, ?_⟩
    have hbi : ((([b][Int.toNat 0]'(by simp)).toNat : Nat) : Int) = (b.toNat : Int) := rfl
    rw [hbi]
    refine cIdxB_go hB (by omega) (by omega) ?_
    exact hK
def cCut : ConD := fun args h K => ∃ l, ∃ b : UInt8, args = [S l, S [b]] ∧ l.length ≤ 140737488355328 ∧ K (.tup [S (cutP l b.toNat).1, S (cutP l b.toNat).2.1, .bool (cutP l b.toNat).2.2]) h
theorem cCut_go {cf : CallK} {g : FuncId} (hg : cf g = cCut) {l : List UInt8} {b : UInt8} (hl : l.length ≤ 140737488355328) (hK : K (.tup [S (cutP l b.toNat).1, S (cutP l b.toNat).2.1, .bool (cutP l b.toNat).2.2]) h) : cf g [S l, S [b]] h K := by rw [hg]; exact ⟨l, b, rfl, hl, hK⟩
theorem liteCut_run (hI : cf 54 = cIdx1) (l : List UInt8) (b : UInt8) (hl : l.length ≤ 140737488355328) (hK : K (.tup [S (cutP l b.toNat).1, S (cutP l b.toNat).2.1, .bool (cutP l b.toNat).2.2]) h) : s_int_stringslite_Cut cf fuel (S l) (S [b]) h K := by
  unfold s_int_stringslite_Cut
  have hlen : ∀ h', vLenS (S [b]) h' = fun K' : AV → Hp → Prop => K' (I 1) h' := fun h' => rfl
  refine cIdx1_go hI ?_
  unfold cutP at hK
  cases hf : fiN l b.toNat with
  | none =>
    rw [hf] at hK
    rw [fi_no hf]
    (try unfold vMov); repeat' (first | refine Step.imp ?_ | (refine Way.mk (fun hp => ?_) (fun hp => ?_) <;> first | contradiction | (exfalso; omega) | skip) | refine LoadG.mkG ?_ | refine LoadsG.mkG ?_ | refine AtG.mkG ?_ | refine StoreG.mkG ?_ | refine CondG.mkG ?_ | fail); (all_goals (try dsimp only))
    exact hK
  | some i =>
    rw [hf] at hK
    rw [fi_some hf]
    have hi := fiN_lt l _ i hf
    (try unfold vMov); repeat' (first | refine Step.imp ?_ | (refine Way.mk (fun hp => ?_) (fun hp => ?_) <;> first | contradiction | (exfalso; omega) | skip) | refine LoadG.mkG ?_ | refine LoadsG.mkG ?_ | refine AtG.mkG ?_ | refine StoreG.mkG ?_ | refine CondG.mkG ?_ | ((rw [hlen])) | fail); (all_goals (try dsimp only))
    exact hK
theorem Cut_run (hC : cf 41 = cCut) (l : List UInt8) (b : UInt8) (hl : l.length ≤ 140737488355328) (hK : K (.tup [S (cutP l b.toNat).1, S (cutP l b.toNat).2.1, .bool (cutP l b.toNat).2.2]) h) : s_strings_Cut cf fuel (S l) (S [b]) h K := by
  unfold s_strings_Cut
  refine cCut_go hC hl ?_
  (try unfold vMov); repeat' (first | refine Step.imp ?_ | (refine Way.mk (fun hp => ?_) (fun hp => ?_) <;> first | contradiction | (exfalso; omega) | skip) | refine LoadG.mkG ?_ | refine LoadsG.mkG ?_ | refine AtG.mkG ?_ | refine StoreG.mkG ?_ | refine CondG.mkG ?_ | fail); (all_goals (try dsimp only))
  exact hK
theorem cFmt_go {cf : CallK} {g : FuncId} (hg : cf g = cFmt) {n : Int} (hn : InI n) (hK : K (S (itoa n)) h) : cf g [I n, I 10] h K := by rw [hg]; exact ⟨n, rfl, hn, hK⟩
theorem cItoa_go {cf : CallK} {g : FuncId} (hg : cf g = cItoa) {n : Int} (hn : InI n) (hK : K (S (itoa n)) h) : cf g [I n] h K := by rw [hg]; exact ⟨n, rfl, hn, hK⟩
theorem cParse_go {cf : CallK} {g : FuncId} (hg : cf g = cParse) {s : List UInt8} (hs : s.length ≤ 140737488355328) (h1 : ∀ v, parseIntB 64 s = .ok v → K (.tup [I v, .niliface]) h) (h2 : (∀ v, parseIntB 64 s ≠ .ok v) → ∀ v, InI v → K (.tup [I v, .iface 90 (.ptr h.next 0)]) (Hp.skip h)) : cf g [S s, I 10, I 64] h K := by rw [hg]; exact ⟨s, rfl, hs, h1, h2⟩
def cSuf : ConD := fun args h K => ∃ t n, args = [.agg [I t, I n]] ∧ (InI t ∧ InI n) ∧ ∀ h', Ext h h' → K (S (sufB t n)) h'
theorem cSuf_go {cf : CallK} {g : FuncId} (hg : cf g = cSuf) {t n : Int} (hb : InI t ∧ InI n) (hK : ∀ h', Ext h h' → K (S (sufB t n)) h') : cf g [.agg [I t, I n]] h K := by rw [hg]; exact ⟨t, n, rfl, hb, hK⟩
theorem Suffix_run (hF : cf 33 = cFmt) (hI : cf 34 = cItoa) {t n : Int} (hb : InI t ∧ InI n) (hK : ∀ h', Ext h h' → K (S (sufB t n)) h') : s_clash_Suffix cf fuel (.agg [I t, I n]) h K := by
  unfold s_clash_Suffix
  rw [S_1, S_46]
  have l1 := itoa_length_le t hb.1.1 hb.1.2
  have l2 := itoa_length_le n hb.2.1 hb.2.2
  (try unfold vMov); repeat' (first | refine Step.imp ?_ | (refine Way.mk (fun hp => ?_) (fun hp => ?_) <;> first | contradiction | (exfalso; omega) | skip) | refine LoadG.mkG ?_ | refine LoadsG.mkG ?_ | refine AtG.mkG ?_ | refine StoreG.mkG ?_ | refine CondG.mkG ?_ | (refine cFmt_go hF hb.1 ?_) | (refine cItoa_go hI hb.2 ?_) | (refine CondG.mk (by simp only [List.length_append, List.length_singleton]; omega) ?_) | fail); (all_goals (try dsimp only))
  exact hK _ (by repeat (first | exact Ext.refl _ | assumption | apply Ext.new | (refine Ext.put ?_ _ (by first | omega | (simp; done) | (simp; omega)))))
def cNum : ConD := fun args h K => ∃ l, args = [S l] ∧ l.length ≤ 140737488355328 ∧ (∀ v, numF l = some v → InI v → ∀ h', Ext h h' → K (.tup [I v, .bool true]) h') ∧ (numF l = none → ∀ v, InI v → ∀ h', Ext h h' → K (.tup [I v, .bool false]) h')
theorem cNum_go {cf : CallK} {g : FuncId} (hg : cf g = cNum) {l : List UInt8} (hl : l.length ≤ 140737488355328) (h1 : ∀ v, numF l = some v → InI v → ∀ h', Ext h h' → K (.tup [I v, .bool true]) h') (h2 : numF l = none → ∀ v, InI v → ∀ h', Ext h h' → K (.tup [I v, .bool false]) h') : cf g [S l] h K := by rw [hg]; exact ⟨l, rfl, hl, h1, h2⟩
theorem eqNilIf {P : Program} {h : Hp} {K : AV → Hp → Prop} (q : K (.bool true) h) : vEq false (eqIf P true) .niliface .niliface h K := q
theorem eqSomeIf {P : Program} {t : TypeId} {x : AV} {h : Hp} {K : AV → Hp → Prop} (q : K (.bool false) h) : vEq false (eqIf P true) (.iface t x) .niliface h K := q
theorem number_run (hP : cf 42 = cParse) (hF : cf 33 = cFmt) {l : List UInt8} (hl : l.length ≤ 140737488355328) (h1 : ∀ v, numF l = some v → InI v → ∀ h', Ext h h' → K (.tup [I v, .bool true]) h') (h2 : numF l = none → ∀ v, InI v → ∀ h', Ext h h' → K (.tup [I v, .bool false]) h') : s_clash_number cf fuel (S l) h K := by
  unfold s_clash_number
  refine cParse_go hP hl (fun v hv => ?_) (fun hn v hv => ?_)
  · have hb := parseIntB_bounds hv
    have hb2 : InI v := ⟨by omega, by omega⟩
    by_cases he : itoa v = l
    · have hF1 : numF l = some v := (numF_iff l v).2 ⟨he, hb2.1, hb2.2⟩
      (try unfold vMov); repeat' (first | refine Step.imp ?_ | (refine Way.mk (fun hp => ?_) (fun hp => ?_) <;> first | contradiction | (exfalso; omega) | skip) | refine LoadG.mkG ?_ | refine LoadsG.mkG ?_ | refine AtG.mkG ?_ | refine StoreG.mkG ?_ | refine CondG.mkG ?_ | (refine eqNilIf ?_) | (refine cFmt_go hF hb2 ?_) | fail); (all_goals (try dsimp only))
      exact h1 v hF1 hb2 _ (Ext.refl h)
    · have hF1 : numF l = none := by
        unfold numF
        rw [hv]
        simp [he]
      (try unfold vMov); repeat' (first | refine Step.imp ?_ | (refine Way.mk (fun hp => ?_) (fun hp => ?_) <;> first | contradiction | (exfalso; omega) | skip) | refine LoadG.mkG ?_ | refine LoadsG.mkG ?_ | refine AtG.mkG ?_ | refine StoreG.mkG ?_ | refine CondG.mkG ?_ | (refine eqNilIf ?_) | (refine cFmt_go hF hb2 ?_) | fail); (all_goals (try dsimp only))
      exact h2 hF1 v hb2 _ (Ext.refl h)
  · have hF1 : numF l = none := by
      unfold numF
      split
      · rename_i u hu
        exact absurd hu (hn u)
      · rfl
    (try unfold vMov); repeat' (first | refine Step.imp ?_ | (refine Way.mk (fun hp => ?_) (fun hp => ?_) <;> first | contradiction | (exfalso; omega) | skip) | refine LoadG.mkG ?_ | refine LoadsG.mkG ?_ | refine AtG.mkG ?_ | refine StoreG.mkG ?_ | refine CondG.mkG ?_ | (refine eqSomeIf ?_) | fail); (all_goals (try dsimp only))
    exact h2 hF1 v hv _ (skip_ext h)
end
end Lg

namespace Lg
set_option linter.unusedSimpArgs false
set_option linter.unusedVariables false
set_option maxRecDepth 100000
open Go Go.Am
open Go.Proofs.YtnhamanffojhfaaDoor.shl
/-- Bytes that were just made, or that append made. -/
def BO (h : Hp) (o : Nat) (v : AV) (l : List UInt8) : Prop := o < h.next ∧ ∃ kn z, v = .slice o 0 l.length kn (if kn = true then l.length else 0) ∧ h.at o = some ⟨true, 1, .byts l.length z⟩ ∧ bytesL l.length z = l ∧ l.length ≤ 1000000
theorem BO.by {h : Hp} {o : Nat} {v : AV} {l : List UInt8} (b : BO h o v l) : ByH h v l := by
  obtain ⟨h1, kn, z, rfl, h2, h3, h4⟩ := b
  refine .inr (.inr ⟨o, 0, kn, _, _, l.length, z, rfl, h1, h2, rfl, by omega, ⟨by omega, fun q => by rw [if_pos q]; omega⟩, ?_⟩)
  rw [List.drop_zero, h3, List.take_length]
theorem cutB_bytes (n z : Nat) : bytesL n (cutB z 0 n) = bytesL n z := by
  have := bytesL_cut n z 0 n (by omega) (by omega)
  rw [Nat.sub_zero, List.drop_zero] at this
  rw [this, List.take_of_length_le (by rw [bytesL_length]; omega)]
theorem appB_go {h : Hp} {o : Nat} {v w : AV} {l m : List UInt8} {K : AV → Hp → Prop} (hv : BO h o v l) (hw : ByH h w m) (hm : 0 < m.length) (hs : l.length + m.length ≤ 1000000)
    (q : ∀ v' h', h.next < h'.next → (∀ p, p < h.next → p ≠ o → h'.at p = h.at p) → BO h' h.next v' (l ++ m) → K v' h') : vAppend2 1 1 true v w h K := by
  obtain ⟨h1, kn, z, rfl, h2, h3, h4⟩ := hv
  rcases hw with ⟨rfl, rfl⟩ | ⟨o2, rfl, rfl⟩ | ⟨o2, off, kn2, c2, e2, n2, z2, rfl, w2, w3, w4, w5, w6, w7⟩
  · simp at hm
  · simp at hm
  · have hz2 : bytesL m.length (cutB z2 off m.length) = m := by
      have := bytesL_cut n2 z2 off (off + m.length) (by omega) w5
      rw [show off + m.length - off = m.length by omega, List.drop_take, show off + m.length - off = m.length by omega, w7] at this
      exact this
    have hx : bytesL (l.length + m.length) (cutB z 0 l.length + cutB z2 off m.length <<< (8 * l.length)) = l ++ m := by
      rw [bytesL_join _ _ _ _ (cutB_lt _ _ _), cutB_bytes, h3, hz2]
    have hbo : ∀ hh : Hp, hh.next = h.next → BO (hh.new ⟨true, 1, .byts (l.length + m.length) (cutB z 0 l.length + cutB z2 off m.length <<< (8 * l.length))⟩) h.next (.slice h.next 0 (l.length + m.length) false 0) (l ++ m) := fun hh e =>
      ⟨by simp only [Hp.next_new]; omega, false, _, by rw [List.length_append]; rfl, by rw [← e, Hp.at_new_self, List.length_append], by rw [List.length_append]; exact hx, by rw [List.length_append]; exact hs⟩
    have hle : Nat.ble ((l.length + m.length) * 1) 140737488355328 = true := Nat.ble_eq_true_of_le (by omega)
    show srcK h 1 true (.slice o2 off m.length kn2 c2) (K (.slice o 0 l.length kn (if kn = true then l.length else 0)) h) (fun m l' => joinK h o 0 l.length m kn (if kn = true then l.length else 0) 1 1 (fun ob => growK ob 0 (l.length * 1) l') (fun ob => setCellsK l' ob (0 + l.length * 1)) K) (fun m z => joinK h o 0 l.length m kn (if kn = true then l.length else 0) 1 1 (fun ob => growBK ob 0 l.length m z) (fun ob => overBK ob (0 + l.length) m z) K)
    rw [srcK_by w3 w4 hm w5]
    cases kn with
    | false =>
      show gd (Nat.ble ((l.length + m.length) * 1) 140737488355328) (asOpt (h.at o) fun e => gd (Nat.beq e.esz 1) (gd (e.own && Nat.ble 0 (0 * 1)) (growBK e.obj 0 l.length m.length (cutB z2 off m.length) fun ob => putK h o none fun h => forceN (l.length + m.length) fun n => finK 1 n h ob K)))
      rw [hle, gd_true, h2, asOpt_some]
      show gd (Nat.ble (0 + l.length) l.length) (forceN (cutB z 0 l.length + cutB z2 off m.length <<< (8 * l.length)) fun x => forceN (l.length + m.length) fun n => putK h o none fun h => forceN (l.length + m.length) fun n' => finK 1 n' h (.byts n x) K)
      rw [Nat.ble_eq_true_of_le (by omega : 0 + l.length ≤ l.length), gd_true, forceN_eq, forceN_eq, putK_eq', forceN_eq]
      unfold finK
      rw [newK_eq']
      exact q _ _ (by simp only [Hp.next_new, Hp.next_put]; omega) (fun p hp hne => by rw [Hp.at_new_lt _ (by simp only [Hp.next_put]; exact hp), Hp.at_put_ne _ hne]) (hbo (h.put o none) (by simp only [Hp.next_put]))
    | true =>
      show gd (Nat.ble ((l.length + m.length) * 1) 140737488355328) (asOpt (h.at o) fun e => gd (Nat.beq e.esz 1) (Bool.rec (motive := fun _ => Prop) (growBK e.obj 0 l.length m.length (cutB z2 off m.length) fun ob => forceN (l.length + m.length) fun n => finK 1 n h ob K)
        (gd e.own (overBK e.obj (0 + l.length) m.length (cutB z2 off m.length) fun ob => putK h o (some ⟨true, e.esz, ob⟩) fun h => forceN (l.length + m.length) fun n => K (.slice o 0 n true l.length) h)) (Nat.ble (l.length + m.length) l.length)))
      have hb : Nat.ble (l.length + m.length) l.length = false := by
        cases hq : Nat.ble (l.length + m.length) l.length with
        | false => rfl
        | true => have := Nat.le_of_ble_eq_true hq; omega
      rw [hle, gd_true, h2, asOpt_some, hb]
      show gd (Nat.beq 1 1) (gd (Nat.ble (0 + l.length) l.length) (forceN (cutB z 0 l.length + cutB z2 off m.length <<< (8 * l.length)) fun x => forceN (l.length + m.length) fun n => forceN (l.length + m.length) fun n' => finK 1 n' h (.byts n x) K))
      rw [Nat.ble_eq_true_of_le (by omega : 0 + l.length ≤ l.length), forceN_eq, forceN_eq, forceN_eq]
      refine gd_iff.2 ⟨rfl, gd_iff.2 ⟨rfl, ?_⟩⟩
      unfold finK
      rw [newK_eq']
      exact q _ _ (by simp only [Hp.next_new]; omega) (fun p hp hne => by rw [Hp.at_new_lt _ hp]) (hbo h rfl)
end Lg

namespace Lg
set_option linter.unusedSimpArgs false
set_option linter.unusedVariables false
set_option maxRecDepth 100000
open Go Go.Am
open Go.Proofs.YtnhamanffojhfaaDoor.shl
theorem packAV_bytes : ∀ l : List UInt8, packAV (l.map fun b => .int .u8 ((b.toNat : Nat) : Int)) = some (packL l)
  | [] => rfl
  | b :: l => by
    show packAV (.int .u8 (.ofNat b.toNat) :: (l.map fun b => AV.int .u8 ((b.toNat : Nat) : Int))) = _
    have hb : Nat.blt b.toNat 256 = true := Nat.ble_eq_true_of_le b.toNat_lt
    unfold packAV
    simp only [hb, packAV_bytes l]
    rfl
theorem wrap_u8N (x : Nat) : IntKind.u8.wrap (x : Int) = (((UInt8.ofNat x).toNat : Nat) : Int) := by
  have h1 : (UInt8.ofNat x).toNat = x % 256 := by simp
  rw [h1]
  show (if (false && decide ((x : Int) % 256 ≥ 128)) = true then (x : Int) % 256 - 256 else (x : Int) % 256) = _
  simp
section
variable {h : Hp} {K : AV → Hp → Prop}
theorem toU8_go {k : IntKind} {x : Nat} (q : K (.int .u8 ((UInt8.ofNat x).toNat : Nat)) h) : vToInt .u8 (.int k (x : Int)) h K := by
  rw [vToInt_int, wrap_u8N]
  exact q
theorem shrN_go {k : IntKind} {x s : Nat} (hs : s ≤ k.bits) (q : K (.int k ((x >>> s : Nat) : Int)) h) : vShr (.int k (x : Int)) (.int .u64 (s : Int)) h K := by
  show asNat (.int .u64 s) (fun b => mkI k (.ofNat (x >>> (Nat.min b k.bits))) fun v => K v h)
  rw [asNat_int _ _ (by omega), Int.toNat_natCast, mkI_eq, show Nat.min s k.bits = s from Nat.min_eq_left hs]
  exact q
theorem bslice8_go {a0 a1 a2 a3 a4 a5 a6 a7 : UInt8} (q : ∀ v', BO (h.new ⟨true, 1, .byts 8 (packL [a0, a1, a2, a3, a4, a5, a6, a7])⟩) h.next v' [a0, a1, a2, a3, a4, a5, a6, a7] → K v' (h.new ⟨true, 1, .byts 8 (packL [a0, a1, a2, a3, a4, a5, a6, a7])⟩)) :
    vBslice 1 8 true [.int .u8 0] [(0, 1, .int .u8 (a0.toNat : Nat)), (1, 1, .int .u8 (a1.toNat : Nat)), (2, 1, .int .u8 (a2.toNat : Nat)), (3, 1, .int .u8 (a3.toNat : Nat)), (4, 1, .int .u8 (a4.toNat : Nat)), (5, 1, .int .u8 (a5.toNat : Nat)), (6, 1, .int .u8 (a6.toNat : Nat)), (7, 1, .int .u8 (a7.toNat : Nat))] h K := by
  show fillV _ ([.int .u8 0, .int .u8 0, .int .u8 0, .int .u8 0, .int .u8 0, .int .u8 0, .int .u8 0, .int .u8 0] : List AV) fun cs => asOpt (packAV cs) fun x => forceN x fun x => forceN cs.length fun n => newK h ⟨true, 1, .byts n x⟩ fun o h => K (.slice o 0 8 true 8) h
  refine stFill_aux _ _ _ _ _ _ _ rfl ⟨⟨rfl, by simp⟩, ?_⟩
  simp only [setL_cons0, setL_succ]
  refine stFill_aux _ _ _ _ _ _ _ rfl ⟨⟨rfl, by simp⟩, ?_⟩
  simp only [setL_cons0, setL_succ]
  refine stFill_aux _ _ _ _ _ _ _ rfl ⟨⟨rfl, by simp⟩, ?_⟩
  simp only [setL_cons0, setL_succ]
  refine stFill_aux _ _ _ _ _ _ _ rfl ⟨⟨rfl, by simp⟩, ?_⟩
  simp only [setL_cons0, setL_succ]
  refine stFill_aux _ _ _ _ _ _ _ rfl ⟨⟨rfl, by simp⟩, ?_⟩
  simp only [setL_cons0, setL_succ]
  refine stFill_aux _ _ _ _ _ _ _ rfl ⟨⟨rfl, by simp⟩, ?_⟩
  simp only [setL_cons0, setL_succ]
  refine stFill_aux _ _ _ _ _ _ _ rfl ⟨⟨rfl, by simp⟩, ?_⟩
  simp only [setL_cons0, setL_succ]
  refine stFill_aux _ _ _ _ _ _ _ rfl ⟨⟨rfl, by simp⟩, ?_⟩
  simp only [setL_cons0, setL_succ]
  show asOpt (packAV (([a0, a1, a2, a3, a4, a5, a6, a7] : List UInt8).map fun b => AV.int .u8 ((b.toNat : Nat) : Int))) fun x => forceN x fun x => forceN 8 fun n => newK h ⟨true, 1, .byts n x⟩ fun o h => K (.slice o 0 8 true 8) h
  rw [packAV_bytes, asOpt_some, forceN_eq, forceN_eq, newK_eq']
  exact q _ ⟨by simp [Hp.next_new], true, _, rfl, Hp.at_new_self _ _, bytesL_pack _, by simp⟩
theorem bslice4_go {a0 a1 a2 a3 : UInt8} (q : ∀ v', BO (h.new ⟨true, 1, .byts 4 (packL [a0, a1, a2, a3])⟩) h.next v' [a0, a1, a2, a3] → K v' (h.new ⟨true, 1, .byts 4 (packL [a0, a1, a2, a3])⟩)) :
    vBslice 1 4 true [.int .u8 0] [(0, 1, .int .u8 (a0.toNat : Nat)), (1, 1, .int .u8 (a1.toNat : Nat)), (2, 1, .int .u8 (a2.toNat : Nat)), (3, 1, .int .u8 (a3.toNat : Nat))] h K := by
  show fillV _ ([.int .u8 0, .int .u8 0, .int .u8 0, .int .u8 0] : List AV) fun cs => asOpt (packAV cs) fun x => forceN x fun x => forceN cs.length fun n => newK h ⟨true, 1, .byts n x⟩ fun o h => K (.slice o 0 4 true 4) h
  refine stFill_aux _ _ _ _ _ _ _ rfl ⟨⟨rfl, by simp⟩, ?_⟩
  simp only [setL_cons0, setL_succ]
  refine stFill_aux _ _ _ _ _ _ _ rfl ⟨⟨rfl, by simp⟩, ?_⟩
  simp only [setL_cons0, setL_succ]
  refine stFill_aux _ _ _ _ _ _ _ rfl ⟨⟨rfl, by simp⟩, ?_⟩
  simp only [setL_cons0, setL_succ]
  refine stFill_aux _ _ _ _ _ _ _ rfl ⟨⟨rfl, by simp⟩, ?_⟩
  simp only [setL_cons0, setL_succ]
  show asOpt (packAV (([a0, a1, a2, a3] : List UInt8).map fun b => AV.int .u8 ((b.toNat : Nat) : Int))) fun x => forceN x fun x => forceN 4 fun n => newK h ⟨true, 1, .byts n x⟩ fun o h => K (.slice o 0 4 true 4) h
  rw [packAV_bytes, asOpt_some, forceN_eq, forceN_eq, newK_eq']
  exact q _ ⟨by simp [Hp.next_new], true, _, rfl, Hp.at_new_self _ _, bytesL_pack _, by simp⟩
end
end Lg

namespace Lg
set_option linter.unusedSimpArgs false
set_option linter.unusedVariables false
set_option maxRecDepth 100000
open Go Go.Am Go.Lib
open Go.Proofs.YtnhamanffojhfaaDoor.shl
theorem bslice1_go {a0 : UInt8} {h : Hp} {K : AV → Hp → Prop} (q : ∀ v', BO (h.new ⟨true, 1, .byts 1 (packL [a0])⟩) h.next v' [a0] → K v' (h.new ⟨true, 1, .byts 1 (packL [a0])⟩)) :
    vBslice 1 1 true [.int .u8 0] [(0, 1, .int .u8 (a0.toNat : Nat))] h K := by
  show fillV _ ([.int .u8 0] : List AV) fun cs => asOpt (packAV cs) fun x => forceN x fun x => forceN cs.length fun n => newK h ⟨true, 1, .byts n x⟩ fun o h => K (.slice o 0 1 true 1) h
  refine stFill_aux _ _ _ _ _ _ _ rfl ⟨⟨rfl, by simp⟩, ?_⟩
  simp only [setL_cons0, setL_succ]
  show asOpt (packAV (([a0] : List UInt8).map fun b => AV.int .u8 ((b.toNat : Nat) : Int))) fun x => forceN x fun x => forceN 1 fun n => newK h ⟨true, 1, .byts n x⟩ fun o h => K (.slice o 0 1 true 1) h
  rw [packAV_bytes, asOpt_some, forceN_eq, forceN_eq, newK_eq']
  exact q _ ⟨by simp [Hp.next_new], true, _, rfl, Hp.at_new_self _ _, bytesL_pack _, by simp⟩
section
variable (cf : CallK) (fuel : Nat) {h : Hp} {K : AV → Hp → Prop}
/-- The bytes so far. -/
def AccR (h : Hp) (v : AV) (l : List UInt8) : Prop := (v = .nilslice ∧ l = []) ∨ (l ≠ [] ∧ ∃ o, BO h o v l)
theorem AccR.by {h : Hp} {v : AV} {l : List UInt8} (a : AccR h v l) : ByH h v l := by
  rcases a with ⟨rfl, rfl⟩ | ⟨_, o, b⟩
  · exact ByH.nil h
  · exact b.by
theorem lenAcc {h : Hp} {v : AV} {l : List UInt8} (a : AccR h v l) (h' : Hp) : vLenL2 v h' = fun K' : AV → Hp → Prop => K' (I l.length) h' := by
  funext K'
  rcases a with ⟨rfl, rfl⟩ | ⟨_, o, _, kn, z, rfl, _⟩ <;> rfl
theorem digits_exit (e0 : AV → Hp → Prop) {v : AV} {l : List UInt8} (ha : AccR h v l) (hl : l ≠ []) (hb : l.length ≤ 1000) (t4 : AV) (fm : Nat) (q : e0 v h) : s_lagoonref15_digitsL1 cf fuel e0 t4 (fm + 1) (I 0) v h := by
  rw [s_lagoonref15_digitsL1_succ]
  unfold s_lagoonref15_digitsL1B
  have hpos : 0 < l.length := List.length_pos_iff.2 hl
  (try unfold vMov); repeat' (first | refine Step.imp ?_ | (refine Way.mk (fun hp => ?_) (fun hp => ?_) <;> first | contradiction | (exfalso; omega) | skip) | refine LoadG.mkG ?_ | refine LoadsG.mkG ?_ | refine AtG.mkG ?_ | refine StoreG.mkG ?_ | refine CondG.mkG ?_ | ((rw [lenAcc ha])) | fail); (all_goals (try dsimp only))
  exact q
theorem digits_tail {h0 : Hp} {d : Nat} (hd : d < 10) {v : AV} {l : List UInt8} (hx : Ext h0 h) (ha : AccR h v l) (hb : l.length ≤ 1000) (hK2 : ∀ v' h', Ext h0 h' → AccR h' v' (UInt8.ofNat (48 + d) :: l) → K v' h') : vAdd (.int .i64 48) (.int .i64 (d : Int)) h (fun t22 h => vToInt .u8 t22 h fun t23 h => vBslice 1 1 true [.int .u8 0] [(0, 1, t23)] h (fun t24 h => vAppend2 1 1 true t24 v h K)) := by
  rw [vAdd_in _ _ (by omega) (by omega), show (48 : Int) + (d : Int) = ((48 + d : Nat) : Int) by omega]
  refine toU8_go ?_
  refine bslice1_go (fun v1 b1 => ?_)
  have x1 : Ext h0 (h.new ⟨true, 1, .byts 1 (packL [UInt8.ofNat (48 + d)])⟩) := hx.new _
  rcases ha with ⟨rfl, rfl⟩ | ⟨hne, o, bo⟩
  · obtain ⟨w1, kn, z, rfl, w2⟩ := b1
    show K _ _
    exact hK2 _ _ x1 (.inr ⟨by simp, _, w1, kn, z, rfl, w2⟩)
  · have by2 : ByH (h.new ⟨true, 1, .byts 1 (packL [UInt8.ofNat (48 + d)])⟩) v l := bo.by.mono (by repeat (first | exact Ext.refl _ | assumption | apply Ext.new | (refine Ext.put ?_ _ (by first | omega | (simp; done) | (simp; omega)))))
    refine appB_go b1 by2 (List.length_pos_iff.2 hne) (by simp; omega) (fun v2 h2 g2 g3 g4 => ?_)
    refine hK2 v2 h2 ⟨by have := hx.next; simp only [Hp.next_new] at *; omega, fun p hp => ?_⟩ (.inr ⟨by simp, _, g4⟩)
    have := hx.next
    rw [g3 p (by simp only [Hp.next_new]; omega) (by omega), x1.same p hp]
theorem tdiv_in {m : Int} (hm : InI m) : -9223372036854775808 ≤ m.tdiv 10 ∧ m.tdiv 10 ≤ 9223372036854775807 := by
  obtain ⟨m0, m1⟩ := hm
  rcases Int.le_total 0 m with q | q
  · rw [Int.tdiv_eq_ediv_of_nonneg q]; omega
  · have : m.tdiv 10 = -((-m).tdiv 10) := by rw [Int.neg_tdiv]; omega
    rw [this, Int.tdiv_eq_ediv_of_nonneg (by omega)]; omega
theorem tmod_pos {m : Int} (hs : 0 ≤ m) : m.tmod 10 = ((m.natAbs % 10 : Nat) : Int) := by
  rw [Int.tmod_eq_emod_of_nonneg hs]; omega
theorem tmod_neg {m : Int} (hs : m ≤ 0) : m.tmod 10 = -((m.natAbs % 10 : Nat) : Int) := by
  have : m.tmod 10 = -((-m).tmod 10) := by rw [Int.neg_tmod]; omega
  rw [this, Int.tmod_eq_emod_of_nonneg (by omega)]; omega
theorem digitsB5_run {h0 : Hp} {m : Int} (hm : InI m) {v : AV} {l : List UInt8} (hx : Ext h0 h) (ha : AccR h v l) (hb : l.length ≤ 1000) (ih : AV → AV → Hp → Prop)
    (q : ∀ v' h', Ext h0 h' → AccR h' v' (UInt8.ofNat (48 + m.natAbs % 10) :: l) → ih (I (m.tdiv 10)) v' h') : s_lagoonref15_digitsB5 cf fuel ih (I m) v h := by
  unfold s_lagoonref15_digitsB5
  have htd := tdiv_in hm
  have hr : m.natAbs % 10 < 10 := Nat.mod_lt _ (by omega)
  have fin : ∀ v' h', Ext h0 h' → AccR h' v' (UInt8.ofNat (48 + m.natAbs % 10) :: l) → vDiv false (I m) (.int .i64 10) h' (fun t28 h => ih t28 v' h) := fun v' h' x' a' => by
    rw [vDiv_int _ _ _ (by omega), wrap64_in htd.1 htd.2]
    exact q v' h' x' a'
  dsimp only
  rw [vRem_int _ _ _ (by omega)]
  rcases Int.le_total 0 m with hs | hs
  · rw [tmod_pos hs]
    generalize m.natAbs % 10 = d at *
    refine Step.imp (Way.mk (fun hp => ?_) (fun hp => ?_))
    · exfalso; omega
    · exact digits_tail hr hx ha hb fin
  · rw [tmod_neg hs]
    generalize m.natAbs % 10 = d at *
    refine Step.imp (Way.mk (fun hp => ?_) (fun hp => ?_))
    · refine Step.imp ?_
      try dsimp only
      rw [vNeg_int, wrap64_in (by omega) (by omega), Int.neg_neg]
      exact digits_tail hr hx ha hb fin
    · have : d = 0 := by omega
      subst this
      exact digits_tail hr hx ha hb fin
theorem digits_step (e0 : AV → Hp → Prop) {h0 : Hp} {m : Int} (hm : InI m) {v : AV} {l : List UInt8} (hx : Ext h0 h) (ha : AccR h v l) (hb : l.length ≤ 1000) (hn : m ≠ 0 ∨ l = []) (t4 : AV) (fm : Nat)
    (q : ∀ v' h', Ext h0 h' → AccR h' v' (UInt8.ofNat (48 + m.natAbs % 10) :: l) → s_lagoonref15_digitsL1 cf fuel e0 t4 fm (I (m.tdiv 10)) v' h') : s_lagoonref15_digitsL1 cf fuel e0 t4 (fm + 1) (I m) v h := by
  rw [s_lagoonref15_digitsL1_succ]
  unfold s_lagoonref15_digitsL1B
  have core := digitsB5_run cf fuel hm hx ha hb (s_lagoonref15_digitsL1 cf fuel e0 t4 fm) q
  by_cases hz : m = 0
  · have hl0 : l = [] := by
      rcases hn with q | q
      · exact absurd hz q
      · exact q
    have hll : l.length = 0 := by rw [hl0]; rfl
    (try unfold vMov); repeat' (first | refine Step.imp ?_ | (refine Way.mk (fun hp => ?_) (fun hp => ?_) <;> first | contradiction | (exfalso; omega) | skip) | refine LoadG.mkG ?_ | refine LoadsG.mkG ?_ | refine AtG.mkG ?_ | refine StoreG.mkG ?_ | refine CondG.mkG ?_ | ((rw [lenAcc ha])) | fail); (all_goals (try dsimp only))
    exact core
  · (try unfold vMov); repeat' (first | refine Step.imp ?_ | (refine Way.mk (fun hp => ?_) (fun hp => ?_) <;> first | contradiction | (exfalso; omega) | skip) | refine LoadG.mkG ?_ | refine LoadsG.mkG ?_ | refine AtG.mkG ?_ | refine StoreG.mkG ?_ | refine CondG.mkG ?_ | fail); (all_goals (try dsimp only))
    exact core
theorem digitsL1_run (e0 : AV → Hp → Prop) {h0 : Hp} (t4 : AV) (T : List UInt8) (he : ∀ v h', Ext h0 h' → ByH h' v T → e0 v h') :
    ∀ (d fm : Nat) (m : Int) (l : List UInt8) (v : AV) (h : Hp), InI m → m.natAbs < 10 ^ d → m ≠ 0 → d + 1 < fm → l.length + d ≤ 900 → Ext h0 h → AccR h v l → decDigits m.natAbs ++ l = T → s_lagoonref15_digitsL1 cf fuel e0 t4 fm (I m) v h
  | 0, fm, m, l, v, h, hm, hd, hz, hf, hl, hx, ha, hT => by simp at hd; omega
  | d + 1, fm, m, l, v, h, hm, hd, hz, hf, hl, hx, ha, hT => by
    obtain ⟨fm, rfl⟩ : ∃ j, fm = j + 1 := ⟨fm - 1, by omega⟩
    refine digits_step cf fuel e0 hm hx ha (by omega) (.inl hz) t4 fm (fun v' h' x' a' => ?_)
    have hna : (m.tdiv 10).natAbs = m.natAbs / 10 := Int.natAbs_tdiv ..
    by_cases h0' : m.tdiv 10 = 0
    · rw [h0'] at hna ⊢
      obtain ⟨fm, rfl⟩ : ∃ j, fm = j + 1 := ⟨fm - 1, by omega⟩
      refine digits_exit cf fuel e0 a' (by simp) (by simp; omega) t4 fm (he v' h' x' ?_)
      have hsm : m.natAbs < 10 := by simp at hna; omega
      rw [decDigits_one hsm] at hT
      rw [← hT]
      rw [Nat.mod_eq_of_lt hsm] at a'
      exact a'.by
    · have h10 : 10 ≤ m.natAbs := by
        rcases Nat.lt_or_ge m.natAbs 10 with q | q
        · exfalso
          apply h0'
          have : (m.tdiv 10).natAbs = 0 := by rw [hna]; omega
          omega
        · exact q
      refine digitsL1_run e0 t4 T he d fm (m.tdiv 10) _ v' h' (tdiv_in hm) (by rw [hna, Nat.div_lt_iff_lt_mul (by omega), ← Nat.pow_succ]; exact hd) h0' (by omega) (by simp; omega) x' a' ?_
      rw [hna, ← hT, dec_rec m.natAbs h10]
      simp
def cDig : ConD := fun args h K => ∃ n, args = [I n] ∧ InI n ∧ ∀ h', Ext h h' → K (S (itoa n)) h'
theorem cDig_go {cf : CallK} {g : FuncId} (hg : cf g = cDig) {n : Int} (hn : InI n) (hK : ∀ h', Ext h h' → K (S (itoa n)) h') : cf g [I n] h K := by rw [hg]; exact ⟨n, rfl, hn, hK⟩
theorem digits_run {n : Int} (hn : InI n) (hf : 100 < fuel) (hK : ∀ h', Ext h h' → K (S (itoa n)) h') : s_lagoonref15_digits cf fuel (I n) h K := by
  unfold s_lagoonref15_digits
  have hn' := hn
  obtain ⟨n0, n1⟩ := hn
  have loop : ∀ b : Bool, b = decide (n < 0) → s_lagoonref15_digitsL1 cf fuel (s_lagoonref15_digitsE0 cf fuel K (.bool b)) (.bool b) fuel (I n) .nilslice h := fun b hb => by
    have fin : ∀ v h', Ext h h' → ByH h' v (decDigits n.natAbs) → s_lagoonref15_digitsE0 cf fuel K (.bool b) v h' := fun v h' x y => by
      unfold s_lagoonref15_digitsE0
      rw [S_45]
      have hlen := dec_len 20 n.natAbs (by omega) (by omega)
      have kx := hK h' x
      by_cases hneg : n < 0
      · have : b = true := by rw [hb]; simp [hneg]
        subst this
        unfold itoa at kx
        rw [if_pos hneg] at kx
        (try unfold vMov); repeat' (first | refine Step.imp ?_ | (refine Way.mk (fun hp => ?_) (fun hp => ?_) <;> first | contradiction | (exfalso; omega) | skip) | refine LoadG.mkG ?_ | refine LoadsG.mkG ?_ | refine AtG.mkG ?_ | refine StoreG.mkG ?_ | refine CondG.mkG ?_ | (refine toStrB_go y ?_) | (refine CondG.mk (by simp; omega) ?_) | fail); (all_goals (try dsimp only))
        exact kx
      · have : b = false := by rw [hb]; simp [hneg]
        subst this
        unfold itoa at kx
        rw [if_neg hneg, show n.toNat = n.natAbs by omega] at kx
        (try unfold vMov); repeat' (first | refine Step.imp ?_ | (refine Way.mk (fun hp => ?_) (fun hp => ?_) <;> first | contradiction | (exfalso; omega) | skip) | refine LoadG.mkG ?_ | refine LoadsG.mkG ?_ | refine AtG.mkG ?_ | refine StoreG.mkG ?_ | refine CondG.mkG ?_ | (refine toStrB_go y ?_) | fail); (all_goals (try dsimp only))
        exact kx
    by_cases hz : n = 0
    · subst hz
      obtain ⟨fm, rfl⟩ : ∃ j, fuel = j + 2 := ⟨fuel - 2, by omega⟩
      refine digits_step cf (fm + 2) _ hn' (Ext.refl h) (.inl ⟨rfl, rfl⟩) (by simp) (.inr rfl) (.bool b) (fm + 1) (fun v' h' x' a' => ?_)
      refine digits_exit cf (fm + 2) _ a' (by simp) (by simp) (.bool b) fm (fin v' h' x' ?_)
      have : decDigits (0 : Int).natAbs = [UInt8.ofNat (48 + (0 : Int).natAbs % 10)] := decDigits_one (by decide)
      rw [this]
      exact a'.by
    · exact digitsL1_run cf fuel _ (h0 := h) (.bool b) (decDigits n.natAbs) fin 20 fuel n [] .nilslice h hn' (by omega) hz (by omega) (by simp) (Ext.refl h) (.inl ⟨rfl, rfl⟩) (by simp)
  by_cases hneg : n < 0
  · have := loop true (by simp [hneg])
    (try unfold vMov); repeat' (first | refine Step.imp ?_ | (refine Way.mk (fun hp => ?_) (fun hp => ?_) <;> first | contradiction | (exfalso; omega) | skip) | refine LoadG.mkG ?_ | refine LoadsG.mkG ?_ | refine AtG.mkG ?_ | refine StoreG.mkG ?_ | refine CondG.mkG ?_ | fail); (all_goals (try dsimp only))
    exact this
  · have := loop false (by simp [hneg])
    (try unfold vMov); repeat' (first | refine Step.imp ?_ | (refine Way.mk (fun hp => ?_) (fun hp => ?_) <;> first | contradiction | (exfalso; omega) | skip) | refine LoadG.mkG ?_ | refine LoadsG.mkG ?_ | refine AtG.mkG ?_ | refine StoreG.mkG ?_ | refine CondG.mkG ?_ | fail); (all_goals (try dsimp only))
    exact this
theorem refSuffix_run (hD : cf 35 = cDig) {t n : Int} (hb : InI t ∧ InI n) (hK : ∀ h', Ext h h' → K (S (sufB t n)) h') : s_lagoonref15_Suffix cf fuel (.agg [I t, I n]) h K := by
  unfold s_lagoonref15_Suffix
  rw [S_1, S_46]
  have l1 := itoa_length_le t hb.1.1 hb.1.2
  have l2 := itoa_length_le n hb.2.1 hb.2.2
  (try unfold vMov); repeat' (first | refine Step.imp ?_ | (refine Way.mk (fun hp => ?_) (fun hp => ?_) <;> first | contradiction | (exfalso; omega) | skip) | refine LoadG.mkG ?_ | refine LoadsG.mkG ?_ | refine AtG.mkG ?_ | refine StoreG.mkG ?_ | refine CondG.mkG ?_ | fail); (all_goals (try dsimp only))
  have a1 : (h.new ⟨true, 2, .row [I t, I n]⟩).at h.next = some ⟨true, 2, .row [I t, I n]⟩ := Hp.at_new_self _ _
  have x1 : Ext h (h.new ⟨true, 2, .row [I t, I n]⟩) := (by repeat (first | exact Ext.refl _ | assumption | apply Ext.new | (refine Ext.put ?_ _ (by first | omega | (simp; done) | (simp; omega)))))
  have lt1 : h.next < (h.new ⟨true, 2, .row [I t, I n]⟩).next := Nat.lt_succ_self _
  generalize (h.new ⟨true, 2, .row [I t, I n]⟩) = h1 at *
  refine cDig_go hD hb.1 (fun h2 x2 => ?_)
  have a2 := (x2.same _ lt1).trans a1
  (try unfold vMov); repeat' (first | refine Step.imp ?_ | (refine Way.mk (fun hp => ?_) (fun hp => ?_) <;> first | contradiction | (exfalso; omega) | skip) | refine LoadG.mk (by simp (disch := (first | omega | (simp only [Hp.next_new, Hp.next_put]; omega))) only [Hp.at_new_self, Hp.at_put_self, Hp.at_new_lt, Hp.at_put_ne, a2] <;> rfl) (by simp only [cellAt_row', setL_cons0, setL_succ, Nat.reduceAdd, Nat.reduceMul, Nat.zero_add, Nat.add_zero, List.getElem?_cons_succ, List.getElem?_cons_zero]; rfl) ?_ | refine LoadsG.mk (by simp (disch := (first | omega | (simp only [Hp.next_new, Hp.next_put]; omega))) only [Hp.at_new_self, Hp.at_put_self, Hp.at_new_lt, Hp.at_put_ne, a2] <;> rfl) (by rfl) ?_ | refine AtG.mkG ?_ | refine StoreG.mk (by simp (disch := (first | omega | (simp only [Hp.next_new, Hp.next_put]; omega))) only [Hp.at_new_self, Hp.at_put_self, Hp.at_new_lt, Hp.at_put_ne, a2] <;> rfl) (by first | omega | (simp; done) | (simp; omega)) ?_ | refine CondG.mkG ?_ | (refine LoadG.mk a2 (by rfl) ?_) | (refine CondG.mk (by simp only [List.length_append, List.length_singleton]; omega) ?_) | fail); (all_goals (try dsimp only))
  refine cDig_go hD hb.2 (fun h3 x3 => ?_)
  (try unfold vMov); repeat' (first | refine Step.imp ?_ | (refine Way.mk (fun hp => ?_) (fun hp => ?_) <;> first | contradiction | (exfalso; omega) | skip) | refine LoadG.mkG ?_ | refine LoadsG.mkG ?_ | refine AtG.mkG ?_ | refine StoreG.mkG ?_ | refine CondG.mkG ?_ | (refine CondG.mk (by simp only [List.length_append, List.length_singleton]; omega) ?_) | fail); (all_goals (try dsimp only))
  exact hK _ ((x1.trans x2).trans x3)
end
end Lg

namespace Lg
set_option linter.unusedSimpArgs false
set_option linter.unusedVariables false
set_option maxRecDepth 100000
open Go Go.Am Go.Lib
open Go.Proofs.YtnhamanffojhfaaDoor.shl
section
variable (cf : CallK) (fuel : Nat) {h : Hp} {K : AV → Hp → Prop}
def spAV (r : List UInt8 × Int × Int × Bool) : AV := .tup [S r.1, .agg [I r.2.1, I r.2.2.1], .bool r.2.2.2]
def cSplit : ConD := fun args h K => ∃ l, args = [S l] ∧ l.length ≤ 1000000000 ∧ ∀ h', Ext h h' → K (spAV (splitF l)) h'
theorem cSplit_go {cf : CallK} {g : FuncId} (hg : cf g = cSplit) {l : List UInt8} (hl : l.length ≤ 1000000000) (hK : ∀ h', Ext h h' → K (spAV (splitF l)) h') : cf g [S l] h K := by rw [hg]; exact ⟨l, rfl, hl, hK⟩
theorem clashSplit_run (hC : cf 28 = cCut) (hN : cf 29 = cNum) (hV : cf 30 = cIdB validB) (hO : cf 31 = cS nameE) (hS : cf 15 = cSuf) (l : List UInt8) (hl : l.length ≤ 1000000000) (hK : ∀ h', Ext h h' → K (spAV (splitF l)) h') : s_clash_Split cf fuel (S l) h K := by
  unfold s_clash_Split
  rw [S_1, S_46]
  have n1 := cutP_len l 1
  have n2 := cutP_len (cutP l 1).2.1 46
  (try unfold vMov); repeat' (first | refine Step.imp ?_ | (refine Way.mk (fun hp => ?_) (fun hp => ?_) <;> first | contradiction | (exfalso; omega) | skip) | refine LoadG.mkG ?_ | refine LoadsG.mkG ?_ | refine AtG.mkG ?_ | refine StoreG.mkG ?_ | refine CondG.mkG ?_ | fail); (all_goals (try dsimp only))
  refine cCut_go hC (by omega) ?_
  (try unfold vMov); repeat' (first | refine Step.imp ?_ | (refine Way.mk (fun hp => ?_) (fun hp => ?_) <;> first | contradiction | (exfalso; omega) | skip) | refine LoadG.mkG ?_ | refine LoadsG.mkG ?_ | refine AtG.mkG ?_ | refine StoreG.mkG ?_ | refine CondG.mkG ?_ | fail); (all_goals (try dsimp only))
  refine cCut_go hC (by show (cutP l 1).2.1.length ≤ _; omega) ?_
  (try unfold vMov); repeat' (first | refine Step.imp ?_ | (refine Way.mk (fun hp => ?_) (fun hp => ?_) <;> first | contradiction | (exfalso; omega) | skip) | refine LoadG.mkG ?_ | refine LoadsG.mkG ?_ | refine AtG.mkG ?_ | refine StoreG.mkG ?_ | refine CondG.mkG ?_ | fail); (all_goals (try dsimp only))
  have x1 : Ext h (h.new ⟨true, 2, .row [I 0, I 0]⟩) := (by repeat (first | exact Ext.refl _ | assumption | apply Ext.new | (refine Ext.put ?_ _ (by first | omega | (simp; done) | (simp; omega)))))
  have a1 : (h.new ⟨true, 2, .row [I 0, I 0]⟩).at h.next = some ⟨true, 2, .row [I 0, I 0]⟩ := Hp.at_new_self _ _
  have hlt1 : h.next < (h.new ⟨true, 2, .row [I 0, I 0]⟩).next := Nat.lt_succ_self _
  generalize (h.new ⟨true, 2, .row [I 0, I 0]⟩) = h1 at *
  refine cNum_go hN (by show (cutP (cutP l 1).2.1 46).1.length ≤ _; omega) (fun t ht bt h2 x2 => ?_) (fun ht t bt h2 x2 => ?_)
  · (try unfold vMov); repeat' (first | refine Step.imp ?_ | (refine Way.mk (fun hp => ?_) (fun hp => ?_) <;> first | contradiction | (exfalso; omega) | skip) | refine LoadG.mkG ?_ | refine LoadsG.mkG ?_ | refine AtG.mkG ?_ | refine StoreG.mkG ?_ | refine CondG.mkG ?_ | fail); (all_goals (try dsimp only))
    refine cNum_go hN (by show (cutP (cutP l 1).2.1 46).2.1.length ≤ _; omega) (fun n hn bn h3 x3 => ?_) (fun hn n bn h3 x3 => ?_)
    · have x13 := x2.trans x3
      have a3 : h3.at h.next = some ⟨true, 2, .row [I 0, I 0]⟩ := (x13.same _ hlt1).trans a1
      have lt3 : h.next < h3.next := Nat.lt_of_lt_of_le hlt1 x13.next
      have xh3 := x1.trans x13
      have sF : splitF l = if validB t n = true ∧ nameE (cutP l 1).1 = 0 ∧ (cutP l 1).1 ++ sufB t n = l then ((cutP l 1).1, t, n, true) else (l, 0, 0, false) := by
        unfold splitF
        rw [show numF (cutP (cutP l 1).2.1 46).1 = some t from ht, show numF (cutP (cutP l 1).2.1 46).2.1 = some n from hn]
      have bad : ¬ (validB t n = true ∧ nameE (cutP l 1).1 = 0 ∧ (cutP l 1).1 ++ sufB t n = l) → ∀ h', Ext h h' → K (.tup [S l, .agg [I 0, I 0], .bool false]) h' := fun hb h' x => by
        have := hK h' x
        rw [sF, if_neg hb] at this
        exact this
      have good : (validB t n = true ∧ nameE (cutP l 1).1 = 0 ∧ (cutP l 1).1 ++ sufB t n = l) → ∀ h', Ext h h' → K (.tup [S (cutP l 1).1, .agg [I t, I n], .bool true]) h' := fun hb h' x => by
        have := hK h' x
        rw [sF, if_pos hb] at this
        exact this
      (try unfold vMov); repeat' (first | refine Step.imp ?_ | (refine Way.mk (fun hp => ?_) (fun hp => ?_) <;> first | contradiction | (exfalso; omega) | skip) | refine LoadG.mk (by simp (disch := (first | omega | (simp only [Hp.next_new, Hp.next_put]; omega))) only [Hp.at_new_self, Hp.at_put_self, Hp.at_new_lt, Hp.at_put_ne, a3] <;> rfl) (by simp only [cellAt_row', setL_cons0, setL_succ, Nat.reduceAdd, Nat.reduceMul, Nat.zero_add, Nat.add_zero, List.getElem?_cons_succ, List.getElem?_cons_zero]; rfl) ?_ | refine LoadsG.mk (by simp (disch := (first | omega | (simp only [Hp.next_new, Hp.next_put]; omega))) only [Hp.at_new_self, Hp.at_put_self, Hp.at_new_lt, Hp.at_put_ne, a3] <;> rfl) (by rfl) ?_ | refine AtG.mkG ?_ | refine StoreG.mk (by simp (disch := (first | omega | (simp only [Hp.next_new, Hp.next_put]; omega))) only [Hp.at_new_self, Hp.at_put_self, Hp.at_new_lt, Hp.at_put_ne, a3] <;> rfl) (by first | omega | (simp; done) | (simp; omega)) ?_ | refine CondG.mkG ?_ | fail); (all_goals (try dsimp only))
      refine cIdB_go hV (fun hv => ?_) (fun hv => ?_)
      · (try unfold vMov); repeat' (first | refine Step.imp ?_ | (refine Way.mk (fun hp => ?_) (fun hp => ?_) <;> first | contradiction | (exfalso; omega) | skip) | refine LoadG.mk (by simp (disch := (first | omega | (simp only [Hp.next_new, Hp.next_put]; omega))) only [Hp.at_new_self, Hp.at_put_self, Hp.at_new_lt, Hp.at_put_ne, a3] <;> rfl) (by simp only [cellAt_row', setL_cons0, setL_succ, Nat.reduceAdd, Nat.reduceMul, Nat.zero_add, Nat.add_zero, List.getElem?_cons_succ, List.getElem?_cons_zero]; rfl) ?_ | refine LoadsG.mk (by simp (disch := (first | omega | (simp only [Hp.next_new, Hp.next_put]; omega))) only [Hp.at_new_self, Hp.at_put_self, Hp.at_new_lt, Hp.at_put_ne, a3] <;> rfl) (by rfl) ?_ | refine AtG.mkG ?_ | refine StoreG.mk (by simp (disch := (first | omega | (simp only [Hp.next_new, Hp.next_put]; omega))) only [Hp.at_new_self, Hp.at_put_self, Hp.at_new_lt, Hp.at_put_ne, a3] <;> rfl) (by first | omega | (simp; done) | (simp; omega)) ?_ | refine CondG.mkG ?_ | fail); (all_goals (try dsimp only))
        refine cS_go hO (by show (cutP l 1).1.length ≤ _; omega) ?_
        by_cases hnm : nameE (cutP l 1).1 = 0
        · have hnm' : nameE (cutP l (1 : UInt8).toNat).1 = 0 := hnm
          rw [hnm']
          (try unfold vMov); repeat' (first | refine Step.imp ?_ | (refine Way.mk (fun hp => ?_) (fun hp => ?_) <;> first | contradiction | (exfalso; omega) | skip) | refine LoadG.mk (by simp (disch := (first | omega | (simp only [Hp.next_new, Hp.next_put]; omega))) only [Hp.at_new_self, Hp.at_put_self, Hp.at_new_lt, Hp.at_put_ne, a3] <;> rfl) (by simp only [cellAt_row', setL_cons0, setL_succ, Nat.reduceAdd, Nat.reduceMul, Nat.zero_add, Nat.add_zero, List.getElem?_cons_succ, List.getElem?_cons_zero]; rfl) ?_ | refine LoadsG.mk (by simp (disch := (first | omega | (simp only [Hp.next_new, Hp.next_put]; omega))) only [Hp.at_new_self, Hp.at_put_self, Hp.at_new_lt, Hp.at_put_ne, a3] <;> rfl) (by rfl) ?_ | refine AtG.mkG ?_ | refine StoreG.mk (by simp (disch := (first | omega | (simp only [Hp.next_new, Hp.next_put]; omega))) only [Hp.at_new_self, Hp.at_put_self, Hp.at_new_lt, Hp.at_put_ne, a3] <;> rfl) (by first | omega | (simp; done) | (simp; omega)) ?_ | refine CondG.mkG ?_ | fail); (all_goals (try dsimp only))
          refine cSuf_go hS ⟨bt, bn⟩ (fun h4 x4 => ?_)
          have l1 := itoa_length_le t bt.1 bt.2
          have l2 := itoa_length_le n bn.1 bn.2
          have xx4 := Ext.trans (show Ext h3 _ from (by repeat (first | exact Ext.refl _ | assumption | apply Ext.new | (refine Ext.put ?_ _ (by first | omega | (simp; done) | (simp; omega)))))) x4
          have xh4 : Ext h h4 := xh3.trans xx4
          have a4 : h4.at h.next = some ⟨true, 2, .row [I 0, I 0]⟩ := (xx4.same _ lt3).trans a3
          have b4 : h4.at h3.next = some ⟨true, 2, .row [I t, I n]⟩ := by
            rw [x4.same h3.next (by simp only [Hp.next_put, Hp.next_new]; omega), Hp.at_put_self]
            rfl
          have lt4 : h.next < h4.next := Nat.lt_of_lt_of_le lt3 xx4.next
          have ne4 : ¬ h3.next = h.next := by omega
          have hcl : (cutP l (1 : UInt8).toNat).1.length + (sufB t n).length ≤ 9223372036854775807 := by
            have h50 : (sufB t n).length ≤ 50 := by
              unfold sufB
              simp only [List.length_append, List.length_singleton]
              omega
            have e1 : (cutP l (1 : UInt8).toNat).1.length = (cutP l 1).1.length := rfl
            omega
          by_cases he : (cutP l 1).1 ++ sufB t n = l
          · (try unfold vMov); repeat' (first | refine Step.imp ?_ | (refine Way.mk (fun hp => ?_) (fun hp => ?_) <;> first | contradiction | (exfalso; omega) | skip) | refine LoadG.mk (by simp (disch := (first | omega | (simp only [Hp.next_new, Hp.next_put]; omega))) only [Hp.at_new_self, Hp.at_put_self, Hp.at_new_lt, Hp.at_put_ne, a4, b4] <;> rfl) (by simp only [cellAt_row', setL_cons0, setL_succ, Nat.reduceAdd, Nat.reduceMul, Nat.zero_add, Nat.add_zero, List.getElem?_cons_succ, List.getElem?_cons_zero]; rfl) ?_ | refine LoadsG.mk (by simp (disch := (first | omega | (simp only [Hp.next_new, Hp.next_put]; omega))) only [Hp.at_new_self, Hp.at_put_self, Hp.at_new_lt, Hp.at_put_ne, a4, b4] <;> rfl) (by rfl) ?_ | refine AtG.mkG ?_ | refine StoreG.mk (by simp (disch := (first | omega | (simp only [Hp.next_new, Hp.next_put]; omega))) only [Hp.at_new_self, Hp.at_put_self, Hp.at_new_lt, Hp.at_put_ne, a4, b4] <;> rfl) (by first | omega | (simp; done) | (simp; omega)) ?_ | refine CondG.mkG ?_ | (refine CondG.mk hcl ?_) | (refine LoadsG.mk b4 (by rfl) ?_) | (refine StoreG.mk a4 (by simp) ?_) | fail); (all_goals (try dsimp only))
            all_goals first
              | contradiction
              | exact absurd he (by assumption)
              | exact good ⟨hv, hnm, he⟩ _ (by repeat (first | exact Ext.refl _ | assumption | apply Ext.new | (refine Ext.put ?_ _ (by first | omega | (simp; done) | (simp; omega)))))
              | trace_state
          · (try unfold vMov); repeat' (first | refine Step.imp ?_ | (refine Way.mk (fun hp => ?_) (fun hp => ?_) <;> first | contradiction | (exfalso; omega) | skip) | refine LoadG.mk (by simp (disch := (first | omega | (simp only [Hp.next_new, Hp.next_put]; omega))) only [Hp.at_new_self, Hp.at_put_self, Hp.at_new_lt, Hp.at_put_ne, a4, b4] <;> rfl) (by simp only [cellAt_row', setL_cons0, setL_succ, Nat.reduceAdd, Nat.reduceMul, Nat.zero_add, Nat.add_zero, List.getElem?_cons_succ, List.getElem?_cons_zero]; rfl) ?_ | refine LoadsG.mk (by simp (disch := (first | omega | (simp only [Hp.next_new, Hp.next_put]; omega))) only [Hp.at_new_self, Hp.at_put_self, Hp.at_new_lt, Hp.at_put_ne, a4, b4] <;> rfl) (by rfl) ?_ | refine AtG.mkG ?_ | refine StoreG.mk (by simp (disch := (first | omega | (simp only [Hp.next_new, Hp.next_put]; omega))) only [Hp.at_new_self, Hp.at_put_self, Hp.at_new_lt, Hp.at_put_ne, a4, b4] <;> rfl) (by first | omega | (simp; done) | (simp; omega)) ?_ | refine CondG.mkG ?_ | (refine CondG.mk hcl ?_) | (refine LoadsG.mk b4 (by rfl) ?_) | (refine StoreG.mk a4 (by simp) ?_) | fail); (all_goals (try dsimp only))
            all_goals first
              | exact absurd (by assumption) he
              | exact bad (fun q => he q.2.2) _ (by repeat (first | exact Ext.refl _ | assumption | apply Ext.new | (refine Ext.put ?_ _ (by first | omega | (simp; done) | (simp; omega)))))
              | trace_state
        · have hnm' : ¬ nameE (cutP l (1 : UInt8).toNat).1 = 0 := hnm
          (try unfold vMov); repeat' (first | refine Step.imp ?_ | (refine Way.mk (fun hp => ?_) (fun hp => ?_) <;> first | contradiction | (exfalso; omega) | skip) | refine LoadG.mk (by simp (disch := (first | omega | (simp only [Hp.next_new, Hp.next_put]; omega))) only [Hp.at_new_self, Hp.at_put_self, Hp.at_new_lt, Hp.at_put_ne, a3] <;> rfl) (by simp only [cellAt_row', setL_cons0, setL_succ, Nat.reduceAdd, Nat.reduceMul, Nat.zero_add, Nat.add_zero, List.getElem?_cons_succ, List.getElem?_cons_zero]; rfl) ?_ | refine LoadsG.mk (by simp (disch := (first | omega | (simp only [Hp.next_new, Hp.next_put]; omega))) only [Hp.at_new_self, Hp.at_put_self, Hp.at_new_lt, Hp.at_put_ne, a3] <;> rfl) (by rfl) ?_ | refine AtG.mkG ?_ | refine StoreG.mk (by simp (disch := (first | omega | (simp only [Hp.next_new, Hp.next_put]; omega))) only [Hp.at_new_self, Hp.at_put_self, Hp.at_new_lt, Hp.at_put_ne, a3] <;> rfl) (by first | omega | (simp; done) | (simp; omega)) ?_ | refine CondG.mkG ?_ | fail); (all_goals (try dsimp only))
          all_goals first
            | contradiction
            | exact bad (fun q => hnm q.2.1) _ (by repeat (first | exact Ext.refl _ | assumption | apply Ext.new | (refine Ext.put ?_ _ (by first | omega | (simp; done) | (simp; omega)))))
            | trace_state
      · (try unfold vMov); repeat' (first | refine Step.imp ?_ | (refine Way.mk (fun hp => ?_) (fun hp => ?_) <;> first | contradiction | (exfalso; omega) | skip) | refine LoadG.mk (by simp (disch := (first | omega | (simp only [Hp.next_new, Hp.next_put]; omega))) only [Hp.at_new_self, Hp.at_put_self, Hp.at_new_lt, Hp.at_put_ne, a3] <;> rfl) (by simp only [cellAt_row', setL_cons0, setL_succ, Nat.reduceAdd, Nat.reduceMul, Nat.zero_add, Nat.add_zero, List.getElem?_cons_succ, List.getElem?_cons_zero]; rfl) ?_ | refine LoadsG.mk (by simp (disch := (first | omega | (simp only [Hp.next_new, Hp.next_put]; omega))) only [Hp.at_new_self, Hp.at_put_self, Hp.at_new_lt, Hp.at_put_ne, a3] <;> rfl) (by rfl) ?_ | refine AtG.mkG ?_ | refine StoreG.mk (by simp (disch := (first | omega | (simp only [Hp.next_new, Hp.next_put]; omega))) only [Hp.at_new_self, Hp.at_put_self, Hp.at_new_lt, Hp.at_put_ne, a3] <;> rfl) (by first | omega | (simp; done) | (simp; omega)) ?_ | refine CondG.mkG ?_ | fail); (all_goals (try dsimp only))
        exact bad (fun q => by rw [hv] at q; cases q.1) _ (by repeat (first | exact Ext.refl _ | assumption | apply Ext.new | (refine Ext.put ?_ _ (by first | omega | (simp; done) | (simp; omega)))))
    · have x13 := x2.trans x3
      have a3 : h3.at h.next = some ⟨true, 2, .row [I 0, I 0]⟩ := (x13.same _ hlt1).trans a1
      have lt3 : h.next < h3.next := Nat.lt_of_lt_of_le hlt1 x13.next
      have xh3 : Ext h h3 := x1.trans x13
      have sF : splitF l = (l, 0, 0, false) := by
        unfold splitF
        rw [show numF (cutP (cutP l 1).2.1 46).1 = some t from ht, show numF (cutP (cutP l 1).2.1 46).2.1 = none from hn]
      rw [sF] at hK
      (try unfold vMov); repeat' (first | refine Step.imp ?_ | (refine Way.mk (fun hp => ?_) (fun hp => ?_) <;> first | contradiction | (exfalso; omega) | skip) | refine LoadG.mk (by simp (disch := (first | omega | (simp only [Hp.next_new, Hp.next_put]; omega))) only [Hp.at_new_self, Hp.at_put_self, Hp.at_new_lt, Hp.at_put_ne, a3] <;> rfl) (by simp only [cellAt_row', setL_cons0, setL_succ, Nat.reduceAdd, Nat.reduceMul, Nat.zero_add, Nat.add_zero, List.getElem?_cons_succ, List.getElem?_cons_zero]; rfl) ?_ | refine LoadsG.mk (by simp (disch := (first | omega | (simp only [Hp.next_new, Hp.next_put]; omega))) only [Hp.at_new_self, Hp.at_put_self, Hp.at_new_lt, Hp.at_put_ne, a3] <;> rfl) (by rfl) ?_ | refine AtG.mkG ?_ | refine StoreG.mk (by simp (disch := (first | omega | (simp only [Hp.next_new, Hp.next_put]; omega))) only [Hp.at_new_self, Hp.at_put_self, Hp.at_new_lt, Hp.at_put_ne, a3] <;> rfl) (by first | omega | (simp; done) | (simp; omega)) ?_ | refine CondG.mkG ?_ | fail); (all_goals (try dsimp only))
      exact hK _ (by repeat (first | exact Ext.refl _ | assumption | apply Ext.new | (refine Ext.put ?_ _ (by first | omega | (simp; done) | (simp; omega)))))
  · have sF : splitF l = (l, 0, 0, false) := by
      unfold splitF
      rw [show numF (cutP (cutP l 1).2.1 46).1 = none from ht]
    rw [sF] at hK
    (try unfold vMov); repeat' (first | refine Step.imp ?_ | (refine Way.mk (fun hp => ?_) (fun hp => ?_) <;> first | contradiction | (exfalso; omega) | skip) | refine LoadG.mkG ?_ | refine LoadsG.mkG ?_ | refine AtG.mkG ?_ | refine StoreG.mkG ?_ | refine CondG.mkG ?_ | fail); (all_goals (try dsimp only))
    refine cNum_go hN (by show (cutP (cutP l 1).2.1 46).2.1.length ≤ _; omega) (fun n hn bn h3 x3 => ?_) (fun hn n bn h3 x3 => ?_)
    all_goals
      have x13 := x2.trans x3
      have xh3 : Ext h h3 := x1.trans x13
      have a3 : h3.at h.next = some ⟨true, 2, .row [I 0, I 0]⟩ := (x13.same _ hlt1).trans a1
      have lt3 : h.next < h3.next := Nat.lt_of_lt_of_le hlt1 x13.next
      (try unfold vMov); repeat' (first | refine Step.imp ?_ | (refine Way.mk (fun hp => ?_) (fun hp => ?_) <;> first | contradiction | (exfalso; omega) | skip) | refine LoadG.mk (by simp (disch := (first | omega | (simp only [Hp.next_new, Hp.next_put]; omega))) only [Hp.at_new_self, Hp.at_put_self, Hp.at_new_lt, Hp.at_put_ne, a3] <;> rfl) (by simp only [cellAt_row', setL_cons0, setL_succ, Nat.reduceAdd, Nat.reduceMul, Nat.zero_add, Nat.add_zero, List.getElem?_cons_succ, List.getElem?_cons_zero]; rfl) ?_ | refine LoadsG.mk (by simp (disch := (first | omega | (simp only [Hp.next_new, Hp.next_put]; omega))) only [Hp.at_new_self, Hp.at_put_self, Hp.at_new_lt, Hp.at_put_ne, a3] <;> rfl) (by rfl) ?_ | refine AtG.mkG ?_ | refine StoreG.mk (by simp (disch := (first | omega | (simp only [Hp.next_new, Hp.next_put]; omega))) only [Hp.at_new_self, Hp.at_put_self, Hp.at_new_lt, Hp.at_put_ne, a3] <;> rfl) (by first | omega | (simp; done) | (simp; omega)) ?_ | refine CondG.mkG ?_ | fail); (all_goals (try dsimp only))
      exact hK _ (by repeat (first | exact Ext.refl _ | assumption | apply Ext.new | (refine Ext.put ?_ _ (by first | omega | (simp; done) | (simp; omega)))))
end
end Lg

namespace Lg
set_option linter.unusedSimpArgs false
set_option linter.unusedVariables false
set_option maxRecDepth 100000
open Go Go.Am Go.Lib
open Go.Proofs.YtnhamanffojhfaaDoor.shl
theorem wrap64_add (a b : Int) : IntKind.i64.wrap (IntKind.i64.wrap a + b) = IntKind.i64.wrap (a + b) := by
  have key : ∀ x : Int, IntKind.i64.wrap x = (x + 9223372036854775808) % 18446744073709551616 - 9223372036854775808 := fun x => by
    simp only [IntKind.wrap, IntKind.bits, IntKind.signed]
    simp
    split <;> omega
  rw [key, key, key]
  omega
theorem all_at {l : List UInt8} {i : Nat} (hi : i < l.length) (hn : isDig l[i] = false) : l.all isDig = false := by
  cases hq : l.all isDig with
  | false => rfl
  | true =>
    have := List.all_eq_true.1 hq _ (List.getElem_mem hi)
    rw [hn] at this
    cases this
section
variable (cf : CallK) (fuel : Nat) {h : Hp} {K : AV → Hp → Prop}
theorem idxSN {l : List UInt8} {i : Nat} (hi : i < l.length) {h : Hp} {K : AV → Hp → Prop} (q : K (.int .u8 (l[i].toNat : Int)) h) : vIdxS (S l) (I i) h K := by
  rw [vIdxS_S l .i64 (i : Int) (by omega) (by omega)]
  exact q
theorem numberL1_run (l : List UInt8) (h19 : l.length ≤ 19) (e0 : AV → Hp → Prop) (he : l.all isDig = true → e0 (I (IntKind.i64.wrap (valF 0 l))) h) (hbad : l.all isDig = false → K (I (-1)) h) :
    ∀ (d i fm : Nat), i + d = l.length → d < fm → (l.take i).all isDig = true → s_lagoonref15_numberL1 cf fuel K e0 (S l) fm (I (IntKind.i64.wrap (valF 0 (l.take i)))) (I i) h
  | d, i, fm, hd, hm, hall => by
    obtain ⟨fm, rfl⟩ : ∃ j, fm = j + 1 := ⟨fm - 1, by omega⟩
    rw [s_lagoonref15_numberL1_succ]
    unfold s_lagoonref15_numberL1B
    by_cases hi : i < l.length
    · obtain ⟨d, rfl⟩ : ∃ j, d = j + 1 := ⟨d - 1, by omega⟩
      have e1 : ((i : Int) + 1) = ((i + 1 : Nat) : Int) := by omega
      have h18 : valF 0 (l.take i) < 1000000000000000000 := by
        have h1 := valF_lt _ hall
        have h2 : (l.take i).length ≤ 18 := by rw [List.length_take]; omega
        have h3 : 10 ^ (l.take i).length ≤ 10 ^ 18 := Nat.pow_le_pow_right (by omega) h2
        have h4 : (10 : Nat) ^ 18 = 1000000000000000000 := by decide
        omega
      rw [wrap64_in (by omega) (by omega)]
      have hc := (l[i]).toNat_lt
      have hsnoc : l.take (i + 1) = l.take i ++ [l[i]] := by rw [List.take_add_one, List.getElem?_eq_getElem hi]; rfl
      have hvs := valF_snoc 0 (l.take i) l[i]
      rw [← hsnoc] at hvs
      have hal : (l.take (i + 1)).all isDig = ((l.take i).all isDig && isDig l[i]) := by rw [hsnoc, List.all_append]; simp
      have hix : ∀ (h' : Hp) (K' : AV → Hp → Prop), vIdxS (S l) (I i) h' K' = K' (.int .u8 (l[i].toNat : Int)) h' := fun h' K' => by rw [vIdxS_S l .i64 (i : Int) (by omega) (by omega)]; rfl
      have nd : isDig l[i] = false → K (I (-1)) h := fun q => hbad (all_at hi q)
      have yd : isDig l[i] = true → s_lagoonref15_numberL1 cf fuel K e0 (S l) fm (I (IntKind.i64.wrap (valF 0 (l.take (i + 1))))) (I ((i + 1 : Nat) : Int)) h := fun q => numberL1_run l h19 e0 he hbad d (i + 1) fm (by omega) (by omega) (by rw [hal, hall, q]; rfl)
      rw [hvs] at yd
      have hdef : isDig l[i] = (decide (48 ≤ (l[i]).toNat) && decide ((l[i]).toNat ≤ 57)) := rfl
      generalize valF 0 (l.take i) = n at *
      generalize hcc : (l[i]).toNat = c at *
      have mulE : ((10 : Int) * (n : Int)) = ((10 * n : Nat) : Int) := by omega
      refine Step.imp ?_
      refine Step.imp (Way.mk (fun hp => ?_) (fun hp => by omega))
      refine Step.imp ?_
      unfold s_lagoonref15_numberB9
      dsimp only
      rw [hix]
      by_cases h1 : c < 48
      · have q : isDig l[i] = false := by rw [hdef]; simp; omega
        (try unfold vMov); repeat' (first | refine Step.imp ?_ | (refine Way.mk (fun hp => ?_) (fun hp => ?_) <;> first | contradiction | (exfalso; omega) | skip) | refine LoadG.mkG ?_ | refine LoadsG.mkG ?_ | refine AtG.mkG ?_ | refine StoreG.mkG ?_ | refine CondG.mkG ?_ | fail); (all_goals (try dsimp only))
        exact nd q
      · by_cases h2 : 57 < c
        · have q : isDig l[i] = false := by rw [hdef]; simp; omega
          (try unfold vMov); repeat' (first | refine Step.imp ?_ | (refine Way.mk (fun hp => ?_) (fun hp => ?_) <;> first | contradiction | (exfalso; omega) | skip) | refine LoadG.mkG ?_ | refine LoadsG.mkG ?_ | refine AtG.mkG ?_ | refine StoreG.mkG ?_ | refine CondG.mkG ?_ | fail); (all_goals (try dsimp only))
          refine ⟨by omega, by omega, ?_⟩
          rw [show (l[((i : Nat) : Int).toNat]'(by simp; omega)).toNat = c from hcc]
          (try unfold vMov); repeat' (first | refine Step.imp ?_ | (refine Way.mk (fun hp => ?_) (fun hp => ?_) <;> first | contradiction | (exfalso; omega) | skip) | refine LoadG.mkG ?_ | refine LoadsG.mkG ?_ | refine AtG.mkG ?_ | refine StoreG.mkG ?_ | refine CondG.mkG ?_ | fail); (all_goals (try dsimp only))
          exact nd q
        · have q : isDig l[i] = true := by rw [hdef]; simp; omega
          have fin := yd q
          have hw : IntKind.i64.wrap (IntKind.i64.wrap ((10 : Int) * (n : Int)) + ((c : Int) - 48)) = IntKind.i64.wrap ((n * 10 + (c - 48) : Nat) : Int) := by
            rw [wrap64_add]
            congr 1
            omega
          (try unfold vMov); repeat' (first | refine Step.imp ?_ | (refine Way.mk (fun hp => ?_) (fun hp => ?_) <;> first | contradiction | (exfalso; omega) | skip) | refine LoadG.mkG ?_ | refine LoadsG.mkG ?_ | refine AtG.mkG ?_ | refine StoreG.mkG ?_ | refine CondG.mkG ?_ | fail); (all_goals (try dsimp only))
          refine ⟨by omega, by omega, ?_⟩
          rw [show (l[((i : Nat) : Int).toNat]'(by simp; omega)).toNat = c from hcc]
          (try unfold vMov); repeat' (first | refine Step.imp ?_ | (refine Way.mk (fun hp => ?_) (fun hp => ?_) <;> first | contradiction | (exfalso; omega) | skip) | refine LoadG.mkG ?_ | refine LoadsG.mkG ?_ | refine AtG.mkG ?_ | refine StoreG.mkG ?_ | refine CondG.mkG ?_ | fail); (all_goals (try dsimp only))
          rw [vMul_int]
          (try unfold vMov); repeat' (first | refine Step.imp ?_ | (refine Way.mk (fun hp => ?_) (fun hp => ?_) <;> first | contradiction | (exfalso; omega) | skip) | refine LoadG.mkG ?_ | refine LoadsG.mkG ?_ | refine AtG.mkG ?_ | refine StoreG.mkG ?_ | refine CondG.mkG ?_ | fail); (all_goals (try dsimp only))
          refine ⟨by omega, by omega, ?_⟩
          rw [show (l[((i : Nat) : Int).toNat]'(by simp; omega)).toNat = c from hcc]
          rw [vSub_int, wrap8_in (by omega) (by omega), vToInt_int, show IntKind.i64.wrap ((c : Int) - 48) = (c : Int) - 48 from wrap64_in (by omega) (by omega), vAdd_int, hw]
          (try unfold vMov); repeat' (first | refine Step.imp ?_ | (refine Way.mk (fun hp => ?_) (fun hp => ?_) <;> first | contradiction | (exfalso; omega) | skip) | refine LoadG.mkG ?_ | refine LoadsG.mkG ?_ | refine AtG.mkG ?_ | refine StoreG.mkG ?_ | refine CondG.mkG ?_ | fail); (all_goals (try dsimp only))
          rw [e1]
          exact fin
    · have hd0 : d = 0 := by omega
      subst hd0
      have : l.take i = l := List.take_of_length_le (by omega)
      rw [this] at hall ⊢
      (try unfold vMov); repeat' (first | refine Step.imp ?_ | (refine Way.mk (fun hp => ?_) (fun hp => ?_) <;> first | contradiction | (exfalso; omega) | skip) | refine LoadG.mkG ?_ | refine LoadsG.mkG ?_ | refine AtG.mkG ?_ | refine StoreG.mkG ?_ | refine CondG.mkG ?_ | fail); (all_goals (try dsimp only))
      exact he hall
def cNumG : ConD := fun args h K => ∃ l, args = [S l] ∧ l.length ≤ 140737488355328 ∧ K (I (numG l)) h
theorem cNumG_go {cf : CallK} {g : FuncId} (hg : cf g = cNumG) {l : List UInt8} (hl : l.length ≤ 140737488355328) (hK : K (I (numG l)) h) : cf g [S l] h K := by rw [hg]; exact ⟨l, rfl, hl, hK⟩
theorem numberG_run (l : List UInt8) (hl : l.length ≤ 140737488355328) (hf : 25 < fuel) (hK : K (I (numG l)) h) : s_lagoonref15_number cf fuel (S l) h K := by
  unfold s_lagoonref15_number
  rw [S_nil]
  have hbad : (l = [] ∨ (l.head? = some 48 ∧ 1 < l.length) ∨ 19 < l.length) → K (I (-1)) h := fun q => by
    unfold numG at hK
    rw [if_pos q] at hK
    exact hK
  have hloop : ¬ (l = [] ∨ (l.head? = some 48 ∧ 1 < l.length) ∨ 19 < l.length) → s_lagoonref15_numberL1 cf fuel K (s_lagoonref15_numberE0 cf fuel K) (S l) fuel (I 0) (I 0) h := fun q => by
    unfold numG at hK
    rw [if_neg q] at hK
    refine numberL1_run cf fuel l (by rcases Nat.lt_or_ge 19 l.length with r | r; exact absurd (.inr (.inr r)) q; exact r) _ (fun ha => ?_) (fun ha => ?_) l.length 0 fuel (by omega) (by
      rcases Nat.lt_or_ge 19 l.length with r | r
      · exact absurd (.inr (.inr r)) q
      · omega) rfl
    · unfold s_lagoonref15_numberE0
      rw [if_pos ha] at hK
      exact hK
    · rw [ha] at hK
      exact hK
  cases l with
  | nil =>
    have := hbad (.inl rfl)
    (try unfold vMov); repeat' (first | refine Step.imp ?_ | (refine Way.mk (fun hp => ?_) (fun hp => ?_) <;> first | contradiction | (exfalso; omega) | skip) | refine LoadG.mkG ?_ | refine LoadsG.mkG ?_ | refine AtG.mkG ?_ | refine StoreG.mkG ?_ | refine CondG.mkG ?_ | fail); (all_goals (try dsimp only))
    exact this
  | cons c r =>
    have hc := c.toNat_lt
    have ne : ¬ (c :: r) = [] := by simp
    have lenE : (c :: r).length = r.length + 1 := rfl
    have hcond : (c :: r = [] ∨ ((c :: r).head? = some 48 ∧ 1 < (c :: r).length) ∨ 19 < (c :: r).length) ↔ ((c.toNat = 48 ∧ 1 < (c :: r).length) ∨ 19 < (c :: r).length) := by
      constructor
      · rintro (q | ⟨q1, q2⟩ | q)
        · exact absurd q ne
        · simp only [List.head?_cons, Option.some.injEq] at q1
          exact .inl ⟨by rw [q1]; rfl, q2⟩
        · exact .inr q
      · rintro (⟨q1, q2⟩ | q)
        · refine .inr (.inl ⟨?_, q2⟩)
          simp only [List.head?_cons, Option.some.injEq]
          exact UInt8.toNat_inj.1 q1
        · exact .inr (.inr q)
    rw [hcond] at hbad hloop
    generalize hcc : c.toNat = m at *
    (try unfold vMov); repeat' (first | refine Step.imp ?_ | (refine Way.mk (fun hp => ?_) (fun hp => ?_) <;> first | contradiction | (exfalso; omega) | skip) | refine LoadG.mkG ?_ | refine LoadsG.mkG ?_ | refine AtG.mkG ?_ | refine StoreG.mkG ?_ | refine CondG.mkG ?_ | fail); (all_goals (try dsimp only))
    refine ⟨by omega, by rw [lenE]; omega, ?_⟩
    rw [show ((c :: r)[(0 : Int).toNat]'(by simp)).toNat = m from hcc]
    by_cases h48 : m = 48
    · by_cases h1 : 1 < (c :: r).length
      · have := hbad (.inl ⟨h48, h1⟩)
        (try unfold vMov); repeat' (first | refine Step.imp ?_ | (refine Way.mk (fun hp => ?_) (fun hp => ?_) <;> first | contradiction | (exfalso; omega) | skip) | refine LoadG.mkG ?_ | refine LoadsG.mkG ?_ | refine AtG.mkG ?_ | refine StoreG.mkG ?_ | refine CondG.mkG ?_ | fail); (all_goals (try dsimp only))
        exact this
      · have := hloop (by omega)
        (try unfold vMov); repeat' (first | refine Step.imp ?_ | (refine Way.mk (fun hp => ?_) (fun hp => ?_) <;> first | contradiction | (exfalso; omega) | skip) | refine LoadG.mkG ?_ | refine LoadsG.mkG ?_ | refine AtG.mkG ?_ | refine StoreG.mkG ?_ | refine CondG.mkG ?_ | fail); (all_goals (try dsimp only))
        exact this
    · by_cases h19 : 19 < (c :: r).length
      · have := hbad (.inr h19)
        (try unfold vMov); repeat' (first | refine Step.imp ?_ | (refine Way.mk (fun hp => ?_) (fun hp => ?_) <;> first | contradiction | (exfalso; omega) | skip) | refine LoadG.mkG ?_ | refine LoadsG.mkG ?_ | refine AtG.mkG ?_ | refine StoreG.mkG ?_ | refine CondG.mkG ?_ | fail); (all_goals (try dsimp only))
        exact this
      · have := hloop (by omega)
        (try unfold vMov); repeat' (first | refine Step.imp ?_ | (refine Way.mk (fun hp => ?_) (fun hp => ?_) <;> first | contradiction | (exfalso; omega) | skip) | refine LoadG.mkG ?_ | refine LoadsG.mkG ?_ | refine AtG.mkG ?_ | refine StoreG.mkG ?_ | refine CondG.mkG ?_ | fail); (all_goals (try dsimp only))
        exact this
/-- lagoonref15.Split. -/
def splitG (l : List UInt8) : List UInt8 × Int × Int × Bool := match fiN l 1 with
  | none => (l, 0, 0, false)
  | some i => match fiN (l.drop (i + 1)) 46 with
    | none => (l, 0, 0, false)
    | some k => if (0 ≤ numG ((l.drop (i + 1)).drop (k + 1)) ∧ numG ((l.drop (i + 1)).drop (k + 1)) < 64) ∧ validB (numG ((l.drop (i + 1)).take k)) (numG ((l.drop (i + 1)).drop (k + 1))) = true ∧ nameE (l.take i) = 0 then (l.take i, numG ((l.drop (i + 1)).take k), numG ((l.drop (i + 1)).drop (k + 1)), true) else (l, 0, 0, false)
theorem splitB15_run (hN : cf 32 = cNumG) (hV : cf 10 = cIdB validB) (hM : cf 11 = cS nameE) {h0 : Hp} {o3 : Nat} (hat : h.at o3 = some ⟨true, 2, .row [I 0, I 0]⟩) (lt3 : o3 < h.next) (hx : Ext h0 h) (ho : h0.next ≤ o3) {l rest : List UInt8} {i k : Nat} (hi : i < l.length) (hk : k < rest.length) (hl : l.length ≤ 1000000000) (hr : rest.length ≤ 1000000000)
    (hK : ∀ h', Ext h0 h' → K (spAV (if (0 ≤ numG (rest.drop (k + 1)) ∧ numG (rest.drop (k + 1)) < 64) ∧ validB (numG (rest.take k)) (numG (rest.drop (k + 1))) = true ∧ nameE (l.take i) = 0 then (l.take i, numG (rest.take k), numG (rest.drop (k + 1)), true) else (l, 0, 0, false))) h') : s_lagoonref15_SplitB15 cf fuel K (I k) (S rest) (S l) (.ptr o3 0) (I i) h := by
  unfold s_lagoonref15_SplitB15
  have e1 : ((k : Int) + 1).toNat = k + 1 := by omega
  have e2 : ((k : Nat) : Int).toNat = k := by omega
  have e3 : ((i : Nat) : Int).toNat = i := by omega
  (try unfold vMov); repeat' (first | refine Step.imp ?_ | (refine Way.mk (fun hp => ?_) (fun hp => ?_) <;> first | contradiction | (exfalso; omega) | skip) | refine LoadG.mkG ?_ | refine LoadsG.mkG ?_ | refine AtG.mkG ?_ | refine StoreG.mkG ?_ | refine CondG.mkG ?_ | fail); (all_goals (try dsimp only))
  rw [e1]
  refine cNumG_go hN (by rw [List.length_drop]; omega) ?_
  (try unfold vMov); repeat' (first | refine Step.imp ?_ | (refine Way.mk (fun hp => ?_) (fun hp => ?_) <;> first | contradiction | (exfalso; omega) | skip) | refine LoadG.mkG ?_ | refine LoadsG.mkG ?_ | refine AtG.mkG ?_ | refine StoreG.mkG ?_ | refine CondG.mkG ?_ | fail); (all_goals (try dsimp only))
  rw [e2]
  refine cNumG_go hN (by rw [List.length_take]; omega) ?_
  generalize numG (rest.drop (k + 1)) = n at *
  generalize numG (rest.take k) = t at *
  have bad : ¬ ((0 ≤ n ∧ n < 64) ∧ validB t n = true ∧ nameE (l.take i) = 0) → ∀ h', Ext h0 h' → K (.tup [S l, .agg [I 0, I 0], .bool false]) h' := fun hb h' x => by
    have := hK h' x
    rw [if_neg hb] at this
    exact this
  have good : ((0 ≤ n ∧ n < 64) ∧ validB t n = true ∧ nameE (l.take i) = 0) → ∀ h', Ext h0 h' → K (.tup [S (l.take i), .agg [I t, I n], .bool true]) h' := fun hb h' x => by
    have := hK h' x
    rw [if_pos hb] at this
    exact this
  have nx := hx.next
  by_cases hn : 0 ≤ n ∧ n < 64
  · (try unfold vMov); repeat' (first | refine Step.imp ?_ | (refine Way.mk (fun hp => ?_) (fun hp => ?_) <;> first | contradiction | (exfalso; omega) | skip) | refine LoadG.mk (by simp (disch := (first | omega | (simp only [Hp.next_new, Hp.next_put]; omega))) only [Hp.at_new_self, Hp.at_put_self, Hp.at_new_lt, Hp.at_put_ne, hat] <;> rfl) (by simp only [cellAt_row', setL_cons0, setL_succ, Nat.reduceAdd, Nat.reduceMul, Nat.zero_add, Nat.add_zero, List.getElem?_cons_succ, List.getElem?_cons_zero]; rfl) ?_ | refine LoadsG.mk (by simp (disch := (first | omega | (simp only [Hp.next_new, Hp.next_put]; omega))) only [Hp.at_new_self, Hp.at_put_self, Hp.at_new_lt, Hp.at_put_ne, hat] <;> rfl) (by rfl) ?_ | refine AtG.mkG ?_ | refine StoreG.mk (by simp (disch := (first | omega | (simp only [Hp.next_new, Hp.next_put]; omega))) only [Hp.at_new_self, Hp.at_put_self, Hp.at_new_lt, Hp.at_put_ne, hat] <;> rfl) (by first | omega | (simp; done) | (simp; omega)) ?_ | refine CondG.mkG ?_ | fail); (all_goals (try dsimp only))
    unfold s_lagoonref15_SplitB12
    (try unfold vMov); repeat' (first | refine Step.imp ?_ | (refine Way.mk (fun hp => ?_) (fun hp => ?_) <;> first | contradiction | (exfalso; omega) | skip) | refine LoadG.mk (by simp (disch := (first | omega | (simp only [Hp.next_new, Hp.next_put]; omega))) only [Hp.at_new_self, Hp.at_put_self, Hp.at_new_lt, Hp.at_put_ne, hat] <;> rfl) (by simp only [cellAt_row', setL_cons0, setL_succ, Nat.reduceAdd, Nat.reduceMul, Nat.zero_add, Nat.add_zero, List.getElem?_cons_succ, List.getElem?_cons_zero]; rfl) ?_ | refine LoadsG.mk (by simp (disch := (first | omega | (simp only [Hp.next_new, Hp.next_put]; omega))) only [Hp.at_new_self, Hp.at_put_self, Hp.at_new_lt, Hp.at_put_ne, hat] <;> rfl) (by rfl) ?_ | refine AtG.mkG ?_ | refine StoreG.mk (by simp (disch := (first | omega | (simp only [Hp.next_new, Hp.next_put]; omega))) only [Hp.at_new_self, Hp.at_put_self, Hp.at_new_lt, Hp.at_put_ne, hat] <;> rfl) (by first | omega | (simp; done) | (simp; omega)) ?_ | refine CondG.mkG ?_ | fail); (all_goals (try dsimp only))
    refine cIdB_go hV (fun hv => ?_) (fun hv => ?_)
    · (try unfold vMov); repeat' (first | refine Step.imp ?_ | (refine Way.mk (fun hp => ?_) (fun hp => ?_) <;> first | contradiction | (exfalso; omega) | skip) | refine LoadG.mk (by simp (disch := (first | omega | (simp only [Hp.next_new, Hp.next_put]; omega))) only [Hp.at_new_self, Hp.at_put_self, Hp.at_new_lt, Hp.at_put_ne, hat] <;> rfl) (by simp only [cellAt_row', setL_cons0, setL_succ, Nat.reduceAdd, Nat.reduceMul, Nat.zero_add, Nat.add_zero, List.getElem?_cons_succ, List.getElem?_cons_zero]; rfl) ?_ | refine LoadsG.mk (by simp (disch := (first | omega | (simp only [Hp.next_new, Hp.next_put]; omega))) only [Hp.at_new_self, Hp.at_put_self, Hp.at_new_lt, Hp.at_put_ne, hat] <;> rfl) (by rfl) ?_ | refine AtG.mkG ?_ | refine StoreG.mk (by simp (disch := (first | omega | (simp only [Hp.next_new, Hp.next_put]; omega))) only [Hp.at_new_self, Hp.at_put_self, Hp.at_new_lt, Hp.at_put_ne, hat] <;> rfl) (by first | omega | (simp; done) | (simp; omega)) ?_ | refine CondG.mkG ?_ | fail); (all_goals (try dsimp only))
      rw [e3]
      refine cS_go hM (by rw [List.length_take]; omega) ?_
      by_cases hnm : nameE (l.take i) = 0
      · (try unfold vMov); repeat' (first | refine Step.imp ?_ | (refine Way.mk (fun hp => ?_) (fun hp => ?_) <;> first | contradiction | (exfalso; omega) | skip) | refine LoadG.mk (by simp (disch := (first | omega | (simp only [Hp.next_new, Hp.next_put]; omega))) only [Hp.at_new_self, Hp.at_put_self, Hp.at_new_lt, Hp.at_put_ne, hat] <;> rfl) (by simp only [cellAt_row', setL_cons0, setL_succ, Nat.reduceAdd, Nat.reduceMul, Nat.zero_add, Nat.add_zero, List.getElem?_cons_succ, List.getElem?_cons_zero]; rfl) ?_ | refine LoadsG.mk (by simp (disch := (first | omega | (simp only [Hp.next_new, Hp.next_put]; omega))) only [Hp.at_new_self, Hp.at_put_self, Hp.at_new_lt, Hp.at_put_ne, hat] <;> rfl) (by rfl) ?_ | refine AtG.mkG ?_ | refine StoreG.mk (by simp (disch := (first | omega | (simp only [Hp.next_new, Hp.next_put]; omega))) only [Hp.at_new_self, Hp.at_put_self, Hp.at_new_lt, Hp.at_put_ne, hat] <;> rfl) (by first | omega | (simp; done) | (simp; omega)) ?_ | refine CondG.mkG ?_ | fail); (all_goals (try dsimp only))
        rw [e3]
        exact good ⟨hn, hv, hnm⟩ _ (by repeat (first | exact Ext.refl _ | assumption | apply Ext.new | (refine Ext.put ?_ _ (by first | omega | (simp; done) | (simp; omega)))))
      · (try unfold vMov); repeat' (first | refine Step.imp ?_ | (refine Way.mk (fun hp => ?_) (fun hp => ?_) <;> first | contradiction | (exfalso; omega) | skip) | refine LoadG.mk (by simp (disch := (first | omega | (simp only [Hp.next_new, Hp.next_put]; omega))) only [Hp.at_new_self, Hp.at_put_self, Hp.at_new_lt, Hp.at_put_ne, hat] <;> rfl) (by simp only [cellAt_row', setL_cons0, setL_succ, Nat.reduceAdd, Nat.reduceMul, Nat.zero_add, Nat.add_zero, List.getElem?_cons_succ, List.getElem?_cons_zero]; rfl) ?_ | refine LoadsG.mk (by simp (disch := (first | omega | (simp only [Hp.next_new, Hp.next_put]; omega))) only [Hp.at_new_self, Hp.at_put_self, Hp.at_new_lt, Hp.at_put_ne, hat] <;> rfl) (by rfl) ?_ | refine AtG.mkG ?_ | refine StoreG.mk (by simp (disch := (first | omega | (simp only [Hp.next_new, Hp.next_put]; omega))) only [Hp.at_new_self, Hp.at_put_self, Hp.at_new_lt, Hp.at_put_ne, hat] <;> rfl) (by first | omega | (simp; done) | (simp; omega)) ?_ | refine CondG.mkG ?_ | fail); (all_goals (try dsimp only))
        exact bad (fun q => hnm q.2.2) _ (by repeat (first | exact Ext.refl _ | assumption | apply Ext.new | (refine Ext.put ?_ _ (by first | omega | (simp; done) | (simp; omega)))))
    · (try unfold vMov); repeat' (first | refine Step.imp ?_ | (refine Way.mk (fun hp => ?_) (fun hp => ?_) <;> first | contradiction | (exfalso; omega) | skip) | refine LoadG.mk (by simp (disch := (first | omega | (simp only [Hp.next_new, Hp.next_put]; omega))) only [Hp.at_new_self, Hp.at_put_self, Hp.at_new_lt, Hp.at_put_ne, hat] <;> rfl) (by simp only [cellAt_row', setL_cons0, setL_succ, Nat.reduceAdd, Nat.reduceMul, Nat.zero_add, Nat.add_zero, List.getElem?_cons_succ, List.getElem?_cons_zero]; rfl) ?_ | refine LoadsG.mk (by simp (disch := (first | omega | (simp only [Hp.next_new, Hp.next_put]; omega))) only [Hp.at_new_self, Hp.at_put_self, Hp.at_new_lt, Hp.at_put_ne, hat] <;> rfl) (by rfl) ?_ | refine AtG.mkG ?_ | refine StoreG.mk (by simp (disch := (first | omega | (simp only [Hp.next_new, Hp.next_put]; omega))) only [Hp.at_new_self, Hp.at_put_self, Hp.at_new_lt, Hp.at_put_ne, hat] <;> rfl) (by first | omega | (simp; done) | (simp; omega)) ?_ | refine CondG.mkG ?_ | fail); (all_goals (try dsimp only))
      exact bad (fun q => by rw [hv] at q; cases q.2.1) _ (by repeat (first | exact Ext.refl _ | assumption | apply Ext.new | (refine Ext.put ?_ _ (by first | omega | (simp; done) | (simp; omega)))))
  · (try unfold vMov); repeat' (first | refine Step.imp ?_ | (refine Way.mk (fun hp => ?_) (fun hp => ?_) <;> first | contradiction | (exfalso; omega) | skip) | refine LoadG.mk (by simp (disch := (first | omega | (simp only [Hp.next_new, Hp.next_put]; omega))) only [Hp.at_new_self, Hp.at_put_self, Hp.at_new_lt, Hp.at_put_ne, hat] <;> rfl) (by simp only [cellAt_row', setL_cons0, setL_succ, Nat.reduceAdd, Nat.reduceMul, Nat.zero_add, Nat.add_zero, List.getElem?_cons_succ, List.getElem?_cons_zero]; rfl) ?_ | refine LoadsG.mk (by simp (disch := (first | omega | (simp only [Hp.next_new, Hp.next_put]; omega))) only [Hp.at_new_self, Hp.at_put_self, Hp.at_new_lt, Hp.at_put_ne, hat] <;> rfl) (by rfl) ?_ | refine AtG.mkG ?_ | refine StoreG.mk (by simp (disch := (first | omega | (simp only [Hp.next_new, Hp.next_put]; omega))) only [Hp.at_new_self, Hp.at_put_self, Hp.at_new_lt, Hp.at_put_ne, hat] <;> rfl) (by first | omega | (simp; done) | (simp; omega)) ?_ | refine CondG.mkG ?_ | fail); (all_goals (try dsimp only))
    all_goals exact bad (fun q => hn q.1) _ (by repeat (first | exact Ext.refl _ | assumption | apply Ext.new | (refine Ext.put ?_ _ (by first | omega | (simp; done) | (simp; omega)))))
end
end Lg

namespace Lg
set_option linter.unusedSimpArgs false
set_option linter.unusedVariables false
set_option maxRecDepth 100000
open Go Go.Am Go.Lib
open Go.Proofs.YtnhamanffojhfaaDoor.shl
theorem fiN_at {l : List UInt8} {b k : Nat} (hk : k < l.length) (hinv : fiN l b = (fiN (l.drop k) b).map (· + k)) : (l[k].toNat = b → fiN l b = some k) ∧ (l[k].toNat ≠ b → fiN l b = (fiN (l.drop (k + 1)) b).map (· + (k + 1))) := by
  rw [List.drop_eq_getElem_cons hk] at hinv
  unfold fiN at hinv
  constructor
  · intro h
    rw [if_pos h] at hinv
    cases hl : l with
    | nil => rw [hl] at hk; simp at hk
    | cons x r =>
      rw [hl] at hinv
      simpa [fiN] using hinv
  · intro h
    rw [if_neg h] at hinv
    have : fiN l b = Option.map (fun x => x + k) (Option.map (fun x => x + 1) (fiN (List.drop (k + 1) l) b)) := by
      cases hl : l with
      | nil => rw [hl] at hk; simp at hk
      | cons x r =>
        rw [hl] at hinv
        simpa [fiN] using hinv
    rw [this, Option.map_map]
    congr 1
    funext x
    simp
    omega
theorem fiN_end {l : List UInt8} {b : Nat} (hinv : fiN l b = (fiN (l.drop l.length) b).map (· + l.length)) : fiN l b = none := by
  rw [hinv, List.drop_length]
  rfl
section
variable (cf : CallK) (fuel : Nat) {h : Hp} {K : AV → Hp → Prop}
theorem splitL4_run {t0 t3 : AV} {i : Nat} {rest : List UInt8} (hlen : rest.length ≤ 1000000000) (e3 : Hp → Prop) (he : fiN rest 46 = none → e3 h) (hB : ∀ k, fiN rest 46 = some k → k < rest.length → s_lagoonref15_SplitB15 cf fuel K (I k) (S rest) t0 t3 (I i) h) :
    ∀ (d k fm : Nat), k + d = rest.length → d < fm → fiN rest 46 = (fiN (rest.drop k) 46).map (· + k) → s_lagoonref15_SplitL4 cf fuel K e3 t0 t3 (I i) (S rest) fm (I k) h
  | d, k, fm, hd, hm, hinv => by
    obtain ⟨fm, rfl⟩ : ∃ j, fm = j + 1 := ⟨fm - 1, by omega⟩
    rw [s_lagoonref15_SplitL4_succ]
    unfold s_lagoonref15_SplitL4B
    by_cases hk : k < rest.length
    · obtain ⟨d, rfl⟩ : ∃ j, d = j + 1 := ⟨d - 1, by omega⟩
      have e1 : ((k : Int) + 1) = ((k + 1 : Nat) : Int) := by omega
      obtain ⟨q1, q2⟩ := fiN_at hk hinv
      generalize hcc : (rest[k]).toNat = c at *
      (try unfold vMov); repeat' (first | refine Step.imp ?_ | (refine Way.mk (fun hp => ?_) (fun hp => ?_) <;> first | contradiction | (exfalso; omega) | skip) | refine LoadG.mkG ?_ | refine LoadsG.mkG ?_ | refine AtG.mkG ?_ | refine StoreG.mkG ?_ | refine CondG.mkG ?_ | fail); (all_goals (try dsimp only))
      refine ⟨by omega, by omega, ?_⟩
      rw [show (rest[((k : Nat) : Int).toNat]'(by simp; omega)).toNat = c from hcc]
      by_cases h46 : c = 46
      · have := hB k (q1 h46) hk
        (try unfold vMov); repeat' (first | refine Step.imp ?_ | (refine Way.mk (fun hp => ?_) (fun hp => ?_) <;> first | contradiction | (exfalso; omega) | skip) | refine LoadG.mkG ?_ | refine LoadsG.mkG ?_ | refine AtG.mkG ?_ | refine StoreG.mkG ?_ | refine CondG.mkG ?_ | fail); (all_goals (try dsimp only))
        exact this
      · have := splitL4_run hlen e3 he hB d (k + 1) fm (by omega) (by omega) (q2 h46)
        (try unfold vMov); repeat' (first | refine Step.imp ?_ | (refine Way.mk (fun hp => ?_) (fun hp => ?_) <;> first | contradiction | (exfalso; omega) | skip) | refine LoadG.mkG ?_ | refine LoadsG.mkG ?_ | refine AtG.mkG ?_ | refine StoreG.mkG ?_ | refine CondG.mkG ?_ | fail); (all_goals (try dsimp only))
        rw [e1]
        exact this
    · have hd0 : d = 0 := by omega
      subst hd0
      have hk' : k = rest.length := by omega
      subst hk'
      have := he (fiN_end hinv)
      (try unfold vMov); repeat' (first | refine Step.imp ?_ | (refine Way.mk (fun hp => ?_) (fun hp => ?_) <;> first | contradiction | (exfalso; omega) | skip) | refine LoadG.mkG ?_ | refine LoadsG.mkG ?_ | refine AtG.mkG ?_ | refine StoreG.mkG ?_ | refine CondG.mkG ?_ | fail); (all_goals (try dsimp only))
      exact this
theorem splitL1_run {t3 : AV} {l : List UInt8} (hlen : l.length ≤ 1000000000) (e0 : Hp → Prop) (he : fiN l 1 = none → e0 h) (hB : ∀ i, fiN l 1 = some i → i < l.length → s_lagoonref15_SplitL4 cf fuel K (s_lagoonref15_SplitE3 cf fuel K (S l) t3) (S l) t3 (I i) (S (l.drop (i + 1))) fuel (I 0) h) :
    ∀ (d k fm : Nat), k + d = l.length → d < fm → fiN l 1 = (fiN (l.drop k) 1).map (· + k) → s_lagoonref15_SplitL1 cf fuel K e0 (S l) t3 fm (I k) h
  | d, k, fm, hd, hm, hinv => by
    obtain ⟨fm, rfl⟩ : ∃ j, fm = j + 1 := ⟨fm - 1, by omega⟩
    rw [s_lagoonref15_SplitL1_succ]
    unfold s_lagoonref15_SplitL1B
    by_cases hk : k < l.length
    · obtain ⟨d, rfl⟩ : ∃ j, d = j + 1 := ⟨d - 1, by omega⟩
      have e1 : ((k : Int) + 1) = ((k + 1 : Nat) : Int) := by omega
      have e2 : ((k : Int) + 1).toNat = k + 1 := by omega
      obtain ⟨q1, q2⟩ := fiN_at hk hinv
      generalize hcc : (l[k]).toNat = c at *
      (try unfold vMov); repeat' (first | refine Step.imp ?_ | (refine Way.mk (fun hp => ?_) (fun hp => ?_) <;> first | contradiction | (exfalso; omega) | skip) | refine LoadG.mkG ?_ | refine LoadsG.mkG ?_ | refine AtG.mkG ?_ | refine StoreG.mkG ?_ | refine CondG.mkG ?_ | fail); (all_goals (try dsimp only))
      refine ⟨by omega, by omega, ?_⟩
      rw [show (l[((k : Nat) : Int).toNat]'(by simp; omega)).toNat = c from hcc]
      by_cases h1 : c = 1
      · have := hB k (q1 h1) hk
        (try unfold vMov); repeat' (first | refine Step.imp ?_ | (refine Way.mk (fun hp => ?_) (fun hp => ?_) <;> first | contradiction | (exfalso; omega) | skip) | refine LoadG.mkG ?_ | refine LoadsG.mkG ?_ | refine AtG.mkG ?_ | refine StoreG.mkG ?_ | refine CondG.mkG ?_ | fail); (all_goals (try dsimp only))
        rw [e2]
        exact this
      · have := splitL1_run hlen e0 he hB d (k + 1) fm (by omega) (by omega) (q2 h1)
        (try unfold vMov); repeat' (first | refine Step.imp ?_ | (refine Way.mk (fun hp => ?_) (fun hp => ?_) <;> first | contradiction | (exfalso; omega) | skip) | refine LoadG.mkG ?_ | refine LoadsG.mkG ?_ | refine AtG.mkG ?_ | refine StoreG.mkG ?_ | refine CondG.mkG ?_ | fail); (all_goals (try dsimp only))
        unfold s_lagoonref15_SplitE2
        (try unfold vMov); repeat' (first | refine Step.imp ?_ | (refine Way.mk (fun hp => ?_) (fun hp => ?_) <;> first | contradiction | (exfalso; omega) | skip) | refine LoadG.mkG ?_ | refine LoadsG.mkG ?_ | refine AtG.mkG ?_ | refine StoreG.mkG ?_ | refine CondG.mkG ?_ | fail); (all_goals (try dsimp only))
        rw [e1]
        exact this
    · have hd0 : d = 0 := by omega
      subst hd0
      have hk' : k = l.length := by omega
      subst hk'
      have := he (fiN_end hinv)
      (try unfold vMov); repeat' (first | refine Step.imp ?_ | (refine Way.mk (fun hp => ?_) (fun hp => ?_) <;> first | contradiction | (exfalso; omega) | skip) | refine LoadG.mkG ?_ | refine LoadsG.mkG ?_ | refine AtG.mkG ?_ | refine StoreG.mkG ?_ | refine CondG.mkG ?_ | fail); (all_goals (try dsimp only))
      exact this
def cSplitG : ConD := fun args h K => ∃ l, args = [S l] ∧ l.length ≤ 1000000000 ∧ ∀ h', Ext h h' → K (spAV (splitG l)) h'
theorem cSplitG_go {cf : CallK} {g : FuncId} (hg : cf g = cSplitG) {l : List UInt8} (hl : l.length ≤ 1000000000) (hK : ∀ h', Ext h h' → K (spAV (splitG l)) h') : cf g [S l] h K := by rw [hg]; exact ⟨l, rfl, hl, hK⟩
theorem refSplit_run (hN : cf 32 = cNumG) (hV : cf 10 = cIdB validB) (hM : cf 11 = cS nameE) (l : List UInt8) (hl : l.length ≤ 1000000000) (hf : l.length + 5 < fuel) (hK : ∀ h', Ext h h' → K (spAV (splitG l)) h') : s_lagoonref15_Split cf fuel (S l) h K := by
  unfold s_lagoonref15_Split
  (try unfold vMov); repeat' (first | refine Step.imp ?_ | (refine Way.mk (fun hp => ?_) (fun hp => ?_) <;> first | contradiction | (exfalso; omega) | skip) | refine LoadG.mkG ?_ | refine LoadsG.mkG ?_ | refine AtG.mkG ?_ | refine StoreG.mkG ?_ | refine CondG.mkG ?_ | fail); (all_goals (try dsimp only))
  have x1 : Ext h (h.new ⟨true, 2, .row [I 0, I 0]⟩) := (by repeat (first | exact Ext.refl _ | assumption | apply Ext.new | (refine Ext.put ?_ _ (by first | omega | (simp; done) | (simp; omega)))))
  have a1 : (h.new ⟨true, 2, .row [I 0, I 0]⟩).at h.next = some ⟨true, 2, .row [I 0, I 0]⟩ := Hp.at_new_self _ _
  have lt1 : h.next < (h.new ⟨true, 2, .row [I 0, I 0]⟩).next := Nat.lt_succ_self _
  generalize (h.new ⟨true, 2, .row [I 0, I 0]⟩) = h1 at *
  refine splitL1_run cf fuel hl _ (fun hn => ?_) (fun i hi hil => ?_) l.length 0 fuel (by omega) (by omega) (by simp)
  · have : splitG l = (l, 0, 0, false) := by unfold splitG; rw [hn]
    rw [this] at hK
    unfold s_lagoonref15_SplitE0
    (try unfold vMov); repeat' (first | refine Step.imp ?_ | (refine Way.mk (fun hp => ?_) (fun hp => ?_) <;> first | contradiction | (exfalso; omega) | skip) | refine LoadG.mk (by simp (disch := (first | omega | (simp only [Hp.next_new, Hp.next_put]; omega))) only [Hp.at_new_self, Hp.at_put_self, Hp.at_new_lt, Hp.at_put_ne, a1] <;> rfl) (by simp only [cellAt_row', setL_cons0, setL_succ, Nat.reduceAdd, Nat.reduceMul, Nat.zero_add, Nat.add_zero, List.getElem?_cons_succ, List.getElem?_cons_zero]; rfl) ?_ | refine LoadsG.mk (by simp (disch := (first | omega | (simp only [Hp.next_new, Hp.next_put]; omega))) only [Hp.at_new_self, Hp.at_put_self, Hp.at_new_lt, Hp.at_put_ne, a1] <;> rfl) (by rfl) ?_ | refine AtG.mkG ?_ | refine StoreG.mk (by simp (disch := (first | omega | (simp only [Hp.next_new, Hp.next_put]; omega))) only [Hp.at_new_self, Hp.at_put_self, Hp.at_new_lt, Hp.at_put_ne, a1] <;> rfl) (by first | omega | (simp; done) | (simp; omega)) ?_ | refine CondG.mkG ?_ | fail); (all_goals (try dsimp only))
    exact hK _ (by repeat (first | exact Ext.refl _ | assumption | apply Ext.new | (refine Ext.put ?_ _ (by first | omega | (simp; done) | (simp; omega)))))
  · have hr : (l.drop (i + 1)).length ≤ l.length := by rw [List.length_drop]; omega
    refine splitL4_run cf fuel (by omega) _ (fun hn => ?_) (fun k hk hkl => ?_) (l.drop (i + 1)).length 0 fuel (by omega) (by omega) (by simp)
    · have : splitG l = (l, 0, 0, false) := by
        unfold splitG
        rw [hi]
        dsimp only
        rw [hn]
      rw [this] at hK
      unfold s_lagoonref15_SplitE3
      (try unfold vMov); repeat' (first | refine Step.imp ?_ | (refine Way.mk (fun hp => ?_) (fun hp => ?_) <;> first | contradiction | (exfalso; omega) | skip) | refine LoadG.mk (by simp (disch := (first | omega | (simp only [Hp.next_new, Hp.next_put]; omega))) only [Hp.at_new_self, Hp.at_put_self, Hp.at_new_lt, Hp.at_put_ne, a1] <;> rfl) (by simp only [cellAt_row', setL_cons0, setL_succ, Nat.reduceAdd, Nat.reduceMul, Nat.zero_add, Nat.add_zero, List.getElem?_cons_succ, List.getElem?_cons_zero]; rfl) ?_ | refine LoadsG.mk (by simp (disch := (first | omega | (simp only [Hp.next_new, Hp.next_put]; omega))) only [Hp.at_new_self, Hp.at_put_self, Hp.at_new_lt, Hp.at_put_ne, a1] <;> rfl) (by rfl) ?_ | refine AtG.mkG ?_ | refine StoreG.mk (by simp (disch := (first | omega | (simp only [Hp.next_new, Hp.next_put]; omega))) only [Hp.at_new_self, Hp.at_put_self, Hp.at_new_lt, Hp.at_put_ne, a1] <;> rfl) (by first | omega | (simp; done) | (simp; omega)) ?_ | refine CondG.mkG ?_ | fail); (all_goals (try dsimp only))
      exact hK _ (by repeat (first | exact Ext.refl _ | assumption | apply Ext.new | (refine Ext.put ?_ _ (by first | omega | (simp; done) | (simp; omega)))))
    · refine splitB15_run cf fuel hN hV hM (h0 := h) a1 lt1 x1 (Nat.le_refl _) hil hkl hl (by omega) (fun h' x => ?_)
      have := hK h' x
      unfold splitG at this
      rw [hi] at this
      dsimp only at this
      rw [hk] at this
      exact this
end
/-- Both are the same. -/
theorem take_drop_at {l : List UInt8} {b i : Nat} (hb : b < 256) : ∀ {l : List UInt8} {i : Nat}, fiN l b = some i → l = l.take i ++ (UInt8.ofNat b :: l.drop (i + 1)) := by
  intro l
  induction l with
  | nil => intro i h; cases h
  | cons x r ih =>
    intro i h
    unfold fiN at h
    split at h
    · rename_i e
      cases h
      simp
      rw [← e]
      exact (UInt8.ofNat_toNat).symm
    · cases hq : fiN r b with
      | none => rw [hq] at h; simp at h
      | some j =>
        rw [hq] at h
        simp at h
        subst h
        simp
        exact ih hq
theorem split_same (l : List UInt8) : splitF l = splitG l := by
  unfold splitF splitG cutP
  have numnil : numF [] = none := by
    unfold numF
    rfl
  cases h1 : fiN l 1 with
  | none =>
    dsimp only
    have : fiN ([] : List UInt8) 46 = none := rfl
    rw [this]
    dsimp only
    rw [numnil]
  | some i =>
    dsimp only
    cases h2 : fiN (l.drop (i + 1)) 46 with
    | none =>
      dsimp only
      rw [numnil]
      cases numF (l.drop (i + 1)) <;> rfl
    | some k =>
      dsimp only
      have r1 := take_drop_at (b := 1) (l := []) (i := 0) (by omega) h1
      have r2 := take_drop_at (b := 46) (l := []) (i := 0) (by omega) h2
      by_cases hc : (0 ≤ numG ((l.drop (i + 1)).drop (k + 1)) ∧ numG ((l.drop (i + 1)).drop (k + 1)) < 64) ∧ validB (numG ((l.drop (i + 1)).take k)) (numG ((l.drop (i + 1)).drop (k + 1))) = true ∧ nameE (l.take i) = 0
      · rw [if_pos hc]
        obtain ⟨⟨c1, c2⟩, c3, c4⟩ := hc
        have tp : 1 ≤ numG ((l.drop (i + 1)).take k) := by
          unfold validB at c3
          simp at c3
          omega
        have ft := (numG_iff _ _ (show 0 ≤ numG ((l.drop (i + 1)).take k) by omega)).1 rfl
        have fn := (numG_iff _ _ c1).1 rfl
        rw [ft, fn]
        dsimp only
        have it := ((numF_iff _ _).1 ft).1
        have inn := ((numF_iff _ _).1 fn).1
        rw [if_pos]
        refine ⟨c3, c4, ?_⟩
        unfold sufB
        rw [it, inn]
        conv => rhs; rw [r1, r2]
        simp
      · rw [if_neg hc]
        cases ft : numF ((l.drop (i + 1)).take k) with
        | none => rfl
        | some t =>
          cases fn : numF ((l.drop (i + 1)).drop (k + 1)) with
          | none => rfl
          | some n =>
            dsimp only
            by_cases hq : validB t n = true ∧ nameE (l.take i) = 0 ∧ l.take i ++ sufB t n = l
            · exfalso
              apply hc
              have hv := hq.1
              unfold validB at hv
              simp at hv
              have e1 := (numG_iff _ _ (show 0 ≤ t by omega)).2 ft
              have e2 := (numG_iff _ _ (show 0 ≤ n by omega)).2 fn
              rw [e1, e2]
              exact ⟨⟨by omega, by omega⟩, hq.1, hq.2.1⟩
            · rw [if_neg hq]
section
variable (cf : CallK) (fuel : Nat) {h : Hp} {K : AV → Hp → Prop}
theorem lawSplit_run (hBg : cf 7 = trueC) (hC : cf 13 = cSplit) (hR : cf 14 = cSplitG) (hS : cf 12 = cIdB2 sameI) (hF : cf 15 = cSuf) (hG : cf 16 = cSuf) (l : List UInt8) (hl : l.length ≤ 140737488355328) {t n : Int} (hb : InI t ∧ InI n) (hK : ∀ h', K (.bool true) h') : s_lagoonlaw16_ClashSplit cf fuel (S l) (.agg [I t, I n]) h K := by
  unfold s_lagoonlaw16_ClashSplit
  (try unfold vMov); repeat' (first | refine Step.imp ?_ | (refine Way.mk (fun hp => ?_) (fun hp => ?_) <;> first | contradiction | (exfalso; omega) | skip) | refine LoadG.mkG ?_ | refine LoadsG.mkG ?_ | refine AtG.mkG ?_ | refine StoreG.mkG ?_ | refine CondG.mkG ?_ | fail); (all_goals (try dsimp only))
  rw [hBg]
  refine ⟨rfl, ?_⟩
  have a1 : (h.new ⟨true, 2, .row [I t, I n]⟩).at h.next = some ⟨true, 2, .row [I t, I n]⟩ := Hp.at_new_self _ _
  have lt1 : h.next < (h.new ⟨true, 2, .row [I t, I n]⟩).next := Nat.lt_succ_self _
  generalize (h.new ⟨true, 2, .row [I t, I n]⟩) = h1 at *
  have hsame : ∀ m : List UInt8, sameI (splitF m).2.1 (splitF m).2.2.1 (splitG m).2.1 (splitG m).2.2.1 = true := fun m => by
    rw [split_same]
    simp [sameI]
  by_cases h120 : 120 < l.length
  · (try unfold vMov); repeat' (first | refine Step.imp ?_ | (refine Way.mk (fun hp => ?_) (fun hp => ?_) <;> first | contradiction | (exfalso; omega) | skip) | refine LoadG.mkG ?_ | refine LoadsG.mkG ?_ | refine AtG.mkG ?_ | refine StoreG.mkG ?_ | refine CondG.mkG ?_ | fail); (all_goals (try dsimp only))
    have hm : (l.take (120 : Int).toNat).length ≤ 1000000000 := by rw [List.length_take]; omega
    generalize l.take (120 : Int).toNat = m at *
    refine cSplit_go hC hm (fun h2 x2 => ?_)
    have a2 := (x2.same _ lt1).trans a1
    have lt2 := Nat.lt_of_lt_of_le lt1 x2.next
    unfold spAV
    (try unfold vMov); repeat' (first | refine Step.imp ?_ | (refine Way.mk (fun hp => ?_) (fun hp => ?_) <;> first | contradiction | (exfalso; omega) | skip) | refine LoadG.mk (by simp (disch := (first | omega | (simp only [Hp.next_new, Hp.next_put]; omega))) only [Hp.at_new_self, Hp.at_put_self, Hp.at_new_lt, Hp.at_put_ne, a2] <;> rfl) (by simp only [cellAt_row', setL_cons0, setL_succ, Nat.reduceAdd, Nat.reduceMul, Nat.zero_add, Nat.add_zero, List.getElem?_cons_succ, List.getElem?_cons_zero]; rfl) ?_ | refine LoadsG.mk (by simp (disch := (first | omega | (simp only [Hp.next_new, Hp.next_put]; omega))) only [Hp.at_new_self, Hp.at_put_self, Hp.at_new_lt, Hp.at_put_ne, a2] <;> rfl) (by rfl) ?_ | refine AtG.mkG ?_ | refine StoreG.mk (by simp (disch := (first | omega | (simp only [Hp.next_new, Hp.next_put]; omega))) only [Hp.at_new_self, Hp.at_put_self, Hp.at_new_lt, Hp.at_put_ne, a2] <;> rfl) (by first | omega | (simp; done) | (simp; omega)) ?_ | refine CondG.mkG ?_ | fail); (all_goals (try dsimp only))
    have a3 : ((h2.new ⟨true, 2, .row [I 0, I 0]⟩).put h2.next (some ⟨true, 2, .row [I (splitF m).2.1, I (splitF m).2.2.1]⟩)).at h.next = some ⟨true, 2, .row [I t, I n]⟩ := by rw [Hp.at_put_ne _ (by omega), Hp.at_new_lt _ (by omega)]; exact a2
    have b3 : ((h2.new ⟨true, 2, .row [I 0, I 0]⟩).put h2.next (some ⟨true, 2, .row [I (splitF m).2.1, I (splitF m).2.2.1]⟩)).at h2.next = some ⟨true, 2, .row [I (splitF m).2.1, I (splitF m).2.2.1]⟩ := Hp.at_put_self _ _ _
    have n3 : ((h2.new ⟨true, 2, .row [I 0, I 0]⟩).put h2.next (some ⟨true, 2, .row [I (splitF m).2.1, I (splitF m).2.2.1]⟩)).next = h2.next + 1 := rfl
    have hset : setL [AV.int IntKind.i64 0, .int .i64 0] 0 [I (splitF m).2.1, I (splitF m).2.2.1] = [I (splitF m).2.1, I (splitF m).2.2.1] := rfl
    try rw [hset]
    generalize ((h2.new ⟨true, 2, .row [I 0, I 0]⟩).put h2.next (some ⟨true, 2, .row [I (splitF m).2.1, I (splitF m).2.2.1]⟩)) = h3 at *
    refine cSplitG_go hR hm (fun h4 x4 => ?_)
    have a4 := (x4.same h.next (by omega)).trans a3
    have b4 := (x4.same h2.next (by omega)).trans b3
    have n4 := x4.next
    have hs := hsame m
    have hst := split_same m
    unfold spAV
    rw [← hst] at hs ⊢
    generalize splitF m = r at *
    (try unfold vMov); repeat' (first | refine Step.imp ?_ | (refine Way.mk (fun hp => ?_) (fun hp => ?_) <;> first | contradiction | (exfalso; omega) | skip) | refine LoadG.mk (by simp (disch := (first | omega | (simp only [Hp.next_new, Hp.next_put]; omega))) only [Hp.at_new_self, Hp.at_put_self, Hp.at_new_lt, Hp.at_put_ne, a4, b4] <;> rfl) (by simp only [cellAt_row', setL_cons0, setL_succ, Nat.reduceAdd, Nat.reduceMul, Nat.zero_add, Nat.add_zero, List.getElem?_cons_succ, List.getElem?_cons_zero]; rfl) ?_ | refine LoadsG.mk (by simp (disch := (first | omega | (simp only [Hp.next_new, Hp.next_put]; omega))) only [Hp.at_new_self, Hp.at_put_self, Hp.at_new_lt, Hp.at_put_ne, a4, b4] <;> rfl) (by rfl) ?_ | refine AtG.mkG ?_ | refine StoreG.mk (by simp (disch := (first | omega | (simp only [Hp.next_new, Hp.next_put]; omega))) only [Hp.at_new_self, Hp.at_put_self, Hp.at_new_lt, Hp.at_put_ne, a4, b4] <;> rfl) (by first | omega | (simp; done) | (simp; omega)) ?_ | refine CondG.mkG ?_ | (refine LoadsG.mk b4 (by rfl) ?_) | fail); (all_goals (try dsimp only))
    refine cIdB2_go hS (fun _ => ?_) (fun q => by rw [hs] at q; cases q)
    (try unfold vMov); repeat' (first | refine Step.imp ?_ | (refine Way.mk (fun hp => ?_) (fun hp => ?_) <;> first | contradiction | (exfalso; omega) | skip) | refine LoadG.mk (by simp (disch := (first | omega | (simp only [Hp.next_new, Hp.next_put]; omega))) only [Hp.at_new_self, Hp.at_put_self, Hp.at_new_lt, Hp.at_put_ne, a4, b4] <;> rfl) (by simp only [cellAt_row', setL_cons0, setL_succ, Nat.reduceAdd, Nat.reduceMul, Nat.zero_add, Nat.add_zero, List.getElem?_cons_succ, List.getElem?_cons_zero]; rfl) ?_ | refine LoadsG.mk (by simp (disch := (first | omega | (simp only [Hp.next_new, Hp.next_put]; omega))) only [Hp.at_new_self, Hp.at_put_self, Hp.at_new_lt, Hp.at_put_ne, a4, b4] <;> rfl) (by rfl) ?_ | refine AtG.mkG ?_ | refine StoreG.mk (by simp (disch := (first | omega | (simp only [Hp.next_new, Hp.next_put]; omega))) only [Hp.at_new_self, Hp.at_put_self, Hp.at_new_lt, Hp.at_put_ne, a4, b4] <;> rfl) (by first | omega | (simp; done) | (simp; omega)) ?_ | refine CondG.mkG ?_ | (refine LoadsG.mk a4 (by rfl) ?_) | fail); (all_goals (try dsimp only))
    all_goals try (exfalso; simp_all; done)
    refine cSuf_go hF hb (fun h5 x5 => ?_)
    have a5 := (x5.same h.next (by simp only [Hp.next_put, Hp.next_new]; omega)).trans (show _ = some ⟨true, 2, .row [I t, I n]⟩ by rw [Hp.at_put_ne _ (by omega), Hp.at_new_lt _ (by omega)]; exact a4)
    (try unfold vMov); repeat' (first | refine Step.imp ?_ | (refine Way.mk (fun hp => ?_) (fun hp => ?_) <;> first | contradiction | (exfalso; omega) | skip) | refine LoadG.mk (by simp (disch := (first | omega | (simp only [Hp.next_new, Hp.next_put]; omega))) only [Hp.at_new_self, Hp.at_put_self, Hp.at_new_lt, Hp.at_put_ne, a5] <;> rfl) (by simp only [cellAt_row', setL_cons0, setL_succ, Nat.reduceAdd, Nat.reduceMul, Nat.zero_add, Nat.add_zero, List.getElem?_cons_succ, List.getElem?_cons_zero]; rfl) ?_ | refine LoadsG.mk (by simp (disch := (first | omega | (simp only [Hp.next_new, Hp.next_put]; omega))) only [Hp.at_new_self, Hp.at_put_self, Hp.at_new_lt, Hp.at_put_ne, a5] <;> rfl) (by rfl) ?_ | refine AtG.mkG ?_ | refine StoreG.mk (by simp (disch := (first | omega | (simp only [Hp.next_new, Hp.next_put]; omega))) only [Hp.at_new_self, Hp.at_put_self, Hp.at_new_lt, Hp.at_put_ne, a5] <;> rfl) (by first | omega | (simp; done) | (simp; omega)) ?_ | refine CondG.mkG ?_ | (refine LoadsG.mk a5 (by rfl) ?_) | fail); (all_goals (try dsimp only))
    refine cSuf_go hG hb (fun h6 x6 => ?_)
    (try unfold vMov); repeat' (first | refine Step.imp ?_ | (refine Way.mk (fun hp => ?_) (fun hp => ?_) <;> first | contradiction | (exfalso; omega) | skip) | refine LoadG.mkG ?_ | refine LoadsG.mkG ?_ | refine AtG.mkG ?_ | refine StoreG.mkG ?_ | refine CondG.mkG ?_ | fail); (all_goals (try dsimp only))
    all_goals first
      | exact hK _
      | contradiction
      | trace_state
  · (try unfold vMov); repeat' (first | refine Step.imp ?_ | (refine Way.mk (fun hp => ?_) (fun hp => ?_) <;> first | contradiction | (exfalso; omega) | skip) | refine LoadG.mkG ?_ | refine LoadsG.mkG ?_ | refine AtG.mkG ?_ | refine StoreG.mkG ?_ | refine CondG.mkG ?_ | fail); (all_goals (try dsimp only))
    have hm : l.length ≤ 1000000000 := by omega
    generalize l = m at *
    refine cSplit_go hC hm (fun h2 x2 => ?_)
    have a2 := (x2.same _ lt1).trans a1
    have lt2 := Nat.lt_of_lt_of_le lt1 x2.next
    unfold spAV
    (try unfold vMov); repeat' (first | refine Step.imp ?_ | (refine Way.mk (fun hp => ?_) (fun hp => ?_) <;> first | contradiction | (exfalso; omega) | skip) | refine LoadG.mk (by simp (disch := (first | omega | (simp only [Hp.next_new, Hp.next_put]; omega))) only [Hp.at_new_self, Hp.at_put_self, Hp.at_new_lt, Hp.at_put_ne, a2] <;> rfl) (by simp only [cellAt_row', setL_cons0, setL_succ, Nat.reduceAdd, Nat.reduceMul, Nat.zero_add, Nat.add_zero, List.getElem?_cons_succ, List.getElem?_cons_zero]; rfl) ?_ | refine LoadsG.mk (by simp (disch := (first | omega | (simp only [Hp.next_new, Hp.next_put]; omega))) only [Hp.at_new_self, Hp.at_put_self, Hp.at_new_lt, Hp.at_put_ne, a2] <;> rfl) (by rfl) ?_ | refine AtG.mkG ?_ | refine StoreG.mk (by simp (disch := (first | omega | (simp only [Hp.next_new, Hp.next_put]; omega))) only [Hp.at_new_self, Hp.at_put_self, Hp.at_new_lt, Hp.at_put_ne, a2] <;> rfl) (by first | omega | (simp; done) | (simp; omega)) ?_ | refine CondG.mkG ?_ | fail); (all_goals (try dsimp only))
    have a3 : ((h2.new ⟨true, 2, .row [I 0, I 0]⟩).put h2.next (some ⟨true, 2, .row [I (splitF m).2.1, I (splitF m).2.2.1]⟩)).at h.next = some ⟨true, 2, .row [I t, I n]⟩ := by rw [Hp.at_put_ne _ (by omega), Hp.at_new_lt _ (by omega)]; exact a2
    have b3 : ((h2.new ⟨true, 2, .row [I 0, I 0]⟩).put h2.next (some ⟨true, 2, .row [I (splitF m).2.1, I (splitF m).2.2.1]⟩)).at h2.next = some ⟨true, 2, .row [I (splitF m).2.1, I (splitF m).2.2.1]⟩ := Hp.at_put_self _ _ _
    have n3 : ((h2.new ⟨true, 2, .row [I 0, I 0]⟩).put h2.next (some ⟨true, 2, .row [I (splitF m).2.1, I (splitF m).2.2.1]⟩)).next = h2.next + 1 := rfl
    have hset : setL [AV.int IntKind.i64 0, .int .i64 0] 0 [I (splitF m).2.1, I (splitF m).2.2.1] = [I (splitF m).2.1, I (splitF m).2.2.1] := rfl
    try rw [hset]
    generalize ((h2.new ⟨true, 2, .row [I 0, I 0]⟩).put h2.next (some ⟨true, 2, .row [I (splitF m).2.1, I (splitF m).2.2.1]⟩)) = h3 at *
    refine cSplitG_go hR hm (fun h4 x4 => ?_)
    have a4 := (x4.same h.next (by omega)).trans a3
    have b4 := (x4.same h2.next (by omega)).trans b3
    have n4 := x4.next
    have hs := hsame m
    have hst := split_same m
    unfold spAV
    rw [← hst] at hs ⊢
    generalize splitF m = r at *
    (try unfold vMov); repeat' (first | refine Step.imp ?_ | (refine Way.mk (fun hp => ?_) (fun hp => ?_) <;> first | contradiction | (exfalso; omega) | skip) | refine LoadG.mk (by simp (disch := (first | omega | (simp only [Hp.next_new, Hp.next_put]; omega))) only [Hp.at_new_self, Hp.at_put_self, Hp.at_new_lt, Hp.at_put_ne, a4, b4] <;> rfl) (by simp only [cellAt_row', setL_cons0, setL_succ, Nat.reduceAdd, Nat.reduceMul, Nat.zero_add, Nat.add_zero, List.getElem?_cons_succ, List.getElem?_cons_zero]; rfl) ?_ | refine LoadsG.mk (by simp (disch := (first | omega | (simp only [Hp.next_new, Hp.next_put]; omega))) only [Hp.at_new_self, Hp.at_put_self, Hp.at_new_lt, Hp.at_put_ne, a4, b4] <;> rfl) (by rfl) ?_ | refine AtG.mkG ?_ | refine StoreG.mk (by simp (disch := (first | omega | (simp only [Hp.next_new, Hp.next_put]; omega))) only [Hp.at_new_self, Hp.at_put_self, Hp.at_new_lt, Hp.at_put_ne, a4, b4] <;> rfl) (by first | omega | (simp; done) | (simp; omega)) ?_ | refine CondG.mkG ?_ | (refine LoadsG.mk b4 (by rfl) ?_) | fail); (all_goals (try dsimp only))
    refine cIdB2_go hS (fun _ => ?_) (fun q => by rw [hs] at q; cases q)
    (try unfold vMov); repeat' (first | refine Step.imp ?_ | (refine Way.mk (fun hp => ?_) (fun hp => ?_) <;> first | contradiction | (exfalso; omega) | skip) | refine LoadG.mk (by simp (disch := (first | omega | (simp only [Hp.next_new, Hp.next_put]; omega))) only [Hp.at_new_self, Hp.at_put_self, Hp.at_new_lt, Hp.at_put_ne, a4, b4] <;> rfl) (by simp only [cellAt_row', setL_cons0, setL_succ, Nat.reduceAdd, Nat.reduceMul, Nat.zero_add, Nat.add_zero, List.getElem?_cons_succ, List.getElem?_cons_zero]; rfl) ?_ | refine LoadsG.mk (by simp (disch := (first | omega | (simp only [Hp.next_new, Hp.next_put]; omega))) only [Hp.at_new_self, Hp.at_put_self, Hp.at_new_lt, Hp.at_put_ne, a4, b4] <;> rfl) (by rfl) ?_ | refine AtG.mkG ?_ | refine StoreG.mk (by simp (disch := (first | omega | (simp only [Hp.next_new, Hp.next_put]; omega))) only [Hp.at_new_self, Hp.at_put_self, Hp.at_new_lt, Hp.at_put_ne, a4, b4] <;> rfl) (by first | omega | (simp; done) | (simp; omega)) ?_ | refine CondG.mkG ?_ | (refine LoadsG.mk a4 (by rfl) ?_) | fail); (all_goals (try dsimp only))
    all_goals try (exfalso; simp_all; done)
    refine cSuf_go hF hb (fun h5 x5 => ?_)
    have a5 := (x5.same h.next (by simp only [Hp.next_put, Hp.next_new]; omega)).trans (show _ = some ⟨true, 2, .row [I t, I n]⟩ by rw [Hp.at_put_ne _ (by omega), Hp.at_new_lt _ (by omega)]; exact a4)
    (try unfold vMov); repeat' (first | refine Step.imp ?_ | (refine Way.mk (fun hp => ?_) (fun hp => ?_) <;> first | contradiction | (exfalso; omega) | skip) | refine LoadG.mk (by simp (disch := (first | omega | (simp only [Hp.next_new, Hp.next_put]; omega))) only [Hp.at_new_self, Hp.at_put_self, Hp.at_new_lt, Hp.at_put_ne, a5] <;> rfl) (by simp only [cellAt_row', setL_cons0, setL_succ, Nat.reduceAdd, Nat.reduceMul, Nat.zero_add, Nat.add_zero, List.getElem?_cons_succ, List.getElem?_cons_zero]; rfl) ?_ | refine LoadsG.mk (by simp (disch := (first | omega | (simp only [Hp.next_new, Hp.next_put]; omega))) only [Hp.at_new_self, Hp.at_put_self, Hp.at_new_lt, Hp.at_put_ne, a5] <;> rfl) (by rfl) ?_ | refine AtG.mkG ?_ | refine StoreG.mk (by simp (disch := (first | omega | (simp only [Hp.next_new, Hp.next_put]; omega))) only [Hp.at_new_self, Hp.at_put_self, Hp.at_new_lt, Hp.at_put_ne, a5] <;> rfl) (by first | omega | (simp; done) | (simp; omega)) ?_ | refine CondG.mkG ?_ | (refine LoadsG.mk a5 (by rfl) ?_) | fail); (all_goals (try dsimp only))
    refine cSuf_go hG hb (fun h6 x6 => ?_)
    (try unfold vMov); repeat' (first | refine Step.imp ?_ | (refine Way.mk (fun hp => ?_) (fun hp => ?_) <;> first | contradiction | (exfalso; omega) | skip) | refine LoadG.mkG ?_ | refine LoadsG.mkG ?_ | refine AtG.mkG ?_ | refine StoreG.mkG ?_ | refine CondG.mkG ?_ | fail); (all_goals (try dsimp only))
    all_goals first
      | exact hK _
      | contradiction
      | trace_state
end
end Lg

