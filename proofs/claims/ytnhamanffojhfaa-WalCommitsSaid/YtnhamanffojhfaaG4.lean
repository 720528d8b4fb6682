/-
  What functions of the program do, said of the abstract machine, and plain lemmas: LgGo LgVec LgVec2 LgOp LgApp LgClone LgOf LgHeads LgFHeads LgFile LgFHeads2 LgDev LgDev2 LgDev3 LgDev4 LgDev5 LgWal1 LgWal2 LgWal3 LgWal4 LgWal5 LgWal6 LgWal7 LgWal8 LgWal9 LgWal10 LgWal11 LgBytes LgZb LgCrc. No condition.
-/
import Derived.Test.YtnhamanffojhfaaG3
import Derived.Test.YtnhamanffojhfaaShL
namespace Go.Am
set_option linter.unusedSimpArgs false
set_option linter.unusedVariables false
open Go Go.RowKit
section
variable {h : Hp}
theorem LoadG.mkG {o off : Nat} {k : AV → Prop} {e : Ent} {v : AV} (q : k v) (h1 : h.at o = some e := by simp (disch := (first | omega | (simp only [Hp.next_new, Hp.next_put]; omega))) only [Hp.at_new_self, Hp.at_put_self, Hp.at_new_lt, Hp.at_put_ne] <;> rfl)
    (h2 : cellAt e.obj off = some v := by simp only [cellAt_row', setL_cons0, setL_succ, Nat.reduceAdd, Nat.reduceMul, Nat.zero_add, Nat.add_zero, List.getElem?_cons_succ, List.getElem?_cons_zero]; rfl) : LoadG h o off k := LoadG.mk h1 h2 q
theorem LoadsG.mkG {n o off : Nat} {k : List AV → Prop} {e : Ent} {l : List AV} (q : k l) (h1 : h.at o = some e := by simp (disch := (first | omega | (simp only [Hp.next_new, Hp.next_put]; omega))) only [Hp.at_new_self, Hp.at_put_self, Hp.at_new_lt, Hp.at_put_ne] <;> rfl) (h2 : cellsO e.obj n off = some l := by rfl) : LoadsG h n o off k := LoadsG.mk h1 h2 q
theorem AtG.mkG {l : List AV} {i : Nat} {k : AV → Prop} {v : AV} (q : k v) (h1 : l[i]? = some v := by rfl) : AtG l i k := AtG.mk h1 q
theorem StoreG.mkG {n o off : Nat} {l : List AV} {k : Hp → Prop} {esz : Nat} {cs : List AV} (q : k (h.put o (some ⟨true, esz, .row (setL cs off l)⟩))) (h1 : h.at o = some ⟨true, esz, .row cs⟩ := by simp (disch := (first | omega | (simp only [Hp.next_new, Hp.next_put]; omega))) only [Hp.at_new_self, Hp.at_put_self, Hp.at_new_lt, Hp.at_put_ne] <;> rfl)
    (h2 : l.length = n ∧ off + l.length ≤ cs.length := by first | omega | (simp; done) | (simp; omega)) : StoreG h n o off l k := StoreG.mk h1 h2 q
theorem CondG.mkG {c A : Prop} (q : A) (h1 : c := by first | omega | exact sameV_flat _ rfl | exact sameV_agg _ (by simp [flatV]) | (simp; done) | (simp [repL, setL]; done) | (simp; omega)) : CondG c A := CondG.mk h1 q
end
end Go.Am

namespace Lg
set_option linter.unusedSimpArgs false
set_option linter.unusedVariables false
set_option maxRecDepth 100000
open Go Go.Am
open Go.Proofs.Ytnhamanffojhfaa.shl

abbrev I (n : Int) : AV := .int .i64 n
/-- A contract's end, at a value that is the same. -/
theorem fin {h h' : Hp} {K : AV → Hp → Prop} {v v' : AV} (hK : ∀ h', Ext h h' → K v h') (e : v' = v) (hx : Ext h h') : K v' h' := e ▸ hK h' hx

/-! ### rows of elements -/
/-- A slice that can be read: its elements' cells. -/
def Rd (h : Hp) (esz : Nat) (v : AV) (els : List (List AV)) : Prop :=
  (v = .nilslice ∧ els = []) ∨ (∃ o, v = .sliceZ o ∧ els = []) ∨ ∃ o off kn c e, v = .slice o off els.length kn c ∧ o < h.next ∧ h.at o = some e ∧ (els.length ≤ 17592186044416 ∧ (kn = true → els.length ≤ c)) ∧ ∀ j (hj : j < els.length), cellsO e.obj esz (off + j * esz) = some els[j]
theorem Rd.mono {h h' : Hp} {esz : Nat} {v : AV} {els : List (List AV)} (hr : Rd h esz v els) (hx : Ext h h') : Rd h' esz v els := by
  rcases hr with hr | hr | ⟨o, off, kn, c, e, h1, h2, h3, h4⟩
  · exact .inl hr
  · exact .inr (.inl hr)
  · exact .inr (.inr ⟨o, off, kn, c, e, h1, Nat.lt_of_lt_of_le h2 hx.next, by rw [hx.same o h2, h3], h4⟩)
theorem Rd.bound {h : Hp} {esz : Nat} {v : AV} {els : List (List AV)} (hr : Rd h esz v els) : els.length ≤ 17592186044416 := by
  rcases hr with ⟨_, rfl⟩ | ⟨_, _, rfl⟩ | ⟨_, _, _, _, _, _, _, _, h, _⟩
  · simp
  · simp
  · exact h.1
/-- A vector of numbers. -/
def VecH (h : Hp) (v : AV) (l : List Int) : Prop := Rd h 1 v (l.map fun x => [I x])
theorem VecH.mono {h h' : Hp} {v : AV} {l : List Int} (hv : VecH h v l) (hx : Ext h h') : VecH h' v l := Rd.mono hv hx
theorem VecH.cases {h : Hp} {v : AV} {l : List Int} (hv : VecH h v l) : (v = .nilslice ∧ l = []) ∨ (∃ o, v = .sliceZ o ∧ l = []) ∨ ∃ o off kn c e, v = .slice o off l.length kn c ∧ o < h.next ∧ h.at o = some e ∧ ∀ j (hj : j < l.length), cellAt e.obj (off + j) = some (I l[j]) := by
  rcases hv with ⟨h1, h2⟩ | ⟨o, h1, h2⟩ | ⟨o, off, kn, c, e, h1, h2, h3, hb, h5⟩
  · exact .inl ⟨h1, by simpa using h2⟩
  · exact .inr (.inl ⟨o, h1, by simpa using h2⟩)
  · refine .inr (.inr ⟨o, off, kn, c, e, by simpa using h1, h2, h3, fun j hj => ?_⟩)
    have := h5 j (by simpa using hj)
    simp only [cellsO, Nat.mul_one, List.getElem_map] at this
    cases hc : cellAt e.obj (off + j) with
    | none => rw [hc] at this; simp at this
    | some x => rw [hc] at this; simpa using this
theorem VecH.casesC {h : Hp} {v : AV} {l : List Int} (hv : VecH h v l) : (v = .nilslice ∧ l = []) ∨ (∃ o, v = .sliceZ o ∧ l = []) ∨ ∃ o off kn c e, v = .slice o off l.length kn c ∧ (kn = true → l.length ≤ c) ∧ o < h.next ∧ h.at o = some e ∧ ∀ j (hj : j < l.length), cellAt e.obj (off + j) = some (I l[j]) := by
  rcases hv with ⟨h1, h2⟩ | ⟨o, h1, h2⟩ | ⟨o, off, kn, c, e, h1, h2, h3, hb, h5⟩
  · exact .inl ⟨h1, by simpa using h2⟩
  · exact .inr (.inl ⟨o, h1, by simpa using h2⟩)
  · refine .inr (.inr ⟨o, off, kn, c, e, by simpa using h1, fun q => by simpa using hb.2 q, h2, h3, fun j hj => ?_⟩)
    have := h5 j (by simpa using hj)
    simp only [cellsO, Nat.mul_one, List.getElem_map] at this
    cases hc : cellAt e.obj (off + j) with
    | none => rw [hc] at this; simp at this
    | some x => rw [hc] at this; simpa using this
theorem VecH.bound {h : Hp} {v : AV} {l : List Int} (hv : VecH h v l) : l.length ≤ 17592186044416 := by
  have := Rd.bound hv
  simpa using this
theorem VecH.nil (h : Hp) : VecH h .nilslice [] := .inl ⟨rfl, rfl⟩

/-! ### what is computed -/
def ix (l : List Int) (j : Nat) : Int := l.getD j 0
theorem getD_in {l : List Int} {j : Nat} (h : j < l.length) : ix l j = l[j] := by
  simp [ix, List.getD, h]
def vat (l : List Int) (n : Int) : Int := if 0 ≤ n ∧ n < 64 ∧ n < l.length then (let x := ix l n.toNat; if 0 ≤ x ∧ x ≤ 1152921504606846976 then x else 0) else 0
theorem vat_out {l : List Int} {n : Int} (h : ¬ (0 ≤ n ∧ n < 64 ∧ n < l.length)) : vat l n = 0 := by unfold vat; rw [if_neg h]
theorem vat_in {l : List Int} {n : Int} (h : 0 ≤ n ∧ n < 64 ∧ n < l.length) : vat l n = if 0 ≤ l[n.toNat]'(by omega) ∧ l[n.toNat]'(by omega) ≤ 1152921504606846976 then l[n.toNat]'(by omega) else 0 := by
  unfold vat; rw [if_pos h, getD_in (by omega)]

section
variable (cf : CallK) (fuel : Nat) {h : Hp} {K : AV → Hp → Prop}
theorem At_run (v : AV) (l : List Int) (n : Int) (hv : VecH h v l) (hK : K (I (vat l n)) h) : s_lagoonref4_At cf fuel v (I n) h K := by
  unfold s_lagoonref4_At
  rcases hv.cases with ⟨rfl, rfl⟩ | ⟨o, rfl, rfl⟩ | ⟨o, off, kn, c, e, rfl, h2, h3, h5⟩
  · rw [vat_out (by simp; omega)] at hK
    (try unfold vMov); repeat' (first | refine Step.imp ?_ | (refine Way.mk (fun hp => ?_) (fun hp => ?_) <;> first | contradiction | (exfalso; omega) | skip) | refine LoadG.mkG ?_ | refine LoadsG.mkG ?_ | refine AtG.mkG ?_ | refine StoreG.mkG ?_ | refine CondG.mkG ?_ | fail); (all_goals (try dsimp only))
    all_goals first | exact hK | (exfalso; simp_all; omega)
  · rw [vat_out (by simp; omega)] at hK
    (try unfold vMov); repeat' (first | refine Step.imp ?_ | (refine Way.mk (fun hp => ?_) (fun hp => ?_) <;> first | contradiction | (exfalso; omega) | skip) | refine LoadG.mkG ?_ | refine LoadsG.mkG ?_ | refine AtG.mkG ?_ | refine StoreG.mkG ?_ | refine CondG.mkG ?_ | fail); (all_goals (try dsimp only))
    all_goals first | exact hK | (exfalso; omega) | trace_state
  · by_cases hn : 0 ≤ n ∧ n < 64 ∧ n < l.length
    · rw [vat_in hn] at hK
      have hc := h5 n.toNat (by omega)
      (try unfold vMov); repeat' (first | refine Step.imp ?_ | (refine Way.mk (fun hp => ?_) (fun hp => ?_) <;> first | contradiction | (exfalso; omega) | skip) | refine LoadG.mkG ?_ | refine LoadsG.mkG ?_ | refine AtG.mkG ?_ | refine StoreG.mkG ?_ | refine CondG.mkG ?_ | (refine LoadG.mk h3 (by simpa using hc) ?_) | fail); (all_goals (try dsimp only))
      all_goals (split at hK <;> first | exact hK | (exfalso; omega))
    · rw [vat_out hn] at hK
      (try unfold vMov); repeat' (first | refine Step.imp ?_ | (refine Way.mk (fun hp => ?_) (fun hp => ?_) <;> first | contradiction | (exfalso; omega) | skip) | refine LoadG.mkG ?_ | refine LoadsG.mkG ?_ | refine AtG.mkG ?_ | refine StoreG.mkG ?_ | refine CondG.mkG ?_ | fail); (all_goals (try dsimp only))
      all_goals first | exact hK | (exfalso; omega)
theorem vectorAt_run (v : AV) (l : List Int) (n : Int) (hv : VecH h v l) (hK : K (I (vat l n)) h) : s_vector_At cf fuel v (I n) h K := by
  unfold s_vector_At
  rcases hv.cases with ⟨rfl, rfl⟩ | ⟨o, rfl, rfl⟩ | ⟨o, off, kn, c, e, rfl, h2, h3, h5⟩
  · rw [vat_out (by simp; omega)] at hK
    (try unfold vMov); repeat' (first | refine Step.imp ?_ | (refine Way.mk (fun hp => ?_) (fun hp => ?_) <;> first | contradiction | (exfalso; omega) | skip) | refine LoadG.mkG ?_ | refine LoadsG.mkG ?_ | refine AtG.mkG ?_ | refine StoreG.mkG ?_ | refine CondG.mkG ?_ | fail); (all_goals (try dsimp only))
    all_goals first | exact hK | (exfalso; simp_all; omega) | (exfalso; omega)
  · rw [vat_out (by simp; omega)] at hK
    (try unfold vMov); repeat' (first | refine Step.imp ?_ | (refine Way.mk (fun hp => ?_) (fun hp => ?_) <;> first | contradiction | (exfalso; omega) | skip) | refine LoadG.mkG ?_ | refine LoadsG.mkG ?_ | refine AtG.mkG ?_ | refine StoreG.mkG ?_ | refine CondG.mkG ?_ | fail); (all_goals (try dsimp only))
    all_goals first | exact hK | (exfalso; simp_all; omega) | (exfalso; omega)
  · by_cases hn : 0 ≤ n ∧ n < 64 ∧ n < l.length
    · rw [vat_in hn] at hK
      have hc := h5 n.toNat (by omega)
      (try unfold vMov); repeat' (first | refine Step.imp ?_ | (refine Way.mk (fun hp => ?_) (fun hp => ?_) <;> first | contradiction | (exfalso; omega) | skip) | refine LoadG.mkG ?_ | refine LoadsG.mkG ?_ | refine AtG.mkG ?_ | refine StoreG.mkG ?_ | refine CondG.mkG ?_ | (refine LoadG.mk h3 (by simpa using hc) ?_) | fail); (all_goals (try dsimp only))
      all_goals (split at hK <;> first | exact hK | (exfalso; omega))
    · rw [vat_out hn] at hK
      (try unfold vMov); repeat' (first | refine Step.imp ?_ | (refine Way.mk (fun hp => ?_) (fun hp => ?_) <;> first | contradiction | (exfalso; omega) | skip) | refine LoadG.mkG ?_ | refine LoadsG.mkG ?_ | refine AtG.mkG ?_ | refine StoreG.mkG ?_ | refine CondG.mkG ?_ | fail); (all_goals (try dsimp only))
      all_goals first | exact hK | (exfalso; omega)
def validB (t n : Int) : Bool := decide (1 ≤ t) && (decide (t ≤ 1152921504606846976) && (decide (0 ≤ n) && decide (n < 64)))
def sameI (t n t' n' : Int) : Bool := decide (t = t') && decide (n = n')
def lessI (t n t' n' : Int) : Bool := decide (t < t') || (decide (t = t') && decide (n < n'))
def cmpI (t n t' n' : Int) : Int := if t < t' then -1 else if t' < t then 1 else if n < n' then -1 else if n' < n then 1 else 0
theorem Same_run (t n t' n' : Int) (hK : ∀ h', Ext h h' → K (.bool (sameI t n t' n')) h') : s_lagoonref4_Same cf fuel (.agg [I t, I n]) (.agg [I t', I n']) h K := by
  unfold s_lagoonref4_Same
  (try unfold vMov); repeat' (first | refine Step.imp ?_ | (refine Way.mk (fun hp => ?_) (fun hp => ?_) <;> first | contradiction | (exfalso; omega) | skip) | refine LoadG.mkG ?_ | refine LoadsG.mkG ?_ | refine AtG.mkG ?_ | refine StoreG.mkG ?_ | refine CondG.mkG ?_ | fail); (all_goals (try dsimp only))
  all_goals (refine fin hK ?_ (by repeat (first | exact Ext.refl _ | assumption | apply Ext.new | (refine Ext.put ?_ _ (by first | omega | (simp; done) | (simp; omega))))); simp_all [sameI])
theorem Less_run (t n t' n' : Int) (hK : ∀ h', Ext h h' → K (.bool (lessI t n t' n')) h') : s_lagoonref4_Less cf fuel (.agg [I t, I n]) (.agg [I t', I n']) h K := by
  unfold s_lagoonref4_Less
  (try unfold vMov); repeat' (first | refine Step.imp ?_ | (refine Way.mk (fun hp => ?_) (fun hp => ?_) <;> first | contradiction | (exfalso; omega) | skip) | refine LoadG.mkG ?_ | refine LoadsG.mkG ?_ | refine AtG.mkG ?_ | refine StoreG.mkG ?_ | refine CondG.mkG ?_ | fail); (all_goals (try dsimp only))
  all_goals (refine fin hK ?_ (by repeat (first | exact Ext.refl _ | assumption | apply Ext.new | (refine Ext.put ?_ _ (by first | omega | (simp; done) | (simp; omega))))); first | (simp_all [lessI]; done) | (simp_all [lessI]; omega))
theorem Valid_run (t n : Int) (hK : ∀ h', Ext h h' → K (.bool (validB t n)) h') : s_lagoonref4_Valid cf fuel (.agg [I t, I n]) h K := by
  unfold s_lagoonref4_Valid
  (try unfold vMov); repeat' (first | refine Step.imp ?_ | (refine Way.mk (fun hp => ?_) (fun hp => ?_) <;> first | contradiction | (exfalso; omega) | skip) | refine LoadG.mkG ?_ | refine LoadsG.mkG ?_ | refine AtG.mkG ?_ | refine StoreG.mkG ?_ | refine CondG.mkG ?_ | fail); (all_goals (try dsimp only))
  all_goals (refine fin hK ?_ (by repeat (first | exact Ext.refl _ | assumption | apply Ext.new | (refine Ext.put ?_ _ (by first | omega | (simp; done) | (simp; omega))))); first | (simp_all [validB]; done) | (simp_all [validB]; omega))
end
end Lg

namespace Lg
set_option linter.unusedSimpArgs false
set_option linter.unusedVariables false
set_option maxRecDepth 100000
open Go Go.Am
open Go.Proofs.Ytnhamanffojhfaa.shl

def cAt : ConD := fun args h K => ∃ v l n, args = [v, I n] ∧ VecH h v l ∧ K (I (vat l n)) h
theorem cAt_go {cf : CallK} {g : FuncId} (hg : cf g = cAt) {h : Hp} {v : AV} {l : List Int} {n : Int} {K : AV → Hp → Prop} (hv : VecH h v l) (hK : K (I (vat l n)) h) : cf g [v, I n] h K := by rw [hg]; exact ⟨v, l, n, rfl, hv, hK⟩
/-- A pure contract of two IDs. -/
def cId2 (f : Int → Int → Int → Int → AV) : ConD := fun args h K => ∃ t n t' n', args = [.agg [I t, I n], .agg [I t', I n']] ∧ ∀ h', Ext h h' → K (f t n t' n') h'
theorem cId2_go {cf : CallK} {g : FuncId} {f : Int → Int → Int → Int → AV} (hg : cf g = cId2 f) {h : Hp} {t n t' n' : Int} {K : AV → Hp → Prop} (hK : ∀ h', Ext h h' → K (f t n t' n') h') : cf g [.agg [I t, I n], .agg [I t', I n']] h K := by rw [hg]; exact ⟨t, n, t', n', rfl, hK⟩
def allN (p : Nat → Bool) : Nat → Nat → Bool
  | _, 0 => true
  | k, d + 1 => p k && allN p (k + 1) d
theorem allN_iff {p : Nat → Bool} : ∀ (k d : Nat), allN p k d = true ↔ ∀ i, k ≤ i → i < k + d → p i = true
  | k, 0 => by simp [allN]; omega
  | k, d + 1 => by
    rw [allN, Bool.and_eq_true, allN_iff (k + 1) d]
    constructor
    · rintro ⟨h1, h2⟩ i hi hj
      by_cases e : i = k
      · subst e; exact h1
      · exact h2 i (by omega) (by omega)
    · exact fun h => ⟨h k (Nat.le_refl _) (by omega), fun i hi hj => h i (by omega) (by omega)⟩
def leqV (a b : List Int) : Bool := allN (fun k => decide (vat a k ≤ vat b k)) 0 64

section
variable (cf : CallK) (fuel : Nat) {h : Hp} {K : AV → Hp → Prop}
theorem LeqL1_run (hAt : cf 26 = cAt) {v w : AV} {l m : List Int} (hv : VecH h v l) (hw : VecH h w m) (e0 : Hp → Prop) : ∀ (d k fm : Nat), k + d = 64 → d < fm →
    (allN (fun k => decide (vat l k ≤ vat m k)) k d = true → e0 h) → (allN (fun k => decide (vat l k ≤ vat m k)) k d = false → K (.bool false) h) → s_lagoonref4_LeqL1 cf fuel K e0 v w fm (I k) h
  | 0, k, fm, hk, hf, h1, h2 => by
    obtain ⟨fm, rfl⟩ : ∃ j, fm = j + 1 := ⟨fm - 1, by omega⟩
    rw [s_lagoonref4_LeqL1_succ]
    unfold s_lagoonref4_LeqL1B
    (try unfold vMov); repeat' (first | refine Step.imp ?_ | (refine Way.mk (fun hp => ?_) (fun hp => ?_) <;> first | contradiction | (exfalso; omega) | skip) | refine LoadG.mkG ?_ | refine LoadsG.mkG ?_ | refine AtG.mkG ?_ | refine StoreG.mkG ?_ | refine CondG.mkG ?_ | fail); (all_goals (try dsimp only))
    exact h1 rfl
  | d + 1, k, fm, hk, hf, h1, h2 => by
    obtain ⟨fm, rfl⟩ : ∃ j, fm = j + 1 := ⟨fm - 1, by omega⟩
    rw [s_lagoonref4_LeqL1_succ]
    unfold s_lagoonref4_LeqL1B
    dsimp only
    (try unfold vMov); repeat' (first | refine Step.imp ?_ | (refine Way.mk (fun hp => ?_) (fun hp => ?_) <;> first | contradiction | (exfalso; omega) | skip) | refine LoadG.mkG ?_ | refine LoadsG.mkG ?_ | refine AtG.mkG ?_ | refine StoreG.mkG ?_ | refine CondG.mkG ?_ | (refine cAt_go hAt hv ?_) | (refine cAt_go hAt hw ?_) | fail); (all_goals (try dsimp only))
    · exact h2 (by rw [allN, Bool.and_eq_false_iff]; left; simpa using hp)
    · have e : ((k : Int) + 1) = ((k + 1 : Nat) : Int) := by omega
      have hp' : decide (vat l k ≤ vat m k) = true := by simpa using hp
      rw [e]
      refine LeqL1_run hAt hv hw e0 d (k + 1) fm (by omega) (by omega) (fun q => h1 ?_) (fun q => h2 ?_)
      · rw [allN, hp', q]; rfl
      · rw [allN, hp', q]; rfl
theorem Leq_run (hAt : cf 26 = cAt) {v w : AV} {l m : List Int} (hv : VecH h v l) (hw : VecH h w m) (hf : 64 < fuel) (hK : K (.bool (leqV l m)) h) : s_lagoonref4_Leq cf fuel v w h K := by
  unfold s_lagoonref4_Leq
  refine LeqL1_run cf fuel hAt hv hw _ 64 0 fuel rfl hf (fun q => ?_) (fun q => ?_)
  · unfold s_lagoonref4_LeqE0
    have e : leqV l m = true := q
    rw [e] at hK; exact hK
  · have e : leqV l m = false := q
    rw [e] at hK; exact hK
def cLeq : ConD := fun args h K => ∃ v l w m, args = [v, w] ∧ VecH h v l ∧ VecH h w m ∧ K (.bool (leqV l m)) h
theorem cLeq_go {cf : CallK} {g : FuncId} (hg : cf g = cLeq) {h : Hp} {v w : AV} {l m : List Int} {K : AV → Hp → Prop} (hv : VecH h v l) (hw : VecH h w m) (hK : K (.bool (leqV l m)) h) : cf g [v, w] h K := by rw [hg]; exact ⟨v, l, w, m, rfl, hv, hw, hK⟩
theorem Eq_run (hL : cf 114 = cLeq) {v w : AV} {l m : List Int} (hv : VecH h v l) (hw : VecH h w m) (hK : K (.bool (leqV l m && leqV m l)) h) : s_lagoonref4_Eq cf fuel v w h K := by
  unfold s_lagoonref4_Eq
  refine cLeq_go hL hv hw ?_
  cases hl : leqV l m with
  | true =>
    rw [hl] at hK
    (try unfold vMov); repeat' (first | refine Step.imp ?_ | (refine Way.mk (fun hp => ?_) (fun hp => ?_) <;> first | contradiction | (exfalso; omega) | skip) | refine LoadG.mkG ?_ | refine LoadsG.mkG ?_ | refine AtG.mkG ?_ | refine StoreG.mkG ?_ | refine CondG.mkG ?_ | (refine cLeq_go hL hw hv ?_) | fail); (all_goals (try dsimp only))
    all_goals simpa using hK
  | false =>
    rw [hl] at hK
    (try unfold vMov); repeat' (first | refine Step.imp ?_ | (refine Way.mk (fun hp => ?_) (fun hp => ?_) <;> first | contradiction | (exfalso; omega) | skip) | refine LoadG.mkG ?_ | refine LoadsG.mkG ?_ | refine AtG.mkG ?_ | refine StoreG.mkG ?_ | refine CondG.mkG ?_ | fail); (all_goals (try dsimp only))
    all_goals simpa using hK
/-- Is it no number? Never. -/
def cNaN : ConD := fun args h K => ∃ n, args = [I n] ∧ K (.bool false) h
theorem cNaN_go {cf : CallK} {g : FuncId} (hg : cf g = cNaN) {h : Hp} {n : Int} {K : AV → Hp → Prop} (hK : K (.bool false) h) : cf g [I n] h K := by rw [hg]; exact ⟨n, rfl, hK⟩
def cmp1 (x y : Int) : Int := if x < y then -1 else if y < x then 1 else 0
def cCmp : ConD := fun args h K => ∃ x y, args = [I x, I y] ∧ K (I (cmp1 x y)) h
theorem cCmp_go {cf : CallK} {g : FuncId} (hg : cf g = cCmp) {h : Hp} {x y : Int} {K : AV → Hp → Prop} (hK : K (I (cmp1 x y)) h) : cf g [I x, I y] h K := by rw [hg]; exact ⟨x, y, rfl, hK⟩
theorem Compare64_run (hN : cf 137 = cNaN) (x y : Int) (hK : K (I (cmp1 x y)) h) : s_cmp_Compare_int64 cf fuel (I x) (I y) h K := by
  unfold s_cmp_Compare_int64
  (try unfold vMov); repeat' (first | refine Step.imp ?_ | (refine Way.mk (fun hp => ?_) (fun hp => ?_) <;> first | contradiction | (exfalso; omega) | skip) | refine LoadG.mkG ?_ | refine LoadsG.mkG ?_ | refine AtG.mkG ?_ | refine StoreG.mkG ?_ | refine CondG.mkG ?_ | (refine cNaN_go hN ?_) | fail); (all_goals (try dsimp only))
  all_goals (unfold cmp1 at hK; (repeat' split at hK) <;> first | exact hK | (exfalso; omega))
theorem Compare_run (hN : cf 138 = cNaN) (x y : Int) (hK : K (I (cmp1 x y)) h) : s_cmp_Compare_int cf fuel (I x) (I y) h K := by
  unfold s_cmp_Compare_int
  (try unfold vMov); repeat' (first | refine Step.imp ?_ | (refine Way.mk (fun hp => ?_) (fun hp => ?_) <;> first | contradiction | (exfalso; omega) | skip) | refine LoadG.mkG ?_ | refine LoadsG.mkG ?_ | refine AtG.mkG ?_ | refine StoreG.mkG ?_ | refine CondG.mkG ?_ | (refine cNaN_go hN ?_) | fail); (all_goals (try dsimp only))
  all_goals (unfold cmp1 at hK; (repeat' split at hK) <;> first | exact hK | (exfalso; omega))
theorem Cmp_run (h1 : cf 110 = cCmp) (h2 : cf 111 = cCmp) (t n t' n' : Int) (hK : ∀ h', Ext h h' → K (I (cmpI t n t' n')) h') : s_clock_Cmp cf fuel (.agg [I t, I n]) (.agg [I t', I n']) h K := by
  unfold s_clock_Cmp
  (try unfold vMov); repeat' (first | refine Step.imp ?_ | (refine Way.mk (fun hp => ?_) (fun hp => ?_) <;> first | contradiction | (exfalso; omega) | skip) | refine LoadG.mkG ?_ | refine LoadsG.mkG ?_ | refine AtG.mkG ?_ | refine StoreG.mkG ?_ | refine CondG.mkG ?_ | (refine cCmp_go h1 ?_) | (refine cCmp_go h2 ?_) | fail); (all_goals (try dsimp only))
  all_goals (refine fin hK ?_ (by repeat (first | exact Ext.refl _ | assumption | apply Ext.new | (refine Ext.put ?_ _ (by first | omega | (simp; done) | (simp; omega))))); simp only [cmpI, cmp1] at *; (repeat' split) <;> (repeat' split at *) <;> first | rfl | (exfalso; omega) | simp_all)
end
end Lg

namespace Lg
set_option linter.unusedSimpArgs false
set_option linter.unusedVariables false
set_option maxRecDepth 100000
open Go Go.Am
open Go.Proofs.Ytnhamanffojhfaa.shl

/-- Bytes. -/
def ByH (h : Hp) (v : AV) (l : List UInt8) : Prop := (v = .nilslice ∧ l = []) ∨ (∃ o, v = .sliceZ o ∧ l = []) ∨ ∃ o off kn c e n z, v = .slice o off l.length kn c ∧ o < h.next ∧ h.at o = some e ∧ e.obj = .byts n z ∧ off + l.length ≤ n ∧ (l.length ≤ 140737488355328 ∧ (kn = true → l.length ≤ c)) ∧ ((bytesL n z).drop off).take l.length = l
theorem ByH.mono {h h' : Hp} {v : AV} {l : List UInt8} (hv : ByH h v l) (hx : Ext h h') : ByH h' v l := by
  rcases hv with hv | hv | ⟨o, off, kn, c, e, n, z, h1, h2, h3, h4⟩
  · exact .inl hv
  · exact .inr (.inl hv)
  · exact .inr (.inr ⟨o, off, kn, c, e, n, z, h1, Nat.lt_of_lt_of_le h2 hx.next, by rw [hx.same o h2, h3], h4⟩)
theorem ByH.bound {h : Hp} {v : AV} {l : List UInt8} (hr : ByH h v l) : l.length ≤ 140737488355328 := by
  rcases hr with ⟨_, rfl⟩ | ⟨_, _, rfl⟩ | ⟨_, _, _, _, _, _, _, _, _, _, _, _, h, _⟩
  · simp
  · simp
  · exact h.1
theorem ByH.nil (h : Hp) : ByH h .nilslice [] := .inl ⟨rfl, rfl⟩

structure FOp where
  t : Int
  n : Int
  seq : Int
  kind : Int
  ot : Int
  on : Int
  pt : Int
  pn : Int
  name : List UInt8
  data : List UInt8
  seen : List Int
def opCells (o : FOp) (vd vs : AV) : List AV := [I o.t, I o.n, I o.seq, I o.kind, I o.ot, I o.on, I o.pt, I o.pn, S o.name, vd, vs]
/-- An operation's cells. -/
def OpH (h : Hp) (cs : List AV) (o : FOp) : Prop := ∃ vd vs, cs = opCells o vd vs ∧ ByH h vd o.data ∧ VecH h vs o.seen ∧ o.name.length ≤ 140737488355328
theorem OpH.mono {h h' : Hp} {cs : List AV} {o : FOp} (hv : OpH h cs o) (hx : Ext h h') : OpH h' cs o := by
  obtain ⟨vd, vs, h1, h2, h3, h4⟩ := hv
  exact ⟨vd, vs, h1, h2.mono hx, h3.mono hx, h4⟩
theorem OpH.len {h : Hp} {cs : List AV} {o : FOp} (hv : OpH h cs o) : cs.length = 11 := by
  obtain ⟨vd, vs, rfl, _⟩ := hv; rfl
/-- A version's cells: those of an operation's version. -/
def VerH (h : Hp) (cs : List AV) (o : FOp) : Prop := ∃ vs vd, cs = [I o.t, I o.n, I o.seq, vs, vd] ∧ VecH h vs o.seen ∧ ByH h vd o.data
theorem VerH.mono {h h' : Hp} {cs : List AV} {o : FOp} (hv : VerH h cs o) (hx : Ext h h') : VerH h' cs o := by
  obtain ⟨vs, vd, h1, h2, h3⟩ := hv
  exact ⟨vs, vd, h1, h2.mono hx, h3.mono hx⟩
theorem VerH.len {h : Hp} {cs : List AV} {o : FOp} (hv : VerH h cs o) : cs.length = 5 := by
  obtain ⟨vd, vs, rfl, _⟩ := hv; rfl
/-- P17.1. -/
def behind (a b : FOp) : Bool := decide (a.seq ≤ vat b.seen a.n)

section
variable (cf : CallK) (fuel : Nat) {h : Hp} {K : AV → Hp → Prop}
theorem refBehind_run (hAt : cf 26 = cAt) {ca cb : List AV} {a b : FOp} (ha : OpH h ca a) (hb : OpH h cb b) (hK : ∀ h', Ext h h' → K (.bool (behind a b)) h') : s_lagoonref15_Behind cf fuel (.agg ca) (.agg cb) h K := by
  obtain ⟨vd, vs, rfl, -, hva, -⟩ := ha
  obtain ⟨vd', vs', rfl, -, hvb, -⟩ := hb
  unfold s_lagoonref15_Behind opCells
  (try unfold vMov); repeat' (first | refine Step.imp ?_ | (refine Way.mk (fun hp => ?_) (fun hp => ?_) <;> first | contradiction | (exfalso; omega) | skip) | refine LoadG.mkG ?_ | refine LoadsG.mkG ?_ | refine AtG.mkG ?_ | refine StoreG.mkG ?_ | refine CondG.mkG ?_ | (refine cAt_go hAt (hvb.mono (by repeat (first | exact Ext.refl _ | assumption | apply Ext.new | (refine Ext.put ?_ _ (by first | omega | (simp; done) | (simp; omega)))))) ?_) | fail); (all_goals (try dsimp only))
  all_goals (refine fin hK ?_ (by repeat (first | exact Ext.refl _ | assumption | apply Ext.new | (refine Ext.put ?_ _ (by first | omega | (simp; done) | (simp; omega))))); simp [behind]; first | assumption | omega)
theorem Behind_run (hAt : cf 62 = cAt) {ca cb : List AV} {a b : FOp} (ha : VerH h ca a) (hb : VerH h cb b) (hK : ∀ h', Ext h h' → K (.bool (behind a b)) h') : s_content_Behind cf fuel (.agg ca) (.agg cb) h K := by
  obtain ⟨vs, vd, rfl, hva, -⟩ := ha
  obtain ⟨vs', vd', rfl, hvb, -⟩ := hb
  unfold s_content_Behind
  (try unfold vMov); repeat' (first | refine Step.imp ?_ | (refine Way.mk (fun hp => ?_) (fun hp => ?_) <;> first | contradiction | (exfalso; omega) | skip) | refine LoadG.mkG ?_ | refine LoadsG.mkG ?_ | refine AtG.mkG ?_ | refine StoreG.mkG ?_ | refine CondG.mkG ?_ | (refine cAt_go hAt (hvb.mono (by repeat (first | exact Ext.refl _ | assumption | apply Ext.new | (refine Ext.put ?_ _ (by first | omega | (simp; done) | (simp; omega)))))) ?_) | fail); (all_goals (try dsimp only))
  all_goals (refine fin hK ?_ (by repeat (first | exact Ext.refl _ | assumption | apply Ext.new | (refine Ext.put ?_ _ (by first | omega | (simp; done) | (simp; omega))))); simp [behind]; first | assumption | omega)
end
end Lg

namespace Lg
set_option linter.unusedSimpArgs false
set_option linter.unusedVariables false
set_option maxRecDepth 100000
open Go Go.Am

theorem cellsO_list {ob : AObj} : ∀ (l : List AV) (off : Nat), (∀ j (hj : j < l.length), cellAt ob (off + j) = some l[j]) → cellsO ob l.length off = some l
  | [], off, _ => rfl
  | v :: l, off, hc => by
    have h0 := hc 0 (by simp)
    simp only [Nat.add_zero, List.getElem_cons_zero] at h0
    have ih := cellsO_list l (off + 1) fun j hj => by
      have := hc (j + 1) (by simp; omega)
      simpa [Nat.add_assoc, Nat.add_comm 1 j] using this
    rw [List.length_cons]
    unfold cellsO
    simp [h0, ih]
theorem SlN.vec {h : Hp} {v : AV} {l : List Int} {B : Nat} (hv : SlN h 1 v (l.map fun x => [I x]) B) (hl : l.length ≤ 17592186044416) : VecH h v l := by
  rcases hv with ⟨h1, h2⟩ | ⟨o, ob, h1, h2, h3, h4, h5, h6, h7⟩
  · exact .inl ⟨h1, h2⟩
  · refine .inr (.inr ⟨o, 0, false, 0, _, by simpa using h1, h3, h4, ⟨by simpa using hl, fun q => by cases q⟩, fun j hj => ?_⟩)
    have hj' : j < l.length := by simpa using hj
    have hfl : (l.map fun x => [I x]).flatten = l.map I := by
      clear hj hj' h1 h5 h6 h7 hl
      induction l with
      | nil => rfl
      | cons x l ih => simp only [List.map_cons, List.flatten_cons, ih]; rfl
    have h8 := h5.2.2 j
    rw [hfl, List.getElem?_map, List.getElem?_eq_getElem hj'] at h8
    show cellsO ob 1 (0 + j * 1) = _
    rw [Nat.zero_add, Nat.mul_one]
    unfold cellsO
    rw [h8]
    simp [cellsO]
/-- A value that points to nothing ahead of B. -/
def Fr (B : Nat) (v : AV) : Prop := ∀ o off n kn c, v = .slice o off n kn c → B ≤ o
theorem Fr.weak {B C : Nat} {v : AV} (hv : Fr B v) (hc : C ≤ B) : Fr C v := fun o off n kn c e => Nat.le_trans hc (hv o off n kn c e)
theorem SlN.fr {h : Hp} {esz : Nat} {v : AV} {els : List (List AV)} {B : Nat} (hv : SlN h esz v els B) : Fr B v := by
  rcases hv with ⟨rfl, _⟩ | ⟨o, ob, rfl, h2, _⟩
  · intro o off n kn c e; cases e
  · intro o' off n kn c e; cases e; exact h2
theorem VecH.put {h : Hp} {v : AV} {l : List Int} (hv : VecH h v l) {B p : Nat} (hf : Fr B v) (hp : p < B) (e : Option Ent) : VecH (h.put p e) v l := by
  rcases hv with q | q | ⟨o, off, kn, c, e', h1, h2, h3, h4⟩
  · exact .inl q
  · exact .inr (.inl q)
  · have := hf _ _ _ _ _ h1
    exact .inr (.inr ⟨o, off, kn, c, e', h1, h2, by rw [Hp.at_put_ne _ (by omega)]; exact h3, h4⟩)
theorem ByH.put {h : Hp} {v : AV} {l : List UInt8} (hv : ByH h v l) {B p : Nat} (hf : Fr B v) (hp : p < B) (e : Option Ent) : ByH (h.put p e) v l := by
  rcases hv with q | q | ⟨o, off, kn, c, e', n, z, h1, h2, h3, h4⟩
  · exact .inl q
  · exact .inr (.inl q)
  · have := hf _ _ _ _ _ h1
    exact .inr (.inr ⟨o, off, kn, c, e', n, z, h1, h2, by rw [Hp.at_put_ne _ (by omega)]; exact h3, h4⟩)
theorem copyV {h : Hp} {v : AV} {l : List Int} {K : AV → Hp → Prop} (hv : VecH h v l) (hK : ∀ v' h', Ext h h' → VecH h' v' l → Fr h.next v' → K v' h') : vAppend2 1 8 false .nilslice v h K := by
  by_cases hl : l = []
  · subst hl
    have : vAppend2 1 8 false .nilslice v h K = K .nilslice h := by
      rcases hv with ⟨rfl, _⟩ | ⟨o, rfl, _⟩ | ⟨o, off, kn, c, e, rfl, _⟩ <;> rfl
    rw [this]
    exact hK _ h (Ext.refl h) (VecH.nil h) (fun o off n kn c e => by cases e)
  · rcases hv.cases with ⟨_, rfl⟩ | ⟨_, _, rfl⟩ | ⟨o, off, kn, c, e, rfl, h2, h3, h5⟩
    · exact absurd rfl hl
    · exact absurd rfl hl
    · have hb := hv.bound
      refine append_own (els := []) (news := l.map fun x => [I x]) (B := h.next) (h0 := h) (Ext.refl h) (.inl ⟨rfl, rfl⟩) (Nat.le_refl _) (Nat.le_refl _) ?_ ?_ ?_ ?_ ?_
      · refine ⟨o, off, kn, c, e, by simp, h3, ?_⟩
        have hfl : (l.map fun x => [I x]).flatten = l.map I := by
          clear hv hK hl h5 hb
          induction l with
          | nil => rfl
          | cons x l ih => simp only [List.map_cons, List.flatten_cons, ih]; rfl
        rw [hfl]
        have := cellsO_list (ob := e.obj) (l.map I) off (fun j hj => by
          have hj' : j < l.length := by simpa using hj
          rw [h5 j hj']; simp)
        simpa using this
      · intro x hx
        obtain ⟨y, _, rfl⟩ := List.mem_map.1 hx
        rfl
      · simpa using hl
      · simp only [List.length_nil, List.length_map]; omega
      · intro v' h' k1 k2 k3 k4
        exact hK v' h' k1 (SlN.vec (by simpa using k4) hb) (SlN.fr k4)
end Lg

namespace Lg
set_option linter.unusedSimpArgs false
set_option linter.unusedVariables false
set_option maxRecDepth 100000
open Go Go.Am
open Go.Proofs.Ytnhamanffojhfaa.shl
theorem srcK_by {h : Hp} {o off m : Nat} {kn : Bool} {c : Nat} {e : Ent} {n z : Nat} (hat : h.at o = some e) (he : e.obj = .byts n z) (hm : 0 < m) (hb : off + m ≤ n) (k0 : Prop) (kl : Nat → List AV → Prop) (kb : Nat → Nat → Prop) :
    srcK h 1 true (.slice o off m kn c) k0 kl kb = kb m (cutB z off m) := by
  show Bool.rec (motive := fun _ => Prop) (asOpt (h.at o) fun e => asByts e.obj fun n z => gd (Nat.ble (off + m) n) (forceN (cutB z off m) fun z => kb m z)) k0 (Nat.beq m 0) = _
  have : Nat.beq m 0 = false := by
    cases m with
    | zero => omega
    | succ m => rfl
  rw [this]
  show asOpt (h.at o) _ = _
  rw [hat, asOpt_some, he]
  show gd (Nat.ble (off + m) n) (forceN (cutB z off m) fun z => kb m z) = _
  have : Nat.ble (off + m) n = true := by simpa using hb
  rw [this, gd_true, forceN_eq]
theorem bslice0 (h : Hp) (K : AV → Hp → Prop) : vBslice 1 0 true [.int .u8 0] [] h K = K (.slice h.next 0 0 true 0) (h.new ⟨true, 1, .byts 0 0⟩) := by
  show newK h ⟨true, 1, .byts 0 0⟩ (fun o h => K (.slice o 0 0 true 0) h) = _
  rw [newK_eq']
/-- Bytes behind an empty slice that was just made. -/
theorem append_by {h : Hp} {p o off m : Nat} {kn : Bool} {c : Nat} {e : Ent} {n z : Nat} {K : AV → Hp → Prop} (hp : h.at p = some ⟨true, 1, .byts 0 0⟩) (hat : h.at o = some e) (he : e.obj = .byts n z) (hm : 0 < m) (hb : off + m ≤ n) (hl : m ≤ 140737488355328)
    (hK : K (.slice h.next 0 m false 0) (h.new ⟨true, 1, .byts m (cutB z off m)⟩)) : vAppend2 1 1 true (.slice p 0 0 true 0) (.slice o off m kn c) h K := by
  show srcK h 1 true (.slice o off m kn c) (K (.slice p 0 0 true 0) h) (fun m l => joinK h p 0 0 m true 0 1 1 (fun ob => growK ob 0 (0 * 1) l) (fun ob => setCellsK l ob (0 + 0 * 1)) K) (fun m z => joinK h p 0 0 m true 0 1 1 (fun ob => growBK ob 0 0 m z) (fun ob => overBK ob (0 + 0) m z) K)
  rw [srcK_by hat he hm hb]
  show gd (Nat.ble ((0 + m) * 1) 140737488355328) (asOpt (h.at p) fun e => gd (Nat.beq e.esz 1) (Bool.rec (motive := fun _ => Prop) (growBK e.obj 0 0 m (cutB z off m) fun ob => forceN (0 + m) fun n => finK 1 n h ob K)
    (gd e.own (overBK e.obj (0 + 0) m (cutB z off m) fun ob => putK h p (some ⟨true, e.esz, ob⟩) fun h => forceN (0 + m) fun n => K (.slice p 0 n true 0) h)) (Nat.ble (0 + m) 0)))
  have h1 : Nat.ble ((0 + m) * 1) 140737488355328 = true := by simp; omega
  have h2 : Nat.ble (0 + m) 0 = false := by
    cases hq : Nat.ble (0 + m) 0 with
    | false => rfl
    | true => have := Nat.le_of_ble_eq_true hq; omega
  rw [h1, gd_true, hp, asOpt_some]
  show gd (Nat.beq 1 1) _
  rw [h2]
  show gd (Nat.beq 1 1) (gd (Nat.ble (0 + 0) 0) (forceN (cutB 0 0 0 + cutB z off m <<< (8 * 0)) fun x => forceN (0 + m) fun n => forceN (0 + m) fun n' => finK 1 n' h (.byts n x) K))
  simp only [forceN_eq, Nat.zero_add]
  refine gd_iff.2 ⟨rfl, gd_iff.2 ⟨rfl, ?_⟩⟩
  unfold finK
  rw [newK_eq']
  have h3 : cutB 0 0 0 + cutB z off m <<< (8 * 0) = cutB z off m := by simp [cutB_eq]
  rw [h3]
  exact hK
section
variable (cf : CallK) (fuel : Nat) {h : Hp} {K : AV → Hp → Prop}
theorem Clone_run {v : AV} {l : List UInt8} (hv : ByH h v l) (hK : ∀ v' h', Ext h h' → ByH h' v' l → Fr h.next v' → K v' h') : s_bytes_Clone cf fuel v h K := by
  unfold s_bytes_Clone
  rcases hv with ⟨rfl, rfl⟩ | ⟨o, rfl, rfl⟩ | ⟨o, off, kn, c, e, n, z, rfl, h2, h3, h4, h5, h6, h7⟩
  · (try unfold vMov); repeat' (first | refine Step.imp ?_ | (refine Way.mk (fun hp => ?_) (fun hp => ?_) <;> first | contradiction | (exfalso; omega) | skip) | refine LoadG.mkG ?_ | refine LoadsG.mkG ?_ | refine AtG.mkG ?_ | refine StoreG.mkG ?_ | refine CondG.mkG ?_ | fail); (all_goals (try dsimp only))
    exact hK _ h (Ext.refl h) (ByH.nil h) (fun o off n kn c e => by cases e)
  · (try unfold vMov); repeat' (first | refine Step.imp ?_ | (refine Way.mk (fun hp => ?_) (fun hp => ?_) <;> first | contradiction | (exfalso; omega) | skip) | refine LoadG.mkG ?_ | refine LoadsG.mkG ?_ | refine AtG.mkG ?_ | refine StoreG.mkG ?_ | refine CondG.mkG ?_ | fail); (all_goals (try dsimp only))
    rw [bslice0]
    show K (.slice h.next 0 0 true 0) (h.new ⟨true, 1, .byts 0 0⟩)
    exact hK _ _ (by repeat (first | exact Ext.refl _ | assumption | apply Ext.new | (refine Ext.put ?_ _ (by first | omega | (simp; done) | (simp; omega))))) (.inr (.inr ⟨h.next, 0, true, 0, _, 0, 0, rfl, by simp [Hp.next_new], Hp.at_new_self _ _, rfl, by simp, by simp, rfl⟩)) (fun o off n kn c e => by cases e; exact Nat.le_refl _)
  · (try unfold vMov); repeat' (first | refine Step.imp ?_ | (refine Way.mk (fun hp => ?_) (fun hp => ?_) <;> first | contradiction | (exfalso; omega) | skip) | refine LoadG.mkG ?_ | refine LoadsG.mkG ?_ | refine AtG.mkG ?_ | refine StoreG.mkG ?_ | refine CondG.mkG ?_ | fail); (all_goals (try dsimp only))
    rw [bslice0]
    by_cases hl : l = []
    · subst hl
      show K (.slice h.next 0 0 true 0) (h.new ⟨true, 1, .byts 0 0⟩)
      exact hK _ _ (by repeat (first | exact Ext.refl _ | assumption | apply Ext.new | (refine Ext.put ?_ _ (by first | omega | (simp; done) | (simp; omega))))) (.inr (.inr ⟨h.next, 0, true, 0, _, 0, 0, rfl, by simp [Hp.next_new], Hp.at_new_self _ _, rfl, by simp, by simp, rfl⟩)) (fun o off n kn c e => by cases e; exact Nat.le_refl _)
    · have hm : 0 < l.length := List.length_pos_iff.2 hl
      refine append_by (Hp.at_new_self _ _) (by rw [Hp.at_new, if_neg (by omega)]; exact h3) h4 hm h5 h6.1 (hK _ _ (by repeat (first | exact Ext.refl _ | assumption | apply Ext.new | (refine Ext.put ?_ _ (by first | omega | (simp; done) | (simp; omega))))) ?_ (fun o off n kn c e => by cases e; simp only [Hp.next_new]; omega))
      refine .inr (.inr ⟨_, 0, false, 0, _, l.length, cutB z off l.length, rfl, by simp [Hp.next_new], Hp.at_new_self _ _, rfl, by simp, ⟨h6.1, fun q => by cases q⟩, ?_⟩)
      have := bytesL_cut n z off (off + l.length) (by omega) h5
      rw [show off + l.length - off = l.length by omega] at this
      rw [List.drop_zero, this, List.take_of_length_le (by simp; omega), List.drop_take, show off + l.length - off = l.length by omega]
      exact h7
end
end Lg

namespace Lg
set_option linter.unusedSimpArgs false
set_option linter.unusedVariables false
set_option maxRecDepth 100000
open Go Go.Am
open Go.Proofs.Ytnhamanffojhfaa.shl
def cClone : ConD := fun args h K => ∃ v l, args = [v] ∧ ByH h v l ∧ ∀ v' h', Ext h h' → ByH h' v' l → Fr h.next v' → K v' h'
theorem cClone_go {cf : CallK} {g : FuncId} (hg : cf g = cClone) {h : Hp} {v : AV} {l : List UInt8} {K : AV → Hp → Prop} (hv : ByH h v l) (hK : ∀ v' h', Ext h h' → ByH h' v' l → Fr h.next v' → K v' h') : cf g [v] h K := by rw [hg]; exact ⟨v, l, rfl, hv, hK⟩
theorem ByH.shape {h : Hp} {v : AV} {l : List UInt8} (hv : ByH h v l) : v = .nilslice ∨ (∃ o, v = .sliceZ o) ∨ ∃ o off n kn c, v = .slice o off n kn c := by
  rcases hv with ⟨h, _⟩ | ⟨o, h, _⟩ | ⟨_, _, _, _, _, _, _, h, _⟩
  · exact .inl h
  · exact .inr (.inl ⟨o, h⟩)
  · exact .inr (.inr ⟨_, _, _, _, _, h⟩)
theorem VecH.shape {h : Hp} {v : AV} {l : List Int} (hv : VecH h v l) : v = .nilslice ∨ (∃ o, v = .sliceZ o) ∨ ∃ o off n kn c, v = .slice o off n kn c := by
  rcases hv with ⟨h, _⟩ | ⟨o, h, _⟩ | ⟨_, _, _, _, _, h, _⟩
  · exact .inl h
  · exact .inr (.inl ⟨o, h⟩)
  · exact .inr (.inr ⟨_, _, _, _, _, h⟩)
theorem ByH.flat {h : Hp} {v : AV} {l : List UInt8} (hv : ByH h v l) : flatV v = true := by
  rcases hv with ⟨rfl, _⟩ | ⟨_, rfl, _⟩ | ⟨_, _, _, _, _, _, _, rfl, _⟩ <;> rfl
theorem VecH.flat {h : Hp} {v : AV} {l : List Int} (hv : VecH h v l) : flatV v = true := by
  rcases hv with ⟨rfl, _⟩ | ⟨_, rfl, _⟩ | ⟨_, _, _, _, _, rfl, _⟩ <;> rfl
section
variable (cf : CallK) (fuel : Nat) {h : Hp} {K : AV → Hp → Prop}
theorem Of_run (hC : cf 61 = cClone) {ca : List AV} {a : FOp} (ha : OpH h ca a) (hK : ∀ cs h', Ext h h' → VerH h' cs a → K (.agg cs) h') : s_content_Of cf fuel (.agg ca) h K := by
  obtain ⟨vd, vs, rfl, hd, hs, -⟩ := ha
  unfold s_content_Of opCells
  (try unfold vMov); repeat' (first | refine Step.imp ?_ | (refine Way.mk (fun hp => ?_) (fun hp => ?_) <;> first | contradiction | (exfalso; omega) | skip) | refine LoadG.mkG ?_ | refine LoadsG.mkG ?_ | refine AtG.mkG ?_ | refine StoreG.mkG ?_ | refine CondG.mkG ?_ | fail); (all_goals (try dsimp only))
  refine copyV (l := a.seen) (hs.mono (by repeat (first | exact Ext.refl _ | assumption | apply Ext.new | (refine Ext.put ?_ _ (by first | omega | (simp; done) | (simp; omega)))))) (fun v1 h1 x1 w1 f1 => ?_)
  have n1 := x1.next
  simp only [Hp.next_new] at n1
  have y1 : Ext h h1 := Ext.trans (by repeat (first | exact Ext.refl _ | assumption | apply Ext.new | (refine Ext.put ?_ _ (by first | omega | (simp; done) | (simp; omega))))) x1
  have a1 := x1.same h.next (by simp only [Hp.next_new]; omega)
  have a2 := x1.same (h.next + 1) (by simp only [Hp.next_new]; omega)
  have b1 : h1.at h.next = some ⟨true, 11, .row [I a.t, I a.n, I a.seq, I a.kind, I a.ot, I a.on, I a.pt, I a.pn, S a.name, vd, vs]⟩ := by
    rw [a1, Hp.at_new, if_neg (by simp only [Hp.next_new]; omega), Hp.at_new_self]
  have b2 : h1.at (h.next + 1) = some ⟨true, 5, .row [I 0, I 0, I 0, .nilslice, .nilslice]⟩ := by
    rw [a2]; exact Hp.at_new_self _ _
  have fd := hd.flat
  (try unfold vMov); repeat' (first | refine Step.imp ?_ | (refine Way.mk (fun hp => ?_) (fun hp => ?_) <;> first | contradiction | (exfalso; omega) | skip) | refine LoadG.mk (by simp (disch := (first | omega | (simp only [Hp.next_new, Hp.next_put]; omega))) only [Hp.at_new_self, Hp.at_put_self, Hp.at_new_lt, Hp.at_put_ne, b1] <;> rfl) (by simp only [cellAt_row', setL_cons0, setL_succ, Nat.reduceAdd, Nat.reduceMul, Nat.zero_add, Nat.add_zero, List.getElem?_cons_succ, List.getElem?_cons_zero]; rfl) ?_ | refine LoadsG.mk (by simp (disch := (first | omega | (simp only [Hp.next_new, Hp.next_put]; omega))) only [Hp.at_new_self, Hp.at_put_self, Hp.at_new_lt, Hp.at_put_ne, b1] <;> rfl) (by rfl) ?_ | refine AtG.mkG ?_ | refine StoreG.mk (by simp (disch := (first | omega | (simp only [Hp.next_new, Hp.next_put]; omega))) only [Hp.at_new_self, Hp.at_put_self, Hp.at_new_lt, Hp.at_put_ne, b1] <;> rfl) (by first | omega | (simp; done) | (simp; omega)) ?_ | refine CondG.mkG ?_ | (refine LoadsG.mk b1 (by rfl) ?_) | (refine LoadG.mk b1 (by rfl) ?_) | (refine CondG.mk (sameV_flat _ fd) ?_) | (refine CondG.mk (sameV_agg _ (by simp [flatV])) ?_) | fail); (all_goals (try dsimp only))
  refine cClone_go hC (hd.mono y1) (fun v2 h2 x2 w2 f2 => ?_)
  have n2 := x2.next
  have c1 : h2.at h.next = some ⟨true, 11, .row [I a.t, I a.n, I a.seq, I a.kind, I a.ot, I a.on, I a.pt, I a.pn, S a.name, vd, vs]⟩ := by
    rw [x2.same _ (by omega)]; exact b1
  have c2 : h2.at (h.next + 1) = some ⟨true, 5, .row [I 0, I 0, I 0, .nilslice, .nilslice]⟩ := by
    rw [x2.same _ (by omega)]; exact b2
  have g1 := (w1.mono x2).flat
  have g2 := w2.flat
  have w1' := w1.mono x2
  have y2 : Ext h h2 := y1.trans x2
  have fin2 : ∀ ob, VerH (h2.put (h.next + 1) (some ob)) [I a.t, I a.n, I a.seq, v1, v2] a := fun ob =>
    ⟨v1, v2, rfl, w1'.put f1 (by simp only [Hp.next_new]; omega) _, w2.put f2 (by omega) _⟩
  have y3 : ∀ ob, Ext h (h2.put (h.next + 1) ob) := fun ob => y2.put _ (by omega)
  rcases w1.shape with rfl | ⟨o1, rfl⟩ | ⟨o1, off1, k1, kn1, cc1, rfl⟩ <;> rcases w2.shape with rfl | ⟨o2, rfl⟩ | ⟨o2, off2, k2, kn2, cc2, rfl⟩
  all_goals
    ((try unfold vMov); repeat' (first | refine Step.imp ?_ | (refine Way.mk (fun hp => ?_) (fun hp => ?_) <;> first | contradiction | (exfalso; omega) | skip) | refine LoadG.mkG ?_ | refine LoadsG.mkG ?_ | refine AtG.mkG ?_ | refine StoreG.mkG ?_ | refine CondG.mkG ?_ | (refine LoadsG.mk c1 (by rfl) ?_) | (refine LoadG.mk c1 (by rfl) ?_) | (refine StoreG.mk c2 ⟨rfl, Nat.le_refl 5⟩ ?_) | fail); (all_goals (try dsimp only))
     first | exact hK _ _ (y3 _) (fin2 _) | trace_state)
end
end Lg

namespace Lg
set_option linter.unusedSimpArgs false
set_option linter.unusedVariables false
set_option maxRecDepth 100000
open Go Go.Am
open Go.Proofs.Ytnhamanffojhfaa.shl

theorem Rd.openS {h : Hp} {esz : Nat} {v : AV} {els : List (List AV)} (hr : Rd h esz v els) {i : Nat} (hi : i < els.length) : ∃ o off kn c e, v = .slice o off els.length kn c ∧ h.at o = some e ∧ ∀ j (hj : j < els.length), cellsO e.obj esz (off + j * esz) = some els[j] := by
  rcases hr with ⟨_, rfl⟩ | ⟨_, _, rfl⟩ | ⟨o, off, kn, c, e, h1, _, h3, _, h5⟩
  · simp at hi
  · simp at hi
  · exact ⟨o, off, kn, c, e, h1, h3, h5⟩
/-- Operations in a row. -/
def OpsR (h : Hp) (els : List (List AV)) (os : List FOp) : Prop := els.length = os.length ∧ ∀ j (h1 : j < els.length) (h2 : j < os.length), OpH h els[j] os[j]
theorem OpsR.mono {h h' : Hp} {els : List (List AV)} {os : List FOp} (ho : OpsR h els os) (hx : Ext h h') : OpsR h' els os := ⟨ho.1, fun j h1 h2 => (ho.2 j h1 h2).mono hx⟩
def cBeh : ConD := fun args h K => ∃ ca cb a b, args = [.agg ca, .agg cb] ∧ OpH h ca a ∧ OpH h cb b ∧ ∀ h', Ext h h' → K (.bool (behind a b)) h'
theorem cBeh_go {cf : CallK} {g : FuncId} (hg : cf g = cBeh) {h : Hp} {ca cb : List AV} {a b : FOp} {K : AV → Hp → Prop} (ha : OpH h ca a) (hb : OpH h cb b) (hK : ∀ h', Ext h h' → K (.bool (behind a b)) h') : cf g [.agg ca, .agg cb] h K := by rw [hg]; exact ⟨ca, cb, a, b, rfl, ha, hb, hK⟩
/-- No one of those from k on, so many, has seen the one at i. -/
def freeN (os : List FOp) (i : Nat) : Nat → Nat → Bool := allN fun k => k == i || !(match os[i]?, os[k]? with | some a, some b => behind a b | _, _ => false)
section
variable (cf : CallK) (fuel : Nat) {K : AV → Hp → Prop}
theorem HeadsL4_run (hB : cf 24 = cBeh) {h0 : Hp} {v : AV} {els : List (List AV)} {os : List FOp} (hr : Rd h0 11 v els) (ho : OpsR h0 els os) {i : Nat} (hi : i < els.length) (t3 : AV) (e3 : AV → Hp → Prop) :
    ∀ (d k fm : Nat) (b : Bool) (h : Hp), k + d = els.length → d < fm → Ext h0 h → (∀ h', Ext h0 h' → e3 (.bool (b && freeN os i k d)) h') → s_lagoonref15_HeadsL4 cf fuel e3 v t3 (I i) fm (.bool b) (I k) h
  | d, k, fm, b, h, hk, hf, hx, hK => by
    obtain ⟨fm, rfl⟩ : ∃ j, fm = j + 1 := ⟨fm - 1, by omega⟩
    rw [s_lagoonref15_HeadsL4_succ]
    unfold s_lagoonref15_HeadsL4B
    obtain ⟨o, off, kn, c, e, rfl, hat, hc⟩ := (hr.mono hx).openS hi
    have hb := hr.bound
    (try unfold vMov); repeat' (first | refine Step.imp ?_ | (refine Way.mk (fun hp => ?_) (fun hp => ?_) <;> first | contradiction | (exfalso; omega) | skip) | refine LoadG.mkG ?_ | refine LoadsG.mkG ?_ | refine AtG.mkG ?_ | refine StoreG.mkG ?_ | refine CondG.mkG ?_ | fail); (all_goals (try dsimp only))
    · obtain ⟨d, rfl⟩ : ∃ j, d = j + 1 := ⟨d - 1, by omega⟩
      have hkl : k < els.length := by omega
      have hos : i < os.length ∧ k < os.length := by rw [← ho.1]; exact ⟨hi, hkl⟩
      have ci := hc i hi
      have ck := hc k hkl
      have ei : (I (i : Int)) = .int .i64 ((i : Nat) : Int) := rfl
      unfold s_lagoonref15_HeadsB15
      dsimp only
      have e1 : ((k : Int) + 1) = ((k + 1 : Nat) : Int) := by omega
      have next : ∀ (b' : Bool) (h' : Hp), Ext h0 h' → (b' && freeN os i (k + 1) d) = (b && freeN os i k (d + 1)) → s_lagoonref15_HeadsL4 cf fuel e3 (.slice o off els.length kn c) t3 (I i) fm (.bool b') (I ((k + 1 : Nat) : Int)) h' := fun b' h' x1 x2 =>
        HeadsL4_run hB hr ho hi t3 e3 d (k + 1) fm b' h' (by omega) (by omega) x1 (fun h'' x3 => by rw [x2]; exact hK h'' x3)
      (try unfold vMov); repeat' (first | refine Step.imp ?_ | (refine Way.mk (fun hp => ?_) (fun hp => ?_) <;> first | contradiction | (exfalso; omega) | skip) | refine LoadG.mkG ?_ | refine LoadsG.mkG ?_ | refine AtG.mkG ?_ | refine StoreG.mkG ?_ | refine CondG.mkG ?_ | (refine LoadsG.mk hat (by simpa using ci) ?_) | (refine LoadsG.mk hat (by simpa using ck) ?_) | (refine cBeh_go hB ((ho.mono hx).2 i hi hos.1) ((ho.mono hx).2 k hkl hos.2) (fun h1 hx1 => ?_)) | fail); (all_goals (try dsimp only))
      · have hki : k = i := by omega
        rw [e1]
        exact next b h hx (by simp [freeN, allN, hki])
      · have hki : ¬ k = i := by omega
        have hb0 : (match os[i]?, os[k]? with | some a, some b => behind a b | _, _ => false) = behind os[i] os[k] := by
          rw [List.getElem?_eq_getElem hos.1, List.getElem?_eq_getElem hos.2]
        cases hbeh : behind os[i] os[k] with
        | true =>
          (try unfold vMov); repeat' (first | refine Step.imp ?_ | (refine Way.mk (fun hp => ?_) (fun hp => ?_) <;> first | contradiction | (exfalso; omega) | skip) | refine LoadG.mkG ?_ | refine LoadsG.mkG ?_ | refine AtG.mkG ?_ | refine StoreG.mkG ?_ | refine CondG.mkG ?_ | fail); (all_goals (try dsimp only))
          rw [e1]
          exact next false h1 (hx.trans hx1) (by simp [freeN, allN, hki, hb0, hbeh])
        | false =>
          (try unfold vMov); repeat' (first | refine Step.imp ?_ | (refine Way.mk (fun hp => ?_) (fun hp => ?_) <;> first | contradiction | (exfalso; omega) | skip) | refine LoadG.mkG ?_ | refine LoadsG.mkG ?_ | refine AtG.mkG ?_ | refine StoreG.mkG ?_ | refine CondG.mkG ?_ | fail); (all_goals (try dsimp only))
          rw [e1]
          exact next b h1 (hx.trans hx1) (by simp [freeN, allN, hki, hb0, hbeh])
    · have hd : d = 0 := by omega
      subst hd
      have := hK h hx
      simpa [freeN, allN] using this
/-- The heads among those from i on, so many. -/
def headsN (os : List FOp) : Nat → Nat → List Nat
  | _, 0 => []
  | i, d + 1 => if freeN os i 0 os.length then i :: headsN os (i + 1) d else headsN os (i + 1) d
theorem headsN_len (os : List FOp) : ∀ (i d : Nat), (headsN os i d).length ≤ d
  | _, 0 => by simp [headsN]
  | i, d + 1 => by
    have := headsN_len os (i + 1) d
    unfold headsN
    split
    · simp only [List.length_cons]; omega
    · omega
theorem HeadsL1_run (hB : cf 24 = cBeh) {h0 : Hp} {v : AV} {els : List (List AV)} {os : List FOp} (hr : Rd h0 11 v els) (ho : OpsR h0 els os) (hf : els.length + 1 < fuel) (hsm : els.length ≤ 1000000) (e0 : AV → Hp → Prop)
    (he : ∀ (v' : AV) (h' : Hp), Ext h0 h' → SlN h' 11 v' ((headsN os 0 els.length).filterMap fun i => els[i]?) h0.next → e0 v' h') :
    ∀ (d i fm : Nat) (pre : List Nat) (t3 : AV) (h : Hp), i + d = els.length → d < fm → Ext h0 h → pre ++ headsN os i d = headsN os 0 els.length → SlN h 11 t3 (pre.filterMap fun i => els[i]?) h0.next →
    s_lagoonref15_HeadsL1 cf fuel e0 v fm t3 (I i) h
  | d, i, fm, pre, t3, h, hk, hm, hx, hp, hs => by
    obtain ⟨fm, rfl⟩ : ∃ j, fm = j + 1 := ⟨fm - 1, by omega⟩
    rw [s_lagoonref15_HeadsL1_succ]
    unfold s_lagoonref15_HeadsL1B
    have hb := hr.bound
    have hp0 := hp
    by_cases hi : i < els.length
    · obtain ⟨d, rfl⟩ : ∃ j, d = j + 1 := ⟨d - 1, by omega⟩
      obtain ⟨o, off, kn, c, e, rfl, hat, hc⟩ := (hr.mono hx).openS hi
      dsimp only
      (try unfold vMov); repeat' (first | refine Step.imp ?_ | (refine Way.mk (fun hp => ?_) (fun hp => ?_) <;> first | contradiction | (exfalso; omega) | skip) | refine LoadG.mkG ?_ | refine LoadsG.mkG ?_ | refine AtG.mkG ?_ | refine StoreG.mkG ?_ | refine CondG.mkG ?_ | fail); (all_goals (try dsimp only))
      have e1 : ((i : Int) + 1) = ((i + 1 : Nat) : Int) := by omega
      have hos : i < os.length := by rw [← ho.1]; exact hi
      have next : ∀ (pre' : List Nat) (t3' : AV) (h' : Hp), Ext h0 h' → pre' ++ headsN os (i + 1) d = headsN os 0 els.length → SlN h' 11 t3' (pre'.filterMap fun i => els[i]?) h0.next → s_lagoonref15_HeadsL1 cf fuel e0 (.slice o off els.length kn c) fm t3' (I ((i + 1 : Nat) : Int)) h' := fun pre' t3' h' x1 x2 x3 =>
        HeadsL1_run hB hr ho hf hsm e0 he d (i + 1) fm pre' t3' h' (by omega) (by omega) x1 x2 x3
      refine HeadsL4_run cf fuel hB (h0 := h) (hr.mono hx) (ho.mono hx) hi t3 _ els.length 0 fuel true h (by omega) (by omega) (Ext.refl h) (fun h' hx' => ?_)
      have hat' : h'.at o = some e := by
        rcases (hr.mono hx) with ⟨q, _⟩ | ⟨_, q, _⟩ | ⟨o', off', kn', c', e', q1, q2, q3, _⟩
        · cases q
        · cases q
        · cases q1
          rw [hx'.same o q2, hat]
      unfold s_lagoonref15_HeadsE3 s_lagoonref15_HeadsE2
      rw [Bool.true_and]
      have hlen : freeN os i 0 els.length = freeN os i 0 os.length := by rw [ho.1]
      cases hfr : freeN os i 0 els.length with
      | false =>
        (try unfold vMov); repeat' (first | refine Step.imp ?_ | (refine Way.mk (fun hp => ?_) (fun hp => ?_) <;> first | contradiction | (exfalso; omega) | skip) | refine LoadG.mkG ?_ | refine LoadsG.mkG ?_ | refine AtG.mkG ?_ | refine StoreG.mkG ?_ | refine CondG.mkG ?_ | fail); (all_goals (try dsimp only))
        rw [e1]
        refine next pre t3 h' (hx.trans hx') ?_ (hs.ext hx')
        have : freeN os i 0 os.length = false := by rw [← hlen]; exact hfr
        rw [← hp0]
        simp [headsN, this]
      | true =>
        obtain ⟨vd, vs, hcs, -⟩ := ho.2 i hi hos
        have ci := hc i hi
        rw [hcs] at ci
        unfold opCells at ci
        (try unfold vMov); repeat' (first | refine Step.imp ?_ | (refine Way.mk (fun hp => ?_) (fun hp => ?_) <;> first | contradiction | (exfalso; omega) | skip) | refine LoadG.mkG ?_ | refine LoadsG.mkG ?_ | refine AtG.mkG ?_ | refine StoreG.mkG ?_ | refine CondG.mkG ?_ | (refine LoadsG.mk hat' (by simpa using ci) ?_) | fail); (all_goals (try dsimp only))
        refine append_own (els := pre.filterMap fun i => els[i]?) (news := [opCells os[i] vd vs]) (B := h0.next) (h0 := h0) ((hx.trans hx').trans (by repeat (first | exact Ext.refl _ | assumption | apply Ext.new | (refine Ext.put ?_ _ (by first | omega | (simp; done) | (simp; omega)))))) (hs.ext (hx'.trans (by repeat (first | exact Ext.refl _ | assumption | apply Ext.new | (refine Ext.put ?_ _ (by first | omega | (simp; done) | (simp; omega))))))) (Nat.le_refl _) ?_ ?_ ?_ (by simp) ?_ ?_
        · have := (hx.trans hx').next
          simp only [Hp.next_new]; omega
        · exact ⟨_, 0, true, 1, _, rfl, Hp.at_new_self _ _, rfl⟩
        · intro x hx1
          rw [List.mem_singleton.1 hx1]; rfl
        · have h1 := headsN_len os 0 els.length
          have h2 := congrArg List.length hp0
          have h3 := List.length_filterMap_le (fun i => els[i]?) pre
          simp only [List.length_append, List.length_singleton] at h2 ⊢
          omega
        · intro v' h'' k1 k2 k3 k4
          (try unfold vMov); repeat' (first | refine Step.imp ?_ | (refine Way.mk (fun hp => ?_) (fun hp => ?_) <;> first | contradiction | (exfalso; omega) | skip) | refine LoadG.mkG ?_ | refine LoadsG.mkG ?_ | refine AtG.mkG ?_ | refine StoreG.mkG ?_ | refine CondG.mkG ?_ | fail); (all_goals (try dsimp only))
          rw [e1]
          refine next (pre ++ [i]) v' h'' k1 ?_ ?_
          · have : freeN os i 0 os.length = true := by rw [← hlen]; exact hfr
            rw [← hp0]
            simp [headsN, this]
          · simpa [List.filterMap_append, List.getElem?_eq_getElem hi, hcs] using k4
    · have hd : d = 0 := by omega
      subst hd
      have hv : vLenL2 v h = fun K => K (I els.length) h := by
        funext K
        rcases hr with ⟨rfl, rfl⟩ | ⟨_, rfl, rfl⟩ | ⟨o, off, kn, c, e, rfl, _⟩ <;> rfl
      rw [hv]
      dsimp only
      (try unfold vMov); repeat' (first | refine Step.imp ?_ | (refine Way.mk (fun hp => ?_) (fun hp => ?_) <;> first | contradiction | (exfalso; omega) | skip) | refine LoadG.mkG ?_ | refine LoadsG.mkG ?_ | refine AtG.mkG ?_ | refine StoreG.mkG ?_ | refine CondG.mkG ?_ | fail); (all_goals (try dsimp only))
      refine he t3 h hx ?_
      have : pre = headsN os 0 els.length := by simpa [headsN] using hp0
      rw [← this]; exact hs
theorem Heads_run (hB : cf 24 = cBeh) {h0 : Hp} {v : AV} {els : List (List AV)} {os : List FOp} (hr : Rd h0 11 v els) (ho : OpsR h0 els os) (hf : els.length + 1 < fuel) (hsm : els.length ≤ 1000000)
    (hK : ∀ (v' : AV) (h' : Hp), Ext h0 h' → SlN h' 11 v' ((headsN os 0 els.length).filterMap fun i => els[i]?) h0.next → K v' h') : s_lagoonref15_Heads cf fuel v h0 K := by
  unfold s_lagoonref15_Heads
  dsimp only
  exact HeadsL1_run cf fuel hB hr ho hf hsm _ (fun v' h' x1 x2 => by unfold s_lagoonref15_HeadsE0; exact hK v' h' x1 x2) els.length 0 fuel [] .nilslice h0 (by omega) (by omega) (Ext.refl h0) rfl (.inl ⟨rfl, rfl⟩)
end
end Lg

namespace Lg
set_option linter.unusedSimpArgs false
set_option linter.unusedVariables false
set_option maxRecDepth 100000
open Go Go.Am
open Go.Proofs.Ytnhamanffojhfaa.shl
/-- Versions in a row. -/
def VersR (h : Hp) (els : List (List AV)) (os : List FOp) : Prop := els.length = os.length ∧ ∀ j (h1 : j < els.length) (h2 : j < os.length), VerH h els[j] os[j]
theorem VersR.mono {h h' : Hp} {els : List (List AV)} {os : List FOp} (ho : VersR h els os) (hx : Ext h h') : VersR h' els os := ⟨ho.1, fun j h1 h2 => (ho.2 j h1 h2).mono hx⟩
def cBehV : ConD := fun args h K => ∃ ca cb a b, args = [.agg ca, .agg cb] ∧ VerH h ca a ∧ VerH h cb b ∧ ∀ h', Ext h h' → K (.bool (behind a b)) h'
theorem cBehV_go {cf : CallK} {g : FuncId} (hg : cf g = cBehV) {h : Hp} {ca cb : List AV} {a b : FOp} {K : AV → Hp → Prop} (ha : VerH h ca a) (hb : VerH h cb b) (hK : ∀ h', Ext h h' → K (.bool (behind a b)) h') : cf g [.agg ca, .agg cb] h K := by rw [hg]; exact ⟨ca, cb, a, b, rfl, ha, hb, hK⟩
/-- None of those from k on, so many, has seen a. -/
def freeP (os : List FOp) (a : FOp) : Nat → Nat → Bool := allN fun k => match os[k]? with | some b => sameI a.t a.n b.t b.n || !behind a b | none => true
section
variable (cf : CallK) (fuel : Nat) {K : AV → Hp → Prop}
theorem FHeadsL4_run (hB : cf 23 = cBehV) {h0 : Hp} {v : AV} {els : List (List AV)} {os : List FOp} (hr : Rd h0 5 v els) (ho : VersR h0 els os) {a : FOp} {vs vd : AV} (ha : VerH h0 [I a.t, I a.n, I a.seq, vs, vd] a) {p : Nat} (hP : h0.at p = some ⟨true, 5, .row [I a.t, I a.n, I a.seq, vs, vd]⟩) (hpn : p < h0.next)
    (t0 t3 t13 t14 t15 : AV) (e2 : AV → Hp → Prop) (e3 : Hp → Prop) :
    ∀ (d k fm : Nat) (h : Hp), k + d = els.length → d < fm → Ext h0 h → (∀ h', Ext h0 h' → freeP os a k d = false → e2 t3 h') → (∀ h', Ext h0 h' → freeP os a k d = true → e3 h') →
      s_content_File_HeadsL4 cf fuel e2 e3 t0 t3 (.ptr p 0) t13 t14 t15 v (I els.length) fm (I k) h
  | d, k, fm, h, hk, hf, hx, h2, h3 => by
    obtain ⟨fm, rfl⟩ : ∃ j, fm = j + 1 := ⟨fm - 1, by omega⟩
    rw [s_content_File_HeadsL4_succ]
    unfold s_content_File_HeadsL4B
    have hb := hr.bound
    have hp' : h.at p = some ⟨true, 5, .row [I a.t, I a.n, I a.seq, vs, vd]⟩ := by rw [hx.same p hpn]; exact hP
    have hpl : p < h.next := Nat.lt_of_lt_of_le hpn hx.next
    (try unfold vMov); repeat' (first | refine Step.imp ?_ | (refine Way.mk (fun hp => ?_) (fun hp => ?_) <;> first | contradiction | (exfalso; omega) | skip) | refine LoadG.mkG ?_ | refine LoadsG.mkG ?_ | refine AtG.mkG ?_ | refine StoreG.mkG ?_ | refine CondG.mkG ?_ | fail); (all_goals (try dsimp only))
    · obtain ⟨d, rfl⟩ : ∃ j, d = j + 1 := ⟨d - 1, by omega⟩
      have hkl : k < els.length := by omega
      have hos : k < os.length := by rw [← ho.1]; exact hkl
      obtain ⟨o, off, kn, c, e, rfl, hat, hc⟩ := (hr.mono hx).openS hkl
      have ck := hc k hkl
      have hv := (ho.mono hx).2 k hkl hos
      obtain ⟨vs', vd', hcs, hs', hd'⟩ := hv
      rw [hcs] at ck
      have fs := hs'.flat
      have fd := hd'.flat
      have e1 : ((k : Int) + 1) = ((k + 1 : Nat) : Int) := by omega
      have next : ∀ (h' : Hp), Ext h0 h' → (freeP os a (k + 1) d = freeP os a k (d + 1)) → s_content_File_HeadsL4 cf fuel e2 e3 t0 t3 (.ptr p 0) t13 t14 t15 (.slice o off els.length kn c) (I els.length) fm (I ((k + 1 : Nat) : Int)) h' := fun h' x1 x2 =>
        FHeadsL4_run hB hr ho ha hP hpn t0 t3 t13 t14 t15 e2 e3 d (k + 1) fm h' (by omega) (by omega) x1 (fun h'' y1 y2 => h2 h'' y1 (by rw [← x2]; exact y2)) (fun h'' y1 y2 => h3 h'' y1 (by rw [← x2]; exact y2))
      unfold s_content_File_HeadsB9
      dsimp only
      have hb0 : freeP os a k (d + 1) = ((sameI a.t a.n os[k].t os[k].n || !behind a os[k]) && freeP os a (k + 1) d) := by
        show ((match os[k]? with | some b => sameI a.t a.n b.t b.n || !behind a b | none => true) && _) = _
        rw [List.getElem?_eq_getElem hos]; rfl
      have hsh' : VecH h vs' os[k].seen := hs'
      have hdh' : ByH h vd' os[k].data := hd'
      rcases hs'.shape with rfl | ⟨o1, rfl⟩ | ⟨o1, off1, k1, kn1, cc1, rfl⟩ <;> rcases hd'.shape with rfl | ⟨o2, rfl⟩ | ⟨o2, off2, k2, kn2, cc2, rfl⟩
      all_goals
        ((try unfold vMov); repeat' (first | refine Step.imp ?_ | (refine Way.mk (fun hp => ?_) (fun hp => ?_) <;> first | contradiction | (exfalso; omega) | skip) | refine LoadG.mk (by simp (disch := (first | omega | (simp only [Hp.next_new, Hp.next_put]; omega))) only [Hp.at_new_self, Hp.at_put_self, Hp.at_new_lt, Hp.at_put_ne, hp'] <;> rfl) (by simp only [cellAt_row', setL_cons0, setL_succ, Nat.reduceAdd, Nat.reduceMul, Nat.zero_add, Nat.add_zero, List.getElem?_cons_succ, List.getElem?_cons_zero]; rfl) ?_ | refine LoadsG.mk (by simp (disch := (first | omega | (simp only [Hp.next_new, Hp.next_put]; omega))) only [Hp.at_new_self, Hp.at_put_self, Hp.at_new_lt, Hp.at_put_ne, hp'] <;> rfl) (by rfl) ?_ | refine AtG.mkG ?_ | refine StoreG.mk (by simp (disch := (first | omega | (simp only [Hp.next_new, Hp.next_put]; omega))) only [Hp.at_new_self, Hp.at_put_self, Hp.at_new_lt, Hp.at_put_ne, hp'] <;> rfl) (by first | omega | (simp; done) | (simp; omega)) ?_ | refine CondG.mkG ?_ | (refine LoadsG.mk hat (by simpa using ck) ?_) | (refine LoadsG.mk hp' (by rfl) ?_) | fail); (all_goals (try dsimp only))
         · rw [e1]
           refine next _ (hx.trans (by repeat (first | exact Ext.refl _ | assumption | apply Ext.new | (refine Ext.put ?_ _ (by first | omega | (simp; done) | (simp; omega)))))) ?_
           have hse : sameI a.t a.n os[k].t os[k].n = true := by simp_all [sameI]
           rw [hb0, hse]; simp
         · have hse : sameI a.t a.n os[k].t os[k].n = false := by
             cases q : sameI a.t a.n os[k].t os[k].n with
             | false => rfl
             | true => exfalso; simp_all [sameI]
           refine cBehV_go hB (ha.mono (hx.trans (by repeat (first | exact Ext.refl _ | assumption | apply Ext.new | (refine Ext.put ?_ _ (by first | omega | (simp; done) | (simp; omega))))))) (VerH.mono (h := h) ⟨_, _, rfl, hsh', hdh'⟩ (by repeat (first | exact Ext.refl _ | assumption | apply Ext.new | (refine Ext.put ?_ _ (by first | omega | (simp; done) | (simp; omega)))))) (fun h1 x1 => ?_)
           have x0 : Ext h0 h1 := (hx.trans (by repeat (first | exact Ext.refl _ | assumption | apply Ext.new | (refine Ext.put ?_ _ (by first | omega | (simp; done) | (simp; omega)))))).trans x1
           cases hbeh : behind a os[k] with
           | true =>
             (try unfold vMov); repeat' (first | refine Step.imp ?_ | (refine Way.mk (fun hp => ?_) (fun hp => ?_) <;> first | contradiction | (exfalso; omega) | skip) | refine LoadG.mkG ?_ | refine LoadsG.mkG ?_ | refine AtG.mkG ?_ | refine StoreG.mkG ?_ | refine CondG.mkG ?_ | fail); (all_goals (try dsimp only))
             exact h2 h1 x0 (by rw [hb0, hse, hbeh]; rfl)
           | false =>
             (try unfold vMov); repeat' (first | refine Step.imp ?_ | (refine Way.mk (fun hp => ?_) (fun hp => ?_) <;> first | contradiction | (exfalso; omega) | skip) | refine LoadG.mkG ?_ | refine LoadsG.mkG ?_ | refine AtG.mkG ?_ | refine StoreG.mkG ?_ | refine CondG.mkG ?_ | fail); (all_goals (try dsimp only))
             rw [e1]
             exact next h1 x0 (by rw [hb0, hse, hbeh]; simp))
    · have hd : d = 0 := by omega
      subst hd
      exact h3 h hx rfl
end
end Lg

namespace Lg
set_option linter.unusedSimpArgs false
set_option linter.unusedVariables false
set_option maxRecDepth 100000
open Go Go.Am
open Go.Proofs.Ytnhamanffojhfaa.shl
/-- A file: where its versions lie. -/
def FileH (h : Hp) (fo : Nat) (v : AV) (els : List (List AV)) (os : List FOp) : Prop := fo < h.next ∧ h.at fo = some ⟨true, 1, .row [v]⟩ ∧ Rd h 5 v els ∧ VersR h els os
theorem FileH.mono {h h' : Hp} {fo : Nat} {v : AV} {els : List (List AV)} {os : List FOp} (hf : FileH h fo v els os) (hx : Ext h h') : FileH h' fo v els os :=
  ⟨Nat.lt_of_lt_of_le hf.1 hx.next, by rw [hx.same fo hf.1]; exact hf.2.1, hf.2.2.1.mono hx, hf.2.2.2.mono hx⟩
section
variable (cf : CallK) (fuel : Nat) {h : Hp} {K : AV → Hp → Prop}
theorem Len_run {fo : Nat} {v : AV} {els : List (List AV)} {os : List FOp} (hf : FileH h fo v els os) (hK : K (I os.length) h) : s_content_File_Len cf fuel (.ptr fo 0) h K := by
  obtain ⟨f1, f2, f3, f4⟩ := hf
  have hl : (I (os.length : Int)) = I (els.length : Int) := by rw [f4.1]
  rw [hl] at hK
  unfold s_content_File_Len
  rcases f3 with ⟨rfl, rfl⟩ | ⟨o, rfl, rfl⟩ | ⟨o, off, kn, c, e, rfl, _⟩
  all_goals
    ((try unfold vMov); repeat' (first | refine Step.imp ?_ | (refine Way.mk (fun hp => ?_) (fun hp => ?_) <;> first | contradiction | (exfalso; omega) | skip) | refine LoadG.mkG ?_ | refine LoadsG.mkG ?_ | refine AtG.mkG ?_ | refine StoreG.mkG ?_ | refine CondG.mkG ?_ | (refine LoadG.mk f2 (by rfl) ?_) | fail); (all_goals (try dsimp only))
     all_goals first | exact hK | simpa using hK)
theorem New_run (hK : ∀ fo h', Ext h h' → FileH h' fo .nilslice [] [] → h.next ≤ fo → K (.ptr fo 0) h') : s_content_New cf fuel h K := by
  unfold s_content_New
  (try unfold vMov); repeat' (first | refine Step.imp ?_ | (refine Way.mk (fun hp => ?_) (fun hp => ?_) <;> first | contradiction | (exfalso; omega) | skip) | refine LoadG.mkG ?_ | refine LoadsG.mkG ?_ | refine AtG.mkG ?_ | refine StoreG.mkG ?_ | refine CondG.mkG ?_ | fail); (all_goals (try dsimp only))
  refine hK _ _ (by repeat (first | exact Ext.refl _ | assumption | apply Ext.new | (refine Ext.put ?_ _ (by first | omega | (simp; done) | (simp; omega))))) ⟨by simp [Hp.next_new], Hp.at_new_self _ _, .inl ⟨rfl, rfl⟩, rfl, fun j h1 => by simp at h1⟩ (Nat.le_refl _)
end
end Lg

namespace Lg
set_option linter.unusedSimpArgs false
set_option linter.unusedVariables false
set_option maxRecDepth 100000
open Go Go.Am
open Go.Proofs.Ytnhamanffojhfaa.shl
theorem VecH.same {h h' : Hp} {v : AV} {l : List Int} (hv : VecH h v l) (hn : h.next ≤ h'.next) (hs : ∀ o off n kn c, v = .slice o off n kn c → o < h.next → h'.at o = h.at o) : VecH h' v l := by
  rcases hv with q | q | ⟨o, off, kn, c, e', h1, h2, h3, h4⟩
  · exact .inl q
  · exact .inr (.inl q)
  · exact .inr (.inr ⟨o, off, kn, c, e', h1, Nat.lt_of_lt_of_le h2 hn, by rw [hs _ _ _ _ _ h1 h2]; exact h3, h4⟩)
theorem ByH.same {h h' : Hp} {v : AV} {l : List UInt8} (hv : ByH h v l) (hn : h.next ≤ h'.next) (hs : ∀ o off n kn c, v = .slice o off n kn c → o < h.next → h'.at o = h.at o) : ByH h' v l := by
  rcases hv with q | q | ⟨o, off, kn, c, e', n, z, h1, h2, h3, h4⟩
  · exact .inl q
  · exact .inr (.inl q)
  · exact .inr (.inr ⟨o, off, kn, c, e', n, z, h1, Nat.lt_of_lt_of_le h2 hn, by rw [hs _ _ _ _ _ h1 h2]; exact h3, h4⟩)
theorem VecH.lt {h : Hp} {v : AV} {l : List Int} (hv : VecH h v l) {o off n : Nat} {kn : Bool} {c : Nat} (e : v = .slice o off n kn c) : o < h.next := by
  rcases hv with ⟨rfl, _⟩ | ⟨_, rfl, _⟩ | ⟨o', off', kn', c', e', rfl, h2, _⟩
  · cases e
  · cases e
  · cases e; exact h2
theorem ByH.lt {h : Hp} {v : AV} {l : List UInt8} (hv : ByH h v l) {o off n : Nat} {kn : Bool} {c : Nat} (e : v = .slice o off n kn c) : o < h.next := by
  rcases hv with ⟨rfl, _⟩ | ⟨_, rfl, _⟩ | ⟨o', off', kn', c', e', n', z', rfl, h2, _⟩
  · cases e
  · cases e
  · cases e; exact h2
theorem SlN.lt {h : Hp} {esz : Nat} {v : AV} {els : List (List AV)} {B o off n : Nat} {kn : Bool} {c : Nat} (hv : SlN h esz v els B) (e : v = .slice o off n kn c) : o < h.next := by
  rcases hv with ⟨rfl, _⟩ | ⟨o', ob, rfl, _, h2, _⟩
  · cases e
  · cases e; exact h2
section
variable (cf : CallK) (fuel : Nat) {K : AV → Hp → Prop}
theorem FHeadsE3_run (hC : cf 61 = cClone) {h0 hb h : Hp} (x0 : Ext h0 hb) (hx : Ext hb h) {p : Nat} (hp1 : hb.next ≤ p) (hp2 : p < h.next) {a : FOp} {vs vd : AV} (hP : h.at p = some ⟨true, 5, .row [I a.t, I a.n, I a.seq, vs, vd]⟩) (hs : VecH h vs a.seen) (hd : ByH h vd a.data)
    {t3 : AV} {els' : List (List AV)} {B : Nat} (hB0 : h0.next ≤ B) (hB : B ≤ hb.next) (ho : SlN hb 5 t3 els' B) (hn : els'.length ≤ 1000000) (t0 t13 t14 t15 : AV) (e2 : AV → Hp → Prop)
    (hK : ∀ v' h' cs M, Ext h0 h' → (∀ q, q < hb.next → (∀ off n kn c, t3 ≠ .slice q off n kn c) → h'.at q = hb.at q) → hb.next ≤ M → M ≤ h'.next → SlN h' 5 v' (els' ++ [cs]) M → (∀ x ∈ cs, ∀ o off n kn c, x = .slice o off n kn c → o < M) → VerH h' cs a → e2 v' h') :
    s_content_File_HeadsE3 cf fuel e2 t0 t3 (.ptr p 0) t13 t14 t15 h := by
  unfold s_content_File_HeadsE3
  (try unfold vMov); repeat' (first | refine Step.imp ?_ | (refine Way.mk (fun hp => ?_) (fun hp => ?_) <;> first | contradiction | (exfalso; omega) | skip) | refine LoadG.mkG ?_ | refine LoadsG.mkG ?_ | refine AtG.mkG ?_ | refine StoreG.mkG ?_ | refine CondG.mkG ?_ | (refine LoadG.mk hP (by rfl) ?_) | fail); (all_goals (try dsimp only))
  refine copyV hs (fun v1 h1 x1 w1 f1 => ?_)
  have n1 := x1.next
  have P1 : h1.at p = some ⟨true, 5, .row [I a.t, I a.n, I a.seq, vs, vd]⟩ := by rw [x1.same p hp2]; exact hP
  have fd := hd.flat
  (try unfold vMov); repeat' (first | refine Step.imp ?_ | (refine Way.mk (fun hp => ?_) (fun hp => ?_) <;> first | contradiction | (exfalso; omega) | skip) | refine LoadG.mkG ?_ | refine LoadsG.mkG ?_ | refine AtG.mkG ?_ | refine StoreG.mkG ?_ | refine CondG.mkG ?_ | (refine LoadG.mk P1 (by rfl) ?_) | (refine CondG.mk (sameV_flat _ fd) ?_) | fail); (all_goals (try dsimp only))
  refine cClone_go hC (hd.mono x1) (fun v2 h2 x2 w2 f2 => ?_)
  have n2 := x2.next
  have P2 : h2.at p = some ⟨true, 5, .row [I a.t, I a.n, I a.seq, vs, vd]⟩ := by rw [x2.same p (by omega)]; exact P1
  have nb := hx.next
  have y2 : Ext hb h2 := (hx.trans x1).trans x2
  have nx : ∀ {o off n kn c}, t3 = .slice o off n kn c → o < hb.next := fun e => SlN.lt ho e
  have keep : ∀ (h' : Hp) (A C D : Option Ent) (E : Ent), (∀ q, q < (((h2.put p A).put p C).new E).next → (∀ off n kn c, t3 ≠ .slice q off n kn c) → h'.at q = (((h2.put p A).put p C).new E).at q) →
      ∀ o, h.next ≤ o → o < h2.next → h'.at o = h2.at o := fun h' A C D E k3 o q1 q2 => by
    rw [k3 o (by simp only [Hp.next_new, Hp.next_put]; omega) (fun off n kn c e => by have := nx e; omega), Hp.at_new, if_neg (by simp only [Hp.next_put]; omega), Hp.at_put_ne _ (by omega), Hp.at_put_ne _ (by omega)]
  have w1' := w1.mono x2
  have hcs : ∀ x ∈ [I a.t, I a.n, I a.seq, v1, v2], ∀ o off n kn c, x = .slice o off n kn c → o < h2.next := by
    intro x hx o off n kn c e
    rcases List.mem_cons.1 hx with q | hx
    · rw [q] at e; cases e
    rcases List.mem_cons.1 hx with q | hx
    · rw [q] at e; cases e
    rcases List.mem_cons.1 hx with q | hx
    · rw [q] at e; cases e
    rcases List.mem_cons.1 hx with q | hx
    · rw [q] at e; exact VecH.lt w1' e
    · rw [List.mem_singleton.1 hx] at e; exact ByH.lt w2 e
  rcases w1.shape with rfl | ⟨o1, rfl⟩ | ⟨o1, off1, k1, kn1, cc1, rfl⟩ <;> rcases w2.shape with rfl | ⟨o2, rfl⟩ | ⟨o2, off2, k2, kn2, cc2, rfl⟩
  all_goals
    ((try unfold vMov); repeat' (first | refine Step.imp ?_ | (refine Way.mk (fun hp => ?_) (fun hp => ?_) <;> first | contradiction | (exfalso; omega) | skip) | refine LoadG.mk (by simp (disch := (first | omega | (simp only [Hp.next_new, Hp.next_put]; omega))) only [Hp.at_new_self, Hp.at_put_self, Hp.at_new_lt, Hp.at_put_ne, P2] <;> rfl) (by simp only [cellAt_row', setL_cons0, setL_succ, Nat.reduceAdd, Nat.reduceMul, Nat.zero_add, Nat.add_zero, List.getElem?_cons_succ, List.getElem?_cons_zero]; rfl) ?_ | refine LoadsG.mk (by simp (disch := (first | omega | (simp only [Hp.next_new, Hp.next_put]; omega))) only [Hp.at_new_self, Hp.at_put_self, Hp.at_new_lt, Hp.at_put_ne, P2] <;> rfl) (by rfl) ?_ | refine AtG.mkG ?_ | refine StoreG.mk (by simp (disch := (first | omega | (simp only [Hp.next_new, Hp.next_put]; omega))) only [Hp.at_new_self, Hp.at_put_self, Hp.at_new_lt, Hp.at_put_ne, P2] <;> rfl) (by first | omega | (simp; done) | (simp; omega)) ?_ | refine CondG.mkG ?_ | (refine StoreG.mk P2 ⟨rfl, by decide⟩ ?_) | fail); (all_goals (try dsimp only))
     refine append_own2 (els := els') (news := [[I a.t, I a.n, I a.seq, _, _]]) (B := B) (h0 := h0) (x0.trans (by repeat (first | exact Ext.refl _ | assumption | apply Ext.new | (refine Ext.put ?_ _ (by first | omega | (simp; done) | (simp; omega)))))) (ho.same (by simp only [Hp.next_new, Hp.next_put]; omega) (fun q _ q2 => Ext.atq (hx := (by repeat (first | exact Ext.refl _ | assumption | apply Ext.new | (refine Ext.put ?_ _ (by first | omega | (simp; done) | (simp; omega)))))) q q2)) hB0 (by simp only [Hp.next_new, Hp.next_put]; omega) ⟨_, 0, true, 1, _, rfl, Hp.at_new_self _ _, rfl⟩ (by intro e he; rw [List.mem_singleton.1 he]; rfl) (by simp) (by simp only [List.length_singleton]; omega) (fun v' h' k1 k2 k3 k4 => ?_)
     simp only [Hp.next_new, Hp.next_put] at k2
     simp only [Hp.next_new, Hp.next_put] at k4
     refine hK v' h' _ _ k1 (fun q hq hne => (k3 q (by simp only [Hp.next_new, Hp.next_put]; omega) hne).trans (Ext.atq (hx := (by repeat (first | exact Ext.refl _ | assumption | apply Ext.new | (refine Ext.put ?_ _ (by first | omega | (simp; done) | (simp; omega)))))) q hq)) ?_ ?_ k4 ?_ ⟨_, _, rfl, ?_, ?_⟩
     · omega
     · omega
     · exact fun x hx o off n kn c e => Nat.lt_of_lt_of_le (hcs x hx o off n kn c e) (by omega)
     · exact w1'.same (by omega) (fun o off n kn c e q2 => keep h' _ _ none _ k3 o (f1 _ _ _ _ _ e) q2)
     · exact w2.same (by omega) (fun o off n kn c e q2 => keep h' _ _ none _ k3 o (Nat.le_trans n1 (f2 _ _ _ _ _ e)) q2))
end
end Lg

namespace Lg
set_option linter.unusedSimpArgs false
set_option linter.unusedVariables false
set_option maxRecDepth 100000
open Go Go.Am
open Go.Proofs.Ytnhamanffojhfaa.shl
theorem zerosK_intro (d : List AV) (n : Nat) (k : AObj → Prop) (q : ∀ ob, Cells ob (repL d n) → k ob) : zerosK false n d k := by
  show Bool.rec (motive := fun _ => Prop) (forceN (n * d.length) fun n => k (.big n .lf d)) (k (.row (repL d n))) (Nat.ble (n * d.length) 24)
  cases Nat.ble (n * d.length) 24 with
  | true => exact q _ (Cells.row _)
  | false =>
    show forceN _ _
    rw [forceN_eq]
    exact q _ ⟨trivial, (repL_length d n).symm, fun j => by rw [cellAt_big, V1.getP_lf, repL_get (α := Unit)]⟩
theorem mkSlice_go {esz bytes : Nat} {zero : List AV} {n : Nat} (hb : n * bytes ≤ 140737488355328) (hn : n ≤ 9223372036854775807) {h : Hp} {K : AV → Hp → Prop} (q : ∀ ob, Cells ob (repL zero n) → K (.slice h.next 0 n true n) (h.new ⟨true, esz, ob⟩)) : vMkSlice esz bytes false zero (I n) (I n) h K := by
  show asNat (I n) (fun l => asNat (I n) fun c => gd (Nat.ble l c && (Nat.ble (c * bytes) 140737488355328 && Nat.ble c 9223372036854775807)) (forceN l fun l => forceN c fun c => zerosK false c zero fun ob => newK h ⟨true, esz, ob⟩ fun o h => K (.slice o 0 l true c) h))
  rw [asNat_int _ _ (by omega), asNat_int _ _ (by omega), Int.toNat_natCast, forceN_eq, forceN_eq]
  refine gd_iff.2 ⟨by simp; omega, zerosK_intro _ _ _ fun ob hob => ?_⟩
  rw [newK_eq']
  exact q ob hob
theorem mkBytes_go {n : Nat} (hb : n ≤ 140737488355328) {h : Hp} {K : AV → Hp → Prop} (q : K (.slice h.next 0 n true n) (h.new ⟨true, 1, .byts n 0⟩)) : vMkSlice 1 1 true [.int .u8 0] (I n) (I n) h K := by
  show asNat (I n) (fun l => asNat (I n) fun c => gd (Nat.ble l c && (Nat.ble (c * 1) 140737488355328 && Nat.ble c 9223372036854775807)) (forceN l fun l => forceN c fun c => newK h ⟨true, 1, .byts c 0⟩ fun o h => K (.slice o 0 l true c) h))
  rw [asNat_int _ _ (by omega), asNat_int _ _ (by omega), Int.toNat_natCast, forceN_eq, forceN_eq, newK_eq']
  exact gd_iff.2 ⟨by simp; omega, q⟩
def zeroB : List UInt8 := List.replicate 512 0
theorem bytesL_zero (n : Nat) : bytesL n 0 = List.replicate n 0 := by
  refine List.ext_getElem? fun j => ?_
  rw [bytesL_get, List.getElem?_replicate]
  split
  · simp [byteAt]
  · rfl
/-- A device's block: nil is zeros. -/
def BlkH (h : Hp) (v : AV) (l : List UInt8) : Prop := l.length = 512 ∧ ((v = .nilslice ∧ l = zeroB) ∨ ByH h v l)
structure Blk where
  now : List UInt8
  kept : List UInt8
  loose : Bool
/-- A row of cells. -/
def RowAt (h : Hp) (p : Nat) : Prop := ∃ e cs, h.at p = some e ∧ Cells e.obj cs
theorem ByH.row_ne {h : Hp} {v : AV} {l : List UInt8} (hv : ByH h v l) {p : Nat} (hp : RowAt h p) {o off n : Nat} {kn : Bool} {c : Nat} (e : v = .slice o off n kn c) : o ≠ p := by
  rintro rfl
  obtain ⟨e1, cs, q1, q2⟩ := hp
  rcases hv with ⟨rfl, _⟩ | ⟨o, rfl, _⟩ | ⟨o, off, kn, c, e2, n, z, rfl, h2, h3, h4, _⟩
  · cases e
  · cases e
  · cases e
    rw [h3] at q1
    cases q1
    rw [h4] at q2
    exact q2.1
/-- What may be changed is two rows. -/
def Kp (h h' : Hp) (p q : Nat) : Prop := h.next ≤ h'.next ∧ ∀ o, o < h.next → o ≠ p → o ≠ q → h'.at o = h.at o
theorem Kp.trans {h h' h'' : Hp} {p q : Nat} (a : Kp h h' p q) (b : Kp h' h'' p q) : Kp h h'' p q := ⟨Nat.le_trans a.1 b.1, fun o q1 q2 q3 => by rw [b.2 o (Nat.lt_of_lt_of_le q1 a.1) q2 q3, a.2 o q1 q2 q3]⟩
theorem Kp.ext {h h' : Hp} (p q : Nat) (x : Ext h h') : Kp h h' p q := ⟨x.next, fun o q1 _ _ => x.same o q1⟩
theorem ByH.kp {h h' : Hp} {v : AV} {l : List UInt8} (hv : ByH h v l) {p q : Nat} (k : Kp h h' p q) (hp : RowAt h p) (hq : RowAt h q) : ByH h' v l :=
  hv.same k.1 fun o off n kn c e ho => k.2 o ho (hv.row_ne hp e) (hv.row_ne hq e)
theorem BlkH.kp {h h' : Hp} {v : AV} {l : List UInt8} (hv : BlkH h v l) {p q : Nat} (k : Kp h h' p q) (hp : RowAt h p) (hq : RowAt h q) : BlkH h' v l := ⟨hv.1, hv.2.imp id fun x => x.kp k hp hq⟩
theorem BlkH.mono {h h' : Hp} {v : AV} {l : List UInt8} (hv : BlkH h v l) (x : Ext h h') : BlkH h' v l := ⟨hv.1, hv.2.imp id fun y => y.mono x⟩
/-- The device's rows. -/
structure DevS (h : Hp) (p q : Nat) (bs : List Blk) (fu : Bool) (le : Int) (de : Bool) : Prop where
  plt : p < h.next
  qlt : q < h.next
  ne : p ≠ q
  pos : 0 < bs.length
  most : bs.length ≤ 65536
  fuse : (fu = false ∧ de = false) ∨ (fu = true ∧ de = decide (le < 1) ∧ 0 ≤ le ∧ le ≤ 1000)
  dev : ∃ cnt, h.at p = some ⟨true, 5, .row [.slice q 0 bs.length true bs.length, .bool fu, I le, .bool de, I cnt]⟩
  row : ∃ ob cs, h.at q = some ⟨true, 3, ob⟩ ∧ Cells ob cs ∧ cs.length = bs.length * 3 ∧ ∀ j (hj : j < bs.length), ∃ a b, cs[j * 3 + 0]? = some a ∧ cs[j * 3 + 1]? = some b ∧ cs[j * 3 + 2]? = some (.bool bs[j].loose) ∧ BlkH h a bs[j].now ∧ BlkH h b bs[j].kept
section
variable {h h' : Hp} {p q : Nat} {bs : List Blk} {fu : Bool} {le : Int} {de : Bool}
theorem DevS.rowp (d : DevS h p q bs fu le de) : RowAt h p := by
  obtain ⟨cnt, e⟩ := d.dev
  exact ⟨_, _, e, Cells.row _⟩
theorem DevS.rowq (d : DevS h p q bs fu le de) : RowAt h q := by
  obtain ⟨ob, cs, e, c, _⟩ := d.row
  exact ⟨_, _, e, c⟩
theorem DevS.same (d : DevS h p q bs fu le de) (hn : h.next ≤ h'.next) (hs : ∀ o, o < h.next → (o = p ∨ o = q ∨ ¬ RowAt h o) → h'.at o = h.at o) : DevS h' p q bs fu le de := by
  have hb : ∀ v l, BlkH h v l → BlkH h' v l := fun v l hv => ⟨hv.1, hv.2.imp id fun x => x.same hn fun o off n kn c e ho => hs o ho (.inr (.inr fun r => x.row_ne r e rfl))⟩
  obtain ⟨cnt, e⟩ := d.dev
  obtain ⟨ob, cs, e1, e2, e3, e4⟩ := d.row
  exact ⟨Nat.lt_of_lt_of_le d.plt hn, Nat.lt_of_lt_of_le d.qlt hn, d.ne, d.pos, d.most, d.fuse, ⟨cnt, by rw [hs p d.plt (.inl rfl)]; exact e⟩, ob, cs, by rw [hs q d.qlt (.inr (.inl rfl))]; exact e1, e2, e3, fun j hj => by
    obtain ⟨a, b, q1, q2, q3, q4, q5⟩ := e4 j hj
    exact ⟨a, b, q1, q2, q3, hb _ _ q4, hb _ _ q5⟩⟩
theorem DevS.ext (d : DevS h p q bs fu le de) (x : Ext h h') : DevS h' p q bs fu le de := d.same x.next fun o ho _ => x.same o ho
end
section
variable (cf : CallK) (fuel : Nat) {h : Hp} {K : AV → Hp → Prop} {p q : Nat} {bs : List Blk} {fu : Bool} {le : Int} {de : Bool}
def cDead : ConD := fun args h K => ∃ p q bs fu le de, args = [.ptr p 0] ∧ DevS h p q bs fu le de ∧ K (.bool de) h
theorem cDead_go {cf : CallK} {g : FuncId} (hg : cf g = cDead) (d : DevS h p q bs fu le de) (hK : K (.bool de) h) : cf g [.ptr p 0] h K := by rw [hg]; exact ⟨p, q, bs, fu, le, de, rfl, d, hK⟩
theorem Dead_run (d : DevS h p q bs fu le de) (hK : K (.bool de) h) : s_device_Device_Dead cf fuel (.ptr p 0) h K := by
  unfold s_device_Device_Dead
  obtain ⟨cnt, e⟩ := d.dev
  (try unfold vMov); repeat' (first | refine Step.imp ?_ | (refine Way.mk (fun hp => ?_) (fun hp => ?_) <;> first | contradiction | (exfalso; omega) | skip) | refine LoadG.mkG ?_ | refine LoadsG.mkG ?_ | refine AtG.mkG ?_ | refine StoreG.mkG ?_ | refine CondG.mkG ?_ | (refine LoadG.mk e (by rfl) ?_) | fail); (all_goals (try dsimp only))
  all_goals exact hK
def cBlocks : ConD := fun args h K => ∃ p q bs fu le de, args = [.ptr p 0] ∧ DevS h p q bs fu le de ∧ K (I bs.length) h
theorem cBlocks_go {cf : CallK} {g : FuncId} (hg : cf g = cBlocks) (d : DevS h p q bs fu le de) (hK : K (I bs.length) h) : cf g [.ptr p 0] h K := by rw [hg]; exact ⟨p, q, bs, fu, le, de, rfl, d, hK⟩
theorem DBlocks_run (d : DevS h p q bs fu le de) (hK : K (I bs.length) h) : s_device_Device_Blocks cf fuel (.ptr p 0) h K := by
  unfold s_device_Device_Blocks
  obtain ⟨cnt, e⟩ := d.dev
  (try unfold vMov); repeat' (first | refine Step.imp ?_ | (refine Way.mk (fun hp => ?_) (fun hp => ?_) <;> first | contradiction | (exfalso; omega) | skip) | refine LoadG.mkG ?_ | refine LoadsG.mkG ?_ | refine AtG.mkG ?_ | refine StoreG.mkG ?_ | refine CondG.mkG ?_ | (refine LoadG.mk e (by rfl) ?_) | fail); (all_goals (try dsimp only))
  all_goals exact hK
def cDRead : ConD := fun args h K => ∃ p q bs fu le de, ∃ i : Nat, ∃ hi : i < bs.length, args = [.ptr p 0, I i] ∧ DevS h p q bs fu le de ∧ ∀ v' h', Ext h h' → ByH h' v' bs[i].now → Fr h.next v' → K (.tup [v', I 0]) h'
theorem cDRead_go {cf : CallK} {g : FuncId} (hg : cf g = cDRead) (d : DevS h p q bs fu le de) {i : Nat} (hi : i < bs.length) (hK : ∀ v' h', Ext h h' → ByH h' v' bs[i].now → Fr h.next v' → K (.tup [v', I 0]) h') : cf g [.ptr p 0, I i] h K := by rw [hg]; exact ⟨p, q, bs, fu, le, de, i, hi, rfl, d, hK⟩
theorem DRead_run (hB : cf 151 = cBlocks) (hC : cf 61 = cClone) (d : DevS h p q bs fu le de) {i : Nat} (hi : i < bs.length) (hK : ∀ v' h', Ext h h' → ByH h' v' bs[i].now → Fr h.next v' → K (.tup [v', I 0]) h') : s_device_Device_Read cf fuel (.ptr p 0) (I i) h K := by
  unfold s_device_Device_Read
  obtain ⟨cnt, e⟩ := d.dev
  obtain ⟨ob, cs, e1, e2, e3, e4⟩ := d.row
  obtain ⟨a, b, q1, q2, q3, q4, q5⟩ := e4 i hi
  have c0 : cellAt ob (i * 3 + 0) = some a := by rw [e2.2.2]; exact q1
  rcases q4 with ⟨q4, ⟨rfl, hz⟩ | hby⟩
  · (try unfold vMov); repeat' (first | refine Step.imp ?_ | (refine Way.mk (fun hp => ?_) (fun hp => ?_) <;> first | contradiction | (exfalso; omega) | skip) | refine LoadG.mkG ?_ | refine LoadsG.mkG ?_ | refine AtG.mkG ?_ | refine StoreG.mkG ?_ | refine CondG.mkG ?_ | (refine cBlocks_go hB d ?_) | (refine LoadG.mk e (by rfl) ?_) | (refine LoadG.mk2 e1 c0 (by omega) ?_) | (refine mkBytes_go (n := 512) (by omega) ?_) | fail); (all_goals (try dsimp only))
    refine hK _ _ (by repeat (first | exact Ext.refl _ | assumption | apply Ext.new | (refine Ext.put ?_ _ (by first | omega | (simp; done) | (simp; omega))))) ?_ (fun o off n kn c e => by cases e; exact Nat.le_refl _)
    rw [hz]
    refine .inr (.inr ⟨h.next, 0, true, 512, _, 512, 0, rfl, by simp [Hp.next_new], Hp.at_new_self _ _, rfl, by simp [zeroB], by simp [zeroB], ?_⟩)
    rw [bytesL_zero]
    rfl
  · rcases hby.shape with rfl | ⟨o, rfl⟩ | ⟨o, off, n, kn, c, rfl⟩
    · exfalso
      rcases hby with ⟨_, e⟩ | ⟨o, e, _⟩ | ⟨o, off, kn, c, e2, n, z, e, _⟩
      · rw [e] at q4; simp at q4
      · cases e
      · cases e
    · exfalso
      rcases hby with ⟨e, _⟩ | ⟨o, _, e⟩ | ⟨o, off, kn, c, e2, n, z, e, _⟩
      · cases e
      · rw [e] at q4; simp at q4
      · cases e
    · (try unfold vMov); repeat' (first | refine Step.imp ?_ | (refine Way.mk (fun hp => ?_) (fun hp => ?_) <;> first | contradiction | (exfalso; omega) | skip) | refine LoadG.mkG ?_ | refine LoadsG.mkG ?_ | refine AtG.mkG ?_ | refine StoreG.mkG ?_ | refine CondG.mkG ?_ | (refine cBlocks_go hB d ?_) | (refine LoadG.mk e (by rfl) ?_) | (refine LoadG.mk2 e1 c0 (by omega) ?_) | fail); (all_goals (try dsimp only))
      refine cClone_go hC hby (fun v' h' x y z => ?_)
      (try unfold vMov); repeat' (first | refine Step.imp ?_ | (refine Way.mk (fun hp => ?_) (fun hp => ?_) <;> first | contradiction | (exfalso; omega) | skip) | refine LoadG.mkG ?_ | refine LoadsG.mkG ?_ | refine AtG.mkG ?_ | refine StoreG.mkG ?_ | refine CondG.mkG ?_ | fail); (all_goals (try dsimp only))
      exact hK _ _ x y z
end
end Lg

namespace Lg
set_option linter.unusedSimpArgs false
set_option linter.unusedVariables false
set_option maxRecDepth 100000
open Go Go.Am
open Go.Proofs.Ytnhamanffojhfaa.shl
theorem lenB_go {h h' : Hp} {v : AV} {l : List UInt8} {K : AV → Hp → Prop} (hv : ByH h v l) (q : K (.int .i64 l.length) h') : vLenL2 v h' K := by
  rcases hv with ⟨rfl, rfl⟩ | ⟨o, rfl, rfl⟩ | ⟨o, off, kn, c, e, n, z, rfl, _⟩ <;> exact q
theorem ByH.cellB {h : Hp} {v : AV} {l : List UInt8} (hv : ByH h v l) : cellsV v = some [v] := by
  rcases hv with ⟨rfl, rfl⟩ | ⟨o, rfl, rfl⟩ | ⟨o, off, kn, c, e, n, z, rfl, _⟩ <;> rfl
theorem getElem?_setL (cs : List AV) (off : Nat) (v : AV) (j : Nat) (ho : off < cs.length) : (setL cs off [v])[j]? = if j = off then some v else cs[j]? := by
  unfold setL
  simp only [List.append_assoc, List.length_singleton, List.singleton_append]
  rw [List.getElem?_append, List.length_take, Nat.min_eq_left (by omega)]
  split
  · rw [if_neg (by omega), List.getElem?_take, if_pos (by omega)]
  · rcases Nat.lt_or_ge off j with q | q
    · rw [if_neg (by omega), show j - off = (j - off - 1) + 1 by omega, List.getElem?_cons_succ, List.getElem?_drop]
      congr 1
      omega
    · have : j = off := by omega
      subst this
      simp
def leN (fu : Bool) (le : Int) : Int := if fu = true then le - 1 else le
def deN (fu : Bool) (le : Int) (de : Bool) : Bool := if fu = true then decide (le - 1 < 1) else de
section
variable (cf : CallK) (fuel : Nat) {h : Hp} {K : AV → Hp → Prop} {p q : Nat} {bs : List Blk} {fu : Bool} {le : Int}
def cDone : ConD := fun args h K => ∃ p q bs fu le, args = [.ptr p 0] ∧ DevS h p q bs fu le false ∧ ∀ h', h'.next = h.next → (∀ o, o ≠ p → h'.at o = h.at o) → DevS h' p q bs fu (leN fu le) (deN fu le false) → K (I 0) h'
theorem cDone_go {cf : CallK} {g : FuncId} (hg : cf g = cDone) (d : DevS h p q bs fu le false) (hK : ∀ h', h'.next = h.next → (∀ o, o ≠ p → h'.at o = h.at o) → DevS h' p q bs fu (leN fu le) (deN fu le false) → K (I 0) h') : cf g [.ptr p 0] h K := by rw [hg]; exact ⟨p, q, bs, fu, le, rfl, d, hK⟩
/-- The device's own row changed. -/
theorem DevS.own {h h' : Hp} {p q : Nat} {bs : List Blk} {fu fu' : Bool} {le le' : Int} {de de' : Bool} {cnt : Int} (d : DevS h p q bs fu le de) (hn : h'.next = h.next) (hs : ∀ o, o ≠ p → h'.at o = h.at o)
    (he : h'.at p = some ⟨true, 5, .row [.slice q 0 bs.length true bs.length, .bool fu', I le', .bool de', I cnt]⟩) (hf : (fu' = false ∧ de' = false) ∨ (fu' = true ∧ de' = decide (le' < 1) ∧ 0 ≤ le' ∧ le' ≤ 1000)) : DevS h' p q bs fu' le' de' := by
  obtain ⟨ob, cs, e1, e2, e3, e4⟩ := d.row
  have hb : ∀ v l, BlkH h v l → BlkH h' v l := fun v l hv => ⟨hv.1, hv.2.imp id fun x => x.same (by omega) fun o off n kn c e ho => hs o fun e' => x.row_ne d.rowp e e'⟩
  exact ⟨by rw [hn]; exact d.plt, by rw [hn]; exact d.qlt, d.ne, d.pos, d.most, hf, ⟨cnt, he⟩, ob, cs, by rw [hs q (fun e => d.ne e.symm)]; exact e1, e2, e3, fun j hj => by
    obtain ⟨a, b, q1, q2, q3, q4, q5⟩ := e4 j hj
    exact ⟨a, b, q1, q2, q3, hb _ _ q4, hb _ _ q5⟩⟩
theorem done_run (d : DevS h p q bs fu le false) (hK : ∀ h', h'.next = h.next → (∀ o, o ≠ p → h'.at o = h.at o) → DevS h' p q bs fu (leN fu le) (deN fu le false) → K (I 0) h') : s_device_Device_done cf fuel (.ptr p 0) h K := by
  unfold s_device_Device_done
  obtain ⟨cnt, e⟩ := d.dev
  have hf := d.fuse
  repeat refine Step.imp ?_
  refine LoadG.mk e (by rfl) ?_
  try dsimp only
  rw [vAdd_int]
  cases hfu : fu with
  | false =>
    subst hfu
    (try unfold vMov); repeat' (first | refine Step.imp ?_ | (refine Way.mk (fun hp => ?_) (fun hp => ?_) <;> first | contradiction | (exfalso; omega) | skip) | refine LoadG.mkG ?_ | refine LoadsG.mkG ?_ | refine AtG.mkG ?_ | refine StoreG.mkG ?_ | refine CondG.mkG ?_ | (refine LoadG.mk e (by rfl) ?_) | (refine StoreG.mk e (by first | omega | (simp; done) | (simp; omega)) ?_) | fail); (all_goals (try dsimp only))
    refine hK _ (by simp only [Hp.next_put]) (fun o ho => Hp.at_put_ne _ ho) ?_
    exact d.own (by simp only [Hp.next_put]) (fun o ho => Hp.at_put_ne _ ho) (by rw [Hp.at_put_self]; rfl) (.inl ⟨rfl, rfl⟩)
  | true =>
    subst hfu
    have hl : 1 ≤ le ∧ le ≤ 1000 := by
      rcases hf with ⟨q1, _⟩ | ⟨_, q2, q3, q4⟩
      · cases q1
      · have := of_decide_eq_false q2.symm
        omega
    (try unfold vMov); repeat' (first | refine Step.imp ?_ | (refine Way.mk (fun hp => ?_) (fun hp => ?_) <;> first | contradiction | (exfalso; omega) | skip) | refine LoadG.mkG ?_ | refine LoadsG.mkG ?_ | refine AtG.mkG ?_ | refine StoreG.mkG ?_ | refine CondG.mkG ?_ | (refine LoadG.mk e (by rfl) ?_) | (refine StoreG.mk e (by first | omega | (simp; done) | (simp; omega)) ?_) | fail); (all_goals (try dsimp only))
    unfold s_device_Device_doneB1
    (try unfold vMov); repeat' (first | refine Step.imp ?_ | (refine Way.mk (fun hp => ?_) (fun hp => ?_) <;> first | contradiction | (exfalso; omega) | skip) | refine LoadG.mkG ?_ | refine LoadsG.mkG ?_ | refine AtG.mkG ?_ | refine StoreG.mkG ?_ | refine CondG.mkG ?_ | fail); (all_goals (try dsimp only))
    all_goals
      have hs : ∀ (e1 e2 e3 : Option Ent) (o : Nat), o ≠ p → (((h.put p e1).put p e2).put p e3).at o = h.at o := fun e1 e2 e3 o ho => by rw [Hp.at_put_ne _ ho, Hp.at_put_ne _ ho, Hp.at_put_ne _ ho]
      refine hK _ (by simp only [Hp.next_put]) (hs _ _ _) ?_
      have hd : deN true le false = decide (le - 1 < 1) := rfl
      rw [hd]
      refine d.own (cnt := IntKind.i64.wrap (cnt + 1)) (by simp only [Hp.next_put]) (hs _ _ _) ?_ (.inr ⟨rfl, rfl, by show 0 ≤ le - 1; omega, by show le - 1 ≤ 1000; omega⟩)
      rw [Hp.at_put_self]
      first | rw [decide_eq_true hp] | rw [decide_eq_false hp]
      rfl
end
end Lg

namespace Lg
set_option linter.unusedSimpArgs false
set_option linter.unusedVariables false
set_option maxRecDepth 100000
open Go Go.Am
open Go.Proofs.Ytnhamanffojhfaa.shl
theorem StoreG.mkC2 {h : Hp} {n o off off' : Nat} {l : List AV} {k : Hp → Prop} {esz : Nat} {ob : AObj} {cs : List AV} (h1 : h.at o = some ⟨true, esz, ob⟩) (hc : Cells ob cs) (ho : off' = off) (h2 : l.length = n ∧ off + l.length ≤ cs.length) (q : ∀ ob', Cells ob' (setL cs off l) → k (h.put o (some ⟨true, esz, ob'⟩))) : StoreG h n o off' l k := by
  subst ho
  exact StoreG.mkC h1 hc h2 q
/-- The list's row changed. -/
theorem DevS.upd {h h' : Hp} {p q : Nat} {bs bs' : List Blk} {fu : Bool} {le : Int} {de : Bool} (d : DevS h p q bs fu le de) (hn : h'.next = h.next) (hs : ∀ o, o ≠ q → h'.at o = h.at o) (hl : bs'.length = bs.length) {ob : AObj} {cs : List AV}
    (he : h'.at q = some ⟨true, 3, ob⟩) (hc : Cells ob cs) (hcl : cs.length = bs.length * 3) (hb : ∀ j (hj : j < bs'.length), ∃ a b, cs[j * 3 + 0]? = some a ∧ cs[j * 3 + 1]? = some b ∧ cs[j * 3 + 2]? = some (.bool bs'[j].loose) ∧ BlkH h a bs'[j].now ∧ BlkH h b bs'[j].kept) : DevS h' p q bs' fu le de := by
  have hk : ∀ v l, BlkH h v l → BlkH h' v l := fun v l hv => ⟨hv.1, hv.2.imp id fun x => x.same (by omega) fun o off n kn c e ho => hs o fun e' => x.row_ne d.rowq e e'⟩
  obtain ⟨cnt, e⟩ := d.dev
  exact ⟨by rw [hn]; exact d.plt, by rw [hn]; exact d.qlt, d.ne, by rw [hl]; exact d.pos, by rw [hl]; exact d.most, d.fuse, ⟨cnt, by rw [hs p d.ne, hl]; exact e⟩, ob, cs, he, hc, by rw [hl]; exact hcl, fun j hj => by
    obtain ⟨a, b, q1, q2, q3, q4, q5⟩ := hb j hj
    exact ⟨a, b, q1, q2, q3, hk _ _ q4, hk _ _ q5⟩⟩
section
variable (cf : CallK) (fuel : Nat) {h : Hp} {K : AV → Hp → Prop} {p q : Nat} {bs : List Blk} {fu : Bool} {le : Int}
def cWrite : ConD := fun args h K => ∃ p q bs fu le, ∃ i : Nat, ∃ hi : i < bs.length, ∃ v l, args = [.ptr p 0, I i, v] ∧ DevS h p q bs fu le false ∧ ByH h v l ∧ l.length = 512 ∧ ∀ h', Kp h h' p q → DevS h' p q (bs.set i ⟨l, bs[i].kept, true⟩) fu (leN fu le) (deN fu le false) → K (I 0) h'
theorem cWrite_go {cf : CallK} {g : FuncId} (hg : cf g = cWrite) (d : DevS h p q bs fu le false) {i : Nat} (hi : i < bs.length) {v : AV} {l : List UInt8} (hv : ByH h v l) (hl : l.length = 512) (hK : ∀ h', Kp h h' p q → DevS h' p q (bs.set i ⟨l, bs[i].kept, true⟩) fu (leN fu le) (deN fu le false) → K (I 0) h') : cf g [.ptr p 0, I i, v] h K := by rw [hg]; exact ⟨p, q, bs, fu, le, i, hi, v, l, rfl, d, hv, hl, hK⟩
theorem Write_run (hD : cf 128 = cDead) (hC : cf 61 = cClone) (hN : cf 152 = cDone) (d : DevS h p q bs fu le false) {i : Nat} (hi : i < bs.length) {v : AV} {l : List UInt8} (hv : ByH h v l) (hl : l.length = 512) (hK : ∀ h', Kp h h' p q → DevS h' p q (bs.set i ⟨l, bs[i].kept, true⟩) fu (leN fu le) (deN fu le false) → K (I 0) h') : s_device_Device_Write cf fuel (.ptr p 0) (I i) v h K := by
  unfold s_device_Device_Write
  obtain ⟨cnt, e⟩ := d.dev
  (try unfold vMov); repeat' (first | refine Step.imp ?_ | (refine Way.mk (fun hp => ?_) (fun hp => ?_) <;> first | contradiction | (exfalso; omega) | skip) | refine LoadG.mkG ?_ | refine LoadsG.mkG ?_ | refine AtG.mkG ?_ | refine StoreG.mkG ?_ | refine CondG.mkG ?_ | (refine cDead_go hD d ?_) | fail); (all_goals (try dsimp only))
  unfold s_device_Device_WriteB11
  (try unfold vMov); repeat' (first | refine Step.imp ?_ | (refine Way.mk (fun hp => ?_) (fun hp => ?_) <;> first | contradiction | (exfalso; omega) | skip) | refine LoadG.mkG ?_ | refine LoadsG.mkG ?_ | refine AtG.mkG ?_ | refine StoreG.mkG ?_ | refine CondG.mkG ?_ | (refine LoadG.mk e (by rfl) ?_) | (refine lenB_go hv ?_) | fail); (all_goals (try dsimp only))
  refine cClone_go hC hv (fun v' h1 x1 y1 z1 => ?_)
  have d1 := d.ext x1
  obtain ⟨cnt1, e1⟩ := d1.dev
  obtain ⟨ob, cs, r1, r2, r3, r4⟩ := d1.row
  have cv := y1.cellB
  (try unfold vMov); repeat' (first | refine Step.imp ?_ | (refine Way.mk (fun hp => ?_) (fun hp => ?_) <;> first | contradiction | (exfalso; omega) | skip) | refine LoadG.mkG ?_ | refine LoadsG.mkG ?_ | refine AtG.mkG ?_ | refine StoreG.mkG ?_ | refine CondG.mkG ?_ | (refine LoadG.mk e1 (by rfl) ?_) | (refine stStore_aux _ _ _ _ _ cv ?_) | (refine StoreG.mkC2 (off := i * 3 + 0) r1 r2 (by omega) ⟨rfl, by simp only [List.length_singleton]; omega⟩ (fun ob2 c2 => ?_)) | fail); (all_goals (try dsimp only))
  refine StoreG.mkC2 (off := i * 3 + 2) (Hp.at_put_self _ _ _) c2 (by omega) ⟨rfl, by rw [setL_length _ _ _ (by simp only [List.length_singleton]; omega)]; simp only [List.length_singleton]; omega⟩ (fun ob3 c3 => ?_)
  have hs : ∀ (e1 e2 : Option Ent) (o : Nat), o ≠ q → ((h1.put q e1).put q e2).at o = h1.at o := fun e1 e2 o ho => by rw [Hp.at_put_ne _ ho, Hp.at_put_ne _ ho]
  have l1 : (setL cs (i * 3 + 0) [v']).length = cs.length := setL_length _ _ _ (by simp only [List.length_singleton]; omega)
  have l2 : (setL (setL cs (i * 3 + 0) [v']) (i * 3 + 2) [.bool true]).length = cs.length := by rw [setL_length _ _ _ (by simp only [List.length_singleton]; omega), l1]
  have d2 : DevS ((h1.put q (some ⟨true, 3, ob2⟩)).put q (some ⟨true, 3, ob3⟩)) p q (bs.set i ⟨l, bs[i].kept, true⟩) fu le false := by
    refine d1.upd (by simp only [Hp.next_put]) (hs _ _) (by simp) (Hp.at_put_self _ _ _) c3 (by omega) (fun j hj => ?_)
    have hj' : j < bs.length := by simpa using hj
    obtain ⟨a, b, q1, q2, q3, q4, q5⟩ := r4 j hj'
    rw [List.getElem_set]
    have g : ∀ k, k < cs.length → (setL (setL cs (i * 3 + 0) [v']) (i * 3 + 2) [.bool true])[k]? = if k = i * 3 + 2 then some (.bool true) else if k = i * 3 + 0 then some v' else cs[k]? := fun k hk => by
      rw [getElem?_setL _ _ _ _ (by omega), getElem?_setL _ _ _ _ (by omega)]
    rw [g _ (by omega), g _ (by omega), g _ (by omega)]
    by_cases hij : i = j
    · subst hij
      rw [if_neg (by omega), if_pos rfl, if_neg (by omega), if_neg (by omega), if_pos rfl, if_pos rfl]
      exact ⟨v', b, rfl, q2, rfl, ⟨hl, .inr y1⟩, q5⟩
    · rw [if_neg (by omega), if_neg (by omega), if_neg (by omega), if_neg (by omega), if_neg (by omega), if_neg (by omega), if_neg hij]
      exact ⟨a, b, q1, q2, q3, q4, q5⟩
  refine cDone_go hN d2 (fun h3 n3 s3 d3 => ?_)
  try dsimp only
  refine hK h3 ⟨?_, fun o q1 q2 q3 => ?_⟩ d3
  · rw [n3]
    exact x1.next
  · rw [s3 o q2, hs _ _ o q3]
    exact x1.same o q1
end
end Lg

namespace Lg
set_option linter.unusedSimpArgs false
set_option linter.unusedVariables false
set_option maxRecDepth 100000
open Go Go.Am
open Go.Proofs.Ytnhamanffojhfaa.shl
section
variable (cf : CallK) (fuel : Nat) {h : Hp} {K : AV → Hp → Prop} {p q : Nat} {bs : List Blk} {fu : Bool} {le : Int}
def newBs (n : Nat) : List Blk := List.replicate n ⟨zeroB, zeroB, false⟩
theorem BlkH.nil (h : Hp) : BlkH h .nilslice zeroB := ⟨by simp [zeroB], .inl ⟨rfl, rfl⟩⟩
def cDNew : ConD := fun args h K => ∃ n : Nat, args = [I n] ∧ (1 ≤ n ∧ n ≤ 65536) ∧ ∀ p q h', Ext h h' → h.next ≤ p → h.next ≤ q → DevS h' p q (newBs n) false 0 false → K (.ptr p 0) h'
theorem cDNew_go {cf : CallK} {g : FuncId} (hg : cf g = cDNew) {n : Nat} (hn : 1 ≤ n ∧ n ≤ 65536) (hK : ∀ p q h', Ext h h' → h.next ≤ p → h.next ≤ q → DevS h' p q (newBs n) false 0 false → K (.ptr p 0) h') : cf g [I n] h K := by rw [hg]; exact ⟨n, rfl, hn, hK⟩
theorem DNew_run {n : Nat} (hn : 1 ≤ n ∧ n ≤ 65536) (hK : ∀ p q h', Ext h h' → h.next ≤ p → h.next ≤ q → DevS h' p q (newBs n) false 0 false → K (.ptr p 0) h') : s_device_New cf fuel (I n) h K := by
  unfold s_device_New
  obtain ⟨n1, n2⟩ := hn
  (try unfold vMov); repeat' (first | refine Step.imp ?_ | (refine Way.mk (fun hp => ?_) (fun hp => ?_) <;> first | contradiction | (exfalso; omega) | skip) | refine LoadG.mkG ?_ | refine LoadsG.mkG ?_ | refine AtG.mkG ?_ | refine StoreG.mkG ?_ | refine CondG.mkG ?_ | (refine mkSlice_go (n := n) (by omega) (by omega) (fun ob hob => ?_)) | fail); (all_goals (try dsimp only))
  refine hK (h.next + 1) h.next _ (by repeat (first | exact Ext.refl _ | assumption | apply Ext.new | (refine Ext.put ?_ _ (by first | omega | (simp; done) | (simp; omega))))) (by omega) (Nat.le_refl _) ?_
  have hl : (newBs n).length = n := by simp [newBs]
  have hrl : (repL [AV.nilslice, .nilslice, .bool false] n).length = n * 3 := repL_length _ _
  have hat : ((h.new ⟨true, 3, ob⟩).new ⟨true, 5, .row [.slice h.next 0 n true n, .bool false, I 0, .bool false, I 0]⟩).at (h.next + 1) = some ⟨true, 5, .row [.slice h.next 0 n true n, .bool false, I 0, .bool false, I 0]⟩ := Hp.at_new_self (h.new ⟨true, 3, ob⟩) _
  refine ⟨by simp only [Hp.next_new]; omega, by simp only [Hp.next_new]; omega, by omega, by omega, by omega, .inl ⟨rfl, rfl⟩, ⟨0, by rw [hl]; exact hat⟩, ob, _, by rw [Hp.at_new_lt _ (by simp only [Hp.next_new]; omega)]; exact Hp.at_new_self _ _, hob, by omega, fun j hj => ?_⟩
  have hj' : j < n := by omega
  rw [repL_get (α := Unit), repL_get (α := Unit), repL_get (α := Unit)]
  have hg : (newBs n)[j] = ⟨zeroB, zeroB, false⟩ := by simp [newBs]
  rw [hg]
  simp only [List.length_cons, List.length_nil]
  rw [if_pos (by omega), if_pos (by omega), if_pos (by omega), show (j * 3 + 0) % (0 + 1 + 1 + 1) = 0 by omega, show (j * 3 + 1) % (0 + 1 + 1 + 1) = 1 by omega, show (j * 3 + 2) % (0 + 1 + 1 + 1) = 2 by omega]
  exact ⟨_, _, rfl, rfl, rfl, BlkH.nil _, BlkH.nil _⟩
/-- The first i blocks flushed. -/
def flB (b : Blk) : Blk := ⟨b.now, b.now, false⟩
def flN (bs : List Blk) (i : Nat) : List Blk := bs.mapIdx fun j b => if j < i then flB b else b
theorem flN_len (bs : List Blk) (i : Nat) : (flN bs i).length = bs.length := by simp [flN]
theorem flN_zero (bs : List Blk) : flN bs 0 = bs := by
  refine List.ext_getElem (flN_len _ _) fun j h1 h2 => ?_
  simp [flN]
theorem flN_all (bs : List Blk) : flN bs bs.length = bs.map flB := by
  refine List.ext_getElem (by simp [flN_len]) fun j h1 h2 => ?_
  have : j < bs.length := by simpa using h2
  simp [flN, this]
theorem flN_get (bs : List Blk) (i j : Nat) (hj : j < (flN bs i).length) (hj' : j < bs.length) : (flN bs i)[j] = if j < i then flB bs[j] else bs[j] := by simp [flN]
theorem FlushL1_run {h0 : Hp} (e0 : Hp → Prop) (he : ∀ h', Kp h0 h' p q → DevS h' p q (bs.map flB) fu le false → e0 h') :
    ∀ (d i fm : Nat) (h : Hp), i + d = bs.length → d < fm → Kp h0 h p q → DevS h p q (flN bs i) fu le false → s_device_Device_FlushL1 cf fuel e0 (.ptr p 0) (I bs.length) fm (I i) h
  | d, i, fm, h, hk, hm, kp, dv => by
    obtain ⟨fm, rfl⟩ : ∃ j, fm = j + 1 := ⟨fm - 1, by omega⟩
    rw [s_device_Device_FlushL1_succ]
    unfold s_device_Device_FlushL1B
    by_cases hi : i < bs.length
    · obtain ⟨d, rfl⟩ : ∃ j, d = j + 1 := ⟨d - 1, by omega⟩
      have e1 : ((i : Int) + 1) = ((i + 1 : Nat) : Int) := by omega
      have hfl := flN_len bs i
      have most := dv.most
      obtain ⟨cnt, e⟩ := dv.dev
      obtain ⟨ob, cs, r1, r2, r3, r4⟩ := dv.row
      obtain ⟨a, b, q1, q2, q3, q4, q5⟩ := r4 i (by omega)
      have c0 : cellAt ob (i * 3 + 0) = some a := by rw [r2.2.2]; exact q1
      rw [hfl] at e r3
      have ca : cellsV a = some [a] := by
        rcases q4 with ⟨_, ⟨rfl, _⟩ | q⟩
        · rfl
        · exact q.cellB
      (try unfold vMov); repeat' (first | refine Step.imp ?_ | (refine Way.mk (fun hp => ?_) (fun hp => ?_) <;> first | contradiction | (exfalso; omega) | skip) | refine LoadG.mkG ?_ | refine LoadsG.mkG ?_ | refine AtG.mkG ?_ | refine StoreG.mkG ?_ | refine CondG.mkG ?_ | fail); (all_goals (try dsimp only))
      unfold s_device_Device_FlushB3
      (try unfold vMov); repeat' (first | refine Step.imp ?_ | (refine Way.mk (fun hp => ?_) (fun hp => ?_) <;> first | contradiction | (exfalso; omega) | skip) | refine LoadG.mkG ?_ | refine LoadsG.mkG ?_ | refine AtG.mkG ?_ | refine StoreG.mkG ?_ | refine CondG.mkG ?_ | (refine LoadG.mk e (by rfl) ?_) | (refine LoadG.mk2 r1 c0 (by omega) ?_) | (refine stStore_aux _ _ _ _ _ ca ?_) | (refine StoreG.mkC2 (off := i * 3 + 1) r1 r2 (by omega) ⟨rfl, by simp only [List.length_singleton]; omega⟩ (fun ob2 c2 => ?_)) | fail); (all_goals (try dsimp only))
      refine StoreG.mkC2 (off := i * 3 + 2) (Hp.at_put_self _ _ _) c2 (by omega) ⟨rfl, by rw [setL_length _ _ _ (by simp only [List.length_singleton]; omega)]; simp only [List.length_singleton]; omega⟩ (fun ob3 c3 => ?_)
      have hs : ∀ (e1 e2 : Option Ent) (o : Nat), o ≠ q → ((h.put q e1).put q e2).at o = h.at o := fun e1 e2 o ho => by rw [Hp.at_put_ne _ ho, Hp.at_put_ne _ ho]
      have l1 : (setL cs (i * 3 + 1) [a]).length = cs.length := setL_length _ _ _ (by simp only [List.length_singleton]; omega)
      have l2 : (setL (setL cs (i * 3 + 1) [a]) (i * 3 + 2) [.bool false]).length = cs.length := by rw [setL_length _ _ _ (by simp only [List.length_singleton]; omega), l1]
      have hgi := flN_get bs i i (by omega) hi
      rw [if_neg (by omega)] at hgi
      have d2 : DevS ((h.put q (some ⟨true, 3, ob2⟩)).put q (some ⟨true, 3, ob3⟩)) p q (flN bs (i + 1)) fu le false := by
        refine dv.upd (by simp only [Hp.next_put]) (hs _ _) (by simp [flN_len]) (Hp.at_put_self _ _ _) c3 (by omega) (fun j hj => ?_)
        have hj' : j < bs.length := by simpa [flN_len] using hj
        obtain ⟨a', b', w1, w2, w3, w4, w5⟩ := r4 j (by omega)
        have hgj := flN_get bs i j (by omega) hj'
        rw [flN_get bs (i + 1) j hj hj']
        have g : ∀ k, k < cs.length → (setL (setL cs (i * 3 + 1) [a]) (i * 3 + 2) [.bool false])[k]? = if k = i * 3 + 2 then some (.bool false) else if k = i * 3 + 1 then some a else cs[k]? := fun k hk => by
          rw [getElem?_setL _ _ _ _ (by omega), getElem?_setL _ _ _ _ (by omega)]
        rw [g _ (by omega), g _ (by omega), g _ (by omega)]
        by_cases hij : i = j
        · subst hij
          rw [if_neg (by omega), if_neg (by omega), if_neg (by omega), if_pos rfl, if_pos rfl, if_pos (by omega)]
          rw [hgi] at q4
          exact ⟨a, a, q1, rfl, rfl, q4, q4⟩
        · rw [if_neg (by omega), if_neg (by omega), if_neg (by omega), if_neg (by omega), if_neg (by omega), if_neg (by omega)]
          rw [hgj] at w3 w4 w5
          by_cases hlt : j < i
          · rw [if_pos hlt] at w3 w4 w5
            rw [if_pos (by omega)]
            exact ⟨a', b', w1, w2, w3, w4, w5⟩
          · rw [if_neg hlt] at w3 w4 w5
            rw [if_neg (by omega)]
            exact ⟨a', b', w1, w2, w3, w4, w5⟩
      (try unfold vMov); repeat' (first | refine Step.imp ?_ | (refine Way.mk (fun hp => ?_) (fun hp => ?_) <;> first | contradiction | (exfalso; omega) | skip) | refine LoadG.mkG ?_ | refine LoadsG.mkG ?_ | refine AtG.mkG ?_ | refine StoreG.mkG ?_ | refine CondG.mkG ?_ | fail); (all_goals (try dsimp only))
      rw [e1]
      exact FlushL1_run e0 he d (i + 1) fm _ (by omega) (by omega) (kp.trans ⟨Nat.le_refl _, fun o _ _ ho => hs _ _ o ho⟩) d2
    · have hd : d = 0 := by omega
      subst hd
      (try unfold vMov); repeat' (first | refine Step.imp ?_ | (refine Way.mk (fun hp => ?_) (fun hp => ?_) <;> first | contradiction | (exfalso; omega) | skip) | refine LoadG.mkG ?_ | refine LoadsG.mkG ?_ | refine AtG.mkG ?_ | refine StoreG.mkG ?_ | refine CondG.mkG ?_ | fail); (all_goals (try dsimp only))
      refine he h kp ?_
      have : i = bs.length := by omega
      rw [← flN_all, ← this]
      exact dv
def cFlush : ConD := fun args h K => ∃ p q bs fu le, args = [.ptr p 0] ∧ DevS h p q bs fu le false ∧ ∀ h', Kp h h' p q → DevS h' p q (bs.map flB) fu (leN fu le) (deN fu le false) → K (I 0) h'
theorem cFlush_go {cf : CallK} {g : FuncId} (hg : cf g = cFlush) (d : DevS h p q bs fu le false) (hK : ∀ h', Kp h h' p q → DevS h' p q (bs.map flB) fu (leN fu le) (deN fu le false) → K (I 0) h') : cf g [.ptr p 0] h K := by rw [hg]; exact ⟨p, q, bs, fu, le, rfl, d, hK⟩
theorem Flush_run (hD : cf 128 = cDead) (hN : cf 152 = cDone) (d : DevS h p q bs fu le false) (hf : 65536 < fuel) (hK : ∀ h', Kp h h' p q → DevS h' p q (bs.map flB) fu (leN fu le) (deN fu le false) → K (I 0) h') : s_device_Device_Flush cf fuel (.ptr p 0) h K := by
  unfold s_device_Device_Flush
  obtain ⟨cnt, e⟩ := d.dev
  have most := d.most
  (try unfold vMov); repeat' (first | refine Step.imp ?_ | (refine Way.mk (fun hp => ?_) (fun hp => ?_) <;> first | contradiction | (exfalso; omega) | skip) | refine LoadG.mkG ?_ | refine LoadsG.mkG ?_ | refine AtG.mkG ?_ | refine StoreG.mkG ?_ | refine CondG.mkG ?_ | (refine cDead_go hD d ?_) | (refine LoadG.mk e (by rfl) ?_) | fail); (all_goals (try dsimp only))
  refine FlushL1_run cf fuel (h0 := h) _ (fun h1 k1 d1 => ?_) bs.length 0 fuel h (by omega) (by omega) ⟨Nat.le_refl _, fun _ _ _ _ => rfl⟩ (by rw [flN_zero]; exact d)
  unfold s_device_Device_FlushE0
  refine cDone_go hN d1 (fun h2 n2 s2 d2 => ?_)
  exact hK h2 (k1.trans ⟨by omega, fun o _ ho _ => s2 o ho⟩) d2
end
end Lg

namespace Lg
set_option linter.unusedSimpArgs false
set_option linter.unusedVariables false
set_option maxRecDepth 100000
open Go Go.Am
open Go.Proofs.Ytnhamanffojhfaa.shl
theorem BlkH.cellB {h : Hp} {v : AV} {l : List UInt8} (hv : BlkH h v l) : cellsV v = some [v] := by
  rcases hv with ⟨_, ⟨rfl, _⟩ | q⟩
  · rfl
  · exact q.cellB
theorem setL3_get (cs : List AV) (off : Nat) (x y z : AV) (j : Nat) (ho : off + 3 ≤ cs.length) : (setL cs off [x, y, z])[j]? = if j = off then some x else if j = off + 1 then some y else if j = off + 2 then some z else cs[j]? := by
  unfold setL
  simp only [List.append_assoc, List.length_cons, List.length_nil]
  rw [List.getElem?_append, List.length_take, Nat.min_eq_left (by omega)]
  split
  · rw [if_neg (by omega), if_neg (by omega), if_neg (by omega), List.getElem?_take, if_pos (by omega)]
  · rcases Nat.lt_or_ge j (off + 3) with q | q
    · obtain rfl | rfl | rfl : j = off ∨ j = off + 1 ∨ j = off + 2 := by omega
      · simp
      · simp
      · simp
    · rw [if_neg (by omega), if_neg (by omega), if_neg (by omega), List.getElem?_append_right (by simp; omega), List.getElem?_drop]
      congr 1
      simp
      omega
theorem veqNF {h : Hp} {K : AV → Hp → Prop} (q : K (.bool false) h) : vEq true eqNF .nilfunc .nilfunc h K := q
def crB (b : Blk) : Blk := ⟨b.kept, b.kept, false⟩
def crN (bs : List Blk) (i : Nat) : List Blk := bs.mapIdx fun j b => if j < i then crB b else ⟨zeroB, zeroB, false⟩
theorem crN_len (bs : List Blk) (i : Nat) : (crN bs i).length = bs.length := by simp [crN]
theorem crN_zero (bs : List Blk) : crN bs 0 = newBs bs.length := by
  refine List.ext_getElem (by simp [crN_len, newBs]) fun j h1 h2 => ?_
  simp [crN, newBs]
theorem crN_all (bs : List Blk) : crN bs bs.length = bs.map crB := by
  refine List.ext_getElem (by simp [crN_len]) fun j h1 h2 => ?_
  have : j < bs.length := by simpa using h2
  simp [crN, this]
theorem crN_get (bs : List Blk) (i j : Nat) (hj : j < (crN bs i).length) (hj' : j < bs.length) : (crN bs i)[j] = if j < i then crB bs[j] else ⟨zeroB, zeroB, false⟩ := by simp [crN]
theorem DevS.kp2 {h h' : Hp} {p q p2 q2 : Nat} {bs : List Blk} {fu : Bool} {le : Int} {de : Bool} (d : DevS h p q bs fu le de) (k : Kp h h' p2 q2) (r1 : RowAt h p2) (r2 : RowAt h q2) (n1 : p ≠ p2 ∧ p ≠ q2) (n2 : q ≠ p2 ∧ q ≠ q2) : DevS h' p q bs fu le de :=
  d.same k.1 fun o ho w => k.2 o ho (by rintro rfl; rcases w with rfl | rfl | w <;> first | exact n1.1 rfl | exact n2.1 rfl | exact w r1) (by rintro rfl; rcases w with rfl | rfl | w <;> first | exact n1.2 rfl | exact n2.2 rfl | exact w r2)
section
variable (cf : CallK) (fuel : Nat) {h : Hp} {K : AV → Hp → Prop} {p q : Nat} {bs : List Blk} {fu : Bool} {le : Int} {de : Bool}
theorem CrashL1_run {hN : Hp} {p2 q2 : Nat} (n1 : p ≠ p2 ∧ p ≠ q2) (n2 : q ≠ p2 ∧ q ≠ q2) (d0 : DevS hN p q bs fu le de) (f2 : RowAt hN p2 ∧ RowAt hN q2) (l2 : p2 < hN.next ∧ q2 < hN.next) (e0 : Hp → Prop) (he : ∀ h', Kp hN h' p2 q2 → DevS h' p2 q2 (bs.map crB) false 0 false → e0 h') :
    ∀ (d i fm : Nat) (h : Hp), i + d = bs.length → d < fm → Kp hN h p2 q2 → DevS h p2 q2 (crN bs i) false 0 false → s_device_Device_CrashL1 cf fuel e0 .nilfunc (.ptr p2 0) (.slice q 0 bs.length true bs.length) (I bs.length) fm (I i) h
  | d, i, fm, h, hk, hm, kp, dv => by
    obtain ⟨fm, rfl⟩ : ∃ j, fm = j + 1 := ⟨fm - 1, by omega⟩
    rw [s_device_Device_CrashL1_succ]
    unfold s_device_Device_CrashL1B
    by_cases hi : i < bs.length
    · obtain ⟨d, rfl⟩ : ∃ j, d = j + 1 := ⟨d - 1, by omega⟩
      have e1 : ((i : Int) + 1) = ((i + 1 : Nat) : Int) := by omega
      have hfl := crN_len bs i
      have most := d0.most
      obtain ⟨cnt, e⟩ := dv.dev
      obtain ⟨ob, cs, r1, r2, r3, r4⟩ := dv.row
      rw [hfl] at e r3
      have dO := d0.kp2 kp f2.1 f2.2 n1 n2
      obtain ⟨obO, csO, s1, s2, s3, s4⟩ := dO.row
      obtain ⟨a, b, q1, q2', q3, q4, q5⟩ := s4 i hi
      have ca := q4.cellB
      have cb := q5.cellB
      have cO : cellsO obO 3 (i * 3) = some [a, b, .bool bs[i].loose] := cellsO_list [a, b, .bool bs[i].loose] (i * 3) fun j hj => by
        rw [s2.2.2]
        match j, hj with
        | 0, _ => exact q1
        | 1, _ => exact q2'
        | 2, _ => exact q3
      have hqlt := dO.qlt
      have hplt2 := dv.plt
      have hqlt2 := dv.qlt
      obtain ⟨lo, hlo⟩ : ∃ lo, bs[i].loose = lo := ⟨_, rfl⟩
      rw [hlo] at cO
      have e' : ∀ e1 e2 : Option Ent, ((h.put h.next e1).put h.next e2).at p2 = h.at p2 := fun e1 e2 => by rw [Hp.at_put_ne _ (by omega), Hp.at_put_ne _ (by omega)]
      (try unfold vMov); repeat' (first | refine Step.imp ?_ | (refine Way.mk (fun hp => ?_) (fun hp => ?_) <;> first | contradiction | (exfalso; omega) | skip) | refine LoadG.mkG ?_ | refine LoadsG.mkG ?_ | refine AtG.mkG ?_ | refine StoreG.mkG ?_ | refine CondG.mkG ?_ | fail); (all_goals (try dsimp only))
      unfold s_device_Device_CrashB9
      cases lo
      all_goals
        (try unfold vMov); repeat' (first | refine Step.imp ?_ | (refine Way.mk (fun hp => ?_) (fun hp => ?_) <;> first | contradiction | (exfalso; omega) | skip) | refine LoadG.mkG ?_ | refine LoadsG.mkG ?_ | refine AtG.mkG ?_ | refine StoreG.mkG ?_ | refine CondG.mkG ?_ | (refine LoadsG.mk2 s1 cO (by omega) ?_) | (refine LoadG.mk (e := ⟨true, 5, _⟩) (v := .slice q2 0 bs.length true bs.length) (by rw [Hp.at_put_ne _ (by omega), Hp.at_new_lt _ (by omega)]; exact e) (by rfl) ?_) | (refine veqNF ?_) | (refine stFill_aux _ _ _ _ _ _ _ cb ⟨⟨rfl, by simp [setL]⟩, ?_⟩) | fail); (all_goals (try dsimp only))
        have hst : setL (setL [AV.nilslice, .nilslice, .bool false] 0 [b]) 1 [b] = [b, b, .bool false] := rfl
        rw [hst]
        refine StoreG.mkC2 (off := i * 3) (by rw [Hp.at_put_ne _ (by omega), Hp.at_new_lt _ (by omega)]; exact r1) r2 (by omega) ⟨rfl, by simp only [List.length_cons, List.length_nil]; omega⟩ (fun ob2 c2 => ?_)
        (try unfold vMov); repeat' (first | refine Step.imp ?_ | (refine Way.mk (fun hp => ?_) (fun hp => ?_) <;> first | contradiction | (exfalso; omega) | skip) | refine LoadG.mkG ?_ | refine LoadsG.mkG ?_ | refine AtG.mkG ?_ | refine StoreG.mkG ?_ | refine CondG.mkG ?_ | fail); (all_goals (try dsimp only))
        rw [e1]
        refine CrashL1_run n1 n2 d0 f2 l2 e0 he d (i + 1) fm _ (by omega) (by omega) (kp.trans ⟨by simp only [Hp.next_put, Hp.next_new]; omega, fun o ho _ ho2 => by rw [Hp.at_put_ne _ ho2, Hp.at_put_ne _ (by omega), Hp.at_new_lt _ ho]⟩) ?_
        refine DevS.upd (dv.ext (by repeat (first | exact Ext.refl _ | assumption | apply Ext.new | (refine Ext.put ?_ _ (by first | omega | (simp; done) | (simp; omega)))))) (by simp only [Hp.next_put]) (fun o ho => Hp.at_put_ne _ ho) (by simp [crN_len]) (Hp.at_put_self _ _ _) c2 (by rw [setL_length _ _ _ (by simp only [List.length_cons, List.length_nil]; omega), hfl]; exact r3) (fun j hj => ?_)
        have hj' : j < bs.length := by simpa [crN_len] using hj
        obtain ⟨a', b', w1, w2, w3, w4, w5⟩ := r4 j (by omega)
        have hgj := crN_get bs i j (by omega) hj'
        rw [crN_get bs (i + 1) j hj hj', setL3_get _ _ _ _ _ _ (by omega), setL3_get _ _ _ _ _ _ (by omega), setL3_get _ _ _ _ _ _ (by omega)]
        by_cases hij : i = j
        · subst hij
          rw [if_pos (by omega), if_neg (by omega), if_pos (by omega), if_neg (by omega), if_neg (by omega), if_pos (by omega), if_pos (by omega)]
          exact ⟨b, b, rfl, rfl, rfl, q5.mono (by repeat (first | exact Ext.refl _ | assumption | apply Ext.new | (refine Ext.put ?_ _ (by first | omega | (simp; done) | (simp; omega))))), q5.mono (by repeat (first | exact Ext.refl _ | assumption | apply Ext.new | (refine Ext.put ?_ _ (by first | omega | (simp; done) | (simp; omega)))))⟩
        · rw [if_neg (by omega), if_neg (by omega), if_neg (by omega), if_neg (by omega), if_neg (by omega), if_neg (by omega), if_neg (by omega), if_neg (by omega), if_neg (by omega)]
          rw [hgj] at w3 w4 w5
          by_cases hlt : j < i
          · rw [if_pos hlt] at w3 w4 w5
            rw [if_pos (by omega)]
            exact ⟨a', b', w1, w2, w3, w4.mono (by repeat (first | exact Ext.refl _ | assumption | apply Ext.new | (refine Ext.put ?_ _ (by first | omega | (simp; done) | (simp; omega))))), w5.mono (by repeat (first | exact Ext.refl _ | assumption | apply Ext.new | (refine Ext.put ?_ _ (by first | omega | (simp; done) | (simp; omega)))))⟩
          · rw [if_neg hlt] at w3 w4 w5
            rw [if_neg (by omega)]
            exact ⟨a', b', w1, w2, w3, w4.mono (by repeat (first | exact Ext.refl _ | assumption | apply Ext.new | (refine Ext.put ?_ _ (by first | omega | (simp; done) | (simp; omega))))), w5.mono (by repeat (first | exact Ext.refl _ | assumption | apply Ext.new | (refine Ext.put ?_ _ (by first | omega | (simp; done) | (simp; omega)))))⟩
    · have hd : d = 0 := by omega
      subst hd
      (try unfold vMov); repeat' (first | refine Step.imp ?_ | (refine Way.mk (fun hp => ?_) (fun hp => ?_) <;> first | contradiction | (exfalso; omega) | skip) | refine LoadG.mkG ?_ | refine LoadsG.mkG ?_ | refine AtG.mkG ?_ | refine StoreG.mkG ?_ | refine CondG.mkG ?_ | fail); (all_goals (try dsimp only))
      refine he h kp ?_
      have : i = bs.length := by omega
      rw [← crN_all, ← this]
      exact dv
def cCrash0 : ConD := fun args h K => ∃ p q bs fu le de, args = [.ptr p 0, .nilfunc] ∧ DevS h p q bs fu le de ∧ ∀ p2 q2 h', Ext h h' → h.next ≤ p2 → h.next ≤ q2 → DevS h' p2 q2 (bs.map crB) false 0 false → K (.ptr p2 0) h'
theorem cCrash0_go {cf : CallK} {g : FuncId} (hg : cf g = cCrash0) (d : DevS h p q bs fu le de) (hK : ∀ p2 q2 h', Ext h h' → h.next ≤ p2 → h.next ≤ q2 → DevS h' p2 q2 (bs.map crB) false 0 false → K (.ptr p2 0) h') : cf g [.ptr p 0, .nilfunc] h K := by rw [hg]; exact ⟨p, q, bs, fu, le, de, rfl, d, hK⟩
theorem Crash0_run (hN : cf 86 = cDNew) (d : DevS h p q bs fu le de) (hf : 65536 < fuel) (hK : ∀ p2 q2 h', Ext h h' → h.next ≤ p2 → h.next ≤ q2 → DevS h' p2 q2 (bs.map crB) false 0 false → K (.ptr p2 0) h') : s_device_Device_Crash cf fuel (.ptr p 0) .nilfunc h K := by
  unfold s_device_Device_Crash
  obtain ⟨cnt, e⟩ := d.dev
  have most := d.most
  have pos := d.pos
  (try unfold vMov); repeat' (first | refine Step.imp ?_ | (refine Way.mk (fun hp => ?_) (fun hp => ?_) <;> first | contradiction | (exfalso; omega) | skip) | refine LoadG.mkG ?_ | refine LoadsG.mkG ?_ | refine AtG.mkG ?_ | refine StoreG.mkG ?_ | refine CondG.mkG ?_ | (refine LoadG.mk e (by rfl) ?_) | fail); (all_goals (try dsimp only))
  refine cDNew_go hN ⟨by omega, most⟩ (fun p2 q2 h1 x1 f1 f2 d1 => ?_)
  have dd := d.ext x1
  obtain ⟨cnt1, e1⟩ := dd.dev
  have hp := d.plt
  have hq := d.qlt
  (try unfold vMov); repeat' (first | refine Step.imp ?_ | (refine Way.mk (fun hp => ?_) (fun hp => ?_) <;> first | contradiction | (exfalso; omega) | skip) | refine LoadG.mkG ?_ | refine LoadsG.mkG ?_ | refine AtG.mkG ?_ | refine StoreG.mkG ?_ | refine CondG.mkG ?_ | (refine LoadG.mk e1 (by rfl) ?_) | fail); (all_goals (try dsimp only))
  refine CrashL1_run cf fuel (hN := h1) (p := p) (q := q) (p2 := p2) (q2 := q2) ⟨by omega, by omega⟩ ⟨by omega, by omega⟩ dd ⟨d1.rowp, d1.rowq⟩ ⟨d1.plt, d1.qlt⟩ _ (fun h2 k2 d2 => ?_) bs.length 0 fuel h1 (by omega) (by omega) ⟨Nat.le_refl _, fun _ _ _ _ => rfl⟩ (by rw [crN_zero]; exact d1)
  unfold s_device_Device_CrashE0
  have n1 := x1.next
  exact hK p2 q2 h2 ⟨Nat.le_trans n1 k2.1, fun o ho => by rw [k2.2 o (by omega) (by omega) (by omega), x1.same o ho]⟩ f1 f2 d2
end
end Lg

namespace Lg
set_option linter.unusedSimpArgs false
set_option linter.unusedVariables false
set_option maxRecDepth 100000
open Go Go.Am
open Go.Proofs.Ytnhamanffojhfaa.shl
theorem toStrB_go {h : Hp} {v : AV} {l : List UInt8} {K : AV → Hp → Prop} (hv : ByH h v l) (hK : K (S l) h) : vToStr v h K := by
  rcases hv with ⟨rfl, rfl⟩ | ⟨o, rfl, rfl⟩ | ⟨o, off, kn, c, e, n, z, rfl, h2, h3, h4, h5, h6, h7⟩
  · exact hK
  · exact hK
  · show asOpt (h.at o) fun e => asByts e.obj fun m z => gd (Nat.ble (off + l.length) m) (forceN l.length fun n => forceN (cutB z off n) fun z => K (.str n z) h)
    rw [h3, asOpt_some, h4]
    show gd (Nat.ble (off + l.length) n) (forceN l.length fun n => forceN (cutB z off n) fun z => K (.str n z) h)
    rw [Nat.ble_eq_true_of_le h5]
    simp only [gd_true, forceN_eq]
    rw [S_of (cutB_lt _ _ _)]
    have := bytesL_cut n z off (off + l.length) (by omega) h5
    rw [show off + l.length - off = l.length by omega, List.drop_take, show off + l.length - off = l.length by omega, h7] at this
    rw [this]
    exact hK
section
variable {h : Hp} {K : AV → Hp → Prop}
def cEqB : ConD := fun args h K => ∃ v w l m, args = [v, w] ∧ ByH h v l ∧ ByH h w m ∧ K (.bool (decide (l = m))) h
theorem cEqB_go {cf : CallK} {g : FuncId} (hg : cf g = cEqB) {v w : AV} {l m : List UInt8} (hv : ByH h v l) (hw : ByH h w m) (hK : K (.bool (decide (l = m))) h) : cf g [v, w] h K := by rw [hg]; exact ⟨v, w, l, m, rfl, hv, hw, hK⟩
theorem EqualB_run (cf : CallK) (fuel : Nat) {v w : AV} {l m : List UInt8} (hv : ByH h v l) (hw : ByH h w m) (hK : K (.bool (decide (l = m))) h) : s_bytes_Equal cf fuel v w h K := by
  unfold s_bytes_Equal
  refine toStrB_go hv (toStrB_go hw ?_)
  by_cases hp : l = m
  · rw [decide_eq_true hp] at hK
    (try unfold vMov); repeat' (first | refine Step.imp ?_ | (refine Way.mk (fun hp => ?_) (fun hp => ?_) <;> first | contradiction | (exfalso; omega) | skip) | refine LoadG.mkG ?_ | refine LoadsG.mkG ?_ | refine AtG.mkG ?_ | refine StoreG.mkG ?_ | refine CondG.mkG ?_ | fail); (all_goals (try dsimp only))
    exact hK
  · rw [decide_eq_false hp] at hK
    (try unfold vMov); repeat' (first | refine Step.imp ?_ | (refine Way.mk (fun hp => ?_) (fun hp => ?_) <;> first | contradiction | (exfalso; omega) | skip) | refine LoadG.mkG ?_ | refine LoadsG.mkG ?_ | refine AtG.mkG ?_ | refine StoreG.mkG ?_ | refine CondG.mkG ?_ | fail); (all_goals (try dsimp only))
    exact hK
end
/-- A device without a fuse: what its blocks are, and what they were at the last flush. -/
def DevN (h : Hp) (p q : Nat) (N E : List (List UInt8)) : Prop := ∃ bs, DevS h p q bs false 0 false ∧ bs.map Blk.now = N ∧ bs.map Blk.kept = E
section
variable {h : Hp} {K : AV → Hp → Prop} {p q : Nat} {N E : List (List UInt8)}
theorem DevN.len (d : DevN h p q N E) : N.length = E.length ∧ 0 < N.length ∧ N.length ≤ 65536 := by
  obtain ⟨bs, d, rfl, rfl⟩ := d
  simp only [List.length_map]
  exact ⟨trivial, d.pos, d.most⟩
theorem DevN.each (d : DevN h p q N E) : ∀ l ∈ N, l.length = 512 := by
  obtain ⟨bs, d, rfl, rfl⟩ := d
  intro l hl
  obtain ⟨b, hb, rfl⟩ := List.mem_map.1 hl
  obtain ⟨j, hj, rfl⟩ := List.getElem_of_mem hb
  obtain ⟨ob, cs, _, _, _, e4⟩ := d.row
  obtain ⟨_, _, _, _, _, q4, _⟩ := e4 j hj
  exact q4.1
theorem DevN.ext {h' : Hp} (d : DevN h p q N E) (x : Ext h h') : DevN h' p q N E := by
  obtain ⟨bs, d, r⟩ := d
  exact ⟨bs, d.ext x, r⟩
theorem DevN.rows (d : DevN h p q N E) : RowAt h p ∧ RowAt h q ∧ p < h.next ∧ q < h.next ∧ p ≠ q := by
  obtain ⟨bs, d, r⟩ := d
  exact ⟨d.rowp, d.rowq, d.plt, d.qlt, d.ne⟩
theorem DevN.kp {h' : Hp} {p2 q2 : Nat} (d : DevN h p q N E) (k : Kp h h' p2 q2) (r1 : RowAt h p2) (r2 : RowAt h q2) (n1 : p ≠ p2 ∧ p ≠ q2) (n2 : q ≠ p2 ∧ q ≠ q2) : DevN h' p q N E := by
  obtain ⟨bs, d, r⟩ := d
  exact ⟨bs, d.kp2 k r1 r2 n1 n2, r⟩
theorem dead_goN {cf : CallK} {g : FuncId} (hg : cf g = cDead) (d : DevN h p q N E) (hK : K (.bool false) h) : cf g [.ptr p 0] h K := by
  obtain ⟨bs, d, rfl, rfl⟩ := d
  exact cDead_go hg d hK
theorem blocks_goN {cf : CallK} {g : FuncId} (hg : cf g = cBlocks) (d : DevN h p q N E) (hK : K (I N.length) h) : cf g [.ptr p 0] h K := by
  obtain ⟨bs, d, rfl, rfl⟩ := d
  exact cBlocks_go hg d (by simpa using hK)
theorem read_goN {cf : CallK} {g : FuncId} (hg : cf g = cDRead) (d : DevN h p q N E) {i : Nat} (hi : i < N.length) (hK : ∀ v' h', Ext h h' → ByH h' v' N[i] → Fr h.next v' → K (.tup [v', I 0]) h') : cf g [.ptr p 0, I i] h K := by
  obtain ⟨bs, d, rfl, rfl⟩ := d
  exact cDRead_go hg d (by simpa using hi) (fun v' h' x y z => hK v' h' x (by simpa using y) z)
theorem write_goN {cf : CallK} {g : FuncId} (hg : cf g = cWrite) (d : DevN h p q N E) {i : Nat} (hi : i < N.length) {v : AV} {l : List UInt8} (hv : ByH h v l) (hl : l.length = 512) (hK : ∀ h', Kp h h' p q → DevN h' p q (N.set i l) E → K (I 0) h') : cf g [.ptr p 0, I i, v] h K := by
  obtain ⟨bs, d, rfl, rfl⟩ := d
  have hi' : i < bs.length := by simpa using hi
  refine cWrite_go hg d hi' hv hl (fun h' k d' => hK h' k ⟨_, d', ?_, ?_⟩)
  · simp
  · rw [List.map_set]
    refine List.ext_getElem (by simp) fun j h1 h2 => ?_
    rw [List.getElem_set]
    split
    · rename_i e; subst e; simp
    · simp
theorem flush_goN {cf : CallK} {g : FuncId} (hg : cf g = cFlush) (d : DevN h p q N E) (hK : ∀ h', Kp h h' p q → DevN h' p q N N → K (I 0) h') : cf g [.ptr p 0] h K := by
  obtain ⟨bs, d, rfl, rfl⟩ := d
  refine cFlush_go hg d (fun h' k d' => hK h' k ⟨_, d', ?_, ?_⟩)
  · simp [flB]
  · simp [flB]
theorem crash_goN {cf : CallK} {g : FuncId} (hg : cf g = cCrash0) (d : DevN h p q N E) (hK : ∀ p2 q2 h', Ext h h' → h.next ≤ p2 → h.next ≤ q2 → DevN h' p2 q2 E E → K (.ptr p2 0) h') : cf g [.ptr p 0, .nilfunc] h K := by
  obtain ⟨bs, d, rfl, rfl⟩ := d
  refine cCrash0_go hg d (fun p2 q2 h' x f1 f2 d' => hK p2 q2 h' x f1 f2 ⟨_, d', ?_, ?_⟩)
  · simp [crB]
  · simp [crB]
theorem new_goN {cf : CallK} {g : FuncId} (hg : cf g = cDNew) {n : Nat} (hn : 1 ≤ n ∧ n ≤ 65536) (hK : ∀ p q h', Ext h h' → h.next ≤ p → h.next ≤ q → DevN h' p q (List.replicate n zeroB) (List.replicate n zeroB) → K (.ptr p 0) h') : cf g [I n] h K :=
  cDNew_go hg hn (fun p q h' x f1 f2 d => hK p q h' x f1 f2 ⟨_, d, by simp [newBs], by simp [newBs]⟩)
/-! ### wal -/
def roomN (n : Nat) : Nat := if n < 16 then 0 else (n - 8) / 4
def cRoom : ConD := fun args h K => ∃ p q N E, args = [.ptr p 0] ∧ DevN h p q N E ∧ K (I (roomN N.length)) h
theorem cRoom_go {cf : CallK} {g : FuncId} (hg : cf g = cRoom) (d : DevN h p q N E) (hK : K (I (roomN N.length)) h) : cf g [.ptr p 0] h K := by rw [hg]; exact ⟨p, q, N, E, rfl, d, hK⟩
theorem room_run (cf : CallK) (fuel : Nat) (hB : cf 151 = cBlocks) (d : DevN h p q N E) (hK : K (I (roomN N.length)) h) : s_wal_room cf fuel (.ptr p 0) h K := by
  unfold s_wal_room
  obtain ⟨_, _, hm⟩ := d.len
  by_cases hn : N.length < 16
  · have : roomN N.length = 0 := if_pos hn
    rw [this] at hK
    (try unfold vMov); repeat' (first | refine Step.imp ?_ | (refine Way.mk (fun hp => ?_) (fun hp => ?_) <;> first | contradiction | (exfalso; omega) | skip) | refine LoadG.mkG ?_ | refine LoadsG.mkG ?_ | refine AtG.mkG ?_ | refine StoreG.mkG ?_ | refine CondG.mkG ?_ | (refine blocks_goN hB d ?_) | fail); (all_goals (try dsimp only))
    exact hK
  · have : roomN N.length = (N.length - 8) / 4 := if_neg hn
    rw [this] at hK
    (try unfold vMov); repeat' (first | refine Step.imp ?_ | (refine Way.mk (fun hp => ?_) (fun hp => ?_) <;> first | contradiction | (exfalso; omega) | skip) | refine LoadG.mkG ?_ | refine LoadsG.mkG ?_ | refine AtG.mkG ?_ | refine StoreG.mkG ?_ | refine CondG.mkG ?_ | (refine blocks_goN hB d ?_) | fail); (all_goals (try dsimp only))
    rw [vDiv_int _ _ _ (by omega), wrap64_in (by rw [Int.tdiv_eq_ediv_of_nonneg (by omega)]; omega) (by rw [Int.tdiv_eq_ediv_of_nonneg (by omega)]; omega), Int.tdiv_eq_ediv_of_nonneg (by omega)]
    have e : ((N.length : Int) - 8) / 4 = (((N.length - 8) / 4 : Nat) : Int) := by omega
    rw [e]
    exact hK
def cWrote : ConD := fun args h K => ∃ p q N E, ∃ i : Nat, ∃ v l, args = [.ptr p 0, I i, v] ∧ DevN h p q N E ∧ i < N.length ∧ ByH h v l ∧ l.length = 512 ∧ ∀ h', Kp h h' p q → DevN h' p q (N.set i l) E → K (I 0) h'
theorem cWrote_go {cf : CallK} {g : FuncId} (hg : cf g = cWrote) (d : DevN h p q N E) {i : Nat} (hi : i < N.length) {v : AV} {l : List UInt8} (hv : ByH h v l) (hl : l.length = 512) (hK : ∀ h', Kp h h' p q → DevN h' p q (N.set i l) E → K (I 0) h') : cf g [.ptr p 0, I i, v] h K := by rw [hg]; exact ⟨p, q, N, E, i, v, l, rfl, d, hi, hv, hl, hK⟩
theorem wrote_run (cf : CallK) (fuel : Nat) (hR : cf 130 = cDRead) (hE : cf 132 = cEqB) (hW : cf 126 = cWrite) (d : DevN h p q N E) {i : Nat} (hi : i < N.length) {v : AV} {l : List UInt8} (hv : ByH h v l) (hl : l.length = 512) (hK : ∀ h', Kp h h' p q → DevN h' p q (N.set i l) E → K (I 0) h') : s_wal_wrote cf fuel (.ptr p 0) (I i) v h K := by
  unfold s_wal_wrote
  refine read_goN hR d hi (fun v1 h1 x1 y1 z1 => ?_)
  have d1 := d.ext x1
  have hv1 := hv.mono x1
  by_cases hNl : N[i] = l
  · (try unfold vMov); repeat' (first | refine Step.imp ?_ | (refine Way.mk (fun hp => ?_) (fun hp => ?_) <;> first | contradiction | (exfalso; omega) | skip) | refine LoadG.mkG ?_ | refine LoadsG.mkG ?_ | refine AtG.mkG ?_ | refine StoreG.mkG ?_ | refine CondG.mkG ?_ | (refine cEqB_go hE y1 hv1 ?_) | fail); (all_goals (try dsimp only))
    rw [decide_eq_true hNl]
    (try unfold vMov); repeat' (first | refine Step.imp ?_ | (refine Way.mk (fun hp => ?_) (fun hp => ?_) <;> first | contradiction | (exfalso; omega) | skip) | refine LoadG.mkG ?_ | refine LoadsG.mkG ?_ | refine AtG.mkG ?_ | refine StoreG.mkG ?_ | refine CondG.mkG ?_ | fail); (all_goals (try dsimp only))
    refine hK h1 (Kp.ext p q x1) ?_
    have : N.set i l = N := by rw [← hNl]; exact List.set_getElem_self hi
    rw [this]
    exact d1
  · (try unfold vMov); repeat' (first | refine Step.imp ?_ | (refine Way.mk (fun hp => ?_) (fun hp => ?_) <;> first | contradiction | (exfalso; omega) | skip) | refine LoadG.mkG ?_ | refine LoadsG.mkG ?_ | refine AtG.mkG ?_ | refine StoreG.mkG ?_ | refine CondG.mkG ?_ | (refine cEqB_go hE y1 hv1 ?_) | fail); (all_goals (try dsimp only))
    rw [decide_eq_false hNl]
    (try unfold vMov); repeat' (first | refine Step.imp ?_ | (refine Way.mk (fun hp => ?_) (fun hp => ?_) <;> first | contradiction | (exfalso; omega) | skip) | refine LoadG.mkG ?_ | refine LoadsG.mkG ?_ | refine AtG.mkG ?_ | refine StoreG.mkG ?_ | refine CondG.mkG ?_ | fail); (all_goals (try dsimp only))
    refine write_goN hW d1 hi hv1 hl (fun h2 k2 d2 => ?_)
    exact hK h2 ((Kp.ext p q x1).trans k2) d2
end
end Lg

namespace Lg
set_option linter.unusedSimpArgs false
set_option linter.unusedVariables false
set_option maxRecDepth 100000
open Go Go.Am
open Go.Proofs.Ytnhamanffojhfaa.shl
/-- The volume's own row. -/
def VolW (h : Hp) (vo p : Nat) (x : AV) (k c : Int) (ch br : Bool) : Prop := vo < h.next ∧ h.at vo = some ⟨true, 6, .row [.ptr p 0, x, I k, I c, .bool ch, .bool br]⟩
/-- The row of its blocks. -/
def BlkR (h : Hp) (wo : Nat) (L : List (List UInt8)) : Prop := wo < h.next ∧ ∃ ob cs, h.at wo = some ⟨true, 1, ob⟩ ∧ Cells ob cs ∧ cs.length = L.length ∧ ∀ j (hj : j < L.length), ∃ a, cs[j]? = some a ∧ ByH h a L[j] ∧ L[j].length = 512
structure VolR (h : Hp) (vo wo p : Nat) (L : List (List UInt8)) (k c : Nat) (ch br : Bool) : Prop where
  ne : vo ≠ wo
  small : L.length ≤ 65536
  vol : VolW h vo p (.slice wo 0 L.length true L.length) k c ch br
  row : BlkR h wo L
theorem VolW.row {h : Hp} {vo p : Nat} {x : AV} {k c : Int} {ch br : Bool} (v : VolW h vo p x k c ch br) : RowAt h vo := ⟨_, _, v.2, Cells.row _⟩
theorem BlkR.row {h : Hp} {wo : Nat} {L : List (List UInt8)} (v : BlkR h wo L) : RowAt h wo := by
  obtain ⟨_, ob, cs, e, c, _⟩ := v
  exact ⟨_, _, e, c⟩
theorem VolR.rows {h : Hp} {vo wo p : Nat} {L : List (List UInt8)} {k c : Nat} {ch br : Bool} (v : VolR h vo wo p L k c ch br) : RowAt h vo ∧ RowAt h wo := ⟨v.vol.row, v.row.row⟩
theorem BlkR.same {h h' : Hp} {wo : Nat} {L : List (List UInt8)} (v : BlkR h wo L) (hn : h.next ≤ h'.next) (hs : ∀ o, o < h.next → (o = wo ∨ ¬ RowAt h o) → h'.at o = h.at o) : BlkR h' wo L := by
  obtain ⟨w, ob, cs, e1, e2, e3, e4⟩ := v
  exact ⟨Nat.lt_of_lt_of_le w hn, ob, cs, by rw [hs wo w (.inl rfl)]; exact e1, e2, e3, fun j hj => by
    obtain ⟨a, q1, q2, q3⟩ := e4 j hj
    exact ⟨a, q1, q2.same hn fun o off n kn c e ho => hs o ho (.inr fun r => q2.row_ne r e rfl), q3⟩⟩
theorem VolR.same {h h' : Hp} {vo wo p : Nat} {L : List (List UInt8)} {k c : Nat} {ch br : Bool} (v : VolR h vo wo p L k c ch br) (hn : h.next ≤ h'.next) (hs : ∀ o, o < h.next → (o = vo ∨ o = wo ∨ ¬ RowAt h o) → h'.at o = h.at o) : VolR h' vo wo p L k c ch br :=
  ⟨v.ne, v.small, ⟨Nat.lt_of_lt_of_le v.vol.1 hn, by rw [hs vo v.vol.1 (.inl rfl)]; exact v.vol.2⟩, v.row.same hn fun o ho w => hs o ho (.inr w)⟩
theorem VolR.ext {h h' : Hp} {vo wo p : Nat} {L : List (List UInt8)} {k c : Nat} {ch br : Bool} (v : VolR h vo wo p L k c ch br) (x : Ext h h') : VolR h' vo wo p L k c ch br := v.same x.next fun o ho _ => x.same o ho
theorem VolR.kp {h h' : Hp} {vo wo p p2 q2 : Nat} {L : List (List UInt8)} {k c : Nat} {ch br : Bool} (v : VolR h vo wo p L k c ch br) (kk : Kp h h' p2 q2) (r1 : RowAt h p2) (r2 : RowAt h q2) (n1 : vo ≠ p2 ∧ vo ≠ q2) (n2 : wo ≠ p2 ∧ wo ≠ q2) : VolR h' vo wo p L k c ch br :=
  v.same kk.1 fun o ho w => kk.2 o ho (by rintro rfl; rcases w with rfl | rfl | w <;> first | exact n1.1 rfl | exact n2.1 rfl | exact w r1) (by rintro rfl; rcases w with rfl | rfl | w <;> first | exact n1.2 rfl | exact n2.2 rfl | exact w r2)
/-- Puts as they are read. -/
def PutsR (h : Hp) (els : List (List AV)) (ps : List (Int × List UInt8)) : Prop := els.length = ps.length ∧ ∀ j (h1 : j < els.length) (h2 : j < ps.length), ∃ d, els[j] = [I ps[j].1, d] ∧ ByH h d ps[j].2
theorem PutsR.mono {h h' : Hp} {els : List (List AV)} {ps : List (Int × List UInt8)} (r : PutsR h els ps) (x : Ext h h') : PutsR h' els ps := ⟨r.1, fun j h1 h2 => by
  obtain ⟨d, a, b⟩ := r.2 j h1 h2
  exact ⟨d, a, b.mono x⟩⟩
theorem rdLen {h : Hp} {esz : Nat} {v : AV} {els : List (List AV)} (hv : Rd h esz v els) (h' : Hp) : vLenL2 v h' = fun K' => K' (I els.length) h' := by
  funext K'
  rcases hv with ⟨rfl, rfl⟩ | ⟨_, rfl, rfl⟩ | ⟨o, off, kn, c, e, rfl, _⟩ <;> rfl
def okP (n : Nat) (p : Int × List UInt8) : Bool := decide (0 ≤ p.1) && (decide (p.1 < n) && decide (p.2.length = 512))
def mayP (n : Nat) (ps : List (Int × List UInt8)) : Bool := decide (ps.length ≤ n) && ps.all (okP n)
section
variable (cf : CallK) (fuel : Nat) {h : Hp} {K : AV → Hp → Prop} {vo wo p q : Nat} {L N E : List (List UInt8)} {k c : Nat} {ch br : Bool}
def cVBlocks : ConD := fun args h K => ∃ vo wo p L k c ch br, args = [.ptr vo 0] ∧ VolR h vo wo p L k c ch br ∧ K (I L.length) h
theorem cVBlocks_go {cf : CallK} {g : FuncId} (hg : cf g = cVBlocks) (v : VolR h vo wo p L k c ch br) (hK : K (I L.length) h) : cf g [.ptr vo 0] h K := by rw [hg]; exact ⟨vo, wo, p, L, k, c, ch, br, rfl, v, hK⟩
theorem VBlocks_run (v : VolR h vo wo p L k c ch br) (hK : K (I L.length) h) : s_wal_Volume_Blocks cf fuel (.ptr vo 0) h K := by
  unfold s_wal_Volume_Blocks
  obtain ⟨_, e⟩ := v.vol
  (try unfold vMov); repeat' (first | refine Step.imp ?_ | (refine Way.mk (fun hp => ?_) (fun hp => ?_) <;> first | contradiction | (exfalso; omega) | skip) | refine LoadG.mkG ?_ | refine LoadsG.mkG ?_ | refine AtG.mkG ?_ | refine StoreG.mkG ?_ | refine CondG.mkG ?_ | (refine LoadG.mk e (by rfl) ?_) | fail); (all_goals (try dsimp only))
  all_goals exact hK
def cVCommits : ConD := fun args h K => ∃ vo wo p L k c ch br, args = [.ptr vo 0] ∧ VolR h vo wo p L k c ch br ∧ K (I c) h
theorem cVCommits_go {cf : CallK} {g : FuncId} (hg : cf g = cVCommits) (v : VolR h vo wo p L k c ch br) (hK : K (I c) h) : cf g [.ptr vo 0] h K := by rw [hg]; exact ⟨vo, wo, p, L, k, c, ch, br, rfl, v, hK⟩
theorem VCommits_run (v : VolR h vo wo p L k c ch br) (hK : K (I c) h) : s_wal_Volume_Commits cf fuel (.ptr vo 0) h K := by
  unfold s_wal_Volume_Commits
  obtain ⟨_, e⟩ := v.vol
  (try unfold vMov); repeat' (first | refine Step.imp ?_ | (refine Way.mk (fun hp => ?_) (fun hp => ?_) <;> first | contradiction | (exfalso; omega) | skip) | refine LoadG.mkG ?_ | refine LoadsG.mkG ?_ | refine AtG.mkG ?_ | refine StoreG.mkG ?_ | refine CondG.mkG ?_ | (refine LoadG.mk e (by rfl) ?_) | fail); (all_goals (try dsimp only))
  all_goals exact hK
def cVRead : ConD := fun args h K => ∃ vo wo p L k c ch br, ∃ i : Nat, args = [.ptr vo 0, I i] ∧ VolR h vo wo p L k c ch br ∧ (∀ hi : i < L.length, ∀ v' h', Ext h h' → ByH h' v' L[i] → K (.tup [v', I 0]) h') ∧ (L.length ≤ i → K (.tup [.nilslice, I 22]) h)
theorem cVRead_go {cf : CallK} {g : FuncId} (hg : cf g = cVRead) {i : Nat} (v : VolR h vo wo p L k c ch br) (hK : ∀ hi : i < L.length, ∀ v' h', Ext h h' → ByH h' v' L[i] → K (.tup [v', I 0]) h') (hK2 : L.length ≤ i → K (.tup [.nilslice, I 22]) h) : cf g [.ptr vo 0, I i] h K := by rw [hg]; exact ⟨vo, wo, p, L, k, c, ch, br, i, rfl, v, hK, hK2⟩
theorem VRead_run (hB : cf 49 = cVBlocks) (hC : cf 61 = cClone) {i : Nat} (v : VolR h vo wo p L k c ch br) (hK : ∀ hi : i < L.length, ∀ v' h', Ext h h' → ByH h' v' L[i] → K (.tup [v', I 0]) h') (hK2 : L.length ≤ i → K (.tup [.nilslice, I 22]) h) : s_wal_Volume_Read cf fuel (.ptr vo 0) (I i) h K := by
  unfold s_wal_Volume_Read
  obtain ⟨_, e⟩ := v.vol
  have hsm := v.small
  by_cases hi : i < L.length
  · obtain ⟨_, ob, cs, e1, e2, e3, e4⟩ := v.row
    obtain ⟨a, q1, q2, q3⟩ := e4 i hi
    have c0 : cellAt ob i = some a := by rw [e2.2.2]; exact q1
    (try unfold vMov); repeat' (first | refine Step.imp ?_ | (refine Way.mk (fun hp => ?_) (fun hp => ?_) <;> first | contradiction | (exfalso; omega) | skip) | refine LoadG.mkG ?_ | refine LoadsG.mkG ?_ | refine AtG.mkG ?_ | refine StoreG.mkG ?_ | refine CondG.mkG ?_ | (refine cVBlocks_go hB v ?_) | (refine LoadG.mk e (by rfl) ?_) | (refine LoadG.mk2 e1 c0 (by omega) ?_) | fail); (all_goals (try dsimp only))
    refine cClone_go hC q2 (fun v' h' x y z => ?_)
    (try unfold vMov); repeat' (first | refine Step.imp ?_ | (refine Way.mk (fun hp => ?_) (fun hp => ?_) <;> first | contradiction | (exfalso; omega) | skip) | refine LoadG.mkG ?_ | refine LoadsG.mkG ?_ | refine AtG.mkG ?_ | refine StoreG.mkG ?_ | refine CondG.mkG ?_ | fail); (all_goals (try dsimp only))
    exact hK hi v' h' x y
  · (try unfold vMov); repeat' (first | refine Step.imp ?_ | (refine Way.mk (fun hp => ?_) (fun hp => ?_) <;> first | contradiction | (exfalso; omega) | skip) | refine LoadG.mkG ?_ | refine LoadsG.mkG ?_ | refine AtG.mkG ?_ | refine StoreG.mkG ?_ | refine CondG.mkG ?_ | (refine cVBlocks_go hB v ?_) | fail); (all_goals (try dsimp only))
    exact hK2 (by omega)
def cVDead : ConD := fun args h K => ∃ vo wo p q L N E k c ch, args = [.ptr vo 0] ∧ VolR h vo wo p L k c ch false ∧ DevN h p q N E ∧ (vo ≠ p ∧ vo ≠ q) ∧ ∀ h', h'.next = h.next → (∀ o, h'.at o = h.at o) → K (.bool false) h'
theorem cVDead_go {cf : CallK} {g : FuncId} (hg : cf g = cVDead) (v : VolR h vo wo p L k c ch false) (d : DevN h p q N E) (n : vo ≠ p ∧ vo ≠ q) (hK : ∀ h', h'.next = h.next → (∀ o, h'.at o = h.at o) → K (.bool false) h') : cf g [.ptr vo 0] h K := by rw [hg]; exact ⟨vo, wo, p, q, L, N, E, k, c, ch, rfl, v, d, n, hK⟩
theorem VDead_run (hD : cf 128 = cDead) (v : VolR h vo wo p L k c ch false) (d : DevN h p q N E) (hK : ∀ h', h'.next = h.next → (∀ o, h'.at o = h.at o) → K (.bool false) h') : s_wal_Volume_dead cf fuel (.ptr vo 0) h K := by
  unfold s_wal_Volume_dead
  obtain ⟨_, e⟩ := v.vol
  (try unfold vMov); repeat' (first | refine Step.imp ?_ | (refine Way.mk (fun hp => ?_) (fun hp => ?_) <;> first | contradiction | (exfalso; omega) | skip) | refine LoadG.mkG ?_ | refine LoadsG.mkG ?_ | refine AtG.mkG ?_ | refine StoreG.mkG ?_ | refine CondG.mkG ?_ | (refine LoadG.mk e (by rfl) ?_) | (refine dead_goN hD d ?_) | (refine StoreG.mk e (by first | omega | (simp; done) | (simp; omega)) ?_) | fail); (all_goals (try dsimp only))
  refine hK _ (by simp only [Hp.next_put]) (fun o => ?_)
  by_cases ho : o = vo
  · subst ho
    rw [Hp.at_put_self, e]
    rfl
  · rw [Hp.at_put_ne _ ho]
def cVMay : ConD := fun args h K => ∃ vo wo p L k c ch br v els ps, args = [.ptr vo 0, v] ∧ VolR h vo wo p L k c ch br ∧ Rd h 2 v els ∧ PutsR h els ps ∧ ∀ h', Ext h h' → K (.bool (mayP L.length ps)) h'
theorem cVMay_go {cf : CallK} {g : FuncId} (hg : cf g = cVMay) (vr : VolR h vo wo p L k c ch br) {v : AV} {els : List (List AV)} {ps : List (Int × List UInt8)} (hr : Rd h 2 v els) (hp : PutsR h els ps) (hK : ∀ h', Ext h h' → K (.bool (mayP L.length ps)) h') : cf g [.ptr vo 0, v] h K := by rw [hg]; exact ⟨vo, wo, p, L, k, c, ch, br, v, els, ps, rfl, vr, hr, hp, hK⟩
theorem mayL1_run {h0 : Hp} (vr : VolR h0 vo wo p L k c ch br) {v : AV} {els : List (List AV)} {ps : List (Int × List UInt8)} (hr : Rd h0 2 v els) (hps : PutsR h0 els ps) (e0 : Hp → Prop) (hsm : els.length ≤ 1000000) (he : ps.all (okP L.length) = true → ∀ h', Ext h0 h' → e0 h') (hF : ps.all (okP L.length) = false → ∀ h', Ext h0 h' → K (.bool false) h') :
    ∀ (d i fm : Nat) (h : Hp), i + d = els.length → d < fm → Ext h0 h → ps.all (okP L.length) = (ps.drop i).all (okP L.length) → s_wal_Volume_mayL1 cf fuel K e0 (.ptr vo 0) v (I els.length) fm (I i) h
  | d, i, fm, h, hk, hm, hx, hall => by
    obtain ⟨fm, rfl⟩ : ∃ j, fm = j + 1 := ⟨fm - 1, by omega⟩
    rw [s_wal_Volume_mayL1_succ]
    unfold s_wal_Volume_mayL1B
    by_cases hi : i < els.length
    · obtain ⟨d, rfl⟩ : ∃ j, d = j + 1 := ⟨d - 1, by omega⟩
      have e1 : ((i : Int) + 1) = ((i + 1 : Nat) : Int) := by omega
      have hi2 : i < ps.length := by rw [← hps.1]; exact hi
      obtain ⟨o, off, kn, c', e, rfl, hat, hc⟩ := (hr.mono hx).openS hi
      have ci := hc i hi
      obtain ⟨dv, hcs, hd⟩ := (hps.mono hx).2 i hi hi2
      rw [hcs] at ci
      have cd := hd.cellB
      obtain ⟨w1, ev⟩ := (vr.ext hx).vol
      have hsml := vr.small
      rw [List.drop_eq_getElem_cons hi2, List.all_cons] at hall
      have next : ∀ h', Ext h h' → okP L.length ps[i] = true → s_wal_Volume_mayL1 cf fuel K e0 (.ptr vo 0) (.slice o off els.length kn c') (I els.length) fm (I ((i + 1 : Nat) : Int)) h' := fun h' x hok =>
        mayL1_run vr hr hps e0 hsm he hF d (i + 1) fm h' (by omega) (by omega) (hx.trans x) (by rw [hall, hok, Bool.true_and])
      have bad : okP L.length ps[i] = false → ∀ h', Ext h h' → K (.bool false) h' := fun hok h' x => hF (by rw [hall, hok, Bool.false_and]) h' (hx.trans x)
      (try unfold vMov); repeat' (first | refine Step.imp ?_ | (refine Way.mk (fun hp => ?_) (fun hp => ?_) <;> first | contradiction | (exfalso; omega) | skip) | refine LoadG.mkG ?_ | refine LoadsG.mkG ?_ | refine AtG.mkG ?_ | refine StoreG.mkG ?_ | refine CondG.mkG ?_ | fail); (all_goals (try dsimp only))
      unfold s_wal_Volume_mayB15
      (try unfold vMov); repeat' (first | refine Step.imp ?_ | (refine Way.mk (fun hp => ?_) (fun hp => ?_) <;> first | contradiction | (exfalso; omega) | skip) | refine LoadG.mkG ?_ | refine LoadsG.mkG ?_ | refine AtG.mkG ?_ | refine StoreG.mkG ?_ | refine CondG.mkG ?_ | (refine LoadsG.mk2 hat ci (by omega) ?_) | (refine LoadG.mk (by rw [Hp.at_put_ne _ (by omega), Hp.at_new_lt _ (by omega)]; exact ev) (by rfl) ?_) | (refine lenB_go hd ?_) | fail); (all_goals (try dsimp only))
      all_goals
        first
        | (rw [e1]; refine next _ (by repeat (first | exact Ext.refl _ | assumption | apply Ext.new | (refine Ext.put ?_ _ (by first | omega | (simp; done) | (simp; omega))))) ?_; unfold okP; simp; omega)
        | (refine bad ?_ _ (by repeat (first | exact Ext.refl _ | assumption | apply Ext.new | (refine Ext.put ?_ _ (by first | omega | (simp; done) | (simp; omega))))); unfold okP; simp; omega)
    · have hd : d = 0 := by omega
      subst hd
      (try unfold vMov); repeat' (first | refine Step.imp ?_ | (refine Way.mk (fun hp => ?_) (fun hp => ?_) <;> first | contradiction | (exfalso; omega) | skip) | refine LoadG.mkG ?_ | refine LoadsG.mkG ?_ | refine AtG.mkG ?_ | refine StoreG.mkG ?_ | refine CondG.mkG ?_ | fail); (all_goals (try dsimp only))
      refine he ?_ h hx
      rw [hall, List.drop_eq_nil_of_le (by rw [← hps.1]; omega)]
      rfl
theorem VMay_run (vr : VolR h vo wo p L k c ch br) {v : AV} {els : List (List AV)} {ps : List (Int × List UInt8)} (hr : Rd h 2 v els) (hps : PutsR h els ps) (hf : 65536 < fuel) (hK : ∀ h', Ext h h' → K (.bool (mayP L.length ps)) h') : s_wal_Volume_may cf fuel (.ptr vo 0) v h K := by
  unfold s_wal_Volume_may
  obtain ⟨_, e⟩ := vr.vol
  have hsm := vr.small
  have hb := hr.bound
  have hl := hps.1
  rw [rdLen hr]
  try dsimp only
  unfold mayP at hK
  by_cases hgt : els.length ≤ L.length
  · rw [decide_eq_true (by omega), Bool.true_and] at hK
    (try unfold vMov); repeat' (first | refine Step.imp ?_ | (refine Way.mk (fun hp => ?_) (fun hp => ?_) <;> first | contradiction | (exfalso; omega) | skip) | refine LoadG.mkG ?_ | refine LoadsG.mkG ?_ | refine AtG.mkG ?_ | refine StoreG.mkG ?_ | refine CondG.mkG ?_ | (refine LoadG.mk e (by rfl) ?_) | fail); (all_goals (try dsimp only))
    rw [rdLen hr]
    try dsimp only
    refine mayL1_run cf fuel (h0 := h) vr hr hps _ (by omega) (fun q h' x => ?_) (fun q h' x => ?_) els.length 0 fuel h (by omega) (by omega) (Ext.refl h) rfl
    · unfold s_wal_Volume_mayE0
      have := hK h' x
      rw [q] at this
      exact this
    · have := hK h' x
      rw [q] at this
      exact this
  · rw [decide_eq_false (by omega), Bool.false_and] at hK
    (try unfold vMov); repeat' (first | refine Step.imp ?_ | (refine Way.mk (fun hp => ?_) (fun hp => ?_) <;> first | contradiction | (exfalso; omega) | skip) | refine LoadG.mkG ?_ | refine LoadsG.mkG ?_ | refine AtG.mkG ?_ | refine StoreG.mkG ?_ | refine CondG.mkG ?_ | (refine LoadG.mk e (by rfl) ?_) | fail); (all_goals (try dsimp only))
    exact hK h (Ext.refl h)
end
end Lg

namespace Lg
set_option linter.unusedSimpArgs false
set_option linter.unusedVariables false
set_option maxRecDepth 100000
open Go Go.Am
open Go.Proofs.Ytnhamanffojhfaa.shl
/-- Where a slice's row may lie. -/
def SlP (Q : Nat → Prop) (x : AV) : Prop := ∀ o off n kn c, x = .slice o off n kn c → Q o
theorem Rd.sameQ {h h' : Hp} {esz : Nat} {v : AV} {els : List (List AV)} (hr : Rd h esz v els) {Q : Nat → Prop} (hq : SlP Q v) (hn : h.next ≤ h'.next) (hs : ∀ o, o < h.next → Q o → h'.at o = h.at o) : Rd h' esz v els := by
  rcases hr with ⟨rfl, rfl⟩ | ⟨o, rfl, rfl⟩ | ⟨o, off, kn, c, e, rfl, ho, hat, rest⟩
  · exact .inl ⟨rfl, rfl⟩
  · exact .inr (.inl ⟨o, rfl, rfl⟩)
  · exact .inr (.inr ⟨o, off, kn, c, e, rfl, Nat.lt_of_lt_of_le ho hn, by rw [hs o ho (hq _ _ _ _ _ rfl)]; exact hat, rest⟩)
theorem PutsR.kp {h h' : Hp} {els : List (List AV)} {ps : List (Int × List UInt8)} (r : PutsR h els ps) {p q : Nat} (k : Kp h h' p q) (hp : RowAt h p) (hq : RowAt h q) : PutsR h' els ps := ⟨r.1, fun j h1 h2 => by
  obtain ⟨d, a, b⟩ := r.2 j h1 h2
  exact ⟨d, a, b.kp k hp hq⟩⟩
def putsF (L : List (List UInt8)) (ps : List (Int × List UInt8)) : List (List UInt8) := ps.foldl (fun L p => L.set p.1.toNat p.2) L
theorem putsF_len : ∀ (ps : List (Int × List UInt8)) (L : List (List UInt8)), (putsF L ps).length = L.length
  | [], L => rfl
  | p :: ps, L => by
    show (putsF (L.set p.1.toNat p.2) ps).length = _
    rw [putsF_len ps, List.length_set]
theorem putsF_snoc (L : List (List UInt8)) (ps : List (Int × List UInt8)) {i : Nat} (hi : i < ps.length) : putsF L (ps.take (i + 1)) = (putsF L (ps.take i)).set ps[i].1.toNat ps[i].2 := by
  unfold putsF
  rw [List.take_add_one, List.getElem?_eq_getElem hi]
  simp only [Option.toList_some, List.foldl_append, List.foldl_cons, List.foldl_nil]
/-- One block changed. -/
theorem BlkR.set {h h' : Hp} {wo : Nat} {L : List (List UInt8)} (v : BlkR h wo L) (hn : h'.next = h.next) (hs : ∀ o, o ≠ wo → h'.at o = h.at o) {ob ob' : AObj} {cs : List AV} {esz : Nat} {b : Bool} (e0 : h.at wo = some ⟨b, esz, ob⟩) (c0 : Cells ob cs) {i : Nat} {d : AV} {l : List UInt8} (hi : i < L.length) (he : h'.at wo = some ⟨true, 1, ob'⟩) (hc : Cells ob' (setL cs i [d])) (hd : ByH h d l) (hl : l.length = 512) : BlkR h' wo (L.set i l) := by
  have rw0 := v.row
  obtain ⟨w, ob2, cs2, e1, e2, e3, e4⟩ := v
  rw [e1] at e0
  cases e0
  have hcs : cs2 = cs := by
    refine List.ext_getElem? fun j => ?_
    rw [← e2.2.2, ← c0.2.2]
  subst hcs
  have hk : ∀ a l, ByH h a l → ByH h' a l := fun a l q => q.same (by omega) fun o off n kn c e ho => hs o (q.row_ne rw0 e)
  refine ⟨by rw [hn]; exact w, ob', _, he, hc, by rw [setL_length _ _ _ (by simp only [List.length_singleton]; omega), List.length_set]; exact e3, fun j hj => ?_⟩
  have hj' : j < L.length := by simpa using hj
  rw [getElem?_setL _ _ _ _ (by omega), List.getElem_set]
  by_cases hij : i = j
  · subst hij
    rw [if_pos rfl, if_pos rfl]
    exact ⟨d, rfl, hk _ _ hd, hl⟩
  · rw [if_neg (fun e => hij e.symm), if_neg hij]
    obtain ⟨a, q1, q2, q3⟩ := e4 j hj'
    exact ⟨a, q1, hk _ _ q2, q3⟩
section
variable (cf : CallK) (fuel : Nat) {h : Hp} {K : AV → Hp → Prop} {vo wo p q : Nat} {L N E : List (List UInt8)} {k c : Nat} {ch br : Bool}
theorem CommitL2_run (hC : cf 61 = cClone) {h0 : Hp} {v : AV} {els : List (List AV)} {ps : List (Int × List UInt8)} (vr0 : VolR h0 vo wo p L k c ch false) (hr : Rd h0 2 v els) (hps : PutsR h0 els ps) (hq : SlP (fun o => o ≠ vo ∧ o ≠ wo) v) (hsm : els.length ≤ 65536) (hok : ps.all (okP L.length) = true) (e0 : Hp → Prop)
    (he : ∀ h', Kp h0 h' vo wo → VolR h' vo wo p (putsF L ps) k c ch false → e0 h') :
    ∀ (d i fm : Nat) (h : Hp), i + d = els.length → d < fm → Kp h0 h vo wo → VolR h vo wo p (putsF L (ps.take i)) k c ch false → s_wal_Volume_CommitL2 cf fuel e0 (.ptr vo 0) v (I els.length) fm (I i) h
  | d, i, fm, h, hk, hm, kp, vr => by
    obtain ⟨fm, rfl⟩ : ∃ j, fm = j + 1 := ⟨fm - 1, by omega⟩
    rw [s_wal_Volume_CommitL2_succ]
    unfold s_wal_Volume_CommitL2B
    by_cases hi : i < els.length
    · obtain ⟨d, rfl⟩ : ∃ j, d = j + 1 := ⟨d - 1, by omega⟩
      have e1 : ((i : Int) + 1) = ((i + 1 : Nat) : Int) := by omega
      have hi2 : i < ps.length := by rw [← hps.1]; exact hi
      obtain ⟨rv, rw'⟩ := vr0.rows
      have hrh : Rd h 2 v els := hr.sameQ hq kp.1 fun o ho q => kp.2 o ho q.1 q.2
      obtain ⟨o, off, kn, c', e, rfl, hat, hc⟩ := hrh.openS hi
      have ci := hc i hi
      obtain ⟨dv, hcs, hd⟩ := (hps.kp kp rv rw').2 i hi hi2
      rw [hcs] at ci
      have cd := hd.cellB
      obtain ⟨w1, ev⟩ := vr.vol
      have hsml := vr.small
      have hlen := putsF_len (ps.take i) L
      have okI : okP L.length ps[i] = true := List.all_eq_true.1 hok _ (List.getElem_mem hi2)
      unfold okP at okI
      simp only [Bool.and_eq_true, decide_eq_true_eq] at okI
      obtain ⟨o1, o2, o3⟩ := okI
      obtain ⟨b, hb⟩ := Int.eq_ofNat_of_zero_le o1
      have hbl : b < L.length := by omega
      rw [hb] at ci
      rw [hlen] at ev
      (try unfold vMov); repeat' (first | refine Step.imp ?_ | (refine Way.mk (fun hp => ?_) (fun hp => ?_) <;> first | contradiction | (exfalso; omega) | skip) | refine LoadG.mkG ?_ | refine LoadsG.mkG ?_ | refine AtG.mkG ?_ | refine StoreG.mkG ?_ | refine CondG.mkG ?_ | fail); (all_goals (try dsimp only))
      unfold s_wal_Volume_CommitB4
      (try unfold vMov); repeat' (first | refine Step.imp ?_ | (refine Way.mk (fun hp => ?_) (fun hp => ?_) <;> first | contradiction | (exfalso; omega) | skip) | refine LoadG.mkG ?_ | refine LoadsG.mkG ?_ | refine AtG.mkG ?_ | refine StoreG.mkG ?_ | refine CondG.mkG ?_ | (refine LoadsG.mk2 hat ci (by omega) ?_) | (refine LoadG.mk (by rw [Hp.at_put_ne _ (by omega), Hp.at_new_lt _ (by omega)]; exact ev) (by rfl) ?_) | fail); (all_goals (try dsimp only))
      refine cClone_go hC (hd.mono (by repeat (first | exact Ext.refl _ | assumption | apply Ext.new | (refine Ext.put ?_ _ (by first | omega | (simp; done) | (simp; omega)))))) (fun v' h1 x1 y1 z1 => ?_)
      have xh : Ext h h1 := Ext.trans (by repeat (first | exact Ext.refl _ | assumption | apply Ext.new | (refine Ext.put ?_ _ (by first | omega | (simp; done) | (simp; omega))))) x1
      have vr1 := vr.ext xh
      have ebx : h1.at h.next = some ⟨true, 2, .row [I (b : Int), dv]⟩ := by
        rw [x1.same h.next (by simp only [Hp.next_put, Hp.next_new]; omega), Hp.at_put_self]
        rfl
      have ev1 : h1.at vo = some _ := (xh.same vo w1).trans ev
      have br1 := vr1.row
      obtain ⟨wl, ob, cs, r1, r2, r3, r4⟩ := vr1.row
      have cv := y1.cellB
      rw [hlen] at r3
      (try unfold vMov); repeat' (first | refine Step.imp ?_ | (refine Way.mk (fun hp => ?_) (fun hp => ?_) <;> first | contradiction | (exfalso; omega) | skip) | refine LoadG.mkG ?_ | refine LoadsG.mkG ?_ | refine AtG.mkG ?_ | refine StoreG.mkG ?_ | refine CondG.mkG ?_ | (refine LoadG.mk ev1 (by rfl) ?_) | (refine LoadG.mk ebx (by rfl) ?_) | (refine stStore_aux _ _ _ _ _ cv ?_) | (refine StoreG.mkC2 (off := b) r1 r2 (by omega) ⟨rfl, by simp only [List.length_singleton]; omega⟩ (fun ob2 c2 => ?_)) | fail); (all_goals (try dsimp only))
      rw [e1]
      have hs : ∀ (e2 : Option Ent) (o : Nat), o ≠ wo → (h1.put wo e2).at o = h1.at o := fun e2 o ho => Hp.at_put_ne _ ho
      refine CommitL2_run hC vr0 hr hps hq hsm hok e0 he d (i + 1) fm _ (by omega) (by omega) ⟨?_, fun o2 q1 q2 q3 => ?_⟩ ⟨vr.ne, by rw [putsF_len]; exact vr0.small, ⟨?_, ?_⟩, ?_⟩
      · simp only [Hp.next_put]
        exact Nat.le_trans kp.1 xh.next
      · rw [hs _ o2 q3, xh.same o2 (Nat.lt_of_lt_of_le q1 kp.1), kp.2 o2 q1 q2 q3]
      · simp only [Hp.next_put]
        exact Nat.lt_of_lt_of_le w1 xh.next
      · rw [hs _ vo vr.ne, ev1, putsF_len]
      · rw [putsF_snoc _ _ hi2, hb]
        exact br1.set (by simp only [Hp.next_put]) (hs _) r1 r2 (by omega) (Hp.at_put_self _ _ _) c2 y1 o3
    · have hd : d = 0 := by omega
      subst hd
      (try unfold vMov); repeat' (first | refine Step.imp ?_ | (refine Way.mk (fun hp => ?_) (fun hp => ?_) <;> first | contradiction | (exfalso; omega) | skip) | refine LoadG.mkG ?_ | refine LoadsG.mkG ?_ | refine AtG.mkG ?_ | refine StoreG.mkG ?_ | refine CondG.mkG ?_ | fail); (all_goals (try dsimp only))
      refine he h kp ?_
      rw [List.take_of_length_le (by rw [← hps.1]; omega)] at vr
      exact vr
def cVCommit : ConD := fun args h K => ∃ vo wo p q L N E k c ch v els ps, args = [.ptr vo 0, v] ∧ VolR h vo wo p L k c ch false ∧ DevN h p q N E ∧ (vo ≠ p ∧ vo ≠ q) ∧ Rd h 2 v els ∧ PutsR h els ps ∧ SlP (fun o => o ≠ vo ∧ o ≠ wo) v ∧ c ≤ 1000000 ∧ (mayP L.length ps = false → ∀ h', Ext h h' → K (I 22) h') ∧ (mayP L.length ps = true → ps = [] → ∀ h', Ext h h' → K (I 0) h')
  ∧ (mayP L.length ps = true → ps ≠ [] → ∀ h', Kp h h' vo wo → VolR h' vo wo p (putsF L ps) k (c + 1) true false → K (I 0) h')
theorem cVCommit_go {cf : CallK} {g : FuncId} (hg : cf g = cVCommit) (vr : VolR h vo wo p L k c ch false) (dv : DevN h p q N E) (hn : vo ≠ p ∧ vo ≠ q) {v : AV} {els : List (List AV)} {ps : List (Int × List UInt8)} (hr : Rd h 2 v els) (hps : PutsR h els ps) (hq : SlP (fun o => o ≠ vo ∧ o ≠ wo) v) (hc : c ≤ 1000000) (h1 : mayP L.length ps = false → ∀ h', Ext h h' → K (I 22) h') (h2 : mayP L.length ps = true → ps = [] → ∀ h', Ext h h' → K (I 0) h')
    (h3 : mayP L.length ps = true → ps ≠ [] → ∀ h', Kp h h' vo wo → VolR h' vo wo p (putsF L ps) k (c + 1) true false → K (I 0) h') : cf g [.ptr vo 0, v] h K := by rw [hg]; exact ⟨vo, wo, p, q, L, N, E, k, c, ch, v, els, ps, rfl, vr, dv, hn, hr, hps, hq, hc, h1, h2, h3⟩
theorem VCommit_run (hM : cf 96 = cVMay) (hD : cf 90 = cVDead) (hC : cf 61 = cClone) (vr : VolR h vo wo p L k c ch false) (dv : DevN h p q N E) (hn : vo ≠ p ∧ vo ≠ q) {v : AV} {els : List (List AV)} {ps : List (Int × List UInt8)} (hr : Rd h 2 v els) (hps : PutsR h els ps) (hq : SlP (fun o => o ≠ vo ∧ o ≠ wo) v) (hc : c ≤ 1000000) (hf : 65536 < fuel)
    (h1 : mayP L.length ps = false → ∀ h', Ext h h' → K (I 22) h') (h2 : mayP L.length ps = true → ps = [] → ∀ h', Ext h h' → K (I 0) h') (h3 : mayP L.length ps = true → ps ≠ [] → ∀ h', Kp h h' vo wo → VolR h' vo wo p (putsF L ps) k (c + 1) true false → K (I 0) h') : s_wal_Volume_Commit cf fuel (.ptr vo 0) v h K := by
  unfold s_wal_Volume_Commit
  have hsm := vr.small
  have hl := hps.1
  (try unfold vMov); repeat' (first | refine Step.imp ?_ | (refine Way.mk (fun hp => ?_) (fun hp => ?_) <;> first | contradiction | (exfalso; omega) | skip) | refine LoadG.mkG ?_ | refine LoadsG.mkG ?_ | refine AtG.mkG ?_ | refine StoreG.mkG ?_ | refine CondG.mkG ?_ | fail); (all_goals (try dsimp only))
  refine cVMay_go hM vr hr hps (fun hA xA => ?_)
  cases hmay : mayP L.length ps with
  | false =>
    (try unfold vMov); repeat' (first | refine Step.imp ?_ | (refine Way.mk (fun hp => ?_) (fun hp => ?_) <;> first | contradiction | (exfalso; omega) | skip) | refine LoadG.mkG ?_ | refine LoadsG.mkG ?_ | refine AtG.mkG ?_ | refine StoreG.mkG ?_ | refine CondG.mkG ?_ | fail); (all_goals (try dsimp only))
    exact h1 hmay hA xA
  | true =>
    have hmay' := hmay
    unfold mayP at hmay'
    rw [Bool.and_eq_true, decide_eq_true_eq] at hmay'
    (try unfold vMov); repeat' (first | refine Step.imp ?_ | (refine Way.mk (fun hp => ?_) (fun hp => ?_) <;> first | contradiction | (exfalso; omega) | skip) | refine LoadG.mkG ?_ | refine LoadsG.mkG ?_ | refine AtG.mkG ?_ | refine StoreG.mkG ?_ | refine CondG.mkG ?_ | fail); (all_goals (try dsimp only))
    rw [rdLen hr]
    try dsimp only
    by_cases hz : ps = []
    · have : els.length = 0 := by rw [hl, hz]; rfl
      (try unfold vMov); repeat' (first | refine Step.imp ?_ | (refine Way.mk (fun hp => ?_) (fun hp => ?_) <;> first | contradiction | (exfalso; omega) | skip) | refine LoadG.mkG ?_ | refine LoadsG.mkG ?_ | refine AtG.mkG ?_ | refine StoreG.mkG ?_ | refine CondG.mkG ?_ | fail); (all_goals (try dsimp only))
      exact h2 hmay hz hA xA
    · have hpos : 0 < ps.length := List.length_pos_iff.2 hz
      (try unfold vMov); repeat' (first | refine Step.imp ?_ | (refine Way.mk (fun hp => ?_) (fun hp => ?_) <;> first | contradiction | (exfalso; omega) | skip) | refine LoadG.mkG ?_ | refine LoadsG.mkG ?_ | refine AtG.mkG ?_ | refine StoreG.mkG ?_ | refine CondG.mkG ?_ | fail); (all_goals (try dsimp only))
      refine cVDead_go hD (vr.ext xA) (dv.ext xA) hn (fun hB n1 s1 => ?_)
      have xB : Ext h hB := xA.trans ⟨by omega, fun o _ => s1 o⟩
      (try unfold vMov); repeat' (first | refine Step.imp ?_ | (refine Way.mk (fun hp => ?_) (fun hp => ?_) <;> first | contradiction | (exfalso; omega) | skip) | refine LoadG.mkG ?_ | refine LoadsG.mkG ?_ | refine AtG.mkG ?_ | refine StoreG.mkG ?_ | refine CondG.mkG ?_ | fail); (all_goals (try dsimp only))
      rw [rdLen hr]
      try dsimp only
      refine CommitL2_run cf fuel hC (h0 := hB) (vr.ext xB) (hr.mono xB) (hps.mono xB) hq (by omega) hmay'.2 _ (fun hD kD vD => ?_) els.length 0 fuel hB (by omega) (by omega) ⟨Nat.le_refl _, fun _ _ _ _ => rfl⟩ (vr.ext xB)
      unfold s_wal_Volume_CommitE1
      obtain ⟨w1, ev⟩ := vD.vol
      rw [putsF_len] at ev
      (try unfold vMov); repeat' (first | refine Step.imp ?_ | (refine Way.mk (fun hp => ?_) (fun hp => ?_) <;> first | contradiction | (exfalso; omega) | skip) | refine LoadG.mkG ?_ | refine LoadsG.mkG ?_ | refine AtG.mkG ?_ | refine StoreG.mkG ?_ | refine CondG.mkG ?_ | (refine LoadG.mk ev (by rfl) ?_) | (refine StoreG.mk ev (by first | omega | (simp; done) | (simp; omega)) ?_) | fail); (all_goals (try dsimp only))
      have hs : ∀ (e1 e2 : Option Ent) (o : Nat), o ≠ vo → ((hD.put vo e1).put vo e2).at o = hD.at o := fun e1 e2 o ho => by rw [Hp.at_put_ne _ ho, Hp.at_put_ne _ ho]
      have hk : ∀ (e1 e2 : Option Ent), Kp hD ((hD.put vo e1).put vo e2) vo wo := fun e1 e2 => ⟨Nat.le_refl _, fun o _ q2 _ => hs _ _ o q2⟩
      refine h3 hmay hz _ (((Kp.ext vo wo xB).trans kD).trans (hk _ _)) ⟨vD.ne, vD.small, ⟨by simp only [Hp.next_put]; exact w1, ?_⟩, ?_⟩
      · rw [Hp.at_put_self, putsF_len]
        rfl
      · refine vD.row.same (by simp only [Hp.next_put]; omega) (fun o _ w => hs _ _ o ?_)
        rintro rfl
        rcases w with rfl | w
        · exact vD.ne rfl
        · exact w vD.vol.row
end
end Lg

namespace Lg
set_option linter.unusedSimpArgs false
set_option linter.unusedVariables false
set_option maxRecDepth 100000
open Go Go.Am
open Go.Proofs.Ytnhamanffojhfaa.shl
/-- Where a volume's block lies. -/
def placeN (n k i : Nat) : Nat := 8 + k % 2 * n + i
/-- Blocks written one behind the other. -/
def wrN (N : List (List UInt8)) (b : Nat) (L : List (List UInt8)) : Nat → List (List UInt8)
  | 0 => N
  | i + 1 => (wrN N b L i).set (b + i) (L[i]?.getD [])
theorem wrN_len (N : List (List UInt8)) (b : Nat) (L : List (List UInt8)) : ∀ i, (wrN N b L i).length = N.length
  | 0 => rfl
  | i + 1 => by
    show ((wrN N b L i).set _ _).length = _
    rw [List.length_set, wrN_len]
theorem wrN_get (N : List (List UInt8)) (b : Nat) (L : List (List UInt8)) : ∀ i, i ≤ L.length → b + L.length ≤ N.length → ∀ j, (wrN N b L i)[j]? = if b ≤ j ∧ j < b + i then L[j - b]? else N[j]?
  | 0, _, _, j => by rw [if_neg (by omega)]; rfl
  | i + 1, h1, h2, j => by
    show ((wrN N b L i).set (b + i) (L[i]?.getD []))[j]? = _
    have hl := wrN_len N b L i
    rw [List.getElem?_set, wrN_get N b L i (by omega) h2 j]
    by_cases hij : b + i = j
    · subst hij
      rw [if_pos rfl, if_pos (by omega), if_pos (by omega), show b + i - b = i by omega, List.getElem?_eq_getElem (by omega : i < L.length)]
      rfl
    · rw [if_neg hij]
      by_cases hr : b ≤ j ∧ j < b + i
      · rw [if_pos hr, if_pos (by omega)]
      · rw [if_neg hr, if_neg (by omega)]
/-- .. some rows changed. -/
def Kt (h h' : Hp) (Q : Nat → Prop) : Prop := h.next ≤ h'.next ∧ ∀ o, o < h.next → ¬ Q o → h'.at o = h.at o
theorem Kp.kt {h h' : Hp} {p q : Nat} (k : Kp h h' p q) {Q : Nat → Prop} (hp : Q p) (hq : Q q) : Kt h h' Q := ⟨k.1, fun o ho hn => k.2 o ho (by rintro rfl; exact hn hp) (by rintro rfl; exact hn hq)⟩
theorem Kt.trans {h h' h'' : Hp} {Q : Nat → Prop} (a : Kt h h' Q) (b : Kt h' h'' Q) : Kt h h'' Q := ⟨Nat.le_trans a.1 b.1, fun o q1 q2 => by rw [b.2 o (Nat.lt_of_lt_of_le q1 a.1) q2, a.2 o q1 q2]⟩
theorem Kt.refl (h : Hp) (Q : Nat → Prop) : Kt h h Q := ⟨Nat.le_refl _, fun _ _ _ => rfl⟩
section
variable (cf : CallK) (fuel : Nat) {h : Hp} {K : AV → Hp → Prop} {vo wo p q : Nat} {L N E : List (List UInt8)} {k c : Nat} {ch br : Bool}
def cVAt : ConD := fun args h K => ∃ vo wo p n, ∃ k' c' : Int, ∃ ch br, ∃ k i : Nat, args = [.ptr vo 0, I k, I i] ∧ VolW h vo p (.slice wo 0 n true n) k' c' ch br ∧ n ≤ 65536 ∧ k ≤ 1000000 ∧ i ≤ 65536 ∧ K (I (placeN n k i)) h
theorem cVAt_go {cf : CallK} {g : FuncId} (hg : cf g = cVAt) {n k i : Nat} {k' c' : Int} (v : VolW h vo p (.slice wo 0 n true n) k' c' ch br) (hn : n ≤ 65536) (hk : k ≤ 1000000) (hi : i ≤ 65536) (hK : K (I (placeN n k i)) h) : cf g [.ptr vo 0, I k, I i] h K := by rw [hg]; exact ⟨vo, wo, p, n, k', c', ch, br, k, i, rfl, v, hn, hk, hi, hK⟩
theorem VAt_run {n k i : Nat} {k' c' : Int} (v : VolW h vo p (.slice wo 0 n true n) k' c' ch br) (hn : n ≤ 65536) (hk : k ≤ 1000000) (hi : i ≤ 65536) (hK : K (I (placeN n k i)) h) : s_wal_Volume_at cf fuel (.ptr vo 0) (I k) (I i) h K := by
  unfold s_wal_Volume_at
  obtain ⟨_, e⟩ := v
  rw [vRem_int _ _ _ (by omega), Int.tmod_eq_emod_of_nonneg (by omega)]
  unfold placeN at hK
  rcases Nat.mod_two_eq_zero_or_one k with h2 | h2
  · have e2 : ((k : Int) % 2) = 0 := by omega
    rw [e2]
    rw [h2] at hK
    have e3 : (((8 + 0 * n + i : Nat)) : Int) = 8 + 0 * (n : Int) + (i : Int) := by omega
    rw [e3] at hK
    (try unfold vMov); repeat' (first | refine Step.imp ?_ | (refine Way.mk (fun hp => ?_) (fun hp => ?_) <;> first | contradiction | (exfalso; omega) | skip) | refine LoadG.mkG ?_ | refine LoadsG.mkG ?_ | refine AtG.mkG ?_ | refine StoreG.mkG ?_ | refine CondG.mkG ?_ | (refine LoadG.mk e (by rfl) ?_) | ((rw [vMul_int, wrap64_in (by omega) (by omega)])) | fail); (all_goals (try dsimp only))
    exact hK
  · have e2 : ((k : Int) % 2) = 1 := by omega
    rw [e2]
    rw [h2] at hK
    have e3 : (((8 + 1 * n + i : Nat)) : Int) = 8 + 1 * (n : Int) + (i : Int) := by omega
    rw [e3] at hK
    (try unfold vMov); repeat' (first | refine Step.imp ?_ | (refine Way.mk (fun hp => ?_) (fun hp => ?_) <;> first | contradiction | (exfalso; omega) | skip) | refine LoadG.mkG ?_ | refine LoadsG.mkG ?_ | refine AtG.mkG ?_ | refine StoreG.mkG ?_ | refine CondG.mkG ?_ | (refine LoadG.mk e (by rfl) ?_) | ((rw [vMul_int, wrap64_in (by omega) (by omega)])) | fail); (all_goals (try dsimp only))
    exact hK
theorem keepL2_run (hA : cf 129 = cVAt) (hW : cf 124 = cWrote) {h0 : Hp} {kn : Nat} (vr0 : VolR h0 vo wo p L k c ch br) (d0 : DevN h0 p q N E) (hn : (vo ≠ p ∧ vo ≠ q) ∧ wo ≠ p ∧ wo ≠ q) (hkn : kn ≤ 1000000) (hN : 8 + 2 * L.length ≤ N.length) (e0 : Hp → Prop)
    (he : ∀ h', Kp h0 h' p q → DevN h' p q (wrN N (placeN L.length kn 0) L L.length) E → e0 h') :
    ∀ (d i fm : Nat) (h : Hp), i + d = L.length → d < fm → Kp h0 h p q → DevN h p q (wrN N (placeN L.length kn 0) L i) E → s_wal_Volume_keepL2 cf fuel K e0 (.ptr vo 0) (I kn) (.slice wo 0 L.length true L.length) (I L.length) fm (I i) h
  | d, i, fm, h, hk, hm, kp, dv => by
    obtain ⟨fm, rfl⟩ : ∃ j, fm = j + 1 := ⟨fm - 1, by omega⟩
    rw [s_wal_Volume_keepL2_succ]
    unfold s_wal_Volume_keepL2B
    by_cases hi : i < L.length
    · obtain ⟨d, rfl⟩ : ∃ j, d = j + 1 := ⟨d - 1, by omega⟩
      have e1 : ((i : Int) + 1) = ((i + 1 : Nat) : Int) := by omega
      obtain ⟨rp, rq, _, _, _⟩ := d0.rows
      have vr := vr0.kp kp rp rq hn.1 hn.2
      have hsm := vr.small
      obtain ⟨w1, ev⟩ := vr.vol
      have vw := vr.vol
      obtain ⟨w2, ob, cs, r1, r2, r3, r4⟩ := vr.row
      obtain ⟨a, q1, q2, q3⟩ := r4 i hi
      have c0 : cellAt ob i = some a := by rw [r2.2.2]; exact q1
      have hpl : placeN L.length kn i = placeN L.length kn 0 + i := by unfold placeN; omega
      have hlt : placeN L.length kn i < (wrN N (placeN L.length kn 0) L i).length := by
        rw [wrN_len]
        unfold placeN
        have := Nat.mod_lt kn (by omega : 0 < 2)
        rcases Nat.mod_two_eq_zero_or_one kn with h2 | h2 <;> rw [h2] <;> omega
      (try unfold vMov); repeat' (first | refine Step.imp ?_ | (refine Way.mk (fun hp => ?_) (fun hp => ?_) <;> first | contradiction | (exfalso; omega) | skip) | refine LoadG.mkG ?_ | refine LoadsG.mkG ?_ | refine AtG.mkG ?_ | refine StoreG.mkG ?_ | refine CondG.mkG ?_ | fail); (all_goals (try dsimp only))
      unfold s_wal_Volume_keepB4
      (try unfold vMov); repeat' (first | refine Step.imp ?_ | (refine Way.mk (fun hp => ?_) (fun hp => ?_) <;> first | contradiction | (exfalso; omega) | skip) | refine LoadG.mkG ?_ | refine LoadsG.mkG ?_ | refine AtG.mkG ?_ | refine StoreG.mkG ?_ | refine CondG.mkG ?_ | (refine LoadG.mk2 r1 c0 (by omega) ?_) | (refine LoadG.mk ev (by rfl) ?_) | (refine cVAt_go hA vw hsm hkn (by omega) ?_) | fail); (all_goals (try dsimp only))
      refine cWrote_go hW dv hlt q2 q3 (fun h1 k1 d1 => ?_)
      (try unfold vMov); repeat' (first | refine Step.imp ?_ | (refine Way.mk (fun hp => ?_) (fun hp => ?_) <;> first | contradiction | (exfalso; omega) | skip) | refine LoadG.mkG ?_ | refine LoadsG.mkG ?_ | refine AtG.mkG ?_ | refine StoreG.mkG ?_ | refine CondG.mkG ?_ | fail); (all_goals (try dsimp only))
      rw [e1]
      refine keepL2_run hA hW vr0 d0 hn hkn hN e0 he d (i + 1) fm h1 (by omega) (by omega) (kp.trans k1) ?_
      show DevN h1 p q ((wrN N (placeN L.length kn 0) L i).set (placeN L.length kn 0 + i) (L[i]?.getD [])) E
      rw [List.getElem?_eq_getElem hi, ← hpl]
      exact d1
    · have hd : d = 0 := by omega
      subst hd
      (try unfold vMov); repeat' (first | refine Step.imp ?_ | (refine Way.mk (fun hp => ?_) (fun hp => ?_) <;> first | contradiction | (exfalso; omega) | skip) | refine LoadG.mkG ?_ | refine LoadsG.mkG ?_ | refine AtG.mkG ?_ | refine StoreG.mkG ?_ | refine CondG.mkG ?_ | fail); (all_goals (try dsimp only))
      refine he h kp ?_
      have : i = L.length := by omega
      rw [this] at dv
      exact dv
end
end Lg

namespace Lg
set_option linter.unusedSimpArgs false
set_option linter.unusedVariables false
set_option maxRecDepth 100000
open Go Go.Am
open Go.Proofs.Ytnhamanffojhfaa.shl
/-! ### checksums -/
def crcStepN (x : Nat) : Nat := (x >>> 1) ^^^ (3988292384 &&& ((4294967296 - (x &&& 1)) % 4294967296))
def nibN (i : Nat) : Nat := crcStepN (crcStepN (crcStepN (crcStepN i)))
def crcHalf (x : Nat) : Nat := (x >>> 4) ^^^ nibN (x &&& 15)
def crcByte (x : Nat) (b : UInt8) : Nat := crcHalf (crcHalf (x ^^^ b.toNat))
def crcF (l : List UInt8) : Nat := 4294967295 ^^^ l.foldl crcByte 4294967295
def le64 (k : Nat) : List UInt8 := (List.range 8).map fun j => UInt8.ofNat (k >>> (8 * j))
def le32 (k : Nat) : List UInt8 := (List.range 4).map fun j => UInt8.ofNat (k >>> (8 * j))
def magicB : List UInt8 := [108, 97, 103, 111, 111, 110, 39, 115, 32, 118, 111, 108, 117, 109, 101, 10]
def headP (k c : Nat) : List UInt8 := magicB ++ le64 k ++ le64 c
def headB (k c : Nat) : List UInt8 := headP k c ++ le32 (crcF (headP k c)) ++ List.replicate 476 0
theorem headB_len (k c : Nat) : (headB k c).length = 512 := by simp [headB, headP, magicB, le64, le32]
/-- The device's blocks behind a keep. -/
def keptN (N : List (List UInt8)) (L : List (List UInt8)) (k c : Nat) : List (List UInt8) := (wrN N (placeN L.length (k + 1) 0) L L.length).set ((k + 1) % 2) (headB (k + 1) c)
theorem keptN_len (N L : List (List UInt8)) (k c : Nat) : (keptN N L k c).length = N.length := by unfold keptN; rw [List.length_set, wrN_len]
section
variable (cf : CallK) (fuel : Nat) {h : Hp} {K : AV → Hp → Prop} {vo wo p q : Nat} {L N E : List (List UInt8)} {k c : Nat} {ch br : Bool}
def cHead : ConD := fun args h K => ∃ k c : Nat, args = [I k, I c] ∧ (k ≤ 1000000 ∧ c ≤ 1000000) ∧ ∀ v' h', Ext h h' → ByH h' v' (headB k c) → K v' h'
theorem cHead_go {cf : CallK} {g : FuncId} (hg : cf g = cHead) (hk : k ≤ 1000000 ∧ c ≤ 1000000) (hK : ∀ v' h', Ext h h' → ByH h' v' (headB k c) → K v' h') : cf g [I k, I c] h K := by rw [hg]; exact ⟨k, c, rfl, hk, hK⟩
/-- The volume's own row changed. -/
theorem VolR.own {h h' : Hp} {k' c' : Nat} {ch' br' : Bool} (v : VolR h vo wo p L k c ch br) (hn : h'.next = h.next) (hs : ∀ o, o ≠ vo → h'.at o = h.at o) (he : h'.at vo = some ⟨true, 6, .row [.ptr p 0, .slice wo 0 L.length true L.length, I k', I c', .bool ch', .bool br']⟩) : VolR h' vo wo p L k' c' ch' br' :=
  ⟨v.ne, v.small, ⟨by rw [hn]; exact v.vol.1, he⟩, v.row.same (by omega) fun o _ w => hs o (by rintro rfl; rcases w with rfl | w; exact v.ne rfl; exact w v.vol.row)⟩
theorem DevN.kt {h h' : Hp} {N E : List (List UInt8)} (d : DevN h p q N E) (hn : h'.next = h.next) (hr : RowAt h vo) (n : vo ≠ p ∧ vo ≠ q) (hs : ∀ o, o ≠ vo → h'.at o = h.at o) : DevN h' p q N E :=
  d.kp (p2 := vo) (q2 := vo) ⟨by omega, fun o _ q2 _ => hs o q2⟩ hr hr ⟨fun e => n.1 e.symm, fun e => n.1 e.symm⟩ ⟨fun e => n.2 e.symm, fun e => n.2 e.symm⟩
def cVKeep : ConD := fun args h K => ∃ vo wo p q L N E k c ch, args = [.ptr vo 0] ∧ VolR h vo wo p L k c ch false ∧ DevN h p q N E ∧ ((vo ≠ p ∧ vo ≠ q) ∧ wo ≠ p ∧ wo ≠ q) ∧ (k < 1000000 ∧ c ≤ 1000000) ∧ 8 + 2 * L.length ≤ N.length ∧
  ∀ h', Kt h h' (fun o => o = p ∨ o = q ∨ o = vo) → VolR h' vo wo p L (k + 1) c ch false → DevN h' p q (keptN N L k c) (keptN N L k c) → K (I 0) h'
theorem cVKeep_go {cf : CallK} {g : FuncId} (hg : cf g = cVKeep) (v : VolR h vo wo p L k c ch false) (d : DevN h p q N E) (n : (vo ≠ p ∧ vo ≠ q) ∧ wo ≠ p ∧ wo ≠ q) (hk : k < 1000000 ∧ c ≤ 1000000) (hN : 8 + 2 * L.length ≤ N.length)
    (hK : ∀ h', Kt h h' (fun o => o = p ∨ o = q ∨ o = vo) → VolR h' vo wo p L (k + 1) c ch false → DevN h' p q (keptN N L k c) (keptN N L k c) → K (I 0) h') : cf g [.ptr vo 0] h K := by rw [hg]; exact ⟨vo, wo, p, q, L, N, E, k, c, ch, rfl, v, d, n, hk, hN, hK⟩
theorem keep_run (hA : cf 129 = cVAt) (hW : cf 124 = cWrote) (hF : cf 125 = cFlush) (hWr : cf 126 = cWrite) (hH : cf 127 = cHead) (v : VolR h vo wo p L k c ch false) (d : DevN h p q N E) (n : (vo ≠ p ∧ vo ≠ q) ∧ wo ≠ p ∧ wo ≠ q) (hk : k < 1000000 ∧ c ≤ 1000000) (hN : 8 + 2 * L.length ≤ N.length) (hf : 65536 < fuel)
    (hK : ∀ h', Kt h h' (fun o => o = p ∨ o = q ∨ o = vo) → VolR h' vo wo p L (k + 1) c ch false → DevN h' p q (keptN N L k c) (keptN N L k c) → K (I 0) h') : s_wal_Volume_keep cf fuel (.ptr vo 0) h K := by
  unfold s_wal_Volume_keep
  obtain ⟨w1, ev⟩ := v.vol
  have hsm := v.small
  have e1 : ((k : Int) + 1) = ((k + 1 : Nat) : Int) := by omega
  (try unfold vMov); repeat' (first | refine Step.imp ?_ | (refine Way.mk (fun hp => ?_) (fun hp => ?_) <;> first | contradiction | (exfalso; omega) | skip) | refine LoadG.mkG ?_ | refine LoadsG.mkG ?_ | refine AtG.mkG ?_ | refine StoreG.mkG ?_ | refine CondG.mkG ?_ | (refine LoadG.mk ev (by rfl) ?_) | fail); (all_goals (try dsimp only))
  rw [e1]
  refine keepL2_run cf fuel hA hW (h0 := h) v d n (by omega) hN _ (fun hA1 kA dA => ?_) L.length 0 fuel h (by omega) (by omega) ⟨Nat.le_refl _, fun _ _ _ _ => rfl⟩ d
  obtain ⟨rp, rq, _, _, _⟩ := d.rows
  have vA := v.kp kA rp rq n.1 n.2
  obtain ⟨_, evA⟩ := vA.vol
  unfold s_wal_Volume_keepE0
  (try unfold vMov); repeat' (first | refine Step.imp ?_ | (refine Way.mk (fun hp => ?_) (fun hp => ?_) <;> first | contradiction | (exfalso; omega) | skip) | refine LoadG.mkG ?_ | refine LoadsG.mkG ?_ | refine AtG.mkG ?_ | refine StoreG.mkG ?_ | refine CondG.mkG ?_ | (refine LoadG.mk evA (by rfl) ?_) | fail); (all_goals (try dsimp only))
  refine flush_goN hF dA (fun hB kB dB => ?_)
  obtain ⟨rp1, rq1, _, _, _⟩ := dA.rows
  have vB := vA.kp kB rp1 rq1 n.1 n.2
  obtain ⟨_, evB⟩ := vB.vol
  (try unfold vMov); repeat' (first | refine Step.imp ?_ | (refine Way.mk (fun hp => ?_) (fun hp => ?_) <;> first | contradiction | (exfalso; omega) | skip) | refine LoadG.mkG ?_ | refine LoadsG.mkG ?_ | refine AtG.mkG ?_ | refine StoreG.mkG ?_ | refine CondG.mkG ?_ | fail); (all_goals (try dsimp only))
  unfold s_wal_Volume_keepB1
  (try unfold vMov); repeat' (first | refine Step.imp ?_ | (refine Way.mk (fun hp => ?_) (fun hp => ?_) <;> first | contradiction | (exfalso; omega) | skip) | refine LoadG.mkG ?_ | refine LoadsG.mkG ?_ | refine AtG.mkG ?_ | refine StoreG.mkG ?_ | refine CondG.mkG ?_ | (refine LoadG.mk evB (by rfl) ?_) | fail); (all_goals (try dsimp only))
  rw [vRem_int _ _ _ (by omega), Int.tmod_eq_emod_of_nonneg (by omega)]
  have e2 : (((k + 1 : Nat) : Int) % 2) = (((k + 1) % 2 : Nat) : Int) := by omega
  rw [e2]
  (try unfold vMov); repeat' (first | refine Step.imp ?_ | (refine Way.mk (fun hp => ?_) (fun hp => ?_) <;> first | contradiction | (exfalso; omega) | skip) | refine LoadG.mkG ?_ | refine LoadsG.mkG ?_ | refine AtG.mkG ?_ | refine StoreG.mkG ?_ | refine CondG.mkG ?_ | (refine LoadG.mk evB (by rfl) ?_) | fail); (all_goals (try dsimp only))
  refine cHead_go hH ⟨by omega, hk.2⟩ (fun v1 hC xC yC => ?_)
  have dC := dB.ext xC
  have vC := vB.ext xC
  obtain ⟨_, evC⟩ := vC.vol
  (try unfold vMov); repeat' (first | refine Step.imp ?_ | (refine Way.mk (fun hp => ?_) (fun hp => ?_) <;> first | contradiction | (exfalso; omega) | skip) | refine LoadG.mkG ?_ | refine LoadsG.mkG ?_ | refine AtG.mkG ?_ | refine StoreG.mkG ?_ | refine CondG.mkG ?_ | (refine LoadG.mk evC (by rfl) ?_) | fail); (all_goals (try dsimp only))
  refine write_goN hWr dC (by rw [wrN_len]; omega) yC (headB_len _ _) (fun hD kD dD => ?_)
  obtain ⟨rp2, rq2, _, _, _⟩ := dC.rows
  have vD := vC.kp kD rp2 rq2 n.1 n.2
  obtain ⟨_, evD⟩ := vD.vol
  (try unfold vMov); repeat' (first | refine Step.imp ?_ | (refine Way.mk (fun hp => ?_) (fun hp => ?_) <;> first | contradiction | (exfalso; omega) | skip) | refine LoadG.mkG ?_ | refine LoadsG.mkG ?_ | refine AtG.mkG ?_ | refine StoreG.mkG ?_ | refine CondG.mkG ?_ | (refine LoadG.mk evD (by rfl) ?_) | fail); (all_goals (try dsimp only))
  refine flush_goN hF dD (fun hE kE dE => ?_)
  obtain ⟨rp3, rq3, _, _, _⟩ := dD.rows
  have vE := vD.kp kE rp3 rq3 n.1 n.2
  obtain ⟨wE, evE⟩ := vE.vol
  (try unfold vMov); repeat' (first | refine Step.imp ?_ | (refine Way.mk (fun hp => ?_) (fun hp => ?_) <;> first | contradiction | (exfalso; omega) | skip) | refine LoadG.mkG ?_ | refine LoadsG.mkG ?_ | refine AtG.mkG ?_ | refine StoreG.mkG ?_ | refine CondG.mkG ?_ | (refine StoreG.mk evE (by first | omega | (simp; done) | (simp; omega)) ?_) | fail); (all_goals (try dsimp only))
  have hs : ∀ (e1 : Option Ent) (o : Nat), o ≠ vo → (hE.put vo e1).at o = hE.at o := fun e1 o ho => Hp.at_put_ne _ ho
  have hp1 : (fun o => o = p ∨ o = q ∨ o = vo) p := .inl rfl
  have hq1 : (fun o => o = p ∨ o = q ∨ o = vo) q := .inr (.inl rfl)
  have hv1 : (fun o => o = p ∨ o = q ∨ o = vo) vo := .inr (.inr rfl)
  have kall : Kt h hE (fun o => o = p ∨ o = q ∨ o = vo) := ((((kA.trans kB).trans (Kp.ext p q xC)).trans kD).trans kE).kt hp1 hq1
  have kput : ∀ e1 : Option Ent, Kt hE (hE.put vo e1) (fun o => o = p ∨ o = q ∨ o = vo) := fun e1 => ⟨Nat.le_refl _, fun o _ ho => hs e1 o (by rintro rfl; exact ho hv1)⟩
  refine hK _ (kall.trans (kput _)) (vE.own (by simp only [Hp.next_put]) (hs _) ?_) (dE.kt (vo := vo) (by simp only [Hp.next_put]) vE.vol.row n.1 (hs _))
  rw [Hp.at_put_self]
  rfl
def cVSync : ConD := fun args h K => ∃ vo wo p q L N E k c ch, args = [.ptr vo 0] ∧ VolR h vo wo p L k c ch false ∧ DevN h p q N E ∧ ((vo ≠ p ∧ vo ≠ q) ∧ wo ≠ p ∧ wo ≠ q) ∧ (k < 1000000 ∧ c ≤ 1000000) ∧ 8 + 2 * L.length ≤ N.length ∧
  ∀ h', Kt h h' (fun o => o = p ∨ o = q ∨ o = vo) → VolR h' vo wo p L (if ch = true then k + 1 else k) c false false → DevN h' p q (if ch = true then keptN N L k c else N) (if ch = true then keptN N L k c else E) → K (I 0) h'
theorem cVSync_go {cf : CallK} {g : FuncId} (hg : cf g = cVSync) (v : VolR h vo wo p L k c ch false) (d : DevN h p q N E) (n : (vo ≠ p ∧ vo ≠ q) ∧ wo ≠ p ∧ wo ≠ q) (hk : k < 1000000 ∧ c ≤ 1000000) (hN : 8 + 2 * L.length ≤ N.length)
    (hK : ∀ h', Kt h h' (fun o => o = p ∨ o = q ∨ o = vo) → VolR h' vo wo p L (if ch = true then k + 1 else k) c false false → DevN h' p q (if ch = true then keptN N L k c else N) (if ch = true then keptN N L k c else E) → K (I 0) h') : cf g [.ptr vo 0] h K := by rw [hg]; exact ⟨vo, wo, p, q, L, N, E, k, c, ch, rfl, v, d, n, hk, hN, hK⟩
theorem VSync_run (hD : cf 90 = cVDead) (hKp : cf 91 = cVKeep) (v : VolR h vo wo p L k c ch false) (d : DevN h p q N E) (n : (vo ≠ p ∧ vo ≠ q) ∧ wo ≠ p ∧ wo ≠ q) (hk : k < 1000000 ∧ c ≤ 1000000) (hN : 8 + 2 * L.length ≤ N.length)
    (hK : ∀ h', Kt h h' (fun o => o = p ∨ o = q ∨ o = vo) → VolR h' vo wo p L (if ch = true then k + 1 else k) c false false → DevN h' p q (if ch = true then keptN N L k c else N) (if ch = true then keptN N L k c else E) → K (I 0) h') : s_wal_Volume_Sync cf fuel (.ptr vo 0) h K := by
  unfold s_wal_Volume_Sync
  have hv1 : (fun o => o = p ∨ o = q ∨ o = vo) vo := .inr (.inr rfl)
  (try unfold vMov); repeat' (first | refine Step.imp ?_ | (refine Way.mk (fun hp => ?_) (fun hp => ?_) <;> first | contradiction | (exfalso; omega) | skip) | refine LoadG.mkG ?_ | refine LoadsG.mkG ?_ | refine AtG.mkG ?_ | refine StoreG.mkG ?_ | refine CondG.mkG ?_ | fail); (all_goals (try dsimp only))
  refine cVDead_go hD v d n.1 (fun h1 n1 s1 => ?_)
  have x1 : Ext h h1 := ⟨by omega, fun o _ => s1 o⟩
  have v1 := v.ext x1
  have d1 := d.ext x1
  obtain ⟨w1, e1⟩ := v1.vol
  have k1 : Kt h h1 (fun o => o = p ∨ o = q ∨ o = vo) := ⟨by omega, fun o _ _ => s1 o⟩
  (try unfold vMov); repeat' (first | refine Step.imp ?_ | (refine Way.mk (fun hp => ?_) (fun hp => ?_) <;> first | contradiction | (exfalso; omega) | skip) | refine LoadG.mkG ?_ | refine LoadsG.mkG ?_ | refine AtG.mkG ?_ | refine StoreG.mkG ?_ | refine CondG.mkG ?_ | fail); (all_goals (try dsimp only))
  unfold s_wal_Volume_SyncB3
  cases hch : ch with
  | false =>
    subst hch
    (try unfold vMov); repeat' (first | refine Step.imp ?_ | (refine Way.mk (fun hp => ?_) (fun hp => ?_) <;> first | contradiction | (exfalso; omega) | skip) | refine LoadG.mkG ?_ | refine LoadsG.mkG ?_ | refine AtG.mkG ?_ | refine StoreG.mkG ?_ | refine CondG.mkG ?_ | (refine LoadG.mk e1 (by rfl) ?_) | (refine StoreG.mk e1 (by first | omega | (simp; done) | (simp; omega)) ?_) | fail); (all_goals (try dsimp only))
    have hs : ∀ (e1 : Option Ent) (o : Nat), o ≠ vo → (h1.put vo e1).at o = h1.at o := fun e1 o ho => Hp.at_put_ne _ ho
    have kput : ∀ e1 : Option Ent, Kt h1 (h1.put vo e1) (fun o => o = p ∨ o = q ∨ o = vo) := fun e1 => ⟨Nat.le_refl _, fun o _ ho => hs e1 o (by rintro rfl; exact ho hv1)⟩
    refine hK _ (k1.trans (kput _)) (v1.own (by simp only [Hp.next_put]) (hs _) ?_) (d1.kt (vo := vo) (by simp only [Hp.next_put]) v1.vol.row n.1 (hs _))
    rw [Hp.at_put_self]
    rfl
  | true =>
    subst hch
    (try unfold vMov); repeat' (first | refine Step.imp ?_ | (refine Way.mk (fun hp => ?_) (fun hp => ?_) <;> first | contradiction | (exfalso; omega) | skip) | refine LoadG.mkG ?_ | refine LoadsG.mkG ?_ | refine AtG.mkG ?_ | refine StoreG.mkG ?_ | refine CondG.mkG ?_ | (refine LoadG.mk e1 (by rfl) ?_) | fail); (all_goals (try dsimp only))
    refine cVKeep_go hKp v1 d1 n hk hN (fun h2 k2 v2 d2 => ?_)
    obtain ⟨w2, e2⟩ := v2.vol
    (try unfold vMov); repeat' (first | refine Step.imp ?_ | (refine Way.mk (fun hp => ?_) (fun hp => ?_) <;> first | contradiction | (exfalso; omega) | skip) | refine LoadG.mkG ?_ | refine LoadsG.mkG ?_ | refine AtG.mkG ?_ | refine StoreG.mkG ?_ | refine CondG.mkG ?_ | (refine StoreG.mk e2 (by first | omega | (simp; done) | (simp; omega)) ?_) | fail); (all_goals (try dsimp only))
    have hs : ∀ (e1 : Option Ent) (o : Nat), o ≠ vo → (h2.put vo e1).at o = h2.at o := fun e1 o ho => Hp.at_put_ne _ ho
    have kput : ∀ e1 : Option Ent, Kt h2 (h2.put vo e1) (fun o => o = p ∨ o = q ∨ o = vo) := fun e1 => ⟨Nat.le_refl _, fun o _ ho => hs e1 o (by rintro rfl; exact ho hv1)⟩
    refine hK _ ((k1.trans k2).trans (kput _)) (v2.own (by simp only [Hp.next_put]) (hs _) ?_) (d2.kt (vo := vo) (by simp only [Hp.next_put]) v2.vol.row n.1 (hs _))
    rw [Hp.at_put_self]
    rfl
end
end Lg

namespace Lg
set_option linter.unusedSimpArgs false
set_option linter.unusedVariables false
set_option maxRecDepth 100000
open Go Go.Am
open Go.Proofs.Ytnhamanffojhfaa.shl
def sideN (N : List (List UInt8)) (n k : Nat) : List (List UInt8) := (N.drop (placeN n k 0)).take n
theorem sideN_len (N : List (List UInt8)) (n k : Nat) (hN : 8 + 2 * n ≤ N.length) : (sideN N n k).length = n := by
  unfold sideN placeN
  rw [List.length_take, List.length_drop]
  rcases Nat.mod_two_eq_zero_or_one k with h2 | h2 <;> rw [h2] <;> omega
theorem sideN_get (N : List (List UInt8)) (n k j : Nat) (hj : j < n) : (sideN N n k)[j]? = N[placeN n k j]? := by
  unfold sideN
  rw [List.getElem?_take, if_pos hj, List.getElem?_drop]
  congr 1
theorem roomN_fits (m : Nat) (hm : 16 ≤ m) : 8 + 2 * roomN m ≤ m ∧ 2 ≤ roomN m := by
  unfold roomN
  rw [if_neg (by omega)]
  omega
theorem VolW.kp {h h' : Hp} {vo p : Nat} {x : AV} {k c : Int} {ch br : Bool} (v : VolW h vo p x k c ch br) {p2 q2 : Nat} (kk : Kp h h' p2 q2) (n : vo ≠ p2 ∧ vo ≠ q2) : VolW h' vo p x k c ch br := ⟨Nat.lt_of_lt_of_le v.1 kk.1, by rw [kk.2 vo v.1 n.1 n.2]; exact v.2⟩
section
variable (cf : CallK) (fuel : Nat) {h : Hp} {K : AV → Hp → Prop} {vo wo p q : Nat} {N E : List (List UInt8)} {k c : Nat} {k0 c0 : Int} {ch br : Bool} {x : AV}
def cVLarge : ConD := fun args h K => ∃ vo p q x k c ch br N E, args = [.ptr vo 0] ∧ VolW h vo p x k c ch br ∧ DevN h p q N E ∧ 16 ≤ N.length ∧ K (I 0) h
theorem cVLarge_go {cf : CallK} {g : FuncId} (hg : cf g = cVLarge) (v : VolW h vo p x k0 c0 ch br) (d : DevN h p q N E) (hN : 16 ≤ N.length) (hK : K (I 0) h) : cf g [.ptr vo 0] h K := by rw [hg]; exact ⟨vo, p, q, x, k0, c0, ch, br, N, E, rfl, v, d, hN, hK⟩
theorem large_run (hR : cf 123 = cRoom) (v : VolW h vo p x k0 c0 ch br) (d : DevN h p q N E) (hN : 16 ≤ N.length) (hK : K (I 0) h) : s_wal_Volume_large cf fuel (.ptr vo 0) h K := by
  unfold s_wal_Volume_large
  obtain ⟨w, e⟩ := v
  have hr := roomN_fits N.length hN
  (try unfold vMov); repeat' (first | refine Step.imp ?_ | (refine Way.mk (fun hp => ?_) (fun hp => ?_) <;> first | contradiction | (exfalso; omega) | skip) | refine LoadG.mkG ?_ | refine LoadsG.mkG ?_ | refine AtG.mkG ?_ | refine StoreG.mkG ?_ | refine CondG.mkG ?_ | (refine LoadG.mk e (by rfl) ?_) | (refine cRoom_go hR d ?_) | fail); (all_goals (try dsimp only))
  exact hK
def cVAlive : ConD := fun args h K => ∃ vo p q x k c ch br N E, args = [.ptr vo 0] ∧ VolW h vo p x k c ch br ∧ DevN h p q N E ∧ K (I 0) h
theorem cVAlive_go {cf : CallK} {g : FuncId} (hg : cf g = cVAlive) (v : VolW h vo p x k0 c0 ch br) (d : DevN h p q N E) (hK : K (I 0) h) : cf g [.ptr vo 0] h K := by rw [hg]; exact ⟨vo, p, q, x, k0, c0, ch, br, N, E, rfl, v, d, hK⟩
theorem alive_run (hD : cf 128 = cDead) (v : VolW h vo p x k0 c0 ch br) (d : DevN h p q N E) (hK : K (I 0) h) : s_wal_Volume_alive cf fuel (.ptr vo 0) h K := by
  unfold s_wal_Volume_alive
  obtain ⟨w, e⟩ := v
  (try unfold vMov); repeat' (first | refine Step.imp ?_ | (refine Way.mk (fun hp => ?_) (fun hp => ?_) <;> first | contradiction | (exfalso; omega) | skip) | refine LoadG.mkG ?_ | refine LoadsG.mkG ?_ | refine AtG.mkG ?_ | refine StoreG.mkG ?_ | refine CondG.mkG ?_ | (refine LoadG.mk e (by rfl) ?_) | (refine dead_goN hD d ?_) | fail); (all_goals (try dsimp only))
  exact hK
theorem blocksL1_run (hA : cf 129 = cVAt) (hR : cf 130 = cDRead) {hb : Hp} {n : Nat} (vb : VolW hb vo p (.slice wo 0 n true n) k c ch br) (db : DevN hb p q N E) (rb : RowAt hb wo) (hne : vo ≠ wo ∧ wo ≠ p ∧ wo ≠ q) (hn : n ≤ 65536) (hk : k ≤ 1000000) (hN : 8 + 2 * n ≤ N.length) (hwl : wo < hb.next) (e0 : Hp → Prop)
    (he : ∀ h', Kp hb h' wo wo → VolW h' vo p (.slice wo 0 n true n) k c ch br → BlkR h' wo (sideN N n k) → e0 h') :
    ∀ (d i fm : Nat) (h : Hp), i + d = n → d < fm → Kp hb h wo wo → (∃ ob cs, h.at wo = some ⟨true, 1, ob⟩ ∧ Cells ob cs ∧ cs.length = n ∧ ∀ j, j < i → ∃ a l, cs[j]? = some a ∧ N[placeN n k j]? = some l ∧ ByH h a l) → s_wal_Volume_blocksL1 cf fuel e0 (.ptr vo 0) (I n) fm (I i) h
  | d, i, fm, h, hd, hm, kp, hrow => by
    obtain ⟨fm, rfl⟩ : ∃ j, fm = j + 1 := ⟨fm - 1, by omega⟩
    rw [s_wal_Volume_blocksL1_succ]
    unfold s_wal_Volume_blocksL1B
    obtain ⟨ob, cs, r1, r2, r3, r4⟩ := hrow
    have vw := vb.kp kp ⟨hne.1, hne.1⟩
    have dv := db.kp kp rb rb ⟨fun e => hne.2.1 e.symm, fun e => hne.2.1 e.symm⟩ ⟨fun e => hne.2.2 e.symm, fun e => hne.2.2 e.symm⟩
    have rwo : RowAt h wo := ⟨_, _, r1, r2⟩
    by_cases hi : i < n
    · obtain ⟨d, rfl⟩ : ∃ j, d = j + 1 := ⟨d - 1, by omega⟩
      have e1 : ((i : Int) + 1) = ((i + 1 : Nat) : Int) := by omega
      obtain ⟨w1, ev⟩ := vw
      have hlt : placeN n k i < N.length := by
        unfold placeN
        rcases Nat.mod_two_eq_zero_or_one k with h2 | h2 <;> rw [h2] <;> omega
      (try unfold vMov); repeat' (first | refine Step.imp ?_ | (refine Way.mk (fun hp => ?_) (fun hp => ?_) <;> first | contradiction | (exfalso; omega) | skip) | refine LoadG.mkG ?_ | refine LoadsG.mkG ?_ | refine AtG.mkG ?_ | refine StoreG.mkG ?_ | refine CondG.mkG ?_ | fail); (all_goals (try dsimp only))
      unfold s_wal_Volume_blocksB3
      (try unfold vMov); repeat' (first | refine Step.imp ?_ | (refine Way.mk (fun hp => ?_) (fun hp => ?_) <;> first | contradiction | (exfalso; omega) | skip) | refine LoadG.mkG ?_ | refine LoadsG.mkG ?_ | refine AtG.mkG ?_ | refine StoreG.mkG ?_ | refine CondG.mkG ?_ | (refine LoadG.mk ev (by rfl) ?_) | (refine cVAt_go hA ⟨w1, ev⟩ hn hk (by omega) ?_) | fail); (all_goals (try dsimp only))
      refine read_goN hR dv hlt (fun v1 h1 x1 y1 z1 => ?_)
      have ev1 : h1.at vo = some _ := (x1.same vo w1).trans ev
      have r11 : h1.at wo = some _ := (x1.same wo (Nat.lt_of_lt_of_le hwl kp.1)).trans r1
      have cv := y1.cellB
      (try unfold vMov); repeat' (first | refine Step.imp ?_ | (refine Way.mk (fun hp => ?_) (fun hp => ?_) <;> first | contradiction | (exfalso; omega) | skip) | refine LoadG.mkG ?_ | refine LoadsG.mkG ?_ | refine AtG.mkG ?_ | refine StoreG.mkG ?_ | refine CondG.mkG ?_ | (refine LoadG.mk ev1 (by rfl) ?_) | (refine stStore_aux _ _ _ _ _ cv ?_) | (refine StoreG.mkC2 (off := i) r11 r2 (by omega) ⟨rfl, by simp only [List.length_singleton]; omega⟩ (fun ob2 c2 => ?_)) | fail); (all_goals (try dsimp only))
      rw [e1]
      have hs : ∀ (e2 : Option Ent) (o : Nat), o ≠ wo → (h1.put wo e2).at o = h1.at o := fun e2 o ho => Hp.at_put_ne _ ho
      have rw1 : RowAt h1 wo := ⟨_, _, r11, r2⟩
      refine blocksL1_run hA hR vb db rb hne hn hk hN hwl e0 he d (i + 1) fm _ (by omega) (by omega) ⟨?_, fun o q1 q2 _ => ?_⟩ ⟨ob2, _, Hp.at_put_self _ _ _, c2, by rw [setL_length _ _ _ (by simp only [List.length_singleton]; omega)]; exact r3, fun j hj => ?_⟩
      · simp only [Hp.next_put]
        exact Nat.le_trans kp.1 x1.next
      · rw [hs _ o q2, x1.same o (Nat.lt_of_lt_of_le q1 kp.1), kp.2 o q1 q2 q2]
      · have hput : ∀ (e2 : Option Ent) a l, ByH h1 a l → ByH (h1.put wo e2) a l := fun e2 a l q => q.same (by simp only [Hp.next_put]; omega) fun o off n kn c e _ => hs _ o (q.row_ne rw1 e)
        rw [getElem?_setL _ _ _ _ (by omega)]
        by_cases hij : j = i
        · subst hij
          rw [if_pos rfl]
          exact ⟨v1, _, rfl, List.getElem?_eq_getElem hlt, hput _ _ _ y1⟩
        · rw [if_neg hij]
          obtain ⟨a, l, q1, q2, q3⟩ := r4 j (by omega)
          exact ⟨a, l, q1, q2, hput _ _ _ (q3.mono x1)⟩
    · have hd0 : d = 0 := by omega
      subst hd0
      (try unfold vMov); repeat' (first | refine Step.imp ?_ | (refine Way.mk (fun hp => ?_) (fun hp => ?_) <;> first | contradiction | (exfalso; omega) | skip) | refine LoadG.mkG ?_ | refine LoadsG.mkG ?_ | refine AtG.mkG ?_ | refine StoreG.mkG ?_ | refine CondG.mkG ?_ | fail); (all_goals (try dsimp only))
      refine he h kp vw ⟨Nat.lt_of_lt_of_le hwl kp.1, ob, cs, r1, r2, by rw [sideN_len _ _ _ hN]; exact r3, fun j hj => ?_⟩
      rw [sideN_len _ _ _ hN] at hj
      obtain ⟨a, l, q1, q2, q3⟩ := r4 j (by omega)
      have hg := sideN_get N n k j hj
      rw [q2, List.getElem?_eq_some_iff] at hg
      obtain ⟨hg1, hg2⟩ := hg
      refine ⟨a, q1, ?_, ?_⟩
      · rw [hg2]; exact q3
      · rw [hg2]; exact dv.each l (List.mem_of_getElem? q2)
def cVBlk : ConD := fun args h K => ∃ vo p q x, ∃ k c : Nat, ∃ ch br N E, args = [.ptr vo 0] ∧ VolW h vo p x k c ch br ∧ DevN h p q N E ∧ (vo ≠ p ∧ vo ≠ q) ∧ 16 ≤ N.length ∧ k ≤ 1000000 ∧ ∀ wo h', Kp h h' vo vo → h.next ≤ wo → VolR h' vo wo p (sideN N (roomN N.length) k) k c ch br → K (I 0) h'
theorem cVBlk_go {cf : CallK} {g : FuncId} (hg : cf g = cVBlk) (v : VolW h vo p x k c ch br) (d : DevN h p q N E) (hne : vo ≠ p ∧ vo ≠ q) (hN : 16 ≤ N.length) (hk : k ≤ 1000000) (hK : ∀ wo h', Kp h h' vo vo → h.next ≤ wo → VolR h' vo wo p (sideN N (roomN N.length) k) k c ch br → K (I 0) h') : cf g [.ptr vo 0] h K := by rw [hg]; exact ⟨vo, p, q, x, k, c, ch, br, N, E, rfl, v, d, hne, hN, hk, hK⟩
theorem blocks_run (hRm : cf 123 = cRoom) (hA : cf 129 = cVAt) (hR : cf 130 = cDRead) (v : VolW h vo p x k c ch br) (d : DevN h p q N E) (hne : vo ≠ p ∧ vo ≠ q) (hN : 16 ≤ N.length) (hk : k ≤ 1000000) (hf : 65536 < fuel) (hK : ∀ wo h', Kp h h' vo vo → h.next ≤ wo → VolR h' vo wo p (sideN N (roomN N.length) k) k c ch br → K (I 0) h') : s_wal_Volume_blocks cf fuel (.ptr vo 0) h K := by
  unfold s_wal_Volume_blocks
  have vrow := v.row
  obtain ⟨w, e⟩ := v
  obtain ⟨hl1, hl2, hl3⟩ := d.len
  obtain ⟨hr1, hr2⟩ := roomN_fits N.length hN
  obtain ⟨rp, rq, pl, ql, _⟩ := d.rows
  (try unfold vMov); repeat' (first | refine Step.imp ?_ | (refine Way.mk (fun hp => ?_) (fun hp => ?_) <;> first | contradiction | (exfalso; omega) | skip) | refine LoadG.mkG ?_ | refine LoadsG.mkG ?_ | refine AtG.mkG ?_ | refine StoreG.mkG ?_ | refine CondG.mkG ?_ | (refine LoadG.mk e (by rfl) ?_) | (refine cRoom_go hRm d ?_) | (refine mkSlice_go (n := roomN N.length) (by omega) (by omega) (fun ob hob => ?_)) | (refine StoreG.mk (by rw [Hp.at_new_lt _ (by omega)]; exact e) (by first | omega | (simp; done) | (simp; omega)) ?_) | fail); (all_goals (try dsimp only))
  generalize hn : roomN N.length = n at *
  have hs : ∀ (e1 : Option Ent) (o : Nat), o < h.next → o ≠ vo → ((h.new ⟨true, 1, ob⟩).put vo e1).at o = h.at o := fun e1 o ho hv => by rw [Hp.at_put_ne _ hv, Hp.at_new_lt _ ho]
  have k1 : ∀ e1 : Option Ent, Kp h ((h.new ⟨true, 1, ob⟩).put vo e1) vo vo := fun e1 => ⟨by simp only [Hp.next_put, Hp.next_new]; omega, fun o ho q2 _ => hs e1 o ho q2⟩
  have hwo : ∀ e1 : Option Ent, ((h.new ⟨true, 1, ob⟩).put vo e1).at h.next = some ⟨true, 1, ob⟩ := fun e1 => by rw [Hp.at_put_ne _ (by omega), Hp.at_new_self]
  refine blocksL1_run cf fuel hA hR (wo := h.next) (n := n) (vo := vo) (p := p) (q := q) (N := N) (E := E) (k := k) (c := c) (ch := ch) (br := br) ⟨by simp only [Hp.next_put, Hp.next_new]; omega, by rw [Hp.at_put_self]; rfl⟩ (d.kp (k1 _) vrow vrow ⟨fun e => hne.1 e.symm, fun e => hne.1 e.symm⟩ ⟨fun e => hne.2 e.symm, fun e => hne.2 e.symm⟩) ⟨_, _, hwo _, hob⟩ ⟨by omega, by omega, by omega⟩ (by omega) hk hr1 (by simp only [Hp.next_put, Hp.next_new]; omega) _ (fun h2 k2 v2 b2 => ?_) n 0 fuel _ (by omega) (by omega) ⟨Nat.le_refl _, fun _ _ _ _ => rfl⟩ ⟨ob, _, hwo _, hob, by rw [repL_length]; simp, fun j hj => by omega⟩
  unfold s_wal_Volume_blocksE0
  have hsl := sideN_len N n k hr1
  refine hK h.next h2 ⟨?_, fun o q1 q2 _ => ?_⟩ (Nat.le_refl _) ⟨by omega, by omega, by rw [hsl]; exact v2, b2⟩
  · exact Nat.le_trans (k1 none).1 k2.1
  · rw [k2.2 o (by simp only [Hp.next_put, Hp.next_new]; omega) (by omega) (by omega), hs _ o q1 q2]
end
end Lg

namespace Lg
set_option linter.unusedSimpArgs false
set_option linter.unusedVariables false
set_option maxRecDepth 100000
open Go Go.Am
open Go.Proofs.Ytnhamanffojhfaa.shl
/-- A slice's end. -/
theorem cutlow_by {h : Hp} {v : AV} {l : List UInt8} {i : Nat} {K : AV → Hp → Prop} (hv : ByH h v l) (hi : i < l.length) (q : ∀ v', ByH h v' (l.drop i) → K v' h) : vSlice2 1 v (some (.int .i64 i)) none h K := by
  rcases hv with ⟨rfl, rfl⟩ | ⟨o, rfl, rfl⟩ | ⟨o, off, kn, c, e, n, z, rfl, h2, h3, h4, h5, h6, h7⟩
  · simp at hi
  · simp at hi
  · have hd : (l.drop i).length = l.length - i := List.length_drop
    have hb : ((bytesL n z).drop (off + i)).take (l.drop i).length = l.drop i := by
      have := congrArg (List.drop i) h7
      rw [List.drop_take, List.drop_drop] at this
      rw [hd]
      exact this
    show vSlice 1 (.slice o off l.length kn c) (some (.int .i64 i)) none h K
    cases kn with
    | false =>
      show bndV (some (.int .i64 i)) 0 l.length (fun lo => Bool.rec (motive := fun _ => Prop)
        (forceN (off + lo * 1) fun off' => forceN (c + lo) fun c => K (.sliceE o off off' c) h)
        (forceN (off + lo * 1) fun off => forceN (l.length - lo) fun n => forceN (c + lo) fun c => K (.slice o off n false c) h) (Nat.blt lo l.length || Nat.beq lo 0))
      rw [bndV_some .i64 i 0 l.length _ (by omega) (by omega), Int.toNat_natCast]
      have : (Nat.blt i l.length || Nat.beq i 0) = true := by
        rw [show Nat.blt i l.length = true from Nat.ble_eq_true_of_le hi]
        rfl
      rw [this]
      simp only [forceN_eq, Nat.mul_one]
      refine q _ (.inr (.inr ⟨o, off + i, false, c + i, e, n, z, by rw [hd], h2, h3, h4, by rw [hd]; omega, ⟨by omega, fun e => by cases e⟩, hb⟩))
    | true =>
      have hc := h6.2 rfl
      show bndV (some (.int .i64 i)) 0 l.length (fun lo => forceN (Bool.rec (motive := fun _ => Nat) (off + lo * 1) off (Nat.beq c lo)) fun off => forceN (l.length - lo) fun n => forceN (c - lo) fun c => K (.slice o off n true c) h)
      rw [bndV_some .i64 i 0 l.length _ (by omega) (by omega), Int.toNat_natCast]
      have : (Bool.rec (motive := fun _ => Nat) (off + i * 1) off (Nat.beq c i) : Nat) = off + i := by
        have : Nat.beq c i = false := by
          cases hq : Nat.beq c i with
          | false => rfl
          | true => have := Nat.eq_of_beq_eq_true hq; omega
        rw [this]
        simp
      simp only [forceN_eq, this]
      refine q _ (.inr (.inr ⟨o, off + i, true, c - i, e, n, z, by rw [hd], h2, h3, h4, by rw [hd]; omega, ⟨by omega, fun _ => by omega⟩, hb⟩))
/-- One byte. -/
theorem byAt {h : Hp} {v : AV} {l : List UInt8} (hv : ByH h v l) (hp : 0 < l.length) : ∃ o off kn c e, v = .slice o off l.length kn c ∧ h.at o = some e ∧ ∀ j (hj : j < l.length), cellAt e.obj (off + j) = some (.int .u8 (l[j].toNat : Nat)) := by
  rcases hv with ⟨rfl, rfl⟩ | ⟨o, rfl, rfl⟩ | ⟨o, off, kn, c, e, n, z, rfl, h2, h3, h4, h5, h6, h7⟩
  · simp at hp
  · simp at hp
  · refine ⟨o, off, kn, c, e, rfl, h3, fun j hj => ?_⟩
    rw [h4, cellAt_byts, if_pos (by omega)]
    have : l[j]? = some (UInt8.ofNat (byteAt z (off + j))) := by
      conv => lhs; rw [← h7]
      rw [List.getElem?_take, if_pos hj, List.getElem?_drop, bytesL_get, if_pos (by omega)]
    rw [List.getElem?_eq_getElem hj] at this
    have h8 : l[j].toNat = byteAt z (off + j) := by
      rw [Option.some.inj this]
      simp only [UInt8.toNat_ofNat']
      exact Nat.mod_eq_of_lt (byteAt_lt _ _)
    rw [h8]
    rfl
section
variable {h : Hp} {K : AV → Hp → Prop}
theorem shl64_go {a s : Nat} (hs : s ≤ 56) (ha : a < 256) (q : K (.int .u64 ((a <<< s : Nat) : Int)) h) : vShl (.int .u64 (a : Int)) (.int .u64 (s : Int)) h K := by
  show asNat (.int .u64 s) (fun b => mkI .u64 (wrapF .u64 ((a : Int) * 2 ^ (Nat.min b IntKind.u64.bits))) fun v => K v h)
  rw [asNat_int _ _ (by omega), Int.toNat_natCast, mkI_eq, wrapF_eq]
  have hm : Nat.min s IntKind.u64.bits = s := Nat.min_eq_left (show s ≤ 64 by omega)
  have hp : 2 ^ s ≤ 2 ^ 56 := Nat.pow_le_pow_right (by omega) hs
  have he : (a : Int) * 2 ^ s = ((a <<< s : Nat) : Int) := by rw [Nat.shiftLeft_eq]; push_cast; rfl
  have hb : a <<< s < 256 * 2 ^ 56 := by
    rw [Nat.shiftLeft_eq]
    exact Nat.lt_of_lt_of_le (Nat.mul_lt_mul_of_pos_right ha (Nat.pow_pos (by omega))) (Nat.mul_le_mul_left _ hp)
  rw [hm, he]
  rw [wrapU64_in (Int.natCast_nonneg _) (by generalize a <<< s = m at *; omega)]
  exact q
theorem lor64_go {a b : Nat} (ha : a < 2 ^ 64) (hb : b < 2 ^ 64) (q : K (.int .u64 ((a ||| b : Nat) : Int)) h) : vBits Nat.lor (.int .u64 (a : Int)) (.int .u64 (b : Int)) h K := by
  show twoI (.int .u64 (a : Int)) (.int .u64 (b : Int)) (fun k a b => mkI k (wrapF k (.ofNat (Nat.lor (bitsI k a) (bitsI k b)))) fun v => K v h)
  rw [twoI_eq, mkI_eq, wrapF_eq]
  have h1 : bitsI .u64 (a : Int) = a := Nat.mod_eq_of_lt ha
  have h2 : bitsI .u64 (b : Int) = b := Nat.mod_eq_of_lt hb
  rw [h1, h2]
  have h3 : a ||| b < 2 ^ 64 := Nat.or_lt_two_pow ha hb
  show K (.int .u64 (IntKind.u64.wrap ((a ||| b : Nat) : Int))) h
  rw [wrapU64_in (Int.natCast_nonneg _) (by generalize a ||| b = m at *; omega)]
  exact q
/-- A byte loaded, as a number of 64 bits. -/
theorem ld64_go {o off n j : Nat} {kn : Bool} {c : Nat} {e : Ent} {a : UInt8} {F : AV → Hp → Prop} (hj : j < n) (hat : h.at o = some e) (hc : cellAt e.obj (off + j) = some (.int .u8 (a.toNat : Nat))) (q : F (.int .u64 (a.toNat : Nat)) h) : vIaddr 1 (.slice o off n kn c) (I j) h fun t h => vLoad2 t h fun x h => vToInt .u64 x h F := by
  have hb := a.toNat_lt
  (try unfold vMov); repeat' (first | refine Step.imp ?_ | (refine Way.mk (fun hp => ?_) (fun hp => ?_) <;> first | contradiction | (exfalso; omega) | skip) | refine LoadG.mkG ?_ | refine LoadsG.mkG ?_ | refine AtG.mkG ?_ | refine StoreG.mkG ?_ | refine CondG.mkG ?_ | (refine LoadG.mk2 hat hc (by omega) ?_) | fail); (all_goals (try dsimp only))
  exact q
def get64 : List UInt8 → Nat
  | a0 :: a1 :: a2 :: a3 :: a4 :: a5 :: a6 :: a7 :: _ => a0.toNat ||| a1.toNat <<< 8 ||| a2.toNat <<< 16 ||| a3.toNat <<< 24 ||| a4.toNat <<< 32 ||| a5.toNat <<< 40 ||| a6.toNat <<< 48 ||| a7.toNat <<< 56
  | _ => 0
def cGet64 : ConD := fun args h K => ∃ v l, args = [v] ∧ ByH h v l ∧ 8 ≤ l.length ∧ K (.int .u64 (get64 l : Nat)) h
theorem cGet64_go {cf : CallK} {g : FuncId} (hg : cf g = cGet64) {v : AV} {l : List UInt8} (hv : ByH h v l) (hl : 8 ≤ l.length) (hK : K (.int .u64 (get64 l : Nat)) h) : cf g [v] h K := by rw [hg]; exact ⟨v, l, rfl, hv, hl, hK⟩
theorem sh_lt (a : UInt8) {s : Nat} (hs : s ≤ 56) : a.toNat <<< s < 2 ^ 64 := by
  rw [Nat.shiftLeft_eq]
  have h1 : a.toNat < 256 := a.toNat_lt
  have hp : 2 ^ s ≤ 2 ^ 56 := Nat.pow_le_pow_right (by omega) hs
  have := Nat.lt_of_lt_of_le (Nat.mul_lt_mul_of_pos_right h1 (Nat.pow_pos (n := s) (by omega : 0 < 2))) (Nat.mul_le_mul_left 256 hp)
  omega
theorem Get64_run (cf : CallK) (fuel : Nat) {v : AV} {l : List UInt8} (hv : ByH h v l) (hl : 8 ≤ l.length) (hK : K (.int .u64 (get64 l : Nat)) h) : s_zbyte_Get64 cf fuel v h K := by
  unfold s_zbyte_Get64
  obtain ⟨o, off, kn, c, e, rfl, hat, hc⟩ := byAt hv (by omega)
  match l, hl, hc, hK with
  | a0 :: a1 :: a2 :: a3 :: a4 :: a5 :: a6 :: a7 :: r, hl, hc, hK =>
    have c0 := hc 0 (by simp)
    have c1 := hc 1 (by simp)
    have c2 := hc 2 (by simp)
    have c3 := hc 3 (by simp)
    have c4 := hc 4 (by simp)
    have c5 := hc 5 (by simp)
    have c6 := hc 6 (by simp)
    have c7 := hc 7 (by simp)
    have b0 := a0.toNat_lt
    have b1 := a1.toNat_lt
    have b2 := a2.toNat_lt
    have b3 := a3.toNat_lt
    have b4 := a4.toNat_lt
    have b5 := a5.toNat_lt
    have b6 := a6.toNat_lt
    have b7 := a7.toNat_lt
    have g0 : a0.toNat < 2 ^ 64 := by omega
    have g1 := Nat.or_lt_two_pow g0 (sh_lt a1 (s := 8) (by omega))
    have g2 := Nat.or_lt_two_pow g1 (sh_lt a2 (s := 16) (by omega))
    have g3 := Nat.or_lt_two_pow g2 (sh_lt a3 (s := 24) (by omega))
    have g4 := Nat.or_lt_two_pow g3 (sh_lt a4 (s := 32) (by omega))
    have g5 := Nat.or_lt_two_pow g4 (sh_lt a5 (s := 40) (by omega))
    have g6 := Nat.or_lt_two_pow g5 (sh_lt a6 (s := 48) (by omega))
    simp only [List.getElem_cons_zero, List.getElem_cons_succ] at c0 c1 c2 c3 c4 c5 c6 c7
    refine ld64_go (j := 0) (a := a0) (by simp only [List.length_cons]; omega) hat c0 ?_
    refine ld64_go (j := 1) (a := a1) (by simp only [List.length_cons]; omega) hat c1 ?_
    refine shl64_go (s := 8) (by omega) b1 ?_
    refine lor64_go g0 (sh_lt _ (by omega)) ?_
    refine ld64_go (j := 2) (a := a2) (by simp only [List.length_cons]; omega) hat c2 ?_
    refine shl64_go (s := 16) (by omega) b2 ?_
    refine lor64_go g1 (sh_lt _ (by omega)) ?_
    refine ld64_go (j := 3) (a := a3) (by simp only [List.length_cons]; omega) hat c3 ?_
    refine shl64_go (s := 24) (by omega) b3 ?_
    refine lor64_go g2 (sh_lt _ (by omega)) ?_
    refine ld64_go (j := 4) (a := a4) (by simp only [List.length_cons]; omega) hat c4 ?_
    refine shl64_go (s := 32) (by omega) b4 ?_
    refine lor64_go g3 (sh_lt _ (by omega)) ?_
    refine ld64_go (j := 5) (a := a5) (by simp only [List.length_cons]; omega) hat c5 ?_
    refine shl64_go (s := 40) (by omega) b5 ?_
    refine lor64_go g4 (sh_lt _ (by omega)) ?_
    refine ld64_go (j := 6) (a := a6) (by simp only [List.length_cons]; omega) hat c6 ?_
    refine shl64_go (s := 48) (by omega) b6 ?_
    refine lor64_go g5 (sh_lt _ (by omega)) ?_
    refine ld64_go (j := 7) (a := a7) (by simp only [List.length_cons]; omega) hat c7 ?_
    refine shl64_go (s := 56) (by omega) b7 ?_
    refine lor64_go g6 (sh_lt _ (by omega)) ?_
    exact hK
end
end Lg

namespace Lg
set_option linter.unusedSimpArgs false
set_option linter.unusedVariables false
set_option maxRecDepth 100000
open Go Go.Am
open Go.Proofs.Ytnhamanffojhfaa.shl
theorem get64_le (k : Nat) (hk : k ≤ 255) (r : List UInt8) : get64 (le64 k ++ r) = k := by
  have h0 : le64 k = [UInt8.ofNat k, 0, 0, 0, 0, 0, 0, 0] := by
    have hz : ∀ s, 8 ≤ s → k >>> s = 0 := fun s hs => by
      rw [Nat.shiftRight_eq_div_pow]
      have : 2 ^ 8 ≤ 2 ^ s := Nat.pow_le_pow_right (by omega) hs
      exact Nat.div_eq_of_lt (by omega)
    show [UInt8.ofNat (k >>> 0), UInt8.ofNat (k >>> 8), UInt8.ofNat (k >>> 16), UInt8.ofNat (k >>> 24), UInt8.ofNat (k >>> 32), UInt8.ofNat (k >>> 40), UInt8.ofNat (k >>> 48), UInt8.ofNat (k >>> 56)] = _
    rw [hz 8 (by omega), hz 16 (by omega), hz 24 (by omega), hz 32 (by omega), hz 40 (by omega), hz 48 (by omega), hz 56 (by omega)]
    rfl
  rw [h0]
  have h1 : (UInt8.ofNat k).toNat = k := by
    simp only [UInt8.toNat_ofNat']
    omega
  simp [get64, h1]
theorem headB_drop16 (k c : Nat) (hk : k ≤ 255) : get64 ((headB k c).drop 16) = k := by
  have : headB k c = magicB ++ (le64 k ++ (le64 c ++ (le32 (crcF (headP k c)) ++ List.replicate 476 0))) := by unfold headB headP; simp only [List.append_assoc]
  rw [this, List.drop_left' (by rfl)]
  exact get64_le k hk _
theorem headB_drop24 (k c : Nat) (hc : c ≤ 255) : get64 ((headB k c).drop 24) = c := by
  have : headB k c = (magicB ++ le64 k) ++ (le64 c ++ (le32 (crcF (headP k c)) ++ List.replicate 476 0)) := by unfold headB headP; simp only [List.append_assoc]
  rw [this, List.drop_left' (by simp [magicB, le64])]
  exact get64_le c hc _
/-- What the heads say. -/
def HeadsOK (N : List (List UInt8)) (k c : Nat) : Prop := ∃ k0 c0, k0 ≤ 255 ∧ c0 ≤ 255 ∧ k0 % 2 = 0 ∧ N[0]? = some (headB k0 c0) ∧ ((N[1]? = some zeroB ∧ k = k0 ∧ c = c0) ∨ ∃ k1 c1, k1 ≤ 255 ∧ c1 ≤ 255 ∧ k1 % 2 = 1 ∧ N[1]? = some (headB k1 c1) ∧ (k0 < k1 ∧ k = k1 ∧ c = c1 ∨ k1 < k0 ∧ k = k0 ∧ c = c0))
section
variable (cf : CallK) (fuel : Nat) {h : Hp} {K : AV → Hp → Prop} {vo wo p q : Nat} {N E : List (List UInt8)} {k c : Nat} {k0 c0 : Int} {ch br : Bool} {x : AV}
/-- A head that does not count. -/
theorem headsB_old (hR : cf 130 = cDRead) (hG : cf 131 = cGet64) (v : VolW h vo p x k0 c0 ch br) (d : DevN h p q N E) {i : Nat} (hi : i < 2) (h2 : 2 ≤ N.length) {B : List UInt8} (hB : N[i]? = some B) {kk cc : Nat} (hkk : get64 (B.drop 16) = kk) (hcc : get64 (B.drop 24) = cc) (hk : kk ≤ 255) (hc : cc ≤ 255) (hold : ¬ k0 < kk) (ih : AV → Hp → Prop)
    (hK : ∀ h', Ext h h' → ih (I ((i + 1 : Nat) : Int)) h') : s_wal_Volume_headsB12 cf fuel ih (.ptr vo 0) (I i) h := by
  unfold s_wal_Volume_headsB12
  obtain ⟨w, e⟩ := v
  have e1 : ((i : Int) + 1) = ((i + 1 : Nat) : Int) := by omega
  have hi' : i < N.length := by omega
  rw [List.getElem?_eq_getElem hi'] at hB
  have hB := Option.some.inj hB
  have hBl : B.length = 512 := by rw [← hB]; exact d.each _ (List.getElem_mem hi')
  (try unfold vMov); repeat' (first | refine Step.imp ?_ | (refine Way.mk (fun hp => ?_) (fun hp => ?_) <;> first | contradiction | (exfalso; omega) | skip) | refine LoadG.mkG ?_ | refine LoadsG.mkG ?_ | refine AtG.mkG ?_ | refine StoreG.mkG ?_ | refine CondG.mkG ?_ | (refine LoadG.mk e (by rfl) ?_) | fail); (all_goals (try dsimp only))
  refine read_goN hR d hi' (fun v1 h1 x1 y1 z1 => ?_)
  rw [hB] at y1
  have ev : h1.at vo = some _ := (x1.same vo w).trans e
  (try unfold vMov); repeat' (first | refine Step.imp ?_ | (refine Way.mk (fun hp => ?_) (fun hp => ?_) <;> first | contradiction | (exfalso; omega) | skip) | refine LoadG.mkG ?_ | refine LoadsG.mkG ?_ | refine AtG.mkG ?_ | refine StoreG.mkG ?_ | refine CondG.mkG ?_ | fail); (all_goals (try dsimp only))
  refine cutlow_by y1 (i := 16) (by omega) (fun v16 y16 => ?_)
  refine cutlow_by y1 (i := 24) (by omega) (fun v24 y24 => ?_)
  refine cGet64_go hG y16 (by rw [List.length_drop]; omega) ?_
  rw [hkk]
  (try unfold vMov); repeat' (first | refine Step.imp ?_ | (refine Way.mk (fun hp => ?_) (fun hp => ?_) <;> first | contradiction | (exfalso; omega) | skip) | refine LoadG.mkG ?_ | refine LoadsG.mkG ?_ | refine AtG.mkG ?_ | refine StoreG.mkG ?_ | refine CondG.mkG ?_ | fail); (all_goals (try dsimp only))
  refine cGet64_go hG y24 (by rw [List.length_drop]; omega) ?_
  rw [hcc]
  (try unfold vMov); repeat' (first | refine Step.imp ?_ | (refine Way.mk (fun hp => ?_) (fun hp => ?_) <;> first | contradiction | (exfalso; omega) | skip) | refine LoadG.mkG ?_ | refine LoadsG.mkG ?_ | refine AtG.mkG ?_ | refine StoreG.mkG ?_ | refine CondG.mkG ?_ | (refine LoadG.mk ev (by rfl) ?_) | fail); (all_goals (try dsimp only))
  rw [e1]
  exact hK h1 x1
/-- A head that counts. -/
theorem headsB_new (hR : cf 130 = cDRead) (hG : cf 131 = cGet64) (hH : cf 127 = cHead) (hE : cf 132 = cEqB) (v : VolW h vo p x k0 c0 ch br) (d : DevN h p q N E) {i : Nat} (hi : i < 2) (h2 : 2 ≤ N.length) {kk cc : Nat} (hB : N[i]? = some (headB kk cc)) (hk : kk ≤ 255) (hc : cc ≤ 255) (hnew : k0 < kk) (hmod : kk % 2 = i) (ih : AV → Hp → Prop)
    (hK : ∀ h', Kp h h' vo vo → VolW h' vo p x kk cc ch br → ih (I ((i + 1 : Nat) : Int)) h') : s_wal_Volume_headsB12 cf fuel ih (.ptr vo 0) (I i) h := by
  unfold s_wal_Volume_headsB12
  obtain ⟨w, e⟩ := v
  have e1 : ((i : Int) + 1) = ((i + 1 : Nat) : Int) := by omega
  have hi' : i < N.length := by omega
  rw [List.getElem?_eq_getElem hi'] at hB
  have hB := Option.some.inj hB
  have hBl := headB_len kk cc
  (try unfold vMov); repeat' (first | refine Step.imp ?_ | (refine Way.mk (fun hp => ?_) (fun hp => ?_) <;> first | contradiction | (exfalso; omega) | skip) | refine LoadG.mkG ?_ | refine LoadsG.mkG ?_ | refine AtG.mkG ?_ | refine StoreG.mkG ?_ | refine CondG.mkG ?_ | (refine LoadG.mk e (by rfl) ?_) | fail); (all_goals (try dsimp only))
  refine read_goN hR d hi' (fun v1 h1 x1 y1 z1 => ?_)
  rw [hB] at y1
  have ev : h1.at vo = some _ := (x1.same vo w).trans e
  (try unfold vMov); repeat' (first | refine Step.imp ?_ | (refine Way.mk (fun hp => ?_) (fun hp => ?_) <;> first | contradiction | (exfalso; omega) | skip) | refine LoadG.mkG ?_ | refine LoadsG.mkG ?_ | refine AtG.mkG ?_ | refine StoreG.mkG ?_ | refine CondG.mkG ?_ | fail); (all_goals (try dsimp only))
  refine cutlow_by y1 (i := 16) (by omega) (fun v16 y16 => ?_)
  refine cutlow_by y1 (i := 24) (by omega) (fun v24 y24 => ?_)
  refine cGet64_go hG y16 (by rw [List.length_drop]; omega) ?_
  rw [headB_drop16 kk cc hk]
  (try unfold vMov); repeat' (first | refine Step.imp ?_ | (refine Way.mk (fun hp => ?_) (fun hp => ?_) <;> first | contradiction | (exfalso; omega) | skip) | refine LoadG.mkG ?_ | refine LoadsG.mkG ?_ | refine AtG.mkG ?_ | refine StoreG.mkG ?_ | refine CondG.mkG ?_ | fail); (all_goals (try dsimp only))
  refine cGet64_go hG y24 (by rw [List.length_drop]; omega) ?_
  rw [headB_drop24 kk cc hc]
  (try unfold vMov); repeat' (first | refine Step.imp ?_ | (refine Way.mk (fun hp => ?_) (fun hp => ?_) <;> first | contradiction | (exfalso; omega) | skip) | refine LoadG.mkG ?_ | refine LoadsG.mkG ?_ | refine AtG.mkG ?_ | refine StoreG.mkG ?_ | refine CondG.mkG ?_ | (refine LoadG.mk ev (by rfl) ?_) | ((rw [vRem_int _ _ _ (by omega), Int.tmod_eq_emod_of_nonneg (by omega)])) | fail); (all_goals (try dsimp only))
  refine cHead_go hH ⟨by omega, by omega⟩ (fun v2 h2 x2 y2 => ?_)
  have ev2 : h2.at vo = some _ := (x2.same vo (Nat.lt_of_lt_of_le w x1.next)).trans ev
  (try unfold vMov); repeat' (first | refine Step.imp ?_ | (refine Way.mk (fun hp => ?_) (fun hp => ?_) <;> first | contradiction | (exfalso; omega) | skip) | refine LoadG.mkG ?_ | refine LoadsG.mkG ?_ | refine AtG.mkG ?_ | refine StoreG.mkG ?_ | refine CondG.mkG ?_ | (refine cEqB_go hE (y1.mono x2) y2 ?_) | fail); (all_goals (try dsimp only))
  rw [decide_eq_true rfl]
  (try unfold vMov); repeat' (first | refine Step.imp ?_ | (refine Way.mk (fun hp => ?_) (fun hp => ?_) <;> first | contradiction | (exfalso; omega) | skip) | refine LoadG.mkG ?_ | refine LoadsG.mkG ?_ | refine AtG.mkG ?_ | refine StoreG.mkG ?_ | refine CondG.mkG ?_ | (refine LoadG.mk ev2 (by rfl) ?_) | (refine StoreG.mk ev2 (by first | omega | (simp; done) | (simp; omega)) ?_) | fail); (all_goals (try dsimp only))
  rw [e1]
  have hs : ∀ (e1 e2 : Option Ent) (o : Nat), o ≠ vo → ((h2.put vo e1).put vo e2).at o = h2.at o := fun e1 e2 o ho => by rw [Hp.at_put_ne _ ho, Hp.at_put_ne _ ho]
  have k2 : ∀ (e1 e2 : Option Ent), Kp h2 ((h2.put vo e1).put vo e2) vo vo := fun e1 e2 => ⟨Nat.le_refl _, fun o _ q2 _ => hs _ _ o q2⟩
  have x12 := x1.trans x2
  refine hK _ ((Kp.ext vo vo x12).trans (k2 _ _)) ⟨by simp only [Hp.next_put]; exact Nat.lt_of_lt_of_le w x12.next, ?_⟩
  rw [Hp.at_put_self]
  rfl
def cVHeads : ConD := fun args h K => ∃ vo p q x k0 c0 ch br N E k c, args = [.ptr vo 0] ∧ VolW h vo p x k0 c0 ch br ∧ DevN h p q N E ∧ (vo ≠ p ∧ vo ≠ q) ∧ 2 ≤ N.length ∧ HeadsOK N k c ∧ ∀ h', Kp h h' vo vo → VolW h' vo p x k c ch br → K (I 0) h'
theorem cVHeads_go {cf : CallK} {g : FuncId} (hg : cf g = cVHeads) (v : VolW h vo p x k0 c0 ch br) (d : DevN h p q N E) (hne : vo ≠ p ∧ vo ≠ q) (h2 : 2 ≤ N.length) (hh : HeadsOK N k c) (hK : ∀ h', Kp h h' vo vo → VolW h' vo p x k c ch br → K (I 0) h') : cf g [.ptr vo 0] h K := by rw [hg]; exact ⟨vo, p, q, x, k0, c0, ch, br, N, E, k, c, rfl, v, d, hne, h2, hh, hK⟩
theorem heads_run (hR : cf 130 = cDRead) (hG : cf 131 = cGet64) (hH : cf 127 = cHead) (hE : cf 132 = cEqB) (v : VolW h vo p x k0 c0 ch br) (d : DevN h p q N E) (hne : vo ≠ p ∧ vo ≠ q) (h2 : 2 ≤ N.length) (hh : HeadsOK N k c) (hf : 3 < fuel) (hK : ∀ h', Kp h h' vo vo → VolW h' vo p x k c ch br → K (I 0) h') : s_wal_Volume_heads cf fuel (.ptr vo 0) h K := by
  unfold s_wal_Volume_heads
  obtain ⟨w, e⟩ := v
  have rv : RowAt h vo := ⟨_, _, e, Cells.row _⟩
  (try unfold vMov); repeat' (first | refine Step.imp ?_ | (refine Way.mk (fun hp => ?_) (fun hp => ?_) <;> first | contradiction | (exfalso; omega) | skip) | refine LoadG.mkG ?_ | refine LoadsG.mkG ?_ | refine AtG.mkG ?_ | refine StoreG.mkG ?_ | refine CondG.mkG ?_ | (refine StoreG.mk e (by first | omega | (simp; done) | (simp; omega)) ?_) | fail); (all_goals (try dsimp only))
  have hs : ∀ (e1 : Option Ent) (o : Nat), o ≠ vo → (h.put vo e1).at o = h.at o := fun e1 o ho => Hp.at_put_ne _ ho
  have k1 : ∀ e1 : Option Ent, Kp h (h.put vo e1) vo vo := fun e1 => ⟨Nat.le_refl _, fun o _ q2 _ => hs _ o q2⟩
  have hn1 : p ≠ vo ∧ p ≠ vo := ⟨fun e => hne.1 e.symm, fun e => hne.1 e.symm⟩
  have hn2 : q ≠ vo ∧ q ≠ vo := ⟨fun e => hne.2 e.symm, fun e => hne.2 e.symm⟩
  have vv : VolW (h.put vo (some ⟨true, 6, .row (setL [AV.ptr p 0, x, I k0, I c0, .bool ch, .bool br] 2 [I (-1)])⟩)) vo p x (-1) c0 ch br := ⟨w, by rw [Hp.at_put_self]; rfl⟩
  have dd := d.kp (k1 (some ⟨true, 6, .row (setL [AV.ptr p 0, x, I k0, I c0, .bool ch, .bool br] 2 [I (-1)])⟩)) rv rv hn1 hn2
  have kk1 := k1 (some ⟨true, 6, .row (setL [AV.ptr p 0, x, I k0, I c0, .bool ch, .bool br] 2 [I (-1)])⟩)
  simp only [Nat.zero_add]
  generalize (h.put vo (some ⟨true, 6, .row (setL [AV.ptr p 0, x, I k0, I c0, .bool ch, .bool br] 2 [I (-1)])⟩)) = hA at vv dd kk1 ⊢
  have fin : ∀ h' (kf cf' : Nat), Kp hA h' vo vo → VolW h' vo p x kf cf' ch br → kf = k ∧ cf' = c → s_wal_Volume_headsE0 cf fuel K (.ptr vo 0) h' := fun h' kf cf' q1 q2 q3 => by
    obtain ⟨rfl, rfl⟩ := q3
    unfold s_wal_Volume_headsE0
    have q2' := q2
    obtain ⟨_, e2⟩ := q2'
    (try unfold vMov); repeat' (first | refine Step.imp ?_ | (refine Way.mk (fun hp => ?_) (fun hp => ?_) <;> first | contradiction | (exfalso; omega) | skip) | refine LoadG.mkG ?_ | refine LoadsG.mkG ?_ | refine AtG.mkG ?_ | refine StoreG.mkG ?_ | refine CondG.mkG ?_ | (refine LoadG.mk e2 (by rfl) ?_) | fail); (all_goals (try dsimp only))
    exact hK h' (kk1.trans q1) q2
  obtain ⟨f, rfl⟩ : ∃ f, fuel = f + 3 := ⟨fuel - 3, by omega⟩
  obtain ⟨a0, b0, r1, r2, r3, r4, r5⟩ := hh
  rw [s_wal_Volume_headsL1_succ]
  unfold s_wal_Volume_headsL1B
  (try unfold vMov); repeat' (first | refine Step.imp ?_ | (refine Way.mk (fun hp => ?_) (fun hp => ?_) <;> first | contradiction | (exfalso; omega) | skip) | refine LoadG.mkG ?_ | refine LoadsG.mkG ?_ | refine AtG.mkG ?_ | refine StoreG.mkG ?_ | refine CondG.mkG ?_ | fail); (all_goals (try dsimp only))
  refine headsB_new cf (f + 3) hR hG hH hE vv dd (i := 0) (by omega) h2 r4 r1 r2 (by omega) r3 _ (fun hB kB vB => ?_)
  have rA : RowAt hA vo := vv.row
  have dB := dd.kp kB rA rA hn1 hn2
  rw [s_wal_Volume_headsL1_succ]
  unfold s_wal_Volume_headsL1B
  (try unfold vMov); repeat' (first | refine Step.imp ?_ | (refine Way.mk (fun hp => ?_) (fun hp => ?_) <;> first | contradiction | (exfalso; omega) | skip) | refine LoadG.mkG ?_ | refine LoadsG.mkG ?_ | refine AtG.mkG ?_ | refine StoreG.mkG ?_ | refine CondG.mkG ?_ | fail); (all_goals (try dsimp only))
  rcases r5 with ⟨s1, s2, s3⟩ | ⟨a1, b1, s1, s2, s3, s4, s5⟩
  · refine headsB_old cf (f + 3) hR hG vB dB (i := 1) (by omega) h2 s1 (kk := 0) (cc := 0) (by rfl) (by rfl) (by omega) (by omega) (by omega) _ (fun hC xC => ?_)
    rw [s_wal_Volume_headsL1_succ]
    unfold s_wal_Volume_headsL1B
    (try unfold vMov); repeat' (first | refine Step.imp ?_ | (refine Way.mk (fun hp => ?_) (fun hp => ?_) <;> first | contradiction | (exfalso; omega) | skip) | refine LoadG.mkG ?_ | refine LoadsG.mkG ?_ | refine AtG.mkG ?_ | refine StoreG.mkG ?_ | refine CondG.mkG ?_ | fail); (all_goals (try dsimp only))
    exact fin hC a0 b0 (kB.trans (Kp.ext vo vo xC)) ⟨Nat.lt_of_lt_of_le vB.1 xC.next, (xC.same vo vB.1).trans vB.2⟩ ⟨s2.symm, s3.symm⟩
  · rcases s5 with ⟨t1, t2, t3⟩ | ⟨t1, t2, t3⟩
    · refine headsB_new cf (f + 3) hR hG hH hE vB dB (i := 1) (by omega) h2 s4 s1 s2 (by omega) s3 _ (fun hC kC vC => ?_)
      rw [s_wal_Volume_headsL1_succ]
      unfold s_wal_Volume_headsL1B
      (try unfold vMov); repeat' (first | refine Step.imp ?_ | (refine Way.mk (fun hp => ?_) (fun hp => ?_) <;> first | contradiction | (exfalso; omega) | skip) | refine LoadG.mkG ?_ | refine LoadsG.mkG ?_ | refine AtG.mkG ?_ | refine StoreG.mkG ?_ | refine CondG.mkG ?_ | fail); (all_goals (try dsimp only))
      exact fin hC a1 b1 (kB.trans kC) vC ⟨t2.symm, t3.symm⟩
    · refine headsB_old cf (f + 3) hR hG vB dB (i := 1) (by omega) h2 s4 (headB_drop16 _ _ s1) (headB_drop24 _ _ s2) s1 s2 (by omega) _ (fun hC xC => ?_)
      rw [s_wal_Volume_headsL1_succ]
      unfold s_wal_Volume_headsL1B
      (try unfold vMov); repeat' (first | refine Step.imp ?_ | (refine Way.mk (fun hp => ?_) (fun hp => ?_) <;> first | contradiction | (exfalso; omega) | skip) | refine LoadG.mkG ?_ | refine LoadsG.mkG ?_ | refine AtG.mkG ?_ | refine StoreG.mkG ?_ | refine CondG.mkG ?_ | fail); (all_goals (try dsimp only))
      exact fin hC a0 b0 (kB.trans (Kp.ext vo vo xC)) ⟨Nat.lt_of_lt_of_le vB.1 xC.next, (xC.same vo vB.1).trans vB.2⟩ ⟨t2.symm, t3.symm⟩
end
end Lg

namespace Lg
set_option linter.unusedSimpArgs false
set_option linter.unusedVariables false
set_option maxRecDepth 100000
open Go Go.Am
open Go.Proofs.Ytnhamanffojhfaa.shl
theorem funcV_go {h : Hp} {K : AV → Hp → Prop} {f : FuncId} {a c : List AV} (q : K (.func f a c) h) : vFunc f a c h K := q
theorem callV_go {h : Hp} {K : AV → Hp → Prop} {cf : CallK} {f : FuncId} {x : AV} (q : cf f [x] h K) : vCallV (.func f [x] []) [] cf h K := q
section
variable (cf : CallK) (fuel : Nat) {h : Hp} {K : AV → Hp → Prop} {vo wo p q : Nat} {N E : List (List UInt8)} {k c : Nat}
def cMount : ConD := fun args h K => ∃ p q N E k c, args = [.ptr p 0] ∧ DevN h p q N E ∧ 16 ≤ N.length ∧ HeadsOK N k c ∧ ∀ vo wo h', Ext h h' → h.next ≤ vo → h.next ≤ wo → VolR h' vo wo p (sideN N (roomN N.length) k) k c false false → K (.tup [.ptr vo 0, I 0]) h'
theorem cMount_go {cf : CallK} {g : FuncId} (hg : cf g = cMount) (d : DevN h p q N E) (hN : 16 ≤ N.length) (hh : HeadsOK N k c) (hK : ∀ vo wo h', Ext h h' → h.next ≤ vo → h.next ≤ wo → VolR h' vo wo p (sideN N (roomN N.length) k) k c false false → K (.tup [.ptr vo 0, I 0]) h') : cf g [.ptr p 0] h K := by rw [hg]; exact ⟨p, q, N, E, k, c, rfl, d, hN, hh, hK⟩
theorem HeadsOK.small (hh : HeadsOK N k c) : k ≤ 255 ∧ c ≤ 255 := by
  obtain ⟨a0, b0, r1, r2, r3, r4, ⟨s1, s2, s3⟩ | ⟨a1, b1, s1, s2, s3, s4, ⟨t1, t2, t3⟩ | ⟨t1, t2, t3⟩⟩⟩ := hh <;> omega
theorem Mount_run (hL : cf 92 = cVLarge) (hA : cf 93 = cVAlive) (hH : cf 94 = cVHeads) (hB : cf 95 = cVBlk) (d : DevN h p q N E) (hN : 16 ≤ N.length) (hh : HeadsOK N k c) (hf : 10 < fuel) (hK : ∀ vo wo h', Ext h h' → h.next ≤ vo → h.next ≤ wo → VolR h' vo wo p (sideN N (roomN N.length) k) k c false false → K (.tup [.ptr vo 0, I 0]) h') : s_wal_Mount cf fuel (.ptr p 0) h K := by
  unfold s_wal_Mount
  obtain ⟨rp, rq, pl, ql, _⟩ := d.rows
  obtain ⟨k1, c1⟩ := hh.small
  (try unfold vMov); repeat' (first | refine Step.imp ?_ | (refine Way.mk (fun hp => ?_) (fun hp => ?_) <;> first | contradiction | (exfalso; omega) | skip) | refine LoadG.mkG ?_ | refine LoadsG.mkG ?_ | refine AtG.mkG ?_ | refine StoreG.mkG ?_ | refine CondG.mkG ?_ | (refine funcV_go ?_) | (refine stFill_aux _ _ _ _ _ _ _ rfl ⟨⟨rfl, by simp [setL, repL]⟩, ?_⟩) | fail); (all_goals (try dsimp only))
  have xM : ∀ e1 e2 : Ent, Ext h ((h.new e1).new e2) := fun e1 e2 => (by repeat (first | exact Ext.refl _ | assumption | apply Ext.new | (refine Ext.put ?_ _ (by first | omega | (simp; done) | (simp; omega)))))
  have rM : ∀ e1 e2 : Ent, ((h.new e1).new e2).at h.next = some e1 := fun e1 e2 => by rw [Hp.at_new_lt _ (by simp only [Hp.next_new]; omega), Hp.at_new_self]
  have cM : ∀ e1 e2 : Ent, ((h.new e1).new e2).at (h.next + 1) = some e2 := fun e1 e2 => Hp.at_new_self (h.new e1) e2
  have nM : ∀ e1 e2 : Ent, ((h.new e1).new e2).next = h.next + 2 := fun e1 e2 => rfl
  simp only [Hp.next_new]
  generalize hE1 : (⟨true, 6, .row (setL [AV.nilptr, .nilslice, I 0, I 0, .bool false, .bool false] 0 [.ptr p 0])⟩ : Ent) = E1
  generalize hE2 : (⟨true, 1, .row (setL (setL (setL (setL (repL [AV.nilfunc] 4) 0 [.func 92 [.ptr h.next 0] []]) 1 [.func 93 [.ptr h.next 0] []]) 2 [.func 94 [.ptr h.next 0] []]) 3 [.func 95 [.ptr h.next 0] []])⟩ : Ent) = E2
  replace xM := xM E1 E2
  replace rM := rM E1 E2
  replace cM := cM E1 E2
  replace nM := nM E1 E2
  generalize (h.new E1).new E2 = hM at *
  have vM : VolW hM h.next p .nilslice 0 0 false false := ⟨by omega, by rw [rM, ← hE1]; rfl⟩
  have dM := d.ext xM
  have cM' : hM.at (h.next + 1) = some ⟨true, 1, .row [.func 92 [.ptr h.next 0] [], .func 93 [.ptr h.next 0] [], .func 94 [.ptr h.next 0] [], .func 95 [.ptr h.next 0] []]⟩ := by rw [cM, ← hE2]; rfl
  have hne : h.next ≠ p ∧ h.next ≠ q := ⟨by omega, by omega⟩
  obtain ⟨f, rfl⟩ : ∃ f, fuel = f + 5 := ⟨fuel - 5, by omega⟩
  rw [s_wal_MountL1_succ]
  unfold s_wal_MountL1B
  (try unfold vMov); repeat' (first | refine Step.imp ?_ | (refine Way.mk (fun hp => ?_) (fun hp => ?_) <;> first | contradiction | (exfalso; omega) | skip) | refine LoadG.mkG ?_ | refine LoadsG.mkG ?_ | refine AtG.mkG ?_ | refine StoreG.mkG ?_ | refine CondG.mkG ?_ | fail); (all_goals (try dsimp only))
  refine LoadG.mk cM' (by rfl) ?_
  refine callV_go ?_
  refine cVLarge_go hL vM dM hN ?_
  (try unfold vMov); repeat' (first | refine Step.imp ?_ | (refine Way.mk (fun hp => ?_) (fun hp => ?_) <;> first | contradiction | (exfalso; omega) | skip) | refine LoadG.mkG ?_ | refine LoadsG.mkG ?_ | refine AtG.mkG ?_ | refine StoreG.mkG ?_ | refine CondG.mkG ?_ | fail); (all_goals (try dsimp only))
  rw [s_wal_MountL1_succ]
  unfold s_wal_MountL1B
  (try unfold vMov); repeat' (first | refine Step.imp ?_ | (refine Way.mk (fun hp => ?_) (fun hp => ?_) <;> first | contradiction | (exfalso; omega) | skip) | refine LoadG.mkG ?_ | refine LoadsG.mkG ?_ | refine AtG.mkG ?_ | refine StoreG.mkG ?_ | refine CondG.mkG ?_ | fail); (all_goals (try dsimp only))
  refine LoadG.mk cM' (by rfl) ?_
  refine callV_go ?_
  refine cVAlive_go hA vM dM ?_
  (try unfold vMov); repeat' (first | refine Step.imp ?_ | (refine Way.mk (fun hp => ?_) (fun hp => ?_) <;> first | contradiction | (exfalso; omega) | skip) | refine LoadG.mkG ?_ | refine LoadsG.mkG ?_ | refine AtG.mkG ?_ | refine StoreG.mkG ?_ | refine CondG.mkG ?_ | fail); (all_goals (try dsimp only))
  rw [s_wal_MountL1_succ]
  unfold s_wal_MountL1B
  (try unfold vMov); repeat' (first | refine Step.imp ?_ | (refine Way.mk (fun hp => ?_) (fun hp => ?_) <;> first | contradiction | (exfalso; omega) | skip) | refine LoadG.mkG ?_ | refine LoadsG.mkG ?_ | refine AtG.mkG ?_ | refine StoreG.mkG ?_ | refine CondG.mkG ?_ | fail); (all_goals (try dsimp only))
  refine LoadG.mk cM' (by rfl) ?_
  refine callV_go ?_
  refine cVHeads_go hH vM dM hne (by omega) hh (fun hX kX vX => ?_)
  have dX := dM.kp kX vM.row vM.row ⟨fun e => hne.1 e.symm, fun e => hne.1 e.symm⟩ ⟨fun e => hne.2 e.symm, fun e => hne.2 e.symm⟩
  have cX : hX.at (h.next + 1) = some _ := (kX.2 (h.next + 1) (by omega) (by omega) (by omega)).trans cM'
  (try unfold vMov); repeat' (first | refine Step.imp ?_ | (refine Way.mk (fun hp => ?_) (fun hp => ?_) <;> first | contradiction | (exfalso; omega) | skip) | refine LoadG.mkG ?_ | refine LoadsG.mkG ?_ | refine AtG.mkG ?_ | refine StoreG.mkG ?_ | refine CondG.mkG ?_ | fail); (all_goals (try dsimp only))
  rw [s_wal_MountL1_succ]
  unfold s_wal_MountL1B
  (try unfold vMov); repeat' (first | refine Step.imp ?_ | (refine Way.mk (fun hp => ?_) (fun hp => ?_) <;> first | contradiction | (exfalso; omega) | skip) | refine LoadG.mkG ?_ | refine LoadsG.mkG ?_ | refine AtG.mkG ?_ | refine StoreG.mkG ?_ | refine CondG.mkG ?_ | fail); (all_goals (try dsimp only))
  refine LoadG.mk cX (by rfl) ?_
  refine callV_go ?_
  refine cVBlk_go hB vX dX hne hN (by omega) (fun wo hY kY wY vY => ?_)
  (try unfold vMov); repeat' (first | refine Step.imp ?_ | (refine Way.mk (fun hp => ?_) (fun hp => ?_) <;> first | contradiction | (exfalso; omega) | skip) | refine LoadG.mkG ?_ | refine LoadsG.mkG ?_ | refine AtG.mkG ?_ | refine StoreG.mkG ?_ | refine CondG.mkG ?_ | fail); (all_goals (try dsimp only))
  rw [s_wal_MountL1_succ]
  unfold s_wal_MountL1B
  (try unfold vMov); repeat' (first | refine Step.imp ?_ | (refine Way.mk (fun hp => ?_) (fun hp => ?_) <;> first | contradiction | (exfalso; omega) | skip) | refine LoadG.mkG ?_ | refine LoadsG.mkG ?_ | refine AtG.mkG ?_ | refine StoreG.mkG ?_ | refine CondG.mkG ?_ | fail); (all_goals (try dsimp only))
  unfold s_wal_MountE0
  have nX := kX.1
  refine hK h.next wo hY ⟨?_, fun o ho => ?_⟩ (Nat.le_refl _) (by omega) vY
  · have := kY.1
    omega
  · rw [kY.2 o (by omega) (by omega) (by omega), kX.2 o (by omega) (by omega) (by omega), xM.same o ho]
end
end Lg

namespace Lg
set_option linter.unusedSimpArgs false
set_option linter.unusedVariables false
set_option maxRecDepth 100000
open Go Go.Am
open Go.Proofs.Ytnhamanffojhfaa.shl
def zeroN (n : Nat) : List (List UInt8) := List.replicate n zeroB
def fmtN (n : Nat) : List (List UInt8) := (zeroN n).set 0 (headB 0 0)
theorem zeroN_set (n i : Nat) : (zeroN n).set i zeroB = zeroN n := by
  refine List.ext_getElem (by simp) fun j h1 h2 => ?_
  rw [List.getElem_set]
  split <;> simp [zeroN]
theorem zeroN_len (n : Nat) : (zeroN n).length = n := by simp [zeroN]
theorem zeroB_len : zeroB.length = 512 := by simp [zeroB]
section
variable (cf : CallK) (fuel : Nat) {h : Hp} {K : AV → Hp → Prop} {vo wo p q : Nat} {N E : List (List UInt8)} {k c n : Nat}
theorem FormatL7_run (hW : cf 124 = cWrote) {h0 : Hp} {t3 : AV} (hz : ByH h0 t3 zeroB) (rp : RowAt h0 p) (rq : RowAt h0 q) (hn : 16 ≤ n) (e0 : Hp → Prop) (he : ∀ h', Kp h0 h' p q → DevN h' p q (zeroN n) E → e0 h') :
    ∀ (d i fm : Nat) (h : Hp), i + d = 2 → d < fm → Kp h0 h p q → DevN h p q (zeroN n) E → s_wal_FormatL7 cf fuel K e0 (.ptr p 0) t3 fm (I i) h
  | d, i, fm, h, hd, hm, kp, dv => by
    obtain ⟨fm, rfl⟩ : ∃ j, fm = j + 1 := ⟨fm - 1, by omega⟩
    rw [s_wal_FormatL7_succ]
    unfold s_wal_FormatL7B
    have hl := zeroN_len n
    by_cases hi : i < 2
    · obtain ⟨d, rfl⟩ : ∃ j, d = j + 1 := ⟨d - 1, by omega⟩
      have e1 : ((i : Int) + 1) = ((i + 1 : Nat) : Int) := by omega
      (try unfold vMov); repeat' (first | refine Step.imp ?_ | (refine Way.mk (fun hp => ?_) (fun hp => ?_) <;> first | contradiction | (exfalso; omega) | skip) | refine LoadG.mkG ?_ | refine LoadsG.mkG ?_ | refine AtG.mkG ?_ | refine StoreG.mkG ?_ | refine CondG.mkG ?_ | fail); (all_goals (try dsimp only))
      refine cWrote_go hW dv (by omega) (hz.kp kp rp rq) zeroB_len (fun h1 k1 d1 => ?_)
      rw [zeroN_set] at d1
      (try unfold vMov); repeat' (first | refine Step.imp ?_ | (refine Way.mk (fun hp => ?_) (fun hp => ?_) <;> first | contradiction | (exfalso; omega) | skip) | refine LoadG.mkG ?_ | refine LoadsG.mkG ?_ | refine AtG.mkG ?_ | refine StoreG.mkG ?_ | refine CondG.mkG ?_ | fail); (all_goals (try dsimp only))
      rw [e1]
      exact FormatL7_run hW hz rp rq hn e0 he d (i + 1) fm h1 (by omega) (by omega) (kp.trans k1) d1
    · have hd : d = 0 := by omega
      subst hd
      (try unfold vMov); repeat' (first | refine Step.imp ?_ | (refine Way.mk (fun hp => ?_) (fun hp => ?_) <;> first | contradiction | (exfalso; omega) | skip) | refine LoadG.mkG ?_ | refine LoadsG.mkG ?_ | refine AtG.mkG ?_ | refine StoreG.mkG ?_ | refine CondG.mkG ?_ | fail); (all_goals (try dsimp only))
      exact he h kp dv
theorem FormatL5_run (hW : cf 124 = cWrote) {h0 : Hp} {t3 : AV} (hz : ByH h0 t3 zeroB) (rp : RowAt h0 p) (rq : RowAt h0 q) (hn : 16 ≤ n) (hn2 : n ≤ 65536) (e0 : Hp → Prop) (he : ∀ h', Kp h0 h' p q → DevN h' p q (zeroN n) E → e0 h') :
    ∀ (d i fm : Nat) (h : Hp), i + d = roomN n → d < fm → Kp h0 h p q → DevN h p q (zeroN n) E → s_wal_FormatL5 cf fuel K e0 (.ptr p 0) t3 (I (roomN n)) fm (I i) h
  | d, i, fm, h, hd, hm, kp, dv => by
    obtain ⟨fm, rfl⟩ : ∃ j, fm = j + 1 := ⟨fm - 1, by omega⟩
    rw [s_wal_FormatL5_succ]
    unfold s_wal_FormatL5B
    have hl := zeroN_len n
    have hr := roomN_fits n hn
    by_cases hi : i < roomN n
    · obtain ⟨d, rfl⟩ : ∃ j, d = j + 1 := ⟨d - 1, by omega⟩
      have e1 : ((i : Int) + 1) = ((i + 1 : Nat) : Int) := by omega
      have e8 : (8 + (i : Int)) = ((8 + i : Nat) : Int) := by omega
      (try unfold vMov); repeat' (first | refine Step.imp ?_ | (refine Way.mk (fun hp => ?_) (fun hp => ?_) <;> first | contradiction | (exfalso; omega) | skip) | refine LoadG.mkG ?_ | refine LoadsG.mkG ?_ | refine AtG.mkG ?_ | refine StoreG.mkG ?_ | refine CondG.mkG ?_ | fail); (all_goals (try dsimp only))
      rw [e8]
      refine cWrote_go hW dv (by omega) (hz.kp kp rp rq) zeroB_len (fun h1 k1 d1 => ?_)
      rw [zeroN_set] at d1
      (try unfold vMov); repeat' (first | refine Step.imp ?_ | (refine Way.mk (fun hp => ?_) (fun hp => ?_) <;> first | contradiction | (exfalso; omega) | skip) | refine LoadG.mkG ?_ | refine LoadsG.mkG ?_ | refine AtG.mkG ?_ | refine StoreG.mkG ?_ | refine CondG.mkG ?_ | fail); (all_goals (try dsimp only))
      rw [e1]
      exact FormatL5_run hW hz rp rq hn hn2 e0 he d (i + 1) fm h1 (by omega) (by omega) (kp.trans k1) d1
    · have hd : d = 0 := by omega
      subst hd
      (try unfold vMov); repeat' (first | refine Step.imp ?_ | (refine Way.mk (fun hp => ?_) (fun hp => ?_) <;> first | contradiction | (exfalso; omega) | skip) | refine LoadG.mkG ?_ | refine LoadsG.mkG ?_ | refine AtG.mkG ?_ | refine StoreG.mkG ?_ | refine CondG.mkG ?_ | fail); (all_goals (try dsimp only))
      exact he h kp dv
def cFormat : ConD := fun args h K => ∃ p q n E, args = [.ptr p 0] ∧ DevN h p q (zeroN n) E ∧ 16 ≤ n ∧ ∀ h', Kp h h' p q → DevN h' p q (fmtN n) (fmtN n) → K (I 0) h'
theorem cFormat_go {cf : CallK} {g : FuncId} (hg : cf g = cFormat) (d : DevN h p q (zeroN n) E) (hn : 16 ≤ n) (hK : ∀ h', Kp h h' p q → DevN h' p q (fmtN n) (fmtN n) → K (I 0) h') : cf g [.ptr p 0] h K := by rw [hg]; exact ⟨p, q, n, E, rfl, d, hn, hK⟩
theorem Format_run (hR : cf 123 = cRoom) (hW : cf 124 = cWrote) (hF : cf 125 = cFlush) (hWr : cf 126 = cWrite) (hH : cf 127 = cHead) (d : DevN h p q (zeroN n) E) (hn : 16 ≤ n) (hf : 65536 < fuel) (hK : ∀ h', Kp h h' p q → DevN h' p q (fmtN n) (fmtN n) → K (I 0) h') : s_wal_Format cf fuel (.ptr p 0) h K := by
  unfold s_wal_Format
  obtain ⟨rp, rq, pl, ql, _⟩ := d.rows
  have hl := zeroN_len n
  have hr := roomN_fits n hn
  obtain ⟨_, _, hn2⟩ := d.len
  rw [hl] at hn2
  refine cRoom_go hR d ?_
  rw [hl]
  (try unfold vMov); repeat' (first | refine Step.imp ?_ | (refine Way.mk (fun hp => ?_) (fun hp => ?_) <;> first | contradiction | (exfalso; omega) | skip) | refine LoadG.mkG ?_ | refine LoadsG.mkG ?_ | refine AtG.mkG ?_ | refine StoreG.mkG ?_ | refine CondG.mkG ?_ | (refine mkBytes_go (n := 512) (by omega) ?_) | fail); (all_goals (try dsimp only))
  have xA : Ext h (h.new ⟨true, 1, .byts 512 0⟩) := (by repeat (first | exact Ext.refl _ | assumption | apply Ext.new | (refine Ext.put ?_ _ (by first | omega | (simp; done) | (simp; omega)))))
  have hz : ByH (h.new ⟨true, 1, .byts 512 0⟩) (.slice h.next 0 512 true 512) zeroB := by
    refine .inr (.inr ⟨h.next, 0, true, 512, _, 512, 0, rfl, by simp [Hp.next_new], Hp.at_new_self _ _, rfl, by simp [zeroB], by simp [zeroB], ?_⟩)
    rw [bytesL_zero]
    rfl
  generalize (h.new ⟨true, 1, .byts 512 0⟩) = hA at *
  have dA := d.ext xA
  obtain ⟨rp1, rq1, _, _, _⟩ := dA.rows
  refine FormatL7_run cf fuel hW (h0 := hA) hz rp1 rq1 hn _ (fun hB kB dB => ?_) 2 0 fuel hA (by omega) (by omega) ⟨Nat.le_refl _, fun _ _ _ _ => rfl⟩ dA
  unfold s_wal_FormatE0
  refine flush_goN hF dB (fun hC kC dC => ?_)
  (try unfold vMov); repeat' (first | refine Step.imp ?_ | (refine Way.mk (fun hp => ?_) (fun hp => ?_) <;> first | contradiction | (exfalso; omega) | skip) | refine LoadG.mkG ?_ | refine LoadsG.mkG ?_ | refine AtG.mkG ?_ | refine StoreG.mkG ?_ | refine CondG.mkG ?_ | fail); (all_goals (try dsimp only))
  refine cRoom_go hR dC ?_
  rw [hl]
  have kBC := kB.trans kC
  obtain ⟨rp2, rq2, _, _, _⟩ := dC.rows
  have hzC := hz.kp kBC rp1 rq1
  refine FormatL5_run cf fuel hW (h0 := hC) hzC rp2 rq2 hn hn2 _ (fun hD kD dD => ?_) (roomN n) 0 fuel hC (by omega) (by omega) ⟨Nat.le_refl _, fun _ _ _ _ => rfl⟩ dC
  unfold s_wal_FormatE1
  refine flush_goN hF dD (fun hE kE dE => ?_)
  refine cHead_go (k := 0) (c := 0) hH ⟨by omega, by omega⟩ (fun v1 hF1 xF yF => ?_)
  have dF := dE.ext xF
  refine write_goN (i := 0) hWr dF (by omega) yF (headB_len _ _) (fun hG kG dG => ?_)
  refine flush_goN hF dG (fun hI kI dI => ?_)
  have kall : Kp h hI p q := ((((((Kp.ext p q xA).trans kBC).trans kD).trans kE).trans (Kp.ext p q xF)).trans kG).trans kI
  obtain ⟨f, rfl⟩ : ∃ f, fuel = f + 4 := ⟨fuel - 4, by omega⟩
  (try unfold vMov); repeat' (first | refine Step.imp ?_ | (refine Way.mk (fun hp => ?_) (fun hp => ?_) <;> first | contradiction | (exfalso; omega) | skip) | refine LoadG.mkG ?_ | refine LoadsG.mkG ?_ | refine AtG.mkG ?_ | refine StoreG.mkG ?_ | refine CondG.mkG ?_ | fail); (all_goals (try dsimp only))
  rw [s_wal_FormatL3_succ]
  unfold s_wal_FormatL3B
  (try unfold vMov); repeat' (first | refine Step.imp ?_ | (refine Way.mk (fun hp => ?_) (fun hp => ?_) <;> first | contradiction | (exfalso; omega) | skip) | refine LoadG.mkG ?_ | refine LoadsG.mkG ?_ | refine AtG.mkG ?_ | refine StoreG.mkG ?_ | refine CondG.mkG ?_ | fail); (all_goals (try dsimp only))
  rw [s_wal_FormatL3_succ]
  unfold s_wal_FormatL3B
  (try unfold vMov); repeat' (first | refine Step.imp ?_ | (refine Way.mk (fun hp => ?_) (fun hp => ?_) <;> first | contradiction | (exfalso; omega) | skip) | refine LoadG.mkG ?_ | refine LoadsG.mkG ?_ | refine AtG.mkG ?_ | refine StoreG.mkG ?_ | refine CondG.mkG ?_ | fail); (all_goals (try dsimp only))
  rw [s_wal_FormatL3_succ]
  unfold s_wal_FormatL3B
  (try unfold vMov); repeat' (first | refine Step.imp ?_ | (refine Way.mk (fun hp => ?_) (fun hp => ?_) <;> first | contradiction | (exfalso; omega) | skip) | refine LoadG.mkG ?_ | refine LoadsG.mkG ?_ | refine AtG.mkG ?_ | refine StoreG.mkG ?_ | refine CondG.mkG ?_ | fail); (all_goals (try dsimp only))
  rw [s_wal_FormatL3_succ]
  unfold s_wal_FormatL3B
  (try unfold vMov); repeat' (first | refine Step.imp ?_ | (refine Way.mk (fun hp => ?_) (fun hp => ?_) <;> first | contradiction | (exfalso; omega) | skip) | refine LoadG.mkG ?_ | refine LoadsG.mkG ?_ | refine AtG.mkG ?_ | refine StoreG.mkG ?_ | refine CondG.mkG ?_ | fail); (all_goals (try dsimp only))
  unfold s_wal_FormatE2
  refine hK _ (kall.trans (Kp.ext p q (by repeat (first | exact Ext.refl _ | assumption | apply Ext.new | (refine Ext.put ?_ _ (by first | omega | (simp; done) | (simp; omega))))))) (DevN.ext dI (by repeat (first | exact Ext.refl _ | assumption | apply Ext.new | (refine Ext.put ?_ _ (by first | omega | (simp; done) | (simp; omega))))))
end
end Lg

namespace Lg
set_option linter.unusedSimpArgs false
set_option linter.unusedVariables false
set_option maxRecDepth 100000
open Go Go.Am
open Go.Proofs.Ytnhamanffojhfaa.shl
def sizeN (n : Int) : Nat := 16 + ((if n < 0 then -(n + 1) else n) % 120).toNat
theorem sizeN_bound (n : Int) : 16 ≤ sizeN n ∧ sizeN n ≤ 135 := by unfold sizeN; omega
theorem cellsO_sub1 {ob : AObj} {off : Nat} {a : AV} (h : cellsO ob 1 off = some [a]) : cellAt ob off = some a := by
  unfold cellsO at h
  cases hc : cellAt ob off with
  | none => rw [hc] at h; simp at h
  | some b =>
    rw [hc] at h
    simp [cellsO] at h
    rw [h]
/-- A list of blocks as it is read. -/
def LisR (h : Hp) (els : List (List AV)) (L : List (List UInt8)) : Prop := els.length = L.length ∧ ∀ j (h1 : j < els.length) (h2 : j < L.length), ∃ a, els[j] = [a] ∧ ByH h a L[j]
theorem LisR.mono {h h' : Hp} {els : List (List AV)} {L : List (List UInt8)} (r : LisR h els L) (x : Ext h h') : LisR h' els L := ⟨r.1, fun j h1 h2 => by
  obtain ⟨a, q1, q2⟩ := r.2 j h1 h2
  exact ⟨a, q1, q2.mono x⟩⟩
section
variable (cf : CallK) (fuel : Nat) {h : Hp} {K : AV → Hp → Prop} {vo wo p q : Nat} {L N E : List (List UInt8)} {k c : Nat} {ch br : Bool}
def cSizeL : ConD := fun args h K => ∃ n : Int, args = [I n] ∧ (-9223372036854775808 ≤ n ∧ n ≤ 9223372036854775807) ∧ K (I (sizeN n)) h
theorem cSizeL_go {cf : CallK} {g : FuncId} (hg : cf g = cSizeL) {n : Int} (hn : -9223372036854775808 ≤ n ∧ n ≤ 9223372036854775807) (hK : K (I (sizeN n)) h) : cf g [I n] h K := by rw [hg]; exact ⟨n, rfl, hn, hK⟩
theorem SizeL_run {n : Int} (hn : -9223372036854775808 ≤ n ∧ n ≤ 9223372036854775807) (hK : K (I (sizeN n)) h) : s_lagoonlaw6_Size cf fuel (I n) h K := by
  unfold s_lagoonlaw6_Size
  obtain ⟨n1, n2⟩ := hn
  by_cases hz : n < 0
  · have e : ((sizeN n : Nat) : Int) = 16 + (-(n + 1)) % 120 := by unfold sizeN; rw [if_pos hz]; omega
    rw [e] at hK
    (try unfold vMov); repeat' (first | refine Step.imp ?_ | (refine Way.mk (fun hp => ?_) (fun hp => ?_) <;> first | contradiction | (exfalso; omega) | skip) | refine LoadG.mkG ?_ | refine LoadsG.mkG ?_ | refine AtG.mkG ?_ | refine StoreG.mkG ?_ | refine CondG.mkG ?_ | ((rw [vNeg_int, wrap64_in (by omega) (by omega)])) | ((rw [vRem_int _ _ _ (by omega), Int.tmod_eq_emod_of_nonneg (by omega)])) | fail); (all_goals (try dsimp only))
    exact hK
  · have e : ((sizeN n : Nat) : Int) = 16 + n % 120 := by unfold sizeN; rw [if_neg hz]; omega
    rw [e] at hK
    (try unfold vMov); repeat' (first | refine Step.imp ?_ | (refine Way.mk (fun hp => ?_) (fun hp => ?_) <;> first | contradiction | (exfalso; omega) | skip) | refine LoadG.mkG ?_ | refine LoadsG.mkG ?_ | refine AtG.mkG ?_ | refine StoreG.mkG ?_ | refine CondG.mkG ?_ | ((rw [vRem_int _ _ _ (by omega), Int.tmod_eq_emod_of_nonneg (by omega)])) | fail); (all_goals (try dsimp only))
    exact hK
def cIsV : ConD := fun args h K => ∃ vo wo p L k c ch br v els, args = [.ptr vo 0, v] ∧ VolR h vo wo p L k c ch br ∧ Rd h 1 v els ∧ LisR h els L ∧ ∀ h', Ext h h' → K (.bool true) h'
theorem cIsV_go {cf : CallK} {g : FuncId} (hg : cf g = cIsV) (vr : VolR h vo wo p L k c ch br) {v : AV} {els : List (List AV)} (hr : Rd h 1 v els) (hl : LisR h els L) (hK : ∀ h', Ext h h' → K (.bool true) h') : cf g [.ptr vo 0, v] h K := by rw [hg]; exact ⟨vo, wo, p, L, k, c, ch, br, v, els, rfl, vr, hr, hl, hK⟩
theorem isL1_run (hR : cf 88 = cVRead) {h0 : Hp} (vr : VolR h0 vo wo p L k c ch br) {v : AV} {els : List (List AV)} (hr : Rd h0 1 v els) (hl : LisR h0 els L) (e0 : Hp → Prop) (he : ∀ h', Ext h0 h' → e0 h') :
    ∀ (d i fm : Nat) (h : Hp), i + d = els.length → d < fm → Ext h0 h → s_lagoonlaw6_isL1 cf fuel K e0 (.ptr vo 0) v fm (I i) h
  | d, i, fm, h, hd, hm, hx => by
    obtain ⟨fm, rfl⟩ : ∃ j, fm = j + 1 := ⟨fm - 1, by omega⟩
    rw [s_lagoonlaw6_isL1_succ]
    unfold s_lagoonlaw6_isL1B
    have hl1 := hl.1
    have hsm := vr.small
    rw [rdLen hr]
    try dsimp only
    by_cases hi : i < els.length
    · obtain ⟨d, rfl⟩ : ∃ j, d = j + 1 := ⟨d - 1, by omega⟩
      have e1 : ((i : Int) + 1) = ((i + 1 : Nat) : Int) := by omega
      (try unfold vMov); repeat' (first | refine Step.imp ?_ | (refine Way.mk (fun hp => ?_) (fun hp => ?_) <;> first | contradiction | (exfalso; omega) | skip) | refine LoadG.mkG ?_ | refine LoadsG.mkG ?_ | refine AtG.mkG ?_ | refine StoreG.mkG ?_ | refine CondG.mkG ?_ | fail); (all_goals (try dsimp only))
      unfold s_lagoonlaw6_isB11
      refine cVRead_go hR (vr.ext hx) (fun hi2 v1 h1 x1 y1 => ?_) (fun hbad => by omega)
      have hx1 := hx.trans x1
      obtain ⟨o, off, kn, c', e, rfl, hat, hc⟩ := (hr.mono hx1).openS hi
      have ci := hc i hi
      obtain ⟨a, ha, hd2⟩ := (hl.mono hx1).2 i hi hi2
      rw [ha] at ci
      have c0 : cellAt e.obj (off + i * 1) = some a := by
        have := cellsO_sub1 ci
        exact this
      (try unfold vMov); repeat' (first | refine Step.imp ?_ | (refine Way.mk (fun hp => ?_) (fun hp => ?_) <;> first | contradiction | (exfalso; omega) | skip) | refine LoadG.mkG ?_ | refine LoadsG.mkG ?_ | refine AtG.mkG ?_ | refine StoreG.mkG ?_ | refine CondG.mkG ?_ | (refine toStrB_go y1 ?_) | (refine LoadG.mk2 hat c0 (by omega) ?_) | (refine toStrB_go hd2 ?_) | fail); (all_goals (try dsimp only))
      rw [e1]
      exact isL1_run hR vr hr hl e0 he d (i + 1) fm h1 (by omega) (by omega) hx1
    · have hd0 : d = 0 := by omega
      subst hd0
      (try unfold vMov); repeat' (first | refine Step.imp ?_ | (refine Way.mk (fun hp => ?_) (fun hp => ?_) <;> first | contradiction | (exfalso; omega) | skip) | refine LoadG.mkG ?_ | refine LoadsG.mkG ?_ | refine AtG.mkG ?_ | refine StoreG.mkG ?_ | refine CondG.mkG ?_ | fail); (all_goals (try dsimp only))
      exact he h hx
theorem isV_run (hB : cf 49 = cVBlocks) (hR : cf 88 = cVRead) (vr : VolR h vo wo p L k c ch br) {v : AV} {els : List (List AV)} (hr : Rd h 1 v els) (hl : LisR h els L) (hf : 65537 < fuel) (hK : ∀ h', Ext h h' → K (.bool true) h') : s_lagoonlaw6_is cf fuel (.ptr vo 0) v h K := by
  unfold s_lagoonlaw6_is
  have hl1 := hl.1
  have hsm := vr.small
  (try unfold vMov); repeat' (first | refine Step.imp ?_ | (refine Way.mk (fun hp => ?_) (fun hp => ?_) <;> first | contradiction | (exfalso; omega) | skip) | refine LoadG.mkG ?_ | refine LoadsG.mkG ?_ | refine AtG.mkG ?_ | refine StoreG.mkG ?_ | refine CondG.mkG ?_ | (refine cVBlocks_go hB vr ?_) | ((rw [rdLen hr])) | fail); (all_goals (try dsimp only))
  refine isL1_run cf fuel hR (h0 := h) vr hr hl _ (fun h1 x1 => ?_) els.length 0 fuel h (by omega) (by omega) (Ext.refl h)
  unfold s_lagoonlaw6_isE0
  rw [rdLen hr]
  try dsimp only
  refine cVRead_go hR (vr.ext x1) (fun hi => by omega) (fun _ => ?_)
  (try unfold vMov); repeat' (first | refine Step.imp ?_ | (refine Way.mk (fun hp => ?_) (fun hp => ?_) <;> first | contradiction | (exfalso; omega) | skip) | refine LoadG.mkG ?_ | refine LoadsG.mkG ?_ | refine AtG.mkG ?_ | refine StoreG.mkG ?_ | refine CondG.mkG ?_ | fail); (all_goals (try dsimp only))
  exact hK h1 x1
end
end Lg

namespace Lg
set_option linter.unusedSimpArgs false
set_option linter.unusedVariables false
set_option maxRecDepth 100000
open Go Go.Am
open Go.Proofs.Ytnhamanffojhfaa.shl
/-- Bytes that were just made, or that append made. -/
def BO (h : Hp) (o : Nat) (v : AV) (l : List UInt8) : Prop := o < h.next ∧ ∃ kn z, v = .slice o 0 l.length kn (if kn = true then l.length else 0) ∧ h.at o = some ⟨true, 1, .byts l.length z⟩ ∧ bytesL l.length z = l ∧ l.length ≤ 1000000
theorem BO.by {h : Hp} {o : Nat} {v : AV} {l : List UInt8} (b : BO h o v l) : ByH h v l := by
  obtain ⟨h1, kn, z, rfl, h2, h3, h4⟩ := b
  refine .inr (.inr ⟨o, 0, kn, _, _, l.length, z, rfl, h1, h2, rfl, by omega, ⟨by omega, fun q => by rw [if_pos q]; omega⟩, ?_⟩)
  rw [List.drop_zero, h3, List.take_length]
theorem cutB_bytes (n z : Nat) : bytesL n (cutB z 0 n) = bytesL n z := by
  have := bytesL_cut n z 0 n (by omega) (by omega)
  rw [Nat.sub_zero, List.drop_zero] at this
  rw [this, List.take_of_length_le (by rw [bytesL_length]; omega)]
theorem appB_go {h : Hp} {o : Nat} {v w : AV} {l m : List UInt8} {K : AV → Hp → Prop} (hv : BO h o v l) (hw : ByH h w m) (hm : 0 < m.length) (hs : l.length + m.length ≤ 1000000)
    (q : ∀ v' h', h.next < h'.next → (∀ p, p < h.next → p ≠ o → h'.at p = h.at p) → BO h' h.next v' (l ++ m) → K v' h') : vAppend2 1 1 true v w h K := by
  obtain ⟨h1, kn, z, rfl, h2, h3, h4⟩ := hv
  rcases hw with ⟨rfl, rfl⟩ | ⟨o2, rfl, rfl⟩ | ⟨o2, off, kn2, c2, e2, n2, z2, rfl, w2, w3, w4, w5, w6, w7⟩
  · simp at hm
  · simp at hm
  · have hz2 : bytesL m.length (cutB z2 off m.length) = m := by
      have := bytesL_cut n2 z2 off (off + m.length) (by omega) w5
      rw [show off + m.length - off = m.length by omega, List.drop_take, show off + m.length - off = m.length by omega, w7] at this
      exact this
    have hx : bytesL (l.length + m.length) (cutB z 0 l.length + cutB z2 off m.length <<< (8 * l.length)) = l ++ m := by
      rw [bytesL_join _ _ _ _ (cutB_lt _ _ _), cutB_bytes, h3, hz2]
    have hbo : ∀ hh : Hp, hh.next = h.next → BO (hh.new ⟨true, 1, .byts (l.length + m.length) (cutB z 0 l.length + cutB z2 off m.length <<< (8 * l.length))⟩) h.next (.slice h.next 0 (l.length + m.length) false 0) (l ++ m) := fun hh e =>
      ⟨by simp only [Hp.next_new]; omega, false, _, by rw [List.length_append]; rfl, by rw [← e, Hp.at_new_self, List.length_append], by rw [List.length_append]; exact hx, by rw [List.length_append]; exact hs⟩
    have hle : Nat.ble ((l.length + m.length) * 1) 140737488355328 = true := Nat.ble_eq_true_of_le (by omega)
    show srcK h 1 true (.slice o2 off m.length kn2 c2) (K (.slice o 0 l.length kn (if kn = true then l.length else 0)) h) (fun m l' => joinK h o 0 l.length m kn (if kn = true then l.length else 0) 1 1 (fun ob => growK ob 0 (l.length * 1) l') (fun ob => setCellsK l' ob (0 + l.length * 1)) K) (fun m z => joinK h o 0 l.length m kn (if kn = true then l.length else 0) 1 1 (fun ob => growBK ob 0 l.length m z) (fun ob => overBK ob (0 + l.length) m z) K)
    rw [srcK_by w3 w4 hm w5]
    cases kn with
    | false =>
      show gd (Nat.ble ((l.length + m.length) * 1) 140737488355328) (asOpt (h.at o) fun e => gd (Nat.beq e.esz 1) (gd (e.own && Nat.ble 0 (0 * 1)) (growBK e.obj 0 l.length m.length (cutB z2 off m.length) fun ob => putK h o none fun h => forceN (l.length + m.length) fun n => finK 1 n h ob K)))
      rw [hle, gd_true, h2, asOpt_some]
      show gd (Nat.ble (0 + l.length) l.length) (forceN (cutB z 0 l.length + cutB z2 off m.length <<< (8 * l.length)) fun x => forceN (l.length + m.length) fun n => putK h o none fun h => forceN (l.length + m.length) fun n' => finK 1 n' h (.byts n x) K)
      rw [Nat.ble_eq_true_of_le (by omega : 0 + l.length ≤ l.length), gd_true, forceN_eq, forceN_eq, putK_eq', forceN_eq]
      unfold finK
      rw [newK_eq']
      exact q _ _ (by simp only [Hp.next_new, Hp.next_put]; omega) (fun p hp hne => by rw [Hp.at_new_lt _ (by simp only [Hp.next_put]; exact hp), Hp.at_put_ne _ hne]) (hbo (h.put o none) (by simp only [Hp.next_put]))
    | true =>
      show gd (Nat.ble ((l.length + m.length) * 1) 140737488355328) (asOpt (h.at o) fun e => gd (Nat.beq e.esz 1) (Bool.rec (motive := fun _ => Prop) (growBK e.obj 0 l.length m.length (cutB z2 off m.length) fun ob => forceN (l.length + m.length) fun n => finK 1 n h ob K)
        (gd e.own (overBK e.obj (0 + l.length) m.length (cutB z2 off m.length) fun ob => putK h o (some ⟨true, e.esz, ob⟩) fun h => forceN (l.length + m.length) fun n => K (.slice o 0 n true l.length) h)) (Nat.ble (l.length + m.length) l.length)))
      have hb : Nat.ble (l.length + m.length) l.length = false := by
        cases hq : Nat.ble (l.length + m.length) l.length with
        | false => rfl
        | true => have := Nat.le_of_ble_eq_true hq; omega
      rw [hle, gd_true, h2, asOpt_some, hb]
      show gd (Nat.beq 1 1) (gd (Nat.ble (0 + l.length) l.length) (forceN (cutB z 0 l.length + cutB z2 off m.length <<< (8 * l.length)) fun x => forceN (l.length + m.length) fun n => forceN (l.length + m.length) fun n' => finK 1 n' h (.byts n x) K))
      rw [Nat.ble_eq_true_of_le (by omega : 0 + l.length ≤ l.length), forceN_eq, forceN_eq, forceN_eq]
      refine gd_iff.2 ⟨rfl, gd_iff.2 ⟨rfl, ?_⟩⟩
      unfold finK
      rw [newK_eq']
      exact q _ _ (by simp only [Hp.next_new]; omega) (fun p hp hne => by rw [Hp.at_new_lt _ hp]) (hbo h rfl)
end Lg

namespace Lg
set_option linter.unusedSimpArgs false
set_option linter.unusedVariables false
set_option maxRecDepth 100000
open Go Go.Am
open Go.Proofs.Ytnhamanffojhfaa.shl
theorem packAV_bytes : ∀ l : List UInt8, packAV (l.map fun b => .int .u8 ((b.toNat : Nat) : Int)) = some (packL l)
  | [] => rfl
  | b :: l => by
    show packAV (.int .u8 (.ofNat b.toNat) :: (l.map fun b => AV.int .u8 ((b.toNat : Nat) : Int))) = _
    have hb : Nat.blt b.toNat 256 = true := Nat.ble_eq_true_of_le b.toNat_lt
    unfold packAV
    simp only [hb, packAV_bytes l]
    rfl
theorem wrap_u8N (x : Nat) : IntKind.u8.wrap (x : Int) = (((UInt8.ofNat x).toNat : Nat) : Int) := by
  have h1 : (UInt8.ofNat x).toNat = x % 256 := by simp
  rw [h1]
  show (if (false && decide ((x : Int) % 256 ≥ 128)) = true then (x : Int) % 256 - 256 else (x : Int) % 256) = _
  simp
section
variable {h : Hp} {K : AV → Hp → Prop}
theorem toU8_go {k : IntKind} {x : Nat} (q : K (.int .u8 ((UInt8.ofNat x).toNat : Nat)) h) : vToInt .u8 (.int k (x : Int)) h K := by
  rw [vToInt_int, wrap_u8N]
  exact q
theorem shrN_go {k : IntKind} {x s : Nat} (hs : s ≤ k.bits) (q : K (.int k ((x >>> s : Nat) : Int)) h) : vShr (.int k (x : Int)) (.int .u64 (s : Int)) h K := by
  show asNat (.int .u64 s) (fun b => mkI k (.ofNat (x >>> (Nat.min b k.bits))) fun v => K v h)
  rw [asNat_int _ _ (by omega), Int.toNat_natCast, mkI_eq, show Nat.min s k.bits = s from Nat.min_eq_left hs]
  exact q
theorem bslice8_go {a0 a1 a2 a3 a4 a5 a6 a7 : UInt8} (q : ∀ v', BO (h.new ⟨true, 1, .byts 8 (packL [a0, a1, a2, a3, a4, a5, a6, a7])⟩) h.next v' [a0, a1, a2, a3, a4, a5, a6, a7] → K v' (h.new ⟨true, 1, .byts 8 (packL [a0, a1, a2, a3, a4, a5, a6, a7])⟩)) :
    vBslice 1 8 true [.int .u8 0] [(0, 1, .int .u8 (a0.toNat : Nat)), (1, 1, .int .u8 (a1.toNat : Nat)), (2, 1, .int .u8 (a2.toNat : Nat)), (3, 1, .int .u8 (a3.toNat : Nat)), (4, 1, .int .u8 (a4.toNat : Nat)), (5, 1, .int .u8 (a5.toNat : Nat)), (6, 1, .int .u8 (a6.toNat : Nat)), (7, 1, .int .u8 (a7.toNat : Nat))] h K := by
  show fillV _ ([.int .u8 0, .int .u8 0, .int .u8 0, .int .u8 0, .int .u8 0, .int .u8 0, .int .u8 0, .int .u8 0] : List AV) fun cs => asOpt (packAV cs) fun x => forceN x fun x => forceN cs.length fun n => newK h ⟨true, 1, .byts n x⟩ fun o h => K (.slice o 0 8 true 8) h
  refine stFill_aux _ _ _ _ _ _ _ rfl ⟨⟨rfl, by simp⟩, ?_⟩
  simp only [setL_cons0, setL_succ]
  refine stFill_aux _ _ _ _ _ _ _ rfl ⟨⟨rfl, by simp⟩, ?_⟩
  simp only [setL_cons0, setL_succ]
  refine stFill_aux _ _ _ _ _ _ _ rfl ⟨⟨rfl, by simp⟩, ?_⟩
  simp only [setL_cons0, setL_succ]
  refine stFill_aux _ _ _ _ _ _ _ rfl ⟨⟨rfl, by simp⟩, ?_⟩
  simp only [setL_cons0, setL_succ]
  refine stFill_aux _ _ _ _ _ _ _ rfl ⟨⟨rfl, by simp⟩, ?_⟩
  simp only [setL_cons0, setL_succ]
  refine stFill_aux _ _ _ _ _ _ _ rfl ⟨⟨rfl, by simp⟩, ?_⟩
  simp only [setL_cons0, setL_succ]
  refine stFill_aux _ _ _ _ _ _ _ rfl ⟨⟨rfl, by simp⟩, ?_⟩
  simp only [setL_cons0, setL_succ]
  refine stFill_aux _ _ _ _ _ _ _ rfl ⟨⟨rfl, by simp⟩, ?_⟩
  simp only [setL_cons0, setL_succ]
  show asOpt (packAV (([a0, a1, a2, a3, a4, a5, a6, a7] : List UInt8).map fun b => AV.int .u8 ((b.toNat : Nat) : Int))) fun x => forceN x fun x => forceN 8 fun n => newK h ⟨true, 1, .byts n x⟩ fun o h => K (.slice o 0 8 true 8) h
  rw [packAV_bytes, asOpt_some, forceN_eq, forceN_eq, newK_eq']
  exact q _ ⟨by simp [Hp.next_new], true, _, rfl, Hp.at_new_self _ _, bytesL_pack _, by simp⟩
theorem bslice4_go {a0 a1 a2 a3 : UInt8} (q : ∀ v', BO (h.new ⟨true, 1, .byts 4 (packL [a0, a1, a2, a3])⟩) h.next v' [a0, a1, a2, a3] → K v' (h.new ⟨true, 1, .byts 4 (packL [a0, a1, a2, a3])⟩)) :
    vBslice 1 4 true [.int .u8 0] [(0, 1, .int .u8 (a0.toNat : Nat)), (1, 1, .int .u8 (a1.toNat : Nat)), (2, 1, .int .u8 (a2.toNat : Nat)), (3, 1, .int .u8 (a3.toNat : Nat))] h K := by
  show fillV _ ([.int .u8 0, .int .u8 0, .int .u8 0, .int .u8 0] : List AV) fun cs => asOpt (packAV cs) fun x => forceN x fun x => forceN cs.length fun n => newK h ⟨true, 1, .byts n x⟩ fun o h => K (.slice o 0 4 true 4) h
  refine stFill_aux _ _ _ _ _ _ _ rfl ⟨⟨rfl, by simp⟩, ?_⟩
  simp only [setL_cons0, setL_succ]
  refine stFill_aux _ _ _ _ _ _ _ rfl ⟨⟨rfl, by simp⟩, ?_⟩
  simp only [setL_cons0, setL_succ]
  refine stFill_aux _ _ _ _ _ _ _ rfl ⟨⟨rfl, by simp⟩, ?_⟩
  simp only [setL_cons0, setL_succ]
  refine stFill_aux _ _ _ _ _ _ _ rfl ⟨⟨rfl, by simp⟩, ?_⟩
  simp only [setL_cons0, setL_succ]
  show asOpt (packAV (([a0, a1, a2, a3] : List UInt8).map fun b => AV.int .u8 ((b.toNat : Nat) : Int))) fun x => forceN x fun x => forceN 4 fun n => newK h ⟨true, 1, .byts n x⟩ fun o h => K (.slice o 0 4 true 4) h
  rw [packAV_bytes, asOpt_some, forceN_eq, forceN_eq, newK_eq']
  exact q _ ⟨by simp [Hp.next_new], true, _, rfl, Hp.at_new_self _ _, bytesL_pack _, by simp⟩
def cApp64 : ConD := fun args h K => ∃ v o l, ∃ x : Nat, args = [v, .int .u64 x] ∧ BO h o v l ∧ l.length ≤ 900000 ∧ ∀ v' o' h', h.next ≤ o' → h.next ≤ h'.next → (∀ p, p < h.next → p ≠ o → h'.at p = h.at p) → BO h' o' v' (l ++ le64 x) → K v' h'
theorem cApp64_go {cf : CallK} {g : FuncId} (hg : cf g = cApp64) {v : AV} {o x : Nat} {l : List UInt8} (hv : BO h o v l) (hl : l.length ≤ 900000) (hK : ∀ v' o' h', h.next ≤ o' → h.next ≤ h'.next → (∀ p, p < h.next → p ≠ o → h'.at p = h.at p) → BO h' o' v' (l ++ le64 x) → K v' h') : cf g [v, .int .u64 x] h K := by rw [hg]; exact ⟨v, o, l, x, rfl, hv, hl, hK⟩
theorem Append64_run (cf : CallK) (fuel : Nat) {v : AV} {o x : Nat} {l : List UInt8} (hv : BO h o v l) (hl : l.length ≤ 900000) (hK : ∀ v' o' h', h.next ≤ o' → h.next ≤ h'.next → (∀ p, p < h.next → p ≠ o → h'.at p = h.at p) → BO h' o' v' (l ++ le64 x) → K v' h') : s_zbyte_Append64 cf fuel v (.int .u64 x) h K := by
  unfold s_zbyte_Append64
  refine toU8_go ?_
  refine shrN_go (s := 8) (by decide) (toU8_go ?_)
  refine shrN_go (s := 16) (by decide) (toU8_go ?_)
  refine shrN_go (s := 24) (by decide) (toU8_go ?_)
  refine shrN_go (s := 32) (by decide) (toU8_go ?_)
  refine shrN_go (s := 40) (by decide) (toU8_go ?_)
  refine shrN_go (s := 48) (by decide) (toU8_go ?_)
  refine shrN_go (s := 56) (by decide) (toU8_go ?_)
  refine bslice8_go fun w hw => ?_
  have ho := hv.1
  have hv1 : BO (h.new ⟨true, 1, .byts 8 (packL [UInt8.ofNat x, UInt8.ofNat (x >>> 8), UInt8.ofNat (x >>> 16), UInt8.ofNat (x >>> 24), UInt8.ofNat (x >>> 32), UInt8.ofNat (x >>> 40), UInt8.ofNat (x >>> 48), UInt8.ofNat (x >>> 56)])⟩) o v l := by
    obtain ⟨h1, kn, z, e1, e2, e3⟩ := hv
    exact ⟨by simp only [Hp.next_new]; omega, kn, z, e1, by rw [Hp.at_new_lt _ h1]; exact e2, e3⟩
  refine appB_go hv1 hw.by (by simp) (by simp; omega) (fun v' h' n1 s1 b1 => ?_)
  refine hK v' _ h' (by simp only [Hp.next_new]; omega) (by simp only [Hp.next_new] at n1; omega) (fun p hp hne => ?_) b1
  rw [s1 p (by simp only [Hp.next_new]; omega) hne, Hp.at_new_lt _ hp]
def cApp32 : ConD := fun args h K => ∃ v o l, ∃ x : Nat, args = [v, .int .u32 x] ∧ BO h o v l ∧ l.length ≤ 900000 ∧ ∀ v' o' h', h.next ≤ o' → h.next ≤ h'.next → (∀ p, p < h.next → p ≠ o → h'.at p = h.at p) → BO h' o' v' (l ++ le32 x) → K v' h'
theorem cApp32_go {cf : CallK} {g : FuncId} (hg : cf g = cApp32) {v : AV} {o x : Nat} {l : List UInt8} (hv : BO h o v l) (hl : l.length ≤ 900000) (hK : ∀ v' o' h', h.next ≤ o' → h.next ≤ h'.next → (∀ p, p < h.next → p ≠ o → h'.at p = h.at p) → BO h' o' v' (l ++ le32 x) → K v' h') : cf g [v, .int .u32 x] h K := by rw [hg]; exact ⟨v, o, l, x, rfl, hv, hl, hK⟩
theorem Append32_run (cf : CallK) (fuel : Nat) {v : AV} {o x : Nat} {l : List UInt8} (hv : BO h o v l) (hl : l.length ≤ 900000) (hK : ∀ v' o' h', h.next ≤ o' → h.next ≤ h'.next → (∀ p, p < h.next → p ≠ o → h'.at p = h.at p) → BO h' o' v' (l ++ le32 x) → K v' h') : s_zbyte_Append32 cf fuel v (.int .u32 x) h K := by
  unfold s_zbyte_Append32
  refine toU8_go ?_
  refine shrN_go (s := 8) (by decide) (toU8_go ?_)
  refine shrN_go (s := 16) (by decide) (toU8_go ?_)
  refine shrN_go (s := 24) (by decide) (toU8_go ?_)
  refine bslice4_go fun w hw => ?_
  have ho := hv.1
  have hv1 : BO (h.new ⟨true, 1, .byts 4 (packL [UInt8.ofNat x, UInt8.ofNat (x >>> 8), UInt8.ofNat (x >>> 16), UInt8.ofNat (x >>> 24)])⟩) o v l := by
    obtain ⟨h1, kn, z, e1, e2, e3⟩ := hv
    exact ⟨by simp only [Hp.next_new]; omega, kn, z, e1, by rw [Hp.at_new_lt _ h1]; exact e2, e3⟩
  refine appB_go hv1 hw.by (by simp) (by simp; omega) (fun v' h' n1 s1 b1 => ?_)
  refine hK v' _ h' (by simp only [Hp.next_new]; omega) (by simp only [Hp.next_new] at n1; omega) (fun p hp hne => ?_) b1
  rw [s1 p (by simp only [Hp.next_new]; omega) hne, Hp.at_new_lt _ hp]
end
end Lg

namespace Lg
set_option linter.unusedSimpArgs false
set_option linter.unusedVariables false
set_option maxRecDepth 100000
open Go Go.Am
open Go.Proofs.Ytnhamanffojhfaa.shl
theorem wrap_u32N {x : Nat} (hx : x < 4294967296) : IntKind.u32.wrap (x : Int) = (x : Int) := by
  show (if (false && decide ((x : Int) % 4294967296 ≥ 2147483648)) = true then (x : Int) % 4294967296 - 4294967296 else (x : Int) % 4294967296) = _
  simp only [Bool.false_and, Bool.false_eq_true, if_false]
  omega
section
variable {h : Hp} {K : AV → Hp → Prop}
theorem bits32_go {f : Nat → Nat → Nat} {a b : Nat} (ha : a < 4294967296) (hb : b < 4294967296) (hf : f a b < 4294967296) (q : K (.int .u32 ((f a b : Nat) : Int)) h) : vBits f (.int .u32 (a : Int)) (.int .u32 (b : Int)) h K := by
  show twoI (.int .u32 (a : Int)) (.int .u32 (b : Int)) (fun k a b => mkI k (wrapF k (.ofNat (f (bitsI k a) (bitsI k b)))) fun v => K v h)
  rw [twoI_eq, mkI_eq, wrapF_eq]
  have h1 : bitsI .u32 (a : Int) = a := Nat.mod_eq_of_lt ha
  have h2 : bitsI .u32 (b : Int) = b := Nat.mod_eq_of_lt hb
  rw [h1, h2]
  show K (.int .u32 (IntKind.u32.wrap ((f a b : Nat) : Int))) h
  rw [wrap_u32N hf]
  exact q
theorem xor32_lt {a b : Nat} (ha : a < 4294967296) (hb : b < 4294967296) : a ^^^ b < 4294967296 := Nat.xor_lt_two_pow (n := 32) ha hb
theorem com32_go {a : Nat} (ha : a < 4294967296) (q : K (.int .u32 ((4294967295 ^^^ a : Nat) : Int)) h) : vCom (.int .u32 (a : Int)) h K := by
  show asInt (.int .u32 (a : Int)) (fun k n => mkI k (wrapF k (.ofNat (Nat.xor (2 ^ k.bits - 1) (bitsI k n)))) fun v => K v h)
  show mkI .u32 (wrapF .u32 (.ofNat (Nat.xor (2 ^ IntKind.u32.bits - 1) (bitsI .u32 (a : Int))))) (fun v => K v h)
  rw [mkI_eq, wrapF_eq]
  have h1 : bitsI .u32 (a : Int) = a := Nat.mod_eq_of_lt ha
  rw [h1]
  show K (.int .u32 (IntKind.u32.wrap ((4294967295 ^^^ a : Nat) : Int))) h
  rw [wrap_u32N (xor32_lt (by omega) ha)]
  exact q
theorem neg32_go {a : Nat} (ha : a < 4294967296) (q : K (.int .u32 (((4294967296 - a) % 4294967296 : Nat) : Int)) h) : vNeg (.int .u32 (a : Int)) h K := by
  rw [vNeg_int]
  have : IntKind.u32.wrap (-(a : Int)) = (((4294967296 - a) % 4294967296 : Nat) : Int) := by
    show (if (false && decide ((-(a : Int)) % 4294967296 ≥ 2147483648)) = true then (-(a : Int)) % 4294967296 - 4294967296 else (-(a : Int)) % 4294967296) = _
    simp only [Bool.false_and, Bool.false_eq_true, if_false]
    omega
  rw [this]
  exact q
theorem toU32_go {k : IntKind} {x : Nat} (hx : x < 4294967296) (q : K (.int .u32 (x : Int)) h) : vToInt .u32 (.int k (x : Int)) h K := by
  rw [vToInt_int, wrap_u32N hx]
  exact q
theorem crcStepN_lt {x : Nat} (hx : x < 4294967296) : crcStepN x < 4294967296 := by
  unfold crcStepN
  refine xor32_lt ?_ ?_
  · rw [Nat.shiftRight_succ, Nat.shiftRight_zero]
    omega
  · exact Nat.and_lt_two_pow (n := 32) _ (Nat.mod_lt _ (by omega))
def itN : Nat → Nat → Nat
  | 0, x => x
  | d + 1, x => itN d (crcStepN x)
theorem itN_lt : ∀ (d : Nat) {x : Nat}, x < 4294967296 → itN d x < 4294967296
  | 0, _, hx => hx
  | d + 1, _, hx => itN_lt d (crcStepN_lt hx)
theorem nibN_lt {i : Nat} (hi : i < 16) : nibN i < 4294967296 := itN_lt 4 (x := i) (by omega)
theorem AddL8_run (cf : CallK) (fuel : Nat) (e7 : AV → Hp → Prop) (t0 t1 t4 t5 t13 : AV) : ∀ (d i fm x : Nat), i + d = 4 → d < fm → x < 4294967296 → e7 (.int .u32 (itN d x : Nat)) h → s_crc_Sum_AddL8 cf fuel e7 t0 t1 t4 t5 t13 fm (.int .u32 (x : Nat)) (I i) h
  | d, i, fm, x, hd, hm, hx, hK => by
    obtain ⟨fm, rfl⟩ : ∃ j, fm = j + 1 := ⟨fm - 1, by omega⟩
    rw [s_crc_Sum_AddL8_succ]
    unfold s_crc_Sum_AddL8B
    by_cases hi : i < 4
    · obtain ⟨d, rfl⟩ : ∃ j, d = j + 1 := ⟨d - 1, by omega⟩
      have e1 : ((i : Int) + 1) = ((i + 1 : Nat) : Int) := by omega
      (try unfold vMov); repeat' (first | refine Step.imp ?_ | (refine Way.mk (fun hp => ?_) (fun hp => ?_) <;> first | contradiction | (exfalso; omega) | skip) | refine LoadG.mkG ?_ | refine LoadsG.mkG ?_ | refine AtG.mkG ?_ | refine StoreG.mkG ?_ | refine CondG.mkG ?_ | fail); (all_goals (try dsimp only))
      refine shrN_go (k := .u32) (s := 1) (by decide) ?_
      have ha : x &&& 1 < 4294967296 := Nat.and_lt_two_pow (n := 32) _ (by omega)
      refine bits32_go (f := Nat.land) (b := 1) hx (by omega) ha ?_
      refine neg32_go (a := x &&& 1) ha ?_
      refine bits32_go (f := Nat.land) (a := 3988292384) (by omega) (Nat.mod_lt _ (by omega)) (Nat.and_lt_two_pow (n := 32) _ (Nat.mod_lt _ (by omega))) ?_
      have hs : x >>> 1 < 4294967296 := by
        rw [Nat.shiftRight_succ, Nat.shiftRight_zero]
        omega
      refine bits32_go (f := Nat.xor) hs (Nat.and_lt_two_pow (n := 32) _ (Nat.mod_lt _ (by omega))) (crcStepN_lt hx) ?_
      (try unfold vMov); repeat' (first | refine Step.imp ?_ | (refine Way.mk (fun hp => ?_) (fun hp => ?_) <;> first | contradiction | (exfalso; omega) | skip) | refine LoadG.mkG ?_ | refine LoadsG.mkG ?_ | refine AtG.mkG ?_ | refine StoreG.mkG ?_ | refine CondG.mkG ?_ | fail); (all_goals (try dsimp only))
      rw [e1]
      exact AddL8_run cf fuel e7 t0 t1 t4 t5 t13 d (i + 1) fm (crcStepN x) (by omega) (by omega) (crcStepN_lt hx) hK
    · have hd0 : d = 0 := by omega
      subst hd0
      (try unfold vMov); repeat' (first | refine Step.imp ?_ | (refine Way.mk (fun hp => ?_) (fun hp => ?_) <;> first | contradiction | (exfalso; omega) | skip) | refine LoadG.mkG ?_ | refine LoadsG.mkG ?_ | refine AtG.mkG ?_ | refine StoreG.mkG ?_ | refine CondG.mkG ?_ | fail); (all_goals (try dsimp only))
      exact hK
end
end Lg

