/-
  What functions of the program do, said of the abstract machine, and plain lemmas: LgGo LgVec LgVec2 LgOp LgApp LgClone LgOf LgHeads LgFHeads LgFile LgFHeads2 LgFHeads3 LgFHeads4 LgValue LgValue2 LgMay LgUtf LgStr3 LgOps3 LgBS LgOf2 LgIns LgAdd LgSorted LgSome LgCon17. No condition.
-/
import Derived.Test.YtnhamanffojhfaaG3
import Derived.Test.YtnhamanffojhfaaShL
namespace Go.Am
set_option linter.unusedSimpArgs false
set_option linter.unusedVariables false
open Go Go.RowKit
section
variable {h : Hp}
theorem LoadG.mkG {o off : Nat} {k : AV → Prop} {e : Ent} {v : AV} (q : k v) (h1 : h.at o = some e := by simp (disch := (first | omega | (simp only [Hp.next_new, Hp.next_put]; omega))) only [Hp.at_new_self, Hp.at_put_self, Hp.at_new_lt, Hp.at_put_ne] <;> rfl)
    (h2 : cellAt e.obj off = some v := by simp only [cellAt_row', setL_cons0, setL_succ, Nat.reduceAdd, Nat.reduceMul, Nat.zero_add, Nat.add_zero, List.getElem?_cons_succ, List.getElem?_cons_zero]; rfl) : LoadG h o off k := LoadG.mk h1 h2 q
theorem LoadsG.mkG {n o off : Nat} {k : List AV → Prop} {e : Ent} {l : List AV} (q : k l) (h1 : h.at o = some e := by simp (disch := (first | omega | (simp only [Hp.next_new, Hp.next_put]; omega))) only [Hp.at_new_self, Hp.at_put_self, Hp.at_new_lt, Hp.at_put_ne] <;> rfl) (h2 : cellsO e.obj n off = some l := by rfl) : LoadsG h n o off k := LoadsG.mk h1 h2 q
theorem AtG.mkG {l : List AV} {i : Nat} {k : AV → Prop} {v : AV} (q : k v) (h1 : l[i]? = some v := by rfl) : AtG l i k := AtG.mk h1 q
theorem StoreG.mkG {n o off : Nat} {l : List AV} {k : Hp → Prop} {esz : Nat} {cs : List AV} (q : k (h.put o (some ⟨true, esz, .row (setL cs off l)⟩))) (h1 : h.at o = some ⟨true, esz, .row cs⟩ := by simp (disch := (first | omega | (simp only [Hp.next_new, Hp.next_put]; omega))) only [Hp.at_new_self, Hp.at_put_self, Hp.at_new_lt, Hp.at_put_ne] <;> rfl)
    (h2 : l.length = n ∧ off + l.length ≤ cs.length := by first | omega | (simp; done) | (simp; omega)) : StoreG h n o off l k := StoreG.mk h1 h2 q
theorem CondG.mkG {c A : Prop} (q : A) (h1 : c := by first | omega | exact sameV_flat _ rfl | exact sameV_agg _ (by simp [flatV]) | (simp; done) | (simp [repL, setL]; done) | (simp; omega)) : CondG c A := CondG.mk h1 q
end
end Go.Am

namespace Lg
set_option linter.unusedSimpArgs false
set_option linter.unusedVariables false
set_option maxRecDepth 100000
open Go Go.Am
open Go.Proofs.Ytnhamanffojhfaa.shl

abbrev I (n : Int) : AV := .int .i64 n
/-- A contract's end, at a value that is the same. -/
theorem fin {h h' : Hp} {K : AV → Hp → Prop} {v v' : AV} (hK : ∀ h', Ext h h' → K v h') (e : v' = v) (hx : Ext h h') : K v' h' := e ▸ hK h' hx

/-! ### rows of elements -/
/-- A slice that can be read: its elements' cells. -/
def Rd (h : Hp) (esz : Nat) (v : AV) (els : List (List AV)) : Prop :=
  (v = .nilslice ∧ els = []) ∨ (∃ o, v = .sliceZ o ∧ els = []) ∨ ∃ o off kn c e, v = .slice o off els.length kn c ∧ o < h.next ∧ h.at o = some e ∧ (els.length ≤ 17592186044416 ∧ (kn = true → els.length ≤ c)) ∧ ∀ j (hj : j < els.length), cellsO e.obj esz (off + j * esz) = some els[j]
theorem Rd.mono {h h' : Hp} {esz : Nat} {v : AV} {els : List (List AV)} (hr : Rd h esz v els) (hx : Ext h h') : Rd h' esz v els := by
  rcases hr with hr | hr | ⟨o, off, kn, c, e, h1, h2, h3, h4⟩
  · exact .inl hr
  · exact .inr (.inl hr)
  · exact .inr (.inr ⟨o, off, kn, c, e, h1, Nat.lt_of_lt_of_le h2 hx.next, by rw [hx.same o h2, h3], h4⟩)
theorem Rd.bound {h : Hp} {esz : Nat} {v : AV} {els : List (List AV)} (hr : Rd h esz v els) : els.length ≤ 17592186044416 := by
  rcases hr with ⟨_, rfl⟩ | ⟨_, _, rfl⟩ | ⟨_, _, _, _, _, _, _, _, h, _⟩
  · simp
  · simp
  · exact h.1
/-- A vector of numbers. -/
def VecH (h : Hp) (v : AV) (l : List Int) : Prop := Rd h 1 v (l.map fun x => [I x])
theorem VecH.mono {h h' : Hp} {v : AV} {l : List Int} (hv : VecH h v l) (hx : Ext h h') : VecH h' v l := Rd.mono hv hx
theorem VecH.cases {h : Hp} {v : AV} {l : List Int} (hv : VecH h v l) : (v = .nilslice ∧ l = []) ∨ (∃ o, v = .sliceZ o ∧ l = []) ∨ ∃ o off kn c e, v = .slice o off l.length kn c ∧ o < h.next ∧ h.at o = some e ∧ ∀ j (hj : j < l.length), cellAt e.obj (off + j) = some (I l[j]) := by
  rcases hv with ⟨h1, h2⟩ | ⟨o, h1, h2⟩ | ⟨o, off, kn, c, e, h1, h2, h3, hb, h5⟩
  · exact .inl ⟨h1, by simpa using h2⟩
  · exact .inr (.inl ⟨o, h1, by simpa using h2⟩)
  · refine .inr (.inr ⟨o, off, kn, c, e, by simpa using h1, h2, h3, fun j hj => ?_⟩)
    have := h5 j (by simpa using hj)
    simp only [cellsO, Nat.mul_one, List.getElem_map] at this
    cases hc : cellAt e.obj (off + j) with
    | none => rw [hc] at this; simp at this
    | some x => rw [hc] at this; simpa using this
theorem VecH.casesC {h : Hp} {v : AV} {l : List Int} (hv : VecH h v l) : (v = .nilslice ∧ l = []) ∨ (∃ o, v = .sliceZ o ∧ l = []) ∨ ∃ o off kn c e, v = .slice o off l.length kn c ∧ (kn = true → l.length ≤ c) ∧ o < h.next ∧ h.at o = some e ∧ ∀ j (hj : j < l.length), cellAt e.obj (off + j) = some (I l[j]) := by
  rcases hv with ⟨h1, h2⟩ | ⟨o, h1, h2⟩ | ⟨o, off, kn, c, e, h1, h2, h3, hb, h5⟩
  · exact .inl ⟨h1, by simpa using h2⟩
  · exact .inr (.inl ⟨o, h1, by simpa using h2⟩)
  · refine .inr (.inr ⟨o, off, kn, c, e, by simpa using h1, fun q => by simpa using hb.2 q, h2, h3, fun j hj => ?_⟩)
    have := h5 j (by simpa using hj)
    simp only [cellsO, Nat.mul_one, List.getElem_map] at this
    cases hc : cellAt e.obj (off + j) with
    | none => rw [hc] at this; simp at this
    | some x => rw [hc] at this; simpa using this
theorem VecH.bound {h : Hp} {v : AV} {l : List Int} (hv : VecH h v l) : l.length ≤ 17592186044416 := by
  have := Rd.bound hv
  simpa using this
theorem VecH.nil (h : Hp) : VecH h .nilslice [] := .inl ⟨rfl, rfl⟩

/-! ### what is computed -/
def ix (l : List Int) (j : Nat) : Int := l.getD j 0
theorem getD_in {l : List Int} {j : Nat} (h : j < l.length) : ix l j = l[j] := by
  simp [ix, List.getD, h]
def vat (l : List Int) (n : Int) : Int := if 0 ≤ n ∧ n < 64 ∧ n < l.length then (let x := ix l n.toNat; if 0 ≤ x ∧ x ≤ 1152921504606846976 then x else 0) else 0
theorem vat_out {l : List Int} {n : Int} (h : ¬ (0 ≤ n ∧ n < 64 ∧ n < l.length)) : vat l n = 0 := by unfold vat; rw [if_neg h]
theorem vat_in {l : List Int} {n : Int} (h : 0 ≤ n ∧ n < 64 ∧ n < l.length) : vat l n = if 0 ≤ l[n.toNat]'(by omega) ∧ l[n.toNat]'(by omega) ≤ 1152921504606846976 then l[n.toNat]'(by omega) else 0 := by
  unfold vat; rw [if_pos h, getD_in (by omega)]

section
variable (cf : CallK) (fuel : Nat) {h : Hp} {K : AV → Hp → Prop}
theorem At_run (v : AV) (l : List Int) (n : Int) (hv : VecH h v l) (hK : K (I (vat l n)) h) : s_lagoonref4_At cf fuel v (I n) h K := by
  unfold s_lagoonref4_At
  rcases hv.cases with ⟨rfl, rfl⟩ | ⟨o, rfl, rfl⟩ | ⟨o, off, kn, c, e, rfl, h2, h3, h5⟩
  · rw [vat_out (by simp; omega)] at hK
    (try unfold vMov); repeat' (first | refine Step.imp ?_ | (refine Way.mk (fun hp => ?_) (fun hp => ?_) <;> first | contradiction | (exfalso; omega) | skip) | refine LoadG.mkG ?_ | refine LoadsG.mkG ?_ | refine AtG.mkG ?_ | refine StoreG.mkG ?_ | refine CondG.mkG ?_ | fail); (all_goals (try dsimp only))
    all_goals first | exact hK | (exfalso; simp_all; omega)
  · rw [vat_out (by simp; omega)] at hK
    (try unfold vMov); repeat' (first | refine Step.imp ?_ | (refine Way.mk (fun hp => ?_) (fun hp => ?_) <;> first | contradiction | (exfalso; omega) | skip) | refine LoadG.mkG ?_ | refine LoadsG.mkG ?_ | refine AtG.mkG ?_ | refine StoreG.mkG ?_ | refine CondG.mkG ?_ | fail); (all_goals (try dsimp only))
    all_goals first | exact hK | (exfalso; omega) | trace_state
  · by_cases hn : 0 ≤ n ∧ n < 64 ∧ n < l.length
    · rw [vat_in hn] at hK
      have hc := h5 n.toNat (by omega)
      (try unfold vMov); repeat' (first | refine Step.imp ?_ | (refine Way.mk (fun hp => ?_) (fun hp => ?_) <;> first | contradiction | (exfalso; omega) | skip) | refine LoadG.mkG ?_ | refine LoadsG.mkG ?_ | refine AtG.mkG ?_ | refine StoreG.mkG ?_ | refine CondG.mkG ?_ | (refine LoadG.mk h3 (by simpa using hc) ?_) | fail); (all_goals (try dsimp only))
      all_goals (split at hK <;> first | exact hK | (exfalso; omega))
    · rw [vat_out hn] at hK
      (try unfold vMov); repeat' (first | refine Step.imp ?_ | (refine Way.mk (fun hp => ?_) (fun hp => ?_) <;> first | contradiction | (exfalso; omega) | skip) | refine LoadG.mkG ?_ | refine LoadsG.mkG ?_ | refine AtG.mkG ?_ | refine StoreG.mkG ?_ | refine CondG.mkG ?_ | fail); (all_goals (try dsimp only))
      all_goals first | exact hK | (exfalso; omega)
theorem vectorAt_run (v : AV) (l : List Int) (n : Int) (hv : VecH h v l) (hK : K (I (vat l n)) h) : s_vector_At cf fuel v (I n) h K := by
  unfold s_vector_At
  rcases hv.cases with ⟨rfl, rfl⟩ | ⟨o, rfl, rfl⟩ | ⟨o, off, kn, c, e, rfl, h2, h3, h5⟩
  · rw [vat_out (by simp; omega)] at hK
    (try unfold vMov); repeat' (first | refine Step.imp ?_ | (refine Way.mk (fun hp => ?_) (fun hp => ?_) <;> first | contradiction | (exfalso; omega) | skip) | refine LoadG.mkG ?_ | refine LoadsG.mkG ?_ | refine AtG.mkG ?_ | refine StoreG.mkG ?_ | refine CondG.mkG ?_ | fail); (all_goals (try dsimp only))
    all_goals first | exact hK | (exfalso; simp_all; omega) | (exfalso; omega)
  · rw [vat_out (by simp; omega)] at hK
    (try unfold vMov); repeat' (first | refine Step.imp ?_ | (refine Way.mk (fun hp => ?_) (fun hp => ?_) <;> first | contradiction | (exfalso; omega) | skip) | refine LoadG.mkG ?_ | refine LoadsG.mkG ?_ | refine AtG.mkG ?_ | refine StoreG.mkG ?_ | refine CondG.mkG ?_ | fail); (all_goals (try dsimp only))
    all_goals first | exact hK | (exfalso; simp_all; omega) | (exfalso; omega)
  · by_cases hn : 0 ≤ n ∧ n < 64 ∧ n < l.length
    · rw [vat_in hn] at hK
      have hc := h5 n.toNat (by omega)
      (try unfold vMov); repeat' (first | refine Step.imp ?_ | (refine Way.mk (fun hp => ?_) (fun hp => ?_) <;> first | contradiction | (exfalso; omega) | skip) | refine LoadG.mkG ?_ | refine LoadsG.mkG ?_ | refine AtG.mkG ?_ | refine StoreG.mkG ?_ | refine CondG.mkG ?_ | (refine LoadG.mk h3 (by simpa using hc) ?_) | fail); (all_goals (try dsimp only))
      all_goals (split at hK <;> first | exact hK | (exfalso; omega))
    · rw [vat_out hn] at hK
      (try unfold vMov); repeat' (first | refine Step.imp ?_ | (refine Way.mk (fun hp => ?_) (fun hp => ?_) <;> first | contradiction | (exfalso; omega) | skip) | refine LoadG.mkG ?_ | refine LoadsG.mkG ?_ | refine AtG.mkG ?_ | refine StoreG.mkG ?_ | refine CondG.mkG ?_ | fail); (all_goals (try dsimp only))
      all_goals first | exact hK | (exfalso; omega)
def validB (t n : Int) : Bool := decide (1 ≤ t) && (decide (t ≤ 1152921504606846976) && (decide (0 ≤ n) && decide (n < 64)))
def sameI (t n t' n' : Int) : Bool := decide (t = t') && decide (n = n')
def lessI (t n t' n' : Int) : Bool := decide (t < t') || (decide (t = t') && decide (n < n'))
def cmpI (t n t' n' : Int) : Int := if t < t' then -1 else if t' < t then 1 else if n < n' then -1 else if n' < n then 1 else 0
theorem Same_run (t n t' n' : Int) (hK : ∀ h', Ext h h' → K (.bool (sameI t n t' n')) h') : s_lagoonref4_Same cf fuel (.agg [I t, I n]) (.agg [I t', I n']) h K := by
  unfold s_lagoonref4_Same
  (try unfold vMov); repeat' (first | refine Step.imp ?_ | (refine Way.mk (fun hp => ?_) (fun hp => ?_) <;> first | contradiction | (exfalso; omega) | skip) | refine LoadG.mkG ?_ | refine LoadsG.mkG ?_ | refine AtG.mkG ?_ | refine StoreG.mkG ?_ | refine CondG.mkG ?_ | fail); (all_goals (try dsimp only))
  all_goals (refine fin hK ?_ (by repeat (first | exact Ext.refl _ | assumption | apply Ext.new | (refine Ext.put ?_ _ (by first | omega | (simp; done) | (simp; omega))))); simp_all [sameI])
theorem Less_run (t n t' n' : Int) (hK : ∀ h', Ext h h' → K (.bool (lessI t n t' n')) h') : s_lagoonref4_Less cf fuel (.agg [I t, I n]) (.agg [I t', I n']) h K := by
  unfold s_lagoonref4_Less
  (try unfold vMov); repeat' (first | refine Step.imp ?_ | (refine Way.mk (fun hp => ?_) (fun hp => ?_) <;> first | contradiction | (exfalso; omega) | skip) | refine LoadG.mkG ?_ | refine LoadsG.mkG ?_ | refine AtG.mkG ?_ | refine StoreG.mkG ?_ | refine CondG.mkG ?_ | fail); (all_goals (try dsimp only))
  all_goals (refine fin hK ?_ (by repeat (first | exact Ext.refl _ | assumption | apply Ext.new | (refine Ext.put ?_ _ (by first | omega | (simp; done) | (simp; omega))))); first | (simp_all [lessI]; done) | (simp_all [lessI]; omega))
theorem Valid_run (t n : Int) (hK : ∀ h', Ext h h' → K (.bool (validB t n)) h') : s_lagoonref4_Valid cf fuel (.agg [I t, I n]) h K := by
  unfold s_lagoonref4_Valid
  (try unfold vMov); repeat' (first | refine Step.imp ?_ | (refine Way.mk (fun hp => ?_) (fun hp => ?_) <;> first | contradiction | (exfalso; omega) | skip) | refine LoadG.mkG ?_ | refine LoadsG.mkG ?_ | refine AtG.mkG ?_ | refine StoreG.mkG ?_ | refine CondG.mkG ?_ | fail); (all_goals (try dsimp only))
  all_goals (refine fin hK ?_ (by repeat (first | exact Ext.refl _ | assumption | apply Ext.new | (refine Ext.put ?_ _ (by first | omega | (simp; done) | (simp; omega))))); first | (simp_all [validB]; done) | (simp_all [validB]; omega))
end
end Lg

namespace Lg
set_option linter.unusedSimpArgs false
set_option linter.unusedVariables false
set_option maxRecDepth 100000
open Go Go.Am
open Go.Proofs.Ytnhamanffojhfaa.shl

def cAt : ConD := fun args h K => ∃ v l n, args = [v, I n] ∧ VecH h v l ∧ K (I (vat l n)) h
theorem cAt_go {cf : CallK} {g : FuncId} (hg : cf g = cAt) {h : Hp} {v : AV} {l : List Int} {n : Int} {K : AV → Hp → Prop} (hv : VecH h v l) (hK : K (I (vat l n)) h) : cf g [v, I n] h K := by rw [hg]; exact ⟨v, l, n, rfl, hv, hK⟩
/-- A pure contract of two IDs. -/
def cId2 (f : Int → Int → Int → Int → AV) : ConD := fun args h K => ∃ t n t' n', args = [.agg [I t, I n], .agg [I t', I n']] ∧ ∀ h', Ext h h' → K (f t n t' n') h'
theorem cId2_go {cf : CallK} {g : FuncId} {f : Int → Int → Int → Int → AV} (hg : cf g = cId2 f) {h : Hp} {t n t' n' : Int} {K : AV → Hp → Prop} (hK : ∀ h', Ext h h' → K (f t n t' n') h') : cf g [.agg [I t, I n], .agg [I t', I n']] h K := by rw [hg]; exact ⟨t, n, t', n', rfl, hK⟩
def allN (p : Nat → Bool) : Nat → Nat → Bool
  | _, 0 => true
  | k, d + 1 => p k && allN p (k + 1) d
theorem allN_iff {p : Nat → Bool} : ∀ (k d : Nat), allN p k d = true ↔ ∀ i, k ≤ i → i < k + d → p i = true
  | k, 0 => by simp [allN]; omega
  | k, d + 1 => by
    rw [allN, Bool.and_eq_true, allN_iff (k + 1) d]
    constructor
    · rintro ⟨h1, h2⟩ i hi hj
      by_cases e : i = k
      · subst e; exact h1
      · exact h2 i (by omega) (by omega)
    · exact fun h => ⟨h k (Nat.le_refl _) (by omega), fun i hi hj => h i (by omega) (by omega)⟩
def leqV (a b : List Int) : Bool := allN (fun k => decide (vat a k ≤ vat b k)) 0 64

section
variable (cf : CallK) (fuel : Nat) {h : Hp} {K : AV → Hp → Prop}
theorem LeqL1_run (hAt : cf 26 = cAt) {v w : AV} {l m : List Int} (hv : VecH h v l) (hw : VecH h w m) (e0 : Hp → Prop) : ∀ (d k fm : Nat), k + d = 64 → d < fm →
    (allN (fun k => decide (vat l k ≤ vat m k)) k d = true → e0 h) → (allN (fun k => decide (vat l k ≤ vat m k)) k d = false → K (.bool false) h) → s_lagoonref4_LeqL1 cf fuel K e0 v w fm (I k) h
  | 0, k, fm, hk, hf, h1, h2 => by
    obtain ⟨fm, rfl⟩ : ∃ j, fm = j + 1 := ⟨fm - 1, by omega⟩
    rw [s_lagoonref4_LeqL1_succ]
    unfold s_lagoonref4_LeqL1B
    (try unfold vMov); repeat' (first | refine Step.imp ?_ | (refine Way.mk (fun hp => ?_) (fun hp => ?_) <;> first | contradiction | (exfalso; omega) | skip) | refine LoadG.mkG ?_ | refine LoadsG.mkG ?_ | refine AtG.mkG ?_ | refine StoreG.mkG ?_ | refine CondG.mkG ?_ | fail); (all_goals (try dsimp only))
    exact h1 rfl
  | d + 1, k, fm, hk, hf, h1, h2 => by
    obtain ⟨fm, rfl⟩ : ∃ j, fm = j + 1 := ⟨fm - 1, by omega⟩
    rw [s_lagoonref4_LeqL1_succ]
    unfold s_lagoonref4_LeqL1B
    dsimp only
    (try unfold vMov); repeat' (first | refine Step.imp ?_ | (refine Way.mk (fun hp => ?_) (fun hp => ?_) <;> first | contradiction | (exfalso; omega) | skip) | refine LoadG.mkG ?_ | refine LoadsG.mkG ?_ | refine AtG.mkG ?_ | refine StoreG.mkG ?_ | refine CondG.mkG ?_ | (refine cAt_go hAt hv ?_) | (refine cAt_go hAt hw ?_) | fail); (all_goals (try dsimp only))
    · exact h2 (by rw [allN, Bool.and_eq_false_iff]; left; simpa using hp)
    · have e : ((k : Int) + 1) = ((k + 1 : Nat) : Int) := by omega
      have hp' : decide (vat l k ≤ vat m k) = true := by simpa using hp
      rw [e]
      refine LeqL1_run hAt hv hw e0 d (k + 1) fm (by omega) (by omega) (fun q => h1 ?_) (fun q => h2 ?_)
      · rw [allN, hp', q]; rfl
      · rw [allN, hp', q]; rfl
theorem Leq_run (hAt : cf 26 = cAt) {v w : AV} {l m : List Int} (hv : VecH h v l) (hw : VecH h w m) (hf : 64 < fuel) (hK : K (.bool (leqV l m)) h) : s_lagoonref4_Leq cf fuel v w h K := by
  unfold s_lagoonref4_Leq
  refine LeqL1_run cf fuel hAt hv hw _ 64 0 fuel rfl hf (fun q => ?_) (fun q => ?_)
  · unfold s_lagoonref4_LeqE0
    have e : leqV l m = true := q
    rw [e] at hK; exact hK
  · have e : leqV l m = false := q
    rw [e] at hK; exact hK
def cLeq : ConD := fun args h K => ∃ v l w m, args = [v, w] ∧ VecH h v l ∧ VecH h w m ∧ K (.bool (leqV l m)) h
theorem cLeq_go {cf : CallK} {g : FuncId} (hg : cf g = cLeq) {h : Hp} {v w : AV} {l m : List Int} {K : AV → Hp → Prop} (hv : VecH h v l) (hw : VecH h w m) (hK : K (.bool (leqV l m)) h) : cf g [v, w] h K := by rw [hg]; exact ⟨v, l, w, m, rfl, hv, hw, hK⟩
theorem Eq_run (hL : cf 114 = cLeq) {v w : AV} {l m : List Int} (hv : VecH h v l) (hw : VecH h w m) (hK : K (.bool (leqV l m && leqV m l)) h) : s_lagoonref4_Eq cf fuel v w h K := by
  unfold s_lagoonref4_Eq
  refine cLeq_go hL hv hw ?_
  cases hl : leqV l m with
  | true =>
    rw [hl] at hK
    (try unfold vMov); repeat' (first | refine Step.imp ?_ | (refine Way.mk (fun hp => ?_) (fun hp => ?_) <;> first | contradiction | (exfalso; omega) | skip) | refine LoadG.mkG ?_ | refine LoadsG.mkG ?_ | refine AtG.mkG ?_ | refine StoreG.mkG ?_ | refine CondG.mkG ?_ | (refine cLeq_go hL hw hv ?_) | fail); (all_goals (try dsimp only))
    all_goals simpa using hK
  | false =>
    rw [hl] at hK
    (try unfold vMov); repeat' (first | refine Step.imp ?_ | (refine Way.mk (fun hp => ?_) (fun hp => ?_) <;> first | contradiction | (exfalso; omega) | skip) | refine LoadG.mkG ?_ | refine LoadsG.mkG ?_ | refine AtG.mkG ?_ | refine StoreG.mkG ?_ | refine CondG.mkG ?_ | fail); (all_goals (try dsimp only))
    all_goals simpa using hK
/-- Is it no number? Never. -/
def cNaN : ConD := fun args h K => ∃ n, args = [I n] ∧ K (.bool false) h
theorem cNaN_go {cf : CallK} {g : FuncId} (hg : cf g = cNaN) {h : Hp} {n : Int} {K : AV → Hp → Prop} (hK : K (.bool false) h) : cf g [I n] h K := by rw [hg]; exact ⟨n, rfl, hK⟩
def cmp1 (x y : Int) : Int := if x < y then -1 else if y < x then 1 else 0
def cCmp : ConD := fun args h K => ∃ x y, args = [I x, I y] ∧ K (I (cmp1 x y)) h
theorem cCmp_go {cf : CallK} {g : FuncId} (hg : cf g = cCmp) {h : Hp} {x y : Int} {K : AV → Hp → Prop} (hK : K (I (cmp1 x y)) h) : cf g [I x, I y] h K := by rw [hg]; exact ⟨x, y, rfl, hK⟩
theorem Compare64_run (hN : cf 137 = cNaN) (x y : Int) (hK : K (I (cmp1 x y)) h) : s_cmp_Compare_int64 cf fuel (I x) (I y) h K := by
  unfold s_cmp_Compare_int64
  (try unfold vMov); repeat' (first | refine Step.imp ?_ | (refine Way.mk (fun hp => ?_) (fun hp => ?_) <;> first | contradiction | (exfalso; omega) | skip) | refine LoadG.mkG ?_ | refine LoadsG.mkG ?_ | refine AtG.mkG ?_ | refine StoreG.mkG ?_ | refine CondG.mkG ?_ | (refine cNaN_go hN ?_) | fail); (all_goals (try dsimp only))
  all_goals (unfold cmp1 at hK; (repeat' split at hK) <;> first | exact hK | (exfalso; omega))
theorem Compare_run (hN : cf 138 = cNaN) (x y : Int) (hK : K (I (cmp1 x y)) h) : s_cmp_Compare_int cf fuel (I x) (I y) h K := by
  unfold s_cmp_Compare_int
  (try unfold vMov); repeat' (first | refine Step.imp ?_ | (refine Way.mk (fun hp => ?_) (fun hp => ?_) <;> first | contradiction | (exfalso; omega) | skip) | refine LoadG.mkG ?_ | refine LoadsG.mkG ?_ | refine AtG.mkG ?_ | refine StoreG.mkG ?_ | refine CondG.mkG ?_ | (refine cNaN_go hN ?_) | fail); (all_goals (try dsimp only))
  all_goals (unfold cmp1 at hK; (repeat' split at hK) <;> first | exact hK | (exfalso; omega))
theorem Cmp_run (h1 : cf 110 = cCmp) (h2 : cf 111 = cCmp) (t n t' n' : Int) (hK : ∀ h', Ext h h' → K (I (cmpI t n t' n')) h') : s_clock_Cmp cf fuel (.agg [I t, I n]) (.agg [I t', I n']) h K := by
  unfold s_clock_Cmp
  (try unfold vMov); repeat' (first | refine Step.imp ?_ | (refine Way.mk (fun hp => ?_) (fun hp => ?_) <;> first | contradiction | (exfalso; omega) | skip) | refine LoadG.mkG ?_ | refine LoadsG.mkG ?_ | refine AtG.mkG ?_ | refine StoreG.mkG ?_ | refine CondG.mkG ?_ | (refine cCmp_go h1 ?_) | (refine cCmp_go h2 ?_) | fail); (all_goals (try dsimp only))
  all_goals (refine fin hK ?_ (by repeat (first | exact Ext.refl _ | assumption | apply Ext.new | (refine Ext.put ?_ _ (by first | omega | (simp; done) | (simp; omega))))); simp only [cmpI, cmp1] at *; (repeat' split) <;> (repeat' split at *) <;> first | rfl | (exfalso; omega) | simp_all)
end
end Lg

namespace Lg
set_option linter.unusedSimpArgs false
set_option linter.unusedVariables false
set_option maxRecDepth 100000
open Go Go.Am
open Go.Proofs.Ytnhamanffojhfaa.shl

/-- Bytes. -/
def ByH (h : Hp) (v : AV) (l : List UInt8) : Prop := (v = .nilslice ∧ l = []) ∨ (∃ o, v = .sliceZ o ∧ l = []) ∨ ∃ o off kn c e n z, v = .slice o off l.length kn c ∧ o < h.next ∧ h.at o = some e ∧ e.obj = .byts n z ∧ off + l.length ≤ n ∧ (l.length ≤ 140737488355328 ∧ (kn = true → l.length ≤ c)) ∧ ((bytesL n z).drop off).take l.length = l
theorem ByH.mono {h h' : Hp} {v : AV} {l : List UInt8} (hv : ByH h v l) (hx : Ext h h') : ByH h' v l := by
  rcases hv with hv | hv | ⟨o, off, kn, c, e, n, z, h1, h2, h3, h4⟩
  · exact .inl hv
  · exact .inr (.inl hv)
  · exact .inr (.inr ⟨o, off, kn, c, e, n, z, h1, Nat.lt_of_lt_of_le h2 hx.next, by rw [hx.same o h2, h3], h4⟩)
theorem ByH.bound {h : Hp} {v : AV} {l : List UInt8} (hr : ByH h v l) : l.length ≤ 140737488355328 := by
  rcases hr with ⟨_, rfl⟩ | ⟨_, _, rfl⟩ | ⟨_, _, _, _, _, _, _, _, _, _, _, _, h, _⟩
  · simp
  · simp
  · exact h.1
theorem ByH.nil (h : Hp) : ByH h .nilslice [] := .inl ⟨rfl, rfl⟩

structure FOp where
  t : Int
  n : Int
  seq : Int
  kind : Int
  ot : Int
  on : Int
  pt : Int
  pn : Int
  name : List UInt8
  data : List UInt8
  seen : List Int
def opCells (o : FOp) (vd vs : AV) : List AV := [I o.t, I o.n, I o.seq, I o.kind, I o.ot, I o.on, I o.pt, I o.pn, S o.name, vd, vs]
/-- An operation's cells. -/
def OpH (h : Hp) (cs : List AV) (o : FOp) : Prop := ∃ vd vs, cs = opCells o vd vs ∧ ByH h vd o.data ∧ VecH h vs o.seen ∧ o.name.length ≤ 140737488355328
theorem OpH.mono {h h' : Hp} {cs : List AV} {o : FOp} (hv : OpH h cs o) (hx : Ext h h') : OpH h' cs o := by
  obtain ⟨vd, vs, h1, h2, h3, h4⟩ := hv
  exact ⟨vd, vs, h1, h2.mono hx, h3.mono hx, h4⟩
theorem OpH.len {h : Hp} {cs : List AV} {o : FOp} (hv : OpH h cs o) : cs.length = 11 := by
  obtain ⟨vd, vs, rfl, _⟩ := hv; rfl
/-- A version's cells: those of an operation's version. -/
def VerH (h : Hp) (cs : List AV) (o : FOp) : Prop := ∃ vs vd, cs = [I o.t, I o.n, I o.seq, vs, vd] ∧ VecH h vs o.seen ∧ ByH h vd o.data
theorem VerH.mono {h h' : Hp} {cs : List AV} {o : FOp} (hv : VerH h cs o) (hx : Ext h h') : VerH h' cs o := by
  obtain ⟨vs, vd, h1, h2, h3⟩ := hv
  exact ⟨vs, vd, h1, h2.mono hx, h3.mono hx⟩
theorem VerH.len {h : Hp} {cs : List AV} {o : FOp} (hv : VerH h cs o) : cs.length = 5 := by
  obtain ⟨vd, vs, rfl, _⟩ := hv; rfl
/-- P17.1. -/
def behind (a b : FOp) : Bool := decide (a.seq ≤ vat b.seen a.n)

section
variable (cf : CallK) (fuel : Nat) {h : Hp} {K : AV → Hp → Prop}
theorem refBehind_run (hAt : cf 26 = cAt) {ca cb : List AV} {a b : FOp} (ha : OpH h ca a) (hb : OpH h cb b) (hK : ∀ h', Ext h h' → K (.bool (behind a b)) h') : s_lagoonref15_Behind cf fuel (.agg ca) (.agg cb) h K := by
  obtain ⟨vd, vs, rfl, -, hva, -⟩ := ha
  obtain ⟨vd', vs', rfl, -, hvb, -⟩ := hb
  unfold s_lagoonref15_Behind opCells
  (try unfold vMov); repeat' (first | refine Step.imp ?_ | (refine Way.mk (fun hp => ?_) (fun hp => ?_) <;> first | contradiction | (exfalso; omega) | skip) | refine LoadG.mkG ?_ | refine LoadsG.mkG ?_ | refine AtG.mkG ?_ | refine StoreG.mkG ?_ | refine CondG.mkG ?_ | (refine cAt_go hAt (hvb.mono (by repeat (first | exact Ext.refl _ | assumption | apply Ext.new | (refine Ext.put ?_ _ (by first | omega | (simp; done) | (simp; omega)))))) ?_) | fail); (all_goals (try dsimp only))
  all_goals (refine fin hK ?_ (by repeat (first | exact Ext.refl _ | assumption | apply Ext.new | (refine Ext.put ?_ _ (by first | omega | (simp; done) | (simp; omega))))); simp [behind]; first | assumption | omega)
theorem Behind_run (hAt : cf 62 = cAt) {ca cb : List AV} {a b : FOp} (ha : VerH h ca a) (hb : VerH h cb b) (hK : ∀ h', Ext h h' → K (.bool (behind a b)) h') : s_content_Behind cf fuel (.agg ca) (.agg cb) h K := by
  obtain ⟨vs, vd, rfl, hva, -⟩ := ha
  obtain ⟨vs', vd', rfl, hvb, -⟩ := hb
  unfold s_content_Behind
  (try unfold vMov); repeat' (first | refine Step.imp ?_ | (refine Way.mk (fun hp => ?_) (fun hp => ?_) <;> first | contradiction | (exfalso; omega) | skip) | refine LoadG.mkG ?_ | refine LoadsG.mkG ?_ | refine AtG.mkG ?_ | refine StoreG.mkG ?_ | refine CondG.mkG ?_ | (refine cAt_go hAt (hvb.mono (by repeat (first | exact Ext.refl _ | assumption | apply Ext.new | (refine Ext.put ?_ _ (by first | omega | (simp; done) | (simp; omega)))))) ?_) | fail); (all_goals (try dsimp only))
  all_goals (refine fin hK ?_ (by repeat (first | exact Ext.refl _ | assumption | apply Ext.new | (refine Ext.put ?_ _ (by first | omega | (simp; done) | (simp; omega))))); simp [behind]; first | assumption | omega)
end
end Lg

namespace Lg
set_option linter.unusedSimpArgs false
set_option linter.unusedVariables false
set_option maxRecDepth 100000
open Go Go.Am

theorem cellsO_list {ob : AObj} : ∀ (l : List AV) (off : Nat), (∀ j (hj : j < l.length), cellAt ob (off + j) = some l[j]) → cellsO ob l.length off = some l
  | [], off, _ => rfl
  | v :: l, off, hc => by
    have h0 := hc 0 (by simp)
    simp only [Nat.add_zero, List.getElem_cons_zero] at h0
    have ih := cellsO_list l (off + 1) fun j hj => by
      have := hc (j + 1) (by simp; omega)
      simpa [Nat.add_assoc, Nat.add_comm 1 j] using this
    rw [List.length_cons]
    unfold cellsO
    simp [h0, ih]
theorem SlN.vec {h : Hp} {v : AV} {l : List Int} {B : Nat} (hv : SlN h 1 v (l.map fun x => [I x]) B) (hl : l.length ≤ 17592186044416) : VecH h v l := by
  rcases hv with ⟨h1, h2⟩ | ⟨o, ob, h1, h2, h3, h4, h5, h6, h7⟩
  · exact .inl ⟨h1, h2⟩
  · refine .inr (.inr ⟨o, 0, false, 0, _, by simpa using h1, h3, h4, ⟨by simpa using hl, fun q => by cases q⟩, fun j hj => ?_⟩)
    have hj' : j < l.length := by simpa using hj
    have hfl : (l.map fun x => [I x]).flatten = l.map I := by
      clear hj hj' h1 h5 h6 h7 hl
      induction l with
      | nil => rfl
      | cons x l ih => simp only [List.map_cons, List.flatten_cons, ih]; rfl
    have h8 := h5.2.2 j
    rw [hfl, List.getElem?_map, List.getElem?_eq_getElem hj'] at h8
    show cellsO ob 1 (0 + j * 1) = _
    rw [Nat.zero_add, Nat.mul_one]
    unfold cellsO
    rw [h8]
    simp [cellsO]
/-- A value that points to nothing ahead of B. -/
def Fr (B : Nat) (v : AV) : Prop := ∀ o off n kn c, v = .slice o off n kn c → B ≤ o
theorem Fr.weak {B C : Nat} {v : AV} (hv : Fr B v) (hc : C ≤ B) : Fr C v := fun o off n kn c e => Nat.le_trans hc (hv o off n kn c e)
theorem SlN.fr {h : Hp} {esz : Nat} {v : AV} {els : List (List AV)} {B : Nat} (hv : SlN h esz v els B) : Fr B v := by
  rcases hv with ⟨rfl, _⟩ | ⟨o, ob, rfl, h2, _⟩
  · intro o off n kn c e; cases e
  · intro o' off n kn c e; cases e; exact h2
theorem VecH.put {h : Hp} {v : AV} {l : List Int} (hv : VecH h v l) {B p : Nat} (hf : Fr B v) (hp : p < B) (e : Option Ent) : VecH (h.put p e) v l := by
  rcases hv with q | q | ⟨o, off, kn, c, e', h1, h2, h3, h4⟩
  · exact .inl q
  · exact .inr (.inl q)
  · have := hf _ _ _ _ _ h1
    exact .inr (.inr ⟨o, off, kn, c, e', h1, h2, by rw [Hp.at_put_ne _ (by omega)]; exact h3, h4⟩)
theorem ByH.put {h : Hp} {v : AV} {l : List UInt8} (hv : ByH h v l) {B p : Nat} (hf : Fr B v) (hp : p < B) (e : Option Ent) : ByH (h.put p e) v l := by
  rcases hv with q | q | ⟨o, off, kn, c, e', n, z, h1, h2, h3, h4⟩
  · exact .inl q
  · exact .inr (.inl q)
  · have := hf _ _ _ _ _ h1
    exact .inr (.inr ⟨o, off, kn, c, e', n, z, h1, h2, by rw [Hp.at_put_ne _ (by omega)]; exact h3, h4⟩)
theorem copyV {h : Hp} {v : AV} {l : List Int} {K : AV → Hp → Prop} (hv : VecH h v l) (hK : ∀ v' h', Ext h h' → VecH h' v' l → Fr h.next v' → K v' h') : vAppend2 1 8 false .nilslice v h K := by
  by_cases hl : l = []
  · subst hl
    have : vAppend2 1 8 false .nilslice v h K = K .nilslice h := by
      rcases hv with ⟨rfl, _⟩ | ⟨o, rfl, _⟩ | ⟨o, off, kn, c, e, rfl, _⟩ <;> rfl
    rw [this]
    exact hK _ h (Ext.refl h) (VecH.nil h) (fun o off n kn c e => by cases e)
  · rcases hv.cases with ⟨_, rfl⟩ | ⟨_, _, rfl⟩ | ⟨o, off, kn, c, e, rfl, h2, h3, h5⟩
    · exact absurd rfl hl
    · exact absurd rfl hl
    · have hb := hv.bound
      refine append_own (els := []) (news := l.map fun x => [I x]) (B := h.next) (h0 := h) (Ext.refl h) (.inl ⟨rfl, rfl⟩) (Nat.le_refl _) (Nat.le_refl _) ?_ ?_ ?_ ?_ ?_
      · refine ⟨o, off, kn, c, e, by simp, h3, ?_⟩
        have hfl : (l.map fun x => [I x]).flatten = l.map I := by
          clear hv hK hl h5 hb
          induction l with
          | nil => rfl
          | cons x l ih => simp only [List.map_cons, List.flatten_cons, ih]; rfl
        rw [hfl]
        have := cellsO_list (ob := e.obj) (l.map I) off (fun j hj => by
          have hj' : j < l.length := by simpa using hj
          rw [h5 j hj']; simp)
        simpa using this
      · intro x hx
        obtain ⟨y, _, rfl⟩ := List.mem_map.1 hx
        rfl
      · simpa using hl
      · simp only [List.length_nil, List.length_map]; omega
      · intro v' h' k1 k2 k3 k4
        exact hK v' h' k1 (SlN.vec (by simpa using k4) hb) (SlN.fr k4)
end Lg

namespace Lg
set_option linter.unusedSimpArgs false
set_option linter.unusedVariables false
set_option maxRecDepth 100000
open Go Go.Am
open Go.Proofs.Ytnhamanffojhfaa.shl
theorem srcK_by {h : Hp} {o off m : Nat} {kn : Bool} {c : Nat} {e : Ent} {n z : Nat} (hat : h.at o = some e) (he : e.obj = .byts n z) (hm : 0 < m) (hb : off + m ≤ n) (k0 : Prop) (kl : Nat → List AV → Prop) (kb : Nat → Nat → Prop) :
    srcK h 1 true (.slice o off m kn c) k0 kl kb = kb m (cutB z off m) := by
  show Bool.rec (motive := fun _ => Prop) (asOpt (h.at o) fun e => asByts e.obj fun n z => gd (Nat.ble (off + m) n) (forceN (cutB z off m) fun z => kb m z)) k0 (Nat.beq m 0) = _
  have : Nat.beq m 0 = false := by
    cases m with
    | zero => omega
    | succ m => rfl
  rw [this]
  show asOpt (h.at o) _ = _
  rw [hat, asOpt_some, he]
  show gd (Nat.ble (off + m) n) (forceN (cutB z off m) fun z => kb m z) = _
  have : Nat.ble (off + m) n = true := by simpa using hb
  rw [this, gd_true, forceN_eq]
theorem bslice0 (h : Hp) (K : AV → Hp → Prop) : vBslice 1 0 true [.int .u8 0] [] h K = K (.slice h.next 0 0 true 0) (h.new ⟨true, 1, .byts 0 0⟩) := by
  show newK h ⟨true, 1, .byts 0 0⟩ (fun o h => K (.slice o 0 0 true 0) h) = _
  rw [newK_eq']
/-- Bytes behind an empty slice that was just made. -/
theorem append_by {h : Hp} {p o off m : Nat} {kn : Bool} {c : Nat} {e : Ent} {n z : Nat} {K : AV → Hp → Prop} (hp : h.at p = some ⟨true, 1, .byts 0 0⟩) (hat : h.at o = some e) (he : e.obj = .byts n z) (hm : 0 < m) (hb : off + m ≤ n) (hl : m ≤ 140737488355328)
    (hK : K (.slice h.next 0 m false 0) (h.new ⟨true, 1, .byts m (cutB z off m)⟩)) : vAppend2 1 1 true (.slice p 0 0 true 0) (.slice o off m kn c) h K := by
  show srcK h 1 true (.slice o off m kn c) (K (.slice p 0 0 true 0) h) (fun m l => joinK h p 0 0 m true 0 1 1 (fun ob => growK ob 0 (0 * 1) l) (fun ob => setCellsK l ob (0 + 0 * 1)) K) (fun m z => joinK h p 0 0 m true 0 1 1 (fun ob => growBK ob 0 0 m z) (fun ob => overBK ob (0 + 0) m z) K)
  rw [srcK_by hat he hm hb]
  show gd (Nat.ble ((0 + m) * 1) 140737488355328) (asOpt (h.at p) fun e => gd (Nat.beq e.esz 1) (Bool.rec (motive := fun _ => Prop) (growBK e.obj 0 0 m (cutB z off m) fun ob => forceN (0 + m) fun n => finK 1 n h ob K)
    (gd e.own (overBK e.obj (0 + 0) m (cutB z off m) fun ob => putK h p (some ⟨true, e.esz, ob⟩) fun h => forceN (0 + m) fun n => K (.slice p 0 n true 0) h)) (Nat.ble (0 + m) 0)))
  have h1 : Nat.ble ((0 + m) * 1) 140737488355328 = true := by simp; omega
  have h2 : Nat.ble (0 + m) 0 = false := by
    cases hq : Nat.ble (0 + m) 0 with
    | false => rfl
    | true => have := Nat.le_of_ble_eq_true hq; omega
  rw [h1, gd_true, hp, asOpt_some]
  show gd (Nat.beq 1 1) _
  rw [h2]
  show gd (Nat.beq 1 1) (gd (Nat.ble (0 + 0) 0) (forceN (cutB 0 0 0 + cutB z off m <<< (8 * 0)) fun x => forceN (0 + m) fun n => forceN (0 + m) fun n' => finK 1 n' h (.byts n x) K))
  simp only [forceN_eq, Nat.zero_add]
  refine gd_iff.2 ⟨rfl, gd_iff.2 ⟨rfl, ?_⟩⟩
  unfold finK
  rw [newK_eq']
  have h3 : cutB 0 0 0 + cutB z off m <<< (8 * 0) = cutB z off m := by simp [cutB_eq]
  rw [h3]
  exact hK
section
variable (cf : CallK) (fuel : Nat) {h : Hp} {K : AV → Hp → Prop}
theorem Clone_run {v : AV} {l : List UInt8} (hv : ByH h v l) (hK : ∀ v' h', Ext h h' → ByH h' v' l → Fr h.next v' → K v' h') : s_bytes_Clone cf fuel v h K := by
  unfold s_bytes_Clone
  rcases hv with ⟨rfl, rfl⟩ | ⟨o, rfl, rfl⟩ | ⟨o, off, kn, c, e, n, z, rfl, h2, h3, h4, h5, h6, h7⟩
  · (try unfold vMov); repeat' (first | refine Step.imp ?_ | (refine Way.mk (fun hp => ?_) (fun hp => ?_) <;> first | contradiction | (exfalso; omega) | skip) | refine LoadG.mkG ?_ | refine LoadsG.mkG ?_ | refine AtG.mkG ?_ | refine StoreG.mkG ?_ | refine CondG.mkG ?_ | fail); (all_goals (try dsimp only))
    exact hK _ h (Ext.refl h) (ByH.nil h) (fun o off n kn c e => by cases e)
  · (try unfold vMov); repeat' (first | refine Step.imp ?_ | (refine Way.mk (fun hp => ?_) (fun hp => ?_) <;> first | contradiction | (exfalso; omega) | skip) | refine LoadG.mkG ?_ | refine LoadsG.mkG ?_ | refine AtG.mkG ?_ | refine StoreG.mkG ?_ | refine CondG.mkG ?_ | fail); (all_goals (try dsimp only))
    rw [bslice0]
    show K (.slice h.next 0 0 true 0) (h.new ⟨true, 1, .byts 0 0⟩)
    exact hK _ _ (by repeat (first | exact Ext.refl _ | assumption | apply Ext.new | (refine Ext.put ?_ _ (by first | omega | (simp; done) | (simp; omega))))) (.inr (.inr ⟨h.next, 0, true, 0, _, 0, 0, rfl, by simp [Hp.next_new], Hp.at_new_self _ _, rfl, by simp, by simp, rfl⟩)) (fun o off n kn c e => by cases e; exact Nat.le_refl _)
  · (try unfold vMov); repeat' (first | refine Step.imp ?_ | (refine Way.mk (fun hp => ?_) (fun hp => ?_) <;> first | contradiction | (exfalso; omega) | skip) | refine LoadG.mkG ?_ | refine LoadsG.mkG ?_ | refine AtG.mkG ?_ | refine StoreG.mkG ?_ | refine CondG.mkG ?_ | fail); (all_goals (try dsimp only))
    rw [bslice0]
    by_cases hl : l = []
    · subst hl
      show K (.slice h.next 0 0 true 0) (h.new ⟨true, 1, .byts 0 0⟩)
      exact hK _ _ (by repeat (first | exact Ext.refl _ | assumption | apply Ext.new | (refine Ext.put ?_ _ (by first | omega | (simp; done) | (simp; omega))))) (.inr (.inr ⟨h.next, 0, true, 0, _, 0, 0, rfl, by simp [Hp.next_new], Hp.at_new_self _ _, rfl, by simp, by simp, rfl⟩)) (fun o off n kn c e => by cases e; exact Nat.le_refl _)
    · have hm : 0 < l.length := List.length_pos_iff.2 hl
      refine append_by (Hp.at_new_self _ _) (by rw [Hp.at_new, if_neg (by omega)]; exact h3) h4 hm h5 h6.1 (hK _ _ (by repeat (first | exact Ext.refl _ | assumption | apply Ext.new | (refine Ext.put ?_ _ (by first | omega | (simp; done) | (simp; omega))))) ?_ (fun o off n kn c e => by cases e; simp only [Hp.next_new]; omega))
      refine .inr (.inr ⟨_, 0, false, 0, _, l.length, cutB z off l.length, rfl, by simp [Hp.next_new], Hp.at_new_self _ _, rfl, by simp, ⟨h6.1, fun q => by cases q⟩, ?_⟩)
      have := bytesL_cut n z off (off + l.length) (by omega) h5
      rw [show off + l.length - off = l.length by omega] at this
      rw [List.drop_zero, this, List.take_of_length_le (by simp; omega), List.drop_take, show off + l.length - off = l.length by omega]
      exact h7
end
end Lg

namespace Lg
set_option linter.unusedSimpArgs false
set_option linter.unusedVariables false
set_option maxRecDepth 100000
open Go Go.Am
open Go.Proofs.Ytnhamanffojhfaa.shl
def cClone : ConD := fun args h K => ∃ v l, args = [v] ∧ ByH h v l ∧ ∀ v' h', Ext h h' → ByH h' v' l → Fr h.next v' → K v' h'
theorem cClone_go {cf : CallK} {g : FuncId} (hg : cf g = cClone) {h : Hp} {v : AV} {l : List UInt8} {K : AV → Hp → Prop} (hv : ByH h v l) (hK : ∀ v' h', Ext h h' → ByH h' v' l → Fr h.next v' → K v' h') : cf g [v] h K := by rw [hg]; exact ⟨v, l, rfl, hv, hK⟩
theorem ByH.shape {h : Hp} {v : AV} {l : List UInt8} (hv : ByH h v l) : v = .nilslice ∨ (∃ o, v = .sliceZ o) ∨ ∃ o off n kn c, v = .slice o off n kn c := by
  rcases hv with ⟨h, _⟩ | ⟨o, h, _⟩ | ⟨_, _, _, _, _, _, _, h, _⟩
  · exact .inl h
  · exact .inr (.inl ⟨o, h⟩)
  · exact .inr (.inr ⟨_, _, _, _, _, h⟩)
theorem VecH.shape {h : Hp} {v : AV} {l : List Int} (hv : VecH h v l) : v = .nilslice ∨ (∃ o, v = .sliceZ o) ∨ ∃ o off n kn c, v = .slice o off n kn c := by
  rcases hv with ⟨h, _⟩ | ⟨o, h, _⟩ | ⟨_, _, _, _, _, h, _⟩
  · exact .inl h
  · exact .inr (.inl ⟨o, h⟩)
  · exact .inr (.inr ⟨_, _, _, _, _, h⟩)
theorem ByH.flat {h : Hp} {v : AV} {l : List UInt8} (hv : ByH h v l) : flatV v = true := by
  rcases hv with ⟨rfl, _⟩ | ⟨_, rfl, _⟩ | ⟨_, _, _, _, _, _, _, rfl, _⟩ <;> rfl
theorem VecH.flat {h : Hp} {v : AV} {l : List Int} (hv : VecH h v l) : flatV v = true := by
  rcases hv with ⟨rfl, _⟩ | ⟨_, rfl, _⟩ | ⟨_, _, _, _, _, rfl, _⟩ <;> rfl
section
variable (cf : CallK) (fuel : Nat) {h : Hp} {K : AV → Hp → Prop}
theorem Of_run (hC : cf 61 = cClone) {ca : List AV} {a : FOp} (ha : OpH h ca a) (hK : ∀ cs h', Ext h h' → VerH h' cs a → K (.agg cs) h') : s_content_Of cf fuel (.agg ca) h K := by
  obtain ⟨vd, vs, rfl, hd, hs, -⟩ := ha
  unfold s_content_Of opCells
  (try unfold vMov); repeat' (first | refine Step.imp ?_ | (refine Way.mk (fun hp => ?_) (fun hp => ?_) <;> first | contradiction | (exfalso; omega) | skip) | refine LoadG.mkG ?_ | refine LoadsG.mkG ?_ | refine AtG.mkG ?_ | refine StoreG.mkG ?_ | refine CondG.mkG ?_ | fail); (all_goals (try dsimp only))
  refine copyV (l := a.seen) (hs.mono (by repeat (first | exact Ext.refl _ | assumption | apply Ext.new | (refine Ext.put ?_ _ (by first | omega | (simp; done) | (simp; omega)))))) (fun v1 h1 x1 w1 f1 => ?_)
  have n1 := x1.next
  simp only [Hp.next_new] at n1
  have y1 : Ext h h1 := Ext.trans (by repeat (first | exact Ext.refl _ | assumption | apply Ext.new | (refine Ext.put ?_ _ (by first | omega | (simp; done) | (simp; omega))))) x1
  have a1 := x1.same h.next (by simp only [Hp.next_new]; omega)
  have a2 := x1.same (h.next + 1) (by simp only [Hp.next_new]; omega)
  have b1 : h1.at h.next = some ⟨true, 11, .row [I a.t, I a.n, I a.seq, I a.kind, I a.ot, I a.on, I a.pt, I a.pn, S a.name, vd, vs]⟩ := by
    rw [a1, Hp.at_new, if_neg (by simp only [Hp.next_new]; omega), Hp.at_new_self]
  have b2 : h1.at (h.next + 1) = some ⟨true, 5, .row [I 0, I 0, I 0, .nilslice, .nilslice]⟩ := by
    rw [a2]; exact Hp.at_new_self _ _
  have fd := hd.flat
  (try unfold vMov); repeat' (first | refine Step.imp ?_ | (refine Way.mk (fun hp => ?_) (fun hp => ?_) <;> first | contradiction | (exfalso; omega) | skip) | refine LoadG.mk (by simp (disch := (first | omega | (simp only [Hp.next_new, Hp.next_put]; omega))) only [Hp.at_new_self, Hp.at_put_self, Hp.at_new_lt, Hp.at_put_ne, b1] <;> rfl) (by simp only [cellAt_row', setL_cons0, setL_succ, Nat.reduceAdd, Nat.reduceMul, Nat.zero_add, Nat.add_zero, List.getElem?_cons_succ, List.getElem?_cons_zero]; rfl) ?_ | refine LoadsG.mk (by simp (disch := (first | omega | (simp only [Hp.next_new, Hp.next_put]; omega))) only [Hp.at_new_self, Hp.at_put_self, Hp.at_new_lt, Hp.at_put_ne, b1] <;> rfl) (by rfl) ?_ | refine AtG.mkG ?_ | refine StoreG.mk (by simp (disch := (first | omega | (simp only [Hp.next_new, Hp.next_put]; omega))) only [Hp.at_new_self, Hp.at_put_self, Hp.at_new_lt, Hp.at_put_ne, b1] <;> rfl) (by first | omega | (simp; done) | (simp; omega)) ?_ | refine CondG.mkG ?_ | (refine LoadsG.mk b1 (by rfl) ?_) | (refine LoadG.mk b1 (by rfl) ?_) | (refine CondG.mk (sameV_flat _ fd) ?_) | (refine CondG.mk (sameV_agg _ (by simp [flatV])) ?_) | fail); (all_goals (try dsimp only))
  refine cClone_go hC (hd.mono y1) (fun v2 h2 x2 w2 f2 => ?_)
  have n2 := x2.next
  have c1 : h2.at h.next = some ⟨true, 11, .row [I a.t, I a.n, I a.seq, I a.kind, I a.ot, I a.on, I a.pt, I a.pn, S a.name, vd, vs]⟩ := by
    rw [x2.same _ (by omega)]; exact b1
  have c2 : h2.at (h.next + 1) = some ⟨true, 5, .row [I 0, I 0, I 0, .nilslice, .nilslice]⟩ := by
    rw [x2.same _ (by omega)]; exact b2
  have g1 := (w1.mono x2).flat
  have g2 := w2.flat
  have w1' := w1.mono x2
  have y2 : Ext h h2 := y1.trans x2
  have fin2 : ∀ ob, VerH (h2.put (h.next + 1) (some ob)) [I a.t, I a.n, I a.seq, v1, v2] a := fun ob =>
    ⟨v1, v2, rfl, w1'.put f1 (by simp only [Hp.next_new]; omega) _, w2.put f2 (by omega) _⟩
  have y3 : ∀ ob, Ext h (h2.put (h.next + 1) ob) := fun ob => y2.put _ (by omega)
  rcases w1.shape with rfl | ⟨o1, rfl⟩ | ⟨o1, off1, k1, kn1, cc1, rfl⟩ <;> rcases w2.shape with rfl | ⟨o2, rfl⟩ | ⟨o2, off2, k2, kn2, cc2, rfl⟩
  all_goals
    ((try unfold vMov); repeat' (first | refine Step.imp ?_ | (refine Way.mk (fun hp => ?_) (fun hp => ?_) <;> first | contradiction | (exfalso; omega) | skip) | refine LoadG.mkG ?_ | refine LoadsG.mkG ?_ | refine AtG.mkG ?_ | refine StoreG.mkG ?_ | refine CondG.mkG ?_ | (refine LoadsG.mk c1 (by rfl) ?_) | (refine LoadG.mk c1 (by rfl) ?_) | (refine StoreG.mk c2 ⟨rfl, Nat.le_refl 5⟩ ?_) | fail); (all_goals (try dsimp only))
     first | exact hK _ _ (y3 _) (fin2 _) | trace_state)
end
end Lg

namespace Lg
set_option linter.unusedSimpArgs false
set_option linter.unusedVariables false
set_option maxRecDepth 100000
open Go Go.Am
open Go.Proofs.Ytnhamanffojhfaa.shl

theorem Rd.openS {h : Hp} {esz : Nat} {v : AV} {els : List (List AV)} (hr : Rd h esz v els) {i : Nat} (hi : i < els.length) : ∃ o off kn c e, v = .slice o off els.length kn c ∧ h.at o = some e ∧ ∀ j (hj : j < els.length), cellsO e.obj esz (off + j * esz) = some els[j] := by
  rcases hr with ⟨_, rfl⟩ | ⟨_, _, rfl⟩ | ⟨o, off, kn, c, e, h1, _, h3, _, h5⟩
  · simp at hi
  · simp at hi
  · exact ⟨o, off, kn, c, e, h1, h3, h5⟩
/-- Operations in a row. -/
def OpsR (h : Hp) (els : List (List AV)) (os : List FOp) : Prop := els.length = os.length ∧ ∀ j (h1 : j < els.length) (h2 : j < os.length), OpH h els[j] os[j]
theorem OpsR.mono {h h' : Hp} {els : List (List AV)} {os : List FOp} (ho : OpsR h els os) (hx : Ext h h') : OpsR h' els os := ⟨ho.1, fun j h1 h2 => (ho.2 j h1 h2).mono hx⟩
def cBeh : ConD := fun args h K => ∃ ca cb a b, args = [.agg ca, .agg cb] ∧ OpH h ca a ∧ OpH h cb b ∧ ∀ h', Ext h h' → K (.bool (behind a b)) h'
theorem cBeh_go {cf : CallK} {g : FuncId} (hg : cf g = cBeh) {h : Hp} {ca cb : List AV} {a b : FOp} {K : AV → Hp → Prop} (ha : OpH h ca a) (hb : OpH h cb b) (hK : ∀ h', Ext h h' → K (.bool (behind a b)) h') : cf g [.agg ca, .agg cb] h K := by rw [hg]; exact ⟨ca, cb, a, b, rfl, ha, hb, hK⟩
/-- No one of those from k on, so many, has seen the one at i. -/
def freeN (os : List FOp) (i : Nat) : Nat → Nat → Bool := allN fun k => k == i || !(match os[i]?, os[k]? with | some a, some b => behind a b | _, _ => false)
section
variable (cf : CallK) (fuel : Nat) {K : AV → Hp → Prop}
theorem HeadsL4_run (hB : cf 24 = cBeh) {h0 : Hp} {v : AV} {els : List (List AV)} {os : List FOp} (hr : Rd h0 11 v els) (ho : OpsR h0 els os) {i : Nat} (hi : i < els.length) (t3 : AV) (e3 : AV → Hp → Prop) :
    ∀ (d k fm : Nat) (b : Bool) (h : Hp), k + d = els.length → d < fm → Ext h0 h → (∀ h', Ext h0 h' → e3 (.bool (b && freeN os i k d)) h') → s_lagoonref15_HeadsL4 cf fuel e3 v t3 (I i) fm (.bool b) (I k) h
  | d, k, fm, b, h, hk, hf, hx, hK => by
    obtain ⟨fm, rfl⟩ : ∃ j, fm = j + 1 := ⟨fm - 1, by omega⟩
    rw [s_lagoonref15_HeadsL4_succ]
    unfold s_lagoonref15_HeadsL4B
    obtain ⟨o, off, kn, c, e, rfl, hat, hc⟩ := (hr.mono hx).openS hi
    have hb := hr.bound
    (try unfold vMov); repeat' (first | refine Step.imp ?_ | (refine Way.mk (fun hp => ?_) (fun hp => ?_) <;> first | contradiction | (exfalso; omega) | skip) | refine LoadG.mkG ?_ | refine LoadsG.mkG ?_ | refine AtG.mkG ?_ | refine StoreG.mkG ?_ | refine CondG.mkG ?_ | fail); (all_goals (try dsimp only))
    · obtain ⟨d, rfl⟩ : ∃ j, d = j + 1 := ⟨d - 1, by omega⟩
      have hkl : k < els.length := by omega
      have hos : i < os.length ∧ k < os.length := by rw [← ho.1]; exact ⟨hi, hkl⟩
      have ci := hc i hi
      have ck := hc k hkl
      have ei : (I (i : Int)) = .int .i64 ((i : Nat) : Int) := rfl
      unfold s_lagoonref15_HeadsB15
      dsimp only
      have e1 : ((k : Int) + 1) = ((k + 1 : Nat) : Int) := by omega
      have next : ∀ (b' : Bool) (h' : Hp), Ext h0 h' → (b' && freeN os i (k + 1) d) = (b && freeN os i k (d + 1)) → s_lagoonref15_HeadsL4 cf fuel e3 (.slice o off els.length kn c) t3 (I i) fm (.bool b') (I ((k + 1 : Nat) : Int)) h' := fun b' h' x1 x2 =>
        HeadsL4_run hB hr ho hi t3 e3 d (k + 1) fm b' h' (by omega) (by omega) x1 (fun h'' x3 => by rw [x2]; exact hK h'' x3)
      (try unfold vMov); repeat' (first | refine Step.imp ?_ | (refine Way.mk (fun hp => ?_) (fun hp => ?_) <;> first | contradiction | (exfalso; omega) | skip) | refine LoadG.mkG ?_ | refine LoadsG.mkG ?_ | refine AtG.mkG ?_ | refine StoreG.mkG ?_ | refine CondG.mkG ?_ | (refine LoadsG.mk hat (by simpa using ci) ?_) | (refine LoadsG.mk hat (by simpa using ck) ?_) | (refine cBeh_go hB ((ho.mono hx).2 i hi hos.1) ((ho.mono hx).2 k hkl hos.2) (fun h1 hx1 => ?_)) | fail); (all_goals (try dsimp only))
      · have hki : k = i := by omega
        rw [e1]
        exact next b h hx (by simp [freeN, allN, hki])
      · have hki : ¬ k = i := by omega
        have hb0 : (match os[i]?, os[k]? with | some a, some b => behind a b | _, _ => false) = behind os[i] os[k] := by
          rw [List.getElem?_eq_getElem hos.1, List.getElem?_eq_getElem hos.2]
        cases hbeh : behind os[i] os[k] with
        | true =>
          (try unfold vMov); repeat' (first | refine Step.imp ?_ | (refine Way.mk (fun hp => ?_) (fun hp => ?_) <;> first | contradiction | (exfalso; omega) | skip) | refine LoadG.mkG ?_ | refine LoadsG.mkG ?_ | refine AtG.mkG ?_ | refine StoreG.mkG ?_ | refine CondG.mkG ?_ | fail); (all_goals (try dsimp only))
          rw [e1]
          exact next false h1 (hx.trans hx1) (by simp [freeN, allN, hki, hb0, hbeh])
        | false =>
          (try unfold vMov); repeat' (first | refine Step.imp ?_ | (refine Way.mk (fun hp => ?_) (fun hp => ?_) <;> first | contradiction | (exfalso; omega) | skip) | refine LoadG.mkG ?_ | refine LoadsG.mkG ?_ | refine AtG.mkG ?_ | refine StoreG.mkG ?_ | refine CondG.mkG ?_ | fail); (all_goals (try dsimp only))
          rw [e1]
          exact next b h1 (hx.trans hx1) (by simp [freeN, allN, hki, hb0, hbeh])
    · have hd : d = 0 := by omega
      subst hd
      have := hK h hx
      simpa [freeN, allN] using this
/-- The heads among those from i on, so many. -/
def headsN (os : List FOp) : Nat → Nat → List Nat
  | _, 0 => []
  | i, d + 1 => if freeN os i 0 os.length then i :: headsN os (i + 1) d else headsN os (i + 1) d
theorem headsN_len (os : List FOp) : ∀ (i d : Nat), (headsN os i d).length ≤ d
  | _, 0 => by simp [headsN]
  | i, d + 1 => by
    have := headsN_len os (i + 1) d
    unfold headsN
    split
    · simp only [List.length_cons]; omega
    · omega
theorem HeadsL1_run (hB : cf 24 = cBeh) {h0 : Hp} {v : AV} {els : List (List AV)} {os : List FOp} (hr : Rd h0 11 v els) (ho : OpsR h0 els os) (hf : els.length + 1 < fuel) (hsm : els.length ≤ 1000000) (e0 : AV → Hp → Prop)
    (he : ∀ (v' : AV) (h' : Hp), Ext h0 h' → SlN h' 11 v' ((headsN os 0 els.length).filterMap fun i => els[i]?) h0.next → e0 v' h') :
    ∀ (d i fm : Nat) (pre : List Nat) (t3 : AV) (h : Hp), i + d = els.length → d < fm → Ext h0 h → pre ++ headsN os i d = headsN os 0 els.length → SlN h 11 t3 (pre.filterMap fun i => els[i]?) h0.next →
    s_lagoonref15_HeadsL1 cf fuel e0 v fm t3 (I i) h
  | d, i, fm, pre, t3, h, hk, hm, hx, hp, hs => by
    obtain ⟨fm, rfl⟩ : ∃ j, fm = j + 1 := ⟨fm - 1, by omega⟩
    rw [s_lagoonref15_HeadsL1_succ]
    unfold s_lagoonref15_HeadsL1B
    have hb := hr.bound
    have hp0 := hp
    by_cases hi : i < els.length
    · obtain ⟨d, rfl⟩ : ∃ j, d = j + 1 := ⟨d - 1, by omega⟩
      obtain ⟨o, off, kn, c, e, rfl, hat, hc⟩ := (hr.mono hx).openS hi
      dsimp only
      (try unfold vMov); repeat' (first | refine Step.imp ?_ | (refine Way.mk (fun hp => ?_) (fun hp => ?_) <;> first | contradiction | (exfalso; omega) | skip) | refine LoadG.mkG ?_ | refine LoadsG.mkG ?_ | refine AtG.mkG ?_ | refine StoreG.mkG ?_ | refine CondG.mkG ?_ | fail); (all_goals (try dsimp only))
      have e1 : ((i : Int) + 1) = ((i + 1 : Nat) : Int) := by omega
      have hos : i < os.length := by rw [← ho.1]; exact hi
      have next : ∀ (pre' : List Nat) (t3' : AV) (h' : Hp), Ext h0 h' → pre' ++ headsN os (i + 1) d = headsN os 0 els.length → SlN h' 11 t3' (pre'.filterMap fun i => els[i]?) h0.next → s_lagoonref15_HeadsL1 cf fuel e0 (.slice o off els.length kn c) fm t3' (I ((i + 1 : Nat) : Int)) h' := fun pre' t3' h' x1 x2 x3 =>
        HeadsL1_run hB hr ho hf hsm e0 he d (i + 1) fm pre' t3' h' (by omega) (by omega) x1 x2 x3
      refine HeadsL4_run cf fuel hB (h0 := h) (hr.mono hx) (ho.mono hx) hi t3 _ els.length 0 fuel true h (by omega) (by omega) (Ext.refl h) (fun h' hx' => ?_)
      have hat' : h'.at o = some e := by
        rcases (hr.mono hx) with ⟨q, _⟩ | ⟨_, q, _⟩ | ⟨o', off', kn', c', e', q1, q2, q3, _⟩
        · cases q
        · cases q
        · cases q1
          rw [hx'.same o q2, hat]
      unfold s_lagoonref15_HeadsE3 s_lagoonref15_HeadsE2
      rw [Bool.true_and]
      have hlen : freeN os i 0 els.length = freeN os i 0 os.length := by rw [ho.1]
      cases hfr : freeN os i 0 els.length with
      | false =>
        (try unfold vMov); repeat' (first | refine Step.imp ?_ | (refine Way.mk (fun hp => ?_) (fun hp => ?_) <;> first | contradiction | (exfalso; omega) | skip) | refine LoadG.mkG ?_ | refine LoadsG.mkG ?_ | refine AtG.mkG ?_ | refine StoreG.mkG ?_ | refine CondG.mkG ?_ | fail); (all_goals (try dsimp only))
        rw [e1]
        refine next pre t3 h' (hx.trans hx') ?_ (hs.ext hx')
        have : freeN os i 0 os.length = false := by rw [← hlen]; exact hfr
        rw [← hp0]
        simp [headsN, this]
      | true =>
        obtain ⟨vd, vs, hcs, -⟩ := ho.2 i hi hos
        have ci := hc i hi
        rw [hcs] at ci
        unfold opCells at ci
        (try unfold vMov); repeat' (first | refine Step.imp ?_ | (refine Way.mk (fun hp => ?_) (fun hp => ?_) <;> first | contradiction | (exfalso; omega) | skip) | refine LoadG.mkG ?_ | refine LoadsG.mkG ?_ | refine AtG.mkG ?_ | refine StoreG.mkG ?_ | refine CondG.mkG ?_ | (refine LoadsG.mk hat' (by simpa using ci) ?_) | fail); (all_goals (try dsimp only))
        refine append_own (els := pre.filterMap fun i => els[i]?) (news := [opCells os[i] vd vs]) (B := h0.next) (h0 := h0) ((hx.trans hx').trans (by repeat (first | exact Ext.refl _ | assumption | apply Ext.new | (refine Ext.put ?_ _ (by first | omega | (simp; done) | (simp; omega)))))) (hs.ext (hx'.trans (by repeat (first | exact Ext.refl _ | assumption | apply Ext.new | (refine Ext.put ?_ _ (by first | omega | (simp; done) | (simp; omega))))))) (Nat.le_refl _) ?_ ?_ ?_ (by simp) ?_ ?_
        · have := (hx.trans hx').next
          simp only [Hp.next_new]; omega
        · exact ⟨_, 0, true, 1, _, rfl, Hp.at_new_self _ _, rfl⟩
        · intro x hx1
          rw [List.mem_singleton.1 hx1]; rfl
        · have h1 := headsN_len os 0 els.length
          have h2 := congrArg List.length hp0
          have h3 := List.length_filterMap_le (fun i => els[i]?) pre
          simp only [List.length_append, List.length_singleton] at h2 ⊢
          omega
        · intro v' h'' k1 k2 k3 k4
          (try unfold vMov); repeat' (first | refine Step.imp ?_ | (refine Way.mk (fun hp => ?_) (fun hp => ?_) <;> first | contradiction | (exfalso; omega) | skip) | refine LoadG.mkG ?_ | refine LoadsG.mkG ?_ | refine AtG.mkG ?_ | refine StoreG.mkG ?_ | refine CondG.mkG ?_ | fail); (all_goals (try dsimp only))
          rw [e1]
          refine next (pre ++ [i]) v' h'' k1 ?_ ?_
          · have : freeN os i 0 os.length = true := by rw [← hlen]; exact hfr
            rw [← hp0]
            simp [headsN, this]
          · simpa [List.filterMap_append, List.getElem?_eq_getElem hi, hcs] using k4
    · have hd : d = 0 := by omega
      subst hd
      have hv : vLenL2 v h = fun K => K (I els.length) h := by
        funext K
        rcases hr with ⟨rfl, rfl⟩ | ⟨_, rfl, rfl⟩ | ⟨o, off, kn, c, e, rfl, _⟩ <;> rfl
      rw [hv]
      dsimp only
      (try unfold vMov); repeat' (first | refine Step.imp ?_ | (refine Way.mk (fun hp => ?_) (fun hp => ?_) <;> first | contradiction | (exfalso; omega) | skip) | refine LoadG.mkG ?_ | refine LoadsG.mkG ?_ | refine AtG.mkG ?_ | refine StoreG.mkG ?_ | refine CondG.mkG ?_ | fail); (all_goals (try dsimp only))
      refine he t3 h hx ?_
      have : pre = headsN os 0 els.length := by simpa [headsN] using hp0
      rw [← this]; exact hs
theorem Heads_run (hB : cf 24 = cBeh) {h0 : Hp} {v : AV} {els : List (List AV)} {os : List FOp} (hr : Rd h0 11 v els) (ho : OpsR h0 els os) (hf : els.length + 1 < fuel) (hsm : els.length ≤ 1000000)
    (hK : ∀ (v' : AV) (h' : Hp), Ext h0 h' → SlN h' 11 v' ((headsN os 0 els.length).filterMap fun i => els[i]?) h0.next → K v' h') : s_lagoonref15_Heads cf fuel v h0 K := by
  unfold s_lagoonref15_Heads
  dsimp only
  exact HeadsL1_run cf fuel hB hr ho hf hsm _ (fun v' h' x1 x2 => by unfold s_lagoonref15_HeadsE0; exact hK v' h' x1 x2) els.length 0 fuel [] .nilslice h0 (by omega) (by omega) (Ext.refl h0) rfl (.inl ⟨rfl, rfl⟩)
end
end Lg

namespace Lg
set_option linter.unusedSimpArgs false
set_option linter.unusedVariables false
set_option maxRecDepth 100000
open Go Go.Am
open Go.Proofs.Ytnhamanffojhfaa.shl
/-- Versions in a row. -/
def VersR (h : Hp) (els : List (List AV)) (os : List FOp) : Prop := els.length = os.length ∧ ∀ j (h1 : j < els.length) (h2 : j < os.length), VerH h els[j] os[j]
theorem VersR.mono {h h' : Hp} {els : List (List AV)} {os : List FOp} (ho : VersR h els os) (hx : Ext h h') : VersR h' els os := ⟨ho.1, fun j h1 h2 => (ho.2 j h1 h2).mono hx⟩
def cBehV : ConD := fun args h K => ∃ ca cb a b, args = [.agg ca, .agg cb] ∧ VerH h ca a ∧ VerH h cb b ∧ ∀ h', Ext h h' → K (.bool (behind a b)) h'
theorem cBehV_go {cf : CallK} {g : FuncId} (hg : cf g = cBehV) {h : Hp} {ca cb : List AV} {a b : FOp} {K : AV → Hp → Prop} (ha : VerH h ca a) (hb : VerH h cb b) (hK : ∀ h', Ext h h' → K (.bool (behind a b)) h') : cf g [.agg ca, .agg cb] h K := by rw [hg]; exact ⟨ca, cb, a, b, rfl, ha, hb, hK⟩
/-- None of those from k on, so many, has seen a. -/
def freeP (os : List FOp) (a : FOp) : Nat → Nat → Bool := allN fun k => match os[k]? with | some b => sameI a.t a.n b.t b.n || !behind a b | none => true
section
variable (cf : CallK) (fuel : Nat) {K : AV → Hp → Prop}
theorem FHeadsL4_run (hB : cf 23 = cBehV) {h0 : Hp} {v : AV} {els : List (List AV)} {os : List FOp} (hr : Rd h0 5 v els) (ho : VersR h0 els os) {a : FOp} {vs vd : AV} (ha : VerH h0 [I a.t, I a.n, I a.seq, vs, vd] a) {p : Nat} (hP : h0.at p = some ⟨true, 5, .row [I a.t, I a.n, I a.seq, vs, vd]⟩) (hpn : p < h0.next)
    (t0 t3 t13 t14 t15 : AV) (e2 : AV → Hp → Prop) (e3 : Hp → Prop) :
    ∀ (d k fm : Nat) (h : Hp), k + d = els.length → d < fm → Ext h0 h → (∀ h', Ext h0 h' → freeP os a k d = false → e2 t3 h') → (∀ h', Ext h0 h' → freeP os a k d = true → e3 h') →
      s_content_File_HeadsL4 cf fuel e2 e3 t0 t3 (.ptr p 0) t13 t14 t15 v (I els.length) fm (I k) h
  | d, k, fm, h, hk, hf, hx, h2, h3 => by
    obtain ⟨fm, rfl⟩ : ∃ j, fm = j + 1 := ⟨fm - 1, by omega⟩
    rw [s_content_File_HeadsL4_succ]
    unfold s_content_File_HeadsL4B
    have hb := hr.bound
    have hp' : h.at p = some ⟨true, 5, .row [I a.t, I a.n, I a.seq, vs, vd]⟩ := by rw [hx.same p hpn]; exact hP
    have hpl : p < h.next := Nat.lt_of_lt_of_le hpn hx.next
    (try unfold vMov); repeat' (first | refine Step.imp ?_ | (refine Way.mk (fun hp => ?_) (fun hp => ?_) <;> first | contradiction | (exfalso; omega) | skip) | refine LoadG.mkG ?_ | refine LoadsG.mkG ?_ | refine AtG.mkG ?_ | refine StoreG.mkG ?_ | refine CondG.mkG ?_ | fail); (all_goals (try dsimp only))
    · obtain ⟨d, rfl⟩ : ∃ j, d = j + 1 := ⟨d - 1, by omega⟩
      have hkl : k < els.length := by omega
      have hos : k < os.length := by rw [← ho.1]; exact hkl
      obtain ⟨o, off, kn, c, e, rfl, hat, hc⟩ := (hr.mono hx).openS hkl
      have ck := hc k hkl
      have hv := (ho.mono hx).2 k hkl hos
      obtain ⟨vs', vd', hcs, hs', hd'⟩ := hv
      rw [hcs] at ck
      have fs := hs'.flat
      have fd := hd'.flat
      have e1 : ((k : Int) + 1) = ((k + 1 : Nat) : Int) := by omega
      have next : ∀ (h' : Hp), Ext h0 h' → (freeP os a (k + 1) d = freeP os a k (d + 1)) → s_content_File_HeadsL4 cf fuel e2 e3 t0 t3 (.ptr p 0) t13 t14 t15 (.slice o off els.length kn c) (I els.length) fm (I ((k + 1 : Nat) : Int)) h' := fun h' x1 x2 =>
        FHeadsL4_run hB hr ho ha hP hpn t0 t3 t13 t14 t15 e2 e3 d (k + 1) fm h' (by omega) (by omega) x1 (fun h'' y1 y2 => h2 h'' y1 (by rw [← x2]; exact y2)) (fun h'' y1 y2 => h3 h'' y1 (by rw [← x2]; exact y2))
      unfold s_content_File_HeadsB9
      dsimp only
      have hb0 : freeP os a k (d + 1) = ((sameI a.t a.n os[k].t os[k].n || !behind a os[k]) && freeP os a (k + 1) d) := by
        show ((match os[k]? with | some b => sameI a.t a.n b.t b.n || !behind a b | none => true) && _) = _
        rw [List.getElem?_eq_getElem hos]; rfl
      have hsh' : VecH h vs' os[k].seen := hs'
      have hdh' : ByH h vd' os[k].data := hd'
      rcases hs'.shape with rfl | ⟨o1, rfl⟩ | ⟨o1, off1, k1, kn1, cc1, rfl⟩ <;> rcases hd'.shape with rfl | ⟨o2, rfl⟩ | ⟨o2, off2, k2, kn2, cc2, rfl⟩
      all_goals
        ((try unfold vMov); repeat' (first | refine Step.imp ?_ | (refine Way.mk (fun hp => ?_) (fun hp => ?_) <;> first | contradiction | (exfalso; omega) | skip) | refine LoadG.mk (by simp (disch := (first | omega | (simp only [Hp.next_new, Hp.next_put]; omega))) only [Hp.at_new_self, Hp.at_put_self, Hp.at_new_lt, Hp.at_put_ne, hp'] <;> rfl) (by simp only [cellAt_row', setL_cons0, setL_succ, Nat.reduceAdd, Nat.reduceMul, Nat.zero_add, Nat.add_zero, List.getElem?_cons_succ, List.getElem?_cons_zero]; rfl) ?_ | refine LoadsG.mk (by simp (disch := (first | omega | (simp only [Hp.next_new, Hp.next_put]; omega))) only [Hp.at_new_self, Hp.at_put_self, Hp.at_new_lt, Hp.at_put_ne, hp'] <;> rfl) (by rfl) ?_ | refine AtG.mkG ?_ | refine StoreG.mk (by simp (disch := (first | omega | (simp only [Hp.next_new, Hp.next_put]; omega))) only [Hp.at_new_self, Hp.at_put_self, Hp.at_new_lt, Hp.at_put_ne, hp'] <;> rfl) (by first | omega | (simp; done) | (simp; omega)) ?_ | refine CondG.mkG ?_ | (refine LoadsG.mk hat (by simpa using ck) ?_) | (refine LoadsG.mk hp' (by rfl) ?_) | fail); (all_goals (try dsimp only))
         · rw [e1]
           refine next _ (hx.trans (by repeat (first | exact Ext.refl _ | assumption | apply Ext.new | (refine Ext.put ?_ _ (by first | omega | (simp; done) | (simp; omega)))))) ?_
           have hse : sameI a.t a.n os[k].t os[k].n = true := by simp_all [sameI]
           rw [hb0, hse]; simp
         · have hse : sameI a.t a.n os[k].t os[k].n = false := by
             cases q : sameI a.t a.n os[k].t os[k].n with
             | false => rfl
             | true => exfalso; simp_all [sameI]
           refine cBehV_go hB (ha.mono (hx.trans (by repeat (first | exact Ext.refl _ | assumption | apply Ext.new | (refine Ext.put ?_ _ (by first | omega | (simp; done) | (simp; omega))))))) (VerH.mono (h := h) ⟨_, _, rfl, hsh', hdh'⟩ (by repeat (first | exact Ext.refl _ | assumption | apply Ext.new | (refine Ext.put ?_ _ (by first | omega | (simp; done) | (simp; omega)))))) (fun h1 x1 => ?_)
           have x0 : Ext h0 h1 := (hx.trans (by repeat (first | exact Ext.refl _ | assumption | apply Ext.new | (refine Ext.put ?_ _ (by first | omega | (simp; done) | (simp; omega)))))).trans x1
           cases hbeh : behind a os[k] with
           | true =>
             (try unfold vMov); repeat' (first | refine Step.imp ?_ | (refine Way.mk (fun hp => ?_) (fun hp => ?_) <;> first | contradiction | (exfalso; omega) | skip) | refine LoadG.mkG ?_ | refine LoadsG.mkG ?_ | refine AtG.mkG ?_ | refine StoreG.mkG ?_ | refine CondG.mkG ?_ | fail); (all_goals (try dsimp only))
             exact h2 h1 x0 (by rw [hb0, hse, hbeh]; rfl)
           | false =>
             (try unfold vMov); repeat' (first | refine Step.imp ?_ | (refine Way.mk (fun hp => ?_) (fun hp => ?_) <;> first | contradiction | (exfalso; omega) | skip) | refine LoadG.mkG ?_ | refine LoadsG.mkG ?_ | refine AtG.mkG ?_ | refine StoreG.mkG ?_ | refine CondG.mkG ?_ | fail); (all_goals (try dsimp only))
             rw [e1]
             exact next h1 x0 (by rw [hb0, hse, hbeh]; simp))
    · have hd : d = 0 := by omega
      subst hd
      exact h3 h hx rfl
end
end Lg

namespace Lg
set_option linter.unusedSimpArgs false
set_option linter.unusedVariables false
set_option maxRecDepth 100000
open Go Go.Am
open Go.Proofs.Ytnhamanffojhfaa.shl
/-- A file: where its versions lie. -/
def FileH (h : Hp) (fo : Nat) (v : AV) (els : List (List AV)) (os : List FOp) : Prop := fo < h.next ∧ h.at fo = some ⟨true, 1, .row [v]⟩ ∧ Rd h 5 v els ∧ VersR h els os
theorem FileH.mono {h h' : Hp} {fo : Nat} {v : AV} {els : List (List AV)} {os : List FOp} (hf : FileH h fo v els os) (hx : Ext h h') : FileH h' fo v els os :=
  ⟨Nat.lt_of_lt_of_le hf.1 hx.next, by rw [hx.same fo hf.1]; exact hf.2.1, hf.2.2.1.mono hx, hf.2.2.2.mono hx⟩
section
variable (cf : CallK) (fuel : Nat) {h : Hp} {K : AV → Hp → Prop}
theorem Len_run {fo : Nat} {v : AV} {els : List (List AV)} {os : List FOp} (hf : FileH h fo v els os) (hK : K (I os.length) h) : s_content_File_Len cf fuel (.ptr fo 0) h K := by
  obtain ⟨f1, f2, f3, f4⟩ := hf
  have hl : (I (os.length : Int)) = I (els.length : Int) := by rw [f4.1]
  rw [hl] at hK
  unfold s_content_File_Len
  rcases f3 with ⟨rfl, rfl⟩ | ⟨o, rfl, rfl⟩ | ⟨o, off, kn, c, e, rfl, _⟩
  all_goals
    ((try unfold vMov); repeat' (first | refine Step.imp ?_ | (refine Way.mk (fun hp => ?_) (fun hp => ?_) <;> first | contradiction | (exfalso; omega) | skip) | refine LoadG.mkG ?_ | refine LoadsG.mkG ?_ | refine AtG.mkG ?_ | refine StoreG.mkG ?_ | refine CondG.mkG ?_ | (refine LoadG.mk f2 (by rfl) ?_) | fail); (all_goals (try dsimp only))
     all_goals first | exact hK | simpa using hK)
theorem New_run (hK : ∀ fo h', Ext h h' → FileH h' fo .nilslice [] [] → h.next ≤ fo → K (.ptr fo 0) h') : s_content_New cf fuel h K := by
  unfold s_content_New
  (try unfold vMov); repeat' (first | refine Step.imp ?_ | (refine Way.mk (fun hp => ?_) (fun hp => ?_) <;> first | contradiction | (exfalso; omega) | skip) | refine LoadG.mkG ?_ | refine LoadsG.mkG ?_ | refine AtG.mkG ?_ | refine StoreG.mkG ?_ | refine CondG.mkG ?_ | fail); (all_goals (try dsimp only))
  refine hK _ _ (by repeat (first | exact Ext.refl _ | assumption | apply Ext.new | (refine Ext.put ?_ _ (by first | omega | (simp; done) | (simp; omega))))) ⟨by simp [Hp.next_new], Hp.at_new_self _ _, .inl ⟨rfl, rfl⟩, rfl, fun j h1 => by simp at h1⟩ (Nat.le_refl _)
end
end Lg

namespace Lg
set_option linter.unusedSimpArgs false
set_option linter.unusedVariables false
set_option maxRecDepth 100000
open Go Go.Am
open Go.Proofs.Ytnhamanffojhfaa.shl
theorem VecH.same {h h' : Hp} {v : AV} {l : List Int} (hv : VecH h v l) (hn : h.next ≤ h'.next) (hs : ∀ o off n kn c, v = .slice o off n kn c → o < h.next → h'.at o = h.at o) : VecH h' v l := by
  rcases hv with q | q | ⟨o, off, kn, c, e', h1, h2, h3, h4⟩
  · exact .inl q
  · exact .inr (.inl q)
  · exact .inr (.inr ⟨o, off, kn, c, e', h1, Nat.lt_of_lt_of_le h2 hn, by rw [hs _ _ _ _ _ h1 h2]; exact h3, h4⟩)
theorem ByH.same {h h' : Hp} {v : AV} {l : List UInt8} (hv : ByH h v l) (hn : h.next ≤ h'.next) (hs : ∀ o off n kn c, v = .slice o off n kn c → o < h.next → h'.at o = h.at o) : ByH h' v l := by
  rcases hv with q | q | ⟨o, off, kn, c, e', n, z, h1, h2, h3, h4⟩
  · exact .inl q
  · exact .inr (.inl q)
  · exact .inr (.inr ⟨o, off, kn, c, e', n, z, h1, Nat.lt_of_lt_of_le h2 hn, by rw [hs _ _ _ _ _ h1 h2]; exact h3, h4⟩)
theorem VecH.lt {h : Hp} {v : AV} {l : List Int} (hv : VecH h v l) {o off n : Nat} {kn : Bool} {c : Nat} (e : v = .slice o off n kn c) : o < h.next := by
  rcases hv with ⟨rfl, _⟩ | ⟨_, rfl, _⟩ | ⟨o', off', kn', c', e', rfl, h2, _⟩
  · cases e
  · cases e
  · cases e; exact h2
theorem ByH.lt {h : Hp} {v : AV} {l : List UInt8} (hv : ByH h v l) {o off n : Nat} {kn : Bool} {c : Nat} (e : v = .slice o off n kn c) : o < h.next := by
  rcases hv with ⟨rfl, _⟩ | ⟨_, rfl, _⟩ | ⟨o', off', kn', c', e', n', z', rfl, h2, _⟩
  · cases e
  · cases e
  · cases e; exact h2
theorem SlN.lt {h : Hp} {esz : Nat} {v : AV} {els : List (List AV)} {B o off n : Nat} {kn : Bool} {c : Nat} (hv : SlN h esz v els B) (e : v = .slice o off n kn c) : o < h.next := by
  rcases hv with ⟨rfl, _⟩ | ⟨o', ob, rfl, _, h2, _⟩
  · cases e
  · cases e; exact h2
section
variable (cf : CallK) (fuel : Nat) {K : AV → Hp → Prop}
theorem FHeadsE3_run (hC : cf 61 = cClone) {h0 hb h : Hp} (x0 : Ext h0 hb) (hx : Ext hb h) {p : Nat} (hp1 : hb.next ≤ p) (hp2 : p < h.next) {a : FOp} {vs vd : AV} (hP : h.at p = some ⟨true, 5, .row [I a.t, I a.n, I a.seq, vs, vd]⟩) (hs : VecH h vs a.seen) (hd : ByH h vd a.data)
    {t3 : AV} {els' : List (List AV)} {B : Nat} (hB0 : h0.next ≤ B) (hB : B ≤ hb.next) (ho : SlN hb 5 t3 els' B) (hn : els'.length ≤ 1000000) (t0 t13 t14 t15 : AV) (e2 : AV → Hp → Prop)
    (hK : ∀ v' h' cs M, Ext h0 h' → (∀ q, q < hb.next → (∀ off n kn c, t3 ≠ .slice q off n kn c) → h'.at q = hb.at q) → hb.next ≤ M → M ≤ h'.next → SlN h' 5 v' (els' ++ [cs]) M → (∀ x ∈ cs, ∀ o off n kn c, x = .slice o off n kn c → o < M) → VerH h' cs a → e2 v' h') :
    s_content_File_HeadsE3 cf fuel e2 t0 t3 (.ptr p 0) t13 t14 t15 h := by
  unfold s_content_File_HeadsE3
  (try unfold vMov); repeat' (first | refine Step.imp ?_ | (refine Way.mk (fun hp => ?_) (fun hp => ?_) <;> first | contradiction | (exfalso; omega) | skip) | refine LoadG.mkG ?_ | refine LoadsG.mkG ?_ | refine AtG.mkG ?_ | refine StoreG.mkG ?_ | refine CondG.mkG ?_ | (refine LoadG.mk hP (by rfl) ?_) | fail); (all_goals (try dsimp only))
  refine copyV hs (fun v1 h1 x1 w1 f1 => ?_)
  have n1 := x1.next
  have P1 : h1.at p = some ⟨true, 5, .row [I a.t, I a.n, I a.seq, vs, vd]⟩ := by rw [x1.same p hp2]; exact hP
  have fd := hd.flat
  (try unfold vMov); repeat' (first | refine Step.imp ?_ | (refine Way.mk (fun hp => ?_) (fun hp => ?_) <;> first | contradiction | (exfalso; omega) | skip) | refine LoadG.mkG ?_ | refine LoadsG.mkG ?_ | refine AtG.mkG ?_ | refine StoreG.mkG ?_ | refine CondG.mkG ?_ | (refine LoadG.mk P1 (by rfl) ?_) | (refine CondG.mk (sameV_flat _ fd) ?_) | fail); (all_goals (try dsimp only))
  refine cClone_go hC (hd.mono x1) (fun v2 h2 x2 w2 f2 => ?_)
  have n2 := x2.next
  have P2 : h2.at p = some ⟨true, 5, .row [I a.t, I a.n, I a.seq, vs, vd]⟩ := by rw [x2.same p (by omega)]; exact P1
  have nb := hx.next
  have y2 : Ext hb h2 := (hx.trans x1).trans x2
  have nx : ∀ {o off n kn c}, t3 = .slice o off n kn c → o < hb.next := fun e => SlN.lt ho e
  have keep : ∀ (h' : Hp) (A C D : Option Ent) (E : Ent), (∀ q, q < (((h2.put p A).put p C).new E).next → (∀ off n kn c, t3 ≠ .slice q off n kn c) → h'.at q = (((h2.put p A).put p C).new E).at q) →
      ∀ o, h.next ≤ o → o < h2.next → h'.at o = h2.at o := fun h' A C D E k3 o q1 q2 => by
    rw [k3 o (by simp only [Hp.next_new, Hp.next_put]; omega) (fun off n kn c e => by have := nx e; omega), Hp.at_new, if_neg (by simp only [Hp.next_put]; omega), Hp.at_put_ne _ (by omega), Hp.at_put_ne _ (by omega)]
  have w1' := w1.mono x2
  have hcs : ∀ x ∈ [I a.t, I a.n, I a.seq, v1, v2], ∀ o off n kn c, x = .slice o off n kn c → o < h2.next := by
    intro x hx o off n kn c e
    rcases List.mem_cons.1 hx with q | hx
    · rw [q] at e; cases e
    rcases List.mem_cons.1 hx with q | hx
    · rw [q] at e; cases e
    rcases List.mem_cons.1 hx with q | hx
    · rw [q] at e; cases e
    rcases List.mem_cons.1 hx with q | hx
    · rw [q] at e; exact VecH.lt w1' e
    · rw [List.mem_singleton.1 hx] at e; exact ByH.lt w2 e
  rcases w1.shape with rfl | ⟨o1, rfl⟩ | ⟨o1, off1, k1, kn1, cc1, rfl⟩ <;> rcases w2.shape with rfl | ⟨o2, rfl⟩ | ⟨o2, off2, k2, kn2, cc2, rfl⟩
  all_goals
    ((try unfold vMov); repeat' (first | refine Step.imp ?_ | (refine Way.mk (fun hp => ?_) (fun hp => ?_) <;> first | contradiction | (exfalso; omega) | skip) | refine LoadG.mk (by simp (disch := (first | omega | (simp only [Hp.next_new, Hp.next_put]; omega))) only [Hp.at_new_self, Hp.at_put_self, Hp.at_new_lt, Hp.at_put_ne, P2] <;> rfl) (by simp only [cellAt_row', setL_cons0, setL_succ, Nat.reduceAdd, Nat.reduceMul, Nat.zero_add, Nat.add_zero, List.getElem?_cons_succ, List.getElem?_cons_zero]; rfl) ?_ | refine LoadsG.mk (by simp (disch := (first | omega | (simp only [Hp.next_new, Hp.next_put]; omega))) only [Hp.at_new_self, Hp.at_put_self, Hp.at_new_lt, Hp.at_put_ne, P2] <;> rfl) (by rfl) ?_ | refine AtG.mkG ?_ | refine StoreG.mk (by simp (disch := (first | omega | (simp only [Hp.next_new, Hp.next_put]; omega))) only [Hp.at_new_self, Hp.at_put_self, Hp.at_new_lt, Hp.at_put_ne, P2] <;> rfl) (by first | omega | (simp; done) | (simp; omega)) ?_ | refine CondG.mkG ?_ | (refine StoreG.mk P2 ⟨rfl, by decide⟩ ?_) | fail); (all_goals (try dsimp only))
     refine append_own2 (els := els') (news := [[I a.t, I a.n, I a.seq, _, _]]) (B := B) (h0 := h0) (x0.trans (by repeat (first | exact Ext.refl _ | assumption | apply Ext.new | (refine Ext.put ?_ _ (by first | omega | (simp; done) | (simp; omega)))))) (ho.same (by simp only [Hp.next_new, Hp.next_put]; omega) (fun q _ q2 => Ext.atq (hx := (by repeat (first | exact Ext.refl _ | assumption | apply Ext.new | (refine Ext.put ?_ _ (by first | omega | (simp; done) | (simp; omega)))))) q q2)) hB0 (by simp only [Hp.next_new, Hp.next_put]; omega) ⟨_, 0, true, 1, _, rfl, Hp.at_new_self _ _, rfl⟩ (by intro e he; rw [List.mem_singleton.1 he]; rfl) (by simp) (by simp only [List.length_singleton]; omega) (fun v' h' k1 k2 k3 k4 => ?_)
     simp only [Hp.next_new, Hp.next_put] at k2
     simp only [Hp.next_new, Hp.next_put] at k4
     refine hK v' h' _ _ k1 (fun q hq hne => (k3 q (by simp only [Hp.next_new, Hp.next_put]; omega) hne).trans (Ext.atq (hx := (by repeat (first | exact Ext.refl _ | assumption | apply Ext.new | (refine Ext.put ?_ _ (by first | omega | (simp; done) | (simp; omega)))))) q hq)) ?_ ?_ k4 ?_ ⟨_, _, rfl, ?_, ?_⟩
     · omega
     · omega
     · exact fun x hx o off n kn c e => Nat.lt_of_lt_of_le (hcs x hx o off n kn c e) (by omega)
     · exact w1'.same (by omega) (fun o off n kn c e q2 => keep h' _ _ none _ k3 o (f1 _ _ _ _ _ e) q2)
     · exact w2.same (by omega) (fun o off n kn c e q2 => keep h' _ _ none _ k3 o (Nat.le_trans n1 (f2 _ _ _ _ _ e)) q2))
end
end Lg

namespace Lg
set_option linter.unusedSimpArgs false
set_option linter.unusedVariables false
set_option maxRecDepth 100000
open Go Go.Am
open Go.Proofs.Ytnhamanffojhfaa.shl
def headsP (os : List FOp) : Nat → Nat → List FOp
  | _, 0 => []
  | i, d + 1 => match os[i]? with
    | some a => if freeP os a 0 os.length then a :: headsP os (i + 1) d else headsP os (i + 1) d
    | none => []
theorem headsP_len (os : List FOp) : ∀ (i d : Nat), (headsP os i d).length ≤ d
  | _, 0 => by simp [headsP]
  | i, d + 1 => by
    have := headsP_len os (i + 1) d
    unfold headsP
    split
    · split
      · simp only [List.length_cons]; omega
      · omega
    · simp
/-- The heads kept so far, in a list of the function's own. -/
def Kept (h : Hp) (t3 : AV) (cl : List (List AV)) (pre : List FOp) (B : Nat) : Prop :=
  ∃ M, B ≤ M ∧ M ≤ h.next ∧ SlN h 5 t3 cl M ∧ (∀ cs ∈ cl, ∀ x ∈ cs, ∀ o off n kn c, x = .slice o off n kn c → o < M) ∧ VersR h cl pre
theorem Kept.mono {h h' : Hp} {t3 : AV} {cl : List (List AV)} {pre : List FOp} {B : Nat} (hk : Kept h t3 cl pre B) (hx : Ext h h') : Kept h' t3 cl pre B := by
  obtain ⟨M, k1, k2, k3, k4, k5⟩ := hk
  exact ⟨M, k1, Nat.le_trans k2 hx.next, k3.ext hx, k4, k5.mono hx⟩
theorem SlN.ge {h : Hp} {esz : Nat} {v : AV} {els : List (List AV)} {B o off n : Nat} {kn : Bool} {c : Nat} (hv : SlN h esz v els B) (e : v = .slice o off n kn c) : B ≤ o := by
  rcases hv with ⟨rfl, _⟩ | ⟨o', ob, rfl, h1, _, _⟩
  · cases e
  · cases e; exact h1
/-- One head more. -/
theorem Kept.add {hb h' : Hp} {t3 v' : AV} {cl : List (List AV)} {cs : List AV} {pre : List FOp} {a : FOp} {B M' : Nat} (hk : Kept hb t3 cl pre B)
    (keep : ∀ q, q < hb.next → (∀ off n kn c, t3 ≠ .slice q off n kn c) → h'.at q = hb.at q) (m1 : hb.next ≤ M') (m2 : M' ≤ h'.next) (hs : SlN h' 5 v' (cl ++ [cs]) M') (hc : ∀ x ∈ cs, ∀ o off n kn c, x = .slice o off n kn c → o < M') (hv : VerH h' cs a) : Kept h' v' (cl ++ [cs]) (pre ++ [a]) B := by
  obtain ⟨M, k1, k2, k3, k4, k5⟩ := hk
  have hn : hb.next ≤ h'.next := Nat.le_trans m1 m2
  have move : ∀ x ∈ cl, ∀ (b : FOp), VerH hb x b → VerH h' x b := fun x hx b hb' => by
    obtain ⟨vs, vd, rfl, q1, q2⟩ := hb'
    have lo : ∀ y ∈ [I b.t, I b.n, I b.seq, vs, vd], ∀ o off n kn c, y = .slice o off n kn c → o < hb.next → h'.at o = hb.at o := fun y hy o off n kn c e q => by
      have := k4 _ hx y hy o off n kn c e
      exact keep o q (fun off n kn c e2 => by have := SlN.ge k3 e2; omega)
    exact ⟨vs, vd, rfl, q1.same hn (lo vs (by simp)), q2.same hn (lo vd (by simp))⟩
  refine ⟨M', by omega, m2, hs, ?_, by simp [k5.1], ?_⟩
  · intro x hx y hy o off n kn c e
    rcases List.mem_append.1 hx with q | q
    · have := k4 x q y hy o off n kn c e; omega
    · rw [List.mem_singleton.1 q] at hy; exact hc y hy o off n kn c e
  · intro j h1 h2
    by_cases hj : j < cl.length
    · have hj' : j < pre.length := by rw [← k5.1]; exact hj
      rw [List.getElem_append_left hj, List.getElem_append_left hj']
      exact move _ (List.getElem_mem hj) _ (k5.2 j hj hj')
    · have hjl : j = cl.length := by simp at h1; omega
      have hjp : j = pre.length := by rw [← k5.1]; exact hjl
      rw [List.getElem_append_right (by omega), List.getElem_append_right (by omega)]
      simp [hjl, hjp, k5.1]
      exact hv
end Lg

namespace Lg
set_option linter.unusedSimpArgs false
set_option linter.unusedVariables false
set_option maxRecDepth 100000
open Go Go.Am
open Go.Proofs.Ytnhamanffojhfaa.shl
section
variable (cf : CallK) (fuel : Nat) {K : AV → Hp → Prop}
theorem FHeadsL1_run (hB : cf 23 = cBehV) (hC : cf 61 = cClone) {h0 : Hp} {fo : Nat} {v : AV} {els : List (List AV)} {os : List FOp} (hf : FileH h0 fo v els os) (hfu : els.length + 1 < fuel) (hsm : els.length ≤ 1000000) (e0 : AV → Hp → Prop)
    (he : ∀ v' h' cl, Ext h0 h' → Kept h' v' cl (headsP os 0 els.length) h0.next → e0 v' h') :
    ∀ (d i fm : Nat) (pre : List FOp) (t3 : AV) (cl : List (List AV)) (h : Hp), i + d = els.length → d < fm → Ext h0 h → pre ++ headsP os i d = headsP os 0 els.length → Kept h t3 cl pre h0.next →
    s_content_File_HeadsL1 cf fuel e0 (.ptr fo 0) v (I els.length) fm t3 (I i) h
  | d, i, fm, pre, t3, cl, h, hk, hm, hx, hpre, hkept => by
    obtain ⟨fm, rfl⟩ : ∃ j, fm = j + 1 := ⟨fm - 1, by omega⟩
    rw [s_content_File_HeadsL1_succ]
    unfold s_content_File_HeadsL1B
    by_cases hi : i < els.length
    · obtain ⟨d, rfl⟩ : ∃ j, d = j + 1 := ⟨d - 1, by omega⟩
      obtain ⟨f1, f2, f3, f4⟩ := hf.mono hx
      obtain ⟨o, off, kn, c, e, rfl, hat, hc⟩ := f3.openS hi
      have hos : i < os.length := by rw [← f4.1]; exact hi
      have ck := hc i hi
      have hvi := f4.2 i hi hos
      obtain ⟨vs, vd, hcs, hs', hd'⟩ := hvi
      rw [hcs] at ck
      have e1 : ((i : Int) + 1) = ((i + 1 : Nat) : Int) := by omega
      have hsh' : VecH h vs os[i].seen := hs'
      have hdh' : ByH h vd os[i].data := hd'
      have hP0 : headsP os i (d + 1) = if freeP os os[i] 0 els.length then os[i] :: headsP os (i + 1) d else headsP os (i + 1) d := by
        rw [f4.1]; conv => lhs; unfold headsP
        rw [List.getElem?_eq_getElem hos]
      have next : ∀ (pre' : List FOp) (t3' : AV) (cl' : List (List AV)) (h' : Hp), Ext h0 h' → pre' ++ headsP os (i + 1) d = headsP os 0 els.length → Kept h' t3' cl' pre' h0.next → s_content_File_HeadsL1 cf fuel e0 (.ptr fo 0) (.slice o off els.length kn c) (I els.length) fm t3' (I ((i + 1 : Nat) : Int)) h' := fun pre' t3' cl' h' x1 x2 x3 =>
        FHeadsL1_run hB hC hf hfu hsm e0 he d (i + 1) fm pre' t3' cl' h' (by omega) (by omega) x1 x2 x3
      have step : ∀ (hh : Hp), Ext h hh → h.next < hh.next → hh.at h.next = some ⟨true, 5, .row [I os[i].t, I os[i].n, I os[i].seq, vs, vd]⟩ →
          s_content_File_HeadsL4 cf fuel (s_content_File_HeadsE2 cf fuel (s_content_File_HeadsL1 cf fuel e0 (.ptr fo 0) (.slice o off els.length kn c) (I els.length) fm) (.ptr fo 0) (.slice o off els.length kn c) (I els.length) (I i))
            (s_content_File_HeadsE3 cf fuel (s_content_File_HeadsE2 cf fuel (s_content_File_HeadsL1 cf fuel e0 (.ptr fo 0) (.slice o off els.length kn c) (I els.length) fm) (.ptr fo 0) (.slice o off els.length kn c) (I els.length) (I i)) (.ptr fo 0) t3 (.ptr h.next 0) (.slice o off els.length kn c) (I els.length) (I i))
            (.ptr fo 0) t3 (.ptr h.next 0) (.slice o off els.length kn c) (I els.length) (I i) (.slice o off els.length kn c) (I els.length) fuel (I ((0 : Nat) : Int)) hh := fun hh y1 y2 y3 => by
        refine FHeadsL4_run cf fuel hB (h0 := hh) (f3.mono y1) (f4.mono y1) (a := os[i]) (vs := vs) (vd := vd) ⟨vs, vd, rfl, hsh'.mono y1, hdh'.mono y1⟩ y3 y2 _ t3 _ _ _ _ _ els.length 0 fuel hh (by omega) (by omega) (Ext.refl hh) (fun h' z1 z2 => ?_) (fun h' z1 z2 => ?_)
        · unfold s_content_File_HeadsE2
          (try unfold vMov); repeat' (first | refine Step.imp ?_ | (refine Way.mk (fun hp => ?_) (fun hp => ?_) <;> first | contradiction | (exfalso; omega) | skip) | refine LoadG.mkG ?_ | refine LoadsG.mkG ?_ | refine AtG.mkG ?_ | refine StoreG.mkG ?_ | refine CondG.mkG ?_ | fail); (all_goals (try dsimp only))
          rw [e1]
          exact next pre t3 cl h' (hx.trans (y1.trans z1)) (by rw [← hpre, hP0, z2]; simp) ((hkept.mono y1).mono z1)
        · obtain ⟨M, m1, m2, m3, m4, m5⟩ := hkept
          have zn := z1.next
          have q1 := m5.1
          have q2 := congrArg List.length hpre
          have q3 := headsP_len os 0 els.length
          simp only [List.length_append] at q2
          refine FHeadsE3_run cf fuel hC (h0 := h0) (hb := h) hx (y1.trans z1) (p := h.next) (Nat.le_refl _) (by omega) (a := os[i]) (vs := vs) (vd := vd) (by rw [z1.same _ (by omega)]; exact y3) (hsh'.mono (y1.trans z1)) (hdh'.mono (y1.trans z1)) (t3 := t3) (els' := cl) (B := M) m1 m2 m3 (by omega) _ _ _ _ _ (fun v' h'' cs M' w1 w2 w3 w4 w5 w6 w7 => ?_)
          unfold s_content_File_HeadsE2
          (try unfold vMov); repeat' (first | refine Step.imp ?_ | (refine Way.mk (fun hp => ?_) (fun hp => ?_) <;> first | contradiction | (exfalso; omega) | skip) | refine LoadG.mkG ?_ | refine LoadsG.mkG ?_ | refine AtG.mkG ?_ | refine StoreG.mkG ?_ | refine CondG.mkG ?_ | fail); (all_goals (try dsimp only))
          rw [e1]
          exact next (pre ++ [os[i]]) v' (cl ++ [cs]) h'' w1 (by rw [← hpre, hP0, z2]; simp) (Kept.add ⟨M, m1, m2, m3, m4, m5⟩ w2 w3 w4 w5 w6 w7)
      dsimp only
      rcases hs'.shape with rfl | ⟨o1, rfl⟩ | ⟨o1, off1, k1, kn1, cc1, rfl⟩ <;> rcases hd'.shape with rfl | ⟨o2, rfl⟩ | ⟨o2, off2, k2, kn2, cc2, rfl⟩
      all_goals
        ((try unfold vMov); repeat' (first | refine Step.imp ?_ | (refine Way.mk (fun hp => ?_) (fun hp => ?_) <;> first | contradiction | (exfalso; omega) | skip) | refine LoadG.mk (by simp (disch := (first | omega | (simp only [Hp.next_new, Hp.next_put]; omega))) only [Hp.at_new_self, Hp.at_put_self, Hp.at_new_lt, Hp.at_put_ne, f2] <;> rfl) (by simp only [cellAt_row', setL_cons0, setL_succ, Nat.reduceAdd, Nat.reduceMul, Nat.zero_add, Nat.add_zero, List.getElem?_cons_succ, List.getElem?_cons_zero]; rfl) ?_ | refine LoadsG.mk (by simp (disch := (first | omega | (simp only [Hp.next_new, Hp.next_put]; omega))) only [Hp.at_new_self, Hp.at_put_self, Hp.at_new_lt, Hp.at_put_ne, f2] <;> rfl) (by rfl) ?_ | refine AtG.mkG ?_ | refine StoreG.mk (by simp (disch := (first | omega | (simp only [Hp.next_new, Hp.next_put]; omega))) only [Hp.at_new_self, Hp.at_put_self, Hp.at_new_lt, Hp.at_put_ne, f2] <;> rfl) (by first | omega | (simp; done) | (simp; omega)) ?_ | refine CondG.mkG ?_ | (refine LoadsG.mk hat (by simpa using ck) ?_) | fail); (all_goals (try dsimp only))
         exact step _ (by repeat (first | exact Ext.refl _ | assumption | apply Ext.new | (refine Ext.put ?_ _ (by first | omega | (simp; done) | (simp; omega))))) (by simp only [Hp.next_put, Hp.next_new]; omega) (by rw [Hp.at_put_self]; rfl))
    · have hd : d = 0 := by omega
      subst hd
      have hpe : pre = headsP os 0 els.length := by simpa [headsP] using hpre
      (try unfold vMov); repeat' (first | refine Step.imp ?_ | (refine Way.mk (fun hp => ?_) (fun hp => ?_) <;> first | contradiction | (exfalso; omega) | skip) | refine LoadG.mkG ?_ | refine LoadsG.mkG ?_ | refine AtG.mkG ?_ | refine StoreG.mkG ?_ | refine CondG.mkG ?_ | fail); (all_goals (try dsimp only))
      exact he t3 h cl hx (by rw [← hpe]; exact hkept)
theorem FHeads_run (hB : cf 23 = cBehV) (hC : cf 61 = cClone) {h0 : Hp} {fo : Nat} {v : AV} {els : List (List AV)} {os : List FOp} (hf : FileH h0 fo v els os) (hfu : els.length + 1 < fuel) (hsm : els.length ≤ 1000000)
    (hK : ∀ v' h' cl, Ext h0 h' → Kept h' v' cl (headsP os 0 els.length) h0.next → K v' h') : s_content_File_Heads cf fuel (.ptr fo 0) h0 K := by
  have f2 := hf.2.1
  have hl : ∀ K' : AV → Hp → Prop, vLenL2 v h0 K' = K' (I els.length) h0 := by
    intro K'
    rcases hf.2.2.1 with ⟨rfl, rfl⟩ | ⟨_, rfl, rfl⟩ | ⟨o, off, kn, c, e, rfl, _⟩ <;> rfl
  unfold s_content_File_Heads
  (try unfold vMov); repeat' (first | refine Step.imp ?_ | (refine Way.mk (fun hp => ?_) (fun hp => ?_) <;> first | contradiction | (exfalso; omega) | skip) | refine LoadG.mkG ?_ | refine LoadsG.mkG ?_ | refine AtG.mkG ?_ | refine StoreG.mkG ?_ | refine CondG.mkG ?_ | (refine LoadG.mk f2 (by rfl) ?_) | fail); (all_goals (try dsimp only))
  rw [hl]
  exact FHeadsL1_run cf fuel hB hC hf hfu hsm _ (fun v' h' cl x1 x2 => by unfold s_content_File_HeadsE0; exact hK v' h' cl x1 x2) els.length 0 fuel [] .nilslice [] h0 (by omega) (by omega) (Ext.refl h0) rfl
    ⟨h0.next, Nat.le_refl _, Nat.le_refl _, .inl ⟨rfl, rfl⟩, (fun cs hc => by cases hc), rfl, fun j h1 => by simp at h1⟩
end
end Lg

namespace Lg
set_option linter.unusedSimpArgs false
set_option linter.unusedVariables false
set_option maxRecDepth 100000
open Go Go.Am
open Go.Proofs.Ytnhamanffojhfaa.shl
theorem flat_at {esz : Nat} : ∀ (els : List (List AV)) (_ : ∀ e ∈ els, e.length = esz) (j : Nat) (hj : j < els.length), (els.flatten.drop (j * esz)).take esz = els[j]
  | x :: l, he, 0, _ => by
    have h1 := he x (by simp)
    simp [List.take_left' h1]
  | x :: l, he, j + 1, hj => by
    have h1 := he x (by simp)
    have ih := flat_at l (fun e h => he e (by simp [h])) j (by simpa using hj)
    rw [List.flatten_cons, Nat.add_mul, Nat.one_mul, Nat.add_comm, ← List.drop_drop, List.drop_left' h1]
    simpa using ih
/-- What append made can be read. -/
theorem SlN.rd {h : Hp} {esz : Nat} {v : AV} {els : List (List AV)} {B : Nat} (hv : SlN h esz v els B) (hb : els.length ≤ 17592186044416) : Rd h esz v els := by
  rcases hv with ⟨h1, h2⟩ | ⟨o, ob, h1, h2, h3, h4, h5, h6, h7⟩
  · exact .inl ⟨h1, h2⟩
  · refine .inr (.inr ⟨o, 0, false, 0, _, h1, h3, h4, ⟨hb, fun q => by cases q⟩, fun j hj => ?_⟩)
    have hl := flat_len h6
    have hle : j * esz + esz ≤ els.flatten.length := by
      rw [hl]
      have : (j + 1) * esz ≤ els.length * esz := Nat.mul_le_mul_right _ hj
      rw [Nat.add_mul, Nat.one_mul] at this
      exact this
    show cellsO ob esz (0 + j * esz) = some els[j]
    rw [Nat.zero_add, cellsO_cells h5 esz (j * esz) hle, flat_at els h6 j hj]
end Lg

namespace Lg
set_option linter.unusedSimpArgs false
set_option linter.unusedVariables false
set_option maxRecDepth 100000
open Go Go.Am
open Go.Proofs.Ytnhamanffojhfaa.shl
def cFHeads : ConD := fun args h K => ∃ fo v els os, args = [.ptr fo 0] ∧ FileH h fo v els os ∧ els.length ≤ 1000000 ∧ ∀ v' h' cl, Ext h h' → Kept h' v' cl (headsP os 0 els.length) h.next → K v' h'
theorem cFHeads_go {cf : CallK} {g : FuncId} (hg : cf g = cFHeads) {h : Hp} {fo : Nat} {v : AV} {els : List (List AV)} {os : List FOp} {K : AV → Hp → Prop} (hf : FileH h fo v els os) (hs : els.length ≤ 1000000) (hK : ∀ v' h' cl, Ext h h' → Kept h' v' cl (headsP os 0 els.length) h.next → K v' h') : cf g [.ptr fo 0] h K := by rw [hg]; exact ⟨fo, v, els, os, rfl, hf, hs, hK⟩
/-- The data of the last head. -/
def valueP (os : List FOp) : List UInt8 := match (headsP os 0 os.length).getLast? with | some a => a.data | none => []
def cFValue : ConD := fun args h K => ∃ fo v els os, args = [.ptr fo 0] ∧ FileH h fo v els os ∧ els.length ≤ 1000000 ∧ ∀ v' h', Ext h h' → ByH h' v' (valueP os) → K v' h'
theorem cFValue_go {cf : CallK} {g : FuncId} (hg : cf g = cFValue) {h : Hp} {fo : Nat} {v : AV} {els : List (List AV)} {os : List FOp} {K : AV → Hp → Prop} (hf : FileH h fo v els os) (hs : els.length ≤ 1000000) (hK : ∀ v' h', Ext h h' → ByH h' v' (valueP os) → K v' h') : cf g [.ptr fo 0] h K := by rw [hg]; exact ⟨fo, v, els, os, rfl, hf, hs, hK⟩
theorem cellsO_nth {ob : AObj} : ∀ (n : Nat) {off : Nat} {l : List AV}, cellsO ob n off = some l → ∀ i, i < n → cellAt ob (off + i) = l[i]?
  | n + 1, off, l, hc, i, hi => by
    unfold cellsO at hc
    cases h0 : cellAt ob off with
    | none => rw [h0] at hc; simp at hc
    | some x =>
      rw [h0] at hc
      cases h1 : cellsO ob n (off + 1) with
      | none => rw [h1] at hc; simp at hc
      | some r =>
        rw [h1] at hc
        simp at hc
        subst hc
        cases i with
        | zero => simpa using h0
        | succ i =>
          have := cellsO_nth n h1 i (by omega)
          rw [show off + (i + 1) = off + 1 + i by omega, this]
          simp
section
variable (cf : CallK) (fuel : Nat) {h : Hp} {K : AV → Hp → Prop}
theorem Value_run (hH : cf 18 = cFHeads) {fo : Nat} {v : AV} {els : List (List AV)} {os : List FOp} (hf : FileH h fo v els os) (hs : els.length ≤ 1000000) (hK : ∀ v' h', Ext h h' → ByH h' v' (valueP os) → K v' h') : s_content_File_Value cf fuel (.ptr fo 0) h K := by
  unfold s_content_File_Value
  have hlo : els.length = os.length := hf.2.2.2.1
  refine cFHeads_go hH hf hs (fun v' h' cl x1 x2 => ?_)
  obtain ⟨M, m1, m2, m3, m4, m5⟩ := x2
  rw [hlo] at m5
  have q1 := headsP_len os 0 os.length
  have q2 := m5.1
  have hr := SlN.rd m3 (by omega)
  by_cases hc : cl = []
  · subst hc
    have hn : headsP os 0 os.length = [] := List.eq_nil_of_length_eq_zero (by simpa using q2.symm)
    have hv' : v' = .nilslice := by
      rcases m3 with ⟨q, _⟩ | ⟨_, _, _, _, _, _, _, _, q⟩
      · exact q
      · exact absurd rfl q
    subst hv'
    (try unfold vMov); repeat' (first | refine Step.imp ?_ | (refine Way.mk (fun hp => ?_) (fun hp => ?_) <;> first | contradiction | (exfalso; omega) | skip) | refine LoadG.mkG ?_ | refine LoadsG.mkG ?_ | refine AtG.mkG ?_ | refine StoreG.mkG ?_ | refine CondG.mkG ?_ | fail); (all_goals (try dsimp only))
    exact hK _ h' x1 (by unfold valueP; rw [hn]; exact ByH.nil _)
  · have hp : 0 < cl.length := List.length_pos_iff.2 hc
    obtain ⟨o, off, kn, c, e, rfl, hat, hcl⟩ := hr.openS hp
    have hl : cl.length - 1 < cl.length := by omega
    have cc := hcl (cl.length - 1) hl
    obtain ⟨vs, vd, e1, e2, e3⟩ := m5.2 (cl.length - 1) hl (by omega)
    rw [e1] at cc
    have g : (headsP os 0 os.length)[(headsP os 0 os.length).length - 1]? = some (headsP os 0 os.length)[cl.length - 1] := by
      rw [show (headsP os 0 os.length).length - 1 = cl.length - 1 by omega, List.getElem?_eq_getElem (by omega)]
    have hval : valueP os = (headsP os 0 os.length)[cl.length - 1].data := by
      unfold valueP
      rw [List.getLast?_eq_getElem?, g]
    have e2' : I ((cl.length : Int) - 1) = I ((cl.length - 1 : Nat) : Int) := by congr 1; omega
    (try unfold vMov); repeat' (first | refine Step.imp ?_ | (refine Way.mk (fun hp => ?_) (fun hp => ?_) <;> first | contradiction | (exfalso; omega) | skip) | refine LoadG.mkG ?_ | refine LoadsG.mkG ?_ | refine AtG.mkG ?_ | refine StoreG.mkG ?_ | refine CondG.mkG ?_ | fail); (all_goals (try dsimp only))
    refine LoadG.mk hat (v := vd) ?_ ?_
    · have := cellsO_nth 5 cc 4 (by omega)
      rw [show off + ((cl.length : Int) - 1).toNat * 5 + 4 = off + (cl.length - 1) * 5 + 4 by omega, this]
      rfl
    · exact hK _ h' x1 (by rw [hval]; exact e3)
theorem Size_run (hV : cf 19 = cFValue) {fo : Nat} {v : AV} {els : List (List AV)} {os : List FOp} (hf : FileH h fo v els os) (hs : els.length ≤ 1000000) (hK : ∀ h', Ext h h' → K (I (valueP os).length) h') : s_content_File_Size cf fuel (.ptr fo 0) h K := by
  unfold s_content_File_Size
  refine cFValue_go hV hf hs (fun v' h' x1 x2 => ?_)
  rcases x2 with ⟨rfl, q⟩ | ⟨o, rfl, q⟩ | ⟨o, off, kn, c, e, n, z, rfl, _⟩
  · (try unfold vMov); repeat' (first | refine Step.imp ?_ | (refine Way.mk (fun hp => ?_) (fun hp => ?_) <;> first | contradiction | (exfalso; omega) | skip) | refine LoadG.mkG ?_ | refine LoadsG.mkG ?_ | refine AtG.mkG ?_ | refine StoreG.mkG ?_ | refine CondG.mkG ?_ | fail); (all_goals (try dsimp only))
    have := hK h' x1
    rw [q] at this
    exact this
  · (try unfold vMov); repeat' (first | refine Step.imp ?_ | (refine Way.mk (fun hp => ?_) (fun hp => ?_) <;> first | contradiction | (exfalso; omega) | skip) | refine LoadG.mkG ?_ | refine LoadsG.mkG ?_ | refine AtG.mkG ?_ | refine StoreG.mkG ?_ | refine CondG.mkG ?_ | fail); (all_goals (try dsimp only))
    have := hK h' x1
    rw [q] at this
    exact this
  · (try unfold vMov); repeat' (first | refine Step.imp ?_ | (refine Way.mk (fun hp => ?_) (fun hp => ?_) <;> first | contradiction | (exfalso; omega) | skip) | refine LoadG.mkG ?_ | refine LoadsG.mkG ?_ | refine AtG.mkG ?_ | refine StoreG.mkG ?_ | refine CondG.mkG ?_ | fail); (all_goals (try dsimp only))
    exact hK h' x1
end
end Lg

namespace Lg
set_option linter.unusedSimpArgs false
set_option linter.unusedVariables false
set_option maxRecDepth 100000
open Go Go.Am
open Go.Proofs.Ytnhamanffojhfaa.shl

def rootB (t n : Int) : Bool := decide (t = 0) && decide (n = 0)
def trashB (t n : Int) : Bool := decide (t = 0) && decide (n = 1)
def olderB (t n t' n' : Int) : Bool := validB t n && lessI t n t' n'
theorem cmpI_less (t n t' n' : Int) : decide (cmpI t n t' n' < 0) = lessI t n t' n' := by
  rw [Bool.eq_iff_iff]
  simp only [decide_eq_true_eq, lessI, Bool.or_eq_true, Bool.and_eq_true]
  unfold cmpI
  (repeat' split) <;> omega
theorem cmpI_same (t n t' n' : Int) : decide (cmpI t n t' n' = 0) = sameI t n t' n' := by
  rw [Bool.eq_iff_iff]
  simp only [decide_eq_true_eq, sameI, Bool.and_eq_true]
  unfold cmpI
  (repeat' split) <;> omega

/-! ### contracts of functions that leave nothing behind -/
def cIB (f : Int → Bool) : ConD := fun args h K => ∃ n, args = [I n] ∧ K (.bool (f n)) h
def cIdB (f : Int → Int → Bool) : ConD := fun args h K => ∃ t n, args = [.agg [I t, I n]] ∧ K (.bool (f t n)) h
def cIdB2 (f : Int → Int → Int → Int → Bool) : ConD := fun args h K => ∃ t n t' n', args = [.agg [I t, I n], .agg [I t', I n']] ∧ K (.bool (f t n t' n')) h
def cIdI (f : Int → Int → Int → Int → Int) : ConD := fun args h K => ∃ t n t' n', args = [.agg [I t, I n], .agg [I t', I n']] ∧ K (I (f t n t' n')) h
def cVecB (f : List Int → Bool) : ConD := fun args h K => ∃ v l, args = [v] ∧ VecH h v l ∧ K (.bool (f l)) h
def cConst (v : AV) : ConD := fun args h K => args = [] ∧ K v h
theorem two_ways {b : Bool} {F : Bool → Prop} (h1 : b = true → F true) (h2 : b = false → F false) : F b := by
  cases b
  · exact h2 rfl
  · exact h1 rfl
section
variable {cf : CallK} {g : FuncId} {h : Hp} {K : AV → Hp → Prop}
theorem cIB_go {f : Int → Bool} (hg : cf g = cIB f) {n : Int} (h1 : f n = true → K (.bool true) h) (h2 : f n = false → K (.bool false) h) : cf g [I n] h K := by
  rw [hg]; exact ⟨n, rfl, two_ways (F := fun b => K (.bool b) h) h1 h2⟩
theorem cIdB_go {f : Int → Int → Bool} (hg : cf g = cIdB f) {t n : Int} (h1 : f t n = true → K (.bool true) h) (h2 : f t n = false → K (.bool false) h) : cf g [.agg [I t, I n]] h K := by
  rw [hg]; exact ⟨t, n, rfl, two_ways (F := fun b => K (.bool b) h) h1 h2⟩
theorem cIdB2_go {f : Int → Int → Int → Int → Bool} (hg : cf g = cIdB2 f) {t n t' n' : Int} (h1 : f t n t' n' = true → K (.bool true) h) (h2 : f t n t' n' = false → K (.bool false) h) : cf g [.agg [I t, I n], .agg [I t', I n']] h K := by
  rw [hg]; exact ⟨t, n, t', n', rfl, two_ways (F := fun b => K (.bool b) h) h1 h2⟩
theorem cIdI_go {f : Int → Int → Int → Int → Int} (hg : cf g = cIdI f) {t n t' n' : Int} (q : K (I (f t n t' n')) h) : cf g [.agg [I t, I n], .agg [I t', I n']] h K := by
  rw [hg]; exact ⟨t, n, t', n', rfl, q⟩
theorem cVecB_go {f : List Int → Bool} (hg : cf g = cVecB f) {v : AV} {l : List Int} (hv : VecH h v l) (h1 : f l = true → K (.bool true) h) (h2 : f l = false → K (.bool false) h) : cf g [v] h K := by
  rw [hg]; exact ⟨v, l, rfl, hv, two_ways (F := fun b => K (.bool b) h) h1 h2⟩
theorem cConst_go {v : AV} (hg : cf g = cConst v) (q : K v h) : cf g [] h K := by
  rw [hg]; exact ⟨rfl, q⟩
end

section
variable (cf : CallK) (fuel : Nat) {h : Hp} {K : AV → Hp → Prop}
theorem root_run (t n : Int) (hK : ∀ h', Ext h h' → K (.bool (rootB t n)) h') : s_lagoonref12_root cf fuel (.agg [I t, I n]) h K := by
  unfold s_lagoonref12_root
  (try unfold vMov); repeat' (first | refine Step.imp ?_ | (refine Way.mk (fun hp => ?_) (fun hp => ?_) <;> first | contradiction | (exfalso; omega) | skip) | refine LoadG.mkG ?_ | refine LoadsG.mkG ?_ | refine AtG.mkG ?_ | refine StoreG.mkG ?_ | refine CondG.mkG ?_ | fail); (all_goals (try dsimp only))
  all_goals (refine fin hK ?_ (by repeat (first | exact Ext.refl _ | assumption | apply Ext.new | (refine Ext.put ?_ _ (by first | omega | (simp; done) | (simp; omega))))); simp_all [rootB])
theorem trash_run (t n : Int) (hK : ∀ h', Ext h h' → K (.bool (trashB t n)) h') : s_lagoonref12_trash cf fuel (.agg [I t, I n]) h K := by
  unfold s_lagoonref12_trash
  (try unfold vMov); repeat' (first | refine Step.imp ?_ | (refine Way.mk (fun hp => ?_) (fun hp => ?_) <;> first | contradiction | (exfalso; omega) | skip) | refine LoadG.mkG ?_ | refine LoadsG.mkG ?_ | refine AtG.mkG ?_ | refine StoreG.mkG ?_ | refine CondG.mkG ?_ | fail); (all_goals (try dsimp only))
  all_goals (refine fin hK ?_ (by repeat (first | exact Ext.refl _ | assumption | apply Ext.new | (refine Ext.put ?_ _ (by first | omega | (simp; done) | (simp; omega))))); simp_all [trashB])
theorem older_run (hV : cf 99 = cIdB validB) (hL : cf 30 = cIdB2 lessI) (t n t' n' : Int) (hK : ∀ h', Ext h h' → K (.bool (olderB t n t' n')) h') : s_lagoonref12_older cf fuel (.agg [I t, I n]) (.agg [I t', I n']) h K := by
  unfold s_lagoonref12_older
  (try unfold vMov); repeat' (first | refine Step.imp ?_ | (refine Way.mk (fun hp => ?_) (fun hp => ?_) <;> first | contradiction | (exfalso; omega) | skip) | refine LoadG.mkG ?_ | refine LoadsG.mkG ?_ | refine AtG.mkG ?_ | refine StoreG.mkG ?_ | refine CondG.mkG ?_ | (refine cIdB_go hV (fun hp => ?_) (fun hp => ?_)) | (refine cIdB2_go hL (fun hp => ?_) (fun hp => ?_)) | fail); (all_goals (try dsimp only))
  all_goals (refine fin hK ?_ (by repeat (first | exact Ext.refl _ | assumption | apply Ext.new | (refine Ext.put ?_ _ (by first | omega | (simp; done) | (simp; omega))))); simp_all [olderB])
theorem node_run (n : Int) (hK : ∀ h', Ext h h' → K (.bool (decide (0 ≤ n) && decide (n < 64))) h') : s_clock_node cf fuel (I n) h K := by
  unfold s_clock_node
  (try unfold vMov); repeat' (first | refine Step.imp ?_ | (refine Way.mk (fun hp => ?_) (fun hp => ?_) <;> first | contradiction | (exfalso; omega) | skip) | refine LoadG.mkG ?_ | refine LoadsG.mkG ?_ | refine AtG.mkG ?_ | refine StoreG.mkG ?_ | refine CondG.mkG ?_ | fail); (all_goals (try dsimp only))
  all_goals (refine fin hK ?_ (by repeat (first | exact Ext.refl _ | assumption | apply Ext.new | (refine Ext.put ?_ _ (by first | omega | (simp; done) | (simp; omega))))); first | (simp_all; done) | (simp_all; omega))
theorem clockValid_run (hN : cf 134 = cIB fun n => decide (0 ≤ n) && decide (n < 64)) (t n : Int) (hK : ∀ h', Ext h h' → K (.bool (validB t n)) h') : s_clock_Valid cf fuel (.agg [I t, I n]) h K := by
  unfold s_clock_Valid
  (try unfold vMov); repeat' (first | refine Step.imp ?_ | (refine Way.mk (fun hp => ?_) (fun hp => ?_) <;> first | contradiction | (exfalso; omega) | skip) | refine LoadG.mkG ?_ | refine LoadsG.mkG ?_ | refine AtG.mkG ?_ | refine StoreG.mkG ?_ | refine CondG.mkG ?_ | (refine cIB_go hN (fun hp => ?_) (fun hp => ?_)) | fail); (all_goals (try dsimp only))
  all_goals (refine fin hK ?_ (by repeat (first | exact Ext.refl _ | assumption | apply Ext.new | (refine Ext.put ?_ _ (by first | omega | (simp; done) | (simp; omega))))); first | (simp_all [validB]; done) | (simp_all [validB]; omega))
theorem isNaN64_run (n : Int) (hK : ∀ h', Ext h h' → K (.bool false) h') : s_cmp_isNaN_int64 cf fuel (I n) h K := by
  unfold s_cmp_isNaN_int64
  (try unfold vMov); repeat' (first | refine Step.imp ?_ | (refine Way.mk (fun hp => ?_) (fun hp => ?_) <;> first | contradiction | (exfalso; omega) | skip) | refine LoadG.mkG ?_ | refine LoadsG.mkG ?_ | refine AtG.mkG ?_ | refine StoreG.mkG ?_ | refine CondG.mkG ?_ | fail); (all_goals (try dsimp only))
  all_goals first | contradiction | exact hK _ (by repeat (first | exact Ext.refl _ | assumption | apply Ext.new | (refine Ext.put ?_ _ (by first | omega | (simp; done) | (simp; omega)))))
theorem isNaN_run (n : Int) (hK : ∀ h', Ext h h' → K (.bool false) h') : s_cmp_isNaN_int cf fuel (I n) h K := by
  unfold s_cmp_isNaN_int
  (try unfold vMov); repeat' (first | refine Step.imp ?_ | (refine Way.mk (fun hp => ?_) (fun hp => ?_) <;> first | contradiction | (exfalso; omega) | skip) | refine LoadG.mkG ?_ | refine LoadsG.mkG ?_ | refine AtG.mkG ?_ | refine StoreG.mkG ?_ | refine CondG.mkG ?_ | fail); (all_goals (try dsimp only))
  all_goals first | contradiction | exact hK _ (by repeat (first | exact Ext.refl _ | assumption | apply Ext.new | (refine Ext.put ?_ _ (by first | omega | (simp; done) | (simp; omega)))))
theorem clockLess_run (hC : cf 58 = cIdI cmpI) (t n t' n' : Int) (hK : ∀ h', Ext h h' → K (.bool (lessI t n t' n')) h') : s_clock_Less cf fuel (.agg [I t, I n]) (.agg [I t', I n']) h K := by
  unfold s_clock_Less
  (try unfold vMov); repeat' (first | refine Step.imp ?_ | (refine Way.mk (fun hp => ?_) (fun hp => ?_) <;> first | contradiction | (exfalso; omega) | skip) | refine LoadG.mkG ?_ | refine LoadsG.mkG ?_ | refine AtG.mkG ?_ | refine StoreG.mkG ?_ | refine CondG.mkG ?_ | (refine cIdI_go hC ?_) | fail); (all_goals (try dsimp only))
  all_goals (refine fin hK ?_ (by repeat (first | exact Ext.refl _ | assumption | apply Ext.new | (refine Ext.put ?_ _ (by first | omega | (simp; done) | (simp; omega))))); rw [← cmpI_less]; simp_all)
theorem Root_run (hK : ∀ h', Ext h h' → K (.agg [I 0, I 0]) h') : s_ops_Root cf fuel h K := by
  unfold s_ops_Root
  (try unfold vMov); repeat' (first | refine Step.imp ?_ | (refine Way.mk (fun hp => ?_) (fun hp => ?_) <;> first | contradiction | (exfalso; omega) | skip) | refine LoadG.mkG ?_ | refine LoadsG.mkG ?_ | refine AtG.mkG ?_ | refine StoreG.mkG ?_ | refine CondG.mkG ?_ | fail); (all_goals (try dsimp only))
  all_goals exact hK _ (by repeat (first | exact Ext.refl _ | assumption | apply Ext.new | (refine Ext.put ?_ _ (by first | omega | (simp; done) | (simp; omega)))))
theorem Trash_run (hK : ∀ h', Ext h h' → K (.agg [I 0, I 1]) h') : s_ops_Trash cf fuel h K := by
  unfold s_ops_Trash
  (try unfold vMov); repeat' (first | refine Step.imp ?_ | (refine Way.mk (fun hp => ?_) (fun hp => ?_) <;> first | contradiction | (exfalso; omega) | skip) | refine LoadG.mkG ?_ | refine LoadsG.mkG ?_ | refine AtG.mkG ?_ | refine StoreG.mkG ?_ | refine CondG.mkG ?_ | fail); (all_goals (try dsimp only))
  all_goals exact hK _ (by repeat (first | exact Ext.refl _ | assumption | apply Ext.new | (refine Ext.put ?_ _ (by first | omega | (simp; done) | (simp; omega)))))
theorem AddCmp_run (hC : cf 58 = cIdI cmpI) (t n q t' n' : Int) (vs vd : AV) (hK : ∀ h', Ext h h' → K (I (cmpI t n t' n')) h') : s_content_File_Add_1 cf fuel (.agg [I t, I n, I q, vs, vd]) (.agg [I t', I n']) h K := by
  unfold s_content_File_Add_1
  (try unfold vMov); repeat' (first | refine Step.imp ?_ | (refine Way.mk (fun hp => ?_) (fun hp => ?_) <;> first | contradiction | (exfalso; omega) | skip) | refine LoadG.mkG ?_ | refine LoadsG.mkG ?_ | refine AtG.mkG ?_ | refine StoreG.mkG ?_ | refine CondG.mkG ?_ | (refine cIdI_go hC ?_) | fail); (all_goals (try dsimp only))
  all_goals exact hK _ (by repeat (first | exact Ext.refl _ | assumption | apply Ext.new | (refine Ext.put ?_ _ (by first | omega | (simp; done) | (simp; omega)))))

/-! ### may it be a vector? -/
end
def okNum (x : Int) : Bool := decide (0 ≤ x) && decide (x ≤ 1152921504606846976)
theorem okNum_f {x : Int} (h : x < 0 ∨ 1152921504606846976 < x) : okNum x = false := by
  unfold okNum; simp only [Bool.and_eq_false_iff, decide_eq_false_iff_not]; omega
theorem okNum_t {x : Int} (h1 : 0 ≤ x) (h2 : x ≤ 1152921504606846976) : okNum x = true := by
  unfold okNum; simp only [Bool.and_eq_true, decide_eq_true_eq]; exact ⟨h1, h2⟩
/-- How long a vector is without the zeros at its end. -/
def trimN (l : List Int) : Nat → Nat
  | 0 => 0
  | n + 1 => if ix l n = 0 then trimN l n else n + 1
theorem trimN_le (l : List Int) : ∀ n, trimN l n ≤ n
  | 0 => Nat.le_refl _
  | n + 1 => by
    unfold trimN
    split
    · exact Nat.le_succ_of_le (trimN_le l n)
    · exact Nat.le_refl _
def mayV (l : List Int) : Bool := decide (trimN l l.length ≤ 64) && allN (fun i => okNum (ix l i)) 0 (trimN l l.length)
section
variable (cf : CallK) (fuel : Nat) {h : Hp} {K : AV → Hp → Prop}
theorem MayL10_run {v : AV} {l : List Int} (hv : VecH h v l) (e0 : AV → Hp → Prop) : ∀ (n m : Nat), n ≤ l.length → n < m → e0 (I (trimN l n)) h → s_lagoonref4_MayL10 cf fuel e0 v m (I n) h
  | 0, m, hn, hm, hK => by
    obtain ⟨m, rfl⟩ : ∃ k, m = k + 1 := ⟨m - 1, by omega⟩
    rw [s_lagoonref4_MayL10_succ]
    unfold s_lagoonref4_MayL10B
    (try unfold vMov); repeat' (first | refine Step.imp ?_ | (refine Way.mk (fun hp => ?_) (fun hp => ?_) <;> first | contradiction | (exfalso; omega) | skip) | refine LoadG.mkG ?_ | refine LoadsG.mkG ?_ | refine AtG.mkG ?_ | refine StoreG.mkG ?_ | refine CondG.mkG ?_ | fail); (all_goals (try dsimp only))
    exact hK
  | n + 1, m, hn, hm, hK => by
    obtain ⟨m, rfl⟩ : ∃ k, m = k + 1 := ⟨m - 1, by omega⟩
    rcases hv.cases with ⟨rfl, rfl⟩ | ⟨o, rfl, rfl⟩ | ⟨o, off, kn, c, e, rfl, h2, h3, h5⟩
    · simp at hn
    · simp at hn
    · have hb := hv.bound
      have hc := h5 n (by omega)
      have ih := MayL10_run hv e0 n m (by omega) (by omega)
      rw [s_lagoonref4_MayL10_succ]
      unfold s_lagoonref4_MayL10B
      have e1 : (((n + 1 : Nat) : Int) - 1) = (n : Int) := by omega
      have hix : ix l n = l[n] := getD_in (by omega)
      unfold trimN at hK
      rw [hix] at hK
      (try unfold vMov); repeat' (first | refine Step.imp ?_ | (refine Way.mk (fun hp => ?_) (fun hp => ?_) <;> first | contradiction | (exfalso; omega) | skip) | refine LoadG.mkG ?_ | refine LoadsG.mkG ?_ | refine AtG.mkG ?_ | refine StoreG.mkG ?_ | refine CondG.mkG ?_ | (refine LoadG.mk2 h3 hc (by omega) ?_) | fail); (all_goals (try dsimp only))
      · rw [e1]
        rw [if_pos hp] at hK
        exact ih hK
      · rw [if_neg hp] at hK
        exact hK
theorem MayL2_run {v : AV} {l : List Int} (hv : VecH h v l) (e1 : Hp → Prop) {N : Nat} (hN : N ≤ l.length) : ∀ (d k m : Nat), k + d = N → d < m → (allN (fun i => okNum (ix l i)) k d = false → K (.bool false) h) →
    (allN (fun i => okNum (ix l i)) k d = true → e1 h) → s_lagoonref4_MayL2 cf fuel K e1 v (I N) m (I k) h
  | 0, k, m, hn, hm, hf, hK => by
    obtain ⟨m, rfl⟩ : ∃ k, m = k + 1 := ⟨m - 1, by omega⟩
    rw [s_lagoonref4_MayL2_succ]
    unfold s_lagoonref4_MayL2B
    (try unfold vMov); repeat' (first | refine Step.imp ?_ | (refine Way.mk (fun hp => ?_) (fun hp => ?_) <;> first | contradiction | (exfalso; omega) | skip) | refine LoadG.mkG ?_ | refine LoadsG.mkG ?_ | refine AtG.mkG ?_ | refine StoreG.mkG ?_ | refine CondG.mkG ?_ | fail); (all_goals (try dsimp only))
    exact hK rfl
  | d + 1, k, m, hn, hm, hf, ht => by
    obtain ⟨m, rfl⟩ : ∃ k, m = k + 1 := ⟨m - 1, by omega⟩
    rcases hv.cases with ⟨rfl, rfl⟩ | ⟨o, rfl, rfl⟩ | ⟨o, off, kn, c, e, rfl, h2, h3, h5⟩
    · simp at hN; omega
    · simp at hN; omega
    · have hb := hv.bound
      have hc := h5 k (by omega)
      have hix : ix l k = l[k] := getD_in (by omega)
      have hall : allN (fun i => okNum (ix l i)) k (d + 1) = (okNum l[k] && allN (fun i => okNum (ix l i)) (k + 1) d) := by
        show (okNum (ix l k) && _) = _
        rw [hix]
      rw [hall] at hf ht
      have e2 : ((k : Int) + 1) = ((k + 1 : Nat) : Int) := by omega
      have ih := MayL2_run hv e1 hN d (k + 1) m (by omega) (by omega)
      rw [s_lagoonref4_MayL2_succ]
      unfold s_lagoonref4_MayL2B s_lagoonref4_MayB9
      dsimp only
      (try unfold vMov); repeat' (first | refine Step.imp ?_ | (refine Way.mk (fun hp => ?_) (fun hp => ?_) <;> first | contradiction | (exfalso; omega) | skip) | refine LoadG.mkG ?_ | refine LoadsG.mkG ?_ | refine AtG.mkG ?_ | refine StoreG.mkG ?_ | refine CondG.mkG ?_ | (refine LoadG.mk2 h3 hc (by omega) ?_) | fail); (all_goals (try dsimp only))
      · exact hf (by rw [okNum_f (.inl hp)]; rfl)
      · exact hf (by rw [okNum_f (.inr hp)]; rfl)
      · rw [e2]
        have hok : okNum l[k] = true := okNum_t (by omega) (by omega)
        rw [hok, Bool.true_and] at hf ht
        exact ih hf ht
theorem VecH.len {v : AV} {l : List Int} (hv : VecH h v l) (h' : Hp) : vLenL2 v h' = fun K' => K' (I l.length) h' := by
  funext K'
  rcases hv.cases with ⟨rfl, rfl⟩ | ⟨o, rfl, rfl⟩ | ⟨o, off, kn, c, e, rfl, _⟩ <;> rfl
theorem ByH.len {v : AV} {l : List UInt8} (hv : ByH h v l) (h' : Hp) : vLenL2 v h' = fun K' => K' (I l.length) h' := by
  funext K'
  rcases hv with ⟨rfl, rfl⟩ | ⟨o, rfl, rfl⟩ | ⟨o, off, kn, c, e, n, z, rfl, _⟩ <;> rfl
theorem Rd.len {esz : Nat} {v : AV} {els : List (List AV)} (hv : Rd h esz v els) (h' : Hp) : vLenL2 v h' = fun K' => K' (I els.length) h' := by
  funext K'
  rcases hv with ⟨rfl, rfl⟩ | ⟨_, rfl, rfl⟩ | ⟨o, off, kn, c, e, rfl, _⟩ <;> rfl
theorem refMayV_run {v : AV} {l : List Int} (hv : VecH h v l) (hf : l.length + 1 < fuel) (hK : K (.bool (mayV l)) h) : s_lagoonref4_May cf fuel v h K := by
  unfold s_lagoonref4_May
  rw [hv.len]
  dsimp only
  refine MayL10_run cf fuel hv _ l.length fuel (Nat.le_refl _) (by omega) ?_
  unfold s_lagoonref4_MayE0
  have hle := trimN_le l l.length
  unfold mayV at hK
  (try unfold vMov); repeat' (first | refine Step.imp ?_ | (refine Way.mk (fun hp => ?_) (fun hp => ?_) <;> first | contradiction | (exfalso; omega) | skip) | refine LoadG.mkG ?_ | refine LoadsG.mkG ?_ | refine AtG.mkG ?_ | refine StoreG.mkG ?_ | refine CondG.mkG ?_ | fail); (all_goals (try dsimp only))
  · rw [decide_eq_false (by omega), Bool.false_and] at hK
    exact hK
  · rw [decide_eq_true (by omega), Bool.true_and] at hK
    refine MayL2_run cf fuel hv _ hle (trimN l l.length) 0 fuel (by omega) (by omega) (fun q => ?_) (fun q => ?_)
    · rw [q] at hK; exact hK
    · unfold s_lagoonref4_MayE1
      rw [q] at hK; exact hK
/-- A vector cut short. -/
theorem cut_vec {v : AV} {l : List Int} (hv : VecH h v l) (k : Nat) (hk : k ≤ l.length) (hK : ∀ v', VecH h v' (l.take k) → K v' h) : vSlice2 1 v none (some (I k)) h K := by
  rcases hv.casesC with ⟨rfl, rfl⟩ | ⟨o, rfl, rfl⟩ | ⟨o, off, kn, c, e, rfl, hc, h2, h3, h5⟩
  · obtain rfl : k = 0 := by simpa using hk
    exact cut_nil (hK _ (.inl ⟨rfl, rfl⟩))
  · obtain rfl : k = 0 := by simpa using hk
    exact cut_z (hK _ (.inr (.inl ⟨o, rfl, rfl⟩)))
  · have hb := hv.bound
    have hl : ((l.take k).map fun x => [I x]).length = k := by simp; omega
    refine cut_slice hk hc (hK _ (.inr (.inr ⟨o, off, kn, c, e, by rw [hl], h2, h3, ⟨by rw [hl]; omega, fun q => by rw [hl]; have := hc q; omega⟩, fun j hj => ?_⟩)))
    rw [hl] at hj
    have := h5 j (by omega)
    simp only [List.getElem_map, List.getElem_take]
    rw [Nat.mul_one]
    unfold cellsO
    rw [this]
    rfl
end
end Lg

namespace Go.Am
set_option linter.unusedSimpArgs false
set_option linter.unusedVariables false
open Go Go.RowKit

theorem valid_le {r : Int} (h : Utf8.valid r = true) : 0 ≤ r ∧ r ≤ 1114111 := by
  simp only [Utf8.valid, Bool.or_eq_true, Bool.and_eq_true, decide_eq_true_eq] at h
  omega
theorem decode_hi (s : ByteArray) (i : Nat) (hi : i < s.size) (hb : 128 ≤ (s.get! i).toNat) :
    128 ≤ (Utf8.decode s i).1 ∧ (Utf8.decode s i).1 ≤ 1114111 ∧ 1 ≤ (Utf8.decode s i).2 ∧ i + (Utf8.decode s i).2 ≤ s.size ∧ ∀ k, k < (Utf8.decode s i).2 → 128 ≤ (s.get! (i + k)).toNat := by
  have one : ∀ k, k < 1 → 128 ≤ (s.get! (i + k)).toNat := fun k hk => by
    have : k = 0 := by omega
    subst this; exact hb
  have h0 : ¬ (s.get! (i + 0)).toNat < 128 := by simpa using hb
  unfold Utf8.decode
  simp only [h0, if_false]
  split
  · rename_i h1
    simp only [Bool.and_eq_true, decide_eq_true_eq, beq_iff_eq] at h1
    split
    · refine ⟨by omega, by omega, by omega, by omega, fun k hk => ?_⟩
      have : k = 0 ∨ k = 1 := by simp at hk; omega
      rcases this with rfl | rfl
      · exact hb
      · omega
    · exact ⟨by decide, by decide, by decide, by simp; omega, one⟩
  · split
    · rename_i h1
      simp only [Bool.and_eq_true, decide_eq_true_eq, beq_iff_eq] at h1
      split
      · rename_i h2
        simp only [Bool.and_eq_true, decide_eq_true_eq] at h2
        have := valid_le h2.2
        refine ⟨by omega, by omega, by omega, by omega, fun k hk => ?_⟩
        have : k = 0 ∨ k = 1 ∨ k = 2 := by simp at hk; omega
        rcases this with rfl | rfl | rfl
        · exact hb
        · omega
        · omega
      · exact ⟨by decide, by decide, by decide, by simp; omega, one⟩
    · split
      · rename_i h1
        simp only [Bool.and_eq_true, decide_eq_true_eq, beq_iff_eq] at h1
        split
        · rename_i h2
          simp only [Bool.and_eq_true, decide_eq_true_eq] at h2
          have := valid_le h2.2
          refine ⟨by omega, by omega, by omega, by omega, fun k hk => ?_⟩
          have : k = 0 ∨ k = 1 ∨ k = 2 ∨ k = 3 := by simp at hk; omega
          rcases this with rfl | rfl | rfl | rfl
          · exact hb
          · omega
          · omega
          · omega
        · exact ⟨by decide, by decide, by decide, by simp; omega, one⟩
      · exact ⟨by decide, by decide, by decide, by simp; omega, one⟩

theorem enc_byte (n : Nat) (h1 : 128 ≤ n) (h2 : n < 256) : 128 ≤ (UInt8.ofNat n).toNat := by simp [UInt8.toNat_ofNat']; omega
/-- The bytes of a sign that is no ASCII sign. -/
theorem encode_hi (r : Int) (h : 128 ≤ r) (h2 : r ≤ 1114111) : ∃ l : List UInt8, (Utf8.encode r).data.toList = l ∧ 2 ≤ l.length ∧ l.length ≤ 4 ∧ ∀ b ∈ l, 128 ≤ b.toNat := by
  refine ⟨_, rfl, ?_⟩
  unfold Utf8.encode
  have hc : 128 ≤ (if Utf8.valid r = true then r.toNat else Utf8.runeError) ∧ (if Utf8.valid r = true then r.toNat else Utf8.runeError) ≤ 1114111 := by
    split
    · omega
    · decide
  generalize (if Utf8.valid r = true then r.toNat else Utf8.runeError) = c at hc
  simp only []
  rw [if_neg (by omega)]
  split
  · refine ⟨by simp, by simp, fun b hb => ?_⟩
    simp only [List.mem_cons, List.not_mem_nil, or_false] at hb
    rcases hb with rfl | rfl <;> exact enc_byte _ (by omega) (by omega)
  · split
    · refine ⟨by simp, by simp, fun b hb => ?_⟩
      simp only [List.mem_cons, List.not_mem_nil, or_false] at hb
      rcases hb with rfl | rfl | rfl <;> exact enc_byte _ (by omega) (by omega)
    · refine ⟨by simp, by simp, fun b hb => ?_⟩
      simp only [List.mem_cons, List.not_mem_nil, or_false] at hb
      rcases hb with rfl | rfl | rfl | rfl <;> exact enc_byte _ (by omega) (by omega)

/-- A sign at a place: its number, how many bytes. -/
structure Dec (l : List UInt8) (pos c w : Nat) : Prop where
  one : 1 ≤ w
  fits : pos + w ≤ l.length
  low : c < 128 → w = 1 ∧ ∃ h : pos < l.length, (l[pos]'h).toNat = c
  high : 128 ≤ c → ∀ k (h : k < l.length), pos ≤ k → k < pos + w → 128 ≤ (l[k]'h).toNat
  le : c ≤ 1114111
theorem strOf_S (l : List UInt8) : strOf l.length (packL l) = ⟨l.toArray⟩ := by rw [strOf, bytesL_pack]
theorem get_S (l : List UInt8) (k : Nat) (h : k < l.length) : (ByteArray.mk l.toArray).get! k = l[k] := by
  show l.toArray[k]! = _
  simp [h]
theorem vRangeS_S (l : List UInt8) (h : Hp) (K : AV → Hp → Prop) : vRangeS (S l) h K = K (.ptr h.next 0) (h.new ⟨true, 0, .sit l.length (packL l) 0⟩) := by
  show newK h ⟨true, 0, .sit l.length (packL l) 0⟩ (fun o h => K (.ptr o 0) h) = _
  rw [newK_eq']
attribute [simp] vRangeS_S
theorem vNextS_intro {l : List UInt8} {o pos : Nat} {esz : Nat} {h : Hp} {K : AV → Hp → Prop} (he : h.at o = some ⟨true, esz, .sit l.length (packL l) pos⟩)
    (h1 : l.length ≤ pos → K (.tup [.bool false]) h) (h2 : ∀ c w, Dec l pos c w → K (.tup [.bool true, .int .i64 pos, .int .i32 c]) (h.put o (some ⟨true, esz, .sit l.length (packL l) (pos + w)⟩))) : vNextS (.ptr o 0) h K := by
  show gd (Nat.beq 0 0) (asOpt (h.at o) _)
  rw [he]
  show Bool.rec (motive := fun _ => Prop) (K (.tup [.bool false]) h) _ (Nat.blt pos l.length)
  cases hb : Nat.blt pos l.length with
  | false =>
    refine h1 ?_
    have : ¬ pos < l.length := fun q => by rw [show Nat.blt pos l.length = true by simpa using q] at hb; cases hb
    omega
  | true =>
    have hp : pos < l.length := by simpa using hb
    have hbyte := byteAt_S l pos hp
    show forceN (byteAt (packL l) pos) _
    rw [forceN_eq]
    cases hq : Nat.blt (byteAt (packL l) pos) 128 with
    | true =>
      have hlt : byteAt (packL l) pos < 128 := by simpa using hq
      show forceN (Nat.succ pos) (fun p => putK h o (some ⟨true, esz, .sit l.length (packL l) p⟩) fun h => K (.tup [.bool true, .int .i64 (.ofNat pos), .int .i32 (.ofNat (byteAt (packL l) pos))]) h)
      rw [forceN_eq, putK_eq']
      exact h2 (byteAt (packL l) pos) 1 ⟨Nat.le_refl _, hp, fun _ => ⟨rfl, hp, hbyte.symm⟩, fun h => by omega, by omega⟩
    | false =>
      have hge : 128 ≤ (l[pos]'hp).toNat := by
        rw [← hbyte]
        have : ¬ byteAt (packL l) pos < 128 := fun q => by rw [show Nat.blt (byteAt (packL l) pos) 128 = true by simpa using q] at hq; cases hq
        omega
      show forceN (Utf8.decode (strOf l.length (packL l)) pos).1 (fun c => forceN (pos + (Utf8.decode (strOf l.length (packL l)) pos).2) fun p => putK h o (some ⟨true, esz, .sit l.length (packL l) p⟩) fun h => K (.tup [.bool true, .int .i64 (.ofNat pos), .int .i32 (.ofNat c)]) h)
      rw [forceN_eq, forceN_eq, putK_eq', strOf_S]
      have hsz : (ByteArray.mk l.toArray).size = l.length := by simp [ByteArray.size]
      obtain ⟨d1, d2, d3, d4, d5⟩ := decode_hi ⟨l.toArray⟩ pos (by rw [hsz]; exact hp) (by rw [get_S l pos hp]; exact hge)
      rw [hsz] at d4
      refine h2 _ _ ⟨d3, d4, fun h => by omega, fun _ k hk k1 k2 => ?_, d2⟩
      have := d5 (k - pos) (by omega)
      rw [show pos + (k - pos) = k by omega, get_S l k hk] at this
      exact this
theorem vNextS_ascii {l : List UInt8} {o pos : Nat} {esz : Nat} {h : Hp} {K : AV → Hp → Prop} (hall : ∀ b ∈ l, b.toNat < 128) (he : h.at o = some ⟨true, esz, .sit l.length (packL l) pos⟩)
    (h1 : l.length ≤ pos → K (.tup [.bool false]) h) (h2 : ∀ (hp : pos < l.length), K (.tup [.bool true, .int .i64 pos, .int .i32 ((l[pos]'hp).toNat : Int)]) (h.put o (some ⟨true, esz, .sit l.length (packL l) (pos + 1)⟩))) : vNextS (.ptr o 0) h K := by
  refine vNextS_intro he h1 fun c w d => ?_
  by_cases hc : c < 128
  · obtain ⟨rfl, hp, rfl⟩ := d.low hc
    exact h2 hp
  · have hp : pos < l.length := by have := d.one; have := d.fits; omega
    have := d.high (by omega) pos hp (Nat.le_refl _) (by have := d.one; omega)
    have := hall _ (List.getElem_mem hp)
    omega
end Go.Am

namespace Lg
set_option linter.unusedSimpArgs false
set_option linter.unusedVariables false
set_option maxRecDepth 100000
open Go Go.Am
open Go.Proofs.Ytnhamanffojhfaa.shl
/-- A name's error. -/
def badB (b : UInt8) : Bool := b == 0 || (b == 1 || b == 47)
def anyBad (l : List UInt8) : Bool := l.any badB
def nameE (l : List UInt8) : Int := if l = [] ∨ l = [46] ∨ l = [46, 46] ∨ anyBad l = true then 22 else if 64 < l.length then 36 else 0
theorem S_dot : AV.str 1 46 = S [46] := rfl
theorem S_dots : AV.str 2 11822 = S [46, 46] := rfl
theorem S_bad : AV.str 3 3080448 = S [0, 1, 47] := rfl
attribute [simp] S_dot S_dots S_bad
def cI1 (f : Int → Bool) : ConD := fun args h K => ∃ n, args = [I n] ∧ K (.bool (f n)) h
@[simp ↓] theorem cI1_eq (f : Int → Bool) (n : Int) (h : Hp) (K : AV → Hp → Prop) : cI1 f [.int .i64 n] h K = K (.bool (f n)) h := propext ⟨fun ⟨_, e, hK⟩ => by simp at e; subst e; exact hK, fun hK => ⟨_, rfl, hK⟩⟩
attribute [simp] cI1_eq
def cBad : ConD := fun args h K => ∃ l, args = [S l, S [0, 1, 47]] ∧ l.length ≤ 140737488355328 ∧ K (.bool (anyBad l)) h
/-- The first place of a byte. -/
def fiN : List UInt8 → Nat → Option Nat
  | [], _ => none
  | x :: l, b => if x.toNat = b then some 0 else (fiN l b).map (· + 1)
def fi (l : List UInt8) (b : Int) : Int := match fiN l b.toNat with | some i => i | none => -1
theorem idxB_S : ∀ (l : List UInt8) (b i : Nat), idxB l.length (packL l) b i = (fiN l b).map (· + i)
  | [], b, i => rfl
  | x :: l, b, i => by
    have h1 : packL (x :: l) % 256 = x.toNat := by simp only [packL]; have := x.toNat_lt; omega
    have h2 : packL (x :: l) / 256 = packL l := by simp only [packL]; have := x.toNat_lt; omega
    show (match Nat.beq (packL (x :: l) % 256) b with | true => some i | false => idxB l.length (packL (x :: l) / 256) b (Nat.succ i)) = _
    rw [h1, h2]
    by_cases hb : x.toNat = b
    · have : Nat.beq x.toNat b = true := by simp [hb]
      rw [this]
      simp [fiN, hb]
    · have : Nat.beq x.toNat b = false := by
        cases q : Nat.beq x.toNat b with
        | false => rfl
        | true => exact absurd (Nat.eq_of_beq_eq_true q) hb
      rw [this]
      simp only [idxB_S l b (Nat.succ i), fiN, hb, if_false]
      cases fiN l b with
      | none => rfl
      | some j => simp; omega
theorem vIdxB_S (l : List UInt8) (b : Int) (h0 : 0 ≤ b) (h1 : b < 256) (h : Hp) (K : AV → Hp → Prop) : vIdxB (S l) (.int .u8 b) h K = K (I (fi l b)) h := by
  obtain ⟨m, rfl⟩ := Int.eq_ofNat_of_zero_le h0
  show gd (Nat.blt m 256) (Option.rec (motive := fun _ => Prop) (K (.int .i64 (.negSucc 0)) h) (fun i => forceN i fun i => K (.int .i64 (.ofNat i)) h) (idxB l.length (packL l) m 0)) = _
  have : Nat.blt m 256 = true := by simp; omega
  rw [this, idxB_S]
  unfold fi
  show Option.rec (motive := fun _ => Prop) (K (.int .i64 (.negSucc 0)) h) (fun i => forceN i fun i => K (.int .i64 (.ofNat i)) h) ((fiN l m).map (· + 0)) = K (I (match fiN l m with | some i => (i : Int) | none => -1)) h
  cases fiN l m with
  | none => rfl
  | some i => simp only [Option.map_some, Nat.add_zero, forceN_eq]; rfl
theorem wrap8_in {n : Int} (h1 : 0 ≤ n) (h2 : n < 256) : IntKind.u8.wrap n = n := by
  have := wrapF_eq .u8 n
  rw [← this]
  cases n with
  | ofNat m =>
    show Bool.rec (motive := fun _ => Int) (IntKind.u8.wrap (.ofNat m)) (.ofNat m) (Nat.ble m 255) = _
    rw [Nat.ble_eq_true_of_le (by simp at h2; omega)]
  | negSucc m => omega
@[simp ↓ high] theorem vToInt_u8 (k : IntKind) (a : Int) (h1 : 0 ≤ a) (h2 : a < 256) (h : Hp) (K : AV → Hp → Prop) : vToInt .u8 (.int k a) h K = K (.int .u8 a) h := by
  rw [vToInt_int, wrap8_in h1 h2]
theorem vRuneS_eq (k : IntKind) (r : Int) (h : Hp) (K : AV → Hp → Prop) : vRuneS (.int k r) h K = K (S (Utf8.encode r).data.toList) h := rfl

def runeIx (r : Int) : Int := if r = 0 then 0 else if r = 1 then 1 else if r = 47 then 2 else -1
def cIdxB : ConD := fun args h K => ∃ l b, args = [S l, .int .u8 b] ∧ 0 ≤ b ∧ b < 256 ∧ K (I (fi l b)) h
theorem cIdxB_eq (l : List UInt8) (b : Int) (h0 : 0 ≤ b) (h1 : b < 256) (h : Hp) (K : AV → Hp → Prop) : cIdxB [S l, .int .u8 b] h K = K (I (fi l b)) h :=
  propext ⟨fun ⟨l', b', e, _, _, hK⟩ => by
    simp only [List.cons.injEq, AV.int.injEq, true_and, and_true] at e
    obtain ⟨e1, e2⟩ := e
    rw [S_inj] at e1
    subst e1 e2
    exact hK, fun hK => ⟨_, _, rfl, h0, h1, hK⟩⟩
def cRune : ConD := fun args h K => ∃ r, args = [S [0, 1, 47], .int .i32 r] ∧ 0 ≤ r ∧ r ≤ 1114111 ∧ K (I (runeIx r)) h

section
variable (cf : CallK) (fuel : Nat) {h : Hp} {K : AV → Hp → Prop}
theorem litIndexByte_run (l : List UInt8) (b : Int) (h0 : 0 ≤ b) (h1 : b < 256) (hK : ∀ h', Ext h h' → K (I (fi l b)) h') : s_int_stringslite_IndexByte cf fuel (S l) (.int .u8 b) h K := by
  unfold s_int_stringslite_IndexByte
  rw [vIdxB_S l b h0 h1]
  exact hK _ (Ext.refl _)
theorem IndexByte_run (hI : cf 176 = cIdxB) (l : List UInt8) (b : Int) (h0 : 0 ≤ b) (h1 : b < 256) (hK : ∀ h', Ext h h' → K (I (fi l b)) h') : s_strings_IndexByte cf fuel (S l) (.int .u8 b) h K := by
  unfold s_strings_IndexByte
  rw [hI, cIdxB_eq l b h0 h1]
  exact hK _ (Ext.refl _)
theorem ValidRune_run (r : Int) (hK : ∀ h', Ext h h' → K (.bool (Utf8.valid r)) h') : s_unicode_utf8_ValidRune cf fuel (.int .i32 r) h K := by
  unfold s_unicode_utf8_ValidRune
  simp
  repeat' (first | (first | refine joinG_split (fun hp => ?_) (fun hp => ?_) | refine joinP_split (fun hp => ?_) (fun hp => ?_) | refine vIf_split (fun hp => ?_) (fun hp => ?_)) <;> (try simp only [decide_eq_true_eq, decide_eq_false_iff_not, Bool.not_eq_true', Bool.not_eq_false', Bool.not_eq_true, Bool.not_eq_false] at hp) <;> try simp (disch := first | omega | (simp; done)) [hp])
  all_goals
    refine fin hK ?_ (Ext.refl _)
    congr 1
    rw [Bool.eq_iff_iff]
    simp only [Utf8.valid, Bool.or_eq_true, Bool.and_eq_true, decide_eq_true_eq, true_iff, Bool.false_eq_true, false_iff]
    omega
def cVR : ConD := fun args h K => ∃ r, args = [.int .i32 r] ∧ K (.bool (Utf8.valid r)) h
@[simp ↓] theorem cVR_eq (r : Int) (h : Hp) (K : AV → Hp → Prop) : cVR [.int .i32 r] h K = K (.bool (Utf8.valid r)) h := propext ⟨fun ⟨_, e, hK⟩ => by simp at e; subst e; exact hK, fun hK => ⟨_, rfl, hK⟩⟩
theorem IndexRuneL2_run {h0 : Hp} (e1 : Hp → Prop) (l : List UInt8) (hall : ∀ b ∈ l, b.toNat < 128) (o : Nat) (ho : h0.next ≤ o) (he1 : ∀ h', Ext h0 h' → e1 h') : ∀ (d pos m : Nat) (h : Hp), pos + d = l.length → d < m → Ext h0 h → h.at o = some ⟨true, 0, .sit l.length (packL l) pos⟩ →
    s_strings_IndexRuneL2 cf fuel K e1 (.ptr o 0) m h
  | d, pos, m, h, hd, hm, hx, hat => by
    obtain ⟨m, rfl⟩ : ∃ k, m = k + 1 := ⟨m - 1, by omega⟩
    rw [s_strings_IndexRuneL2_succ]
    unfold s_strings_IndexRuneL2B
    refine vNextS_ascii hall hat (fun hp => ?_) (fun hp => ?_)
    · simp
      exact he1 _ hx
    · have hb := hall _ (List.getElem_mem hp)
      have hne : ¬ (((l[pos]'hp).toNat : Int) = 65533) := by omega
      simp [hne]
      match d with
      | 0 => omega
      | d + 1 => exact IndexRuneL2_run e1 l hall o ho he1 d (pos + 1) m _ (by omega) (by omega) (hx.put _ ho) (by simp)
theorem lit_ascii : ∀ b ∈ ([0, 1, 47] : List UInt8), b.toNat < 128 := by decide
theorem fi_none (l : List UInt8) (b : Int) (hb : ∀ x ∈ l, (x.toNat : Int) ≠ b) (h0 : 0 ≤ b) : fi l b = -1 := by
  have : fiN l b.toNat = none := by
    induction l with
    | nil => rfl
    | cons x l ih =>
      have hx := hb x (by simp)
      rw [fiN, if_neg (by omega), ih fun y hy => hb y (by simp [hy])]
      rfl
  simp [fi, this]
theorem IndexRune_run (hB : cf 172 = cIdxB) (hV : cf 173 = cVR) (r : Int) (h0 : 0 ≤ r) (h1 : r ≤ 1114111) (hf : 4 < fuel) (hK : ∀ h', Ext h h' → K (I (runeIx r)) h') : s_strings_IndexRune cf fuel (S [0, 1, 47]) (.int .i32 r) h K := by
  unfold s_strings_IndexRune
  by_cases hr : r < 128
  · simp (disch := omega) [h0, hr, hB, cIdxB_eq]
    refine fin hK ?_ (Ext.refl _)
    congr 1
    obtain ⟨m, rfl⟩ := Int.eq_ofNat_of_zero_le h0
    unfold fi runeIx
    simp only [Int.toNat_natCast, fiN]
    by_cases e0 : m = 0
    · subst e0; rfl
    by_cases e1 : m = 1
    · subst e1; rfl
    by_cases e2 : m = 47
    · subst e2; rfl
    · rw [if_neg (show ¬ (0 : UInt8).toNat = m by simp; omega), if_neg (show ¬ (1 : UInt8).toNat = m by simp; omega), if_neg (show ¬ (47 : UInt8).toNat = m by simp; omega)]
      simp
      omega
  have hn : runeIx r = -1 := by unfold runeIx; split <;> (try split) <;> (try split) <;> omega
  rw [hn] at hK
  by_cases hr2 : r = 65533
  · subst hr2
    simp
    refine IndexRuneL2_run cf fuel (h0 := h) _ [0, 1, 47] lit_ascii h.next (Nat.le_refl _) (fun h' hx => ?_) 3 0 fuel _ rfl (by omega) ((Ext.refl _).new _) (by simp)
    exact hK h' hx
  · simp [h0, hr, hr2, hV]
    by_cases hv : Utf8.valid r = true
    · obtain ⟨l, hl, l1, l2, l3⟩ := encode_hi r (by omega) h1
      obtain ⟨m, rfl⟩ : ∃ k, fuel = k + 1 := ⟨fuel - 1, by omega⟩
      have big : ∀ (x : UInt8) (y : Int), x ∈ l → y < 128 → ¬ (y = (x.toNat : Int)) := fun x y hx hy => by
        have := l3 x hx
        omega
      have none : ∀ (x : UInt8) (t : List UInt8), x ∈ l → (∀ y ∈ t, y.toNat < 128) → fi t x.toNat = -1 := fun x t hx ht => fi_none _ _ (fun y hy => by
        have := l3 x hx
        have := ht y hy
        omega) (by omega)
      have small : ∀ x : UInt8, x.toNat < 256 := fun x => x.toNat_lt
      match l, l1, l2 with
      | [a, b], _, _ =>
        have k1 := big b 1 (by simp) (by omega)
        have k2 := none b [47] (by simp) (by decide)
        have k3 := small b
        simp [hv, vRuneS_eq, hl, s_strings_IndexRuneL5_succ]
        unfold s_strings_IndexRuneL5B s_strings_IndexRuneB12
        simp (disch := first | omega | (simp; done)) [hB, k1, cIdxB_eq, k2]
        exact hK _ (Ext.refl _)
      | [a, b, c], _, _ =>
        have k1 := big c 47 (by simp) (by omega)
        have k2 := none c [] (by simp) (by decide)
        have k3 := small c
        simp [hv, vRuneS_eq, hl, s_strings_IndexRuneL5_succ]
        unfold s_strings_IndexRuneL5B s_strings_IndexRuneB12
        simp (disch := first | omega | (simp; done)) [hB, k1, cIdxB_eq, k2]
        exact hK _ (Ext.refl _)
      | [a, b, c, d], _, _ =>
        simp [hv, vRuneS_eq, hl, s_strings_IndexRuneL5_succ]
        unfold s_strings_IndexRuneL5B s_strings_IndexRuneB12
        simp
        unfold s_strings_IndexRuneE4
        exact hK _ (Ext.refl _)
    · simp at hv
      simp [hv]
      exact hK _ (Ext.refl _)
end
/-- The first place of a bad sign. -/
def badIx (l : List UInt8) : Int := match l.findIdx? badB with | some i => i | none => -1
theorem badIx_at {l : List UInt8} {k : Nat} (hk : k < l.length) (h : badB l[k] = true) (hn : ∀ j (hj : j < k), badB (l[j]'(by omega)) = false) : badIx l = k := by
  have : l.findIdx? badB = some k := by
    rw [List.findIdx?_eq_some_iff_getElem]
    exact ⟨hk, h, fun j hj => by rw [hn j hj]; simp⟩
  simp [badIx, this]
theorem badIx_none {l : List UInt8} (hn : ∀ j (hj : j < l.length), badB l[j] = false) : badIx l = -1 := by
  have : l.findIdx? badB = none := by
    rw [List.findIdx?_eq_none_iff]
    intro x hx
    obtain ⟨j, hj, rfl⟩ := List.getElem_of_mem hx
    exact hn j hj
  simp [badIx, this]
theorem badIx_any (l : List UInt8) : decide (0 ≤ badIx l) = anyBad l := by
  rw [anyBad, Bool.eq_iff_iff, decide_eq_true_eq, List.any_eq_true]
  unfold badIx
  cases h : l.findIdx? badB with
  | none =>
    rw [List.findIdx?_eq_none_iff] at h
    simp only
    constructor
    · intro q; omega
    · rintro ⟨x, hx, hb⟩
      have := h x hx
      rw [hb] at this; cases this
  | some i =>
    rw [List.findIdx?_eq_some_iff_getElem] at h
    obtain ⟨hi, hb, _⟩ := h
    simp only
    exact ⟨fun _ => ⟨_, List.getElem_mem hi, hb⟩, fun _ => by omega⟩
theorem badB_iff (b : UInt8) : badB b = true ↔ (b.toNat = 0 ∨ b.toNat = 1 ∨ b.toNat = 47) := by
  simp only [badB, Bool.or_eq_true, beq_iff_eq]
  have e : ∀ n : UInt8, b = n ↔ b.toNat = n.toNat := fun n => ⟨fun h => by rw [h], fun h => UInt8.toNat_inj.1 h⟩
  rw [e, e, e]
  rfl
theorem runeIx_bad (b : UInt8) : decide (0 ≤ runeIx (b.toNat : Int)) = badB b := by
  rw [Bool.eq_iff_iff, decide_eq_true_eq, badB_iff]
  unfold runeIx
  split
  · simp; omega
  · split
    · simp; omega
    · split
      · simp; omega
      · simp; omega
def set3 : List AV := (List.range 256).map fun i => .bool (i == 0 || (i == 1 || i == 47))
theorem set3_get (b : UInt8) : set3[b.toNat]? = some (.bool (badB b)) := by
  have hlt := b.toNat_lt
  simp only [set3, List.getElem?_map]
  rw [List.getElem?_range (by omega)]
  simp only [Option.map_some, Option.some.injEq, AV.bool.injEq]
  rw [Bool.eq_iff_iff, badB_iff]
  simp
theorem set3_len : set3.length = 256 := by simp [set3]
def cSet3 : ConD := toC [S [0, 1, 47]] (.tup [.agg set3, .bool true])
theorem cSet3_eq (h : Hp) (K : AV → Hp → Prop) : cSet3 [S [0, 1, 47]] h K = K (.tup [.agg set3, .bool true]) h := propext ⟨fun ⟨_, hK⟩ => hK, fun hK => ⟨rfl, hK⟩⟩
def cContains : ConD := fun args h K => ∃ (o : Nat) (e : Ent) (f : Nat → Bool) (b : Int), args = [.ptr o 0, .int .u8 b] ∧ h.at o = some e ∧ 0 ≤ b ∧ b < 256 ∧ cellAt e.obj b.toNat = some (.bool (f b.toNat)) ∧ K (.bool (f b.toNat)) h
def cIxAny : ConD := fun args h K => ∃ l, args = [S l, S [0, 1, 47]] ∧ l.length ≤ 140737488355328 ∧ K (I (badIx l)) h

section
variable (cf : CallK) (fuel : Nat) {h : Hp} {K : AV → Hp → Prop}
theorem should_run (n : Int) (hK : ∀ h', Ext h h' → K (.bool (decide (8 < n))) h') : s_strings_shouldUseASCIISet cf fuel (I n) h K := by
  unfold s_strings_shouldUseASCIISet
  simp
  exact hK _ (Ext.refl _)
theorem contains_run (o : Nat) (e : Ent) (f : Nat → Bool) (b : Int) (he : h.at o = some e) (h0 : 0 ≤ b) (h1 : b < 256) (hc : cellAt e.obj b.toNat = some (.bool (f b.toNat))) (hK : ∀ h', Ext h h' → K (.bool (f b.toNat)) h') : s_strings_asciiSet_contains cf fuel (.ptr o 0) (.int .u8 b) h K := by
  unfold s_strings_asciiSet_contains
  simp (disch := omega) [he, hc]
  exact hK _ (Ext.refl _)
theorem IndexAnyL6_run (hC : cf 170 = cContains) (e5 : Hp → Prop) (l : List UInt8) (hl : l.length ≤ 140737488355328) (o : Nat) (ob : AObj) (hat : h.at o = some ⟨true, 256, ob⟩) (hc : Cells ob set3) (hK : K (I (badIx l)) h) (he : badIx l = -1 → e5 h) :
    ∀ (d k m : Nat), k + d = l.length → d < m → (∀ j (hj : j < k) (h2 : j < l.length), badB l[j] = false) → s_strings_IndexAnyL6 cf fuel K e5 (S l) (.ptr o 0) m (I k) h
  | 0, k, m, hd, hm, hn => by
    obtain ⟨m, rfl⟩ : ∃ k, m = k + 1 := ⟨m - 1, by omega⟩
    rw [s_strings_IndexAnyL6_succ]
    unfold s_strings_IndexAnyL6B
    have e : ¬ (k : Int) < l.length := by omega
    simp [e]
    exact he (badIx_none fun j hj => hn j (by omega) hj)
  | d + 1, k, m, hd, hm, hn => by
    obtain ⟨m, rfl⟩ : ∃ k, m = k + 1 := ⟨m - 1, by omega⟩
    rw [s_strings_IndexAnyL6_succ]
    unfold s_strings_IndexAnyL6B
    have hk : k < l.length := by omega
    have e : (k : Int) < l.length := by omega
    have hlt := (l[k]).toNat_lt
    simp (disch := omega) [e, hC]
    refine ⟨o, _, fun j => badB (UInt8.ofNat j), _, rfl, hat, by omega, by omega, ?_, ?_⟩
    · simp only [Int.toNat_natCast, UInt8.ofNat_toNat]
      rw [hc.2.2, set3_get]
    · simp only [Int.toNat_natCast, UInt8.ofNat_toNat]
      refine vIf_split (fun hp => ?_) (fun hp => ?_)
      · rw [badIx_at hk hp fun j hj => hn j hj (by omega)] at hK
        exact hK
      · try simp (disch := omega)
        have := IndexAnyL6_run hC e5 l hl o ob hat hc hK he d (k + 1) m (by omega) (by omega) fun j hj h2 => by
          by_cases q : j = k
          · subst q; exact hp
          · exact hn j (by omega) h2
        simpa using this
theorem IndexAnyL3_run {h0 : Hp} (hR : cf 167 = cRune) (e2 : Hp → Prop) (l : List UInt8) (o : Nat) (ho : h0.next ≤ o) (hK : ∀ h', Ext h0 h' → K (I (badIx l)) h') (he : badIx l = -1 → ∀ h', Ext h0 h' → e2 h') :
    ∀ (d pos m : Nat) (h : Hp), l.length ≤ pos + d → d < m → Ext h0 h → h.at o = some ⟨true, 0, .sit l.length (packL l) pos⟩ → (∀ j (hj : j < pos) (h2 : j < l.length), badB l[j] = false) →
    s_strings_IndexAnyL3 cf fuel K e2 (S [0, 1, 47]) (.ptr o 0) m h
  | d, pos, m, h, hd, hm, hx, hat, hn => by
    obtain ⟨m, rfl⟩ : ∃ k, m = k + 1 := ⟨m - 1, by omega⟩
    rw [s_strings_IndexAnyL3_succ]
    unfold s_strings_IndexAnyL3B
    refine vNextS_intro hat (fun hp => ?_) (fun c w dc => ?_)
    · simp
      exact he (badIx_none fun j hj => hn j (by omega) hj) _ hx
    · have hp : pos < l.length := by have := dc.one; have := dc.fits; omega
      simp [hR]
      refine ⟨c, rfl, by omega, by have := dc.le; omega, ?_⟩
      simp
      have step : (∀ j (hj : j < pos + w) (h2 : j < l.length), badB l[j] = false) → s_strings_IndexAnyL3 cf fuel K e2 (S [0, 1, 47]) (.ptr o 0) m (h.put o (some ⟨true, 0, .sit l.length (packL l) (pos + w)⟩)) := fun hn' => by
        match d with
        | 0 => omega
        | d + 1 => exact IndexAnyL3_run hR e2 l o ho hK he d (pos + w) m _ (by have := dc.one; omega) (by omega) (hx.put _ ho) (by simp) hn'
      by_cases hc : c < 128
      · obtain ⟨rfl, _, hb⟩ := dc.low hc
        subst hb
        refine vIf_split (fun hq => ?_) (fun hq => ?_)
        · rw [runeIx_bad] at hq
          have := badIx_at hp hq fun j hj => hn j hj (by omega)
          have hK2 := hK _ (hx.put (some ⟨true, 0, .sit l.length (packL l) (pos + 1)⟩) ho)
          rw [this] at hK2
          exact hK2
        · rw [runeIx_bad] at hq
          exact step fun j hj h2 => by
            by_cases q : j = pos
            · subst q; exact hq
            · exact hn j (by omega) h2
      · have e : ¬ (0 ≤ runeIx (c : Int)) := by unfold runeIx; split <;> (try split) <;> (try split) <;> omega
        simp [e]
        exact step fun j hj h2 => by
          by_cases q : j < pos
          · exact hn j q h2
          · have := dc.high (by omega) j h2 (by omega) hj
            cases hb : badB l[j] with
            | false => rfl
            | true => rw [badB_iff] at hb; omega
theorem IndexAny_run (hS : cf 168 = cI1 fun n => decide (8 < n)) (hM : cf 169 = cSet3) (hC : cf 170 = cContains) (hR : cf 167 = cRune) (l : List UInt8) (hl : l.length ≤ 140737488355328) (hf : l.length + 1 < fuel)
    (hK : ∀ h', Ext h h' → K (I (badIx l)) h') : s_strings_IndexAny cf fuel (S l) (S [0, 1, 47]) h K := by
  unfold s_strings_IndexAny s_strings_IndexAnyB8
  simp [hS]
  refine vIf_split (fun hp => ?_) (fun hp => ?_)
  · simp only [hM, cSet3_eq]
    simp
    refine rowK_intro _ _ fun ob hc => ?_
    simp only [Hp.at_new, if_true, asOpt_some, set3_len, and_self, ifP_true]
    refine setO_intro set3 0 _ hc (by simp [set3_len]) fun ob2 hc2 => ?_
    rw [setL_zero _ _ (by simp [set3_len])] at hc2
    have hx : Ext h ((h.new ⟨true, 256, ob⟩).put h.next (some ⟨true, 256, ob2⟩)) := ((Ext.refl h).new _).put _ (Nat.le_refl _)
    refine IndexAnyL6_run cf fuel hC _ l hl h.next ob2 (by simp) hc2 (hK _ hx) (fun hb => ?_) l.length 0 fuel (by omega) (by omega) (fun j hj => by omega)
    unfold s_strings_IndexAnyE5
    have := hK _ hx
    rw [hb] at this
    exact this
  · unfold s_strings_IndexAnyJ1
    simp
    refine IndexAnyL3_run cf fuel (h0 := h) hR _ l h.next (Nat.le_refl _) hK (fun hb h' hx => ?_) l.length 0 fuel _ (by omega) (by omega) ((Ext.refl h).new _) (by simp) (fun j hj => by omega)
    unfold s_strings_IndexAnyE2
    have := hK _ hx
    rw [hb] at this
    exact this
theorem ContainsAny_run (hI : cf 156 = cIxAny) (l : List UInt8) (hl : l.length ≤ 140737488355328) (hK : ∀ h', Ext h h' → K (.bool (anyBad l)) h') : s_strings_ContainsAny cf fuel (S l) (S [0, 1, 47]) h K := by
  unfold s_strings_ContainsAny
  rw [hI]
  refine ⟨l, rfl, hl, ?_⟩
  simp
  exact fin hK (by rw [← badIx_any]) (Ext.refl _)
end
end Lg

namespace Lg
set_option linter.unusedSimpArgs false
set_option linter.unusedVariables false
set_option maxRecDepth 100000
open Go Go.Am
open Go.Proofs.Ytnhamanffojhfaa.shl
theorem by0 : bytesL 0 0 = [] := rfl
theorem by1 : bytesL 1 46 = [46] := rfl
theorem by2 : bytesL 2 11822 = [46, 46] := rfl
def any1 (l : List UInt8) : Bool := l.any fun b => b == 1
def any0 (l : List UInt8) : Bool := l.any fun b => b == 0 || b == 47
def localE (l : List UInt8) : Int := if l = [] ∨ l = [46] ∨ l = [46, 46] ∨ any0 l = true then 22 else if 64 < l.length then 36 else 0
theorem any_bad (l : List UInt8) : anyBad l = (any1 l || any0 l) := by
  unfold anyBad any1 any0
  induction l with
  | nil => rfl
  | cons x l ih =>
    simp only [List.any_cons, ih, badB]
    cases (x == 0) <;> cases (x == 1) <;> cases (x == 47) <;> cases (l.any fun b => b == 1) <;> cases (l.any fun b => b == 0 || b == 47) <;> rfl
theorem nameE_local (l : List UInt8) : nameE l = if any1 l = true then 22 else localE l := by
  unfold nameE localE
  rw [any_bad]
  cases any1 l <;> cases any0 l <;> simp
theorem any_at {p : UInt8 → Bool} {l : List UInt8} {k : Nat} (hk : k < l.length) (h : p l[k] = true) : l.any p = true := List.any_eq_true.2 ⟨_, List.getElem_mem hk, h⟩
theorem any_none {p : UInt8 → Bool} {l : List UInt8} (h : ∀ j (hj : j < l.length), p l[j] = false) : l.any p = false := by
  rw [List.any_eq_false]
  intro x hx
  obtain ⟨j, hj, rfl⟩ := List.getElem_of_mem hx
  rw [h j hj]; simp
theorem u8_iff (b : UInt8) (n : Nat) (hn : n < 256) : ((b.toNat : Int) = n) ↔ b = UInt8.ofNat n := by
  constructor
  · intro h
    apply UInt8.toNat_inj.1
    simp [UInt8.toNat_ofNat']
    omega
  · intro h
    subst h
    simp [UInt8.toNat_ofNat']
    omega
def cS (f : List UInt8 → Int) : ConD := fun args h K => ∃ l, args = [S l] ∧ l.length ≤ 140737488355328 ∧ K (I (f l)) h
theorem cS_go {cf : CallK} {g : FuncId} {f : List UInt8 → Int} (hg : cf g = cS f) {l : List UInt8} {h : Hp} {K : AV → Hp → Prop} (hl : l.length ≤ 140737488355328) (hK : K (I (f l)) h) : cf g [S l] h K := by rw [hg]; exact ⟨l, rfl, hl, hK⟩
theorem len_by {h h' : Hp} {v : AV} {l : List UInt8} {K : AV → Hp → Prop} (hv : ByH h v l) (q : K (.int .i64 l.length) h') : vLenL2 v h' K := by
  rcases hv with ⟨rfl, rfl⟩ | ⟨o, rfl, rfl⟩ | ⟨o, off, kn, c, e, n, z, rfl, _⟩ <;> exact q
theorem cBad_go {cf : CallK} {g : FuncId} (hg : cf g = cBad) {l : List UInt8} {h : Hp} {K : AV → Hp → Prop} (hl : l.length ≤ 140737488355328) (h1 : anyBad l = true → K (.bool true) h) (h2 : anyBad l = false → K (.bool false) h) : cf g [S l, .str 3 3080448] h K := by
  rw [hg]; exact ⟨l, rfl, hl, two_ways (F := fun b => K (.bool b) h) h1 h2⟩

section
variable (cf : CallK) (fuel : Nat) {h : Hp} {K : AV → Hp → Prop}
theorem opsName_run (hC : cf 135 = cBad) (l : List UInt8) (hl : l.length ≤ 140737488355328) (hK : ∀ h', Ext h h' → K (I (nameE l)) h') : s_ops_Name cf fuel (S l) h K := by
  unfold s_ops_Name
  dsimp only
  (try unfold vMov); repeat' (first | refine Step.imp ?_ | (refine Way.mk (fun hp => ?_) (fun hp => ?_) <;> first | contradiction | (exfalso; omega) | skip) | refine LoadG.mkG ?_ | refine LoadsG.mkG ?_ | refine AtG.mkG ?_ | refine StoreG.mkG ?_ | refine CondG.mkG ?_ | (refine cBad_go hC hl (fun hp => ?_) (fun hp => ?_)) | fail); (all_goals (try dsimp only))
  all_goals
    refine fin hK ?_ (Ext.refl _)
    simp only [by0, by1, by2] at *
    first
      | (simp_all [nameE]; done)
      | (unfold nameE; simp_all; omega)
theorem LocalL1_run (e0 : Hp → Prop) (l : List UInt8) (hl : l.length ≤ 140737488355328) (hb : any0 l = true → K (I 22) h) (he : any0 l = false → e0 h) :
    ∀ (d k m : Nat), k + d = l.length → d < m → (∀ j (hj : j < k) (h2 : j < l.length), (l[j] == 0 || l[j] == 47) = false) → s_lagoonref12_LocalL1 cf fuel K e0 (S l) m (I k) h
  | 0, k, m, hd, hm, hn => by
    obtain ⟨m, rfl⟩ : ∃ k, m = k + 1 := ⟨m - 1, by omega⟩
    rw [s_lagoonref12_LocalL1_succ]
    unfold s_lagoonref12_LocalL1B
    dsimp only
    (try unfold vMov); repeat' (first | refine Step.imp ?_ | (refine Way.mk (fun hp => ?_) (fun hp => ?_) <;> first | contradiction | (exfalso; omega) | skip) | refine LoadG.mkG ?_ | refine LoadsG.mkG ?_ | refine AtG.mkG ?_ | refine StoreG.mkG ?_ | refine CondG.mkG ?_ | fail); (all_goals (try dsimp only))
    exact he (any_none fun j hj => hn j (by omega) hj)
  | d + 1, k, m, hd, hm, hn => by
    obtain ⟨m, rfl⟩ : ∃ k, m = k + 1 := ⟨m - 1, by omega⟩
    rw [s_lagoonref12_LocalL1_succ]
    unfold s_lagoonref12_LocalL1B
    have hk : k < l.length := by omega
    have ih := LocalL1_run e0 l hl hb he d (k + 1) m (by omega) (by omega)
    have e1 : ((k : Int) + 1) = ((k + 1 : Nat) : Int) := by omega
    have i0 := u8_iff l[k] 0 (by omega)
    have i1 := u8_iff l[k] 47 (by omega)
    dsimp only
    (try unfold vMov); repeat' (first | refine Step.imp ?_ | (refine Way.mk (fun hp => ?_) (fun hp => ?_) <;> first | contradiction | (exfalso; omega) | skip) | refine LoadG.mkG ?_ | refine LoadsG.mkG ?_ | refine AtG.mkG ?_ | refine StoreG.mkG ?_ | refine CondG.mkG ?_ | (refine ⟨by omega, by omega, ?_⟩) | fail); (all_goals (try dsimp only))
    · have q : l[k] = 0 := i0.1 (by simpa using hp)
      exact hb (any_at hk (by rw [q]; rfl))
    · have q : l[k] = 47 := i1.1 (by simpa using hp)
      exact hb (any_at hk (by rw [q]; rfl))
    · rename_i hp0
      rw [e1]
      refine ih fun j hj h2 => ?_
      by_cases q : j = k
      · subst q
        have n0 : ¬ l[j] = 0 := fun q => hp0 (by simpa using i0.2 q)
        have n1 : ¬ l[j] = 47 := fun q => hp (by simpa using i1.2 q)
        simp [n0, n1]
      · exact hn j (by omega) h2
theorem NameL1_run (e0 : Hp → Prop) (l : List UInt8) (hl : l.length ≤ 140737488355328) (hb : any1 l = true → K (I 22) h) (he : any1 l = false → e0 h) :
    ∀ (d k m : Nat), k + d = l.length → d < m → (∀ j (hj : j < k) (h2 : j < l.length), (l[j] == 1) = false) → s_lagoonref12_NameL1 cf fuel K e0 (S l) m (I k) h
  | 0, k, m, hd, hm, hn => by
    obtain ⟨m, rfl⟩ : ∃ k, m = k + 1 := ⟨m - 1, by omega⟩
    rw [s_lagoonref12_NameL1_succ]
    unfold s_lagoonref12_NameL1B
    dsimp only
    (try unfold vMov); repeat' (first | refine Step.imp ?_ | (refine Way.mk (fun hp => ?_) (fun hp => ?_) <;> first | contradiction | (exfalso; omega) | skip) | refine LoadG.mkG ?_ | refine LoadsG.mkG ?_ | refine AtG.mkG ?_ | refine StoreG.mkG ?_ | refine CondG.mkG ?_ | fail); (all_goals (try dsimp only))
    exact he (any_none fun j hj => hn j (by omega) hj)
  | d + 1, k, m, hd, hm, hn => by
    obtain ⟨m, rfl⟩ : ∃ k, m = k + 1 := ⟨m - 1, by omega⟩
    rw [s_lagoonref12_NameL1_succ]
    unfold s_lagoonref12_NameL1B
    have hk : k < l.length := by omega
    have ih := NameL1_run e0 l hl hb he d (k + 1) m (by omega) (by omega)
    have e1 : ((k : Int) + 1) = ((k + 1 : Nat) : Int) := by omega
    have i0 := u8_iff l[k] 1 (by omega)
    dsimp only
    (try unfold vMov); repeat' (first | refine Step.imp ?_ | (refine Way.mk (fun hp => ?_) (fun hp => ?_) <;> first | contradiction | (exfalso; omega) | skip) | refine LoadG.mkG ?_ | refine LoadsG.mkG ?_ | refine AtG.mkG ?_ | refine StoreG.mkG ?_ | refine CondG.mkG ?_ | (refine ⟨by omega, by omega, ?_⟩) | fail); (all_goals (try dsimp only))
    · have q : l[k] = 1 := i0.1 (by simpa using hp)
      exact hb (any_at hk (by rw [q]; rfl))
    · rw [e1]
      refine ih fun j hj h2 => ?_
      by_cases q : j = k
      · subst q
        have n0 : ¬ l[j] = 1 := fun q => hp (by simpa using i0.2 q)
        simp [n0]
      · exact hn j (by omega) h2
theorem Local_run (l : List UInt8) (hl : l.length ≤ 140737488355328) (hf : l.length + 1 < fuel) (hK : ∀ h', Ext h h' → K (I (localE l)) h') : s_lagoonref12_Local cf fuel (S l) h K := by
  unfold s_lagoonref12_Local
  have key : ¬ l = [] → ¬ l = [46] → ¬ l = [46, 46] → s_lagoonref12_LocalL1 cf fuel K (s_lagoonref12_LocalE0 cf fuel K (S l)) (S l) fuel (I 0) h := fun a1 a2 a3 => by
    refine LocalL1_run cf fuel _ l hl (fun hb => fin hK (by simp [localE, hb]) (Ext.refl _)) (fun hb => ?_) l.length 0 fuel (by omega) (by omega) (fun j hj => by omega)
    unfold s_lagoonref12_LocalE0
    (try unfold vMov); repeat' (first | refine Step.imp ?_ | (refine Way.mk (fun hp => ?_) (fun hp => ?_) <;> first | contradiction | (exfalso; omega) | skip) | refine LoadG.mkG ?_ | refine LoadsG.mkG ?_ | refine AtG.mkG ?_ | refine StoreG.mkG ?_ | refine CondG.mkG ?_ | fail); (all_goals (try dsimp only))
    · exact fin hK (by unfold localE; rw [if_neg (by simp [a1, a2, a3, hb]), if_pos (by omega)]) (Ext.refl _)
    · exact fin hK (by unfold localE; rw [if_neg (by simp [a1, a2, a3, hb]), if_neg (by omega)]) (Ext.refl _)
  dsimp only
  (try unfold vMov); repeat' (first | refine Step.imp ?_ | (refine Way.mk (fun hp => ?_) (fun hp => ?_) <;> first | contradiction | (exfalso; omega) | skip) | refine LoadG.mkG ?_ | refine LoadsG.mkG ?_ | refine AtG.mkG ?_ | refine StoreG.mkG ?_ | refine CondG.mkG ?_ | fail); (all_goals (try dsimp only))
  all_goals simp only [by0, by1, by2] at *
  all_goals first
    | exact key (by assumption) (by assumption) (by assumption)
    | exact fin hK (by simp_all [localE]) (Ext.refl _)
theorem refName_run (hL : cf 133 = cS localE) (l : List UInt8) (hl : l.length ≤ 140737488355328) (hf : l.length + 1 < fuel) (hK : ∀ h', Ext h h' → K (I (nameE l)) h') : s_lagoonref12_Name cf fuel (S l) h K := by
  unfold s_lagoonref12_Name
  dsimp only
  refine NameL1_run cf fuel _ l hl (fun hb => fin hK (by rw [nameE_local, hb]; rfl) (Ext.refl _)) (fun hb => ?_) l.length 0 fuel (by omega) (by omega) (fun j hj => by omega)
  unfold s_lagoonref12_NameE0
  refine cS_go hL hl ?_
  exact fin hK (by rw [nameE_local, hb]; rfl) (Ext.refl _)
end

/-- May an operation be? -/
def kindOK (o : FOp) : Bool :=
  if o.kind = 1 ∨ o.kind = 2 then sameI o.ot o.on o.t o.n && ((rootB o.pt o.pn || olderB o.pt o.pn o.t o.n) && (decide (nameE o.name = 0) && decide (o.data.length = 0)))
  else if o.kind = 3 then olderB o.ot o.on o.t o.n && ((rootB o.pt o.pn || (trashB o.pt o.pn || olderB o.pt o.pn o.t o.n)) && (decide (nameE o.name = 0) && decide (o.data.length = 0)))
  else if o.kind = 4 then olderB o.ot o.on o.t o.n && (rootB o.pt o.pn && (decide (o.name = []) && decide (o.data.length ≤ 65536)))
  else false
def seenO (o : FOp) : Bool := mayV o.seen && decide (vat o.seen o.n = o.seq - 1)
def mayO (o : FOp) : Bool := validB o.t o.n && (decide (1 ≤ o.seq) && (decide (o.seq ≤ 1152921504606846976) && (seenO o && kindOK o)))
theorem mayO_f (o : FOp) (h : validB o.t o.n = false ∨ o.seq < 1 ∨ 1152921504606846976 < o.seq ∨ seenO o = false ∨ kindOK o = false) : mayO o = false := by
  unfold mayO
  simp only [Bool.and_eq_false_iff, decide_eq_false_iff_not]
  rcases h with h | h | h | h | h
  · exact .inl h
  · exact .inr (.inl (by omega))
  · exact .inr (.inr (.inl (by omega)))
  · exact .inr (.inr (.inr (.inl h)))
  · exact .inr (.inr (.inr (.inr h)))
theorem mayO_k (o : FOp) (h1 : validB o.t o.n = true) (h2 : ¬ o.seq < 1) (h3 : ¬ 1152921504606846976 < o.seq) (h4 : seenO o = true) : mayO o = kindOK o := by
  unfold mayO
  rw [h1, h4, decide_eq_true (by omega), decide_eq_true (by omega)]
  simp
theorem seenO_f1 (o : FOp) (h : mayV o.seen = false) : seenO o = false := by unfold seenO; rw [h]; rfl
theorem seenO_f2 (o : FOp) (h : ¬ vat o.seen o.n = o.seq - 1) : seenO o = false := by unfold seenO; rw [decide_eq_false h]; simp
theorem seenO_t (o : FOp) (h1 : mayV o.seen = true) (h : vat o.seen o.n = o.seq - 1) : seenO o = true := by unfold seenO; rw [decide_eq_true h, h1]; rfl
theorem opFlat (o : FOp) (vd vs : AV) : opCells o vd vs = [I o.t, I o.n, I o.seq, I o.kind, I o.ot, I o.on, I o.pt, I o.pn, S o.name, vd, vs] := rfl
def cOpB (f : FOp → Bool) : ConD := fun args h K => ∃ cs o, args = [.agg cs] ∧ OpH h cs o ∧ K (.bool (f o)) h
def cSeen : ConD := fun args h K => ∃ cs o, args = [.agg cs] ∧ OpH h cs o ∧ (1 ≤ o.seq ∧ o.seq ≤ 1152921504606846976) ∧ K (.bool (seenO o)) h
def cEarlier : ConD := fun args h K => ∃ t n cs o, args = [.agg [I t, I n], .agg cs] ∧ OpH h cs o ∧ K (.bool (olderB t n o.t o.n)) h
section
variable {cf : CallK} {g : FuncId} {h : Hp} {K : AV → Hp → Prop}
theorem cOpB_go {f : FOp → Bool} (hg : cf g = cOpB f) {cs : List AV} {o : FOp} (ho : OpH h cs o) (h1 : f o = true → K (.bool true) h) (h2 : f o = false → K (.bool false) h) : cf g [.agg cs] h K := by
  rw [hg]; exact ⟨cs, o, rfl, ho, two_ways (F := fun b => K (.bool b) h) h1 h2⟩
theorem cSeen_go (hg : cf g = cSeen) {cs : List AV} {o : FOp} (ho : OpH h cs o) (hs : 1 ≤ o.seq ∧ o.seq ≤ 1152921504606846976) (h1 : seenO o = true → K (.bool true) h) (h2 : seenO o = false → K (.bool false) h) : cf g [.agg cs] h K := by
  rw [hg]; exact ⟨cs, o, rfl, ho, hs, two_ways (F := fun b => K (.bool b) h) h1 h2⟩
theorem cEarlier_go (hg : cf g = cEarlier) {t n : Int} {cs : List AV} {o : FOp} (ho : OpH h cs o) (h1 : olderB t n o.t o.n = true → K (.bool true) h) (h2 : olderB t n o.t o.n = false → K (.bool false) h) : cf g [.agg [I t, I n], .agg cs] h K := by
  rw [hg]; exact ⟨t, n, cs, o, rfl, ho, two_ways (F := fun b => K (.bool b) h) h1 h2⟩
end

section
variable (cf : CallK) (fuel : Nat) {h : Hp} {K : AV → Hp → Prop}
/-! ### the document's -/
theorem refKind_run (hS : cf 25 = cIdB2 sameI) (hR : cf 101 = cIdB rootB) (hT : cf 104 = cIdB trashB) (hO : cf 102 = cIdB2 olderB) (hN : cf 103 = cS nameE)
    {o : FOp} {vd vs : AV} {p : Nat} (hat : h.at p = some ⟨true, 11, .row [I o.t, I o.n, I o.seq, I o.kind, I o.ot, I o.on, I o.pt, I o.pn, S o.name, vd, vs]⟩) (hd : ByH h vd o.data) (hn : o.name.length ≤ 140737488355328) (hK : K (.bool (kindOK o)) h) : s_lagoonref12_MayB56 cf fuel K (.ptr p 0) h := by
  unfold s_lagoonref12_MayB56 s_lagoonref12_MayB55 s_lagoonref12_MayB54 s_lagoonref12_MayB53
  dsimp only
  (try unfold vMov); repeat' (first | refine Step.imp ?_ | (refine Way.mk (fun hp => ?_) (fun hp => ?_) <;> first | contradiction | (exfalso; omega) | skip) | refine LoadG.mk (by simp (disch := (first | omega | (simp only [Hp.next_new, Hp.next_put]; omega))) only [Hp.at_new_self, Hp.at_put_self, Hp.at_new_lt, Hp.at_put_ne, hat] <;> rfl) (by simp only [cellAt_row', setL_cons0, setL_succ, Nat.reduceAdd, Nat.reduceMul, Nat.zero_add, Nat.add_zero, List.getElem?_cons_succ, List.getElem?_cons_zero]; rfl) ?_ | refine LoadsG.mk (by simp (disch := (first | omega | (simp only [Hp.next_new, Hp.next_put]; omega))) only [Hp.at_new_self, Hp.at_put_self, Hp.at_new_lt, Hp.at_put_ne, hat] <;> rfl) (by rfl) ?_ | refine AtG.mkG ?_ | refine StoreG.mk (by simp (disch := (first | omega | (simp only [Hp.next_new, Hp.next_put]; omega))) only [Hp.at_new_self, Hp.at_put_self, Hp.at_new_lt, Hp.at_put_ne, hat] <;> rfl) (by first | omega | (simp; done) | (simp; omega)) ?_ | refine CondG.mkG ?_ | (refine len_by hd ?_) | (refine cIdB2_go hS (fun hp => ?_) (fun hp => ?_)) | (refine cIdB_go hR (fun hp => ?_) (fun hp => ?_)) | (refine cIdB_go hT (fun hp => ?_) (fun hp => ?_)) | (refine cIdB2_go hO (fun hp => ?_) (fun hp => ?_)) | (refine cS_go hN hn ?_) | fail); (all_goals (try dsimp only))
  all_goals
    refine (congrArg (fun v => K v h) ?_).mpr hK
    try simp only [by0] at *
    clear hK hat hS hR hT hO hN hd
    (simp_all [kindOK]) <;> omega
theorem refMay_run (hV : cf 99 = cIdB validB) (hM : cf 100 = cVecB mayV) (hA : cf 26 = cAt) (hS : cf 25 = cIdB2 sameI) (hR : cf 101 = cIdB rootB) (hT : cf 104 = cIdB trashB) (hO : cf 102 = cIdB2 olderB) (hN : cf 103 = cS nameE)
    {ca : List AV} {o : FOp} (ho : OpH h ca o) (hK : ∀ h', Ext h h' → K (.bool (mayO o)) h') : s_lagoonref12_May cf fuel (.agg ca) h K := by
  obtain ⟨vd, vs, rfl, hd, hs, hn⟩ := ho
  unfold s_lagoonref12_May
  rw [opFlat]
  (try unfold vMov); repeat' (first | refine Step.imp ?_ | (refine Way.mk (fun hp => ?_) (fun hp => ?_) <;> first | contradiction | (exfalso; omega) | skip) | refine LoadG.mkG ?_ | refine LoadsG.mkG ?_ | refine AtG.mkG ?_ | refine StoreG.mkG ?_ | refine CondG.mkG ?_ | (refine cIdB_go hV (fun hp => ?_) (fun hp => ?_)) | (refine cVecB_go hM (hs.mono (by repeat (first | exact Ext.refl _ | assumption | apply Ext.new | (refine Ext.put ?_ _ (by first | omega | (simp; done) | (simp; omega)))))) (fun hp => ?_) (fun hp => ?_)) | (refine cAt_go hA (hs.mono (by repeat (first | exact Ext.refl _ | assumption | apply Ext.new | (refine Ext.put ?_ _ (by first | omega | (simp; done) | (simp; omega)))))) ?_) | fail); (all_goals (try dsimp only))
  all_goals first
    | (refine fin hK ?_ (by repeat (first | exact Ext.refl _ | assumption | apply Ext.new | (refine Ext.put ?_ _ (by first | omega | (simp; done) | (simp; omega)))))
       rw [mayO_f o (by first | exact .inl hp | exact .inr (.inl hp) | exact .inr (.inr (.inl hp)) | exact .inr (.inr (.inr (.inl (seenO_f1 o hp)))) | exact .inr (.inr (.inr (.inl (seenO_f2 o hp)))))]
       done)
    | (refine refKind_run cf fuel hS hR hT hO hN (vd := vd) (vs := vs) (by rw [Hp.at_new_self]) (hd.mono (by repeat (first | exact Ext.refl _ | assumption | apply Ext.new | (refine Ext.put ?_ _ (by first | omega | (simp; done) | (simp; omega)))))) hn ?_
       refine fin hK ?_ (by repeat (first | exact Ext.refl _ | assumption | apply Ext.new | (refine Ext.put ?_ _ (by first | omega | (simp; done) | (simp; omega)))))
       rw [mayO_k o (by assumption) (by assumption) (by assumption) (seenO_t o (by assumption) (by assumption))])

/-! ### the program's -/
theorem seenL6_run {o : FOp} {vd vs : AV} {p : Nat} (hat : h.at p = some ⟨true, 11, .row [I o.t, I o.n, I o.seq, I o.kind, I o.ot, I o.on, I o.pt, I o.pn, S o.name, vd, vs]⟩) (hv : VecH h vs o.seen) (e0 : AV → Hp → Prop) :
    ∀ (n m : Nat), n ≤ o.seen.length → n < m → e0 (I (trimN o.seen n)) h → s_ops_seenL6 cf fuel e0 (.ptr p 0) m (I n) h
  | 0, m, hn, hm, hK => by
    obtain ⟨m, rfl⟩ : ∃ k, m = k + 1 := ⟨m - 1, by omega⟩
    rw [s_ops_seenL6_succ]
    unfold s_ops_seenL6B
    dsimp only
    (try unfold vMov); repeat' (first | refine Step.imp ?_ | (refine Way.mk (fun hp => ?_) (fun hp => ?_) <;> first | contradiction | (exfalso; omega) | skip) | refine LoadG.mkG ?_ | refine LoadsG.mkG ?_ | refine AtG.mkG ?_ | refine StoreG.mkG ?_ | refine CondG.mkG ?_ | fail); (all_goals (try dsimp only))
    exact hK
  | n + 1, m, hn, hm, hK => by
    obtain ⟨m, rfl⟩ : ∃ k, m = k + 1 := ⟨m - 1, by omega⟩
    have ih := seenL6_run hat hv e0 n m (by omega) (by omega)
    have hb := hv.bound
    rcases hv.cases with ⟨q1, q2⟩ | ⟨o', q1, q2⟩ | ⟨o', off, kn, c, e, q1, h2, h3, h5⟩
    · rw [q2] at hn; simp at hn
    · rw [q2] at hn; simp at hn
    · have hc := h5 n (by omega)
      rw [s_ops_seenL6_succ]
      unfold s_ops_seenL6B
      rw [q1] at hat
      have e1 : (((n + 1 : Nat) : Int) - 1) = (n : Int) := by omega
      have hix : ix o.seen n = o.seen[n] := getD_in (by omega)
      unfold trimN at hK
      rw [hix] at hK
      dsimp only
      (try unfold vMov); repeat' (first | refine Step.imp ?_ | (refine Way.mk (fun hp => ?_) (fun hp => ?_) <;> first | contradiction | (exfalso; omega) | skip) | refine LoadG.mk (by simp (disch := (first | omega | (simp only [Hp.next_new, Hp.next_put]; omega))) only [Hp.at_new_self, Hp.at_put_self, Hp.at_new_lt, Hp.at_put_ne, hat] <;> rfl) (by simp only [cellAt_row', setL_cons0, setL_succ, Nat.reduceAdd, Nat.reduceMul, Nat.zero_add, Nat.add_zero, List.getElem?_cons_succ, List.getElem?_cons_zero]; rfl) ?_ | refine LoadsG.mk (by simp (disch := (first | omega | (simp only [Hp.next_new, Hp.next_put]; omega))) only [Hp.at_new_self, Hp.at_put_self, Hp.at_new_lt, Hp.at_put_ne, hat] <;> rfl) (by rfl) ?_ | refine AtG.mkG ?_ | refine StoreG.mk (by simp (disch := (first | omega | (simp only [Hp.next_new, Hp.next_put]; omega))) only [Hp.at_new_self, Hp.at_put_self, Hp.at_new_lt, Hp.at_put_ne, hat] <;> rfl) (by first | omega | (simp; done) | (simp; omega)) ?_ | refine CondG.mkG ?_ | (refine LoadG.mk2 h3 hc (by omega) ?_) | fail); (all_goals (try dsimp only))
      · rw [e1]
        rw [if_pos hp] at hK
        exact ih hK
      · rw [if_neg hp] at hK
        exact hK
theorem seenL2_run {v : AV} {l : List Int} (hv : VecH h v l) (t1 : AV) (e1 : Hp → Prop) : ∀ (d k m : Nat), k + d = l.length → d < m → (allN (fun i => okNum (ix l i)) k d = false → K (.bool false) h) →
    (allN (fun i => okNum (ix l i)) k d = true → e1 h) → s_ops_seenL2 cf fuel K e1 t1 v (I l.length) m (I k) h
  | 0, k, m, hn, hm, hf, hK => by
    obtain ⟨m, rfl⟩ : ∃ k, m = k + 1 := ⟨m - 1, by omega⟩
    rw [s_ops_seenL2_succ]
    unfold s_ops_seenL2B
    dsimp only
    (try unfold vMov); repeat' (first | refine Step.imp ?_ | (refine Way.mk (fun hp => ?_) (fun hp => ?_) <;> first | contradiction | (exfalso; omega) | skip) | refine LoadG.mkG ?_ | refine LoadsG.mkG ?_ | refine AtG.mkG ?_ | refine StoreG.mkG ?_ | refine CondG.mkG ?_ | fail); (all_goals (try dsimp only))
    exact hK rfl
  | d + 1, k, m, hn, hm, hf, ht => by
    obtain ⟨m, rfl⟩ : ∃ k, m = k + 1 := ⟨m - 1, by omega⟩
    have hb := hv.bound
    rcases hv.cases with ⟨rfl, rfl⟩ | ⟨o, rfl, rfl⟩ | ⟨o, off, kn, c, e, rfl, h2, h3, h5⟩
    · simp at hn
    · simp at hn
    · have hc := h5 k (by omega)
      have hix : ix l k = l[k] := getD_in (by omega)
      have hall : allN (fun i => okNum (ix l i)) k (d + 1) = (okNum l[k] && allN (fun i => okNum (ix l i)) (k + 1) d) := by
        show (okNum (ix l k) && _) = _
        rw [hix]
      rw [hall] at hf ht
      have e2 : ((k : Int) + 1) = ((k + 1 : Nat) : Int) := by omega
      have ih := seenL2_run hv t1 e1 d (k + 1) m (by omega) (by omega)
      rw [s_ops_seenL2_succ]
      unfold s_ops_seenL2B
      dsimp only
      (try unfold vMov); repeat' (first | refine Step.imp ?_ | (refine Way.mk (fun hp => ?_) (fun hp => ?_) <;> first | contradiction | (exfalso; omega) | skip) | refine LoadG.mkG ?_ | refine LoadsG.mkG ?_ | refine AtG.mkG ?_ | refine StoreG.mkG ?_ | refine CondG.mkG ?_ | (refine LoadG.mk2 h3 hc (by omega) ?_) | fail); (all_goals (try dsimp only))
      · exact hf (by rw [okNum_f (.inl hp)]; rfl)
      · exact hf (by rw [okNum_f (.inr hp)]; rfl)
      · rw [e2]
        have hok : okNum l[k] = true := okNum_t (by omega) (by omega)
        rw [hok, Bool.true_and] at hf ht
        exact ih hf ht
theorem allN_take (l : List Int) (N : Nat) (p : Int → Bool) : ∀ (d k : Nat), k + d ≤ N → allN (fun i => p (ix (l.take N) i)) k d = allN (fun i => p (ix l i)) k d
  | 0, k, _ => rfl
  | d + 1, k, hk => by
    have : ix (l.take N) k = ix l k := by
      unfold ix
      rw [List.getD_eq_getElem?_getD, List.getD_eq_getElem?_getD, List.getElem?_take, if_pos (by omega)]
    show (p (ix (l.take N) k) && _) = (p (ix l k) && _)
    rw [this, allN_take l N p d (k + 1) (by omega)]
theorem seen_run (hA : cf 62 = cAt) {ca : List AV} {o : FOp} (ho : OpH h ca o) (hq : 1 ≤ o.seq ∧ o.seq ≤ 1152921504606846976) (hf : o.seen.length + 70 < fuel) (hK : ∀ h', Ext h h' → K (.bool (seenO o)) h') : s_ops_seen cf fuel (.agg ca) h K := by
  obtain ⟨vd, vs, rfl, hd, hs, hn⟩ := ho
  unfold s_ops_seen
  rw [opFlat]
  (try unfold vMov); repeat' (first | refine Step.imp ?_ | (refine Way.mk (fun hp => ?_) (fun hp => ?_) <;> first | contradiction | (exfalso; omega) | skip) | refine LoadG.mkG ?_ | refine LoadsG.mkG ?_ | refine AtG.mkG ?_ | refine StoreG.mkG ?_ | refine CondG.mkG ?_ | fail); (all_goals (try dsimp only))
  rw [hs.len]
  dsimp only
  have x1 : Ext h (h.new ⟨true, 11, .row [I o.t, I o.n, I o.seq, I o.kind, I o.ot, I o.on, I o.pt, I o.pn, S o.name, vd, vs]⟩) := (by repeat (first | exact Ext.refl _ | assumption | apply Ext.new | (refine Ext.put ?_ _ (by first | omega | (simp; done) | (simp; omega)))))
  have hat := Hp.at_new_self h ⟨true, 11, .row [I o.t, I o.n, I o.seq, I o.kind, I o.ot, I o.on, I o.pt, I o.pn, S o.name, vd, vs]⟩
  generalize h.new ⟨true, 11, .row [I o.t, I o.n, I o.seq, I o.kind, I o.ot, I o.on, I o.pt, I o.pn, S o.name, vd, vs]⟩ = h1 at x1 hat ⊢
  have hs1 := hs.mono x1
  have hle := trimN_le o.seen o.seen.length
  refine seenL6_run cf fuel hat hs1 _ o.seen.length fuel (Nat.le_refl _) (by omega) ?_
  unfold s_ops_seenE0
  (try unfold vMov); repeat' (first | refine Step.imp ?_ | (refine Way.mk (fun hp => ?_) (fun hp => ?_) <;> first | contradiction | (exfalso; omega) | skip) | refine LoadG.mk (by simp (disch := (first | omega | (simp only [Hp.next_new, Hp.next_put]; omega))) only [Hp.at_new_self, Hp.at_put_self, Hp.at_new_lt, Hp.at_put_ne, hat] <;> rfl) (by simp only [cellAt_row', setL_cons0, setL_succ, Nat.reduceAdd, Nat.reduceMul, Nat.zero_add, Nat.add_zero, List.getElem?_cons_succ, List.getElem?_cons_zero]; rfl) ?_ | refine LoadsG.mk (by simp (disch := (first | omega | (simp only [Hp.next_new, Hp.next_put]; omega))) only [Hp.at_new_self, Hp.at_put_self, Hp.at_new_lt, Hp.at_put_ne, hat] <;> rfl) (by rfl) ?_ | refine AtG.mkG ?_ | refine StoreG.mk (by simp (disch := (first | omega | (simp only [Hp.next_new, Hp.next_put]; omega))) only [Hp.at_new_self, Hp.at_put_self, Hp.at_new_lt, Hp.at_put_ne, hat] <;> rfl) (by first | omega | (simp; done) | (simp; omega)) ?_ | refine CondG.mkG ?_ | fail); (all_goals (try dsimp only))
  · refine fin hK ?_ x1
    rw [seenO_f1 o (by unfold mayV; rw [decide_eq_false (by omega), Bool.false_and])]
  · refine cut_vec hs1 (trimN o.seen o.seen.length) hle (fun v' hv' => ?_)
    try dsimp only
    rw [hv'.len]
    try dsimp only
    have hlt : (o.seen.take (trimN o.seen o.seen.length)).length = trimN o.seen o.seen.length := by simp; omega
    refine seenL2_run cf fuel hv' _ _ (o.seen.take (trimN o.seen o.seen.length)).length 0 fuel (by omega) (by omega) (fun q => ?_) (fun q => ?_)
    · rw [hlt, allN_take o.seen _ okNum _ 0 (by omega)] at q
      refine fin hK ?_ x1
      rw [seenO_f1 o (by unfold mayV; rw [decide_eq_true (by omega), Bool.true_and, q])]
    · rw [hlt, allN_take o.seen _ okNum _ 0 (by omega)] at q
      have hm : mayV o.seen = true := by unfold mayV; rw [decide_eq_true (by omega), Bool.true_and, q]
      unfold s_ops_seenE1
      (try unfold vMov); repeat' (first | refine Step.imp ?_ | (refine Way.mk (fun hp => ?_) (fun hp => ?_) <;> first | contradiction | (exfalso; omega) | skip) | refine LoadG.mk (by simp (disch := (first | omega | (simp only [Hp.next_new, Hp.next_put]; omega))) only [Hp.at_new_self, Hp.at_put_self, Hp.at_new_lt, Hp.at_put_ne, hat] <;> rfl) (by simp only [cellAt_row', setL_cons0, setL_succ, Nat.reduceAdd, Nat.reduceMul, Nat.zero_add, Nat.add_zero, List.getElem?_cons_succ, List.getElem?_cons_zero]; rfl) ?_ | refine LoadsG.mk (by simp (disch := (first | omega | (simp only [Hp.next_new, Hp.next_put]; omega))) only [Hp.at_new_self, Hp.at_put_self, Hp.at_new_lt, Hp.at_put_ne, hat] <;> rfl) (by rfl) ?_ | refine AtG.mkG ?_ | refine StoreG.mk (by simp (disch := (first | omega | (simp only [Hp.next_new, Hp.next_put]; omega))) only [Hp.at_new_self, Hp.at_put_self, Hp.at_new_lt, Hp.at_put_ne, hat] <;> rfl) (by first | omega | (simp; done) | (simp; omega)) ?_ | refine CondG.mkG ?_ | (refine cAt_go hA hs1 ?_) | fail); (all_goals (try dsimp only))
      · exact fin hK (by rw [seenO_t o hm hp]) x1
      · exact fin hK (by rw [seenO_f2 o hp]) x1
theorem earlier_run (hV : cf 105 = cIdB validB) (hL : cf 136 = cIdB2 lessI) {t n : Int} {ca : List AV} {o : FOp} (ho : OpH h ca o) (hK : ∀ h', Ext h h' → K (.bool (olderB t n o.t o.n)) h') : s_ops_earlier cf fuel (.agg [I t, I n]) (.agg ca) h K := by
  obtain ⟨vd, vs, rfl, hd, hs, hn⟩ := ho
  unfold s_ops_earlier
  rw [opFlat]
  (try unfold vMov); repeat' (first | refine Step.imp ?_ | (refine Way.mk (fun hp => ?_) (fun hp => ?_) <;> first | contradiction | (exfalso; omega) | skip) | refine LoadG.mkG ?_ | refine LoadsG.mkG ?_ | refine AtG.mkG ?_ | refine StoreG.mkG ?_ | refine CondG.mkG ?_ | (refine cIdB_go hV (fun hp => ?_) (fun hp => ?_)) | (refine cIdB2_go hL (fun hp => ?_) (fun hp => ?_)) | fail); (all_goals (try dsimp only))
  all_goals (refine fin hK ?_ (by repeat (first | exact Ext.refl _ | assumption | apply Ext.new | (refine Ext.put ?_ _ (by first | omega | (simp; done) | (simp; omega))))); simp_all [olderB])
set_option maxHeartbeats 4000000 in
theorem opsKind_run (hN : cf 107 = cS nameE) (hR : cf 85 = cConst (.agg [I 0, I 0])) (hT : cf 109 = cConst (.agg [I 0, I 1])) (hE : cf 108 = cEarlier)
    {o : FOp} {vd vs : AV} {p : Nat} (hat : h.at p = some ⟨true, 11, .row [I o.t, I o.n, I o.seq, I o.kind, I o.ot, I o.on, I o.pt, I o.pn, S o.name, vd, vs]⟩) (ho : OpH h [I o.t, I o.n, I o.seq, I o.kind, I o.ot, I o.on, I o.pt, I o.pn, S o.name, vd, vs] o) (hd : ByH h vd o.data) (hn : o.name.length ≤ 140737488355328) (hK : K (.bool (kindOK o)) h) : s_ops_MayB34 cf fuel K (.ptr p 0) h := by
  unfold s_ops_MayB34 s_ops_MayB25 s_ops_MayB24
  dsimp only
  (try unfold vMov); repeat' (first | refine Step.imp ?_ | (refine Way.mk (fun hp => ?_) (fun hp => ?_) <;> first | contradiction | (exfalso; omega) | skip) | refine LoadG.mk (by simp (disch := (first | omega | (simp only [Hp.next_new, Hp.next_put]; omega))) only [Hp.at_new_self, Hp.at_put_self, Hp.at_new_lt, Hp.at_put_ne, hat] <;> rfl) (by simp only [cellAt_row', setL_cons0, setL_succ, Nat.reduceAdd, Nat.reduceMul, Nat.zero_add, Nat.add_zero, List.getElem?_cons_succ, List.getElem?_cons_zero]; rfl) ?_ | refine LoadsG.mk (by simp (disch := (first | omega | (simp only [Hp.next_new, Hp.next_put]; omega))) only [Hp.at_new_self, Hp.at_put_self, Hp.at_new_lt, Hp.at_put_ne, hat] <;> rfl) (by rfl) ?_ | refine AtG.mkG ?_ | refine StoreG.mk (by simp (disch := (first | omega | (simp only [Hp.next_new, Hp.next_put]; omega))) only [Hp.at_new_self, Hp.at_put_self, Hp.at_new_lt, Hp.at_put_ne, hat] <;> rfl) (by first | omega | (simp; done) | (simp; omega)) ?_ | refine CondG.mkG ?_ | (refine len_by hd ?_) | (refine cS_go hN hn ?_) | (refine cConst_go hR ?_) | (refine cConst_go hT ?_) | (refine cEarlier_go hE ho (fun hp => ?_) (fun hp => ?_)) | fail); (all_goals (try dsimp only))
  all_goals
    refine (congrArg (fun v => K v h) ?_).mpr hK
    try simp only [by0] at *
    clear hK hat ho hR hT hE hN hd
    (simp_all [kindOK, rootB, trashB, sameI]) <;> omega
theorem opsMay_run (hV : cf 105 = cIdB validB) (hS : cf 106 = cSeen) (hN : cf 107 = cS nameE) (hR : cf 85 = cConst (.agg [I 0, I 0])) (hT : cf 109 = cConst (.agg [I 0, I 1])) (hE : cf 108 = cEarlier)
    {ca : List AV} {o : FOp} (ho : OpH h ca o) (hK : ∀ h', Ext h h' → K (.bool (mayO o)) h') : s_ops_May cf fuel (.agg ca) h K := by
  have ho' := ho
  obtain ⟨vd, vs, rfl, hd, hs, hn⟩ := ho
  unfold s_ops_May
  rw [opFlat]
  rw [opFlat] at ho'
  (try unfold vMov); repeat' (first | refine Step.imp ?_ | (refine Way.mk (fun hp => ?_) (fun hp => ?_) <;> first | contradiction | (exfalso; omega) | skip) | refine LoadG.mkG ?_ | refine LoadsG.mkG ?_ | refine AtG.mkG ?_ | refine StoreG.mkG ?_ | refine CondG.mkG ?_ | (refine cIdB_go hV (fun hp => ?_) (fun hp => ?_)) | (refine cSeen_go hS (ho'.mono (by repeat (first | exact Ext.refl _ | assumption | apply Ext.new | (refine Ext.put ?_ _ (by first | omega | (simp; done) | (simp; omega)))))) ⟨by omega, by omega⟩ (fun hp => ?_) (fun hp => ?_)) | fail); (all_goals (try dsimp only))
  all_goals first
    | (refine fin hK ?_ (by repeat (first | exact Ext.refl _ | assumption | apply Ext.new | (refine Ext.put ?_ _ (by first | omega | (simp; done) | (simp; omega)))))
       rw [mayO_f o (by first | exact .inl hp | exact .inr (.inl hp) | exact .inr (.inr (.inl hp)) | exact .inr (.inr (.inr (.inl hp))))]
       done)
    | (refine opsKind_run cf fuel hN hR hT hE (vd := vd) (vs := vs) (by rw [Hp.at_new_self]) (ho'.mono (by repeat (first | exact Ext.refl _ | assumption | apply Ext.new | (refine Ext.put ?_ _ (by first | omega | (simp; done) | (simp; omega)))))) (hd.mono (by repeat (first | exact Ext.refl _ | assumption | apply Ext.new | (refine Ext.put ?_ _ (by first | omega | (simp; done) | (simp; omega)))))) hn ?_
       refine fin hK ?_ (by repeat (first | exact Ext.refl _ | assumption | apply Ext.new | (refine Ext.put ?_ _ (by first | omega | (simp; done) | (simp; omega)))))
       rw [mayO_k o (by assumption) (by assumption) (by assumption) (by assumption)])
end
end Lg

namespace Lg
set_option linter.unusedSimpArgs false
set_option linter.unusedVariables false
set_option maxRecDepth 100000
open Go Go.Am
open Go.Proofs.Ytnhamanffojhfaa.shl
/-- How many of a sorted list are ahead of a stamp. -/
def ahead (t n : Int) (a : FOp) : Bool := lessI a.t a.n t n
def posS (os : List FOp) (t n : Int) : Nat := (os.takeWhile (ahead t n)).length
def foundAt (os : List FOp) (P : Nat) (t n : Int) : Bool := match os[P]? with | some a => sameI a.t a.n t n | none => false
/-- By rising stamps. -/
def Rising (os : List FOp) : Prop := os.Pairwise fun a b => lessI a.t a.n b.t b.n = true
theorem lessI_trans {a b c d e f : Int} (h1 : lessI a b c d = true) (h2 : lessI c d e f = true) : lessI a b e f = true := by
  simp only [lessI, Bool.or_eq_true, Bool.and_eq_true, decide_eq_true_eq] at *
  omega
theorem posS_le (os : List FOp) (t n : Int) : posS os t n ≤ os.length := by
  unfold posS
  exact (List.takeWhile_sublist _).length_le
theorem posS_iff {os : List FOp} (hr : Rising os) (t n : Int) : ∀ k (hk : k < os.length), (ahead t n os[k] = true ↔ k < posS os t n) := by
  induction os with
  | nil => intro k hk; simp at hk
  | cons a l ih =>
    intro k hk
    have hp := List.pairwise_cons.1 hr
    unfold posS
    rw [List.takeWhile_cons]
    cases ha : ahead t n a with
    | true =>
      rw [if_pos rfl, List.length_cons]
      cases k with
      | zero => simp [ha]
      | succ k =>
        have := ih hp.2 k (by simpa using hk)
        simp only [List.getElem_cons_succ]
        rw [this]
        unfold posS
        omega
    | false =>
      rw [if_neg (by simp)]
      simp only [List.length_nil, Nat.not_lt_zero, iff_false]
      cases k with
      | zero => simp [ha]
      | succ k =>
        simp only [List.getElem_cons_succ]
        intro q
        have hk' : k < l.length := by simpa using hk
        have := hp.1 l[k] (List.getElem_mem hk')
        unfold ahead at q ha
        rw [lessI_trans this q] at ha
        cases ha
def cCmpV : ConD := fun args h K => ∃ t n q vs vd t' n', args = [.agg [I t, I n, I q, vs, vd], .agg [I t', I n']] ∧ K (I (cmpI t n t' n')) h
theorem cCmpV_go {cf : CallK} {g : FuncId} (hg : cf g = cCmpV) {t n q : Int} {vs vd : AV} {t' n' : Int} {h : Hp} {K : AV → Hp → Prop} (hK : K (I (cmpI t n t' n')) h) : cf g [.agg [I t, I n, I q, vs, vd], .agg [I t', I n']] h K := by
  rw [hg]; exact ⟨t, n, q, vs, vd, t', n', rfl, hK⟩
section
variable (cf : CallK) (fuel : Nat) {h : Hp} {K : AV → Hp → Prop}
theorem BSL9_run (hC : cf 57 = cCmpV) {v : AV} {els : List (List AV)} {os : List FOp} (hr : Rd h 5 v els) (ho : VersR h els os) {t n : Int} {p : Nat} (hat0 : h.at p = some ⟨true, 2, .row [I t, I n]⟩) (e0 : AV → Hp → Prop) {P : Nat} (hP : ∀ k (hk : k < os.length), (ahead t n os[k] = true ↔ k < P)) :
    ∀ (d i j fm : Nat), i ≤ P → P ≤ j → j ≤ els.length → j - i ≤ d → d < fm → e0 (I P) h → s_slices_BinarySearchFunc_api_Version_api_Version_api_IDL9 cf fuel e0 v (.func 57 [] []) (.ptr p 0) (I els.length) fm (I i) (I j) h
  | d, i, j, fm, hi, hj, hl, hd, hf, hK => by
    obtain ⟨fm, rfl⟩ : ∃ k, fm = k + 1 := ⟨fm - 1, by omega⟩
    rw [s_slices_BinarySearchFunc_api_Version_api_Version_api_IDL9_succ]
    unfold s_slices_BinarySearchFunc_api_Version_api_Version_api_IDL9B s_slices_BinarySearchFunc_api_Version_api_Version_api_IDB13
    dsimp only
    have hb := hr.bound
    by_cases hij : i < j
    · obtain ⟨d, rfl⟩ : ∃ k, d = k + 1 := ⟨d - 1, by omega⟩
      have hm : (i + j) / 2 < els.length := by omega
      have hos : (i + j) / 2 < os.length := by rw [← ho.1]; exact hm
      obtain ⟨o, off, kn, c, e, rfl, hat, hc⟩ := hr.openS hm
      have ck := hc ((i + j) / 2) hm
      obtain ⟨vs, vd, hcs, -, -⟩ := ho.2 ((i + j) / 2) hm hos
      rw [hcs] at ck
      have hPm := hP ((i + j) / 2) hos
      have hle := cmpI_less os[(i + j) / 2].t os[(i + j) / 2].n t n
      have e2 : ((i : Int) + (j : Int)) / 2 = (((i + j) / 2 : Nat) : Int) := by omega
      have e1 : ((i : Int) + (j : Int)) / 2 + 1 = (((i + j) / 2 + 1 : Nat) : Int) := by omega
      (try unfold vMov); repeat' (first | refine Step.imp ?_ | (refine Way.mk (fun hp => ?_) (fun hp => ?_) <;> first | contradiction | (exfalso; omega) | skip) | refine LoadG.mk (by simp (disch := (first | omega | (simp only [Hp.next_new, Hp.next_put]; omega))) only [Hp.at_new_self, Hp.at_put_self, Hp.at_new_lt, Hp.at_put_ne, hat0] <;> rfl) (by simp only [cellAt_row', setL_cons0, setL_succ, Nat.reduceAdd, Nat.reduceMul, Nat.zero_add, Nat.add_zero, List.getElem?_cons_succ, List.getElem?_cons_zero]; rfl) ?_ | refine LoadsG.mk (by simp (disch := (first | omega | (simp only [Hp.next_new, Hp.next_put]; omega))) only [Hp.at_new_self, Hp.at_put_self, Hp.at_new_lt, Hp.at_put_ne, hat0] <;> rfl) (by rfl) ?_ | refine AtG.mkG ?_ | refine StoreG.mk (by simp (disch := (first | omega | (simp only [Hp.next_new, Hp.next_put]; omega))) only [Hp.at_new_self, Hp.at_put_self, Hp.at_new_lt, Hp.at_put_ne, hat0] <;> rfl) (by first | omega | (simp; done) | (simp; omega)) ?_ | refine CondG.mkG ?_ | (refine LoadsG.mk2 hat ck (by omega) ?_) | (refine cCmpV_go hC ?_) | fail); (all_goals (try dsimp only))
      · rw [e1]
        have hq : ahead t n os[(i + j) / 2] = true := by unfold ahead; rw [← hle]; exact decide_eq_true hp
        exact BSL9_run hC hr ho hat0 e0 hP d ((i + j) / 2 + 1) j fm (by have := hPm.1 hq; omega) hj hl (by omega) (by omega) hK
      · rw [e2]
        have hq : ¬ ahead t n os[(i + j) / 2] = true := by unfold ahead; rw [← hle, decide_eq_false hp]; simp
        exact BSL9_run hC hr ho hat0 e0 hP d i ((i + j) / 2) fm hi (by
          have : ¬ (i + j) / 2 < P := fun q => hq (hPm.2 q)
          omega) (by omega) (by omega) (by omega) hK
    · have : i = P := by omega
      subst this
      (try unfold vMov); repeat' (first | refine Step.imp ?_ | (refine Way.mk (fun hp => ?_) (fun hp => ?_) <;> first | contradiction | (exfalso; omega) | skip) | refine LoadG.mkG ?_ | refine LoadsG.mkG ?_ | refine AtG.mkG ?_ | refine StoreG.mkG ?_ | refine CondG.mkG ?_ | fail); (all_goals (try dsimp only))
      exact hK
theorem BS_run (hC : cf 57 = cCmpV) {v : AV} {els : List (List AV)} {os : List FOp} (hr : Rd h 5 v els) (ho : VersR h els os) (hri : Rising os) (t n : Int) (hf : els.length + 1 < fuel) (hK : ∀ h', Ext h h' → K (.tup [I (posS os t n), .bool (foundAt os (posS os t n) t n)]) h') :
    s_slices_BinarySearchFunc_api_Version_api_Version_api_ID cf fuel v (.agg [I t, I n]) (.func 57 [] []) h K := by
  unfold s_slices_BinarySearchFunc_api_Version_api_Version_api_ID
  (try unfold vMov); repeat' (first | refine Step.imp ?_ | (refine Way.mk (fun hp => ?_) (fun hp => ?_) <;> first | contradiction | (exfalso; omega) | skip) | refine LoadG.mkG ?_ | refine LoadsG.mkG ?_ | refine AtG.mkG ?_ | refine StoreG.mkG ?_ | refine CondG.mkG ?_ | fail); (all_goals (try dsimp only))
  have x1 : Ext h (h.new ⟨true, 2, .row [I t, I n]⟩) := (by repeat (first | exact Ext.refl _ | assumption | apply Ext.new | (refine Ext.put ?_ _ (by first | omega | (simp; done) | (simp; omega)))))
  have hat0 := Hp.at_new_self h ⟨true, 2, .row [I t, I n]⟩
  generalize h.new ⟨true, 2, .row [I t, I n]⟩ = h1 at x1 hat0 ⊢
  rw [hr.len]
  dsimp only
  have hP := posS_iff hri t n
  have hle := posS_le os t n
  have hlo := ho.1
  have hb := hr.bound
  refine BSL9_run cf fuel hC (hr.mono x1) (ho.mono x1) hat0 _ hP els.length 0 els.length fuel (by omega) (by omega) (Nat.le_refl _) (by omega) (by omega) ?_
  unfold s_slices_BinarySearchFunc_api_Version_api_Version_api_IDE0
  by_cases hp1 : posS os t n < els.length
  · have hos : posS os t n < os.length := by omega
    obtain ⟨o, off, kn, c, e, rfl, hat, hc⟩ := (hr.mono x1).openS hp1
    have ck := hc (posS os t n) hp1
    obtain ⟨vs, vd, hcs, -, -⟩ := ho.2 (posS os t n) hp1 hos
    rw [hcs] at ck
    have hfo : foundAt os (posS os t n) t n = sameI os[posS os t n].t os[posS os t n].n t n := by
      unfold foundAt; rw [List.getElem?_eq_getElem hos]
    rw [hfo, ← cmpI_same] at hK
    (try unfold vMov); repeat' (first | refine Step.imp ?_ | (refine Way.mk (fun hp => ?_) (fun hp => ?_) <;> first | contradiction | (exfalso; omega) | skip) | refine LoadG.mk (by simp (disch := (first | omega | (simp only [Hp.next_new, Hp.next_put]; omega))) only [Hp.at_new_self, Hp.at_put_self, Hp.at_new_lt, Hp.at_put_ne, hat0] <;> rfl) (by simp only [cellAt_row', setL_cons0, setL_succ, Nat.reduceAdd, Nat.reduceMul, Nat.zero_add, Nat.add_zero, List.getElem?_cons_succ, List.getElem?_cons_zero]; rfl) ?_ | refine LoadsG.mk (by simp (disch := (first | omega | (simp only [Hp.next_new, Hp.next_put]; omega))) only [Hp.at_new_self, Hp.at_put_self, Hp.at_new_lt, Hp.at_put_ne, hat0] <;> rfl) (by rfl) ?_ | refine AtG.mkG ?_ | refine StoreG.mk (by simp (disch := (first | omega | (simp only [Hp.next_new, Hp.next_put]; omega))) only [Hp.at_new_self, Hp.at_put_self, Hp.at_new_lt, Hp.at_put_ne, hat0] <;> rfl) (by first | omega | (simp; done) | (simp; omega)) ?_ | refine CondG.mkG ?_ | (refine LoadsG.mk2 hat ck (by omega) ?_) | (refine cCmpV_go hC ?_) | fail); (all_goals (try dsimp only))
    · refine fin hK ?_ x1
      rw [decide_eq_true hp]
    · refine fin hK ?_ x1
      rw [decide_eq_false hp]
  · have hfo : foundAt os (posS os t n) t n = false := by
      unfold foundAt; rw [List.getElem?_eq_none (by omega)]
    rw [hfo] at hK
    (try unfold vMov); repeat' (first | refine Step.imp ?_ | (refine Way.mk (fun hp => ?_) (fun hp => ?_) <;> first | contradiction | (exfalso; omega) | skip) | refine LoadG.mkG ?_ | refine LoadsG.mkG ?_ | refine AtG.mkG ?_ | refine StoreG.mkG ?_ | refine CondG.mkG ?_ | fail); (all_goals (try dsimp only))
    exact hK h1 x1
end
end Lg

namespace Lg
set_option linter.unusedSimpArgs false
set_option linter.unusedVariables false
set_option maxRecDepth 100000
open Go Go.Am
open Go.Proofs.Ytnhamanffojhfaa.shl
/-- Slices of a value lie at objects that have a property. -/
def SlQ (Q : Nat → Prop) (x : AV) : Prop := ∀ o off n kn c, x = .slice o off n kn c → Q o
theorem SlQ.mono {Q R : Nat → Prop} {x : AV} (h : SlQ Q x) (hq : ∀ o, Q o → R o) : SlQ R x := fun o off n kn c e => hq o (h o off n kn c e)
theorem SlQ.I (Q : Nat → Prop) (k : IntKind) (n : Int) : SlQ Q (.int k n) := fun o off m kn c e => by cases e
theorem SlQ.S (Q : Nat → Prop) (s : List UInt8) : SlQ Q (S s) := fun o off m kn c e => by unfold Go.Am.S at e; cases e
theorem SlQ.nil (Q : Nat → Prop) : SlQ Q .nilslice := fun o off m kn c e => by cases e
def cOf : ConD := fun args h K => ∃ ca a, args = [.agg ca] ∧ OpH h ca a ∧ ∀ cs h', Ext h h' → VerH h' cs a → (∀ x ∈ cs, SlQ (fun o => h.next ≤ o ∧ o < h'.next) x) → K (.agg cs) h'
theorem cOf_go {cf : CallK} {g : FuncId} (hg : cf g = cOf) {h : Hp} {ca : List AV} {a : FOp} {K : AV → Hp → Prop} (ha : OpH h ca a) (hK : ∀ cs h', Ext h h' → VerH h' cs a → (∀ x ∈ cs, SlQ (fun o => h.next ≤ o ∧ o < h'.next) x) → K (.agg cs) h') : cf g [.agg ca] h K := by rw [hg]; exact ⟨ca, a, rfl, ha, hK⟩
section
variable (cf : CallK) (fuel : Nat) {h : Hp} {K : AV → Hp → Prop}
theorem Of_run2 (hC : cf 61 = cClone) {ca : List AV} {a : FOp} (ha : OpH h ca a) (hK : ∀ cs h', Ext h h' → VerH h' cs a → (∀ x ∈ cs, SlQ (fun o => h.next ≤ o ∧ o < h'.next) x) → K (.agg cs) h') : s_content_Of cf fuel (.agg ca) h K := by
  obtain ⟨vd, vs, rfl, hd, hs, -⟩ := ha
  unfold s_content_Of opCells
  (try unfold vMov); repeat' (first | refine Step.imp ?_ | (refine Way.mk (fun hp => ?_) (fun hp => ?_) <;> first | contradiction | (exfalso; omega) | skip) | refine LoadG.mkG ?_ | refine LoadsG.mkG ?_ | refine AtG.mkG ?_ | refine StoreG.mkG ?_ | refine CondG.mkG ?_ | fail); (all_goals (try dsimp only))
  refine copyV (l := a.seen) (hs.mono (by repeat (first | exact Ext.refl _ | assumption | apply Ext.new | (refine Ext.put ?_ _ (by first | omega | (simp; done) | (simp; omega)))))) (fun v1 h1 x1 w1 f1 => ?_)
  have n1 := x1.next
  simp only [Hp.next_new] at n1
  have y1 : Ext h h1 := Ext.trans (by repeat (first | exact Ext.refl _ | assumption | apply Ext.new | (refine Ext.put ?_ _ (by first | omega | (simp; done) | (simp; omega))))) x1
  have a1 := x1.same h.next (by simp only [Hp.next_new]; omega)
  have a2 := x1.same (h.next + 1) (by simp only [Hp.next_new]; omega)
  have b1 : h1.at h.next = some ⟨true, 11, .row [I a.t, I a.n, I a.seq, I a.kind, I a.ot, I a.on, I a.pt, I a.pn, S a.name, vd, vs]⟩ := by
    rw [a1, Hp.at_new, if_neg (by simp only [Hp.next_new]; omega), Hp.at_new_self]
  have b2 : h1.at (h.next + 1) = some ⟨true, 5, .row [I 0, I 0, I 0, .nilslice, .nilslice]⟩ := by
    rw [a2]; exact Hp.at_new_self _ _
  have fd := hd.flat
  (try unfold vMov); repeat' (first | refine Step.imp ?_ | (refine Way.mk (fun hp => ?_) (fun hp => ?_) <;> first | contradiction | (exfalso; omega) | skip) | refine LoadG.mk (by simp (disch := (first | omega | (simp only [Hp.next_new, Hp.next_put]; omega))) only [Hp.at_new_self, Hp.at_put_self, Hp.at_new_lt, Hp.at_put_ne, b1] <;> rfl) (by simp only [cellAt_row', setL_cons0, setL_succ, Nat.reduceAdd, Nat.reduceMul, Nat.zero_add, Nat.add_zero, List.getElem?_cons_succ, List.getElem?_cons_zero]; rfl) ?_ | refine LoadsG.mk (by simp (disch := (first | omega | (simp only [Hp.next_new, Hp.next_put]; omega))) only [Hp.at_new_self, Hp.at_put_self, Hp.at_new_lt, Hp.at_put_ne, b1] <;> rfl) (by rfl) ?_ | refine AtG.mkG ?_ | refine StoreG.mk (by simp (disch := (first | omega | (simp only [Hp.next_new, Hp.next_put]; omega))) only [Hp.at_new_self, Hp.at_put_self, Hp.at_new_lt, Hp.at_put_ne, b1] <;> rfl) (by first | omega | (simp; done) | (simp; omega)) ?_ | refine CondG.mkG ?_ | (refine LoadsG.mk b1 (by rfl) ?_) | (refine LoadG.mk b1 (by rfl) ?_) | (refine CondG.mk (sameV_flat _ fd) ?_) | (refine CondG.mk (sameV_agg _ (by simp [flatV])) ?_) | fail); (all_goals (try dsimp only))
  refine cClone_go hC (hd.mono y1) (fun v2 h2 x2 w2 f2 => ?_)
  have n2 := x2.next
  have c1 : h2.at h.next = some ⟨true, 11, .row [I a.t, I a.n, I a.seq, I a.kind, I a.ot, I a.on, I a.pt, I a.pn, S a.name, vd, vs]⟩ := by
    rw [x2.same _ (by omega)]; exact b1
  have c2 : h2.at (h.next + 1) = some ⟨true, 5, .row [I 0, I 0, I 0, .nilslice, .nilslice]⟩ := by
    rw [x2.same _ (by omega)]; exact b2
  have g1 := (w1.mono x2).flat
  have g2 := w2.flat
  have w1' := w1.mono x2
  have y2 : Ext h h2 := y1.trans x2
  have q1 : SlQ (fun o => h.next ≤ o ∧ o < h2.next) v1 := fun o off n kn c e => ⟨by
    have := f1 o off n kn c e
    simp only [Hp.next_new] at this
    omega, VecH.lt w1' e⟩
  have q2 : SlQ (fun o => h.next ≤ o ∧ o < h2.next) v2 := fun o off n kn c e => ⟨by
    have := f2 o off n kn c e
    omega, ByH.lt w2 e⟩
  have fr : ∀ ob, ∀ x ∈ [I a.t, I a.n, I a.seq, v1, v2], SlQ (fun o => h.next ≤ o ∧ o < (h2.put (h.next + 1) (some ob)).next) x := fun ob x hx => by
    simp only [List.mem_cons, List.not_mem_nil, or_false] at hx
    rcases hx with rfl | rfl | rfl | rfl | rfl
    · exact SlQ.I _ _ _
    · exact SlQ.I _ _ _
    · exact SlQ.I _ _ _
    · exact q1
    · exact q2
  have fin2 : ∀ ob, VerH (h2.put (h.next + 1) (some ob)) [I a.t, I a.n, I a.seq, v1, v2] a := fun ob =>
    ⟨v1, v2, rfl, w1'.put f1 (by simp only [Hp.next_new]; omega) _, w2.put f2 (by omega) _⟩
  have y3 : ∀ ob, Ext h (h2.put (h.next + 1) ob) := fun ob => y2.put _ (by omega)
  rcases w1.shape with rfl | ⟨o1, rfl⟩ | ⟨o1, off1, k1, kn1, cc1, rfl⟩ <;> rcases w2.shape with rfl | ⟨o2, rfl⟩ | ⟨o2, off2, k2, kn2, cc2, rfl⟩
  all_goals
    ((try unfold vMov); repeat' (first | refine Step.imp ?_ | (refine Way.mk (fun hp => ?_) (fun hp => ?_) <;> first | contradiction | (exfalso; omega) | skip) | refine LoadG.mkG ?_ | refine LoadsG.mkG ?_ | refine AtG.mkG ?_ | refine StoreG.mkG ?_ | refine CondG.mkG ?_ | (refine LoadsG.mk c1 (by rfl) ?_) | (refine LoadG.mk c1 (by rfl) ?_) | (refine StoreG.mk c2 ⟨rfl, Nat.le_refl 5⟩ ?_) | fail); (all_goals (try dsimp only))
     exact hK _ _ (y3 _) (fin2 _) (fr _))
end
end Lg

namespace Lg
set_option linter.unusedSimpArgs false
set_option linter.unusedVariables false
set_option maxRecDepth 100000
open Go Go.Am
theorem take_flat {k : Nat} : ∀ (els : List (List AV)) (_ : ∀ e ∈ els, e.length = k) (p : Nat), els.flatten.take (p * k) = (els.take p).flatten ∧ els.flatten.drop (p * k) = (els.drop p).flatten
  | [], _, p => by simp
  | x :: l, he, 0 => by simp
  | x :: l, he, p + 1 => by
    have h1 := he x (by simp)
    have ih := take_flat l (fun e h => he e (by simp [h])) p
    have e1 : (p + 1) * k = x.length + p * k := by rw [h1, Nat.add_mul, Nat.one_mul, Nat.add_comm]
    rw [e1, List.flatten_cons, List.take_succ_cons, List.drop_succ_cons, List.flatten_cons]
    constructor
    · rw [List.take_length_add_append, ih.1]
    · rw [List.drop_length_add_append, ih.2]
theorem Cells.notBy {ob : AObj} {cs : List AV} (h : Cells ob cs) : Go.Am.notBy ob = true := by
  cases ob with
  | byts n z => exact h.1.elim
  | row l => rfl
  | big n t d => rfl
  | sit n x p => rfl
  | map es c => rfl
  | mit m s l c => rfl
theorem SlN.flat {h : Hp} {esz : Nat} {v : AV} {els : List (List AV)} {B : Nat} (hv : SlN h esz v els B) : flatV v = true := by
  rcases hv with ⟨rfl, _⟩ | ⟨o, ob, rfl, _⟩ <;> rfl
theorem ins_go {cf : CallK} {g : FuncId} {k bs : Nat} (hg : cf g = insH k bs) {h : Hp} {v : AV} {els : List (List AV)} {B : Nat} (hv : SlN h k v els B) {p : Nat} (hp : p ≤ els.length) {vo : Nat} {cs : List AV} {kn' : Bool} {c' : Nat} (hvo : h.at vo = some ⟨true, k, .row cs⟩) (hcs : cs.length = k)
    (hne : ∀ o off n kn c, v = .slice o off n kn c → o ≠ vo) (hb : (els.length + 1) * bs ≤ 140737488355328) (hb2 : els.length ≤ 1000000) {K : AV → Hp → Prop}
    (hK : ∀ v' h', h.next < h'.next → (∀ q, q < h.next → (∀ off n kn c, v ≠ .slice q off n kn c) → h'.at q = h.at q) → SlN h' k v' (els.take p ++ cs :: els.drop p) h.next → K v' h') : cf g [v, .int .i64 p, .slice vo 0 1 kn' c'] h K := by
  have hc : cellsO (.row cs) (1 * k) 0 = some cs := by
    rw [cellsO_cells (Cells.row cs) _ 0 (by omega), List.drop_zero, List.take_of_length_le (by omega)]
  have hbs : bs ≤ 140737488355328 := by
    have : 1 * bs ≤ (els.length + 1) * bs := Nat.mul_le_mul_right _ (by omega)
    omega
  rw [hg]
  rcases hv with ⟨rfl, rfl⟩ | ⟨o, ob, rfl, h1, h2, h3, h4, h5, h6⟩
  · obtain rfl : p = 0 := by simpa using hp
    show gd (kindEq .i64 .i64) (gd (Nat.blt 0 1) (asOpt (h.at vo) fun ev => gd (Nat.beq ev.esz k) (cellsK ev.obj (1 * k) 0 fun new => gd (Nat.beq 0 0 && (Nat.ble (1 * bs) 140737488355328 && Nat.ble 1 140737488355328)) (rowK false new fun ob => finK k 1 h ob K))))
    refine gd_iff.2 ⟨rfl, gd_iff.2 ⟨rfl, ?_⟩⟩
    rw [hvo, asOpt_some]
    refine gd_iff.2 ⟨by simp, ?_⟩
    rw [cellsK_O, hc, asOpt_some]
    refine gd_iff.2 ⟨by simp; omega, rowK_intro _ _ fun ob hob => ?_⟩
    unfold finK
    rw [newK_eq']
    refine hK _ _ (by simp [Hp.next_new]) (fun q hq _ => by rw [Hp.at_new, if_neg (by omega)]) (.inr ⟨h.next, ob, rfl, Nat.le_refl _, by simp [Hp.next_new], Hp.at_new_self _ _, by simpa using hob, ?_, by simp⟩)
    intro e he
    simp at he
    rw [he, hcs]
  · have hn : 0 < els.length := List.length_pos_iff.2 h6
    have hov : ¬ vo = o := fun q => hne _ _ _ _ _ rfl q.symm
    show gd (kindEq .i64 .i64) (gd (Nat.blt 0 1) (asOpt (h.at vo) fun ev => gd (Nat.beq ev.esz k) (cellsK ev.obj (1 * k) 0 fun new => gd ((!false) && (((Nat.ble p els.length && notBy ev.obj) && (Nat.blt 0 els.length && !(Nat.beq vo o))) && (Nat.ble ((els.length + 1) * bs) 140737488355328 && Nat.ble (els.length + 1) 140737488355328)))
      (asOpt (h.at o) fun e => gd (notBy e.obj && (e.own && (Nat.beq e.esz k && Nat.ble 0 (0 * k)))) (cellsK e.obj (els.length * k) 0 fun old => putK h o none fun h => forceN (els.length + 1) fun N => rowK false (old.take (p * k) ++ (new ++ old.drop (p * k))) fun ob => finK k N h ob K)))))
    refine gd_iff.2 ⟨rfl, gd_iff.2 ⟨rfl, ?_⟩⟩
    rw [hvo, asOpt_some]
    refine gd_iff.2 ⟨by simp, ?_⟩
    rw [cellsK_O, hc, asOpt_some]
    refine gd_iff.2 ⟨?_, ?_⟩
    · have e1 : Nat.ble p els.length = true := Nat.ble_eq_true_of_le hp
      have e2 : Nat.blt 0 els.length = true := by simpa using hn
      have e3 : Nat.beq vo o = false := by
        cases q : Nat.beq vo o with
        | false => rfl
        | true => exact absurd (Nat.eq_of_beq_eq_true q) hov
      have e4 : Nat.ble ((els.length + 1) * bs) 140737488355328 = true := Nat.ble_eq_true_of_le hb
      have e5 : Nat.ble (els.length + 1) 140737488355328 = true := Nat.ble_eq_true_of_le (by omega)
      rw [e1, e2, e3, e4, e5]
      rfl
    · rw [h3, asOpt_some]
      refine gd_iff.2 ⟨by rw [Cells.notBy h4]; simp, ?_⟩
      have hfl := flat_len h5
      have hwh : els.flatten.take (els.length * k) = els.flatten := List.take_of_length_le (by omega)
      rw [cellsK_O, cellsO_cells h4 _ 0 (by omega), asOpt_some, putK_eq', forceN_eq, List.drop_zero, hwh]
      have hf := take_flat els h5 p
      rw [hf.1, hf.2]
      refine rowK_intro _ _ fun ob' hob => ?_
      unfold finK
      rw [newK_eq']
      refine hK _ _ (by simp [Hp.next_new, Hp.next_put]) (fun q hq hv => ?_) (.inr ⟨h.next, ob', ?_, Nat.le_refl _, by simp [Hp.next_new, Hp.next_put], Hp.at_new_self _ _, ?_, ?_, by simp⟩)
      · rw [Hp.at_new, if_neg (by simp only [Hp.next_put]; omega), Hp.at_put_ne _ (fun e => hv _ _ _ _ (by rw [e]))]
      · have : (els.take p ++ cs :: els.drop p).length = els.length + 1 := by simp; omega
        rw [this]; rfl
      · rw [List.flatten_append, List.flatten_cons]; exact hob
      · intro e he
        rcases List.mem_append.1 he with he | he
        · exact h5 e (List.mem_of_mem_take he)
        · rcases List.mem_cons.1 he with rfl | he
          · exact hcs
          · exact h5 e (List.mem_of_mem_drop he)
end Lg

namespace Lg
set_option linter.unusedSimpArgs false
set_option linter.unusedVariables false
set_option maxRecDepth 100000
open Go Go.Am
open Go.Proofs.Ytnhamanffojhfaa.shl
def insS (os : List FOp) (a : FOp) : List FOp := os.take (posS os a.t a.n) ++ a :: os.drop (posS os a.t a.n)
theorem insS_nil (a : FOp) : insS [] a = [a] := rfl
theorem insS_cons (b : FOp) (l : List FOp) (a : FOp) : insS (b :: l) a = if ahead a.t a.n b = true then b :: insS l a else a :: b :: l := by
  unfold insS posS
  rw [List.takeWhile_cons]
  cases ahead a.t a.n b with
  | true => simp
  | false => simp
theorem found_cons (b : FOp) (l : List FOp) (t n : Int) : foundAt (b :: l) (posS (b :: l) t n) t n = if ahead t n b = true then foundAt l (posS l t n) t n else sameI b.t b.n t n := by
  unfold foundAt posS
  rw [List.takeWhile_cons]
  cases ahead t n b with
  | true => simp
  | false => simp
theorem insS_mem (a : FOp) : ∀ (l : List FOp) (x : FOp), x ∈ insS l a ↔ x = a ∨ x ∈ l
  | [], x => by simp [insS_nil]
  | b :: l, x => by
    rw [insS_cons]
    split
    · rw [List.mem_cons, insS_mem a l x, List.mem_cons]
      constructor
      · rintro (h | h | h)
        · exact .inr (.inl h)
        · exact .inl h
        · exact .inr (.inr h)
      · rintro (h | h | h)
        · exact .inr (.inl h)
        · exact .inl h
        · exact .inr (.inr h)
    · simp
theorem insS_len (l : List FOp) (a : FOp) : (insS l a).length = l.length + 1 := by
  have := posS_le l a.t a.n
  unfold insS
  simp
  omega
theorem rising_ins (a : FOp) : ∀ (l : List FOp), Rising l → foundAt l (posS l a.t a.n) a.t a.n = false → Rising (insS l a)
  | [], _, _ => by rw [insS_nil]; exact List.pairwise_singleton _ _
  | b :: l, hr, hf => by
    have hp := List.pairwise_cons.1 hr
    rw [found_cons] at hf
    rw [insS_cons]
    by_cases q : ahead a.t a.n b = true
    · rw [if_pos q] at hf ⊢
      refine List.pairwise_cons.2 ⟨fun x hx => ?_, rising_ins a l hp.2 hf⟩
      rcases (insS_mem a l x).1 hx with rfl | hx
      · exact q
      · exact hp.1 x hx
    · rw [if_neg q] at hf ⊢
      have hab : lessI a.t a.n b.t b.n = true := by
        simp only [ahead, sameI, lessI, Bool.or_eq_true, Bool.and_eq_true, decide_eq_true_eq, Bool.and_eq_false_iff, decide_eq_false_iff_not] at *
        omega
      refine List.pairwise_cons.2 ⟨fun x hx => ?_, hr⟩
      rcases List.mem_cons.1 hx with rfl | hx
      · exact hab
      · exact lessI_trans hab (hp.1 x hx)
theorem rel_ins {α β : Type} {R : α → β → Prop} {x : α} {y : β} (hxy : R x y) : ∀ (A : List α) (B : List β) (P : Nat), A.length = B.length → (∀ j (h1 : j < A.length) (h2 : j < B.length), R A[j] B[j]) → P ≤ A.length →
    (A.take P ++ x :: A.drop P).length = (B.take P ++ y :: B.drop P).length ∧ ∀ j (h1 : j < (A.take P ++ x :: A.drop P).length) (h2 : j < (B.take P ++ y :: B.drop P).length), R (A.take P ++ x :: A.drop P)[j] (B.take P ++ y :: B.drop P)[j]
  | A, B, 0, hl, hr, _ => ⟨by simp [hl], fun j h1 h2 => by
    cases j with
    | zero => exact hxy
    | succ j => exact hr j (Nat.lt_of_succ_lt_succ (show j + 1 < A.length + 1 from h1)) (Nat.lt_of_succ_lt_succ (show j + 1 < B.length + 1 from h2))⟩
  | a :: A, b :: B, P + 1, hl, hr, hp => by
    have ih := rel_ins hxy A B P (by simpa using hl) (fun j h1 h2 => hr (j + 1) (Nat.succ_lt_succ h1) (Nat.succ_lt_succ h2)) (by simpa using hp)
    refine ⟨congrArg (· + 1) ih.1, fun j h1 h2 => ?_⟩
    cases j with
    | zero => exact hr 0 (Nat.succ_pos _) (Nat.succ_pos _)
    | succ j => exact ih.2 j (Nat.lt_of_succ_lt_succ (show j + 1 < (A.take P ++ x :: A.drop P).length + 1 from h1)) (Nat.lt_of_succ_lt_succ (show j + 1 < (B.take P ++ y :: B.drop P).length + 1 from h2))
  | [], _, P + 1, _, _, hp => by simp at hp
  | _ :: _, [], P + 1, hl, _, _ => by simp at hl

/-- A file that owns all that it speaks of. -/
def FileS (h : Hp) (fo : Nat) (os : List FOp) (F : Nat → Prop) : Prop :=
  ∃ v els, F fo ∧ (∀ q, F q → q < h.next) ∧ h.at fo = some ⟨true, 1, .row [v]⟩ ∧ SlN h 5 v els 0 ∧ SlQ (fun o => F o ∧ o ≠ fo) v ∧ VersR h els os ∧ (∀ cs ∈ els, ∀ x ∈ cs, SlQ (fun o => F o ∧ o ≠ fo ∧ ∀ off n kn c, v ≠ .slice o off n kn c) x) ∧ Rising os
theorem VerH.same {h h' : Hp} {cs : List AV} {a : FOp} (hv : VerH h cs a) (hn : h.next ≤ h'.next) {Q : Nat → Prop} (hq : ∀ x ∈ cs, SlQ Q x) (hs : ∀ q, Q q → q < h.next → h'.at q = h.at q) : VerH h' cs a := by
  obtain ⟨vs, vd, rfl, h1, h2⟩ := hv
  exact ⟨vs, vd, rfl, h1.same hn (fun o off n kn c e q => hs o (hq vs (by simp) o off n kn c e) q), h2.same hn (fun o off n kn c e q => hs o (hq vd (by simp) o off n kn c e) q)⟩
theorem FileS.keep {h h' : Hp} {fo : Nat} {os : List FOp} {F : Nat → Prop} (hf : FileS h fo os F) (hn : h.next ≤ h'.next) (hs : ∀ q, F q → h'.at q = h.at q) : FileS h' fo os F := by
  obtain ⟨v, els, f1, f2, f3, f4, f5, f6, f7, f8⟩ := hf
  refine ⟨v, els, f1, fun q hq => Nat.lt_of_lt_of_le (f2 q hq) hn, by rw [hs fo f1]; exact f3, ?_, f5, ⟨f6.1, fun j h1 h2 => ?_⟩, f7, f8⟩
  · rcases f4 with f4 | ⟨o, ob, e1, e2, e3, e4, e5⟩
    · exact .inl f4
    · exact .inr ⟨o, ob, e1, e2, Nat.lt_of_lt_of_le e3 hn, by rw [hs o (f5 _ _ _ _ _ e1).1]; exact e4, e5⟩
  · exact (f6.2 j h1 h2).same hn (f7 _ (List.getElem_mem h1)) fun q hq _ => hs q hq.1
theorem FileS.ext {h h' : Hp} {fo : Nat} {os : List FOp} {F : Nat → Prop} (hf : FileS h fo os F) (hx : Ext h h') : FileS h' fo os F :=
  hf.keep hx.next fun q hq => hx.same q (by obtain ⟨v, els, f1, f2, _⟩ := hf; exact f2 q hq)
theorem FileS.lt {h : Hp} {fo : Nat} {os : List FOp} {F : Nat → Prop} (hf : FileS h fo os F) {q : Nat} (hq : F q) : q < h.next := by obtain ⟨v, els, f1, f2, _⟩ := hf; exact f2 q hq
theorem FileS.file {h : Hp} {fo : Nat} {os : List FOp} {F : Nat → Prop} (hf : FileS h fo os F) (hb : os.length ≤ 1000000) : ∃ v els, FileH h fo v els os ∧ els.length = os.length := by
  obtain ⟨v, els, f1, f2, f3, f4, f5, f6, f7, f8⟩ := hf
  exact ⟨v, els, ⟨f2 fo f1, f3, SlN.rd f4 (by have := f6.1; omega), f6⟩, f6.1⟩
theorem FileS.new {h : Hp} {fo : Nat} (hl : fo < h.next) (h1 : h.at fo = some ⟨true, 1, .row [.nilslice]⟩) : FileS h fo [] (fun q => q = fo) :=
  ⟨.nilslice, [], rfl, fun q hq => by rw [hq]; exact hl, h1, .inl ⟨rfl, rfl⟩, SlQ.nil _, ⟨rfl, fun j h1 => by simp at h1⟩, (fun cs hc => by cases hc), List.Pairwise.nil⟩

def cBS : ConD := fun args h K => ∃ v els os t n, args = [v, .agg [I t, I n], .func 57 [] []] ∧ Rd h 5 v els ∧ VersR h els os ∧ Rising os ∧ K (.tup [I (posS os t n), .bool (foundAt os (posS os t n) t n)]) h
theorem cBS_go {cf : CallK} {g : FuncId} (hg : cf g = cBS) {h : Hp} {v : AV} {els : List (List AV)} {os : List FOp} {t n : Int} {K : AV → Hp → Prop} (hr : Rd h 5 v els) (ho : VersR h els os) (hri : Rising os)
    (h1 : foundAt os (posS os t n) t n = true → K (.tup [I (posS os t n), .bool true]) h) (h2 : foundAt os (posS os t n) t n = false → K (.tup [I (posS os t n), .bool false]) h) : cf g [v, .agg [I t, I n], .func 57 [] []] h K := by
  rw [hg]; exact ⟨v, els, os, t, n, rfl, hr, ho, hri, two_ways (F := fun b => K (.tup [I (posS os t n), .bool b]) h) h1 h2⟩
section
variable (cf : CallK) (fuel : Nat) {h : Hp} {K : AV → Hp → Prop}
theorem AddB0_run (hB : cf 56 = cBS) (hO : cf 22 = cOf) (hI : cf 59 = insH 5 72)
    {fo : Nat} {os : List FOp} {F : Nat → Prop} (hf : FileS h fo os F) (hlen : os.length ≤ 1000000) {a : FOp} {vd vs : AV} {p : Nat} (hat : h.at p = some ⟨true, 11, .row [I a.t, I a.n, I a.seq, I a.kind, I a.ot, I a.on, I a.pt, I a.pn, S a.name, vd, vs]⟩) (hpl : p < h.next)
    (ho : OpH h [I a.t, I a.n, I a.seq, I a.kind, I a.ot, I a.on, I a.pt, I a.pn, S a.name, vd, vs] a)
    (hK1 : foundAt os (posS os a.t a.n) a.t a.n = true → K (I 17) h)
    (hK2 : foundAt os (posS os a.t a.n) a.t a.n = false → ∀ h' F', h.next ≤ h'.next → (∀ q, q < h.next → ¬ F q → h'.at q = h.at q) → FileS h' fo (insS os a) F' → (∀ q, F' q → F q ∨ h.next ≤ q) → K (I 0) h') : s_content_File_AddB0 cf fuel K (.ptr fo 0) (.ptr p 0) h := by
  obtain ⟨v, els, f1, f2, f3, f4, f5, f6, f7, f8⟩ := hf
  have hel : els.length = os.length := f6.1
  have fol := f2 fo f1
  have hr := SlN.rd f4 (by omega)
  have hfl := SlN.flat f4
  unfold s_content_File_AddB0
  (try unfold vMov); repeat' (first | refine Step.imp ?_ | (refine Way.mk (fun hp => ?_) (fun hp => ?_) <;> first | contradiction | (exfalso; omega) | skip) | refine LoadG.mk (by simp (disch := (first | omega | (simp only [Hp.next_new, Hp.next_put]; omega))) only [Hp.at_new_self, Hp.at_put_self, Hp.at_new_lt, Hp.at_put_ne, hat] <;> rfl) (by simp only [cellAt_row', setL_cons0, setL_succ, Nat.reduceAdd, Nat.reduceMul, Nat.zero_add, Nat.add_zero, List.getElem?_cons_succ, List.getElem?_cons_zero]; rfl) ?_ | refine LoadsG.mk (by simp (disch := (first | omega | (simp only [Hp.next_new, Hp.next_put]; omega))) only [Hp.at_new_self, Hp.at_put_self, Hp.at_new_lt, Hp.at_put_ne, hat] <;> rfl) (by rfl) ?_ | refine AtG.mkG ?_ | refine StoreG.mk (by simp (disch := (first | omega | (simp only [Hp.next_new, Hp.next_put]; omega))) only [Hp.at_new_self, Hp.at_put_self, Hp.at_new_lt, Hp.at_put_ne, hat] <;> rfl) (by first | omega | (simp; done) | (simp; omega)) ?_ | refine CondG.mkG ?_ | (refine LoadG.mk f3 (by rfl) ?_) | (refine cBS_go hB hr f6 f8 (fun hp => ?_) (fun hp => ?_)) | fail); (all_goals (try dsimp only))
  · exact hK1 hp
  · refine cOf_go hO ho (fun cs h1 x1 w1 q1 => ?_)
    have n1 := x1.next
    have g3 : h1.at fo = some ⟨true, 1, .row [v]⟩ := by rw [x1.same fo fol]; exact f3
    obtain ⟨vs1, vd1, rfl, w2, w3⟩ := w1
    have w1 : VerH h1 [I a.t, I a.n, I a.seq, vs1, vd1] a := ⟨vs1, vd1, rfl, w2, w3⟩
    have hnv : ∀ o off n kn c, v = .slice o off n kn c → o < h.next := fun o off n kn c e => f2 o (f5 _ _ _ _ _ e).1
    have fs := w2.flat
    have fd := w3.flat
    (try unfold vMov); repeat' (first | refine Step.imp ?_ | (refine Way.mk (fun hp => ?_) (fun hp => ?_) <;> first | contradiction | (exfalso; omega) | skip) | refine LoadG.mk (by simp (disch := (first | omega | (simp only [Hp.next_new, Hp.next_put]; omega))) only [Hp.at_new_self, Hp.at_put_self, Hp.at_new_lt, Hp.at_put_ne, g3] <;> rfl) (by simp only [cellAt_row', setL_cons0, setL_succ, Nat.reduceAdd, Nat.reduceMul, Nat.zero_add, Nat.add_zero, List.getElem?_cons_succ, List.getElem?_cons_zero]; rfl) ?_ | refine LoadsG.mk (by simp (disch := (first | omega | (simp only [Hp.next_new, Hp.next_put]; omega))) only [Hp.at_new_self, Hp.at_put_self, Hp.at_new_lt, Hp.at_put_ne, g3] <;> rfl) (by rfl) ?_ | refine AtG.mkG ?_ | refine StoreG.mk (by simp (disch := (first | omega | (simp only [Hp.next_new, Hp.next_put]; omega))) only [Hp.at_new_self, Hp.at_put_self, Hp.at_new_lt, Hp.at_put_ne, g3] <;> rfl) (by first | omega | (simp; done) | (simp; omega)) ?_ | refine CondG.mkG ?_ | (refine LoadG.mk g3 (by rfl) ?_) | (refine CondG.mk (sameV_flat _ hfl) ?_) | fail); (all_goals (try dsimp only))
    have x2 : Ext h (h1.new ⟨true, 5, .row [I a.t, I a.n, I a.seq, vs1, vd1]⟩) := x1.new _
    refine ins_go hI (els := els) (B := 0) (f4.ext x2) (p := posS os a.t a.n) (by rw [hel]; exact posS_le _ _ _) (vo := h1.next) (cs := [I a.t, I a.n, I a.seq, vs1, vd1]) (by rw [Hp.at_new_self]) rfl (fun o off n kn c e => by have := hnv _ _ _ _ _ e; omega) (by omega) (by omega) (fun v' h3 k1 k2 k3 => ?_)
    simp only [Hp.next_new] at k1 k3
    have k2' : ∀ q, q < h1.next → (∀ off n kn c, v ≠ .slice q off n kn c) → h3.at q = h1.at q := fun q hq hv => by
      rw [k2 q (by simp only [Hp.next_new]; omega) hv, Hp.at_new_lt _ hq]
    have g4 : h3.at fo = some ⟨true, 1, .row [v]⟩ := by
      rw [k2' fo (by omega) (fun off n kn c e => (f5 _ _ _ _ _ e).2 rfl)]; exact g3
    have hne' : els.take (posS os a.t a.n) ++ [I a.t, I a.n, I a.seq, vs1, vd1] :: els.drop (posS os a.t a.n) ≠ [] := by simp
    rcases k3 with ⟨_, q⟩ | ⟨o', ob', rfl, k4, k5, k6, k7, k8, k9⟩
    · exact absurd q hne'
    (try unfold vMov); repeat' (first | refine Step.imp ?_ | (refine Way.mk (fun hp => ?_) (fun hp => ?_) <;> first | contradiction | (exfalso; omega) | skip) | refine LoadG.mk (by simp (disch := (first | omega | (simp only [Hp.next_new, Hp.next_put]; omega))) only [Hp.at_new_self, Hp.at_put_self, Hp.at_new_lt, Hp.at_put_ne, g4] <;> rfl) (by simp only [cellAt_row', setL_cons0, setL_succ, Nat.reduceAdd, Nat.reduceMul, Nat.zero_add, Nat.add_zero, List.getElem?_cons_succ, List.getElem?_cons_zero]; rfl) ?_ | refine LoadsG.mk (by simp (disch := (first | omega | (simp only [Hp.next_new, Hp.next_put]; omega))) only [Hp.at_new_self, Hp.at_put_self, Hp.at_new_lt, Hp.at_put_ne, g4] <;> rfl) (by rfl) ?_ | refine AtG.mkG ?_ | refine StoreG.mk (by simp (disch := (first | omega | (simp only [Hp.next_new, Hp.next_put]; omega))) only [Hp.at_new_self, Hp.at_put_self, Hp.at_new_lt, Hp.at_put_ne, g4] <;> rfl) (by first | omega | (simp; done) | (simp; omega)) ?_ | refine CondG.mkG ?_ | (refine StoreG.mk g4 ⟨rfl, by simp⟩ ?_) | fail); (all_goals (try dsimp only))
    refine hK2 hp (h3.put fo (some ⟨true, 1, .row (setL [v] 0 [.slice o' 0 (els.take (posS os a.t a.n) ++ [I a.t, I a.n, I a.seq, vs1, vd1] :: els.drop (posS os a.t a.n)).length false 0])⟩)) (fun q => F q ∨ (h.next ≤ q ∧ q < h3.next)) (by simp only [Hp.next_put]; omega) (fun q hq hF => ?_) ⟨.slice o' 0 (els.take (posS os a.t a.n) ++ [I a.t, I a.n, I a.seq, vs1, vd1] :: els.drop (posS os a.t a.n)).length false 0, els.take (posS os a.t a.n) ++ [I a.t, I a.n, I a.seq, vs1, vd1] :: els.drop (posS os a.t a.n), .inl f1, fun q hq => ?_, ?_, ?_, ?_, ?_, ?_, rising_ins a os f8 hp⟩ (fun q hq => ?_)
    · rw [Hp.at_put_ne _ (fun e => hF (by rw [e]; exact f1)), k2' q (by omega) (fun off n kn c e => hF (f5 _ _ _ _ _ e).1), x1.same q hq]
    · rcases hq with hq | hq
      · have := f2 q hq
        simp only [Hp.next_put]; omega
      · simp only [Hp.next_put]; exact hq.2
    · rw [Hp.at_put_self]; rfl
    · exact .inr ⟨o', ob', rfl, Nat.zero_le _, by simp only [Hp.next_put]; exact k5, by rw [Hp.at_put_ne _ (by omega)]; exact k6, k7, k8, k9⟩
    · intro o off n kn c e
      cases e
      exact ⟨.inr ⟨by omega, k5⟩, by omega⟩
    · have old : ∀ j (h1' : j < els.length) (h2 : j < os.length), VerH (h3.put fo (some ⟨true, 1, .row (setL [v] 0 [.slice o' 0 (els.take (posS os a.t a.n) ++ [I a.t, I a.n, I a.seq, vs1, vd1] :: els.drop (posS os a.t a.n)).length false 0])⟩)) els[j] os[j] := fun j h1' h2 =>
        (f6.2 j h1' h2).same (by simp only [Hp.next_put]; omega) (f7 _ (List.getElem_mem h1')) fun q hq ql => by
          rw [Hp.at_put_ne _ hq.2.1, k2' q (by omega) hq.2.2, x1.same q ql]
      have new : VerH (h3.put fo (some ⟨true, 1, .row (setL [v] 0 [.slice o' 0 (els.take (posS os a.t a.n) ++ [I a.t, I a.n, I a.seq, vs1, vd1] :: els.drop (posS os a.t a.n)).length false 0])⟩)) [I a.t, I a.n, I a.seq, vs1, vd1] a :=
        w1.same (by simp only [Hp.next_put]; omega) q1 fun q hq ql => by
          rw [Hp.at_put_ne _ (by omega), k2' q ql (fun off n kn c e => by have := hnv _ _ _ _ _ e; omega)]
      exact rel_ins new els os _ f6.1 old (by rw [hel]; exact posS_le _ _ _)
    · intro cs hcs x hx
      have oldq : ∀ cs ∈ els, ∀ x ∈ cs, SlQ (fun o => (F o ∨ (h.next ≤ o ∧ o < h3.next)) ∧ o ≠ fo ∧ ∀ off n kn c, AV.slice o' 0 (els.take (posS os a.t a.n) ++ [I a.t, I a.n, I a.seq, vs1, vd1] :: els.drop (posS os a.t a.n)).length false 0 ≠ .slice o off n kn c) x := fun cs hcs x hx =>
        (f7 cs hcs x hx).mono fun o ho => ⟨.inl ho.1, ho.2.1, fun off n kn c e => by cases e; have := f2 _ ho.1; omega⟩
      rcases List.mem_append.1 hcs with hcs | hcs
      · exact oldq cs (List.mem_of_mem_take hcs) x hx
      · rcases List.mem_cons.1 hcs with rfl | hcs
        · exact (q1 x hx).mono fun o ho => ⟨.inr ⟨by omega, by omega⟩, by omega, fun off n kn c e => by cases e; omega⟩
        · exact oldq cs (List.mem_of_mem_drop hcs) x hx
    · rcases hq with hq | hq
      · exact .inl hq
      · exact .inr hq.1
theorem Add_run (hM : cf 55 = cOpB mayO) (hB : cf 56 = cBS) (hO : cf 22 = cOf) (hI : cf 59 = insH 5 72)
    {fo : Nat} {os : List FOp} {F : Nat → Prop} (hf : FileS h fo os F) (hlen : os.length ≤ 1000000) {ca : List AV} {a : FOp} (ha : OpH h ca a)
    (hK0 : (mayO a && decide (a.kind = 4)) = false → ∀ h', Ext h h' → K (I 22) h')
    (hK1 : (mayO a && decide (a.kind = 4)) = true → foundAt os (posS os a.t a.n) a.t a.n = true → ∀ h', Ext h h' → K (I 17) h')
    (hK2 : (mayO a && decide (a.kind = 4)) = true → foundAt os (posS os a.t a.n) a.t a.n = false → ∀ h' F', h.next ≤ h'.next → (∀ q, q < h.next → ¬ F q → h'.at q = h.at q) → FileS h' fo (insS os a) F' → (∀ q, F' q → F q ∨ h.next ≤ q) → K (I 0) h') : s_content_File_Add cf fuel (.ptr fo 0) (.agg ca) h K := by
  have ha' := ha
  obtain ⟨vd, vs, rfl, hd, hs, hn⟩ := ha
  unfold s_content_File_Add
  rw [opFlat]
  rw [opFlat] at ha'
  (try unfold vMov); repeat' (first | refine Step.imp ?_ | (refine Way.mk (fun hp => ?_) (fun hp => ?_) <;> first | contradiction | (exfalso; omega) | skip) | refine LoadG.mkG ?_ | refine LoadsG.mkG ?_ | refine AtG.mkG ?_ | refine StoreG.mkG ?_ | refine CondG.mkG ?_ | (refine cOpB_go hM (ha'.mono (by repeat (first | exact Ext.refl _ | assumption | apply Ext.new | (refine Ext.put ?_ _ (by first | omega | (simp; done) | (simp; omega)))))) (fun hp => ?_) (fun hp => ?_)) | fail); (all_goals (try dsimp only))
  · rename_i hm
    have hc : (mayO a && decide (a.kind = 4)) = true := by rw [hm, decide_eq_true hp]; rfl
    have x1 : Ext h (h.new ⟨true, 11, .row [I a.t, I a.n, I a.seq, I a.kind, I a.ot, I a.on, I a.pt, I a.pn, S a.name, vd, vs]⟩) := (by repeat (first | exact Ext.refl _ | assumption | apply Ext.new | (refine Ext.put ?_ _ (by first | omega | (simp; done) | (simp; omega)))))
    refine AddB0_run cf fuel hB hO hI (hf.ext x1) hlen (Hp.at_new_self _ _) (by simp [Hp.next_new]) (ha'.mono x1) (fun q => hK1 hc q _ x1) (fun q h' F' y1 y2 y3 y4 => ?_)
    refine hK2 hc q h' F' (Nat.le_trans x1.next y1) (fun z z1 z2 => ?_) y3 (fun z hz => ?_)
    · rw [y2 z (Nat.lt_of_lt_of_le z1 x1.next) z2, x1.same z z1]
    · rcases y4 z hz with r | r
      · exact .inl r
      · exact .inr (Nat.le_trans x1.next r)
  · exact hK0 (by rw [decide_eq_false hp]; simp) _ (by repeat (first | exact Ext.refl _ | assumption | apply Ext.new | (refine Ext.put ?_ _ (by first | omega | (simp; done) | (simp; omega)))))
  · exact hK0 (by rw [hp]; rfl) _ (by repeat (first | exact Ext.refl _ | assumption | apply Ext.new | (refine Ext.put ?_ _ (by first | omega | (simp; done) | (simp; omega)))))
end
end Lg

namespace Lg
set_option linter.unusedSimpArgs false
set_option linter.unusedVariables false
set_option maxRecDepth 100000
open Go Go.Am
open Go.Proofs.Ytnhamanffojhfaa.shl
/-- An element is put into a list that is held in reverse. -/
def insRev {α : Type} (lt : α → α → Bool) (x : α) : List α → List α
  | [] => [x]
  | y :: R => if lt x y = true then y :: insRev lt x R else x :: y :: R
/-- The list sorted, in reverse. -/
def sortRev {α : Type} (lt : α → α → Bool) (l : List α) : List α := l.foldl (fun R x => insRev lt x R) []
def ltF (a b : FOp) : Bool := lessI a.t a.n b.t b.n
def sortedF (os : List FOp) : List FOp := (sortRev ltF os).reverse
abbrev Z := List AV × FOp
def ltZ (a b : Z) : Bool := ltF a.2 b.2
theorem insRev_map {α β : Type} (f : α → β) (lt : β → β → Bool) (x : α) : ∀ R : List α, (insRev (fun a b => lt (f a) (f b)) x R).map f = insRev lt (f x) (R.map f)
  | [] => rfl
  | y :: R => by
    show (if lt (f x) (f y) = true then y :: insRev (fun a b => lt (f a) (f b)) x R else x :: y :: R).map f = (if lt (f x) (f y) = true then f y :: insRev lt (f x) (R.map f) else f x :: f y :: R.map f)
    split
    · rw [List.map_cons, insRev_map f lt x R]
    · rfl
theorem insRev_len {α : Type} (lt : α → α → Bool) (x : α) : ∀ R : List α, (insRev lt x R).length = R.length + 1
  | [] => rfl
  | y :: R => by
    unfold insRev
    split
    · simp [insRev_len lt x R]
    · simp
theorem insRev_mem {α : Type} (lt : α → α → Bool) (x : α) : ∀ (R : List α) (z : α), z ∈ insRev lt x R ↔ z = x ∨ z ∈ R
  | [], z => by simp [insRev]
  | y :: R, z => by
    unfold insRev
    split
    · simp only [List.mem_cons, insRev_mem lt x R z]
      constructor
      · rintro (h | h | h)
        · exact .inr (.inl h)
        · exact .inl h
        · exact .inr (.inr h)
      · rintro (h | h | h)
        · exact .inr (.inl h)
        · exact .inl h
        · exact .inr (.inr h)
    · simp
theorem OpH.flat {h : Hp} {cs : List AV} {a : FOp} (ha : OpH h cs a) : ∀ v ∈ cs, flatV v = true := by
  obtain ⟨vd, vs, rfl, hd, hs, -⟩ := ha
  intro v hv
  have fd := hd.flat
  have fs := hs.flat
  simp only [opCells, List.mem_cons, List.not_mem_nil, or_false] at hv
  rcases hv with rfl | rfl | rfl | rfl | rfl | rfl | rfl | rfl | rfl | rfl | rfl <;> first | rfl | assumption
theorem OpH.self {h : Hp} {cs : List AV} {a : FOp} (ha : OpH h cs a) : sameV (.agg cs) (.agg cs) = true := sameV_agg _ ha.flat
theorem OpH.head {h : Hp} {cs : List AV} {a : FOp} (ha : OpH h cs a) : (cs.drop 0).take 2 = [I a.t, I a.n] := by
  obtain ⟨vd, vs, rfl, -⟩ := ha
  rfl
/-- An own list of operations at an object. -/
def LA (h : Hp) (o : Nat) (cl : List (List AV)) : Prop := o < h.next ∧ ∃ ob, h.at o = some ⟨true, 11, ob⟩ ∧ Cells ob cl.flatten ∧ ∀ e ∈ cl, e.length = 11
theorem cellsO_len {ob : AObj} : ∀ {n off : Nat} {l : List AV}, cellsO ob n off = some l → l.length = n
  | 0, off, l, h => by
    simp only [cellsO, Option.some.injEq] at h
    rw [← h]; rfl
  | n + 1, off, l, h => by
    unfold cellsO at h
    cases h0 : cellAt ob off with
    | none => rw [h0] at h; simp at h
    | some x =>
      rw [h0] at h
      cases h1 : cellsO ob n (off + 1) with
      | none => rw [h1] at h; simp at h
      | some r =>
        rw [h1] at h
        simp at h
        subst h
        simp [cellsO_len h1]
theorem StoreG.mkC2 {h : Hp} {n o off p : Nat} {l : List AV} {k : Hp → Prop} {esz : Nat} {ob : AObj} {cs : List AV} (h1 : h.at o = some ⟨true, esz, ob⟩) (hc : Cells ob cs) (hp : off = p) (h2 : l.length = n ∧ p + l.length ≤ cs.length) (q : ∀ ob', Cells ob' (setL cs p l) → k (h.put o (some ⟨true, esz, ob'⟩))) : StoreG h n o off l k := by
  subst hp
  exact StoreG.mkC h1 hc h2 q
theorem take_snoc {α : Type} : ∀ (l : List α) (i : Nat) (h : i < l.length), l.take (i + 1) = l.take i ++ [l[i]]
  | x :: l, 0, _ => by simp
  | x :: l, i + 1, h => by
    have := take_snoc l i (by simpa using h)
    rw [List.take_succ_cons, this]
    simp
theorem cellsO_sub {ob : AObj} : ∀ (n m d : Nat) {off : Nat} {l : List AV}, cellsO ob n off = some l → d + m ≤ n → cellsO ob m (off + d) = some ((l.drop d).take m)
  | n, 0, d, off, l, h, hd => by simp [cellsO]
  | n, m + 1, d, off, l, h, hd => by
    have h1 := cellsO_nth n h d (by omega)
    have h2 := cellsO_sub n m (d + 1) h (by omega)
    have hl := cellsO_len h
    unfold cellsO
    rw [h1, List.getElem?_eq_getElem (by omega), show off + d + 1 = off + (d + 1) by omega, h2]
    rw [List.drop_eq_getElem_cons (show d < l.length by omega), List.take_succ_cons]
    rfl
theorem LA.at {h : Hp} {o : Nat} {cl : List (List AV)} (hl : LA h o cl) : ∃ ob, h.at o = some ⟨true, 11, ob⟩ ∧ Cells ob cl.flatten ∧ ∀ j (hj : j < cl.length), cellsO ob 11 (j * 11) = some cl[j] := by
  obtain ⟨h1, ob, h2, h3, h4⟩ := hl
  refine ⟨ob, h2, h3, fun j hj => ?_⟩
  have hfl := flat_len h4
  have hle : j * 11 + 11 ≤ cl.flatten.length := by rw [hfl]; omega
  rw [cellsO_cells h3 11 (j * 11) hle, flat_at cl h4 j hj]
theorem flat_set : ∀ (cl : List (List AV)) (_ : ∀ e ∈ cl, e.length = 11) (j : Nat) (_ : j < cl.length) (x : List AV) (_ : x.length = 11), setL cl.flatten (j * 11) x = (cl.set j x).flatten
  | e :: l, he, 0, _, x, hx => by
    have h1 := he e (by simp)
    unfold setL
    rw [List.flatten_cons, Nat.zero_mul, List.take_zero, List.nil_append, Nat.zero_add, List.set_cons_zero, List.flatten_cons, hx, List.drop_left' h1]
  | e :: l, he, j + 1, hj, x, hx => by
    have h1 := he e (by simp)
    have ih := flat_set l (fun e h => he e (by simp [h])) j (by simpa using hj) x hx
    unfold setL at ih ⊢
    have e1 : (j + 1) * 11 = e.length + j * 11 := by omega
    rw [List.flatten_cons, e1, List.take_length_add_append, Nat.add_assoc, List.drop_length_add_append, List.set_cons_succ, List.flatten_cons, ← ih]
    simp [List.append_assoc]
theorem box_load {l zs : List AV} {n : Nat} (h : l.length = n) (hz : zs.length = n) : cellsO (.row (setL zs 0 l)) n 0 = some l := by
  rw [setL_zero _ _ (by omega), cellsO_cells (Cells.row l) n 0 (by omega), List.drop_zero, List.take_of_length_le (by omega)]
section
variable (cf : CallK) (fuel : Nat) {K : AV → Hp → Prop}
theorem SortedL4_run (hL : cf 30 = cIdB2 lessI) {h0 : Hp} {t0 t4 : AV} (e3 : Hp → Prop) {o N : Nat} (ho : h0.next ≤ o) (hN : N ≤ 1000000) :
    ∀ (R S : List Z) (x : Z) (fm : Nat) (h : Hp), R.length + 1 + S.length = N → R.length < fm → Ext h0 h → LA h o ((R.reverse ++ x :: S).map Prod.fst) → (∀ z ∈ R, OpH h0 z.1 z.2) → OpH h0 x.1 x.2 → (∀ h', Ext h0 h' → LA h' o (((insRev ltZ x R).reverse ++ S).map Prod.fst) → e3 h') →
      s_lagoonref12_SortedL4 cf fuel e3 t0 (.slice o 0 N false 0) t4 fm (I R.length) h
  | [], S, x, fm, h, hn, hf, hx, hla, hR, hxo, hK => by
    obtain ⟨fm, rfl⟩ : ∃ k, fm = k + 1 := ⟨fm - 1, by omega⟩
    rw [s_lagoonref12_SortedL4_succ]
    unfold s_lagoonref12_SortedL4B
    try dsimp only
    (try unfold vMov); repeat' (first | refine Step.imp ?_ | (refine Way.mk (fun hp => ?_) (fun hp => ?_) <;> first | contradiction | (exfalso; omega) | skip) | refine LoadG.mkG ?_ | refine LoadsG.mkG ?_ | refine AtG.mkG ?_ | refine StoreG.mkG ?_ | refine CondG.mkG ?_ | fail); (all_goals (try dsimp only))
    exact hK h hx hla
  | y :: R, S, x, fm, h, hn, hf, hx, hla, hR, hxo, hK => by
    obtain ⟨fm, rfl⟩ : ∃ k, fm = k + 1 := ⟨fm - 1, by omega⟩
    simp only [List.length_cons] at hn hf ⊢
    have hyo := hR y (by simp)
    have lx := hxo.len
    have ly := hyo.len
    have sx := hxo.self
    have sy := hyo.self
    obtain ⟨ob, hat, hcs, hcl⟩ := hla.at
    have hol := hla.1
    have he11 : ∀ e ∈ ((y :: R).reverse ++ x :: S).map Prod.fst, e.length = 11 := by obtain ⟨_, _, _, _, q⟩ := hla; exact q
    have hlen : (((y :: R).reverse ++ x :: S).map Prod.fst).length = N := by simp; omega
    have cx := hcl (R.length + 1) (by omega)
    have cy := hcl R.length (by omega)
    have gx : (((y :: R).reverse ++ x :: S).map Prod.fst)[R.length + 1]'(by omega) = x.1 := by
      rw [List.getElem_map, List.getElem_append_right (by simp)]
      simp
    have gy : (((y :: R).reverse ++ x :: S).map Prod.fst)[R.length]'(by omega) = y.1 := by
      rw [List.getElem_map, List.getElem_append_left (by simp)]
      simp
    rw [gx] at cx
    rw [gy] at cy
    have cx2 := cellsO_sub 11 2 0 cx (by omega)
    have cy2 := cellsO_sub 11 2 0 cy (by omega)
    rw [hxo.head] at cx2
    rw [hyo.head] at cy2
    have e1 : (((R.length + 1 : Nat) : Int) - 1) = (R.length : Int) := by omega
    have ih := SortedL4_run hL (t0 := t0) (t4 := t4) e3 ho hN R (y :: S) x fm
    have hins : insRev ltZ x (y :: R) = if ltZ x y = true then y :: insRev ltZ x R else x :: y :: R := rfl
    rw [s_lagoonref12_SortedL4_succ]
    unfold s_lagoonref12_SortedL4B s_lagoonref12_SortedB7
    try dsimp only
    have swap : ∀ h' ob', Ext h0 h' → h.next ≤ h'.next → h'.at o = some ⟨true, 11, ob'⟩ → Cells ob' (setL (setL (((y :: R).reverse ++ x :: S).map Prod.fst).flatten (R.length * 11) x.1) ((R.length + 1) * 11) y.1) → lessI x.2.t x.2.n y.2.t y.2.n = true →
        s_lagoonref12_SortedL4 cf fuel e3 t0 (.slice o 0 N false 0) t4 fm (I R.length) h' := fun h' ob' y1 y2 y3 y4 y5 => by
      have hl2 : ∀ e ∈ (((y :: R).reverse ++ x :: S).map Prod.fst).set R.length x.1, e.length = 11 := fun e he => by
        rcases List.mem_or_eq_of_mem_set he with q | q
        · exact he11 e q
        · rw [q]; exact lx
      rw [flat_set _ he11 R.length (by omega) x.1 lx, flat_set _ hl2 (R.length + 1) (by rw [List.length_set]; omega) y.1 ly] at y4
      have hset : ((((y :: R).reverse ++ x :: S).map Prod.fst).set R.length x.1).set (R.length + 1) y.1 = (R.reverse ++ x :: (y :: S)).map Prod.fst := by
        simp only [List.reverse_cons, List.append_assoc, List.map_append, List.map_cons, List.map_nil, List.singleton_append, List.cons_append, List.nil_append]
        rw [List.set_append_right _ _ (by simp)]
        simp only [List.length_map, List.length_reverse, Nat.sub_self, List.set_cons_zero]
        rw [List.set_append_right _ _ (by simp)]
        simp
      rw [hset] at y4
      refine ih h' (by simp only [List.length_cons]; omega) (by omega) y1 ⟨Nat.lt_of_lt_of_le hol y2, ob', y3, y4, fun e he => ?_⟩ (fun z hz => hR z (by simp [hz])) hxo (fun h'' z1 z2 => hK h'' z1 ?_)
      · obtain ⟨z, hz, rfl⟩ := List.mem_map.1 he
        rcases List.mem_append.1 hz with hz | hz
        · have hz' : z ∈ R := by simpa using hz
          exact he11 _ (List.mem_map_of_mem (by simp [hz']))
        · rcases List.mem_cons.1 hz with rfl | hz
          · exact lx
          · rcases List.mem_cons.1 hz with rfl | hz
            · exact ly
            · exact he11 _ (List.mem_map_of_mem (by simp [hz]))
      · rw [hins, if_pos (show ltZ x y = true from y5)]
        simpa [List.append_assoc] using z2
    (try unfold vMov); repeat' (first | refine Step.imp ?_ | (refine Way.mk (fun hp => ?_) (fun hp => ?_) <;> first | contradiction | (exfalso; omega) | skip) | refine LoadG.mk (by simp (disch := (first | omega | (simp only [Hp.next_new, Hp.next_put]; omega))) only [Hp.at_new_self, Hp.at_put_self, Hp.at_new_lt, Hp.at_put_ne, hat] <;> rfl) (by simp only [cellAt_row', setL_cons0, setL_succ, Nat.reduceAdd, Nat.reduceMul, Nat.zero_add, Nat.add_zero, List.getElem?_cons_succ, List.getElem?_cons_zero]; rfl) ?_ | refine LoadsG.mk (by simp (disch := (first | omega | (simp only [Hp.next_new, Hp.next_put]; omega))) only [Hp.at_new_self, Hp.at_put_self, Hp.at_new_lt, Hp.at_put_ne, hat] <;> rfl) (by rfl) ?_ | refine AtG.mkG ?_ | refine StoreG.mk (by simp (disch := (first | omega | (simp only [Hp.next_new, Hp.next_put]; omega))) only [Hp.at_new_self, Hp.at_put_self, Hp.at_new_lt, Hp.at_put_ne, hat] <;> rfl) (by first | omega | (simp; done) | (simp; omega)) ?_ | refine CondG.mkG ?_ | (refine LoadsG.mk2 hat cx2 (by omega) ?_) | (refine LoadsG.mk2 hat cy2 (by omega) ?_) | (refine cIdB2_go hL (fun hp => ?_) (fun hp => ?_)) | fail); (all_goals (try dsimp only))
    · have nx := hx.next
      have hfl := flat_len he11
      rw [hlen] at hfl
      refine ⟨?_, ?_⟩
      all_goals
        (try unfold vMov); repeat' (first | refine Step.imp ?_ | (refine Way.mk (fun hp => ?_) (fun hp => ?_) <;> first | contradiction | (exfalso; omega) | skip) | refine LoadG.mk (by simp (disch := (first | omega | (simp only [Hp.next_new, Hp.next_put]; omega))) only [Hp.at_new_self, Hp.at_put_self, Hp.at_new_lt, Hp.at_put_ne, hat] <;> rfl) (by simp only [cellAt_row', setL_cons0, setL_succ, Nat.reduceAdd, Nat.reduceMul, Nat.zero_add, Nat.add_zero, List.getElem?_cons_succ, List.getElem?_cons_zero]; rfl) ?_ | refine LoadsG.mk (by simp (disch := (first | omega | (simp only [Hp.next_new, Hp.next_put]; omega))) only [Hp.at_new_self, Hp.at_put_self, Hp.at_new_lt, Hp.at_put_ne, hat] <;> rfl) (by rfl) ?_ | refine AtG.mkG ?_ | refine StoreG.mk (by simp (disch := (first | omega | (simp only [Hp.next_new, Hp.next_put]; omega))) only [Hp.at_new_self, Hp.at_put_self, Hp.at_new_lt, Hp.at_put_ne, hat] <;> rfl) (by first | omega | (simp; done) | (simp; omega)) ?_ | refine CondG.mkG ?_ | (refine LoadsG.mk2 (e := ⟨true, 11, ob⟩) (by simp (disch := (first | omega | (simp only [Hp.next_new, Hp.next_put]; omega))) only [Hp.at_new_self, Hp.at_put_self, Hp.at_new_lt, Hp.at_put_ne, hat] <;> rfl) cy (by omega) ?_) | (refine LoadsG.mk2 (e := ⟨true, 11, ob⟩) (by simp (disch := (first | omega | (simp only [Hp.next_new, Hp.next_put]; omega))) only [Hp.at_new_self, Hp.at_put_self, Hp.at_new_lt, Hp.at_put_ne, hat] <;> rfl) cx (by omega) ?_) | (refine CondG.mk sx ?_) | (refine CondG.mk sy ?_) | (refine LoadsG.mk (by simp (disch := (first | omega | (simp only [Hp.next_new, Hp.next_put]; omega))) only [Hp.at_new_self, Hp.at_put_self, Hp.at_new_lt, Hp.at_put_ne, hat] <;> rfl) (by exact box_load lx rfl) ?_) | (refine LoadsG.mk (by simp (disch := (first | omega | (simp only [Hp.next_new, Hp.next_put]; omega))) only [Hp.at_new_self, Hp.at_put_self, Hp.at_new_lt, Hp.at_put_ne, hat] <;> rfl) (by exact box_load ly rfl) ?_) | (refine StoreG.mkC2 (by simp (disch := (first | omega | (simp only [Hp.next_new, Hp.next_put]; omega))) only [Hp.at_new_self, Hp.at_put_self, Hp.at_new_lt, Hp.at_put_ne, hat] <;> rfl) hcs (p := R.length * 11) (by omega) ⟨lx, by omega⟩ (fun ob1 hc1 => ?_)) | (refine StoreG.mkC2 (by simp (disch := (first | omega | (simp only [Hp.next_new, Hp.next_put]; omega))) only [Hp.at_new_self, Hp.at_put_self, Hp.at_new_lt, Hp.at_put_ne, hat] <;> rfl) hc1 (p := (R.length + 1) * 11) (by omega) ⟨ly, by rw [setL_length _ _ _ (by omega)]; omega⟩ (fun ob2 hc2 => ?_)) | fail); (all_goals (try dsimp only))
        rw [e1]
        exact swap _ ob2 (by repeat (first | exact Ext.refl _ | assumption | apply Ext.new | (refine Ext.put ?_ _ (by first | omega | (simp; done) | (simp; omega))))) (by simp only [Hp.next_new, Hp.next_put]; omega) (by rw [Hp.at_put_self]) hc2 hp
    · refine hK h hx ?_
      rw [hins, if_neg (show ¬ ltZ x y = true by unfold ltZ ltF; rw [hp]; simp)]
      simpa [List.append_assoc] using hla
theorem SortedL1_run (hL : cf 30 = cIdB2 lessI) {h0 : Hp} {v : AV} {els : List (List AV)} {os : List FOp} (hr : Rd h0 11 v els) (ho : OpsR h0 els os) (hf : els.length + 1 < fuel) (hsm : els.length ≤ 900000) (e0 : AV → Hp → Prop)
    (he : ∀ (v' : AV) (h' : Hp) (Zs : List Z), Ext h0 h' → SlN h' 11 v' (Zs.map Prod.fst) h0.next → (∀ z ∈ Zs, OpH h0 z.1 z.2) → Zs.map Prod.snd = sortedF os → e0 v' h') :
    ∀ (d i fm : Nat) (R : List Z) (t3 : AV) (h : Hp), i + d = els.length → d < fm → Ext h0 h → R.map Prod.snd = sortRev ltF (os.take i) → R.length = i → (∀ z ∈ R, OpH h0 z.1 z.2) → SlN h 11 t3 (R.reverse.map Prod.fst) h0.next →
    s_lagoonref12_SortedL1 cf fuel e0 v fm t3 (I i) h
  | d, i, fm, R, t3, h, hk, hm, hx, hR, hRl, hRo, hs => by
    obtain ⟨fm, rfl⟩ : ∃ j, fm = j + 1 := ⟨fm - 1, by omega⟩
    rw [s_lagoonref12_SortedL1_succ]
    unfold s_lagoonref12_SortedL1B
    have hb := hr.bound
    by_cases hi : i < els.length
    · obtain ⟨d, rfl⟩ : ∃ j, d = j + 1 := ⟨d - 1, by omega⟩
      obtain ⟨o, off, kn, c, e, rfl, hat, hc⟩ := (hr.mono hx).openS hi
      have e1 : ((i : Int) + 1) = ((i + 1 : Nat) : Int) := by omega
      have hos : i < os.length := by rw [← ho.1]; exact hi
      have hoi := ho.2 i hi hos
      obtain ⟨vd, vs, hcs, -⟩ := ho.2 i hi hos
      have ci := hc i hi
      rw [hcs] at ci hoi
      unfold opCells at ci
      try dsimp only
      (try unfold vMov); repeat' (first | refine Step.imp ?_ | (refine Way.mk (fun hp => ?_) (fun hp => ?_) <;> first | contradiction | (exfalso; omega) | skip) | refine LoadG.mkG ?_ | refine LoadsG.mkG ?_ | refine AtG.mkG ?_ | refine StoreG.mkG ?_ | refine CondG.mkG ?_ | (refine LoadsG.mk hat (by simpa using ci) ?_) | fail); (all_goals (try dsimp only))
      have nx := hx.next
      refine append_own (els := R.reverse.map Prod.fst) (news := [opCells os[i] vd vs]) (B := h0.next) (h0 := h0) (by repeat (first | exact Ext.refl _ | assumption | apply Ext.new | (refine Ext.put ?_ _ (by first | omega | (simp; done) | (simp; omega))))) (hs.ext (by repeat (first | exact Ext.refl _ | assumption | apply Ext.new | (refine Ext.put ?_ _ (by first | omega | (simp; done) | (simp; omega)))))) (Nat.le_refl _) (by simp only [Hp.next_new]; omega) ⟨_, 0, true, 1, _, rfl, Hp.at_new_self _ _, rfl⟩ (by intro x hx1; rw [List.mem_singleton.1 hx1]; rfl) (by simp) (by simp; omega) ?_
      intro v' h' k1 k2 k3 k4
      rcases k4 with ⟨_, q⟩ | ⟨o', ob', rfl, q1, q2, q3, q4, q5, q6⟩
      · simp at q
      have hlen : (R.reverse.map Prod.fst ++ [opCells os[i] vd vs]).length = i + 1 := by simp; omega
      rw [hlen]
      have hll : ((i + 1 : Nat) : Int) - 1 = (R.length : Int) := by omega
      (try unfold vMov); repeat' (first | refine Step.imp ?_ | (refine Way.mk (fun hp => ?_) (fun hp => ?_) <;> first | contradiction | (exfalso; omega) | skip) | refine LoadG.mkG ?_ | refine LoadsG.mkG ?_ | refine AtG.mkG ?_ | refine StoreG.mkG ?_ | refine CondG.mkG ?_ | fail); (all_goals (try dsimp only))
      rw [hll]
      refine SortedL4_run cf fuel hL (h0 := h0) _ q1 (by omega) R [] (opCells os[i] vd vs, os[i]) fuel h' (by simp; omega) (by omega) k1 ⟨q2, ob', q3, by simpa using q4, fun e he => q5 e (by simpa using he)⟩ hRo hoi (fun h'' z1 z2 => ?_)
      unfold s_lagoonref12_SortedE3 s_lagoonref12_SortedE2
      (try unfold vMov); repeat' (first | refine Step.imp ?_ | (refine Way.mk (fun hp => ?_) (fun hp => ?_) <;> first | contradiction | (exfalso; omega) | skip) | refine LoadG.mkG ?_ | refine LoadsG.mkG ?_ | refine AtG.mkG ?_ | refine StoreG.mkG ?_ | refine CondG.mkG ?_ | fail); (all_goals (try dsimp only))
      rw [e1]
      obtain ⟨w1, ob2, w2, w3, w4⟩ := z2
      have hil := insRev_len ltZ (opCells os[i] vd vs, os[i]) R
      refine SortedL1_run hL hr ho hf hsm e0 he d (i + 1) fm (insRev ltZ (opCells os[i] vd vs, os[i]) R) _ h'' (by omega) (by omega) z1 ?_ (by omega) (fun z hz => ?_) (.inr ⟨o', ob2, ?_, q1, w1, w2, by simpa using w3, fun e he => w4 e (by simpa using he), ?_⟩)
      · have := insRev_map Prod.snd ltF ((opCells os[i] vd vs, os[i]) : Z) R
        rw [take_snoc os i hos]
        unfold sortRev
        rw [List.foldl_append]
        unfold sortRev at hR
        rw [← hR]
        exact this
      · rcases (insRev_mem ltZ _ R z).1 hz with rfl | hz
        · exact hoi
        · exact hRo z hz
      · congr 1
        simp; omega
      · intro q
        have := congrArg List.length q
        rw [List.length_map, List.length_reverse, List.length_nil] at this
        omega
    · have hd : d = 0 := by omega
      subst hd
      rw [hr.len]
      try dsimp only
      (try unfold vMov); repeat' (first | refine Step.imp ?_ | (refine Way.mk (fun hp => ?_) (fun hp => ?_) <;> first | contradiction | (exfalso; omega) | skip) | refine LoadG.mkG ?_ | refine LoadsG.mkG ?_ | refine AtG.mkG ?_ | refine StoreG.mkG ?_ | refine CondG.mkG ?_ | fail); (all_goals (try dsimp only))
      refine he t3 h R.reverse hx hs (fun z hz => hRo z (by simpa using hz)) ?_
      have hi' : i = os.length := by have := ho.1; omega
      rw [List.map_reverse, hR, hi', List.take_length]
      rfl
theorem Sorted_run (hL : cf 30 = cIdB2 lessI) {h0 : Hp} {v : AV} {els : List (List AV)} {os : List FOp} (hr : Rd h0 11 v els) (ho : OpsR h0 els os) (hf : els.length + 1 < fuel) (hsm : els.length ≤ 900000)
    (hK : ∀ (v' : AV) (h' : Hp) (Zs : List Z), Ext h0 h' → SlN h' 11 v' (Zs.map Prod.fst) h0.next → (∀ z ∈ Zs, OpH h0 z.1 z.2) → Zs.map Prod.snd = sortedF os → K v' h') : s_lagoonref12_Sorted cf fuel v h0 K := by
  unfold s_lagoonref12_Sorted
  try dsimp only
  exact SortedL1_run cf fuel hL hr ho hf hsm _ (fun v' h' Zs x1 x2 x3 x4 => by unfold s_lagoonref12_SortedE0; exact hK v' h' Zs x1 x2 x3 x4) els.length 0 fuel [] .nilslice h0 (by omega) (by omega) (Ext.refl h0) rfl rfl (fun z hz => by cases hz) (.inl ⟨rfl, rfl⟩)
end
end Lg

namespace Lg
set_option linter.unusedSimpArgs false
set_option linter.unusedVariables false
set_option maxRecDepth 100000
open Go Go.Am
open Go.Proofs.Ytnhamanffojhfaa.shl
/-- A slice of m elements cut short to n. -/
def cutA (v : AV) (m n : Nat) : AV := if m ≤ n then v else match v with | .slice o off _ kn c => .slice o off n kn c | x => x
theorem SlQ.cut {Q : Nat → Prop} {v : AV} (h : SlQ Q v) (m n : Nat) : SlQ Q (cutA v m n) := by
  unfold cutA
  split
  · exact h
  · split
    · intro o off k kn c e
      cases e
      exact h _ _ _ _ _ rfl
    · exact h
theorem VecH.cut {h : Hp} {v : AV} {l : List Int} (hv : VecH h v l) (n : Nat) : VecH h (cutA v l.length n) (l.take n) := by
  unfold cutA
  split
  · rename_i q
    rw [List.take_of_length_le q]; exact hv
  · rename_i q
    rcases hv.casesC with ⟨rfl, rfl⟩ | ⟨o, rfl, rfl⟩ | ⟨o, off, kn, c, e, rfl, hc, h2, h3, h5⟩
    · simp at q
    · simp at q
    · have hb := hv.bound
      have hl : ((l.take n).map fun x => [I x]).length = n := by simp; omega
      refine .inr (.inr ⟨o, off, kn, c, e, by rw [hl], h2, h3, ⟨by rw [hl]; omega, fun q => by rw [hl]; have := hc q; omega⟩, fun j hj => ?_⟩)
      rw [hl] at hj
      have := h5 j (by omega)
      simp only [List.getElem_map, List.getElem_take]
      rw [Nat.mul_one]
      unfold cellsO
      rw [this]
      rfl
theorem ByH.cut {h : Hp} {v : AV} {l : List UInt8} (hv : ByH h v l) (n : Nat) : ByH h (cutA v l.length n) (l.take n) := by
  unfold cutA
  split
  · rename_i q
    rw [List.take_of_length_le q]; exact hv
  · rename_i q
    rcases hv with ⟨rfl, rfl⟩ | ⟨o, rfl, rfl⟩ | ⟨o, off, kn, c, e, m, z, rfl, h2, h3, h4, h5, h6, h7⟩
    · simp at q
    · simp at q
    · have hl : (l.take n).length = n := by simp; omega
      refine .inr (.inr ⟨o, off, kn, c, e, m, z, by rw [hl], h2, h3, h4, by rw [hl]; omega, ⟨by rw [hl]; omega, fun q => by rw [hl]; have := h6.2 q; omega⟩, ?_⟩)
      rw [hl]
      have := congrArg (List.take n) h7
      rw [List.take_take, Nat.min_eq_left (by omega)] at this
      exact this
theorem ByH.cell {h : Hp} {v : AV} {l : List UInt8} (hv : ByH h v l) : cellsV v = some [v] := by
  rcases hv with ⟨rfl, _⟩ | ⟨o, rfl, _⟩ | ⟨o, off, kn, c, e, m, z, rfl, _⟩ <;> rfl
theorem VecH.cell {h : Hp} {v : AV} {l : List Int} (hv : VecH h v l) : cellsV v = some [v] := by
  rcases hv.cases with ⟨rfl, _⟩ | ⟨o, rfl, _⟩ | ⟨o, off, kn, c, e, rfl, _⟩ <;> rfl
/-- An operation that is not too great. -/
def cutO (o : FOp) : FOp := { o with name := o.name.take 100, data := o.data.take 3000, seen := o.seen.take 80 }
def cShort : ConD := fun args h K => ∃ v l, ∃ n : Nat, args = [v, I n] ∧ ByH h v l ∧ K (cutA v l.length n) h
theorem cShort_go {cf : CallK} {g : FuncId} (hg : cf g = cShort) {h : Hp} {v : AV} {l : List UInt8} {K : AV → Hp → Prop} (n : Nat) {i : Int} (hi : i = n) (hv : ByH h v l) (hK : K (cutA v l.length n) h) : cf g [v, .int .i64 i] h K := by subst hi; rw [hg]; exact ⟨v, l, n, rfl, hv, hK⟩
def cVCut : ConD := fun args h K => ∃ v l, args = [v] ∧ VecH h v l ∧ K (cutA v l.length 80) h
theorem cVCut_go {cf : CallK} {g : FuncId} (hg : cf g = cVCut) {h : Hp} {v : AV} {l : List Int} {K : AV → Hp → Prop} (hv : VecH h v l) (hK : K (cutA v l.length 80) h) : cf g [v] h K := by rw [hg]; exact ⟨v, l, rfl, hv, hK⟩
def cCut : ConD := fun args h K => ∃ o vd vs, args = [.agg (opCells o vd vs)] ∧ ByH h vd o.data ∧ VecH h vs o.seen ∧ o.name.length ≤ 140737488355328 ∧ ∀ h', Ext h h' → K (.agg (opCells (cutO o) (cutA vd o.data.length 3000) (cutA vs o.seen.length 80))) h'
theorem cCut_go {cf : CallK} {g : FuncId} (hg : cf g = cCut) {h : Hp} {o : FOp} {vd vs : AV} {K : AV → Hp → Prop} (hd : ByH h vd o.data) (hs : VecH h vs o.seen) (hn : o.name.length ≤ 140737488355328)
    (hK : ∀ h', Ext h h' → K (.agg [I (cutO o).t, I (cutO o).n, I (cutO o).seq, I (cutO o).kind, I (cutO o).ot, I (cutO o).on, I (cutO o).pt, I (cutO o).pn, S (cutO o).name, cutA vd o.data.length 3000, cutA vs o.seen.length 80]) h') : cf g [.agg [I o.t, I o.n, I o.seq, I o.kind, I o.ot, I o.on, I o.pt, I o.pn, S o.name, vd, vs]] h K := by
  rw [hg]; exact ⟨o, vd, vs, rfl, hd, hs, hn, hK⟩
section
variable (cf : CallK) (fuel : Nat) {h : Hp} {K : AV → Hp → Prop}
theorem Short_run {v : AV} {l : List UInt8} (hv : ByH h v l) (n : Nat) (hK : K (cutA v l.length n) h) : s_lagoonlaw2_Short cf fuel v (I n) h K := by
  unfold s_lagoonlaw2_Short
  rcases hv with ⟨rfl, rfl⟩ | ⟨o, rfl, rfl⟩ | ⟨o, off, kn, c, e, m, z, rfl, h2, h3, h4, h5, h6, h7⟩
  · (try unfold vMov); repeat' (first | refine Step.imp ?_ | (refine Way.mk (fun hp => ?_) (fun hp => ?_) <;> first | contradiction | (exfalso; omega) | skip) | refine LoadG.mkG ?_ | refine LoadsG.mkG ?_ | refine AtG.mkG ?_ | refine StoreG.mkG ?_ | refine CondG.mkG ?_ | fail); (all_goals (try dsimp only))
    exact hK
  · (try unfold vMov); repeat' (first | refine Step.imp ?_ | (refine Way.mk (fun hp => ?_) (fun hp => ?_) <;> first | contradiction | (exfalso; omega) | skip) | refine LoadG.mkG ?_ | refine LoadsG.mkG ?_ | refine AtG.mkG ?_ | refine StoreG.mkG ?_ | refine CondG.mkG ?_ | fail); (all_goals (try dsimp only))
    exact hK
  · (try unfold vMov); repeat' (first | refine Step.imp ?_ | (refine Way.mk (fun hp => ?_) (fun hp => ?_) <;> first | contradiction | (exfalso; omega) | skip) | refine LoadG.mkG ?_ | refine LoadsG.mkG ?_ | refine AtG.mkG ?_ | refine StoreG.mkG ?_ | refine CondG.mkG ?_ | fail); (all_goals (try dsimp only))
    · refine cut_slice (by omega) h6.2 ?_
      unfold cutA at hK
      rw [if_neg (by omega)] at hK
      exact hK
    · unfold cutA at hK
      rw [if_pos (by omega)] at hK
      exact hK
theorem VCut_run {v : AV} {l : List Int} (hv : VecH h v l) (hK : K (cutA v l.length 80) h) : s_lagoonlaw4_Cut cf fuel v h K := by
  unfold s_lagoonlaw4_Cut
  rcases hv.casesC with ⟨rfl, rfl⟩ | ⟨o, rfl, rfl⟩ | ⟨o, off, kn, c, e, rfl, hc, h2, h3, h5⟩
  · (try unfold vMov); repeat' (first | refine Step.imp ?_ | (refine Way.mk (fun hp => ?_) (fun hp => ?_) <;> first | contradiction | (exfalso; omega) | skip) | refine LoadG.mkG ?_ | refine LoadsG.mkG ?_ | refine AtG.mkG ?_ | refine StoreG.mkG ?_ | refine CondG.mkG ?_ | fail); (all_goals (try dsimp only))
    exact hK
  · (try unfold vMov); repeat' (first | refine Step.imp ?_ | (refine Way.mk (fun hp => ?_) (fun hp => ?_) <;> first | contradiction | (exfalso; omega) | skip) | refine LoadG.mkG ?_ | refine LoadsG.mkG ?_ | refine AtG.mkG ?_ | refine StoreG.mkG ?_ | refine CondG.mkG ?_ | fail); (all_goals (try dsimp only))
    exact hK
  · (try unfold vMov); repeat' (first | refine Step.imp ?_ | (refine Way.mk (fun hp => ?_) (fun hp => ?_) <;> first | contradiction | (exfalso; omega) | skip) | refine LoadG.mkG ?_ | refine LoadsG.mkG ?_ | refine AtG.mkG ?_ | refine StoreG.mkG ?_ | refine CondG.mkG ?_ | fail); (all_goals (try dsimp only))
    · refine cut_slice (i := 80) (by omega) hc ?_
      unfold cutA at hK
      rw [if_neg (by omega)] at hK
      exact hK
    · unfold cutA at hK
      rw [if_pos (by omega)] at hK
      exact hK
theorem Cut_run (hS : cf 97 = cShort) (hV : cf 98 = cVCut) {o : FOp} {vd vs : AV} (hd : ByH h vd o.data) (hs : VecH h vs o.seen) (hn : o.name.length ≤ 140737488355328)
    (hK : ∀ h', Ext h h' → K (.agg (opCells (cutO o) (cutA vd o.data.length 3000) (cutA vs o.seen.length 80))) h') : s_lagoonlaw12_Cut cf fuel (.agg (opCells o vd vs)) h K := by
  unfold s_lagoonlaw12_Cut
  rw [opFlat]
  have cv1 := (hd.cut 3000).cell
  have cv2 := (hs.cut 80).cell
  (try unfold vMov); repeat' (first | refine Step.imp ?_ | (refine Way.mk (fun hp => ?_) (fun hp => ?_) <;> first | contradiction | (exfalso; omega) | skip) | refine LoadG.mkG ?_ | refine LoadsG.mkG ?_ | refine AtG.mkG ?_ | refine StoreG.mkG ?_ | refine CondG.mkG ?_ | (refine cShort_go hS 3000 rfl (hd.mono (by repeat (first | exact Ext.refl _ | assumption | apply Ext.new | (refine Ext.put ?_ _ (by first | omega | (simp; done) | (simp; omega)))))) ?_) | (refine cVCut_go hV (hs.mono (by repeat (first | exact Ext.refl _ | assumption | apply Ext.new | (refine Ext.put ?_ _ (by first | omega | (simp; done) | (simp; omega)))))) ?_) | (refine stStore_aux 1 _ _ _ _ cv1 ?_) | (refine stStore_aux 1 _ _ _ _ cv2 ?_) | fail); (all_goals (try dsimp only))
  · refine fin hK ?_ (by repeat (first | exact Ext.refl _ | assumption | apply Ext.new | (refine Ext.put ?_ _ (by first | omega | (simp; done) | (simp; omega)))))
    rfl
  · have hq : o.name.take 100 = o.name := List.take_of_length_le (by omega)
    refine fin hK ?_ (by repeat (first | exact Ext.refl _ | assumption | apply Ext.new | (refine Ext.put ?_ _ (by first | omega | (simp; done) | (simp; omega)))))
    unfold opCells cutO
    rw [hq]

/-! ### some operations -/
end
def someStep (most : Nat) (acc : List FOp) (o : FOp) : List FOp := if acc.length < most then (if (mayO (cutO o) && acc.all fun a => !sameI a.t a.n (cutO o).t (cutO o).n) = true then acc ++ [cutO o] else acc) else acc
def someO (os : List FOp) (most : Nat) : List FOp := os.foldl (someStep most) []
theorem some_full {most : Nat} : ∀ (l acc : List FOp), ¬ acc.length < most → l.foldl (someStep most) acc = acc
  | [], acc, _ => rfl
  | o :: l, acc, h => by
    rw [List.foldl_cons, show someStep most acc o = acc by unfold someStep; rw [if_neg h]]
    exact some_full l acc h
theorem len_sl {h h' : Hp} {esz : Nat} {v : AV} {els : List (List AV)} {B : Nat} (hs : SlN h esz v els B) {K : AV → Hp → Prop} (q : K (.int .i64 els.length) h') : vLenL2 v h' K := by
  rcases hs with ⟨rfl, rfl⟩ | ⟨o, ob, rfl, _⟩ <;> exact q
section
variable (cf : CallK) (fuel : Nat) {K : AV → Hp → Prop}
theorem SomeL4_run (hS : cf 25 = cIdB2 sameI) {h0 : Hp} {t0 t1 t6 v : AV} {Zs : List Z} (hr : Rd h0 11 v (Zs.map Prod.fst)) (hz : ∀ z ∈ Zs, OpH h0 z.1 z.2) {p : Nat} {t n : Int} {rest : List AV} (hat : h0.at p = some ⟨true, 11, .row (I t :: I n :: rest)⟩) (e3 : AV → Hp → Prop) :
    ∀ (d k m : Nat) (b : Bool), k + d = Zs.length → d < m → e3 (.bool (b && (Zs.drop k).all fun z => !sameI z.2.t z.2.n t n)) h0 → s_lagoonlaw15_SomeL4 cf fuel e3 t0 t1 v t6 (.ptr p 0) m (.bool b) (I k) h0
  | d, k, m, b, hk, hm, hK => by
    obtain ⟨m, rfl⟩ : ∃ j, m = j + 1 := ⟨m - 1, by omega⟩
    rw [s_lagoonlaw15_SomeL4_succ]
    unfold s_lagoonlaw15_SomeL4B
    rw [hr.len]
    try dsimp only
    have hb := hr.bound
    have hln : (Zs.map Prod.fst).length = Zs.length := by simp
    rw [hln]
    rw [hln] at hb
    by_cases hkl : k < Zs.length
    · obtain ⟨d, rfl⟩ : ∃ j, d = j + 1 := ⟨d - 1, by omega⟩
      have hdr : Zs.drop k = Zs[k] :: Zs.drop (k + 1) := List.drop_eq_getElem_cons hkl
      rw [hdr, List.all_cons] at hK
      cases b with
      | false =>
        rw [Bool.false_and] at hK
        (try unfold vMov); repeat' (first | refine Step.imp ?_ | (refine Way.mk (fun hp => ?_) (fun hp => ?_) <;> first | contradiction | (exfalso; omega) | skip) | refine LoadG.mkG ?_ | refine LoadsG.mkG ?_ | refine AtG.mkG ?_ | refine StoreG.mkG ?_ | refine CondG.mkG ?_ | fail); (all_goals (try dsimp only))
        exact hK
      | true =>
        rw [Bool.true_and] at hK
        obtain ⟨o, off, kn, c, e, hv, hat2, hc⟩ := hr.openS (i := k) (by simpa using hkl)
        have ck := hc k (by simpa using hkl)
        have hzk := hz Zs[k] (List.getElem_mem hkl)
        rw [List.getElem_map] at ck
        have c2 := cellsO_sub 11 2 0 ck (by omega)
        rw [hzk.head] at c2
        have e1 : ((k : Int) + 1) = ((k + 1 : Nat) : Int) := by omega
        have ih : ∀ b', e3 (.bool (b' && (Zs.drop (k + 1)).all fun z => !sameI z.2.t z.2.n t n)) h0 → s_lagoonlaw15_SomeL4 cf fuel e3 t0 t1 v t6 (.ptr p 0) m (.bool b') (I ((k + 1 : Nat) : Int)) h0 := fun b' q => SomeL4_run hS hr hz hat e3 d (k + 1) m b' (by omega) (by omega) q
        rw [hv, hln]
        rw [hv, hln] at ih
        (try unfold vMov); repeat' (first | refine Step.imp ?_ | (refine Way.mk (fun hp => ?_) (fun hp => ?_) <;> first | contradiction | (exfalso; omega) | skip) | refine LoadG.mk (by simp (disch := (first | omega | (simp only [Hp.next_new, Hp.next_put]; omega))) only [Hp.at_new_self, Hp.at_put_self, Hp.at_new_lt, Hp.at_put_ne, hat] <;> rfl) (by simp only [cellAt_row', setL_cons0, setL_succ, Nat.reduceAdd, Nat.reduceMul, Nat.zero_add, Nat.add_zero, List.getElem?_cons_succ, List.getElem?_cons_zero]; rfl) ?_ | refine LoadsG.mk (by simp (disch := (first | omega | (simp only [Hp.next_new, Hp.next_put]; omega))) only [Hp.at_new_self, Hp.at_put_self, Hp.at_new_lt, Hp.at_put_ne, hat] <;> rfl) (by rfl) ?_ | refine AtG.mkG ?_ | refine StoreG.mk (by simp (disch := (first | omega | (simp only [Hp.next_new, Hp.next_put]; omega))) only [Hp.at_new_self, Hp.at_put_self, Hp.at_new_lt, Hp.at_put_ne, hat] <;> rfl) (by first | omega | (simp; done) | (simp; omega)) ?_ | refine CondG.mkG ?_ | (refine LoadsG.mk2 hat2 c2 (by omega) ?_) | (refine cIdB2_go hS (fun hp => ?_) (fun hp => ?_)) | fail); (all_goals (try dsimp only))
        · rw [e1]
          refine ih false ?_
          rw [hp] at hK
          exact hK
        · rw [e1]
          refine ih true ?_
          rw [hp] at hK
          exact hK
    · have hd : d = 0 := by omega
      subst hd
      rw [List.drop_of_length_le (by omega)] at hK
      simp only [List.all_nil, Bool.and_true] at hK
      (try unfold vMov); repeat' (first | refine Step.imp ?_ | (refine Way.mk (fun hp => ?_) (fun hp => ?_) <;> first | contradiction | (exfalso; omega) | skip) | refine LoadG.mkG ?_ | refine LoadsG.mkG ?_ | refine AtG.mkG ?_ | refine StoreG.mkG ?_ | refine CondG.mkG ?_ | fail); (all_goals (try dsimp only))
      exact hK
theorem SomeL1_run (hS : cf 25 = cIdB2 sameI) (hC : cf 53 = cCut) (hM : cf 54 = cOpB mayO) {h0 : Hp} {v : AV} {els : List (List AV)} {os : List FOp} (hr : Rd h0 11 v els) (ho : OpsR h0 els os) {Q : Nat → Prop} (hQ : ∀ cs ∈ els, ∀ x ∈ cs, SlQ Q x) {most : Nat} (hmo : most ≤ 1000) (hf : most + 1 < fuel) (e0 : AV → Hp → Prop)
    (he : ∀ (v' : AV) (h' : Hp) (Zs : List Z), Ext h0 h' → SlN h' 11 v' (Zs.map Prod.fst) h0.next → (∀ z ∈ Zs, OpH h0 z.1 z.2 ∧ ∀ x ∈ z.1, SlQ Q x) → Zs.map Prod.snd = someO os most → e0 v' h') :
    ∀ (d i fm : Nat) (Zs : List Z) (t5 : AV) (h : Hp), i + d = els.length → d < fm → Ext h0 h → Zs.map Prod.snd = (os.take i).foldl (someStep most) [] → Zs.length ≤ most → (∀ z ∈ Zs, OpH h0 z.1 z.2 ∧ ∀ x ∈ z.1, SlQ Q x) → SlN h 11 t5 (Zs.map Prod.fst) h0.next →
    s_lagoonlaw15_SomeL1 cf fuel e0 v (I most) fm t5 (I i) h
  | d, i, fm, Zs, t5, h, hk, hm, hx, hZ, hZl, hZo, hs => by
    obtain ⟨fm, rfl⟩ : ∃ j, fm = j + 1 := ⟨fm - 1, by omega⟩
    rw [s_lagoonlaw15_SomeL1_succ]
    unfold s_lagoonlaw15_SomeL1B
    have hb := hr.bound
    have hln : (Zs.map Prod.fst).length = Zs.length := by simp
    have hlo := ho.1
    have hs' := hs
    have fin0 : (Zs.map Prod.snd = someO os most) → e0 t5 h := fun q => he t5 h Zs hx hs' hZo q
    rw [hr.len]
    try dsimp only
    by_cases hi : i < els.length
    · have hos : i < os.length := by omega
      have hsplit : someO os most = (os.drop (i + 1)).foldl (someStep most) (someStep most (Zs.map Prod.snd) os[i]) := by
        unfold someO
        conv => lhs; rw [← List.take_append_drop i os, List.foldl_append, List.drop_eq_getElem_cons hos, List.foldl_cons, ← hZ]
      by_cases hmz : Zs.length < most
      · obtain ⟨d, rfl⟩ : ∃ j, d = j + 1 := ⟨d - 1, by omega⟩
        obtain ⟨o, off, kn, c, e, hv, hat, hc⟩ := (hr.mono hx).openS hi
        have ci := hc i hi
        obtain ⟨vd, vs, hcs, hd0, hs0, hn0⟩ := ho.2 i hi hos
        have hQi := hQ _ (List.getElem_mem hi)
        rw [hcs] at ci hQi
        rw [opFlat] at ci
        have e1 : ((i : Int) + 1) = ((i + 1 : Nat) : Int) := by omega
        have hoC : OpH h0 [I (cutO os[i]).t, I (cutO os[i]).n, I (cutO os[i]).seq, I (cutO os[i]).kind, I (cutO os[i]).ot, I (cutO os[i]).on, I (cutO os[i]).pt, I (cutO os[i]).pn, S (cutO os[i]).name, cutA vd os[i].data.length 3000, cutA vs os[i].seen.length 80] (cutO os[i]) :=
          ⟨_, _, rfl, hd0.cut 3000, hs0.cut 80, by show (os[i].name.take 100).length ≤ _; simp; omega⟩
        have hQC : ∀ x ∈ [I (cutO os[i]).t, I (cutO os[i]).n, I (cutO os[i]).seq, I (cutO os[i]).kind, I (cutO os[i]).ot, I (cutO os[i]).on, I (cutO os[i]).pt, I (cutO os[i]).pn, S (cutO os[i]).name, cutA vd os[i].data.length 3000, cutA vs os[i].seen.length 80], SlQ Q x := by
          intro x hx1
          simp only [List.mem_cons, List.not_mem_nil, or_false] at hx1
          rcases hx1 with rfl | rfl | rfl | rfl | rfl | rfl | rfl | rfl | rfl | rfl | rfl
          all_goals first | exact SlQ.I _ _ _ | exact SlQ.S _ _ | exact (hQi _ (by simp [opCells])).cut _ _
        have next : ∀ (Zs' : List Z) (t5' : AV) (h' : Hp), Ext h0 h' → Zs'.map Prod.snd = someStep most (Zs.map Prod.snd) os[i] → Zs'.length ≤ most → (∀ z ∈ Zs', OpH h0 z.1 z.2 ∧ ∀ x ∈ z.1, SlQ Q x) → SlN h' 11 t5' (Zs'.map Prod.fst) h0.next → s_lagoonlaw15_SomeL1 cf fuel e0 v (I most) fm t5' (I ((i + 1 : Nat) : Int)) h' := fun Zs' t5' h' x1 x2 x3 x4 x5 =>
          SomeL1_run hS hC hM hr ho hQ hmo hf e0 he d (i + 1) fm Zs' t5' h' (by omega) (by omega) x1 (by rw [x2, take_snoc os i hos, List.foldl_append, ← hZ]; rfl) x3 x4 x5
        have hstep : someStep most (Zs.map Prod.snd) os[i] = if (mayO (cutO os[i]) && Zs.all fun z => !sameI z.2.t z.2.n (cutO os[i]).t (cutO os[i]).n) = true then Zs.map Prod.snd ++ [cutO os[i]] else Zs.map Prod.snd := by
          unfold someStep
          rw [if_pos (by simpa using hmz), List.all_map]
          rfl
        -- behind the loop over what is there
        have tail : ∀ (b : Bool) (h1 : Hp) (p : Nat), Ext h h1 → h0.next ≤ p → h1.at p = some ⟨true, 11, .row [I (cutO os[i]).t, I (cutO os[i]).n, I (cutO os[i]).seq, I (cutO os[i]).kind, I (cutO os[i]).ot, I (cutO os[i]).on, I (cutO os[i]).pt, I (cutO os[i]).pn, S (cutO os[i]).name, cutA vd os[i].data.length 3000, cutA vs os[i].seen.length 80]⟩ → mayO (cutO os[i]) = b →
            s_lagoonlaw15_SomeL4 cf fuel (s_lagoonlaw15_SomeE3 cf fuel (s_lagoonlaw15_SomeE2 cf fuel (s_lagoonlaw15_SomeL1 cf fuel e0 v (I most) fm) v (I most) (I i)) v (I most) t5 (I i) (.ptr p 0)) v (I most) t5 (I i) (.ptr p 0) fuel (.bool b) (I ((0 : Nat) : Int)) h1 := fun b h1 p x1 hp0 hat1 hmb => by
          have hx1 := hx.trans x1
          have hs1 := hs.ext x1
          refine SomeL4_run cf fuel hS (h0 := h1) (Zs := Zs) (SlN.rd hs1 (by rw [hln]; omega)) (fun z hz => (hZo z hz).1.mono hx1) hat1 _ Zs.length 0 fuel b (by omega) (by omega) ?_
          rw [List.drop_zero]
          unfold s_lagoonlaw15_SomeE3 s_lagoonlaw15_SomeE2
          rw [hmb] at hstep
          cases hq : (b && Zs.all fun z => !sameI z.2.t z.2.n (cutO os[i]).t (cutO os[i]).n) with
          | false =>
            rw [hq, if_neg (by simp)] at hstep
            (try unfold vMov); repeat' (first | refine Step.imp ?_ | (refine Way.mk (fun hp => ?_) (fun hp => ?_) <;> first | contradiction | (exfalso; omega) | skip) | refine LoadG.mkG ?_ | refine LoadsG.mkG ?_ | refine AtG.mkG ?_ | refine StoreG.mkG ?_ | refine CondG.mkG ?_ | fail); (all_goals (try dsimp only))
            rw [e1]
            exact next Zs t5 h1 hx1 hstep.symm hZl hZo hs1
          | true =>
            rw [hq, if_pos rfl] at hstep
            have nx := hx1.next
            (try unfold vMov); repeat' (first | refine Step.imp ?_ | (refine Way.mk (fun hp => ?_) (fun hp => ?_) <;> first | contradiction | (exfalso; omega) | skip) | refine LoadG.mk (by simp (disch := (first | omega | (simp only [Hp.next_new, Hp.next_put]; omega))) only [Hp.at_new_self, Hp.at_put_self, Hp.at_new_lt, Hp.at_put_ne, hat1] <;> rfl) (by simp only [cellAt_row', setL_cons0, setL_succ, Nat.reduceAdd, Nat.reduceMul, Nat.zero_add, Nat.add_zero, List.getElem?_cons_succ, List.getElem?_cons_zero]; rfl) ?_ | refine LoadsG.mk (by simp (disch := (first | omega | (simp only [Hp.next_new, Hp.next_put]; omega))) only [Hp.at_new_self, Hp.at_put_self, Hp.at_new_lt, Hp.at_put_ne, hat1] <;> rfl) (by rfl) ?_ | refine AtG.mkG ?_ | refine StoreG.mk (by simp (disch := (first | omega | (simp only [Hp.next_new, Hp.next_put]; omega))) only [Hp.at_new_self, Hp.at_put_self, Hp.at_new_lt, Hp.at_put_ne, hat1] <;> rfl) (by first | omega | (simp; done) | (simp; omega)) ?_ | refine CondG.mkG ?_ | fail); (all_goals (try dsimp only))
            refine append_own (els := Zs.map Prod.fst) (news := [[I (cutO os[i]).t, I (cutO os[i]).n, I (cutO os[i]).seq, I (cutO os[i]).kind, I (cutO os[i]).ot, I (cutO os[i]).on, I (cutO os[i]).pt, I (cutO os[i]).pn, S (cutO os[i]).name, cutA vd os[i].data.length 3000, cutA vs os[i].seen.length 80]]) (B := h0.next) (h0 := h0) (by repeat (first | exact Ext.refl _ | assumption | apply Ext.new | (refine Ext.put ?_ _ (by first | omega | (simp; done) | (simp; omega))))) (hs1.ext (by repeat (first | exact Ext.refl _ | assumption | apply Ext.new | (refine Ext.put ?_ _ (by first | omega | (simp; done) | (simp; omega)))))) (Nat.le_refl _) (by simp only [Hp.next_new]; omega) ⟨_, 0, true, 1, _, rfl, Hp.at_new_self _ _, rfl⟩ (by intro x hx1; rw [List.mem_singleton.1 hx1]; rfl) (by simp) (by simp; omega) ?_
            intro v' h' k1 k2 k3 k4
            (try unfold vMov); repeat' (first | refine Step.imp ?_ | (refine Way.mk (fun hp => ?_) (fun hp => ?_) <;> first | contradiction | (exfalso; omega) | skip) | refine LoadG.mkG ?_ | refine LoadsG.mkG ?_ | refine AtG.mkG ?_ | refine StoreG.mkG ?_ | refine CondG.mkG ?_ | fail); (all_goals (try dsimp only))
            rw [e1]
            refine next (Zs ++ [(_, cutO os[i])]) v' h' k1 (by rw [hstep]; simp) (by simp; omega) (fun z hz => ?_) (by simpa using k4)
            rcases List.mem_append.1 hz with hz | hz
            · exact hZo z hz
            · rw [List.mem_singleton.1 hz]
              exact ⟨hoC, hQC⟩
        rw [hv] at tail ⊢
        (try unfold vMov); repeat' (first | refine Step.imp ?_ | (refine Way.mk (fun hp => ?_) (fun hp => ?_) <;> first | contradiction | (exfalso; omega) | skip) | refine LoadG.mkG ?_ | refine LoadsG.mkG ?_ | refine AtG.mkG ?_ | refine StoreG.mkG ?_ | refine CondG.mkG ?_ | (refine len_sl hs ?_) | (refine LoadsG.mk2 hat ci (by omega) ?_) | fail); (all_goals (try dsimp only))
        refine cCut_go hC (o := os[i]) (vd := vd) (vs := vs) (hd0.mono hx) (hs0.mono hx) hn0 (fun h1 y1 => ?_)
        have ny := y1.next
        have nx := hx.next
        (try unfold vMov); repeat' (first | refine Step.imp ?_ | (refine Way.mk (fun hp => ?_) (fun hp => ?_) <;> first | contradiction | (exfalso; omega) | skip) | refine LoadG.mkG ?_ | refine LoadsG.mkG ?_ | refine AtG.mkG ?_ | refine StoreG.mkG ?_ | refine CondG.mkG ?_ | (refine cOpB_go hM (hoC.mono (hx.trans (by repeat (first | exact Ext.refl _ | assumption | apply Ext.new | (refine Ext.put ?_ _ (by first | omega | (simp; done) | (simp; omega))))))) (fun hp => ?_) (fun hp => ?_)) | fail); (all_goals (try dsimp only))
        all_goals first
          | exact tail true _ _ (by repeat (first | exact Ext.refl _ | assumption | apply Ext.new | (refine Ext.put ?_ _ (by first | omega | (simp; done) | (simp; omega))))) (by omega) (by rw [Hp.at_put_self]; rfl) hp
          | exact tail false _ _ (by repeat (first | exact Ext.refl _ | assumption | apply Ext.new | (refine Ext.put ?_ _ (by first | omega | (simp; done) | (simp; omega))))) (by omega) (by rw [Hp.at_put_self]; rfl) hp
          | (exfalso; simp at *; omega)
      · have : someStep most (Zs.map Prod.snd) os[i] = Zs.map Prod.snd := by
          unfold someStep
          rw [if_neg (by simpa using hmz)]
        rw [this, some_full _ _ (by simpa using hmz)] at hsplit
        (try unfold vMov); repeat' (first | refine Step.imp ?_ | (refine Way.mk (fun hp => ?_) (fun hp => ?_) <;> first | contradiction | (exfalso; omega) | skip) | refine LoadG.mkG ?_ | refine LoadsG.mkG ?_ | refine AtG.mkG ?_ | refine StoreG.mkG ?_ | refine CondG.mkG ?_ | (refine len_sl hs ?_) | fail); (all_goals (try dsimp only))
        exact fin0 hsplit.symm
    · (try unfold vMov); repeat' (first | refine Step.imp ?_ | (refine Way.mk (fun hp => ?_) (fun hp => ?_) <;> first | contradiction | (exfalso; omega) | skip) | refine LoadG.mkG ?_ | refine LoadsG.mkG ?_ | refine AtG.mkG ?_ | refine StoreG.mkG ?_ | refine CondG.mkG ?_ | fail); (all_goals (try dsimp only))
      refine fin0 ?_
      rw [hZ, List.take_of_length_le (by omega)]
      rfl
theorem Some_run (hS : cf 25 = cIdB2 sameI) (hC : cf 53 = cCut) (hM : cf 54 = cOpB mayO) {h0 : Hp} {v : AV} {els : List (List AV)} {os : List FOp} (hr : Rd h0 11 v els) (ho : OpsR h0 els os) {Q : Nat → Prop} (hQ : ∀ cs ∈ els, ∀ x ∈ cs, SlQ Q x) {most : Nat} (hmo : most ≤ 1000) (hf : most + 1 < fuel) (hf2 : els.length < fuel)
    (hK : ∀ (v' : AV) (h' : Hp) (Zs : List Z), Ext h0 h' → SlN h' 11 v' (Zs.map Prod.fst) h0.next → (∀ z ∈ Zs, OpH h0 z.1 z.2 ∧ ∀ x ∈ z.1, SlQ Q x) → Zs.map Prod.snd = someO os most → K v' h') : s_lagoonlaw15_Some cf fuel v (I most) h0 K := by
  unfold s_lagoonlaw15_Some
  try dsimp only
  exact SomeL1_run cf fuel hS hC hM hr ho hQ hmo hf _ (fun v' h' Zs x1 x2 x3 x4 => by unfold s_lagoonlaw15_SomeE0; exact hK v' h' Zs x1 x2 x3 x4) els.length 0 fuel [] .nilslice h0 (by omega) hf2 (Ext.refl h0) rfl (Nat.zero_le _) (fun z hz => by cases hz) (.inl ⟨rfl, rfl⟩)
end
end Lg

namespace Lg
set_option linter.unusedSimpArgs false
set_option linter.unusedVariables false
set_option maxRecDepth 100000
open Go Go.Am
open Go.Proofs.Ytnhamanffojhfaa.shl
theorem toStr_go {h : Hp} {v : AV} {l : List UInt8} {K : AV → Hp → Prop} (hv : ByH h v l) (hK : K (S l) h) : vToStr v h K := by
  rcases hv with ⟨rfl, rfl⟩ | ⟨o, rfl, rfl⟩ | ⟨o, off, kn, c, e, n, z, rfl, h2, h3, h4, h5, h6, h7⟩
  · exact hK
  · exact hK
  · show asOpt (h.at o) fun e => asByts e.obj fun m z => gd (Nat.ble (off + l.length) m) (forceN l.length fun n => forceN (cutB z off n) fun z => K (.str n z) h)
    rw [h3, asOpt_some, h4]
    show gd (Nat.ble (off + l.length) n) (forceN l.length fun n => forceN (cutB z off n) fun z => K (.str n z) h)
    rw [Nat.ble_eq_true_of_le h5]
    simp only [gd_true, forceN_eq]
    rw [S_of (cutB_lt _ _ _)]
    have := bytesL_cut n z off (off + l.length) (by omega) h5
    rw [show off + l.length - off = l.length by omega, List.drop_take, show off + l.length - off = l.length by omega, h7] at this
    rw [this]
    exact hK
theorem OpH.same {h h' : Hp} {cs : List AV} {a : FOp} (hv : OpH h cs a) (hn : h.next ≤ h'.next) {Q : Nat → Prop} (hq : ∀ x ∈ cs, SlQ Q x) (hs : ∀ q, Q q → q < h.next → h'.at q = h.at q) : OpH h' cs a := by
  obtain ⟨vd, vs, rfl, h1, h2, h3⟩ := hv
  exact ⟨vd, vs, rfl, h1.same hn (fun o off n kn c e q => hs o (hq vd (by simp [opCells]) o off n kn c e) q), h2.same hn (fun o off n kn c e q => hs o (hq vs (by simp [opCells]) o off n kn c e) q), h3⟩
theorem OpH.old {h : Hp} {cs : List AV} {a : FOp} (hv : OpH h cs a) : ∀ x ∈ cs, SlQ (fun o => o < h.next) x := by
  obtain ⟨vd, vs, rfl, h1, h2, h3⟩ := hv
  intro x hx
  simp only [opCells, List.mem_cons, List.not_mem_nil, or_false] at hx
  rcases hx with rfl | rfl | rfl | rfl | rfl | rfl | rfl | rfl | rfl | rfl | rfl
  all_goals first | exact SlQ.I _ _ _ | exact SlQ.S _ _ | exact fun o off n kn c e => ByH.lt h1 e | exact fun o off n kn c e => VecH.lt h2 e
/-- What adding comes to. -/
def addR (os : List FOp) (a : FOp) : Int × List FOp := if (mayO a && decide (a.kind = 4)) = true then (if foundAt os (posS os a.t a.n) a.t a.n = true then (17, os) else (0, insS os a)) else (22, os)
def cAdd : ConD := fun args h K => ∃ fo os F ca a, args = [.ptr fo 0, .agg ca] ∧ FileS h fo os F ∧ os.length ≤ 1000000 ∧ OpH h ca a ∧
  ∀ h' F', h.next ≤ h'.next → (∀ q, q < h.next → ¬ F q → h'.at q = h.at q) → FileS h' fo (addR os a).2 F' → (∀ q, F' q → F q ∨ h.next ≤ q) → ((addR os a).1 ≠ 0 → Ext h h') → K (I (addR os a).1) h'
theorem cAdd_go {cf : CallK} {g : FuncId} (hg : cf g = cAdd) {h : Hp} {fo : Nat} {os : List FOp} {F : Nat → Prop} {ca : List AV} {a : FOp} {K : AV → Hp → Prop} (hf : FileS h fo os F) (hl : os.length ≤ 1000000) (ha : OpH h ca a)
    (hK : ∀ h' F', h.next ≤ h'.next → (∀ q, q < h.next → ¬ F q → h'.at q = h.at q) → FileS h' fo (addR os a).2 F' → (∀ q, F' q → F q ∨ h.next ≤ q) → ((addR os a).1 ≠ 0 → Ext h h') → K (I (addR os a).1) h') : cf g [.ptr fo 0, .agg ca] h K := by
  rw [hg]; exact ⟨fo, os, F, ca, a, rfl, hf, hl, ha, hK⟩
def cNew : ConD := fun args h K => args = [] ∧ ∀ fo h', Ext h h' → h.next ≤ fo → fo < h'.next → h'.at fo = some ⟨true, 1, .row [.nilslice]⟩ → K (.ptr fo 0) h'
theorem cNew_go {cf : CallK} {g : FuncId} (hg : cf g = cNew) {h : Hp} {K : AV → Hp → Prop} (hK : ∀ fo h', Ext h h' → h.next ≤ fo → fo < h'.next → h'.at fo = some ⟨true, 1, .row [.nilslice]⟩ → K (.ptr fo 0) h') : cf g [] h K := by
  rw [hg]; exact ⟨rfl, hK⟩
theorem trueC_go {cf : CallK} {g : FuncId} (hg : cf g = trueC) {h : Hp} {K : AV → Hp → Prop} (hK : K (.bool true) h) : cf g [] h K := by
  rw [hg]; exact ⟨rfl, hK⟩
def cSome : ConD := fun args h K => ∃ v els os Q, ∃ most : Nat, args = [v, I most] ∧ Rd h 11 v els ∧ OpsR h els os ∧ (∀ cs ∈ els, ∀ x ∈ cs, SlQ Q x) ∧ most ≤ 1000 ∧
  ∀ v' h' (Zs : List Z), Ext h h' → SlN h' 11 v' (Zs.map Prod.fst) h.next → (∀ z ∈ Zs, OpH h z.1 z.2 ∧ ∀ x ∈ z.1, SlQ Q x) → Zs.map Prod.snd = someO os most → K v' h'
theorem cSome_go {cf : CallK} {g : FuncId} (hg : cf g = cSome) {h : Hp} {v : AV} {els : List (List AV)} {os : List FOp} {Q : Nat → Prop} (most : Nat) {i : Int} (hi : i = most) {K : AV → Hp → Prop} (hr : Rd h 11 v els) (ho : OpsR h els os) (hQ : ∀ cs ∈ els, ∀ x ∈ cs, SlQ Q x) (hm : most ≤ 1000)
    (hK : ∀ v' h' (Zs : List Z), Ext h h' → SlN h' 11 v' (Zs.map Prod.fst) h.next → (∀ z ∈ Zs, OpH h z.1 z.2 ∧ ∀ x ∈ z.1, SlQ Q x) → Zs.map Prod.snd = someO os most → K v' h') : cf g [v, .int .i64 i] h K := by
  subst hi
  rw [hg]; exact ⟨v, els, os, Q, most, rfl, hr, ho, hQ, hm, hK⟩
section
variable (cf : CallK) (fuel : Nat) {h : Hp} {K : AV → Hp → Prop}
theorem Add_run2 (hM : cf 55 = cOpB mayO) (hB : cf 56 = cBS) (hO : cf 22 = cOf) (hI : cf 59 = insH 5 72)
    {fo : Nat} {os : List FOp} {F : Nat → Prop} (hf : FileS h fo os F) (hlen : os.length ≤ 1000000) {ca : List AV} {a : FOp} (ha : OpH h ca a)
    (hK : ∀ h' F', h.next ≤ h'.next → (∀ q, q < h.next → ¬ F q → h'.at q = h.at q) → FileS h' fo (addR os a).2 F' → (∀ q, F' q → F q ∨ h.next ≤ q) → ((addR os a).1 ≠ 0 → Ext h h') → K (I (addR os a).1) h') : s_content_File_Add cf fuel (.ptr fo 0) (.agg ca) h K := by
  have stay : ∀ h', Ext h h' → addR os a = ((addR os a).1, os) → K (I (addR os a).1) h' := fun h' hx e => by
    refine hK h' F hx.next (fun q hq _ => hx.same q hq) ?_ (fun q hq => .inl hq) (fun _ => hx)
    rw [e]
    exact hf.ext hx
  refine Add_run cf fuel hM hB hO hI hf hlen ha (fun q h' hx => ?_) (fun q q2 h' hx => ?_) (fun q q2 h' F' y1 y2 y3 y4 => ?_)
  · have e : addR os a = (22, os) := by unfold addR; rw [q]; rfl
    have := stay h' hx (by rw [e])
    rw [e] at this; exact this
  · have e : addR os a = (17, os) := by unfold addR; rw [q, q2]; rfl
    have := stay h' hx (by rw [e])
    rw [e] at this; exact this
  · have e : addR os a = (0, insS os a) := by unfold addR; rw [q, q2]; rfl
    rw [e] at hK
    exact hK h' F' y1 y2 y3 y4 (fun z => absurd rfl z)
theorem New_run2 (hK : ∀ fo h', Ext h h' → h.next ≤ fo → fo < h'.next → h'.at fo = some ⟨true, 1, .row [.nilslice]⟩ → K (.ptr fo 0) h') : s_content_New cf fuel h K :=
  New_run cf fuel (fun fo h' x1 x2 x3 => hK fo h' x1 x3 x2.1 x2.2.1)
end
end Lg

