/-
  A region whose acting operations may come in more than one order: the machine goes through each of them.
-/
import Derived.Test.YtbefkepinpollaaGreatDoorAmDraw4
namespace Go.Am
set_option linter.unusedSimpArgs false
set_option linter.unusedVariables false
open Go Go.RowKit
variable {P : Program} {B : Nat} {w0 : W0} {cf : CallK} {ops : Array Oper} {l : List AOper} {fr0 : Fr} {K : Fr → Hp → Prop} {items : List Item} {n : Nat}

theorem seqL_get (σ : List Nat) : ∀ (L : List Oper) (k i : Nat), (seqL σ k L)[i]? = (L[i]?).map (moreE σ (k + i))
  | [], k, i => by simp [seqL]
  | o :: L, k, i => by
    cases i with
    | zero => rfl
    | succ i =>
      simp only [seqL, List.getElem?_cons_succ]
      rw [seqL_get σ L (k + 1) i, show k + 1 + i = k + (i + 1) by omega]
theorem seqL_length (σ : List Nat) : ∀ (L : List Oper) (k : Nat), (seqL σ k L).length = L.length
  | [], k => rfl
  | o :: L, k => by simp [seqL, seqL_length σ L (k + 1)]
theorem seqE_get (σ : List Nat) (ops : Array Oper) (i : Nat) : (seqE σ ops)[i]? = (ops[i]?).map (moreE σ i) := by
  have h := seqL_get σ ops.toList 0 i
  simp only [Nat.zero_add] at h
  simp only [seqE, List.getElem?_toArray, h, Array.getElem?_toList]
theorem seqE_size (σ : List Nat) (ops : Array Oper) : (seqE σ ops).size = ops.size := by simp [seqE, seqL_length]

theorem guardOf_seq (σ : List Nat) (g : Option (Nat × Bool)) : guardOf (seqE σ ops) g = guardOf ops g := by
  cases g with
  | none => rfl
  | some p =>
    obtain ⟨j, w⟩ := p
    simp only [guardOf, seqE_get]
    cases ops[j]? <;> rfl
theorem compOper_seq (σ : List Nat) (i : Nat) (o : Oper) : compOper P n (seqE σ ops) (moreE σ i o) = compOper P n ops o := by
  have h1 : compOp P (moreE σ i o) = compOp P o := rfl
  have h2 : (moreE σ i o).dst = o.dst := rfl
  have h3 : (moreE σ i o).guard = o.guard := rfl
  simp only [compOper, h1, h2, h3, guardOf_seq]
theorem compOps_seq (σ : List Nat) : ∀ (L : List Oper) (k : Nat), compOps P n (seqE σ ops) (seqL σ k L) = compOps P n ops L
  | [], k => rfl
  | o :: L, k => by
    simp only [seqL, compOps]
    rw [compOps_seq σ L (k + 1)]
    rw [compOper_seq]
theorem wpOps_seq (σ : List Nat) {Q : Exit → Act → World → Prop} : ∀ (L : List Nat) (a : Act) (w : World), wpOps P (seqE σ ops) Q L a w ↔ wpOps P ops Q L a w
  | [], a, w => Iff.rfl
  | i :: L, a, w => by
    have ih : wpOps P (seqE σ ops) Q L = wpOps P ops Q L := funext fun a => funext fun w => propext (wpOps_seq σ L a w)
    have hy : ∀ t, yielded (seqE σ ops) t = yielded ops t := by
      intro t
      funext j
      simp only [yielded, seqE_get]
      cases ops[j]? <;> rfl
    simp only [wpOps, seqE_get, ih, hy]
    cases ops[i]? with
    | none => exact Iff.rfl
    | some o => exact Iff.rfl

theorem headOf_eq (i : Nat) : ∀ (A B : List Nat), i ∉ A → headOf i (A ++ i :: B) = A
  | [], B, _ => by simp [headOf]
  | x :: A, B, h => by
    have hx : x ≠ i := fun e => h (by simp [e])
    have hb : Nat.beq x i = false := by
      cases hq : Nat.beq x i with
      | false => rfl
      | true => exact absurd (Nat.eq_of_beq_eq_true hq) hx
    simp only [List.cons_append, headOf, hb]
    rw [headOf_eq i A B (fun hm => h (by simp [hm]))]

theorem set_iff {listed : Array Bool} (hsz : listed.size = ops.size) {i : Nat} (hi : i < ops.size) : ∀ j, (listed.setIfInBounds i true).getD j false = true ↔ j = i ∨ listed.getD j false = true := by
  intro j
  rw [Array.getD_eq_getD_getElem?, Array.getElem?_setIfInBounds]
  by_cases hj : i = j
  · subst hj; simp [show i < listed.size by omega]
  · rw [if_neg hj, ← Array.getD_eq_getD_getElem?]
    constructor
    · exact .inr
    · rintro (h | h)
      · exact absurd h.symm hj
      · exact h
theorem ready_parts {listed : Array Bool} (hsz : listed.size = ops.size) {i : Nat} (hi : i ∈ Region.ready .any ops listed) : i < ops.size ∧ listed.getD i false = false ∧ ∀ o, ops[i]? = some o → ∀ e ∈ o.after.toList, Region.binds .any e = true → listed.getD e.on false = true := by
  unfold Region.ready at hi
  rw [List.mem_filter] at hi
  obtain ⟨hi1, hi2⟩ := hi
  have hiN := List.mem_range.1 hi1
  simp only [Bool.and_eq_true, Bool.not_eq_true'] at hi2
  obtain ⟨hi2, hi3⟩ := hi2
  refine ⟨hiN, ?_, fun o ho e he hb => ?_⟩
  · have hlt : i < listed.size := by omega
    simp [hlt] at hi2 ⊢; exact hi2
  · rw [ho] at hi3
    simp only [Option.map_some, Option.getD_some, Array.all_eq_true_iff_forall_mem] at hi3
    have := hi3 e (by simpa using he)
    simpa [hb] using this

/-- The order of the acting ones is among those that the machine goes through. -/
theorem alt_mem (acts : List Nat) (p : Nat → Bool) (hp : ∀ i, i < ops.size → (p i = true ↔ i ∈ acts)) : ∀ (L : List Nat) (listed : Array Bool) (f : Nat) (done U : List Nat), listed.size = ops.size → Closed ops (fun i => listed.getD i false = true) → VEnd ops listed L →
    (∀ i ∈ acts, i < ops.size) → (∀ i ∈ acts, listed.getD i false = true ↔ i ∈ done) → (∀ i ∈ acts, i ∉ done → i ∈ U) → U.length ≤ f → L.filter p ∈ extsF acts (masks ops.toList []) f done
  | [], listed, f, done, U, hsz, hcl, hV, hlt, hd, hU, hl => by
    cases f with
    | zero => simp [extsF]
    | succ f =>
      have : (acts.filter fun i => !(done.contains i) && acts.all fun j => !(((masks ops.toList []).getD i 0).testBit j) || (done.contains j || Nat.beq j i)) = [] := by
        rw [List.filter_eq_nil_iff]
        intro i hi
        have : i ∈ done := (hd i hi).1 (hV i (hlt i hi))
        simp [this]
      simp only [extsF]
      rw [this]
      simp
  | i :: L, listed, f, done, U, hsz, hcl, ⟨hi, hV⟩, hlt, hd, hU, hl => by
    obtain ⟨hiN, hiF, hiE⟩ := ready_parts hsz hi
    have hS' := set_iff hsz hiN
    have hcl' : Closed ops (fun j => (listed.setIfInBounds i true).getD j false = true) := by
      intro j oj e hj hoj he hb
      rcases (hS' j).1 hj with rfl | hj
      · exact (hS' _).2 (.inr (hiE oj hoj e he hb))
      · exact (hS' _).2 (.inr (hcl j oj e hj hoj he hb))
    cases hpi : p i with
    | false =>
      have hia : i ∉ acts := fun h => by rw [(hp i hiN).2 h] at hpi; cases hpi
      rw [List.filter_cons, hpi]
      simp only [Bool.false_eq_true, if_false]
      refine alt_mem acts p hp L _ f done U (by simpa using hsz) hcl' hV hlt (fun j hj => ?_) hU hl
      rw [hS', ← hd j hj]
      constructor
      · rintro (e | e)
        · exact absurd (e ▸ hj) hia
        · exact e
      · exact .inr
    | true =>
      have hia : i ∈ acts := (hp i hiN).1 hpi
      have hid : i ∉ done := fun h => by rw [(hd i hia).2 h] at hiF; cases hiF
      have hiU := hU i hia hid
      cases f with
      | zero =>
        have : U = [] := List.eq_nil_of_length_eq_zero (by omega)
        rw [this] at hiU; simp at hiU
      | succ f =>
        rw [List.filter_cons, hpi]
        simp only [if_true]
        have hmem : i ∈ acts.filter fun i => !(done.contains i) && acts.all fun j => !(((masks ops.toList []).getD i 0).testBit j) || (done.contains j || Nat.beq j i) := by
          rw [List.mem_filter]
          refine ⟨hia, ?_⟩
          simp only [Bool.and_eq_true, Bool.not_eq_true', List.all_eq_true, Bool.or_eq_true]
          refine ⟨by simpa using hid, fun j hj => ?_⟩
          cases hb : ((masks ops.toList []).getD i 0).testBit j with
          | false => exact .inl rfl
          | true =>
            right
            have := masks_ok ops ops.toList [] (by simp) (fun j i hb => by simp at hb) i j hb _ hcl' ((hS' i).2 (.inl rfl))
            rcases (hS' j).1 this with e | e
            · right; subst e; exact Nat.beq_refl _
            · left; simpa using (hd j hj).1 e
        have hrec : L.filter p ∈ extsF acts (masks ops.toList []) f (done ++ [i]) := by
          refine alt_mem acts p hp L _ f (done ++ [i]) (U.erase i) (by simpa using hsz) hcl' hV hlt (fun j hj => ?_) (fun j hj hjd => ?_) (by rw [List.length_erase_of_mem hiU]; omega)
          · rw [hS', hd j hj]
            simp only [List.mem_append, List.mem_singleton]
            exact or_comm
          · simp only [List.mem_append, List.mem_singleton, not_or] at hjd
            exact (List.mem_erase_of_ne hjd.2).2 (hU j hj hjd.1)
        simp only [extsF]
        split
        · rename_i e; rw [e] at hmem; simp at hmem
        · rename_i x r e
          rw [e] at hmem
          rw [List.mem_flatMap]
          exact ⟨i, hmem, List.mem_map.2 ⟨_, hrec, rfl⟩⟩

theorem vend_seq (p : Nat → Bool) (σ : List Nat) : ∀ (L : List Nat) (listed : Array Bool) (A : List Nat), listed.size = ops.size → VEnd ops listed L → σ = A ++ L.filter p → (∀ i ∈ σ, p i = true) → (∀ i ∈ A, listed.getD i false = true) → VEnd (seqE σ ops) listed L
  | [], listed, A, hsz, hV, hσ, hp, hA => by
    intro i hi
    rw [seqE_size] at hi
    exact hV i hi
  | i :: L, listed, A, hsz, ⟨hi, hV⟩, hσ, hp, hA => by
    obtain ⟨hiN, hiF, hiE⟩ := ready_parts hsz hi
    have hS' := set_iff hsz hiN
    refine ⟨?_, ?_⟩
    · unfold Region.ready at hi ⊢
      rw [List.mem_filter] at hi ⊢
      refine ⟨by rw [seqE_size]; exact hi.1, ?_⟩
      have hi2 := hi.2
      simp only [Bool.and_eq_true] at hi2 ⊢
      refine ⟨hi2.1, ?_⟩
      rw [seqE_get]
      have ho : ops[i]? = some ops[i] := by simp [hiN]
      rw [ho]
      simp only [Option.map_some, Option.getD_some, Array.all_eq_true_iff_forall_mem]
      intro e he
      simp only [moreE, List.mem_toArray, List.mem_append] at he
      cases hb : Region.binds .any e with
      | false => rfl
      | true =>
        simp only [Bool.not_true, Bool.false_or]
        rcases he with he | he
        · exact hiE _ ho e he hb
        · split at he
          · rename_i hc
            have hiσ : i ∈ σ := by simpa using hc
            have hpi := hp i hiσ
            rw [List.filter_cons, hpi] at hσ
            simp only [if_true] at hσ
            have hiA : i ∉ A := fun h => by rw [hA i h] at hiF; cases hiF
            rw [hσ, headOf_eq i A _ hiA] at he
            obtain ⟨q, hq, rfl⟩ := List.mem_map.1 he
            exact hA q hq
          · simp at he
    · cases hpi : p i with
      | false =>
        rw [List.filter_cons, hpi] at hσ
        simp only [Bool.false_eq_true, if_false] at hσ
        exact vend_seq p σ L _ A (by simpa using hsz) hV hσ hp (fun j hj => (hS' j).2 (.inr (hA j hj)))
      | true =>
        rw [List.filter_cons, hpi] at hσ
        simp only [if_true] at hσ
        refine vend_seq p σ L _ (A ++ [i]) (by simpa using hsz) hV (by rw [hσ]; simp) hp (fun j hj => ?_)
        rcases List.mem_append.1 hj with hj | hj
        · exact (hS' j).2 (.inr (hA j hj))
        · simp at hj; exact (hS' j).2 (.inl hj)

theorem allD_mem {fr : Fr} {h : Hp} : ∀ (ds : List RegD), allD ds cf fr h K → ∀ d ∈ ds, d cf fr h K
  | [], _, d, hd => by simp at hd
  | [x], hD, d, hd => by
    simp only [List.mem_singleton] at hd
    subst hd; exact hD
  | x :: y :: ds, hD, d, hd => by
    have hD' : x cf fr h K ∧ allD (y :: ds) cf fr h K := hD
    rcases List.mem_cons.1 hd with rfl | hd
    · exact hD'.1
    · exact allD_mem (y :: ds) hD'.2 d hd

theorem alts_wp (hcf : ∀ w0, CallOK P B w0 cf) (hc : compOps P n ops ops.toList = some l) (hok : altsOK ops l = true)
    {Q : Exit → Act → World → Prop} {fr : Fr} {h : Hp} {κ : Kap} {a : Act} {w : World} (hD : altsD ops l cf fr h K) (s : Sim B w0 κ h w) (hf : FrOK κ n fr a)
    (hq : ∀ κ' fr' h' a' w', κ.le κ' → Sim B w0 κ' h' w' → FrOK κ' n fr' a' → K fr' h' → Q .normal a' w') {L : List Nat} (hV : VEnd ops (Array.replicate ops.size false) L) :
    wpOps P ops Q L a w := by
  simp only [altsOK, Bool.and_eq_true, List.all_eq_true] at hok
  obtain ⟨_, hed, hall⟩ := hok
  have hlen : l.length = ops.size := by
    have : ∀ (L : List Oper) (l : List AOper), compOps P n ops L = some l → l.length = L.length := by
      intro L
      induction L with
      | nil => intro l h; simp [compOps] at h; subst h; rfl
      | cons o L ih =>
        intro l h
        simp only [compOps, Option.bind_eq_some_iff, Option.map_eq_some_iff] at h
        obtain ⟨x, _, r, hr, rfl⟩ := h
        simp [ih r hr]
    simpa using this _ _ hc
  have hS0 : ∀ i, (Array.replicate ops.size false).getD i false = false := by
    intro i
    rw [Array.getD_eq_getD_getElem?, Array.getElem?_replicate]
    split <;> rfl
  have hpa : ∀ i, i < ops.size → (actAt l i = true ↔ i ∈ actsOf l) := by
    intro i hi
    simp only [actsOf, List.mem_filter, List.mem_range]
    exact ⟨fun h => ⟨by omega, h⟩, fun h => h.2⟩
  have hmem : L.filter (actAt l) ∈ altOrds ops l :=
    alt_mem (actsOf l) (actAt l) hpa L _ (actsOf l).length [] (actsOf l) (by simp) (fun i o e hi => by simp only [hS0] at hi; cases hi) hV
      (fun i hi => by have := (List.mem_filter.1 hi).1; have := List.mem_range.1 this; omega) (fun i _ => by simp [hS0]) (fun i hi _ => hi) (Nat.le_refl _)
  have hit := allD_mem _ hD _ (List.mem_map.2 ⟨_, hmem, rfl⟩)
  have hV2 := vend_seq (actAt l) (L.filter (actAt l)) L _ [] (by simp) hV (by simp) (fun i hi => (List.mem_filter.1 hi).2) (fun i hi => by simp at hi)
  rw [← wpOps_seq (L.filter (actAt l))]
  have hc2 : compOps P n (seqE (L.filter (actAt l)) ops) (seqE (L.filter (actAt l)) ops).toList = some l := by
    have := compOps_seq (P := P) (n := n) (ops := ops) (L.filter (actAt l)) ops.toList 0
    rw [hc] at this
    simpa [seqE] using this
  exact draw_list hcf hc2 (hall _ hmem) drawItemsS_of hit s hf hq (by rw [seqE_size]; exact hV2)
end Go.Am
