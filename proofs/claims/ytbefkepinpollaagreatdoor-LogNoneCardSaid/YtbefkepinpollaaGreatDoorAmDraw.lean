/-
  A region that draws its order: in whatever order it is done, it comes to what the machine's order comes to.
-/
import Derived.Test.YtbefkepinpollaaGreatDoorAmRun
namespace Go.Am
set_option linter.unusedSimpArgs false
set_option linter.unusedVariables false
open Go Go.RowKit
variable {P : Program}

/-! ### the checks, as facts -/
theorem compOps_get {n : Nat} {ops : Array Oper} : ∀ (L : List Oper) (l : List AOper), compOps P n ops L = some l → ∀ (i : Nat) (o : Oper), L[i]? = some o → ∃ x, l[i]? = some x ∧ compOper P n ops o = some x
  | [], l, h, i, o, ho => by simp at ho
  | o' :: L, l, h, i, o, ho => by
    simp only [compOps, Option.bind_eq_some_iff, Option.map_eq_some_iff] at h
    obtain ⟨x, hx, r, hr, rfl⟩ := h
    cases i with
    | zero => simp at ho; subst ho; exact ⟨x, by simp, hx⟩
    | succ i => simpa using compOps_get L r hr i o (by simpa using ho)
theorem dstOf_eq {n : Nat} {d : Option Tmp} {d' : Option GPos} (h : dstOf n d = some d') : d' = d.map gpos ∧ ∀ t, d = some t → t < n := by
  cases d with
  | none => simp [dstOf] at h; subst h; simp
  | some d =>
    simp only [dstOf] at h
    split at h
    · rename_i hlt
      simp at h; subst h
      exact ⟨rfl, fun t ht => by cases ht; simpa using hlt⟩
    · cases h

/-- What has been done, with all that must be ahead of it. -/
def Closed (ops : Array Oper) (S : Nat → Prop) : Prop := ∀ i o e, S i → ops[i]? = some o → e ∈ o.after.toList → Region.binds .any e = true → S e.on
theorem foldl_bits (acc : List Nat) (i : Nat) : ∀ (es : List Edge) (s : Nat), (es.foldl (fun s e => Nat.lor s (Nat.lor (2 ^ e.on) (acc.getD e.on 0))) s).testBit i = true →
    s.testBit i = true ∨ ∃ e ∈ es, i = e.on ∨ (acc.getD e.on 0).testBit i = true
  | [], s, h => .inl h
  | e :: es, s, h => by
    simp only [List.foldl_cons] at h
    rcases foldl_bits acc i es _ h with h | ⟨e', he, h⟩
    · have h' : (s ||| (2 ^ e.on ||| acc.getD e.on 0)).testBit i = true := h
      simp only [Nat.testBit_or, Bool.or_eq_true] at h'
      rcases h' with h | h | h
      · exact .inl h
      · right; refine ⟨e, by simp, .inl ?_⟩
        rw [Nat.testBit_two_pow] at h; exact (by simpa using h : e.on = i).symm
      · exact .inr ⟨e, by simp, .inr h⟩
    · exact .inr ⟨e', by simp [he], h⟩
theorem masks_ok (ops : Array Oper) : ∀ (L : List Oper) (acc : List Nat), ops.toList.drop acc.length = L → (∀ j i, (acc.getD j 0).testBit i = true → ∀ S, Closed ops S → S j → S i) →
    ∀ j i, ((masks L acc).getD j 0).testBit i = true → ∀ S, Closed ops S → S j → S i
  | [], acc, _, h => h
  | o :: L, acc, hd, h => by
    have ho : ops[acc.length]? = some o := by
      have := congrArg (fun l : List Oper => l[0]?) hd
      simpa [List.getElem?_drop] using this
    simp only [masks, forceN_eq]
    refine masks_ok ops L _ (by simp only [List.length_append, List.length_singleton]; rw [← List.drop_drop, hd]; rfl) fun j i hb S hS hj => ?_
    by_cases hlt : j < acc.length
    · rw [List.getD_eq_getElem?_getD, List.getElem?_append_left hlt, ← List.getD_eq_getElem?_getD] at hb
      exact h j i hb S hS hj
    · by_cases he : j = acc.length
      · subst he
        rw [List.getD_eq_getElem?_getD, List.getElem?_append_right (by omega)] at hb
        simp only [Nat.sub_self, List.getElem?_cons_zero, Option.getD_some] at hb
        rcases foldl_bits acc i _ 0 hb with hb | ⟨e, he, hb⟩
        · simp at hb
        · simp only [List.mem_filter] at he
          have hon := hS _ o e hj ho he.1 he.2
          rcases hb with rfl | hb
          · exact hon
          · exact h e.on i hb S hS hon
      · rw [List.getD_eq_getElem?_getD, List.getElem?_eq_none (by simp; omega)] at hb
        simp at hb
theorem noDup_iff : ∀ (l : List Nat), noDup l = true → l.Nodup
  | [], _ => List.nodup_nil
  | x :: l, h => by
    simp only [noDup, Bool.and_eq_true, Bool.not_eq_true', List.any_eq_false] at h
    refine List.nodup_cons.2 ⟨fun hx => ?_, noDup_iff l h.2⟩
    have := h.1 x hx
    simp at this
theorem pairs_mem {ops : Array Oper} {l : List AOper} {ms : List Nat} {fl : Option Nat} : ∀ (A : List Nat) (x : Nat) (B : List Nat), pairsOK ops l ms fl (A ++ x :: B) = true → ∀ y ∈ B, pairOK ops l ms fl x y = true
  | [], x, B, h, y, hy => by
    simp only [List.nil_append, pairsOK, Bool.and_eq_true, List.all_eq_true] at h
    exact h.1 y hy
  | a :: A, x, B, h, y, hy => by
    simp only [List.cons_append, pairsOK, Bool.and_eq_true] at h
    exact pairs_mem A x B h.2 y hy
theorem keeps_mem {ops : Array Oper} {cs : List Nat} : ∀ (A : List Nat) (x : Nat) (B : List Nat), keepsOK ops cs (A ++ x :: B) = true → x ∈ cs → ∀ y ∈ B, wrecks ops x y = false
  | [], x, B, h, hx, y, hy => by
    simp only [List.nil_append, keepsOK, Bool.and_eq_true, Bool.or_eq_true, Bool.not_eq_true', List.all_eq_true] at h
    rcases h.1 with h1 | h1
    · simp [List.contains_iff_mem, hx] at h1
    · exact h1 y hy
  | a :: A, x, B, h, hx, y, hy => by
    simp only [List.cons_append, keepsOK, Bool.and_eq_true] at h
    exact keeps_mem A x B h.2 hx y hy
theorem edges_ok : ∀ (L : List Oper) (k : Nat), edgesOK k L = true → ∀ (i : Nat) (o : Oper) (e : Edge), L[i]? = some o → e ∈ o.after.toList → Region.binds .any e = true → e.on < k + i
  | [], k, _, i, o, e, ho, _, _ => by simp at ho
  | o' :: L, k, h, i, o, e, ho, he, hb => by
    simp only [edgesOK, Bool.and_eq_true, List.all_eq_true] at h
    cases i with
    | zero =>
      simp at ho; subst ho
      have := h.1 e he
      simp [hb] at this
      omega
    | succ i =>
      have := edges_ok L (k + 1) h.2 i o e (by simpa using ho) he hb
      omega

/-! ### frames -/
noncomputable def FL (ops : Array Oper) (val : Nat → AV) (L : List Nat) (fr : Fr) : Fr := L.foldl (fun fr i => updD ((dstAt ops i).map gpos) (val i) fr) fr
theorem getS_updD (d : Option Tmp) (v : AV) (fr : Fr) (t : Tmp) : getS (updD (d.map gpos) v fr) (gpos t) = if d = some t then v else getS fr (gpos t) := by
  cases d with
  | none => simp [updD]
  | some d =>
    simp only [Option.map_some, updD, Option.some.injEq]
    split
    · rename_i h; subst h; exact getS_upd_self _ _ _
    · rename_i h; exact getS_upd_ne _ _ (fun e => h (gpos_inj e))
section
variable {ops : Array Oper}
theorem FL_snoc (val : Nat → AV) (L : List Nat) (i : Nat) (fr : Fr) : FL ops val (L ++ [i]) fr = updD ((dstAt ops i).map gpos) (val i) (FL ops val L fr) := by simp [FL]
theorem FL_congr {val val' : Nat → AV} : ∀ (L : List Nat) (fr : Fr), (∀ i ∈ L, val i = val' i) → FL ops val L fr = FL ops val' L fr
  | [], fr, _ => rfl
  | i :: L, fr, h => by
    simp only [FL, List.foldl_cons]
    rw [h i (by simp)]
    exact FL_congr L _ (fun j hj => h j (by simp [hj]))
theorem FL_two (val : Nat → AV) (t : Tmp) : ∀ (L M : List Nat) (fr fr' : Fr), L.filter (fun i => dstAt ops i == some t) = M.filter (fun i => dstAt ops i == some t) → getS fr (gpos t) = getS fr' (gpos t) →
    getS (FL ops val L fr) (gpos t) = getS (FL ops val M fr') (gpos t) := by
  have one : ∀ (L : List Nat) (fr fr' : Fr), getS fr (gpos t) = getS fr' (gpos t) → getS (FL ops val L fr) (gpos t) = getS (FL ops val (L.filter (fun i => dstAt ops i == some t)) fr') (gpos t) := by
    intro L
    induction L with
    | nil => intro fr fr' h; exact h
    | cons i L ih =>
      intro fr fr' h
      by_cases hd : dstAt ops i = some t
      · have : (dstAt ops i == some t) = true := by simpa using hd
        simp only [List.filter_cons, this, if_true]
        exact ih _ _ (by rw [getS_updD, getS_updD, if_pos hd, if_pos hd])
      · have : (dstAt ops i == some t) = false := by simpa using hd
        simp only [List.filter_cons, this, Bool.false_eq_true, if_false]
        exact ih _ _ (by rw [getS_updD, if_neg hd]; exact h)
  intro L M fr fr' hf h
  rw [one L fr fr rfl, hf, ← one M fr' fr h.symm]
theorem FL_last (val : Nat → AV) (t : Tmp) (A : List Nat) (i : Nat) (C : List Nat) (fr : Fr) (hi : dstAt ops i = some t) (hC : ∀ j ∈ C, dstAt ops j ≠ some t) : getS (FL ops val (A ++ i :: C) fr) (gpos t) = val i := by
  have h1 : getS (FL ops val (A ++ i :: C) fr) (gpos t) = getS (FL ops val (A ++ [i]) fr) (gpos t) := by
    refine FL_two val t _ _ fr fr ?_ rfl
    have : C.filter (fun i => dstAt ops i == some t) = [] := by
      rw [List.filter_eq_nil_iff]
      intro j hj
      simpa using hC j hj
    simp [List.filter_append, List.filter_cons, this]
  rw [h1, FL_snoc, getS_updD, if_pos hi]
def Total (κ : Kap) (fr : Fr) : Prop := ∀ t, ∃ V, gam κ (getS fr (gpos t)) = some V
theorem Total.upd {κ : Kap} {fr : Fr} (h : Total κ fr) (d : Option Tmp) {v : AV} (hv : ∃ V, gam κ v = some V) : Total κ (updD (d.map gpos) v fr) := by
  intro t
  rw [getS_updD]
  split
  · exact hv
  · exact h t
theorem Total.FL {κ : Kap} {val : Nat → AV} : ∀ (L : List Nat) (fr : Fr), Total κ fr → (∀ i ∈ L, ∃ V, gam κ (val i) = some V) → Total κ (FL ops val L fr)
  | [], fr, h, _ => h
  | i :: L, fr, h, hv => Total.FL L _ (h.upd _ (hv i (by simp))) (fun j hj => hv j (by simp [hj]))
theorem Total.rho {κ : Kap} {fr : Fr} (h : Total κ fr) : ∃ ρ : Operand → Value, Rho κ fr ρ ∧ (∀ t, gam κ (getS fr (gpos t)) = some (ρ (.tmp t))) ∧ (∀ v, ρ (.const v) = v) ∧ (∀ f, ρ (.func f) = .func (.func f) #[] #[]) ∧ (∀ g, ρ (.global g) = .pointer (some ⟨g, 0, none⟩)) := by
  refine ⟨fun | .tmp t => Classical.choose (h t) | .const v => v | .func f => .func (.func f) #[] #[] | .global g => .pointer (some ⟨g, 0, none⟩), ?_, ?_, fun _ => rfl, fun _ => rfl, fun _ => rfl⟩
  · exact opd_rho (fun t => Classical.choose_spec (h t)) (fun _ => rfl) (fun _ => rfl) (fun _ => rfl)
  · exact fun t => Classical.choose_spec (h t)
theorem exec_same {κ : Kap} {fr : Fr} {ρ : Operand → Value} {o : Oper} {a : Act} (hs : ∀ cs b, o.op ≠ .select cs b) (h1 : ∀ t, gam κ (getS fr (gpos t)) = some (ρ (.tmp t))) (h2 : ∀ v, ρ (.const v) = v) (h3 : ∀ f, ρ (.func f) = .func (.func f) #[] #[]) (h4 : ∀ g, ρ (.global g) = .pointer (some ⟨g, 0, none⟩))
    (hl : ∀ t ∈ Oper.looksAt ops o, gam κ (getS fr (gpos t)) = some (a.tmps.getD t undef)) : execOp a.eval o = execOp ρ o := by
  refine execOp_congr o hs fun x hx => ?_
  cases x with
  | tmp t =>
    have ht : t ∈ Oper.looksAt ops o := by
      unfold Oper.looksAt
      refine List.mem_append.2 (.inl (List.mem_filterMap.2 ⟨.tmp t, by simpa using hx, rfl⟩))
    have e1 := hl t ht
    rw [h1 t] at e1
    exact (Option.some.inj e1).symm
  | const v => exact (h2 v).symm
  | func f => exact (h3 f).symm
  | global g => exact (h4 g).symm
theorem no_select {a : AOp} {o : Oper} (h : compOp P o = some a) : ∀ cs b, o.op ≠ .select cs b := by
  intro cs b e
  simp [compOp, e] at h
end
theorem sameB_eq : ∀ (l m : List (Nat × Int × Int)), sameB l m = true → l = m
  | [], [], _ => rfl
  | [], _ :: _, h => by simp [sameB] at h
  | _ :: _, [], h => by simp [sameB] at h
  | (a, b, c) :: l, (a', b', c') :: m, h => by
    simp only [sameB, Bool.and_eq_true, Nat.beq_eq] at h
    obtain ⟨h1, h2, h3, h4⟩ := h
    rw [h1, eqI_iff.1 h2, eqI_iff.1 h3, sameB_eq l m h4]
theorem sameO_eq : ∀ (l m : List (Nat × Nat × Bool)), sameO l m = true → l = m
  | [], [], _ => rfl
  | [], _ :: _, h => by simp [sameO] at h
  | _ :: _, [], h => by simp [sameO] at h
  | (a, b, c) :: l, (a', b', c') :: m, h => by
    simp only [sameO, Bool.and_eq_true, Nat.beq_eq, beq_iff_eq] at h
    obtain ⟨h1, h2, h3, h4⟩ := h
    rw [h1, h2, h3, sameO_eq l m h4]
theorem band_eq (a b : Bool) : (Bool.rec (motive := fun _ => Bool) false b a) = (a && b) := by cases a <;> rfl
theorem isNilL_iff {α : Type} {l : List α} (h : isNilL l = true) : l = [] := by cases l <;> first | rfl | cases h
theorem sameC0_eq {x y : AV} (h : sameC0 x y = true) : x = y := by
  cases x <;> cases y <;> first | (exact absurd h Bool.false_ne_true) | rfl | skip
  case bool.bool a b =>
    have h' : (a == b) = true := h
    rw [eq_of_beq h']
  case int.int k a l b =>
    have h' : (kindEq k l && eqI a b) = true := by rw [← band_eq]; exact h
    rw [Bool.and_eq_true] at h'
    rw [kindEq_iff.1 h'.1, eqI_iff.1 h'.2]
  case str.str n a m b =>
    have h' : (Nat.beq n m && Nat.beq a b) = true := by rw [← band_eq]; exact h
    simp only [Bool.and_eq_true, Nat.beq_eq] at h'
    rw [h'.1, h'.2]
  case ptr.ptr n a m b =>
    have h' : (Nat.beq n m && Nat.beq a b) = true := by rw [← band_eq]; exact h
    simp only [Bool.and_eq_true, Nat.beq_eq] at h'
    rw [h'.1, h'.2]
  case slice.slice o a n kn c p b m km d =>
    have h' : (Nat.beq o p && (Nat.beq a b && (Nat.beq n m && (kn == km && Nat.beq c d)))) = true := h
    simp only [Bool.and_eq_true, Nat.beq_eq, beq_iff_eq] at h'
    obtain ⟨rfl, rfl, rfl, rfl, rfl⟩ := h'; rfl
  case sliceE.sliceE o a b c p a' b' c' =>
    have h' : (Nat.beq o p && (Nat.beq a a' && (Nat.beq b b' && Nat.beq c c'))) = true := h
    simp only [Bool.and_eq_true, Nat.beq_eq] at h'
    obtain ⟨rfl, rfl, rfl, rfl⟩ := h'; rfl
  case map.map a b =>
    have h' : Nat.beq a b = true := h
    rw [Nat.beq_eq] at h'
    rw [h']
  case func.func f a c g b d =>
    have h' : (Nat.beq f g && (isNilL a && (isNilL c && (isNilL b && isNilL d)))) = true := h
    simp only [Bool.and_eq_true, Nat.beq_eq] at h'
    obtain ⟨h1, h2, h3, h4, h5⟩ := h'
    rw [isNilL_iff h2, isNilL_iff h3, isNilL_iff h4, isNilL_iff h5]
    have : f = g := h1
    rw [this]
  case sym.sym k F i l G j =>
    have h' : (kindEq k l && (Nat.beq i j && (sameB F.bnd G.bnd && sameO F.ord G.ord))) = true := h
    simp only [Bool.and_eq_true, Nat.beq_eq] at h'
    obtain ⟨h1, h2, h3, h4⟩ := h'
    obtain ⟨fb, fo⟩ := F
    obtain ⟨gb, go⟩ := G
    have e3 : fb = gb := sameB_eq _ _ h3
    have e4 : fo = go := sameO_eq _ _ h4
    rw [kindEq_iff.1 h1, h2, e3, e4]
theorem sameC_eq {x y : AV} (h : sameC x y = true) : x = y := by
  cases x
  case iface t v =>
    cases y <;> first | (exact absurd h Bool.false_ne_true) | skip
    case iface u w =>
    have h' : (Nat.beq t u && sameC0 v w) = true := h
    simp only [Bool.and_eq_true, Nat.beq_eq] at h'
    have : t = u := h'.1
    rw [this, sameC0_eq h'.2]
  all_goals exact sameC0_eq h
theorem sameL_cons (x y : AV) (l m : List AV) : sameL (x :: l) (y :: m) = (sameC x y && sameL l m) := band_eq _ _
theorem sameL_eq : ∀ (l m : List AV), sameL l m = true → l = m
  | [], [], _ => rfl
  | [], _ :: _, h => absurd h Bool.false_ne_true
  | _ :: _, [], h => absurd h Bool.false_ne_true
  | x :: l, y :: m, h => by
    rw [sameL_cons, Bool.and_eq_true] at h
    rw [sameC_eq h.1, sameL_eq l m h.2]
theorem sameA_eq {x y : AV} (h : sameA x y = true) : x = y := by
  cases x
  case agg l =>
    cases y <;> first | (exact absurd h Bool.false_ne_true) | skip
    case agg m =>
    have h' : sameL l m = true := h
    rw [sameL_eq _ _ h']
  all_goals exact sameC_eq h
theorem sameAs_cons (x y : AV) (l m : List AV) : sameAs (x :: l) (y :: m) = (sameA x y && sameAs l m) := band_eq _ _
theorem sameAs_eq : ∀ (l m : List AV), sameAs l m = true → l = m
  | [], [], _ => rfl
  | [], _ :: _, h => absurd h Bool.false_ne_true
  | _ :: _, [], h => absurd h Bool.false_ne_true
  | x :: l, y :: m, h => by
    rw [sameAs_cons, Bool.and_eq_true] at h
    rw [sameA_eq h.1, sameAs_eq l m h.2]
theorem sameV_eq {x y : AV} (h : sameV x y = true) : x = y := by
  cases x
  case tup l =>
    cases y <;> first | (exact absurd h Bool.false_ne_true) | skip
    case tup m =>
    have h' : sameAs l m = true := h
    rw [sameAs_eq _ _ h']
  all_goals exact sameA_eq h

end Go.Am
