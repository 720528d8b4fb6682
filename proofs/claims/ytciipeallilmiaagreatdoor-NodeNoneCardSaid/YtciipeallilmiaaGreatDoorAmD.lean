/-
  Parts of the abstract machine and its use, joined: AmDraw AmDraw2 AmDraw3 AmDraw4 AmDraw5. No condition.
-/
import Derived.Test.YtciipeallilmiaaGreatDoorAmO
namespace Go.Am
set_option linter.unusedSimpArgs false
set_option linter.unusedVariables false
open Go Go.RowKit
variable {P : Program}

/-! ### the checks, as facts -/
theorem compOps_get {n : Nat} {ops : Array Oper} : ∀ (L : List Oper) (l : List AOper), compOps P n ops L = some l → ∀ (i : Nat) (o : Oper), L[i]? = some o → ∃ x, l[i]? = some x ∧ compOper P n ops o = some x
  | [], l, h, i, o, ho => by simp at ho
  | o' :: L, l, h, i, o, ho => by
    simp only [compOps, Option.bind_eq_some_iff, Option.map_eq_some_iff] at h
    obtain ⟨x, hx, r, hr, rfl⟩ := h
    cases i with
    | zero => simp at ho; subst ho; exact ⟨x, by simp, hx⟩
    | succ i => simpa using compOps_get L r hr i o (by simpa using ho)
theorem dstOf_eq {n : Nat} {d : Option Tmp} {d' : Option GPos} (h : dstOf n d = some d') : d' = d.map gpos ∧ ∀ t, d = some t → t < n := by
  cases d with
  | none => simp [dstOf] at h; subst h; simp
  | some d =>
    simp only [dstOf] at h
    split at h
    · rename_i hlt
      simp at h; subst h
      exact ⟨rfl, fun t ht => by cases ht; simpa using hlt⟩
    · cases h

/-- What has been done, with all that must be ahead of it. -/
def Closed (ops : Array Oper) (S : Nat → Prop) : Prop := ∀ i o e, S i → ops[i]? = some o → e ∈ o.after.toList → Region.binds .any e = true → S e.on
theorem foldl_bits (acc : List Nat) (i : Nat) : ∀ (es : List Edge) (s : Nat), (es.foldl (fun s e => Nat.lor s (Nat.lor (2 ^ e.on) (acc.getD e.on 0))) s).testBit i = true →
    s.testBit i = true ∨ ∃ e ∈ es, i = e.on ∨ (acc.getD e.on 0).testBit i = true
  | [], s, h => .inl h
  | e :: es, s, h => by
    simp only [List.foldl_cons] at h
    rcases foldl_bits acc i es _ h with h | ⟨e', he, h⟩
    · have h' : (s ||| (2 ^ e.on ||| acc.getD e.on 0)).testBit i = true := h
      simp only [Nat.testBit_or, Bool.or_eq_true] at h'
      rcases h' with h | h | h
      · exact .inl h
      · right; refine ⟨e, by simp, .inl ?_⟩
        rw [Nat.testBit_two_pow] at h; exact (by simpa using h : e.on = i).symm
      · exact .inr ⟨e, by simp, .inr h⟩
    · exact .inr ⟨e', by simp [he], h⟩
theorem masks_ok (ops : Array Oper) : ∀ (L : List Oper) (acc : List Nat), ops.toList.drop acc.length = L → (∀ j i, (acc.getD j 0).testBit i = true → ∀ S, Closed ops S → S j → S i) →
    ∀ j i, ((masks L acc).getD j 0).testBit i = true → ∀ S, Closed ops S → S j → S i
  | [], acc, _, h => h
  | o :: L, acc, hd, h => by
    have ho : ops[acc.length]? = some o := by
      have := congrArg (fun l : List Oper => l[0]?) hd
      simpa [List.getElem?_drop] using this
    simp only [masks, forceN_eq]
    refine masks_ok ops L _ (by simp only [List.length_append, List.length_singleton]; rw [← List.drop_drop, hd]; rfl) fun j i hb S hS hj => ?_
    by_cases hlt : j < acc.length
    · rw [List.getD_eq_getElem?_getD, List.getElem?_append_left hlt, ← List.getD_eq_getElem?_getD] at hb
      exact h j i hb S hS hj
    · by_cases he : j = acc.length
      · subst he
        rw [List.getD_eq_getElem?_getD, List.getElem?_append_right (by omega)] at hb
        simp only [Nat.sub_self, List.getElem?_cons_zero, Option.getD_some] at hb
        rcases foldl_bits acc i _ 0 hb with hb | ⟨e, he, hb⟩
        · simp at hb
        · simp only [List.mem_filter] at he
          have hon := hS _ o e hj ho he.1 he.2
          rcases hb with rfl | hb
          · exact hon
          · exact h e.on i hb S hS hon
      · rw [List.getD_eq_getElem?_getD, List.getElem?_eq_none (by simp; omega)] at hb
        simp at hb
theorem noDup_iff : ∀ (l : List Nat), noDup l = true → l.Nodup
  | [], _ => List.nodup_nil
  | x :: l, h => by
    simp only [noDup, Bool.and_eq_true, Bool.not_eq_true', List.any_eq_false] at h
    refine List.nodup_cons.2 ⟨fun hx => ?_, noDup_iff l h.2⟩
    have := h.1 x hx
    simp at this
theorem pairs_mem {ops : Array Oper} {l : List AOper} {ms : List Nat} {fl : Option Nat} : ∀ (A : List Nat) (x : Nat) (B : List Nat), pairsOK ops l ms fl (A ++ x :: B) = true → ∀ y ∈ B, pairOK ops l ms fl x y = true
  | [], x, B, h, y, hy => by
    simp only [List.nil_append, pairsOK, Bool.and_eq_true, List.all_eq_true] at h
    exact h.1 y hy
  | a :: A, x, B, h, y, hy => by
    simp only [List.cons_append, pairsOK, Bool.and_eq_true] at h
    exact pairs_mem A x B h.2 y hy
theorem keeps_mem {ops : Array Oper} {cs : List Nat} : ∀ (A : List Nat) (x : Nat) (B : List Nat), keepsOK ops cs (A ++ x :: B) = true → x ∈ cs → ∀ y ∈ B, wrecks ops x y = false
  | [], x, B, h, hx, y, hy => by
    simp only [List.nil_append, keepsOK, Bool.and_eq_true, Bool.or_eq_true, Bool.not_eq_true', List.all_eq_true] at h
    rcases h.1 with h1 | h1
    · simp [List.contains_iff_mem, hx] at h1
    · exact h1 y hy
  | a :: A, x, B, h, hx, y, hy => by
    simp only [List.cons_append, keepsOK, Bool.and_eq_true] at h
    exact keeps_mem A x B h.2 hx y hy
theorem edges_ok : ∀ (L : List Oper) (k : Nat), edgesOK k L = true → ∀ (i : Nat) (o : Oper) (e : Edge), L[i]? = some o → e ∈ o.after.toList → Region.binds .any e = true → e.on < k + i
  | [], k, _, i, o, e, ho, _, _ => by simp at ho
  | o' :: L, k, h, i, o, e, ho, he, hb => by
    simp only [edgesOK, Bool.and_eq_true, List.all_eq_true] at h
    cases i with
    | zero =>
      simp at ho; subst ho
      have := h.1 e he
      simp [hb] at this
      omega
    | succ i =>
      have := edges_ok L (k + 1) h.2 i o e (by simpa using ho) he hb
      omega

/-! ### frames -/
noncomputable def FL (ops : Array Oper) (val : Nat → AV) (L : List Nat) (fr : Fr) : Fr := L.foldl (fun fr i => updD ((dstAt ops i).map gpos) (val i) fr) fr
theorem getS_updD (d : Option Tmp) (v : AV) (fr : Fr) (t : Tmp) : getS (updD (d.map gpos) v fr) (gpos t) = if d = some t then v else getS fr (gpos t) := by
  cases d with
  | none => simp [updD]
  | some d =>
    simp only [Option.map_some, updD, Option.some.injEq]
    split
    · rename_i h; subst h; exact getS_upd_self _ _ _
    · rename_i h; exact getS_upd_ne _ _ (fun e => h (gpos_inj e))
section
variable {ops : Array Oper}
theorem FL_snoc (val : Nat → AV) (L : List Nat) (i : Nat) (fr : Fr) : FL ops val (L ++ [i]) fr = updD ((dstAt ops i).map gpos) (val i) (FL ops val L fr) := by simp [FL]
theorem FL_congr {val val' : Nat → AV} : ∀ (L : List Nat) (fr : Fr), (∀ i ∈ L, val i = val' i) → FL ops val L fr = FL ops val' L fr
  | [], fr, _ => rfl
  | i :: L, fr, h => by
    simp only [FL, List.foldl_cons]
    rw [h i (by simp)]
    exact FL_congr L _ (fun j hj => h j (by simp [hj]))
theorem FL_two (val : Nat → AV) (t : Tmp) : ∀ (L M : List Nat) (fr fr' : Fr), L.filter (fun i => dstAt ops i == some t) = M.filter (fun i => dstAt ops i == some t) → getS fr (gpos t) = getS fr' (gpos t) →
    getS (FL ops val L fr) (gpos t) = getS (FL ops val M fr') (gpos t) := by
  have one : ∀ (L : List Nat) (fr fr' : Fr), getS fr (gpos t) = getS fr' (gpos t) → getS (FL ops val L fr) (gpos t) = getS (FL ops val (L.filter (fun i => dstAt ops i == some t)) fr') (gpos t) := by
    intro L
    induction L with
    | nil => intro fr fr' h; exact h
    | cons i L ih =>
      intro fr fr' h
      by_cases hd : dstAt ops i = some t
      · have : (dstAt ops i == some t) = true := by simpa using hd
        simp only [List.filter_cons, this, if_true]
        exact ih _ _ (by rw [getS_updD, getS_updD, if_pos hd, if_pos hd])
      · have : (dstAt ops i == some t) = false := by simpa using hd
        simp only [List.filter_cons, this, Bool.false_eq_true, if_false]
        exact ih _ _ (by rw [getS_updD, if_neg hd]; exact h)
  intro L M fr fr' hf h
  rw [one L fr fr rfl, hf, ← one M fr' fr h.symm]
theorem FL_last (val : Nat → AV) (t : Tmp) (A : List Nat) (i : Nat) (C : List Nat) (fr : Fr) (hi : dstAt ops i = some t) (hC : ∀ j ∈ C, dstAt ops j ≠ some t) : getS (FL ops val (A ++ i :: C) fr) (gpos t) = val i := by
  have h1 : getS (FL ops val (A ++ i :: C) fr) (gpos t) = getS (FL ops val (A ++ [i]) fr) (gpos t) := by
    refine FL_two val t _ _ fr fr ?_ rfl
    have : C.filter (fun i => dstAt ops i == some t) = [] := by
      rw [List.filter_eq_nil_iff]
      intro j hj
      simpa using hC j hj
    simp [List.filter_append, List.filter_cons, this]
  rw [h1, FL_snoc, getS_updD, if_pos hi]
def Total (κ : Kap) (fr : Fr) : Prop := ∀ t, ∃ V, gam κ (getS fr (gpos t)) = some V
theorem Total.upd {κ : Kap} {fr : Fr} (h : Total κ fr) (d : Option Tmp) {v : AV} (hv : ∃ V, gam κ v = some V) : Total κ (updD (d.map gpos) v fr) := by
  intro t
  rw [getS_updD]
  split
  · exact hv
  · exact h t
theorem Total.FL {κ : Kap} {val : Nat → AV} : ∀ (L : List Nat) (fr : Fr), Total κ fr → (∀ i ∈ L, ∃ V, gam κ (val i) = some V) → Total κ (FL ops val L fr)
  | [], fr, h, _ => h
  | i :: L, fr, h, hv => Total.FL L _ (h.upd _ (hv i (by simp))) (fun j hj => hv j (by simp [hj]))
theorem Total.rho {κ : Kap} {fr : Fr} (h : Total κ fr) : ∃ ρ : Operand → Value, Rho κ fr ρ ∧ (∀ t, gam κ (getS fr (gpos t)) = some (ρ (.tmp t))) ∧ (∀ v, ρ (.const v) = v) ∧ (∀ f, ρ (.func f) = .func (.func f) #[] #[]) ∧ (∀ g, ρ (.global g) = .pointer (some ⟨g, 0, none⟩)) := by
  refine ⟨fun | .tmp t => Classical.choose (h t) | .const v => v | .func f => .func (.func f) #[] #[] | .global g => .pointer (some ⟨g, 0, none⟩), ?_, ?_, fun _ => rfl, fun _ => rfl, fun _ => rfl⟩
  · exact opd_rho (fun t => Classical.choose_spec (h t)) (fun _ => rfl) (fun _ => rfl) (fun _ => rfl)
  · exact fun t => Classical.choose_spec (h t)
theorem exec_same {κ : Kap} {fr : Fr} {ρ : Operand → Value} {o : Oper} {a : Act} (hs : ∀ cs b, o.op ≠ .select cs b) (h1 : ∀ t, gam κ (getS fr (gpos t)) = some (ρ (.tmp t))) (h2 : ∀ v, ρ (.const v) = v) (h3 : ∀ f, ρ (.func f) = .func (.func f) #[] #[]) (h4 : ∀ g, ρ (.global g) = .pointer (some ⟨g, 0, none⟩))
    (hl : ∀ t ∈ Oper.looksAt ops o, gam κ (getS fr (gpos t)) = some (a.tmps.getD t undef)) : execOp a.eval o = execOp ρ o := by
  refine execOp_congr o hs fun x hx => ?_
  cases x with
  | tmp t =>
    have ht : t ∈ Oper.looksAt ops o := by
      unfold Oper.looksAt
      refine List.mem_append.2 (.inl (List.mem_filterMap.2 ⟨.tmp t, by simpa using hx, rfl⟩))
    have e1 := hl t ht
    rw [h1 t] at e1
    exact (Option.some.inj e1).symm
  | const v => exact (h2 v).symm
  | func f => exact (h3 f).symm
  | global g => exact (h4 g).symm
theorem no_select {a : AOp} {o : Oper} (h : compOp P o = some a) : ∀ cs b, o.op ≠ .select cs b := by
  intro cs b e
  simp [compOp, e] at h
end
theorem sameB_eq : ∀ (l m : List (Nat × Int × Int)), sameB l m = true → l = m
  | [], [], _ => rfl
  | [], _ :: _, h => by simp [sameB] at h
  | _ :: _, [], h => by simp [sameB] at h
  | (a, b, c) :: l, (a', b', c') :: m, h => by
    simp only [sameB, Bool.and_eq_true, Nat.beq_eq] at h
    obtain ⟨h1, h2, h3, h4⟩ := h
    rw [h1, eqI_iff.1 h2, eqI_iff.1 h3, sameB_eq l m h4]
theorem sameO_eq : ∀ (l m : List (Nat × Nat × Bool)), sameO l m = true → l = m
  | [], [], _ => rfl
  | [], _ :: _, h => by simp [sameO] at h
  | _ :: _, [], h => by simp [sameO] at h
  | (a, b, c) :: l, (a', b', c') :: m, h => by
    simp only [sameO, Bool.and_eq_true, Nat.beq_eq, beq_iff_eq] at h
    obtain ⟨h1, h2, h3, h4⟩ := h
    rw [h1, h2, h3, sameO_eq l m h4]
theorem band_eq (a b : Bool) : (Bool.rec (motive := fun _ => Bool) false b a) = (a && b) := by cases a <;> rfl
theorem isNilL_iff {α : Type} {l : List α} (h : isNilL l = true) : l = [] := by cases l <;> first | rfl | cases h
theorem sameC0_eq {x y : AV} (h : sameC0 x y = true) : x = y := by
  cases x <;> cases y <;> first | (exact absurd h Bool.false_ne_true) | rfl | skip
  case bool.bool a b =>
    have h' : (a == b) = true := h
    rw [eq_of_beq h']
  case int.int k a l b =>
    have h' : (kindEq k l && eqI a b) = true := by rw [← band_eq]; exact h
    rw [Bool.and_eq_true] at h'
    rw [kindEq_iff.1 h'.1, eqI_iff.1 h'.2]
  case str.str n a m b =>
    have h' : (Nat.beq n m && Nat.beq a b) = true := by rw [← band_eq]; exact h
    simp only [Bool.and_eq_true, Nat.beq_eq] at h'
    rw [h'.1, h'.2]
  case ptr.ptr n a m b =>
    have h' : (Nat.beq n m && Nat.beq a b) = true := by rw [← band_eq]; exact h
    simp only [Bool.and_eq_true, Nat.beq_eq] at h'
    rw [h'.1, h'.2]
  case slice.slice o a n kn c p b m km d =>
    have h' : (Nat.beq o p && (Nat.beq a b && (Nat.beq n m && (kn == km && Nat.beq c d)))) = true := h
    simp only [Bool.and_eq_true, Nat.beq_eq, beq_iff_eq] at h'
    obtain ⟨rfl, rfl, rfl, rfl, rfl⟩ := h'; rfl
  case sliceE.sliceE o a b c p a' b' c' =>
    have h' : (Nat.beq o p && (Nat.beq a a' && (Nat.beq b b' && Nat.beq c c'))) = true := h
    simp only [Bool.and_eq_true, Nat.beq_eq] at h'
    obtain ⟨rfl, rfl, rfl, rfl⟩ := h'; rfl
  case map.map a b =>
    have h' : Nat.beq a b = true := h
    rw [Nat.beq_eq] at h'
    rw [h']
  case sliceZ.sliceZ a b =>
    have h' : Nat.beq a b = true := h
    rw [Nat.beq_eq] at h'
    rw [h']
  case func.func f a c g b d =>
    have h' : (Nat.beq f g && (isNilL a && (isNilL c && (isNilL b && isNilL d)))) = true := h
    simp only [Bool.and_eq_true, Nat.beq_eq] at h'
    obtain ⟨h1, h2, h3, h4, h5⟩ := h'
    rw [isNilL_iff h2, isNilL_iff h3, isNilL_iff h4, isNilL_iff h5]
    have : f = g := h1
    rw [this]
  case sym.sym k F i l G j =>
    have h' : (kindEq k l && (Nat.beq i j && (sameB F.bnd G.bnd && sameO F.ord G.ord))) = true := h
    simp only [Bool.and_eq_true, Nat.beq_eq] at h'
    obtain ⟨h1, h2, h3, h4⟩ := h'
    obtain ⟨fb, fo⟩ := F
    obtain ⟨gb, go⟩ := G
    have e3 : fb = gb := sameB_eq _ _ h3
    have e4 : fo = go := sameO_eq _ _ h4
    rw [kindEq_iff.1 h1, h2, e3, e4]
theorem sameC_eq {x y : AV} (h : sameC x y = true) : x = y := by
  cases x
  case iface t v =>
    cases y <;> first | (exact absurd h Bool.false_ne_true) | skip
    case iface u w =>
    have h' : (Nat.beq t u && sameC0 v w) = true := h
    simp only [Bool.and_eq_true, Nat.beq_eq] at h'
    have : t = u := h'.1
    rw [this, sameC0_eq h'.2]
  all_goals exact sameC0_eq h
theorem sameL_cons (x y : AV) (l m : List AV) : sameL (x :: l) (y :: m) = (sameC x y && sameL l m) := band_eq _ _
theorem sameL_eq : ∀ (l m : List AV), sameL l m = true → l = m
  | [], [], _ => rfl
  | [], _ :: _, h => absurd h Bool.false_ne_true
  | _ :: _, [], h => absurd h Bool.false_ne_true
  | x :: l, y :: m, h => by
    rw [sameL_cons, Bool.and_eq_true] at h
    rw [sameC_eq h.1, sameL_eq l m h.2]
theorem sameA_eq {x y : AV} (h : sameA x y = true) : x = y := by
  cases x
  case agg l =>
    cases y <;> first | (exact absurd h Bool.false_ne_true) | skip
    case agg m =>
    have h' : sameL l m = true := h
    rw [sameL_eq _ _ h']
  all_goals exact sameC_eq h
theorem sameAs_cons (x y : AV) (l m : List AV) : sameAs (x :: l) (y :: m) = (sameA x y && sameAs l m) := band_eq _ _
theorem sameAs_eq : ∀ (l m : List AV), sameAs l m = true → l = m
  | [], [], _ => rfl
  | [], _ :: _, h => absurd h Bool.false_ne_true
  | _ :: _, [], h => absurd h Bool.false_ne_true
  | x :: l, y :: m, h => by
    rw [sameAs_cons, Bool.and_eq_true] at h
    rw [sameA_eq h.1, sameAs_eq l m h.2]
theorem sameV_eq {x y : AV} (h : sameV x y = true) : x = y := by
  cases x
  case tup l =>
    cases y <;> first | (exact absurd h Bool.false_ne_true) | skip
    case tup m =>
    have h' : sameAs l m = true := h
    rw [sameAs_eq _ _ h']
  all_goals exact sameA_eq h

end Go.Am

namespace Go.Am
set_option linter.unusedSimpArgs false
set_option linter.unusedVariables false
open Go Go.RowKit
variable {P : Program}

def ItemOf (l : List AOper) : Item → Prop
  | .ex i a => l[i]? = some a
  | .chk i d op g => ∃ a, l[i]? = some a ∧ a.dst = some d ∧ a.op = .op op false true ∧ a.guard = g
theorem dops_of : ∀ (L : List Oper) (M : List AOper) (k : Nat) (x : DOp), x ∈ dops k L M → k ≤ x.i ∧ M[x.i - k]? = some x.a
  | [], M, k, x, h => by simp [dops] at h
  | o :: L, [], k, x, h => by simp [dops] at h
  | o :: L, a :: M, k, x, h => by
    simp only [dops, List.mem_cons] at h
    rcases h with rfl | h
    · simp
    · obtain ⟨h1, h2⟩ := dops_of L M (k + 1) x h
      refine ⟨by omega, ?_⟩
      rw [show x.i - k = (x.i - (k + 1)) + 1 by omega]
      simpa using h2
theorem chksFor_of {l : List AOper} {ms : List Nat} {s : Nat} : ∀ (ds : List DOp), (∀ d ∈ ds, l[d.i]? = some d.a) → ∀ x ∈ chksFor ms s ds, ItemOf l x
  | [], _, x, hx => by simp [chksFor] at hx
  | d :: ds, h, x, hx => by
    simp only [chksFor, List.mem_append] at hx
    rcases hx with hx | hx
    · split at hx
      · rename_i dd op' a r hb hd ho
        simp only [List.mem_singleton] at hx
        subst hx
        simp only [ho, readsB, Bool.and_eq_true, Bool.not_eq_true'] at hb
        obtain ⟨⟨rfl, rfl⟩, _⟩ := hb
        exact ⟨d.a, h d (by simp), hd, ho, rfl⟩
      · simp at hx
    · exact chksFor_of ds (fun d hd => h d (by simp [hd])) x hx
theorem layOut_of {l : List AOper} {ms : List Nat} : ∀ (f : Nat) (todo done : List DOp), (∀ d ∈ todo, l[d.i]? = some d.a) → (∀ d ∈ done, l[d.i]? = some d.a) → ∀ x ∈ layOut ms f todo done, ItemOf l x
  | 0, todo, done, _, _, x, hx => by simp [layOut] at hx
  | f + 1, todo, done, h1, h2, x, hx => by
    simp only [layOut, List.mem_append] at hx
    have hnow : ∀ d ∈ todo.filter (fun x => !(actsB x.a.op) && (todo.filter fun x => actsB x.a.op).all fun s => !((ms.getD x.i 0).testBit s.i)), l[d.i]? = some d.a := fun d hd => h1 d (List.mem_filter.1 hd).1
    rcases hx with hx | hx
    · obtain ⟨d, hd, rfl⟩ := List.mem_map.1 hx
      exact hnow d hd
    · split at hx
      · simp at hx
      · rename_i s r hs
        have hsm : s ∈ todo := by
          have : s ∈ s :: r := by simp
          rw [← hs] at this
          exact (List.mem_filter.1 (List.mem_filter.1 this).1).1
        have hdone : ∀ d ∈ done ++ todo.filter (fun x => !(actsB x.a.op) && (todo.filter fun x => actsB x.a.op).all fun s => !((ms.getD x.i 0).testBit s.i)), l[d.i]? = some d.a := fun d hd => by
          rcases List.mem_append.1 hd with hd | hd
          · exact h2 d hd
          · exact hnow d hd
        simp only [List.cons_append, List.mem_cons, List.mem_append] at hx
        rcases hx with rfl | hx | hx
        · exact h1 s hsm
        · exact chksFor_of _ hdone x hx
        · refine layOut_of f _ _ (fun d hd => h1 d (List.mem_filter.1 (List.mem_filter.1 hd).1).1) (fun d hd => ?_) x hx
          rcases List.mem_append.1 hd with hd | hd
          · exact hdone d hd
          · simp at hd; subst hd; exact h1 _ hsm
theorem drawItems_of {ops : Array Oper} {l : List AOper} : ∀ x ∈ drawItems ops l, ItemOf l x := by
  refine layOut_of _ _ _ (fun d hd => ?_) (fun d hd => by simp at hd)
  have := (dops_of _ _ _ _ hd).2
  simpa using this

theorem drawItemsS_of {σ : List Nat} {ops : Array Oper} {l : List AOper} : ∀ x ∈ drawItemsS σ ops l, ItemOf l x := by
  refine layOut_of _ _ _ (fun d hd => ?_) (fun d hd => by simp at hd)
  have hd' : d ∈ dops 0 ops.toList l := by
    rcases List.mem_append.1 hd with hd | hd
    · obtain ⟨i, _, hi⟩ := List.mem_filterMap.1 hd
      exact List.mem_of_getElem? hi
    · exact (List.mem_filter.1 hd).1
  have := (dops_of _ _ _ _ hd').2
  simpa using this

section
variable (P) (B : Nat) (cf : CallK) (ops : Array Oper) (l : List AOper) (fr0 : Fr) (K : Fr → Hp → Prop) (items : List Item) (gi : Option Nat)

def RunAt (o : Oper) (fr : Fr) (v : AV) (κ : Kap) (h : Hp) : Prop :=
  ∀ (w0 : W0) κ2 w2 (a2 : Act), κ.le κ2 → Sim B w0 κ2 h w2 → (∀ t ∈ Oper.looksAt ops o, gam κ2 (getS fr (gpos t)) = some (a2.tmps.getD t undef)) → Region.wanted o (yielded ops a2.tmps) = true →
    ∃ V, gam κ2 v = some V ∧ (execOp a2.eval o).run P w2 = .ok (.value V) w2
def Pn (val : Nat → AV) (κ : Kap) (h : Hp) (done : List Nat) (i : Nat) : Prop :=
  ∃ D E o x, done = D ++ i :: E ∧ ops[i]? = some o ∧ l[i]? = some x ∧ RunAt P B ops o (FL ops val D fr0) (val i) κ h ∧
    grdK x.guard (FL ops val D fr0) True (val i = undefV) ∧ (readsB x.op = false → ∀ h2, RunAt P B ops o (FL ops val D fr0) (val i) κ h2)

structure St (S : Nat → Bool) (done : List Nat) (rest : List Item) (val : Nat → AV) (h : Hp) (κ : Kap) : Prop where
  ord : ordOf items = done ++ ordOf rest
  run : itemsD rest cf (FL ops val done fr0) h K
  of : ∀ x ∈ rest, ItemOf l x
  chk : chksOK ops l (masks ops.toList []) done rest = true
  sub : ∀ x ∈ chkd rest, x ∈ chkd items
  sdone : ∀ i, S i = true → i ∈ done ∨ some i = gi
  acts : ∀ i ∈ done, actAt l i = true → S i = true
  rep : ∀ i ∈ done, ∃ V, gam κ (val i) = some V
  pend : ∀ i ∈ done, S i = false → Pn P B ops l fr0 val κ h done i
  tot : Total κ fr0
end

theorem grdK_map {g : Option (GPos × Bool)} {fr : Fr} {A C : Prop} {α : Type} {R : α → Prop} {A' C' : α → Prop} (h : grdK g fr A C) (hA : A → ∃ v, R v ∧ A' v) (hC : C → ∃ v, R v ∧ C' v) : ∃ v, R v ∧ grdK g fr (A' v) (C' v) := by
  cases g with
  | none => exact hA h
  | some g =>
    have h0 : Bool.rec (motive := fun _ => Prop) (asBool (getS fr g.1) fun b => Bool.rec (motive := fun _ => Prop) C A (b == g.2)) C (isUndef (getS fr g.1)) := h
    have back : ∀ v, Bool.rec (motive := fun _ => Prop) (asBool (getS fr g.1) fun b => Bool.rec (motive := fun _ => Prop) (C' v) (A' v) (b == g.2)) (C' v) (isUndef (getS fr g.1)) → grdK (some g) fr (A' v) (C' v) := fun v hv => hv
    cases hu : isUndef (getS fr g.1) with
    | true =>
      rw [hu] at h0
      obtain ⟨v, h1, h2⟩ := hC h0
      exact ⟨v, h1, back v (by rw [hu]; exact h2)⟩
    | false =>
    rw [hu] at h0
    obtain ⟨b, e, h⟩ := asBool_iff.1 (show asBool (getS fr g.1) _ from h0)
    cases hb : (b == g.2) with
    | true =>
      have h' : Bool.rec (motive := fun _ => Prop) C A (b == g.2) := h
      rw [hb] at h'
      obtain ⟨v, h1, h2⟩ := hA h'
      refine ⟨v, h1, back v ?_⟩
      rw [hu]
      refine asBool_iff.2 ⟨b, e, ?_⟩
      show Bool.rec (motive := fun _ => Prop) (C' v) (A' v) (b == g.2)
      rw [hb]; exact h2
    | false =>
      have h' : Bool.rec (motive := fun _ => Prop) C A (b == g.2) := h
      rw [hb] at h'
      obtain ⟨v, h1, h2⟩ := hC h'
      refine ⟨v, h1, back v ?_⟩
      rw [hu]
      refine asBool_iff.2 ⟨b, e, ?_⟩
      show Bool.rec (motive := fun _ => Prop) (C' v) (A' v) (b == g.2)
      rw [hb]; exact h2
theorem looks_guard {ops : Array Oper} {o : Oper} {j : Nat} {want : Bool} {oj : Oper} {d : Tmp} (hg : o.guard = some (j, want)) (hj : ops[j]? = some oj) (hd : oj.dst = some d) : d ∈ Oper.looksAt ops o := by
  unfold Oper.looksAt
  refine List.mem_append.2 (.inr ?_)
  simp [hg, hj, hd]

/-- A silent operation: its value, and what the model's does whenever it is done. -/
theorem silent {B : Nat} {w0 : W0} {cf : CallK} {ops : Array Oper} {n : Nat} {o : Oper} {x : AOper} (hx : compOper P n ops o = some x) (ha : actsB x.op = false) {fr : Fr} {h : Hp} {rest : RegD} {K : Fr → Hp → Prop} (hD : stepD x rest cf fr h K)
    {κ : Kap} (ht : Total κ fr) (hw : ∃ w, Sim B w0 κ h w) :
    ∃ v, rest cf (updD x.dst v fr) h K ∧ (∃ V, gam κ v = some V) ∧ RunAt P B ops o fr v κ h ∧ grdK x.guard fr True (v = undefV) ∧ (readsB x.op = false → ∀ h2, RunAt P B ops o fr v κ h2) := by
  obtain ⟨hd, hop, hg⟩ := compOper_parts hx
  have hsel : ∀ cs b, o.op ≠ .select cs b := by
    simp only [compOper, Option.bind_eq_some_iff, Option.map_eq_some_iff] at hx
    obtain ⟨_, _, a, h2, _⟩ := hx
    exact no_select h2
  cases hxo : x.op with
  | call f args => rw [hxo] at ha; simp [actsB] at ha
  | callv f args => rw [hxo] at ha; simp [actsB] at ha
  | callm f sel args => rw [hxo] at ha; simp [actsB] at ha
  | brop d => rw [hxo] at ha; simp [actsB] at ha
  | op d acts reads =>
    rw [hxo] at ha hop
    simp only [actsB] at ha
    subst ha
    have hread : ReadOK P d o := by
      cases reads
      · exact (by simpa [AopOK] using hop : PureOK P d o).read
      · simpa [AopOK] using hop
    have hD' : grdK x.guard fr (d fr h fun v h => putD x.dst v fr fun fr => rest cf fr h K) (putD x.dst undefV fr fun fr => rest cf fr h K) := by
      have : grdK x.guard fr (runOp x.op cf fr h fun v h => putD x.dst v fr fun fr => rest cf fr h K) (putD x.dst undefV fr fun fr => rest cf fr h K) := by rw [← stepD_eq]; exact hD
      rwa [hxo] at this
    obtain ⟨v, hR, hG⟩ := grdK_map (R := fun v => rest cf (updD x.dst v fr) h K)
      (A' := fun v => (∀ (w0 : W0) κ ρ w, Sim B w0 κ h w → Rho κ fr ρ → ∃ V, gam κ v = some V ∧ (execOp ρ o).run P w = .ok (.value V) w) ∧ (reads = false → ∀ κ ρ w, Rho κ fr ρ → ∃ V, gam κ v = some V ∧ (execOp ρ o).run P w = .ok (.value V) w))
      (C' := fun v => v = undefV) hD'
      (fun hA => by
        cases hrd : reads with
        | false =>
          rw [hrd] at hop
          have hp : PureOK P d o := by simpa [AopOK] using hop
          obtain ⟨av, hK, hrest⟩ := hp fr h _ hA
          rw [putD_iff] at hK
          exact ⟨av, hK, fun _ κ ρ w _ hr => hrest κ ρ w hr, fun _ κ ρ w hr => hrest κ ρ w hr⟩
        | true =>
          obtain ⟨av, hK, hrest⟩ := hread fr h _ hA
          rw [putD_iff] at hK
          exact ⟨av, hK, fun w0 κ ρ w s hr => hrest B w0 κ ρ w s hr, fun h => by cases h⟩)
      (fun hC => ⟨undefV, by rwa [putD_iff] at hC, rfl⟩)
    have mk : ∀ h2, (∀ (w0 : W0) κ ρ w, Sim B w0 κ h2 w → Rho κ fr ρ → grdK x.guard fr (∃ V, gam κ v = some V ∧ (execOp ρ o).run P w = .ok (.value V) w) True) → RunAt P B ops o fr v κ h2 := by
      intro h2 hh w0 κ2 w2 a2 hle s2 hl hwant
      obtain ⟨ρ, r1, r2, r3, r4, r5⟩ := Total.rho (fun t => let ⟨V, hV⟩ := ht t; ⟨V, gam_mono hle _ _ hV⟩ : Total κ2 fr)
      rcases guard_ok (n := n) (κ := κ2) hg rfl (tmps := a2.tmps) (fun j want hgj oj d' h1 h2 => hl d' (looks_guard hgj h1 h2)) (hh w0 κ2 ρ w2 s2 r1) with ⟨_, hA⟩ | ⟨hw', _⟩
      · rw [exec_same hsel r2 r3 r4 r5 hl]; exact hA
      · rw [hw'] at hwant; cases hwant
    refine ⟨v, hR, ?_, mk h (fun w0 κ2 ρ w s hr => ?_), ?_, fun hrf h2 => mk h2 (fun w0 κ2 ρ w s hr => ?_)⟩
    · obtain ⟨w, s⟩ := hw
      obtain ⟨ρ, r1, _⟩ := Total.rho ht
      obtain ⟨u, hu, _⟩ := grdK_map (α := Unit) (R := fun _ => ∃ V, gam κ v = some V) (A' := fun _ => True) (C' := fun _ => True) hG
        (fun hA => ⟨(), let ⟨V, hV, _⟩ := hA.1 _ κ ρ w s r1; ⟨V, hV⟩, trivial⟩) (fun hC => ⟨(), ⟨undef, by rw [hC]; rfl⟩, trivial⟩)
      exact hu
    · obtain ⟨_, _, hu⟩ := grdK_map (α := Unit) (R := fun _ => True) (A' := fun _ => ∃ V, gam κ2 v = some V ∧ (execOp ρ o).run P w = .ok (.value V) w) (C' := fun _ => True) hG
        (fun hA => ⟨(), trivial, hA.1 w0 κ2 ρ w s hr⟩) (fun _ => ⟨(), trivial, trivial⟩)
      exact hu
    · obtain ⟨_, _, hu⟩ := grdK_map (α := Unit) (R := fun _ => True) (A' := fun _ => True) (C' := fun _ => v = undefV) hG (fun _ => ⟨(), trivial, trivial⟩) (fun h => ⟨(), trivial, h⟩)
      exact hu
    · obtain ⟨_, _, hu⟩ := grdK_map (α := Unit) (R := fun _ => True) (A' := fun _ => ∃ V, gam κ2 v = some V ∧ (execOp ρ o).run P w = .ok (.value V) w) (C' := fun _ => True) hG
        (fun hA => ⟨(), trivial, hA.2 (by
          cases reads
          · rfl
          · simp [readsB] at hrf) κ2 ρ w hr⟩) (fun _ => ⟨(), trivial, trivial⟩)
      exact hu

end Go.Am

namespace Go.Am
set_option linter.unusedSimpArgs false
set_option linter.unusedVariables false
open Go Go.RowKit
variable {P : Program} {B : Nat} {w0 : W0} {cf : CallK} {ops : Array Oper} {l : List AOper} {fr0 : Fr} {K : Fr → Hp → Prop} {items : List Item} {n : Nat}

def setV (val : Nat → AV) (i : Nat) (v : AV) : Nat → AV := fun j => if j = i then v else val j
theorem setV_self (val : Nat → AV) (i : Nat) (v : AV) : setV val i v i = v := by simp [setV]
theorem setV_ne (val : Nat → AV) {i j : Nat} (v : AV) (h : j ≠ i) : setV val i v j = val j := by simp [setV, h]
theorem compOps_len : ∀ (L : List Oper) (M : List AOper), compOps P n ops L = some M → M.length = L.length
  | [], M, hM => by simp [compOps] at hM; simp [← hM]
  | a :: L, M, hM => by
    simp only [compOps, Option.bind_eq_some_iff, Option.map_eq_some_iff] at hM
    obtain ⟨x, _, r, hr, rfl⟩ := hM
    simp [compOps_len L r hr]
theorem oper_of (hl : compOps P n ops ops.toList = some l) {i : Nat} {x : AOper} (hx : l[i]? = some x) : ∃ o, ops[i]? = some o ∧ compOper P n ops o = some x := by
  have h1 := compOps_len _ _ hl
  have h2 := (List.getElem?_eq_some_iff.1 hx).1
  have h3 : i < ops.size := by simp at h1; omega
  obtain ⟨x', q1, q2⟩ := compOps_get _ _ hl i ops[i] (by simp [h3])
  rw [hx] at q1; cases q1
  exact ⟨ops[i], by simp [h3], q2⟩

theorem RunAt.mono {o : Oper} {fr : Fr} {v : AV} {κ κ' : Kap} {h : Hp} (hk : κ.le κ') (hr : RunAt P B ops o fr v κ h) : RunAt P B ops o fr v κ' h :=
  fun w0 κ2 w2 a2 hle => hr w0 κ2 w2 a2 (Kap.le_trans hk hle)
theorem RunAt.frame {o : Oper} {fr fr' : Fr} {v : AV} {κ : Kap} {h : Hp} (he : ∀ t ∈ Oper.looksAt ops o, getS fr (gpos t) = getS fr' (gpos t)) (hr : RunAt P B ops o fr v κ h) : RunAt P B ops o fr' v κ h :=
  fun w0 κ2 w2 a2 hle s hl hw => hr w0 κ2 w2 a2 hle s (fun t ht => by rw [he t ht]; exact hl t ht) hw
theorem Pn.push {val val' : Nat → AV} {κ κ' : Kap} {h : Hp} {done : List Nat} {i j : Nat} (hk : κ.le κ') (hp : Pn P B ops l fr0 val κ h done i) (hv : ∀ k ∈ done, val' k = val k) : Pn P B ops l fr0 val' κ' h (done ++ [j]) i := by
  obtain ⟨D, E, o, x, h1, h2, h3, h4, h5, h6⟩ := hp
  have hD : FL ops val' D fr0 = FL ops val D fr0 := FL_congr D fr0 (fun k hk => hv k (by rw [h1]; simp [hk]))
  have hi : val' i = val i := hv i (by rw [h1]; simp)
  refine ⟨D, E ++ [j], o, x, by rw [h1]; simp, h2, h3, ?_, ?_, ?_⟩
  · rw [hD, hi]; exact h4.mono hk
  · rw [hD, hi]; exact h5
  · intro hr h2
    rw [hD, hi]; exact (h6 hr h2).mono hk

theorem chk_facts (hl : compOps P n ops ops.toList = some l) {fr : Fr} {h : Hp} {κ : Kap} (ht : Total κ fr) : ∀ (rest : List Item), (∀ x ∈ rest, ItemOf l x) → itemsD rest cf fr h K → ∀ i ∈ chkRun rest, ∀ o, ops[i]? = some o →
    ∃ x d, l[i]? = some x ∧ x.dst = some d ∧ RunAt P B ops o fr (getS fr d) κ h
  | [], _, _, i, hi, o, ho => by simp [chkRun] at hi
  | .ex j x :: r, _, _, i, hi, o, ho => by simp [chkRun] at hi
  | .chk j d op g :: r, hof, hD, i, hi, o, ho => by
    obtain ⟨x, hx, hd, hxo, hg⟩ := hof (.chk j d op g) (by simp)
    have hD' : grdK g fr (op fr h fun v _ => gd (sameV v (getS fr d)) (itemsD r cf fr h K)) (itemsD r cf fr h K) := by rw [← chkD_eq]; exact hD
    have ho' := oper_of hl hx
    obtain ⟨oj, hoj, hcomp⟩ := ho'
    obtain ⟨_, hop, hgd⟩ := compOper_parts hcomp
    have hsel : ∀ cs b, oj.op ≠ .select cs b := by
      simp only [compOper, Option.bind_eq_some_iff, Option.map_eq_some_iff] at hcomp
      obtain ⟨_, _, a, h2, _⟩ := hcomp
      exact no_select h2
    have hread : ReadOK P op oj := by rw [hxo] at hop; simpa [AopOK] using hop
    obtain ⟨_, hR, hG⟩ := grdK_map (α := Unit) (R := fun _ => itemsD r cf fr h K) (A' := fun _ => ∀ (w0 : W0) κ ρ w, Sim B w0 κ h w → Rho κ fr ρ → ∃ V, gam κ (getS fr d) = some V ∧ (execOp ρ oj).run P w = .ok (.value V) w) (C' := fun _ => True) hD'
      (fun hA => by
        obtain ⟨av, hK, hrest⟩ := hread fr h _ hA
        obtain ⟨hs, hK⟩ := gd_iff.1 hK
        have e := sameV_eq hs
        exact ⟨(), hK, fun w0 κ ρ w s hr => by rw [← e]; exact hrest B w0 κ ρ w s hr⟩) (fun hC => ⟨(), hC, trivial⟩)
    simp only [chkRun, List.mem_cons] at hi
    rcases hi with rfl | hi
    · rw [hoj] at ho; cases ho
      refine ⟨x, d, hx, hd, fun w0 κ2 w2 a2 hle s2 hlk hwant => ?_⟩
      obtain ⟨ρ, r1, r2, r3, r4, r5⟩ := Total.rho (fun t => let ⟨V, hV⟩ := ht t; ⟨V, gam_mono hle _ _ hV⟩ : Total κ2 fr)
      rw [← hg] at hG
      obtain ⟨_, _, hu⟩ := grdK_map (α := Unit) (R := fun _ => True) (A' := fun _ => ∃ V, gam κ2 (getS fr d) = some V ∧ (execOp ρ o).run P w2 = .ok (.value V) w2) (C' := fun _ => True) hG (fun hA => ⟨(), trivial, hA w0 κ2 ρ w2 s2 r1⟩) (fun _ => ⟨(), trivial, trivial⟩)
      rcases guard_ok (n := n) (κ := κ2) hgd rfl (tmps := a2.tmps) (fun j want hgj oj' d' h1 h2 => hlk d' (looks_guard hgj h1 h2)) hu with ⟨_, hA⟩ | ⟨hw', _⟩
      · rw [exec_same hsel r2 r3 r4 r5 hlk]; exact hA
      · rw [hw'] at hwant; cases hwant
    · exact chk_facts hl ht r (fun x hx => hof x (by simp [hx])) hR i hi o ho

theorem chks_looks {ms : List Nat} : ∀ (r : List Item) (done : List Nat), chksOK ops l ms done r = true → ∀ i ∈ chkRun r, (looksA ops i).any (fun t => dstAt ops i == some t) = false
  | [], done, h, i, hi => by simp [chkRun] at hi
  | .ex j x :: r, done, h, i, hi => by simp [chkRun] at hi
  | .chk j d op g :: r, done, h, i, hi => by
    simp only [chksOK, Bool.and_eq_true, Bool.not_eq_true'] at h
    simp only [chkRun, List.mem_cons] at hi
    rcases hi with rfl | hi
    · exact h.1.2
    · exact chks_looks r done h.2 i hi
theorem chkRun_chkd : ∀ (r : List Item) (i : Nat), i ∈ chkRun r → i ∈ chkd r
  | [], i, h => by simp [chkRun] at h
  | .ex j x :: r, i, h => by simp [chkRun] at h
  | .chk j d op g :: r, i, h => by
    simp only [chkRun, chkd, List.mem_cons] at h ⊢
    exact h.imp id (chkRun_chkd r i)

/-- The machine goes on to the next acting operation. -/
theorem adv {gi : Option Nat} (hgi : ∀ A, gi = some A → actAt l A = true) (hl : compOps P n ops ops.toList = some l) (hnd : (ordOf items).Nodup) {S : Nat → Bool} {h : Hp} {κ : Kap} (hw : ∃ w, Sim B w0 κ h w) : ∀ (rest : List Item) (done : List Nat) (val : Nat → AV), St P B cf ops l fr0 K items gi S done rest val h κ →
    ∃ done2 rest2 val2, St P B cf ops l fr0 K items gi S done2 rest2 val2 h κ ∧ (rest2 = [] ∨ ∃ s x r, rest2 = .ex s x :: r ∧ actAt l s = true) ∧ (∀ i ∈ done, val2 i = val i) ∧ ∃ E, done2 = done ++ E ∧ ∀ j ∈ E, S j = false
  | [], done, val, st => ⟨done, [], val, st, .inl rfl, fun _ _ => rfl, [], by simp, by simp⟩
  | .chk i d op g :: r, done, val, st => by
    have hD' : grdK g (FL ops val done fr0) (op (FL ops val done fr0) h fun v _ => gd (sameV v (getS (FL ops val done fr0) d)) (itemsD r cf (FL ops val done fr0) h K)) (itemsD r cf (FL ops val done fr0) h K) := by rw [← chkD_eq]; exact st.run
    obtain ⟨x, hx, hd, hxo, hg⟩ := st.of (.chk i d op g) (by simp)
    have hrun : itemsD r cf (FL ops val done fr0) h K := by
      have hoj := oper_of hl hx
      obtain ⟨oj, hoj, hcomp⟩ := hoj
      obtain ⟨_, hop, _⟩ := compOper_parts hcomp
      have hread : ReadOK P op oj := by rw [hxo] at hop; simpa [AopOK] using hop
      obtain ⟨_, hR, _⟩ := grdK_map (α := Unit) (R := fun _ => itemsD r cf (FL ops val done fr0) h K) (A' := fun _ => True) (C' := fun _ => True) hD'
        (fun hA => by
          obtain ⟨av, hK, _⟩ := hread _ h _ hA
          exact ⟨(), (gd_iff.1 hK).2, trivial⟩) (fun hC => ⟨(), hC, trivial⟩)
      exact hR
    have hc := st.chk
    simp only [chksOK, Bool.and_eq_true] at hc
    exact adv hgi hl hnd hw r done val ⟨st.ord, hrun, fun x hx => st.of x (by simp [hx]), hc.2, fun x hx => st.sub x (by simp [chkd, hx]), st.sdone, st.acts, st.rep, st.pend, st.tot⟩
  | .ex i x :: r, done, val, st => by
    by_cases hact : actAt l i = true
    · exact ⟨done, _, val, st, .inr ⟨i, x, r, rfl, hact⟩, fun _ _ => rfl, [], by simp, by simp⟩
    · have hx : l[i]? = some x := st.of (.ex i x) (by simp)
      have ha : actsB x.op = false := by simpa [actAt, hx] using hact
      obtain ⟨o, ho, hcomp⟩ := oper_of hl hx
      have hidone : i ∉ done := by
        have h1 := hnd
        rw [st.ord] at h1
        simp only [ordOf] at h1
        intro hi
        exact (List.nodup_append.1 h1).2.2 i hi i (by simp) rfl
      have hSi : S i = false := by
        cases hS : S i with
        | false => rfl
        | true =>
          rcases st.sdone i hS with q | q
          · exact absurd q hidone
          · exact absurd (hgi i q.symm) hact
      obtain ⟨v, hR, hrep, hrun, hpg, hall⟩ := silent (P := P) (B := B) (w0 := w0) hcomp ha (show stepD x (itemsD r) cf (FL ops val done fr0) h K from st.run) (st.tot.FL done fr0 st.rep) hw
      have hv2 : ∀ k ∈ done, (setV val i v) k = val k := fun k hk => setV_ne _ _ (fun e => hidone (by rw [← e]; exact hk))
      have hFL : FL ops (setV val i v) done fr0 = FL ops val done fr0 := FL_congr done fr0 hv2
      have hdx : x.dst = (dstAt ops i).map gpos := by
        have := (dstOf_eq (compOper_parts hcomp).1).1
        rw [this]; simp [dstAt, ho]
      have hc := st.chk
      simp only [chksOK, Bool.and_eq_true] at hc
      obtain ⟨done2, rest2, val2, st2, h3, h4, E, h5, h6⟩ := adv hgi hl hnd hw r (done ++ [i]) (setV val i v) ⟨by rw [st.ord]; simp [ordOf], by
          rw [FL_snoc, hFL, ← hdx, setV_self]; exact hR, fun x hx => st.of x (by simp [hx]), hc.2, fun x hx => st.sub x (by simp [chkd, hx]),
        fun j hj => (st.sdone j hj).imp (fun q => by simp [q]) id, fun j hj hja => by
          rcases List.mem_append.1 hj with hj | hj
          · exact st.acts j hj hja
          · simp at hj; subst hj; exact absurd hja hact,
        fun j hj => by
          rcases List.mem_append.1 hj with hj | hj
          · rw [hv2 j hj]; exact st.rep j hj
          · simp at hj; subst hj; rw [setV_self]; exact hrep,
        fun j hj hS => by
          rcases List.mem_append.1 hj with hj | hj
          · exact (st.pend j hj hS).push κ.le_refl hv2
          · simp at hj; subst hj
            refine ⟨done, [], o, x, by simp, ho, hx, ?_, ?_, ?_⟩
            · rw [hFL, setV_self]; exact hrun
            · rw [hFL, setV_self]; exact hpg
            · intro hr h2; rw [hFL, setV_self]; exact hall hr h2,
        st.tot⟩
      refine ⟨done2, rest2, val2, st2, h3, fun j hj => by rw [h4 j (by simp [hj]), hv2 j hj], i :: E, by rw [h5]; simp, fun j hj => ?_⟩
      rcases List.mem_cons.1 hj with rfl | hj
      · exact hSi
      · exact h6 j hj

end Go.Am

namespace Go.Am
set_option linter.unusedSimpArgs false
set_option linter.unusedVariables false
open Go Go.RowKit
variable {P : Program} {B : Nat} {w0 : W0} {cf : CallK} {ops : Array Oper} {l : List AOper} {fr0 : Fr} {K : Fr → Hp → Prop} {items : List Item} {n : Nat}

noncomputable def flOf (ops : Array Oper) (l : List AOper) : Option Nat := floatOf ops l (masks ops.toList [])

theorem isFl_iff {fl : Option Nat} {y : Nat} (h : isFl fl y = true) : fl = some y := by
  cases fl with
  | none => cases h
  | some A => rw [Nat.eq_of_beq_eq_true h]
theorem pair_iff {ms : List Nat} {fl : Option Nat} {x y : Nat} (h : pairOK ops l ms fl x y = true) : (ms.getD y 0).testBit x = true ∨ ((actAt l x = false ∨ fl = some y) ∧ wrecks ops x y = false ∧ wrecks ops y x = false) := by
  simp only [pairOK, Bool.or_eq_true, Bool.not_eq_true', Bool.or_eq_false_iff, Bool.and_eq_true] at h
  rcases h with h | ⟨⟨h2, h3⟩, h1⟩
  · exact .inl h
  · exact .inr ⟨h1.imp id isFl_iff, h2, h3⟩
theorem wrecks_look {x y : Nat} {d : Tmp} (hd : dstAt ops y = some d) (h : d ∈ looksA ops x ∨ dstAt ops x = some d) : wrecks ops x y = true := by
  simp only [wrecks, hd, Bool.or_eq_true, List.contains_iff_mem, beq_iff_eq]
  exact h
theorem looksA_eq {i : Nat} {o : Oper} (h : ops[i]? = some o) : looksA ops i = Oper.looksAt ops o := by simp [looksA, h]
theorem before_mem {A : List Nat} {j : Nat} (h : j ∈ A) : ∃ A1 A2, A = A1 ++ j :: A2 := List.append_of_mem h

/-- All that the checks say. -/
structure Facts (ops : Array Oper) (l : List AOper) (items : List Item) : Prop where
  all : ∀ i, i < ops.size → i ∈ ordOf items
  lt : ∀ i ∈ ordOf items, i < ops.size
  nd : (ordOf items).Nodup
  pairs : pairsOK ops l (masks ops.toList []) (flOf ops l) (ordOf items) = true
  chks : chksOK ops l (masks ops.toList []) [] items = true
  keeps : keepsOK ops (chkd items) (ordOf items) = true
  fl : ∀ A, flOf ops l = some A → floatAt ops A = true
theorem facts_of (h : drawOK0 ops l items = true) : Facts ops l items := by
  simp only [drawOK0, Bool.and_eq_true, List.all_eq_true, List.mem_range, List.contains_iff_mem] at h
  obtain ⟨⟨⟨⟨⟨⟨h1, h2⟩, h3⟩, h4⟩, h5⟩, h6⟩, h8⟩ := h
  refine ⟨h1, fun i hi => by simpa using h2 i hi, noDup_iff _ h3, h4, h5, h6, fun A hA => ?_⟩
  have hA' : floatOf ops l (masks ops.toList []) = some A := hA
  rw [hA'] at h8
  exact h8
theorem Facts.mask (_ : Facts ops l items) {j i : Nat} (h : ((masks ops.toList []).getD j 0).testBit i = true) {S : Nat → Prop} (hS : Closed ops S) (hj : S j) : S i :=
  masks_ok ops ops.toList [] (by simp) (fun j i hb => by simp at hb) j i h S hS hj

theorem filter_same {A : List Nat} {p q : Nat → Bool} (h : ∀ j ∈ A, p j = q j) : A.filter p = A.filter q := List.filter_congr h

/-! ### a block that the machine does not know of yet -/
theorem Sim.addGhost {B : Nat} {w0 : W0} {w : World} {κ : Kap} {h : Hp} (s : Sim B w0 κ h w) (ob : Obj) : Sim B (w0.add w.heap.size ob) κ h (w.alloc ob) := by
  have lt : ∀ p e ki, h.objs.getP (npos p) = some e → κ p = some ki → ki.blk < w.heap.size := fun p e ki hp hk => by
    obtain ⟨ki', h1, _, _, h4⟩ := s.obj p e hp
    rw [hk] at h1; cases h1
    obtain ⟨y, hy⟩ := Option.isSome_iff_exists.1 h4.isSome
    exact (Array.getElem?_eq_some_iff.1 hy).1
  refine ⟨s.below.alloc s.size ob, by have := s.size; show B ≤ (w.heap.push ob).size; simp; omega, fun p e hp => ?_, s.apart, s.fresh, fun c oc hc => ?_, fun p e ki hp hk ho => ?_⟩
  · obtain ⟨ki, h1, h2, h3, h4⟩ := s.obj p e hp
    exact ⟨ki, h1, h2, h3, by rw [heap_alloc_old w ob (lt p e ki hp h1)]; exact h4⟩
  · simp only [W0.add] at hc
    split at hc
    · rename_i e
      cases hc
      rw [e]
      exact ⟨s.size, heap_alloc_new _ _⟩
    · exact ⟨(s.ghost c oc hc).1, by rw [heap_alloc_old w ob (s.gh_lt hc)]; exact (s.ghost c oc hc).2⟩
  · have := lt p e ki hp hk
    simp only [W0.add]
    rw [if_neg (by omega)]
    exact s.gap p e ki hp hk ho
theorem Sim.absorb {B : Nat} {w0 : W0} {w : World} {κ : Kap} {h : Hp} {b : Nat} {ob0 : Obj} (s : Sim B (w0.add b ob0) κ h w) (hb : w0.gh b = none) (esz cap : Nat) (ob : AObj) (ho : ObjSim κ ob esz ⟨b, 0, cap⟩ (some ob0)) :
    Sim B w0 (κ.set h.next ⟨b, 0, cap⟩) ⟨E1.updP (some ⟨true, esz, ob⟩) (npos h.next) h.objs, h.next + 1⟩ w := by
  have hle : κ.le (κ.set h.next ⟨b, 0, cap⟩) := Kap.le_set s.none_next
  have hg : (w0.add b ob0).gh b = some ob0 := by simp [W0.add]
  obtain ⟨g1, g2⟩ := s.ghost b ob0 hg
  have ne : ∀ p e ki, h.objs.getP (npos p) = some e → κ p = some ki → e.own = true → ki.blk ≠ b := fun p e ki hp hk ho q => by
    have := s.gap p e ki hp hk ho
    rw [q, hg] at this; cases this
  refine ⟨s.below, s.size, fun p e hp => ?_, fun p q e e' ki ki' hp hq hk hk' ho1 ho2 hne => ?_, fun p ki hk => ?_, fun c oc hc => ?_, fun p e ki hp hk ho => ?_⟩
  · by_cases hpn : p = h.next
    · subst hpn
      simp only [E1.getP_upd_self, Option.some.injEq] at hp
      subst hp
      refine ⟨_, Kap.set_self _ _ _, fun _ => g1, fun h => by simp at h, ?_⟩
      rw [g2]
      exact ho.mono hle
    · rw [E1.getP_upd_ne _ _ _ _ (fun e => hpn (npos_inj e).symm)] at hp
      obtain ⟨ki, h1, h2, h3, h4⟩ := s.obj p e hp
      exact ⟨ki, hle _ _ h1, h2, h3, h4.mono hle⟩
  · by_cases hpn : p = h.next
    · subst hpn
      have hqn : q ≠ h.next := fun e => hne e.symm
      rw [Kap.set_self] at hk; cases hk
      rw [Kap.set_ne _ _ hqn] at hk'
      rw [E1.getP_upd_ne _ _ _ _ (fun e => hqn (npos_inj e).symm)] at hq
      exact fun e => ne q e' ki' hq hk' ho2 e.symm
    · rw [Kap.set_ne _ _ hpn] at hk
      rw [E1.getP_upd_ne _ _ _ _ (fun e => hpn (npos_inj e).symm)] at hp
      by_cases hqn : q = h.next
      · subst hqn
        rw [Kap.set_self] at hk'; cases hk'
        exact ne p e ki hp hk ho1
      · rw [Kap.set_ne _ _ hqn] at hk'
        rw [E1.getP_upd_ne _ _ _ _ (fun e => hqn (npos_inj e).symm)] at hq
        exact s.apart p q e e' ki ki' hp hq hk hk' ho1 ho2 hne
  · by_cases hpn : p = h.next
    · subst hpn; simp
    · rw [Kap.set_ne _ _ hpn] at hk
      have := s.fresh p ki hk
      simp; omega
  · have hcb : c ≠ b := fun e => by rw [e, hb] at hc; cases hc
    exact s.ghost c oc (by simp only [W0.add]; rw [if_neg hcb]; exact hc)
  · by_cases hpn : p = h.next
    · subst hpn
      rw [Kap.set_self] at hk; cases hk
      exact hb
    · rw [Kap.set_ne _ _ hpn] at hk
      rw [E1.getP_upd_ne _ _ _ _ (fun e => hpn (npos_inj e).symm)] at hp
      have h1 := s.gap p e ki hp hk ho
      have h2 := ne p e ki hp hk ho
      simp only [W0.add] at h1
      rw [if_neg h2] at h1
      exact h1

/-- What is known of the operation that may be done at any time. -/
def FltOK (P : Program) (ops : Array Oper) (l : List AOper) (n A : Nat) (ob : Obj) : Prop := ∃ o x d, ops[A]? = some o ∧ l[A]? = some x ∧ compOper P n ops o = some x ∧ o.guard = none ∧ x.guard = none ∧ x.op = .op d true true ∧
  (∀ ρ w, (execOp ρ o).run P w = .ok (.value (.pointer (some ⟨w.heap.size, 0, none⟩))) (w.alloc ob)) ∧
  ∀ fr h K, d fr h K → ∃ av h', K av h' ∧ ∀ B w0 b κ w, Sim B (w0.add b ob) κ h w → w0.gh b = none → ∃ κ', κ.le κ' ∧ Sim B w0 κ' h' w ∧ gam κ' av = some (.pointer (some ⟨b, 0, none⟩))
theorem flt_of (hl : compOps P n ops ops.toList = some l) {A : Nat} (hA : floatAt ops A = true) : ∃ ob, FltOK P ops l n A ob := by
  unfold floatAt at hA
  cases hoA : ops[A]? with
  | none => rw [hoA] at hA; cases hA
  | some o =>
  rw [hoA] at hA
  simp only at hA
  split at hA
  · rename_i t hop hgu
    obtain ⟨x, hx, hcomp⟩ := compOps_get _ _ hl A o (by simpa using hoA)
    have hc := hcomp
    simp only [compOper, Option.bind_eq_some_iff, Option.map_eq_some_iff] at hc
    obtain ⟨d, hd, a, ha, g, hg, rfl⟩ := hc
    simp only [compOp, hop] at ha
    obtain ⟨k, hk, ha⟩ := bind_some ha
    obtain ⟨z, hz, ha⟩ := bind_some ha
    cases some_inj ha
    obtain ⟨i, Z, h1, h2, h3⟩ := zeroV_gam hz
    rw [hgu] at hg
    simp only [guardOf, Option.some.injEq] at hg
    subst hg
    refine ⟨.cells Z.cells t, o, _, _, hoA, hx, hcomp, hgu, rfl, rfl, fun ρ w => by simp [execOp, hop, Instr.alloc, zeroValue, typeInfo, h1, h2, newVar, newRow], fun fr h K hD => ?_⟩
    obtain ⟨l', hD, hl'⟩ := asCells_iff (show asCells z _ from hD)
    obtain ⟨hn, hD⟩ := gd_iff.1 hD
    obtain ⟨ob', hD, hro, hsz, hcell⟩ := rowK_iff hD
    rw [newK_eq] at hD
    refine ⟨_, _, hD, fun B w0 b κ w s hb => ?_⟩
    obtain ⟨g1, g2⟩ := hl' κ Z (h3 κ)
    refine ⟨κ.set h.next ⟨b, 0, 0⟩, Kap.le_set s.none_next, s.absorb hb k 0 ob' ?_, by simp [gam, Kap.set_self, Ki.at]⟩
    rw [objSim_row hro]
    have := rowSim_new hsz hcell g1 g2 #[] t k 0 b (by simp)
    simpa using this
  · cases hA

def plusW (w0 : W0) (gi : Option Nat) (b : Nat) (ob : Obj) : W0 := match gi with | none => w0 | some _ => w0.add b ob
def plusA (ops : Array Oper) (a : Act) (gi : Option Nat) (b : Nat) : Act := match gi with | none => a | some A => a.put (dstAt ops A) (.pointer (some ⟨b, 0, none⟩))
theorem put_comm (a : Act) {d e : Option Tmp} (u v : Value) (h : ∀ t, d = some t → e ≠ some t) : (a.put d u).put e v = (a.put e v).put d u := by
  cases d with
  | none => cases e <;> rfl
  | some d =>
    cases e with
    | none => rfl
    | some e =>
      have hne : d ≠ e := fun q => h d rfl (by rw [q])
      simp only [Act.put]
      congr 1
      exact Array.setIfInBounds_comm _ _ hne
theorem put_get (a : Act) {d : Option Tmp} (u : Value) {t : Tmp} (h : d ≠ some t) : (a.put d u).tmps.getD t undef = a.tmps.getD t undef := by
  cases d with
  | none => rfl
  | some d =>
    have hne : d ≠ t := fun q => h (by rw [q])
    simp [Act.put, Array.getElem?_setIfInBounds, hne]

/-- The machine's state behind an acting operation. -/
theorem St.act {gi gi' : Option Nat} (hl : compOps P n ops ops.toList = some l) (F : Facts ops l items) {S S' : Nat → Bool} {done : List Nat} {s' : Nat} {x : AOper} {r : List Item} {val : Nat → AV} {h h' : Hp} {κ' κ2 : Kap} {av : AV} {v : Value}
    (st : St P B cf ops l fr0 K items gi S done (.ex s' x :: r) val h κ') (hact : actAt l s' = true) (hcl' : Closed ops (fun i => S' i = true)) (hS' : ∀ j, S' j = true ↔ j = s' ∨ S j = true) (hk2 : κ'.le κ2) (hv : gam κ2 av = some v)
    (hrun : itemsD r cf (updD x.dst av (FL ops val done fr0)) h' K) (hgi : ∀ i, some i = gi → some i = gi' ∨ i = s') :
    St P B cf ops l fr0 K items gi' S' (done ++ [s']) r (setV val s' av) h' κ2 := by
  have hord := st.ord
  have hnd := F.nd
  rw [hord] at hnd
  have hid : s' ∉ done := fun hi => (List.nodup_append.1 hnd).2.2 s' hi s' (by simp [ordOf]) rfl
  have hx : l[s']? = some x := st.of (.ex s' x) (by simp)
  obtain ⟨o, ho, hcomp⟩ := oper_of hl hx
  have hdx : x.dst = (dstAt ops s').map gpos := by rw [(dstOf_eq (compOper_parts hcomp).1).1]; simp [dstAt, ho]
  have hS'f : ∀ j, S' j = false → S j = false ∧ j ≠ s' := by
    intro j hj
    constructor
    · cases hb : S j with
      | false => rfl
      | true => rw [(hS' j).2 (.inr hb)] at hj; cases hj
    · intro e; rw [(hS' j).2 (.inl e)] at hj; cases hj
  have hv2 : ∀ k ∈ done, setV val s' av k = val k := fun k hk => setV_ne _ _ (fun e => hid (by rw [← e]; exact hk))
  have hFL : FL ops (setV val s' av) done fr0 = FL ops val done fr0 := FL_congr done fr0 hv2
  have hfr : FL ops (setV val s' av) (done ++ [s']) fr0 = updD x.dst av (FL ops val done fr0) := by rw [FL_snoc, hFL, ← hdx, setV_self]
  have htot2 : Total κ2 fr0 := fun t => let ⟨V, hV⟩ := st.tot t; ⟨V, gam_mono hk2 _ _ hV⟩
  have hrep2 : ∀ j ∈ done ++ [s'], ∃ V, gam κ2 (setV val s' av j) = some V := by
    intro j hj
    rcases List.mem_append.1 hj with hj | hj
    · rw [hv2 j hj]; obtain ⟨V, hV⟩ := st.rep j hj; exact ⟨V, gam_mono hk2 _ _ hV⟩
    · simp at hj; subst hj; rw [setV_self]; exact ⟨v, hv⟩
  have hof : ∀ x ∈ r, ItemOf l x := fun x hx => st.of x (by simp [hx])
  have hc := st.chk
  simp only [chksOK, Bool.and_eq_true] at hc
  refine ⟨by rw [hord]; simp [ordOf], by rw [hfr]; exact hrun, hof, hc.2, fun x hx => st.sub x (by simp [chkd, hx]), fun j hj => ?_, fun j hj hja => ?_, hrep2, fun j hj hjS => ?_, htot2⟩
  · rcases (hS' j).1 hj with rfl | hj
    · exact .inl (by simp)
    · rcases st.sdone j hj with q | q
      · exact .inl (by simp [q])
      · rcases hgi j q with q | q
        · exact .inr q
        · exact .inl (by simp [q])
  · rcases List.mem_append.1 hj with hj | hj
    · exact (hS' j).2 (.inr (st.acts j hj hja))
    · simp at hj; exact (hS' j).2 (.inl hj)
  · obtain ⟨hjS1, hjs⟩ := hS'f j hjS
    have hjd : j ∈ done := by
      rcases List.mem_append.1 hj with hj | hj
      · exact hj
      · simp at hj; exact absurd hj hjs
    obtain ⟨D, E, oj, xj, h1, h2, h3, h4, h5, h6⟩ := st.pend j hjd hjS1
    have hD : FL ops (setV val s' av) D fr0 = FL ops val D fr0 := FL_congr D fr0 (fun k hk => hv2 k (by rw [h1]; simp [hk]))
    refine ⟨D, E ++ [s'], oj, xj, by rw [h1]; simp, h2, h3, ?_, by rw [hD, hv2 j hjd]; exact h5, fun hr h2 => by rw [hD, hv2 j hjd]; exact (h6 hr h2).mono hk2⟩
    rw [hD, hv2 j hjd]
    cases hrd : readsB xj.op with
    | false => exact (h6 hrd h').mono hk2
    | true =>
      -- the check behind the acting operation
      have hc1 := hc.1
      simp only [hact, Bool.not_true, Bool.false_or, List.all_eq_true, Bool.or_eq_true, Bool.not_eq_true', List.contains_iff_mem] at hc1
      have hj3 : readAt l j = true := by simp [readAt, h3, hrd]
      rcases hc1 j hjd with (hc1 | hc1) | hc1
      · rw [hj3] at hc1; cases hc1
      · have := F.mask hc1 hcl' ((hS' s').2 (.inl rfl))
        rcases (hS' j).1 this with e | e
        · exact absurd e hjs
        · rw [hjS1] at e; cases e
      · obtain ⟨x', d, q1, q2, q3⟩ := chk_facts (P := P) (B := B) (cf := cf) hl (htot2.FL (done ++ [s']) fr0 hrep2) r hof (by rw [hfr]; exact hrun) j hc1 oj h2
        rw [h3] at q1; cases q1
        have hcd : j ∈ chkd items := st.sub j (by simp [chkd, chkRun_chkd r j hc1])
        have hordj : ordOf items = D ++ j :: (E ++ s' :: ordOf r) := by rw [hord, h1]; simp [ordOf]
        have keep : ∀ y ∈ E ++ [s'], wrecks ops j y = false := fun y hy => keeps_mem D j (E ++ s' :: ordOf r) (by have := F.keeps; rw [hordj] at this; exact this) hcd y (by
          rcases List.mem_append.1 hy with hy | hy
          · simp [hy]
          · simp at hy; simp [hy])
        have hlk := chks_looks r (done ++ [s']) hc.2 j hc1
        obtain ⟨o3, ho3, hcomp3⟩ := oper_of hl h3
        rw [h2] at ho3; cases ho3
        have hdj : xj.dst = (dstAt ops j).map gpos := by rw [(dstOf_eq (compOper_parts hcomp3).1).1]; simp [dstAt, h2]
        rw [hdj] at q2
        obtain ⟨t, ht, rfl⟩ := Option.map_eq_some_iff.1 q2
        have hdn2 : done ++ [s'] = D ++ j :: (E ++ [s']) := by rw [h1]; simp
        have hval : getS (FL ops (setV val s' av) (done ++ [s']) fr0) (gpos t) = val j := by
          rw [hdn2, FL_last _ t D j (E ++ [s']) fr0 ht (fun y hy e => by
            have := keep y hy
            rw [wrecks_look e (.inr ht)] at this; cases this), hv2 j hjd]
        rw [hval] at q3
        refine q3.frame fun u hu => ?_
        rw [← hD]
        refine FL_two _ u _ _ fr0 fr0 ?_ rfl
        rw [hdn2, List.filter_append, List.filter_cons]
        have e1 : (dstAt ops j == some u) = false := by
          rw [Bool.eq_false_iff]
          intro e
          rw [← looksA_eq h2] at hu
          rw [List.any_eq_false] at hlk
          exact hlk u hu e
        have e2 : (E ++ [s']).filter (fun i => dstAt ops i == some u) = [] := by
          rw [List.filter_eq_nil_iff]
          intro y hy e
          have := keep y hy
          rw [wrecks_look (by simpa using e) (.inl (by rw [looksA_eq h2]; exact hu))] at this; cases this
        rw [e1, e2]; simp

/-- The state of the walk. -/
def Inv (P : Program) (B : Nat) (w0 : W0) (cf : CallK) (ops : Array Oper) (l : List AOper) (fr0 : Fr) (K : Fr → Hp → Prop) (items : List Item) (n : Nat) (κ : Kap) (listed : Array Bool) (a : Act) (w : World) : Prop :=
  ∃ (gi : Option Nat) (b : Nat) (ob : Obj) (done : List Nat) (rest : List Item) (val : Nat → AV) (h : Hp) (κ' : Kap) (a' : Act), κ.le κ' ∧ St P B cf ops l fr0 K items gi (fun i => listed.getD i false) done rest val h κ' ∧
    Sim B (plusW w0 gi b ob) κ' h w ∧ FrOK κ' n (FL ops val (done.filter fun i => listed.getD i false) fr0) a' ∧ a = plusA ops a' gi b ∧
    (∀ A, gi = some A → flOf ops l = some A ∧ FltOK P ops l n A ob ∧ listed.getD A false = true ∧ A ∈ ordOf rest ∧ w0.gh b = none) ∧
    (rest = [] ∨ ∃ s x r, rest = .ex s x :: r ∧ actAt l s = true ∧ gi ≠ some s)

theorem float_act (hl : compOps P n ops ops.toList = some l) {A : Nat} {ob : Obj} (h : FltOK P ops l n A ob) : actAt l A = true := by
  obtain ⟨o, x, d, _, h2, _, _, _, h6, _⟩ := h
  simp [actAt, h2, h6, actsB]

/-- From the end of an acting operation to the next one: a variable that the model has made ahead of its turn is taken up. -/
theorem settle (hl : compOps P n ops ops.toList = some l) (F : Facts ops l items) {κ : Kap} {listed : Array Bool} (hcl : Closed ops (fun i => listed.getD i false = true)) {gi : Option Nat} {b : Nat} {ob : Obj} {done : List Nat} {r : List Item} {val : Nat → AV} {h : Hp} {κ' : Kap} {a' : Act} {w : World}
    (hle : κ.le κ') (st : St P B cf ops l fr0 K items gi (fun i => listed.getD i false) done r val h κ') (s : Sim B (plusW w0 gi b ob) κ' h w) (hf : FrOK κ' n (FL ops val (done.filter fun i => listed.getD i false) fr0) a')
    (hG : ∀ A, gi = some A → flOf ops l = some A ∧ FltOK P ops l n A ob ∧ listed.getD A false = true ∧ A ∈ ordOf r ∧ w0.gh b = none) : Inv P B w0 cf ops l fr0 K items n κ listed (plusA ops a' gi b) w := by
  have hgi : ∀ A, gi = some A → actAt l A = true := fun A hA => float_act hl (hG A hA).2.1
  obtain ⟨done2, rest2, val2, st2, hr2, hval2, E, hE, hES⟩ := adv hgi hl F.nd ⟨w, s⟩ r done val st
  have hfil : (done2.filter fun j => listed.getD j false) = done.filter fun j => listed.getD j false := by
    rw [hE, List.filter_append]
    have e1 : (E.filter fun j => listed.getD j false) = [] := by
      rw [List.filter_eq_nil_iff]
      intro j hj
      rw [hES j hj]; simp
    rw [e1]; simp
  have hf2 : FrOK κ' n (FL ops val2 (done2.filter fun i => listed.getD i false) fr0) a' := by
    rw [hfil, FL_congr (val' := val) _ fr0 (fun j hj => hval2 j (List.mem_filter.1 hj).1)]; exact hf
  have hG2 : ∀ A, gi = some A → flOf ops l = some A ∧ FltOK P ops l n A ob ∧ listed.getD A false = true ∧ A ∈ ordOf rest2 ∧ w0.gh b = none := fun A hA => by
    obtain ⟨g1, g2, g3, g4, g5⟩ := hG A hA
    refine ⟨g1, g2, g3, ?_, g5⟩
    have h1 : A ∈ done ++ ordOf r := by simp [g4]
    rw [← st.ord, st2.ord] at h1
    rcases List.mem_append.1 h1 with h1 | h1
    · rw [hE] at h1
      rcases List.mem_append.1 h1 with h1 | h1
      · have hnd := F.nd
        rw [st.ord] at hnd
        exact absurd rfl ((List.nodup_append.1 hnd).2.2 A h1 A g4)
      · have h2 : listed.getD A false = false := hES A h1
        rw [g3] at h2; cases h2
    · exact h1
  rcases hr2 with hr2 | ⟨s', x, r2, rfl, hact⟩
  · exact ⟨gi, b, ob, done2, rest2, val2, h, κ', a', hle, st2, s, hf2, rfl, hG2, .inl hr2⟩
  by_cases hA : gi = some s'
  · subst hA
    obtain ⟨g1, g2, g3, g4, g5⟩ := hG s' rfl
    obtain ⟨o, x', d, q1, q2, q3, q4, q5, q6, q7, q8⟩ := g2
    have hx : l[s']? = some x := st2.of (.ex s' x) (by simp)
    rw [hx] at q2; cases q2
    have hD' : grdK x.guard (FL ops val2 done2 fr0) (runOp x.op cf (FL ops val2 done2 fr0) h fun v h => putD x.dst v (FL ops val2 done2 fr0) fun fr => itemsD r2 cf fr h K) (putD x.dst undefV (FL ops val2 done2 fr0) fun fr => itemsD r2 cf fr h K) := by rw [← stepD_eq]; exact st2.run
    rw [q5, q6] at hD'
    have hD2 : d (FL ops val2 done2 fr0) h fun v h => putD x.dst v (FL ops val2 done2 fr0) fun fr => itemsD r2 cf fr h K := hD'
    obtain ⟨av, h', hK, hrest⟩ := q8 _ _ _ hD2
    rw [putD_iff] at hK
    obtain ⟨κ2, k1, k2, k3⟩ := hrest B w0 b κ' w s g5
    have hS' : ∀ j, listed.getD j false = true ↔ j = s' ∨ listed.getD j false = true := fun j => ⟨.inr, fun q => q.elim (fun e => e ▸ g3) id⟩
    have st3 : St P B cf ops l fr0 K items none (fun i => listed.getD i false) (done2 ++ [s']) r2 (setV val2 s' av) h' κ2 :=
      st2.act hl F hact hcl hS' k1 k3 hK (fun i hi => .inr (Option.some.inj hi))
    obtain ⟨done4, rest4, val4, st4, hr4, hval4, E4, hE4, hES4⟩ := adv (gi := none) (fun A hA => by cases hA) hl F.nd ⟨w, k2⟩ r2 (done2 ++ [s']) _ st3
    have hid : s' ∉ done2 := fun hi => by
      have hnd := F.nd
      rw [st2.ord] at hnd
      exact (List.nodup_append.1 hnd).2.2 s' hi s' (by simp [ordOf]) rfl
    obtain ⟨hdst, hop, hg⟩ := compOper_parts q3
    have hdx : x.dst = (dstAt ops s').map gpos := by rw [(dstOf_eq hdst).1]; simp [dstAt, q1]
    have hdA : dstAt ops s' = o.dst := by simp [dstAt, q1]
    refine ⟨none, b, ob, done4, rest4, val4, h', κ2, a'.put (dstAt ops s') (.pointer (some ⟨b, 0, none⟩)), Kap.le_trans hle k1, st4, k2, ?_, rfl, (fun A (hA : none = some A) => by cases hA), ?_⟩
    rotate_left
    · rcases hr4 with e | ⟨s, x, r, e1, e2⟩
      · exact .inl e
      · exact .inr ⟨s, x, r, e1, e2, fun e => by cases e⟩
    have hfil4 : (done4.filter fun j => listed.getD j false) = (done2.filter fun j => listed.getD j false) ++ [s'] := by
      rw [hE4, List.filter_append, List.filter_append]
      have e1 : (E4.filter fun j => listed.getD j false) = [] := by
        rw [List.filter_eq_nil_iff]
        intro j hj
        rw [hES4 j hj]; simp
      have e2 : ([s'].filter fun j => listed.getD j false) = [s'] := by
        simp only [List.filter_cons, g3, if_true, List.filter_nil]
      rw [e1, e2]; simp
    have hFL4 : FL ops val4 (done4.filter fun j => listed.getD j false) fr0 = updD x.dst av (FL ops val2 (done2.filter fun j => listed.getD j false) fr0) := by
      rw [hfil4, FL_snoc, hval4 s' (by simp), setV_self, ← hdx]
      congr 1
      refine FL_congr _ fr0 fun j hj => ?_
      have hjd := (List.mem_filter.1 hj).1
      rw [hval4 j (by simp [hjd]), setV_ne _ _ (fun e => hid (by rw [← e]; exact hjd))]
    rw [hFL4, hdA]
    exact put_dst (hf2.mono k1) hdst k3
  · exact ⟨gi, b, ob, done2, _, val2, h, κ', a', hle, st2, s, hf2, rfl, hG2, .inr ⟨s', x, r2, rfl, hact, hA⟩⟩

/-- An order in which all operations may be done. -/
def VEnd (ops : Array Oper) : Array Bool → List Nat → Prop
  | listed, [] => ∀ i, i < ops.size → listed.getD i false = true
  | listed, i :: L => i ∈ Region.ready .any ops listed ∧ VEnd ops (listed.setIfInBounds i true) L
theorem all_ready (hedges : edgesOK 0 ops.toList = true) : ∀ (listed : Array Bool), listed.size = ops.size → Region.ready .any ops listed = [] → ∀ i, i < ops.size → listed.getD i false = true := by
    intro listed hsz hr i
    induction i using Nat.strongRecOn with
    | _ i ih =>
      intro hi
      cases hS : listed.getD i false with
      | true => rfl
      | false =>
        exfalso
        have hmem : i ∈ Region.ready .any ops listed := by
          unfold Region.ready
          rw [List.mem_filter]
          refine ⟨List.mem_range.2 hi, ?_⟩
          have hb : listed.getD i true = false := by
            have : i < listed.size := by omega
            simp [this] at hS ⊢; exact hS
          have ho : ops[i]? = some ops[i] := by simp [hi]
          simp only [hb, Bool.not_false, Bool.true_and, ho, Option.map_some, Option.getD_some, Array.all_eq_true_iff_forall_mem]
          intro e he
          cases hbd : Region.binds .any e with
          | false => rfl
          | true =>
            have hon := edges_ok _ _ hedges i ops[i] e (by simp [hi]) (by simpa using he) hbd
            simp only [Nat.zero_add] at hon
            simpa using ih e.on hon (by omega)
        rw [hr] at hmem
        simp at hmem

theorem lin_valid (hedges : edgesOK 0 ops.toList = true) : ∀ (fuel t : Nat) (listed : Array Bool), listed.size = ops.size → (∃ U : List Nat, (∀ i, i < ops.size → listed.getD i false = false → i ∈ U) ∧ U.length ≤ fuel) →
    VEnd ops listed (Region.linearise.go .any ops fuel t listed []) := by
  intro fuel
  induction fuel with
  | zero =>
    rintro t listed hsz ⟨U, hU, hUl⟩
    simp only [Region.linearise.go, List.reverse_nil, VEnd]
    intro i hi
    cases hS : listed.getD i false with
    | true => rfl
    | false =>
      have := hU i hi hS
      have : U = [] := List.eq_nil_of_length_eq_zero (by omega)
      simp_all
  | succ fuel ih =>
    rintro t listed hsz ⟨U, hU, hUl⟩
    simp only [Region.linearise.go]
    change VEnd ops listed (match (Region.ready .any ops listed)[t % (Region.ready .any ops listed).length]? with
      | some i => Region.linearise.go .any ops fuel (t / (Region.ready .any ops listed).length) (listed.setIfInBounds i true) [i]
      | none => [].reverse)
    cases hi : (Region.ready .any ops listed)[t % (Region.ready .any ops listed).length]? with
    | none =>
      have hnil : Region.ready .any ops listed = [] := by
        cases hr : Region.ready .any ops listed with
        | nil => rfl
        | cons x xs =>
          rw [hr] at hi
          have hlt : t % (x :: xs).length < (x :: xs).length := Nat.mod_lt _ (by simp)
          simp at hi
          simp at hlt
          omega
      simp only [List.reverse_nil, VEnd]
      exact all_ready hedges listed hsz hnil
    | some i =>
      simp only []
      rw [linearise_go_acc, List.reverse_singleton, List.singleton_append]
      have him := List.mem_of_getElem? hi
      refine ⟨him, ih _ _ (by simpa using hsz) ⟨U.erase i, fun j hj hjS => ?_, ?_⟩⟩
      · have hji : j ≠ i := by
          intro e; subst e
          rw [Array.getD_eq_getD_getElem?, Array.getElem?_setIfInBounds] at hjS
          simp [show j < listed.size by omega] at hjS
        have hjL : listed.getD j false = false := by
          rw [Array.getD_eq_getD_getElem?, Array.getElem?_setIfInBounds, if_neg (fun e => hji e.symm), ← Array.getD_eq_getD_getElem?] at hjS
          exact hjS
        exact (List.mem_erase_of_ne hji).2 (hU j hj hjL)
      · have hiU : i ∈ U := by
          unfold Region.ready at him
          rw [List.mem_filter] at him
          obtain ⟨hi1, hi2⟩ := him
          have hiN := List.mem_range.1 hi1
          simp only [Bool.and_eq_true, Bool.not_eq_true'] at hi2
          refine hU i hiN ?_
          have hlt : i < listed.size := by omega
          have := hi2.1
          simp [hlt] at this ⊢; exact this
        rw [List.length_erase_of_mem hiU]; omega

theorem draw_main (hcf : ∀ w0, CallOK P B w0 cf) (hl : compOps P n ops ops.toList = some l) (F : Facts ops l items) {Q : Exit → Act → World → Prop} {κ : Kap}
    (hq : ∀ κ' fr' h' a' w', κ.le κ' → Sim B w0 κ' h' w' → FrOK κ' n fr' a' → K fr' h' → Q .normal a' w') :
    ∀ (L : List Nat) (listed : Array Bool) (a : Act) (w : World), listed.size = ops.size → Closed ops (fun i => listed.getD i false = true) → VEnd ops listed L →
    Inv P B w0 cf ops l fr0 K items n κ listed a w → wpOps P ops Q L a w := by
  -- when all is done
  have fin : ∀ (listed : Array Bool) (a : Act) (w : World), (∀ i, i < ops.size → listed.getD i false = true) →
      Inv P B w0 cf ops l fr0 K items n κ listed a w → Q .normal a w := by
    rintro listed a w hall ⟨gi, b, ob, done, rest, val, h, κ', a', hle, st, s, hf, ha, hG, hrest⟩
    have hord := st.ord
    have hr : rest = [] := by
      rcases hrest with hr | ⟨s', x, r, rfl, _, hne⟩
      · exact hr
      · exfalso
        have hs : s' ∈ ordOf items := by rw [hord]; simp [ordOf]
        have hnd := F.nd
        rw [hord] at hnd
        rcases st.sdone s' (hall s' (F.lt s' hs)) with hd | hd
        · exact (List.nodup_append.1 hnd).2.2 s' hd s' (by simp [ordOf]) rfl
        · exact hne hd.symm
    subst hr
    have hgi : gi = none := by
      cases hg : gi with
      | none => rfl
      | some A => have := (hG A hg).2.2.2.1; simp [ordOf] at this
    subst hgi
    have hfil : (done.filter fun i => listed.getD i false) = done := by
      rw [List.filter_eq_self]
      intro i hi
      exact hall i (F.lt i (by rw [hord]; simp [hi]))
    rw [hfil] at hf
    rw [ha]
    exact hq κ' _ h a' w hle s hf st.run
  intro L
  induction L with
  | nil =>
    rintro listed a w hsz hcl hV hst
    exact fin listed a w hV hst
  | cons i L ih =>
    rintro listed a w hsz hcl ⟨hi, hVE⟩ hst
    rw [wpOps_cons]
    unfold Region.ready at hi
    rw [List.mem_filter] at hi
    obtain ⟨hi1, hi2⟩ := hi
    have hiN := List.mem_range.1 hi1
    simp only [Bool.and_eq_true, Bool.not_eq_true'] at hi2
    obtain ⟨hi2, hi3⟩ := hi2
    have hSi : listed.getD i false = false := by
      have hlt : i < listed.size := by omega
      simp [hlt] at hi2 ⊢; exact hi2
    obtain ⟨o, ho⟩ : ∃ o, ops[i]? = some o := ⟨ops[i], by simp [hiN]⟩
    rw [ho] at hi3
    simp only [Option.map_some, Option.getD_some, Array.all_eq_true_iff_forall_mem] at hi3
    have hS' : ∀ j, (listed.setIfInBounds i true).getD j false = true ↔ j = i ∨ listed.getD j false = true := by
      intro j
      rw [Array.getD_eq_getD_getElem?, Array.getElem?_setIfInBounds]
      by_cases hj : i = j
      · subst hj; simp [show i < listed.size by omega]
      · rw [if_neg hj, ← Array.getD_eq_getD_getElem?]
        constructor
        · exact .inr
        · rintro (h | h)
          · exact absurd h.symm hj
          · exact h
    have hS'f : ∀ j, (listed.setIfInBounds i true).getD j false = false → listed.getD j false = false ∧ j ≠ i := by
      intro j hj
      constructor
      · cases hb : listed.getD j false with
        | false => rfl
        | true => rw [(hS' j).2 (.inr hb)] at hj; cases hj
      · intro e; rw [(hS' j).2 (.inl e)] at hj; cases hj
    have hcl' : Closed ops (fun j => (listed.setIfInBounds i true).getD j false = true) := by
      intro j oj e hj hoj he hb
      rcases (hS' j).1 hj with rfl | hj
      · rw [ho] at hoj; cases hoj
        have := hi3 e (by simpa using he)
        simp [hb] at this
        exact (hS' _).2 (.inr (by simpa using this))
      · exact (hS' _).2 (.inr (hcl j oj e hj hoj he hb))
    obtain ⟨gi, b, ob, done, rest, val, h, κ', a', hle, st, s, hf, ha, hG, hrest⟩ := hst
    have hgact : ∀ A, gi = some A → actAt l A = true := fun A hA => float_act hl (hG A hA).2.1
    -- what stands ahead of a variable that is already made does not touch its slot
    have hno : ∀ (D E' : List Nat) (A : Nat), ordOf items = D ++ i :: E' → gi = some A → A ∈ E' → wrecks ops i A = false ∧ wrecks ops A i = false := by
      intro D E' A hD hA hE'
      have hp : pairOK ops l (masks ops.toList []) (flOf ops l) i A = true := pairs_mem D i E' (by have := F.pairs; rw [hD] at this; exact this) A hE'
      rcases pair_iff hp with hp | ⟨_, h1, h2⟩
      · have := F.mask hp hcl (hG A hA).2.2.1
        rw [hSi] at this; cases this
      · exact ⟨h1, h2⟩
    have hat : ∀ (t : Tmp), (∀ A, gi = some A → dstAt ops A ≠ some t) → a.tmps.getD t undef = a'.tmps.getD t undef := by
      intro t ht
      rw [ha]
      cases gi with
      | none => rfl
      | some A => exact put_get a' _ (ht A rfl)
    have hord := st.ord
    have hnd := F.nd
    rw [hord] at hnd
    unfold wpOp
    rw [ho]
    simp only
    by_cases hid : i ∈ done
    · -- it has been reckoned with already
      obtain ⟨D, E, o', x, hdn, ho', hx, hrun, hpg, _⟩ := st.pend i hid hSi
      rw [ho] at ho'; cases ho'
      obtain ⟨o2, ho2, hcomp⟩ := oper_of hl hx
      rw [ho] at ho2; cases ho2
      obtain ⟨hdst, hop, hg⟩ := compOper_parts hcomp
      have hnd2 : (D ++ i :: (E ++ ordOf rest)).Nodup := by
        have : done ++ ordOf rest = D ++ i :: (E ++ ordOf rest) := by rw [hdn]; simp
        rwa [this] at hnd
      have hordD : ordOf items = D ++ i :: (E ++ ordOf rest) := by rw [hord, hdn]; simp
      have hiD : i ∉ D := fun hD => (List.nodup_append.1 hnd2).2.2 i hD i (by simp) rfl
      have hiE : i ∉ E := fun hE => by
        have := (List.nodup_cons.1 (List.nodup_append.1 hnd2).2.1).1
        exact this (by simp [hE])
      have early : ∀ j ∈ D, ∀ t, dstAt ops j = some t → t ∈ looksA ops i → listed.getD j false = true := by
        intro j hj t hjt ht
        obtain ⟨D1, D2, rfl⟩ := before_mem hj
        have hp : pairOK ops l (masks ops.toList []) (flOf ops l) j i = true := pairs_mem D1 j (D2 ++ i :: (E ++ ordOf rest)) (by have := F.pairs; rw [hordD] at this; simpa using this) i (by simp)
        rcases pair_iff hp with hp | ⟨_, _, hp⟩
        · have := F.mask hp hcl' ((hS' i).2 (.inl rfl))
          rcases (hS' j).1 this with e | e
          · exact absurd (e ▸ hj) hiD
          · exact e
        · rw [wrecks_look hjt (.inl ht)] at hp; cases hp
      have late : ∀ j ∈ E, listed.getD j false = true → wrecks ops i j = false := by
        intro j hj hjS
        have hp : pairOK ops l (masks ops.toList []) (flOf ops l) i j = true := pairs_mem D i (E ++ ordOf rest) (by have := F.pairs; rw [hordD] at this; exact this) j (by simp [hj])
        rcases pair_iff hp with hp | ⟨_, hp, _⟩
        · have := F.mask hp hcl hjS
          rw [hSi] at this; cases this
        · exact hp
      have look : ∀ t ∈ Oper.looksAt ops o, gam κ' (getS (FL ops val D fr0) (gpos t)) = some (a.tmps.getD t undef) := by
        intro t ht
        rw [hat t (fun A hA e => by
          have hAr := (hG A hA).2.2.2.1
          have := (hno D (E ++ ordOf rest) A hordD hA (by simp [hAr])).1
          rw [wrecks_look e (.inl (by rw [looksA_eq ho]; exact ht))] at this; cases this), ← hf.rel t]
        congr 1
        refine FL_two val t _ _ fr0 fr0 ?_ rfl
        rw [← looksA_eq ho] at ht
        rw [hdn]
        simp only [List.filter_append, List.filter_cons, hSi, Bool.false_eq_true, if_false]
        have e1 : (D.filter fun i => listed.getD i false).filter (fun i => dstAt ops i == some t) = D.filter (fun i => dstAt ops i == some t) := by
          rw [List.filter_filter]
          refine filter_same fun j hj => ?_
          cases hd : (dstAt ops j == some t) with
          | false => rfl
          | true => simp [early j hj t (by simpa using hd) ht]
        have e2 : (E.filter fun i => listed.getD i false).filter (fun i => dstAt ops i == some t) = [] := by
          rw [List.filter_eq_nil_iff]
          intro j hj
          obtain ⟨hj1, hj2⟩ := List.mem_filter.1 hj
          have := late j hj1 hj2
          intro hd
          rw [wrecks_look (by simpa using hd) (.inl ht)] at this; cases this
        rw [e1, e2]; simp
      have step : ∀ V, gam κ' (val i) = some V → wpOps P ops Q L (a.put o.dst V) w := by
        intro V hV
        refine ih _ _ w (by simpa using hsz) hcl' hVE ⟨gi, b, ob, done, rest, val, h, κ', a'.put o.dst V, hle, ⟨st.ord, st.run, st.of, st.chk, st.sub, fun j hj => ?_, fun j hj hja => (hS' j).2 (.inr (st.acts j hj hja)), st.rep, fun j hj hjS => st.pend j hj (hS'f j hjS).1, st.tot⟩, s, ?_, ?_, fun A hA => ?_, hrest⟩
        · rcases (hS' j).1 hj with rfl | hj
          · exact .inl hid
          · exact st.sdone j hj
        rotate_left
        · rw [ha]
          cases hgi : gi with
          | none => rfl
          | some A =>
            have hAr := (hG A hgi).2.2.2.1
            exact put_comm a' _ _ (fun t h1 h2 => by
              have := (hno D (E ++ ordOf rest) A hordD hgi (by simp [hAr])).1
              rw [wrecks_look h1 (.inr (by simp [dstAt, ho, h2]))] at this; cases this)
        · obtain ⟨g1, g2, g3, g4, g5⟩ := hG A hA
          exact ⟨g1, g2, (hS' A).2 (.inr g3), g4, g5⟩
        · have hfil : (done.filter fun j => (listed.setIfInBounds i true).getD j false) = (D.filter fun j => (listed.setIfInBounds i true).getD j false) ++ i :: (E.filter fun j => (listed.setIfInBounds i true).getD j false) := by
            rw [hdn, List.filter_append, List.filter_cons, if_pos ((hS' i).2 (.inl rfl))]
          have hdA : dstAt ops i = o.dst := by simp [dstAt, ho]
          refine ⟨by cases o.dst <;> simp [Act.put]; exact hf.size; exact hf.size, by cases o.dst <;> exact hf.defers, fun t => ?_⟩
          by_cases hd : o.dst = some t
          · rw [hfil, FL_last val t _ i _ fr0 (by rw [hdA, hd]) (fun j hj e => by
              obtain ⟨hj1, hj2⟩ := List.mem_filter.1 hj
              rcases (hS' j).1 hj2 with rfl | hj2
              · exact hiE hj1
              · have := late j hj1 hj2
                rw [wrecks_look e (.inr (by rw [hdA, hd]))] at this; cases this), hV]
            have hlt := (dstOf_eq hdst).2 t hd
            have hsz' := hf.size
            rw [hd]
            have hlt2 : t < a'.tmps.size := Nat.lt_of_lt_of_le hlt hsz'
            simp [Act.put, Array.getElem?_setIfInBounds, hlt2]
          · have e1 : getS (FL ops val (done.filter fun j => (listed.setIfInBounds i true).getD j false) fr0) (gpos t) = getS (FL ops val (done.filter fun j => listed.getD j false) fr0) (gpos t) := by
              refine FL_two val t _ _ fr0 fr0 ?_ rfl
              rw [List.filter_filter, List.filter_filter]
              refine filter_same fun j hj => ?_
              cases hdj : (dstAt ops j == some t) with
              | false => simp
              | true =>
                have hji : j ≠ i := by intro e; subst e; rw [hdA] at hdj; exact hd (by simpa using hdj)
                have : (listed.setIfInBounds i true).getD j false = listed.getD j false := by
                  rw [Bool.eq_iff_iff, hS']; simp [hji]
                simp only [Bool.true_and]; exact this
            rw [e1, hf.rel t]
            cases hdo : o.dst with
            | none => rfl
            | some d =>
              have : d ≠ t := fun e => hd (by rw [hdo, e])
              simp [Act.put, Array.getElem?_setIfInBounds, this]
      rcases guard_ok (n := n) (κ := κ') hg rfl (tmps := a.tmps) (fun j want hgj oj d' h1 h2 => look d' (looks_guard hgj h1 h2)) hpg with ⟨hw, _⟩ | ⟨hw, hv⟩
      · rw [if_pos hw]
        left
        obtain ⟨V, hV, hr⟩ := hrun _ κ' w a κ'.le_refl s look hw
        unfold Oper.wp
        rw [hr]
        exact step V hV
      · rw [if_neg (by rw [hw]; simp)]
        exact step undef (by rw [hv]; rfl)
    · -- it is the next acting one
      have hiord : i ∈ done ++ ordOf rest := by rw [← hord]; exact F.all i hiN
      have hir : i ∈ ordOf rest := by
        rcases List.mem_append.1 hiord with h1 | h1
        · exact absurd h1 hid
        · exact h1
      rcases hrest with rfl | ⟨s', x, r, rfl, hact, hgs⟩
      · simp [ordOf] at hir
      have hx : l[s']? = some x := st.of (.ex s' x) (by simp)
      by_cases hsi : s' = i
      rotate_left
      · -- a variable that may be made at any time is made ahead of its turn
        have hir' : i ∈ ordOf r := by
          simp only [ordOf, List.mem_cons] at hir
          rcases hir with e' | h1
          · exact absurd e'.symm hsi
          · exact h1
        have hp : pairOK ops l (masks ops.toList []) (flOf ops l) s' i = true := pairs_mem done s' (ordOf r) (by have := F.pairs; rw [hord] at this; exact this) i hir'
        have hfl : flOf ops l = some i := by
          rcases pair_iff hp with hp | ⟨hp | hp, _⟩
          · exfalso
            have := F.mask hp hcl' ((hS' i).2 (.inl rfl))
            rcases (hS' s').1 this with e' | e'
            · exact hsi e'
            · rcases st.sdone s' e' with q | q
              · exact (List.nodup_append.1 hnd).2.2 s' q s' (by simp [ordOf]) rfl
              · exact hgs q.symm
          · rw [hact] at hp; cases hp
          · exact hp
        have hgn : gi = none := by
          cases hg : gi with
          | none => rfl
          | some A =>
            obtain ⟨g1, _, g3, _⟩ := hG A hg
            rw [hfl] at g1; cases g1
            rw [hSi] at g3; cases g3
        subst hgn
        obtain ⟨ob2, hflt⟩ := flt_of (P := P) hl (F.fl i hfl)
        obtain ⟨o', x', d, q1, q2, q3, q4, q5, q6, q7, q8⟩ := hflt
        rw [ho] at q1; cases q1
        have hwt : Region.wanted o (yielded ops a.tmps) = true := by simp [Region.wanted, q4]
        rw [if_pos hwt]
        left
        unfold Oper.wp
        rw [q7]
        have hfilS : (done.filter fun j => (listed.setIfInBounds i true).getD j false) = done.filter fun j => listed.getD j false := by
          refine filter_same fun j hj => ?_
          rw [Bool.eq_iff_iff, hS']
          constructor
          · rintro (e | e)
            · exact absurd (e ▸ hj) hid
            · exact e
          · exact .inr
        refine ih _ _ _ (by simpa using hsz) hcl' hVE ⟨some i, w.heap.size, ob2, done, _, val, h, κ', a', hle, ⟨st.ord, st.run, st.of, st.chk, st.sub, fun j hj => ?_, fun j hj hja => (hS' j).2 (.inr (st.acts j hj hja)), st.rep, fun j hj hjS => st.pend j hj (hS'f j hjS).1, st.tot⟩, ?_, ?_, ?_, fun A hA => ?_, .inr ⟨s', x, r, rfl, hact, fun e => hsi (Option.some.inj e).symm⟩⟩
        · rcases (hS' j).1 hj with rfl | hj
          · exact .inr rfl
          · rcases st.sdone j hj with q | q
            · exact .inl q
            · cases q
        · exact Sim.addGhost (w0 := w0) s ob2
        · rw [hfilS]; exact hf
        · rw [ha]
          show a'.put o.dst _ = a'.put (dstAt ops i) _
          simp [dstAt, ho]
        · cases hA
          exact ⟨hfl, ⟨o, x', d, ho, q2, q3, q4, q5, q6, q7, q8⟩, (hS' i).2 (.inl rfl), by simp [ordOf, hir'], Sim.gh_size (w0 := w0) s⟩
      subst hsi
      obtain ⟨o2, ho2, hcomp⟩ := oper_of hl hx
      rw [ho] at ho2; cases ho2
      obtain ⟨hdst, hop, hg⟩ := compOper_parts hcomp
      have hdx : x.dst = (dstAt ops s').map gpos := by rw [(dstOf_eq hdst).1]; simp [dstAt, ho]
      have hsel : ∀ cs b, o.op ≠ .select cs b := by
        simp only [compOper, Option.bind_eq_some_iff, Option.map_eq_some_iff] at hcomp
        obtain ⟨_, _, a, h2, _⟩ := hcomp
        exact no_select h2
      have early : ∀ j ∈ done, ∀ t, dstAt ops j = some t → t ∈ looksA ops s' → listed.getD j false = true := by
        intro j hj t hjt ht
        obtain ⟨D1, D2, hD⟩ := before_mem hj
        have hp : pairOK ops l (masks ops.toList []) (flOf ops l) j s' = true := pairs_mem D1 j (D2 ++ s' :: ordOf r) (by have := F.pairs; rw [hord, hD] at this; simpa [ordOf] using this) s' (by simp)
        rcases pair_iff hp with hp | ⟨_, _, hp⟩
        · have := F.mask hp hcl' ((hS' s').2 (.inl rfl))
          rcases (hS' j).1 this with e | e
          · exact absurd (e ▸ hj) hid
          · exact e
        · rw [wrecks_look hjt (.inl ht)] at hp; cases hp
      have look : ∀ t ∈ Oper.looksAt ops o, gam κ' (getS (FL ops val done fr0) (gpos t)) = some (a.tmps.getD t undef) := by
        intro t ht
        rw [hat t (fun A hA e => by
          have hAr := (hG A hA).2.2.2.1
          have hAr' : A ∈ ordOf r := by
            simp only [ordOf, List.mem_cons] at hAr
            rcases hAr with q | q
            · exact absurd (by rw [hA, q]) hgs
            · exact q
          have := (hno done (ordOf r) A (by rw [hord]; rfl) hA hAr').1
          rw [wrecks_look e (.inl (by rw [looksA_eq ho]; exact ht))] at this; cases this), ← hf.rel t]
        congr 1
        refine FL_two val t _ _ fr0 fr0 ?_ rfl
        rw [← looksA_eq ho] at ht
        rw [List.filter_filter]
        refine filter_same fun j hj => ?_
        cases hd : (dstAt ops j == some t) with
        | false => rfl
        | true => simp [early j hj t (by simpa using hd) ht]
      have hfilS : (done.filter fun j => (listed.setIfInBounds s' true).getD j false) = done.filter fun j => listed.getD j false := by
        refine filter_same fun j hj => ?_
        rw [Bool.eq_iff_iff, hS']
        constructor
        · rintro (e | e)
          · exact absurd (e ▸ hj) hid
          · exact e
        · exact .inr
      have step : ∀ κ2 av h' v w2, κ'.le κ2 → Sim B (plusW w0 gi b ob) κ2 h' w2 → gam κ2 av = some v → itemsD r cf (updD x.dst av (FL ops val done fr0)) h' K →
          wpOps P ops Q L (a.put o.dst v) w2 := by
        intro κ2 av h' v w2 hk2 s2 hv hrun
        have hG2 : ∀ A, gi = some A → flOf ops l = some A ∧ FltOK P ops l n A ob ∧ (listed.setIfInBounds s' true).getD A false = true ∧ A ∈ ordOf r ∧ w0.gh b = none := fun A hA => by
          obtain ⟨g1, g2, g3, g4, g5⟩ := hG A hA
          refine ⟨g1, g2, (hS' A).2 (.inr g3), ?_, g5⟩
          simp only [ordOf, List.mem_cons] at g4
          rcases g4 with q | q
          · exact absurd (by rw [hA, q]) hgs
          · exact q
        have st2 : St P B cf ops l fr0 K items gi (fun j => (listed.setIfInBounds s' true).getD j false) (done ++ [s']) r (setV val s' av) h' κ2 :=
          st.act hl F hact hcl' hS' hk2 hv hrun (fun i hi => .inl hi)
        have hput : a.put o.dst v = plusA ops (a'.put o.dst v) gi b := by
          rw [ha]
          cases hgi : gi with
          | none => rfl
          | some A => exact put_comm a' _ _ (fun t h1 h2 => by
              have := (hno done (ordOf r) A (by rw [hord]; rfl) hgi (hG2 A hgi).2.2.2.1).1
              rw [wrecks_look h1 (.inr (by simp [dstAt, ho, h2]))] at this; cases this)
        rw [hput]
        refine ih _ _ w2 (by simpa using hsz) hcl' hVE (settle hl F hcl' (Kap.le_trans hle hk2) st2 s2 ?_ hG2)
        have hfil2 : ((done ++ [s']).filter fun j => (listed.setIfInBounds s' true).getD j false) = (done.filter fun j => listed.getD j false) ++ [s'] := by
          rw [List.filter_append, hfilS]
          have e2 : ([s'].filter fun j => (listed.setIfInBounds s' true).getD j false) = [s'] := by
            simp only [List.filter_cons, (hS' s').2 (.inl rfl), if_true, List.filter_nil]
          rw [e2]
        have hFL2 : FL ops (setV val s' av) ((done ++ [s']).filter fun j => (listed.setIfInBounds s' true).getD j false) fr0 = updD x.dst av (FL ops val (done.filter fun j => listed.getD j false) fr0) := by
          rw [hfil2, FL_snoc, setV_self, ← hdx]
          congr 1
          refine FL_congr _ fr0 fun j hj => ?_
          have hjd := (List.mem_filter.1 hj).1
          exact setV_ne _ _ (fun e => hid (by rw [← e]; exact hjd))
        rw [hFL2]
        exact put_dst (hf.mono hk2) hdst hv
      have hD' : grdK x.guard (FL ops val done fr0) (runOp x.op cf (FL ops val done fr0) h fun v h => putD x.dst v (FL ops val done fr0) fun fr => itemsD r cf fr h K) (putD x.dst undefV (FL ops val done fr0) fun fr => itemsD r cf fr h K) := by rw [← stepD_eq]; exact st.run
      rcases guard_ok (n := n) (κ := κ') hg rfl (tmps := a.tmps) (fun j want hgj oj d' h1 h2 => look d' (looks_guard hgj h1 h2)) hD' with ⟨hw, hA⟩ | ⟨hw, hC⟩
      · rw [if_pos hw]
        left
        obtain ⟨ρ, r1, r2, r3, r4, r5⟩ := Total.rho (st.tot.FL done fr0 st.rep)
        unfold Oper.wp
        rw [exec_same hsel r2 r3 r4 r5 look]
        refine oper_upon (hcf _) hop hA s a r1 fun κ2 av h' v w2 b1 b2 b3 b4 => ?_
        rw [putD_iff] at b4
        exact step κ2 av h' v w2 b1 b2 b3 b4
      · rw [if_neg (by rw [hw]; simp)]
        rw [putD_iff] at hC
        exact step κ' undefV h undef w κ'.le_refl s rfl hC

theorem draw_list (hcf : ∀ w0, CallOK P B w0 cf) (hc : compOps P n ops ops.toList = some l) (hok : drawOK0 ops l items = true) (hof : ∀ x ∈ items, ItemOf l x)
    {Q : Exit → Act → World → Prop} {fr : Fr} {h : Hp} {κ : Kap} {a : Act} {w : World} (hD : itemsD items cf fr h K) (s : Sim B w0 κ h w) (hf : FrOK κ n fr a)
    (hq : ∀ κ' fr' h' a' w', κ.le κ' → Sim B w0 κ' h' w' → FrOK κ' n fr' a' → K fr' h' → Q .normal a' w') {L : List Nat} (hV : VEnd ops (Array.replicate ops.size false) L) :
    wpOps P ops Q L a w := by
  have F := facts_of hok
  have hS0 : ∀ i, (Array.replicate ops.size false).getD i false = false := by
    intro i
    rw [Array.getD_eq_getD_getElem?, Array.getElem?_replicate]
    split <;> rfl
  have st0 : St P B cf ops l fr K items none (fun i => (Array.replicate ops.size false).getD i false) [] items (fun _ => undefV) h κ :=
    ⟨rfl, hD, hof, F.chks, (fun _ h => h), (fun i hi => by simp only [hS0] at hi; cases hi), (fun i hi => by simp at hi), (fun i hi => by simp at hi), (fun i hi => by simp at hi), (fun t => ⟨_, hf.rel t⟩)⟩
  have hcl0 : Closed ops (fun i => (Array.replicate ops.size false).getD i false = true) := fun i o e hi => by simp only [hS0] at hi; cases hi
  exact draw_main hcf hc F hq L _ a w (by simp) hcl0 hV
    (settle (gi := none) (b := 0) (ob := .cells #[] 0) hc F hcl0 κ.le_refl st0 s hf (fun A hA => by cases hA))

end Go.Am

namespace Go.Am
set_option linter.unusedSimpArgs false
set_option linter.unusedVariables false
open Go Go.RowKit
variable {P : Program} {B : Nat} {w0 : W0} {cf : CallK} {ops : Array Oper} {l : List AOper} {fr0 : Fr} {K : Fr → Hp → Prop} {items : List Item} {n : Nat}

theorem seqL_get (σ : List Nat) : ∀ (L : List Oper) (k i : Nat), (seqL σ k L)[i]? = (L[i]?).map (moreE σ (k + i))
  | [], k, i => by simp [seqL]
  | o :: L, k, i => by
    cases i with
    | zero => rfl
    | succ i =>
      simp only [seqL, List.getElem?_cons_succ]
      rw [seqL_get σ L (k + 1) i, show k + 1 + i = k + (i + 1) by omega]
theorem seqL_length (σ : List Nat) : ∀ (L : List Oper) (k : Nat), (seqL σ k L).length = L.length
  | [], k => rfl
  | o :: L, k => by simp [seqL, seqL_length σ L (k + 1)]
theorem seqE_get (σ : List Nat) (ops : Array Oper) (i : Nat) : (seqE σ ops)[i]? = (ops[i]?).map (moreE σ i) := by
  have h := seqL_get σ ops.toList 0 i
  simp only [Nat.zero_add] at h
  simp only [seqE, List.getElem?_toArray, h, Array.getElem?_toList]
theorem seqE_size (σ : List Nat) (ops : Array Oper) : (seqE σ ops).size = ops.size := by simp [seqE, seqL_length]

theorem guardOf_seq (σ : List Nat) (g : Option (Nat × Bool)) : guardOf (seqE σ ops) g = guardOf ops g := by
  cases g with
  | none => rfl
  | some p =>
    obtain ⟨j, w⟩ := p
    simp only [guardOf, seqE_get]
    cases ops[j]? <;> rfl
theorem compOper_seq (σ : List Nat) (i : Nat) (o : Oper) : compOper P n (seqE σ ops) (moreE σ i o) = compOper P n ops o := by
  have h1 : compOp P (moreE σ i o) = compOp P o := rfl
  have h2 : (moreE σ i o).dst = o.dst := rfl
  have h3 : (moreE σ i o).guard = o.guard := rfl
  simp only [compOper, h1, h2, h3, guardOf_seq]
theorem compOps_seq (σ : List Nat) : ∀ (L : List Oper) (k : Nat), compOps P n (seqE σ ops) (seqL σ k L) = compOps P n ops L
  | [], k => rfl
  | o :: L, k => by
    simp only [seqL, compOps]
    rw [compOps_seq σ L (k + 1)]
    rw [compOper_seq]
theorem wpOps_seq (σ : List Nat) {Q : Exit → Act → World → Prop} : ∀ (L : List Nat) (a : Act) (w : World), wpOps P (seqE σ ops) Q L a w ↔ wpOps P ops Q L a w
  | [], a, w => Iff.rfl
  | i :: L, a, w => by
    have ih : wpOps P (seqE σ ops) Q L = wpOps P ops Q L := funext fun a => funext fun w => propext (wpOps_seq σ L a w)
    have hy : ∀ t, yielded (seqE σ ops) t = yielded ops t := by
      intro t
      funext j
      simp only [yielded, seqE_get]
      cases ops[j]? <;> rfl
    simp only [wpOps, seqE_get, ih, hy]
    cases ops[i]? with
    | none => exact Iff.rfl
    | some o => exact Iff.rfl

theorem headOf_eq (i : Nat) : ∀ (A B : List Nat), i ∉ A → headOf i (A ++ i :: B) = A
  | [], B, _ => by simp [headOf]
  | x :: A, B, h => by
    have hx : x ≠ i := fun e => h (by simp [e])
    have hb : Nat.beq x i = false := by
      cases hq : Nat.beq x i with
      | false => rfl
      | true => exact absurd (Nat.eq_of_beq_eq_true hq) hx
    simp only [List.cons_append, headOf, hb]
    rw [headOf_eq i A B (fun hm => h (by simp [hm]))]

theorem set_iff {listed : Array Bool} (hsz : listed.size = ops.size) {i : Nat} (hi : i < ops.size) : ∀ j, (listed.setIfInBounds i true).getD j false = true ↔ j = i ∨ listed.getD j false = true := by
  intro j
  rw [Array.getD_eq_getD_getElem?, Array.getElem?_setIfInBounds]
  by_cases hj : i = j
  · subst hj; simp [show i < listed.size by omega]
  · rw [if_neg hj, ← Array.getD_eq_getD_getElem?]
    constructor
    · exact .inr
    · rintro (h | h)
      · exact absurd h.symm hj
      · exact h
theorem ready_parts {listed : Array Bool} (hsz : listed.size = ops.size) {i : Nat} (hi : i ∈ Region.ready .any ops listed) : i < ops.size ∧ listed.getD i false = false ∧ ∀ o, ops[i]? = some o → ∀ e ∈ o.after.toList, Region.binds .any e = true → listed.getD e.on false = true := by
  unfold Region.ready at hi
  rw [List.mem_filter] at hi
  obtain ⟨hi1, hi2⟩ := hi
  have hiN := List.mem_range.1 hi1
  simp only [Bool.and_eq_true, Bool.not_eq_true'] at hi2
  obtain ⟨hi2, hi3⟩ := hi2
  refine ⟨hiN, ?_, fun o ho e he hb => ?_⟩
  · have hlt : i < listed.size := by omega
    simp [hlt] at hi2 ⊢; exact hi2
  · rw [ho] at hi3
    simp only [Option.map_some, Option.getD_some, Array.all_eq_true_iff_forall_mem] at hi3
    have := hi3 e (by simpa using he)
    simpa [hb] using this

/-- The order of the acting ones is among those that the machine goes through. -/
theorem alt_mem (acts : List Nat) (p : Nat → Bool) (hp : ∀ i, i < ops.size → (p i = true ↔ i ∈ acts)) : ∀ (L : List Nat) (listed : Array Bool) (f : Nat) (done U : List Nat), listed.size = ops.size → Closed ops (fun i => listed.getD i false = true) → VEnd ops listed L →
    (∀ i ∈ acts, i < ops.size) → (∀ i ∈ acts, listed.getD i false = true ↔ i ∈ done) → (∀ i ∈ acts, i ∉ done → i ∈ U) → U.length ≤ f → L.filter p ∈ extsF acts (masks ops.toList []) f done
  | [], listed, f, done, U, hsz, hcl, hV, hlt, hd, hU, hl => by
    cases f with
    | zero => simp [extsF]
    | succ f =>
      have : (acts.filter fun i => !(done.contains i) && acts.all fun j => !(((masks ops.toList []).getD i 0).testBit j) || (done.contains j || Nat.beq j i)) = [] := by
        rw [List.filter_eq_nil_iff]
        intro i hi
        have : i ∈ done := (hd i hi).1 (hV i (hlt i hi))
        simp [this]
      simp only [extsF]
      rw [this]
      simp
  | i :: L, listed, f, done, U, hsz, hcl, ⟨hi, hV⟩, hlt, hd, hU, hl => by
    obtain ⟨hiN, hiF, hiE⟩ := ready_parts hsz hi
    have hS' := set_iff hsz hiN
    have hcl' : Closed ops (fun j => (listed.setIfInBounds i true).getD j false = true) := by
      intro j oj e hj hoj he hb
      rcases (hS' j).1 hj with rfl | hj
      · exact (hS' _).2 (.inr (hiE oj hoj e he hb))
      · exact (hS' _).2 (.inr (hcl j oj e hj hoj he hb))
    cases hpi : p i with
    | false =>
      have hia : i ∉ acts := fun h => by rw [(hp i hiN).2 h] at hpi; cases hpi
      rw [List.filter_cons, hpi]
      simp only [Bool.false_eq_true, if_false]
      refine alt_mem acts p hp L _ f done U (by simpa using hsz) hcl' hV hlt (fun j hj => ?_) hU hl
      rw [hS', ← hd j hj]
      constructor
      · rintro (e | e)
        · exact absurd (e ▸ hj) hia
        · exact e
      · exact .inr
    | true =>
      have hia : i ∈ acts := (hp i hiN).1 hpi
      have hid : i ∉ done := fun h => by rw [(hd i hia).2 h] at hiF; cases hiF
      have hiU := hU i hia hid
      cases f with
      | zero =>
        have : U = [] := List.eq_nil_of_length_eq_zero (by omega)
        rw [this] at hiU; simp at hiU
      | succ f =>
        rw [List.filter_cons, hpi]
        simp only [if_true]
        have hmem : i ∈ acts.filter fun i => !(done.contains i) && acts.all fun j => !(((masks ops.toList []).getD i 0).testBit j) || (done.contains j || Nat.beq j i) := by
          rw [List.mem_filter]
          refine ⟨hia, ?_⟩
          simp only [Bool.and_eq_true, Bool.not_eq_true', List.all_eq_true, Bool.or_eq_true]
          refine ⟨by simpa using hid, fun j hj => ?_⟩
          cases hb : ((masks ops.toList []).getD i 0).testBit j with
          | false => exact .inl rfl
          | true =>
            right
            have := masks_ok ops ops.toList [] (by simp) (fun j i hb => by simp at hb) i j hb _ hcl' ((hS' i).2 (.inl rfl))
            rcases (hS' j).1 this with e | e
            · right; subst e; exact Nat.beq_refl _
            · left; simpa using (hd j hj).1 e
        have hrec : L.filter p ∈ extsF acts (masks ops.toList []) f (done ++ [i]) := by
          refine alt_mem acts p hp L _ f (done ++ [i]) (U.erase i) (by simpa using hsz) hcl' hV hlt (fun j hj => ?_) (fun j hj hjd => ?_) (by rw [List.length_erase_of_mem hiU]; omega)
          · rw [hS', hd j hj]
            simp only [List.mem_append, List.mem_singleton]
            exact or_comm
          · simp only [List.mem_append, List.mem_singleton, not_or] at hjd
            exact (List.mem_erase_of_ne hjd.2).2 (hU j hj hjd.1)
        simp only [extsF]
        split
        · rename_i e; rw [e] at hmem; simp at hmem
        · rename_i x r e
          rw [e] at hmem
          rw [List.mem_flatMap]
          exact ⟨i, hmem, List.mem_map.2 ⟨_, hrec, rfl⟩⟩

theorem vend_seq (p : Nat → Bool) (σ : List Nat) : ∀ (L : List Nat) (listed : Array Bool) (A : List Nat), listed.size = ops.size → VEnd ops listed L → σ = A ++ L.filter p → (∀ i ∈ σ, p i = true) → (∀ i ∈ A, listed.getD i false = true) → VEnd (seqE σ ops) listed L
  | [], listed, A, hsz, hV, hσ, hp, hA => by
    intro i hi
    rw [seqE_size] at hi
    exact hV i hi
  | i :: L, listed, A, hsz, ⟨hi, hV⟩, hσ, hp, hA => by
    obtain ⟨hiN, hiF, hiE⟩ := ready_parts hsz hi
    have hS' := set_iff hsz hiN
    refine ⟨?_, ?_⟩
    · unfold Region.ready at hi ⊢
      rw [List.mem_filter] at hi ⊢
      refine ⟨by rw [seqE_size]; exact hi.1, ?_⟩
      have hi2 := hi.2
      simp only [Bool.and_eq_true] at hi2 ⊢
      refine ⟨hi2.1, ?_⟩
      rw [seqE_get]
      have ho : ops[i]? = some ops[i] := by simp [hiN]
      rw [ho]
      simp only [Option.map_some, Option.getD_some, Array.all_eq_true_iff_forall_mem]
      intro e he
      simp only [moreE, List.mem_toArray, List.mem_append] at he
      cases hb : Region.binds .any e with
      | false => rfl
      | true =>
        simp only [Bool.not_true, Bool.false_or]
        rcases he with he | he
        · exact hiE _ ho e he hb
        · split at he
          · rename_i hc
            have hiσ : i ∈ σ := by simpa using hc
            have hpi := hp i hiσ
            rw [List.filter_cons, hpi] at hσ
            simp only [if_true] at hσ
            have hiA : i ∉ A := fun h => by rw [hA i h] at hiF; cases hiF
            rw [hσ, headOf_eq i A _ hiA] at he
            obtain ⟨q, hq, rfl⟩ := List.mem_map.1 he
            exact hA q hq
          · simp at he
    · cases hpi : p i with
      | false =>
        rw [List.filter_cons, hpi] at hσ
        simp only [Bool.false_eq_true, if_false] at hσ
        exact vend_seq p σ L _ A (by simpa using hsz) hV hσ hp (fun j hj => (hS' j).2 (.inr (hA j hj)))
      | true =>
        rw [List.filter_cons, hpi] at hσ
        simp only [if_true] at hσ
        refine vend_seq p σ L _ (A ++ [i]) (by simpa using hsz) hV (by rw [hσ]; simp) hp (fun j hj => ?_)
        rcases List.mem_append.1 hj with hj | hj
        · exact (hS' j).2 (.inr (hA j hj))
        · simp at hj; exact (hS' j).2 (.inl hj)

theorem allD_mem {fr : Fr} {h : Hp} : ∀ (ds : List RegD), allD ds cf fr h K → ∀ d ∈ ds, d cf fr h K
  | [], _, d, hd => by simp at hd
  | [x], hD, d, hd => by
    simp only [List.mem_singleton] at hd
    subst hd; exact hD
  | x :: y :: ds, hD, d, hd => by
    have hD' : x cf fr h K ∧ allD (y :: ds) cf fr h K := hD
    rcases List.mem_cons.1 hd with rfl | hd
    · exact hD'.1
    · exact allD_mem (y :: ds) hD'.2 d hd

theorem alts_wp (hcf : ∀ w0, CallOK P B w0 cf) (hc : compOps P n ops ops.toList = some l) (hok : altsOK ops l = true)
    {Q : Exit → Act → World → Prop} {fr : Fr} {h : Hp} {κ : Kap} {a : Act} {w : World} (hD : altsD ops l cf fr h K) (s : Sim B w0 κ h w) (hf : FrOK κ n fr a)
    (hq : ∀ κ' fr' h' a' w', κ.le κ' → Sim B w0 κ' h' w' → FrOK κ' n fr' a' → K fr' h' → Q .normal a' w') {L : List Nat} (hV : VEnd ops (Array.replicate ops.size false) L) :
    wpOps P ops Q L a w := by
  simp only [altsOK, Bool.and_eq_true, List.all_eq_true] at hok
  obtain ⟨_, hed, hall⟩ := hok
  have hlen : l.length = ops.size := by
    have : ∀ (L : List Oper) (l : List AOper), compOps P n ops L = some l → l.length = L.length := by
      intro L
      induction L with
      | nil => intro l h; simp [compOps] at h; subst h; rfl
      | cons o L ih =>
        intro l h
        simp only [compOps, Option.bind_eq_some_iff, Option.map_eq_some_iff] at h
        obtain ⟨x, _, r, hr, rfl⟩ := h
        simp [ih r hr]
    simpa using this _ _ hc
  have hS0 : ∀ i, (Array.replicate ops.size false).getD i false = false := by
    intro i
    rw [Array.getD_eq_getD_getElem?, Array.getElem?_replicate]
    split <;> rfl
  have hpa : ∀ i, i < ops.size → (actAt l i = true ↔ i ∈ actsOf l) := by
    intro i hi
    simp only [actsOf, List.mem_filter, List.mem_range]
    exact ⟨fun h => ⟨by omega, h⟩, fun h => h.2⟩
  have hmem : L.filter (actAt l) ∈ altOrds ops l :=
    alt_mem (actsOf l) (actAt l) hpa L _ (actsOf l).length [] (actsOf l) (by simp) (fun i o e hi => by simp only [hS0] at hi; cases hi) hV
      (fun i hi => by have := (List.mem_filter.1 hi).1; have := List.mem_range.1 this; omega) (fun i _ => by simp [hS0]) (fun i hi _ => hi) (Nat.le_refl _)
  have hit := allD_mem _ hD _ (List.mem_map.2 ⟨_, hmem, rfl⟩)
  have hV2 := vend_seq (actAt l) (L.filter (actAt l)) L _ [] (by simp) hV (by simp) (fun i hi => (List.mem_filter.1 hi).2) (fun i hi => by simp at hi)
  rw [← wpOps_seq (L.filter (actAt l))]
  have hc2 : compOps P n (seqE (L.filter (actAt l)) ops) (seqE (L.filter (actAt l)) ops).toList = some l := by
    have := compOps_seq (P := P) (n := n) (ops := ops) (L.filter (actAt l)) ops.toList 0
    rw [hc] at this
    simpa [seqE] using this
  exact draw_list hcf hc2 (hall _ hmem) drawItemsS_of hit s hf hq (by rw [seqE_size]; exact hV2)
end Go.Am

