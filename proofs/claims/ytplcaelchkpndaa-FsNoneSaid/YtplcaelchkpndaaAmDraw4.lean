/-
  A region that draws its order: the end of the walk.
-/
import Derived.Test.YtplcaelchkpndaaAmDraw3
namespace Go.Am
set_option linter.unusedSimpArgs false
set_option linter.unusedVariables false
open Go Go.RowKit
variable {P : Program} {B : Nat} {w0 : World} {cf : CallK} {ops : Array Oper} {l : List AOper} {fr0 : Fr} {K : Fr → Hp → Prop} {items : List Item} {n : Nat}

theorem pair_iff {ms : List Nat} {x y : Nat} (h : pairOK ops l ms x y = true) : (ms.getD y 0).testBit x = true ∨ (actAt l x = false ∧ wrecks ops x y = false ∧ wrecks ops y x = false) := by
  simp only [pairOK, Bool.or_eq_true, Bool.not_eq_true', Bool.or_eq_false_iff] at h
  rcases h with h | ⟨⟨h1, h2⟩, h3⟩
  · exact .inl h
  · exact .inr ⟨h1, h2, h3⟩
theorem wrecks_look {x y : Nat} {d : Tmp} (hd : dstAt ops y = some d) (h : d ∈ looksA ops x ∨ dstAt ops x = some d) : wrecks ops x y = true := by
  simp only [wrecks, hd, Bool.or_eq_true, List.contains_iff_mem, beq_iff_eq]
  exact h
theorem looksA_eq {i : Nat} {o : Oper} (h : ops[i]? = some o) : looksA ops i = Oper.looksAt ops o := by simp [looksA, h]
theorem before_mem {A : List Nat} {j : Nat} (h : j ∈ A) : ∃ A1 A2, A = A1 ++ j :: A2 := List.append_of_mem h

/-- All that the checks say. -/
structure Facts (ops : Array Oper) (l : List AOper) (items : List Item) : Prop where
  all : ∀ i, i < ops.size → i ∈ ordOf items
  lt : ∀ i ∈ ordOf items, i < ops.size
  nd : (ordOf items).Nodup
  pairs : pairsOK ops l (masks ops.toList []) (ordOf items) = true
  chks : chksOK ops l (masks ops.toList []) [] items = true
  keeps : keepsOK ops (chkd items) (ordOf items) = true
  edges : edgesOK 0 ops.toList = true
theorem facts_of (h : drawOK ops l items = true) : Facts ops l items := by
  simp only [drawOK, Bool.and_eq_true, List.all_eq_true, List.mem_range, List.contains_iff_mem] at h
  obtain ⟨⟨⟨⟨⟨⟨h1, h2⟩, h3⟩, h4⟩, h5⟩, h6⟩, h7⟩ := h
  exact ⟨h1, fun i hi => by simpa using h2 i hi, noDup_iff _ h3, h4, h5, h6, h7⟩
theorem Facts.mask (_ : Facts ops l items) {j i : Nat} (h : ((masks ops.toList []).getD j 0).testBit i = true) {S : Nat → Prop} (hS : Closed ops S) (hj : S j) : S i :=
  masks_ok ops ops.toList [] (by simp) (fun j i hb => by simp at hb) j i h S hS hj

theorem filter_same {A : List Nat} {p q : Nat → Bool} (h : ∀ j ∈ A, p j = q j) : A.filter p = A.filter q := List.filter_congr h

theorem draw_main (hcf : CallOK P B w0 cf) (hl : compOps P n ops ops.toList = some l) (F : Facts ops l items) {Q : Exit → Act → World → Prop} {κ : Kap}
    (hq : ∀ κ' fr' h' a' w', κ.le κ' → Sim B w0 κ' h' w' → FrOK κ' n fr' a' → K fr' h' → Q .normal a' w') :
    ∀ (fuel : Nat) (listed : Array Bool) (a : Act) (w : World), listed.size = ops.size → Closed ops (fun i => listed.getD i false = true) → (∃ U : List Nat, (∀ i, i < ops.size → listed.getD i false = false → i ∈ U) ∧ U.length ≤ fuel) →
    (∃ done rest val h κ', κ.le κ' ∧ St P B w0 cf ops l fr0 K items (fun i => listed.getD i false) done rest val h κ' ∧ Sim B w0 κ' h w ∧ FrOK κ' n (FL ops val (done.filter fun i => listed.getD i false) fr0) a ∧ (rest = [] ∨ ∃ s x r, rest = .ex s x :: r ∧ actAt l s = true)) →
    wpAny P .any ops Q fuel listed a w := by
  -- when all is done
  have fin : ∀ (listed : Array Bool) (a : Act) (w : World), (∀ i, i < ops.size → listed.getD i false = true) →
      (∃ done rest val h κ', κ.le κ' ∧ St P B w0 cf ops l fr0 K items (fun i => listed.getD i false) done rest val h κ' ∧ Sim B w0 κ' h w ∧ FrOK κ' n (FL ops val (done.filter fun i => listed.getD i false) fr0) a ∧ (rest = [] ∨ ∃ s x r, rest = .ex s x :: r ∧ actAt l s = true)) → Q .normal a w := by
    rintro listed a w hall ⟨done, rest, val, h, κ', hle, st, s, hf, hrest⟩
    have hord := st.ord
    have hr : rest = [] := by
      rcases hrest with hr | ⟨s', x, r, rfl, _⟩
      · exact hr
      · exfalso
        have hs : s' ∈ ordOf items := by rw [hord]; simp [ordOf]
        have hd := st.sdone s' (hall s' (F.lt s' hs))
        have hnd := F.nd
        rw [hord] at hnd
        exact (List.nodup_append.1 hnd).2.2 s' hd s' (by simp [ordOf]) rfl
    subst hr
    have hfil : (done.filter fun i => listed.getD i false) = done := by
      rw [List.filter_eq_self]
      intro i hi
      exact hall i (F.lt i (by rw [hord]; simp [hi]))
    rw [hfil] at hf
    exact hq κ' _ h a w hle s hf st.run
  have allOf : ∀ (listed : Array Bool), listed.size = ops.size → Region.ready .any ops listed = [] → ∀ i, i < ops.size → listed.getD i false = true := by
    intro listed hsz hr i
    induction i using Nat.strongRecOn with
    | _ i ih =>
      intro hi
      cases hS : listed.getD i false with
      | true => rfl
      | false =>
        exfalso
        have hmem : i ∈ Region.ready .any ops listed := by
          unfold Region.ready
          rw [List.mem_filter]
          refine ⟨List.mem_range.2 hi, ?_⟩
          have hb : listed.getD i true = false := by
            have : i < listed.size := by omega
            simp [this] at hS ⊢; exact hS
          have ho : ops[i]? = some ops[i] := by simp [hi]
          simp only [hb, Bool.not_false, Bool.true_and, ho, Option.map_some, Option.getD_some, Array.all_eq_true_iff_forall_mem]
          intro e he
          cases hbd : Region.binds .any e with
          | false => rfl
          | true =>
            have hon := edges_ok _ _ F.edges i ops[i] e (by simp [hi]) (by simpa using he) hbd
            simp only [Nat.zero_add] at hon
            simpa using ih e.on hon (by omega)
        rw [hr] at hmem
        simp at hmem
  intro fuel
  induction fuel with
  | zero =>
    rintro listed a w hsz hcl ⟨U, hU, hUl⟩ hst
    have hall : ∀ i, i < ops.size → listed.getD i false = true := fun i hi => by
      cases hS : listed.getD i false with
      | true => rfl
      | false =>
        have := hU i hi hS
        have : U = [] := List.eq_nil_of_length_eq_zero (by omega)
        simp_all
    refine ⟨?_, fin listed a w hall hst⟩
    unfold Region.ready
    rw [List.filter_eq_nil_iff]
    intro i hi
    have hi' := List.mem_range.1 hi
    have := hall i hi'
    have hb : listed.getD i true = true := by
      have hlt : i < listed.size := by omega
      simp [hlt] at this ⊢; exact this
    rw [hb]
    simp
  | succ fuel ih =>
    rintro listed a w hsz hcl ⟨U, hU, hUl⟩ hst
    refine ⟨fun hr => fin listed a w (allOf listed hsz hr) hst, fun i hi => ?_⟩
    unfold Region.ready at hi
    rw [List.mem_filter] at hi
    obtain ⟨hi1, hi2⟩ := hi
    have hiN := List.mem_range.1 hi1
    simp only [Bool.and_eq_true, Bool.not_eq_true'] at hi2
    obtain ⟨hi2, hi3⟩ := hi2
    have hSi : listed.getD i false = false := by
      have hlt : i < listed.size := by omega
      simp [hlt] at hi2 ⊢; exact hi2
    obtain ⟨o, ho⟩ : ∃ o, ops[i]? = some o := ⟨ops[i], by simp [hiN]⟩
    rw [ho] at hi3
    simp only [Option.map_some, Option.getD_some, Array.all_eq_true_iff_forall_mem] at hi3
    have hS' : ∀ j, (listed.setIfInBounds i true).getD j false = true ↔ j = i ∨ listed.getD j false = true := by
      intro j
      rw [Array.getD_eq_getD_getElem?, Array.getElem?_setIfInBounds]
      by_cases hj : i = j
      · subst hj; simp [show i < listed.size by omega]
      · rw [if_neg hj, ← Array.getD_eq_getD_getElem?]
        constructor
        · exact .inr
        · rintro (h | h)
          · exact absurd h.symm hj
          · exact h
    have hS'f : ∀ j, (listed.setIfInBounds i true).getD j false = false → listed.getD j false = false ∧ j ≠ i := by
      intro j hj
      constructor
      · cases hb : listed.getD j false with
        | false => rfl
        | true => rw [(hS' j).2 (.inr hb)] at hj; cases hj
      · intro e; rw [(hS' j).2 (.inl e)] at hj; cases hj
    have hcl' : Closed ops (fun j => (listed.setIfInBounds i true).getD j false = true) := by
      intro j oj e hj hoj he hb
      rcases (hS' j).1 hj with rfl | hj
      · rw [ho] at hoj; cases hoj
        have := hi3 e (by simpa using he)
        simp [hb] at this
        exact (hS' _).2 (.inr (by simpa using this))
      · exact (hS' _).2 (.inr (hcl j oj e hj hoj he hb))
    have hU' : ∃ U' : List Nat, (∀ j, j < ops.size → (listed.setIfInBounds i true).getD j false = false → j ∈ U') ∧ U'.length ≤ fuel := by
      refine ⟨U.erase i, fun j hj hjS => ?_, ?_⟩
      · obtain ⟨h1, h2⟩ := hS'f j hjS
        exact (List.mem_erase_of_ne h2).2 (hU j hj h1)
      · rw [List.length_erase_of_mem (hU i hiN hSi)]; omega
    obtain ⟨done, rest, val, h, κ', hle, st, s, hf, hrest⟩ := hst
    have hord := st.ord
    have hnd := F.nd
    rw [hord] at hnd
    unfold wpOp
    rw [ho]
    simp only
    by_cases hid : i ∈ done
    · -- it has been reckoned with already
      obtain ⟨D, E, o', x, hdn, ho', hx, hrun, hpg, _⟩ := st.pend i hid hSi
      rw [ho] at ho'; cases ho'
      obtain ⟨o2, ho2, hcomp⟩ := oper_of hl hx
      rw [ho] at ho2; cases ho2
      obtain ⟨hdst, hop, hg⟩ := compOper_parts hcomp
      have hnd2 : (D ++ i :: (E ++ ordOf rest)).Nodup := by
        have : done ++ ordOf rest = D ++ i :: (E ++ ordOf rest) := by rw [hdn]; simp
        rwa [this] at hnd
      have hordD : ordOf items = D ++ i :: (E ++ ordOf rest) := by rw [hord, hdn]; simp
      have hiD : i ∉ D := fun hD => (List.nodup_append.1 hnd2).2.2 i hD i (by simp) rfl
      have hiE : i ∉ E := fun hE => by
        have := (List.nodup_cons.1 (List.nodup_append.1 hnd2).2.1).1
        exact this (by simp [hE])
      have early : ∀ j ∈ D, ∀ t, dstAt ops j = some t → t ∈ looksA ops i → listed.getD j false = true := by
        intro j hj t hjt ht
        obtain ⟨D1, D2, rfl⟩ := before_mem hj
        have hp : pairOK ops l (masks ops.toList []) j i = true := pairs_mem D1 j (D2 ++ i :: (E ++ ordOf rest)) (by have := F.pairs; rw [hordD] at this; simpa using this) i (by simp)
        rcases pair_iff hp with hp | ⟨_, _, hp⟩
        · have := F.mask hp hcl' ((hS' i).2 (.inl rfl))
          rcases (hS' j).1 this with e | e
          · exact absurd (e ▸ hj) hiD
          · exact e
        · rw [wrecks_look hjt (.inl ht)] at hp; cases hp
      have late : ∀ j ∈ E, listed.getD j false = true → wrecks ops i j = false := by
        intro j hj hjS
        have hp : pairOK ops l (masks ops.toList []) i j = true := pairs_mem D i (E ++ ordOf rest) (by have := F.pairs; rw [hordD] at this; exact this) j (by simp [hj])
        rcases pair_iff hp with hp | ⟨_, hp, _⟩
        · have := F.mask hp hcl hjS
          rw [hSi] at this; cases this
        · exact hp
      have look : ∀ t ∈ Oper.looksAt ops o, gam κ' (getS (FL ops val D fr0) (npos t)) = some (a.tmps.getD t undef) := by
        intro t ht
        rw [← hf.rel t]
        congr 1
        refine FL_two val t _ _ fr0 fr0 ?_ rfl
        rw [← looksA_eq ho] at ht
        rw [hdn]
        simp only [List.filter_append, List.filter_cons, hSi, Bool.false_eq_true, if_false]
        have e1 : (D.filter fun i => listed.getD i false).filter (fun i => dstAt ops i == some t) = D.filter (fun i => dstAt ops i == some t) := by
          rw [List.filter_filter]
          refine filter_same fun j hj => ?_
          cases hd : (dstAt ops j == some t) with
          | false => rfl
          | true => simp [early j hj t (by simpa using hd) ht]
        have e2 : (E.filter fun i => listed.getD i false).filter (fun i => dstAt ops i == some t) = [] := by
          rw [List.filter_eq_nil_iff]
          intro j hj
          obtain ⟨hj1, hj2⟩ := List.mem_filter.1 hj
          have := late j hj1 hj2
          intro hd
          rw [wrecks_look (by simpa using hd) (.inl ht)] at this; cases this
        rw [e1, e2]; simp
      have step : ∀ V, gam κ' (val i) = some V → wpAny P .any ops Q fuel (listed.setIfInBounds i true) (a.put o.dst V) w := by
        intro V hV
        refine ih _ _ w (by simpa using hsz) hcl' hU' ⟨done, rest, val, h, κ', hle, ⟨st.ord, st.run, st.of, st.chk, st.sub, fun j hj => ?_, fun j hj hja => (hS' j).2 (.inr (st.acts j hj hja)), st.rep, fun j hj hjS => st.pend j hj (hS'f j hjS).1, st.tot⟩, s, ?_, hrest⟩
        · rcases (hS' j).1 hj with rfl | hj
          · exact hid
          · exact st.sdone j hj
        · have hfil : (done.filter fun j => (listed.setIfInBounds i true).getD j false) = (D.filter fun j => (listed.setIfInBounds i true).getD j false) ++ i :: (E.filter fun j => (listed.setIfInBounds i true).getD j false) := by
            rw [hdn, List.filter_append, List.filter_cons, if_pos ((hS' i).2 (.inl rfl))]
          have hdA : dstAt ops i = o.dst := by simp [dstAt, ho]
          refine ⟨by cases o.dst <;> simp [Act.put]; exact hf.size; exact hf.size, by cases o.dst <;> exact hf.defers, fun t => ?_⟩
          by_cases hd : o.dst = some t
          · rw [hfil, FL_last val t _ i _ fr0 (by rw [hdA, hd]) (fun j hj e => by
              obtain ⟨hj1, hj2⟩ := List.mem_filter.1 hj
              rcases (hS' j).1 hj2 with rfl | hj2
              · exact hiE hj1
              · have := late j hj1 hj2
                rw [wrecks_look e (.inr (by rw [hdA, hd]))] at this; cases this), hV]
            have hlt := (dstOf_eq hdst).2 t hd
            have hsz' := hf.size
            rw [hd]
            have hlt2 : t < a.tmps.size := Nat.lt_of_lt_of_le hlt hsz'
            simp [Act.put, Array.getElem?_setIfInBounds, hlt2]
          · have e1 : getS (FL ops val (done.filter fun j => (listed.setIfInBounds i true).getD j false) fr0) (npos t) = getS (FL ops val (done.filter fun j => listed.getD j false) fr0) (npos t) := by
              refine FL_two val t _ _ fr0 fr0 ?_ rfl
              rw [List.filter_filter, List.filter_filter]
              refine filter_same fun j hj => ?_
              cases hdj : (dstAt ops j == some t) with
              | false => simp
              | true =>
                have hji : j ≠ i := by intro e; subst e; rw [hdA] at hdj; exact hd (by simpa using hdj)
                have : (listed.setIfInBounds i true).getD j false = listed.getD j false := by
                  rw [Bool.eq_iff_iff, hS']; simp [hji]
                simp only [Bool.true_and]; exact this
            rw [e1, hf.rel t]
            cases hdo : o.dst with
            | none => rfl
            | some d =>
              have : d ≠ t := fun e => hd (by rw [hdo, e])
              simp [Act.put, Array.getElem?_setIfInBounds, this]
      rcases guard_ok (n := n) (κ := κ') hg rfl (tmps := a.tmps) (fun j want hgj oj d' h1 h2 => look d' (looks_guard hgj h1 h2)) hpg with ⟨hw, _⟩ | ⟨hw, hv⟩
      · rw [if_pos hw]
        left
        obtain ⟨V, hV, hr⟩ := hrun κ' w a κ'.le_refl s look hw
        unfold Oper.wp
        rw [hr]
        exact step V hV
      · rw [if_neg (by rw [hw]; simp)]
        exact step undef (by rw [hv]; rfl)
    · -- it is the next acting one
      have hiord : i ∈ done ++ ordOf rest := by rw [← hord]; exact F.all i hiN
      have hir : i ∈ ordOf rest := by
        rcases List.mem_append.1 hiord with h1 | h1
        · exact absurd h1 hid
        · exact h1
      rcases hrest with rfl | ⟨s', x, r, rfl, hact⟩
      · simp [ordOf] at hir
      have hx : l[s']? = some x := st.of (.ex s' x) (by simp)
      have hsi : s' = i := by
        by_cases e : s' = i
        · exact e
        · exfalso
          have hir' : i ∈ ordOf r := by
            simp only [ordOf, List.mem_cons] at hir
            rcases hir with e' | h1
            · exact absurd e'.symm e
            · exact h1
          have hp : pairOK ops l (masks ops.toList []) s' i = true := pairs_mem done s' (ordOf r) (by have := F.pairs; rw [hord] at this; exact this) i hir'
          rcases pair_iff hp with hp | ⟨hp, _⟩
          · have := F.mask hp hcl' ((hS' i).2 (.inl rfl))
            rcases (hS' s').1 this with e' | e'
            · exact e e'
            · exact (List.nodup_append.1 hnd).2.2 s' (st.sdone s' e') s' (by simp [ordOf]) rfl
          · rw [hact] at hp; cases hp
      subst hsi
      obtain ⟨o2, ho2, hcomp⟩ := oper_of hl hx
      rw [ho] at ho2; cases ho2
      obtain ⟨hdst, hop, hg⟩ := compOper_parts hcomp
      have hdx : x.dst = (dstAt ops s').map npos := by rw [(dstOf_eq hdst).1]; simp [dstAt, ho]
      have hsel : ∀ cs b, o.op ≠ .select cs b := by
        simp only [compOper, Option.bind_eq_some_iff, Option.map_eq_some_iff] at hcomp
        obtain ⟨_, _, a, h2, _⟩ := hcomp
        exact no_select h2
      have early : ∀ j ∈ done, ∀ t, dstAt ops j = some t → t ∈ looksA ops s' → listed.getD j false = true := by
        intro j hj t hjt ht
        obtain ⟨D1, D2, hD⟩ := before_mem hj
        have hp : pairOK ops l (masks ops.toList []) j s' = true := pairs_mem D1 j (D2 ++ s' :: ordOf r) (by have := F.pairs; rw [hord, hD] at this; simpa [ordOf] using this) s' (by simp)
        rcases pair_iff hp with hp | ⟨_, _, hp⟩
        · have := F.mask hp hcl' ((hS' s').2 (.inl rfl))
          rcases (hS' j).1 this with e | e
          · exact absurd (e ▸ hj) hid
          · exact e
        · rw [wrecks_look hjt (.inl ht)] at hp; cases hp
      have look : ∀ t ∈ Oper.looksAt ops o, gam κ' (getS (FL ops val done fr0) (npos t)) = some (a.tmps.getD t undef) := by
        intro t ht
        rw [← hf.rel t]
        congr 1
        refine FL_two val t _ _ fr0 fr0 ?_ rfl
        rw [← looksA_eq ho] at ht
        rw [List.filter_filter]
        refine filter_same fun j hj => ?_
        cases hd : (dstAt ops j == some t) with
        | false => rfl
        | true => simp [early j hj t (by simpa using hd) ht]
      have hfilS : (done.filter fun j => (listed.setIfInBounds s' true).getD j false) = done.filter fun j => listed.getD j false := by
        refine filter_same fun j hj => ?_
        rw [Bool.eq_iff_iff, hS']
        constructor
        · rintro (e | e)
          · exact absurd (e ▸ hj) hid
          · exact e
        · exact .inr
      have step : ∀ κ2 av h' v w2, κ'.le κ2 → Sim B w0 κ2 h' w2 → gam κ2 av = some v → itemsD r cf (updD x.dst av (FL ops val done fr0)) h' K → (∀ j ∈ done, listed.getD j false = false → ∀ o' x' D', ops[j]? = some o' → l[j]? = some x' → RunAt P B w0 ops o' (FL ops val D' fr0) (val j) κ' h → readsB x'.op = true → True) →
          wpAny P .any ops Q fuel (listed.setIfInBounds s' true) (a.put o.dst v) w2 := by
        intro κ2 av h' v w2 hk2 s2 hv hrun _
        have hv2 : ∀ k ∈ done, setV val s' av k = val k := fun k hk => setV_ne _ _ (fun e => hid (by rw [← e]; exact hk))
        have hFL : FL ops (setV val s' av) done fr0 = FL ops val done fr0 := FL_congr done fr0 hv2
        have hfr : FL ops (setV val s' av) (done ++ [s']) fr0 = updD x.dst av (FL ops val done fr0) := by rw [FL_snoc, hFL, ← hdx, setV_self]
        have htot2 : Total κ2 fr0 := fun t => let ⟨V, hV⟩ := st.tot t; ⟨V, gam_mono hk2 _ _ hV⟩
        have hrep2 : ∀ j ∈ done ++ [s'], ∃ V, gam κ2 (setV val s' av j) = some V := by
          intro j hj
          rcases List.mem_append.1 hj with hj | hj
          · rw [hv2 j hj]; obtain ⟨V, hV⟩ := st.rep j hj; exact ⟨V, gam_mono hk2 _ _ hV⟩
          · simp at hj; subst hj; rw [setV_self]; exact ⟨v, hv⟩
        have hof : ∀ x ∈ r, ItemOf l x := fun x hx => st.of x (by simp [hx])
        have hc := st.chk
        simp only [chksOK, Bool.and_eq_true] at hc
        have st2 : St P B w0 cf ops l fr0 K items (fun j => (listed.setIfInBounds s' true).getD j false) (done ++ [s']) r (setV val s' av) h' κ2 := by
          refine ⟨by rw [hord]; simp [ordOf], by rw [hfr]; exact hrun, hof, hc.2, fun x hx => st.sub x (by simp [chkd, hx]), fun j hj => ?_, fun j hj hja => ?_, hrep2, fun j hj hjS => ?_, htot2⟩
          · rcases (hS' j).1 hj with rfl | hj
            · simp
            · simp [st.sdone j hj]
          · rcases List.mem_append.1 hj with hj | hj
            · exact (hS' j).2 (.inr (st.acts j hj hja))
            · simp at hj; exact (hS' j).2 (.inl hj)
          · obtain ⟨hjS1, hjs⟩ := hS'f j hjS
            have hjd : j ∈ done := by
              rcases List.mem_append.1 hj with hj | hj
              · exact hj
              · simp at hj; exact absurd hj hjs
            obtain ⟨D, E, oj, xj, h1, h2, h3, h4, h5, h6⟩ := st.pend j hjd hjS1
            have hD : FL ops (setV val s' av) D fr0 = FL ops val D fr0 := FL_congr D fr0 (fun k hk => hv2 k (by rw [h1]; simp [hk]))
            refine ⟨D, E ++ [s'], oj, xj, by rw [h1]; simp, h2, h3, ?_, by rw [hD, hv2 j hjd]; exact h5, fun hr h2 => by rw [hD, hv2 j hjd]; exact (h6 hr h2).mono hk2⟩
            rw [hD, hv2 j hjd]
            cases hrd : readsB xj.op with
            | false => exact (h6 hrd h').mono hk2
            | true =>
              -- the check behind the acting operation
              have hc1 := hc.1
              simp only [hact, Bool.not_true, Bool.false_or, List.all_eq_true, Bool.or_eq_true, Bool.not_eq_true', List.contains_iff_mem] at hc1
              have hj3 : readAt l j = true := by simp [readAt, h3, hrd]
              rcases hc1 j hjd with (hc1 | hc1) | hc1
              · rw [hj3] at hc1; cases hc1
              · have := F.mask hc1 hcl' ((hS' s').2 (.inl rfl))
                rcases (hS' j).1 this with e | e
                · exact absurd e hjs
                · rw [hjS1] at e; cases e
              · obtain ⟨x', d, q1, q2, q3⟩ := chk_facts (P := P) (B := B) (w0 := w0) (cf := cf) hl (htot2.FL (done ++ [s']) fr0 hrep2) r hof (by rw [hfr]; exact hrun) j hc1 oj h2
                rw [h3] at q1; cases q1
                have hcd : j ∈ chkd items := st.sub j (by simp [chkd, chkRun_chkd r j hc1])
                have hordj : ordOf items = D ++ j :: (E ++ s' :: ordOf r) := by rw [hord, h1]; simp [ordOf]
                have keep : ∀ y ∈ E ++ [s'], wrecks ops j y = false := fun y hy => keeps_mem D j (E ++ s' :: ordOf r) (by have := F.keeps; rw [hordj] at this; exact this) hcd y (by
                  rcases List.mem_append.1 hy with hy | hy
                  · simp [hy]
                  · simp at hy; simp [hy])
                have hlk := chks_looks r (done ++ [s']) hc.2 j hc1
                obtain ⟨o3, ho3, hcomp3⟩ := oper_of hl h3
                rw [h2] at ho3; cases ho3
                have hdj : xj.dst = (dstAt ops j).map npos := by rw [(dstOf_eq (compOper_parts hcomp3).1).1]; simp [dstAt, h2]
                rw [hdj] at q2
                obtain ⟨t, ht, rfl⟩ := Option.map_eq_some_iff.1 q2
                have hdn2 : done ++ [s'] = D ++ j :: (E ++ [s']) := by rw [h1]; simp
                have hval : getS (FL ops (setV val s' av) (done ++ [s']) fr0) (npos t) = val j := by
                  rw [hdn2, FL_last _ t D j (E ++ [s']) fr0 ht (fun y hy e => by
                    have := keep y hy
                    rw [wrecks_look e (.inr ht)] at this; cases this), hv2 j hjd]
                rw [hval] at q3
                refine q3.frame fun u hu => ?_
                rw [← hD]
                refine FL_two _ u _ _ fr0 fr0 ?_ rfl
                rw [hdn2, List.filter_append, List.filter_cons]
                have e1 : (dstAt ops j == some u) = false := by
                  rw [Bool.eq_false_iff]
                  intro e
                  rw [← looksA_eq h2] at hu
                  rw [List.any_eq_false] at hlk
                  exact hlk u hu e
                have e2 : (E ++ [s']).filter (fun i => dstAt ops i == some u) = [] := by
                  rw [List.filter_eq_nil_iff]
                  intro y hy e
                  have := keep y hy
                  rw [wrecks_look (by simpa using e) (.inl (by rw [looksA_eq h2]; exact hu))] at this; cases this
                rw [e1, e2]; simp
        obtain ⟨done2, rest2, val2, st3, hr2, hval2, E, hE, hES⟩ := adv hl F.nd ⟨w2, s2⟩ r (done ++ [s']) _ st2
        refine ih _ _ w2 (by simpa using hsz) hcl' hU' ⟨done2, rest2, val2, h', κ2, Kap.le_trans hle hk2, st3, s2, ?_, hr2⟩
        have hfil2 : (done2.filter fun j => (listed.setIfInBounds s' true).getD j false) = (done.filter fun j => listed.getD j false) ++ [s'] := by
          rw [hE, List.filter_append, List.filter_append, hfilS]
          have e1 : (E.filter fun j => (listed.setIfInBounds s' true).getD j false) = [] := by
            rw [List.filter_eq_nil_iff]
            intro j hj
            rw [hES j hj]; simp
          have e2 : ([s'].filter fun j => (listed.setIfInBounds s' true).getD j false) = [s'] := by
            simp only [List.filter_cons, (hS' s').2 (.inl rfl), if_true, List.filter_nil]
          rw [e1, e2]; simp
        have hFL2 : FL ops val2 (done2.filter fun j => (listed.setIfInBounds s' true).getD j false) fr0 = updD x.dst av (FL ops val (done.filter fun j => listed.getD j false) fr0) := by
          rw [hfil2, FL_snoc, hval2 s' (by simp), setV_self, ← hdx]
          congr 1
          refine FL_congr _ fr0 fun j hj => ?_
          have hjd := (List.mem_filter.1 hj).1
          rw [hval2 j (by simp [hjd]), hv2 j hjd]
        rw [hFL2]
        exact put_dst (hf.mono hk2) hdst hv
      have hD' : grdK x.guard (FL ops val done fr0) (runOp x.op cf (FL ops val done fr0) h fun v h => putD x.dst v (FL ops val done fr0) fun fr => itemsD r cf fr h K) (putD x.dst undefV (FL ops val done fr0) fun fr => itemsD r cf fr h K) := st.run
      rcases guard_ok (n := n) (κ := κ') hg rfl (tmps := a.tmps) (fun j want hgj oj d' h1 h2 => look d' (looks_guard hgj h1 h2)) hD' with ⟨hw, hA⟩ | ⟨hw, hC⟩
      · rw [if_pos hw]
        left
        obtain ⟨ρ, r1, r2, r3, r4, r5⟩ := Total.rho (st.tot.FL done fr0 st.rep)
        unfold Oper.wp
        rw [exec_same hsel r2 r3 r4 r5 look]
        refine oper_upon hcf hop hA s a r1 fun κ2 av h' v w2 b1 b2 b3 b4 => ?_
        rw [putD_iff] at b4
        exact step κ2 av h' v w2 b1 b2 b3 b4 (fun _ _ _ _ _ _ _ _ _ _ => trivial)
      · rw [if_neg (by rw [hw]; simp)]
        rw [putD_iff] at hC
        exact step κ' undefV h undef w κ'.le_refl s rfl hC (fun _ _ _ _ _ _ _ _ _ _ => trivial)

theorem draw_wp (hcf : CallOK P B w0 cf) (hc : compOps P n ops ops.toList = some l) (hok : drawOK ops l (drawItems ops l) = true)
    {Q : Exit → Act → World → Prop} {fr : Fr} {h : Hp} {κ : Kap} {a : Act} {w : World} (hD : itemsD (drawItems ops l) cf fr h K) (s : Sim B w0 κ h w) (hf : FrOK κ n fr a)
    (hq : ∀ κ' fr' h' a' w', κ.le κ' → Sim B w0 κ' h' w' → FrOK κ' n fr' a' → K fr' h' → Q .normal a' w') :
    wpAny P .any ops Q ops.size (Array.replicate ops.size false) a w := by
  have F := facts_of hok
  have hS0 : ∀ i, (Array.replicate ops.size false).getD i false = false := by
    intro i
    rw [Array.getD_eq_getD_getElem?, Array.getElem?_replicate]
    split <;> rfl
  have st0 : St P B w0 cf ops l fr K (drawItems ops l) (fun i => (Array.replicate ops.size false).getD i false) [] (drawItems ops l) (fun _ => undefV) h κ :=
    ⟨rfl, hD, drawItems_of, F.chks, (fun _ h => h), (fun i hi => by simp only [hS0] at hi; cases hi), (fun i hi => by simp at hi), (fun i hi => by simp at hi), (fun i hi => by simp at hi), (fun t => ⟨_, hf.rel t⟩)⟩
  obtain ⟨done2, rest2, val2, st3, hr2, hval2, E, hE, hES⟩ := adv hc F.nd ⟨w, s⟩ _ [] _ st0
  refine draw_main hcf hc F hq _ _ a w (by simp) (fun i o e hi => by simp only [hS0] at hi; cases hi) ⟨List.range ops.size, fun i hi _ => List.mem_range.2 hi, by simp⟩ ⟨done2, rest2, val2, h, κ, κ.le_refl, st3, s, ?_, hr2⟩
  have : (done2.filter fun i => (Array.replicate ops.size false).getD i false) = [] := by
    rw [List.filter_eq_nil_iff]
    intro j _
    rw [hS0]; simp
  rw [this]
  exact hf

end Go.Am
