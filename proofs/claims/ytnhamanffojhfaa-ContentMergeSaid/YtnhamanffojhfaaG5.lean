/-
  What functions of the program do, said of the abstract machine, and plain lemmas: LgPlain17 LgLaw17O LgWith LgLaw17A LgLaw17B LgPlainM LgCut17 LgLaw17C LgLaw17M YtnhamanffojhfaaCon LgTabM17 LgArg. No condition.
-/
import Derived.Test.YtnhamanffojhfaaG4
import Derived.KernelRfl
import Derived.Test.YtnhamanffojhfaaProg
namespace Lg
set_option linter.unusedSimpArgs false
set_option linter.unusedVariables false
open Go Go.Am
theorem lessI_irrefl (t n : Int) : lessI t n t n = false := by simp [lessI]
theorem lessI_asymm {a b c d : Int} (h : lessI a b c d = true) : lessI c d a b = false := by
  simp only [lessI, Bool.or_eq_true, Bool.and_eq_true, decide_eq_true_eq, Bool.or_eq_false_iff, Bool.and_eq_false_iff, decide_eq_false_iff_not] at *
  omega
theorem rising_ext : ∀ (l m : List FOp), Rising l → Rising m → (∀ x, x ∈ l ↔ x ∈ m) → l = m
  | [], [], _, _, _ => rfl
  | [], b :: m, _, _, h => by have := (h b).2 (by simp); cases this
  | a :: l, [], _, _, h => by have := (h a).1 (by simp); cases this
  | a :: l, b :: m, hl, hm, h => by
    have pl := List.pairwise_cons.1 hl
    have pm := List.pairwise_cons.1 hm
    have e : a = b := by
      rcases List.mem_cons.1 ((h a).1 (by simp)) with q | q
      · exact q
      · rcases List.mem_cons.1 ((h b).2 (by simp)) with r | r
        · exact r.symm
        · have h1 := pm.1 a q
          have h2 := pl.1 b r
          rw [lessI_asymm h1] at h2
          cases h2
    subst e
    have irr : ∀ (z : List FOp), (∀ x ∈ z, lessI a.t a.n x.t x.n = true) → ¬ a ∈ z := fun z hz q => by
      have := hz a q
      rw [lessI_irrefl] at this
      cases this
    rw [rising_ext l m pl.2 pm.2 fun x => ?_]
    constructor
    · intro q
      rcases List.mem_cons.1 ((h x).1 (by simp [q])) with rfl | r
      · exact absurd q (irr l pl.1)
      · exact r
    · intro q
      rcases List.mem_cons.1 ((h x).2 (by simp [q])) with rfl | r
      · exact absurd q (irr m pm.1)
      · exact r
/-- Stamps apart. -/
def Apart (os : List FOp) : Prop := os.Pairwise fun a b => sameI a.t a.n b.t b.n = false
theorem sameI_comm (a b c d : Int) : sameI a b c d = sameI c d a b := by
  unfold sameI
  rw [Bool.eq_iff_iff]
  simp only [Bool.and_eq_true, decide_eq_true_eq]
  omega
theorem some_spec (most : Nat) : ∀ (os acc : List FOp), Apart acc → (∀ a ∈ acc, mayO a = true) → acc.length ≤ most → Apart (os.foldl (someStep most) acc) ∧ (∀ a ∈ os.foldl (someStep most) acc, mayO a = true) ∧ (os.foldl (someStep most) acc).length ≤ most
  | [], acc, h1, h2, h3 => ⟨h1, h2, h3⟩
  | o :: os, acc, h1, h2, h3 => by
    rw [List.foldl_cons]
    have key : Apart (someStep most acc o) ∧ (∀ a ∈ someStep most acc o, mayO a = true) ∧ (someStep most acc o).length ≤ most := by
      unfold someStep
      split
      · split
        · rename_i q1 q2
          simp only [Bool.and_eq_true, List.all_eq_true, Bool.not_eq_true'] at q2
          refine ⟨List.pairwise_append.2 ⟨h1, List.pairwise_singleton _ _, fun a ha b hb => ?_⟩, fun a ha => ?_, by simp; omega⟩
          · rw [List.mem_singleton.1 hb]
            exact q2.2 a ha
          · rcases List.mem_append.1 ha with ha | ha
            · exact h2 a ha
            · rw [List.mem_singleton.1 ha]; exact q2.1
        · exact ⟨h1, h2, h3⟩
      · exact ⟨h1, h2, h3⟩
    exact some_spec most os _ key.1 key.2.1 key.2.2
theorem someO_spec (os : List FOp) (most : Nat) : Apart (someO os most) ∧ (∀ a ∈ someO os most, mayO a = true) ∧ (someO os most).length ≤ most := some_spec most os [] List.Pairwise.nil (fun a h => by cases h) (Nat.zero_le _)
/-- All that were added, one after another. -/
def addAll (L os : List FOp) : List FOp := os.foldl (fun L a => (addR L a).2) L
def writes (os : List FOp) : List FOp := os.filter fun a => mayO a && decide (a.kind = 4)
theorem found_in {L : List FOp} {P : Nat} {t n : Int} (h : foundAt L P t n = true) : ∃ b ∈ L, sameI b.t b.n t n = true := by
  unfold foundAt at h
  split at h
  · rename_i a ha
    exact ⟨a, List.mem_of_getElem? ha, h⟩
  · cases h
theorem addR_apart {L : List FOp} {a : FOp} (h : ∀ b ∈ L, sameI b.t b.n a.t a.n = false) : addR L a = if (mayO a && decide (a.kind = 4)) = true then (0, insS L a) else (22, L) := by
  unfold addR
  split
  · have : foundAt L (posS L a.t a.n) a.t a.n = false := by
      cases q : foundAt L (posS L a.t a.n) a.t a.n with
      | false => rfl
      | true =>
        obtain ⟨b, hb, hs⟩ := found_in q
        rw [h b hb] at hs; cases hs
    rw [this]; rfl
  · rfl
theorem addR_rising {L : List FOp} (hL : Rising L) (a : FOp) : Rising (addR L a).2 := by
  unfold addR
  split
  · split
    · exact hL
    · rename_i q
      exact rising_ins a L hL (by simpa using q)
  · exact hL
theorem addAll_rising : ∀ (os L : List FOp), Rising L → Rising (addAll L os)
  | [], L, h => h
  | a :: os, L, h => addAll_rising os _ (addR_rising h a)
theorem addAll_spec : ∀ (os L : List FOp), Apart os → (∀ a ∈ os, ∀ b ∈ L, sameI b.t b.n a.t a.n = false) → (∀ x, x ∈ addAll L os ↔ x ∈ L ∨ x ∈ writes os) ∧ (addAll L os).length = L.length + (writes os).length
  | [], L, _, _ => ⟨fun x => by simp [addAll, writes], by simp [addAll, writes]⟩
  | a :: os, L, h1, h2 => by
    have p := List.pairwise_cons.1 h1
    have ha := addR_apart (h2 a (by simp))
    have hmem : ∀ x, x ∈ (addR L a).2 → x = a ∨ x ∈ L := fun x hx => by
      rw [ha] at hx
      split at hx
      · exact (insS_mem a L x).1 hx
      · exact .inr hx
    have ih := addAll_spec os (addR L a).2 p.2 fun b hb c hc => by
      rcases hmem c hc with rfl | hc
      · exact p.1 b hb
      · exact h2 b (by simp [hb]) c hc
    have e : addAll L (a :: os) = addAll (addR L a).2 os := rfl
    rw [e]
    by_cases hw : (mayO a && decide (a.kind = 4)) = true
    · rw [if_pos hw] at ha
      have hwr : writes (a :: os) = a :: writes os := by unfold writes; rw [List.filter_cons, if_pos hw]
      rw [ha] at ih ⊢
      refine ⟨fun x => ?_, ?_⟩
      · rw [ih.1 x, insS_mem, hwr, List.mem_cons]
        constructor
        · rintro ((h | h) | h)
          · exact .inr (.inl h)
          · exact .inl h
          · exact .inr (.inr h)
        · rintro (h | h | h)
          · exact .inl (.inr h)
          · exact .inl (.inl h)
          · exact .inr h
      · rw [ih.2, insS_len, hwr, List.length_cons]; omega
    · rw [if_neg hw] at ha
      have hwr : writes (a :: os) = writes os := by unfold writes; rw [List.filter_cons, if_neg hw]
      rw [ha] at ih ⊢
      rw [hwr]
      exact ih
/-- The order does not matter. -/
theorem addAll_perm {os ps : List FOp} (hp : os.Perm ps) (ha : Apart os) : addAll [] os = addAll [] ps := by
  have hb : Apart ps := hp.pairwise ha fun {x y} h => by rw [sameI_comm]; exact h
  have h1 := addAll_spec os [] ha (fun a _ b hb => by cases hb)
  have h2 := addAll_spec ps [] hb (fun a _ b hb => by cases hb)
  refine rising_ext _ _ (addAll_rising os [] List.Pairwise.nil) (addAll_rising ps [] List.Pairwise.nil) fun x => ?_
  rw [h1.1, h2.1]
  have := hp.filter fun a => mayO a && decide (a.kind = 4)
  simp only [List.not_mem_nil, false_or]
  exact this.mem_iff
theorem addAll_snoc (L os : List FOp) (a : FOp) : addAll L (os ++ [a]) = (addR (addAll L os) a).2 := by
  unfold addAll
  rw [List.foldl_append]
  rfl
theorem addR_len (L : List FOp) (a : FOp) : (addR L a).2.length ≤ L.length + 1 := by
  unfold addR
  split
  · split
    · exact Nat.le_succ _
    · rw [insS_len]; exact Nat.le_refl _
  · exact Nat.le_succ _
theorem addAll_len : ∀ (os L : List FOp), (addAll L os).length ≤ L.length + os.length
  | [], L => Nat.le_refl _
  | a :: os, L => by
    have h1 := addAll_len os (addR L a).2
    have h2 := addR_len L a
    show (addAll (addR L a).2 os).length ≤ _
    rw [List.length_cons]
    omega
end Lg

namespace Lg
set_option linter.unusedSimpArgs false
set_option linter.unusedVariables false
set_option maxRecDepth 100000
open Go Go.Am
open Go.Proofs.Ytnhamanffojhfaa.shl
/-- All that was there stays, but two objects. -/
def Keep2 (h3 h : Hp) (fo go : Nat) : Prop := h3.next ≤ h.next ∧ ∀ q, q < h3.next → q ≠ fo → q ≠ go → h.at q = h3.at q
section
variable (cf : CallK) (fuel : Nat) {K : AV → Hp → Prop}
theorem OrdersL12_run (hA : cf 14 = cAdd) {h3 : Hp} {B fo go : Nat} {v : AV} {Zs : List Z} (hfo : fo < B) (hgo : go < B) (hB : B ≤ h3.next) (hsl : SlN h3 11 v (Zs.map Prod.fst) B) (hz : ∀ z ∈ Zs, OpH h3 z.1 z.2 ∧ ∀ x ∈ z.1, SlQ (fun o => o < fo ∧ o < go) x) (hm : Zs.length ≤ 1000) (t3 : AV) (e0 : Hp → Prop)
    (he : ∀ h F G, Keep2 h3 h fo go → FileS h fo (addAll [] (Zs.map Prod.snd)) F → FileS h go (addAll [] (Zs.map Prod.snd).reverse) G → e0 h) :
    ∀ (d i fm : Nat) (h : Hp) (F G : Nat → Prop), i + d = Zs.length → d < fm → Keep2 h3 h fo go → FileS h fo (addAll [] ((Zs.map Prod.snd).take i)) F → FileS h go (addAll [] ((Zs.map Prod.snd).reverse.take i)) G →
      (∀ q, F q → q = fo ∨ h3.next ≤ q) → (∀ q, G q → q = go ∨ h3.next ≤ q) → (∀ q, F q → ¬ G q) → s_lagoonlaw17_ContentOrdersL12 cf fuel e0 t3 (.ptr fo 0) (.ptr go 0) v fm (I i) h
  | d, i, fm, h, F, G, hk, hf, hkeep, hF, hG, f1, g1, fg => by
    obtain ⟨fm, rfl⟩ : ∃ j, fm = j + 1 := ⟨fm - 1, by omega⟩
    rw [s_lagoonlaw17_ContentOrdersL12_succ]
    unfold s_lagoonlaw17_ContentOrdersL12B
    have hln : (Zs.map Prod.fst).length = Zs.length := by simp
    have hls : (Zs.map Prod.snd).length = Zs.length := by simp
    have hlr : (Zs.map Prod.snd).reverse.length = Zs.length := by simp
    by_cases hi : i < Zs.length
    · obtain ⟨d, rfl⟩ : ∃ j, d = j + 1 := ⟨d - 1, by omega⟩
      rcases hsl with ⟨_, q⟩ | ⟨o, ob, rfl, b1, b2, b3, b4, b5, b6⟩
      · have := congrArg List.length q
        rw [hln, List.length_nil] at this
        omega
      have hsl : SlN h3 11 (.slice o 0 (Zs.map Prod.fst).length false 0) (Zs.map Prod.fst) B := .inr ⟨o, ob, rfl, b1, b2, b3, b4, b5, b6⟩
      have hcl : ∀ j (hj : j < Zs.length), cellsO ob 11 (j * 11) = some Zs[j].1 := fun j hj => by
        obtain ⟨ob', q1, q2, q3⟩ := LA.at (h := h3) (o := o) ⟨b2, ob, b3, b4, b5⟩
        rw [b3] at q1
        cases q1
        have := q3 j (by rw [hln]; exact hj)
        rw [List.getElem_map] at this
        exact this
      have kat : ∀ h', Keep2 h3 h' fo go → h'.at o = some ⟨true, 11, ob⟩ := fun h' hk' => by rw [hk'.2 o b2 (by omega) (by omega)]; exact b3
      have kop : ∀ h', Keep2 h3 h' fo go → ∀ z ∈ Zs, OpH h' z.1 z.2 := fun h' hk' z hz' =>
        (hz z hz').1.same hk'.1 (hz z hz').2 fun q hq ql => hk'.2 q ql (by omega) (by omega)
      have e1 : ((i : Int) + 1) = ((i + 1 : Nat) : Int) := by omega
      have hj : Zs.length - 1 - i < Zs.length := by omega
      have la := addAll_len ((Zs.map Prod.snd).take i) []
      have lb := addAll_len ((Zs.map Prod.snd).reverse.take i) []
      have lc := List.length_take_le i (Zs.map Prod.snd)
      have ld := List.length_take_le i (Zs.map Prod.snd).reverse
      simp only [List.length_nil] at la lb
      have hat := kat h hkeep
      have ci := hcl i hi
      have cj := hcl (Zs.length - 1 - i) hj
      have ga : (Zs.map Prod.snd).take (i + 1) = (Zs.map Prod.snd).take i ++ [Zs[i].2] := by
        rw [take_snoc _ i (by omega), List.getElem_map]
      have gb : (Zs.map Prod.snd).reverse.take (i + 1) = (Zs.map Prod.snd).reverse.take i ++ [Zs[Zs.length - 1 - i].2] := by
        rw [take_snoc _ i (by omega), List.getElem_reverse, List.getElem_map]
        simp
      try dsimp only
      rw [hln]
      (try unfold vMov); repeat' (first | refine Step.imp ?_ | (refine Way.mk (fun hp => ?_) (fun hp => ?_) <;> first | contradiction | (exfalso; omega) | skip) | refine LoadG.mkG ?_ | refine LoadsG.mkG ?_ | refine AtG.mkG ?_ | refine StoreG.mkG ?_ | refine CondG.mkG ?_ | (refine LoadsG.mk2 hat ci (by omega) ?_) | fail); (all_goals (try dsimp only))
      refine cAdd_go hA hF (by omega) (kop h hkeep Zs[i] (List.getElem_mem hi)) (fun h1 F1 y1 y2 y3 y4 _ => ?_)
      have k1 : Keep2 h3 h1 fo go := ⟨Nat.le_trans hkeep.1 y1, fun q q1 q2 q3 => by
        rw [y2 q (Nat.lt_of_lt_of_le q1 hkeep.1) (fun hq => by rcases f1 q hq with r | r <;> omega)]
        exact hkeep.2 q q1 q2 q3⟩
      have hG1 := hG.keep y1 fun q hq => y2 q (hG.lt hq) fun hq' => fg q hq' hq
      have f2 : ∀ q, F1 q → q = fo ∨ h3.next ≤ q := fun q hq => by
        rcases y4 q hq with r | r
        · exact f1 q r
        · exact .inr (Nat.le_trans hkeep.1 r)
      have fg1 : ∀ q, F1 q → ¬ G q := fun q hq hq' => by
        rcases y4 q hq with r | r
        · exact fg q r hq'
        · have := hG.lt hq'
          omega
      have hat1 := kat h1 k1
      (try unfold vMov); repeat' (first | refine Step.imp ?_ | (refine Way.mk (fun hp => ?_) (fun hp => ?_) <;> first | contradiction | (exfalso; omega) | skip) | refine LoadG.mkG ?_ | refine LoadsG.mkG ?_ | refine AtG.mkG ?_ | refine StoreG.mkG ?_ | refine CondG.mkG ?_ | (refine LoadsG.mk2 hat1 cj (by omega) ?_) | fail); (all_goals (try dsimp only))
      refine cAdd_go hA hG1 (by omega) (kop h1 k1 Zs[Zs.length - 1 - i] (List.getElem_mem hj)) (fun h2 G1 z1 z2 z3 z4 _ => ?_)
      have k2 : Keep2 h3 h2 fo go := ⟨Nat.le_trans k1.1 z1, fun q q1 q2 q3 => by
        rw [z2 q (Nat.lt_of_lt_of_le q1 k1.1) (fun hq => by rcases g1 q hq with r | r <;> omega)]
        exact k1.2 q q1 q2 q3⟩
      have hF2 := y3.keep z1 fun q hq => z2 q (y3.lt hq) fun hq' => fg1 q hq hq'
      (try unfold vMov); repeat' (first | refine Step.imp ?_ | (refine Way.mk (fun hp => ?_) (fun hp => ?_) <;> first | contradiction | (exfalso; omega) | skip) | refine LoadG.mkG ?_ | refine LoadsG.mkG ?_ | refine AtG.mkG ?_ | refine StoreG.mkG ?_ | refine CondG.mkG ?_ | fail); (all_goals (try dsimp only))
      rw [e1, ← hln]
      refine OrdersL12_run hA hfo hgo hB hsl hz hm t3 e0 he d (i + 1) fm h2 F1 G1 (by omega) (by omega) k2 (by rw [ga, addAll_snoc]; exact hF2) (by rw [gb, addAll_snoc]; exact z3) f2 (fun q hq => ?_) (fun q hq hq' => ?_)
      · rcases z4 q hq with r | r
        · exact g1 q r
        · exact .inr (Nat.le_trans k1.1 r)
      · rcases z4 q hq' with r | r
        · exact fg1 q hq r
        · have := y3.lt hq
          omega
    · have hd : d = 0 := by omega
      subst hd
      rw [List.take_of_length_le (by omega)] at hF hG
      try dsimp only
      (try unfold vMov); repeat' (first | refine Step.imp ?_ | (refine Way.mk (fun hp => ?_) (fun hp => ?_) <;> first | contradiction | (exfalso; omega) | skip) | refine LoadG.mkG ?_ | refine LoadsG.mkG ?_ | refine AtG.mkG ?_ | refine StoreG.mkG ?_ | refine CondG.mkG ?_ | (refine len_sl hsl ?_) | fail); (all_goals (try dsimp only))
      exact he h F G hkeep hF hG
theorem OrdersL10_run (hS : cf 25 = cIdB2 sameI) {h : Hp} {v1 v2 : AV} {cl1 cl2 : List (List AV)} {hs : List FOp} (r1 : Rd h 5 v1 cl1) (w1 : VersR h cl1 hs) (r2 : Rd h 5 v2 cl2) (w2 : VersR h cl2 hs) (t3 t4 t5 : AV) (e1 : Hp → Prop) (he : e1 h) :
    ∀ (d k m : Nat), k + d = hs.length → d < m → s_lagoonlaw17_ContentOrdersL10 cf fuel K e1 t3 t4 t5 v1 v2 m (I k) h
  | d, k, m, hk, hm => by
    obtain ⟨m, rfl⟩ : ∃ j, m = j + 1 := ⟨m - 1, by omega⟩
    rw [s_lagoonlaw17_ContentOrdersL10_succ]
    unfold s_lagoonlaw17_ContentOrdersL10B
    have hb := r1.bound
    have l1 := w1.1
    have l2 := w2.1
    rw [r1.len]
    try dsimp only
    by_cases hkl : k < hs.length
    · obtain ⟨d, rfl⟩ : ∃ j, d = j + 1 := ⟨d - 1, by omega⟩
      have k1 : k < cl1.length := by omega
      have k2 : k < cl2.length := by omega
      obtain ⟨o1, off1, kn1, c1, a1, q1, hat1, hc1⟩ := r1.openS k1
      obtain ⟨o2, off2, kn2, c2, a2, q2, hat2, hc2⟩ := r2.openS k2
      have ck1 := hc1 k k1
      have ck2 := hc2 k k2
      obtain ⟨vs1, vd1, e1', -, -⟩ := w1.2 k k1 hkl
      obtain ⟨vs2, vd2, e2', -, -⟩ := w2.2 k k2 hkl
      rw [e1'] at ck1
      rw [e2'] at ck2
      have d1 : cellsO a1.obj 2 (off1 + k * 5 + 0) = some [I hs[k].t, I hs[k].n] := cellsO_sub 5 2 0 ck1 (by omega)
      have d2 : cellsO a2.obj 2 (off2 + k * 5 + 0) = some [I hs[k].t, I hs[k].n] := cellsO_sub 5 2 0 ck2 (by omega)
      have e3 : ((k : Int) + 1) = ((k + 1 : Nat) : Int) := by omega
      have ih := OrdersL10_run hS r1 w1 r2 w2 t3 t4 t5 e1 he d (k + 1) m (by omega) (by omega)
      rw [q1, q2]
      rw [q1, q2] at ih
      (try unfold vMov); repeat' (first | refine Step.imp ?_ | (refine Way.mk (fun hp => ?_) (fun hp => ?_) <;> first | contradiction | (exfalso; omega) | skip) | refine LoadG.mkG ?_ | refine LoadsG.mkG ?_ | refine AtG.mkG ?_ | refine StoreG.mkG ?_ | refine CondG.mkG ?_ | (refine LoadsG.mk2 hat1 d1 (by omega) ?_) | (refine LoadsG.mk2 hat2 d2 (by omega) ?_) | (refine cIdB2_go hS (fun hp => ?_) (fun hp => ?_)) | fail); (all_goals (try dsimp only))
      · rw [e3]; exact ih
      · exfalso; simp [sameI] at hp
    · have hd : d = 0 := by omega
      subst hd
      (try unfold vMov); repeat' (first | refine Step.imp ?_ | (refine Way.mk (fun hp => ?_) (fun hp => ?_) <;> first | contradiction | (exfalso; omega) | skip) | refine LoadG.mkG ?_ | refine LoadsG.mkG ?_ | refine AtG.mkG ?_ | refine StoreG.mkG ?_ | refine CondG.mkG ?_ | fail); (all_goals (try dsimp only))
      exact he
theorem Orders_run (hb : cf 11 = trueC) (hN : cf 12 = cNew) (hSo : cf 13 = cSome) (hA : cf 14 = cAdd) (hH : cf 18 = cFHeads) (hV : cf 19 = cFValue) (hS : cf 25 = cIdB2 sameI)
    {h0 : Hp} {v : AV} {els : List (List AV)} {os : List FOp} (hr : Rd h0 11 v els) (ho : OpsR h0 els os) (hf : 100 < fuel) (hK : ∀ h', K (.bool true) h') : s_lagoonlaw17_ContentOrders cf fuel v h0 K := by
  unfold s_lagoonlaw17_ContentOrders
  refine trueC_go hb ?_
  refine cNew_go hN (fun fo h1 x1 f1 f2 f3 => ?_)
  refine cNew_go hN (fun go h2 x2 g1 g2 g3 => ?_)
  have n1 := x1.next
  have n2 := x2.next
  have hQ : ∀ cs ∈ els, ∀ x ∈ cs, SlQ (fun o => o < h0.next) x := fun cs hcs => by
    obtain ⟨j, hj, rfl⟩ := List.getElem_of_mem hcs
    exact (ho.2 j hj (by rw [← ho.1]; exact hj)).old
  (try unfold vMov); repeat' (first | refine Step.imp ?_ | (refine Way.mk (fun hp => ?_) (fun hp => ?_) <;> first | contradiction | (exfalso; omega) | skip) | refine LoadG.mkG ?_ | refine LoadsG.mkG ?_ | refine AtG.mkG ?_ | refine StoreG.mkG ?_ | refine CondG.mkG ?_ | fail); (all_goals (try dsimp only))
  refine cSome_go hSo 20 rfl (hr.mono (x1.trans x2)) (ho.mono (x1.trans x2)) hQ (by omega) (fun v' h3 Zs x3 s1 s2 s3 => ?_)
  have n3 := x3.next
  have sp := someO_spec os 20
  rw [← s3] at sp
  have hlen : Zs.length ≤ 20 := by have := sp.2.2; simpa using this
  have sl : SlN h3 11 v' (Zs.map Prod.fst) h2.next := s1
  try dsimp only
  refine OrdersL12_run cf fuel hA (h3 := h3) (B := h2.next) (fo := fo) (go := go) (by omega) (by omega) n3 sl (fun z hz => ⟨(s2 z hz).1.mono x3, fun x hx => ((s2 z hz).2 x hx).mono fun o q => ⟨by omega, by omega⟩⟩) (by omega) _ _ (fun h F G hk hF hG => ?_) Zs.length 0 fuel h3 (fun q => q = fo) (fun q => q = go) (by omega) (by omega) ⟨Nat.le_refl _, fun q _ _ _ => rfl⟩
    (FileS.new (by omega) (by rw [x3.same fo (by omega), x2.same fo f2]; exact f3)) (FileS.new (by omega) (by rw [x3.same go (by omega)]; exact g3)) (fun q hq => .inl hq) (fun q hq => .inl hq) (fun q hq hq' => by omega)
  have hperm : addAll [] (Zs.map Prod.snd).reverse = addAll [] (Zs.map Prod.snd) := (addAll_perm (List.reverse_perm _).symm sp.1).symm
  rw [hperm] at hG
  have hll := addAll_len (Zs.map Prod.snd) []
  simp only [List.length_nil, List.length_map] at hll
  generalize addAll [] (Zs.map Prod.snd) = L at hF hG hll
  unfold s_lagoonlaw17_ContentOrdersE0
  obtain ⟨vf, ef, hFH, lf⟩ := hF.file (by omega)
  refine cFHeads_go hH hFH (by omega) (fun v1 hA' cl1 y1 k1 => ?_)
  obtain ⟨vg, eg, hGH, lg⟩ := (hG.ext y1).file (by omega)
  refine cFHeads_go hH hGH (by omega) (fun v2 hB' cl2 y2 k2 => ?_)
  rw [lf] at k1
  rw [lg] at k2
  have q1 := headsP_len L 0 L.length
  obtain ⟨M1, a1, a2, a3, a4, a5⟩ := k1.mono y2
  obtain ⟨M2, b1, b2, b3, b4, b5⟩ := k2
  have l1 := a5.1
  have l2 := b5.1
  (try unfold vMov); repeat' (first | refine Step.imp ?_ | (refine Way.mk (fun hp => ?_) (fun hp => ?_) <;> first | contradiction | (exfalso; omega) | skip) | refine LoadG.mkG ?_ | refine LoadsG.mkG ?_ | refine AtG.mkG ?_ | refine StoreG.mkG ?_ | refine CondG.mkG ?_ | (refine len_sl a3 ?_) | (refine len_sl b3 ?_) | fail); (all_goals (try dsimp only))
  refine OrdersL10_run cf fuel hS (SlN.rd a3 (by omega)) a5 (SlN.rd b3 (by omega)) b5 _ _ _ _ ?_ (headsP L 0 L.length).length 0 fuel (by omega) (by omega)
  unfold s_lagoonlaw17_ContentOrdersE1
  have y12 := y1.trans y2
  obtain ⟨wf, uf, hFH', lf'⟩ := (hF.ext y12).file (by omega)
  (try unfold vMov); repeat' (first | refine Step.imp ?_ | (refine Way.mk (fun hp => ?_) (fun hp => ?_) <;> first | contradiction | (exfalso; omega) | skip) | refine LoadG.mkG ?_ | refine LoadsG.mkG ?_ | refine AtG.mkG ?_ | refine StoreG.mkG ?_ | refine CondG.mkG ?_ | fail); (all_goals (try dsimp only))
  refine cFValue_go hV hFH' (by omega) (fun w1 hC z1 z2 => ?_)
  obtain ⟨wg, ug, hGH', lg'⟩ := (hG.ext (y12.trans z1)).file (by omega)
  (try unfold vMov); repeat' (first | refine Step.imp ?_ | (refine Way.mk (fun hp => ?_) (fun hp => ?_) <;> first | contradiction | (exfalso; omega) | skip) | refine LoadG.mkG ?_ | refine LoadsG.mkG ?_ | refine AtG.mkG ?_ | refine StoreG.mkG ?_ | refine CondG.mkG ?_ | (refine toStr_go z2 ?_) | fail); (all_goals (try dsimp only))
  refine cFValue_go hV hGH' (by omega) (fun w2 hD z3 z4 => ?_)
  (try unfold vMov); repeat' (first | refine Step.imp ?_ | (refine Way.mk (fun hp => ?_) (fun hp => ?_) <;> first | contradiction | (exfalso; omega) | skip) | refine LoadG.mkG ?_ | refine LoadsG.mkG ?_ | refine AtG.mkG ?_ | refine StoreG.mkG ?_ | refine CondG.mkG ?_ | (refine toStr_go (z2.mono z3) ?_) | (refine toStr_go z4 ?_) | fail); (all_goals (try dsimp only))
  exact hK _
end
end Lg

namespace Lg
set_option linter.unusedSimpArgs false
set_option linter.unusedVariables false
set_option maxRecDepth 100000
open Go Go.Am
open Go.Proofs.Ytnhamanffojhfaa.shl
/-- A slice that ends, with its room, behind m elements. -/
def shortV (v : AV) (m : Nat) : AV := match v with | .slice o off _ _ _ => .slice o off m true m | x => x
/-- A vector with a number put into it, in full. -/
def fullW (l : List Int) (n x : Int) (d : Nat) : List Int := (List.range d).map fun (k : Nat) => if (k : Int) = n then x else vat l k
def withF (l : List Int) (n x : Int) : List Int := (fullW l n x 64).take (trimN (fullW l n x 64) 64)
theorem fullW_len (l : List Int) (n x : Int) (d : Nat) : (fullW l n x d).length = d := by simp [fullW]
theorem fullW_succ (l : List Int) (n x : Int) (d : Nat) : fullW l n x (d + 1) = fullW l n x d ++ [if (d : Int) = n then x else vat l d] := by
  unfold fullW
  rw [List.range_succ, List.map_append]
  rfl
def cShortV : ConD := fun args h K => ∃ v l B, args = [v] ∧ SlN h 1 v ((l : List Int).map fun x => [I x]) B ∧ l.length ≤ 1000 ∧ K (shortV v (trimN l l.length)) h
theorem cShortV_go {cf : CallK} {g : FuncId} (hg : cf g = cShortV) {h : Hp} {v : AV} {l : List Int} {B : Nat} {K : AV → Hp → Prop} (hv : SlN h 1 v (l.map fun x => [I x]) B) (hl : l.length ≤ 1000) (hK : K (shortV v (trimN l l.length)) h) : cf g [v] h K := by rw [hg]; exact ⟨v, l, B, rfl, hv, hl, hK⟩
theorem SlN.shortV {h : Hp} {v : AV} {l : List Int} {B : Nat} (hv : SlN h 1 v (l.map fun x => [I x]) B) (hl : l.length ≤ 1000) (m : Nat) (hm : m ≤ l.length) : VecH h (shortV v m) (l.take m) := by
  have hr := SlN.vec hv (by omega)
  rcases hv with ⟨rfl, q⟩ | ⟨o, ob, rfl, h2, h3, h4, h5, h6, h7⟩
  · have : l = [] := by simpa using q
    subst this
    obtain rfl : m = 0 := by simpa using hm
    exact .inl ⟨rfl, rfl⟩
  · rcases hr.cases with ⟨q, _⟩ | ⟨_, q, _⟩ | ⟨o', off, kn, c, e, q, r2, r3, r5⟩
    · cases q
    · cases q
    · have hq : o = o' ∧ 0 = off := by
        simp only [AV.slice.injEq] at q
        exact ⟨q.1, q.2.1⟩
      obtain ⟨rfl, rfl⟩ := hq
      have hl2 : ((l.take m).map fun x => [I x]).length = m := by simp; omega
      refine .inr (.inr ⟨o, 0, true, m, e, by rw [hl2]; rfl, r2, r3, ⟨by rw [hl2]; omega, fun _ => by rw [hl2]; exact Nat.le_refl _⟩, fun j hj => ?_⟩)
      rw [hl2] at hj
      have := r5 j (by omega)
      simp only [List.getElem_map, List.getElem_take]
      rw [Nat.mul_one]
      unfold cellsO
      rw [this]
      rfl
def cWith : ConD := fun args h K => ∃ v l n x, args = [v, I n, I x] ∧ VecH h v l ∧ (0 ≤ n ∧ n < 64 ∧ 0 ≤ x ∧ x ≤ 1152921504606846976) ∧ ∀ v' h', Ext h h' → VecH h' v' (withF l n x) → SlQ (fun o => h.next ≤ o) v' → K v' h'
theorem cWith_go {cf : CallK} {g : FuncId} (hg : cf g = cWith) {h : Hp} {v : AV} {l : List Int} {n x : Int} {K : AV → Hp → Prop} (hv : VecH h v l) (hn : 0 ≤ n ∧ n < 64 ∧ 0 ≤ x ∧ x ≤ 1152921504606846976) (hK : ∀ v' h', Ext h h' → VecH h' v' (withF l n x) → SlQ (fun o => h.next ≤ o) v' → K v' h') : cf g [v, .int .i64 n, .int .i64 x] h K := by rw [hg]; exact ⟨v, l, n, x, rfl, hv, hn, hK⟩
section
variable (cf : CallK) (fuel : Nat) {h : Hp} {K : AV → Hp → Prop}
theorem shortL1_run {v : AV} {l : List Int} (hv : VecH h v l) (e0 : AV → Hp → Prop) : ∀ (n m : Nat), n ≤ l.length → n < m → e0 (I (trimN l n)) h → s_lagoonref4_shortL1 cf fuel e0 v m (I n) h
  | 0, m, hn, hm, hK => by
    obtain ⟨m, rfl⟩ : ∃ k, m = k + 1 := ⟨m - 1, by omega⟩
    rw [s_lagoonref4_shortL1_succ]
    unfold s_lagoonref4_shortL1B
    try dsimp only
    (try unfold vMov); repeat' (first | refine Step.imp ?_ | (refine Way.mk (fun hp => ?_) (fun hp => ?_) <;> first | contradiction | (exfalso; omega) | skip) | refine LoadG.mkG ?_ | refine LoadsG.mkG ?_ | refine AtG.mkG ?_ | refine StoreG.mkG ?_ | refine CondG.mkG ?_ | fail); (all_goals (try dsimp only))
    exact hK
  | n + 1, m, hn, hm, hK => by
    obtain ⟨m, rfl⟩ : ∃ k, m = k + 1 := ⟨m - 1, by omega⟩
    rcases hv.cases with ⟨rfl, rfl⟩ | ⟨o, rfl, rfl⟩ | ⟨o, off, kn, c, e, rfl, h2, h3, h5⟩
    · simp at hn
    · simp at hn
    · have hb := hv.bound
      have hc := h5 n (by omega)
      have ih := shortL1_run hv e0 n m (by omega) (by omega)
      rw [s_lagoonref4_shortL1_succ]
      unfold s_lagoonref4_shortL1B
      have e1 : (((n + 1 : Nat) : Int) - 1) = (n : Int) := by omega
      have hix : ix l n = l[n] := getD_in (by omega)
      unfold trimN at hK
      rw [hix] at hK
      try dsimp only
      (try unfold vMov); repeat' (first | refine Step.imp ?_ | (refine Way.mk (fun hp => ?_) (fun hp => ?_) <;> first | contradiction | (exfalso; omega) | skip) | refine LoadG.mkG ?_ | refine LoadsG.mkG ?_ | refine AtG.mkG ?_ | refine StoreG.mkG ?_ | refine CondG.mkG ?_ | (refine LoadG.mk2 h3 hc (by omega) ?_) | fail); (all_goals (try dsimp only))
      · rw [e1]
        rw [if_pos hp] at hK
        exact ih hK
      · rw [if_neg hp] at hK
        exact hK
theorem short_run {v : AV} {l : List Int} {B : Nat} (hv : SlN h 1 v (l.map fun x => [I x]) B) (hl : l.length ≤ 1000) (hf : l.length + 1 < fuel) (hK : K (shortV v (trimN l l.length)) h) : s_lagoonref4_short cf fuel v h K := by
  have hr := SlN.vec hv (by omega)
  unfold s_lagoonref4_short
  rw [hr.len]
  try dsimp only
  refine shortL1_run cf fuel hr _ l.length fuel (Nat.le_refl _) (by omega) ?_
  unfold s_lagoonref4_shortE0
  have hle := trimN_le l l.length
  generalize trimN l l.length = m at hK hle ⊢
  rcases hv with ⟨rfl, q⟩ | ⟨o, ob, rfl, h2, h3, h4, h5, h6, h7⟩
  · have : l = [] := by simpa using q
    subst this
    obtain rfl : m = 0 := by simpa using hle
    exact hK
  · have hlm : (l.map fun x => [I x]).length = l.length := by simp
    rw [hlm]
    rw [hlm] at hK
    show bndV (some (.int .i64 m)) 0 l.length (fun mx => bndV (some (.int .i64 m)) 0 mx fun hi => bndV none 0 hi fun lo =>
      forceN (Bool.rec (motive := fun _ => Nat) (0 + lo * 1) 0 (Nat.beq mx lo)) fun off => forceN (hi - lo) fun n => forceN (mx - lo) fun c => K (.slice o off n true c) h)
    rw [bndV_some .i64 m 0 l.length _ (by omega) (by omega), Int.toNat_natCast, bndV_some .i64 m 0 m _ (by omega) (by omega), Int.toNat_natCast, bndV_none]
    have : (Bool.rec (motive := fun _ => Nat) (0 + 0 * 1) 0 (Nat.beq m 0) : Nat) = 0 := by
      cases Nat.beq m 0 <;> rfl
    simp only [forceN_eq, this, Nat.sub_zero]
    exact hK
theorem WithL1_run (hA : cf 26 = cAt) {h0 : Hp} {v : AV} {l : List Int} (hv : VecH h0 v l) (n x : Int) (e0 : AV → Hp → Prop) (he : ∀ v' h', Ext h0 h' → SlN h' 1 v' ((fullW l n x 64).map fun x => [I x]) h0.next → e0 v' h') :
    ∀ (d k m : Nat) (t7 : AV) (h : Hp), k + d = 64 → d < m → Ext h0 h → SlN h 1 t7 ((fullW l n x k).map fun x => [I x]) h0.next → s_lagoonref4_WithL1 cf fuel e0 v (I n) (I x) m t7 (I k) h
  | d, k, m, t7, h, hk, hm, hx, hs => by
    obtain ⟨m, rfl⟩ : ∃ j, m = j + 1 := ⟨m - 1, by omega⟩
    rw [s_lagoonref4_WithL1_succ]
    unfold s_lagoonref4_WithL1B
    try dsimp only
    by_cases hkl : k < 64
    · obtain ⟨d, rfl⟩ : ∃ j, d = j + 1 := ⟨d - 1, by omega⟩
      have e1 : ((k : Int) + 1) = ((k + 1 : Nat) : Int) := by omega
      have nx := hx.next
      have hfl := fullW_len l n x k
      have step : ∀ (y : Int) (hh : Hp), y = (if (k : Int) = n then x else vat l k) → Ext h hh → hh.at h.next = some ⟨true, 1, .row [I y]⟩ → h.next < hh.next → vAppend2 1 8 false t7 (.slice h.next 0 1 true 1) hh fun t35 h => vAdd (.int .i64 k) (.int .i64 1) h fun t28 h => s_lagoonref4_WithL1 cf fuel e0 v (I n) (I x) m t35 t28 h := fun y hh hy z1 z2 z3 => by
        refine append_own (els := (fullW l n x k).map fun x => [I x]) (news := [[I y]]) (B := h0.next) (h0 := h0) (hx.trans z1) (hs.ext z1) (Nat.le_refl _) (by have := z1.next; omega) ⟨_, 0, true, 1, _, rfl, z2, rfl⟩ (by intro e he; rw [List.mem_singleton.1 he]; rfl) (by simp) (by simp; omega) ?_
        intro v' h' k1 k2 k3 k4
        (try unfold vMov); repeat' (first | refine Step.imp ?_ | (refine Way.mk (fun hp => ?_) (fun hp => ?_) <;> first | contradiction | (exfalso; omega) | skip) | refine LoadG.mkG ?_ | refine LoadsG.mkG ?_ | refine AtG.mkG ?_ | refine StoreG.mkG ?_ | refine CondG.mkG ?_ | fail); (all_goals (try dsimp only))
        rw [e1]
        refine WithL1_run hA hv n x e0 he d (k + 1) m v' h' (by omega) (by omega) k1 ?_
        rw [fullW_succ, List.map_append, ← hy]
        exact k4
      (try unfold vMov); repeat' (first | refine Step.imp ?_ | (refine Way.mk (fun hp => ?_) (fun hp => ?_) <;> first | contradiction | (exfalso; omega) | skip) | refine LoadG.mkG ?_ | refine LoadsG.mkG ?_ | refine AtG.mkG ?_ | refine StoreG.mkG ?_ | refine CondG.mkG ?_ | (refine cAt_go hA (hv.mono hx) ?_) | fail); (all_goals (try dsimp only))
      · rename_i hq
        have hkn : (k : Int) = n := by first | exact hp | exact hq
        exact step x _ (by rw [if_pos hkn]) (by repeat (first | exact Ext.refl _ | assumption | apply Ext.new | (refine Ext.put ?_ _ (by first | omega | (simp; done) | (simp; omega))))) (Hp.at_new_self _ _) (by simp [Hp.next_new])
      · rename_i hq
        have hkn : ¬ (k : Int) = n := by first | exact hp | exact hq
        exact step (vat l k) _ (by rw [if_neg hkn]) (by repeat (first | exact Ext.refl _ | assumption | apply Ext.new | (refine Ext.put ?_ _ (by first | omega | (simp; done) | (simp; omega))))) (Hp.at_new_self _ _) (by simp [Hp.next_new])
    · have hk64 : k = 64 := by omega
      subst hk64
      (try unfold vMov); repeat' (first | refine Step.imp ?_ | (refine Way.mk (fun hp => ?_) (fun hp => ?_) <;> first | contradiction | (exfalso; omega) | skip) | refine LoadG.mkG ?_ | refine LoadsG.mkG ?_ | refine AtG.mkG ?_ | refine StoreG.mkG ?_ | refine CondG.mkG ?_ | fail); (all_goals (try dsimp only))
      exact he t7 h hx hs
theorem With_run (hA : cf 26 = cAt) (hSh : cf 64 = cShortV) {v : AV} {l : List Int} (hv : VecH h v l) {n x : Int} (hn : 0 ≤ n ∧ n < 64 ∧ 0 ≤ x ∧ x ≤ 1152921504606846976) (hf : 70 < fuel) (hK : ∀ v' h', Ext h h' → VecH h' v' (withF l n x) → SlQ (fun o => h.next ≤ o) v' → K v' h') : s_lagoonref4_With cf fuel v (I n) (I x) h K := by
  obtain ⟨n1, n2, n3, n4⟩ := hn
  unfold s_lagoonref4_With
  (try unfold vMov); repeat' (first | refine Step.imp ?_ | (refine Way.mk (fun hp => ?_) (fun hp => ?_) <;> first | contradiction | (exfalso; omega) | skip) | refine LoadG.mkG ?_ | refine LoadsG.mkG ?_ | refine AtG.mkG ?_ | refine StoreG.mkG ?_ | refine CondG.mkG ?_ | fail); (all_goals (try dsimp only))
  refine WithL1_run cf fuel hA hv n x _ (fun v' h' x1 s1 => ?_) 64 0 fuel .nilslice h rfl (by omega) (Ext.refl h) (.inl ⟨rfl, by simp [fullW]⟩)
  unfold s_lagoonref4_WithE0
  have hfl := fullW_len l n x 64
  refine cShortV_go hSh s1 (by omega) ?_
  rw [hfl]
  refine hK _ h' x1 (SlN.shortV s1 (by omega) _ (by have := trimN_le (fullW l n x 64) 64; omega)) ?_
  rcases s1 with ⟨rfl, q⟩ | ⟨o, ob, rfl, h2, _⟩
  · exact SlQ.nil _
  · intro o' off n kn c e
    unfold shortV at e
    cases e
    exact h2
end
end Lg

namespace Lg
set_option linter.unusedSimpArgs false
set_option linter.unusedVariables false
set_option maxRecDepth 100000
open Go Go.Am
open Go.Proofs.Ytnhamanffojhfaa.shl
theorem allN_congr {p q : Nat → Bool} : ∀ (d k : Nat), (∀ j, k ≤ j → j < k + d → p j = q j) → allN p k d = allN q k d
  | 0, k, _ => rfl
  | d + 1, k, h => by
    unfold allN
    rw [h k (Nat.le_refl _) (by omega), allN_congr d (k + 1) fun j h1 h2 => h j (by omega) (by omega)]
theorem leqV_refl (l : List Int) : leqV l l = true := by
  unfold leqV
  rw [allN_iff]
  intro i _ _
  simp
theorem rising_ne {os : List FOp} (hr : Rising os) {i k : Nat} (hi : i < os.length) (hk : k < os.length) (hne : i ≠ k) : sameI os[i].t os[i].n os[k].t os[k].n = false := by
  have key : ∀ a b (ha : a < os.length) (hb : b < os.length), a < b → lessI os[a].t os[a].n os[b].t os[b].n = true := fun a b ha hb hab => (List.pairwise_iff_getElem.1 hr) a b ha hb hab
  have : ∀ (t n t' n' : Int), lessI t n t' n' = true → sameI t n t' n' = false ∧ sameI t' n' t n = false := by
    intro t n t' n' h
    simp only [lessI, sameI, Bool.or_eq_true, Bool.and_eq_true, decide_eq_true_eq, Bool.and_eq_false_iff, decide_eq_false_iff_not] at *
    omega
  rcases Nat.lt_or_gt_of_ne hne with h | h
  · exact (this _ _ _ _ (key i k hi hk h)).1
  · exact (this _ _ _ _ (key k i hk hi h)).2
theorem freeP_N {os : List FOp} (hr : Rising os) {i : Nat} (hi : i < os.length) : freeP os os[i] 0 os.length = freeN os i 0 os.length := by
  unfold freeP freeN
  refine allN_congr _ _ fun k _ hk => ?_
  have hk : k < os.length := by omega
  rw [List.getElem?_eq_getElem hk, List.getElem?_eq_getElem hi]
  by_cases e : k = i
  · subst e
    simp [sameI]
  · show (sameI os[i].t os[i].n os[k].t os[k].n || !behind os[i] os[k]) = (k == i || !behind os[i] os[k])
    rw [rising_ne hr hi hk (fun q => e q.symm)]
    have : (k == i) = false := by simpa using e
    rw [this]
theorem headsP_N {os : List FOp} (hr : Rising os) : ∀ (d i : Nat), i + d = os.length → headsP os i d = (headsN os i d).filterMap fun k => os[k]?
  | 0, i, _ => by simp [headsP, headsN]
  | d + 1, i, h => by
    have hi : i < os.length := by omega
    have ih := headsP_N hr d (i + 1) (by omega)
    unfold headsP headsN
    rw [List.getElem?_eq_getElem hi]
    show (if freeP os os[i] 0 os.length = true then os[i] :: headsP os (i + 1) d else headsP os (i + 1) d) = _
    rw [freeP_N hr hi, ih]
    cases freeN os i 0 os.length with
    | true =>
      rw [if_pos rfl, if_pos rfl, List.filterMap_cons, List.getElem?_eq_getElem hi]
    | false =>
      rw [if_neg (by simp), if_neg (by simp)]
/-- What insertion leaves is by rising stamps. -/
theorem insRev_rising (x : FOp) : ∀ (R : List FOp), R.Pairwise (fun a b => lessI b.t b.n a.t a.n = true) → (∀ y ∈ R, sameI y.t y.n x.t x.n = false) → (insRev ltF x R).Pairwise fun a b => lessI b.t b.n a.t a.n = true
  | [], _, _ => List.pairwise_singleton _ _
  | y :: R, h, hx => by
    have p := List.pairwise_cons.1 h
    unfold insRev
    by_cases q : ltF x y = true
    · rw [if_pos q]
      refine List.pairwise_cons.2 ⟨fun z hz => ?_, insRev_rising x R p.2 fun y hy => hx y (by simp [hy])⟩
      rcases (insRev_mem ltF x R z).1 hz with rfl | hz
      · exact q
      · exact p.1 z hz
    · rw [if_neg q]
      have hxy : lessI y.t y.n x.t x.n = true := by
        have h1 := hx y (by simp)
        simp only [ltF, lessI, sameI, Bool.or_eq_true, Bool.and_eq_true, decide_eq_true_eq, Bool.and_eq_false_iff, decide_eq_false_iff_not] at *
        omega
      refine List.pairwise_cons.2 ⟨fun z hz => ?_, h⟩
      rcases List.mem_cons.1 hz with rfl | hz
      · exact hxy
      · exact lessI_trans (p.1 z hz) hxy
theorem sortRev_spec : ∀ (os R : List FOp), R.Pairwise (fun a b => lessI b.t b.n a.t a.n = true) → Apart os → (∀ a ∈ os, ∀ b ∈ R, sameI b.t b.n a.t a.n = false) →
    (os.foldl (fun R x => insRev ltF x R) R).Pairwise (fun a b => lessI b.t b.n a.t a.n = true) ∧ (∀ x, x ∈ os.foldl (fun R x => insRev ltF x R) R ↔ x ∈ R ∨ x ∈ os) ∧ (os.foldl (fun R x => insRev ltF x R) R).length = R.length + os.length
  | [], R, h, _, _ => ⟨h, fun x => by simp, by simp⟩
  | a :: os, R, h, ha, hx => by
    have p := List.pairwise_cons.1 ha
    have ih := sortRev_spec os (insRev ltF a R) (insRev_rising a R h (hx a (by simp))) p.2 fun b hb c hc => by
      rcases (insRev_mem ltF a R c).1 hc with rfl | hc
      · exact p.1 b hb
      · exact hx b (by simp [hb]) c hc
    rw [List.foldl_cons]
    refine ⟨ih.1, fun x => ?_, by rw [ih.2.2, insRev_len, List.length_cons]; omega⟩
    rw [ih.2.1 x, insRev_mem, List.mem_cons]
    constructor
    · rintro ((h | h) | h)
      · exact .inr (.inl h)
      · exact .inl h
      · exact .inr (.inr h)
    · rintro (h | h | h)
      · exact .inl (.inr h)
      · exact .inl (.inl h)
      · exact .inr h
theorem sortedF_spec {os : List FOp} (ha : Apart os) : Rising (sortedF os) ∧ (∀ x, x ∈ sortedF os ↔ x ∈ os) ∧ (sortedF os).length = os.length := by
  have h := sortRev_spec os [] List.Pairwise.nil ha (fun a _ b hb => by cases hb)
  unfold sortedF sortRev
  refine ⟨List.pairwise_reverse.2 h.1, fun x => ?_, by rw [List.length_reverse, h.2.2]; simp⟩
  rw [List.mem_reverse, h.2.1]
  simp
theorem sorted_added {os : List FOp} (ha : Apart os) : sortedF (writes os) = addAll [] os := by
  have hw : Apart (writes os) := ha.filter _
  have h1 := sortedF_spec hw
  have h2 := addAll_spec os [] ha (fun a _ b hb => by cases hb)
  refine rising_ext _ _ h1.1 (addAll_rising os [] List.Pairwise.nil) fun x => ?_
  rw [h1.2.1, h2.1]
  simp

def cEqV : ConD := fun args h K => ∃ v l w m, args = [v, w] ∧ VecH h v l ∧ VecH h w m ∧ K (.bool (leqV l m && leqV m l)) h
theorem cEqV_same {cf : CallK} {g : FuncId} (hg : cf g = cEqV) {h : Hp} {v w : AV} {l : List Int} {K : AV → Hp → Prop} (hv : VecH h v l) (hw : VecH h w l) (hK : K (.bool true) h) : cf g [v, w] h K := by
  rw [hg]; exact ⟨v, l, w, l, rfl, hv, hw, by rw [leqV_refl]; exact hK⟩
def cIsT : ConD := fun args h K => ∃ v1 cl1 v2 cl2 ps, args = [v1, v2] ∧ Rd h 5 v1 cl1 ∧ VersR h cl1 ps ∧ Rd h 11 v2 cl2 ∧ OpsR h cl2 ps ∧ K (.bool true) h
theorem cIsT_go {cf : CallK} {g : FuncId} (hg : cf g = cIsT) {h : Hp} {v1 v2 : AV} {cl1 cl2 : List (List AV)} {ps : List FOp} {K : AV → Hp → Prop} (r1 : Rd h 5 v1 cl1) (w1 : VersR h cl1 ps) (r2 : Rd h 11 v2 cl2) (w2 : OpsR h cl2 ps) (hK : K (.bool true) h) : cf g [v1, v2] h K := by
  rw [hg]; exact ⟨v1, cl1, v2, cl2, ps, rfl, r1, w1, r2, w2, hK⟩
def cRHeads : ConD := fun args h K => ∃ v els os, args = [v] ∧ Rd h 11 v els ∧ OpsR h els os ∧ els.length ≤ 900000 ∧ ∀ v' h', Ext h h' → SlN h' 11 v' ((headsN os 0 els.length).filterMap fun i => els[i]?) h.next → K v' h'
theorem cRHeads_go {cf : CallK} {g : FuncId} (hg : cf g = cRHeads) {h : Hp} {v : AV} {els : List (List AV)} {os : List FOp} {K : AV → Hp → Prop} (hr : Rd h 11 v els) (ho : OpsR h els os) (hl : els.length ≤ 900000)
    (hK : ∀ v' h', Ext h h' → SlN h' 11 v' ((headsN os 0 els.length).filterMap fun i => els[i]?) h.next → K v' h') : cf g [v] h K := by rw [hg]; exact ⟨v, els, os, rfl, hr, ho, hl, hK⟩
def cSorted : ConD := fun args h K => ∃ v els os, args = [v] ∧ Rd h 11 v els ∧ OpsR h els os ∧ els.length ≤ 900000 ∧ ∀ v' h' (Zs : List Z), Ext h h' → SlN h' 11 v' (Zs.map Prod.fst) h.next → (∀ z ∈ Zs, OpH h z.1 z.2) → Zs.map Prod.snd = sortedF os → K v' h'
theorem cSorted_go {cf : CallK} {g : FuncId} (hg : cf g = cSorted) {h : Hp} {v : AV} {els : List (List AV)} {os : List FOp} {K : AV → Hp → Prop} (hr : Rd h 11 v els) (ho : OpsR h els os) (hl : els.length ≤ 900000)
    (hK : ∀ v' h' (Zs : List Z), Ext h h' → SlN h' 11 v' (Zs.map Prod.fst) h.next → (∀ z ∈ Zs, OpH h z.1 z.2) → Zs.map Prod.snd = sortedF os → K v' h') : cf g [v] h K := by rw [hg]; exact ⟨v, els, os, rfl, hr, ho, hl, hK⟩
def cLen : ConD := fun args h K => ∃ fo v els os, args = [.ptr fo 0] ∧ FileH h fo v els os ∧ K (I os.length) h
theorem cLen_go {cf : CallK} {g : FuncId} (hg : cf g = cLen) {h : Hp} {fo : Nat} {v : AV} {els : List (List AV)} {os : List FOp} {K : AV → Hp → Prop} (hf : FileH h fo v els os) (hK : K (I os.length) h) : cf g [.ptr fo 0] h K := by rw [hg]; exact ⟨fo, v, els, os, rfl, hf, hK⟩
def cSize : ConD := fun args h K => ∃ fo v els os, args = [.ptr fo 0] ∧ FileH h fo v els os ∧ els.length ≤ 1000000 ∧ K (I (valueP os).length) h
theorem cSize_go {cf : CallK} {g : FuncId} (hg : cf g = cSize) {h : Hp} {fo : Nat} {v : AV} {els : List (List AV)} {os : List FOp} {K : AV → Hp → Prop} (hf : FileH h fo v els os) (hl : els.length ≤ 1000000) (hK : K (I (valueP os).length) h) : cf g [.ptr fo 0] h K := by rw [hg]; exact ⟨fo, v, els, os, rfl, hf, hl, hK⟩
theorem flat5 {a b c : Int} {vs vd : AV} (fs : flatV vs = true) (fd : flatV vd = true) : ∀ v ∈ [I a, I b, I c, vs, vd], flatV v = true := by
  intro v hv
  simp only [List.mem_cons, List.not_mem_nil, or_false] at hv
  rcases hv with rfl | rfl | rfl | rfl | rfl
  · rfl
  · rfl
  · rfl
  · exact fs
  · exact fd
theorem OpsR.of_z {h : Hp} {Zs : List Z} (hz : ∀ z ∈ Zs, OpH h z.1 z.2) : OpsR h (Zs.map Prod.fst) (Zs.map Prod.snd) := ⟨by simp, fun j h1 h2 => by
  rw [List.getElem_map, List.getElem_map]
  exact hz _ (List.getElem_mem _)⟩
section
variable (cf : CallK) (fuel : Nat) {K : AV → Hp → Prop}
theorem isL1_run (hS : cf 25 = cIdB2 sameI) (hE : cf 60 = cEqV) {h : Hp} {v1 v2 : AV} {cl1 cl2 : List (List AV)} {ps : List FOp} (r1 : Rd h 5 v1 cl1) (w1 : VersR h cl1 ps) (r2 : Rd h 11 v2 cl2) (w2 : OpsR h cl2 ps) (e0 : Hp → Prop) (he : e0 h) :
    ∀ (d k m : Nat), k + d = ps.length → d < m → s_lagoonlaw17_isL1 cf fuel K e0 v1 v2 m (I k) h
  | d, k, m, hk, hm => by
    obtain ⟨m, rfl⟩ : ∃ j, m = j + 1 := ⟨m - 1, by omega⟩
    rw [s_lagoonlaw17_isL1_succ]
    unfold s_lagoonlaw17_isL1B
    have hb := r1.bound
    have l1 := w1.1
    have l2 := w2.1
    rw [r1.len]
    try dsimp only
    by_cases hkl : k < ps.length
    · obtain ⟨d, rfl⟩ : ∃ j, d = j + 1 := ⟨d - 1, by omega⟩
      have k1 : k < cl1.length := by omega
      have k2 : k < cl2.length := by omega
      obtain ⟨o1, off1, kn1, c1, a1, q1, hat1, hc1⟩ := r1.openS k1
      obtain ⟨o2, off2, kn2, c2, a2, q2, hat2, hc2⟩ := r2.openS k2
      have ck1 := hc1 k k1
      have ck2 := hc2 k k2
      obtain ⟨vs1, vd1, e1', hs1, hd1⟩ := w1.2 k k1 hkl
      obtain ⟨vd2, vs2, e2', hd2, hs2, hn2⟩ := w2.2 k k2 hkl
      rw [e1'] at ck1
      rw [e2'] at ck2
      have d1 : cellsO a1.obj 2 (off1 + k * 5 + 0) = some [I ps[k].t, I ps[k].n] := cellsO_sub 5 2 0 ck1 (by omega)
      have d2 : cellsO a2.obj 2 (off2 + k * 11 + 0) = some [I ps[k].t, I ps[k].n] := cellsO_sub 11 2 0 ck2 (by omega)
      have n2 : cellAt a1.obj (off1 + k * 5 + 2) = some (I ps[k].seq) := cellsO_nth 5 ck1 2 (by omega)
      have n3 : cellAt a1.obj (off1 + k * 5 + 3) = some vs1 := cellsO_nth 5 ck1 3 (by omega)
      have n4 : cellAt a1.obj (off1 + k * 5 + 4) = some vd1 := cellsO_nth 5 ck1 4 (by omega)
      have m2 : cellAt a2.obj (off2 + k * 11 + 2) = some (I ps[k].seq) := cellsO_nth 11 ck2 2 (by omega)
      have m9 : cellAt a2.obj (off2 + k * 11 + 9) = some vd2 := cellsO_nth 11 ck2 9 (by omega)
      have m10 : cellAt a2.obj (off2 + k * 11 + 10) = some vs2 := cellsO_nth 11 ck2 10 (by omega)
      have e3 : ((k : Int) + 1) = ((k + 1 : Nat) : Int) := by omega
      have ih := isL1_run hS hE r1 w1 r2 w2 e0 he d (k + 1) m (by omega) (by omega)
      rw [q1, q2]
      rw [q1, q2] at ih
      unfold s_lagoonlaw17_isB39
      try dsimp only
      (try unfold vMov); repeat' (first | refine Step.imp ?_ | (refine Way.mk (fun hp => ?_) (fun hp => ?_) <;> first | contradiction | (exfalso; omega) | skip) | refine LoadG.mkG ?_ | refine LoadsG.mkG ?_ | refine AtG.mkG ?_ | refine StoreG.mkG ?_ | refine CondG.mkG ?_ | (refine LoadsG.mk2 hat1 d1 (by omega) ?_) | (refine LoadsG.mk2 hat2 d2 (by omega) ?_) | (refine LoadG.mk2 hat1 n2 (by omega) ?_) | (refine LoadG.mk2 hat1 n3 (by omega) ?_) | (refine LoadG.mk2 hat1 n4 (by omega) ?_) | (refine LoadG.mk2 hat2 m2 (by omega) ?_) | (refine LoadG.mk2 hat2 m9 (by omega) ?_) | (refine LoadG.mk2 hat2 m10 (by omega) ?_) | (refine cIdB2_go hS (fun hp => ?_) (fun hp => ?_)) | (refine cEqV_same hE hs1 hs2 ?_) | (refine toStr_go hd1 ?_) | (refine toStr_go hd2 ?_) | fail); (all_goals (try dsimp only))
      · rw [e3]; exact ih
      all_goals (exfalso; simp [sameI] at hp)
    · have hd : d = 0 := by omega
      subst hd
      (try unfold vMov); repeat' (first | refine Step.imp ?_ | (refine Way.mk (fun hp => ?_) (fun hp => ?_) <;> first | contradiction | (exfalso; omega) | skip) | refine LoadG.mkG ?_ | refine LoadsG.mkG ?_ | refine AtG.mkG ?_ | refine StoreG.mkG ?_ | refine CondG.mkG ?_ | fail); (all_goals (try dsimp only))
      exact he
theorem is_run (hS : cf 25 = cIdB2 sameI) (hE : cf 60 = cEqV) {h : Hp} {v1 v2 : AV} {cl1 cl2 : List (List AV)} {ps : List FOp} (r1 : Rd h 5 v1 cl1) (w1 : VersR h cl1 ps) (r2 : Rd h 11 v2 cl2) (w2 : OpsR h cl2 ps) (hf : ps.length < fuel) (hK : K (.bool true) h) : s_lagoonlaw17_is cf fuel v1 v2 h K := by
  unfold s_lagoonlaw17_is
  rw [r1.len]
  try dsimp only
  rw [r2.len]
  try dsimp only
  have l1 := w1.1
  have l2 := w2.1
  (try unfold vMov); repeat' (first | refine Step.imp ?_ | (refine Way.mk (fun hp => ?_) (fun hp => ?_) <;> first | contradiction | (exfalso; omega) | skip) | refine LoadG.mkG ?_ | refine LoadsG.mkG ?_ | refine AtG.mkG ?_ | refine StoreG.mkG ?_ | refine CondG.mkG ?_ | fail); (all_goals (try dsimp only))
  exact isL1_run cf fuel hS hE r1 w1 r2 w2 _ (by unfold s_lagoonlaw17_isE0; exact hK) ps.length 0 fuel (by omega) hf
/-- The inner loop: Behind, by the program and by the document. -/
theorem AllL6_run (hO : cf 22 = cOf) (hB : cf 23 = cBehV) (hRB : cf 24 = cBeh) {h0 : Hp} {a : FOp} {vs vd : AV} {p o5 o6 : Nat} {N5 N6 i : Nat} (hpt : h0.at p = some ⟨true, 5, .row [I a.t, I a.n, I a.seq, vs, vd]⟩) (hpl : p < h0.next) (hva : VerH h0 [I a.t, I a.n, I a.seq, vs, vd] a)
    {e5 e6 : Ent} (h5 : h0.at o5 = some e5) (h5l : o5 < h0.next) (h6 : h0.at o6 = some e6) (h6l : o6 < h0.next) {Ls : List Z} (hN5 : N5 = Ls.length) (hLs : N5 ≤ 1000) (c5 : ∀ j (hj : j < Ls.length), cellsO e5.obj 11 (j * 11) = some Ls[j].1) (ho5 : ∀ z ∈ Ls, OpH h0 z.1 z.2) {ca : List AV} (hi : i < N6) (c6 : cellsO e6.obj 11 (i * 11) = some ca) (ho6 : OpH h0 ca a)
    (t3 t4 : AV) (ex : Hp → Prop) (hex : ∀ h', Ext h0 h' → ex h') :
    ∀ (d k m : Nat) (h : Hp), k + d = Ls.length → d < m → Ext h0 h → s_lagoonlaw17_ContentAllL6 cf fuel K ex t3 t4 (.slice o5 0 N5 false 0) (.slice o6 0 N6 false 0) (I i) (.ptr p 0) m (I k) h
  | d, k, m, h, hk, hm, hx => by
    obtain ⟨m, rfl⟩ : ∃ j, m = j + 1 := ⟨m - 1, by omega⟩
    rw [s_lagoonlaw17_ContentAllL6_succ]
    unfold s_lagoonlaw17_ContentAllL6B s_lagoonlaw17_ContentAllB8
    try dsimp only
    subst hN5
    by_cases hkl : k < Ls.length
    · obtain ⟨d, rfl⟩ : ∃ j, d = j + 1 := ⟨d - 1, by omega⟩
      have ats : ∀ h', Ext h0 h' → h'.at p = some ⟨true, 5, .row [I a.t, I a.n, I a.seq, vs, vd]⟩ ∧ h'.at o5 = some e5 ∧ h'.at o6 = some e6 := fun h' x => ⟨by rw [x.same p hpl]; exact hpt, by rw [x.same o5 h5l]; exact h5, by rw [x.same o6 h6l]; exact h6⟩
      have ck := c5 k hkl
      have hzk := ho5 Ls[k] (List.getElem_mem hkl)
      have s5 := hzk.self
      have s6 := ho6.self
      obtain ⟨vs', vd', ee, w1, w2⟩ := hva
      obtain ⟨_, _, _, e1, e2⟩ : True ∧ True ∧ True ∧ vs = vs' ∧ vd = vd' := by simpa using ee
      subst e1 e2
      have fs := w1.flat
      have fd := w2.flat
      have sv : sameV (.agg [I a.t, I a.n, I a.seq, vs, vd]) (.agg [I a.t, I a.n, I a.seq, vs, vd]) = true := sameV_agg _ (flat5 fs fd)
      have hva : VerH h0 [I a.t, I a.n, I a.seq, vs, vd] a := ⟨vs, vd, rfl, w1, w2⟩
      have e3 : ((k : Int) + 1) = ((k + 1 : Nat) : Int) := by omega
      obtain ⟨p1, p2, p3⟩ := ats h hx
      (try unfold vMov); repeat' (first | refine Step.imp ?_ | (refine Way.mk (fun hp => ?_) (fun hp => ?_) <;> first | contradiction | (exfalso; omega) | skip) | refine LoadG.mk (by simp (disch := (first | omega | (simp only [Hp.next_new, Hp.next_put]; omega))) only [Hp.at_new_self, Hp.at_put_self, Hp.at_new_lt, Hp.at_put_ne, p1] <;> rfl) (by simp only [cellAt_row', setL_cons0, setL_succ, Nat.reduceAdd, Nat.reduceMul, Nat.zero_add, Nat.add_zero, List.getElem?_cons_succ, List.getElem?_cons_zero]; rfl) ?_ | refine LoadsG.mk (by simp (disch := (first | omega | (simp only [Hp.next_new, Hp.next_put]; omega))) only [Hp.at_new_self, Hp.at_put_self, Hp.at_new_lt, Hp.at_put_ne, p1] <;> rfl) (by rfl) ?_ | refine AtG.mkG ?_ | refine StoreG.mk (by simp (disch := (first | omega | (simp only [Hp.next_new, Hp.next_put]; omega))) only [Hp.at_new_self, Hp.at_put_self, Hp.at_new_lt, Hp.at_put_ne, p1] <;> rfl) (by first | omega | (simp; done) | (simp; omega)) ?_ | refine CondG.mkG ?_ | (refine LoadsG.mk p1 (by rfl) ?_) | (refine LoadsG.mk2 p2 ck (by omega) ?_) | (refine LoadsG.mk2 p3 c6 (by omega) ?_) | fail); (all_goals (try dsimp only))
      refine cOf_go hO (hzk.mono hx) (fun cs h1 x1 w1' _ => ?_)
      have hx1 := hx.trans x1
      obtain ⟨q1, q2, q3⟩ := ats h1 hx1
      (try unfold vMov); repeat' (first | refine Step.imp ?_ | (refine Way.mk (fun hp => ?_) (fun hp => ?_) <;> first | contradiction | (exfalso; omega) | skip) | refine LoadG.mk (by simp (disch := (first | omega | (simp only [Hp.next_new, Hp.next_put]; omega))) only [Hp.at_new_self, Hp.at_put_self, Hp.at_new_lt, Hp.at_put_ne, q1] <;> rfl) (by simp only [cellAt_row', setL_cons0, setL_succ, Nat.reduceAdd, Nat.reduceMul, Nat.zero_add, Nat.add_zero, List.getElem?_cons_succ, List.getElem?_cons_zero]; rfl) ?_ | refine LoadsG.mk (by simp (disch := (first | omega | (simp only [Hp.next_new, Hp.next_put]; omega))) only [Hp.at_new_self, Hp.at_put_self, Hp.at_new_lt, Hp.at_put_ne, q1] <;> rfl) (by rfl) ?_ | refine AtG.mkG ?_ | refine StoreG.mk (by simp (disch := (first | omega | (simp only [Hp.next_new, Hp.next_put]; omega))) only [Hp.at_new_self, Hp.at_put_self, Hp.at_new_lt, Hp.at_put_ne, q1] <;> rfl) (by first | omega | (simp; done) | (simp; omega)) ?_ | refine CondG.mkG ?_ | (refine LoadsG.mk q1 (by rfl) ?_) | (refine LoadsG.mk2 q2 ck (by omega) ?_) | (refine LoadsG.mk2 q3 c6 (by omega) ?_) | (refine CondG.mk sv ?_) | (refine CondG.mk s5 ?_) | (refine CondG.mk s6 ?_) | fail); (all_goals (try dsimp only))
      refine cBehV_go hB (hva.mono hx1) w1' (fun h2 x2 => ?_)
      have hx2 := hx1.trans x2
      obtain ⟨r1, r2, r3⟩ := ats h2 hx2
      (try unfold vMov); repeat' (first | refine Step.imp ?_ | (refine Way.mk (fun hp => ?_) (fun hp => ?_) <;> first | contradiction | (exfalso; omega) | skip) | refine LoadG.mk (by simp (disch := (first | omega | (simp only [Hp.next_new, Hp.next_put]; omega))) only [Hp.at_new_self, Hp.at_put_self, Hp.at_new_lt, Hp.at_put_ne, r1] <;> rfl) (by simp only [cellAt_row', setL_cons0, setL_succ, Nat.reduceAdd, Nat.reduceMul, Nat.zero_add, Nat.add_zero, List.getElem?_cons_succ, List.getElem?_cons_zero]; rfl) ?_ | refine LoadsG.mk (by simp (disch := (first | omega | (simp only [Hp.next_new, Hp.next_put]; omega))) only [Hp.at_new_self, Hp.at_put_self, Hp.at_new_lt, Hp.at_put_ne, r1] <;> rfl) (by rfl) ?_ | refine AtG.mkG ?_ | refine StoreG.mk (by simp (disch := (first | omega | (simp only [Hp.next_new, Hp.next_put]; omega))) only [Hp.at_new_self, Hp.at_put_self, Hp.at_new_lt, Hp.at_put_ne, r1] <;> rfl) (by first | omega | (simp; done) | (simp; omega)) ?_ | refine CondG.mkG ?_ | (refine LoadsG.mk2 r2 ck (by omega) ?_) | (refine LoadsG.mk2 r3 c6 (by omega) ?_) | (refine CondG.mk s5 ?_) | (refine CondG.mk s6 ?_) | fail); (all_goals (try dsimp only))
      refine cBeh_go hRB (ho6.mono hx2) (hzk.mono hx2) (fun h3 x3 => ?_)
      (try unfold vMov); repeat' (first | refine Step.imp ?_ | (refine Way.mk (fun hp => ?_) (fun hp => ?_) <;> first | contradiction | (exfalso; omega) | skip) | refine LoadG.mkG ?_ | refine LoadsG.mkG ?_ | refine AtG.mkG ?_ | refine StoreG.mkG ?_ | refine CondG.mkG ?_ | fail); (all_goals (try dsimp only))
      rw [e3]
      exact AllL6_run hO hB hRB hpt hpl hva h5 h5l h6 h6l rfl hLs c5 ho5 hi c6 ho6 t3 t4 ex hex d (k + 1) m h3 (by omega) (by omega) (hx2.trans x3)
    · have hd : d = 0 := by omega
      subst hd
      (try unfold vMov); repeat' (first | refine Step.imp ?_ | (refine Way.mk (fun hp => ?_) (fun hp => ?_) <;> first | contradiction | (exfalso; omega) | skip) | refine LoadG.mkG ?_ | refine LoadsG.mkG ?_ | refine AtG.mkG ?_ | refine StoreG.mkG ?_ | refine CondG.mkG ?_ | fail); (all_goals (try dsimp only))
      exact hex h hx
end
end Lg

namespace Lg
set_option linter.unusedSimpArgs false
set_option linter.unusedVariables false
set_option maxRecDepth 100000
open Go Go.Am
open Go.Proofs.Ytnhamanffojhfaa.shl
theorem join_intro {Q : AV → Prop} {h : Hp} {F : (AV → Hp → Prop) → Prop} {J : AV → Hp → Prop} (h1 : ∀ j : AV → Hp → Prop, (∀ v, Q v → j v h) → F j) (h2 : ∀ v, Q v → J v h) : F J := h1 J h2
theorem found_ins {a : FOp} : ∀ {l : List FOp}, Rising l → a ∈ l → foundAt l (posS l a.t a.n) a.t a.n = true
  | [], _, h => by cases h
  | b :: l, hr, h => by
    have p := List.pairwise_cons.1 hr
    rw [found_cons]
    by_cases q : ahead a.t a.n b = true
    · rw [if_pos q]
      rcases List.mem_cons.1 h with rfl | h
      · unfold ahead at q
        rw [lessI_irrefl] at q; cases q
      · exact found_ins p.2 h
    · rw [if_neg q]
      rcases List.mem_cons.1 h with rfl | h
      · simp [sameI]
      · exact absurd (p.1 a h) q
theorem apart_take {os : List FOp} (ha : Apart os) {i : Nat} (hi : i < os.length) : ∀ b ∈ os.take i, sameI b.t b.n os[i].t os[i].n = false := by
  have h : Apart (os.take (i + 1)) := ha.sublist (List.take_sublist _ _)
  rw [take_snoc os i hi] at h
  exact fun b hb => (List.pairwise_append.1 h).2.2 b hb _ (by simp)
theorem writes_snoc (os : List FOp) (a : FOp) : writes (os ++ [a]) = if (mayO a && decide (a.kind = 4)) = true then writes os ++ [a] else writes os := by
  unfold writes
  rw [List.filter_append, List.filter_cons]
  split <;> simp
noncomputable def lfHp : Hp := ⟨E1.lf, 0⟩
theorem ext_lf (h : Hp) : Ext lfHp h := ⟨Nat.zero_le _, fun o ho => absurd ho (Nat.not_lt_zero _)⟩
theorem filterMap_z (I : List Nat) (Zs : List Z) : (I.filterMap fun i => (Zs.map Prod.fst)[i]?) = (I.filterMap fun i => Zs[i]?).map Prod.fst ∧ (I.filterMap fun i => (Zs.map Prod.snd)[i]?) = (I.filterMap fun i => Zs[i]?).map Prod.snd := by
  constructor
  · rw [List.map_filterMap]
    congr 1
    funext i
    rw [List.getElem?_map]
  · rw [List.map_filterMap]
    congr 1
    funext i
    rw [List.getElem?_map]
/-- The version at hand is the operation's own. -/
theorem VersR.one {h : Hp} {cs : List AV} {a : FOp} (hv : VerH h cs a) : VersR h [cs] [a] := ⟨rfl, fun j h1 h2 => by
  obtain rfl : j = 0 := by simpa using h1
  exact hv⟩
theorem OpsR.one {h : Hp} {cs : List AV} {a : FOp} (hv : OpH h cs a) : OpsR h [cs] [a] := ⟨rfl, fun j h1 h2 => by
  obtain rfl : j = 0 := by simpa using h1
  exact hv⟩
theorem Rd.one {h : Hp} {esz o : Nat} {kn : Bool} {c : Nat} {cs : List AV} {own : Bool} {e : Nat} (ho : h.at o = some ⟨own, e, .row cs⟩) (hl : o < h.next) (hc : cs.length = esz) (hk : kn = true → 1 ≤ c) : Rd h esz (.slice o 0 1 kn c) [cs] :=
  .inr (.inr ⟨o, 0, kn, c, _, rfl, hl, ho, ⟨by simp, hk⟩, fun j hj => by
    obtain rfl : j = 0 := by simpa using hj
    show cellsO (.row cs) esz (0 + 0 * esz) = some cs
    rw [Nat.zero_mul, cellsO_cells (Cells.row cs) esz (0 + 0) (by omega)]
    simp [← hc]⟩)
section
variable (cf : CallK) (fuel : Nat) {K : AV → Hp → Prop}
/-- Behind the comparisons: the version, and the inner loop. -/
theorem AllB9_run (hO : cf 22 = cOf) (hB : cf 23 = cBehV) (hRB : cf 24 = cBeh) (hI : cf 17 = cIsT) {h : Hp} {o5 o6 : Nat} {N5 N6 i : Nat} {e5 e6 : Ent} (h5 : h.at o5 = some e5) (h5l : o5 < h.next) (h6 : h.at o6 = some e6) (h6l : o6 < h.next) {Ls : List Z} (hN5 : N5 = Ls.length) (hLs : N5 ≤ 1000)
    (c5 : ∀ j (hj : j < Ls.length), cellsO e5.obj 11 (j * 11) = some Ls[j].1) (ho5 : ∀ z ∈ Ls, OpH h z.1 z.2) {a : FOp} {vd vs : AV} (hi : i < N6) (hN6 : N6 ≤ 1000) (c6 : cellsO e6.obj 11 (i * 11) = some [I a.t, I a.n, I a.seq, I a.kind, I a.ot, I a.on, I a.pt, I a.pn, S a.name, vd, vs])
    (ho6 : OpH h [I a.t, I a.n, I a.seq, I a.kind, I a.ot, I a.on, I a.pt, I a.pn, S a.name, vd, vs] a) (hf : 1000 < fuel) (t3 t4 : AV) (ih1 : AV → AV → Hp → Prop) (hex : ∀ h', Ext h h' → ih1 (.slice o5 0 N5 false 0) (I ((i + 1 : Nat) : Int)) h') :
    s_lagoonlaw17_ContentAllB9 cf fuel K ih1 (.slice o5 0 N5 false 0) (I i) (.slice o6 0 N6 false 0) t4 t3 h := by
  unfold s_lagoonlaw17_ContentAllB9
  have s6 := ho6.self
  (try unfold vMov); repeat' (first | refine Step.imp ?_ | (refine Way.mk (fun hp => ?_) (fun hp => ?_) <;> first | contradiction | (exfalso; omega) | skip) | refine LoadG.mkG ?_ | refine LoadsG.mkG ?_ | refine AtG.mkG ?_ | refine StoreG.mkG ?_ | refine CondG.mkG ?_ | (refine LoadsG.mk2 h6 c6 (by omega) ?_) | fail); (all_goals (try dsimp only))
  refine cOf_go hO ho6 (fun cs h1 x1 w1 _ => ?_)
  obtain ⟨vs1, vd1, rfl, w2, w3⟩ := w1
  have w1 : VerH h1 [I a.t, I a.n, I a.seq, vs1, vd1] a := ⟨vs1, vd1, rfl, w2, w3⟩
  have fs := w2.flat
  have fd := w3.flat
  have n1 := x1.next
  have sv : sameV (.agg [I a.t, I a.n, I a.seq, vs1, vd1]) (.agg [I a.t, I a.n, I a.seq, vs1, vd1]) = true := sameV_agg _ (flat5 fs fd)
  have e1 : ((i : Int) + 1) = ((i + 1 : Nat) : Int) := by omega
  have g6 : h1.at o6 = some e6 := by rw [x1.same o6 h6l]; exact h6
  have hh : ∀ hb : Hp, hb = (h1.new ⟨true, 5, .row [.int .i64 0, .int .i64 0, .int .i64 0, .nilslice, .nilslice]⟩).put h1.next (some ⟨true, 5, .row (setL [.int .i64 0, .int .i64 0, .int .i64 0, .nilslice, .nilslice] 0 [I a.t, I a.n, I a.seq, vs1, vd1])⟩) → Ext h hb ∧ Ext h1 hb ∧ hb.at h1.next = some ⟨true, 5, .row [I a.t, I a.n, I a.seq, vs1, vd1]⟩ ∧ hb.at o6 = some e6 ∧ hb.next = h1.next + 1 := fun hb q => by
    subst q
    exact ⟨(by repeat (first | exact Ext.refl _ | assumption | apply Ext.new | (refine Ext.put ?_ _ (by first | omega | (simp; done) | (simp; omega))))), (by repeat (first | exact Ext.refl _ | assumption | apply Ext.new | (refine Ext.put ?_ _ (by first | omega | (simp; done) | (simp; omega))))), by rw [Hp.at_put_self]; rfl, by rw [Hp.at_put_ne _ (by omega), Hp.at_new_lt _ (by omega)]; exact g6, rfl⟩
  (try unfold vMov); repeat' (first | refine Step.imp ?_ | (refine Way.mk (fun hp => ?_) (fun hp => ?_) <;> first | contradiction | (exfalso; omega) | skip) | refine LoadG.mkG ?_ | refine LoadsG.mkG ?_ | refine AtG.mkG ?_ | refine StoreG.mkG ?_ | refine CondG.mkG ?_ | fail); (all_goals (try dsimp only))
  obtain ⟨y1, y2, y3, y4, y5⟩ := hh _ rfl
  generalize (h1.new ⟨true, 5, .row [.int .i64 0, .int .i64 0, .int .i64 0, .nilslice, .nilslice]⟩).put h1.next (some ⟨true, 5, .row (setL [.int .i64 0, .int .i64 0, .int .i64 0, .nilslice, .nilslice] 0 [I a.t, I a.n, I a.seq, vs1, vd1])⟩) = hb at y1 y2 y3 y4 y5 ⊢
  have loop : ∀ h', Ext hb h' → s_lagoonlaw17_ContentAllL6 cf fuel K (s_lagoonlaw17_ContentAllE5 cf fuel (s_lagoonlaw17_ContentAllE2 cf fuel ih1 t3 t4 (.slice o6 0 N6 false 0) (I i)) t3 t4 (.slice o5 0 N5 false 0) (.slice o6 0 N6 false 0) (I i)) t3 t4 (.slice o5 0 N5 false 0) (.slice o6 0 N6 false 0) (I i) (.ptr h1.next 0) fuel (.int .i64 0) h' := fun h' z => by
    have yz := y1.trans z
    have nz := z.next
    exact AllL6_run cf fuel hO hB hRB (h0 := h') (a := a) (vs := vs1) (vd := vd1) (by rw [z.same _ (by omega)]; exact y3) (by omega) (w1.mono (y2.trans z)) (by rw [yz.same o5 h5l]; exact h5) (Nat.lt_of_lt_of_le h5l yz.next) (by rw [yz.same o6 h6l]; exact h6) (Nat.lt_of_lt_of_le h6l yz.next) hN5 hLs c5 (fun z' hz => (ho5 z' hz).mono yz) hi c6 (ho6.mono yz) t3 t4 _ (fun h'' z2 => by
      unfold s_lagoonlaw17_ContentAllE5 s_lagoonlaw17_ContentAllE2
      (try unfold vMov); repeat' (first | refine Step.imp ?_ | (refine Way.mk (fun hp => ?_) (fun hp => ?_) <;> first | contradiction | (exfalso; omega) | skip) | refine LoadG.mkG ?_ | refine LoadsG.mkG ?_ | refine AtG.mkG ?_ | refine StoreG.mkG ?_ | refine CondG.mkG ?_ | fail); (all_goals (try dsimp only))
      rw [e1]
      exact hex h'' (yz.trans z2)) N5 0 fuel h' (by omega) (by omega) (Ext.refl h')
  refine ⟨?_, ?_⟩
  all_goals
    (try unfold vMov); repeat' (first | refine Step.imp ?_ | (refine Way.mk (fun hp => ?_) (fun hp => ?_) <;> first | contradiction | (exfalso; omega) | skip) | refine LoadG.mk (by simp (disch := (first | omega | (simp only [Hp.next_new, Hp.next_put]; omega))) only [Hp.at_new_self, Hp.at_put_self, Hp.at_new_lt, Hp.at_put_ne, y3, y4] <;> rfl) (by simp only [cellAt_row', setL_cons0, setL_succ, Nat.reduceAdd, Nat.reduceMul, Nat.zero_add, Nat.add_zero, List.getElem?_cons_succ, List.getElem?_cons_zero]; rfl) ?_ | refine LoadsG.mk (by simp (disch := (first | omega | (simp only [Hp.next_new, Hp.next_put]; omega))) only [Hp.at_new_self, Hp.at_put_self, Hp.at_new_lt, Hp.at_put_ne, y3, y4] <;> rfl) (by rfl) ?_ | refine AtG.mkG ?_ | refine StoreG.mk (by simp (disch := (first | omega | (simp only [Hp.next_new, Hp.next_put]; omega))) only [Hp.at_new_self, Hp.at_put_self, Hp.at_new_lt, Hp.at_put_ne, y3, y4] <;> rfl) (by first | omega | (simp; done) | (simp; omega)) ?_ | refine CondG.mkG ?_ | (refine LoadsG.mk (by simp (disch := (first | omega | (simp only [Hp.next_new, Hp.next_put]; omega))) only [Hp.at_new_self, Hp.at_put_self, Hp.at_new_lt, Hp.at_put_ne, y3, y4] <;> rfl) (by rfl) ?_) | (refine LoadsG.mk2 (e := e6) (by simp (disch := (first | omega | (simp only [Hp.next_new, Hp.next_put]; omega))) only [Hp.at_new_self, Hp.at_put_self, Hp.at_new_lt, Hp.at_put_ne, y3, y4] <;> rfl) c6 (by omega) ?_) | (refine CondG.mk s6 ?_) | (refine CondG.mk sv ?_) | (refine LoadsG.mk2 y4 c6 (by omega) ?_) | fail); (all_goals (try dsimp only))
    refine cIsT_go hI (ps := [a]) (Rd.one (by first | exact Hp.at_new_self _ _ | (rw [Hp.at_new_lt _ (by simp only [Hp.next_new]; omega)]; exact Hp.at_new_self _ _)) (by simp only [Hp.next_new]; omega) rfl (by simp)) (VersR.one (w1.mono (y2.trans (by repeat (first | exact Ext.refl _ | assumption | apply Ext.new | (refine Ext.put ?_ _ (by first | omega | (simp; done) | (simp; omega)))))))) (Rd.one (by first | exact Hp.at_new_self _ _ | (rw [Hp.at_new_lt _ (by simp only [Hp.next_new]; omega)]; exact Hp.at_new_self _ _)) (by simp only [Hp.next_new]; omega) rfl (by simp)) (OpsR.one (ho6.mono (y1.trans (by repeat (first | exact Ext.refl _ | assumption | apply Ext.new | (refine Ext.put ?_ _ (by first | omega | (simp; done) | (simp; omega)))))))) ?_
    (try unfold vMov); repeat' (first | refine Step.imp ?_ | (refine Way.mk (fun hp => ?_) (fun hp => ?_) <;> first | contradiction | (exfalso; omega) | skip) | refine LoadG.mkG ?_ | refine LoadsG.mkG ?_ | refine AtG.mkG ?_ | refine StoreG.mkG ?_ | refine CondG.mkG ?_ | fail); (all_goals (try dsimp only))
    exact loop _ (by repeat (first | exact Ext.refl _ | assumption | apply Ext.new | (refine Ext.put ?_ _ (by first | omega | (simp; done) | (simp; omega)))))
end
end Lg

namespace Lg
set_option linter.unusedSimpArgs false
set_option linter.unusedVariables false
open Go Go.Am
theorem vat_range (l : List Int) (k : Int) : 0 ≤ vat l k ∧ vat l k ≤ 1152921504606846976 := by
  unfold vat
  split
  · dsimp only
    split
    · assumption
    · omega
  · omega
theorem vat_nil (k : Int) : vat [] k = 0 := by
  unfold vat
  rw [if_neg]
  simp
  omega
theorem mayV_nil : mayV [] = true := rfl
theorem trimN_zero (l : List Int) : ∀ (n k : Nat), trimN l n ≤ k → k < n → ix l k = 0
  | 0, k, _, h => by omega
  | n + 1, k, h1, h2 => by
    unfold trimN at h1
    split at h1
    · rename_i q
      by_cases e : k = n
      · subst e; exact q
      · exact trimN_zero l n k h1 (by omega)
    · omega
theorem ix_full (l : List Int) (n x : Int) {k : Nat} (hk : k < 64) : ix (fullW l n x 64) k = if (k : Int) = n then x else vat l k := by
  have hl := fullW_len l n x 64
  rw [getD_in (by omega)]
  unfold fullW
  rw [List.getElem_map, List.getElem_range]
theorem withF_len (l : List Int) (n x : Int) : (withF l n x).length = trimN (fullW l n x 64) 64 := by
  have hl := fullW_len l n x 64
  have := trimN_le (fullW l n x 64) 64
  unfold withF
  rw [List.length_take]
  omega
theorem ix_with (l : List Int) (n x : Int) {k : Nat} (hk : k < (withF l n x).length) : ix (withF l n x) k = if (k : Int) = n then x else vat l k := by
  have hl := withF_len l n x
  have hle := trimN_le (fullW l n x 64) 64
  rw [← ix_full l n x (show k < 64 by omega)]
  unfold ix withF
  rw [List.getD_eq_getElem?_getD, List.getD_eq_getElem?_getD, List.getElem?_take, if_pos (by omega)]
theorem vat_with (l : List Int) {n x : Int} (hx : 0 ≤ x ∧ x ≤ 1152921504606846976) {k : Nat} (hk : k < 64) : vat (withF l n x) k = if (k : Int) = n then x else vat l k := by
  have hl := withF_len l n x
  have hr := vat_range l k
  have hle := trimN_le (fullW l n x 64) 64
  by_cases h : k < (withF l n x).length
  · rw [vat_in ⟨by omega, by omega, by omega⟩]
    have := ix_with l n x h
    rw [getD_in h] at this
    simp only [Int.toNat_natCast]
    rw [this]
    rw [if_pos]
    split
    · exact hx
    · exact hr
  · rw [vat_out (by omega), ← ix_full l n x hk]
    exact (trimN_zero _ 64 k (by omega) hk).symm
theorem mayV_with (l : List Int) {n x : Int} (hx : 0 ≤ x ∧ x ≤ 1152921504606846976) : mayV (withF l n x) = true := by
  have hl := withF_len l n x
  have h1 := trimN_le (fullW l n x 64) 64
  have h2 := trimN_le (withF l n x) (withF l n x).length
  unfold mayV
  rw [Bool.and_eq_true, decide_eq_true_eq, allN_iff]
  refine ⟨by omega, fun i _ hi => ?_⟩
  have hr := vat_range l i
  rw [ix_with l n x (by omega)]
  split
  · exact okNum_t hx.1 hx.2
  · exact okNum_t hr.1 hr.2
theorem freeP_iff (os : List FOp) (a : FOp) : freeP os a 0 os.length = true ↔ ∀ b ∈ os, sameI a.t a.n b.t b.n = true ∨ behind a b = false := by
  unfold freeP
  rw [allN_iff]
  constructor
  · intro h b hb
    obtain ⟨j, hj, rfl⟩ := List.getElem_of_mem hb
    have := h j (Nat.zero_le _) (by omega)
    rw [List.getElem?_eq_getElem hj] at this
    simpa using this
  · intro h j _ hj
    have hj : j < os.length := by omega
    rw [List.getElem?_eq_getElem hj]
    have := h os[j] (List.getElem_mem hj)
    simpa using this
theorem headsP_filter (os : List FOp) : ∀ (d i : Nat), i + d = os.length → headsP os i d = (os.drop i).filter fun a => freeP os a 0 os.length
  | 0, i, h => by rw [List.drop_of_length_le (by omega)]; rfl
  | d + 1, i, h => by
    have hi : i < os.length := by omega
    unfold headsP
    rw [List.getElem?_eq_getElem hi, List.drop_eq_getElem_cons hi, List.filter_cons, headsP_filter os d (i + 1) (by omega)]
theorem insS_last {w : FOp} : ∀ {L : List FOp}, (∀ b ∈ L, ahead w.t w.n b = true) → insS L w = L ++ [w]
  | [], _ => rfl
  | b :: L, h => by
    rw [insS_cons, if_pos (h b (by simp)), insS_last fun c hc => h c (by simp [hc])]
    rfl
/-- One that has seen all is the one head. -/
theorem heads_all {L : List FOp} {w : FOp} (h1 : ∀ b ∈ L, behind b w = true) (h2 : ∀ b ∈ L, behind w b = false) (h3 : ∀ b ∈ L, sameI b.t b.n w.t w.n = false) : headsP (L ++ [w]) 0 (L ++ [w]).length = [w] := by
  rw [headsP_filter _ _ 0 (by omega), List.drop_zero, List.filter_append]
  have e1 : L.filter (fun a => freeP (L ++ [w]) a 0 (L ++ [w]).length) = [] := by
    rw [List.filter_eq_nil_iff]
    intro b hb
    rw [freeP_iff]
    intro q
    rcases q w (by simp) with q | q
    · rw [h3 b hb] at q; cases q
    · rw [h1 b hb] at q; cases q
  have e2 : freeP (L ++ [w]) w 0 (L ++ [w]).length = true := by
    rw [freeP_iff]
    intro b hb
    rcases List.mem_append.1 hb with hb | hb
    · exact .inr (h2 b hb)
    · rw [List.mem_singleton.1 hb]
      exact .inl (by simp [sameI])
  rw [e1, List.filter_cons, if_pos e2]
  rfl
/-- One that has seen none stands beside them. -/
theorem heads_none {L : List FOp} {w : FOp} (h1 : ∀ b ∈ L, behind b w = false) (h2 : ∀ b ∈ L, behind w b = false) : headsP (L ++ [w]) 0 (L ++ [w]).length = headsP L 0 L.length ++ [w] := by
  rw [headsP_filter _ _ 0 (by omega), headsP_filter L _ 0 (by omega), List.drop_zero, List.drop_zero, List.filter_append]
  have e1 : L.filter (fun a => freeP (L ++ [w]) a 0 (L ++ [w]).length) = L.filter fun a => freeP L a 0 L.length := by
    refine List.filter_congr fun b hb => ?_
    rw [Bool.eq_iff_iff, freeP_iff, freeP_iff]
    constructor
    · exact fun q c hc => q c (by simp [hc])
    · intro q c hc
      rcases List.mem_append.1 hc with hc | hc
      · exact q c hc
      · rw [List.mem_singleton.1 hc]
        exact .inr (h1 b hb)
  have e2 : freeP (L ++ [w]) w 0 (L ++ [w]).length = true := by
    rw [freeP_iff]
    intro b hb
    rcases List.mem_append.1 hb with hb | hb
    · exact .inr (h2 b hb)
    · rw [List.mem_singleton.1 hb]
      exact .inl (by simp [sameI])
  rw [e1, List.filter_cons, if_pos e2]
  rfl
end Lg

namespace Lg
set_option linter.unusedVariables false
set_option maxRecDepth 100000
open Go Go.Am
open Go.Proofs.Ytnhamanffojhfaa.shl
noncomputable def s_lagoonlaw17_ContentAllB39C0 (cf : CallK) (fuel : Nat) (K : AV → Hp → Prop) (ih1 : AV → AV → Hp → Prop) (t30 : AV) (t4 : AV) (t6 : AV) (t7 : AV) (t48 : AV) (t45 : AV) (t3 : AV) : AV → Hp → Prop := fun t10 h =>
vNeq t30 (.int .i64 0) h fun t60 h =>
joinG (fun g38 => grdV t60 false (vMov t4 h g38) (g38 undefV h)) fun t62 h =>
joinG (fun g37 => grdV t60 false (vMov t6 h g37) (g37 undefV h)) fun t63 h =>
joinG (fun g36 => grdV t60 false (vMov t7 h g36) (g36 undefV h)) fun t64 h =>
joinG (fun g35 => grdV t60 false (vIaddr 11 t63 t64 h g35) (g35 undefV h)) fun t65 h =>
joinG (fun g34 => grdV t60 false (vLoadA 11 t65 h g34) (g34 undefV h)) fun t66 h =>
joinG (fun g33 => grdV t60 false (cf 14 [t62, t66] h g33) (g33 undefV h)) fun t67 h =>
joinG (fun g32 => grdV t60 false (vNeq t67 (.int .i64 17) h g32) (g32 undefV h)) fun t68 h =>
vPick t60 (.bool .true) t68 h fun t69 h =>
joinG (fun g31 => grdV t69 false (vMov t4 h g31) (g31 undefV h)) fun t71 h =>
joinG (fun g30 => grdV t69 false (vMov t48 h g30) (g30 undefV h)) fun t73 h =>
joinG (fun g29 => grdV t69 false (cf 18 [t71] h g29) (g29 undefV h)) fun t72 h =>
joinG (fun g28 => grdV t69 false (cf 17 [t72, t73] h g28) (g28 undefV h)) fun t74 h =>
joinG (fun g27 => grdV t69 false (vNot t74 h g27) (g27 undefV h)) fun t75 h =>
vPick t69 (.bool .true) t75 h fun t76 h =>
joinG (fun g26 => grdV t76 false (vMov t4 h g26) (g26 undefV h)) fun t78 h =>
joinG (fun g25 => grdV t76 false (vMov t10 h g25) (g25 undefV h)) fun t81 h =>
joinG (fun g24 => grdV t76 false (vToStr t81 h g24) (g24 undefV h)) fun t82 h =>
joinG (fun g23 => grdV t76 false (cf 19 [t78] h g23) (g23 undefV h)) fun t79 h =>
joinP (fun g22 => grdV t76 false (vToStr t81 h fun c _ => gd (sameV c t82) g22) g22) (
joinG (fun g21 => grdV t76 false (vToStr t79 h g21) (g21 undefV h)) fun t80 h =>
joinG (fun g20 => grdV t76 false (vNeq t80 t82 h g20) (g20 undefV h)) fun t83 h =>
vPick t76 (.bool .true) t83 h fun t84 h =>
joinG (fun g19 => grdV t84 false (vMov t4 h g19) (g19 undefV h)) fun t86 h =>
joinG (fun g18 => grdV t84 false (vMov t10 h g18) (g18 undefV h)) fun t88 h =>
joinG (fun g17 => grdV t84 false (vLenL2 t88 h g17) (g17 undefV h)) fun t89 h =>
joinG (fun g16 => grdV t84 false (cf 20 [t86] h g16) (g16 undefV h)) fun t87 h =>
joinG (fun g15 => grdV t84 false (vNeq t87 t89 h g15) (g15 undefV h)) fun t90 h =>
vPick t84 (.bool .true) t90 h fun t91 h =>
joinG (fun g14 => grdV t91 false (vMov t4 h g14) (g14 undefV h)) fun t93 h =>
joinG (fun g13 => grdV t91 false (vMov t45 h g13) (g13 undefV h)) fun t95 h =>
joinG (fun g12 => grdV t91 false (vLenL2 t95 h g12) (g12 undefV h)) fun t96 h =>
joinG (fun g11 => grdV t91 false (cf 21 [t93] h g11) (g11 undefV h)) fun t94 h =>
joinG (fun g10 => grdV t91 false (vNeq t94 t96 h g10) (g10 undefV h)) fun t97 h =>
vPick t91 (.bool .true) t97 h fun t98 h =>
vIf t98 (
K (.bool .false) h) (
s_lagoonlaw17_ContentAllB9 cf fuel K ih1 t45 t7 t6 t4 t3 h))
theorem s_lagoonlaw17_ContentAllB39_cut (cf : CallK) (fuel : Nat) (K : AV → Hp → Prop) (ih1 : AV → AV → Hp → Prop) (t7 : AV) (t6 : AV) (t30 : AV) (t4 : AV) (t3 : AV) (t5 : AV) (h : Hp)  : s_lagoonlaw17_ContentAllB39 cf fuel K ih1 t7 t6 t30 t4 t3 t5 h = (
vIaddr 11 t6 t7 h fun t42 h =>
vLoadA 11 t42 h fun t43 h =>
vBslice 11 1 false [(.int .i64 0), (.int .i64 0), (.int .i64 0), (.int .i64 0), (.int .i64 0), (.int .i64 0), (.int .i64 0), (.int .i64 0), (.str 0 0), .nilslice, .nilslice] [(0, 11, t43)] h fun t44 h =>
vAppend2 11 128 false t5 t44 h fun t45 h =>
cf 16 [t45] h fun t47 h =>
cf 15 [t47] h fun t48 h =>
(fun (j3 : AV → Hp → Prop) =>
vLenL2 t48 h fun t50 h =>
vGtr t50 (.int .i64 0) h fun t51 h =>
vIf t51 (
vLenL2 t48 h fun t54 h =>
vArith Go.Am.subI t54 (.int .i64 1) h fun t55 h =>
vIaddr 11 t48 t55 h fun t56 h =>
vFaddr 9 t56 h fun t57 h =>
vLoad2 t57 h fun t58 h =>
j3 t58 h) (
j3 .nilslice h)) (s_lagoonlaw17_ContentAllB39C0 cf fuel K ih1 t30 t4 t6 t7 t48 t45 t3)) := by kernel_rfl
noncomputable def s_lagoonlaw17_ContentMergeE0C1 (cf : CallK) (fuel : Nat) (K : AV → Hp → Prop) (t9 : AV) (t8 : AV) (t10 : AV) (t100 : AV) (t2 : AV) (t7 : AV) : AV → Hp → Prop := fun t1 h =>
vBuild [(.int .i64 0), (.int .i64 0)] [(0, 1, (.int .i64 1152921504606846976)), (1, 1, (.int .i64 40))] h fun t109 h =>
vBuild [(.int .i64 0), (.int .i64 0)] [(0, 1, (.int .i64 1))] h fun t110 h =>
vBuild [(.int .i64 0), (.int .i64 0), (.int .i64 0), (.int .i64 0), (.int .i64 0), (.int .i64 0), (.int .i64 0), (.int .i64 0), (.str 0 0), .nilslice, .nilslice] [(0, 2, t109), (2, 1, (.int .i64 1)), (3, 1, (.int .i64 4)), (4, 2, t110), (9, 1, t1), (10, 1, t9)] h fun t113 h =>
cf 14 [t8, t113] h fun t114 h =>
vNeq t114 (.int .i64 0) h fun t116 h =>
joinG (fun g25 => grdV t116 false (vMov t8 h g25) (g25 undefV h)) fun t118 h =>
joinG (fun g24 => grdV t116 false (vMov t1 h g24) (g24 undefV h)) fun t121 h =>
joinG (fun g23 => grdV t116 false (vToStr t121 h g23) (g23 undefV h)) fun t122 h =>
joinG (fun g22 => grdV t116 false (cf 19 [t118] h g22) (g22 undefV h)) fun t119 h =>
joinP (fun g21 => grdV t116 false (vToStr t121 h fun c _ => gd (sameV c t122) g21) g21) (
joinG (fun g20 => grdV t116 false (vToStr t119 h g20) (g20 undefV h)) fun t120 h =>
joinG (fun g19 => grdV t116 false (vNeq t120 t122 h g19) (g19 undefV h)) fun t123 h =>
vPick t116 (.bool .true) t123 h fun t124 h =>
joinG (fun g18 => grdV t124 false (vMov t8 h g18) (g18 undefV h)) fun t126 h =>
joinG (fun g17 => grdV t124 false (vMov t10 h g17) (g17 undefV h)) fun t128 h =>
joinG (fun g16 => grdV t124 false (vAdd t128 (.int .i64 1) h g16) (g16 undefV h)) fun t129 h =>
joinG (fun g15 => grdV t124 false (cf 21 [t126] h g15) (g15 undefV h)) fun t127 h =>
joinG (fun g14 => grdV t124 false (vNeq t127 t129 h g14) (g14 undefV h)) fun t130 h =>
vPick t124 (.bool .true) t130 h fun t131 h =>
vIf t131 (
K (.bool .false) h) (
s_lagoonlaw17_ContentMergeB13 cf fuel K t8 t100 t2 t7 h))
noncomputable def s_lagoonlaw17_ContentMergeE0C0 (cf : CallK) (fuel : Nat) (K : AV → Hp → Prop) (t1 : AV) (t8 : AV) (t10 : AV) (t100 : AV) (t2 : AV) (t7 : AV) : AV → Hp → Prop := fun t9 h =>
(fun (j2 : AV → Hp → Prop) =>
vLenL2 t1 h fun t104 h =>
vGtr t104 (.int .i64 100) h fun t105 h =>
vIf t105 (
vSlice2 1 t1 none (some (.int .i64 100)) h fun t107 h =>
j2 t107 h) (
j2 t1 h)) (s_lagoonlaw17_ContentMergeE0C1 cf fuel K t9 t8 t10 t100 t2 t7)
theorem s_lagoonlaw17_ContentMergeE0_cut (cf : CallK) (fuel : Nat) (K : AV → Hp → Prop) (t1 : AV) (t2 : AV) (t7 : AV) (t8 : AV)  (t9 : AV) (t10 : AV) (h : Hp) : s_lagoonlaw17_ContentMergeE0 cf fuel K t1 t2 t7 t8 t9 t10 h = (
cf 18 [t8] h fun t99 h =>
vLenL2 t99 h fun t100 h =>
(fun (j1 : AV → Hp → Prop) =>
vNot t2 h fun t102 h =>
vIf t102 (
j1 .nilslice h) (
j1 t9 h)) (s_lagoonlaw17_ContentMergeE0C0 cf fuel K t1 t8 t10 t100 t2 t7)) := by kernel_rfl
end Lg

namespace Lg
set_option linter.unusedSimpArgs false
set_option linter.unusedVariables false
set_option maxRecDepth 100000
open Go Go.Am
open Go.Proofs.Ytnhamanffojhfaa.shl
theorem SlN.keep1 {h h' : Hp} {esz : Nat} {v : AV} {els : List (List AV)} {B : Nat} (hv : SlN h esz v els B) (hn : h.next ≤ h'.next) (hs : ∀ o off n kn c, v = .slice o off n kn c → h'.at o = h.at o) : SlN h' esz v els B := by
  rcases hv with hv | ⟨o, ob, h1, h2, h3, h4, h5⟩
  · exact .inl hv
  · exact .inr ⟨o, ob, h1, h2, Nat.lt_of_lt_of_le h3 hn, by rw [hs _ _ _ _ _ h1]; exact h4, h5⟩
theorem Keep2.ext {h3 h h' : Hp} {fo go : Nat} (hk : Keep2 h3 h fo go) (hx : Ext h h') : Keep2 h3 h' fo go := ⟨Nat.le_trans hk.1 hx.next, fun q q1 q2 q3 => by rw [hx.same q (Nat.lt_of_lt_of_le q1 hk.1)]; exact hk.2 q q1 q2 q3⟩
section
variable (cf : CallK) (fuel : Nat) {K : AV → Hp → Prop}
theorem AllL1_run (hA : cf 14 = cAdd) (hSo : cf 16 = cSorted) (hRH : cf 15 = cRHeads) (hH : cf 18 = cFHeads) (hV : cf 19 = cFValue) (hSz : cf 20 = cSize) (hLn : cf 21 = cLen)
    (hI : cf 17 = cIsT) (hO : cf 22 = cOf) (hB : cf 23 = cBehV) (hRB : cf 24 = cBeh) {h3 : Hp} {B fo : Nat} {v : AV} {Ms : List Z} (hfo : fo < B) (hBl : B ≤ h3.next) (hsl : SlN h3 11 v (Ms.map Prod.fst) B) (hz : ∀ z ∈ Ms, OpH h3 z.1 z.2 ∧ ∀ x ∈ z.1, SlQ (fun o => o < fo) x)
    (hm : Ms.length ≤ 1000) (hap : Apart (Ms.map Prod.snd)) (hmay : ∀ a ∈ Ms.map Prod.snd, mayO a = true) (hf : 1000 < fuel) (t3 : AV) (e0 : Hp → Prop) (he : ∀ h, e0 h) :
    ∀ (d i fm : Nat) (h : Hp) (F : Nat → Prop) (Ls : List Z) (t5 : AV), i + d = Ms.length → d < fm → Keep2 h3 h fo fo → FileS h fo (addAll [] ((Ms.map Prod.snd).take i)) F → (∀ q, F q → q = fo ∨ h3.next ≤ q) → SlN h 11 t5 (Ls.map Prod.fst) h3.next → (∀ q off n kn c, t5 = .slice q off n kn c → ¬ F q) →
      (∀ z ∈ Ls, OpH h3 z.1 z.2 ∧ ∀ x ∈ z.1, SlQ (fun o => o < fo) x) → Ls.map Prod.snd = writes ((Ms.map Prod.snd).take i) → s_lagoonlaw17_ContentAllL1 cf fuel K e0 t3 (.ptr fo 0) v fm t5 (I i) h
  | d, i, fm, h, F, Ls, t5, hk, hfm, hkeep, hF, f1, hs5, ht5, hLs, hLw => by
    obtain ⟨fm, rfl⟩ : ∃ j, fm = j + 1 := ⟨fm - 1, by omega⟩
    rw [s_lagoonlaw17_ContentAllL1_succ]
    unfold s_lagoonlaw17_ContentAllL1B
    have hln : (Ms.map Prod.fst).length = Ms.length := by simp
    have hlm : (Ms.map Prod.snd).length = Ms.length := by simp
    by_cases hi : i < Ms.length
    · obtain ⟨d, rfl⟩ : ∃ j, d = j + 1 := ⟨d - 1, by omega⟩
      have hsl0 := hsl
      rcases hsl with ⟨_, q⟩ | ⟨o6, ob, rfl, b1, b2, b3, b4, b5, b6⟩
      · have := congrArg List.length q
        rw [hln, List.length_nil] at this
        omega
      have hcl : ∀ j (hj : j < Ms.length), cellsO ob 11 (j * 11) = some Ms[j].1 := fun j hj => by
        obtain ⟨ob', q1, q2, q3⟩ := LA.at (h := h3) (o := o6) ⟨b2, ob, b3, b4, b5⟩
        rw [b3] at q1
        cases q1
        have := q3 j (by rw [hln]; exact hj)
        rw [List.getElem_map] at this
        exact this
      have kat : ∀ h', Keep2 h3 h' fo fo → h'.at o6 = some ⟨true, 11, ob⟩ := fun h' hk' => by rw [hk'.2 o6 b2 (by omega) (by omega)]; exact b3
      have kop : ∀ (z : Z), OpH h3 z.1 z.2 ∧ (∀ x ∈ z.1, SlQ (fun o => o < fo) x) → ∀ h', Keep2 h3 h' fo fo → OpH h' z.1 z.2 := fun z hz' h' hk' =>
        hz'.1.same hk'.1 hz'.2 fun q hq ql => hk'.2 q ql (by omega) (by omega)
      have e1 : ((i : Int) + 1) = ((i + 1 : Nat) : Int) := by omega
      have hzi := hz Ms[i] (List.getElem_mem hi)
      have ci := hcl i hi
      have hmi : mayO Ms[i].2 = true := hmay _ (List.mem_map_of_mem (List.getElem_mem hi))
      have hgi : (Ms.map Prod.snd)[i]'(by omega) = Ms[i].2 := List.getElem_map ..
      have hapt := apart_take hap (i := i) (by omega)
      have htk := take_snoc (Ms.map Prod.snd) i (by omega)
      rw [hgi] at hapt htk
      have hsp := addAll_spec ((Ms.map Prod.snd).take i) [] (hap.sublist (List.take_sublist _ _)) (fun _ _ b hb => by cases hb)
      have hLr := addAll_rising ((Ms.map Prod.snd).take i) [] List.Pairwise.nil
      have hLl := addAll_len ((Ms.map Prod.snd).take i) []
      have hsn := addAll_snoc [] ((Ms.map Prod.snd).take i) Ms[i].2
      have hwn := writes_snoc ((Ms.map Prod.snd).take i) Ms[i].2
      rw [← htk] at hsn hwn
      have hsi := sorted_added (os := (Ms.map Prod.snd).take (i + 1)) (hap.sublist (List.take_sublist _ _))
      have hsp' := addAll_spec ((Ms.map Prod.snd).take (i + 1)) [] (hap.sublist (List.take_sublist _ _)) (fun _ _ b hb => by cases hb)
      have lt := List.length_take_le i (Ms.map Prod.snd)
      simp only [List.length_nil, List.length_take] at hLl
      have hfree : ∀ b ∈ addAll [] ((Ms.map Prod.snd).take i), sameI b.t b.n Ms[i].2.t Ms[i].2.n = false := fun b hb => by
        rcases (hsp.1 b).1 hb with q | q
        · cases q
        · exact hapt b (List.mem_filter.1 q).1
      have hadd := addR_apart hfree
      have next : ∀ (h' : Hp) (F' : Nat → Prop) (Ls' : List Z) (t5' : AV), Keep2 h3 h' fo fo → FileS h' fo (addAll [] ((Ms.map Prod.snd).take (i + 1))) F' → (∀ q, F' q → q = fo ∨ h3.next ≤ q) → SlN h' 11 t5' (Ls'.map Prod.fst) h3.next → (∀ q off n kn c, t5' = .slice q off n kn c → ¬ F' q) →
          (∀ z ∈ Ls', OpH h3 z.1 z.2 ∧ ∀ x ∈ z.1, SlQ (fun o => o < fo) x) → Ls'.map Prod.snd = writes ((Ms.map Prod.snd).take (i + 1)) → s_lagoonlaw17_ContentAllL1 cf fuel K e0 t3 (.ptr fo 0) (.slice o6 0 (Ms.map Prod.fst).length false 0) fm t5' (I ((i + 1 : Nat) : Int)) h' := fun h' F' Ls' t5' r1 r2 r3 r4 r5 r6 r7 =>
        AllL1_run hA hSo hRH hH hV hSz hLn hI hO hB hRB hfo hBl hsl0 hz hm hap hmay hf t3 e0 he d (i + 1) fm h' F' Ls' t5' (by omega) (by omega) r1 r2 r3 r4 r5 r6 r7
      rw [hln] at next ⊢
      generalize hL : addAll [] ((Ms.map Prod.snd).take i) = L at hF hsp hLr hLl hsn hfree hadd
      generalize hL1 : addAll [] ((Ms.map Prod.snd).take (i + 1)) = L1 at hsn hsi hsp' next
      obtain ⟨⟨ca, a⟩, hza⟩ : ∃ z : Z, Ms[i] = z := ⟨_, rfl⟩
      rw [hza] at hzi ci hmi hapt hsn hwn hfree hadd
      dsimp only at hzi ci hmi hapt hsn hwn hfree hadd
      obtain ⟨vd, vs, hcs, -⟩ := hzi.1
      have hcs2 := hcs
      rw [opFlat] at hcs2
      subst hcs2
      have kpi : ∀ h', Keep2 h3 h' fo fo → OpH h' [I a.t, I a.n, I a.seq, I a.kind, I a.ot, I a.on, I a.pt, I a.pn, S a.name, vd, vs] a := fun h' hk' => kop ([I a.t, I a.n, I a.seq, I a.kind, I a.ot, I a.on, I a.pt, I a.pn, S a.name, vd, vs], a) hzi h' hk'
      have c3 : cellAt ob (i * 11 + 3) = some (I a.kind) := cellsO_nth 11 ci 3 (by omega)
      try dsimp only
      have hat := kat h hkeep
      (try unfold vMov); repeat' (first | refine Step.imp ?_ | (refine Way.mk (fun hp => ?_) (fun hp => ?_) <;> first | contradiction | (exfalso; omega) | skip) | refine LoadG.mkG ?_ | refine LoadsG.mkG ?_ | refine AtG.mkG ?_ | refine StoreG.mkG ?_ | refine CondG.mkG ?_ | (refine LoadsG.mk2 hat ci (by omega) ?_) | fail); (all_goals (try dsimp only))
      refine cAdd_go hA hF (by omega) (kpi h hkeep) (fun h1 F1 y1 y2 y3 y4 _ => ?_)
      have k1 : Keep2 h3 h1 fo fo := ⟨Nat.le_trans hkeep.1 y1, fun q q1 q2 q3 => by
        rw [y2 q (Nat.lt_of_lt_of_le q1 hkeep.1) (fun hq => by rcases f1 q hq with r | r <;> omega)]
        exact hkeep.2 q q1 q2 q3⟩
      have f2 : ∀ q, F1 q → q = fo ∨ h3.next ≤ q := fun q hq => by
        rcases y4 q hq with r | r
        · exact f1 q r
        · exact .inr (Nat.le_trans hkeep.1 r)
      have h5lt : ∀ o off n kn c, t5 = .slice o off n kn c → o < h.next := fun o off n kn c e => SlN.lt hs5 e
      have hs1 : SlN h1 11 t5 (Ls.map Prod.fst) h3.next := SlN.keep1 hs5 y1 fun o off n kn c e => y2 o (h5lt _ _ _ _ _ e) (ht5 _ _ _ _ _ e)
      have nF1 : ∀ q off n kn c, t5 = .slice q off n kn c → ¬ F1 q := fun q off n kn c e hq => by
        rcases y4 q hq with r | r
        · exact ht5 _ _ _ _ _ e r
        · have := h5lt _ _ _ _ _ e
          omega
      have hat1 := kat h1 k1
      by_cases hk4 : a.kind = 4
      · rw [if_pos (show (mayO a && decide (a.kind = 4)) = true by rw [hmi, decide_eq_true hk4]; rfl)] at hadd hwn
        rw [hadd] at y3 hsn ⊢
        dsimp only at y3 hsn ⊢
        rw [← hsn] at y3
        (try unfold vMov); repeat' (first | refine Step.imp ?_ | (refine Way.mk (fun hp => ?_) (fun hp => ?_) <;> first | contradiction | (exfalso; omega) | skip) | refine LoadG.mkG ?_ | refine LoadsG.mkG ?_ | refine AtG.mkG ?_ | refine StoreG.mkG ?_ | refine CondG.mkG ?_ | (refine LoadG.mk2 hat1 c3 (by omega) ?_) | fail); (all_goals (try dsimp only))
        rw [s_lagoonlaw17_ContentAllB39_cut]
        (try unfold vMov); repeat' (first | refine Step.imp ?_ | (refine Way.mk (fun hp => ?_) (fun hp => ?_) <;> first | contradiction | (exfalso; omega) | skip) | refine LoadG.mkG ?_ | refine LoadsG.mkG ?_ | refine AtG.mkG ?_ | refine StoreG.mkG ?_ | refine CondG.mkG ?_ | (refine LoadsG.mk2 hat1 ci (by omega) ?_) | fail)
        refine append_own2 (els := Ls.map Prod.fst) (news := [[I a.t, I a.n, I a.seq, I a.kind, I a.ot, I a.on, I a.pt, I a.pn, S a.name, vd, vs]]) (B := 0) (h0 := lfHp) (ext_lf _) ((hs1.ext (by repeat (first | exact Ext.refl _ | assumption | apply Ext.new | (refine Ext.put ?_ _ (by first | omega | (simp; done) | (simp; omega)))))).weak (Nat.zero_le _)) (Nat.zero_le _) (Nat.zero_le _) ⟨_, 0, true, 1, _, rfl, Hp.at_new_self _ _, rfl⟩ (by intro x hx1; rw [List.mem_singleton.1 hx1]; rfl) (by simp) (by
          have q1 : Ls.length = (writes ((Ms.map Prod.snd).take i)).length := by rw [← hLw]; simp
          have q2 := hsp.2
          simp only [List.length_nil] at q2
          simp only [List.length_map, List.length_singleton]
          omega) (fun v5 h2 w1 w2 w3 w4 => ?_)
        simp only [Hp.next_new] at w2 w4
        have w3' : ∀ q, q < h1.next → (∀ off n kn c, t5 ≠ .slice q off n kn c) → h2.at q = h1.at q := fun q q1 q2 => by
          rw [w3 q (by simp only [Hp.next_new]; omega) q2, Hp.at_new_lt _ q1]
        have k2 : Keep2 h3 h2 fo fo := ⟨by have := k1.1; omega, fun q q1 q2 q3 => by
          rw [w3' q (Nat.lt_of_lt_of_le q1 k1.1) (fun off n kn c e => by have := SlN.ge hs5 e; omega)]
          exact k1.2 q q1 q2 q3⟩
        have hF2 : FileS h2 fo L1 F1 := y3.keep (by omega) fun q hq => w3' q (y3.lt hq) fun off n kn c e => nF1 _ _ _ _ _ e hq
        have hLz : ∀ z ∈ Ls ++ [(([I a.t, I a.n, I a.seq, I a.kind, I a.ot, I a.on, I a.pt, I a.pn, S a.name, vd, vs], a) : Z)], OpH h3 z.1 z.2 ∧ ∀ x ∈ z.1, SlQ (fun o => o < fo) x := fun z hz' => by
          rcases List.mem_append.1 hz' with q | q
          · exact hLs z q
          · rw [List.mem_singleton.1 q]
            exact hzi
        have hLw' : (Ls ++ [(([I a.t, I a.n, I a.seq, I a.kind, I a.ot, I a.on, I a.pt, I a.pn, S a.name, vd, vs], a) : Z)]).map Prod.snd = writes ((Ms.map Prod.snd).take (i + 1)) := by
          rw [hwn, List.map_append, hLw]
          rfl
        have w4' : SlN h2 11 v5 ((Ls ++ [(([I a.t, I a.n, I a.seq, I a.kind, I a.ot, I a.on, I a.pt, I a.pn, S a.name, vd, vs], a) : Z)]).map Prod.fst) (h1.next + 1) := by simpa using w4
        generalize Ls ++ [(([I a.t, I a.n, I a.seq, I a.kind, I a.ot, I a.on, I a.pt, I a.pn, S a.name, vd, vs], a) : Z)] = Ns at hLz hLw' w4'
        have hNl : Ns.length = L1.length := by
          have := congrArg List.length hLw'
          rw [List.length_map] at this
          rw [this, hsp'.2]
          simp
        have hL1l : L1.length ≤ 1000 := by
          rw [← hL1]
          have := addAll_len ((Ms.map Prod.snd).take (i + 1)) []
          simp only [List.length_nil, List.length_take] at this
          omega
        have hmem1 : a ∈ L1 := by
          rw [hsn]
          exact (insS_mem a L a).2 (.inl rfl)
        have hr1 : Rising L1 := by
          rw [← hL1]
          exact addAll_rising _ _ List.Pairwise.nil
        have h17 : addR L1 a = (17, L1) := by
          unfold addR
          rw [if_pos (show (mayO a && decide (a.kind = 4)) = true by rw [hmi, decide_eq_true hk4]; rfl), if_pos (found_ins hr1 hmem1)]
        rw [← hLw'] at hsi
        have opN : ∀ h', Keep2 h3 h' fo fo → ∀ z ∈ Ns, OpH h' z.1 z.2 := fun h' hk' z hz' => kop z (hLz z hz') h' hk'
        have w5 := w4'
        rcases w5 with ⟨_, q⟩ | ⟨o5, ob5, rfl, u1, u2, u3, u4, u5, u6⟩
        · have : Ns = [] := by simpa using q
          rw [this] at hNl
          have := List.length_pos_of_mem hmem1
          simp at hNl
          omega
        have hNf : (Ns.map Prod.fst).length = Ns.length := by simp
        rw [hNf]
        rw [hNf] at w4'
        have c5 : ∀ j (hj : j < Ns.length), cellsO ob5 11 (j * 11) = some Ns[j].1 := fun j hj => by
          obtain ⟨ob', q1, q2, q3⟩ := LA.at (h := h2) (o := o5) ⟨u2, ob5, u3, u4, u5⟩
          rw [u3] at q1
          cases q1
          have := q3 j (by rw [hNf]; exact hj)
          rw [List.getElem_map] at this
          exact this
        try dsimp only
        refine cSorted_go hSo (SlN.rd w4' (by rw [hNf]; omega)) (OpsR.of_z (opN h2 k2)) (by rw [hNf]; omega) (fun vS h4 Zs x4 s4 z4 e4 => ?_)
        rw [hsi] at e4
        have hZl : Zs.length = L1.length := by rw [← e4]; simp
        have hZf : (Zs.map Prod.fst).length = Zs.length := by simp
        refine cRHeads_go hRH (SlN.rd s4 (by rw [hZf]; omega)) (OpsR.of_z fun z hz' => (z4 z hz').mono x4) (by rw [hZf]; omega) (fun vH h5 x5 s5 => ?_)
        rw [hZf, e4] at s5
        have hfz := filterMap_z (headsN L1 0 Zs.length) Zs
        rw [hfz.1] at s5
        have hHP : headsP L1 0 L1.length = ((headsN L1 0 Zs.length).filterMap fun i => Zs[i]?).map Prod.snd := by
          rw [headsP_N hr1 L1.length 0 (by omega), ← hfz.2, e4, hZl]
        have hHz : ∀ z ∈ (headsN L1 0 Zs.length).filterMap fun i => Zs[i]?, OpH h5 z.1 z.2 := fun z hz' => by
          obtain ⟨j, -, hj⟩ := List.mem_filterMap.1 hz'
          exact ((z4 z (List.mem_of_getElem? hj)).mono x4).mono x5
        generalize ((headsN L1 0 Zs.length).filterMap fun i => Zs[i]?) = HZ at s5 hHP hHz
        have hHl : HZ.length ≤ L1.length := by
          have := headsP_len L1 0 L1.length
          rw [hHP, List.length_map] at this
          exact this
        have hHf : (HZ.map Prod.fst).length = HZ.length := by simp
        have x25 := x4.trans x5
        generalize hJ : s_lagoonlaw17_ContentAllB39C0 cf fuel K _ _ _ _ _ _ _ _ = J3
        have rest : ∀ t10, ByH h5 t10 (valueP L1) → J3 t10 h5 := by
          intro t10 ht10
          rw [← hJ]
          unfold s_lagoonlaw17_ContentAllB39C0
          have k5 := k2.ext x25
          have hat5 := kat h5 k5
          (try unfold vMov); repeat' (first | refine Step.imp ?_ | (refine Way.mk (fun hp => ?_) (fun hp => ?_) <;> first | contradiction | (exfalso; omega) | skip) | refine LoadG.mkG ?_ | refine LoadsG.mkG ?_ | refine AtG.mkG ?_ | refine StoreG.mkG ?_ | refine CondG.mkG ?_ | (refine LoadsG.mk2 hat5 ci (by omega) ?_) | fail); (all_goals (try dsimp only))
          refine cAdd_go hA (hF2.ext x25) (by omega) (kpi h5 k5) (fun h6 F2 r1 r2 r3 r4 r5 => ?_)
          rw [h17] at r3 r5 ⊢
          have x6 : Ext h5 h6 := r5 (show (17 : Int) ≠ 0 by decide)
          dsimp only at r3
          obtain ⟨vf, ef, hFH, lf⟩ := r3.file (by omega)
          (try unfold vMov); repeat' (first | refine Step.imp ?_ | (refine Way.mk (fun hp => ?_) (fun hp => ?_) <;> first | contradiction | (exfalso; omega) | skip) | refine LoadG.mkG ?_ | refine LoadsG.mkG ?_ | refine AtG.mkG ?_ | refine StoreG.mkG ?_ | refine CondG.mkG ?_ | fail); (all_goals (try dsimp only))
          refine cFHeads_go hH hFH (by omega) (fun vC h7 cl x7 kk7 => ?_)
          rw [lf] at kk7
          obtain ⟨M1, a1, a2, a3, a4, a5⟩ := kk7
          have l5 := a5.1
          have q1 := headsP_len L1 0 L1.length
          refine cIsT_go hI (ps := headsP L1 0 L1.length) (SlN.rd a3 (by omega)) a5 (SlN.rd (s5.ext (x6.trans x7)) (by rw [hHf]; omega)) (by rw [hHP]; exact OpsR.of_z fun z hz' => (hHz z hz').mono (x6.trans x7)) ?_
          have x57 := x6.trans x7
          have ht7 := ht10.mono x57
          obtain ⟨wf, uf, hFH', lf'⟩ := (r3.ext x7).file (by omega)
          (try unfold vMov); repeat' (first | refine Step.imp ?_ | (refine Way.mk (fun hp => ?_) (fun hp => ?_) <;> first | contradiction | (exfalso; omega) | skip) | refine LoadG.mkG ?_ | refine LoadsG.mkG ?_ | refine AtG.mkG ?_ | refine StoreG.mkG ?_ | refine CondG.mkG ?_ | (refine toStr_go ht7 ?_) | fail); (all_goals (try dsimp only))
          refine cFValue_go hV hFH' (by omega) (fun w8 h8 x8 z8 => ?_)
          obtain ⟨wg, ug, hFH8, lf8⟩ := ((r3.ext x7).ext x8).file (by omega)
          have ht8 := ht7.mono x8
          (try unfold vMov); repeat' (first | refine Step.imp ?_ | (refine Way.mk (fun hp => ?_) (fun hp => ?_) <;> first | contradiction | (exfalso; omega) | skip) | refine LoadG.mkG ?_ | refine LoadsG.mkG ?_ | refine AtG.mkG ?_ | refine StoreG.mkG ?_ | refine CondG.mkG ?_ | (refine toStr_go ht8 ?_) | (refine toStr_go z8 ?_) | (refine len_by ht8 ?_) | (refine cSize_go hSz hFH8 (by omega) ?_) | (refine cLen_go hLn hFH8 ?_) | fail); (all_goals (try dsimp only))
          have x28 := x25.trans (x57.trans x8)
          refine AllB9_run cf fuel hO hB hRB hI (h := h8) (a := a) (vd := vd) (vs := vs) (Ls := Ns) (e5 := ⟨true, 11, ob5⟩) (e6 := ⟨true, 11, ob⟩) (by rw [x28.same o5 u2]; exact u3) (Nat.lt_of_lt_of_le u2 x28.next) (kat h8 (k2.ext x28)) (Nat.lt_of_lt_of_le b2 (k2.ext x28).1) rfl (by omega) c5 (opN h8 (k2.ext x28)) hi hm ci (kpi h8 (k2.ext x28)) hf _ _ _ (fun h9 x9 => ?_)
          have x29 := x28.trans x9
          refine next h9 F2 Ns _ (k2.ext x29) (((r3.ext x7).ext x8).ext x9) (fun q hq => ?_) ((w4'.ext x29).weak (by have := k1.1; omega)) (fun q off n kn c e hq => ?_) hLz hLw'
          · rcases r4 q hq with r | r
            · exact f2 q r
            · exact .inr (Nat.le_trans k5.1 r)
          · cases e
            rcases r4 _ hq with r | r
            · have := y3.lt r
              omega
            · have := x25.next
              omega
        by_cases hH0 : HZ = []
        · subst hH0
          have hv : valueP L1 = [] := by unfold valueP; rw [hHP]; rfl
          (try unfold vMov); repeat' (first | refine Step.imp ?_ | (refine Way.mk (fun hp => ?_) (fun hp => ?_) <;> first | contradiction | (exfalso; omega) | skip) | refine LoadG.mkG ?_ | refine LoadsG.mkG ?_ | refine AtG.mkG ?_ | refine StoreG.mkG ?_ | refine CondG.mkG ?_ | (refine len_sl s5 ?_) | fail); (all_goals (try dsimp only))
          · exact rest _ (by rw [hv]; exact ByH.nil _)
        · have hpos : 0 < HZ.length := List.length_pos_iff.2 hH0
          have hl : HZ.length - 1 < HZ.length := by omega
          have hv : valueP L1 = HZ[HZ.length - 1].2.data := by
            unfold valueP
            rw [hHP, List.getLast?_eq_getElem?, List.getElem?_map, List.length_map, List.getElem?_eq_getElem hl]
            rfl
          obtain ⟨oH, off, kn, c, eH, rfl, hatH, hcH⟩ := (SlN.rd s5 (by rw [hHf]; omega)).openS (i := HZ.length - 1) (by rw [hHf]; exact hl)
          have cl := hcH (HZ.length - 1) (by rw [hHf]; exact hl)
          rw [List.getElem_map] at cl
          obtain ⟨vdl, vsl, hcl', hdl, -, -⟩ := hHz HZ[HZ.length - 1] (List.getElem_mem hl)
          rw [hcl'] at cl
          have c9 : cellAt eH.obj (off + (HZ.length - 1) * 11 + 9) = some vdl := cellsO_nth 11 cl 9 (by omega)
          rw [hHf]
          (try unfold vMov); repeat' (first | refine Step.imp ?_ | (refine Way.mk (fun hp => ?_) (fun hp => ?_) <;> first | contradiction | (exfalso; omega) | skip) | refine LoadG.mkG ?_ | refine LoadsG.mkG ?_ | refine AtG.mkG ?_ | refine StoreG.mkG ?_ | refine CondG.mkG ?_ | (refine LoadG.mk2 hatH c9 (by omega) ?_) | fail); (all_goals (try dsimp only))
          exact rest _ (by rw [hv]; exact hdl)
      · rw [if_neg (show ¬ (mayO a && decide (a.kind = 4)) = true by rw [decide_eq_false hk4]; simp)] at hadd hwn
        rw [hadd] at y3 hsn ⊢
        dsimp only at y3 hsn ⊢
        (try unfold vMov); repeat' (first | refine Step.imp ?_ | (refine Way.mk (fun hp => ?_) (fun hp => ?_) <;> first | contradiction | (exfalso; omega) | skip) | refine LoadG.mkG ?_ | refine LoadsG.mkG ?_ | refine AtG.mkG ?_ | refine StoreG.mkG ?_ | refine CondG.mkG ?_ | (refine LoadG.mk2 hat1 c3 (by omega) ?_) | fail); (all_goals (try dsimp only))
        unfold s_lagoonlaw17_ContentAllE2
        (try unfold vMov); repeat' (first | refine Step.imp ?_ | (refine Way.mk (fun hp => ?_) (fun hp => ?_) <;> first | contradiction | (exfalso; omega) | skip) | refine LoadG.mkG ?_ | refine LoadsG.mkG ?_ | refine AtG.mkG ?_ | refine StoreG.mkG ?_ | refine CondG.mkG ?_ | fail); (all_goals (try dsimp only))
        rw [e1]
        exact next h1 F1 Ls t5 k1 (by rw [hsn]; exact y3) f2 hs1 nF1 hLs (by rw [hwn]; exact hLw)
    · have hd : d = 0 := by omega
      subst hd
      try dsimp only
      (try unfold vMov); repeat' (first | refine Step.imp ?_ | (refine Way.mk (fun hp => ?_) (fun hp => ?_) <;> first | contradiction | (exfalso; omega) | skip) | refine LoadG.mkG ?_ | refine LoadsG.mkG ?_ | refine AtG.mkG ?_ | refine StoreG.mkG ?_ | refine CondG.mkG ?_ | (refine len_sl hsl ?_) | fail); (all_goals (try dsimp only))
      exact he h
theorem All_run (hb : cf 11 = trueC) (hN : cf 12 = cNew) (hSm : cf 13 = cSome) (hA : cf 14 = cAdd) (hSo : cf 16 = cSorted) (hRH : cf 15 = cRHeads) (hH : cf 18 = cFHeads) (hV : cf 19 = cFValue) (hSz : cf 20 = cSize) (hLn : cf 21 = cLen)
    (hI : cf 17 = cIsT) (hO : cf 22 = cOf) (hB : cf 23 = cBehV) (hRB : cf 24 = cBeh)
    {h0 : Hp} {v : AV} {els : List (List AV)} {os : List FOp} (hr : Rd h0 11 v els) (ho : OpsR h0 els os) (hf : 1000 < fuel) (hK : ∀ h', K (.bool true) h') : s_lagoonlaw17_ContentAll cf fuel v h0 K := by
  unfold s_lagoonlaw17_ContentAll
  refine trueC_go hb ?_
  refine cNew_go hN (fun fo h1 x1 f1 f2 f3 => ?_)
  have n1 := x1.next
  have hQ : ∀ cs ∈ els, ∀ x ∈ cs, SlQ (fun o => o < h0.next) x := fun cs hcs => by
    obtain ⟨j, hj, rfl⟩ := List.getElem_of_mem hcs
    exact (ho.2 j hj (by rw [← ho.1]; exact hj)).old
  (try unfold vMov); repeat' (first | refine Step.imp ?_ | (refine Way.mk (fun hp => ?_) (fun hp => ?_) <;> first | contradiction | (exfalso; omega) | skip) | refine LoadG.mkG ?_ | refine LoadsG.mkG ?_ | refine AtG.mkG ?_ | refine StoreG.mkG ?_ | refine CondG.mkG ?_ | fail); (all_goals (try dsimp only))
  refine cSome_go hSm 20 rfl (hr.mono x1) (ho.mono x1) hQ (by omega) (fun v' h3 Zs x3 s1 s2 s3 => ?_)
  have n3 := x3.next
  have sp := someO_spec os 20
  rw [← s3] at sp
  have hlen : Zs.length ≤ 20 := by have := sp.2.2; simpa using this
  try dsimp only
  refine AllL1_run cf fuel hA hSo hRH hH hV hSz hLn hI hO hB hRB (h3 := h3) (B := h1.next) (fo := fo) (by omega) n3 s1 (fun z hz => ⟨(s2 z hz).1.mono x3, fun x hx => ((s2 z hz).2 x hx).mono fun o q => by omega⟩) (by omega) sp.1 sp.2.1 hf _ _ (fun h => by unfold s_lagoonlaw17_ContentAllE0; exact hK h) Zs.length 0 fuel h3 (fun q => q = fo) [] .nilslice (by omega) (by omega) ⟨Nat.le_refl _, fun q _ _ _ => rfl⟩
    (FileS.new (by omega) (by rw [x3.same fo f2]; exact f3)) (fun q hq => .inl hq) (.inl ⟨rfl, rfl⟩) (fun q off n kn c e => by cases e) (fun z hz => by cases hz) rfl
end
end Lg

namespace Lg
set_option linter.unusedSimpArgs false
set_option linter.unusedVariables false
set_option maxRecDepth 100000
open Go Go.Am
open Go.Proofs.Ytnhamanffojhfaa.shl
theorem mayO_parts {o : FOp} (h : mayO o = true) : (1 ≤ o.t ∧ o.t ≤ 1152921504606846976 ∧ 0 ≤ o.n ∧ o.n < 64) ∧ 1 ≤ o.seq ∧ o.seq ≤ 1152921504606846976 ∧ seenO o = true := by
  unfold mayO validB at h
  simp only [Bool.and_eq_true, decide_eq_true_eq] at h
  obtain ⟨⟨a, b, c, d⟩, e, f, g, -⟩ := h
  exact ⟨⟨a, b, c, d⟩, e, f, g⟩
/-- What the loop keeps. -/
structure InvM (L : List FOp) (seen : List Int) : Prop where
  each : ∀ b ∈ L, b.t < 1152921504606846976 ∧ b.n ≠ 40 ∧ vat b.seen 40 = 0 ∧ mayO b = true ∧ b.seq ≤ vat seen b.n
  may : mayV seen = true
  none : vat seen 40 = 0
theorem vat_with' (l : List Int) {n x : Int} (hx : 0 ≤ x ∧ x ≤ 1152921504606846976) {k : Int} (h0 : 0 ≤ k) (hk : k < 64) : vat (withF l n x) k = if k = n then x else vat l k := by
  obtain ⟨m, rfl⟩ := Int.eq_ofNat_of_zero_le h0
  exact vat_with l hx (by omega)
theorem InvM.add {L : List FOp} {seen : List Int} (h : InvM L seen) {a : FOp} (ht : a.t < 1152921504606846976) (hn : a.n ≠ 40) (hv : vat a.seen 40 = 0) (hm : mayO a = true) : InvM (insS L a) (if vat seen a.n < a.seq then withF seen a.n a.seq else seen) := by
  obtain ⟨⟨m1, m2, m3, m4⟩, m5, m6, m7⟩ := mayO_parts hm
  split
  · rename_i q
    refine ⟨fun b hb => ?_, mayV_with _ ⟨by omega, m6⟩, by rw [vat_with' seen ⟨by omega, m6⟩ (by omega) (by omega), if_neg (fun e => hn e.symm)]; exact h.none⟩
    rcases (insS_mem a L b).1 hb with rfl | hb
    · exact ⟨ht, hn, hv, hm, by rw [vat_with' seen ⟨by omega, m6⟩ m3 m4, if_pos rfl]; omega⟩
    · obtain ⟨p1, p2, p3, p4, p5⟩ := h.each b hb
      obtain ⟨⟨_, _, q3, q4⟩, _⟩ := mayO_parts p4
      refine ⟨p1, p2, p3, p4, ?_⟩
      rw [vat_with' seen ⟨by omega, m6⟩ q3 q4]
      split
      · rename_i e
        rw [e] at p5
        omega
      · exact p5
  · rename_i q
    refine ⟨fun b hb => ?_, h.may, h.none⟩
    rcases (insS_mem a L b).1 hb with rfl | hb
    · exact ⟨ht, hn, hv, hm, by omega⟩
    · exact h.each b hb
section
variable (cf : CallK) (fuel : Nat) {K : AV → Hp → Prop}
theorem MergeL26_run (hA : cf 14 = cAdd) (hAt : cf 26 = cAt) (hW : cf 27 = cWith) {h3 : Hp} {B fo : Nat} {v : AV} {Ms : List Z} (hfo : fo < B) (hBl : B ≤ h3.next) (hsl : SlN h3 11 v (Ms.map Prod.fst) B) (hz : ∀ z ∈ Ms, OpH h3 z.1 z.2 ∧ ∀ x ∈ z.1, SlQ (fun o => o < fo) x)
    (hm : Ms.length ≤ 1000) (hap : Apart (Ms.map Prod.snd)) (hmay : ∀ a ∈ Ms.map Prod.snd, mayO a = true) (t1 t2 t7 : AV) (e0 : AV → AV → Hp → Prop)
    (he : ∀ h F L seen t9, Keep2 h3 h fo fo → FileS h fo L F → (∀ q, F q → q = fo ∨ h3.next ≤ q) → VecH h t9 seen → InvM L seen → L.length ≤ 1000 → SlQ (fun o => ¬ F o) t9 → e0 t9 (I (L.length : Nat)) h) :
    ∀ (d i fm : Nat) (h : Hp) (F : Nat → Prop) (L : List FOp) (seen : List Int) (t9 : AV), i + d = Ms.length → d < fm → Keep2 h3 h fo fo → FileS h fo L F → (∀ q, F q → q = fo ∨ h3.next ≤ q) → VecH h t9 seen → SlQ (fun o => ¬ F o) t9 → InvM L seen → (∀ b ∈ L, b ∈ (Ms.map Prod.snd).take i) → L.length ≤ i →
      s_lagoonlaw17_ContentMergeL26 cf fuel e0 t1 t2 t7 (.ptr fo 0) v fm t9 (I (L.length : Nat)) (I i) h
  | d, i, fm, h, F, L, seen, t9, hk, hfm, hkeep, hF, f1, hv9, hq9, hinv, hLm, hLl => by
    obtain ⟨fm, rfl⟩ : ∃ j, fm = j + 1 := ⟨fm - 1, by omega⟩
    rw [s_lagoonlaw17_ContentMergeL26_succ]
    unfold s_lagoonlaw17_ContentMergeL26B
    have hln : (Ms.map Prod.fst).length = Ms.length := by simp
    have hlm : (Ms.map Prod.snd).length = Ms.length := by simp
    by_cases hi : i < Ms.length
    · obtain ⟨d, rfl⟩ : ∃ j, d = j + 1 := ⟨d - 1, by omega⟩
      have hsl0 := hsl
      rcases hsl with ⟨_, q⟩ | ⟨o6, ob, rfl, b1, b2, b3, b4, b5, b6⟩
      · have := congrArg List.length q
        rw [hln, List.length_nil] at this
        omega
      have hcl : ∀ j (hj : j < Ms.length), cellsO ob 11 (j * 11) = some Ms[j].1 := fun j hj => by
        obtain ⟨ob', q1, q2, q3⟩ := LA.at (h := h3) (o := o6) ⟨b2, ob, b3, b4, b5⟩
        rw [b3] at q1
        cases q1
        have := q3 j (by rw [hln]; exact hj)
        rw [List.getElem_map] at this
        exact this
      have kat : ∀ h', Keep2 h3 h' fo fo → h'.at o6 = some ⟨true, 11, ob⟩ := fun h' hk' => by rw [hk'.2 o6 b2 (by omega) (by omega)]; exact b3
      have kop : ∀ (z : Z), OpH h3 z.1 z.2 ∧ (∀ x ∈ z.1, SlQ (fun o => o < fo) x) → ∀ h', Keep2 h3 h' fo fo → OpH h' z.1 z.2 := fun z hz' h' hk' =>
        hz'.1.same hk'.1 hz'.2 fun q hq ql => hk'.2 q ql (by omega) (by omega)
      have e1 : ((i : Int) + 1) = ((i + 1 : Nat) : Int) := by omega
      have hzi := hz Ms[i] (List.getElem_mem hi)
      have ci := hcl i hi
      have hmi : mayO Ms[i].2 = true := hmay _ (List.mem_map_of_mem (List.getElem_mem hi))
      have hgi : (Ms.map Prod.snd)[i]'(by omega) = Ms[i].2 := List.getElem_map ..
      have hapt := apart_take hap (i := i) (by omega)
      have htk := take_snoc (Ms.map Prod.snd) i (by omega)
      rw [hgi] at hapt htk
      have next : ∀ (h' : Hp) (F' : Nat → Prop) (L' : List FOp) (seen' : List Int) (t9' : AV), Keep2 h3 h' fo fo → FileS h' fo L' F' → (∀ q, F' q → q = fo ∨ h3.next ≤ q) → VecH h' t9' seen' → SlQ (fun o => ¬ F' o) t9' → InvM L' seen' → (∀ b ∈ L', b ∈ (Ms.map Prod.snd).take (i + 1)) → L'.length ≤ i + 1 →
          s_lagoonlaw17_ContentMergeL26 cf fuel e0 t1 t2 t7 (.ptr fo 0) (.slice o6 0 (Ms.map Prod.fst).length false 0) fm t9' (I (L'.length : Nat)) (I ((i + 1 : Nat) : Int)) h' := fun h' F' L' seen' t9' r1 r2 r3 r4 r5 r6 r7 r8 =>
        MergeL26_run hA hAt hW hfo hBl hsl0 hz hm hap hmay t1 t2 t7 e0 he d (i + 1) fm h' F' L' seen' t9' (by omega) (by omega) r1 r2 r3 r4 r5 r6 r7 r8
      have same := next h F L seen t9 hkeep hF f1 hv9 hq9 hinv (fun b hb => by rw [htk]; exact List.mem_append_left _ (hLm b hb)) (by omega)
      rw [hln] at next same ⊢
      obtain ⟨⟨ca, a⟩, hza⟩ : ∃ z : Z, Ms[i] = z := ⟨_, rfl⟩
      rw [hza] at hzi ci hmi hapt htk
      dsimp only at hzi ci hmi hapt htk
      obtain ⟨vd, vs, hcs, -⟩ := hzi.1
      have hcs2 := hcs
      rw [opFlat] at hcs2
      subst hcs2
      have kpi : ∀ h', Keep2 h3 h' fo fo → OpH h' [I a.t, I a.n, I a.seq, I a.kind, I a.ot, I a.on, I a.pt, I a.pn, S a.name, vd, vs] a := fun h' hk' => kop ([I a.t, I a.n, I a.seq, I a.kind, I a.ot, I a.on, I a.pt, I a.pn, S a.name, vd, vs], a) hzi h' hk'
      have c0 : cellAt ob (i * 11 + 0) = some (I a.t) := cellsO_nth 11 ci 0 (by omega)
      have c1 : cellAt ob (i * 11 + 1) = some (I a.n) := cellsO_nth 11 ci 1 (by omega)
      have c2 : cellAt ob (i * 11 + 2) = some (I a.seq) := cellsO_nth 11 ci 2 (by omega)
      have c3 : cellAt ob (i * 11 + 3) = some (I a.kind) := cellsO_nth 11 ci 3 (by omega)
      have c10 : cellAt ob (i * 11 + 10) = some vs := cellsO_nth 11 ci 10 (by omega)
      have hat := kat h hkeep
      have hoi := kpi h hkeep
      have hsa : VecH h vs a.seen := by
        obtain ⟨vd', vs', q1, q2, q3, _⟩ := hoi
        have : vs = vs' := Option.some.inj (congrArg (fun l : List AV => l[10]?) q1)
        rw [this]; exact q3
      unfold s_lagoonlaw17_ContentMergeB57
      try dsimp only
      (try unfold vMov); repeat' (first | refine Step.imp ?_ | (refine Way.mk (fun hp => ?_) (fun hp => ?_) <;> first | contradiction | (exfalso; omega) | skip) | refine LoadG.mkG ?_ | refine LoadsG.mkG ?_ | refine AtG.mkG ?_ | refine StoreG.mkG ?_ | refine CondG.mkG ?_ | (refine LoadG.mk2 hat c3 (by omega) ?_) | (refine LoadG.mk2 hat c0 (by omega) ?_) | (refine LoadG.mk2 hat c1 (by omega) ?_) | (refine LoadG.mk2 hat c10 (by omega) ?_) | (refine cAt_go hAt hsa ?_) | (refine LoadsG.mk2 hat ci (by omega) ?_) | fail); (all_goals (try dsimp only))
      all_goals first | (rw [e1]; exact same) | skip
      · have hk4 : a.kind = 4 := by assumption
        have ht : a.t < 1152921504606846976 := by assumption
        have hn : ¬ a.n = 40 := by assumption
        have hv : vat a.seen 40 = 0 := by assumption
        have hfree : ∀ b ∈ L, sameI b.t b.n a.t a.n = false := fun b hb => hapt b (hLm b hb)
        have hadd := addR_apart hfree
        rw [if_pos (show (mayO a && decide (a.kind = 4)) = true by rw [hmi, decide_eq_true hk4]; rfl)] at hadd
        refine cAdd_go hA hF (by omega) hoi (fun h1 F1 y1 y2 y3 y4 _ => ?_)
        rw [hadd] at y3 ⊢
        dsimp only at y3
        have k1 : Keep2 h3 h1 fo fo := ⟨Nat.le_trans hkeep.1 y1, fun q q1 q2 q3 => by
          rw [y2 q (Nat.lt_of_lt_of_le q1 hkeep.1) (fun hq => by rcases f1 q hq with r | r <;> omega)]
          exact hkeep.2 q q1 q2 q3⟩
        have f2 : ∀ q, F1 q → q = fo ∨ h3.next ≤ q := fun q hq => by
          rcases y4 q hq with r | r
          · exact f1 q r
          · exact .inr (Nat.le_trans hkeep.1 r)
        have hv1 : VecH h1 t9 seen := hv9.same y1 fun o off n kn c e ql => y2 o ql (hq9 _ _ _ _ _ e)
        have hq1 : SlQ (fun o => ¬ F1 o) t9 := fun o off n kn c e hq => by
          rcases y4 o hq with r | r
          · exact hq9 _ _ _ _ _ e r
          · have := VecH.lt hv9 e
            omega
        have hat1 := kat h1 k1
        have hinv' := hinv.add ht hn hv hmi
        have hmem' : ∀ b ∈ insS L a, b ∈ (Ms.map Prod.snd).take (i + 1) := fun b hb => by
          rw [htk]
          rcases (insS_mem a L b).1 hb with rfl | hb
          · simp
          · exact List.mem_append_left _ (hLm b hb)
        have hlen' := insS_len L a
        obtain ⟨⟨m1, m2, m3, m4⟩, m5, m6, m7⟩ := mayO_parts hmi
        have e2 : ((L.length : Nat) : Int) + 1 = ((insS L a).length : Int) := by rw [hlen']; omega
        unfold s_lagoonlaw17_ContentMergeB28
        (try unfold vMov); repeat' (first | refine Step.imp ?_ | (refine Way.mk (fun hp => ?_) (fun hp => ?_) <;> first | contradiction | (exfalso; omega) | skip) | refine LoadG.mkG ?_ | refine LoadsG.mkG ?_ | refine AtG.mkG ?_ | refine StoreG.mkG ?_ | refine CondG.mkG ?_ | (refine LoadG.mk2 hat1 c1 (by omega) ?_) | (refine LoadG.mk2 hat1 c2 (by omega) ?_) | (refine cAt_go hAt hv1 ?_) | fail); (all_goals (try dsimp only))
        · rw [if_pos hp] at hinv'
          refine cWith_go hW hv1 ⟨m3, m4, by omega, m6⟩ (fun v' h' x1 x2 x3 => ?_)
          (try unfold vMov); repeat' (first | refine Step.imp ?_ | (refine Way.mk (fun hp => ?_) (fun hp => ?_) <;> first | contradiction | (exfalso; omega) | skip) | refine LoadG.mkG ?_ | refine LoadsG.mkG ?_ | refine AtG.mkG ?_ | refine StoreG.mkG ?_ | refine CondG.mkG ?_ | fail); (all_goals (try dsimp only))
          rw [e1, e2]
          exact next h' F1 (insS L a) _ v' (k1.ext x1) (y3.ext x1) f2 x2 (fun o off n kn c e hq => by
            have := x3 _ _ _ _ _ e
            have := y3.lt hq
            omega) hinv' hmem' (by omega)
        · rw [if_neg hp] at hinv'
          rw [e1, e2]
          exact next h1 F1 (insS L a) seen t9 k1 y3 f2 hv1 hq1 hinv' hmem' (by omega)
    · have hd : d = 0 := by omega
      subst hd
      try dsimp only
      (try unfold vMov); repeat' (first | refine Step.imp ?_ | (refine Way.mk (fun hp => ?_) (fun hp => ?_) <;> first | contradiction | (exfalso; omega) | skip) | refine LoadG.mkG ?_ | refine LoadsG.mkG ?_ | refine AtG.mkG ?_ | refine StoreG.mkG ?_ | refine CondG.mkG ?_ | (refine len_sl hsl ?_) | fail); (all_goals (try dsimp only))
      exact he h F L seen t9 hkeep hF f1 hv9 hinv (by omega) hq9
theorem Merge_run (hb : cf 11 = trueC) (hN : cf 12 = cNew) (hSm : cf 13 = cSome) (hA : cf 14 = cAdd) (hAt : cf 26 = cAt) (hW : cf 27 = cWith) (hH : cf 18 = cFHeads) (hV : cf 19 = cFValue) (hLn : cf 21 = cLen)
    {h0 : Hp} {v : AV} {els : List (List AV)} {os : List FOp} (hr : Rd h0 11 v els) (ho : OpsR h0 els os) {t1 : AV} {bl : List UInt8} (hby : ByH h0 t1 bl) (all : Bool) (hf : 1000 < fuel) (hK : ∀ h', K (.bool true) h') : s_lagoonlaw17_ContentMerge cf fuel v t1 (.bool all) h0 K := by
  unfold s_lagoonlaw17_ContentMerge
  refine trueC_go hb ?_
  refine cNew_go hN (fun fo h1 x1 f1 f2 f3 => ?_)
  have n1 := x1.next
  have hQ : ∀ cs ∈ els, ∀ x ∈ cs, SlQ (fun o => o < h0.next) x := fun cs hcs => by
    obtain ⟨j, hj, rfl⟩ := List.getElem_of_mem hcs
    exact (ho.2 j hj (by rw [← ho.1]; exact hj)).old
  (try unfold vMov); repeat' (first | refine Step.imp ?_ | (refine Way.mk (fun hp => ?_) (fun hp => ?_) <;> first | contradiction | (exfalso; omega) | skip) | refine LoadG.mkG ?_ | refine LoadsG.mkG ?_ | refine AtG.mkG ?_ | refine StoreG.mkG ?_ | refine CondG.mkG ?_ | fail); (all_goals (try dsimp only))
  refine cSome_go hSm 15 rfl (hr.mono x1) (ho.mono x1) hQ (by omega) (fun v' h3 Zs x3 s1 s2 s3 => ?_)
  have n3 := x3.next
  have sp := someO_spec os 15
  rw [← s3] at sp
  have hlen : Zs.length ≤ 15 := by have := sp.2.2; simpa using this
  have hby3 := hby.mono (x1.trans x3)
  have hbq : SlQ (fun o => o < fo) t1 := fun o off n kn c e => Nat.lt_of_lt_of_le (ByH.lt hby e) f1
  try dsimp only
  refine MergeL26_run cf fuel hA hAt hW (h3 := h3) (B := h1.next) (fo := fo) (by omega) n3 s1 (fun z hz => ⟨(s2 z hz).1.mono x3, fun x hx => ((s2 z hz).2 x hx).mono fun o q => by omega⟩) (by omega) sp.1 sp.2.1 _ _ _ _ (fun h F L seen t9 hk hF g1 hv9 hinv hll hq9 => ?_) Zs.length 0 fuel h3 (fun q => q = fo) [] [] .nilslice (by omega) (by omega) ⟨Nat.le_refl _, fun q _ _ _ => rfl⟩
    (FileS.new (by omega) (by rw [x3.same fo f2]; exact f3)) (fun q hq => .inl hq) (VecH.nil _) (SlQ.nil _) ⟨(fun b hb => by cases hb), mayV_nil, vat_nil 40⟩ (fun b hb => by cases hb) (Nat.zero_le _)
  have byAt : ∀ h', Keep2 h3 h' fo fo → ByH h' t1 bl := fun h' hk' => hby3.same hk'.1 fun o off n kn c e ql => by
    have := hbq _ _ _ _ _ e
    exact hk'.2 o ql (by omega) (by omega)
  rw [s_lagoonlaw17_ContentMergeE0_cut]
  obtain ⟨vf, ef, hFH, lf⟩ := hF.file (by omega)
  refine cFHeads_go hH hFH (by omega) (fun vC h4 cl x4 k4 => ?_)
  rw [lf] at k4
  obtain ⟨M1, a1, a2, a3, a4, a5⟩ := k4
  have l5 := a5.1
  refine len_sl a3 ?_
  rw [l5]
  have hk4 := hk.ext x4
  have hby4 := byAt h4 hk4
  generalize hJ0 : s_lagoonlaw17_ContentMergeE0C0 cf fuel K _ _ _ _ _ _ = J0
  have rest0 : ∀ s9, s9 = (if all = true then t9 else .nilslice) → J0 s9 h4 := by
    intro s9 hs9
    rw [← hJ0]
    unfold s_lagoonlaw17_ContentMergeE0C0
    generalize hJ1 : s_lagoonlaw17_ContentMergeE0C1 cf fuel K _ _ _ _ _ _ = J1
    have rest1 : ∀ d1, d1 = cutA t1 bl.length 100 → J1 d1 h4 := by
      intro d1 hd1
      rw [← hJ1]
      unfold s_lagoonlaw17_ContentMergeE0C1
      -- the new version
      let seen' : List Int := if all = true then seen else []
      have hvs : ∀ h', Ext h4 h' → VecH h' s9 seen' := fun h' x => by
        subst hs9
        show VecH h' (if all = true then t9 else .nilslice) (if all = true then seen else [])
        split
        · exact (hv9.mono x4).mono x
        · exact VecH.nil _
      have hdb : ∀ h', Keep2 h3 h' fo fo → ByH h' d1 (bl.take 100) := fun h' hk' => by rw [hd1]; exact (byAt h' hk').cut 100
      have hmay' : mayV seen' = true := by
        show mayV (if all = true then seen else []) = true
        split
        · exact hinv.may
        · exact mayV_nil
      have hn40 : vat seen' 40 = 0 := by
        show vat (if all = true then seen else []) 40 = 0
        split
        · exact hinv.none
        · exact vat_nil 40
      let w : FOp := ⟨1152921504606846976, 40, 1, 4, 1, 0, 0, 0, [], bl.take 100, seen'⟩
      have hmw : (mayO w && decide (w.kind = 4)) = true := by
        have hlt : (bl.take 100).length ≤ 65536 := by simp; omega
        have hs : seenO w = true := seenO_t w hmay' (by show vat seen' 40 = 1 - 1; rw [hn40]; rfl)
        have hk : kindOK w = true := by
          show (if (4 : Int) = 1 ∨ (4 : Int) = 2 then _ else if (4 : Int) = 3 then _ else if (4 : Int) = 4 then olderB 1 0 1152921504606846976 40 && (rootB 0 0 && (decide (([] : List UInt8) = []) && decide ((bl.take 100).length ≤ 65536))) else false) = true
          rw [if_neg (by omega), if_neg (by omega), if_pos rfl, decide_eq_true hlt]
          rfl
        unfold mayO
        rw [hs, hk]
        rfl
      have hfree : ∀ b ∈ L, sameI b.t b.n w.t w.n = false := fun b hb => by
        have := (hinv.each b hb).1
        show sameI b.t b.n 1152921504606846976 40 = false
        unfold sameI
        rw [decide_eq_false (by omega)]
        rfl
      have hlast : insS L w = L ++ [w] := insS_last fun b hb => by
        have := (hinv.each b hb).1
        show lessI b.t b.n 1152921504606846976 40 = true
        unfold lessI
        rw [decide_eq_true this]
        rfl
      have hadd := addR_apart hfree
      rw [if_pos hmw, hlast] at hadd
      have hbw : ∀ b ∈ L, behind w b = false := fun b hb => by
        have := (hinv.each b hb).2.2.1
        show decide ((1 : Int) ≤ vat b.seen 40) = false
        rw [this]
        rfl
      have hheads : headsP (L ++ [w]) 0 (L ++ [w]).length = if all = true then [w] else headsP L 0 L.length ++ [w] := by
        cases hall : all with
        | true =>
          rw [if_pos rfl]
          refine heads_all (fun b hb => ?_) hbw hfree
          have := (hinv.each b hb).2.2.2.2
          show decide (b.seq ≤ vat (if all = true then seen else []) b.n) = true
          rw [if_pos hall]
          exact decide_eq_true this
        | false =>
          rw [if_neg (by simp)]
          refine heads_none (fun b hb => ?_) hbw
          obtain ⟨_, q, _⟩ := mayO_parts (hinv.each b hb).2.2.2.1
          show decide (b.seq ≤ vat (if all = true then seen else []) b.n) = false
          rw [if_neg (by rw [hall]; simp), vat_nil]
          exact decide_eq_false (by omega)
      have hval : valueP (L ++ [w]) = bl.take 100 := by
        unfold valueP
        rw [hheads]
        have hl : (if all = true then [w] else headsP L 0 L.length ++ [w]).getLast? = some w := by
          split
          · rfl
          · rw [List.getLast?_append]
            rfl
        rw [hl]
      have cv1 := (hdb h4 hk4).cell
      have cv2 := (hvs h4 (Ext.refl _)).cell
      (try unfold vMov); repeat' (first | refine Step.imp ?_ | (refine Way.mk (fun hp => ?_) (fun hp => ?_) <;> first | contradiction | (exfalso; omega) | skip) | refine LoadG.mkG ?_ | refine LoadsG.mkG ?_ | refine AtG.mkG ?_ | refine StoreG.mkG ?_ | refine CondG.mkG ?_ | (refine stFill_aux 9 1 _ _ _ _ _ cv1 ⟨⟨rfl, by simp [setL]⟩, ?_⟩) | (refine stFill_aux 10 1 _ _ _ _ _ cv2 ⟨⟨rfl, by simp [setL]⟩, ?_⟩) | fail); (all_goals (try dsimp only))
      have hoW : OpH h4 (opCells w d1 s9) w := ⟨d1, s9, rfl, hdb h4 hk4, hvs h4 (Ext.refl _), by show ([] : List UInt8).length ≤ _; simp⟩
      refine cAdd_go hA (hF.ext x4) (by omega) (a := w) (ca := opCells w d1 s9) hoW (fun h5 F5 y1 y2 y3 y4 _ => ?_)
      rw [hadd] at y3 ⊢
      dsimp only at y3
      have k5 : Keep2 h3 h5 fo fo := ⟨Nat.le_trans hk4.1 y1, fun q q1 q2 q3 => by
        rw [y2 q (Nat.lt_of_lt_of_le q1 hk4.1) (fun hq => by rcases g1 q hq with r | r <;> omega)]
        exact hk4.2 q q1 q2 q3⟩
      have hd5 := hdb h5 k5
      have hlw : (L ++ [w]).length = L.length + 1 := by simp
      obtain ⟨v6, e6, hF6, l6⟩ := y3.file (by omega)
      (try unfold vMov); repeat' (first | refine Step.imp ?_ | (refine Way.mk (fun hp => ?_) (fun hp => ?_) <;> first | contradiction | (exfalso; omega) | skip) | refine LoadG.mkG ?_ | refine LoadsG.mkG ?_ | refine AtG.mkG ?_ | refine StoreG.mkG ?_ | refine CondG.mkG ?_ | (refine toStr_go hd5 ?_) | fail); (all_goals (try dsimp only))
      refine cFValue_go hV hF6 (by omega) (fun w6 h6 x6 z6 => ?_)
      rw [hval] at z6
      obtain ⟨v7, e7, hF7, l7⟩ := (y3.ext x6).file (by omega)
      have hlw' : (((L ++ [w]).length : Nat) : Int) = ((L.length : Nat) : Int) + 1 := by rw [hlw]; omega
      (try unfold vMov); repeat' (first | refine Step.imp ?_ | (refine Way.mk (fun hp => ?_) (fun hp => ?_) <;> first | contradiction | (exfalso; omega) | skip) | refine LoadG.mkG ?_ | refine LoadsG.mkG ?_ | refine AtG.mkG ?_ | refine StoreG.mkG ?_ | refine CondG.mkG ?_ | (refine toStr_go (hd5.mono x6) ?_) | (refine toStr_go z6 ?_) | (refine cLen_go hLn hF7 ?_) | fail); (all_goals (try dsimp only))
      unfold s_lagoonlaw17_ContentMergeB13
      have lastH := fun (v8 : AV) (h8 : Hp) (cl8 : List (List AV)) (k8 : Kept h8 v8 cl8 (headsP (L ++ [w]) 0 e7.length) h6.next) => k8
      cases hall : all with
      | true =>
        (try unfold vMov); repeat' (first | refine Step.imp ?_ | (refine Way.mk (fun hp => ?_) (fun hp => ?_) <;> first | contradiction | (exfalso; omega) | skip) | refine LoadG.mkG ?_ | refine LoadsG.mkG ?_ | refine AtG.mkG ?_ | refine StoreG.mkG ?_ | refine CondG.mkG ?_ | fail); (all_goals (try dsimp only))
        refine cFHeads_go hH hF7 (by omega) (fun v8 h8 cl8 x8 k8 => ?_)
        rw [l7, hheads, if_pos hall] at k8
        obtain ⟨M8, b1, b2, b3, b4, b5⟩ := k8
        have l8 := b5.1
        (try unfold vMov); repeat' (first | refine Step.imp ?_ | (refine Way.mk (fun hp => ?_) (fun hp => ?_) <;> first | contradiction | (exfalso; omega) | skip) | refine LoadG.mkG ?_ | refine LoadsG.mkG ?_ | refine AtG.mkG ?_ | refine StoreG.mkG ?_ | refine CondG.mkG ?_ | (refine len_sl b3 ?_) | fail); (all_goals (try dsimp only))
        · exact hK _
        · exfalso; simp at l8; omega
      | false =>
        (try unfold vMov); repeat' (first | refine Step.imp ?_ | (refine Way.mk (fun hp => ?_) (fun hp => ?_) <;> first | contradiction | (exfalso; omega) | skip) | refine LoadG.mkG ?_ | refine LoadsG.mkG ?_ | refine AtG.mkG ?_ | refine StoreG.mkG ?_ | refine CondG.mkG ?_ | fail); (all_goals (try dsimp only))
        refine cFHeads_go hH hF7 (by omega) (fun v8 h8 cl8 x8 k8 => ?_)
        rw [l7, hheads, if_neg (by rw [hall]; simp)] at k8
        obtain ⟨M8, b1, b2, b3, b4, b5⟩ := k8
        have l8 := b5.1
        have qh := headsP_len L 0 L.length
        (try unfold vMov); repeat' (first | refine Step.imp ?_ | (refine Way.mk (fun hp => ?_) (fun hp => ?_) <;> first | contradiction | (exfalso; omega) | skip) | refine LoadG.mkG ?_ | refine LoadsG.mkG ?_ | refine AtG.mkG ?_ | refine StoreG.mkG ?_ | refine CondG.mkG ?_ | (refine len_sl b3 ?_) | fail); (all_goals (try dsimp only))
        · exact hK _
        · exfalso; simp at l8; omega
    rcases hby4 with ⟨rfl, rfl⟩ | ⟨o, rfl, rfl⟩ | ⟨o, off, kn, c, e, m, z, rfl, h2, h3', h4', h5, h6, h7⟩
    · (try unfold vMov); repeat' (first | refine Step.imp ?_ | (refine Way.mk (fun hp => ?_) (fun hp => ?_) <;> first | contradiction | (exfalso; omega) | skip) | refine LoadG.mkG ?_ | refine LoadsG.mkG ?_ | refine AtG.mkG ?_ | refine StoreG.mkG ?_ | refine CondG.mkG ?_ | fail); (all_goals (try dsimp only))
      exact rest1 _ rfl
    · (try unfold vMov); repeat' (first | refine Step.imp ?_ | (refine Way.mk (fun hp => ?_) (fun hp => ?_) <;> first | contradiction | (exfalso; omega) | skip) | refine LoadG.mkG ?_ | refine LoadsG.mkG ?_ | refine AtG.mkG ?_ | refine StoreG.mkG ?_ | refine CondG.mkG ?_ | fail); (all_goals (try dsimp only))
      exact rest1 _ rfl
    · (try unfold vMov); repeat' (first | refine Step.imp ?_ | (refine Way.mk (fun hp => ?_) (fun hp => ?_) <;> first | contradiction | (exfalso; omega) | skip) | refine LoadG.mkG ?_ | refine LoadsG.mkG ?_ | refine AtG.mkG ?_ | refine StoreG.mkG ?_ | refine CondG.mkG ?_ | fail); (all_goals (try dsimp only))
      · refine cut_slice (i := 100) (by omega) h6.2 (rest1 _ ?_)
        unfold cutA
        rw [if_neg (by omega)]
      · refine rest1 _ ?_
        unfold cutA
        rw [if_pos (by omega)]
  cases all with
  | true =>
    (try unfold vMov); repeat' (first | refine Step.imp ?_ | (refine Way.mk (fun hp => ?_) (fun hp => ?_) <;> first | contradiction | (exfalso; omega) | skip) | refine LoadG.mkG ?_ | refine LoadsG.mkG ?_ | refine AtG.mkG ?_ | refine StoreG.mkG ?_ | refine CondG.mkG ?_ | fail); (all_goals (try dsimp only))
    exact rest0 _ rfl
  | false =>
    (try unfold vMov); repeat' (first | refine Step.imp ?_ | (refine Way.mk (fun hp => ?_) (fun hp => ?_) <;> first | contradiction | (exfalso; omega) | skip) | refine LoadG.mkG ?_ | refine LoadsG.mkG ?_ | refine AtG.mkG ?_ | refine StoreG.mkG ?_ | refine CondG.mkG ?_ | fail); (all_goals (try dsimp only))
    exact rest0 _ rfl
end
end Lg

namespace Go.Proofs.Ytnhamanffojhfaa.con
open Go Go.Am Go.Shelf Go.Proofs

noncomputable def ren59 : Ren := ⟨fun n => match n with | 22 => 59 | 29 => 112 | 30 => 113 | n => n, fun n => match n with | 9 => 43 | 24 => 38 | n => n, fun n => n⟩
noncomputable def zero59 : Value := ((Try.prog.info? 43).bind (·.zero)).getD (.tuple #[])
theorem lay59 : InsLay Try.prog ren59 Try.f59.name 5 72 zero59 where
  mixed := by kernel_rfl
  f22 := Try.func59.trans (by kernel_rfl)
  f29 := run_callFunc_extern Try.func112 (by kernel_rfl) (by kernel_rfl) (by kernel_rfl) (e := Extern.SlicesOverlaps.overlaps #[38, 38] #[4]) (by kernel_rfl)
  t0 := Try.underlying0
  a0 := Try.isAgg0
  z0 := Try.sizeOf0
  v0 := Try.zeroValue0
  t3 := Try.underlying3
  a3 := Try.isAgg3
  z3 := Try.sizeOf3
  v3 := Try.zeroValue3
  t4 := Try.underlying4
  a4 := Try.isAgg4
  z4 := Try.sizeOf4
  v4 := Try.zeroValue4
  z9 := Try.sizeOf43
  t24 := Try.underlying38
  a24 := Try.isAgg38
  z24 := Try.sizeOf38
  v24 := Try.zeroValue38
  i9 := by kernel_rfl
theorem cells59 : zero59.cells.size = 5 := by kernel_rfl

noncomputable def con (f : FuncId) : Option ConD := (match Nat.beq f 59 with | true => some (insH 5 72) | false => none)
theorem con_ok : ConOK Try.prog con := by
  intro f c h B w0
  unfold con at h
  split at h
  · rename_i hb
    have hf : f = 59 := by simpa using hb
    subst hf
    simp only [Option.some.injEq] at h
    subst h
    exact ins_ok (by decide) lay59 cells59 (by omega) B w0
  cases h
-- OV 59 insH 5 72 BY fun B w0 => ins_ok (by decide) con.lay59 con.cells59 (by omega) B w0
end Go.Proofs.Ytnhamanffojhfaa.con

namespace Lg
set_option linter.unusedSimpArgs false
set_option linter.unusedVariables false
set_option maxRecDepth 100000
open Go Go.Am Go.Proofs
open Go.Proofs.Ytnhamanffojhfaa.shl
theorem mixed : Try.prog.follows .mixedOrders = true := by kernel_rfl
theorem ins_one (B : Nat) (w0 : W0) : ConOne Try.prog B w0 59 (insH 5 72) := Go.Proofs.Ytnhamanffojhfaa.con.con_ok 59 (insH 5 72) (by rfl) B w0
theorem okI : ConOK Try.prog (lookC [(59, insH 5 72)]) := con_cons con_nil fun B w0 => ins_one B w0
set_option maxRecDepth 1000000 in
theorem begun_runs : RunsTrue Try.prog (lookC [(59, insH 5 72)]) 1000 30 11 = True := by kernel_rfl
noncomputable def L0 : List (Nat × ConD) := []
theorem ok0 : ConOK Try.prog (lookC L0) := con_nil
theorem one1 (B : Nat) (w0 : W0) : ConOne Try.prog B w0 99 (cIdB validB) := one_pure mixed ok0 rfl (fun avs h K hc => by
  obtain ⟨t, n, rfl, hK⟩ := hc
  exact ⟨_, by simp [oldV, oldVs], hK, 0, fun K2 hK2 => Eq.mp (s_lagoonref4_Valid_eq ..) (Valid_run _ _ t n hK2)⟩) B w0
noncomputable def L1 : List (Nat × ConD) := (99, cIdB validB) :: L0
theorem ok1 : ConOK Try.prog (lookC L1) := con_cons ok0 one1
theorem one2 (B : Nat) (w0 : W0) : ConOne Try.prog B w0 30 (cIdB2 lessI) := one_pure mixed ok1 rfl (fun avs h K hc => by
  obtain ⟨t, n, t', n', rfl, hK⟩ := hc
  exact ⟨_, by simp [oldV, oldVs], hK, 0, fun K2 hK2 => Eq.mp (s_lagoonref4_Less_eq ..) (Less_run _ _ t n t' n' hK2)⟩) B w0
noncomputable def L2 : List (Nat × ConD) := (30, cIdB2 lessI) :: L1
theorem ok2 : ConOK Try.prog (lookC L2) := con_cons ok1 one2
theorem one3 (B : Nat) (w0 : W0) : ConOne Try.prog B w0 25 (cIdB2 sameI) := one_pure mixed ok2 rfl (fun avs h K hc => by
  obtain ⟨t, n, t', n', rfl, hK⟩ := hc
  exact ⟨_, by simp [oldV, oldVs], hK, 0, fun K2 hK2 => Eq.mp (s_lagoonref4_Same_eq ..) (Same_run _ _ t n t' n' hK2)⟩) B w0
noncomputable def L3 : List (Nat × ConD) := (25, cIdB2 sameI) :: L2
theorem ok3 : ConOK Try.prog (lookC L3) := con_cons ok2 one3
theorem one4 (B : Nat) (w0 : W0) : ConOne Try.prog B w0 101 (cIdB rootB) := one_pure mixed ok3 rfl (fun avs h K hc => by
  obtain ⟨t, n, rfl, hK⟩ := hc
  exact ⟨_, by simp [oldV, oldVs], hK, 0, fun K2 hK2 => Eq.mp (s_lagoonref12_root_eq ..) (root_run _ _ t n hK2)⟩) B w0
noncomputable def L4 : List (Nat × ConD) := (101, cIdB rootB) :: L3
theorem ok4 : ConOK Try.prog (lookC L4) := con_cons ok3 one4
theorem one5 (B : Nat) (w0 : W0) : ConOne Try.prog B w0 104 (cIdB trashB) := one_pure mixed ok4 rfl (fun avs h K hc => by
  obtain ⟨t, n, rfl, hK⟩ := hc
  exact ⟨_, by simp [oldV, oldVs], hK, 0, fun K2 hK2 => Eq.mp (s_lagoonref12_trash_eq ..) (trash_run _ _ t n hK2)⟩) B w0
noncomputable def L5 : List (Nat × ConD) := (104, cIdB trashB) :: L4
theorem ok5 : ConOK Try.prog (lookC L5) := con_cons ok4 one5
theorem one6 (B : Nat) (w0 : W0) : ConOne Try.prog B w0 102 (cIdB2 olderB) := one_pure mixed ok5 rfl (fun avs h K hc => by
  obtain ⟨t, n, t', n', rfl, hK⟩ := hc
  exact ⟨_, by simp [oldV, oldVs], hK, 0, fun K2 hK2 => Eq.mp (s_lagoonref12_older_eq ..) (older_run _ _ (cfn_con rfl) (cfn_con rfl) t n t' n' hK2)⟩) B w0
noncomputable def L6 : List (Nat × ConD) := (102, cIdB2 olderB) :: L5
theorem ok6 : ConOK Try.prog (lookC L6) := con_cons ok5 one6
theorem one7 (B : Nat) (w0 : W0) : ConOne Try.prog B w0 26 (cAt) := one_pure mixed ok6 rfl (fun avs h K hc => by
  obtain ⟨v, l, n, rfl, hv, hK⟩ := hc
  exact ⟨_, by simp [oldV, oldVs], hK, 0, fun K2 hK2 => Eq.mp (s_lagoonref4_At_eq ..) (At_run _ _ v l n hv (hK2 h (Ext.refl h)))⟩) B w0
noncomputable def L7 : List (Nat × ConD) := (26, cAt) :: L6
theorem ok7 : ConOK Try.prog (lookC L7) := con_cons ok6 one7
theorem one8 (B : Nat) (w0 : W0) : ConOne Try.prog B w0 62 (cAt) := one_pure mixed ok7 rfl (fun avs h K hc => by
  obtain ⟨v, l, n, rfl, hv, hK⟩ := hc
  exact ⟨_, by simp [oldV, oldVs], hK, 0, fun K2 hK2 => Eq.mp (s_vector_At_eq ..) (vectorAt_run _ _ v l n hv (hK2 h (Ext.refl h)))⟩) B w0
noncomputable def L8 : List (Nat × ConD) := (62, cAt) :: L7
theorem ok8 : ConOK Try.prog (lookC L8) := con_cons ok7 one8
theorem one9 (B : Nat) (w0 : W0) : ConOne Try.prog B w0 134 (cIB fun n => decide (0 ≤ n) && decide (n < 64)) := one_pure mixed ok8 rfl (fun avs h K hc => by
  obtain ⟨n, rfl, hK⟩ := hc
  exact ⟨_, by simp [oldV, oldVs], hK, 0, fun K2 hK2 => Eq.mp (s_clock_node_eq ..) (node_run _ _ n hK2)⟩) B w0
noncomputable def L9 : List (Nat × ConD) := (134, cIB fun n => decide (0 ≤ n) && decide (n < 64)) :: L8
theorem ok9 : ConOK Try.prog (lookC L9) := con_cons ok8 one9
theorem one10 (B : Nat) (w0 : W0) : ConOne Try.prog B w0 105 (cIdB validB) := one_pure mixed ok9 rfl (fun avs h K hc => by
  obtain ⟨t, n, rfl, hK⟩ := hc
  exact ⟨_, by simp [oldV, oldVs], hK, 0, fun K2 hK2 => Eq.mp (s_clock_Valid_eq ..) (clockValid_run _ _ (cfn_con rfl) t n hK2)⟩) B w0
noncomputable def L10 : List (Nat × ConD) := (105, cIdB validB) :: L9
theorem ok10 : ConOK Try.prog (lookC L10) := con_cons ok9 one10
theorem one11 (B : Nat) (w0 : W0) : ConOne Try.prog B w0 137 (cNaN) := one_pure mixed ok10 rfl (fun avs h K hc => by
  obtain ⟨n, rfl, hK⟩ := hc
  exact ⟨_, by simp [oldV, oldVs], hK, 0, fun K2 hK2 => Eq.mp (s_cmp_isNaN_int64_eq ..) (isNaN64_run _ _ n hK2)⟩) B w0
noncomputable def L11 : List (Nat × ConD) := (137, cNaN) :: L10
theorem ok11 : ConOK Try.prog (lookC L11) := con_cons ok10 one11
theorem one12 (B : Nat) (w0 : W0) : ConOne Try.prog B w0 138 (cNaN) := one_pure mixed ok11 rfl (fun avs h K hc => by
  obtain ⟨n, rfl, hK⟩ := hc
  exact ⟨_, by simp [oldV, oldVs], hK, 0, fun K2 hK2 => Eq.mp (s_cmp_isNaN_int_eq ..) (isNaN_run _ _ n hK2)⟩) B w0
noncomputable def L12 : List (Nat × ConD) := (138, cNaN) :: L11
theorem ok12 : ConOK Try.prog (lookC L12) := con_cons ok11 one12
theorem one13 (B : Nat) (w0 : W0) : ConOne Try.prog B w0 110 (cCmp) := one_pure mixed ok12 rfl (fun avs h K hc => by
  obtain ⟨x, y, rfl, hK⟩ := hc
  exact ⟨_, by simp [oldV, oldVs], hK, 0, fun K2 hK2 => Eq.mp (s_cmp_Compare_int64_eq ..) (Compare64_run _ _ (cfn_con rfl) x y (hK2 h (Ext.refl h)))⟩) B w0
noncomputable def L13 : List (Nat × ConD) := (110, cCmp) :: L12
theorem ok13 : ConOK Try.prog (lookC L13) := con_cons ok12 one13
theorem one14 (B : Nat) (w0 : W0) : ConOne Try.prog B w0 111 (cCmp) := one_pure mixed ok13 rfl (fun avs h K hc => by
  obtain ⟨x, y, rfl, hK⟩ := hc
  exact ⟨_, by simp [oldV, oldVs], hK, 0, fun K2 hK2 => Eq.mp (s_cmp_Compare_int_eq ..) (Compare_run _ _ (cfn_con rfl) x y (hK2 h (Ext.refl h)))⟩) B w0
noncomputable def L14 : List (Nat × ConD) := (111, cCmp) :: L13
theorem ok14 : ConOK Try.prog (lookC L14) := con_cons ok13 one14
theorem one15 (B : Nat) (w0 : W0) : ConOne Try.prog B w0 58 (cIdI cmpI) := one_pure mixed ok14 rfl (fun avs h K hc => by
  obtain ⟨t, n, t', n', rfl, hK⟩ := hc
  exact ⟨_, by simp [oldV, oldVs], hK, 0, fun K2 hK2 => Eq.mp (s_clock_Cmp_eq ..) (Cmp_run _ _ (cfn_con rfl) (cfn_con rfl) t n t' n' hK2)⟩) B w0
noncomputable def L15 : List (Nat × ConD) := (58, cIdI cmpI) :: L14
theorem ok15 : ConOK Try.prog (lookC L15) := con_cons ok14 one15
theorem one16 (B : Nat) (w0 : W0) : ConOne Try.prog B w0 136 (cIdB2 lessI) := one_pure mixed ok15 rfl (fun avs h K hc => by
  obtain ⟨t, n, t', n', rfl, hK⟩ := hc
  exact ⟨_, by simp [oldV, oldVs], hK, 0, fun K2 hK2 => Eq.mp (s_clock_Less_eq ..) (clockLess_run _ _ (cfn_con rfl) t n t' n' hK2)⟩) B w0
noncomputable def L16 : List (Nat × ConD) := (136, cIdB2 lessI) :: L15
theorem ok16 : ConOK Try.prog (lookC L16) := con_cons ok15 one16
theorem one17 (B : Nat) (w0 : W0) : ConOne Try.prog B w0 85 (cConst (.agg [I 0, I 0])) := one_pure mixed ok16 rfl (fun avs h K hc => by
  obtain ⟨rfl, hK⟩ := hc
  exact ⟨_, by simp [oldV, oldVs], hK, 0, fun K2 hK2 => Eq.mp (s_ops_Root_eq ..) (Root_run _ _ hK2)⟩) B w0
noncomputable def L17 : List (Nat × ConD) := (85, cConst (.agg [I 0, I 0])) :: L16
theorem ok17 : ConOK Try.prog (lookC L17) := con_cons ok16 one17
theorem one18 (B : Nat) (w0 : W0) : ConOne Try.prog B w0 109 (cConst (.agg [I 0, I 1])) := one_pure mixed ok17 rfl (fun avs h K hc => by
  obtain ⟨rfl, hK⟩ := hc
  exact ⟨_, by simp [oldV, oldVs], hK, 0, fun K2 hK2 => Eq.mp (s_ops_Trash_eq ..) (Trash_run _ _ hK2)⟩) B w0
noncomputable def L18 : List (Nat × ConD) := (109, cConst (.agg [I 0, I 1])) :: L17
theorem ok18 : ConOK Try.prog (lookC L18) := con_cons ok17 one18
theorem one19 (B : Nat) (w0 : W0) : ConOne Try.prog B w0 57 (cCmpV) := one_pure mixed ok18 rfl (fun avs h K hc => by
  obtain ⟨t, n, q, vs, vd, t', n', rfl, hK⟩ := hc
  exact ⟨_, by simp [oldV, oldVs], hK, 0, fun K2 hK2 => Eq.mp (s_content_File_Add_1_eq ..) (AddCmp_run _ _ (cfn_con rfl) t n q t' n' vs vd hK2)⟩) B w0
noncomputable def L19 : List (Nat × ConD) := (57, cCmpV) :: L18
theorem ok19 : ConOK Try.prog (lookC L19) := con_cons ok18 one19
theorem one20 (B : Nat) (w0 : W0) : ConOne Try.prog B w0 100 (cVecB mayV) := one_pure mixed ok19 rfl (fun avs h K hc => by
  obtain ⟨v, l, rfl, hv, hK⟩ := hc
  exact ⟨_, by simp [oldV, oldVs], hK, l.length + 70, fun K2 hK2 => Eq.mp (s_lagoonref4_May_eq ..) (refMayV_run _ _ hv (by omega) (hK2 h (Ext.refl h)))⟩) B w0
noncomputable def L20 : List (Nat × ConD) := (100, cVecB mayV) :: L19
theorem ok20 : ConOK Try.prog (lookC L20) := con_cons ok19 one20
theorem one21 (B : Nat) (w0 : W0) : ConOne Try.prog B w0 176 (cIdxB) := one_pure mixed ok20 rfl (fun avs h K hc => by
  obtain ⟨l, b, rfl, h0, h1, hK⟩ := hc
  exact ⟨_, by simp [oldV, oldVs], hK, 0, fun K2 hK2 => Eq.mp (s_int_stringslite_IndexByte_eq ..) (litIndexByte_run _ _ l b h0 h1 hK2)⟩) B w0
noncomputable def L21 : List (Nat × ConD) := (176, cIdxB) :: L20
theorem ok21 : ConOK Try.prog (lookC L21) := con_cons ok20 one21
theorem one22 (B : Nat) (w0 : W0) : ConOne Try.prog B w0 172 (cIdxB) := one_pure mixed ok21 rfl (fun avs h K hc => by
  obtain ⟨l, b, rfl, h0, h1, hK⟩ := hc
  exact ⟨_, by simp [oldV, oldVs], hK, 0, fun K2 hK2 => Eq.mp (s_strings_IndexByte_eq ..) (IndexByte_run _ _ (cfn_con rfl) l b h0 h1 hK2)⟩) B w0
noncomputable def L22 : List (Nat × ConD) := (172, cIdxB) :: L21
theorem ok22 : ConOK Try.prog (lookC L22) := con_cons ok21 one22
theorem one23 (B : Nat) (w0 : W0) : ConOne Try.prog B w0 173 (cVR) := one_pure mixed ok22 rfl (fun avs h K hc => by
  obtain ⟨r, rfl, hK⟩ := hc
  exact ⟨_, by simp [oldV, oldVs], hK, 0, fun K2 hK2 => Eq.mp (s_unicode_utf8_ValidRune_eq ..) (ValidRune_run _ _ r hK2)⟩) B w0
noncomputable def L23 : List (Nat × ConD) := (173, cVR) :: L22
theorem ok23 : ConOK Try.prog (lookC L23) := con_cons ok22 one23
theorem one24 (B : Nat) (w0 : W0) : ConOne Try.prog B w0 167 (cRune) := one_pure mixed ok23 rfl (fun avs h K hc => by
  obtain ⟨r, rfl, h0, h1, hK⟩ := hc
  exact ⟨_, by simp [oldV, oldVs], hK, 10, fun K2 hK2 => Eq.mp (s_strings_IndexRune_eq ..) (IndexRune_run _ _ (cfn_con rfl) (cfn_con rfl) r h0 h1 (by omega) hK2)⟩) B w0
noncomputable def L24 : List (Nat × ConD) := (167, cRune) :: L23
theorem ok24 : ConOK Try.prog (lookC L24) := con_cons ok23 one24
theorem one25 (B : Nat) (w0 : W0) : ConOne Try.prog B w0 168 (cI1 fun n => decide (8 < n)) := one_pure mixed ok24 rfl (fun avs h K hc => by
  obtain ⟨n, rfl, hK⟩ := hc
  exact ⟨_, by simp [oldV, oldVs], hK, 0, fun K2 hK2 => Eq.mp (s_strings_shouldUseASCIISet_eq ..) (should_run _ _ n hK2)⟩) B w0
noncomputable def L25 : List (Nat × ConD) := (168, cI1 fun n => decide (8 < n)) :: L24
theorem ok25 : ConOK Try.prog (lookC L25) := con_cons ok24 one25
set_option maxRecDepth 1000000 in
theorem set3_runs : RunsTo Try.prog (lookC L25) 1000 3 169 [S [0, 1, 47]] (.tup [.agg set3, .bool true]) = True := by kernel_rfl
theorem one26 (B : Nat) (w0 : W0) : ConOne Try.prog B w0 169 (cSet3) := one_to mixed ok25 1000 3 169 [S [0, 1, 47]] (.tup [.agg set3, .bool true]) (by kernel_rfl) (by kernel_rfl) set3_runs B w0
noncomputable def L26 : List (Nat × ConD) := (169, cSet3) :: L25
theorem ok26 : ConOK Try.prog (lookC L26) := con_cons ok25 one26
theorem one27 (B : Nat) (w0 : W0) : ConOne Try.prog B w0 170 (cContains) := one_pure mixed ok26 rfl (fun avs h K hc => by
  obtain ⟨o, e, f, b, rfl, he, h0, h1, hc, hK⟩ := hc
  exact ⟨_, by simp [oldV, oldVs], hK, 0, fun K2 hK2 => Eq.mp (s_strings_asciiSet_contains_eq ..) (contains_run _ _ o e f b he h0 h1 hc hK2)⟩) B w0
noncomputable def L27 : List (Nat × ConD) := (170, cContains) :: L26
theorem ok27 : ConOK Try.prog (lookC L27) := con_cons ok26 one27
theorem one28 (B : Nat) (w0 : W0) : ConOne Try.prog B w0 156 (cIxAny) := one_pure mixed ok27 rfl (fun avs h K hc => by
  obtain ⟨l, rfl, hl, hK⟩ := hc
  exact ⟨_, by simp [oldV, oldVs], hK, l.length + 70, fun K2 hK2 => Eq.mp (s_strings_IndexAny_eq ..) (IndexAny_run _ _ (cfn_con rfl) (cfn_con rfl) (cfn_con rfl) (cfn_con rfl) l hl (by omega) hK2)⟩) B w0
noncomputable def L28 : List (Nat × ConD) := (156, cIxAny) :: L27
theorem ok28 : ConOK Try.prog (lookC L28) := con_cons ok27 one28
theorem one29 (B : Nat) (w0 : W0) : ConOne Try.prog B w0 135 (cBad) := one_pure mixed ok28 rfl (fun avs h K hc => by
  obtain ⟨l, rfl, hl, hK⟩ := hc
  exact ⟨_, by simp [oldV, oldVs], hK, 0, fun K2 hK2 => Eq.mp (s_strings_ContainsAny_eq ..) (ContainsAny_run _ _ (cfn_con rfl) l hl hK2)⟩) B w0
noncomputable def L29 : List (Nat × ConD) := (135, cBad) :: L28
theorem ok29 : ConOK Try.prog (lookC L29) := con_cons ok28 one29
theorem one30 (B : Nat) (w0 : W0) : ConOne Try.prog B w0 133 (cS localE) := one_pure mixed ok29 rfl (fun avs h K hc => by
  obtain ⟨l, rfl, hl, hK⟩ := hc
  exact ⟨_, by simp [oldV, oldVs], hK, l.length + 70, fun K2 hK2 => Eq.mp (s_lagoonref12_Local_eq ..) (Local_run _ _ l hl (by omega) hK2)⟩) B w0
noncomputable def L30 : List (Nat × ConD) := (133, cS localE) :: L29
theorem ok30 : ConOK Try.prog (lookC L30) := con_cons ok29 one30
theorem one31 (B : Nat) (w0 : W0) : ConOne Try.prog B w0 103 (cS nameE) := one_pure mixed ok30 rfl (fun avs h K hc => by
  obtain ⟨l, rfl, hl, hK⟩ := hc
  exact ⟨_, by simp [oldV, oldVs], hK, l.length + 70, fun K2 hK2 => Eq.mp (s_lagoonref12_Name_eq ..) (refName_run _ _ (cfn_con rfl) l hl (by omega) hK2)⟩) B w0
noncomputable def L31 : List (Nat × ConD) := (103, cS nameE) :: L30
theorem ok31 : ConOK Try.prog (lookC L31) := con_cons ok30 one31
theorem one32 (B : Nat) (w0 : W0) : ConOne Try.prog B w0 107 (cS nameE) := one_pure mixed ok31 rfl (fun avs h K hc => by
  obtain ⟨l, rfl, hl, hK⟩ := hc
  exact ⟨_, by simp [oldV, oldVs], hK, 0, fun K2 hK2 => Eq.mp (s_ops_Name_eq ..) (opsName_run _ _ (cfn_con rfl) l hl hK2)⟩) B w0
noncomputable def L32 : List (Nat × ConD) := (107, cS nameE) :: L31
theorem ok32 : ConOK Try.prog (lookC L32) := con_cons ok31 one32
theorem one33 (B : Nat) (w0 : W0) : ConOne Try.prog B w0 54 (cOpB mayO) := one_pure mixed ok32 rfl (fun avs h K hc => by
  obtain ⟨cs, o, rfl, ho, hK⟩ := hc
  exact ⟨_, by simp [oldV, oldVs], hK, 0, fun K2 hK2 => Eq.mp (s_lagoonref12_May_eq ..) (refMay_run _ _ (cfn_con rfl) (cfn_con rfl) (cfn_con rfl) (cfn_con rfl) (cfn_con rfl) (cfn_con rfl) (cfn_con rfl) (cfn_con rfl) ho hK2)⟩) B w0
noncomputable def L33 : List (Nat × ConD) := (54, cOpB mayO) :: L32
theorem ok33 : ConOK Try.prog (lookC L33) := con_cons ok32 one33
theorem one34 (B : Nat) (w0 : W0) : ConOne Try.prog B w0 106 (cSeen) := one_pure mixed ok33 rfl (fun avs h K hc => by
  obtain ⟨cs, o, rfl, ho, hq, hK⟩ := hc
  exact ⟨_, by simp [oldV, oldVs], hK, o.seen.length + 80, fun K2 hK2 => Eq.mp (s_ops_seen_eq ..) (seen_run _ _ (cfn_con rfl) ho hq (by omega) hK2)⟩) B w0
noncomputable def L34 : List (Nat × ConD) := (106, cSeen) :: L33
theorem ok34 : ConOK Try.prog (lookC L34) := con_cons ok33 one34
theorem one35 (B : Nat) (w0 : W0) : ConOne Try.prog B w0 108 (cEarlier) := one_pure mixed ok34 rfl (fun avs h K hc => by
  obtain ⟨t, n, cs, o, rfl, ho, hK⟩ := hc
  exact ⟨_, by simp [oldV, oldVs], hK, 0, fun K2 hK2 => Eq.mp (s_ops_earlier_eq ..) (earlier_run _ _ (cfn_con rfl) (cfn_con rfl) ho hK2)⟩) B w0
noncomputable def L35 : List (Nat × ConD) := (108, cEarlier) :: L34
theorem ok35 : ConOK Try.prog (lookC L35) := con_cons ok34 one35
theorem one36 (B : Nat) (w0 : W0) : ConOne Try.prog B w0 55 (cOpB mayO) := one_pure mixed ok35 rfl (fun avs h K hc => by
  obtain ⟨cs, o, rfl, ho, hK⟩ := hc
  exact ⟨_, by simp [oldV, oldVs], hK, 0, fun K2 hK2 => Eq.mp (s_ops_May_eq ..) (opsMay_run _ _ (cfn_con rfl) (cfn_con rfl) (cfn_con rfl) (cfn_con rfl) (cfn_con rfl) (cfn_con rfl) ho hK2)⟩) B w0
noncomputable def L36 : List (Nat × ConD) := (55, cOpB mayO) :: L35
theorem ok36 : ConOK Try.prog (lookC L36) := con_cons ok35 one36
theorem one37 (B : Nat) (w0 : W0) : ConOne Try.prog B w0 56 (cBS) := one_pure mixed ok36 rfl (fun avs h K hc => by
  obtain ⟨v, els, os, t, n, rfl, hr, ho, hri, hK⟩ := hc
  exact ⟨_, by simp [oldV, oldVs], hK, els.length + 2, fun K2 hK2 => Eq.mp (s_slices_BinarySearchFunc_api_Version_api_Version_api_ID_eq ..) (BS_run _ _ (cfn_con rfl) hr ho hri t n (by omega) hK2)⟩) B w0
noncomputable def L37 : List (Nat × ConD) := (56, cBS) :: L36
theorem ok37 : ConOK Try.prog (lookC L37) := con_cons ok36 one37
theorem one38 (B : Nat) (w0 : W0) : ConOne Try.prog B w0 61 (cClone) := one_code mixed ok37 rfl (fun avs h K hc => by
  obtain ⟨v, l, rfl, hv, hK⟩ := hc
  exact ⟨0, Eq.mp (s_bytes_Clone_eq ..) (Clone_run _ _ hv hK)⟩) B w0
noncomputable def L38 : List (Nat × ConD) := (61, cClone) :: L37
theorem ok38 : ConOK Try.prog (lookC L38) := con_cons ok37 one38
theorem one39 (B : Nat) (w0 : W0) : ConOne Try.prog B w0 22 (cOf) := one_code mixed ok38 rfl (fun avs h K hc => by
  obtain ⟨ca, a, rfl, ha, hK⟩ := hc
  exact ⟨0, Eq.mp (s_content_Of_eq ..) (Of_run2 _ _ (cfn_con rfl) ha hK)⟩) B w0
noncomputable def L39 : List (Nat × ConD) := (22, cOf) :: L38
theorem ok39 : ConOK Try.prog (lookC L39) := con_cons ok38 one39
theorem one40 (B : Nat) (w0 : W0) : ConOne Try.prog B w0 59 (insH 5 72) := ins_one B w0
noncomputable def L40 : List (Nat × ConD) := (59, insH 5 72) :: L39
theorem ok40 : ConOK Try.prog (lookC L40) := con_cons ok39 one40
theorem one41 (B : Nat) (w0 : W0) : ConOne Try.prog B w0 14 (cAdd) := one_code mixed ok40 rfl (fun avs h K hc => by
  obtain ⟨fo, os, F, ca, a, rfl, hf, hl, ha, hK⟩ := hc
  exact ⟨0, Eq.mp (s_content_File_Add_eq ..) (Add_run2 _ _ (cfn_con rfl) (cfn_con rfl) (cfn_con rfl) (cfn_con rfl) hf hl ha hK)⟩) B w0
noncomputable def L41 : List (Nat × ConD) := (14, cAdd) :: L40
theorem ok41 : ConOK Try.prog (lookC L41) := con_cons ok40 one41
theorem one42 (B : Nat) (w0 : W0) : ConOne Try.prog B w0 12 (cNew) := one_code mixed ok41 rfl (fun avs h K hc => by
  obtain ⟨rfl, hK⟩ := hc
  exact ⟨0, Eq.mp (s_content_New_eq ..) (New_run2 _ _ hK)⟩) B w0
noncomputable def L42 : List (Nat × ConD) := (12, cNew) :: L41
theorem ok42 : ConOK Try.prog (lookC L42) := con_cons ok41 one42
theorem one43 (B : Nat) (w0 : W0) : ConOne Try.prog B w0 23 (cBehV) := one_code mixed ok42 rfl (fun avs h K hc => by
  obtain ⟨ca, cb, a, b, rfl, ha, hb, hK⟩ := hc
  exact ⟨0, Eq.mp (s_content_Behind_eq ..) (Behind_run _ _ (cfn_con rfl) ha hb hK)⟩) B w0
noncomputable def L43 : List (Nat × ConD) := (23, cBehV) :: L42
theorem ok43 : ConOK Try.prog (lookC L43) := con_cons ok42 one43
theorem one44 (B : Nat) (w0 : W0) : ConOne Try.prog B w0 18 (cFHeads) := one_code mixed ok43 rfl (fun avs h K hc => by
  obtain ⟨fo, v, els, os, rfl, hf, hs, hK⟩ := hc
  exact ⟨els.length + 2, Eq.mp (s_content_File_Heads_eq ..) (FHeads_run _ _ (cfn_con rfl) (cfn_con rfl) hf (by omega) hs hK)⟩) B w0
noncomputable def L44 : List (Nat × ConD) := (18, cFHeads) :: L43
theorem ok44 : ConOK Try.prog (lookC L44) := con_cons ok43 one44
theorem one45 (B : Nat) (w0 : W0) : ConOne Try.prog B w0 19 (cFValue) := one_code mixed ok44 rfl (fun avs h K hc => by
  obtain ⟨fo, v, els, os, rfl, hf, hs, hK⟩ := hc
  exact ⟨0, Eq.mp (s_content_File_Value_eq ..) (Value_run _ _ (cfn_con rfl) hf hs hK)⟩) B w0
noncomputable def L45 : List (Nat × ConD) := (19, cFValue) :: L44
theorem ok45 : ConOK Try.prog (lookC L45) := con_cons ok44 one45
theorem one46 (B : Nat) (w0 : W0) : ConOne Try.prog B w0 97 (cShort) := one_code mixed ok45 rfl (fun avs h K hc => by
  obtain ⟨v, l, n, rfl, hv, hK⟩ := hc
  exact ⟨0, Eq.mp (s_lagoonlaw2_Short_eq ..) (Short_run _ _ hv n hK)⟩) B w0
noncomputable def L46 : List (Nat × ConD) := (97, cShort) :: L45
theorem ok46 : ConOK Try.prog (lookC L46) := con_cons ok45 one46
theorem one47 (B : Nat) (w0 : W0) : ConOne Try.prog B w0 98 (cVCut) := one_code mixed ok46 rfl (fun avs h K hc => by
  obtain ⟨v, l, rfl, hv, hK⟩ := hc
  exact ⟨0, Eq.mp (s_lagoonlaw4_Cut_eq ..) (VCut_run _ _ hv hK)⟩) B w0
noncomputable def L47 : List (Nat × ConD) := (98, cVCut) :: L46
theorem ok47 : ConOK Try.prog (lookC L47) := con_cons ok46 one47
theorem one48 (B : Nat) (w0 : W0) : ConOne Try.prog B w0 53 (cCut) := one_code mixed ok47 rfl (fun avs h K hc => by
  obtain ⟨o, vd, vs, rfl, hd, hs, hn, hK⟩ := hc
  exact ⟨0, Eq.mp (s_lagoonlaw12_Cut_eq ..) (Cut_run _ _ (cfn_con rfl) (cfn_con rfl) hd hs hn hK)⟩) B w0
noncomputable def L48 : List (Nat × ConD) := (53, cCut) :: L47
theorem ok48 : ConOK Try.prog (lookC L48) := con_cons ok47 one48
theorem one49 (B : Nat) (w0 : W0) : ConOne Try.prog B w0 13 (cSome) := one_code mixed ok48 rfl (fun avs h K hc => by
  obtain ⟨v, els, os, Q, most, rfl, hr, ho, hQ, hm, hK⟩ := hc
  exact ⟨els.length + most + 2, Eq.mp (s_lagoonlaw15_Some_eq ..) (Some_run _ _ (cfn_con rfl) (cfn_con rfl) (cfn_con rfl) hr ho hQ hm (by omega) (by omega) hK)⟩) B w0
noncomputable def L49 : List (Nat × ConD) := (13, cSome) :: L48
theorem ok49 : ConOK Try.prog (lookC L49) := con_cons ok48 one49
theorem one50 (B : Nat) (w0 : W0) : ConOne Try.prog B w0 114 (cLeq) := one_code mixed ok49 rfl (fun avs h K hc => by
  obtain ⟨v, l, w, m, rfl, hv, hw, hK⟩ := hc
  exact ⟨70, Eq.mp (s_lagoonref4_Leq_eq ..) (Leq_run _ _ (cfn_con rfl) hv hw (by omega) hK)⟩) B w0
noncomputable def L50 : List (Nat × ConD) := (114, cLeq) :: L49
theorem ok50 : ConOK Try.prog (lookC L50) := con_cons ok49 one50
theorem one51 (B : Nat) (w0 : W0) : ConOne Try.prog B w0 60 (cEqV) := one_code mixed ok50 rfl (fun avs h K hc => by
  obtain ⟨v, l, w, m, rfl, hv, hw, hK⟩ := hc
  exact ⟨0, Eq.mp (s_lagoonref4_Eq_eq ..) (Eq_run _ _ (cfn_con rfl) hv hw hK)⟩) B w0
noncomputable def L51 : List (Nat × ConD) := (60, cEqV) :: L50
theorem ok51 : ConOK Try.prog (lookC L51) := con_cons ok50 one51
theorem one52 (B : Nat) (w0 : W0) : ConOne Try.prog B w0 24 (cBeh) := one_code mixed ok51 rfl (fun avs h K hc => by
  obtain ⟨ca, cb, a, b, rfl, ha, hb, hK⟩ := hc
  exact ⟨0, Eq.mp (s_lagoonref15_Behind_eq ..) (refBehind_run _ _ (cfn_con rfl) ha hb hK)⟩) B w0
noncomputable def L52 : List (Nat × ConD) := (24, cBeh) :: L51
theorem ok52 : ConOK Try.prog (lookC L52) := con_cons ok51 one52
theorem one53 (B : Nat) (w0 : W0) : ConOne Try.prog B w0 15 (cRHeads) := one_code mixed ok52 rfl (fun avs h K hc => by
  obtain ⟨v, els, os, rfl, hr, ho, hs, hK⟩ := hc
  exact ⟨els.length + 2, Eq.mp (s_lagoonref15_Heads_eq ..) (Heads_run _ _ (cfn_con rfl) hr ho (by omega) (by omega) hK)⟩) B w0
noncomputable def L53 : List (Nat × ConD) := (15, cRHeads) :: L52
theorem ok53 : ConOK Try.prog (lookC L53) := con_cons ok52 one53
theorem one54 (B : Nat) (w0 : W0) : ConOne Try.prog B w0 16 (cSorted) := one_code mixed ok53 rfl (fun avs h K hc => by
  obtain ⟨v, els, os, rfl, hr, ho, hs, hK⟩ := hc
  exact ⟨els.length + 2, Eq.mp (s_lagoonref12_Sorted_eq ..) (Sorted_run _ _ (cfn_con rfl) hr ho (by omega) hs hK)⟩) B w0
noncomputable def L54 : List (Nat × ConD) := (16, cSorted) :: L53
theorem ok54 : ConOK Try.prog (lookC L54) := con_cons ok53 one54
theorem one55 (B : Nat) (w0 : W0) : ConOne Try.prog B w0 20 (cSize) := one_pure mixed ok54 rfl (fun avs h K hc => by
  obtain ⟨fo, v, els, os, rfl, hf, hs, hK⟩ := hc
  exact ⟨_, by simp [oldV, oldVs], hK, 0, fun K2 hK2 => Eq.mp (s_content_File_Size_eq ..) (Size_run _ _ (cfn_con rfl) hf hs hK2)⟩) B w0
noncomputable def L55 : List (Nat × ConD) := (20, cSize) :: L54
theorem ok55 : ConOK Try.prog (lookC L55) := con_cons ok54 one55
theorem one56 (B : Nat) (w0 : W0) : ConOne Try.prog B w0 21 (cLen) := one_pure mixed ok55 rfl (fun avs h K hc => by
  obtain ⟨fo, v, els, os, rfl, hf, hK⟩ := hc
  exact ⟨_, by simp [oldV, oldVs], hK, 0, fun K2 hK2 => Eq.mp (s_content_File_Len_eq ..) (Len_run _ _ hf (hK2 h (Ext.refl h)))⟩) B w0
noncomputable def L56 : List (Nat × ConD) := (21, cLen) :: L55
theorem ok56 : ConOK Try.prog (lookC L56) := con_cons ok55 one56
theorem one57 (B : Nat) (w0 : W0) : ConOne Try.prog B w0 17 (cIsT) := one_code mixed ok56 rfl (fun avs h K hc => by
  obtain ⟨v1, cl1, v2, cl2, ps, rfl, r1, w1, r2, w2, hK⟩ := hc
  exact ⟨ps.length + 1, Eq.mp (s_lagoonlaw17_is_eq ..) (is_run _ _ (cfn_con rfl) (cfn_con rfl) r1 w1 r2 w2 (by omega) hK)⟩) B w0
noncomputable def L57 : List (Nat × ConD) := (17, cIsT) :: L56
theorem ok57 : ConOK Try.prog (lookC L57) := con_cons ok56 one57
theorem one58 (B : Nat) (w0 : W0) : ConOne Try.prog B w0 64 (cShortV) := one_code mixed ok57 rfl (fun avs h K hc => by
  obtain ⟨v, l, B, rfl, hv, hl, hK⟩ := hc
  exact ⟨l.length + 2, Eq.mp (s_lagoonref4_short_eq ..) (short_run _ _ hv hl (by omega) hK)⟩) B w0
noncomputable def L58 : List (Nat × ConD) := (64, cShortV) :: L57
theorem ok58 : ConOK Try.prog (lookC L58) := con_cons ok57 one58
theorem one59 (B : Nat) (w0 : W0) : ConOne Try.prog B w0 27 (cWith) := one_code mixed ok58 rfl (fun avs h K hc => by
  obtain ⟨v, l, n, x, rfl, hv, hn, hK⟩ := hc
  exact ⟨71, Eq.mp (s_lagoonref4_With_eq ..) (With_run _ _ (cfn_con rfl) (cfn_con rfl) hv hn (by omega) hK)⟩) B w0
noncomputable def L59 : List (Nat × ConD) := (27, cWith) :: L58
theorem ok59 : ConOK Try.prog (lookC L59) := con_cons ok58 one59
theorem one60 (B : Nat) (w0 : W0) : ConOne Try.prog B w0 11 (trueC) := one_true mixed okI 1000 30 11 begun_runs B w0
noncomputable def L60 : List (Nat × ConD) := (11, trueC) :: L59
theorem ok60 : ConOK Try.prog (lookC L60) := con_cons ok59 one60
noncomputable abbrev LT : List (Nat × ConD) := L60
theorem okT : ConOK Try.prog (lookC LT) := ok60
end Lg

namespace Lg
set_option linter.unusedSimpArgs false
set_option linter.unusedVariables false
set_option maxRecDepth 100000
open Go Go.Am Go.Proofs Go.RowKit
theorem list_choose {α : Type} {p : Nat → α → Prop} : ∀ n, (∀ j, j < n → ∃ x, p j x) → ∃ l : List α, l.length = n ∧ ∀ j (hj : j < l.length), p j l[j]
  | 0, _ => ⟨[], rfl, fun j hj => by simp at hj⟩
  | n + 1, h => by
    obtain ⟨l, h1, h2⟩ := list_choose n fun j hj => h j (by omega)
    obtain ⟨x, hx⟩ := h n (by omega)
    refine ⟨l ++ [x], by simp [h1], fun j hj => ?_⟩
    by_cases e : j < l.length
    · rw [List.getElem_append_left e]; exact h2 j e
    · have hj' : j = n := by simp at hj; omega
      subst hj'
      rw [List.getElem_append_right (by omega)]
      simpa [h1] using hx
section
variable {P : Program} {H : Type} {hp : Hp}
theorem rdt_int {n : Nat} {t : TypeId} {k : IntKind} {avs : List AV} {d : DataW H} (hu : P.underlying t = some (.int k)) (h : RdT P hp (n + 1) t avs d) : ∃ z, avs = [.int k z] := by
  unfold RdT at h
  simp only [hu] at h
  obtain ⟨z, h1, _⟩ := h
  exact ⟨z, h1⟩
theorem rdt_bool {n : Nat} {t : TypeId} {avs : List AV} {d : DataW H} (hu : P.underlying t = some .bool) (h : RdT P hp (n + 1) t avs d) : ∃ z, avs = [.bool z] := by
  unfold RdT at h
  simp only [hu] at h
  obtain ⟨z, h1, _⟩ := h
  exact ⟨z, h1⟩
theorem rdt_str {n : Nat} {t : TypeId} {avs : List AV} {d : DataW H} (hu : P.underlying t = some .string) (h : RdT P hp (n + 1) t avs d) : ∃ l, avs = [S l] ∧ l.length ≤ reachBytes := by
  unfold RdT at h
  simp only [hu] at h
  obtain ⟨z, h1, _, h2⟩ := h
  exact ⟨z, h1, h2⟩
theorem rdt_vec {n : Nat} {t e : TypeId} {avs : List AV} {d : DataW H} (hu : P.underlying t = some (.slice e)) (he : P.underlying e = some (.int .i64)) (hc : P.cellsOf e = 1) (hb : P.bytesOf e = 8) (h : RdT P hp (n + 2) t avs d) : ∃ v l, avs = [v] ∧ VecH hp v l := by
  unfold RdT at h
  simp only [hu] at h
  rcases h with ⟨rfl, _⟩ | ⟨o, rfl, _⟩ | ⟨o, c, ob, ds, sp, rfl, _, h1, h2, h3, h4, _, h5⟩
  · exact ⟨_, [], rfl, .inl ⟨rfl, rfl⟩⟩
  · exact ⟨_, [], rfl, .inr (.inl ⟨o, rfl, rfl⟩)⟩
  · rw [hc] at h5
    obtain ⟨l, l1, l2⟩ := list_choose (p := fun j z => cellsO ob 1 (j * 1) = some [I z]) ds.length fun j hj => by
      obtain ⟨cj, r1, _, r3⟩ := h5 j hj
      obtain ⟨z, rfl⟩ := rdt_int he r3
      exact ⟨z, r1⟩
    have hbd : ds.length ≤ 17592186044416 := by
      rw [hb] at h2
      have : reachBytes ≤ 140737488355328 := by decide
      omega
    refine ⟨_, l, rfl, .inr (.inr ⟨o, 0, true, c, _, by simp [l1], h3, h4, ⟨by simp; omega, fun _ => by simp; omega⟩, fun j hj => ?_⟩)⟩
    have hj' : j < l.length := by simpa using hj
    rw [Nat.zero_add, List.getElem_map]
    exact l2 j hj'
theorem rdt_by {n : Nat} {t e : TypeId} {avs : List AV} {d : DataW H} (hu : P.underlying t = some (.slice e)) (he : P.underlying e = some (.int .u8)) (hb : P.bytesOf e = 1) (h : RdT P hp (n + 1) t avs d) : ∃ v l, avs = [v] ∧ ByH hp v l := by
  unfold RdT at h
  simp only [hu] at h
  rcases h with ⟨rfl, _⟩ | ⟨o, rfl, _⟩ | ⟨o, c, ob, ds, sp, rfl, _, h1, h2, h3, h4, h6, _⟩
  · exact ⟨_, [], rfl, .inl ⟨rfl, rfl⟩⟩
  · exact ⟨_, [], rfl, .inr (.inl ⟨o, rfl, rfl⟩)⟩
  · obtain ⟨z, hz⟩ := h6 he
    have hbd : ds.length ≤ 140737488355328 := by
      rw [hb] at h2
      have : reachBytes ≤ 140737488355328 := by decide
      omega
    have hl : (bytesL ds.length z).length = ds.length := bytesL_length _ _
    refine ⟨_, bytesL ds.length z, rfl, .inr (.inr ⟨o, 0, true, c, _, ds.length, z, by rw [hl], h3, h4, hz, by omega, ⟨by omega, fun _ => by omega⟩, ?_⟩)⟩
    rw [List.drop_zero, List.take_of_length_le (Nat.le_refl _)]
theorem rdA_cons {n : Nat} {t : TypeId} {ts : List TypeId} {avs : List AV} {ds : List (DataW H)} (h : RdA P hp n (t :: ts) avs ds) : ∃ a r d e, avs = a :: r ∧ ds = d :: e ∧ RdT P hp n t [a] d ∧ RdA P hp n ts r e := by
  cases avs with
  | nil => cases ds <;> exact h.elim
  | cons a r => cases ds with
    | nil => exact h.elim
    | cons d e => exact ⟨a, r, d, e, rfl, rfl, h.1, h.2⟩
theorem rdA_nil {n : Nat} {avs : List AV} {ds : List (DataW H)} (h : RdA P hp n [] avs ds) : avs = [] := by
  cases avs with
  | nil => rfl
  | cons a r => cases ds <;> exact h.elim
theorem rdf_cons {R : TypeId → List AV → DataW H → Prop} {f : Field} {fs : List Field} {cl : List (List AV)} {dl : List (DataW H)} (h : RdF P R (f :: fs) cl dl) : ∃ c cl' d dl', cl = c :: cl' ∧ dl = d :: dl' ∧ R f.type c d ∧ RdF P R fs cl' dl' := by
  match cl, dl, h with
  | c :: cl', d :: dl', h => exact ⟨c, cl', d, dl', rfl, rfl, h.2.1, h.2.2⟩
theorem rdf_nil {R : TypeId → List AV → DataW H → Prop} {cl : List (List AV)} {dl : List (DataW H)} (h : RdF P R [] cl dl) : cl = [] := by
  match cl, dl, h with
  | [], [], _ => rfl
end
section
variable {H : Type} {hp : Hp}
theorem rd_id {n : Nat} {avs : List AV} {d : DataW H} (h : RdT Try.prog hp (n + 2) 30 avs d) : ∃ t k, avs = [I t, I k] := by
  unfold RdT at h
  simp only [Try.underlying30] at h
  obtain ⟨dl, cl, _, rfl, hf⟩ := h
  obtain ⟨c0, cl, d0, dl, rfl, rfl, h0, hf⟩ := rdf_cons hf
  obtain ⟨c1, cl, d1, dl, rfl, rfl, h1, hf⟩ := rdf_cons hf
  obtain rfl := rdf_nil hf
  obtain ⟨t, rfl⟩ := rdt_int Try.underlying2 h0
  obtain ⟨k, rfl⟩ := rdt_int Try.underlying3 h1
  exact ⟨t, k, rfl⟩
theorem rd_op {n : Nat} {avs : List AV} {d : DataW H} (h : RdT Try.prog hp (n + 4) 35 avs d) : ∃ o, OpH hp avs o := by
  unfold RdT at h
  simp only [Try.underlying35] at h
  obtain ⟨dl, cl, _, rfl, hf⟩ := h
  obtain ⟨c0, cl, d0, dl, rfl, rfl, h0, hf⟩ := rdf_cons hf
  obtain ⟨c1, cl, d1, dl, rfl, rfl, h1, hf⟩ := rdf_cons hf
  obtain ⟨c2, cl, d2, dl, rfl, rfl, h2, hf⟩ := rdf_cons hf
  obtain ⟨c3, cl, d3, dl, rfl, rfl, h3, hf⟩ := rdf_cons hf
  obtain ⟨c4, cl, d4, dl, rfl, rfl, h4, hf⟩ := rdf_cons hf
  obtain ⟨c5, cl, d5, dl, rfl, rfl, h5, hf⟩ := rdf_cons hf
  obtain ⟨c6, cl, d6, dl, rfl, rfl, h6, hf⟩ := rdf_cons hf
  obtain ⟨c7, cl, d7, dl, rfl, rfl, h7, hf⟩ := rdf_cons hf
  obtain rfl := rdf_nil hf
  obtain ⟨t, k, rfl⟩ := rd_id h0
  obtain ⟨q, rfl⟩ := rdt_int Try.underlying2 h1
  obtain ⟨kd, rfl⟩ := rdt_int Try.underlying3 h2
  obtain ⟨ot, ok, rfl⟩ := rd_id h3
  obtain ⟨pt, pk, rfl⟩ := rd_id h4
  obtain ⟨nm, rfl, hn⟩ := rdt_str Try.underlying9 h5
  obtain ⟨vd, dt, rfl, hd⟩ := rdt_by Try.underlying31 Try.underlying5 (by kernel_rfl) h6
  obtain ⟨vs, sn, rfl, hs⟩ := rdt_vec Try.underlying33 Try.underlying2 (by kernel_rfl) (by kernel_rfl) h7
  exact ⟨⟨t, k, q, kd, ot, ok, pt, pk, nm, dt, sn⟩, vd, vs, rfl, hd, hs, Nat.le_trans hn (by decide)⟩
theorem rd_ops {n : Nat} {avs : List AV} {d : DataW H} (h : RdT Try.prog hp (n + 5) 22 avs d) : ∃ (v : AV) (els : List (List AV)) (os : List FOp), avs = [v] ∧ Rd hp 11 v els ∧ els.length = os.length ∧ ∀ j (h1 : j < els.length) (h2 : j < os.length), OpH hp els[j] os[j] := by
  unfold RdT at h
  simp only [Try.underlying22] at h
  have hc : Try.prog.cellsOf 35 = 11 := by kernel_rfl
  have hb : Try.prog.bytesOf 35 = 128 := by kernel_rfl
  rcases h with ⟨rfl, _⟩ | ⟨o, rfl, _⟩ | ⟨o, c, ob, ds, sp, rfl, _, h1, h2, h3, h4, _, h5⟩
  · exact ⟨_, [], [], rfl, .inl ⟨rfl, rfl⟩, rfl, fun j h1 => by simp at h1⟩
  · exact ⟨_, [], [], rfl, .inr (.inl ⟨o, rfl, rfl⟩), rfl, fun j h1 => by simp at h1⟩
  · rw [hc] at h5
    obtain ⟨l, l1, l2⟩ := list_choose (p := fun j (z : List AV × FOp) => cellsO ob 11 (j * 11) = some z.1 ∧ OpH hp z.1 z.2) ds.length fun j hj => by
      obtain ⟨cj, r1, _, r3⟩ := h5 j hj
      obtain ⟨a, ha⟩ := rd_op r3
      exact ⟨(cj, a), r1, ha⟩
    have hbd : ds.length ≤ 17592186044416 := by
      rw [hb] at h2
      have : reachBytes ≤ 140737488355328 := by decide
      omega
    refine ⟨_, l.map Prod.fst, l.map Prod.snd, rfl, .inr (.inr ⟨o, 0, true, c, _, by simp [l1], h3, h4, ⟨by simp; omega, fun _ => by simp; omega⟩, fun j hj => ?_⟩), by simp, fun j h1 h2 => ?_⟩
    · have hj' : j < l.length := by simpa using hj
      rw [Nat.zero_add, List.getElem_map]
      exact (l2 j hj').1
    · have hj' : j < l.length := by simpa using h1
      rw [List.getElem_map, List.getElem_map]
      exact (l2 j hj').2
end
end Lg

