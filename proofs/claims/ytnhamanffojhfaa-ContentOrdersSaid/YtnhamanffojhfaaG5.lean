/-
  What functions of the program do, said of the abstract machine, and plain lemmas: LgIns LgAdd LgSorted LgSome LgCon17 LgPlain17 LgLaw17O YtnhamanffojhfaaCon LgTab17 LgArg. No condition.
-/
import Derived.Test.YtnhamanffojhfaaG4
import Derived.Test.YtnhamanffojhfaaProg
import Derived.KernelRfl
namespace Lg
set_option linter.unusedSimpArgs false
set_option linter.unusedVariables false
set_option maxRecDepth 100000
open Go Go.Am
theorem take_flat {k : Nat} : ∀ (els : List (List AV)) (_ : ∀ e ∈ els, e.length = k) (p : Nat), els.flatten.take (p * k) = (els.take p).flatten ∧ els.flatten.drop (p * k) = (els.drop p).flatten
  | [], _, p => by simp
  | x :: l, he, 0 => by simp
  | x :: l, he, p + 1 => by
    have h1 := he x (by simp)
    have ih := take_flat l (fun e h => he e (by simp [h])) p
    have e1 : (p + 1) * k = x.length + p * k := by rw [h1, Nat.add_mul, Nat.one_mul, Nat.add_comm]
    rw [e1, List.flatten_cons, List.take_succ_cons, List.drop_succ_cons, List.flatten_cons]
    constructor
    · rw [List.take_length_add_append, ih.1]
    · rw [List.drop_length_add_append, ih.2]
theorem Cells.notBy {ob : AObj} {cs : List AV} (h : Cells ob cs) : Go.Am.notBy ob = true := by
  cases ob with
  | byts n z => exact h.1.elim
  | row l => rfl
  | big n t d => rfl
  | sit n x p => rfl
  | map es c => rfl
  | mit m s l c => rfl
theorem SlN.flat {h : Hp} {esz : Nat} {v : AV} {els : List (List AV)} {B : Nat} (hv : SlN h esz v els B) : flatV v = true := by
  rcases hv with ⟨rfl, _⟩ | ⟨o, ob, rfl, _⟩ <;> rfl
theorem ins_go {cf : CallK} {g : FuncId} {k bs : Nat} (hg : cf g = insH k bs) {h : Hp} {v : AV} {els : List (List AV)} {B : Nat} (hv : SlN h k v els B) {p : Nat} (hp : p ≤ els.length) {vo : Nat} {cs : List AV} {kn' : Bool} {c' : Nat} (hvo : h.at vo = some ⟨true, k, .row cs⟩) (hcs : cs.length = k)
    (hne : ∀ o off n kn c, v = .slice o off n kn c → o ≠ vo) (hb : (els.length + 1) * bs ≤ 140737488355328) (hb2 : els.length ≤ 1000000) {K : AV → Hp → Prop}
    (hK : ∀ v' h', h.next < h'.next → (∀ q, q < h.next → (∀ off n kn c, v ≠ .slice q off n kn c) → h'.at q = h.at q) → SlN h' k v' (els.take p ++ cs :: els.drop p) h.next → K v' h') : cf g [v, .int .i64 p, .slice vo 0 1 kn' c'] h K := by
  have hc : cellsO (.row cs) (1 * k) 0 = some cs := by
    rw [cellsO_cells (Cells.row cs) _ 0 (by omega), List.drop_zero, List.take_of_length_le (by omega)]
  have hbs : bs ≤ 140737488355328 := by
    have : 1 * bs ≤ (els.length + 1) * bs := Nat.mul_le_mul_right _ (by omega)
    omega
  rw [hg]
  rcases hv with ⟨rfl, rfl⟩ | ⟨o, ob, rfl, h1, h2, h3, h4, h5, h6⟩
  · obtain rfl : p = 0 := by simpa using hp
    show gd (kindEq .i64 .i64) (gd (Nat.blt 0 1) (asOpt (h.at vo) fun ev => gd (Nat.beq ev.esz k) (cellsK ev.obj (1 * k) 0 fun new => gd (Nat.beq 0 0 && (Nat.ble (1 * bs) 140737488355328 && Nat.ble 1 140737488355328)) (rowK false new fun ob => finK k 1 h ob K))))
    refine gd_iff.2 ⟨rfl, gd_iff.2 ⟨rfl, ?_⟩⟩
    rw [hvo, asOpt_some]
    refine gd_iff.2 ⟨by simp, ?_⟩
    rw [cellsK_O, hc, asOpt_some]
    refine gd_iff.2 ⟨by simp; omega, rowK_intro _ _ fun ob hob => ?_⟩
    unfold finK
    rw [newK_eq']
    refine hK _ _ (by simp [Hp.next_new]) (fun q hq _ => by rw [Hp.at_new, if_neg (by omega)]) (.inr ⟨h.next, ob, rfl, Nat.le_refl _, by simp [Hp.next_new], Hp.at_new_self _ _, by simpa using hob, ?_, by simp⟩)
    intro e he
    simp at he
    rw [he, hcs]
  · have hn : 0 < els.length := List.length_pos_iff.2 h6
    have hov : ¬ vo = o := fun q => hne _ _ _ _ _ rfl q.symm
    show gd (kindEq .i64 .i64) (gd (Nat.blt 0 1) (asOpt (h.at vo) fun ev => gd (Nat.beq ev.esz k) (cellsK ev.obj (1 * k) 0 fun new => gd ((!false) && (((Nat.ble p els.length && notBy ev.obj) && (Nat.blt 0 els.length && !(Nat.beq vo o))) && (Nat.ble ((els.length + 1) * bs) 140737488355328 && Nat.ble (els.length + 1) 140737488355328)))
      (asOpt (h.at o) fun e => gd (notBy e.obj && (e.own && (Nat.beq e.esz k && Nat.ble 0 (0 * k)))) (cellsK e.obj (els.length * k) 0 fun old => putK h o none fun h => forceN (els.length + 1) fun N => rowK false (old.take (p * k) ++ (new ++ old.drop (p * k))) fun ob => finK k N h ob K)))))
    refine gd_iff.2 ⟨rfl, gd_iff.2 ⟨rfl, ?_⟩⟩
    rw [hvo, asOpt_some]
    refine gd_iff.2 ⟨by simp, ?_⟩
    rw [cellsK_O, hc, asOpt_some]
    refine gd_iff.2 ⟨?_, ?_⟩
    · have e1 : Nat.ble p els.length = true := Nat.ble_eq_true_of_le hp
      have e2 : Nat.blt 0 els.length = true := by simpa using hn
      have e3 : Nat.beq vo o = false := by
        cases q : Nat.beq vo o with
        | false => rfl
        | true => exact absurd (Nat.eq_of_beq_eq_true q) hov
      have e4 : Nat.ble ((els.length + 1) * bs) 140737488355328 = true := Nat.ble_eq_true_of_le hb
      have e5 : Nat.ble (els.length + 1) 140737488355328 = true := Nat.ble_eq_true_of_le (by omega)
      rw [e1, e2, e3, e4, e5]
      rfl
    · rw [h3, asOpt_some]
      refine gd_iff.2 ⟨by rw [Cells.notBy h4]; simp, ?_⟩
      have hfl := flat_len h5
      have hwh : els.flatten.take (els.length * k) = els.flatten := List.take_of_length_le (by omega)
      rw [cellsK_O, cellsO_cells h4 _ 0 (by omega), asOpt_some, putK_eq', forceN_eq, List.drop_zero, hwh]
      have hf := take_flat els h5 p
      rw [hf.1, hf.2]
      refine rowK_intro _ _ fun ob' hob => ?_
      unfold finK
      rw [newK_eq']
      refine hK _ _ (by simp [Hp.next_new, Hp.next_put]) (fun q hq hv => ?_) (.inr ⟨h.next, ob', ?_, Nat.le_refl _, by simp [Hp.next_new, Hp.next_put], Hp.at_new_self _ _, ?_, ?_, by simp⟩)
      · rw [Hp.at_new, if_neg (by simp only [Hp.next_put]; omega), Hp.at_put_ne _ (fun e => hv _ _ _ _ (by rw [e]))]
      · have : (els.take p ++ cs :: els.drop p).length = els.length + 1 := by simp; omega
        rw [this]; rfl
      · rw [List.flatten_append, List.flatten_cons]; exact hob
      · intro e he
        rcases List.mem_append.1 he with he | he
        · exact h5 e (List.mem_of_mem_take he)
        · rcases List.mem_cons.1 he with rfl | he
          · exact hcs
          · exact h5 e (List.mem_of_mem_drop he)
end Lg

namespace Lg
set_option linter.unusedSimpArgs false
set_option linter.unusedVariables false
set_option maxRecDepth 100000
open Go Go.Am
open Go.Proofs.Ytnhamanffojhfaa.shl
def insS (os : List FOp) (a : FOp) : List FOp := os.take (posS os a.t a.n) ++ a :: os.drop (posS os a.t a.n)
theorem insS_nil (a : FOp) : insS [] a = [a] := rfl
theorem insS_cons (b : FOp) (l : List FOp) (a : FOp) : insS (b :: l) a = if ahead a.t a.n b = true then b :: insS l a else a :: b :: l := by
  unfold insS posS
  rw [List.takeWhile_cons]
  cases ahead a.t a.n b with
  | true => simp
  | false => simp
theorem found_cons (b : FOp) (l : List FOp) (t n : Int) : foundAt (b :: l) (posS (b :: l) t n) t n = if ahead t n b = true then foundAt l (posS l t n) t n else sameI b.t b.n t n := by
  unfold foundAt posS
  rw [List.takeWhile_cons]
  cases ahead t n b with
  | true => simp
  | false => simp
theorem insS_mem (a : FOp) : ∀ (l : List FOp) (x : FOp), x ∈ insS l a ↔ x = a ∨ x ∈ l
  | [], x => by simp [insS_nil]
  | b :: l, x => by
    rw [insS_cons]
    split
    · rw [List.mem_cons, insS_mem a l x, List.mem_cons]
      constructor
      · rintro (h | h | h)
        · exact .inr (.inl h)
        · exact .inl h
        · exact .inr (.inr h)
      · rintro (h | h | h)
        · exact .inr (.inl h)
        · exact .inl h
        · exact .inr (.inr h)
    · simp
theorem insS_len (l : List FOp) (a : FOp) : (insS l a).length = l.length + 1 := by
  have := posS_le l a.t a.n
  unfold insS
  simp
  omega
theorem rising_ins (a : FOp) : ∀ (l : List FOp), Rising l → foundAt l (posS l a.t a.n) a.t a.n = false → Rising (insS l a)
  | [], _, _ => by rw [insS_nil]; exact List.pairwise_singleton _ _
  | b :: l, hr, hf => by
    have hp := List.pairwise_cons.1 hr
    rw [found_cons] at hf
    rw [insS_cons]
    by_cases q : ahead a.t a.n b = true
    · rw [if_pos q] at hf ⊢
      refine List.pairwise_cons.2 ⟨fun x hx => ?_, rising_ins a l hp.2 hf⟩
      rcases (insS_mem a l x).1 hx with rfl | hx
      · exact q
      · exact hp.1 x hx
    · rw [if_neg q] at hf ⊢
      have hab : lessI a.t a.n b.t b.n = true := by
        simp only [ahead, sameI, lessI, Bool.or_eq_true, Bool.and_eq_true, decide_eq_true_eq, Bool.and_eq_false_iff, decide_eq_false_iff_not] at *
        omega
      refine List.pairwise_cons.2 ⟨fun x hx => ?_, hr⟩
      rcases List.mem_cons.1 hx with rfl | hx
      · exact hab
      · exact lessI_trans hab (hp.1 x hx)
theorem rel_ins {α β : Type} {R : α → β → Prop} {x : α} {y : β} (hxy : R x y) : ∀ (A : List α) (B : List β) (P : Nat), A.length = B.length → (∀ j (h1 : j < A.length) (h2 : j < B.length), R A[j] B[j]) → P ≤ A.length →
    (A.take P ++ x :: A.drop P).length = (B.take P ++ y :: B.drop P).length ∧ ∀ j (h1 : j < (A.take P ++ x :: A.drop P).length) (h2 : j < (B.take P ++ y :: B.drop P).length), R (A.take P ++ x :: A.drop P)[j] (B.take P ++ y :: B.drop P)[j]
  | A, B, 0, hl, hr, _ => ⟨by simp [hl], fun j h1 h2 => by
    cases j with
    | zero => exact hxy
    | succ j => exact hr j (Nat.lt_of_succ_lt_succ (show j + 1 < A.length + 1 from h1)) (Nat.lt_of_succ_lt_succ (show j + 1 < B.length + 1 from h2))⟩
  | a :: A, b :: B, P + 1, hl, hr, hp => by
    have ih := rel_ins hxy A B P (by simpa using hl) (fun j h1 h2 => hr (j + 1) (Nat.succ_lt_succ h1) (Nat.succ_lt_succ h2)) (by simpa using hp)
    refine ⟨congrArg (· + 1) ih.1, fun j h1 h2 => ?_⟩
    cases j with
    | zero => exact hr 0 (Nat.succ_pos _) (Nat.succ_pos _)
    | succ j => exact ih.2 j (Nat.lt_of_succ_lt_succ (show j + 1 < (A.take P ++ x :: A.drop P).length + 1 from h1)) (Nat.lt_of_succ_lt_succ (show j + 1 < (B.take P ++ y :: B.drop P).length + 1 from h2))
  | [], _, P + 1, _, _, hp => by simp at hp
  | _ :: _, [], P + 1, hl, _, _ => by simp at hl

/-- A file that owns all that it speaks of. -/
def FileS (h : Hp) (fo : Nat) (os : List FOp) (F : Nat → Prop) : Prop :=
  ∃ v els, F fo ∧ (∀ q, F q → q < h.next) ∧ h.at fo = some ⟨true, 1, .row [v]⟩ ∧ SlN h 5 v els 0 ∧ SlQ (fun o => F o ∧ o ≠ fo) v ∧ VersR h els os ∧ (∀ cs ∈ els, ∀ x ∈ cs, SlQ (fun o => F o ∧ o ≠ fo ∧ ∀ off n kn c, v ≠ .slice o off n kn c) x) ∧ Rising os
theorem VerH.same {h h' : Hp} {cs : List AV} {a : FOp} (hv : VerH h cs a) (hn : h.next ≤ h'.next) {Q : Nat → Prop} (hq : ∀ x ∈ cs, SlQ Q x) (hs : ∀ q, Q q → q < h.next → h'.at q = h.at q) : VerH h' cs a := by
  obtain ⟨vs, vd, rfl, h1, h2⟩ := hv
  exact ⟨vs, vd, rfl, h1.same hn (fun o off n kn c e q => hs o (hq vs (by simp) o off n kn c e) q), h2.same hn (fun o off n kn c e q => hs o (hq vd (by simp) o off n kn c e) q)⟩
theorem FileS.keep {h h' : Hp} {fo : Nat} {os : List FOp} {F : Nat → Prop} (hf : FileS h fo os F) (hn : h.next ≤ h'.next) (hs : ∀ q, F q → h'.at q = h.at q) : FileS h' fo os F := by
  obtain ⟨v, els, f1, f2, f3, f4, f5, f6, f7, f8⟩ := hf
  refine ⟨v, els, f1, fun q hq => Nat.lt_of_lt_of_le (f2 q hq) hn, by rw [hs fo f1]; exact f3, ?_, f5, ⟨f6.1, fun j h1 h2 => ?_⟩, f7, f8⟩
  · rcases f4 with f4 | ⟨o, ob, e1, e2, e3, e4, e5⟩
    · exact .inl f4
    · exact .inr ⟨o, ob, e1, e2, Nat.lt_of_lt_of_le e3 hn, by rw [hs o (f5 _ _ _ _ _ e1).1]; exact e4, e5⟩
  · exact (f6.2 j h1 h2).same hn (f7 _ (List.getElem_mem h1)) fun q hq _ => hs q hq.1
theorem FileS.ext {h h' : Hp} {fo : Nat} {os : List FOp} {F : Nat → Prop} (hf : FileS h fo os F) (hx : Ext h h') : FileS h' fo os F :=
  hf.keep hx.next fun q hq => hx.same q (by obtain ⟨v, els, f1, f2, _⟩ := hf; exact f2 q hq)
theorem FileS.lt {h : Hp} {fo : Nat} {os : List FOp} {F : Nat → Prop} (hf : FileS h fo os F) {q : Nat} (hq : F q) : q < h.next := by obtain ⟨v, els, f1, f2, _⟩ := hf; exact f2 q hq
theorem FileS.file {h : Hp} {fo : Nat} {os : List FOp} {F : Nat → Prop} (hf : FileS h fo os F) (hb : os.length ≤ 1000000) : ∃ v els, FileH h fo v els os ∧ els.length = os.length := by
  obtain ⟨v, els, f1, f2, f3, f4, f5, f6, f7, f8⟩ := hf
  exact ⟨v, els, ⟨f2 fo f1, f3, SlN.rd f4 (by have := f6.1; omega), f6⟩, f6.1⟩
theorem FileS.new {h : Hp} {fo : Nat} (hl : fo < h.next) (h1 : h.at fo = some ⟨true, 1, .row [.nilslice]⟩) : FileS h fo [] (fun q => q = fo) :=
  ⟨.nilslice, [], rfl, fun q hq => by rw [hq]; exact hl, h1, .inl ⟨rfl, rfl⟩, SlQ.nil _, ⟨rfl, fun j h1 => by simp at h1⟩, (fun cs hc => by cases hc), List.Pairwise.nil⟩

def cBS : ConD := fun args h K => ∃ v els os t n, args = [v, .agg [I t, I n], .func 57 [] []] ∧ Rd h 5 v els ∧ VersR h els os ∧ Rising os ∧ K (.tup [I (posS os t n), .bool (foundAt os (posS os t n) t n)]) h
theorem cBS_go {cf : CallK} {g : FuncId} (hg : cf g = cBS) {h : Hp} {v : AV} {els : List (List AV)} {os : List FOp} {t n : Int} {K : AV → Hp → Prop} (hr : Rd h 5 v els) (ho : VersR h els os) (hri : Rising os)
    (h1 : foundAt os (posS os t n) t n = true → K (.tup [I (posS os t n), .bool true]) h) (h2 : foundAt os (posS os t n) t n = false → K (.tup [I (posS os t n), .bool false]) h) : cf g [v, .agg [I t, I n], .func 57 [] []] h K := by
  rw [hg]; exact ⟨v, els, os, t, n, rfl, hr, ho, hri, two_ways (F := fun b => K (.tup [I (posS os t n), .bool b]) h) h1 h2⟩
section
variable (cf : CallK) (fuel : Nat) {h : Hp} {K : AV → Hp → Prop}
theorem AddB0_run (hB : cf 56 = cBS) (hO : cf 22 = cOf) (hI : cf 59 = insH 5 72)
    {fo : Nat} {os : List FOp} {F : Nat → Prop} (hf : FileS h fo os F) (hlen : os.length ≤ 1000000) {a : FOp} {vd vs : AV} {p : Nat} (hat : h.at p = some ⟨true, 11, .row [I a.t, I a.n, I a.seq, I a.kind, I a.ot, I a.on, I a.pt, I a.pn, S a.name, vd, vs]⟩) (hpl : p < h.next)
    (ho : OpH h [I a.t, I a.n, I a.seq, I a.kind, I a.ot, I a.on, I a.pt, I a.pn, S a.name, vd, vs] a)
    (hK1 : foundAt os (posS os a.t a.n) a.t a.n = true → K (I 17) h)
    (hK2 : foundAt os (posS os a.t a.n) a.t a.n = false → ∀ h' F', h.next ≤ h'.next → (∀ q, q < h.next → ¬ F q → h'.at q = h.at q) → FileS h' fo (insS os a) F' → (∀ q, F' q → F q ∨ h.next ≤ q) → K (I 0) h') : s_content_File_AddB0 cf fuel K (.ptr fo 0) (.ptr p 0) h := by
  obtain ⟨v, els, f1, f2, f3, f4, f5, f6, f7, f8⟩ := hf
  have hel : els.length = os.length := f6.1
  have fol := f2 fo f1
  have hr := SlN.rd f4 (by omega)
  have hfl := SlN.flat f4
  unfold s_content_File_AddB0
  (try unfold vMov); repeat' (first | refine Step.imp ?_ | (refine Way.mk (fun hp => ?_) (fun hp => ?_) <;> first | contradiction | (exfalso; omega) | skip) | refine LoadG.mk (by simp (disch := (first | omega | (simp only [Hp.next_new, Hp.next_put]; omega))) only [Hp.at_new_self, Hp.at_put_self, Hp.at_new_lt, Hp.at_put_ne, hat] <;> rfl) (by simp only [cellAt_row', setL_cons0, setL_succ, Nat.reduceAdd, Nat.reduceMul, Nat.zero_add, Nat.add_zero, List.getElem?_cons_succ, List.getElem?_cons_zero]; rfl) ?_ | refine LoadsG.mk (by simp (disch := (first | omega | (simp only [Hp.next_new, Hp.next_put]; omega))) only [Hp.at_new_self, Hp.at_put_self, Hp.at_new_lt, Hp.at_put_ne, hat] <;> rfl) (by rfl) ?_ | refine AtG.mk (by rfl) ?_ | refine StoreG.mk (by simp (disch := (first | omega | (simp only [Hp.next_new, Hp.next_put]; omega))) only [Hp.at_new_self, Hp.at_put_self, Hp.at_new_lt, Hp.at_put_ne, hat] <;> rfl) (by first | omega | (simp; done) | (simp; omega)) ?_ | refine CondG.mk (by first | omega | exact sameV_flat _ rfl | exact sameV_agg _ (by simp [flatV]) | (simp; done) | (simp [repL, setL]; done) | (simp; omega)) ?_ | (refine LoadG.mk f3 (by rfl) ?_) | (refine cBS_go hB hr f6 f8 (fun hp => ?_) (fun hp => ?_)) | fail); (all_goals (try dsimp only))
  · exact hK1 hp
  · refine cOf_go hO ho (fun cs h1 x1 w1 q1 => ?_)
    have n1 := x1.next
    have g3 : h1.at fo = some ⟨true, 1, .row [v]⟩ := by rw [x1.same fo fol]; exact f3
    obtain ⟨vs1, vd1, rfl, w2, w3⟩ := w1
    have w1 : VerH h1 [I a.t, I a.n, I a.seq, vs1, vd1] a := ⟨vs1, vd1, rfl, w2, w3⟩
    have hnv : ∀ o off n kn c, v = .slice o off n kn c → o < h.next := fun o off n kn c e => f2 o (f5 _ _ _ _ _ e).1
    have fs := w2.flat
    have fd := w3.flat
    (try unfold vMov); repeat' (first | refine Step.imp ?_ | (refine Way.mk (fun hp => ?_) (fun hp => ?_) <;> first | contradiction | (exfalso; omega) | skip) | refine LoadG.mk (by simp (disch := (first | omega | (simp only [Hp.next_new, Hp.next_put]; omega))) only [Hp.at_new_self, Hp.at_put_self, Hp.at_new_lt, Hp.at_put_ne, g3] <;> rfl) (by simp only [cellAt_row', setL_cons0, setL_succ, Nat.reduceAdd, Nat.reduceMul, Nat.zero_add, Nat.add_zero, List.getElem?_cons_succ, List.getElem?_cons_zero]; rfl) ?_ | refine LoadsG.mk (by simp (disch := (first | omega | (simp only [Hp.next_new, Hp.next_put]; omega))) only [Hp.at_new_self, Hp.at_put_self, Hp.at_new_lt, Hp.at_put_ne, g3] <;> rfl) (by rfl) ?_ | refine AtG.mk (by rfl) ?_ | refine StoreG.mk (by simp (disch := (first | omega | (simp only [Hp.next_new, Hp.next_put]; omega))) only [Hp.at_new_self, Hp.at_put_self, Hp.at_new_lt, Hp.at_put_ne, g3] <;> rfl) (by first | omega | (simp; done) | (simp; omega)) ?_ | refine CondG.mk (by first | omega | exact sameV_flat _ rfl | exact sameV_agg _ (by simp [flatV]) | (simp; done) | (simp [repL, setL]; done) | (simp; omega)) ?_ | (refine LoadG.mk g3 (by rfl) ?_) | (refine CondG.mk (sameV_flat _ hfl) ?_) | fail); (all_goals (try dsimp only))
    have x2 : Ext h (h1.new ⟨true, 5, .row [I a.t, I a.n, I a.seq, vs1, vd1]⟩) := x1.new _
    refine ins_go hI (els := els) (B := 0) (f4.ext x2) (p := posS os a.t a.n) (by rw [hel]; exact posS_le _ _ _) (vo := h1.next) (cs := [I a.t, I a.n, I a.seq, vs1, vd1]) (by rw [Hp.at_new_self]) rfl (fun o off n kn c e => by have := hnv _ _ _ _ _ e; omega) (by omega) (by omega) (fun v' h3 k1 k2 k3 => ?_)
    simp only [Hp.next_new] at k1 k3
    have k2' : ∀ q, q < h1.next → (∀ off n kn c, v ≠ .slice q off n kn c) → h3.at q = h1.at q := fun q hq hv => by
      rw [k2 q (by simp only [Hp.next_new]; omega) hv, Hp.at_new_lt _ hq]
    have g4 : h3.at fo = some ⟨true, 1, .row [v]⟩ := by
      rw [k2' fo (by omega) (fun off n kn c e => (f5 _ _ _ _ _ e).2 rfl)]; exact g3
    have hne' : els.take (posS os a.t a.n) ++ [I a.t, I a.n, I a.seq, vs1, vd1] :: els.drop (posS os a.t a.n) ≠ [] := by simp
    rcases k3 with ⟨_, q⟩ | ⟨o', ob', rfl, k4, k5, k6, k7, k8, k9⟩
    · exact absurd q hne'
    (try unfold vMov); repeat' (first | refine Step.imp ?_ | (refine Way.mk (fun hp => ?_) (fun hp => ?_) <;> first | contradiction | (exfalso; omega) | skip) | refine LoadG.mk (by simp (disch := (first | omega | (simp only [Hp.next_new, Hp.next_put]; omega))) only [Hp.at_new_self, Hp.at_put_self, Hp.at_new_lt, Hp.at_put_ne, g4] <;> rfl) (by simp only [cellAt_row', setL_cons0, setL_succ, Nat.reduceAdd, Nat.reduceMul, Nat.zero_add, Nat.add_zero, List.getElem?_cons_succ, List.getElem?_cons_zero]; rfl) ?_ | refine LoadsG.mk (by simp (disch := (first | omega | (simp only [Hp.next_new, Hp.next_put]; omega))) only [Hp.at_new_self, Hp.at_put_self, Hp.at_new_lt, Hp.at_put_ne, g4] <;> rfl) (by rfl) ?_ | refine AtG.mk (by rfl) ?_ | refine StoreG.mk (by simp (disch := (first | omega | (simp only [Hp.next_new, Hp.next_put]; omega))) only [Hp.at_new_self, Hp.at_put_self, Hp.at_new_lt, Hp.at_put_ne, g4] <;> rfl) (by first | omega | (simp; done) | (simp; omega)) ?_ | refine CondG.mk (by first | omega | exact sameV_flat _ rfl | exact sameV_agg _ (by simp [flatV]) | (simp; done) | (simp [repL, setL]; done) | (simp; omega)) ?_ | (refine StoreG.mk g4 ⟨rfl, by simp⟩ ?_) | fail); (all_goals (try dsimp only))
    refine hK2 hp (h3.put fo (some ⟨true, 1, .row (setL [v] 0 [.slice o' 0 (els.take (posS os a.t a.n) ++ [I a.t, I a.n, I a.seq, vs1, vd1] :: els.drop (posS os a.t a.n)).length false 0])⟩)) (fun q => F q ∨ (h.next ≤ q ∧ q < h3.next)) (by simp only [Hp.next_put]; omega) (fun q hq hF => ?_) ⟨.slice o' 0 (els.take (posS os a.t a.n) ++ [I a.t, I a.n, I a.seq, vs1, vd1] :: els.drop (posS os a.t a.n)).length false 0, els.take (posS os a.t a.n) ++ [I a.t, I a.n, I a.seq, vs1, vd1] :: els.drop (posS os a.t a.n), .inl f1, fun q hq => ?_, ?_, ?_, ?_, ?_, ?_, rising_ins a os f8 hp⟩ (fun q hq => ?_)
    · rw [Hp.at_put_ne _ (fun e => hF (by rw [e]; exact f1)), k2' q (by omega) (fun off n kn c e => hF (f5 _ _ _ _ _ e).1), x1.same q hq]
    · rcases hq with hq | hq
      · have := f2 q hq
        simp only [Hp.next_put]; omega
      · simp only [Hp.next_put]; exact hq.2
    · rw [Hp.at_put_self]; rfl
    · exact .inr ⟨o', ob', rfl, Nat.zero_le _, by simp only [Hp.next_put]; exact k5, by rw [Hp.at_put_ne _ (by omega)]; exact k6, k7, k8, k9⟩
    · intro o off n kn c e
      cases e
      exact ⟨.inr ⟨by omega, k5⟩, by omega⟩
    · have old : ∀ j (h1' : j < els.length) (h2 : j < os.length), VerH (h3.put fo (some ⟨true, 1, .row (setL [v] 0 [.slice o' 0 (els.take (posS os a.t a.n) ++ [I a.t, I a.n, I a.seq, vs1, vd1] :: els.drop (posS os a.t a.n)).length false 0])⟩)) els[j] os[j] := fun j h1' h2 =>
        (f6.2 j h1' h2).same (by simp only [Hp.next_put]; omega) (f7 _ (List.getElem_mem h1')) fun q hq ql => by
          rw [Hp.at_put_ne _ hq.2.1, k2' q (by omega) hq.2.2, x1.same q ql]
      have new : VerH (h3.put fo (some ⟨true, 1, .row (setL [v] 0 [.slice o' 0 (els.take (posS os a.t a.n) ++ [I a.t, I a.n, I a.seq, vs1, vd1] :: els.drop (posS os a.t a.n)).length false 0])⟩)) [I a.t, I a.n, I a.seq, vs1, vd1] a :=
        w1.same (by simp only [Hp.next_put]; omega) q1 fun q hq ql => by
          rw [Hp.at_put_ne _ (by omega), k2' q ql (fun off n kn c e => by have := hnv _ _ _ _ _ e; omega)]
      exact rel_ins new els os _ f6.1 old (by rw [hel]; exact posS_le _ _ _)
    · intro cs hcs x hx
      have oldq : ∀ cs ∈ els, ∀ x ∈ cs, SlQ (fun o => (F o ∨ (h.next ≤ o ∧ o < h3.next)) ∧ o ≠ fo ∧ ∀ off n kn c, AV.slice o' 0 (els.take (posS os a.t a.n) ++ [I a.t, I a.n, I a.seq, vs1, vd1] :: els.drop (posS os a.t a.n)).length false 0 ≠ .slice o off n kn c) x := fun cs hcs x hx =>
        (f7 cs hcs x hx).mono fun o ho => ⟨.inl ho.1, ho.2.1, fun off n kn c e => by cases e; have := f2 _ ho.1; omega⟩
      rcases List.mem_append.1 hcs with hcs | hcs
      · exact oldq cs (List.mem_of_mem_take hcs) x hx
      · rcases List.mem_cons.1 hcs with rfl | hcs
        · exact (q1 x hx).mono fun o ho => ⟨.inr ⟨by omega, by omega⟩, by omega, fun off n kn c e => by cases e; omega⟩
        · exact oldq cs (List.mem_of_mem_drop hcs) x hx
    · rcases hq with hq | hq
      · exact .inl hq
      · exact .inr hq.1
theorem Add_run (hM : cf 55 = cOpB mayO) (hB : cf 56 = cBS) (hO : cf 22 = cOf) (hI : cf 59 = insH 5 72)
    {fo : Nat} {os : List FOp} {F : Nat → Prop} (hf : FileS h fo os F) (hlen : os.length ≤ 1000000) {ca : List AV} {a : FOp} (ha : OpH h ca a)
    (hK0 : (mayO a && decide (a.kind = 4)) = false → ∀ h', Ext h h' → K (I 22) h')
    (hK1 : (mayO a && decide (a.kind = 4)) = true → foundAt os (posS os a.t a.n) a.t a.n = true → ∀ h', Ext h h' → K (I 17) h')
    (hK2 : (mayO a && decide (a.kind = 4)) = true → foundAt os (posS os a.t a.n) a.t a.n = false → ∀ h' F', h.next ≤ h'.next → (∀ q, q < h.next → ¬ F q → h'.at q = h.at q) → FileS h' fo (insS os a) F' → (∀ q, F' q → F q ∨ h.next ≤ q) → K (I 0) h') : s_content_File_Add cf fuel (.ptr fo 0) (.agg ca) h K := by
  have ha' := ha
  obtain ⟨vd, vs, rfl, hd, hs, hn⟩ := ha
  unfold s_content_File_Add
  rw [opFlat]
  rw [opFlat] at ha'
  (try unfold vMov); repeat' (first | refine Step.imp ?_ | (refine Way.mk (fun hp => ?_) (fun hp => ?_) <;> first | contradiction | (exfalso; omega) | skip) | refine LoadG.mk (by simp (disch := (first | omega | (simp only [Hp.next_new, Hp.next_put]; omega))) only [Hp.at_new_self, Hp.at_put_self, Hp.at_new_lt, Hp.at_put_ne] <;> rfl) (by simp only [cellAt_row', setL_cons0, setL_succ, Nat.reduceAdd, Nat.reduceMul, Nat.zero_add, Nat.add_zero, List.getElem?_cons_succ, List.getElem?_cons_zero]; rfl) ?_ | refine LoadsG.mk (by simp (disch := (first | omega | (simp only [Hp.next_new, Hp.next_put]; omega))) only [Hp.at_new_self, Hp.at_put_self, Hp.at_new_lt, Hp.at_put_ne] <;> rfl) (by rfl) ?_ | refine AtG.mk (by rfl) ?_ | refine StoreG.mk (by simp (disch := (first | omega | (simp only [Hp.next_new, Hp.next_put]; omega))) only [Hp.at_new_self, Hp.at_put_self, Hp.at_new_lt, Hp.at_put_ne] <;> rfl) (by first | omega | (simp; done) | (simp; omega)) ?_ | refine CondG.mk (by first | omega | exact sameV_flat _ rfl | exact sameV_agg _ (by simp [flatV]) | (simp; done) | (simp [repL, setL]; done) | (simp; omega)) ?_ | (refine cOpB_go hM (ha'.mono (by repeat (first | exact Ext.refl _ | assumption | apply Ext.new | (refine Ext.put ?_ _ (by first | omega | (simp; done) | (simp; omega)))))) (fun hp => ?_) (fun hp => ?_)) | fail); (all_goals (try dsimp only))
  · rename_i hm
    have hc : (mayO a && decide (a.kind = 4)) = true := by rw [hm, decide_eq_true hp]; rfl
    have x1 : Ext h (h.new ⟨true, 11, .row [I a.t, I a.n, I a.seq, I a.kind, I a.ot, I a.on, I a.pt, I a.pn, S a.name, vd, vs]⟩) := (by repeat (first | exact Ext.refl _ | assumption | apply Ext.new | (refine Ext.put ?_ _ (by first | omega | (simp; done) | (simp; omega)))))
    refine AddB0_run cf fuel hB hO hI (hf.ext x1) hlen (Hp.at_new_self _ _) (by simp [Hp.next_new]) (ha'.mono x1) (fun q => hK1 hc q _ x1) (fun q h' F' y1 y2 y3 y4 => ?_)
    refine hK2 hc q h' F' (Nat.le_trans x1.next y1) (fun z z1 z2 => ?_) y3 (fun z hz => ?_)
    · rw [y2 z (Nat.lt_of_lt_of_le z1 x1.next) z2, x1.same z z1]
    · rcases y4 z hz with r | r
      · exact .inl r
      · exact .inr (Nat.le_trans x1.next r)
  · exact hK0 (by rw [decide_eq_false hp]; simp) _ (by repeat (first | exact Ext.refl _ | assumption | apply Ext.new | (refine Ext.put ?_ _ (by first | omega | (simp; done) | (simp; omega)))))
  · exact hK0 (by rw [hp]; rfl) _ (by repeat (first | exact Ext.refl _ | assumption | apply Ext.new | (refine Ext.put ?_ _ (by first | omega | (simp; done) | (simp; omega)))))
end
end Lg

namespace Lg
set_option linter.unusedSimpArgs false
set_option linter.unusedVariables false
set_option maxRecDepth 100000
open Go Go.Am
open Go.Proofs.Ytnhamanffojhfaa.shl
/-- An element is put into a list that is held in reverse. -/
def insRev {α : Type} (lt : α → α → Bool) (x : α) : List α → List α
  | [] => [x]
  | y :: R => if lt x y = true then y :: insRev lt x R else x :: y :: R
/-- The list sorted, in reverse. -/
def sortRev {α : Type} (lt : α → α → Bool) (l : List α) : List α := l.foldl (fun R x => insRev lt x R) []
def ltF (a b : FOp) : Bool := lessI a.t a.n b.t b.n
def sortedF (os : List FOp) : List FOp := (sortRev ltF os).reverse
abbrev Z := List AV × FOp
def ltZ (a b : Z) : Bool := ltF a.2 b.2
theorem insRev_map {α β : Type} (f : α → β) (lt : β → β → Bool) (x : α) : ∀ R : List α, (insRev (fun a b => lt (f a) (f b)) x R).map f = insRev lt (f x) (R.map f)
  | [] => rfl
  | y :: R => by
    show (if lt (f x) (f y) = true then y :: insRev (fun a b => lt (f a) (f b)) x R else x :: y :: R).map f = (if lt (f x) (f y) = true then f y :: insRev lt (f x) (R.map f) else f x :: f y :: R.map f)
    split
    · rw [List.map_cons, insRev_map f lt x R]
    · rfl
theorem insRev_len {α : Type} (lt : α → α → Bool) (x : α) : ∀ R : List α, (insRev lt x R).length = R.length + 1
  | [] => rfl
  | y :: R => by
    unfold insRev
    split
    · simp [insRev_len lt x R]
    · simp
theorem insRev_mem {α : Type} (lt : α → α → Bool) (x : α) : ∀ (R : List α) (z : α), z ∈ insRev lt x R ↔ z = x ∨ z ∈ R
  | [], z => by simp [insRev]
  | y :: R, z => by
    unfold insRev
    split
    · simp only [List.mem_cons, insRev_mem lt x R z]
      constructor
      · rintro (h | h | h)
        · exact .inr (.inl h)
        · exact .inl h
        · exact .inr (.inr h)
      · rintro (h | h | h)
        · exact .inr (.inl h)
        · exact .inl h
        · exact .inr (.inr h)
    · simp
theorem OpH.flat {h : Hp} {cs : List AV} {a : FOp} (ha : OpH h cs a) : ∀ v ∈ cs, flatV v = true := by
  obtain ⟨vd, vs, rfl, hd, hs, -⟩ := ha
  intro v hv
  have fd := hd.flat
  have fs := hs.flat
  simp only [opCells, List.mem_cons, List.not_mem_nil, or_false] at hv
  rcases hv with rfl | rfl | rfl | rfl | rfl | rfl | rfl | rfl | rfl | rfl | rfl <;> first | rfl | assumption
theorem OpH.self {h : Hp} {cs : List AV} {a : FOp} (ha : OpH h cs a) : sameV (.agg cs) (.agg cs) = true := sameV_agg _ ha.flat
theorem OpH.head {h : Hp} {cs : List AV} {a : FOp} (ha : OpH h cs a) : (cs.drop 0).take 2 = [I a.t, I a.n] := by
  obtain ⟨vd, vs, rfl, -⟩ := ha
  rfl
/-- An own list of operations at an object. -/
def LA (h : Hp) (o : Nat) (cl : List (List AV)) : Prop := o < h.next ∧ ∃ ob, h.at o = some ⟨true, 11, ob⟩ ∧ Cells ob cl.flatten ∧ ∀ e ∈ cl, e.length = 11
theorem cellsO_len {ob : AObj} : ∀ {n off : Nat} {l : List AV}, cellsO ob n off = some l → l.length = n
  | 0, off, l, h => by
    simp only [cellsO, Option.some.injEq] at h
    rw [← h]; rfl
  | n + 1, off, l, h => by
    unfold cellsO at h
    cases h0 : cellAt ob off with
    | none => rw [h0] at h; simp at h
    | some x =>
      rw [h0] at h
      cases h1 : cellsO ob n (off + 1) with
      | none => rw [h1] at h; simp at h
      | some r =>
        rw [h1] at h
        simp at h
        subst h
        simp [cellsO_len h1]
theorem StoreG.mkC2 {h : Hp} {n o off p : Nat} {l : List AV} {k : Hp → Prop} {esz : Nat} {ob : AObj} {cs : List AV} (h1 : h.at o = some ⟨true, esz, ob⟩) (hc : Cells ob cs) (hp : off = p) (h2 : l.length = n ∧ p + l.length ≤ cs.length) (q : ∀ ob', Cells ob' (setL cs p l) → k (h.put o (some ⟨true, esz, ob'⟩))) : StoreG h n o off l k := by
  subst hp
  exact StoreG.mkC h1 hc h2 q
theorem take_snoc {α : Type} : ∀ (l : List α) (i : Nat) (h : i < l.length), l.take (i + 1) = l.take i ++ [l[i]]
  | x :: l, 0, _ => by simp
  | x :: l, i + 1, h => by
    have := take_snoc l i (by simpa using h)
    rw [List.take_succ_cons, this]
    simp
theorem cellsO_sub {ob : AObj} : ∀ (n m d : Nat) {off : Nat} {l : List AV}, cellsO ob n off = some l → d + m ≤ n → cellsO ob m (off + d) = some ((l.drop d).take m)
  | n, 0, d, off, l, h, hd => by simp [cellsO]
  | n, m + 1, d, off, l, h, hd => by
    have h1 := cellsO_nth n h d (by omega)
    have h2 := cellsO_sub n m (d + 1) h (by omega)
    have hl := cellsO_len h
    unfold cellsO
    rw [h1, List.getElem?_eq_getElem (by omega), show off + d + 1 = off + (d + 1) by omega, h2]
    rw [List.drop_eq_getElem_cons (show d < l.length by omega), List.take_succ_cons]
    rfl
theorem LA.at {h : Hp} {o : Nat} {cl : List (List AV)} (hl : LA h o cl) : ∃ ob, h.at o = some ⟨true, 11, ob⟩ ∧ Cells ob cl.flatten ∧ ∀ j (hj : j < cl.length), cellsO ob 11 (j * 11) = some cl[j] := by
  obtain ⟨h1, ob, h2, h3, h4⟩ := hl
  refine ⟨ob, h2, h3, fun j hj => ?_⟩
  have hfl := flat_len h4
  have hle : j * 11 + 11 ≤ cl.flatten.length := by rw [hfl]; omega
  rw [cellsO_cells h3 11 (j * 11) hle, flat_at cl h4 j hj]
theorem flat_set : ∀ (cl : List (List AV)) (_ : ∀ e ∈ cl, e.length = 11) (j : Nat) (_ : j < cl.length) (x : List AV) (_ : x.length = 11), setL cl.flatten (j * 11) x = (cl.set j x).flatten
  | e :: l, he, 0, _, x, hx => by
    have h1 := he e (by simp)
    unfold setL
    rw [List.flatten_cons, Nat.zero_mul, List.take_zero, List.nil_append, Nat.zero_add, List.set_cons_zero, List.flatten_cons, hx, List.drop_left' h1]
  | e :: l, he, j + 1, hj, x, hx => by
    have h1 := he e (by simp)
    have ih := flat_set l (fun e h => he e (by simp [h])) j (by simpa using hj) x hx
    unfold setL at ih ⊢
    have e1 : (j + 1) * 11 = e.length + j * 11 := by omega
    rw [List.flatten_cons, e1, List.take_length_add_append, Nat.add_assoc, List.drop_length_add_append, List.set_cons_succ, List.flatten_cons, ← ih]
    simp [List.append_assoc]
theorem box_load {l zs : List AV} {n : Nat} (h : l.length = n) (hz : zs.length = n) : cellsO (.row (setL zs 0 l)) n 0 = some l := by
  rw [setL_zero _ _ (by omega), cellsO_cells (Cells.row l) n 0 (by omega), List.drop_zero, List.take_of_length_le (by omega)]
section
variable (cf : CallK) (fuel : Nat) {K : AV → Hp → Prop}
theorem SortedL4_run (hL : cf 30 = cIdB2 lessI) {h0 : Hp} {t0 t4 : AV} (e3 : Hp → Prop) {o N : Nat} (ho : h0.next ≤ o) (hN : N ≤ 1000000) :
    ∀ (R S : List Z) (x : Z) (fm : Nat) (h : Hp), R.length + 1 + S.length = N → R.length < fm → Ext h0 h → LA h o ((R.reverse ++ x :: S).map Prod.fst) → (∀ z ∈ R, OpH h0 z.1 z.2) → OpH h0 x.1 x.2 → (∀ h', Ext h0 h' → LA h' o (((insRev ltZ x R).reverse ++ S).map Prod.fst) → e3 h') →
      s_lagoonref12_SortedL4 cf fuel e3 t0 (.slice o 0 N false 0) t4 fm (I R.length) h
  | [], S, x, fm, h, hn, hf, hx, hla, hR, hxo, hK => by
    obtain ⟨fm, rfl⟩ : ∃ k, fm = k + 1 := ⟨fm - 1, by omega⟩
    rw [s_lagoonref12_SortedL4_succ]
    unfold s_lagoonref12_SortedL4B
    try dsimp only
    (try unfold vMov); repeat' (first | refine Step.imp ?_ | (refine Way.mk (fun hp => ?_) (fun hp => ?_) <;> first | contradiction | (exfalso; omega) | skip) | refine LoadG.mk (by simp (disch := (first | omega | (simp only [Hp.next_new, Hp.next_put]; omega))) only [Hp.at_new_self, Hp.at_put_self, Hp.at_new_lt, Hp.at_put_ne] <;> rfl) (by simp only [cellAt_row', setL_cons0, setL_succ, Nat.reduceAdd, Nat.reduceMul, Nat.zero_add, Nat.add_zero, List.getElem?_cons_succ, List.getElem?_cons_zero]; rfl) ?_ | refine LoadsG.mk (by simp (disch := (first | omega | (simp only [Hp.next_new, Hp.next_put]; omega))) only [Hp.at_new_self, Hp.at_put_self, Hp.at_new_lt, Hp.at_put_ne] <;> rfl) (by rfl) ?_ | refine AtG.mk (by rfl) ?_ | refine StoreG.mk (by simp (disch := (first | omega | (simp only [Hp.next_new, Hp.next_put]; omega))) only [Hp.at_new_self, Hp.at_put_self, Hp.at_new_lt, Hp.at_put_ne] <;> rfl) (by first | omega | (simp; done) | (simp; omega)) ?_ | refine CondG.mk (by first | omega | exact sameV_flat _ rfl | exact sameV_agg _ (by simp [flatV]) | (simp; done) | (simp [repL, setL]; done) | (simp; omega)) ?_ | fail); (all_goals (try dsimp only))
    exact hK h hx hla
  | y :: R, S, x, fm, h, hn, hf, hx, hla, hR, hxo, hK => by
    obtain ⟨fm, rfl⟩ : ∃ k, fm = k + 1 := ⟨fm - 1, by omega⟩
    simp only [List.length_cons] at hn hf ⊢
    have hyo := hR y (by simp)
    have lx := hxo.len
    have ly := hyo.len
    have sx := hxo.self
    have sy := hyo.self
    obtain ⟨ob, hat, hcs, hcl⟩ := hla.at
    have hol := hla.1
    have he11 : ∀ e ∈ ((y :: R).reverse ++ x :: S).map Prod.fst, e.length = 11 := by obtain ⟨_, _, _, _, q⟩ := hla; exact q
    have hlen : (((y :: R).reverse ++ x :: S).map Prod.fst).length = N := by simp; omega
    have cx := hcl (R.length + 1) (by omega)
    have cy := hcl R.length (by omega)
    have gx : (((y :: R).reverse ++ x :: S).map Prod.fst)[R.length + 1]'(by omega) = x.1 := by
      rw [List.getElem_map, List.getElem_append_right (by simp)]
      simp
    have gy : (((y :: R).reverse ++ x :: S).map Prod.fst)[R.length]'(by omega) = y.1 := by
      rw [List.getElem_map, List.getElem_append_left (by simp)]
      simp
    rw [gx] at cx
    rw [gy] at cy
    have cx2 := cellsO_sub 11 2 0 cx (by omega)
    have cy2 := cellsO_sub 11 2 0 cy (by omega)
    rw [hxo.head] at cx2
    rw [hyo.head] at cy2
    have e1 : (((R.length + 1 : Nat) : Int) - 1) = (R.length : Int) := by omega
    have ih := SortedL4_run hL (t0 := t0) (t4 := t4) e3 ho hN R (y :: S) x fm
    have hins : insRev ltZ x (y :: R) = if ltZ x y = true then y :: insRev ltZ x R else x :: y :: R := rfl
    rw [s_lagoonref12_SortedL4_succ]
    unfold s_lagoonref12_SortedL4B s_lagoonref12_SortedB7
    try dsimp only
    have swap : ∀ h' ob', Ext h0 h' → h.next ≤ h'.next → h'.at o = some ⟨true, 11, ob'⟩ → Cells ob' (setL (setL (((y :: R).reverse ++ x :: S).map Prod.fst).flatten (R.length * 11) x.1) ((R.length + 1) * 11) y.1) → lessI x.2.t x.2.n y.2.t y.2.n = true →
        s_lagoonref12_SortedL4 cf fuel e3 t0 (.slice o 0 N false 0) t4 fm (I R.length) h' := fun h' ob' y1 y2 y3 y4 y5 => by
      have hl2 : ∀ e ∈ (((y :: R).reverse ++ x :: S).map Prod.fst).set R.length x.1, e.length = 11 := fun e he => by
        rcases List.mem_or_eq_of_mem_set he with q | q
        · exact he11 e q
        · rw [q]; exact lx
      rw [flat_set _ he11 R.length (by omega) x.1 lx, flat_set _ hl2 (R.length + 1) (by rw [List.length_set]; omega) y.1 ly] at y4
      have hset : ((((y :: R).reverse ++ x :: S).map Prod.fst).set R.length x.1).set (R.length + 1) y.1 = (R.reverse ++ x :: (y :: S)).map Prod.fst := by
        simp only [List.reverse_cons, List.append_assoc, List.map_append, List.map_cons, List.map_nil, List.singleton_append, List.cons_append, List.nil_append]
        rw [List.set_append_right _ _ (by simp)]
        simp only [List.length_map, List.length_reverse, Nat.sub_self, List.set_cons_zero]
        rw [List.set_append_right _ _ (by simp)]
        simp
      rw [hset] at y4
      refine ih h' (by simp only [List.length_cons]; omega) (by omega) y1 ⟨Nat.lt_of_lt_of_le hol y2, ob', y3, y4, fun e he => ?_⟩ (fun z hz => hR z (by simp [hz])) hxo (fun h'' z1 z2 => hK h'' z1 ?_)
      · obtain ⟨z, hz, rfl⟩ := List.mem_map.1 he
        rcases List.mem_append.1 hz with hz | hz
        · have hz' : z ∈ R := by simpa using hz
          exact he11 _ (List.mem_map_of_mem (by simp [hz']))
        · rcases List.mem_cons.1 hz with rfl | hz
          · exact lx
          · rcases List.mem_cons.1 hz with rfl | hz
            · exact ly
            · exact he11 _ (List.mem_map_of_mem (by simp [hz]))
      · rw [hins, if_pos (show ltZ x y = true from y5)]
        simpa [List.append_assoc] using z2
    (try unfold vMov); repeat' (first | refine Step.imp ?_ | (refine Way.mk (fun hp => ?_) (fun hp => ?_) <;> first | contradiction | (exfalso; omega) | skip) | refine LoadG.mk (by simp (disch := (first | omega | (simp only [Hp.next_new, Hp.next_put]; omega))) only [Hp.at_new_self, Hp.at_put_self, Hp.at_new_lt, Hp.at_put_ne, hat] <;> rfl) (by simp only [cellAt_row', setL_cons0, setL_succ, Nat.reduceAdd, Nat.reduceMul, Nat.zero_add, Nat.add_zero, List.getElem?_cons_succ, List.getElem?_cons_zero]; rfl) ?_ | refine LoadsG.mk (by simp (disch := (first | omega | (simp only [Hp.next_new, Hp.next_put]; omega))) only [Hp.at_new_self, Hp.at_put_self, Hp.at_new_lt, Hp.at_put_ne, hat] <;> rfl) (by rfl) ?_ | refine AtG.mk (by rfl) ?_ | refine StoreG.mk (by simp (disch := (first | omega | (simp only [Hp.next_new, Hp.next_put]; omega))) only [Hp.at_new_self, Hp.at_put_self, Hp.at_new_lt, Hp.at_put_ne, hat] <;> rfl) (by first | omega | (simp; done) | (simp; omega)) ?_ | refine CondG.mk (by first | omega | exact sameV_flat _ rfl | exact sameV_agg _ (by simp [flatV]) | (simp; done) | (simp [repL, setL]; done) | (simp; omega)) ?_ | (refine LoadsG.mk2 hat cx2 (by omega) ?_) | (refine LoadsG.mk2 hat cy2 (by omega) ?_) | (refine cIdB2_go hL (fun hp => ?_) (fun hp => ?_)) | fail); (all_goals (try dsimp only))
    · have nx := hx.next
      have hfl := flat_len he11
      rw [hlen] at hfl
      refine ⟨?_, ?_⟩
      all_goals
        (try unfold vMov); repeat' (first | refine Step.imp ?_ | (refine Way.mk (fun hp => ?_) (fun hp => ?_) <;> first | contradiction | (exfalso; omega) | skip) | refine LoadG.mk (by simp (disch := (first | omega | (simp only [Hp.next_new, Hp.next_put]; omega))) only [Hp.at_new_self, Hp.at_put_self, Hp.at_new_lt, Hp.at_put_ne, hat] <;> rfl) (by simp only [cellAt_row', setL_cons0, setL_succ, Nat.reduceAdd, Nat.reduceMul, Nat.zero_add, Nat.add_zero, List.getElem?_cons_succ, List.getElem?_cons_zero]; rfl) ?_ | refine LoadsG.mk (by simp (disch := (first | omega | (simp only [Hp.next_new, Hp.next_put]; omega))) only [Hp.at_new_self, Hp.at_put_self, Hp.at_new_lt, Hp.at_put_ne, hat] <;> rfl) (by rfl) ?_ | refine AtG.mk (by rfl) ?_ | refine StoreG.mk (by simp (disch := (first | omega | (simp only [Hp.next_new, Hp.next_put]; omega))) only [Hp.at_new_self, Hp.at_put_self, Hp.at_new_lt, Hp.at_put_ne, hat] <;> rfl) (by first | omega | (simp; done) | (simp; omega)) ?_ | refine CondG.mk (by first | omega | exact sameV_flat _ rfl | exact sameV_agg _ (by simp [flatV]) | (simp; done) | (simp [repL, setL]; done) | (simp; omega)) ?_ | (refine LoadsG.mk2 (e := ⟨true, 11, ob⟩) (by simp (disch := (first | omega | (simp only [Hp.next_new, Hp.next_put]; omega))) only [Hp.at_new_self, Hp.at_put_self, Hp.at_new_lt, Hp.at_put_ne, hat] <;> rfl) cy (by omega) ?_) | (refine LoadsG.mk2 (e := ⟨true, 11, ob⟩) (by simp (disch := (first | omega | (simp only [Hp.next_new, Hp.next_put]; omega))) only [Hp.at_new_self, Hp.at_put_self, Hp.at_new_lt, Hp.at_put_ne, hat] <;> rfl) cx (by omega) ?_) | (refine CondG.mk sx ?_) | (refine CondG.mk sy ?_) | (refine LoadsG.mk (by simp (disch := (first | omega | (simp only [Hp.next_new, Hp.next_put]; omega))) only [Hp.at_new_self, Hp.at_put_self, Hp.at_new_lt, Hp.at_put_ne, hat] <;> rfl) (by exact box_load lx rfl) ?_) | (refine LoadsG.mk (by simp (disch := (first | omega | (simp only [Hp.next_new, Hp.next_put]; omega))) only [Hp.at_new_self, Hp.at_put_self, Hp.at_new_lt, Hp.at_put_ne, hat] <;> rfl) (by exact box_load ly rfl) ?_) | (refine StoreG.mkC2 (by simp (disch := (first | omega | (simp only [Hp.next_new, Hp.next_put]; omega))) only [Hp.at_new_self, Hp.at_put_self, Hp.at_new_lt, Hp.at_put_ne, hat] <;> rfl) hcs (p := R.length * 11) (by omega) ⟨lx, by omega⟩ (fun ob1 hc1 => ?_)) | (refine StoreG.mkC2 (by simp (disch := (first | omega | (simp only [Hp.next_new, Hp.next_put]; omega))) only [Hp.at_new_self, Hp.at_put_self, Hp.at_new_lt, Hp.at_put_ne, hat] <;> rfl) hc1 (p := (R.length + 1) * 11) (by omega) ⟨ly, by rw [setL_length _ _ _ (by omega)]; omega⟩ (fun ob2 hc2 => ?_)) | fail); (all_goals (try dsimp only))
        rw [e1]
        exact swap _ ob2 (by repeat (first | exact Ext.refl _ | assumption | apply Ext.new | (refine Ext.put ?_ _ (by first | omega | (simp; done) | (simp; omega))))) (by simp only [Hp.next_new, Hp.next_put]; omega) (by rw [Hp.at_put_self]) hc2 hp
    · refine hK h hx ?_
      rw [hins, if_neg (show ¬ ltZ x y = true by unfold ltZ ltF; rw [hp]; simp)]
      simpa [List.append_assoc] using hla
theorem SortedL1_run (hL : cf 30 = cIdB2 lessI) {h0 : Hp} {v : AV} {els : List (List AV)} {os : List FOp} (hr : Rd h0 11 v els) (ho : OpsR h0 els os) (hf : els.length + 1 < fuel) (hsm : els.length ≤ 900000) (e0 : AV → Hp → Prop)
    (he : ∀ (v' : AV) (h' : Hp) (Zs : List Z), Ext h0 h' → SlN h' 11 v' (Zs.map Prod.fst) h0.next → (∀ z ∈ Zs, OpH h0 z.1 z.2) → Zs.map Prod.snd = sortedF os → e0 v' h') :
    ∀ (d i fm : Nat) (R : List Z) (t3 : AV) (h : Hp), i + d = els.length → d < fm → Ext h0 h → R.map Prod.snd = sortRev ltF (os.take i) → R.length = i → (∀ z ∈ R, OpH h0 z.1 z.2) → SlN h 11 t3 (R.reverse.map Prod.fst) h0.next →
    s_lagoonref12_SortedL1 cf fuel e0 v fm t3 (I i) h
  | d, i, fm, R, t3, h, hk, hm, hx, hR, hRl, hRo, hs => by
    obtain ⟨fm, rfl⟩ : ∃ j, fm = j + 1 := ⟨fm - 1, by omega⟩
    rw [s_lagoonref12_SortedL1_succ]
    unfold s_lagoonref12_SortedL1B
    have hb := hr.bound
    by_cases hi : i < els.length
    · obtain ⟨d, rfl⟩ : ∃ j, d = j + 1 := ⟨d - 1, by omega⟩
      obtain ⟨o, off, kn, c, e, rfl, hat, hc⟩ := (hr.mono hx).openS hi
      have e1 : ((i : Int) + 1) = ((i + 1 : Nat) : Int) := by omega
      have hos : i < os.length := by rw [← ho.1]; exact hi
      have hoi := ho.2 i hi hos
      obtain ⟨vd, vs, hcs, -⟩ := ho.2 i hi hos
      have ci := hc i hi
      rw [hcs] at ci hoi
      unfold opCells at ci
      try dsimp only
      (try unfold vMov); repeat' (first | refine Step.imp ?_ | (refine Way.mk (fun hp => ?_) (fun hp => ?_) <;> first | contradiction | (exfalso; omega) | skip) | refine LoadG.mk (by simp (disch := (first | omega | (simp only [Hp.next_new, Hp.next_put]; omega))) only [Hp.at_new_self, Hp.at_put_self, Hp.at_new_lt, Hp.at_put_ne] <;> rfl) (by simp only [cellAt_row', setL_cons0, setL_succ, Nat.reduceAdd, Nat.reduceMul, Nat.zero_add, Nat.add_zero, List.getElem?_cons_succ, List.getElem?_cons_zero]; rfl) ?_ | refine LoadsG.mk (by simp (disch := (first | omega | (simp only [Hp.next_new, Hp.next_put]; omega))) only [Hp.at_new_self, Hp.at_put_self, Hp.at_new_lt, Hp.at_put_ne] <;> rfl) (by rfl) ?_ | refine AtG.mk (by rfl) ?_ | refine StoreG.mk (by simp (disch := (first | omega | (simp only [Hp.next_new, Hp.next_put]; omega))) only [Hp.at_new_self, Hp.at_put_self, Hp.at_new_lt, Hp.at_put_ne] <;> rfl) (by first | omega | (simp; done) | (simp; omega)) ?_ | refine CondG.mk (by first | omega | exact sameV_flat _ rfl | exact sameV_agg _ (by simp [flatV]) | (simp; done) | (simp [repL, setL]; done) | (simp; omega)) ?_ | (refine LoadsG.mk hat (by simpa using ci) ?_) | fail); (all_goals (try dsimp only))
      have nx := hx.next
      refine append_own (els := R.reverse.map Prod.fst) (news := [opCells os[i] vd vs]) (B := h0.next) (h0 := h0) (by repeat (first | exact Ext.refl _ | assumption | apply Ext.new | (refine Ext.put ?_ _ (by first | omega | (simp; done) | (simp; omega))))) (hs.ext (by repeat (first | exact Ext.refl _ | assumption | apply Ext.new | (refine Ext.put ?_ _ (by first | omega | (simp; done) | (simp; omega)))))) (Nat.le_refl _) (by simp only [Hp.next_new]; omega) ⟨_, 0, true, 1, _, rfl, Hp.at_new_self _ _, rfl⟩ (by intro x hx1; rw [List.mem_singleton.1 hx1]; rfl) (by simp) (by simp; omega) ?_
      intro v' h' k1 k2 k3 k4
      rcases k4 with ⟨_, q⟩ | ⟨o', ob', rfl, q1, q2, q3, q4, q5, q6⟩
      · simp at q
      have hlen : (R.reverse.map Prod.fst ++ [opCells os[i] vd vs]).length = i + 1 := by simp; omega
      rw [hlen]
      have hll : ((i + 1 : Nat) : Int) - 1 = (R.length : Int) := by omega
      (try unfold vMov); repeat' (first | refine Step.imp ?_ | (refine Way.mk (fun hp => ?_) (fun hp => ?_) <;> first | contradiction | (exfalso; omega) | skip) | refine LoadG.mk (by simp (disch := (first | omega | (simp only [Hp.next_new, Hp.next_put]; omega))) only [Hp.at_new_self, Hp.at_put_self, Hp.at_new_lt, Hp.at_put_ne] <;> rfl) (by simp only [cellAt_row', setL_cons0, setL_succ, Nat.reduceAdd, Nat.reduceMul, Nat.zero_add, Nat.add_zero, List.getElem?_cons_succ, List.getElem?_cons_zero]; rfl) ?_ | refine LoadsG.mk (by simp (disch := (first | omega | (simp only [Hp.next_new, Hp.next_put]; omega))) only [Hp.at_new_self, Hp.at_put_self, Hp.at_new_lt, Hp.at_put_ne] <;> rfl) (by rfl) ?_ | refine AtG.mk (by rfl) ?_ | refine StoreG.mk (by simp (disch := (first | omega | (simp only [Hp.next_new, Hp.next_put]; omega))) only [Hp.at_new_self, Hp.at_put_self, Hp.at_new_lt, Hp.at_put_ne] <;> rfl) (by first | omega | (simp; done) | (simp; omega)) ?_ | refine CondG.mk (by first | omega | exact sameV_flat _ rfl | exact sameV_agg _ (by simp [flatV]) | (simp; done) | (simp [repL, setL]; done) | (simp; omega)) ?_ | fail); (all_goals (try dsimp only))
      rw [hll]
      refine SortedL4_run cf fuel hL (h0 := h0) _ q1 (by omega) R [] (opCells os[i] vd vs, os[i]) fuel h' (by simp; omega) (by omega) k1 ⟨q2, ob', q3, by simpa using q4, fun e he => q5 e (by simpa using he)⟩ hRo hoi (fun h'' z1 z2 => ?_)
      unfold s_lagoonref12_SortedE3 s_lagoonref12_SortedE2
      (try unfold vMov); repeat' (first | refine Step.imp ?_ | (refine Way.mk (fun hp => ?_) (fun hp => ?_) <;> first | contradiction | (exfalso; omega) | skip) | refine LoadG.mk (by simp (disch := (first | omega | (simp only [Hp.next_new, Hp.next_put]; omega))) only [Hp.at_new_self, Hp.at_put_self, Hp.at_new_lt, Hp.at_put_ne] <;> rfl) (by simp only [cellAt_row', setL_cons0, setL_succ, Nat.reduceAdd, Nat.reduceMul, Nat.zero_add, Nat.add_zero, List.getElem?_cons_succ, List.getElem?_cons_zero]; rfl) ?_ | refine LoadsG.mk (by simp (disch := (first | omega | (simp only [Hp.next_new, Hp.next_put]; omega))) only [Hp.at_new_self, Hp.at_put_self, Hp.at_new_lt, Hp.at_put_ne] <;> rfl) (by rfl) ?_ | refine AtG.mk (by rfl) ?_ | refine StoreG.mk (by simp (disch := (first | omega | (simp only [Hp.next_new, Hp.next_put]; omega))) only [Hp.at_new_self, Hp.at_put_self, Hp.at_new_lt, Hp.at_put_ne] <;> rfl) (by first | omega | (simp; done) | (simp; omega)) ?_ | refine CondG.mk (by first | omega | exact sameV_flat _ rfl | exact sameV_agg _ (by simp [flatV]) | (simp; done) | (simp [repL, setL]; done) | (simp; omega)) ?_ | fail); (all_goals (try dsimp only))
      rw [e1]
      obtain ⟨w1, ob2, w2, w3, w4⟩ := z2
      have hil := insRev_len ltZ (opCells os[i] vd vs, os[i]) R
      refine SortedL1_run hL hr ho hf hsm e0 he d (i + 1) fm (insRev ltZ (opCells os[i] vd vs, os[i]) R) _ h'' (by omega) (by omega) z1 ?_ (by omega) (fun z hz => ?_) (.inr ⟨o', ob2, ?_, q1, w1, w2, by simpa using w3, fun e he => w4 e (by simpa using he), ?_⟩)
      · have := insRev_map Prod.snd ltF ((opCells os[i] vd vs, os[i]) : Z) R
        rw [take_snoc os i hos]
        unfold sortRev
        rw [List.foldl_append]
        unfold sortRev at hR
        rw [← hR]
        exact this
      · rcases (insRev_mem ltZ _ R z).1 hz with rfl | hz
        · exact hoi
        · exact hRo z hz
      · congr 1
        simp; omega
      · intro q
        have := congrArg List.length q
        rw [List.length_map, List.length_reverse, List.length_nil] at this
        omega
    · have hd : d = 0 := by omega
      subst hd
      rw [hr.len]
      try dsimp only
      (try unfold vMov); repeat' (first | refine Step.imp ?_ | (refine Way.mk (fun hp => ?_) (fun hp => ?_) <;> first | contradiction | (exfalso; omega) | skip) | refine LoadG.mk (by simp (disch := (first | omega | (simp only [Hp.next_new, Hp.next_put]; omega))) only [Hp.at_new_self, Hp.at_put_self, Hp.at_new_lt, Hp.at_put_ne] <;> rfl) (by simp only [cellAt_row', setL_cons0, setL_succ, Nat.reduceAdd, Nat.reduceMul, Nat.zero_add, Nat.add_zero, List.getElem?_cons_succ, List.getElem?_cons_zero]; rfl) ?_ | refine LoadsG.mk (by simp (disch := (first | omega | (simp only [Hp.next_new, Hp.next_put]; omega))) only [Hp.at_new_self, Hp.at_put_self, Hp.at_new_lt, Hp.at_put_ne] <;> rfl) (by rfl) ?_ | refine AtG.mk (by rfl) ?_ | refine StoreG.mk (by simp (disch := (first | omega | (simp only [Hp.next_new, Hp.next_put]; omega))) only [Hp.at_new_self, Hp.at_put_self, Hp.at_new_lt, Hp.at_put_ne] <;> rfl) (by first | omega | (simp; done) | (simp; omega)) ?_ | refine CondG.mk (by first | omega | exact sameV_flat _ rfl | exact sameV_agg _ (by simp [flatV]) | (simp; done) | (simp [repL, setL]; done) | (simp; omega)) ?_ | fail); (all_goals (try dsimp only))
      refine he t3 h R.reverse hx hs (fun z hz => hRo z (by simpa using hz)) ?_
      have hi' : i = os.length := by have := ho.1; omega
      rw [List.map_reverse, hR, hi', List.take_length]
      rfl
theorem Sorted_run (hL : cf 30 = cIdB2 lessI) {h0 : Hp} {v : AV} {els : List (List AV)} {os : List FOp} (hr : Rd h0 11 v els) (ho : OpsR h0 els os) (hf : els.length + 1 < fuel) (hsm : els.length ≤ 900000)
    (hK : ∀ (v' : AV) (h' : Hp) (Zs : List Z), Ext h0 h' → SlN h' 11 v' (Zs.map Prod.fst) h0.next → (∀ z ∈ Zs, OpH h0 z.1 z.2) → Zs.map Prod.snd = sortedF os → K v' h') : s_lagoonref12_Sorted cf fuel v h0 K := by
  unfold s_lagoonref12_Sorted
  try dsimp only
  exact SortedL1_run cf fuel hL hr ho hf hsm _ (fun v' h' Zs x1 x2 x3 x4 => by unfold s_lagoonref12_SortedE0; exact hK v' h' Zs x1 x2 x3 x4) els.length 0 fuel [] .nilslice h0 (by omega) (by omega) (Ext.refl h0) rfl rfl (fun z hz => by cases hz) (.inl ⟨rfl, rfl⟩)
end
end Lg

namespace Lg
set_option linter.unusedSimpArgs false
set_option linter.unusedVariables false
set_option maxRecDepth 100000
open Go Go.Am
open Go.Proofs.Ytnhamanffojhfaa.shl
/-- A slice of m elements cut short to n. -/
def cutA (v : AV) (m n : Nat) : AV := if m ≤ n then v else match v with | .slice o off _ kn c => .slice o off n kn c | x => x
theorem SlQ.cut {Q : Nat → Prop} {v : AV} (h : SlQ Q v) (m n : Nat) : SlQ Q (cutA v m n) := by
  unfold cutA
  split
  · exact h
  · split
    · intro o off k kn c e
      cases e
      exact h _ _ _ _ _ rfl
    · exact h
theorem VecH.cut {h : Hp} {v : AV} {l : List Int} (hv : VecH h v l) (n : Nat) : VecH h (cutA v l.length n) (l.take n) := by
  unfold cutA
  split
  · rename_i q
    rw [List.take_of_length_le q]; exact hv
  · rename_i q
    rcases hv.casesC with ⟨rfl, rfl⟩ | ⟨o, rfl, rfl⟩ | ⟨o, off, kn, c, e, rfl, hc, h2, h3, h5⟩
    · simp at q
    · simp at q
    · have hb := hv.bound
      have hl : ((l.take n).map fun x => [I x]).length = n := by simp; omega
      refine .inr (.inr ⟨o, off, kn, c, e, by rw [hl], h2, h3, ⟨by rw [hl]; omega, fun q => by rw [hl]; have := hc q; omega⟩, fun j hj => ?_⟩)
      rw [hl] at hj
      have := h5 j (by omega)
      simp only [List.getElem_map, List.getElem_take]
      rw [Nat.mul_one]
      unfold cellsO
      rw [this]
      rfl
theorem ByH.cut {h : Hp} {v : AV} {l : List UInt8} (hv : ByH h v l) (n : Nat) : ByH h (cutA v l.length n) (l.take n) := by
  unfold cutA
  split
  · rename_i q
    rw [List.take_of_length_le q]; exact hv
  · rename_i q
    rcases hv with ⟨rfl, rfl⟩ | ⟨o, rfl, rfl⟩ | ⟨o, off, kn, c, e, m, z, rfl, h2, h3, h4, h5, h6, h7⟩
    · simp at q
    · simp at q
    · have hl : (l.take n).length = n := by simp; omega
      refine .inr (.inr ⟨o, off, kn, c, e, m, z, by rw [hl], h2, h3, h4, by rw [hl]; omega, ⟨by rw [hl]; omega, fun q => by rw [hl]; have := h6.2 q; omega⟩, ?_⟩)
      rw [hl]
      have := congrArg (List.take n) h7
      rw [List.take_take, Nat.min_eq_left (by omega)] at this
      exact this
theorem ByH.cell {h : Hp} {v : AV} {l : List UInt8} (hv : ByH h v l) : cellsV v = some [v] := by
  rcases hv with ⟨rfl, _⟩ | ⟨o, rfl, _⟩ | ⟨o, off, kn, c, e, m, z, rfl, _⟩ <;> rfl
theorem VecH.cell {h : Hp} {v : AV} {l : List Int} (hv : VecH h v l) : cellsV v = some [v] := by
  rcases hv.cases with ⟨rfl, _⟩ | ⟨o, rfl, _⟩ | ⟨o, off, kn, c, e, rfl, _⟩ <;> rfl
/-- An operation that is not too great. -/
def cutO (o : FOp) : FOp := { o with name := o.name.take 100, data := o.data.take 3000, seen := o.seen.take 80 }
def cShort : ConD := fun args h K => ∃ v l, ∃ n : Nat, args = [v, I n] ∧ ByH h v l ∧ K (cutA v l.length n) h
theorem cShort_go {cf : CallK} {g : FuncId} (hg : cf g = cShort) {h : Hp} {v : AV} {l : List UInt8} {K : AV → Hp → Prop} (n : Nat) {i : Int} (hi : i = n) (hv : ByH h v l) (hK : K (cutA v l.length n) h) : cf g [v, .int .i64 i] h K := by subst hi; rw [hg]; exact ⟨v, l, n, rfl, hv, hK⟩
def cVCut : ConD := fun args h K => ∃ v l, args = [v] ∧ VecH h v l ∧ K (cutA v l.length 80) h
theorem cVCut_go {cf : CallK} {g : FuncId} (hg : cf g = cVCut) {h : Hp} {v : AV} {l : List Int} {K : AV → Hp → Prop} (hv : VecH h v l) (hK : K (cutA v l.length 80) h) : cf g [v] h K := by rw [hg]; exact ⟨v, l, rfl, hv, hK⟩
def cCut : ConD := fun args h K => ∃ o vd vs, args = [.agg (opCells o vd vs)] ∧ ByH h vd o.data ∧ VecH h vs o.seen ∧ o.name.length ≤ 140737488355328 ∧ ∀ h', Ext h h' → K (.agg (opCells (cutO o) (cutA vd o.data.length 3000) (cutA vs o.seen.length 80))) h'
theorem cCut_go {cf : CallK} {g : FuncId} (hg : cf g = cCut) {h : Hp} {o : FOp} {vd vs : AV} {K : AV → Hp → Prop} (hd : ByH h vd o.data) (hs : VecH h vs o.seen) (hn : o.name.length ≤ 140737488355328)
    (hK : ∀ h', Ext h h' → K (.agg [I (cutO o).t, I (cutO o).n, I (cutO o).seq, I (cutO o).kind, I (cutO o).ot, I (cutO o).on, I (cutO o).pt, I (cutO o).pn, S (cutO o).name, cutA vd o.data.length 3000, cutA vs o.seen.length 80]) h') : cf g [.agg [I o.t, I o.n, I o.seq, I o.kind, I o.ot, I o.on, I o.pt, I o.pn, S o.name, vd, vs]] h K := by
  rw [hg]; exact ⟨o, vd, vs, rfl, hd, hs, hn, hK⟩
section
variable (cf : CallK) (fuel : Nat) {h : Hp} {K : AV → Hp → Prop}
theorem Short_run {v : AV} {l : List UInt8} (hv : ByH h v l) (n : Nat) (hK : K (cutA v l.length n) h) : s_lagoonlaw2_Short cf fuel v (I n) h K := by
  unfold s_lagoonlaw2_Short
  rcases hv with ⟨rfl, rfl⟩ | ⟨o, rfl, rfl⟩ | ⟨o, off, kn, c, e, m, z, rfl, h2, h3, h4, h5, h6, h7⟩
  · (try unfold vMov); repeat' (first | refine Step.imp ?_ | (refine Way.mk (fun hp => ?_) (fun hp => ?_) <;> first | contradiction | (exfalso; omega) | skip) | refine LoadG.mk (by simp (disch := (first | omega | (simp only [Hp.next_new, Hp.next_put]; omega))) only [Hp.at_new_self, Hp.at_put_self, Hp.at_new_lt, Hp.at_put_ne] <;> rfl) (by simp only [cellAt_row', setL_cons0, setL_succ, Nat.reduceAdd, Nat.reduceMul, Nat.zero_add, Nat.add_zero, List.getElem?_cons_succ, List.getElem?_cons_zero]; rfl) ?_ | refine LoadsG.mk (by simp (disch := (first | omega | (simp only [Hp.next_new, Hp.next_put]; omega))) only [Hp.at_new_self, Hp.at_put_self, Hp.at_new_lt, Hp.at_put_ne] <;> rfl) (by rfl) ?_ | refine AtG.mk (by rfl) ?_ | refine StoreG.mk (by simp (disch := (first | omega | (simp only [Hp.next_new, Hp.next_put]; omega))) only [Hp.at_new_self, Hp.at_put_self, Hp.at_new_lt, Hp.at_put_ne] <;> rfl) (by first | omega | (simp; done) | (simp; omega)) ?_ | refine CondG.mk (by first | omega | exact sameV_flat _ rfl | exact sameV_agg _ (by simp [flatV]) | (simp; done) | (simp [repL, setL]; done) | (simp; omega)) ?_ | fail); (all_goals (try dsimp only))
    exact hK
  · (try unfold vMov); repeat' (first | refine Step.imp ?_ | (refine Way.mk (fun hp => ?_) (fun hp => ?_) <;> first | contradiction | (exfalso; omega) | skip) | refine LoadG.mk (by simp (disch := (first | omega | (simp only [Hp.next_new, Hp.next_put]; omega))) only [Hp.at_new_self, Hp.at_put_self, Hp.at_new_lt, Hp.at_put_ne] <;> rfl) (by simp only [cellAt_row', setL_cons0, setL_succ, Nat.reduceAdd, Nat.reduceMul, Nat.zero_add, Nat.add_zero, List.getElem?_cons_succ, List.getElem?_cons_zero]; rfl) ?_ | refine LoadsG.mk (by simp (disch := (first | omega | (simp only [Hp.next_new, Hp.next_put]; omega))) only [Hp.at_new_self, Hp.at_put_self, Hp.at_new_lt, Hp.at_put_ne] <;> rfl) (by rfl) ?_ | refine AtG.mk (by rfl) ?_ | refine StoreG.mk (by simp (disch := (first | omega | (simp only [Hp.next_new, Hp.next_put]; omega))) only [Hp.at_new_self, Hp.at_put_self, Hp.at_new_lt, Hp.at_put_ne] <;> rfl) (by first | omega | (simp; done) | (simp; omega)) ?_ | refine CondG.mk (by first | omega | exact sameV_flat _ rfl | exact sameV_agg _ (by simp [flatV]) | (simp; done) | (simp [repL, setL]; done) | (simp; omega)) ?_ | fail); (all_goals (try dsimp only))
    exact hK
  · (try unfold vMov); repeat' (first | refine Step.imp ?_ | (refine Way.mk (fun hp => ?_) (fun hp => ?_) <;> first | contradiction | (exfalso; omega) | skip) | refine LoadG.mk (by simp (disch := (first | omega | (simp only [Hp.next_new, Hp.next_put]; omega))) only [Hp.at_new_self, Hp.at_put_self, Hp.at_new_lt, Hp.at_put_ne] <;> rfl) (by simp only [cellAt_row', setL_cons0, setL_succ, Nat.reduceAdd, Nat.reduceMul, Nat.zero_add, Nat.add_zero, List.getElem?_cons_succ, List.getElem?_cons_zero]; rfl) ?_ | refine LoadsG.mk (by simp (disch := (first | omega | (simp only [Hp.next_new, Hp.next_put]; omega))) only [Hp.at_new_self, Hp.at_put_self, Hp.at_new_lt, Hp.at_put_ne] <;> rfl) (by rfl) ?_ | refine AtG.mk (by rfl) ?_ | refine StoreG.mk (by simp (disch := (first | omega | (simp only [Hp.next_new, Hp.next_put]; omega))) only [Hp.at_new_self, Hp.at_put_self, Hp.at_new_lt, Hp.at_put_ne] <;> rfl) (by first | omega | (simp; done) | (simp; omega)) ?_ | refine CondG.mk (by first | omega | exact sameV_flat _ rfl | exact sameV_agg _ (by simp [flatV]) | (simp; done) | (simp [repL, setL]; done) | (simp; omega)) ?_ | fail); (all_goals (try dsimp only))
    · refine cut_slice (by omega) h6.2 ?_
      unfold cutA at hK
      rw [if_neg (by omega)] at hK
      exact hK
    · unfold cutA at hK
      rw [if_pos (by omega)] at hK
      exact hK
theorem VCut_run {v : AV} {l : List Int} (hv : VecH h v l) (hK : K (cutA v l.length 80) h) : s_lagoonlaw4_Cut cf fuel v h K := by
  unfold s_lagoonlaw4_Cut
  rcases hv.casesC with ⟨rfl, rfl⟩ | ⟨o, rfl, rfl⟩ | ⟨o, off, kn, c, e, rfl, hc, h2, h3, h5⟩
  · (try unfold vMov); repeat' (first | refine Step.imp ?_ | (refine Way.mk (fun hp => ?_) (fun hp => ?_) <;> first | contradiction | (exfalso; omega) | skip) | refine LoadG.mk (by simp (disch := (first | omega | (simp only [Hp.next_new, Hp.next_put]; omega))) only [Hp.at_new_self, Hp.at_put_self, Hp.at_new_lt, Hp.at_put_ne] <;> rfl) (by simp only [cellAt_row', setL_cons0, setL_succ, Nat.reduceAdd, Nat.reduceMul, Nat.zero_add, Nat.add_zero, List.getElem?_cons_succ, List.getElem?_cons_zero]; rfl) ?_ | refine LoadsG.mk (by simp (disch := (first | omega | (simp only [Hp.next_new, Hp.next_put]; omega))) only [Hp.at_new_self, Hp.at_put_self, Hp.at_new_lt, Hp.at_put_ne] <;> rfl) (by rfl) ?_ | refine AtG.mk (by rfl) ?_ | refine StoreG.mk (by simp (disch := (first | omega | (simp only [Hp.next_new, Hp.next_put]; omega))) only [Hp.at_new_self, Hp.at_put_self, Hp.at_new_lt, Hp.at_put_ne] <;> rfl) (by first | omega | (simp; done) | (simp; omega)) ?_ | refine CondG.mk (by first | omega | exact sameV_flat _ rfl | exact sameV_agg _ (by simp [flatV]) | (simp; done) | (simp [repL, setL]; done) | (simp; omega)) ?_ | fail); (all_goals (try dsimp only))
    exact hK
  · (try unfold vMov); repeat' (first | refine Step.imp ?_ | (refine Way.mk (fun hp => ?_) (fun hp => ?_) <;> first | contradiction | (exfalso; omega) | skip) | refine LoadG.mk (by simp (disch := (first | omega | (simp only [Hp.next_new, Hp.next_put]; omega))) only [Hp.at_new_self, Hp.at_put_self, Hp.at_new_lt, Hp.at_put_ne] <;> rfl) (by simp only [cellAt_row', setL_cons0, setL_succ, Nat.reduceAdd, Nat.reduceMul, Nat.zero_add, Nat.add_zero, List.getElem?_cons_succ, List.getElem?_cons_zero]; rfl) ?_ | refine LoadsG.mk (by simp (disch := (first | omega | (simp only [Hp.next_new, Hp.next_put]; omega))) only [Hp.at_new_self, Hp.at_put_self, Hp.at_new_lt, Hp.at_put_ne] <;> rfl) (by rfl) ?_ | refine AtG.mk (by rfl) ?_ | refine StoreG.mk (by simp (disch := (first | omega | (simp only [Hp.next_new, Hp.next_put]; omega))) only [Hp.at_new_self, Hp.at_put_self, Hp.at_new_lt, Hp.at_put_ne] <;> rfl) (by first | omega | (simp; done) | (simp; omega)) ?_ | refine CondG.mk (by first | omega | exact sameV_flat _ rfl | exact sameV_agg _ (by simp [flatV]) | (simp; done) | (simp [repL, setL]; done) | (simp; omega)) ?_ | fail); (all_goals (try dsimp only))
    exact hK
  · (try unfold vMov); repeat' (first | refine Step.imp ?_ | (refine Way.mk (fun hp => ?_) (fun hp => ?_) <;> first | contradiction | (exfalso; omega) | skip) | refine LoadG.mk (by simp (disch := (first | omega | (simp only [Hp.next_new, Hp.next_put]; omega))) only [Hp.at_new_self, Hp.at_put_self, Hp.at_new_lt, Hp.at_put_ne] <;> rfl) (by simp only [cellAt_row', setL_cons0, setL_succ, Nat.reduceAdd, Nat.reduceMul, Nat.zero_add, Nat.add_zero, List.getElem?_cons_succ, List.getElem?_cons_zero]; rfl) ?_ | refine LoadsG.mk (by simp (disch := (first | omega | (simp only [Hp.next_new, Hp.next_put]; omega))) only [Hp.at_new_self, Hp.at_put_self, Hp.at_new_lt, Hp.at_put_ne] <;> rfl) (by rfl) ?_ | refine AtG.mk (by rfl) ?_ | refine StoreG.mk (by simp (disch := (first | omega | (simp only [Hp.next_new, Hp.next_put]; omega))) only [Hp.at_new_self, Hp.at_put_self, Hp.at_new_lt, Hp.at_put_ne] <;> rfl) (by first | omega | (simp; done) | (simp; omega)) ?_ | refine CondG.mk (by first | omega | exact sameV_flat _ rfl | exact sameV_agg _ (by simp [flatV]) | (simp; done) | (simp [repL, setL]; done) | (simp; omega)) ?_ | fail); (all_goals (try dsimp only))
    · refine cut_slice (i := 80) (by omega) hc ?_
      unfold cutA at hK
      rw [if_neg (by omega)] at hK
      exact hK
    · unfold cutA at hK
      rw [if_pos (by omega)] at hK
      exact hK
theorem Cut_run (hS : cf 97 = cShort) (hV : cf 98 = cVCut) {o : FOp} {vd vs : AV} (hd : ByH h vd o.data) (hs : VecH h vs o.seen) (hn : o.name.length ≤ 140737488355328)
    (hK : ∀ h', Ext h h' → K (.agg (opCells (cutO o) (cutA vd o.data.length 3000) (cutA vs o.seen.length 80))) h') : s_lagoonlaw12_Cut cf fuel (.agg (opCells o vd vs)) h K := by
  unfold s_lagoonlaw12_Cut
  rw [opFlat]
  have cv1 := (hd.cut 3000).cell
  have cv2 := (hs.cut 80).cell
  (try unfold vMov); repeat' (first | refine Step.imp ?_ | (refine Way.mk (fun hp => ?_) (fun hp => ?_) <;> first | contradiction | (exfalso; omega) | skip) | refine LoadG.mk (by simp (disch := (first | omega | (simp only [Hp.next_new, Hp.next_put]; omega))) only [Hp.at_new_self, Hp.at_put_self, Hp.at_new_lt, Hp.at_put_ne] <;> rfl) (by simp only [cellAt_row', setL_cons0, setL_succ, Nat.reduceAdd, Nat.reduceMul, Nat.zero_add, Nat.add_zero, List.getElem?_cons_succ, List.getElem?_cons_zero]; rfl) ?_ | refine LoadsG.mk (by simp (disch := (first | omega | (simp only [Hp.next_new, Hp.next_put]; omega))) only [Hp.at_new_self, Hp.at_put_self, Hp.at_new_lt, Hp.at_put_ne] <;> rfl) (by rfl) ?_ | refine AtG.mk (by rfl) ?_ | refine StoreG.mk (by simp (disch := (first | omega | (simp only [Hp.next_new, Hp.next_put]; omega))) only [Hp.at_new_self, Hp.at_put_self, Hp.at_new_lt, Hp.at_put_ne] <;> rfl) (by first | omega | (simp; done) | (simp; omega)) ?_ | refine CondG.mk (by first | omega | exact sameV_flat _ rfl | exact sameV_agg _ (by simp [flatV]) | (simp; done) | (simp [repL, setL]; done) | (simp; omega)) ?_ | (refine cShort_go hS 3000 rfl (hd.mono (by repeat (first | exact Ext.refl _ | assumption | apply Ext.new | (refine Ext.put ?_ _ (by first | omega | (simp; done) | (simp; omega)))))) ?_) | (refine cVCut_go hV (hs.mono (by repeat (first | exact Ext.refl _ | assumption | apply Ext.new | (refine Ext.put ?_ _ (by first | omega | (simp; done) | (simp; omega)))))) ?_) | (refine stStore_aux 1 _ _ _ _ cv1 ?_) | (refine stStore_aux 1 _ _ _ _ cv2 ?_) | fail); (all_goals (try dsimp only))
  · refine fin hK ?_ (by repeat (first | exact Ext.refl _ | assumption | apply Ext.new | (refine Ext.put ?_ _ (by first | omega | (simp; done) | (simp; omega)))))
    rfl
  · have hq : o.name.take 100 = o.name := List.take_of_length_le (by omega)
    refine fin hK ?_ (by repeat (first | exact Ext.refl _ | assumption | apply Ext.new | (refine Ext.put ?_ _ (by first | omega | (simp; done) | (simp; omega)))))
    unfold opCells cutO
    rw [hq]

/-! ### some operations -/
end
def someStep (most : Nat) (acc : List FOp) (o : FOp) : List FOp := if acc.length < most then (if (mayO (cutO o) && acc.all fun a => !sameI a.t a.n (cutO o).t (cutO o).n) = true then acc ++ [cutO o] else acc) else acc
def someO (os : List FOp) (most : Nat) : List FOp := os.foldl (someStep most) []
theorem some_full {most : Nat} : ∀ (l acc : List FOp), ¬ acc.length < most → l.foldl (someStep most) acc = acc
  | [], acc, _ => rfl
  | o :: l, acc, h => by
    rw [List.foldl_cons, show someStep most acc o = acc by unfold someStep; rw [if_neg h]]
    exact some_full l acc h
theorem len_sl {h h' : Hp} {esz : Nat} {v : AV} {els : List (List AV)} {B : Nat} (hs : SlN h esz v els B) {K : AV → Hp → Prop} (q : K (.int .i64 els.length) h') : vLenL2 v h' K := by
  rcases hs with ⟨rfl, rfl⟩ | ⟨o, ob, rfl, _⟩ <;> exact q
section
variable (cf : CallK) (fuel : Nat) {K : AV → Hp → Prop}
theorem SomeL4_run (hS : cf 25 = cIdB2 sameI) {h0 : Hp} {t0 t1 t6 v : AV} {Zs : List Z} (hr : Rd h0 11 v (Zs.map Prod.fst)) (hz : ∀ z ∈ Zs, OpH h0 z.1 z.2) {p : Nat} {t n : Int} {rest : List AV} (hat : h0.at p = some ⟨true, 11, .row (I t :: I n :: rest)⟩) (e3 : AV → Hp → Prop) :
    ∀ (d k m : Nat) (b : Bool), k + d = Zs.length → d < m → e3 (.bool (b && (Zs.drop k).all fun z => !sameI z.2.t z.2.n t n)) h0 → s_lagoonlaw15_SomeL4 cf fuel e3 t0 t1 v t6 (.ptr p 0) m (.bool b) (I k) h0
  | d, k, m, b, hk, hm, hK => by
    obtain ⟨m, rfl⟩ : ∃ j, m = j + 1 := ⟨m - 1, by omega⟩
    rw [s_lagoonlaw15_SomeL4_succ]
    unfold s_lagoonlaw15_SomeL4B
    rw [hr.len]
    try dsimp only
    have hb := hr.bound
    have hln : (Zs.map Prod.fst).length = Zs.length := by simp
    rw [hln]
    rw [hln] at hb
    by_cases hkl : k < Zs.length
    · obtain ⟨d, rfl⟩ : ∃ j, d = j + 1 := ⟨d - 1, by omega⟩
      have hdr : Zs.drop k = Zs[k] :: Zs.drop (k + 1) := List.drop_eq_getElem_cons hkl
      rw [hdr, List.all_cons] at hK
      cases b with
      | false =>
        rw [Bool.false_and] at hK
        (try unfold vMov); repeat' (first | refine Step.imp ?_ | (refine Way.mk (fun hp => ?_) (fun hp => ?_) <;> first | contradiction | (exfalso; omega) | skip) | refine LoadG.mk (by simp (disch := (first | omega | (simp only [Hp.next_new, Hp.next_put]; omega))) only [Hp.at_new_self, Hp.at_put_self, Hp.at_new_lt, Hp.at_put_ne] <;> rfl) (by simp only [cellAt_row', setL_cons0, setL_succ, Nat.reduceAdd, Nat.reduceMul, Nat.zero_add, Nat.add_zero, List.getElem?_cons_succ, List.getElem?_cons_zero]; rfl) ?_ | refine LoadsG.mk (by simp (disch := (first | omega | (simp only [Hp.next_new, Hp.next_put]; omega))) only [Hp.at_new_self, Hp.at_put_self, Hp.at_new_lt, Hp.at_put_ne] <;> rfl) (by rfl) ?_ | refine AtG.mk (by rfl) ?_ | refine StoreG.mk (by simp (disch := (first | omega | (simp only [Hp.next_new, Hp.next_put]; omega))) only [Hp.at_new_self, Hp.at_put_self, Hp.at_new_lt, Hp.at_put_ne] <;> rfl) (by first | omega | (simp; done) | (simp; omega)) ?_ | refine CondG.mk (by first | omega | exact sameV_flat _ rfl | exact sameV_agg _ (by simp [flatV]) | (simp; done) | (simp [repL, setL]; done) | (simp; omega)) ?_ | fail); (all_goals (try dsimp only))
        exact hK
      | true =>
        rw [Bool.true_and] at hK
        obtain ⟨o, off, kn, c, e, hv, hat2, hc⟩ := hr.openS (i := k) (by simpa using hkl)
        have ck := hc k (by simpa using hkl)
        have hzk := hz Zs[k] (List.getElem_mem hkl)
        rw [List.getElem_map] at ck
        have c2 := cellsO_sub 11 2 0 ck (by omega)
        rw [hzk.head] at c2
        have e1 : ((k : Int) + 1) = ((k + 1 : Nat) : Int) := by omega
        have ih : ∀ b', e3 (.bool (b' && (Zs.drop (k + 1)).all fun z => !sameI z.2.t z.2.n t n)) h0 → s_lagoonlaw15_SomeL4 cf fuel e3 t0 t1 v t6 (.ptr p 0) m (.bool b') (I ((k + 1 : Nat) : Int)) h0 := fun b' q => SomeL4_run hS hr hz hat e3 d (k + 1) m b' (by omega) (by omega) q
        rw [hv, hln]
        rw [hv, hln] at ih
        (try unfold vMov); repeat' (first | refine Step.imp ?_ | (refine Way.mk (fun hp => ?_) (fun hp => ?_) <;> first | contradiction | (exfalso; omega) | skip) | refine LoadG.mk (by simp (disch := (first | omega | (simp only [Hp.next_new, Hp.next_put]; omega))) only [Hp.at_new_self, Hp.at_put_self, Hp.at_new_lt, Hp.at_put_ne, hat] <;> rfl) (by simp only [cellAt_row', setL_cons0, setL_succ, Nat.reduceAdd, Nat.reduceMul, Nat.zero_add, Nat.add_zero, List.getElem?_cons_succ, List.getElem?_cons_zero]; rfl) ?_ | refine LoadsG.mk (by simp (disch := (first | omega | (simp only [Hp.next_new, Hp.next_put]; omega))) only [Hp.at_new_self, Hp.at_put_self, Hp.at_new_lt, Hp.at_put_ne, hat] <;> rfl) (by rfl) ?_ | refine AtG.mk (by rfl) ?_ | refine StoreG.mk (by simp (disch := (first | omega | (simp only [Hp.next_new, Hp.next_put]; omega))) only [Hp.at_new_self, Hp.at_put_self, Hp.at_new_lt, Hp.at_put_ne, hat] <;> rfl) (by first | omega | (simp; done) | (simp; omega)) ?_ | refine CondG.mk (by first | omega | exact sameV_flat _ rfl | exact sameV_agg _ (by simp [flatV]) | (simp; done) | (simp [repL, setL]; done) | (simp; omega)) ?_ | (refine LoadsG.mk2 hat2 c2 (by omega) ?_) | (refine cIdB2_go hS (fun hp => ?_) (fun hp => ?_)) | fail); (all_goals (try dsimp only))
        · rw [e1]
          refine ih false ?_
          rw [hp] at hK
          exact hK
        · rw [e1]
          refine ih true ?_
          rw [hp] at hK
          exact hK
    · have hd : d = 0 := by omega
      subst hd
      rw [List.drop_of_length_le (by omega)] at hK
      simp only [List.all_nil, Bool.and_true] at hK
      (try unfold vMov); repeat' (first | refine Step.imp ?_ | (refine Way.mk (fun hp => ?_) (fun hp => ?_) <;> first | contradiction | (exfalso; omega) | skip) | refine LoadG.mk (by simp (disch := (first | omega | (simp only [Hp.next_new, Hp.next_put]; omega))) only [Hp.at_new_self, Hp.at_put_self, Hp.at_new_lt, Hp.at_put_ne] <;> rfl) (by simp only [cellAt_row', setL_cons0, setL_succ, Nat.reduceAdd, Nat.reduceMul, Nat.zero_add, Nat.add_zero, List.getElem?_cons_succ, List.getElem?_cons_zero]; rfl) ?_ | refine LoadsG.mk (by simp (disch := (first | omega | (simp only [Hp.next_new, Hp.next_put]; omega))) only [Hp.at_new_self, Hp.at_put_self, Hp.at_new_lt, Hp.at_put_ne] <;> rfl) (by rfl) ?_ | refine AtG.mk (by rfl) ?_ | refine StoreG.mk (by simp (disch := (first | omega | (simp only [Hp.next_new, Hp.next_put]; omega))) only [Hp.at_new_self, Hp.at_put_self, Hp.at_new_lt, Hp.at_put_ne] <;> rfl) (by first | omega | (simp; done) | (simp; omega)) ?_ | refine CondG.mk (by first | omega | exact sameV_flat _ rfl | exact sameV_agg _ (by simp [flatV]) | (simp; done) | (simp [repL, setL]; done) | (simp; omega)) ?_ | fail); (all_goals (try dsimp only))
      exact hK
theorem SomeL1_run (hS : cf 25 = cIdB2 sameI) (hC : cf 53 = cCut) (hM : cf 54 = cOpB mayO) {h0 : Hp} {v : AV} {els : List (List AV)} {os : List FOp} (hr : Rd h0 11 v els) (ho : OpsR h0 els os) {Q : Nat → Prop} (hQ : ∀ cs ∈ els, ∀ x ∈ cs, SlQ Q x) {most : Nat} (hmo : most ≤ 1000) (hf : most + 1 < fuel) (e0 : AV → Hp → Prop)
    (he : ∀ (v' : AV) (h' : Hp) (Zs : List Z), Ext h0 h' → SlN h' 11 v' (Zs.map Prod.fst) h0.next → (∀ z ∈ Zs, OpH h0 z.1 z.2 ∧ ∀ x ∈ z.1, SlQ Q x) → Zs.map Prod.snd = someO os most → e0 v' h') :
    ∀ (d i fm : Nat) (Zs : List Z) (t5 : AV) (h : Hp), i + d = els.length → d < fm → Ext h0 h → Zs.map Prod.snd = (os.take i).foldl (someStep most) [] → Zs.length ≤ most → (∀ z ∈ Zs, OpH h0 z.1 z.2 ∧ ∀ x ∈ z.1, SlQ Q x) → SlN h 11 t5 (Zs.map Prod.fst) h0.next →
    s_lagoonlaw15_SomeL1 cf fuel e0 v (I most) fm t5 (I i) h
  | d, i, fm, Zs, t5, h, hk, hm, hx, hZ, hZl, hZo, hs => by
    obtain ⟨fm, rfl⟩ : ∃ j, fm = j + 1 := ⟨fm - 1, by omega⟩
    rw [s_lagoonlaw15_SomeL1_succ]
    unfold s_lagoonlaw15_SomeL1B
    have hb := hr.bound
    have hln : (Zs.map Prod.fst).length = Zs.length := by simp
    have hlo := ho.1
    have hs' := hs
    have fin0 : (Zs.map Prod.snd = someO os most) → e0 t5 h := fun q => he t5 h Zs hx hs' hZo q
    rw [hr.len]
    try dsimp only
    by_cases hi : i < els.length
    · have hos : i < os.length := by omega
      have hsplit : someO os most = (os.drop (i + 1)).foldl (someStep most) (someStep most (Zs.map Prod.snd) os[i]) := by
        unfold someO
        conv => lhs; rw [← List.take_append_drop i os, List.foldl_append, List.drop_eq_getElem_cons hos, List.foldl_cons, ← hZ]
      by_cases hmz : Zs.length < most
      · obtain ⟨d, rfl⟩ : ∃ j, d = j + 1 := ⟨d - 1, by omega⟩
        obtain ⟨o, off, kn, c, e, hv, hat, hc⟩ := (hr.mono hx).openS hi
        have ci := hc i hi
        obtain ⟨vd, vs, hcs, hd0, hs0, hn0⟩ := ho.2 i hi hos
        have hQi := hQ _ (List.getElem_mem hi)
        rw [hcs] at ci hQi
        rw [opFlat] at ci
        have e1 : ((i : Int) + 1) = ((i + 1 : Nat) : Int) := by omega
        have hoC : OpH h0 [I (cutO os[i]).t, I (cutO os[i]).n, I (cutO os[i]).seq, I (cutO os[i]).kind, I (cutO os[i]).ot, I (cutO os[i]).on, I (cutO os[i]).pt, I (cutO os[i]).pn, S (cutO os[i]).name, cutA vd os[i].data.length 3000, cutA vs os[i].seen.length 80] (cutO os[i]) :=
          ⟨_, _, rfl, hd0.cut 3000, hs0.cut 80, by show (os[i].name.take 100).length ≤ _; simp; omega⟩
        have hQC : ∀ x ∈ [I (cutO os[i]).t, I (cutO os[i]).n, I (cutO os[i]).seq, I (cutO os[i]).kind, I (cutO os[i]).ot, I (cutO os[i]).on, I (cutO os[i]).pt, I (cutO os[i]).pn, S (cutO os[i]).name, cutA vd os[i].data.length 3000, cutA vs os[i].seen.length 80], SlQ Q x := by
          intro x hx1
          simp only [List.mem_cons, List.not_mem_nil, or_false] at hx1
          rcases hx1 with rfl | rfl | rfl | rfl | rfl | rfl | rfl | rfl | rfl | rfl | rfl
          all_goals first | exact SlQ.I _ _ _ | exact SlQ.S _ _ | exact (hQi _ (by simp [opCells])).cut _ _
        have next : ∀ (Zs' : List Z) (t5' : AV) (h' : Hp), Ext h0 h' → Zs'.map Prod.snd = someStep most (Zs.map Prod.snd) os[i] → Zs'.length ≤ most → (∀ z ∈ Zs', OpH h0 z.1 z.2 ∧ ∀ x ∈ z.1, SlQ Q x) → SlN h' 11 t5' (Zs'.map Prod.fst) h0.next → s_lagoonlaw15_SomeL1 cf fuel e0 v (I most) fm t5' (I ((i + 1 : Nat) : Int)) h' := fun Zs' t5' h' x1 x2 x3 x4 x5 =>
          SomeL1_run hS hC hM hr ho hQ hmo hf e0 he d (i + 1) fm Zs' t5' h' (by omega) (by omega) x1 (by rw [x2, take_snoc os i hos, List.foldl_append, ← hZ]; rfl) x3 x4 x5
        have hstep : someStep most (Zs.map Prod.snd) os[i] = if (mayO (cutO os[i]) && Zs.all fun z => !sameI z.2.t z.2.n (cutO os[i]).t (cutO os[i]).n) = true then Zs.map Prod.snd ++ [cutO os[i]] else Zs.map Prod.snd := by
          unfold someStep
          rw [if_pos (by simpa using hmz), List.all_map]
          rfl
        -- behind the loop over what is there
        have tail : ∀ (b : Bool) (h1 : Hp) (p : Nat), Ext h h1 → h0.next ≤ p → h1.at p = some ⟨true, 11, .row [I (cutO os[i]).t, I (cutO os[i]).n, I (cutO os[i]).seq, I (cutO os[i]).kind, I (cutO os[i]).ot, I (cutO os[i]).on, I (cutO os[i]).pt, I (cutO os[i]).pn, S (cutO os[i]).name, cutA vd os[i].data.length 3000, cutA vs os[i].seen.length 80]⟩ → mayO (cutO os[i]) = b →
            s_lagoonlaw15_SomeL4 cf fuel (s_lagoonlaw15_SomeE3 cf fuel (s_lagoonlaw15_SomeE2 cf fuel (s_lagoonlaw15_SomeL1 cf fuel e0 v (I most) fm) v (I most) (I i)) v (I most) t5 (I i) (.ptr p 0)) v (I most) t5 (I i) (.ptr p 0) fuel (.bool b) (I ((0 : Nat) : Int)) h1 := fun b h1 p x1 hp0 hat1 hmb => by
          have hx1 := hx.trans x1
          have hs1 := hs.ext x1
          refine SomeL4_run cf fuel hS (h0 := h1) (Zs := Zs) (SlN.rd hs1 (by rw [hln]; omega)) (fun z hz => (hZo z hz).1.mono hx1) hat1 _ Zs.length 0 fuel b (by omega) (by omega) ?_
          rw [List.drop_zero]
          unfold s_lagoonlaw15_SomeE3 s_lagoonlaw15_SomeE2
          rw [hmb] at hstep
          cases hq : (b && Zs.all fun z => !sameI z.2.t z.2.n (cutO os[i]).t (cutO os[i]).n) with
          | false =>
            rw [hq, if_neg (by simp)] at hstep
            (try unfold vMov); repeat' (first | refine Step.imp ?_ | (refine Way.mk (fun hp => ?_) (fun hp => ?_) <;> first | contradiction | (exfalso; omega) | skip) | refine LoadG.mk (by simp (disch := (first | omega | (simp only [Hp.next_new, Hp.next_put]; omega))) only [Hp.at_new_self, Hp.at_put_self, Hp.at_new_lt, Hp.at_put_ne] <;> rfl) (by simp only [cellAt_row', setL_cons0, setL_succ, Nat.reduceAdd, Nat.reduceMul, Nat.zero_add, Nat.add_zero, List.getElem?_cons_succ, List.getElem?_cons_zero]; rfl) ?_ | refine LoadsG.mk (by simp (disch := (first | omega | (simp only [Hp.next_new, Hp.next_put]; omega))) only [Hp.at_new_self, Hp.at_put_self, Hp.at_new_lt, Hp.at_put_ne] <;> rfl) (by rfl) ?_ | refine AtG.mk (by rfl) ?_ | refine StoreG.mk (by simp (disch := (first | omega | (simp only [Hp.next_new, Hp.next_put]; omega))) only [Hp.at_new_self, Hp.at_put_self, Hp.at_new_lt, Hp.at_put_ne] <;> rfl) (by first | omega | (simp; done) | (simp; omega)) ?_ | refine CondG.mk (by first | omega | exact sameV_flat _ rfl | exact sameV_agg _ (by simp [flatV]) | (simp; done) | (simp [repL, setL]; done) | (simp; omega)) ?_ | fail); (all_goals (try dsimp only))
            rw [e1]
            exact next Zs t5 h1 hx1 hstep.symm hZl hZo hs1
          | true =>
            rw [hq, if_pos rfl] at hstep
            have nx := hx1.next
            (try unfold vMov); repeat' (first | refine Step.imp ?_ | (refine Way.mk (fun hp => ?_) (fun hp => ?_) <;> first | contradiction | (exfalso; omega) | skip) | refine LoadG.mk (by simp (disch := (first | omega | (simp only [Hp.next_new, Hp.next_put]; omega))) only [Hp.at_new_self, Hp.at_put_self, Hp.at_new_lt, Hp.at_put_ne, hat1] <;> rfl) (by simp only [cellAt_row', setL_cons0, setL_succ, Nat.reduceAdd, Nat.reduceMul, Nat.zero_add, Nat.add_zero, List.getElem?_cons_succ, List.getElem?_cons_zero]; rfl) ?_ | refine LoadsG.mk (by simp (disch := (first | omega | (simp only [Hp.next_new, Hp.next_put]; omega))) only [Hp.at_new_self, Hp.at_put_self, Hp.at_new_lt, Hp.at_put_ne, hat1] <;> rfl) (by rfl) ?_ | refine AtG.mk (by rfl) ?_ | refine StoreG.mk (by simp (disch := (first | omega | (simp only [Hp.next_new, Hp.next_put]; omega))) only [Hp.at_new_self, Hp.at_put_self, Hp.at_new_lt, Hp.at_put_ne, hat1] <;> rfl) (by first | omega | (simp; done) | (simp; omega)) ?_ | refine CondG.mk (by first | omega | exact sameV_flat _ rfl | exact sameV_agg _ (by simp [flatV]) | (simp; done) | (simp [repL, setL]; done) | (simp; omega)) ?_ | fail); (all_goals (try dsimp only))
            refine append_own (els := Zs.map Prod.fst) (news := [[I (cutO os[i]).t, I (cutO os[i]).n, I (cutO os[i]).seq, I (cutO os[i]).kind, I (cutO os[i]).ot, I (cutO os[i]).on, I (cutO os[i]).pt, I (cutO os[i]).pn, S (cutO os[i]).name, cutA vd os[i].data.length 3000, cutA vs os[i].seen.length 80]]) (B := h0.next) (h0 := h0) (by repeat (first | exact Ext.refl _ | assumption | apply Ext.new | (refine Ext.put ?_ _ (by first | omega | (simp; done) | (simp; omega))))) (hs1.ext (by repeat (first | exact Ext.refl _ | assumption | apply Ext.new | (refine Ext.put ?_ _ (by first | omega | (simp; done) | (simp; omega)))))) (Nat.le_refl _) (by simp only [Hp.next_new]; omega) ⟨_, 0, true, 1, _, rfl, Hp.at_new_self _ _, rfl⟩ (by intro x hx1; rw [List.mem_singleton.1 hx1]; rfl) (by simp) (by simp; omega) ?_
            intro v' h' k1 k2 k3 k4
            (try unfold vMov); repeat' (first | refine Step.imp ?_ | (refine Way.mk (fun hp => ?_) (fun hp => ?_) <;> first | contradiction | (exfalso; omega) | skip) | refine LoadG.mk (by simp (disch := (first | omega | (simp only [Hp.next_new, Hp.next_put]; omega))) only [Hp.at_new_self, Hp.at_put_self, Hp.at_new_lt, Hp.at_put_ne] <;> rfl) (by simp only [cellAt_row', setL_cons0, setL_succ, Nat.reduceAdd, Nat.reduceMul, Nat.zero_add, Nat.add_zero, List.getElem?_cons_succ, List.getElem?_cons_zero]; rfl) ?_ | refine LoadsG.mk (by simp (disch := (first | omega | (simp only [Hp.next_new, Hp.next_put]; omega))) only [Hp.at_new_self, Hp.at_put_self, Hp.at_new_lt, Hp.at_put_ne] <;> rfl) (by rfl) ?_ | refine AtG.mk (by rfl) ?_ | refine StoreG.mk (by simp (disch := (first | omega | (simp only [Hp.next_new, Hp.next_put]; omega))) only [Hp.at_new_self, Hp.at_put_self, Hp.at_new_lt, Hp.at_put_ne] <;> rfl) (by first | omega | (simp; done) | (simp; omega)) ?_ | refine CondG.mk (by first | omega | exact sameV_flat _ rfl | exact sameV_agg _ (by simp [flatV]) | (simp; done) | (simp [repL, setL]; done) | (simp; omega)) ?_ | fail); (all_goals (try dsimp only))
            rw [e1]
            refine next (Zs ++ [(_, cutO os[i])]) v' h' k1 (by rw [hstep]; simp) (by simp; omega) (fun z hz => ?_) (by simpa using k4)
            rcases List.mem_append.1 hz with hz | hz
            · exact hZo z hz
            · rw [List.mem_singleton.1 hz]
              exact ⟨hoC, hQC⟩
        rw [hv] at tail ⊢
        (try unfold vMov); repeat' (first | refine Step.imp ?_ | (refine Way.mk (fun hp => ?_) (fun hp => ?_) <;> first | contradiction | (exfalso; omega) | skip) | refine LoadG.mk (by simp (disch := (first | omega | (simp only [Hp.next_new, Hp.next_put]; omega))) only [Hp.at_new_self, Hp.at_put_self, Hp.at_new_lt, Hp.at_put_ne] <;> rfl) (by simp only [cellAt_row', setL_cons0, setL_succ, Nat.reduceAdd, Nat.reduceMul, Nat.zero_add, Nat.add_zero, List.getElem?_cons_succ, List.getElem?_cons_zero]; rfl) ?_ | refine LoadsG.mk (by simp (disch := (first | omega | (simp only [Hp.next_new, Hp.next_put]; omega))) only [Hp.at_new_self, Hp.at_put_self, Hp.at_new_lt, Hp.at_put_ne] <;> rfl) (by rfl) ?_ | refine AtG.mk (by rfl) ?_ | refine StoreG.mk (by simp (disch := (first | omega | (simp only [Hp.next_new, Hp.next_put]; omega))) only [Hp.at_new_self, Hp.at_put_self, Hp.at_new_lt, Hp.at_put_ne] <;> rfl) (by first | omega | (simp; done) | (simp; omega)) ?_ | refine CondG.mk (by first | omega | exact sameV_flat _ rfl | exact sameV_agg _ (by simp [flatV]) | (simp; done) | (simp [repL, setL]; done) | (simp; omega)) ?_ | (refine len_sl hs ?_) | (refine LoadsG.mk2 hat ci (by omega) ?_) | fail); (all_goals (try dsimp only))
        refine cCut_go hC (o := os[i]) (vd := vd) (vs := vs) (hd0.mono hx) (hs0.mono hx) hn0 (fun h1 y1 => ?_)
        have ny := y1.next
        have nx := hx.next
        (try unfold vMov); repeat' (first | refine Step.imp ?_ | (refine Way.mk (fun hp => ?_) (fun hp => ?_) <;> first | contradiction | (exfalso; omega) | skip) | refine LoadG.mk (by simp (disch := (first | omega | (simp only [Hp.next_new, Hp.next_put]; omega))) only [Hp.at_new_self, Hp.at_put_self, Hp.at_new_lt, Hp.at_put_ne] <;> rfl) (by simp only [cellAt_row', setL_cons0, setL_succ, Nat.reduceAdd, Nat.reduceMul, Nat.zero_add, Nat.add_zero, List.getElem?_cons_succ, List.getElem?_cons_zero]; rfl) ?_ | refine LoadsG.mk (by simp (disch := (first | omega | (simp only [Hp.next_new, Hp.next_put]; omega))) only [Hp.at_new_self, Hp.at_put_self, Hp.at_new_lt, Hp.at_put_ne] <;> rfl) (by rfl) ?_ | refine AtG.mk (by rfl) ?_ | refine StoreG.mk (by simp (disch := (first | omega | (simp only [Hp.next_new, Hp.next_put]; omega))) only [Hp.at_new_self, Hp.at_put_self, Hp.at_new_lt, Hp.at_put_ne] <;> rfl) (by first | omega | (simp; done) | (simp; omega)) ?_ | refine CondG.mk (by first | omega | exact sameV_flat _ rfl | exact sameV_agg _ (by simp [flatV]) | (simp; done) | (simp [repL, setL]; done) | (simp; omega)) ?_ | (refine cOpB_go hM (hoC.mono (hx.trans (by repeat (first | exact Ext.refl _ | assumption | apply Ext.new | (refine Ext.put ?_ _ (by first | omega | (simp; done) | (simp; omega))))))) (fun hp => ?_) (fun hp => ?_)) | fail); (all_goals (try dsimp only))
        all_goals first
          | exact tail true _ _ (by repeat (first | exact Ext.refl _ | assumption | apply Ext.new | (refine Ext.put ?_ _ (by first | omega | (simp; done) | (simp; omega))))) (by omega) (by rw [Hp.at_put_self]; rfl) hp
          | exact tail false _ _ (by repeat (first | exact Ext.refl _ | assumption | apply Ext.new | (refine Ext.put ?_ _ (by first | omega | (simp; done) | (simp; omega))))) (by omega) (by rw [Hp.at_put_self]; rfl) hp
          | (exfalso; simp at *; omega)
      · have : someStep most (Zs.map Prod.snd) os[i] = Zs.map Prod.snd := by
          unfold someStep
          rw [if_neg (by simpa using hmz)]
        rw [this, some_full _ _ (by simpa using hmz)] at hsplit
        (try unfold vMov); repeat' (first | refine Step.imp ?_ | (refine Way.mk (fun hp => ?_) (fun hp => ?_) <;> first | contradiction | (exfalso; omega) | skip) | refine LoadG.mk (by simp (disch := (first | omega | (simp only [Hp.next_new, Hp.next_put]; omega))) only [Hp.at_new_self, Hp.at_put_self, Hp.at_new_lt, Hp.at_put_ne] <;> rfl) (by simp only [cellAt_row', setL_cons0, setL_succ, Nat.reduceAdd, Nat.reduceMul, Nat.zero_add, Nat.add_zero, List.getElem?_cons_succ, List.getElem?_cons_zero]; rfl) ?_ | refine LoadsG.mk (by simp (disch := (first | omega | (simp only [Hp.next_new, Hp.next_put]; omega))) only [Hp.at_new_self, Hp.at_put_self, Hp.at_new_lt, Hp.at_put_ne] <;> rfl) (by rfl) ?_ | refine AtG.mk (by rfl) ?_ | refine StoreG.mk (by simp (disch := (first | omega | (simp only [Hp.next_new, Hp.next_put]; omega))) only [Hp.at_new_self, Hp.at_put_self, Hp.at_new_lt, Hp.at_put_ne] <;> rfl) (by first | omega | (simp; done) | (simp; omega)) ?_ | refine CondG.mk (by first | omega | exact sameV_flat _ rfl | exact sameV_agg _ (by simp [flatV]) | (simp; done) | (simp [repL, setL]; done) | (simp; omega)) ?_ | (refine len_sl hs ?_) | fail); (all_goals (try dsimp only))
        exact fin0 hsplit.symm
    · (try unfold vMov); repeat' (first | refine Step.imp ?_ | (refine Way.mk (fun hp => ?_) (fun hp => ?_) <;> first | contradiction | (exfalso; omega) | skip) | refine LoadG.mk (by simp (disch := (first | omega | (simp only [Hp.next_new, Hp.next_put]; omega))) only [Hp.at_new_self, Hp.at_put_self, Hp.at_new_lt, Hp.at_put_ne] <;> rfl) (by simp only [cellAt_row', setL_cons0, setL_succ, Nat.reduceAdd, Nat.reduceMul, Nat.zero_add, Nat.add_zero, List.getElem?_cons_succ, List.getElem?_cons_zero]; rfl) ?_ | refine LoadsG.mk (by simp (disch := (first | omega | (simp only [Hp.next_new, Hp.next_put]; omega))) only [Hp.at_new_self, Hp.at_put_self, Hp.at_new_lt, Hp.at_put_ne] <;> rfl) (by rfl) ?_ | refine AtG.mk (by rfl) ?_ | refine StoreG.mk (by simp (disch := (first | omega | (simp only [Hp.next_new, Hp.next_put]; omega))) only [Hp.at_new_self, Hp.at_put_self, Hp.at_new_lt, Hp.at_put_ne] <;> rfl) (by first | omega | (simp; done) | (simp; omega)) ?_ | refine CondG.mk (by first | omega | exact sameV_flat _ rfl | exact sameV_agg _ (by simp [flatV]) | (simp; done) | (simp [repL, setL]; done) | (simp; omega)) ?_ | fail); (all_goals (try dsimp only))
      refine fin0 ?_
      rw [hZ, List.take_of_length_le (by omega)]
      rfl
theorem Some_run (hS : cf 25 = cIdB2 sameI) (hC : cf 53 = cCut) (hM : cf 54 = cOpB mayO) {h0 : Hp} {v : AV} {els : List (List AV)} {os : List FOp} (hr : Rd h0 11 v els) (ho : OpsR h0 els os) {Q : Nat → Prop} (hQ : ∀ cs ∈ els, ∀ x ∈ cs, SlQ Q x) {most : Nat} (hmo : most ≤ 1000) (hf : most + 1 < fuel) (hf2 : els.length < fuel)
    (hK : ∀ (v' : AV) (h' : Hp) (Zs : List Z), Ext h0 h' → SlN h' 11 v' (Zs.map Prod.fst) h0.next → (∀ z ∈ Zs, OpH h0 z.1 z.2 ∧ ∀ x ∈ z.1, SlQ Q x) → Zs.map Prod.snd = someO os most → K v' h') : s_lagoonlaw15_Some cf fuel v (I most) h0 K := by
  unfold s_lagoonlaw15_Some
  try dsimp only
  exact SomeL1_run cf fuel hS hC hM hr ho hQ hmo hf _ (fun v' h' Zs x1 x2 x3 x4 => by unfold s_lagoonlaw15_SomeE0; exact hK v' h' Zs x1 x2 x3 x4) els.length 0 fuel [] .nilslice h0 (by omega) hf2 (Ext.refl h0) rfl (Nat.zero_le _) (fun z hz => by cases hz) (.inl ⟨rfl, rfl⟩)
end
end Lg

namespace Lg
set_option linter.unusedSimpArgs false
set_option linter.unusedVariables false
set_option maxRecDepth 100000
open Go Go.Am
open Go.Proofs.Ytnhamanffojhfaa.shl
theorem toStr_go {h : Hp} {v : AV} {l : List UInt8} {K : AV → Hp → Prop} (hv : ByH h v l) (hK : K (S l) h) : vToStr v h K := by
  rcases hv with ⟨rfl, rfl⟩ | ⟨o, rfl, rfl⟩ | ⟨o, off, kn, c, e, n, z, rfl, h2, h3, h4, h5, h6, h7⟩
  · exact hK
  · exact hK
  · show asOpt (h.at o) fun e => asByts e.obj fun m z => gd (Nat.ble (off + l.length) m) (forceN l.length fun n => forceN (cutB z off n) fun z => K (.str n z) h)
    rw [h3, asOpt_some, h4]
    show gd (Nat.ble (off + l.length) n) (forceN l.length fun n => forceN (cutB z off n) fun z => K (.str n z) h)
    rw [Nat.ble_eq_true_of_le h5]
    simp only [gd_true, forceN_eq]
    rw [S_of (cutB_lt _ _ _)]
    have := bytesL_cut n z off (off + l.length) (by omega) h5
    rw [show off + l.length - off = l.length by omega, List.drop_take, show off + l.length - off = l.length by omega, h7] at this
    rw [this]
    exact hK
theorem OpH.same {h h' : Hp} {cs : List AV} {a : FOp} (hv : OpH h cs a) (hn : h.next ≤ h'.next) {Q : Nat → Prop} (hq : ∀ x ∈ cs, SlQ Q x) (hs : ∀ q, Q q → q < h.next → h'.at q = h.at q) : OpH h' cs a := by
  obtain ⟨vd, vs, rfl, h1, h2, h3⟩ := hv
  exact ⟨vd, vs, rfl, h1.same hn (fun o off n kn c e q => hs o (hq vd (by simp [opCells]) o off n kn c e) q), h2.same hn (fun o off n kn c e q => hs o (hq vs (by simp [opCells]) o off n kn c e) q), h3⟩
theorem OpH.old {h : Hp} {cs : List AV} {a : FOp} (hv : OpH h cs a) : ∀ x ∈ cs, SlQ (fun o => o < h.next) x := by
  obtain ⟨vd, vs, rfl, h1, h2, h3⟩ := hv
  intro x hx
  simp only [opCells, List.mem_cons, List.not_mem_nil, or_false] at hx
  rcases hx with rfl | rfl | rfl | rfl | rfl | rfl | rfl | rfl | rfl | rfl | rfl
  all_goals first | exact SlQ.I _ _ _ | exact SlQ.S _ _ | exact fun o off n kn c e => ByH.lt h1 e | exact fun o off n kn c e => VecH.lt h2 e
/-- What adding comes to. -/
def addR (os : List FOp) (a : FOp) : Int × List FOp := if (mayO a && decide (a.kind = 4)) = true then (if foundAt os (posS os a.t a.n) a.t a.n = true then (17, os) else (0, insS os a)) else (22, os)
def cAdd : ConD := fun args h K => ∃ fo os F ca a, args = [.ptr fo 0, .agg ca] ∧ FileS h fo os F ∧ os.length ≤ 1000000 ∧ OpH h ca a ∧
  ∀ h' F', h.next ≤ h'.next → (∀ q, q < h.next → ¬ F q → h'.at q = h.at q) → FileS h' fo (addR os a).2 F' → (∀ q, F' q → F q ∨ h.next ≤ q) → ((addR os a).1 ≠ 0 → Ext h h') → K (I (addR os a).1) h'
theorem cAdd_go {cf : CallK} {g : FuncId} (hg : cf g = cAdd) {h : Hp} {fo : Nat} {os : List FOp} {F : Nat → Prop} {ca : List AV} {a : FOp} {K : AV → Hp → Prop} (hf : FileS h fo os F) (hl : os.length ≤ 1000000) (ha : OpH h ca a)
    (hK : ∀ h' F', h.next ≤ h'.next → (∀ q, q < h.next → ¬ F q → h'.at q = h.at q) → FileS h' fo (addR os a).2 F' → (∀ q, F' q → F q ∨ h.next ≤ q) → ((addR os a).1 ≠ 0 → Ext h h') → K (I (addR os a).1) h') : cf g [.ptr fo 0, .agg ca] h K := by
  rw [hg]; exact ⟨fo, os, F, ca, a, rfl, hf, hl, ha, hK⟩
def cNew : ConD := fun args h K => args = [] ∧ ∀ fo h', Ext h h' → h.next ≤ fo → fo < h'.next → h'.at fo = some ⟨true, 1, .row [.nilslice]⟩ → K (.ptr fo 0) h'
theorem cNew_go {cf : CallK} {g : FuncId} (hg : cf g = cNew) {h : Hp} {K : AV → Hp → Prop} (hK : ∀ fo h', Ext h h' → h.next ≤ fo → fo < h'.next → h'.at fo = some ⟨true, 1, .row [.nilslice]⟩ → K (.ptr fo 0) h') : cf g [] h K := by
  rw [hg]; exact ⟨rfl, hK⟩
theorem trueC_go {cf : CallK} {g : FuncId} (hg : cf g = trueC) {h : Hp} {K : AV → Hp → Prop} (hK : K (.bool true) h) : cf g [] h K := by
  rw [hg]; exact ⟨rfl, hK⟩
def cSome : ConD := fun args h K => ∃ v els os Q, ∃ most : Nat, args = [v, I most] ∧ Rd h 11 v els ∧ OpsR h els os ∧ (∀ cs ∈ els, ∀ x ∈ cs, SlQ Q x) ∧ most ≤ 1000 ∧
  ∀ v' h' (Zs : List Z), Ext h h' → SlN h' 11 v' (Zs.map Prod.fst) h.next → (∀ z ∈ Zs, OpH h z.1 z.2 ∧ ∀ x ∈ z.1, SlQ Q x) → Zs.map Prod.snd = someO os most → K v' h'
theorem cSome_go {cf : CallK} {g : FuncId} (hg : cf g = cSome) {h : Hp} {v : AV} {els : List (List AV)} {os : List FOp} {Q : Nat → Prop} (most : Nat) {i : Int} (hi : i = most) {K : AV → Hp → Prop} (hr : Rd h 11 v els) (ho : OpsR h els os) (hQ : ∀ cs ∈ els, ∀ x ∈ cs, SlQ Q x) (hm : most ≤ 1000)
    (hK : ∀ v' h' (Zs : List Z), Ext h h' → SlN h' 11 v' (Zs.map Prod.fst) h.next → (∀ z ∈ Zs, OpH h z.1 z.2 ∧ ∀ x ∈ z.1, SlQ Q x) → Zs.map Prod.snd = someO os most → K v' h') : cf g [v, .int .i64 i] h K := by
  subst hi
  rw [hg]; exact ⟨v, els, os, Q, most, rfl, hr, ho, hQ, hm, hK⟩
section
variable (cf : CallK) (fuel : Nat) {h : Hp} {K : AV → Hp → Prop}
theorem Add_run2 (hM : cf 55 = cOpB mayO) (hB : cf 56 = cBS) (hO : cf 22 = cOf) (hI : cf 59 = insH 5 72)
    {fo : Nat} {os : List FOp} {F : Nat → Prop} (hf : FileS h fo os F) (hlen : os.length ≤ 1000000) {ca : List AV} {a : FOp} (ha : OpH h ca a)
    (hK : ∀ h' F', h.next ≤ h'.next → (∀ q, q < h.next → ¬ F q → h'.at q = h.at q) → FileS h' fo (addR os a).2 F' → (∀ q, F' q → F q ∨ h.next ≤ q) → ((addR os a).1 ≠ 0 → Ext h h') → K (I (addR os a).1) h') : s_content_File_Add cf fuel (.ptr fo 0) (.agg ca) h K := by
  have stay : ∀ h', Ext h h' → addR os a = ((addR os a).1, os) → K (I (addR os a).1) h' := fun h' hx e => by
    refine hK h' F hx.next (fun q hq _ => hx.same q hq) ?_ (fun q hq => .inl hq) (fun _ => hx)
    rw [e]
    exact hf.ext hx
  refine Add_run cf fuel hM hB hO hI hf hlen ha (fun q h' hx => ?_) (fun q q2 h' hx => ?_) (fun q q2 h' F' y1 y2 y3 y4 => ?_)
  · have e : addR os a = (22, os) := by unfold addR; rw [q]; rfl
    have := stay h' hx (by rw [e])
    rw [e] at this; exact this
  · have e : addR os a = (17, os) := by unfold addR; rw [q, q2]; rfl
    have := stay h' hx (by rw [e])
    rw [e] at this; exact this
  · have e : addR os a = (0, insS os a) := by unfold addR; rw [q, q2]; rfl
    rw [e] at hK
    exact hK h' F' y1 y2 y3 y4 (fun z => absurd rfl z)
theorem New_run2 (hK : ∀ fo h', Ext h h' → h.next ≤ fo → fo < h'.next → h'.at fo = some ⟨true, 1, .row [.nilslice]⟩ → K (.ptr fo 0) h') : s_content_New cf fuel h K :=
  New_run cf fuel (fun fo h' x1 x2 x3 => hK fo h' x1 x3 x2.1 x2.2.1)
end
end Lg

namespace Lg
set_option linter.unusedSimpArgs false
set_option linter.unusedVariables false
open Go Go.Am
theorem lessI_irrefl (t n : Int) : lessI t n t n = false := by simp [lessI]
theorem lessI_asymm {a b c d : Int} (h : lessI a b c d = true) : lessI c d a b = false := by
  simp only [lessI, Bool.or_eq_true, Bool.and_eq_true, decide_eq_true_eq, Bool.or_eq_false_iff, Bool.and_eq_false_iff, decide_eq_false_iff_not] at *
  omega
theorem rising_ext : ∀ (l m : List FOp), Rising l → Rising m → (∀ x, x ∈ l ↔ x ∈ m) → l = m
  | [], [], _, _, _ => rfl
  | [], b :: m, _, _, h => by have := (h b).2 (by simp); cases this
  | a :: l, [], _, _, h => by have := (h a).1 (by simp); cases this
  | a :: l, b :: m, hl, hm, h => by
    have pl := List.pairwise_cons.1 hl
    have pm := List.pairwise_cons.1 hm
    have e : a = b := by
      rcases List.mem_cons.1 ((h a).1 (by simp)) with q | q
      · exact q
      · rcases List.mem_cons.1 ((h b).2 (by simp)) with r | r
        · exact r.symm
        · have h1 := pm.1 a q
          have h2 := pl.1 b r
          rw [lessI_asymm h1] at h2
          cases h2
    subst e
    have irr : ∀ (z : List FOp), (∀ x ∈ z, lessI a.t a.n x.t x.n = true) → ¬ a ∈ z := fun z hz q => by
      have := hz a q
      rw [lessI_irrefl] at this
      cases this
    rw [rising_ext l m pl.2 pm.2 fun x => ?_]
    constructor
    · intro q
      rcases List.mem_cons.1 ((h x).1 (by simp [q])) with rfl | r
      · exact absurd q (irr l pl.1)
      · exact r
    · intro q
      rcases List.mem_cons.1 ((h x).2 (by simp [q])) with rfl | r
      · exact absurd q (irr m pm.1)
      · exact r
/-- Stamps apart. -/
def Apart (os : List FOp) : Prop := os.Pairwise fun a b => sameI a.t a.n b.t b.n = false
theorem sameI_comm (a b c d : Int) : sameI a b c d = sameI c d a b := by
  unfold sameI
  rw [Bool.eq_iff_iff]
  simp only [Bool.and_eq_true, decide_eq_true_eq]
  omega
theorem some_spec (most : Nat) : ∀ (os acc : List FOp), Apart acc → (∀ a ∈ acc, mayO a = true) → acc.length ≤ most → Apart (os.foldl (someStep most) acc) ∧ (∀ a ∈ os.foldl (someStep most) acc, mayO a = true) ∧ (os.foldl (someStep most) acc).length ≤ most
  | [], acc, h1, h2, h3 => ⟨h1, h2, h3⟩
  | o :: os, acc, h1, h2, h3 => by
    rw [List.foldl_cons]
    have key : Apart (someStep most acc o) ∧ (∀ a ∈ someStep most acc o, mayO a = true) ∧ (someStep most acc o).length ≤ most := by
      unfold someStep
      split
      · split
        · rename_i q1 q2
          simp only [Bool.and_eq_true, List.all_eq_true, Bool.not_eq_true'] at q2
          refine ⟨List.pairwise_append.2 ⟨h1, List.pairwise_singleton _ _, fun a ha b hb => ?_⟩, fun a ha => ?_, by simp; omega⟩
          · rw [List.mem_singleton.1 hb]
            exact q2.2 a ha
          · rcases List.mem_append.1 ha with ha | ha
            · exact h2 a ha
            · rw [List.mem_singleton.1 ha]; exact q2.1
        · exact ⟨h1, h2, h3⟩
      · exact ⟨h1, h2, h3⟩
    exact some_spec most os _ key.1 key.2.1 key.2.2
theorem someO_spec (os : List FOp) (most : Nat) : Apart (someO os most) ∧ (∀ a ∈ someO os most, mayO a = true) ∧ (someO os most).length ≤ most := some_spec most os [] List.Pairwise.nil (fun a h => by cases h) (Nat.zero_le _)
/-- All that were added, one after another. -/
def addAll (L os : List FOp) : List FOp := os.foldl (fun L a => (addR L a).2) L
def writes (os : List FOp) : List FOp := os.filter fun a => mayO a && decide (a.kind = 4)
theorem found_in {L : List FOp} {P : Nat} {t n : Int} (h : foundAt L P t n = true) : ∃ b ∈ L, sameI b.t b.n t n = true := by
  unfold foundAt at h
  split at h
  · rename_i a ha
    exact ⟨a, List.mem_of_getElem? ha, h⟩
  · cases h
theorem addR_apart {L : List FOp} {a : FOp} (h : ∀ b ∈ L, sameI b.t b.n a.t a.n = false) : addR L a = if (mayO a && decide (a.kind = 4)) = true then (0, insS L a) else (22, L) := by
  unfold addR
  split
  · have : foundAt L (posS L a.t a.n) a.t a.n = false := by
      cases q : foundAt L (posS L a.t a.n) a.t a.n with
      | false => rfl
      | true =>
        obtain ⟨b, hb, hs⟩ := found_in q
        rw [h b hb] at hs; cases hs
    rw [this]; rfl
  · rfl
theorem addR_rising {L : List FOp} (hL : Rising L) (a : FOp) : Rising (addR L a).2 := by
  unfold addR
  split
  · split
    · exact hL
    · rename_i q
      exact rising_ins a L hL (by simpa using q)
  · exact hL
theorem addAll_rising : ∀ (os L : List FOp), Rising L → Rising (addAll L os)
  | [], L, h => h
  | a :: os, L, h => addAll_rising os _ (addR_rising h a)
theorem addAll_spec : ∀ (os L : List FOp), Apart os → (∀ a ∈ os, ∀ b ∈ L, sameI b.t b.n a.t a.n = false) → (∀ x, x ∈ addAll L os ↔ x ∈ L ∨ x ∈ writes os) ∧ (addAll L os).length = L.length + (writes os).length
  | [], L, _, _ => ⟨fun x => by simp [addAll, writes], by simp [addAll, writes]⟩
  | a :: os, L, h1, h2 => by
    have p := List.pairwise_cons.1 h1
    have ha := addR_apart (h2 a (by simp))
    have hmem : ∀ x, x ∈ (addR L a).2 → x = a ∨ x ∈ L := fun x hx => by
      rw [ha] at hx
      split at hx
      · exact (insS_mem a L x).1 hx
      · exact .inr hx
    have ih := addAll_spec os (addR L a).2 p.2 fun b hb c hc => by
      rcases hmem c hc with rfl | hc
      · exact p.1 b hb
      · exact h2 b (by simp [hb]) c hc
    have e : addAll L (a :: os) = addAll (addR L a).2 os := rfl
    rw [e]
    by_cases hw : (mayO a && decide (a.kind = 4)) = true
    · rw [if_pos hw] at ha
      have hwr : writes (a :: os) = a :: writes os := by unfold writes; rw [List.filter_cons, if_pos hw]
      rw [ha] at ih ⊢
      refine ⟨fun x => ?_, ?_⟩
      · rw [ih.1 x, insS_mem, hwr, List.mem_cons]
        constructor
        · rintro ((h | h) | h)
          · exact .inr (.inl h)
          · exact .inl h
          · exact .inr (.inr h)
        · rintro (h | h | h)
          · exact .inl (.inr h)
          · exact .inl (.inl h)
          · exact .inr h
      · rw [ih.2, insS_len, hwr, List.length_cons]; omega
    · rw [if_neg hw] at ha
      have hwr : writes (a :: os) = writes os := by unfold writes; rw [List.filter_cons, if_neg hw]
      rw [ha] at ih ⊢
      rw [hwr]
      exact ih
/-- The order does not matter. -/
theorem addAll_perm {os ps : List FOp} (hp : os.Perm ps) (ha : Apart os) : addAll [] os = addAll [] ps := by
  have hb : Apart ps := hp.pairwise ha fun {x y} h => by rw [sameI_comm]; exact h
  have h1 := addAll_spec os [] ha (fun a _ b hb => by cases hb)
  have h2 := addAll_spec ps [] hb (fun a _ b hb => by cases hb)
  refine rising_ext _ _ (addAll_rising os [] List.Pairwise.nil) (addAll_rising ps [] List.Pairwise.nil) fun x => ?_
  rw [h1.1, h2.1]
  have := hp.filter fun a => mayO a && decide (a.kind = 4)
  simp only [List.not_mem_nil, false_or]
  exact this.mem_iff
theorem addAll_snoc (L os : List FOp) (a : FOp) : addAll L (os ++ [a]) = (addR (addAll L os) a).2 := by
  unfold addAll
  rw [List.foldl_append]
  rfl
theorem addR_len (L : List FOp) (a : FOp) : (addR L a).2.length ≤ L.length + 1 := by
  unfold addR
  split
  · split
    · exact Nat.le_succ _
    · rw [insS_len]; exact Nat.le_refl _
  · exact Nat.le_succ _
theorem addAll_len : ∀ (os L : List FOp), (addAll L os).length ≤ L.length + os.length
  | [], L => Nat.le_refl _
  | a :: os, L => by
    have h1 := addAll_len os (addR L a).2
    have h2 := addR_len L a
    show (addAll (addR L a).2 os).length ≤ _
    rw [List.length_cons]
    omega
end Lg

namespace Lg
set_option linter.unusedSimpArgs false
set_option linter.unusedVariables false
set_option maxRecDepth 100000
open Go Go.Am
open Go.Proofs.Ytnhamanffojhfaa.shl
/-- All that was there stays, but two objects. -/
def Keep2 (h3 h : Hp) (fo go : Nat) : Prop := h3.next ≤ h.next ∧ ∀ q, q < h3.next → q ≠ fo → q ≠ go → h.at q = h3.at q
section
variable (cf : CallK) (fuel : Nat) {K : AV → Hp → Prop}
theorem OrdersL12_run (hA : cf 14 = cAdd) {h3 : Hp} {B fo go : Nat} {v : AV} {Zs : List Z} (hfo : fo < B) (hgo : go < B) (hB : B ≤ h3.next) (hsl : SlN h3 11 v (Zs.map Prod.fst) B) (hz : ∀ z ∈ Zs, OpH h3 z.1 z.2 ∧ ∀ x ∈ z.1, SlQ (fun o => o < fo ∧ o < go) x) (hm : Zs.length ≤ 1000) (t3 : AV) (e0 : Hp → Prop)
    (he : ∀ h F G, Keep2 h3 h fo go → FileS h fo (addAll [] (Zs.map Prod.snd)) F → FileS h go (addAll [] (Zs.map Prod.snd).reverse) G → e0 h) :
    ∀ (d i fm : Nat) (h : Hp) (F G : Nat → Prop), i + d = Zs.length → d < fm → Keep2 h3 h fo go → FileS h fo (addAll [] ((Zs.map Prod.snd).take i)) F → FileS h go (addAll [] ((Zs.map Prod.snd).reverse.take i)) G →
      (∀ q, F q → q = fo ∨ h3.next ≤ q) → (∀ q, G q → q = go ∨ h3.next ≤ q) → (∀ q, F q → ¬ G q) → s_lagoonlaw17_ContentOrdersL12 cf fuel e0 t3 (.ptr fo 0) (.ptr go 0) v fm (I i) h
  | d, i, fm, h, F, G, hk, hf, hkeep, hF, hG, f1, g1, fg => by
    obtain ⟨fm, rfl⟩ : ∃ j, fm = j + 1 := ⟨fm - 1, by omega⟩
    rw [s_lagoonlaw17_ContentOrdersL12_succ]
    unfold s_lagoonlaw17_ContentOrdersL12B
    have hln : (Zs.map Prod.fst).length = Zs.length := by simp
    have hls : (Zs.map Prod.snd).length = Zs.length := by simp
    have hlr : (Zs.map Prod.snd).reverse.length = Zs.length := by simp
    by_cases hi : i < Zs.length
    · obtain ⟨d, rfl⟩ : ∃ j, d = j + 1 := ⟨d - 1, by omega⟩
      rcases hsl with ⟨_, q⟩ | ⟨o, ob, rfl, b1, b2, b3, b4, b5, b6⟩
      · have := congrArg List.length q
        rw [hln, List.length_nil] at this
        omega
      have hsl : SlN h3 11 (.slice o 0 (Zs.map Prod.fst).length false 0) (Zs.map Prod.fst) B := .inr ⟨o, ob, rfl, b1, b2, b3, b4, b5, b6⟩
      have hcl : ∀ j (hj : j < Zs.length), cellsO ob 11 (j * 11) = some Zs[j].1 := fun j hj => by
        obtain ⟨ob', q1, q2, q3⟩ := LA.at (h := h3) (o := o) ⟨b2, ob, b3, b4, b5⟩
        rw [b3] at q1
        cases q1
        have := q3 j (by rw [hln]; exact hj)
        rw [List.getElem_map] at this
        exact this
      have kat : ∀ h', Keep2 h3 h' fo go → h'.at o = some ⟨true, 11, ob⟩ := fun h' hk' => by rw [hk'.2 o b2 (by omega) (by omega)]; exact b3
      have kop : ∀ h', Keep2 h3 h' fo go → ∀ z ∈ Zs, OpH h' z.1 z.2 := fun h' hk' z hz' =>
        (hz z hz').1.same hk'.1 (hz z hz').2 fun q hq ql => hk'.2 q ql (by omega) (by omega)
      have e1 : ((i : Int) + 1) = ((i + 1 : Nat) : Int) := by omega
      have hj : Zs.length - 1 - i < Zs.length := by omega
      have la := addAll_len ((Zs.map Prod.snd).take i) []
      have lb := addAll_len ((Zs.map Prod.snd).reverse.take i) []
      have lc := List.length_take_le i (Zs.map Prod.snd)
      have ld := List.length_take_le i (Zs.map Prod.snd).reverse
      simp only [List.length_nil] at la lb
      have hat := kat h hkeep
      have ci := hcl i hi
      have cj := hcl (Zs.length - 1 - i) hj
      have ga : (Zs.map Prod.snd).take (i + 1) = (Zs.map Prod.snd).take i ++ [Zs[i].2] := by
        rw [take_snoc _ i (by omega), List.getElem_map]
      have gb : (Zs.map Prod.snd).reverse.take (i + 1) = (Zs.map Prod.snd).reverse.take i ++ [Zs[Zs.length - 1 - i].2] := by
        rw [take_snoc _ i (by omega), List.getElem_reverse, List.getElem_map]
        simp
      try dsimp only
      rw [hln]
      (try unfold vMov); repeat' (first | refine Step.imp ?_ | (refine Way.mk (fun hp => ?_) (fun hp => ?_) <;> first | contradiction | (exfalso; omega) | skip) | refine LoadG.mk (by simp (disch := (first | omega | (simp only [Hp.next_new, Hp.next_put]; omega))) only [Hp.at_new_self, Hp.at_put_self, Hp.at_new_lt, Hp.at_put_ne] <;> rfl) (by simp only [cellAt_row', setL_cons0, setL_succ, Nat.reduceAdd, Nat.reduceMul, Nat.zero_add, Nat.add_zero, List.getElem?_cons_succ, List.getElem?_cons_zero]; rfl) ?_ | refine LoadsG.mk (by simp (disch := (first | omega | (simp only [Hp.next_new, Hp.next_put]; omega))) only [Hp.at_new_self, Hp.at_put_self, Hp.at_new_lt, Hp.at_put_ne] <;> rfl) (by rfl) ?_ | refine AtG.mk (by rfl) ?_ | refine StoreG.mk (by simp (disch := (first | omega | (simp only [Hp.next_new, Hp.next_put]; omega))) only [Hp.at_new_self, Hp.at_put_self, Hp.at_new_lt, Hp.at_put_ne] <;> rfl) (by first | omega | (simp; done) | (simp; omega)) ?_ | refine CondG.mk (by first | omega | exact sameV_flat _ rfl | exact sameV_agg _ (by simp [flatV]) | (simp; done) | (simp [repL, setL]; done) | (simp; omega)) ?_ | (refine LoadsG.mk2 hat ci (by omega) ?_) | fail); (all_goals (try dsimp only))
      refine cAdd_go hA hF (by omega) (kop h hkeep Zs[i] (List.getElem_mem hi)) (fun h1 F1 y1 y2 y3 y4 _ => ?_)
      have k1 : Keep2 h3 h1 fo go := ⟨Nat.le_trans hkeep.1 y1, fun q q1 q2 q3 => by
        rw [y2 q (Nat.lt_of_lt_of_le q1 hkeep.1) (fun hq => by rcases f1 q hq with r | r <;> omega)]
        exact hkeep.2 q q1 q2 q3⟩
      have hG1 := hG.keep y1 fun q hq => y2 q (hG.lt hq) fun hq' => fg q hq' hq
      have f2 : ∀ q, F1 q → q = fo ∨ h3.next ≤ q := fun q hq => by
        rcases y4 q hq with r | r
        · exact f1 q r
        · exact .inr (Nat.le_trans hkeep.1 r)
      have fg1 : ∀ q, F1 q → ¬ G q := fun q hq hq' => by
        rcases y4 q hq with r | r
        · exact fg q r hq'
        · have := hG.lt hq'
          omega
      have hat1 := kat h1 k1
      (try unfold vMov); repeat' (first | refine Step.imp ?_ | (refine Way.mk (fun hp => ?_) (fun hp => ?_) <;> first | contradiction | (exfalso; omega) | skip) | refine LoadG.mk (by simp (disch := (first | omega | (simp only [Hp.next_new, Hp.next_put]; omega))) only [Hp.at_new_self, Hp.at_put_self, Hp.at_new_lt, Hp.at_put_ne] <;> rfl) (by simp only [cellAt_row', setL_cons0, setL_succ, Nat.reduceAdd, Nat.reduceMul, Nat.zero_add, Nat.add_zero, List.getElem?_cons_succ, List.getElem?_cons_zero]; rfl) ?_ | refine LoadsG.mk (by simp (disch := (first | omega | (simp only [Hp.next_new, Hp.next_put]; omega))) only [Hp.at_new_self, Hp.at_put_self, Hp.at_new_lt, Hp.at_put_ne] <;> rfl) (by rfl) ?_ | refine AtG.mk (by rfl) ?_ | refine StoreG.mk (by simp (disch := (first | omega | (simp only [Hp.next_new, Hp.next_put]; omega))) only [Hp.at_new_self, Hp.at_put_self, Hp.at_new_lt, Hp.at_put_ne] <;> rfl) (by first | omega | (simp; done) | (simp; omega)) ?_ | refine CondG.mk (by first | omega | exact sameV_flat _ rfl | exact sameV_agg _ (by simp [flatV]) | (simp; done) | (simp [repL, setL]; done) | (simp; omega)) ?_ | (refine LoadsG.mk2 hat1 cj (by omega) ?_) | fail); (all_goals (try dsimp only))
      refine cAdd_go hA hG1 (by omega) (kop h1 k1 Zs[Zs.length - 1 - i] (List.getElem_mem hj)) (fun h2 G1 z1 z2 z3 z4 _ => ?_)
      have k2 : Keep2 h3 h2 fo go := ⟨Nat.le_trans k1.1 z1, fun q q1 q2 q3 => by
        rw [z2 q (Nat.lt_of_lt_of_le q1 k1.1) (fun hq => by rcases g1 q hq with r | r <;> omega)]
        exact k1.2 q q1 q2 q3⟩
      have hF2 := y3.keep z1 fun q hq => z2 q (y3.lt hq) fun hq' => fg1 q hq hq'
      (try unfold vMov); repeat' (first | refine Step.imp ?_ | (refine Way.mk (fun hp => ?_) (fun hp => ?_) <;> first | contradiction | (exfalso; omega) | skip) | refine LoadG.mk (by simp (disch := (first | omega | (simp only [Hp.next_new, Hp.next_put]; omega))) only [Hp.at_new_self, Hp.at_put_self, Hp.at_new_lt, Hp.at_put_ne] <;> rfl) (by simp only [cellAt_row', setL_cons0, setL_succ, Nat.reduceAdd, Nat.reduceMul, Nat.zero_add, Nat.add_zero, List.getElem?_cons_succ, List.getElem?_cons_zero]; rfl) ?_ | refine LoadsG.mk (by simp (disch := (first | omega | (simp only [Hp.next_new, Hp.next_put]; omega))) only [Hp.at_new_self, Hp.at_put_self, Hp.at_new_lt, Hp.at_put_ne] <;> rfl) (by rfl) ?_ | refine AtG.mk (by rfl) ?_ | refine StoreG.mk (by simp (disch := (first | omega | (simp only [Hp.next_new, Hp.next_put]; omega))) only [Hp.at_new_self, Hp.at_put_self, Hp.at_new_lt, Hp.at_put_ne] <;> rfl) (by first | omega | (simp; done) | (simp; omega)) ?_ | refine CondG.mk (by first | omega | exact sameV_flat _ rfl | exact sameV_agg _ (by simp [flatV]) | (simp; done) | (simp [repL, setL]; done) | (simp; omega)) ?_ | fail); (all_goals (try dsimp only))
      rw [e1, ← hln]
      refine OrdersL12_run hA hfo hgo hB hsl hz hm t3 e0 he d (i + 1) fm h2 F1 G1 (by omega) (by omega) k2 (by rw [ga, addAll_snoc]; exact hF2) (by rw [gb, addAll_snoc]; exact z3) f2 (fun q hq => ?_) (fun q hq hq' => ?_)
      · rcases z4 q hq with r | r
        · exact g1 q r
        · exact .inr (Nat.le_trans k1.1 r)
      · rcases z4 q hq' with r | r
        · exact fg1 q hq r
        · have := y3.lt hq
          omega
    · have hd : d = 0 := by omega
      subst hd
      rw [List.take_of_length_le (by omega)] at hF hG
      try dsimp only
      (try unfold vMov); repeat' (first | refine Step.imp ?_ | (refine Way.mk (fun hp => ?_) (fun hp => ?_) <;> first | contradiction | (exfalso; omega) | skip) | refine LoadG.mk (by simp (disch := (first | omega | (simp only [Hp.next_new, Hp.next_put]; omega))) only [Hp.at_new_self, Hp.at_put_self, Hp.at_new_lt, Hp.at_put_ne] <;> rfl) (by simp only [cellAt_row', setL_cons0, setL_succ, Nat.reduceAdd, Nat.reduceMul, Nat.zero_add, Nat.add_zero, List.getElem?_cons_succ, List.getElem?_cons_zero]; rfl) ?_ | refine LoadsG.mk (by simp (disch := (first | omega | (simp only [Hp.next_new, Hp.next_put]; omega))) only [Hp.at_new_self, Hp.at_put_self, Hp.at_new_lt, Hp.at_put_ne] <;> rfl) (by rfl) ?_ | refine AtG.mk (by rfl) ?_ | refine StoreG.mk (by simp (disch := (first | omega | (simp only [Hp.next_new, Hp.next_put]; omega))) only [Hp.at_new_self, Hp.at_put_self, Hp.at_new_lt, Hp.at_put_ne] <;> rfl) (by first | omega | (simp; done) | (simp; omega)) ?_ | refine CondG.mk (by first | omega | exact sameV_flat _ rfl | exact sameV_agg _ (by simp [flatV]) | (simp; done) | (simp [repL, setL]; done) | (simp; omega)) ?_ | (refine len_sl hsl ?_) | fail); (all_goals (try dsimp only))
      exact he h F G hkeep hF hG
theorem OrdersL10_run (hS : cf 25 = cIdB2 sameI) {h : Hp} {v1 v2 : AV} {cl1 cl2 : List (List AV)} {hs : List FOp} (r1 : Rd h 5 v1 cl1) (w1 : VersR h cl1 hs) (r2 : Rd h 5 v2 cl2) (w2 : VersR h cl2 hs) (t3 t4 t5 : AV) (e1 : Hp → Prop) (he : e1 h) :
    ∀ (d k m : Nat), k + d = hs.length → d < m → s_lagoonlaw17_ContentOrdersL10 cf fuel K e1 t3 t4 t5 v1 v2 m (I k) h
  | d, k, m, hk, hm => by
    obtain ⟨m, rfl⟩ : ∃ j, m = j + 1 := ⟨m - 1, by omega⟩
    rw [s_lagoonlaw17_ContentOrdersL10_succ]
    unfold s_lagoonlaw17_ContentOrdersL10B
    have hb := r1.bound
    have l1 := w1.1
    have l2 := w2.1
    rw [r1.len]
    try dsimp only
    by_cases hkl : k < hs.length
    · obtain ⟨d, rfl⟩ : ∃ j, d = j + 1 := ⟨d - 1, by omega⟩
      have k1 : k < cl1.length := by omega
      have k2 : k < cl2.length := by omega
      obtain ⟨o1, off1, kn1, c1, a1, q1, hat1, hc1⟩ := r1.openS k1
      obtain ⟨o2, off2, kn2, c2, a2, q2, hat2, hc2⟩ := r2.openS k2
      have ck1 := hc1 k k1
      have ck2 := hc2 k k2
      obtain ⟨vs1, vd1, e1', -, -⟩ := w1.2 k k1 hkl
      obtain ⟨vs2, vd2, e2', -, -⟩ := w2.2 k k2 hkl
      rw [e1'] at ck1
      rw [e2'] at ck2
      have d1 : cellsO a1.obj 2 (off1 + k * 5 + 0) = some [I hs[k].t, I hs[k].n] := cellsO_sub 5 2 0 ck1 (by omega)
      have d2 : cellsO a2.obj 2 (off2 + k * 5 + 0) = some [I hs[k].t, I hs[k].n] := cellsO_sub 5 2 0 ck2 (by omega)
      have e3 : ((k : Int) + 1) = ((k + 1 : Nat) : Int) := by omega
      have ih := OrdersL10_run hS r1 w1 r2 w2 t3 t4 t5 e1 he d (k + 1) m (by omega) (by omega)
      rw [q1, q2]
      rw [q1, q2] at ih
      (try unfold vMov); repeat' (first | refine Step.imp ?_ | (refine Way.mk (fun hp => ?_) (fun hp => ?_) <;> first | contradiction | (exfalso; omega) | skip) | refine LoadG.mk (by simp (disch := (first | omega | (simp only [Hp.next_new, Hp.next_put]; omega))) only [Hp.at_new_self, Hp.at_put_self, Hp.at_new_lt, Hp.at_put_ne] <;> rfl) (by simp only [cellAt_row', setL_cons0, setL_succ, Nat.reduceAdd, Nat.reduceMul, Nat.zero_add, Nat.add_zero, List.getElem?_cons_succ, List.getElem?_cons_zero]; rfl) ?_ | refine LoadsG.mk (by simp (disch := (first | omega | (simp only [Hp.next_new, Hp.next_put]; omega))) only [Hp.at_new_self, Hp.at_put_self, Hp.at_new_lt, Hp.at_put_ne] <;> rfl) (by rfl) ?_ | refine AtG.mk (by rfl) ?_ | refine StoreG.mk (by simp (disch := (first | omega | (simp only [Hp.next_new, Hp.next_put]; omega))) only [Hp.at_new_self, Hp.at_put_self, Hp.at_new_lt, Hp.at_put_ne] <;> rfl) (by first | omega | (simp; done) | (simp; omega)) ?_ | refine CondG.mk (by first | omega | exact sameV_flat _ rfl | exact sameV_agg _ (by simp [flatV]) | (simp; done) | (simp [repL, setL]; done) | (simp; omega)) ?_ | (refine LoadsG.mk2 hat1 d1 (by omega) ?_) | (refine LoadsG.mk2 hat2 d2 (by omega) ?_) | (refine cIdB2_go hS (fun hp => ?_) (fun hp => ?_)) | fail); (all_goals (try dsimp only))
      · rw [e3]; exact ih
      · exfalso; simp [sameI] at hp
    · have hd : d = 0 := by omega
      subst hd
      (try unfold vMov); repeat' (first | refine Step.imp ?_ | (refine Way.mk (fun hp => ?_) (fun hp => ?_) <;> first | contradiction | (exfalso; omega) | skip) | refine LoadG.mk (by simp (disch := (first | omega | (simp only [Hp.next_new, Hp.next_put]; omega))) only [Hp.at_new_self, Hp.at_put_self, Hp.at_new_lt, Hp.at_put_ne] <;> rfl) (by simp only [cellAt_row', setL_cons0, setL_succ, Nat.reduceAdd, Nat.reduceMul, Nat.zero_add, Nat.add_zero, List.getElem?_cons_succ, List.getElem?_cons_zero]; rfl) ?_ | refine LoadsG.mk (by simp (disch := (first | omega | (simp only [Hp.next_new, Hp.next_put]; omega))) only [Hp.at_new_self, Hp.at_put_self, Hp.at_new_lt, Hp.at_put_ne] <;> rfl) (by rfl) ?_ | refine AtG.mk (by rfl) ?_ | refine StoreG.mk (by simp (disch := (first | omega | (simp only [Hp.next_new, Hp.next_put]; omega))) only [Hp.at_new_self, Hp.at_put_self, Hp.at_new_lt, Hp.at_put_ne] <;> rfl) (by first | omega | (simp; done) | (simp; omega)) ?_ | refine CondG.mk (by first | omega | exact sameV_flat _ rfl | exact sameV_agg _ (by simp [flatV]) | (simp; done) | (simp [repL, setL]; done) | (simp; omega)) ?_ | fail); (all_goals (try dsimp only))
      exact he
theorem Orders_run (hb : cf 11 = trueC) (hN : cf 12 = cNew) (hSo : cf 13 = cSome) (hA : cf 14 = cAdd) (hH : cf 18 = cFHeads) (hV : cf 19 = cFValue) (hS : cf 25 = cIdB2 sameI)
    {h0 : Hp} {v : AV} {els : List (List AV)} {os : List FOp} (hr : Rd h0 11 v els) (ho : OpsR h0 els os) (hf : 100 < fuel) (hK : ∀ h', K (.bool true) h') : s_lagoonlaw17_ContentOrders cf fuel v h0 K := by
  unfold s_lagoonlaw17_ContentOrders
  refine trueC_go hb ?_
  refine cNew_go hN (fun fo h1 x1 f1 f2 f3 => ?_)
  refine cNew_go hN (fun go h2 x2 g1 g2 g3 => ?_)
  have n1 := x1.next
  have n2 := x2.next
  have hQ : ∀ cs ∈ els, ∀ x ∈ cs, SlQ (fun o => o < h0.next) x := fun cs hcs => by
    obtain ⟨j, hj, rfl⟩ := List.getElem_of_mem hcs
    exact (ho.2 j hj (by rw [← ho.1]; exact hj)).old
  (try unfold vMov); repeat' (first | refine Step.imp ?_ | (refine Way.mk (fun hp => ?_) (fun hp => ?_) <;> first | contradiction | (exfalso; omega) | skip) | refine LoadG.mk (by simp (disch := (first | omega | (simp only [Hp.next_new, Hp.next_put]; omega))) only [Hp.at_new_self, Hp.at_put_self, Hp.at_new_lt, Hp.at_put_ne] <;> rfl) (by simp only [cellAt_row', setL_cons0, setL_succ, Nat.reduceAdd, Nat.reduceMul, Nat.zero_add, Nat.add_zero, List.getElem?_cons_succ, List.getElem?_cons_zero]; rfl) ?_ | refine LoadsG.mk (by simp (disch := (first | omega | (simp only [Hp.next_new, Hp.next_put]; omega))) only [Hp.at_new_self, Hp.at_put_self, Hp.at_new_lt, Hp.at_put_ne] <;> rfl) (by rfl) ?_ | refine AtG.mk (by rfl) ?_ | refine StoreG.mk (by simp (disch := (first | omega | (simp only [Hp.next_new, Hp.next_put]; omega))) only [Hp.at_new_self, Hp.at_put_self, Hp.at_new_lt, Hp.at_put_ne] <;> rfl) (by first | omega | (simp; done) | (simp; omega)) ?_ | refine CondG.mk (by first | omega | exact sameV_flat _ rfl | exact sameV_agg _ (by simp [flatV]) | (simp; done) | (simp [repL, setL]; done) | (simp; omega)) ?_ | fail); (all_goals (try dsimp only))
  refine cSome_go hSo 20 rfl (hr.mono (x1.trans x2)) (ho.mono (x1.trans x2)) hQ (by omega) (fun v' h3 Zs x3 s1 s2 s3 => ?_)
  have n3 := x3.next
  have sp := someO_spec os 20
  rw [← s3] at sp
  have hlen : Zs.length ≤ 20 := by have := sp.2.2; simpa using this
  have sl : SlN h3 11 v' (Zs.map Prod.fst) h2.next := s1
  try dsimp only
  refine OrdersL12_run cf fuel hA (h3 := h3) (B := h2.next) (fo := fo) (go := go) (by omega) (by omega) n3 sl (fun z hz => ⟨(s2 z hz).1.mono x3, fun x hx => ((s2 z hz).2 x hx).mono fun o q => ⟨by omega, by omega⟩⟩) (by omega) _ _ (fun h F G hk hF hG => ?_) Zs.length 0 fuel h3 (fun q => q = fo) (fun q => q = go) (by omega) (by omega) ⟨Nat.le_refl _, fun q _ _ _ => rfl⟩
    (FileS.new (by omega) (by rw [x3.same fo (by omega), x2.same fo f2]; exact f3)) (FileS.new (by omega) (by rw [x3.same go (by omega)]; exact g3)) (fun q hq => .inl hq) (fun q hq => .inl hq) (fun q hq hq' => by omega)
  have hperm : addAll [] (Zs.map Prod.snd).reverse = addAll [] (Zs.map Prod.snd) := (addAll_perm (List.reverse_perm _).symm sp.1).symm
  rw [hperm] at hG
  have hll := addAll_len (Zs.map Prod.snd) []
  simp only [List.length_nil, List.length_map] at hll
  generalize addAll [] (Zs.map Prod.snd) = L at hF hG hll
  unfold s_lagoonlaw17_ContentOrdersE0
  obtain ⟨vf, ef, hFH, lf⟩ := hF.file (by omega)
  refine cFHeads_go hH hFH (by omega) (fun v1 hA' cl1 y1 k1 => ?_)
  obtain ⟨vg, eg, hGH, lg⟩ := (hG.ext y1).file (by omega)
  refine cFHeads_go hH hGH (by omega) (fun v2 hB' cl2 y2 k2 => ?_)
  rw [lf] at k1
  rw [lg] at k2
  have q1 := headsP_len L 0 L.length
  obtain ⟨M1, a1, a2, a3, a4, a5⟩ := k1.mono y2
  obtain ⟨M2, b1, b2, b3, b4, b5⟩ := k2
  have l1 := a5.1
  have l2 := b5.1
  (try unfold vMov); repeat' (first | refine Step.imp ?_ | (refine Way.mk (fun hp => ?_) (fun hp => ?_) <;> first | contradiction | (exfalso; omega) | skip) | refine LoadG.mk (by simp (disch := (first | omega | (simp only [Hp.next_new, Hp.next_put]; omega))) only [Hp.at_new_self, Hp.at_put_self, Hp.at_new_lt, Hp.at_put_ne] <;> rfl) (by simp only [cellAt_row', setL_cons0, setL_succ, Nat.reduceAdd, Nat.reduceMul, Nat.zero_add, Nat.add_zero, List.getElem?_cons_succ, List.getElem?_cons_zero]; rfl) ?_ | refine LoadsG.mk (by simp (disch := (first | omega | (simp only [Hp.next_new, Hp.next_put]; omega))) only [Hp.at_new_self, Hp.at_put_self, Hp.at_new_lt, Hp.at_put_ne] <;> rfl) (by rfl) ?_ | refine AtG.mk (by rfl) ?_ | refine StoreG.mk (by simp (disch := (first | omega | (simp only [Hp.next_new, Hp.next_put]; omega))) only [Hp.at_new_self, Hp.at_put_self, Hp.at_new_lt, Hp.at_put_ne] <;> rfl) (by first | omega | (simp; done) | (simp; omega)) ?_ | refine CondG.mk (by first | omega | exact sameV_flat _ rfl | exact sameV_agg _ (by simp [flatV]) | (simp; done) | (simp [repL, setL]; done) | (simp; omega)) ?_ | (refine len_sl a3 ?_) | (refine len_sl b3 ?_) | fail); (all_goals (try dsimp only))
  refine OrdersL10_run cf fuel hS (SlN.rd a3 (by omega)) a5 (SlN.rd b3 (by omega)) b5 _ _ _ _ ?_ (headsP L 0 L.length).length 0 fuel (by omega) (by omega)
  unfold s_lagoonlaw17_ContentOrdersE1
  have y12 := y1.trans y2
  obtain ⟨wf, uf, hFH', lf'⟩ := (hF.ext y12).file (by omega)
  (try unfold vMov); repeat' (first | refine Step.imp ?_ | (refine Way.mk (fun hp => ?_) (fun hp => ?_) <;> first | contradiction | (exfalso; omega) | skip) | refine LoadG.mk (by simp (disch := (first | omega | (simp only [Hp.next_new, Hp.next_put]; omega))) only [Hp.at_new_self, Hp.at_put_self, Hp.at_new_lt, Hp.at_put_ne] <;> rfl) (by simp only [cellAt_row', setL_cons0, setL_succ, Nat.reduceAdd, Nat.reduceMul, Nat.zero_add, Nat.add_zero, List.getElem?_cons_succ, List.getElem?_cons_zero]; rfl) ?_ | refine LoadsG.mk (by simp (disch := (first | omega | (simp only [Hp.next_new, Hp.next_put]; omega))) only [Hp.at_new_self, Hp.at_put_self, Hp.at_new_lt, Hp.at_put_ne] <;> rfl) (by rfl) ?_ | refine AtG.mk (by rfl) ?_ | refine StoreG.mk (by simp (disch := (first | omega | (simp only [Hp.next_new, Hp.next_put]; omega))) only [Hp.at_new_self, Hp.at_put_self, Hp.at_new_lt, Hp.at_put_ne] <;> rfl) (by first | omega | (simp; done) | (simp; omega)) ?_ | refine CondG.mk (by first | omega | exact sameV_flat _ rfl | exact sameV_agg _ (by simp [flatV]) | (simp; done) | (simp [repL, setL]; done) | (simp; omega)) ?_ | fail); (all_goals (try dsimp only))
  refine cFValue_go hV hFH' (by omega) (fun w1 hC z1 z2 => ?_)
  obtain ⟨wg, ug, hGH', lg'⟩ := (hG.ext (y12.trans z1)).file (by omega)
  (try unfold vMov); repeat' (first | refine Step.imp ?_ | (refine Way.mk (fun hp => ?_) (fun hp => ?_) <;> first | contradiction | (exfalso; omega) | skip) | refine LoadG.mk (by simp (disch := (first | omega | (simp only [Hp.next_new, Hp.next_put]; omega))) only [Hp.at_new_self, Hp.at_put_self, Hp.at_new_lt, Hp.at_put_ne] <;> rfl) (by simp only [cellAt_row', setL_cons0, setL_succ, Nat.reduceAdd, Nat.reduceMul, Nat.zero_add, Nat.add_zero, List.getElem?_cons_succ, List.getElem?_cons_zero]; rfl) ?_ | refine LoadsG.mk (by simp (disch := (first | omega | (simp only [Hp.next_new, Hp.next_put]; omega))) only [Hp.at_new_self, Hp.at_put_self, Hp.at_new_lt, Hp.at_put_ne] <;> rfl) (by rfl) ?_ | refine AtG.mk (by rfl) ?_ | refine StoreG.mk (by simp (disch := (first | omega | (simp only [Hp.next_new, Hp.next_put]; omega))) only [Hp.at_new_self, Hp.at_put_self, Hp.at_new_lt, Hp.at_put_ne] <;> rfl) (by first | omega | (simp; done) | (simp; omega)) ?_ | refine CondG.mk (by first | omega | exact sameV_flat _ rfl | exact sameV_agg _ (by simp [flatV]) | (simp; done) | (simp [repL, setL]; done) | (simp; omega)) ?_ | (refine toStr_go z2 ?_) | fail); (all_goals (try dsimp only))
  refine cFValue_go hV hGH' (by omega) (fun w2 hD z3 z4 => ?_)
  (try unfold vMov); repeat' (first | refine Step.imp ?_ | (refine Way.mk (fun hp => ?_) (fun hp => ?_) <;> first | contradiction | (exfalso; omega) | skip) | refine LoadG.mk (by simp (disch := (first | omega | (simp only [Hp.next_new, Hp.next_put]; omega))) only [Hp.at_new_self, Hp.at_put_self, Hp.at_new_lt, Hp.at_put_ne] <;> rfl) (by simp only [cellAt_row', setL_cons0, setL_succ, Nat.reduceAdd, Nat.reduceMul, Nat.zero_add, Nat.add_zero, List.getElem?_cons_succ, List.getElem?_cons_zero]; rfl) ?_ | refine LoadsG.mk (by simp (disch := (first | omega | (simp only [Hp.next_new, Hp.next_put]; omega))) only [Hp.at_new_self, Hp.at_put_self, Hp.at_new_lt, Hp.at_put_ne] <;> rfl) (by rfl) ?_ | refine AtG.mk (by rfl) ?_ | refine StoreG.mk (by simp (disch := (first | omega | (simp only [Hp.next_new, Hp.next_put]; omega))) only [Hp.at_new_self, Hp.at_put_self, Hp.at_new_lt, Hp.at_put_ne] <;> rfl) (by first | omega | (simp; done) | (simp; omega)) ?_ | refine CondG.mk (by first | omega | exact sameV_flat _ rfl | exact sameV_agg _ (by simp [flatV]) | (simp; done) | (simp [repL, setL]; done) | (simp; omega)) ?_ | (refine toStr_go (z2.mono z3) ?_) | (refine toStr_go z4 ?_) | fail); (all_goals (try dsimp only))
  exact hK _
end
end Lg

namespace Go.Proofs.Ytnhamanffojhfaa.con
open Go Go.Am Go.Shelf Go.Proofs

noncomputable def ren59 : Ren := ⟨fun n => match n with | 22 => 59 | 29 => 112 | 30 => 113 | n => n, fun n => match n with | 9 => 43 | 24 => 38 | n => n, fun n => n⟩
noncomputable def zero59 : Value := ((Try.prog.info? 43).bind (·.zero)).getD (.tuple #[])
theorem lay59 : InsLay Try.prog ren59 Try.f59.name 5 72 zero59 where
  mixed := by kernel_rfl
  f22 := Try.func59.trans (by kernel_rfl)
  f29 := run_callFunc_extern Try.func112 (by kernel_rfl) (by kernel_rfl) (by kernel_rfl) (e := Extern.SlicesOverlaps.overlaps #[38, 38] #[4]) (by kernel_rfl)
  t0 := Try.underlying0
  a0 := Try.isAgg0
  z0 := Try.sizeOf0
  v0 := Try.zeroValue0
  t3 := Try.underlying3
  a3 := Try.isAgg3
  z3 := Try.sizeOf3
  v3 := Try.zeroValue3
  t4 := Try.underlying4
  a4 := Try.isAgg4
  z4 := Try.sizeOf4
  v4 := Try.zeroValue4
  z9 := Try.sizeOf43
  t24 := Try.underlying38
  a24 := Try.isAgg38
  z24 := Try.sizeOf38
  v24 := Try.zeroValue38
  i9 := by kernel_rfl
theorem cells59 : zero59.cells.size = 5 := by kernel_rfl

noncomputable def con (f : FuncId) : Option ConD := (match Nat.beq f 59 with | true => some (insH 5 72) | false => none)
theorem con_ok : ConOK Try.prog con := by
  intro f c h B w0
  unfold con at h
  split at h
  · rename_i hb
    have hf : f = 59 := by simpa using hb
    subst hf
    simp only [Option.some.injEq] at h
    subst h
    exact ins_ok (by decide) lay59 cells59 (by omega) B w0
  cases h
-- OV 59 insH 5 72 BY fun B w0 => ins_ok (by decide) con.lay59 con.cells59 (by omega) B w0
end Go.Proofs.Ytnhamanffojhfaa.con

namespace Lg
set_option linter.unusedSimpArgs false
set_option linter.unusedVariables false
set_option maxRecDepth 100000
open Go Go.Am Go.Proofs
open Go.Proofs.Ytnhamanffojhfaa.shl
theorem mixed : Try.prog.follows .mixedOrders = true := by kernel_rfl
theorem ins_one (B : Nat) (w0 : W0) : ConOne Try.prog B w0 59 (insH 5 72) := Go.Proofs.Ytnhamanffojhfaa.con.con_ok 59 (insH 5 72) (by rfl) B w0
theorem okI : ConOK Try.prog (lookC [(59, insH 5 72)]) := con_cons con_nil fun B w0 => ins_one B w0
set_option maxRecDepth 1000000 in
theorem begun_runs : RunsTrue Try.prog (lookC [(59, insH 5 72)]) 1000 30 11 = True := by kernel_rfl
noncomputable def L0 : List (Nat × ConD) := []
theorem ok0 : ConOK Try.prog (lookC L0) := con_nil
theorem one1 (B : Nat) (w0 : W0) : ConOne Try.prog B w0 99 (cIdB validB) := one_pure mixed ok0 rfl (fun avs h K hc => by
  obtain ⟨t, n, rfl, hK⟩ := hc
  exact ⟨_, by simp [oldV, oldVs], hK, 0, fun K2 hK2 => Eq.mp (s_lagoonref4_Valid_eq ..) (Valid_run _ _ t n hK2)⟩) B w0
noncomputable def L1 : List (Nat × ConD) := (99, cIdB validB) :: L0
theorem ok1 : ConOK Try.prog (lookC L1) := con_cons ok0 one1
theorem one2 (B : Nat) (w0 : W0) : ConOne Try.prog B w0 30 (cIdB2 lessI) := one_pure mixed ok1 rfl (fun avs h K hc => by
  obtain ⟨t, n, t', n', rfl, hK⟩ := hc
  exact ⟨_, by simp [oldV, oldVs], hK, 0, fun K2 hK2 => Eq.mp (s_lagoonref4_Less_eq ..) (Less_run _ _ t n t' n' hK2)⟩) B w0
noncomputable def L2 : List (Nat × ConD) := (30, cIdB2 lessI) :: L1
theorem ok2 : ConOK Try.prog (lookC L2) := con_cons ok1 one2
theorem one3 (B : Nat) (w0 : W0) : ConOne Try.prog B w0 25 (cIdB2 sameI) := one_pure mixed ok2 rfl (fun avs h K hc => by
  obtain ⟨t, n, t', n', rfl, hK⟩ := hc
  exact ⟨_, by simp [oldV, oldVs], hK, 0, fun K2 hK2 => Eq.mp (s_lagoonref4_Same_eq ..) (Same_run _ _ t n t' n' hK2)⟩) B w0
noncomputable def L3 : List (Nat × ConD) := (25, cIdB2 sameI) :: L2
theorem ok3 : ConOK Try.prog (lookC L3) := con_cons ok2 one3
theorem one4 (B : Nat) (w0 : W0) : ConOne Try.prog B w0 101 (cIdB rootB) := one_pure mixed ok3 rfl (fun avs h K hc => by
  obtain ⟨t, n, rfl, hK⟩ := hc
  exact ⟨_, by simp [oldV, oldVs], hK, 0, fun K2 hK2 => Eq.mp (s_lagoonref12_root_eq ..) (root_run _ _ t n hK2)⟩) B w0
noncomputable def L4 : List (Nat × ConD) := (101, cIdB rootB) :: L3
theorem ok4 : ConOK Try.prog (lookC L4) := con_cons ok3 one4
theorem one5 (B : Nat) (w0 : W0) : ConOne Try.prog B w0 104 (cIdB trashB) := one_pure mixed ok4 rfl (fun avs h K hc => by
  obtain ⟨t, n, rfl, hK⟩ := hc
  exact ⟨_, by simp [oldV, oldVs], hK, 0, fun K2 hK2 => Eq.mp (s_lagoonref12_trash_eq ..) (trash_run _ _ t n hK2)⟩) B w0
noncomputable def L5 : List (Nat × ConD) := (104, cIdB trashB) :: L4
theorem ok5 : ConOK Try.prog (lookC L5) := con_cons ok4 one5
theorem one6 (B : Nat) (w0 : W0) : ConOne Try.prog B w0 102 (cIdB2 olderB) := one_pure mixed ok5 rfl (fun avs h K hc => by
  obtain ⟨t, n, t', n', rfl, hK⟩ := hc
  exact ⟨_, by simp [oldV, oldVs], hK, 0, fun K2 hK2 => Eq.mp (s_lagoonref12_older_eq ..) (older_run _ _ (cfn_con rfl) (cfn_con rfl) t n t' n' hK2)⟩) B w0
noncomputable def L6 : List (Nat × ConD) := (102, cIdB2 olderB) :: L5
theorem ok6 : ConOK Try.prog (lookC L6) := con_cons ok5 one6
theorem one7 (B : Nat) (w0 : W0) : ConOne Try.prog B w0 26 (cAt) := one_pure mixed ok6 rfl (fun avs h K hc => by
  obtain ⟨v, l, n, rfl, hv, hK⟩ := hc
  exact ⟨_, by simp [oldV, oldVs], hK, 0, fun K2 hK2 => Eq.mp (s_lagoonref4_At_eq ..) (At_run _ _ v l n hv (hK2 h (Ext.refl h)))⟩) B w0
noncomputable def L7 : List (Nat × ConD) := (26, cAt) :: L6
theorem ok7 : ConOK Try.prog (lookC L7) := con_cons ok6 one7
theorem one8 (B : Nat) (w0 : W0) : ConOne Try.prog B w0 62 (cAt) := one_pure mixed ok7 rfl (fun avs h K hc => by
  obtain ⟨v, l, n, rfl, hv, hK⟩ := hc
  exact ⟨_, by simp [oldV, oldVs], hK, 0, fun K2 hK2 => Eq.mp (s_vector_At_eq ..) (vectorAt_run _ _ v l n hv (hK2 h (Ext.refl h)))⟩) B w0
noncomputable def L8 : List (Nat × ConD) := (62, cAt) :: L7
theorem ok8 : ConOK Try.prog (lookC L8) := con_cons ok7 one8
theorem one9 (B : Nat) (w0 : W0) : ConOne Try.prog B w0 134 (cIB fun n => decide (0 ≤ n) && decide (n < 64)) := one_pure mixed ok8 rfl (fun avs h K hc => by
  obtain ⟨n, rfl, hK⟩ := hc
  exact ⟨_, by simp [oldV, oldVs], hK, 0, fun K2 hK2 => Eq.mp (s_clock_node_eq ..) (node_run _ _ n hK2)⟩) B w0
noncomputable def L9 : List (Nat × ConD) := (134, cIB fun n => decide (0 ≤ n) && decide (n < 64)) :: L8
theorem ok9 : ConOK Try.prog (lookC L9) := con_cons ok8 one9
theorem one10 (B : Nat) (w0 : W0) : ConOne Try.prog B w0 105 (cIdB validB) := one_pure mixed ok9 rfl (fun avs h K hc => by
  obtain ⟨t, n, rfl, hK⟩ := hc
  exact ⟨_, by simp [oldV, oldVs], hK, 0, fun K2 hK2 => Eq.mp (s_clock_Valid_eq ..) (clockValid_run _ _ (cfn_con rfl) t n hK2)⟩) B w0
noncomputable def L10 : List (Nat × ConD) := (105, cIdB validB) :: L9
theorem ok10 : ConOK Try.prog (lookC L10) := con_cons ok9 one10
theorem one11 (B : Nat) (w0 : W0) : ConOne Try.prog B w0 137 (cNaN) := one_pure mixed ok10 rfl (fun avs h K hc => by
  obtain ⟨n, rfl, hK⟩ := hc
  exact ⟨_, by simp [oldV, oldVs], hK, 0, fun K2 hK2 => Eq.mp (s_cmp_isNaN_int64_eq ..) (isNaN64_run _ _ n hK2)⟩) B w0
noncomputable def L11 : List (Nat × ConD) := (137, cNaN) :: L10
theorem ok11 : ConOK Try.prog (lookC L11) := con_cons ok10 one11
theorem one12 (B : Nat) (w0 : W0) : ConOne Try.prog B w0 138 (cNaN) := one_pure mixed ok11 rfl (fun avs h K hc => by
  obtain ⟨n, rfl, hK⟩ := hc
  exact ⟨_, by simp [oldV, oldVs], hK, 0, fun K2 hK2 => Eq.mp (s_cmp_isNaN_int_eq ..) (isNaN_run _ _ n hK2)⟩) B w0
noncomputable def L12 : List (Nat × ConD) := (138, cNaN) :: L11
theorem ok12 : ConOK Try.prog (lookC L12) := con_cons ok11 one12
theorem one13 (B : Nat) (w0 : W0) : ConOne Try.prog B w0 110 (cCmp) := one_pure mixed ok12 rfl (fun avs h K hc => by
  obtain ⟨x, y, rfl, hK⟩ := hc
  exact ⟨_, by simp [oldV, oldVs], hK, 0, fun K2 hK2 => Eq.mp (s_cmp_Compare_int64_eq ..) (Compare64_run _ _ (cfn_con rfl) x y (hK2 h (Ext.refl h)))⟩) B w0
noncomputable def L13 : List (Nat × ConD) := (110, cCmp) :: L12
theorem ok13 : ConOK Try.prog (lookC L13) := con_cons ok12 one13
theorem one14 (B : Nat) (w0 : W0) : ConOne Try.prog B w0 111 (cCmp) := one_pure mixed ok13 rfl (fun avs h K hc => by
  obtain ⟨x, y, rfl, hK⟩ := hc
  exact ⟨_, by simp [oldV, oldVs], hK, 0, fun K2 hK2 => Eq.mp (s_cmp_Compare_int_eq ..) (Compare_run _ _ (cfn_con rfl) x y (hK2 h (Ext.refl h)))⟩) B w0
noncomputable def L14 : List (Nat × ConD) := (111, cCmp) :: L13
theorem ok14 : ConOK Try.prog (lookC L14) := con_cons ok13 one14
theorem one15 (B : Nat) (w0 : W0) : ConOne Try.prog B w0 58 (cIdI cmpI) := one_pure mixed ok14 rfl (fun avs h K hc => by
  obtain ⟨t, n, t', n', rfl, hK⟩ := hc
  exact ⟨_, by simp [oldV, oldVs], hK, 0, fun K2 hK2 => Eq.mp (s_clock_Cmp_eq ..) (Cmp_run _ _ (cfn_con rfl) (cfn_con rfl) t n t' n' hK2)⟩) B w0
noncomputable def L15 : List (Nat × ConD) := (58, cIdI cmpI) :: L14
theorem ok15 : ConOK Try.prog (lookC L15) := con_cons ok14 one15
theorem one16 (B : Nat) (w0 : W0) : ConOne Try.prog B w0 136 (cIdB2 lessI) := one_pure mixed ok15 rfl (fun avs h K hc => by
  obtain ⟨t, n, t', n', rfl, hK⟩ := hc
  exact ⟨_, by simp [oldV, oldVs], hK, 0, fun K2 hK2 => Eq.mp (s_clock_Less_eq ..) (clockLess_run _ _ (cfn_con rfl) t n t' n' hK2)⟩) B w0
noncomputable def L16 : List (Nat × ConD) := (136, cIdB2 lessI) :: L15
theorem ok16 : ConOK Try.prog (lookC L16) := con_cons ok15 one16
theorem one17 (B : Nat) (w0 : W0) : ConOne Try.prog B w0 85 (cConst (.agg [I 0, I 0])) := one_pure mixed ok16 rfl (fun avs h K hc => by
  obtain ⟨rfl, hK⟩ := hc
  exact ⟨_, by simp [oldV, oldVs], hK, 0, fun K2 hK2 => Eq.mp (s_ops_Root_eq ..) (Root_run _ _ hK2)⟩) B w0
noncomputable def L17 : List (Nat × ConD) := (85, cConst (.agg [I 0, I 0])) :: L16
theorem ok17 : ConOK Try.prog (lookC L17) := con_cons ok16 one17
theorem one18 (B : Nat) (w0 : W0) : ConOne Try.prog B w0 109 (cConst (.agg [I 0, I 1])) := one_pure mixed ok17 rfl (fun avs h K hc => by
  obtain ⟨rfl, hK⟩ := hc
  exact ⟨_, by simp [oldV, oldVs], hK, 0, fun K2 hK2 => Eq.mp (s_ops_Trash_eq ..) (Trash_run _ _ hK2)⟩) B w0
noncomputable def L18 : List (Nat × ConD) := (109, cConst (.agg [I 0, I 1])) :: L17
theorem ok18 : ConOK Try.prog (lookC L18) := con_cons ok17 one18
theorem one19 (B : Nat) (w0 : W0) : ConOne Try.prog B w0 57 (cCmpV) := one_pure mixed ok18 rfl (fun avs h K hc => by
  obtain ⟨t, n, q, vs, vd, t', n', rfl, hK⟩ := hc
  exact ⟨_, by simp [oldV, oldVs], hK, 0, fun K2 hK2 => Eq.mp (s_content_File_Add_1_eq ..) (AddCmp_run _ _ (cfn_con rfl) t n q t' n' vs vd hK2)⟩) B w0
noncomputable def L19 : List (Nat × ConD) := (57, cCmpV) :: L18
theorem ok19 : ConOK Try.prog (lookC L19) := con_cons ok18 one19
theorem one20 (B : Nat) (w0 : W0) : ConOne Try.prog B w0 100 (cVecB mayV) := one_pure mixed ok19 rfl (fun avs h K hc => by
  obtain ⟨v, l, rfl, hv, hK⟩ := hc
  exact ⟨_, by simp [oldV, oldVs], hK, l.length + 70, fun K2 hK2 => Eq.mp (s_lagoonref4_May_eq ..) (refMayV_run _ _ hv (by omega) (hK2 h (Ext.refl h)))⟩) B w0
noncomputable def L20 : List (Nat × ConD) := (100, cVecB mayV) :: L19
theorem ok20 : ConOK Try.prog (lookC L20) := con_cons ok19 one20
theorem one21 (B : Nat) (w0 : W0) : ConOne Try.prog B w0 176 (cIdxB) := one_pure mixed ok20 rfl (fun avs h K hc => by
  obtain ⟨l, b, rfl, h0, h1, hK⟩ := hc
  exact ⟨_, by simp [oldV, oldVs], hK, 0, fun K2 hK2 => Eq.mp (s_int_stringslite_IndexByte_eq ..) (litIndexByte_run _ _ l b h0 h1 hK2)⟩) B w0
noncomputable def L21 : List (Nat × ConD) := (176, cIdxB) :: L20
theorem ok21 : ConOK Try.prog (lookC L21) := con_cons ok20 one21
theorem one22 (B : Nat) (w0 : W0) : ConOne Try.prog B w0 172 (cIdxB) := one_pure mixed ok21 rfl (fun avs h K hc => by
  obtain ⟨l, b, rfl, h0, h1, hK⟩ := hc
  exact ⟨_, by simp [oldV, oldVs], hK, 0, fun K2 hK2 => Eq.mp (s_strings_IndexByte_eq ..) (IndexByte_run _ _ (cfn_con rfl) l b h0 h1 hK2)⟩) B w0
noncomputable def L22 : List (Nat × ConD) := (172, cIdxB) :: L21
theorem ok22 : ConOK Try.prog (lookC L22) := con_cons ok21 one22
theorem one23 (B : Nat) (w0 : W0) : ConOne Try.prog B w0 173 (cVR) := one_pure mixed ok22 rfl (fun avs h K hc => by
  obtain ⟨r, rfl, hK⟩ := hc
  exact ⟨_, by simp [oldV, oldVs], hK, 0, fun K2 hK2 => Eq.mp (s_unicode_utf8_ValidRune_eq ..) (ValidRune_run _ _ r hK2)⟩) B w0
noncomputable def L23 : List (Nat × ConD) := (173, cVR) :: L22
theorem ok23 : ConOK Try.prog (lookC L23) := con_cons ok22 one23
theorem one24 (B : Nat) (w0 : W0) : ConOne Try.prog B w0 167 (cRune) := one_pure mixed ok23 rfl (fun avs h K hc => by
  obtain ⟨r, rfl, h0, h1, hK⟩ := hc
  exact ⟨_, by simp [oldV, oldVs], hK, 10, fun K2 hK2 => Eq.mp (s_strings_IndexRune_eq ..) (IndexRune_run _ _ (cfn_con rfl) (cfn_con rfl) r h0 h1 (by omega) hK2)⟩) B w0
noncomputable def L24 : List (Nat × ConD) := (167, cRune) :: L23
theorem ok24 : ConOK Try.prog (lookC L24) := con_cons ok23 one24
theorem one25 (B : Nat) (w0 : W0) : ConOne Try.prog B w0 168 (cI1 fun n => decide (8 < n)) := one_pure mixed ok24 rfl (fun avs h K hc => by
  obtain ⟨n, rfl, hK⟩ := hc
  exact ⟨_, by simp [oldV, oldVs], hK, 0, fun K2 hK2 => Eq.mp (s_strings_shouldUseASCIISet_eq ..) (should_run _ _ n hK2)⟩) B w0
noncomputable def L25 : List (Nat × ConD) := (168, cI1 fun n => decide (8 < n)) :: L24
theorem ok25 : ConOK Try.prog (lookC L25) := con_cons ok24 one25
set_option maxRecDepth 1000000 in
theorem set3_runs : RunsTo Try.prog (lookC L25) 1000 3 169 [S [0, 1, 47]] (.tup [.agg set3, .bool true]) = True := by kernel_rfl
theorem one26 (B : Nat) (w0 : W0) : ConOne Try.prog B w0 169 (cSet3) := one_to mixed ok25 1000 3 169 [S [0, 1, 47]] (.tup [.agg set3, .bool true]) (by kernel_rfl) (by kernel_rfl) set3_runs B w0
noncomputable def L26 : List (Nat × ConD) := (169, cSet3) :: L25
theorem ok26 : ConOK Try.prog (lookC L26) := con_cons ok25 one26
theorem one27 (B : Nat) (w0 : W0) : ConOne Try.prog B w0 170 (cContains) := one_pure mixed ok26 rfl (fun avs h K hc => by
  obtain ⟨o, e, f, b, rfl, he, h0, h1, hc, hK⟩ := hc
  exact ⟨_, by simp [oldV, oldVs], hK, 0, fun K2 hK2 => Eq.mp (s_strings_asciiSet_contains_eq ..) (contains_run _ _ o e f b he h0 h1 hc hK2)⟩) B w0
noncomputable def L27 : List (Nat × ConD) := (170, cContains) :: L26
theorem ok27 : ConOK Try.prog (lookC L27) := con_cons ok26 one27
theorem one28 (B : Nat) (w0 : W0) : ConOne Try.prog B w0 156 (cIxAny) := one_pure mixed ok27 rfl (fun avs h K hc => by
  obtain ⟨l, rfl, hl, hK⟩ := hc
  exact ⟨_, by simp [oldV, oldVs], hK, l.length + 70, fun K2 hK2 => Eq.mp (s_strings_IndexAny_eq ..) (IndexAny_run _ _ (cfn_con rfl) (cfn_con rfl) (cfn_con rfl) (cfn_con rfl) l hl (by omega) hK2)⟩) B w0
noncomputable def L28 : List (Nat × ConD) := (156, cIxAny) :: L27
theorem ok28 : ConOK Try.prog (lookC L28) := con_cons ok27 one28
theorem one29 (B : Nat) (w0 : W0) : ConOne Try.prog B w0 135 (cBad) := one_pure mixed ok28 rfl (fun avs h K hc => by
  obtain ⟨l, rfl, hl, hK⟩ := hc
  exact ⟨_, by simp [oldV, oldVs], hK, 0, fun K2 hK2 => Eq.mp (s_strings_ContainsAny_eq ..) (ContainsAny_run _ _ (cfn_con rfl) l hl hK2)⟩) B w0
noncomputable def L29 : List (Nat × ConD) := (135, cBad) :: L28
theorem ok29 : ConOK Try.prog (lookC L29) := con_cons ok28 one29
theorem one30 (B : Nat) (w0 : W0) : ConOne Try.prog B w0 133 (cS localE) := one_pure mixed ok29 rfl (fun avs h K hc => by
  obtain ⟨l, rfl, hl, hK⟩ := hc
  exact ⟨_, by simp [oldV, oldVs], hK, l.length + 70, fun K2 hK2 => Eq.mp (s_lagoonref12_Local_eq ..) (Local_run _ _ l hl (by omega) hK2)⟩) B w0
noncomputable def L30 : List (Nat × ConD) := (133, cS localE) :: L29
theorem ok30 : ConOK Try.prog (lookC L30) := con_cons ok29 one30
theorem one31 (B : Nat) (w0 : W0) : ConOne Try.prog B w0 103 (cS nameE) := one_pure mixed ok30 rfl (fun avs h K hc => by
  obtain ⟨l, rfl, hl, hK⟩ := hc
  exact ⟨_, by simp [oldV, oldVs], hK, l.length + 70, fun K2 hK2 => Eq.mp (s_lagoonref12_Name_eq ..) (refName_run _ _ (cfn_con rfl) l hl (by omega) hK2)⟩) B w0
noncomputable def L31 : List (Nat × ConD) := (103, cS nameE) :: L30
theorem ok31 : ConOK Try.prog (lookC L31) := con_cons ok30 one31
theorem one32 (B : Nat) (w0 : W0) : ConOne Try.prog B w0 107 (cS nameE) := one_pure mixed ok31 rfl (fun avs h K hc => by
  obtain ⟨l, rfl, hl, hK⟩ := hc
  exact ⟨_, by simp [oldV, oldVs], hK, 0, fun K2 hK2 => Eq.mp (s_ops_Name_eq ..) (opsName_run _ _ (cfn_con rfl) l hl hK2)⟩) B w0
noncomputable def L32 : List (Nat × ConD) := (107, cS nameE) :: L31
theorem ok32 : ConOK Try.prog (lookC L32) := con_cons ok31 one32
theorem one33 (B : Nat) (w0 : W0) : ConOne Try.prog B w0 54 (cOpB mayO) := one_pure mixed ok32 rfl (fun avs h K hc => by
  obtain ⟨cs, o, rfl, ho, hK⟩ := hc
  exact ⟨_, by simp [oldV, oldVs], hK, 0, fun K2 hK2 => Eq.mp (s_lagoonref12_May_eq ..) (refMay_run _ _ (cfn_con rfl) (cfn_con rfl) (cfn_con rfl) (cfn_con rfl) (cfn_con rfl) (cfn_con rfl) (cfn_con rfl) (cfn_con rfl) ho hK2)⟩) B w0
noncomputable def L33 : List (Nat × ConD) := (54, cOpB mayO) :: L32
theorem ok33 : ConOK Try.prog (lookC L33) := con_cons ok32 one33
theorem one34 (B : Nat) (w0 : W0) : ConOne Try.prog B w0 106 (cSeen) := one_pure mixed ok33 rfl (fun avs h K hc => by
  obtain ⟨cs, o, rfl, ho, hq, hK⟩ := hc
  exact ⟨_, by simp [oldV, oldVs], hK, o.seen.length + 80, fun K2 hK2 => Eq.mp (s_ops_seen_eq ..) (seen_run _ _ (cfn_con rfl) ho hq (by omega) hK2)⟩) B w0
noncomputable def L34 : List (Nat × ConD) := (106, cSeen) :: L33
theorem ok34 : ConOK Try.prog (lookC L34) := con_cons ok33 one34
theorem one35 (B : Nat) (w0 : W0) : ConOne Try.prog B w0 108 (cEarlier) := one_pure mixed ok34 rfl (fun avs h K hc => by
  obtain ⟨t, n, cs, o, rfl, ho, hK⟩ := hc
  exact ⟨_, by simp [oldV, oldVs], hK, 0, fun K2 hK2 => Eq.mp (s_ops_earlier_eq ..) (earlier_run _ _ (cfn_con rfl) (cfn_con rfl) ho hK2)⟩) B w0
noncomputable def L35 : List (Nat × ConD) := (108, cEarlier) :: L34
theorem ok35 : ConOK Try.prog (lookC L35) := con_cons ok34 one35
theorem one36 (B : Nat) (w0 : W0) : ConOne Try.prog B w0 55 (cOpB mayO) := one_pure mixed ok35 rfl (fun avs h K hc => by
  obtain ⟨cs, o, rfl, ho, hK⟩ := hc
  exact ⟨_, by simp [oldV, oldVs], hK, 0, fun K2 hK2 => Eq.mp (s_ops_May_eq ..) (opsMay_run _ _ (cfn_con rfl) (cfn_con rfl) (cfn_con rfl) (cfn_con rfl) (cfn_con rfl) (cfn_con rfl) ho hK2)⟩) B w0
noncomputable def L36 : List (Nat × ConD) := (55, cOpB mayO) :: L35
theorem ok36 : ConOK Try.prog (lookC L36) := con_cons ok35 one36
theorem one37 (B : Nat) (w0 : W0) : ConOne Try.prog B w0 56 (cBS) := one_pure mixed ok36 rfl (fun avs h K hc => by
  obtain ⟨v, els, os, t, n, rfl, hr, ho, hri, hK⟩ := hc
  exact ⟨_, by simp [oldV, oldVs], hK, els.length + 2, fun K2 hK2 => Eq.mp (s_slices_BinarySearchFunc_api_Version_api_Version_api_ID_eq ..) (BS_run _ _ (cfn_con rfl) hr ho hri t n (by omega) hK2)⟩) B w0
noncomputable def L37 : List (Nat × ConD) := (56, cBS) :: L36
theorem ok37 : ConOK Try.prog (lookC L37) := con_cons ok36 one37
theorem one38 (B : Nat) (w0 : W0) : ConOne Try.prog B w0 61 (cClone) := one_code mixed ok37 rfl (fun avs h K hc => by
  obtain ⟨v, l, rfl, hv, hK⟩ := hc
  exact ⟨0, Eq.mp (s_bytes_Clone_eq ..) (Clone_run _ _ hv hK)⟩) B w0
noncomputable def L38 : List (Nat × ConD) := (61, cClone) :: L37
theorem ok38 : ConOK Try.prog (lookC L38) := con_cons ok37 one38
theorem one39 (B : Nat) (w0 : W0) : ConOne Try.prog B w0 22 (cOf) := one_code mixed ok38 rfl (fun avs h K hc => by
  obtain ⟨ca, a, rfl, ha, hK⟩ := hc
  exact ⟨0, Eq.mp (s_content_Of_eq ..) (Of_run2 _ _ (cfn_con rfl) ha hK)⟩) B w0
noncomputable def L39 : List (Nat × ConD) := (22, cOf) :: L38
theorem ok39 : ConOK Try.prog (lookC L39) := con_cons ok38 one39
theorem one40 (B : Nat) (w0 : W0) : ConOne Try.prog B w0 59 (insH 5 72) := ins_one B w0
noncomputable def L40 : List (Nat × ConD) := (59, insH 5 72) :: L39
theorem ok40 : ConOK Try.prog (lookC L40) := con_cons ok39 one40
theorem one41 (B : Nat) (w0 : W0) : ConOne Try.prog B w0 14 (cAdd) := one_code mixed ok40 rfl (fun avs h K hc => by
  obtain ⟨fo, os, F, ca, a, rfl, hf, hl, ha, hK⟩ := hc
  exact ⟨0, Eq.mp (s_content_File_Add_eq ..) (Add_run2 _ _ (cfn_con rfl) (cfn_con rfl) (cfn_con rfl) (cfn_con rfl) hf hl ha hK)⟩) B w0
noncomputable def L41 : List (Nat × ConD) := (14, cAdd) :: L40
theorem ok41 : ConOK Try.prog (lookC L41) := con_cons ok40 one41
theorem one42 (B : Nat) (w0 : W0) : ConOne Try.prog B w0 12 (cNew) := one_code mixed ok41 rfl (fun avs h K hc => by
  obtain ⟨rfl, hK⟩ := hc
  exact ⟨0, Eq.mp (s_content_New_eq ..) (New_run2 _ _ hK)⟩) B w0
noncomputable def L42 : List (Nat × ConD) := (12, cNew) :: L41
theorem ok42 : ConOK Try.prog (lookC L42) := con_cons ok41 one42
theorem one43 (B : Nat) (w0 : W0) : ConOne Try.prog B w0 23 (cBehV) := one_code mixed ok42 rfl (fun avs h K hc => by
  obtain ⟨ca, cb, a, b, rfl, ha, hb, hK⟩ := hc
  exact ⟨0, Eq.mp (s_content_Behind_eq ..) (Behind_run _ _ (cfn_con rfl) ha hb hK)⟩) B w0
noncomputable def L43 : List (Nat × ConD) := (23, cBehV) :: L42
theorem ok43 : ConOK Try.prog (lookC L43) := con_cons ok42 one43
theorem one44 (B : Nat) (w0 : W0) : ConOne Try.prog B w0 18 (cFHeads) := one_code mixed ok43 rfl (fun avs h K hc => by
  obtain ⟨fo, v, els, os, rfl, hf, hs, hK⟩ := hc
  exact ⟨els.length + 2, Eq.mp (s_content_File_Heads_eq ..) (FHeads_run _ _ (cfn_con rfl) (cfn_con rfl) hf (by omega) hs hK)⟩) B w0
noncomputable def L44 : List (Nat × ConD) := (18, cFHeads) :: L43
theorem ok44 : ConOK Try.prog (lookC L44) := con_cons ok43 one44
theorem one45 (B : Nat) (w0 : W0) : ConOne Try.prog B w0 19 (cFValue) := one_code mixed ok44 rfl (fun avs h K hc => by
  obtain ⟨fo, v, els, os, rfl, hf, hs, hK⟩ := hc
  exact ⟨0, Eq.mp (s_content_File_Value_eq ..) (Value_run _ _ (cfn_con rfl) hf hs hK)⟩) B w0
noncomputable def L45 : List (Nat × ConD) := (19, cFValue) :: L44
theorem ok45 : ConOK Try.prog (lookC L45) := con_cons ok44 one45
theorem one46 (B : Nat) (w0 : W0) : ConOne Try.prog B w0 97 (cShort) := one_code mixed ok45 rfl (fun avs h K hc => by
  obtain ⟨v, l, n, rfl, hv, hK⟩ := hc
  exact ⟨0, Eq.mp (s_lagoonlaw2_Short_eq ..) (Short_run _ _ hv n hK)⟩) B w0
noncomputable def L46 : List (Nat × ConD) := (97, cShort) :: L45
theorem ok46 : ConOK Try.prog (lookC L46) := con_cons ok45 one46
theorem one47 (B : Nat) (w0 : W0) : ConOne Try.prog B w0 98 (cVCut) := one_code mixed ok46 rfl (fun avs h K hc => by
  obtain ⟨v, l, rfl, hv, hK⟩ := hc
  exact ⟨0, Eq.mp (s_lagoonlaw4_Cut_eq ..) (VCut_run _ _ hv hK)⟩) B w0
noncomputable def L47 : List (Nat × ConD) := (98, cVCut) :: L46
theorem ok47 : ConOK Try.prog (lookC L47) := con_cons ok46 one47
theorem one48 (B : Nat) (w0 : W0) : ConOne Try.prog B w0 53 (cCut) := one_code mixed ok47 rfl (fun avs h K hc => by
  obtain ⟨o, vd, vs, rfl, hd, hs, hn, hK⟩ := hc
  exact ⟨0, Eq.mp (s_lagoonlaw12_Cut_eq ..) (Cut_run _ _ (cfn_con rfl) (cfn_con rfl) hd hs hn hK)⟩) B w0
noncomputable def L48 : List (Nat × ConD) := (53, cCut) :: L47
theorem ok48 : ConOK Try.prog (lookC L48) := con_cons ok47 one48
theorem one49 (B : Nat) (w0 : W0) : ConOne Try.prog B w0 13 (cSome) := one_code mixed ok48 rfl (fun avs h K hc => by
  obtain ⟨v, els, os, Q, most, rfl, hr, ho, hQ, hm, hK⟩ := hc
  exact ⟨els.length + most + 2, Eq.mp (s_lagoonlaw15_Some_eq ..) (Some_run _ _ (cfn_con rfl) (cfn_con rfl) (cfn_con rfl) hr ho hQ hm (by omega) (by omega) hK)⟩) B w0
noncomputable def L49 : List (Nat × ConD) := (13, cSome) :: L48
theorem ok49 : ConOK Try.prog (lookC L49) := con_cons ok48 one49
theorem one50 (B : Nat) (w0 : W0) : ConOne Try.prog B w0 11 (trueC) := one_true mixed okI 1000 30 11 begun_runs B w0
noncomputable def L50 : List (Nat × ConD) := (11, trueC) :: L49
theorem ok50 : ConOK Try.prog (lookC L50) := con_cons ok49 one50
noncomputable abbrev LT : List (Nat × ConD) := L50
theorem okT : ConOK Try.prog (lookC LT) := ok50
end Lg

namespace Lg
set_option linter.unusedSimpArgs false
set_option linter.unusedVariables false
set_option maxRecDepth 100000
open Go Go.Am Go.Proofs Go.RowKit
theorem list_choose {α : Type} {p : Nat → α → Prop} : ∀ n, (∀ j, j < n → ∃ x, p j x) → ∃ l : List α, l.length = n ∧ ∀ j (hj : j < l.length), p j l[j]
  | 0, _ => ⟨[], rfl, fun j hj => by simp at hj⟩
  | n + 1, h => by
    obtain ⟨l, h1, h2⟩ := list_choose n fun j hj => h j (by omega)
    obtain ⟨x, hx⟩ := h n (by omega)
    refine ⟨l ++ [x], by simp [h1], fun j hj => ?_⟩
    by_cases e : j < l.length
    · rw [List.getElem_append_left e]; exact h2 j e
    · have hj' : j = n := by simp at hj; omega
      subst hj'
      rw [List.getElem_append_right (by omega)]
      simpa [h1] using hx
section
variable {P : Program} {H : Type} {hp : Hp}
theorem rdt_int {n : Nat} {t : TypeId} {k : IntKind} {avs : List AV} {d : DataW H} (hu : P.underlying t = some (.int k)) (h : RdT P hp (n + 1) t avs d) : ∃ z, avs = [.int k z] := by
  unfold RdT at h
  simp only [hu] at h
  obtain ⟨z, h1, _⟩ := h
  exact ⟨z, h1⟩
theorem rdt_bool {n : Nat} {t : TypeId} {avs : List AV} {d : DataW H} (hu : P.underlying t = some .bool) (h : RdT P hp (n + 1) t avs d) : ∃ z, avs = [.bool z] := by
  unfold RdT at h
  simp only [hu] at h
  obtain ⟨z, h1, _⟩ := h
  exact ⟨z, h1⟩
theorem rdt_str {n : Nat} {t : TypeId} {avs : List AV} {d : DataW H} (hu : P.underlying t = some .string) (h : RdT P hp (n + 1) t avs d) : ∃ l, avs = [S l] ∧ l.length ≤ reachBytes := by
  unfold RdT at h
  simp only [hu] at h
  obtain ⟨z, h1, _, h2⟩ := h
  exact ⟨z, h1, h2⟩
theorem rdt_vec {n : Nat} {t e : TypeId} {avs : List AV} {d : DataW H} (hu : P.underlying t = some (.slice e)) (he : P.underlying e = some (.int .i64)) (hc : P.cellsOf e = 1) (hb : P.bytesOf e = 8) (h : RdT P hp (n + 2) t avs d) : ∃ v l, avs = [v] ∧ VecH hp v l := by
  unfold RdT at h
  simp only [hu] at h
  rcases h with ⟨rfl, _⟩ | ⟨o, rfl, _⟩ | ⟨o, c, ob, ds, sp, rfl, _, h1, h2, h3, h4, _, h5⟩
  · exact ⟨_, [], rfl, .inl ⟨rfl, rfl⟩⟩
  · exact ⟨_, [], rfl, .inr (.inl ⟨o, rfl, rfl⟩)⟩
  · rw [hc] at h5
    obtain ⟨l, l1, l2⟩ := list_choose (p := fun j z => cellsO ob 1 (j * 1) = some [I z]) ds.length fun j hj => by
      obtain ⟨cj, r1, _, r3⟩ := h5 j hj
      obtain ⟨z, rfl⟩ := rdt_int he r3
      exact ⟨z, r1⟩
    have hbd : ds.length ≤ 17592186044416 := by
      rw [hb] at h2
      have : reachBytes ≤ 140737488355328 := by decide
      omega
    refine ⟨_, l, rfl, .inr (.inr ⟨o, 0, true, c, _, by simp [l1], h3, h4, ⟨by simp; omega, fun _ => by simp; omega⟩, fun j hj => ?_⟩)⟩
    have hj' : j < l.length := by simpa using hj
    rw [Nat.zero_add, List.getElem_map]
    exact l2 j hj'
theorem rdt_by {n : Nat} {t e : TypeId} {avs : List AV} {d : DataW H} (hu : P.underlying t = some (.slice e)) (he : P.underlying e = some (.int .u8)) (hb : P.bytesOf e = 1) (h : RdT P hp (n + 1) t avs d) : ∃ v l, avs = [v] ∧ ByH hp v l := by
  unfold RdT at h
  simp only [hu] at h
  rcases h with ⟨rfl, _⟩ | ⟨o, rfl, _⟩ | ⟨o, c, ob, ds, sp, rfl, _, h1, h2, h3, h4, h6, _⟩
  · exact ⟨_, [], rfl, .inl ⟨rfl, rfl⟩⟩
  · exact ⟨_, [], rfl, .inr (.inl ⟨o, rfl, rfl⟩)⟩
  · obtain ⟨z, hz⟩ := h6 he
    have hbd : ds.length ≤ 140737488355328 := by
      rw [hb] at h2
      have : reachBytes ≤ 140737488355328 := by decide
      omega
    have hl : (bytesL ds.length z).length = ds.length := bytesL_length _ _
    refine ⟨_, bytesL ds.length z, rfl, .inr (.inr ⟨o, 0, true, c, _, ds.length, z, by rw [hl], h3, h4, hz, by omega, ⟨by omega, fun _ => by omega⟩, ?_⟩)⟩
    rw [List.drop_zero, List.take_of_length_le (Nat.le_refl _)]
theorem rdA_cons {n : Nat} {t : TypeId} {ts : List TypeId} {avs : List AV} {ds : List (DataW H)} (h : RdA P hp n (t :: ts) avs ds) : ∃ a r d e, avs = a :: r ∧ ds = d :: e ∧ RdT P hp n t [a] d ∧ RdA P hp n ts r e := by
  cases avs with
  | nil => cases ds <;> exact h.elim
  | cons a r => cases ds with
    | nil => exact h.elim
    | cons d e => exact ⟨a, r, d, e, rfl, rfl, h.1, h.2⟩
theorem rdA_nil {n : Nat} {avs : List AV} {ds : List (DataW H)} (h : RdA P hp n [] avs ds) : avs = [] := by
  cases avs with
  | nil => rfl
  | cons a r => cases ds <;> exact h.elim
theorem rdf_cons {R : TypeId → List AV → DataW H → Prop} {f : Field} {fs : List Field} {cl : List (List AV)} {dl : List (DataW H)} (h : RdF P R (f :: fs) cl dl) : ∃ c cl' d dl', cl = c :: cl' ∧ dl = d :: dl' ∧ R f.type c d ∧ RdF P R fs cl' dl' := by
  match cl, dl, h with
  | c :: cl', d :: dl', h => exact ⟨c, cl', d, dl', rfl, rfl, h.2.1, h.2.2⟩
theorem rdf_nil {R : TypeId → List AV → DataW H → Prop} {cl : List (List AV)} {dl : List (DataW H)} (h : RdF P R [] cl dl) : cl = [] := by
  match cl, dl, h with
  | [], [], _ => rfl
end
section
variable {H : Type} {hp : Hp}
theorem rd_id {n : Nat} {avs : List AV} {d : DataW H} (h : RdT Try.prog hp (n + 2) 30 avs d) : ∃ t k, avs = [I t, I k] := by
  unfold RdT at h
  simp only [Try.underlying30] at h
  obtain ⟨dl, cl, _, rfl, hf⟩ := h
  obtain ⟨c0, cl, d0, dl, rfl, rfl, h0, hf⟩ := rdf_cons hf
  obtain ⟨c1, cl, d1, dl, rfl, rfl, h1, hf⟩ := rdf_cons hf
  obtain rfl := rdf_nil hf
  obtain ⟨t, rfl⟩ := rdt_int Try.underlying2 h0
  obtain ⟨k, rfl⟩ := rdt_int Try.underlying3 h1
  exact ⟨t, k, rfl⟩
theorem rd_op {n : Nat} {avs : List AV} {d : DataW H} (h : RdT Try.prog hp (n + 4) 35 avs d) : ∃ o, OpH hp avs o := by
  unfold RdT at h
  simp only [Try.underlying35] at h
  obtain ⟨dl, cl, _, rfl, hf⟩ := h
  obtain ⟨c0, cl, d0, dl, rfl, rfl, h0, hf⟩ := rdf_cons hf
  obtain ⟨c1, cl, d1, dl, rfl, rfl, h1, hf⟩ := rdf_cons hf
  obtain ⟨c2, cl, d2, dl, rfl, rfl, h2, hf⟩ := rdf_cons hf
  obtain ⟨c3, cl, d3, dl, rfl, rfl, h3, hf⟩ := rdf_cons hf
  obtain ⟨c4, cl, d4, dl, rfl, rfl, h4, hf⟩ := rdf_cons hf
  obtain ⟨c5, cl, d5, dl, rfl, rfl, h5, hf⟩ := rdf_cons hf
  obtain ⟨c6, cl, d6, dl, rfl, rfl, h6, hf⟩ := rdf_cons hf
  obtain ⟨c7, cl, d7, dl, rfl, rfl, h7, hf⟩ := rdf_cons hf
  obtain rfl := rdf_nil hf
  obtain ⟨t, k, rfl⟩ := rd_id h0
  obtain ⟨q, rfl⟩ := rdt_int Try.underlying2 h1
  obtain ⟨kd, rfl⟩ := rdt_int Try.underlying3 h2
  obtain ⟨ot, ok, rfl⟩ := rd_id h3
  obtain ⟨pt, pk, rfl⟩ := rd_id h4
  obtain ⟨nm, rfl, hn⟩ := rdt_str Try.underlying9 h5
  obtain ⟨vd, dt, rfl, hd⟩ := rdt_by Try.underlying31 Try.underlying5 (by kernel_rfl) h6
  obtain ⟨vs, sn, rfl, hs⟩ := rdt_vec Try.underlying33 Try.underlying2 (by kernel_rfl) (by kernel_rfl) h7
  exact ⟨⟨t, k, q, kd, ot, ok, pt, pk, nm, dt, sn⟩, vd, vs, rfl, hd, hs, Nat.le_trans hn (by decide)⟩
theorem rd_ops {n : Nat} {avs : List AV} {d : DataW H} (h : RdT Try.prog hp (n + 5) 22 avs d) : ∃ (v : AV) (els : List (List AV)) (os : List FOp), avs = [v] ∧ Rd hp 11 v els ∧ els.length = os.length ∧ ∀ j (h1 : j < els.length) (h2 : j < os.length), OpH hp els[j] os[j] := by
  unfold RdT at h
  simp only [Try.underlying22] at h
  have hc : Try.prog.cellsOf 35 = 11 := by kernel_rfl
  have hb : Try.prog.bytesOf 35 = 128 := by kernel_rfl
  rcases h with ⟨rfl, _⟩ | ⟨o, rfl, _⟩ | ⟨o, c, ob, ds, sp, rfl, _, h1, h2, h3, h4, _, h5⟩
  · exact ⟨_, [], [], rfl, .inl ⟨rfl, rfl⟩, rfl, fun j h1 => by simp at h1⟩
  · exact ⟨_, [], [], rfl, .inr (.inl ⟨o, rfl, rfl⟩), rfl, fun j h1 => by simp at h1⟩
  · rw [hc] at h5
    obtain ⟨l, l1, l2⟩ := list_choose (p := fun j (z : List AV × FOp) => cellsO ob 11 (j * 11) = some z.1 ∧ OpH hp z.1 z.2) ds.length fun j hj => by
      obtain ⟨cj, r1, _, r3⟩ := h5 j hj
      obtain ⟨a, ha⟩ := rd_op r3
      exact ⟨(cj, a), r1, ha⟩
    have hbd : ds.length ≤ 17592186044416 := by
      rw [hb] at h2
      have : reachBytes ≤ 140737488355328 := by decide
      omega
    refine ⟨_, l.map Prod.fst, l.map Prod.snd, rfl, .inr (.inr ⟨o, 0, true, c, _, by simp [l1], h3, h4, ⟨by simp; omega, fun _ => by simp; omega⟩, fun j hj => ?_⟩), by simp, fun j h1 h2 => ?_⟩
    · have hj' : j < l.length := by simpa using hj
      rw [Nat.zero_add, List.getElem_map]
      exact (l2 j hj').1
    · have hj' : j < l.length := by simpa using h1
      rw [List.getElem_map, List.getElem_map]
      exact (l2 j hj').2
end
end Lg

