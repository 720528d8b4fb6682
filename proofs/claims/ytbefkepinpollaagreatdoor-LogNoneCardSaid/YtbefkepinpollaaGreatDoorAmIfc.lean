/-
  Maps ranged over: the iterator and its steps, whichever entry the model draws; interfaces: made, asked, called.
-/
import Derived.Test.YtbefkepinpollaaGreatDoorAmExt
import Derived.Laws.NewFold
namespace Go.Am
set_option linter.unusedSimpArgs false
set_option linter.unusedVariables false
open Go Go.RowKit
variable {P : Program} {o : Oper}

theorem asMit_iff {ob : AObj} {k : Option Nat → Nat → List Nat → Nat → Prop} (h : asMit ob k) : ∃ m s l c, ob = .mit m s l c ∧ k m s l c := by
  cases ob <;> simp only [asMit] at h
  exact ⟨_, _, _, _, rfl, h⟩
theorem asMap_of {ob : AObj} {k : List (AV × AV × Nat) → Nat → Prop} (h : asMap ob k) : ∃ es c, ob = .map es c ∧ k es c := by
  cases ob <;> simp only [asMap] at h
  exact ⟨_, _, rfl, h⟩
theorem run_getObj_mit {w : World} {r : Nat} {a : Option Nat} {b : Nat} {c : Array Nat} {d : Nat} (hb : w.heap[r]? = some (.mapIter a b c d)) : (getObj r).run P w = .ok (.mapIter a b c d) w := by simp [getObj, Sem.run, hb]
theorem run_getObj_map {w : World} {r : Nat} {a : Array MapEntry} {b : Nat} (hb : w.heap[r]? = some (.map a b)) : (getObj r).run P w = .ok (.map a b) w := by simp [getObj, Sem.run, hb]

theorem ok_rangeM {t k e : TypeId} {x : Operand} {dx : Opd} (hx : opd x = some dx) (ho : o.op = .range t x) (ht : P.underlying t = some (.map k e)) : ActOK P (oRangeM dx) o := by
  intro fr h K hD
  cases e1 : dx fr <;> simp only [oRangeM, vRangeM, e1] at hD
  case nilmap =>
    rw [newK_eq] at hD
    refine ⟨_, _, hD, fun B w0 κ ρ w s hr => ?_⟩
    have h3 := rho_nilmap hr hx e1
    refine ⟨κ.set h.next ⟨w.heap.size, 0, 0⟩, _, _, Kap.le_set s.none_next, s.new 0 0 (.mit none 0 [] 0) (.mapIter none 0 #[] 0) ⟨rfl, fun p hp => (by cases hp), rfl⟩, by simp only [gam, Kap.set_self]; rfl, .inl ?_⟩
    simp [execOp, ho, Instr.range, run_underlying ht, h3, Ki.at]
  case map p =>
    obtain ⟨en, he, hD⟩ := objAt_iff.1 hD
    obtain ⟨es, c, hob, hD⟩ := asMap_of hD
    rw [newK_eq] at hD
    refine ⟨_, _, hD, fun B w0 κ ρ w s hr => ?_⟩
    obtain ⟨ki, hk, h3⟩ := rho_map hr hx e1
    obtain ⟨ki', hk', _, _, h4⟩ := s.obj p en he
    rw [hk] at hk'; cases hk'
    rw [hob] at h4
    obtain ⟨es', h5, h6⟩ := h4
    refine ⟨κ.set h.next ⟨w.heap.size, 0, 0⟩, _, _, Kap.le_set s.none_next, s.new 0 0 (.mit (some p) c [] c) (.mapIter (some ki.blk) c #[] c) ⟨rfl, fun q hq => (by cases hq; simp [hk]), by simp [hk]⟩, by simp only [gam, Kap.set_self]; rfl, .inl ?_⟩
    simp [execOp, ho, Instr.range, run_underlying ht, h3, Ki.at, run_getObj_map h5]

/-! ### the next entry -/
def entV (κ : Kap) (e : AV × AV × Nat) (E : MapEntry) : Prop := gam κ e.1 = some E.key ∧ gam κ e.2.1 = some E.val ∧ E.born = e.2.2
theorem gamE_cons {κ : Kap} {e : AV × AV × Nat} {l : List (AV × AV × Nat)} {x : List MapEntry} (h : gamE κ (e :: l) = some x) : ∃ E x', x = E :: x' ∧ entV κ e E ∧ gamE κ l = some x' := by
  obtain ⟨k, v, b⟩ := e
  simp only [gamE, Option.bind_eq_some_iff, Option.map_eq_some_iff] at h
  obtain ⟨k', h1, v', h2, es, h3, rfl⟩ := h
  exact ⟨_, _, rfl, ⟨h1, h2, rfl⟩, h3⟩
theorem gamE_filt {κ : Kap} (p : Nat → Bool) : ∀ (l : List (AV × AV × Nat)) (x : List MapEntry), gamE κ l = some x → gamE κ (filtE p l) = some (x.filter fun E => p E.born)
  | [], x, h => by simp [gamE] at h; subst h; rfl
  | e :: l, x, h => by
    obtain ⟨E, x', rfl, he, hl⟩ := gamE_cons h
    have ih := gamE_filt p l x' hl
    have hb : E.born = e.2.2 := he.2.2
    rw [List.filter_cons, hb]
    unfold filtE
    cases hp : p e.2.2 with
    | true =>
      obtain ⟨k, v, b⟩ := e
      obtain ⟨h1, h2, h3⟩ := he
      simp only [gamE, h1, h2, ih, Option.bind_some, Option.map_some, if_true]
      congr 1
      cases E
      simp_all
    | false => simpa using ih
theorem gamE_app {κ : Kap} : ∀ (l m : List (AV × AV × Nat)) (x y : List MapEntry), gamE κ l = some x → gamE κ m = some y → gamE κ (l ++ m) = some (x ++ y)
  | [], m, x, y, h, hm => by simp [gamE] at h; subst h; simpa using hm
  | (k, v, b) :: l, m, x, y, h, hm => by
    simp only [gamE, Option.bind_eq_some_iff, Option.map_eq_some_iff] at h
    obtain ⟨k', h1, v', h2, es, h3, rfl⟩ := h
    simp [gamE, h1, h2, gamE_app l m es y h3 hm]
theorem gamE_nil {κ : Kap} {l : List (AV × AV × Nat)} {x : List MapEntry} (h : gamE κ l = some x) : isNilL l = x.isEmpty := by
  cases l with
  | nil => simp [gamE] at h; subst h; rfl
  | cons e l => obtain ⟨E, x', rfl, _, _⟩ := gamE_cons h; rfl
theorem gamE_getE {κ : Kap} : ∀ (l : List (AV × AV × Nat)) (x : List MapEntry) (i : Nat) (E : MapEntry), gamE κ l = some x → x[i]? = some E → ∃ e, e ∈ l ∧ entV κ e E
  | [], x, i, E, h, hi => by simp [gamE] at h; subst h; simp at hi
  | e :: l, x, i, E, h, hi => by
    obtain ⟨E', x', rfl, he, hl⟩ := gamE_cons h
    cases i with
    | zero => simp at hi; subst hi; exact ⟨e, by simp, he⟩
    | succ i =>
      obtain ⟨e', h1, h2⟩ := gamE_getE l x' i E hl (by simpa using hi)
      exact ⟨e', by simp [h1], h2⟩
theorem memN_iff (x : Nat) : ∀ l : List Nat, memN x l = l.contains x
  | [] => rfl
  | y :: l => by
    unfold memN
    rw [List.contains_cons]
    cases hb : Nat.beq x y with
    | true =>
      have : x = y := by simpa using hb
      subst this; simp
    | false =>
      have h9 : ¬ x = y := by intro e; subst e; simp at hb
      have : (x == y) = false := by simpa using h9
      rw [this, Bool.false_or]; exact memN_iff x l
theorem eachK_mem {α : Type} {f : α → Prop} : ∀ (l : List α), eachK f l → ∀ x ∈ l, f x
  | [], _, x, hx => by simp at hx
  | [y], h, x, hx => by simp at hx; subst hx; exact h
  | y :: z :: l, h, x, hx => by
    rcases List.mem_cons.1 hx with rfl | hx
    · exact h.1
    · exact eachK_mem (z :: l) h.2 x hx

/-- What the model may answer, and does. -/
theorem run_nextM {w : World} {r m since st clock : Nat} {seen : List Nat} {es : List MapEntry} {t : TypeId} (hr : w.heap[r]? = some (.mapIter (some m) since seen.toArray st)) (hm : w.heap[m]? = some (.map es.toArray clock))
    (hok : (!seen.isEmpty && !es.isEmpty && es.all fun e => decide (e.born ≥ st)) = false) :
    let left := es.filter fun e => !(seen.contains e.born)
    let old := left.filter fun e => decide (e.born < since)
    let new := left.filter fun e => decide (e.born ≥ since)
    ∃ w1, (w1 = w ∨ w1 = w.drew) ∧
      ((old = [] ∧ (Instr.next (.pointer (some ⟨r, 0, none⟩)) false t).run P w = .ok (.tuple #[.bool false]) w1) ∨
      ∃ (i : Nat) (E : MapEntry), (old ++ new)[i]? = some E ∧ (Instr.next (.pointer (some ⟨r, 0, none⟩)) false t).run P w = .ok (.tuple #[.bool true, E.key, E.val]) { w1 with heap := w1.heap.setIfInBounds r (.mapIter (some m) since (seen.toArray.push E.born) clock) }) := by
  intro left old new
  have hleft : es.toArray.filter (fun e => !seen.toArray.contains e.born) = left.toArray := by simp [left]
  have hold : left.toArray.filter (fun e => decide (e.born < since)) = old.toArray := by simp [old]
  have hnew : left.toArray.filter (fun e => decide (e.born ≥ since)) = new.toArray := by simp [new]
  obtain ⟨C, hC⟩ : ∃ C : List (Option MapEntry), C = (if old.isEmpty then [none] else []) ++ (old ++ new).map some := ⟨_, rfl⟩
  have hCa : (if old.toArray.isEmpty then #[none] else #[]) ++ (old.toArray ++ new.toArray).map some = C.toArray := by
    rw [hC]
    cases old <;> simp
  have hpos : 0 < C.length := by
    rw [hC]
    cases ho : old with
    | nil => simp
    | cons a l => simp
  obtain ⟨i, w1, hw1, hi, hch⟩ : ∃ i w1, (w1 = w ∨ w1 = w.drew) ∧ i < C.length ∧ (choose (.mapNext C.length)).run P w = .ok i w1 := by
    rw [run_choose_drew]
    by_cases hf : (Question.mapNext C.length).forced = true
    · exact ⟨0, w, .inl rfl, hpos, by rw [if_pos hf]⟩
    · exact ⟨_, w.drew, .inr rfl, Nat.mod_lt _ hpos, by rw [if_neg hf]; rfl⟩
  refine ⟨w1, hw1, ?_⟩
  have hget : ∀ (y : Obj), w.heap[r]? = some y → w1.heap[r]? = some y := fun y hy => by rcases hw1 with rfl | rfl <;> exact hy
  have hrun : (Instr.next (.pointer (some ⟨r, 0, none⟩)) false t).run P w = (match C[i]? with
      | some (some e) => (do setObj r (.mapIter (some m) since (seen.toArray.push e.born) clock); pure (.tuple #[.bool true, e.key, e.val]) : Sem Value)
      | some none => pure (.tuple #[.bool false])
      | none => stuck "Next: no such candidate").run P w1 := by
    have hok' : (!seen.toArray.isEmpty && !es.toArray.isEmpty && es.toArray.all fun e => decide (e.born ≥ st)) = false := by simpa using hok
    unfold Instr.next
    simp only [Sem.run_bind, run_getObj_mit hr, run_getObj_map hm, Result.andThen_ok, hok', Bool.false_eq_true, if_false, hleft, hold, hnew, hCa]
    have hsz : C.toArray.size = C.length := by simp
    rw [hsz, hch]
    simp only [Result.andThen_ok, List.getElem?_toArray]
    rcases C[i]? with _ | _ | _ <;> rfl
  rw [hrun]
  obtain ⟨c, hc⟩ : ∃ c, C[i]? = some c := ⟨_, List.getElem?_eq_getElem hi⟩
  rw [hc]
  cases c with
  | none =>
    left
    refine ⟨?_, rfl⟩
    cases ho : old with
    | nil => rfl
    | cons a l =>
      rw [hC, ho] at hc
      have := List.mem_of_getElem? hc
      simp at this
  | some E =>
    right
    have hE : ∃ j : Nat, (old ++ new)[j]? = some E := by
      have hmem : some E ∈ C := List.mem_of_getElem? hc
      rw [hC] at hmem
      have : E ∈ old ++ new := by
        rcases List.mem_append.1 hmem with h | h
        · split at h <;> simp at h
        · simpa using h
      exact List.mem_iff_getElem?.1 this
    obtain ⟨j, hj⟩ := hE
    refine ⟨j, E, hj, ?_⟩
    have := hget _ hr
    simp [setObj, Sem.run, this]

theorem blt_dec (a b : Nat) : Nat.blt a b = decide (a < b) := by rw [Bool.eq_iff_iff]; simp
theorem bnlt_dec (a b : Nat) : (!(Nat.blt a b)) = decide (a ≥ b) := by
  rw [blt_dec]
  by_cases h : a < b
  · rw [decide_eq_true h, decide_eq_false (by omega)]; rfl
  · rw [decide_eq_false h, decide_eq_true (by omega)]; rfl
theorem ok_nextM {x : Operand} {dx : Opd} (hx : opd x = some dx) (ho : o.op = .next x false) : BrOK P (oNextM dx) o := by
  intro fr h K hD B w0 κ ρ w s hr
  obtain ⟨p, off, e1, hD⟩ := asPtr_iff.1 hD
  obtain ⟨hoff, hD⟩ := gd_iff.1 hD
  obtain ⟨e, he, hD⟩ := objAt_iff.1 hD
  obtain ⟨hown, hD⟩ := gd_iff.1 hD
  obtain ⟨m, since, seen, st, hob, hD⟩ := asMit_iff hD
  have hoff' : off = 0 := by simpa using hoff
  rw [hoff'] at e1
  obtain ⟨ki, hk, h3⟩ := rho_ptr hr hx e1
  obtain ⟨ki', hk', hB', _, h4⟩ := s.obj p e he
  rw [hk] at hk'; cases hk'
  have hB := hB' hown
  rw [hob] at h4
  obtain ⟨h5, h6, h7⟩ := h4
  have hat : ki.at 0 = ⟨ki.blk, 0, none⟩ := by simp [Ki.at, h5]
  rw [hat] at h3
  cases m with
  | none =>
    refine ⟨_, _, κ, .tuple #[.bool false], w, hD, κ.le_refl, s, by simp [gam, gams], ?_⟩
    simp [execOp, ho, Instr.next, h3, run_getObj_mit h7]
  | some q =>
    obtain ⟨em, hem, hD⟩ := objAt_iff.1 hD
    obtain ⟨es, clock, hobm, hD⟩ := asMap_of hD
    obtain ⟨hok, hD⟩ := gd_iff.1 hD
    obtain ⟨km, hkm, _, _, g4⟩ := s.obj q em hem
    rw [hobm] at g4
    obtain ⟨es', g5, g6⟩ := g4
    simp only [Option.bind_some, hkm, Option.map_some] at h7
    have hok' : (!seen.isEmpty && !es'.isEmpty && es'.all fun e => decide (e.born ≥ st)) = false := by
      have k1 := gamE_nil g6
      have k2 := gamE_nil (gamE_filt (fun b => Nat.blt b st) es es' g6)
      have k3 : isNilL seen = seen.isEmpty := by cases seen <;> rfl
      rw [k1, k2, k3] at hok
      cases hs : seen.isEmpty with
      | true => simp
      | false =>
        cases he' : es'.isEmpty with
        | true => simp
        | false =>
          rw [hs, he'] at hok
          simp only [Bool.false_or, Bool.not_eq_true', Bool.not_false, Bool.true_and] at hok ⊢
          rw [← Bool.not_eq_true, List.all_eq_true]
          intro hall
          have : (es'.filter fun E => Nat.blt E.born st) = [] := by
            rw [List.filter_eq_nil_iff]
            intro E hE hlt
            have h1 := hall E hE
            simp at h1 hlt
            omega
          rw [this] at hok
          cases hok
    obtain ⟨w1, hw1, hans⟩ := run_nextM (P := P) (t := o.type) h7 g5 hok'
    have hfl := gamE_filt (fun b => !(memN b seen)) es es' g6
    have hl1 : (es'.filter fun E => !(memN E.born seen)) = es'.filter fun E => !(seen.contains E.born) := by simp only [memN_iff]
    rw [hl1] at hfl
    have hfo := gamE_filt (fun b => Nat.blt b since) _ _ hfl
    have hfn := gamE_filt (fun b => !(Nat.blt b since)) _ _ hfl
    have ho1 : ((es'.filter fun E => !(seen.contains E.born)).filter fun E => Nat.blt E.born since) = (es'.filter fun E => !(seen.contains E.born)).filter fun e => decide (e.born < since) := by
      simp only [blt_dec]
    have hn1 : ((es'.filter fun E => !(seen.contains E.born)).filter fun E => !(Nat.blt E.born since)) = (es'.filter fun E => !(seen.contains E.born)).filter fun e => decide (e.born ≥ since) := by
      simp only [bnlt_dec]
    rw [ho1] at hfo
    rw [hn1] at hfn
    have s1 : Sim B w0 κ h w1 := by
      rcases hw1 with rfl | rfl
      · exact s
      · exact s.drew
    generalize filtE (fun b => !(memN b seen)) es = left at hD hfo hfn
    simp only at hans hD
    rcases hans with ⟨hnil, hrun⟩ | ⟨i, E, hi, hrun⟩
    · -- over
      rw [hnil] at hfo
      have hz := gamE_nil hfo
      have hzo : filtE (fun b => Nat.blt b since) left = [] := by
        cases hq : filtE (fun b => Nat.blt b since) left with
        | nil => rfl
        | cons a l => rw [hq] at hz; cases hz
      rw [hzo] at hD
      simp only at hD
      have hK : K (.tup [.bool false]) h := by
        split at hD
        · exact hD
        · exact hD.1
      exact ⟨_, _, κ, .tuple #[.bool false], w1, hK, κ.le_refl, s1, by simp [gam, gams], by simp [execOp, ho, h3, hrun]⟩
    · -- an entry
      obtain ⟨en, hmem, hv1, hv2, hv3⟩ := gamE_getE _ _ i E (gamE_app _ _ _ _ hfo hfn) hi
      have hK : K (.tup [.bool true, en.1, en.2.1]) ⟨E1.updP (some ⟨true, e.esz, .mit (some q) since (seen ++ [en.2.2]) clock⟩) (npos p) h.objs, h.next⟩ := by
        split at hD
        · rename_i hzo
          rw [hzo, List.nil_append] at hmem
          split at hD
          · rename_i hzn; rw [hzn] at hmem; simp at hmem
          · rename_i a b hzn
            rw [hzn] at hmem
            have := eachK_mem _ hD.2 en hmem
            rwa [putK_eq] at this
        · rename_i a b hzo
          rw [hzo] at hmem
          have := eachK_mem _ hD en hmem
          rwa [putK_eq] at this
      have hbel : Below B w1 { w1 with heap := w1.heap.setIfInBounds ki.blk (.mapIter (some km.blk) since (seen.toArray.push E.born) clock) } := ⟨rfl, rfl, rfl, by simp, fun k hk' => setBlock_other w1 ki.blk k (by omega) _⟩
      refine ⟨_, _, κ, _, _, hK, κ.le_refl, s1.put he hk hown hbel (by simp) (fun b hb => setBlock_other w1 ki.blk b hb _) (.mit (some q) since (seen ++ [en.2.2]) clock) ⟨h5, fun p' hp' => (by cases hp'; simp [hkm]), ?_⟩, ?_, by simp [execOp, ho, h3, hrun]; rfl⟩
      · have hlt : ki.blk < w1.heap.size := by
          have := (Array.getElem?_eq_some_iff.1 h7).1
          rcases hw1 with rfl | rfl <;> exact this
        simp [Array.getElem?_setIfInBounds, hlt, hkm, hv3]
      · simp [gam, gams, hv1, hv2]

theorem findE_ok {κ : Kap} (b : Nat) : ∀ (l : List (AV × AV × Nat)) (x : List MapEntry) (en : AV × AV × Nat), gamE κ l = some x → findE b l = some en → ∃ E, x.find? (fun E => E.born == b) = some E ∧ entV κ en E
  | [], x, en, h, hf => by cases hf
  | e :: l, x, en, h, hf => by
    obtain ⟨E, x', rfl, he, hl⟩ := gamE_cons h
    have hb := he.2.2
    unfold findE at hf
    cases hq : Nat.beq e.2.2 b with
    | true =>
      rw [hq] at hf
      simp only [Option.some.injEq] at hf
      subst hf
      have hq' : e.2.2 = b := by simpa using hq
      exact ⟨E, by rw [List.find?_cons]; simp [hb, hq'], he⟩
    | false =>
      rw [hq] at hf
      obtain ⟨E', h1, h2⟩ := findE_ok b l x' en hl hf
      have hq' : ¬ e.2.2 = b := by intro h9; rw [h9] at hq; simp at hq
      have hq2 : (E.born == b) = false := by rw [hb]; simpa using hq'
      exact ⟨E', by rw [List.find?_cons, hq2]; exact h1, h2⟩
theorem ok_entry {x : Operand} {dx : Opd} (hx : opd x = some dx) (ho : o.op = .entry x) : ReadOK P (oEntry dx) o := by
  intro fr h K hD
  obtain ⟨p, off, e1, hD⟩ := asPtr_iff.1 hD
  obtain ⟨hoff, hD⟩ := gd_iff.1 hD
  obtain ⟨e, he, hD⟩ := objAt_iff.1 hD
  obtain ⟨m, since, seen, st, hob, hD⟩ := asMit_iff hD
  obtain ⟨q, hq, hD⟩ := asOpt_iff.1 hD
  obtain ⟨b, hb, hD⟩ := asOpt_iff.1 hD
  obtain ⟨em, hem, hD⟩ := objAt_iff.1 hD
  obtain ⟨es, clock, hobm, hD⟩ := asMap_of hD
  obtain ⟨hc, hD⟩ := gd_iff.1 hD
  obtain ⟨en, hen, hD⟩ := asOpt_iff.1 hD
  have hoff' : off = 0 := by simpa using hoff
  have hc' : clock = st := by simpa using hc
  rw [hoff'] at e1
  refine ⟨_, hD, fun B w0 κ ρ w s hr => ?_⟩
  obtain ⟨ki, hk, h3⟩ := rho_ptr hr hx e1
  obtain ⟨ki', hk', _, _, h4⟩ := s.obj p e he
  rw [hk] at hk'; cases hk'
  rw [hob] at h4
  obtain ⟨h5, h6, h7⟩ := h4
  have hat : ki.at 0 = ⟨ki.blk, 0, none⟩ := by simp [Ki.at, h5]
  rw [hat] at h3
  obtain ⟨km, hkm, _, _, g4⟩ := s.obj q em hem
  rw [hobm] at g4
  obtain ⟨es', g5, g6⟩ := g4
  simp only [hq, Option.bind_some, hkm, Option.map_some] at h7
  obtain ⟨E, f1, f2, f3, f4⟩ := findE_ok b es es' en g6 hen
  refine ⟨.tuple #[E.key, E.val], by simp [gam, gams, f2, f3], ?_⟩
  have hlast : seen.toArray.back? = some b := by simpa using hb
  have hfind : es'.toArray.find? (fun E => E.born == b) = some E := by simpa using f1
  have hcs : (clock != st) = false := by simp [hc']
  have hrun : (Instr.entry (.pointer (some ⟨ki.blk, 0, none⟩))).run P w = .ok (.tuple #[E.key, E.val]) w := by
    unfold Instr.entry
    simp only [Sem.run_bind, run_getObj_mit h7, Result.andThen_ok, hlast, run_getObj_map g5, hcs, Bool.false_eq_true, if_false, hfind, Sem.run_pure]
  simp [execOp, ho, h3, hrun]

/-! ### interfaces -/
theorem ok_iface {t : TypeId} {x : Operand} {dx : Opd} {d : TypeDesc} (hx : opd x = some dx) (ho : o.op = .makeInterface t x) (ht : P.underlying t = some d) (hni : ∀ ms, d ≠ .interface ms) : PureOK P (oIface t dx) o := by
  intro fr h K hD
  refine ⟨_, hD, fun κ ρ w hr => ⟨.iface t (ρ x), ?_, ?_⟩⟩
  · simp [gam, hr x dx hx]
  · cases d <;> first | (exact absurd rfl (hni _)) | simp [execOp, ho, Instr.makeInterface, run_underlying ht]
theorem run_zero {t : TypeId} {i : TypeInfo} {z : Value} (hi : P.info? t = some i) (hz : i.zero = some z) (w : World) : (zeroValue t).run P w = .ok z w := by simp [zeroValue, typeInfo, hi, hz]
theorem ok_assert {t xt : TypeId} {ok : Bool} {x : Operand} {dx : Opd} {d : TypeDesc} {av : AV} (hx : opd x = some dx) (ho : o.op = .typeAssert x xt t ok) (ht : P.underlying t = some d) (hni : ∀ ms, d ≠ .interface ms) (hz : zeroV P t = some av) : PureOK P (oAssert t ok av dx) o := by
  intro fr h K hD
  obtain ⟨i, z, hi, hz', hg⟩ := zeroV_gam hz
  replace hD : assertV (dx fr) t ok av h K := hD
  cases e1 : dx fr <;> rw [e1] at hD <;> first | exact hD.elim | skip
  case iface t' v =>
    have hv : ∀ {κ : Kap} {ρ : Operand → Value}, Rho κ fr ρ → ∃ V, gam κ v = some V ∧ ρ x = .iface t' V := fun {κ ρ} hr => by
      have := hr x dx hx
      rw [e1] at this
      simp only [gam, Option.map_eq_some_iff] at this
      obtain ⟨V, h1, h2⟩ := this
      exact ⟨V, h1, h2.symm⟩
    have hD : Bool.rec (motive := fun _ => Prop) (Bool.rec (motive := fun _ => Prop) False (K (.tup [av, .bool false]) h) ok) (Bool.rec (motive := fun _ => Prop) (K v h) (K (.tup [v, .bool true]) h) ok) (Nat.beq t' t) := hD
    cases hb : Nat.beq t' t with
    | true =>
      rw [hb] at hD
      have hE : t' = t := by simpa using hb
      have hF := hD
      clear hD
      subst hE
      cases ok with
      | true =>
        refine ⟨_, hF, fun κ ρ w hr => ?_⟩
        obtain ⟨V, g1, g2⟩ := hv hr
        refine ⟨.tuple #[V, .bool true], by simp [gam, gams, g1], ?_⟩
        cases d <;> first | (exact absurd rfl (hni _)) | simp [execOp, ho, Instr.typeAssert, run_underlying ht, g2]
      | false =>
        refine ⟨_, hF, fun κ ρ w hr => ?_⟩
        obtain ⟨V, g1, g2⟩ := hv hr
        refine ⟨V, g1, ?_⟩
        cases d <;> first | (exact absurd rfl (hni _)) | simp [execOp, ho, Instr.typeAssert, run_underlying ht, g2]
    | false =>
      rw [hb] at hD
      have hne : ¬ t' = t := by intro e; subst e; simp at hb
      cases ok with
      | true =>
        refine ⟨_, hD, fun κ ρ w hr => ?_⟩
        obtain ⟨V, g1, g2⟩ := hv hr
        refine ⟨.tuple #[z, .bool false], by simp [gam, gams, hg], ?_⟩
        cases d <;> first | (exact absurd rfl (hni _)) | simp [execOp, ho, Instr.typeAssert, run_underlying ht, g2, hne, run_zero hi hz']
      | false => exact hD.elim
  case niliface =>
    have hD : Bool.rec (motive := fun _ => Prop) False (K (.tup [av, .bool false]) h) ok := hD
    cases ok with
    | true =>
      refine ⟨_, hD, fun κ ρ w hr => ?_⟩
      have g2 : ρ x = .nilIface := by
        have := hr x dx hx
        rw [e1] at this
        simpa [gam] using this.symm
      refine ⟨.tuple #[z, .bool false], by simp [gam, gams, hg], ?_⟩
      cases d <;> first | (exact absurd rfl (hni _)) | simp [execOp, ho, Instr.typeAssert, run_underlying ht, g2, run_zero hi hz']
    | false => exact hD.elim

theorem asIf_iff {v : AV} {k : TypeId → AV → Prop} (h : asIf v k) : ∃ t x, v = .iface t x ∧ k t x := by
  cases v <;> simp only [asIf] at h
  exact ⟨_, _, rfl, h⟩
/-- A method that stands on the value itself. -/
theorem sel_val {name : String} {t : TypeId} {f : FuncId} (hs : selOf P name t = some (f, none)) (V : Value) (n : Nat) (w : World) : (method (n + 1) t V name).run P w = .ok (f, V) w := by
  simp only [selOf, Option.bind_eq_some_iff] at hs
  obtain ⟨i, hi, m, hm, hs⟩ := hs
  split at hs
  · rename_i p hpath hfn
    obtain ⟨d, hd, hs⟩ := Option.bind_eq_some_iff.1 hs
    have hpa : m.path = #[] := Array.toList_inj.1 hpath
    obtain ⟨f', pr⟩ := p
    unfold method
    simp only [Sem.run_bind, typeInfo, run_program, Result.andThen_ok, hi, Sem.run_pure, hm, hpa, follow, hfn]
    cases d <;> cases pr <;> simp [Option.bind_eq_some_iff] at hs <;> subst hs <;> simp [receiverAt, run_underlying hd, Place.get]
  · cases hs
theorem wrapnil (t : TypeId) (a : Addr) (name : String) : Builtin.ssaWrapNilChk_ #[t] t #[.pointer (some a), strVal "", strVal name] = pure (.pointer (some a)) := rfl
theorem sel_ptr {name : String} {t : TypeId} {f : FuncId} {g : Bool} {k : Nat} (hs : selOf P name t = some (f, some (g, k))) :
    ∃ e, aggOf P e = some g ∧ szOf P e = some k ∧ ∀ (a : Addr) (n : Nat) (w : World), (method (n + 1) t (.pointer (some a)) name).run P w = ((loadVar e a).run P w).andThen fun v w => .ok (f, v) w := by
  simp only [selOf, Option.bind_eq_some_iff] at hs
  obtain ⟨i, hi, m, hm, hs⟩ := hs
  split at hs
  · rename_i p hpath hfn
    obtain ⟨d, hd, hs⟩ := Option.bind_eq_some_iff.1 hs
    have hpa : m.path = #[] := Array.toList_inj.1 hpath
    obtain ⟨f', pr⟩ := p
    cases d with
    | pointer e =>
      cases pr with
      | true => simp at hs
      | false =>
        simp only [Option.bind_eq_some_iff, Option.map_eq_some_iff, Option.some.injEq, Prod.mk.injEq] at hs
        obtain ⟨g', hg, k', hk, rfl, rfl, rfl⟩ := hs
        refine ⟨e, hg, hk, fun a n w => ?_⟩
        unfold method
        simp only [Sem.run_bind, typeInfo, run_program, Result.andThen_ok, hi, Sem.run_pure, hm, hpa, follow, hfn]
        simp [receiverAt, run_underlying hd, Place.get, wrapnil, asAddr]
    | _ => cases pr <;> simp at hs
  · cases hs

theorem guard_const {op : BinOp} (hop : op = .eql ∨ op = .neq) {x y : Operand} (hc : (isConstO x || isConstO y) = true) (t : TypeId) (w : World) : (eqGuard op t x y .nilIface .nilIface).run P w = .ok () w := by
  rcases hop with rfl | rfl <;> cases x <;> cases y <;> first | (simp [isConstO] at hc; done) | rfl
theorem ok_eqI {op : BinOp} {neg : Bool} {t t' : TypeId} {x y : Operand} {dx dy : Opd} (hop : (op = .eql ∧ neg = false) ∨ (op = .neq ∧ neg = true)) (hi : isIfc P t = true)
    (hx : opd x = some dx) (hy : opd y = some dy) (ho : o.op = .binOp op t x y t') : PureOK P (oEq neg (eqIf P (isConstO x || isConstO y)) dx dy) o := by
  intro fr h K hD
  obtain ⟨b, hb, hK⟩ := asOpt_iff.1 hD
  obtain ⟨ms, hm⟩ : ∃ ms, P.underlying t = some (.interface ms) := by
    unfold isIfc at hi
    split at hi
    · rename_i ms hm; exact ⟨ms, hm⟩
    · cases hi
  refine ⟨_, mkB_iff.1 hK, fun κ ρ w hr => ⟨.bool (Bool.rec b (!b) neg), rfl, ?_⟩⟩
  have hX := hr x dx hx
  have hY := hr y dy hy
  have key : (eqGuard op t x y (ρ x) (ρ y)).run P w = .ok () w ∧ (Op.equal t (ρ x) (ρ y)).run P w = .ok b w ∧ (ρ x = .nilIface ∨ ∃ a c, ρ x = .iface a c) := by
    have eqr : ∀ X Y r, (∀ d, (Op.equalIn (d + 2) t X Y).run P w = .ok r w) → (Op.equal t X Y).run P w = .ok r w := fun X Y r h => h 9998
    cases e1 : dx fr <;> cases e2 : dy fr <;> simp only [e1, e2, eqIf, reduceCtorEq] at hb
    · rename_i t1 v1 t2 v2
      rw [e1] at hX
      rw [e2] at hY
      simp only [gam, Option.map_eq_some_iff] at hX hY
      obtain ⟨V1, q1, h1⟩ := hX
      obtain ⟨V2, q2, h2⟩ := hY
      rw [← h1, ← h2]
      refine ⟨by rcases hop with ⟨rfl, _⟩ | ⟨rfl, _⟩ <;> rfl, ?_, .inr ⟨_, _, rfl⟩⟩
      cases hq : Nat.beq t1 t2 with
      | false =>
        rw [hq] at hb
        simp only [Option.some.injEq] at hb
        subst hb
        have hne : ¬ t1 = t2 := by intro e; subst e; simp at hq
        exact eqr _ _ _ (fun d => by rw [Op.equalIn]; simp [run_underlying hm, hne])
      | true =>
        rw [hq] at hb
        have he : t1 = t2 := by simpa using hq
        subst he
        obtain ⟨i, hi1, hb⟩ := Option.bind_eq_some_iff.1 hb
        cases hc : i.comparable with
        | false => rw [hc] at hb; cases hb
        | true =>
          rw [hc] at hb
          obtain ⟨d, hd, hb⟩ := Option.bind_eq_some_iff.1 hb
          cases d <;> simp only [reduceCtorEq] at hb
          rename_i k0
          have hb2 : eqKI v1 v2 = some b := hb
          clear hb
          obtain ⟨j, a, c, rfl, rfl, hbe⟩ := eqKI_iff hb2
          simp only [gam, Option.some.injEq] at q1 q2
          subst q1 q2
          have inner : ∀ n, (Op.equalIn (n + 1) t1 (.int j a) (.int j c)).run P w = .ok b w := fun n => by
            rw [Op.equalIn]; simp [run_underlying hd, hbe]
          exact eqr _ _ _ (fun d => by rw [Op.equalIn]; simp [run_underlying hm, typeInfo, hi1, hc, inner])
    · rw [e1] at hX
      rw [e2] at hY
      obtain ⟨_, _, h1⟩ := gam_iface_ne hX
      have h2 : ρ y = .nilIface := by simpa [gam] using hY.symm
      rw [h1, h2]
      simp only [Option.some.injEq] at hb
      subst hb
      refine ⟨?_, eqr _ _ _ (fun d => by rw [Op.equalIn]; simp [run_underlying hm]), .inr ⟨_, _, rfl⟩⟩
      rcases hop with ⟨rfl, _⟩ | ⟨rfl, _⟩ <;> rfl
    · rw [e1] at hX
      rw [e2] at hY
      obtain ⟨_, _, h1⟩ := gam_iface_ne hY
      have h2 : ρ x = .nilIface := by simpa [gam] using hX.symm
      rw [h1, h2]
      simp only [Option.some.injEq] at hb
      subst hb
      refine ⟨?_, eqr _ _ _ (fun d => by rw [Op.equalIn]; simp [run_underlying hm]), .inl rfl⟩
      rcases hop with ⟨rfl, _⟩ | ⟨rfl, _⟩ <;> rfl
    · rw [e1] at hX
      rw [e2] at hY
      have h1 : ρ x = .nilIface := by simpa [gam] using hX.symm
      have h2 : ρ y = .nilIface := by simpa [gam] using hY.symm
      rw [h1, h2]
      split at hb
      · rename_i hc
        simp only [Option.some.injEq] at hb
        subst hb
        exact ⟨guard_const (hop.imp And.left And.left) hc t w, eqr _ _ _ (fun d => by rw [Op.equalIn]; simp [run_underlying hm]), .inl rfl⟩
      · cases hb
  obtain ⟨k1, k2, k3⟩ := key
  rcases hop with ⟨rfl, rfl⟩ | ⟨rfl, rfl⟩
  · have e : binOp .eql t (ρ x) (ρ y) = (do pure (.bool (← Op.equal t (ρ x) (ρ y)))) := by
      rcases k3 with h3 | ⟨_, _, h3⟩ <;> rw [h3] <;> cases ρ y <;> rfl
    simp [execOp, ho, k1, e, k2]
  · have e : binOp .neq t (ρ x) (ρ y) = (do pure (.bool (!(← Op.equal t (ρ x) (ρ y))))) := by
      rcases k3 with h3 | ⟨_, _, h3⟩ <;> rw [h3] <;> cases ρ y <;> rfl
    simp [execOp, ho, k1, e, k2]

end Go.Am
