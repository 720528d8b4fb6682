/-
  More operations that leave the heap alone.
-/
import Derived.Test.YtbefkepinpollaaGreatDoorAmPure
namespace Go.Am
set_option linter.unusedSimpArgs false
set_option linter.unusedVariables false
open Go Go.RowKit
variable {P : Program} {o : Oper}

theorem rho_nilptr {κ : Kap} {fr : Fr} {ρ : Operand → Value} (hr : Rho κ fr ρ) {x : Operand} {d : Opd} (hx : opd x = some d) (e : d fr = .nilptr) : ρ x = .pointer none := by
  have := hr x d hx; rw [e] at this; simpa [gam] using this.symm
theorem rho_nilmap {κ : Kap} {fr : Fr} {ρ : Operand → Value} (hr : Rho κ fr ρ) {x : Operand} {d : Opd} (hx : opd x = some d) (e : d fr = .nilmap) : ρ x = .map none := by
  have := hr x d hx; rw [e] at this; simpa [gam] using this.symm
theorem rho_nilfunc {κ : Kap} {fr : Fr} {ρ : Operand → Value} (hr : Rho κ fr ρ) {x : Operand} {d : Opd} (hx : opd x = some d) (e : d fr = .nilfunc) : ρ x = .nilFunc := by
  have := hr x d hx; rw [e] at this; simpa [gam] using this.symm
theorem rho_map {κ : Kap} {fr : Fr} {ρ : Operand → Value} (hr : Rho κ fr ρ) {x : Operand} {d : Opd} (hx : opd x = some d) {p : Nat} (e : d fr = .map p) : ∃ ki, κ p = some ki ∧ ρ x = .map (some ki.blk) := by
  have := hr x d hx; rw [e] at this
  simp only [gam, Option.map_eq_some_iff] at this
  obtain ⟨ki, h1, h2⟩ := this
  exact ⟨ki, h1, h2.symm⟩
theorem rho_func {κ : Kap} {fr : Fr} {ρ : Operand → Value} (hr : Rho κ fr ρ) {x : Operand} {d : Opd} (hx : opd x = some d) {f : FuncId} {a c : List AV} (e : d fr = .func f a c) :
    ∃ a' c', gams κ a = some a' ∧ gams κ c = some c' ∧ ρ x = .func (.func f) a'.toArray c'.toArray := by
  have := hr x d hx; rw [e] at this
  simp only [gam, Option.bind_eq_some_iff, Option.map_eq_some_iff] at this
  obtain ⟨a', h1, c', h2, h3⟩ := this
  exact ⟨a', c', h1, h2, h3.symm⟩

/-! ### two values held against one another -/
theorem equal_run {t : TypeId} (x y : Value) (w : World) (b : Bool)
    (h : ∀ d, (Op.equalIn (d + 1) t x y).run P w = .ok b w) : (Op.equal t x y).run P w = .ok b w := h 9999
def EqOK (P : Program) (f : AV → AV → Option Bool) (t : TypeId) : Prop :=
  ∀ (κ : Kap) x y X Y b w, f x y = some b → gam κ x = some X → gam κ y = some Y → ((∀ c, X ≠ .agg c) ∧ X ≠ .nilIface) ∧ (Op.equal t X Y).run P w = .ok b w ∧ (∀ k n, X ≠ .int k n) ∧ (∀ s, X ≠ .string s) ∧ (∀ k n, X ≠ .float k n) ∧ (∀ k n m, X ≠ .complex k n m)
theorem ok_eq {op : BinOp} {neg : Bool} {f : AV → AV → Option Bool} {t t' : TypeId} (hop : (op = .eql ∧ neg = false) ∨ (op = .neq ∧ neg = true)) (hf : EqOK P f t)
    {x y : Operand} {dx dy : Opd} (hx : opd x = some dx) (hy : opd y = some dy) (ho : o.op = .binOp op t x y t') : PureOK P (oEq neg f dx dy) o := by
  intro fr h K hD
  obtain ⟨b, hb, hK⟩ := asOpt_iff.1 hD
  refine ⟨_, mkB_iff.1 hK, fun κ ρ w hr => ⟨.bool (Bool.rec b (!b) neg), rfl, ?_⟩⟩
  obtain ⟨h1, h2, h3, h4, h5, h6⟩ := hf κ _ _ _ _ b w hb (hr x dx hx) (hr y dy hy)
  refine run_bin ho h1 ?_
  rcases hop with ⟨rfl, rfl⟩ | ⟨rfl, rfl⟩
  · have e : binOp .eql t (ρ x) (ρ y) = (do pure (.bool (← Op.equal t (ρ x) (ρ y)))) := by
      cases hv : ρ x <;> cases hu : ρ y <;> first | rfl | exact absurd hv (h3 _ _) | exact absurd hv (h4 _) | exact absurd hv (h5 _ _) | exact absurd hv (h6 _ _ _)
    rw [e]; simp [h2]
  · have e : binOp .neq t (ρ x) (ρ y) = (do pure (.bool (!(← Op.equal t (ρ x) (ρ y))))) := by
      cases hv : ρ x <;> cases hu : ρ y <;> first | rfl | exact absurd hv (h3 _ _) | exact absurd hv (h4 _) | exact absurd hv (h5 _ _) | exact absurd hv (h6 _ _ _)
    rw [e]; simp [h2]
def eqB0 (x y : AV) : Option Bool := match x, y with | .bool a, .bool b => some (a == b) | _, _ => none
def eqP0 (x y : AV) : Option Bool := match x, y with
  | .nilptr, .nilptr => some true
  | .nilptr, .ptr _ _ => some false
  | .ptr _ _, .nilptr => some false
  | .ptr o a, .ptr p b => (match Nat.beq o p with | true => some (Nat.beq a b) | false => none)
  | _, _ => none
def eqNS0 (x y : AV) : Option Bool := match x, y with
  | .nilslice, .nilslice => some true
  | .nilslice, .slice .. => some false
  | .slice .., .nilslice => some false
  | .nilslice, .sliceE .. => some false
  | .sliceE .., .nilslice => some false
  | _, _ => none
def eqNM0 (x y : AV) : Option Bool := match x, y with
  | .nilmap, .nilmap => some true
  | .nilmap, .map _ => some false
  | .map _, .nilmap => some false
  | _, _ => none
def eqNF0 (x y : AV) : Option Bool := match x, y with
  | .nilfunc, .nilfunc => some true
  | .nilfunc, .func .. => some false
  | .func .., .nilfunc => some false
  | _, _ => none
theorem eqB_old (x y : AV) : eqB x y = eqB0 x y := by
  cases x <;> cases y <;> first | rfl | (rename_i a b; cases a <;> cases b <;> rfl)
theorem eqP_old (x y : AV) : eqP x y = eqP0 x y := by
  cases x <;> cases y <;> first | rfl | skip
  case ptr.ptr o a p b =>
    show Bool.rec (motive := fun _ => Option Bool) none (some (Nat.beq a b)) (Nat.beq o p) = (match Nat.beq o p with | true => some (Nat.beq a b) | false => none)
    cases Nat.beq o p <;> rfl
theorem eqNS_old (x y : AV) : eqNS x y = eqNS0 x y := by cases x <;> cases y <;> rfl
theorem eqNM_old (x y : AV) : eqNM x y = eqNM0 x y := by cases x <;> cases y <;> rfl
theorem eqNF_old (x y : AV) : eqNF x y = eqNF0 x y := by cases x <;> cases y <;> rfl
theorem eqB_ok {t : TypeId} (ht : P.underlying t = some .bool) : EqOK P eqB t := by
  intro κ x y X Y b w hb hx hy
  rw [eqB_old] at hb
  cases x <;> cases y <;> simp [eqB0] at hb
  simp [gam] at hx hy
  subst hx hy hb
  refine ⟨by simp, equal_run _ _ _ _ (fun d => ?_), by simp, by simp, by simp, by simp⟩
  simp [Op.equalIn, run_underlying ht]
theorem at_beq (ki : Ki) (a b : Nat) : (ki.at a == ki.at b) = Nat.beq a b := by
  rw [Bool.eq_iff_iff, beq_iff_eq, Nat.beq_eq]
  simp [Ki.at]
theorem eqP_ok {t e n : TypeId} (ht : P.underlying t = some (.pointer e)) (he : szOf P e = some (n + 1)) : EqOK P eqP t := by
  intro κ x y X Y b w hb hx hy
  have hsz : (sizeOf e).run P w = .ok (n + 1) w := by
    unfold szOf at he
    obtain ⟨i, h1, h2⟩ := Option.map_eq_some_iff.1 he
    simp [sizeOf, typeInfo, h1, h2]
  rw [eqP_old] at hb
  cases x <;> cases y <;> simp only [eqP0, Option.some.injEq, reduceCtorEq] at hb
  · rename_i p a q c
    split at hb
    · rename_i hpq
      have hpq' : p = q := by simpa using hpq
      subst hpq'
      simp only [gam, Option.map_eq_some_iff] at hx hy
      obtain ⟨ki, k1, rfl⟩ := hx
      obtain ⟨ki', k2, rfl⟩ := hy
      rw [k1] at k2; cases k2
      refine ⟨by simp, equal_run _ _ _ _ (fun d => ?_), by simp, by simp, by simp, by simp⟩
      have hb' : Nat.beq a c = b := by simpa using hb
      have e2 : (ki.at a).block = (ki.at c).block := rfl
      simp [Op.equalIn, run_underlying ht, hsz, sameAddr, e2, at_beq, hb']
    · cases hb
  · simp only [gam, Option.map_eq_some_iff] at hx hy
    obtain ⟨ki, k1, rfl⟩ := hx
    cases hy; subst hb
    refine ⟨by simp, equal_run _ _ _ _ (fun d => ?_), by simp, by simp, by simp, by simp⟩
    simp [Op.equalIn, run_underlying ht]
  · simp only [gam, Option.map_eq_some_iff] at hx hy
    obtain ⟨ki, k1, rfl⟩ := hy
    cases hx; subst hb
    refine ⟨by simp, equal_run _ _ _ _ (fun d => ?_), by simp, by simp, by simp, by simp⟩
    simp [Op.equalIn, run_underlying ht]
  · simp only [gam] at hx hy
    cases hx; cases hy; subst hb
    refine ⟨by simp, equal_run _ _ _ _ (fun d => ?_), by simp, by simp, by simp, by simp⟩
    simp [Op.equalIn, run_underlying ht]
theorem gam_slice_ne {κ : Kap} {p f n c : Nat} {kn : Bool} {X : Value} (h : gam κ (.slice p f n kn c) = some X) : ∃ a n c, X = .slice (some a) n c := by
  simp only [gam, Option.bind_eq_some_iff] at h
  obtain ⟨ki, h1, h2⟩ := h
  cases kn with
  | true => simp only [if_true] at h2; split at h2 <;> simp_all; exact ⟨_, _, _, h2.symm⟩
  | false => simp only [Bool.false_eq_true, if_false] at h2; split at h2 <;> simp_all; exact ⟨_, _, _, h2.symm⟩
theorem gam_func_ne {κ : Kap} {f : FuncId} {a c : List AV} {X : Value} (h : gam κ (.func f a c) = some X) : ∃ f a c, X = .func f a c := by
  simp only [gam, Option.bind_eq_some_iff, Option.map_eq_some_iff] at h
  obtain ⟨a', h1, c', h2, h3⟩ := h
  exact ⟨_, _, _, h3.symm⟩
theorem gam_iface_ne {κ : Kap} {t : TypeId} {v : AV} {X : Value} (h : gam κ (.iface t v) = some X) : ∃ t' v', X = .iface t' v' := by
  simp only [gam, Option.map_eq_some_iff] at h
  obtain ⟨a', h1, h3⟩ := h
  exact ⟨_, _, h3.symm⟩
theorem gam_map_ne {κ : Kap} {p : Nat} {X : Value} (h : gam κ (.map p) = some X) : ∃ r, X = .map (some r) := by
  simp only [gam, Option.map_eq_some_iff] at h
  obtain ⟨a', h1, h3⟩ := h
  exact ⟨_, h3.symm⟩
theorem gam_sliceE_ne {κ : Kap} {o a b c : Nat} {V : Value} (h : gam κ (.sliceE o a b c) = some V) : ∃ x n m, V = .slice (some x) n m := by
  simp only [gam, Option.bind_eq_some_iff] at h
  obtain ⟨ki, h1, h2⟩ := h
  split at h2
  · exact ⟨_, _, _, by simpa using h2.symm⟩
  · cases h2
theorem eqNS_ok {t e : TypeId} (ht : P.underlying t = some (.slice e)) : EqOK P eqNS t := by
  intro κ x y X Y b w hb hx hy
  rw [eqNS_old] at hb
  cases x <;> cases y <;> simp only [eqNS0, Option.some.injEq, reduceCtorEq] at hb
  · obtain ⟨_, _, _, rfl⟩ := gam_slice_ne hx
    simp [gam] at hy; subst hb hy
    exact ⟨by simp, equal_run _ _ _ _ (fun d => by simp [Op.equalIn, run_underlying ht]), by simp, by simp, by simp, by simp⟩
  · obtain ⟨_, _, _, rfl⟩ := gam_slice_ne hy
    simp [gam] at hx; subst hb hx
    exact ⟨by simp, equal_run _ _ _ _ (fun d => by simp [Op.equalIn, run_underlying ht]), by simp, by simp, by simp, by simp⟩
  · simp [gam] at hx hy; subst hb hx hy
    exact ⟨by simp, equal_run _ _ _ _ (fun d => by simp [Op.equalIn, run_underlying ht]), by simp, by simp, by simp, by simp⟩
  · obtain ⟨_, _, _, rfl⟩ := gam_sliceE_ne hy
    simp [gam] at hx; subst hb hx
    exact ⟨by simp, equal_run _ _ _ _ (fun d => by simp [Op.equalIn, run_underlying ht]), by simp, by simp, by simp, by simp⟩
  · obtain ⟨_, _, _, rfl⟩ := gam_sliceE_ne hx
    simp [gam] at hy; subst hb hy
    exact ⟨by simp, equal_run _ _ _ _ (fun d => by simp [Op.equalIn, run_underlying ht]), by simp, by simp, by simp, by simp⟩
theorem eqNM_ok {t k e : TypeId} (ht : P.underlying t = some (.map k e)) : EqOK P eqNM t := by
  intro κ x y X Y b w hb hx hy
  rw [eqNM_old] at hb
  cases x <;> cases y <;> simp only [eqNM0, Option.some.injEq, reduceCtorEq] at hb
  · obtain ⟨_, rfl⟩ := gam_map_ne hx
    simp [gam] at hy; subst hb hy
    exact ⟨by simp, equal_run _ _ _ _ (fun d => by simp [Op.equalIn, run_underlying ht]), by simp, by simp, by simp, by simp⟩
  · obtain ⟨_, rfl⟩ := gam_map_ne hy
    simp [gam] at hx; subst hb hx
    exact ⟨by simp, equal_run _ _ _ _ (fun d => by simp [Op.equalIn, run_underlying ht]), by simp, by simp, by simp, by simp⟩
  · simp [gam] at hx hy; subst hb hx hy
    exact ⟨by simp, equal_run _ _ _ _ (fun d => by simp [Op.equalIn, run_underlying ht]), by simp, by simp, by simp, by simp⟩
theorem eqNF_ok {t : TypeId} {a b : Array TypeId} {c : Bool} (ht : P.underlying t = some (.func a b c)) : EqOK P eqNF t := by
  intro κ x y X Y b w hb hx hy
  rw [eqNF_old] at hb
  cases x <;> cases y <;> simp only [eqNF0, Option.some.injEq, reduceCtorEq] at hb
  · obtain ⟨_, _, _, rfl⟩ := gam_func_ne hx
    simp [gam] at hy; subst hb hy
    exact ⟨by simp, equal_run _ _ _ _ (fun d => by simp [Op.equalIn, run_underlying ht]), by simp, by simp, by simp, by simp⟩
  · obtain ⟨_, _, _, rfl⟩ := gam_func_ne hy
    simp [gam] at hx; subst hb hx
    exact ⟨by simp, equal_run _ _ _ _ (fun d => by simp [Op.equalIn, run_underlying ht]), by simp, by simp, by simp, by simp⟩
  · simp [gam] at hx hy; subst hb hx hy
    exact ⟨by simp, equal_run _ _ _ _ (fun d => by simp [Op.equalIn, run_underlying ht]), by simp, by simp, by simp, by simp⟩

/-! ### wholes of parts -/
theorem asCells_iff {v : AV} {k : List AV → Prop} (h : asCells v k) : ∃ cs, k cs ∧ ∀ κ V, gam κ v = some V → gams κ cs = some V.cells.toList ∧ V.cells.toList.all Value.oneCell' = true := by
  have one : ∀ (v : AV), (∀ cs, v ≠ .agg cs) → (∀ cs, v ≠ .tup cs) → ∀ κ V, gam κ v = some V → gams κ [v] = some V.cells.toList ∧ V.cells.toList.all Value.oneCell' = true := by
    intro v h1 h2 κ V hV
    have hc : V.oneCell' = true := by
      cases v with
      | agg cs => exact absurd rfl (h1 cs)
      | tup cs => exact absurd rfl (h2 cs)
      | slice => obtain ⟨_, _, _, rfl⟩ := gam_slice_ne hV; rfl
      | sliceE => obtain ⟨_, _, _, rfl⟩ := gam_sliceE_ne hV; rfl
      | func => obtain ⟨_, _, _, rfl⟩ := gam_func_ne hV; rfl
      | str n x => simp only [gam] at hV; split at hV <;> simp_all; rw [← hV]; rfl
      | ptr => simp only [gam, Option.map_eq_some_iff] at hV; obtain ⟨_, _, rfl⟩ := hV; rfl
      | map => obtain ⟨_, rfl⟩ := gam_map_ne hV; rfl
      | iface => simp only [gam, Option.map_eq_some_iff] at hV; obtain ⟨_, _, rfl⟩ := hV; rfl
      | sym => obtain ⟨_, _, _, rfl⟩ := gam_sym hV; rfl
      | _ => simp only [gam, Option.some.injEq] at hV; subst hV; rfl
    have hcells : V.cells = #[V] := by cases V <;> first | rfl | (simp [Value.oneCell'] at hc)
    rw [hcells]
    exact ⟨by simp [gams, hV], by simp [hc]⟩
  cases v with
  | agg cs =>
    refine ⟨cs, h, fun κ V hV => ?_⟩
    simp only [gam, Option.bind_eq_some_iff] at hV
    obtain ⟨l, h1, h2⟩ := hV
    split at h2
    · rename_i ha
      cases h2
      exact ⟨by simpa [Value.cells] using h1, by simpa [Value.cells] using ha⟩
    · cases h2
  | tup cs => exact h.elim
  | _ => exact ⟨_, h, one _ (fun cs => by simp) (fun cs => by simp)⟩

theorem layAt_length {α : Type} : ∀ (l : List α) (off : Nat) (ps : List α), (layAt l off ps).length = l.length
  | [], _, _ => rfl
  | x :: l, 0, [] => rfl
  | x :: l, 0, p :: ps => by simp [layAt_zero_cons, layAt_length l 0 ps]
  | x :: l, off + 1, ps => by simp [layAt_succ, layAt_length l off ps]
theorem layAt_get {α : Type} : ∀ (l : List α) (off : Nat) (ps : List α) (j : Nat), off + ps.length ≤ l.length →
    (layAt l off ps)[j]? = if off ≤ j ∧ j < off + ps.length then ps[j - off]? else l[j]?
  | [], off, ps, j, h => by
    have : ps = [] := by cases ps <;> simp_all
    subst this
    simp [layAt_nil]
  | x :: l, 0, [], j, h => by simp [layAt_zero_nil]
  | x :: l, 0, p :: ps, j, h => by
    cases j with
    | zero => simp [layAt_zero_cons]
    | succ j =>
      have := layAt_get l 0 ps j (by simpa using h)
      simp only [layAt_zero_cons, List.getElem?_cons_succ, this]
      simp
  | x :: l, off + 1, ps, j, h => by
    cases j with
    | zero => simp [layAt_succ]
    | succ j =>
      have := layAt_get l off ps j (by simp at h; omega)
      simp only [layAt_succ, List.getElem?_cons_succ, this]
      by_cases hc : off ≤ j ∧ j < off + ps.length
      · rw [if_pos hc, if_pos (by omega)]; congr 1; omega
      · rw [if_neg hc, if_neg (by omega)]
theorem gams_lay {κ : Kap} : ∀ (l : List AV) (off : Nat) (ps : List AV) (L PS : List Value), gams κ l = some L → gams κ ps = some PS → gams κ (layAt l off ps) = some (layAt L off PS)
  | [], off, ps, L, PS, h, hp => by simp [gams] at h; subst h; rfl
  | x :: l, 0, [], L, PS, h, hp => by
    simp [gams] at hp; subst hp
    have e : layAt (x :: l) 0 [] = x :: l := rfl
    rw [e, h]
    cases L <;> rfl
  | x :: l, 0, p :: ps, L, PS, h, hp => by
    simp only [gams, Option.bind_eq_some_iff, Option.map_eq_some_iff] at h hp
    obtain ⟨y, h1, ys, h2, rfl⟩ := h
    obtain ⟨z, h3, zs, h4, rfl⟩ := hp
    have := gams_lay l 0 ps ys zs h2 h4
    simp [layAt_zero_cons, gams, h3, this]
  | x :: l, off + 1, ps, L, PS, h, hp => by
    simp only [gams, Option.bind_eq_some_iff, Option.map_eq_some_iff] at h
    obtain ⟨y, h1, ys, h2, rfl⟩ := h
    have := gams_lay l off ps ys PS h2 hp
    simp [layAt_succ, gams, h1, this]
theorem fold_lay (vs : List Value) : ∀ (k : Nat) (cells : Array Value) (off : Nat), off + k + vs.length ≤ cells.size →
    ((vs.zipIdx k).foldl (fun cs (x : Value × Nat) => cs.setIfInBounds (off + x.2) x.1) cells).toList = layAt cells.toList (off + k) vs := by
  induction vs with
  | nil =>
    intro k cells off h
    apply List.ext_getElem?
    intro j
    rw [layAt_get _ _ _ _ (by simpa using h)]
    simp
    omega
  | cons v vs ih =>
    intro k cells off h
    simp only [List.zipIdx_cons, List.foldl_cons]
    rw [ih (k + 1) _ off (by simp at h ⊢; omega)]
    apply List.ext_getElem?
    intro j
    rw [layAt_get _ _ _ _ (by simp at h ⊢; omega), layAt_get _ _ _ _ (by simp at h ⊢; omega)]
    simp only [List.length_cons, Array.toList_setIfInBounds, List.getElem?_set]
    simp only [List.length_cons] at h
    have hl : cells.toList.length = cells.size := by simp
    by_cases h1 : j = off + k
    · subst h1
      rw [if_neg (by omega), if_pos rfl, if_pos (by omega), if_pos (by omega)]
      simp
    · by_cases h2 : off + (k + 1) ≤ j ∧ j < off + (k + 1) + vs.length
      · rw [if_pos h2, if_pos (by omega), show j - (off + k) = (j - (off + (k + 1))) + 1 by omega]
        simp
      · rw [if_neg h2, if_neg (by omega), if_neg (by omega)]

end Go.Am
