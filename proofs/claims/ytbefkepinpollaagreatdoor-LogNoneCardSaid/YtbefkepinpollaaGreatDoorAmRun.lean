/-
  From operations to regions, code and calls.
-/
import Derived.Test.YtbefkepinpollaaGreatDoorAmOps2
namespace Go.Am
set_option linter.unusedSimpArgs false
set_option linter.unusedVariables false
open Go Go.RowKit
variable {P : Program}

/-- A frame of the machine's and one of the model's. -/
structure FrOK (κ : Kap) (n : Nat) (fr : Fr) (a : Act) : Prop where
  size : n ≤ a.tmps.size
  defers : a.defers = []
  rel : ∀ t, gam κ (getS fr (gpos t)) = some (a.tmps.getD t undef)
theorem FrOK.mono {κ κ' : Kap} {n : Nat} {fr : Fr} {a : Act} (h : FrOK κ n fr a) (hk : κ.le κ') : FrOK κ' n fr a := ⟨h.size, h.defers, fun t => gam_mono hk _ _ (h.rel t)⟩
theorem opd_rho {κ : Kap} {fr : Fr} {ρ : Operand → Value} (ht : ∀ t, gam κ (getS fr (gpos t)) = some (ρ (.tmp t))) (hc : ∀ v, ρ (.const v) = v) (hf : ∀ f, ρ (.func f) = .func (.func f) #[] #[]) (hg : ∀ g, ρ (.global g) = .pointer (some ⟨g, 0, none⟩)) : Rho κ fr ρ := by
  intro x d hx
  cases x with
  | tmp t => simp [opd] at hx; subst hx; exact ht t
  | const v =>
    simp only [opd, Option.map_eq_some_iff] at hx
    obtain ⟨av, h1, rfl⟩ := hx
    rw [hc]; exact avOf_gam κ _ _ _ h1
  | func f => simp [opd] at hx; subst hx; rw [hf]; rfl
  | global g => simp [opd] at hx; subst hx; rw [hg]; rfl
theorem FrOK.rho {κ : Kap} {n : Nat} {fr : Fr} {a : Act} (h : FrOK κ n fr a) : Rho κ fr a.eval :=
  opd_rho (fun t => h.rel t) (fun _ => rfl) (fun _ => rfl) (fun _ => rfl)
theorem getS_upd_self (fr : Fr) (p : GPos) (v : AV) : getS (putS v p fr) p = v := getS_put_self v p fr
theorem getS_upd_ne (fr : Fr) {p q : GPos} (v : AV) (h : p ≠ q) : getS (putS v p fr) q = getS fr q := getS_put_ne v p q fr h
theorem FrOK.put {κ : Kap} {n : Nat} {fr : Fr} {a : Act} (h : FrOK κ n fr a) {d : Nat} (hd : d < n) {av : AV} {v : Value} (hv : gam κ av = some v) : FrOK κ n (putS av (gpos d) fr) (a.put (some d) v) := by
  refine ⟨by simp [Act.put]; exact h.size, h.defers, fun t => ?_⟩
  by_cases ht : t = d
  · subst ht
    rw [getS_upd_self, hv]
    have := h.size
    simp [Act.put, Array.getElem?_setIfInBounds, show t < a.tmps.size by omega]
  · rw [getS_upd_ne _ _ (fun e => ht (gpos_inj e).symm), h.rel t]
    simp [Act.put, Array.getElem?_setIfInBounds, Ne.symm ht]

def CallOK (P : Program) (B : Nat) (w0 : W0) (cf : CallK) : Prop :=
  ∀ f avs h K, cf f avs h K → (∃ fn, P.funcs[f]? = some fn ∧ fn.name ≠ "runtime.NumGoroutine" ∧ fn.body.isSome = true) ∧
    ∀ κ w args, Sim B w0 κ h w → gams κ avs = some args → ∀ R : Ending → World → Prop,
      (∀ κ' av h' v w', κ.le κ' → Sim B w0 κ' h' w' → gam κ' av = some v → K av h' → R (.returned v) w') → Calls P f args.toArray w R

/-- One function's contract. -/
def ConOne (P : Program) (B : Nat) (w0 : W0) (f : FuncId) (c : ConD) : Prop :=
  ∀ avs h K, c avs h K → (∃ fn, P.funcs[f]? = some fn ∧ fn.name ≠ "runtime.NumGoroutine" ∧ fn.body.isSome = true) ∧
    ∀ κ w args, Sim B w0 κ h w → gams κ avs = some args → ∀ R : Ending → World → Prop,
      (∀ κ' av h' v w', κ.le κ' → Sim B w0 κ' h' w' → gam κ' av = some v → K av h' → R (.returned v) w') → Calls P f args.toArray w R

theorem callFunc_run {f : FuncId} {fn : Func} (h1 : P.funcs[f]? = some fn) (h2 : fn.name ≠ "runtime.NumGoroutine") (h3 : fn.body.isSome = true) (args : Array Value) (w : World) : (callFunc f args).run P w = .ok (.enter f args) w := by
  have h4 : fn.body.isNone = false := by cases hb : fn.body <;> simp_all
  have h2' : (fn.name == "runtime.NumGoroutine") = false := by simpa using h2
  simp only [callFunc, Sem.run_bind, run_program, Result.andThen_ok, h1, h2', h4, Bool.false_eq_true, if_false, Sem.run_pure]

section
variable {B : Nat} {w0 : W0} {cf : CallK}

theorem gams_app3 {κ : Kap} {a b c : List AV} {x y z : List Value} (ha : gams κ a = some x) (hb : gams κ b = some y) (hc : gams κ c = some z) : gams κ (a ++ b ++ c) = some (x ++ y ++ z) := gams_append _ _ _ _ (gams_append _ _ _ _ ha hb) hc

/-- One operation. -/
theorem oper_upon (hcf : CallOK P B w0 cf) {o : Oper} {a : AOp} (ha : AopOK P o a) {fr : Fr} {h : Hp} {K : AV → Hp → Prop} (hD : runOp a cf fr h K) {κ : Kap} {w : World} (s : Sim B w0 κ h w) {ρ : Operand → Value} (act : Act) (hr : Rho κ fr ρ)
    {next : Act → World → Prop} {Q : Exit → Act → World → Prop} (hn : ∀ κ' av h' v w', κ.le κ' → Sim B w0 κ' h' w' → gam κ' av = some v → K av h' → next (act.put o.dst v) w') : o.upon P act next Q ((execOp ρ o).run P w) := by
  cases a with
  | op d acts reads =>
    have hact : ActOK P d o := by
      cases acts <;> cases reads <;> simp [AopOK] at ha
      · exact ha.read.act
      · exact ha.act
      · exact ha
      · exact ha
    obtain ⟨av, h', hK, hrest⟩ := hact fr h K hD
    obtain ⟨κ', v, w', h1, h2, h3, h4⟩ := hrest B w0 κ ρ w s hr
    rcases h4 with h4 | ⟨h4, rfl⟩
    · rw [h4]; exact hn κ' av h' v w' h1 h2 h3 hK
    · rw [h4]; exact hn κ' av h' undef w' h1 h2 h3 hK
  | call f args =>
    obtain ⟨c, ho, ⟨fo, hc, rfl⟩, hargs⟩ := ha
    obtain ⟨⟨fn, g1, g2, g3⟩, hcall⟩ := hcf f _ h K hD
    have hav := evs_ok hr _ _ hargs
    have e : ρ (.func f) = .func (.func f) #[] #[] := by
      have := hr (.func f) _ rfl
      simpa [konst, gam, gams] using this.symm
    have hrun : (execOp ρ o).run P w = .ok (.enter f (c.args.map ρ)) w := by
      simp [execOp, ho, resolve, hc, e, Deferred.ofValue, invoke, callFunc_run g1 g2 g3]
    rw [hrun]
    have hargs' : (c.args.toList.map ρ).toArray = c.args.map ρ := by apply Array.toList_inj.1; simp
    have := hcall κ w _ s hav (fun | .returned v, w'' => next (act.put o.dst v) w'' | .panicked chain, w'' => Q (.panic chain) act w'' | .outgrown, _ => LetsOut Q)
      (fun κ' av h' v w' a1 a2 a3 a4 => hn κ' av h' v w' a1 a2 a3 a4)
    rw [hargs'] at this
    exact this
  | callv x args =>
    obtain ⟨c, fo, ho, hc, hx, hargs⟩ := ha
    obtain ⟨f, fi, cp, e1, hD⟩ := asFn_iff.1 hD
    obtain ⟨⟨fn, g1, g2, g3⟩, hcall⟩ := hcf f _ h K hD
    obtain ⟨fi', cp', q1, q2, q3⟩ := rho_func hr hx e1
    have hav := gams_app3 q1 (evs_ok hr _ _ hargs) q2
    have hrun : (execOp ρ o).run P w = .ok (.enter f (fi'.toArray ++ c.args.map ρ ++ cp'.toArray)) w := by
      simp [execOp, ho, resolve, hc, q3, Deferred.ofValue, invoke, callFunc_run g1 g2 g3]
    rw [hrun]
    have hargs' : (fi' ++ c.args.toList.map ρ ++ cp').toArray = fi'.toArray ++ c.args.map ρ ++ cp'.toArray := by apply Array.toList_inj.1; simp
    have := hcall κ w _ s hav (fun | .returned v, w'' => next (act.put o.dst v) w'' | .panicked chain, w'' => Q (.panic chain) act w'' | .outgrown, _ => LetsOut Q)
      (fun κ' av h' v w' a1 a2 a3 a4 => hn κ' av h' v w' a1 a2 a3 a4)
    rw [hargs'] at this
    exact this
  | brop d =>
    obtain ⟨av, h', κ', v, w', h1, h2, h3, h4, h5⟩ := (show BrOK P d o from ha) fr h K hD B w0 κ ρ w s hr
    rw [h5]; exact hn κ' av h' v w' h2 h3 h4 h1
  | callm x sel args =>
    obtain ⟨c, fo, name, ho, hc, hx, rfl, hargs⟩ := ha
    obtain ⟨t, v, e1, hD1⟩ := asIf_iff hD
    obtain ⟨⟨f, m⟩, hs, hD2⟩ := asOpt_iff.1 hD1
    clear hD hD1
    obtain ⟨V, hV, hfo⟩ : ∃ V, gam κ v = some V ∧ ρ fo = .iface t V := by
      have := hr fo x hx
      rw [e1] at this
      simp only [gam, Option.map_eq_some_iff] at this
      obtain ⟨V, h1, h2⟩ := this
      exact ⟨V, h1, h2.symm⟩
    have hav := evs_ok hr _ _ hargs
    have go : ∀ av V', gam κ av = some V' → cf f (av :: evs fr args) h K → (method (P.types.size + Made.depth) t V name).run P w = .ok (f, V') w → o.upon P act next Q ((execOp ρ o).run P w) := by
      intro av V' hgv hcfv hmeth
      obtain ⟨⟨fn, g1, g2, g3⟩, hcall⟩ := hcf f _ h K hcfv
      have hrun : (execOp ρ o).run P w = .ok (.enter f (#[V'] ++ c.args.map ρ)) w := by
        have hex : (execOp ρ o).run P w = (callMethod (.iface t V) name (c.args.map ρ)).run P w := by
          have e2 : (#[Value.iface t V] ++ c.args.map ρ)[0]? = some (.iface t V) := by
            rw [Array.getElem?_append_left (by simp)]; rfl
          have e3 : (#[Value.iface t V] ++ c.args.map ρ).extract 1 (#[Value.iface t V] ++ c.args.map ρ).size = c.args.map ρ := by
            apply Array.toList_inj.1; simp [List.take_of_length_le]
          simp only [execOp, ho, resolve, hc, hfo, Sem.run_bind, Sem.run_pure, Result.andThen_ok, invoke, e2, e3]
        rw [hex]
        simp only [callMethod, Sem.run_bind, run_program, Result.andThen_ok, hmeth, callFunc_run g1 g2 g3]
      rw [hrun]
      have hargs' : (V' :: c.args.toList.map ρ).toArray = #[V'] ++ c.args.map ρ := by apply Array.toList_inj.1; simp
      have := hcall κ w _ s (show gams κ (av :: evs fr args) = some (V' :: c.args.toList.map ρ) by simp [gams, hgv, hav]) (fun | .returned v, w'' => next (act.put o.dst v) w'' | .panicked chain, w'' => Q (.panic chain) act w'' | .outgrown, _ => LetsOut Q)
        (fun κ' av h' v w' a1 a2 a3 a4 => hn κ' av h' v w' a1 a2 a3 a4)
      rw [hargs'] at this
      exact this
    obtain ⟨n, hfu⟩ : ∃ n, P.types.size + Made.depth = n + 1 := ⟨P.types.size + (Made.depth - 1), by simp [Made.depth]⟩
    cases m with
    | none => exact go v V hV hD2 (by rw [hfu]; exact sel_val hs V n w)
    | some q =>
      obtain ⟨g, k⟩ := q
      obtain ⟨e, hg, hk, hmeth⟩ := sel_ptr hs
      cases g with
      | false =>
        obtain ⟨p, off, e2, hD3⟩ := asPtr_iff.1 (show asPtr v _ from hD2)
        obtain ⟨en, he, hD4⟩ := objAt_iff.1 hD3
        obtain ⟨v', hv', hD5⟩ := asOpt_iff.1 hD4
        rw [e2] at hV
        simp only [gam, Option.map_eq_some_iff] at hV
        obtain ⟨ki, hki, rfl⟩ := hV
        obtain ⟨V', g1, _, g3, _⟩ := s.cell he hki hv'
        refine go v' V' g1 hD5 ?_
        rw [hfu, hmeth]
        simp [loadVar, aggRun hg, g3]
      | true =>
        obtain ⟨p, off, e2, hD3⟩ := asPtr_iff.1 (show asPtr v _ from hD2)
        obtain ⟨en, he, hD4⟩ := objAt_iff.1 hD3
        obtain ⟨l, hD5, h6, h7⟩ := cellsK_iff _ _ _ _ hD4
        rw [e2] at hV
        simp only [gam, Option.map_eq_some_iff] at hV
        obtain ⟨ki, hki, rfl⟩ := hV
        obtain ⟨L, f1, f2, f3⟩ := s.cells he hki l off (fun j hj => h7 j (by omega))
        refine go (.agg l) (.agg L.toArray) (by simp only [gam, f1, Option.bind_some, f2, if_true]) hD5 ?_
        rw [hfu, hmeth]
        have hl := run_loadCells_list (P := P) w (ki.at off) L (fun j v hv => by rw [at_add]; exact f3 j v hv)
        rw [gams_length _ _ f1, h6] at hl
        simp [loadVar, aggRun hg, szRun hk, hl]

theorem oper_wp (hcf : CallOK P B w0 cf) {o : Oper} {a : AOp} (ha : AopOK P o a) {fr : Fr} {h : Hp} {K : AV → Hp → Prop} (hD : runOp a cf fr h K) {κ : Kap} {w : World} (s : Sim B w0 κ h w) {act : Act} (hr : Rho κ fr act.eval)
    {next : Act → World → Prop} {Q : Exit → Act → World → Prop} (hn : ∀ κ' av h' v w', κ.le κ' → Sim B w0 κ' h' w' → gam κ' av = some v → K av h' → next (act.put o.dst v) w') : o.wp P act w next Q :=
  oper_upon hcf ha hD s act hr hn

noncomputable def updD (d : Option GPos) (v : AV) (fr : Fr) : Fr := match d with | some d => putS v d fr | none => fr
theorem putD_iff {d : Option GPos} {v : AV} {fr : Fr} {k : Fr → Prop} : putD d v fr k ↔ k (updD d v fr) := by
  cases d with
  | none => exact Iff.rfl
  | some d => simp [putD, putSK_eq, updD]

theorem isUndef_iff {v : AV} (h : isUndef v = true) : v = .tup [] := by
  cases v <;> first | (exact absurd h Bool.false_ne_true) | skip
  case tup l => cases l <;> first | rfl | (exact absurd h Bool.false_ne_true)
/-- Is the guard met: on both sides. -/
theorem guard_ok {κ : Kap} {n : Nat} {ops : Array Oper} {g : Option (Nat × Bool)} {g' : Option (GPos × Bool)} (hg : guardOf ops g = some g') {o : Oper} (hog : o.guard = g) {fr : Fr} {tmps : Array Value}
    (hrel : ∀ j want, g = some (j, want) → ∀ oj d, ops[j]? = some oj → oj.dst = some d → gam κ (getS fr (gpos d)) = some (tmps.getD d undef)) {A C : Prop} (h : grdK g' fr A C) :
    (Region.wanted o (yielded ops tmps) = true ∧ A) ∨ (Region.wanted o (yielded ops tmps) = false ∧ C) := by
  cases g with
  | none =>
    simp [guardOf] at hg; subst hg
    exact .inl ⟨by simp [Region.wanted, hog], h⟩
  | some p =>
    obtain ⟨j, want⟩ := p
    simp only [guardOf, Option.bind_eq_some_iff, Option.map_eq_some_iff] at hg
    obtain ⟨oj, h1, d, h2, rfl⟩ := hg
    have h0 : Bool.rec (motive := fun _ => Prop) (asBool (getS fr (gpos d)) fun b => Bool.rec (motive := fun _ => Prop) C A (b == want)) C (isUndef (getS fr (gpos d))) := h
    have h3 := hrel j want rfl oj d h1 h2
    cases hu : isUndef (getS fr (gpos d)) with
    | true =>
    rw [hu] at h0
    have hv := isUndef_iff hu
    rw [hv] at h3
    have h3' : undef = tmps.getD d undef := by simpa [gam, gams, undef] using h3
    have h5 : yielded ops tmps j = none := by
      simp only [yielded, h1, h2, Option.bind_some]
      rw [Array.getD_eq_getD_getElem?] at h3'
      cases hq : tmps[d]? with
      | none => rfl
      | some v => rw [hq] at h3'; simp at h3'; rw [← h3']; rfl
    exact .inr ⟨by simp [Region.wanted, hog, h5], h0⟩
    | false =>
    rw [hu] at h0
    obtain ⟨b, e1, h⟩ := asBool_iff.1 (show asBool (getS fr (gpos d)) _ from h0)
    rw [e1] at h3
    simp only [gam, Option.some.injEq] at h3
    have h4 : tmps[d]? = some (.bool b) := by
      rw [Array.getD_eq_getD_getElem?] at h3
      cases hq : tmps[d]? with
      | none => rw [hq] at h3; simp [undef] at h3
      | some v => rw [hq] at h3; simp at h3; rw [h3]
    have h5 : yielded ops tmps j = some b := by simp [yielded, h1, h2, h4]
    have h6 : Region.wanted o (yielded ops tmps) = (b == want) := by
      simp [Region.wanted, hog, h5]
    cases hb : (b == want) with
    | true =>
      have h' : Bool.rec (motive := fun _ => Prop) C A (b == want) := h
      rw [hb] at h'
      exact .inl ⟨by rw [h6, hb], h'⟩
    | false =>
      have h' : Bool.rec (motive := fun _ => Prop) C A (b == want) := h
      rw [hb] at h'
      exact .inr ⟨by rw [h6, hb], h'⟩

theorem compOper_parts {n : Nat} {ops : Array Oper} {o : Oper} {x : AOper} (h : compOper P n ops o = some x) : dstOf n o.dst = some x.dst ∧ AopOK P o x.op ∧ guardOf ops o.guard = some x.guard := by
  simp only [compOper, Option.bind_eq_some_iff, Option.map_eq_some_iff] at h
  obtain ⟨d, h1, a, h2, g, h3, rfl⟩ := h
  exact ⟨h1, compOp_ok h2, h3⟩
theorem put_dst {κ : Kap} {n : Nat} {fr : Fr} {a : Act} (hf : FrOK κ n fr a) {d : Option Tmp} {d' : Option GPos} (hd : dstOf n d = some d') {av : AV} {v : Value} (hv : gam κ av = some v) :
    FrOK κ n (updD d' av fr) (a.put d v) := by
  cases d with
  | none => simp [dstOf] at hd; subst hd; exact hf
  | some d =>
    simp only [dstOf] at hd
    split at hd
    · rename_i hlt
      simp at hd; subst hd
      exact hf.put (by simpa using hlt) hv
    · cases hd

/-- A region in the order of its text. -/
theorem reg_wp (hcf : CallOK P B w0 cf) {n : Nat} {ops : Array Oper} {Q : Exit → Act → World → Prop} {K : Fr → Hp → Prop} : ∀ (rest : List Oper) (l : List AOper) (i : Nat), ops.toList.drop i = rest → compOps P n ops rest = some l →
    ∀ (fr : Fr) (h : Hp) (κ : Kap) (a : Act) (w : World), regD l cf fr h K → Sim B w0 κ h w → FrOK κ n fr a →
    (∀ κ' fr' h' a' w', κ.le κ' → Sim B w0 κ' h' w' → FrOK κ' n fr' a' → K fr' h' → Q .normal a' w') → wpOps P ops Q (List.range' i rest.length) a w
  | [], l, i, hdrop, hc, fr, h, κ, a, w, hD, s, hf, hq => by
    simp [compOps] at hc; subst hc
    exact hq κ fr h a w κ.le_refl s hf hD
  | o :: rest, l, i, hdrop, hc, fr, h, κ, a, w, hD, s, hf, hq => by
    simp only [compOps, Option.bind_eq_some_iff, Option.map_eq_some_iff] at hc
    obtain ⟨x, hx, r, hr, rfl⟩ := hc
    obtain ⟨hd, hop, hg⟩ := compOper_parts hx
    have ho : ops[i]? = some o := by
      have := congrArg (fun l : List Oper => l[0]?) hdrop
      simpa [List.getElem?_drop] using this
    have hdrop' : ops.toList.drop (i + 1) = rest := by
      rw [← List.drop_drop, hdrop]; rfl
    simp only [List.length_cons, List.range'_succ]
    rw [wpOps_cons]
    unfold wpOp
    rw [ho]
    simp only
    have hD' : grdK x.guard fr (runOp x.op cf fr h fun v h => putD x.dst v fr fun fr => regD r cf fr h K) (putD x.dst undefV fr fun fr => regD r cf fr h K) := by
      have q : stepD x (regD r) cf fr h K := hD
      rwa [stepD_eq] at q
    rcases guard_ok (n := n) (κ := κ) hg rfl (tmps := a.tmps) (fun _ _ _ _ d _ _ => hf.rel d) hD' with ⟨hw, hA⟩ | ⟨hw, hC⟩
    · rw [if_pos hw]
      left
      refine oper_wp hcf hop hA s hf.rho fun κ' av h' v w' a1 a2 a3 a4 => ?_
      rw [putD_iff] at a4
      exact reg_wp hcf rest r (i + 1) hdrop' hr _ h' κ' _ w' a4 a2 (put_dst (hf.mono a1) hd a3) fun κ2 fr2 h2 a2' w2 b1 b2 b3 b4 => hq κ2 fr2 h2 a2' w2 (Kap.le_trans a1 b1) b2 b3 b4
    · rw [if_neg (by rw [hw]; simp)]
      rw [putD_iff] at hC
      exact reg_wp hcf rest r (i + 1) hdrop' hr _ h κ _ w hC s (put_dst hf hd (show gam κ undefV = some undef from rfl)) hq

end
end Go.Am
