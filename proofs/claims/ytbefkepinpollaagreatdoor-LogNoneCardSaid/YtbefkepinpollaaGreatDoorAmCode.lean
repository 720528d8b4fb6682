/-
  Code and calls: what the machine says of a call holds of the model's.
-/
import Derived.Test.YtbefkepinpollaaGreatDoorAmDraw5
import Derived.Scope
namespace Go.Am
set_option linter.unusedSimpArgs false
set_option linter.unusedVariables false
open Go Go.RowKit
variable {P : Program}

def exOf : Ex → Exit
  | .normal => .normal
  | .exit id => .exit id
  | .ret => .ret

section
variable {B : Nat} {w0 : W0} {cf : CallK}

theorem comp_ok (hmix : P.follows .mixedOrders = true) (hcf : ∀ w0, CallOK P B w0 cf) {n : Nat} : ∀ (c : Code) (D : CodeD), comp P n c = some D → ∀ (fuel : Nat) (K : Ex → Fr → Hp → Prop) (fr : Fr) (h : Hp) (κ : Kap) (a : Act) (w : World) (Q : Exit → Act → World → Prop),
    D cf fuel K fr h → Sim B w0 κ h w → FrOK κ n fr a →
    (∀ e κ' fr' h' a' w', κ.le κ' → Sim B w0 κ' h' w' → FrOK κ' n fr' a' → K e fr' h' → Q (exOf e) a' w') → c.wp P Q a w := by
  intro c
  induction c with
  | skip =>
    intro D hD fuel K fr h κ a w Q hK s hf hq
    simp [comp] at hD; subst hD
    exact wp_skip (hq .normal κ fr h a w κ.le_refl s hf hK)
  | region id ops dr =>
    intro D hD fuel K fr h κ a w Q hK s hf hq
    simp only [comp, Option.some.injEq] at hD
    cases hR : compReg P n ops dr with
    | none => rw [hR] at hD; subst hD; exact hK.elim
    | some D' =>
    rw [hR] at hD
    have hD2 : D' = D := hD
    subst hD2
    clear hD
    have hD := hR
    simp only [compReg, Option.bind_eq_some_iff] at hD
    obtain ⟨l, hl, hD⟩ := hD
    cases dr with
    | true =>
      simp only at hD
      split at hD
      · rename_i hok
        simp at hD; subst hD
        simp only [drawOK, Bool.and_eq_true] at hok
        refine wp_region_draw fun t => ?_
        simp only [Region.schedule, hmix, Bool.true_or, if_true]
        exact draw_list hcf hl hok.1 drawItems_of hK s.drew hf (fun κ' fr' h' a' w' b1 b2 b3 b4 => hq .normal κ' fr' h' a' w' b1 b2 b3 b4)
          (lin_valid hok.2 _ _ _ (by simp) ⟨List.range ops.size, fun i hi _ => List.mem_range.2 hi, by simp⟩)
      · split at hD
        · rename_i hok
          simp at hD; subst hD
          refine wp_region_draw fun t => ?_
          simp only [Region.schedule, hmix, Bool.true_or, if_true]
          have hed : edgesOK 0 ops.toList = true := by
            simp only [altsOK, Bool.and_eq_true] at hok
            exact hok.2.1
          exact alts_wp hcf hl hok hK s.drew hf (fun κ' fr' h' a' w' b1 b2 b3 b4 => hq .normal κ' fr' h' a' w' b1 b2 b3 b4)
            (lin_valid hed _ _ _ (by simp) ⟨List.range ops.size, fun i hi _ => List.mem_range.2 hi, by simp⟩)
        · cases hD
    | false =>
      simp at hD; subst hD
      refine wp_region ?_
      rw [List.range_eq_range']
      have hlen : ops.size = ops.toList.length := by simp
      rw [hlen]
      exact reg_wp (hcf w0) ops.toList l 0 (by simp) hl fr h κ a w hK s hf fun κ' fr' h' a' w' b1 b2 b3 b4 => hq .normal κ' fr' h' a' w' b1 b2 b3 b4
  | seq x y ihx ihy =>
    intro D hD fuel K fr h κ a w Q hK s hf hq
    simp only [comp, Option.bind_eq_some_iff, Option.map_eq_some_iff] at hD
    obtain ⟨dx, hx, dy, hy, rfl⟩ := hD
    refine wp_seq (ihx dx hx fuel (thenE (dy cf fuel K) K) fr h κ a w _ hK s hf fun e κ' fr' h' a' w' b1 b2 b3 b4 => ?_)
    cases e with
    | normal => exact ihy dy hy fuel K fr' h' κ' a' w' Q b4 b2 b3 fun e κ2 fr2 h2 a2 w2 c1 c2 c3 c4 => hq e κ2 fr2 h2 a2 w2 (Kap.le_trans b1 c1) c2 c3 c4
    | exit id => exact hq (.exit id) κ' fr' h' a' w' b1 b2 b3 b4
    | ret => exact hq .ret κ' fr' h' a' w' b1 b2 b3 b4
  | cond c x y ihx ihy =>
    intro D hD fuel K fr h κ a w Q hK s hf hq
    simp only [comp, Option.bind_eq_some_iff, Option.map_eq_some_iff] at hD
    obtain ⟨dx, hx, dy, hy, hD⟩ := hD
    cases hdc : opd c with
    | none => rw [hdc] at hD; subst hD; exact hK.elim
    | some dc =>
    rw [hdc] at hD
    have hD2 : cCond dc dx dy = D := hD
    subst hD2
    clear hD
    obtain ⟨t, ht, hK⟩ := asBool_iff.1 (show asBool (dc fr) _ from hK)
    have hv := rho_bool hf.rho hdc ht
    cases t with
    | true => exact wp_cond_true hv (ihx dx hx fuel K fr h κ a w Q hK s hf hq)
    | false => exact wp_cond_false hv (ihy dy hy fuel K fr h κ a w Q hK s hf hq)
  | block id x ih =>
    intro D hD fuel K fr h κ a w Q hK s hf hq
    simp only [comp, Option.map_eq_some_iff] at hD
    obtain ⟨dx, hx, rfl⟩ := hD
    refine wp_block (ih dx hx fuel (blkE id K) fr h κ a w _ hK s hf fun e κ' fr' h' a' w' b1 b2 b3 b4 => ?_)
    cases e with
    | normal => exact hq .normal κ' fr' h' a' w' b1 b2 b3 b4
    | ret => exact hq .ret κ' fr' h' a' w' b1 b2 b3 b4
    | exit i =>
      have b4' : (Bool.rec (motive := fun _ => Fr → Hp → Prop) (K (.exit i)) (K .normal) (Nat.beq i id)) fr' h' := b4
      show Exit.inBlock id Q (.exit i) a' w'
      simp only [Exit.inBlock]
      cases hb : Nat.beq i id with
      | true =>
        rw [hb] at b4'
        have : i = id := by simpa using hb
        rw [if_pos this]
        exact hq .normal κ' fr' h' a' w' b1 b2 b3 b4'
      | false =>
        rw [hb] at b4'
        have : ¬ i = id := by intro e; subst e; simp at hb
        rw [if_neg this]
        exact hq (.exit i) κ' fr' h' a' w' b1 b2 b3 b4'
  | loop x ih =>
    intro D hD fuel K fr h κ a w Q hK s hf hq
    simp only [comp, Option.map_eq_some_iff] at hD
    obtain ⟨dx, hx, rfl⟩ := hD
    intro b k cs
    have key : ∀ m fr h κ' a w, κ.le κ' → (Nat.rec (motive := fun _ => Fr → Hp → Prop) (fun _ _ => False) (fun _ ih => dx cf fuel (thenE ih K)) m) fr h → Sim B w0 κ' h w → FrOK κ' n fr a →
        ∃ e a' w', Q e a' w' ∧ Arrives P (lone (b.at a (.code x :: .inLoop x :: k)) cs w) b k cs e a' w' := by
      intro m
      induction m with
      | zero => intro fr h κ' a w _ hF; exact hF.elim
      | succ m ihm =>
        intro fr h κ' a w hle hF s hf
        have hwp := ih dx hx fuel (thenE (Nat.rec (motive := fun _ => Fr → Hp → Prop) (fun _ _ => False) (fun _ ih => dx cf fuel (thenE ih K)) m) K) fr h κ' a w
          (Exit.then (fun a' w' => ∃ e a2 w2, Q e a2 w2 ∧ Arrives P (lone (b.at a' (.code x :: .inLoop x :: k)) cs w') b k cs e a2 w2) Q) hF s hf (fun e κ2 fr2 h2 a2 w2 c1 c2 c3 c4 => by
            cases e with
            | normal => exact ihm fr2 h2 κ2 a2 w2 (Kap.le_trans hle c1) c4 c2 c3
            | exit id => exact hq (.exit id) κ2 fr2 h2 a2 w2 (Kap.le_trans hle c1) c2 c3 c4
            | ret => exact hq .ret κ2 fr2 h2 a2 w2 (Kap.le_trans hle c1) c2 c3 c4)
        obtain ⟨e, a₁, w₁, hq1, harr⟩ := hwp b (.inLoop x :: k) cs
        cases e with
        | normal =>
          obtain ⟨e₂, a₂, w₂, hq₂, harr₂⟩ := hq1
          exact ⟨e₂, a₂, w₂, hq₂, .of_steps (Steps.trans harr (.one step_inLoop)) harr₂⟩
        | exit id => exact ⟨_, a₁, w₁, hq1, .pass (x := .inLoop x) rfl (fun _ _ => .inl (by simp)) harr⟩
        | goto l => exact ⟨_, a₁, w₁, hq1, .pass (x := .inLoop x) rfl (fun _ _ => .inl (by simp)) harr⟩
        | ret => exact ⟨_, a₁, w₁, hq1, .pass (x := .inLoop x) rfl (fun _ _ => .inl (by simp)) harr⟩
        | panic ch => exact ⟨_, a₁, w₁, hq1, .pass (x := .inLoop x) rfl (fun _ _ => .inl (by simp)) harr⟩
        | outgrown => exact ⟨_, a₁, w₁, hq1, .pass (x := .inLoop x) rfl (fun _ _ => .inl (by simp)) harr⟩
    obtain ⟨e, a', w', hq', harr⟩ := key fuel fr h κ a w κ.le_refl hK s hf
    exact ⟨e, a', w', hq', .of_steps (.one step_loop) harr⟩
  | exit id =>
    intro D hD fuel K fr h κ a w Q hK s hf hq
    simp [comp] at hD; subst hD
    exact wp_exit (hq (.exit id) κ fr h a w κ.le_refl s hf hK)
  | ret =>
    intro D hD fuel K fr h κ a w Q hK s hf hq
    simp [comp] at hD; subst hD
    exact wp_ret (hq .ret κ fr h a w κ.le_refl s hf hK)
  | scope x ih =>
    intro D hD fuel K fr h κ a w Q hK s hf hq
    refine wp_scope_straight (ih D (by simpa only [comp] using hD) fuel K fr h κ a w _ hK s hf fun e κ' fr' h' a' w' b1 b2 b3 b4 => ?_)
    cases e with
    | normal => exact hq .normal κ' fr' h' a' w' b1 b2 b3 b4
    | exit id => exact hq (.exit id) κ' fr' h' a' w' b1 b2 b3 b4
    | ret => exact hq .ret κ' fr' h' a' w' b1 b2 b3 b4
  | label l =>
    intro D hD fuel K fr h κ a w Q hK s hf hq
    simp [comp] at hD; subst hD
    exact wp_label (hq .normal κ fr h a w κ.le_refl s hf hK)
  | _ => intro D hD fuel K fr h κ a w Q hK; simp only [comp, Option.some.injEq] at hD; subst hD; exact hK.elim

/-! ### results -/
def resSem (a : Act) : ResultVar → Sem Value
  | .tmp t => pure (a.tmps.getD t undef)
  | .cell t ty => do loadVar ty (← Go.asAddr (a.tmps.getD t undef))
theorem resK_ok {rv : ResultVar} {r : List ResultVar} {ar : List ARes} (hr : compRes P (rv :: r) = some ar) : ∃ a rest, ar = a :: rest ∧ compRes P r = some rest ∧ ∀ fr h k, resK fr h a k → ∃ av, k av ∧ ∀ κ n w (a : Act), Sim B w0 κ h w → FrOK κ n fr a →
    ∃ v, gam κ av = some v ∧ (resSem a rv).run P w = .ok v w := by
  cases rv with
  | tmp t =>
    simp only [compRes, Option.map_eq_some_iff] at hr
    obtain ⟨rest, h1, rfl⟩ := hr
    exact ⟨_, rest, rfl, h1, fun fr h k hk => ⟨_, hk, fun κ n w a s hf => ⟨_, hf.rel t, rfl⟩⟩⟩
  | cell t ty =>
    simp only [compRes, Option.bind_eq_some_iff, Option.map_eq_some_iff] at hr
    obtain ⟨g, hg, m, hm, rest, h1, rfl⟩ := hr
    refine ⟨_, rest, rfl, h1, fun fr h k hk => ?_⟩
    cases g with
    | true =>
      obtain ⟨p, off, e1, hD⟩ := asPtr_iff.1 (show asPtr (getS fr (gpos t)) _ from hk)
      obtain ⟨e, he, hD⟩ := objAt_iff.1 hD
      obtain ⟨l, hK, h6, h7⟩ := cellsK_iff _ _ _ _ hD
      refine ⟨_, hK, fun κ n w a s hf => ?_⟩
      have h3 := hf.rel t
      rw [e1] at h3
      simp only [gam, Option.map_eq_some_iff] at h3
      obtain ⟨ki, hk', h3⟩ := h3
      obtain ⟨L, f1, f2, f3⟩ := s.cells he hk' l off (fun j hj => h7 j (by omega))
      refine ⟨.agg L.toArray, by simp only [gam, f1, Option.bind_some, f2, if_true], ?_⟩
      have hl := run_loadCells_list (P := P) w (ki.at off) L (fun j v hv => by rw [at_add]; exact f3 j v hv)
      rw [gams_length _ _ f1, h6] at hl
      simp only [resSem, ← h3, Go.asAddr, Sem.run_bind, Sem.run_pure, Result.andThen_ok, loadVar, aggRun hg, if_true, szRun hm, hl]
    | false =>
      obtain ⟨p, off, e1, hD⟩ := asPtr_iff.1 (show asPtr (getS fr (gpos t)) _ from hk)
      obtain ⟨e, he, hD⟩ := objAt_iff.1 hD
      obtain ⟨v, hv, hK⟩ := asOpt_iff.1 hD
      refine ⟨v, hK, fun κ n w a s hf => ?_⟩
      have h3 := hf.rel t
      rw [e1] at h3
      simp only [gam, Option.map_eq_some_iff] at h3
      obtain ⟨ki, hk', h3⟩ := h3
      obtain ⟨V, g1, _, g3, _⟩ := s.cell he hk' hv
      refine ⟨V, g1, ?_⟩
      simp only [resSem, ← h3, Go.asAddr, Sem.run_bind, Sem.run_pure, Result.andThen_ok, loadVar, aggRun hg, Bool.false_eq_true, if_false, run_load, g3]
theorem ressK_ok : ∀ (r : List ResultVar) (ar : List ARes), compRes P r = some ar → ∀ fr h k, ressK fr h ar k → ∃ avs, k avs ∧ avs.length = r.length ∧ ∀ κ n w (a : Act), Sim B w0 κ h w → FrOK κ n fr a →
    ∃ vs, gams κ avs = some vs ∧ (r.mapM (resSem a)).run P w = .ok vs w
  | [], ar, hr, fr, h, k, hk => by
    simp [compRes] at hr; subst hr
    exact ⟨[], hk, rfl, fun κ n w a s hf => ⟨[], rfl, rfl⟩⟩
  | rv :: r, ar, hr, fr, h, k, hk => by
    obtain ⟨x, rest, rfl, h1, h2⟩ := resK_ok (B := B) (w0 := w0) hr
    obtain ⟨av, hk, h3⟩ := h2 fr h _ hk
    obtain ⟨avs, hk, hlen, h4⟩ := ressK_ok r rest h1 fr h _ hk
    refine ⟨av :: avs, hk, by simp [hlen], fun κ n w a s hf => ?_⟩
    obtain ⟨v, g1, g2⟩ := h3 κ n w a s hf
    obtain ⟨vs, g3, g4⟩ := h4 κ n w a s hf
    refine ⟨v :: vs, by simp [gams, g1, g3], ?_⟩
    rw [List.mapM_cons]
    simp only [Sem.run_bind, g2, g4, Result.andThen_ok, Sem.run_pure]
theorem tupOf_gam {κ : Kap} {avs : List AV} {vs : List Value} (h : gams κ avs = some vs) : gam κ (tupOf avs) = some (if h : vs.toArray.size = 1 then vs.toArray[0] else .tuple vs.toArray) := by
  match avs, vs, h with
  | [], vs, h => simp [gams] at h; subst h; rfl
  | [v], vs, h =>
    simp only [gams, Option.bind_eq_some_iff, Option.map_eq_some_iff] at h
    obtain ⟨y, h1, ys, h2, rfl⟩ := h
    simp at h2; subst h2
    simp [tupOf, h1]
  | v :: u :: l, vs, h =>
    have hl := gams_length _ _ h
    have : ¬ vs.length = 1 := by simp at hl; omega
    simp [tupOf, gam, h, this]

/-- What a contract says of a function holds of the model's calls. -/
def ConOK (P : Program) (con : FuncId → Option ConD) : Prop := ∀ f c, con f = some c → ∀ B w0, ConOne P B w0 f c
def noCon (_ : FuncId) : Option ConD := none
theorem noCon_ok : ConOK P noCon := fun f c h => by cases h

theorem callN_all (hmix : P.follows .mixedOrders = true) {con : FuncId → Option ConD} (hcon : ConOK P con) (fuel : Nat) : ∀ n (w0 : W0), CallOK P B w0 (callN con (tabOf P) fuel n)
  | 0, w0 => fun f avs h K hD => hD.elim
  | n + 1, w0 => fun f avs h K hD => by
    have hD0 : Option.rec (motive := fun _ => Prop) (asOpt (tabOf P f) fun af => argK avs 0 G1.lf fun fr => af.body (callN con (tabOf P) fuel n) fuel (endK af.res K) fr h) (fun c => c avs h K) (con f) := hD
    clear hD
    cases hc : con f with
    | some c =>
      rw [hc] at hD0
      exact hcon f c hc B w0 avs h K hD0
    | none =>
    rw [hc] at hD0
    have hD : asOpt (tabOf P f) fun af => argK avs 0 G1.lf fun fr => af.body (callN con (tabOf P) fuel n) fuel (endK af.res K) fr h := hD0
    clear hD0
    obtain ⟨af, haf, hD⟩ := asOpt_iff.1 hD
    simp only [tabOf, Option.bind_eq_some_iff] at haf
    obtain ⟨fn, hfn, haf⟩ := haf
    unfold compF at haf
    split at haf
    · rename_i c hname hbody
      simp only [Option.bind_eq_some_iff, Option.map_eq_some_iff] at haf
      obtain ⟨d, hd, r, hr, rfl⟩ := haf
      refine ⟨⟨fn, hfn, by simpa using hname, by simp [hbody]⟩, fun κ w args s hargs R hR => ?_⟩
      obtain ⟨t, hD, ht⟩ := argK_eq _ _ _ _ hD
      have hlen := gams_length _ _ hargs
      refine calls_of_wp hfn hbody (comp_ok hmix (callN_all hmix hcon fuel n) c d hd fuel _ t h κ _ w _ hD s ⟨by simp; omega, rfl, fun j => ?_⟩ fun e κ' fr' h' a' w' b1 b2 b3 b4 => ?_)
      · have hg : getS t (gpos j) = (avs[j]?).getD undefV := by
          simp only [ht, Nat.zero_le, true_and, Nat.zero_add, Nat.sub_zero, getS_lf]
          by_cases hj : j < avs.length
          · rw [if_pos hj]
          · rw [if_neg hj, List.getElem?_eq_none (by omega)]; rfl
        rw [hg]
        by_cases hj : j < avs.length
        · obtain ⟨V, g1, g2⟩ := gams_get _ _ j _ hargs (List.getElem?_eq_getElem hj)
          rw [List.getElem?_eq_getElem hj]
          simp only [Option.getD_some, g1]
          have : (args.toArray ++ Array.replicate (fn.ntmps - args.toArray.size) undef)[j]? = some V := by
            rw [Array.getElem?_append_left (by simp; omega)]; simpa using g2
          simp only [List.size_toArray] at this
          simp [this]
        · rw [List.getElem?_eq_none (by omega)]
          simp only [Option.getD_none]
          have hb : (args.toArray ++ Array.replicate (fn.ntmps - args.toArray.size) undef).getD j undef = undef := by
            rw [Array.getD_eq_getD_getElem?, Array.getElem?_append_right (by simp; omega), Array.getElem?_replicate]
            split <;> rfl
          rw [hb]; rfl
      · have fin : ∀ {a : Act} {fr : Fr} {h : Hp} {κ' : Kap} {w : World}, κ.le κ' → Sim B w0 κ' h w → FrOK κ' fn.ntmps fr a → (ressK fr h r fun vs => K (tupOf vs) h) → a.defers = [] ∧ ∃ v, (results fn a.tmps).run P w = .ok v w ∧ R (.returned v) w := by
          intro a fr h κ' w c1 c2 c3 c4
          obtain ⟨avs, hk, hl, hrest⟩ := ressK_ok (B := B) (w0 := w0) _ _ hr fr h _ c4
          obtain ⟨vs, g1, g2⟩ := hrest κ' fn.ntmps w a c2 c3
          refine ⟨c3.defers, _, ?_, hR κ' _ h _ w c1 c2 (tupOf_gam g1) hk⟩
          unfold results
          rw [Array.mapM_eq_mapM_toList]
          have key : ∀ f : ResultVar → Sem Value, (∀ x, f x = resSem a x) → (List.mapM f fn.results.toList).run P w = .ok vs w := fun f hf => by rw [show f = resSem a from funext hf]; exact g2
          simp only [Sem.run_bind, Sem.run_map]
          rw [key _ (fun x => by cases x <;> rfl)]
          simp only [Result.andThen_ok, Sem.run_pure]
        cases e with
        | normal => exact fin b1 b2 b3 b4
        | exit id => exact b4.elim
        | ret => exact fin b1 b2 b3 b4
    · cases haf

theorem callN_ok (hmix : P.follows .mixedOrders = true) {con : FuncId → Option ConD} (hcon : ConOK P con) (fuel : Nat) (n : Nat) : CallOK P B w0 (callN con (tabOf P) fuel n) := callN_all hmix hcon fuel n w0

end

/-- A call without arguments that the machine says comes to 'true'. -/
theorem closed_true (hmix : P.follows .mixedOrders = true) {con : FuncId → Option ConD} (hcon : ConOK P con) (fuel n f : Nat) (h : callN con (tabOf P) fuel n f [] ⟨E1.lf, 0⟩ fun v _ => asBool v fun b => gd b True) (w : World) :
    Calls P f #[] w fun e w' => e = .returned (.bool true) ∧ Below w.heap.size w w' := by
  have hs : Sim w.heap.size (W0.of w) (fun _ => none) ⟨E1.lf, 0⟩ w := ⟨Below.refl _ _, Nat.le_refl _, (fun o e he => by rw [E1.getP_lf] at he; cases he), (fun o _ e _ _ _ he => by rw [E1.getP_lf] at he; cases he), (fun o ki hk => by cases hk), (fun b ob hb => by cases hb), (fun o e ki he => by rw [E1.getP_lf] at he; cases he)⟩
  exact ((callN_ok (B := w.heap.size) (w0 := W0.of w) hmix hcon fuel n) f [] _ _ h).2 _ w [] hs rfl _ fun κ' av h' v w' h1 h2 h3 h4 => by
    obtain ⟨b, rfl, hb⟩ := asBool_iff.1 h4
    obtain ⟨hb, _⟩ := gd_iff.1 hb
    subst hb
    simp only [gam, Option.some.injEq] at h3
    exact ⟨by rw [← h3], h2.below⟩

end Go.Am
