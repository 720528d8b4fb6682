/-
  Parts of the abstract machine and its use, joined: AmCode AmPost AmLoop AmOv AmArgs AmGlob. No condition.
-/
import Derived.Test.YtciipeallilmiaaGreatDoorAmD
import Derived.Scope
import Derived.Below
import Derived.ChangeSame
namespace Go.Am
set_option linter.unusedSimpArgs false
set_option linter.unusedVariables false
open Go Go.RowKit
variable {P : Program}

def exOf : Ex → Exit
  | .normal => .normal
  | .exit id => .exit id
  | .ret => .ret

section
variable {B : Nat} {w0 : W0} {cf : CallK}

theorem comp_ok (hmix : P.follows .mixedOrders = true) (hcf : ∀ w0, CallOK P B w0 cf) {n : Nat} : ∀ (c : Code) (D : CodeD), comp P n c = some D → ∀ (fuel : Nat) (K : Ex → Fr → Hp → Prop) (fr : Fr) (h : Hp) (κ : Kap) (a : Act) (w : World) (Q : Exit → Act → World → Prop),
    D cf fuel K fr h → Sim B w0 κ h w → FrOK κ n fr a →
    (∀ e κ' fr' h' a' w', κ.le κ' → Sim B w0 κ' h' w' → FrOK κ' n fr' a' → K e fr' h' → Q (exOf e) a' w') → c.wp P Q a w := by
  intro c
  induction c with
  | skip =>
    intro D hD fuel K fr h κ a w Q hK s hf hq
    simp [comp] at hD; subst hD
    exact wp_skip (hq .normal κ fr h a w κ.le_refl s hf hK)
  | region id ops dr =>
    intro D hD fuel K fr h κ a w Q hK s hf hq
    simp only [comp, Option.some.injEq] at hD
    cases hR : compReg P n ops dr with
    | none => rw [hR] at hD; subst hD; exact hK.elim
    | some D' =>
    rw [hR] at hD
    have hD2 : D' = D := hD
    subst hD2
    clear hD
    have hD := hR
    simp only [compReg, Option.bind_eq_some_iff] at hD
    obtain ⟨l, hl, hD⟩ := hD
    cases dr with
    | true =>
      simp only at hD
      split at hD
      · rename_i hok
        simp at hD; subst hD
        simp only [drawOK, Bool.and_eq_true] at hok
        refine wp_region_draw fun t => ?_
        simp only [Region.schedule, hmix, Bool.true_or, if_true]
        exact draw_list hcf hl hok.1 drawItems_of hK s.drew hf (fun κ' fr' h' a' w' b1 b2 b3 b4 => hq .normal κ' fr' h' a' w' b1 b2 b3 b4)
          (lin_valid hok.2 _ _ _ (by simp) ⟨List.range ops.size, fun i hi _ => List.mem_range.2 hi, by simp⟩)
      · split at hD
        · rename_i hok
          simp at hD; subst hD
          refine wp_region_draw fun t => ?_
          simp only [Region.schedule, hmix, Bool.true_or, if_true]
          have hed : edgesOK 0 ops.toList = true := by
            simp only [altsOK, Bool.and_eq_true] at hok
            exact hok.2.1
          exact alts_wp hcf hl hok hK s.drew hf (fun κ' fr' h' a' w' b1 b2 b3 b4 => hq .normal κ' fr' h' a' w' b1 b2 b3 b4)
            (lin_valid hed _ _ _ (by simp) ⟨List.range ops.size, fun i hi _ => List.mem_range.2 hi, by simp⟩)
        · cases hD
    | false =>
      simp at hD; subst hD
      refine wp_region ?_
      rw [List.range_eq_range']
      have hlen : ops.size = ops.toList.length := by simp
      rw [hlen]
      exact reg_wp (hcf w0) ops.toList l 0 (by simp) hl fr h κ a w hK s hf fun κ' fr' h' a' w' b1 b2 b3 b4 => hq .normal κ' fr' h' a' w' b1 b2 b3 b4
  | seq x y ihx ihy =>
    intro D hD fuel K fr h κ a w Q hK s hf hq
    simp only [comp, Option.bind_eq_some_iff, Option.map_eq_some_iff] at hD
    obtain ⟨dx, hx, dy, hy, rfl⟩ := hD
    refine wp_seq (ihx dx hx fuel (thenE (dy cf fuel K) K) fr h κ a w _ hK s hf fun e κ' fr' h' a' w' b1 b2 b3 b4 => ?_)
    cases e with
    | normal => exact ihy dy hy fuel K fr' h' κ' a' w' Q b4 b2 b3 fun e κ2 fr2 h2 a2 w2 c1 c2 c3 c4 => hq e κ2 fr2 h2 a2 w2 (Kap.le_trans b1 c1) c2 c3 c4
    | exit id => exact hq (.exit id) κ' fr' h' a' w' b1 b2 b3 b4
    | ret => exact hq .ret κ' fr' h' a' w' b1 b2 b3 b4
  | cond c x y ihx ihy =>
    intro D hD fuel K fr h κ a w Q hK s hf hq
    simp only [comp, Option.bind_eq_some_iff, Option.map_eq_some_iff] at hD
    obtain ⟨dx, hx, dy, hy, hD⟩ := hD
    cases hdc : opd c with
    | none => rw [hdc] at hD; subst hD; exact hK.elim
    | some dc =>
    rw [hdc] at hD
    have hD2 : cCond dc dx dy = D := hD
    subst hD2
    clear hD
    obtain ⟨t, ht, hK⟩ := asBool_iff.1 (show asBool (dc fr) _ from hK)
    have hv := rho_bool hf.rho hdc ht
    cases t with
    | true => exact wp_cond_true hv (ihx dx hx fuel K fr h κ a w Q hK s hf hq)
    | false => exact wp_cond_false hv (ihy dy hy fuel K fr h κ a w Q hK s hf hq)
  | block id x ih =>
    intro D hD fuel K fr h κ a w Q hK s hf hq
    simp only [comp, Option.map_eq_some_iff] at hD
    obtain ⟨dx, hx, rfl⟩ := hD
    refine wp_block (ih dx hx fuel (blkE id K) fr h κ a w _ hK s hf fun e κ' fr' h' a' w' b1 b2 b3 b4 => ?_)
    cases e with
    | normal => exact hq .normal κ' fr' h' a' w' b1 b2 b3 b4
    | ret => exact hq .ret κ' fr' h' a' w' b1 b2 b3 b4
    | exit i =>
      have b4' : (Bool.rec (motive := fun _ => Fr → Hp → Prop) (K (.exit i)) (K .normal) (Nat.beq i id)) fr' h' := b4
      show Exit.inBlock id Q (.exit i) a' w'
      simp only [Exit.inBlock]
      cases hb : Nat.beq i id with
      | true =>
        rw [hb] at b4'
        have : i = id := by simpa using hb
        rw [if_pos this]
        exact hq .normal κ' fr' h' a' w' b1 b2 b3 b4'
      | false =>
        rw [hb] at b4'
        have : ¬ i = id := by intro e; subst e; simp at hb
        rw [if_neg this]
        exact hq (.exit i) κ' fr' h' a' w' b1 b2 b3 b4'
  | loop x ih =>
    intro D hD fuel K fr h κ a w Q hK s hf hq
    simp only [comp, Option.map_eq_some_iff] at hD
    obtain ⟨dx, hx, rfl⟩ := hD
    intro b k cs
    have key : ∀ m fr h κ' a w, κ.le κ' → (Nat.rec (motive := fun _ => Fr → Hp → Prop) (fun _ _ => False) (fun _ ih => dx cf fuel (thenE ih K)) m) fr h → Sim B w0 κ' h w → FrOK κ' n fr a →
        ∃ e a' w', Q e a' w' ∧ Arrives P (lone (b.at a (.code x :: .inLoop x :: k)) cs w) b k cs e a' w' := by
      intro m
      induction m with
      | zero => intro fr h κ' a w _ hF; exact hF.elim
      | succ m ihm =>
        intro fr h κ' a w hle hF s hf
        have hwp := ih dx hx fuel (thenE (Nat.rec (motive := fun _ => Fr → Hp → Prop) (fun _ _ => False) (fun _ ih => dx cf fuel (thenE ih K)) m) K) fr h κ' a w
          (Exit.then (fun a' w' => ∃ e a2 w2, Q e a2 w2 ∧ Arrives P (lone (b.at a' (.code x :: .inLoop x :: k)) cs w') b k cs e a2 w2) Q) hF s hf (fun e κ2 fr2 h2 a2 w2 c1 c2 c3 c4 => by
            cases e with
            | normal => exact ihm fr2 h2 κ2 a2 w2 (Kap.le_trans hle c1) c4 c2 c3
            | exit id => exact hq (.exit id) κ2 fr2 h2 a2 w2 (Kap.le_trans hle c1) c2 c3 c4
            | ret => exact hq .ret κ2 fr2 h2 a2 w2 (Kap.le_trans hle c1) c2 c3 c4)
        obtain ⟨e, a₁, w₁, hq1, harr⟩ := hwp b (.inLoop x :: k) cs
        cases e with
        | normal =>
          obtain ⟨e₂, a₂, w₂, hq₂, harr₂⟩ := hq1
          exact ⟨e₂, a₂, w₂, hq₂, .of_steps (Steps.trans harr (.one step_inLoop)) harr₂⟩
        | exit id => exact ⟨_, a₁, w₁, hq1, .pass (x := .inLoop x) rfl (fun _ _ => .inl (by simp)) harr⟩
        | goto l => exact ⟨_, a₁, w₁, hq1, .pass (x := .inLoop x) rfl (fun _ _ => .inl (by simp)) harr⟩
        | ret => exact ⟨_, a₁, w₁, hq1, .pass (x := .inLoop x) rfl (fun _ _ => .inl (by simp)) harr⟩
        | panic ch => exact ⟨_, a₁, w₁, hq1, .pass (x := .inLoop x) rfl (fun _ _ => .inl (by simp)) harr⟩
        | outgrown => exact ⟨_, a₁, w₁, hq1, .pass (x := .inLoop x) rfl (fun _ _ => .inl (by simp)) harr⟩
    obtain ⟨e, a', w', hq', harr⟩ := key fuel fr h κ a w κ.le_refl hK s hf
    exact ⟨e, a', w', hq', .of_steps (.one step_loop) harr⟩
  | exit id =>
    intro D hD fuel K fr h κ a w Q hK s hf hq
    simp [comp] at hD; subst hD
    exact wp_exit (hq (.exit id) κ fr h a w κ.le_refl s hf hK)
  | ret =>
    intro D hD fuel K fr h κ a w Q hK s hf hq
    simp [comp] at hD; subst hD
    exact wp_ret (hq .ret κ fr h a w κ.le_refl s hf hK)
  | scope x ih =>
    intro D hD fuel K fr h κ a w Q hK s hf hq
    refine wp_scope_straight (ih D (by simpa only [comp] using hD) fuel K fr h κ a w _ hK s hf fun e κ' fr' h' a' w' b1 b2 b3 b4 => ?_)
    cases e with
    | normal => exact hq .normal κ' fr' h' a' w' b1 b2 b3 b4
    | exit id => exact hq (.exit id) κ' fr' h' a' w' b1 b2 b3 b4
    | ret => exact hq .ret κ' fr' h' a' w' b1 b2 b3 b4
  | label l =>
    intro D hD fuel K fr h κ a w Q hK s hf hq
    simp [comp] at hD; subst hD
    exact wp_label (hq .normal κ fr h a w κ.le_refl s hf hK)
  | _ => intro D hD fuel K fr h κ a w Q hK; simp only [comp, Option.some.injEq] at hD; subst hD; exact hK.elim

/-! ### results -/
def resSem (a : Act) : ResultVar → Sem Value
  | .tmp t => pure (a.tmps.getD t undef)
  | .cell t ty => do loadVar ty (← Go.asAddr (a.tmps.getD t undef))
theorem resK_ok {rv : ResultVar} {r : List ResultVar} {ar : List ARes} (hr : compRes P (rv :: r) = some ar) : ∃ a rest, ar = a :: rest ∧ compRes P r = some rest ∧ ∀ fr h k, resK fr h a k → ∃ av, k av ∧ ∀ κ n w (a : Act), Sim B w0 κ h w → FrOK κ n fr a →
    ∃ v, gam κ av = some v ∧ (resSem a rv).run P w = .ok v w := by
  cases rv with
  | tmp t =>
    simp only [compRes, Option.map_eq_some_iff] at hr
    obtain ⟨rest, h1, rfl⟩ := hr
    exact ⟨_, rest, rfl, h1, fun fr h k hk => ⟨_, hk, fun κ n w a s hf => ⟨_, hf.rel t, rfl⟩⟩⟩
  | cell t ty =>
    simp only [compRes, Option.bind_eq_some_iff, Option.map_eq_some_iff] at hr
    obtain ⟨g, hg, m, hm, rest, h1, rfl⟩ := hr
    refine ⟨_, rest, rfl, h1, fun fr h k hk => ?_⟩
    cases g with
    | true =>
      obtain ⟨p, off, e1, hD⟩ := asPtr_iff.1 (show asPtr (getS fr (gpos t)) _ from hk)
      obtain ⟨e, he, hD⟩ := objAt_iff.1 hD
      obtain ⟨l, hK, h6, h7⟩ := cellsK_iff _ _ _ _ hD
      refine ⟨_, hK, fun κ n w a s hf => ?_⟩
      have h3 := hf.rel t
      rw [e1] at h3
      simp only [gam, Option.map_eq_some_iff] at h3
      obtain ⟨ki, hk', h3⟩ := h3
      obtain ⟨L, f1, f2, f3⟩ := s.cells he hk' l off (fun j hj => h7 j (by omega))
      refine ⟨.agg L.toArray, by simp only [gam, f1, Option.bind_some, f2, if_true], ?_⟩
      have hl := run_loadCells_list (P := P) w (ki.at off) L (fun j v hv => by rw [at_add]; exact f3 j v hv)
      rw [gams_length _ _ f1, h6] at hl
      simp only [resSem, ← h3, Go.asAddr, Sem.run_bind, Sem.run_pure, Result.andThen_ok, loadVar, aggRun hg, if_true, szRun hm, hl]
    | false =>
      obtain ⟨p, off, e1, hD⟩ := asPtr_iff.1 (show asPtr (getS fr (gpos t)) _ from hk)
      obtain ⟨e, he, hD⟩ := objAt_iff.1 hD
      obtain ⟨v, hv, hK⟩ := asOpt_iff.1 hD
      refine ⟨v, hK, fun κ n w a s hf => ?_⟩
      have h3 := hf.rel t
      rw [e1] at h3
      simp only [gam, Option.map_eq_some_iff] at h3
      obtain ⟨ki, hk', h3⟩ := h3
      obtain ⟨V, g1, _, g3, _⟩ := s.cell he hk' hv
      refine ⟨V, g1, ?_⟩
      simp only [resSem, ← h3, Go.asAddr, Sem.run_bind, Sem.run_pure, Result.andThen_ok, loadVar, aggRun hg, Bool.false_eq_true, if_false, run_load, g3]
theorem ressK_ok : ∀ (r : List ResultVar) (ar : List ARes), compRes P r = some ar → ∀ fr h k, ressK fr h ar k → ∃ avs, k avs ∧ avs.length = r.length ∧ ∀ κ n w (a : Act), Sim B w0 κ h w → FrOK κ n fr a →
    ∃ vs, gams κ avs = some vs ∧ (r.mapM (resSem a)).run P w = .ok vs w
  | [], ar, hr, fr, h, k, hk => by
    simp [compRes] at hr; subst hr
    exact ⟨[], hk, rfl, fun κ n w a s hf => ⟨[], rfl, rfl⟩⟩
  | rv :: r, ar, hr, fr, h, k, hk => by
    obtain ⟨x, rest, rfl, h1, h2⟩ := resK_ok (B := B) (w0 := w0) hr
    obtain ⟨av, hk, h3⟩ := h2 fr h _ hk
    obtain ⟨avs, hk, hlen, h4⟩ := ressK_ok r rest h1 fr h _ hk
    refine ⟨av :: avs, hk, by simp [hlen], fun κ n w a s hf => ?_⟩
    obtain ⟨v, g1, g2⟩ := h3 κ n w a s hf
    obtain ⟨vs, g3, g4⟩ := h4 κ n w a s hf
    refine ⟨v :: vs, by simp [gams, g1, g3], ?_⟩
    rw [List.mapM_cons]
    simp only [Sem.run_bind, g2, g4, Result.andThen_ok, Sem.run_pure]
theorem tupOf_gam {κ : Kap} {avs : List AV} {vs : List Value} (h : gams κ avs = some vs) : gam κ (tupOf avs) = some (if h : vs.toArray.size = 1 then vs.toArray[0] else .tuple vs.toArray) := by
  match avs, vs, h with
  | [], vs, h => simp [gams] at h; subst h; rfl
  | [v], vs, h =>
    simp only [gams, Option.bind_eq_some_iff, Option.map_eq_some_iff] at h
    obtain ⟨y, h1, ys, h2, rfl⟩ := h
    simp at h2; subst h2
    simp [tupOf, h1]
  | v :: u :: l, vs, h =>
    have hl := gams_length _ _ h
    have : ¬ vs.length = 1 := by simp at hl; omega
    simp [tupOf, gam, h, this]

/-- What a contract says of a function holds of the model's calls. -/
def ConOK (P : Program) (con : FuncId → Option ConD) : Prop := ∀ f c, con f = some c → ∀ B w0, ConOne P B w0 f c
def noCon (_ : FuncId) : Option ConD := none
theorem noCon_ok : ConOK P noCon := fun f c h => by cases h

theorem callN_all (hmix : P.follows .mixedOrders = true) {con : FuncId → Option ConD} (hcon : ConOK P con) (fuel : Nat) : ∀ n (w0 : W0), CallOK P B w0 (callN con (tabOf P) fuel n)
  | 0, w0 => fun f avs h K hD => hD.elim
  | n + 1, w0 => fun f avs h K hD => by
    have hD0 : Option.rec (motive := fun _ => Prop) (asOpt (tabOf P f) fun af => argK avs 0 G1.lf fun fr => af.body (callN con (tabOf P) fuel n) fuel (endK af.res K) fr h) (fun c => c avs h K) (con f) := hD
    clear hD
    cases hc : con f with
    | some c =>
      rw [hc] at hD0
      exact hcon f c hc B w0 avs h K hD0
    | none =>
    rw [hc] at hD0
    have hD : asOpt (tabOf P f) fun af => argK avs 0 G1.lf fun fr => af.body (callN con (tabOf P) fuel n) fuel (endK af.res K) fr h := hD0
    clear hD0
    obtain ⟨af, haf, hD⟩ := asOpt_iff.1 hD
    simp only [tabOf, Option.bind_eq_some_iff] at haf
    obtain ⟨fn, hfn, haf⟩ := haf
    unfold compF at haf
    split at haf
    · rename_i c hname hbody
      simp only [Option.bind_eq_some_iff, Option.map_eq_some_iff] at haf
      obtain ⟨d, hd, r, hr, rfl⟩ := haf
      refine ⟨⟨fn, hfn, by simpa using hname, by simp [hbody]⟩, fun κ w args s hargs R hR => ?_⟩
      obtain ⟨t, hD, ht⟩ := argK_eq _ _ _ _ hD
      have hlen := gams_length _ _ hargs
      refine calls_of_wp hfn hbody (comp_ok hmix (callN_all hmix hcon fuel n) c d hd fuel _ t h κ _ w _ hD s ⟨by simp; omega, rfl, fun j => ?_⟩ fun e κ' fr' h' a' w' b1 b2 b3 b4 => ?_)
      · have hg : getS t (gpos j) = (avs[j]?).getD undefV := by
          simp only [ht, Nat.zero_le, true_and, Nat.zero_add, Nat.sub_zero, getS_lf]
          by_cases hj : j < avs.length
          · rw [if_pos hj]
          · rw [if_neg hj, List.getElem?_eq_none (by omega)]; rfl
        rw [hg]
        by_cases hj : j < avs.length
        · obtain ⟨V, g1, g2⟩ := gams_get _ _ j _ hargs (List.getElem?_eq_getElem hj)
          rw [List.getElem?_eq_getElem hj]
          simp only [Option.getD_some, g1]
          have : (args.toArray ++ Array.replicate (fn.ntmps - args.toArray.size) undef)[j]? = some V := by
            rw [Array.getElem?_append_left (by simp; omega)]; simpa using g2
          simp only [List.size_toArray] at this
          simp [this]
        · rw [List.getElem?_eq_none (by omega)]
          simp only [Option.getD_none]
          have hb : (args.toArray ++ Array.replicate (fn.ntmps - args.toArray.size) undef).getD j undef = undef := by
            rw [Array.getD_eq_getD_getElem?, Array.getElem?_append_right (by simp; omega), Array.getElem?_replicate]
            split <;> rfl
          rw [hb]; rfl
      · have fin : ∀ {a : Act} {fr : Fr} {h : Hp} {κ' : Kap} {w : World}, κ.le κ' → Sim B w0 κ' h w → FrOK κ' fn.ntmps fr a → (ressK fr h r fun vs => K (tupOf vs) h) → a.defers = [] ∧ ∃ v, (results fn a.tmps).run P w = .ok v w ∧ R (.returned v) w := by
          intro a fr h κ' w c1 c2 c3 c4
          obtain ⟨avs, hk, hl, hrest⟩ := ressK_ok (B := B) (w0 := w0) _ _ hr fr h _ c4
          obtain ⟨vs, g1, g2⟩ := hrest κ' fn.ntmps w a c2 c3
          refine ⟨c3.defers, _, ?_, hR κ' _ h _ w c1 c2 (tupOf_gam g1) hk⟩
          unfold results
          rw [Array.mapM_eq_mapM_toList]
          have key : ∀ f : ResultVar → Sem Value, (∀ x, f x = resSem a x) → (List.mapM f fn.results.toList).run P w = .ok vs w := fun f hf => by rw [show f = resSem a from funext hf]; exact g2
          simp only [Sem.run_bind, Sem.run_map]
          rw [key _ (fun x => by cases x <;> rfl)]
          simp only [Result.andThen_ok, Sem.run_pure]
        cases e with
        | normal => exact fin b1 b2 b3 b4
        | exit id => exact b4.elim
        | ret => exact fin b1 b2 b3 b4
    · cases haf

theorem callN_ok (hmix : P.follows .mixedOrders = true) {con : FuncId → Option ConD} (hcon : ConOK P con) (fuel : Nat) (n : Nat) : CallOK P B w0 (callN con (tabOf P) fuel n) := callN_all hmix hcon fuel n w0

end

/-- A call without arguments that the machine says comes to 'true'. -/
theorem closed_true (hmix : P.follows .mixedOrders = true) {con : FuncId → Option ConD} (hcon : ConOK P con) (fuel n f : Nat) (h : callN con (tabOf P) fuel n f [] ⟨E1.lf, 0⟩ fun v _ => asBool v fun b => gd b True) (w : World) :
    Calls P f #[] w fun e w' => e = .returned (.bool true) ∧ Below w.heap.size w w' := by
  have hs : Sim w.heap.size (W0.of w) (fun _ => none) ⟨E1.lf, 0⟩ w := ⟨Below.refl _ _, Nat.le_refl _, (fun o e he => by rw [E1.getP_lf] at he; cases he), (fun o _ e _ _ _ he => by rw [E1.getP_lf] at he; cases he), (fun o ki hk => by cases hk), (fun b ob hb => by cases hb), (fun o e ki he => by rw [E1.getP_lf] at he; cases he)⟩
  exact ((callN_ok (B := w.heap.size) (w0 := W0.of w) hmix hcon fuel n) f [] _ _ h).2 _ w [] hs rfl _ fun κ' av h' v w' h1 h2 h3 h4 => by
    obtain ⟨b, rfl, hb⟩ := asBool_iff.1 h4
    obtain ⟨hb, _⟩ := gd_iff.1 hb
    subst hb
    simp only [gam, Option.some.injEq] at h3
    exact ⟨by rw [← h3], h2.below⟩

end Go.Am

namespace Go.Am
set_option linter.unusedSimpArgs false
set_option linter.unusedVariables false
open Go Go.RowKit Go.WideShapes Go.ChangeShapes
section
variable {H : Type} {enc : TypeId × Value → H} {P : Program}
theorem post_of_below {f : Func} {s : ChangeSpec} {apart fresh handsOn again : Bool} {W W' : World} {args : Array Value} {v : Value} {ds gs : List (DataW H)} {before pa pv : List MemPlace}
    (hW : DataW.Whole enc P f.params.toList s.vars apart W args.toList ds gs before)
    (hres : ∀ (b : Nat) (sp : Nat → Bool) (hd : Bool), DataW.TrodAll enc P W' b sp hd f.resultTypes.toList (v.resultList f.resultTypes.size) (s.fn H (ds ++ gs)).results [])
    (hargs : ∀ sp : Nat → Bool, (∀ p ∈ before, sp p.block = true) → DataW.TrodAll enc P W' 0 sp true f.params.toList args.toList (s.fn H (ds ++ gs)).args pa)
    (hvars : ∀ sp : Nat → Bool, (∀ p ∈ before, sp p.block = true) → DataW.TrodVars enc P W' sp s.vars (s.fn H (ds ++ gs)).vars pv)
    (hps : before = pa ++ pv) (hb : Below W.heap.size W W')
    (hok : ∀ (j : Nat) (t : TypeId) (r : Value), f.resultTypes[j]? = some t → (v.resultList f.resultTypes.size)[j]? = some r → Value.okWide P W' .any 0 t r) :
    s.post enc P f apart fresh handsOn again W args v W' := by
  have hlt : ∀ p ∈ before, p.block < W.heap.size := fun p hp => hW.lt p hp
  have hold : ∀ p ∈ before, (fun b => decide (b < W.heap.size)) p.block = true := fun p hp => by simpa using hlt p hp
  refine ⟨ds, gs, before, [], pa, pv, hW, hres _ _ _, hargs _ hold, hvars _ hold, World.keptBut_mono (fun p hp => ⟨hp, ?_⟩) (hb.frame (· ∈ before)), fun _ => ?_⟩
  · rw [hps, List.mem_append] at hp
    exact Or.inr hp
  · obtain ⟨_, _, _, _, _, hz, hn⟩ := hW
    refine ⟨hok, _, _, ([] ++ pa) ++ pv, ⟨[] ++ pa, pv, trodAll_append (hargs _ (fun _ _ => rfl)) (hres _ _ _), hvars _ (fun _ _ => rfl), rfl, ?_, ?_⟩, ?_⟩
    · intro b off hp
      have hin : MemPlace.cell b off ∈ before := by rw [hps]; simpa using hp
      rw [hb.frozen (hlt _ hin)]
      exact hz b off hin
    · intro ha
      have := hn ha
      rw [hps] at this
      simpa using this
    · intro p hp _
      rw [hps]
      simpa using hp
end
/-- The machine says that the call without arguments comes to 'true'. -/
def RunsTrue (P : Program) (con : FuncId → Option ConD) (fuel n f : Nat) : Prop := callN con (tabOf P) fuel n f [] ⟨E1.lf, 0⟩ fun v _ => asBool v fun b => gd b True
theorem runs_true {P : Program} (hmix : P.follows .mixedOrders = true) {con : FuncId → Option ConD} (hcon : ConOK P con) (fuel n f : Nat) (h : RunsTrue P con fuel n f = True) (w : World) :
    Calls P f #[] w fun e w' => e = .returned (.bool true) ∧ Below w.heap.size w w' :=
  closed_true hmix hcon fuel n f (of_eq_true h) w
end Go.Am

namespace Go.Am
set_option linter.unusedSimpArgs false
set_option linter.unusedVariables false
open Go Go.RowKit
noncomputable section

def lft (c : Code) : Code := match c with
  | .seq x _ => x
  | .cond _ x _ => x
  | .block _ x => x
  | .loop x => x
  | .scope x => x
  | x => x
def rgt (c : Code) : Code := match c with
  | .seq _ y => y
  | .cond _ _ y => y
  | x => x
def cndO (c : Code) : Opd := match c with
  | .cond o _ _ => (match opd o with | some d => d | none => konst undefV)
  | _ => konst undefV
def idO (c : Code) : Nat := match c with
  | .block i _ => i
  | _ => 0
/-- Which form a piece of code has. -/
def kindC (c : Code) : Nat := match c with
  | .seq _ _ => 1
  | .cond o _ _ => (match opd o with | some _ => 2 | none => 0)
  | .block _ _ => 3
  | .loop _ => 4
  | .scope _ => 5
  | _ => 0

/-- A branch. -/
def vIf (x : AV) (A B : Prop) : Prop := asBool x fun b => Bool.rec (motive := fun _ => Prop) B A b
/-- What a piece of code does, said by D. -/
def Rel (P : Program) (n : Nat) (cf : CallK) (fuel : Nat) (c : Code) (K : Ex → Fr → Hp → Prop) (D : Fr → Hp → Prop) : Prop := ∀ d, comp P n c = some d → D = d cf fuel K
section
variable {P : Program} {n : Nat} {cf : CallK} {fuel : Nat} {c : Code} {K : Ex → Fr → Hp → Prop}
theorem rExact : Rel P n cf fuel c K (orFail (comp P n c) cf fuel K) := fun d h => by rw [h]; rfl
theorem rCast {D D' : Fr → Hp → Prop} (h : D' = D) (r : Rel P n cf fuel c K D) : Rel P n cf fuel c K D' := fun d hd => h.trans (r d hd)
theorem rSeq (hc : kindC c = 1) {Dy Dx : Fr → Hp → Prop} (ry : Rel P n cf fuel (rgt c) K Dy) (rx : Rel P n cf fuel (lft c) (thenE Dy K) Dx) : Rel P n cf fuel c K Dx := fun d hd => by
  cases c <;> simp [kindC] at hc
  case cond => split at hc <;> simp at hc
  rename_i x y
  simp only [comp, Option.bind_eq_some_iff, Option.map_eq_some_iff] at hd
  obtain ⟨dx, hx, dy, hy, rfl⟩ := hd
  have e1 := ry dy hy
  subst e1
  exact rx dx hx
theorem rCond (hc : kindC c = 2) {Dx Dy : Fr → Hp → Prop} (rx : Rel P n cf fuel (lft c) K Dx) (ry : Rel P n cf fuel (rgt c) K Dy) :
    Rel P n cf fuel c K (fun fr h => asBool (cndO c fr) fun t => Bool.rec (motive := fun _ => Prop) (Dy fr h) (Dx fr h) t) := fun d hd => by
  cases c <;> simp [kindC] at hc
  rename_i o x y
  simp only [comp, Option.bind_eq_some_iff, Option.map_eq_some_iff] at hd
  obtain ⟨dx, hx, dy, hy, hd⟩ := hd
  cases ho : opd o with
  | none => rw [ho] at hc; simp at hc
  | some t =>
  rw [ho] at hd
  have e : d = cCond t dx dy := hd.symm
  subst e
  have e1 := rx dx hx
  have e2 := ry dy hy
  subst e1 e2
  simp only [cndO, ho]
theorem rBlock (hc : kindC c = 3) {D : Fr → Hp → Prop} (r : Rel P n cf fuel (lft c) (blkE (idO c) K) D) : Rel P n cf fuel c K D := fun d hd => by
  cases c <;> simp [kindC] at hc
  case cond => split at hc <;> simp at hc
  simp only [comp, Option.map_eq_some_iff] at hd
  obtain ⟨dx, hx, rfl⟩ := hd
  exact r dx hx
theorem rScope (hc : kindC c = 5) {D : Fr → Hp → Prop} (r : Rel P n cf fuel (lft c) K D) : Rel P n cf fuel c K D := fun d hd => by
  cases c <;> simp [kindC] at hc
  case cond => split at hc <;> simp at hc
  simp only [comp] at hd
  exact r d hd
theorem rLoop (hc : kindC c = 4) (S : Nat → Fr → Hp → Prop) (h0 : S 0 = fun _ _ => False) (hs : ∀ m, Rel P n cf fuel (lft c) (thenE (S m) K) (S (m + 1))) : Rel P n cf fuel c K (S fuel) := fun d hd => by
  cases c <;> simp [kindC] at hc
  case cond => split at hc <;> simp at hc
  simp only [comp, Option.map_eq_some_iff] at hd
  obtain ⟨dx, hx, rfl⟩ := hd
  have key : ∀ m, S m = Nat.rec (motive := fun _ => Fr → Hp → Prop) (fun _ _ => False) (fun _ ih => dx cf fuel (thenE ih K)) m := by
    intro m
    induction m with
    | zero => exact h0
    | succ m ih =>
      have := hs m dx hx
      rw [this, ih]
  exact key fuel

def fnC (P : Program) (f : FuncId) : Code := match P.funcs[f]? with
  | some fn => (match fn.body with | some c => c | none => .skip)
  | none => .skip
def fnN (P : Program) (f : FuncId) : Nat := match P.funcs[f]? with
  | some fn => fn.ntmps
  | none => 0
def fnR (P : Program) (f : FuncId) : List ARes := match P.funcs[f]? with
  | some fn => (match compRes P fn.results.toList with | some r => r | none => [])
  | none => []
def fnOK (P : Program) (f : FuncId) : Bool := match P.funcs[f]? with
  | some fn => !(fn.name == "runtime.NumGoroutine") && (fn.body.isSome && ((compRes P fn.results.toList).isSome && (comp P (fnN P f) (fnC P f)).isSome))
  | none => false
/-- A function's code is what D says. -/
theorem rFun {f : FuncId} (hok : fnOK P f = true) {args : List AV} {h : Hp} {K : AV → Hp → Prop} {D : Fr → Hp → Prop} (r : Rel P (fnN P f) cf fuel (fnC P f) (endK (fnR P f) K) D) :
    argK args 0 G1.lf (fun fr => D fr h) = deepT (tabOf P) f cf fuel args h K := by
  cases hf : P.funcs[f]? with
  | none => simp [fnOK, hf] at hok
  | some fn =>
  simp only [fnOK, hf, Bool.and_eq_true, Bool.not_eq_true'] at hok
  obtain ⟨h1, h2, h3, h4⟩ := hok
  obtain ⟨c, hc⟩ := Option.isSome_iff_exists.1 h2
  obtain ⟨rr, hr⟩ := Option.isSome_iff_exists.1 h3
  have eC : fnC P f = c := by simp only [fnC, hf, hc]
  have eN : fnN P f = fn.ntmps := by simp only [fnN, hf]
  have eR : fnR P f = rr := by simp only [fnR, hf, hr]
  obtain ⟨d, hd⟩ := Option.isSome_iff_exists.1 h4
  have e := r d hd
  subst e
  rw [eN, eC] at hd
  have : tabOf P f = some ⟨d, rr⟩ := by
    unfold tabOf
    rw [hf]
    show compF P fn = _
    unfold compF
    rw [h1, hc]
    simp only [hd, hr, Option.bind_some, Option.map_some]
  show _ = asOpt (tabOf P f) fun af => argK args 0 G1.lf fun fr => af.body cf fuel (endK af.res K) fr h
  rw [this, eR]
  rfl
end
end
end Go.Am

namespace Go.Am
set_option linter.unusedSimpArgs false
set_option linter.unusedVariables false
open Go Go.RowKit
variable {P : Program}

/-- Code for a function that says of each call what is true. -/
def FunOne (P : Program) (f : FuncId) (s : FunD) : Prop :=
  ∀ (B : Nat) (w0 : W0) cf fuel, (∀ w0, CallOK P B w0 cf) → ∀ avs h K, s cf fuel avs h K → (∃ fn, P.funcs[f]? = some fn ∧ fn.name ≠ "runtime.NumGoroutine" ∧ fn.body.isSome = true) ∧
    ∀ κ w args, Sim B w0 κ h w → gams κ avs = some args → ∀ R : Ending → World → Prop,
      (∀ κ' av h' v w', κ.le κ' → Sim B w0 κ' h' w' → gam κ' av = some v → K av h' → R (.returned v) w') → Calls P f args.toArray w R

theorem deep_one (hmix : P.follows .mixedOrders = true) (f : FuncId) : FunOne P f (deepT (tabOf P) f) := by
  intro B w0 cf fuel hcf avs h K hD
  obtain ⟨af, haf, hD⟩ := asOpt_iff.1 (show asOpt (tabOf P f) fun af => argK avs 0 G1.lf fun fr => af.body cf fuel (endK af.res K) fr h from hD)
  simp only [tabOf, Option.bind_eq_some_iff] at haf
  obtain ⟨fn, hfn, haf⟩ := haf
  unfold compF at haf
  split at haf
  · rename_i c hname hbody
    simp only [Option.bind_eq_some_iff, Option.map_eq_some_iff] at haf
    obtain ⟨d, hd, r, hr, rfl⟩ := haf
    refine ⟨⟨fn, hfn, by simpa using hname, by simp [hbody]⟩, fun κ w args s hargs R hR => ?_⟩
    obtain ⟨t, hD, ht⟩ := argK_eq _ _ _ _ hD
    have hlen := gams_length _ _ hargs
    refine calls_of_wp hfn hbody (comp_ok hmix hcf c d hd fuel _ t h κ _ w _ hD s ⟨by simp; omega, rfl, fun j => ?_⟩ fun e κ' fr' h' a' w' b1 b2 b3 b4 => ?_)
    · have hg : getS t (gpos j) = (avs[j]?).getD undefV := by
        simp only [ht, Nat.zero_le, true_and, Nat.zero_add, Nat.sub_zero, getS_lf]
        by_cases hj : j < avs.length
        · rw [if_pos hj]
        · rw [if_neg hj, List.getElem?_eq_none (by omega)]; rfl
      rw [hg]
      by_cases hj : j < avs.length
      · obtain ⟨V, g1, g2⟩ := gams_get _ _ j _ hargs (List.getElem?_eq_getElem hj)
        rw [List.getElem?_eq_getElem hj]
        simp only [Option.getD_some, g1]
        have : (args.toArray ++ Array.replicate (fn.ntmps - args.toArray.size) undef)[j]? = some V := by
          rw [Array.getElem?_append_left (by simp; omega)]; simpa using g2
        simp only [List.size_toArray] at this
        simp [this]
      · rw [List.getElem?_eq_none (by omega)]
        simp only [Option.getD_none]
        have hb : (args.toArray ++ Array.replicate (fn.ntmps - args.toArray.size) undef).getD j undef = undef := by
          rw [Array.getD_eq_getD_getElem?, Array.getElem?_append_right (by simp; omega), Array.getElem?_replicate]
          split <;> rfl
        rw [hb]; rfl
    · have fin : ∀ {a : Act} {fr : Fr} {h : Hp} {κ' : Kap} {w : World}, κ.le κ' → Sim B w0 κ' h w → FrOK κ' fn.ntmps fr a → (ressK fr h r fun vs => K (tupOf vs) h) → a.defers = [] ∧ ∃ v, (results fn a.tmps).run P w = .ok v w ∧ R (.returned v) w := by
        intro a fr h κ' w c1 c2 c3 c4
        obtain ⟨avs, hk, hl, hrest⟩ := ressK_ok (B := B) (w0 := w0) _ _ hr fr h _ c4
        obtain ⟨vs, g1, g2⟩ := hrest κ' fn.ntmps w a c2 c3
        refine ⟨c3.defers, _, ?_, hR κ' _ h _ w c1 c2 (tupOf_gam g1) hk⟩
        unfold results
        rw [Array.mapM_eq_mapM_toList]
        have key : ∀ f : ResultVar → Sem Value, (∀ x, f x = resSem a x) → (List.mapM f fn.results.toList).run P w = .ok vs w := fun f hf => by rw [show f = resSem a from funext hf]; exact g2
        simp only [Sem.run_bind, Sem.run_map]
        rw [key _ (fun x => by cases x <;> rfl)]
        simp only [Result.andThen_ok, Sem.run_pure]
      cases e with
      | normal => exact fin b1 b2 b3 b4
      | exit id => exact b4.elim
      | ret => exact fin b1 b2 b3 b4
  · cases haf

/-- A contract in the place of code. -/
abbrev conF (c : ConD) : FunD := fun _ _ args h K => c args h K
theorem con_one {f : FuncId} {c : ConD} (hc : ∀ B w0, ConOne P B w0 f c) : FunOne P f (conF c) := fun B w0 _ _ _ avs h K hD => hc B w0 avs h K hD
/-- Code that comes to the made code. -/
theorem code_one (hmix : P.follows .mixedOrders = true) {f : FuncId} {s : FunD} (hs : ∀ cf fuel avs h K, s cf fuel avs h K → deepT (tabOf P) f cf fuel avs h K) : FunOne P f s :=
  fun B w0 cf fuel hcf avs h K hD => deep_one hmix f B w0 cf fuel hcf avs h K (hs cf fuel avs h K hD)

/-! ### shallow code as a function of a list of arguments -/
abbrev lnil (d : Prop) (l : List AV) : Prop := List.rec (motive := fun _ => Prop) d (fun _ _ _ => False) l
abbrev lcons (d : AV → List AV → Prop) (l : List AV) : Prop := List.rec (motive := fun _ => Prop) False (fun x l _ => d x l) l
theorem lnil_iff {d : Prop} {l : List AV} : lnil d l ↔ l = [] ∧ d := by cases l <;> simp [lnil]
theorem lcons_iff {d : AV → List AV → Prop} {l : List AV} : lcons d l ↔ ∃ x r, l = x :: r ∧ d x r := by
  cases l with
  | nil => simp [lcons]
  | cons x r => exact ⟨fun h => ⟨x, r, rfl, h⟩, fun ⟨_, _, e, h⟩ => by cases e; exact h⟩
abbrev S0 := CallK → Nat → Hp → (AV → Hp → Prop) → Prop
def ar0 (s : CallK → Nat → Hp → (AV → Hp → Prop) → Prop) : FunD := fun cf fuel l h K => lnil (s cf fuel h K) l
def ar1 (s : CallK → Nat → AV → Hp → (AV → Hp → Prop) → Prop) : FunD := fun cf fuel l h K => lcons (fun a l => lnil (s cf fuel a h K) l) l
def ar2 (s : CallK → Nat → AV → AV → Hp → (AV → Hp → Prop) → Prop) : FunD := fun cf fuel l h K => lcons (fun a l => lcons (fun b l => lnil (s cf fuel a b h K) l) l) l
def ar3 (s : CallK → Nat → AV → AV → AV → Hp → (AV → Hp → Prop) → Prop) : FunD := fun cf fuel l h K => lcons (fun a l => lcons (fun b l => lcons (fun c l => lnil (s cf fuel a b c h K) l) l) l) l
def ar4 (s : CallK → Nat → AV → AV → AV → AV → Hp → (AV → Hp → Prop) → Prop) : FunD := fun cf fuel l h K => lcons (fun a l => lcons (fun b l => lcons (fun c l => lcons (fun d l => lnil (s cf fuel a b c d h K) l) l) l) l) l
def ar5 (s : CallK → Nat → AV → AV → AV → AV → AV → Hp → (AV → Hp → Prop) → Prop) : FunD := fun cf fuel l h K => lcons (fun a l => lcons (fun b l => lcons (fun c l => lcons (fun d l => lcons (fun e l => lnil (s cf fuel a b c d e h K) l) l) l) l) l) l
def ar6 (s : CallK → Nat → AV → AV → AV → AV → AV → AV → Hp → (AV → Hp → Prop) → Prop) : FunD := fun cf fuel l h K => lcons (fun a l => lcons (fun b l => lcons (fun c l => lcons (fun d l => lcons (fun e l => lcons (fun f l => lnil (s cf fuel a b c d e f h K) l) l) l) l) l) l) l
section
variable (hmix : P.follows .mixedOrders = true) {f : FuncId}
include hmix
theorem ar0_one {s : CallK → Nat → Hp → (AV → Hp → Prop) → Prop} (hs : ∀ cf fuel h K, s cf fuel h K = deepT (tabOf P) f cf fuel [] h K) : FunOne P f (ar0 s) :=
  code_one hmix fun cf fuel l h K hD => by obtain ⟨rfl, hD⟩ := lnil_iff.1 hD; rw [← hs]; exact hD
theorem ar1_one {s : CallK → Nat → AV → Hp → (AV → Hp → Prop) → Prop} (hs : ∀ cf fuel a h K, s cf fuel a h K = deepT (tabOf P) f cf fuel [a] h K) : FunOne P f (ar1 s) :=
  code_one hmix fun cf fuel l h K hD => by
    obtain ⟨a, l, rfl, hD⟩ := lcons_iff.1 hD
    obtain ⟨rfl, hD⟩ := lnil_iff.1 hD; rw [← hs]; exact hD
theorem ar2_one {s : CallK → Nat → AV → AV → Hp → (AV → Hp → Prop) → Prop} (hs : ∀ cf fuel a b h K, s cf fuel a b h K = deepT (tabOf P) f cf fuel [a, b] h K) : FunOne P f (ar2 s) :=
  code_one hmix fun cf fuel l h K hD => by
    obtain ⟨a, l, rfl, hD⟩ := lcons_iff.1 hD
    obtain ⟨b, l, rfl, hD⟩ := lcons_iff.1 hD
    obtain ⟨rfl, hD⟩ := lnil_iff.1 hD; rw [← hs]; exact hD
theorem ar3_one {s : CallK → Nat → AV → AV → AV → Hp → (AV → Hp → Prop) → Prop} (hs : ∀ cf fuel a b c h K, s cf fuel a b c h K = deepT (tabOf P) f cf fuel [a, b, c] h K) : FunOne P f (ar3 s) :=
  code_one hmix fun cf fuel l h K hD => by
    obtain ⟨a, l, rfl, hD⟩ := lcons_iff.1 hD
    obtain ⟨b, l, rfl, hD⟩ := lcons_iff.1 hD
    obtain ⟨c, l, rfl, hD⟩ := lcons_iff.1 hD
    obtain ⟨rfl, hD⟩ := lnil_iff.1 hD; rw [← hs]; exact hD
theorem ar4_one {s : CallK → Nat → AV → AV → AV → AV → Hp → (AV → Hp → Prop) → Prop} (hs : ∀ cf fuel a b c d h K, s cf fuel a b c d h K = deepT (tabOf P) f cf fuel [a, b, c, d] h K) : FunOne P f (ar4 s) :=
  code_one hmix fun cf fuel l h K hD => by
    obtain ⟨a, l, rfl, hD⟩ := lcons_iff.1 hD
    obtain ⟨b, l, rfl, hD⟩ := lcons_iff.1 hD
    obtain ⟨c, l, rfl, hD⟩ := lcons_iff.1 hD
    obtain ⟨d, l, rfl, hD⟩ := lcons_iff.1 hD
    obtain ⟨rfl, hD⟩ := lnil_iff.1 hD; rw [← hs]; exact hD
theorem ar5_one {s : CallK → Nat → AV → AV → AV → AV → AV → Hp → (AV → Hp → Prop) → Prop} (hs : ∀ cf fuel a b c d e h K, s cf fuel a b c d e h K = deepT (tabOf P) f cf fuel [a, b, c, d, e] h K) : FunOne P f (ar5 s) :=
  code_one hmix fun cf fuel l h K hD => by
    obtain ⟨a, l, rfl, hD⟩ := lcons_iff.1 hD
    obtain ⟨b, l, rfl, hD⟩ := lcons_iff.1 hD
    obtain ⟨c, l, rfl, hD⟩ := lcons_iff.1 hD
    obtain ⟨d, l, rfl, hD⟩ := lcons_iff.1 hD
    obtain ⟨e, l, rfl, hD⟩ := lcons_iff.1 hD
    obtain ⟨rfl, hD⟩ := lnil_iff.1 hD; rw [← hs]; exact hD
theorem ar6_one {s : CallK → Nat → AV → AV → AV → AV → AV → AV → Hp → (AV → Hp → Prop) → Prop} (hs : ∀ cf fuel a b c d e g h K, s cf fuel a b c d e g h K = deepT (tabOf P) f cf fuel [a, b, c, d, e, g] h K) : FunOne P f (ar6 s) :=
  code_one hmix fun cf fuel l h K hD => by
    obtain ⟨a, l, rfl, hD⟩ := lcons_iff.1 hD
    obtain ⟨b, l, rfl, hD⟩ := lcons_iff.1 hD
    obtain ⟨c, l, rfl, hD⟩ := lcons_iff.1 hD
    obtain ⟨d, l, rfl, hD⟩ := lcons_iff.1 hD
    obtain ⟨e, l, rfl, hD⟩ := lcons_iff.1 hD
    obtain ⟨g, l, rfl, hD⟩ := lcons_iff.1 hD
    obtain ⟨rfl, hD⟩ := lnil_iff.1 hD; rw [← hs]; exact hD
end

/-! ### the table: rows of sixteen -/
abbrev Row := List (Option FunD)
noncomputable def nthF (l : Row) (f : Nat) : Option FunD := List.rec (motive := fun _ => Nat → Option FunD) (fun _ => none) (fun x _ ih i => Nat.rec (motive := fun _ => Option FunD) x (fun i _ => ih i) i) l f
noncomputable def nthL (l : List Row) (f : Nat) : Row := List.rec (motive := fun _ => Nat → Row) (fun _ => []) (fun x _ ih i => Nat.rec (motive := fun _ => Row) x (fun i _ => ih i) i) l f
noncomputable def tabF (l : List Row) (f : Nat) : Option FunD := nthF (nthL l (f / 16)) (f % 16)
def RowOK (P : Program) : Nat → Row → Prop
  | _, [] => True
  | b, none :: l => RowOK P (b + 1) l
  | b, some s :: l => FunOne P b s ∧ RowOK P (b + 1) l
def TabOK (P : Program) : Nat → List Row → Prop
  | _, [] => True
  | b, r :: l => RowOK P b r ∧ TabOK P (b + 16) l
theorem nthF_ok : ∀ (l : Row) (b i : Nat) (s : FunD), RowOK P b l → nthF l i = some s → FunOne P (b + i) s
  | [], b, i, s, _, e => by cases e
  | none :: l, b, 0, s, h, e => by cases e
  | some t :: l, b, 0, s, h, e => by
    have : some t = some s := e
    cases this
    exact h.1
  | none :: l, b, i + 1, s, h, e => by
    have := nthF_ok l (b + 1) i s h e
    rwa [show b + (i + 1) = b + 1 + i by omega]
  | some t :: l, b, i + 1, s, h, e => by
    have := nthF_ok l (b + 1) i s h.2 e
    rwa [show b + (i + 1) = b + 1 + i by omega]
theorem nthL_ok : ∀ (l : List Row) (b i : Nat), TabOK P b l → RowOK P (b + 16 * i) (nthL l i)
  | [], b, i, _ => trivial
  | r :: l, b, 0, h => h.1
  | r :: l, b, i + 1, h => by
    have := nthL_ok l (b + 16) i h.2
    rw [show b + 16 * (i + 1) = b + 16 + 16 * i by omega]
    exact this
def OvOK (P : Program) (ov : FuncId → Option FunD) : Prop := ∀ f s, ov f = some s → FunOne P f s
theorem tabF_ok {l : List Row} (h : TabOK P 0 l) : OvOK P (tabF l) := fun f s e => by
  have h1 := nthF_ok _ _ _ _ (nthL_ok l 0 (f / 16) h) e
  have h2 : 0 + 16 * (f / 16) + f % 16 = f := by rw [Nat.zero_add]; exact Nat.div_add_mod f 16
  rwa [h2] at h1

/-- Calls by the table, else by the made code. -/
def callT (ov : FuncId → Option FunD) (tab : FuncId → Option AFunc) (fuel : Nat) (n : Nat) : CallK := Nat.rec (motive := fun _ => CallK) (fun _ _ _ _ => False)
  (fun _ ih f args h K => Option.rec (motive := fun _ => Prop) (deepT tab f ih fuel args h K) (fun s => s ih fuel args h K) (ov f)) n
theorem callT_all (hmix : P.follows .mixedOrders = true) {ov : FuncId → Option FunD} (hov : OvOK P ov) (fuel : Nat) (B : Nat) : ∀ n (w0 : W0), CallOK P B w0 (callT ov (tabOf P) fuel n)
  | 0, w0 => fun f avs h K hD => hD.elim
  | n + 1, w0 => fun f avs h K hD => by
    have hD0 : Option.rec (motive := fun _ => Prop) (deepT (tabOf P) f (callT ov (tabOf P) fuel n) fuel avs h K) (fun s => s (callT ov (tabOf P) fuel n) fuel avs h K) (ov f) := hD
    cases hc : ov f with
    | some s =>
      rw [hc] at hD0
      exact hov f s hc B w0 _ fuel (callT_all hmix hov fuel B n) avs h K hD0
    | none =>
      rw [hc] at hD0
      exact deep_one hmix f B w0 _ fuel (callT_all hmix hov fuel B n) avs h K hD0
/-- The machine's contract for a call, by its own run. -/
theorem callT_one (hmix : P.follows .mixedOrders = true) {ov : FuncId → Option FunD} (hov : OvOK P ov) (fuel n : Nat) (f : FuncId) (B : Nat) (w0 : W0) : ConOne P B w0 f (fun avs h K => callT ov (tabOf P) fuel n f avs h K) :=
  fun avs h K hD => callT_all hmix hov fuel B n w0 f avs h K hD

/-- A call without arguments that the machine says comes to 'true'. -/
theorem tab_true (hmix : P.follows .mixedOrders = true) {ov : FuncId → Option FunD} (hov : OvOK P ov) (fuel n f : Nat) (h : callT ov (tabOf P) fuel n f [] ⟨E1.lf, 0⟩ (fun v _ => asBool v fun b => gd b True) = True) (w : World) :
    Calls P f #[] w fun e w' => e = .returned (.bool true) ∧ Below w.heap.size w w' := by
  have hs : Sim w.heap.size (W0.of w) (fun _ => none) ⟨E1.lf, 0⟩ w := ⟨Below.refl _ _, Nat.le_refl _, (fun o e he => by rw [E1.getP_lf] at he; cases he), (fun o _ e _ _ _ he => by rw [E1.getP_lf] at he; cases he), (fun o ki hk => by cases hk), (fun b ob hb => by cases hb), (fun o e ki he => by rw [E1.getP_lf] at he; cases he)⟩
  exact ((callT_all hmix hov fuel w.heap.size n (W0.of w)) f [] _ _ (of_eq_true h)).2 _ w [] hs rfl _ fun κ' av h' v w' h1 h2 h3 h4 => by
    obtain ⟨b, rfl, hb⟩ := asBool_iff.1 h4
    obtain ⟨hb, _⟩ := gd_iff.1 hb
    subst hb
    simp only [gam, Option.some.injEq] at h3
    exact ⟨by rw [← h3], h2.below⟩
/-- A call with arguments that point nowhere, of which the machine says that it comes to 'true'. -/
theorem tab_args (hmix : P.follows .mixedOrders = true) {ov : FuncId → Option FunD} (hov : OvOK P ov) (fuel n f : Nat) {avs : List AV} {args : List Value} (hargs : gams (fun _ => none) avs = some args)
    (h : callT ov (tabOf P) fuel n f avs ⟨E1.lf, 0⟩ (fun v _ => asBool v fun b => gd b True) = True) (w : World) :
    Calls P f args.toArray w fun e w' => e = .returned (.bool true) ∧ Below w.heap.size w w' := by
  have hs : Sim w.heap.size (W0.of w) (fun _ => none) ⟨E1.lf, 0⟩ w := ⟨Below.refl _ _, Nat.le_refl _, (fun o e he => by rw [E1.getP_lf] at he; cases he), (fun o _ e _ _ _ he => by rw [E1.getP_lf] at he; cases he), (fun o ki hk => by cases hk), (fun b ob hb => by cases hb), (fun o e ki he => by rw [E1.getP_lf] at he; cases he)⟩
  exact ((callT_all hmix hov fuel w.heap.size n (W0.of w)) f avs _ _ (of_eq_true h)).2 _ w args hs hargs _ fun κ' av h' v w' h1 h2 h3 h4 => by
    obtain ⟨b, rfl, hb⟩ := asBool_iff.1 h4
    obtain ⟨hb, _⟩ := gd_iff.1 hb
    subst hb
    simp only [gam, Option.some.injEq] at h3
    exact ⟨by rw [← h3], h2.below⟩
end Go.Am

namespace Go.Am
set_option linter.unusedSimpArgs false
set_option linter.unusedVariables false
open Go Go.RowKit
variable {P : Program}

/-- The machine says that the call comes to 'true'. -/
def TabArgs (P : Program) (ov : FuncId → Option FunD) (fuel n f : Nat) (avs : List AV) (next : Nat) : Prop := callT ov (tabOf P) fuel n f avs ⟨E1.lf, next⟩ fun v _ => asBool v fun b => gd b True
theorem tab_syms (hmix : P.follows .mixedOrders = true) {ov : FuncId → Option FunD} (hov : OvOK P ov) {fuel n f : Nat} {avs : List AV} {next : Nat} (h : TabArgs P ov fuel n f avs next) {κ : Kap} (hκ : ∀ o ki, κ o = some ki → o < next)
    {args : List Value} (ha : gams κ avs = some args) (w : World) :
    Calls P f args.toArray w fun e w' => e = .returned (.bool true) ∧ Below w.heap.size w w' := by
  have hs : Sim w.heap.size (W0.of w) κ ⟨E1.lf, next⟩ w := ⟨Below.refl _ _, Nat.le_refl _, (fun o e he => by rw [E1.getP_lf] at he; cases he), (fun o _ e _ _ _ he => by rw [E1.getP_lf] at he; cases he), hκ, (fun b ob hb => by cases hb), (fun o e ki he => by rw [E1.getP_lf] at he; cases he)⟩
  exact ((callT_all hmix hov fuel w.heap.size n (W0.of w)) f avs _ _ h).2 κ w args hs ha _ fun κ' av h' v w' h1 h2 h3 h4 => by
    obtain ⟨b, rfl, hb⟩ := asBool_iff.1 h4
    obtain ⟨hb, _⟩ := gd_iff.1 hb
    subst hb
    simp only [gam, Option.some.injEq] at h3
    exact ⟨by rw [← h3], h2.below⟩

/-- The symbols' numbers. -/
def symK (l : List Int) : Kap := fun o => (l[o]?).map fun v => ⟨(v + 9223372036854775808).toNat, 0, 0⟩
theorem symK_lt (l : List Int) (o : Nat) (ki : Ki) (h : symK l o = some ki) : o < l.length := by
  simp only [symK, Option.map_eq_some_iff] at h
  obtain ⟨v, h1, _⟩ := h
  exact (List.getElem?_eq_some_iff.1 h1).1
theorem num_of {v : Int} (h : -9223372036854775808 ≤ v) : (⟨(v + 9223372036854775808).toNat, 0, 0⟩ : Ki).num = v := by
  simp only [Ki.num]; omega
theorem symK_at {l : List Int} {i : Nat} {v : Int} (h : l[i]? = some v) : symK l i = some ⟨(v + 9223372036854775808).toNat, 0, 0⟩ := by simp [symK, h]
theorem gam_symK {l : List Int} {i : Nat} {v : Int} {k : IntKind} {F : Fx} (hF : okF (symK l) F = true) (h : l[i]? = some v) (hv : -9223372036854775808 ≤ v) : gam (symK l) (.sym k F i) = some (.int k v) := by
  simp only [gam, hF, if_true, symK_at h, Option.map_some, num_of hv]
theorem okB_of {l : List Int} {i : Nat} {v lo hi : Int} (h : l[i]? = some v) (hv : -9223372036854775808 ≤ v) (h1 : lo ≤ v) (h2 : v ≤ hi) : okB (symK l) (i, lo, hi) = true := by
  simp only [okB, symK_at h, num_of hv, Bool.and_eq_true, decide_eq_true_eq]; exact ⟨h1, h2⟩
theorem okR_lt {l : List Int} {i j : Nat} {v u : Int} (h : l[i]? = some v) (hj : l[j]? = some u) (hv : -9223372036854775808 ≤ v) (hu : -9223372036854775808 ≤ u) (h1 : v < u) : okR (symK l) (i, j, false) = true := by
  simp only [okR, symK_at h, symK_at hj, num_of hv, num_of hu, decide_eq_true_eq]; exact h1
theorem okR_eq {l : List Int} {i j : Nat} {v u : Int} (h : l[i]? = some v) (hj : l[j]? = some u) (hv : -9223372036854775808 ≤ v) (hu : -9223372036854775808 ≤ u) (h1 : v = u) : okR (symK l) (i, j, true) = true := by
  simp only [okR, symK_at h, symK_at hj, num_of hv, num_of hu, decide_eq_true_eq]; exact h1

end Go.Am

namespace Go.Am
set_option linter.unusedSimpArgs false
set_option linter.unusedVariables false
open Go Go.RowKit
variable {P : Program}

/-- A heap that holds the variable g alone: a pointer p under the type tp. -/
noncomputable def globHp (g tp p : Nat) : Hp := ⟨E1.updP (some ⟨false, 0, .row [.iface tp (.ptr p 0)]⟩) (npos g) .lf, p + 1⟩
theorem glob_true (hmix : P.follows .mixedOrders = true) {ov : FuncId → Option FunD} (hov : OvOK P ov) (fuel n f g tp p : Nat) (hgp : g < p) (h : callT ov (tabOf P) fuel n f [] (globHp g tp p) (fun v _ => asBool v fun b => gd b True) = True) (w : World) {a : Addr} {c : Array Value} {t : TypeId}
    (hb : w.heap[g]? = some (.cells c t (0, 0))) (hc : c[0]? = some (.iface tp (.pointer (some a)))) (ha : a.spot = none) :
    Calls P f #[] w fun e w' => e = .returned (.bool true) ∧ Below w.heap.size w w' := by
  let κ : Kap := fun o => if o = g then some ⟨g, 0, 0⟩ else if o = p then some ⟨a.block, a.off, 0⟩ else none
  have kg : κ g = some ⟨g, 0, 0⟩ := by simp [κ]
  have kp : κ p = some ⟨a.block, a.off, 0⟩ := by simp [κ, show p ≠ g by omega]
  have hlt : g < w.heap.size := (Array.getElem?_eq_some_iff.1 hb).1
  have hat : (⟨a.block, a.off, 0⟩ : Ki).at 0 = a := by
    cases a
    simp only at ha
    subst ha
    simp [Ki.at]
  have get : ∀ o e, (globHp g tp p).objs.getP (npos o) = some e → o = g ∧ e = ⟨false, 0, .row [.iface tp (.ptr p 0)]⟩ := by
    intro o e he
    by_cases hog : o = g
    · subst hog
      simp only [globHp, E1.getP_upd_self, Option.some.injEq] at he
      exact ⟨rfl, he.symm⟩
    · simp only [globHp] at he
      rw [E1.getP_upd_ne _ _ _ _ (fun e => hog (npos_inj e).symm), E1.getP_lf] at he
      cases he
  have hs : Sim w.heap.size (W0.of w) κ (globHp g tp p) w := by
    refine ⟨Below.refl _ _, Nat.le_refl _, fun o e he => ?_, fun o o' e e' ki ki' he he' _ _ h1 _ _ => ?_, fun o ki hk => ?_, (fun b ob hb => by cases hb), fun o e ki he hk ho => rfl⟩
    · obtain ⟨rfl, rfl⟩ := get o e he
      refine ⟨_, kg, (fun h => by cases h), fun _ => ⟨hlt, fun _ => ⟨rfl, rfl⟩⟩, ?_⟩
      refine ⟨c, t, (0, 0), hb, by simp, .inl rfl, fun j hj => ?_, fun j v hv => ?_⟩
      · have : j = 0 := by simp [sizeOfObj] at hj; omega
        subst this
        exact ⟨_, rfl⟩
      · have hj : j = 0 := by
          cases j with
          | zero => rfl
          | succ j => simp [cellAt, getL_eq] at hv
        subst hj
        simp only [cellAt, getL_eq, List.getElem?_cons_zero, Option.some.injEq] at hv
        subst hv
        exact ⟨.iface tp (.pointer (some a)), by simp [gam, kp, hat], rfl, by simpa using hc⟩
    · obtain ⟨_, rfl⟩ := get o e he
      cases h1
    · simp only [κ] at hk
      show o < p + 1
      split at hk
      · omega
      · split at hk
        · omega
        · cases hk
  exact ((callT_all hmix hov fuel w.heap.size n (W0.of w)) f [] _ _ (of_eq_true h)).2 κ w [] hs rfl _ fun κ' av h' v w' h1 h2 h3 h4 => by
    obtain ⟨b, rfl, hb⟩ := asBool_iff.1 h4
    obtain ⟨hb, _⟩ := gd_iff.1 hb
    subst hb
    simp only [gam, Option.some.injEq] at h3
    exact ⟨by rw [← h3], h2.below⟩

end Go.Am

