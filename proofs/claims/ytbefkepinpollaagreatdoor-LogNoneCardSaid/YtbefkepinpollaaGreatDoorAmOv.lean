/-
  Calls by a table: some functions by the code that was made of them, some by shallow code, some by a contract.
-/
import Derived.Test.YtbefkepinpollaaGreatDoorAmPost
namespace Go.Am
set_option linter.unusedSimpArgs false
set_option linter.unusedVariables false
open Go Go.RowKit
variable {P : Program}

/-- Code for a function that says of each call what is true. -/
def FunOne (P : Program) (f : FuncId) (s : FunD) : Prop :=
  ∀ (B : Nat) (w0 : W0) cf fuel, (∀ w0, CallOK P B w0 cf) → ∀ avs h K, s cf fuel avs h K → (∃ fn, P.funcs[f]? = some fn ∧ fn.name ≠ "runtime.NumGoroutine" ∧ fn.body.isSome = true) ∧
    ∀ κ w args, Sim B w0 κ h w → gams κ avs = some args → ∀ R : Ending → World → Prop,
      (∀ κ' av h' v w', κ.le κ' → Sim B w0 κ' h' w' → gam κ' av = some v → K av h' → R (.returned v) w') → Calls P f args.toArray w R

theorem deep_one (hmix : P.follows .mixedOrders = true) (f : FuncId) : FunOne P f (deepT (tabOf P) f) := by
  intro B w0 cf fuel hcf avs h K hD
  obtain ⟨af, haf, hD⟩ := asOpt_iff.1 (show asOpt (tabOf P f) fun af => argK avs 0 G1.lf fun fr => af.body cf fuel (endK af.res K) fr h from hD)
  simp only [tabOf, Option.bind_eq_some_iff] at haf
  obtain ⟨fn, hfn, haf⟩ := haf
  unfold compF at haf
  split at haf
  · rename_i c hname hbody
    simp only [Option.bind_eq_some_iff, Option.map_eq_some_iff] at haf
    obtain ⟨d, hd, r, hr, rfl⟩ := haf
    refine ⟨⟨fn, hfn, by simpa using hname, by simp [hbody]⟩, fun κ w args s hargs R hR => ?_⟩
    obtain ⟨t, hD, ht⟩ := argK_eq _ _ _ _ hD
    have hlen := gams_length _ _ hargs
    refine calls_of_wp hfn hbody (comp_ok hmix hcf c d hd fuel _ t h κ _ w _ hD s ⟨by simp; omega, rfl, fun j => ?_⟩ fun e κ' fr' h' a' w' b1 b2 b3 b4 => ?_)
    · have hg : getS t (gpos j) = (avs[j]?).getD undefV := by
        simp only [ht, Nat.zero_le, true_and, Nat.zero_add, Nat.sub_zero, getS_lf]
        by_cases hj : j < avs.length
        · rw [if_pos hj]
        · rw [if_neg hj, List.getElem?_eq_none (by omega)]; rfl
      rw [hg]
      by_cases hj : j < avs.length
      · obtain ⟨V, g1, g2⟩ := gams_get _ _ j _ hargs (List.getElem?_eq_getElem hj)
        rw [List.getElem?_eq_getElem hj]
        simp only [Option.getD_some, g1]
        have : (args.toArray ++ Array.replicate (fn.ntmps - args.toArray.size) undef)[j]? = some V := by
          rw [Array.getElem?_append_left (by simp; omega)]; simpa using g2
        simp only [List.size_toArray] at this
        simp [this]
      · rw [List.getElem?_eq_none (by omega)]
        simp only [Option.getD_none]
        have hb : (args.toArray ++ Array.replicate (fn.ntmps - args.toArray.size) undef).getD j undef = undef := by
          rw [Array.getD_eq_getD_getElem?, Array.getElem?_append_right (by simp; omega), Array.getElem?_replicate]
          split <;> rfl
        rw [hb]; rfl
    · have fin : ∀ {a : Act} {fr : Fr} {h : Hp} {κ' : Kap} {w : World}, κ.le κ' → Sim B w0 κ' h w → FrOK κ' fn.ntmps fr a → (ressK fr h r fun vs => K (tupOf vs) h) → a.defers = [] ∧ ∃ v, (results fn a.tmps).run P w = .ok v w ∧ R (.returned v) w := by
        intro a fr h κ' w c1 c2 c3 c4
        obtain ⟨avs, hk, hl, hrest⟩ := ressK_ok (B := B) (w0 := w0) _ _ hr fr h _ c4
        obtain ⟨vs, g1, g2⟩ := hrest κ' fn.ntmps w a c2 c3
        refine ⟨c3.defers, _, ?_, hR κ' _ h _ w c1 c2 (tupOf_gam g1) hk⟩
        unfold results
        rw [Array.mapM_eq_mapM_toList]
        have key : ∀ f : ResultVar → Sem Value, (∀ x, f x = resSem a x) → (List.mapM f fn.results.toList).run P w = .ok vs w := fun f hf => by rw [show f = resSem a from funext hf]; exact g2
        simp only [Sem.run_bind, Sem.run_map]
        rw [key _ (fun x => by cases x <;> rfl)]
        simp only [Result.andThen_ok, Sem.run_pure]
      cases e with
      | normal => exact fin b1 b2 b3 b4
      | exit id => exact b4.elim
      | ret => exact fin b1 b2 b3 b4
  · cases haf

/-- A contract in the place of code. -/
abbrev conF (c : ConD) : FunD := fun _ _ args h K => c args h K
theorem con_one {f : FuncId} {c : ConD} (hc : ∀ B w0, ConOne P B w0 f c) : FunOne P f (conF c) := fun B w0 _ _ _ avs h K hD => hc B w0 avs h K hD
/-- Code that comes to the made code. -/
theorem code_one (hmix : P.follows .mixedOrders = true) {f : FuncId} {s : FunD} (hs : ∀ cf fuel avs h K, s cf fuel avs h K → deepT (tabOf P) f cf fuel avs h K) : FunOne P f s :=
  fun B w0 cf fuel hcf avs h K hD => deep_one hmix f B w0 cf fuel hcf avs h K (hs cf fuel avs h K hD)

/-! ### shallow code as a function of a list of arguments -/
abbrev lnil (d : Prop) (l : List AV) : Prop := List.rec (motive := fun _ => Prop) d (fun _ _ _ => False) l
abbrev lcons (d : AV → List AV → Prop) (l : List AV) : Prop := List.rec (motive := fun _ => Prop) False (fun x l _ => d x l) l
theorem lnil_iff {d : Prop} {l : List AV} : lnil d l ↔ l = [] ∧ d := by cases l <;> simp [lnil]
theorem lcons_iff {d : AV → List AV → Prop} {l : List AV} : lcons d l ↔ ∃ x r, l = x :: r ∧ d x r := by
  cases l with
  | nil => simp [lcons]
  | cons x r => exact ⟨fun h => ⟨x, r, rfl, h⟩, fun ⟨_, _, e, h⟩ => by cases e; exact h⟩
abbrev S0 := CallK → Nat → Hp → (AV → Hp → Prop) → Prop
def ar0 (s : CallK → Nat → Hp → (AV → Hp → Prop) → Prop) : FunD := fun cf fuel l h K => lnil (s cf fuel h K) l
def ar1 (s : CallK → Nat → AV → Hp → (AV → Hp → Prop) → Prop) : FunD := fun cf fuel l h K => lcons (fun a l => lnil (s cf fuel a h K) l) l
def ar2 (s : CallK → Nat → AV → AV → Hp → (AV → Hp → Prop) → Prop) : FunD := fun cf fuel l h K => lcons (fun a l => lcons (fun b l => lnil (s cf fuel a b h K) l) l) l
def ar3 (s : CallK → Nat → AV → AV → AV → Hp → (AV → Hp → Prop) → Prop) : FunD := fun cf fuel l h K => lcons (fun a l => lcons (fun b l => lcons (fun c l => lnil (s cf fuel a b c h K) l) l) l) l
def ar4 (s : CallK → Nat → AV → AV → AV → AV → Hp → (AV → Hp → Prop) → Prop) : FunD := fun cf fuel l h K => lcons (fun a l => lcons (fun b l => lcons (fun c l => lcons (fun d l => lnil (s cf fuel a b c d h K) l) l) l) l) l
def ar5 (s : CallK → Nat → AV → AV → AV → AV → AV → Hp → (AV → Hp → Prop) → Prop) : FunD := fun cf fuel l h K => lcons (fun a l => lcons (fun b l => lcons (fun c l => lcons (fun d l => lcons (fun e l => lnil (s cf fuel a b c d e h K) l) l) l) l) l) l
def ar6 (s : CallK → Nat → AV → AV → AV → AV → AV → AV → Hp → (AV → Hp → Prop) → Prop) : FunD := fun cf fuel l h K => lcons (fun a l => lcons (fun b l => lcons (fun c l => lcons (fun d l => lcons (fun e l => lcons (fun f l => lnil (s cf fuel a b c d e f h K) l) l) l) l) l) l) l
section
variable (hmix : P.follows .mixedOrders = true) {f : FuncId}
include hmix
theorem ar0_one {s : CallK → Nat → Hp → (AV → Hp → Prop) → Prop} (hs : ∀ cf fuel h K, s cf fuel h K = deepT (tabOf P) f cf fuel [] h K) : FunOne P f (ar0 s) :=
  code_one hmix fun cf fuel l h K hD => by obtain ⟨rfl, hD⟩ := lnil_iff.1 hD; rw [← hs]; exact hD
theorem ar1_one {s : CallK → Nat → AV → Hp → (AV → Hp → Prop) → Prop} (hs : ∀ cf fuel a h K, s cf fuel a h K = deepT (tabOf P) f cf fuel [a] h K) : FunOne P f (ar1 s) :=
  code_one hmix fun cf fuel l h K hD => by
    obtain ⟨a, l, rfl, hD⟩ := lcons_iff.1 hD
    obtain ⟨rfl, hD⟩ := lnil_iff.1 hD; rw [← hs]; exact hD
theorem ar2_one {s : CallK → Nat → AV → AV → Hp → (AV → Hp → Prop) → Prop} (hs : ∀ cf fuel a b h K, s cf fuel a b h K = deepT (tabOf P) f cf fuel [a, b] h K) : FunOne P f (ar2 s) :=
  code_one hmix fun cf fuel l h K hD => by
    obtain ⟨a, l, rfl, hD⟩ := lcons_iff.1 hD
    obtain ⟨b, l, rfl, hD⟩ := lcons_iff.1 hD
    obtain ⟨rfl, hD⟩ := lnil_iff.1 hD; rw [← hs]; exact hD
theorem ar3_one {s : CallK → Nat → AV → AV → AV → Hp → (AV → Hp → Prop) → Prop} (hs : ∀ cf fuel a b c h K, s cf fuel a b c h K = deepT (tabOf P) f cf fuel [a, b, c] h K) : FunOne P f (ar3 s) :=
  code_one hmix fun cf fuel l h K hD => by
    obtain ⟨a, l, rfl, hD⟩ := lcons_iff.1 hD
    obtain ⟨b, l, rfl, hD⟩ := lcons_iff.1 hD
    obtain ⟨c, l, rfl, hD⟩ := lcons_iff.1 hD
    obtain ⟨rfl, hD⟩ := lnil_iff.1 hD; rw [← hs]; exact hD
theorem ar4_one {s : CallK → Nat → AV → AV → AV → AV → Hp → (AV → Hp → Prop) → Prop} (hs : ∀ cf fuel a b c d h K, s cf fuel a b c d h K = deepT (tabOf P) f cf fuel [a, b, c, d] h K) : FunOne P f (ar4 s) :=
  code_one hmix fun cf fuel l h K hD => by
    obtain ⟨a, l, rfl, hD⟩ := lcons_iff.1 hD
    obtain ⟨b, l, rfl, hD⟩ := lcons_iff.1 hD
    obtain ⟨c, l, rfl, hD⟩ := lcons_iff.1 hD
    obtain ⟨d, l, rfl, hD⟩ := lcons_iff.1 hD
    obtain ⟨rfl, hD⟩ := lnil_iff.1 hD; rw [← hs]; exact hD
theorem ar5_one {s : CallK → Nat → AV → AV → AV → AV → AV → Hp → (AV → Hp → Prop) → Prop} (hs : ∀ cf fuel a b c d e h K, s cf fuel a b c d e h K = deepT (tabOf P) f cf fuel [a, b, c, d, e] h K) : FunOne P f (ar5 s) :=
  code_one hmix fun cf fuel l h K hD => by
    obtain ⟨a, l, rfl, hD⟩ := lcons_iff.1 hD
    obtain ⟨b, l, rfl, hD⟩ := lcons_iff.1 hD
    obtain ⟨c, l, rfl, hD⟩ := lcons_iff.1 hD
    obtain ⟨d, l, rfl, hD⟩ := lcons_iff.1 hD
    obtain ⟨e, l, rfl, hD⟩ := lcons_iff.1 hD
    obtain ⟨rfl, hD⟩ := lnil_iff.1 hD; rw [← hs]; exact hD
theorem ar6_one {s : CallK → Nat → AV → AV → AV → AV → AV → AV → Hp → (AV → Hp → Prop) → Prop} (hs : ∀ cf fuel a b c d e g h K, s cf fuel a b c d e g h K = deepT (tabOf P) f cf fuel [a, b, c, d, e, g] h K) : FunOne P f (ar6 s) :=
  code_one hmix fun cf fuel l h K hD => by
    obtain ⟨a, l, rfl, hD⟩ := lcons_iff.1 hD
    obtain ⟨b, l, rfl, hD⟩ := lcons_iff.1 hD
    obtain ⟨c, l, rfl, hD⟩ := lcons_iff.1 hD
    obtain ⟨d, l, rfl, hD⟩ := lcons_iff.1 hD
    obtain ⟨e, l, rfl, hD⟩ := lcons_iff.1 hD
    obtain ⟨g, l, rfl, hD⟩ := lcons_iff.1 hD
    obtain ⟨rfl, hD⟩ := lnil_iff.1 hD; rw [← hs]; exact hD
end

/-! ### the table: rows of sixteen -/
abbrev Row := List (Option FunD)
noncomputable def nthF (l : Row) (f : Nat) : Option FunD := List.rec (motive := fun _ => Nat → Option FunD) (fun _ => none) (fun x _ ih i => Nat.rec (motive := fun _ => Option FunD) x (fun i _ => ih i) i) l f
noncomputable def nthL (l : List Row) (f : Nat) : Row := List.rec (motive := fun _ => Nat → Row) (fun _ => []) (fun x _ ih i => Nat.rec (motive := fun _ => Row) x (fun i _ => ih i) i) l f
noncomputable def tabF (l : List Row) (f : Nat) : Option FunD := nthF (nthL l (f / 16)) (f % 16)
def RowOK (P : Program) : Nat → Row → Prop
  | _, [] => True
  | b, none :: l => RowOK P (b + 1) l
  | b, some s :: l => FunOne P b s ∧ RowOK P (b + 1) l
def TabOK (P : Program) : Nat → List Row → Prop
  | _, [] => True
  | b, r :: l => RowOK P b r ∧ TabOK P (b + 16) l
theorem nthF_ok : ∀ (l : Row) (b i : Nat) (s : FunD), RowOK P b l → nthF l i = some s → FunOne P (b + i) s
  | [], b, i, s, _, e => by cases e
  | none :: l, b, 0, s, h, e => by cases e
  | some t :: l, b, 0, s, h, e => by
    have : some t = some s := e
    cases this
    exact h.1
  | none :: l, b, i + 1, s, h, e => by
    have := nthF_ok l (b + 1) i s h e
    rwa [show b + (i + 1) = b + 1 + i by omega]
  | some t :: l, b, i + 1, s, h, e => by
    have := nthF_ok l (b + 1) i s h.2 e
    rwa [show b + (i + 1) = b + 1 + i by omega]
theorem nthL_ok : ∀ (l : List Row) (b i : Nat), TabOK P b l → RowOK P (b + 16 * i) (nthL l i)
  | [], b, i, _ => trivial
  | r :: l, b, 0, h => h.1
  | r :: l, b, i + 1, h => by
    have := nthL_ok l (b + 16) i h.2
    rw [show b + 16 * (i + 1) = b + 16 + 16 * i by omega]
    exact this
def OvOK (P : Program) (ov : FuncId → Option FunD) : Prop := ∀ f s, ov f = some s → FunOne P f s
theorem tabF_ok {l : List Row} (h : TabOK P 0 l) : OvOK P (tabF l) := fun f s e => by
  have h1 := nthF_ok _ _ _ _ (nthL_ok l 0 (f / 16) h) e
  have h2 : 0 + 16 * (f / 16) + f % 16 = f := by rw [Nat.zero_add]; exact Nat.div_add_mod f 16
  rwa [h2] at h1

/-- Calls by the table, else by the made code. -/
def callT (ov : FuncId → Option FunD) (tab : FuncId → Option AFunc) (fuel : Nat) (n : Nat) : CallK := Nat.rec (motive := fun _ => CallK) (fun _ _ _ _ => False)
  (fun _ ih f args h K => Option.rec (motive := fun _ => Prop) (deepT tab f ih fuel args h K) (fun s => s ih fuel args h K) (ov f)) n
theorem callT_all (hmix : P.follows .mixedOrders = true) {ov : FuncId → Option FunD} (hov : OvOK P ov) (fuel : Nat) (B : Nat) : ∀ n (w0 : W0), CallOK P B w0 (callT ov (tabOf P) fuel n)
  | 0, w0 => fun f avs h K hD => hD.elim
  | n + 1, w0 => fun f avs h K hD => by
    have hD0 : Option.rec (motive := fun _ => Prop) (deepT (tabOf P) f (callT ov (tabOf P) fuel n) fuel avs h K) (fun s => s (callT ov (tabOf P) fuel n) fuel avs h K) (ov f) := hD
    cases hc : ov f with
    | some s =>
      rw [hc] at hD0
      exact hov f s hc B w0 _ fuel (callT_all hmix hov fuel B n) avs h K hD0
    | none =>
      rw [hc] at hD0
      exact deep_one hmix f B w0 _ fuel (callT_all hmix hov fuel B n) avs h K hD0
/-- The machine's contract for a call, by its own run. -/
theorem callT_one (hmix : P.follows .mixedOrders = true) {ov : FuncId → Option FunD} (hov : OvOK P ov) (fuel n : Nat) (f : FuncId) (B : Nat) (w0 : W0) : ConOne P B w0 f (fun avs h K => callT ov (tabOf P) fuel n f avs h K) :=
  fun avs h K hD => callT_all hmix hov fuel B n w0 f avs h K hD

/-- A call without arguments that the machine says comes to 'true'. -/
theorem tab_true (hmix : P.follows .mixedOrders = true) {ov : FuncId → Option FunD} (hov : OvOK P ov) (fuel n f : Nat) (h : callT ov (tabOf P) fuel n f [] ⟨E1.lf, 0⟩ (fun v _ => asBool v fun b => gd b True) = True) (w : World) :
    Calls P f #[] w fun e w' => e = .returned (.bool true) ∧ Below w.heap.size w w' := by
  have hs : Sim w.heap.size (W0.of w) (fun _ => none) ⟨E1.lf, 0⟩ w := ⟨Below.refl _ _, Nat.le_refl _, (fun o e he => by rw [E1.getP_lf] at he; cases he), (fun o _ e _ _ _ he => by rw [E1.getP_lf] at he; cases he), (fun o ki hk => by cases hk), (fun b ob hb => by cases hb), (fun o e ki he => by rw [E1.getP_lf] at he; cases he)⟩
  exact ((callT_all hmix hov fuel w.heap.size n (W0.of w)) f [] _ _ (of_eq_true h)).2 _ w [] hs rfl _ fun κ' av h' v w' h1 h2 h3 h4 => by
    obtain ⟨b, rfl, hb⟩ := asBool_iff.1 h4
    obtain ⟨hb, _⟩ := gd_iff.1 hb
    subst hb
    simp only [gam, Option.some.injEq] at h3
    exact ⟨by rw [← h3], h2.below⟩
end Go.Am
