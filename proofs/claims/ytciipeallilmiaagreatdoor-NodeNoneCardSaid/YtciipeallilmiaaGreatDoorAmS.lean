/-
  Parts of the abstract machine and its use, joined: AmCon AmSym AmStep AmMake AmMake2 AmOwn AmSort. No condition.
-/
import Derived.Test.YtciipeallilmiaaGreatDoorAmC
import Derived.Shelf.SlSortCmp.NoneTotal
namespace Go.Am
set_option linter.unusedSimpArgs false
set_option linter.unusedVariables false
open Go Go.RowKit
variable {P : Program}

/-! ### the heap, as a map -/
noncomputable def Hp.at (h : Hp) (o : Nat) : Option Ent := h.objs.getP (npos o)
noncomputable def Hp.new (h : Hp) (e : Ent) : Hp := ⟨E1.updP (some e) (npos h.next) h.objs, h.next + 1⟩
noncomputable def Hp.put (h : Hp) (o : Nat) (e : Option Ent) : Hp := ⟨E1.updP e (npos o) h.objs, h.next⟩
theorem Hp.next_new (h : Hp) (e : Ent) : (h.new e).next = h.next + 1 := rfl
theorem Hp.next_put (h : Hp) (o : Nat) (e : Option Ent) : (h.put o e).next = h.next := rfl
theorem Hp.at_new (h : Hp) (e : Ent) (o : Nat) : (h.new e).at o = if o = h.next then some e else h.at o := by
  unfold Hp.at Hp.new
  split
  · rename_i q; subst q; exact E1.getP_upd_self _ _ _
  · rename_i q; exact E1.getP_upd_ne _ _ _ _ (fun e => q (npos_inj e).symm)
theorem Hp.at_put (h : Hp) (o : Nat) (e : Option Ent) (p : Nat) : (h.put o e).at p = if p = o then e else h.at p := by
  unfold Hp.at Hp.put
  split
  · rename_i q; subst q; exact E1.getP_upd_self _ _ _
  · rename_i q; exact E1.getP_upd_ne _ _ _ _ (fun e => q (npos_inj e).symm)
theorem newK_eq' (h : Hp) (e : Ent) (k : Nat → Hp → Prop) : newK h e k = k h.next (h.new e) := by
  simp only [newK, E1.updPK_eq, forceN_eq, Hp.new]
theorem putK_eq' (h : Hp) (o : Nat) (e : Option Ent) (k : Hp → Prop) : putK h o e k = k (h.put o e) := by
  simp only [putK, E1.updPK_eq, Hp.put]

/-- All that is there stays. -/
structure Ext (h h' : Hp) : Prop where
  next : h.next ≤ h'.next
  same : ∀ o, o < h.next → h'.at o = h.at o
theorem Ext.refl (h : Hp) : Ext h h := ⟨Nat.le_refl _, fun _ _ => rfl⟩
theorem Ext.trans {a b c : Hp} (h : Ext a b) (k : Ext b c) : Ext a c := ⟨Nat.le_trans h.next k.next, fun o ho => by rw [k.same o (Nat.lt_of_lt_of_le ho h.next), h.same o ho]⟩
theorem Ext.new {a b : Hp} (h : Ext a b) (e : Ent) : Ext a (b.new e) := ⟨Nat.le_succ_of_le h.next, fun o ho => by
  rw [Hp.at_new, if_neg (by have := h.next; omega), h.same o ho]⟩
theorem Ext.put {a b : Hp} (h : Ext a b) {o : Nat} (e : Option Ent) (ho : a.next ≤ o) : Ext a (b.put o e) := ⟨h.next, fun p hp => by
  rw [Hp.at_put, if_neg (by omega), h.same p hp]⟩

/-! ### contracts in a row -/
noncomputable def lookC : List (Nat × ConD) → FuncId → Option ConD
  | [], _ => none
  | p :: l, f => (match Nat.beq p.1 f with | true => some p.2 | false => lookC l f)
theorem con_nil : ConOK P (lookC []) := fun f c h => by cases h
theorem con_cons {L : List (Nat × ConD)} {f : Nat} {c : ConD} (h : ConOK P (lookC L)) (h1 : ∀ B w0, ConOne P B w0 f c) : ConOK P (lookC ((f, c) :: L)) := fun g d hd => by
  unfold lookC at hd
  cases hb : Nat.beq (f, c).1 g with
  | true =>
    rw [hb] at hd
    have := Nat.eq_of_beq_eq_true hb
    cases hd
    subst this
    exact h1
  | false => rw [hb] at hd; exact h g d hd

/-- The meaning of calls where all that is called has a contract. -/
noncomputable def cfn (P : Program) (con : FuncId → Option ConD) (fuel : Nat) : CallK := callN con (tabOf P) fuel 1
theorem cfn_con {con : FuncId → Option ConD} {fuel : Nat} {f : FuncId} {c : ConD} (h : con f = some c) : cfn P con fuel f = c := by
  funext args h' K
  show Option.rec (motive := fun _ => Prop) _ (fun c => c args h' K) (con f) = _
  rw [h]

/-- A function's contract by its code. -/
theorem one_code (hmix : P.follows .mixedOrders = true) {con : FuncId → Option ConD} (hcon : ConOK P con) {f : FuncId} (hf : con f = none) {c : ConD}
    (H : ∀ avs h K, c avs h K → ∃ fuel, deepT (tabOf P) f (cfn P con fuel) fuel avs h K) (B : Nat) (w0 : W0) : ConOne P B w0 f c := by
  intro avs h K hc
  obtain ⟨fuel, hD⟩ := H avs h K hc
  have : callN con (tabOf P) fuel 2 f avs h K := by
    show Option.rec (motive := fun _ => Prop) (asOpt (tabOf P f) fun af => argK avs 0 G1.lf fun fr => af.body (callN con (tabOf P) fuel 1) fuel (endK af.res K) fr h) (fun c => c avs h K) (con f)
    rw [hf]
    exact hD
  exact callN_ok hmix hcon fuel 2 f avs h K this

/-! ### functions that leave nothing behind -/
mutual
/-- All of which a value speaks was there. -/
def oldV (h : Hp) : AV → Prop
  | .bool _ | .int _ _ | .str _ _ | .nilptr | .nilslice | .nilmap | .nilfunc | .niliface => True
  | .ptr o _ => (h.at o).isSome = true
  | .slice o _ _ _ _ => (h.at o).isSome = true
  | .map o => (h.at o).isSome = true
  | .iface _ v => oldV h v
  | .agg l => oldVs h l
  | .tup l => oldVs h l
  | _ => False
def oldVs (h : Hp) : List AV → Prop
  | [] => True
  | v :: l => oldV h v ∧ oldVs h l
end
theorem kap_back {B : Nat} {w0 : W0} {κ κ' : Kap} {h : Hp} {w : World} (s : Sim B w0 κ h w) (hk : κ.le κ') {o : Nat} (ho : (h.at o).isSome = true) : κ' o = κ o := by
  obtain ⟨e, he⟩ := Option.isSome_iff_exists.1 ho
  obtain ⟨ki, h1, _⟩ := s.obj o e he
  rw [h1, hk o ki h1]
mutual
theorem gam_back {B : Nat} {w0 : W0} {κ κ' : Kap} {h : Hp} {w : World} (s : Sim B w0 κ h w) (hk : κ.le κ') : ∀ (v : AV), oldV h v → gam κ' v = gam κ v
  | .bool _, _ => by simp [gam]
  | .int _ _, _ => by simp [gam]
  | .str _ _, _ => by simp [gam]
  | .nilptr, _ => by simp [gam]
  | .nilslice, _ => by simp [gam]
  | .nilmap, _ => by simp [gam]
  | .nilfunc, _ => by simp [gam]
  | .niliface, _ => by simp [gam]
  | .ptr o f, hv => by simp only [gam, kap_back s hk (show (h.at o).isSome = true from by simpa [oldV] using hv)]
  | .slice o a b c d, hv => by simp only [gam, kap_back s hk (show (h.at o).isSome = true from by simpa [oldV] using hv)]
  | .map o, hv => by simp only [gam, kap_back s hk (show (h.at o).isSome = true from by simpa [oldV] using hv)]
  | .iface t v, hv => by simp only [gam, gam_back s hk v (by simpa [oldV] using hv)]
  | .agg l, hv => by simp only [gam, gams_back s hk l (by simpa [oldV] using hv)]
  | .tup l, hv => by simp only [gam, gams_back s hk l (by simpa [oldV] using hv)]
  | .sliceE _ _ _ _, hv => by simp [oldV] at hv
  | .func _ _ _, hv => by simp [oldV] at hv
  | .sym _ _ _, hv => by simp [oldV] at hv
  | .gptr _, hv => by simp [oldV] at hv
  | .sliceZ _, hv => by simp [oldV] at hv
theorem gams_back {B : Nat} {w0 : W0} {κ κ' : Kap} {h : Hp} {w : World} (s : Sim B w0 κ h w) (hk : κ.le κ') : ∀ (l : List AV), oldVs h l → gams κ' l = gams κ l
  | [], _ => by simp [gams]
  | v :: l, hv => by
    obtain ⟨h1, h2⟩ : oldV h v ∧ oldVs h l := by simpa [oldVs] using hv
    simp only [gams, gam_back s hk v h1, gams_back s hk l h2]
end

theorem gamE_back {κ κ' : Kap} (hk : κ.le κ') : ∀ (es : List (AV × AV × Nat)) (x y : List MapEntry), gamE κ es = some x → gamE κ' es = some y → x = y := fun es x y hx hy => by
  have := gamE_mono hk es x hx
  rw [hy] at this
  exact (Option.some.inj this).symm
theorem RowSim.back {κ κ' : Kap} (hk : κ.le κ') {ob : AObj} {esz : Nat} {ki : Ki} {o o' : Option Obj} (h : RowSim κ ob esz ki o) (h' : RowSim κ' ob esz ki o') : RowSim κ ob esz ki o' := by
  obtain ⟨c, t, fr, h1, h2, h3, h4, h5⟩ := h'
  obtain ⟨c0, t0, fr0, a1, a2, a3, a4, a5⟩ := h
  refine ⟨c, t, fr, h1, h2, h3, h4, fun j v hv => ?_⟩
  obtain ⟨v', g1, g2, g3⟩ := h5 j v hv
  obtain ⟨v0, b1, b2, b3⟩ := a5 j v hv
  have := gam_mono hk v v0 b1
  rw [g1] at this
  cases this
  exact ⟨v', b1, g2, g3⟩
theorem ObjSim.back {κ κ' : Kap} (hk : κ.le κ') {ob : AObj} {esz : Nat} {ki : Ki} {o o' : Option Obj} (h : ObjSim κ ob esz ki o) (h' : ObjSim κ' ob esz ki o') : ObjSim κ ob esz ki o' := by
  cases ob with
  | row cs => exact RowSim.back hk h h'
  | big n t d => exact RowSim.back hk h h'
  | byts n x => exact RowSim.back hk h h'
  | map es clock =>
    obtain ⟨es1, h1, h2⟩ := h
    obtain ⟨es2, h3, h4⟩ := h'
    have := gamE_back hk es _ _ h2 h4
    subst this
    exact ⟨_, h3, h2⟩
  | sit n x pos => exact h'
  | mit m since seen st =>
    obtain ⟨h0, h1, h2⟩ := h
    obtain ⟨k0, k1, k2⟩ := h'
    refine ⟨k0, h1, ?_⟩
    rw [k2]
    cases m with
    | none => rfl
    | some p =>
      have := h1 p rfl
      cases hq : κ p with
      | none => simp [hq] at this
      | some ki => simp [hk p ki hq, hq]
/-- What was made is forgotten. -/
theorem Sim.back {B : Nat} {w0 : W0} {κ κ' : Kap} {h h' : Hp} {w w' : World} (s : Sim B w0 κ h w) (s' : Sim B w0 κ' h' w') (hk : κ.le κ') (he : ∀ o e, h.at o = some e → h'.at o = some e) : Sim B w0 κ h w' := by
  refine ⟨s'.below, s'.size, fun o e ho => ?_, s.apart, s.fresh, s'.ghost, s.gap⟩
  obtain ⟨ki, h1, h2, h3, h4⟩ := s.obj o e ho
  obtain ⟨ki', k1, _, _, k4⟩ := s'.obj o e (he o e ho)
  rw [hk o ki h1] at k1
  cases k1
  exact ⟨ki, h1, h2, h3, h4.back hk k4⟩

/-- .. of a function that leaves nothing behind: its code comes to one value, whatever it makes on its way. -/
theorem one_pure (hmix : P.follows .mixedOrders = true) {con : FuncId → Option ConD} (hcon : ConOK P con) {f : FuncId} (hf : con f = none) {c : ConD}
    (H : ∀ avs h K, c avs h K → ∃ v, oldV h v ∧ K v h ∧ ∃ fuel, ∀ K', (∀ h', Ext h h' → K' v h') → deepT (tabOf P) f (cfn P con fuel) fuel avs h K') (B : Nat) (w0 : W0) : ConOne P B w0 f c := by
  intro avs h K hc
  obtain ⟨v, ho, hK, fuel, hD⟩ := H avs h K hc
  have h2 := hD (fun v' h' => v' = v ∧ Ext h h') (fun h' hx => ⟨rfl, hx⟩)
  have : callN con (tabOf P) fuel 2 f avs h (fun v' h' => v' = v ∧ Ext h h') := by
    show Option.rec (motive := fun _ => Prop) (asOpt (tabOf P f) fun af => argK avs 0 G1.lf fun fr => af.body (callN con (tabOf P) fuel 1) fuel (endK af.res (fun v' h' => v' = v ∧ Ext h h')) fr h) (fun c => c avs h (fun v' h' => v' = v ∧ Ext h h')) (con f)
    rw [hf]
    exact h2
  obtain ⟨hfn, hrun⟩ := callN_ok (B := B) (w0 := w0) hmix hcon fuel 2 f avs h _ this
  refine ⟨hfn, fun κ w args s hargs R hR => hrun κ w args s hargs R fun κ' av h' V w' k1 k2 k3 ⟨k4, k5⟩ => ?_⟩
  subst k4
  refine hR κ av h V w' κ.le_refl (s.back k2 k1 fun o e he => ?_) (by rw [← gam_back s k1 av ho]; exact k3) hK
  obtain ⟨ki, h1, _⟩ := s.obj o e he
  rw [k5.same o (s.fresh o ki h1), he]

/-- .. of a function without arguments that was run by itself. -/
def trueC : ConD := fun args h K => args = [] ∧ K (.bool true) h
theorem one_true (hmix : P.follows .mixedOrders = true) {con : FuncId → Option ConD} (hcon : ConOK P con) (fuel n f : Nat) (h : RunsTrue P con fuel n f = True) (B : Nat) (w0 : W0) : ConOne P B w0 f trueC := by
  intro avs hp K ⟨e, hK⟩
  subst e
  have hr : callN con (tabOf P) fuel n f [] ⟨E1.lf, 0⟩ fun v _ => asBool v fun b => gd b True := of_eq_true h
  refine ⟨(callN_ok (B := 0) (w0 := w0) hmix hcon fuel n f [] _ _ hr).1, fun κ w args s hargs R hR => ?_⟩
  simp only [gams, Option.some.injEq] at hargs
  subst hargs
  refine (closed_true hmix hcon fuel n f hr w).mono fun e w' ⟨he, hb⟩ => ?_
  subst he
  refine hR κ (.bool true) hp _ w' κ.le_refl ?_ (by simp [gam]) hK
  have same : ∀ (b : Nat) (ob : Obj), w.heap[b]? = some ob → w'.heap[b]? = some ob := fun b ob hb' => by
    rw [hb.block b (Array.getElem?_eq_some_iff.1 hb').1]; exact hb'
  refine ⟨s.below.trans (hb.mono s.size), Nat.le_trans s.size hb.size, fun o e he => ?_, s.apart, s.fresh, fun b ob hb' => ⟨(s.ghost b ob hb').1, same _ _ (s.ghost b ob hb').2⟩, s.gap⟩
  obtain ⟨ki, h1, h2, h3, h4⟩ := s.obj o e he
  obtain ⟨y, hy⟩ := Option.isSome_iff_exists.1 h4.isSome
  refine ⟨ki, h1, h2, h3, ?_⟩
  rw [same _ _ hy, ← hy]; exact h4
/-- .. of one at arguments that are written out, that was run by itself. -/
def RunsTo (P : Program) (con : FuncId → Option ConD) (fuel n f : Nat) (avs : List AV) (V : AV) : Prop := callN con (tabOf P) fuel n f avs ⟨E1.lf, 0⟩ fun v _ => gd (sameV v V) True
mutual
def litV : AV → Bool
  | .bool _ | .int _ _ | .str _ _ | .nilptr | .nilslice | .nilmap | .niliface => true
  | .agg l => litVs l
  | .tup l => litVs l
  | _ => false
def litVs : List AV → Bool
  | [] => true
  | v :: l => litV v && litVs l
end
mutual
theorem lit_gam (κ κ' : Kap) : ∀ (v : AV), litV v = true → gam κ v = gam κ' v
  | .bool _, _ => by simp [gam]
  | .int _ _, _ => by simp [gam]
  | .str _ _, _ => by simp [gam]
  | .nilptr, _ => by simp [gam]
  | .nilslice, _ => by simp [gam]
  | .nilmap, _ => by simp [gam]
  | .niliface, _ => by simp [gam]
  | .agg l, h => by simp only [gam, lits_gam κ κ' l (by simpa [litV] using h)]
  | .tup l, h => by simp only [gam, lits_gam κ κ' l (by simpa [litV] using h)]
  | .ptr _ _, h => by simp [litV] at h
  | .slice _ _ _ _ _, h => by simp [litV] at h
  | .sliceE _ _ _ _, h => by simp [litV] at h
  | .map _, h => by simp [litV] at h
  | .func _ _ _, h => by simp [litV] at h
  | .nilfunc, h => by simp [litV] at h
  | .iface _ _, h => by simp [litV] at h
  | .sym _ _ _, h => by simp [litV] at h
  | .gptr _, h => by simp [litV] at h
  | .sliceZ _, h => by simp [litV] at h
theorem lits_gam (κ κ' : Kap) : ∀ (l : List AV), litVs l = true → gams κ l = gams κ' l
  | [], _ => by simp [gams]
  | v :: l, h => by
    simp only [litVs, Bool.and_eq_true] at h
    simp only [gams, lit_gam κ κ' v h.1, lits_gam κ κ' l h.2]
end
def toC (avs : List AV) (V : AV) : ConD := fun args h K => args = avs ∧ K V h
theorem one_to (hmix : P.follows .mixedOrders = true) {con : FuncId → Option ConD} (hcon : ConOK P con) (fuel n f : Nat) (avs : List AV) (V : AV) (hl : litVs avs = true) (hV : litV V = true) (h : RunsTo P con fuel n f avs V = True) (B : Nat) (w0 : W0) : ConOne P B w0 f (toC avs V) := by
  intro avs' hp K ⟨e, hK⟩
  subst e
  have hr : callN con (tabOf P) fuel n f avs' ⟨E1.lf, 0⟩ fun v _ => gd (sameV v V) True := of_eq_true h
  refine ⟨(callN_ok (B := 0) (w0 := w0) hmix hcon fuel n f avs' _ _ hr).1, fun κ w args s hargs R hR => ?_⟩
  have hs : Sim w.heap.size (W0.of w) (fun _ => none) ⟨E1.lf, 0⟩ w := ⟨Below.refl _ _, Nat.le_refl _, (fun o e he => by rw [E1.getP_lf] at he; cases he), (fun o _ e _ _ _ he => by rw [E1.getP_lf] at he; cases he), (fun o ki hk => by cases hk), (fun b ob hb => by cases hb), (fun o e ki he => by rw [E1.getP_lf] at he; cases he)⟩
  refine (callN_ok (B := w.heap.size) (w0 := W0.of w) hmix hcon fuel n f avs' _ _ hr).2 (fun _ => none) w args hs (by rw [lits_gam _ κ _ hl]; exact hargs) R fun κ' av h' v w' h1 h2 h3 h4 => ?_
  obtain ⟨h5, _⟩ := gd_iff.1 h4
  have := sameV_eq h5
  subst this
  have hb : Below w.heap.size w w' := h2.below
  refine hR κ av hp _ w' κ.le_refl ?_ (by rw [lit_gam κ κ' _ hV]; exact h3) hK
  have same : ∀ (b : Nat) (ob : Obj), w.heap[b]? = some ob → w'.heap[b]? = some ob := fun b ob hb' => by
    rw [hb.block b (Array.getElem?_eq_some_iff.1 hb').1]; exact hb'
  refine ⟨s.below.trans (hb.mono s.size), Nat.le_trans s.size hb.size, fun o e he => ?_, s.apart, s.fresh, fun b ob hb' => ⟨(s.ghost b ob hb').1, same _ _ (s.ghost b ob hb').2⟩, s.gap⟩
  obtain ⟨ki, h1, h2, h3, h4⟩ := s.obj o e he
  obtain ⟨y, hy⟩ := Option.isSome_iff_exists.1 h4.isSome
  refine ⟨ki, h1, h2, h3, ?_⟩
  rw [same _ _ hy, ← hy]; exact h4
end Go.Am

namespace Go.Am
set_option linter.unusedSimpArgs false
set_option linter.unusedVariables false
open Go Go.RowKit

attribute [simp] Hp.next_new Hp.next_put Hp.at_new Hp.at_put List.getElem?_cons_zero List.getElem?_cons_succ

/-- A string, by its bytes. -/
def S (l : List UInt8) : AV := .str l.length (packL l)
theorem S_of {n x : Nat} (h : x < 256 ^ n) : AV.str n x = S (bytesL n x) := by
  have h1 : bytesL (bytesL n x).length (packL (bytesL n x)) = bytesL n x := bytesL_pack _
  have h2 := bytesL_inj (packL_lt (bytesL n x)) h h1
  unfold S
  rw [h2.1, h2.2]
theorem S_inj {a b : List UInt8} : S a = S b ↔ a = b := by
  constructor
  · intro h
    simp only [S, AV.str.injEq] at h
    have := bytesL_pack a
    rw [h.1, h.2, bytesL_pack] at this
    exact this.symm
  · rintro rfl; rfl
@[simp] theorem S_nil : AV.str 0 0 = S [] := rfl

/-! ### plumbing -/
/-- A branch. The simplifier looks at the test alone. -/
def ifP (c A B : Prop) : Prop := (c ∧ A) ∨ (¬ c ∧ B)
theorem ifP_pos {c : Prop} (h : c) (A B : Prop) : ifP c A B = A := by simp [ifP, h]
theorem ifP_neg {c : Prop} (h : ¬ c) (A B : Prop) : ifP c A B = B := by simp [ifP, h]
@[simp ↓] theorem ifP_true (A B : Prop) : ifP True A B = A := ifP_pos trivial A B
@[simp ↓] theorem ifP_false (A B : Prop) : ifP False A B = B := ifP_neg id A B
@[congr] theorem ifP_first {c c' : Prop} (e : c = c') (A B : Prop) : ifP c A B = ifP c' A B := by rw [e]
theorem ifP_split {c A B : Prop} (h1 : c → A) (h2 : ¬ c → B) : ifP c A B := by
  by_cases h : c
  · rw [ifP_pos h]; exact h1 h
  · rw [ifP_neg h]; exact h2 h
@[simp ↓] theorem asOpt_some {α : Type} (x : α) (k : α → Prop) : asOpt (some x) k = k x := rfl
@[simp ↓] theorem asOpt_none {α : Type} (k : α → Prop) : asOpt none k = False := rfl
@[simp ↓] theorem gd_true (A : Prop) : gd true A = A := rfl
@[simp ↓] theorem gd_false (A : Prop) : gd false A = False := rfl
theorem gd_eq (b : Bool) (A : Prop) : gd b A = (b = true ∧ A) := propext gd_iff
theorem joinG_eq (f : (AV → Hp → Prop) → Prop) (k : AV → Hp → Prop) : joinG f k = f k := rfl
theorem joinP_eq (f : Prop → Prop) (k : Prop) : joinP f k = f k := rfl
@[simp ↓] theorem joinG_tt (A B : (AV → Hp → Prop) → Prop) (k : AV → Hp → Prop) : joinG (fun k => grdV (.bool true) true (A k) (B k)) k = A k := rfl
@[simp ↓] theorem joinG_ff (A B : (AV → Hp → Prop) → Prop) (k : AV → Hp → Prop) : joinG (fun k => grdV (.bool false) false (A k) (B k)) k = A k := rfl
@[simp ↓] theorem joinG_tf (A B : (AV → Hp → Prop) → Prop) (k : AV → Hp → Prop) : joinG (fun k => grdV (.bool true) false (A k) (B k)) k = B k := rfl
@[simp ↓] theorem joinG_ft (A B : (AV → Hp → Prop) → Prop) (k : AV → Hp → Prop) : joinG (fun k => grdV (.bool false) true (A k) (B k)) k = B k := rfl
@[simp ↓] theorem joinG_u (w : Bool) (A B : (AV → Hp → Prop) → Prop) (k : AV → Hp → Prop) : joinG (fun k => grdV undefV w (A k) (B k)) k = B k := rfl
@[simp ↓] theorem joinP_tt (A B : Prop → Prop) (k : Prop) : joinP (fun k => grdV (.bool true) true (A k) (B k)) k = A k := rfl
@[simp ↓] theorem joinP_ff (A B : Prop → Prop) (k : Prop) : joinP (fun k => grdV (.bool false) false (A k) (B k)) k = A k := rfl
@[simp ↓] theorem joinP_tf (A B : Prop → Prop) (k : Prop) : joinP (fun k => grdV (.bool true) false (A k) (B k)) k = B k := rfl
@[simp ↓] theorem joinP_ft (A B : Prop → Prop) (k : Prop) : joinP (fun k => grdV (.bool false) true (A k) (B k)) k = B k := rfl
@[simp ↓] theorem joinP_u (w : Bool) (A B : Prop → Prop) (k : Prop) : joinP (fun k => grdV undefV w (A k) (B k)) k = B k := rfl
theorem joinG_split {b w : Bool} {A B : (AV → Hp → Prop) → Prop} {k : AV → Hp → Prop} (h1 : b = true → joinG (fun k => grdV (.bool true) w (A k) (B k)) k) (h2 : b = false → joinG (fun k => grdV (.bool false) w (A k) (B k)) k) : joinG (fun k => grdV (.bool b) w (A k) (B k)) k := by
  cases b
  · exact h2 rfl
  · exact h1 rfl
theorem joinP_split {b w : Bool} {A B : Prop → Prop} {k : Prop} (h1 : b = true → joinP (fun k => grdV (.bool true) w (A k) (B k)) k) (h2 : b = false → joinP (fun k => grdV (.bool false) w (A k) (B k)) k) : joinP (fun k => grdV (.bool b) w (A k) (B k)) k := by
  cases b
  · exact h2 rfl
  · exact h1 rfl
theorem rec_if (b : Bool) (A B : Prop) : Bool.rec (motive := fun _ => Prop) B A b = ifP (b = true) A B := by cases b <;> simp
@[simp ↓] theorem vIf_t (A B : Prop) : vIf (.bool true) A B = A := rfl
@[simp ↓] theorem vIf_f (A B : Prop) : vIf (.bool false) A B = B := rfl
theorem vIf_split {b : Bool} {A B : Prop} (h1 : b = true → A) (h2 : b = false → B) : vIf (.bool b) A B := by
  cases b
  · exact h2 rfl
  · exact h1 rfl
@[simp ↓] theorem vMov_eq (x : AV) (h : Hp) (K : AV → Hp → Prop) : vMov x h K = K x h := rfl
@[simp ↓] theorem vPick_t (x y : AV) (h : Hp) (K : AV → Hp → Prop) : vPick (.bool true) x y h K = K x h := rfl
@[simp ↓] theorem vPick_f (x y : AV) (h : Hp) (K : AV → Hp → Prop) : vPick (.bool false) x y h K = K y h := rfl
@[simp ↓] theorem vNot_b (b : Bool) (h : Hp) (K : AV → Hp → Prop) : vNot (.bool b) h K = K (.bool (!b)) h := by cases b <;> rfl
theorem mkI_eq (k : IntKind) (n : Int) (K : AV → Prop) : mkI k n K = K (.int k n) := by rw [mkI, forceI_eq]
theorem mkB_eq (b : Bool) (K : AV → Prop) : mkB b K = K (.bool b) := by cases b <;> rfl
theorem leI_eq (a b : Int) : leI a b = decide (a ≤ b) := by rw [Bool.eq_iff_iff, leI_iff]; simp
theorem eqI_eq' (a b : Int) : eqI a b = decide (a = b) := by rw [Bool.eq_iff_iff, eqI_iff]; simp
theorem kindEq_self (k : IntKind) : kindEq k k = true := kindEq_iff.2 rfl

/-! ### whole numbers -/
theorem twoI_eq (k : IntKind) (a b : Int) (f : IntKind → Int → Int → Prop) : twoI (.int k a) (.int k b) f = f k a b := by
  show gd (kindEq k k) (f k a b) = _
  rw [kindEq_self]; rfl
theorem two_int (k : IntKind) (a b : Int) (f : IntKind → Int → Int → Prop) (g : Nat → Nat → Nat → Nat → Prop) : two (.int k a) (.int k b) f g = f k a b := by
  show gd (kindEq k k) (f k a b) = _
  rw [kindEq_self]; rfl
theorem two_str (n x m y : Nat) (f : IntKind → Int → Int → Prop) (g : Nat → Nat → Nat → Nat → Prop) : two (.str n x) (.str m y) f g = g n x m y := rfl
@[simp ↓] theorem vAdd_int (k : IntKind) (a b : Int) (h : Hp) (K : AV → Hp → Prop) : vAdd (.int k a) (.int k b) h K = K (.int k (k.wrap (a + b))) h := by
  simp only [vAdd, two_int, mkI_eq, wrapF_eq, addI_eq]
@[simp ↓] theorem vSub_int (k : IntKind) (a b : Int) (h : Hp) (K : AV → Hp → Prop) : vArith subI (.int k a) (.int k b) h K = K (.int k (k.wrap (a - b))) h := by
  simp only [vArith, twoI_eq, mkI_eq, wrapF_eq, subI_eq]
@[simp ↓] theorem vMul_int (k : IntKind) (a b : Int) (h : Hp) (K : AV → Hp → Prop) : vArith mulI (.int k a) (.int k b) h K = K (.int k (k.wrap (a * b))) h := by
  simp only [vArith, twoI_eq, mkI_eq, wrapF_eq, mulI_eq]
@[simp ↓] theorem vDiv_int (k : IntKind) (a b : Int) (hb : b ≠ 0) (h : Hp) (K : AV → Hp → Prop) : vDiv false (.int k a) (.int k b) h K = K (.int k (k.wrap (a.tdiv b))) h := by
  simp only [vDiv, twoI_eq, mkI_eq, wrapF_eq, eqI_eq', hb, decide_false, Bool.not_false, gd_true]
@[simp ↓] theorem vRem_int (k : IntKind) (a b : Int) (hb : b ≠ 0) (h : Hp) (K : AV → Hp → Prop) : vDiv true (.int k a) (.int k b) h K = K (.int k (a.tmod b)) h := by
  simp only [vDiv, twoI_eq, mkI_eq, wrapF_eq, eqI_eq', hb, decide_false, Bool.not_false, gd_true]
@[simp ↓] theorem vNeg_int (k : IntKind) (a : Int) (h : Hp) (K : AV → Hp → Prop) : vNeg (.int k a) h K = K (.int k (k.wrap (-a))) h := by
  show mkI k (wrapF k (0 - a)) (fun v => K v h) = _
  rw [mkI_eq, wrapF_eq, Int.zero_sub]
@[simp ↓] theorem vToInt_int (k k' : IntKind) (a : Int) (h : Hp) (K : AV → Hp → Prop) : vToInt k' (.int k a) h K = K (.int k' (k'.wrap a)) h := by
  show mkI k' (wrapF k' a) (fun v => K v h) = _
  rw [mkI_eq, wrapF_eq]
@[simp ↓] theorem vMin_int (k k' : IntKind) (a b : Int) (h : Hp) (K : AV → Hp → Prop) : vMin false (.int k a) (.int k' b) h K = K (.int k (min a b)) h := by
  show Bool.rec (motive := fun _ => Prop) (K (.int k b) h) (K (.int k a) h) (leI a b) = _
  rw [rec_if, leI_eq]
  by_cases hab : a ≤ b
  · simp only [hab, decide_true, ifP_true, Int.min_eq_left hab]
  · simp only [hab, decide_false, Bool.false_eq_true, ifP_false, Int.min_eq_right (Int.le_of_lt (Int.not_le.1 hab))]
@[simp ↓] theorem vMax_int (k k' : IntKind) (a b : Int) (h : Hp) (K : AV → Hp → Prop) : vMin true (.int k a) (.int k' b) h K = K (.int k (max a b)) h := by
  show Bool.rec (motive := fun _ => Prop) (K (.int k b) h) (K (.int k a) h) (leI b a) = _
  rw [rec_if, leI_eq]
  by_cases hab : b ≤ a
  · simp only [hab, decide_true, ifP_true, Int.max_eq_left hab]
  · simp only [hab, decide_false, Bool.false_eq_true, ifP_false, Int.max_eq_right (Int.le_of_lt (Int.not_le.1 hab))]
theorem vCmp2_int (ro : Od → Bool) (fi : Int → Int → Bool) (fs : Nat → Nat → Nat → Nat → Bool) (k : IntKind) (a b : Int) (h : Hp) (K : AV → Hp → Prop) : vCmp2 ro fi fs (.int k a) (.int k b) h K = K (.bool (fi a b)) h := by
  show vCmp fi fs (.int k a) (.int k b) h K = _
  simp only [vCmp, two_int, mkB_eq]
theorem vCmp2_str (ro : Od → Bool) (fi : Int → Int → Bool) (fs : Nat → Nat → Nat → Nat → Bool) (n x m y : Nat) (h : Hp) (K : AV → Hp → Prop) : vCmp2 ro fi fs (.str n x) (.str m y) h K = K (.bool (fs n x m y)) h := by
  show vCmp fi fs (.str n x) (.str m y) h K = _
  simp only [vCmp, two_str, mkB_eq]
@[simp ↓] theorem vLss_int (k : IntKind) (a b : Int) (h : Hp) (K : AV → Hp → Prop) : vLss (.int k a) (.int k b) h K = K (.bool (decide (a < b))) h := by
  rw [vLss, vCmp2_int, leI_eq]
  congr 2
  by_cases q : a < b <;> simp [q] <;> omega
@[simp ↓] theorem vGtr_int (k : IntKind) (a b : Int) (h : Hp) (K : AV → Hp → Prop) : vGtr (.int k a) (.int k b) h K = K (.bool (decide (b < a))) h := by
  rw [vGtr, vCmp2_int, leI_eq]
  congr 2
  by_cases q : b < a <;> simp [q] <;> omega
@[simp ↓] theorem vLeq_int (k : IntKind) (a b : Int) (h : Hp) (K : AV → Hp → Prop) : vLeq (.int k a) (.int k b) h K = K (.bool (decide (a ≤ b))) h := by
  rw [vLeq, vCmp2_int, leI_eq]
@[simp ↓] theorem vGeq_int (k : IntKind) (a b : Int) (h : Hp) (K : AV → Hp → Prop) : vGeq (.int k a) (.int k b) h K = K (.bool (decide (b ≤ a))) h := by
  rw [vGeq, vCmp2_int, leI_eq]
@[simp ↓] theorem vEql_int (k : IntKind) (a b : Int) (h : Hp) (K : AV → Hp → Prop) : vEql (.int k a) (.int k b) h K = K (.bool (decide (a = b))) h := by
  rw [vEql, vCmp2_int, eqI_eq']
@[simp ↓] theorem vNeq_int (k : IntKind) (a b : Int) (h : Hp) (K : AV → Hp → Prop) : vNeq (.int k a) (.int k b) h K = K (.bool (!(decide (a = b)))) h := by
  rw [vNeq, vCmp2_int, eqI_eq']

/-! ### .. that do not overflow -/
theorem wrap64_in {n : Int} (h1 : -9223372036854775808 ≤ n) (h2 : n ≤ 9223372036854775807) : IntKind.i64.wrap n = n := by
  have := wrapF_eq .i64 n
  rw [← this]
  cases n with
  | ofNat m =>
    show Bool.rec (motive := fun _ => Int) (IntKind.i64.wrap (.ofNat m)) (.ofNat m) (Nat.ble m 9223372036854775807) = _
    rw [Nat.ble_eq_true_of_le (by simp at h2; omega)]
  | negSucc m =>
    show Bool.rec (motive := fun _ => Int) (IntKind.i64.wrap (.negSucc m)) (.negSucc m) (Nat.blt (kcode .i64) 4 && Nat.ble m 9223372036854775807) = _
    rw [Nat.ble_eq_true_of_le (by omega)]
    rfl
@[simp ↓ high] theorem vAdd_in (a b : Int) (h1 : -9223372036854775808 ≤ a + b) (h2 : a + b ≤ 9223372036854775807) (h : Hp) (K : AV → Hp → Prop) : vAdd (.int .i64 a) (.int .i64 b) h K = K (.int .i64 (a + b)) h := by
  rw [vAdd_int, wrap64_in h1 h2]
@[simp ↓ high] theorem vSub_in (a b : Int) (h1 : -9223372036854775808 ≤ a - b) (h2 : a - b ≤ 9223372036854775807) (h : Hp) (K : AV → Hp → Prop) : vArith subI (.int .i64 a) (.int .i64 b) h K = K (.int .i64 (a - b)) h := by
  rw [vSub_int, wrap64_in h1 h2]
@[simp ↓ high] theorem vMul_in (a b : Int) (h1 : -9223372036854775808 ≤ a * b) (h2 : a * b ≤ 9223372036854775807) (h : Hp) (K : AV → Hp → Prop) : vArith mulI (.int .i64 a) (.int .i64 b) h K = K (.int .i64 (a * b)) h := by
  rw [vMul_int, wrap64_in h1 h2]
@[simp ↓ high] theorem vToInt_in (k : IntKind) (a : Int) (h1 : -9223372036854775808 ≤ a) (h2 : a ≤ 9223372036854775807) (h : Hp) (K : AV → Hp → Prop) : vToInt .i64 (.int k a) h K = K (.int .i64 a) h := by
  rw [vToInt_int, wrap64_in h1 h2]

/-! ### strings -/
theorem eqS_S (a b : List UInt8) : eqS a.length (packL a) b.length (packL b) = decide (a = b) := by
  rw [Bool.eq_iff_iff]
  simp only [eqS, Bool.and_eq_true, Nat.beq_eq, decide_eq_true_eq]
  rw [← S_inj]
  simp only [S, AV.str.injEq]
@[simp ↓] theorem vEql_S (a b : List UInt8) (h : Hp) (K : AV → Hp → Prop) : vEql (S a) (S b) h K = K (.bool (decide (a = b))) h := by
  rw [vEql, S, S, vCmp2_str, eqS_S]
@[simp ↓] theorem vNeq_S (a b : List UInt8) (h : Hp) (K : AV → Hp → Prop) : vNeq (S a) (S b) h K = K (.bool (!(decide (a = b)))) h := by
  rw [vNeq, S, S, vCmp2_str, eqS_S]
@[simp ↓] theorem vLss_S (a b : List UInt8) (h : Hp) (K : AV → Hp → Prop) : vLss (S a) (S b) h K = K (.bool (Op.bytesLess a b)) h := by
  rw [vLss, S, S, vCmp2_str, ltS_eq _ _ _ _ _ (Nat.le_refl _), bytesL_pack, bytesL_pack]
@[simp ↓] theorem vLenS_S (l : List UInt8) (h : Hp) (K : AV → Hp → Prop) : vLenS (S l) h K = K (.int .i64 l.length) h := rfl
theorem packL_app (a b : List UInt8) : packL (a ++ b) = packL a + packL b <<< (8 * a.length) := by
  have h1 := bytesL_join (packL a) (packL b) a.length b.length (packL_lt a)
  rw [bytesL_pack, bytesL_pack] at h1
  have h2 : bytesL (a ++ b).length (packL (a ++ b)) = a ++ b := bytesL_pack _
  rw [← h1] at h2
  have hlt : packL a + packL b <<< (8 * a.length) < 256 ^ (a.length + b.length) := join_lt _ _ _ _ (packL_lt a) (packL_lt b)
  have h3 := bytesL_inj (by rw [h1]; exact packL_lt (a ++ b)) hlt h2
  rw [h1] at h3
  exact h3.2
@[simp ↓] theorem vAdd_S (a b : List UInt8) (hab : a.length + b.length ≤ 9223372036854775807) (h : Hp) (K : AV → Hp → Prop) : vAdd (S a) (S b) h K = K (S (a ++ b)) h := by
  show gd (Nat.ble (a.length + b.length) 9223372036854775807) (forceN (a.length + b.length) fun l => forceN (packL a + packL b <<< (8 * a.length)) fun z => K (.str l z) h) = _
  rw [Nat.ble_eq_true_of_le hab]
  simp only [gd_true, forceN_eq, S, List.length_append, packL_app]
theorem byteAt_S (l : List UInt8) (i : Nat) (hi : i < l.length) : byteAt (packL l) i = (l[i]'hi).toNat := by
  have h1 := bytesL_get l.length (packL l) i
  rw [bytesL_pack, if_pos hi, List.getElem?_eq_getElem hi] at h1
  have h2 := congrArg UInt8.toNat (Option.some.inj h1)
  rw [h2]
  have : byteAt (packL l) i < 256 := Nat.mod_lt _ (by decide)
  simp [UInt8.toNat_ofNat']
  omega
theorem asNat_int (k : IntKind) (i : Int) (h : 0 ≤ i) (f : Nat → Prop) : asNat (.int k i) f = f i.toNat := by
  obtain ⟨m, rfl⟩ := Int.eq_ofNat_of_zero_le h
  rfl
@[simp ↓] theorem vIdxS_S (l : List UInt8) (k : IntKind) (i : Int) (h0 : 0 ≤ i) (h1 : i < l.length) (h : Hp) (K : AV → Hp → Prop) : vIdxS (S l) (.int k i) h K = K (.int .u8 ((l[i.toNat]'(by omega)).toNat : Int)) h := by
  show asNat (.int k i) (fun i => gd (Nat.blt i l.length) (forceN (byteAt (packL l) i) fun b => K (.int .u8 (.ofNat b)) h)) = _
  rw [asNat_int k i h0]
  have h2 : i.toNat < l.length := by omega
  have : Nat.blt i.toNat l.length = true := by simpa using h2
  rw [this]
  simp only [gd_true, forceN_eq, byteAt_S l i.toNat h2]
  rfl
theorem bndV_none (d m : Nat) (f : Nat → Prop) : bndV none d m f = f d := rfl
theorem bndV_some (k : IntKind) (i : Int) (d m : Nat) (f : Nat → Prop) (h0 : 0 ≤ i) (h1 : i ≤ m) : bndV (some (.int k i)) d m f = f i.toNat := by
  show asNat (.int k i) (fun n => gd (Nat.ble n m) (forceN n f)) = _
  rw [asNat_int k i h0, Nat.ble_eq_true_of_le (by omega)]
  simp only [gd_true, forceN_eq]
theorem cutS (l : List UInt8) (lo hi : Nat) (h1 : lo ≤ hi) (h2 : hi ≤ l.length) : AV.str (hi - lo) (cutB (packL l) lo (hi - lo)) = S ((l.take hi).drop lo) := by
  have h3 := bytesL_cut l.length (packL l) lo hi h1 h2
  rw [bytesL_pack] at h3
  have hlt : cutB (packL l) lo (hi - lo) < 256 ^ (hi - lo) := by
    unfold cutB
    rw [show (256 : Nat) = 2 ^ 8 by rfl, ← Nat.pow_mul]
    exact Nat.mod_lt _ (Nat.two_pow_pos _)
  rw [S_of hlt, h3]
@[simp ↓] theorem vSliceS_lh (l : List UInt8) (k k' : IntKind) (lo hi : Int) (h0 : 0 ≤ lo) (h1 : lo ≤ hi) (h2 : hi ≤ l.length) (h : Hp) (K : AV → Hp → Prop) : vSliceS (S l) (some (.int k lo)) (some (.int k' hi)) h K = K (S ((l.take hi.toNat).drop lo.toNat)) h := by
  show bndV (some (.int k' hi)) l.length l.length (fun hi => bndV (some (.int k lo)) 0 hi fun lo => forceN (hi - lo) fun n => forceN (cutB (packL l) lo n) fun z => K (.str n z) h) = _
  rw [bndV_some k' hi _ _ _ (by omega) h2, bndV_some k lo _ _ _ h0 (by omega)]
  simp only [forceN_eq]
  rw [cutS _ _ _ (by omega) (by omega)]
@[simp ↓] theorem vSliceS_h (l : List UInt8) (k' : IntKind) (hi : Int) (h1 : 0 ≤ hi) (h2 : hi ≤ l.length) (h : Hp) (K : AV → Hp → Prop) : vSliceS (S l) none (some (.int k' hi)) h K = K (S (l.take hi.toNat)) h := by
  show bndV (some (.int k' hi)) l.length l.length (fun hi => bndV none 0 hi fun lo => forceN (hi - lo) fun n => forceN (cutB (packL l) lo n) fun z => K (.str n z) h) = _
  rw [bndV_some k' hi _ _ _ (by omega) h2, bndV_none]
  simp only [forceN_eq]
  rw [cutS _ _ _ (by omega) (by omega)]
  simp
@[simp ↓] theorem vSliceS_l (l : List UInt8) (k : IntKind) (lo : Int) (h0 : 0 ≤ lo) (h1 : lo ≤ l.length) (h : Hp) (K : AV → Hp → Prop) : vSliceS (S l) (some (.int k lo)) none h K = K (S (l.drop lo.toNat)) h := by
  show bndV none l.length l.length (fun hi => bndV (some (.int k lo)) 0 hi fun lo => forceN (hi - lo) fun n => forceN (cutB (packL l) lo n) fun z => K (.str n z) h) = _
  rw [bndV_none, bndV_some k lo _ _ _ h0 (by omega)]
  simp only [forceN_eq]
  rw [cutS _ _ _ (by omega) (by omega)]
  simp

/-! ### bools -/
@[simp] theorem eqB_b (a b : Bool) : eqB (.bool a) (.bool b) = some (a == b) := by cases a <;> cases b <;> rfl
@[simp ↓] theorem vEq_f (f : AV → AV → Option Bool) (x y : AV) (h : Hp) (K : AV → Hp → Prop) : vEq false f x y h K = asOpt (f x y) fun b => K (.bool b) h := by
  unfold vEq; congr 1; funext b; exact mkB_eq _ _
@[simp ↓] theorem vEq_t (f : AV → AV → Option Bool) (x y : AV) (h : Hp) (K : AV → Hp → Prop) : vEq true f x y h K = asOpt (f x y) fun b => K (.bool (!b)) h := by
  unfold vEq; congr 1; funext b; exact mkB_eq _ _
@[simp] theorem eqNS_nil : eqNS .nilslice .nilslice = some true := rfl
@[simp] theorem eqNS_s (o off n : Nat) (kn : Bool) (c : Nat) : eqNS (.slice o off n kn c) .nilslice = some false := rfl
@[simp] theorem eqP_nil : eqP .nilptr .nilptr = some true := rfl
@[simp] theorem eqP_pn (o f : Nat) : eqP (.ptr o f) .nilptr = some false := rfl
theorem eqPair_I (a b c d : Int) : eqPair (.agg [.int .i64 a, .int .i64 b]) (.agg [.int .i64 c, .int .i64 d]) = some (decide (a = c) && decide (b = d)) := by
  simp only [eqPair, eqI_eq']
@[simp] theorem eqPairS_I (a b c d : Int) : eqPairS (.agg [.int .i64 a, .int .i64 b]) (.agg [.int .i64 c, .int .i64 d]) = some (decide (a = c) && decide (b = d)) := by
  have e : ∀ x y : Int, eqC (.int .i64 x) (.int .i64 y) = some (decide (x = y)) := by
    intro x y
    simp only [eqC, isI, Bool.and_self, ordS, kindEq_self, Option.bind_some]
    unfold ordII
    by_cases h : x = y
    · subst h; simp [eqI_eq']; rfl
    · simp only [eqI_eq', h, decide_false]
      cases leI x y <;> rfl
  simp only [eqPairS, isI, Bool.and_self, e, Option.bind_some]
  by_cases h : a = c <;> simp [h]

/-! ### structs, tuples -/
@[simp ↓] theorem vExtract_tup (i : Nat) (l : List AV) (h : Hp) (K : AV → Hp → Prop) : vExtract i (.tup l) h K = asOpt l[i]? fun v => K v h := by
  show asOpt (getL l i) (fun v => K v h) = _
  rw [getL_eq]
@[simp ↓] theorem vField_agg (i : Nat) (l : List AV) (h : Hp) (K : AV → Hp → Prop) : vField i (.agg l) h K = asOpt l[i]? fun v => K v h := by
  show asOpt (getL l i) (fun v => K v h) = _
  rw [getL_eq]
/-- n cells from 'off' on. -/
noncomputable def cellsO (ob : AObj) : Nat → Nat → Option (List AV)
  | 0, _ => some []
  | n + 1, off => (cellAt ob off).bind fun v => (cellsO ob n (off + 1)).map fun l => v :: l
theorem cellsK_O (ob : AObj) : ∀ (n off : Nat) (k : List AV → Prop), cellsK ob n off k = asOpt (cellsO ob n off) k
  | 0, off, k => rfl
  | n + 1, off, k => by
    rw [cellsK_succ, cellsO]
    cases cellAt ob off with
    | none => rfl
    | some v =>
      simp only [Option.bind_some]
      rw [cellsK_O ob n (off + 1)]
      cases cellsO ob n (off + 1) <;> rfl
@[simp] theorem cellAt_row' (cs : List AV) (j : Nat) : cellAt (.row cs) j = cs[j]? := by
  show getL cs j = _
  rw [getL_eq]
theorem cellsO_row (cs : List AV) : ∀ (n off : Nat), cellsO (.row cs) n off = if off + n ≤ cs.length then some ((cs.drop off).take n) else (if n = 0 then some [] else none)
  | 0, off => by simp [cellsO]
  | n + 1, off => by
    rw [cellsO, cellAt_row', cellsO_row cs n (off + 1)]
    by_cases h : off < cs.length
    · rw [List.getElem?_eq_getElem h]
      by_cases h2 : off + (n + 1) ≤ cs.length
      · rw [if_pos (by omega), if_pos h2]
        simp only [Option.bind_some, Option.map_some]
        rw [List.drop_eq_getElem_cons h, List.take_succ_cons]
      · rw [if_neg (by omega), if_neg h2]
        by_cases hn : n = 0
        · subst hn; omega
        · simp [hn]
    · rw [List.getElem?_eq_none (by omega), if_neg (by omega : ¬ off + (n + 1) ≤ cs.length)]
      simp
@[simp] theorem cellsO_row' (cs : List AV) (n off : Nat) (h : off + n ≤ cs.length) : cellsO (.row cs) n off = some ((cs.drop off).take n) := by rw [cellsO_row, if_pos h]
@[simp ↓] theorem vFieldA_agg (i n : Nat) (l : List AV) (h : Hp) (K : AV → Hp → Prop) : vFieldA i n (.agg l) h K = asOpt (cellsO (.row l) n i) fun l => K (.agg l) h := by
  show cellsK (.row l) n i (fun l => K (.agg l) h) = _
  rw [cellsK_O]
/-- A value's cells. -/
def cellsV : AV → Option (List AV)
  | .agg l => some l
  | .tup _ => none
  | v => some [v]
theorem asCells_V (v : AV) (k : List AV → Prop) : asCells v k = asOpt (cellsV v) k := by cases v <;> rfl
@[simp] theorem cellsV_agg (l : List AV) : cellsV (.agg l) = some l := rfl
@[simp] theorem cellsV_int (k : IntKind) (n : Int) : cellsV (.int k n) = some [.int k n] := rfl
@[simp] theorem cellsV_bool (b : Bool) : cellsV (.bool b) = some [.bool b] := rfl
@[simp] theorem cellsV_S (l : List UInt8) : cellsV (S l) = some [S l] := rfl
@[simp] theorem cellsV_ptr (o f : Nat) : cellsV (.ptr o f) = some [.ptr o f] := rfl
@[simp] theorem cellsV_nilptr : cellsV .nilptr = some [.nilptr] := rfl
@[simp] theorem cellsV_slice (o f n : Nat) (b : Bool) (c : Nat) : cellsV (.slice o f n b c) = some [.slice o f n b c] := rfl
@[simp] theorem cellsV_nilslice : cellsV .nilslice = some [.nilslice] := rfl
@[simp] theorem cellsV_map (o : Nat) : cellsV (.map o) = some [.map o] := rfl
/-- A part laid over the cells of a whole. -/
def setL (l : List AV) (off : Nat) (ps : List AV) : List AV := l.take off ++ ps ++ l.drop (off + ps.length)
theorem layAt_set : ∀ (l : List AV) (off : Nat) (ps : List AV), off + ps.length ≤ l.length → layAt l off ps = setL l off ps
  | [], off, ps, h => by
    have h1 : ps = [] := by
      cases ps with
      | nil => rfl
      | cons p ps => simp at h
    subst h1; simp [setL, layAt_nil]
  | x :: l, 0, [], h => by simp [setL, layAt_zero_nil]
  | x :: l, 0, p :: ps, h => by
    rw [layAt_zero_cons, layAt_set l 0 ps (by simp at h; omega)]
    simp [setL, Nat.add_comm]
  | x :: l, off + 1, ps, h => by
    rw [layAt_succ, layAt_set l off ps (by simp at h; omega)]
    simp [setL, Nat.add_right_comm]
theorem setL_length (l : List AV) (off : Nat) (ps : List AV) (h : off + ps.length ≤ l.length) : (setL l off ps).length = l.length := by
  simp [setL]; omega
@[simp] theorem setL_zero (l ps : List AV) (h : ps.length = l.length) : setL l 0 ps = ps := by simp [setL, h]
@[simp] theorem setL_cons0 (x y : AV) (l : List AV) : setL (x :: l) 0 [y] = y :: l := by simp [setL]
@[simp] theorem setL_succ (x : AV) (l ps : List AV) (k : Nat) : setL (x :: l) (k + 1) ps = x :: setL l k ps := by simp [setL, Nat.add_right_comm]
@[simp ↓] theorem fillV_nil (cs : List AV) (k : List AV → Prop) : fillV [] cs k = k cs := rfl
theorem fillV_cons (off n : Nat) (v : AV) (ps : List (Nat × Nat × AV)) (cs : List AV) (k : List AV → Prop) : fillV ((off, n, v) :: ps) cs k = asOpt (cellsV v) fun l => ifP (l.length = n ∧ off + n ≤ cs.length) (fillV ps (setL cs off l) k) False := by
  show asCells v (fun l => gd (Nat.beq l.length n && Nat.ble (off + n) cs.length) (fillV ps (layAt cs off l) k)) = _
  rw [asCells_V]
  congr 1
  funext l
  by_cases h : l.length = n ∧ off + n ≤ cs.length
  · rw [ifP_pos h, layAt_set _ _ _ (by omega)]
    have h1 : Nat.beq l.length n = true := by simp [h.1]
    rw [h1, Nat.ble_eq_true_of_le h.2]
    rfl
  · rw [ifP_neg h, gd_eq]
    refine propext ⟨fun ⟨q, _⟩ => ?_, False.elim⟩
    simp only [Bool.and_eq_true, Nat.beq_eq, Nat.ble_eq] at q
    exact h q
attribute [simp ↓] fillV_cons
@[simp ↓] theorem vBuild_eq (zero : List AV) (ps : List (Nat × Nat × AV)) (h : Hp) (K : AV → Hp → Prop) : vBuild zero ps h K = fillV ps zero fun cs => K (.agg cs) h := rfl

/-! ### the heap -/
theorem rowK_row (cs : List AV) (h : cs.length ≤ 24) (k : AObj → Prop) : rowK false cs k = k (.row cs) := by
  show Bool.rec (motive := fun _ => Prop) (trieK cs 0 V1.lf fun t => forceN cs.length fun n => k (.big n t [])) (k (.row cs)) (Nat.ble cs.length 24) = _
  rw [Nat.ble_eq_true_of_le h]
@[simp ↓] theorem vBox_eq (n : Nat) (x : AV) (h : Hp) (K : AV → Hp → Prop) : vBox n x h K = asOpt (cellsV x) fun l => ifP (l.length = n) (rowK false l fun ob => K (.ptr h.next 0) (h.new ⟨true, n, ob⟩)) False := by
  show asCells x (fun l => gd (Nat.beq l.length n) (rowK false l fun ob => newK h ⟨true, n, ob⟩ fun o h => K (.ptr o 0) h)) = _
  rw [asCells_V]
  congr 1
  funext l
  simp only [newK_eq']
  by_cases hl : l.length = n
  · rw [ifP_pos hl]; have : Nat.beq l.length n = true := by simp [hl]
    rw [this]; rfl
  · rw [ifP_neg hl]; have : Nat.beq l.length n = false := by
      cases q : Nat.beq l.length n with
      | false => rfl
      | true => exact absurd (Nat.eq_of_beq_eq_true q) hl
    rw [this]; rfl
attribute [simp ↓] rowK_row
@[simp ↓] theorem vLoad2_ptr (o off : Nat) (h : Hp) (K : AV → Hp → Prop) : vLoad2 (.ptr o off) h K = asOpt (h.at o) fun e => asOpt (cellAt e.obj off) fun v => K v h := rfl
@[simp ↓] theorem vLoad_ptr (o off : Nat) (h : Hp) (K : AV → Hp → Prop) : vLoad (.ptr o off) h K = asOpt (h.at o) fun e => asOpt (cellAt e.obj off) fun v => K v h := rfl
@[simp ↓] theorem vLoadA_ptr (n o off : Nat) (h : Hp) (K : AV → Hp → Prop) : vLoadA n (.ptr o off) h K = asOpt (h.at o) fun e => asOpt (cellsO e.obj n off) fun l => K (.agg l) h := by
  show asOpt (h.at o) (fun e => cellsK e.obj n off fun l => K (.agg l) h) = _
  simp only [cellsK_O]
@[simp ↓] theorem vFaddr_ptr (f o off : Nat) (h : Hp) (K : AV → Hp → Prop) : vFaddr f (.ptr o off) h K = K (.ptr o (off + f)) h := by
  show forceN (off + f) (fun off => K (.ptr o off) h) = _
  rw [forceN_eq]
/-- Some cells stored. -/
noncomputable def setO (ob : AObj) (off : Nat) (l : List AV) (k : AObj → Prop) : Prop := setCellsK l ob off k
theorem setO_row : ∀ (l cs : List AV) (off : Nat) (k : AObj → Prop), off + l.length ≤ cs.length → setO (.row cs) off l k = k (.row (setL cs off l))
  | [], cs, off, k, h => by simp [setO, setCellsK_nil, setL]
  | v :: l, cs, off, k, h => by
    unfold setO
    rw [setCellsK_cons]
    have hlt : Nat.blt off (sizeOfObj (.row cs)) = true := by
      show Nat.blt off cs.length = true
      simp at h; simp; omega
    rw [hlt]
    show setLK cs off v (fun cs => setCellsK l (.row cs) (off + 1) k) = _
    rw [setLK_eq]
    have := setO_row l (cs.set off v) (off + 1) k (by simp at h; simp; omega)
    unfold setO at this
    rw [this]
    congr 2
    simp only [setL]
    simp only [List.length_cons] at h
    rw [List.set_eq_take_append_cons_drop, if_pos (by omega)]
    have h1 : List.take (off + 1) (List.take off cs ++ v :: List.drop (off + 1) cs) = List.take off cs ++ [v] := by
      rw [List.take_append, List.length_take, Nat.min_eq_left (by omega), List.take_take, Nat.min_eq_right (by omega), show off + 1 - off = 1 by omega]
      rfl
    have h2 : List.drop (off + 1 + l.length) (List.take off cs ++ v :: List.drop (off + 1) cs) = List.drop (off + (l.length + 1)) cs := by
      rw [List.drop_append, List.length_take, Nat.min_eq_left (by omega), List.drop_eq_nil_of_le (by simp; omega), show off + 1 + l.length - off = l.length + 1 by omega]
      simp
      congr 1; omega
    rw [h1, h2]
    simp
attribute [simp ↓] setO_row
@[simp ↓] theorem vStore_ptr (n o off : Nat) (x : AV) (h : Hp) (K : AV → Hp → Prop) : vStore n (.ptr o off) x h K = asOpt (h.at o) fun e => asOpt (cellsV x) fun l => ifP (e.own = true ∧ l.length = n) (setO e.obj off l fun ob => K undefV (h.put o (some ⟨true, e.esz, ob⟩))) False := by
  show asOpt (h.at o) (fun e => asCells x fun l => gd (e.own && Nat.beq l.length n) (setCellsK l e.obj off fun ob => putK h o (some ⟨true, e.esz, ob⟩) fun h => K undefV h)) = _
  congr 1
  funext e
  rw [asCells_V]
  congr 1
  funext l
  simp only [putK_eq']
  by_cases hc : e.own = true ∧ l.length = n
  · rw [ifP_pos hc]
    have : (e.own && Nat.beq l.length n) = true := by simp [hc.1, hc.2]
    rw [this]; rfl
  · rw [ifP_neg hc, gd_eq]
    refine propext ⟨fun ⟨q, _⟩ => ?_, False.elim⟩
    simp only [Bool.and_eq_true, Nat.beq_eq] at q
    exact hc q

/-! ### rows of any length -/
/-- An object's cells. -/
def Cells (ob : AObj) (cs : List AV) : Prop := (match ob with | .row _ => True | .big _ _ _ => True | _ => False) ∧ sizeOfObj ob = cs.length ∧ ∀ j, cellAt ob j = cs[j]?
theorem Cells.row (cs : List AV) : Cells (.row cs) cs := ⟨trivial, rfl, fun j => cellAt_row' cs j⟩
theorem trieK_get : ∀ (l : List AV) (i : Nat) (t : V1) (k : V1 → Prop), (∀ t', (∀ j, t'.getP (fpos j) = if i ≤ j ∧ j < i + l.length then l[j - i]? else t.getP (fpos j)) → k t') → trieK l i t k
  | [], i, t, k, h => by
    rw [trieK_nil]
    exact h t fun j => by rw [if_neg (by simp)]
  | v :: l, i, t, k, h => by
    rw [trieK_cons, V1.updPK_eq]
    refine trieK_get l (i + 1) _ k fun t' ht' => h t' fun j => ?_
    rw [ht' j]
    by_cases h1 : i + 1 ≤ j ∧ j < i + 1 + l.length
    · rw [if_pos h1, if_pos (by simp; omega), show j - i = (j - (i + 1)) + 1 by omega, List.getElem?_cons_succ]
    · rw [if_neg h1]
      by_cases h2 : j = i
      · subst h2
        rw [V1.getP_upd_self, if_pos (by simp), Nat.sub_self, List.getElem?_cons_zero]
      · rw [V1.getP_upd_ne _ _ _ _ (fun e => h2 (fpos_inj e).symm), if_neg (by simp; omega)]
theorem cellAt_bigS (n : Nat) (t : V1) (d : List AV) (j : Nat) : cellAt (.big n t d) j = if j < n then (match t.getP (fpos j) with | some v => some v | none => getL d (j % d.length)) else none := by
  show Bool.rec (motive := fun _ => Option AV) none (Option.rec (motive := fun _ => Option AV) (getL d (j % d.length)) (fun v => some v) (t.getP (fpos j))) (Nat.blt j n) = _
  by_cases h : j < n
  · have : Nat.blt j n = true := by simpa using h
    rw [this, if_pos h]
    cases t.getP (fpos j) <;> rfl
  · have : Nat.blt j n = false := by
      cases q : Nat.blt j n with
      | false => rfl
      | true => exact absurd (by simpa using q) h
    rw [this, if_neg h]
theorem rowK_intro (cs : List AV) (k : AObj → Prop) (h : ∀ ob, Cells ob cs → k ob) : rowK false cs k := by
  show Bool.rec (motive := fun _ => Prop) (trieK cs 0 V1.lf fun t => forceN cs.length fun n => k (.big n t [])) (k (.row cs)) (Nat.ble cs.length 24)
  cases Nat.ble cs.length 24 with
  | true => exact h _ (Cells.row cs)
  | false =>
    refine trieK_get cs 0 _ _ fun t ht => ?_
    rw [forceN_eq]
    refine h _ ⟨trivial, rfl, fun j => ?_⟩
    rw [cellAt_bigS, ht j]
    simp only [Nat.zero_le, true_and, Nat.zero_add, Nat.sub_zero]
    by_cases hj : j < cs.length
    · rw [if_pos hj, if_pos hj, List.getElem?_eq_getElem hj]
    · rw [if_neg hj, List.getElem?_eq_none (by omega)]
theorem setCellK_intro {ob : AObj} {cs : List AV} (hc : Cells ob cs) {j : Nat} (hj : j < cs.length) (v : AV) (k : AObj → Prop) (h : ∀ ob', Cells ob' (cs.set j v) → k ob') : setCellK ob j v k := by
  obtain ⟨h0, h1, h2⟩ := hc
  cases ob with
  | row l =>
    show setLK l j v (fun cs => k (.row cs))
    rw [setLK_eq]
    refine h _ ?_
    have : l = cs := List.ext_getElem? fun i => by rw [← h2 i, cellAt_row']
    subst this
    exact Cells.row _
  | big n t d =>
    show V1.updPK (some v) (fpos j) t (fun t => k (.big n t d))
    rw [V1.updPK_eq]
    refine h _ ⟨trivial, by rw [List.length_set]; exact h1, fun i => ?_⟩
    have hn : n = cs.length := h1
    have h3 := h2 i
    rw [cellAt_bigS] at h3 ⊢
    rw [List.getElem?_set]
    by_cases hi : j = i
    · subst hi
      rw [V1.getP_upd_self, if_pos (by omega), if_pos rfl, if_pos hj]
    · rw [V1.getP_upd_ne _ _ _ _ (fun e => hi (fpos_inj e)), h3, if_neg hi]
  | byts n x => exact h0.elim
  | map es c => exact h0.elim
  | sit n x p => exact h0.elim
  | mit m s l c => exact h0.elim
theorem setO_intro : ∀ (l : List AV) {ob : AObj} {cs : List AV} (off : Nat) (k : AObj → Prop), Cells ob cs → off + l.length ≤ cs.length → (∀ ob', Cells ob' (setL cs off l) → k ob') → setO ob off l k
  | [], ob, cs, off, k, hc, hl, h => by
    refine h ob ?_
    simpa [setL] using hc
  | v :: l, ob, cs, off, k, hc, hl, h => by
    unfold setO
    rw [setCellsK_cons]
    simp only [List.length_cons] at hl
    have hlt : Nat.blt off (sizeOfObj ob) = true := by rw [hc.2.1]; simp; omega
    rw [hlt]
    refine setCellK_intro hc (by omega) v _ fun ob1 hc1 => ?_
    refine setO_intro l (off + 1) k hc1 (by simp; omega) fun ob2 hc2 => h ob2 ?_
    have e : setL (cs.set off v) (off + 1) l = setL cs off (v :: l) := by
      simp only [setL]
      rw [List.set_eq_take_append_cons_drop, if_pos (by omega)]
      have e1 : List.take (off + 1) (List.take off cs ++ v :: List.drop (off + 1) cs) = List.take off cs ++ [v] := by
        rw [List.take_append, List.length_take, Nat.min_eq_left (by omega), List.take_take, Nat.min_eq_right (by omega), show off + 1 - off = 1 by omega]
        rfl
      have e2 : List.drop (off + 1 + l.length) (List.take off cs ++ v :: List.drop (off + 1) cs) = List.drop (off + (l.length + 1)) cs := by
        rw [List.drop_append, List.length_take, Nat.min_eq_left (by omega), List.drop_eq_nil_of_le (by simp; omega), show off + 1 + l.length - off = l.length + 1 by omega]
        simp
        congr 1; omega
      rw [e1, e2]
      simp
    rw [← e]; exact hc2
theorem cellsO_cells {ob : AObj} {cs : List AV} (hc : Cells ob cs) : ∀ (n off : Nat), off + n ≤ cs.length → cellsO ob n off = some ((cs.drop off).take n)
  | 0, off, _ => by simp [cellsO]
  | n + 1, off, h => by
    rw [cellsO, hc.2.2 off, cellsO_cells hc n (off + 1) (by omega), List.getElem?_eq_getElem (by omega)]
    simp only [Option.bind_some, Option.map_some]
    rw [List.drop_eq_getElem_cons (by omega : off < cs.length), List.take_succ_cons]

/-! ### slices -/
@[simp ↓] theorem vLenL2_s (o off n : Nat) (kn : Bool) (c : Nat) (h : Hp) (K : AV → Hp → Prop) : vLenL2 (.slice o off n kn c) h K = K (.int .i64 n) h := rfl
@[simp ↓] theorem vLenL2_n (h : Hp) (K : AV → Hp → Prop) : vLenL2 .nilslice h K = K (.int .i64 0) h := rfl
@[simp ↓] theorem vIaddr_s (esz o off n : Nat) (kn : Bool) (c : Nat) (k : IntKind) (i : Int) (h0 : 0 ≤ i) (h1 : i < n) (h : Hp) (K : AV → Hp → Prop) : vIaddr esz (.slice o off n kn c) (.int k i) h K = K (.ptr o (off + i.toNat * esz)) h := by
  show asNat (.int k i) (fun i => gd (Nat.blt i n) (forceN (off + i * esz) fun off => K (.ptr o off) h)) = _
  rw [asNat_int k i h0]
  have : Nat.blt i.toNat n = true := by simp; omega
  rw [this]
  simp only [gd_true, forceN_eq]

@[simp ↓] theorem vNilck_ptr (o off : Nat) (h : Hp) (K : AV → Hp → Prop) : vNilck (.ptr o off) h K = K (.ptr o off) h := rfl
@[simp ↓] theorem vIaddrA_ptr (esz n o off : Nat) (k : IntKind) (i : Int) (h0 : 0 ≤ i) (h1 : i < n) (h : Hp) (K : AV → Hp → Prop) : vIaddrA esz n (.ptr o off) (.int k i) h K = K (.ptr o (off + i.toNat * esz)) h := by
  show asNat (.int k i) (fun i => gd (Nat.blt i n) (forceN (off + i * esz) fun off => K (.ptr o off) h)) = _
  rw [asNat_int k i h0]
  have : Nat.blt i.toNat n = true := by simp; omega
  rw [this]
  simp only [gd_true, forceN_eq]

/-! ### equal for sure -/
def flatV : AV → Bool
  | .bool _ | .int _ _ | .str _ _ | .ptr _ _ | .nilptr | .slice _ _ _ _ _ | .nilslice | .map _ | .nilmap | .nilfunc | .niliface | .sliceZ _ => true
  | _ => false
theorem sameC0_self : ∀ (v : AV), flatV v = true → sameC0 v v = true := by
  intro v h
  cases v <;> simp [flatV] at h
  case bool b => cases b <;> rfl
  case int k n => show Bool.rec (motive := fun _ => Bool) false (eqI n n) (kindEq k k) = true; rw [kindEq_self]; simp [eqI_eq']
  case str n x => show Bool.rec (motive := fun _ => Bool) false (Nat.beq x x) (Nat.beq n n) = true; simp
  case ptr o f => show Bool.rec (motive := fun _ => Bool) false (Nat.beq f f) (Nat.beq o o) = true; simp
  case slice o f n b c => show (Nat.beq o o && (Nat.beq f f && (Nat.beq n n && (b == b && Nat.beq c c)))) = true; simp
  case map o => show Nat.beq o o = true; simp
  case sliceZ o => show Nat.beq o o = true; simp
  all_goals rfl
theorem sameL_self : ∀ (l : List AV), (∀ v ∈ l, flatV v = true) → sameL l l = true
  | [], _ => rfl
  | v :: l, h => by
    rw [sameL_cons, sameL_self l (fun x hx => h x (by simp [hx]))]
    have h1 := h v (by simp)
    have : sameC v v = true := by
      have := sameC0_self v h1
      cases v <;> simp [flatV] at h1 <;> exact this
    rw [this]; rfl
theorem sameV_agg (l : List AV) (h : ∀ v ∈ l, flatV v = true) : sameV (.agg l) (.agg l) = true := sameL_self l h
theorem sameV_flat (v : AV) (h : flatV v = true) : sameV v v = true := by
  have := sameC0_self v h
  cases v <;> simp [flatV] at h <;> exact this

attribute [simp] ifP_true ifP_false asOpt_some asOpt_none gd_true gd_false joinG_tt joinG_ff joinG_tf joinG_ft joinG_u joinP_tt joinP_ff joinP_tf joinP_ft joinP_u vIf_t vIf_f vMov_eq vPick_t vPick_f vNot_b vAdd_int vSub_int vMul_int vDiv_int vRem_int vNeg_int vToInt_int vMin_int vMax_int vLss_int vGtr_int vLeq_int vGeq_int vEql_int vNeq_int vAdd_in vSub_in vMul_in vToInt_in vEql_S vNeq_S vLss_S vLenS_S vAdd_S vIdxS_S vSliceS_lh vSliceS_h vSliceS_l vEq_f vEq_t vExtract_tup vField_agg vFieldA_agg fillV_nil vBuild_eq vBox_eq vLoad2_ptr vLoad_ptr vLoadA_ptr vFaddr_ptr vStore_ptr vLenL2_s vLenL2_n vIaddr_s vNilck_ptr vIaddrA_ptr fillV_cons rowK_row setO_row
end Go.Am

namespace Go.Am
set_option linter.unusedSimpArgs false
set_option linter.unusedVariables false
open Go Go.RowKit

/-- One step: G is shown by G'. -/
class Step (G : Prop) (G' : outParam Prop) : Prop where
  imp : G' → G
/-- What a function means. -/
class CallIs (cf : CallK) (f : FuncId) (c : outParam ConD) : Prop where
  eq : cf f = c
instance stCall (cf : CallK) (f : FuncId) (c : ConD) [hc : CallIs cf f c] (args : List AV) (h : Hp) (K : AV → Hp → Prop) : Step (cf f args h K) (c args h K) := ⟨fun q => by rw [hc.eq]; exact q⟩

theorem Hp.at_new_self (h : Hp) (e : Ent) : (h.new e).at h.next = some e := by rw [Hp.at_new, if_pos rfl]
theorem Hp.at_put_self (h : Hp) (o : Nat) (e : Option Ent) : (h.put o e).at o = e := by rw [Hp.at_put, if_pos rfl]
theorem Hp.at_new_lt {h : Hp} {o : Nat} (e : Ent) (ho : o < h.next) : (h.new e).at o = h.at o := by rw [Hp.at_new, if_neg (by omega)]
theorem Hp.at_put_ne {h : Hp} {o p : Nat} (e : Option Ent) (ho : ¬ p = o) : (h.put o e).at p = h.at p := by rw [Hp.at_put, if_neg ho]

section
variable {h : Hp} {K : AV → Hp → Prop}
/-- Either way of a test. -/
def Way (p : Prop) (A B : Prop) : Prop := (p → A) ∧ (¬ p → B)
theorem Way.mk {p A B : Prop} (h1 : p → A) (h2 : ¬ p → B) : Way p A B := ⟨h1, h2⟩
/-- A value at a place of the heap. -/
def LoadG (h : Hp) (o off : Nat) (k : AV → Prop) : Prop := ∃ e v, h.at o = some e ∧ cellAt e.obj off = some v ∧ k v
def LoadsG (h : Hp) (n o off : Nat) (k : List AV → Prop) : Prop := ∃ e l, h.at o = some e ∧ cellsO e.obj n off = some l ∧ k l
def AtG (l : List AV) (i : Nat) (k : AV → Prop) : Prop := ∃ v, l[i]? = some v ∧ k v
theorem LoadG.mk {o off : Nat} {k : AV → Prop} {e : Ent} {v : AV} (h1 : h.at o = some e) (h2 : cellAt e.obj off = some v) (q : k v) : LoadG h o off k := ⟨e, v, h1, h2, q⟩
theorem LoadsG.mk {n o off : Nat} {k : List AV → Prop} {e : Ent} {l : List AV} (h1 : h.at o = some e) (h2 : cellsO e.obj n off = some l) (q : k l) : LoadsG h n o off k := ⟨e, l, h1, h2, q⟩
theorem AtG.mk {l : List AV} {i : Nat} {k : AV → Prop} {v : AV} (h1 : l[i]? = some v) (q : k v) : AtG l i k := ⟨v, h1, q⟩
theorem way_b {p : Prop} [Decidable p] {F : Bool → Prop} (hw : Way p (F true) (F false)) : F (decide p) := by
  by_cases q : p
  · simp only [q, decide_true]; exact hw.1 q
  · simp only [q, decide_false]; exact hw.2 q
theorem way_bool {b : Bool} {F : Bool → Prop} (hw : Way (b = true) (F true) (F false)) : F b := by
  cases b
  · exact hw.2 (by simp)
  · exact hw.1 rfl
def CondG (c A : Prop) : Prop := c ∧ A
theorem CondG.mk {c A : Prop} (h : c) (q : A) : CondG c A := ⟨h, q⟩
def RowG (cs : List AV) (k : AObj → Prop) : Prop := rowK false cs k

instance stJoinTT (A B : (AV → Hp → Prop) → Prop) : Step (joinG (fun k => grdV (.bool true) true (A k) (B k)) K) (A K) := ⟨id⟩
instance stJoinFF (A B : (AV → Hp → Prop) → Prop) : Step (joinG (fun k => grdV (.bool false) false (A k) (B k)) K) (A K) := ⟨id⟩
instance stJoinTF (A B : (AV → Hp → Prop) → Prop) : Step (joinG (fun k => grdV (.bool true) false (A k) (B k)) K) (B K) := ⟨id⟩
instance stJoinFT (A B : (AV → Hp → Prop) → Prop) : Step (joinG (fun k => grdV (.bool false) true (A k) (B k)) K) (B K) := ⟨id⟩
instance stJoinU (w : Bool) (A B : (AV → Hp → Prop) → Prop) : Step (joinG (fun k => grdV undefV w (A k) (B k)) K) (B K) := ⟨id⟩
instance stJoinPTT (A B : Prop → Prop) (k : Prop) : Step (joinP (fun k => grdV (.bool true) true (A k) (B k)) k) (A k) := ⟨id⟩
instance stJoinPFF (A B : Prop → Prop) (k : Prop) : Step (joinP (fun k => grdV (.bool false) false (A k) (B k)) k) (A k) := ⟨id⟩
instance stJoinPTF (A B : Prop → Prop) (k : Prop) : Step (joinP (fun k => grdV (.bool true) false (A k) (B k)) k) (B k) := ⟨id⟩
instance stJoinPFT (A B : Prop → Prop) (k : Prop) : Step (joinP (fun k => grdV (.bool false) true (A k) (B k)) k) (B k) := ⟨id⟩
instance stJoinPU (w : Bool) (A B : Prop → Prop) (k : Prop) : Step (joinP (fun k => grdV undefV w (A k) (B k)) k) (B k) := ⟨id⟩
instance stIfT (A B : Prop) : Step (vIf (.bool true) A B) A := ⟨id⟩
instance stIfF (A B : Prop) : Step (vIf (.bool false) A B) B := ⟨id⟩
instance stPickT (x y : AV) : Step (vPick (.bool true) x y h K) (K x h) := ⟨id⟩
instance stPickF (x y : AV) : Step (vPick (.bool false) x y h K) (K y h) := ⟨id⟩
instance stNotT : Step (vNot (.bool true) h K) (K (.bool false) h) := ⟨id⟩
instance stNotF : Step (vNot (.bool false) h K) (K (.bool true) h) := ⟨id⟩
instance stLss (k : IntKind) (a b : Int) : Step (vLss (.int k a) (.int k b) h K) (Way (a < b) (K (.bool true) h) (K (.bool false) h)) := ⟨fun w => by rw [vLss_int]; exact way_b (F := fun b => K (.bool b) h) w⟩
instance stGtr (k : IntKind) (a b : Int) : Step (vGtr (.int k a) (.int k b) h K) (Way (b < a) (K (.bool true) h) (K (.bool false) h)) := ⟨fun w => by rw [vGtr_int]; exact way_b (F := fun b => K (.bool b) h) w⟩
instance stLeq (k : IntKind) (a b : Int) : Step (vLeq (.int k a) (.int k b) h K) (Way (a ≤ b) (K (.bool true) h) (K (.bool false) h)) := ⟨fun w => by rw [vLeq_int]; exact way_b (F := fun b => K (.bool b) h) w⟩
instance stGeq (k : IntKind) (a b : Int) : Step (vGeq (.int k a) (.int k b) h K) (Way (b ≤ a) (K (.bool true) h) (K (.bool false) h)) := ⟨fun w => by rw [vGeq_int]; exact way_b (F := fun b => K (.bool b) h) w⟩
instance stEql (k : IntKind) (a b : Int) : Step (vEql (.int k a) (.int k b) h K) (Way (a = b) (K (.bool true) h) (K (.bool false) h)) := ⟨fun w => by rw [vEql_int]; exact way_b (F := fun b => K (.bool b) h) w⟩
instance stNeq (k : IntKind) (a b : Int) : Step (vNeq (.int k a) (.int k b) h K) (Way (a = b) (K (.bool false) h) (K (.bool true) h)) := ⟨fun w => by rw [vNeq_int]; exact way_b (F := fun b => K (.bool (!b)) h) w⟩
instance stEqlS (a b : List UInt8) : Step (vEql (S a) (S b) h K) (Way (a = b) (K (.bool true) h) (K (.bool false) h)) := ⟨fun w => by rw [vEql_S]; exact way_b (F := fun b => K (.bool b) h) w⟩
instance stNeqS (a b : List UInt8) : Step (vNeq (S a) (S b) h K) (Way (a = b) (K (.bool false) h) (K (.bool true) h)) := ⟨fun w => by rw [vNeq_S]; exact way_b (F := fun b => K (.bool (!b)) h) w⟩
instance stEqB (a b : Bool) : Step (vEq false eqB (.bool a) (.bool b) h K) (Way (a = b) (K (.bool true) h) (K (.bool false) h)) := ⟨fun w => by
  rw [vEq_f, eqB_b, asOpt_some]
  by_cases q : a = b
  · have := w.1 q; subst q; simpa using this
  · have := w.2 q
    have e : (a == b) = false := by simpa using q
    rw [e]; exact this⟩
instance stEqPair (a b c d : Int) : Step (vEq false eqPairS (.agg [.int .i64 a, .int .i64 b]) (.agg [.int .i64 c, .int .i64 d]) h K) (Way (a = c ∧ b = d) (K (.bool true) h) (K (.bool false) h)) := ⟨fun w => by
  rw [vEq_f, eqPairS_I, asOpt_some]
  have : (decide (a = c) && decide (b = d)) = decide (a = c ∧ b = d) := by simp
  rw [this]; exact way_b (F := fun b => K (.bool b) h) w⟩
instance stNePair (a b c d : Int) : Step (vEq true eqPairS (.agg [.int .i64 a, .int .i64 b]) (.agg [.int .i64 c, .int .i64 d]) h K) (Way (a = c ∧ b = d) (K (.bool false) h) (K (.bool true) h)) := ⟨fun w => by
  rw [vEq_t, eqPairS_I, asOpt_some]
  have : (decide (a = c) && decide (b = d)) = decide (a = c ∧ b = d) := by simp
  rw [this]; exact way_b (F := fun b => K (.bool (!b)) h) w⟩
instance stNilS (o off n : Nat) (kn : Bool) (c : Nat) : Step (vEq false eqNS (.slice o off n kn c) .nilslice h K) (K (.bool false) h) := ⟨fun q => by rw [vEq_f, eqNS_s, asOpt_some]; exact q⟩
instance stNilSN : Step (vEq false eqNS .nilslice .nilslice h K) (K (.bool true) h) := ⟨fun q => by rw [vEq_f, eqNS_nil, asOpt_some]; exact q⟩
instance stNilP (o f : Nat) : Step (vEq false eqP (.ptr o f) .nilptr h K) (K (.bool false) h) := ⟨fun q => by rw [vEq_f, eqP_pn, asOpt_some]; exact q⟩
instance stNilPN : Step (vEq false eqP .nilptr .nilptr h K) (K (.bool true) h) := ⟨fun q => by rw [vEq_f, eqP_nil, asOpt_some]; exact q⟩
instance stNilPt (o f : Nat) : Step (vEq true eqP (.ptr o f) .nilptr h K) (K (.bool true) h) := ⟨fun q => by rw [vEq_t, eqP_pn, asOpt_some]; exact q⟩
instance stNilPNt : Step (vEq true eqP .nilptr .nilptr h K) (K (.bool false) h) := ⟨fun q => by rw [vEq_t, eqP_nil, asOpt_some]; exact q⟩
instance stAdd (a b : Int) : Step (vAdd (.int .i64 a) (.int .i64 b) h K) (CondG (-9223372036854775808 ≤ a + b ∧ a + b ≤ 9223372036854775807) (K (.int .i64 (a + b)) h)) := ⟨fun ⟨c, q⟩ => by rw [vAdd_in a b c.1 c.2]; exact q⟩
instance stSub (a b : Int) : Step (vArith subI (.int .i64 a) (.int .i64 b) h K) (CondG (-9223372036854775808 ≤ a - b ∧ a - b ≤ 9223372036854775807) (K (.int .i64 (a - b)) h)) := ⟨fun ⟨c, q⟩ => by rw [vSub_in a b c.1 c.2]; exact q⟩
instance stAddS (a b : List UInt8) : Step (vAdd (S a) (S b) h K) (CondG (a.length + b.length ≤ 9223372036854775807) (K (S (a ++ b)) h)) := ⟨fun ⟨c, q⟩ => by rw [vAdd_S a b c]; exact q⟩
instance stMin (k k' : IntKind) (a b : Int) : Step (vMin false (.int k a) (.int k' b) h K) (K (.int k (min a b)) h) := ⟨fun q => by rw [vMin_int]; exact q⟩
instance stLenS (l : List UInt8) : Step (vLenS (S l) h K) (K (.int .i64 l.length) h) := ⟨id⟩
instance stLenL (o off n : Nat) (kn : Bool) (c : Nat) : Step (vLenL2 (.slice o off n kn c) h K) (K (.int .i64 n) h) := ⟨id⟩
instance stLenN : Step (vLenL2 .nilslice h K) (K (.int .i64 0) h) := ⟨id⟩
instance stIdxS (l : List UInt8) (k : IntKind) (i : Int) : Step (vIdxS (S l) (.int k i) h K) (∃ (h0 : 0 ≤ i) (h1 : i < l.length), K (.int .u8 ((l[i.toNat]'(by omega)).toNat : Int)) h) := ⟨fun ⟨h0, h1, q⟩ => by rw [vIdxS_S l k i h0 h1]; exact q⟩
instance stSliceSh (l : List UInt8) (k : IntKind) (i : Int) : Step (vSliceS (S l) none (some (.int k i)) h K) (CondG (0 ≤ i ∧ i ≤ l.length) (K (S (l.take i.toNat)) h)) := ⟨fun ⟨c, q⟩ => by rw [vSliceS_h l k i c.1 c.2]; exact q⟩
instance stSliceSl (l : List UInt8) (k : IntKind) (i : Int) : Step (vSliceS (S l) (some (.int k i)) none h K) (CondG (0 ≤ i ∧ i ≤ l.length) (K (S (l.drop i.toNat)) h)) := ⟨fun ⟨c, q⟩ => by rw [vSliceS_l l k i c.1 c.2]; exact q⟩
instance stIaddr (esz o off n : Nat) (kn : Bool) (c : Nat) (k : IntKind) (i : Int) : Step (vIaddr esz (.slice o off n kn c) (.int k i) h K) (CondG (0 ≤ i ∧ i < n) (K (.ptr o (off + i.toNat * esz)) h)) := ⟨fun ⟨q, r⟩ => by rw [vIaddr_s esz o off n kn c k i q.1 q.2]; exact r⟩
instance stFaddr (f o off : Nat) : Step (vFaddr f (.ptr o off) h K) (K (.ptr o (off + f)) h) := ⟨fun q => by rw [vFaddr_ptr]; exact q⟩
instance stNilck (o off : Nat) : Step (vNilck (.ptr o off) h K) (K (.ptr o off) h) := ⟨id⟩
instance stLoad2 (o off : Nat) : Step (vLoad2 (.ptr o off) h K) (LoadG h o off fun v => K v h) := ⟨fun ⟨e, v, h1, h2, q⟩ => by rw [vLoad2_ptr, h1, asOpt_some, h2, asOpt_some]; exact q⟩
instance stLoad (o off : Nat) : Step (vLoad (.ptr o off) h K) (LoadG h o off fun v => K v h) := ⟨fun ⟨e, v, h1, h2, q⟩ => by rw [vLoad_ptr, h1, asOpt_some, h2, asOpt_some]; exact q⟩
instance stLoadA (n o off : Nat) : Step (vLoadA n (.ptr o off) h K) (LoadsG h n o off fun l => K (.agg l) h) := ⟨fun ⟨e, l, h1, h2, q⟩ => by rw [vLoadA_ptr, h1, asOpt_some, h2, asOpt_some]; exact q⟩
instance stExtract (i : Nat) (l : List AV) : Step (vExtract i (.tup l) h K) (AtG l i fun v => K v h) := ⟨fun ⟨v, h1, q⟩ => by rw [vExtract_tup, h1, asOpt_some]; exact q⟩
instance stField (i : Nat) (l : List AV) : Step (vField i (.agg l) h K) (AtG l i fun v => K v h) := ⟨fun ⟨v, h1, q⟩ => by rw [vField_agg, h1, asOpt_some]; exact q⟩
/-- A box of a few cells. -/
instance stBoxA (n : Nat) (l : List AV) : Step (vBox n (.agg l) h K) (CondG (l.length = n ∧ l.length ≤ 24) (K (.ptr h.next 0) (h.new ⟨true, n, .row l⟩))) := ⟨fun ⟨c, q⟩ => by
  rw [vBox_eq, cellsV_agg, asOpt_some, ifP_pos c.1, rowK_row _ c.2]; exact q⟩
instance stBoxI (k : IntKind) (i : Int) : Step (vBox 1 (.int k i) h K) (K (.ptr h.next 0) (h.new ⟨true, 1, .row [.int k i]⟩)) := ⟨fun q => by
  rw [vBox_eq, cellsV_int, asOpt_some, ifP_pos (show [AV.int k i].length = 1 from rfl), rowK_row _ (by simp)]; exact q⟩
/-- A store of some cells into a small row. -/
def StoreG (h : Hp) (n o off : Nat) (l : List AV) (k : Hp → Prop) : Prop := ∃ esz cs, h.at o = some ⟨true, esz, .row cs⟩ ∧ (l.length = n ∧ off + l.length ≤ cs.length) ∧ k (h.put o (some ⟨true, esz, .row (setL cs off l)⟩))
theorem stStore_aux (n o off : Nat) (x : AV) (l : List AV) (hx : cellsV x = some l) (q : StoreG h n o off l fun h => K undefV h) : vStore n (.ptr o off) x h K := by
  obtain ⟨esz, cs, h1, h2, q⟩ := q
  rw [vStore_ptr, h1, asOpt_some, hx, asOpt_some, ifP_pos ⟨rfl, h2.1⟩, setO_row _ _ _ _ h2.2]
  exact q
instance stStoreA (n o off : Nat) (l : List AV) : Step (vStore n (.ptr o off) (.agg l) h K) (StoreG h n o off l fun h => K undefV h) := ⟨stStore_aux n o off _ l rfl⟩
instance stStoreI (o off : Nat) (k : IntKind) (i : Int) : Step (vStore 1 (.ptr o off) (.int k i) h K) (StoreG h 1 o off [.int k i] fun h => K undefV h) := ⟨stStore_aux 1 o off _ _ rfl⟩
instance stStoreB (o off : Nat) (b : Bool) : Step (vStore 1 (.ptr o off) (.bool b) h K) (StoreG h 1 o off [.bool b] fun h => K undefV h) := ⟨stStore_aux 1 o off _ _ rfl⟩
instance stStoreS (o off : Nat) (s : List UInt8) : Step (vStore 1 (.ptr o off) (S s) h K) (StoreG h 1 o off [S s] fun h => K undefV h) := ⟨stStore_aux 1 o off _ _ rfl⟩
instance stStoreSl (o off p a n : Nat) (kn : Bool) (c : Nat) : Step (vStore 1 (.ptr o off) (.slice p a n kn c) h K) (StoreG h 1 o off [.slice p a n kn c] fun h => K undefV h) := ⟨stStore_aux 1 o off _ _ rfl⟩
instance stStoreN (o off : Nat) : Step (vStore 1 (.ptr o off) .nilslice h K) (StoreG h 1 o off [.nilslice] fun h => K undefV h) := ⟨stStore_aux 1 o off _ _ rfl⟩
theorem StoreG.mk {n o off : Nat} {l : List AV} {k : Hp → Prop} {esz : Nat} {cs : List AV} (h1 : h.at o = some ⟨true, esz, .row cs⟩) (h2 : l.length = n ∧ off + l.length ≤ cs.length) (q : k (h.put o (some ⟨true, esz, .row (setL cs off l)⟩))) : StoreG h n o off l k := ⟨esz, cs, h1, h2, q⟩
theorem stFill_aux (off n : Nat) (v : AV) (ps : List (Nat × Nat × AV)) (cs l : List AV) (k : List AV → Prop) (hv : cellsV v = some l) (q : (l.length = n ∧ off + n ≤ cs.length) ∧ fillV ps (setL cs off l) k) : fillV ((off, n, v) :: ps) cs k := by
  rw [fillV_cons, hv, asOpt_some, ifP_pos q.1]; exact q.2
instance stFill0 (cs : List AV) (k : List AV → Prop) : Step (fillV [] cs k) (k cs) := ⟨id⟩
instance stFillA (off n : Nat) (l : List AV) (ps : List (Nat × Nat × AV)) (cs : List AV) (k : List AV → Prop) : Step (fillV ((off, n, .agg l) :: ps) cs k) (CondG (l.length = n ∧ off + n ≤ cs.length) (fillV ps (setL cs off l) k)) := ⟨stFill_aux off n _ ps cs l k rfl⟩
instance stFillI (off n : Nat) (kd : IntKind) (i : Int) (ps : List (Nat × Nat × AV)) (cs : List AV) (k : List AV → Prop) : Step (fillV ((off, n, .int kd i) :: ps) cs k) (CondG ([AV.int kd i].length = n ∧ off + n ≤ cs.length) (fillV ps (setL cs off [.int kd i]) k)) := ⟨stFill_aux off n _ ps cs _ k rfl⟩
instance stFillS (off n : Nat) (t : List UInt8) (ps : List (Nat × Nat × AV)) (cs : List AV) (k : List AV → Prop) : Step (fillV ((off, n, S t) :: ps) cs k) (CondG ([S t].length = n ∧ off + n ≤ cs.length) (fillV ps (setL cs off [S t]) k)) := ⟨stFill_aux off n _ ps cs _ k rfl⟩
instance stFillB (off n : Nat) (b : Bool) (ps : List (Nat × Nat × AV)) (cs : List AV) (k : List AV → Prop) : Step (fillV ((off, n, .bool b) :: ps) cs k) (CondG ([AV.bool b].length = n ∧ off + n ≤ cs.length) (fillV ps (setL cs off [.bool b]) k)) := ⟨stFill_aux off n _ ps cs _ k rfl⟩
instance stFillN (off n : Nat) (ps : List (Nat × Nat × AV)) (cs : List AV) (k : List AV → Prop) : Step (fillV ((off, n, .nilslice) :: ps) cs k) (CondG ([AV.nilslice].length = n ∧ off + n ≤ cs.length) (fillV ps (setL cs off [.nilslice]) k)) := ⟨stFill_aux off n _ ps cs _ k rfl⟩
instance stFillSl (off n o a m : Nat) (kn : Bool) (c : Nat) (ps : List (Nat × Nat × AV)) (cs : List AV) (k : List AV → Prop) : Step (fillV ((off, n, .slice o a m kn c) :: ps) cs k) (CondG ([AV.slice o a m kn c].length = n ∧ off + n ≤ cs.length) (fillV ps (setL cs off [.slice o a m kn c]) k)) := ⟨stFill_aux off n _ ps cs _ k rfl⟩
instance stBuild (zero : List AV) (ps : List (Nat × Nat × AV)) : Step (vBuild zero ps h K) (fillV ps zero fun cs => K (.agg cs) h) := ⟨id⟩
instance stSame (v : AV) (A : Prop) : Step (gd (sameV v v) A) (CondG (sameV v v = true) A) := ⟨fun ⟨c, q⟩ => by rw [c]; exact q⟩
instance stBslice (esz len : Nat) (zero : List AV) (parts : List (Nat × Nat × AV)) : Step (vBslice esz len false zero parts h K) (fillV parts (repL zero len) fun cs => CondG (cs.length ≤ 24) (K (.slice h.next 0 len true len) (h.new ⟨true, esz, .row cs⟩))) := ⟨fun q => by
  have hmono : ∀ (ps : List (Nat × Nat × AV)) (cs : List AV) (k k' : List AV → Prop), (∀ cs, k cs → k' cs) → fillV ps cs k → fillV ps cs k' := by
    intro ps
    induction ps with
    | nil => intro cs k k' hk h; exact hk _ h
    | cons p ps ih =>
      intro cs k k' hk h
      obtain ⟨off, n, v⟩ := p
      rw [fillV_cons] at h ⊢
      cases hv : cellsV v with
      | none => rw [hv] at h; exact h
      | some l =>
        rw [hv, asOpt_some] at h
        rw [asOpt_some]
        by_cases hc : l.length = n ∧ off + n ≤ cs.length
        · rw [ifP_pos hc] at h ⊢; exact ih _ _ _ hk h
        · rw [ifP_neg hc] at h; exact h.elim
  exact hmono parts _ _ _ (fun cs hq => by
    obtain ⟨c, hq⟩ := hq
    show rowK false cs fun ob => newK h ⟨true, esz, ob⟩ fun o h => K (.slice o 0 len true len) h
    rw [rowK_row _ c, newK_eq']; exact hq) q⟩
end
end Go.Am

namespace Go.Am
set_option linter.unusedSimpArgs false
set_option linter.unusedVariables false
open Go Go.RowKit
variable {P : Program}

/-- A row of old values. -/
def oldRow (h : Hp) (ob : AObj) : Prop := (match ob with | .row _ => True | .big _ _ _ => True | .byts _ _ => True | _ => False) ∧ ∀ j v, cellAt ob j = some v → oldV h v
theorem RowSim.of_old {B : Nat} {w0 : W0} {κ κ' : Kap} {h : Hp} {w : World} (s : Sim B w0 κ h w) (hk : κ.le κ') {ob : AObj} (ho : ∀ j v, cellAt ob j = some v → oldV h v) {esz : Nat} {ki : Ki} {o : Option Obj} (hr : RowSim κ' ob esz ki o) : RowSim κ ob esz ki o := by
  obtain ⟨c, t, fr, h1, h2, h3, h4, h5⟩ := hr
  refine ⟨c, t, fr, h1, h2, h3, h4, fun j v hv => ?_⟩
  obtain ⟨v', g1, g2, g3⟩ := h5 j v hv
  exact ⟨v', by rw [← gam_back s hk v (ho j v hv)]; exact g1, g2, g3⟩
theorem ObjSim.of_old {B : Nat} {w0 : W0} {κ κ' : Kap} {h : Hp} {w : World} (s : Sim B w0 κ h w) (hk : κ.le κ') {ob : AObj} (ho : oldRow h ob) {esz : Nat} {ki : Ki} {o : Option Obj} (hr : ObjSim κ' ob esz ki o) : ObjSim κ ob esz ki o := by
  obtain ⟨h1, h2⟩ := ho
  cases ob with
  | row cs => exact RowSim.of_old s hk h2 hr
  | big n t d => exact RowSim.of_old s hk h2 hr
  | byts n x => exact RowSim.of_old s hk h2 hr
  | map es clock => exact h1.elim
  | sit n x pos => exact h1.elim
  | mit m since seen st => exact h1.elim
/-- What was made is forgotten but for one row. -/
theorem Sim.keep {B : Nat} {w0 : W0} {κ κ' : Kap} {h h' : Hp} {w w' : World} (s : Sim B w0 κ h w) (s' : Sim B w0 κ' h' w') (hk : κ.le κ') (he : ∀ o e, h.at o = some e → h'.at o = some e)
    {o : Nat} {e : Ent} {ki : Ki} (hat : h'.at o = some e) (hki : κ' o = some ki) (hnew : h.next ≤ o) (hown : e.own = true) (hold : oldRow h e.obj) : Sim B w0 (κ.set h.next ki) (h.new e) w' := by
  have b := s.back s' hk he
  have hle : κ.le (κ.set h.next ki) := Kap.le_set s.none_next
  obtain ⟨ki0, k1, k2, k3, k4⟩ := s'.obj o e hat
  rw [hki] at k1; cases k1
  have old : ∀ p e', p ≠ h.next → (h.new e).at p = some e' → h.at p = some e' := fun p e' hp hq => by rw [Hp.at_new, if_neg hp] at hq; exact hq
  have lt : ∀ p k, κ p = some k → p < h.next := s.fresh
  refine ⟨s'.below, s'.size, fun p e' hp => ?_, fun p q e1 e2 c1 c2 hp hq h1 h2 o1 o2 hne => ?_, fun p k hp => ?_, s'.ghost, fun p e' k hp hq ho => ?_⟩
  · by_cases hpn : p = h.next
    · subst hpn
      have : (h.new e).at h.next = some e' := hp
      rw [Hp.at_new, if_pos rfl] at this
      cases this
      exact ⟨ki, Kap.set_self _ _ _, k2, fun q => (by rw [hown] at q; cases q), (ObjSim.of_old s hk hold k4).mono hle⟩
    · obtain ⟨k, h1, h2, h3, h4⟩ := b.obj p e' (old p e' hpn hp)
      exact ⟨k, hle _ _ h1, h2, h3, h4.mono hle⟩
  · have key : ∀ q e2 c2, q ≠ h.next → h.at q = some e2 → κ q = some c2 → e2.own = true → ki.blk ≠ c2.blk := fun q e2 c2 hqn hq hk2 ho2 =>
      s'.apart o q e e2 ki c2 hat (he q e2 hq) hki (hk q c2 hk2) hown ho2 (by have := lt q c2 hk2; omega)
    by_cases hpn : p = h.next
    · subst hpn
      have hqn : q ≠ h.next := fun e => hne e.symm
      rw [Kap.set_self] at h1; cases h1
      rw [Kap.set_ne _ _ hqn] at h2
      exact key q e2 c2 hqn (old q e2 hqn hq) h2 o2
    · rw [Kap.set_ne _ _ hpn] at h1
      by_cases hqn : q = h.next
      · subst hqn
        rw [Kap.set_self] at h2; cases h2
        exact fun e => key p e1 c1 hpn (old p e1 hpn hp) h1 o1 e.symm
      · rw [Kap.set_ne _ _ hqn] at h2
        exact b.apart p q e1 e2 c1 c2 (old p e1 hpn hp) (old q e2 hqn hq) h1 h2 o1 o2 hne
  · by_cases hpn : p = h.next
    · subst hpn; show _ < h.next + 1; omega
    · rw [Kap.set_ne _ _ hpn] at hp
      have := lt p k hp
      show p < h.next + 1; omega
  · by_cases hpn : p = h.next
    · subst hpn
      rw [Kap.set_self] at hq; cases hq
      exact s'.gap o e ki hat hki hown
    · rw [Kap.set_ne _ _ hpn] at hq
      exact b.gap p e' k (old p e' hpn hp) hq ho

/-- A function that hands out a slice of one row of its own, which bears old values alone. -/
theorem one_make (hmix : P.follows .mixedOrders = true) {con : FuncId → Option ConD} (hcon : ConOK P con) {f : FuncId} (hf : con f = none) {c : ConD}
    (H : ∀ avs h K, c avs h K → ∃ e off n kn cap, e.own = true ∧ oldRow h e.obj ∧ K (.slice h.next off n kn cap) (h.new e) ∧ ∃ fuel, ∀ K', (∀ h' o, Ext h h' → h.next ≤ o → h'.at o = some e → K' (.slice o off n kn cap) h') → deepT (tabOf P) f (cfn P con fuel) fuel avs h K') (B : Nat) (w0 : W0) : ConOne P B w0 f c := by
  intro avs h K hc
  obtain ⟨e, off, n, kn, cap, hown, hold, hK, fuel, hD⟩ := H avs h K hc
  let K2 : AV → Hp → Prop := fun v' h' => ∃ o, v' = .slice o off n kn cap ∧ Ext h h' ∧ h.next ≤ o ∧ h'.at o = some e
  have h2 := hD K2 (fun h' o hx ho hat => ⟨o, rfl, hx, ho, hat⟩)
  have : callN con (tabOf P) fuel 2 f avs h K2 := by
    show Option.rec (motive := fun _ => Prop) (asOpt (tabOf P f) fun af => argK avs 0 G1.lf fun fr => af.body (callN con (tabOf P) fuel 1) fuel (endK af.res K2) fr h) (fun c => c avs h K2) (con f)
    rw [hf]
    exact h2
  obtain ⟨hfn, hrun⟩ := callN_ok (B := B) (w0 := w0) hmix hcon fuel 2 f avs h _ this
  refine ⟨hfn, fun κ w args s hargs R hR => hrun κ w args s hargs R fun κ' av h' V w' k1 k2 k3 k4 => ?_⟩
  obtain ⟨o, rfl, hx, ho, hat⟩ := k4
  obtain ⟨ki, hki, _⟩ := k2.obj o e hat
  have hs := s.keep k2 k1 (fun p e' hp => by
    obtain ⟨k, h1, _⟩ := s.obj p e' hp
    rw [hx.same p (s.fresh p k h1), hp]) hat hki ho hown hold
  refine hR (κ.set h.next ki) (.slice h.next off n kn cap) (h.new e) V w' (Kap.le_set s.none_next) hs ?_ hK
  simp only [gam, hki, Kap.set_self, Option.bind_some] at k3 ⊢
  exact k3
end Go.Am

namespace Go.Am
set_option linter.unusedSimpArgs false
set_option linter.unusedVariables false
open Go Go.RowKit
variable {P : Program}

/-- A row of the same cells. -/
theorem ObjSim.of_cells {κ : Kap} {ob : AObj} {cs : List AV} (hc : Cells ob cs) {esz : Nat} {ki : Ki} {o : Option Obj} (h : ObjSim κ ob esz ki o) : ObjSim κ (.row cs) esz ki o := by
  obtain ⟨c0, c1, c2⟩ := hc
  have key : ¬ isBy ob → RowSim κ ob esz ki o → RowSim κ (.row cs) esz ki o := fun hnb ⟨c, t, fr, h1, h2, h3, h4, h5⟩ =>
    ⟨c, t, fr, h1, h2, h3.imp id (Or.imp (fun x => absurd x.2.2 hnb) fun ⟨a, b, d⟩ => ⟨a, b, fun j v hv => d j v (by rw [cellAt_row'] at hv; rw [c2 j]; exact hv)⟩), fun j hj => by
      have := h4 j (by rw [c1]; exact hj)
      rw [c2 j] at this
      rw [cellAt_row']; exact this, fun j v hv => h5 j v (by rw [cellAt_row'] at hv; rw [c2 j]; exact hv)⟩
  cases ob with
  | row l => exact key (fun x => x) h
  | big n t d => exact key (fun x => x) h
  | byts n x => exact c0.elim
  | map es c => exact c0.elim
  | sit n x p => exact c0.elim
  | mit m s l c => exact c0.elim

/-- What is handed out. -/
def Out (h : Hp) (K : AV → Hp → Prop) (v' : AV) (h' : Hp) : Prop := Ext h h' ∧ ((oldV h v' ∧ K v' h) ∨ ∃ o off n kn cap e' cs esz, v' = .slice o off n kn cap ∧ h.next ≤ o ∧ h'.at o = some e' ∧ e'.own = true ∧ e'.esz = esz ∧ Cells e'.obj cs ∧ (∀ v ∈ cs, oldV h v) ∧ K (.slice h.next off n kn cap) (h.new ⟨true, esz, .row cs⟩))

theorem Sim.as_row {B : Nat} {w0 : W0} {κ : Kap} {h : Hp} {w : World} (s : Sim B w0 κ h w) {o : Nat} {e : Ent} (he : h.at o = some e) {cs : List AV} (hc : Cells e.obj cs) : Sim B w0 κ (h.put o (some ⟨e.own, e.esz, .row cs⟩)) w := by
  have back : ∀ p e', (h.put o (some ⟨e.own, e.esz, .row cs⟩)).at p = some e' → ∃ e'', h.at p = some e'' ∧ e''.own = e'.own ∧ e''.esz = e'.esz ∧ ∀ κ ki ob, ObjSim κ e''.obj e''.esz ki ob → ObjSim κ e'.obj e'.esz ki ob := fun p e' hp => by
    by_cases hpo : p = o
    · subst hpo
      rw [Hp.at_put, if_pos rfl] at hp
      cases hp
      exact ⟨e, he, rfl, rfl, fun κ ki ob hs => hs.of_cells hc⟩
    · rw [Hp.at_put, if_neg hpo] at hp
      exact ⟨e', hp, rfl, rfl, fun _ _ _ hs => hs⟩
  refine ⟨s.below, s.size, fun p e' hp => ?_, fun p q e1 e2 k1 k2 hp hq h1 h2 o1 o2 hne => ?_, s.fresh, s.ghost, fun p e' ki hp hk ho => ?_⟩
  · obtain ⟨e'', b1, b2, b3, b4⟩ := back p e' hp
    obtain ⟨ki, c1, c2, c3, c4⟩ := s.obj p e'' b1
    exact ⟨ki, c1, fun q => c2 (by rw [b2]; exact q), fun q => ⟨(c3 (by rw [b2]; exact q)).1, fun q2 => (c3 (by rw [b2]; exact q)).2 (by rw [b3]; exact q2)⟩, b4 _ _ _ c4⟩
  · obtain ⟨e1', b1, b2, _⟩ := back p e1 hp
    obtain ⟨e2', d1, d2, _⟩ := back q e2 hq
    exact s.apart p q e1' e2' k1 k2 b1 d1 h1 h2 (by rw [b2]; exact o1) (by rw [d2]; exact o2) hne
  · obtain ⟨e'', b1, b2, _⟩ := back p e' hp
    exact s.gap p e'' ki b1 hk (by rw [b2]; exact ho)

theorem one_out (hmix : P.follows .mixedOrders = true) {con : FuncId → Option ConD} (hcon : ConOK P con) {f : FuncId} (hf : con f = none) {c : ConD}
    (H : ∀ avs h K, c avs h K → ∃ fuel, deepT (tabOf P) f (cfn P con fuel) fuel avs h (Out h K)) (B : Nat) (w0 : W0) : ConOne P B w0 f c := by
  intro avs h K hc
  obtain ⟨fuel, hD⟩ := H avs h K hc
  have : callN con (tabOf P) fuel 2 f avs h (Out h K) := by
    show Option.rec (motive := fun _ => Prop) (asOpt (tabOf P f) fun af => argK avs 0 G1.lf fun fr => af.body (callN con (tabOf P) fuel 1) fuel (endK af.res (Out h K)) fr h) (fun c => c avs h (Out h K)) (con f)
    rw [hf]
    exact hD
  obtain ⟨hfn, hrun⟩ := callN_ok (B := B) (w0 := w0) hmix hcon fuel 2 f avs h _ this
  refine ⟨hfn, fun κ w args s hargs R hR => hrun κ w args s hargs R fun κ' av h' V w' k1 k2 k3 k4 => ?_⟩
  obtain ⟨hx, ⟨ho, hK⟩ | ⟨o, off, n, kn, cap, e', cs, esz, rfl, h1, h2, h3, rfl, h5, h6, hK⟩⟩ := k4
  · refine hR κ av h V w' κ.le_refl (s.back k2 k1 fun o e he => ?_) (by rw [← gam_back s k1 av ho]; exact k3) hK
    obtain ⟨ki, h1, _⟩ := s.obj o e he
    rw [hx.same o (s.fresh o ki h1), he]
  · obtain ⟨ki, hki, _⟩ := k2.obj o e' h2
    have k2' := k2.as_row h2 h5
    have hlt : ∀ p e, h.at p = some e → p < h.next := fun p e hp => by
      obtain ⟨k, q1, _⟩ := s.obj p e hp
      exact s.fresh p k q1
    have hs := s.keep k2' k1 (fun p e hp => by
      have := hlt p e hp
      rw [Hp.at_put, if_neg (by omega), hx.same p this, hp]) (o := o) (e := ⟨e'.own, e'.esz, .row cs⟩) (by rw [Hp.at_put, if_pos rfl]) hki h1 h3 ⟨trivial, fun j v hv => by
        rw [cellAt_row'] at hv
        exact h6 v (List.mem_of_getElem? hv)⟩
    rw [h3] at hs
    refine hR (κ.set h.next ki) (.slice h.next off n kn cap) _ V w' (Kap.le_set s.none_next) hs ?_ hK
    simp only [gam, hki, Kap.set_self, Option.bind_some] at k3 ⊢
    exact k3
end Go.Am

namespace Go.Am
set_option linter.unusedSimpArgs false
set_option linter.unusedVariables false
open Go Go.RowKit

/-- A slice that append made, at an object not ahead of B. -/
def SlN (h : Hp) (esz : Nat) (v : AV) (els : List (List AV)) (B : Nat) : Prop :=
  (v = .nilslice ∧ els = []) ∨ ∃ o ob, v = .slice o 0 els.length false 0 ∧ B ≤ o ∧ o < h.next ∧ h.at o = some ⟨true, esz, ob⟩ ∧ Cells ob els.flatten ∧ (∀ e ∈ els, e.length = esz) ∧ els ≠ []
theorem Ext.nx {a b : Hp} (hx : Ext a b) : a.next ≤ b.next := hx.next
theorem Ext.atq {a b : Hp} (hx : Ext a b) (o : Nat) (ho : o < a.next) : b.at o = a.at o := hx.same o ho
theorem SlN.weak {h : Hp} {esz : Nat} {v : AV} {els : List (List AV)} {B C : Nat} (hv : SlN h esz v els B) (hc : C ≤ B) : SlN h esz v els C := by
  rcases hv with hv | ⟨o, ob, h1, h2, h3⟩
  · exact .inl hv
  · exact .inr ⟨o, ob, h1, Nat.le_trans hc h2, h3⟩
theorem SlN.same {h h' : Hp} {esz : Nat} {v : AV} {els : List (List AV)} {B : Nat} (hv : SlN h esz v els B) (hn : h.next ≤ h'.next) (hs : ∀ p, B ≤ p → p < h.next → h'.at p = h.at p) : SlN h' esz v els B := by
  rcases hv with hv | ⟨o, ob, h1, h2, h3, h4, h5⟩
  · exact .inl hv
  · exact .inr ⟨o, ob, h1, h2, Nat.lt_of_lt_of_le h3 hn, by rw [hs o h2 h3, h4], h5⟩
theorem SlN.at_put {h : Hp} {esz : Nat} {v : AV} {els : List (List AV)} {B o : Nat} {e : Option Ent} (hv : SlN h esz v els B) (ho : o < B) : SlN (h.put o e) esz v els B :=
  hv.same (Nat.le_refl _) fun p hp _ => by rw [Hp.at_put, if_neg (by omega)]
theorem SlN.ext {h h' : Hp} {esz : Nat} {v : AV} {els : List (List AV)} {B : Nat} (hv : SlN h esz v els B) (hx : Ext h h') : SlN h' esz v els B := hv.same hx.next fun p _ hp => hx.same p hp
theorem flat_len {els : List (List AV)} {esz : Nat} (h : ∀ e ∈ els, e.length = esz) : els.flatten.length = els.length * esz := by
  induction els with
  | nil => simp
  | cons x l ih =>
    have h1 := h x (by simp)
    have h2 := ih fun e he => h e (by simp [he])
    simp only [List.flatten_cons, List.length_append, List.length_cons, h1, h2, Nat.add_mul, Nat.one_mul]
    omega
theorem growK_intro {ob : AObj} {cs : List AV} (hc : Cells ob cs) {new : List AV} {k : AObj → Prop} (h : ∀ ob', Cells ob' (cs ++ new) → k ob') : growK ob 0 cs.length new k := by
  obtain ⟨h0, h1, h2⟩ := hc
  cases ob with
  | row l =>
    have e : l = cs := by
      apply List.ext_getElem?
      intro j
      rw [← h2 j, cellAt_row']
    subst e
    show gd (Nat.ble (0 + l.length) l.length) (rowK false ((l.drop 0).take l.length ++ new) k)
    rw [show Nat.ble (0 + l.length) l.length = true by simp]
    simp only [gd_true, List.drop_zero, List.take_length]
    exact rowK_intro _ _ h
  | big n t d =>
    have e1 : n = cs.length := h1
    subst e1
    show gd (Nat.ble (0 + cs.length) cs.length) (Bool.rec (motive := fun _ => Prop) (cellsK (.big cs.length t d) cs.length 0 fun l => rowK false (l ++ new) k) (trieK new cs.length t fun t => forceN (cs.length + new.length) fun n => k (.big n t d)) (Nat.beq 0 0))
    rw [show Nat.ble (0 + cs.length) cs.length = true by simp]
    simp only [gd_true]
    show trieK new cs.length t fun t => forceN (cs.length + new.length) fun n => k (.big n t d)
    refine trieK_get _ _ _ _ fun t' ht => ?_
    rw [forceN_eq]
    refine h _ ⟨trivial, by simp [sizeOfObj], fun j => ?_⟩
    rw [cellAt_bigS, ht j]
    by_cases hj : j < cs.length
    · have := h2 j
      rw [cellAt_bigS, if_pos hj] at this
      rw [if_pos (by omega), if_neg (by omega), this, List.getElem?_append_left hj]
    · rw [List.getElem?_append_right (by omega)]
      by_cases hj2 : j < cs.length + new.length
      · rw [if_pos hj2, if_pos ⟨by omega, hj2⟩, List.getElem?_eq_getElem (by omega)]
      · rw [if_neg hj2, List.getElem?_eq_none (by omega)]
  | byts n x => exact h0.elim
  | map es c => exact h0.elim
  | sit n x p => exact h0.elim
  | mit m s l c => exact h0.elim

theorem Cells.size {ob : AObj} {cs : List AV} (h : Cells ob cs) : sizeOfObj ob = cs.length := h.2.1
/-- What is read as elements. -/
def RdC (h : Hp) (esz : Nat) (x : AV) (els : List (List AV)) : Prop := ∃ o off kn c e, x = .slice o off els.length kn c ∧ h.at o = some e ∧ cellsO e.obj (els.length * esz) off = some els.flatten
theorem srcK_cells {h : Hp} {esz : Nat} {x : AV} {els : List (List AV)} (hr : RdC h esz x els) (hne : els ≠ []) (k0 : Prop) (kl : Nat → List AV → Prop) (kb : Nat → Nat → Prop) : srcK h esz false x k0 kl kb = kl els.length els.flatten := by
  obtain ⟨o, off, kn, c, e, rfl, h1, h2⟩ := hr
  show Bool.rec (motive := fun _ => Prop) (asOpt (h.at o) fun e => cellsK e.obj (els.length * esz) off fun l => kl els.length l) k0 (Nat.beq els.length 0) = _
  have : Nat.beq els.length 0 = false := by
    cases els with
    | nil => exact absurd rfl hne
    | cons x l => rfl
  rw [this, h1, asOpt_some, cellsK_O, h2, asOpt_some]
/-- append onto one's own. -/
theorem append_own {h0 h : Hp} {esz bytes : Nat} {v x : AV} {els news : List (List AV)} {B : Nat} {K : AV → Hp → Prop} (hx : Ext h0 h) (hv : SlN h esz v els B) (hB : h0.next ≤ B) (hBn : B ≤ h.next) (hs : RdC h esz x news) (hl : ∀ e ∈ news, e.length = esz) (hne : news ≠ [])
    (hb : (els.length + news.length) * bytes ≤ 140737488355328)
    (q : ∀ v' h', Ext h0 h' → h.next < h'.next → (∀ p, p < B → h'.at p = h.at p) → SlN h' esz v' (els ++ news) B → K v' h') : vAppend2 esz bytes false v x h K := by
  have fin : ∀ {hh : Hp} {ob : AObj}, Ext h0 hh → hh.next = h.next → (∀ p, p < B → hh.at p = h.at p) → Cells ob (els ++ news).flatten → (∀ e ∈ els, e.length = esz) → finK esz (els.length + news.length) hh ob K := fun {hh ob} e1 e2 e3 e4 e5 => by
    unfold finK
    rw [newK_eq']
    have hne' : els ++ news ≠ [] := by simp [hne]
    refine q _ _ (e1.new _) (by rw [Hp.next_new]; omega) (fun p hp => by rw [Hp.at_new, if_neg (by omega), e3 p hp]) (.inr ⟨hh.next, ob, by simp, by omega, by simp [Hp.next_new], by rw [Hp.at_new_self], e4, fun e he => ?_, hne'⟩)
    rcases List.mem_append.1 he with he | he
    · exact e5 e he
    · exact hl e he
  rcases hv with ⟨rfl, rfl⟩ | ⟨o, ob, rfl, h1, h2, h3, h4, h5, h6⟩
  · show appendK esz bytes false h .nilslice x K
    show srcK h esz false x (K .nilslice h) (fun m l => gd (Nat.ble (m * bytes) 140737488355328) (rowK false l fun ob => finK esz m h ob K)) _
    rw [srcK_cells hs hne, show Nat.ble (news.length * bytes) 140737488355328 = true by simpa using hb, gd_true]
    refine rowK_intro _ _ fun ob hob => ?_
    have := fin (hh := h) (ob := ob) hx rfl (fun _ _ => rfl) (by simpa using hob) (by simp)
    simpa using this
  · show srcK h esz false x _ (fun m l => joinK h o 0 els.length m false 0 esz bytes (fun ob => growK ob 0 (els.length * esz) l) _ K) _
    rw [srcK_cells hs hne]
    show gd (Nat.ble ((els.length + news.length) * bytes) 140737488355328) (asOpt (h.at o) fun e => gd (Nat.beq e.esz esz) (gd (e.own && Nat.ble 0 (0 * esz)) (growK e.obj 0 (els.length * esz) news.flatten fun ob => putK h o none fun h => forceN (els.length + news.length) fun n => finK esz n h ob K)))
    rw [show Nat.ble ((els.length + news.length) * bytes) 140737488355328 = true by simpa using hb, gd_true, h3, asOpt_some, show Nat.beq esz esz = true by simp, gd_true, show (true && Nat.ble 0 (0 * esz)) = true by simp, gd_true, ← flat_len h5]
    refine growK_intro h4 fun ob' hob' => ?_
    rw [putK_eq', forceN_eq]
    refine fin (hx.put _ (by omega)) rfl (fun p hp => by rw [Hp.at_put, if_neg (by omega)]) (by rw [List.flatten_append]; exact hob') h5

/-! ### maps gone over -/
theorem eachK_all {α : Type} {f : α → Prop} : ∀ (l : List α), (∀ x ∈ l, f x) → eachK f l
  | [], _ => trivial
  | [x], h => h x (by simp)
  | x :: y :: l, h => ⟨h x (by simp), eachK_all (y :: l) fun z hz => h z (by simp [hz])⟩
theorem filtE_map {α : Type} (g : α → AV × AV × Nat) (p : Nat → Bool) : ∀ (l : List α), filtE p (l.map g) = (l.filter fun a => p (g a).2.2).map g
  | [] => rfl
  | a :: l => by
    simp only [List.map_cons, filtE, List.filter_cons, filtE_map g p l]
    cases p (g a).2.2 <;> rfl
/-- The next entry, whichever. -/
theorem nextM_any {α : Type} {h : Hp} {K : AV → Hp → Prop} {it m : Nat} {esz clock : Nat} {seen : List Nat} {em : Ent} (g : α → AV × AV × Nat) (kes : List α) (hb : ∀ a ∈ kes, (g a).2.2 < clock)
    (h1 : h.at it = some ⟨true, esz, .mit (some m) clock seen clock⟩) (h2 : h.at m = some em) (h3 : em.obj = .map (kes.map g) clock)
    (q0 : (kes.filter fun a => !(memN (g a).2.2 seen)) = [] → K (.tup [.bool false]) h)
    (q1 : ∀ a ∈ kes, (g a).2.2 ∉ seen → K (.tup [.bool true, (g a).1, (g a).2.1]) (h.put it (some ⟨true, esz, .mit (some m) clock (seen ++ [(g a).2.2]) clock⟩))) : vNextM (.ptr it 0) h K := by
  show gd (Nat.beq 0 0) (asOpt (h.at it) fun e => gd e.own (asMit e.obj fun mm since seen st => _))
  rw [show Nat.beq 0 0 = true from rfl, gd_true, h1, asOpt_some, gd_true]
  show asOpt (h.at m) fun em => asMap em.obj fun es clock' => _
  rw [h2, asOpt_some, h3]
  have f1 : filtE (fun b => Nat.blt b clock) (kes.map g) = kes.map g := by
    rw [filtE_map, List.filter_eq_self.2 fun a ha => by simpa using hb a ha]
  have f2 : ∀ p : Nat → Bool, filtE (fun b => Nat.blt b clock) (filtE p (kes.map g)) = filtE p (kes.map g) := fun p => by
    rw [filtE_map g p, filtE_map, List.filter_eq_self.2 fun a ha => by simpa using hb a ((List.mem_filter.1 ha).1)]
  have f3 : ∀ p : Nat → Bool, filtE (fun b => !(Nat.blt b clock)) (filtE p (kes.map g)) = [] := fun p => by
    rw [filtE_map g p, filtE_map, List.filter_eq_nil_iff.2 fun a ha => by simpa using hb a ((List.mem_filter.1 ha).1)]; rfl
  show gd (isNilL seen || (isNilL (kes.map g) || !(isNilL (filtE (fun b => Nat.blt b clock) (kes.map g))))) _
  rw [f1, show (isNilL seen || (isNilL (kes.map g) || !(isNilL (kes.map g)))) = true by cases isNilL (kes.map g) <;> simp, gd_true]
  simp only [f2, f3, List.append_nil]
  generalize hL : filtE (fun b => !(memN b seen)) (kes.map g) = L
  rw [filtE_map] at hL
  cases L with
  | nil =>
    refine q0 ?_
    simpa using hL
  | cons d old =>
    show eachK _ (d :: old)
    refine eachK_all _ fun en hen => ?_
    rw [← hL] at hen
    obtain ⟨a, ha, rfl⟩ := List.mem_map.1 hen
    obtain ⟨ha1, ha2⟩ := List.mem_filter.1 ha
    rw [putK_eq']
    refine q1 a ha1 fun hm => ?_
    rw [memN_iff] at ha2
    simp [hm] at ha2
theorem findE_map {α : Type} (g : α → AV × AV × Nat) : ∀ (l : List α), (l.map fun a => (g a).2.2).Nodup → ∀ a ∈ l, findE (g a).2.2 (l.map g) = some (g a)
  | [], _, a, ha => by cases ha
  | b :: l, hn, a, ha => by
    simp only [List.map_cons, List.nodup_cons] at hn
    simp only [List.map_cons, findE]
    rcases List.mem_cons.1 ha with rfl | ha
    · simp
    · have : (g b).2.2 ≠ (g a).2.2 := fun e => hn.1 (by rw [e]; exact List.mem_map_of_mem ha)
      have hb : Nat.beq (g b).2.2 (g a).2.2 = false := by
        cases q : Nat.beq (g b).2.2 (g a).2.2 with
        | false => rfl
        | true => exact absurd (Nat.eq_of_beq_eq_true q) this
      rw [hb]
      exact findE_map g l hn.2 a ha
theorem entry_at {α : Type} {h : Hp} {K : AV → Hp → Prop} {it m : Nat} {esz clock : Nat} {seen : List Nat} {em : Ent} (g : α → AV × AV × Nat) (kes : List α) (hn : (kes.map fun a => (g a).2.2).Nodup) {a : α} (ha : a ∈ kes)
    (h1 : h.at it = some ⟨true, esz, .mit (some m) clock (seen ++ [(g a).2.2]) clock⟩) (h2 : h.at m = some em) (h3 : em.obj = .map (kes.map g) clock) (q : K (.tup [(g a).1, (g a).2.1]) h) : vEntry (.ptr it 0) h K := by
  show gd (Nat.beq 0 0) (asOpt (h.at it) fun e => asMit e.obj fun mm _ seen st => asOpt mm fun p => asOpt seen.getLast? fun b => asOpt (h.at p) fun em => asMap em.obj fun es clock => gd (Nat.beq clock st) (asOpt (findE b es) fun en => K (.tup [en.1, en.2.1]) h))
  rw [show Nat.beq 0 0 = true from rfl, gd_true, h1, asOpt_some]
  show asOpt (seen ++ [(g a).2.2]).getLast? fun b => asOpt (h.at m) fun em => asMap em.obj fun es clock' => gd (Nat.beq clock' clock) (asOpt (findE b es) fun en => K (.tup [en.1, en.2.1]) h)
  rw [List.getLast?_append, show [(g a).2.2].getLast? = some (g a).2.2 from rfl, Option.some_or, asOpt_some, h2, asOpt_some, h3]
  show gd (Nat.beq clock clock) (asOpt (findE (g a).2.2 (kes.map g)) fun en => K (.tup [en.1, en.2.1]) h)
  rw [show Nat.beq clock clock = true by simp, gd_true, findE_map g kes hn a ha, asOpt_some]
  exact q
theorem rangeM_at {h : Hp} {K : AV → Hp → Prop} {m : Nat} {em : Ent} {es : List (AV × AV × Nat)} {clock : Nat} (h2 : h.at m = some em) (h3 : em.obj = .map es clock) (q : K (.ptr h.next 0) (h.new ⟨true, 0, .mit (some m) clock [] clock⟩)) : vRangeM (.map m) h K := by
  show asOpt (h.at m) fun e => asMap e.obj fun _ c => newK h ⟨true, 0, .mit (some m) c [] c⟩ fun o h => K (.ptr o 0) h
  rw [h2, asOpt_some, h3]
  show newK h ⟨true, 0, .mit (some m) clock [] clock⟩ fun o h => K (.ptr o 0) h
  rw [newK_eq']
  exact q
end Go.Am

namespace Go.Am
set_option linter.unusedSimpArgs false
set_option linter.unusedVariables false
open Go Go.RowKit Go.Shelf Go.Proofs Go.Lib Go.Sort

/-! ### IDs, sorted -/
def idC (p : Int × Int) : List AV := [.int .i64 p.1, .int .i64 p.2]
def ltI (p q : Int × Int) : Bool := decide (p.1 < q.1) || (decide (p.1 = q.1) && decide (p.2 < q.2))
def insI (p : Int × Int) : List (Int × Int) → List (Int × Int)
  | [] => [p]
  | q :: l => if ltI q p then q :: insI p l else p :: q :: l
def sortI : List (Int × Int) → List (Int × Int)
  | [] => []
  | p :: l => insI p (sortI l)
theorem ltI_iff {p q : Int × Int} : ltI p q = true ↔ p.1 < q.1 ∨ (p.1 = q.1 ∧ p.2 < q.2) := by simp [ltI]
theorem insI_perm (p : Int × Int) : ∀ l, (insI p l).Perm (p :: l)
  | [] => .refl _
  | q :: l => by
    unfold insI
    split
    · exact ((insI_perm p l).cons q).trans (.swap p q l)
    · exact .refl _
theorem sortI_perm : ∀ l, (sortI l).Perm l
  | [] => .refl _
  | p :: l => (insI_perm p _).trans ((sortI_perm l).cons p)
def leI2 (p q : Int × Int) : Prop := ¬ ltI q p = true
theorem leI2_iff {p q : Int × Int} : leI2 p q ↔ p.1 < q.1 ∨ (p.1 = q.1 ∧ p.2 ≤ q.2) := by unfold leI2; rw [ltI_iff]; omega
theorem insI_sorted (p : Int × Int) : ∀ l, l.Pairwise leI2 → (insI p l).Pairwise leI2
  | [], _ => by simp [insI]
  | q :: l, h => by
    obtain ⟨h1, h2⟩ := List.pairwise_cons.1 h
    unfold insI
    split
    · rename_i hq
      refine List.pairwise_cons.2 ⟨fun x hx => ?_, insI_sorted p l h2⟩
      rcases List.mem_cons.1 ((insI_perm p l).mem_iff.1 hx) with rfl | hx
      · rw [leI2_iff]; rw [ltI_iff] at hq; omega
      · exact h1 x hx
    · rename_i hq
      refine List.pairwise_cons.2 ⟨fun x hx => ?_, h⟩
      rcases List.mem_cons.1 hx with rfl | hx
      · exact hq
      · have a := leI2_iff.1 (h1 x hx)
        have b := leI2_iff.1 (show leI2 p q from hq)
        rw [leI2_iff]; omega
theorem sortI_sorted : ∀ l, (sortI l).Pairwise leI2
  | [] => .nil
  | p :: l => insI_sorted p _ (sortI_sorted l)
theorem sorted_unique : ∀ (l m : List (Int × Int)), l.Perm m → l.Pairwise leI2 → m.Pairwise leI2 → l = m
  | [], m, hp, _, _ => hp.symm.eq_nil.symm
  | p :: l, [], hp, _, _ => hp.eq_nil
  | p :: l, q :: m, hp, hl, hm => by
    obtain ⟨h1, h2⟩ := List.pairwise_cons.1 hl
    obtain ⟨h3, h4⟩ := List.pairwise_cons.1 hm
    have e : p = q := by
      rcases List.mem_cons.1 (hp.mem_iff.1 (List.mem_cons_self (a := p) (l := l))) with e | e
      · exact e
      · rcases List.mem_cons.1 (hp.mem_iff.2 (List.mem_cons_self (a := q) (l := m))) with e' | e'
        · exact e'.symm
        · have a := leI2_iff.1 (h1 q e')
          have b := leI2_iff.1 (h3 p e)
          obtain ⟨p1, p2⟩ := p
          obtain ⟨q1, q2⟩ := q
          simp only at a b
          simp only [Prod.mk.injEq]
          omega
    subst e
    rw [sorted_unique l m hp.cons_inv h2 h4]
theorem sortI_of_perm {l m : List (Int × Int)} (h : l.Perm m) : sortI l = sortI m :=
  sorted_unique _ _ ((sortI_perm l).trans (h.trans (sortI_perm m).symm)) (sortI_sorted l) (sortI_sorted m)

/-- slices.SortFunc over IDs of one's own. -/
def cSortI (g : FuncId) : ConD := fun args h K => ∃ v ids B, args = [v, .func g [] []] ∧ SlN h 2 v (ids.map idC) B ∧ ids.length ≤ 140737488355328 ∧
  ∀ h', h.next ≤ h'.next → (∀ p, p < B → h'.at p = h.at p) → SlN h' 2 v ((sortI ids).map idC) B → K (.tup []) h'

def idV (p : Int × Int) : List Value := [.int .i64 p.1, .int .i64 p.2]
def cmpI (p q : Int × Int) : Int := if p.1 < q.1 then -1 else if q.1 < p.1 then 1 else if p.2 < q.2 then -1 else if q.2 < p.2 then 1 else 0
theorem ltOf_cmpI (p q : Int × Int) : ltOf cmpI p q = ltI p q := by
  rw [Bool.eq_iff_iff, ltI_iff]
  unfold ltOf cmpI
  rw [decide_eq_true_eq]
  repeat' split
  all_goals omega
theorem swo_cmpI : SWO (ltOf cmpI) := by
  have f : ∀ p q, ltOf cmpI p q = false ↔ ¬ (p.1 < q.1 ∨ (p.1 = q.1 ∧ p.2 < q.2)) := fun p q => by
    rw [ltOf_cmpI, ← ltI_iff]; simp
  refine ⟨fun x => by rw [f]; omega, fun x y z h1 h2 => ?_, fun x y z h1 h2 => ?_⟩
  · rw [ltOf_cmpI, ltI_iff] at h1 h2 ⊢; omega
  · rw [f] at h1 h2 ⊢; omega
theorem flat_id : ∀ (ids : List (Int × Int)) (j : Nat), j < ids.length * 2 → ((ids.map idC).flatten)[j]? = some (.int .i64 (if j % 2 = 0 then (ids[j / 2]!).1 else (ids[j / 2]!).2))
  | [], j, h => by simp at h
  | p :: l, 0, _ => rfl
  | p :: l, 1, _ => rfl
  | p :: l, j + 2, h => by
    have := flat_id l j (by simp at h; omega)
    show ((idC p ++ (l.map idC).flatten))[j + 2]? = _
    rw [show ((idC p ++ (l.map idC).flatten))[j + 2]? = ((l.map idC).flatten)[j]? from rfl, this]
    have e1 : (j + 2) % 2 = j % 2 := by omega
    have e2 : (j + 2) / 2 = j / 2 + 1 := by omega
    rw [e1, e2]
    rfl
theorem flatV_id (d : Array (Int × Int)) (j : Nat) (h : j < d.size * 2) : (flatK idV 2 d)[j]! = .int .i64 (if j % 2 = 0 then (d.toList[j / 2]!).1 else (d.toList[j / 2]!).2) := by
  rw [get_flatK _ _ _ _ h]
  have e : d[j / 2]! = d.toList[j / 2]! := by
    have hj : j / 2 < d.size := by omega
    rw [getElem!_pos d _ hj, getElem!_pos d.toList _ (by simpa using hj)]
    simp
  rw [e]
  have : j % 2 = 0 ∨ j % 2 = 1 := by omega
  rcases this with h | h <;> rw [h] <;> rfl

/-- A call that leaves all that was there as it was. -/
theorem Sim.left2 {B : Nat} {w0 : W0} {w w' : World} {κ : Kap} {h : Hp} (s : Sim B w0 κ h w) (hb : Below w.heap.size w w') : Sim B w0 κ h w' := by
  have same : ∀ (b : Nat) (ob : Obj), w.heap[b]? = some ob → w'.heap[b]? = some ob := fun b ob hb' => by
    rw [hb.block b (Array.getElem?_eq_some_iff.1 hb').1]; exact hb'
  refine ⟨s.below.trans (hb.mono s.size), Nat.le_trans s.size hb.size, fun o e he => ?_, s.apart, s.fresh, fun b ob hb' => ⟨(s.ghost b ob hb').1, same _ _ (s.ghost b ob hb').2⟩, s.gap⟩
  obtain ⟨ki, h1, h2, h3, h4⟩ := s.obj o e he
  obtain ⟨y, hy⟩ := Option.isSome_iff_exists.1 h4.isSome
  refine ⟨ki, h1, h2, h3, ?_⟩
  rw [same _ _ hy, ← hy]; exact h4


variable {P : Program} {ρ : Ren}
theorem sortI_ok (L : SlLaysF0.n6 P ρ) (aE : ∀ w, (isAgg (ρ.t 24)).run P w = .ok true w) (zE : ∀ w, (Go.sizeOf (ρ.t 24)).run P w = .ok 2 w) (g : FuncId) (eg : ∀ args w, (callFunc g args).run P w = .ok (.enter g args) w)
    (hcl : ∀ x y W, Calls P g #[.agg (idV x).toArray, .agg (idV y).toArray] W fun e w' => e = .returned (.int .i64 (cmpI x y)) ∧ ∃ q os', w' = grow (W.drewN q) os') (B : Nat) (w0 : W0) : ConOne P B w0 (ρ.f 6) (cSortI g) := by
  intro avs h K hc
  obtain ⟨v, ids, B', rfl, hv, hlen, q⟩ := hc
  obtain ⟨nm, hnm, hfn⟩ := L.f6
  refine ⟨⟨_, hfn, by simpa using hnm, rfl⟩, fun κ w args s hargs R hR => ?_⟩
  simp only [gams, Option.bind_eq_some_iff, Option.map_eq_some_iff, Option.some.injEq] at hargs
  obtain ⟨V, hV, r, ⟨F, hF, r2, rfl, rfl⟩, rfl⟩ := hargs
  have hF' : F = .func (.func g) #[] #[] := by simpa [gam, gams] using hF.symm
  subst hF'
  rcases hv with ⟨rfl, he⟩ | ⟨o, ob, rfl, h1, h2, h3, h4, h5, h6⟩
  · have hids : ids = [] := by simpa using he
    subst hids
    simp only [gam, Option.some.injEq] at hV
    subst hV
    refine (AnyF.slices_SortFunc_none L none 0 _ w).mono fun e w' ⟨he, hw⟩ => ?_
    subst he; subst hw
    exact hR κ (.tup []) h _ _ κ.le_refl s (by simp [gam, gams]) (q h (Nat.le_refl _) (fun _ _ => rfl) (.inl ⟨rfl, rfl⟩))
  · simp only [gam, Option.bind_eq_some_iff, Bool.false_eq_true, if_false] at hV
    obtain ⟨ki, hk, hV⟩ := hV
    split at hV
    case isFalse => cases hV
    rename_i hcap
    simp only [Option.some.injEq, Nat.sub_zero] at hV
    subst hV
    simp only [List.length_map, Nat.add_zero] at hcap
    obtain ⟨ki', k1, kB, _, ho⟩ := s.obj o _ h3
    rw [hk] at k1; cases k1
    have hrow : RowSim κ ob 2 ki w.heap[ki.blk]? := by
      obtain ⟨c0, _⟩ := h4
      cases ob with
      | row l => exact ho
      | big n t d => exact ho
      | byts n x => exact c0.elim
      | map es c => exact c0.elim
      | sit n x p => exact c0.elim
      | mit m s l c => exact c0.elim
    obtain ⟨c, t, fr, e1, e2, e3, e4, e5⟩ := hrow
    replace e3 : fr.1 = fr.2 ∨ (c.size ≤ fr.1 ∧ 2 = 1) := by
      rcases e3 with h | ⟨h, h', _⟩ | ⟨_, h, _⟩
      · exact .inl h
      · exact .inr ⟨h, h'⟩
      · omega
    have hblk : ki.blk < w.heap.size := (Array.getElem?_eq_some_iff.1 e1).1
    have hcell : ∀ j, j < ids.length * 2 → c[ki.base + j]? = some (.int .i64 (if j % 2 = 0 then (ids[j / 2]!).1 else (ids[j / 2]!).2)) := fun j hj => by
      obtain ⟨v', g1, _, g3⟩ := e5 j _ (by rw [h4.2.2 j, flat_id ids j hj])
      simp only [gam, Option.some.injEq] at g1
      rw [g3, ← g1]
    have hfr : ∀ j, j < ids.length * 2 → w.frozen? ⟨ki.blk, ki.base + j, none⟩ = false := fun j hj => by
      have hlt := (Array.getElem?_eq_some_iff.1 (hcell j hj)).1
      have : ¬ (fr.1 ≤ ki.base + j ∧ ki.base + j < fr.2) := by
        rcases e3 with e | ⟨e, _⟩ <;> omega
      simp only [World.frozen?, e1]
      simp only [Bool.and_eq_false_iff, decide_eq_false_iff_not]
      by_cases hx : fr.1 ≤ ki.base + j
      · exact .inr fun hy => this ⟨hx, hy⟩
      · exact .inl hx
    have hsz : ids.toArray.size = ids.length := by simp
    have hH : HoldsK idV 2 w ki.blk ki.base ids.toArray := fun j hj => by
      rw [size_flatK, hsz] at hj
      refine ⟨?_, hfr j hj⟩
      rw [flatV_id _ _ (by rw [hsz]; exact hj)]
      simp only [World.cell?, e1, Option.isSome_none, Bool.false_eq_true, if_false]
      rw [hcell j hj]
      rfl
    have hcall := AnyQ.slices_SortFunc L 2 aE zE idV (fun _ => rfl) (fun x v hv => by
      simp only [idV, List.mem_cons, List.not_mem_nil, or_false] at hv
      rcases hv with rfl | rfl <;> rfl) cmpI swo_cmpI g #[] ki.blk ki.base ki.cap ids.toArray w eg (fun _ _ _ _ x y => hcl x y _) hH hblk (by rw [hsz]; omega)
    rw [hsz] at hcall
    have hat : ki.at 0 = ⟨ki.blk, ki.base, none⟩ := rfl
    rw [List.length_map, hat]
    refine hcall.mono fun e w' hw => ?_
    obtain ⟨he, d', m, os, ⟨hps, _, hpp⟩, hso, hw⟩ := hw
    subst he
    have hds : d'.size = ids.length := by rw [hps, hsz]
    have hd' : d'.toList = sortI ids := by
      refine sorted_unique _ _ ?_ ?_ (sortI_sorted ids)
      · have x1 : d'.extract 0 ids.length = d' := by rw [← hds]; simp
        have x2 : ids.toArray.extract 0 ids.length = ids.toArray := by rw [← hsz]; simp
        rw [x1, x2] at hpp
        exact hpp.trans (sortI_perm ids).symm
      · refine List.pairwise_iff_getElem.2 fun i j hi hj hij => ?_
        have hj' : j < d'.size := by simpa using hj
        have := hso i j (Nat.zero_le _) hij (by rw [← hds]; exact hj')
        rw [ltOf_cmpI, getElem!_pos d' j hj', getElem!_pos d' i (by omega)] at this
        unfold leI2
        rw [Array.getElem_toList, Array.getElem_toList, this]
        simp
    have hls : (sortI ids).length = ids.length := (sortI_perm ids).length_eq
    have hfs : ((sortI ids).map idC).flatten.length = ids.length * 2 := by rw [flat_len (esz := 2) fun e he => by obtain ⟨p, _, rfl⟩ := List.mem_map.1 he; rfl, List.length_map, hls]
    have hob : sizeOfObj ob = ids.length * 2 := by
      rw [h4.2.1, flat_len h5, List.length_map]
    have hw1 : (putRow id (Sort.ahead w m) ki.blk ki.base (flatK idV 2 d')).heap[ki.blk]? = some (.cells (putCells id ki.base (flatK idV 2 d') c) t fr) := by
      show (w.heap.modify ki.blk (onCells _))[ki.blk]? = _
      rw [Array.getElem?_modify, if_pos rfl, e1]; rfl
    have hs1 := s.put (w' := putRow id (Sort.ahead w m) ki.blk ki.base (flatK idV 2 d')) h3 hk rfl ⟨rfl, rfl, rfl, by show _ ≤ (w.heap.modify _ _).size; simp, fun k hkB => by
        show (w.heap.modify ki.blk _)[k]? = _
        rw [Array.getElem?_modify, if_neg (by have := kB rfl; omega)]⟩ (by show (w.heap.modify _ _).size = _; simp) (fun b hb => by
        show (w.heap.modify ki.blk _)[b]? = _
        rw [Array.getElem?_modify, if_neg (by omega)]) (.row ((sortI ids).map idC).flatten) (by
        rw [hw1]
        refine ⟨_, t, fr, rfl, by simpa [putCells] using e2, (e3.imp (fun h => by simpa [putCells] using h) fun h => absurd h.2 (by decide)), fun j hj => ?_, fun j v hv => ?_⟩
        · have hj' : j < ((sortI ids).map idC).flatten.length := hj
          exact ⟨_, by rw [cellAt_row', List.getElem?_eq_getElem hj']⟩
        · rw [cellAt_row'] at hv
          have hj : j < ids.length * 2 := by
            have := (List.getElem?_eq_some_iff.1 hv).1
            omega
          rw [flat_id _ j (by rw [hls]; exact hj)] at hv
          cases hv
          refine ⟨_, rfl, rfl, ?_⟩
          have hlt := (Array.getElem?_eq_some_iff.1 (hcell j hj)).1
          simp only [putCells, Array.getElem?_mapIdx]
          rw [Array.getElem?_eq_getElem hlt, Option.map_some, if_pos ⟨by omega, by rw [size_flatK, hds]; omega⟩, show ki.base + j - ki.base = j by omega]
          rw [id, flatV_id d' j (by rw [hds]; exact hj), hd'])
    have hs2 : Sim B w0 κ (h.put o (some ⟨true, 2, .row ((sortI ids).map idC).flatten⟩)) w' := by
      subst hw
      have hb : Below (putRow id (Sort.ahead w m) ki.blk ki.base (flatK idV 2 d')).heap.size (putRow id (Sort.ahead w m) ki.blk ki.base (flatK idV 2 d')) (sortWorldK idV 2 w ki.blk ki.base m d' os) :=
        ⟨rfl, rfl, rfl, by show _ ≤ (grow _ _).heap.size; rw [size_grow]; exact Nat.le_add_right _ _, fun k hk => heap_grow_old _ _ hk⟩
      exact Sim.left2 hs1 hb
    refine hR κ (.tup []) _ _ w' κ.le_refl hs2 (by simp [gam, gams]) (q _ (Nat.le_refl _) (fun p hp => by rw [Hp.at_put, if_neg (by omega)]) (.inr ⟨o, _, by simp [hls], h1, h2, Hp.at_put_self _ _ _, Cells.row _, fun e he => by obtain ⟨p, _, rfl⟩ := List.mem_map.1 he; rfl, fun e => ?_⟩))
    have : sortI ids = [] := by simpa using e
    rw [this] at hls
    have : ids = [] := by simpa using hls.symm
    exact h6 (by rw [this]; rfl)
end Go.Am

