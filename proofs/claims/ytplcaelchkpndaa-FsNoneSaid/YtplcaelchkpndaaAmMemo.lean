/-
  A call at one state is run once, by itself, and what it comes to is used as its contract: so a long run is cut into pieces.
-/
import Derived.Test.YtplcaelchkpndaaAmPost
namespace Go.Am
set_option linter.unusedSimpArgs false
set_option linter.unusedVariables false
open Go Go.RowKit
variable {P : Program}

def sameDl (f : AV → AV → Bool) : List AV → List AV → Bool
  | [], [] => true
  | x :: l, y :: m => f x y && sameDl f l m
  | _, _ => false
theorem sameDl_eq {f : AV → AV → Bool} (hf : ∀ x y, f x y = true → x = y) : ∀ (l m : List AV), sameDl f l m = true → l = m
  | [], [], _ => rfl
  | [], _ :: _, h => by simp [sameDl] at h
  | _ :: _, [], h => by simp [sameDl] at h
  | x :: l, y :: m, h => by
    simp only [sameDl, Bool.and_eq_true] at h
    rw [hf _ _ h.1, sameDl_eq hf l m h.2]
/-- The same value, to some depth. -/
def sameD : Nat → AV → AV → Bool
  | 0, _, _ => false
  | n + 1, x, y => match x, y with
    | .agg l, .agg m => sameDl (sameD n) l m
    | .tup l, .tup m => sameDl (sameD n) l m
    | .iface t v, .iface u w => Nat.beq t u && sameD n v w
    | .func f a c, .func g b d => Nat.beq f g && (sameDl (sameD n) a b && sameDl (sameD n) c d)
    | x, y => sameC0 x y
theorem sameD_eq : ∀ (n : Nat) (x y : AV), sameD n x y = true → x = y
  | 0, x, y, h => by cases h
  | n + 1, x, y, h => by
    unfold sameD at h
    split at h
    · rw [sameDl_eq (sameD_eq n) _ _ h]
    · rw [sameDl_eq (sameD_eq n) _ _ h]
    · simp only [Bool.and_eq_true, Nat.beq_eq] at h
      rw [h.1, sameD_eq n _ _ h.2]
    · simp only [Bool.and_eq_true, Nat.beq_eq] at h
      obtain ⟨h1, h2, h3⟩ := h
      rw [h1, sameDl_eq (sameD_eq n) _ _ h2, sameDl_eq (sameD_eq n) _ _ h3]
    · exact sameC0_eq h
def sameOp {α : Type} (f : α → α → Bool) : Option α → Option α → Bool
  | none, none => true
  | some x, some y => f x y
  | _, _ => false
theorem sameOp_eq {α : Type} {f : α → α → Bool} (hf : ∀ x y, f x y = true → x = y) : ∀ (x y : Option α), sameOp f x y = true → x = y
  | none, none, _ => rfl
  | none, some _, h => by cases h
  | some _, none, h => by cases h
  | some x, some y, h => by rw [hf x y h]
def sameT {α : Type} (f : α → α → Bool) : T α → T α → Bool
  | .lf, .lf => true
  | .nd l v r, .nd l' v' r' => sameT f l l' && (sameOp f v v' && sameT f r r')
  | _, _ => false
theorem sameT_eq {α : Type} {f : α → α → Bool} (hf : ∀ x y, f x y = true → x = y) : ∀ (t u : T α), sameT f t u = true → t = u
  | .lf, .lf, _ => rfl
  | .lf, .nd _ _ _, h => by cases h
  | .nd _ _ _, .lf, h => by cases h
  | .nd l v r, .nd l' v' r', h => by
    simp only [sameT, Bool.and_eq_true] at h
    obtain ⟨h1, h2, h3⟩ := h
    rw [sameT_eq hf l l' h1, sameOp_eq hf v v' h2, sameT_eq hf r r' h3]
def sameEs : List (AV × AV × Nat) → List (AV × AV × Nat) → Bool
  | [], [] => true
  | x :: l, y :: m => sameD 4 x.1 y.1 && (sameD 4 x.2.1 y.2.1 && (Nat.beq x.2.2 y.2.2 && sameEs l m))
  | _, _ => false
theorem sameEs_eq : ∀ (l m : List (AV × AV × Nat)), sameEs l m = true → l = m
  | [], [], _ => rfl
  | [], _ :: _, h => by cases h
  | _ :: _, [], h => by cases h
  | (a, b, c) :: l, (a', b', c') :: m, h => by
    simp only [sameEs, Bool.and_eq_true, Nat.beq_eq] at h
    obtain ⟨h1, h2, h3, h4⟩ := h
    rw [sameD_eq 4 _ _ h1, sameD_eq 4 _ _ h2, h3, sameEs_eq l m h4]
def sameNl : List Nat → List Nat → Bool
  | [], [] => true
  | x :: l, y :: m => Nat.beq x y && sameNl l m
  | _, _ => false
theorem sameNl_eq : ∀ (l m : List Nat), sameNl l m = true → l = m
  | [], [], _ => rfl
  | [], _ :: _, h => by cases h
  | _ :: _, [], h => by cases h
  | x :: l, y :: m, h => by
    simp only [sameNl, Bool.and_eq_true, Nat.beq_eq] at h
    rw [h.1, sameNl_eq l m h.2]
def sameOb (x y : AObj) : Bool := match x, y with
  | .row l, .row m => sameDl (sameD 4) l m
  | .big n t d, .big m u e => Nat.beq n m && (sameT (sameD 4) t u && sameDl (sameD 4) d e)
  | .byts n x, .byts m y => Nat.beq n m && Nat.beq x y
  | .map es c, .map fs d => sameEs es fs && Nat.beq c d
  | .sit n x p, .sit m y q => Nat.beq n m && (Nat.beq x y && Nat.beq p q)
  | .mit m a l c, .mit m' a' l' c' => sameOp Nat.beq m m' && (Nat.beq a a' && (sameNl l l' && Nat.beq c c'))
  | _, _ => false
theorem sameOb_eq {x y : AObj} (h : sameOb x y = true) : x = y := by
  unfold sameOb at h
  split at h
  · rw [sameDl_eq (sameD_eq 4) _ _ h]
  · simp only [Bool.and_eq_true, Nat.beq_eq] at h
    obtain ⟨h1, h2, h3⟩ := h
    rw [h1, sameT_eq (sameD_eq 4) _ _ h2, sameDl_eq (sameD_eq 4) _ _ h3]
  · simp only [Bool.and_eq_true, Nat.beq_eq] at h
    rw [h.1, h.2]
  · simp only [Bool.and_eq_true, Nat.beq_eq] at h
    rw [sameEs_eq _ _ h.1, h.2]
  · simp only [Bool.and_eq_true, Nat.beq_eq] at h
    rw [h.1, h.2.1, h.2.2]
  · simp only [Bool.and_eq_true, Nat.beq_eq] at h
    obtain ⟨h1, h2, h3, h4⟩ := h
    rw [sameOp_eq (fun x y h => Nat.eq_of_beq_eq_true h) _ _ h1, h2, sameNl_eq _ _ h3, h4]
  · cases h
def sameEn (x y : Ent) : Bool := (x.own == y.own) && (Nat.beq x.esz y.esz && sameOb x.obj y.obj)
theorem sameEn_eq (x y : Ent) (h : sameEn x y = true) : x = y := by
  simp only [sameEn, Bool.and_eq_true, Nat.beq_eq, beq_iff_eq] at h
  obtain ⟨h1, h2, h3⟩ := h
  cases x; cases y
  simp only at h1 h2 h3
  rw [h1, h2, sameOb_eq h3]
/-- All that the one holds the other holds. -/
def subO (x y : Option Ent) : Bool := match x with
  | none => true
  | some e => (match y with | some e' => sameEn e e' | none => false)
def subT : T Ent → T Ent → Bool
  | .lf, _ => true
  | .nd l v r, .nd l' v' r' => subT l l' && (subO v v' && subT r r')
  | .nd _ _ _, .lf => false
theorem subO_ok {x y : Option Ent} (h : subO x y = true) (e : Ent) (he : x = some e) : y = some e := by
  subst he
  unfold subO at h
  cases y with
  | none => cases h
  | some e' => rw [sameEn_eq e e' h]
theorem subT_get : ∀ (t u : T Ent), subT t u = true → ∀ p e, t.get p = some e → u.get p = some e
  | .lf, u, _, p, e, he => by rw [T.get_lf] at he; cases he
  | .nd _ _ _, .lf, h, _, _, _ => by cases h
  | .nd l v r, .nd l' v' r', h, p, e, he => by
    simp only [subT, Bool.and_eq_true] at h
    obtain ⟨h1, h2, h3⟩ := h
    cases p with
    | h => exact subO_ok h2 e he
    | o p => exact subT_get l l' h1 p e he
    | i p => exact subT_get r r' h3 p e he
def subHp (x y : Hp) : Bool := Nat.beq x.next y.next && subT x.objs y.objs
theorem Sim.sub {B : Nat} {w0 w : World} {κ : Kap} {h h1 : Hp} (s : Sim B w0 κ h w) (hs : subHp h1 h = true) : Sim B w0 κ h1 w := by
  simp only [subHp, Bool.and_eq_true, Nat.beq_eq] at hs
  obtain ⟨hn, ht⟩ := hs
  have g := subT_get _ _ ht
  exact ⟨s.below, s.size, fun o e he => s.obj o e (g _ _ he), fun o o' e e' ki ki' h1 h2 => s.apart o o' e e' ki ki' (g _ _ h1) (g _ _ h2), fun o ki hk => by rw [hn]; exact s.fresh o ki hk⟩

/-- What a call at one state comes to; at other states what 'els' says. -/
def memoK (a0 : List AV) (h0 : Hp) (v1 : AV) (h1 : Hp) (els : ConD) : ConD := fun args h K =>
  Bool.rec (motive := fun _ => Prop) (els args h K) (K v1 h1) (sameDl (sameD 4) args a0 && subHp h0 h)
def noMemo : ConD := fun _ _ _ => False
/-- The call's own run. -/
def MemoRun (P : Program) (con : FuncId → Option ConD) (fuel n f : Nat) (a0 : List AV) (h0 : Hp) (v1 : AV) (h1 : Hp) : Prop :=
  callN con (tabOf P) fuel n f a0 h0 fun v h => gd (sameD 4 v v1 && subHp h1 h) True
theorem noMemo_ok {f : FuncId} (B : Nat) (w0 : World) : ConOne P B w0 f noMemo := fun _ _ _ h => h.elim
theorem memo_ok (hmix : P.follows .mixedOrders = true) {con : FuncId → Option ConD} (hcon : ConOK P con) {fuel n f : Nat} {a0 : List AV} {h0 h1 : Hp} {v1 : AV} {els : ConD} (hr : MemoRun P con fuel n f a0 h0 v1 h1 = True)
    {B : Nat} {w0 : World} (hels : ConOne P B w0 f els) : ConOne P B w0 f (memoK a0 h0 v1 h1 els) := by
  intro avs h K hD
  have hD' : Bool.rec (motive := fun _ => Prop) (els avs h K) (K v1 h1) (sameDl (sameD 4) avs a0 && subHp h0 h) := hD
  cases hb : (sameDl (sameD 4) avs a0 && subHp h0 h) with
  | false => rw [hb] at hD'; exact hels avs h K hD'
  | true =>
    rw [hb] at hD'
    simp only [Bool.and_eq_true] at hb
    have e := sameDl_eq (sameD_eq 4) _ _ hb.1
    subst e
    obtain ⟨hfn, hcall⟩ := (callN_ok (B := B) (w0 := w0) hmix hcon fuel n) f avs h0 _ (of_eq_true hr)
    refine ⟨hfn, fun κ w args s hargs R hR => hcall κ w args (s.sub hb.2) hargs R fun κ' av h' v w' q1 q2 q3 q4 => ?_⟩
    obtain ⟨q5, _⟩ := gd_iff.1 q4
    simp only [Bool.and_eq_true] at q5
    have e := sameD_eq 4 _ _ q5.1
    subst e
    exact hR κ' _ _ v w' q1 (q2.sub q5.2) q3 hD'

end Go.Am
