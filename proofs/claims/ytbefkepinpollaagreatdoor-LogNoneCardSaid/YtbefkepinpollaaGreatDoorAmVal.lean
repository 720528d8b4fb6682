/-
  The abstract machine's values, objects and heap, and what each stands for in the model's world.
-/
import Derived.Test.YtbefkepinpollaaGreatDoorAmBase
namespace Go.Am
set_option linter.unusedSimpArgs false
set_option linter.unusedVariables false
open Go Go.RowKit
noncomputable section

/-- What is known of some numbers: bounds; which is less, which are equal. -/
structure Fx where
  bnd : List (Nat × Int × Int)
  ord : List (Nat × Nat × Bool)
  deriving Inhabited

inductive AV where
  | bool (b : Bool)
  | int (k : IntKind) (n : Int)
  | str (n x : Nat)
  | ptr (o off : Nat)
  | nilptr
  | slice (o off len : Nat) (known : Bool) (cap : Nat)
  | nilslice
  | sliceE (o off off' c : Nat)
  | map (o : Nat)
  | nilmap
  | func (f : FuncId) (first captured : List AV)
  | nilfunc
  | iface (t : TypeId) (v : AV)
  | niliface
  | agg (cs : List AV)
  | tup (vs : List AV)
  | sym (k : IntKind) (F : Fx) (i : Nat)
  | gptr (g : Nat)
  deriving Inhabited

/-! ### maps to values: frames, great rows -/
inductive VL where
  | lf : VL
  | nd (l : VL) (v : Option AV) (r : VL) : VL
noncomputable def VL.get (t : VL) (p : Pos0) : Option AV :=
  Pos0.rec (motive := fun _ => VL → Option AV)
    (fun t => VL.rec (motive := fun _ => Option AV) none (fun _ v _ _ _ => v) t)
    (fun _ ih t => VL.rec (motive := fun _ => Option AV) none (fun l _ _ _ _ => ih l) t)
    (fun _ ih t => VL.rec (motive := fun _ => Option AV) none (fun _ _ r _ _ => ih r) t) p t
noncomputable def VL.upd (x : Option AV) (p : Pos0) (t : VL) : VL :=
  Pos0.rec (motive := fun _ => VL → VL)
    (fun t => VL.rec (motive := fun _ => VL) (.nd .lf x .lf) (fun l _ r _ _ => .nd l x r) t)
    (fun _ ih t => VL.rec (motive := fun _ => VL) (.nd (ih .lf) none .lf) (fun l v r _ _ => .nd (ih l) v r) t)
    (fun _ ih t => VL.rec (motive := fun _ => VL) (.nd .lf none (ih .lf)) (fun l v r _ _ => .nd l v (ih r)) t) p t
noncomputable def VL.updK (x : Option AV) (p : Pos0) (t : VL) (k : VL → Prop) : Prop :=
  Pos0.rec (motive := fun _ => Option AV → VL → (VL → Prop) → Prop)
    (fun x t k => VL.rec (motive := fun _ => Option AV → (VL → Prop) → Prop) (fun x k => k (.nd .lf x .lf)) (fun l _ r _ _ x k => k (.nd l x r)) t x k)
    (fun _ ih x t k => VL.rec (motive := fun _ => Prop) (ih x .lf fun l => k (.nd l none .lf)) (fun l v r _ _ => ih x l fun l => k (.nd l v r)) t)
    (fun _ ih x t k => VL.rec (motive := fun _ => Prop) (ih x .lf fun r => k (.nd .lf none r)) (fun l v r _ _ => ih x r fun r => k (.nd l v r)) t) p x t k
theorem VL.updK_eq (x : Option AV) (p : Pos0) : ∀ (t : VL) (k : VL → Prop), VL.updK x p t k = k (VL.upd x p t) := by
  induction p with
  | h => intro t k; cases t <;> rfl
  | o p ih => intro t k; cases t with
    | lf => exact ih .lf fun l => k (.nd l none .lf)
    | nd l v r => exact ih l fun l => k (.nd l v r)
  | i p ih => intro t k; cases t with
    | lf => exact ih .lf fun r => k (.nd .lf none r)
    | nd l v r => exact ih r fun r => k (.nd l v r)
theorem VL.get_lf (p : Pos0) : (VL.lf : VL).get p = none := by cases p <;> rfl
theorem VL.get_upd_self (x : Option AV) (p : Pos0) : ∀ (t : VL), (VL.upd x p t).get p = x := by
  induction p with
  | h => intro t; cases t <;> rfl
  | o p ih => intro t; cases t with
    | lf => exact ih .lf
    | nd l v r => exact ih l
  | i p ih => intro t; cases t with
    | lf => exact ih .lf
    | nd l v r => exact ih r
theorem VL.get_upd_ne (x : Option AV) : ∀ (p q : Pos0) (t : VL), p ≠ q → (VL.upd x p t).get q = t.get q
  | .h, .h, t, hne => absurd rfl hne
  | .h, .o q, t, _ => by cases t <;> first | rfl | exact VL.get_lf q
  | .h, .i q, t, _ => by cases t <;> first | rfl | exact VL.get_lf q
  | .o p, .h, t, _ => by cases t <;> rfl
  | .o p, .o q, t, hne => by
    have hne' : p ≠ q := fun e => hne (e ▸ rfl)
    cases t with
    | lf => exact (VL.get_upd_ne x p q .lf hne').trans ((VL.get_lf q).trans rfl)
    | nd l v r => exact VL.get_upd_ne x p q l hne'
  | .o p, .i q, t, _ => by cases t <;> first | rfl | exact VL.get_lf q
  | .i p, .h, t, _ => by cases t <;> rfl
  | .i p, .o q, t, _ => by cases t <;> first | rfl | exact VL.get_lf q
  | .i p, .i q, t, hne => by
    have hne' : p ≠ q := fun e => hne (e ▸ rfl)
    cases t with
    | lf => exact (VL.get_upd_ne x p q .lf hne').trans ((VL.get_lf q).trans rfl)
    | nd l v r => exact VL.get_upd_ne x p q r hne'

structure V2 where
  mk ::
  a0 : VL
  a1 : VL
  a2 : VL
  a3 : VL
  a4 : VL
  a5 : VL
  a6 : VL
  a7 : VL
noncomputable def V2.get (n : V2) (d : D) : VL := D.rec (motive := fun _ => V2 → VL) (fun n => n.a0) (fun n => n.a1) (fun n => n.a2) (fun n => n.a3) (fun n => n.a4) (fun n => n.a5) (fun n => n.a6) (fun n => n.a7) d n
noncomputable def V2.upd (v : VL) (d : D) (n : V2) : V2 := D.rec (motive := fun _ => V2 → VL → V2) (fun n v => V2.rec (motive := fun _ => VL → V2) (fun _ a1 a2 a3 a4 a5 a6 a7 v => .mk v a1 a2 a3 a4 a5 a6 a7) n v) (fun n v => V2.rec (motive := fun _ => VL → V2) (fun a0 _ a2 a3 a4 a5 a6 a7 v => .mk a0 v a2 a3 a4 a5 a6 a7) n v) (fun n v => V2.rec (motive := fun _ => VL → V2) (fun a0 a1 _ a3 a4 a5 a6 a7 v => .mk a0 a1 v a3 a4 a5 a6 a7) n v) (fun n v => V2.rec (motive := fun _ => VL → V2) (fun a0 a1 a2 _ a4 a5 a6 a7 v => .mk a0 a1 a2 v a4 a5 a6 a7) n v) (fun n v => V2.rec (motive := fun _ => VL → V2) (fun a0 a1 a2 a3 _ a5 a6 a7 v => .mk a0 a1 a2 a3 v a5 a6 a7) n v) (fun n v => V2.rec (motive := fun _ => VL → V2) (fun a0 a1 a2 a3 a4 _ a6 a7 v => .mk a0 a1 a2 a3 a4 v a6 a7) n v) (fun n v => V2.rec (motive := fun _ => VL → V2) (fun a0 a1 a2 a3 a4 a5 _ a7 v => .mk a0 a1 a2 a3 a4 a5 v a7) n v) (fun n v => V2.rec (motive := fun _ => VL → V2) (fun a0 a1 a2 a3 a4 a5 a6 _ v => .mk a0 a1 a2 a3 a4 a5 a6 v) n v) d n v
noncomputable def V2.updK (v : VL) (d : D) (n : V2) (k : V2 → Prop) : Prop := D.rec (motive := fun _ => V2 → VL → (V2 → Prop) → Prop) (fun n v k => V2.rec (motive := fun _ => VL → (V2 → Prop) → Prop) (fun _ a1 a2 a3 a4 a5 a6 a7 v k => k (.mk v a1 a2 a3 a4 a5 a6 a7)) n v k) (fun n v k => V2.rec (motive := fun _ => VL → (V2 → Prop) → Prop) (fun a0 _ a2 a3 a4 a5 a6 a7 v k => k (.mk a0 v a2 a3 a4 a5 a6 a7)) n v k) (fun n v k => V2.rec (motive := fun _ => VL → (V2 → Prop) → Prop) (fun a0 a1 _ a3 a4 a5 a6 a7 v k => k (.mk a0 a1 v a3 a4 a5 a6 a7)) n v k) (fun n v k => V2.rec (motive := fun _ => VL → (V2 → Prop) → Prop) (fun a0 a1 a2 _ a4 a5 a6 a7 v k => k (.mk a0 a1 a2 v a4 a5 a6 a7)) n v k) (fun n v k => V2.rec (motive := fun _ => VL → (V2 → Prop) → Prop) (fun a0 a1 a2 a3 _ a5 a6 a7 v k => k (.mk a0 a1 a2 a3 v a5 a6 a7)) n v k) (fun n v k => V2.rec (motive := fun _ => VL → (V2 → Prop) → Prop) (fun a0 a1 a2 a3 a4 _ a6 a7 v k => k (.mk a0 a1 a2 a3 a4 v a6 a7)) n v k) (fun n v k => V2.rec (motive := fun _ => VL → (V2 → Prop) → Prop) (fun a0 a1 a2 a3 a4 a5 _ a7 v k => k (.mk a0 a1 a2 a3 a4 a5 v a7)) n v k) (fun n v k => V2.rec (motive := fun _ => VL → (V2 → Prop) → Prop) (fun a0 a1 a2 a3 a4 a5 a6 _ v k => k (.mk a0 a1 a2 a3 a4 a5 a6 v)) n v k) d n v k
theorem V2.updK_eq (v : VL) (d : D) (n : V2) (k : V2 → Prop) : V2.updK v d n k = k (V2.upd v d n) := by cases d <;> cases n <;> rfl
theorem V2.get_upd_self (v : VL) (d : D) (n : V2) : (V2.upd v d n).get d = v := by cases d <;> cases n <;> rfl
theorem V2.get_upd_ne (v : VL) (d e : D) (n : V2) (h : d ≠ e) : (V2.upd v d n).get e = n.get e := by
  cases n
  cases d <;> cases e <;> first | rfl | exact absurd rfl h

structure V1 where
  mk ::
  a0 : V2
  a1 : V2
  a2 : V2
  a3 : V2
  a4 : V2
  a5 : V2
  a6 : V2
  a7 : V2
noncomputable def V1.get (n : V1) (d : D) : V2 := D.rec (motive := fun _ => V1 → V2) (fun n => n.a0) (fun n => n.a1) (fun n => n.a2) (fun n => n.a3) (fun n => n.a4) (fun n => n.a5) (fun n => n.a6) (fun n => n.a7) d n
noncomputable def V1.upd (v : V2) (d : D) (n : V1) : V1 := D.rec (motive := fun _ => V1 → V2 → V1) (fun n v => V1.rec (motive := fun _ => V2 → V1) (fun _ a1 a2 a3 a4 a5 a6 a7 v => .mk v a1 a2 a3 a4 a5 a6 a7) n v) (fun n v => V1.rec (motive := fun _ => V2 → V1) (fun a0 _ a2 a3 a4 a5 a6 a7 v => .mk a0 v a2 a3 a4 a5 a6 a7) n v) (fun n v => V1.rec (motive := fun _ => V2 → V1) (fun a0 a1 _ a3 a4 a5 a6 a7 v => .mk a0 a1 v a3 a4 a5 a6 a7) n v) (fun n v => V1.rec (motive := fun _ => V2 → V1) (fun a0 a1 a2 _ a4 a5 a6 a7 v => .mk a0 a1 a2 v a4 a5 a6 a7) n v) (fun n v => V1.rec (motive := fun _ => V2 → V1) (fun a0 a1 a2 a3 _ a5 a6 a7 v => .mk a0 a1 a2 a3 v a5 a6 a7) n v) (fun n v => V1.rec (motive := fun _ => V2 → V1) (fun a0 a1 a2 a3 a4 _ a6 a7 v => .mk a0 a1 a2 a3 a4 v a6 a7) n v) (fun n v => V1.rec (motive := fun _ => V2 → V1) (fun a0 a1 a2 a3 a4 a5 _ a7 v => .mk a0 a1 a2 a3 a4 a5 v a7) n v) (fun n v => V1.rec (motive := fun _ => V2 → V1) (fun a0 a1 a2 a3 a4 a5 a6 _ v => .mk a0 a1 a2 a3 a4 a5 a6 v) n v) d n v
noncomputable def V1.updK (v : V2) (d : D) (n : V1) (k : V1 → Prop) : Prop := D.rec (motive := fun _ => V1 → V2 → (V1 → Prop) → Prop) (fun n v k => V1.rec (motive := fun _ => V2 → (V1 → Prop) → Prop) (fun _ a1 a2 a3 a4 a5 a6 a7 v k => k (.mk v a1 a2 a3 a4 a5 a6 a7)) n v k) (fun n v k => V1.rec (motive := fun _ => V2 → (V1 → Prop) → Prop) (fun a0 _ a2 a3 a4 a5 a6 a7 v k => k (.mk a0 v a2 a3 a4 a5 a6 a7)) n v k) (fun n v k => V1.rec (motive := fun _ => V2 → (V1 → Prop) → Prop) (fun a0 a1 _ a3 a4 a5 a6 a7 v k => k (.mk a0 a1 v a3 a4 a5 a6 a7)) n v k) (fun n v k => V1.rec (motive := fun _ => V2 → (V1 → Prop) → Prop) (fun a0 a1 a2 _ a4 a5 a6 a7 v k => k (.mk a0 a1 a2 v a4 a5 a6 a7)) n v k) (fun n v k => V1.rec (motive := fun _ => V2 → (V1 → Prop) → Prop) (fun a0 a1 a2 a3 _ a5 a6 a7 v k => k (.mk a0 a1 a2 a3 v a5 a6 a7)) n v k) (fun n v k => V1.rec (motive := fun _ => V2 → (V1 → Prop) → Prop) (fun a0 a1 a2 a3 a4 _ a6 a7 v k => k (.mk a0 a1 a2 a3 a4 v a6 a7)) n v k) (fun n v k => V1.rec (motive := fun _ => V2 → (V1 → Prop) → Prop) (fun a0 a1 a2 a3 a4 a5 _ a7 v k => k (.mk a0 a1 a2 a3 a4 a5 v a7)) n v k) (fun n v k => V1.rec (motive := fun _ => V2 → (V1 → Prop) → Prop) (fun a0 a1 a2 a3 a4 a5 a6 _ v k => k (.mk a0 a1 a2 a3 a4 a5 a6 v)) n v k) d n v k
theorem V1.updK_eq (v : V2) (d : D) (n : V1) (k : V1 → Prop) : V1.updK v d n k = k (V1.upd v d n) := by cases d <;> cases n <;> rfl
theorem V1.get_upd_self (v : V2) (d : D) (n : V1) : (V1.upd v d n).get d = v := by cases d <;> cases n <;> rfl
theorem V1.get_upd_ne (v : V2) (d e : D) (n : V1) (h : d ≠ e) : (V1.upd v d n).get e = n.get e := by
  cases n
  cases d <;> cases e <;> first | rfl | exact absurd rfl h

/-- A place: 2 digits of eight, the lowest first, then binary. -/
structure FPos where
  d0 : D
  d1 : D
  r : Pos0
noncomputable def fpos (n : Nat) : FPos := ⟨dig (n % 8), dig (n / 8 % 8), npos0 (n / 64)⟩
theorem fpos_inj {m n : Nat} (h : fpos m = fpos n) : m = n := by
  have h' := FPos.mk.inj h
  obtain ⟨h0, h1, hr⟩ := h'
  have h0 := dig_inj (by omega) (by omega) h0
  have h1 := dig_inj (by omega) (by omega) h1
  have hr := npos0_inj hr
  omega
noncomputable def V2.lf : V2 := .mk VL.lf VL.lf VL.lf VL.lf VL.lf VL.lf VL.lf VL.lf
noncomputable def V1.lf : V1 := .mk V2.lf V2.lf V2.lf V2.lf V2.lf V2.lf V2.lf V2.lf
noncomputable def V1.getP (t : V1) (p : FPos) : Option AV := VL.get (V2.get (V1.get t p.d0) p.d1) p.r
noncomputable def V1.updP (x : Option AV) (p : FPos) (t : V1) : V1 := V1.upd (V2.upd (VL.upd x p.r (V2.get (V1.get t p.d0) p.d1)) p.d1 (V1.get t p.d0)) p.d0 t
noncomputable def V1.updPK (x : Option AV) (p : FPos) (t : V1) (k : V1 → Prop) : Prop := VL.updK x p.r (V2.get (V1.get t p.d0) p.d1) fun c => V2.updK c p.d1 (V1.get t p.d0) fun c => V1.updK c p.d0 t k
theorem V1.updPK_eq (x : Option AV) (p : FPos) (t : V1) (k : V1 → Prop) : V1.updPK x p t k = k (V1.updP x p t) := by simp only [V1.updPK, V1.updP, VL.updK_eq, V1.updK_eq, V2.updK_eq]
theorem V1.getP_lf (p : FPos) : V1.lf.getP p = none := by
  obtain ⟨d0, d1, r⟩ := p
  cases d0 <;> cases d1 <;> exact VL.get_lf r
theorem V1.getP_upd_self (x : Option AV) (p : FPos) (t : V1) : (V1.updP x p t).getP p = x := by
  simp only [V1.getP, V1.updP, VL.get_upd_self, V1.get_upd_self, V2.get_upd_self]
theorem V1.getP_upd_ne (x : Option AV) (p q : FPos) (t : V1) (h : p ≠ q) : (V1.updP x p t).getP q = t.getP q := by
  obtain ⟨d0, d1, r⟩ := p
  obtain ⟨e0, e1, s⟩ := q
  simp only [V1.getP, V1.updP]
  by_cases h0 : d0 = e0
  case neg => rw [V1.get_upd_ne _ _ _ _ h0]
  subst h0
  rw [V1.get_upd_self]
  by_cases h1 : d1 = e1
  case neg => rw [V2.get_upd_ne _ _ _ _ h1]
  subst h1
  rw [V2.get_upd_self]
  by_cases hr : r = s
  · subst hr; exact absurd rfl h
  · rw [VL.get_upd_ne _ _ _ _ hr]

/-! ### frames -/
def undefV : AV := .tup []
structure GL where
  v : AV
  more : VL
noncomputable abbrev GL.get (l : GL) (r : Nat) : AV := Nat.rec (motive := fun _ => GL → AV) (fun l => l.v) (fun m _ l => Option.rec (motive := fun _ => AV) undefV (fun v => v) (VL.get l.more (npos0 m))) r l
noncomputable abbrev GL.upd (x : AV) (r : Nat) (l : GL) : GL := Nat.rec (motive := fun _ => GL → AV → GL) (fun l x => GL.rec (motive := fun _ => AV → GL) (fun _ m x => ⟨x, m⟩) l x) (fun m _ l x => GL.rec (motive := fun _ => AV → GL) (fun v mo x => ⟨v, VL.upd (some x) (npos0 m) mo⟩) l x) r l x
noncomputable abbrev GL.updK (x : AV) (r : Nat) (l : GL) (k : GL → Prop) : Prop := Nat.rec (motive := fun _ => GL → AV → (GL → Prop) → Prop)
  (fun l x k => GL.rec (motive := fun _ => AV → (GL → Prop) → Prop) (fun _ m x k => k ⟨x, m⟩) l x k)
  (fun m _ l x k => GL.rec (motive := fun _ => AV → (GL → Prop) → Prop) (fun v mo x k => VL.updK (some x) (npos0 m) mo fun mo => k ⟨v, mo⟩) l x k) r l x k
theorem GL.updK_eq (x : AV) (r : Nat) (l : GL) (k : GL → Prop) : GL.updK x r l k = k (GL.upd x r l) := by
  obtain ⟨v, mo⟩ := l
  cases r with
  | zero => rfl
  | succ m => exact VL.updK_eq _ _ _ _
theorem GL.get_upd_self (x : AV) (r : Nat) (l : GL) : (GL.upd x r l).get r = x := by
  obtain ⟨v, mo⟩ := l
  cases r with
  | zero => rfl
  | succ m =>
    show Option.rec (motive := fun _ => AV) undefV (fun v => v) (VL.get (VL.upd (some x) (npos0 m) mo) (npos0 m)) = x
    rw [VL.get_upd_self]
theorem GL.get_upd_ne (x : AV) (r s : Nat) (l : GL) (h : r ≠ s) : (GL.upd x r l).get s = l.get s := by
  obtain ⟨v, mo⟩ := l
  cases r with
  | zero => cases s with
    | zero => exact absurd rfl h
    | succ n => rfl
  | succ m => cases s with
    | zero => rfl
    | succ n =>
      show Option.rec (motive := fun _ => AV) undefV (fun v => v) (VL.get (VL.upd (some x) (npos0 m) mo) (npos0 n)) = Option.rec (motive := fun _ => AV) undefV (fun v => v) (VL.get mo (npos0 n))
      rw [VL.get_upd_ne _ _ _ _ (fun e => h (by rw [npos0_inj e]))]

structure G2 where
  mk ::
  a0 : GL
  a1 : GL
  a2 : GL
  a3 : GL
  a4 : GL
  a5 : GL
  a6 : GL
  a7 : GL
  a8 : GL
  a9 : GL
  a10 : GL
  a11 : GL
  a12 : GL
  a13 : GL
  a14 : GL
  a15 : GL
noncomputable abbrev G2.get (n : G2) (d : DD) : GL := DD.rec (motive := fun _ => G2 → GL) (fun n => n.a0) (fun n => n.a1) (fun n => n.a2) (fun n => n.a3) (fun n => n.a4) (fun n => n.a5) (fun n => n.a6) (fun n => n.a7) (fun n => n.a8) (fun n => n.a9) (fun n => n.a10) (fun n => n.a11) (fun n => n.a12) (fun n => n.a13) (fun n => n.a14) (fun n => n.a15) d n
noncomputable abbrev G2.upd (v : GL) (d : DD) (n : G2) : G2 := DD.rec (motive := fun _ => G2 → GL → G2) (fun n v => G2.rec (motive := fun _ => GL → G2) (fun _ a1 a2 a3 a4 a5 a6 a7 a8 a9 a10 a11 a12 a13 a14 a15 v => .mk v a1 a2 a3 a4 a5 a6 a7 a8 a9 a10 a11 a12 a13 a14 a15) n v) (fun n v => G2.rec (motive := fun _ => GL → G2) (fun a0 _ a2 a3 a4 a5 a6 a7 a8 a9 a10 a11 a12 a13 a14 a15 v => .mk a0 v a2 a3 a4 a5 a6 a7 a8 a9 a10 a11 a12 a13 a14 a15) n v) (fun n v => G2.rec (motive := fun _ => GL → G2) (fun a0 a1 _ a3 a4 a5 a6 a7 a8 a9 a10 a11 a12 a13 a14 a15 v => .mk a0 a1 v a3 a4 a5 a6 a7 a8 a9 a10 a11 a12 a13 a14 a15) n v) (fun n v => G2.rec (motive := fun _ => GL → G2) (fun a0 a1 a2 _ a4 a5 a6 a7 a8 a9 a10 a11 a12 a13 a14 a15 v => .mk a0 a1 a2 v a4 a5 a6 a7 a8 a9 a10 a11 a12 a13 a14 a15) n v) (fun n v => G2.rec (motive := fun _ => GL → G2) (fun a0 a1 a2 a3 _ a5 a6 a7 a8 a9 a10 a11 a12 a13 a14 a15 v => .mk a0 a1 a2 a3 v a5 a6 a7 a8 a9 a10 a11 a12 a13 a14 a15) n v) (fun n v => G2.rec (motive := fun _ => GL → G2) (fun a0 a1 a2 a3 a4 _ a6 a7 a8 a9 a10 a11 a12 a13 a14 a15 v => .mk a0 a1 a2 a3 a4 v a6 a7 a8 a9 a10 a11 a12 a13 a14 a15) n v) (fun n v => G2.rec (motive := fun _ => GL → G2) (fun a0 a1 a2 a3 a4 a5 _ a7 a8 a9 a10 a11 a12 a13 a14 a15 v => .mk a0 a1 a2 a3 a4 a5 v a7 a8 a9 a10 a11 a12 a13 a14 a15) n v) (fun n v => G2.rec (motive := fun _ => GL → G2) (fun a0 a1 a2 a3 a4 a5 a6 _ a8 a9 a10 a11 a12 a13 a14 a15 v => .mk a0 a1 a2 a3 a4 a5 a6 v a8 a9 a10 a11 a12 a13 a14 a15) n v) (fun n v => G2.rec (motive := fun _ => GL → G2) (fun a0 a1 a2 a3 a4 a5 a6 a7 _ a9 a10 a11 a12 a13 a14 a15 v => .mk a0 a1 a2 a3 a4 a5 a6 a7 v a9 a10 a11 a12 a13 a14 a15) n v) (fun n v => G2.rec (motive := fun _ => GL → G2) (fun a0 a1 a2 a3 a4 a5 a6 a7 a8 _ a10 a11 a12 a13 a14 a15 v => .mk a0 a1 a2 a3 a4 a5 a6 a7 a8 v a10 a11 a12 a13 a14 a15) n v) (fun n v => G2.rec (motive := fun _ => GL → G2) (fun a0 a1 a2 a3 a4 a5 a6 a7 a8 a9 _ a11 a12 a13 a14 a15 v => .mk a0 a1 a2 a3 a4 a5 a6 a7 a8 a9 v a11 a12 a13 a14 a15) n v) (fun n v => G2.rec (motive := fun _ => GL → G2) (fun a0 a1 a2 a3 a4 a5 a6 a7 a8 a9 a10 _ a12 a13 a14 a15 v => .mk a0 a1 a2 a3 a4 a5 a6 a7 a8 a9 a10 v a12 a13 a14 a15) n v) (fun n v => G2.rec (motive := fun _ => GL → G2) (fun a0 a1 a2 a3 a4 a5 a6 a7 a8 a9 a10 a11 _ a13 a14 a15 v => .mk a0 a1 a2 a3 a4 a5 a6 a7 a8 a9 a10 a11 v a13 a14 a15) n v) (fun n v => G2.rec (motive := fun _ => GL → G2) (fun a0 a1 a2 a3 a4 a5 a6 a7 a8 a9 a10 a11 a12 _ a14 a15 v => .mk a0 a1 a2 a3 a4 a5 a6 a7 a8 a9 a10 a11 a12 v a14 a15) n v) (fun n v => G2.rec (motive := fun _ => GL → G2) (fun a0 a1 a2 a3 a4 a5 a6 a7 a8 a9 a10 a11 a12 a13 _ a15 v => .mk a0 a1 a2 a3 a4 a5 a6 a7 a8 a9 a10 a11 a12 a13 v a15) n v) (fun n v => G2.rec (motive := fun _ => GL → G2) (fun a0 a1 a2 a3 a4 a5 a6 a7 a8 a9 a10 a11 a12 a13 a14 _ v => .mk a0 a1 a2 a3 a4 a5 a6 a7 a8 a9 a10 a11 a12 a13 a14 v) n v) d n v
noncomputable abbrev G2.updK (v : GL) (d : DD) (n : G2) (k : G2 → Prop) : Prop := DD.rec (motive := fun _ => G2 → GL → (G2 → Prop) → Prop) (fun n v k => G2.rec (motive := fun _ => GL → (G2 → Prop) → Prop) (fun _ a1 a2 a3 a4 a5 a6 a7 a8 a9 a10 a11 a12 a13 a14 a15 v k => k (.mk v a1 a2 a3 a4 a5 a6 a7 a8 a9 a10 a11 a12 a13 a14 a15)) n v k) (fun n v k => G2.rec (motive := fun _ => GL → (G2 → Prop) → Prop) (fun a0 _ a2 a3 a4 a5 a6 a7 a8 a9 a10 a11 a12 a13 a14 a15 v k => k (.mk a0 v a2 a3 a4 a5 a6 a7 a8 a9 a10 a11 a12 a13 a14 a15)) n v k) (fun n v k => G2.rec (motive := fun _ => GL → (G2 → Prop) → Prop) (fun a0 a1 _ a3 a4 a5 a6 a7 a8 a9 a10 a11 a12 a13 a14 a15 v k => k (.mk a0 a1 v a3 a4 a5 a6 a7 a8 a9 a10 a11 a12 a13 a14 a15)) n v k) (fun n v k => G2.rec (motive := fun _ => GL → (G2 → Prop) → Prop) (fun a0 a1 a2 _ a4 a5 a6 a7 a8 a9 a10 a11 a12 a13 a14 a15 v k => k (.mk a0 a1 a2 v a4 a5 a6 a7 a8 a9 a10 a11 a12 a13 a14 a15)) n v k) (fun n v k => G2.rec (motive := fun _ => GL → (G2 → Prop) → Prop) (fun a0 a1 a2 a3 _ a5 a6 a7 a8 a9 a10 a11 a12 a13 a14 a15 v k => k (.mk a0 a1 a2 a3 v a5 a6 a7 a8 a9 a10 a11 a12 a13 a14 a15)) n v k) (fun n v k => G2.rec (motive := fun _ => GL → (G2 → Prop) → Prop) (fun a0 a1 a2 a3 a4 _ a6 a7 a8 a9 a10 a11 a12 a13 a14 a15 v k => k (.mk a0 a1 a2 a3 a4 v a6 a7 a8 a9 a10 a11 a12 a13 a14 a15)) n v k) (fun n v k => G2.rec (motive := fun _ => GL → (G2 → Prop) → Prop) (fun a0 a1 a2 a3 a4 a5 _ a7 a8 a9 a10 a11 a12 a13 a14 a15 v k => k (.mk a0 a1 a2 a3 a4 a5 v a7 a8 a9 a10 a11 a12 a13 a14 a15)) n v k) (fun n v k => G2.rec (motive := fun _ => GL → (G2 → Prop) → Prop) (fun a0 a1 a2 a3 a4 a5 a6 _ a8 a9 a10 a11 a12 a13 a14 a15 v k => k (.mk a0 a1 a2 a3 a4 a5 a6 v a8 a9 a10 a11 a12 a13 a14 a15)) n v k) (fun n v k => G2.rec (motive := fun _ => GL → (G2 → Prop) → Prop) (fun a0 a1 a2 a3 a4 a5 a6 a7 _ a9 a10 a11 a12 a13 a14 a15 v k => k (.mk a0 a1 a2 a3 a4 a5 a6 a7 v a9 a10 a11 a12 a13 a14 a15)) n v k) (fun n v k => G2.rec (motive := fun _ => GL → (G2 → Prop) → Prop) (fun a0 a1 a2 a3 a4 a5 a6 a7 a8 _ a10 a11 a12 a13 a14 a15 v k => k (.mk a0 a1 a2 a3 a4 a5 a6 a7 a8 v a10 a11 a12 a13 a14 a15)) n v k) (fun n v k => G2.rec (motive := fun _ => GL → (G2 → Prop) → Prop) (fun a0 a1 a2 a3 a4 a5 a6 a7 a8 a9 _ a11 a12 a13 a14 a15 v k => k (.mk a0 a1 a2 a3 a4 a5 a6 a7 a8 a9 v a11 a12 a13 a14 a15)) n v k) (fun n v k => G2.rec (motive := fun _ => GL → (G2 → Prop) → Prop) (fun a0 a1 a2 a3 a4 a5 a6 a7 a8 a9 a10 _ a12 a13 a14 a15 v k => k (.mk a0 a1 a2 a3 a4 a5 a6 a7 a8 a9 a10 v a12 a13 a14 a15)) n v k) (fun n v k => G2.rec (motive := fun _ => GL → (G2 → Prop) → Prop) (fun a0 a1 a2 a3 a4 a5 a6 a7 a8 a9 a10 a11 _ a13 a14 a15 v k => k (.mk a0 a1 a2 a3 a4 a5 a6 a7 a8 a9 a10 a11 v a13 a14 a15)) n v k) (fun n v k => G2.rec (motive := fun _ => GL → (G2 → Prop) → Prop) (fun a0 a1 a2 a3 a4 a5 a6 a7 a8 a9 a10 a11 a12 _ a14 a15 v k => k (.mk a0 a1 a2 a3 a4 a5 a6 a7 a8 a9 a10 a11 a12 v a14 a15)) n v k) (fun n v k => G2.rec (motive := fun _ => GL → (G2 → Prop) → Prop) (fun a0 a1 a2 a3 a4 a5 a6 a7 a8 a9 a10 a11 a12 a13 _ a15 v k => k (.mk a0 a1 a2 a3 a4 a5 a6 a7 a8 a9 a10 a11 a12 a13 v a15)) n v k) (fun n v k => G2.rec (motive := fun _ => GL → (G2 → Prop) → Prop) (fun a0 a1 a2 a3 a4 a5 a6 a7 a8 a9 a10 a11 a12 a13 a14 _ v k => k (.mk a0 a1 a2 a3 a4 a5 a6 a7 a8 a9 a10 a11 a12 a13 a14 v)) n v k) d n v k
theorem G2.updK_eq (v : GL) (d : DD) (n : G2) (k : G2 → Prop) : G2.updK v d n k = k (G2.upd v d n) := by cases d <;> cases n <;> rfl
theorem G2.get_upd_self (v : GL) (d : DD) (n : G2) : (G2.upd v d n).get d = v := by cases d <;> cases n <;> rfl
theorem G2.get_upd_ne (v : GL) (d e : DD) (n : G2) (h : d ≠ e) : (G2.upd v d n).get e = n.get e := by
  cases n
  cases d <;> cases e <;> first | rfl | exact absurd rfl h

structure G1 where
  mk ::
  a0 : G2
  a1 : G2
  a2 : G2
  a3 : G2
  a4 : G2
  a5 : G2
  a6 : G2
  a7 : G2
  a8 : G2
  a9 : G2
  a10 : G2
  a11 : G2
  a12 : G2
  a13 : G2
  a14 : G2
  a15 : G2
noncomputable abbrev G1.get (n : G1) (d : DD) : G2 := DD.rec (motive := fun _ => G1 → G2) (fun n => n.a0) (fun n => n.a1) (fun n => n.a2) (fun n => n.a3) (fun n => n.a4) (fun n => n.a5) (fun n => n.a6) (fun n => n.a7) (fun n => n.a8) (fun n => n.a9) (fun n => n.a10) (fun n => n.a11) (fun n => n.a12) (fun n => n.a13) (fun n => n.a14) (fun n => n.a15) d n
noncomputable abbrev G1.upd (v : G2) (d : DD) (n : G1) : G1 := DD.rec (motive := fun _ => G1 → G2 → G1) (fun n v => G1.rec (motive := fun _ => G2 → G1) (fun _ a1 a2 a3 a4 a5 a6 a7 a8 a9 a10 a11 a12 a13 a14 a15 v => .mk v a1 a2 a3 a4 a5 a6 a7 a8 a9 a10 a11 a12 a13 a14 a15) n v) (fun n v => G1.rec (motive := fun _ => G2 → G1) (fun a0 _ a2 a3 a4 a5 a6 a7 a8 a9 a10 a11 a12 a13 a14 a15 v => .mk a0 v a2 a3 a4 a5 a6 a7 a8 a9 a10 a11 a12 a13 a14 a15) n v) (fun n v => G1.rec (motive := fun _ => G2 → G1) (fun a0 a1 _ a3 a4 a5 a6 a7 a8 a9 a10 a11 a12 a13 a14 a15 v => .mk a0 a1 v a3 a4 a5 a6 a7 a8 a9 a10 a11 a12 a13 a14 a15) n v) (fun n v => G1.rec (motive := fun _ => G2 → G1) (fun a0 a1 a2 _ a4 a5 a6 a7 a8 a9 a10 a11 a12 a13 a14 a15 v => .mk a0 a1 a2 v a4 a5 a6 a7 a8 a9 a10 a11 a12 a13 a14 a15) n v) (fun n v => G1.rec (motive := fun _ => G2 → G1) (fun a0 a1 a2 a3 _ a5 a6 a7 a8 a9 a10 a11 a12 a13 a14 a15 v => .mk a0 a1 a2 a3 v a5 a6 a7 a8 a9 a10 a11 a12 a13 a14 a15) n v) (fun n v => G1.rec (motive := fun _ => G2 → G1) (fun a0 a1 a2 a3 a4 _ a6 a7 a8 a9 a10 a11 a12 a13 a14 a15 v => .mk a0 a1 a2 a3 a4 v a6 a7 a8 a9 a10 a11 a12 a13 a14 a15) n v) (fun n v => G1.rec (motive := fun _ => G2 → G1) (fun a0 a1 a2 a3 a4 a5 _ a7 a8 a9 a10 a11 a12 a13 a14 a15 v => .mk a0 a1 a2 a3 a4 a5 v a7 a8 a9 a10 a11 a12 a13 a14 a15) n v) (fun n v => G1.rec (motive := fun _ => G2 → G1) (fun a0 a1 a2 a3 a4 a5 a6 _ a8 a9 a10 a11 a12 a13 a14 a15 v => .mk a0 a1 a2 a3 a4 a5 a6 v a8 a9 a10 a11 a12 a13 a14 a15) n v) (fun n v => G1.rec (motive := fun _ => G2 → G1) (fun a0 a1 a2 a3 a4 a5 a6 a7 _ a9 a10 a11 a12 a13 a14 a15 v => .mk a0 a1 a2 a3 a4 a5 a6 a7 v a9 a10 a11 a12 a13 a14 a15) n v) (fun n v => G1.rec (motive := fun _ => G2 → G1) (fun a0 a1 a2 a3 a4 a5 a6 a7 a8 _ a10 a11 a12 a13 a14 a15 v => .mk a0 a1 a2 a3 a4 a5 a6 a7 a8 v a10 a11 a12 a13 a14 a15) n v) (fun n v => G1.rec (motive := fun _ => G2 → G1) (fun a0 a1 a2 a3 a4 a5 a6 a7 a8 a9 _ a11 a12 a13 a14 a15 v => .mk a0 a1 a2 a3 a4 a5 a6 a7 a8 a9 v a11 a12 a13 a14 a15) n v) (fun n v => G1.rec (motive := fun _ => G2 → G1) (fun a0 a1 a2 a3 a4 a5 a6 a7 a8 a9 a10 _ a12 a13 a14 a15 v => .mk a0 a1 a2 a3 a4 a5 a6 a7 a8 a9 a10 v a12 a13 a14 a15) n v) (fun n v => G1.rec (motive := fun _ => G2 → G1) (fun a0 a1 a2 a3 a4 a5 a6 a7 a8 a9 a10 a11 _ a13 a14 a15 v => .mk a0 a1 a2 a3 a4 a5 a6 a7 a8 a9 a10 a11 v a13 a14 a15) n v) (fun n v => G1.rec (motive := fun _ => G2 → G1) (fun a0 a1 a2 a3 a4 a5 a6 a7 a8 a9 a10 a11 a12 _ a14 a15 v => .mk a0 a1 a2 a3 a4 a5 a6 a7 a8 a9 a10 a11 a12 v a14 a15) n v) (fun n v => G1.rec (motive := fun _ => G2 → G1) (fun a0 a1 a2 a3 a4 a5 a6 a7 a8 a9 a10 a11 a12 a13 _ a15 v => .mk a0 a1 a2 a3 a4 a5 a6 a7 a8 a9 a10 a11 a12 a13 v a15) n v) (fun n v => G1.rec (motive := fun _ => G2 → G1) (fun a0 a1 a2 a3 a4 a5 a6 a7 a8 a9 a10 a11 a12 a13 a14 _ v => .mk a0 a1 a2 a3 a4 a5 a6 a7 a8 a9 a10 a11 a12 a13 a14 v) n v) d n v
noncomputable abbrev G1.updK (v : G2) (d : DD) (n : G1) (k : G1 → Prop) : Prop := DD.rec (motive := fun _ => G1 → G2 → (G1 → Prop) → Prop) (fun n v k => G1.rec (motive := fun _ => G2 → (G1 → Prop) → Prop) (fun _ a1 a2 a3 a4 a5 a6 a7 a8 a9 a10 a11 a12 a13 a14 a15 v k => k (.mk v a1 a2 a3 a4 a5 a6 a7 a8 a9 a10 a11 a12 a13 a14 a15)) n v k) (fun n v k => G1.rec (motive := fun _ => G2 → (G1 → Prop) → Prop) (fun a0 _ a2 a3 a4 a5 a6 a7 a8 a9 a10 a11 a12 a13 a14 a15 v k => k (.mk a0 v a2 a3 a4 a5 a6 a7 a8 a9 a10 a11 a12 a13 a14 a15)) n v k) (fun n v k => G1.rec (motive := fun _ => G2 → (G1 → Prop) → Prop) (fun a0 a1 _ a3 a4 a5 a6 a7 a8 a9 a10 a11 a12 a13 a14 a15 v k => k (.mk a0 a1 v a3 a4 a5 a6 a7 a8 a9 a10 a11 a12 a13 a14 a15)) n v k) (fun n v k => G1.rec (motive := fun _ => G2 → (G1 → Prop) → Prop) (fun a0 a1 a2 _ a4 a5 a6 a7 a8 a9 a10 a11 a12 a13 a14 a15 v k => k (.mk a0 a1 a2 v a4 a5 a6 a7 a8 a9 a10 a11 a12 a13 a14 a15)) n v k) (fun n v k => G1.rec (motive := fun _ => G2 → (G1 → Prop) → Prop) (fun a0 a1 a2 a3 _ a5 a6 a7 a8 a9 a10 a11 a12 a13 a14 a15 v k => k (.mk a0 a1 a2 a3 v a5 a6 a7 a8 a9 a10 a11 a12 a13 a14 a15)) n v k) (fun n v k => G1.rec (motive := fun _ => G2 → (G1 → Prop) → Prop) (fun a0 a1 a2 a3 a4 _ a6 a7 a8 a9 a10 a11 a12 a13 a14 a15 v k => k (.mk a0 a1 a2 a3 a4 v a6 a7 a8 a9 a10 a11 a12 a13 a14 a15)) n v k) (fun n v k => G1.rec (motive := fun _ => G2 → (G1 → Prop) → Prop) (fun a0 a1 a2 a3 a4 a5 _ a7 a8 a9 a10 a11 a12 a13 a14 a15 v k => k (.mk a0 a1 a2 a3 a4 a5 v a7 a8 a9 a10 a11 a12 a13 a14 a15)) n v k) (fun n v k => G1.rec (motive := fun _ => G2 → (G1 → Prop) → Prop) (fun a0 a1 a2 a3 a4 a5 a6 _ a8 a9 a10 a11 a12 a13 a14 a15 v k => k (.mk a0 a1 a2 a3 a4 a5 a6 v a8 a9 a10 a11 a12 a13 a14 a15)) n v k) (fun n v k => G1.rec (motive := fun _ => G2 → (G1 → Prop) → Prop) (fun a0 a1 a2 a3 a4 a5 a6 a7 _ a9 a10 a11 a12 a13 a14 a15 v k => k (.mk a0 a1 a2 a3 a4 a5 a6 a7 v a9 a10 a11 a12 a13 a14 a15)) n v k) (fun n v k => G1.rec (motive := fun _ => G2 → (G1 → Prop) → Prop) (fun a0 a1 a2 a3 a4 a5 a6 a7 a8 _ a10 a11 a12 a13 a14 a15 v k => k (.mk a0 a1 a2 a3 a4 a5 a6 a7 a8 v a10 a11 a12 a13 a14 a15)) n v k) (fun n v k => G1.rec (motive := fun _ => G2 → (G1 → Prop) → Prop) (fun a0 a1 a2 a3 a4 a5 a6 a7 a8 a9 _ a11 a12 a13 a14 a15 v k => k (.mk a0 a1 a2 a3 a4 a5 a6 a7 a8 a9 v a11 a12 a13 a14 a15)) n v k) (fun n v k => G1.rec (motive := fun _ => G2 → (G1 → Prop) → Prop) (fun a0 a1 a2 a3 a4 a5 a6 a7 a8 a9 a10 _ a12 a13 a14 a15 v k => k (.mk a0 a1 a2 a3 a4 a5 a6 a7 a8 a9 a10 v a12 a13 a14 a15)) n v k) (fun n v k => G1.rec (motive := fun _ => G2 → (G1 → Prop) → Prop) (fun a0 a1 a2 a3 a4 a5 a6 a7 a8 a9 a10 a11 _ a13 a14 a15 v k => k (.mk a0 a1 a2 a3 a4 a5 a6 a7 a8 a9 a10 a11 v a13 a14 a15)) n v k) (fun n v k => G1.rec (motive := fun _ => G2 → (G1 → Prop) → Prop) (fun a0 a1 a2 a3 a4 a5 a6 a7 a8 a9 a10 a11 a12 _ a14 a15 v k => k (.mk a0 a1 a2 a3 a4 a5 a6 a7 a8 a9 a10 a11 a12 v a14 a15)) n v k) (fun n v k => G1.rec (motive := fun _ => G2 → (G1 → Prop) → Prop) (fun a0 a1 a2 a3 a4 a5 a6 a7 a8 a9 a10 a11 a12 a13 _ a15 v k => k (.mk a0 a1 a2 a3 a4 a5 a6 a7 a8 a9 a10 a11 a12 a13 v a15)) n v k) (fun n v k => G1.rec (motive := fun _ => G2 → (G1 → Prop) → Prop) (fun a0 a1 a2 a3 a4 a5 a6 a7 a8 a9 a10 a11 a12 a13 a14 _ v k => k (.mk a0 a1 a2 a3 a4 a5 a6 a7 a8 a9 a10 a11 a12 a13 a14 v)) n v k) d n v k
theorem G1.updK_eq (v : G2) (d : DD) (n : G1) (k : G1 → Prop) : G1.updK v d n k = k (G1.upd v d n) := by cases d <;> cases n <;> rfl
theorem G1.get_upd_self (v : G2) (d : DD) (n : G1) : (G1.upd v d n).get d = v := by cases d <;> cases n <;> rfl
theorem G1.get_upd_ne (v : G2) (d e : DD) (n : G1) (h : d ≠ e) : (G1.upd v d n).get e = n.get e := by
  cases n
  cases d <;> cases e <;> first | rfl | exact absurd rfl h

/-- A slot's place: two digits of sixteen, the lowest first, then a number. -/
structure GPos where
  d0 : DD
  d1 : DD
  r : Nat
noncomputable abbrev gpos (n : Nat) : GPos := ⟨digg (n % 16), digg (n / 16 % 16), n / 256⟩
theorem gpos_inj {m n : Nat} (h : gpos m = gpos n) : m = n := by
  have h' := GPos.mk.inj h
  obtain ⟨h0, h1, hr⟩ := h'
  have h0 := digg_inj (by omega) (by omega) h0
  have h1 := digg_inj (by omega) (by omega) h1
  omega
noncomputable def GL.lf : GL := ⟨undefV, .lf⟩
noncomputable def G2.lf : G2 := .mk GL.lf GL.lf GL.lf GL.lf GL.lf GL.lf GL.lf GL.lf GL.lf GL.lf GL.lf GL.lf GL.lf GL.lf GL.lf GL.lf
noncomputable def G1.lf : G1 := .mk G2.lf G2.lf G2.lf G2.lf G2.lf G2.lf G2.lf G2.lf G2.lf G2.lf G2.lf G2.lf G2.lf G2.lf G2.lf G2.lf
abbrev Fr := G1
noncomputable abbrev getS (fr : Fr) (p : GPos) : AV := GL.get (G2.get (G1.get fr p.d0) p.d1) p.r
noncomputable abbrev putS (x : AV) (p : GPos) (fr : Fr) : Fr := G1.upd (G2.upd (GL.upd x p.r (G2.get (G1.get fr p.d0) p.d1)) p.d1 (G1.get fr p.d0)) p.d0 fr
noncomputable abbrev putSK (x : AV) (p : GPos) (fr : Fr) (k : Fr → Prop) : Prop := GL.updK x p.r (G2.get (G1.get fr p.d0) p.d1) fun c => G2.updK c p.d1 (G1.get fr p.d0) fun c => G1.updK c p.d0 fr k
theorem putSK_eq (x : AV) (p : GPos) (fr : Fr) (k : Fr → Prop) : putSK x p fr k = k (putS x p fr) := by simp only [putSK, putS, GL.updK_eq, G2.updK_eq, G1.updK_eq]
theorem G1.get_lf (d : DD) : G1.lf.get d = G2.lf := by cases d <;> rfl
theorem G2.get_lf (d : DD) : G2.lf.get d = GL.lf := by cases d <;> rfl
theorem getS_lf (p : GPos) : getS G1.lf p = undefV := by
  simp only [getS, G1.get_lf, G2.get_lf]
  cases p.r with
  | zero => rfl
  | succ m =>
    show Option.rec (motive := fun _ => AV) undefV (fun v => v) (VL.get VL.lf (npos0 m)) = undefV
    rw [VL.get_lf]
theorem getS_put_self (x : AV) (p : GPos) (fr : Fr) : getS (putS x p fr) p = x := by
  simp only [getS, putS, GL.get_upd_self, G2.get_upd_self, G1.get_upd_self]
theorem getS_put_ne (x : AV) (p q : GPos) (fr : Fr) (h : p ≠ q) : getS (putS x p fr) q = getS fr q := by
  obtain ⟨d0, d1, r⟩ := p
  obtain ⟨f0, f1, s⟩ := q
  simp only [getS, putS]
  by_cases h0 : d0 = f0
  case neg => rw [G1.get_upd_ne _ _ _ _ h0]
  subst h0
  rw [G1.get_upd_self]
  by_cases h1 : d1 = f1
  case neg => rw [G2.get_upd_ne _ _ _ _ h1]
  subst h1
  rw [G2.get_upd_self]
  by_cases hr : r = s
  · subst hr; exact absurd rfl h
  · rw [GL.get_upd_ne _ _ _ _ hr]

inductive AObj where
  | row (cs : List AV)
  | big (n : Nat) (t : V1) (d : List AV)
  | byts (n x : Nat)
  | map (es : List (AV × AV × Nat)) (clock : Nat)
  | sit (n x pos : Nat)
  | mit (m : Option Nat) (since : Nat) (seen : List Nat) (stepped : Nat)

structure Ent where
  own : Bool
  esz : Nat
  obj : AObj

/-! ### maps to objects -/
inductive EL where
  | lf : EL
  | nd (l : EL) (v : Option Ent) (r : EL) : EL
noncomputable def EL.get (t : EL) (p : Pos0) : Option Ent :=
  Pos0.rec (motive := fun _ => EL → Option Ent)
    (fun t => EL.rec (motive := fun _ => Option Ent) none (fun _ v _ _ _ => v) t)
    (fun _ ih t => EL.rec (motive := fun _ => Option Ent) none (fun l _ _ _ _ => ih l) t)
    (fun _ ih t => EL.rec (motive := fun _ => Option Ent) none (fun _ _ r _ _ => ih r) t) p t
noncomputable def EL.upd (x : Option Ent) (p : Pos0) (t : EL) : EL :=
  Pos0.rec (motive := fun _ => EL → EL)
    (fun t => EL.rec (motive := fun _ => EL) (.nd .lf x .lf) (fun l _ r _ _ => .nd l x r) t)
    (fun _ ih t => EL.rec (motive := fun _ => EL) (.nd (ih .lf) none .lf) (fun l v r _ _ => .nd (ih l) v r) t)
    (fun _ ih t => EL.rec (motive := fun _ => EL) (.nd .lf none (ih .lf)) (fun l v r _ _ => .nd l v (ih r)) t) p t
noncomputable def EL.updK (x : Option Ent) (p : Pos0) (t : EL) (k : EL → Prop) : Prop :=
  Pos0.rec (motive := fun _ => Option Ent → EL → (EL → Prop) → Prop)
    (fun x t k => EL.rec (motive := fun _ => Option Ent → (EL → Prop) → Prop) (fun x k => k (.nd .lf x .lf)) (fun l _ r _ _ x k => k (.nd l x r)) t x k)
    (fun _ ih x t k => EL.rec (motive := fun _ => Prop) (ih x .lf fun l => k (.nd l none .lf)) (fun l v r _ _ => ih x l fun l => k (.nd l v r)) t)
    (fun _ ih x t k => EL.rec (motive := fun _ => Prop) (ih x .lf fun r => k (.nd .lf none r)) (fun l v r _ _ => ih x r fun r => k (.nd l v r)) t) p x t k
theorem EL.updK_eq (x : Option Ent) (p : Pos0) : ∀ (t : EL) (k : EL → Prop), EL.updK x p t k = k (EL.upd x p t) := by
  induction p with
  | h => intro t k; cases t <;> rfl
  | o p ih => intro t k; cases t with
    | lf => exact ih .lf fun l => k (.nd l none .lf)
    | nd l v r => exact ih l fun l => k (.nd l v r)
  | i p ih => intro t k; cases t with
    | lf => exact ih .lf fun r => k (.nd .lf none r)
    | nd l v r => exact ih r fun r => k (.nd l v r)
theorem EL.get_lf (p : Pos0) : (EL.lf : EL).get p = none := by cases p <;> rfl
theorem EL.get_upd_self (x : Option Ent) (p : Pos0) : ∀ (t : EL), (EL.upd x p t).get p = x := by
  induction p with
  | h => intro t; cases t <;> rfl
  | o p ih => intro t; cases t with
    | lf => exact ih .lf
    | nd l v r => exact ih l
  | i p ih => intro t; cases t with
    | lf => exact ih .lf
    | nd l v r => exact ih r
theorem EL.get_upd_ne (x : Option Ent) : ∀ (p q : Pos0) (t : EL), p ≠ q → (EL.upd x p t).get q = t.get q
  | .h, .h, t, hne => absurd rfl hne
  | .h, .o q, t, _ => by cases t <;> first | rfl | exact EL.get_lf q
  | .h, .i q, t, _ => by cases t <;> first | rfl | exact EL.get_lf q
  | .o p, .h, t, _ => by cases t <;> rfl
  | .o p, .o q, t, hne => by
    have hne' : p ≠ q := fun e => hne (e ▸ rfl)
    cases t with
    | lf => exact (EL.get_upd_ne x p q .lf hne').trans ((EL.get_lf q).trans rfl)
    | nd l v r => exact EL.get_upd_ne x p q l hne'
  | .o p, .i q, t, _ => by cases t <;> first | rfl | exact EL.get_lf q
  | .i p, .h, t, _ => by cases t <;> rfl
  | .i p, .o q, t, _ => by cases t <;> first | rfl | exact EL.get_lf q
  | .i p, .i q, t, hne => by
    have hne' : p ≠ q := fun e => hne (e ▸ rfl)
    cases t with
    | lf => exact (EL.get_upd_ne x p q .lf hne').trans ((EL.get_lf q).trans rfl)
    | nd l v r => exact EL.get_upd_ne x p q r hne'

structure E4 where
  mk ::
  a0 : EL
  a1 : EL
  a2 : EL
  a3 : EL
  a4 : EL
  a5 : EL
  a6 : EL
  a7 : EL
noncomputable def E4.get (n : E4) (d : D) : EL := D.rec (motive := fun _ => E4 → EL) (fun n => n.a0) (fun n => n.a1) (fun n => n.a2) (fun n => n.a3) (fun n => n.a4) (fun n => n.a5) (fun n => n.a6) (fun n => n.a7) d n
noncomputable def E4.upd (v : EL) (d : D) (n : E4) : E4 := D.rec (motive := fun _ => E4 → EL → E4) (fun n v => E4.rec (motive := fun _ => EL → E4) (fun _ a1 a2 a3 a4 a5 a6 a7 v => .mk v a1 a2 a3 a4 a5 a6 a7) n v) (fun n v => E4.rec (motive := fun _ => EL → E4) (fun a0 _ a2 a3 a4 a5 a6 a7 v => .mk a0 v a2 a3 a4 a5 a6 a7) n v) (fun n v => E4.rec (motive := fun _ => EL → E4) (fun a0 a1 _ a3 a4 a5 a6 a7 v => .mk a0 a1 v a3 a4 a5 a6 a7) n v) (fun n v => E4.rec (motive := fun _ => EL → E4) (fun a0 a1 a2 _ a4 a5 a6 a7 v => .mk a0 a1 a2 v a4 a5 a6 a7) n v) (fun n v => E4.rec (motive := fun _ => EL → E4) (fun a0 a1 a2 a3 _ a5 a6 a7 v => .mk a0 a1 a2 a3 v a5 a6 a7) n v) (fun n v => E4.rec (motive := fun _ => EL → E4) (fun a0 a1 a2 a3 a4 _ a6 a7 v => .mk a0 a1 a2 a3 a4 v a6 a7) n v) (fun n v => E4.rec (motive := fun _ => EL → E4) (fun a0 a1 a2 a3 a4 a5 _ a7 v => .mk a0 a1 a2 a3 a4 a5 v a7) n v) (fun n v => E4.rec (motive := fun _ => EL → E4) (fun a0 a1 a2 a3 a4 a5 a6 _ v => .mk a0 a1 a2 a3 a4 a5 a6 v) n v) d n v
noncomputable def E4.updK (v : EL) (d : D) (n : E4) (k : E4 → Prop) : Prop := D.rec (motive := fun _ => E4 → EL → (E4 → Prop) → Prop) (fun n v k => E4.rec (motive := fun _ => EL → (E4 → Prop) → Prop) (fun _ a1 a2 a3 a4 a5 a6 a7 v k => k (.mk v a1 a2 a3 a4 a5 a6 a7)) n v k) (fun n v k => E4.rec (motive := fun _ => EL → (E4 → Prop) → Prop) (fun a0 _ a2 a3 a4 a5 a6 a7 v k => k (.mk a0 v a2 a3 a4 a5 a6 a7)) n v k) (fun n v k => E4.rec (motive := fun _ => EL → (E4 → Prop) → Prop) (fun a0 a1 _ a3 a4 a5 a6 a7 v k => k (.mk a0 a1 v a3 a4 a5 a6 a7)) n v k) (fun n v k => E4.rec (motive := fun _ => EL → (E4 → Prop) → Prop) (fun a0 a1 a2 _ a4 a5 a6 a7 v k => k (.mk a0 a1 a2 v a4 a5 a6 a7)) n v k) (fun n v k => E4.rec (motive := fun _ => EL → (E4 → Prop) → Prop) (fun a0 a1 a2 a3 _ a5 a6 a7 v k => k (.mk a0 a1 a2 a3 v a5 a6 a7)) n v k) (fun n v k => E4.rec (motive := fun _ => EL → (E4 → Prop) → Prop) (fun a0 a1 a2 a3 a4 _ a6 a7 v k => k (.mk a0 a1 a2 a3 a4 v a6 a7)) n v k) (fun n v k => E4.rec (motive := fun _ => EL → (E4 → Prop) → Prop) (fun a0 a1 a2 a3 a4 a5 _ a7 v k => k (.mk a0 a1 a2 a3 a4 a5 v a7)) n v k) (fun n v k => E4.rec (motive := fun _ => EL → (E4 → Prop) → Prop) (fun a0 a1 a2 a3 a4 a5 a6 _ v k => k (.mk a0 a1 a2 a3 a4 a5 a6 v)) n v k) d n v k
theorem E4.updK_eq (v : EL) (d : D) (n : E4) (k : E4 → Prop) : E4.updK v d n k = k (E4.upd v d n) := by cases d <;> cases n <;> rfl
theorem E4.get_upd_self (v : EL) (d : D) (n : E4) : (E4.upd v d n).get d = v := by cases d <;> cases n <;> rfl
theorem E4.get_upd_ne (v : EL) (d e : D) (n : E4) (h : d ≠ e) : (E4.upd v d n).get e = n.get e := by
  cases n
  cases d <;> cases e <;> first | rfl | exact absurd rfl h

structure E3 where
  mk ::
  a0 : E4
  a1 : E4
  a2 : E4
  a3 : E4
  a4 : E4
  a5 : E4
  a6 : E4
  a7 : E4
noncomputable def E3.get (n : E3) (d : D) : E4 := D.rec (motive := fun _ => E3 → E4) (fun n => n.a0) (fun n => n.a1) (fun n => n.a2) (fun n => n.a3) (fun n => n.a4) (fun n => n.a5) (fun n => n.a6) (fun n => n.a7) d n
noncomputable def E3.upd (v : E4) (d : D) (n : E3) : E3 := D.rec (motive := fun _ => E3 → E4 → E3) (fun n v => E3.rec (motive := fun _ => E4 → E3) (fun _ a1 a2 a3 a4 a5 a6 a7 v => .mk v a1 a2 a3 a4 a5 a6 a7) n v) (fun n v => E3.rec (motive := fun _ => E4 → E3) (fun a0 _ a2 a3 a4 a5 a6 a7 v => .mk a0 v a2 a3 a4 a5 a6 a7) n v) (fun n v => E3.rec (motive := fun _ => E4 → E3) (fun a0 a1 _ a3 a4 a5 a6 a7 v => .mk a0 a1 v a3 a4 a5 a6 a7) n v) (fun n v => E3.rec (motive := fun _ => E4 → E3) (fun a0 a1 a2 _ a4 a5 a6 a7 v => .mk a0 a1 a2 v a4 a5 a6 a7) n v) (fun n v => E3.rec (motive := fun _ => E4 → E3) (fun a0 a1 a2 a3 _ a5 a6 a7 v => .mk a0 a1 a2 a3 v a5 a6 a7) n v) (fun n v => E3.rec (motive := fun _ => E4 → E3) (fun a0 a1 a2 a3 a4 _ a6 a7 v => .mk a0 a1 a2 a3 a4 v a6 a7) n v) (fun n v => E3.rec (motive := fun _ => E4 → E3) (fun a0 a1 a2 a3 a4 a5 _ a7 v => .mk a0 a1 a2 a3 a4 a5 v a7) n v) (fun n v => E3.rec (motive := fun _ => E4 → E3) (fun a0 a1 a2 a3 a4 a5 a6 _ v => .mk a0 a1 a2 a3 a4 a5 a6 v) n v) d n v
noncomputable def E3.updK (v : E4) (d : D) (n : E3) (k : E3 → Prop) : Prop := D.rec (motive := fun _ => E3 → E4 → (E3 → Prop) → Prop) (fun n v k => E3.rec (motive := fun _ => E4 → (E3 → Prop) → Prop) (fun _ a1 a2 a3 a4 a5 a6 a7 v k => k (.mk v a1 a2 a3 a4 a5 a6 a7)) n v k) (fun n v k => E3.rec (motive := fun _ => E4 → (E3 → Prop) → Prop) (fun a0 _ a2 a3 a4 a5 a6 a7 v k => k (.mk a0 v a2 a3 a4 a5 a6 a7)) n v k) (fun n v k => E3.rec (motive := fun _ => E4 → (E3 → Prop) → Prop) (fun a0 a1 _ a3 a4 a5 a6 a7 v k => k (.mk a0 a1 v a3 a4 a5 a6 a7)) n v k) (fun n v k => E3.rec (motive := fun _ => E4 → (E3 → Prop) → Prop) (fun a0 a1 a2 _ a4 a5 a6 a7 v k => k (.mk a0 a1 a2 v a4 a5 a6 a7)) n v k) (fun n v k => E3.rec (motive := fun _ => E4 → (E3 → Prop) → Prop) (fun a0 a1 a2 a3 _ a5 a6 a7 v k => k (.mk a0 a1 a2 a3 v a5 a6 a7)) n v k) (fun n v k => E3.rec (motive := fun _ => E4 → (E3 → Prop) → Prop) (fun a0 a1 a2 a3 a4 _ a6 a7 v k => k (.mk a0 a1 a2 a3 a4 v a6 a7)) n v k) (fun n v k => E3.rec (motive := fun _ => E4 → (E3 → Prop) → Prop) (fun a0 a1 a2 a3 a4 a5 _ a7 v k => k (.mk a0 a1 a2 a3 a4 a5 v a7)) n v k) (fun n v k => E3.rec (motive := fun _ => E4 → (E3 → Prop) → Prop) (fun a0 a1 a2 a3 a4 a5 a6 _ v k => k (.mk a0 a1 a2 a3 a4 a5 a6 v)) n v k) d n v k
theorem E3.updK_eq (v : E4) (d : D) (n : E3) (k : E3 → Prop) : E3.updK v d n k = k (E3.upd v d n) := by cases d <;> cases n <;> rfl
theorem E3.get_upd_self (v : E4) (d : D) (n : E3) : (E3.upd v d n).get d = v := by cases d <;> cases n <;> rfl
theorem E3.get_upd_ne (v : E4) (d e : D) (n : E3) (h : d ≠ e) : (E3.upd v d n).get e = n.get e := by
  cases n
  cases d <;> cases e <;> first | rfl | exact absurd rfl h

structure E2 where
  mk ::
  a0 : E3
  a1 : E3
  a2 : E3
  a3 : E3
  a4 : E3
  a5 : E3
  a6 : E3
  a7 : E3
noncomputable def E2.get (n : E2) (d : D) : E3 := D.rec (motive := fun _ => E2 → E3) (fun n => n.a0) (fun n => n.a1) (fun n => n.a2) (fun n => n.a3) (fun n => n.a4) (fun n => n.a5) (fun n => n.a6) (fun n => n.a7) d n
noncomputable def E2.upd (v : E3) (d : D) (n : E2) : E2 := D.rec (motive := fun _ => E2 → E3 → E2) (fun n v => E2.rec (motive := fun _ => E3 → E2) (fun _ a1 a2 a3 a4 a5 a6 a7 v => .mk v a1 a2 a3 a4 a5 a6 a7) n v) (fun n v => E2.rec (motive := fun _ => E3 → E2) (fun a0 _ a2 a3 a4 a5 a6 a7 v => .mk a0 v a2 a3 a4 a5 a6 a7) n v) (fun n v => E2.rec (motive := fun _ => E3 → E2) (fun a0 a1 _ a3 a4 a5 a6 a7 v => .mk a0 a1 v a3 a4 a5 a6 a7) n v) (fun n v => E2.rec (motive := fun _ => E3 → E2) (fun a0 a1 a2 _ a4 a5 a6 a7 v => .mk a0 a1 a2 v a4 a5 a6 a7) n v) (fun n v => E2.rec (motive := fun _ => E3 → E2) (fun a0 a1 a2 a3 _ a5 a6 a7 v => .mk a0 a1 a2 a3 v a5 a6 a7) n v) (fun n v => E2.rec (motive := fun _ => E3 → E2) (fun a0 a1 a2 a3 a4 _ a6 a7 v => .mk a0 a1 a2 a3 a4 v a6 a7) n v) (fun n v => E2.rec (motive := fun _ => E3 → E2) (fun a0 a1 a2 a3 a4 a5 _ a7 v => .mk a0 a1 a2 a3 a4 a5 v a7) n v) (fun n v => E2.rec (motive := fun _ => E3 → E2) (fun a0 a1 a2 a3 a4 a5 a6 _ v => .mk a0 a1 a2 a3 a4 a5 a6 v) n v) d n v
noncomputable def E2.updK (v : E3) (d : D) (n : E2) (k : E2 → Prop) : Prop := D.rec (motive := fun _ => E2 → E3 → (E2 → Prop) → Prop) (fun n v k => E2.rec (motive := fun _ => E3 → (E2 → Prop) → Prop) (fun _ a1 a2 a3 a4 a5 a6 a7 v k => k (.mk v a1 a2 a3 a4 a5 a6 a7)) n v k) (fun n v k => E2.rec (motive := fun _ => E3 → (E2 → Prop) → Prop) (fun a0 _ a2 a3 a4 a5 a6 a7 v k => k (.mk a0 v a2 a3 a4 a5 a6 a7)) n v k) (fun n v k => E2.rec (motive := fun _ => E3 → (E2 → Prop) → Prop) (fun a0 a1 _ a3 a4 a5 a6 a7 v k => k (.mk a0 a1 v a3 a4 a5 a6 a7)) n v k) (fun n v k => E2.rec (motive := fun _ => E3 → (E2 → Prop) → Prop) (fun a0 a1 a2 _ a4 a5 a6 a7 v k => k (.mk a0 a1 a2 v a4 a5 a6 a7)) n v k) (fun n v k => E2.rec (motive := fun _ => E3 → (E2 → Prop) → Prop) (fun a0 a1 a2 a3 _ a5 a6 a7 v k => k (.mk a0 a1 a2 a3 v a5 a6 a7)) n v k) (fun n v k => E2.rec (motive := fun _ => E3 → (E2 → Prop) → Prop) (fun a0 a1 a2 a3 a4 _ a6 a7 v k => k (.mk a0 a1 a2 a3 a4 v a6 a7)) n v k) (fun n v k => E2.rec (motive := fun _ => E3 → (E2 → Prop) → Prop) (fun a0 a1 a2 a3 a4 a5 _ a7 v k => k (.mk a0 a1 a2 a3 a4 a5 v a7)) n v k) (fun n v k => E2.rec (motive := fun _ => E3 → (E2 → Prop) → Prop) (fun a0 a1 a2 a3 a4 a5 a6 _ v k => k (.mk a0 a1 a2 a3 a4 a5 a6 v)) n v k) d n v k
theorem E2.updK_eq (v : E3) (d : D) (n : E2) (k : E2 → Prop) : E2.updK v d n k = k (E2.upd v d n) := by cases d <;> cases n <;> rfl
theorem E2.get_upd_self (v : E3) (d : D) (n : E2) : (E2.upd v d n).get d = v := by cases d <;> cases n <;> rfl
theorem E2.get_upd_ne (v : E3) (d e : D) (n : E2) (h : d ≠ e) : (E2.upd v d n).get e = n.get e := by
  cases n
  cases d <;> cases e <;> first | rfl | exact absurd rfl h

structure E1 where
  mk ::
  a0 : E2
  a1 : E2
  a2 : E2
  a3 : E2
  a4 : E2
  a5 : E2
  a6 : E2
  a7 : E2
noncomputable def E1.get (n : E1) (d : D) : E2 := D.rec (motive := fun _ => E1 → E2) (fun n => n.a0) (fun n => n.a1) (fun n => n.a2) (fun n => n.a3) (fun n => n.a4) (fun n => n.a5) (fun n => n.a6) (fun n => n.a7) d n
noncomputable def E1.upd (v : E2) (d : D) (n : E1) : E1 := D.rec (motive := fun _ => E1 → E2 → E1) (fun n v => E1.rec (motive := fun _ => E2 → E1) (fun _ a1 a2 a3 a4 a5 a6 a7 v => .mk v a1 a2 a3 a4 a5 a6 a7) n v) (fun n v => E1.rec (motive := fun _ => E2 → E1) (fun a0 _ a2 a3 a4 a5 a6 a7 v => .mk a0 v a2 a3 a4 a5 a6 a7) n v) (fun n v => E1.rec (motive := fun _ => E2 → E1) (fun a0 a1 _ a3 a4 a5 a6 a7 v => .mk a0 a1 v a3 a4 a5 a6 a7) n v) (fun n v => E1.rec (motive := fun _ => E2 → E1) (fun a0 a1 a2 _ a4 a5 a6 a7 v => .mk a0 a1 a2 v a4 a5 a6 a7) n v) (fun n v => E1.rec (motive := fun _ => E2 → E1) (fun a0 a1 a2 a3 _ a5 a6 a7 v => .mk a0 a1 a2 a3 v a5 a6 a7) n v) (fun n v => E1.rec (motive := fun _ => E2 → E1) (fun a0 a1 a2 a3 a4 _ a6 a7 v => .mk a0 a1 a2 a3 a4 v a6 a7) n v) (fun n v => E1.rec (motive := fun _ => E2 → E1) (fun a0 a1 a2 a3 a4 a5 _ a7 v => .mk a0 a1 a2 a3 a4 a5 v a7) n v) (fun n v => E1.rec (motive := fun _ => E2 → E1) (fun a0 a1 a2 a3 a4 a5 a6 _ v => .mk a0 a1 a2 a3 a4 a5 a6 v) n v) d n v
noncomputable def E1.updK (v : E2) (d : D) (n : E1) (k : E1 → Prop) : Prop := D.rec (motive := fun _ => E1 → E2 → (E1 → Prop) → Prop) (fun n v k => E1.rec (motive := fun _ => E2 → (E1 → Prop) → Prop) (fun _ a1 a2 a3 a4 a5 a6 a7 v k => k (.mk v a1 a2 a3 a4 a5 a6 a7)) n v k) (fun n v k => E1.rec (motive := fun _ => E2 → (E1 → Prop) → Prop) (fun a0 _ a2 a3 a4 a5 a6 a7 v k => k (.mk a0 v a2 a3 a4 a5 a6 a7)) n v k) (fun n v k => E1.rec (motive := fun _ => E2 → (E1 → Prop) → Prop) (fun a0 a1 _ a3 a4 a5 a6 a7 v k => k (.mk a0 a1 v a3 a4 a5 a6 a7)) n v k) (fun n v k => E1.rec (motive := fun _ => E2 → (E1 → Prop) → Prop) (fun a0 a1 a2 _ a4 a5 a6 a7 v k => k (.mk a0 a1 a2 v a4 a5 a6 a7)) n v k) (fun n v k => E1.rec (motive := fun _ => E2 → (E1 → Prop) → Prop) (fun a0 a1 a2 a3 _ a5 a6 a7 v k => k (.mk a0 a1 a2 a3 v a5 a6 a7)) n v k) (fun n v k => E1.rec (motive := fun _ => E2 → (E1 → Prop) → Prop) (fun a0 a1 a2 a3 a4 _ a6 a7 v k => k (.mk a0 a1 a2 a3 a4 v a6 a7)) n v k) (fun n v k => E1.rec (motive := fun _ => E2 → (E1 → Prop) → Prop) (fun a0 a1 a2 a3 a4 a5 _ a7 v k => k (.mk a0 a1 a2 a3 a4 a5 v a7)) n v k) (fun n v k => E1.rec (motive := fun _ => E2 → (E1 → Prop) → Prop) (fun a0 a1 a2 a3 a4 a5 a6 _ v k => k (.mk a0 a1 a2 a3 a4 a5 a6 v)) n v k) d n v k
theorem E1.updK_eq (v : E2) (d : D) (n : E1) (k : E1 → Prop) : E1.updK v d n k = k (E1.upd v d n) := by cases d <;> cases n <;> rfl
theorem E1.get_upd_self (v : E2) (d : D) (n : E1) : (E1.upd v d n).get d = v := by cases d <;> cases n <;> rfl
theorem E1.get_upd_ne (v : E2) (d e : D) (n : E1) (h : d ≠ e) : (E1.upd v d n).get e = n.get e := by
  cases n
  cases d <;> cases e <;> first | rfl | exact absurd rfl h

/-- A place: 4 digits of eight, the lowest first, then binary. -/
structure Pos where
  d0 : D
  d1 : D
  d2 : D
  d3 : D
  r : Pos0
noncomputable def npos (n : Nat) : Pos := ⟨dig (n % 8), dig (n / 8 % 8), dig (n / 64 % 8), dig (n / 512 % 8), npos0 (n / 4096)⟩
theorem npos_inj {m n : Nat} (h : npos m = npos n) : m = n := by
  have h' := Pos.mk.inj h
  obtain ⟨h0, h1, h2, h3, hr⟩ := h'
  have h0 := dig_inj (by omega) (by omega) h0
  have h1 := dig_inj (by omega) (by omega) h1
  have h2 := dig_inj (by omega) (by omega) h2
  have h3 := dig_inj (by omega) (by omega) h3
  have hr := npos0_inj hr
  omega
noncomputable def E4.lf : E4 := .mk EL.lf EL.lf EL.lf EL.lf EL.lf EL.lf EL.lf EL.lf
noncomputable def E3.lf : E3 := .mk E4.lf E4.lf E4.lf E4.lf E4.lf E4.lf E4.lf E4.lf
noncomputable def E2.lf : E2 := .mk E3.lf E3.lf E3.lf E3.lf E3.lf E3.lf E3.lf E3.lf
noncomputable def E1.lf : E1 := .mk E2.lf E2.lf E2.lf E2.lf E2.lf E2.lf E2.lf E2.lf
noncomputable def E1.getP (t : E1) (p : Pos) : Option Ent := EL.get (E4.get (E3.get (E2.get (E1.get t p.d0) p.d1) p.d2) p.d3) p.r
noncomputable def E1.updP (x : Option Ent) (p : Pos) (t : E1) : E1 := E1.upd (E2.upd (E3.upd (E4.upd (EL.upd x p.r (E4.get (E3.get (E2.get (E1.get t p.d0) p.d1) p.d2) p.d3)) p.d3 (E3.get (E2.get (E1.get t p.d0) p.d1) p.d2)) p.d2 (E2.get (E1.get t p.d0) p.d1)) p.d1 (E1.get t p.d0)) p.d0 t
noncomputable def E1.updPK (x : Option Ent) (p : Pos) (t : E1) (k : E1 → Prop) : Prop := EL.updK x p.r (E4.get (E3.get (E2.get (E1.get t p.d0) p.d1) p.d2) p.d3) fun c => E4.updK c p.d3 (E3.get (E2.get (E1.get t p.d0) p.d1) p.d2) fun c => E3.updK c p.d2 (E2.get (E1.get t p.d0) p.d1) fun c => E2.updK c p.d1 (E1.get t p.d0) fun c => E1.updK c p.d0 t k
theorem E1.updPK_eq (x : Option Ent) (p : Pos) (t : E1) (k : E1 → Prop) : E1.updPK x p t k = k (E1.updP x p t) := by simp only [E1.updPK, E1.updP, EL.updK_eq, E1.updK_eq, E2.updK_eq, E3.updK_eq, E4.updK_eq]
theorem E1.get_lf (d : D) : E1.lf.get d = E2.lf := by cases d <;> rfl
theorem E2.get_lf (d : D) : E2.lf.get d = E3.lf := by cases d <;> rfl
theorem E3.get_lf (d : D) : E3.lf.get d = E4.lf := by cases d <;> rfl
theorem E4.get_lf (d : D) : E4.lf.get d = EL.lf := by cases d <;> rfl
theorem E1.getP_lf (p : Pos) : E1.lf.getP p = none := by
  simp only [E1.getP, E1.get_lf, E2.get_lf, E3.get_lf, E4.get_lf, EL.get_lf]
theorem E1.getP_upd_self (x : Option Ent) (p : Pos) (t : E1) : (E1.updP x p t).getP p = x := by
  simp only [E1.getP, E1.updP, EL.get_upd_self, E1.get_upd_self, E2.get_upd_self, E3.get_upd_self, E4.get_upd_self]
theorem E1.getP_upd_ne (x : Option Ent) (p q : Pos) (t : E1) (h : p ≠ q) : (E1.updP x p t).getP q = t.getP q := by
  obtain ⟨d0, d1, d2, d3, r⟩ := p
  obtain ⟨e0, e1, e2, e3, s⟩ := q
  simp only [E1.getP, E1.updP]
  by_cases h0 : d0 = e0
  case neg => rw [E1.get_upd_ne _ _ _ _ h0]
  subst h0
  rw [E1.get_upd_self]
  by_cases h1 : d1 = e1
  case neg => rw [E2.get_upd_ne _ _ _ _ h1]
  subst h1
  rw [E2.get_upd_self]
  by_cases h2 : d2 = e2
  case neg => rw [E3.get_upd_ne _ _ _ _ h2]
  subst h2
  rw [E3.get_upd_self]
  by_cases h3 : d3 = e3
  case neg => rw [E4.get_upd_ne _ _ _ _ h3]
  subst h3
  rw [E4.get_upd_self]
  by_cases hr : r = s
  · subst hr; exact absurd rfl h
  · rw [EL.get_upd_ne _ _ _ _ hr]

structure Hp where
  objs : E1
  next : Nat


/-! ### bytes in a number, the first one lowest -/
def byteAt (x j : Nat) : Nat := (x >>> (8 * j)) % 256
def bytesL (n x : Nat) : List UInt8 := (List.range n).map fun j => UInt8.ofNat (byteAt x j)
def strOf (n x : Nat) : ByteArray := ⟨(bytesL n x).toArray⟩
/-- The number of some bytes. -/
def packL : List UInt8 → Nat
  | [] => 0
  | b :: l => b.toNat + 256 * packL l

/-- A kind's number. -/
def kcode (k : IntKind) : Nat := IntKind.rec (motive := fun _ => Nat) 0 1 2 3 4 5 6 7 k
theorem kcode_inj {a b : IntKind} (h : kcode a = kcode b) : a = b := by cases a <;> cases b <;> first | rfl | (simp [kcode] at h)

/-! ### a row's cells -/
def cellAt (ob : AObj) (j : Nat) : Option AV := AObj.rec (motive := fun _ => Nat → Option AV)
  (fun cs j => getL cs j)
  (fun n t d j => Bool.rec (motive := fun _ => Option AV) none (Option.rec (motive := fun _ => Option AV) (getL d (j % d.length)) some (t.getP (fpos j))) (Nat.blt j n))
  (fun n x j => Bool.rec (motive := fun _ => Option AV) none (some (.int .u8 (Int.ofNat (byteAt x j)))) (Nat.blt j n))
  (fun _ _ _ => none)
  (fun _ _ _ _ => none)
  (fun _ _ _ _ _ => none)
  ob j

def sizeOfObj (ob : AObj)  : Nat := AObj.rec (motive := fun _ => Nat)
  (fun cs => cs.length)
  (fun n _ _ => n)
  (fun n _ => n)
  (fun _ _ => 0)
  (fun _ _ _ => 0)
  (fun _ _ _ _ => 0)
  ob 

/-- Some cells in a row, worked out. -/
def cellsK (ob : AObj) (n : Nat) : (off : Nat) → (List AV → Prop) → Prop := Nat.rec (motive := fun _ => Nat → (List AV → Prop) → Prop) (fun _ k => k [])
  (fun _ ih off k => Option.rec (motive := fun _ => Prop) False (fun v => ih (off + 1) fun l => k (v :: l)) (cellAt ob off)) n
theorem cellsK_zero (ob : AObj) (off : Nat) (k : List AV → Prop) : cellsK ob 0 off k = k [] := rfl
theorem cellsK_succ (ob : AObj) (n off : Nat) (k : List AV → Prop) : cellsK ob (n + 1) off k = (match cellAt ob off with | some v => cellsK ob n (off + 1) fun l => k (v :: l) | none => False) := by
  show Option.rec (motive := fun _ => Prop) False (fun v => cellsK ob n (off + 1) fun l => k (v :: l)) (cellAt ob off) = _
  cases cellAt ob off <;> rfl

/-- A byte written over another one. -/
def setByteK (v : AV) (n : Nat) (x : Nat) (j : Nat) (k : AObj → Prop) : Prop := AV.rec (motive_1 := fun _ => Nat → Nat → Nat → (AObj → Prop) → Prop) (motive_2 := fun _ => Unit)
  (fun _ _ _ _ _ => False)  (fun kd m n x j k => Bool.rec (motive := fun _ => Prop) False (Int.rec (motive := fun _ => Prop) (fun m => Bool.rec (motive := fun _ => Prop) False (forceN (x - (byteAt x j) <<< (8 * j) + m <<< (8 * j)) fun x => k (.byts n x)) (Nat.blt m 256)) (fun _ => False) m) (Nat.beq (kcode kd) 4))
  (fun _ _ _ _ _ _ => False)  (fun _ _ _ _ _ _ => False)  (fun _ _ _ _ => False)  (fun _ _ _ _ _ _ _ _ _ => False)  (fun _ _ _ _ => False)  (fun _ _ _ _ _ _ _ _ => False)  (fun _ _ _ _ _ => False)  (fun _ _ _ _ => False)  (fun _ _ _ _ _ _ _ _ _ => False)  (fun _ _ _ _ => False)  (fun _ _ _ _ _ _ _ => False)  (fun _ _ _ _ => False)  (fun _ _ _ _ _ _ => False)  (fun _ _ _ _ _ _ => False)  (fun _ _ _ _ _ _ _ => False)  (fun _ _ _ _ _ => False)
  () (fun _ _ _ _ => ()) v n x j k

def setCellK (ob : AObj) (j : Nat) (v : AV) (k : AObj → Prop) : Prop := AObj.rec (motive := fun _ => Nat → AV → (AObj → Prop) → Prop)
  (fun cs j v k => setLK cs j v fun cs => k (.row cs))
  (fun n t d j v k => V1.updPK (some v) (fpos j) t fun t => k (.big n t d))
  (fun n x j v k => setByteK v n x j k)
  (fun _ _ _ _ _ => False)
  (fun _ _ _ _ _ _ => False)
  (fun _ _ _ _ _ _ _ => False)
  ob j v k
theorem setCellK_byts (n x j : Nat) (v : AV) (k : AObj → Prop) : setCellK (.byts n x) j v k = (match v with
    | .int .u8 (.ofNat m) => (match Nat.blt m 256 with
      | true => forceN (x - (byteAt x j) <<< (8 * j) + m <<< (8 * j)) fun x => k (.byts n x)
      | false => False)
    | _ => False) := by
  show setByteK v n x j k = _
  cases v with
  | int kd m =>
    cases kd <;> cases m <;> first | rfl | skip
    rename_i a
    show Bool.rec (motive := fun _ => Prop) False (forceN (x - (byteAt x j) <<< (8 * j) + a <<< (8 * j)) fun x => k (.byts n x)) (Nat.blt a 256) = (match Nat.blt a 256 with
      | true => forceN (x - (byteAt x j) <<< (8 * j) + a <<< (8 * j)) fun x => k (.byts n x)
      | false => False)
    cases Nat.blt a 256 <;> rfl
  | _ => rfl

def setCellsK (l : List AV) : (ob : AObj) → (off : Nat) → (AObj → Prop) → Prop := List.rec (motive := fun _ => AObj → Nat → (AObj → Prop) → Prop) (fun ob _ k => k ob)
  (fun v _ ih ob off k => Bool.rec (motive := fun _ => Prop) False (setCellK ob off v fun ob => ih ob (off + 1) k) (Nat.blt off (sizeOfObj ob))) l
theorem setCellsK_nil (ob : AObj) (off : Nat) (k : AObj → Prop) : setCellsK [] ob off k = k ob := rfl
theorem setCellsK_cons (v : AV) (l : List AV) (ob : AObj) (off : Nat) (k : AObj → Prop) : setCellsK (v :: l) ob off k = (match Nat.blt off (sizeOfObj ob) with
    | true => setCellK ob off v fun ob => setCellsK l ob (off + 1) k
    | false => False) := by
  show Bool.rec (motive := fun _ => Prop) False (setCellK ob off v fun ob => setCellsK l ob (off + 1) k) (Nat.blt off (sizeOfObj ob)) = _
  cases Nat.blt off (sizeOfObj ob) <;> rfl

/-! ### the heap -/
def newK (h : Hp) (e : Ent) (k : Nat → Hp → Prop) : Prop :=
  E1.updPK (some e) (npos h.next) h.objs fun t => forceN (h.next + 1) fun n => k h.next ⟨t, n⟩
def putK (h : Hp) (o : Nat) (e : Option Ent) (k : Hp → Prop) : Prop :=
  E1.updPK e (npos o) h.objs fun t => k ⟨t, h.next⟩

/-- A trie of a list's elements from place i on. -/
def trieK (l : List AV) : (i : Nat) → V1 → (V1 → Prop) → Prop := List.rec (motive := fun _ => Nat → V1 → (V1 → Prop) → Prop) (fun _ t k => k t)
  (fun v _ ih i t k => V1.updPK (some v) (fpos i) t fun t => ih (i + 1) t k) l
theorem trieK_nil (i : Nat) (t : V1) (k : V1 → Prop) : trieK [] i t k = k t := rfl
theorem trieK_cons (v : AV) (l : List AV) (i : Nat) (t : V1) (k : V1 → Prop) : trieK (v :: l) i t k = V1.updPK (some v) (fpos i) t fun t => trieK l (i + 1) t k := rfl

/-- A frame of a list's elements from slot i on. -/
abbrev argK (l : List AV) : (i : Nat) → Fr → (Fr → Prop) → Prop := List.rec (motive := fun _ => Nat → Fr → (Fr → Prop) → Prop) (fun _ t k => k t)
  (fun v _ ih i t k => putSK v (gpos i) t fun t => ih (i + 1) t k) l
theorem argK_cons (v : AV) (l : List AV) (i : Nat) (t : Fr) (k : Fr → Prop) : argK (v :: l) i t k = putSK v (gpos i) t fun t => argK l (i + 1) t k := rfl
theorem argK_eq : ∀ (l : List AV) (i : Nat) (t : Fr) (k : Fr → Prop), argK l i t k → ∃ t', k t' ∧ ∀ j, getS t' (gpos j) = if i ≤ j ∧ j < i + l.length then (l[j - i]?).getD undefV else getS t (gpos j)
  | [], i, t, k, h => ⟨t, h, fun j => by simp; omega⟩
  | v :: l, i, t, k, h => by
    rw [argK_cons, putSK_eq] at h
    obtain ⟨t', h1, h2⟩ := argK_eq l (i + 1) _ k h
    refine ⟨t', h1, fun j => ?_⟩
    rw [h2]
    by_cases hj : i + 1 ≤ j ∧ j < i + 1 + l.length
    · rw [if_pos hj, if_pos (by simp; omega), show j - i = (j - (i + 1)) + 1 by omega]; simp
    · rw [if_neg hj]
      by_cases hi : j = i
      · subst hi
        rw [getS_put_self, if_pos (by simp)]; simp
      · rw [getS_put_ne _ _ _ _ (fun e => hi (gpos_inj e).symm), if_neg (by simp; omega)]

end
end Go.Am
