/-
  The operations that leave the heap alone and do not look at it: each does what the model's does.
-/
import Derived.Test.YtbefkepinpollaaGreatDoorAmBytes
namespace Go.Am
set_option linter.unusedSimpArgs false
set_option linter.unusedVariables false
open Go Go.RowKit

def Rho (κ : Kap) (fr : Fr) (ρ : Operand → Value) : Prop := ∀ x d, opd x = some d → gam κ (d fr) = some (ρ x)

theorem gd_iff {b : Bool} {A : Prop} : gd b A ↔ b = true ∧ A := by cases b <;> simp [gd]
theorem asOpt_iff {α : Type} {o : Option α} {k : α → Prop} : asOpt o k ↔ ∃ x, o = some x ∧ k x := by cases o <;> simp [asOpt]
theorem asBool_iff {v : AV} {k : Bool → Prop} : asBool v k ↔ ∃ b, v = .bool b ∧ k b :=
  ⟨fun h => by cases v <;> first | exact ⟨_, rfl, h⟩ | exact h.elim, fun ⟨_, e, h⟩ => by subst e; exact h⟩
theorem asInt_iff {v : AV} {k : IntKind → Int → Prop} : asInt v k ↔ ∃ a n, v = .int a n ∧ k a n :=
  ⟨fun h => by cases v <;> first | exact ⟨_, _, rfl, h⟩ | exact h.elim, fun ⟨_, _, e, h⟩ => by subst e; exact h⟩
theorem natOf_iff {n : Int} {k : Nat → Prop} : natOf n k ↔ ∃ m : Nat, n = .ofNat m ∧ k m :=
  ⟨fun h => by cases n <;> first | exact ⟨_, rfl, h⟩ | exact h.elim, fun ⟨_, e, h⟩ => by subst e; exact h⟩
theorem asNat_iff {v : AV} {k : Nat → Prop} : asNat v k ↔ ∃ a m, v = .int a (.ofNat m) ∧ k m := by
  rw [asNat, asInt_iff]
  constructor
  · rintro ⟨a, n, h1, h2⟩
    obtain ⟨m, rfl, h3⟩ := natOf_iff.1 h2
    exact ⟨a, m, h1, h3⟩
  · rintro ⟨a, m, h1, h2⟩
    exact ⟨a, _, h1, natOf_iff.2 ⟨m, rfl, h2⟩⟩
theorem asStr_iff {v : AV} {k : Nat → Nat → Prop} : asStr v k ↔ ∃ n x, v = .str n x ∧ k n x :=
  ⟨fun h => by cases v <;> first | exact ⟨_, _, rfl, h⟩ | exact h.elim, fun ⟨_, _, e, h⟩ => by subst e; exact h⟩
theorem asPtr_iff {v : AV} {k : Nat → Nat → Prop} : asPtr v k ↔ ∃ o f, v = .ptr o f ∧ k o f :=
  ⟨fun h => by cases v <;> first | exact ⟨_, _, rfl, h⟩ | exact h.elim, fun ⟨_, _, e, h⟩ => by subst e; exact h⟩
theorem asAgg_iff {v : AV} {k : List AV → Prop} : asAgg v k ↔ ∃ l, v = .agg l ∧ k l :=
  ⟨fun h => by cases v <;> first | exact ⟨_, rfl, h⟩ | exact h.elim, fun ⟨_, e, h⟩ => by subst e; exact h⟩
theorem asTup_iff {v : AV} {k : List AV → Prop} : asTup v k ↔ ∃ l, v = .tup l ∧ k l :=
  ⟨fun h => by cases v <;> first | exact ⟨_, rfl, h⟩ | exact h.elim, fun ⟨_, e, h⟩ => by subst e; exact h⟩
theorem asSl_iff {v : AV} {kn : Prop} {k : Nat → Nat → Nat → Bool → Nat → Prop} : asSl v kn k ↔ (v = .nilslice ∧ kn) ∨ ∃ o f n b c, v = .slice o f n b c ∧ k o f n b c :=
  ⟨fun h => by cases v <;> first | exact .inr ⟨_, _, _, _, _, rfl, h⟩ | exact .inl ⟨rfl, h⟩ | exact h.elim, fun h => by
    rcases h with ⟨e, h⟩ | ⟨_, _, _, _, _, e, h⟩ <;> (subst e; exact h)⟩
theorem asSlE_iff {v : AV} {k : Nat → Nat → Nat → Nat → Prop} {other : Prop} (h : asSlE v k other) : (∃ o a b c, v = .sliceE o a b c ∧ k o a b c) ∨ other := by
  cases v <;> first | exact .inl ⟨_, _, _, _, rfl, h⟩ | exact .inr h
theorem asFn_iff {v : AV} {k : FuncId → List AV → List AV → Prop} : asFn v k ↔ ∃ f a c, v = .func f a c ∧ k f a c :=
  ⟨fun h => by cases v <;> first | exact ⟨_, _, _, rfl, h⟩ | exact h.elim, fun ⟨_, _, _, e, h⟩ => by subst e; exact h⟩
theorem kindEq_iff {a b : IntKind} : kindEq a b = true ↔ a = b := by
  simp only [kindEq, Nat.beq_eq]
  exact ⟨kcode_inj, fun h => by rw [h]⟩
theorem twoI_iff {x y : AV} {ki : IntKind → Int → Int → Prop} : twoI x y ki ↔ ∃ k a b, x = .int k a ∧ y = .int k b ∧ ki k a b := by
  constructor
  · intro h
    obtain ⟨k, a, e1, h1⟩ := asInt_iff.1 h
    obtain ⟨k', b, e2, h2⟩ := asInt_iff.1 h1
    obtain ⟨e3, h3⟩ := gd_iff.1 h2
    have e4 := kindEq_iff.1 e3
    exact ⟨k, a, b, e1, by rw [e4]; exact e2, h3⟩
  · rintro ⟨k, a, b, rfl, rfl, h⟩
    exact asInt_iff.2 ⟨k, a, rfl, asInt_iff.2 ⟨k, b, rfl, gd_iff.2 ⟨kindEq_iff.2 rfl, h⟩⟩⟩
theorem two_iff {x y : AV} {ki : IntKind → Int → Int → Prop} {ks : Nat → Nat → Nat → Nat → Prop} :
    two x y ki ks → (∃ k a b, x = .int k a ∧ y = .int k b ∧ ki k a b) ∨ (∃ n a m b, x = .str n a ∧ y = .str m b ∧ ks n a m b) := by
  intro h
  cases x with
  | int k a => exact .inl (twoI_iff.1 h)
  | str n a =>
    obtain ⟨m, b, e, h⟩ := asStr_iff.1 h
    exact .inr ⟨n, a, m, b, rfl, e, h⟩
  | _ => exact h.elim
theorem mkI_iff {k : IntKind} {n : Int} {K : AV → Prop} : mkI k n K ↔ K (.int k n) := by rw [mkI, forceI_eq]
theorem mkB_iff {b : Bool} {K : AV → Prop} : mkB b K ↔ K (.bool b) := by cases b <;> simp [mkB]
theorem eqI_iff {a b : Int} : eqI a b = true ↔ a = b := by
  cases a <;> cases b <;> simp only [eqI, Nat.beq_eq, Int.ofNat_eq_natCast, Bool.false_eq_true, false_iff, Int.negSucc.injEq, reduceCtorEq, not_false_eq_true] <;> omega
theorem eqI_eq (a b : Int) : eqI a b = (a == b) := by
  rw [Bool.eq_iff_iff, eqI_iff]; simp
theorem leI_iff {a b : Int} : leI a b = true ↔ a ≤ b := by
  cases a <;> cases b <;> simp only [leI, Nat.ble_eq, Int.ofNat_eq_natCast, Bool.false_eq_true, false_iff, true_iff] <;> omega
theorem wrapF_eq (k : IntKind) (n : Int) : wrapF k n = k.wrap n := by
  cases n with
  | negSucc m =>
    show Bool.rec (motive := fun _ => Int) (k.wrap (.negSucc m)) (.negSucc m) (Nat.blt (kcode k) 4 && Nat.ble m (top k)) = _
    cases h : (Nat.blt (kcode k) 4 && Nat.ble m (top k)) with
    | false => rfl
    | true =>
      rw [Bool.and_eq_true] at h
      have h' : m ≤ top k := by simpa using h.2
      have hk := h.1
      show (Int.negSucc m) = k.wrap (.negSucc m)
      cases k <;> first | (exact absurd hk (by decide)) | (simp only [top, IntKind.wrap, IntKind.bits, IntKind.signed, Int.negSucc_eq] at h' ⊢ <;> (repeat' split) <;> simp_all <;> omega)
  | ofNat m =>
    show Bool.rec (motive := fun _ => Int) (k.wrap (.ofNat m)) (.ofNat m) (Nat.ble m (top k)) = _
    cases h : Nat.ble m (top k) with
    | false => rfl
    | true =>
      have h' : m ≤ top k := by simpa using h
      show (Int.ofNat m) = k.wrap (.ofNat m)
      cases k <;> simp only [top, IntKind.wrap, IntKind.bits, IntKind.signed, Int.ofNat_eq_natCast] at h' ⊢ <;> (repeat' split) <;> simp_all <;> omega

def PureOK (P : Program) (D : OpD) (o : Oper) : Prop :=
  ∀ fr h K, D fr h K → ∃ av, K av h ∧ ∀ κ ρ w, Rho κ fr ρ → ∃ v, gam κ av = some v ∧ (execOp ρ o).run P w = .ok (.value v) w

variable {P : Program} {o : Oper}

theorem rho_int {κ : Kap} {fr : Fr} {ρ : Operand → Value} (hr : Rho κ fr ρ) {x : Operand} {d : Opd} (hx : opd x = some d) {k : IntKind} {n : Int} (e : d fr = .int k n) : ρ x = .int k n := by
  have := hr x d hx; rw [e] at this; simpa [gam] using this.symm
theorem rho_bool {κ : Kap} {fr : Fr} {ρ : Operand → Value} (hr : Rho κ fr ρ) {x : Operand} {d : Opd} (hx : opd x = some d) {b : Bool} (e : d fr = .bool b) : ρ x = .bool b := by
  have := hr x d hx; rw [e] at this; simpa [gam] using this.symm
theorem rho_str {κ : Kap} {fr : Fr} {ρ : Operand → Value} (hr : Rho κ fr ρ) {x : Operand} {d : Opd} (hx : opd x = some d) {n z : Nat} (e : d fr = .str n z) : z < 256 ^ n ∧ ρ x = .string (strOf n z) := by
  have := hr x d hx; rw [e] at this
  simp only [gam] at this
  split at this
  · rename_i h; exact ⟨h, by simpa using this.symm⟩
  · cases this
theorem rho_ptr {κ : Kap} {fr : Fr} {ρ : Operand → Value} (hr : Rho κ fr ρ) {x : Operand} {d : Opd} (hx : opd x = some d) {p f : Nat} (e : d fr = .ptr p f) : ∃ ki, κ p = some ki ∧ ρ x = .pointer (some (ki.at f)) := by
  have := hr x d hx; rw [e] at this
  simp only [gam, Option.map_eq_some_iff] at this
  obtain ⟨ki, h1, h2⟩ := this
  exact ⟨ki, h1, h2.symm⟩
theorem rho_slice {κ : Kap} {fr : Fr} {ρ : Operand → Value} (hr : Rho κ fr ρ) {x : Operand} {d : Opd} (hx : opd x = some d) {p f n c : Nat} {kn : Bool} (e : d fr = .slice p f n kn c) :
    ∃ ki cap, κ p = some ki ∧ ρ x = .slice (some (ki.at f)) n cap ∧ (kn = true → n ≤ c ∧ cap = c) ∧ (kn = false → n + c ≤ ki.cap ∧ cap = ki.cap - c) := by
  have := hr x d hx; rw [e] at this
  simp only [gam, Option.bind_eq_some_iff] at this
  obtain ⟨ki, h1, h2⟩ := this
  cases kn with
  | true =>
    simp only [if_true] at h2
    split at h2
    · rename_i h; exact ⟨ki, c, h1, by simpa using h2.symm, fun _ => ⟨h, rfl⟩, (fun h => by cases h)⟩
    · cases h2
  | false =>
    simp only [Bool.false_eq_true, if_false] at h2
    split at h2
    · rename_i h; exact ⟨ki, ki.cap - c, h1, by simpa using h2.symm, (fun h => by cases h), fun _ => ⟨h, rfl⟩⟩
    · cases h2
theorem rho_sliceE {κ : Kap} {fr : Fr} {ρ : Operand → Value} (hr : Rho κ fr ρ) {x : Operand} {d : Opd} (hx : opd x = some d) {p a b c : Nat} (e : d fr = .sliceE p a b c) :
    ∃ ki, κ p = some ki ∧ c ≤ ki.cap ∧ ρ x = .slice (some (ki.at (if ki.cap = c then a else b))) 0 (ki.cap - c) := by
  have := hr x d hx; rw [e] at this
  simp only [gam, Option.bind_eq_some_iff] at this
  obtain ⟨ki, h1, h2⟩ := this
  split at h2
  · rename_i h; exact ⟨ki, h1, h, by simpa using h2.symm⟩
  · cases h2
theorem rho_nilslice {κ : Kap} {fr : Fr} {ρ : Operand → Value} (hr : Rho κ fr ρ) {x : Operand} {d : Opd} (hx : opd x = some d) (e : d fr = .nilslice) : ρ x = .slice none 0 0 := by
  have := hr x d hx; rw [e] at this; simpa [gam] using this.symm
theorem rho_agg {κ : Kap} {fr : Fr} {ρ : Operand → Value} (hr : Rho κ fr ρ) {x : Operand} {d : Opd} (hx : opd x = some d) {l : List AV} (e : d fr = .agg l) : ∃ vs, gams κ l = some vs ∧ (∀ v ∈ vs, v.oneCell' = true) ∧ ρ x = .agg vs.toArray := by
  have := hr x d hx; rw [e] at this
  simp only [gam, Option.bind_eq_some_iff] at this
  obtain ⟨vs, h1, h2⟩ := this
  split at h2
  · rename_i h; exact ⟨vs, h1, by simpa using h, by simpa using h2.symm⟩
  · cases h2
theorem rho_tup {κ : Kap} {fr : Fr} {ρ : Operand → Value} (hr : Rho κ fr ρ) {x : Operand} {d : Opd} (hx : opd x = some d) {l : List AV} (e : d fr = .tup l) : ∃ vs, gams κ l = some vs ∧ ρ x = .tuple vs.toArray := by
  have := hr x d hx; rw [e] at this
  simp only [gam, Option.map_eq_some_iff] at this
  obtain ⟨vs, h1, h2⟩ := this
  exact ⟨vs, h1, h2.symm⟩

/-! ### moves -/
theorem ok_mov {x : Operand} {d : Opd} (hx : opd x = some d) (ho : o.op = .move x ∨ o.op = .assign x) : PureOK P (oMov d) o := by
  intro fr h K hD
  refine ⟨d fr, hD, fun κ ρ w hr => ⟨ρ x, hr x d hx, ?_⟩⟩
  rcases ho with ho | ho <;> simp [execOp, ho]
theorem ok_pick {c a b : Operand} {dc da db : Opd} (hc : opd c = some dc) (ha : opd a = some da) (hb : opd b = some db) (ho : o.op = .pick c a b) : PureOK P (oPick dc da db) o := by
  intro fr h K hD
  obtain ⟨t, ht, hK⟩ := asBool_iff.1 hD
  refine ⟨if t then da fr else db fr, by cases t <;> exact hK, fun κ ρ w hr => ⟨if t then ρ a else ρ b, ?_, ?_⟩⟩
  · cases t
    · exact hr b db hb
    · exact hr a da ha
  · have := rho_bool hr hc ht
    simp [execOp, ho, this, Go.asBool]

/-! ### whole numbers and strings -/
theorem run_guard (op : BinOp) (t : TypeId) (x y : Operand) (a b : Value) (w : World) (h : (∀ c, a ≠ .agg c) ∧ a ≠ .nilIface) : (eqGuard op t x y a b).run P w = .ok () w := by
  unfold eqGuard
  cases a <;> first | (exact absurd rfl h.2) | (exact absurd rfl (h.1 _)) | (cases op <;> rfl)
theorem run_bin {op : BinOp} {t t' : TypeId} {x y : Operand} (ho : o.op = .binOp op t x y t') {ρ : Operand → Value} {w : World} {v : Value} (h : (∀ c, ρ x ≠ .agg c) ∧ ρ x ≠ .nilIface)
    (hr : (binOp op t (ρ x) (ρ y)).run P w = .ok v w) : (execOp ρ o).run P w = .ok (.value v) w := by
  simp [execOp, ho, run_guard op t x y _ (ρ y) w h, hr]

theorem ok_add {t t' : TypeId} {x y : Operand} {dx dy : Opd} (hx : opd x = some dx) (hy : opd y = some dy) (ho : o.op = .binOp .add t x y t') : PureOK P (oAdd dx dy) o := by
  intro fr h K hD
  rcases two_iff hD with ⟨k, a, b, e1, e2, hK⟩ | ⟨n, a, m, b, e1, e2, hK⟩
  · refine ⟨_, mkI_iff.1 hK, fun κ ρ w hr => ⟨.int k (k.wrap (a + b)), by simp [gam, wrapF_eq, addI_eq], ?_⟩⟩
    have h1 := rho_int hr hx e1
    have h2 := rho_int hr hy e2
    exact run_bin ho (by simp [h1]) (by simp [h1, h2, binOp, Op.intArith])
  · obtain ⟨hb, hK⟩ := gd_iff.1 hK
    rw [forceN_eq, forceN_eq] at hK
    refine ⟨_, hK, fun κ ρ w hr => ?_⟩
    obtain ⟨l1, h1⟩ := rho_str hr hx e1
    obtain ⟨l2, h2⟩ := rho_str hr hy e2
    have hb' : n + m ≤ 9223372036854775807 := by simpa using hb
    refine ⟨.string (strOf n a ++ strOf m b), by simp only [gam]; rw [if_pos (join_lt a b n m l1 l2), strOf_append a b n m l1], ?_⟩
    refine run_bin ho (by simp [h1]) ?_
    have hm : ¬ (((n + m : Nat) : Int) > IntKind.i64.max) := by simp [IntKind.max, IntKind.signed, IntKind.bits]; omega
    simp [h1, h2, binOp, Op.stringOp, strOf_size]
    simp at hm
    exact hm
theorem ok_arith {op : BinOp} {f : Int → Int → Int} (hf : ∀ k a b, Op.intArith op k a b = pure (.int k (k.wrap (f a b)))) (hop : op = .sub ∨ op = .mul)
    {t t' : TypeId} {x y : Operand} {dx dy : Opd} (hx : opd x = some dx) (hy : opd y = some dy) (ho : o.op = .binOp op t x y t') : PureOK P (oArith f dx dy) o := by
  intro fr h K hD
  obtain ⟨k, a, b, e1, e2, hK⟩ := twoI_iff.1 hD
  refine ⟨_, mkI_iff.1 hK, fun κ ρ w hr => ⟨.int k (k.wrap (f a b)), by simp [gam, wrapF_eq], ?_⟩⟩
  have h1 := rho_int hr hx e1
  have h2 := rho_int hr hy e2
  refine run_bin ho (by simp [h1]) ?_
  rcases hop with rfl | rfl <;> simp [h1, h2, binOp, hf]
theorem ok_div {op : BinOp} {rem : Bool} (hop : (op = .quo ∧ rem = false) ∨ (op = .rem ∧ rem = true))
    {t t' : TypeId} {x y : Operand} {dx dy : Opd} (hx : opd x = some dx) (hy : opd y = some dy) (ho : o.op = .binOp op t x y t') : PureOK P (oDiv rem dx dy) o := by
  intro fr h K hD
  obtain ⟨k, a, b, e1, e2, hK⟩ := twoI_iff.1 hD
  obtain ⟨hb, hK⟩ := gd_iff.1 hK
  have hb' : b ≠ 0 := by intro e; subst e; simp [eqI_eq] at hb
  rcases hop with ⟨rfl, rfl⟩ | ⟨rfl, rfl⟩
  · refine ⟨_, mkI_iff.1 hK, fun κ ρ w hr => ⟨.int k (k.wrap (a.tdiv b)), by simp [gam, wrapF_eq], ?_⟩⟩
    have h1 := rho_int hr hx e1
    have h2 := rho_int hr hy e2
    exact run_bin ho (by simp [h1]) (by simp [h1, h2, binOp, Op.intDiv, hb'])
  · refine ⟨_, mkI_iff.1 hK, fun κ ρ w hr => ⟨.int k (a.tmod b), by simp [gam], ?_⟩⟩
    have h1 := rho_int hr hx e1
    have h2 := rho_int hr hy e2
    exact run_bin ho (by simp [h1]) (by simp [h1, h2, binOp, Op.intDiv, hb'])
theorem bitsI_eq (k : IntKind) (a : Int) : bitsI k a = (BitVec.ofInt k.bits a).toNat := by
  rw [BitVec.toNat_ofInt]
  cases a with
  | ofNat m =>
    show m % 2 ^ k.bits = _
    cases k <;> simp only [IntKind.bits, Int.ofNat_eq_natCast] <;> omega
  | negSucc m =>
    show (2 ^ k.bits - 1) - m % 2 ^ k.bits = _
    cases k <;> simp only [IntKind.bits, Int.negSucc_eq] <;> omega
theorem ok_bits {op : BinOp} {f : Nat → Nat → Nat} (hop : (op = .and ∧ f = Nat.land) ∨ (op = .or ∧ f = Nat.lor) ∨ (op = .xor ∧ f = Nat.xor))
    {t t' : TypeId} {x y : Operand} {dx dy : Opd} (hx : opd x = some dx) (hy : opd y = some dy) (ho : o.op = .binOp op t x y t') : PureOK P (oBits f dx dy) o := by
  intro fr h K hD
  obtain ⟨k, a, b, e1, e2, hK⟩ := twoI_iff.1 hD
  refine ⟨_, mkI_iff.1 hK, fun κ ρ w hr => ⟨.int k (k.wrap (Int.ofNat (f (bitsI k a) (bitsI k b)))), by simp [gam, wrapF_eq], ?_⟩⟩
  have h1 := rho_int hr hx e1
  have h2 := rho_int hr hy e2
  refine run_bin ho (by simp [h1]) ?_
  rcases hop with ⟨rfl, rfl⟩ | ⟨rfl, rfl⟩ | ⟨rfl, rfl⟩ <;> simp only [h1, h2, binOp, Op.intBits, ne_eq, not_true, if_false, BitVec.toNat_and, BitVec.toNat_or, BitVec.toNat_xor, bitsI_eq, Sem.run_pure] <;> rfl
theorem andNot_eq {n : Nat} (a b : BitVec n) : a &&& ~~~b = a ^^^ (a &&& b) := by
  apply BitVec.eq_of_getLsbD_eq
  intro i hi
  simp [hi]
  cases a[i] <;> cases b[i] <;> rfl
theorem ok_andNot {t t' : TypeId} {x y : Operand} {dx dy : Opd} (hx : opd x = some dx) (hy : opd y = some dy) (ho : o.op = .binOp .andNot t x y t') : PureOK P (oBits andNotN dx dy) o := by
  intro fr h K hD
  obtain ⟨k, a, b, e1, e2, hK⟩ := twoI_iff.1 hD
  refine ⟨_, mkI_iff.1 hK, fun κ ρ w hr => ⟨.int k (k.wrap (Int.ofNat (andNotN (bitsI k a) (bitsI k b)))), by simp [gam, wrapF_eq], ?_⟩⟩
  have h1 := rho_int hr hx e1
  have h2 := rho_int hr hy e2
  refine run_bin ho (by simp [h1]) ?_
  simp only [h1, h2, binOp, Op.intBits, ne_eq, not_true, if_false, andNot_eq, BitVec.toNat_and, BitVec.toNat_xor, bitsI_eq, Sem.run_pure]
  rfl
theorem bytesL_succ (n x : Nat) : bytesL (n + 1) x = UInt8.ofNat (x % 256) :: bytesL n (x / 256) := by
  apply List.ext_getElem?
  intro j
  cases j with
  | zero => rw [bytesL_get, if_pos (by omega), byteAt_zero]; simp
  | succ j =>
    rw [bytesL_get, List.getElem?_cons_succ, bytesL_get, byteAt_succ]
    simp
theorem ltS_eq : ∀ (f n x m y : Nat), n + m ≤ f → ltS f n x m y = Op.bytesLess (bytesL n x) (bytesL m y)
  | 0, n, x, m, y, h => by
    obtain rfl : n = 0 := by omega
    obtain rfl : m = 0 := by omega
    rfl
  | f + 1, n, x, 0, y, h => by
    have e : bytesL 0 y = [] := rfl
    rw [e]
    cases hn : bytesL n x <;> rfl
  | f + 1, 0, x, m + 1, y, h => by rw [bytesL_succ]; rfl
  | f + 1, n + 1, x, m + 1, y, h => by
    rw [bytesL_succ, bytesL_succ]
    have ih := ltS_eq f n (x / 256) m (y / 256) (by omega)
    have hx : (UInt8.ofNat (x % 256)).toNat = x % 256 := by simp [UInt8.toNat_ofNat']
    have hy : (UInt8.ofNat (y % 256)).toNat = y % 256 := by simp [UInt8.toNat_ofNat']
    simp only [ltS, Op.bytesLess, ← ih]
    have e1 : decide (UInt8.ofNat (x % 256) < UInt8.ofNat (y % 256)) = Nat.blt (x % 256) (y % 256) := by
      rw [Bool.eq_iff_iff, decide_eq_true_eq, UInt8.lt_iff_toNat_lt, hx, hy]; simp
    have e2 : (UInt8.ofNat (x % 256) == UInt8.ofNat (y % 256)) = Nat.beq (x % 256) (y % 256) := by
      rw [Bool.eq_iff_iff, beq_iff_eq, Nat.beq_eq, ← UInt8.toNat_inj, hx, hy]
    rw [e1, e2]
    cases Nat.blt (x % 256) (y % 256) <;> cases Nat.beq (x % 256) (y % 256) <;> simp
theorem eqS_eq {n x m y : Nat} (hx : x < 256 ^ n) (hy : y < 256 ^ m) : eqS n x m y = ((strOf n x).toList == (strOf m y).toList) := by
  rw [ByteArray.toList_eq, ByteArray.toList_eq, strOf_data, strOf_data, Bool.eq_iff_iff]
  simp only [eqS, Bool.and_eq_true, Nat.beq_eq, beq_iff_eq]
  constructor
  · rintro ⟨rfl, rfl⟩; rfl
  · exact fun h => bytesL_inj hx hy h
theorem ok_cmp {op : BinOp} {fi : Int → Int → Bool} {fs : Nat → Nat → Nat → Nat → Bool} (hne : op ≠ .shl ∧ op ≠ .shr)
    (hfi : ∀ a b (w : World), (Op.intCmp op a b).run P w = .ok (.bool (fi a b)) w)
    (hk : ∀ t k a b, binOp op t (.int k a) (.int k b) = Op.intCmp op a b)
    (hfs : ∀ n x m y (w : World), x < 256 ^ n → y < 256 ^ m → (Op.stringOp op (strOf n x) (strOf m y)).run P w = .ok (.bool (fs n x m y)) w)
    {t t' : TypeId} {x y : Operand} {dx dy : Opd} (hx : opd x = some dx) (hy : opd y = some dy) (ho : o.op = .binOp op t x y t') : PureOK P (oCmp fi fs dx dy) o := by
  intro fr h K hD
  rcases two_iff hD with ⟨k, a, b, e1, e2, hK⟩ | ⟨n, a, m, b, e1, e2, hK⟩
  · refine ⟨_, mkB_iff.1 hK, fun κ ρ w hr => ⟨.bool (fi a b), by simp [gam], ?_⟩⟩
    have h1 := rho_int hr hx e1
    have h2 := rho_int hr hy e2
    exact run_bin ho (by simp [h1]) (by rw [h1, h2, hk, hfi])
  · refine ⟨_, mkB_iff.1 hK, fun κ ρ w hr => ⟨.bool (fs n a m b), by simp [gam], ?_⟩⟩
    obtain ⟨l1, h1⟩ := rho_str hr hx e1
    obtain ⟨l2, h2⟩ := rho_str hr hy e2
    refine run_bin ho (by simp [h1]) ?_
    rw [h1, h2]
    have : binOp op t (.string (strOf n a)) (.string (strOf m b)) = Op.stringOp op (strOf n a) (strOf m b) := by
      unfold binOp; cases op <;> rfl
    rw [this, hfs n a m b w l1 l2]
/-! ### numbers that stand for themselves -/
def ordOK (o : Od) (a b : Int) : Prop := match o with | .lt => a < b | .eq => a = b | .gt => b < a
def poOK (p : Po) (a b : Int) : Prop := (a < b → p.l = true) ∧ (a = b → p.e = true) ∧ (b < a → p.g = true)
theorem poOK_flip {p : Po} {a b : Int} (h : poOK p a b) : poOK p.flip b a := ⟨h.2.2, fun e => h.2.1 e.symm, h.1⟩
theorem poOK_of {o : Od} {a b : Int} (h : ordOK o a b) : poOK o.po a b := by
  cases o <;> simp only [ordOK] at h <;> refine ⟨fun e => ?_, fun e => ?_, fun e => ?_⟩ <;> first | rfl | (exfalso; omega)
theorem ord_ex (a b : Int) : ∃ o, ordOK o a b := by
  rcases Int.lt_trichotomy a b with h | h | h
  · exact ⟨.lt, h⟩
  · exact ⟨.eq, h⟩
  · exact ⟨.gt, h⟩
theorem both_ok {a b r : Bool} (h : both a b = some r) : a = r ∧ b = r := by
  unfold both at h
  cases a <;> cases b <;> simp at h <;> subst h <;> exact ⟨rfl, rfl⟩
theorem dec3_ok {ro : Od → Bool} {p : Po} {r : Bool} {o : Od} {a b : Int} (h : dec3 ro p = some r) (hp : poOK p a b) (ho : ordOK o a b) : ro o = r := by
  have hl : o = .lt → p.l = true := fun e => hp.1 (by subst e; exact ho)
  have he : o = .eq → p.e = true := fun e => hp.2.1 (by subst e; exact ho)
  have hg : o = .gt → p.g = true := fun e => hp.2.2 (by subst e; exact ho)
  obtain ⟨l, e, g⟩ := p
  simp only at hl he hg
  unfold dec3 at h
  cases l <;> cases e <;> cases g <;> cases o <;> simp at h hl he hg <;> first | exact h | exact (both_ok h).1 | exact (both_ok h).2
theorem ordII_ok (a b : Int) : ordOK (ordII a b) a b := by
  unfold ordII
  cases h1 : eqI a b with
  | true => exact eqI_iff.1 h1
  | false =>
    have hne : ¬ a = b := fun e => by rw [eqI_iff.2 e] at h1; cases h1
    cases h2 : leI a b with
    | true => have := leI_iff.1 h2; show a < b; omega
    | false =>
      have : ¬ a ≤ b := fun e => by rw [leI_iff.2 e] at h2; cases h2
      show b < a; omega
theorem bndOf_mem {i : Nat} : ∀ {l : List (Nat × Int × Int)} {p : Int × Int}, bndOf i l = some p → (i, p.1, p.2) ∈ l
  | [], p, h => by cases h
  | x :: l, p, h => by
    unfold bndOf at h
    cases hb : Nat.beq x.1 i with
    | true =>
      rw [hb] at h
      simp only [Option.some.injEq] at h
      have : x.1 = i := by simpa using hb
      subst this h
      exact List.mem_cons_self
    | false => rw [hb] at h; exact List.mem_cons_of_mem _ (bndOf_mem h)
theorem ordIn_mem {i j : Nat} : ∀ {l : List (Nat × Nat × Bool)} {o : Od}, ordIn i j l = some o → ∃ b, (i, j, b) ∈ l ∧ o = (match b with | true => .eq | false => .lt)
  | [], p, h => by cases h
  | x :: l, p, h => by
    unfold ordIn at h
    cases hb : (Nat.beq x.1 i && Nat.beq x.2.1 j) with
    | true =>
      rw [hb] at h
      simp only [Option.some.injEq] at h
      simp only [Bool.and_eq_true, Nat.beq_eq] at hb
      obtain ⟨h1, h2⟩ := hb
      obtain ⟨x1, x2, x3⟩ := x
      simp only at h1 h2 h
      subst h1 h2
      exact ⟨x3, List.mem_cons_self, h.symm⟩
    | false =>
      rw [hb] at h
      obtain ⟨b, h1, h2⟩ := ordIn_mem h
      exact ⟨b, List.mem_cons_of_mem _ h1, h2⟩
theorem gam_sym {κ : Kap} {k : IntKind} {F : Fx} {i : Nat} {X : Value} (h : gam κ (.sym k F i) = some X) : okF κ F = true ∧ ∃ ki, κ i = some ki ∧ X = .int k ki.num := by
  simp only [gam] at h
  split at h
  · rename_i hF
    simp only [Option.map_eq_some_iff] at h
    obtain ⟨ki, h1, h2⟩ := h
    exact ⟨hF, ki, h1, h2.symm⟩
  · cases h
theorem leI_n {a b : Int} (h : ¬ a ≤ b) : (!(leI a b)) = true := by
  cases hh : leI a b with
  | true => exact absurd (leI_iff.1 hh) h
  | false => rfl
theorem ordBN_ok {lo hi n v : Int} (h1 : lo ≤ v) (h2 : v ≤ hi) : poOK (ordBN lo hi n) v n := by
  refine ⟨fun h => leI_n (by omega), fun h => ?_, fun h => leI_n (by omega)⟩
  show (leI lo n && leI n hi) = true
  rw [leI_iff.2 (by omega), leI_iff.2 (by omega)]; rfl
theorem ordS_ok {κ : Kap} {x y : AV} {X Y : Value} {o : Po} (h : ordS x y = some o) (hx : gam κ x = some X) (hy : gam κ y = some Y) : ∃ k a b, X = .int k a ∧ Y = .int k b ∧ poOK o a b := by
  have bd : ∀ {F : Fx} {i : Nat} {p : Int × Int} {ki : Ki}, okF κ F = true → bndOf i F.bnd = some p → κ i = some ki → p.1 ≤ ki.num ∧ ki.num ≤ p.2 := by
    intro F i p ki hF hb hk
    simp only [okF, Bool.and_eq_true, List.all_eq_true] at hF
    have := hF.1 _ (bndOf_mem hb)
    simp only [okB, hk, Bool.and_eq_true, decide_eq_true_eq] at this
    exact this
  have rd : ∀ {F : Fx} {i j : Nat} {o : Od} {ki kj : Ki}, okF κ F = true → ordIn i j F.ord = some o → κ i = some ki → κ j = some kj → ordOK o ki.num kj.num := by
    intro F i j o ki kj hF hb hk hj
    simp only [okF, Bool.and_eq_true, List.all_eq_true] at hF
    obtain ⟨b, h1, h2⟩ := ordIn_mem hb
    have := hF.2 _ h1
    cases b with
    | true => simp only [okR, hk, hj, decide_eq_true_eq] at this; subst h2; exact this
    | false => simp only [okR, hk, hj, decide_eq_true_eq] at this; subst h2; exact this
  unfold ordS at h
  split at h
  · rename_i k a l b
    simp only [gam, Option.some.injEq] at hx hy
    cases hk : kindEq k l with
    | true =>
      rw [hk] at h
      simp only [Option.some.injEq] at h
      have := kindEq_iff.1 hk
      subst this h hx hy
      exact ⟨_, _, _, rfl, rfl, poOK_of (ordII_ok a b)⟩
    | false => rw [hk] at h; cases h
  · rename_i k F i l n
    obtain ⟨hF, ki, h1, rfl⟩ := gam_sym hx
    simp only [gam, Option.some.injEq] at hy
    cases hk : kindEq k l with
    | true =>
      rw [hk] at h
      obtain ⟨p, h2, h3⟩ := Option.map_eq_some_iff.1 h
      have := kindEq_iff.1 hk
      subst this hy h3
      obtain ⟨q1, q2⟩ := bd hF h2 h1
      exact ⟨_, _, _, rfl, rfl, ordBN_ok q1 q2⟩
    | false => rw [hk] at h; cases h
  · rename_i k n l F i
    obtain ⟨hF, ki, h1, rfl⟩ := gam_sym hy
    simp only [gam, Option.some.injEq] at hx
    cases hk : kindEq k l with
    | true =>
      rw [hk] at h
      obtain ⟨p, h2, h5⟩ := Option.map_eq_some_iff.1 h
      have := kindEq_iff.1 hk
      subst this hx h5
      obtain ⟨q1, q2⟩ := bd hF h2 h1
      exact ⟨_, _, _, rfl, rfl, poOK_flip (ordBN_ok q1 q2)⟩
    | false => rw [hk] at h; cases h
  · rename_i k F i l G j
    obtain ⟨hF, ki, h1, rfl⟩ := gam_sym hx
    obtain ⟨hG, kj, h2, rfl⟩ := gam_sym hy
    cases hk : kindEq k l with
    | true =>
      rw [hk] at h
      have := kindEq_iff.1 hk
      subst this
      cases hij : Nat.beq i j with
      | true =>
        rw [hij] at h
        have hij' : i = j := by simpa using hij
        subst hij'
        rw [h1] at h2; cases h2
        simp only [Option.some.injEq] at h; subst h
        exact ⟨_, _, _, rfl, rfl, poOK_of (o := .eq) rfl⟩
      | false =>
        rw [hij] at h
        have h : orO ((ordIn i j F.ord).map Od.po) ((ordIn j i F.ord).map fun o => o.po.flip) = some o := h
        cases ha : ordIn i j F.ord with
        | some o' =>
          rw [ha] at h
          simp only [orO, Option.map_some, Option.some.injEq] at h; subst h
          exact ⟨_, _, _, rfl, rfl, poOK_of (rd hF ha h1 h2)⟩
        | none =>
          rw [ha] at h
          simp only [orO, Option.map_none] at h
          obtain ⟨o', h4, h5⟩ := Option.map_eq_some_iff.1 h
          subst h5
          exact ⟨_, _, _, rfl, rfl, poOK_flip (poOK_of (rd hF h4 h2 h1))⟩
    | false => rw [hk] at h; cases h
  · cases h
theorem leI_t {a b : Int} (h : a ≤ b) : leI a b = true := leI_iff.2 h
theorem leI_f {a b : Int} (h : ¬ a ≤ b) : leI a b = false := by
  cases hh : leI a b with
  | true => exact absurd (leI_iff.1 hh) h
  | false => rfl
theorem eqI_t {a b : Int} (h : a = b) : eqI a b = true := eqI_iff.2 h
theorem eqI_f {a b : Int} (h : ¬ a = b) : eqI a b = false := by
  cases hh : eqI a b with
  | true => exact absurd (eqI_iff.1 hh) h
  | false => rfl
theorem ro_lss (o : Od) (a b : Int) (h : ordOK o a b) : (!(leI b a)) = roLss o := by
  cases o <;> simp only [ordOK] at h
  · rw [leI_f (by omega)]; rfl
  · rw [leI_t (by omega)]; rfl
  · rw [leI_t (by omega)]; rfl
theorem ro_gtr (o : Od) (a b : Int) (h : ordOK o a b) : (!(leI a b)) = roGtr o := by
  cases o <;> simp only [ordOK] at h
  · rw [leI_t (by omega)]; rfl
  · rw [leI_t (by omega)]; rfl
  · rw [leI_f (by omega)]; rfl
theorem ro_leq (o : Od) (a b : Int) (h : ordOK o a b) : leI a b = roLeq o := by
  cases o <;> simp only [ordOK] at h
  · rw [leI_t (by omega)]; rfl
  · rw [leI_t (by omega)]; rfl
  · rw [leI_f (by omega)]; rfl
theorem ro_geq (o : Od) (a b : Int) (h : ordOK o a b) : leI b a = roGeq o := by
  cases o <;> simp only [ordOK] at h
  · rw [leI_f (by omega)]; rfl
  · rw [leI_t (by omega)]; rfl
  · rw [leI_t (by omega)]; rfl
theorem ro_eql (o : Od) (a b : Int) (h : ordOK o a b) : eqI a b = roEql o := by
  cases o <;> simp only [ordOK] at h
  · rw [eqI_f (by omega)]; rfl
  · rw [eqI_t h]; rfl
  · rw [eqI_f (by omega)]; rfl
theorem ro_neq (o : Od) (a b : Int) (h : ordOK o a b) : (!(eqI a b)) = roNeq o := by
  cases o <;> simp only [ordOK] at h
  · rw [eqI_f (by omega)]; rfl
  · rw [eqI_t h]; rfl
  · rw [eqI_f (by omega)]; rfl
theorem ok_cmp2 {op : BinOp} {ro : Od → Bool} {fi : Int → Int → Bool} {fs : Nat → Nat → Nat → Nat → Bool} (hro : ∀ o a b, ordOK o a b → fi a b = ro o) (hne : op ≠ .shl ∧ op ≠ .shr)
    (hfi : ∀ a b (w : World), (Op.intCmp op a b).run P w = .ok (.bool (fi a b)) w)
    (hk : ∀ t k a b, binOp op t (.int k a) (.int k b) = Op.intCmp op a b)
    (hfs : ∀ n x m y (w : World), x < 256 ^ n → y < 256 ^ m → (Op.stringOp op (strOf n x) (strOf m y)).run P w = .ok (.bool (fs n x m y)) w)
    {t t' : TypeId} {x y : Operand} {dx dy : Opd} (hx : opd x = some dx) (hy : opd y = some dy) (ho : o.op = .binOp op t x y t') : PureOK P (oCmp2 ro fi fs dx dy) o := by
  intro fr h K hD
  have hD' : Bool.rec (motive := fun _ => Prop) (oCmp fi fs dx dy fr h K) (asOpt (ordS (dx fr) (dy fr)) fun p => asOpt (dec3 ro p) fun r => mkB r fun v => K v h) (isSym (dx fr) (dy fr)) := hD
  cases hs : isSym (dx fr) (dy fr) with
  | false => rw [hs] at hD'; exact ok_cmp hne hfi hk hfs hx hy ho fr h K hD'
  | true =>
    rw [hs] at hD'
    obtain ⟨p, h1, h2⟩ := asOpt_iff.1 hD'
    obtain ⟨r, h3, h4⟩ := asOpt_iff.1 h2
    refine ⟨_, mkB_iff.1 h4, fun κ ρ w hr => ⟨.bool r, by simp [gam], ?_⟩⟩
    obtain ⟨k, a, b, e1, e2, e3⟩ := ordS_ok h1 (hr x dx hx) (hr y dy hy)
    obtain ⟨od, e4⟩ := ord_ex a b
    rw [← dec3_ok h3 e3 e4, ← hro _ _ _ e4]
    exact run_bin ho (by simp [e1]) (by rw [e1, e2, hk, hfi])
theorem wrap_shl (k : IntKind) (a : Int) (b : Nat) : k.wrap (a * 2 ^ (Nat.min b k.bits)) = k.wrap (a * 2 ^ (min b k.bits)) := rfl
theorem ok_shl {t t' : TypeId} {x y : Operand} {dx dy : Opd} (hx : opd x = some dx) (hy : opd y = some dy) (ho : o.op = .binOp .shl t x y t') : PureOK P (oShl dx dy) o := by
  intro fr h K hD
  obtain ⟨k, a, e1, hD⟩ := asInt_iff.1 hD
  obtain ⟨k', b, e2, hK⟩ := asNat_iff.1 hD
  refine ⟨_, mkI_iff.1 hK, fun κ ρ w hr => ⟨.int k (k.wrap (a * 2 ^ (Nat.min b k.bits))), by simp [gam, wrapF_eq], ?_⟩⟩
  have h1 := rho_int hr hx e1
  have h2 := rho_int hr hy e2
  refine run_bin ho (by simp [h1]) ?_
  have hn : ¬ ((b : Int) < 0) := by omega
  simp [h1, h2, binOp, Op.shift, hn]
theorem ok_shr {t t' : TypeId} {x y : Operand} {dx dy : Opd} (hx : opd x = some dx) (hy : opd y = some dy) (ho : o.op = .binOp .shr t x y t') : PureOK P (oShr dx dy) o := by
  intro fr h K hD
  obtain ⟨k, a, e1, hD⟩ := asInt_iff.1 hD
  obtain ⟨k', b, e2, hK⟩ := asNat_iff.1 hD
  refine ⟨_, mkI_iff.1 hK, fun κ ρ w hr => ⟨.int k (a.fdiv (2 ^ (Nat.min b k.bits))), ?_, ?_⟩⟩
  · cases a with
    | negSucc m => rfl
    | ofNat m =>
      simp only [gam, shrI, Nat.shiftRight_eq_div_pow]
      congr 2
      rw [Int.fdiv_eq_ediv_of_nonneg _ (by exact_mod_cast Nat.zero_le _)]
      simp
  have h1 := rho_int hr hx e1
  have h2 := rho_int hr hy e2
  refine run_bin ho (by simp [h1]) ?_
  have hn : ¬ ((b : Int) < 0) := by omega
  simp [h1, h2, binOp, Op.shift, hn]
theorem ok_not {t : TypeId} {x : Operand} {dx : Opd} (hx : opd x = some dx) (ho : o.op = .unOp .not t x) : PureOK P (oNot dx) o := by
  intro fr h K hD
  obtain ⟨b, e1, hK⟩ := asBool_iff.1 hD
  refine ⟨_, mkB_iff.1 hK, fun κ ρ w hr => ⟨.bool (!b), by simp [gam], ?_⟩⟩
  simp [execOp, ho, rho_bool hr hx e1, Op.unary]
theorem ok_neg {t : TypeId} {x : Operand} {dx : Opd} (hx : opd x = some dx) (ho : o.op = .unOp .neg t x) : PureOK P (oNeg dx) o := by
  intro fr h K hD
  obtain ⟨k, n, e1, hK⟩ := asInt_iff.1 hD
  refine ⟨_, mkI_iff.1 hK, fun κ ρ w hr => ⟨.int k (k.wrap (0 - n)), by simp [gam, wrapF_eq], ?_⟩⟩
  simp [execOp, ho, rho_int hr hx e1, Op.unary, Op.intArith]
theorem ones_bits (k : IntKind) : 2 ^ k.bits - 1 = bitsI k (if k.signed then -1 else k.max) := by
  cases k <;> rfl
theorem ok_com {t : TypeId} {x : Operand} {dx : Opd} (hx : opd x = some dx) (ho : o.op = .unOp .xor t x) : PureOK P (oCom dx) o := by
  intro fr h K hD
  obtain ⟨k, n, e1, hK⟩ := asInt_iff.1 hD
  refine ⟨_, mkI_iff.1 hK, fun κ ρ w hr => ⟨.int k (k.wrap (Int.ofNat (Nat.xor (2 ^ k.bits - 1) (bitsI k n)))), by simp [gam, wrapF_eq], ?_⟩⟩
  rw [ones_bits, bitsI_eq, bitsI_eq]
  simp only [execOp, ho, rho_int hr hx e1, Op.unary, Op.intBits, BitVec.toNat_xor, Sem.run_bind, Sem.run_pure, Result.andThen_ok]
  rfl
theorem ok_toInt {s t : TypeId} {k0 k : IntKind} {x : Operand} {dx : Opd} (hx : opd x = some dx) (ho : o.op = .convert s t x) (hs : P.underlying s = some (.int k0)) (ht : P.underlying t = some (.int k)) : PureOK P (oToInt k dx) o := by
  intro fr h K hD
  obtain ⟨k', n, e1, hK⟩ := asInt_iff.1 hD
  refine ⟨_, mkI_iff.1 hK, fun κ ρ w hr => ⟨.int k (k.wrap n), by simp [gam, wrapF_eq], ?_⟩⟩
  simp [execOp, ho, rho_int hr hx e1, convert, run_underlying hs, run_underlying ht, Conv.intToInt]
theorem ok_strId {s t : TypeId} {x : Operand} {dx : Opd} (hx : opd x = some dx) (ho : o.op = .convert s t x) (hs : P.underlying s = some .string) (ht : P.underlying t = some .string) : PureOK P (oStrId dx) o := by
  intro fr h K hD
  obtain ⟨n, z, e1, hK⟩ := asStr_iff.1 hD
  refine ⟨_, hK, fun κ ρ w hr => ?_⟩
  obtain ⟨l1, h1⟩ := rho_str hr hx e1
  exact ⟨.string (strOf n z), by simp [gam, l1], by simp [execOp, ho, h1, convert, run_underlying hs, run_underlying ht]⟩
theorem ok_runeS {s t : TypeId} {k0 : IntKind} {x : Operand} {dx : Opd} (hx : opd x = some dx) (ho : o.op = .convert s t x) (hs : P.underlying s = some (.int k0)) (ht : P.underlying t = some .string) : PureOK P (oRuneS dx) o := by
  intro fr h K hD
  obtain ⟨k', n, e1, hK⟩ := asInt_iff.1 hD
  refine ⟨_, hK, fun κ ρ w hr => ⟨.string (Utf8.encode n), ?_, ?_⟩⟩
  · simp only [gam]
    rw [if_pos (packL_lt _), strOf_pack]
  · simp [execOp, ho, rho_int hr hx e1, convert, run_underlying hs, run_underlying ht, Conv.intToString]

end Go.Am
