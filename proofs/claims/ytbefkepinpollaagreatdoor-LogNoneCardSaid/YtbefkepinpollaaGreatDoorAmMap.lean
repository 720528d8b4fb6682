/-
  Maps: the machine's look-ups and updates do what the model's do.
-/
import Derived.Test.YtbefkepinpollaaGreatDoorAmActs6
import Derived.Test.YtbefkepinpollaaGreatDoorAmOps
import Derived.MapKept
namespace Go.Am
set_option linter.unusedSimpArgs false
set_option linter.unusedVariables false
open Go Go.RowKit
variable {P : Program} {o : Oper}

/-! ### keys -/
structure KeyOK (P : Program) (kf : AV → AV → Option Bool) (t : TypeId) : Prop where
  chk : ∀ κ x X e w, kf x x = some true → gam κ x = some X → (Instr.checkKey e 10000 t X).run P w = .ok () w ∧ Instr.sameBits 10000 X X = true
  same : ∀ x y, kf x y = some true → x = y
  find : ∀ κ x X w, kf x x = some true → gam κ x = some X → ∀ l es r, gamE κ l = some es → findA kf x l 0 = some r →
    ∃ R, (Instr.findKey t X es).run P w = .ok R w ∧ (match r, R with | none, none => True | some (i, v), some (j, V) => i = j ∧ gam κ v = some V | _, _ => False)

def RelF (κ : Kap) (r : Option (Nat × AV)) (R : Option (Nat × Value)) : Prop := match r, R with
  | none, none => True
  | some (i, v), some (j, V) => i = j ∧ gam κ v = some V
  | _, _ => False

theorem findNow_ok {κ : Kap} {kf : AV → AV → Option Bool} {d : TypeDesc} {x : AV} {X : Value} (hs : ∀ y Y b, kf x y = some b → gam κ y = some Y → Instr.sameNow d X Y = some b) :
    ∀ l i es r, gamE κ l = some es → findA kf x l i = some r → ∃ R, Instr.findNow d X es i = some R ∧ RelF κ r R
  | [], i, es, r, h, hf => by
    simp [gamE] at h; subst h
    simp [findA] at hf; subst hf
    exact ⟨none, rfl, trivial⟩
  | (k, v, b) :: l, i, es, r, h, hf => by
    simp only [gamE, Option.bind_eq_some_iff, Option.map_eq_some_iff] at h
    obtain ⟨k', h1, v', h2, es', h3, rfl⟩ := h
    simp only [findA] at hf
    cases hk : kf x k with
    | none => rw [hk] at hf; cases hf
    | some c =>
      rw [hk] at hf
      have h4 := hs k k' c hk h1
      cases c with
      | true =>
        simp only [Option.some.injEq] at hf; subst hf
        exact ⟨some (i, v'), by simp [Instr.findNow, h4], rfl, h2⟩
      | false =>
        obtain ⟨R, g1, g2⟩ := findNow_ok hs l (i + 1) es' r h3 hf
        exact ⟨R, by simp [Instr.findNow, h4, g1], g2⟩
theorem findAsk_ok {κ : Kap} {kf : AV → AV → Option Bool} {t : TypeId} {x : AV} {X : Value} {w : World} (hs : ∀ y Y b, kf x y = some b → gam κ y = some Y → (Op.equal t X Y).run P w = .ok b w) :
    ∀ l i es r, gamE κ l = some es → findA kf x l i = some r → ∃ R, (Instr.findAsking t X es i).run P w = .ok R w ∧ RelF κ r R
  | [], i, es, r, h, hf => by
    simp [gamE] at h; subst h
    simp [findA] at hf; subst hf
    exact ⟨none, rfl, trivial⟩
  | (k, v, b) :: l, i, es, r, h, hf => by
    simp only [gamE, Option.bind_eq_some_iff, Option.map_eq_some_iff] at h
    obtain ⟨k', h1, v', h2, es', h3, rfl⟩ := h
    simp only [findA] at hf
    cases hk : kf x k with
    | none => rw [hk] at hf; cases hf
    | some c =>
      rw [hk] at hf
      have h4 := hs k k' c hk h1
      cases c with
      | true =>
        simp only [Option.some.injEq] at hf; subst hf
        exact ⟨some (i, v'), by simp [Instr.findAsking, h4], rfl, h2⟩
      | false =>
        obtain ⟨R, g1, g2⟩ := findAsk_ok hs l (i + 1) es' r h3 hf
        exact ⟨R, by simp [Instr.findAsking, h4, g1], g2⟩

theorem findA_mem {kf : AV → AV → Option Bool} {x : AV} : ∀ (l : List (AV × AV × Nat)) (i j : Nat) (v : AV), findA kf x l i = some (some (j, v)) → ∃ k b, i ≤ j ∧ l[j - i]? = some (k, v, b) ∧ kf x k = some true
  | [], i, j, v, h => by simp [findA] at h
  | (k, u, b) :: l, i, j, v, h => by
    simp only [findA] at h
    cases hk : kf x k with
    | none => rw [hk] at h; cases h
    | some c =>
      rw [hk] at h
      cases c with
      | true =>
        simp only [Option.some.injEq, Prod.mk.injEq] at h
        obtain ⟨rfl, rfl⟩ := h
        exact ⟨k, b, Nat.le_refl _, by simp, hk⟩
      | false =>
        obtain ⟨k2, b2, h1, h2, h3⟩ := findA_mem l (i + 1) j v h
        refine ⟨k2, b2, by omega, ?_, h3⟩
        rw [show j - i = (j - (i + 1)) + 1 by omega]; simpa using h2

theorem gamE_append {κ : Kap} : ∀ (l m : List (AV × AV × Nat)) (x y : List MapEntry), gamE κ l = some x → gamE κ m = some y → gamE κ (l ++ m) = some (x ++ y)
  | [], m, x, y, h, hm => by simp [gamE] at h; subst h; simpa using hm
  | (k, v, b) :: l, m, x, y, h, hm => by
    simp only [gamE, Option.bind_eq_some_iff, Option.map_eq_some_iff] at h
    obtain ⟨k', h1, v', h2, es', h3, rfl⟩ := h
    have := gamE_append l m es' y h3 hm
    simp [gamE, h1, h2, this]
theorem gamE_get {κ : Kap} : ∀ (l : List (AV × AV × Nat)) (x : List MapEntry) (i : Nat) k v b, gamE κ l = some x → l[i]? = some (k, v, b) → ∃ K V, x[i]? = some { key := K, val := V, born := b } ∧ gam κ k = some K ∧ gam κ v = some V
  | [], x, i, k, v, b, h, hi => by simp at hi
  | (k0, v0, b0) :: l, x, i, k, v, b, h, hi => by
    simp only [gamE, Option.bind_eq_some_iff, Option.map_eq_some_iff] at h
    obtain ⟨k', h1, v', h2, es', h3, rfl⟩ := h
    cases i with
    | zero => simp at hi; obtain ⟨rfl, rfl, rfl⟩ := hi; exact ⟨k', v', by simp, h1, h2⟩
    | succ i => simpa using gamE_get l es' i k v b h3 (by simpa using hi)
theorem gamE_mod {κ : Kap} {v : AV} {V : Value} (hv : gam κ v = some V) : ∀ (l : List (AV × AV × Nat)) (x : List MapEntry) (i : Nat), gamE κ l = some x → gamE κ (modE v l i) = some (x.modify i fun e => { e with val := V })
  | [], x, i, h => by simp [gamE] at h; subst h; simp [modE, gamE]
  | (k0, v0, b0) :: l, x, i, h => by
    simp only [gamE, Option.bind_eq_some_iff, Option.map_eq_some_iff] at h
    obtain ⟨k', h1, v', h2, es', h3, rfl⟩ := h
    cases i with
    | zero => simp [modE, gamE, h1, hv, h3]
    | succ i => simp [modE, gamE, h1, h2, gamE_mod hv l es' i h3]
theorem gamE_del {κ : Kap} : ∀ (l : List (AV × AV × Nat)) (x : List MapEntry) (i : Nat), gamE κ l = some x → gamE κ (delE l i) = some (x.eraseIdx i)
  | [], x, i, h => by simp [gamE] at h; subst h; simp [delE, gamE]
  | (k0, v0, b0) :: l, x, i, h => by
    simp only [gamE, Option.bind_eq_some_iff, Option.map_eq_some_iff] at h
    obtain ⟨k', h1, v', h2, es', h3, rfl⟩ := h
    cases i with
    | zero => simp [delE, gamE, h3]
    | succ i => simp [delE, gamE, h1, h2, gamE_del l es' i h3]

theorem key_now {kf : AV → AV → Option Bool} {t : TypeId} {d : TypeDesc} (ht : P.underlying t = some d) (hd : (∃ k, d = .int k) ∨ d = .string ∨ d = .bool)
    (hc : ∀ κ x X, kf x x = some true → gam κ x = some X → Instr.sameBits 10000 X X = true)
    (hsm : ∀ x y, kf x y = some true → x = y)
    (hs : ∀ κ x X, kf x x = some true → gam κ x = some X → ∀ y Y b, kf x y = some b → gam κ y = some Y → Instr.sameNow d X Y = some b) : KeyOK P kf t where
  chk := fun κ x X e w h1 h2 => ⟨(show ∀ n, (Instr.checkKey e (n + 1) t X).run P w = .ok () w from fun n => by rcases hd with ⟨k, rfl⟩ | rfl | rfl <;> simp [Instr.checkKey, run_underlying ht]) 9999, hc κ x X h1 h2⟩
  same := hsm
  find := fun κ x X w h1 h2 l es r h3 h4 => by
    obtain ⟨R, g1, g2⟩ := findNow_ok (hs κ x X h1 h2) l 0 es r h3 h4
    exact ⟨R, by simp [Instr.findKey, run_underlying ht, g1], g2⟩

theorem eqKI_iff {x y : AV} {b : Bool} (h : eqKI x y = some b) : ∃ k m n, x = .int k m ∧ y = .int k n ∧ b = (m == n) := by
  cases x <;> first | (exact absurd (show (none : Option Bool) = some b from h) (by simp)) | skip
  case int j a =>
  cases y <;> first | (exact absurd (show (none : Option Bool) = some b from h) (by simp)) | skip
  case int k c =>
  have h' : Bool.rec (motive := fun _ => Option Bool) none (some (eqI a c)) (kindEq j k) = some b := h
  cases hk : kindEq j k with
  | true =>
    rw [hk] at h'
    simp only [Option.some.injEq] at h'
    have := kindEq_iff.1 hk
    subst this
    exact ⟨j, a, c, rfl, rfl, by rw [← h', eqI_eq]⟩
  | false => rw [hk] at h'; cases h'
theorem key_int {t : TypeId} {k : IntKind} (ht : P.underlying t = some (.int k)) : KeyOK P eqKI t := by
  refine key_now ht (.inl ⟨k, rfl⟩) (fun κ x X h1 h2 => ?_) (fun x y h => ?_) (fun κ x X h1 h2 y Y b h3 h4 => ?_)
  · obtain ⟨j, m, n, rfl, _, _⟩ := eqKI_iff h1
    simp [gam] at h2; subst h2
    simp [Instr.sameBits]
  · obtain ⟨j, m, n, rfl, rfl, e⟩ := eqKI_iff h
    have : m = n := by simpa using e.symm
    rw [this]
  · obtain ⟨j, m, n, rfl, rfl, e⟩ := eqKI_iff h3
    simp [gam] at h2 h4; subst h2 h4
    simp [Instr.sameNow, e]
theorem key_bool {t : TypeId} (ht : P.underlying t = some .bool) : KeyOK P eqB t := by
  refine key_now ht (.inr (.inr rfl)) (fun κ x X h1 h2 => ?_) (fun x y h => ?_) (fun κ x X h1 h2 y Y b h3 h4 => ?_)
  · rw [eqB_old] at h1
    cases x <;> simp [eqB0] at h1
    simp [gam] at h2; subst h2
    simp [Instr.sameBits]
  · rw [eqB_old] at h
    cases x <;> cases y <;> simp [eqB0] at h
    rw [h]
  · rw [eqB_old] at h3
    cases x <;> cases y <;> simp [eqB0] at h3
    simp [gam] at h2 h4; subst h2 h4
    simp [Instr.sameNow, ← h3]
theorem bytes_beq_iff {a b : ByteArray} : (a == b) = true ↔ a = b := by
  exact Go.MapKept.bytes_beq a b
theorem key_str {t : TypeId} (ht : P.underlying t = some .string) : KeyOK P eqKS t := by
  refine key_now ht (.inr (.inl rfl)) (fun κ x X h1 h2 => ?_) (fun x y h => ?_) (fun κ x X h1 h2 y Y b h3 h4 => ?_)
  · cases x <;> simp [eqKS, eqKS2] at h1
    simp only [gam] at h2
    split at h2 <;> simp at h2
    subst h2
    simp only [Instr.sameBits]
    exact bytes_beq_iff.2 rfl
  · cases x <;> cases y <;> simp [eqKS, eqKS2, eqS] at h
    rw [h.1, h.2]
  · cases x <;> cases y <;> simp [eqKS, eqKS2] at h3
    simp only [gam] at h2 h4
    split at h2 <;> simp at h2
    rename_i hx
    split at h4 <;> simp at h4
    rename_i hy
    subst h2 h4
    rw [eqS_eq hx hy] at h3
    simp only [Instr.sameNow, Option.some.injEq]
    rw [← h3, Bool.eq_iff_iff, bytes_beq_iff, beq_iff_eq]
    exact ⟨fun e => by rw [e], fun e => ByteArray.ext (Array.toList_inj.1 (by rw [ByteArray.toList_eq, ByteArray.toList_eq] at e; exact e))⟩
theorem key_pair {t : TypeId} {fs : Array Field} (ht : P.underlying t = some (.struct fs)) (hp : isPair P t fs = some true) : KeyOK P eqPair t := by
  have hsh : ∀ x y b, eqPair x y = some b → ∃ a1 a2 b1 b2, x = .agg [.int .i64 a1, .int .i64 a2] ∧ y = .agg [.int .i64 b1, .int .i64 b2] ∧ b = (a1 == b1 && a2 == b2) := fun x y b h => by
    unfold eqPair at h
    split at h
    · simp only [Option.some.injEq, eqI_eq] at h
      exact ⟨_, _, _, _, rfl, rfl, h.symm⟩
    · cases h
  have hg : ∀ κ (a b : Int) X, gam κ (.agg [.int .i64 a, .int .i64 b]) = some X → X = .agg #[.int .i64 a, .int .i64 b] := fun κ a b X h =>
    (Option.some.inj (Eq.trans (by simp [gam, gams]; exact ⟨rfl, rfl⟩) h)).symm
  unfold isPair at hp
  split at hp
  · rename_i f g hfs
    have hfs' : fs = #[f, g] := Array.toList_inj.1 hfs
    subst hfs'
    simp only [Option.bind_eq_some_iff] at hp
    obtain ⟨df, hf, dg, hg', hp⟩ := hp
    split at hp
    · rename_i k l
      simp only [Option.some.injEq, Bool.and_eq_true, Nat.beq_eq, Bool.not_eq_true', beq_eq_false_iff_ne, ne_eq] at hp
      obtain ⟨h0, h1, hn, hm, hst, hgt⟩ := hp
      refine ⟨fun κ x X e w hx hX => ⟨?_, ?_⟩, fun x y h => ?_, fun κ x X w hx hX l2 es r hl hr => ?_⟩
      · obtain ⟨a1, a2, _, _, rfl, _, _⟩ := hsh _ _ _ hx
        rw [hg _ _ _ _ hX]
        have ki : ∀ n (t : TypeId) (k : IntKind) (a : Int), P.underlying t = some (.int k) → (Instr.checkKey e (n + 1) t (.int .i64 a)).run P w = .ok () w := fun n t k a ht => by
          simp [Instr.checkKey, run_underlying ht]
        have key : ∀ q, (∀ (t : TypeId) (k : IntKind) (a : Int), P.underlying t = some (.int k) → (Instr.checkKey e q t (.int .i64 a)).run P w = .ok () w) →
            (Instr.checkKey e (q + 1) t (.agg #[.int .i64 a1, .int .i64 a2])).run P w = .ok () w := fun q hq => by
          have e1 := hq f.type k a1 hf
          have e2 := hq g.type l a2 hg'
          simp only [Instr.checkKey, Sem.run_bind, run_underlying ht, Result.andThen_ok]
          simp [hn, hm, h0, h1, part, aggInt hf, aggInt hg', e1, e2]
        exact key 9999 fun t k a ht => ki 9998 t k a ht
      · obtain ⟨a1, a2, _, _, rfl, _, _⟩ := hsh _ _ _ hx
        rw [hg _ _ _ _ hX]
        have : ∀ n, Instr.sameBits (n + 2) (.agg #[.int .i64 a1, .int .i64 a2]) (.agg #[.int .i64 a1, .int .i64 a2]) = true := fun n => by simp [Instr.sameBits]
        exact this 9998
      · obtain ⟨a1, a2, b1, b2, rfl, rfl, e⟩ := hsh _ _ _ h
        simp only [Bool.true_eq, Bool.and_eq_true, beq_iff_eq] at e
        rw [e.1, e.2]
      · have hs : ∀ y Y b, eqPair x y = some b → gam κ y = some Y → (Op.equal t X Y).run P w = .ok b w := fun y Y b h3 h4 => by
          obtain ⟨a1, a2, b1, b2, rfl, rfl, e⟩ := hsh _ _ _ h3
          rw [hg _ _ _ _ hX, hg _ _ _ _ h4, e]
          exact equal_pair ht hf hg' h0 h1 hn hm hst a1 a2 b1 b2 w
        obtain ⟨R, g1, g2⟩ := findAsk_ok hs l2 0 es r hl hr
        refine ⟨R, ?_, g2⟩
        simp only [Instr.findKey, Sem.run_bind, run_underlying ht, Result.andThen_ok]
        cases es with
        | nil =>
          simp only [Instr.findAsking] at g1
          simpa [Instr.findNow] using g1
        | cons e es =>
          simp only [Instr.findNow, Instr.sameNow]
          exact g1
    · cases hp
  · cases hp
theorem keyFn_ok {t : TypeId} {kf : AV → AV → Option Bool} (h : keyFn P t = some kf) : KeyOK P kf t := by
  unfold keyFn at h
  simp only [Option.bind_eq_some_iff] at h
  obtain ⟨d, hd, h⟩ := h
  cases d <;> simp only [Option.some.injEq, reduceCtorEq] at h
  case int k => subst h; exact key_int hd
  case string => subst h; exact key_str hd
  case bool => subst h; exact key_bool hd
  case struct fs =>
    simp only [Option.bind_eq_some_iff] at h
    obtain ⟨b, hb, h⟩ := h
    cases b <;> simp at h
    subst h
    exact key_pair hd hb

/-! ### the operations -/
theorem finLook_iff {ok : Bool} {zero : AV} {h : Hp} {K : AV → Hp → Prop} {r : Option (Nat × AV)} (hD : finLook ok zero h K r) :
    K (let p := (match r with | some (_, v) => (v, true) | none => (zero, false)); if ok then .tup [p.1, .bool p.2] else p.1) h := by
  cases r <;> cases ok <;> exact hD
theorem look_gam {κ : Kap} {ok : Bool} {zero : AV} {Z : Value} (hz : gam κ zero = some Z) {r : Option (Nat × AV)} {R : Option (Nat × Value)} (h : RelF κ r R) :
    gam κ (let p := (match r with | some (_, v) => (v, true) | none => (zero, false)); if ok then .tup [p.1, .bool p.2] else p.1)
      = some (let p := (match R with | some (_, v) => (v, true) | none => (Z, false)); if ok then .tuple #[p.1, .bool p.2] else p.1) := by
  cases r <;> cases R <;> simp only [RelF] at h
  · cases ok <;> simp [gam, gams, hz]
  · obtain ⟨_, h⟩ := h
    cases ok <;> simp [gam, gams, h]
theorem ok_lookup {t k e : TypeId} {ok : Bool} {m x : Operand} {dm dx : Opd} {kf : AV → AV → Option Bool} {zero : AV} {i : TypeInfo} {Z : Value}
    (hm : opd m = some dm) (hx : opd x = some dx) (ho : o.op = .lookup t m x ok) (ht : P.underlying t = some (.map k e)) (hk : KeyOK P kf k)
    (hi : P.info? e = some i) (hZ : i.zero = some Z) (hz : ∀ κ, gam κ zero = some Z) : ReadOK P (oLookup kf ok zero dm dx) o := by
  intro fr h K hD
  obtain ⟨b, hb, hD1⟩ := asOpt_iff.1 hD
  clear hD
  obtain ⟨rfl, hD⟩ := gd_iff.1 hD1
  clear hD1
  have hzv : ∀ w, (zeroValue e).run P w = .ok Z w := fun w => by simp [zeroValue, typeInfo, hi, hZ]
  cases e1 : dm fr <;> simp only [e1] at hD
  case nilmap =>
    refine ⟨_, finLook_iff hD, fun B w0 κ ρ w sm hr => ?_⟩
    have h3 := rho_nilmap hr hm e1
    obtain ⟨c1, _⟩ := hk.chk κ _ _ true w hb (hr x dx hx)
    obtain ⟨R, f1, f2⟩ := hk.find κ _ _ w hb (hr x dx hx) [] [] none (by simp [gamE]) (by simp [findA])
    refine ⟨_, look_gam (hz κ) (r := none) (R := none) trivial, ?_⟩
    cases R with
    | some p => exact f2.elim
    | none =>
      cases ok <;> simp [execOp, ho, Instr.lookup, run_underlying ht, h3, c1, f1, hzv]
  case map p =>
    obtain ⟨en, hg, hD⟩ := objAt_iff.1 hD
    cases hob : en.obj <;> simp only [hob, asMap] at hD
    case map es clock =>
      obtain ⟨r, hf, hD⟩ := asOpt_iff.1 hD
      refine ⟨_, finLook_iff hD, fun B w0 κ ρ w sm hr => ?_⟩
      obtain ⟨ki, hkp, h3⟩ := rho_map hr hm e1
      obtain ⟨ki', hk', _, _, h4⟩ := sm.obj p en hg
      rw [hkp] at hk'; cases hk'
      rw [hob] at h4
      obtain ⟨es', h5, h6⟩ := h4
      obtain ⟨c1, _⟩ := hk.chk κ _ _ es'.isEmpty w hb (hr x dx hx)
      obtain ⟨R, f1, f2⟩ := hk.find κ _ _ w hb (hr x dx hx) es es' r h6 hf
      have hget := Go.MapKept.run_getObj_map (P := P) h5
      refine ⟨_, look_gam (hz κ) (r := r) (R := R) f2, ?_⟩
      cases R with
      | none => cases ok <;> simp [execOp, ho, Instr.lookup, run_underlying ht, h3, hget, c1, f1, hzv]
      | some q => cases ok <;> simp [execOp, ho, Instr.lookup, run_underlying ht, h3, hget, c1, f1, hzv]
theorem ok_mkMap {t : TypeId} (ho : o.op = .makeMap t none) : ActOK P oMkMap o := by
  intro fr h K hD
  simp only [oMkMap, vMkMap] at hD
  rw [newK_eq] at hD
  refine ⟨_, _, hD, fun B w0 κ ρ w s hr => ?_⟩
  refine ⟨κ.set h.next ⟨w.heap.size, 0, 0⟩, _, _, Kap.le_set s.none_next, s.new 0 0 (.map [] 0) (.map #[] 0) ⟨[], rfl, rfl⟩, by simp only [gam, Kap.set_self]; rfl, .inl ?_⟩
  simp [execOp, ho, Instr.makeMap]

theorem setBlock_other (w : World) (r b : Nat) (hb : b ≠ r) (ob : Obj) : ({ w with heap := w.heap.setIfInBounds r ob } : World).heap[b]? = w.heap[b]? := by
  simp [Array.getElem?_setIfInBounds, Ne.symm hb]
theorem map_put {B : Nat} {w0 : W0} {w : World} {κ : Kap} {h : Hp} (s : Sim B w0 κ h w) {p : Nat} {e : Ent} {ki : Ki} (he : h.objs.getP (npos p) = some e) (hk : κ p = some ki) (hown : e.own = true)
    {es : List (AV × AV × Nat)} {clock : Nat} {es' : List MapEntry} (hg : gamE κ es = some es') {old : Obj} (ho : w.heap[ki.blk]? = some old) :
    Sim B w0 κ ⟨E1.updP (some ⟨true, e.esz, .map es clock⟩) (npos p) h.objs, h.next⟩ { w with heap := w.heap.setIfInBounds ki.blk (.map es'.toArray clock) } := by
  have hB : B ≤ ki.blk := by
    obtain ⟨ki', q1, q2, _, _⟩ := s.obj p e he
    rw [hk] at q1; cases q1; exact q2 hown
  have hbel : Below B w { w with heap := w.heap.setIfInBounds ki.blk (.map es'.toArray clock) } := ⟨rfl, rfl, rfl, by simp, fun k hk' => setBlock_other w ki.blk k (by omega) _⟩
  refine s.put he hk hown hbel (by simp) (fun b hb => setBlock_other w ki.blk b hb _) _ ⟨es', ?_, hg⟩
  have := (Array.getElem?_eq_some_iff.1 ho).1
  simp [Array.getElem?_setIfInBounds, this]
theorem onMap_iff {h : Hp} {m : AV} {k : Nat → Ent → List (AV × AV × Nat) → Nat → Prop} (hD : onMap h m k) :
    ∃ p e es c, m = .map p ∧ h.objs.getP (npos p) = some e ∧ e.own = true ∧ e.obj = .map es c ∧ k p e es c := by
  cases m <;> simp only [onMap] at hD
  rename_i p
  obtain ⟨e, he, hD⟩ := objAt_iff.1 hD
  obtain ⟨ho, hD⟩ := gd_iff.1 hD
  cases hob : e.obj <;> simp only [hob, asMap] at hD
  exact ⟨p, e, _, _, rfl, he, ho, hob, hD⟩
theorem ok_mapSet {t k e : TypeId} {m x v : Operand} {dm dx dv : Opd} {kf : AV → AV → Option Bool}
    (hm : opd m = some dm) (hx : opd x = some dx) (hv : opd v = some dv) (ho : o.op = .mapUpdate t m x v) (ht : P.underlying t = some (.map k e)) (hk : KeyOK P kf k) : ActOK P (oMapSet kf dm dx dv) o := by
  intro fr h K hD
  obtain ⟨b, hb, hD1⟩ := asOpt_iff.1 hD
  clear hD
  obtain ⟨rfl, hD⟩ := gd_iff.1 hD1
  clear hD1
  obtain ⟨p, en, es, c, e1, hg, hown, hob, hD⟩ := onMap_iff hD
  obtain ⟨r, hf, hD⟩ := asOpt_iff.1 hD
  have pre : ∀ {B w0 κ} {ρ : Operand → Value} {w}, Sim B w0 κ h w → Rho κ fr ρ → ∃ ki es' R, κ p = some ki ∧ ρ m = .map (some ki.blk) ∧ w.heap[ki.blk]? = some (.map es'.toArray c) ∧ gamE κ es = some es' ∧
      (Instr.checkKey false 10000 k (ρ x)).run P w = .ok () w ∧ Instr.sameBits 10000 (ρ x) (ρ x) = true ∧ (Instr.findKey k (ρ x) es').run P w = .ok R w ∧ RelF κ r R := fun {B w0 κ ρ w} sm hr => by
    obtain ⟨ki, hkp, h3⟩ := rho_map hr hm e1
    obtain ⟨ki', hk', _, _, h4⟩ := sm.obj p en hg
    rw [hkp] at hk'; cases hk'
    rw [hob] at h4
    obtain ⟨es', h5, h6⟩ := h4
    obtain ⟨c1, c2⟩ := hk.chk κ _ _ false w hb (hr x dx hx)
    obtain ⟨R, f1, f2⟩ := hk.find κ _ _ w hb (hr x dx hx) es es' r h6 hf
    exact ⟨ki, es', R, hkp, h3, h5, h6, c1, c2, f1, f2⟩
  cases r with
  | none =>
    simp only [putK_eq] at hD
    refine ⟨_, _, hD, fun B w0 κ ρ w sm hr => ?_⟩
    obtain ⟨ki, es', R, hkp, h3, h5, h6, c1, c2, f1, f2⟩ := pre sm hr
    cases R with
    | some q => exact f2.elim
    | none =>
      have hE : gamE κ (es ++ [(dx fr, dv fr, c)]) = some (es' ++ [{ key := ρ x, val := ρ v, born := c }]) := gamE_append _ _ _ _ h6 (by simp [gamE, hr x dx hx, hr v dv hv])
      refine ⟨κ, undef, _, κ.le_refl, map_put (clock := c + 1) sm hg hkp hown hE h5, by simp [gam, gams, undefV, undef], .inr ⟨?_, rfl⟩⟩
      simp [execOp, ho, Instr.mapUpdate, run_underlying ht, h3, Go.MapKept.run_getObj_map h5, c1, f1, Go.MapKept.run_setObj_map _ h5]
  | some q =>
    simp only [putK_eq] at hD
    refine ⟨_, _, hD, fun B w0 κ ρ w sm hr => ?_⟩
    obtain ⟨ki, es', R, hkp, h3, h5, h6, c1, c2, f1, f2⟩ := pre sm hr
    cases R with
    | none => exact f2.elim
    | some Q =>
      obtain ⟨i, u⟩ := q
      obtain ⟨j, V⟩ := Q
      obtain ⟨rfl, hu⟩ := f2
      obtain ⟨k0, b0, _, g1, g2⟩ := findA_mem es 0 i u hf
      have g3 := hk.same _ _ g2
      obtain ⟨K0, V0, g4, g5, g6⟩ := gamE_get es es' i k0 u b0 h6 (by simpa using g1)
      have g7 : K0 = ρ x := by
        have := hr x dx hx
        rw [g3, g5] at this
        exact Option.some.inj this
      subst g7
      have hE := gamE_mod (hr v dv hv) es es' i h6
      refine ⟨κ, undef, _, κ.le_refl, map_put (clock := c) sm hg hkp hown hE h5, by simp [gam, gams, undefV, undef], .inr ⟨?_, rfl⟩⟩
      have hmod : (es'.modify i fun e => { e with key := ρ x, val := ρ v }) = es'.modify i fun e => { e with val := ρ v } := by
        apply List.ext_getElem?
        intro n
        rw [List.getElem?_modify, List.getElem?_modify]
        by_cases hin : i = n
        · subst hin
          rw [g4]; simp
        · simp only [if_neg hin]
      have hkey : ((es'[i]?).map (·.key)).getD (ρ x) = ρ x := by rw [g4]; rfl
      simp [execOp, ho, Instr.mapUpdate, run_underlying ht, h3, Go.MapKept.run_getObj_map h5, c1, f1, Go.MapKept.run_setObj_map _ h5, hkey, g4, Instr.keyThatStays, c2, hmod]
theorem ok_mapDel {t k e : TypeId} {ts : List TypeId} {m x : Operand} {dm dx : Opd} {kf : AV → AV → Option Bool} {c : Call}
    (hm : opd m = some dm) (hx : opd x = some dx) (ho : o.op = .call c) (hc : c.callee = .builtin .delete) (h1 : c.args = #[m, x]) (h2 : c.argTypes.toList = t :: ts) (ht : P.underlying t = some (.map k e)) (hk : KeyOK P kf k) : ActOK P (oMapDel kf dm dx) o := by
  intro fr h K hD
  obtain ⟨b, hb, hD1⟩ := asOpt_iff.1 hD
  clear hD
  obtain ⟨rfl, hD⟩ := gd_iff.1 hD1
  clear hD1
  obtain ⟨p, en, es, cl, e1, hg, hown, hob, hD⟩ := onMap_iff hD
  obtain ⟨r, hf, hD⟩ := asOpt_iff.1 hD
  have h2' : c.argTypes[0]? = some t := by rw [← Array.getElem?_toList, h2]; rfl
  have pre : ∀ {B w0 κ} {ρ : Operand → Value} {w}, Sim B w0 κ h w → Rho κ fr ρ → ∃ ki es' R, κ p = some ki ∧ ρ m = .map (some ki.blk) ∧ w.heap[ki.blk]? = some (.map es'.toArray cl) ∧ gamE κ es = some es' ∧
      (Instr.checkKey es'.isEmpty 10000 k (ρ x)).run P w = .ok () w ∧ (Instr.findKey k (ρ x) es').run P w = .ok R w ∧ RelF κ r R := fun {B w0 κ ρ w} sm hr => by
    obtain ⟨ki, hkp, h3⟩ := rho_map hr hm e1
    obtain ⟨ki', hk', _, _, h4⟩ := sm.obj p en hg
    rw [hkp] at hk'; cases hk'
    rw [hob] at h4
    obtain ⟨es', h5, h6⟩ := h4
    obtain ⟨c1, c2⟩ := hk.chk κ _ _ es'.isEmpty w hb (hr x dx hx)
    obtain ⟨R, f1, f2⟩ := hk.find κ _ _ w hb (hr x dx hx) es es' r h6 hf
    exact ⟨ki, es', R, hkp, h3, h5, h6, c1, f1, f2⟩
  cases r with
  | none =>
    simp only [putK_eq] at hD
    refine ⟨_, _, hD, fun B w0 κ ρ w sm hr => ?_⟩
    obtain ⟨ki, es', R, hkp, h3, h5, h6, c1, f1, f2⟩ := pre sm hr
    cases R with
    | some q => exact f2.elim
    | none =>
      refine ⟨κ, undef, _, κ.le_refl, map_put (clock := cl) sm hg hkp hown h6 h5, by simp [gam, gams, undefV, undef], .inl ?_⟩
      simp [execOp, ho, resolve, hc, h1, h2', invoke, builtin, Builtin.delete_, run_underlying ht, h3, Go.MapKept.run_getObj_map h5, c1, f1, Go.MapKept.run_setObj_map _ h5, undef]
  | some q =>
    simp only [putK_eq] at hD
    refine ⟨_, _, hD, fun B w0 κ ρ w sm hr => ?_⟩
    obtain ⟨ki, es', R, hkp, h3, h5, h6, c1, f1, f2⟩ := pre sm hr
    cases R with
    | none => exact f2.elim
    | some Q =>
      obtain ⟨i, u⟩ := q
      obtain ⟨j, V⟩ := Q
      obtain ⟨rfl, hu⟩ := f2
      have hE := gamE_del es es' i h6
      have her : es'.toArray.eraseIdxIfInBounds i = (es'.eraseIdx i).toArray := by simp
      refine ⟨κ, undef, _, κ.le_refl, map_put (clock := cl) sm hg hkp hown hE h5, by simp [gam, gams, undefV, undef], .inl ?_⟩
      simp [execOp, ho, resolve, hc, h1, h2', invoke, builtin, Builtin.delete_, run_underlying ht, h3, Go.MapKept.run_getObj_map h5, c1, f1, Go.MapKept.run_setObj_map _ h5, undef, her]
end Go.Am
