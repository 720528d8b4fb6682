/-
  What the translation makes of an operation does what the operation does.
-/
import Derived.Test.YtbefkepinpollaaGreatDoorAmActs6
namespace Go.Am
set_option linter.unusedSimpArgs false
set_option linter.unusedVariables false
open Go Go.RowKit
variable {P : Program} {o : Oper}

theorem avsOf_gam (κ : Kap) (f : Value → Option AV) (hf : ∀ v av, f v = some av → gam κ av = some v) : ∀ (l : List Value) (r : List AV), avsOf f l = some r → gams κ r = some l
  | [], r, h => by simp [avsOf] at h; subst h; rfl
  | v :: l, r, h => by
    simp only [avsOf, Option.bind_eq_some_iff, Option.map_eq_some_iff] at h
    obtain ⟨x, h1, xs, h2, rfl⟩ := h
    simp [gams, hf v x h1, avsOf_gam κ f hf l xs h2]
theorem avOf_gam (κ : Kap) : ∀ (n : Nat) (v : Value) (av : AV), avOf n v = some av → gam κ av = some v
  | 0, v, av, h => by simp [avOf] at h
  | n + 1, v, av, h => by
    cases v with
    | bool b => simp [avOf] at h; subst h; rfl
    | int k i => simp [avOf] at h; subst h; rfl
    | float => simp [avOf] at h
    | complex => simp [avOf] at h
    | chan => simp [avOf] at h
    | iface => simp [avOf] at h
    | string s =>
      simp only [avOf, Option.some.injEq] at h; subst h
      simp only [gam]
      rw [if_pos (packL_lt _), strOf_pack]
    | pointer a => cases a <;> simp [avOf] at h; subst h; rfl
    | slice a l c =>
      simp only [avOf] at h
      split at h <;> simp_all
      subst h; rfl
    | map r => cases r <;> simp [avOf] at h; subst h; rfl
    | nilFunc => simp [avOf] at h; subst h; rfl
    | nilIface => simp [avOf] at h; subst h; rfl
    | func fn a c =>
      cases fn with
      | func f =>
        simp only [avOf] at h
        split at h
        · rename_i ha hc
          simp at h; subst h
          simp only [gam, gams, Option.bind_some, Option.map_some]
          congr 2 <;> (apply Array.toList_inj.1; simp [*])
        · cases h
      | _ => simp [avOf] at h
    | agg cs =>
      simp only [avOf] at h
      split at h
      · rename_i ha
        simp only [Option.map_eq_some_iff] at h
        obtain ⟨r, h1, rfl⟩ := h
        have := avsOf_gam κ _ (fun v av hv => avOf_gam κ n v av hv) _ _ h1
        simp only [gam, this, Option.bind_some, ha, if_true]
      · cases h
    | tuple cs =>
      simp only [avOf, Option.map_eq_some_iff] at h
      obtain ⟨r, h1, rfl⟩ := h
      have := avsOf_gam κ _ (fun v av hv => avOf_gam κ n v av hv) _ _ h1
      simp [gam, this]
theorem zeroV_gam {t : TypeId} {av : AV} (h : zeroV P t = some av) : ∃ i z, P.info? t = some i ∧ i.zero = some z ∧ ∀ κ, gam κ av = some z := by
  simp only [zeroV, Option.bind_eq_bind, Option.bind_eq_some_iff] at h
  obtain ⟨i, h1, z, h2, h3⟩ := h
  exact ⟨i, z, h1, h2, fun κ => avOf_gam κ _ _ _ h3⟩
theorem zeroL_gam {t : TypeId} {z : List AV} (h : zeroL P t = some z) : ∃ i Z, P.info? t = some i ∧ i.zero = some Z ∧ (∀ κ, gams κ z = some Z.cells.toList) ∧ Z.cells.toList.all Value.oneCell' = true := by
  simp only [zeroL, Option.bind_eq_bind, Option.bind_eq_some_iff] at h
  obtain ⟨v, h1, h2⟩ := h
  obtain ⟨i, Z, h3, h4, h5⟩ := zeroV_gam h1
  have hc : asCells v fun cs => cs = z := by
    cases v <;> simp_all [asCells]
  obtain ⟨cs, rfl, h6⟩ := asCells_iff hc
  exact ⟨i, Z, h3, h4, fun κ => (h6 κ Z (h5 κ)).1, (h6 (fun _ => none) Z (h5 _)).2⟩
theorem elemOf_ok {e : TypeId} {n b : Nat} {u8 : Bool} {z : List AV} (h : elemOf P e = some (n, b, u8, z)) : Nonempty (ElemOK P e n b u8 z) := by
  simp only [elemOf, Option.bind_eq_bind, Option.bind_eq_some_iff] at h
  obtain ⟨n', hn, z', hz, u, hu, h⟩ := h
  obtain ⟨i, Z, h1, h2, h3, h4⟩ := zeroL_gam hz
  have hn' : i.size = n' := by simpa [szOf, h1] using hn
  have hby : ∀ b', byOf P e = some b' → i.bytes = b' := fun b' hb => by simpa [byOf, h1] using hb
  cases hl : Nat.beq n' z'.length with
  | false => rw [hl] at h; cases u <;> simp at h
  | true =>
    rw [hl] at h
    have hl' : n' = z'.length := by simpa using hl
    cases u with
    | false =>
      simp only [Option.bind_eq_some_iff, Option.pure_def, Option.some.injEq, Prod.mk.injEq] at h
      obtain ⟨b', hb, rfl, rfl, rfl, rfl⟩ := h
      exact ⟨⟨i, Z, h1, h2, hn', hby _ hb, hl'.symm, h3, h4, fun h => by cases h⟩⟩
    | true =>
      have hu8 : P.underlying e = some (.int .u8) := by
        simp only [isU8, Option.bind_eq_bind, Option.bind_eq_some_iff] at hu
        obtain ⟨d, hd, hu⟩ := hu
        split at hu
        · rw [hd]
        · simp at hu
      simp only at h
      split at h
      · rename_i hz1
        simp only [Option.bind_eq_bind, Option.bind_eq_some_iff, Option.pure_def, Option.some.injEq, Prod.mk.injEq] at h
        obtain ⟨b', hb, rfl, rfl, rfl, rfl⟩ := h
        exact ⟨⟨i, Z, h1, h2, hn', hby _ hb, by simp, h3, h4, fun _ => ⟨rfl, hu8⟩⟩⟩
      · simp at h

/-- An operation whose answer the model draws. -/
def BrOK (P : Program) (D : OpD) (o : Oper) : Prop :=
  ∀ fr h K, D fr h K → ∀ B w0 κ ρ w, Sim B w0 κ h w → Rho κ fr ρ → ∃ av h' κ' v w', K av h' ∧ κ.le κ' ∧ Sim B w0 κ' h' w' ∧ gam κ' av = some v ∧ (execOp ρ o).run P w = .ok (.value v) w'
/-- What an operation of the machine is to the model's. -/
def AopOK (P : Program) (o : Oper) : AOp → Prop
  | .op d acts reads => if acts = true then ActOK P d o else if reads = true then ReadOK P d o else PureOK P d o
  | .call f args => ∃ (c : Call) , o.op = .call c ∧ (∃ fo, c.callee = .value fo ∧ fo = .func f) ∧ opds c.args.toList = some args
  | .callv x args => ∃ (c : Call) (fo : Operand), o.op = .call c ∧ c.callee = .value fo ∧ opd fo = some x ∧ opds c.args.toList = some args
  | .callm x sel args => ∃ (c : Call) (fo : Operand) (name : String), o.op = .call c ∧ c.callee = .invoke fo name ∧ opd fo = some x ∧ sel = selOf P name ∧ opds c.args.toList = some args
  | .brop d => BrOK P d o
theorem AopOK.pure {d : OpD} (h : PureOK P d o) : AopOK P o (.op d false false) := by simpa [AopOK] using h
theorem AopOK.read {d : OpD} (h : ReadOK P d o) : AopOK P o (.op d false true) := by simpa [AopOK] using h
theorem AopOK.act {d : OpD} (h : ActOK P d o) : AopOK P o (.op d true true) := by simpa [AopOK] using h

theorem cmp_lss : ∀ n x m y (w : World), x < 256 ^ n → y < 256 ^ m → (Op.stringOp .lss (strOf n x) (strOf m y)).run P w = .ok (.bool (ltS (n + m) n x m y)) w := by
  intro n x m y w _ _
  simp [Op.stringOp, ByteArray.toList_eq, strOf_data, ltS_eq _ _ _ _ _ (Nat.le_refl _)]
theorem bytesLess_total (a b : List UInt8) : (Op.bytesLess a b || a == b) = !(Op.bytesLess b a) := by
  induction a generalizing b with
  | nil => cases b <;> simp [Op.bytesLess]
  | cons x a ih =>
    cases b with
    | nil => simp [Op.bytesLess]
    | cons y b =>
      simp only [Op.bytesLess]
      have h := ih b
      by_cases h1 : x < y
      · have h2 : ¬ (y < x) := by rw [UInt8.lt_iff_toNat_lt] at *; omega
        have h3 : ¬ (y = x) := by intro e; subst e; exact h2 h1
        simp [h1, h2, h3]
      · by_cases h2 : y < x
        · have h3 : ¬ (x = y) := by intro e; subst e; exact h1 h2
          simp [h1, h2, h3]
        · have h3 : x = y := by
            apply UInt8.toNat_inj.1
            rw [UInt8.lt_iff_toNat_lt] at *; omega
          subst h3
          have h4 : ¬ (x < x) := h1
          simp only [h4, decide_false, Bool.false_or, beq_self_eq_true, Bool.true_and]
          rw [← h]
          simp
theorem cmp_gtr : ∀ n x m y (w : World), x < 256 ^ n → y < 256 ^ m → (Op.stringOp .gtr (strOf n x) (strOf m y)).run P w = .ok (.bool (ltS (n + m) m y n x)) w := by
  intro n x m y w _ _
  simp only [Op.stringOp, ByteArray.toList_eq, strOf_data, bytesLess_total, Sem.run_pure, Bool.not_not]
  rw [ltS_eq _ _ _ _ _ (Nat.le_of_eq (Nat.add_comm m n))]
theorem cmp_leq : ∀ n x m y (w : World), x < 256 ^ n → y < 256 ^ m → (Op.stringOp .leq (strOf n x) (strOf m y)).run P w = .ok (.bool (!(ltS (n + m) m y n x))) w := by
  intro n x m y w _ _
  simp only [Op.stringOp, ByteArray.toList_eq, strOf_data, bytesLess_total, Sem.run_pure]
  rw [ltS_eq _ _ _ _ _ (Nat.le_of_eq (Nat.add_comm m n))]
theorem cmp_geq : ∀ n x m y (w : World), x < 256 ^ n → y < 256 ^ m → (Op.stringOp .geq (strOf n x) (strOf m y)).run P w = .ok (.bool (!(ltS (n + m) n x m y))) w := by
  intro n x m y w _ _
  simp [Op.stringOp, ByteArray.toList_eq, strOf_data, ltS_eq _ _ _ _ _ (Nat.le_refl _)]
theorem cmp_eql : ∀ n x m y (w : World), x < 256 ^ n → y < 256 ^ m → (Op.stringOp .eql (strOf n x) (strOf m y)).run P w = .ok (.bool (eqS n x m y)) w := by
  intro n x m y w hx hy
  rw [eqS_eq hx hy]; simp [Op.stringOp]
theorem cmp_neq : ∀ n x m y (w : World), x < 256 ^ n → y < 256 ^ m → (Op.stringOp .neq (strOf n x) (strOf m y)).run P w = .ok (.bool (!(eqS n x m y))) w := by
  intro n x m y w hx hy
  rw [eqS_eq hx hy]; simp [Op.stringOp]

theorem bind_some {α β : Type} {x : Option α} {f : α → Option β} {b : β} (h : (x >>= f) = some b) : ∃ a, x = some a ∧ f a = some b := by
  simpa [Option.bind_eq_some_iff] using h

theorem leI_not (a b : Int) : (!(leI b a)) = decide (a < b) := by
  rw [Bool.eq_iff_iff, Bool.not_eq_true', Bool.eq_false_iff, ne_eq, leI_iff, decide_eq_true_eq]; omega
theorem leI_dec (a b : Int) : leI a b = decide (a ≤ b) := by
  rw [Bool.eq_iff_iff, leI_iff, decide_eq_true_eq]
theorem compBin_ok {op : BinOp} {t t' : TypeId} {x y : Operand} {dx dy : Opd} (hx : opd x = some dx) (hy : opd y = some dy) (ho : o.op = .binOp op t x y t') {a : AOp} (h : compBin P op t dx dy = some a) : AopOK P o a := by
  cases op <;> simp only [compBin, pureO, Option.some.injEq, reduceCtorEq] at h
  case add => subst h; exact .pure (ok_add hx hy ho)
  case sub => subst h; exact .pure (ok_arith (fun _ _ _ => by rw [subI_eq]; rfl) (.inl rfl) hx hy ho)
  case mul => subst h; exact .pure (ok_arith (fun _ _ _ => by rw [mulI_eq]; rfl) (.inr rfl) hx hy ho)
  case quo => subst h; exact .pure (ok_div (.inl ⟨rfl, rfl⟩) hx hy ho)
  case rem => subst h; exact .pure (ok_div (.inr ⟨rfl, rfl⟩) hx hy ho)
  case and => subst h; exact .pure (ok_bits (.inl ⟨rfl, rfl⟩) hx hy ho)
  case or => subst h; exact .pure (ok_bits (.inr (.inl ⟨rfl, rfl⟩)) hx hy ho)
  case xor => subst h; exact .pure (ok_bits (.inr (.inr ⟨rfl, rfl⟩)) hx hy ho)
  case andNot => subst h; exact .pure (ok_andNot hx hy ho)
  case shl => subst h; exact .pure (ok_shl hx hy ho)
  case shr => subst h; exact .pure (ok_shr hx hy ho)
  case lss => subst h; exact .pure (ok_cmp2 ro_lss (by simp) (fun a b w => by simp [Op.intCmp, leI_not]) (fun _ _ _ _ => by simp [binOp]) cmp_lss hx hy ho)
  case gtr => subst h; exact .pure (ok_cmp2 ro_gtr (by simp) (fun a b w => by simp [Op.intCmp, leI_not]) (fun _ _ _ _ => by simp [binOp]) cmp_gtr hx hy ho)
  case leq => subst h; exact .pure (ok_cmp2 ro_leq (by simp) (fun a b w => by simp [Op.intCmp, leI_dec]) (fun _ _ _ _ => by simp [binOp]) cmp_leq hx hy ho)
  case geq => subst h; exact .pure (ok_cmp2 ro_geq (by simp) (fun a b w => by simp [Op.intCmp, leI_dec]) (fun _ _ _ _ => by simp [binOp]) cmp_geq hx hy ho)
  case eql =>
    obtain ⟨d, hd, h⟩ := bind_some h
    cases d <;> simp only [pureO, Option.some.injEq, reduceCtorEq] at h
    case int k => subst h; exact .pure (ok_cmp2 ro_eql (by simp) (fun a b w => by simp [Op.intCmp, eqI_eq]) (fun _ _ _ _ => by simp [binOp]) cmp_eql hx hy ho)
    case string => subst h; exact .pure (ok_cmp2 ro_eql (by simp) (fun a b w => by simp [Op.intCmp, eqI_eq]) (fun _ _ _ _ => by simp [binOp]) cmp_eql hx hy ho)
    case bool => subst h; exact .pure (ok_eq (.inl ⟨rfl, rfl⟩) (eqB_ok hd) hx hy ho)
    case pointer e =>
      obtain ⟨n, hn, h⟩ := bind_some h
      cases n <;> simp at h
      subst h; exact .pure (ok_eq (.inl ⟨rfl, rfl⟩) (eqP_ok hd hn) hx hy ho)
    case slice e => subst h; exact .pure (ok_eq (.inl ⟨rfl, rfl⟩) (eqNS_ok hd) hx hy ho)
    case map k e => subst h; exact .pure (ok_eq (.inl ⟨rfl, rfl⟩) (eqNM_ok hd) hx hy ho)
    case func a b c => subst h; exact .pure (ok_eq (.inl ⟨rfl, rfl⟩) (eqNF_ok hd) hx hy ho)
    case struct fs =>
      obtain ⟨z, hz, h⟩ := bind_some h
      cases z <;> simp at h
      subst h; exact .pure (ok_pair (.inl ⟨rfl, rfl⟩) hd hz hx hy ho)
  case neq =>
    obtain ⟨d, hd, h⟩ := bind_some h
    cases d <;> simp only [pureO, Option.some.injEq, reduceCtorEq] at h
    case int k => subst h; exact .pure (ok_cmp2 ro_neq (by simp) (fun a b w => by simp [Op.intCmp, eqI_eq]; rfl) (fun _ _ _ _ => by simp [binOp]) cmp_neq hx hy ho)
    case string => subst h; exact .pure (ok_cmp2 ro_neq (by simp) (fun a b w => by simp [Op.intCmp, eqI_eq]; rfl) (fun _ _ _ _ => by simp [binOp]) cmp_neq hx hy ho)
    case bool => subst h; exact .pure (ok_eq (.inr ⟨rfl, rfl⟩) (eqB_ok hd) hx hy ho)
    case pointer e =>
      obtain ⟨n, hn, h⟩ := bind_some h
      cases n <;> simp at h
      subst h; exact .pure (ok_eq (.inr ⟨rfl, rfl⟩) (eqP_ok hd hn) hx hy ho)
    case slice e => subst h; exact .pure (ok_eq (.inr ⟨rfl, rfl⟩) (eqNS_ok hd) hx hy ho)
    case map k e => subst h; exact .pure (ok_eq (.inr ⟨rfl, rfl⟩) (eqNM_ok hd) hx hy ho)
    case func a b c => subst h; exact .pure (ok_eq (.inr ⟨rfl, rfl⟩) (eqNF_ok hd) hx hy ho)
    case struct fs =>
      obtain ⟨z, hz, h⟩ := bind_some h
      cases z <;> simp at h
      subst h; exact .pure (ok_pair (.inr ⟨rfl, rfl⟩) hd hz hx hy ho)

theorem places_ok {fs : List Field} {pl : List (Nat × Nat)} (h : placesOf P fs = some pl) : fs.mapM (fun f => (P.info? f.type).map fun i => (f.offset, i.size)) = some pl := h
theorem built_struct {t : TypeId} {fs : Array Field} {i : TypeInfo} {Z : Value} {pl : List (Nat × Nat)} (hi : P.info? t = some i) (hz : i.zero = some Z) (ht : P.underlying t = some (.struct fs)) (hp : placesOf P fs.toList = some pl) (ps : List (Nat × Value)) :
    P.built t ps = Instr.fill (pl.toArray[·]?) Z.cells ps := by
  have hp' := places_ok hp
  unfold Program.built
  simp only [hi, ht, hz, hp']
theorem built_array {t e : TypeId} {k n : Nat} {i : TypeInfo} {Z : Value} (hi : P.info? t = some i) (hz : i.zero = some Z) (ht : P.underlying t = some (.array k e)) (hn : szOf P e = some n) (ps : List (Nat × Value)) :
    P.built t ps = Instr.fill (fun i => some (i * n, n)) Z.cells ps := by
  unfold szOf at hn
  obtain ⟨ie, h1, h2⟩ := Option.map_eq_some_iff.1 hn
  unfold Program.built
  simp only [hi, ht, hz, h1, h2]

end Go.Am
