/-
  Yet more operations that leave the heap alone: wholes, parts, places.
-/
import Derived.Test.YtbefkepinpollaaGreatDoorAmPure2
namespace Go.Am
set_option linter.unusedSimpArgs false
set_option linter.unusedVariables false
open Go Go.RowKit
variable {P : Program} {o : Oper}

theorem layAt_all (l : List Value) (off : Nat) (ps : List Value) (hl : l.all Value.oneCell' = true) (hp : ps.all Value.oneCell' = true) (hb : off + ps.length ≤ l.length) : (layAt l off ps).all Value.oneCell' = true := by
  rw [List.all_eq_true] at *
  intro v hv
  obtain ⟨j, hj⟩ := List.mem_iff_getElem?.1 hv
  rw [layAt_get _ _ _ _ hb] at hj
  split at hj
  · exact hp v (List.mem_of_getElem? hj)
  · exact hl v (List.mem_of_getElem? hj)
theorem fillK_ok (place : Nat → Option (Nat × Nat)) (fr : Fr) : ∀ (l : List (Nat × Operand)) (parts : List (Nat × Nat × Opd)) (cs : List AV) (k : List AV → Prop), partsOf place l = some parts → fillK fr parts cs k →
    ∃ cs', k cs' ∧ cs'.length = cs.length ∧ ∀ κ ρ, Rho κ fr ρ → ∀ CS : Array Value, gams κ cs = some CS.toList → CS.toList.all Value.oneCell' = true →
      ∃ CS', Instr.fill place CS (l.map fun x => (x.1, ρ x.2)) = some CS' ∧ gams κ cs' = some CS'.toList ∧ CS'.toList.all Value.oneCell' = true
  | [], parts, cs, k, hp, h => by
    simp [partsOf] at hp; subst hp
    exact ⟨cs, h, rfl, fun κ ρ hr CS h1 h2 => ⟨CS, rfl, h1, h2⟩⟩
  | (i, x) :: l, parts, cs, k, hp, h => by
    simp only [partsOf, Option.bind_eq_some_iff, Option.map_eq_some_iff] at hp
    obtain ⟨⟨off, n⟩, hpl, d, hx, r, hr', rfl⟩ := hp
    obtain ⟨ps, h, hps⟩ := asCells_iff h
    obtain ⟨hb, h⟩ := gd_iff.1 h
    simp only [Bool.and_eq_true, Nat.beq_eq, Nat.ble_eq] at hb
    obtain ⟨cs', hk, hlen, hrest⟩ := fillK_ok place fr l r _ k hr' h
    refine ⟨cs', hk, by rw [hlen, layAt_length], fun κ ρ hr CS h1 h2 => ?_⟩
    obtain ⟨g1, g2⟩ := hps κ _ (hr x d hx)
    have e1 : (ρ x).cells.toList.length = ps.length := gams_length _ _ g1
    have e2 : CS.toList.length = cs.length := gams_length _ _ h1
    have s1 : (ρ x).cells.size = n := by rw [← hb.1, ← e1]; simp
    have s2 : CS.size = cs.length := by rw [← e2]; simp
    have hfold : ((ρ x).cells.zipIdx.foldl (fun cs (x : Value × Nat) => cs.setIfInBounds (off + x.2) x.1) CS).toList = layAt CS.toList off (ρ x).cells.toList := by
      rw [← Array.foldl_toList, Array.toList_zipIdx]
      exact fold_lay _ 0 CS off (by rw [e1, hb.1]; simp; omega)
    obtain ⟨CS', f1, f2, f3⟩ := hrest κ ρ hr ((ρ x).cells.zipIdx.foldl (fun cs (x : Value × Nat) => cs.setIfInBounds (off + x.2) x.1) CS)
      (by rw [hfold]; exact gams_lay _ _ _ _ _ h1 g1) (by rw [hfold]; exact layAt_all _ _ _ h2 g2 (by rw [e1, e2, hb.1]; omega))
    refine ⟨CS', ?_, f2, f3⟩
    simp only [List.map_cons, Instr.fill, hpl]
    rw [if_neg (by simp [s1, s2]; omega)]
    exact f1
theorem ok_build {t : TypeId} {parts : Array (Nat × Operand)} {z : List AV} {ap : List (Nat × Nat × Opd)} {place : Nat → Option (Nat × Nat)} (ho : o.op = .build t parts) (hp : partsOf place parts.toList = some ap)
    {Z : Array Value} (hz : ∀ κ, gams κ z = some Z.toList) (hz1 : Z.toList.all Value.oneCell' = true) (hb : ∀ ps, P.built t ps = Instr.fill place Z ps) : PureOK P (oBuild z ap) o := by
  intro fr h K hD
  obtain ⟨cs, hK, hlen, hrest⟩ := fillK_ok place fr _ _ _ _ hp hD
  refine ⟨_, hK, fun κ ρ w hr => ?_⟩
  obtain ⟨CS, f1, f2, f3⟩ := hrest κ ρ hr Z (hz κ) hz1
  refine ⟨.agg CS, by simp only [gam, f2, Option.bind_some, f3, if_true], ?_⟩
  have := run_build (P := P) w t (parts.map fun (i, x) => (i, ρ x)) CS (by rw [hb]; simpa using f1)
  simp only [execOp, ho, Sem.run_bind, this, Result.andThen_ok, Sem.run_pure]

theorem ok_nilck {x : Operand} {d : Opd} (hx : opd x = some d) (ho : o.op = .nilCheck x) : PureOK P (oNilck d) o := by
  intro fr h K hD
  replace hD : oNilckV (d fr) h K := hD
  cases e : d fr <;> rw [e] at hD <;> first | exact hD.elim | skip
  case ptr p f =>
    refine ⟨_, hD, fun κ ρ w hr => ?_⟩
    have := hr x d hx; rw [e] at this
    obtain ⟨ki, _, h1⟩ := rho_ptr hr hx e
    exact ⟨_, this, by simp [execOp, ho, h1]⟩
  case slice p f n kn c =>
    refine ⟨_, hD, fun κ ρ w hr => ?_⟩
    have := hr x d hx; rw [e] at this
    obtain ⟨ki, cap, _, h1, _⟩ := rho_slice hr hx e
    exact ⟨_, this, by simp [execOp, ho, h1]⟩
  case func f a c =>
    refine ⟨_, hD, fun κ ρ w hr => ?_⟩
    have := hr x d hx; rw [e] at this
    obtain ⟨a', c', _, _, h1⟩ := rho_func hr hx e
    exact ⟨_, this, by simp [execOp, ho, h1]⟩

theorem evs_ok {κ : Kap} {fr : Fr} {ρ : Operand → Value} (hr : Rho κ fr ρ) : ∀ (l : List Operand) (ds : List Opd), opds l = some ds → gams κ (evs fr ds) = some (l.map ρ)
  | [], ds, h => by simp [opds] at h; subst h; rfl
  | x :: l, ds, h => by
    simp only [opds, Option.bind_eq_bind, Option.bind_eq_some_iff, Option.pure_def, Option.some.injEq] at h
    obtain ⟨d, hd, r, hr', rfl⟩ := h
    simp [evs_cons, gams, hr x d hd, evs_ok hr l r hr']
theorem ok_func {f : FuncId} {a c : Array Operand} {da dc : List Opd} (ha : opds a.toList = some da) (hc : opds c.toList = some dc) (ho : o.op = .makeFunc (.func f) a c) : PureOK P (oFunc f da dc) o := by
  intro fr h K hD
  refine ⟨_, hD, fun κ ρ w hr => ⟨.func (.func f) (a.map ρ) (c.map ρ), ?_, ?_⟩⟩
  · simp only [gam, evs_ok hr _ _ ha, evs_ok hr _ _ hc, Option.bind_some, Option.map_some]
    congr 2 <;> (apply Array.toList_inj.1; simp)
  · simp [execOp, ho, Instr.makeFunc]

/-! ### pieces -/
theorem bnd_iff {fr : Fr} {x : Option Opd} {dflt most : Nat} {k : Nat → Prop} (h : bnd fr x dflt most k) : ∃ n, k n ∧ ((x = none ∧ n = dflt) ∨ ∃ d a, x = some d ∧ d fr = .int a (.ofNat n) ∧ n ≤ most) := by
  cases x with
  | none => exact ⟨dflt, h, .inl ⟨rfl, rfl⟩⟩
  | some d =>
    obtain ⟨a, m, e, h⟩ := asNat_iff.1 h
    obtain ⟨hb, h⟩ := gd_iff.1 h
    rw [forceN_eq] at h
    exact ⟨m, h, .inr ⟨d, a, rfl, e, by simpa using hb⟩⟩
theorem run_bound (x : Value) (a : IntKind) (n most : Nat) (code : BoundsCode) (hx : x = .int a (.ofNat n)) (hn : n ≤ most) (w : World) : (Instr.sliceBound x most code).run P w = .ok n w := by
  subst hx
  simp [Instr.sliceBound, asIntOf, hn]
theorem opdO_some {x : Option Operand} {d : Option Opd} (h : opdO x = some d) : (x = none ∧ d = none) ∨ ∃ y e, x = some y ∧ d = some e ∧ opd y = some e := by
  cases x with
  | none => simp [opdO] at h; exact .inl ⟨rfl, h.symm⟩
  | some y =>
    simp only [opdO, Option.map_eq_some_iff] at h
    obtain ⟨e, h1, h2⟩ := h
    exact .inr ⟨y, e, rfl, h2.symm, h1⟩
/-- The bounds of a piece: 'most' may be more than what the machine knows. -/
theorem run_bounds {κ : Kap} {fr : Fr} {ρ : Operand → Value} (hr : Rho κ fr ρ) {lo hi : Option Operand} {dlo dhi : Option Opd} (hlo : opdO lo = some dlo) (hhi : opdO hi = some dhi) (isSl : Bool) {len cap capA L H : Nat} (hcap : capA ≤ cap)
    (h1 : (dhi = none ∧ H = len) ∨ ∃ d a, dhi = some d ∧ d fr = .int a (.ofNat H) ∧ H ≤ capA) (h2 : (dlo = none ∧ L = 0) ∨ ∃ d a, dlo = some d ∧ d fr = .int a (.ofNat L) ∧ L ≤ H) (w : World) :
    (Instr.sliceBounds isSl len cap (lo.map ρ) (hi.map ρ) none).run P w = .ok (L, H, cap) w := by
  have hH : (match hi.map ρ, (none : Option Value) with
    | some v, some _ => Instr.sliceBound v cap .slice3B
    | some v, none => Instr.sliceBound v cap (if isSl then .sliceAcap else .sliceAlen)
    | none, none => (pure len : Sem Nat)
    | none, some _ => stuck "Slice: max without high").run P w = .ok H w := by
    rcases opdO_some hhi with ⟨rfl, rfl⟩ | ⟨y, e, rfl, rfl, hy⟩
    · rcases h1 with ⟨_, rfl⟩ | ⟨d, a, h, _⟩
      · rfl
      · cases h
    · rcases h1 with ⟨h, _⟩ | ⟨d, a, h, he, hb⟩
      · cases h
      · cases h
        simp only [Option.map_some]
        exact run_bound _ a H cap _ (rho_int hr hy he) (by omega) w
  have hL : (match lo.map ρ with
    | some v => Instr.sliceBound v H .sliceB
    | none => (pure 0 : Sem Nat)).run P w = .ok L w := by
    rcases opdO_some hlo with ⟨rfl, rfl⟩ | ⟨y, e, rfl, rfl, hy⟩
    · rcases h2 with ⟨_, rfl⟩ | ⟨d, a, h, _⟩
      · rfl
      · cases h
    · rcases h2 with ⟨h, _⟩ | ⟨d, a, h, he, hb⟩
      · cases h
      · cases h
        simp only [Option.map_some]
        exact run_bound _ a L H _ (rho_int hr hy he) hb w
  unfold Instr.sliceBounds
  simp only [Sem.run_bind, Sem.run_pure, Result.andThen_ok, Option.isSome_none, Bool.false_eq_true, if_false]
  cases hl : lo.map ρ <;> cases hh : hi.map ρ <;> simp only [hl, hh] at hH hL ⊢ <;> simp_all

theorem szRun {e : TypeId} {n : Nat} (he : szOf P e = some n) (w : World) : (sizeOf e).run P w = .ok n w := by
  unfold szOf at he
  obtain ⟨i, h1, h2⟩ := Option.map_eq_some_iff.1 he
  simp [sizeOf, typeInfo, h1, h2]
theorem aggRun {t : TypeId} {b : Bool} (ht : aggOf P t = some b) (w : World) : (isAgg t).run P w = .ok b w := by
  unfold aggOf at ht
  simp only [Option.bind_eq_bind, Option.bind_eq_some_iff] at ht
  obtain ⟨d, h1, h2⟩ := ht
  cases d <;> simp at h2 <;> subst h2 <;> simp [isAgg, run_underlying h1]
theorem aggInt {t : TypeId} {k : IntKind} (ht : P.underlying t = some (.int k)) (w : World) : (isAgg t).run P w = .ok false w := by simp [isAgg, run_underlying ht]
theorem equal_pair {t : TypeId} {f g : Field} {k l : IntKind} (ht : P.underlying t = some (.struct #[f, g])) (hf : P.underlying f.type = some (.int k)) (hg : P.underlying g.type = some (.int l))
    (h0 : f.offset = 0) (h1 : g.offset = 1) (hn : f.name ≠ "_") (hm : g.name ≠ "_") (hst : P.stoodInHeld t = false) (a b c d : Int) (w : World) :
    (Op.equal t (.agg #[.int .i64 a, .int .i64 b]) (.agg #[.int .i64 c, .int .i64 d])).run P w = .ok (a == c && b == d) w := by
  have ki : ∀ n (t : TypeId) (k : IntKind) (a c : Int), P.underlying t = some (.int k) → (Op.equalIn (n + 1) t (.int .i64 a) (.int .i64 c)).run P w = .ok (a == c) w := fun n t k a c ht => by
    simp [Op.equalIn, run_underlying ht]
  have key : ∀ q, (∀ (t : TypeId) (k : IntKind) (a c : Int), P.underlying t = some (.int k) → (Op.equalIn q t (.int .i64 a) (.int .i64 c)).run P w = .ok (a == c) w) →
      (Op.equalIn (q + 1) t (.agg #[.int .i64 a, .int .i64 b]) (.agg #[.int .i64 c, .int .i64 d])).run P w = .ok (a == c && b == d) w := fun q hq => by
    simp only [Op.equalIn, Sem.run_bind, run_underlying ht, Result.andThen_ok, run_program, hst, Bool.false_eq_true, if_false]
    have e1 := hq f.type k a c hf
    have e2 := hq g.type l b d hg
    cases hac : a == c <;> cases hbd : b == d <;> rw [hac] at e1 <;> rw [hbd] at e2 <;>
    simp [hn, hm, h0, h1, part, aggInt hf, aggInt hg, e1, e2]
  exact key 9999 fun t k a c ht => ki 9998 t k a c ht
theorem isI_ok {κ : Kap} {v : AV} {V : Value} (h : isI v = true) (hv : gam κ v = some V) : ∃ n, V = .int .i64 n := by
  unfold isI at h
  split at h
  · simp only [gam, Option.some.injEq] at hv; exact ⟨_, hv.symm⟩
  · obtain ⟨_, ki, _, rfl⟩ := gam_sym hv; exact ⟨_, rfl⟩
  · cases h
theorem eqC_ok {κ : Kap} {x y : AV} {X Y : Value} {e : Bool} (h : eqC x y = some e) (hx : gam κ x = some X) (hy : gam κ y = some Y) : ∃ a b, X = .int .i64 a ∧ Y = .int .i64 b ∧ e = (a == b) := by
  unfold eqC at h
  split at h
  · rename_i hi
    simp only [Bool.and_eq_true] at hi
    obtain ⟨p, h1, h2⟩ := Option.bind_eq_some_iff.1 h
    obtain ⟨k, a, b, rfl, rfl, h4⟩ := ordS_ok h1 hx hy
    obtain ⟨n, e1⟩ := isI_ok hi.1 hx
    cases e1
    refine ⟨_, _, rfl, rfl, ?_⟩
    obtain ⟨o, h3⟩ := ord_ex a b
    rw [← dec3_ok h2 h4 h3]
    cases o
    · have : a < b := h3
      simp [isEq]; omega
    · have : a = b := h3
      simp [isEq, this]
    · have : b < a := h3
      simp [isEq]; omega
  · cases h
theorem eqPairS_iff {x y : AV} {e : Bool} (h : eqPairS x y = some e) : ∃ xa xb ya yb, x = .agg [xa, xb] ∧ y = .agg [ya, yb] ∧ ∀ κ X Y, gam κ (.agg [xa, xb]) = some X → gam κ (.agg [ya, yb]) = some Y →
    ∃ a b c d, X = .agg #[.int .i64 a, .int .i64 b] ∧ Y = .agg #[.int .i64 c, .int .i64 d] ∧ (a == c && b == d) = e := by
  unfold eqPairS at h
  split at h
  · rename_i a b c d
    refine ⟨a, b, c, d, rfl, rfl, fun κ X Y hX hY => ?_⟩
    split at h
    · rename_i hi
      simp only [Bool.and_eq_true] at hi
      obtain ⟨p, h1, h2⟩ := Option.bind_eq_some_iff.1 h
      simp only [gam, gams, Option.bind_eq_some_iff, Option.map_eq_some_iff, Option.map_some, Option.some.injEq] at hX hY
      obtain ⟨l, ⟨A, hA, l', ⟨B, hB, rfl⟩, rfl⟩, hX⟩ := hX
      obtain ⟨m, ⟨C, hC, m', ⟨D, hD, rfl⟩, rfl⟩, hY⟩ := hY
      obtain ⟨n1, n2, rfl, rfl, e1⟩ := eqC_ok h1 hA hC
      obtain ⟨n3, rfl⟩ := isI_ok hi.1 hB
      obtain ⟨n4, rfl⟩ := isI_ok hi.2 hD
      simp only [List.all_cons, List.all_nil, Value.oneCell', Bool.and_self, if_true, Option.some.injEq] at hX hY
      refine ⟨n1, n3, n2, n4, hX.symm, hY.symm, ?_⟩
      cases p with
      | true =>
        obtain ⟨m1, m2, q1, q2, e2⟩ := eqC_ok h2 hB hD
        cases q1; cases q2
        rw [← e1, ← e2]; rfl
      | false =>
        simp only [Option.some.injEq] at h2
        rw [← e1, ← h2]; rfl
    · cases h
  · cases h
theorem ok_pair {op : BinOp} {neg : Bool} {t t' : TypeId} {fs : Array Field} (hop : (op = .eql ∧ neg = false) ∨ (op = .neq ∧ neg = true)) (ht : P.underlying t = some (.struct fs)) (hp : isPair P t fs = some true)
    {x y : Operand} {dx dy : Opd} (hx : opd x = some dx) (hy : opd y = some dy) (ho : o.op = .binOp op t x y t') : PureOK P (oEq neg eqPairS dx dy) o := by
  intro fr h K hD
  obtain ⟨e, he, hK⟩ := asOpt_iff.1 hD
  refine ⟨_, mkB_iff.1 hK, fun κ ρ w hr => ⟨.bool (Bool.rec e (!e) neg), rfl, ?_⟩⟩
  unfold isPair at hp
  split at hp
  · rename_i f g hfs
    have hfs' : fs = #[f, g] := Array.toList_inj.1 hfs
    subst hfs'
    simp only [Option.bind_eq_some_iff] at hp
    obtain ⟨df, hf, dg, hg, hp⟩ := hp
    split at hp
    · rename_i k l
      simp only [Option.some.injEq, Bool.and_eq_true, Nat.beq_eq, Bool.not_eq_true', beq_eq_false_iff_ne, ne_eq] at hp
      obtain ⟨h0, h1, hn, hm, hst, hgt⟩ := hp
      obtain ⟨xa, xb, ya, yb, ex, ey, he'⟩ := eqPairS_iff he
      · have h3 := hr x dx hx
        have h4 := hr y dy hy
        rw [ex] at h3
        rw [ey] at h4
        obtain ⟨a, b, c, d, h3', h4', he⟩ := he' κ _ _ h3 h4
        have heq := equal_pair (P := P) ht hf hg h0 h1 hn hm hst a b c d w
        rw [he] at heq
        have hgd : (eqGuard op t x y (ρ x) (ρ y)).run P w = .ok () w := by
          rw [h3', h4']
          rcases hop with ⟨rfl, rfl⟩ | ⟨rfl, rfl⟩ <;> simp only [eqGuard, Bool.not_true, Bool.false_eq_true, if_false, Sem.run_bind, run_program, Result.andThen_ok, hgt, Bool.not_false, if_true, Sem.run_pure]
        rcases hop with ⟨rfl, rfl⟩ | ⟨rfl, rfl⟩
        · have e1 : binOp .eql t (ρ x) (ρ y) = (do pure (.bool (← Op.equal t (ρ x) (ρ y)))) := by rw [h3', h4']; rfl
          simp only [execOp, ho, Sem.run_bind, hgd, Result.andThen_ok, e1]
          rw [h3', h4']; simp [heq]
        · have e1 : binOp .neq t (ρ x) (ρ y) = (do pure (.bool (!(← Op.equal t (ρ x) (ρ y))))) := by rw [h3', h4']; rfl
          simp only [execOp, ho, Sem.run_bind, hgd, Result.andThen_ok, e1]
          rw [h3', h4']; simp [heq]
    · cases hp
  · cases hp
theorem at_add (ki : Ki) (off n : Nat) : (ki.at off).add n = ki.at (off + n) := by
  unfold Addr.add Ki.at
  split
  · rename_i h; simp [h]
  · simp [Nat.add_assoc]

theorem ok_slice {t e : TypeId} {n : Nat} {x : Operand} {lo hi : Option Operand} {dx : Opd} {dlo dhi : Option Opd} (hx : opd x = some dx) (hlo : opdO lo = some dlo) (hhi : opdO hi = some dhi)
    (ho : o.op = .slice t x lo hi none) (ht : P.underlying t = some (.slice e)) (he : szOf P e = some n) : PureOK P (oSlice n dx dlo dhi) o := by
  intro fr h K hD
  rcases asSl_iff.1 hD with ⟨e1, hD⟩ | ⟨p, off, len, kn, c, e1, hD⟩
  · obtain ⟨H, hD, h1⟩ := bnd_iff hD
    obtain ⟨L, hK, h2⟩ := bnd_iff hD
    have hH : H = 0 := by rcases h1 with ⟨_, h⟩ | ⟨_, _, _, _, h⟩ <;> omega
    have hL : L = 0 := by rcases h2 with ⟨_, h⟩ | ⟨_, _, _, _, h⟩ <;> omega
    subst hH hL
    refine ⟨_, hK, fun κ ρ w hr => ⟨.slice none 0 0, rfl, ?_⟩⟩
    have h3 := rho_nilslice hr hx e1
    have hb := run_bounds (P := P) hr hlo hhi true (Nat.le_refl 0) h1 h2 w
    simp [execOp, ho, Instr.sliceAt, run_underlying ht, h3, Instr.slice, hb, szRun he]
  · cases kn with
    | true =>
      obtain ⟨H, hD, h1⟩ := bnd_iff hD
      obtain ⟨L, hD, h2⟩ := bnd_iff hD
      simp only [forceN_eq] at hD
      refine ⟨_, hD, fun κ ρ w hr => ?_⟩
      obtain ⟨ki, cap, hk, h3, h4, _⟩ := rho_slice hr hx e1
      obtain ⟨h5, rfl⟩ := h4 rfl
      have hb := run_bounds (P := P) hr hlo hhi true (Nat.le_refl cap) h1 h2 w
      have hH : H ≤ cap := by rcases h1 with ⟨_, h⟩ | ⟨_, _, _, _, h⟩ <;> omega
      have hL : L ≤ H := by rcases h2 with ⟨_, h⟩ | ⟨_, _, _, _, h⟩ <;> omega
      refine ⟨.slice (some (ki.at (if cap = L then off else off + L * n))) (H - L) (cap - L), ?_, ?_⟩
      · simp only [gam, hk, Option.bind_some, if_true]
        rw [if_pos (by omega)]
        by_cases hc : cap = L
        · subst hc; simp
        · have : Nat.beq cap L = false := by rw [Bool.eq_false_iff]; simpa using hc
          rw [this]; simp [hc]
      · simp [execOp, ho, Instr.sliceAt, run_underlying ht, h3, Instr.slice, hb, szRun he]
        split <;> simp [at_add]
    | false =>
      obtain ⟨H, hD, h1⟩ := bnd_iff hD
      obtain ⟨L, hD, h2⟩ := bnd_iff hD
      have hD : Bool.rec (motive := fun _ => Prop)
        (forceN (off + L * n) fun off' => forceN (c + L) fun c => K (.sliceE p off off' c) h)
        (forceN (off + L * n) fun off => forceN (H - L) fun n => forceN (c + L) fun c => K (.slice p off n false c) h) (Nat.blt L len || Nat.beq L 0) := hD
      have hH : H ≤ len := by rcases h1 with ⟨_, h⟩ | ⟨_, _, _, _, h⟩ <;> omega
      have hL : L ≤ H := by rcases h2 with ⟨_, h⟩ | ⟨_, _, _, _, h⟩ <;> omega
      cases hlt : (Nat.blt L len || Nat.beq L 0) with
      | true =>
        rw [hlt] at hD
        simp only [forceN_eq] at hD
        refine ⟨_, hD, fun κ ρ w hr => ?_⟩
        obtain ⟨ki, cap, hk, h3, _, h4⟩ := rho_slice hr hx e1
        obtain ⟨h5, rfl⟩ := h4 rfl
        have hb := run_bounds (P := P) hr hlo hhi true (show len ≤ ki.cap - c by omega) h1 h2 w
        have hlt' : L < len ∨ L = 0 := by simpa using hlt
        refine ⟨.slice (some (ki.at (off + L * n))) (H - L) (ki.cap - c - L), ?_, ?_⟩
        · simp only [gam, hk, Option.bind_some, Bool.false_eq_true, if_false]
          rw [if_pos (by omega), Nat.sub_add_eq]
        · simp [execOp, ho, Instr.sliceAt, run_underlying ht, h3, Instr.slice, hb, szRun he]
          split
          · rename_i h6
            have : L = 0 := by omega
            subst this; simp
          · simp [at_add]
      | false =>
        rw [hlt] at hD
        have hKE : K (.sliceE p off (off + L * n) (c + L)) h := by simpa only [forceN_eq] using hD
        clear hD
        have hlt' : ¬ (L < len) ∧ ¬ (L = 0) := by
          have h9 := Bool.or_eq_false_iff.1 hlt
          refine ⟨fun h => ?_, fun h => ?_⟩
          · have e9 : Nat.blt L len = true := by simpa using h
            rw [e9] at h9; cases h9.1
          · have e9 : Nat.beq L 0 = true := by simpa using h
            rw [e9] at h9; cases h9.2
        clear hlt
        have hLl : L = len := by omega
        have hHl : H = len := by omega
        subst hLl hHl
        refine ⟨_, hKE, fun κ ρ w hr => ?_⟩
        obtain ⟨ki, cap, hk, h3, _, h4⟩ := rho_slice hr hx e1
        obtain ⟨h5, rfl⟩ := h4 rfl
        have hb := run_bounds (P := P) hr hlo hhi true (show H ≤ ki.cap - c by omega) h1 h2 w
        refine ⟨.slice (some (ki.at (if ki.cap = c + H then off else off + H * n))) 0 (ki.cap - (c + H)), ?_, ?_⟩
        · simp only [gam, hk, Option.bind_some]
          rw [if_pos (by omega)]
        · simp [execOp, ho, Instr.sliceAt, run_underlying ht, h3, Instr.slice, hb, szRun he]
          by_cases h6 : ki.cap = c + H
          · rw [if_pos (by omega), if_pos h6]; simp; omega
          · rw [if_neg (by omega), if_neg h6]; simp [at_add]; omega
theorem ok_slice2 {t e : TypeId} {n : Nat} {x : Operand} {lo hi : Option Operand} {dx : Opd} {dlo dhi : Option Opd} (hx : opd x = some dx) (hlo : opdO lo = some dlo) (hhi : opdO hi = some dhi)
    (ho : o.op = .slice t x lo hi none) (ht : P.underlying t = some (.slice e)) (he : szOf P e = some n) : PureOK P (oSlice2 n dx dlo dhi) o := by
  intro fr h K hD
  rcases asSlE_iff hD with ⟨p, a, b, c, e1, hD⟩ | hD
  · obtain ⟨H, hD, h1⟩ := bnd_iff hD
    obtain ⟨L, hK, h2⟩ := bnd_iff hD
    have hH : H = 0 := by rcases h1 with ⟨_, h⟩ | ⟨_, _, _, _, h⟩ <;> omega
    have hL : L = 0 := by rcases h2 with ⟨_, h⟩ | ⟨_, _, _, _, h⟩ <;> omega
    subst hH hL
    refine ⟨_, hK, fun κ ρ w hr => ?_⟩
    obtain ⟨ki, hk, hle, h3⟩ := rho_sliceE hr hx e1
    have hb := run_bounds (P := P) hr hlo hhi true (Nat.zero_le (ki.cap - c)) h1 h2 w
    refine ⟨.slice (some (ki.at (if ki.cap = c then a else b))) 0 (ki.cap - c), ?_, ?_⟩
    · simp only [gam, hk, Option.bind_some]
      rw [if_pos hle]
    · simp [execOp, ho, Instr.sliceAt, run_underlying ht, h3, Instr.slice, hb, szRun he]
      intro _; split <;> simp [at_add]
  · exact ok_slice hx hlo hhi ho ht he fr h K hD
theorem run_bounds3 {κ : Kap} {fr : Fr} {ρ : Operand → Value} (hr : Rho κ fr ρ) {lo : Option Operand} {hi mx : Operand} {dlo : Option Opd} {dhi dmx : Opd} (hlo : opdO lo = some dlo) (hhi : opd hi = some dhi) (hmx : opd mx = some dmx) {len cap capA L H M : Nat} (hcap : capA ≤ cap)
    (h0 : (some dmx = none ∧ M = 0) ∨ ∃ d a, some dmx = some d ∧ d fr = .int a (.ofNat M) ∧ M ≤ capA)
    (h1 : (some dhi = none ∧ H = 0) ∨ ∃ d a, some dhi = some d ∧ d fr = .int a (.ofNat H) ∧ H ≤ M) (h2 : (dlo = none ∧ L = 0) ∨ ∃ d a, dlo = some d ∧ d fr = .int a (.ofNat L) ∧ L ≤ H) (w : World) :
    (Instr.sliceBounds true len cap (lo.map ρ) (some (ρ hi)) (some (ρ mx))).run P w = .ok (L, H, M) w := by
  have hM : (Instr.sliceBound (ρ mx) cap .slice3Acap).run P w = .ok M w := by
    rcases h0 with ⟨h, _⟩ | ⟨d, a, h, he, hb⟩
    · cases h
    · cases h
      exact run_bound _ a M cap _ (rho_int hr hmx he) (by omega) w
  have hH : (Instr.sliceBound (ρ hi) M .slice3B).run P w = .ok H w := by
    rcases h1 with ⟨h, _⟩ | ⟨d, a, h, he, hb⟩
    · cases h
    · cases h
      exact run_bound _ a H M _ (rho_int hr hhi he) hb w
  have hL : (match lo.map ρ with
    | some v => Instr.sliceBound v H .slice3C
    | none => (pure 0 : Sem Nat)).run P w = .ok L w := by
    rcases opdO_some hlo with ⟨rfl, rfl⟩ | ⟨y, e, rfl, rfl, hy⟩
    · rcases h2 with ⟨_, rfl⟩ | ⟨d, a, h, _⟩
      · rfl
      · cases h
    · rcases h2 with ⟨h, _⟩ | ⟨d, a, h, he, hb⟩
      · cases h
      · cases h
        simp only [Option.map_some]
        exact run_bound _ a L H _ (rho_int hr hy he) hb w
  unfold Instr.sliceBounds
  simp only [Sem.run_bind, if_true, hM, hH, Result.andThen_ok, Option.isSome_some]
  cases hlo' : lo.map ρ with
  | none => rw [hlo'] at hL; simp only [Sem.run_pure] at hL; cases hL; simp [hM, hH]
  | some v => rw [hlo'] at hL; simp only at hL; simp [hM, hH, hL]
theorem ok_slice3 {t e : TypeId} {n : Nat} {x : Operand} {lo : Option Operand} {hi mx : Operand} {dx : Opd} {dlo : Option Opd} {dhi dmx : Opd} (hx : opd x = some dx) (hlo : opdO lo = some dlo) (hhi : opd hi = some dhi) (hmx : opd mx = some dmx)
    (ho : o.op = .slice t x lo (some hi) (some mx)) (ht : P.underlying t = some (.slice e)) (he : szOf P e = some n) : PureOK P (oSlice3 n dx dlo dhi dmx) o := by
  intro fr h K hD
  rcases asSl_iff.1 hD with ⟨e1, hD⟩ | ⟨p, off, len, kn, c, e1, hD⟩
  · obtain ⟨M, hD, h0⟩ := bnd_iff (fr := fr) (x := some dmx) hD
    obtain ⟨H, hD, h1⟩ := bnd_iff (fr := fr) (x := some dhi) hD
    obtain ⟨L, hK, h2⟩ := bnd_iff hD
    have hM : M = 0 := by
      rcases h0 with ⟨h, _⟩ | ⟨_, _, _, _, h⟩
      · cases h
      · omega
    have hH : H = 0 := by
      rcases h1 with ⟨h, _⟩ | ⟨_, _, _, _, h⟩
      · cases h
      · omega
    have hL : L = 0 := by rcases h2 with ⟨_, h⟩ | ⟨_, _, _, _, h⟩ <;> omega
    subst hM hH hL
    refine ⟨_, hK, fun κ ρ w hr => ⟨.slice none 0 0, rfl, ?_⟩⟩
    have h3 := rho_nilslice hr hx e1
    have hb := run_bounds3 (P := P) (len := 0) hr hlo hhi hmx (Nat.le_refl 0) h0 h1 h2 w
    simp [execOp, ho, Instr.sliceAt, run_underlying ht, h3, Instr.slice, hb, szRun he]
  · obtain ⟨M, hD, h0⟩ := bnd_iff (fr := fr) (x := some dmx) hD
    obtain ⟨H, hD, h1⟩ := bnd_iff (fr := fr) (x := some dhi) hD
    obtain ⟨L, hD, h2⟩ := bnd_iff hD
    simp only [forceN_eq] at hD
    refine ⟨_, hD, fun κ ρ w hr => ?_⟩
    obtain ⟨ki, cap, hk, h3, h4, h5⟩ := rho_slice hr hx e1
    have hcap : (Bool.rec (motive := fun _ => Nat) len c kn) ≤ cap := by
      cases kn with
      | true => obtain ⟨_, rfl⟩ := h4 rfl; exact Nat.le_refl _
      | false => obtain ⟨q, rfl⟩ := h5 rfl; show len ≤ _; omega
    have hb := run_bounds3 (P := P) (len := len) hr hlo hhi hmx hcap h0 h1 h2 w
    have hH : H ≤ M := by
      rcases h1 with ⟨h, _⟩ | ⟨_, _, _, _, h⟩
      · cases h
      · exact h
    have hL : L ≤ H := by rcases h2 with ⟨_, h⟩ | ⟨_, _, _, _, h⟩ <;> omega
    refine ⟨.slice (some (ki.at (if M = L then off else off + L * n))) (H - L) (M - L), ?_, ?_⟩
    · simp only [gam, hk, Option.bind_some, if_true]
      rw [if_pos (by omega)]
      by_cases hc : M = L
      · subst hc; simp
      · have : Nat.beq M L = false := by rw [Bool.eq_false_iff]; simpa using hc
        rw [this]; simp [hc]
    · simp [execOp, ho, Instr.sliceAt, run_underlying ht, h3, Instr.slice, hb, szRun he]
      split <;> simp [at_add]
theorem ok_sliceS {t : TypeId} {x : Operand} {lo hi : Option Operand} {dx : Opd} {dlo dhi : Option Opd} (hx : opd x = some dx) (hlo : opdO lo = some dlo) (hhi : opdO hi = some dhi)
    (ho : o.op = .slice t x lo hi none) (ht : P.underlying t = some .string) : PureOK P (oSliceS dx dlo dhi) o := by
  intro fr h K hD
  obtain ⟨n, z, e1, hD⟩ := asStr_iff.1 hD
  obtain ⟨H, hD, h1⟩ := bnd_iff hD
  obtain ⟨L, hD, h2⟩ := bnd_iff hD
  simp only [forceN_eq] at hD
  refine ⟨_, hD, fun κ ρ w hr => ?_⟩
  obtain ⟨l1, h3⟩ := rho_str hr hx e1
  have hb := run_bounds (P := P) hr hlo hhi false (Nat.le_refl n) h1 h2 w
  have hH : H ≤ n := by rcases h1 with ⟨_, h⟩ | ⟨_, _, _, _, h⟩ <;> omega
  have hL : L ≤ H := by rcases h2 with ⟨_, h⟩ | ⟨_, _, _, _, h⟩ <;> omega
  refine ⟨.string ((strOf n z).extract L H), ?_, ?_⟩
  · simp only [gam]
    rw [if_pos (cutB_lt _ _ _), strOf_extract n z L H hL hH]
  · simp [execOp, ho, Instr.sliceAt, run_underlying ht, h3, Instr.slice, strOf_size, hb]
theorem ok_sliceA {t e : TypeId} {n len : Nat} {x : Operand} {lo hi : Option Operand} {dx : Opd} {dlo dhi : Option Opd} (hx : opd x = some dx) (hlo : opdO lo = some dlo) (hhi : opdO hi = some dhi)
    (ho : o.op = .slice t x lo hi none) (ht : P.underlying t = some (.array len e)) (he : szOf P e = some n) : PureOK P (oSliceA n len dx dlo dhi) o := by
  intro fr h K hD
  obtain ⟨p, off, e1, hD⟩ := asPtr_iff.1 hD
  obtain ⟨H, hD, h1⟩ := bnd_iff hD
  obtain ⟨L, hD, h2⟩ := bnd_iff hD
  simp only [forceN_eq] at hD
  refine ⟨_, hD, fun κ ρ w hr => ?_⟩
  obtain ⟨ki, hk, h3⟩ := rho_ptr hr hx e1
  have hb := run_bounds (P := P) hr hlo hhi false (Nat.le_refl len) h1 h2 w
  have hH : H ≤ len := by rcases h1 with ⟨_, h⟩ | ⟨_, _, _, _, h⟩ <;> omega
  have hL : L ≤ H := by rcases h2 with ⟨_, h⟩ | ⟨_, _, _, _, h⟩ <;> omega
  refine ⟨.slice (some (ki.at (if len = L then off else off + L * n))) (H - L) (len - L), ?_, ?_⟩
  · simp only [gam, hk, Option.bind_some, if_true]
    rw [if_pos (by omega)]
    by_cases hc : len = L
    · subst hc; simp
    · have : Nat.beq len L = false := by rw [Bool.eq_false_iff]; simpa using hc
      rw [this]; simp [hc]
  · simp [execOp, ho, Instr.sliceAt, run_underlying ht, h3, Instr.sureAddr, hb, szRun he]
    split <;> simp [at_add]

theorem ok_faddr {t : TypeId} {fs : Array Field} {i n : Nat} {f : Field} {x : Operand} {dx : Opd} (hx : opd x = some dx) (ho : o.op = .fieldAddr t x i) (ht : P.underlying t = some (.struct fs)) (hf : fs[i]? = some f) (hn : szOf P f.type = some (n + 1)) : PureOK P (oFaddr f.offset dx) o := by
  intro fr h K hD
  obtain ⟨p, off, e1, hD⟩ := asPtr_iff.1 hD
  rw [forceN_eq] at hD
  refine ⟨_, hD, fun κ ρ w hr => ?_⟩
  obtain ⟨ki, hk, h3⟩ := rho_ptr hr hx e1
  refine ⟨.pointer (some (ki.at (off + f.offset))), by simp [gam, hk], ?_⟩
  simp [execOp, ho, Instr.fieldAt, run_underlying ht, hf, h3, Instr.sureAddr, fieldPlace, szRun hn, at_add]
theorem ok_field {t : TypeId} {fs : Array Field} {i : Nat} {f : Field} {x : Operand} {dx : Opd} (hx : opd x = some dx) (ho : o.op = .field t x i) (ht : P.underlying t = some (.struct fs)) (hf : fs[i]? = some f) (ha : aggOf P f.type = some false) : PureOK P (oField f.offset dx) o := by
  intro fr h K hD
  obtain ⟨l, e1, hD⟩ := asAgg_iff.1 hD
  obtain ⟨v, hv, hK⟩ := asOpt_iff.1 hD
  rw [getL_eq] at hv
  refine ⟨_, hK, fun κ ρ w hr => ?_⟩
  obtain ⟨vs, h1, h2, h3⟩ := rho_agg hr hx e1
  obtain ⟨V, h4, h5⟩ := gams_get l vs _ v h1 hv
  refine ⟨V, h4, ?_⟩
  simp [execOp, ho, Instr.field, run_underlying ht, hf, h3, asAgg, Go.asAgg, part, aggRun ha, h5]
theorem cellsK_iff : ∀ (n off : Nat) (ob : AObj) (k : List AV → Prop), cellsK ob n off k → ∃ l, k l ∧ l.length = n ∧ ∀ j, j < n → ∃ v, l[j]? = some v ∧ cellAt ob (off + j) = some v
  | 0, off, ob, k, h => ⟨[], h, rfl, fun j hj => by omega⟩
  | n + 1, off, ob, k, h => by
    rw [cellsK_succ] at h
    split at h
    · rename_i v hv
      obtain ⟨l, h1, h2, h3⟩ := cellsK_iff n (off + 1) ob _ h
      refine ⟨v :: l, h1, by simp [h2], fun j hj => ?_⟩
      cases j with
      | zero => exact ⟨v, by simp, hv⟩
      | succ j =>
        obtain ⟨u, hu1, hu2⟩ := h3 j (by omega)
        exact ⟨u, by simpa using hu1, by rw [← hu2]; congr 1; omega⟩
    · exact h.elim
theorem cellsK_row {κ : Kap} {cs : List AV} {vs : List Value} (h : gams κ cs = some vs) {n off : Nat} {l : List AV} (hl : l.length = n) (hc : ∀ j, j < n → ∃ v, l[j]? = some v ∧ cellAt (.row cs) (off + j) = some v) :
    gams κ l = some ((vs.drop off).take n) := by
  have hb : n = 0 ∨ off + n ≤ cs.length := by
    by_cases hn : n = 0
    · exact .inl hn
    · obtain ⟨v, _, h2⟩ := hc (n - 1) (by omega)
      simp only [cellAt, getL_eq] at h2
      have := (List.getElem?_eq_some_iff.1 h2).1
      exact .inr (by omega)
  have hlv := gams_length _ _ h
  refine gams_of l _ (by simp [hl, hlv]; omega) fun j v hv => ?_
  have hj : j < n := by rw [← hl]; exact (List.getElem?_eq_some_iff.1 hv).1
  obtain ⟨u, h1, h2⟩ := hc j hj
  rw [hv] at h1; cases h1
  simp only [cellAt, getL_eq] at h2
  obtain ⟨V, h3, h4⟩ := gams_get cs vs _ v h h2
  exact ⟨V, by rw [List.getElem?_take, if_pos hj, List.getElem?_drop]; exact h4, h3⟩
theorem ok_fieldA {t : TypeId} {fs : Array Field} {i n : Nat} {f : Field} {x : Operand} {dx : Opd} (hx : opd x = some dx) (ho : o.op = .field t x i) (ht : P.underlying t = some (.struct fs)) (hf : fs[i]? = some f) (ha : aggOf P f.type = some true) (hn : szOf P f.type = some n) : PureOK P (oFieldA f.offset n dx) o := by
  intro fr h K hD
  obtain ⟨l, e1, hD⟩ := asAgg_iff.1 hD
  obtain ⟨l', hK, h6, h7⟩ := cellsK_iff _ _ _ _ hD
  refine ⟨_, hK, fun κ ρ w hr => ?_⟩
  obtain ⟨vs, h1, h2, h3⟩ := rho_agg hr hx e1
  have h8 := cellsK_row h1 h6 h7
  refine ⟨.agg ((vs.drop f.offset).take n).toArray, ?_, ?_⟩
  · simp only [gam, h8, Option.bind_some]
    rw [if_pos]
    rw [List.all_eq_true]
    exact fun v hv => h2 v (List.mem_of_mem_drop (List.mem_of_mem_take hv))
  · simp [execOp, ho, Instr.field, run_underlying ht, hf, h3, Go.asAgg, part, aggRun ha, szRun hn]
theorem ok_iaddr {t e : TypeId} {n : Nat} {x i : Operand} {dx di : Opd} (hx : opd x = some dx) (hi : opd i = some di) (ho : o.op = .indexAddr t x i) (ht : P.underlying t = some (.slice e)) (he : szOf P e = some n) : PureOK P (oIaddr n dx di) o := by
  intro fr h K hD
  rcases asSl_iff.1 hD with ⟨_, hD⟩ | ⟨p, off, len, kn, c, e1, hD⟩
  · exact hD.elim
  obtain ⟨a, m, e2, hD⟩ := asNat_iff.1 hD
  obtain ⟨hb, hD⟩ := gd_iff.1 hD
  rw [forceN_eq] at hD
  have hb' : m < len := by simpa using hb
  refine ⟨_, hD, fun κ ρ w hr => ?_⟩
  obtain ⟨ki, cap, hk, h3, _⟩ := rho_slice hr hx e1
  have h4 := rho_int hr hi e2
  refine ⟨.pointer (some (ki.at (off + m * n))), by simp [gam, hk], ?_⟩
  simp [execOp, ho, Instr.indexAt, run_underlying ht, h3, h4, asIntOf, szRun he, hb', at_add]
theorem ok_iaddrA {t e : TypeId} {n len : Nat} {x i : Operand} {dx di : Opd} (hx : opd x = some dx) (hi : opd i = some di) (ho : o.op = .indexAddr t x i) (ht : P.underlying t = some (.array len e)) (he : szOf P e = some n) : PureOK P (oIaddrA n len dx di) o := by
  intro fr h K hD
  obtain ⟨p, off, e1, hD⟩ := asPtr_iff.1 hD
  obtain ⟨a, m, e2, hD⟩ := asNat_iff.1 hD
  obtain ⟨hb, hD⟩ := gd_iff.1 hD
  rw [forceN_eq] at hD
  have hb' : m < len := by simpa using hb
  refine ⟨_, hD, fun κ ρ w hr => ?_⟩
  obtain ⟨ki, hk, h3⟩ := rho_ptr hr hx e1
  have h4 := rho_int hr hi e2
  refine ⟨.pointer (some (ki.at (off + m * n))), by simp [gam, hk], ?_⟩
  simp [execOp, ho, Instr.indexAt, run_underlying ht, h3, h4, asIntOf, szRun he, hb', at_add, Instr.sureAddr]
theorem ok_idxS {t : TypeId} {x i : Operand} {dx di : Opd} (hx : opd x = some dx) (hi : opd i = some di) (ho : o.op = .index t x i) (ht : P.underlying t = some .string) : PureOK P (oIdxS dx di) o := by
  intro fr h K hD
  obtain ⟨n, z, e1, hD⟩ := asStr_iff.1 hD
  obtain ⟨a, m, e2, hD⟩ := asNat_iff.1 hD
  obtain ⟨hb, hD⟩ := gd_iff.1 hD
  rw [forceN_eq] at hD
  have hb' : m < n := by simpa using hb
  refine ⟨_, hD, fun κ ρ w hr => ?_⟩
  obtain ⟨_, h3⟩ := rho_str hr hx e1
  have h4 := rho_int hr hi e2
  refine ⟨.int .u8 (byteAt z m), by simp [gam], ?_⟩
  have hg := strOf_get n z m hb'
  simp [execOp, ho, Instr.index, run_underlying ht, h3, h4, asIntOf, hg, toNat_byteAt]
  have := byteAt_lt z m
  omega
theorem ok_idx {t e : TypeId} {len : Nat} {x i : Operand} {dx di : Opd} (hx : opd x = some dx) (hi : opd i = some di) (ho : o.op = .index t x i) (ht : P.underlying t = some (.array len e)) (ha : aggOf P e = some false) (he : szOf P e = some 1) : PureOK P (oIdx len dx di) o := by
  intro fr h K hD
  obtain ⟨l, e1, hD⟩ := asAgg_iff.1 hD
  obtain ⟨a, m, e2, hD⟩ := asNat_iff.1 hD
  obtain ⟨hb, hD⟩ := gd_iff.1 hD
  obtain ⟨v, hv, hK⟩ := asOpt_iff.1 hD
  rw [getL_eq] at hv
  have hb' : m < len := by simpa using hb
  refine ⟨_, hK, fun κ ρ w hr => ?_⟩
  obtain ⟨vs, h1, h2, h3⟩ := rho_agg hr hx e1
  have h4 := rho_int hr hi e2
  obtain ⟨V, h5, h6⟩ := gams_get l vs _ v h1 hv
  refine ⟨V, h5, ?_⟩
  simp [execOp, ho, Instr.index, run_underlying ht, h3, h4, asIntOf, hb', szRun he, part, aggRun ha, h6]
theorem ok_idxA {t e : TypeId} {len n : Nat} {x i : Operand} {dx di : Opd} (hx : opd x = some dx) (hi : opd i = some di) (ho : o.op = .index t x i) (ht : P.underlying t = some (.array len e)) (ha : aggOf P e = some true) (he : szOf P e = some n) : PureOK P (oIdxA len n dx di) o := by
  intro fr h K hD
  obtain ⟨l, e1, hD⟩ := asAgg_iff.1 hD
  obtain ⟨a, m, e2, hD⟩ := asNat_iff.1 hD
  obtain ⟨hb, hD⟩ := gd_iff.1 hD
  obtain ⟨l', hK, h6, h7⟩ := cellsK_iff _ _ _ _ hD
  have hb' : m < len := by simpa using hb
  refine ⟨_, hK, fun κ ρ w hr => ?_⟩
  obtain ⟨vs, h1, h2, h3⟩ := rho_agg hr hx e1
  have h4 := rho_int hr hi e2
  have h8 := cellsK_row h1 h6 h7
  refine ⟨.agg ((vs.drop (m * n)).take n).toArray, ?_, ?_⟩
  · simp only [gam, h8, Option.bind_some]
    rw [if_pos]
    rw [List.all_eq_true]
    exact fun v hv => h2 v (List.mem_of_mem_drop (List.mem_of_mem_take hv))
  · simp [execOp, ho, Instr.index, run_underlying ht, h3, h4, asIntOf, hb', szRun he, part, aggRun ha]
theorem ok_extract {x : Operand} {i : Nat} {dx : Opd} (hx : opd x = some dx) (ho : o.op = .extract x i) : PureOK P (oExtract i dx) o := by
  intro fr h K hD
  obtain ⟨l, e1, hD⟩ := asTup_iff.1 hD
  obtain ⟨v, hv, hK⟩ := asOpt_iff.1 hD
  rw [getL_eq] at hv
  refine ⟨_, hK, fun κ ρ w hr => ?_⟩
  obtain ⟨vs, h1, h3⟩ := rho_tup hr hx e1
  obtain ⟨V, h5, h6⟩ := gams_get l vs _ v h1 hv
  exact ⟨V, h5, by simp [execOp, ho, Instr.extract, h3, h6]⟩

end Go.Am
