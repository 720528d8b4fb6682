/-
  copy: the machine's operation against the model's.
-/
import Derived.Test.YtbefkepinpollaaGreatDoorAmActs6
namespace Go.Am
set_option linter.unusedSimpArgs false
set_option linter.unusedVariables false
open Go Go.RowKit
variable {P : Program} {o : Oper}

theorem lenA_iff {x : AV} {k : Nat → Prop} (h : lenA x k) : ∃ m, k m ∧ ∀ κ X, gam κ x = some X → ∀ w', (Builtin.lenOf X).run P w' = .ok m w' := by
  cases x with
  | nilslice => exact ⟨0, h, fun κ X hX w' => by simp [gam] at hX; subst hX; simp [Builtin.lenOf]⟩
  | slice p off m kn c =>
    refine ⟨m, h, fun κ X hX w' => ?_⟩
    obtain ⟨ki, cap, _, rfl, _⟩ := gamk κ p off m c kn X hX
    simp [Builtin.lenOf]
  | sliceE p a b c =>
    refine ⟨0, h, fun κ X hX w' => ?_⟩
    simp only [gam, Option.bind_eq_some_iff] at hX
    obtain ⟨ki, _, h2⟩ := hX
    split at h2
    · simp only [Option.some.injEq] at h2
      subst h2
      simp [Builtin.lenOf]
    · cases h2
  | str m z =>
    refine ⟨m, h, fun κ X hX w' => ?_⟩
    simp only [gam] at hX
    split at hX
    · simp only [Option.some.injEq] at hX
      subst hX
      simp [Builtin.lenOf, strOf_size]
    · cases hX
  | _ => exact h.elim
theorem shortA_ok {κ : Kap} {x : AV} {X : Value} (hX : gam κ x = some X) {m k : Nat} (w : World) (hm : (Builtin.lenOf X).run P w = .ok m w) (hk : k ≤ m) (hne : shortA x k ≠ undefV) :
    ∃ X', gam κ (shortA x k) = some X' ∧ ∀ esz, Builtin.firstCells esz k X' = Builtin.firstCells esz k X := by
  cases x with
  | slice p off n kn c =>
    simp only [gam, Option.bind_eq_some_iff] at hX
    obtain ⟨ki, h1, h2⟩ := hX
    cases kn with
    | true =>
      simp only [if_true] at h2
      split at h2
      · rename_i hle
        simp only [Option.some.injEq] at h2
        subst h2
        simp only [Builtin.lenOf, Sem.run_pure, Result.ok.injEq] at hm
        have : n = m := hm.1
        refine ⟨.slice (some (ki.at off)) k c, by simp [shortA, gam, h1]; omega, fun esz => rfl⟩
      · cases h2
    | false =>
      simp only [Bool.false_eq_true, if_false] at h2
      split at h2
      · rename_i hle
        simp only [Option.some.injEq] at h2
        subst h2
        simp only [Builtin.lenOf, Sem.run_pure, Result.ok.injEq] at hm
        have : n = m := hm.1
        refine ⟨.slice (some (ki.at off)) k (ki.cap - c), by simp [shortA, gam, h1]; omega, fun esz => rfl⟩
      · cases h2
  | str n z =>
    simp only [shortA] at hne ⊢
    split at hne
    · exact ⟨X, hX, fun _ => rfl⟩
    · exact absurd rfl hne
  | _ => exact ⟨X, hX, fun _ => rfl⟩
theorem copy_run {t u e ty : TypeId} {n : Nat} (ht : P.underlying t = some (.slice e)) {i : TypeInfo} (hi : P.info? e = some i) (hn : i.size = n) {base : Option Addr} {dLen cap m : Nat} {X : Value} {w : World} (hl : (Builtin.lenOf X).run P w = .ok m w) {C : Array Value}
    (hf : (Builtin.firstCells n (Nat.min m dLen) X).run P w = .ok C w) {w' : World} (hst : (match base with | some a => storeCells a C.toList | none => pure ()).run P w = .ok () w') :
    (Builtin.copy_ #[t, u] ty #[.slice base dLen cap, X]).run P w = .ok (goInt (Nat.min m dLen)) w' := by
  cases base with
  | none =>
    simp only [Sem.run_pure, Result.ok.injEq, true_and] at hst
    subst hst
    simp [Builtin.copy_, run_underlying ht, hl, sizeOf, typeInfo, hi, hn, hf]
  | some a =>
    simp only at hst
    simp [Builtin.copy_, run_underlying ht, hl, sizeOf, typeInfo, hi, hn, hf, hst]
theorem firstCells_zero {κ : Kap} {x : AV} {X : Value} (hX : gam κ x = some X) {k : Nat → Prop} (hD : lenA x k) (n : Nat) (w : World) : ∃ C, (Builtin.firstCells n 0 X).run P w = .ok C w := by
  cases x with
  | nilslice => simp [gam] at hX; subst hX; simp [Builtin.firstCells]
  | slice p off m kn c =>
    obtain ⟨ki, cap, _, rfl, _⟩ := gamk κ p off m c kn X hX
    simp [Builtin.firstCells, loadCells, loadCellsFrom]
  | sliceE p a b c =>
    simp only [gam, Option.bind_eq_some_iff] at hX
    obtain ⟨ki, _, h2⟩ := hX
    split at h2
    · simp only [Option.some.injEq] at h2
      subst h2
      simp [Builtin.firstCells, loadCells, loadCellsFrom]
    · cases h2
  | str m z =>
    simp only [gam] at hX
    split at hX
    · simp only [Option.some.injEq] at hX
      subst hX
      simp [Builtin.firstCells]
    · cases hX
  | _ => exact hD.elim
theorem srcK_undef {h : Hp} {esz : Nat} {u8 : Bool} {x : AV} {k0 : Prop} {kl : Nat → List AV → Prop} {kb : Nat → Nat → Prop} (hD : srcK h esz u8 x k0 kl kb) : x ≠ undefV := by
  intro e; rw [e] at hD; exact hD.elim

theorem ok_copy {t e : TypeId} {n b : Nat} {u8 : Bool} {z : List AV} {c : Call} {s x : Operand} {ds dx : Opd} (hs : opd s = some ds) (hx : opd x = some dx) (ho : o.op = .call c) (hc : c.callee = .builtin .copy) (h1 : c.args = #[s, x]) (h2 : c.argTypes[0]? = some t)
    (ht : P.underlying t = some (.slice e)) (E : ElemOK P e n b u8 z) (hn : 0 < n) : ActOK P (oCopy n u8 ds dx) o := by
  intro fr h K hD
  obtain ⟨m, hD1, hlen⟩ := lenA_iff (P := P) hD
  have hL : lenA (dx fr) fun _ => True := by
    have hD' := hD
    revert hD'
    unfold oCopy
    cases dx fr <;> (intro q; first | trivial | exact q.elim)
  have fin : ∀ {ρ : Operand → Value} {w w' : World} {base : Option Addr} {dLen cap : Nat} {C : Array Value} {κ : Kap}, ρ s = .slice base dLen cap → Rho κ fr ρ →
      (Builtin.firstCells n (Nat.min m dLen) (ρ x)).run P w = .ok C w → (match base with | some a => storeCells a C.toList | none => pure ()).run P w = .ok () w' → (execOp ρ o).run P w = .ok (.value (goInt (Nat.min m dLen))) w' := by
    intro ρ w w' base dLen cap C κ e1 hr hf hst
    have hl := hlen κ _ (hr x dx hx) w
    obtain ⟨ats, hats⟩ : ∃ ats : Array TypeId, c.argTypes = ats := ⟨_, rfl⟩
    have hrun : ∀ ty, (Builtin.copy_ c.argTypes ty #[.slice base dLen cap, ρ x]).run P w = .ok (goInt (Nat.min m dLen)) w' := by
      intro ty
      have hcp := copy_run (P := P) (t := t) (u := t) (ty := ty) ht E.info E.size (base := base) (dLen := dLen) (cap := cap) hl hf hst
      have e : Builtin.copy_ c.argTypes ty #[.slice base dLen cap, ρ x] = Builtin.copy_ #[t, t] ty #[.slice base dLen cap, ρ x] := by
        simp [Builtin.copy_, h2]
      rw [e]; exact hcp
    simp [execOp, ho, resolve, hc, h1, invoke, builtin, e1, hrun]
  rcases asSl_iff.1 hD1 with ⟨e1, hD1⟩ | ⟨p, off, len, kn, cap, e1, hD1⟩
  · refine ⟨_, _, hD1, fun B w0 κ ρ w sm hr => ?_⟩
    obtain ⟨C, hC⟩ := firstCells_zero (P := P) (hr x dx hx) hL n w
    have := fin (w := w) (w' := w) (base := none) (dLen := 0) (cap := 0) (C := C) (rho_nilslice hr hs e1) hr (by simpa using hC) (by simp)
    exact ⟨κ, .int .i64 0, w, κ.le_refl, sm, by simp [gam], .inl (by simpa [goInt] using this)⟩
  · rw [forceN_eq] at hD1
    have hne := srcK_undef hD1
    have src : ∀ {B w0 κ ρ w} {kk : Nat} {new : List AV}, Sim B w0 κ h w → Rho κ fr ρ → kk = Nat.min m len → (∀ B w0 κ w X, Sim B w0 κ h w → gam κ (shortA (dx fr) (Nat.min m len)) = some X → Src P κ w n kk X new) →
        ∃ NEW, gams κ new = some NEW ∧ NEW.all Value.oneCell' = true ∧ (Builtin.firstCells n (Nat.min m len) (ρ x)).run P w = .ok NEW.toArray w := by
      intro B w0 κ ρ w kk new sm hr hkk hsrc
      obtain ⟨X', g1, g2⟩ := shortA_ok (P := P) (hr x dx hx) w (hlen κ _ (hr x dx hx) w) (Nat.min_le_left m len) hne
      obtain ⟨NEW, q1, q2, q3, q4⟩ := (hsrc B w0 κ w X' sm g1).ex
      refine ⟨NEW, q1, q2, ?_⟩
      rw [← g2 n]
      have := q4 w rfl
      rw [hkk] at this
      exact this
    have lens : ∀ {B w0 κ w} {kk : Nat} {new : List AV}, Sim B w0 κ h w → (∃ X, gam κ (dx fr) = some X) → (∀ B w0 κ w X, Sim B w0 κ h w → gam κ (shortA (dx fr) (Nat.min m len)) = some X → Src P κ w n kk X new) → kk = Nat.min m len := by
      intro B w0 κ w kk new sm ⟨X, hX⟩ hsrc
      obtain ⟨X', g1, g2⟩ := shortA_ok (P := P) hX w (hlen κ _ hX w) (Nat.min_le_left m len) hne
      obtain ⟨NEW, q1, q2, q3, q4⟩ := (hsrc B w0 κ w X' sm g1).ex
      have h5 := q3 w
      cases hdx : dx fr with
      | slice p off n' kn c =>
        rw [hdx] at g1
        obtain ⟨ki, cap, _, e, _⟩ := gamk κ _ _ _ _ _ _ (show gam κ (.slice p off (Nat.min m len) kn c) = some X' from g1)
        rw [e] at h5
        simp only [Builtin.lenOf, Sem.run_pure, Result.ok.injEq] at h5
        exact h5.1.symm
      | str n' z' =>
        rw [hdx] at hne g1 hX
        simp only [shortA] at hne g1
        split at hne
        · rename_i hb
          rw [hb] at g1
          rw [hX] at g1
          cases g1
          have h6 := hlen κ X (by rw [hdx]; exact hX) w
          simp only [gam] at hX
          split at hX
          · simp only [Option.some.injEq] at hX
            subst hX
            simp only [Builtin.lenOf, Sem.run_pure, Result.ok.injEq, strOf_size] at h5 h6
            have := Nat.eq_of_beq_eq_true hb
            omega
          · cases hX
        · exact absurd rfl hne
      | nilslice =>
        rw [hdx] at hX g1
        rw [show shortA .nilslice (Nat.min m len) = .nilslice from rfl, hX] at g1
        cases g1
        have h6 := hlen κ X (by rw [hdx]; exact hX) w
        rw [h5] at h6
        have : kk = m := by simpa using h6
        simp [gam] at hX
        subst hX
        simp only [Builtin.lenOf, Sem.run_pure, Result.ok.injEq] at h5
        have h7 : 0 = kk := h5.1
        have h8 : Nat.min m len ≤ m := Nat.min_le_left m len
        omega
      | sliceE p a b c =>
        rw [hdx] at hX g1
        rw [show shortA (.sliceE p a b c) (Nat.min m len) = .sliceE p a b c from rfl, hX] at g1
        cases g1
        have h6 := hlen κ X (by rw [hdx]; exact hX) w
        rw [h5] at h6
        have : kk = m := by simpa using h6
        simp only [gam, Option.bind_eq_some_iff] at hX
        obtain ⟨ki, _, h2⟩ := hX
        split at h2
        · simp only [Option.some.injEq] at h2
          subst h2
          simp only [Builtin.lenOf, Sem.run_pure, Result.ok.injEq] at h5
          have h7 : 0 = kk := h5.1
          have h8 : Nat.min m len ≤ m := Nat.min_le_left m len
          omega
        · cases h2
      | _ => rw [hdx] at hL; exact hL.elim
    rcases srcK_iff E.esz1 hD1 with ⟨hK, hsrc⟩ | ⟨kk, l, hkk, hll, hK, hsrc⟩ | ⟨kk, zz, hkk, hz1, hK, hsrc⟩
    · refine ⟨_, _, hK, fun B w0 κ ρ w sm hr => ?_⟩
      obtain ⟨ki, rcap, hk, h3, _⟩ := rho_slice hr hs e1
      have h0 := lens sm ⟨_, hr x dx hx⟩ hsrc
      obtain ⟨NEW, q1, q2, q3⟩ := src sm hr h0 hsrc
      simp only [gams, Option.some.injEq] at q1
      subst q1
      have := fin (w := w) (w' := w) h3 hr q3 (by simp [storeCells])
      rw [← h0] at this
      exact ⟨κ, .int .i64 0, w, κ.le_refl, sm, by simp [gam], .inl (by simpa [goInt] using this)⟩
    · obtain ⟨e, he, hK⟩ := objAt_iff.1 hK
      obtain ⟨hown, hK⟩ := gd_iff.1 hK
      have hro : rowLike e.obj := by
        cases l with
        | nil => have hpos := Nat.mul_pos hkk hn; rw [← hll] at hpos; simp at hpos
        | cons v l =>
          rw [setCellsK_cons] at hK
          split at hK
          · rename_i hlt; exact rowLike_of_size (by have : off < sizeOfObj e.obj := by simpa using hlt
                                                    omega)
          · exact hK.elim
      obtain ⟨ob, hK, hrb, hsz, hroom, hcell⟩ := setCellsK_iff _ _ _ _ hro hK
      rw [putK_eq] at hK
      refine ⟨_, _, hK, fun B w0 κ ρ w sm hr => ?_⟩
      obtain ⟨ki, rcap, hk, h3, _⟩ := rho_slice hr hs e1
      have h0 := lens sm ⟨_, hr x dx hx⟩ hsrc
      obtain ⟨NEW, q1, q2, q3⟩ := src sm hr h0 hsrc
      obtain ⟨r1, r2⟩ := sm.write (P := P) he hk hown q1 q2 hro hrb hsz hroom hcell
      have := fin (w := w) h3 hr q3 r1
      rw [← h0] at this
      exact ⟨κ, _, _, κ.le_refl, r2, by simp [gam, goInt], .inl this⟩
    · obtain ⟨e, he, hK⟩ := objAt_iff.1 hK
      obtain ⟨hown, hK⟩ := gd_iff.1 hK
      obtain ⟨ob, hK, hro, hrb, hsz, hroom, hcell⟩ := overBK_iff hK
      rw [putK_eq] at hK
      refine ⟨_, _, hK, fun B w0 κ ρ w sm hr => ?_⟩
      obtain ⟨ki, rcap, hk, h3, _⟩ := rho_slice hr hs e1
      have h0 := lens sm ⟨_, hr x dx hx⟩ hsrc
      obtain ⟨NEW, q1, q2, q3⟩ := src sm hr h0 hsrc
      obtain ⟨r1, r2⟩ := sm.write (P := P) he hk hown q1 q2 hro hrb hsz (.inr hroom) hcell
      have := fin (w := w) h3 hr q3 r1
      rw [← h0] at this
      exact ⟨κ, _, _, κ.le_refl, r2, by simp [gam, goInt], .inl this⟩

end Go.Am
