/-
  Appends: the operations.
-/
import Derived.Test.YtbefkepinpollaaGreatDoorAmActs5
namespace Go.Am
set_option linter.unusedSimpArgs false
set_option linter.unusedVariables false
open Go Go.RowKit
variable {P : Program} {o : Oper}

theorem size_zeroC (z : Array Value) (n : Nat) : (Builtin.zeroCells z n).size = n * z.size := by simp [Builtin.zeroCells]
theorem ElemOK.esz1 {e : TypeId} {n b : Nat} {u8 : Bool} {z : List AV} (E : ElemOK P e n b u8 z) (h : u8 = true) : n = 1 := by
  have := E.len
  rw [(E.byte h).1] at this
  simpa using this.symm
theorem mrun_app {t u e : TypeId} {n b : Nat} {u8 : Bool} {z : List AV} {du : TypeDesc} {c : Call} {s x : Operand} (ho : o.op = .call c) (hc : c.callee = .builtin .append) (h1 : c.args = #[s, x]) (h2 : c.argTypes = #[t, u])
    (ht : P.underlying t = some (.slice e)) (hu : P.underlying u = some du) (hdu : (∃ e', du = .slice e') ∨ du = .string) (E : ElemOK P e n b u8 z) (hb : 0 < b) {ρ : Operand → Value} {w : World} {base : Option Addr} {len cap m : Nat}
    (hs : ρ s = .slice base len cap) {κ : Kap} {new : List AV} (hsrc : Src P κ w n m (ρ x) new) (hby : (len + m) * b ≤ 140737488355328) :
    ∃ NEW, gams κ new = some NEW ∧ NEW.all Value.oneCell' = true ∧ MRun P o ρ w e n base len cap m NEW := by
  obtain ⟨NEW, g1, g2, hl, hf⟩ := hsrc.ex
  refine ⟨NEW, g1, g2, fun hroom w' hst hno => ?_, fun hgt OLD hold => ?_⟩
  · have := app_room (P := P) (ty := o.type) ht E.info hu hdu (κ := κ) (base := base) (hl w) (by rw [E.size]; exact hf w rfl) hroom (by rw [E.size]; exact hst) hno
    simp [execOp, ho, resolve, hc, h1, h2, invoke, builtin, hs, this]
  · have := app_grow (P := P) (ty := o.type) ht E.info E.zero hu hdu (base := base) (hl w) (by rw [E.size]; exact hf w.drew rfl) (by rw [E.size]; exact hold) hgt (by rw [E.bytes]; exact hby) (by rw [E.bytes]; exact hb)
    refine ⟨_, _, grownCap_ge w (len + m) cap e, ?_, by simp only [execOp, ho, resolve, hc, h1, h2, invoke, builtin, List.map_toArray, List.map_cons, List.map_nil, hs, Sem.run_bind, Sem.run_pure, Result.andThen_ok, this]; rfl⟩
    rw [size_zeroC, E.cells]

theorem gamk (κ : Kap) (p off n c : Nat) (kn : Bool) (X : Value) (h : gam κ (.slice p off n kn c) = some X) : ∃ ki cap, κ p = some ki ∧ X = .slice (some (ki.at off)) n cap ∧ n ≤ cap := by
  simp only [gam, Option.bind_eq_some_iff] at h
  obtain ⟨ki, h1, h2⟩ := h
  cases kn with
  | true =>
    simp only [if_true] at h2
    split at h2
    · rename_i hle; exact ⟨ki, c, h1, by simpa using h2.symm, hle⟩
    · cases h2
  | false =>
    simp only [Bool.false_eq_true, if_false] at h2
    split at h2
    · rename_i hle; exact ⟨ki, ki.cap - c, h1, by simpa using h2.symm, by omega⟩
    · cases h2
theorem ok_append {t u e : TypeId} {n b : Nat} {u8 : Bool} {z : List AV} {du : TypeDesc} {c : Call} {s x : Operand} {ds dx : Opd} (hs : opd s = some ds) (hx : opd x = some dx) (ho : o.op = .call c) (hc : c.callee = .builtin .append) (h1 : c.args = #[s, x]) (h2 : c.argTypes = #[t, u])
    (ht : P.underlying t = some (.slice e)) (hu : P.underlying u = some du) (hdu : (∃ e', du = .slice e') ∨ du = .string) (E : ElemOK P e n b u8 z) (hn : 0 < n) (hb : 0 < b) : ActOK P (oAppend n b u8 ds dx) o := by
  intro fr h K hD
  rcases asSl_iff.1 hD with ⟨e1, hD⟩ | ⟨p, off, len, kn, cap, e1, hD⟩
  · -- onto nil
    have rs : ∀ {κ ρ}, Rho κ fr ρ → ρ s = .slice none 0 0 := fun hr => rho_nilslice hr hs e1
    rcases srcK_iff E.esz1 hD with ⟨hK, hsrc⟩ | ⟨m, l, hm, hl, hK, hsrc⟩ | ⟨m, zz, hm, hz1, hK, hsrc⟩
    · refine ⟨_, _, hK, fun B w0 κ ρ w sm hr => ⟨κ, .slice none 0 0, w, κ.le_refl, sm, rfl, .inl ?_⟩⟩
      obtain ⟨NEW, _, _, M⟩ := mrun_app ho hc h1 h2 ht hu hdu E hb (rs hr) (hsrc B w0 κ w _ sm (hr x dx hx)) (by simp)
      exact M.room (by simp) w (fun a ha => by cases ha) (fun _ => rfl)
    · obtain ⟨hby, hK⟩ := gd_iff.1 hK
      have hby' : m * b ≤ 140737488355328 := by simpa using hby
      obtain ⟨ob, hK, r1, r2, r3⟩ := rowK_iff hK
      have hK := fin_iff hK
      refine ⟨_, _, hK, fun B w0 κ ρ w sm hr => ?_⟩
      obtain ⟨NEW, g1, g2, M⟩ := mrun_app ho hc h1 h2 ht hu hdu E hb (rs hr) (hsrc B w0 κ w _ sm (hr x dx hx)) (by simpa using hby')
      obtain ⟨g, REST, q1, q2, hrun⟩ := M.grow (by omega) [] (by simp [Builtin.firstCells])
      have hnw := grow_new sm (e := e) (len := 0) (l := []) r1 (by simp) hl (by simpa using r2) (by simpa using r3) rfl rfl g1 g2 q1 q2
      rw [Nat.zero_add] at hnw hrun
      exact ⟨_, _, _, Kap.le_set sm.none_next, hnw.1, hnw.2, .inl hrun⟩
    · obtain ⟨hby, hK⟩ := gd_iff.1 hK
      have hby' : m * b ≤ 140737488355328 := by simpa using hby
      have hK := fin_iff hK
      refine ⟨_, _, hK, fun B w0 κ ρ w sm hr => ?_⟩
      obtain ⟨NEW, g1, g2, M⟩ := mrun_app ho hc h1 h2 ht hu hdu E hb (rs hr) (hsrc B w0 κ w _ sm (hr x dx hx)) (by simpa using hby')
      obtain ⟨g, REST, q1, q2, hrun⟩ := M.grow (by omega) [] (by simp [Builtin.firstCells])
      have hnw := grow_new sm (e := e) (len := 0) (l := []) (ob := .byts m zz) trivial (by simp) (by rw [bcells_length, hz1]; omega) (by simp [sizeOfObj, bcells_length]) (fun j => by rw [cellAt_byts, List.nil_append, bcells_get]) rfl rfl g1 g2 q1 q2
      rw [Nat.zero_add] at hnw hrun
      exact ⟨_, _, _, Kap.le_set sm.none_next, hnw.1, hnw.2, .inl hrun⟩
  · -- onto a slice
    rcases srcK_iff E.esz1 hD with ⟨hK, hsrc⟩ | ⟨m, l, hm, hl, hK, hsrc⟩ | ⟨m, zz, hm, hz1, hK, hsrc⟩
    · refine ⟨_, _, hK, fun B w0 κ ρ w sm hr => ?_⟩
      have hv := hr s ds hs
      rw [e1] at hv
      obtain ⟨ki, rcap, hk, h3, hle⟩ := gamk _ _ _ _ _ _ _ hv
      refine ⟨κ, _, w, κ.le_refl, sm, hv, .inl ?_⟩
      obtain ⟨NEW, g1, _, hl0, hf0⟩ := (hsrc B w0 κ w _ sm (hr x dx hx)).ex
      have hN : NEW = [] := List.eq_nil_of_length_eq_zero (by have := gams_length _ _ g1; simpa using this)
      have := app_room (P := P) (ty := o.type) ht E.info hu hdu (κ := κ) (base := some (ki.at off)) (w' := w) (NEW := []) (hl0 w) (by rw [E.size, ← hN]; exact hf0 w rfl) (show len + 0 ≤ rcap by omega) (fun a _ => by simp [storeCells]) (fun hno => by cases hno)
      simp [execOp, ho, resolve, hc, h1, h2, invoke, builtin, h3, this]
    · obtain ⟨hby, av, h', hK, hrest⟩ := join_ok (P := P) (o := o) hK hl hm hn (fun ob k hg => growK_iff hg) (fun ob k hg => by
        have hro : rowLike ob := by
          cases l with
          | nil => have hpos := Nat.mul_pos hm hn; rw [← hl] at hpos; simp at hpos
          | cons v l =>
            rw [setCellsK_cons] at hg
            split at hg
            · rename_i hlt; exact rowLike_of_size (by have : off + len * n < sizeOfObj ob := by simpa using hlt
                                                      omega)
            · exact hg.elim
        obtain ⟨ob', a1, a2, a3, a4, a5⟩ := setCellsK_iff _ _ _ _ hro hg
        exact ⟨ob', a1, hro, a2, a3, a4, a5⟩)
      refine ⟨av, h', hK, fun B w0 κ ρ w sm hr => ?_⟩
      obtain ⟨ki, rcap, hk, h3, hc1, hc2⟩ := rho_slice hr hs e1
      obtain ⟨NEW, g1, g2, M⟩ := mrun_app ho hc h1 h2 ht hu hdu E hb h3 (hsrc B w0 κ w _ sm (hr x dx hx)) hby
      obtain ⟨κ', v, w', a1, a2, a3, a4⟩ := hrest B w0 κ ρ w ki rcap NEW e sm hk hc1 hc2 g1 g2 M
      exact ⟨κ', v, w', a1, a2, a3, .inl a4⟩
    · have hz1' := hz1
      subst hz1
      obtain ⟨hby, av, h', hK, hrest⟩ := join_ok (P := P) (o := o) (new := bcells m zz) hK (by rw [bcells_length]; omega) hm hn
        (fun ob k hg => by
          obtain ⟨ob', a1, a2, a3, a4, a5, a6⟩ := growBK_iff hg
          exact ⟨ob', a1, a2, a3, by simpa using a4, by rw [a5, bcells_length, Nat.mul_one], by simpa using a6⟩)
        (fun ob k hg => by
          obtain ⟨ob', a1, a2, a3, a4, a5, a6⟩ := overBK_iff hg
          exact ⟨ob', a1, a2, a3, a4, .inr (by simpa using a5), by simpa using a6⟩)
      refine ⟨av, h', hK, fun B w0 κ ρ w sm hr => ?_⟩
      obtain ⟨ki, rcap, hk, h3, hc1, hc2⟩ := rho_slice hr hs e1
      obtain ⟨NEW, g1, g2, M⟩ := mrun_app ho hc h1 h2 ht hu hdu E hb h3 (hsrc B w0 κ w _ sm (hr x dx hx)) hby
      obtain ⟨κ', v, w', a1, a2, a3, a4⟩ := hrest B w0 κ ρ w ki rcap NEW e sm hk hc1 hc2 g1 g2 M
      exact ⟨κ', v, w', a1, a2, a3, .inl a4⟩

theorem MRun.other {ρ : Operand → Value} {w : World} {e : TypeId} {esz m : Nat} {a b : Option Addr} {NEW : List Value} (hm : 0 < m) (M : MRun P o ρ w e esz a 0 0 m NEW) : MRun P o ρ w e esz b 0 0 m NEW :=
  ⟨fun h => by omega, fun h OLD hold => by
    have e0 : OLD = [] := by
      cases b with
      | none => simpa [Builtin.firstCells] using hold.symm
      | some b => have := run_firstCells_some (P := P) w.drew esz 0 b 0 0 [] (by simp) (fun j v h => by simp at h); rw [this] at hold; simpa using hold.symm
    subst e0
    refine M.grow h [] ?_
    cases a with
    | none => simp [Builtin.firstCells]
    | some a => exact run_firstCells_some w.drew esz 0 a 0 0 [] (by simp) (fun j v h => by simp at h)⟩
theorem ok_append2 {t u e : TypeId} {n b : Nat} {u8 : Bool} {z : List AV} {du : TypeDesc} {c : Call} {s x : Operand} {ds dx : Opd} (hs : opd s = some ds) (hx : opd x = some dx) (ho : o.op = .call c) (hc : c.callee = .builtin .append) (h1 : c.args = #[s, x]) (h2 : c.argTypes = #[t, u])
    (ht : P.underlying t = some (.slice e)) (hu : P.underlying u = some du) (hdu : (∃ e', du = .slice e') ∨ du = .string) (E : ElemOK P e n b u8 z) (hn : 0 < n) (hb : 0 < b) : ActOK P (oAppend2 n b u8 ds dx) o := by
  intro fr h K hD
  rcases asSlE_iff hD with ⟨p, a, b', c', e1, hD⟩ | hD
  · have key : ∀ {m : Nat} {l : List AV} {κ ρ w ki}, 0 < m → κ p = some ki → ρ s = .slice (some (ki.at (if ki.cap = c' then a else b'))) 0 (ki.cap - c') → Src P κ w n m (ρ x) l → (0 + m) * b ≤ 140737488355328 →
        ∃ NEW, gams κ l = some NEW ∧ NEW.all Value.oneCell' = true ∧ MRun P o ρ w e n (some (ki.at b')) 0 (ki.cap - c') m NEW := by
      intro m l κ ρ w ki hm hk h3 hsrc hby
      obtain ⟨NEW, g1, g2, M⟩ := mrun_app ho hc h1 h2 ht hu hdu E hb h3 hsrc hby
      refine ⟨NEW, g1, g2, ?_⟩
      by_cases hq : ki.cap = c'
      · have h0 : ki.cap - c' = 0 := by omega
        rw [h0] at M ⊢
        exact M.other hm
      · rw [if_neg hq] at M; exact M
    rcases srcK_iff E.esz1 hD with ⟨hK, hsrc⟩ | ⟨m, l, hm, hl, hK, hsrc⟩ | ⟨m, zz, hm, hz1, hK, hsrc⟩
    · refine ⟨_, _, hK, fun B w0 κ ρ w sm hr => ?_⟩
      have hv := hr s ds hs
      rw [e1] at hv
      obtain ⟨ki, hk, hle, h3⟩ := rho_sliceE hr hs e1
      refine ⟨κ, _, w, κ.le_refl, sm, hv, .inl ?_⟩
      obtain ⟨NEW, g1, _, hl0, hf0⟩ := (hsrc B w0 κ w _ sm (hr x dx hx)).ex
      have hN : NEW = [] := List.eq_nil_of_length_eq_zero (by have := gams_length _ _ g1; simpa using this)
      have := app_room (P := P) (ty := o.type) ht E.info hu hdu (κ := κ) (base := some (ki.at (if ki.cap = c' then a else b'))) (w' := w) (NEW := []) (hl0 w) (by rw [E.size, ← hN]; exact hf0 w rfl) (show 0 + 0 ≤ ki.cap - c' by omega) (fun a _ => by simp [storeCells]) (fun hno => by cases hno)
      simp [execOp, ho, resolve, hc, h1, h2, invoke, builtin, h3, this]
    · obtain ⟨hby, av, h', hK, hrest⟩ := join_ok (P := P) (o := o) hK hl hm hn (fun ob k hg => growK_iff hg) (fun ob k hg => hg.elim)
      refine ⟨av, h', hK, fun B w0 κ ρ w sm hr => ?_⟩
      obtain ⟨ki, hk, hle, h3⟩ := rho_sliceE hr hs e1
      obtain ⟨NEW, g1, g2, M⟩ := key hm hk h3 (hsrc B w0 κ w _ sm (hr x dx hx)) hby
      obtain ⟨κ', v, w', a1, a2, a3, a4⟩ := hrest B w0 κ ρ w ki (ki.cap - c') NEW e sm hk (fun h => by cases h) (fun _ => ⟨by omega, rfl⟩) g1 g2 M
      exact ⟨κ', v, w', a1, a2, a3, .inl a4⟩
    · have hz1' := hz1
      subst hz1
      obtain ⟨hby, av, h', hK, hrest⟩ := join_ok (P := P) (o := o) (new := bcells m zz) hK (by rw [bcells_length]; omega) hm hn
        (fun ob k hg => by
          obtain ⟨ob', a1, a2, a3, a4, a5, a6⟩ := growBK_iff hg
          exact ⟨ob', a1, a2, a3, by simpa using a4, by rw [a5, bcells_length], by simpa using a6⟩)
        (fun ob k hg => hg.elim)
      refine ⟨av, h', hK, fun B w0 κ ρ w sm hr => ?_⟩
      obtain ⟨ki, hk, hle, h3⟩ := rho_sliceE hr hs e1
      obtain ⟨NEW, g1, g2, M⟩ := key hm hk h3 (hsrc B w0 κ w _ sm (hr x dx hx)) hby
      obtain ⟨κ', v, w', a1, a2, a3, a4⟩ := hrest B w0 κ ρ w ki (ki.cap - c') NEW e sm hk (fun h => by cases h) (fun _ => ⟨by omega, rfl⟩) g1 g2 M
      exact ⟨κ', v, w', a1, a2, a3, .inl a4⟩
  · exact ok_append hs hx ho hc h1 h2 ht hu hdu E hn hb fr h K hD

/-! ### append(s, make([]T, n)...) -/
theorem wrap64_of (m : Nat) (h : m ≤ 140737488355328) : IntKind.i64.wrap (m : Int) = m := by
  rw [IntKind.wrap_i64]; omega
set_option maxHeartbeats 1000000 in
theorem mrun_appZ {t u e : TypeId} {n b : Nat} {u8 : Bool} {z : List AV} {k0 k : IntKind} {c : Call} {s x : Operand} (ho : o.op = .call c) (hc : c.callee = .builtin .append) (h1 : c.args = #[s, x]) (h2 : c.argTypes = #[t, u])
    (ht : P.underlying t = some (.slice e)) (hu : P.underlying u = some (.int k0)) (E : ElemOK P e n b u8 z) (hn : 0 < n) (hb : 0 < b) {ρ : Operand → Value} {w : World} {base : Option Addr} {len cap m : Nat}
    (hs : ρ s = .slice base len cap) (hx : ρ x = .int k (m : Int)) (κ : Kap) (hby : (len + m) * b ≤ 140737488355328) :
    ∃ NEW, gams κ (repL z m) = some NEW ∧ NEW.all Value.oneCell' = true ∧ MRun P o ρ w e n base len cap m NEW := by
  have hmb : m * b ≤ 140737488355328 := Nat.le_trans (Nat.mul_le_mul_right _ (by omega)) hby
  have hm0 : m ≤ 140737488355328 := Nat.le_trans (Nat.le_mul_of_pos_right m hb) hmb
  have hw := wrap64_of m hm0
  have hneg : ¬ ((m : Int) < 0) := by omega
  have hmi : ¬ (281474976710656 < (m : Int) * (b : Int)) := by
    have : ((m * b : Nat) : Int) ≤ 140737488355328 := by omega
    rw [Int.natCast_mul] at this; omega
  have hnew : (if m * n = 0 then (#[] : Array Value) else Builtin.zeroCells E.Z.cells m) = (List.replicate m E.Z.cells.toList).flatten.toArray := by
    have hz : Builtin.zeroCells E.Z.cells m = (List.replicate m E.Z.cells.toList).flatten.toArray := by
      apply Array.toList_inj.1
      exact rep_range E.Z.cells m
    split
    · rename_i h0
      have : m = 0 := by rcases Nat.mul_eq_zero.1 h0 with h | h <;> omega
      subst this; simp
    · exact hz
  have hzero : ∀ w : World, (zeroValue e).run P w = .ok E.Z w := fun w => by simp [zeroValue, typeInfo, E.info, E.zero]
  refine ⟨(List.replicate m E.Z.cells.toList).flatten, gams_rep (E.gam κ) m, rep_all E.one m, fun hroom w' hst hno => ?_, fun hgt OLD hold => ?_⟩
  · rcases Nat.eq_zero_or_pos m with rfl | hm
    · simp only [Nat.add_zero] at hroom
      cases base with
      | none =>
        obtain rfl := hno rfl
        simp [execOp, ho, resolve, hc, h1, h2, invoke, builtin, hs, hx, Builtin.append_, run_underlying ht, run_underlying hu, sizeOf, typeInfo, E.info, E.size, E.bytes, Go.asInt, asIntOf, IntKind.wrap_i64, hroom]
      | some a =>
        have hst := hst a rfl
        simp [storeCells] at hst
        subst hst
        simp [execOp, ho, resolve, hc, h1, h2, invoke, builtin, hs, hx, Builtin.append_, run_underlying ht, run_underlying hu, sizeOf, typeInfo, E.info, E.size, E.bytes, Go.asInt, asIntOf, IntKind.wrap_i64, hroom, storeCells]
    · have hmn : ¬ (m = 0 ∨ n = 0) := by omega
      have hmn' : m * n ≠ 0 := Nat.ne_of_gt (Nat.mul_pos hm hn)
      rw [if_neg hmn'] at hnew
      cases base with
      | none =>
        obtain rfl := hno rfl
        simp [execOp, ho, resolve, hc, h1, h2, invoke, builtin, hs, hx, Builtin.append_, run_underlying ht, run_underlying hu, sizeOf, typeInfo, E.info, E.size, E.bytes, Go.asInt, asIntOf, hw, hneg, hmi, hroom, hmn, hzero]
      | some a =>
        have hst := hst a rfl
        simp [execOp, ho, resolve, hc, h1, h2, invoke, builtin, hs, hx, Builtin.append_, run_underlying ht, run_underlying hu, sizeOf, typeInfo, E.info, E.size, E.bytes, Go.asInt, asIntOf, hw, hneg, hmi, hroom, hmn, hzero, hnew, hst]
        intro h0; exact absurd h0 hmn'
  · have hn' : ¬ (len + m ≤ cap) := by omega
    have hfit := growslice_fits hgt hby
    have h48' : ¬ (281474976710656 < Builtin.nextslicecap (len + m) cap * b) := by omega
    have hb0 : b ≠ 0 := by omega
    have h63 : ¬ (9223372036854775807 < (len : Int) + (m : Int)) := by
      have : len + m ≤ 140737488355328 := Nat.le_trans (Nat.le_mul_of_pos_right _ hb) hby
      omega
    refine ⟨grownCap w (len + m) cap e, Builtin.zeroCells E.Z.cells (grownCap w (len + m) cap e - (len + m)), grownCap_ge w (len + m) cap e, by rw [size_zeroC, E.cells], ?_⟩
    rcases Nat.eq_zero_or_pos m with rfl | hm
    · simp [execOp, ho, resolve, hc, h1, h2, invoke, builtin, hs, hx, Builtin.append_, run_underlying ht, run_underlying hu, sizeOf, typeInfo, E.info, E.size, E.bytes, Go.asInt, asIntOf, IntKind.wrap_i64]
      simp at hn' h48' h63 hold
      have a1 : ¬ (len ≤ cap) := by omega
      have a2 : ¬ (9223372036854775807 < (len : Int)) := by omega
      have a3 : ¬ (281474976710656 < Builtin.nextslicecap len cap * b) := by omega
      simp [a1, a2, a3, hb0, Question.forced, hold, newRow, grownCap, hzero, E.info]
    · have hmn : ¬ (m = 0 ∨ n = 0) := by omega
      have hmn' : m * n ≠ 0 := Nat.ne_of_gt (Nat.mul_pos hm hn)
      rw [if_neg hmn'] at hnew
      simp [execOp, ho, resolve, hc, h1, h2, invoke, builtin, hs, hx, Builtin.append_, run_underlying ht, run_underlying hu, sizeOf, typeInfo, E.info, E.size, E.bytes, Go.asInt, asIntOf, hw, hneg, hmi, hn', h48', hb0, h63, Question.forced, hold, newRow, grownCap, hmn, hzero, hnew]
      rw [if_neg hmn']
      have hcat : ∀ (A B : List Value) (C : Array Value), A.toArray ++ (B.toArray ++ C) = (A ++ B).toArray ++ C := by
        intro A B C; apply Array.ext'; simp
      rw [hcat]

theorem ok_appendZ {t u e : TypeId} {n b : Nat} {u8 : Bool} {z : List AV} {k0 : IntKind} {c : Call} {s x : Operand} {ds dx : Opd} (hs : opd s = some ds) (hx : opd x = some dx) (ho : o.op = .call c) (hc : c.callee = .builtin .append) (h1 : c.args = #[s, x]) (h2 : c.argTypes = #[t, u])
    (ht : P.underlying t = some (.slice e)) (hu : P.underlying u = some (.int k0)) (E : ElemOK P e n b u8 z) (hn : 0 < n) (hb : 0 < b) : ActOK P (oAppendZ n b u8 z ds dx) o := by
  intro fr h K hD
  obtain ⟨k, m, e0, hD⟩ := asNat_iff.1 hD
  rw [forceN_eq] at hD
  have hrl : (repL z m).length = m * n := by rw [repL_length, E.len]
  rcases asSl_iff.1 hD with ⟨e1, hD⟩ | ⟨p, off, len, kn, cap, e1, hD⟩
  · have rs : ∀ {κ ρ}, Rho κ fr ρ → ρ s = .slice none 0 0 := fun hr => rho_nilslice hr hs e1
    cases hm : Nat.beq m 0 with
    | true =>
      rw [hm] at hD
      have h0 : m = 0 := by simpa using hm
      subst h0
      refine ⟨_, _, hD, fun B w0 κ ρ w sm hr => ⟨κ, .slice none 0 0, w, κ.le_refl, sm, rfl, .inl ?_⟩⟩
      obtain ⟨NEW, _, _, M⟩ := mrun_appZ (P := P) (w := w) (k := k) ho hc h1 h2 ht hu E hn hb (rs hr) (m := 0) (rho_int hr hx e0) κ (by simp)
      exact M.room (by simp) w (fun a ha => by cases ha) (fun _ => rfl)
    | false =>
      rw [hm] at hD
      have hmp : 0 < m := by
        have : ¬ m = 0 := by intro h0; rw [h0] at hm; exact absurd hm (by decide)
        omega
      obtain ⟨hby, hK⟩ := gd_iff.1 hD
      have hby' : m * b ≤ 140737488355328 := by simpa using hby
      obtain ⟨ob, hK, r1, r2, r3⟩ := zerosK_iff (fun hu => (E.byte hu).1) hK
      have hK := fin_iff hK
      refine ⟨_, _, hK, fun B w0 κ ρ w sm hr => ?_⟩
      obtain ⟨NEW, g1, g2, M⟩ := mrun_appZ (P := P) (w := w) (k := k) ho hc h1 h2 ht hu E hn hb (rs hr) (m := m) (rho_int hr hx e0) κ (by simpa using hby')
      obtain ⟨g, REST, q1, q2, hrun⟩ := M.grow (by omega) [] (by simp [Builtin.firstCells])
      have hnw := grow_new sm (e := e) (len := 0) (l := []) r1 (by simp) hrl (by rw [r2, List.nil_append, repL_length]) (by simpa using r3) rfl rfl g1 g2 q1 q2
      rw [Nat.zero_add] at hnw hrun
      exact ⟨_, _, _, Kap.le_set sm.none_next, hnw.1, hnw.2, .inl hrun⟩
  · cases hm : Nat.beq m 0 with
    | true =>
      rw [hm] at hD
      have h0 : m = 0 := by simpa using hm
      subst h0
      refine ⟨_, _, hD, fun B w0 κ ρ w sm hr => ?_⟩
      have hv := hr s ds hs
      rw [e1] at hv
      obtain ⟨ki, rcap, hk, h3, hle⟩ := gamk _ _ _ _ _ _ _ hv
      refine ⟨κ, _, w, κ.le_refl, sm, hv, .inl ?_⟩
      have hxi := rho_int hr hx e0
      rw [h3]
      have hxi' : ρ x = .int k 0 := hxi
      simp [execOp, ho, resolve, hc, h1, h2, invoke, builtin, h3, hxi', Builtin.append_, run_underlying ht, run_underlying hu, sizeOf, typeInfo, E.info, E.size, E.bytes, Go.asInt, asIntOf, IntKind.wrap_i64, hle, storeCells]
    | false =>
      rw [hm] at hD
      have hmp : 0 < m := by
        have : ¬ m = 0 := by intro h0; rw [h0] at hm; exact absurd hm (by decide)
        omega
      obtain ⟨hby, av, h', hK, hrest⟩ := join_ok (P := P) (o := o) (new := repL z m) (show joinK h p off len m kn cap n b _ _ K from hD) hrl hmp hn
        (fun ob k hg => by
          cases u8 with
          | false => exact growK_iff hg
          | true =>
            have hz := (E.byte rfl).1
            have hn1 := E.esz1 rfl
            obtain ⟨ob', a1, a2, a3, a4, a5, a6⟩ := growBK_iff hg
            have hbc : bcells m 0 = repL z m := by
              apply List.ext_getElem?
              intro j
              rw [bcells_get, repL_get (α := Unit), hz]
              simp only [List.length_singleton, Nat.mul_one, Nat.mod_one]
              split <;> simp [byteAt]
            refine ⟨ob', a1, a2, a3, by rw [hn1, Nat.mul_one]; exact a4, by rw [a5, hrl, hn1, Nat.mul_one, Nat.mul_one], ?_⟩
            intro j
            rw [a6, hn1, Nat.mul_one, hbc])
        (fun ob k hg => hg.elim)
      refine ⟨av, h', hK, fun B w0 κ ρ w sm hr => ?_⟩
      obtain ⟨ki, rcap, hk, h3, hc1, hc2⟩ := rho_slice hr hs e1
      obtain ⟨NEW, g1, g2, M⟩ := mrun_appZ (P := P) (w := w) (k := k) ho hc h1 h2 ht hu E hn hb h3 (m := m) (rho_int hr hx e0) κ hby
      obtain ⟨κ', v, w', a1, a2, a3, a4⟩ := hrest B w0 κ ρ w ki rcap NEW e sm hk hc1 hc2 g1 g2 M
      exact ⟨κ', v, w', a1, a2, a3, .inl a4⟩

end Go.Am
