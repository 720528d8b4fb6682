/-
  The operations that look at the heap and leave it alone; and what a row's changes come to.
-/
import Derived.Test.YtbefkepinpollaaGreatDoorAmPure3
namespace Go.Am
set_option linter.unusedSimpArgs false
set_option linter.unusedVariables false
open Go Go.RowKit
variable {P : Program} {o : Oper}

def rowLike : AObj → Prop
  | .row _ | .big _ _ _ | .byts _ _ => True
  | _ => False
theorem objSim_row {κ : Kap} {ob : AObj} (h : rowLike ob) (esz : Nat) (ki : Ki) (o : Option Obj) : ObjSim κ ob esz ki o = RowSim κ ob esz ki o := by
  cases ob <;> first | rfl | exact h.elim
theorem cellAt_row {ob : AObj} {j : Nat} {v : AV} (h : cellAt ob j = some v) : rowLike ob := by
  cases ob <;> first | trivial | (simp [cellAt] at h)

def ReadOK (P : Program) (D : OpD) (o : Oper) : Prop :=
  ∀ fr h K, D fr h K → ∃ av, K av h ∧ ∀ B w0 κ ρ w, Sim B w0 κ h w → Rho κ fr ρ → ∃ v, gam κ av = some v ∧ (execOp ρ o).run P w = .ok (.value v) w
theorem PureOK.read {D : OpD} (h : PureOK P D o) : ReadOK P D o := fun fr h' K hD =>
  let ⟨av, hK, hr⟩ := h fr h' K hD; ⟨av, hK, fun _ _ κ ρ w _ hρ => hr κ ρ w hρ⟩

theorem Sim.row {B : Nat} {w0 : W0} {w : World} {κ : Kap} {h : Hp} (s : Sim B w0 κ h w) {p : Nat} {e : Ent} (he : h.objs.getP (npos p) = some e) (hr : rowLike e.obj) :
    ∃ ki, κ p = some ki ∧ RowSim κ e.obj e.esz ki w.heap[ki.blk]? := by
  obtain ⟨ki, h1, _, _, h2⟩ := s.obj p e he
  exact ⟨ki, h1, by rwa [objSim_row hr] at h2⟩
theorem Sim.cell {B : Nat} {w0 : W0} {w : World} {κ : Kap} {h : Hp} (s : Sim B w0 κ h w) {p : Nat} {e : Ent} {ki : Ki} (he : h.objs.getP (npos p) = some e) (hk : κ p = some ki) {j : Nat} {v : AV} (hc : cellAt e.obj j = some v) :
    ∃ V, gam κ v = some V ∧ V.oneCell' = true ∧ w.cell? (ki.at j) = some V ∧ w.frozen? (ki.at j) = false := by
  obtain ⟨ki', h1, c, t, fr, h2, h3, h4, _, h5⟩ := s.row he (cellAt_row hc)
  rw [hk] at h1; cases h1
  obtain ⟨V, g1, g2, g3⟩ := h5 j v hc
  refine ⟨V, g1, g2, ?_, ?_⟩
  · simp [World.cell?, Ki.at, h2, g3]
  · have hlt := (Array.getElem?_eq_some_iff.1 g3).1
    have this : ¬ (fr.1 ≤ ki.base + j ∧ ki.base + j < fr.2) := by omega
    simp only [World.frozen?, Ki.at, h2]
    simp only [Bool.and_eq_false_iff, decide_eq_false_iff_not]
    by_cases hx : fr.1 ≤ ki.base + j
    · exact .inr (decide_eq_false fun hy => this ⟨hx, hy⟩)
    · exact .inl (decide_eq_false hx)
theorem Sim.cells {B : Nat} {w0 : W0} {w : World} {κ : Kap} {h : Hp} (s : Sim B w0 κ h w) {p : Nat} {e : Ent} {ki : Ki} (he : h.objs.getP (npos p) = some e) (hk : κ p = some ki) : ∀ (l : List AV) (off : Nat),
    (∀ j, j < l.length → ∃ v, l[j]? = some v ∧ cellAt e.obj (off + j) = some v) → ∃ L, gams κ l = some L ∧ L.all Value.oneCell' = true ∧ ∀ j V, L[j]? = some V → w.cell? (ki.at (off + j)) = some V
  | [], off, _ => ⟨[], rfl, rfl, fun j V h => by simp at h⟩
  | v :: l, off, hc => by
    obtain ⟨u, h1, h2⟩ := hc 0 (by simp)
    simp at h1; subst h1
    obtain ⟨V, g1, g2, g3, _⟩ := s.cell he hk h2
    obtain ⟨L, f1, f2, f3⟩ := Sim.cells s he hk l (off + 1) (fun j hj => by
      obtain ⟨u, a, b⟩ := hc (j + 1) (by simpa using hj)
      exact ⟨u, by simpa using a, by rw [← b]; congr 1; omega⟩)
    refine ⟨V :: L, by simp [gams, g1, f1], by simp [g2, f2], fun j W hW => ?_⟩
    cases j with
    | zero => simp at hW; subst hW; exact g3
    | succ j =>
      have := f3 j W (by simpa using hW)
      rwa [show off + 1 + j = off + (j + 1) by omega] at this

theorem objAt_iff {h : Hp} {p : Nat} {k : Ent → Prop} : objAt h p k ↔ ∃ e, h.objs.getP (npos p) = some e ∧ k e := asOpt_iff

theorem ok_load {t : TypeId} {x : Operand} {dx : Opd} (hx : opd x = some dx) (ho : o.op = .load t x) (ha : aggOf P t = some false) : ReadOK P (oLoad dx) o := by
  intro fr h K hD
  obtain ⟨p, off, e1, hD⟩ := asPtr_iff.1 hD
  obtain ⟨e, he, hD⟩ := objAt_iff.1 hD
  obtain ⟨v, hv, hK⟩ := asOpt_iff.1 hD
  refine ⟨v, hK, fun B w0 κ ρ w s hr => ?_⟩
  obtain ⟨ki, hk, h3⟩ := rho_ptr hr hx e1
  obtain ⟨V, g1, _, g3, _⟩ := s.cell he hk hv
  exact ⟨V, g1, by simp [execOp, ho, Instr.loadAt, h3, Instr.sureAddr, loadVar, aggRun ha, g3]⟩
theorem ok_load2 {t : TypeId} {x : Operand} {dx : Opd} (hx : opd x = some dx) (ho : o.op = .load t x) (ha : aggOf P t = some false) : ReadOK P (oLoad2 dx) o := by
  intro fr h K hD
  cases e1 : dx fr with
  | gptr g =>
    have hD : objAt h g fun e => gd (!e.own && Nat.beq e.esz 0) (asOpt (cellAt e.obj 0) fun v => K v h) := by
      have q : vLoad2 (dx fr) h K := hD
      rw [e1] at q
      exact q
    obtain ⟨e, he, hD⟩ := objAt_iff.1 hD
    obtain ⟨hown, hD⟩ := gd_iff.1 hD
    obtain ⟨v, hv, hK⟩ := asOpt_iff.1 hD
    refine ⟨v, hK, fun B w0 κ ρ w s hr => ?_⟩
    have h3 : ρ x = .pointer (some ⟨g, 0, none⟩) := by
      have := hr x dx hx
      rw [e1] at this
      simpa [gam] using this.symm
    obtain ⟨ki, hk, _, h4, _⟩ := s.obj g e he
    simp only [Bool.and_eq_true, Bool.not_eq_true', Nat.beq_eq] at hown
    obtain ⟨h5, h6⟩ := (h4 hown.1).2 hown.2
    obtain ⟨V, g1, _, g3, _⟩ := s.cell he hk hv
    have hat : ki.at 0 = ⟨g, 0, none⟩ := by simp [Ki.at, h5, h6]
    rw [hat] at g3
    exact ⟨V, g1, by simp [execOp, ho, Instr.loadAt, h3, Instr.sureAddr, loadVar, aggRun ha, g3]⟩
  | _ =>
    have hD : oLoad dx fr h K := by
      have q : vLoad2 (dx fr) h K := hD
      rw [e1] at q
      show vLoad (dx fr) h K
      rw [e1]; exact q
    exact ok_load hx ho ha fr h K hD
theorem ok_loadA {t : TypeId} {n : Nat} {x : Operand} {dx : Opd} (hx : opd x = some dx) (ho : o.op = .load t x) (ha : aggOf P t = some true) (hn : szOf P t = some n) : ReadOK P (oLoadA n dx) o := by
  intro fr h K hD
  obtain ⟨p, off, e1, hD⟩ := asPtr_iff.1 hD
  obtain ⟨e, he, hD⟩ := objAt_iff.1 hD
  obtain ⟨l, hK, h6, h7⟩ := cellsK_iff _ _ _ _ hD
  refine ⟨_, hK, fun B w0 κ ρ w s hr => ?_⟩
  obtain ⟨ki, hk, h3⟩ := rho_ptr hr hx e1
  obtain ⟨L, f1, f2, f3⟩ := s.cells he hk l off (fun j hj => h7 j (by omega))
  refine ⟨.agg L.toArray, by simp only [gam, f1, Option.bind_some, f2, if_true], ?_⟩
  have hl := run_loadCells_list (P := P) w (ki.at off) L (fun j v hv => by rw [at_add]; exact f3 j v hv)
  rw [gams_length _ _ f1, h6] at hl
  simp [execOp, ho, Instr.loadAt, h3, Instr.sureAddr, loadVar, aggRun ha, szRun hn, hl]
theorem asByts_iff {ob : AObj} {k : Nat → Nat → Prop} : asByts ob k → ∃ n x, ob = .byts n x ∧ k n x := fun h => by
  cases ob <;> first | exact ⟨_, _, rfl, h⟩ | exact h.elim
theorem strOfNums_cut (z off n : Nat) : strOfNums ((List.range n).map fun j => (byteAt z (off + j) : Int)) = strOf n (cutB z off n) := by
  apply ba_ext
  rw [strOfNums_data, strOf_data]
  apply List.ext_getElem?
  intro j
  rw [bytesL_get]
  by_cases hj : j < n
  · rw [if_pos hj, byteAt_cut _ _ _ _ hj]
    simp [List.getElem?_range hj]
  · rw [if_neg hj]
    simp; omega
theorem ok_toStr {s t e : TypeId} {x : Operand} {dx : Opd} (hx : opd x = some dx) (ho : o.op = .convert s t x) (hs : P.underlying s = some (.slice e)) (he : P.underlying e = some (.int .u8)) (ht : P.underlying t = some .string) : ReadOK P (oToStr dx) o := by
  intro fr h K hD
  rcases asSl_iff.1 hD with ⟨e1, hD⟩ | ⟨p, off, n, kn, c, e1, hD⟩
  · refine ⟨_, hD, fun B w0 κ ρ w sm hr => ⟨.string ByteArray.empty, ?_, ?_⟩⟩
    · simp [gam, strOf, bytesL]; rfl
    · have h3 := rho_nilslice hr hx e1
      simp [execOp, ho, h3, run_convert_bytes_nil w s e hs he 0 0 t ht]
  · obtain ⟨en, hg, hD⟩ := objAt_iff.1 hD
    obtain ⟨m, z, hob, hD⟩ := asByts_iff hD
    obtain ⟨hb, hD⟩ := gd_iff.1 hD
    simp only [forceN_eq] at hD
    refine ⟨_, hD, fun B w0 κ ρ w sm hr => ?_⟩
    obtain ⟨ki, cap, hk, h3, _⟩ := rho_slice hr hx e1
    refine ⟨.string (strOf n (cutB z off n)), by simp only [gam]; rw [if_pos (cutB_lt _ _ _)], ?_⟩
    have hb' : off + n ≤ m := by simpa using hb
    have := run_convert_bytes_arg (P := P) w s e hs he ki.blk (ki.base + off) n cap ((List.range n).map fun j => (byteAt z (off + j) : Int)) (by simp) (fun i hi => by
      obtain ⟨V, g1, _, g3, _⟩ := sm.cell hg hk (j := off + i) (v := .int .u8 (Int.ofNat (byteAt z (off + i)))) (by
        rw [hob]; simp only [cellAt]
        have : Nat.blt (off + i) m = true := by simp; omega
        rw [this])
      simp only [gam, Option.some.injEq] at g1
      subst g1
      have e4 : (⟨ki.blk, ki.base + off + i, none⟩ : Addr) = ki.at (off + i) := by simp [Ki.at, Nat.add_assoc]
      rw [e4, g3]
      simp [List.getD, List.getElem?_range hi]) t ht
    rw [strOfNums_cut] at this
    simp only [execOp, ho, h3, Ki.at, Sem.run_bind, this, Result.andThen_ok, Sem.run_pure]
theorem ok_lenS {x : Operand} {t : TypeId} {dx : Opd} {c : Call} (hx : opd x = some dx) (ho : o.op = .call c) (hc : c.callee = .builtin .len) (h1 : c.args = #[x]) (h2 : c.argTypes = #[t]) (ht : P.underlying t = some .string) : PureOK P (oLenS dx) o := by
  intro fr h K hD
  obtain ⟨n, z, e1, hK⟩ := asStr_iff.1 hD
  refine ⟨_, hK, fun κ ρ w hr => ⟨.int .i64 n, by simp [gam], ?_⟩⟩
  obtain ⟨_, h3⟩ := rho_str hr hx e1
  simp [execOp, ho, resolve, hc, h1, h2, invoke, builtin, Builtin.len_, run_underlying ht, h3, strOf_size, goInt]
theorem ok_min {x y : Operand} {dx dy : Opd} {c : Call} (mx : Bool) (hx : opd x = some dx) (hy : opd y = some dy) (ho : o.op = .call c) (hc : c.callee = .builtin (if mx then .max else .min)) (h1 : c.args = #[x, y]) : PureOK P (oMin mx dx dy) o := by
  intro fr h K hD
  obtain ⟨k, a, e1, hD⟩ := asInt_iff.1 hD
  obtain ⟨k', b, e2, hD⟩ := asInt_iff.1 hD
  cases mx with
  | false =>
    cases hb : leI a b with
    | true =>
      simp only [hb] at hD
      refine ⟨_, hD, fun κ ρ w hr => ⟨.int k a, by simp [gam], ?_⟩⟩
      have h3 := rho_int hr hx e1
      have h4 := rho_int hr hy e2
      have h5 := leI_iff.1 hb
      have h6 : ¬ b < a := by omega
      simp [execOp, ho, resolve, hc, h1, invoke, builtin, Builtin.min_, Builtin.min2, h3, h4, h6]
    | false =>
      simp only [hb] at hD
      refine ⟨_, hD, fun κ ρ w hr => ⟨.int k b, by simp [gam], ?_⟩⟩
      have h3 := rho_int hr hx e1
      have h4 := rho_int hr hy e2
      have h6 : b < a := by
        rcases Int.lt_or_le b a with h | h
        · exact h
        · rw [leI_iff.2 h] at hb; cases hb
      simp [execOp, ho, resolve, hc, h1, invoke, builtin, Builtin.min_, Builtin.min2, h3, h4, h6]
  | true =>
    cases hb : leI b a with
    | true =>
      simp only [hb] at hD
      refine ⟨_, hD, fun κ ρ w hr => ⟨.int k a, by simp [gam], ?_⟩⟩
      have h3 := rho_int hr hx e1
      have h4 := rho_int hr hy e2
      have h5 := leI_iff.1 hb
      have h6 : ¬ b > a := by omega
      simp [execOp, ho, resolve, hc, h1, invoke, builtin, Builtin.max_, Builtin.max2, h3, h4, h6]
    | false =>
      simp only [hb] at hD
      refine ⟨_, hD, fun κ ρ w hr => ⟨.int k b, by simp [gam], ?_⟩⟩
      have h3 := rho_int hr hx e1
      have h4 := rho_int hr hy e2
      have h6 : b > a := by
        rcases Int.lt_or_le a b with h | h
        · exact h
        · rw [leI_iff.2 h] at hb; cases hb
      simp [execOp, ho, resolve, hc, h1, invoke, builtin, Builtin.max_, Builtin.max2, h3, h4, h6]
theorem ok_lenL {x : Operand} {t e : TypeId} {dx : Opd} {c : Call} (hx : opd x = some dx) (ho : o.op = .call c) (hc : c.callee = .builtin .len) (h1 : c.args = #[x]) (h2 : c.argTypes = #[t]) (ht : P.underlying t = some (.slice e)) : PureOK P (oLenL dx) o := by
  intro fr h K hD
  rcases asSl_iff.1 hD with ⟨e1, hK⟩ | ⟨p, off, n, kn, cp, e1, hK⟩
  · refine ⟨_, hK, fun κ ρ w hr => ⟨.int .i64 0, by simp [gam], ?_⟩⟩
    have h3 := rho_nilslice hr hx e1
    simp [execOp, ho, resolve, hc, h1, h2, invoke, builtin, Builtin.len_, run_underlying ht, h3, goInt]
  · refine ⟨_, hK, fun κ ρ w hr => ⟨.int .i64 n, by simp [gam], ?_⟩⟩
    obtain ⟨ki, cap, _, h3, _⟩ := rho_slice hr hx e1
    simp [execOp, ho, resolve, hc, h1, h2, invoke, builtin, Builtin.len_, run_underlying ht, h3, goInt]
theorem ok_lenL2 {x : Operand} {t e : TypeId} {dx : Opd} {c : Call} (hx : opd x = some dx) (ho : o.op = .call c) (hc : c.callee = .builtin .len) (h1 : c.args = #[x]) (h2 : c.argTypes = #[t]) (ht : P.underlying t = some (.slice e)) : PureOK P (oLenL2 dx) o := by
  intro fr h K hD
  rcases asSlE_iff hD with ⟨p, a, b, cc, e1, hK⟩ | hD
  · refine ⟨_, hK, fun κ ρ w hr => ⟨.int .i64 0, by simp [gam], ?_⟩⟩
    obtain ⟨ki, _, _, h3⟩ := rho_sliceE hr hx e1
    simp [execOp, ho, resolve, hc, h1, h2, invoke, builtin, Builtin.len_, run_underlying ht, h3, goInt]
  · exact ok_lenL hx ho hc h1 h2 ht fr h K hD
theorem gamE_length {κ : Kap} : ∀ (l : List (AV × AV × Nat)) (x : List MapEntry), gamE κ l = some x → x.length = l.length
  | [], x, h => by simp [gamE] at h; simp [← h]
  | (k, v, b) :: l, x, h => by
    simp only [gamE, Option.bind_eq_some_iff, Option.map_eq_some_iff] at h
    obtain ⟨k', h1, v', h2, es, h3, h4⟩ := h
    simp [← h4, gamE_length l es h3]
theorem ok_lenM {x : Operand} {t tk e : TypeId} {dx : Opd} {c : Call} (hx : opd x = some dx) (ho : o.op = .call c) (hc : c.callee = .builtin .len) (h1 : c.args = #[x]) (h2 : c.argTypes = #[t]) (ht : P.underlying t = some (.map tk e)) : ReadOK P (oLenM dx) o := by
  intro fr h K hD
  cases e1 : dx fr <;> simp only [oLenM, vLenM, e1] at hD
  case nilmap =>
    refine ⟨_, hD, fun B w0 κ ρ w sm hr => ⟨.int .i64 0, by simp [gam], ?_⟩⟩
    have h3 := rho_nilmap hr hx e1
    simp [execOp, ho, resolve, hc, h1, h2, invoke, builtin, Builtin.len_, run_underlying ht, h3, goInt]
  case map p =>
    obtain ⟨en, hg, hD⟩ := objAt_iff.1 hD
    split at hD
    · rename_i es clock hob
      rw [forceN_eq] at hD
      refine ⟨_, hD, fun B w0 κ ρ w sm hr => ⟨.int .i64 es.length, by simp [gam], ?_⟩⟩
      obtain ⟨ki, hk, h3⟩ := rho_map hr hx e1
      obtain ⟨ki', hk', _, _, h4⟩ := sm.obj p en hg
      rw [hk] at hk'; cases hk'
      rw [hob] at h4
      obtain ⟨es', h5, h6⟩ := h4
      have hgo : (getObj ki.blk).run P w = .ok (.map es'.toArray clock) w := by simp [getObj, Sem.run, h5]
      simp [execOp, ho, resolve, hc, h1, h2, invoke, builtin, Builtin.len_, run_underlying ht, h3, goInt, hgo, gamE_length _ _ h6]
    · exact hD.elim

end Go.Am
