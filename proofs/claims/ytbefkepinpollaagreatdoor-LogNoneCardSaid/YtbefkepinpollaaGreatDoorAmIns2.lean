/-
  slices.Insert: its contract in the machine holds of the model.
-/
import Derived.Test.YtbefkepinpollaaGreatDoorAmIns
import Derived.Test.YtbefkepinpollaaGreatDoorAmCode
namespace Go.Am
set_option linter.unusedSimpArgs false
set_option linter.unusedVariables false
open Go Go.RowKit Go.Shelf Go.Proofs
variable {P : Program} {ρ : Ren}

theorem Sim.make {B : Nat} {w0 : W0} {w w' : World} {κ : Kap} {h : Hp} (s : Sim B w0 κ h w) (hb : Below B w w') (hsz : w'.heap.size = w.heap.size + 1) (hold : ∀ b, b < w.heap.size → w'.heap[b]? = w.heap[b]?)
    (esz cap : Nat) (ob : AObj) (ho : ObjSim κ ob esz ⟨w.heap.size, 0, cap⟩ w'.heap[w.heap.size]?) :
    Sim B w0 (κ.set h.next ⟨w.heap.size, 0, cap⟩) ⟨E1.updP (some ⟨true, esz, ob⟩) (npos h.next) h.objs, h.next + 1⟩ w' := by
  have hle : κ.le (κ.set h.next ⟨w.heap.size, 0, cap⟩) := Kap.le_set s.none_next
  have lt : ∀ p e ki, h.objs.getP (npos p) = some e → κ p = some ki → ki.blk < w.heap.size := fun p e ki hp hk => by
    obtain ⟨ki', h1, _, _, h4⟩ := s.obj p e hp
    rw [hk] at h1; cases h1
    have := h4.isSome
    obtain ⟨y, hy⟩ := Option.isSome_iff_exists.1 this
    exact (Array.getElem?_eq_some_iff.1 hy).1
  refine ⟨s.below.trans hb, by have := s.size; omega, ?_, ?_, ?_, fun b ob hb => ⟨(s.ghost b ob hb).1, by rw [hold b (s.gh_lt hb)]; exact (s.ghost b ob hb).2⟩, fun p e k hp hkp ho => ?g⟩
  case g =>
    by_cases hpn : p = h.next
    · subst hpn
      rw [Kap.set_self] at hkp; cases hkp
      exact s.gh_size
    · rw [Kap.set_ne _ _ hpn] at hkp
      rw [E1.getP_upd_ne _ _ _ _ (fun e => hpn (npos_inj e).symm)] at hp
      exact s.gap p e k hp hkp ho
  · intro p e hp
    by_cases hpn : p = h.next
    · subst hpn
      simp only [E1.getP_upd_self, Option.some.injEq] at hp
      subst hp
      exact ⟨_, Kap.set_self _ _ _, fun _ => s.size, fun h => by simp at h, ho.mono hle⟩
    · rw [E1.getP_upd_ne _ _ _ _ (fun e => hpn (npos_inj e).symm)] at hp
      obtain ⟨ki, h1, h2, h3, h4⟩ := s.obj p e hp
      refine ⟨ki, hle _ _ h1, h2, h3, ?_⟩
      rw [hold _ (lt p e ki hp h1)]
      exact h4.mono hle
  · intro p q e e' ki ki' hp hq hk hk' ho1 ho2 hne
    by_cases hpn : p = h.next
    · subst hpn
      have hqn : q ≠ h.next := fun e => hne e.symm
      rw [Kap.set_self] at hk; cases hk
      rw [Kap.set_ne _ _ hqn] at hk'
      rw [E1.getP_upd_ne _ _ _ _ (fun e => hqn (npos_inj e).symm)] at hq
      have := lt q e' ki' hq hk'
      simp; omega
    · rw [Kap.set_ne _ _ hpn] at hk
      rw [E1.getP_upd_ne _ _ _ _ (fun e => hpn (npos_inj e).symm)] at hp
      by_cases hqn : q = h.next
      · subst hqn
        rw [Kap.set_self] at hk'; cases hk'
        have := lt p e ki hp hk
        simp; omega
      · rw [Kap.set_ne _ _ hqn] at hk'
        rw [E1.getP_upd_ne _ _ _ _ (fun e => hqn (npos_inj e).symm)] at hq
        exact s.apart p q e e' ki ki' hp hq hk hk' ho1 ho2 hne
  · intro p ki hk
    by_cases hpn : p = h.next
    · subst hpn; simp
    · rw [Kap.set_ne _ _ hpn] at hk
      have := s.fresh p ki hk
      simp; omega

theorem gams_take {κ : Kap} : ∀ (l : List AV) (x : List Value) (a : Nat), gams κ l = some x → gams κ (l.take a) = some (x.take a)
  | [], x, a, h => by simp [gams] at h; subst h; simp [gams]
  | v :: l, x, 0, h => by simp [gams]
  | v :: l, x, a + 1, h => by
    simp only [gams, Option.bind_eq_some_iff, Option.map_eq_some_iff] at h
    obtain ⟨y, h1, ys, h2, rfl⟩ := h
    simp [gams, h1, gams_take l ys a h2]
theorem gams_drop {κ : Kap} : ∀ (l : List AV) (x : List Value) (a : Nat), gams κ l = some x → gams κ (l.drop a) = some (x.drop a)
  | [], x, a, h => by simp [gams] at h; subst h; simp [gams]
  | v :: l, x, 0, h => by simpa using h
  | v :: l, x, a + 1, h => by
    simp only [gams, Option.bind_eq_some_iff, Option.map_eq_some_iff] at h
    obtain ⟨y, h1, ys, h2, rfl⟩ := h
    simpa using gams_drop l ys a h2
theorem ins_get {α : Type} (l m : List α) (a j : Nat) (ha : a ≤ l.length) : (l.take a ++ (m ++ l.drop a))[j]? = if j < a then l[j]? else if j < a + m.length then m[j - a]? else l[j - m.length]? := by
  have h1 : (l.take a).length = a := by simp; omega
  rw [List.getElem?_append, h1]
  by_cases hj : j < a
  · rw [if_pos hj, if_pos hj, List.getElem?_take, if_pos hj]
  · rw [if_neg hj, if_neg hj, List.getElem?_append]
    by_cases hj2 : j < a + m.length
    · rw [if_pos (by omega), if_pos hj2]
    · rw [if_neg (by omega), if_neg hj2, List.getElem?_drop]
      congr 1; omega

/-- The row that holds what a list says. -/
theorem rowSim_of {κ : Kap} {ob : AObj} {l : List AV} {L : List Value} (hro : rowLike ob) (hsz : sizeOfObj ob = l.length) (hc : ∀ j, cellAt ob j = l[j]?) (hg : gams κ l = some L) (h1 : L.all Value.oneCell' = true)
    {esz : Nat} {ki : Ki} {o : Option Obj} {c : Array Value} {t : TypeId} {fr : Nat × Nat} (ho : o = some (.cells c t fr)) (hcap : ki.base + ki.cap * esz ≤ c.size) (hfr : fr.1 = fr.2 ∨ (c.size ≤ fr.1 ∧ esz = 1)) (hcell : ∀ j y, L[j]? = some y → c[ki.base + j]? = some y) :
    ObjSim κ ob esz ki o := by
  rw [objSim_row hro]
  refine ⟨c, t, fr, ho, hcap, hfr, fun j hj => ⟨_, (hc j).trans (List.getElem?_eq_getElem (hsz ▸ hj))⟩, fun j v hv => ?_⟩
  rw [hc] at hv
  obtain ⟨V, g1, g2⟩ := gams_get _ _ _ _ hg hv
  exact ⟨V, g1, (List.all_eq_true.1 h1) V (List.mem_of_getElem? g2), hcell j V g2⟩

theorem asInt_nat {i : AV} {K : Nat → Prop} (h : asInt i fun kd i => gd (kindEq kd .i64) (natOf i K)) : ∃ n : Nat, i = .int .i64 (Int.ofNat n) ∧ K n := by
  obtain ⟨k, a, rfl, h⟩ := asInt_iff.1 h
  obtain ⟨hk, h⟩ := gd_iff.1 h
  cases a with
  | ofNat n => exact ⟨n, by rw [kindEq_iff.1 hk], h⟩
  | negSucc n => exact h.elim

/-- slices.Insert at elements of k cells and bs bytes; of elements of one cell at the end alone. -/
noncomputable def insH (k bs : Nat) : ConD := fun l h K => match l with
  | [s, i, v] => asInt i fun kd i => gd (kindEq kd .i64) (natOf i fun i => asSl v False fun vo voff m _ _ => gd (Nat.blt 0 m) (objAt h vo fun ev => gd (Nat.beq ev.esz k) (cellsK ev.obj (m * k) voff fun new => asSl s
      (gd (Nat.beq i 0 && (Nat.ble (m * bs) 140737488355328 && Nat.ble m 140737488355328)) (rowK false new fun ob => finK k m h ob K))
      fun o off n kn c => gd ((!kn) && (((Nat.ble i n && (Nat.blt 1 k || Nat.beq i n)) && (Nat.blt 0 n && !(Nat.beq vo o))) && (Nat.ble ((n + m) * bs) 140737488355328 && Nat.ble (n + m) 140737488355328))) (objAt h o fun e => gd (e.own && (Nat.beq e.esz k && Nat.ble off (c * k)))
        (cellsK e.obj (n * k) off fun old => putK h o none fun h => forceN (n + m) fun N => rowK false (old.take (i * k) ++ (new ++ old.drop (i * k))) fun ob => finK k N h ob K)))))
  | _ => False

set_option maxHeartbeats 2000000 in
theorem ins_ok {nm : String} {k bs : Nat} {z : Value} (hnm : nm ≠ "runtime.NumGoroutine") (L : InsLay P ρ nm k bs z) (hzc : z.cells.size = k) (hk : 0 < k) (B : Nat) (w0 : W0) : ConOne P B w0 (ρ.f 22) (insH k bs) := by
  intro avs h K hD
  match avs, hD with
  | [s, i, v], hD =>
    refine ⟨⟨_, L.f22, hnm, rfl⟩, fun κ w args sm hargs R hR => ?_⟩
    obtain ⟨i, rfl, hD⟩ := asInt_nat hD
    rcases asSl_iff.1 hD with ⟨_, hD⟩ | ⟨vo, voff, m, vkn, vc, rfl, hD⟩
    · exact hD.elim
    obtain ⟨hm, hD⟩ := gd_iff.1 hD
    have hm' : 0 < m := by simpa using hm
    obtain ⟨ev, hev, hD⟩ := objAt_iff.1 hD
    obtain ⟨hez, hD⟩ := gd_iff.1 hD
    have hez' : ev.esz = k := by simpa using hez
    obtain ⟨new, hD, hnl, hnew⟩ := cellsK_iff _ _ _ _ hD
    -- the arguments
    simp only [gams, Option.bind_eq_some_iff, Option.map_eq_some_iff, gam, Option.some.injEq] at hargs
    obtain ⟨S, hS, _, ⟨I, rfl, _, ⟨V, hV, _, rfl, rfl⟩, rfl⟩, rfl⟩ := hargs
    have hV' : gam κ (.slice vo voff m vkn vc) = some V := by simpa [gam, Option.bind_eq_some_iff] using hV
    obtain ⟨kv, vcap, hkv, rfl, hmv⟩ := gamk _ _ _ _ _ _ _ hV'
    obtain ⟨NEW, f1, f2, f3⟩ := sm.cells hev hkv new voff (fun j hj => hnew j (by omega))
    have hNl : NEW.length = m * k := by rw [gams_length _ _ f1, hnl]
    have f2' := List.all_eq_true.1 f2
    have hmk : 0 < m * k := Nat.mul_pos hm' (by omega)
    have hrv : rowLike ev.obj := by obtain ⟨u, _, hu⟩ := hnew 0 hmk; exact cellAt_row hu
    obtain ⟨kv', q1, cv, tv, frv, q2, q3, q4, q5, q6⟩ := sm.row hev hrv
    rw [hkv] at q1; cases q1
    have hfrv : 1 < k → frv.1 = frv.2 := fun hk1 => by
      rcases q4 with h | ⟨_, h⟩
      · exact h
      · omega
    have hfz0 : 1 < k → ∀ x, w.frozen? ⟨kv.blk, x, none⟩ = false := fun hk1 x => by
      have hfrv := hfrv hk1
      simp only [World.frozen?, q2, Bool.and_eq_false_iff, decide_eq_false_iff_not]
      omega
    have hvs : ∀ j y, NEW[j]? = some y → w.cell? ⟨kv.blk, kv.base + voff + j, none⟩ = some y := fun j y hy => by
      have := f3 j y hy
      simpa [Ki.at, Nat.add_assoc] using this
    have hsV : w.shape? kv.blk = some (tv, cv.size) := by simp [World.shape?, q2]
    have hvat : kv.at voff = ⟨kv.blk, kv.base + voff, none⟩ := rfl
    rcases asSl_iff.1 hD with ⟨rfl, hE⟩ | ⟨o, off, n, kn, c, rfl, hE⟩
    · -- onto nil
      obtain ⟨hb, hE1⟩ := gd_iff.1 hE
      clear hD hE
      simp only [Bool.and_eq_true, Nat.beq_eq, Nat.ble_eq] at hb
      obtain ⟨rfl, hb1, hb2⟩ := hb
      obtain ⟨ob, hE2, r1, r2, r3⟩ := rowK_iff hE1
      have hE3 := fin_iff hE2
      clear hE1 hE2
      simp only [gam, Option.some.injEq] at hS
      subst hS
      have hw := ins_end_grow (by omega) L none 0 0 kv.blk (kv.base + voff) m vcap [] NEW w hm' (Nat.le_refl _) (by omega) (by simpa using hb1) (by omega) (by simp) hNl (fun _ => rfl) (fun a ha => by cases ha) hvs f2'
      have hn := grow_new sm (e := ρ.t 9) (len := 0) (l := []) (m := m) (g := grownCap w (0 + m) 0 (ρ.t 9)) (esz := k) (NEW := NEW) (OLD := []) (REST := Builtin.zeroCells z.cells (grownCap w (0 + m) 0 (ρ.t 9) - (0 + m))) r1 (by simp) hnl (by simpa using r2) (by simpa using r3) rfl rfl f1 f2 (grownCap_ge w _ _ _) (by rw [zeroCells_size, hzc])
      refine Calls.mono hw fun e w' he => ?_
      obtain ⟨rfl, rfl⟩ := he
      rw [Nat.zero_add] at hn ⊢
      refine hR _ _ _ _ _ (Kap.le_set sm.none_next) ?_ hn.2 hE3
      have := hn.1
      simpa using this
    · -- onto a slice
      obtain ⟨hb, hE1⟩ := gd_iff.1 hE
      clear hD hE
      simp only [Bool.and_eq_true, Bool.or_eq_true, Nat.beq_eq, Nat.ble_eq, Bool.not_eq_true', Nat.blt_eq] at hb
      obtain ⟨hkn, ⟨⟨hin, hkin⟩, hn0, hvo⟩, hb1, hb2⟩ := hb
      have hvo : vo ≠ o := by intro e; subst e; simp at hvo
      have hkn' : kn = false := by simpa using hkn
      subst hkn'
      obtain ⟨e, he, hE2⟩ := objAt_iff.1 hE1
      obtain ⟨hb, hE3⟩ := gd_iff.1 hE2
      clear hE1 hE2
      simp only [Bool.and_eq_true, Nat.beq_eq, Nat.ble_eq] at hb
      obtain ⟨hown, hesz, hoff⟩ := hb
      obtain ⟨old, hE4, hol, hold⟩ := cellsK_iff _ _ _ _ hE3
      rw [putK_eq, forceN_eq] at hE4
      obtain ⟨ob, hE5, r1, r2, r3⟩ := rowK_iff hE4
      have hE6 := fin_iff hE5
      clear hE3 hE4 hE5
      simp only [gam, Option.bind_eq_some_iff] at hS
      obtain ⟨ks, hks, hS⟩ := hS
      simp only [Bool.false_eq_true, if_false] at hS
      split at hS
      case isFalse => cases hS
      rename_i hcap
      simp only [Option.some.injEq] at hS
      subst hS
      obtain ⟨ks', p1, p2, _, p4⟩ := sm.obj o e he
      rw [hks] at p1; cases p1
      have hB := p2 hown
      have hro : rowLike e.obj := by
        obtain ⟨u, _, hu⟩ := hold 0 (Nat.mul_pos hn0 (by omega))
        exact cellAt_row hu
      obtain ⟨ks', p1, cA, tA, fA, t2, t3, t4, t5, t6⟩ := sm.row he hro
      rw [hks] at p1; cases p1
      rw [hesz] at t3 t4
      obtain ⟨OLD, g1, g2, g3⟩ := sm.cells he hks old off (fun j hj => hold j (by omega))
      have hOl : OLD.length = n * k := by rw [gams_length _ _ g1, hol]
      have g2' := List.all_eq_true.1 g2
      have hcs : ∀ j y, OLD[j]? = some y → w.cell? ⟨ks.blk, ks.base + off + j, none⟩ = some y := fun j y hy => by
        have := g3 j y hy
        simpa [Ki.at, Nat.add_assoc] using this
      have hcsA : ∀ j y, OLD[j]? = some y → cA[ks.base + off + j]? = some y := fun j y hy => by
        have := hcs j y hy
        simpa [World.cell?, t2] using this
      have hvb : kv.blk ≠ ks.blk := by
        by_cases ho : ev.own = true
        · exact sm.apart vo o ev e kv ks hev he hkv hks ho hown hvo
        · obtain ⟨kv', u1, _, u3, _⟩ := sm.obj vo ev hev
          rw [hkv] at u1; cases u1
          have := (u3 (by simpa using ho)).1
          omega
      -- the new row's cells
      have hik : i * k ≤ n * k := Nat.mul_le_mul_right _ hin
      have hFg : gams κ (old.take (i * k) ++ (new ++ old.drop (i * k))) = some (OLD.take (i * k) ++ (NEW ++ OLD.drop (i * k))) :=
        gams_append _ _ _ _ (gams_take _ _ _ g1) (gams_append _ _ _ _ f1 (gams_drop _ _ _ g1))
      have hF1 : (OLD.take (i * k) ++ (NEW ++ OLD.drop (i * k))).all Value.oneCell' = true := by
        rw [List.all_eq_true]
        intro y hy
        simp only [List.mem_append] at hy
        rcases hy with h | h | h
        · exact g2' y (List.mem_of_mem_take h)
        · exact f2' y h
        · exact g2' y (List.mem_of_mem_drop h)
      have hFget : ∀ j, (OLD.take (i * k) ++ (NEW ++ OLD.drop (i * k)))[j]? = if j < i * k then OLD[j]? else if j < i * k + m * k then NEW[j - i * k]? else OLD[j - m * k]? := fun j => by
        rw [ins_get _ _ _ _ (by omega), hNl]
      have hsum : i * k + m * k = (i + m) * k := by rw [Nat.add_mul]
      have hnm : n * k + m * k = (n + m) * k := by rw [Nat.add_mul]
      have hC : off + (ks.cap - c) * k ≤ ks.cap * k := by
        have e2 : (ks.cap - c) * k + c * k = ks.cap * k := by rw [← Nat.add_mul]; congr 1; omega
        omega
      have hat : ks.at off = ⟨ks.blk, ks.base + off, none⟩ := rfl
      rw [hat, hvat]
      by_cases hroom : n + m ≤ ks.cap - c
      · -- in place
        have hroomk : (n + m) * k ≤ (ks.cap - c) * k := Nat.mul_le_mul_right _ hroom
        have hsp : ∀ j, j < (n + m) * k → (w.cell? ⟨ks.blk, ks.base + off + j, none⟩).isSome = true := fun j hj => by
          have : ks.base + off + j < cA.size := by omega
          simp [World.cell?, t2, this]
        have hfz : ∀ j, j < (n + m) * k → w.frozen? ⟨ks.blk, ks.base + off + j, none⟩ = false := fun j hj => by
          have : ks.base + off + j < cA.size := by omega
          simp only [World.frozen?, t2, Bool.and_eq_false_iff, decide_eq_false_iff_not]
          omega
        have hcapA : ks.base + off + (ks.cap - c) * k ≤ cA.size := by omega
        have fin : ∀ w1 : World, Below B w w1 → w1.heap.size = w.heap.size → (∀ b, b ≠ ks.blk → w1.heap[b]? = w.heap[b]?) → (∃ c', w1.heap[ks.blk]? = some (.cells c' tA fA) ∧ c'.size = cA.size ∧ ∀ j y, (OLD.take (i * k) ++ (NEW ++ OLD.drop (i * k)))[j]? = some y → c'[ks.base + off + j]? = some y) →
            R (.returned (.slice (some ⟨ks.blk, ks.base + off, none⟩) (n + m) (ks.cap - c))) w1 := by
          intro w1 hw1 hw2 hw3 ⟨c', hc1, hc2, hc3⟩
          refine hR (κ.set h.next ⟨ks.blk, ks.base + off, ks.cap - c⟩) _ _ _ _ (Kap.le_set sm.none_next)
            (sm.renew he hks hown hw1 hw2 hw3 ⟨ks.blk, ks.base + off, ks.cap - c⟩ rfl k ob (rowSim_of r1 r2 r3 hFg hF1 hc1 (by rw [hc2]; exact hcapA) (by rw [hc2]; exact t4) hc3)) ?_ hE6
          simp [gam, Kap.set_self, Ki.at, hroom]
        by_cases hi : i = n
        · subst hi
          have hw := ins_end_room (by omega) L ks.blk (ks.base + off) i (ks.cap - c) kv.blk (kv.base + voff) m vcap NEW w hm' hroom (by omega) hNl
            (fun j hj => by have := hsp (i * k + j) (by omega); rwa [← Nat.add_assoc] at this) (fun j hj => by have := hfz (i * k + j) (by omega); rwa [← Nat.add_assoc] at this) hvs f2'
          refine Calls.mono hw fun x w' hx => ?_
          obtain ⟨rfl, rfl⟩ := hx
          refine fin _ (setCells_below hB _ _ _) (setCells_size _ _ _ _) (fun b hbb => setCells_other _ _ hbb _ _ _) ⟨_, setCells_block _ _ _ _ _ _ _ t2, arrSet_size _ _ _, fun j y hy => ?_⟩
          rw [hFget] at hy
          rw [arrSet_get _ _ _ _ (by omega)]
          by_cases h1 : j < i * k
          · rw [if_pos h1] at hy
            rw [if_neg (by omega)]
            exact hcsA j y hy
          · rw [if_neg h1] at hy
            by_cases h2 : j < i * k + m * k
            · rw [if_pos h2] at hy
              rw [if_pos (by omega), show ks.base + off + j - (ks.base + off + i * k) = j - i * k by omega]
              exact hy
            · rw [if_neg h2] at hy
              have := (List.getElem?_eq_some_iff.1 hy).1
              omega
        · have hlt : i < n := by omega
          have hk1 : 1 < k := by rcases hkin with h | h <;> omega
          have hw := ins_shift (by omega) L ks.blk (ks.base + off) n (ks.cap - c) i kv.blk (kv.base + voff) m vcap OLD NEW w hlt hm' hroom (by omega) hvb hOl hNl hcs hsp hfz hvs g2' f2' tv tA cv.size cA.size hsV (by simp [World.shape?, t2]) (by have := Nat.mul_pos hn0 (show 0 < k by omega); omega) (hfz0 hk1 _) (hfz0 hk1 _)
          refine Calls.mono hw fun x w' hx => ?_
          obtain ⟨rfl, rfl⟩ := hx
          have hdl : (OLD.drop (i * k)).length = n * k - i * k := by rw [List.length_drop, hOl]
          refine fin _ (((Below.refl B w).drew.trans (setCells_below hB _ _ _)).trans (setCells_below hB _ _ _)) (by rw [setCells_size, setCells_size]; rfl) (fun b hbb => by rw [setCells_other _ _ hbb, setCells_other _ _ hbb]; rfl)
            ⟨_, setCells_block _ _ _ _ _ _ _ (setCells_block _ _ _ _ _ _ _ (show w.drew.heap[ks.blk]? = _ from t2)), by rw [arrSet_size, arrSet_size], fun j y hy => ?_⟩
          rw [hFget] at hy
          rw [arrSet_get _ _ _ _ (by rw [arrSet_size]; omega), arrSet_get _ _ _ _ (by omega), hdl, hNl]
          by_cases h1 : j < i * k
          · rw [if_pos h1] at hy
            rw [if_neg (by omega), if_neg (by omega)]
            exact hcsA j y hy
          · rw [if_neg h1] at hy
            by_cases h2 : j < i * k + m * k
            · rw [if_pos h2] at hy
              rw [if_pos (by omega), show ks.base + off + j - (ks.base + off + i * k) = j - i * k by omega]
              exact hy
            · rw [if_neg h2] at hy
              have := (List.getElem?_eq_some_iff.1 hy).1
              rw [if_neg (by omega), if_pos (by omega), List.getElem?_drop, show i * k + (ks.base + off + j - (ks.base + off + (i + m) * k)) = j - m * k by omega]
              exact hy
      · -- in a new block
        by_cases hi : i = n
        · subst hi
          have hw := ins_end_grow (by omega) L (some ⟨ks.blk, ks.base + off, none⟩) i (ks.cap - c) kv.blk (kv.base + voff) m vcap OLD NEW w hm' (by omega) (by omega) hb1 (by omega) hOl hNl (fun e => by cases e) (fun a ha j y hy => by cases ha; rw [Addr.add_lit]; exact hcs j y hy) hvs f2'
          have ht : old.take (i * k) = old := List.take_of_length_le (by omega)
          have hdr : old.drop (i * k) = [] := List.drop_of_length_le (by omega)
          rw [ht, hdr, List.append_nil] at r2 r3
          have hn := grow_new (sm.kill o) (e := ρ.t 9) (len := i) (l := old) (m := m) (g := grownCap w (i + m) (ks.cap - c) (ρ.t 9)) (esz := k) (NEW := NEW) (OLD := OLD) (REST := Builtin.zeroCells z.cells (grownCap w (i + m) (ks.cap - c) (ρ.t 9) - (i + m))) r1 hol hnl r2 r3 g1 g2 f1 f2 (grownCap_ge w _ _ _) (by rw [zeroCells_size, hzc])
          refine Calls.mono hw fun x w' hx => ?_
          obtain ⟨rfl, rfl⟩ := hx
          refine hR _ _ _ _ _ (Kap.le_set sm.none_next) ?_ hn.2 hE6
          have := hn.1
          simpa using this
        · have hlt : i < n := by omega
          have hk1 : 1 < k := by rcases hkin with h | h <;> omega
          have hw := ins_grow (by omega) L hzc ks.blk (ks.base + off) n (ks.cap - c) i kv.blk (kv.base + voff) m vcap OLD NEW w hlt hm' (by omega) (by omega) hb1 (by omega) hOl hNl hcs hvs g2' f2'
          refine Calls.mono hw fun x w' hx => ?_
          obtain ⟨rfl, rfl⟩ := hx
          have hgc := grownCap_ge w (n + m) (ks.cap - c) (ρ.t 9)
          generalize grownCap w (n + m) (ks.cap - c) (ρ.t 9) = G at hgc ⊢
          have hdl : (OLD.drop (i * k)).length = n * k - i * k := by rw [List.length_drop, hOl]
          have htl : (OLD.take (i * k)).length = i * k := by rw [List.length_take, hOl]; omega
          obtain ⟨ROW, hROW⟩ : ∃ ROW : Array Value, ROW = (OLD.take (i * k)).toArray ++ Builtin.zeroCells z.cells (n + m - i) ++ Builtin.zeroCells z.cells (G - (n + m)) := ⟨_, rfl⟩
          rw [← hROW]
          have hRs : ROW.size = G * k := by
            rw [hROW]
            simp only [Array.size_append, List.size_toArray, htl, zeroCells_size, hzc]
            rw [← Nat.add_mul, ← Nat.add_mul]
            congr 1; omega
          have hGk : (n + m) * k ≤ G * k := Nat.mul_le_mul_right _ hgc
          have hRget : ∀ j, j < i * k → ROW[j]? = OLD[j]? := fun j hj => by
            rw [hROW, Array.getElem?_append_left (by simp [htl]; omega), Array.getElem?_append_left (by simp [htl]; omega)]
            simp [List.getElem?_take, hj]
          have hnew : ((w.alloc (.cells ROW (ρ.t 9))).drew).heap[w.heap.size]? = some (.cells ROW (ρ.t 9) (0, 0)) := heap_alloc_new _ _
          have hb2' := setCells_block w.heap.size (OLD.drop (i * k)) ((i + m) * k) _ _ _ _ (show (((w.alloc (.cells ROW (ρ.t 9))).drew.setCells w.heap.size (i * k) NEW).drew).heap[w.heap.size]? = _ from setCells_block w.heap.size NEW (i * k) _ _ _ _ hnew)
          refine hR _ _ _ _ _ (Kap.le_set sm.none_next) ((sm.kill o).make (w' := _) ?_ ?_ ?_ k G ob ?_) ?_ hE6
          · exact ((((Below.refl B w).alloc sm.size _).drew.trans (setCells_below sm.size _ _ _)).drew).trans (setCells_below sm.size _ _ _)
          · rw [setCells_size]
            show ((w.alloc (.cells ROW (ρ.t 9))).drew.setCells w.heap.size (i * k) NEW).heap.size = _
            rw [setCells_size]
            show (w.heap.push _).size = _
            simp
          · intro b hb
            rw [setCells_other _ _ (by omega)]
            show ((w.alloc (.cells ROW (ρ.t 9))).drew.setCells w.heap.size (i * k) NEW).heap[b]? = _
            rw [setCells_other _ _ (by omega)]
            exact heap_alloc_old w _ hb
          · refine rowSim_of r1 r2 r3 hFg hF1 hb2' (by rw [arrSet_size, arrSet_size, hRs]; show 0 + G * k ≤ G * k; omega) (Or.inl rfl) fun j y hy => ?_
            show (arrSet (arrSet ROW (i * k) NEW) ((i + m) * k) (OLD.drop (i * k)))[0 + j]? = _
            rw [hFget] at hy
            rw [Nat.zero_add, arrSet_get _ _ _ _ (by rw [arrSet_size]; omega), arrSet_get _ _ _ _ (by omega), hdl, hNl]
            by_cases h1 : j < i * k
            · rw [if_pos h1] at hy
              rw [if_neg (by omega), if_neg (by omega), hRget j h1]
              exact hy
            · rw [if_neg h1] at hy
              by_cases h2 : j < i * k + m * k
              · rw [if_pos h2] at hy
                rw [if_neg (by omega), if_pos (by omega)]
                exact hy
              · rw [if_neg h2] at hy
                have := (List.getElem?_eq_some_iff.1 hy).1
                rw [if_pos (by omega), List.getElem?_drop, show i * k + (j - (i + m) * k) = j - m * k by omega]
                exact hy
          · simp [gam, Kap.set_self, Ki.at, hgc]
  | [], hD => exact hD.elim
  | [_], hD => exact hD.elim
  | [_, _], hD => exact hD.elim
  | _ :: _ :: _ :: _ :: _, hD => exact hD.elim

end Go.Am
