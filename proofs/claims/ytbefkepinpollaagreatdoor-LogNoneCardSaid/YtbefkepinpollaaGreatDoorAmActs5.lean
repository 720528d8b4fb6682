/-
  Appends, to their end.
-/
import Derived.Test.YtbefkepinpollaaGreatDoorAmActs4
namespace Go.Am
set_option linter.unusedSimpArgs false
set_option linter.unusedVariables false
open Go Go.RowKit
variable {P : Program} {o : Oper}

/-- What the model does at an append: in place where there is room, else in a new block. -/
structure MRun (P : Program) (o : Oper) (ρ : Operand → Value) (w : World) (e : TypeId) (esz : Nat) (base : Option Addr) (len cap m : Nat) (NEW : List Value) : Prop where
  room : len + m ≤ cap → ∀ w', (∀ a, base = some a → (storeCells (a.add (len * esz)) NEW).run P w = .ok () w') → (base = none → w' = w) → (execOp ρ o).run P w = .ok (.value (.slice base (len + m) cap)) w'
  grow : cap < len + m → ∀ OLD : List Value, (Builtin.firstCells esz len (.slice base len cap)).run P w.drew = .ok OLD.toArray w.drew →
    ∃ (g : Nat) (REST : Array Value), len + m ≤ g ∧ REST.size = (g - (len + m)) * esz ∧ (execOp ρ o).run P w = .ok (.value (.slice (some ⟨w.heap.size, 0, none⟩) (len + m) g)) (w.drew.alloc (.cells (OLD.toArray ++ NEW.toArray ++ REST) e))

theorem listOf (f : Nat → Option AV) : ∀ N, (∀ j, j < N → ∃ v, f j = some v) → ∃ l : List AV, l.length = N ∧ ∀ j, j < N → ∃ v, l[j]? = some v ∧ f j = some v
  | 0, _ => ⟨[], rfl, fun j hj => by omega⟩
  | N + 1, h => by
    obtain ⟨l, h1, h2⟩ := listOf f N (fun j hj => h j (by omega))
    obtain ⟨v, hv⟩ := h N (by omega)
    refine ⟨l ++ [v], by simp [h1], fun j hj => ?_⟩
    by_cases hjN : j < N
    · obtain ⟨u, q1, q2⟩ := h2 j hjN
      exact ⟨u, by rw [List.getElem?_append_left (by omega)]; exact q1, q2⟩
    · have : j = N := by omega
      subst this
      exact ⟨v, by rw [List.getElem?_append_right (by omega), h1]; simp, hv⟩

theorem fin_iff {esz n : Nat} {h : Hp} {ob : AObj} {K : AV → Hp → Prop} (hD : finK esz n h ob K) : K (.slice h.next 0 n false 0) ⟨E1.updP (some ⟨true, esz, ob⟩) (npos h.next) h.objs, h.next + 1⟩ := by
  unfold finK at hD
  rwa [newK_eq] at hD

/-- The new block that a growing append makes. -/
theorem grow_new {B : Nat} {w0 : W0} {w : World} {κ : Kap} {h : Hp} (s : Sim B w0 κ h w) {esz len m g : Nat} {l new : List AV} {OLD NEW : List Value} {REST : Array Value} {e : TypeId} {ob : AObj} (hro : rowLike ob)
    (hl : l.length = len * esz) (hn : new.length = m * esz) (hsz : sizeOfObj ob = (l ++ new).length) (hc : ∀ j, cellAt ob j = (l ++ new)[j]?) (hold : gams κ l = some OLD) (hold1 : OLD.all Value.oneCell' = true) (hnew : gams κ new = some NEW) (hnew1 : NEW.all Value.oneCell' = true)
    (hg : len + m ≤ g) (hr : REST.size = (g - (len + m)) * esz) :
    Sim B w0 (κ.set h.next ⟨w.heap.size, 0, g⟩) ⟨E1.updP (some ⟨true, esz, ob⟩) (npos h.next) h.objs, h.next + 1⟩ (w.drew.alloc (.cells (OLD.toArray ++ NEW.toArray ++ REST) e)) ∧
      gam (κ.set h.next ⟨w.heap.size, 0, g⟩) (.slice h.next 0 (len + m) false 0) = some (.slice (some ⟨w.heap.size, 0, none⟩) (len + m) g) := by
  refine ⟨s.drew.new esz g ob _ ?_, by simp [gam, Kap.set_self, Ki.at, hg]⟩
  rw [objSim_row hro]
  have hsum : g * esz = (OLD.toArray ++ NEW.toArray ++ REST).size := by
    have h1 := gams_length _ _ hold
    have h2 := gams_length _ _ hnew
    simp only [Array.size_append, List.size_toArray, h1, h2, hl, hn, hr]
    rw [← Nat.add_mul, ← Nat.add_mul]
    congr 1; omega
  exact rowSim_new (C := OLD.toArray ++ NEW.toArray) hsz hc (by simpa using gams_append _ _ _ _ hold hnew) (by simp only [Array.toList_append, List.all_append, Bool.and_eq_true]; exact ⟨hold1, hnew1⟩) REST e esz g w.heap.size (Nat.le_of_eq hsum)

theorem join_ok {h : Hp} {p off len m : Nat} {kn : Bool} {cap esz bytes : Nat} {grow over : AObj → (AObj → Prop) → Prop} {K : AV → Hp → Prop} {new : List AV} (hD : joinK h p off len m kn cap esz bytes grow over K) (hnl : new.length = m * esz) (hm : 0 < m) (hesz : 0 < esz)
    (hgrow : ∀ ob k, grow ob k → ∃ ob', k ob' ∧ rowLike ob ∧ rowLike ob' ∧ off + len * esz ≤ sizeOfObj ob ∧ sizeOfObj ob' = len * esz + new.length ∧ ∀ j, cellAt ob' j = if j < len * esz then cellAt ob (off + j) else new[j - len * esz]?)
    (hover : ∀ ob k, over ob k → ∃ ob', k ob' ∧ rowLike ob ∧ rowLike ob' ∧ sizeOfObj ob' = sizeOfObj ob ∧ (new = [] ∨ off + len * esz + new.length ≤ sizeOfObj ob) ∧ ∀ j, cellAt ob' j = if off + len * esz ≤ j ∧ j < off + len * esz + new.length then new[j - (off + len * esz)]? else cellAt ob j) :
    ((len + m) * bytes ≤ 140737488355328) ∧ ∃ av h', K av h' ∧ ∀ B w0 κ ρ w ki rcap NEW (e : TypeId), Sim B w0 κ h w → κ p = some ki → (kn = true → len ≤ cap ∧ rcap = cap) → (kn = false → len + cap ≤ ki.cap ∧ rcap = ki.cap - cap) →
      gams κ new = some NEW → NEW.all Value.oneCell' = true → MRun P o ρ w e esz (some (ki.at off)) len rcap m NEW →
      ∃ κ' v w', κ.le κ' ∧ Sim B w0 κ' h' w' ∧ gam κ' av = some v ∧ (execOp ρ o).run P w = .ok (.value v) w' := by
  obtain ⟨hby, hD⟩ := gd_iff.1 hD
  obtain ⟨e, he, hD⟩ := objAt_iff.1 hD
  obtain ⟨hee, hD⟩ := gd_iff.1 hD
  have hee' : e.esz = esz := by simpa using hee
  refine ⟨by simpa using hby, ?_⟩
  -- the old cells, wherever they lie
  have olds : ∀ {B w0 κ w ki}, Sim B w0 κ h w → κ p = some ki → rowLike e.obj → off + len * esz ≤ sizeOfObj e.obj → ∃ l OLD, l.length = len * esz ∧ gams κ l = some OLD ∧ OLD.all Value.oneCell' = true ∧
      (∀ j, j < len * esz → ∃ v, l[j]? = some v ∧ cellAt e.obj (off + j) = some v) ∧ ∀ rcap, (Builtin.firstCells esz len (.slice (some (ki.at off)) len rcap)).run P w.drew = .ok OLD.toArray w.drew := by
    intro B w0 κ w ki s hk hr hb
    obtain ⟨ki', q1, c, t, fr, q2, q3, q4, q5, q6⟩ := s.row he hr
    rw [hk] at q1; cases q1
    obtain ⟨l, h1, h2⟩ := listOf (fun j => cellAt e.obj (off + j)) (len * esz) (fun j hj => q5 (off + j) (by omega))
    obtain ⟨OLD, f1, f2, f3⟩ := s.cells he hk l off (fun j hj => h2 j (by omega))
    refine ⟨l, OLD, h1, f1, f2, h2, fun rcap => ?_⟩
    exact run_firstCells_some w.drew esz len (ki.at off) len rcap OLD (by rw [gams_length _ _ f1, h1]) (fun j v hv => by rw [at_add]; exact f3 j v hv)
  have both : ∀ {l : List AV} {ob' : AObj}, l.length = len * esz → (∀ j, j < len * esz → ∃ v, l[j]? = some v ∧ cellAt e.obj (off + j) = some v) → (∀ j, cellAt ob' j = if j < len * esz then cellAt e.obj (off + j) else new[j - len * esz]?) → ∀ j, cellAt ob' j = (l ++ new)[j]? := by
    intro l ob' h1 h2 h3 j
    rw [h3, List.getElem?_append, h1]
    split
    · rename_i hj
      obtain ⟨v, q1, q2⟩ := h2 j hj
      rw [q1, q2]
    · rfl
  cases kn with
  | false =>
    obtain ⟨hb, hD⟩ := gd_iff.1 (show gd (e.own && Nat.ble off (cap * esz)) _ from hD)
    simp only [Bool.and_eq_true, Nat.ble_eq] at hb
    obtain ⟨ob', hD, r1, r2, r3, r4, r5⟩ := hgrow _ _ hD
    rw [putK_eq, forceN_eq] at hD
    have hD := fin_iff hD
    refine ⟨_, _, hD, fun B w0 κ ρ w ki rcap NEW ety s hk _ hcap hg h1 M => ?_⟩
    obtain ⟨hc1, rfl⟩ := hcap rfl
    obtain ⟨l, OLD, l1, l2, l3, l4, l5⟩ := olds s hk r1 r3
    by_cases hroom : len + m ≤ ki.cap - cap
    · -- in place
      obtain ⟨ki', q1, c, t, fr, q2, q3, q4, q5, q6⟩ := s.row he r1
      rw [hk] at q1; cases q1
      rw [hee'] at q3 q4
      have hNl := gams_length _ _ hg
      have hbound : off + len * esz + m * esz ≤ ki.cap * esz := by
        have e1 : len * esz + m * esz ≤ (ki.cap - cap) * esz := by rw [← Nat.add_mul]; exact Nat.mul_le_mul_right _ hroom
        have e2 : (ki.cap - cap) * esz + cap * esz = ki.cap * esz := by rw [← Nat.add_mul]; congr 1; omega
        omega
      have hB : B ≤ ki.blk := by
        obtain ⟨ki', q1, q2, _, _⟩ := s.obj p e he
        rw [hk] at q1; cases q1; exact q2 hb.1
      have hst := run_storeCells_cells (P := P) ki.blk (ki.base + off + len * esz) NEW 0 w (fun j hj => by
          have : ki.base + off + len * esz + j < c.size := by omega
          simp [World.cell?, q2, this])
        (fun j hj => by
          have : ki.base + off + len * esz + j < c.size := by omega
          simp only [World.frozen?, q2, Nat.add_zero]
          simp only [Bool.and_eq_false_iff, decide_eq_false_iff_not]
          omega) (List.all_eq_true.1 h1)
      have hrun := M.room hroom (w.setCells ki.blk (ki.base + off + len * esz) NEW) (fun a ha => by
        cases ha
        rw [at_add]
        have e5 : ki.at (off + len * esz) = ⟨ki.blk, ki.base + off + len * esz, none⟩ := by simp [Ki.at, Nat.add_assoc]
        rw [e5]; simpa using hst) (fun hno => by cases hno)
      refine ⟨κ.set h.next ⟨ki.blk, ki.base + off, ki.cap - cap⟩, _, _, Kap.le_set s.none_next,
        s.renew he hk hb.1 (setCells_below hB _ _ _) (setCells_size _ _ _ _) (fun b hbb => setCells_other _ _ hbb _ _ _) ⟨ki.blk, ki.base + off, ki.cap - cap⟩ rfl esz ob' ?_, ?_, hrun⟩
      · rw [objSim_row r2, setCells_block _ _ _ _ _ _ _ q2]
        have hroomc : ki.base + off + len * esz + NEW.length ≤ c.size := by omega
        refine ⟨_, t, fr, rfl, ?_, by rw [arrSet_size]; exact q4, fun j hj => ?_, fun j v hv => ?_⟩
        · rw [arrSet_size]
          show ki.base + off + (ki.cap - cap) * esz ≤ c.size
          have e2 : (ki.cap - cap) * esz + cap * esz = ki.cap * esz := by rw [← Nat.add_mul]; congr 1; omega
          omega
        · rw [both l1 l4 r5]
          exact ⟨_, List.getElem?_eq_getElem (by simp [l1]; omega)⟩
        · show ∃ v', gam κ v = some v' ∧ v'.oneCell' = true ∧ (arrSet c (ki.base + off + len * esz) NEW)[ki.base + off + j]? = some v'
          rw [arrSet_get _ _ _ _ hroomc]
          rw [r5] at hv
          split at hv
          · rename_i hj
            obtain ⟨V, g1, g2, g3⟩ := q6 _ v hv
            exact ⟨V, g1, g2, by rw [if_neg (by omega), Nat.add_assoc]; exact g3⟩
          · rename_i hj
            obtain ⟨V, g1, g2⟩ := gams_get _ _ _ _ hg hv
            have hlt := (List.getElem?_eq_some_iff.1 g2).1
            refine ⟨V, g1, (List.all_eq_true.1 h1) V (List.mem_of_getElem? g2), ?_⟩
            rw [if_pos (by omega), show ki.base + off + j - (ki.base + off + len * esz) = j - len * esz by omega]
            exact g2
      · simp [gam, Kap.set_self, Ki.at, hroom]
    · -- in a new block
      obtain ⟨g, REST, g1, g2, hrun⟩ := M.grow (by omega) OLD (l5 _)
      have hn := grow_new (s.kill p) (e := ety) r2 l1 hnl (by rw [r4]; simp [l1]) (both l1 l4 r5) l2 l3 hg h1 g1 g2
      exact ⟨_, _, _, Kap.le_set s.none_next, hn.1, hn.2, hrun⟩
  | true =>
    have hD' : Bool.rec (motive := fun _ => Prop)
      (grow e.obj fun ob => forceN (len + m) fun n => finK esz n h ob K)
      (gd e.own (over e.obj fun ob => putK h p (some ⟨true, e.esz, ob⟩) fun h => forceN (len + m) fun n => K (.slice p off n true cap) h))
      (Nat.ble (len + m) cap) := hD
    cases hble : Nat.ble (len + m) cap with
    | true =>
      rw [hble] at hD'
      have hroom : len + m ≤ cap := by simpa using hble
      obtain ⟨hown, hD'⟩ := gd_iff.1 hD'
      obtain ⟨ob', hD', r1, r2, r3, r4, r5⟩ := hover _ _ hD'
      rw [putK_eq, forceN_eq] at hD'
      refine ⟨_, _, hD', fun B w0 κ ρ w ki rcap NEW ety s hk hcap _ hg h1 M => ?_⟩
      obtain ⟨_, rfl⟩ := hcap rfl
      obtain ⟨w1, w2⟩ := s.write (P := P) he hk hown hg h1 (off := off + len * esz) r1 r2 r3 r4 r5
      refine ⟨κ, _, _, κ.le_refl, w2, ?_, M.room hroom _ (fun a ha => by cases ha; rw [at_add]; exact w1) (fun hno => by cases hno)⟩
      simp [gam, hk, hroom]
    | false =>
      rw [hble] at hD'
      have hroom : ¬ (len + m ≤ cap) := by intro hc; rw [Nat.ble_eq_true_of_le hc] at hble; cases hble
      obtain ⟨ob', hD', r1, r2, r3, r4, r5⟩ := hgrow _ _ hD'
      rw [forceN_eq] at hD'
      have hD' := fin_iff hD'
      refine ⟨_, _, hD', fun B w0 κ ρ w ki rcap NEW ety s hk hcap _ hg h1 M => ?_⟩
      obtain ⟨_, rfl⟩ := hcap rfl
      obtain ⟨l, OLD, l1, l2, l3, l4, l5⟩ := olds s hk r1 r3
      obtain ⟨g, REST, g1, g2, hrun⟩ := M.grow (by omega) OLD (l5 _)
      have hn := grow_new s (e := ety) r2 l1 hnl (by rw [r4]; simp [l1]) (both l1 l4 r5) l2 l3 hg h1 g1 g2
      exact ⟨_, _, _, Kap.le_set s.none_next, hn.1, hn.2, hrun⟩

end Go.Am
