/-
  Parts of an abstract machine that is sound over the model: AmIn AmLaw AmRow AmMake2 AmAt AmOwn2 AmStep2 AmStr AmAtB AmAtU. No condition.
-/
import Derived.Test.YtnhamanffojhfaaDoorG2
import Derived.ChangeArms
import Derived.WalkKit
import Derived.ProofKit
import Derived.Handed
import Derived.WideKeyArgs
import Derived.OpenShut
import Derived.RowKit
import Derived.Shelf.Strings.OnBuilder
import Derived.Shelf.Pu.Clone
namespace Go.Am
set_option linter.unusedSimpArgs false
set_option linter.unusedVariables false
open Go Go.RowKit
variable {P : Program} {H : Type} {enc : TypeId × Value → H}

def roEsz : Nat := 4294967296
/-! ### the types that are read -/
def tilesB (P : Program) (R : TypeId → Bool) : Nat → List Field → Bool
  | _, [] => true
  | off, f :: fs => Nat.beq f.offset off && (R f.type && tilesB P R (off + P.cellsOf f.type) fs)
def sizesF (P : Program) : List Field → Nat
  | [] => 0
  | f :: fs => P.cellsOf f.type + sizesF P fs
def plainT (P : Program) : Nat → TypeId → Bool
  | 0, _ => false
  | n + 1, t => match P.underlying t with
    | some .bool => true
    | some (.int _) => true
    | some .string => true
    | some (.slice e) => plainT P n e && (Nat.blt 0 (P.cellsOf e) && Nat.blt (P.cellsOf e) 4294967296)
    | some (.struct fs) => tilesB P (plainT P n) 0 fs.toList && Nat.beq (sizesF P fs.toList) (P.cellsOf t)
    | _ => false

/-! ### what is read -/
def RdF (P : Program) (R : TypeId → List AV → DataW H → Prop) : List Field → List (List AV) → List (DataW H) → Prop
  | [], [], [] => True
  | f :: fs, c :: cl, d :: dl => c.length = P.cellsOf f.type ∧ R f.type c d ∧ RdF P R fs cl dl
  | _, _, _ => False
def RdT (P : Program) (h : Hp) : Nat → TypeId → List AV → DataW H → Prop
  | 0, _, _, _ => False
  | n + 1, t, avs, d => match P.underlying t with
    | some .bool => ∃ b, avs = [.bool b] ∧ d = .lit (.bool b)
    | some (.int k) => ∃ z, avs = [.int k z] ∧ d = .lit (.int k z) ∧ (Lit.int k z).wf = true
    | some .string => ∃ l, avs = [S l] ∧ d = .lit (.string l) ∧ l.length ≤ reachBytes
    | some (.slice e) => (avs = [.nilslice] ∧ d = .nil) ∨ (∃ o, avs = [.sliceZ o] ∧ d = .slice [] []) ∨
        ∃ o c ob ds sp, avs = [.slice o 0 ds.length true c] ∧ d = .slice ds sp ∧ ds.length ≤ c ∧ (ds.length + sp.length) * P.bytesOf e ≤ reachBytes ∧ o < h.next ∧ h.at o = some ⟨false, roEsz, ob⟩ ∧
          (P.underlying e = some (.int .u8) → ∃ z, ob = .byts ds.length z) ∧ ∀ j (hj : j < ds.length), ∃ cj, cellsO ob (P.cellsOf e) (j * P.cellsOf e) = some cj ∧ cj.length = P.cellsOf e ∧ RdT P h n e cj ds[j]
    | some (.struct fs) => ∃ dl cl, d = .agg dl ∧ avs = cl.flatten ∧ RdF P (RdT P h n) fs.toList cl dl
    | _ => False
theorem RdF.mono {R R' : TypeId → List AV → DataW H → Prop} (hR : ∀ t a d, R t a d → R' t a d) : ∀ (fs : List Field) (cl : List (List AV)) (dl : List (DataW H)), RdF P R fs cl dl → RdF P R' fs cl dl
  | [], [], [], _ => trivial
  | f :: fs, c :: cl, d :: dl, h => ⟨h.1, hR _ _ _ h.2.1, RdF.mono hR fs cl dl h.2.2⟩
  | [], _ :: _, _, h => h.elim
  | [], [], _ :: _, h => h.elim
  | _ :: _, [], _, h => h.elim
  | _ :: _, _ :: _, [], h => h.elim
theorem RdT.mono {h h' : Hp} (hx : Ext h h') : ∀ (n : Nat) (t : TypeId) (a : List AV) (d : DataW H), RdT P h n t a d → RdT P h' n t a d
  | 0, _, _, _, q => q.elim
  | n + 1, t, a, d, q => by
    unfold RdT at q ⊢
    split
    · rename_i e; simp only [e] at q; exact q
    · rename_i e; simp only [e] at q; exact q
    · rename_i e; simp only [e] at q; exact q
    · rename_i e
      simp only [e] at q
      rcases q with q | q | ⟨o, c, ob, ds, sp, q1, q2, q3, q4, q5, q6, q7, q8⟩
      · exact .inl q
      · exact .inr (.inl q)
      · refine .inr (.inr ⟨o, c, ob, ds, sp, q1, q2, q3, q4, Nat.lt_of_lt_of_le q5 hx.next, by rw [hx.same o q5, q6], q7, fun j hj => ?_⟩)
        obtain ⟨cj, r1, r2, r3⟩ := q8 j hj
        exact ⟨cj, r1, r2, RdT.mono hx n _ _ _ r3⟩
    · rename_i e
      simp only [e] at q
      obtain ⟨dl, cl, q1, q2, q3⟩ := q
      exact ⟨dl, cl, q1, q2, RdF.mono (fun t a d => RdT.mono hx n t a d) _ _ _ q3⟩
    · rename_i e1 e2 e3 e4 e5
      split at q
      · rename_i e; exact absurd e e1
      · rename_i e; exact absurd e (e2 _)
      · rename_i e; exact absurd e e3
      · rename_i e; exact absurd e (e4 _)
      · rename_i e; exact absurd e (e5 _)
      · exact q

/-! ### how it comes there -/
/-- A row of the arguments'. -/
theorem Sim.arg {W : World} {κ : Kap} {h : Hp} (s : Sim W.heap.size (W0.of W) κ h W) {ob : AObj} {ki : Ki} (hk : ki.blk < W.heap.size) (ho : ObjSim (κ.set h.next ki) ob roEsz ki W.heap[ki.blk]?) :
    Sim W.heap.size (W0.of W) (κ.set h.next ki) (h.new ⟨false, roEsz, ob⟩) W := by
  have hle : κ.le (κ.set h.next ki) := Kap.le_set s.none_next
  have old : ∀ p e', p ≠ h.next → (h.new ⟨false, roEsz, ob⟩).at p = some e' → h.at p = some e' := fun p e' hp hq => by rw [Hp.at_new, if_neg hp] at hq; exact hq
  refine ⟨s.below, s.size, fun p e hp => ?_, fun p q e1 e2 c1 c2 hp hq h1 h2 o1 o2 hne => ?_, fun p k hp => ?_, s.ghost, fun p e k hp hq ho => ?_⟩
  · by_cases hpn : p = h.next
    · subst hpn
      have : (h.new ⟨false, roEsz, ob⟩).at h.next = some e := hp
      rw [Hp.at_new, if_pos rfl] at this
      cases this
      exact ⟨ki, Kap.set_self _ _ _, fun q => (by cases q), fun _ => ⟨hk, fun q => (by cases q)⟩, ho⟩
    · obtain ⟨k, h1, h2, h3, h4⟩ := s.obj p e (old p e hpn hp)
      exact ⟨k, hle _ _ h1, h2, h3, h4.mono hle⟩
  · have nw : ∀ p e, (h.new ⟨false, roEsz, ob⟩).at p = some e → e.own = true → p ≠ h.next := fun p e hp ho hpn => by
      subst hpn
      rw [Hp.at_new, if_pos rfl] at hp
      cases hp; cases ho
    have hpn := nw p e1 hp o1
    have hqn := nw q e2 hq o2
    rw [Kap.set_ne _ _ hpn] at h1
    rw [Kap.set_ne _ _ hqn] at h2
    exact s.apart p q e1 e2 c1 c2 (old p e1 hpn hp) (old q e2 hqn hq) h1 h2 o1 o2 hne
  · by_cases hpn : p = h.next
    · subst hpn; show _ < h.next + 1; omega
    · rw [Kap.set_ne _ _ hpn] at hp
      have := s.fresh p k hp
      show p < h.next + 1; omega
  · rfl
/-- A place without an object. -/
theorem Sim.spare {B : Nat} {w0 : W0} {W : World} {κ : Kap} {h : Hp} (s : Sim B w0 κ h W) (ki : Ki) : Sim B w0 (κ.set h.next ki) ⟨h.objs, h.next + 1⟩ W := by
  have hle : κ.le (κ.set h.next ki) := Kap.le_set s.none_next
  have ne : ∀ p e, h.objs.getP (npos p) = some e → p ≠ h.next := fun p e hp q => by
    obtain ⟨k, h1, _⟩ := s.obj p e hp
    have := s.fresh p k h1
    omega
  refine ⟨s.below, s.size, fun p e hp => ?_, fun p q e1 e2 c1 c2 hp hq h1 h2 o1 o2 hn => ?_, fun p k hp => ?_, s.ghost, fun p e k hp hq ho => ?_⟩
  · obtain ⟨k, h1, h2, h3, h4⟩ := s.obj p e hp
    exact ⟨k, hle _ _ h1, h2, h3, h4.mono hle⟩
  · rw [Kap.set_ne _ _ (ne p e1 hp)] at h1
    rw [Kap.set_ne _ _ (ne q e2 hq)] at h2
    exact s.apart p q e1 e2 c1 c2 hp hq h1 h2 o1 o2 hn
  · by_cases hpn : p = h.next
    · subst hpn; show _ < h.next + 1; omega
    · rw [Kap.set_ne _ _ hpn] at hp
      have := s.fresh p k hp
      show p < h.next + 1; omega
  · rw [Kap.set_ne _ _ (ne p e hp)] at hq
    exact s.gap p e k hp hq ho
theorem Ext.spare (h : Hp) : Ext h ⟨h.objs, h.next + 1⟩ := ⟨Nat.le_succ _, fun _ _ => rfl⟩

/-- One thing that was read. -/
structure Itm (H : Type) where
  t : TypeId
  cs : List Value
  d : DataW H
  ps : List MemPlace
  fuel : Nat
def Itm.ok (enc : TypeId × Value → H) (P : Program) (W : World) (n : Nat) (x : Itm H) : Prop :=
  plainT P n x.t = true ∧ DataW.trod enc P W 0 (fun _ => true) true x.fuel x.t x.cs = some (x.d, x.ps) ∧ (DataW.weights P x.t x.d).all (· ≤ reachBytes) = true ∧ W.noneFrozen x.ps
/-- .. as values. -/
def InAs (P : Program) (W : World) (n : Nat) (κ : Kap) (h : Hp) (x : Itm H) (a : List AV) : Prop := gams κ a = some x.cs ∧ (∀ v ∈ x.cs, v.oneCell' = true) ∧ RdT P h n x.t a x.d
def InOne (enc : TypeId × Value → H) (P : Program) (W : World) (n : Nat) : Prop :=
  ∀ (x : Itm H), x.ok enc P W n → ∀ h κ, Sim W.heap.size (W0.of W) κ h W → ∃ h' κ' a, Sim W.heap.size (W0.of W) κ' h' W ∧ κ.le κ' ∧ Ext h h' ∧ InAs P W n κ' h' x a
def InL (P : Program) (W : World) (n : Nat) (κ : Kap) (h : Hp) : List (Itm H) → List (List AV) → Prop
  | [], [] => True
  | x :: l, a :: L => InAs P W n κ h x a ∧ InL P W n κ h l L
  | _, _ => False
theorem InAs.mono {W : World} {n : Nat} {κ κ' : Kap} {h h' : Hp} (hk : κ.le κ') (hx : Ext h h') {x : Itm H} {a : List AV} (q : InAs P W n κ h x a) : InAs P W n κ' h' x a :=
  ⟨gams_mono hk _ _ q.1, q.2.1, RdT.mono hx _ _ _ _ q.2.2⟩
theorem InL.mono {W : World} {n : Nat} {κ κ' : Kap} {h h' : Hp} (hk : κ.le κ') (hx : Ext h h') : ∀ (l : List (Itm H)) (L : List (List AV)), InL P W n κ h l L → InL P W n κ' h' l L
  | [], [], _ => trivial
  | x :: l, a :: L, q => ⟨q.1.mono hk hx, InL.mono hk hx l L q.2⟩
  | [], _ :: _, q => q.elim
  | _ :: _, [], q => q.elim
theorem InL.length {W : World} {n : Nat} {κ : Kap} {h : Hp} : ∀ (l : List (Itm H)) (L : List (List AV)), InL P W n κ h l L → L.length = l.length
  | [], [], _ => rfl
  | x :: l, a :: L, q => by simp [InL.length l L q.2]
  | [], _ :: _, q => q.elim
  | _ :: _, [], q => q.elim
theorem InL.at {W : World} {n : Nat} {κ : Kap} {h : Hp} : ∀ (l : List (Itm H)) (L : List (List AV)), InL P W n κ h l L → ∀ i (hi : i < l.length) (hi2 : i < L.length), InAs P W n κ h l[i] L[i]
  | [], [], _, i, hi, _ => by simp at hi
  | x :: l, a :: L, q, 0, _, _ => q.1
  | x :: l, a :: L, q, i + 1, hi, hi2 => InL.at l L q.2 i (by simpa using hi) (by simpa using hi2)
  | [], _ :: _, q, _, _, _ => q.elim
  | _ :: _, [], q, _, _, _ => q.elim
theorem in_list {W : World} {n : Nat} (one : InOne enc P W n) : ∀ (l : List (Itm H)), (∀ x ∈ l, x.ok enc P W n) → ∀ h κ, Sim W.heap.size (W0.of W) κ h W → ∃ h' κ' L, Sim W.heap.size (W0.of W) κ' h' W ∧ κ.le κ' ∧ Ext h h' ∧ InL P W n κ' h' l L
  | [], _, h, κ, s => ⟨h, κ, [], s, κ.le_refl, Ext.refl _, trivial⟩
  | x :: l, hl, h, κ, s => by
    obtain ⟨h1, κ1, a, s1, k1, x1, r1⟩ := one x (hl x (by simp)) h κ s
    obtain ⟨h2, κ2, L, s2, k2, x2, r2⟩ := in_list one l (fun y hy => hl y (by simp [hy])) h1 κ1 s1
    exact ⟨h2, κ2, a :: L, s2, Kap.le_trans k1 k2, x1.trans x2, r1.mono k2 x2, r2⟩
theorem InL.gams {W : World} {n : Nat} {κ : Kap} {h : Hp} : ∀ (l : List (Itm H)) (L : List (List AV)), InL P W n κ h l L → gams κ L.flatten = some (l.map Itm.cs).flatten ∧ ∀ v ∈ (l.map Itm.cs).flatten, v.oneCell' = true
  | [], [], _ => by simp [Am.gams]
  | x :: l, a :: L, q => by
    obtain ⟨h1, h2⟩ := InL.gams l L q.2
    refine ⟨by simpa using gams_append _ _ _ _ q.1.1 h1, fun v hv => ?_⟩
    simp only [List.map_cons, List.flatten_cons, List.mem_append] at hv
    rcases hv with hv | hv
    · exact q.1.2.1 v hv
    · exact h2 v hv
  | [], _ :: _, q => q.elim
  | _ :: _, [], q => q.elim
/-! ### one thing, by its type -/
theorem S_data (s : ByteArray) (κ : Kap) : gam κ (S s.data.toList) = some (.string s) := by
  unfold S
  simp only [gam]
  rw [if_pos (packL_lt _)]
  congr 2
  apply ByteArray.ext
  apply Array.toList_inj.1
  rw [strOf_data, bytesL_pack]
theorem noneFrozen_of {W : World} {ps qs : List MemPlace} (h : W.noneFrozen ps) (hs : ∀ x ∈ qs, x ∈ ps) : W.noneFrozen qs := fun b off hb => h b off (hs _ hb)
theorem tiles_take {α : Type} {R : TypeId → Bool} (cs : List α) : ∀ (fs : List Field) (off : Nat), tilesB P R off fs = true → off + sizesF P fs = cs.length →
    (fs.map fun f => (cs.drop f.offset).take (P.cellsOf f.type)).flatten = cs.drop off ∧ ∀ f ∈ fs, ((cs.drop f.offset).take (P.cellsOf f.type)).length = P.cellsOf f.type ∧ R f.type = true
  | [], off, _, h => by
    simp only [sizesF, Nat.add_zero] at h
    simp [← h]
  | f :: fs, off, ht, h => by
    simp only [tilesB, Bool.and_eq_true, Nat.beq_eq] at ht
    obtain ⟨h1, h2, h3⟩ := ht
    simp only [sizesF] at h
    obtain ⟨q1, q2⟩ := tiles_take cs fs (off + P.cellsOf f.type) h3 (by omega)
    refine ⟨?_, fun g hg => ?_⟩
    · rw [List.map_cons, List.flatten_cons, q1, h1, ← List.drop_drop]
      exact List.take_append_drop _ _
    · rcases List.mem_cons.1 hg with rfl | hg
      · rw [h1]
        refine ⟨?_, h2⟩
        rw [List.length_take, List.length_drop]; omega
      · exact q2 g hg
theorem rdF_of {W : World} {n : Nat} {κ : Kap} {h : Hp} : ∀ (fs : List Field) (l : List (Itm H)) (L : List (List AV)), l.map Itm.t = fs.map Field.type → (∀ x ∈ l, x.cs.length = P.cellsOf x.t) → InL P W n κ h l L → RdF P (RdT P h n) fs L (l.map Itm.d)
  | [], [], [], _, _, _ => trivial
  | f :: fs, x :: l, a :: L, ht, hc, q => by
    simp only [List.map_cons, List.cons.injEq] at ht
    refine ⟨?_, ?_, rdF_of fs l L ht.2 (fun y hy => hc y (by simp [hy])) q.2⟩
    · rw [← gams_length _ _ q.1.1, hc x (by simp), ht.1]
    · rw [← ht.1]; exact q.1.2.2
  | [], x :: l, _, ht, _, _ => by simp at ht
  | _ :: _, [], _, ht, _, _ => by simp at ht
  | [], [], _ :: _, _, _, q => q.elim
  | _ :: _, _ :: _, [], _, _, q => q.elim
theorem flat_get' {α : Type} {c : Nat} (hc : 0 < c) : ∀ (L : List (List α)), (∀ l ∈ L, l.length = c) → ∀ j, L.flatten[j]? = (L[j / c]?).bind fun l => l[j % c]?
  | [], _, j => by simp
  | l :: L, h, j => by
    have hl := h l (by simp)
    rw [List.flatten_cons, List.getElem?_append, hl]
    by_cases hj : j < c
    · rw [if_pos hj, Nat.div_eq_of_lt hj, Nat.mod_eq_of_lt hj]; simp
    · have e1 : j / c = (j - c) / c + 1 := by
        rw [Nat.div_eq_sub_div hc (by omega)]
      have e2 : j % c = (j - c) % c := Nat.mod_eq_sub_mod (by omega)
      rw [if_neg hj, flat_get' hc L (fun x hx => h x (by simp [hx])), e1, e2]
      simp
theorem flat_cut {α : Type} {c : Nat} : ∀ (L : List (List α)), (∀ l ∈ L, l.length = c) → ∀ j (hj : j < L.length), (L.flatten.drop (j * c)).take c = L[j]
  | [], _, j, hj => by simp at hj
  | l :: L, h, 0, _ => by
    have hl := h l (by simp)
    simp [← hl]
  | l :: L, h, j + 1, hj => by
    have hl := h l (by simp)
    have := flat_cut L (fun x hx => h x (by simp [hx])) j (by simpa using hj)
    rw [List.flatten_cons, Nat.add_mul, Nat.one_mul, Nat.add_comm, ← List.drop_drop, ← hl, List.drop_left, hl]
    simpa using this
theorem flat_len' {α : Type} {c : Nat} : ∀ (L : List (List α)), (∀ l ∈ L, l.length = c) → L.flatten.length = L.length * c
  | [], _ => by simp
  | l :: L, h => by
    have hl := h l (by simp)
    rw [List.flatten_cons, List.length_append, flat_len' L (fun x hx => h x (by simp [hx])), hl, List.length_cons, Nat.add_mul, Nat.one_mul, Nat.add_comm]
theorem cellsO_of {ob : AObj} {cs : List AV} (hc : ∀ j, cellAt ob j = cs[j]?) : ∀ (n off : Nat), off + n ≤ cs.length → cellsO ob n off = some ((cs.drop off).take n)
  | 0, off, _ => by simp [cellsO]
  | n + 1, off, h => by
    rw [cellsO, hc off, cellsO_of hc n (off + 1) (by omega), List.getElem?_eq_getElem (by omega)]
    simp only [Option.bind_some, Option.map_some]
    rw [List.drop_eq_getElem_cons (by omega : off < cs.length), List.take_succ_cons]
theorem choose_list {α : Type} {Q : Nat → α → Prop} : ∀ (n : Nat), (∀ j, j < n → ∃ x, Q j x) → ∃ l : List α, l.length = n ∧ ∀ j (hj : j < l.length), Q j l[j]
  | 0, _ => ⟨[], rfl, fun j hj => by simp at hj⟩
  | n + 1, h => by
    obtain ⟨l, h1, h2⟩ := choose_list n fun j hj => h j (by omega)
    obtain ⟨x, hx⟩ := h n (by omega)
    refine ⟨l ++ [x], by simp [h1], fun j hj => ?_⟩
    by_cases hjn : j < l.length
    · rw [List.getElem_append_left hjn]; exact h2 j hjn
    · have : j = n := by simp at hj; omega
      subst this
      rw [List.getElem_append_right (by omega)]
      simp only [h1, Nat.sub_self, List.getElem_cons_zero]
      exact hx
theorem weightsAll_mem {e : TypeId} : ∀ (l : List (DataW H)) (d : DataW H), d ∈ l → ∀ n ∈ DataW.weights P e d, n ∈ DataW.weightsAll P e l
  | [], d, h, _, _ => by cases h
  | x :: l, d, h, n, hn => by
    rw [DataW.weightsAll]
    rcases List.mem_cons.1 h with rfl | h
    · exact List.mem_append_left _ hn
    · exact List.mem_append_right _ (weightsAll_mem l d h n hn)
theorem weightsEach_mem : ∀ (ts : List TypeId) (ds : List (DataW H)) (i : Nat) (t : TypeId) (d : DataW H), ts[i]? = some t → ds[i]? = some d → ∀ n ∈ DataW.weights P t d, n ∈ DataW.weightsEach P ts ds
  | [], _, i, t, d, h, _, _, _ => by simp at h
  | t :: ts, [], i, _, d, _, h, _, _ => by simp at h
  | t :: ts, x :: ds, 0, t', d, h1, h2, n, hn => by
    simp at h1 h2; subst h1 h2
    rw [DataW.weightsEach]; exact List.mem_append_left _ hn
  | t :: ts, x :: ds, i + 1, t', d, h1, h2, n, hn => by
    rw [DataW.weightsEach]; exact List.mem_append_right _ (weightsEach_mem ts ds i t' d (by simpa using h1) (by simpa using h2) n hn)
/-- Elements as an object. -/
theorem elems_obj {W : World} {n : Nat} {κ : Kap} {h : Hp} {e : TypeId} {l : List (Itm H)} {L : List (List AV)} (ht : ∀ x ∈ l, x.t = e) (hL : InL P W n κ h l L) : ∃ ob, (match ob with | .row _ => True | .byts _ _ => True | _ => False) ∧ (∀ j, cellAt ob j = L.flatten[j]?) ∧ sizeOfObj ob = L.flatten.length ∧
    (P.underlying e = some (.int .u8) → ∃ z, ob = .byts l.length z) := by
  by_cases hu : P.underlying e = some (.int .u8)
  · have key : ∀ (l : List (Itm H)) (L : List (List AV)), (∀ x ∈ l, x.t = e) → InL P W n κ h l L → ∃ bs : List UInt8, bs.length = l.length ∧ L.flatten = bs.map fun b => .int .u8 (b.toNat : Int) := by
      intro l
      induction l with
      | nil => intro L _ q; cases L with
        | nil => exact ⟨[], rfl, rfl⟩
        | cons => exact q.elim
      | cons x l ih =>
        intro L ht q
        cases L with
        | nil => exact q.elim
        | cons a L =>
          obtain ⟨bs, h1, h2⟩ := ih L (fun y hy => ht y (by simp [hy])) q.2
          obtain ⟨_, _, q3⟩ := q.1
          cases n with
          | zero => exact q3.elim
          | succ n =>
            unfold RdT at q3
            rw [ht x (by simp), hu] at q3
            obtain ⟨z, rfl, _, hz⟩ := q3
            have hz' : 0 ≤ z ∧ z < 256 := by
              have e1 : IntKind.u8.min = 0 := by decide
              have e2 : IntKind.u8.max = 255 := by decide
              simp only [Lit.wf, Bool.and_eq_true, decide_eq_true_eq, e1, e2] at hz
              omega
            refine ⟨UInt8.ofNat z.toNat :: bs, by simp [h1], ?_⟩
            rw [List.flatten_cons, h2]
            have : ((UInt8.ofNat z.toNat).toNat : Int) = z := by
              rw [UInt8.toNat_ofNat']
              omega
            rw [List.map_cons, this]
            rfl
    obtain ⟨bs, h1, h2⟩ := key l L ht hL
    refine ⟨.byts bs.length (packL bs), trivial, fun j => ?_, by rw [h2]; simp [sizeOfObj], fun _ => ⟨_, by rw [h1]⟩⟩
    rw [h2, List.getElem?_map]
    rw [cellAt_byts]
    by_cases hj : j < bs.length
    · rw [if_pos hj, List.getElem?_eq_getElem hj, Option.map_some, byteAt_S bs j hj]
      rfl
    · rw [if_neg hj, List.getElem?_eq_none (by omega)]
      rfl
  · exact ⟨.row L.flatten, trivial, fun j => cellAt_row' _ _, rfl, fun h => absurd h hu⟩
theorem cell_heap {W : World} {a : Addr} {v : Value} (h : W.cell? a = some v) : a.spot = none ∧ ∃ c t fr, W.heap[a.block]? = some (.cells c t fr) ∧ c[a.off]? = some v := by
  unfold World.cell? at h
  split at h
  · rename_i c t fr hc
    split at h
    · cases h
    · rename_i hs
      exact ⟨by cases q : a.spot with | none => rfl | some x => simp [q] at hs, c, t, _, hc, h⟩
  · cases h
theorem add_spot {a : Addr} (hs : a.spot = none) (n : Nat) : a.add n = ⟨a.block, a.off + n, none⟩ := by
  unfold Addr.add
  split
  · rename_i h; subst h
    obtain ⟨b, o, sp⟩ := a
    simp only at hs
    subst hs; rfl
  · rfl
theorem in_one (W : World) : ∀ n, InOne enc P W n
  | 0 => fun x hx => by cases hx.1
  | n + 1 => fun ⟨t, cs, d, ps, fuel⟩ ⟨hp, ht, hw, hf⟩ h κ s => by
    have one := in_one W n
    simp only at hp ht hw hf
    unfold plainT at hp
    split at hp
    · rename_i hu
      obtain ⟨b, rfl, hx⟩ := DataW.trod_bool hu ht
      cases hx
      refine ⟨h, κ, [.bool b], s, κ.le_refl, Ext.refl _, by simp [gams, gam], by simp [Value.oneCell'], ?_⟩
      unfold RdT; rw [hu]; exact ⟨b, rfl, rfl⟩
    · rename_i k hu
      obtain ⟨z, rfl, hx, hz⟩ := DataW.trod_int hu ht
      cases hx
      refine ⟨h, κ, [.int k z], s, κ.le_refl, Ext.refl _, by simp [gams, gam], by simp [Value.oneCell'], ?_⟩
      unfold RdT; rw [hu]; exact ⟨z, rfl, rfl, hz⟩
    · rename_i hu
      obtain ⟨b, rfl, hx, _⟩ := DataW.trod_string hu ht
      cases hx
      have hb : b.data.toList.length ≤ reachBytes := by simpa [DataW.weights] using hw
      refine ⟨h, κ, [S b.data.toList], s, κ.le_refl, Ext.refl _, by simp [gams, S_data], by simp [Value.oneCell'], ?_⟩
      unfold RdT; rw [hu]; exact ⟨_, rfl, rfl, hb⟩
    · rename_i e hu
      simp only [Bool.and_eq_true, Nat.blt_eq] at hp
      obtain ⟨hpe, hc0, hc1⟩ := hp
      rcases DataW.trod_slice hu ht with ⟨rfl, hx⟩ | ⟨a, len, cap, elems, rest, m, _, rfl, hx, _, hlc, hcm, hlen, hel, hsp, _⟩
      · cases hx
        refine ⟨h, κ, [.nilslice], s, κ.le_refl, Ext.refl _, by simp [gams, gam], by simp [Value.oneCell'], ?_⟩
        unfold RdT; rw [hu]; exact .inl ⟨rfl, rfl⟩
      · obtain ⟨hrl, hre⟩ := hsp rfl
        simp only [Prod.mk.injEq] at hx
        obtain ⟨rfl, rfl⟩ := hx
        by_cases hcap : cap = 0
        · have hl0 : len = 0 := by omega
          have he0 : elems = [] := List.eq_nil_of_length_eq_zero (by omega)
          have hr0 : rest = [] := List.eq_nil_of_length_eq_zero (by omega)
          subst he0 hr0
          have hz : ∃ q, zsp q = a.spot := by
            cases a.spot with
            | none => exact ⟨0, rfl⟩
            | some x => exact ⟨x + 1, rfl⟩
          obtain ⟨q, hq⟩ := hz
          refine ⟨_, _, [.sliceZ h.next], s.spare ⟨a.block, a.off, q⟩, Kap.le_set s.none_next, Ext.spare h, ?_, by simp [Value.oneCell'], ?_⟩
          · simp only [gams, gam, Kap.set_self, Option.map_some, Option.bind_some, hq, hl0, hcap]
          · unfold RdT; rw [hu]; exact .inr (.inl ⟨_, rfl, rfl⟩)
        -- the first cell
        have hex : ∃ l, W.cells? 0 (a.add (0 * P.cellsOf e)) (P.cellsOf e) = some l := by
          by_cases hl : 0 < len
          · have := hel 0 hl
            rw [List.getElem?_eq_getElem (by omega), Option.bind_eq_some_iff] at this
            obtain ⟨l, h1, _⟩ := this
            exact ⟨l, h1⟩
          · have := hre 0 (by omega)
            rw [show len + 0 = 0 by omega, List.getElem?_eq_getElem (by omega), Option.bind_eq_some_iff] at this
            obtain ⟨l, h1, _⟩ := this
            exact ⟨l, h1⟩
        obtain ⟨l0, hl0⟩ := hex
        obtain ⟨_, hl0n, hl0c⟩ := World.cells?_some hl0
        have hz0 := hl0c 0 hc0
        have eadd : (a.add (0 * P.cellsOf e)).add 0 = a := by simp [Addr.add]
        rw [eadd, List.getElem?_eq_getElem (by omega)] at hz0
        obtain ⟨hspot, c, ty, fr, hheap, hcell0⟩ := cell_heap hz0
        have hblk : a.block < W.heap.size := (Array.getElem?_eq_some_iff.1 hheap).1
        have hoff : a.off < c.size := (Array.getElem?_eq_some_iff.1 hcell0).1
        -- the elements
        obtain ⟨its, hi1, hi2⟩ := choose_list (Q := fun j (x : Itm H) => x.t = e ∧ W.cells? 0 (a.add (j * P.cellsOf e)) (P.cellsOf e) = some x.cs ∧ elems[j]? = some (x.d, x.ps) ∧ DataW.trod enc P W 0 (fun _ => true) true x.fuel e x.cs = some (x.d, x.ps)) len (fun j hj => by
          have := hel j hj
          rw [List.getElem?_eq_getElem (by omega), Option.bind_eq_some_iff] at this
          obtain ⟨l, h1, h2⟩ := this
          exact ⟨⟨e, l, (elems[j]'(by omega)).1, (elems[j]'(by omega)).2, m⟩, rfl, h1, by rw [List.getElem?_eq_getElem (by omega)], h2⟩)
        have hti : ∀ x ∈ its, x.t = e := fun x hx => by
          obtain ⟨j, hj, rfl⟩ := List.getElem_of_mem hx
          exact (hi2 j hj).1
        have hok : ∀ x ∈ its, x.ok enc P W n := fun x hx => by
          obtain ⟨j, hj, rfl⟩ := List.getElem_of_mem hx
          obtain ⟨q1, q2, q3, q4⟩ := hi2 j hj
          have hmem := List.mem_of_getElem? q3
          refine ⟨by rw [q1]; exact hpe, by rw [q1]; exact q4, ?_, noneFrozen_of hf fun y hy => ?_⟩
          · rw [q1]
            refine List.all_eq_true.2 fun w hw' => List.all_eq_true.1 hw w ?_
            rw [DataW.weights, hu]
            exact List.mem_cons_of_mem _ (List.mem_append_left _ (weightsAll_mem _ _ (List.mem_map_of_mem (f := Prod.fst) hmem) w hw'))
          · exact List.mem_append_right _ (List.mem_flatMap.2 ⟨_, List.mem_append_left _ hmem, hy⟩)
        obtain ⟨h1, κ1, L, s1, k1, x1, r1⟩ := in_list one its hok h κ s
        have hLl : L.length = len := by rw [InL.length _ _ r1, hi1]
        have hLc : ∀ l ∈ L, l.length = P.cellsOf e := fun l hl => by
          obtain ⟨j, hj, rfl⟩ := List.getElem_of_mem hl
          have hj' : j < its.length := by omega
          have := InL.at _ _ r1 j hj' hj
          obtain ⟨_, q2, _⟩ := World.cells?_some (hi2 j hj').2.1
          rw [← gams_length _ _ this.1, q2]
        obtain ⟨hg, hone⟩ := InL.gams _ _ r1
        obtain ⟨ob, ob0, ob1, ob2, ob3⟩ := elems_obj hti r1
        have hCl : ∀ l ∈ its.map Itm.cs, l.length = P.cellsOf e := fun l hl => by
          obtain ⟨x, hx, rfl⟩ := List.mem_map.1 hl
          obtain ⟨j, hj, rfl⟩ := List.getElem_of_mem hx
          exact (World.cells?_some (hi2 j hj).2.1).2.1
        have hflat : L.flatten.length = len * P.cellsOf e := by rw [flat_len' L hLc, hLl]
        have hget : ∀ j V, (its.map Itm.cs).flatten[j]? = some V → c[a.off + j]? = some V := fun j V hV => by
          rw [flat_get' hc0 _ hCl, Option.bind_eq_some_iff] at hV
          obtain ⟨l, q1, q2⟩ := hV
          rw [List.getElem?_map, Option.map_eq_some_iff] at q1
          obtain ⟨x, q1, rfl⟩ := q1
          obtain ⟨hj', rfl⟩ := List.getElem?_eq_some_iff.1 q1
          obtain ⟨_, _, q3⟩ := World.cells?_some (hi2 (j / P.cellsOf e) hj').2.1
          have := q3 (j % P.cellsOf e) (Nat.mod_lt _ hc0)
          rw [q2, add_spot hspot, add_spot rfl] at this
          obtain ⟨_, c', t', fr', e1, e2⟩ := cell_heap this
          rw [hheap] at e1
          cases e1
          have e3 : a.off + j / P.cellsOf e * P.cellsOf e + j % P.cellsOf e = a.off + j := by
            have := Nat.div_add_mod j (P.cellsOf e)
            rw [Nat.mul_comm] at this
            omega
          rw [← e3]; exact e2
        have hfz : ∀ j, j < len * P.cellsOf e → ¬ (fr.1 ≤ a.off + j ∧ a.off + j < fr.2) := fun j hj hq => by
          have hm : MemPlace.cell a.block (a.off + j) ∈ MemPlace.row a ((elems.length + rest.length) * P.cellsOf e) ++ (elems ++ rest).flatMap (·.2) := by
            refine List.mem_append_left _ (List.mem_map.2 ⟨j, List.mem_range.2 ?_, rfl⟩)
            rw [hlen, Nat.add_mul]; omega
          have := hf _ _ hm
          simp [World.frozen?, hheap, hq.1, hq.2] at this
        have hle : κ1.le (κ1.set h1.next ⟨a.block, a.off, 0⟩) := Kap.le_set s1.none_next
        have hrow : RowSim (κ1.set h1.next ⟨a.block, a.off, 0⟩) ob roEsz ⟨a.block, a.off, 0⟩ W.heap[a.block]? := by
          refine ⟨c, ty, fr, hheap, by simp; omega, .inr (.inr ⟨rfl, Nat.le_refl _, fun j v hv => ?_⟩), fun j hj => ?_, fun j v hv => ?_⟩
          · rw [ob1] at hv
            exact hfz j (by rw [← hflat]; exact (List.getElem?_eq_some_iff.1 hv).1)
          · rw [ob1]; exact ⟨_, List.getElem?_eq_getElem (by rw [← ob2]; exact hj)⟩
          · rw [ob1] at hv
            obtain ⟨V, g1, g2⟩ := gams_get _ _ _ _ hg hv
            exact ⟨V, gam_mono hle _ _ g1, hone V (List.mem_of_getElem? g2), hget j V g2⟩
        have hobs : ObjSim (κ1.set h1.next ⟨a.block, a.off, 0⟩) ob roEsz ⟨a.block, a.off, 0⟩ W.heap[a.block]? := by
          cases ob with
          | row cs => exact hrow
          | byts n x => exact hrow
          | big n t d => exact ob0.elim
          | map es c => exact ob0.elim
          | sit n x p => exact ob0.elim
          | mit m s l c => exact ob0.elim
        have hs2 := s1.arg hblk hobs
        have hx2 : Ext h1 (h1.new ⟨false, roEsz, ob⟩) := (Ext.refl h1).new _
        refine ⟨_, _, [.slice h1.next 0 len true cap], hs2, Kap.le_trans k1 hle, x1.trans hx2, ?_, by simp [Value.oneCell'], ?_⟩
        · have ha : (⟨a.block, a.off, 0⟩ : Ki).at 0 = a := by
            obtain ⟨b, o, sp⟩ := a
            simp only at hspot
            subst hspot; rfl
          simp only [gams, gam, Kap.set_self, Option.bind_some, if_true, if_pos hlc, ha, Option.map_some]
        · have hels : (elems.map (·.1)).length = len := by rw [List.length_map, hlen]
          unfold RdT
          rw [hu]
          refine .inr (.inr ⟨h1.next, cap, ob, _, _, by rw [hels], rfl, by rw [hels]; exact hlc, ?_, by simp [Hp.next_new], Hp.at_new_self _ _, fun hu8 => ?_, fun j hj => ?_⟩)
          · have := List.all_eq_true.1 hw _ (by rw [DataW.weights, hu]; exact List.mem_cons_self)
            simpa using this
          · obtain ⟨z, hz⟩ := ob3 hu8
            exact ⟨z, by rw [hz, hi1, hels]⟩
          · rw [hels] at hj
            have hj' : j < its.length := by omega
            have hjL : j < L.length := by omega
            have := InL.at _ _ r1 j hj' hjL
            obtain ⟨q1, _, q3, _⟩ := hi2 j hj'
            refine ⟨L[j], ?_, hLc _ (List.getElem_mem hjL), ?_⟩
            · rw [cellsO_of ob1 _ _ (by rw [hflat]; have := Nat.mul_le_mul_right (P.cellsOf e) (show j + 1 ≤ len from hj); rw [Nat.add_mul, Nat.one_mul] at this; exact this), flat_cut L hLc j hjL]
            · have r3 := RdT.mono hx2 _ _ _ _ this.2.2
              rw [q1] at r3
              have hd : (elems.map (·.1))[j]'(by rw [hels]; exact hj) = its[j].d := by
                rw [List.getElem_map]
                have := List.getElem?_eq_some_iff.1 q3
                obtain ⟨_, q⟩ := this
                rw [q]
              rw [hd]; exact r3
    · rename_i fs hu
      simp only [Bool.and_eq_true, Nat.beq_eq] at hp
      obtain ⟨hti, hsz⟩ := hp
      obtain ⟨xs, m, _, hx, hcl, hxl, hxi⟩ := DataW.trod_struct hu ht
      simp only [Prod.mk.injEq] at hx
      obtain ⟨rfl, rfl⟩ := hx
      obtain ⟨hc1, hc2⟩ := tiles_take (P := P) cs fs.toList 0 hti (by omega)
      obtain ⟨its, hi1, hi2⟩ := choose_list (Q := fun j (x : Itm H) => ∃ f, fs.toList[j]? = some f ∧ x.t = f.type ∧ x.cs = (cs.drop f.offset).take (P.cellsOf f.type) ∧ xs[j]? = some (x.d, x.ps) ∧ DataW.trod enc P W 0 (fun _ => true) true x.fuel f.type x.cs = some (x.d, x.ps)) fs.size (fun j hj => by
        have hq : fs[j]? = some fs[j] := Array.getElem?_eq_getElem hj
        have := hxi j fs[j] hq
        rw [List.getElem?_eq_getElem (by omega)] at this
        exact ⟨⟨fs[j].type, _, (xs[j]'(by omega)).1, (xs[j]'(by omega)).2, m⟩, fs[j], by rw [Array.getElem?_toList]; exact hq, rfl, rfl, by rw [List.getElem?_eq_getElem (by omega)], this⟩)
      have hmap : its.map Itm.t = fs.toList.map Field.type := by
        apply List.ext_getElem?
        intro j
        rw [List.getElem?_map, List.getElem?_map]
        by_cases hj : j < its.length
        · obtain ⟨f, q1, q2, _⟩ := hi2 j hj
          rw [q1, List.getElem?_eq_getElem hj]; simp [q2]
        · rw [List.getElem?_eq_none (by omega), List.getElem?_eq_none (by simp; omega)]; rfl
      have hmapc : its.map Itm.cs = fs.toList.map fun f => (cs.drop f.offset).take (P.cellsOf f.type) := by
        apply List.ext_getElem?
        intro j
        rw [List.getElem?_map, List.getElem?_map]
        by_cases hj : j < its.length
        · obtain ⟨f, q1, _, q3, _⟩ := hi2 j hj
          rw [q1, List.getElem?_eq_getElem hj]; simp [q3]
        · rw [List.getElem?_eq_none (by omega), List.getElem?_eq_none (by simp; omega)]; rfl
      have hmapd : its.map Itm.d = xs.map (·.1) := by
        apply List.ext_getElem?
        intro j
        rw [List.getElem?_map, List.getElem?_map]
        by_cases hj : j < its.length
        · obtain ⟨f, _, _, _, q4, _⟩ := hi2 j hj
          rw [q4, List.getElem?_eq_getElem hj]; simp
        · rw [List.getElem?_eq_none (by omega), List.getElem?_eq_none (by omega)]; rfl
      have hok : ∀ x ∈ its, x.ok enc P W n ∧ x.cs.length = P.cellsOf x.t := fun x hx => by
        obtain ⟨j, hj, rfl⟩ := List.getElem_of_mem hx
        obtain ⟨f, q1, q2, q3, q4, q5⟩ := hi2 j hj
        have hfm := List.mem_of_getElem? q1
        obtain ⟨l1, l2⟩ := hc2 f hfm
        refine ⟨⟨by rw [q2]; exact l2, by rw [q2]; exact q5, ?_, noneFrozen_of hf fun y hy => ?_⟩, by rw [q3, q2]; exact l1⟩
        · rw [q2]
          refine List.all_eq_true.2 fun w hw' => List.all_eq_true.1 hw w ?_
          rw [DataW.weights, hu]
          exact weightsEach_mem _ _ j f.type its[j].d (by rw [List.getElem?_map, q1]; rfl) (by rw [List.getElem?_map, q4]; rfl) w hw'
        · exact List.mem_flatMap.2 ⟨_, List.mem_of_getElem? q4, hy⟩
      obtain ⟨h1, κ1, L, s1, k1, x1, r1⟩ := in_list one its (fun x hx => (hok x hx).1) h κ s
      obtain ⟨hg, hone⟩ := InL.gams _ _ r1
      rw [hmapc, hc1, List.drop_zero] at hg hone
      refine ⟨h1, κ1, L.flatten, s1, k1, x1, hg, hone, ?_⟩
      unfold RdT
      rw [hu]
      refine ⟨_, L, rfl, rfl, ?_⟩
      have := rdF_of fs.toList its L hmap (fun x hx => (hok x hx).2) r1
      rw [hmapd] at this
      exact this
    · cases hp
end Go.Am

namespace Go.Am
set_option linter.unusedSimpArgs false
set_option linter.unusedVariables false
open Go Go.RowKit
variable {P : Program} {H : Type} {enc : TypeId × Value → H}

/-- The types of one cell. -/
def cell1T (P : Program) (t : TypeId) : Bool := match P.underlying t with
  | some .bool => true
  | some (.int _) => true
  | some .string => true
  | some (.slice _) => true
  | _ => false
theorem cells_one {W : World} {r : Go.Reach} {b : Nat} {t : TypeId} {v : Value} (ht : cell1T P t = true) (hv : Value.okWide P W r b t v) : v.cells = #[v] := by
  unfold cell1T at ht
  unfold Value.okWide at hv
  split at ht
  · rename_i e; rw [e] at hv; unfold Cell.okWide at hv; cases v <;> simp_all [Cell.ok, Value.cells]
  · rename_i e; rw [e] at hv; unfold Cell.okWide at hv; cases v <;> simp_all [Cell.ok, Value.cells]
  · rename_i e; rw [e] at hv; unfold Cell.okWide at hv; cases v <;> simp_all [Cell.ok, Value.cells]
  · rename_i e; rw [e] at hv; unfold Cell.okWide at hv; cases v <;> simp_all [Cell.ok, Value.cells]
  · cases ht
def RdA (P : Program) (h : Hp) (n : Nat) : List TypeId → List AV → List (DataW H) → Prop
  | [], [], [] => True
  | t :: ts, a :: asv, d :: ds => RdT P h n t [a] d ∧ RdA P h n ts asv ds
  | _, _, _ => False
theorem RdA.mono {h h' : Hp} (hx : Ext h h') {n : Nat} : ∀ (ts : List TypeId) (asv : List AV) (ds : List (DataW H)), RdA P h n ts asv ds → RdA P h' n ts asv ds
  | [], [], [], _ => trivial
  | t :: ts, a :: asv, d :: ds, q => ⟨RdT.mono hx _ _ _ _ q.1, RdA.mono hx ts asv ds q.2⟩
  | [], [], _ :: _, q => q.elim
  | [], _ :: _, _, q => q.elim
  | _ :: _, [], _, q => q.elim
  | _ :: _, _ :: _, [], q => q.elim
theorem args_in {W : World} {n : Nat} {r : Go.Reach} {b : Nat} : ∀ (ts : List TypeId) (vs : List Value) (ds : List (DataW H)) (ps : List MemPlace), DataW.TrodAll enc P W 0 (fun _ => true) true ts vs ds ps →
    (ts.all fun t => plainT P n t && cell1T P t) = true → (∀ (i : Nat) t v, ts[i]? = some t → vs[i]? = some v → Value.okWide P W r b t v) → (DataW.weightsEach P ts ds).all (· ≤ reachBytes) = true → W.noneFrozen ps →
    ∀ h κ, Sim W.heap.size (W0.of W) κ h W → ∃ h' κ' asv, Sim W.heap.size (W0.of W) κ' h' W ∧ κ.le κ' ∧ Ext h h' ∧ gams κ' asv = some vs ∧ RdA P h' n ts asv ds
  | [], [], [], ps, _, _, _, _, _, h, κ, s => ⟨h, κ, [], s, κ.le_refl, Ext.refl _, rfl, trivial⟩
  | t :: ts, v :: vs, d :: ds, ps, hA, hp, hv, hw, hf, h, κ, s => by
    obtain ⟨p, q, ⟨fuel, h1⟩, h2, rfl⟩ := hA
    simp only [List.all_cons, Bool.and_eq_true] at hp
    obtain ⟨⟨hp1, hp2⟩, hp3⟩ := hp
    rw [DataW.weightsEach, List.all_append, Bool.and_eq_true] at hw
    have hc := cells_one hp2 (hv 0 t v rfl rfl)
    rw [hc] at h1
    obtain ⟨h1', κ1, a, s1, k1, x1, g1, o1, r1⟩ := in_one W n ⟨t, [v], d, p, fuel⟩ ⟨hp1, h1, hw.1, noneFrozen_of hf fun x hx => List.mem_append_left _ hx⟩ h κ s
    obtain ⟨h2', κ2, asv, s2, k2, x2, g2, r2⟩ := args_in ts vs ds q h2 hp3 (fun i t v ht hv' => hv (i + 1) t v (by simpa using ht) (by simpa using hv')) hw.2 (noneFrozen_of hf fun x hx => List.mem_append_right _ hx) h1' κ1 s1
    have hl : a.length = 1 := (gams_length _ _ g1).symm
    obtain ⟨a, rfl⟩ : ∃ x, a = [x] := by
      match a, hl with
      | [x], _ => exact ⟨x, rfl⟩
    refine ⟨h2', κ2, a :: asv, s2, Kap.le_trans k1 k2, x1.trans x2, ?_, RdT.mono x2 _ _ _ _ r1, r2⟩
    simpa using gams_append _ _ _ _ (gams_mono k2 _ _ g1) g2
  | [], _ :: _, _, _, q, _, _, _, _, _, _, _ => q.elim
  | [], [], _ :: _, _, q, _, _, _, _, _, _, _ => q.elim
  | _ :: _, [], _, _, q, _, _, _, _, _, _, _ => q.elim
  | _ :: _, _ :: _, [], _, q, _, _, _, _, _, _, _ => q.elim

/-- The law's call, by its code at whatever it reads. -/
theorem law_calls (hmix : P.follows .mixedOrders = true) {con : FuncId → Option ConD} (hcon : ConOK P con) {f : FuncId} (hf : con f = none) {W : World} {n : Nat} {r : Go.Reach} {b : Nat} {ts : List TypeId} {vs : List Value} {ds : List (DataW H)} {ps : List MemPlace}
    (hA : DataW.TrodAll enc P W 0 (fun _ => true) true ts vs ds ps) (hp : (ts.all fun t => plainT P n t && cell1T P t) = true) (hv : ∀ (i : Nat) t v, ts[i]? = some t → vs[i]? = some v → Value.okWide P W r b t v)
    (hw : (DataW.weightsEach P ts ds).all (· ≤ reachBytes) = true) (hz : W.noneFrozen ps)
    (hrun : ∀ asv h, RdA P h n ts asv ds → ∃ fuel, deepT (tabOf P) f (cfn P con fuel) fuel asv h fun v _ => v = .bool true) :
    Calls P f vs.toArray W fun e w' => e = .returned (.bool true) ∧ Below W.heap.size W w' := by
  have s0 : Sim W.heap.size (W0.of W) (fun _ => none) ⟨E1.lf, 0⟩ W := ⟨Below.refl _ _, Nat.le_refl _, (fun o e he => by rw [E1.getP_lf] at he; cases he), (fun o _ e _ _ _ he => by rw [E1.getP_lf] at he; cases he), (fun o ki hk => by cases hk), (fun b ob hb => by cases hb), (fun o e ki he => by rw [E1.getP_lf] at he; cases he)⟩
  obtain ⟨h, κ, asv, s, _, _, g, hr⟩ := args_in ts vs ds ps hA hp hv hw hz _ _ s0
  obtain ⟨fuel, hD⟩ := hrun asv h hr
  have : callN con (tabOf P) fuel 2 f asv h fun v _ => v = .bool true := by
    show Option.rec (motive := fun _ => Prop) (asOpt (tabOf P f) fun af => argK asv 0 G1.lf fun fr => af.body (callN con (tabOf P) fuel 1) fuel (endK af.res fun v _ => v = .bool true) fr h) (fun c => c asv h fun v _ => v = .bool true) (con f)
    rw [hf]
    exact hD
  refine (callN_ok (B := W.heap.size) (w0 := W0.of W) hmix hcon fuel 2 f asv h _ this).2 κ W vs s g _ fun κ' av h' v w' k1 k2 k3 k4 => ?_
  subst k4
  simp only [gam, Option.some.injEq] at k3
  exact ⟨by rw [← k3], k2.below⟩
end Go.Am

namespace Go.Am
set_option linter.unusedSimpArgs false
set_option linter.unusedVariables false
open Go Go.RowKit Go.WideShapes Go.ChangeShapes Go.ChangeAt
variable {P : Program} {H : Type} {enc : TypeId × Value → H}

theorem trodAll_stays (hl : laidOutB P = true) {W W' : World} {sp' : Nat → Bool} : ∀ (ts : List TypeId) (vs : List Value) (ds : List (DataW H)) (ps : List MemPlace),
    (ts.all fun t => P.readableRec t && decide (t < P.types.size)) = true → DataW.TrodAll enc P W 0 (fun _ => true) true ts vs ds ps → (∀ p ∈ ps, W.sameAt W' p) → (∀ p ∈ ps, sp' p.block = true) → DataW.TrodAll enc P W' 0 sp' true ts vs ds ps
  | [], [], [], ps, _, h, _, _ => h
  | t :: ts, v :: vs, d :: ds, ps, hr, h, hs, hp => by
    obtain ⟨p, q, h1, h2, rfl⟩ := h
    simp only [List.all_cons, Bool.and_eq_true, decide_eq_true_eq] at hr
    exact ⟨p, q, WideElems.Trod_stays hl hr.1.1 hr.1.2 h1 (fun x hx => hs x (List.mem_append_left _ hx)) (fun x hx => hp x (List.mem_append_left _ hx)),
      trodAll_stays hl ts vs ds q (by simpa using hr.2) h2 (fun x hx => hs x (List.mem_append_right _ hx)) (fun x hx => hp x (List.mem_append_right _ hx)), rfl⟩
  | [], _ :: _, _, _, _, q, _, _ => q.elim
  | [], [], _ :: _, _, _, q, _, _ => q.elim
  | _ :: _, [], _, _, _, q, _, _ => q.elim
  | _ :: _, _ :: _, [], _, _, q, _, _ => q.elim

theorem trodAll_length {W : World} {b : Nat} {sp : Nat → Bool} {hd : Bool} : ∀ (ts : List TypeId) (vs : List Value) (ds : List (DataW H)) (ps : List MemPlace), DataW.TrodAll enc P W b sp hd ts vs ds ps → ds.length = ts.length
  | [], [], [], _, _ => rfl
  | t :: ts, v :: vs, d :: ds, ps, h => by
    obtain ⟨p, q, _, h2, _⟩ := h
    simpa using trodAll_length ts vs ds q h2
  | [], _ :: _, _, _, q => q.elim
  | [], [], _ :: _, _, q => q.elim
  | _ :: _, [], _, _, q => q.elim
  | _ :: _, _ :: _, [], _, q => q.elim
/-- The law's contract. -/
theorem law_contract {C : Checked} (hmix : C.prog.follows .mixedOrders = true) (hl : laidOutB C.prog = true) {con : FuncId → Option ConD} (hcon : ConOK C.prog con) {f : FuncId} (hf : con f = none) {fn : Func} {s : ChangeSpec} {n : Nat}
    (hpar : (fn.params.toList.all fun t => plainT C.prog n t && cell1T C.prog t) = true) (hread : (fn.params.toList.all fun t => C.prog.readableRec t && decide (t < C.prog.types.size)) = true)
    {tb : TypeId} (htb : C.prog.underlying tb = some .bool) (hres : fn.resultTypes = #[tb]) (hv0 : s.vars = [])
    (hfn : ∀ (ds : List (DataW H)), ds.length = fn.params.toList.length → (s.fn H ds).results = [.lit (.bool true)] ∧ (s.fn H ds).args = ds ∧ (s.fn H ds).vars = [])
    (hrun : ∀ (asv : List AV) (h : Hp) (ds : List (DataW H)), RdA C.prog h n fn.params.toList asv ds → ∃ fuel, deepT (tabOf C.prog) f (cfn C.prog con fuel) fuel asv h fun v _ => v = .bool true)
    {apart fresh handsOn again : Bool} {W : World} {base : Nat} {args : Array Value} {ds gs : List (DataW H)} {before : List MemPlace}
    (hval : ∀ (j : Nat) t v, fn.params[j]? = some t → args[j]? = some v → Value.okWide C.prog W .any base t v)
    (hW : DataW.Whole enc C.prog fn.params.toList s.vars apart W args.toList ds gs before)
    (hw : (DataW.weightsEach C.prog (fn.params.toList ++ s.plain.varTypes C.prog) (ds ++ gs)).all (· ≤ reachBytes) = true) :
    Calls C.prog f args W fun e W' => ∃ v, e = .returned v ∧ s.post enc C.prog fn apart fresh handsOn again W args v W' := by
  have hW' := hW
  obtain ⟨p, q, hA, hV, rfl, hfz, hnd⟩ := hW
  have hA' : DataW.TrodAll enc C.prog W 0 (fun _ => true) true fn.params.toList args.toList ds p := hA
  rw [hv0] at hV
  obtain ⟨rfl, rfl⟩ := trodVars_none hV
  have hvt : s.plain.varTypes C.prog = [] := by
    simp [DataSpec.varTypes, ChangeSpec.plain, hv0]
  rw [hvt, List.append_nil, List.append_nil] at hw
  rw [List.append_nil] at hW' hfz
  have hlen : ds.length = fn.params.toList.length := trodAll_length _ _ _ _ hA'
  obtain ⟨hr1, hr2, hr3⟩ := hfn ds hlen
  have hcall := law_calls (H := H) hmix hcon hf hA' hpar (b := base) (r := .any) (fun i t v h1 h2 => hval i t v (by simpa using h1) (by simpa using h2)) hw hfz (fun asv h hr => hrun asv h ds hr)
  refine Calls.mono (by simpa using hcall) fun e W' he => ?_
  obtain ⟨rfl, hb⟩ := he
  refine ⟨_, rfl, post_of_below (pa := p) (pv := []) hW' ?_ ?_ ?_ (by simp) hb ?_⟩
  · intro b sp hd
    rw [hres, List.append_nil, hr1]
    exact trodAll_cons_mk (shut_bool htb _) trodAll_mk0
  · intro sp hsp
    rw [List.append_nil, hr2]
    exact trodAll_stays hl _ _ _ _ hread hA' (fun x hx => hb.same (hW'.lt x hx)) hsp
  · intro sp hsp
    rw [List.append_nil, hr3, hv0]
    exact rfl
  · exact ok_one hres rfl (okWide_bool_mk htb _)
end Go.Am

namespace Go.Am
set_option linter.unusedSimpArgs false
set_option linter.unusedVariables false
open Go Go.RowKit
variable {P : Program}

/-- A row of the same cells. -/
theorem ObjSim.of_cells {κ : Kap} {ob : AObj} {cs : List AV} (hc : Cells ob cs) {esz : Nat} {ki : Ki} {o : Option Obj} (h : ObjSim κ ob esz ki o) : ObjSim κ (.row cs) esz ki o := by
  obtain ⟨c0, c1, c2⟩ := hc
  have key : ¬ isBy ob → RowSim κ ob esz ki o → RowSim κ (.row cs) esz ki o := fun hnb ⟨c, t, fr, h1, h2, h3, h4, h5⟩ =>
    ⟨c, t, fr, h1, h2, h3.imp id (Or.imp (fun x => absurd x.2.2 hnb) fun ⟨a, b, d⟩ => ⟨a, b, fun j v hv => d j v (by rw [cellAt_row'] at hv; rw [c2 j]; exact hv)⟩), fun j hj => by
      have := h4 j (by rw [c1]; exact hj)
      rw [c2 j] at this
      rw [cellAt_row']; exact this, fun j v hv => h5 j v (by rw [cellAt_row'] at hv; rw [c2 j]; exact hv)⟩
  cases ob with
  | row l => exact key (fun x => x) h
  | big n t d => exact key (fun x => x) h
  | byts n x => exact c0.elim
  | map es c => exact c0.elim
  | sit n x p => exact c0.elim
  | mit m s l c => exact c0.elim

/-- What is handed out. -/
def Out (h : Hp) (K : AV → Hp → Prop) (v' : AV) (h' : Hp) : Prop := Ext h h' ∧ ((oldV h v' ∧ K v' h) ∨ ∃ o off n kn cap e' cs esz, v' = .slice o off n kn cap ∧ h.next ≤ o ∧ h'.at o = some e' ∧ e'.own = true ∧ e'.esz = esz ∧ Cells e'.obj cs ∧ (∀ v ∈ cs, oldV h v) ∧ K (.slice h.next off n kn cap) (h.new ⟨true, esz, .row cs⟩))

theorem Sim.as_row {B : Nat} {w0 : W0} {κ : Kap} {h : Hp} {w : World} (s : Sim B w0 κ h w) {o : Nat} {e : Ent} (he : h.at o = some e) {cs : List AV} (hc : Cells e.obj cs) : Sim B w0 κ (h.put o (some ⟨e.own, e.esz, .row cs⟩)) w := by
  have back : ∀ p e', (h.put o (some ⟨e.own, e.esz, .row cs⟩)).at p = some e' → ∃ e'', h.at p = some e'' ∧ e''.own = e'.own ∧ e''.esz = e'.esz ∧ ∀ κ ki ob, ObjSim κ e''.obj e''.esz ki ob → ObjSim κ e'.obj e'.esz ki ob := fun p e' hp => by
    by_cases hpo : p = o
    · subst hpo
      rw [Hp.at_put, if_pos rfl] at hp
      cases hp
      exact ⟨e, he, rfl, rfl, fun κ ki ob hs => hs.of_cells hc⟩
    · rw [Hp.at_put, if_neg hpo] at hp
      exact ⟨e', hp, rfl, rfl, fun _ _ _ hs => hs⟩
  refine ⟨s.below, s.size, fun p e' hp => ?_, fun p q e1 e2 k1 k2 hp hq h1 h2 o1 o2 hne => ?_, s.fresh, s.ghost, fun p e' ki hp hk ho => ?_⟩
  · obtain ⟨e'', b1, b2, b3, b4⟩ := back p e' hp
    obtain ⟨ki, c1, c2, c3, c4⟩ := s.obj p e'' b1
    exact ⟨ki, c1, fun q => c2 (by rw [b2]; exact q), fun q => ⟨(c3 (by rw [b2]; exact q)).1, fun q2 => (c3 (by rw [b2]; exact q)).2 (by rw [b3]; exact q2)⟩, b4 _ _ _ c4⟩
  · obtain ⟨e1', b1, b2, _⟩ := back p e1 hp
    obtain ⟨e2', d1, d2, _⟩ := back q e2 hq
    exact s.apart p q e1' e2' k1 k2 b1 d1 h1 h2 (by rw [b2]; exact o1) (by rw [d2]; exact o2) hne
  · obtain ⟨e'', b1, b2, _⟩ := back p e' hp
    exact s.gap p e'' ki b1 hk (by rw [b2]; exact ho)

theorem one_out (hmix : P.follows .mixedOrders = true) {con : FuncId → Option ConD} (hcon : ConOK P con) {f : FuncId} (hf : con f = none) {c : ConD}
    (H : ∀ avs h K, c avs h K → ∃ fuel, deepT (tabOf P) f (cfn P con fuel) fuel avs h (Out h K)) (B : Nat) (w0 : W0) : ConOne P B w0 f c := by
  intro avs h K hc
  obtain ⟨fuel, hD⟩ := H avs h K hc
  have : callN con (tabOf P) fuel 2 f avs h (Out h K) := by
    show Option.rec (motive := fun _ => Prop) (asOpt (tabOf P f) fun af => argK avs 0 G1.lf fun fr => af.body (callN con (tabOf P) fuel 1) fuel (endK af.res (Out h K)) fr h) (fun c => c avs h (Out h K)) (con f)
    rw [hf]
    exact hD
  obtain ⟨hfn, hrun⟩ := callN_ok (B := B) (w0 := w0) hmix hcon fuel 2 f avs h _ this
  refine ⟨hfn, fun κ w args s hargs R hR => hrun κ w args s hargs R fun κ' av h' V w' k1 k2 k3 k4 => ?_⟩
  obtain ⟨hx, ⟨ho, hK⟩ | ⟨o, off, n, kn, cap, e', cs, esz, rfl, h1, h2, h3, rfl, h5, h6, hK⟩⟩ := k4
  · refine hR κ av h V w' κ.le_refl (s.back k2 k1 fun o e he => ?_) (by rw [← gam_back s k1 av ho]; exact k3) hK
    obtain ⟨ki, h1, _⟩ := s.obj o e he
    rw [hx.same o (s.fresh o ki h1), he]
  · obtain ⟨ki, hki, _⟩ := k2.obj o e' h2
    have k2' := k2.as_row h2 h5
    have hlt : ∀ p e, h.at p = some e → p < h.next := fun p e hp => by
      obtain ⟨k, q1, _⟩ := s.obj p e hp
      exact s.fresh p k q1
    have hs := s.keep k2' k1 (fun p e hp => by
      have := hlt p e hp
      rw [Hp.at_put, if_neg (by omega), hx.same p this, hp]) (o := o) (e := ⟨e'.own, e'.esz, .row cs⟩) (by rw [Hp.at_put, if_pos rfl]) hki h1 h3 ⟨trivial, fun j v hv => by
        rw [cellAt_row'] at hv
        exact h6 v (List.mem_of_getElem? hv)⟩
    rw [h3] at hs
    refine hR (κ.set h.next ki) (.slice h.next off n kn cap) _ V w' (Kap.le_set s.none_next) hs ?_ hK
    simp only [gam, hki, Kap.set_self, Option.bind_some] at k3 ⊢
    exact k3
end Go.Am

namespace Go.Am
set_option linter.unusedSimpArgs false
set_option linter.unusedVariables false
open Go Go.RowKit Go.WideShapes Go.ChangeShapes Go.ChangeAt
variable {P : Program}
theorem con_nil_at {B : Nat} {W : World} : ConAt P (lookC []) B W := fun f c h => by cases h
theorem con_cons_at {B : Nat} {W : World} {L : List (Nat × ConD)} {f : Nat} {c : ConD} (h : ConAt P (lookC L) B W) (h1 : ∀ w0 : W0, w0.w = W → ConOne P B w0 f c) : ConAt P (lookC ((f, c) :: L)) B W := fun g d hd => by
  unfold lookC at hd
  cases hb : Nat.beq (f, c).1 g with
  | true =>
    rw [hb] at hd
    have := Nat.eq_of_beq_eq_true hb
    cases hd
    subst this
    exact h1
  | false => rw [hb] at hd; exact h g d hd

theorem one_code_at (hmix : P.follows .mixedOrders = true) {con : FuncId → Option ConD} {B : Nat} {W : World} (hcon : ConAt P con B W) {f : FuncId} (hf : con f = none) {c : ConD}
    (H : ∀ avs h K, c avs h K → ∃ fuel, deepT (tabOf P) f (cfn P con fuel) fuel avs h K) (w0 : W0) (hw0 : w0.w = W) : ConOne P B w0 f c := by
  intro avs h K hc
  obtain ⟨fuel, hD⟩ := H avs h K hc
  have : callN con (tabOf P) fuel 2 f avs h K := by
    show Option.rec (motive := fun _ => Prop) (asOpt (tabOf P f) fun af => argK avs 0 G1.lf fun fr => af.body (callN con (tabOf P) fuel 1) fuel (endK af.res K) fr h) (fun c => c avs h K) (con f)
    rw [hf]
    exact hD
  exact callN_at hmix hcon fuel 2 w0 hw0 f avs h K this

theorem one_pure_at (hmix : P.follows .mixedOrders = true) {con : FuncId → Option ConD} {B : Nat} {W : World} (hcon : ConAt P con B W) {f : FuncId} (hf : con f = none) {c : ConD}
    (H : ∀ avs h K, c avs h K → ∃ v, oldV h v ∧ K v h ∧ ∃ fuel, ∀ K', (∀ h', Ext h h' → K' v h') → deepT (tabOf P) f (cfn P con fuel) fuel avs h K') (w0 : W0) (hw0 : w0.w = W) : ConOne P B w0 f c := by
  intro avs h K hc
  obtain ⟨v, ho, hK, fuel, hD⟩ := H avs h K hc
  have h2 := hD (fun v' h' => v' = v ∧ Ext h h') (fun h' hx => ⟨rfl, hx⟩)
  have : callN con (tabOf P) fuel 2 f avs h (fun v' h' => v' = v ∧ Ext h h') := by
    show Option.rec (motive := fun _ => Prop) (asOpt (tabOf P f) fun af => argK avs 0 G1.lf fun fr => af.body (callN con (tabOf P) fuel 1) fuel (endK af.res (fun v' h' => v' = v ∧ Ext h h')) fr h) (fun c => c avs h (fun v' h' => v' = v ∧ Ext h h')) (con f)
    rw [hf]
    exact h2
  obtain ⟨hfn, hrun⟩ := callN_at (B := B) hmix hcon fuel 2 w0 hw0 f avs h _ this
  refine ⟨hfn, fun κ w args s hargs R hR => hrun κ w args s hargs R fun κ' av h' V w' k1 k2 k3 ⟨k4, k5⟩ => ?_⟩
  subst k4
  refine hR κ av h V w' κ.le_refl (s.back k2 k1 fun o e he => ?_) (by rw [← gam_back s k1 av ho]; exact k3) hK
  obtain ⟨ki, h1, _⟩ := s.obj o e he
  rw [k5.same o (s.fresh o ki h1), he]

variable {H : Type} {enc : TypeId × Value → H}
/-- The law's call, by its code at whatever it reads. -/
theorem law_calls_at (hmix : P.follows .mixedOrders = true) {W : World} {con : FuncId → Option ConD} (hcon : ConAt P con W.heap.size W) {f : FuncId} (hf : con f = none) {n : Nat} {r : Go.Reach} {b : Nat} {ts : List TypeId} {vs : List Value} {ds : List (DataW H)} {ps : List MemPlace}
    (hA : DataW.TrodAll enc P W 0 (fun _ => true) true ts vs ds ps) (hp : (ts.all fun t => plainT P n t && cell1T P t) = true) (hv : ∀ (i : Nat) t v, ts[i]? = some t → vs[i]? = some v → Value.okWide P W r b t v)
    (hw : (DataW.weightsEach P ts ds).all (· ≤ reachBytes) = true) (hz : W.noneFrozen ps)
    (hrun : ∀ asv h, RdA P h n ts asv ds → ∃ fuel, deepT (tabOf P) f (cfn P con fuel) fuel asv h fun v _ => v = .bool true) :
    Calls P f vs.toArray W fun e w' => e = .returned (.bool true) ∧ Below W.heap.size W w' := by
  have s0 : Sim W.heap.size (W0.of W) (fun _ => none) ⟨E1.lf, 0⟩ W := ⟨Below.refl _ _, Nat.le_refl _, (fun o e he => by rw [E1.getP_lf] at he; cases he), (fun o _ e _ _ _ he => by rw [E1.getP_lf] at he; cases he), (fun o ki hk => by cases hk), (fun b ob hb => by cases hb), (fun o e ki he => by rw [E1.getP_lf] at he; cases he)⟩
  obtain ⟨h, κ, asv, s, _, _, g, hr⟩ := args_in ts vs ds ps hA hp hv hw hz _ _ s0
  obtain ⟨fuel, hD⟩ := hrun asv h hr
  have : callN con (tabOf P) fuel 2 f asv h fun v _ => v = .bool true := by
    show Option.rec (motive := fun _ => Prop) (asOpt (tabOf P f) fun af => argK asv 0 G1.lf fun fr => af.body (callN con (tabOf P) fuel 1) fuel (endK af.res fun v _ => v = .bool true) fr h) (fun c => c asv h fun v _ => v = .bool true) (con f)
    rw [hf]
    exact hD
  refine (callN_at (B := W.heap.size) hmix hcon fuel 2 (W0.of W) rfl f asv h _ this).2 κ W vs s g _ fun κ' av h' v w' k1 k2 k3 k4 => ?_
  subst k4
  simp only [gam, Option.some.injEq] at k3
  exact ⟨by rw [← k3], k2.below⟩
/-- The law's contract. -/
theorem law_contract_at {C : Checked} (hmix : C.prog.follows .mixedOrders = true) (hl : laidOutB C.prog = true) {W : World} {con : FuncId → Option ConD} (hcon : ConAt C.prog con W.heap.size W) {f : FuncId} (hf : con f = none) {fn : Func} {s : ChangeSpec} {n : Nat}
    (hpar : (fn.params.toList.all fun t => plainT C.prog n t && cell1T C.prog t) = true) (hread : (fn.params.toList.all fun t => C.prog.readableRec t && decide (t < C.prog.types.size)) = true)
    {tb : TypeId} (htb : C.prog.underlying tb = some .bool) (hres : fn.resultTypes = #[tb]) (hv0 : s.vars = [])
    (hfn : ∀ (ds : List (DataW H)), ds.length = fn.params.toList.length → (s.fn H ds).results = [.lit (.bool true)] ∧ (s.fn H ds).args = ds ∧ (s.fn H ds).vars = [])
    (hrun : ∀ (asv : List AV) (h : Hp) (ds : List (DataW H)), RdA C.prog h n fn.params.toList asv ds → ∃ fuel, deepT (tabOf C.prog) f (cfn C.prog con fuel) fuel asv h fun v _ => v = .bool true)
    {apart fresh handsOn again : Bool} {base : Nat} {args : Array Value} {ds gs : List (DataW H)} {before : List MemPlace}
    (hval : ∀ (j : Nat) t v, fn.params[j]? = some t → args[j]? = some v → Value.okWide C.prog W .any base t v)
    (hW : DataW.Whole enc C.prog fn.params.toList s.vars apart W args.toList ds gs before)
    (hw : (DataW.weightsEach C.prog (fn.params.toList ++ s.plain.varTypes C.prog) (ds ++ gs)).all (· ≤ reachBytes) = true) :
    Calls C.prog f args W fun e W' => ∃ v, e = .returned v ∧ s.post enc C.prog fn apart fresh handsOn again W args v W' := by
  have hW' := hW
  obtain ⟨p, q, hA, hV, rfl, hfz, hnd⟩ := hW
  have hA' : DataW.TrodAll enc C.prog W 0 (fun _ => true) true fn.params.toList args.toList ds p := hA
  rw [hv0] at hV
  obtain ⟨rfl, rfl⟩ := trodVars_none hV
  have hvt : s.plain.varTypes C.prog = [] := by
    simp [DataSpec.varTypes, ChangeSpec.plain, hv0]
  rw [hvt, List.append_nil, List.append_nil] at hw
  rw [List.append_nil] at hW' hfz
  have hlen : ds.length = fn.params.toList.length := trodAll_length _ _ _ _ hA'
  obtain ⟨hr1, hr2, hr3⟩ := hfn ds hlen
  have hcall := law_calls_at (H := H) hmix hcon hf hA' hpar (b := base) (r := .any) (fun i t v h1 h2 => hval i t v (by simpa using h1) (by simpa using h2)) hw hfz (fun asv h hr => hrun asv h ds hr)
  refine Calls.mono (by simpa using hcall) fun e W' he => ?_
  obtain ⟨rfl, hb⟩ := he
  refine ⟨_, rfl, post_of_below (pa := p) (pv := []) hW' ?_ ?_ ?_ (by simp) hb ?_⟩
  · intro b sp hd
    rw [hres, List.append_nil, hr1]
    exact trodAll_cons_mk (shut_bool htb _) trodAll_mk0
  · intro sp hsp
    rw [List.append_nil, hr2]
    exact trodAll_stays hl _ _ _ _ hread hA' (fun x hx => hb.same (hW'.lt x hx)) hsp
  · intro sp hsp
    rw [List.append_nil, hr3, hv0]
    exact rfl
  · exact ok_one hres rfl (okWide_bool_mk htb _)
end Go.Am

namespace Go.Am
set_option linter.unusedSimpArgs false
set_option linter.unusedVariables false
open Go Go.RowKit
variable {P : Program}
/-- .. and all but the slice's own row stays. -/
theorem append_own2 {h0 h : Hp} {esz bytes : Nat} {v x : AV} {els news : List (List AV)} {B : Nat} {K : AV → Hp → Prop} (hx : Ext h0 h) (hv : SlN h esz v els B) (hB : h0.next ≤ B) (hBn : B ≤ h.next) (hs : RdC h esz x news) (hl : ∀ e ∈ news, e.length = esz) (hne : news ≠ [])
    (hb : (els.length + news.length) * bytes ≤ 140737488355328)
    (q : ∀ v' h', Ext h0 h' → h.next < h'.next → (∀ p, p < h.next → (∀ off n kn c, v ≠ .slice p off n kn c) → h'.at p = h.at p) → SlN h' esz v' (els ++ news) h.next → K v' h') : vAppend2 esz bytes false v x h K := by
  have fin : ∀ {hh : Hp} {ob : AObj}, Ext h0 hh → hh.next = h.next → (∀ p, p < h.next → (∀ off n kn c, v ≠ .slice p off n kn c) → hh.at p = h.at p) → Cells ob (els ++ news).flatten → (∀ e ∈ els, e.length = esz) → finK esz (els.length + news.length) hh ob K := fun {hh ob} e1 e2 e3 e4 e5 => by
    unfold finK
    rw [newK_eq']
    have hne' : els ++ news ≠ [] := by simp [hne]
    refine q _ _ (e1.new _) (by rw [Hp.next_new]; omega) (fun p hp hv => by rw [Hp.at_new, if_neg (by omega), e3 p hp hv]) (.inr ⟨hh.next, ob, by simp, by omega, by simp [Hp.next_new], by rw [Hp.at_new_self], e4, fun e he => ?_, hne'⟩)
    rcases List.mem_append.1 he with he | he
    · exact e5 e he
    · exact hl e he
  rcases hv with ⟨rfl, rfl⟩ | ⟨o, ob, rfl, h1, h2, h3, h4, h5, h6⟩
  · show appendK esz bytes false h .nilslice x K
    show srcK h esz false x (K .nilslice h) (fun m l => gd (Nat.ble (m * bytes) 140737488355328) (rowK false l fun ob => finK esz m h ob K)) _
    rw [srcK_cells hs hne, show Nat.ble (news.length * bytes) 140737488355328 = true by simpa using hb, gd_true]
    refine rowK_intro _ _ fun ob hob => ?_
    have := fin (hh := h) (ob := ob) hx rfl (fun _ _ _ => rfl) (by simpa using hob) (by simp)
    simpa using this
  · show srcK h esz false x _ (fun m l => joinK h o 0 els.length m false 0 esz bytes (fun ob => growK ob 0 (els.length * esz) l) _ K) _
    rw [srcK_cells hs hne]
    show gd (Nat.ble ((els.length + news.length) * bytes) 140737488355328) (asOpt (h.at o) fun e => gd (Nat.beq e.esz esz) (gd (e.own && Nat.ble 0 (0 * esz)) (growK e.obj 0 (els.length * esz) news.flatten fun ob => putK h o none fun h => forceN (els.length + news.length) fun n => finK esz n h ob K)))
    rw [show Nat.ble ((els.length + news.length) * bytes) 140737488355328 = true by simpa using hb, gd_true, h3, asOpt_some, show Nat.beq esz esz = true by simp, gd_true, show (true && Nat.ble 0 (0 * esz)) = true by simp, gd_true, ← flat_len h5]
    refine growK_intro h4 fun ob' hob' => ?_
    rw [putK_eq', forceN_eq]
    refine fin (hx.put _ (by omega)) rfl (fun p hp hv => by rw [Hp.at_put, if_neg (fun e => hv _ _ _ _ (by rw [e]))]) (by rw [List.flatten_append]; exact hob') h5

end Go.Am

namespace Go.Am
set_option linter.unusedSimpArgs false
set_option linter.unusedVariables false
open Go Go.RowKit
section
variable {h : Hp} {K : AV → Hp → Prop}
theorem LoadG.mk2 {o off p : Nat} {k : AV → Prop} {e : Ent} {v : AV} (h1 : h.at o = some e) (h2 : cellAt e.obj p = some v) (hp : off = p) (q : k v) : LoadG h o off k := ⟨e, v, h1, by rw [hp]; exact h2, q⟩
theorem LoadsG.mk2 {n o off p : Nat} {k : List AV → Prop} {e : Ent} {l : List AV} (h1 : h.at o = some e) (h2 : cellsO e.obj n p = some l) (hp : off = p) (q : k l) : LoadsG h n o off k := ⟨e, l, h1, by rw [hp]; exact h2, q⟩
instance stEqlC (a : List UInt8) (n x : Nat) : Step (vEql (S a) (.str n x) h K) (CondG (x < 256 ^ n) (Way (a = bytesL n x) (K (.bool true) h) (K (.bool false) h))) := ⟨fun ⟨c, w⟩ => by
  rw [S_of c, vEql_S]; exact way_b (F := fun b => K (.bool b) h) w⟩
instance stNeqC (a : List UInt8) (n x : Nat) : Step (vNeq (S a) (.str n x) h K) (CondG (x < 256 ^ n) (Way (a = bytesL n x) (K (.bool false) h) (K (.bool true) h))) := ⟨fun ⟨c, w⟩ => by
  rw [S_of c, vNeq_S]; exact way_b (F := fun b => K (.bool (!b)) h) w⟩
instance stNeB (a b : Bool) : Step (vEq true eqB (.bool a) (.bool b) h K) (Way (a = b) (K (.bool false) h) (K (.bool true) h)) := ⟨fun w => by
  rw [vEq_t, eqB_b, asOpt_some]
  by_cases q : a = b
  · have := w.1 q
    subst q
    simpa using this
  · have := w.2 q
    have e : (a == b) = false := by simpa using q
    rw [e]; exact this⟩
theorem wrapU64_in {n : Int} (h1 : 0 ≤ n) (h2 : n ≤ 18446744073709551615) : IntKind.u64.wrap n = n := by
  have := wrapF_eq .u64 n
  rw [← this]
  cases n with
  | ofNat m =>
    show Bool.rec (motive := fun _ => Int) (IntKind.u64.wrap (.ofNat m)) (.ofNat m) (Nat.ble m 18446744073709551615) = _
    rw [Nat.ble_eq_true_of_le (by simp at h2; omega)]
  | negSucc m => omega
instance stToU64 (k : IntKind) (a : Int) : Step (vToInt .u64 (.int k a) h K) (CondG (0 ≤ a ∧ a ≤ 9223372036854775807) (K (.int .u64 a) h)) := ⟨fun ⟨c, q⟩ => by
  rw [vToInt_int, wrapU64_in c.1 (by omega)]; exact q⟩
instance stToI64 (k : IntKind) (a : Int) : Step (vToInt .i64 (.int k a) h K) (CondG (-9223372036854775808 ≤ a ∧ a ≤ 9223372036854775807) (K (.int .i64 a) h)) := ⟨fun ⟨c, q⟩ => by
  rw [vToInt_in k a c.1 c.2]; exact q⟩
instance stShr1 (a : Int) : Step (vShr (.int .u64 a) (.int .u64 1) h K) (CondG (0 ≤ a) (K (.int .u64 (a / 2)) h)) := ⟨fun ⟨c, q⟩ => by
  obtain ⟨m, rfl⟩ := Int.eq_ofNat_of_zero_le c
  show mkI .u64 (.ofNat (m >>> (Nat.min 1 IntKind.u64.bits))) (fun v => K v h)
  rw [mkI_eq]
  have : (Int.ofNat (m >>> (Nat.min 1 IntKind.u64.bits))) = (m : Int) / 2 := by
    show ((m >>> 1 : Nat) : Int) = _
    rw [Nat.shiftRight_succ, Nat.shiftRight_zero]
    omega
  rw [this]; exact q⟩
instance stCallV (f : FuncId) (args : List AV) (cf : CallK) : Step (vCallV (.func f [] []) args cf h K) (cf f args h K) := ⟨fun q => by
  show cf f ([] ++ args ++ []) h K
  rw [List.nil_append, List.append_nil]; exact q⟩
/-- A slice cut short at its end. -/
theorem cut_slice {esz o off n : Nat} {kn : Bool} {c : Nat} {i : Nat} (hi : i ≤ n) (hc : kn = true → n ≤ c) (q : K (.slice o off i kn c) h) : vSlice2 esz (.slice o off n kn c) none (some (.int .i64 i)) h K := by
  show vSlice esz (.slice o off n kn c) none (some (.int .i64 i)) h K
  cases kn with
  | false =>
    show bndV (some (.int .i64 i)) n n (fun hi => Bool.rec (motive := fun _ => Prop)
      (forceN (off + 0 * esz) fun off' => forceN (c + 0) fun c => K (.sliceE o off off' c) h)
      (forceN (off + 0 * esz) fun off => forceN (hi - 0) fun n => forceN (c + 0) fun c => K (.slice o off n false c) h) (Nat.blt 0 n || Nat.beq 0 0))
    rw [bndV_some .i64 i n n _ (by omega) (by omega)]
    have : (Nat.blt 0 n || Nat.beq 0 0) = true := by simp
    rw [this]
    simp only [forceN_eq, Nat.zero_mul, Nat.add_zero, Nat.sub_zero, Int.toNat_natCast]
    exact q
  | true =>
    have hc := hc rfl
    show bndV (some (.int .i64 i)) n c (fun hi => forceN (Bool.rec (motive := fun _ => Nat) (off + 0 * esz) off (Nat.beq c 0)) fun off => forceN (hi - 0) fun n => forceN (c - 0) fun c => K (.slice o off n true c) h)
    rw [bndV_some .i64 i n c _ (by omega) (by omega)]
    have : (Bool.rec (motive := fun _ => Nat) (off + 0 * esz) off (Nat.beq c 0) : Nat) = off := by
      cases Nat.beq c 0 <;> simp
    simp only [forceN_eq, this, Nat.sub_zero, Int.toNat_natCast]
    exact q
theorem cut_nil {esz : Nat} (q : K .nilslice h) : vSlice2 esz .nilslice none (some (.int .i64 0)) h K := q
theorem cut_z {esz o : Nat} (q : K (.sliceZ o) h) : vSlice2 esz (.sliceZ o) none (some (.int .i64 0)) h K := q
end
end Go.Am

namespace Go.Am
set_option linter.unusedSimpArgs false
set_option linter.unusedVariables false
open Go Go.RowKit Go.Shelf Go.Proofs
variable {P : Program} {ρ : Ren}

/-- A call that leaves all that was there as it was. -/
theorem Sim.left {B : Nat} {w0 : W0} {w w' : World} {κ : Kap} {h : Hp} (s : Sim B w0 κ h w) (hb : Below w.heap.size w w') : Sim B w0 κ h w' := by
  have same : ∀ (b : Nat) (ob : Obj), w.heap[b]? = some ob → w'.heap[b]? = some ob := fun b ob hb' => by
    rw [hb.block b (Array.getElem?_eq_some_iff.1 hb').1]; exact hb'
  refine ⟨s.below.trans (hb.mono s.size), Nat.le_trans s.size hb.size, fun o e he => ?_, s.apart, s.fresh, fun b ob hb' => ⟨(s.ghost b ob hb').1, same _ _ (s.ghost b ob hb').2⟩, s.gap⟩
  obtain ⟨ki, h1, h2, h3, h4⟩ := s.obj o e he
  obtain ⟨y, hy⟩ := Option.isSome_iff_exists.1 h4.isSome
  refine ⟨ki, h1, h2, h3, ?_⟩
  rw [same _ _ hy, ← hy]; exact h4

def strsK : List AV → (List (Nat × Nat) → Prop) → Prop
  | [], k => k []
  | v :: l, k => asStr v fun n x => strsK l fun r => k ((n, x) :: r)
def catT (m y : Nat) : List (Nat × Nat) → Nat × Nat
  | [] => (0, 0)
  | p :: r => match catT m y r with | (l, z) => (m + (p.1 + l), y + (p.2 + z <<< (8 * p.1)) <<< (8 * m))
def joinN (m y : Nat) : List (Nat × Nat) → Nat × Nat
  | [] => (0, 0)
  | p :: r => match catT m y r with | (l, z) => (p.1 + l, p.2 + z <<< (8 * p.1))
/-- strings.Join. -/
noncomputable def strJoinK : ConD := fun args h K => match args with
  | [s, sep] => asStr sep fun m y => asSl s (K (.str 0 0) h) fun o off n _ _ => objAt h o fun e => cellsK e.obj n off fun l => strsK l fun xs =>
    gd (Nat.ble n 140737488355328 && Nat.ble (joinN m y xs).1 140737488355328) (forceN (joinN m y xs).1 fun N => forceN (joinN m y xs).2 fun X => K (.str N X) h)
  | _ => False
/-- internal/stringslite.Clone. -/
noncomputable def strCloneK : ConD := fun args h K => match args with
  | [s] => asStr s fun n z => gd (Nat.ble n 281474976710656) (K (.str n z) h)
  | _ => False

theorem strsK_iff : ∀ (l : List AV) (k : List (Nat × Nat) → Prop), strsK l k → ∃ xs, k xs ∧ l = xs.map fun p => .str p.1 p.2
  | [], k, h => ⟨[], h, rfl⟩
  | v :: l, k, h => by
    obtain ⟨n, x, rfl, h⟩ := asStr_iff.1 (show asStr v _ from h)
    obtain ⟨xs, hk, rfl⟩ := strsK_iff l _ h
    exact ⟨(n, x) :: xs, hk, rfl⟩
theorem gams_strs {κ : Kap} : ∀ (xs : List (Nat × Nat)) (L : List Value), gams κ (xs.map fun p => .str p.1 p.2) = some L → L = xs.map (fun p => .string (strOf p.1 p.2)) ∧ ∀ p ∈ xs, p.2 < 256 ^ p.1
  | [], L, h => by simp [gams] at h; subst h; simp
  | p :: xs, L, h => by
    simp only [List.map_cons, gams, Option.bind_eq_some_iff, Option.map_eq_some_iff] at h
    obtain ⟨v, h1, r, h2, rfl⟩ := h
    obtain ⟨rfl, h3⟩ := gams_strs xs r h2
    simp only [gam] at h1
    split at h1
    · rename_i hlt
      simp only [Option.some.injEq] at h1
      subst h1
      refine ⟨rfl, fun q hq => ?_⟩
      rcases List.mem_cons.1 hq with rfl | hq
      · exact hlt
      · exact h3 q hq
    · cases h1
theorem catT_ok {m y : Nat} (hy : y < 256 ^ m) : ∀ (r : List (Nat × Nat)), (∀ p ∈ r, p.2 < 256 ^ p.1) → bytesL (catT m y r).1 (catT m y r).2 = Lib.joinTail (bytesL m y) (r.map fun p => bytesL p.1 p.2)
  | [], _ => by simp [catT, bytesL, Lib.joinTail]
  | p :: r, h => by
    have ih := catT_ok hy r (fun q hq => h q (by simp [hq]))
    have hp := h p (by simp)
    simp only [catT]
    rw [bytesL_join _ _ _ _ hy, bytesL_join _ _ _ _ hp, ih]
    simp [Lib.joinTail]
theorem joinN_ok {m y : Nat} (hy : y < 256 ^ m) : ∀ (xs : List (Nat × Nat)), (∀ p ∈ xs, p.2 < 256 ^ p.1) → bytesL (joinN m y xs).1 (joinN m y xs).2 = Lib.join (xs.map fun p => bytesL p.1 p.2) (bytesL m y)
  | [], _ => by simp [joinN, bytesL, Lib.join_nil]
  | p :: r, h => by
    have ih := catT_ok hy r (fun q hq => h q (by simp [hq]))
    have hp := h p (by simp)
    simp only [joinN]
    rw [bytesL_join _ _ _ _ hp, ih, List.map_cons, Lib.join_cons]
theorem catT_lt {m y : Nat} (hy : y < 256 ^ m) : ∀ (r : List (Nat × Nat)), (∀ p ∈ r, p.2 < 256 ^ p.1) → (catT m y r).2 < 256 ^ (catT m y r).1
  | [], _ => by simp [catT]
  | p :: r, h => by
    simp only [catT]
    exact join_lt _ _ _ _ hy (join_lt _ _ _ _ (h p (by simp)) (catT_lt hy r (fun q hq => h q (by simp [hq]))))
theorem joinN_lt {m y : Nat} (hy : y < 256 ^ m) : ∀ (xs : List (Nat × Nat)), (∀ p ∈ xs, p.2 < 256 ^ p.1) → (joinN m y xs).2 < 256 ^ (joinN m y xs).1
  | [], _ => by simp [joinN]
  | p :: r, h => by
    simp only [joinN]
    exact join_lt _ _ _ _ (h p (by simp)) (catT_lt hy r (fun q hq => h q (by simp [hq])))

theorem strJoin_ok (L : Lays.n156 P ρ) (X : Builder.Extra P ρ) (B : Nat) (w0 : W0) : ConOne P B w0 (ρ.f 156) strJoinK := by
  intro avs h K hD
  refine ⟨⟨_, L.f156, by show "strings.Join" ≠ _; decide, rfl⟩, fun κ w args s hargs R hR => ?_⟩
  match avs, hD with
  | [sl, sep], hD =>
    obtain ⟨m, y, rfl, hD⟩ := asStr_iff.1 (show asStr sep _ from hD)
    simp only [gams, Option.bind_eq_some_iff, Option.map_eq_some_iff, Option.some.injEq] at hargs
    obtain ⟨S, hS, r, ⟨SEP, hSEP, r2, rfl, rfl⟩, rfl⟩ := hargs
    have hy : y < 256 ^ m ∧ SEP = .string (strOf m y) := by
      simp only [gam] at hSEP
      split at hSEP
      · rename_i hlt; exact ⟨hlt, by simpa using hSEP.symm⟩
      · cases hSEP
    obtain ⟨hy, rfl⟩ := hy
    rcases asSl_iff.1 hD with ⟨rfl, hD⟩ | ⟨o, off, n, kn, c, rfl, hD⟩
    · simp only [gam, Option.some.injEq] at hS
      subst hS
      refine (Any.strings_Join_none L X none 0 (strOf m y) w).mono fun e w' ⟨he, hw⟩ => ?_
      subst he; subst hw
      refine hR κ (.str 0 0) h _ _ κ.le_refl s ?_ hD
      simp [gam, strOf, bytesL]
    · obtain ⟨ki, cap, hk, rfl, hcap⟩ := gamk κ o off n c kn S hS
      obtain ⟨e, he, hD⟩ := objAt_iff.1 hD
      obtain ⟨l, hD, hl, hc⟩ := cellsK_iff _ _ _ _ hD
      obtain ⟨xs, hD3, el⟩ := strsK_iff _ _ hD
      clear hD
      subst el
      obtain ⟨hg, hD⟩ := gd_iff.1 hD3
      simp only [forceN_eq] at hD
      simp only [Bool.and_eq_true, Nat.ble_eq] at hg
      obtain ⟨VL, f1, f2, f3⟩ := s.cells he hk _ off (fun j hj => hc j (by omega))
      obtain ⟨rfl, hlt⟩ := gams_strs xs VL f1
      have hn : n = (xs.map fun p => strOf p.1 p.2).length := by simpa using hl.symm
      have hdata : (xs.map fun p => strOf p.1 p.2).map (·.data.toList) = xs.map fun p => bytesL p.1 p.2 := by
        rw [List.map_map]; apply List.map_congr_left; intro p _; simp [strOf_data]
      have hjoin : (⟨(Lib.join ((xs.map fun p => strOf p.1 p.2).map (·.data.toList)) (strOf m y).data.toList).toArray⟩ : ByteArray) = strOf (joinN m y xs).1 (joinN m y xs).2 := by
        rw [hdata, strOf_data, ← joinN_ok hy xs hlt]; rfl
      have hlen : (Lib.join ((xs.map fun p => strOf p.1 p.2).map (·.data.toList)) (strOf m y).data.toList).length ≤ 140737488355328 := by
        rw [hdata, strOf_data, ← joinN_ok hy xs hlt]
        simp only [bytesL, List.length_map, List.length_range]
        exact hg.2
      have hb : ki.blk < w.heap.size := by
        obtain ⟨ki', h1, _, _, h4⟩ := s.obj o e he
        rw [hk] at h1; cases h1
        obtain ⟨y, hy⟩ := Option.isSome_iff_exists.1 h4.isSome
        exact (Array.getElem?_eq_some_iff.1 hy).1
      have hcall := Any.strings_Join L X ki.blk (ki.base + off) cap (xs.map fun p => strOf p.1 p.2) (strOf m y) w (fun j x hx => by
          rw [List.getElem?_map, Option.map_eq_some_iff] at hx
          obtain ⟨p, hp, rfl⟩ := hx
          have := f3 j (.string (strOf p.1 p.2)) (by rw [List.getElem?_map, hp]; rfl)
          simpa [Ki.at, Nat.add_assoc] using this) hb (by rw [← hn]; exact hg.1) (by rw [← hn]; exact hcap) hlen
      rw [← hn] at hcall
      refine hcall.mono fun e w' ⟨he, hw⟩ => ?_
      subst he
      rw [hjoin]
      refine hR κ (.str (joinN m y xs).1 (joinN m y xs).2) h _ w' κ.le_refl (s.left hw) ?_ hD
      simp only [gam]
      rw [if_pos (joinN_lt hy xs hlt)]
theorem strClone_ok (L : LaysPu.n25 P ρ) (B : Nat) (w0 : W0) : ConOne P B w0 (ρ.f 25) strCloneK := by
  intro avs h K hD
  refine ⟨⟨_, L.f25, by show "internal/stringslite.Clone" ≠ _; decide, rfl⟩, fun κ w args s hargs R hR => ?_⟩
  match avs, hD with
  | [v], hD =>
    obtain ⟨n, z, rfl, hD⟩ := asStr_iff.1 (show asStr v _ from hD)
    obtain ⟨hg, hD⟩ := gd_iff.1 hD
    simp only [gams, Option.bind_eq_some_iff, Option.map_eq_some_iff, Option.some.injEq] at hargs
    obtain ⟨S, hS, r, rfl, rfl⟩ := hargs
    have hS2 := hS
    simp only [gam] at hS
    split at hS
    · simp only [Option.some.injEq] at hS
      subst hS
      refine (AnyPu.stringslite_Clone L (strOf n z) w (by rw [strOf_size]; simpa using hg)).mono fun e w' ⟨he, hw⟩ => ?_
      subst he
      exact hR κ (.str n z) h _ w' κ.le_refl (s.left hw) hS2 hD
    · cases hS

end Go.Am

namespace Go.Am
set_option linter.unusedSimpArgs false
set_option linter.unusedVariables false
open Go Go.RowKit Go.WideShapes Go.ChangeShapes Go.ChangeAt
variable {P : Program} {H : Type} {enc : TypeId × Value → H}
def structT (P : Program) (t : TypeId) : Bool := match P.underlying t with
  | some (.struct _) => true
  | _ => false
def RdV (P : Program) (h : Hp) (n : Nat) (t : TypeId) (a : AV) (d : DataW H) : Prop := (cell1T P t = true ∧ RdT P h n t [a] d) ∨ (structT P t = true ∧ ∃ l, a = .agg l ∧ RdT P h n t l d)
def RdB (P : Program) (h : Hp) (n : Nat) : List TypeId → List AV → List (DataW H) → Prop
  | [], [], [] => True
  | t :: ts, a :: asv, d :: ds => RdV P h n t a d ∧ RdB P h n ts asv ds
  | _, _, _ => False
theorem struct_cells {W : World} {r : Go.Reach} {b : Nat} {t : TypeId} {v : Value} (ht : structT P t = true) (hv : Value.okWide P W r b t v) : ∃ cs, v = .agg cs := by
  unfold structT at ht
  unfold Value.okWide at hv
  split at ht
  · rename_i e; rw [e] at hv
    obtain ⟨cs, h1, _⟩ := hv
    exact ⟨cs, h1⟩
  · cases ht
theorem args_inB {W : World} {n : Nat} {r : Go.Reach} {b : Nat} : ∀ (ts : List TypeId) (vs : List Value) (ds : List (DataW H)) (ps : List MemPlace), DataW.TrodAll enc P W 0 (fun _ => true) true ts vs ds ps →
    (ts.all fun t => plainT P n t && (cell1T P t || structT P t)) = true → (∀ (i : Nat) t v, ts[i]? = some t → vs[i]? = some v → Value.okWide P W r b t v) → (DataW.weightsEach P ts ds).all (· ≤ reachBytes) = true → W.noneFrozen ps →
    ∀ h κ, Sim W.heap.size (W0.of W) κ h W → ∃ h' κ' asv, Sim W.heap.size (W0.of W) κ' h' W ∧ κ.le κ' ∧ Ext h h' ∧ gams κ' asv = some vs ∧ RdB P h' n ts asv ds
  | [], [], [], ps, _, _, _, _, _, h, κ, s => ⟨h, κ, [], s, κ.le_refl, Ext.refl _, rfl, trivial⟩
  | t :: ts, v :: vs, d :: ds, ps, hA, hp, hv, hw, hf, h, κ, s => by
    obtain ⟨p, q, ⟨fuel, h1⟩, h2, rfl⟩ := hA
    simp only [List.all_cons, Bool.and_eq_true] at hp
    obtain ⟨⟨hp1, hp2⟩, hp3⟩ := hp
    rw [DataW.weightsEach, List.all_append, Bool.and_eq_true] at hw
    cases hc1 : cell1T P t with
    | true =>
      have hc := cells_one hc1 (hv 0 t v rfl rfl)
      rw [hc] at h1
      obtain ⟨h1', κ1, a, s1, k1, x1, g1, o1, r1⟩ := in_one W n ⟨t, [v], d, p, fuel⟩ ⟨hp1, h1, hw.1, noneFrozen_of hf fun x hx => List.mem_append_left _ hx⟩ h κ s
      obtain ⟨h2', κ2, asv, s2, k2, x2, g2, r2⟩ := args_inB ts vs ds q h2 hp3 (fun i t v ht hv' => hv (i + 1) t v (by simpa using ht) (by simpa using hv')) hw.2 (noneFrozen_of hf fun x hx => List.mem_append_right _ hx) h1' κ1 s1
      have hl : a.length = 1 := (gams_length _ _ g1).symm
      obtain ⟨a, rfl⟩ : ∃ x, a = [x] := by
        match a, hl with
        | [x], _ => exact ⟨x, rfl⟩
      refine ⟨h2', κ2, a :: asv, s2, Kap.le_trans k1 k2, x1.trans x2, ?_, .inl ⟨hc1, RdT.mono x2 _ _ _ _ r1⟩, r2⟩
      simpa using gams_append _ _ _ _ (gams_mono k2 _ _ g1) g2
    | false =>
      have hst : structT P t = true := by rw [hc1] at hp2; simpa using hp2
      obtain ⟨cs, rfl⟩ := struct_cells hst (hv 0 t v rfl rfl)
      obtain ⟨h1', κ1, a, s1, k1, x1, g1, o1, r1⟩ := in_one W n ⟨t, cs.toList, d, p, fuel⟩ ⟨hp1, h1, hw.1, noneFrozen_of hf fun x hx => List.mem_append_left _ hx⟩ h κ s
      obtain ⟨h2', κ2, asv, s2, k2, x2, g2, r2⟩ := args_inB ts vs ds q h2 hp3 (fun i t v ht hv' => hv (i + 1) t v (by simpa using ht) (by simpa using hv')) hw.2 (noneFrozen_of hf fun x hx => List.mem_append_right _ hx) h1' κ1 s1
      refine ⟨h2', κ2, .agg a :: asv, s2, Kap.le_trans k1 k2, x1.trans x2, ?_, .inr ⟨hst, a, rfl, RdT.mono x2 _ _ _ _ r1⟩, r2⟩
      have g1' : gam κ2 (.agg a) = some (.agg cs) := by
        have := gams_mono k2 _ _ g1
        show (gams κ2 a).bind _ = _
        rw [this]
        have hall : (cs.toList).all Value.oneCell' = true := List.all_eq_true.2 o1
        show (if cs.toList.all Value.oneCell' = true then some (Value.agg cs.toList.toArray) else none) = _
        rw [if_pos hall]
      simp only [gams, g1', Option.bind_some, g2, Option.map_some]
  | [], _ :: _, _, _, q, _, _, _, _, _, _, _ => q.elim
  | [], [], _ :: _, _, q, _, _, _, _, _, _, _ => q.elim
  | _ :: _, [], _, _, q, _, _, _, _, _, _, _ => q.elim
  | _ :: _, _ :: _, [], _, q, _, _, _, _, _, _, _ => q.elim

/-- The law's call, by its code at whatever it reads. -/
theorem law_calls_atB (hmix : P.follows .mixedOrders = true) {W : World} {con : FuncId → Option ConD} (hcon : ConAt P con W.heap.size W) {f : FuncId} (hf : con f = none) {n : Nat} {r : Go.Reach} {b : Nat} {ts : List TypeId} {vs : List Value} {ds : List (DataW H)} {ps : List MemPlace}
    (hA : DataW.TrodAll enc P W 0 (fun _ => true) true ts vs ds ps) (hp : (ts.all fun t => plainT P n t && (cell1T P t || structT P t)) = true) (hv : ∀ (i : Nat) t v, ts[i]? = some t → vs[i]? = some v → Value.okWide P W r b t v)
    (hw : (DataW.weightsEach P ts ds).all (· ≤ reachBytes) = true) (hz : W.noneFrozen ps)
    (hrun : ∀ asv h, RdB P h n ts asv ds → ∃ fuel, deepT (tabOf P) f (cfn P con fuel) fuel asv h fun v _ => v = .bool true) :
    Calls P f vs.toArray W fun e w' => e = .returned (.bool true) ∧ Below W.heap.size W w' := by
  have s0 : Sim W.heap.size (W0.of W) (fun _ => none) ⟨E1.lf, 0⟩ W := ⟨Below.refl _ _, Nat.le_refl _, (fun o e he => by rw [E1.getP_lf] at he; cases he), (fun o _ e _ _ _ he => by rw [E1.getP_lf] at he; cases he), (fun o ki hk => by cases hk), (fun b ob hb => by cases hb), (fun o e ki he => by rw [E1.getP_lf] at he; cases he)⟩
  obtain ⟨h, κ, asv, s, _, _, g, hr⟩ := args_inB ts vs ds ps hA hp hv hw hz _ _ s0
  obtain ⟨fuel, hD⟩ := hrun asv h hr
  have : callN con (tabOf P) fuel 2 f asv h fun v _ => v = .bool true := by
    show Option.rec (motive := fun _ => Prop) (asOpt (tabOf P f) fun af => argK asv 0 G1.lf fun fr => af.body (callN con (tabOf P) fuel 1) fuel (endK af.res fun v _ => v = .bool true) fr h) (fun c => c asv h fun v _ => v = .bool true) (con f)
    rw [hf]
    exact hD
  refine (callN_at (B := W.heap.size) hmix hcon fuel 2 (W0.of W) rfl f asv h _ this).2 κ W vs s g _ fun κ' av h' v w' k1 k2 k3 k4 => ?_
  subst k4
  simp only [gam, Option.some.injEq] at k3
  exact ⟨by rw [← k3], k2.below⟩
/-- The law's contract. -/
theorem law_contract_atB {C : Checked} (hmix : C.prog.follows .mixedOrders = true) (hl : laidOutB C.prog = true) {W : World} {con : FuncId → Option ConD} (hcon : ConAt C.prog con W.heap.size W) {f : FuncId} (hf : con f = none) {fn : Func} {s : ChangeSpec} {n : Nat}
    (hpar : (fn.params.toList.all fun t => plainT C.prog n t && (cell1T C.prog t || structT C.prog t)) = true) (hread : (fn.params.toList.all fun t => C.prog.readableRec t && decide (t < C.prog.types.size)) = true)
    {tb : TypeId} (htb : C.prog.underlying tb = some .bool) (hres : fn.resultTypes = #[tb]) (hv0 : s.vars = [])
    (hfn : ∀ (ds : List (DataW H)), ds.length = fn.params.toList.length → (s.fn H ds).results = [.lit (.bool true)] ∧ (s.fn H ds).args = ds ∧ (s.fn H ds).vars = [])
    (hrun : ∀ (asv : List AV) (h : Hp) (ds : List (DataW H)), RdB C.prog h n fn.params.toList asv ds → ∃ fuel, deepT (tabOf C.prog) f (cfn C.prog con fuel) fuel asv h fun v _ => v = .bool true)
    {apart fresh handsOn again : Bool} {base : Nat} {args : Array Value} {ds gs : List (DataW H)} {before : List MemPlace}
    (hval : ∀ (j : Nat) t v, fn.params[j]? = some t → args[j]? = some v → Value.okWide C.prog W .any base t v)
    (hW : DataW.Whole enc C.prog fn.params.toList s.vars apart W args.toList ds gs before)
    (hw : (DataW.weightsEach C.prog (fn.params.toList ++ s.plain.varTypes C.prog) (ds ++ gs)).all (· ≤ reachBytes) = true) :
    Calls C.prog f args W fun e W' => ∃ v, e = .returned v ∧ s.post enc C.prog fn apart fresh handsOn again W args v W' := by
  have hW' := hW
  obtain ⟨p, q, hA, hV, rfl, hfz, hnd⟩ := hW
  have hA' : DataW.TrodAll enc C.prog W 0 (fun _ => true) true fn.params.toList args.toList ds p := hA
  rw [hv0] at hV
  obtain ⟨rfl, rfl⟩ := trodVars_none hV
  have hvt : s.plain.varTypes C.prog = [] := by
    simp [DataSpec.varTypes, ChangeSpec.plain, hv0]
  rw [hvt, List.append_nil, List.append_nil] at hw
  rw [List.append_nil] at hW' hfz
  have hlen : ds.length = fn.params.toList.length := trodAll_length _ _ _ _ hA'
  obtain ⟨hr1, hr2, hr3⟩ := hfn ds hlen
  have hcall := law_calls_atB (H := H) hmix hcon hf hA' hpar (b := base) (r := .any) (fun i t v h1 h2 => hval i t v (by simpa using h1) (by simpa using h2)) hw hfz (fun asv h hr => hrun asv h ds hr)
  refine Calls.mono (by simpa using hcall) fun e W' he => ?_
  obtain ⟨rfl, hb⟩ := he
  refine ⟨_, rfl, post_of_below (pa := p) (pv := []) hW' ?_ ?_ ?_ (by simp) hb ?_⟩
  · intro b sp hd
    rw [hres, List.append_nil, hr1]
    exact trodAll_cons_mk (shut_bool htb _) trodAll_mk0
  · intro sp hsp
    rw [List.append_nil, hr2]
    exact trodAll_stays hl _ _ _ _ hread hA' (fun x hx => hb.same (hW'.lt x hx)) hsp
  · intro sp hsp
    rw [List.append_nil, hr3, hv0]
    exact rfl
  · exact ok_one hres rfl (okWide_bool_mk htb _)
end Go.Am

namespace Go.Am
set_option linter.unusedSimpArgs false
set_option linter.unusedVariables false
open Go Go.RowKit Go.WideShapes Go.ChangeShapes Go.ChangeAt
variable {P : Program} {H : Type} {enc : TypeId × Value → H}
/-- The law's contract. -/
theorem law_contract_atU {C : Checked} (hmix : C.prog.follows .mixedOrders = true) (hl : laidOutB C.prog = true) {W : World} {con : FuncId → Option ConD} (hcon : ConAt C.prog con W.heap.size W) {f : FuncId} (hf : con f = none) {fn : Func} {s : ChangeSpec} {n : Nat}
    (hpar : (fn.params.toList.all fun t => plainT C.prog n t && (cell1T C.prog t || structT C.prog t)) = true) (hread : (fn.params.toList.all fun t => C.prog.readableRec t && decide (t < C.prog.types.size)) = true)
    {tb : TypeId} (htb : C.prog.underlying tb = some .bool) (hres : fn.resultTypes = #[tb]) (hv0 : s.vars = [])
    (hfn : ∀ (ds : List (DataW H)), ds.length = fn.params.toList.length → (s.fn H ds).results = [.lit (.bool true)] ∧ (s.fn H ds).args = ds ∧ (s.fn H ds).vars = [])
    {apart fresh handsOn again : Bool} {base : Nat} {args : Array Value} {ds gs : List (DataW H)} {before : List MemPlace}
    (hrun : ∀ (asv : List AV) (h : Hp), RdB C.prog h n fn.params.toList asv ds → ∃ fuel, deepT (tabOf C.prog) f (cfn C.prog con fuel) fuel asv h fun v _ => v = .bool true)
    (hval : ∀ (j : Nat) t v, fn.params[j]? = some t → args[j]? = some v → Value.okWide C.prog W .any base t v)
    (hW : DataW.Whole enc C.prog fn.params.toList s.vars apart W args.toList ds gs before)
    (hw : (DataW.weightsEach C.prog (fn.params.toList ++ s.plain.varTypes C.prog) (ds ++ gs)).all (· ≤ reachBytes) = true) :
    Calls C.prog f args W fun e W' => ∃ v, e = .returned v ∧ s.post enc C.prog fn apart fresh handsOn again W args v W' := by
  have hW' := hW
  obtain ⟨p, q, hA, hV, rfl, hfz, hnd⟩ := hW
  have hA' : DataW.TrodAll enc C.prog W 0 (fun _ => true) true fn.params.toList args.toList ds p := hA
  rw [hv0] at hV
  obtain ⟨rfl, rfl⟩ := trodVars_none hV
  have hvt : s.plain.varTypes C.prog = [] := by
    simp [DataSpec.varTypes, ChangeSpec.plain, hv0]
  rw [hvt, List.append_nil, List.append_nil] at hw
  rw [List.append_nil] at hW' hfz
  have hlen : ds.length = fn.params.toList.length := trodAll_length _ _ _ _ hA'
  obtain ⟨hr1, hr2, hr3⟩ := hfn ds hlen
  have hcall := law_calls_atB (H := H) hmix hcon hf hA' hpar (b := base) (r := .any) (fun i t v h1 h2 => hval i t v (by simpa using h1) (by simpa using h2)) hw hfz (fun asv h hr => hrun asv h hr)
  refine Calls.mono (by simpa using hcall) fun e W' he => ?_
  obtain ⟨rfl, hb⟩ := he
  refine ⟨_, rfl, post_of_below (pa := p) (pv := []) hW' ?_ ?_ ?_ (by simp) hb ?_⟩
  · intro b sp hd
    rw [hres, List.append_nil, hr1]
    exact trodAll_cons_mk (shut_bool htb _) trodAll_mk0
  · intro sp hsp
    rw [List.append_nil, hr2]
    exact trodAll_stays hl _ _ _ _ hread hA' (fun x hx => hb.same (hW'.lt x hx)) hsp
  · intro sp hsp
    rw [List.append_nil, hr3, hv0]
    exact rfl
  · exact ok_one hres rfl (okWide_bool_mk htb _)
end Go.Am

