/-
  What the abstract machine's state stands for: the relation between its heap and the model's world.
-/
import Derived.Test.YtbefkepinpollaaGreatDoorAmComp
namespace Go.Am
set_option linter.unusedSimpArgs false
set_option linter.unusedVariables false
open Go Go.RowKit

/-- Where an object lies: its block, its first cell, how many elements its array bears from there. -/
structure Ki where
  blk : Nat
  base : Nat
  cap : Nat
abbrev Kap := Nat → Option Ki
def Kap.le (κ κ' : Kap) : Prop := ∀ o ki, κ o = some ki → κ' o = some ki
theorem Kap.le_refl (κ : Kap) : κ.le κ := fun _ _ h => h
theorem Kap.le_trans {a b c : Kap} (h : a.le b) (k : b.le c) : a.le c := fun o ki x => k o ki (h o ki x)
def Kap.set (κ : Kap) (o : Nat) (ki : Ki) : Kap := fun p => if p = o then some ki else κ p
theorem Kap.set_self (κ : Kap) (o : Nat) (ki : Ki) : κ.set o ki o = some ki := by simp [Kap.set]
theorem Kap.set_ne (κ : Kap) {o p : Nat} (ki : Ki) (h : p ≠ o) : κ.set o ki p = κ p := by simp [Kap.set, h]
theorem Kap.le_set {κ : Kap} {o : Nat} {ki : Ki} (h : κ o = none) : κ.le (κ.set o ki) := fun p k hp => by
  by_cases e : p = o
  · subst e; rw [h] at hp; cases hp
  · rw [Kap.set_ne _ _ e]; exact hp

def Ki.at (ki : Ki) (off : Nat) : Addr := ⟨ki.blk, ki.base + off, none⟩

/-- The number that a symbol stands for. -/
def Ki.num (ki : Ki) : Int := (ki.blk : Int) - 9223372036854775808
def okB (κ : Kap) (x : Nat × Int × Int) : Bool := match κ x.1 with
  | some ki => decide (x.2.1 ≤ ki.num) && decide (ki.num ≤ x.2.2)
  | none => false
def okR (κ : Kap) (x : Nat × Nat × Bool) : Bool := match κ x.1, κ x.2.1 with
  | some a, some b => (match x.2.2 with | true => decide (a.num = b.num) | false => decide (a.num < b.num))
  | _, _ => false
def okF (κ : Kap) (F : Fx) : Bool := F.bnd.all (okB κ) && F.ord.all (okR κ)
theorem okB_mono {κ κ' : Kap} (hk : κ.le κ') (x : Nat × Int × Int) (h : okB κ x = true) : okB κ' x = true := by
  unfold okB at *
  cases hq : κ x.1 with
  | none => rw [hq] at h; cases h
  | some ki => rw [hq] at h; rw [hk _ _ hq]; exact h
theorem okR_mono {κ κ' : Kap} (hk : κ.le κ') (x : Nat × Nat × Bool) (h : okR κ x = true) : okR κ' x = true := by
  unfold okR at *
  cases hq : κ x.1 with
  | none => rw [hq] at h; cases h
  | some a =>
    cases hr : κ x.2.1 with
    | none => rw [hq, hr] at h; cases h
    | some b => rw [hq, hr] at h; rw [hk _ _ hq, hk _ _ hr]; exact h
theorem okF_mono {κ κ' : Kap} (hk : κ.le κ') (F : Fx) (h : okF κ F = true) : okF κ' F = true := by
  simp only [okF, Bool.and_eq_true, List.all_eq_true] at *
  exact ⟨fun x hx => okB_mono hk x (h.1 x hx), fun x hx => okR_mono hk x (h.2 x hx)⟩

mutual
def gam (κ : Kap) : AV → Option Value
  | .bool b => some (.bool b)
  | .int k n => some (.int k n)
  | .str n x => if x < 256 ^ n then some (.string (strOf n x)) else none
  | .ptr o off => (κ o).map fun ki => .pointer (some (ki.at off))
  | .nilptr => some (.pointer none)
  | .slice o off len known cap => (κ o).bind fun ki =>
    if known = true then (if len ≤ cap then some (.slice (some (ki.at off)) len cap) else none)
    else (if len + cap ≤ ki.cap then some (.slice (some (ki.at off)) len (ki.cap - cap)) else none)
  | .nilslice => some (.slice none 0 0)
  | .sliceE o a b c => (κ o).bind fun ki => if c ≤ ki.cap then some (.slice (some (ki.at (if ki.cap = c then a else b))) 0 (ki.cap - c)) else none
  | .map o => (κ o).map fun ki => .map (some ki.blk)
  | .nilmap => some (.map none)
  | .func f a c => (gams κ a).bind fun a => (gams κ c).map fun c => .func (.func f) a.toArray c.toArray
  | .nilfunc => some .nilFunc
  | .iface t v => (gam κ v).map (.iface t)
  | .niliface => some .nilIface
  | .agg cs => (gams κ cs).bind fun l => if l.all Value.oneCell' = true then some (.agg l.toArray) else none
  | .tup vs => (gams κ vs).map fun l => .tuple l.toArray
  | .sym k F i => if okF κ F = true then (κ i).map fun ki => .int k ki.num else none
  | .gptr g => some (.pointer (some ⟨g, 0, none⟩))
def gams (κ : Kap) : List AV → Option (List Value)
  | [] => some []
  | v :: l => (gam κ v).bind fun x => (gams κ l).map fun xs => x :: xs
end

mutual
theorem gam_mono {κ κ' : Kap} (hk : κ.le κ') : ∀ (v : AV) (x : Value), gam κ v = some x → gam κ' v = some x
  | .bool b, x, h => by simpa [gam] using h
  | .int k n, x, h => by simpa [gam] using h
  | .str n y, x, h => by simpa [gam] using h
  | .ptr o off, x, h => by
    simp only [gam, Option.map_eq_some_iff] at h ⊢
    obtain ⟨ki, h1, h2⟩ := h; exact ⟨ki, hk _ _ h1, h2⟩
  | .nilptr, x, h => by simpa [gam] using h
  | .slice o off len known cap, x, h => by
    simp only [gam, Option.bind_eq_some_iff] at h ⊢
    obtain ⟨ki, h1, h2⟩ := h; exact ⟨ki, hk _ _ h1, h2⟩
  | .nilslice, x, h => by simpa [gam] using h
  | .sliceE o a b c, x, h => by
    simp only [gam, Option.bind_eq_some_iff] at h ⊢
    obtain ⟨ki, h1, h2⟩ := h; exact ⟨ki, hk _ _ h1, h2⟩
  | .map o, x, h => by
    simp only [gam, Option.map_eq_some_iff] at h ⊢
    obtain ⟨ki, h1, h2⟩ := h; exact ⟨ki, hk _ _ h1, h2⟩
  | .nilmap, x, h => by simpa [gam] using h
  | .func f a c, x, h => by
    simp only [gam, Option.bind_eq_some_iff, Option.map_eq_some_iff] at h ⊢
    obtain ⟨a', h1, c', h2, h3⟩ := h; exact ⟨a', gams_mono hk a a' h1, c', gams_mono hk c c' h2, h3⟩
  | .nilfunc, x, h => by simpa [gam] using h
  | .iface t v, x, h => by
    simp only [gam, Option.map_eq_some_iff] at h ⊢
    obtain ⟨v', h1, h2⟩ := h; exact ⟨v', gam_mono hk v v' h1, h2⟩
  | .niliface, x, h => by simpa [gam] using h
  | .agg cs, x, h => by
    simp only [gam, Option.bind_eq_some_iff] at h ⊢
    obtain ⟨l, h1, h2⟩ := h; exact ⟨l, gams_mono hk cs l h1, h2⟩
  | .tup vs, x, h => by
    simp only [gam, Option.map_eq_some_iff] at h ⊢
    obtain ⟨l, h1, h2⟩ := h; exact ⟨l, gams_mono hk vs l h1, h2⟩
  | .sym k F i, x, h => by
    simp only [gam] at h ⊢
    split at h
    · rename_i hF
      rw [if_pos (okF_mono hk F hF)]
      simp only [Option.map_eq_some_iff] at h ⊢
      obtain ⟨ki, h1, h2⟩ := h; exact ⟨ki, hk _ _ h1, h2⟩
    · cases h
  | .gptr g, x, h => by simpa [gam] using h
theorem gams_mono {κ κ' : Kap} (hk : κ.le κ') : ∀ (l : List AV) (x : List Value), gams κ l = some x → gams κ' l = some x
  | [], x, h => by simpa [gams] using h
  | v :: l, x, h => by
    simp only [gams, Option.bind_eq_some_iff, Option.map_eq_some_iff] at h ⊢
    obtain ⟨y, h1, ys, h2, h3⟩ := h; exact ⟨y, gam_mono hk v y h1, ys, gams_mono hk l ys h2, h3⟩
end

theorem gams_length {κ : Kap} : ∀ (l : List AV) (x : List Value), gams κ l = some x → x.length = l.length
  | [], x, h => by simp [gams] at h; simp [← h]
  | v :: l, x, h => by
    simp only [gams, Option.bind_eq_some_iff, Option.map_eq_some_iff] at h
    obtain ⟨y, h1, ys, h2, h3⟩ := h
    simp [← h3, gams_length l ys h2]
theorem gams_get {κ : Kap} : ∀ (l : List AV) (x : List Value) (i : Nat) (v : AV), gams κ l = some x → l[i]? = some v → ∃ y, gam κ v = some y ∧ x[i]? = some y
  | [], x, i, v, h, hv => by simp at hv
  | u :: l, x, i, v, h, hv => by
    simp only [gams, Option.bind_eq_some_iff, Option.map_eq_some_iff] at h
    obtain ⟨y, h1, ys, h2, h3⟩ := h
    subst h3
    cases i with
    | zero => simp at hv; subst hv; exact ⟨y, h1, by simp⟩
    | succ i =>
      simp at hv
      obtain ⟨z, hz1, hz2⟩ := gams_get l ys i v h2 hv
      exact ⟨z, hz1, by simpa using hz2⟩
theorem gams_append {κ : Kap} : ∀ (l m : List AV) (x y : List Value), gams κ l = some x → gams κ m = some y → gams κ (l ++ m) = some (x ++ y)
  | [], m, x, y, h, hm => by simp [gams] at h; subst h; simpa using hm
  | v :: l, m, x, y, h, hm => by
    simp only [gams, Option.bind_eq_some_iff, Option.map_eq_some_iff] at h
    obtain ⟨z, h1, zs, h2, h3⟩ := h
    subst h3
    have := gams_append l m zs y h2 hm
    simp [gams, h1, this]
/-- Values one by one. -/
theorem gams_of {κ : Kap} : ∀ (l : List AV) (x : List Value), l.length = x.length → (∀ (i : Nat) (v : AV), l[i]? = some v → ∃ y, x[i]? = some y ∧ gam κ v = some y) → gams κ l = some x
  | [], x, hl, _ => by cases x <;> simp_all [gams]
  | v :: l, [], hl, _ => by simp at hl
  | v :: l, y :: x, hl, h => by
    obtain ⟨z, h1, h2⟩ := h 0 v (by simp)
    simp at h1; subst h1
    have := gams_of l x (by simpa using hl) (fun i u hu => by simpa using h (i + 1) u (by simpa using hu))
    simp [gams, h2, this]

/-! ### objects -/
def gamE (κ : Kap) : List (AV × AV × Nat) → Option (List MapEntry)
  | [] => some []
  | (k, v, b) :: l => (gam κ k).bind fun k => (gam κ v).bind fun v => (gamE κ l).map fun es => { key := k, val := v, born := b } :: es

theorem gamE_mono {κ κ' : Kap} (hk : κ.le κ') : ∀ (l : List (AV × AV × Nat)) (x : List MapEntry), gamE κ l = some x → gamE κ' l = some x
  | [], x, h => by simpa [gamE] using h
  | (k, v, b) :: l, x, h => by
    simp only [gamE, Option.bind_eq_some_iff, Option.map_eq_some_iff] at h ⊢
    obtain ⟨k', h1, v', h2, es, h3, h4⟩ := h
    exact ⟨k', gam_mono hk k k' h1, v', gam_mono hk v v' h2, es, gamE_mono hk l es h3, h4⟩

def RowSim (κ : Kap) (ob : AObj) (esz : Nat) (ki : Ki) (o : Option Obj) : Prop :=
  ∃ c t fr, o = some (.cells c t fr) ∧ ki.base + ki.cap * esz ≤ c.size ∧
    (fr.1 = fr.2 ∨ (c.size ≤ fr.1 ∧ esz = 1)) ∧ (∀ j, j < sizeOfObj ob → ∃ v, cellAt ob j = some v) ∧
    ∀ j v, cellAt ob j = some v → ∃ v', gam κ v = some v' ∧ v'.oneCell' = true ∧ c[ki.base + j]? = some v'

def ObjSim (κ : Kap) (ob : AObj) (esz : Nat) (ki : Ki) (o : Option Obj) : Prop := match ob with
  | .map es clock => ∃ es', o = some (.map es'.toArray clock) ∧ gamE κ es = some es'
  | .sit n x pos => ki.base = 0 ∧ x < 256 ^ n ∧ o = some (.stringIter (strOf n x) pos)
  | .mit m since seen st => ki.base = 0 ∧ (∀ p, m = some p → (κ p).isSome = true) ∧ o = some (.mapIter (m.bind fun p => (κ p).map (·.blk)) since seen.toArray st)
  | ob => RowSim κ ob esz ki o

theorem RowSim.mono {κ κ' : Kap} (hk : κ.le κ') {ob : AObj} {esz : Nat} {ki : Ki} {o : Option Obj} (h : RowSim κ ob esz ki o) : RowSim κ' ob esz ki o := by
  obtain ⟨c, t, fr, h1, h2, h3, ht, h4⟩ := h
  refine ⟨c, t, fr, h1, h2, h3, ht, fun j v hv => ?_⟩
  obtain ⟨v', a, b, d⟩ := h4 j v hv
  exact ⟨v', gam_mono hk v v' a, b, d⟩
theorem ObjSim.mono {κ κ' : Kap} (hk : κ.le κ') {ob : AObj} {esz : Nat} {ki : Ki} {o : Option Obj} (h : ObjSim κ ob esz ki o) : ObjSim κ' ob esz ki o := by
  cases ob with
  | row cs => exact RowSim.mono hk h
  | big n t d => exact RowSim.mono hk h
  | byts n x => exact RowSim.mono hk h
  | map es clock => obtain ⟨es', h1, h2⟩ := h; exact ⟨es', h1, gamE_mono hk _ _ h2⟩
  | sit n x pos => exact h
  | mit m since seen st =>
    obtain ⟨h0, h1, h2⟩ := h
    refine ⟨h0, fun p hp => ?_, ?_⟩
    · have := h1 p hp
      cases hq : κ p with
      | none => simp [hq] at this
      | some ki => simp [hk p ki hq]
    · rw [h2]
      cases m with
      | none => rfl
      | some p =>
        have := h1 p rfl
        cases hq : κ p with
        | none => simp [hq] at this
        | some ki => simp [hk p ki hq, hq]

/-- The world that a call began in, and blocks that were made since and of which the machine knows nothing yet. -/
structure W0 where
  w : World
  gh : Nat → Option Obj
def W0.of (w : World) : W0 := ⟨w, fun _ => none⟩
def W0.add (w0 : W0) (b : Nat) (ob : Obj) : W0 := ⟨w0.w, fun c => if c = b then some ob else w0.gh c⟩

structure Sim (B : Nat) (w0 : W0) (κ : Kap) (h : Hp) (w : World) : Prop where
  below : Below B w0.w w
  size : B ≤ w.heap.size
  obj : ∀ o e, h.objs.getP (npos o) = some e → ∃ ki, κ o = some ki ∧ (e.own = true → B ≤ ki.blk) ∧ (e.own = false → ki.blk < B ∧ (e.esz = 0 → ki.blk = o ∧ ki.base = 0)) ∧ ObjSim κ e.obj e.esz ki w.heap[ki.blk]?
  apart : ∀ o o' e e' ki ki', h.objs.getP (npos o) = some e → h.objs.getP (npos o') = some e' → κ o = some ki → κ o' = some ki' → e.own = true → e'.own = true → o ≠ o' → ki.blk ≠ ki'.blk
  fresh : ∀ o ki, κ o = some ki → o < h.next
  ghost : ∀ b ob, w0.gh b = some ob → B ≤ b ∧ w.heap[b]? = some ob
  gap : ∀ o e ki, h.objs.getP (npos o) = some e → κ o = some ki → e.own = true → w0.gh ki.blk = none

theorem Sim.drew {B : Nat} {w0 : W0} {w : World} {κ : Kap} {h : Hp} (s : Sim B w0 κ h w) : Sim B w0 κ h w.drew :=
  ⟨s.below.drew, s.size, s.obj, s.apart, s.fresh, s.ghost, s.gap⟩

theorem Sim.gh_ne {B : Nat} {w0 : W0} {w : World} {κ : Kap} {h : Hp} (s : Sim B w0 κ h w) {o : Nat} {e : Ent} {ki : Ki} (he : h.objs.getP (npos o) = some e) (hk : κ o = some ki) (hown : e.own = true) {b : Nat} {ob : Obj} (hb : w0.gh b = some ob) : b ≠ ki.blk := fun q => by
  have := s.gap o e ki he hk hown
  rw [← q, hb] at this; cases this
theorem Sim.gh_lt {B : Nat} {w0 : W0} {w : World} {κ : Kap} {h : Hp} (s : Sim B w0 κ h w) {b : Nat} {ob : Obj} (hb : w0.gh b = some ob) : b < w.heap.size := (Array.getElem?_eq_some_iff.1 (s.ghost b ob hb).2).1
theorem Sim.gh_size {B : Nat} {w0 : W0} {w : World} {κ : Kap} {h : Hp} (s : Sim B w0 κ h w) : w0.gh w.heap.size = none := by
  cases hb : w0.gh w.heap.size with
  | none => rfl
  | some ob => exact absurd (s.gh_lt hb) (by omega)
theorem Sim.none_next {B : Nat} {w0 : W0} {w : World} {κ : Kap} {h : Hp} (s : Sim B w0 κ h w) : κ h.next = none := by
  cases hk : κ h.next with
  | none => rfl
  | some ki => exact absurd (s.fresh _ _ hk) (by omega)

theorem ObjSim.isSome {κ : Kap} {ob : AObj} {esz : Nat} {ki : Ki} {o : Option Obj} (h : ObjSim κ ob esz ki o) : o.isSome = true := by
  cases ob with
  | row cs => obtain ⟨c, t, fr, h1, _⟩ := h; simp [h1]
  | big n t d => obtain ⟨c, t, fr, h1, _⟩ := h; simp [h1]
  | byts n x => obtain ⟨c, t, fr, h1, _⟩ := h; simp [h1]
  | map es clock => obtain ⟨es', h1, _⟩ := h; simp [h1]
  | sit n x pos => simp [h.2.2]
  | mit m since seen st => simp [h.2.2]

/-- A new block. -/
theorem Sim.new {B : Nat} {w0 : W0} {w : World} {κ : Kap} {h : Hp} (s : Sim B w0 κ h w) (esz cap : Nat) (ob : AObj) (o : Obj)
    (ho : ObjSim κ ob esz ⟨w.heap.size, 0, cap⟩ (some o)) :
    Sim B w0 (κ.set h.next ⟨w.heap.size, 0, cap⟩) ⟨E1.updP (some ⟨true, esz, ob⟩) (npos h.next) h.objs, h.next + 1⟩ (w.alloc o) := by
  have hle : κ.le (κ.set h.next ⟨w.heap.size, 0, cap⟩) := Kap.le_set s.none_next
  have lt : ∀ p e ki, h.objs.getP (npos p) = some e → κ p = some ki → ki.blk < w.heap.size := fun p e ki hp hk => by
    obtain ⟨ki', h1, _, _, h4⟩ := s.obj p e hp
    rw [hk] at h1; cases h1
    have := h4.isSome
    obtain ⟨y, hy⟩ := Option.isSome_iff_exists.1 this
    exact (Array.getElem?_eq_some_iff.1 hy).1
  refine ⟨s.below.alloc s.size o, by have := s.size; show B ≤ (w.heap.push o).size; simp; omega, ?_, ?_, ?_, fun b ob hb => ⟨(s.ghost b ob hb).1, by rw [heap_alloc_old w o (s.gh_lt hb)]; exact (s.ghost b ob hb).2⟩, fun p e ki hp hk ho => ?g⟩
  case g =>
    by_cases hpn : p = h.next
    · subst hpn
      rw [Kap.set_self] at hk; cases hk
      exact s.gh_size
    · rw [Kap.set_ne _ _ hpn] at hk
      rw [E1.getP_upd_ne _ _ _ _ (fun e => hpn (npos_inj e).symm)] at hp
      exact s.gap p e ki hp hk ho
  · intro p e hp
    by_cases hpn : p = h.next
    · subst hpn
      simp only [E1.getP_upd_self, Option.some.injEq] at hp
      subst hp
      refine ⟨_, Kap.set_self _ _ _, fun _ => s.size, fun h => by simp at h, ?_⟩
      rw [heap_alloc_new]
      exact ho.mono hle
    · rw [E1.getP_upd_ne _ _ _ _ (fun e => hpn (npos_inj e).symm)] at hp
      obtain ⟨ki, h1, h2, h3, h4⟩ := s.obj p e hp
      refine ⟨ki, hle _ _ h1, h2, h3, ?_⟩
      rw [heap_alloc_old w o (lt p e ki hp h1)]
      exact h4.mono hle
  · intro p q e e' ki ki' hp hq hk hk' ho1 ho2 hne
    by_cases hpn : p = h.next
    · subst hpn
      have hqn : q ≠ h.next := fun e => hne e.symm
      rw [Kap.set_self] at hk; cases hk
      rw [Kap.set_ne _ _ hqn] at hk'
      rw [E1.getP_upd_ne _ _ _ _ (fun e => hqn (npos_inj e).symm)] at hq
      have := lt q e' ki' hq hk'
      simp; omega
    · rw [Kap.set_ne _ _ hpn] at hk
      rw [E1.getP_upd_ne _ _ _ _ (fun e => hpn (npos_inj e).symm)] at hp
      by_cases hqn : q = h.next
      · subst hqn
        rw [Kap.set_self] at hk'; cases hk'
        have := lt p e ki hp hk
        simp; omega
      · rw [Kap.set_ne _ _ hqn] at hk'
        rw [E1.getP_upd_ne _ _ _ _ (fun e => hqn (npos_inj e).symm)] at hq
        exact s.apart p q e e' ki ki' hp hq hk hk' ho1 ho2 hne
  · intro p ki hk
    by_cases hpn : p = h.next
    · subst hpn; simp
    · rw [Kap.set_ne _ _ hpn] at hk
      have := s.fresh p ki hk
      simp; omega

/-- An object of the call's own is written in place. -/
theorem Sim.put {B : Nat} {w0 : W0} {w w' : World} {κ : Kap} {h : Hp} (s : Sim B w0 κ h w) {o : Nat} {e : Ent} {ki : Ki} (he : h.objs.getP (npos o) = some e) (hk : κ o = some ki) (hown : e.own = true)
    (hw : Below B w w') (hsz : w'.heap.size = w.heap.size) (hoth : ∀ b, b ≠ ki.blk → w'.heap[b]? = w.heap[b]?) (ob : AObj) (hob : ObjSim κ ob e.esz ki w'.heap[ki.blk]?) :
    Sim B w0 κ ⟨E1.updP (some ⟨true, e.esz, ob⟩) (npos o) h.objs, h.next⟩ w' := by
  have hB : B ≤ ki.blk := by
    obtain ⟨ki', h1, h2, _, _⟩ := s.obj o e he
    rw [hk] at h1; cases h1; exact h2 hown
  refine ⟨s.below.trans hw, by rw [hsz]; exact s.size, ?_, ?_, s.fresh, fun b ob hb => ⟨(s.ghost b ob hb).1, by rw [hoth b (s.gh_ne he hk hown hb)]; exact (s.ghost b ob hb).2⟩, fun p e' k hp hkp ho => ?g⟩
  case g =>
    by_cases hpo : p = o
    · subst hpo
      exact s.gap p e k he hkp hown
    · rw [E1.getP_upd_ne _ _ _ _ (fun e => hpo (npos_inj e).symm)] at hp
      exact s.gap p e' k hp hkp ho
  · intro p e' hp
    by_cases hpo : p = o
    · subst hpo
      simp only [E1.getP_upd_self, Option.some.injEq] at hp
      subst hp
      exact ⟨ki, hk, fun _ => hB, fun h => by simp at h, hob⟩
    · rw [E1.getP_upd_ne _ _ _ _ (fun e => hpo (npos_inj e).symm)] at hp
      obtain ⟨ki', h1, h2, h3, h4⟩ := s.obj p e' hp
      refine ⟨ki', h1, h2, h3, ?_⟩
      have hne : ki'.blk ≠ ki.blk := by
        by_cases ho : e'.own = true
        · exact s.apart p o e' e ki' ki hp he h1 hk ho hown hpo
        · have := (h3 (by simpa using ho)).1
          omega
      rw [hoth _ hne]; exact h4
  · intro p q e1 e2 k1 k2 hp hq hk1 hk2 o1 o2 hne
    have back : ∀ r e', (E1.updP (some ⟨true, e.esz, ob⟩ : Option Ent) (npos o) h.objs).getP (npos r) = some e' → e'.own = true → ∃ e'', h.objs.getP (npos r) = some e'' ∧ e''.own = true := by
      intro r e' hr hro
      by_cases hr' : r = o
      · subst hr'; exact ⟨e, he, hown⟩
      · rw [E1.getP_upd_ne _ _ _ _ (fun e => hr' (npos_inj e).symm)] at hr; exact ⟨e', hr, hro⟩
    obtain ⟨e1', hp', o1'⟩ := back p e1 hp o1
    obtain ⟨e2', hq', o2'⟩ := back q e2 hq o2
    exact s.apart p q e1' e2' k1 k2 hp' hq' hk1 hk2 o1' o2' hne

/-- A block of the call's own is turned in what the machine does not see. -/
theorem Sim.touch {B : Nat} {w0 : W0} {w w' : World} {κ : Kap} {h : Hp} (s : Sim B w0 κ h w) {o : Nat} {e : Ent} {ki : Ki} (he : h.objs.getP (npos o) = some e) (hk : κ o = some ki) (hown : e.own = true)
    (hw : Below B w w') (hsz : w'.heap.size = w.heap.size) (hoth : ∀ b, b ≠ ki.blk → w'.heap[b]? = w.heap[b]?) (hob : ObjSim κ e.obj e.esz ki w'.heap[ki.blk]?) : Sim B w0 κ h w' := by
  refine ⟨s.below.trans hw, by rw [hsz]; exact s.size, fun p e' hp => ?_, s.apart, s.fresh, fun b ob hb => ⟨(s.ghost b ob hb).1, by rw [hoth b (s.gh_ne he hk hown hb)]; exact (s.ghost b ob hb).2⟩, s.gap⟩
  by_cases hpo : p = o
  · subst hpo
    rw [he] at hp; cases hp
    obtain ⟨ki', h1, h2, h3, h4⟩ := s.obj p e he
    rw [hk] at h1; cases h1
    exact ⟨ki, hk, h2, h3, hob⟩
  · obtain ⟨ki', h1, h2, h3, h4⟩ := s.obj p e' hp
    refine ⟨ki', h1, h2, h3, ?_⟩
    have hB : B ≤ ki.blk := by
      obtain ⟨ki', q1, q2, _, _⟩ := s.obj o e he
      rw [hk] at q1; cases q1; exact q2 hown
    have hne : ki'.blk ≠ ki.blk := by
      by_cases ho : e'.own = true
      · exact s.apart p o e' e ki' ki hp he h1 hk ho hown hpo
      · have := (h3 (by simpa using ho)).1
        omega
    rw [hoth _ hne]; exact h4

/-- An object is let go. -/
theorem Sim.kill {B : Nat} {w0 : W0} {w : World} {κ : Kap} {h : Hp} (s : Sim B w0 κ h w) (o : Nat) : Sim B w0 κ ⟨E1.updP none (npos o) h.objs, h.next⟩ w := by
  have back : ∀ r e', (E1.updP (none : Option Ent) (npos o) h.objs).getP (npos r) = some e' → h.objs.getP (npos r) = some e' := by
    intro r e' hr
    by_cases hr' : r = o
    · subst hr'; rw [E1.getP_upd_self] at hr; cases hr
    · rwa [E1.getP_upd_ne _ _ _ _ (fun e => hr' (npos_inj e).symm)] at hr
  exact ⟨s.below, s.size, fun p e hp => s.obj p e (back p e hp), fun p q e e' ki ki' hp hq => s.apart p q e e' ki ki' (back p e hp) (back q e' hq), s.fresh, s.ghost, fun p e ki hp => s.gap p e ki (back p e hp)⟩

/-- A killed object's place is taken by a fresh one, written in place behind the old cells. -/
theorem Sim.renew {B : Nat} {w0 : W0} {w w' : World} {κ : Kap} {h : Hp} (s : Sim B w0 κ h w) {o : Nat} {e : Ent} {ki : Ki} (he : h.objs.getP (npos o) = some e) (hk : κ o = some ki) (hown : e.own = true)
    (hw : Below B w w') (hsz : w'.heap.size = w.heap.size) (hoth : ∀ b, b ≠ ki.blk → w'.heap[b]? = w.heap[b]?) (ki' : Ki) (hblk : ki'.blk = ki.blk) (esz : Nat) (ob : AObj) (hob : ObjSim κ ob esz ki' w'.heap[ki.blk]?) :
    Sim B w0 (κ.set h.next ki') ⟨E1.updP (some ⟨true, esz, ob⟩) (npos h.next) (E1.updP none (npos o) h.objs), h.next + 1⟩ w' := by
  have hB : B ≤ ki.blk := by
    obtain ⟨ki', h1, h2, _, _⟩ := s.obj o e he
    rw [hk] at h1; cases h1; exact h2 hown
  have hle : κ.le (κ.set h.next ki') := Kap.le_set s.none_next
  have back : ∀ r e', r ≠ h.next → (E1.updP (some ⟨true, esz, ob⟩ : Option Ent) (npos h.next) (E1.updP none (npos o) h.objs)).getP (npos r) = some e' → r ≠ o ∧ h.objs.getP (npos r) = some e' := by
    intro r e' hrn hr
    rw [E1.getP_upd_ne _ _ _ _ (fun e => hrn (npos_inj e).symm)] at hr
    by_cases hr' : r = o
    · subst hr'; rw [E1.getP_upd_self] at hr; cases hr
    · rw [E1.getP_upd_ne _ _ _ _ (fun e => hr' (npos_inj e).symm)] at hr; exact ⟨hr', hr⟩
  have other : ∀ r e' k, r ≠ o → h.objs.getP (npos r) = some e' → κ r = some k → k.blk ≠ ki.blk := by
    intro r e' k hr hg hkr
    obtain ⟨k', h1, h2, h3, h4⟩ := s.obj r e' hg
    rw [hkr] at h1; cases h1
    by_cases ho : e'.own = true
    · exact s.apart r o e' e k ki hg he hkr hk ho hown hr
    · have := (h3 (by simpa using ho)).1; omega
  refine ⟨s.below.trans hw, by rw [hsz]; exact s.size, ?_, ?_, ?_, fun b ob hb => ⟨(s.ghost b ob hb).1, by rw [hoth b (s.gh_ne he hk hown hb)]; exact (s.ghost b ob hb).2⟩, fun p e' k hp hkp ho => ?g⟩
  case g =>
    by_cases hpn : p = h.next
    · subst hpn
      rw [Kap.set_self] at hkp; cases hkp
      rw [hblk]; exact s.gap o e ki he hk hown
    · rw [Kap.set_ne _ _ hpn] at hkp
      exact s.gap p e' k (back p e' hpn hp).2 hkp ho
  · intro p e' hp
    by_cases hpn : p = h.next
    · subst hpn
      simp only [E1.getP_upd_self, Option.some.injEq] at hp
      subst hp
      refine ⟨ki', Kap.set_self _ _ _, fun _ => by rw [hblk]; exact hB, fun h => by simp at h, ?_⟩
      rw [hblk]; exact hob.mono hle
    · obtain ⟨hpo, hg⟩ := back p e' hpn hp
      obtain ⟨k, h1, h2, h3, h4⟩ := s.obj p e' hg
      refine ⟨k, hle _ _ h1, h2, h3, ?_⟩
      rw [hoth _ (other p e' k hpo hg h1)]; exact h4.mono hle
  · intro p q e1 e2 k1 k2 hp hq hk1 hk2 o1 o2 hne
    by_cases hpn : p = h.next
    · subst hpn
      have hqn : q ≠ h.next := fun e => hne e.symm
      rw [Kap.set_self] at hk1; cases hk1
      rw [Kap.set_ne _ _ hqn] at hk2
      obtain ⟨hqo, hg⟩ := back q e2 hqn hq
      rw [hblk]; exact fun e => other q e2 k2 hqo hg hk2 e.symm
    · rw [Kap.set_ne _ _ hpn] at hk1
      obtain ⟨hpo, hg⟩ := back p e1 hpn hp
      by_cases hqn : q = h.next
      · subst hqn
        rw [Kap.set_self] at hk2; cases hk2
        rw [hblk]; exact other p e1 k1 hpo hg hk1
      · rw [Kap.set_ne _ _ hqn] at hk2
        obtain ⟨hqo, hg2⟩ := back q e2 hqn hq
        exact s.apart p q e1 e2 k1 k2 hg hg2 hk1 hk2 o1 o2 hne
  · intro p k hkp
    by_cases hpn : p = h.next
    · subst hpn; simp
    · rw [Kap.set_ne _ _ hpn] at hkp
      have := s.fresh p k hkp
      simp; omega

end Go.Am
