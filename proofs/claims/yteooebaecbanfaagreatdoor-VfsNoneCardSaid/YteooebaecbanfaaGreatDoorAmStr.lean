/-
  strings.Join and internal/stringslite.Clone: their contracts in the machine, by the library's proved summaries.
-/
import Derived.Test.YteooebaecbanfaaGreatDoorAmCode
import Derived.Shelf.Strings.OnBuilder
import Derived.Shelf.Strconv.Clone
namespace Go.Am
set_option linter.unusedSimpArgs false
set_option linter.unusedVariables false
open Go Go.RowKit Go.Shelf Go.Proofs
variable {P : Program} {ρ : Ren}

/-- A call that leaves all that was there as it was. -/
theorem Sim.left {B : Nat} {w0 : W0} {w w' : World} {κ : Kap} {h : Hp} (s : Sim B w0 κ h w) (hb : Below w.heap.size w w') : Sim B w0 κ h w' := by
  have same : ∀ (b : Nat) (ob : Obj), w.heap[b]? = some ob → w'.heap[b]? = some ob := fun b ob hb' => by
    rw [hb.block b (Array.getElem?_eq_some_iff.1 hb').1]; exact hb'
  refine ⟨s.below.trans (hb.mono s.size), Nat.le_trans s.size hb.size, fun o e he => ?_, s.apart, s.fresh, fun b ob hb' => ⟨(s.ghost b ob hb').1, same _ _ (s.ghost b ob hb').2⟩, s.gap⟩
  obtain ⟨ki, h1, h2, h3, h4⟩ := s.obj o e he
  obtain ⟨y, hy⟩ := Option.isSome_iff_exists.1 h4.isSome
  refine ⟨ki, h1, h2, h3, ?_⟩
  rw [same _ _ hy, ← hy]; exact h4

def strsK : List AV → (List (Nat × Nat) → Prop) → Prop
  | [], k => k []
  | v :: l, k => asStr v fun n x => strsK l fun r => k ((n, x) :: r)
def catT (m y : Nat) : List (Nat × Nat) → Nat × Nat
  | [] => (0, 0)
  | p :: r => match catT m y r with | (l, z) => (m + (p.1 + l), y + (p.2 + z <<< (8 * p.1)) <<< (8 * m))
def joinN (m y : Nat) : List (Nat × Nat) → Nat × Nat
  | [] => (0, 0)
  | p :: r => match catT m y r with | (l, z) => (p.1 + l, p.2 + z <<< (8 * p.1))
/-- strings.Join. -/
noncomputable def strJoinK : ConD := fun args h K => match args with
  | [s, sep] => asStr sep fun m y => asSl s (K (.str 0 0) h) fun o off n _ _ => objAt h o fun e => cellsK e.obj n off fun l => strsK l fun xs =>
    gd (Nat.ble n 140737488355328 && Nat.ble (joinN m y xs).1 140737488355328) (forceN (joinN m y xs).1 fun N => forceN (joinN m y xs).2 fun X => K (.str N X) h)
  | _ => False
/-- internal/stringslite.Clone. -/
noncomputable def strCloneK : ConD := fun args h K => match args with
  | [s] => asStr s fun n z => gd (Nat.ble n 281474976710656) (K (.str n z) h)
  | _ => False

theorem strsK_iff : ∀ (l : List AV) (k : List (Nat × Nat) → Prop), strsK l k → ∃ xs, k xs ∧ l = xs.map fun p => .str p.1 p.2
  | [], k, h => ⟨[], h, rfl⟩
  | v :: l, k, h => by
    obtain ⟨n, x, rfl, h⟩ := asStr_iff.1 (show asStr v _ from h)
    obtain ⟨xs, hk, rfl⟩ := strsK_iff l _ h
    exact ⟨(n, x) :: xs, hk, rfl⟩
theorem gams_strs {κ : Kap} : ∀ (xs : List (Nat × Nat)) (L : List Value), gams κ (xs.map fun p => .str p.1 p.2) = some L → L = xs.map (fun p => .string (strOf p.1 p.2)) ∧ ∀ p ∈ xs, p.2 < 256 ^ p.1
  | [], L, h => by simp [gams] at h; subst h; simp
  | p :: xs, L, h => by
    simp only [List.map_cons, gams, Option.bind_eq_some_iff, Option.map_eq_some_iff] at h
    obtain ⟨v, h1, r, h2, rfl⟩ := h
    obtain ⟨rfl, h3⟩ := gams_strs xs r h2
    simp only [gam] at h1
    split at h1
    · rename_i hlt
      simp only [Option.some.injEq] at h1
      subst h1
      refine ⟨rfl, fun q hq => ?_⟩
      rcases List.mem_cons.1 hq with rfl | hq
      · exact hlt
      · exact h3 q hq
    · cases h1
theorem catT_ok {m y : Nat} (hy : y < 256 ^ m) : ∀ (r : List (Nat × Nat)), (∀ p ∈ r, p.2 < 256 ^ p.1) → bytesL (catT m y r).1 (catT m y r).2 = Lib.joinTail (bytesL m y) (r.map fun p => bytesL p.1 p.2)
  | [], _ => by simp [catT, bytesL, Lib.joinTail]
  | p :: r, h => by
    have ih := catT_ok hy r (fun q hq => h q (by simp [hq]))
    have hp := h p (by simp)
    simp only [catT]
    rw [bytesL_join _ _ _ _ hy, bytesL_join _ _ _ _ hp, ih]
    simp [Lib.joinTail]
theorem joinN_ok {m y : Nat} (hy : y < 256 ^ m) : ∀ (xs : List (Nat × Nat)), (∀ p ∈ xs, p.2 < 256 ^ p.1) → bytesL (joinN m y xs).1 (joinN m y xs).2 = Lib.join (xs.map fun p => bytesL p.1 p.2) (bytesL m y)
  | [], _ => by simp [joinN, bytesL, Lib.join_nil]
  | p :: r, h => by
    have ih := catT_ok hy r (fun q hq => h q (by simp [hq]))
    have hp := h p (by simp)
    simp only [joinN]
    rw [bytesL_join _ _ _ _ hp, ih, List.map_cons, Lib.join_cons]
theorem catT_lt {m y : Nat} (hy : y < 256 ^ m) : ∀ (r : List (Nat × Nat)), (∀ p ∈ r, p.2 < 256 ^ p.1) → (catT m y r).2 < 256 ^ (catT m y r).1
  | [], _ => by simp [catT]
  | p :: r, h => by
    simp only [catT]
    exact join_lt _ _ _ _ hy (join_lt _ _ _ _ (h p (by simp)) (catT_lt hy r (fun q hq => h q (by simp [hq]))))
theorem joinN_lt {m y : Nat} (hy : y < 256 ^ m) : ∀ (xs : List (Nat × Nat)), (∀ p ∈ xs, p.2 < 256 ^ p.1) → (joinN m y xs).2 < 256 ^ (joinN m y xs).1
  | [], _ => by simp [joinN]
  | p :: r, h => by
    simp only [joinN]
    exact join_lt _ _ _ _ (h p (by simp)) (catT_lt hy r (fun q hq => h q (by simp [hq])))

theorem strJoin_ok (L : Lays.n156 P ρ) (X : Builder.Extra P ρ) (B : Nat) (w0 : W0) : ConOne P B w0 (ρ.f 156) strJoinK := by
  intro avs h K hD
  refine ⟨⟨_, L.f156, by show "strings.Join" ≠ _; decide, rfl⟩, fun κ w args s hargs R hR => ?_⟩
  match avs, hD with
  | [sl, sep], hD =>
    obtain ⟨m, y, rfl, hD⟩ := asStr_iff.1 (show asStr sep _ from hD)
    simp only [gams, Option.bind_eq_some_iff, Option.map_eq_some_iff, Option.some.injEq] at hargs
    obtain ⟨S, hS, r, ⟨SEP, hSEP, r2, rfl, rfl⟩, rfl⟩ := hargs
    have hy : y < 256 ^ m ∧ SEP = .string (strOf m y) := by
      simp only [gam] at hSEP
      split at hSEP
      · rename_i hlt; exact ⟨hlt, by simpa using hSEP.symm⟩
      · cases hSEP
    obtain ⟨hy, rfl⟩ := hy
    rcases asSl_iff.1 hD with ⟨rfl, hD⟩ | ⟨o, off, n, kn, c, rfl, hD⟩
    · simp only [gam, Option.some.injEq] at hS
      subst hS
      refine (Any.strings_Join_none L X none 0 (strOf m y) w).mono fun e w' ⟨he, hw⟩ => ?_
      subst he; subst hw
      refine hR κ (.str 0 0) h _ _ κ.le_refl s ?_ hD
      simp [gam, strOf, bytesL]
    · obtain ⟨ki, cap, hk, rfl, hcap⟩ := gamk κ o off n c kn S hS
      obtain ⟨e, he, hD⟩ := objAt_iff.1 hD
      obtain ⟨l, hD, hl, hc⟩ := cellsK_iff _ _ _ _ hD
      obtain ⟨xs, hD3, el⟩ := strsK_iff _ _ hD
      clear hD
      subst el
      obtain ⟨hg, hD⟩ := gd_iff.1 hD3
      simp only [forceN_eq] at hD
      simp only [Bool.and_eq_true, Nat.ble_eq] at hg
      obtain ⟨VL, f1, f2, f3⟩ := s.cells he hk _ off (fun j hj => hc j (by omega))
      obtain ⟨rfl, hlt⟩ := gams_strs xs VL f1
      have hn : n = (xs.map fun p => strOf p.1 p.2).length := by simpa using hl.symm
      have hdata : (xs.map fun p => strOf p.1 p.2).map (·.data.toList) = xs.map fun p => bytesL p.1 p.2 := by
        rw [List.map_map]; apply List.map_congr_left; intro p _; simp [strOf_data]
      have hjoin : (⟨(Lib.join ((xs.map fun p => strOf p.1 p.2).map (·.data.toList)) (strOf m y).data.toList).toArray⟩ : ByteArray) = strOf (joinN m y xs).1 (joinN m y xs).2 := by
        rw [hdata, strOf_data, ← joinN_ok hy xs hlt]; rfl
      have hlen : (Lib.join ((xs.map fun p => strOf p.1 p.2).map (·.data.toList)) (strOf m y).data.toList).length ≤ 140737488355328 := by
        rw [hdata, strOf_data, ← joinN_ok hy xs hlt]
        simp only [bytesL, List.length_map, List.length_range]
        exact hg.2
      have hb : ki.blk < w.heap.size := by
        obtain ⟨ki', h1, _, _, h4⟩ := s.obj o e he
        rw [hk] at h1; cases h1
        obtain ⟨y, hy⟩ := Option.isSome_iff_exists.1 h4.isSome
        exact (Array.getElem?_eq_some_iff.1 hy).1
      have hcall := Any.strings_Join L X ki.blk (ki.base + off) cap (xs.map fun p => strOf p.1 p.2) (strOf m y) w (fun j x hx => by
          rw [List.getElem?_map, Option.map_eq_some_iff] at hx
          obtain ⟨p, hp, rfl⟩ := hx
          have := f3 j (.string (strOf p.1 p.2)) (by rw [List.getElem?_map, hp]; rfl)
          simpa [Ki.at, Nat.add_assoc] using this) hb (by rw [← hn]; exact hg.1) (by rw [← hn]; exact hcap) hlen
      rw [← hn] at hcall
      refine hcall.mono fun e w' ⟨he, hw⟩ => ?_
      subst he
      rw [hjoin]
      refine hR κ (.str (joinN m y xs).1 (joinN m y xs).2) h _ w' κ.le_refl (s.left hw) ?_ hD
      simp only [gam]
      rw [if_pos (joinN_lt hy xs hlt)]
theorem strClone_ok (L : LaysM.n316 P ρ) (B : Nat) (w0 : W0) : ConOne P B w0 (ρ.f 316) strCloneK := by
  intro avs h K hD
  refine ⟨⟨_, L.f316, by show "internal/stringslite.Clone" ≠ _; decide, rfl⟩, fun κ w args s hargs R hR => ?_⟩
  match avs, hD with
  | [v], hD =>
    obtain ⟨n, z, rfl, hD⟩ := asStr_iff.1 (show asStr v _ from hD)
    obtain ⟨hg, hD⟩ := gd_iff.1 hD
    simp only [gams, Option.bind_eq_some_iff, Option.map_eq_some_iff, Option.some.injEq] at hargs
    obtain ⟨S, hS, r, rfl, rfl⟩ := hargs
    have hS2 := hS
    simp only [gam] at hS
    split at hS
    · simp only [Option.some.injEq] at hS
      subst hS
      refine (Any.stringslite_Clone L (strOf n z) w (by rw [strOf_size]; simpa using hg)).mono fun e w' ⟨he, hw⟩ => ?_
      subst he
      exact hR κ (.str n z) h _ w' κ.le_refl (s.left hw) hS2 hD
    · cases hS

end Go.Am
