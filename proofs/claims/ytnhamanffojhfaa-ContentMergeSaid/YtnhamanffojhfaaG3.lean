/-
  Parts of an abstract machine that is sound over the model: AmIns AmIns2 AmMake2 AmIn AmLaw AmRow. No condition.
-/
import Derived.Test.YtnhamanffojhfaaG2
import Derived.Shelf.Spec.SlicesInsertGrow
import Derived.ChangeArms
import Derived.WalkKit
import Derived.ProofKit
import Derived.Handed
import Derived.WideKeyArgs
import Derived.OpenShut
import Derived.RowKit
namespace Go.Am
set_option linter.unusedSimpArgs false
set_option linter.unusedVariables false
open Go Go.Proofs Go.Shelf Go.RowKit Go.Lib
variable {P : Program} {ρ : Ren}

/-- The library's body under another name. -/
noncomputable abbrev insF (ρ : Ren) (nm : String) : Func := { Body2.n22 ρ with name := nm }
theorem ins_enter {P : Program} {ρ : Ren} {nm : String} {c : Code} {args : Array Value} {w : World} {R : Ending → World → Prop} (hf : P.funcs[ρ.f 22]? = some (insF ρ nm)) (hc : (Body2.n22 ρ).body = some c)
    (h : c.wp P (bodyPost P (Body2.n22 ρ) R) { tmps := args ++ Array.replicate ((Body2.n22 ρ).ntmps - args.size) undef, defers := [] } w) : Calls P (ρ.f 22) args w R :=
  calls_of_wp hf hc h
/-- What the walks ask of the numbering: the function, its helper, its types; an element has k cells and 'bs' bytes. -/
structure InsLay (P : Program) (ρ : Ren) (nm : String) (k bs : Nat) (z : Value) : Prop where
  mixed : P.follows .mixedOrders = true
  f22 : P.funcs[ρ.f 22]? = some (insF ρ nm)
  f29 : ∀ (args : Array Value) (w : World), (callFunc (ρ.f 29) args).run P w = ((Extern.SlicesOverlaps.overlaps #[(ρ.t 24), (ρ.t 24)] #[(ρ.t 4)] args).run P w).andThen fun v w => .ok (.value v) w
  t0 : P.underlying (ρ.t 0) = some (TypeDesc.tuple #[])
  a0 : ∀ w, (isAgg (ρ.t 0)).run P w = .ok false w
  z0 : ∀ w, (Go.sizeOf (ρ.t 0)).run P w = .ok 1 w
  v0 : ∀ w, (zeroValue (ρ.t 0)).run P w = .ok (Value.tuple #[]) w
  t3 : P.underlying (ρ.t 3) = some (TypeDesc.int IntKind.i64)
  a3 : ∀ w, (isAgg (ρ.t 3)).run P w = .ok false w
  z3 : ∀ w, (Go.sizeOf (ρ.t 3)).run P w = .ok 1 w
  v3 : ∀ w, (zeroValue (ρ.t 3)).run P w = .ok (Value.int IntKind.i64 0) w
  t4 : P.underlying (ρ.t 4) = some (TypeDesc.bool)
  a4 : ∀ w, (isAgg (ρ.t 4)).run P w = .ok false w
  z4 : ∀ w, (Go.sizeOf (ρ.t 4)).run P w = .ok 1 w
  v4 : ∀ w, (zeroValue (ρ.t 4)).run P w = .ok (Value.bool false) w
  z9 : ∀ w, (Go.sizeOf (ρ.t 9)).run P w = .ok k w
  t24 : P.underlying (ρ.t 24) = some (TypeDesc.slice (ρ.t 9))
  a24 : ∀ w, (isAgg (ρ.t 24)).run P w = .ok false w
  z24 : ∀ w, (Go.sizeOf (ρ.t 24)).run P w = .ok 1 w
  v24 : ∀ w, (zeroValue (ρ.t 24)).run P w = .ok (Value.slice none 0 0) w
  i9 : (P.info? (ρ.t 9)).map (fun i => (i.zero, i.size, i.bytes)) = some (some z, k, bs)

/-- 'copy' of n elements of k cells: all is read before anything is written. -/
theorem run_copy_cellsK (w : World) (dT sT ty elem : TypeId) (k b o dLen dCap : Nat) (a : Addr) (sLen sCap n : Nat) (cs : List Value)
    (hu : P.underlying dT = some (.slice elem)) (hs : (P.info? elem).map (·.size) = some k) (hn : n = Nat.min sLen dLen) (hl : cs.length = n * k)
    (hsrc : ∀ j v, cs[j]? = some v → w.cell? (a.add j) = some v) (hc : ∀ j, j < cs.length → (w.cell? ⟨b, o + j, none⟩).isSome = true) (hf : ∀ j, j < cs.length → w.frozen? ⟨b, o + j, none⟩ = false) (h1 : ∀ v ∈ cs, v.oneCell' = true) :
    (Builtin.copy_ #[dT, sT] ty #[.slice (some ⟨b, o, none⟩) dLen dCap, .slice (some a) sLen sCap]).run P w = .ok (goInt n) (w.setCells b o cs) := by
  have hl' := run_loadCells_list (P := P) w a cs hsrc
  have hst := run_storeCells_cells (P := P) b o cs 0 w (by simpa using hc) (by simpa using hf) h1
  rw [hl] at hl'
  cases hq : P.info? elem with
  | none => simp [hq] at hs
  | some i =>
    have hi : i.size = k := by simpa [hq] using hs
    simp [Builtin.copy_, run_underlying hu, Builtin.lenOf, Builtin.firstCells, sizeOf, typeInfo, hq, hi, ← hn, hl', hst]

theorem mulMin {n m i k : Nat} : n * k + m * k = (n + m) * k := (Nat.add_mul n m k).symm

set_option maxHeartbeats 4000000 in
set_option maxRecDepth 100000 in
/-- There is room, i < len(s): in place. -/
theorem ins_shift {nm : String} {k bs : Nat} {z : Value} (hk : 0 < k) (L : InsLay P ρ nm k bs z) (b off n c i vb voff m vc : Nat) (cs vs : List Value) (w : World) (hi : i < n) (hm : 0 < m) (hroom : n + m ≤ c) (h62 : n + m ≤ 140737488355328) (hvb : vb ≠ b)
    (hcl : cs.length = n * k) (hvl : vs.length = m * k)
    (hcs : ∀ j v, cs[j]? = some v → w.cell? ⟨b, off + j, none⟩ = some v) (hsp : ∀ j, j < (n + m) * k → (w.cell? ⟨b, off + j, none⟩).isSome = true) (hfz : ∀ j, j < (n + m) * k → w.frozen? ⟨b, off + j, none⟩ = false)
    (hvs : ∀ j v, vs[j]? = some v → w.cell? ⟨vb, voff + j, none⟩ = some v) (h1c : ∀ v ∈ cs, v.oneCell' = true) (h1v : ∀ v ∈ vs, v.oneCell' = true)
    (tA tB : TypeId) (kA kB : Nat) (hsa : w.shape? vb = some (tA, kA)) (hsb : w.shape? b = some (tB, kB)) (hkB : kB ≠ 0) (hfa : w.frozen? ⟨vb, voff, none⟩ = false) (hfe : w.frozen? ⟨vb, kA, none⟩ = false) :
    Calls P (ρ.f 22) #[.slice (some ⟨b, off, none⟩) n c, .int .i64 i, .slice (some ⟨vb, voff, none⟩) m vc] w fun e w' =>
      e = .returned (.slice (some ⟨b, off, none⟩) (n + m) c) ∧ w' = (w.drew.setCells b (off + (i + m) * k) (cs.drop (i * k))).setCells b (off + i * k) vs := by
  have t0 := L.t0; have a0 := L.a0; have z0 := L.z0; have v0 := L.v0; have t3 := L.t3; have a3 := L.a3; have z3 := L.z3; have v3 := L.v3; have t4 := L.t4; have a4 := L.a4; have z4 := L.z4; have v4 := L.v4; have z9 := L.z9; have t24 := L.t24; have a24 := L.a24; have z24 := L.z24; have v24 := L.v24
  have u0 := run_underlying L.t0; have u3 := run_underlying L.t3; have u4 := run_underlying L.t4; have u24 := run_underlying L.t24
  have hz1 : ¬ ((m : Int) = 0) := by omega
  have hz2 : ¬ ((i : Int) = (n : Int)) := by omega
  have hsz : (P.info? (ρ.t 9)).map (·.size) = some k := by
    obtain ⟨i0, hi0, h0, h1, h2⟩ := info_parts L.i9
    rw [hi0]; simp [h1]
  have hov : ∀ lb cb, (callFunc (ρ.f 29) #[.slice (some ⟨vb, voff, none⟩) m vc, .slice (some ⟨b, off + (i + m) * k, none⟩) lb cb]).run P w = .ok (.value (.bool false)) w := fun lb cb => by
    rw [L.f29, Lib.run_overlaps_apart w (ρ.t 24) (ρ.t 4) (ρ.t 9) L.t24 k L.z9 ⟨vb, voff, none⟩ ⟨b, off + (i + m) * k, none⟩ m vc lb cb hvb tA tB kA kB hsa hsb hkB hfa hfe]
    rfl
  have hdl : (cs.drop (i * k)).length = (n - i) * k := by rw [List.length_drop, hcl, Nat.sub_mul]
  have mixed := L.mixed
  have hw1 : IntKind.i64.wrap ((i : Int) + (m : Int)) = (i : Int) + (m : Int) := by rw [IntKind.wrap_i64]; omega
  have hb1 : (0 : Int) ≤ (i : Int) + (m : Int) := by omega
  have hin : i ≤ n := by omega
  have htn : ((i : Int) + (m : Int)).toNat = i + m := by omega
  have hb2 : ¬ (c = i + m) := by omega
  have hb3 : (i : Int) ≤ (n : Int) + (m : Int) := by omega
  have hb4 : ¬ (c = i) := by omega
  have e1 : (i + m) * k + (n - i) * k = (n + m) * k := by rw [← Nat.add_mul]; congr 1; omega
  have e2 : i * k + m * k ≤ (n + m) * k := by rw [← Nat.add_mul]; exact Nat.mul_le_mul_right _ (by omega)
  have hcp1 : ∀ ty dc sc, (Builtin.copy_ #[(ρ.t 24), (ρ.t 24)] ty #[.slice (some ⟨b, off + (i + m) * k, none⟩) (n + m - (i + m)) dc, .slice (some ⟨b, off + i * k, none⟩) (n + m - i) sc]).run P w.drew = .ok (goInt (n - i : Nat)) (w.drew.setCells b (off + (i + m) * k) (cs.drop (i * k))) := fun ty dc sc =>
    run_copy_cellsK w.drew _ _ ty (ρ.t 9) k b (off + (i + m) * k) (n + m - (i + m)) dc ⟨b, off + i * k, none⟩ (n + m - i) sc (n - i) (cs.drop (i * k)) L.t24 hsz (by simp only [Nat.min_def]; split <;> omega) hdl
      (fun j v hj => by rw [Addr.add_lit, Nat.add_assoc]; exact hcs (i * k + j) v (by rwa [List.getElem?_drop] at hj))
      (fun j hj => by rw [Nat.add_assoc]; exact hsp _ (by omega)) (fun j hj => by rw [Nat.add_assoc]; exact hfz _ (by omega)) (fun v hv => h1c v (List.mem_of_mem_drop hv))
  obtain ⟨W1, hW1⟩ : ∃ W1, W1 = w.drew.setCells b (off + (i + m) * k) (cs.drop (i * k)) := ⟨_, rfl⟩
  have hsp1 : ∀ q, q < (n + m) * k → (W1.cell? ⟨b, off + q, none⟩).isSome = true := fun q hq => by
    rw [hW1]
    exact isSome_setCells b _ _ _ (fun j hj => by rw [Nat.add_assoc]; exact hsp _ (by omega)) _ (hsp q hq)
  have hcp2 : ∀ (W : World), (∀ x, W.cell? x = W1.cell? x) → (∀ x, W.frozen? x = W1.frozen? x) → ∀ ty dc, (Builtin.copy_ #[(ρ.t 24), (ρ.t 24)] ty #[.slice (some ⟨b, off + i * k, none⟩) (n + m - i) dc, .slice (some ⟨vb, voff, none⟩) m vc]).run P W = .ok (goInt m) (W.setCells b (off + i * k) vs) := fun W hWc hWf ty dc =>
    run_copy_cellsK W _ _ ty (ρ.t 9) k b (off + i * k) (n + m - i) dc ⟨vb, voff, none⟩ m vc m vs L.t24 hsz (by simp only [Nat.min_def]; split <;> omega) hvl
      (fun j v hj => by
        rw [Addr.add_lit, hWc, hW1, World.cell?_setCells_out b _ _ _ _ (fun h _ => absurd h hvb)]
        exact hvs j v hj)
      (fun j hj => by rw [hWc, Nat.add_assoc]; exact hsp1 _ (by omega)) (fun j hj => by rw [hWf, hW1, World.frozen?_setCells, Nat.add_assoc]; exact hfz _ (by omega)) h1v
  rw [← hW1] at hcp1
  clear e1 e2
  refine ins_enter L.f22 rfl ?_
  simp only [Body2.n22_ntmps ρ, List.size_toArray, List.length_cons, List.length_nil, Nat.reduceAdd, Nat.reduceSub, Array.replicate_succ,
     Array.replicate_zero, List.push_toArray, List.append_toArray, List.nil_append, List.cons_append]
  go_wp2_with (simp only [hov])
  go_region_law_o (refine step_copy_runI rfl _ _ (ρ.t 24) (ρ.t 24) rfl _ _ (by simp [Act.eval, Act.put]) (by simp [Act.eval, Act.put]) (hcp1 _ _ _) ?_)
  go_wp2_with (at_builtin; refine wpList_copy_runI _ rfl _ _ (ρ.t 24) (ρ.t 24) rfl _ _ rfl rfl (hcp2 _ (fun _ => rfl) (fun _ => rfl) _ _) ?_)
  go_ret
  first | exact ⟨rfl, rfl⟩ | exact ⟨rfl, by rw [hW1]⟩

set_option maxHeartbeats 4000000 in
set_option maxRecDepth 100000 in
/-- At the end, there is room: in place. -/
theorem ins_end_room {nm : String} {k bs : Nat} {z : Value} (hk : 0 < k) (L : InsLay P ρ nm k bs z) (b off n c vb voff m vc : Nat) (vs : List Value) (w : World) (hm : 0 < m) (hroom : n + m ≤ c) (h62 : n + m ≤ 140737488355328)
    (hvl : vs.length = m * k) (hsp : ∀ j, j < m * k → (w.cell? ⟨b, off + n * k + j, none⟩).isSome = true) (hfz : ∀ j, j < m * k → w.frozen? ⟨b, off + n * k + j, none⟩ = false)
    (hvs : ∀ j v, vs[j]? = some v → w.cell? ⟨vb, voff + j, none⟩ = some v) (h1v : ∀ v ∈ vs, v.oneCell' = true) :
    Calls P (ρ.f 22) #[.slice (some ⟨b, off, none⟩) n c, .int .i64 n, .slice (some ⟨vb, voff, none⟩) m vc] w fun e w' =>
      e = .returned (.slice (some ⟨b, off, none⟩) (n + m) c) ∧ w' = w.setCells b (off + n * k) vs := by
  have t0 := L.t0; have a0 := L.a0; have z0 := L.z0; have v0 := L.v0; have t3 := L.t3; have a3 := L.a3; have z3 := L.z3; have v3 := L.v3; have t4 := L.t4; have a4 := L.a4; have z4 := L.z4; have v4 := L.v4; have z9 := L.z9; have t24 := L.t24; have a24 := L.a24; have z24 := L.z24; have v24 := L.v24
  have u0 := run_underlying L.t0; have u3 := run_underlying L.t3; have u4 := run_underlying L.t4; have u24 := run_underlying L.t24
  have mixed := L.mixed
  obtain ⟨i0, hi0, hz0, hzs, hzb⟩ := info_parts L.i9
  have hz1 : ¬ ((m : Int) = 0) := by omega
  have hsrc : Go.Src P i0.size (ρ.t 24) (.slice (some ⟨vb, voff, none⟩) m vc) m vs w := by
    rw [hzs]; exact Go.Src.ofSlice w L.t24 ⟨vb, voff, none⟩ m vc vs hvl (fun j u hj => by rw [Addr.add_lit]; exact hvs j u hj) h1v
  have hrun : ∀ ty, (Builtin.append_ #[(ρ.t 24), (ρ.t 24)] ty #[.slice (some ⟨b, off, none⟩) n c, .slice (some ⟨vb, voff, none⟩) m vc]).run P w = .ok (.slice (some ⟨b, off, none⟩) (n + m) c) (w.setCells b (off + n * k) vs) := fun ty => by
    have h := run_append_room_src (P := P) w (ρ.t 24) (ρ.t 24) ty (ρ.t 9) i0 L.t24 hi0 b off n c _ m vs hsrc hroom (by rw [hvl, hzs]; exact hsp) (by rw [hvl, hzs]; exact hfz)
    rwa [hzs] at h
  refine ins_enter L.f22 rfl ?_
  simp only [Body2.n22_ntmps ρ, List.size_toArray, List.length_cons, List.length_nil, Nat.reduceAdd, Nat.reduceSub, Array.replicate_succ,
     Array.replicate_zero, List.push_toArray, List.append_toArray, List.nil_append, List.cons_append]
  go_wp2_with (at_builtin; refine Lib.wpList_append_run _ rfl _ _ _ _ rfl _ _ rfl rfl _ _ (hrun _) ?_)
  go_ret
  exact ⟨rfl, rfl⟩

set_option maxHeartbeats 4000000 in
set_option maxRecDepth 100000 in
/-- At the end, no room (the nil slice too): a new row. -/
theorem ins_end_grow {nm : String} {k bs : Nat} {z : Value} (hk : 0 < k) (L : InsLay P ρ nm k bs z) (base : Option Addr) (n c vb voff m vc : Nat) (cs vs : List Value) (w : World) (hm : 0 < m) (hnc : n ≤ c) (hroom : c < n + m) (hbig : (n + m) * bs ≤ 140737488355328) (h63 : ((n + m : Nat) : Int) ≤ 9223372036854775807)
    (hcl : cs.length = n * k) (hvl : vs.length = m * k) (hnil : base = none → n = 0)
    (hcs : ∀ a, base = some a → ∀ j v, cs[j]? = some v → w.cell? (a.add j) = some v)
    (hvs : ∀ j v, vs[j]? = some v → w.cell? ⟨vb, voff + j, none⟩ = some v) (h1v : ∀ v ∈ vs, v.oneCell' = true) :
    Calls P (ρ.f 22) #[.slice base n c, .int .i64 n, .slice (some ⟨vb, voff, none⟩) m vc] w fun e w' =>
      e = .returned (.slice (some ⟨w.heap.size, 0, none⟩) (n + m) (grownCap w (n + m) c (ρ.t 9))) ∧
      w' = w.drew.alloc (.cells ((cs ++ vs).toArray ++ Builtin.zeroCells z.cells (grownCap w (n + m) c (ρ.t 9) - (n + m))) (ρ.t 9)) := by
  have t0 := L.t0; have a0 := L.a0; have z0 := L.z0; have v0 := L.v0; have t3 := L.t3; have a3 := L.a3; have z3 := L.z3; have v3 := L.v3; have t4 := L.t4; have a4 := L.a4; have z4 := L.z4; have v4 := L.v4; have z9 := L.z9; have t24 := L.t24; have a24 := L.a24; have z24 := L.z24; have v24 := L.v24
  have u0 := run_underlying L.t0; have u3 := run_underlying L.t3; have u4 := run_underlying L.t4; have u24 := run_underlying L.t24
  have mixed := L.mixed
  obtain ⟨i0, hi0, hz0, hzs, hzb⟩ := info_parts L.i9
  have hz1 : ¬ ((m : Int) = 0) := by omega
  have hsrc : Go.Src P i0.size (ρ.t 24) (.slice (some ⟨vb, voff, none⟩) m vc) m vs w := by
    rw [hzs]
    exact Go.Src.ofSlice w L.t24 ⟨vb, voff, none⟩ m vc vs hvl (fun j u hj => by rw [Addr.add_lit]; exact hvs j u hj) h1v
  have hold : (Builtin.firstCells i0.size n (.slice base n c)).run P w.drew = .ok cs.toArray w.drew := by
    rw [hzs]
    cases base with
    | none =>
      have h0 := hnil rfl
      subst h0
      rw [List.length_eq_zero_iff.1 (show cs.length = 0 by rw [hcl, Nat.zero_mul])]
      exact run_firstCells_none w.drew k 0 0 c
    | some a => exact run_firstCells_some w.drew k n a n c cs hcl (fun j v hj => hcs a rfl j v hj)
  have hrun : ∀ ty, (Builtin.append_ #[(ρ.t 24), (ρ.t 24)] ty #[.slice base n c, .slice (some ⟨vb, voff, none⟩) m vc]).run P w = _ := fun ty =>
    run_append_grow_src w (ρ.t 24) (ρ.t 24) ty (ρ.t 9) i0 _ L.t24 hi0 hz0 base n c cs hold _ m vs hsrc hroom h63 (by rw [hzb]; exact growslice_fits hroom hbig)
  clear hold
  generalize z.cells = ZC at hrun ⊢
  refine ins_enter L.f22 rfl ?_
  simp only [Body2.n22_ntmps ρ, List.size_toArray, List.length_cons, List.length_nil, Nat.reduceAdd, Nat.reduceSub, Array.replicate_succ,
     Array.replicate_zero, List.push_toArray, List.append_toArray, List.nil_append, List.cons_append]
  cases base with
  | none =>
    have h0 := hnil rfl
    subst h0
    go_wp2_with (at_builtin; refine Lib.wpList_append_run _ rfl _ _ _ _ rfl _ _ rfl rfl _ _ (hrun _) ?_)
    go_ret
    exact ⟨rfl, rfl⟩
  | some a =>
    obtain ⟨ab, ao, asp⟩ := a
    go_wp2_with (at_builtin; refine Lib.wpList_append_run _ rfl _ _ _ _ rfl _ _ rfl rfl _ _ (hrun _) ?_)
    all_goals (go_ret; exact ⟨rfl, rfl⟩)

theorem zeroCells_size (zs : Array Value) (n : Nat) : (Builtin.zeroCells zs n).size = n * zs.size := by
  simp [Builtin.zeroCells]

set_option maxHeartbeats 4000000 in
set_option maxRecDepth 100000 in
/-- i < len(s), no room: a new row. -/
theorem ins_grow {nm : String} {k bs : Nat} {z : Value} (hk : 0 < k) (L : InsLay P ρ nm k bs z) (hzc : z.cells.size = k) (b off n c i vb voff m vc : Nat) (cs vs : List Value) (w : World) (hi : i < n) (hm : 0 < m) (hnc : n ≤ c) (hroom : c < n + m) (hbig : (n + m) * bs ≤ 140737488355328) (h62 : n + m ≤ 140737488355328)
    (hcl : cs.length = n * k) (hvl : vs.length = m * k)
    (hcs : ∀ j v, cs[j]? = some v → w.cell? ⟨b, off + j, none⟩ = some v)
    (hvs : ∀ j v, vs[j]? = some v → w.cell? ⟨vb, voff + j, none⟩ = some v) (h1c : ∀ v ∈ cs, v.oneCell' = true) (h1v : ∀ v ∈ vs, v.oneCell' = true) :
    Calls P (ρ.f 22) #[.slice (some ⟨b, off, none⟩) n c, .int .i64 i, .slice (some ⟨vb, voff, none⟩) m vc] w fun e w' =>
      e = .returned (.slice (some ⟨w.heap.size, 0, none⟩) (n + m) (grownCap w (n + m) c (ρ.t 9))) ∧
      w' = (((w.alloc (.cells ((cs.take (i * k)).toArray ++ Builtin.zeroCells z.cells (n + m - i) ++ Builtin.zeroCells z.cells (grownCap w (n + m) c (ρ.t 9) - (n + m))) (ρ.t 9))).drew.setCells w.heap.size (i * k) vs).drew).setCells w.heap.size ((i + m) * k) (cs.drop (i * k)) := by
  have t0 := L.t0; have a0 := L.a0; have z0 := L.z0; have v0 := L.v0; have t3 := L.t3; have a3 := L.a3; have z3 := L.z3; have v3 := L.v3; have t4 := L.t4; have a4 := L.a4; have z4 := L.z4; have v4 := L.v4; have z9 := L.z9; have t24 := L.t24; have a24 := L.a24; have z24 := L.z24; have v24 := L.v24
  have u0 := run_underlying L.t0; have u3 := run_underlying L.t3; have u4 := run_underlying L.t4; have u24 := run_underlying L.t24
  have mixed := L.mixed
  obtain ⟨i0, hi0, hz0, hzs, hzb⟩ := info_parts L.i9
  have hz1 : ¬ ((m : Int) = 0) := by omega
  have hz2 : ¬ ((i : Int) = (n : Int)) := by omega
  have hz3 : (c : Int) < (n : Int) + (m : Int) := by omega
  have hsz : (P.info? (ρ.t 9)).map (·.size) = some k := by rw [hi0]; simp [hzs]
  have hnk : 0 < n * k := Nat.mul_pos (by omega) hk
  have hmk : 0 < m * k := Nat.mul_pos hm hk
  have hbw : b < w.heap.size := block_lt_of_cell (hcs 0 _ (List.getElem?_eq_getElem (by omega)))
  have hvw : vb < w.heap.size := block_lt_of_cell (hvs 0 _ (List.getElem?_eq_getElem (by omega)))
  have hkk : (n : Int) + (m : Int) - (i : Int) = ((n + m - i : Nat) : Int) := by omega
  have hik : i + (n + m - i) = n + m := by omega
  have hile : i * k ≤ n * k := Nat.mul_le_mul_right _ (by omega)
  have hold : (Builtin.firstCells i0.size i (.slice (some ⟨b, off, none⟩) i c)).run P w.drew = .ok (cs.take (i * k)).toArray w.drew := by
    rw [hzs]
    exact run_firstCells_some w.drew k i ⟨b, off, none⟩ i c (cs.take (i * k)) (by rw [List.length_take]; omega) (fun j v hj => by
      rw [Addr.add_lit]
      rw [List.getElem?_take] at hj
      split at hj
      · exact hcs j v hj
      · cases hj)
  have hrz : ∀ ty, (Builtin.append_ #[(ρ.t 24), (ρ.t 3)] ty #[.slice (some ⟨b, off, none⟩) i c, .int .i64 ((n : Int) + (m : Int) - (i : Int))]).run P w =
      .ok (.slice (some ⟨w.heap.size, 0, none⟩) (n + m) (grownCap w (n + m) c (ρ.t 9))) (w.drew.alloc (.cells ((cs.take (i * k)).toArray ++ Builtin.zeroCells z.cells (n + m - i) ++ Builtin.zeroCells z.cells (grownCap w (n + m) c (ρ.t 9) - (n + m))) (ρ.t 9))) := fun ty => by
    have hle : (n + m - i) * i0.bytes ≤ (n + m) * bs := by rw [hzb]; exact Nat.mul_le_mul_right _ (by omega)
    have h := Lib.run_append_grow_zeros w (ρ.t 24) (ρ.t 3) ty (ρ.t 9) i0 _ .i64 .i64 L.t24 L.t3 hi0 hz0 (some ⟨b, off, none⟩) i c (cs.take (i * k)) hold (n + m - i) (by omega) (by omega) (by omega) (by omega) (by omega) (by rw [hzb, hik]; exact growslice_fits hroom hbig)
    rw [hik] at h
    rw [hkk]
    exact h
  obtain ⟨G, hG⟩ : ∃ G, G = grownCap w (n + m) c (ρ.t 9) := ⟨_, rfl⟩
  obtain ⟨ROW, hROW⟩ : ∃ ROW : Array Value, ROW = (cs.take (i * k)).toArray ++ Builtin.zeroCells z.cells (n + m - i) ++ Builtin.zeroCells z.cells (G - (n + m)) := ⟨_, rfl⟩
  rw [← hG] at hrz ⊢
  rw [← hROW] at hrz ⊢
  have e0 : i * k + (n + m - i) * k = (n + m) * k := by rw [← Nat.add_mul, hik]
  have hRl : (n + m) * k ≤ ROW.size := by
    rw [hROW]
    simp only [Array.size_append, List.size_toArray, List.length_take, zeroCells_size, hzc]
    omega
  obtain ⟨W1, hW1⟩ : ∃ W1, W1 = w.drew.alloc (.cells ROW (ρ.t 9)) := ⟨_, rfl⟩
  rw [← hW1] at hrz
  have hN : ∀ j, j < (n + m) * k → (W1.cell? ⟨w.heap.size, j, none⟩).isSome = true := fun j hj => by
    rw [hW1, World.cell?_alloc_at (w := w.drew) ROW _ w.heap.size j rfl, Array.getElem?_eq_getElem (by omega)]; rfl
  have hNf : ∀ j, W1.frozen? ⟨w.heap.size, j, none⟩ = false := fun j => by rw [hW1]; exact World.frozen?_alloc_at (w := w.drew) ROW _ w.heap.size j rfl
  have hOb : ∀ j v, w.cell? ⟨b, j, none⟩ = some v → W1.cell? ⟨b, j, none⟩ = some v := fun j v h => by rw [hW1, World.cell?_alloc_past (w := w.drew) _ b j hbw]; exact h
  have hOv : ∀ j v, w.cell? ⟨vb, j, none⟩ = some v → W1.cell? ⟨vb, j, none⟩ = some v := fun j v h => by rw [hW1, World.cell?_alloc_past (w := w.drew) _ vb j hvw]; exact h
  have e2 : i * k + m * k ≤ (n + m) * k := by rw [← Nat.add_mul]; exact Nat.mul_le_mul_right _ (by omega)
  have e3 : (i + m) * k + (n - i) * k = (n + m) * k := by rw [← Nat.add_mul]; congr 1; omega
  have hcpA : ∀ (W : World), (∀ x, W.cell? x = W1.cell? x) → (∀ x, W.frozen? x = W1.frozen? x) → ∀ ty dc, (Builtin.copy_ #[(ρ.t 24), (ρ.t 24)] ty #[.slice (some ⟨w.heap.size, i * k, none⟩) (n + m - i) dc, .slice (some ⟨vb, voff, none⟩) m vc]).run P W = .ok (goInt m) (W.setCells w.heap.size (i * k) vs) := fun W hWc hWf ty dc =>
    run_copy_cellsK W _ _ ty (ρ.t 9) k w.heap.size (i * k) (n + m - i) dc ⟨vb, voff, none⟩ m vc m vs L.t24 hsz (by simp only [Nat.min_def]; split <;> omega) hvl
      (fun j v hj => by rw [Addr.add_lit, hWc]; exact hOv _ v (hvs j v hj))
      (fun j hj => by rw [hWc]; exact hN _ (by omega)) (fun j hj => by rw [hWf]; exact hNf _) h1v
  have hGn : n + m ≤ G := by rw [hG]; exact grownCap_ge w _ _ _
  have hG63 : G ≤ 9223372036854775807 := by
    have := grownCap_le_maxLen w (n + m) c (ρ.t 9) (by unfold maxLen; omega)
    rw [← hG] at this
    unfold maxLen at this
    omega
  have hGi : ¬ (G = i) := by omega
  have hGim : ¬ (G = i + m) := by omega
  have hci : ¬ (c = i) := by omega
  have hbN : b ≠ w.heap.size := by omega
  have hdl : (cs.drop (i * k)).length = (n - i) * k := by rw [List.length_drop, hcl, Nat.sub_mul]
  have hcpB : ∀ (W : World), (∀ x, W.cell? x = (W1.setCells w.heap.size (i * k) vs).cell? x) → (∀ x, W.frozen? x = (W1.setCells w.heap.size (i * k) vs).frozen? x) → ∀ ty dc sc, (Builtin.copy_ #[(ρ.t 24), (ρ.t 24)] ty #[.slice (some ⟨w.heap.size, (i + m) * k, none⟩) (n + m - (i + m)) dc, .slice (some ⟨b, off + i * k, none⟩) (n - i) sc]).run P W = .ok (goInt (n - i : Nat)) (W.setCells w.heap.size ((i + m) * k) (cs.drop (i * k))) := fun W hWc hWf ty dc sc =>
    run_copy_cellsK W _ _ ty (ρ.t 9) k w.heap.size ((i + m) * k) (n + m - (i + m)) dc ⟨b, off + i * k, none⟩ (n - i) sc (n - i) (cs.drop (i * k)) L.t24 hsz (by simp only [Nat.min_def]; split <;> omega) hdl
      (fun j v hj => by
        rw [Addr.add_lit, hWc, World.cell?_setCells_out _ _ _ _ _ (fun h _ => absurd h hbN), Nat.add_assoc]
        exact hOb _ v (hcs (i * k + j) v (by rwa [List.getElem?_drop] at hj)))
      (fun j hj => by rw [hWc]; exact isSome_setCells _ _ _ _ (fun t ht => hN _ (by omega)) _ (hN _ (by omega)))
      (fun j hj => by rw [hWf, World.frozen?_setCells]; exact hNf _) (fun v hv => h1c v (List.mem_of_mem_drop hv))
  subst hW1
  have hE1 : ∀ x, ((w.alloc (.cells ROW (ρ.t 9))).drew).cell? x = (w.drew.alloc (.cells ROW (ρ.t 9))).cell? x := fun x => rfl
  have hE2 : ∀ x, ((w.alloc (.cells ROW (ρ.t 9))).drew).frozen? x = (w.drew.alloc (.cells ROW (ρ.t 9))).frozen? x := fun x => rfl
  have hF1 : ∀ x, (((w.alloc (.cells ROW (ρ.t 9))).drew.setCells w.heap.size (i * k) vs).drew).cell? x = ((w.drew.alloc (.cells ROW (ρ.t 9))).setCells w.heap.size (i * k) vs).cell? x := fun x => rfl
  have hF2 : ∀ x, (((w.alloc (.cells ROW (ρ.t 9))).drew.setCells w.heap.size (i * k) vs).drew).frozen? x = ((w.drew.alloc (.cells ROW (ρ.t 9))).setCells w.heap.size (i * k) vs).frozen? x := fun x => rfl
  have hw1 : IntKind.i64.wrap ((i : Int) + (m : Int)) = (i : Int) + (m : Int) := by rw [IntKind.wrap_i64]; omega
  have hb1 : (0 : Int) ≤ (i : Int) + (m : Int) := by omega
  have hin : i ≤ n := by omega
  have htn : ((i : Int) + (m : Int)).toNat = i + m := by omega
  have hb3 : (i : Int) ≤ (n : Int) := by omega
  clear hkk hik hold hROW hG hRl e0 e2 e3 hnk hmk hile
  refine ins_enter L.f22 rfl ?_
  simp only [Body2.n22_ntmps ρ, List.size_toArray, List.length_cons, List.length_nil, Nat.reduceAdd, Nat.reduceSub, Array.replicate_succ,
     Array.replicate_zero, List.push_toArray, List.append_toArray, List.nil_append, List.cons_append]
  go_wp2_with (first
    | (at_builtin; refine Lib.wpList_append_run _ rfl _ _ _ _ rfl _ _ rfl rfl _ _ (hrz _) ?_)
    | (at_builtin; refine wpList_copy_runI _ rfl _ _ (ρ.t 24) (ρ.t 24) rfl _ _ rfl rfl (hcpA _ hE1 hE2 _ _) ?_)
    | (at_builtin; refine wpList_copy_runI _ rfl _ _ (ρ.t 24) (ρ.t 24) rfl _ _ rfl rfl (hcpB _ (fun _ => rfl) (fun _ => rfl) _ _ _) ?_))
  go_region_law_o (refine step_copy_runI rfl _ _ (ρ.t 24) (ρ.t 24) rfl (.slice (some ⟨w.heap.size, (i + m) * k, none⟩) (n + m - (i + m)) (G - (i + m))) (.slice (some ⟨b, off + i * k, none⟩) (n - i) (c - i)) (by simp [Act.eval, Act.put]) (by simp [Act.eval, Act.put]) (hcpB _ hF1 hF2 (ρ.t 3) (G - (i + m)) (c - i)) ?_)
  go_wp2
  go_ret
  exact ⟨rfl, rfl⟩

end Go.Am

namespace Go.Am
set_option linter.unusedSimpArgs false
set_option linter.unusedVariables false
open Go Go.RowKit Go.Shelf Go.Proofs
variable {P : Program} {ρ : Ren}

theorem Sim.make {B : Nat} {w0 : W0} {w w' : World} {κ : Kap} {h : Hp} (s : Sim B w0 κ h w) (hb : Below B w w') (hsz : w'.heap.size = w.heap.size + 1) (hold : ∀ b, b < w.heap.size → w'.heap[b]? = w.heap[b]?)
    (esz cap : Nat) (ob : AObj) (ho : ObjSim κ ob esz ⟨w.heap.size, 0, cap⟩ w'.heap[w.heap.size]?) :
    Sim B w0 (κ.set h.next ⟨w.heap.size, 0, cap⟩) ⟨E1.updP (some ⟨true, esz, ob⟩) (npos h.next) h.objs, h.next + 1⟩ w' := by
  have hle : κ.le (κ.set h.next ⟨w.heap.size, 0, cap⟩) := Kap.le_set s.none_next
  have lt : ∀ p e ki, h.objs.getP (npos p) = some e → κ p = some ki → ki.blk < w.heap.size := fun p e ki hp hk => by
    obtain ⟨ki', h1, _, _, h4⟩ := s.obj p e hp
    rw [hk] at h1; cases h1
    have := h4.isSome
    obtain ⟨y, hy⟩ := Option.isSome_iff_exists.1 this
    exact (Array.getElem?_eq_some_iff.1 hy).1
  refine ⟨s.below.trans hb, by have := s.size; omega, ?_, ?_, ?_, fun b ob hb => ⟨(s.ghost b ob hb).1, by rw [hold b (s.gh_lt hb)]; exact (s.ghost b ob hb).2⟩, fun p e k hp hkp ho => ?g⟩
  case g =>
    by_cases hpn : p = h.next
    · subst hpn
      rw [Kap.set_self] at hkp; cases hkp
      exact s.gh_size
    · rw [Kap.set_ne _ _ hpn] at hkp
      rw [E1.getP_upd_ne _ _ _ _ (fun e => hpn (npos_inj e).symm)] at hp
      exact s.gap p e k hp hkp ho
  · intro p e hp
    by_cases hpn : p = h.next
    · subst hpn
      simp only [E1.getP_upd_self, Option.some.injEq] at hp
      subst hp
      exact ⟨_, Kap.set_self _ _ _, fun _ => s.size, fun h => by simp at h, ho.mono hle⟩
    · rw [E1.getP_upd_ne _ _ _ _ (fun e => hpn (npos_inj e).symm)] at hp
      obtain ⟨ki, h1, h2, h3, h4⟩ := s.obj p e hp
      refine ⟨ki, hle _ _ h1, h2, h3, ?_⟩
      rw [hold _ (lt p e ki hp h1)]
      exact h4.mono hle
  · intro p q e e' ki ki' hp hq hk hk' ho1 ho2 hne
    by_cases hpn : p = h.next
    · subst hpn
      have hqn : q ≠ h.next := fun e => hne e.symm
      rw [Kap.set_self] at hk; cases hk
      rw [Kap.set_ne _ _ hqn] at hk'
      rw [E1.getP_upd_ne _ _ _ _ (fun e => hqn (npos_inj e).symm)] at hq
      have := lt q e' ki' hq hk'
      simp; omega
    · rw [Kap.set_ne _ _ hpn] at hk
      rw [E1.getP_upd_ne _ _ _ _ (fun e => hpn (npos_inj e).symm)] at hp
      by_cases hqn : q = h.next
      · subst hqn
        rw [Kap.set_self] at hk'; cases hk'
        have := lt p e ki hp hk
        simp; omega
      · rw [Kap.set_ne _ _ hqn] at hk'
        rw [E1.getP_upd_ne _ _ _ _ (fun e => hqn (npos_inj e).symm)] at hq
        exact s.apart p q e e' ki ki' hp hq hk hk' ho1 ho2 hne
  · intro p ki hk
    by_cases hpn : p = h.next
    · subst hpn; simp
    · rw [Kap.set_ne _ _ hpn] at hk
      have := s.fresh p ki hk
      simp; omega

theorem gams_take {κ : Kap} : ∀ (l : List AV) (x : List Value) (a : Nat), gams κ l = some x → gams κ (l.take a) = some (x.take a)
  | [], x, a, h => by simp [gams] at h; subst h; simp [gams]
  | v :: l, x, 0, h => by simp [gams]
  | v :: l, x, a + 1, h => by
    simp only [gams, Option.bind_eq_some_iff, Option.map_eq_some_iff] at h
    obtain ⟨y, h1, ys, h2, rfl⟩ := h
    simp [gams, h1, gams_take l ys a h2]
theorem gams_drop {κ : Kap} : ∀ (l : List AV) (x : List Value) (a : Nat), gams κ l = some x → gams κ (l.drop a) = some (x.drop a)
  | [], x, a, h => by simp [gams] at h; subst h; simp [gams]
  | v :: l, x, 0, h => by simpa using h
  | v :: l, x, a + 1, h => by
    simp only [gams, Option.bind_eq_some_iff, Option.map_eq_some_iff] at h
    obtain ⟨y, h1, ys, h2, rfl⟩ := h
    simpa using gams_drop l ys a h2
theorem ins_get {α : Type} (l m : List α) (a j : Nat) (ha : a ≤ l.length) : (l.take a ++ (m ++ l.drop a))[j]? = if j < a then l[j]? else if j < a + m.length then m[j - a]? else l[j - m.length]? := by
  have h1 : (l.take a).length = a := by simp; omega
  rw [List.getElem?_append, h1]
  by_cases hj : j < a
  · rw [if_pos hj, if_pos hj, List.getElem?_take, if_pos hj]
  · rw [if_neg hj, if_neg hj, List.getElem?_append]
    by_cases hj2 : j < a + m.length
    · rw [if_pos (by omega), if_pos hj2]
    · rw [if_neg (by omega), if_neg hj2, List.getElem?_drop]
      congr 1; omega

/-- The row that holds what a list says. -/
theorem rowSim_of {κ : Kap} {ob : AObj} {l : List AV} {L : List Value} (hro : rowLike ob) (hsz : sizeOfObj ob = l.length) (hc : ∀ j, cellAt ob j = l[j]?) (hg : gams κ l = some L) (h1 : L.all Value.oneCell' = true)
    {esz : Nat} {ki : Ki} {o : Option Obj} {c : Array Value} {t : TypeId} {fr : Nat × Nat} (ho : o = some (.cells c t fr)) (hcap : ki.base + ki.cap * esz ≤ c.size) (hfr : fr.1 = fr.2) (hcell : ∀ j y, L[j]? = some y → c[ki.base + j]? = some y) :
    ObjSim κ ob esz ki o := by
  rw [objSim_row hro]
  refine ⟨c, t, fr, ho, hcap, .inl hfr, fun j hj => ⟨_, (hc j).trans (List.getElem?_eq_getElem (hsz ▸ hj))⟩, fun j v hv => ?_⟩
  rw [hc] at hv
  obtain ⟨V, g1, g2⟩ := gams_get _ _ _ _ hg hv
  exact ⟨V, g1, (List.all_eq_true.1 h1) V (List.mem_of_getElem? g2), hcell j V g2⟩

theorem asInt_nat {i : AV} {K : Nat → Prop} (h : asInt i fun kd i => gd (kindEq kd .i64) (natOf i K)) : ∃ n : Nat, i = .int .i64 (Int.ofNat n) ∧ K n := by
  obtain ⟨k, a, rfl, h⟩ := asInt_iff.1 h
  obtain ⟨hk, h⟩ := gd_iff.1 h
  cases a with
  | ofNat n => exact ⟨n, by rw [kindEq_iff.1 hk], h⟩
  | negSucc n => exact h.elim

/-- No packed bytes. -/
noncomputable def notBy (ob : AObj) : Bool := AObj.rec (motive := fun _ => Bool) (fun _ => true) (fun _ _ _ => true) (fun _ _ => false) (fun _ _ => true) (fun _ _ _ => true) (fun _ _ _ _ => true) ob
theorem notBy_iff {ob : AObj} (h : notBy ob = true) : ¬ isBy ob := by cases ob <;> first | exact fun x => x | (cases h)
/-- slices.Insert at elements of k cells and bs bytes (of no bytes). -/
noncomputable def insH (k bs : Nat) : ConD := fun l h K => match l with
  | [s, i, v] => asInt i fun kd i => gd (kindEq kd .i64) (natOf i fun i => asSl v False fun vo voff m _ _ => gd (Nat.blt 0 m) (objAt h vo fun ev => gd (Nat.beq ev.esz k) (cellsK ev.obj (m * k) voff fun new => asSl s
      (gd (Nat.beq i 0 && (Nat.ble (m * bs) 140737488355328 && Nat.ble m 140737488355328)) (rowK false new fun ob => finK k m h ob K))
      fun o off n kn c => gd ((!kn) && (((Nat.ble i n && notBy ev.obj) && (Nat.blt 0 n && !(Nat.beq vo o))) && (Nat.ble ((n + m) * bs) 140737488355328 && Nat.ble (n + m) 140737488355328))) (objAt h o fun e => gd (notBy e.obj && (e.own && (Nat.beq e.esz k && Nat.ble off (c * k))))
        (cellsK e.obj (n * k) off fun old => putK h o none fun h => forceN (n + m) fun N => rowK false (old.take (i * k) ++ (new ++ old.drop (i * k))) fun ob => finK k N h ob K)))))
  | _ => False

set_option maxHeartbeats 2000000 in
theorem ins_ok {nm : String} {k bs : Nat} {z : Value} (hnm : nm ≠ "runtime.NumGoroutine") (L : InsLay P ρ nm k bs z) (hzc : z.cells.size = k) (hk : 0 < k ∧ k < 4294967296) (B : Nat) (w0 : W0) : ConOne P B w0 (ρ.f 22) (insH k bs) := by
  obtain ⟨hk, hk32⟩ := hk
  intro avs h K hD
  match avs, hD with
  | [s, i, v], hD =>
    refine ⟨⟨_, L.f22, hnm, rfl⟩, fun κ w args sm hargs R hR => ?_⟩
    obtain ⟨i, rfl, hD⟩ := asInt_nat hD
    rcases asSl_iff.1 hD with ⟨_, hD⟩ | ⟨vo, voff, m, vkn, vc, rfl, hD⟩
    · exact hD.elim
    obtain ⟨hm, hD⟩ := gd_iff.1 hD
    have hm' : 0 < m := by simpa using hm
    obtain ⟨ev, hev, hD⟩ := objAt_iff.1 hD
    obtain ⟨hez, hD⟩ := gd_iff.1 hD
    have hez' : ev.esz = k := by simpa using hez
    obtain ⟨new, hD, hnl, hnew⟩ := cellsK_iff _ _ _ _ hD
    -- the arguments
    simp only [gams, Option.bind_eq_some_iff, Option.map_eq_some_iff, gam, Option.some.injEq] at hargs
    obtain ⟨S, hS, _, ⟨I, rfl, _, ⟨V, hV, _, rfl, rfl⟩, rfl⟩, rfl⟩ := hargs
    have hV' : gam κ (.slice vo voff m vkn vc) = some V := by simpa [gam, Option.bind_eq_some_iff] using hV
    obtain ⟨kv, vcap, hkv, rfl, hmv⟩ := gamk _ _ _ _ _ _ _ hV'
    obtain ⟨NEW, f1, f2, f3⟩ := sm.cells hev hkv new voff (fun j hj => hnew j (by omega))
    have hNl : NEW.length = m * k := by rw [gams_length _ _ f1, hnl]
    have f2' := List.all_eq_true.1 f2
    have hmk : 0 < m * k := Nat.mul_pos hm' (by omega)
    have hrv : rowLike ev.obj := by obtain ⟨u, _, hu⟩ := hnew 0 hmk; exact cellAt_row hu
    obtain ⟨kv', q1, cv, tv, frv, q2, q3, q4, q5, q6⟩ := sm.row hev hrv
    rw [hkv] at q1; cases q1
    have hfrv : notBy ev.obj = true → frv.1 = frv.2 := fun hk1 => by
      rcases q4 with h | ⟨_, _, h⟩ | ⟨_, h, _⟩
      · exact h
      · exact absurd h (notBy_iff hk1)
      · omega
    have hfz0 : notBy ev.obj = true → ∀ x, w.frozen? ⟨kv.blk, x, none⟩ = false := fun hk1 x => by
      have hfrv := hfrv hk1
      simp only [World.frozen?, q2, Bool.and_eq_false_iff, decide_eq_false_iff_not]
      omega
    have hvs : ∀ j y, NEW[j]? = some y → w.cell? ⟨kv.blk, kv.base + voff + j, none⟩ = some y := fun j y hy => by
      have := f3 j y hy
      simpa [Ki.at, Nat.add_assoc] using this
    have hsV : w.shape? kv.blk = some (tv, cv.size) := by simp [World.shape?, q2]
    have hvat : kv.at voff = ⟨kv.blk, kv.base + voff, none⟩ := rfl
    rcases asSl_iff.1 hD with ⟨rfl, hE⟩ | ⟨o, off, n, kn, c, rfl, hE⟩
    · -- onto nil
      obtain ⟨hb, hE1⟩ := gd_iff.1 hE
      clear hD hE
      simp only [Bool.and_eq_true, Nat.beq_eq, Nat.ble_eq] at hb
      obtain ⟨rfl, hb1, hb2⟩ := hb
      obtain ⟨ob, hE2, r1, r2, r3⟩ := rowK_iff hE1
      have hE3 := fin_iff hE2
      clear hE1 hE2
      simp only [gam, Option.some.injEq] at hS
      subst hS
      have hw := ins_end_grow (by omega) L none 0 0 kv.blk (kv.base + voff) m vcap [] NEW w hm' (Nat.le_refl _) (by omega) (by simpa using hb1) (by omega) (by simp) hNl (fun _ => rfl) (fun a ha => by cases ha) hvs f2'
      have hn := grow_new sm (e := ρ.t 9) (len := 0) (l := []) (m := m) (g := grownCap w (0 + m) 0 (ρ.t 9)) (esz := k) (NEW := NEW) (OLD := []) (REST := Builtin.zeroCells z.cells (grownCap w (0 + m) 0 (ρ.t 9) - (0 + m))) r1 (by simp) hnl (by simpa using r2) (by simpa using r3) rfl rfl f1 f2 (grownCap_ge w _ _ _) (by rw [zeroCells_size, hzc])
      refine Calls.mono hw fun e w' he => ?_
      obtain ⟨rfl, rfl⟩ := he
      rw [Nat.zero_add] at hn ⊢
      refine hR _ _ _ _ _ (Kap.le_set sm.none_next) ?_ hn.2 hE3
      have := hn.1
      simpa using this
    · -- onto a slice
      obtain ⟨hb, hE1⟩ := gd_iff.1 hE
      clear hD hE
      simp only [Bool.and_eq_true, Bool.or_eq_true, Nat.beq_eq, Nat.ble_eq, Bool.not_eq_true', Nat.blt_eq] at hb
      obtain ⟨hkn, ⟨⟨hin, hkin⟩, hn0, hvo⟩, hb1, hb2⟩ := hb
      have hvo : vo ≠ o := by intro e; subst e; simp at hvo
      have hkn' : kn = false := by simpa using hkn
      subst hkn'
      obtain ⟨e, he, hE2⟩ := objAt_iff.1 hE1
      obtain ⟨hb, hE3⟩ := gd_iff.1 hE2
      clear hE1 hE2
      simp only [Bool.and_eq_true, Nat.beq_eq, Nat.ble_eq] at hb
      obtain ⟨hnb, hown, hesz, hoff⟩ := hb
      obtain ⟨old, hE4, hol, hold⟩ := cellsK_iff _ _ _ _ hE3
      rw [putK_eq, forceN_eq] at hE4
      obtain ⟨ob, hE5, r1, r2, r3⟩ := rowK_iff hE4
      have hE6 := fin_iff hE5
      clear hE3 hE4 hE5
      simp only [gam, Option.bind_eq_some_iff] at hS
      obtain ⟨ks, hks, hS⟩ := hS
      simp only [Bool.false_eq_true, if_false] at hS
      split at hS
      case isFalse => cases hS
      rename_i hcap
      simp only [Option.some.injEq] at hS
      subst hS
      obtain ⟨ks', p1, p2, _, p4⟩ := sm.obj o e he
      rw [hks] at p1; cases p1
      have hB := p2 hown
      have hro : rowLike e.obj := by
        obtain ⟨u, _, hu⟩ := hold 0 (Nat.mul_pos hn0 (by omega))
        exact cellAt_row hu
      obtain ⟨ks', p1, cA, tA, fA, t2, t3, t4, t5, t6⟩ := sm.row he hro
      rw [hks] at p1; cases p1
      rw [hesz] at t3 t4
      replace t4 : fA.1 = fA.2 := by
        rcases t4 with h | ⟨_, _, h⟩ | ⟨_, h, _⟩
        · exact h
        · exact absurd h (notBy_iff hnb)
        · omega
      obtain ⟨OLD, g1, g2, g3⟩ := sm.cells he hks old off (fun j hj => hold j (by omega))
      have hOl : OLD.length = n * k := by rw [gams_length _ _ g1, hol]
      have g2' := List.all_eq_true.1 g2
      have hcs : ∀ j y, OLD[j]? = some y → w.cell? ⟨ks.blk, ks.base + off + j, none⟩ = some y := fun j y hy => by
        have := g3 j y hy
        simpa [Ki.at, Nat.add_assoc] using this
      have hcsA : ∀ j y, OLD[j]? = some y → cA[ks.base + off + j]? = some y := fun j y hy => by
        have := hcs j y hy
        simpa [World.cell?, t2] using this
      have hvb : kv.blk ≠ ks.blk := by
        by_cases ho : ev.own = true
        · exact sm.apart vo o ev e kv ks hev he hkv hks ho hown hvo
        · obtain ⟨kv', u1, _, u3, _⟩ := sm.obj vo ev hev
          rw [hkv] at u1; cases u1
          have := (u3 (by simpa using ho)).1
          omega
      -- the new row's cells
      have hik : i * k ≤ n * k := Nat.mul_le_mul_right _ hin
      have hFg : gams κ (old.take (i * k) ++ (new ++ old.drop (i * k))) = some (OLD.take (i * k) ++ (NEW ++ OLD.drop (i * k))) :=
        gams_append _ _ _ _ (gams_take _ _ _ g1) (gams_append _ _ _ _ f1 (gams_drop _ _ _ g1))
      have hF1 : (OLD.take (i * k) ++ (NEW ++ OLD.drop (i * k))).all Value.oneCell' = true := by
        rw [List.all_eq_true]
        intro y hy
        simp only [List.mem_append] at hy
        rcases hy with h | h | h
        · exact g2' y (List.mem_of_mem_take h)
        · exact f2' y h
        · exact g2' y (List.mem_of_mem_drop h)
      have hFget : ∀ j, (OLD.take (i * k) ++ (NEW ++ OLD.drop (i * k)))[j]? = if j < i * k then OLD[j]? else if j < i * k + m * k then NEW[j - i * k]? else OLD[j - m * k]? := fun j => by
        rw [ins_get _ _ _ _ (by omega), hNl]
      have hsum : i * k + m * k = (i + m) * k := by rw [Nat.add_mul]
      have hnm : n * k + m * k = (n + m) * k := by rw [Nat.add_mul]
      have hC : off + (ks.cap - c) * k ≤ ks.cap * k := by
        have e2 : (ks.cap - c) * k + c * k = ks.cap * k := by rw [← Nat.add_mul]; congr 1; omega
        omega
      have hat : ks.at off = ⟨ks.blk, ks.base + off, none⟩ := rfl
      rw [hat, hvat]
      by_cases hroom : n + m ≤ ks.cap - c
      · -- in place
        have hroomk : (n + m) * k ≤ (ks.cap - c) * k := Nat.mul_le_mul_right _ hroom
        have hsp : ∀ j, j < (n + m) * k → (w.cell? ⟨ks.blk, ks.base + off + j, none⟩).isSome = true := fun j hj => by
          have : ks.base + off + j < cA.size := by omega
          simp [World.cell?, t2, this]
        have hfz : ∀ j, j < (n + m) * k → w.frozen? ⟨ks.blk, ks.base + off + j, none⟩ = false := fun j hj => by
          have : ks.base + off + j < cA.size := by omega
          simp only [World.frozen?, t2, Bool.and_eq_false_iff, decide_eq_false_iff_not]
          omega
        have hcapA : ks.base + off + (ks.cap - c) * k ≤ cA.size := by omega
        have fin : ∀ w1 : World, Below B w w1 → w1.heap.size = w.heap.size → (∀ b, b ≠ ks.blk → w1.heap[b]? = w.heap[b]?) → (∃ c', w1.heap[ks.blk]? = some (.cells c' tA fA) ∧ c'.size = cA.size ∧ ∀ j y, (OLD.take (i * k) ++ (NEW ++ OLD.drop (i * k)))[j]? = some y → c'[ks.base + off + j]? = some y) →
            R (.returned (.slice (some ⟨ks.blk, ks.base + off, none⟩) (n + m) (ks.cap - c))) w1 := by
          intro w1 hw1 hw2 hw3 ⟨c', hc1, hc2, hc3⟩
          refine hR (κ.set h.next ⟨ks.blk, ks.base + off, ks.cap - c⟩) _ _ _ _ (Kap.le_set sm.none_next)
            (sm.renew he hks hown hw1 hw2 hw3 ⟨ks.blk, ks.base + off, ks.cap - c⟩ rfl k ob (rowSim_of r1 r2 r3 hFg hF1 hc1 (by rw [hc2]; exact hcapA) t4 hc3)) ?_ hE6
          simp [gam, Kap.set_self, Ki.at, hroom]
        by_cases hi : i = n
        · subst hi
          have hw := ins_end_room (by omega) L ks.blk (ks.base + off) i (ks.cap - c) kv.blk (kv.base + voff) m vcap NEW w hm' hroom (by omega) hNl
            (fun j hj => by have := hsp (i * k + j) (by omega); rwa [← Nat.add_assoc] at this) (fun j hj => by have := hfz (i * k + j) (by omega); rwa [← Nat.add_assoc] at this) hvs f2'
          refine Calls.mono hw fun x w' hx => ?_
          obtain ⟨rfl, rfl⟩ := hx
          refine fin _ (setCells_below hB _ _ _) (setCells_size _ _ _ _) (fun b hbb => setCells_other _ _ hbb _ _ _) ⟨_, setCells_block _ _ _ _ _ _ _ t2, arrSet_size _ _ _, fun j y hy => ?_⟩
          rw [hFget] at hy
          rw [arrSet_get _ _ _ _ (by omega)]
          by_cases h1 : j < i * k
          · rw [if_pos h1] at hy
            rw [if_neg (by omega)]
            exact hcsA j y hy
          · rw [if_neg h1] at hy
            by_cases h2 : j < i * k + m * k
            · rw [if_pos h2] at hy
              rw [if_pos (by omega), show ks.base + off + j - (ks.base + off + i * k) = j - i * k by omega]
              exact hy
            · rw [if_neg h2] at hy
              have := (List.getElem?_eq_some_iff.1 hy).1
              omega
        · have hlt : i < n := by omega
          have hk1 := hkin
          have hw := ins_shift (by omega) L ks.blk (ks.base + off) n (ks.cap - c) i kv.blk (kv.base + voff) m vcap OLD NEW w hlt hm' hroom (by omega) hvb hOl hNl hcs hsp hfz hvs g2' f2' tv tA cv.size cA.size hsV (by simp [World.shape?, t2]) (by have := Nat.mul_pos hn0 (show 0 < k by omega); omega) (hfz0 hk1 _) (hfz0 hk1 _)
          refine Calls.mono hw fun x w' hx => ?_
          obtain ⟨rfl, rfl⟩ := hx
          have hdl : (OLD.drop (i * k)).length = n * k - i * k := by rw [List.length_drop, hOl]
          refine fin _ (((Below.refl B w).drew.trans (setCells_below hB _ _ _)).trans (setCells_below hB _ _ _)) (by rw [setCells_size, setCells_size]; rfl) (fun b hbb => by rw [setCells_other _ _ hbb, setCells_other _ _ hbb]; rfl)
            ⟨_, setCells_block _ _ _ _ _ _ _ (setCells_block _ _ _ _ _ _ _ (show w.drew.heap[ks.blk]? = _ from t2)), by rw [arrSet_size, arrSet_size], fun j y hy => ?_⟩
          rw [hFget] at hy
          rw [arrSet_get _ _ _ _ (by rw [arrSet_size]; omega), arrSet_get _ _ _ _ (by omega), hdl, hNl]
          by_cases h1 : j < i * k
          · rw [if_pos h1] at hy
            rw [if_neg (by omega), if_neg (by omega)]
            exact hcsA j y hy
          · rw [if_neg h1] at hy
            by_cases h2 : j < i * k + m * k
            · rw [if_pos h2] at hy
              rw [if_pos (by omega), show ks.base + off + j - (ks.base + off + i * k) = j - i * k by omega]
              exact hy
            · rw [if_neg h2] at hy
              have := (List.getElem?_eq_some_iff.1 hy).1
              rw [if_neg (by omega), if_pos (by omega), List.getElem?_drop, show i * k + (ks.base + off + j - (ks.base + off + (i + m) * k)) = j - m * k by omega]
              exact hy
      · -- in a new block
        by_cases hi : i = n
        · subst hi
          have hw := ins_end_grow (by omega) L (some ⟨ks.blk, ks.base + off, none⟩) i (ks.cap - c) kv.blk (kv.base + voff) m vcap OLD NEW w hm' (by omega) (by omega) hb1 (by omega) hOl hNl (fun e => by cases e) (fun a ha j y hy => by cases ha; rw [Addr.add_lit]; exact hcs j y hy) hvs f2'
          have ht : old.take (i * k) = old := List.take_of_length_le (by omega)
          have hdr : old.drop (i * k) = [] := List.drop_of_length_le (by omega)
          rw [ht, hdr, List.append_nil] at r2 r3
          have hn := grow_new (sm.kill o) (e := ρ.t 9) (len := i) (l := old) (m := m) (g := grownCap w (i + m) (ks.cap - c) (ρ.t 9)) (esz := k) (NEW := NEW) (OLD := OLD) (REST := Builtin.zeroCells z.cells (grownCap w (i + m) (ks.cap - c) (ρ.t 9) - (i + m))) r1 hol hnl r2 r3 g1 g2 f1 f2 (grownCap_ge w _ _ _) (by rw [zeroCells_size, hzc])
          refine Calls.mono hw fun x w' hx => ?_
          obtain ⟨rfl, rfl⟩ := hx
          refine hR _ _ _ _ _ (Kap.le_set sm.none_next) ?_ hn.2 hE6
          have := hn.1
          simpa using this
        · have hlt : i < n := by omega
          have hk1 := hkin
          have hw := ins_grow (by omega) L hzc ks.blk (ks.base + off) n (ks.cap - c) i kv.blk (kv.base + voff) m vcap OLD NEW w hlt hm' (by omega) (by omega) hb1 (by omega) hOl hNl hcs hvs g2' f2'
          refine Calls.mono hw fun x w' hx => ?_
          obtain ⟨rfl, rfl⟩ := hx
          have hgc := grownCap_ge w (n + m) (ks.cap - c) (ρ.t 9)
          generalize grownCap w (n + m) (ks.cap - c) (ρ.t 9) = G at hgc ⊢
          have hdl : (OLD.drop (i * k)).length = n * k - i * k := by rw [List.length_drop, hOl]
          have htl : (OLD.take (i * k)).length = i * k := by rw [List.length_take, hOl]; omega
          obtain ⟨ROW, hROW⟩ : ∃ ROW : Array Value, ROW = (OLD.take (i * k)).toArray ++ Builtin.zeroCells z.cells (n + m - i) ++ Builtin.zeroCells z.cells (G - (n + m)) := ⟨_, rfl⟩
          rw [← hROW]
          have hRs : ROW.size = G * k := by
            rw [hROW]
            simp only [Array.size_append, List.size_toArray, htl, zeroCells_size, hzc]
            rw [← Nat.add_mul, ← Nat.add_mul]
            congr 1; omega
          have hGk : (n + m) * k ≤ G * k := Nat.mul_le_mul_right _ hgc
          have hRget : ∀ j, j < i * k → ROW[j]? = OLD[j]? := fun j hj => by
            rw [hROW, Array.getElem?_append_left (by simp [htl]; omega), Array.getElem?_append_left (by simp [htl]; omega)]
            simp [List.getElem?_take, hj]
          have hnew : ((w.alloc (.cells ROW (ρ.t 9))).drew).heap[w.heap.size]? = some (.cells ROW (ρ.t 9) (0, 0)) := heap_alloc_new _ _
          have hb2' := setCells_block w.heap.size (OLD.drop (i * k)) ((i + m) * k) _ _ _ _ (show (((w.alloc (.cells ROW (ρ.t 9))).drew.setCells w.heap.size (i * k) NEW).drew).heap[w.heap.size]? = _ from setCells_block w.heap.size NEW (i * k) _ _ _ _ hnew)
          refine hR _ _ _ _ _ (Kap.le_set sm.none_next) ((sm.kill o).make (w' := _) ?_ ?_ ?_ k G ob ?_) ?_ hE6
          · exact ((((Below.refl B w).alloc sm.size _).drew.trans (setCells_below sm.size _ _ _)).drew).trans (setCells_below sm.size _ _ _)
          · rw [setCells_size]
            show ((w.alloc (.cells ROW (ρ.t 9))).drew.setCells w.heap.size (i * k) NEW).heap.size = _
            rw [setCells_size]
            show (w.heap.push _).size = _
            simp
          · intro b hb
            rw [setCells_other _ _ (by omega)]
            show ((w.alloc (.cells ROW (ρ.t 9))).drew.setCells w.heap.size (i * k) NEW).heap[b]? = _
            rw [setCells_other _ _ (by omega)]
            exact heap_alloc_old w _ hb
          · refine rowSim_of r1 r2 r3 hFg hF1 hb2' (by rw [arrSet_size, arrSet_size, hRs]; show 0 + G * k ≤ G * k; omega) rfl fun j y hy => ?_
            show (arrSet (arrSet ROW (i * k) NEW) ((i + m) * k) (OLD.drop (i * k)))[0 + j]? = _
            rw [hFget] at hy
            rw [Nat.zero_add, arrSet_get _ _ _ _ (by rw [arrSet_size]; omega), arrSet_get _ _ _ _ (by omega), hdl, hNl]
            by_cases h1 : j < i * k
            · rw [if_pos h1] at hy
              rw [if_neg (by omega), if_neg (by omega), hRget j h1]
              exact hy
            · rw [if_neg h1] at hy
              by_cases h2 : j < i * k + m * k
              · rw [if_pos h2] at hy
                rw [if_neg (by omega), if_pos (by omega)]
                exact hy
              · rw [if_neg h2] at hy
                have := (List.getElem?_eq_some_iff.1 hy).1
                rw [if_pos (by omega), List.getElem?_drop, show i * k + (j - (i + m) * k) = j - m * k by omega]
                exact hy
          · simp [gam, Kap.set_self, Ki.at, hgc]
  | [], hD => exact hD.elim
  | [_], hD => exact hD.elim
  | [_, _], hD => exact hD.elim
  | _ :: _ :: _ :: _ :: _, hD => exact hD.elim

end Go.Am

namespace Go.Am
set_option linter.unusedSimpArgs false
set_option linter.unusedVariables false
open Go Go.RowKit
variable {P : Program}

/-- A row of the same cells. -/
theorem ObjSim.of_cells {κ : Kap} {ob : AObj} {cs : List AV} (hc : Cells ob cs) {esz : Nat} {ki : Ki} {o : Option Obj} (h : ObjSim κ ob esz ki o) : ObjSim κ (.row cs) esz ki o := by
  obtain ⟨c0, c1, c2⟩ := hc
  have key : ¬ isBy ob → RowSim κ ob esz ki o → RowSim κ (.row cs) esz ki o := fun hnb ⟨c, t, fr, h1, h2, h3, h4, h5⟩ =>
    ⟨c, t, fr, h1, h2, h3.imp id (Or.imp (fun x => absurd x.2.2 hnb) fun ⟨a, b, d⟩ => ⟨a, b, fun j v hv => d j v (by rw [cellAt_row'] at hv; rw [c2 j]; exact hv)⟩), fun j hj => by
      have := h4 j (by rw [c1]; exact hj)
      rw [c2 j] at this
      rw [cellAt_row']; exact this, fun j v hv => h5 j v (by rw [cellAt_row'] at hv; rw [c2 j]; exact hv)⟩
  cases ob with
  | row l => exact key (fun x => x) h
  | big n t d => exact key (fun x => x) h
  | byts n x => exact c0.elim
  | map es c => exact c0.elim
  | sit n x p => exact c0.elim
  | mit m s l c => exact c0.elim

/-- What is handed out. -/
def Out (h : Hp) (K : AV → Hp → Prop) (v' : AV) (h' : Hp) : Prop := Ext h h' ∧ ((oldV h v' ∧ K v' h) ∨ ∃ o off n kn cap e' cs esz, v' = .slice o off n kn cap ∧ h.next ≤ o ∧ h'.at o = some e' ∧ e'.own = true ∧ e'.esz = esz ∧ Cells e'.obj cs ∧ (∀ v ∈ cs, oldV h v) ∧ K (.slice h.next off n kn cap) (h.new ⟨true, esz, .row cs⟩))

theorem Sim.as_row {B : Nat} {w0 : W0} {κ : Kap} {h : Hp} {w : World} (s : Sim B w0 κ h w) {o : Nat} {e : Ent} (he : h.at o = some e) {cs : List AV} (hc : Cells e.obj cs) : Sim B w0 κ (h.put o (some ⟨e.own, e.esz, .row cs⟩)) w := by
  have back : ∀ p e', (h.put o (some ⟨e.own, e.esz, .row cs⟩)).at p = some e' → ∃ e'', h.at p = some e'' ∧ e''.own = e'.own ∧ e''.esz = e'.esz ∧ ∀ κ ki ob, ObjSim κ e''.obj e''.esz ki ob → ObjSim κ e'.obj e'.esz ki ob := fun p e' hp => by
    by_cases hpo : p = o
    · subst hpo
      rw [Hp.at_put, if_pos rfl] at hp
      cases hp
      exact ⟨e, he, rfl, rfl, fun κ ki ob hs => hs.of_cells hc⟩
    · rw [Hp.at_put, if_neg hpo] at hp
      exact ⟨e', hp, rfl, rfl, fun _ _ _ hs => hs⟩
  refine ⟨s.below, s.size, fun p e' hp => ?_, fun p q e1 e2 k1 k2 hp hq h1 h2 o1 o2 hne => ?_, s.fresh, s.ghost, fun p e' ki hp hk ho => ?_⟩
  · obtain ⟨e'', b1, b2, b3, b4⟩ := back p e' hp
    obtain ⟨ki, c1, c2, c3, c4⟩ := s.obj p e'' b1
    exact ⟨ki, c1, fun q => c2 (by rw [b2]; exact q), fun q => ⟨(c3 (by rw [b2]; exact q)).1, fun q2 => (c3 (by rw [b2]; exact q)).2 (by rw [b3]; exact q2)⟩, b4 _ _ _ c4⟩
  · obtain ⟨e1', b1, b2, _⟩ := back p e1 hp
    obtain ⟨e2', d1, d2, _⟩ := back q e2 hq
    exact s.apart p q e1' e2' k1 k2 b1 d1 h1 h2 (by rw [b2]; exact o1) (by rw [d2]; exact o2) hne
  · obtain ⟨e'', b1, b2, _⟩ := back p e' hp
    exact s.gap p e'' ki b1 hk (by rw [b2]; exact ho)

theorem one_out (hmix : P.follows .mixedOrders = true) {con : FuncId → Option ConD} (hcon : ConOK P con) {f : FuncId} (hf : con f = none) {c : ConD}
    (H : ∀ avs h K, c avs h K → ∃ fuel, deepT (tabOf P) f (cfn P con fuel) fuel avs h (Out h K)) (B : Nat) (w0 : W0) : ConOne P B w0 f c := by
  intro avs h K hc
  obtain ⟨fuel, hD⟩ := H avs h K hc
  have : callN con (tabOf P) fuel 2 f avs h (Out h K) := by
    show Option.rec (motive := fun _ => Prop) (asOpt (tabOf P f) fun af => argK avs 0 G1.lf fun fr => af.body (callN con (tabOf P) fuel 1) fuel (endK af.res (Out h K)) fr h) (fun c => c avs h (Out h K)) (con f)
    rw [hf]
    exact hD
  obtain ⟨hfn, hrun⟩ := callN_ok (B := B) (w0 := w0) hmix hcon fuel 2 f avs h _ this
  refine ⟨hfn, fun κ w args s hargs R hR => hrun κ w args s hargs R fun κ' av h' V w' k1 k2 k3 k4 => ?_⟩
  obtain ⟨hx, ⟨ho, hK⟩ | ⟨o, off, n, kn, cap, e', cs, esz, rfl, h1, h2, h3, rfl, h5, h6, hK⟩⟩ := k4
  · refine hR κ av h V w' κ.le_refl (s.back k2 k1 fun o e he => ?_) (by rw [← gam_back s k1 av ho]; exact k3) hK
    obtain ⟨ki, h1, _⟩ := s.obj o e he
    rw [hx.same o (s.fresh o ki h1), he]
  · obtain ⟨ki, hki, _⟩ := k2.obj o e' h2
    have k2' := k2.as_row h2 h5
    have hlt : ∀ p e, h.at p = some e → p < h.next := fun p e hp => by
      obtain ⟨k, q1, _⟩ := s.obj p e hp
      exact s.fresh p k q1
    have hs := s.keep k2' k1 (fun p e hp => by
      have := hlt p e hp
      rw [Hp.at_put, if_neg (by omega), hx.same p this, hp]) (o := o) (e := ⟨e'.own, e'.esz, .row cs⟩) (by rw [Hp.at_put, if_pos rfl]) hki h1 h3 ⟨trivial, fun j v hv => by
        rw [cellAt_row'] at hv
        exact h6 v (List.mem_of_getElem? hv)⟩
    rw [h3] at hs
    refine hR (κ.set h.next ki) (.slice h.next off n kn cap) _ V w' (Kap.le_set s.none_next) hs ?_ hK
    simp only [gam, hki, Kap.set_self, Option.bind_some] at k3 ⊢
    exact k3
end Go.Am

namespace Go.Am
set_option linter.unusedSimpArgs false
set_option linter.unusedVariables false
open Go Go.RowKit
variable {P : Program} {H : Type} {enc : TypeId × Value → H}

def roEsz : Nat := 4294967296
/-! ### the types that are read -/
def tilesB (P : Program) (R : TypeId → Bool) : Nat → List Field → Bool
  | _, [] => true
  | off, f :: fs => Nat.beq f.offset off && (R f.type && tilesB P R (off + P.cellsOf f.type) fs)
def sizesF (P : Program) : List Field → Nat
  | [] => 0
  | f :: fs => P.cellsOf f.type + sizesF P fs
def plainT (P : Program) : Nat → TypeId → Bool
  | 0, _ => false
  | n + 1, t => match P.underlying t with
    | some .bool => true
    | some (.int _) => true
    | some .string => true
    | some (.slice e) => plainT P n e && (Nat.blt 0 (P.cellsOf e) && Nat.blt (P.cellsOf e) 4294967296)
    | some (.struct fs) => tilesB P (plainT P n) 0 fs.toList && Nat.beq (sizesF P fs.toList) (P.cellsOf t)
    | _ => false

/-! ### what is read -/
def RdF (P : Program) (R : TypeId → List AV → DataW H → Prop) : List Field → List (List AV) → List (DataW H) → Prop
  | [], [], [] => True
  | f :: fs, c :: cl, d :: dl => c.length = P.cellsOf f.type ∧ R f.type c d ∧ RdF P R fs cl dl
  | _, _, _ => False
def RdT (P : Program) (h : Hp) : Nat → TypeId → List AV → DataW H → Prop
  | 0, _, _, _ => False
  | n + 1, t, avs, d => match P.underlying t with
    | some .bool => ∃ b, avs = [.bool b] ∧ d = .lit (.bool b)
    | some (.int k) => ∃ z, avs = [.int k z] ∧ d = .lit (.int k z) ∧ (Lit.int k z).wf = true
    | some .string => ∃ l, avs = [S l] ∧ d = .lit (.string l) ∧ l.length ≤ reachBytes
    | some (.slice e) => (avs = [.nilslice] ∧ d = .nil) ∨ (∃ o, avs = [.sliceZ o] ∧ d = .slice [] []) ∨
        ∃ o c ob ds sp, avs = [.slice o 0 ds.length true c] ∧ d = .slice ds sp ∧ ds.length ≤ c ∧ (ds.length + sp.length) * P.bytesOf e ≤ reachBytes ∧ o < h.next ∧ h.at o = some ⟨false, roEsz, ob⟩ ∧
          (P.underlying e = some (.int .u8) → ∃ z, ob = .byts ds.length z) ∧ ∀ j (hj : j < ds.length), ∃ cj, cellsO ob (P.cellsOf e) (j * P.cellsOf e) = some cj ∧ cj.length = P.cellsOf e ∧ RdT P h n e cj ds[j]
    | some (.struct fs) => ∃ dl cl, d = .agg dl ∧ avs = cl.flatten ∧ RdF P (RdT P h n) fs.toList cl dl
    | _ => False
theorem RdF.mono {R R' : TypeId → List AV → DataW H → Prop} (hR : ∀ t a d, R t a d → R' t a d) : ∀ (fs : List Field) (cl : List (List AV)) (dl : List (DataW H)), RdF P R fs cl dl → RdF P R' fs cl dl
  | [], [], [], _ => trivial
  | f :: fs, c :: cl, d :: dl, h => ⟨h.1, hR _ _ _ h.2.1, RdF.mono hR fs cl dl h.2.2⟩
  | [], _ :: _, _, h => h.elim
  | [], [], _ :: _, h => h.elim
  | _ :: _, [], _, h => h.elim
  | _ :: _, _ :: _, [], h => h.elim
theorem RdT.mono {h h' : Hp} (hx : Ext h h') : ∀ (n : Nat) (t : TypeId) (a : List AV) (d : DataW H), RdT P h n t a d → RdT P h' n t a d
  | 0, _, _, _, q => q.elim
  | n + 1, t, a, d, q => by
    unfold RdT at q ⊢
    split
    · rename_i e; simp only [e] at q; exact q
    · rename_i e; simp only [e] at q; exact q
    · rename_i e; simp only [e] at q; exact q
    · rename_i e
      simp only [e] at q
      rcases q with q | q | ⟨o, c, ob, ds, sp, q1, q2, q3, q4, q5, q6, q7, q8⟩
      · exact .inl q
      · exact .inr (.inl q)
      · refine .inr (.inr ⟨o, c, ob, ds, sp, q1, q2, q3, q4, Nat.lt_of_lt_of_le q5 hx.next, by rw [hx.same o q5, q6], q7, fun j hj => ?_⟩)
        obtain ⟨cj, r1, r2, r3⟩ := q8 j hj
        exact ⟨cj, r1, r2, RdT.mono hx n _ _ _ r3⟩
    · rename_i e
      simp only [e] at q
      obtain ⟨dl, cl, q1, q2, q3⟩ := q
      exact ⟨dl, cl, q1, q2, RdF.mono (fun t a d => RdT.mono hx n t a d) _ _ _ q3⟩
    · rename_i e1 e2 e3 e4 e5
      split at q
      · rename_i e; exact absurd e e1
      · rename_i e; exact absurd e (e2 _)
      · rename_i e; exact absurd e e3
      · rename_i e; exact absurd e (e4 _)
      · rename_i e; exact absurd e (e5 _)
      · exact q

/-! ### how it comes there -/
/-- A row of the arguments'. -/
theorem Sim.arg {W : World} {κ : Kap} {h : Hp} (s : Sim W.heap.size (W0.of W) κ h W) {ob : AObj} {ki : Ki} (hk : ki.blk < W.heap.size) (ho : ObjSim (κ.set h.next ki) ob roEsz ki W.heap[ki.blk]?) :
    Sim W.heap.size (W0.of W) (κ.set h.next ki) (h.new ⟨false, roEsz, ob⟩) W := by
  have hle : κ.le (κ.set h.next ki) := Kap.le_set s.none_next
  have old : ∀ p e', p ≠ h.next → (h.new ⟨false, roEsz, ob⟩).at p = some e' → h.at p = some e' := fun p e' hp hq => by rw [Hp.at_new, if_neg hp] at hq; exact hq
  refine ⟨s.below, s.size, fun p e hp => ?_, fun p q e1 e2 c1 c2 hp hq h1 h2 o1 o2 hne => ?_, fun p k hp => ?_, s.ghost, fun p e k hp hq ho => ?_⟩
  · by_cases hpn : p = h.next
    · subst hpn
      have : (h.new ⟨false, roEsz, ob⟩).at h.next = some e := hp
      rw [Hp.at_new, if_pos rfl] at this
      cases this
      exact ⟨ki, Kap.set_self _ _ _, fun q => (by cases q), fun _ => ⟨hk, fun q => (by cases q)⟩, ho⟩
    · obtain ⟨k, h1, h2, h3, h4⟩ := s.obj p e (old p e hpn hp)
      exact ⟨k, hle _ _ h1, h2, h3, h4.mono hle⟩
  · have nw : ∀ p e, (h.new ⟨false, roEsz, ob⟩).at p = some e → e.own = true → p ≠ h.next := fun p e hp ho hpn => by
      subst hpn
      rw [Hp.at_new, if_pos rfl] at hp
      cases hp; cases ho
    have hpn := nw p e1 hp o1
    have hqn := nw q e2 hq o2
    rw [Kap.set_ne _ _ hpn] at h1
    rw [Kap.set_ne _ _ hqn] at h2
    exact s.apart p q e1 e2 c1 c2 (old p e1 hpn hp) (old q e2 hqn hq) h1 h2 o1 o2 hne
  · by_cases hpn : p = h.next
    · subst hpn; show _ < h.next + 1; omega
    · rw [Kap.set_ne _ _ hpn] at hp
      have := s.fresh p k hp
      show p < h.next + 1; omega
  · rfl
/-- A place without an object. -/
theorem Sim.spare {B : Nat} {w0 : W0} {W : World} {κ : Kap} {h : Hp} (s : Sim B w0 κ h W) (ki : Ki) : Sim B w0 (κ.set h.next ki) ⟨h.objs, h.next + 1⟩ W := by
  have hle : κ.le (κ.set h.next ki) := Kap.le_set s.none_next
  have ne : ∀ p e, h.objs.getP (npos p) = some e → p ≠ h.next := fun p e hp q => by
    obtain ⟨k, h1, _⟩ := s.obj p e hp
    have := s.fresh p k h1
    omega
  refine ⟨s.below, s.size, fun p e hp => ?_, fun p q e1 e2 c1 c2 hp hq h1 h2 o1 o2 hn => ?_, fun p k hp => ?_, s.ghost, fun p e k hp hq ho => ?_⟩
  · obtain ⟨k, h1, h2, h3, h4⟩ := s.obj p e hp
    exact ⟨k, hle _ _ h1, h2, h3, h4.mono hle⟩
  · rw [Kap.set_ne _ _ (ne p e1 hp)] at h1
    rw [Kap.set_ne _ _ (ne q e2 hq)] at h2
    exact s.apart p q e1 e2 c1 c2 hp hq h1 h2 o1 o2 hn
  · by_cases hpn : p = h.next
    · subst hpn; show _ < h.next + 1; omega
    · rw [Kap.set_ne _ _ hpn] at hp
      have := s.fresh p k hp
      show p < h.next + 1; omega
  · rw [Kap.set_ne _ _ (ne p e hp)] at hq
    exact s.gap p e k hp hq ho
theorem Ext.spare (h : Hp) : Ext h ⟨h.objs, h.next + 1⟩ := ⟨Nat.le_succ _, fun _ _ => rfl⟩

/-- One thing that was read. -/
structure Itm (H : Type) where
  t : TypeId
  cs : List Value
  d : DataW H
  ps : List MemPlace
  fuel : Nat
def Itm.ok (enc : TypeId × Value → H) (P : Program) (W : World) (n : Nat) (x : Itm H) : Prop :=
  plainT P n x.t = true ∧ DataW.trod enc P W 0 (fun _ => true) true x.fuel x.t x.cs = some (x.d, x.ps) ∧ (DataW.weights P x.t x.d).all (· ≤ reachBytes) = true ∧ W.noneFrozen x.ps
/-- .. as values. -/
def InAs (P : Program) (W : World) (n : Nat) (κ : Kap) (h : Hp) (x : Itm H) (a : List AV) : Prop := gams κ a = some x.cs ∧ (∀ v ∈ x.cs, v.oneCell' = true) ∧ RdT P h n x.t a x.d
def InOne (enc : TypeId × Value → H) (P : Program) (W : World) (n : Nat) : Prop :=
  ∀ (x : Itm H), x.ok enc P W n → ∀ h κ, Sim W.heap.size (W0.of W) κ h W → ∃ h' κ' a, Sim W.heap.size (W0.of W) κ' h' W ∧ κ.le κ' ∧ Ext h h' ∧ InAs P W n κ' h' x a
def InL (P : Program) (W : World) (n : Nat) (κ : Kap) (h : Hp) : List (Itm H) → List (List AV) → Prop
  | [], [] => True
  | x :: l, a :: L => InAs P W n κ h x a ∧ InL P W n κ h l L
  | _, _ => False
theorem InAs.mono {W : World} {n : Nat} {κ κ' : Kap} {h h' : Hp} (hk : κ.le κ') (hx : Ext h h') {x : Itm H} {a : List AV} (q : InAs P W n κ h x a) : InAs P W n κ' h' x a :=
  ⟨gams_mono hk _ _ q.1, q.2.1, RdT.mono hx _ _ _ _ q.2.2⟩
theorem InL.mono {W : World} {n : Nat} {κ κ' : Kap} {h h' : Hp} (hk : κ.le κ') (hx : Ext h h') : ∀ (l : List (Itm H)) (L : List (List AV)), InL P W n κ h l L → InL P W n κ' h' l L
  | [], [], _ => trivial
  | x :: l, a :: L, q => ⟨q.1.mono hk hx, InL.mono hk hx l L q.2⟩
  | [], _ :: _, q => q.elim
  | _ :: _, [], q => q.elim
theorem InL.length {W : World} {n : Nat} {κ : Kap} {h : Hp} : ∀ (l : List (Itm H)) (L : List (List AV)), InL P W n κ h l L → L.length = l.length
  | [], [], _ => rfl
  | x :: l, a :: L, q => by simp [InL.length l L q.2]
  | [], _ :: _, q => q.elim
  | _ :: _, [], q => q.elim
theorem InL.at {W : World} {n : Nat} {κ : Kap} {h : Hp} : ∀ (l : List (Itm H)) (L : List (List AV)), InL P W n κ h l L → ∀ i (hi : i < l.length) (hi2 : i < L.length), InAs P W n κ h l[i] L[i]
  | [], [], _, i, hi, _ => by simp at hi
  | x :: l, a :: L, q, 0, _, _ => q.1
  | x :: l, a :: L, q, i + 1, hi, hi2 => InL.at l L q.2 i (by simpa using hi) (by simpa using hi2)
  | [], _ :: _, q, _, _, _ => q.elim
  | _ :: _, [], q, _, _, _ => q.elim
theorem in_list {W : World} {n : Nat} (one : InOne enc P W n) : ∀ (l : List (Itm H)), (∀ x ∈ l, x.ok enc P W n) → ∀ h κ, Sim W.heap.size (W0.of W) κ h W → ∃ h' κ' L, Sim W.heap.size (W0.of W) κ' h' W ∧ κ.le κ' ∧ Ext h h' ∧ InL P W n κ' h' l L
  | [], _, h, κ, s => ⟨h, κ, [], s, κ.le_refl, Ext.refl _, trivial⟩
  | x :: l, hl, h, κ, s => by
    obtain ⟨h1, κ1, a, s1, k1, x1, r1⟩ := one x (hl x (by simp)) h κ s
    obtain ⟨h2, κ2, L, s2, k2, x2, r2⟩ := in_list one l (fun y hy => hl y (by simp [hy])) h1 κ1 s1
    exact ⟨h2, κ2, a :: L, s2, Kap.le_trans k1 k2, x1.trans x2, r1.mono k2 x2, r2⟩
theorem InL.gams {W : World} {n : Nat} {κ : Kap} {h : Hp} : ∀ (l : List (Itm H)) (L : List (List AV)), InL P W n κ h l L → gams κ L.flatten = some (l.map Itm.cs).flatten ∧ ∀ v ∈ (l.map Itm.cs).flatten, v.oneCell' = true
  | [], [], _ => by simp [Am.gams]
  | x :: l, a :: L, q => by
    obtain ⟨h1, h2⟩ := InL.gams l L q.2
    refine ⟨by simpa using gams_append _ _ _ _ q.1.1 h1, fun v hv => ?_⟩
    simp only [List.map_cons, List.flatten_cons, List.mem_append] at hv
    rcases hv with hv | hv
    · exact q.1.2.1 v hv
    · exact h2 v hv
  | [], _ :: _, q => q.elim
  | _ :: _, [], q => q.elim
/-! ### one thing, by its type -/
theorem S_data (s : ByteArray) (κ : Kap) : gam κ (S s.data.toList) = some (.string s) := by
  unfold S
  simp only [gam]
  rw [if_pos (packL_lt _)]
  congr 2
  apply ByteArray.ext
  apply Array.toList_inj.1
  rw [strOf_data, bytesL_pack]
theorem noneFrozen_of {W : World} {ps qs : List MemPlace} (h : W.noneFrozen ps) (hs : ∀ x ∈ qs, x ∈ ps) : W.noneFrozen qs := fun b off hb => h b off (hs _ hb)
theorem tiles_take {α : Type} {R : TypeId → Bool} (cs : List α) : ∀ (fs : List Field) (off : Nat), tilesB P R off fs = true → off + sizesF P fs = cs.length →
    (fs.map fun f => (cs.drop f.offset).take (P.cellsOf f.type)).flatten = cs.drop off ∧ ∀ f ∈ fs, ((cs.drop f.offset).take (P.cellsOf f.type)).length = P.cellsOf f.type ∧ R f.type = true
  | [], off, _, h => by
    simp only [sizesF, Nat.add_zero] at h
    simp [← h]
  | f :: fs, off, ht, h => by
    simp only [tilesB, Bool.and_eq_true, Nat.beq_eq] at ht
    obtain ⟨h1, h2, h3⟩ := ht
    simp only [sizesF] at h
    obtain ⟨q1, q2⟩ := tiles_take cs fs (off + P.cellsOf f.type) h3 (by omega)
    refine ⟨?_, fun g hg => ?_⟩
    · rw [List.map_cons, List.flatten_cons, q1, h1, ← List.drop_drop]
      exact List.take_append_drop _ _
    · rcases List.mem_cons.1 hg with rfl | hg
      · rw [h1]
        refine ⟨?_, h2⟩
        rw [List.length_take, List.length_drop]; omega
      · exact q2 g hg
theorem rdF_of {W : World} {n : Nat} {κ : Kap} {h : Hp} : ∀ (fs : List Field) (l : List (Itm H)) (L : List (List AV)), l.map Itm.t = fs.map Field.type → (∀ x ∈ l, x.cs.length = P.cellsOf x.t) → InL P W n κ h l L → RdF P (RdT P h n) fs L (l.map Itm.d)
  | [], [], [], _, _, _ => trivial
  | f :: fs, x :: l, a :: L, ht, hc, q => by
    simp only [List.map_cons, List.cons.injEq] at ht
    refine ⟨?_, ?_, rdF_of fs l L ht.2 (fun y hy => hc y (by simp [hy])) q.2⟩
    · rw [← gams_length _ _ q.1.1, hc x (by simp), ht.1]
    · rw [← ht.1]; exact q.1.2.2
  | [], x :: l, _, ht, _, _ => by simp at ht
  | _ :: _, [], _, ht, _, _ => by simp at ht
  | [], [], _ :: _, _, _, q => q.elim
  | _ :: _, _ :: _, [], _, _, q => q.elim
theorem flat_get' {α : Type} {c : Nat} (hc : 0 < c) : ∀ (L : List (List α)), (∀ l ∈ L, l.length = c) → ∀ j, L.flatten[j]? = (L[j / c]?).bind fun l => l[j % c]?
  | [], _, j => by simp
  | l :: L, h, j => by
    have hl := h l (by simp)
    rw [List.flatten_cons, List.getElem?_append, hl]
    by_cases hj : j < c
    · rw [if_pos hj, Nat.div_eq_of_lt hj, Nat.mod_eq_of_lt hj]; simp
    · have e1 : j / c = (j - c) / c + 1 := by
        rw [Nat.div_eq_sub_div hc (by omega)]
      have e2 : j % c = (j - c) % c := Nat.mod_eq_sub_mod (by omega)
      rw [if_neg hj, flat_get' hc L (fun x hx => h x (by simp [hx])), e1, e2]
      simp
theorem flat_cut {α : Type} {c : Nat} : ∀ (L : List (List α)), (∀ l ∈ L, l.length = c) → ∀ j (hj : j < L.length), (L.flatten.drop (j * c)).take c = L[j]
  | [], _, j, hj => by simp at hj
  | l :: L, h, 0, _ => by
    have hl := h l (by simp)
    simp [← hl]
  | l :: L, h, j + 1, hj => by
    have hl := h l (by simp)
    have := flat_cut L (fun x hx => h x (by simp [hx])) j (by simpa using hj)
    rw [List.flatten_cons, Nat.add_mul, Nat.one_mul, Nat.add_comm, ← List.drop_drop, ← hl, List.drop_left, hl]
    simpa using this
theorem flat_len' {α : Type} {c : Nat} : ∀ (L : List (List α)), (∀ l ∈ L, l.length = c) → L.flatten.length = L.length * c
  | [], _ => by simp
  | l :: L, h => by
    have hl := h l (by simp)
    rw [List.flatten_cons, List.length_append, flat_len' L (fun x hx => h x (by simp [hx])), hl, List.length_cons, Nat.add_mul, Nat.one_mul, Nat.add_comm]
theorem cellsO_of {ob : AObj} {cs : List AV} (hc : ∀ j, cellAt ob j = cs[j]?) : ∀ (n off : Nat), off + n ≤ cs.length → cellsO ob n off = some ((cs.drop off).take n)
  | 0, off, _ => by simp [cellsO]
  | n + 1, off, h => by
    rw [cellsO, hc off, cellsO_of hc n (off + 1) (by omega), List.getElem?_eq_getElem (by omega)]
    simp only [Option.bind_some, Option.map_some]
    rw [List.drop_eq_getElem_cons (by omega : off < cs.length), List.take_succ_cons]
theorem choose_list {α : Type} {Q : Nat → α → Prop} : ∀ (n : Nat), (∀ j, j < n → ∃ x, Q j x) → ∃ l : List α, l.length = n ∧ ∀ j (hj : j < l.length), Q j l[j]
  | 0, _ => ⟨[], rfl, fun j hj => by simp at hj⟩
  | n + 1, h => by
    obtain ⟨l, h1, h2⟩ := choose_list n fun j hj => h j (by omega)
    obtain ⟨x, hx⟩ := h n (by omega)
    refine ⟨l ++ [x], by simp [h1], fun j hj => ?_⟩
    by_cases hjn : j < l.length
    · rw [List.getElem_append_left hjn]; exact h2 j hjn
    · have : j = n := by simp at hj; omega
      subst this
      rw [List.getElem_append_right (by omega)]
      simp only [h1, Nat.sub_self, List.getElem_cons_zero]
      exact hx
theorem weightsAll_mem {e : TypeId} : ∀ (l : List (DataW H)) (d : DataW H), d ∈ l → ∀ n ∈ DataW.weights P e d, n ∈ DataW.weightsAll P e l
  | [], d, h, _, _ => by cases h
  | x :: l, d, h, n, hn => by
    rw [DataW.weightsAll]
    rcases List.mem_cons.1 h with rfl | h
    · exact List.mem_append_left _ hn
    · exact List.mem_append_right _ (weightsAll_mem l d h n hn)
theorem weightsEach_mem : ∀ (ts : List TypeId) (ds : List (DataW H)) (i : Nat) (t : TypeId) (d : DataW H), ts[i]? = some t → ds[i]? = some d → ∀ n ∈ DataW.weights P t d, n ∈ DataW.weightsEach P ts ds
  | [], _, i, t, d, h, _, _, _ => by simp at h
  | t :: ts, [], i, _, d, _, h, _, _ => by simp at h
  | t :: ts, x :: ds, 0, t', d, h1, h2, n, hn => by
    simp at h1 h2; subst h1 h2
    rw [DataW.weightsEach]; exact List.mem_append_left _ hn
  | t :: ts, x :: ds, i + 1, t', d, h1, h2, n, hn => by
    rw [DataW.weightsEach]; exact List.mem_append_right _ (weightsEach_mem ts ds i t' d (by simpa using h1) (by simpa using h2) n hn)
/-- Elements as an object. -/
theorem elems_obj {W : World} {n : Nat} {κ : Kap} {h : Hp} {e : TypeId} {l : List (Itm H)} {L : List (List AV)} (ht : ∀ x ∈ l, x.t = e) (hL : InL P W n κ h l L) : ∃ ob, (match ob with | .row _ => True | .byts _ _ => True | _ => False) ∧ (∀ j, cellAt ob j = L.flatten[j]?) ∧ sizeOfObj ob = L.flatten.length ∧
    (P.underlying e = some (.int .u8) → ∃ z, ob = .byts l.length z) := by
  by_cases hu : P.underlying e = some (.int .u8)
  · have key : ∀ (l : List (Itm H)) (L : List (List AV)), (∀ x ∈ l, x.t = e) → InL P W n κ h l L → ∃ bs : List UInt8, bs.length = l.length ∧ L.flatten = bs.map fun b => .int .u8 (b.toNat : Int) := by
      intro l
      induction l with
      | nil => intro L _ q; cases L with
        | nil => exact ⟨[], rfl, rfl⟩
        | cons => exact q.elim
      | cons x l ih =>
        intro L ht q
        cases L with
        | nil => exact q.elim
        | cons a L =>
          obtain ⟨bs, h1, h2⟩ := ih L (fun y hy => ht y (by simp [hy])) q.2
          obtain ⟨_, _, q3⟩ := q.1
          cases n with
          | zero => exact q3.elim
          | succ n =>
            unfold RdT at q3
            rw [ht x (by simp), hu] at q3
            obtain ⟨z, rfl, _, hz⟩ := q3
            have hz' : 0 ≤ z ∧ z < 256 := by
              have e1 : IntKind.u8.min = 0 := by decide
              have e2 : IntKind.u8.max = 255 := by decide
              simp only [Lit.wf, Bool.and_eq_true, decide_eq_true_eq, e1, e2] at hz
              omega
            refine ⟨UInt8.ofNat z.toNat :: bs, by simp [h1], ?_⟩
            rw [List.flatten_cons, h2]
            have : ((UInt8.ofNat z.toNat).toNat : Int) = z := by
              rw [UInt8.toNat_ofNat']
              omega
            rw [List.map_cons, this]
            rfl
    obtain ⟨bs, h1, h2⟩ := key l L ht hL
    refine ⟨.byts bs.length (packL bs), trivial, fun j => ?_, by rw [h2]; simp [sizeOfObj], fun _ => ⟨_, by rw [h1]⟩⟩
    rw [h2, List.getElem?_map]
    rw [cellAt_byts]
    by_cases hj : j < bs.length
    · rw [if_pos hj, List.getElem?_eq_getElem hj, Option.map_some, byteAt_S bs j hj]
      rfl
    · rw [if_neg hj, List.getElem?_eq_none (by omega)]
      rfl
  · exact ⟨.row L.flatten, trivial, fun j => cellAt_row' _ _, rfl, fun h => absurd h hu⟩
theorem cell_heap {W : World} {a : Addr} {v : Value} (h : W.cell? a = some v) : a.spot = none ∧ ∃ c t fr, W.heap[a.block]? = some (.cells c t fr) ∧ c[a.off]? = some v := by
  unfold World.cell? at h
  split at h
  · rename_i c t fr hc
    split at h
    · cases h
    · rename_i hs
      exact ⟨by cases q : a.spot with | none => rfl | some x => simp [q] at hs, c, t, _, hc, h⟩
  · cases h
theorem add_spot {a : Addr} (hs : a.spot = none) (n : Nat) : a.add n = ⟨a.block, a.off + n, none⟩ := by
  unfold Addr.add
  split
  · rename_i h; subst h
    obtain ⟨b, o, sp⟩ := a
    simp only at hs
    subst hs; rfl
  · rfl
theorem in_one (W : World) : ∀ n, InOne enc P W n
  | 0 => fun x hx => by cases hx.1
  | n + 1 => fun ⟨t, cs, d, ps, fuel⟩ ⟨hp, ht, hw, hf⟩ h κ s => by
    have one := in_one W n
    simp only at hp ht hw hf
    unfold plainT at hp
    split at hp
    · rename_i hu
      obtain ⟨b, rfl, hx⟩ := DataW.trod_bool hu ht
      cases hx
      refine ⟨h, κ, [.bool b], s, κ.le_refl, Ext.refl _, by simp [gams, gam], by simp [Value.oneCell'], ?_⟩
      unfold RdT; rw [hu]; exact ⟨b, rfl, rfl⟩
    · rename_i k hu
      obtain ⟨z, rfl, hx, hz⟩ := DataW.trod_int hu ht
      cases hx
      refine ⟨h, κ, [.int k z], s, κ.le_refl, Ext.refl _, by simp [gams, gam], by simp [Value.oneCell'], ?_⟩
      unfold RdT; rw [hu]; exact ⟨z, rfl, rfl, hz⟩
    · rename_i hu
      obtain ⟨b, rfl, hx, _⟩ := DataW.trod_string hu ht
      cases hx
      have hb : b.data.toList.length ≤ reachBytes := by simpa [DataW.weights] using hw
      refine ⟨h, κ, [S b.data.toList], s, κ.le_refl, Ext.refl _, by simp [gams, S_data], by simp [Value.oneCell'], ?_⟩
      unfold RdT; rw [hu]; exact ⟨_, rfl, rfl, hb⟩
    · rename_i e hu
      simp only [Bool.and_eq_true, Nat.blt_eq] at hp
      obtain ⟨hpe, hc0, hc1⟩ := hp
      rcases DataW.trod_slice hu ht with ⟨rfl, hx⟩ | ⟨a, len, cap, elems, rest, m, _, rfl, hx, _, hlc, hcm, hlen, hel, hsp, _⟩
      · cases hx
        refine ⟨h, κ, [.nilslice], s, κ.le_refl, Ext.refl _, by simp [gams, gam], by simp [Value.oneCell'], ?_⟩
        unfold RdT; rw [hu]; exact .inl ⟨rfl, rfl⟩
      · obtain ⟨hrl, hre⟩ := hsp rfl
        simp only [Prod.mk.injEq] at hx
        obtain ⟨rfl, rfl⟩ := hx
        by_cases hcap : cap = 0
        · have hl0 : len = 0 := by omega
          have he0 : elems = [] := List.eq_nil_of_length_eq_zero (by omega)
          have hr0 : rest = [] := List.eq_nil_of_length_eq_zero (by omega)
          subst he0 hr0
          have hz : ∃ q, zsp q = a.spot := by
            cases a.spot with
            | none => exact ⟨0, rfl⟩
            | some x => exact ⟨x + 1, rfl⟩
          obtain ⟨q, hq⟩ := hz
          refine ⟨_, _, [.sliceZ h.next], s.spare ⟨a.block, a.off, q⟩, Kap.le_set s.none_next, Ext.spare h, ?_, by simp [Value.oneCell'], ?_⟩
          · simp only [gams, gam, Kap.set_self, Option.map_some, Option.bind_some, hq, hl0, hcap]
          · unfold RdT; rw [hu]; exact .inr (.inl ⟨_, rfl, rfl⟩)
        -- the first cell
        have hex : ∃ l, W.cells? 0 (a.add (0 * P.cellsOf e)) (P.cellsOf e) = some l := by
          by_cases hl : 0 < len
          · have := hel 0 hl
            rw [List.getElem?_eq_getElem (by omega), Option.bind_eq_some_iff] at this
            obtain ⟨l, h1, _⟩ := this
            exact ⟨l, h1⟩
          · have := hre 0 (by omega)
            rw [show len + 0 = 0 by omega, List.getElem?_eq_getElem (by omega), Option.bind_eq_some_iff] at this
            obtain ⟨l, h1, _⟩ := this
            exact ⟨l, h1⟩
        obtain ⟨l0, hl0⟩ := hex
        obtain ⟨_, hl0n, hl0c⟩ := World.cells?_some hl0
        have hz0 := hl0c 0 hc0
        have eadd : (a.add (0 * P.cellsOf e)).add 0 = a := by simp [Addr.add]
        rw [eadd, List.getElem?_eq_getElem (by omega)] at hz0
        obtain ⟨hspot, c, ty, fr, hheap, hcell0⟩ := cell_heap hz0
        have hblk : a.block < W.heap.size := (Array.getElem?_eq_some_iff.1 hheap).1
        have hoff : a.off < c.size := (Array.getElem?_eq_some_iff.1 hcell0).1
        -- the elements
        obtain ⟨its, hi1, hi2⟩ := choose_list (Q := fun j (x : Itm H) => x.t = e ∧ W.cells? 0 (a.add (j * P.cellsOf e)) (P.cellsOf e) = some x.cs ∧ elems[j]? = some (x.d, x.ps) ∧ DataW.trod enc P W 0 (fun _ => true) true x.fuel e x.cs = some (x.d, x.ps)) len (fun j hj => by
          have := hel j hj
          rw [List.getElem?_eq_getElem (by omega), Option.bind_eq_some_iff] at this
          obtain ⟨l, h1, h2⟩ := this
          exact ⟨⟨e, l, (elems[j]'(by omega)).1, (elems[j]'(by omega)).2, m⟩, rfl, h1, by rw [List.getElem?_eq_getElem (by omega)], h2⟩)
        have hti : ∀ x ∈ its, x.t = e := fun x hx => by
          obtain ⟨j, hj, rfl⟩ := List.getElem_of_mem hx
          exact (hi2 j hj).1
        have hok : ∀ x ∈ its, x.ok enc P W n := fun x hx => by
          obtain ⟨j, hj, rfl⟩ := List.getElem_of_mem hx
          obtain ⟨q1, q2, q3, q4⟩ := hi2 j hj
          have hmem := List.mem_of_getElem? q3
          refine ⟨by rw [q1]; exact hpe, by rw [q1]; exact q4, ?_, noneFrozen_of hf fun y hy => ?_⟩
          · rw [q1]
            refine List.all_eq_true.2 fun w hw' => List.all_eq_true.1 hw w ?_
            rw [DataW.weights, hu]
            exact List.mem_cons_of_mem _ (List.mem_append_left _ (weightsAll_mem _ _ (List.mem_map_of_mem (f := Prod.fst) hmem) w hw'))
          · exact List.mem_append_right _ (List.mem_flatMap.2 ⟨_, List.mem_append_left _ hmem, hy⟩)
        obtain ⟨h1, κ1, L, s1, k1, x1, r1⟩ := in_list one its hok h κ s
        have hLl : L.length = len := by rw [InL.length _ _ r1, hi1]
        have hLc : ∀ l ∈ L, l.length = P.cellsOf e := fun l hl => by
          obtain ⟨j, hj, rfl⟩ := List.getElem_of_mem hl
          have hj' : j < its.length := by omega
          have := InL.at _ _ r1 j hj' hj
          obtain ⟨_, q2, _⟩ := World.cells?_some (hi2 j hj').2.1
          rw [← gams_length _ _ this.1, q2]
        obtain ⟨hg, hone⟩ := InL.gams _ _ r1
        obtain ⟨ob, ob0, ob1, ob2, ob3⟩ := elems_obj hti r1
        have hCl : ∀ l ∈ its.map Itm.cs, l.length = P.cellsOf e := fun l hl => by
          obtain ⟨x, hx, rfl⟩ := List.mem_map.1 hl
          obtain ⟨j, hj, rfl⟩ := List.getElem_of_mem hx
          exact (World.cells?_some (hi2 j hj).2.1).2.1
        have hflat : L.flatten.length = len * P.cellsOf e := by rw [flat_len' L hLc, hLl]
        have hget : ∀ j V, (its.map Itm.cs).flatten[j]? = some V → c[a.off + j]? = some V := fun j V hV => by
          rw [flat_get' hc0 _ hCl, Option.bind_eq_some_iff] at hV
          obtain ⟨l, q1, q2⟩ := hV
          rw [List.getElem?_map, Option.map_eq_some_iff] at q1
          obtain ⟨x, q1, rfl⟩ := q1
          obtain ⟨hj', rfl⟩ := List.getElem?_eq_some_iff.1 q1
          obtain ⟨_, _, q3⟩ := World.cells?_some (hi2 (j / P.cellsOf e) hj').2.1
          have := q3 (j % P.cellsOf e) (Nat.mod_lt _ hc0)
          rw [q2, add_spot hspot, add_spot rfl] at this
          obtain ⟨_, c', t', fr', e1, e2⟩ := cell_heap this
          rw [hheap] at e1
          cases e1
          have e3 : a.off + j / P.cellsOf e * P.cellsOf e + j % P.cellsOf e = a.off + j := by
            have := Nat.div_add_mod j (P.cellsOf e)
            rw [Nat.mul_comm] at this
            omega
          rw [← e3]; exact e2
        have hfz : ∀ j, j < len * P.cellsOf e → ¬ (fr.1 ≤ a.off + j ∧ a.off + j < fr.2) := fun j hj hq => by
          have hm : MemPlace.cell a.block (a.off + j) ∈ MemPlace.row a ((elems.length + rest.length) * P.cellsOf e) ++ (elems ++ rest).flatMap (·.2) := by
            refine List.mem_append_left _ (List.mem_map.2 ⟨j, List.mem_range.2 ?_, rfl⟩)
            rw [hlen, Nat.add_mul]; omega
          have := hf _ _ hm
          simp [World.frozen?, hheap, hq.1, hq.2] at this
        have hle : κ1.le (κ1.set h1.next ⟨a.block, a.off, 0⟩) := Kap.le_set s1.none_next
        have hrow : RowSim (κ1.set h1.next ⟨a.block, a.off, 0⟩) ob roEsz ⟨a.block, a.off, 0⟩ W.heap[a.block]? := by
          refine ⟨c, ty, fr, hheap, by simp; omega, .inr (.inr ⟨rfl, Nat.le_refl _, fun j v hv => ?_⟩), fun j hj => ?_, fun j v hv => ?_⟩
          · rw [ob1] at hv
            exact hfz j (by rw [← hflat]; exact (List.getElem?_eq_some_iff.1 hv).1)
          · rw [ob1]; exact ⟨_, List.getElem?_eq_getElem (by rw [← ob2]; exact hj)⟩
          · rw [ob1] at hv
            obtain ⟨V, g1, g2⟩ := gams_get _ _ _ _ hg hv
            exact ⟨V, gam_mono hle _ _ g1, hone V (List.mem_of_getElem? g2), hget j V g2⟩
        have hobs : ObjSim (κ1.set h1.next ⟨a.block, a.off, 0⟩) ob roEsz ⟨a.block, a.off, 0⟩ W.heap[a.block]? := by
          cases ob with
          | row cs => exact hrow
          | byts n x => exact hrow
          | big n t d => exact ob0.elim
          | map es c => exact ob0.elim
          | sit n x p => exact ob0.elim
          | mit m s l c => exact ob0.elim
        have hs2 := s1.arg hblk hobs
        have hx2 : Ext h1 (h1.new ⟨false, roEsz, ob⟩) := (Ext.refl h1).new _
        refine ⟨_, _, [.slice h1.next 0 len true cap], hs2, Kap.le_trans k1 hle, x1.trans hx2, ?_, by simp [Value.oneCell'], ?_⟩
        · have ha : (⟨a.block, a.off, 0⟩ : Ki).at 0 = a := by
            obtain ⟨b, o, sp⟩ := a
            simp only at hspot
            subst hspot; rfl
          simp only [gams, gam, Kap.set_self, Option.bind_some, if_true, if_pos hlc, ha, Option.map_some]
        · have hels : (elems.map (·.1)).length = len := by rw [List.length_map, hlen]
          unfold RdT
          rw [hu]
          refine .inr (.inr ⟨h1.next, cap, ob, _, _, by rw [hels], rfl, by rw [hels]; exact hlc, ?_, by simp [Hp.next_new], Hp.at_new_self _ _, fun hu8 => ?_, fun j hj => ?_⟩)
          · have := List.all_eq_true.1 hw _ (by rw [DataW.weights, hu]; exact List.mem_cons_self)
            simpa using this
          · obtain ⟨z, hz⟩ := ob3 hu8
            exact ⟨z, by rw [hz, hi1, hels]⟩
          · rw [hels] at hj
            have hj' : j < its.length := by omega
            have hjL : j < L.length := by omega
            have := InL.at _ _ r1 j hj' hjL
            obtain ⟨q1, _, q3, _⟩ := hi2 j hj'
            refine ⟨L[j], ?_, hLc _ (List.getElem_mem hjL), ?_⟩
            · rw [cellsO_of ob1 _ _ (by rw [hflat]; have := Nat.mul_le_mul_right (P.cellsOf e) (show j + 1 ≤ len from hj); rw [Nat.add_mul, Nat.one_mul] at this; exact this), flat_cut L hLc j hjL]
            · have r3 := RdT.mono hx2 _ _ _ _ this.2.2
              rw [q1] at r3
              have hd : (elems.map (·.1))[j]'(by rw [hels]; exact hj) = its[j].d := by
                rw [List.getElem_map]
                have := List.getElem?_eq_some_iff.1 q3
                obtain ⟨_, q⟩ := this
                rw [q]
              rw [hd]; exact r3
    · rename_i fs hu
      simp only [Bool.and_eq_true, Nat.beq_eq] at hp
      obtain ⟨hti, hsz⟩ := hp
      obtain ⟨xs, m, _, hx, hcl, hxl, hxi⟩ := DataW.trod_struct hu ht
      simp only [Prod.mk.injEq] at hx
      obtain ⟨rfl, rfl⟩ := hx
      obtain ⟨hc1, hc2⟩ := tiles_take (P := P) cs fs.toList 0 hti (by omega)
      obtain ⟨its, hi1, hi2⟩ := choose_list (Q := fun j (x : Itm H) => ∃ f, fs.toList[j]? = some f ∧ x.t = f.type ∧ x.cs = (cs.drop f.offset).take (P.cellsOf f.type) ∧ xs[j]? = some (x.d, x.ps) ∧ DataW.trod enc P W 0 (fun _ => true) true x.fuel f.type x.cs = some (x.d, x.ps)) fs.size (fun j hj => by
        have hq : fs[j]? = some fs[j] := Array.getElem?_eq_getElem hj
        have := hxi j fs[j] hq
        rw [List.getElem?_eq_getElem (by omega)] at this
        exact ⟨⟨fs[j].type, _, (xs[j]'(by omega)).1, (xs[j]'(by omega)).2, m⟩, fs[j], by rw [Array.getElem?_toList]; exact hq, rfl, rfl, by rw [List.getElem?_eq_getElem (by omega)], this⟩)
      have hmap : its.map Itm.t = fs.toList.map Field.type := by
        apply List.ext_getElem?
        intro j
        rw [List.getElem?_map, List.getElem?_map]
        by_cases hj : j < its.length
        · obtain ⟨f, q1, q2, _⟩ := hi2 j hj
          rw [q1, List.getElem?_eq_getElem hj]; simp [q2]
        · rw [List.getElem?_eq_none (by omega), List.getElem?_eq_none (by simp; omega)]; rfl
      have hmapc : its.map Itm.cs = fs.toList.map fun f => (cs.drop f.offset).take (P.cellsOf f.type) := by
        apply List.ext_getElem?
        intro j
        rw [List.getElem?_map, List.getElem?_map]
        by_cases hj : j < its.length
        · obtain ⟨f, q1, _, q3, _⟩ := hi2 j hj
          rw [q1, List.getElem?_eq_getElem hj]; simp [q3]
        · rw [List.getElem?_eq_none (by omega), List.getElem?_eq_none (by simp; omega)]; rfl
      have hmapd : its.map Itm.d = xs.map (·.1) := by
        apply List.ext_getElem?
        intro j
        rw [List.getElem?_map, List.getElem?_map]
        by_cases hj : j < its.length
        · obtain ⟨f, _, _, _, q4, _⟩ := hi2 j hj
          rw [q4, List.getElem?_eq_getElem hj]; simp
        · rw [List.getElem?_eq_none (by omega), List.getElem?_eq_none (by omega)]; rfl
      have hok : ∀ x ∈ its, x.ok enc P W n ∧ x.cs.length = P.cellsOf x.t := fun x hx => by
        obtain ⟨j, hj, rfl⟩ := List.getElem_of_mem hx
        obtain ⟨f, q1, q2, q3, q4, q5⟩ := hi2 j hj
        have hfm := List.mem_of_getElem? q1
        obtain ⟨l1, l2⟩ := hc2 f hfm
        refine ⟨⟨by rw [q2]; exact l2, by rw [q2]; exact q5, ?_, noneFrozen_of hf fun y hy => ?_⟩, by rw [q3, q2]; exact l1⟩
        · rw [q2]
          refine List.all_eq_true.2 fun w hw' => List.all_eq_true.1 hw w ?_
          rw [DataW.weights, hu]
          exact weightsEach_mem _ _ j f.type its[j].d (by rw [List.getElem?_map, q1]; rfl) (by rw [List.getElem?_map, q4]; rfl) w hw'
        · exact List.mem_flatMap.2 ⟨_, List.mem_of_getElem? q4, hy⟩
      obtain ⟨h1, κ1, L, s1, k1, x1, r1⟩ := in_list one its (fun x hx => (hok x hx).1) h κ s
      obtain ⟨hg, hone⟩ := InL.gams _ _ r1
      rw [hmapc, hc1, List.drop_zero] at hg hone
      refine ⟨h1, κ1, L.flatten, s1, k1, x1, hg, hone, ?_⟩
      unfold RdT
      rw [hu]
      refine ⟨_, L, rfl, rfl, ?_⟩
      have := rdF_of fs.toList its L hmap (fun x hx => (hok x hx).2) r1
      rw [hmapd] at this
      exact this
    · cases hp
end Go.Am

namespace Go.Am
set_option linter.unusedSimpArgs false
set_option linter.unusedVariables false
open Go Go.RowKit
variable {P : Program} {H : Type} {enc : TypeId × Value → H}

/-- The types of one cell. -/
def cell1T (P : Program) (t : TypeId) : Bool := match P.underlying t with
  | some .bool => true
  | some (.int _) => true
  | some .string => true
  | some (.slice _) => true
  | _ => false
theorem cells_one {W : World} {r : Go.Reach} {b : Nat} {t : TypeId} {v : Value} (ht : cell1T P t = true) (hv : Value.okWide P W r b t v) : v.cells = #[v] := by
  unfold cell1T at ht
  unfold Value.okWide at hv
  split at ht
  · rename_i e; rw [e] at hv; unfold Cell.okWide at hv; cases v <;> simp_all [Cell.ok, Value.cells]
  · rename_i e; rw [e] at hv; unfold Cell.okWide at hv; cases v <;> simp_all [Cell.ok, Value.cells]
  · rename_i e; rw [e] at hv; unfold Cell.okWide at hv; cases v <;> simp_all [Cell.ok, Value.cells]
  · rename_i e; rw [e] at hv; unfold Cell.okWide at hv; cases v <;> simp_all [Cell.ok, Value.cells]
  · cases ht
def RdA (P : Program) (h : Hp) (n : Nat) : List TypeId → List AV → List (DataW H) → Prop
  | [], [], [] => True
  | t :: ts, a :: asv, d :: ds => RdT P h n t [a] d ∧ RdA P h n ts asv ds
  | _, _, _ => False
theorem RdA.mono {h h' : Hp} (hx : Ext h h') {n : Nat} : ∀ (ts : List TypeId) (asv : List AV) (ds : List (DataW H)), RdA P h n ts asv ds → RdA P h' n ts asv ds
  | [], [], [], _ => trivial
  | t :: ts, a :: asv, d :: ds, q => ⟨RdT.mono hx _ _ _ _ q.1, RdA.mono hx ts asv ds q.2⟩
  | [], [], _ :: _, q => q.elim
  | [], _ :: _, _, q => q.elim
  | _ :: _, [], _, q => q.elim
  | _ :: _, _ :: _, [], q => q.elim
theorem args_in {W : World} {n : Nat} {r : Go.Reach} {b : Nat} : ∀ (ts : List TypeId) (vs : List Value) (ds : List (DataW H)) (ps : List MemPlace), DataW.TrodAll enc P W 0 (fun _ => true) true ts vs ds ps →
    (ts.all fun t => plainT P n t && cell1T P t) = true → (∀ (i : Nat) t v, ts[i]? = some t → vs[i]? = some v → Value.okWide P W r b t v) → (DataW.weightsEach P ts ds).all (· ≤ reachBytes) = true → W.noneFrozen ps →
    ∀ h κ, Sim W.heap.size (W0.of W) κ h W → ∃ h' κ' asv, Sim W.heap.size (W0.of W) κ' h' W ∧ κ.le κ' ∧ Ext h h' ∧ gams κ' asv = some vs ∧ RdA P h' n ts asv ds
  | [], [], [], ps, _, _, _, _, _, h, κ, s => ⟨h, κ, [], s, κ.le_refl, Ext.refl _, rfl, trivial⟩
  | t :: ts, v :: vs, d :: ds, ps, hA, hp, hv, hw, hf, h, κ, s => by
    obtain ⟨p, q, ⟨fuel, h1⟩, h2, rfl⟩ := hA
    simp only [List.all_cons, Bool.and_eq_true] at hp
    obtain ⟨⟨hp1, hp2⟩, hp3⟩ := hp
    rw [DataW.weightsEach, List.all_append, Bool.and_eq_true] at hw
    have hc := cells_one hp2 (hv 0 t v rfl rfl)
    rw [hc] at h1
    obtain ⟨h1', κ1, a, s1, k1, x1, g1, o1, r1⟩ := in_one W n ⟨t, [v], d, p, fuel⟩ ⟨hp1, h1, hw.1, noneFrozen_of hf fun x hx => List.mem_append_left _ hx⟩ h κ s
    obtain ⟨h2', κ2, asv, s2, k2, x2, g2, r2⟩ := args_in ts vs ds q h2 hp3 (fun i t v ht hv' => hv (i + 1) t v (by simpa using ht) (by simpa using hv')) hw.2 (noneFrozen_of hf fun x hx => List.mem_append_right _ hx) h1' κ1 s1
    have hl : a.length = 1 := (gams_length _ _ g1).symm
    obtain ⟨a, rfl⟩ : ∃ x, a = [x] := by
      match a, hl with
      | [x], _ => exact ⟨x, rfl⟩
    refine ⟨h2', κ2, a :: asv, s2, Kap.le_trans k1 k2, x1.trans x2, ?_, RdT.mono x2 _ _ _ _ r1, r2⟩
    simpa using gams_append _ _ _ _ (gams_mono k2 _ _ g1) g2
  | [], _ :: _, _, _, q, _, _, _, _, _, _, _ => q.elim
  | [], [], _ :: _, _, q, _, _, _, _, _, _, _ => q.elim
  | _ :: _, [], _, _, q, _, _, _, _, _, _, _ => q.elim
  | _ :: _, _ :: _, [], _, q, _, _, _, _, _, _, _ => q.elim

/-- The law's call, by its code at whatever it reads. -/
theorem law_calls (hmix : P.follows .mixedOrders = true) {con : FuncId → Option ConD} (hcon : ConOK P con) {f : FuncId} (hf : con f = none) {W : World} {n : Nat} {r : Go.Reach} {b : Nat} {ts : List TypeId} {vs : List Value} {ds : List (DataW H)} {ps : List MemPlace}
    (hA : DataW.TrodAll enc P W 0 (fun _ => true) true ts vs ds ps) (hp : (ts.all fun t => plainT P n t && cell1T P t) = true) (hv : ∀ (i : Nat) t v, ts[i]? = some t → vs[i]? = some v → Value.okWide P W r b t v)
    (hw : (DataW.weightsEach P ts ds).all (· ≤ reachBytes) = true) (hz : W.noneFrozen ps)
    (hrun : ∀ asv h, RdA P h n ts asv ds → ∃ fuel, deepT (tabOf P) f (cfn P con fuel) fuel asv h fun v _ => v = .bool true) :
    Calls P f vs.toArray W fun e w' => e = .returned (.bool true) ∧ Below W.heap.size W w' := by
  have s0 : Sim W.heap.size (W0.of W) (fun _ => none) ⟨E1.lf, 0⟩ W := ⟨Below.refl _ _, Nat.le_refl _, (fun o e he => by rw [E1.getP_lf] at he; cases he), (fun o _ e _ _ _ he => by rw [E1.getP_lf] at he; cases he), (fun o ki hk => by cases hk), (fun b ob hb => by cases hb), (fun o e ki he => by rw [E1.getP_lf] at he; cases he)⟩
  obtain ⟨h, κ, asv, s, _, _, g, hr⟩ := args_in ts vs ds ps hA hp hv hw hz _ _ s0
  obtain ⟨fuel, hD⟩ := hrun asv h hr
  have : callN con (tabOf P) fuel 2 f asv h fun v _ => v = .bool true := by
    show Option.rec (motive := fun _ => Prop) (asOpt (tabOf P f) fun af => argK asv 0 G1.lf fun fr => af.body (callN con (tabOf P) fuel 1) fuel (endK af.res fun v _ => v = .bool true) fr h) (fun c => c asv h fun v _ => v = .bool true) (con f)
    rw [hf]
    exact hD
  refine (callN_ok (B := W.heap.size) (w0 := W0.of W) hmix hcon fuel 2 f asv h _ this).2 κ W vs s g _ fun κ' av h' v w' k1 k2 k3 k4 => ?_
  subst k4
  simp only [gam, Option.some.injEq] at k3
  exact ⟨by rw [← k3], k2.below⟩
end Go.Am

namespace Go.Am
set_option linter.unusedSimpArgs false
set_option linter.unusedVariables false
open Go Go.RowKit Go.WideShapes Go.ChangeShapes Go.ChangeAt
variable {P : Program} {H : Type} {enc : TypeId × Value → H}

theorem trodAll_stays (hl : laidOutB P = true) {W W' : World} {sp' : Nat → Bool} : ∀ (ts : List TypeId) (vs : List Value) (ds : List (DataW H)) (ps : List MemPlace),
    (ts.all fun t => P.readableRec t && decide (t < P.types.size)) = true → DataW.TrodAll enc P W 0 (fun _ => true) true ts vs ds ps → (∀ p ∈ ps, W.sameAt W' p) → (∀ p ∈ ps, sp' p.block = true) → DataW.TrodAll enc P W' 0 sp' true ts vs ds ps
  | [], [], [], ps, _, h, _, _ => h
  | t :: ts, v :: vs, d :: ds, ps, hr, h, hs, hp => by
    obtain ⟨p, q, h1, h2, rfl⟩ := h
    simp only [List.all_cons, Bool.and_eq_true, decide_eq_true_eq] at hr
    exact ⟨p, q, WideElems.Trod_stays hl hr.1.1 hr.1.2 h1 (fun x hx => hs x (List.mem_append_left _ hx)) (fun x hx => hp x (List.mem_append_left _ hx)),
      trodAll_stays hl ts vs ds q (by simpa using hr.2) h2 (fun x hx => hs x (List.mem_append_right _ hx)) (fun x hx => hp x (List.mem_append_right _ hx)), rfl⟩
  | [], _ :: _, _, _, _, q, _, _ => q.elim
  | [], [], _ :: _, _, _, q, _, _ => q.elim
  | _ :: _, [], _, _, _, q, _, _ => q.elim
  | _ :: _, _ :: _, [], _, _, q, _, _ => q.elim

theorem trodAll_length {W : World} {b : Nat} {sp : Nat → Bool} {hd : Bool} : ∀ (ts : List TypeId) (vs : List Value) (ds : List (DataW H)) (ps : List MemPlace), DataW.TrodAll enc P W b sp hd ts vs ds ps → ds.length = ts.length
  | [], [], [], _, _ => rfl
  | t :: ts, v :: vs, d :: ds, ps, h => by
    obtain ⟨p, q, _, h2, _⟩ := h
    simpa using trodAll_length ts vs ds q h2
  | [], _ :: _, _, _, q => q.elim
  | [], [], _ :: _, _, q => q.elim
  | _ :: _, [], _, _, q => q.elim
  | _ :: _, _ :: _, [], _, q => q.elim
/-- The law's contract. -/
theorem law_contract {C : Checked} (hmix : C.prog.follows .mixedOrders = true) (hl : laidOutB C.prog = true) {con : FuncId → Option ConD} (hcon : ConOK C.prog con) {f : FuncId} (hf : con f = none) {fn : Func} {s : ChangeSpec} {n : Nat}
    (hpar : (fn.params.toList.all fun t => plainT C.prog n t && cell1T C.prog t) = true) (hread : (fn.params.toList.all fun t => C.prog.readableRec t && decide (t < C.prog.types.size)) = true)
    {tb : TypeId} (htb : C.prog.underlying tb = some .bool) (hres : fn.resultTypes = #[tb]) (hv0 : s.vars = [])
    (hfn : ∀ (ds : List (DataW H)), ds.length = fn.params.toList.length → (s.fn H ds).results = [.lit (.bool true)] ∧ (s.fn H ds).args = ds ∧ (s.fn H ds).vars = [])
    (hrun : ∀ (asv : List AV) (h : Hp) (ds : List (DataW H)), RdA C.prog h n fn.params.toList asv ds → ∃ fuel, deepT (tabOf C.prog) f (cfn C.prog con fuel) fuel asv h fun v _ => v = .bool true)
    {apart fresh handsOn again : Bool} {W : World} {base : Nat} {args : Array Value} {ds gs : List (DataW H)} {before : List MemPlace}
    (hval : ∀ (j : Nat) t v, fn.params[j]? = some t → args[j]? = some v → Value.okWide C.prog W .any base t v)
    (hW : DataW.Whole enc C.prog fn.params.toList s.vars apart W args.toList ds gs before)
    (hw : (DataW.weightsEach C.prog (fn.params.toList ++ s.plain.varTypes C.prog) (ds ++ gs)).all (· ≤ reachBytes) = true) :
    Calls C.prog f args W fun e W' => ∃ v, e = .returned v ∧ s.post enc C.prog fn apart fresh handsOn again W args v W' := by
  have hW' := hW
  obtain ⟨p, q, hA, hV, rfl, hfz, hnd⟩ := hW
  have hA' : DataW.TrodAll enc C.prog W 0 (fun _ => true) true fn.params.toList args.toList ds p := hA
  rw [hv0] at hV
  obtain ⟨rfl, rfl⟩ := trodVars_none hV
  have hvt : s.plain.varTypes C.prog = [] := by
    simp [DataSpec.varTypes, ChangeSpec.plain, hv0]
  rw [hvt, List.append_nil, List.append_nil] at hw
  rw [List.append_nil] at hW' hfz
  have hlen : ds.length = fn.params.toList.length := trodAll_length _ _ _ _ hA'
  obtain ⟨hr1, hr2, hr3⟩ := hfn ds hlen
  have hcall := law_calls (H := H) hmix hcon hf hA' hpar (b := base) (r := .any) (fun i t v h1 h2 => hval i t v (by simpa using h1) (by simpa using h2)) hw hfz (fun asv h hr => hrun asv h ds hr)
  refine Calls.mono (by simpa using hcall) fun e W' he => ?_
  obtain ⟨rfl, hb⟩ := he
  refine ⟨_, rfl, post_of_below (pa := p) (pv := []) hW' ?_ ?_ ?_ (by simp) hb ?_⟩
  · intro b sp hd
    rw [hres, List.append_nil, hr1]
    exact trodAll_cons_mk (shut_bool htb _) trodAll_mk0
  · intro sp hsp
    rw [List.append_nil, hr2]
    exact trodAll_stays hl _ _ _ _ hread hA' (fun x hx => hb.same (hW'.lt x hx)) hsp
  · intro sp hsp
    rw [List.append_nil, hr3, hv0]
    exact rfl
  · exact ok_one hres rfl (okWide_bool_mk htb _)
end Go.Am

