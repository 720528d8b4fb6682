/-
  Parts of the abstract machine and its use, joined: AmIns AmIns2 AmStr. No condition.
-/
import Derived.Shelf.Spec.SlicesInsertGrow
import Derived.Test.YtciipeallilmiaaGreatDoorAmC
import Derived.Shelf.Strings.OnBuilder
import Derived.Shelf.Pu.Clone
namespace Go.Am
set_option linter.unusedSimpArgs false
set_option linter.unusedVariables false
open Go Go.Proofs Go.Shelf Go.RowKit Go.Lib
variable {P : Program} {ρ : Ren}

/-- The library's body under another name. -/
noncomputable abbrev insF (ρ : Ren) (nm : String) : Func := { Body2.n22 ρ with name := nm }
theorem ins_enter {P : Program} {ρ : Ren} {nm : String} {c : Code} {args : Array Value} {w : World} {R : Ending → World → Prop} (hf : P.funcs[ρ.f 22]? = some (insF ρ nm)) (hc : (Body2.n22 ρ).body = some c)
    (h : c.wp P (bodyPost P (Body2.n22 ρ) R) { tmps := args ++ Array.replicate ((Body2.n22 ρ).ntmps - args.size) undef, defers := [] } w) : Calls P (ρ.f 22) args w R :=
  calls_of_wp hf hc h
/-- What the walks ask of the numbering: the function, its helper, its types; an element has k cells and 'bs' bytes. -/
structure InsLay (P : Program) (ρ : Ren) (nm : String) (k bs : Nat) (z : Value) : Prop where
  mixed : P.follows .mixedOrders = true
  f22 : P.funcs[ρ.f 22]? = some (insF ρ nm)
  f29 : ∀ (args : Array Value) (w : World), (callFunc (ρ.f 29) args).run P w = ((Extern.SlicesOverlaps.overlaps #[(ρ.t 24), (ρ.t 24)] #[(ρ.t 4)] args).run P w).andThen fun v w => .ok (.value v) w
  t0 : P.underlying (ρ.t 0) = some (TypeDesc.tuple #[])
  a0 : ∀ w, (isAgg (ρ.t 0)).run P w = .ok false w
  z0 : ∀ w, (Go.sizeOf (ρ.t 0)).run P w = .ok 1 w
  v0 : ∀ w, (zeroValue (ρ.t 0)).run P w = .ok (Value.tuple #[]) w
  t3 : P.underlying (ρ.t 3) = some (TypeDesc.int IntKind.i64)
  a3 : ∀ w, (isAgg (ρ.t 3)).run P w = .ok false w
  z3 : ∀ w, (Go.sizeOf (ρ.t 3)).run P w = .ok 1 w
  v3 : ∀ w, (zeroValue (ρ.t 3)).run P w = .ok (Value.int IntKind.i64 0) w
  t4 : P.underlying (ρ.t 4) = some (TypeDesc.bool)
  a4 : ∀ w, (isAgg (ρ.t 4)).run P w = .ok false w
  z4 : ∀ w, (Go.sizeOf (ρ.t 4)).run P w = .ok 1 w
  v4 : ∀ w, (zeroValue (ρ.t 4)).run P w = .ok (Value.bool false) w
  z9 : ∀ w, (Go.sizeOf (ρ.t 9)).run P w = .ok k w
  t24 : P.underlying (ρ.t 24) = some (TypeDesc.slice (ρ.t 9))
  a24 : ∀ w, (isAgg (ρ.t 24)).run P w = .ok false w
  z24 : ∀ w, (Go.sizeOf (ρ.t 24)).run P w = .ok 1 w
  v24 : ∀ w, (zeroValue (ρ.t 24)).run P w = .ok (Value.slice none 0 0) w
  i9 : (P.info? (ρ.t 9)).map (fun i => (i.zero, i.size, i.bytes)) = some (some z, k, bs)

/-- 'copy' of n elements of k cells: all is read before anything is written. -/
theorem run_copy_cellsK (w : World) (dT sT ty elem : TypeId) (k b o dLen dCap : Nat) (a : Addr) (sLen sCap n : Nat) (cs : List Value)
    (hu : P.underlying dT = some (.slice elem)) (hs : (P.info? elem).map (·.size) = some k) (hn : n = Nat.min sLen dLen) (hl : cs.length = n * k)
    (hsrc : ∀ j v, cs[j]? = some v → w.cell? (a.add j) = some v) (hc : ∀ j, j < cs.length → (w.cell? ⟨b, o + j, none⟩).isSome = true) (hf : ∀ j, j < cs.length → w.frozen? ⟨b, o + j, none⟩ = false) (h1 : ∀ v ∈ cs, v.oneCell' = true) :
    (Builtin.copy_ #[dT, sT] ty #[.slice (some ⟨b, o, none⟩) dLen dCap, .slice (some a) sLen sCap]).run P w = .ok (goInt n) (w.setCells b o cs) := by
  have hl' := run_loadCells_list (P := P) w a cs hsrc
  have hst := run_storeCells_cells (P := P) b o cs 0 w (by simpa using hc) (by simpa using hf) h1
  rw [hl] at hl'
  cases hq : P.info? elem with
  | none => simp [hq] at hs
  | some i =>
    have hi : i.size = k := by simpa [hq] using hs
    simp [Builtin.copy_, run_underlying hu, Builtin.lenOf, Builtin.firstCells, sizeOf, typeInfo, hq, hi, ← hn, hl', hst]

theorem mulMin {n m i k : Nat} : n * k + m * k = (n + m) * k := (Nat.add_mul n m k).symm

set_option maxHeartbeats 4000000 in
set_option maxRecDepth 100000 in
/-- There is room, i < len(s): in place. -/
theorem ins_shift {nm : String} {k bs : Nat} {z : Value} (hk : 0 < k) (L : InsLay P ρ nm k bs z) (b off n c i vb voff m vc : Nat) (cs vs : List Value) (w : World) (hi : i < n) (hm : 0 < m) (hroom : n + m ≤ c) (h62 : n + m ≤ 140737488355328) (hvb : vb ≠ b)
    (hcl : cs.length = n * k) (hvl : vs.length = m * k)
    (hcs : ∀ j v, cs[j]? = some v → w.cell? ⟨b, off + j, none⟩ = some v) (hsp : ∀ j, j < (n + m) * k → (w.cell? ⟨b, off + j, none⟩).isSome = true) (hfz : ∀ j, j < (n + m) * k → w.frozen? ⟨b, off + j, none⟩ = false)
    (hvs : ∀ j v, vs[j]? = some v → w.cell? ⟨vb, voff + j, none⟩ = some v) (h1c : ∀ v ∈ cs, v.oneCell' = true) (h1v : ∀ v ∈ vs, v.oneCell' = true)
    (tA tB : TypeId) (kA kB : Nat) (hsa : w.shape? vb = some (tA, kA)) (hsb : w.shape? b = some (tB, kB)) (hkB : kB ≠ 0) (hfa : w.frozen? ⟨vb, voff, none⟩ = false) (hfe : w.frozen? ⟨vb, kA, none⟩ = false) :
    Calls P (ρ.f 22) #[.slice (some ⟨b, off, none⟩) n c, .int .i64 i, .slice (some ⟨vb, voff, none⟩) m vc] w fun e w' =>
      e = .returned (.slice (some ⟨b, off, none⟩) (n + m) c) ∧ w' = (w.drew.setCells b (off + (i + m) * k) (cs.drop (i * k))).setCells b (off + i * k) vs := by
  have t0 := L.t0; have a0 := L.a0; have z0 := L.z0; have v0 := L.v0; have t3 := L.t3; have a3 := L.a3; have z3 := L.z3; have v3 := L.v3; have t4 := L.t4; have a4 := L.a4; have z4 := L.z4; have v4 := L.v4; have z9 := L.z9; have t24 := L.t24; have a24 := L.a24; have z24 := L.z24; have v24 := L.v24
  have u0 := run_underlying L.t0; have u3 := run_underlying L.t3; have u4 := run_underlying L.t4; have u24 := run_underlying L.t24
  have hz1 : ¬ ((m : Int) = 0) := by omega
  have hz2 : ¬ ((i : Int) = (n : Int)) := by omega
  have hsz : (P.info? (ρ.t 9)).map (·.size) = some k := by
    obtain ⟨i0, hi0, h0, h1, h2⟩ := info_parts L.i9
    rw [hi0]; simp [h1]
  have hov : ∀ lb cb, (callFunc (ρ.f 29) #[.slice (some ⟨vb, voff, none⟩) m vc, .slice (some ⟨b, off + (i + m) * k, none⟩) lb cb]).run P w = .ok (.value (.bool false)) w := fun lb cb => by
    rw [L.f29, Lib.run_overlaps_apart w (ρ.t 24) (ρ.t 4) (ρ.t 9) L.t24 k L.z9 ⟨vb, voff, none⟩ ⟨b, off + (i + m) * k, none⟩ m vc lb cb hvb tA tB kA kB hsa hsb hkB hfa hfe]
    rfl
  have hdl : (cs.drop (i * k)).length = (n - i) * k := by rw [List.length_drop, hcl, Nat.sub_mul]
  have mixed := L.mixed
  have hw1 : IntKind.i64.wrap ((i : Int) + (m : Int)) = (i : Int) + (m : Int) := by rw [IntKind.wrap_i64]; omega
  have hb1 : (0 : Int) ≤ (i : Int) + (m : Int) := by omega
  have hin : i ≤ n := by omega
  have htn : ((i : Int) + (m : Int)).toNat = i + m := by omega
  have hb2 : ¬ (c = i + m) := by omega
  have hb3 : (i : Int) ≤ (n : Int) + (m : Int) := by omega
  have hb4 : ¬ (c = i) := by omega
  have e1 : (i + m) * k + (n - i) * k = (n + m) * k := by rw [← Nat.add_mul]; congr 1; omega
  have e2 : i * k + m * k ≤ (n + m) * k := by rw [← Nat.add_mul]; exact Nat.mul_le_mul_right _ (by omega)
  have hcp1 : ∀ ty dc sc, (Builtin.copy_ #[(ρ.t 24), (ρ.t 24)] ty #[.slice (some ⟨b, off + (i + m) * k, none⟩) (n + m - (i + m)) dc, .slice (some ⟨b, off + i * k, none⟩) (n + m - i) sc]).run P w.drew = .ok (goInt (n - i : Nat)) (w.drew.setCells b (off + (i + m) * k) (cs.drop (i * k))) := fun ty dc sc =>
    run_copy_cellsK w.drew _ _ ty (ρ.t 9) k b (off + (i + m) * k) (n + m - (i + m)) dc ⟨b, off + i * k, none⟩ (n + m - i) sc (n - i) (cs.drop (i * k)) L.t24 hsz (by simp only [Nat.min_def]; split <;> omega) hdl
      (fun j v hj => by rw [Addr.add_lit, Nat.add_assoc]; exact hcs (i * k + j) v (by rwa [List.getElem?_drop] at hj))
      (fun j hj => by rw [Nat.add_assoc]; exact hsp _ (by omega)) (fun j hj => by rw [Nat.add_assoc]; exact hfz _ (by omega)) (fun v hv => h1c v (List.mem_of_mem_drop hv))
  obtain ⟨W1, hW1⟩ : ∃ W1, W1 = w.drew.setCells b (off + (i + m) * k) (cs.drop (i * k)) := ⟨_, rfl⟩
  have hsp1 : ∀ q, q < (n + m) * k → (W1.cell? ⟨b, off + q, none⟩).isSome = true := fun q hq => by
    rw [hW1]
    exact isSome_setCells b _ _ _ (fun j hj => by rw [Nat.add_assoc]; exact hsp _ (by omega)) _ (hsp q hq)
  have hcp2 : ∀ (W : World), (∀ x, W.cell? x = W1.cell? x) → (∀ x, W.frozen? x = W1.frozen? x) → ∀ ty dc, (Builtin.copy_ #[(ρ.t 24), (ρ.t 24)] ty #[.slice (some ⟨b, off + i * k, none⟩) (n + m - i) dc, .slice (some ⟨vb, voff, none⟩) m vc]).run P W = .ok (goInt m) (W.setCells b (off + i * k) vs) := fun W hWc hWf ty dc =>
    run_copy_cellsK W _ _ ty (ρ.t 9) k b (off + i * k) (n + m - i) dc ⟨vb, voff, none⟩ m vc m vs L.t24 hsz (by simp only [Nat.min_def]; split <;> omega) hvl
      (fun j v hj => by
        rw [Addr.add_lit, hWc, hW1, World.cell?_setCells_out b _ _ _ _ (fun h _ => absurd h hvb)]
        exact hvs j v hj)
      (fun j hj => by rw [hWc, Nat.add_assoc]; exact hsp1 _ (by omega)) (fun j hj => by rw [hWf, hW1, World.frozen?_setCells, Nat.add_assoc]; exact hfz _ (by omega)) h1v
  rw [← hW1] at hcp1
  clear e1 e2
  refine ins_enter L.f22 rfl ?_
  simp only [Body2.n22_ntmps ρ, List.size_toArray, List.length_cons, List.length_nil, Nat.reduceAdd, Nat.reduceSub, Array.replicate_succ,
     Array.replicate_zero, List.push_toArray, List.append_toArray, List.nil_append, List.cons_append]
  go_wp2_with (simp only [hov])
  go_region_law_o (refine step_copy_runI rfl _ _ (ρ.t 24) (ρ.t 24) rfl _ _ (by simp [Act.eval, Act.put]) (by simp [Act.eval, Act.put]) (hcp1 _ _ _) ?_)
  go_wp2_with (at_builtin; refine wpList_copy_runI _ rfl _ _ (ρ.t 24) (ρ.t 24) rfl _ _ rfl rfl (hcp2 _ (fun _ => rfl) (fun _ => rfl) _ _) ?_)
  go_ret
  first | exact ⟨rfl, rfl⟩ | exact ⟨rfl, by rw [hW1]⟩

set_option maxHeartbeats 4000000 in
set_option maxRecDepth 100000 in
/-- At the end, there is room: in place. -/
theorem ins_end_room {nm : String} {k bs : Nat} {z : Value} (hk : 0 < k) (L : InsLay P ρ nm k bs z) (b off n c vb voff m vc : Nat) (vs : List Value) (w : World) (hm : 0 < m) (hroom : n + m ≤ c) (h62 : n + m ≤ 140737488355328)
    (hvl : vs.length = m * k) (hsp : ∀ j, j < m * k → (w.cell? ⟨b, off + n * k + j, none⟩).isSome = true) (hfz : ∀ j, j < m * k → w.frozen? ⟨b, off + n * k + j, none⟩ = false)
    (hvs : ∀ j v, vs[j]? = some v → w.cell? ⟨vb, voff + j, none⟩ = some v) (h1v : ∀ v ∈ vs, v.oneCell' = true) :
    Calls P (ρ.f 22) #[.slice (some ⟨b, off, none⟩) n c, .int .i64 n, .slice (some ⟨vb, voff, none⟩) m vc] w fun e w' =>
      e = .returned (.slice (some ⟨b, off, none⟩) (n + m) c) ∧ w' = w.setCells b (off + n * k) vs := by
  have t0 := L.t0; have a0 := L.a0; have z0 := L.z0; have v0 := L.v0; have t3 := L.t3; have a3 := L.a3; have z3 := L.z3; have v3 := L.v3; have t4 := L.t4; have a4 := L.a4; have z4 := L.z4; have v4 := L.v4; have z9 := L.z9; have t24 := L.t24; have a24 := L.a24; have z24 := L.z24; have v24 := L.v24
  have u0 := run_underlying L.t0; have u3 := run_underlying L.t3; have u4 := run_underlying L.t4; have u24 := run_underlying L.t24
  have mixed := L.mixed
  obtain ⟨i0, hi0, hz0, hzs, hzb⟩ := info_parts L.i9
  have hz1 : ¬ ((m : Int) = 0) := by omega
  have hsrc : Go.Src P i0.size (ρ.t 24) (.slice (some ⟨vb, voff, none⟩) m vc) m vs w := by
    rw [hzs]; exact Go.Src.ofSlice w L.t24 ⟨vb, voff, none⟩ m vc vs hvl (fun j u hj => by rw [Addr.add_lit]; exact hvs j u hj) h1v
  have hrun : ∀ ty, (Builtin.append_ #[(ρ.t 24), (ρ.t 24)] ty #[.slice (some ⟨b, off, none⟩) n c, .slice (some ⟨vb, voff, none⟩) m vc]).run P w = .ok (.slice (some ⟨b, off, none⟩) (n + m) c) (w.setCells b (off + n * k) vs) := fun ty => by
    have h := run_append_room_src (P := P) w (ρ.t 24) (ρ.t 24) ty (ρ.t 9) i0 L.t24 hi0 b off n c _ m vs hsrc hroom (by rw [hvl, hzs]; exact hsp) (by rw [hvl, hzs]; exact hfz)
    rwa [hzs] at h
  refine ins_enter L.f22 rfl ?_
  simp only [Body2.n22_ntmps ρ, List.size_toArray, List.length_cons, List.length_nil, Nat.reduceAdd, Nat.reduceSub, Array.replicate_succ,
     Array.replicate_zero, List.push_toArray, List.append_toArray, List.nil_append, List.cons_append]
  go_wp2_with (at_builtin; refine Lib.wpList_append_run _ rfl _ _ _ _ rfl _ _ rfl rfl _ _ (hrun _) ?_)
  go_ret
  exact ⟨rfl, rfl⟩

set_option maxHeartbeats 4000000 in
set_option maxRecDepth 100000 in
/-- At the end, no room (the nil slice too): a new row. -/
theorem ins_end_grow {nm : String} {k bs : Nat} {z : Value} (hk : 0 < k) (L : InsLay P ρ nm k bs z) (base : Option Addr) (n c vb voff m vc : Nat) (cs vs : List Value) (w : World) (hm : 0 < m) (hnc : n ≤ c) (hroom : c < n + m) (hbig : (n + m) * bs ≤ 140737488355328) (h63 : ((n + m : Nat) : Int) ≤ 9223372036854775807)
    (hcl : cs.length = n * k) (hvl : vs.length = m * k) (hnil : base = none → n = 0)
    (hcs : ∀ a, base = some a → ∀ j v, cs[j]? = some v → w.cell? (a.add j) = some v)
    (hvs : ∀ j v, vs[j]? = some v → w.cell? ⟨vb, voff + j, none⟩ = some v) (h1v : ∀ v ∈ vs, v.oneCell' = true) :
    Calls P (ρ.f 22) #[.slice base n c, .int .i64 n, .slice (some ⟨vb, voff, none⟩) m vc] w fun e w' =>
      e = .returned (.slice (some ⟨w.heap.size, 0, none⟩) (n + m) (grownCap w (n + m) c (ρ.t 9))) ∧
      w' = w.drew.alloc (.cells ((cs ++ vs).toArray ++ Builtin.zeroCells z.cells (grownCap w (n + m) c (ρ.t 9) - (n + m))) (ρ.t 9)) := by
  have t0 := L.t0; have a0 := L.a0; have z0 := L.z0; have v0 := L.v0; have t3 := L.t3; have a3 := L.a3; have z3 := L.z3; have v3 := L.v3; have t4 := L.t4; have a4 := L.a4; have z4 := L.z4; have v4 := L.v4; have z9 := L.z9; have t24 := L.t24; have a24 := L.a24; have z24 := L.z24; have v24 := L.v24
  have u0 := run_underlying L.t0; have u3 := run_underlying L.t3; have u4 := run_underlying L.t4; have u24 := run_underlying L.t24
  have mixed := L.mixed
  obtain ⟨i0, hi0, hz0, hzs, hzb⟩ := info_parts L.i9
  have hz1 : ¬ ((m : Int) = 0) := by omega
  have hsrc : Go.Src P i0.size (ρ.t 24) (.slice (some ⟨vb, voff, none⟩) m vc) m vs w := by
    rw [hzs]
    exact Go.Src.ofSlice w L.t24 ⟨vb, voff, none⟩ m vc vs hvl (fun j u hj => by rw [Addr.add_lit]; exact hvs j u hj) h1v
  have hold : (Builtin.firstCells i0.size n (.slice base n c)).run P w.drew = .ok cs.toArray w.drew := by
    rw [hzs]
    cases base with
    | none =>
      have h0 := hnil rfl
      subst h0
      rw [List.length_eq_zero_iff.1 (show cs.length = 0 by rw [hcl, Nat.zero_mul])]
      exact run_firstCells_none w.drew k 0 0 c
    | some a => exact run_firstCells_some w.drew k n a n c cs hcl (fun j v hj => hcs a rfl j v hj)
  have hrun : ∀ ty, (Builtin.append_ #[(ρ.t 24), (ρ.t 24)] ty #[.slice base n c, .slice (some ⟨vb, voff, none⟩) m vc]).run P w = _ := fun ty =>
    run_append_grow_src w (ρ.t 24) (ρ.t 24) ty (ρ.t 9) i0 _ L.t24 hi0 hz0 base n c cs hold _ m vs hsrc hroom h63 (by rw [hzb]; exact growslice_fits hroom hbig)
  clear hold
  generalize z.cells = ZC at hrun ⊢
  refine ins_enter L.f22 rfl ?_
  simp only [Body2.n22_ntmps ρ, List.size_toArray, List.length_cons, List.length_nil, Nat.reduceAdd, Nat.reduceSub, Array.replicate_succ,
     Array.replicate_zero, List.push_toArray, List.append_toArray, List.nil_append, List.cons_append]
  cases base with
  | none =>
    have h0 := hnil rfl
    subst h0
    go_wp2_with (at_builtin; refine Lib.wpList_append_run _ rfl _ _ _ _ rfl _ _ rfl rfl _ _ (hrun _) ?_)
    go_ret
    exact ⟨rfl, rfl⟩
  | some a =>
    obtain ⟨ab, ao, asp⟩ := a
    go_wp2_with (at_builtin; refine Lib.wpList_append_run _ rfl _ _ _ _ rfl _ _ rfl rfl _ _ (hrun _) ?_)
    all_goals (go_ret; exact ⟨rfl, rfl⟩)

theorem zeroCells_size (zs : Array Value) (n : Nat) : (Builtin.zeroCells zs n).size = n * zs.size := by
  simp [Builtin.zeroCells]

set_option maxHeartbeats 4000000 in
set_option maxRecDepth 100000 in
/-- i < len(s), no room: a new row. -/
theorem ins_grow {nm : String} {k bs : Nat} {z : Value} (hk : 0 < k) (L : InsLay P ρ nm k bs z) (hzc : z.cells.size = k) (b off n c i vb voff m vc : Nat) (cs vs : List Value) (w : World) (hi : i < n) (hm : 0 < m) (hnc : n ≤ c) (hroom : c < n + m) (hbig : (n + m) * bs ≤ 140737488355328) (h62 : n + m ≤ 140737488355328)
    (hcl : cs.length = n * k) (hvl : vs.length = m * k)
    (hcs : ∀ j v, cs[j]? = some v → w.cell? ⟨b, off + j, none⟩ = some v)
    (hvs : ∀ j v, vs[j]? = some v → w.cell? ⟨vb, voff + j, none⟩ = some v) (h1c : ∀ v ∈ cs, v.oneCell' = true) (h1v : ∀ v ∈ vs, v.oneCell' = true) :
    Calls P (ρ.f 22) #[.slice (some ⟨b, off, none⟩) n c, .int .i64 i, .slice (some ⟨vb, voff, none⟩) m vc] w fun e w' =>
      e = .returned (.slice (some ⟨w.heap.size, 0, none⟩) (n + m) (grownCap w (n + m) c (ρ.t 9))) ∧
      w' = (((w.alloc (.cells ((cs.take (i * k)).toArray ++ Builtin.zeroCells z.cells (n + m - i) ++ Builtin.zeroCells z.cells (grownCap w (n + m) c (ρ.t 9) - (n + m))) (ρ.t 9))).drew.setCells w.heap.size (i * k) vs).drew).setCells w.heap.size ((i + m) * k) (cs.drop (i * k)) := by
  have t0 := L.t0; have a0 := L.a0; have z0 := L.z0; have v0 := L.v0; have t3 := L.t3; have a3 := L.a3; have z3 := L.z3; have v3 := L.v3; have t4 := L.t4; have a4 := L.a4; have z4 := L.z4; have v4 := L.v4; have z9 := L.z9; have t24 := L.t24; have a24 := L.a24; have z24 := L.z24; have v24 := L.v24
  have u0 := run_underlying L.t0; have u3 := run_underlying L.t3; have u4 := run_underlying L.t4; have u24 := run_underlying L.t24
  have mixed := L.mixed
  obtain ⟨i0, hi0, hz0, hzs, hzb⟩ := info_parts L.i9
  have hz1 : ¬ ((m : Int) = 0) := by omega
  have hz2 : ¬ ((i : Int) = (n : Int)) := by omega
  have hz3 : (c : Int) < (n : Int) + (m : Int) := by omega
  have hsz : (P.info? (ρ.t 9)).map (·.size) = some k := by rw [hi0]; simp [hzs]
  have hnk : 0 < n * k := Nat.mul_pos (by omega) hk
  have hmk : 0 < m * k := Nat.mul_pos hm hk
  have hbw : b < w.heap.size := block_lt_of_cell (hcs 0 _ (List.getElem?_eq_getElem (by omega)))
  have hvw : vb < w.heap.size := block_lt_of_cell (hvs 0 _ (List.getElem?_eq_getElem (by omega)))
  have hkk : (n : Int) + (m : Int) - (i : Int) = ((n + m - i : Nat) : Int) := by omega
  have hik : i + (n + m - i) = n + m := by omega
  have hile : i * k ≤ n * k := Nat.mul_le_mul_right _ (by omega)
  have hold : (Builtin.firstCells i0.size i (.slice (some ⟨b, off, none⟩) i c)).run P w.drew = .ok (cs.take (i * k)).toArray w.drew := by
    rw [hzs]
    exact run_firstCells_some w.drew k i ⟨b, off, none⟩ i c (cs.take (i * k)) (by rw [List.length_take]; omega) (fun j v hj => by
      rw [Addr.add_lit]
      rw [List.getElem?_take] at hj
      split at hj
      · exact hcs j v hj
      · cases hj)
  have hrz : ∀ ty, (Builtin.append_ #[(ρ.t 24), (ρ.t 3)] ty #[.slice (some ⟨b, off, none⟩) i c, .int .i64 ((n : Int) + (m : Int) - (i : Int))]).run P w =
      .ok (.slice (some ⟨w.heap.size, 0, none⟩) (n + m) (grownCap w (n + m) c (ρ.t 9))) (w.drew.alloc (.cells ((cs.take (i * k)).toArray ++ Builtin.zeroCells z.cells (n + m - i) ++ Builtin.zeroCells z.cells (grownCap w (n + m) c (ρ.t 9) - (n + m))) (ρ.t 9))) := fun ty => by
    have hle : (n + m - i) * i0.bytes ≤ (n + m) * bs := by rw [hzb]; exact Nat.mul_le_mul_right _ (by omega)
    have h := Lib.run_append_grow_zeros w (ρ.t 24) (ρ.t 3) ty (ρ.t 9) i0 _ .i64 .i64 L.t24 L.t3 hi0 hz0 (some ⟨b, off, none⟩) i c (cs.take (i * k)) hold (n + m - i) (by omega) (by omega) (by omega) (by omega) (by omega) (by rw [hzb, hik]; exact growslice_fits hroom hbig)
    rw [hik] at h
    rw [hkk]
    exact h
  obtain ⟨G, hG⟩ : ∃ G, G = grownCap w (n + m) c (ρ.t 9) := ⟨_, rfl⟩
  obtain ⟨ROW, hROW⟩ : ∃ ROW : Array Value, ROW = (cs.take (i * k)).toArray ++ Builtin.zeroCells z.cells (n + m - i) ++ Builtin.zeroCells z.cells (G - (n + m)) := ⟨_, rfl⟩
  rw [← hG] at hrz ⊢
  rw [← hROW] at hrz ⊢
  have e0 : i * k + (n + m - i) * k = (n + m) * k := by rw [← Nat.add_mul, hik]
  have hRl : (n + m) * k ≤ ROW.size := by
    rw [hROW]
    simp only [Array.size_append, List.size_toArray, List.length_take, zeroCells_size, hzc]
    omega
  obtain ⟨W1, hW1⟩ : ∃ W1, W1 = w.drew.alloc (.cells ROW (ρ.t 9)) := ⟨_, rfl⟩
  rw [← hW1] at hrz
  have hN : ∀ j, j < (n + m) * k → (W1.cell? ⟨w.heap.size, j, none⟩).isSome = true := fun j hj => by
    rw [hW1, World.cell?_alloc_at (w := w.drew) ROW _ w.heap.size j rfl, Array.getElem?_eq_getElem (by omega)]; rfl
  have hNf : ∀ j, W1.frozen? ⟨w.heap.size, j, none⟩ = false := fun j => by rw [hW1]; exact World.frozen?_alloc_at (w := w.drew) ROW _ w.heap.size j rfl
  have hOb : ∀ j v, w.cell? ⟨b, j, none⟩ = some v → W1.cell? ⟨b, j, none⟩ = some v := fun j v h => by rw [hW1, World.cell?_alloc_past (w := w.drew) _ b j hbw]; exact h
  have hOv : ∀ j v, w.cell? ⟨vb, j, none⟩ = some v → W1.cell? ⟨vb, j, none⟩ = some v := fun j v h => by rw [hW1, World.cell?_alloc_past (w := w.drew) _ vb j hvw]; exact h
  have e2 : i * k + m * k ≤ (n + m) * k := by rw [← Nat.add_mul]; exact Nat.mul_le_mul_right _ (by omega)
  have e3 : (i + m) * k + (n - i) * k = (n + m) * k := by rw [← Nat.add_mul]; congr 1; omega
  have hcpA : ∀ (W : World), (∀ x, W.cell? x = W1.cell? x) → (∀ x, W.frozen? x = W1.frozen? x) → ∀ ty dc, (Builtin.copy_ #[(ρ.t 24), (ρ.t 24)] ty #[.slice (some ⟨w.heap.size, i * k, none⟩) (n + m - i) dc, .slice (some ⟨vb, voff, none⟩) m vc]).run P W = .ok (goInt m) (W.setCells w.heap.size (i * k) vs) := fun W hWc hWf ty dc =>
    run_copy_cellsK W _ _ ty (ρ.t 9) k w.heap.size (i * k) (n + m - i) dc ⟨vb, voff, none⟩ m vc m vs L.t24 hsz (by simp only [Nat.min_def]; split <;> omega) hvl
      (fun j v hj => by rw [Addr.add_lit, hWc]; exact hOv _ v (hvs j v hj))
      (fun j hj => by rw [hWc]; exact hN _ (by omega)) (fun j hj => by rw [hWf]; exact hNf _) h1v
  have hGn : n + m ≤ G := by rw [hG]; exact grownCap_ge w _ _ _
  have hG63 : G ≤ 9223372036854775807 := by
    have := grownCap_le_maxLen w (n + m) c (ρ.t 9) (by unfold maxLen; omega)
    rw [← hG] at this
    unfold maxLen at this
    omega
  have hGi : ¬ (G = i) := by omega
  have hGim : ¬ (G = i + m) := by omega
  have hci : ¬ (c = i) := by omega
  have hbN : b ≠ w.heap.size := by omega
  have hdl : (cs.drop (i * k)).length = (n - i) * k := by rw [List.length_drop, hcl, Nat.sub_mul]
  have hcpB : ∀ (W : World), (∀ x, W.cell? x = (W1.setCells w.heap.size (i * k) vs).cell? x) → (∀ x, W.frozen? x = (W1.setCells w.heap.size (i * k) vs).frozen? x) → ∀ ty dc sc, (Builtin.copy_ #[(ρ.t 24), (ρ.t 24)] ty #[.slice (some ⟨w.heap.size, (i + m) * k, none⟩) (n + m - (i + m)) dc, .slice (some ⟨b, off + i * k, none⟩) (n - i) sc]).run P W = .ok (goInt (n - i : Nat)) (W.setCells w.heap.size ((i + m) * k) (cs.drop (i * k))) := fun W hWc hWf ty dc sc =>
    run_copy_cellsK W _ _ ty (ρ.t 9) k w.heap.size ((i + m) * k) (n + m - (i + m)) dc ⟨b, off + i * k, none⟩ (n - i) sc (n - i) (cs.drop (i * k)) L.t24 hsz (by simp only [Nat.min_def]; split <;> omega) hdl
      (fun j v hj => by
        rw [Addr.add_lit, hWc, World.cell?_setCells_out _ _ _ _ _ (fun h _ => absurd h hbN), Nat.add_assoc]
        exact hOb _ v (hcs (i * k + j) v (by rwa [List.getElem?_drop] at hj)))
      (fun j hj => by rw [hWc]; exact isSome_setCells _ _ _ _ (fun t ht => hN _ (by omega)) _ (hN _ (by omega)))
      (fun j hj => by rw [hWf, World.frozen?_setCells]; exact hNf _) (fun v hv => h1c v (List.mem_of_mem_drop hv))
  subst hW1
  have hE1 : ∀ x, ((w.alloc (.cells ROW (ρ.t 9))).drew).cell? x = (w.drew.alloc (.cells ROW (ρ.t 9))).cell? x := fun x => rfl
  have hE2 : ∀ x, ((w.alloc (.cells ROW (ρ.t 9))).drew).frozen? x = (w.drew.alloc (.cells ROW (ρ.t 9))).frozen? x := fun x => rfl
  have hF1 : ∀ x, (((w.alloc (.cells ROW (ρ.t 9))).drew.setCells w.heap.size (i * k) vs).drew).cell? x = ((w.drew.alloc (.cells ROW (ρ.t 9))).setCells w.heap.size (i * k) vs).cell? x := fun x => rfl
  have hF2 : ∀ x, (((w.alloc (.cells ROW (ρ.t 9))).drew.setCells w.heap.size (i * k) vs).drew).frozen? x = ((w.drew.alloc (.cells ROW (ρ.t 9))).setCells w.heap.size (i * k) vs).frozen? x := fun x => rfl
  have hw1 : IntKind.i64.wrap ((i : Int) + (m : Int)) = (i : Int) + (m : Int) := by rw [IntKind.wrap_i64]; omega
  have hb1 : (0 : Int) ≤ (i : Int) + (m : Int) := by omega
  have hin : i ≤ n := by omega
  have htn : ((i : Int) + (m : Int)).toNat = i + m := by omega
  have hb3 : (i : Int) ≤ (n : Int) := by omega
  clear hkk hik hold hROW hG hRl e0 e2 e3 hnk hmk hile
  refine ins_enter L.f22 rfl ?_
  simp only [Body2.n22_ntmps ρ, List.size_toArray, List.length_cons, List.length_nil, Nat.reduceAdd, Nat.reduceSub, Array.replicate_succ,
     Array.replicate_zero, List.push_toArray, List.append_toArray, List.nil_append, List.cons_append]
  go_wp2_with (first
    | (at_builtin; refine Lib.wpList_append_run _ rfl _ _ _ _ rfl _ _ rfl rfl _ _ (hrz _) ?_)
    | (at_builtin; refine wpList_copy_runI _ rfl _ _ (ρ.t 24) (ρ.t 24) rfl _ _ rfl rfl (hcpA _ hE1 hE2 _ _) ?_)
    | (at_builtin; refine wpList_copy_runI _ rfl _ _ (ρ.t 24) (ρ.t 24) rfl _ _ rfl rfl (hcpB _ (fun _ => rfl) (fun _ => rfl) _ _ _) ?_))
  go_region_law_o (refine step_copy_runI rfl _ _ (ρ.t 24) (ρ.t 24) rfl (.slice (some ⟨w.heap.size, (i + m) * k, none⟩) (n + m - (i + m)) (G - (i + m))) (.slice (some ⟨b, off + i * k, none⟩) (n - i) (c - i)) (by simp [Act.eval, Act.put]) (by simp [Act.eval, Act.put]) (hcpB _ hF1 hF2 (ρ.t 3) (G - (i + m)) (c - i)) ?_)
  go_wp2
  go_ret
  exact ⟨rfl, rfl⟩

end Go.Am

namespace Go.Am
set_option linter.unusedSimpArgs false
set_option linter.unusedVariables false
open Go Go.RowKit Go.Shelf Go.Proofs
variable {P : Program} {ρ : Ren}

theorem Sim.make {B : Nat} {w0 : W0} {w w' : World} {κ : Kap} {h : Hp} (s : Sim B w0 κ h w) (hb : Below B w w') (hsz : w'.heap.size = w.heap.size + 1) (hold : ∀ b, b < w.heap.size → w'.heap[b]? = w.heap[b]?)
    (esz cap : Nat) (ob : AObj) (ho : ObjSim κ ob esz ⟨w.heap.size, 0, cap⟩ w'.heap[w.heap.size]?) :
    Sim B w0 (κ.set h.next ⟨w.heap.size, 0, cap⟩) ⟨E1.updP (some ⟨true, esz, ob⟩) (npos h.next) h.objs, h.next + 1⟩ w' := by
  have hle : κ.le (κ.set h.next ⟨w.heap.size, 0, cap⟩) := Kap.le_set s.none_next
  have lt : ∀ p e ki, h.objs.getP (npos p) = some e → κ p = some ki → ki.blk < w.heap.size := fun p e ki hp hk => by
    obtain ⟨ki', h1, _, _, h4⟩ := s.obj p e hp
    rw [hk] at h1; cases h1
    have := h4.isSome
    obtain ⟨y, hy⟩ := Option.isSome_iff_exists.1 this
    exact (Array.getElem?_eq_some_iff.1 hy).1
  refine ⟨s.below.trans hb, by have := s.size; omega, ?_, ?_, ?_, fun b ob hb => ⟨(s.ghost b ob hb).1, by rw [hold b (s.gh_lt hb)]; exact (s.ghost b ob hb).2⟩, fun p e k hp hkp ho => ?g⟩
  case g =>
    by_cases hpn : p = h.next
    · subst hpn
      rw [Kap.set_self] at hkp; cases hkp
      exact s.gh_size
    · rw [Kap.set_ne _ _ hpn] at hkp
      rw [E1.getP_upd_ne _ _ _ _ (fun e => hpn (npos_inj e).symm)] at hp
      exact s.gap p e k hp hkp ho
  · intro p e hp
    by_cases hpn : p = h.next
    · subst hpn
      simp only [E1.getP_upd_self, Option.some.injEq] at hp
      subst hp
      exact ⟨_, Kap.set_self _ _ _, fun _ => s.size, fun h => by simp at h, ho.mono hle⟩
    · rw [E1.getP_upd_ne _ _ _ _ (fun e => hpn (npos_inj e).symm)] at hp
      obtain ⟨ki, h1, h2, h3, h4⟩ := s.obj p e hp
      refine ⟨ki, hle _ _ h1, h2, h3, ?_⟩
      rw [hold _ (lt p e ki hp h1)]
      exact h4.mono hle
  · intro p q e e' ki ki' hp hq hk hk' ho1 ho2 hne
    by_cases hpn : p = h.next
    · subst hpn
      have hqn : q ≠ h.next := fun e => hne e.symm
      rw [Kap.set_self] at hk; cases hk
      rw [Kap.set_ne _ _ hqn] at hk'
      rw [E1.getP_upd_ne _ _ _ _ (fun e => hqn (npos_inj e).symm)] at hq
      have := lt q e' ki' hq hk'
      simp; omega
    · rw [Kap.set_ne _ _ hpn] at hk
      rw [E1.getP_upd_ne _ _ _ _ (fun e => hpn (npos_inj e).symm)] at hp
      by_cases hqn : q = h.next
      · subst hqn
        rw [Kap.set_self] at hk'; cases hk'
        have := lt p e ki hp hk
        simp; omega
      · rw [Kap.set_ne _ _ hqn] at hk'
        rw [E1.getP_upd_ne _ _ _ _ (fun e => hqn (npos_inj e).symm)] at hq
        exact s.apart p q e e' ki ki' hp hq hk hk' ho1 ho2 hne
  · intro p ki hk
    by_cases hpn : p = h.next
    · subst hpn; simp
    · rw [Kap.set_ne _ _ hpn] at hk
      have := s.fresh p ki hk
      simp; omega

theorem gams_take {κ : Kap} : ∀ (l : List AV) (x : List Value) (a : Nat), gams κ l = some x → gams κ (l.take a) = some (x.take a)
  | [], x, a, h => by simp [gams] at h; subst h; simp [gams]
  | v :: l, x, 0, h => by simp [gams]
  | v :: l, x, a + 1, h => by
    simp only [gams, Option.bind_eq_some_iff, Option.map_eq_some_iff] at h
    obtain ⟨y, h1, ys, h2, rfl⟩ := h
    simp [gams, h1, gams_take l ys a h2]
theorem gams_drop {κ : Kap} : ∀ (l : List AV) (x : List Value) (a : Nat), gams κ l = some x → gams κ (l.drop a) = some (x.drop a)
  | [], x, a, h => by simp [gams] at h; subst h; simp [gams]
  | v :: l, x, 0, h => by simpa using h
  | v :: l, x, a + 1, h => by
    simp only [gams, Option.bind_eq_some_iff, Option.map_eq_some_iff] at h
    obtain ⟨y, h1, ys, h2, rfl⟩ := h
    simpa using gams_drop l ys a h2
theorem ins_get {α : Type} (l m : List α) (a j : Nat) (ha : a ≤ l.length) : (l.take a ++ (m ++ l.drop a))[j]? = if j < a then l[j]? else if j < a + m.length then m[j - a]? else l[j - m.length]? := by
  have h1 : (l.take a).length = a := by simp; omega
  rw [List.getElem?_append, h1]
  by_cases hj : j < a
  · rw [if_pos hj, if_pos hj, List.getElem?_take, if_pos hj]
  · rw [if_neg hj, if_neg hj, List.getElem?_append]
    by_cases hj2 : j < a + m.length
    · rw [if_pos (by omega), if_pos hj2]
    · rw [if_neg (by omega), if_neg hj2, List.getElem?_drop]
      congr 1; omega

/-- The row that holds what a list says. -/
theorem rowSim_of {κ : Kap} {ob : AObj} {l : List AV} {L : List Value} (hro : rowLike ob) (hsz : sizeOfObj ob = l.length) (hc : ∀ j, cellAt ob j = l[j]?) (hg : gams κ l = some L) (h1 : L.all Value.oneCell' = true)
    {esz : Nat} {ki : Ki} {o : Option Obj} {c : Array Value} {t : TypeId} {fr : Nat × Nat} (ho : o = some (.cells c t fr)) (hcap : ki.base + ki.cap * esz ≤ c.size) (hfr : fr.1 = fr.2) (hcell : ∀ j y, L[j]? = some y → c[ki.base + j]? = some y) :
    ObjSim κ ob esz ki o := by
  rw [objSim_row hro]
  refine ⟨c, t, fr, ho, hcap, .inl hfr, fun j hj => ⟨_, (hc j).trans (List.getElem?_eq_getElem (hsz ▸ hj))⟩, fun j v hv => ?_⟩
  rw [hc] at hv
  obtain ⟨V, g1, g2⟩ := gams_get _ _ _ _ hg hv
  exact ⟨V, g1, (List.all_eq_true.1 h1) V (List.mem_of_getElem? g2), hcell j V g2⟩

theorem asInt_nat {i : AV} {K : Nat → Prop} (h : asInt i fun kd i => gd (kindEq kd .i64) (natOf i K)) : ∃ n : Nat, i = .int .i64 (Int.ofNat n) ∧ K n := by
  obtain ⟨k, a, rfl, h⟩ := asInt_iff.1 h
  obtain ⟨hk, h⟩ := gd_iff.1 h
  cases a with
  | ofNat n => exact ⟨n, by rw [kindEq_iff.1 hk], h⟩
  | negSucc n => exact h.elim

/-- No packed bytes. -/
noncomputable def notBy (ob : AObj) : Bool := AObj.rec (motive := fun _ => Bool) (fun _ => true) (fun _ _ _ => true) (fun _ _ => false) (fun _ _ => true) (fun _ _ _ => true) (fun _ _ _ _ => true) ob
theorem notBy_iff {ob : AObj} (h : notBy ob = true) : ¬ isBy ob := by cases ob <;> first | exact fun x => x | (cases h)
/-- slices.Insert at elements of k cells and bs bytes (of no bytes). -/
noncomputable def insH (k bs : Nat) : ConD := fun l h K => match l with
  | [s, i, v] => asInt i fun kd i => gd (kindEq kd .i64) (natOf i fun i => asSl v False fun vo voff m _ _ => gd (Nat.blt 0 m) (objAt h vo fun ev => gd (Nat.beq ev.esz k) (cellsK ev.obj (m * k) voff fun new => asSl s
      (gd (Nat.beq i 0 && (Nat.ble (m * bs) 140737488355328 && Nat.ble m 140737488355328)) (rowK false new fun ob => finK k m h ob K))
      fun o off n kn c => gd ((!kn) && (((Nat.ble i n && notBy ev.obj) && (Nat.blt 0 n && !(Nat.beq vo o))) && (Nat.ble ((n + m) * bs) 140737488355328 && Nat.ble (n + m) 140737488355328))) (objAt h o fun e => gd (notBy e.obj && (e.own && (Nat.beq e.esz k && Nat.ble off (c * k))))
        (cellsK e.obj (n * k) off fun old => putK h o none fun h => forceN (n + m) fun N => rowK false (old.take (i * k) ++ (new ++ old.drop (i * k))) fun ob => finK k N h ob K)))))
  | _ => False

set_option maxHeartbeats 2000000 in
theorem ins_ok {nm : String} {k bs : Nat} {z : Value} (hnm : nm ≠ "runtime.NumGoroutine") (L : InsLay P ρ nm k bs z) (hzc : z.cells.size = k) (hk : 0 < k ∧ k < 4294967296) (B : Nat) (w0 : W0) : ConOne P B w0 (ρ.f 22) (insH k bs) := by
  obtain ⟨hk, hk32⟩ := hk
  intro avs h K hD
  match avs, hD with
  | [s, i, v], hD =>
    refine ⟨⟨_, L.f22, hnm, rfl⟩, fun κ w args sm hargs R hR => ?_⟩
    obtain ⟨i, rfl, hD⟩ := asInt_nat hD
    rcases asSl_iff.1 hD with ⟨_, hD⟩ | ⟨vo, voff, m, vkn, vc, rfl, hD⟩
    · exact hD.elim
    obtain ⟨hm, hD⟩ := gd_iff.1 hD
    have hm' : 0 < m := by simpa using hm
    obtain ⟨ev, hev, hD⟩ := objAt_iff.1 hD
    obtain ⟨hez, hD⟩ := gd_iff.1 hD
    have hez' : ev.esz = k := by simpa using hez
    obtain ⟨new, hD, hnl, hnew⟩ := cellsK_iff _ _ _ _ hD
    -- the arguments
    simp only [gams, Option.bind_eq_some_iff, Option.map_eq_some_iff, gam, Option.some.injEq] at hargs
    obtain ⟨S, hS, _, ⟨I, rfl, _, ⟨V, hV, _, rfl, rfl⟩, rfl⟩, rfl⟩ := hargs
    have hV' : gam κ (.slice vo voff m vkn vc) = some V := by simpa [gam, Option.bind_eq_some_iff] using hV
    obtain ⟨kv, vcap, hkv, rfl, hmv⟩ := gamk _ _ _ _ _ _ _ hV'
    obtain ⟨NEW, f1, f2, f3⟩ := sm.cells hev hkv new voff (fun j hj => hnew j (by omega))
    have hNl : NEW.length = m * k := by rw [gams_length _ _ f1, hnl]
    have f2' := List.all_eq_true.1 f2
    have hmk : 0 < m * k := Nat.mul_pos hm' (by omega)
    have hrv : rowLike ev.obj := by obtain ⟨u, _, hu⟩ := hnew 0 hmk; exact cellAt_row hu
    obtain ⟨kv', q1, cv, tv, frv, q2, q3, q4, q5, q6⟩ := sm.row hev hrv
    rw [hkv] at q1; cases q1
    have hfrv : notBy ev.obj = true → frv.1 = frv.2 := fun hk1 => by
      rcases q4 with h | ⟨_, _, h⟩ | ⟨_, h, _⟩
      · exact h
      · exact absurd h (notBy_iff hk1)
      · omega
    have hfz0 : notBy ev.obj = true → ∀ x, w.frozen? ⟨kv.blk, x, none⟩ = false := fun hk1 x => by
      have hfrv := hfrv hk1
      simp only [World.frozen?, q2, Bool.and_eq_false_iff, decide_eq_false_iff_not]
      omega
    have hvs : ∀ j y, NEW[j]? = some y → w.cell? ⟨kv.blk, kv.base + voff + j, none⟩ = some y := fun j y hy => by
      have := f3 j y hy
      simpa [Ki.at, Nat.add_assoc] using this
    have hsV : w.shape? kv.blk = some (tv, cv.size) := by simp [World.shape?, q2]
    have hvat : kv.at voff = ⟨kv.blk, kv.base + voff, none⟩ := rfl
    rcases asSl_iff.1 hD with ⟨rfl, hE⟩ | ⟨o, off, n, kn, c, rfl, hE⟩
    · -- onto nil
      obtain ⟨hb, hE1⟩ := gd_iff.1 hE
      clear hD hE
      simp only [Bool.and_eq_true, Nat.beq_eq, Nat.ble_eq] at hb
      obtain ⟨rfl, hb1, hb2⟩ := hb
      obtain ⟨ob, hE2, r1, r2, r3⟩ := rowK_iff hE1
      have hE3 := fin_iff hE2
      clear hE1 hE2
      simp only [gam, Option.some.injEq] at hS
      subst hS
      have hw := ins_end_grow (by omega) L none 0 0 kv.blk (kv.base + voff) m vcap [] NEW w hm' (Nat.le_refl _) (by omega) (by simpa using hb1) (by omega) (by simp) hNl (fun _ => rfl) (fun a ha => by cases ha) hvs f2'
      have hn := grow_new sm (e := ρ.t 9) (len := 0) (l := []) (m := m) (g := grownCap w (0 + m) 0 (ρ.t 9)) (esz := k) (NEW := NEW) (OLD := []) (REST := Builtin.zeroCells z.cells (grownCap w (0 + m) 0 (ρ.t 9) - (0 + m))) r1 (by simp) hnl (by simpa using r2) (by simpa using r3) rfl rfl f1 f2 (grownCap_ge w _ _ _) (by rw [zeroCells_size, hzc])
      refine Calls.mono hw fun e w' he => ?_
      obtain ⟨rfl, rfl⟩ := he
      rw [Nat.zero_add] at hn ⊢
      refine hR _ _ _ _ _ (Kap.le_set sm.none_next) ?_ hn.2 hE3
      have := hn.1
      simpa using this
    · -- onto a slice
      obtain ⟨hb, hE1⟩ := gd_iff.1 hE
      clear hD hE
      simp only [Bool.and_eq_true, Bool.or_eq_true, Nat.beq_eq, Nat.ble_eq, Bool.not_eq_true', Nat.blt_eq] at hb
      obtain ⟨hkn, ⟨⟨hin, hkin⟩, hn0, hvo⟩, hb1, hb2⟩ := hb
      have hvo : vo ≠ o := by intro e; subst e; simp at hvo
      have hkn' : kn = false := by simpa using hkn
      subst hkn'
      obtain ⟨e, he, hE2⟩ := objAt_iff.1 hE1
      obtain ⟨hb, hE3⟩ := gd_iff.1 hE2
      clear hE1 hE2
      simp only [Bool.and_eq_true, Nat.beq_eq, Nat.ble_eq] at hb
      obtain ⟨hnb, hown, hesz, hoff⟩ := hb
      obtain ⟨old, hE4, hol, hold⟩ := cellsK_iff _ _ _ _ hE3
      rw [putK_eq, forceN_eq] at hE4
      obtain ⟨ob, hE5, r1, r2, r3⟩ := rowK_iff hE4
      have hE6 := fin_iff hE5
      clear hE3 hE4 hE5
      simp only [gam, Option.bind_eq_some_iff] at hS
      obtain ⟨ks, hks, hS⟩ := hS
      simp only [Bool.false_eq_true, if_false] at hS
      split at hS
      case isFalse => cases hS
      rename_i hcap
      simp only [Option.some.injEq] at hS
      subst hS
      obtain ⟨ks', p1, p2, _, p4⟩ := sm.obj o e he
      rw [hks] at p1; cases p1
      have hB := p2 hown
      have hro : rowLike e.obj := by
        obtain ⟨u, _, hu⟩ := hold 0 (Nat.mul_pos hn0 (by omega))
        exact cellAt_row hu
      obtain ⟨ks', p1, cA, tA, fA, t2, t3, t4, t5, t6⟩ := sm.row he hro
      rw [hks] at p1; cases p1
      rw [hesz] at t3 t4
      replace t4 : fA.1 = fA.2 := by
        rcases t4 with h | ⟨_, _, h⟩ | ⟨_, h, _⟩
        · exact h
        · exact absurd h (notBy_iff hnb)
        · omega
      obtain ⟨OLD, g1, g2, g3⟩ := sm.cells he hks old off (fun j hj => hold j (by omega))
      have hOl : OLD.length = n * k := by rw [gams_length _ _ g1, hol]
      have g2' := List.all_eq_true.1 g2
      have hcs : ∀ j y, OLD[j]? = some y → w.cell? ⟨ks.blk, ks.base + off + j, none⟩ = some y := fun j y hy => by
        have := g3 j y hy
        simpa [Ki.at, Nat.add_assoc] using this
      have hcsA : ∀ j y, OLD[j]? = some y → cA[ks.base + off + j]? = some y := fun j y hy => by
        have := hcs j y hy
        simpa [World.cell?, t2] using this
      have hvb : kv.blk ≠ ks.blk := by
        by_cases ho : ev.own = true
        · exact sm.apart vo o ev e kv ks hev he hkv hks ho hown hvo
        · obtain ⟨kv', u1, _, u3, _⟩ := sm.obj vo ev hev
          rw [hkv] at u1; cases u1
          have := (u3 (by simpa using ho)).1
          omega
      -- the new row's cells
      have hik : i * k ≤ n * k := Nat.mul_le_mul_right _ hin
      have hFg : gams κ (old.take (i * k) ++ (new ++ old.drop (i * k))) = some (OLD.take (i * k) ++ (NEW ++ OLD.drop (i * k))) :=
        gams_append _ _ _ _ (gams_take _ _ _ g1) (gams_append _ _ _ _ f1 (gams_drop _ _ _ g1))
      have hF1 : (OLD.take (i * k) ++ (NEW ++ OLD.drop (i * k))).all Value.oneCell' = true := by
        rw [List.all_eq_true]
        intro y hy
        simp only [List.mem_append] at hy
        rcases hy with h | h | h
        · exact g2' y (List.mem_of_mem_take h)
        · exact f2' y h
        · exact g2' y (List.mem_of_mem_drop h)
      have hFget : ∀ j, (OLD.take (i * k) ++ (NEW ++ OLD.drop (i * k)))[j]? = if j < i * k then OLD[j]? else if j < i * k + m * k then NEW[j - i * k]? else OLD[j - m * k]? := fun j => by
        rw [ins_get _ _ _ _ (by omega), hNl]
      have hsum : i * k + m * k = (i + m) * k := by rw [Nat.add_mul]
      have hnm : n * k + m * k = (n + m) * k := by rw [Nat.add_mul]
      have hC : off + (ks.cap - c) * k ≤ ks.cap * k := by
        have e2 : (ks.cap - c) * k + c * k = ks.cap * k := by rw [← Nat.add_mul]; congr 1; omega
        omega
      have hat : ks.at off = ⟨ks.blk, ks.base + off, none⟩ := rfl
      rw [hat, hvat]
      by_cases hroom : n + m ≤ ks.cap - c
      · -- in place
        have hroomk : (n + m) * k ≤ (ks.cap - c) * k := Nat.mul_le_mul_right _ hroom
        have hsp : ∀ j, j < (n + m) * k → (w.cell? ⟨ks.blk, ks.base + off + j, none⟩).isSome = true := fun j hj => by
          have : ks.base + off + j < cA.size := by omega
          simp [World.cell?, t2, this]
        have hfz : ∀ j, j < (n + m) * k → w.frozen? ⟨ks.blk, ks.base + off + j, none⟩ = false := fun j hj => by
          have : ks.base + off + j < cA.size := by omega
          simp only [World.frozen?, t2, Bool.and_eq_false_iff, decide_eq_false_iff_not]
          omega
        have hcapA : ks.base + off + (ks.cap - c) * k ≤ cA.size := by omega
        have fin : ∀ w1 : World, Below B w w1 → w1.heap.size = w.heap.size → (∀ b, b ≠ ks.blk → w1.heap[b]? = w.heap[b]?) → (∃ c', w1.heap[ks.blk]? = some (.cells c' tA fA) ∧ c'.size = cA.size ∧ ∀ j y, (OLD.take (i * k) ++ (NEW ++ OLD.drop (i * k)))[j]? = some y → c'[ks.base + off + j]? = some y) →
            R (.returned (.slice (some ⟨ks.blk, ks.base + off, none⟩) (n + m) (ks.cap - c))) w1 := by
          intro w1 hw1 hw2 hw3 ⟨c', hc1, hc2, hc3⟩
          refine hR (κ.set h.next ⟨ks.blk, ks.base + off, ks.cap - c⟩) _ _ _ _ (Kap.le_set sm.none_next)
            (sm.renew he hks hown hw1 hw2 hw3 ⟨ks.blk, ks.base + off, ks.cap - c⟩ rfl k ob (rowSim_of r1 r2 r3 hFg hF1 hc1 (by rw [hc2]; exact hcapA) t4 hc3)) ?_ hE6
          simp [gam, Kap.set_self, Ki.at, hroom]
        by_cases hi : i = n
        · subst hi
          have hw := ins_end_room (by omega) L ks.blk (ks.base + off) i (ks.cap - c) kv.blk (kv.base + voff) m vcap NEW w hm' hroom (by omega) hNl
            (fun j hj => by have := hsp (i * k + j) (by omega); rwa [← Nat.add_assoc] at this) (fun j hj => by have := hfz (i * k + j) (by omega); rwa [← Nat.add_assoc] at this) hvs f2'
          refine Calls.mono hw fun x w' hx => ?_
          obtain ⟨rfl, rfl⟩ := hx
          refine fin _ (setCells_below hB _ _ _) (setCells_size _ _ _ _) (fun b hbb => setCells_other _ _ hbb _ _ _) ⟨_, setCells_block _ _ _ _ _ _ _ t2, arrSet_size _ _ _, fun j y hy => ?_⟩
          rw [hFget] at hy
          rw [arrSet_get _ _ _ _ (by omega)]
          by_cases h1 : j < i * k
          · rw [if_pos h1] at hy
            rw [if_neg (by omega)]
            exact hcsA j y hy
          · rw [if_neg h1] at hy
            by_cases h2 : j < i * k + m * k
            · rw [if_pos h2] at hy
              rw [if_pos (by omega), show ks.base + off + j - (ks.base + off + i * k) = j - i * k by omega]
              exact hy
            · rw [if_neg h2] at hy
              have := (List.getElem?_eq_some_iff.1 hy).1
              omega
        · have hlt : i < n := by omega
          have hk1 := hkin
          have hw := ins_shift (by omega) L ks.blk (ks.base + off) n (ks.cap - c) i kv.blk (kv.base + voff) m vcap OLD NEW w hlt hm' hroom (by omega) hvb hOl hNl hcs hsp hfz hvs g2' f2' tv tA cv.size cA.size hsV (by simp [World.shape?, t2]) (by have := Nat.mul_pos hn0 (show 0 < k by omega); omega) (hfz0 hk1 _) (hfz0 hk1 _)
          refine Calls.mono hw fun x w' hx => ?_
          obtain ⟨rfl, rfl⟩ := hx
          have hdl : (OLD.drop (i * k)).length = n * k - i * k := by rw [List.length_drop, hOl]
          refine fin _ (((Below.refl B w).drew.trans (setCells_below hB _ _ _)).trans (setCells_below hB _ _ _)) (by rw [setCells_size, setCells_size]; rfl) (fun b hbb => by rw [setCells_other _ _ hbb, setCells_other _ _ hbb]; rfl)
            ⟨_, setCells_block _ _ _ _ _ _ _ (setCells_block _ _ _ _ _ _ _ (show w.drew.heap[ks.blk]? = _ from t2)), by rw [arrSet_size, arrSet_size], fun j y hy => ?_⟩
          rw [hFget] at hy
          rw [arrSet_get _ _ _ _ (by rw [arrSet_size]; omega), arrSet_get _ _ _ _ (by omega), hdl, hNl]
          by_cases h1 : j < i * k
          · rw [if_pos h1] at hy
            rw [if_neg (by omega), if_neg (by omega)]
            exact hcsA j y hy
          · rw [if_neg h1] at hy
            by_cases h2 : j < i * k + m * k
            · rw [if_pos h2] at hy
              rw [if_pos (by omega), show ks.base + off + j - (ks.base + off + i * k) = j - i * k by omega]
              exact hy
            · rw [if_neg h2] at hy
              have := (List.getElem?_eq_some_iff.1 hy).1
              rw [if_neg (by omega), if_pos (by omega), List.getElem?_drop, show i * k + (ks.base + off + j - (ks.base + off + (i + m) * k)) = j - m * k by omega]
              exact hy
      · -- in a new block
        by_cases hi : i = n
        · subst hi
          have hw := ins_end_grow (by omega) L (some ⟨ks.blk, ks.base + off, none⟩) i (ks.cap - c) kv.blk (kv.base + voff) m vcap OLD NEW w hm' (by omega) (by omega) hb1 (by omega) hOl hNl (fun e => by cases e) (fun a ha j y hy => by cases ha; rw [Addr.add_lit]; exact hcs j y hy) hvs f2'
          have ht : old.take (i * k) = old := List.take_of_length_le (by omega)
          have hdr : old.drop (i * k) = [] := List.drop_of_length_le (by omega)
          rw [ht, hdr, List.append_nil] at r2 r3
          have hn := grow_new (sm.kill o) (e := ρ.t 9) (len := i) (l := old) (m := m) (g := grownCap w (i + m) (ks.cap - c) (ρ.t 9)) (esz := k) (NEW := NEW) (OLD := OLD) (REST := Builtin.zeroCells z.cells (grownCap w (i + m) (ks.cap - c) (ρ.t 9) - (i + m))) r1 hol hnl r2 r3 g1 g2 f1 f2 (grownCap_ge w _ _ _) (by rw [zeroCells_size, hzc])
          refine Calls.mono hw fun x w' hx => ?_
          obtain ⟨rfl, rfl⟩ := hx
          refine hR _ _ _ _ _ (Kap.le_set sm.none_next) ?_ hn.2 hE6
          have := hn.1
          simpa using this
        · have hlt : i < n := by omega
          have hk1 := hkin
          have hw := ins_grow (by omega) L hzc ks.blk (ks.base + off) n (ks.cap - c) i kv.blk (kv.base + voff) m vcap OLD NEW w hlt hm' (by omega) (by omega) hb1 (by omega) hOl hNl hcs hvs g2' f2'
          refine Calls.mono hw fun x w' hx => ?_
          obtain ⟨rfl, rfl⟩ := hx
          have hgc := grownCap_ge w (n + m) (ks.cap - c) (ρ.t 9)
          generalize grownCap w (n + m) (ks.cap - c) (ρ.t 9) = G at hgc ⊢
          have hdl : (OLD.drop (i * k)).length = n * k - i * k := by rw [List.length_drop, hOl]
          have htl : (OLD.take (i * k)).length = i * k := by rw [List.length_take, hOl]; omega
          obtain ⟨ROW, hROW⟩ : ∃ ROW : Array Value, ROW = (OLD.take (i * k)).toArray ++ Builtin.zeroCells z.cells (n + m - i) ++ Builtin.zeroCells z.cells (G - (n + m)) := ⟨_, rfl⟩
          rw [← hROW]
          have hRs : ROW.size = G * k := by
            rw [hROW]
            simp only [Array.size_append, List.size_toArray, htl, zeroCells_size, hzc]
            rw [← Nat.add_mul, ← Nat.add_mul]
            congr 1; omega
          have hGk : (n + m) * k ≤ G * k := Nat.mul_le_mul_right _ hgc
          have hRget : ∀ j, j < i * k → ROW[j]? = OLD[j]? := fun j hj => by
            rw [hROW, Array.getElem?_append_left (by simp [htl]; omega), Array.getElem?_append_left (by simp [htl]; omega)]
            simp [List.getElem?_take, hj]
          have hnew : ((w.alloc (.cells ROW (ρ.t 9))).drew).heap[w.heap.size]? = some (.cells ROW (ρ.t 9) (0, 0)) := heap_alloc_new _ _
          have hb2' := setCells_block w.heap.size (OLD.drop (i * k)) ((i + m) * k) _ _ _ _ (show (((w.alloc (.cells ROW (ρ.t 9))).drew.setCells w.heap.size (i * k) NEW).drew).heap[w.heap.size]? = _ from setCells_block w.heap.size NEW (i * k) _ _ _ _ hnew)
          refine hR _ _ _ _ _ (Kap.le_set sm.none_next) ((sm.kill o).make (w' := _) ?_ ?_ ?_ k G ob ?_) ?_ hE6
          · exact ((((Below.refl B w).alloc sm.size _).drew.trans (setCells_below sm.size _ _ _)).drew).trans (setCells_below sm.size _ _ _)
          · rw [setCells_size]
            show ((w.alloc (.cells ROW (ρ.t 9))).drew.setCells w.heap.size (i * k) NEW).heap.size = _
            rw [setCells_size]
            show (w.heap.push _).size = _
            simp
          · intro b hb
            rw [setCells_other _ _ (by omega)]
            show ((w.alloc (.cells ROW (ρ.t 9))).drew.setCells w.heap.size (i * k) NEW).heap[b]? = _
            rw [setCells_other _ _ (by omega)]
            exact heap_alloc_old w _ hb
          · refine rowSim_of r1 r2 r3 hFg hF1 hb2' (by rw [arrSet_size, arrSet_size, hRs]; show 0 + G * k ≤ G * k; omega) rfl fun j y hy => ?_
            show (arrSet (arrSet ROW (i * k) NEW) ((i + m) * k) (OLD.drop (i * k)))[0 + j]? = _
            rw [hFget] at hy
            rw [Nat.zero_add, arrSet_get _ _ _ _ (by rw [arrSet_size]; omega), arrSet_get _ _ _ _ (by omega), hdl, hNl]
            by_cases h1 : j < i * k
            · rw [if_pos h1] at hy
              rw [if_neg (by omega), if_neg (by omega), hRget j h1]
              exact hy
            · rw [if_neg h1] at hy
              by_cases h2 : j < i * k + m * k
              · rw [if_pos h2] at hy
                rw [if_neg (by omega), if_pos (by omega)]
                exact hy
              · rw [if_neg h2] at hy
                have := (List.getElem?_eq_some_iff.1 hy).1
                rw [if_pos (by omega), List.getElem?_drop, show i * k + (j - (i + m) * k) = j - m * k by omega]
                exact hy
          · simp [gam, Kap.set_self, Ki.at, hgc]
  | [], hD => exact hD.elim
  | [_], hD => exact hD.elim
  | [_, _], hD => exact hD.elim
  | _ :: _ :: _ :: _ :: _, hD => exact hD.elim

end Go.Am

namespace Go.Am
set_option linter.unusedSimpArgs false
set_option linter.unusedVariables false
open Go Go.RowKit Go.Shelf Go.Proofs
variable {P : Program} {ρ : Ren}

/-- A call that leaves all that was there as it was. -/
theorem Sim.left {B : Nat} {w0 : W0} {w w' : World} {κ : Kap} {h : Hp} (s : Sim B w0 κ h w) (hb : Below w.heap.size w w') : Sim B w0 κ h w' := by
  have same : ∀ (b : Nat) (ob : Obj), w.heap[b]? = some ob → w'.heap[b]? = some ob := fun b ob hb' => by
    rw [hb.block b (Array.getElem?_eq_some_iff.1 hb').1]; exact hb'
  refine ⟨s.below.trans (hb.mono s.size), Nat.le_trans s.size hb.size, fun o e he => ?_, s.apart, s.fresh, fun b ob hb' => ⟨(s.ghost b ob hb').1, same _ _ (s.ghost b ob hb').2⟩, s.gap⟩
  obtain ⟨ki, h1, h2, h3, h4⟩ := s.obj o e he
  obtain ⟨y, hy⟩ := Option.isSome_iff_exists.1 h4.isSome
  refine ⟨ki, h1, h2, h3, ?_⟩
  rw [same _ _ hy, ← hy]; exact h4

def strsK : List AV → (List (Nat × Nat) → Prop) → Prop
  | [], k => k []
  | v :: l, k => asStr v fun n x => strsK l fun r => k ((n, x) :: r)
def catT (m y : Nat) : List (Nat × Nat) → Nat × Nat
  | [] => (0, 0)
  | p :: r => match catT m y r with | (l, z) => (m + (p.1 + l), y + (p.2 + z <<< (8 * p.1)) <<< (8 * m))
def joinN (m y : Nat) : List (Nat × Nat) → Nat × Nat
  | [] => (0, 0)
  | p :: r => match catT m y r with | (l, z) => (p.1 + l, p.2 + z <<< (8 * p.1))
/-- strings.Join. -/
noncomputable def strJoinK : ConD := fun args h K => match args with
  | [s, sep] => asStr sep fun m y => asSl s (K (.str 0 0) h) fun o off n _ _ => objAt h o fun e => cellsK e.obj n off fun l => strsK l fun xs =>
    gd (Nat.ble n 140737488355328 && Nat.ble (joinN m y xs).1 140737488355328) (forceN (joinN m y xs).1 fun N => forceN (joinN m y xs).2 fun X => K (.str N X) h)
  | _ => False
/-- internal/stringslite.Clone. -/
noncomputable def strCloneK : ConD := fun args h K => match args with
  | [s] => asStr s fun n z => gd (Nat.ble n 281474976710656) (K (.str n z) h)
  | _ => False

theorem strsK_iff : ∀ (l : List AV) (k : List (Nat × Nat) → Prop), strsK l k → ∃ xs, k xs ∧ l = xs.map fun p => .str p.1 p.2
  | [], k, h => ⟨[], h, rfl⟩
  | v :: l, k, h => by
    obtain ⟨n, x, rfl, h⟩ := asStr_iff.1 (show asStr v _ from h)
    obtain ⟨xs, hk, rfl⟩ := strsK_iff l _ h
    exact ⟨(n, x) :: xs, hk, rfl⟩
theorem gams_strs {κ : Kap} : ∀ (xs : List (Nat × Nat)) (L : List Value), gams κ (xs.map fun p => .str p.1 p.2) = some L → L = xs.map (fun p => .string (strOf p.1 p.2)) ∧ ∀ p ∈ xs, p.2 < 256 ^ p.1
  | [], L, h => by simp [gams] at h; subst h; simp
  | p :: xs, L, h => by
    simp only [List.map_cons, gams, Option.bind_eq_some_iff, Option.map_eq_some_iff] at h
    obtain ⟨v, h1, r, h2, rfl⟩ := h
    obtain ⟨rfl, h3⟩ := gams_strs xs r h2
    simp only [gam] at h1
    split at h1
    · rename_i hlt
      simp only [Option.some.injEq] at h1
      subst h1
      refine ⟨rfl, fun q hq => ?_⟩
      rcases List.mem_cons.1 hq with rfl | hq
      · exact hlt
      · exact h3 q hq
    · cases h1
theorem catT_ok {m y : Nat} (hy : y < 256 ^ m) : ∀ (r : List (Nat × Nat)), (∀ p ∈ r, p.2 < 256 ^ p.1) → bytesL (catT m y r).1 (catT m y r).2 = Lib.joinTail (bytesL m y) (r.map fun p => bytesL p.1 p.2)
  | [], _ => by simp [catT, bytesL, Lib.joinTail]
  | p :: r, h => by
    have ih := catT_ok hy r (fun q hq => h q (by simp [hq]))
    have hp := h p (by simp)
    simp only [catT]
    rw [bytesL_join _ _ _ _ hy, bytesL_join _ _ _ _ hp, ih]
    simp [Lib.joinTail]
theorem joinN_ok {m y : Nat} (hy : y < 256 ^ m) : ∀ (xs : List (Nat × Nat)), (∀ p ∈ xs, p.2 < 256 ^ p.1) → bytesL (joinN m y xs).1 (joinN m y xs).2 = Lib.join (xs.map fun p => bytesL p.1 p.2) (bytesL m y)
  | [], _ => by simp [joinN, bytesL, Lib.join_nil]
  | p :: r, h => by
    have ih := catT_ok hy r (fun q hq => h q (by simp [hq]))
    have hp := h p (by simp)
    simp only [joinN]
    rw [bytesL_join _ _ _ _ hp, ih, List.map_cons, Lib.join_cons]
theorem catT_lt {m y : Nat} (hy : y < 256 ^ m) : ∀ (r : List (Nat × Nat)), (∀ p ∈ r, p.2 < 256 ^ p.1) → (catT m y r).2 < 256 ^ (catT m y r).1
  | [], _ => by simp [catT]
  | p :: r, h => by
    simp only [catT]
    exact join_lt _ _ _ _ hy (join_lt _ _ _ _ (h p (by simp)) (catT_lt hy r (fun q hq => h q (by simp [hq]))))
theorem joinN_lt {m y : Nat} (hy : y < 256 ^ m) : ∀ (xs : List (Nat × Nat)), (∀ p ∈ xs, p.2 < 256 ^ p.1) → (joinN m y xs).2 < 256 ^ (joinN m y xs).1
  | [], _ => by simp [joinN]
  | p :: r, h => by
    simp only [joinN]
    exact join_lt _ _ _ _ (h p (by simp)) (catT_lt hy r (fun q hq => h q (by simp [hq])))

theorem strJoin_ok (L : Lays.n156 P ρ) (X : Builder.Extra P ρ) (B : Nat) (w0 : W0) : ConOne P B w0 (ρ.f 156) strJoinK := by
  intro avs h K hD
  refine ⟨⟨_, L.f156, by show "strings.Join" ≠ _; decide, rfl⟩, fun κ w args s hargs R hR => ?_⟩
  match avs, hD with
  | [sl, sep], hD =>
    obtain ⟨m, y, rfl, hD⟩ := asStr_iff.1 (show asStr sep _ from hD)
    simp only [gams, Option.bind_eq_some_iff, Option.map_eq_some_iff, Option.some.injEq] at hargs
    obtain ⟨S, hS, r, ⟨SEP, hSEP, r2, rfl, rfl⟩, rfl⟩ := hargs
    have hy : y < 256 ^ m ∧ SEP = .string (strOf m y) := by
      simp only [gam] at hSEP
      split at hSEP
      · rename_i hlt; exact ⟨hlt, by simpa using hSEP.symm⟩
      · cases hSEP
    obtain ⟨hy, rfl⟩ := hy
    rcases asSl_iff.1 hD with ⟨rfl, hD⟩ | ⟨o, off, n, kn, c, rfl, hD⟩
    · simp only [gam, Option.some.injEq] at hS
      subst hS
      refine (Any.strings_Join_none L X none 0 (strOf m y) w).mono fun e w' ⟨he, hw⟩ => ?_
      subst he; subst hw
      refine hR κ (.str 0 0) h _ _ κ.le_refl s ?_ hD
      simp [gam, strOf, bytesL]
    · obtain ⟨ki, cap, hk, rfl, hcap⟩ := gamk κ o off n c kn S hS
      obtain ⟨e, he, hD⟩ := objAt_iff.1 hD
      obtain ⟨l, hD, hl, hc⟩ := cellsK_iff _ _ _ _ hD
      obtain ⟨xs, hD3, el⟩ := strsK_iff _ _ hD
      clear hD
      subst el
      obtain ⟨hg, hD⟩ := gd_iff.1 hD3
      simp only [forceN_eq] at hD
      simp only [Bool.and_eq_true, Nat.ble_eq] at hg
      obtain ⟨VL, f1, f2, f3⟩ := s.cells he hk _ off (fun j hj => hc j (by omega))
      obtain ⟨rfl, hlt⟩ := gams_strs xs VL f1
      have hn : n = (xs.map fun p => strOf p.1 p.2).length := by simpa using hl.symm
      have hdata : (xs.map fun p => strOf p.1 p.2).map (·.data.toList) = xs.map fun p => bytesL p.1 p.2 := by
        rw [List.map_map]; apply List.map_congr_left; intro p _; simp [strOf_data]
      have hjoin : (⟨(Lib.join ((xs.map fun p => strOf p.1 p.2).map (·.data.toList)) (strOf m y).data.toList).toArray⟩ : ByteArray) = strOf (joinN m y xs).1 (joinN m y xs).2 := by
        rw [hdata, strOf_data, ← joinN_ok hy xs hlt]; rfl
      have hlen : (Lib.join ((xs.map fun p => strOf p.1 p.2).map (·.data.toList)) (strOf m y).data.toList).length ≤ 140737488355328 := by
        rw [hdata, strOf_data, ← joinN_ok hy xs hlt]
        simp only [bytesL, List.length_map, List.length_range]
        exact hg.2
      have hb : ki.blk < w.heap.size := by
        obtain ⟨ki', h1, _, _, h4⟩ := s.obj o e he
        rw [hk] at h1; cases h1
        obtain ⟨y, hy⟩ := Option.isSome_iff_exists.1 h4.isSome
        exact (Array.getElem?_eq_some_iff.1 hy).1
      have hcall := Any.strings_Join L X ki.blk (ki.base + off) cap (xs.map fun p => strOf p.1 p.2) (strOf m y) w (fun j x hx => by
          rw [List.getElem?_map, Option.map_eq_some_iff] at hx
          obtain ⟨p, hp, rfl⟩ := hx
          have := f3 j (.string (strOf p.1 p.2)) (by rw [List.getElem?_map, hp]; rfl)
          simpa [Ki.at, Nat.add_assoc] using this) hb (by rw [← hn]; exact hg.1) (by rw [← hn]; exact hcap) hlen
      rw [← hn] at hcall
      refine hcall.mono fun e w' ⟨he, hw⟩ => ?_
      subst he
      rw [hjoin]
      refine hR κ (.str (joinN m y xs).1 (joinN m y xs).2) h _ w' κ.le_refl (s.left hw) ?_ hD
      simp only [gam]
      rw [if_pos (joinN_lt hy xs hlt)]
theorem strClone_ok (L : LaysPu.n25 P ρ) (B : Nat) (w0 : W0) : ConOne P B w0 (ρ.f 25) strCloneK := by
  intro avs h K hD
  refine ⟨⟨_, L.f25, by show "internal/stringslite.Clone" ≠ _; decide, rfl⟩, fun κ w args s hargs R hR => ?_⟩
  match avs, hD with
  | [v], hD =>
    obtain ⟨n, z, rfl, hD⟩ := asStr_iff.1 (show asStr v _ from hD)
    obtain ⟨hg, hD⟩ := gd_iff.1 hD
    simp only [gams, Option.bind_eq_some_iff, Option.map_eq_some_iff, Option.some.injEq] at hargs
    obtain ⟨S, hS, r, rfl, rfl⟩ := hargs
    have hS2 := hS
    simp only [gam] at hS
    split at hS
    · simp only [Option.some.injEq] at hS
      subst hS
      refine (AnyPu.stringslite_Clone L (strOf n z) w (by rw [strOf_size]; simpa using hg)).mono fun e w' ⟨he, hw⟩ => ?_
      subst he
      exact hR κ (.str n z) h _ w' κ.le_refl (s.left hw) hS2 hD
    · cases hS

end Go.Am

