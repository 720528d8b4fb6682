/-
  Parts of the abstract machine and its use, joined: LgKids LgCmp LgKidsC. No condition.
-/
import Derived.Test.YtciipeallilmiaaGreatDoorAmS
import Derived.Test.YtciipeallilmiaaGreatDoorSh8
import Derived.Lib.Small
import Derived.Lib.Walk
import Derived.Test.YtciipeallilmiaaGreatDoorProg
import Derived.Test.YtciipeallilmiaaGreatDoorAmC
import Derived.Test.YtciipeallilmiaaGreatDoorSortPlain
namespace Lg
set_option linter.unusedSimpArgs false
set_option linter.unusedVariables false
set_option maxRecDepth 100000
open Go Go.Am
open Go.Proofs.YtciipeallilmiaaGreatDoor.sh8

/-! ### the tree's objects -/
structure KE where
  t : Int
  n : Int
  dir : Bool
  pt : Int
  pn : Int
  name : AV
  born : Nat
def KE.key (e : KE) : Int × Int := (e.t, e.n)
def KE.ent (e : KE) : AV × AV × Nat := (.agg [.int .i64 e.t, .int .i64 e.n], .agg [.bool e.dir, .int .i64 e.pt, .int .i64 e.pn, e.name], e.born)
def KE.below (i : Int × Int) (e : KE) : Bool := decide (e.pt = i.1) && decide (e.pn = i.2)
/-- A map of objects. -/
structure ObjsH (h : Hp) (m : Nat) (kes : List KE) : Prop where
  old : m < h.next
  at_ : ∃ e clock, h.at m = some e ∧ e.obj = .map (kes.map KE.ent) clock ∧ ∀ k ∈ kes, k.born < clock
  nodup : (kes.map KE.born).Nodup
theorem ObjsH.mono {h h' : Hp} {m : Nat} {kes : List KE} (ho : ObjsH h m kes) (hx : Ext h h') : ObjsH h' m kes := ⟨Nat.lt_of_lt_of_le ho.old hx.next, by rw [hx.same m ho.old]; exact ho.at_, ho.nodup⟩
def kidsL (i : Int × Int) (kes : List KE) : List (Int × Int) := (kes.filter (KE.below i)).map KE.key

/-- Kids. -/
def cKids : ConD := fun args h K => ∃ o i m kes, args = [.ptr o 0, .agg (idC i)] ∧ o < h.next ∧ (∃ e, h.at o = some e ∧ cellAt e.obj 0 = some (.map m)) ∧ ObjsH h m kes ∧ kes.length ≤ 1000000 ∧
  ∀ v h', Ext h h' → SlN h' 2 v ((sortI (kidsL i kes)).map idC) h.next → K v h'

section
variable (cf : CallK) (fuel : Nat) {K : AV → Hp → Prop}
theorem perm_filter_erase {kes : List KE} {seen : List Nat} {e : KE} (hn : (kes.map KE.born).Nodup) (he : e ∈ kes) (hs : e.born ∉ seen) :
    (kes.filter fun a => !(memN a.born seen)).Perm (e :: kes.filter fun a => !(memN a.born (seen ++ [e.born]))) := by
  induction kes with
  | nil => cases he
  | cons x l ih =>
    simp only [List.map_cons, List.nodup_cons] at hn
    simp only [List.filter_cons]
    rcases List.mem_cons.1 he with rfl | he
    · have a : memN e.born seen = false := by rw [memN_iff]; simpa using hs
      have b : memN e.born (seen ++ [e.born]) = true := by rw [memN_iff]; simp
      simp only [a, b, Bool.not_false, Bool.not_true, if_true, Bool.false_eq_true, if_false]
      have : (l.filter fun a => !(memN a.born seen)) = l.filter fun a => !(memN a.born (seen ++ [e.born])) := by
        apply List.filter_congr
        intro y hy
        have hne : y.born ≠ e.born := fun q => hn.1 (by rw [← q]; exact List.mem_map_of_mem hy)
        rw [memN_iff, memN_iff]
        simp [hne]
      rw [this]
    · have hne : x.born ≠ e.born := fun q => hn.1 (by rw [q]; exact List.mem_map_of_mem he)
      have q : memN x.born (seen ++ [e.born]) = memN x.born seen := by rw [memN_iff, memN_iff]; simp [hne]
      rw [q]
      cases memN x.born seen with
      | true => simpa using ih hn.2 he
      | false => simpa using ((ih hn.2 he).cons x).trans (.swap e x _)
theorem kidsL_perm {i : Int × Int} {l m : List KE} (h : l.Perm m) : (kidsL i l).Perm (kidsL i m) := (h.filter _).map _
theorem KidsL2_run {h0 : Hp} {i : Int × Int} {m : Nat} {kes : List KE} {em : Ent} {clock : Nat} (hm : h0.at m = some em) (hmo : m < h0.next) (hem : em.obj = .map (kes.map KE.ent) clock) (hc : ∀ k ∈ kes, k.born < clock) (hn : (kes.map KE.born).Nodup) (hlen : kes.length ≤ 1000000)
    (e1 : AV → Hp → Prop) (p it : Nat) (hp : h0.next ≤ p) (hpi : p < it)
    (he1 : ∀ (v : AV) (h : Hp) (ids : List (Int × Int)), Ext h0 h → SlN h 2 v (ids.map idC) (it + 1) → ids.Perm (kidsL i kes) → e1 v h) : ∀ (d : Nat) (seen : List Nat) (kept : List (Int × Int)) (v : AV) (h : Hp) (fm : Nat),
    (kes.filter fun a => !(memN a.born seen)).length = d → d < fm → Ext h0 h → it < h.next → h.at p = some ⟨true, 2, .row (idC i)⟩ → h.at it = some ⟨true, 0, .mit (some m) clock seen clock⟩ →
    SlN h 2 v (kept.map idC) (it + 1) → (kept ++ kidsL i (kes.filter fun a => !(memN a.born seen))).Perm (kidsL i kes) → s_movetree_Tree_KidsL2 cf fuel e1 (.ptr p 0) (.ptr it 0) fm v h
  | d, seen, kept, v, h, fm, hd, hfm, hx, hit, hatp, hati, hv, hperm => by
    obtain ⟨fm, rfl⟩ : ∃ k, fm = k + 1 := ⟨fm - 1, by omega⟩
    rw [s_movetree_Tree_KidsL2_succ]
    unfold s_movetree_Tree_KidsL2B
    have hmh : h.at m = some em := by rw [hx.same m hmo, hm]
    have hc' : ∀ a ∈ kes, (KE.ent a).2.2 < clock := fun a ha => hc a ha
    refine nextM_any (it := it) (m := m) (esz := 0) (clock := clock) (seen := seen) (em := em) KE.ent kes hc' hati hmh hem (fun hnil => ?_) (fun a ha hs => ?_)
    · (try unfold vMov); repeat' (first | refine Step.imp ?_ | (refine Way.mk (fun hp => ?_) (fun hp => ?_) <;> first | contradiction | (exfalso; omega) | skip) | refine LoadG.mk (by simp (disch := (first | omega | (simp only [Hp.next_new, Hp.next_put]; omega))) only [Hp.at_new_self, Hp.at_put_self, Hp.at_new_lt, Hp.at_put_ne] <;> rfl) (by simp only [cellAt_row', setL_cons0, setL_succ, Nat.reduceAdd, Nat.reduceMul, Nat.zero_add, Nat.add_zero, List.getElem?_cons_succ, List.getElem?_cons_zero]; rfl) ?_ | refine LoadsG.mk (by simp (disch := (first | omega | (simp only [Hp.next_new, Hp.next_put]; omega))) only [Hp.at_new_self, Hp.at_put_self, Hp.at_new_lt, Hp.at_put_ne] <;> rfl) (by rfl) ?_ | refine AtG.mk (by rfl) ?_ | refine StoreG.mk (by simp (disch := (first | omega | (simp only [Hp.next_new, Hp.next_put]; omega))) only [Hp.at_new_self, Hp.at_put_self, Hp.at_new_lt, Hp.at_put_ne] <;> rfl) (by first | omega | (simp; done) | (simp; omega)) ?_ | refine CondG.mk (by first | omega | (simp; done) | (simp [repL, setL]; done) | (simp; omega)) ?_ | fail); (all_goals (try dsimp only))
      have hnil' : (kes.filter fun a => !(memN a.born seen)) = [] := hnil
      rw [hnil'] at hperm
      exact he1 v h kept hx hv (by simpa [kidsL] using hperm)
    · have hs' : a.born ∉ seen := hs
      have hP := perm_filter_erase hn ha hs'
      have hL := hP.length_eq
      simp only [List.length_cons] at hL
      (try unfold vMov); repeat' (first | refine Step.imp ?_ | (refine Way.mk (fun hp => ?_) (fun hp => ?_) <;> first | contradiction | (exfalso; omega) | skip) | refine LoadG.mk (by simp (disch := (first | omega | (simp only [Hp.next_new, Hp.next_put]; omega))) only [Hp.at_new_self, Hp.at_put_self, Hp.at_new_lt, Hp.at_put_ne] <;> rfl) (by simp only [cellAt_row', setL_cons0, setL_succ, Nat.reduceAdd, Nat.reduceMul, Nat.zero_add, Nat.add_zero, List.getElem?_cons_succ, List.getElem?_cons_zero]; rfl) ?_ | refine LoadsG.mk (by simp (disch := (first | omega | (simp only [Hp.next_new, Hp.next_put]; omega))) only [Hp.at_new_self, Hp.at_put_self, Hp.at_new_lt, Hp.at_put_ne] <;> rfl) (by rfl) ?_ | refine AtG.mk (by rfl) ?_ | refine StoreG.mk (by simp (disch := (first | omega | (simp only [Hp.next_new, Hp.next_put]; omega))) only [Hp.at_new_self, Hp.at_put_self, Hp.at_new_lt, Hp.at_put_ne] <;> rfl) (by first | omega | (simp; done) | (simp; omega)) ?_ | refine CondG.mk (by first | omega | (simp; done) | (simp [repL, setL]; done) | (simp; omega)) ?_ | fail); (all_goals (try dsimp only))
      unfold s_movetree_Tree_KidsB4
      have hx2 : Ext h0 (h.put it (some ⟨true, 0, .mit (some m) clock (seen ++ [a.born]) clock⟩)) := hx.put _ (by omega)
      have hati2 : (h.put it (some ⟨true, 0, .mit (some m) clock (seen ++ [a.born]) clock⟩)).at it = some ⟨true, 0, .mit (some m) clock (seen ++ [a.born]) clock⟩ := Hp.at_put_self _ _ _
      have hatp2 : (h.put it (some ⟨true, 0, .mit (some m) clock (seen ++ [a.born]) clock⟩)).at p = some ⟨true, 2, .row (idC i)⟩ := by rw [Hp.at_put_ne _ (by omega), hatp]
      have hv2 : SlN (h.put it (some ⟨true, 0, .mit (some m) clock (seen ++ [a.born]) clock⟩)) 2 v (kept.map idC) (it + 1) := hv.at_put (by omega)
      have hn2 : (h.put it (some ⟨true, 0, .mit (some m) clock (seen ++ [a.born]) clock⟩)).next = h.next := rfl
      show vEntry (.ptr it 0) (h.put it (some ⟨true, 0, .mit (some m) clock (seen ++ [a.born]) clock⟩)) _
      revert hati2 hatp2 hv2 hx2 hn2
      generalize (h.put it (some ⟨true, 0, .mit (some m) clock (seen ++ [a.born]) clock⟩)) = g
      intro hx2 hati2 hatp2 hv2 hn2
      refine entry_at (it := it) (m := m) (esz := 0) (clock := clock) (seen := seen) (em := em) KE.ent kes hn ha hati2 (by rw [hx2.same m hmo, hm]) hem ?_
      unfold KE.ent
      have hxn := hx2.next
      have next : ∀ (kept' : List (Int × Int)) (v' : AV) (G : Hp), Ext h0 G → g.next ≤ G.next → (∀ q, q ≤ it → G.at q = g.at q) → SlN G 2 v' (kept'.map idC) (it + 1) →
          (kept' ++ kidsL i (kes.filter fun b => !(memN b.born (seen ++ [a.born])))).Perm (kidsL i kes) → s_movetree_Tree_KidsL2 cf fuel e1 (.ptr p 0) (.ptr it 0) fm v' G := fun kept' v' G k1 k2 k3 k4 k5 =>
        KidsL2_run hm hmo hem hc hn hlen e1 p it hp hpi he1 (d - 1) (seen ++ [a.born]) kept' v' G fm (by omega) (by omega) k1 (by omega) (by rw [k3 p (by omega), hatp2]) (by rw [k3 it (Nat.le_refl _), hati2]) k4 k5
      (try unfold vMov); repeat' (first | refine Step.imp ?_ | (refine Way.mk (fun hp => ?_) (fun hp => ?_) <;> first | contradiction | (exfalso; omega) | skip) | refine LoadG.mk (by simp (disch := (first | omega | (simp only [Hp.next_new, Hp.next_put]; omega))) only [Hp.at_new_self, Hp.at_put_self, Hp.at_new_lt, Hp.at_put_ne, hatp2, hati2] <;> rfl) (by simp only [cellAt_row', setL_cons0, setL_succ, Nat.reduceAdd, Nat.reduceMul, Nat.zero_add, Nat.add_zero, List.getElem?_cons_succ, List.getElem?_cons_zero]; rfl) ?_ | refine LoadsG.mk (by simp (disch := (first | omega | (simp only [Hp.next_new, Hp.next_put]; omega))) only [Hp.at_new_self, Hp.at_put_self, Hp.at_new_lt, Hp.at_put_ne, hatp2, hati2] <;> rfl) (by rfl) ?_ | refine AtG.mk (by rfl) ?_ | refine StoreG.mk (by simp (disch := (first | omega | (simp only [Hp.next_new, Hp.next_put]; omega))) only [Hp.at_new_self, Hp.at_put_self, Hp.at_new_lt, Hp.at_put_ne, hatp2, hati2] <;> rfl) (by first | omega | (simp; done) | (simp; omega)) ?_ | refine CondG.mk (by first | omega | (simp; done) | (simp [repL, setL]; done) | (simp; omega)) ?_ | fail); (all_goals (try dsimp only))
      · have hbel : a.below i = true := by simp [KE.below, hp.1, hp.2]
        have hkl : kept.length ≤ kes.length := by
          have q1 := hperm.length_eq
          simp only [List.length_append, kidsL, List.length_map] at q1
          have q2 := List.length_filter_le (KE.below i) kes
          omega
        refine append_own (els := kept.map idC) (news := [idC a.key]) (B := it + 1) (h0 := h0) (by repeat (first | exact Ext.refl _ | assumption | apply Ext.new | (refine Ext.put ?_ _ (by first | omega | (simp; done) | (simp; omega))))) ?_ (by omega) (by simp only [Hp.next_new, Hp.next_put]; omega) ?_ ?_ (by simp) ?_ ?_
        · refine hv2.ext ?_
          exact (by repeat (first | exact Ext.refl _ | assumption | apply Ext.new | (refine Ext.put ?_ _ (by first | omega | (simp; done) | (simp; omega)))))
        · exact ⟨_, 0, true, 1, _, rfl, Hp.at_new_self _ _, rfl⟩
        · intro e he
          rw [List.mem_singleton.1 he]; rfl
        · simp only [List.length_map, List.length_singleton]; omega
        · intro v' h' k1 k2 k3 k4
          refine next (kept ++ [a.key]) v' h' k1 (by simp only [Hp.next_new, Hp.next_put] at k2; omega) (fun q hq => (k3 q (by omega)).trans (Ext.atq (hx := (by repeat (first | exact Ext.refl _ | assumption | apply Ext.new | (refine Ext.put ?_ _ (by first | omega | (simp; done) | (simp; omega)))))) q (by omega))) (by simpa using k4) ?_
          refine List.Perm.trans ?_ hperm
          have := kidsL_perm (i := i) hP
          refine List.Perm.trans ?_ (this.symm.append_left kept)
          simp [kidsL, hbel]
      · have hbel : a.below i = false := by
          cases q : a.below i with
          | false => rfl
          | true =>
            simp only [KE.below, Bool.and_eq_true, decide_eq_true_eq] at q
            exact absurd q hp
        refine next kept v _ ?zn1 ?zn2 ?zn3 ?zn4 ?zn5
        case zn1 => exact hx2.trans (by repeat (first | exact Ext.refl _ | assumption | apply Ext.new | (refine Ext.put ?_ _ (by first | omega | (simp; done) | (simp; omega)))))
        case zn2 => exact Ext.nx (hx := (by repeat (first | exact Ext.refl _ | assumption | apply Ext.new | (refine Ext.put ?_ _ (by first | omega | (simp; done) | (simp; omega))))))
        case zn3 => exact fun q hq => Ext.atq (hx := (by repeat (first | exact Ext.refl _ | assumption | apply Ext.new | (refine Ext.put ?_ _ (by first | omega | (simp; done) | (simp; omega)))))) q (by omega)
        case zn4 => exact hv2.ext (by repeat (first | exact Ext.refl _ | assumption | apply Ext.new | (refine Ext.put ?_ _ (by first | omega | (simp; done) | (simp; omega)))))
        case zn5 =>
          refine List.Perm.trans ?_ hperm
          have := kidsL_perm (i := i) hP
          refine List.Perm.trans ?_ (this.symm.append_left kept)
          simp [kidsL, hbel]
theorem Kids_run (g : FuncId) (hS : cf f_slices_SortFunc_api_ID_api_ID = cSortI 219) {h : Hp} {o : Nat} {i : Int × Int} {m : Nat} {kes : List KE} (hf : kes.length + 1 < fuel) (ho : ∃ e, h.at o = some e ∧ cellAt e.obj 0 = some (.map m)) (hon : o < h.next) (hm : ObjsH h m kes) (hlen : kes.length ≤ 1000000)
    (hK : ∀ v h', Ext h h' → SlN h' 2 v ((sortI (kidsL i kes)).map idC) h.next → K v h') : s_movetree_Tree_Kids cf fuel (.ptr o 0) (.agg (idC i)) h K := by
  obtain ⟨e, ho1, ho2⟩ := ho
  obtain ⟨hmo, ⟨em, clock, hm1, hm2, hc⟩, hn⟩ := hm
  show s_movetree_Tree_Kids cf fuel (.ptr o 0) (.agg [.int .i64 i.1, .int .i64 i.2]) h K
  unfold s_movetree_Tree_Kids
  (try unfold vMov); repeat' (first | refine Step.imp ?_ | (refine Way.mk (fun hp => ?_) (fun hp => ?_) <;> first | contradiction | (exfalso; omega) | skip) | refine LoadG.mk (by simp (disch := (first | omega | (simp only [Hp.next_new, Hp.next_put]; omega))) only [Hp.at_new_self, Hp.at_put_self, Hp.at_new_lt, Hp.at_put_ne] <;> rfl) (by simp only [cellAt_row', setL_cons0, setL_succ, Nat.reduceAdd, Nat.reduceMul, Nat.zero_add, Nat.add_zero, List.getElem?_cons_succ, List.getElem?_cons_zero]; rfl) ?_ | refine LoadsG.mk (by simp (disch := (first | omega | (simp only [Hp.next_new, Hp.next_put]; omega))) only [Hp.at_new_self, Hp.at_put_self, Hp.at_new_lt, Hp.at_put_ne] <;> rfl) (by rfl) ?_ | refine AtG.mk (by rfl) ?_ | refine StoreG.mk (by simp (disch := (first | omega | (simp only [Hp.next_new, Hp.next_put]; omega))) only [Hp.at_new_self, Hp.at_put_self, Hp.at_new_lt, Hp.at_put_ne] <;> rfl) (by first | omega | (simp; done) | (simp; omega)) ?_ | refine CondG.mk (by first | omega | (simp; done) | (simp [repL, setL]; done) | (simp; omega)) ?_ | (refine LoadG.mk (by simp (disch := (first | omega | (simp only [Hp.next_new, Hp.next_put]; omega))) only [Hp.at_new_lt, ho1] <;> rfl) ho2 ?_) | (refine rangeM_at (by simp (disch := (first | omega | (simp only [Hp.next_new, Hp.next_put]; omega))) only [Hp.at_new_lt, hm1] <;> rfl) hm2 ?_) | fail); (all_goals (try dsimp only))
  have hx : Ext h ((h.new ⟨true, 2, .row [.int .i64 i.1, .int .i64 i.2]⟩).new ⟨true, 0, .mit (some m) clock [] clock⟩) := ((Ext.refl h).new _).new _
  have hall : (kes.filter fun a => !(memN a.born [])) = kes := List.filter_eq_self.2 fun a _ => by simp [memN]
  refine KidsL2_run (h0 := h) (i := i) (em := em) (clock := clock) cf fuel hm1 hmo hm2 hc hn hlen _ h.next (h.next + 1) (Nat.le_refl _) (by omega) (fun v h1 ids k1 k2 k3 => ?_) kes.length [] [] .nilslice _ fuel (by rw [hall]) (by omega) hx ?_ ?_ ?_ (.inl ⟨rfl, rfl⟩) (by rw [hall]; exact .refl _)
  · unfold s_movetree_Tree_KidsE1 s_movetree_Tree_KidsJ0
    rw [hS]
    have hb : ids.length ≤ 140737488355328 := by
      have q1 := k3.length_eq
      simp only [kidsL, List.length_map] at q1
      have q2 := List.length_filter_le (KE.below i) kes
      omega
    refine ⟨v, ids, h.next + 2, rfl, k2, hb, fun h' q1 q2 q3 => hK v h' ⟨?_, fun p hp => ?_⟩ ?_⟩
    · have := k1.next; omega
    · rw [q2 p (by omega), k1.same p hp]
    · rw [← sortI_of_perm k3]
      exact q3.weak (by omega)
  · simp only [Hp.next_new]; omega
  · simp (disch := (first | omega | (simp only [Hp.next_new, Hp.next_put]; omega))) only [Hp.at_new_self, Hp.at_new_lt]
    rfl
  · show _ = _
    exact Hp.at_new_self _ _
end
end Lg

namespace Lg
set_option linter.unusedSimpArgs false
set_option linter.unusedVariables false
open Go Go.Am Go.Proofs Go.RowKit Go.Sort
theorem isNaN64 (x : Int) (w : World) : Calls Tryz.prog 312 #[.int .i64 x] w fun e w' => e = .returned (.bool false) ∧ w' = w := by
  go_enter Tryz.func312, Tryz.ntmps312
  go_wp2
  go_ret
  exact ⟨by simp, rfl⟩
theorem isNaNi (x : Int) (w : World) : Calls Tryz.prog 295 #[.int .i64 x] w fun e w' => e = .returned (.bool false) ∧ w' = w := by
  go_enter Tryz.func295, Tryz.ntmps295
  go_wp2
  go_ret
  exact ⟨by simp, rfl⟩
def cmp1 (x y : Int) : Int := if x < y then -1 else if y < x then 1 else 0
theorem cmp64 (x y : Int) (w : World) : Calls Tryz.prog 271 #[.int .i64 x, .int .i64 y] w fun e w' => e = .returned (.int .i64 (cmp1 x y)) ∧ w' = w := by
  go_enter Tryz.func271, Tryz.ntmps271
  go_wp2_with (go_at_call 312; refine (isNaN64 _ _).mono ?_; rintro e w' ⟨rfl, hw⟩; rw [hw])
  all_goals (go_ret; refine ⟨?_, rfl⟩; unfold cmp1; (repeat' split) <;> first | rfl | (exfalso; omega))
theorem cmpi (x y : Int) (w : World) : Calls Tryz.prog 272 #[.int .i64 x, .int .i64 y] w fun e w' => e = .returned (.int .i64 (cmp1 x y)) ∧ w' = w := by
  go_enter Tryz.func272, Tryz.ntmps272
  go_wp2_with (go_at_call 295; refine (isNaNi _ _).mono ?_; rintro e w' ⟨rfl, hw⟩; rw [hw])
  all_goals (go_ret; refine ⟨?_, rfl⟩; unfold cmp1; (repeat' split) <;> first | rfl | (exfalso; omega))
set_option maxHeartbeats 1000000 in
theorem cmpId (x y : Int × Int) (W : World) : Calls Tryz.prog 219 #[.agg (idV x).toArray, .agg (idV y).toArray] W fun e w' => e = .returned (.int .i64 (cmpI x y)) ∧ ∃ q os', w' = grow (W.drewN q) os' := by
  obtain ⟨x1, x2⟩ := x
  obtain ⟨y1, y2⟩ := y
  show Calls Tryz.prog 219 #[.agg #[.int .i64 x1, .int .i64 x2], .agg #[.int .i64 y1, .int .i64 y2]] W _
  go_enter Tryz.func219, Tryz.ntmps219
  go_wp2_with (first | (go_at_call 271; refine (cmp64 _ _ _).mono ?_; rintro e w' ⟨rfl, rfl⟩) | (go_at_call 272; refine (cmpi _ _ _).mono ?_; rintro e w' ⟨rfl, rfl⟩))
  all_goals (go_ret; refine ⟨?_, 0, _, by rw [alloc_eq_grow, alloc_eq_grow, grow_grow]; rfl⟩)
  all_goals (unfold cmpI; unfold cmp1 at *; simp only at *; (repeat' split) <;> first | rfl | (exfalso; omega) | (simp_all <;> omega))
end Lg

namespace Lg
set_option linter.unusedSimpArgs false
set_option linter.unusedVariables false
set_option maxRecDepth 100000
open Go Go.Am Go.Proofs Go.Shelf
open Go.Proofs.YtciipeallilmiaaGreatDoor.sh8

noncomputable def parE : List (AV × AV × Nat) → Option (List KE)
  | [] => some []
  | e :: l => (match e.1, e.2.1 with
    | .agg [.int .i64 t, .int .i64 n], .agg [.bool d, .int .i64 pt, .int .i64 pn, nm] => (parE l).map fun r => ⟨t, n, d, pt, pn, nm, e.2.2⟩ :: r
    | _, _ => none)
theorem parE_ok : ∀ (es : List (AV × AV × Nat)) (kes : List KE), parE es = some kes → es = kes.map KE.ent
  | [], kes, h => by simp [parE] at h; subst h; rfl
  | e :: l, kes, h => by
    obtain ⟨k, v, b⟩ := e
    unfold parE at h
    simp only at h
    split at h
    · rename_i t n d pt pn nm
      obtain ⟨r, hr, rfl⟩ := Option.map_eq_some_iff.1 h
      rw [parE_ok l r hr]
      rfl
    · cases h
noncomputable def nodupB : List Nat → Bool
  | [] => true
  | x :: l => !(memN x l) && nodupB l
theorem nodupB_ok : ∀ (l : List Nat), nodupB l = true → l.Nodup
  | [], _ => .nil
  | x :: l, h => by
    simp only [nodupB, Bool.and_eq_true, Bool.not_eq_true', memN_iff, List.contains_eq_mem, decide_eq_false_iff_not] at h
    exact List.nodup_cons.2 ⟨h.1, nodupB_ok l h.2⟩
noncomputable def allLtB (c : Nat) : List Nat → Bool
  | [] => true
  | x :: l => Nat.blt x c && allLtB c l
theorem allLtB_ok (c : Nat) : ∀ (l : List Nat), allLtB c l = true → ∀ x ∈ l, x < c
  | [], _, x, hx => by cases hx
  | y :: l, h, x, hx => by
    simp only [allLtB, Bool.and_eq_true, Nat.blt_eq] at h
    rcases List.mem_cons.1 hx with rfl | hx
    · exact h.1
    · exact allLtB_ok c l h.2 x hx
/-- The end: the sorted IDs in a row of their own. -/
noncomputable def kidsEnd (r : List (Int × Int)) (h : Hp) (K : AV → Hp → Prop) : Prop := match r with
  | [] => K .nilslice h
  | p :: r => forceN (p :: r).length fun n => newK h ⟨true, 2, .row ((p :: r).map idC).flatten⟩ fun o h => K (.slice o 0 n false 0) h
noncomputable def kidsM (i : Int × Int) (mv : AV) (h : Hp) (K : AV → Hp → Prop) : Prop := match mv with
  | .map m => objAt h m fun em => asMap em.obj fun es clock => asOpt (parE es) fun kes => gd (Nat.blt m h.next && (nodupB (kes.map KE.born) && (allLtB clock (kes.map KE.born) && Nat.ble kes.length 1000000))) (kidsEnd (sortI (kidsL i kes)) h K)
  | _ => False
noncomputable def kidsK : ConD := fun args h K => match args with
  | [t, i] => asPtr t fun o off => gd (Nat.beq off 0 && Nat.blt o h.next) (asAgg i fun l => match l with
    | [.int .i64 a, .int .i64 b] => objAt h o fun e => asOpt (cellAt e.obj 0) fun mv => kidsM (a, b) mv h K
    | _ => False)
  | _ => False
theorem kidsEnd_iff {r : List (Int × Int)} {h h' : Hp} {K : AV → Hp → Prop} {v : AV} (hk : kidsEnd r h K) (hx : Ext h h') (hv : SlN h' 2 v (r.map idC) h.next) : Out h K v h' := by
  refine ⟨hx, ?_⟩
  rcases hv with ⟨rfl, he⟩ | ⟨o, ob, rfl, h1, h2, h3, h4, h5, h6⟩
  · have : r = [] := by simpa using he
    subst this
    exact .inl ⟨by simp [oldV], hk⟩
  · cases r with
    | nil => exact absurd rfl h6
    | cons p r =>
      have hk2 : forceN (p :: r).length (fun n => newK h ⟨true, 2, .row ((p :: r).map idC).flatten⟩ fun o h => K (.slice o 0 n false 0) h) := hk
      rw [forceN_eq, newK_eq'] at hk2
      refine .inr ⟨o, 0, _, false, 0, _, _, _, rfl, h1, h3, rfl, rfl, h4, fun v hv => ?_, by simpa using hk2⟩
      obtain ⟨e, he, hv⟩ := List.mem_flatten.1 hv
      obtain ⟨q, _, rfl⟩ := List.mem_map.1 he
      simp only [idC, List.mem_cons, List.not_mem_nil, or_false] at hv
      rcases hv with rfl | rfl <;> simp [oldV]
theorem mixed : Tryz.prog.follows .mixedOrders = true := by kernel_rfl
noncomputable def conS : FuncId → Option ConD := lookC [(302, cSortI 219)]
theorem conS_ok : ConOK Tryz.prog conS := con_cons con_nil (sortI_ok Tryz.sortId Tryz.isAgg27 Tryz.sizeOf27 219 (enters_of Tryz.func219 (by kernel_rfl) rfl) fun x y W => cmpId x y W)
theorem kids_ok (B : Nat) (w0 : W0) : ConOne Tryz.prog B w0 266 kidsK := by
  refine one_out mixed conS_ok rfl (fun avs h K hc => ?_) B w0
  unfold kidsK at hc
  split at hc
  case h_2 => exact hc.elim
  rename_i t i
  obtain ⟨o, off, e1, hc2⟩ := asPtr_iff.1 hc
  clear hc
  obtain ⟨h1, hc⟩ := gd_iff.1 hc2
  clear hc2
  simp only [Bool.and_eq_true, Nat.blt_eq] at h1
  obtain ⟨h1, ho⟩ := h1
  have h0 := Nat.eq_of_beq_eq_true h1
  subst h0
  obtain ⟨l, e2, hc2⟩ := asAgg_iff.1 hc
  clear hc
  have hc := hc2
  clear hc2
  subst e1 e2
  split at hc
  case h_2 => exact hc.elim
  rename_i a b
  obtain ⟨e, he, hc⟩ := objAt_iff.1 hc
  obtain ⟨mv, hmv, hc⟩ := asOpt_iff.1 hc
  unfold kidsM at hc
  split at hc
  case h_2 => exact hc.elim
  rename_i m
  obtain ⟨em, hem, hc⟩ := objAt_iff.1 hc
  cases hob : em.obj with
  | map es clock =>
    rw [hob] at hc
    obtain ⟨kes, hkes, hc⟩ := asOpt_iff.1 (show asOpt (parE es) _ from hc)
    obtain ⟨hg, hc⟩ := gd_iff.1 hc
    simp only [Bool.and_eq_true, Nat.ble_eq, Nat.blt_eq] at hg
    obtain ⟨hmn, hg⟩ := hg
    refine ⟨kes.length + 2, ?_⟩
    show deepT (tabOf Tryz.prog) 266 (cfn Tryz.prog conS (kes.length + 2)) (kes.length + 2) [.ptr o 0, .agg (idC (a, b))] h (Out h K)
    rw [← s_movetree_Tree_Kids_eq]
    refine Kids_run (h := h) (o := o) (i := (a, b)) (m := m) (kes := kes) _ _ 0 (cfn_con rfl) (by omega) ⟨e, he, hmv⟩ ho ⟨hmn, ⟨em, clock, hem, by rw [hob, parE_ok es kes hkes], fun k hk => allLtB_ok clock _ hg.2.1 _ (List.mem_map_of_mem hk)⟩, nodupB_ok _ hg.1⟩ hg.2.2 fun v h' hx hv => kidsEnd_iff hc hx hv
  | row cs => rw [hob] at hc; exact hc.elim
  | big n t d => rw [hob] at hc; exact hc.elim
  | byts n x => rw [hob] at hc; exact hc.elim
  | sit n x p => rw [hob] at hc; exact hc.elim
  | mit m s l c => rw [hob] at hc; exact hc.elim
end Lg

