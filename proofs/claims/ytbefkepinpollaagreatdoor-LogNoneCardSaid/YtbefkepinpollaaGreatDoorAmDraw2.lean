/-
  A region that draws its order: the walk.
-/
import Derived.Test.YtbefkepinpollaaGreatDoorAmDraw
namespace Go.Am
set_option linter.unusedSimpArgs false
set_option linter.unusedVariables false
open Go Go.RowKit
variable {P : Program}

def ItemOf (l : List AOper) : Item → Prop
  | .ex i a => l[i]? = some a
  | .chk i d op g => ∃ a, l[i]? = some a ∧ a.dst = some d ∧ a.op = .op op false true ∧ a.guard = g
theorem dops_of : ∀ (L : List Oper) (M : List AOper) (k : Nat) (x : DOp), x ∈ dops k L M → k ≤ x.i ∧ M[x.i - k]? = some x.a
  | [], M, k, x, h => by simp [dops] at h
  | o :: L, [], k, x, h => by simp [dops] at h
  | o :: L, a :: M, k, x, h => by
    simp only [dops, List.mem_cons] at h
    rcases h with rfl | h
    · simp
    · obtain ⟨h1, h2⟩ := dops_of L M (k + 1) x h
      refine ⟨by omega, ?_⟩
      rw [show x.i - k = (x.i - (k + 1)) + 1 by omega]
      simpa using h2
theorem chksFor_of {l : List AOper} {ms : List Nat} {s : Nat} : ∀ (ds : List DOp), (∀ d ∈ ds, l[d.i]? = some d.a) → ∀ x ∈ chksFor ms s ds, ItemOf l x
  | [], _, x, hx => by simp [chksFor] at hx
  | d :: ds, h, x, hx => by
    simp only [chksFor, List.mem_append] at hx
    rcases hx with hx | hx
    · split at hx
      · rename_i dd op' a r hb hd ho
        simp only [List.mem_singleton] at hx
        subst hx
        simp only [ho, readsB, Bool.and_eq_true, Bool.not_eq_true'] at hb
        obtain ⟨⟨rfl, rfl⟩, _⟩ := hb
        exact ⟨d.a, h d (by simp), hd, ho, rfl⟩
      · simp at hx
    · exact chksFor_of ds (fun d hd => h d (by simp [hd])) x hx
theorem layOut_of {l : List AOper} {ms : List Nat} : ∀ (f : Nat) (todo done : List DOp), (∀ d ∈ todo, l[d.i]? = some d.a) → (∀ d ∈ done, l[d.i]? = some d.a) → ∀ x ∈ layOut ms f todo done, ItemOf l x
  | 0, todo, done, _, _, x, hx => by simp [layOut] at hx
  | f + 1, todo, done, h1, h2, x, hx => by
    simp only [layOut, List.mem_append] at hx
    have hnow : ∀ d ∈ todo.filter (fun x => !(actsB x.a.op) && (todo.filter fun x => actsB x.a.op).all fun s => !((ms.getD x.i 0).testBit s.i)), l[d.i]? = some d.a := fun d hd => h1 d (List.mem_filter.1 hd).1
    rcases hx with hx | hx
    · obtain ⟨d, hd, rfl⟩ := List.mem_map.1 hx
      exact hnow d hd
    · split at hx
      · simp at hx
      · rename_i s r hs
        have hsm : s ∈ todo := by
          have : s ∈ s :: r := by simp
          rw [← hs] at this
          exact (List.mem_filter.1 (List.mem_filter.1 this).1).1
        have hdone : ∀ d ∈ done ++ todo.filter (fun x => !(actsB x.a.op) && (todo.filter fun x => actsB x.a.op).all fun s => !((ms.getD x.i 0).testBit s.i)), l[d.i]? = some d.a := fun d hd => by
          rcases List.mem_append.1 hd with hd | hd
          · exact h2 d hd
          · exact hnow d hd
        simp only [List.cons_append, List.mem_cons, List.mem_append] at hx
        rcases hx with rfl | hx | hx
        · exact h1 s hsm
        · exact chksFor_of _ hdone x hx
        · refine layOut_of f _ _ (fun d hd => h1 d (List.mem_filter.1 (List.mem_filter.1 hd).1).1) (fun d hd => ?_) x hx
          rcases List.mem_append.1 hd with hd | hd
          · exact hdone d hd
          · simp at hd; subst hd; exact h1 _ hsm
theorem drawItems_of {ops : Array Oper} {l : List AOper} : ∀ x ∈ drawItems ops l, ItemOf l x := by
  refine layOut_of _ _ _ (fun d hd => ?_) (fun d hd => by simp at hd)
  have := (dops_of _ _ _ _ hd).2
  simpa using this

theorem drawItemsS_of {σ : List Nat} {ops : Array Oper} {l : List AOper} : ∀ x ∈ drawItemsS σ ops l, ItemOf l x := by
  refine layOut_of _ _ _ (fun d hd => ?_) (fun d hd => by simp at hd)
  have hd' : d ∈ dops 0 ops.toList l := by
    rcases List.mem_append.1 hd with hd | hd
    · obtain ⟨i, _, hi⟩ := List.mem_filterMap.1 hd
      exact List.mem_of_getElem? hi
    · exact (List.mem_filter.1 hd).1
  have := (dops_of _ _ _ _ hd').2
  simpa using this

section
variable (P) (B : Nat) (cf : CallK) (ops : Array Oper) (l : List AOper) (fr0 : Fr) (K : Fr → Hp → Prop) (items : List Item) (gi : Option Nat)

def RunAt (o : Oper) (fr : Fr) (v : AV) (κ : Kap) (h : Hp) : Prop :=
  ∀ (w0 : W0) κ2 w2 (a2 : Act), κ.le κ2 → Sim B w0 κ2 h w2 → (∀ t ∈ Oper.looksAt ops o, gam κ2 (getS fr (gpos t)) = some (a2.tmps.getD t undef)) → Region.wanted o (yielded ops a2.tmps) = true →
    ∃ V, gam κ2 v = some V ∧ (execOp a2.eval o).run P w2 = .ok (.value V) w2
def Pn (val : Nat → AV) (κ : Kap) (h : Hp) (done : List Nat) (i : Nat) : Prop :=
  ∃ D E o x, done = D ++ i :: E ∧ ops[i]? = some o ∧ l[i]? = some x ∧ RunAt P B ops o (FL ops val D fr0) (val i) κ h ∧
    grdK x.guard (FL ops val D fr0) True (val i = undefV) ∧ (readsB x.op = false → ∀ h2, RunAt P B ops o (FL ops val D fr0) (val i) κ h2)

structure St (S : Nat → Bool) (done : List Nat) (rest : List Item) (val : Nat → AV) (h : Hp) (κ : Kap) : Prop where
  ord : ordOf items = done ++ ordOf rest
  run : itemsD rest cf (FL ops val done fr0) h K
  of : ∀ x ∈ rest, ItemOf l x
  chk : chksOK ops l (masks ops.toList []) done rest = true
  sub : ∀ x ∈ chkd rest, x ∈ chkd items
  sdone : ∀ i, S i = true → i ∈ done ∨ some i = gi
  acts : ∀ i ∈ done, actAt l i = true → S i = true
  rep : ∀ i ∈ done, ∃ V, gam κ (val i) = some V
  pend : ∀ i ∈ done, S i = false → Pn P B ops l fr0 val κ h done i
  tot : Total κ fr0
end

theorem grdK_map {g : Option (GPos × Bool)} {fr : Fr} {A C : Prop} {α : Type} {R : α → Prop} {A' C' : α → Prop} (h : grdK g fr A C) (hA : A → ∃ v, R v ∧ A' v) (hC : C → ∃ v, R v ∧ C' v) : ∃ v, R v ∧ grdK g fr (A' v) (C' v) := by
  cases g with
  | none => exact hA h
  | some g =>
    have h0 : Bool.rec (motive := fun _ => Prop) (asBool (getS fr g.1) fun b => Bool.rec (motive := fun _ => Prop) C A (b == g.2)) C (isUndef (getS fr g.1)) := h
    have back : ∀ v, Bool.rec (motive := fun _ => Prop) (asBool (getS fr g.1) fun b => Bool.rec (motive := fun _ => Prop) (C' v) (A' v) (b == g.2)) (C' v) (isUndef (getS fr g.1)) → grdK (some g) fr (A' v) (C' v) := fun v hv => hv
    cases hu : isUndef (getS fr g.1) with
    | true =>
      rw [hu] at h0
      obtain ⟨v, h1, h2⟩ := hC h0
      exact ⟨v, h1, back v (by rw [hu]; exact h2)⟩
    | false =>
    rw [hu] at h0
    obtain ⟨b, e, h⟩ := asBool_iff.1 (show asBool (getS fr g.1) _ from h0)
    cases hb : (b == g.2) with
    | true =>
      have h' : Bool.rec (motive := fun _ => Prop) C A (b == g.2) := h
      rw [hb] at h'
      obtain ⟨v, h1, h2⟩ := hA h'
      refine ⟨v, h1, back v ?_⟩
      rw [hu]
      refine asBool_iff.2 ⟨b, e, ?_⟩
      show Bool.rec (motive := fun _ => Prop) (C' v) (A' v) (b == g.2)
      rw [hb]; exact h2
    | false =>
      have h' : Bool.rec (motive := fun _ => Prop) C A (b == g.2) := h
      rw [hb] at h'
      obtain ⟨v, h1, h2⟩ := hC h'
      refine ⟨v, h1, back v ?_⟩
      rw [hu]
      refine asBool_iff.2 ⟨b, e, ?_⟩
      show Bool.rec (motive := fun _ => Prop) (C' v) (A' v) (b == g.2)
      rw [hb]; exact h2
theorem looks_guard {ops : Array Oper} {o : Oper} {j : Nat} {want : Bool} {oj : Oper} {d : Tmp} (hg : o.guard = some (j, want)) (hj : ops[j]? = some oj) (hd : oj.dst = some d) : d ∈ Oper.looksAt ops o := by
  unfold Oper.looksAt
  refine List.mem_append.2 (.inr ?_)
  simp [hg, hj, hd]

/-- A silent operation: its value, and what the model's does whenever it is done. -/
theorem silent {B : Nat} {w0 : W0} {cf : CallK} {ops : Array Oper} {n : Nat} {o : Oper} {x : AOper} (hx : compOper P n ops o = some x) (ha : actsB x.op = false) {fr : Fr} {h : Hp} {rest : RegD} {K : Fr → Hp → Prop} (hD : stepD x rest cf fr h K)
    {κ : Kap} (ht : Total κ fr) (hw : ∃ w, Sim B w0 κ h w) :
    ∃ v, rest cf (updD x.dst v fr) h K ∧ (∃ V, gam κ v = some V) ∧ RunAt P B ops o fr v κ h ∧ grdK x.guard fr True (v = undefV) ∧ (readsB x.op = false → ∀ h2, RunAt P B ops o fr v κ h2) := by
  obtain ⟨hd, hop, hg⟩ := compOper_parts hx
  have hsel : ∀ cs b, o.op ≠ .select cs b := by
    simp only [compOper, Option.bind_eq_some_iff, Option.map_eq_some_iff] at hx
    obtain ⟨_, _, a, h2, _⟩ := hx
    exact no_select h2
  cases hxo : x.op with
  | call f args => rw [hxo] at ha; simp [actsB] at ha
  | callv f args => rw [hxo] at ha; simp [actsB] at ha
  | callm f sel args => rw [hxo] at ha; simp [actsB] at ha
  | brop d => rw [hxo] at ha; simp [actsB] at ha
  | op d acts reads =>
    rw [hxo] at ha hop
    simp only [actsB] at ha
    subst ha
    have hread : ReadOK P d o := by
      cases reads
      · exact (by simpa [AopOK] using hop : PureOK P d o).read
      · simpa [AopOK] using hop
    have hD' : grdK x.guard fr (d fr h fun v h => putD x.dst v fr fun fr => rest cf fr h K) (putD x.dst undefV fr fun fr => rest cf fr h K) := by
      have : grdK x.guard fr (runOp x.op cf fr h fun v h => putD x.dst v fr fun fr => rest cf fr h K) (putD x.dst undefV fr fun fr => rest cf fr h K) := by rw [← stepD_eq]; exact hD
      rwa [hxo] at this
    obtain ⟨v, hR, hG⟩ := grdK_map (R := fun v => rest cf (updD x.dst v fr) h K)
      (A' := fun v => (∀ (w0 : W0) κ ρ w, Sim B w0 κ h w → Rho κ fr ρ → ∃ V, gam κ v = some V ∧ (execOp ρ o).run P w = .ok (.value V) w) ∧ (reads = false → ∀ κ ρ w, Rho κ fr ρ → ∃ V, gam κ v = some V ∧ (execOp ρ o).run P w = .ok (.value V) w))
      (C' := fun v => v = undefV) hD'
      (fun hA => by
        cases hrd : reads with
        | false =>
          rw [hrd] at hop
          have hp : PureOK P d o := by simpa [AopOK] using hop
          obtain ⟨av, hK, hrest⟩ := hp fr h _ hA
          rw [putD_iff] at hK
          exact ⟨av, hK, fun _ κ ρ w _ hr => hrest κ ρ w hr, fun _ κ ρ w hr => hrest κ ρ w hr⟩
        | true =>
          obtain ⟨av, hK, hrest⟩ := hread fr h _ hA
          rw [putD_iff] at hK
          exact ⟨av, hK, fun w0 κ ρ w s hr => hrest B w0 κ ρ w s hr, fun h => by cases h⟩)
      (fun hC => ⟨undefV, by rwa [putD_iff] at hC, rfl⟩)
    have mk : ∀ h2, (∀ (w0 : W0) κ ρ w, Sim B w0 κ h2 w → Rho κ fr ρ → grdK x.guard fr (∃ V, gam κ v = some V ∧ (execOp ρ o).run P w = .ok (.value V) w) True) → RunAt P B ops o fr v κ h2 := by
      intro h2 hh w0 κ2 w2 a2 hle s2 hl hwant
      obtain ⟨ρ, r1, r2, r3, r4, r5⟩ := Total.rho (fun t => let ⟨V, hV⟩ := ht t; ⟨V, gam_mono hle _ _ hV⟩ : Total κ2 fr)
      rcases guard_ok (n := n) (κ := κ2) hg rfl (tmps := a2.tmps) (fun j want hgj oj d' h1 h2 => hl d' (looks_guard hgj h1 h2)) (hh w0 κ2 ρ w2 s2 r1) with ⟨_, hA⟩ | ⟨hw', _⟩
      · rw [exec_same hsel r2 r3 r4 r5 hl]; exact hA
      · rw [hw'] at hwant; cases hwant
    refine ⟨v, hR, ?_, mk h (fun w0 κ2 ρ w s hr => ?_), ?_, fun hrf h2 => mk h2 (fun w0 κ2 ρ w s hr => ?_)⟩
    · obtain ⟨w, s⟩ := hw
      obtain ⟨ρ, r1, _⟩ := Total.rho ht
      obtain ⟨u, hu, _⟩ := grdK_map (α := Unit) (R := fun _ => ∃ V, gam κ v = some V) (A' := fun _ => True) (C' := fun _ => True) hG
        (fun hA => ⟨(), let ⟨V, hV, _⟩ := hA.1 _ κ ρ w s r1; ⟨V, hV⟩, trivial⟩) (fun hC => ⟨(), ⟨undef, by rw [hC]; rfl⟩, trivial⟩)
      exact hu
    · obtain ⟨_, _, hu⟩ := grdK_map (α := Unit) (R := fun _ => True) (A' := fun _ => ∃ V, gam κ2 v = some V ∧ (execOp ρ o).run P w = .ok (.value V) w) (C' := fun _ => True) hG
        (fun hA => ⟨(), trivial, hA.1 w0 κ2 ρ w s hr⟩) (fun _ => ⟨(), trivial, trivial⟩)
      exact hu
    · obtain ⟨_, _, hu⟩ := grdK_map (α := Unit) (R := fun _ => True) (A' := fun _ => True) (C' := fun _ => v = undefV) hG (fun _ => ⟨(), trivial, trivial⟩) (fun h => ⟨(), trivial, h⟩)
      exact hu
    · obtain ⟨_, _, hu⟩ := grdK_map (α := Unit) (R := fun _ => True) (A' := fun _ => ∃ V, gam κ2 v = some V ∧ (execOp ρ o).run P w = .ok (.value V) w) (C' := fun _ => True) hG
        (fun hA => ⟨(), trivial, hA.2 (by
          cases reads
          · rfl
          · simp [readsB] at hrf) κ2 ρ w hr⟩) (fun _ => ⟨(), trivial, trivial⟩)
      exact hu

end Go.Am
