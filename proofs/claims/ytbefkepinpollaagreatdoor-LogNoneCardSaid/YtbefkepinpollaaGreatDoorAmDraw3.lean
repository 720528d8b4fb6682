/-
  A region that draws its order: to its end.
-/
import Derived.Test.YtbefkepinpollaaGreatDoorAmDraw2
namespace Go.Am
set_option linter.unusedSimpArgs false
set_option linter.unusedVariables false
open Go Go.RowKit
variable {P : Program} {B : Nat} {w0 : W0} {cf : CallK} {ops : Array Oper} {l : List AOper} {fr0 : Fr} {K : Fr → Hp → Prop} {items : List Item} {n : Nat}

def setV (val : Nat → AV) (i : Nat) (v : AV) : Nat → AV := fun j => if j = i then v else val j
theorem setV_self (val : Nat → AV) (i : Nat) (v : AV) : setV val i v i = v := by simp [setV]
theorem setV_ne (val : Nat → AV) {i j : Nat} (v : AV) (h : j ≠ i) : setV val i v j = val j := by simp [setV, h]
theorem compOps_len : ∀ (L : List Oper) (M : List AOper), compOps P n ops L = some M → M.length = L.length
  | [], M, hM => by simp [compOps] at hM; simp [← hM]
  | a :: L, M, hM => by
    simp only [compOps, Option.bind_eq_some_iff, Option.map_eq_some_iff] at hM
    obtain ⟨x, _, r, hr, rfl⟩ := hM
    simp [compOps_len L r hr]
theorem oper_of (hl : compOps P n ops ops.toList = some l) {i : Nat} {x : AOper} (hx : l[i]? = some x) : ∃ o, ops[i]? = some o ∧ compOper P n ops o = some x := by
  have h1 := compOps_len _ _ hl
  have h2 := (List.getElem?_eq_some_iff.1 hx).1
  have h3 : i < ops.size := by simp at h1; omega
  obtain ⟨x', q1, q2⟩ := compOps_get _ _ hl i ops[i] (by simp [h3])
  rw [hx] at q1; cases q1
  exact ⟨ops[i], by simp [h3], q2⟩

theorem RunAt.mono {o : Oper} {fr : Fr} {v : AV} {κ κ' : Kap} {h : Hp} (hk : κ.le κ') (hr : RunAt P B ops o fr v κ h) : RunAt P B ops o fr v κ' h :=
  fun w0 κ2 w2 a2 hle => hr w0 κ2 w2 a2 (Kap.le_trans hk hle)
theorem RunAt.frame {o : Oper} {fr fr' : Fr} {v : AV} {κ : Kap} {h : Hp} (he : ∀ t ∈ Oper.looksAt ops o, getS fr (gpos t) = getS fr' (gpos t)) (hr : RunAt P B ops o fr v κ h) : RunAt P B ops o fr' v κ h :=
  fun w0 κ2 w2 a2 hle s hl hw => hr w0 κ2 w2 a2 hle s (fun t ht => by rw [he t ht]; exact hl t ht) hw
theorem Pn.push {val val' : Nat → AV} {κ κ' : Kap} {h : Hp} {done : List Nat} {i j : Nat} (hk : κ.le κ') (hp : Pn P B ops l fr0 val κ h done i) (hv : ∀ k ∈ done, val' k = val k) : Pn P B ops l fr0 val' κ' h (done ++ [j]) i := by
  obtain ⟨D, E, o, x, h1, h2, h3, h4, h5, h6⟩ := hp
  have hD : FL ops val' D fr0 = FL ops val D fr0 := FL_congr D fr0 (fun k hk => hv k (by rw [h1]; simp [hk]))
  have hi : val' i = val i := hv i (by rw [h1]; simp)
  refine ⟨D, E ++ [j], o, x, by rw [h1]; simp, h2, h3, ?_, ?_, ?_⟩
  · rw [hD, hi]; exact h4.mono hk
  · rw [hD, hi]; exact h5
  · intro hr h2
    rw [hD, hi]; exact (h6 hr h2).mono hk

theorem chk_facts (hl : compOps P n ops ops.toList = some l) {fr : Fr} {h : Hp} {κ : Kap} (ht : Total κ fr) : ∀ (rest : List Item), (∀ x ∈ rest, ItemOf l x) → itemsD rest cf fr h K → ∀ i ∈ chkRun rest, ∀ o, ops[i]? = some o →
    ∃ x d, l[i]? = some x ∧ x.dst = some d ∧ RunAt P B ops o fr (getS fr d) κ h
  | [], _, _, i, hi, o, ho => by simp [chkRun] at hi
  | .ex j x :: r, _, _, i, hi, o, ho => by simp [chkRun] at hi
  | .chk j d op g :: r, hof, hD, i, hi, o, ho => by
    obtain ⟨x, hx, hd, hxo, hg⟩ := hof (.chk j d op g) (by simp)
    have hD' : grdK g fr (op fr h fun v _ => gd (sameV v (getS fr d)) (itemsD r cf fr h K)) (itemsD r cf fr h K) := by rw [← chkD_eq]; exact hD
    have ho' := oper_of hl hx
    obtain ⟨oj, hoj, hcomp⟩ := ho'
    obtain ⟨_, hop, hgd⟩ := compOper_parts hcomp
    have hsel : ∀ cs b, oj.op ≠ .select cs b := by
      simp only [compOper, Option.bind_eq_some_iff, Option.map_eq_some_iff] at hcomp
      obtain ⟨_, _, a, h2, _⟩ := hcomp
      exact no_select h2
    have hread : ReadOK P op oj := by rw [hxo] at hop; simpa [AopOK] using hop
    obtain ⟨_, hR, hG⟩ := grdK_map (α := Unit) (R := fun _ => itemsD r cf fr h K) (A' := fun _ => ∀ (w0 : W0) κ ρ w, Sim B w0 κ h w → Rho κ fr ρ → ∃ V, gam κ (getS fr d) = some V ∧ (execOp ρ oj).run P w = .ok (.value V) w) (C' := fun _ => True) hD'
      (fun hA => by
        obtain ⟨av, hK, hrest⟩ := hread fr h _ hA
        obtain ⟨hs, hK⟩ := gd_iff.1 hK
        have e := sameV_eq hs
        exact ⟨(), hK, fun w0 κ ρ w s hr => by rw [← e]; exact hrest B w0 κ ρ w s hr⟩) (fun hC => ⟨(), hC, trivial⟩)
    simp only [chkRun, List.mem_cons] at hi
    rcases hi with rfl | hi
    · rw [hoj] at ho; cases ho
      refine ⟨x, d, hx, hd, fun w0 κ2 w2 a2 hle s2 hlk hwant => ?_⟩
      obtain ⟨ρ, r1, r2, r3, r4, r5⟩ := Total.rho (fun t => let ⟨V, hV⟩ := ht t; ⟨V, gam_mono hle _ _ hV⟩ : Total κ2 fr)
      rw [← hg] at hG
      obtain ⟨_, _, hu⟩ := grdK_map (α := Unit) (R := fun _ => True) (A' := fun _ => ∃ V, gam κ2 (getS fr d) = some V ∧ (execOp ρ o).run P w2 = .ok (.value V) w2) (C' := fun _ => True) hG (fun hA => ⟨(), trivial, hA w0 κ2 ρ w2 s2 r1⟩) (fun _ => ⟨(), trivial, trivial⟩)
      rcases guard_ok (n := n) (κ := κ2) hgd rfl (tmps := a2.tmps) (fun j want hgj oj' d' h1 h2 => hlk d' (looks_guard hgj h1 h2)) hu with ⟨_, hA⟩ | ⟨hw', _⟩
      · rw [exec_same hsel r2 r3 r4 r5 hlk]; exact hA
      · rw [hw'] at hwant; cases hwant
    · exact chk_facts hl ht r (fun x hx => hof x (by simp [hx])) hR i hi o ho

theorem chks_looks {ms : List Nat} : ∀ (r : List Item) (done : List Nat), chksOK ops l ms done r = true → ∀ i ∈ chkRun r, (looksA ops i).any (fun t => dstAt ops i == some t) = false
  | [], done, h, i, hi => by simp [chkRun] at hi
  | .ex j x :: r, done, h, i, hi => by simp [chkRun] at hi
  | .chk j d op g :: r, done, h, i, hi => by
    simp only [chksOK, Bool.and_eq_true, Bool.not_eq_true'] at h
    simp only [chkRun, List.mem_cons] at hi
    rcases hi with rfl | hi
    · exact h.1.2
    · exact chks_looks r done h.2 i hi
theorem chkRun_chkd : ∀ (r : List Item) (i : Nat), i ∈ chkRun r → i ∈ chkd r
  | [], i, h => by simp [chkRun] at h
  | .ex j x :: r, i, h => by simp [chkRun] at h
  | .chk j d op g :: r, i, h => by
    simp only [chkRun, chkd, List.mem_cons] at h ⊢
    exact h.imp id (chkRun_chkd r i)

/-- The machine goes on to the next acting operation. -/
theorem adv {gi : Option Nat} (hgi : ∀ A, gi = some A → actAt l A = true) (hl : compOps P n ops ops.toList = some l) (hnd : (ordOf items).Nodup) {S : Nat → Bool} {h : Hp} {κ : Kap} (hw : ∃ w, Sim B w0 κ h w) : ∀ (rest : List Item) (done : List Nat) (val : Nat → AV), St P B cf ops l fr0 K items gi S done rest val h κ →
    ∃ done2 rest2 val2, St P B cf ops l fr0 K items gi S done2 rest2 val2 h κ ∧ (rest2 = [] ∨ ∃ s x r, rest2 = .ex s x :: r ∧ actAt l s = true) ∧ (∀ i ∈ done, val2 i = val i) ∧ ∃ E, done2 = done ++ E ∧ ∀ j ∈ E, S j = false
  | [], done, val, st => ⟨done, [], val, st, .inl rfl, fun _ _ => rfl, [], by simp, by simp⟩
  | .chk i d op g :: r, done, val, st => by
    have hD' : grdK g (FL ops val done fr0) (op (FL ops val done fr0) h fun v _ => gd (sameV v (getS (FL ops val done fr0) d)) (itemsD r cf (FL ops val done fr0) h K)) (itemsD r cf (FL ops val done fr0) h K) := by rw [← chkD_eq]; exact st.run
    obtain ⟨x, hx, hd, hxo, hg⟩ := st.of (.chk i d op g) (by simp)
    have hrun : itemsD r cf (FL ops val done fr0) h K := by
      have hoj := oper_of hl hx
      obtain ⟨oj, hoj, hcomp⟩ := hoj
      obtain ⟨_, hop, _⟩ := compOper_parts hcomp
      have hread : ReadOK P op oj := by rw [hxo] at hop; simpa [AopOK] using hop
      obtain ⟨_, hR, _⟩ := grdK_map (α := Unit) (R := fun _ => itemsD r cf (FL ops val done fr0) h K) (A' := fun _ => True) (C' := fun _ => True) hD'
        (fun hA => by
          obtain ⟨av, hK, _⟩ := hread _ h _ hA
          exact ⟨(), (gd_iff.1 hK).2, trivial⟩) (fun hC => ⟨(), hC, trivial⟩)
      exact hR
    have hc := st.chk
    simp only [chksOK, Bool.and_eq_true] at hc
    exact adv hgi hl hnd hw r done val ⟨st.ord, hrun, fun x hx => st.of x (by simp [hx]), hc.2, fun x hx => st.sub x (by simp [chkd, hx]), st.sdone, st.acts, st.rep, st.pend, st.tot⟩
  | .ex i x :: r, done, val, st => by
    by_cases hact : actAt l i = true
    · exact ⟨done, _, val, st, .inr ⟨i, x, r, rfl, hact⟩, fun _ _ => rfl, [], by simp, by simp⟩
    · have hx : l[i]? = some x := st.of (.ex i x) (by simp)
      have ha : actsB x.op = false := by simpa [actAt, hx] using hact
      obtain ⟨o, ho, hcomp⟩ := oper_of hl hx
      have hidone : i ∉ done := by
        have h1 := hnd
        rw [st.ord] at h1
        simp only [ordOf] at h1
        intro hi
        exact (List.nodup_append.1 h1).2.2 i hi i (by simp) rfl
      have hSi : S i = false := by
        cases hS : S i with
        | false => rfl
        | true =>
          rcases st.sdone i hS with q | q
          · exact absurd q hidone
          · exact absurd (hgi i q.symm) hact
      obtain ⟨v, hR, hrep, hrun, hpg, hall⟩ := silent (P := P) (B := B) (w0 := w0) hcomp ha (show stepD x (itemsD r) cf (FL ops val done fr0) h K from st.run) (st.tot.FL done fr0 st.rep) hw
      have hv2 : ∀ k ∈ done, (setV val i v) k = val k := fun k hk => setV_ne _ _ (fun e => hidone (by rw [← e]; exact hk))
      have hFL : FL ops (setV val i v) done fr0 = FL ops val done fr0 := FL_congr done fr0 hv2
      have hdx : x.dst = (dstAt ops i).map gpos := by
        have := (dstOf_eq (compOper_parts hcomp).1).1
        rw [this]; simp [dstAt, ho]
      have hc := st.chk
      simp only [chksOK, Bool.and_eq_true] at hc
      obtain ⟨done2, rest2, val2, st2, h3, h4, E, h5, h6⟩ := adv hgi hl hnd hw r (done ++ [i]) (setV val i v) ⟨by rw [st.ord]; simp [ordOf], by
          rw [FL_snoc, hFL, ← hdx, setV_self]; exact hR, fun x hx => st.of x (by simp [hx]), hc.2, fun x hx => st.sub x (by simp [chkd, hx]),
        fun j hj => (st.sdone j hj).imp (fun q => by simp [q]) id, fun j hj hja => by
          rcases List.mem_append.1 hj with hj | hj
          · exact st.acts j hj hja
          · simp at hj; subst hj; exact absurd hja hact,
        fun j hj => by
          rcases List.mem_append.1 hj with hj | hj
          · rw [hv2 j hj]; exact st.rep j hj
          · simp at hj; subst hj; rw [setV_self]; exact hrep,
        fun j hj hS => by
          rcases List.mem_append.1 hj with hj | hj
          · exact (st.pend j hj hS).push κ.le_refl hv2
          · simp at hj; subst hj
            refine ⟨done, [], o, x, by simp, ho, hx, ?_, ?_, ?_⟩
            · rw [hFL, setV_self]; exact hrun
            · rw [hFL, setV_self]; exact hpg
            · intro hr h2; rw [hFL, setV_self]; exact hall hr h2,
        st.tot⟩
      refine ⟨done2, rest2, val2, st2, h3, fun j hj => by rw [h4 j (by simp [hj]), hv2 j hj], i :: E, by rw [h5]; simp, fun j hj => ?_⟩
      rcases List.mem_cons.1 hj with rfl | hj
      · exact hSi
      · exact h6 j hj

end Go.Am
