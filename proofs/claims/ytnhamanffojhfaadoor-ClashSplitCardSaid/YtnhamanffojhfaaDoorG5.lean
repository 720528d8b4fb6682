/-
  What functions of the program do, said of the abstract machine, and plain lemmas: LgTab16S LcArg LcGv. No condition.
-/
import Derived.Test.YtnhamanffojhfaaDoorG4
import Derived.KernelRfl
import Derived.Test.YtnhamanffojhfaaDoorRows
import Derived.Stop.LaidErr
import Derived.Lib.LaidTab
import Derived.Lib.AppendIntMem
namespace Lg
set_option linter.unusedSimpArgs false
set_option linter.unusedVariables false
set_option maxRecDepth 100000
open Go Go.Am Go.Proofs
open Go.Proofs.YtnhamanffojhfaaDoor.shl
theorem mixed : Tryd.prog.follows .mixedOrders = true := by kernel_rfl
set_option maxRecDepth 1000000 in
theorem begun_runs : RunsTrue Tryd.prog (lookC []) 1000 30 7 = True := by kernel_rfl
set_option maxRecDepth 1000000 in
theorem set3_runs : RunsTo Tryd.prog (lookC []) 1000 3 80 [S [0, 1, 47]] (.tup [.agg set3, .bool true]) = True := by kernel_rfl
variable {B : Nat} {W : World}
noncomputable def L0 : List (Nat × ConD) := []
theorem ok0 (hG : GV B W) : ConAt Tryd.prog (lookC L0) B W := con_nil_at
theorem one1 (hG : GV B W) (w0 : W0) (hw : w0.w = W) : ConOne Tryd.prog B w0 10 (cIdB validB) := one_pure_at mixed (ok0 hG) rfl (fun avs h K hc => by
  obtain ⟨t, n, rfl, hK⟩ := hc
  exact ⟨_, by simp [oldV, oldVs], hK, 0, fun K2 hK2 => Eq.mp (s_lagoonref4_Valid_eq ..) (Valid_run _ _ t n hK2)⟩) w0 hw
noncomputable def L1 : List (Nat × ConD) := (10, cIdB validB) :: L0
theorem ok1 (hG : GV B W) : ConAt Tryd.prog (lookC L1) B W := con_cons_at (ok0 hG) (one1 hG)
theorem one2 (hG : GV B W) (w0 : W0) (hw : w0.w = W) : ConOne Tryd.prog B w0 12 (cIdB2 sameI) := one_pure_at mixed (ok1 hG) rfl (fun avs h K hc => by
  obtain ⟨t, n, t', n', rfl, hK⟩ := hc
  exact ⟨_, by simp [oldV, oldVs], hK, 0, fun K2 hK2 => Eq.mp (s_lagoonref4_Same_eq ..) (Same_run _ _ t n t' n' hK2)⟩) w0 hw
noncomputable def L2 : List (Nat × ConD) := (12, cIdB2 sameI) :: L1
theorem ok2 (hG : GV B W) : ConAt Tryd.prog (lookC L2) B W := con_cons_at (ok1 hG) (one2 hG)
theorem one3 (hG : GV B W) (w0 : W0) (hw : w0.w = W) : ConOne Tryd.prog B w0 26 (cIdB2 lessI) := one_pure_at mixed (ok2 hG) rfl (fun avs h K hc => by
  obtain ⟨t, n, t', n', rfl, hK⟩ := hc
  exact ⟨_, by simp [oldV, oldVs], hK, 0, fun K2 hK2 => Eq.mp (s_lagoonref4_Less_eq ..) (Less_run _ _ t n t' n' hK2)⟩) w0 hw
noncomputable def L3 : List (Nat × ConD) := (26, cIdB2 lessI) :: L2
theorem ok3 (hG : GV B W) : ConAt Tryd.prog (lookC L3) B W := con_cons_at (ok2 hG) (one3 hG)
theorem one4 (hG : GV B W) (w0 : W0) (hw : w0.w = W) : ConOne Tryd.prog B w0 43 (cIB fun n => decide (0 ≤ n) && decide (n < 64)) := one_pure_at mixed (ok3 hG) rfl (fun avs h K hc => by
  obtain ⟨n, rfl, hK⟩ := hc
  exact ⟨_, by simp [oldV, oldVs], hK, 0, fun K2 hK2 => Eq.mp (s_clock_node_eq ..) (node_run _ _ n hK2)⟩) w0 hw
noncomputable def L4 : List (Nat × ConD) := (43, cIB fun n => decide (0 ≤ n) && decide (n < 64)) :: L3
theorem ok4 (hG : GV B W) : ConAt Tryd.prog (lookC L4) B W := con_cons_at (ok3 hG) (one4 hG)
theorem one5 (hG : GV B W) (w0 : W0) (hw : w0.w = W) : ConOne Tryd.prog B w0 30 (cIdB validB) := one_pure_at mixed (ok4 hG) rfl (fun avs h K hc => by
  obtain ⟨t, n, rfl, hK⟩ := hc
  exact ⟨_, by simp [oldV, oldVs], hK, 0, fun K2 hK2 => Eq.mp (s_clock_Valid_eq ..) (clockValid_run _ _ (cfn_con rfl) t n hK2)⟩) w0 hw
noncomputable def L5 : List (Nat × ConD) := (30, cIdB validB) :: L4
theorem ok5 (hG : GV B W) : ConAt Tryd.prog (lookC L5) B W := con_cons_at (ok4 hG) (one5 hG)
theorem one6 (hG : GV B W) (w0 : W0) (hw : w0.w = W) : ConOne Tryd.prog B w0 67 (cNaN) := one_pure_at mixed (ok5 hG) rfl (fun avs h K hc => by
  obtain ⟨n, rfl, hK⟩ := hc
  exact ⟨_, by simp [oldV, oldVs], hK, 0, fun K2 hK2 => Eq.mp (s_cmp_isNaN_int64_eq ..) (isNaN64_run _ _ n hK2)⟩) w0 hw
noncomputable def L6 : List (Nat × ConD) := (67, cNaN) :: L5
theorem ok6 (hG : GV B W) : ConAt Tryd.prog (lookC L6) B W := con_cons_at (ok5 hG) (one6 hG)
theorem one7 (hG : GV B W) (w0 : W0) (hw : w0.w = W) : ConOne Tryd.prog B w0 68 (cNaN) := one_pure_at mixed (ok6 hG) rfl (fun avs h K hc => by
  obtain ⟨n, rfl, hK⟩ := hc
  exact ⟨_, by simp [oldV, oldVs], hK, 0, fun K2 hK2 => Eq.mp (s_cmp_isNaN_int_eq ..) (isNaN_run _ _ n hK2)⟩) w0 hw
noncomputable def L7 : List (Nat × ConD) := (68, cNaN) :: L6
theorem ok7 (hG : GV B W) : ConAt Tryd.prog (lookC L7) B W := con_cons_at (ok6 hG) (one7 hG)
theorem one8 (hG : GV B W) (w0 : W0) (hw : w0.w = W) : ConOne Tryd.prog B w0 52 (cCmp) := one_pure_at mixed (ok7 hG) rfl (fun avs h K hc => by
  obtain ⟨x, y, rfl, hK⟩ := hc
  exact ⟨_, by simp [oldV, oldVs], hK, 0, fun K2 hK2 => Eq.mp (s_cmp_Compare_int64_eq ..) (Compare64_run _ _ (cfn_con rfl) x y (hK2 h (Ext.refl h)))⟩) w0 hw
noncomputable def L8 : List (Nat × ConD) := (52, cCmp) :: L7
theorem ok8 (hG : GV B W) : ConAt Tryd.prog (lookC L8) B W := con_cons_at (ok7 hG) (one8 hG)
theorem one9 (hG : GV B W) (w0 : W0) (hw : w0.w = W) : ConOne Tryd.prog B w0 53 (cCmp) := one_pure_at mixed (ok8 hG) rfl (fun avs h K hc => by
  obtain ⟨x, y, rfl, hK⟩ := hc
  exact ⟨_, by simp [oldV, oldVs], hK, 0, fun K2 hK2 => Eq.mp (s_cmp_Compare_int_eq ..) (Compare_run _ _ (cfn_con rfl) x y (hK2 h (Ext.refl h)))⟩) w0 hw
noncomputable def L9 : List (Nat × ConD) := (53, cCmp) :: L8
theorem ok9 (hG : GV B W) : ConAt Tryd.prog (lookC L9) B W := con_cons_at (ok8 hG) (one9 hG)
theorem one10 (hG : GV B W) (w0 : W0) (hw : w0.w = W) : ConOne Tryd.prog B w0 40 (cIdI cmpI) := one_pure_at mixed (ok9 hG) rfl (fun avs h K hc => by
  obtain ⟨t, n, t', n', rfl, hK⟩ := hc
  exact ⟨_, by simp [oldV, oldVs], hK, 0, fun K2 hK2 => Eq.mp (s_clock_Cmp_eq ..) (Cmp_run _ _ (cfn_con rfl) (cfn_con rfl) t n t' n' hK2)⟩) w0 hw
noncomputable def L10 : List (Nat × ConD) := (40, cIdI cmpI) :: L9
theorem ok10 (hG : GV B W) : ConAt Tryd.prog (lookC L10) B W := con_cons_at (ok9 hG) (one10 hG)
theorem one11 (hG : GV B W) (w0 : W0) (hw : w0.w = W) : ConOne Tryd.prog B w0 25 (cIdB2 lessI) := one_pure_at mixed (ok10 hG) rfl (fun avs h K hc => by
  obtain ⟨t, n, t', n', rfl, hK⟩ := hc
  exact ⟨_, by simp [oldV, oldVs], hK, 0, fun K2 hK2 => Eq.mp (s_clock_Less_eq ..) (clockLess_run _ _ (cfn_con rfl) t n t' n' hK2)⟩) w0 hw
noncomputable def L11 : List (Nat × ConD) := (25, cIdB2 lessI) :: L10
theorem ok11 (hG : GV B W) : ConAt Tryd.prog (lookC L11) B W := con_cons_at (ok10 hG) (one11 hG)
theorem one12 (hG : GV B W) (w0 : W0) (hw : w0.w = W) : ConOne Tryd.prog B w0 69 (cIdxB) := one_pure_at mixed (ok11 hG) rfl (fun avs h K hc => by
  obtain ⟨l, b, rfl, h0, h1, hK⟩ := hc
  exact ⟨_, by simp [oldV, oldVs], hK, 0, fun K2 hK2 => Eq.mp (s_int_stringslite_IndexByte_eq ..) (litIndexByte_run _ _ l b h0 h1 hK2)⟩) w0 hw
noncomputable def L12 : List (Nat × ConD) := (69, cIdxB) :: L11
theorem ok12 (hG : GV B W) : ConAt Tryd.prog (lookC L12) B W := con_cons_at (ok11 hG) (one12 hG)
theorem one13 (hG : GV B W) (w0 : W0) (hw : w0.w = W) : ConOne Tryd.prog B w0 98 (cIdxB) := one_pure_at mixed (ok12 hG) rfl (fun avs h K hc => by
  obtain ⟨l, b, rfl, h0, h1, hK⟩ := hc
  exact ⟨_, by simp [oldV, oldVs], hK, 0, fun K2 hK2 => Eq.mp (s_strings_IndexByte_eq ..) (IndexByte_run _ _ (cfn_con rfl) l b h0 h1 hK2)⟩) w0 hw
noncomputable def L13 : List (Nat × ConD) := (98, cIdxB) :: L12
theorem ok13 (hG : GV B W) : ConAt Tryd.prog (lookC L13) B W := con_cons_at (ok12 hG) (one13 hG)
theorem one14 (hG : GV B W) (w0 : W0) (hw : w0.w = W) : ConOne Tryd.prog B w0 99 (cVR) := one_pure_at mixed (ok13 hG) rfl (fun avs h K hc => by
  obtain ⟨r, rfl, hK⟩ := hc
  exact ⟨_, by simp [oldV, oldVs], hK, 0, fun K2 hK2 => Eq.mp (s_unicode_utf8_ValidRune_eq ..) (ValidRune_run _ _ r hK2)⟩) w0 hw
noncomputable def L14 : List (Nat × ConD) := (99, cVR) :: L13
theorem ok14 (hG : GV B W) : ConAt Tryd.prog (lookC L14) B W := con_cons_at (ok13 hG) (one14 hG)
theorem one15 (hG : GV B W) (w0 : W0) (hw : w0.w = W) : ConOne Tryd.prog B w0 78 (cRune) := one_pure_at mixed (ok14 hG) rfl (fun avs h K hc => by
  obtain ⟨r, rfl, h0, h1, hK⟩ := hc
  exact ⟨_, by simp [oldV, oldVs], hK, 10, fun K2 hK2 => Eq.mp (s_strings_IndexRune_eq ..) (IndexRune_run _ _ (cfn_con rfl) (cfn_con rfl) r h0 h1 (by omega) hK2)⟩) w0 hw
noncomputable def L15 : List (Nat × ConD) := (78, cRune) :: L14
theorem ok15 (hG : GV B W) : ConAt Tryd.prog (lookC L15) B W := con_cons_at (ok14 hG) (one15 hG)
theorem one16 (hG : GV B W) (w0 : W0) (hw : w0.w = W) : ConOne Tryd.prog B w0 79 (cI1 fun n => decide (8 < n)) := one_pure_at mixed (ok15 hG) rfl (fun avs h K hc => by
  obtain ⟨n, rfl, hK⟩ := hc
  exact ⟨_, by simp [oldV, oldVs], hK, 0, fun K2 hK2 => Eq.mp (s_strings_shouldUseASCIISet_eq ..) (should_run _ _ n hK2)⟩) w0 hw
noncomputable def L16 : List (Nat × ConD) := (79, cI1 fun n => decide (8 < n)) :: L15
theorem ok16 (hG : GV B W) : ConAt Tryd.prog (lookC L16) B W := con_cons_at (ok15 hG) (one16 hG)
theorem one17 (hG : GV B W) (w0 : W0) (hw : w0.w = W) : ConOne Tryd.prog B w0 80 (cSet3) := one_to mixed con_nil 1000 3 80 [S [0, 1, 47]] (.tup [.agg set3, .bool true]) (by kernel_rfl) (by kernel_rfl) set3_runs B w0
noncomputable def L17 : List (Nat × ConD) := (80, cSet3) :: L16
theorem ok17 (hG : GV B W) : ConAt Tryd.prog (lookC L17) B W := con_cons_at (ok16 hG) (one17 hG)
theorem one18 (hG : GV B W) (w0 : W0) (hw : w0.w = W) : ConOne Tryd.prog B w0 81 (cContains) := one_pure_at mixed (ok17 hG) rfl (fun avs h K hc => by
  obtain ⟨o, e, f, b, rfl, he, h0, h1, hc, hK⟩ := hc
  exact ⟨_, by simp [oldV, oldVs], hK, 0, fun K2 hK2 => Eq.mp (s_strings_asciiSet_contains_eq ..) (contains_run _ _ o e f b he h0 h1 hc hK2)⟩) w0 hw
noncomputable def L18 : List (Nat × ConD) := (81, cContains) :: L17
theorem ok18 (hG : GV B W) : ConAt Tryd.prog (lookC L18) B W := con_cons_at (ok17 hG) (one18 hG)
theorem one19 (hG : GV B W) (w0 : W0) (hw : w0.w = W) : ConOne Tryd.prog B w0 57 (cIxAny) := one_pure_at mixed (ok18 hG) rfl (fun avs h K hc => by
  obtain ⟨l, rfl, hl, hK⟩ := hc
  exact ⟨_, by simp [oldV, oldVs], hK, l.length + 70, fun K2 hK2 => Eq.mp (s_strings_IndexAny_eq ..) (IndexAny_run _ _ (cfn_con rfl) (cfn_con rfl) (cfn_con rfl) (cfn_con rfl) l hl (by omega) hK2)⟩) w0 hw
noncomputable def L19 : List (Nat × ConD) := (57, cIxAny) :: L18
theorem ok19 (hG : GV B W) : ConAt Tryd.prog (lookC L19) B W := con_cons_at (ok18 hG) (one19 hG)
theorem one20 (hG : GV B W) (w0 : W0) (hw : w0.w = W) : ConOne Tryd.prog B w0 44 (cBad) := one_pure_at mixed (ok19 hG) rfl (fun avs h K hc => by
  obtain ⟨l, rfl, hl, hK⟩ := hc
  exact ⟨_, by simp [oldV, oldVs], hK, 0, fun K2 hK2 => Eq.mp (s_strings_ContainsAny_eq ..) (ContainsAny_run _ _ (cfn_con rfl) l hl hK2)⟩) w0 hw
noncomputable def L20 : List (Nat × ConD) := (44, cBad) :: L19
theorem ok20 (hG : GV B W) : ConAt Tryd.prog (lookC L20) B W := con_cons_at (ok19 hG) (one20 hG)
theorem one21 (hG : GV B W) (w0 : W0) (hw : w0.w = W) : ConOne Tryd.prog B w0 27 (cS localE) := one_pure_at mixed (ok20 hG) rfl (fun avs h K hc => by
  obtain ⟨l, rfl, hl, hK⟩ := hc
  exact ⟨_, by simp [oldV, oldVs], hK, l.length + 70, fun K2 hK2 => Eq.mp (s_lagoonref12_Local_eq ..) (Local_run _ _ l hl (by omega) hK2)⟩) w0 hw
noncomputable def L21 : List (Nat × ConD) := (27, cS localE) :: L20
theorem ok21 (hG : GV B W) : ConAt Tryd.prog (lookC L21) B W := con_cons_at (ok20 hG) (one21 hG)
theorem one22 (hG : GV B W) (w0 : W0) (hw : w0.w = W) : ConOne Tryd.prog B w0 11 (cS nameE) := one_pure_at mixed (ok21 hG) rfl (fun avs h K hc => by
  obtain ⟨l, rfl, hl, hK⟩ := hc
  exact ⟨_, by simp [oldV, oldVs], hK, l.length + 70, fun K2 hK2 => Eq.mp (s_lagoonref12_Name_eq ..) (refName_run _ _ (cfn_con rfl) l hl (by omega) hK2)⟩) w0 hw
noncomputable def L22 : List (Nat × ConD) := (11, cS nameE) :: L21
theorem ok22 (hG : GV B W) : ConAt Tryd.prog (lookC L22) B W := con_cons_at (ok21 hG) (one22 hG)
theorem one23 (hG : GV B W) (w0 : W0) (hw : w0.w = W) : ConOne Tryd.prog B w0 31 (cS nameE) := one_pure_at mixed (ok22 hG) rfl (fun avs h K hc => by
  obtain ⟨l, rfl, hl, hK⟩ := hc
  exact ⟨_, by simp [oldV, oldVs], hK, 0, fun K2 hK2 => Eq.mp (s_ops_Name_eq ..) (opsName_run _ _ (cfn_con rfl) l hl hK2)⟩) w0 hw
noncomputable def L23 : List (Nat × ConD) := (31, cS nameE) :: L22
theorem ok23 (hG : GV B W) : ConAt Tryd.prog (lookC L23) B W := con_cons_at (ok22 hG) (one23 hG)
theorem one24 (hG : GV B W) (w0 : W0) (hw : w0.w = W) : ConOne Tryd.prog B w0 54 (cIdx1) := one_code_at mixed (ok23 hG) rfl (fun avs h K hc => by
  obtain ⟨l, b, rfl, hK⟩ := hc
  exact ⟨0, Eq.mp (s_int_stringslite_Index_eq ..) (Index1_run _ _ (cfn_con rfl) l b hK)⟩) w0 hw
noncomputable def L24 : List (Nat × ConD) := (54, cIdx1) :: L23
theorem ok24 (hG : GV B W) : ConAt Tryd.prog (lookC L24) B W := con_cons_at (ok23 hG) (one24 hG)
theorem one25 (hG : GV B W) (w0 : W0) (hw : w0.w = W) : ConOne Tryd.prog B w0 41 (cCut) := one_code_at mixed (ok24 hG) rfl (fun avs h K hc => by
  obtain ⟨l, b, rfl, hl, hK⟩ := hc
  exact ⟨0, Eq.mp (s_int_stringslite_Cut_eq ..) (liteCut_run _ _ (cfn_con rfl) l b hl hK)⟩) w0 hw
noncomputable def L25 : List (Nat × ConD) := (41, cCut) :: L24
theorem ok25 (hG : GV B W) : ConAt Tryd.prog (lookC L25) B W := con_cons_at (ok24 hG) (one25 hG)
theorem one26 (hG : GV B W) (w0 : W0) (hw : w0.w = W) : ConOne Tryd.prog B w0 28 (cCut) := one_code_at mixed (ok25 hG) rfl (fun avs h K hc => by
  obtain ⟨l, b, rfl, hl, hK⟩ := hc
  exact ⟨0, Eq.mp (s_strings_Cut_eq ..) (Cut_run _ _ (cfn_con rfl) l b hl hK)⟩) w0 hw
noncomputable def L26 : List (Nat × ConD) := (28, cCut) :: L25
theorem ok26 (hG : GV B W) : ConAt Tryd.prog (lookC L26) B W := con_cons_at (ok25 hG) (one26 hG)
theorem one27 (hG : GV B W) (w0 : W0) (hw : w0.w = W) : ConOne Tryd.prog B w0 33 (cFmt) := fmt_one hG w0 hw
noncomputable def L27 : List (Nat × ConD) := (33, cFmt) :: L26
theorem ok27 (hG : GV B W) : ConAt Tryd.prog (lookC L27) B W := con_cons_at (ok26 hG) (one27 hG)
theorem one28 (hG : GV B W) (w0 : W0) (hw : w0.w = W) : ConOne Tryd.prog B w0 34 (cItoa) := itoa_one hG w0 hw
noncomputable def L28 : List (Nat × ConD) := (34, cItoa) :: L27
theorem ok28 (hG : GV B W) : ConAt Tryd.prog (lookC L28) B W := con_cons_at (ok27 hG) (one28 hG)
theorem one29 (hG : GV B W) (w0 : W0) (hw : w0.w = W) : ConOne Tryd.prog B w0 42 (cParse) := parse_one hG w0 hw
noncomputable def L29 : List (Nat × ConD) := (42, cParse) :: L28
theorem ok29 (hG : GV B W) : ConAt Tryd.prog (lookC L29) B W := con_cons_at (ok28 hG) (one29 hG)
theorem one30 (hG : GV B W) (w0 : W0) (hw : w0.w = W) : ConOne Tryd.prog B w0 15 (cSuf) := one_code_at mixed (ok29 hG) rfl (fun avs h K hc => by
  obtain ⟨t, n, rfl, hb, hK⟩ := hc
  exact ⟨0, Eq.mp (s_clash_Suffix_eq ..) (Suffix_run _ _ (cfn_con rfl) (cfn_con rfl) hb hK)⟩) w0 hw
noncomputable def L30 : List (Nat × ConD) := (15, cSuf) :: L29
theorem ok30 (hG : GV B W) : ConAt Tryd.prog (lookC L30) B W := con_cons_at (ok29 hG) (one30 hG)
theorem one31 (hG : GV B W) (w0 : W0) (hw : w0.w = W) : ConOne Tryd.prog B w0 29 (cNum) := one_code_at mixed (ok30 hG) rfl (fun avs h K hc => by
  obtain ⟨l, rfl, hl, h1, h2⟩ := hc
  exact ⟨0, Eq.mp (s_clash_number_eq ..) (number_run _ _ (cfn_con rfl) (cfn_con rfl) hl h1 h2)⟩) w0 hw
noncomputable def L31 : List (Nat × ConD) := (29, cNum) :: L30
theorem ok31 (hG : GV B W) : ConAt Tryd.prog (lookC L31) B W := con_cons_at (ok30 hG) (one31 hG)
theorem one32 (hG : GV B W) (w0 : W0) (hw : w0.w = W) : ConOne Tryd.prog B w0 13 (cSplit) := one_code_at mixed (ok31 hG) rfl (fun avs h K hc => by
  obtain ⟨l, rfl, hl, hK⟩ := hc
  exact ⟨0, Eq.mp (s_clash_Split_eq ..) (clashSplit_run _ _ (cfn_con rfl) (cfn_con rfl) (cfn_con rfl) (cfn_con rfl) (cfn_con rfl) l hl hK)⟩) w0 hw
noncomputable def L32 : List (Nat × ConD) := (13, cSplit) :: L31
theorem ok32 (hG : GV B W) : ConAt Tryd.prog (lookC L32) B W := con_cons_at (ok31 hG) (one32 hG)
theorem one33 (hG : GV B W) (w0 : W0) (hw : w0.w = W) : ConOne Tryd.prog B w0 35 (cDig) := one_code_at mixed (ok32 hG) rfl (fun avs h K hc => by
  obtain ⟨n, rfl, hn, hK⟩ := hc
  exact ⟨200, Eq.mp (s_lagoonref15_digits_eq ..) (digits_run _ _ hn (by omega) hK)⟩) w0 hw
noncomputable def L33 : List (Nat × ConD) := (35, cDig) :: L32
theorem ok33 (hG : GV B W) : ConAt Tryd.prog (lookC L33) B W := con_cons_at (ok32 hG) (one33 hG)
theorem one34 (hG : GV B W) (w0 : W0) (hw : w0.w = W) : ConOne Tryd.prog B w0 16 (cSuf) := one_code_at mixed (ok33 hG) rfl (fun avs h K hc => by
  obtain ⟨t, n, rfl, hb, hK⟩ := hc
  exact ⟨0, Eq.mp (s_lagoonref15_Suffix_eq ..) (refSuffix_run _ _ (cfn_con rfl) hb hK)⟩) w0 hw
noncomputable def L34 : List (Nat × ConD) := (16, cSuf) :: L33
theorem ok34 (hG : GV B W) : ConAt Tryd.prog (lookC L34) B W := con_cons_at (ok33 hG) (one34 hG)
theorem one35 (hG : GV B W) (w0 : W0) (hw : w0.w = W) : ConOne Tryd.prog B w0 32 (cNumG) := one_code_at mixed (ok34 hG) rfl (fun avs h K hc => by
  obtain ⟨l, rfl, hl, hK⟩ := hc
  exact ⟨200, Eq.mp (s_lagoonref15_number_eq ..) (numberG_run _ _ l hl (by omega) hK)⟩) w0 hw
noncomputable def L35 : List (Nat × ConD) := (32, cNumG) :: L34
theorem ok35 (hG : GV B W) : ConAt Tryd.prog (lookC L35) B W := con_cons_at (ok34 hG) (one35 hG)
theorem one36 (hG : GV B W) (w0 : W0) (hw : w0.w = W) : ConOne Tryd.prog B w0 14 (cSplitG) := one_code_at mixed (ok35 hG) rfl (fun avs h K hc => by
  obtain ⟨l, rfl, hl, hK⟩ := hc
  exact ⟨l.length + 10, Eq.mp (s_lagoonref15_Split_eq ..) (refSplit_run _ _ (cfn_con rfl) (cfn_con rfl) (cfn_con rfl) l hl (by omega) hK)⟩) w0 hw
noncomputable def L36 : List (Nat × ConD) := (14, cSplitG) :: L35
theorem ok36 (hG : GV B W) : ConAt Tryd.prog (lookC L36) B W := con_cons_at (ok35 hG) (one36 hG)
theorem one37 (hG : GV B W) (w0 : W0) (hw : w0.w = W) : ConOne Tryd.prog B w0 7 (trueC) := one_true mixed con_nil 1000 30 7 begun_runs B w0
noncomputable def L37 : List (Nat × ConD) := (7, trueC) :: L36
theorem ok37 (hG : GV B W) : ConAt Tryd.prog (lookC L37) B W := con_cons_at (ok36 hG) (one37 hG)
noncomputable abbrev LT : List (Nat × ConD) := L37
theorem okT (hG : GV B W) : ConAt Tryd.prog (lookC LT) B W := ok37 hG
end Lg

namespace Lg
set_option linter.unusedSimpArgs false
set_option linter.unusedVariables false
set_option maxRecDepth 100000
open Go Go.Am Go.Proofs Go.RowKit
theorem list_choose {α : Type} {p : Nat → α → Prop} : ∀ n, (∀ j, j < n → ∃ x, p j x) → ∃ l : List α, l.length = n ∧ ∀ j (hj : j < l.length), p j l[j]
  | 0, _ => ⟨[], rfl, fun j hj => by simp at hj⟩
  | n + 1, h => by
    obtain ⟨l, h1, h2⟩ := list_choose n fun j hj => h j (by omega)
    obtain ⟨x, hx⟩ := h n (by omega)
    refine ⟨l ++ [x], by simp [h1], fun j hj => ?_⟩
    by_cases e : j < l.length
    · rw [List.getElem_append_left e]; exact h2 j e
    · have hj' : j = n := by simp at hj; omega
      subst hj'
      rw [List.getElem_append_right (by omega)]
      simpa [h1] using hx
section
variable {P : Program} {H : Type} {hp : Hp}
theorem rdt_intb {n : Nat} {t : TypeId} {avs : List AV} {d : DataW H} (hu : P.underlying t = some (.int .i64)) (h : RdT P hp (n + 1) t avs d) : ∃ z, avs = [I z] ∧ InI z := by
  unfold RdT at h
  simp only [hu] at h
  obtain ⟨z, h1, _, h3⟩ := h
  refine ⟨z, h1, ?_⟩
  simp only [Lit.wf, Bool.and_eq_true, decide_eq_true_eq] at h3
  exact h3
theorem rdt_str {n : Nat} {t : TypeId} {avs : List AV} {d : DataW H} (hu : P.underlying t = some .string) (h : RdT P hp (n + 1) t avs d) : ∃ l, avs = [S l] ∧ l.length ≤ 140737488355328 := by
  unfold RdT at h
  simp only [hu] at h
  obtain ⟨z, h1, _, h2⟩ := h
  have : reachBytes ≤ 140737488355328 := by decide
  exact ⟨z, h1, by omega⟩
theorem rdB_cons {n : Nat} {t : TypeId} {ts : List TypeId} {avs : List AV} {ds : List (DataW H)} (h : RdB P hp n (t :: ts) avs ds) : ∃ a r d e, avs = a :: r ∧ ds = d :: e ∧ RdV P hp n t a d ∧ RdB P hp n ts r e := by
  cases avs with
  | nil => cases ds <;> exact h.elim
  | cons a r => cases ds with
    | nil => exact h.elim
    | cons d e => exact ⟨a, r, d, e, rfl, rfl, h.1, h.2⟩
theorem rdB_nil {n : Nat} {avs : List AV} {ds : List (DataW H)} (h : RdB P hp n [] avs ds) : avs = [] := by
  cases avs with
  | nil => rfl
  | cons a r => cases ds <;> exact h.elim
theorem rdf_cons {R : TypeId → List AV → DataW H → Prop} {f : Field} {fs : List Field} {cl : List (List AV)} {dl : List (DataW H)} (h : RdF P R (f :: fs) cl dl) : ∃ c cl' d dl', cl = c :: cl' ∧ dl = d :: dl' ∧ R f.type c d ∧ RdF P R fs cl' dl' := by
  match cl, dl, h with
  | c :: cl', d :: dl', h => exact ⟨c, cl', d, dl', rfl, rfl, h.2.1, h.2.2⟩
theorem rdf_nil {R : TypeId → List AV → DataW H → Prop} {cl : List (List AV)} {dl : List (DataW H)} (h : RdF P R [] cl dl) : cl = [] := by
  match cl, dl, h with
  | [], [], _ => rfl
theorem rdV_one {n : Nat} {t : TypeId} {a : AV} {d : DataW H} (hs : structT P t = false) (h : RdV P hp n t a d) : RdT P hp n t [a] d := by
  rcases h with h | h
  · exact h.2
  · rw [hs] at h; cases h.1
theorem rdV_struct {n : Nat} {t : TypeId} {a : AV} {d : DataW H} (hs : cell1T P t = false) (h : RdV P hp n t a d) : ∃ l, a = .agg l ∧ RdT P hp n t l d := by
  rcases h with h | h
  · rw [hs] at h; cases h.1
  · exact h.2
end
section
variable {H : Type} {hp : Hp}
theorem rd_idb {n : Nat} {avs : List AV} {d : DataW H} (h : RdT Tryd.prog hp (n + 2) 29 avs d) : ∃ t k, avs = [I t, I k] ∧ InI t ∧ InI k := by
  unfold RdT at h
  simp only [Tryd.underlying29] at h
  obtain ⟨dl, cl, _, rfl, hf⟩ := h
  obtain ⟨c0, cl, d0, dl, rfl, rfl, h0, hf⟩ := rdf_cons hf
  obtain ⟨c1, cl, d1, dl, rfl, rfl, h1, hf⟩ := rdf_cons hf
  obtain rfl := rdf_nil hf
  obtain ⟨t, rfl, ht⟩ := rdt_intb Tryd.underlying2 h0
  obtain ⟨k, rfl, hk⟩ := rdt_intb Tryd.underlying3 h1
  exact ⟨t, k, rfl, ht, hk⟩
end
end Lg

namespace Lg
set_option linter.unusedSimpArgs false
set_option linter.unusedVariables false
set_option maxRecDepth 100000
open Go Go.Am Go.Proofs Go.RowKit Go.Proofs.YtnhamanffojhfaaDoor
theorem var_below {P : Program} {W w : World} (h : Below W.heap.size W w) {n : String} {cs : Array Value} (hv : W.var? P n = some cs) : w.var? P n = some cs := by
  unfold World.var? at hv ⊢
  cases hg : P.globalNamed n with
  | none => simp [hg] at hv
  | some g =>
    simp only [hg, Option.bind_some] at hv ⊢
    have hlt : g < W.heap.size := by
      rcases Nat.lt_or_ge g W.heap.size with h' | h'
      · exact h'
      · simp [Array.getElem?_eq_none h'] at hv
    rw [h.block g hlt]
    exact hv
theorem star : "*" ++ "errors.errorString" = "*errors.errorString" := by decide
theorem rowErr (u : TypeId) (h : Tryd.prog.typeName? 3 u = some "*errors.errorString") : u = 121 :=
  typeName_ptr_named (nm := "errors.errorString") (by rw [star]; kernel_rfl) (by kernel_rfl) (by decide) u (by rw [star]; exact h)
theorem gv_of {W : World} {r : List (String × DataW Unit)}
    (h : laidMet Tryd.prog (("internal/strconv.uint64pow10", Rows.laid_internal_strconv_uint64pow10) :: ("strconv.ErrRange", Rows.laid_strconv_ErrRange) :: ("strconv.ErrSyntax", Rows.laid_strconv_ErrSyntax) :: r) W) : GV W.heap.size W := by
  have htab : Lib.TabIs Tryd.prog W "internal/strconv.uint64pow10" .u64 Lib.pow10Tab := Lib.tabIs_of_head (g := 1) (t := 100) (e := 76) (by kernel_rfl) (by kernel_rfl) Tryd.underlying100 Tryd.underlying76 (by kernel_rfl) (by kernel_rfl) h
  have h1 := h.tail
  obtain ⟨a1, s1, v1, _⟩ := laid_sentinel (g := 3) (ti := 58) (tp := 121) h1 (by kernel_rfl) (by kernel_rfl) Tryd.underlying58 rowErr Tryd.underlying121 Tryd.underlying123 rfl rfl Tryd.underlying9 (by kernel_rfl) (by kernel_rfl)
  have h2 := h1.tail
  obtain ⟨a2, s2, v2, _⟩ := laid_sentinel (g := 2) (ti := 58) (tp := 121) h2 (by kernel_rfl) (by kernel_rfl) Tryd.underlying58 rowErr Tryd.underlying121 Tryd.underlying123 rfl rfl Tryd.underlying9 (by kernel_rfl) (by kernel_rfl)
  exact ⟨Lib.tabBelow_of_tabIs htab, ⟨_, _, fun w hb => var_below hb v2⟩, ⟨_, _, fun w hb => var_below hb v1⟩⟩
end Lg

