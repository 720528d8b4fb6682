/- The Go functions' code as the abstract machine's, over values; each is the code that the machine makes of the program's (theorems s_.._eq). No condition. -/
import Derived.Test.YtnhamanffojhfaaDoorG3
import Derived.Test.YtnhamanffojhfaaDoorProg
import Derived.KernelRfl
namespace Go.Proofs.YtnhamanffojhfaaDoor.shl
open Go Go.Am Go.Proofs
set_option linter.unusedVariables false
set_option maxRecDepth 100000
abbrev f_clash_Shown : Nat := 8
abbrev f_clash_Split : Nat := 13
abbrev f_clash_Suffix : Nat := 15
abbrev f_clash_number : Nat := 29
abbrev f_clock_Cmp : Nat := 40
abbrev f_clock_Less : Nat := 25
abbrev f_clock_Valid : Nat := 30
abbrev f_clock_node : Nat := 43
abbrev f_cmp_Compare_int : Nat := 53
abbrev f_cmp_Compare_int64 : Nat := 52
abbrev f_cmp_isNaN_int : Nat := 68
abbrev f_cmp_isNaN_int64 : Nat := 67
abbrev f_int_bytealg_Cutover : Nat := 71
abbrev f_int_bytealg_IndexRabinKarp_string : Nat := 72
abbrev f_int_bytealg_IndexString : Nat := 70
abbrev f_int_stringslite_Cut : Nat := 41
abbrev f_int_stringslite_HasPrefix : Nat := 47
abbrev f_int_stringslite_Index : Nat := 54
abbrev f_int_stringslite_IndexByte : Nat := 69
abbrev f_lagoonlaw16_ClashShown : Nat := 3
abbrev f_lagoonlaw16_ClashSplit : Nat := 5
abbrev f_lagoonlaw16_begun : Nat := 7
abbrev f_lagoonlaw19_PathParse : Nat := 6
abbrev f_lagoonlaw19_begun : Nat := 17
abbrev f_lagoonref12_Local : Nat := 27
abbrev f_lagoonref12_Name : Nat := 11
abbrev f_lagoonref15_Shown : Nat := 9
abbrev f_lagoonref15_Split : Nat := 14
abbrev f_lagoonref15_Suffix : Nat := 16
abbrev f_lagoonref15_digits : Nat := 35
abbrev f_lagoonref15_number : Nat := 32
abbrev f_lagoonref19_Fresh : Nat := 23
abbrev f_lagoonref19_Join : Nat := 21
abbrev f_lagoonref19_Parse : Nat := 19
abbrev f_lagoonref4_Less : Nat := 26
abbrev f_lagoonref4_Same : Nat := 12
abbrev f_lagoonref4_Valid : Nat := 10
abbrev f_ops_Name : Nat := 31
abbrev f_path_Above : Nat := 24
abbrev f_path_Fresh : Nat := 22
abbrev f_path_Join : Nat := 20
abbrev f_path_Parse : Nat := 18
abbrev f_slices_Equal_string_string : Nat := 39
abbrev f_strconv_FormatInt : Nat := 33
abbrev f_strconv_Itoa : Nat := 34
abbrev f_strconv_ParseInt : Nat := 42
abbrev f_strings_Builder_Grow : Nat := 49
abbrev f_strings_Builder_String : Nat := 51
abbrev f_strings_Builder_WriteString : Nat := 50
abbrev f_strings_ContainsAny : Nat := 44
abbrev f_strings_Count : Nat := 63
abbrev f_strings_Cut : Nat := 28
abbrev f_strings_HasPrefix : Nat := 36
abbrev f_strings_Index : Nat := 64
abbrev f_strings_IndexAny : Nat := 57
abbrev f_strings_IndexByte : Nat := 98
abbrev f_strings_IndexRune : Nat := 78
abbrev f_strings_Join : Nat := 38
abbrev f_strings_Split : Nat := 37
abbrev f_strings_asciiSet_contains : Nat := 81
abbrev f_strings_explode : Nat := 62
abbrev f_strings_genSplit : Nat := 48
abbrev f_strings_makeASCIISet : Nat := 80
abbrev f_strings_shouldUseASCIISet : Nat := 79
abbrev f_unicode_utf8_RuneCountInString : Nat := 87
abbrev f_unicode_utf8_ValidRune : Nat := 99

noncomputable def s_lagoonlaw16_ClashShownE2 (cf : CallK) (fuel : Nat) (K : AV → Hp → Prop) (t5 : AV) : Hp → Prop := fun h =>
K t5 h
noncomputable def s_lagoonlaw16_ClashShownL3B (cf : CallK) (fuel : Nat) (K : AV → Hp → Prop) (e2 : Hp → Prop) (t5 : AV) (t6 : AV) (t7 : AV) (ih3 : AV → Hp → Prop) : AV → Hp → Prop := fun t8 h =>
vLenL2 t6 h fun t33 h =>
vLss t8 t33 h fun t34 h =>
vIf t34 (
(fun (e4 : Hp → Prop) =>
vIaddr 1 t6 t8 h fun t39 h =>
vLoad2 t39 h fun t40 h =>
vIaddr 1 t7 t8 h fun t43 h =>
vLoad2 t43 h fun t44 h =>
vNeq t40 t44 h fun t45 h =>
vIf t45 (
K (.bool .false) h) (
e4 h)) fun h =>
vAdd t8 (.int .i64 1) h fun t36 h =>
ih3 t36 h) (
e2 h)
noncomputable def s_lagoonlaw16_ClashShownL3 (cf : CallK) (fuel : Nat) (K : AV → Hp → Prop) (e2 : Hp → Prop) (t5 : AV) (t6 : AV) (t7 : AV) (m : Nat) : AV → Hp → Prop := Nat.rec (motive := fun _ => AV → Hp → Prop) (fun _ _ => False) (fun _ ih => s_lagoonlaw16_ClashShownL3B cf fuel K e2 t5 t6 t7 ih) m
theorem s_lagoonlaw16_ClashShownL3_succ (cf : CallK) (fuel : Nat) (K : AV → Hp → Prop) (e2 : Hp → Prop) (t5 : AV) (t6 : AV) (t7 : AV) (m : Nat) : s_lagoonlaw16_ClashShownL3 cf fuel K e2 t5 t6 t7 (m + 1) = s_lagoonlaw16_ClashShownL3B cf fuel K e2 t5 t6 t7 (s_lagoonlaw16_ClashShownL3 cf fuel K e2 t5 t6 t7 m) := rfl
noncomputable def s_lagoonlaw16_ClashShown (cf : CallK) (fuel : Nat) (t0 : AV) (t1 : AV) (h : Hp) (K : AV → Hp → Prop) : Prop :=
cf f_lagoonlaw16_begun [] h fun t9 h =>
(fun (j0 : AV → Hp → Prop) =>
vLenL2 t0 h fun t11 h =>
vGtr t11 (.int .i64 12) h fun t12 h =>
vIf t12 (
vSlice2 2 t0 none (some (.int .i64 12)) h fun t14 h =>
j0 t14 h) (
j0 t0 h)) fun t0 h =>
(fun (j1 : AV → Hp → Prop) =>
vLenL2 t1 h fun t16 h =>
vGtr t16 (.int .i64 12) h fun t17 h =>
vIf t17 (
vSlice2 1 t1 none (some (.int .i64 12)) h fun t19 h =>
j1 t19 h) (
j1 t1 h)) fun t1 h =>
cf f_clash_Shown [t0, t1] h fun t22 h =>
cf f_lagoonref15_Shown [t0, t1] h fun t25 h =>
vLenL2 t22 h fun t27 h =>
vLenL2 t25 h fun t29 h =>
vNeq t27 t29 h fun t30 h =>
vIf t30 (
K (.bool .false) h) (
(fun (e2 : Hp → Prop) =>
s_lagoonlaw16_ClashShownL3 cf fuel K (s_lagoonlaw16_ClashShownE2 cf fuel K t9) t9 t22 t25 fuel (.int .i64 0) h) (s_lagoonlaw16_ClashShownE2 cf fuel K t9))
theorem s_lagoonlaw16_ClashShown_eq (cf : CallK) (fuel : Nat) (t0 : AV) (t1 : AV) (h : Hp) (K : AV → Hp → Prop) : s_lagoonlaw16_ClashShown cf fuel t0 t1 h K = deepT (tabOf Tryd.prog) f_lagoonlaw16_ClashShown cf fuel [t0, t1] h K :=
  Eq.trans (by kernel_rfl) (rFun (by kernel_rfl) (rSeq (by kernel_rfl) (rSeq (by kernel_rfl) (rSeq (by kernel_rfl) (rSeq (by kernel_rfl) (rSeq (by kernel_rfl) (rSeq (by kernel_rfl) (rSeq (by kernel_rfl) rExact (rSeq (by kernel_rfl) (rBlock (by kernel_rfl) (rLoop (by kernel_rfl) (fun m3 fr h => s_lagoonlaw16_ClashShownL3 cf fuel K (s_lagoonlaw16_ClashShownE2 cf fuel K (getS fr (gpos 5))) (getS fr (gpos 5)) (getS fr (gpos 6)) (getS fr (gpos 7)) m3 (getS fr (gpos 8)) h) (funext fun fr => funext fun h => by kernel_rfl) fun m3 => rCast (funext fun fr => funext fun h => by kernel_rfl) rExact)) rExact)) rExact) rExact) rExact) rExact) rExact) rExact))

noncomputable def s_lagoonlaw16_ClashSplit (cf : CallK) (fuel : Nat) (t0 : AV) (t1 : AV) (h : Hp) (K : AV → Hp → Prop) : Prop :=
vBox 2 t1 h fun t3 h =>
cf f_lagoonlaw16_begun [] h fun t12 h =>
(fun (j0 : AV → Hp → Prop) =>
vLenS t0 h fun t14 h =>
vGtr t14 (.int .i64 120) h fun t15 h =>
vIf t15 (
vSliceS t0 none (some (.int .i64 120)) h fun t17 h =>
j0 t17 h) (
j0 t0 h)) fun t0 h =>
cf f_clash_Split [t0] h fun t20 h =>
vExtract 0 t20 h fun t21 h =>
vExtract 1 t20 h fun t22 h =>
vExtract 2 t20 h fun t23 h =>
vBox 2 (.agg [(.int .i64 0), (.int .i64 0)]) h fun t7 h =>
vStore 2 t7 t22 h fun _ h =>
cf f_lagoonref15_Split [t0] h fun t26 h =>
vExtract 0 t26 h fun t27 h =>
vExtract 1 t26 h fun t28 h =>
vExtract 2 t26 h fun t29 h =>
vBox 2 (.agg [(.int .i64 0), (.int .i64 0)]) h fun t10 h =>
vStore 2 t10 t28 h fun _ h =>
joinG (fun g15 => grdV t12 true (vMov t21 h g15) (g15 undefV h)) fun t32 h =>
joinG (fun g14 => grdV t12 true (vMov t27 h g14) (g14 undefV h)) fun t33 h =>
joinG (fun g13 => grdV t12 true (vEql t32 t33 h g13) (g13 undefV h)) fun t34 h =>
vPick t12 t34 (.bool .false) h fun t35 h =>
joinG (fun g12 => grdV t35 true (vLoadA 2 t7 h g12) (g12 undefV h)) fun t37 h =>
joinG (fun g11 => grdV t35 true (vLoadA 2 t10 h g11) (g11 undefV h)) fun t38 h =>
joinG (fun g10 => grdV t35 true (cf f_lagoonref4_Same [t37, t38] h g10) (g10 undefV h)) fun t39 h =>
vPick t35 t39 (.bool .false) h fun t40 h =>
joinG (fun g9 => grdV t40 true (vMov t23 h g9) (g9 undefV h)) fun t42 h =>
joinG (fun g8 => grdV t40 true (vMov t29 h g8) (g8 undefV h)) fun t43 h =>
joinG (fun g7 => grdV t40 true (vEq false eqB t42 t43 h g7) (g7 undefV h)) fun t44 h =>
vPick t40 t44 (.bool .false) h fun t45 h =>
joinG (fun g6 => grdV t45 true (vLoadA 2 t3 h g6) (g6 undefV h)) fun t47 h =>
joinG (fun g5 => grdV t45 true (vLoadA 2 t3 h g5) (g5 undefV h)) fun t49 h =>
joinG (fun g4 => grdV t45 true (cf f_clash_Suffix [t47] h g4) (g4 undefV h)) fun t48 h =>
joinP (fun g3 => grdV t45 true (vLoadA 2 t3 h fun c _ => gd (sameV c t49) g3) g3) (
joinG (fun g2 => grdV t45 true (cf f_lagoonref15_Suffix [t49] h g2) (g2 undefV h)) fun t50 h =>
joinG (fun g1 => grdV t45 true (vEql t48 t50 h g1) (g1 undefV h)) fun t51 h =>
vPick t45 t51 (.bool .false) h fun t52 h =>
K t52 h)
theorem s_lagoonlaw16_ClashSplit_eq (cf : CallK) (fuel : Nat) (t0 : AV) (t1 : AV) (h : Hp) (K : AV → Hp → Prop) : s_lagoonlaw16_ClashSplit cf fuel t0 t1 h K = deepT (tabOf Tryd.prog) f_lagoonlaw16_ClashSplit cf fuel [t0, t1] h K :=
  Eq.trans (by kernel_rfl) (rFun (by kernel_rfl) rExact)

noncomputable def s_lagoonlaw19_PathParseE3 (cf : CallK) (fuel : Nat) (K : AV → Hp → Prop) (t0 : AV) (t1 : AV) (t5 : AV) (t6 : AV) (t7 : AV) : AV → Hp → Prop := fun t11 h =>
joinG (fun g26 => grdV t5 true (vMov t7 h g26) (g26 undefV h)) fun t84 h =>
joinG (fun g25 => grdV t5 true (vNeq t84 (.int .i64 0) h g25) (g25 undefV h)) fun t85 h =>
joinG (fun g24 => grdV t5 true (vMov t85 h g24) (g24 undefV h)) fun t86 h =>
joinG (fun g23 => grdV t86 false (vMov t6 h g23) (g23 undefV h)) fun t87 h =>
joinG (fun g22 => grdV t86 false (cf f_path_Join [t87] h g22) (g22 undefV h)) fun t88 h =>
joinG (fun g21 => grdV t86 false (vMov t0 h g21) (g21 undefV h)) fun t89 h =>
joinG (fun g20 => grdV t86 false (vEql t88 t89 h g20) (g20 undefV h)) fun t90 h =>
joinG (fun g19 => grdV t5 true (vPick t86 (.bool .true) t90 h g19) (g19 undefV h)) fun t91 h =>
vPick t5 t91 (.bool .false) h fun t92 h =>
joinG (fun g18 => grdV t92 true (vMov t1 h g18) (g18 undefV h)) fun t94 h =>
joinG (fun g17 => grdV t92 true (cf f_path_Join [t94] h g17) (g17 undefV h)) fun t95 h =>
joinG (fun g16 => grdV t92 true (vMov t1 h g16) (g16 undefV h)) fun t96 h =>
joinG (fun g15 => grdV t92 true (cf f_lagoonref19_Join [t96] h g15) (g15 undefV h)) fun t97 h =>
joinG (fun g14 => grdV t92 true (vEql t95 t97 h g14) (g14 undefV h)) fun t98 h =>
vPick t92 t98 (.bool .false) h fun t99 h =>
joinG (fun g13 => grdV t99 true (vMov t1 h g13) (g13 undefV h)) fun t101 h =>
joinG (fun g12 => grdV t99 true (cf f_path_Fresh [t101] h g12) (g12 undefV h)) fun t102 h =>
joinG (fun g11 => grdV t99 true (vMov t1 h g11) (g11 undefV h)) fun t103 h =>
joinG (fun g10 => grdV t99 true (cf f_lagoonref19_Fresh [t103] h g10) (g10 undefV h)) fun t104 h =>
joinG (fun g9 => grdV t99 true (vEql t102 t104 h g9) (g9 undefV h)) fun t105 h =>
vPick t99 t105 (.bool .false) h fun t106 h =>
joinG (fun g8 => grdV t106 true (vMov t6 h g8) (g8 undefV h)) fun t108 h =>
joinG (fun g7 => grdV t106 true (vMov t1 h g7) (g7 undefV h)) fun t109 h =>
joinG (fun g6 => grdV t106 true (cf f_path_Above [t108, t109] h g6) (g6 undefV h)) fun t110 h =>
joinG (fun g5 => grdV t106 true (vMov t11 h g5) (g5 undefV h)) fun t111 h =>
joinG (fun g4 => grdV t106 true (vEq false eqB t110 t111 h g4) (g4 undefV h)) fun t112 h =>
vPick t106 t112 (.bool .false) h fun t113 h =>
K t113 h
noncomputable def s_lagoonlaw19_PathParseL27B (cf : CallK) (fuel : Nat) (e3 : AV → Hp → Prop) (t0 : AV) (t1 : AV) (t5 : AV) (t6 : AV) (t7 : AV) (ih27 : AV → AV → Hp → Prop) : AV → AV → Hp → Prop := fun t11 t12 h =>
vLenL2 t6 h fun t66 h =>
vLss t12 t66 h fun t67 h =>
joinG (fun g29 => grdV t67 true (vMov t11 h g29) (g29 undefV h)) fun t69 h =>
vPick t67 t69 (.bool .false) h fun t70 h =>
vIf t70 (
(fun (e28 : AV → Hp → Prop) =>
vIaddr 1 t6 t12 h fun t75 h =>
vLoad2 t75 h fun t76 h =>
vIaddr 1 t1 t12 h fun t79 h =>
vLoad2 t79 h fun t80 h =>
vEql t76 t80 h fun t81 h =>
e28 t81 h) fun t11 h =>
vAdd t12 (.int .i64 1) h fun t72 h =>
ih27 t11 t72 h) (
e3 t11 h)
noncomputable def s_lagoonlaw19_PathParseL27 (cf : CallK) (fuel : Nat) (e3 : AV → Hp → Prop) (t0 : AV) (t1 : AV) (t5 : AV) (t6 : AV) (t7 : AV) (m : Nat) : AV → AV → Hp → Prop := Nat.rec (motive := fun _ => AV → AV → Hp → Prop) (fun _ _ _ => False) (fun _ ih => s_lagoonlaw19_PathParseL27B cf fuel e3 t0 t1 t5 t6 t7 ih) m
theorem s_lagoonlaw19_PathParseL27_succ (cf : CallK) (fuel : Nat) (e3 : AV → Hp → Prop) (t0 : AV) (t1 : AV) (t5 : AV) (t6 : AV) (t7 : AV) (m : Nat) : s_lagoonlaw19_PathParseL27 cf fuel e3 t0 t1 t5 t6 t7 (m + 1) = s_lagoonlaw19_PathParseL27B cf fuel e3 t0 t1 t5 t6 t7 (s_lagoonlaw19_PathParseL27 cf fuel e3 t0 t1 t5 t6 t7 m) := rfl
noncomputable def s_lagoonlaw19_PathParseE2 (cf : CallK) (fuel : Nat) (K : AV → Hp → Prop) (t0 : AV) (t1 : AV) (t5 : AV) (t6 : AV) (t7 : AV) : Hp → Prop := fun h =>
vLenL2 t6 h fun t60 h =>
vLenL2 t1 h fun t62 h =>
vLss t60 t62 h fun t63 h =>
(fun (e3 : AV → Hp → Prop) =>
s_lagoonlaw19_PathParseL27 cf fuel (s_lagoonlaw19_PathParseE3 cf fuel K t0 t1 t5 t6 t7) t0 t1 t5 t6 t7 fuel t63 (.int .i64 0) h) (s_lagoonlaw19_PathParseE3 cf fuel K t0 t1 t5 t6 t7)
noncomputable def s_lagoonlaw19_PathParseL30B (cf : CallK) (fuel : Nat) (K : AV → Hp → Prop) (e2 : Hp → Prop) (t0 : AV) (t1 : AV) (t5 : AV) (t6 : AV) (t7 : AV) (t8 : AV) (ih30 : AV → Hp → Prop) : AV → Hp → Prop := fun t10 h =>
vLenL2 t6 h fun t46 h =>
vLss t10 t46 h fun t47 h =>
vIf t47 (
(fun (e31 : Hp → Prop) =>
vIaddr 1 t6 t10 h fun t52 h =>
vLoad2 t52 h fun t53 h =>
vIaddr 1 t8 t10 h fun t56 h =>
vLoad2 t56 h fun t57 h =>
vNeq t53 t57 h fun t58 h =>
vIf t58 (
K (.bool .false) h) (
e31 h)) fun h =>
vAdd t10 (.int .i64 1) h fun t49 h =>
ih30 t49 h) (
e2 h)
noncomputable def s_lagoonlaw19_PathParseL30 (cf : CallK) (fuel : Nat) (K : AV → Hp → Prop) (e2 : Hp → Prop) (t0 : AV) (t1 : AV) (t5 : AV) (t6 : AV) (t7 : AV) (t8 : AV) (m : Nat) : AV → Hp → Prop := Nat.rec (motive := fun _ => AV → Hp → Prop) (fun _ _ => False) (fun _ ih => s_lagoonlaw19_PathParseL30B cf fuel K e2 t0 t1 t5 t6 t7 t8 ih) m
theorem s_lagoonlaw19_PathParseL30_succ (cf : CallK) (fuel : Nat) (K : AV → Hp → Prop) (e2 : Hp → Prop) (t0 : AV) (t1 : AV) (t5 : AV) (t6 : AV) (t7 : AV) (t8 : AV) (m : Nat) : s_lagoonlaw19_PathParseL30 cf fuel K e2 t0 t1 t5 t6 t7 t8 (m + 1) = s_lagoonlaw19_PathParseL30B cf fuel K e2 t0 t1 t5 t6 t7 t8 (s_lagoonlaw19_PathParseL30 cf fuel K e2 t0 t1 t5 t6 t7 t8 m) := rfl
noncomputable def s_lagoonlaw19_PathParse (cf : CallK) (fuel : Nat) (t0 : AV) (t1 : AV) (h : Hp) (K : AV → Hp → Prop) : Prop :=
cf f_lagoonlaw19_begun [] h fun t13 h =>
(fun (j0 : AV → Hp → Prop) =>
vLenS t0 h fun t15 h =>
vGtr t15 (.int .i64 1100) h fun t16 h =>
vIf t16 (
vSliceS t0 none (some (.int .i64 1100)) h fun t18 h =>
j0 t18 h) (
j0 t0 h)) fun t0 h =>
(fun (j1 : AV → Hp → Prop) =>
vLenL2 t1 h fun t20 h =>
vGtr t20 (.int .i64 70) h fun t21 h =>
vIf t21 (
vSlice2 1 t1 none (some (.int .i64 70)) h fun t23 h =>
j1 t23 h) (
j1 t1 h)) fun t1 h =>
cf f_path_Parse [t0] h fun t26 h =>
vExtract 0 t26 h fun t27 h =>
vExtract 1 t26 h fun t28 h =>
cf f_lagoonref19_Parse [t0] h fun t31 h =>
vExtract 0 t31 h fun t32 h =>
vExtract 1 t31 h fun t33 h =>
vNeq t28 t33 h fun t36 h =>
joinG (fun g36 => grdV t36 false (vMov t27 h g36) (g36 undefV h)) fun t38 h =>
joinG (fun g35 => grdV t36 false (vLenL2 t38 h g35) (g35 undefV h)) fun t39 h =>
joinG (fun g34 => grdV t36 false (vMov t32 h g34) (g34 undefV h)) fun t40 h =>
joinG (fun g33 => grdV t36 false (vLenL2 t40 h g33) (g33 undefV h)) fun t41 h =>
joinG (fun g32 => grdV t36 false (vNeq t39 t41 h g32) (g32 undefV h)) fun t42 h =>
vPick t36 (.bool .true) t42 h fun t43 h =>
vIf t43 (
K (.bool .false) h) (
(fun (e2 : Hp → Prop) =>
s_lagoonlaw19_PathParseL30 cf fuel K (s_lagoonlaw19_PathParseE2 cf fuel K t0 t1 t13 t27 t28) t0 t1 t13 t27 t28 t32 fuel (.int .i64 0) h) (s_lagoonlaw19_PathParseE2 cf fuel K t0 t1 t13 t27 t28))
theorem s_lagoonlaw19_PathParse_eq (cf : CallK) (fuel : Nat) (t0 : AV) (t1 : AV) (h : Hp) (K : AV → Hp → Prop) : s_lagoonlaw19_PathParse cf fuel t0 t1 h K = deepT (tabOf Tryd.prog) f_lagoonlaw19_PathParse cf fuel [t0, t1] h K :=
  Eq.trans (by kernel_rfl) (rFun (by kernel_rfl) (rSeq (by kernel_rfl) (rSeq (by kernel_rfl) (rSeq (by kernel_rfl) (rSeq (by kernel_rfl) (rSeq (by kernel_rfl) (rSeq (by kernel_rfl) (rSeq (by kernel_rfl) (rSeq (by kernel_rfl) (rSeq (by kernel_rfl) (rSeq (by kernel_rfl) rExact (rSeq (by kernel_rfl) (rBlock (by kernel_rfl) (rLoop (by kernel_rfl) (fun m27 fr h => s_lagoonlaw19_PathParseL27 cf fuel (s_lagoonlaw19_PathParseE3 cf fuel K (getS fr (gpos 0)) (getS fr (gpos 1)) (getS fr (gpos 5)) (getS fr (gpos 6)) (getS fr (gpos 7))) (getS fr (gpos 0)) (getS fr (gpos 1)) (getS fr (gpos 5)) (getS fr (gpos 6)) (getS fr (gpos 7)) m27 (getS fr (gpos 11)) (getS fr (gpos 12)) h) (funext fun fr => funext fun h => by kernel_rfl) fun m27 => rCast (funext fun fr => funext fun h => by kernel_rfl) rExact)) rExact)) rExact) (rSeq (by kernel_rfl) (rBlock (by kernel_rfl) (rLoop (by kernel_rfl) (fun m30 fr h => s_lagoonlaw19_PathParseL30 cf fuel K (s_lagoonlaw19_PathParseE2 cf fuel K (getS fr (gpos 0)) (getS fr (gpos 1)) (getS fr (gpos 5)) (getS fr (gpos 6)) (getS fr (gpos 7))) (getS fr (gpos 0)) (getS fr (gpos 1)) (getS fr (gpos 5)) (getS fr (gpos 6)) (getS fr (gpos 7)) (getS fr (gpos 8)) m30 (getS fr (gpos 10)) h) (funext fun fr => funext fun h => by kernel_rfl) fun m30 => rCast (funext fun fr => funext fun h => by kernel_rfl) rExact)) rExact)) rExact) rExact) rExact) rExact) rExact) rExact) rExact))

noncomputable def s_clash_ShownE1 (cf : CallK) (fuel : Nat) (K : AV → Hp → Prop) : AV → Hp → Prop := fun t10 h =>
K t10 h
noncomputable def s_clash_ShownB5 (cf : CallK) (fuel : Nat) (ih2 : AV → AV → Hp → Prop) (t0 : AV) (t1 : AV) (t6 : AV) (t10 : AV) (t53 : AV) (h : Hp) : Prop :=
(fun (e3 : AV → Hp → Prop) =>
vIaddr 1 t1 t53 h fun t58 h =>
vLoad2 t58 h fun t59 h =>
(fun (j4 : AV → Hp → Prop) =>
vLookup Go.Am.eqKS false (.int .i64 0) t6 t59 h fun t62 h =>
vNeq t62 t53 h fun t64 h =>
vIf t64 (
vIaddr 2 t0 t53 h fun t68 h =>
vLoadA 2 t68 h fun t69 h =>
cf f_clash_Suffix [t69] h fun t70 h =>
vAdd t59 t70 h fun t71 h =>
j4 t71 h) (
j4 t59 h)) fun t12 h =>
vBslice 1 1 false [(.str 0 0)] [(0, 1, t12)] h fun t74 h =>
vAppend2 1 16 false t10 t74 h fun t75 h =>
e3 t75 h) fun t10 h =>
vAdd t53 (.int .i64 1) h fun t76 h =>
ih2 t10 t76 h
noncomputable def s_clash_ShownL2B (cf : CallK) (fuel : Nat) (e1 : AV → Hp → Prop) (t0 : AV) (t1 : AV) (t6 : AV) (t52 : AV) (ih2 : AV → AV → Hp → Prop) : AV → AV → Hp → Prop := fun t10 t53 h =>
vLss t53 t52 h fun t54 h =>
vIf t54 (
s_clash_ShownB5 cf fuel ih2 t0 t1 t6 t10 t53 h) (
e1 t10 h)
noncomputable def s_clash_ShownL2 (cf : CallK) (fuel : Nat) (e1 : AV → Hp → Prop) (t0 : AV) (t1 : AV) (t6 : AV) (t52 : AV) (m : Nat) : AV → AV → Hp → Prop := Nat.rec (motive := fun _ => AV → AV → Hp → Prop) (fun _ _ _ => False) (fun _ ih => s_clash_ShownL2B cf fuel e1 t0 t1 t6 t52 ih) m
theorem s_clash_ShownL2_succ (cf : CallK) (fuel : Nat) (e1 : AV → Hp → Prop) (t0 : AV) (t1 : AV) (t6 : AV) (t52 : AV) (m : Nat) : s_clash_ShownL2 cf fuel e1 t0 t1 t6 t52 (m + 1) = s_clash_ShownL2B cf fuel e1 t0 t1 t6 t52 (s_clash_ShownL2 cf fuel e1 t0 t1 t6 t52 m) := rfl
noncomputable def s_clash_ShownE0 (cf : CallK) (fuel : Nat) (K : AV → Hp → Prop) (t0 : AV) (t1 : AV) (t5 : AV) (t6 : AV) : Hp → Prop := fun h =>
(fun (e1 : AV → Hp → Prop) =>
s_clash_ShownL2 cf fuel (s_clash_ShownE1 cf fuel K) t0 t1 t6 t5 fuel .nilslice (.int .i64 0) h) (s_clash_ShownE1 cf fuel K)
noncomputable def s_clash_ShownB17 (cf : CallK) (fuel : Nat) (ih6 : AV → Hp → Prop) (t0 : AV) (t1 : AV) (t6 : AV) (t20 : AV) (h : Hp) : Prop :=
(fun (e7 : Hp → Prop) =>
vIaddr 1 t1 t20 h fun t27 h =>
vLoad2 t27 h fun t28 h =>
vLookup Go.Am.eqKS true (.int .i64 0) t6 t28 h fun t29 h =>
vExtract 0 t29 h fun t30 h =>
vExtract 1 t29 h fun t31 h =>
vNot t31 h fun t33 h =>
joinG (fun g16 => grdV t33 false (vMov t0 h g16) (g16 undefV h)) fun t35 h =>
joinG (fun g15 => grdV t33 false (vMov t20 h g15) (g15 undefV h)) fun t36 h =>
joinG (fun g14 => grdV t33 false (vIaddr 2 t35 t36 h g14) (g14 undefV h)) fun t37 h =>
joinG (fun g13 => grdV t33 false (vLoadA 2 t37 h g13) (g13 undefV h)) fun t38 h =>
joinG (fun g12 => grdV t33 false (vMov t0 h g12) (g12 undefV h)) fun t39 h =>
joinG (fun g11 => grdV t33 false (vMov t30 h g11) (g11 undefV h)) fun t40 h =>
joinG (fun g10 => grdV t33 false (vIaddr 2 t39 t40 h g10) (g10 undefV h)) fun t41 h =>
joinG (fun g9 => grdV t33 false (vLoadA 2 t41 h g9) (g9 undefV h)) fun t42 h =>
joinG (fun g8 => grdV t33 false (cf f_clock_Less [t38, t42] h g8) (g8 undefV h)) fun t43 h =>
vPick t33 (.bool .true) t43 h fun t44 h =>
vIf t44 (
vIaddr 1 t1 t20 h fun t48 h =>
vLoad2 t48 h fun t49 h =>
vMapSet Go.Am.eqKS t6 t49 t20 h fun _ h =>
e7 h) (
e7 h)) fun h =>
vAdd t20 (.int .i64 1) h fun t51 h =>
ih6 t51 h
noncomputable def s_clash_ShownL6B (cf : CallK) (fuel : Nat) (e0 : Hp → Prop) (t0 : AV) (t1 : AV) (t5 : AV) (t6 : AV) (t19 : AV) (ih6 : AV → Hp → Prop) : AV → Hp → Prop := fun t20 h =>
vLss t20 t19 h fun t21 h =>
vIf t21 (
s_clash_ShownB17 cf fuel ih6 t0 t1 t6 t20 h) (
e0 h)
noncomputable def s_clash_ShownL6 (cf : CallK) (fuel : Nat) (e0 : Hp → Prop) (t0 : AV) (t1 : AV) (t5 : AV) (t6 : AV) (t19 : AV) (m : Nat) : AV → Hp → Prop := Nat.rec (motive := fun _ => AV → Hp → Prop) (fun _ _ => False) (fun _ ih => s_clash_ShownL6B cf fuel e0 t0 t1 t5 t6 t19 ih) m
theorem s_clash_ShownL6_succ (cf : CallK) (fuel : Nat) (e0 : Hp → Prop) (t0 : AV) (t1 : AV) (t5 : AV) (t6 : AV) (t19 : AV) (m : Nat) : s_clash_ShownL6 cf fuel e0 t0 t1 t5 t6 t19 (m + 1) = s_clash_ShownL6B cf fuel e0 t0 t1 t5 t6 t19 (s_clash_ShownL6 cf fuel e0 t0 t1 t5 t6 t19 m) := rfl
noncomputable def s_clash_Shown (cf : CallK) (fuel : Nat) (t0 : AV) (t1 : AV) (h : Hp) (K : AV → Hp → Prop) : Prop :=
vLenL2 t0 h fun t14 h =>
vLenL2 t1 h fun t16 h =>
vMin false t14 t16 h fun t17 h =>
vMkMap h fun t18 h =>
(fun (e0 : Hp → Prop) =>
s_clash_ShownL6 cf fuel (s_clash_ShownE0 cf fuel K t0 t1 t17 t18) t0 t1 t17 t18 t17 fuel (.int .i64 0) h) (s_clash_ShownE0 cf fuel K t0 t1 t17 t18)
theorem s_clash_Shown_eq (cf : CallK) (fuel : Nat) (t0 : AV) (t1 : AV) (h : Hp) (K : AV → Hp → Prop) : s_clash_Shown cf fuel t0 t1 h K = deepT (tabOf Tryd.prog) f_clash_Shown cf fuel [t0, t1] h K :=
  Eq.trans (by kernel_rfl) (rFun (by kernel_rfl) (rSeq (by kernel_rfl) (rSeq (by kernel_rfl) (rSeq (by kernel_rfl) (rSeq (by kernel_rfl) (rSeq (by kernel_rfl) (rSeq (by kernel_rfl) rExact (rSeq (by kernel_rfl) (rBlock (by kernel_rfl) (rLoop (by kernel_rfl) (fun m2 fr h => s_clash_ShownL2 cf fuel (s_clash_ShownE1 cf fuel K) (getS fr (gpos 0)) (getS fr (gpos 1)) (getS fr (gpos 6)) (getS fr (gpos 52)) m2 (getS fr (gpos 10)) (getS fr (gpos 53)) h) (funext fun fr => funext fun h => by kernel_rfl) fun m2 => rCast (funext fun fr => funext fun h => by kernel_rfl) rExact)) rExact)) rExact) (rSeq (by kernel_rfl) (rBlock (by kernel_rfl) (rLoop (by kernel_rfl) (fun m6 fr h => s_clash_ShownL6 cf fuel (s_clash_ShownE0 cf fuel K (getS fr (gpos 0)) (getS fr (gpos 1)) (getS fr (gpos 5)) (getS fr (gpos 6))) (getS fr (gpos 0)) (getS fr (gpos 1)) (getS fr (gpos 5)) (getS fr (gpos 6)) (getS fr (gpos 19)) m6 (getS fr (gpos 20)) h) (funext fun fr => funext fun h => by kernel_rfl) fun m6 => rCast (funext fun fr => funext fun h => by kernel_rfl) rExact)) rExact)) rExact) rExact) rExact))

noncomputable def s_lagoonref15_ShownE1 (cf : CallK) (fuel : Nat) (K : AV → Hp → Prop) : AV → Hp → Prop := fun t6 h =>
K t6 h
noncomputable def s_lagoonref15_ShownE3 (cf : CallK) (fuel : Nat) (ih2 : AV → AV → Hp → Prop) (t0 : AV) (t1 : AV) (t5 : AV) (t7 : AV) : AV → Hp → Prop := fun t6 h =>
vAdd t7 (.int .i64 1) h fun t22 h =>
ih2 t6 t22 h
noncomputable def s_lagoonref15_ShownE4 (cf : CallK) (fuel : Nat) (e3 : AV → Hp → Prop) (t0 : AV) (t1 : AV) (t5 : AV) (t6 : AV) (t7 : AV) : AV → Hp → Prop := fun t8 h =>
vBslice 1 1 false [(.str 0 0)] [(0, 1, t8)] h fun t80 h =>
vAppend2 1 16 false t6 t80 h fun t81 h =>
e3 t81 h
noncomputable def s_lagoonref15_ShownB32 (cf : CallK) (fuel : Nat) (ih5 : AV → AV → Hp → Prop) (e4 : AV → Hp → Prop) (t9 : AV) (t0 : AV) (t1 : AV) (t7 : AV) (t8 : AV) (h : Hp) : Prop :=
(fun (e6 : AV → Hp → Prop) =>
vIaddr 1 t1 t9 h fun t34 h =>
vLoad2 t34 h fun t35 h =>
vIaddr 1 t1 t7 h fun t38 h =>
vLoad2 t38 h fun t39 h =>
vEql t35 t39 h fun t40 h =>
joinG (fun g31 => grdV t40 true (vMov t0 h g31) (g31 undefV h)) fun t42 h =>
joinG (fun g30 => grdV t40 true (vMov t9 h g30) (g30 undefV h)) fun t43 h =>
joinG (fun g29 => grdV t40 true (vIaddr 2 t42 t43 h g29) (g29 undefV h)) fun t44 h =>
joinG (fun g28 => grdV t40 true (vLoadA 2 t44 h g28) (g28 undefV h)) fun t45 h =>
joinG (fun g27 => grdV t40 true (vMov t0 h g27) (g27 undefV h)) fun t46 h =>
joinG (fun g26 => grdV t40 true (vMov t7 h g26) (g26 undefV h)) fun t47 h =>
joinG (fun g25 => grdV t40 true (vIaddr 2 t46 t47 h g25) (g25 undefV h)) fun t48 h =>
joinG (fun g24 => grdV t40 true (vLoadA 2 t48 h g24) (g24 undefV h)) fun t49 h =>
joinG (fun g23 => grdV t40 true (cf f_lagoonref4_Less [t45, t49] h g23) (g23 undefV h)) fun t50 h =>
joinG (fun g22 => grdV t40 true (vMov t50 h g22) (g22 undefV h)) fun t51 h =>
joinG (fun g21 => grdV t51 false (vMov t9 h g21) (g21 undefV h)) fun t52 h =>
joinG (fun g20 => grdV t51 false (vMov t7 h g20) (g20 undefV h)) fun t53 h =>
joinG (fun g19 => grdV t51 false (vLss t52 t53 h g19) (g19 undefV h)) fun t54 h =>
joinG (fun g18 => grdV t51 false (vMov t54 h g18) (g18 undefV h)) fun t55 h =>
joinG (fun g17 => grdV t55 true (vMov t0 h g17) (g17 undefV h)) fun t56 h =>
joinG (fun g16 => grdV t55 true (vMov t9 h g16) (g16 undefV h)) fun t57 h =>
joinG (fun g15 => grdV t55 true (vIaddr 2 t56 t57 h g15) (g15 undefV h)) fun t58 h =>
joinG (fun g14 => grdV t55 true (vLoadA 2 t58 h g14) (g14 undefV h)) fun t59 h =>
joinG (fun g13 => grdV t55 true (vMov t0 h g13) (g13 undefV h)) fun t60 h =>
joinG (fun g12 => grdV t55 true (vMov t7 h g12) (g12 undefV h)) fun t61 h =>
joinG (fun g11 => grdV t55 true (vIaddr 2 t60 t61 h g11) (g11 undefV h)) fun t62 h =>
joinG (fun g10 => grdV t55 true (vLoadA 2 t62 h g10) (g10 undefV h)) fun t63 h =>
joinG (fun g9 => grdV t55 true (cf f_lagoonref4_Same [t59, t63] h g9) (g9 undefV h)) fun t64 h =>
joinG (fun g8 => grdV t51 false (vPick t55 t64 (.bool .false) h g8) (g8 undefV h)) fun t65 h =>
joinG (fun g7 => grdV t40 true (vPick t51 (.bool .true) t65 h g7) (g7 undefV h)) fun t66 h =>
vPick t40 t66 (.bool .false) h fun t67 h =>
vIf t67 (
vIaddr 1 t1 t7 h fun t70 h =>
vLoad2 t70 h fun t71 h =>
vIaddr 2 t0 t7 h fun t74 h =>
vLoadA 2 t74 h fun t75 h =>
cf f_lagoonref15_Suffix [t75] h fun t76 h =>
vLoad2 t70 h fun c _ => gd (sameV c t71) (
vAdd t71 t76 h fun t77 h =>
e4 t77 h)) (
e6 t8 h)) fun t8 h =>
vAdd t9 (.int .i64 1) h fun t31 h =>
ih5 t8 t31 h
noncomputable def s_lagoonref15_ShownL5B (cf : CallK) (fuel : Nat) (e4 : AV → Hp → Prop) (t0 : AV) (t1 : AV) (t5 : AV) (t6 : AV) (t7 : AV) (ih5 : AV → AV → Hp → Prop) : AV → AV → Hp → Prop := fun t8 t9 h =>
vLss t9 t5 h fun t29 h =>
vIf t29 (
s_lagoonref15_ShownB32 cf fuel ih5 e4 t9 t0 t1 t7 t8 h) (
e4 t8 h)
noncomputable def s_lagoonref15_ShownL5 (cf : CallK) (fuel : Nat) (e4 : AV → Hp → Prop) (t0 : AV) (t1 : AV) (t5 : AV) (t6 : AV) (t7 : AV) (m : Nat) : AV → AV → Hp → Prop := Nat.rec (motive := fun _ => AV → AV → Hp → Prop) (fun _ _ _ => False) (fun _ ih => s_lagoonref15_ShownL5B cf fuel e4 t0 t1 t5 t6 t7 ih) m
theorem s_lagoonref15_ShownL5_succ (cf : CallK) (fuel : Nat) (e4 : AV → Hp → Prop) (t0 : AV) (t1 : AV) (t5 : AV) (t6 : AV) (t7 : AV) (m : Nat) : s_lagoonref15_ShownL5 cf fuel e4 t0 t1 t5 t6 t7 (m + 1) = s_lagoonref15_ShownL5B cf fuel e4 t0 t1 t5 t6 t7 (s_lagoonref15_ShownL5 cf fuel e4 t0 t1 t5 t6 t7 m) := rfl
noncomputable def s_lagoonref15_ShownL2B (cf : CallK) (fuel : Nat) (e1 : AV → Hp → Prop) (t0 : AV) (t1 : AV) (t5 : AV) (ih2 : AV → AV → Hp → Prop) : AV → AV → Hp → Prop := fun t6 t7 h =>
vLss t7 t5 h fun t20 h =>
vIf t20 (
(fun (e3 : AV → Hp → Prop) =>
vIaddr 1 t1 t7 h fun t25 h =>
vLoad2 t25 h fun t26 h =>
(fun (e4 : AV → Hp → Prop) =>
s_lagoonref15_ShownL5 cf fuel (s_lagoonref15_ShownE4 cf fuel (s_lagoonref15_ShownE3 cf fuel ih2 t0 t1 t5 t7) t0 t1 t5 t6 t7) t0 t1 t5 t6 t7 fuel t26 (.int .i64 0) h) (s_lagoonref15_ShownE4 cf fuel (s_lagoonref15_ShownE3 cf fuel ih2 t0 t1 t5 t7) t0 t1 t5 t6 t7)) (s_lagoonref15_ShownE3 cf fuel ih2 t0 t1 t5 t7)) (
e1 t6 h)
noncomputable def s_lagoonref15_ShownL2 (cf : CallK) (fuel : Nat) (e1 : AV → Hp → Prop) (t0 : AV) (t1 : AV) (t5 : AV) (m : Nat) : AV → AV → Hp → Prop := Nat.rec (motive := fun _ => AV → AV → Hp → Prop) (fun _ _ _ => False) (fun _ ih => s_lagoonref15_ShownL2B cf fuel e1 t0 t1 t5 ih) m
theorem s_lagoonref15_ShownL2_succ (cf : CallK) (fuel : Nat) (e1 : AV → Hp → Prop) (t0 : AV) (t1 : AV) (t5 : AV) (m : Nat) : s_lagoonref15_ShownL2 cf fuel e1 t0 t1 t5 (m + 1) = s_lagoonref15_ShownL2B cf fuel e1 t0 t1 t5 (s_lagoonref15_ShownL2 cf fuel e1 t0 t1 t5 m) := rfl
noncomputable def s_lagoonref15_Shown (cf : CallK) (fuel : Nat) (t0 : AV) (t1 : AV) (h : Hp) (K : AV → Hp → Prop) : Prop :=
vLenL2 t0 h fun t11 h =>
(fun (j0 : AV → Hp → Prop) =>
vLenL2 t1 h fun t13 h =>
vLss t13 t11 h fun t15 h =>
vIf t15 (
vLenL2 t1 h fun t17 h =>
j0 t17 h) (
j0 t11 h)) fun t5 h =>
(fun (e1 : AV → Hp → Prop) =>
s_lagoonref15_ShownL2 cf fuel (s_lagoonref15_ShownE1 cf fuel K) t0 t1 t5 fuel .nilslice (.int .i64 0) h) (s_lagoonref15_ShownE1 cf fuel K)
theorem s_lagoonref15_Shown_eq (cf : CallK) (fuel : Nat) (t0 : AV) (t1 : AV) (h : Hp) (K : AV → Hp → Prop) : s_lagoonref15_Shown cf fuel t0 t1 h K = deepT (tabOf Tryd.prog) f_lagoonref15_Shown cf fuel [t0, t1] h K :=
  Eq.trans (by kernel_rfl) (rFun (by kernel_rfl) (rSeq (by kernel_rfl) (rSeq (by kernel_rfl) (rSeq (by kernel_rfl) (rSeq (by kernel_rfl) (rSeq (by kernel_rfl) rExact (rSeq (by kernel_rfl) (rBlock (by kernel_rfl) (rLoop (by kernel_rfl) (fun m2 fr h => s_lagoonref15_ShownL2 cf fuel (s_lagoonref15_ShownE1 cf fuel K) (getS fr (gpos 0)) (getS fr (gpos 1)) (getS fr (gpos 5)) m2 (getS fr (gpos 6)) (getS fr (gpos 7)) h) (funext fun fr => funext fun h => by kernel_rfl) fun m2 => rCast (funext fun fr => funext fun h => by kernel_rfl) (rSeq (by kernel_rfl) (rSeq (by kernel_rfl) rExact (rBlock (by kernel_rfl) (rSeq (by kernel_rfl) (rSeq (by kernel_rfl) rExact (rSeq (by kernel_rfl) (rBlock (by kernel_rfl) (rLoop (by kernel_rfl) (fun m5 fr h => s_lagoonref15_ShownL5 cf fuel (s_lagoonref15_ShownE4 cf fuel (s_lagoonref15_ShownE3 cf fuel (s_lagoonref15_ShownL2 cf fuel (s_lagoonref15_ShownE1 cf fuel K) (getS fr (gpos 0)) (getS fr (gpos 1)) (getS fr (gpos 5)) m2) (getS fr (gpos 0)) (getS fr (gpos 1)) (getS fr (gpos 5)) (getS fr (gpos 7))) (getS fr (gpos 0)) (getS fr (gpos 1)) (getS fr (gpos 5)) (getS fr (gpos 6)) (getS fr (gpos 7))) (getS fr (gpos 0)) (getS fr (gpos 1)) (getS fr (gpos 5)) (getS fr (gpos 6)) (getS fr (gpos 7)) m5 (getS fr (gpos 8)) (getS fr (gpos 9)) h) (funext fun fr => funext fun h => by kernel_rfl) fun m5 => rCast (funext fun fr => funext fun h => by kernel_rfl) rExact)) rExact)) rExact))) rExact))) rExact)) rExact) rExact) rExact) rExact))

noncomputable def s_lagoonref4_Valid (cf : CallK) (fuel : Nat) (t0 : AV) (h : Hp) (K : AV → Hp → Prop) : Prop :=
vBox 2 t0 h fun t1 h =>
vFaddr 0 t1 h fun t3 h =>
vLoad2 t3 h fun t4 h =>
vGeq t4 (.int .i64 1) h fun t5 h =>
joinG (fun g8 => grdV t5 true (vFaddr 0 t1 h g8) (g8 undefV h)) fun t7 h =>
joinG (fun g7 => grdV t5 true (vLoad2 t7 h g7) (g7 undefV h)) fun t8 h =>
joinG (fun g6 => grdV t5 true (vLeq t8 (.int .i64 1152921504606846976) h g6) (g6 undefV h)) fun t9 h =>
vPick t5 t9 (.bool .false) h fun t10 h =>
joinG (fun g5 => grdV t10 true (vFaddr 1 t1 h g5) (g5 undefV h)) fun t12 h =>
joinG (fun g4 => grdV t10 true (vLoad2 t12 h g4) (g4 undefV h)) fun t13 h =>
joinG (fun g3 => grdV t10 true (vGeq t13 (.int .i64 0) h g3) (g3 undefV h)) fun t14 h =>
vPick t10 t14 (.bool .false) h fun t15 h =>
joinG (fun g2 => grdV t15 true (vFaddr 1 t1 h g2) (g2 undefV h)) fun t17 h =>
joinG (fun g1 => grdV t15 true (vLoad2 t17 h g1) (g1 undefV h)) fun t18 h =>
joinG (fun g0 => grdV t15 true (vLss t18 (.int .i64 64) h g0) (g0 undefV h)) fun t19 h =>
vPick t15 t19 (.bool .false) h fun t20 h =>
K t20 h
theorem s_lagoonref4_Valid_eq (cf : CallK) (fuel : Nat) (t0 : AV) (h : Hp) (K : AV → Hp → Prop) : s_lagoonref4_Valid cf fuel t0 h K = deepT (tabOf Tryd.prog) f_lagoonref4_Valid cf fuel [t0] h K :=
  Eq.trans (by kernel_rfl) (rFun (by kernel_rfl) rExact)

noncomputable def s_lagoonref12_NameE0 (cf : CallK) (fuel : Nat) (K : AV → Hp → Prop) (t0 : AV) : Hp → Prop := fun h =>
cf f_lagoonref12_Local [t0] h fun t15 h =>
K t15 h
noncomputable def s_lagoonref12_NameL1B (cf : CallK) (fuel : Nat) (K : AV → Hp → Prop) (e0 : Hp → Prop) (t0 : AV) (ih1 : AV → Hp → Prop) : AV → Hp → Prop := fun t3 h =>
vLenS t0 h fun t6 h =>
vLss t3 t6 h fun t7 h =>
vIf t7 (
(fun (e2 : Hp → Prop) =>
vIdxS t0 t3 h fun t12 h =>
vEql t12 (.int .u8 1) h fun t13 h =>
vIf t13 (
K (.int .i64 22) h) (
e2 h)) fun h =>
vAdd t3 (.int .i64 1) h fun t9 h =>
ih1 t9 h) (
e0 h)
noncomputable def s_lagoonref12_NameL1 (cf : CallK) (fuel : Nat) (K : AV → Hp → Prop) (e0 : Hp → Prop) (t0 : AV) (m : Nat) : AV → Hp → Prop := Nat.rec (motive := fun _ => AV → Hp → Prop) (fun _ _ => False) (fun _ ih => s_lagoonref12_NameL1B cf fuel K e0 t0 ih) m
theorem s_lagoonref12_NameL1_succ (cf : CallK) (fuel : Nat) (K : AV → Hp → Prop) (e0 : Hp → Prop) (t0 : AV) (m : Nat) : s_lagoonref12_NameL1 cf fuel K e0 t0 (m + 1) = s_lagoonref12_NameL1B cf fuel K e0 t0 (s_lagoonref12_NameL1 cf fuel K e0 t0 m) := rfl
noncomputable def s_lagoonref12_Name (cf : CallK) (fuel : Nat) (t0 : AV) (h : Hp) (K : AV → Hp → Prop) : Prop :=
(fun (e0 : Hp → Prop) =>
s_lagoonref12_NameL1 cf fuel K (s_lagoonref12_NameE0 cf fuel K t0) t0 fuel (.int .i64 0) h) (s_lagoonref12_NameE0 cf fuel K t0)
theorem s_lagoonref12_Name_eq (cf : CallK) (fuel : Nat) (t0 : AV) (h : Hp) (K : AV → Hp → Prop) : s_lagoonref12_Name cf fuel t0 h K = deepT (tabOf Tryd.prog) f_lagoonref12_Name cf fuel [t0] h K :=
  Eq.trans (by kernel_rfl) (rFun (by kernel_rfl) (rSeq (by kernel_rfl) (rSeq (by kernel_rfl) rExact (rSeq (by kernel_rfl) (rBlock (by kernel_rfl) (rLoop (by kernel_rfl) (fun m1 fr h => s_lagoonref12_NameL1 cf fuel K (s_lagoonref12_NameE0 cf fuel K (getS fr (gpos 0))) (getS fr (gpos 0)) m1 (getS fr (gpos 3)) h) (funext fun fr => funext fun h => by kernel_rfl) fun m1 => rCast (funext fun fr => funext fun h => by kernel_rfl) rExact)) rExact)) rExact))

noncomputable def s_lagoonref4_Same (cf : CallK) (fuel : Nat) (t0 : AV) (t1 : AV) (h : Hp) (K : AV → Hp → Prop) : Prop :=
vBox 2 t0 h fun t2 h =>
vBox 2 t1 h fun t3 h =>
vFaddr 0 t2 h fun t5 h =>
vLoad2 t5 h fun t6 h =>
vFaddr 0 t3 h fun t7 h =>
vLoad2 t7 h fun t8 h =>
vEql t6 t8 h fun t9 h =>
joinG (fun g4 => grdV t9 true (vFaddr 1 t2 h g4) (g4 undefV h)) fun t11 h =>
joinG (fun g3 => grdV t9 true (vLoad2 t11 h g3) (g3 undefV h)) fun t12 h =>
joinG (fun g2 => grdV t9 true (vFaddr 1 t3 h g2) (g2 undefV h)) fun t13 h =>
joinG (fun g1 => grdV t9 true (vLoad2 t13 h g1) (g1 undefV h)) fun t14 h =>
joinG (fun g0 => grdV t9 true (vEql t12 t14 h g0) (g0 undefV h)) fun t15 h =>
vPick t9 t15 (.bool .false) h fun t16 h =>
K t16 h
theorem s_lagoonref4_Same_eq (cf : CallK) (fuel : Nat) (t0 : AV) (t1 : AV) (h : Hp) (K : AV → Hp → Prop) : s_lagoonref4_Same cf fuel t0 t1 h K = deepT (tabOf Tryd.prog) f_lagoonref4_Same cf fuel [t0, t1] h K :=
  Eq.trans (by kernel_rfl) (rFun (by kernel_rfl) rExact)

noncomputable def s_clash_Split (cf : CallK) (fuel : Nat) (t0 : AV) (h : Hp) (K : AV → Hp → Prop) : Prop :=
vBox 2 (.agg [(.int .i64 0), (.int .i64 0)]) h fun t3 h =>
cf f_strings_Cut [t0, (.str 1 1)] h fun t18 h =>
vExtract 0 t18 h fun t19 h =>
vExtract 1 t18 h fun t20 h =>
vExtract 2 t18 h fun t21 h =>
cf f_strings_Cut [t20, (.str 1 46)] h fun t24 h =>
vExtract 0 t24 h fun t25 h =>
vExtract 1 t24 h fun t26 h =>
vExtract 2 t24 h fun t27 h =>
cf f_clash_number [t25] h fun t30 h =>
vExtract 0 t30 h fun t31 h =>
vExtract 1 t30 h fun t32 h =>
cf f_clash_number [t26] h fun t35 h =>
vExtract 0 t35 h fun t36 h =>
vExtract 1 t35 h fun t37 h =>
vBuild [(.int .i64 0), (.int .i64 0)] [(0, 1, t31), (1, 1, t36)] h fun t40 h =>
vBox 2 (.agg [(.int .i64 0), (.int .i64 0)]) h fun t15 h =>
vStore 2 t15 t40 h fun _ h =>
vNot t32 h fun t42 h =>
joinG (fun g13 => grdV t42 false (vMov t37 h g13) (g13 undefV h)) fun t44 h =>
joinG (fun g12 => grdV t42 false (vNot t44 h g12) (g12 undefV h)) fun t45 h =>
vPick t42 (.bool .true) t45 h fun t46 h =>
joinG (fun g11 => grdV t46 false (vLoadA 2 t15 h g11) (g11 undefV h)) fun t48 h =>
joinG (fun g10 => grdV t46 false (cf f_clock_Valid [t48] h g10) (g10 undefV h)) fun t49 h =>
joinG (fun g9 => grdV t46 false (vNot t49 h g9) (g9 undefV h)) fun t50 h =>
vPick t46 (.bool .true) t50 h fun t51 h =>
joinG (fun g8 => grdV t51 false (vMov t19 h g8) (g8 undefV h)) fun t53 h =>
joinG (fun g7 => grdV t51 false (cf f_ops_Name [t53] h g7) (g7 undefV h)) fun t54 h =>
joinG (fun g6 => grdV t51 false (vNeq t54 (.int .i64 0) h g6) (g6 undefV h)) fun t55 h =>
vPick t51 (.bool .true) t55 h fun t56 h =>
joinG (fun g5 => grdV t56 false (vMov t19 h g5) (g5 undefV h)) fun t58 h =>
joinG (fun g4 => grdV t56 false (vLoadA 2 t15 h g4) (g4 undefV h)) fun t59 h =>
joinG (fun g3 => grdV t56 false (cf f_clash_Suffix [t59] h g3) (g3 undefV h)) fun t60 h =>
joinG (fun g2 => grdV t56 false (vAdd t58 t60 h g2) (g2 undefV h)) fun t61 h =>
joinG (fun g1 => grdV t56 false (vMov t0 h g1) (g1 undefV h)) fun t62 h =>
joinG (fun g0 => grdV t56 false (vNeq t61 t62 h g0) (g0 undefV h)) fun t63 h =>
vPick t56 (.bool .true) t63 h fun t64 h =>
vIf t64 (
vBuild [(.int .i64 0), (.int .i64 0)] [] h fun t66 h =>
vStore 2 t3 t66 h fun _ h =>
vLoadA 2 t3 h fun r1 _ => K (.tup [t0, r1, (.bool .false)]) h) (
vLoadA 2 t15 h fun t68 h =>
vStore 2 t3 t68 h fun _ h =>
vLoadA 2 t3 h fun r1 _ => K (.tup [t19, r1, (.bool .true)]) h)
theorem s_clash_Split_eq (cf : CallK) (fuel : Nat) (t0 : AV) (h : Hp) (K : AV → Hp → Prop) : s_clash_Split cf fuel t0 h K = deepT (tabOf Tryd.prog) f_clash_Split cf fuel [t0] h K :=
  Eq.trans (by kernel_rfl) (rFun (by kernel_rfl) rExact)

noncomputable def s_lagoonref15_SplitE0 (cf : CallK) (fuel : Nat) (K : AV → Hp → Prop) (t0 : AV) (t3 : AV) : Hp → Prop := fun h =>
vBuild [(.int .i64 0), (.int .i64 0)] [] h fun t70 h =>
vStore 2 t3 t70 h fun _ h =>
vLoadA 2 t3 h fun r1 _ => K (.tup [t0, r1, (.bool .false)]) h
noncomputable def s_lagoonref15_SplitE2 (cf : CallK) (fuel : Nat) (ih1 : AV → Hp → Prop) (t0 : AV) (t3 : AV) (t5 : AV) : Hp → Prop := fun h =>
vAdd t5 (.int .i64 1) h fun t15 h =>
ih1 t15 h
noncomputable def s_lagoonref15_SplitE3 (cf : CallK) (fuel : Nat) (K : AV → Hp → Prop) (t0 : AV) (t3 : AV) : Hp → Prop := fun h =>
vBuild [(.int .i64 0), (.int .i64 0)] [] h fun t68 h =>
vStore 2 t3 t68 h fun _ h =>
vLoadA 2 t3 h fun r1 _ => K (.tup [t0, r1, (.bool .false)]) h
noncomputable def s_lagoonref15_SplitB12 (cf : CallK) (fuel : Nat) (K : AV → Hp → Prop) (j6 : Hp → Prop) (t38 : AV) (t9 : AV) (t0 : AV) (t3 : AV) (t5 : AV) (h : Hp) : Prop :=
vFaddr 1 t9 h fun t51 h =>
vStore 1 t51 t38 h fun _ h =>
vLoadA 2 t9 h fun t52 h =>
cf f_lagoonref4_Valid [t52] h fun t53 h =>
joinG (fun g11 => grdV t53 true (vMov t0 h g11) (g11 undefV h)) fun t55 h =>
joinG (fun g10 => grdV t53 true (vMov t5 h g10) (g10 undefV h)) fun t56 h =>
joinG (fun g9 => grdV t53 true (vSliceS t55 none (some t56) h g9) (g9 undefV h)) fun t57 h =>
joinG (fun g8 => grdV t53 true (cf f_lagoonref12_Name [t57] h g8) (g8 undefV h)) fun t58 h =>
joinG (fun g7 => grdV t53 true (vEql t58 (.int .i64 0) h g7) (g7 undefV h)) fun t59 h =>
vPick t53 t59 (.bool .false) h fun t60 h =>
vIf t60 (
vSliceS t0 none (some t5) h fun t63 h =>
vLoadA 2 t9 h fun t64 h =>
vStore 2 t3 t64 h fun _ h =>
vLoadA 2 t3 h fun r1 _ => K (.tup [t63, r1, (.bool .true)]) h) (
j6 h)
noncomputable def s_lagoonref15_SplitB15 (cf : CallK) (fuel : Nat) (K : AV → Hp → Prop) (t7 : AV) (t6 : AV) (t0 : AV) (t3 : AV) (t5 : AV) (h : Hp) : Prop :=
vAdd t7 (.int .i64 1) h fun t36 h =>
vSliceS t6 (some t36) none h fun t37 h =>
cf f_lagoonref15_number [t37] h fun t38 h =>
vSliceS t6 none (some t7) h fun t41 h =>
cf f_lagoonref15_number [t41] h fun t42 h =>
vBuild [(.int .i64 0), (.int .i64 0)] [(0, 1, t42)] h fun t43 h =>
vBox 2 (.agg [(.int .i64 0), (.int .i64 0)]) h fun t9 h =>
vStore 2 t9 t43 h fun _ h =>
(fun (j6 : Hp → Prop) =>
vGeq t38 (.int .i64 0) h fun t45 h =>
joinG (fun g14 => grdV t45 true (vMov t38 h g14) (g14 undefV h)) fun t47 h =>
joinG (fun g13 => grdV t45 true (vLss t47 (.int .i64 64) h g13) (g13 undefV h)) fun t48 h =>
vPick t45 t48 (.bool .false) h fun t49 h =>
vIf t49 (
s_lagoonref15_SplitB12 cf fuel K j6 t38 t9 t0 t3 t5 h) (
j6 h)) fun h =>
vBuild [(.int .i64 0), (.int .i64 0)] [] h fun t66 h =>
vStore 2 t3 t66 h fun _ h =>
vLoadA 2 t3 h fun r1 _ => K (.tup [t0, r1, (.bool .false)]) h
noncomputable def s_lagoonref15_SplitL4B (cf : CallK) (fuel : Nat) (K : AV → Hp → Prop) (e3 : Hp → Prop) (t0 : AV) (t3 : AV) (t5 : AV) (t6 : AV) (ih4 : AV → Hp → Prop) : AV → Hp → Prop := fun t7 h =>
vLenS t6 h fun t26 h =>
vLss t7 t26 h fun t27 h =>
vIf t27 (
(fun (e5 : Hp → Prop) =>
vIdxS t6 t7 h fun t32 h =>
vNeq t32 (.int .u8 46) h fun t33 h =>
vIf t33 (
e5 h) (
s_lagoonref15_SplitB15 cf fuel K t7 t6 t0 t3 t5 h)) fun h =>
vAdd t7 (.int .i64 1) h fun t29 h =>
ih4 t29 h) (
e3 h)
noncomputable def s_lagoonref15_SplitL4 (cf : CallK) (fuel : Nat) (K : AV → Hp → Prop) (e3 : Hp → Prop) (t0 : AV) (t3 : AV) (t5 : AV) (t6 : AV) (m : Nat) : AV → Hp → Prop := Nat.rec (motive := fun _ => AV → Hp → Prop) (fun _ _ => False) (fun _ ih => s_lagoonref15_SplitL4B cf fuel K e3 t0 t3 t5 t6 ih) m
theorem s_lagoonref15_SplitL4_succ (cf : CallK) (fuel : Nat) (K : AV → Hp → Prop) (e3 : Hp → Prop) (t0 : AV) (t3 : AV) (t5 : AV) (t6 : AV) (m : Nat) : s_lagoonref15_SplitL4 cf fuel K e3 t0 t3 t5 t6 (m + 1) = s_lagoonref15_SplitL4B cf fuel K e3 t0 t3 t5 t6 (s_lagoonref15_SplitL4 cf fuel K e3 t0 t3 t5 t6 m) := rfl
noncomputable def s_lagoonref15_SplitL1B (cf : CallK) (fuel : Nat) (K : AV → Hp → Prop) (e0 : Hp → Prop) (t0 : AV) (t3 : AV) (ih1 : AV → Hp → Prop) : AV → Hp → Prop := fun t5 h =>
vLenS t0 h fun t12 h =>
vLss t5 t12 h fun t13 h =>
vIf t13 (
(fun (e2 : Hp → Prop) =>
vIdxS t0 t5 h fun t18 h =>
vNeq t18 (.int .u8 1) h fun t19 h =>
vIf t19 (
e2 h) (
vAdd t5 (.int .i64 1) h fun t22 h =>
vSliceS t0 (some t22) none h fun t23 h =>
(fun (e3 : Hp → Prop) =>
s_lagoonref15_SplitL4 cf fuel K (s_lagoonref15_SplitE3 cf fuel K t0 t3) t0 t3 t5 t23 fuel (.int .i64 0) h) (s_lagoonref15_SplitE3 cf fuel K t0 t3))) (s_lagoonref15_SplitE2 cf fuel ih1 t0 t3 t5)) (
e0 h)
noncomputable def s_lagoonref15_SplitL1 (cf : CallK) (fuel : Nat) (K : AV → Hp → Prop) (e0 : Hp → Prop) (t0 : AV) (t3 : AV) (m : Nat) : AV → Hp → Prop := Nat.rec (motive := fun _ => AV → Hp → Prop) (fun _ _ => False) (fun _ ih => s_lagoonref15_SplitL1B cf fuel K e0 t0 t3 ih) m
theorem s_lagoonref15_SplitL1_succ (cf : CallK) (fuel : Nat) (K : AV → Hp → Prop) (e0 : Hp → Prop) (t0 : AV) (t3 : AV) (m : Nat) : s_lagoonref15_SplitL1 cf fuel K e0 t0 t3 (m + 1) = s_lagoonref15_SplitL1B cf fuel K e0 t0 t3 (s_lagoonref15_SplitL1 cf fuel K e0 t0 t3 m) := rfl
noncomputable def s_lagoonref15_Split (cf : CallK) (fuel : Nat) (t0 : AV) (h : Hp) (K : AV → Hp → Prop) : Prop :=
vBox 2 (.agg [(.int .i64 0), (.int .i64 0)]) h fun t3 h =>
(fun (e0 : Hp → Prop) =>
s_lagoonref15_SplitL1 cf fuel K (s_lagoonref15_SplitE0 cf fuel K t0 t3) t0 t3 fuel (.int .i64 0) h) (s_lagoonref15_SplitE0 cf fuel K t0 t3)
theorem s_lagoonref15_Split_eq (cf : CallK) (fuel : Nat) (t0 : AV) (h : Hp) (K : AV → Hp → Prop) : s_lagoonref15_Split cf fuel t0 h K = deepT (tabOf Tryd.prog) f_lagoonref15_Split cf fuel [t0] h K :=
  Eq.trans (by kernel_rfl) (rFun (by kernel_rfl) (rSeq (by kernel_rfl) (rSeq (by kernel_rfl) rExact (rSeq (by kernel_rfl) (rBlock (by kernel_rfl) (rLoop (by kernel_rfl) (fun m1 fr h => s_lagoonref15_SplitL1 cf fuel K (s_lagoonref15_SplitE0 cf fuel K (getS fr (gpos 0)) (getS fr (gpos 3))) (getS fr (gpos 0)) (getS fr (gpos 3)) m1 (getS fr (gpos 5)) h) (funext fun fr => funext fun h => by kernel_rfl) fun m1 => rCast (funext fun fr => funext fun h => by kernel_rfl) (rSeq (by kernel_rfl) (rSeq (by kernel_rfl) rExact (rBlock (by kernel_rfl) (rSeq (by kernel_rfl) (rSeq (by kernel_rfl) (rSeq (by kernel_rfl) rExact (rSeq (by kernel_rfl) (rBlock (by kernel_rfl) (rLoop (by kernel_rfl) (fun m4 fr h => s_lagoonref15_SplitL4 cf fuel K (s_lagoonref15_SplitE3 cf fuel K (getS fr (gpos 0)) (getS fr (gpos 3))) (getS fr (gpos 0)) (getS fr (gpos 3)) (getS fr (gpos 5)) (getS fr (gpos 6)) m4 (getS fr (gpos 7)) h) (funext fun fr => funext fun h => by kernel_rfl) fun m4 => rCast (funext fun fr => funext fun h => by kernel_rfl) rExact)) rExact)) rExact) rExact))) rExact))) rExact)) rExact))

noncomputable def s_clash_Suffix (cf : CallK) (fuel : Nat) (t0 : AV) (h : Hp) (K : AV → Hp → Prop) : Prop :=
vBox 2 t0 h fun t1 h =>
vFaddr 0 t1 h fun t3 h =>
vLoad2 t3 h fun t4 h =>
vFaddr 1 t1 h fun t8 h =>
vLoad2 t8 h fun t9 h =>
cf f_strconv_FormatInt [t4, (.int .i64 10)] h fun t5 h =>
vLoad2 t8 h fun c _ => gd (sameV c t9) (
vAdd (.str 1 1) t5 h fun t6 h =>
vAdd t6 (.str 1 46) h fun t7 h =>
cf f_strconv_Itoa [t9] h fun t10 h =>
vAdd t7 t10 h fun t11 h =>
K t11 h)
theorem s_clash_Suffix_eq (cf : CallK) (fuel : Nat) (t0 : AV) (h : Hp) (K : AV → Hp → Prop) : s_clash_Suffix cf fuel t0 h K = deepT (tabOf Tryd.prog) f_clash_Suffix cf fuel [t0] h K :=
  Eq.trans (by kernel_rfl) (rFun (by kernel_rfl) rExact)

noncomputable def s_lagoonref15_Suffix (cf : CallK) (fuel : Nat) (t0 : AV) (h : Hp) (K : AV → Hp → Prop) : Prop :=
vBox 2 t0 h fun t1 h =>
vFaddr 0 t1 h fun t3 h =>
vLoad2 t3 h fun t4 h =>
vFaddr 1 t1 h fun t8 h =>
vLoad2 t8 h fun t9 h =>
cf f_lagoonref15_digits [t4] h fun t5 h =>
vLoad2 t8 h fun c _ => gd (sameV c t9) (
vAdd (.str 1 1) t5 h fun t6 h =>
vAdd t6 (.str 1 46) h fun t7 h =>
cf f_lagoonref15_digits [t9] h fun t10 h =>
vAdd t7 t10 h fun t11 h =>
K t11 h)
theorem s_lagoonref15_Suffix_eq (cf : CallK) (fuel : Nat) (t0 : AV) (h : Hp) (K : AV → Hp → Prop) : s_lagoonref15_Suffix cf fuel t0 h K = deepT (tabOf Tryd.prog) f_lagoonref15_Suffix cf fuel [t0] h K :=
  Eq.trans (by kernel_rfl) (rFun (by kernel_rfl) rExact)

noncomputable def s_lagoonlaw19_begun (cf : CallK) (fuel : Nat) (h : Hp) (K : AV → Hp → Prop) : Prop :=
cf f_path_Parse [(.str 4 1647272239)] h fun t4 h =>
vExtract 0 t4 h fun t5 h =>
vExtract 1 t4 h fun t6 h =>
vEql t6 (.int .i64 0) h fun t8 h =>
joinG (fun g16 => grdV t8 true (vMov t5 h g16) (g16 undefV h)) fun t10 h =>
joinG (fun g15 => grdV t8 true (vLenL2 t10 h g15) (g15 undefV h)) fun t11 h =>
joinG (fun g14 => grdV t8 true (vEql t11 (.int .i64 2) h g14) (g14 undefV h)) fun t12 h =>
vPick t8 t12 (.bool .false) h fun t13 h =>
joinG (fun g13 => grdV t13 true (vMov t5 h g13) (g13 undefV h)) fun t15 h =>
joinG (fun g12 => grdV t13 true (vIaddr 1 t15 (.int .i64 1) h g12) (g12 undefV h)) fun t16 h =>
joinG (fun g11 => grdV t13 true (vLoad2 t16 h g11) (g11 undefV h)) fun t17 h =>
joinG (fun g10 => grdV t13 true (vEql t17 (.str 1 98) h g10) (g10 undefV h)) fun t18 h =>
vPick t13 t18 (.bool .false) h fun t19 h =>
joinG (fun g9 => grdV t19 true (vMov t5 h g9) (g9 undefV h)) fun t21 h =>
joinG (fun g8 => grdV t19 true (cf f_path_Join [t21] h g8) (g8 undefV h)) fun t22 h =>
joinG (fun g7 => grdV t19 true (vEql t22 (.str 4 1647272239) h g7) (g7 undefV h)) fun t23 h =>
vPick t19 t23 (.bool .false) h fun t24 h =>
joinG (fun g6 => grdV t24 true (vMov t5 h g6) (g6 undefV h)) fun t26 h =>
joinG (fun g5 => grdV t24 true (vSlice2 1 t26 none (some (.int .i64 1)) h g5) (g5 undefV h)) fun t27 h =>
joinG (fun g4 => grdV t24 true (vMov t5 h g4) (g4 undefV h)) fun t28 h =>
joinG (fun g3 => grdV t24 true (cf f_path_Above [t27, t28] h g3) (g3 undefV h)) fun t29 h =>
vPick t24 t29 (.bool .false) h fun t30 h =>
joinG (fun g2 => grdV t30 true (vMov t5 h g2) (g2 undefV h)) fun t32 h =>
joinG (fun g1 => grdV t30 true (cf f_path_Fresh [t32] h g1) (g1 undefV h)) fun t33 h =>
joinG (fun g0 => grdV t30 true (vEql t33 (.int .i64 0) h g0) (g0 undefV h)) fun t34 h =>
vPick t30 t34 (.bool .false) h fun t35 h =>
K t35 h
theorem s_lagoonlaw19_begun_eq (cf : CallK) (fuel : Nat) (h : Hp) (K : AV → Hp → Prop) : s_lagoonlaw19_begun cf fuel h K = deepT (tabOf Tryd.prog) f_lagoonlaw19_begun cf fuel [] h K :=
  Eq.trans (by kernel_rfl) (rFun (by kernel_rfl) rExact)

noncomputable def s_path_ParseE1 (cf : CallK) (fuel : Nat) (K : AV → Hp → Prop) (t4 : AV) : Hp → Prop := fun h =>
K (.tup [t4, (.int .i64 0)]) h
noncomputable def s_path_ParseB4 (cf : CallK) (fuel : Nat) (K : AV → Hp → Prop) (ih2 : AV → Hp → Prop) (t27 : AV) (t29 : AV) (h : Hp) : Prop :=
(fun (e3 : Hp → Prop) =>
vIaddr 1 t27 t29 h fun t31 h =>
vLoad2 t31 h fun t32 h =>
cf f_clash_Split [t32] h fun t35 h =>
vExtract 0 t35 h fun t36 h =>
vExtract 1 t35 h fun t37 h =>
vExtract 2 t35 h fun t38 h =>
vBox 2 (.agg [(.int .i64 0), (.int .i64 0)]) h fun t8 h =>
vStore 2 t8 t37 h fun _ h =>
vIf t38 (
e3 h) (
cf f_ops_Name [t32] h fun t41 h =>
vNeq t41 (.int .i64 0) h fun t43 h =>
vIf t43 (
K (.tup [.nilslice, t41]) h) (
e3 h))) fun h =>
vAdd t29 (.int .i64 1) h fun t45 h =>
ih2 t45 h
noncomputable def s_path_ParseL2B (cf : CallK) (fuel : Nat) (K : AV → Hp → Prop) (e1 : Hp → Prop) (t4 : AV) (t27 : AV) (t28 : AV) (ih2 : AV → Hp → Prop) : AV → Hp → Prop := fun t29 h =>
vLss t29 t28 h fun t30 h =>
vIf t30 (
s_path_ParseB4 cf fuel K ih2 t27 t29 h) (
e1 h)
noncomputable def s_path_ParseL2 (cf : CallK) (fuel : Nat) (K : AV → Hp → Prop) (e1 : Hp → Prop) (t4 : AV) (t27 : AV) (t28 : AV) (m : Nat) : AV → Hp → Prop := Nat.rec (motive := fun _ => AV → Hp → Prop) (fun _ _ => False) (fun _ ih => s_path_ParseL2B cf fuel K e1 t4 t27 t28 ih) m
theorem s_path_ParseL2_succ (cf : CallK) (fuel : Nat) (K : AV → Hp → Prop) (e1 : Hp → Prop) (t4 : AV) (t27 : AV) (t28 : AV) (m : Nat) : s_path_ParseL2 cf fuel K e1 t4 t27 t28 (m + 1) = s_path_ParseL2B cf fuel K e1 t4 t27 t28 (s_path_ParseL2 cf fuel K e1 t4 t27 t28 m) := rfl
noncomputable def s_path_ParseB8 (cf : CallK) (fuel : Nat) (K : AV → Hp → Prop) (t0 : AV) (h : Hp) : Prop :=
(fun (j0 : AV → Hp → Prop) =>
vNeq t0 (.str 1 47) h fun t15 h =>
vIf t15 (
vSliceS t0 (some (.int .i64 1)) none h fun t17 h =>
cf f_strings_Split [t17, (.str 1 47)] h fun t18 h =>
j0 t18 h) (
j0 .nilslice h)) fun t4 h =>
vLenS t0 h fun t20 h =>
vGtr t20 (.int .i64 1024) h fun t21 h =>
joinG (fun g7 => grdV t21 false (vMov t4 h g7) (g7 undefV h)) fun t23 h =>
joinG (fun g6 => grdV t21 false (vLenL2 t23 h g6) (g6 undefV h)) fun t24 h =>
joinG (fun g5 => grdV t21 false (vGtr t24 (.int .i64 64) h g5) (g5 undefV h)) fun t25 h =>
vPick t21 (.bool .true) t25 h fun t26 h =>
vIf t26 (
K (.tup [.nilslice, (.int .i64 36)]) h) (
vLenL2 t4 h fun t28 h =>
(fun (e1 : Hp → Prop) =>
s_path_ParseL2 cf fuel K (s_path_ParseE1 cf fuel K t4) t4 t4 t28 fuel (.int .i64 0) h) (s_path_ParseE1 cf fuel K t4))
noncomputable def s_path_Parse (cf : CallK) (fuel : Nat) (t0 : AV) (h : Hp) (K : AV → Hp → Prop) : Prop :=
cf f_strings_HasPrefix [t0, (.str 1 47)] h fun t12 h =>
vNot t12 h fun t13 h =>
vIf t13 (
K (.tup [.nilslice, (.int .i64 22)]) h) (
s_path_ParseB8 cf fuel K t0 h)
theorem s_path_Parse_eq (cf : CallK) (fuel : Nat) (t0 : AV) (h : Hp) (K : AV → Hp → Prop) : s_path_Parse cf fuel t0 h K = deepT (tabOf Tryd.prog) f_path_Parse cf fuel [t0] h K :=
  Eq.trans (by kernel_rfl) (rFun (by kernel_rfl) (rSeq (by kernel_rfl) (rSeq (by kernel_rfl) (rSeq (by kernel_rfl) (rSeq (by kernel_rfl) (rSeq (by kernel_rfl) (rSeq (by kernel_rfl) rExact (rSeq (by kernel_rfl) (rBlock (by kernel_rfl) (rLoop (by kernel_rfl) (fun m2 fr h => s_path_ParseL2 cf fuel K (s_path_ParseE1 cf fuel K (getS fr (gpos 4))) (getS fr (gpos 4)) (getS fr (gpos 27)) (getS fr (gpos 28)) m2 (getS fr (gpos 29)) h) (funext fun fr => funext fun h => by kernel_rfl) fun m2 => rCast (funext fun fr => funext fun h => by kernel_rfl) rExact)) rExact)) rExact) rExact) rExact) rExact) rExact))

noncomputable def s_lagoonref19_ParseE1 (cf : CallK) (fuel : Nat) (K : AV → Hp → Prop) (t4 : AV) : Hp → Prop := fun h =>
K (.tup [t4, (.int .i64 0)]) h
noncomputable def s_lagoonref19_ParseB6 (cf : CallK) (fuel : Nat) (K : AV → Hp → Prop) (ih2 : AV → Hp → Prop) (t4 : AV) (t7 : AV) (h : Hp) : Prop :=
(fun (e3 : Hp → Prop) =>
vIaddr 1 t4 t7 h fun t62 h =>
vLoad2 t62 h fun t63 h =>
cf f_lagoonref12_Name [t63] h fun t64 h =>
vIaddr 1 t4 t7 h fun t68 h =>
vLoad2 t68 h fun t69 h =>
cf f_lagoonref15_Split [t69] h fun t70 h =>
vExtract 0 t70 h fun t71 h =>
vExtract 1 t70 h fun t72 h =>
vExtract 2 t70 h fun t73 h =>
vBox 2 (.agg [(.int .i64 0), (.int .i64 0)]) h fun t10 h =>
vStore 2 t10 t72 h fun _ h =>
vNeq t64 (.int .i64 0) h fun t75 h =>
joinG (fun g5 => grdV t75 true (vMov t73 h g5) (g5 undefV h)) fun t77 h =>
joinG (fun g4 => grdV t75 true (vNot t77 h g4) (g4 undefV h)) fun t78 h =>
vPick t75 t78 (.bool .false) h fun t79 h =>
vIf t79 (
K (.tup [.nilslice, t64]) h) (
e3 h)) fun h =>
vAdd t7 (.int .i64 1) h fun t59 h =>
ih2 t59 h
noncomputable def s_lagoonref19_ParseL2B (cf : CallK) (fuel : Nat) (K : AV → Hp → Prop) (e1 : Hp → Prop) (t4 : AV) (ih2 : AV → Hp → Prop) : AV → Hp → Prop := fun t7 h =>
vLenL2 t4 h fun t56 h =>
vLss t7 t56 h fun t57 h =>
vIf t57 (
s_lagoonref19_ParseB6 cf fuel K ih2 t4 t7 h) (
e1 h)
noncomputable def s_lagoonref19_ParseL2 (cf : CallK) (fuel : Nat) (K : AV → Hp → Prop) (e1 : Hp → Prop) (t4 : AV) (m : Nat) : AV → Hp → Prop := Nat.rec (motive := fun _ => AV → Hp → Prop) (fun _ _ => False) (fun _ ih => s_lagoonref19_ParseL2B cf fuel K e1 t4 ih) m
theorem s_lagoonref19_ParseL2_succ (cf : CallK) (fuel : Nat) (K : AV → Hp → Prop) (e1 : Hp → Prop) (t4 : AV) (m : Nat) : s_lagoonref19_ParseL2 cf fuel K e1 t4 (m + 1) = s_lagoonref19_ParseL2B cf fuel K e1 t4 (s_lagoonref19_ParseL2 cf fuel K e1 t4 m) := rfl
noncomputable def s_lagoonref19_ParseE0 (cf : CallK) (fuel : Nat) (K : AV → Hp → Prop) (t0 : AV) : AV → Hp → Prop := fun t4 h =>
vLenS t0 h fun t47 h =>
vGtr t47 (.int .i64 1024) h fun t48 h =>
joinG (fun g9 => grdV t48 false (vMov t4 h g9) (g9 undefV h)) fun t50 h =>
joinG (fun g8 => grdV t48 false (vLenL2 t50 h g8) (g8 undefV h)) fun t51 h =>
joinG (fun g7 => grdV t48 false (vGtr t51 (.int .i64 64) h g7) (g7 undefV h)) fun t52 h =>
vPick t48 (.bool .true) t52 h fun t53 h =>
vIf t53 (
K (.tup [.nilslice, (.int .i64 36)]) h) (
(fun (e1 : Hp → Prop) =>
s_lagoonref19_ParseL2 cf fuel K (s_lagoonref19_ParseE1 cf fuel K t4) t4 fuel (.int .i64 0) h) (s_lagoonref19_ParseE1 cf fuel K t4))
noncomputable def s_lagoonref19_ParseB16 (cf : CallK) (fuel : Nat) (ih10 : AV → AV → AV → Hp → Prop) (t0 : AV) (t6 : AV) (t4 : AV) (t5 : AV) (h : Hp) : Prop :=
(fun (e11 : AV → AV → Hp → Prop) =>
vLenS t0 h fun t29 h =>
vEql t6 t29 h fun t30 h =>
joinG (fun g15 => grdV t30 false (vMov t0 h g15) (g15 undefV h)) fun t32 h =>
joinG (fun g14 => grdV t30 false (vMov t6 h g14) (g14 undefV h)) fun t33 h =>
joinG (fun g13 => grdV t30 false (vIdxS t32 t33 h g13) (g13 undefV h)) fun t34 h =>
joinG (fun g12 => grdV t30 false (vEql t34 (.int .u8 47) h g12) (g12 undefV h)) fun t35 h =>
vPick t30 (.bool .true) t35 h fun t36 h =>
vIf t36 (
vSliceS t0 (some t5) (some t6) h fun t41 h =>
vBslice 1 1 false [(.str 0 0)] [(0, 1, t41)] h fun t42 h =>
vAppend2 1 16 false t4 t42 h fun t43 h =>
vAdd t6 (.int .i64 1) h fun t45 h =>
e11 t43 t45 h) (
e11 t4 t5 h)) fun t4 t5 h =>
vAdd t6 (.int .i64 1) h fun t26 h =>
ih10 t4 t5 t26 h
noncomputable def s_lagoonref19_ParseL10B (cf : CallK) (fuel : Nat) (e0 : AV → Hp → Prop) (t0 : AV) (ih10 : AV → AV → AV → Hp → Prop) : AV → AV → AV → Hp → Prop := fun t4 t5 t6 h =>
vLenS t0 h fun t23 h =>
vLeq t6 t23 h fun t24 h =>
vIf t24 (
s_lagoonref19_ParseB16 cf fuel ih10 t0 t6 t4 t5 h) (
e0 t4 h)
noncomputable def s_lagoonref19_ParseL10 (cf : CallK) (fuel : Nat) (e0 : AV → Hp → Prop) (t0 : AV) (m : Nat) : AV → AV → AV → Hp → Prop := Nat.rec (motive := fun _ => AV → AV → AV → Hp → Prop) (fun _ _ _ _ => False) (fun _ ih => s_lagoonref19_ParseL10B cf fuel e0 t0 ih) m
theorem s_lagoonref19_ParseL10_succ (cf : CallK) (fuel : Nat) (e0 : AV → Hp → Prop) (t0 : AV) (m : Nat) : s_lagoonref19_ParseL10 cf fuel e0 t0 (m + 1) = s_lagoonref19_ParseL10B cf fuel e0 t0 (s_lagoonref19_ParseL10 cf fuel e0 t0 m) := rfl
noncomputable def s_lagoonref19_Parse (cf : CallK) (fuel : Nat) (t0 : AV) (h : Hp) (K : AV → Hp → Prop) : Prop :=
vEql t0 (.str 0 0) h fun t13 h =>
joinG (fun g19 => grdV t13 false (vMov t0 h g19) (g19 undefV h)) fun t15 h =>
joinG (fun g18 => grdV t13 false (vIdxS t15 (.int .i64 0) h g18) (g18 undefV h)) fun t16 h =>
joinG (fun g17 => grdV t13 false (vNeq t16 (.int .u8 47) h g17) (g17 undefV h)) fun t17 h =>
vPick t13 (.bool .true) t17 h fun t18 h =>
vIf t18 (
K (.tup [.nilslice, (.int .i64 22)]) h) (
vEql t0 (.str 1 47) h fun t20 h =>
vIf t20 (
K (.tup [.nilslice, (.int .i64 0)]) h) (
(fun (e0 : AV → Hp → Prop) =>
s_lagoonref19_ParseL10 cf fuel (s_lagoonref19_ParseE0 cf fuel K t0) t0 fuel .nilslice (.int .i64 1) (.int .i64 1) h) (s_lagoonref19_ParseE0 cf fuel K t0)))
theorem s_lagoonref19_Parse_eq (cf : CallK) (fuel : Nat) (t0 : AV) (h : Hp) (K : AV → Hp → Prop) : s_lagoonref19_Parse cf fuel t0 h K = deepT (tabOf Tryd.prog) f_lagoonref19_Parse cf fuel [t0] h K :=
  Eq.trans (by kernel_rfl) (rFun (by kernel_rfl) (rSeq (by kernel_rfl) (rSeq (by kernel_rfl) (rSeq (by kernel_rfl) (rSeq (by kernel_rfl) (rSeq (by kernel_rfl) (rSeq (by kernel_rfl) (rSeq (by kernel_rfl) (rSeq (by kernel_rfl) rExact (rSeq (by kernel_rfl) (rBlock (by kernel_rfl) (rLoop (by kernel_rfl) (fun m2 fr h => s_lagoonref19_ParseL2 cf fuel K (s_lagoonref19_ParseE1 cf fuel K (getS fr (gpos 4))) (getS fr (gpos 4)) m2 (getS fr (gpos 7)) h) (funext fun fr => funext fun h => by kernel_rfl) fun m2 => rCast (funext fun fr => funext fun h => by kernel_rfl) rExact)) rExact)) rExact) (rSeq (by kernel_rfl) (rBlock (by kernel_rfl) (rLoop (by kernel_rfl) (fun m10 fr h => s_lagoonref19_ParseL10 cf fuel (s_lagoonref19_ParseE0 cf fuel K (getS fr (gpos 0))) (getS fr (gpos 0)) m10 (getS fr (gpos 4)) (getS fr (gpos 5)) (getS fr (gpos 6)) h) (funext fun fr => funext fun h => by kernel_rfl) fun m10 => rCast (funext fun fr => funext fun h => by kernel_rfl) rExact)) rExact)) rExact) rExact) rExact) rExact) rExact))

noncomputable def s_path_Join (cf : CallK) (fuel : Nat) (t0 : AV) (h : Hp) (K : AV → Hp → Prop) : Prop :=
cf f_strings_Join [t0, (.str 1 47)] h fun t4 h =>
vAdd (.str 1 47) t4 h fun t5 h =>
K t5 h
theorem s_path_Join_eq (cf : CallK) (fuel : Nat) (t0 : AV) (h : Hp) (K : AV → Hp → Prop) : s_path_Join cf fuel t0 h K = deepT (tabOf Tryd.prog) f_path_Join cf fuel [t0] h K :=
  Eq.trans (by kernel_rfl) (rFun (by kernel_rfl) rExact)

noncomputable def s_lagoonref19_JoinE0 (cf : CallK) (fuel : Nat) (K : AV → Hp → Prop) : AV → Hp → Prop := fun t3 h =>
K t3 h
noncomputable def s_lagoonref19_JoinL1B (cf : CallK) (fuel : Nat) (e0 : AV → Hp → Prop) (t0 : AV) (ih1 : AV → AV → Hp → Prop) : AV → AV → Hp → Prop := fun t3 t4 h =>
vLenL2 t0 h fun t10 h =>
vLss t4 t10 h fun t11 h =>
vIf t11 (
(fun (e2 : AV → Hp → Prop) =>
vIaddr 1 t0 t4 h fun t17 h =>
vLoad2 t17 h fun t18 h =>
vAdd (.str 1 47) t18 h fun t19 h =>
vAdd t3 t19 h fun t20 h =>
e2 t20 h) fun t3 h =>
vAdd t4 (.int .i64 1) h fun t13 h =>
ih1 t3 t13 h) (
e0 t3 h)
noncomputable def s_lagoonref19_JoinL1 (cf : CallK) (fuel : Nat) (e0 : AV → Hp → Prop) (t0 : AV) (m : Nat) : AV → AV → Hp → Prop := Nat.rec (motive := fun _ => AV → AV → Hp → Prop) (fun _ _ _ => False) (fun _ ih => s_lagoonref19_JoinL1B cf fuel e0 t0 ih) m
theorem s_lagoonref19_JoinL1_succ (cf : CallK) (fuel : Nat) (e0 : AV → Hp → Prop) (t0 : AV) (m : Nat) : s_lagoonref19_JoinL1 cf fuel e0 t0 (m + 1) = s_lagoonref19_JoinL1B cf fuel e0 t0 (s_lagoonref19_JoinL1 cf fuel e0 t0 m) := rfl
noncomputable def s_lagoonref19_Join (cf : CallK) (fuel : Nat) (t0 : AV) (h : Hp) (K : AV → Hp → Prop) : Prop :=
vLenL2 t0 h fun t6 h =>
vEql t6 (.int .i64 0) h fun t7 h =>
vIf t7 (
K (.str 1 47) h) (
(fun (e0 : AV → Hp → Prop) =>
s_lagoonref19_JoinL1 cf fuel (s_lagoonref19_JoinE0 cf fuel K) t0 fuel (.str 0 0) (.int .i64 0) h) (s_lagoonref19_JoinE0 cf fuel K))
theorem s_lagoonref19_Join_eq (cf : CallK) (fuel : Nat) (t0 : AV) (h : Hp) (K : AV → Hp → Prop) : s_lagoonref19_Join cf fuel t0 h K = deepT (tabOf Tryd.prog) f_lagoonref19_Join cf fuel [t0] h K :=
  Eq.trans (by kernel_rfl) (rFun (by kernel_rfl) (rSeq (by kernel_rfl) (rSeq (by kernel_rfl) (rSeq (by kernel_rfl) (rSeq (by kernel_rfl) rExact (rSeq (by kernel_rfl) (rBlock (by kernel_rfl) (rLoop (by kernel_rfl) (fun m1 fr h => s_lagoonref19_JoinL1 cf fuel (s_lagoonref19_JoinE0 cf fuel K) (getS fr (gpos 0)) m1 (getS fr (gpos 3)) (getS fr (gpos 4)) h) (funext fun fr => funext fun h => by kernel_rfl) fun m1 => rCast (funext fun fr => funext fun h => by kernel_rfl) rExact)) rExact)) rExact) rExact) rExact))

noncomputable def s_path_Fresh (cf : CallK) (fuel : Nat) (t0 : AV) (h : Hp) (K : AV → Hp → Prop) : Prop :=
vLenL2 t0 h fun t4 h =>
vEql t4 (.int .i64 0) h fun t5 h =>
vIf t5 (
K (.int .i64 17) h) (
vLenL2 t0 h fun t8 h =>
vArith Go.Am.subI t8 (.int .i64 1) h fun t9 h =>
vIaddr 1 t0 t9 h fun t10 h =>
vLoad2 t10 h fun t11 h =>
cf f_ops_Name [t11] h fun t12 h =>
K t12 h)
theorem s_path_Fresh_eq (cf : CallK) (fuel : Nat) (t0 : AV) (h : Hp) (K : AV → Hp → Prop) : s_path_Fresh cf fuel t0 h K = deepT (tabOf Tryd.prog) f_path_Fresh cf fuel [t0] h K :=
  Eq.trans (by kernel_rfl) (rFun (by kernel_rfl) rExact)

noncomputable def s_lagoonref19_Fresh (cf : CallK) (fuel : Nat) (t0 : AV) (h : Hp) (K : AV → Hp → Prop) : Prop :=
vLenL2 t0 h fun t4 h =>
vEql t4 (.int .i64 0) h fun t5 h =>
vIf t5 (
K (.int .i64 17) h) (
vLenL2 t0 h fun t8 h =>
vArith Go.Am.subI t8 (.int .i64 1) h fun t9 h =>
vIaddr 1 t0 t9 h fun t10 h =>
vLoad2 t10 h fun t11 h =>
cf f_lagoonref12_Name [t11] h fun t12 h =>
K t12 h)
theorem s_lagoonref19_Fresh_eq (cf : CallK) (fuel : Nat) (t0 : AV) (h : Hp) (K : AV → Hp → Prop) : s_lagoonref19_Fresh cf fuel t0 h K = deepT (tabOf Tryd.prog) f_lagoonref19_Fresh cf fuel [t0] h K :=
  Eq.trans (by kernel_rfl) (rFun (by kernel_rfl) rExact)

noncomputable def s_path_Above (cf : CallK) (fuel : Nat) (t0 : AV) (t1 : AV) (h : Hp) (K : AV → Hp → Prop) : Prop :=
vLenL2 t0 h fun t6 h =>
vLenL2 t1 h fun t8 h =>
vLss t6 t8 h fun t9 h =>
joinG (fun g5 => grdV t9 true (vMov t0 h g5) (g5 undefV h)) fun t11 h =>
joinG (fun g4 => grdV t9 true (vMov t1 h g4) (g4 undefV h)) fun t12 h =>
joinG (fun g3 => grdV t9 true (vMov t0 h g3) (g3 undefV h)) fun t13 h =>
joinG (fun g2 => grdV t9 true (vLenL2 t13 h g2) (g2 undefV h)) fun t14 h =>
joinG (fun g1 => grdV t9 true (vSlice2 1 t12 none (some t14) h g1) (g1 undefV h)) fun t15 h =>
joinG (fun g0 => grdV t9 true (cf f_slices_Equal_string_string [t11, t15] h g0) (g0 undefV h)) fun t16 h =>
vPick t9 t16 (.bool .false) h fun t17 h =>
K t17 h
theorem s_path_Above_eq (cf : CallK) (fuel : Nat) (t0 : AV) (t1 : AV) (h : Hp) (K : AV → Hp → Prop) : s_path_Above cf fuel t0 t1 h K = deepT (tabOf Tryd.prog) f_path_Above cf fuel [t0, t1] h K :=
  Eq.trans (by kernel_rfl) (rFun (by kernel_rfl) rExact)

noncomputable def s_clock_Less (cf : CallK) (fuel : Nat) (t0 : AV) (t1 : AV) (h : Hp) (K : AV → Hp → Prop) : Prop :=
vBox 2 t0 h fun t2 h =>
vBox 2 t1 h fun t3 h =>
vLoadA 2 t2 h fun t5 h =>
vLoadA 2 t3 h fun t6 h =>
cf f_clock_Cmp [t5, t6] h fun t7 h =>
vLss t7 (.int .i64 0) h fun t8 h =>
K t8 h
theorem s_clock_Less_eq (cf : CallK) (fuel : Nat) (t0 : AV) (t1 : AV) (h : Hp) (K : AV → Hp → Prop) : s_clock_Less cf fuel t0 t1 h K = deepT (tabOf Tryd.prog) f_clock_Less cf fuel [t0, t1] h K :=
  Eq.trans (by kernel_rfl) (rFun (by kernel_rfl) rExact)

noncomputable def s_lagoonref4_Less (cf : CallK) (fuel : Nat) (t0 : AV) (t1 : AV) (h : Hp) (K : AV → Hp → Prop) : Prop :=
vBox 2 t0 h fun t2 h =>
vBox 2 t1 h fun t3 h =>
vFaddr 0 t2 h fun t5 h =>
vLoad2 t5 h fun t6 h =>
vFaddr 0 t3 h fun t7 h =>
vLoad2 t7 h fun t8 h =>
vLss t6 t8 h fun t9 h =>
joinG (fun g11 => grdV t9 false (vFaddr 0 t2 h g11) (g11 undefV h)) fun t11 h =>
joinG (fun g10 => grdV t9 false (vLoad2 t11 h g10) (g10 undefV h)) fun t12 h =>
joinG (fun g9 => grdV t9 false (vFaddr 0 t3 h g9) (g9 undefV h)) fun t13 h =>
joinG (fun g8 => grdV t9 false (vLoad2 t13 h g8) (g8 undefV h)) fun t14 h =>
joinG (fun g7 => grdV t9 false (vEql t12 t14 h g7) (g7 undefV h)) fun t15 h =>
joinG (fun g6 => grdV t9 false (vMov t15 h g6) (g6 undefV h)) fun t16 h =>
joinG (fun g5 => grdV t16 true (vFaddr 1 t2 h g5) (g5 undefV h)) fun t17 h =>
joinG (fun g4 => grdV t16 true (vLoad2 t17 h g4) (g4 undefV h)) fun t18 h =>
joinG (fun g3 => grdV t16 true (vFaddr 1 t3 h g3) (g3 undefV h)) fun t19 h =>
joinG (fun g2 => grdV t16 true (vLoad2 t19 h g2) (g2 undefV h)) fun t20 h =>
joinG (fun g1 => grdV t16 true (vLss t18 t20 h g1) (g1 undefV h)) fun t21 h =>
joinG (fun g0 => grdV t9 false (vPick t16 t21 (.bool .false) h g0) (g0 undefV h)) fun t22 h =>
vPick t9 (.bool .true) t22 h fun t23 h =>
K t23 h
theorem s_lagoonref4_Less_eq (cf : CallK) (fuel : Nat) (t0 : AV) (t1 : AV) (h : Hp) (K : AV → Hp → Prop) : s_lagoonref4_Less cf fuel t0 t1 h K = deepT (tabOf Tryd.prog) f_lagoonref4_Less cf fuel [t0, t1] h K :=
  Eq.trans (by kernel_rfl) (rFun (by kernel_rfl) rExact)

noncomputable def s_lagoonref12_LocalE0 (cf : CallK) (fuel : Nat) (K : AV → Hp → Prop) (t0 : AV) : Hp → Prop := fun h =>
vLenS t0 h fun t31 h =>
vGtr t31 (.int .i64 64) h fun t32 h =>
vIf t32 (
K (.int .i64 36) h) (
K (.int .i64 0) h)
noncomputable def s_lagoonref12_LocalL1B (cf : CallK) (fuel : Nat) (K : AV → Hp → Prop) (e0 : Hp → Prop) (t0 : AV) (ih1 : AV → Hp → Prop) : AV → Hp → Prop := fun t3 h =>
vLenS t0 h fun t16 h =>
vLss t3 t16 h fun t17 h =>
vIf t17 (
(fun (e2 : Hp → Prop) =>
vIdxS t0 t3 h fun t22 h =>
vEql t22 (.int .u8 0) h fun t23 h =>
joinG (fun g6 => grdV t23 false (vMov t0 h g6) (g6 undefV h)) fun t25 h =>
joinG (fun g5 => grdV t23 false (vMov t3 h g5) (g5 undefV h)) fun t26 h =>
joinG (fun g4 => grdV t23 false (vIdxS t25 t26 h g4) (g4 undefV h)) fun t27 h =>
joinG (fun g3 => grdV t23 false (vEql t27 (.int .u8 47) h g3) (g3 undefV h)) fun t28 h =>
vPick t23 (.bool .true) t28 h fun t29 h =>
vIf t29 (
K (.int .i64 22) h) (
e2 h)) fun h =>
vAdd t3 (.int .i64 1) h fun t19 h =>
ih1 t19 h) (
e0 h)
noncomputable def s_lagoonref12_LocalL1 (cf : CallK) (fuel : Nat) (K : AV → Hp → Prop) (e0 : Hp → Prop) (t0 : AV) (m : Nat) : AV → Hp → Prop := Nat.rec (motive := fun _ => AV → Hp → Prop) (fun _ _ => False) (fun _ ih => s_lagoonref12_LocalL1B cf fuel K e0 t0 ih) m
theorem s_lagoonref12_LocalL1_succ (cf : CallK) (fuel : Nat) (K : AV → Hp → Prop) (e0 : Hp → Prop) (t0 : AV) (m : Nat) : s_lagoonref12_LocalL1 cf fuel K e0 t0 (m + 1) = s_lagoonref12_LocalL1B cf fuel K e0 t0 (s_lagoonref12_LocalL1 cf fuel K e0 t0 m) := rfl
noncomputable def s_lagoonref12_Local (cf : CallK) (fuel : Nat) (t0 : AV) (h : Hp) (K : AV → Hp → Prop) : Prop :=
vEql t0 (.str 0 0) h fun t5 h =>
joinG (fun g10 => grdV t5 false (vMov t0 h g10) (g10 undefV h)) fun t7 h =>
joinG (fun g9 => grdV t5 false (vEql t7 (.str 1 46) h g9) (g9 undefV h)) fun t8 h =>
vPick t5 (.bool .true) t8 h fun t9 h =>
joinG (fun g8 => grdV t9 false (vMov t0 h g8) (g8 undefV h)) fun t11 h =>
joinG (fun g7 => grdV t9 false (vEql t11 (.str 2 11822) h g7) (g7 undefV h)) fun t12 h =>
vPick t9 (.bool .true) t12 h fun t13 h =>
vIf t13 (
K (.int .i64 22) h) (
(fun (e0 : Hp → Prop) =>
s_lagoonref12_LocalL1 cf fuel K (s_lagoonref12_LocalE0 cf fuel K t0) t0 fuel (.int .i64 0) h) (s_lagoonref12_LocalE0 cf fuel K t0))
theorem s_lagoonref12_Local_eq (cf : CallK) (fuel : Nat) (t0 : AV) (h : Hp) (K : AV → Hp → Prop) : s_lagoonref12_Local cf fuel t0 h K = deepT (tabOf Tryd.prog) f_lagoonref12_Local cf fuel [t0] h K :=
  Eq.trans (by kernel_rfl) (rFun (by kernel_rfl) (rSeq (by kernel_rfl) (rSeq (by kernel_rfl) (rSeq (by kernel_rfl) rExact (rSeq (by kernel_rfl) (rBlock (by kernel_rfl) (rLoop (by kernel_rfl) (fun m1 fr h => s_lagoonref12_LocalL1 cf fuel K (s_lagoonref12_LocalE0 cf fuel K (getS fr (gpos 0))) (getS fr (gpos 0)) m1 (getS fr (gpos 3)) h) (funext fun fr => funext fun h => by kernel_rfl) fun m1 => rCast (funext fun fr => funext fun h => by kernel_rfl) rExact)) rExact)) rExact) rExact))

noncomputable def s_strings_Cut (cf : CallK) (fuel : Nat) (t0 : AV) (t1 : AV) (h : Hp) (K : AV → Hp → Prop) : Prop :=
cf f_int_stringslite_Cut [t0, t1] h fun t9 h =>
vExtract 0 t9 h fun t10 h =>
vExtract 1 t9 h fun t11 h =>
vExtract 2 t9 h fun t12 h =>
K (.tup [t10, t11, t12]) h
theorem s_strings_Cut_eq (cf : CallK) (fuel : Nat) (t0 : AV) (t1 : AV) (h : Hp) (K : AV → Hp → Prop) : s_strings_Cut cf fuel t0 t1 h K = deepT (tabOf Tryd.prog) f_strings_Cut cf fuel [t0, t1] h K :=
  Eq.trans (by kernel_rfl) (rFun (by kernel_rfl) rExact)

noncomputable def s_clash_number (cf : CallK) (fuel : Nat) (t0 : AV) (h : Hp) (K : AV → Hp → Prop) : Prop :=
cf f_strconv_ParseInt [t0, (.int .i64 10), (.int .i64 64)] h fun t8 h =>
vExtract 0 t8 h fun t9 h =>
vExtract 1 t8 h fun t10 h =>
vEq false (eqIf Tryd.prog true) t10 .niliface h fun t13 h =>
joinG (fun g3 => grdV t13 true (vMov t9 h g3) (g3 undefV h)) fun t15 h =>
joinG (fun g2 => grdV t13 true (cf f_strconv_FormatInt [t15, (.int .i64 10)] h g2) (g2 undefV h)) fun t16 h =>
joinG (fun g1 => grdV t13 true (vMov t0 h g1) (g1 undefV h)) fun t17 h =>
joinG (fun g0 => grdV t13 true (vEql t16 t17 h g0) (g0 undefV h)) fun t18 h =>
vPick t13 t18 (.bool .false) h fun t19 h =>
K (.tup [t9, t19]) h
theorem s_clash_number_eq (cf : CallK) (fuel : Nat) (t0 : AV) (h : Hp) (K : AV → Hp → Prop) : s_clash_number cf fuel t0 h K = deepT (tabOf Tryd.prog) f_clash_number cf fuel [t0] h K :=
  Eq.trans (by kernel_rfl) (rFun (by kernel_rfl) rExact)

noncomputable def s_clock_Valid (cf : CallK) (fuel : Nat) (t0 : AV) (h : Hp) (K : AV → Hp → Prop) : Prop :=
vBox 2 t0 h fun t1 h =>
vFaddr 0 t1 h fun t3 h =>
vLoad2 t3 h fun t4 h =>
vGeq t4 (.int .i64 1) h fun t5 h =>
joinG (fun g5 => grdV t5 true (vFaddr 0 t1 h g5) (g5 undefV h)) fun t7 h =>
joinG (fun g4 => grdV t5 true (vLoad2 t7 h g4) (g4 undefV h)) fun t8 h =>
joinG (fun g3 => grdV t5 true (vLeq t8 (.int .i64 1152921504606846976) h g3) (g3 undefV h)) fun t9 h =>
vPick t5 t9 (.bool .false) h fun t10 h =>
joinG (fun g2 => grdV t10 true (vFaddr 1 t1 h g2) (g2 undefV h)) fun t12 h =>
joinG (fun g1 => grdV t10 true (vLoad2 t12 h g1) (g1 undefV h)) fun t13 h =>
joinG (fun g0 => grdV t10 true (cf f_clock_node [t13] h g0) (g0 undefV h)) fun t14 h =>
vPick t10 t14 (.bool .false) h fun t15 h =>
K t15 h
theorem s_clock_Valid_eq (cf : CallK) (fuel : Nat) (t0 : AV) (h : Hp) (K : AV → Hp → Prop) : s_clock_Valid cf fuel t0 h K = deepT (tabOf Tryd.prog) f_clock_Valid cf fuel [t0] h K :=
  Eq.trans (by kernel_rfl) (rFun (by kernel_rfl) rExact)

noncomputable def s_ops_Name (cf : CallK) (fuel : Nat) (t0 : AV) (h : Hp) (K : AV → Hp → Prop) : Prop :=
(fun (e0 : Hp → Prop) =>
vEql t0 (.str 0 0) h fun t5 h =>
joinG (fun g6 => grdV t5 false (vMov t0 h g6) (g6 undefV h)) fun t7 h =>
joinG (fun g5 => grdV t5 false (vEql t7 (.str 1 46) h g5) (g5 undefV h)) fun t8 h =>
vPick t5 (.bool .true) t8 h fun t9 h =>
joinG (fun g4 => grdV t9 false (vMov t0 h g4) (g4 undefV h)) fun t11 h =>
joinG (fun g3 => grdV t9 false (vEql t11 (.str 2 11822) h g3) (g3 undefV h)) fun t12 h =>
vPick t9 (.bool .true) t12 h fun t13 h =>
joinG (fun g2 => grdV t13 false (vMov t0 h g2) (g2 undefV h)) fun t15 h =>
joinG (fun g1 => grdV t13 false (cf f_strings_ContainsAny [t15, (.str 3 3080448)] h g1) (g1 undefV h)) fun t16 h =>
vPick t13 (.bool .true) t16 h fun t17 h =>
vIf t17 (
K (.int .i64 22) h) (
vLenS t0 h fun t20 h =>
vGtr t20 (.int .i64 64) h fun t21 h =>
vIf t21 (
K (.int .i64 36) h) (
e0 h))) fun h =>
K (.int .i64 0) h
theorem s_ops_Name_eq (cf : CallK) (fuel : Nat) (t0 : AV) (h : Hp) (K : AV → Hp → Prop) : s_ops_Name cf fuel t0 h K = deepT (tabOf Tryd.prog) f_ops_Name cf fuel [t0] h K :=
  Eq.trans (by kernel_rfl) (rFun (by kernel_rfl) rExact)

noncomputable def s_lagoonref15_numberE0 (cf : CallK) (fuel : Nat) (K : AV → Hp → Prop) : AV → Hp → Prop := fun t3 h =>
K t3 h
noncomputable def s_lagoonref15_numberB9 (cf : CallK) (fuel : Nat) (K : AV → Hp → Prop) (ih1 : AV → AV → Hp → Prop) (t0 : AV) (t4 : AV) (t3 : AV) (h : Hp) : Prop :=
(fun (e2 : AV → Hp → Prop) =>
vIdxS t0 t4 h fun t30 h =>
vLss t30 (.int .u8 48) h fun t31 h =>
joinG (fun g8 => grdV t31 false (vMov t0 h g8) (g8 undefV h)) fun t33 h =>
joinG (fun g7 => grdV t31 false (vMov t4 h g7) (g7 undefV h)) fun t34 h =>
joinG (fun g6 => grdV t31 false (vIdxS t33 t34 h g6) (g6 undefV h)) fun t35 h =>
joinG (fun g5 => grdV t31 false (vGtr t35 (.int .u8 57) h g5) (g5 undefV h)) fun t36 h =>
vPick t31 (.bool .true) t36 h fun t37 h =>
joinG (fun g4 => grdV t37 false (vMov t3 h g4) (g4 undefV h)) fun t39 h =>
joinG (fun g3 => grdV t37 false (vGtr t39 (.int .i64 1152921504606846976) h g3) (g3 undefV h)) fun t40 h =>
vPick t37 (.bool .true) t40 h fun t41 h =>
vIf t41 (
K (.int .i64 (-1)) h) (
vArith Go.Am.mulI (.int .i64 10) t3 h fun t43 h =>
vIdxS t0 t4 h fun t46 h =>
vArith Go.Am.subI t46 (.int .u8 48) h fun t47 h =>
vToInt .i64 t47 h fun t48 h =>
vAdd t43 t48 h fun t49 h =>
e2 t49 h)) fun t3 h =>
vAdd t4 (.int .i64 1) h fun t27 h =>
ih1 t3 t27 h
noncomputable def s_lagoonref15_numberL1B (cf : CallK) (fuel : Nat) (K : AV → Hp → Prop) (e0 : AV → Hp → Prop) (t0 : AV) (ih1 : AV → AV → Hp → Prop) : AV → AV → Hp → Prop := fun t3 t4 h =>
vLenS t0 h fun t24 h =>
vLss t4 t24 h fun t25 h =>
vIf t25 (
s_lagoonref15_numberB9 cf fuel K ih1 t0 t4 t3 h) (
e0 t3 h)
noncomputable def s_lagoonref15_numberL1 (cf : CallK) (fuel : Nat) (K : AV → Hp → Prop) (e0 : AV → Hp → Prop) (t0 : AV) (m : Nat) : AV → AV → Hp → Prop := Nat.rec (motive := fun _ => AV → AV → Hp → Prop) (fun _ _ _ => False) (fun _ ih => s_lagoonref15_numberL1B cf fuel K e0 t0 ih) m
theorem s_lagoonref15_numberL1_succ (cf : CallK) (fuel : Nat) (K : AV → Hp → Prop) (e0 : AV → Hp → Prop) (t0 : AV) (m : Nat) : s_lagoonref15_numberL1 cf fuel K e0 t0 (m + 1) = s_lagoonref15_numberL1B cf fuel K e0 t0 (s_lagoonref15_numberL1 cf fuel K e0 t0 m) := rfl
noncomputable def s_lagoonref15_number (cf : CallK) (fuel : Nat) (t0 : AV) (h : Hp) (K : AV → Hp → Prop) : Prop :=
vEql t0 (.str 0 0) h fun t6 h =>
joinG (fun g20 => grdV t6 false (vMov t0 h g20) (g20 undefV h)) fun t8 h =>
joinG (fun g19 => grdV t6 false (vIdxS t8 (.int .i64 0) h g19) (g19 undefV h)) fun t9 h =>
joinG (fun g18 => grdV t6 false (vEql t9 (.int .u8 48) h g18) (g18 undefV h)) fun t10 h =>
joinG (fun g17 => grdV t6 false (vMov t10 h g17) (g17 undefV h)) fun t11 h =>
joinG (fun g16 => grdV t11 true (vMov t0 h g16) (g16 undefV h)) fun t12 h =>
joinG (fun g15 => grdV t11 true (vLenS t12 h g15) (g15 undefV h)) fun t13 h =>
joinG (fun g14 => grdV t11 true (vGtr t13 (.int .i64 1) h g14) (g14 undefV h)) fun t14 h =>
joinG (fun g13 => grdV t6 false (vPick t11 t14 (.bool .false) h g13) (g13 undefV h)) fun t15 h =>
vPick t6 (.bool .true) t15 h fun t16 h =>
joinG (fun g12 => grdV t16 false (vMov t0 h g12) (g12 undefV h)) fun t18 h =>
joinG (fun g11 => grdV t16 false (vLenS t18 h g11) (g11 undefV h)) fun t19 h =>
joinG (fun g10 => grdV t16 false (vGtr t19 (.int .i64 19) h g10) (g10 undefV h)) fun t20 h =>
vPick t16 (.bool .true) t20 h fun t21 h =>
vIf t21 (
K (.int .i64 (-1)) h) (
(fun (e0 : AV → Hp → Prop) =>
s_lagoonref15_numberL1 cf fuel K (s_lagoonref15_numberE0 cf fuel K) t0 fuel (.int .i64 0) (.int .i64 0) h) (s_lagoonref15_numberE0 cf fuel K))
theorem s_lagoonref15_number_eq (cf : CallK) (fuel : Nat) (t0 : AV) (h : Hp) (K : AV → Hp → Prop) : s_lagoonref15_number cf fuel t0 h K = deepT (tabOf Tryd.prog) f_lagoonref15_number cf fuel [t0] h K :=
  Eq.trans (by kernel_rfl) (rFun (by kernel_rfl) (rSeq (by kernel_rfl) (rSeq (by kernel_rfl) (rSeq (by kernel_rfl) (rSeq (by kernel_rfl) rExact (rSeq (by kernel_rfl) (rBlock (by kernel_rfl) (rLoop (by kernel_rfl) (fun m1 fr h => s_lagoonref15_numberL1 cf fuel K (s_lagoonref15_numberE0 cf fuel K) (getS fr (gpos 0)) m1 (getS fr (gpos 3)) (getS fr (gpos 4)) h) (funext fun fr => funext fun h => by kernel_rfl) fun m1 => rCast (funext fun fr => funext fun h => by kernel_rfl) rExact)) rExact)) rExact) rExact) rExact))

noncomputable def s_lagoonref15_digitsE0 (cf : CallK) (fuel : Nat) (K : AV → Hp → Prop) (t4 : AV) : AV → Hp → Prop := fun t3 h =>
vIf t4 (
vToStr t3 h fun t31 h =>
vAdd (.str 1 45) t31 h fun t32 h =>
K t32 h) (
vToStr t3 h fun t34 h =>
K t34 h)
noncomputable def s_lagoonref15_digitsB5 (cf : CallK) (fuel : Nat) (ih1 : AV → AV → Hp → Prop) (t0 : AV) (t3 : AV) (h : Hp) : Prop :=
(fun (e2 : AV → AV → Hp → Prop) =>
vDiv true t0 (.int .i64 10) h fun t16 h =>
(fun (j3 : AV → Hp → Prop) =>
vLss t16 (.int .i64 0) h fun t18 h =>
vIf t18 (
vNeg t16 h fun t20 h =>
j3 t20 h) (
j3 t16 h)) fun t5 h =>
vAdd (.int .i64 48) t5 h fun t22 h =>
vToInt .u8 t22 h fun t23 h =>
vBslice 1 1 true [(.int .u8 0)] [(0, 1, t23)] h fun t24 h =>
vAppend2 1 1 true t24 t3 h fun t26 h =>
vDiv false t0 (.int .i64 10) h fun t28 h =>
e2 t28 t26 h) fun t0_4 t3 h =>
ih1 t0_4 t3 h
noncomputable def s_lagoonref15_digitsL1B (cf : CallK) (fuel : Nat) (e0 : AV → Hp → Prop) (t4 : AV) (ih1 : AV → AV → Hp → Prop) : AV → AV → Hp → Prop := fun t0 t3 h =>
vNeq t0 (.int .i64 0) h fun t9 h =>
joinG (fun g8 => grdV t9 false (vMov t3 h g8) (g8 undefV h)) fun t11 h =>
joinG (fun g7 => grdV t9 false (vLenL2 t11 h g7) (g7 undefV h)) fun t12 h =>
joinG (fun g6 => grdV t9 false (vEql t12 (.int .i64 0) h g6) (g6 undefV h)) fun t13 h =>
vPick t9 (.bool .true) t13 h fun t14 h =>
vIf t14 (
s_lagoonref15_digitsB5 cf fuel ih1 t0 t3 h) (
e0 t3 h)
noncomputable def s_lagoonref15_digitsL1 (cf : CallK) (fuel : Nat) (e0 : AV → Hp → Prop) (t4 : AV) (m : Nat) : AV → AV → Hp → Prop := Nat.rec (motive := fun _ => AV → AV → Hp → Prop) (fun _ _ _ => False) (fun _ ih => s_lagoonref15_digitsL1B cf fuel e0 t4 ih) m
theorem s_lagoonref15_digitsL1_succ (cf : CallK) (fuel : Nat) (e0 : AV → Hp → Prop) (t4 : AV) (m : Nat) : s_lagoonref15_digitsL1 cf fuel e0 t4 (m + 1) = s_lagoonref15_digitsL1B cf fuel e0 t4 (s_lagoonref15_digitsL1 cf fuel e0 t4 m) := rfl
noncomputable def s_lagoonref15_digits (cf : CallK) (fuel : Nat) (t0 : AV) (h : Hp) (K : AV → Hp → Prop) : Prop :=
vLss t0 (.int .i64 0) h fun t7 h =>
(fun (e0 : AV → Hp → Prop) =>
s_lagoonref15_digitsL1 cf fuel (s_lagoonref15_digitsE0 cf fuel K t7) t7 fuel t0 .nilslice h) (s_lagoonref15_digitsE0 cf fuel K t7)
theorem s_lagoonref15_digits_eq (cf : CallK) (fuel : Nat) (t0 : AV) (h : Hp) (K : AV → Hp → Prop) : s_lagoonref15_digits cf fuel t0 h K = deepT (tabOf Tryd.prog) f_lagoonref15_digits cf fuel [t0] h K :=
  Eq.trans (by kernel_rfl) (rFun (by kernel_rfl) (rSeq (by kernel_rfl) (rSeq (by kernel_rfl) (rSeq (by kernel_rfl) (rSeq (by kernel_rfl) rExact (rBlock (by kernel_rfl) (rLoop (by kernel_rfl) (fun m1 fr h => s_lagoonref15_digitsL1 cf fuel (s_lagoonref15_digitsE0 cf fuel K (getS fr (gpos 4))) (getS fr (gpos 4)) m1 (getS fr (gpos 0)) (getS fr (gpos 3)) h) (funext fun fr => funext fun h => by kernel_rfl) fun m1 => rCast (funext fun fr => funext fun h => by kernel_rfl) rExact))) rExact) rExact) rExact))

noncomputable def s_strings_HasPrefix (cf : CallK) (fuel : Nat) (t0 : AV) (t1 : AV) (h : Hp) (K : AV → Hp → Prop) : Prop :=
cf f_int_stringslite_HasPrefix [t0, t1] h fun t7 h =>
K t7 h
theorem s_strings_HasPrefix_eq (cf : CallK) (fuel : Nat) (t0 : AV) (t1 : AV) (h : Hp) (K : AV → Hp → Prop) : s_strings_HasPrefix cf fuel t0 t1 h K = deepT (tabOf Tryd.prog) f_strings_HasPrefix cf fuel [t0, t1] h K :=
  Eq.trans (by kernel_rfl) (rFun (by kernel_rfl) rExact)

noncomputable def s_strings_Split (cf : CallK) (fuel : Nat) (t0 : AV) (t1 : AV) (h : Hp) (K : AV → Hp → Prop) : Prop :=
cf f_strings_genSplit [t0, t1, (.int .i64 0), (.int .i64 (-1))] h fun t7 h =>
K t7 h
theorem s_strings_Split_eq (cf : CallK) (fuel : Nat) (t0 : AV) (t1 : AV) (h : Hp) (K : AV → Hp → Prop) : s_strings_Split cf fuel t0 t1 h K = deepT (tabOf Tryd.prog) f_strings_Split cf fuel [t0, t1] h K :=
  Eq.trans (by kernel_rfl) (rFun (by kernel_rfl) rExact)

noncomputable def s_strings_JoinE3 (cf : CallK) (fuel : Nat) (K : AV → Hp → Prop) (t8 : AV) : Hp → Prop := fun h =>
cf f_strings_Builder_String [t8] h fun t74 h =>
K t74 h
noncomputable def s_strings_JoinL4B (cf : CallK) (fuel : Nat) (e3 : Hp → Prop) (t1 : AV) (t8 : AV) (t63 : AV) (t64 : AV) (ih4 : AV → Hp → Prop) : AV → Hp → Prop := fun t65 h =>
vLss t65 t64 h fun t66 h =>
vIf t66 (
(fun (e5 : Hp → Prop) =>
vIaddr 1 t63 t65 h fun t67 h =>
vLoad2 t67 h fun t68 h =>
cf f_strings_Builder_WriteString [t8, t1] h fun t70 h =>
cf f_strings_Builder_WriteString [t8, t68] h fun t72 h =>
e5 h) fun h =>
vAdd t65 (.int .i64 1) h fun t73 h =>
ih4 t73 h) (
e3 h)
noncomputable def s_strings_JoinL4 (cf : CallK) (fuel : Nat) (e3 : Hp → Prop) (t1 : AV) (t8 : AV) (t63 : AV) (t64 : AV) (m : Nat) : AV → Hp → Prop := Nat.rec (motive := fun _ => AV → Hp → Prop) (fun _ _ => False) (fun _ ih => s_strings_JoinL4B cf fuel e3 t1 t8 t63 t64 ih) m
theorem s_strings_JoinL4_succ (cf : CallK) (fuel : Nat) (e3 : Hp → Prop) (t1 : AV) (t8 : AV) (t63 : AV) (t64 : AV) (m : Nat) : s_strings_JoinL4 cf fuel e3 t1 t8 t63 t64 (m + 1) = s_strings_JoinL4B cf fuel e3 t1 t8 t63 t64 (s_strings_JoinL4 cf fuel e3 t1 t8 t63 t64 m) := rfl
noncomputable def s_strings_JoinE2 (cf : CallK) (fuel : Nat) (K : AV → Hp → Prop) (t0 : AV) (t1 : AV) : AV → Hp → Prop := fun t5 h =>
vBox 2 (.agg [.nilptr, .nilslice]) h fun t8 h =>
cf f_strings_Builder_Grow [t8, t5] h fun t57 h =>
vIaddr 1 t0 (.int .i64 0) h fun t59 h =>
vLoad2 t59 h fun t60 h =>
cf f_strings_Builder_WriteString [t8, t60] h fun t61 h =>
vSlice2 1 t0 (some (.int .i64 1)) none h fun t63 h =>
vLenL2 t63 h fun t64 h =>
(fun (e3 : Hp → Prop) =>
s_strings_JoinL4 cf fuel (s_strings_JoinE3 cf fuel K t8) t1 t8 t63 t64 fuel (.int .i64 0) h) (s_strings_JoinE3 cf fuel K t8)
noncomputable def s_strings_JoinL6B (cf : CallK) (fuel : Nat) (e2 : AV → Hp → Prop) (t0 : AV) (t1 : AV) (t39 : AV) (t40 : AV) (ih6 : AV → AV → Hp → Prop) : AV → AV → Hp → Prop := fun t5 t41 h =>
vLss t41 t40 h fun t42 h =>
vIf t42 (
(fun (e7 : AV → Hp → Prop) =>
vIaddr 1 t39 t41 h fun t43 h =>
vLoad2 t43 h fun t44 h =>
vLenS t44 h fun t46 h =>
vArith Go.Am.subI (.int .i64 9223372036854775807) t5 h fun t48 h =>
vGtr t46 t48 h fun t49 h =>
vIf t49 (
False) (
vLenS t44 h fun t53 h =>
vAdd t5 t53 h fun t54 h =>
e7 t54 h)) fun t5 h =>
vAdd t41 (.int .i64 1) h fun t55 h =>
ih6 t5 t55 h) (
e2 t5 h)
noncomputable def s_strings_JoinL6 (cf : CallK) (fuel : Nat) (e2 : AV → Hp → Prop) (t0 : AV) (t1 : AV) (t39 : AV) (t40 : AV) (m : Nat) : AV → AV → Hp → Prop := Nat.rec (motive := fun _ => AV → AV → Hp → Prop) (fun _ _ _ => False) (fun _ ih => s_strings_JoinL6B cf fuel e2 t0 t1 t39 t40 ih) m
theorem s_strings_JoinL6_succ (cf : CallK) (fuel : Nat) (e2 : AV → Hp → Prop) (t0 : AV) (t1 : AV) (t39 : AV) (t40 : AV) (m : Nat) : s_strings_JoinL6 cf fuel e2 t0 t1 t39 t40 (m + 1) = s_strings_JoinL6B cf fuel e2 t0 t1 t39 t40 (s_strings_JoinL6 cf fuel e2 t0 t1 t39 t40 m) := rfl
noncomputable def s_strings_Join (cf : CallK) (fuel : Nat) (t0 : AV) (t1 : AV) (h : Hp) (K : AV → Hp → Prop) : Prop :=
vLenL2 t0 h fun t12 h =>
(fun (e0 : Hp → Prop) =>
vEql t12 (.int .i64 0) h fun t14 h =>
vIf t14 (
K (.str 0 0) h) (
vEql t12 (.int .i64 1) h fun t16 h =>
vIf t16 (
vIaddr 1 t0 (.int .i64 0) h fun t18 h =>
vLoad2 t18 h fun t19 h =>
K t19 h) (
e0 h))) fun h =>
(fun (j1 : AV → Hp → Prop) =>
vLenS t1 h fun t21 h =>
vGtr t21 (.int .i64 0) h fun t22 h =>
vIf t22 (
vLenS t1 h fun t24 h =>
vLenL2 t0 h fun t26 h =>
vArith Go.Am.subI t26 (.int .i64 1) h fun t27 h =>
vDiv false (.int .i64 9223372036854775807) t27 h fun t28 h =>
vGeq t24 t28 h fun t29 h =>
vIf t29 (
False) (
vLenS t1 h fun t33 h =>
vLenL2 t0 h fun t35 h =>
vArith Go.Am.subI t35 (.int .i64 1) h fun t36 h =>
vArith Go.Am.mulI t33 t36 h fun t37 h =>
vAdd (.int .i64 0) t37 h fun t38 h =>
j1 t38 h)) (
j1 (.int .i64 0) h)) fun t5 h =>
vLenL2 t0 h fun t40 h =>
(fun (e2 : AV → Hp → Prop) =>
s_strings_JoinL6 cf fuel (s_strings_JoinE2 cf fuel K t0 t1) t0 t1 t0 t40 fuel t5 (.int .i64 0) h) (s_strings_JoinE2 cf fuel K t0 t1)
theorem s_strings_Join_eq (cf : CallK) (fuel : Nat) (t0 : AV) (t1 : AV) (h : Hp) (K : AV → Hp → Prop) : s_strings_Join cf fuel t0 t1 h K = deepT (tabOf Tryd.prog) f_strings_Join cf fuel [t0, t1] h K :=
  Eq.trans (by kernel_rfl) (rFun (by kernel_rfl) (rSeq (by kernel_rfl) (rSeq (by kernel_rfl) (rSeq (by kernel_rfl) (rSeq (by kernel_rfl) (rSeq (by kernel_rfl) (rSeq (by kernel_rfl) (rSeq (by kernel_rfl) (rSeq (by kernel_rfl) (rSeq (by kernel_rfl) rExact (rSeq (by kernel_rfl) (rBlock (by kernel_rfl) (rLoop (by kernel_rfl) (fun m4 fr h => s_strings_JoinL4 cf fuel (s_strings_JoinE3 cf fuel K (getS fr (gpos 8))) (getS fr (gpos 1)) (getS fr (gpos 8)) (getS fr (gpos 63)) (getS fr (gpos 64)) m4 (getS fr (gpos 65)) h) (funext fun fr => funext fun h => by kernel_rfl) fun m4 => rCast (funext fun fr => funext fun h => by kernel_rfl) rExact)) rExact)) rExact) rExact) rExact) (rSeq (by kernel_rfl) (rBlock (by kernel_rfl) (rLoop (by kernel_rfl) (fun m6 fr h => s_strings_JoinL6 cf fuel (s_strings_JoinE2 cf fuel K (getS fr (gpos 0)) (getS fr (gpos 1))) (getS fr (gpos 0)) (getS fr (gpos 1)) (getS fr (gpos 39)) (getS fr (gpos 40)) m6 (getS fr (gpos 5)) (getS fr (gpos 41)) h) (funext fun fr => funext fun h => by kernel_rfl) fun m6 => rCast (funext fun fr => funext fun h => by kernel_rfl) rExact)) rExact)) rExact) rExact) rExact) rExact))

noncomputable def s_slices_Equal_string_stringE0 (cf : CallK) (fuel : Nat) (K : AV → Hp → Prop) : Hp → Prop := fun h =>
K (.bool .true) h
noncomputable def s_slices_Equal_string_stringL1B (cf : CallK) (fuel : Nat) (K : AV → Hp → Prop) (e0 : Hp → Prop) (t0 : AV) (t1 : AV) (t12 : AV) (ih1 : AV → Hp → Prop) : AV → Hp → Prop := fun t13 h =>
vLss t13 t12 h fun t14 h =>
vIf t14 (
(fun (e2 : Hp → Prop) =>
vIaddr 1 t0 t13 h fun t18 h =>
vLoad2 t18 h fun t19 h =>
vIaddr 1 t1 t13 h fun t22 h =>
vLoad2 t22 h fun t23 h =>
vNeq t19 t23 h fun t24 h =>
vIf t24 (
K (.bool .false) h) (
e2 h)) fun h =>
vAdd t13 (.int .i64 1) h fun t25 h =>
ih1 t25 h) (
e0 h)
noncomputable def s_slices_Equal_string_stringL1 (cf : CallK) (fuel : Nat) (K : AV → Hp → Prop) (e0 : Hp → Prop) (t0 : AV) (t1 : AV) (t12 : AV) (m : Nat) : AV → Hp → Prop := Nat.rec (motive := fun _ => AV → Hp → Prop) (fun _ _ => False) (fun _ ih => s_slices_Equal_string_stringL1B cf fuel K e0 t0 t1 t12 ih) m
theorem s_slices_Equal_string_stringL1_succ (cf : CallK) (fuel : Nat) (K : AV → Hp → Prop) (e0 : Hp → Prop) (t0 : AV) (t1 : AV) (t12 : AV) (m : Nat) : s_slices_Equal_string_stringL1 cf fuel K e0 t0 t1 t12 (m + 1) = s_slices_Equal_string_stringL1B cf fuel K e0 t0 t1 t12 (s_slices_Equal_string_stringL1 cf fuel K e0 t0 t1 t12 m) := rfl
noncomputable def s_slices_Equal_string_string (cf : CallK) (fuel : Nat) (t0 : AV) (t1 : AV) (h : Hp) (K : AV → Hp → Prop) : Prop :=
vLenL2 t0 h fun t7 h =>
vLenL2 t1 h fun t9 h =>
vNeq t7 t9 h fun t10 h =>
vIf t10 (
K (.bool .false) h) (
vLenL2 t0 h fun t12 h =>
(fun (e0 : Hp → Prop) =>
s_slices_Equal_string_stringL1 cf fuel K (s_slices_Equal_string_stringE0 cf fuel K) t0 t1 t12 fuel (.int .i64 0) h) (s_slices_Equal_string_stringE0 cf fuel K))
theorem s_slices_Equal_string_string_eq (cf : CallK) (fuel : Nat) (t0 : AV) (t1 : AV) (h : Hp) (K : AV → Hp → Prop) : s_slices_Equal_string_string cf fuel t0 t1 h K = deepT (tabOf Tryd.prog) f_slices_Equal_string_string cf fuel [t0, t1] h K :=
  Eq.trans (by kernel_rfl) (rFun (by kernel_rfl) (rSeq (by kernel_rfl) (rSeq (by kernel_rfl) (rSeq (by kernel_rfl) rExact (rSeq (by kernel_rfl) (rBlock (by kernel_rfl) (rLoop (by kernel_rfl) (fun m1 fr h => s_slices_Equal_string_stringL1 cf fuel K (s_slices_Equal_string_stringE0 cf fuel K) (getS fr (gpos 0)) (getS fr (gpos 1)) (getS fr (gpos 12)) m1 (getS fr (gpos 13)) h) (funext fun fr => funext fun h => by kernel_rfl) fun m1 => rCast (funext fun fr => funext fun h => by kernel_rfl) rExact)) rExact)) rExact) rExact))

noncomputable def s_clock_Cmp (cf : CallK) (fuel : Nat) (t0 : AV) (t1 : AV) (h : Hp) (K : AV → Hp → Prop) : Prop :=
vBox 2 t0 h fun t2 h =>
vBox 2 t1 h fun t3 h =>
vFaddr 0 t2 h fun t6 h =>
vLoad2 t6 h fun t7 h =>
vFaddr 0 t3 h fun t8 h =>
vLoad2 t8 h fun t9 h =>
cf f_cmp_Compare_int64 [t7, t9] h fun t10 h =>
vNeq t10 (.int .i64 0) h fun t12 h =>
vIf t12 (
K t10 h) (
vFaddr 1 t2 h fun t14 h =>
vLoad2 t14 h fun t15 h =>
vFaddr 1 t3 h fun t16 h =>
vLoad2 t16 h fun t17 h =>
cf f_cmp_Compare_int [t15, t17] h fun t18 h =>
K t18 h)
theorem s_clock_Cmp_eq (cf : CallK) (fuel : Nat) (t0 : AV) (t1 : AV) (h : Hp) (K : AV → Hp → Prop) : s_clock_Cmp cf fuel t0 t1 h K = deepT (tabOf Tryd.prog) f_clock_Cmp cf fuel [t0, t1] h K :=
  Eq.trans (by kernel_rfl) (rFun (by kernel_rfl) rExact)

noncomputable def s_int_stringslite_Cut (cf : CallK) (fuel : Nat) (t0 : AV) (t1 : AV) (h : Hp) (K : AV → Hp → Prop) : Prop :=
cf f_int_stringslite_Index [t0, t1] h fun t10 h =>
vGeq t10 (.int .i64 0) h fun t12 h =>
vIf t12 (
vSliceS t0 none (some t10) h fun t15 h =>
vLenS t1 h fun t19 h =>
vAdd t10 t19 h fun t20 h =>
vSliceS t0 (some t20) none h fun t21 h =>
K (.tup [t15, t21, (.bool .true)]) h) (
K (.tup [t0, (.str 0 0), (.bool .false)]) h)
theorem s_int_stringslite_Cut_eq (cf : CallK) (fuel : Nat) (t0 : AV) (t1 : AV) (h : Hp) (K : AV → Hp → Prop) : s_int_stringslite_Cut cf fuel t0 t1 h K = deepT (tabOf Tryd.prog) f_int_stringslite_Cut cf fuel [t0, t1] h K :=
  Eq.trans (by kernel_rfl) (rFun (by kernel_rfl) rExact)

noncomputable def s_clock_node (cf : CallK) (fuel : Nat) (t0 : AV) (h : Hp) (K : AV → Hp → Prop) : Prop :=
vGeq t0 (.int .i64 0) h fun t4 h =>
joinG (fun g1 => grdV t4 true (vMov t0 h g1) (g1 undefV h)) fun t6 h =>
joinG (fun g0 => grdV t4 true (vLss t6 (.int .i64 64) h g0) (g0 undefV h)) fun t7 h =>
vPick t4 t7 (.bool .false) h fun t8 h =>
K t8 h
theorem s_clock_node_eq (cf : CallK) (fuel : Nat) (t0 : AV) (h : Hp) (K : AV → Hp → Prop) : s_clock_node cf fuel t0 h K = deepT (tabOf Tryd.prog) f_clock_node cf fuel [t0] h K :=
  Eq.trans (by kernel_rfl) (rFun (by kernel_rfl) rExact)

noncomputable def s_strings_ContainsAny (cf : CallK) (fuel : Nat) (t0 : AV) (t1 : AV) (h : Hp) (K : AV → Hp → Prop) : Prop :=
cf f_strings_IndexAny [t0, t1] h fun t7 h =>
vGeq t7 (.int .i64 0) h fun t8 h =>
K t8 h
theorem s_strings_ContainsAny_eq (cf : CallK) (fuel : Nat) (t0 : AV) (t1 : AV) (h : Hp) (K : AV → Hp → Prop) : s_strings_ContainsAny cf fuel t0 t1 h K = deepT (tabOf Tryd.prog) f_strings_ContainsAny cf fuel [t0, t1] h K :=
  Eq.trans (by kernel_rfl) (rFun (by kernel_rfl) rExact)

noncomputable def s_int_stringslite_HasPrefix (cf : CallK) (fuel : Nat) (t0 : AV) (t1 : AV) (h : Hp) (K : AV → Hp → Prop) : Prop :=
vLenS t0 h fun t6 h =>
vLenS t1 h fun t8 h =>
vGeq t6 t8 h fun t9 h =>
joinG (fun g5 => grdV t9 true (vMov t0 h g5) (g5 undefV h)) fun t11 h =>
joinG (fun g4 => grdV t9 true (vMov t1 h g4) (g4 undefV h)) fun t12 h =>
joinG (fun g3 => grdV t9 true (vLenS t12 h g3) (g3 undefV h)) fun t13 h =>
joinG (fun g2 => grdV t9 true (vSliceS t11 none (some t13) h g2) (g2 undefV h)) fun t14 h =>
joinG (fun g1 => grdV t9 true (vMov t1 h g1) (g1 undefV h)) fun t15 h =>
joinG (fun g0 => grdV t9 true (vEql t14 t15 h g0) (g0 undefV h)) fun t16 h =>
vPick t9 t16 (.bool .false) h fun t17 h =>
K t17 h
theorem s_int_stringslite_HasPrefix_eq (cf : CallK) (fuel : Nat) (t0 : AV) (t1 : AV) (h : Hp) (K : AV → Hp → Prop) : s_int_stringslite_HasPrefix cf fuel t0 t1 h K = deepT (tabOf Tryd.prog) f_int_stringslite_HasPrefix cf fuel [t0, t1] h K :=
  Eq.trans (by kernel_rfl) (rFun (by kernel_rfl) rExact)

noncomputable def s_strings_genSplitE2 (cf : CallK) (fuel : Nat) (K : AV → Hp → Prop) (t9 : AV) : AV → AV → Hp → Prop := fun t0 t10 h =>
vIaddr 1 t9 t10 h fun t61 h =>
vStore 1 t61 t0 h fun _ h =>
vAdd t10 (.int .i64 1) h fun t64 h =>
vSlice2 1 t9 none (some t64) h fun t65 h =>
K t65 h
noncomputable def s_strings_genSplitB6 (cf : CallK) (fuel : Nat) (ih3 : AV → AV → Hp → Prop) (e2 : AV → AV → Hp → Prop) (t10 : AV) (t1 : AV) (t2 : AV) (t9 : AV) (t0 : AV) (h : Hp) : Prop :=
(fun (e4 : AV → AV → Hp → Prop) =>
cf f_strings_Index [t0, t1] h fun t39 h =>
vLss t39 (.int .i64 0) h fun t41 h =>
vIf t41 (
e2 t0 t10 h) (
vAdd t39 t2 h fun t47 h =>
vSliceS t0 none (some t47) h fun t48 h =>
vIaddr 1 t9 t10 h fun t49 h =>
vStore 1 t49 t48 h fun _ h =>
vLenS t1 h fun t53 h =>
vAdd t39 t53 h fun t54 h =>
vSliceS t0 (some t54) none h fun t55 h =>
vAdd t10 (.int .i64 1) h fun t57 h =>
e4 t55 t57 h)) fun t0 t10_5 h =>
ih3 t0 t10_5 h
noncomputable def s_strings_genSplitL3B (cf : CallK) (fuel : Nat) (e2 : AV → AV → Hp → Prop) (t1 : AV) (t2 : AV) (t3 : AV) (t9 : AV) (ih3 : AV → AV → Hp → Prop) : AV → AV → Hp → Prop := fun t0 t10 h =>
vLss t10 t3 h fun t36 h =>
vIf t36 (
s_strings_genSplitB6 cf fuel ih3 e2 t10 t1 t2 t9 t0 h) (
e2 t0 t10 h)
noncomputable def s_strings_genSplitL3 (cf : CallK) (fuel : Nat) (e2 : AV → AV → Hp → Prop) (t1 : AV) (t2 : AV) (t3 : AV) (t9 : AV) (m : Nat) : AV → AV → Hp → Prop := Nat.rec (motive := fun _ => AV → AV → Hp → Prop) (fun _ _ _ => False) (fun _ ih => s_strings_genSplitL3B cf fuel e2 t1 t2 t3 t9 ih) m
theorem s_strings_genSplitL3_succ (cf : CallK) (fuel : Nat) (e2 : AV → AV → Hp → Prop) (t1 : AV) (t2 : AV) (t3 : AV) (t9 : AV) (m : Nat) : s_strings_genSplitL3 cf fuel e2 t1 t2 t3 t9 (m + 1) = s_strings_genSplitL3B cf fuel e2 t1 t2 t3 t9 (s_strings_genSplitL3 cf fuel e2 t1 t2 t3 t9 m) := rfl
noncomputable def s_strings_genSplitB7 (cf : CallK) (fuel : Nat) (K : AV → Hp → Prop) (t3 : AV) (t0 : AV) (t1 : AV) (t2 : AV) (h : Hp) : Prop :=
vEql t1 (.str 0 0) h fun t15 h =>
vIf t15 (
cf f_strings_explode [t0, t3] h fun t18 h =>
K t18 h) (
(fun (j0 : AV → Hp → Prop) =>
vLss t3 (.int .i64 0) h fun t20 h =>
vIf t20 (
cf f_strings_Count [t0, t1] h fun t23 h =>
vAdd t23 (.int .i64 1) h fun t24 h =>
j0 t24 h) (
j0 t3 h)) fun t3_1 h =>
vLenS t0 h fun t27 h =>
vAdd t27 (.int .i64 1) h fun t28 h =>
vMin false t3_1 t28 h fun t29 h =>
vMkSlice 1 16 false [(.str 0 0)] t29 t29 h fun t31 h =>
vArith Go.Am.subI t29 (.int .i64 1) h fun t33 h =>
(fun (e2 : AV → AV → Hp → Prop) =>
s_strings_genSplitL3 cf fuel (s_strings_genSplitE2 cf fuel K t31) t1 t2 t33 t31 fuel t0 (.int .i64 0) h) (s_strings_genSplitE2 cf fuel K t31))
noncomputable def s_strings_genSplit (cf : CallK) (fuel : Nat) (t0 : AV) (t1 : AV) (t2 : AV) (t3 : AV) (h : Hp) (K : AV → Hp → Prop) : Prop :=
vEql t3 (.int .i64 0) h fun t13 h =>
vIf t13 (
K .nilslice h) (
s_strings_genSplitB7 cf fuel K t3 t0 t1 t2 h)
theorem s_strings_genSplit_eq (cf : CallK) (fuel : Nat) (t0 : AV) (t1 : AV) (t2 : AV) (t3 : AV) (h : Hp) (K : AV → Hp → Prop) : s_strings_genSplit cf fuel t0 t1 t2 t3 h K = deepT (tabOf Tryd.prog) f_strings_genSplit cf fuel [t0, t1, t2, t3] h K :=
  Eq.trans (by kernel_rfl) (rFun (by kernel_rfl) (rSeq (by kernel_rfl) (rSeq (by kernel_rfl) (rSeq (by kernel_rfl) (rSeq (by kernel_rfl) (rSeq (by kernel_rfl) (rSeq (by kernel_rfl) (rSeq (by kernel_rfl) (rSeq (by kernel_rfl) (rSeq (by kernel_rfl) rExact (rBlock (by kernel_rfl) (rLoop (by kernel_rfl) (fun m3 fr h => s_strings_genSplitL3 cf fuel (s_strings_genSplitE2 cf fuel K (getS fr (gpos 9))) (getS fr (gpos 1)) (getS fr (gpos 2)) (getS fr (gpos 3)) (getS fr (gpos 9)) m3 (getS fr (gpos 0)) (getS fr (gpos 10)) h) (funext fun fr => funext fun h => by kernel_rfl) fun m3 => rCast (funext fun fr => funext fun h => by kernel_rfl) rExact))) rExact) rExact) rExact) rExact) rExact) rExact) rExact) rExact))

noncomputable def s_cmp_Compare_int64 (cf : CallK) (fuel : Nat) (t0 : AV) (t1 : AV) (h : Hp) (K : AV → Hp → Prop) : Prop :=
cf f_cmp_isNaN_int64 [t0] h fun t8 h =>
cf f_cmp_isNaN_int64 [t1] h fun t10 h =>
vIf t8 (
vIf t10 (
K (.int .i64 0) h) (
K (.int .i64 (-1)) h)) (
vIf t10 (
K (.int .i64 1) h) (
vLss t0 t1 h fun t16 h =>
vIf t16 (
K (.int .i64 (-1)) h) (
vGtr t0 t1 h fun t19 h =>
vIf t19 (
K (.int .i64 1) h) (
K (.int .i64 0) h))))
theorem s_cmp_Compare_int64_eq (cf : CallK) (fuel : Nat) (t0 : AV) (t1 : AV) (h : Hp) (K : AV → Hp → Prop) : s_cmp_Compare_int64 cf fuel t0 t1 h K = deepT (tabOf Tryd.prog) f_cmp_Compare_int64 cf fuel [t0, t1] h K :=
  Eq.trans (by kernel_rfl) (rFun (by kernel_rfl) rExact)

noncomputable def s_cmp_Compare_int (cf : CallK) (fuel : Nat) (t0 : AV) (t1 : AV) (h : Hp) (K : AV → Hp → Prop) : Prop :=
cf f_cmp_isNaN_int [t0] h fun t8 h =>
cf f_cmp_isNaN_int [t1] h fun t10 h =>
vIf t8 (
vIf t10 (
K (.int .i64 0) h) (
K (.int .i64 (-1)) h)) (
vIf t10 (
K (.int .i64 1) h) (
vLss t0 t1 h fun t16 h =>
vIf t16 (
K (.int .i64 (-1)) h) (
vGtr t0 t1 h fun t19 h =>
vIf t19 (
K (.int .i64 1) h) (
K (.int .i64 0) h))))
theorem s_cmp_Compare_int_eq (cf : CallK) (fuel : Nat) (t0 : AV) (t1 : AV) (h : Hp) (K : AV → Hp → Prop) : s_cmp_Compare_int cf fuel t0 t1 h K = deepT (tabOf Tryd.prog) f_cmp_Compare_int cf fuel [t0, t1] h K :=
  Eq.trans (by kernel_rfl) (rFun (by kernel_rfl) rExact)

noncomputable def s_int_stringslite_IndexB4 (cf : CallK) (fuel : Nat) (K : AV → Hp → Prop) (e0 : Hp → Prop) (t15 : AV) (t1 : AV) (t0 : AV) (h : Hp) : Prop :=
vEql t15 (.int .i64 1) h fun t26 h =>
vIf t26 (
vIdxS t1 (.int .i64 0) h fun t29 h =>
cf f_int_stringslite_IndexByte [t0, t29] h fun t30 h =>
K t30 h) (
vLenS t0 h fun t34 h =>
vGeq t15 t34 h fun t35 h =>
vIf t35 (
K (.int .i64 (-1)) h) (
vLoad2 (.gptr 0) h fun t38 h =>
vLeq t15 t38 h fun t39 h =>
joinG (fun g3 => grdV t39 true (vMov t0 h g3) (g3 undefV h)) fun t41 h =>
joinG (fun g2 => grdV t39 true (vLenS t41 h g2) (g2 undefV h)) fun t42 h =>
joinG (fun g1 => grdV t39 true (vLeq t42 (.int .i64 64) h g1) (g1 undefV h)) fun t43 h =>
vPick t39 t43 (.bool .false) h fun t44 h =>
vIf t44 (
cf f_int_bytealg_IndexString [t0, t1] h fun t47 h =>
K t47 h) (
e0 h)))
noncomputable def s_int_stringslite_IndexE8 (cf : CallK) (fuel : Nat) (K : AV → Hp → Prop) : Hp → Prop := fun h =>
K (.int .i64 (-1)) h
noncomputable def s_int_stringslite_IndexB21 (cf : CallK) (fuel : Nat) (K : AV → Hp → Prop) (e10 : AV → AV → Hp → Prop) (t5 : AV) (t98 : AV) (t96 : AV) (t0 : AV) (t9 : AV) (t1 : AV) (h : Hp) : Prop :=
vLoad2 (.gptr 0) h fun t119 h =>
vGtr t5 t119 h fun t120 h =>
joinG (fun g20 => grdV t120 true (vMov t98 h g20) (g20 undefV h)) fun t122 h =>
joinG (fun g19 => grdV t120 true (vMov t96 h g19) (g19 undefV h)) fun t123 h =>
joinG (fun g18 => grdV t120 true (vShr t123 (.int .u64 4) h g18) (g18 undefV h)) fun t124 h =>
joinG (fun g17 => grdV t120 true (vAdd (.int .i64 4) t124 h g17) (g17 undefV h)) fun t125 h =>
joinG (fun g16 => grdV t120 true (vGeq t122 t125 h g16) (g16 undefV h)) fun t126 h =>
vPick t120 t126 (.bool .false) h fun t127 h =>
joinG (fun g15 => grdV t127 true (vMov t96 h g15) (g15 undefV h)) fun t129 h =>
joinG (fun g14 => grdV t127 true (vMov t9 h g14) (g14 undefV h)) fun t130 h =>
joinG (fun g13 => grdV t127 true (vLss t129 t130 h g13) (g13 undefV h)) fun t131 h =>
vPick t127 t131 (.bool .false) h fun t132 h =>
vIf t132 (
vSliceS t0 (some t96) none h fun t135 h =>
cf f_int_bytealg_IndexRabinKarp_string [t135, t1] h fun t137 h =>
vLss t137 (.int .i64 0) h fun t139 h =>
vIf t139 (
K (.int .i64 (-1)) h) (
vAdd t96 t137 h fun t142 h =>
K t142 h)) (
e10 t96 t98 h)
noncomputable def s_int_stringslite_IndexB26 (cf : CallK) (fuel : Nat) (K : AV → Hp → Prop) (e10 : AV → AV → Hp → Prop) (t8_12 : AV) (t0 : AV) (t9 : AV) (t1 : AV) (t5 : AV) (t10 : AV) (h : Hp) : Prop :=
vAdd t8_12 (.int .i64 1) h fun t96 h =>
vAdd t10 (.int .i64 1) h fun t98 h =>
vLoad2 (.gptr 0) h fun t100 h =>
vLeq t5 t100 h fun t101 h =>
joinG (fun g25 => grdV t101 true (vMov t98 h g25) (g25 undefV h)) fun t103 h =>
joinG (fun g24 => grdV t101 true (vMov t96 h g24) (g24 undefV h)) fun t104 h =>
joinG (fun g23 => grdV t101 true (cf f_int_bytealg_Cutover [t104] h g23) (g23 undefV h)) fun t105 h =>
joinG (fun g22 => grdV t101 true (vGtr t103 t105 h g22) (g22 undefV h)) fun t106 h =>
vPick t101 t106 (.bool .false) h fun t107 h =>
vIf t107 (
vSliceS t0 (some t96) none h fun t110 h =>
cf f_int_bytealg_IndexString [t110, t1] h fun t112 h =>
vGeq t112 (.int .i64 0) h fun t114 h =>
vIf t114 (
vAdd t112 t96 h fun t117 h =>
K t117 h) (
K (.int .i64 (-1)) h)) (
s_int_stringslite_IndexB21 cf fuel K e10 t5 t98 t96 t0 t9 t1 h)
noncomputable def s_int_stringslite_IndexB36 (cf : CallK) (fuel : Nat) (K : AV → Hp → Prop) (ih9 : AV → AV → Hp → Prop) (t9 : AV) (t8 : AV) (t0 : AV) (t1 : AV) (t5 : AV) (t6 : AV) (t7 : AV) (t10 : AV) (h : Hp) : Prop :=
(fun (e10 : AV → AV → Hp → Prop) =>
(fun (j11 : AV → Hp → Prop) =>
vIdxS t0 t8 h fun t62 h =>
vNeq t62 t6 h fun t64 h =>
vIf t64 (
vAdd t8 (.int .i64 1) h fun t67 h =>
vSliceS t0 (some t67) (some t9) h fun t69 h =>
cf f_int_stringslite_IndexByte [t69, t6] h fun t71 h =>
vLss t71 (.int .i64 0) h fun t73 h =>
vIf t73 (
K (.int .i64 (-1)) h) (
vAdd t71 (.int .i64 1) h fun t76 h =>
vAdd t8 t76 h fun t77 h =>
j11 t77 h)) (
j11 t8 h)) fun t8_12 h =>
vAdd t8_12 (.int .i64 1) h fun t80 h =>
vIdxS t0 t80 h fun t81 h =>
vEql t81 t7 h fun t83 h =>
joinG (fun g34 => grdV t83 true (vMov t0 h g34) (g34 undefV h)) fun t85 h =>
joinG (fun g33 => grdV t83 true (vMov t8_12 h g33) (g33 undefV h)) fun t86 h =>
joinG (fun g32 => grdV t83 true (vMov t8_12 h g32) (g32 undefV h)) fun t87 h =>
joinG (fun g31 => grdV t83 true (vMov t5 h g31) (g31 undefV h)) fun t88 h =>
joinG (fun g30 => grdV t83 true (vAdd t87 t88 h g30) (g30 undefV h)) fun t89 h =>
joinG (fun g29 => grdV t83 true (vSliceS t85 (some t86) (some t89) h g29) (g29 undefV h)) fun t90 h =>
joinG (fun g28 => grdV t83 true (vMov t1 h g28) (g28 undefV h)) fun t91 h =>
joinG (fun g27 => grdV t83 true (vEql t90 t91 h g27) (g27 undefV h)) fun t92 h =>
vPick t83 t92 (.bool .false) h fun t93 h =>
vIf t93 (
K t8_12 h) (
s_int_stringslite_IndexB26 cf fuel K e10 t8_12 t0 t9 t1 t5 t10 h)) fun t8_35 t10 h =>
ih9 t8_35 t10 h
noncomputable def s_int_stringslite_IndexL9B (cf : CallK) (fuel : Nat) (K : AV → Hp → Prop) (e8 : Hp → Prop) (t0 : AV) (t1 : AV) (t5 : AV) (t6 : AV) (t7 : AV) (t9 : AV) (ih9 : AV → AV → Hp → Prop) : AV → AV → Hp → Prop := fun t8 t10 h =>
vLss t8 t9 h fun t59 h =>
vIf t59 (
s_int_stringslite_IndexB36 cf fuel K ih9 t9 t8 t0 t1 t5 t6 t7 t10 h) (
e8 h)
noncomputable def s_int_stringslite_IndexL9 (cf : CallK) (fuel : Nat) (K : AV → Hp → Prop) (e8 : Hp → Prop) (t0 : AV) (t1 : AV) (t5 : AV) (t6 : AV) (t7 : AV) (t9 : AV) (m : Nat) : AV → AV → Hp → Prop := Nat.rec (motive := fun _ => AV → AV → Hp → Prop) (fun _ _ _ => False) (fun _ ih => s_int_stringslite_IndexL9B cf fuel K e8 t0 t1 t5 t6 t7 t9 ih) m
theorem s_int_stringslite_IndexL9_succ (cf : CallK) (fuel : Nat) (K : AV → Hp → Prop) (e8 : Hp → Prop) (t0 : AV) (t1 : AV) (t5 : AV) (t6 : AV) (t7 : AV) (t9 : AV) (m : Nat) : s_int_stringslite_IndexL9 cf fuel K e8 t0 t1 t5 t6 t7 t9 (m + 1) = s_int_stringslite_IndexL9B cf fuel K e8 t0 t1 t5 t6 t7 t9 (s_int_stringslite_IndexL9 cf fuel K e8 t0 t1 t5 t6 t7 t9 m) := rfl
noncomputable def s_int_stringslite_Index (cf : CallK) (fuel : Nat) (t0 : AV) (t1 : AV) (h : Hp) (K : AV → Hp → Prop) : Prop :=
vLenS t1 h fun t15 h =>
(fun (e0 : Hp → Prop) =>
vEql t15 (.int .i64 0) h fun t18 h =>
joinG (fun g7 => grdV t18 false (vMov t1 h g7) (g7 undefV h)) fun t20 h =>
joinG (fun g6 => grdV t18 false (vMov t0 h g6) (g6 undefV h)) fun t21 h =>
joinG (fun g5 => grdV t18 false (vEql t20 t21 h g5) (g5 undefV h)) fun t22 h =>
vPick t18 (.bool .true) t22 h fun t23 h =>
vIf t23 (
K (.int .i64 0) h) (
s_int_stringslite_IndexB4 cf fuel K e0 t15 t1 t0 h)) fun h =>
vIdxS t1 (.int .i64 0) h fun t49 h =>
vIdxS t1 (.int .i64 1) h fun t51 h =>
vLenS t0 h fun t53 h =>
vArith Go.Am.subI t53 t15 h fun t55 h =>
vAdd t55 (.int .i64 1) h fun t56 h =>
(fun (e8 : Hp → Prop) =>
s_int_stringslite_IndexL9 cf fuel K (s_int_stringslite_IndexE8 cf fuel K) t0 t1 t15 t49 t51 t56 fuel (.int .i64 0) (.int .i64 0) h) (s_int_stringslite_IndexE8 cf fuel K)
theorem s_int_stringslite_Index_eq (cf : CallK) (fuel : Nat) (t0 : AV) (t1 : AV) (h : Hp) (K : AV → Hp → Prop) : s_int_stringslite_Index cf fuel t0 t1 h K = deepT (tabOf Tryd.prog) f_int_stringslite_Index cf fuel [t0, t1] h K :=
  Eq.trans (by kernel_rfl) (rFun (by kernel_rfl) (rSeq (by kernel_rfl) (rSeq (by kernel_rfl) (rSeq (by kernel_rfl) (rSeq (by kernel_rfl) (rSeq (by kernel_rfl) (rSeq (by kernel_rfl) (rSeq (by kernel_rfl) (rSeq (by kernel_rfl) (rSeq (by kernel_rfl) rExact (rBlock (by kernel_rfl) (rLoop (by kernel_rfl) (fun m9 fr h => s_int_stringslite_IndexL9 cf fuel K (s_int_stringslite_IndexE8 cf fuel K) (getS fr (gpos 0)) (getS fr (gpos 1)) (getS fr (gpos 5)) (getS fr (gpos 6)) (getS fr (gpos 7)) (getS fr (gpos 9)) m9 (getS fr (gpos 8)) (getS fr (gpos 10)) h) (funext fun fr => funext fun h => by kernel_rfl) fun m9 => rCast (funext fun fr => funext fun h => by kernel_rfl) rExact))) rExact) rExact) rExact) rExact) rExact) rExact) rExact) rExact))

noncomputable def s_strings_IndexAnyE2 (cf : CallK) (fuel : Nat) (K : AV → Hp → Prop) : Hp → Prop := fun h =>
K (.int .i64 (-1)) h
noncomputable def s_strings_IndexAnyL3B (cf : CallK) (fuel : Nat) (K : AV → Hp → Prop) (e2 : Hp → Prop) (t1 : AV) (t45 : AV) (ih3 : Hp → Prop) : Hp → Prop := fun h =>
vNextS t45 h fun t46 h =>
vExtract 0 t46 h fun t47 h =>
vIf t47 (
(fun (e4 : Hp → Prop) =>
vExtract 1 t46 h fun t48 h =>
vExtract 2 t46 h fun t49 h =>
cf f_strings_IndexRune [t1, t49] h fun t52 h =>
vGeq t52 (.int .i64 0) h fun t53 h =>
vIf t53 (
K t48 h) (
e4 h)) fun h =>
ih3 h) (
e2 h)
noncomputable def s_strings_IndexAnyL3 (cf : CallK) (fuel : Nat) (K : AV → Hp → Prop) (e2 : Hp → Prop) (t1 : AV) (t45 : AV) (m : Nat) : Hp → Prop := Nat.rec (motive := fun _ => Hp → Prop) (fun _ => False) (fun _ ih => s_strings_IndexAnyL3B cf fuel K e2 t1 t45 ih) m
theorem s_strings_IndexAnyL3_succ (cf : CallK) (fuel : Nat) (K : AV → Hp → Prop) (e2 : Hp → Prop) (t1 : AV) (t45 : AV) (m : Nat) : s_strings_IndexAnyL3 cf fuel K e2 t1 t45 (m + 1) = s_strings_IndexAnyL3B cf fuel K e2 t1 t45 (s_strings_IndexAnyL3 cf fuel K e2 t1 t45 m) := rfl
noncomputable def s_strings_IndexAnyJ1 (cf : CallK) (fuel : Nat) (K : AV → Hp → Prop) (t0 : AV) (t1 : AV) : Hp → Prop := fun h =>
vRangeS t0 h fun t45 h =>
(fun (e2 : Hp → Prop) =>
s_strings_IndexAnyL3 cf fuel K (s_strings_IndexAnyE2 cf fuel K) t1 t45 fuel h) (s_strings_IndexAnyE2 cf fuel K)
noncomputable def s_strings_IndexAnyE5 (cf : CallK) (fuel : Nat) (K : AV → Hp → Prop) : Hp → Prop := fun h =>
K (.int .i64 (-1)) h
noncomputable def s_strings_IndexAnyL6B (cf : CallK) (fuel : Nat) (K : AV → Hp → Prop) (e5 : Hp → Prop) (t0 : AV) (t6 : AV) (ih6 : AV → Hp → Prop) : AV → Hp → Prop := fun t8 h =>
vLenS t0 h fun t35 h =>
vLss t8 t35 h fun t36 h =>
vIf t36 (
(fun (e7 : Hp → Prop) =>
vIdxS t0 t8 h fun t41 h =>
cf f_strings_asciiSet_contains [t6, t41] h fun t42 h =>
vIf t42 (
K t8 h) (
e7 h)) fun h =>
vAdd t8 (.int .i64 1) h fun t38 h =>
ih6 t38 h) (
e5 h)
noncomputable def s_strings_IndexAnyL6 (cf : CallK) (fuel : Nat) (K : AV → Hp → Prop) (e5 : Hp → Prop) (t0 : AV) (t6 : AV) (m : Nat) : AV → Hp → Prop := Nat.rec (motive := fun _ => AV → Hp → Prop) (fun _ _ => False) (fun _ ih => s_strings_IndexAnyL6B cf fuel K e5 t0 t6 ih) m
theorem s_strings_IndexAnyL6_succ (cf : CallK) (fuel : Nat) (K : AV → Hp → Prop) (e5 : Hp → Prop) (t0 : AV) (t6 : AV) (m : Nat) : s_strings_IndexAnyL6 cf fuel K e5 t0 t6 (m + 1) = s_strings_IndexAnyL6B cf fuel K e5 t0 t6 (s_strings_IndexAnyL6 cf fuel K e5 t0 t6 m) := rfl
noncomputable def s_strings_IndexAnyB8 (cf : CallK) (fuel : Nat) (K : AV → Hp → Prop) (t1 : AV) (t0 : AV) (h : Hp) : Prop :=
vLenS t1 h fun t14 h =>
vEql t14 (.int .i64 1) h fun t15 h =>
vIf t15 (
vIdxS t1 (.int .i64 0) h fun t17 h =>
vToInt .i32 t17 h fun t18 h =>
(fun (j0 : AV → Hp → Prop) =>
vGeq t18 (.int .i32 128) h fun t20 h =>
vIf t20 (
j0 (.int .i32 65533) h) (
j0 t18 h)) fun t5 h =>
cf f_strings_IndexRune [t0, t5] h fun t23 h =>
K t23 h) (
(fun (j1 : Hp → Prop) =>
vLenS t0 h fun t25 h =>
cf f_strings_shouldUseASCIISet [t25] h fun t26 h =>
vIf t26 (
cf f_strings_makeASCIISet [t1] h fun t29 h =>
vExtract 0 t29 h fun t30 h =>
vExtract 1 t29 h fun t31 h =>
vBox 256 (.agg (List.replicate 256 (.bool .false))) h fun t6 h =>
vStore 256 t6 t30 h fun _ h =>
vIf t31 (
(fun (e5 : Hp → Prop) =>
s_strings_IndexAnyL6 cf fuel K (s_strings_IndexAnyE5 cf fuel K) t0 t6 fuel (.int .i64 0) h) (s_strings_IndexAnyE5 cf fuel K)) (
j1 h)) (
j1 h)) (s_strings_IndexAnyJ1 cf fuel K t0 t1))
noncomputable def s_strings_IndexAny (cf : CallK) (fuel : Nat) (t0 : AV) (t1 : AV) (h : Hp) (K : AV → Hp → Prop) : Prop :=
vEql t1 (.str 0 0) h fun t12 h =>
vIf t12 (
K (.int .i64 (-1)) h) (
s_strings_IndexAnyB8 cf fuel K t1 t0 h)
theorem s_strings_IndexAny_eq (cf : CallK) (fuel : Nat) (t0 : AV) (t1 : AV) (h : Hp) (K : AV → Hp → Prop) : s_strings_IndexAny cf fuel t0 t1 h K = deepT (tabOf Tryd.prog) f_strings_IndexAny cf fuel [t0, t1] h K :=
  Eq.trans (by kernel_rfl) (rFun (by kernel_rfl) (rSeq (by kernel_rfl) (rSeq (by kernel_rfl) (rSeq (by kernel_rfl) (rSeq (by kernel_rfl) (rSeq (by kernel_rfl) rExact (rSeq (by kernel_rfl) (rBlock (by kernel_rfl) (rLoop (by kernel_rfl) (fun m3 fr h => s_strings_IndexAnyL3 cf fuel K (s_strings_IndexAnyE2 cf fuel K) (getS fr (gpos 1)) (getS fr (gpos 45)) m3 h) (funext fun fr => funext fun h => by kernel_rfl) fun m3 => rCast (funext fun fr => funext fun h => by kernel_rfl) rExact)) rExact)) (rSeq (by kernel_rfl) (rCond (by kernel_rfl) (rSeq (by kernel_rfl) (rSeq (by kernel_rfl) (rCond (by kernel_rfl) (rSeq (by kernel_rfl) rExact (rSeq (by kernel_rfl) (rBlock (by kernel_rfl) (rLoop (by kernel_rfl) (fun m6 fr h => s_strings_IndexAnyL6 cf fuel K (s_strings_IndexAnyE5 cf fuel K) (getS fr (gpos 0)) (getS fr (gpos 6)) m6 (getS fr (gpos 8)) h) (funext fun fr => funext fun h => by kernel_rfl) fun m6 => rCast (funext fun fr => funext fun h => by kernel_rfl) rExact)) rExact)) rExact) rExact) rExact) rExact) rExact)) rExact) rExact) rExact))

noncomputable def s_strings_CountE0 (cf : CallK) (fuel : Nat) (K : AV → Hp → Prop) : Hp → Prop := fun h =>
K undefV h
noncomputable def s_strings_CountL1B (cf : CallK) (fuel : Nat) (K : AV → Hp → Prop) (t1 : AV) (ih1 : AV → AV → Hp → Prop) : AV → AV → Hp → Prop := fun t0 t5 h =>
(fun (e2 : AV → AV → Hp → Prop) =>
cf f_strings_Index [t0, t1] h fun t22 h =>
vEql t22 (.int .i64 (-1)) h fun t24 h =>
vIf t24 (
K t5 h) (
vAdd t5 (.int .i64 1) h fun t27 h =>
vLenS t1 h fun t31 h =>
vAdd t22 t31 h fun t32 h =>
vSliceS t0 (some t32) none h fun t33 h =>
e2 t33 t27 h)) fun t0 t5 h =>
ih1 t0 t5 h
noncomputable def s_strings_CountL1 (cf : CallK) (fuel : Nat) (K : AV → Hp → Prop) (t1 : AV) (m : Nat) : AV → AV → Hp → Prop := Nat.rec (motive := fun _ => AV → AV → Hp → Prop) (fun _ _ _ => False) (fun _ ih => s_strings_CountL1B cf fuel K t1 ih) m
theorem s_strings_CountL1_succ (cf : CallK) (fuel : Nat) (K : AV → Hp → Prop) (t1 : AV) (m : Nat) : s_strings_CountL1 cf fuel K t1 (m + 1) = s_strings_CountL1B cf fuel K t1 (s_strings_CountL1 cf fuel K t1 m) := rfl
noncomputable def s_strings_Count (cf : CallK) (fuel : Nat) (t0 : AV) (t1 : AV) (h : Hp) (K : AV → Hp → Prop) : Prop :=
vLenS t1 h fun t8 h =>
vEql t8 (.int .i64 0) h fun t9 h =>
vIf t9 (
cf f_unicode_utf8_RuneCountInString [t0] h fun t11 h =>
vAdd t11 (.int .i64 1) h fun t12 h =>
K t12 h) (
vLenS t1 h fun t14 h =>
vEql t14 (.int .i64 1) h fun t15 h =>
vIf t15 (
vIdxS t1 (.int .i64 0) h fun t18 h =>
vCntB t0 t18 h fun t19 h =>
K t19 h) (
(fun (e0 : Hp → Prop) =>
s_strings_CountL1 cf fuel K t1 fuel t0 (.int .i64 0) h) (s_strings_CountE0 cf fuel K)))
theorem s_strings_Count_eq (cf : CallK) (fuel : Nat) (t0 : AV) (t1 : AV) (h : Hp) (K : AV → Hp → Prop) : s_strings_Count cf fuel t0 t1 h K = deepT (tabOf Tryd.prog) f_strings_Count cf fuel [t0, t1] h K :=
  Eq.trans (by kernel_rfl) (rFun (by kernel_rfl) (rSeq (by kernel_rfl) (rSeq (by kernel_rfl) (rSeq (by kernel_rfl) (rSeq (by kernel_rfl) (rBlock (by kernel_rfl) (rLoop (by kernel_rfl) (fun m1 fr h => s_strings_CountL1 cf fuel K (getS fr (gpos 1)) m1 (getS fr (gpos 0)) (getS fr (gpos 5)) h) (funext fun fr => funext fun h => by kernel_rfl) fun m1 => rCast (funext fun fr => funext fun h => by kernel_rfl) rExact)) rExact) rExact) rExact) rExact))

noncomputable def s_strings_Index (cf : CallK) (fuel : Nat) (t0 : AV) (t1 : AV) (h : Hp) (K : AV → Hp → Prop) : Prop :=
cf f_int_stringslite_Index [t0, t1] h fun t7 h =>
K t7 h
theorem s_strings_Index_eq (cf : CallK) (fuel : Nat) (t0 : AV) (t1 : AV) (h : Hp) (K : AV → Hp → Prop) : s_strings_Index cf fuel t0 t1 h K = deepT (tabOf Tryd.prog) f_strings_Index cf fuel [t0, t1] h K :=
  Eq.trans (by kernel_rfl) (rFun (by kernel_rfl) rExact)

noncomputable def s_cmp_isNaN_int64 (cf : CallK) (fuel : Nat) (t0 : AV) (h : Hp) (K : AV → Hp → Prop) : Prop :=
vNeq t0 t0 h fun t5 h =>
K t5 h
theorem s_cmp_isNaN_int64_eq (cf : CallK) (fuel : Nat) (t0 : AV) (h : Hp) (K : AV → Hp → Prop) : s_cmp_isNaN_int64 cf fuel t0 h K = deepT (tabOf Tryd.prog) f_cmp_isNaN_int64 cf fuel [t0] h K :=
  Eq.trans (by kernel_rfl) (rFun (by kernel_rfl) rExact)

noncomputable def s_cmp_isNaN_int (cf : CallK) (fuel : Nat) (t0 : AV) (h : Hp) (K : AV → Hp → Prop) : Prop :=
vNeq t0 t0 h fun t5 h =>
K t5 h
theorem s_cmp_isNaN_int_eq (cf : CallK) (fuel : Nat) (t0 : AV) (h : Hp) (K : AV → Hp → Prop) : s_cmp_isNaN_int cf fuel t0 h K = deepT (tabOf Tryd.prog) f_cmp_isNaN_int cf fuel [t0] h K :=
  Eq.trans (by kernel_rfl) (rFun (by kernel_rfl) rExact)

noncomputable def s_int_stringslite_IndexByte (cf : CallK) (fuel : Nat) (t0 : AV) (t1 : AV) (h : Hp) (K : AV → Hp → Prop) : Prop :=
vIdxB t0 t1 h fun t7 h =>
K t7 h
theorem s_int_stringslite_IndexByte_eq (cf : CallK) (fuel : Nat) (t0 : AV) (t1 : AV) (h : Hp) (K : AV → Hp → Prop) : s_int_stringslite_IndexByte cf fuel t0 t1 h K = deepT (tabOf Tryd.prog) f_int_stringslite_IndexByte cf fuel [t0, t1] h K :=
  Eq.trans (by kernel_rfl) (rFun (by kernel_rfl) rExact)

noncomputable def s_strings_IndexRuneE0 (cf : CallK) (fuel : Nat) (K : AV → Hp → Prop) : Hp → Prop := fun h =>
K undefV h
noncomputable def s_strings_IndexRuneE1 (cf : CallK) (fuel : Nat) (K : AV → Hp → Prop) : Hp → Prop := fun h =>
K (.int .i64 (-1)) h
noncomputable def s_strings_IndexRuneL2B (cf : CallK) (fuel : Nat) (K : AV → Hp → Prop) (e1 : Hp → Prop) (t175 : AV) (ih2 : Hp → Prop) : Hp → Prop := fun h =>
vNextS t175 h fun t176 h =>
vExtract 0 t176 h fun t177 h =>
vIf t177 (
(fun (e3 : Hp → Prop) =>
vExtract 1 t176 h fun t178 h =>
vExtract 2 t176 h fun t179 h =>
vEql t179 (.int .i32 65533) h fun t181 h =>
vIf t181 (
K t178 h) (
e3 h)) fun h =>
ih2 h) (
e1 h)
noncomputable def s_strings_IndexRuneL2 (cf : CallK) (fuel : Nat) (K : AV → Hp → Prop) (e1 : Hp → Prop) (t175 : AV) (m : Nat) : Hp → Prop := Nat.rec (motive := fun _ => Hp → Prop) (fun _ => False) (fun _ ih => s_strings_IndexRuneL2B cf fuel K e1 t175 ih) m
theorem s_strings_IndexRuneL2_succ (cf : CallK) (fuel : Nat) (K : AV → Hp → Prop) (e1 : Hp → Prop) (t175 : AV) (m : Nat) : s_strings_IndexRuneL2 cf fuel K e1 t175 (m + 1) = s_strings_IndexRuneL2B cf fuel K e1 t175 (s_strings_IndexRuneL2 cf fuel K e1 t175 m) := rfl
noncomputable def s_strings_IndexRuneE4 (cf : CallK) (fuel : Nat) (K : AV → Hp → Prop) : Hp → Prop := fun h =>
K (.int .i64 (-1)) h
noncomputable def s_strings_IndexRuneE6 (cf : CallK) (fuel : Nat) (ih5 : AV → Hp → Prop) (t0 : AV) (t7 : AV) (t8 : AV) : AV → Hp → Prop := fun t9 h =>
ih5 t9 h
noncomputable def s_strings_IndexRuneE9 (cf : CallK) (fuel : Nat) (K : AV → Hp → Prop) (t8 : AV) (t9 : AV) : Hp → Prop := fun h =>
vArith Go.Am.subI t9 t8 h fun t67 h =>
K t67 h
noncomputable def s_strings_IndexRuneL10B (cf : CallK) (fuel : Nat) (e9 : Hp → Prop) (t0 : AV) (t7 : AV) (t8 : AV) (t9 : AV) (ih10 : AV → Hp → Prop) : AV → Hp → Prop := fun t12 h =>
vLenS t7 h fun t50 h =>
vLss t12 t50 h fun t51 h =>
vIf t51 (
(fun (e11 : Hp → Prop) =>
vArith Go.Am.subI t9 t12 h fun t57 h =>
vIdxS t0 t57 h fun t58 h =>
vArith Go.Am.subI t8 t12 h fun t62 h =>
vIdxS t7 t62 h fun t63 h =>
vNeq t58 t63 h fun t64 h =>
vIf t64 (
False) (
e11 h)) fun h =>
vAdd t12 (.int .i64 1) h fun t53 h =>
ih10 t53 h) (
e9 h)
noncomputable def s_strings_IndexRuneL10 (cf : CallK) (fuel : Nat) (e9 : Hp → Prop) (t0 : AV) (t7 : AV) (t8 : AV) (t9 : AV) (m : Nat) : AV → Hp → Prop := Nat.rec (motive := fun _ => AV → Hp → Prop) (fun _ _ => False) (fun _ ih => s_strings_IndexRuneL10B cf fuel e9 t0 t7 t8 t9 ih) m
theorem s_strings_IndexRuneL10_succ (cf : CallK) (fuel : Nat) (e9 : Hp → Prop) (t0 : AV) (t7 : AV) (t8 : AV) (t9 : AV) (m : Nat) : s_strings_IndexRuneL10 cf fuel e9 t0 t7 t8 t9 (m + 1) = s_strings_IndexRuneL10B cf fuel e9 t0 t7 t8 t9 (s_strings_IndexRuneL10 cf fuel e9 t0 t7 t8 t9 m) := rfl
noncomputable def s_strings_IndexRuneB12 (cf : CallK) (fuel : Nat) (K : AV → Hp → Prop) (ih5 : AV → Hp → Prop) (t0 : AV) (t9 : AV) (t7 : AV) (t8 : AV) (h : Hp) : Prop :=
(fun (e6 : AV → Hp → Prop) =>
(fun (j7 : AV → Hp → Prop) =>
vIdxS t0 t9 h fun t29 h =>
vIdxS t7 t8 h fun t32 h =>
vNeq t29 t32 h fun t33 h =>
vIf t33 (
vAdd t9 (.int .i64 1) h fun t36 h =>
vSliceS t0 (some t36) none h fun t37 h =>
vIdxS t7 t8 h fun t40 h =>
cf f_strings_IndexByte [t37, t40] h fun t41 h =>
vLss t41 (.int .i64 0) h fun t43 h =>
vIf t43 (
K (.int .i64 (-1)) h) (
vAdd t41 (.int .i64 1) h fun t46 h =>
vAdd t9 t46 h fun t47 h =>
j7 t47 h)) (
j7 t9 h)) fun t9_8 h =>
(fun (e9 : Hp → Prop) =>
s_strings_IndexRuneL10 cf fuel (s_strings_IndexRuneE9 cf fuel K t8 t9_8) t0 t7 t8 t9_8 fuel (.int .i64 1) h) (s_strings_IndexRuneE9 cf fuel K t8 t9_8)) (s_strings_IndexRuneE6 cf fuel ih5 t0 t7 t8)
noncomputable def s_strings_IndexRuneL5B (cf : CallK) (fuel : Nat) (K : AV → Hp → Prop) (e4 : Hp → Prop) (t0 : AV) (t7 : AV) (t8 : AV) (ih5 : AV → Hp → Prop) : AV → Hp → Prop := fun t9 h =>
vLenS t0 h fun t25 h =>
vLss t9 t25 h fun t26 h =>
vIf t26 (
s_strings_IndexRuneB12 cf fuel K ih5 t0 t9 t7 t8 h) (
e4 h)
noncomputable def s_strings_IndexRuneL5 (cf : CallK) (fuel : Nat) (K : AV → Hp → Prop) (e4 : Hp → Prop) (t0 : AV) (t7 : AV) (t8 : AV) (m : Nat) : AV → Hp → Prop := Nat.rec (motive := fun _ => AV → Hp → Prop) (fun _ _ => False) (fun _ ih => s_strings_IndexRuneL5B cf fuel K e4 t0 t7 t8 ih) m
theorem s_strings_IndexRuneL5_succ (cf : CallK) (fuel : Nat) (K : AV → Hp → Prop) (e4 : Hp → Prop) (t0 : AV) (t7 : AV) (t8 : AV) (m : Nat) : s_strings_IndexRuneL5 cf fuel K e4 t0 t7 t8 (m + 1) = s_strings_IndexRuneL5B cf fuel K e4 t0 t7 t8 (s_strings_IndexRuneL5 cf fuel K e4 t0 t7 t8 m) := rfl
noncomputable def s_strings_IndexRune (cf : CallK) (fuel : Nat) (t0 : AV) (t1 : AV) (h : Hp) (K : AV → Hp → Prop) : Prop :=
(fun (e0 : Hp → Prop) =>
vLeq (.int .i32 0) t1 h fun t162 h =>
joinG (fun g14 => grdV t162 true (vMov t1 h g14) (g14 undefV h)) fun t164 h =>
joinG (fun g13 => grdV t162 true (vLss t164 (.int .i32 128) h g13) (g13 undefV h)) fun t165 h =>
vPick t162 t165 (.bool .false) h fun t166 h =>
vIf t166 (
vToInt .u8 t1 h fun t169 h =>
cf f_strings_IndexByte [t0, t169] h fun t170 h =>
K t170 h) (
vEql t1 (.int .i32 65533) h fun t173 h =>
vIf t173 (
vRangeS t0 h fun t175 h =>
(fun (e1 : Hp → Prop) =>
s_strings_IndexRuneL2 cf fuel K (s_strings_IndexRuneE1 cf fuel K) t175 fuel h) (s_strings_IndexRuneE1 cf fuel K)) (
cf f_unicode_utf8_ValidRune [t1] h fun t185 h =>
vNot t185 h fun t186 h =>
vIf t186 (
K (.int .i64 (-1)) h) (
vRuneS t1 h fun t18 h =>
vLenS t18 h fun t20 h =>
vArith Go.Am.subI t20 (.int .i64 1) h fun t21 h =>
(fun (e4 : Hp → Prop) =>
s_strings_IndexRuneL5 cf fuel K (s_strings_IndexRuneE4 cf fuel K) t0 t18 t21 fuel t21 h) (s_strings_IndexRuneE4 cf fuel K))))) (s_strings_IndexRuneE0 cf fuel K)
theorem s_strings_IndexRune_eq (cf : CallK) (fuel : Nat) (t0 : AV) (t1 : AV) (h : Hp) (K : AV → Hp → Prop) : s_strings_IndexRune cf fuel t0 t1 h K = deepT (tabOf Tryd.prog) f_strings_IndexRune cf fuel [t0, t1] h K :=
  Eq.trans (by kernel_rfl) (rFun (by kernel_rfl) (rSeq (by kernel_rfl) (rBlock (by kernel_rfl) (rSeq (by kernel_rfl) (rCond (by kernel_rfl) rExact (rSeq (by kernel_rfl) (rCond (by kernel_rfl) (rSeq (by kernel_rfl) rExact (rSeq (by kernel_rfl) (rBlock (by kernel_rfl) (rLoop (by kernel_rfl) (fun m2 fr h => s_strings_IndexRuneL2 cf fuel K (s_strings_IndexRuneE1 cf fuel K) (getS fr (gpos 175)) m2 h) (funext fun fr => funext fun h => by kernel_rfl) fun m2 => rCast (funext fun fr => funext fun h => by kernel_rfl) rExact)) rExact)) (rSeq (by kernel_rfl) (rCond (by kernel_rfl) rExact (rScope (by kernel_rfl) (rSeq (by kernel_rfl) (rSeq (by kernel_rfl) (rSeq (by kernel_rfl) (rSeq (by kernel_rfl) (rSeq (by kernel_rfl) (rSeq (by kernel_rfl) (rSeq (by kernel_rfl) (rSeq (by kernel_rfl) rExact (rCond (by kernel_rfl) rExact (rScope (by kernel_rfl) (rSeq (by kernel_rfl) (rSeq (by kernel_rfl) (rSeq (by kernel_rfl) (rBlock (by kernel_rfl) rExact) rExact) rExact) rExact)))) rExact) rExact) (rBlock (by kernel_rfl) (rLoop (by kernel_rfl) (fun m5 fr h => s_strings_IndexRuneL5 cf fuel K (s_strings_IndexRuneE4 cf fuel K) (getS fr (gpos 0)) (getS fr (gpos 7)) (getS fr (gpos 8)) m5 (getS fr (gpos 9)) h) (funext fun fr => funext fun h => by kernel_rfl) fun m5 => rCast (funext fun fr => funext fun h => by kernel_rfl) (rSeq (by kernel_rfl) (rBlock (by kernel_rfl) (rScope (by kernel_rfl) (rSeq (by kernel_rfl) (rSeq (by kernel_rfl) rExact (rSeq (by kernel_rfl) (rBlock (by kernel_rfl) (rLoop (by kernel_rfl) (fun m10 fr h => s_strings_IndexRuneL10 cf fuel (s_strings_IndexRuneE9 cf fuel K (getS fr (gpos 8)) (getS fr (gpos 9))) (getS fr (gpos 0)) (getS fr (gpos 7)) (getS fr (gpos 8)) (getS fr (gpos 9)) m10 (getS fr (gpos 12)) h) (funext fun fr => funext fun h => by kernel_rfl) fun m10 => rCast (funext fun fr => funext fun h => by kernel_rfl) rExact)) rExact)) rExact))) rExact)))) rExact) rExact) rExact) rExact))) rExact)) rExact)) rExact)) rExact))

noncomputable def s_strings_shouldUseASCIISet (cf : CallK) (fuel : Nat) (t0 : AV) (h : Hp) (K : AV → Hp → Prop) : Prop :=
vGtr t0 (.int .i64 8) h fun t4 h =>
K t4 h
theorem s_strings_shouldUseASCIISet_eq (cf : CallK) (fuel : Nat) (t0 : AV) (h : Hp) (K : AV → Hp → Prop) : s_strings_shouldUseASCIISet cf fuel t0 h K = deepT (tabOf Tryd.prog) f_strings_shouldUseASCIISet cf fuel [t0] h K :=
  Eq.trans (by kernel_rfl) (rFun (by kernel_rfl) rExact)

noncomputable def s_strings_asciiSet_contains (cf : CallK) (fuel : Nat) (t0 : AV) (t1 : AV) (h : Hp) (K : AV → Hp → Prop) : Prop :=
vNilck t0 h fun t7 h =>
vIaddrA 1 256 t7 t1 h fun t8 h =>
vLoad2 t8 h fun t9 h =>
K t9 h
theorem s_strings_asciiSet_contains_eq (cf : CallK) (fuel : Nat) (t0 : AV) (t1 : AV) (h : Hp) (K : AV → Hp → Prop) : s_strings_asciiSet_contains cf fuel t0 t1 h K = deepT (tabOf Tryd.prog) f_strings_asciiSet_contains cf fuel [t0, t1] h K :=
  Eq.trans (by kernel_rfl) (rFun (by kernel_rfl) rExact)

noncomputable def s_strings_IndexByte (cf : CallK) (fuel : Nat) (t0 : AV) (t1 : AV) (h : Hp) (K : AV → Hp → Prop) : Prop :=
cf f_int_stringslite_IndexByte [t0, t1] h fun t7 h =>
K t7 h
theorem s_strings_IndexByte_eq (cf : CallK) (fuel : Nat) (t0 : AV) (t1 : AV) (h : Hp) (K : AV → Hp → Prop) : s_strings_IndexByte cf fuel t0 t1 h K = deepT (tabOf Tryd.prog) f_strings_IndexByte cf fuel [t0, t1] h K :=
  Eq.trans (by kernel_rfl) (rFun (by kernel_rfl) rExact)

noncomputable def s_unicode_utf8_ValidRune (cf : CallK) (fuel : Nat) (t0 : AV) (h : Hp) (K : AV → Hp → Prop) : Prop :=
(fun (e0 : Hp → Prop) =>
vLeq (.int .i32 0) t0 h fun t5 h =>
joinG (fun g4 => grdV t5 true (vMov t0 h g4) (g4 undefV h)) fun t7 h =>
joinG (fun g3 => grdV t5 true (vLss t7 (.int .i32 55296) h g3) (g3 undefV h)) fun t8 h =>
vPick t5 t8 (.bool .false) h fun t9 h =>
vIf t9 (
K (.bool .true) h) (
vLss (.int .i32 57343) t0 h fun t12 h =>
joinG (fun g2 => grdV t12 true (vMov t0 h g2) (g2 undefV h)) fun t14 h =>
joinG (fun g1 => grdV t12 true (vLeq t14 (.int .i32 1114111) h g1) (g1 undefV h)) fun t15 h =>
vPick t12 t15 (.bool .false) h fun t16 h =>
vIf t16 (
K (.bool .true) h) (
e0 h))) fun h =>
K (.bool .false) h
theorem s_unicode_utf8_ValidRune_eq (cf : CallK) (fuel : Nat) (t0 : AV) (h : Hp) (K : AV → Hp → Prop) : s_unicode_utf8_ValidRune cf fuel t0 h K = deepT (tabOf Tryd.prog) f_unicode_utf8_ValidRune cf fuel [t0] h K :=
  Eq.trans (by kernel_rfl) (rFun (by kernel_rfl) rExact)


end Go.Proofs.YtnhamanffojhfaaDoor.shl
