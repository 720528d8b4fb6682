/- The Go functions' code as the abstract machine's, over values; each is the code that the machine makes of the program's (theorems s_.._eq). No condition. -/
import Derived.Test.YtnhamanffojhfaaG3
import Derived.Test.YtnhamanffojhfaaProg
import Derived.KernelRfl
namespace Go.Proofs.Ytnhamanffojhfaa.shl
open Go Go.Am Go.Proofs
set_option linter.unusedVariables false
set_option maxRecDepth 100000
abbrev f_bytes_Clone : Nat := 61
abbrev f_clock_Cmp : Nat := 58
abbrev f_clock_Less : Nat := 136
abbrev f_clock_Valid : Nat := 105
abbrev f_clock_node : Nat := 134
abbrev f_cmp_Compare_int : Nat := 111
abbrev f_cmp_Compare_int64 : Nat := 110
abbrev f_cmp_isNaN_int : Nat := 138
abbrev f_cmp_isNaN_int64 : Nat := 137
abbrev f_content_Behind : Nat := 23
abbrev f_content_File_Add : Nat := 14
abbrev f_content_File_Add_1 : Nat := 57
abbrev f_content_File_Heads : Nat := 18
abbrev f_content_File_Len : Nat := 21
abbrev f_content_File_Size : Nat := 20
abbrev f_content_File_Value : Nat := 19
abbrev f_content_New : Nat := 12
abbrev f_content_Of : Nat := 22
abbrev f_int_stringslite_IndexByte : Nat := 176
abbrev f_lagoonlaw12_Cut : Nat := 53
abbrev f_lagoonlaw15_Some : Nat := 13
abbrev f_lagoonlaw17_ContentAll : Nat := 3
abbrev f_lagoonlaw17_ContentMerge : Nat := 5
abbrev f_lagoonlaw17_ContentOrders : Nat := 4
abbrev f_lagoonlaw17_begun : Nat := 11
abbrev f_lagoonlaw17_is : Nat := 17
abbrev f_lagoonlaw2_Short : Nat := 97
abbrev f_lagoonlaw4_Cut : Nat := 98
abbrev f_lagoonref12_Local : Nat := 133
abbrev f_lagoonref12_May : Nat := 54
abbrev f_lagoonref12_Name : Nat := 103
abbrev f_lagoonref12_Sorted : Nat := 16
abbrev f_lagoonref12_older : Nat := 102
abbrev f_lagoonref12_root : Nat := 101
abbrev f_lagoonref12_trash : Nat := 104
abbrev f_lagoonref15_Behind : Nat := 24
abbrev f_lagoonref15_Heads : Nat := 15
abbrev f_lagoonref4_At : Nat := 26
abbrev f_lagoonref4_Eq : Nat := 60
abbrev f_lagoonref4_Leq : Nat := 114
abbrev f_lagoonref4_Less : Nat := 30
abbrev f_lagoonref4_May : Nat := 100
abbrev f_lagoonref4_Norm : Nat := 63
abbrev f_lagoonref4_Same : Nat := 25
abbrev f_lagoonref4_Valid : Nat := 99
abbrev f_lagoonref4_With : Nat := 27
abbrev f_lagoonref4_short : Nat := 64
abbrev f_ops_May : Nat := 55
abbrev f_ops_Name : Nat := 107
abbrev f_ops_Root : Nat := 85
abbrev f_ops_Trash : Nat := 109
abbrev f_ops_earlier : Nat := 108
abbrev f_ops_seen : Nat := 106
abbrev f_slices_BinarySearchFunc_api_Version_api_Version_api_ID : Nat := 56
abbrev f_slices_Insert_api_Version_api_Version : Nat := 59
abbrev f_strings_ContainsAny : Nat := 135
abbrev f_strings_IndexAny : Nat := 156
abbrev f_strings_IndexByte : Nat := 172
abbrev f_strings_IndexRune : Nat := 167
abbrev f_strings_asciiSet_contains : Nat := 170
abbrev f_strings_makeASCIISet : Nat := 169
abbrev f_strings_shouldUseASCIISet : Nat := 168
abbrev f_unicode_utf8_ValidRune : Nat := 173
abbrev f_vector_At : Nat := 62

noncomputable def s_lagoonref4_Valid (cf : CallK) (fuel : Nat) (t0 : AV) (h : Hp) (K : AV → Hp → Prop) : Prop :=
vBox 2 t0 h fun t1 h =>
vFaddr 0 t1 h fun t3 h =>
vLoad2 t3 h fun t4 h =>
vGeq t4 (.int .i64 1) h fun t5 h =>
joinG (fun g8 => grdV t5 true (vFaddr 0 t1 h g8) (g8 undefV h)) fun t7 h =>
joinG (fun g7 => grdV t5 true (vLoad2 t7 h g7) (g7 undefV h)) fun t8 h =>
joinG (fun g6 => grdV t5 true (vLeq t8 (.int .i64 1152921504606846976) h g6) (g6 undefV h)) fun t9 h =>
vPick t5 t9 (.bool .false) h fun t10 h =>
joinG (fun g5 => grdV t10 true (vFaddr 1 t1 h g5) (g5 undefV h)) fun t12 h =>
joinG (fun g4 => grdV t10 true (vLoad2 t12 h g4) (g4 undefV h)) fun t13 h =>
joinG (fun g3 => grdV t10 true (vGeq t13 (.int .i64 0) h g3) (g3 undefV h)) fun t14 h =>
vPick t10 t14 (.bool .false) h fun t15 h =>
joinG (fun g2 => grdV t15 true (vFaddr 1 t1 h g2) (g2 undefV h)) fun t17 h =>
joinG (fun g1 => grdV t15 true (vLoad2 t17 h g1) (g1 undefV h)) fun t18 h =>
joinG (fun g0 => grdV t15 true (vLss t18 (.int .i64 64) h g0) (g0 undefV h)) fun t19 h =>
vPick t15 t19 (.bool .false) h fun t20 h =>
K t20 h
theorem s_lagoonref4_Valid_eq (cf : CallK) (fuel : Nat) (t0 : AV) (h : Hp) (K : AV → Hp → Prop) : s_lagoonref4_Valid cf fuel t0 h K = deepT (tabOf Try.prog) f_lagoonref4_Valid cf fuel [t0] h K :=
  Eq.trans (by kernel_rfl) (rFun (by kernel_rfl) rExact)

noncomputable def s_lagoonref4_Less (cf : CallK) (fuel : Nat) (t0 : AV) (t1 : AV) (h : Hp) (K : AV → Hp → Prop) : Prop :=
vBox 2 t0 h fun t2 h =>
vBox 2 t1 h fun t3 h =>
vFaddr 0 t2 h fun t5 h =>
vLoad2 t5 h fun t6 h =>
vFaddr 0 t3 h fun t7 h =>
vLoad2 t7 h fun t8 h =>
vLss t6 t8 h fun t9 h =>
joinG (fun g11 => grdV t9 false (vFaddr 0 t2 h g11) (g11 undefV h)) fun t11 h =>
joinG (fun g10 => grdV t9 false (vLoad2 t11 h g10) (g10 undefV h)) fun t12 h =>
joinG (fun g9 => grdV t9 false (vFaddr 0 t3 h g9) (g9 undefV h)) fun t13 h =>
joinG (fun g8 => grdV t9 false (vLoad2 t13 h g8) (g8 undefV h)) fun t14 h =>
joinG (fun g7 => grdV t9 false (vEql t12 t14 h g7) (g7 undefV h)) fun t15 h =>
joinG (fun g6 => grdV t9 false (vMov t15 h g6) (g6 undefV h)) fun t16 h =>
joinG (fun g5 => grdV t16 true (vFaddr 1 t2 h g5) (g5 undefV h)) fun t17 h =>
joinG (fun g4 => grdV t16 true (vLoad2 t17 h g4) (g4 undefV h)) fun t18 h =>
joinG (fun g3 => grdV t16 true (vFaddr 1 t3 h g3) (g3 undefV h)) fun t19 h =>
joinG (fun g2 => grdV t16 true (vLoad2 t19 h g2) (g2 undefV h)) fun t20 h =>
joinG (fun g1 => grdV t16 true (vLss t18 t20 h g1) (g1 undefV h)) fun t21 h =>
joinG (fun g0 => grdV t9 false (vPick t16 t21 (.bool .false) h g0) (g0 undefV h)) fun t22 h =>
vPick t9 (.bool .true) t22 h fun t23 h =>
K t23 h
theorem s_lagoonref4_Less_eq (cf : CallK) (fuel : Nat) (t0 : AV) (t1 : AV) (h : Hp) (K : AV → Hp → Prop) : s_lagoonref4_Less cf fuel t0 t1 h K = deepT (tabOf Try.prog) f_lagoonref4_Less cf fuel [t0, t1] h K :=
  Eq.trans (by kernel_rfl) (rFun (by kernel_rfl) rExact)

noncomputable def s_lagoonref4_Same (cf : CallK) (fuel : Nat) (t0 : AV) (t1 : AV) (h : Hp) (K : AV → Hp → Prop) : Prop :=
vBox 2 t0 h fun t2 h =>
vBox 2 t1 h fun t3 h =>
vFaddr 0 t2 h fun t5 h =>
vLoad2 t5 h fun t6 h =>
vFaddr 0 t3 h fun t7 h =>
vLoad2 t7 h fun t8 h =>
vEql t6 t8 h fun t9 h =>
joinG (fun g4 => grdV t9 true (vFaddr 1 t2 h g4) (g4 undefV h)) fun t11 h =>
joinG (fun g3 => grdV t9 true (vLoad2 t11 h g3) (g3 undefV h)) fun t12 h =>
joinG (fun g2 => grdV t9 true (vFaddr 1 t3 h g2) (g2 undefV h)) fun t13 h =>
joinG (fun g1 => grdV t9 true (vLoad2 t13 h g1) (g1 undefV h)) fun t14 h =>
joinG (fun g0 => grdV t9 true (vEql t12 t14 h g0) (g0 undefV h)) fun t15 h =>
vPick t9 t15 (.bool .false) h fun t16 h =>
K t16 h
theorem s_lagoonref4_Same_eq (cf : CallK) (fuel : Nat) (t0 : AV) (t1 : AV) (h : Hp) (K : AV → Hp → Prop) : s_lagoonref4_Same cf fuel t0 t1 h K = deepT (tabOf Try.prog) f_lagoonref4_Same cf fuel [t0, t1] h K :=
  Eq.trans (by kernel_rfl) (rFun (by kernel_rfl) rExact)

noncomputable def s_lagoonref12_root (cf : CallK) (fuel : Nat) (t0 : AV) (h : Hp) (K : AV → Hp → Prop) : Prop :=
vBox 2 t0 h fun t1 h =>
vFaddr 0 t1 h fun t3 h =>
vLoad2 t3 h fun t4 h =>
vEql t4 (.int .i64 0) h fun t5 h =>
joinG (fun g2 => grdV t5 true (vFaddr 1 t1 h g2) (g2 undefV h)) fun t7 h =>
joinG (fun g1 => grdV t5 true (vLoad2 t7 h g1) (g1 undefV h)) fun t8 h =>
joinG (fun g0 => grdV t5 true (vEql t8 (.int .i64 0) h g0) (g0 undefV h)) fun t9 h =>
vPick t5 t9 (.bool .false) h fun t10 h =>
K t10 h
theorem s_lagoonref12_root_eq (cf : CallK) (fuel : Nat) (t0 : AV) (h : Hp) (K : AV → Hp → Prop) : s_lagoonref12_root cf fuel t0 h K = deepT (tabOf Try.prog) f_lagoonref12_root cf fuel [t0] h K :=
  Eq.trans (by kernel_rfl) (rFun (by kernel_rfl) rExact)

noncomputable def s_lagoonref12_trash (cf : CallK) (fuel : Nat) (t0 : AV) (h : Hp) (K : AV → Hp → Prop) : Prop :=
vBox 2 t0 h fun t1 h =>
vFaddr 0 t1 h fun t3 h =>
vLoad2 t3 h fun t4 h =>
vEql t4 (.int .i64 0) h fun t5 h =>
joinG (fun g2 => grdV t5 true (vFaddr 1 t1 h g2) (g2 undefV h)) fun t7 h =>
joinG (fun g1 => grdV t5 true (vLoad2 t7 h g1) (g1 undefV h)) fun t8 h =>
joinG (fun g0 => grdV t5 true (vEql t8 (.int .i64 1) h g0) (g0 undefV h)) fun t9 h =>
vPick t5 t9 (.bool .false) h fun t10 h =>
K t10 h
theorem s_lagoonref12_trash_eq (cf : CallK) (fuel : Nat) (t0 : AV) (h : Hp) (K : AV → Hp → Prop) : s_lagoonref12_trash cf fuel t0 h K = deepT (tabOf Try.prog) f_lagoonref12_trash cf fuel [t0] h K :=
  Eq.trans (by kernel_rfl) (rFun (by kernel_rfl) rExact)

noncomputable def s_lagoonref12_older (cf : CallK) (fuel : Nat) (t0 : AV) (t1 : AV) (h : Hp) (K : AV → Hp → Prop) : Prop :=
vBox 2 t0 h fun t2 h =>
vBox 2 t1 h fun t3 h =>
vLoadA 2 t2 h fun t5 h =>
cf f_lagoonref4_Valid [t5] h fun t6 h =>
joinG (fun g2 => grdV t6 true (vLoadA 2 t2 h g2) (g2 undefV h)) fun t8 h =>
joinG (fun g1 => grdV t6 true (vLoadA 2 t3 h g1) (g1 undefV h)) fun t9 h =>
joinG (fun g0 => grdV t6 true (cf f_lagoonref4_Less [t8, t9] h g0) (g0 undefV h)) fun t10 h =>
vPick t6 t10 (.bool .false) h fun t11 h =>
K t11 h
theorem s_lagoonref12_older_eq (cf : CallK) (fuel : Nat) (t0 : AV) (t1 : AV) (h : Hp) (K : AV → Hp → Prop) : s_lagoonref12_older cf fuel t0 t1 h K = deepT (tabOf Try.prog) f_lagoonref12_older cf fuel [t0, t1] h K :=
  Eq.trans (by kernel_rfl) (rFun (by kernel_rfl) rExact)

noncomputable def s_lagoonref4_At (cf : CallK) (fuel : Nat) (t0 : AV) (t1 : AV) (h : Hp) (K : AV → Hp → Prop) : Prop :=
vLss t1 (.int .i64 0) h fun t6 h =>
joinG (fun g15 => grdV t6 false (vMov t1 h g15) (g15 undefV h)) fun t8 h =>
joinG (fun g14 => grdV t6 false (vGeq t8 (.int .i64 64) h g14) (g14 undefV h)) fun t9 h =>
vPick t6 (.bool .true) t9 h fun t10 h =>
joinG (fun g13 => grdV t10 false (vMov t1 h g13) (g13 undefV h)) fun t12 h =>
joinG (fun g12 => grdV t10 false (vMov t0 h g12) (g12 undefV h)) fun t13 h =>
joinG (fun g11 => grdV t10 false (vLenL2 t13 h g11) (g11 undefV h)) fun t14 h =>
joinG (fun g10 => grdV t10 false (vGeq t12 t14 h g10) (g10 undefV h)) fun t15 h =>
vPick t10 (.bool .true) t15 h fun t16 h =>
joinG (fun g9 => grdV t16 false (vMov t0 h g9) (g9 undefV h)) fun t18 h =>
joinG (fun g8 => grdV t16 false (vMov t1 h g8) (g8 undefV h)) fun t19 h =>
joinG (fun g7 => grdV t16 false (vIaddr 1 t18 t19 h g7) (g7 undefV h)) fun t20 h =>
joinG (fun g6 => grdV t16 false (vLoad2 t20 h g6) (g6 undefV h)) fun t21 h =>
joinG (fun g5 => grdV t16 false (vLss t21 (.int .i64 0) h g5) (g5 undefV h)) fun t22 h =>
vPick t16 (.bool .true) t22 h fun t23 h =>
joinG (fun g4 => grdV t23 false (vMov t0 h g4) (g4 undefV h)) fun t25 h =>
joinG (fun g3 => grdV t23 false (vMov t1 h g3) (g3 undefV h)) fun t26 h =>
joinG (fun g2 => grdV t23 false (vIaddr 1 t25 t26 h g2) (g2 undefV h)) fun t27 h =>
joinG (fun g1 => grdV t23 false (vLoad2 t27 h g1) (g1 undefV h)) fun t28 h =>
joinG (fun g0 => grdV t23 false (vGtr t28 (.int .i64 1152921504606846976) h g0) (g0 undefV h)) fun t29 h =>
vPick t23 (.bool .true) t29 h fun t30 h =>
vIf t30 (
K (.int .i64 0) h) (
vIaddr 1 t0 t1 h fun t33 h =>
vLoad2 t33 h fun t34 h =>
K t34 h)
theorem s_lagoonref4_At_eq (cf : CallK) (fuel : Nat) (t0 : AV) (t1 : AV) (h : Hp) (K : AV → Hp → Prop) : s_lagoonref4_At cf fuel t0 t1 h K = deepT (tabOf Try.prog) f_lagoonref4_At cf fuel [t0, t1] h K :=
  Eq.trans (by kernel_rfl) (rFun (by kernel_rfl) rExact)

noncomputable def s_vector_At (cf : CallK) (fuel : Nat) (t0 : AV) (t1 : AV) (h : Hp) (K : AV → Hp → Prop) : Prop :=
vLss t1 (.int .i64 0) h fun t6 h =>
joinG (fun g14 => grdV t6 false (vMov t1 h g14) (g14 undefV h)) fun t8 h =>
joinG (fun g13 => grdV t6 false (vMov t0 h g13) (g13 undefV h)) fun t9 h =>
joinG (fun g12 => grdV t6 false (vLenL2 t9 h g12) (g12 undefV h)) fun t10 h =>
joinG (fun g11 => grdV t6 false (vMin false t10 (.int .i64 64) h g11) (g11 undefV h)) fun t11 h =>
joinG (fun g10 => grdV t6 false (vGeq t8 t11 h g10) (g10 undefV h)) fun t12 h =>
vPick t6 (.bool .true) t12 h fun t13 h =>
joinG (fun g9 => grdV t13 false (vMov t0 h g9) (g9 undefV h)) fun t15 h =>
joinG (fun g8 => grdV t13 false (vMov t1 h g8) (g8 undefV h)) fun t16 h =>
joinG (fun g7 => grdV t13 false (vIaddr 1 t15 t16 h g7) (g7 undefV h)) fun t17 h =>
joinG (fun g6 => grdV t13 false (vLoad2 t17 h g6) (g6 undefV h)) fun t18 h =>
joinG (fun g5 => grdV t13 false (vLss t18 (.int .i64 0) h g5) (g5 undefV h)) fun t19 h =>
vPick t13 (.bool .true) t19 h fun t20 h =>
joinG (fun g4 => grdV t20 false (vMov t0 h g4) (g4 undefV h)) fun t22 h =>
joinG (fun g3 => grdV t20 false (vMov t1 h g3) (g3 undefV h)) fun t23 h =>
joinG (fun g2 => grdV t20 false (vIaddr 1 t22 t23 h g2) (g2 undefV h)) fun t24 h =>
joinG (fun g1 => grdV t20 false (vLoad2 t24 h g1) (g1 undefV h)) fun t25 h =>
joinG (fun g0 => grdV t20 false (vGtr t25 (.int .i64 1152921504606846976) h g0) (g0 undefV h)) fun t26 h =>
vPick t20 (.bool .true) t26 h fun t27 h =>
vIf t27 (
K (.int .i64 0) h) (
vIaddr 1 t0 t1 h fun t30 h =>
vLoad2 t30 h fun t31 h =>
K t31 h)
theorem s_vector_At_eq (cf : CallK) (fuel : Nat) (t0 : AV) (t1 : AV) (h : Hp) (K : AV → Hp → Prop) : s_vector_At cf fuel t0 t1 h K = deepT (tabOf Try.prog) f_vector_At cf fuel [t0, t1] h K :=
  Eq.trans (by kernel_rfl) (rFun (by kernel_rfl) rExact)

noncomputable def s_clock_node (cf : CallK) (fuel : Nat) (t0 : AV) (h : Hp) (K : AV → Hp → Prop) : Prop :=
vGeq t0 (.int .i64 0) h fun t4 h =>
joinG (fun g1 => grdV t4 true (vMov t0 h g1) (g1 undefV h)) fun t6 h =>
joinG (fun g0 => grdV t4 true (vLss t6 (.int .i64 64) h g0) (g0 undefV h)) fun t7 h =>
vPick t4 t7 (.bool .false) h fun t8 h =>
K t8 h
theorem s_clock_node_eq (cf : CallK) (fuel : Nat) (t0 : AV) (h : Hp) (K : AV → Hp → Prop) : s_clock_node cf fuel t0 h K = deepT (tabOf Try.prog) f_clock_node cf fuel [t0] h K :=
  Eq.trans (by kernel_rfl) (rFun (by kernel_rfl) rExact)

noncomputable def s_clock_Valid (cf : CallK) (fuel : Nat) (t0 : AV) (h : Hp) (K : AV → Hp → Prop) : Prop :=
vBox 2 t0 h fun t1 h =>
vFaddr 0 t1 h fun t3 h =>
vLoad2 t3 h fun t4 h =>
vGeq t4 (.int .i64 1) h fun t5 h =>
joinG (fun g5 => grdV t5 true (vFaddr 0 t1 h g5) (g5 undefV h)) fun t7 h =>
joinG (fun g4 => grdV t5 true (vLoad2 t7 h g4) (g4 undefV h)) fun t8 h =>
joinG (fun g3 => grdV t5 true (vLeq t8 (.int .i64 1152921504606846976) h g3) (g3 undefV h)) fun t9 h =>
vPick t5 t9 (.bool .false) h fun t10 h =>
joinG (fun g2 => grdV t10 true (vFaddr 1 t1 h g2) (g2 undefV h)) fun t12 h =>
joinG (fun g1 => grdV t10 true (vLoad2 t12 h g1) (g1 undefV h)) fun t13 h =>
joinG (fun g0 => grdV t10 true (cf f_clock_node [t13] h g0) (g0 undefV h)) fun t14 h =>
vPick t10 t14 (.bool .false) h fun t15 h =>
K t15 h
theorem s_clock_Valid_eq (cf : CallK) (fuel : Nat) (t0 : AV) (h : Hp) (K : AV → Hp → Prop) : s_clock_Valid cf fuel t0 h K = deepT (tabOf Try.prog) f_clock_Valid cf fuel [t0] h K :=
  Eq.trans (by kernel_rfl) (rFun (by kernel_rfl) rExact)

noncomputable def s_cmp_isNaN_int64 (cf : CallK) (fuel : Nat) (t0 : AV) (h : Hp) (K : AV → Hp → Prop) : Prop :=
vNeq t0 t0 h fun t5 h =>
K t5 h
theorem s_cmp_isNaN_int64_eq (cf : CallK) (fuel : Nat) (t0 : AV) (h : Hp) (K : AV → Hp → Prop) : s_cmp_isNaN_int64 cf fuel t0 h K = deepT (tabOf Try.prog) f_cmp_isNaN_int64 cf fuel [t0] h K :=
  Eq.trans (by kernel_rfl) (rFun (by kernel_rfl) rExact)

noncomputable def s_cmp_isNaN_int (cf : CallK) (fuel : Nat) (t0 : AV) (h : Hp) (K : AV → Hp → Prop) : Prop :=
vNeq t0 t0 h fun t5 h =>
K t5 h
theorem s_cmp_isNaN_int_eq (cf : CallK) (fuel : Nat) (t0 : AV) (h : Hp) (K : AV → Hp → Prop) : s_cmp_isNaN_int cf fuel t0 h K = deepT (tabOf Try.prog) f_cmp_isNaN_int cf fuel [t0] h K :=
  Eq.trans (by kernel_rfl) (rFun (by kernel_rfl) rExact)

noncomputable def s_cmp_Compare_int64 (cf : CallK) (fuel : Nat) (t0 : AV) (t1 : AV) (h : Hp) (K : AV → Hp → Prop) : Prop :=
cf f_cmp_isNaN_int64 [t0] h fun t8 h =>
cf f_cmp_isNaN_int64 [t1] h fun t10 h =>
vIf t8 (
vIf t10 (
K (.int .i64 0) h) (
K (.int .i64 (-1)) h)) (
vIf t10 (
K (.int .i64 1) h) (
vLss t0 t1 h fun t16 h =>
vIf t16 (
K (.int .i64 (-1)) h) (
vGtr t0 t1 h fun t19 h =>
vIf t19 (
K (.int .i64 1) h) (
K (.int .i64 0) h))))
theorem s_cmp_Compare_int64_eq (cf : CallK) (fuel : Nat) (t0 : AV) (t1 : AV) (h : Hp) (K : AV → Hp → Prop) : s_cmp_Compare_int64 cf fuel t0 t1 h K = deepT (tabOf Try.prog) f_cmp_Compare_int64 cf fuel [t0, t1] h K :=
  Eq.trans (by kernel_rfl) (rFun (by kernel_rfl) rExact)

noncomputable def s_cmp_Compare_int (cf : CallK) (fuel : Nat) (t0 : AV) (t1 : AV) (h : Hp) (K : AV → Hp → Prop) : Prop :=
cf f_cmp_isNaN_int [t0] h fun t8 h =>
cf f_cmp_isNaN_int [t1] h fun t10 h =>
vIf t8 (
vIf t10 (
K (.int .i64 0) h) (
K (.int .i64 (-1)) h)) (
vIf t10 (
K (.int .i64 1) h) (
vLss t0 t1 h fun t16 h =>
vIf t16 (
K (.int .i64 (-1)) h) (
vGtr t0 t1 h fun t19 h =>
vIf t19 (
K (.int .i64 1) h) (
K (.int .i64 0) h))))
theorem s_cmp_Compare_int_eq (cf : CallK) (fuel : Nat) (t0 : AV) (t1 : AV) (h : Hp) (K : AV → Hp → Prop) : s_cmp_Compare_int cf fuel t0 t1 h K = deepT (tabOf Try.prog) f_cmp_Compare_int cf fuel [t0, t1] h K :=
  Eq.trans (by kernel_rfl) (rFun (by kernel_rfl) rExact)

noncomputable def s_clock_Cmp (cf : CallK) (fuel : Nat) (t0 : AV) (t1 : AV) (h : Hp) (K : AV → Hp → Prop) : Prop :=
vBox 2 t0 h fun t2 h =>
vBox 2 t1 h fun t3 h =>
vFaddr 0 t2 h fun t6 h =>
vLoad2 t6 h fun t7 h =>
vFaddr 0 t3 h fun t8 h =>
vLoad2 t8 h fun t9 h =>
cf f_cmp_Compare_int64 [t7, t9] h fun t10 h =>
vNeq t10 (.int .i64 0) h fun t12 h =>
vIf t12 (
K t10 h) (
vFaddr 1 t2 h fun t14 h =>
vLoad2 t14 h fun t15 h =>
vFaddr 1 t3 h fun t16 h =>
vLoad2 t16 h fun t17 h =>
cf f_cmp_Compare_int [t15, t17] h fun t18 h =>
K t18 h)
theorem s_clock_Cmp_eq (cf : CallK) (fuel : Nat) (t0 : AV) (t1 : AV) (h : Hp) (K : AV → Hp → Prop) : s_clock_Cmp cf fuel t0 t1 h K = deepT (tabOf Try.prog) f_clock_Cmp cf fuel [t0, t1] h K :=
  Eq.trans (by kernel_rfl) (rFun (by kernel_rfl) rExact)

noncomputable def s_clock_Less (cf : CallK) (fuel : Nat) (t0 : AV) (t1 : AV) (h : Hp) (K : AV → Hp → Prop) : Prop :=
vBox 2 t0 h fun t2 h =>
vBox 2 t1 h fun t3 h =>
vLoadA 2 t2 h fun t5 h =>
vLoadA 2 t3 h fun t6 h =>
cf f_clock_Cmp [t5, t6] h fun t7 h =>
vLss t7 (.int .i64 0) h fun t8 h =>
K t8 h
theorem s_clock_Less_eq (cf : CallK) (fuel : Nat) (t0 : AV) (t1 : AV) (h : Hp) (K : AV → Hp → Prop) : s_clock_Less cf fuel t0 t1 h K = deepT (tabOf Try.prog) f_clock_Less cf fuel [t0, t1] h K :=
  Eq.trans (by kernel_rfl) (rFun (by kernel_rfl) rExact)

noncomputable def s_ops_Root (cf : CallK) (fuel : Nat) (h : Hp) (K : AV → Hp → Prop) : Prop :=
vBox 2 (.agg [(.int .i64 0), (.int .i64 0)]) h fun t0 h =>
vBuild [(.int .i64 0), (.int .i64 0)] [] h fun t1 h =>
vStore 2 t0 t1 h fun _ h =>
vLoadA 2 t0 h fun r0 _ => K r0 h
theorem s_ops_Root_eq (cf : CallK) (fuel : Nat) (h : Hp) (K : AV → Hp → Prop) : s_ops_Root cf fuel h K = deepT (tabOf Try.prog) f_ops_Root cf fuel [] h K :=
  Eq.trans (by kernel_rfl) (rFun (by kernel_rfl) rExact)

noncomputable def s_ops_Trash (cf : CallK) (fuel : Nat) (h : Hp) (K : AV → Hp → Prop) : Prop :=
vBox 2 (.agg [(.int .i64 0), (.int .i64 0)]) h fun t0 h =>
vBuild [(.int .i64 0), (.int .i64 0)] [(1, 1, (.int .i64 1))] h fun t1 h =>
vStore 2 t0 t1 h fun _ h =>
vLoadA 2 t0 h fun r0 _ => K r0 h
theorem s_ops_Trash_eq (cf : CallK) (fuel : Nat) (h : Hp) (K : AV → Hp → Prop) : s_ops_Trash cf fuel h K = deepT (tabOf Try.prog) f_ops_Trash cf fuel [] h K :=
  Eq.trans (by kernel_rfl) (rFun (by kernel_rfl) rExact)

noncomputable def s_content_File_Add_1 (cf : CallK) (fuel : Nat) (t0 : AV) (t1 : AV) (h : Hp) (K : AV → Hp → Prop) : Prop :=
vBox 5 t0 h fun t2 h =>
vBox 2 t1 h fun t3 h =>
vFaddr 0 t2 h fun t5 h =>
vLoadA 2 t5 h fun t6 h =>
vLoadA 2 t3 h fun t7 h =>
cf f_clock_Cmp [t6, t7] h fun t8 h =>
K t8 h
theorem s_content_File_Add_1_eq (cf : CallK) (fuel : Nat) (t0 : AV) (t1 : AV) (h : Hp) (K : AV → Hp → Prop) : s_content_File_Add_1 cf fuel t0 t1 h K = deepT (tabOf Try.prog) f_content_File_Add_1 cf fuel [t0, t1] h K :=
  Eq.trans (by kernel_rfl) (rFun (by kernel_rfl) rExact)

noncomputable def s_lagoonref4_MayE1 (cf : CallK) (fuel : Nat) (K : AV → Hp → Prop) : Hp → Prop := fun h =>
K (.bool .true) h
noncomputable def s_lagoonref4_MayB9 (cf : CallK) (fuel : Nat) (K : AV → Hp → Prop) (ih2 : AV → Hp → Prop) (t4 : AV) (t0 : AV) (h : Hp) : Prop :=
(fun (e3 : Hp → Prop) =>
vIaddr 1 t0 t4 h fun t28 h =>
vLoad2 t28 h fun t29 h =>
vLss t29 (.int .i64 0) h fun t30 h =>
joinG (fun g8 => grdV t30 false (vMov t0 h g8) (g8 undefV h)) fun t32 h =>
joinG (fun g7 => grdV t30 false (vMov t4 h g7) (g7 undefV h)) fun t33 h =>
joinG (fun g6 => grdV t30 false (vIaddr 1 t32 t33 h g6) (g6 undefV h)) fun t34 h =>
joinG (fun g5 => grdV t30 false (vLoad2 t34 h g5) (g5 undefV h)) fun t35 h =>
joinG (fun g4 => grdV t30 false (vGtr t35 (.int .i64 1152921504606846976) h g4) (g4 undefV h)) fun t36 h =>
vPick t30 (.bool .true) t36 h fun t37 h =>
vIf t37 (
K (.bool .false) h) (
e3 h)) fun h =>
vAdd t4 (.int .i64 1) h fun t25 h =>
ih2 t25 h
noncomputable def s_lagoonref4_MayL2B (cf : CallK) (fuel : Nat) (K : AV → Hp → Prop) (e1 : Hp → Prop) (t0 : AV) (t3 : AV) (ih2 : AV → Hp → Prop) : AV → Hp → Prop := fun t4 h =>
vLss t4 t3 h fun t23 h =>
vIf t23 (
s_lagoonref4_MayB9 cf fuel K ih2 t4 t0 h) (
e1 h)
noncomputable def s_lagoonref4_MayL2 (cf : CallK) (fuel : Nat) (K : AV → Hp → Prop) (e1 : Hp → Prop) (t0 : AV) (t3 : AV) (m : Nat) : AV → Hp → Prop := Nat.rec (motive := fun _ => AV → Hp → Prop) (fun _ _ => False) (fun _ ih => s_lagoonref4_MayL2B cf fuel K e1 t0 t3 ih) m
theorem s_lagoonref4_MayL2_succ (cf : CallK) (fuel : Nat) (K : AV → Hp → Prop) (e1 : Hp → Prop) (t0 : AV) (t3 : AV) (m : Nat) : s_lagoonref4_MayL2 cf fuel K e1 t0 t3 (m + 1) = s_lagoonref4_MayL2B cf fuel K e1 t0 t3 (s_lagoonref4_MayL2 cf fuel K e1 t0 t3 m) := rfl
noncomputable def s_lagoonref4_MayE0 (cf : CallK) (fuel : Nat) (K : AV → Hp → Prop) (t0 : AV) : AV → Hp → Prop := fun t3 h =>
vGtr t3 (.int .i64 64) h fun t20 h =>
vIf t20 (
K (.bool .false) h) (
(fun (e1 : Hp → Prop) =>
s_lagoonref4_MayL2 cf fuel K (s_lagoonref4_MayE1 cf fuel K) t0 t3 fuel (.int .i64 0) h) (s_lagoonref4_MayE1 cf fuel K))
noncomputable def s_lagoonref4_MayL10B (cf : CallK) (fuel : Nat) (e0 : AV → Hp → Prop) (t0 : AV) (ih10 : AV → Hp → Prop) : AV → Hp → Prop := fun t3 h =>
vGtr t3 (.int .i64 0) h fun t8 h =>
joinG (fun g18 => grdV t8 true (vMov t0 h g18) (g18 undefV h)) fun t10 h =>
joinG (fun g17 => grdV t8 true (vMov t3 h g17) (g17 undefV h)) fun t11 h =>
joinG (fun g16 => grdV t8 true (vArith Go.Am.subI t11 (.int .i64 1) h g16) (g16 undefV h)) fun t12 h =>
joinG (fun g15 => grdV t8 true (vIaddr 1 t10 t12 h g15) (g15 undefV h)) fun t13 h =>
joinG (fun g14 => grdV t8 true (vLoad2 t13 h g14) (g14 undefV h)) fun t14 h =>
joinG (fun g13 => grdV t8 true (vEql t14 (.int .i64 0) h g13) (g13 undefV h)) fun t15 h =>
vPick t8 t15 (.bool .false) h fun t16 h =>
vIf t16 (
(fun (e11 : AV → Hp → Prop) =>
vArith Go.Am.subI t3 (.int .i64 1) h fun t18 h =>
e11 t18 h) fun t3_12 h =>
ih10 t3_12 h) (
e0 t3 h)
noncomputable def s_lagoonref4_MayL10 (cf : CallK) (fuel : Nat) (e0 : AV → Hp → Prop) (t0 : AV) (m : Nat) : AV → Hp → Prop := Nat.rec (motive := fun _ => AV → Hp → Prop) (fun _ _ => False) (fun _ ih => s_lagoonref4_MayL10B cf fuel e0 t0 ih) m
theorem s_lagoonref4_MayL10_succ (cf : CallK) (fuel : Nat) (e0 : AV → Hp → Prop) (t0 : AV) (m : Nat) : s_lagoonref4_MayL10 cf fuel e0 t0 (m + 1) = s_lagoonref4_MayL10B cf fuel e0 t0 (s_lagoonref4_MayL10 cf fuel e0 t0 m) := rfl
noncomputable def s_lagoonref4_May (cf : CallK) (fuel : Nat) (t0 : AV) (h : Hp) (K : AV → Hp → Prop) : Prop :=
vLenL2 t0 h fun t6 h =>
(fun (e0 : AV → Hp → Prop) =>
s_lagoonref4_MayL10 cf fuel (s_lagoonref4_MayE0 cf fuel K t0) t0 fuel t6 h) (s_lagoonref4_MayE0 cf fuel K t0)
theorem s_lagoonref4_May_eq (cf : CallK) (fuel : Nat) (t0 : AV) (h : Hp) (K : AV → Hp → Prop) : s_lagoonref4_May cf fuel t0 h K = deepT (tabOf Try.prog) f_lagoonref4_May cf fuel [t0] h K :=
  Eq.trans (by kernel_rfl) (rFun (by kernel_rfl) (rSeq (by kernel_rfl) (rSeq (by kernel_rfl) (rSeq (by kernel_rfl) (rSeq (by kernel_rfl) (rSeq (by kernel_rfl) rExact (rSeq (by kernel_rfl) (rBlock (by kernel_rfl) (rLoop (by kernel_rfl) (fun m2 fr h => s_lagoonref4_MayL2 cf fuel K (s_lagoonref4_MayE1 cf fuel K) (getS fr (gpos 0)) (getS fr (gpos 3)) m2 (getS fr (gpos 4)) h) (funext fun fr => funext fun h => by kernel_rfl) fun m2 => rCast (funext fun fr => funext fun h => by kernel_rfl) rExact)) rExact)) rExact) (rBlock (by kernel_rfl) (rLoop (by kernel_rfl) (fun m10 fr h => s_lagoonref4_MayL10 cf fuel (s_lagoonref4_MayE0 cf fuel K (getS fr (gpos 0))) (getS fr (gpos 0)) m10 (getS fr (gpos 3)) h) (funext fun fr => funext fun h => by kernel_rfl) fun m10 => rCast (funext fun fr => funext fun h => by kernel_rfl) rExact))) rExact) rExact))

noncomputable def s_int_stringslite_IndexByte (cf : CallK) (fuel : Nat) (t0 : AV) (t1 : AV) (h : Hp) (K : AV → Hp → Prop) : Prop :=
vIdxB t0 t1 h fun t7 h =>
K t7 h
theorem s_int_stringslite_IndexByte_eq (cf : CallK) (fuel : Nat) (t0 : AV) (t1 : AV) (h : Hp) (K : AV → Hp → Prop) : s_int_stringslite_IndexByte cf fuel t0 t1 h K = deepT (tabOf Try.prog) f_int_stringslite_IndexByte cf fuel [t0, t1] h K :=
  Eq.trans (by kernel_rfl) (rFun (by kernel_rfl) rExact)

noncomputable def s_strings_IndexByte (cf : CallK) (fuel : Nat) (t0 : AV) (t1 : AV) (h : Hp) (K : AV → Hp → Prop) : Prop :=
cf f_int_stringslite_IndexByte [t0, t1] h fun t7 h =>
K t7 h
theorem s_strings_IndexByte_eq (cf : CallK) (fuel : Nat) (t0 : AV) (t1 : AV) (h : Hp) (K : AV → Hp → Prop) : s_strings_IndexByte cf fuel t0 t1 h K = deepT (tabOf Try.prog) f_strings_IndexByte cf fuel [t0, t1] h K :=
  Eq.trans (by kernel_rfl) (rFun (by kernel_rfl) rExact)

noncomputable def s_unicode_utf8_ValidRune (cf : CallK) (fuel : Nat) (t0 : AV) (h : Hp) (K : AV → Hp → Prop) : Prop :=
(fun (e0 : Hp → Prop) =>
vLeq (.int .i32 0) t0 h fun t5 h =>
joinG (fun g4 => grdV t5 true (vMov t0 h g4) (g4 undefV h)) fun t7 h =>
joinG (fun g3 => grdV t5 true (vLss t7 (.int .i32 55296) h g3) (g3 undefV h)) fun t8 h =>
vPick t5 t8 (.bool .false) h fun t9 h =>
vIf t9 (
K (.bool .true) h) (
vLss (.int .i32 57343) t0 h fun t12 h =>
joinG (fun g2 => grdV t12 true (vMov t0 h g2) (g2 undefV h)) fun t14 h =>
joinG (fun g1 => grdV t12 true (vLeq t14 (.int .i32 1114111) h g1) (g1 undefV h)) fun t15 h =>
vPick t12 t15 (.bool .false) h fun t16 h =>
vIf t16 (
K (.bool .true) h) (
e0 h))) fun h =>
K (.bool .false) h
theorem s_unicode_utf8_ValidRune_eq (cf : CallK) (fuel : Nat) (t0 : AV) (h : Hp) (K : AV → Hp → Prop) : s_unicode_utf8_ValidRune cf fuel t0 h K = deepT (tabOf Try.prog) f_unicode_utf8_ValidRune cf fuel [t0] h K :=
  Eq.trans (by kernel_rfl) (rFun (by kernel_rfl) rExact)

noncomputable def s_strings_IndexRuneE0 (cf : CallK) (fuel : Nat) (K : AV → Hp → Prop) : Hp → Prop := fun h =>
K undefV h
noncomputable def s_strings_IndexRuneE1 (cf : CallK) (fuel : Nat) (K : AV → Hp → Prop) : Hp → Prop := fun h =>
K (.int .i64 (-1)) h
noncomputable def s_strings_IndexRuneL2B (cf : CallK) (fuel : Nat) (K : AV → Hp → Prop) (e1 : Hp → Prop) (t175 : AV) (ih2 : Hp → Prop) : Hp → Prop := fun h =>
vNextS t175 h fun t176 h =>
vExtract 0 t176 h fun t177 h =>
vIf t177 (
(fun (e3 : Hp → Prop) =>
vExtract 1 t176 h fun t178 h =>
vExtract 2 t176 h fun t179 h =>
vEql t179 (.int .i32 65533) h fun t181 h =>
vIf t181 (
K t178 h) (
e3 h)) fun h =>
ih2 h) (
e1 h)
noncomputable def s_strings_IndexRuneL2 (cf : CallK) (fuel : Nat) (K : AV → Hp → Prop) (e1 : Hp → Prop) (t175 : AV) (m : Nat) : Hp → Prop := Nat.rec (motive := fun _ => Hp → Prop) (fun _ => False) (fun _ ih => s_strings_IndexRuneL2B cf fuel K e1 t175 ih) m
theorem s_strings_IndexRuneL2_succ (cf : CallK) (fuel : Nat) (K : AV → Hp → Prop) (e1 : Hp → Prop) (t175 : AV) (m : Nat) : s_strings_IndexRuneL2 cf fuel K e1 t175 (m + 1) = s_strings_IndexRuneL2B cf fuel K e1 t175 (s_strings_IndexRuneL2 cf fuel K e1 t175 m) := rfl
noncomputable def s_strings_IndexRuneE4 (cf : CallK) (fuel : Nat) (K : AV → Hp → Prop) : Hp → Prop := fun h =>
K (.int .i64 (-1)) h
noncomputable def s_strings_IndexRuneE6 (cf : CallK) (fuel : Nat) (ih5 : AV → Hp → Prop) (t0 : AV) (t7 : AV) (t8 : AV) : AV → Hp → Prop := fun t9 h =>
ih5 t9 h
noncomputable def s_strings_IndexRuneE9 (cf : CallK) (fuel : Nat) (K : AV → Hp → Prop) (t8 : AV) (t9 : AV) : Hp → Prop := fun h =>
vArith Go.Am.subI t9 t8 h fun t67 h =>
K t67 h
noncomputable def s_strings_IndexRuneL10B (cf : CallK) (fuel : Nat) (e9 : Hp → Prop) (t0 : AV) (t7 : AV) (t8 : AV) (t9 : AV) (ih10 : AV → Hp → Prop) : AV → Hp → Prop := fun t12 h =>
vLenS t7 h fun t50 h =>
vLss t12 t50 h fun t51 h =>
vIf t51 (
(fun (e11 : Hp → Prop) =>
vArith Go.Am.subI t9 t12 h fun t57 h =>
vIdxS t0 t57 h fun t58 h =>
vArith Go.Am.subI t8 t12 h fun t62 h =>
vIdxS t7 t62 h fun t63 h =>
vNeq t58 t63 h fun t64 h =>
vIf t64 (
False) (
e11 h)) fun h =>
vAdd t12 (.int .i64 1) h fun t53 h =>
ih10 t53 h) (
e9 h)
noncomputable def s_strings_IndexRuneL10 (cf : CallK) (fuel : Nat) (e9 : Hp → Prop) (t0 : AV) (t7 : AV) (t8 : AV) (t9 : AV) (m : Nat) : AV → Hp → Prop := Nat.rec (motive := fun _ => AV → Hp → Prop) (fun _ _ => False) (fun _ ih => s_strings_IndexRuneL10B cf fuel e9 t0 t7 t8 t9 ih) m
theorem s_strings_IndexRuneL10_succ (cf : CallK) (fuel : Nat) (e9 : Hp → Prop) (t0 : AV) (t7 : AV) (t8 : AV) (t9 : AV) (m : Nat) : s_strings_IndexRuneL10 cf fuel e9 t0 t7 t8 t9 (m + 1) = s_strings_IndexRuneL10B cf fuel e9 t0 t7 t8 t9 (s_strings_IndexRuneL10 cf fuel e9 t0 t7 t8 t9 m) := rfl
noncomputable def s_strings_IndexRuneB12 (cf : CallK) (fuel : Nat) (K : AV → Hp → Prop) (ih5 : AV → Hp → Prop) (t0 : AV) (t9 : AV) (t7 : AV) (t8 : AV) (h : Hp) : Prop :=
(fun (e6 : AV → Hp → Prop) =>
(fun (j7 : AV → Hp → Prop) =>
vIdxS t0 t9 h fun t29 h =>
vIdxS t7 t8 h fun t32 h =>
vNeq t29 t32 h fun t33 h =>
vIf t33 (
vAdd t9 (.int .i64 1) h fun t36 h =>
vSliceS t0 (some t36) none h fun t37 h =>
vIdxS t7 t8 h fun t40 h =>
cf f_strings_IndexByte [t37, t40] h fun t41 h =>
vLss t41 (.int .i64 0) h fun t43 h =>
vIf t43 (
K (.int .i64 (-1)) h) (
vAdd t41 (.int .i64 1) h fun t46 h =>
vAdd t9 t46 h fun t47 h =>
j7 t47 h)) (
j7 t9 h)) fun t9_8 h =>
(fun (e9 : Hp → Prop) =>
s_strings_IndexRuneL10 cf fuel (s_strings_IndexRuneE9 cf fuel K t8 t9_8) t0 t7 t8 t9_8 fuel (.int .i64 1) h) (s_strings_IndexRuneE9 cf fuel K t8 t9_8)) (s_strings_IndexRuneE6 cf fuel ih5 t0 t7 t8)
noncomputable def s_strings_IndexRuneL5B (cf : CallK) (fuel : Nat) (K : AV → Hp → Prop) (e4 : Hp → Prop) (t0 : AV) (t7 : AV) (t8 : AV) (ih5 : AV → Hp → Prop) : AV → Hp → Prop := fun t9 h =>
vLenS t0 h fun t25 h =>
vLss t9 t25 h fun t26 h =>
vIf t26 (
s_strings_IndexRuneB12 cf fuel K ih5 t0 t9 t7 t8 h) (
e4 h)
noncomputable def s_strings_IndexRuneL5 (cf : CallK) (fuel : Nat) (K : AV → Hp → Prop) (e4 : Hp → Prop) (t0 : AV) (t7 : AV) (t8 : AV) (m : Nat) : AV → Hp → Prop := Nat.rec (motive := fun _ => AV → Hp → Prop) (fun _ _ => False) (fun _ ih => s_strings_IndexRuneL5B cf fuel K e4 t0 t7 t8 ih) m
theorem s_strings_IndexRuneL5_succ (cf : CallK) (fuel : Nat) (K : AV → Hp → Prop) (e4 : Hp → Prop) (t0 : AV) (t7 : AV) (t8 : AV) (m : Nat) : s_strings_IndexRuneL5 cf fuel K e4 t0 t7 t8 (m + 1) = s_strings_IndexRuneL5B cf fuel K e4 t0 t7 t8 (s_strings_IndexRuneL5 cf fuel K e4 t0 t7 t8 m) := rfl
noncomputable def s_strings_IndexRune (cf : CallK) (fuel : Nat) (t0 : AV) (t1 : AV) (h : Hp) (K : AV → Hp → Prop) : Prop :=
(fun (e0 : Hp → Prop) =>
vLeq (.int .i32 0) t1 h fun t162 h =>
joinG (fun g14 => grdV t162 true (vMov t1 h g14) (g14 undefV h)) fun t164 h =>
joinG (fun g13 => grdV t162 true (vLss t164 (.int .i32 128) h g13) (g13 undefV h)) fun t165 h =>
vPick t162 t165 (.bool .false) h fun t166 h =>
vIf t166 (
vToInt .u8 t1 h fun t169 h =>
cf f_strings_IndexByte [t0, t169] h fun t170 h =>
K t170 h) (
vEql t1 (.int .i32 65533) h fun t173 h =>
vIf t173 (
vRangeS t0 h fun t175 h =>
(fun (e1 : Hp → Prop) =>
s_strings_IndexRuneL2 cf fuel K (s_strings_IndexRuneE1 cf fuel K) t175 fuel h) (s_strings_IndexRuneE1 cf fuel K)) (
cf f_unicode_utf8_ValidRune [t1] h fun t185 h =>
vNot t185 h fun t186 h =>
vIf t186 (
K (.int .i64 (-1)) h) (
vRuneS t1 h fun t18 h =>
vLenS t18 h fun t20 h =>
vArith Go.Am.subI t20 (.int .i64 1) h fun t21 h =>
(fun (e4 : Hp → Prop) =>
s_strings_IndexRuneL5 cf fuel K (s_strings_IndexRuneE4 cf fuel K) t0 t18 t21 fuel t21 h) (s_strings_IndexRuneE4 cf fuel K))))) (s_strings_IndexRuneE0 cf fuel K)
theorem s_strings_IndexRune_eq (cf : CallK) (fuel : Nat) (t0 : AV) (t1 : AV) (h : Hp) (K : AV → Hp → Prop) : s_strings_IndexRune cf fuel t0 t1 h K = deepT (tabOf Try.prog) f_strings_IndexRune cf fuel [t0, t1] h K :=
  Eq.trans (by kernel_rfl) (rFun (by kernel_rfl) (rSeq (by kernel_rfl) (rBlock (by kernel_rfl) (rSeq (by kernel_rfl) (rCond (by kernel_rfl) rExact (rSeq (by kernel_rfl) (rCond (by kernel_rfl) (rSeq (by kernel_rfl) rExact (rSeq (by kernel_rfl) (rBlock (by kernel_rfl) (rLoop (by kernel_rfl) (fun m2 fr h => s_strings_IndexRuneL2 cf fuel K (s_strings_IndexRuneE1 cf fuel K) (getS fr (gpos 175)) m2 h) (funext fun fr => funext fun h => by kernel_rfl) fun m2 => rCast (funext fun fr => funext fun h => by kernel_rfl) rExact)) rExact)) (rSeq (by kernel_rfl) (rCond (by kernel_rfl) rExact (rScope (by kernel_rfl) (rSeq (by kernel_rfl) (rSeq (by kernel_rfl) (rSeq (by kernel_rfl) (rSeq (by kernel_rfl) (rSeq (by kernel_rfl) (rSeq (by kernel_rfl) (rSeq (by kernel_rfl) (rSeq (by kernel_rfl) rExact (rCond (by kernel_rfl) rExact (rScope (by kernel_rfl) (rSeq (by kernel_rfl) (rSeq (by kernel_rfl) (rSeq (by kernel_rfl) (rBlock (by kernel_rfl) rExact) rExact) rExact) rExact)))) rExact) rExact) (rBlock (by kernel_rfl) (rLoop (by kernel_rfl) (fun m5 fr h => s_strings_IndexRuneL5 cf fuel K (s_strings_IndexRuneE4 cf fuel K) (getS fr (gpos 0)) (getS fr (gpos 7)) (getS fr (gpos 8)) m5 (getS fr (gpos 9)) h) (funext fun fr => funext fun h => by kernel_rfl) fun m5 => rCast (funext fun fr => funext fun h => by kernel_rfl) (rSeq (by kernel_rfl) (rBlock (by kernel_rfl) (rScope (by kernel_rfl) (rSeq (by kernel_rfl) (rSeq (by kernel_rfl) rExact (rSeq (by kernel_rfl) (rBlock (by kernel_rfl) (rLoop (by kernel_rfl) (fun m10 fr h => s_strings_IndexRuneL10 cf fuel (s_strings_IndexRuneE9 cf fuel K (getS fr (gpos 8)) (getS fr (gpos 9))) (getS fr (gpos 0)) (getS fr (gpos 7)) (getS fr (gpos 8)) (getS fr (gpos 9)) m10 (getS fr (gpos 12)) h) (funext fun fr => funext fun h => by kernel_rfl) fun m10 => rCast (funext fun fr => funext fun h => by kernel_rfl) rExact)) rExact)) rExact))) rExact)))) rExact) rExact) rExact) rExact))) rExact)) rExact)) rExact)) rExact))

noncomputable def s_strings_shouldUseASCIISet (cf : CallK) (fuel : Nat) (t0 : AV) (h : Hp) (K : AV → Hp → Prop) : Prop :=
vGtr t0 (.int .i64 8) h fun t4 h =>
K t4 h
theorem s_strings_shouldUseASCIISet_eq (cf : CallK) (fuel : Nat) (t0 : AV) (h : Hp) (K : AV → Hp → Prop) : s_strings_shouldUseASCIISet cf fuel t0 h K = deepT (tabOf Try.prog) f_strings_shouldUseASCIISet cf fuel [t0] h K :=
  Eq.trans (by kernel_rfl) (rFun (by kernel_rfl) rExact)

noncomputable def s_strings_asciiSet_contains (cf : CallK) (fuel : Nat) (t0 : AV) (t1 : AV) (h : Hp) (K : AV → Hp → Prop) : Prop :=
vNilck t0 h fun t7 h =>
vIaddrA 1 256 t7 t1 h fun t8 h =>
vLoad2 t8 h fun t9 h =>
K t9 h
theorem s_strings_asciiSet_contains_eq (cf : CallK) (fuel : Nat) (t0 : AV) (t1 : AV) (h : Hp) (K : AV → Hp → Prop) : s_strings_asciiSet_contains cf fuel t0 t1 h K = deepT (tabOf Try.prog) f_strings_asciiSet_contains cf fuel [t0, t1] h K :=
  Eq.trans (by kernel_rfl) (rFun (by kernel_rfl) rExact)

noncomputable def s_strings_IndexAnyE2 (cf : CallK) (fuel : Nat) (K : AV → Hp → Prop) : Hp → Prop := fun h =>
K (.int .i64 (-1)) h
noncomputable def s_strings_IndexAnyL3B (cf : CallK) (fuel : Nat) (K : AV → Hp → Prop) (e2 : Hp → Prop) (t1 : AV) (t45 : AV) (ih3 : Hp → Prop) : Hp → Prop := fun h =>
vNextS t45 h fun t46 h =>
vExtract 0 t46 h fun t47 h =>
vIf t47 (
(fun (e4 : Hp → Prop) =>
vExtract 1 t46 h fun t48 h =>
vExtract 2 t46 h fun t49 h =>
cf f_strings_IndexRune [t1, t49] h fun t52 h =>
vGeq t52 (.int .i64 0) h fun t53 h =>
vIf t53 (
K t48 h) (
e4 h)) fun h =>
ih3 h) (
e2 h)
noncomputable def s_strings_IndexAnyL3 (cf : CallK) (fuel : Nat) (K : AV → Hp → Prop) (e2 : Hp → Prop) (t1 : AV) (t45 : AV) (m : Nat) : Hp → Prop := Nat.rec (motive := fun _ => Hp → Prop) (fun _ => False) (fun _ ih => s_strings_IndexAnyL3B cf fuel K e2 t1 t45 ih) m
theorem s_strings_IndexAnyL3_succ (cf : CallK) (fuel : Nat) (K : AV → Hp → Prop) (e2 : Hp → Prop) (t1 : AV) (t45 : AV) (m : Nat) : s_strings_IndexAnyL3 cf fuel K e2 t1 t45 (m + 1) = s_strings_IndexAnyL3B cf fuel K e2 t1 t45 (s_strings_IndexAnyL3 cf fuel K e2 t1 t45 m) := rfl
noncomputable def s_strings_IndexAnyJ1 (cf : CallK) (fuel : Nat) (K : AV → Hp → Prop) (t0 : AV) (t1 : AV) : Hp → Prop := fun h =>
vRangeS t0 h fun t45 h =>
(fun (e2 : Hp → Prop) =>
s_strings_IndexAnyL3 cf fuel K (s_strings_IndexAnyE2 cf fuel K) t1 t45 fuel h) (s_strings_IndexAnyE2 cf fuel K)
noncomputable def s_strings_IndexAnyE5 (cf : CallK) (fuel : Nat) (K : AV → Hp → Prop) : Hp → Prop := fun h =>
K (.int .i64 (-1)) h
noncomputable def s_strings_IndexAnyL6B (cf : CallK) (fuel : Nat) (K : AV → Hp → Prop) (e5 : Hp → Prop) (t0 : AV) (t6 : AV) (ih6 : AV → Hp → Prop) : AV → Hp → Prop := fun t8 h =>
vLenS t0 h fun t35 h =>
vLss t8 t35 h fun t36 h =>
vIf t36 (
(fun (e7 : Hp → Prop) =>
vIdxS t0 t8 h fun t41 h =>
cf f_strings_asciiSet_contains [t6, t41] h fun t42 h =>
vIf t42 (
K t8 h) (
e7 h)) fun h =>
vAdd t8 (.int .i64 1) h fun t38 h =>
ih6 t38 h) (
e5 h)
noncomputable def s_strings_IndexAnyL6 (cf : CallK) (fuel : Nat) (K : AV → Hp → Prop) (e5 : Hp → Prop) (t0 : AV) (t6 : AV) (m : Nat) : AV → Hp → Prop := Nat.rec (motive := fun _ => AV → Hp → Prop) (fun _ _ => False) (fun _ ih => s_strings_IndexAnyL6B cf fuel K e5 t0 t6 ih) m
theorem s_strings_IndexAnyL6_succ (cf : CallK) (fuel : Nat) (K : AV → Hp → Prop) (e5 : Hp → Prop) (t0 : AV) (t6 : AV) (m : Nat) : s_strings_IndexAnyL6 cf fuel K e5 t0 t6 (m + 1) = s_strings_IndexAnyL6B cf fuel K e5 t0 t6 (s_strings_IndexAnyL6 cf fuel K e5 t0 t6 m) := rfl
noncomputable def s_strings_IndexAnyB8 (cf : CallK) (fuel : Nat) (K : AV → Hp → Prop) (t1 : AV) (t0 : AV) (h : Hp) : Prop :=
vLenS t1 h fun t14 h =>
vEql t14 (.int .i64 1) h fun t15 h =>
vIf t15 (
vIdxS t1 (.int .i64 0) h fun t17 h =>
vToInt .i32 t17 h fun t18 h =>
(fun (j0 : AV → Hp → Prop) =>
vGeq t18 (.int .i32 128) h fun t20 h =>
vIf t20 (
j0 (.int .i32 65533) h) (
j0 t18 h)) fun t5 h =>
cf f_strings_IndexRune [t0, t5] h fun t23 h =>
K t23 h) (
(fun (j1 : Hp → Prop) =>
vLenS t0 h fun t25 h =>
cf f_strings_shouldUseASCIISet [t25] h fun t26 h =>
vIf t26 (
cf f_strings_makeASCIISet [t1] h fun t29 h =>
vExtract 0 t29 h fun t30 h =>
vExtract 1 t29 h fun t31 h =>
vBox 256 (.agg (List.replicate 256 (.bool .false))) h fun t6 h =>
vStore 256 t6 t30 h fun _ h =>
vIf t31 (
(fun (e5 : Hp → Prop) =>
s_strings_IndexAnyL6 cf fuel K (s_strings_IndexAnyE5 cf fuel K) t0 t6 fuel (.int .i64 0) h) (s_strings_IndexAnyE5 cf fuel K)) (
j1 h)) (
j1 h)) (s_strings_IndexAnyJ1 cf fuel K t0 t1))
noncomputable def s_strings_IndexAny (cf : CallK) (fuel : Nat) (t0 : AV) (t1 : AV) (h : Hp) (K : AV → Hp → Prop) : Prop :=
vEql t1 (.str 0 0) h fun t12 h =>
vIf t12 (
K (.int .i64 (-1)) h) (
s_strings_IndexAnyB8 cf fuel K t1 t0 h)
theorem s_strings_IndexAny_eq (cf : CallK) (fuel : Nat) (t0 : AV) (t1 : AV) (h : Hp) (K : AV → Hp → Prop) : s_strings_IndexAny cf fuel t0 t1 h K = deepT (tabOf Try.prog) f_strings_IndexAny cf fuel [t0, t1] h K :=
  Eq.trans (by kernel_rfl) (rFun (by kernel_rfl) (rSeq (by kernel_rfl) (rSeq (by kernel_rfl) (rSeq (by kernel_rfl) (rSeq (by kernel_rfl) (rSeq (by kernel_rfl) rExact (rSeq (by kernel_rfl) (rBlock (by kernel_rfl) (rLoop (by kernel_rfl) (fun m3 fr h => s_strings_IndexAnyL3 cf fuel K (s_strings_IndexAnyE2 cf fuel K) (getS fr (gpos 1)) (getS fr (gpos 45)) m3 h) (funext fun fr => funext fun h => by kernel_rfl) fun m3 => rCast (funext fun fr => funext fun h => by kernel_rfl) rExact)) rExact)) (rSeq (by kernel_rfl) (rCond (by kernel_rfl) (rSeq (by kernel_rfl) (rSeq (by kernel_rfl) (rCond (by kernel_rfl) (rSeq (by kernel_rfl) rExact (rSeq (by kernel_rfl) (rBlock (by kernel_rfl) (rLoop (by kernel_rfl) (fun m6 fr h => s_strings_IndexAnyL6 cf fuel K (s_strings_IndexAnyE5 cf fuel K) (getS fr (gpos 0)) (getS fr (gpos 6)) m6 (getS fr (gpos 8)) h) (funext fun fr => funext fun h => by kernel_rfl) fun m6 => rCast (funext fun fr => funext fun h => by kernel_rfl) rExact)) rExact)) rExact) rExact) rExact) rExact) rExact)) rExact) rExact) rExact))

noncomputable def s_strings_ContainsAny (cf : CallK) (fuel : Nat) (t0 : AV) (t1 : AV) (h : Hp) (K : AV → Hp → Prop) : Prop :=
cf f_strings_IndexAny [t0, t1] h fun t7 h =>
vGeq t7 (.int .i64 0) h fun t8 h =>
K t8 h
theorem s_strings_ContainsAny_eq (cf : CallK) (fuel : Nat) (t0 : AV) (t1 : AV) (h : Hp) (K : AV → Hp → Prop) : s_strings_ContainsAny cf fuel t0 t1 h K = deepT (tabOf Try.prog) f_strings_ContainsAny cf fuel [t0, t1] h K :=
  Eq.trans (by kernel_rfl) (rFun (by kernel_rfl) rExact)

noncomputable def s_lagoonref12_LocalE0 (cf : CallK) (fuel : Nat) (K : AV → Hp → Prop) (t0 : AV) : Hp → Prop := fun h =>
vLenS t0 h fun t31 h =>
vGtr t31 (.int .i64 64) h fun t32 h =>
vIf t32 (
K (.int .i64 36) h) (
K (.int .i64 0) h)
noncomputable def s_lagoonref12_LocalL1B (cf : CallK) (fuel : Nat) (K : AV → Hp → Prop) (e0 : Hp → Prop) (t0 : AV) (ih1 : AV → Hp → Prop) : AV → Hp → Prop := fun t3 h =>
vLenS t0 h fun t16 h =>
vLss t3 t16 h fun t17 h =>
vIf t17 (
(fun (e2 : Hp → Prop) =>
vIdxS t0 t3 h fun t22 h =>
vEql t22 (.int .u8 0) h fun t23 h =>
joinG (fun g6 => grdV t23 false (vMov t0 h g6) (g6 undefV h)) fun t25 h =>
joinG (fun g5 => grdV t23 false (vMov t3 h g5) (g5 undefV h)) fun t26 h =>
joinG (fun g4 => grdV t23 false (vIdxS t25 t26 h g4) (g4 undefV h)) fun t27 h =>
joinG (fun g3 => grdV t23 false (vEql t27 (.int .u8 47) h g3) (g3 undefV h)) fun t28 h =>
vPick t23 (.bool .true) t28 h fun t29 h =>
vIf t29 (
K (.int .i64 22) h) (
e2 h)) fun h =>
vAdd t3 (.int .i64 1) h fun t19 h =>
ih1 t19 h) (
e0 h)
noncomputable def s_lagoonref12_LocalL1 (cf : CallK) (fuel : Nat) (K : AV → Hp → Prop) (e0 : Hp → Prop) (t0 : AV) (m : Nat) : AV → Hp → Prop := Nat.rec (motive := fun _ => AV → Hp → Prop) (fun _ _ => False) (fun _ ih => s_lagoonref12_LocalL1B cf fuel K e0 t0 ih) m
theorem s_lagoonref12_LocalL1_succ (cf : CallK) (fuel : Nat) (K : AV → Hp → Prop) (e0 : Hp → Prop) (t0 : AV) (m : Nat) : s_lagoonref12_LocalL1 cf fuel K e0 t0 (m + 1) = s_lagoonref12_LocalL1B cf fuel K e0 t0 (s_lagoonref12_LocalL1 cf fuel K e0 t0 m) := rfl
noncomputable def s_lagoonref12_Local (cf : CallK) (fuel : Nat) (t0 : AV) (h : Hp) (K : AV → Hp → Prop) : Prop :=
vEql t0 (.str 0 0) h fun t5 h =>
joinG (fun g10 => grdV t5 false (vMov t0 h g10) (g10 undefV h)) fun t7 h =>
joinG (fun g9 => grdV t5 false (vEql t7 (.str 1 46) h g9) (g9 undefV h)) fun t8 h =>
vPick t5 (.bool .true) t8 h fun t9 h =>
joinG (fun g8 => grdV t9 false (vMov t0 h g8) (g8 undefV h)) fun t11 h =>
joinG (fun g7 => grdV t9 false (vEql t11 (.str 2 11822) h g7) (g7 undefV h)) fun t12 h =>
vPick t9 (.bool .true) t12 h fun t13 h =>
vIf t13 (
K (.int .i64 22) h) (
(fun (e0 : Hp → Prop) =>
s_lagoonref12_LocalL1 cf fuel K (s_lagoonref12_LocalE0 cf fuel K t0) t0 fuel (.int .i64 0) h) (s_lagoonref12_LocalE0 cf fuel K t0))
theorem s_lagoonref12_Local_eq (cf : CallK) (fuel : Nat) (t0 : AV) (h : Hp) (K : AV → Hp → Prop) : s_lagoonref12_Local cf fuel t0 h K = deepT (tabOf Try.prog) f_lagoonref12_Local cf fuel [t0] h K :=
  Eq.trans (by kernel_rfl) (rFun (by kernel_rfl) (rSeq (by kernel_rfl) (rSeq (by kernel_rfl) (rSeq (by kernel_rfl) rExact (rSeq (by kernel_rfl) (rBlock (by kernel_rfl) (rLoop (by kernel_rfl) (fun m1 fr h => s_lagoonref12_LocalL1 cf fuel K (s_lagoonref12_LocalE0 cf fuel K (getS fr (gpos 0))) (getS fr (gpos 0)) m1 (getS fr (gpos 3)) h) (funext fun fr => funext fun h => by kernel_rfl) fun m1 => rCast (funext fun fr => funext fun h => by kernel_rfl) rExact)) rExact)) rExact) rExact))

noncomputable def s_lagoonref12_NameE0 (cf : CallK) (fuel : Nat) (K : AV → Hp → Prop) (t0 : AV) : Hp → Prop := fun h =>
cf f_lagoonref12_Local [t0] h fun t15 h =>
K t15 h
noncomputable def s_lagoonref12_NameL1B (cf : CallK) (fuel : Nat) (K : AV → Hp → Prop) (e0 : Hp → Prop) (t0 : AV) (ih1 : AV → Hp → Prop) : AV → Hp → Prop := fun t3 h =>
vLenS t0 h fun t6 h =>
vLss t3 t6 h fun t7 h =>
vIf t7 (
(fun (e2 : Hp → Prop) =>
vIdxS t0 t3 h fun t12 h =>
vEql t12 (.int .u8 1) h fun t13 h =>
vIf t13 (
K (.int .i64 22) h) (
e2 h)) fun h =>
vAdd t3 (.int .i64 1) h fun t9 h =>
ih1 t9 h) (
e0 h)
noncomputable def s_lagoonref12_NameL1 (cf : CallK) (fuel : Nat) (K : AV → Hp → Prop) (e0 : Hp → Prop) (t0 : AV) (m : Nat) : AV → Hp → Prop := Nat.rec (motive := fun _ => AV → Hp → Prop) (fun _ _ => False) (fun _ ih => s_lagoonref12_NameL1B cf fuel K e0 t0 ih) m
theorem s_lagoonref12_NameL1_succ (cf : CallK) (fuel : Nat) (K : AV → Hp → Prop) (e0 : Hp → Prop) (t0 : AV) (m : Nat) : s_lagoonref12_NameL1 cf fuel K e0 t0 (m + 1) = s_lagoonref12_NameL1B cf fuel K e0 t0 (s_lagoonref12_NameL1 cf fuel K e0 t0 m) := rfl
noncomputable def s_lagoonref12_Name (cf : CallK) (fuel : Nat) (t0 : AV) (h : Hp) (K : AV → Hp → Prop) : Prop :=
(fun (e0 : Hp → Prop) =>
s_lagoonref12_NameL1 cf fuel K (s_lagoonref12_NameE0 cf fuel K t0) t0 fuel (.int .i64 0) h) (s_lagoonref12_NameE0 cf fuel K t0)
theorem s_lagoonref12_Name_eq (cf : CallK) (fuel : Nat) (t0 : AV) (h : Hp) (K : AV → Hp → Prop) : s_lagoonref12_Name cf fuel t0 h K = deepT (tabOf Try.prog) f_lagoonref12_Name cf fuel [t0] h K :=
  Eq.trans (by kernel_rfl) (rFun (by kernel_rfl) (rSeq (by kernel_rfl) (rSeq (by kernel_rfl) rExact (rSeq (by kernel_rfl) (rBlock (by kernel_rfl) (rLoop (by kernel_rfl) (fun m1 fr h => s_lagoonref12_NameL1 cf fuel K (s_lagoonref12_NameE0 cf fuel K (getS fr (gpos 0))) (getS fr (gpos 0)) m1 (getS fr (gpos 3)) h) (funext fun fr => funext fun h => by kernel_rfl) fun m1 => rCast (funext fun fr => funext fun h => by kernel_rfl) rExact)) rExact)) rExact))

noncomputable def s_ops_Name (cf : CallK) (fuel : Nat) (t0 : AV) (h : Hp) (K : AV → Hp → Prop) : Prop :=
(fun (e0 : Hp → Prop) =>
vEql t0 (.str 0 0) h fun t5 h =>
joinG (fun g6 => grdV t5 false (vMov t0 h g6) (g6 undefV h)) fun t7 h =>
joinG (fun g5 => grdV t5 false (vEql t7 (.str 1 46) h g5) (g5 undefV h)) fun t8 h =>
vPick t5 (.bool .true) t8 h fun t9 h =>
joinG (fun g4 => grdV t9 false (vMov t0 h g4) (g4 undefV h)) fun t11 h =>
joinG (fun g3 => grdV t9 false (vEql t11 (.str 2 11822) h g3) (g3 undefV h)) fun t12 h =>
vPick t9 (.bool .true) t12 h fun t13 h =>
joinG (fun g2 => grdV t13 false (vMov t0 h g2) (g2 undefV h)) fun t15 h =>
joinG (fun g1 => grdV t13 false (cf f_strings_ContainsAny [t15, (.str 3 3080448)] h g1) (g1 undefV h)) fun t16 h =>
vPick t13 (.bool .true) t16 h fun t17 h =>
vIf t17 (
K (.int .i64 22) h) (
vLenS t0 h fun t20 h =>
vGtr t20 (.int .i64 64) h fun t21 h =>
vIf t21 (
K (.int .i64 36) h) (
e0 h))) fun h =>
K (.int .i64 0) h
theorem s_ops_Name_eq (cf : CallK) (fuel : Nat) (t0 : AV) (h : Hp) (K : AV → Hp → Prop) : s_ops_Name cf fuel t0 h K = deepT (tabOf Try.prog) f_ops_Name cf fuel [t0] h K :=
  Eq.trans (by kernel_rfl) (rFun (by kernel_rfl) rExact)

noncomputable def s_lagoonref12_MayB53 (cf : CallK) (fuel : Nat) (K : AV → Hp → Prop) (t1 : AV) (h : Hp) : Prop :=
vFaddr 4 t1 h fun t107 h =>
vLoadA 2 t107 h fun t108 h =>
vFaddr 0 t1 h fun t109 h =>
vLoadA 2 t109 h fun t110 h =>
cf f_lagoonref12_older [t108, t110] h fun t111 h =>
joinG (fun g52 => grdV t111 true (vFaddr 6 t1 h g52) (g52 undefV h)) fun t113 h =>
joinG (fun g51 => grdV t111 true (vLoadA 2 t113 h g51) (g51 undefV h)) fun t114 h =>
joinG (fun g50 => grdV t111 true (cf f_lagoonref12_root [t114] h g50) (g50 undefV h)) fun t115 h =>
vPick t111 t115 (.bool .false) h fun t116 h =>
joinG (fun g49 => grdV t116 true (vFaddr 8 t1 h g49) (g49 undefV h)) fun t118 h =>
joinG (fun g48 => grdV t116 true (vLoad2 t118 h g48) (g48 undefV h)) fun t119 h =>
joinG (fun g47 => grdV t116 true (vEql t119 (.str 0 0) h g47) (g47 undefV h)) fun t120 h =>
vPick t116 t120 (.bool .false) h fun t121 h =>
joinG (fun g46 => grdV t121 true (vFaddr 9 t1 h g46) (g46 undefV h)) fun t123 h =>
joinG (fun g45 => grdV t121 true (vLoad2 t123 h g45) (g45 undefV h)) fun t124 h =>
joinG (fun g44 => grdV t121 true (vLenL2 t124 h g44) (g44 undefV h)) fun t125 h =>
joinG (fun g43 => grdV t121 true (vLeq t125 (.int .i64 65536) h g43) (g43 undefV h)) fun t126 h =>
vPick t121 t126 (.bool .false) h fun t127 h =>
K t127 h
noncomputable def s_lagoonref12_MayB54 (cf : CallK) (fuel : Nat) (K : AV → Hp → Prop) (t1 : AV) (h : Hp) : Prop :=
vFaddr 4 t1 h fun t71 h =>
vLoadA 2 t71 h fun t72 h =>
vFaddr 0 t1 h fun t73 h =>
vLoadA 2 t73 h fun t74 h =>
cf f_lagoonref12_older [t72, t74] h fun t75 h =>
joinG (fun g42 => grdV t75 true (vFaddr 6 t1 h g42) (g42 undefV h)) fun t77 h =>
joinG (fun g41 => grdV t75 true (vLoadA 2 t77 h g41) (g41 undefV h)) fun t78 h =>
joinG (fun g40 => grdV t75 true (cf f_lagoonref12_root [t78] h g40) (g40 undefV h)) fun t79 h =>
joinG (fun g39 => grdV t75 true (vMov t79 h g39) (g39 undefV h)) fun t80 h =>
joinG (fun g38 => grdV t80 false (vFaddr 6 t1 h g38) (g38 undefV h)) fun t81 h =>
joinG (fun g37 => grdV t80 false (vLoadA 2 t81 h g37) (g37 undefV h)) fun t82 h =>
joinG (fun g36 => grdV t80 false (cf f_lagoonref12_trash [t82] h g36) (g36 undefV h)) fun t83 h =>
joinG (fun g35 => grdV t75 true (vPick t80 (.bool .true) t83 h g35) (g35 undefV h)) fun t84 h =>
joinG (fun g34 => grdV t75 true (vMov t84 h g34) (g34 undefV h)) fun t85 h =>
joinG (fun g33 => grdV t85 false (vFaddr 6 t1 h g33) (g33 undefV h)) fun t86 h =>
joinG (fun g32 => grdV t85 false (vLoadA 2 t86 h g32) (g32 undefV h)) fun t87 h =>
joinG (fun g31 => grdV t85 false (vFaddr 0 t1 h g31) (g31 undefV h)) fun t88 h =>
joinG (fun g30 => grdV t85 false (vLoadA 2 t88 h g30) (g30 undefV h)) fun t89 h =>
joinG (fun g29 => grdV t85 false (cf f_lagoonref12_older [t87, t89] h g29) (g29 undefV h)) fun t90 h =>
joinG (fun g28 => grdV t75 true (vPick t85 (.bool .true) t90 h g28) (g28 undefV h)) fun t91 h =>
vPick t75 t91 (.bool .false) h fun t92 h =>
joinG (fun g27 => grdV t92 true (vFaddr 8 t1 h g27) (g27 undefV h)) fun t94 h =>
joinG (fun g26 => grdV t92 true (vLoad2 t94 h g26) (g26 undefV h)) fun t95 h =>
joinG (fun g25 => grdV t92 true (cf f_lagoonref12_Name [t95] h g25) (g25 undefV h)) fun t96 h =>
joinG (fun g24 => grdV t92 true (vEql t96 (.int .i64 0) h g24) (g24 undefV h)) fun t97 h =>
vPick t92 t97 (.bool .false) h fun t98 h =>
joinG (fun g23 => grdV t98 true (vFaddr 9 t1 h g23) (g23 undefV h)) fun t100 h =>
joinG (fun g22 => grdV t98 true (vLoad2 t100 h g22) (g22 undefV h)) fun t101 h =>
joinG (fun g21 => grdV t98 true (vLenL2 t101 h g21) (g21 undefV h)) fun t102 h =>
joinG (fun g20 => grdV t98 true (vEql t102 (.int .i64 0) h g20) (g20 undefV h)) fun t103 h =>
vPick t98 t103 (.bool .false) h fun t104 h =>
K t104 h
noncomputable def s_lagoonref12_MayB55 (cf : CallK) (fuel : Nat) (K : AV → Hp → Prop) (t1 : AV) (h : Hp) : Prop :=
vFaddr 4 t1 h fun t40 h =>
vLoadA 2 t40 h fun t41 h =>
vFaddr 0 t1 h fun t42 h =>
vLoadA 2 t42 h fun t43 h =>
cf f_lagoonref4_Same [t41, t43] h fun t44 h =>
joinG (fun g19 => grdV t44 true (vFaddr 6 t1 h g19) (g19 undefV h)) fun t46 h =>
joinG (fun g18 => grdV t44 true (vLoadA 2 t46 h g18) (g18 undefV h)) fun t47 h =>
joinG (fun g17 => grdV t44 true (cf f_lagoonref12_root [t47] h g17) (g17 undefV h)) fun t48 h =>
joinG (fun g16 => grdV t44 true (vMov t48 h g16) (g16 undefV h)) fun t49 h =>
joinG (fun g15 => grdV t49 false (vFaddr 6 t1 h g15) (g15 undefV h)) fun t50 h =>
joinG (fun g14 => grdV t49 false (vLoadA 2 t50 h g14) (g14 undefV h)) fun t51 h =>
joinG (fun g13 => grdV t49 false (vFaddr 0 t1 h g13) (g13 undefV h)) fun t52 h =>
joinG (fun g12 => grdV t49 false (vLoadA 2 t52 h g12) (g12 undefV h)) fun t53 h =>
joinG (fun g11 => grdV t49 false (cf f_lagoonref12_older [t51, t53] h g11) (g11 undefV h)) fun t54 h =>
joinG (fun g10 => grdV t44 true (vPick t49 (.bool .true) t54 h g10) (g10 undefV h)) fun t55 h =>
vPick t44 t55 (.bool .false) h fun t56 h =>
joinG (fun g9 => grdV t56 true (vFaddr 8 t1 h g9) (g9 undefV h)) fun t58 h =>
joinG (fun g8 => grdV t56 true (vLoad2 t58 h g8) (g8 undefV h)) fun t59 h =>
joinG (fun g7 => grdV t56 true (cf f_lagoonref12_Name [t59] h g7) (g7 undefV h)) fun t60 h =>
joinG (fun g6 => grdV t56 true (vEql t60 (.int .i64 0) h g6) (g6 undefV h)) fun t61 h =>
vPick t56 t61 (.bool .false) h fun t62 h =>
joinG (fun g5 => grdV t62 true (vFaddr 9 t1 h g5) (g5 undefV h)) fun t64 h =>
joinG (fun g4 => grdV t62 true (vLoad2 t64 h g4) (g4 undefV h)) fun t65 h =>
joinG (fun g3 => grdV t62 true (vLenL2 t65 h g3) (g3 undefV h)) fun t66 h =>
joinG (fun g2 => grdV t62 true (vEql t66 (.int .i64 0) h g2) (g2 undefV h)) fun t67 h =>
vPick t62 t67 (.bool .false) h fun t68 h =>
K t68 h
noncomputable def s_lagoonref12_MayB56 (cf : CallK) (fuel : Nat) (K : AV → Hp → Prop) (t1 : AV) (h : Hp) : Prop :=
vFaddr 3 t1 h fun t35 h =>
vLoad2 t35 h fun t36 h =>
(fun (e0 : Hp → Prop) =>
(fun (j1 : AV → Hp → Prop) =>
vEql t36 (.int .i64 1) h fun t38 h =>
vIf t38 (
j1 t38 h) (
vEql t36 (.int .i64 2) h fun t39 h =>
j1 t39 h)) fun t37 h =>
vIf t37 (
s_lagoonref12_MayB55 cf fuel K t1 h) (
vEql t36 (.int .i64 3) h fun t70 h =>
vIf t70 (
s_lagoonref12_MayB54 cf fuel K t1 h) (
vEql t36 (.int .i64 4) h fun t106 h =>
vIf t106 (
s_lagoonref12_MayB53 cf fuel K t1 h) (
e0 h)))) fun h =>
K (.bool .false) h
noncomputable def s_lagoonref12_May (cf : CallK) (fuel : Nat) (t0 : AV) (h : Hp) (K : AV → Hp → Prop) : Prop :=
vBox 11 t0 h fun t1 h =>
vFaddr 0 t1 h fun t3 h =>
vLoadA 2 t3 h fun t4 h =>
cf f_lagoonref4_Valid [t4] h fun t5 h =>
vNot t5 h fun t6 h =>
joinG (fun g77 => grdV t6 false (vFaddr 2 t1 h g77) (g77 undefV h)) fun t8 h =>
joinG (fun g76 => grdV t6 false (vLoad2 t8 h g76) (g76 undefV h)) fun t9 h =>
joinG (fun g75 => grdV t6 false (vLss t9 (.int .i64 1) h g75) (g75 undefV h)) fun t10 h =>
vPick t6 (.bool .true) t10 h fun t11 h =>
joinG (fun g74 => grdV t11 false (vFaddr 2 t1 h g74) (g74 undefV h)) fun t13 h =>
joinG (fun g73 => grdV t11 false (vLoad2 t13 h g73) (g73 undefV h)) fun t14 h =>
joinG (fun g72 => grdV t11 false (vGtr t14 (.int .i64 1152921504606846976) h g72) (g72 undefV h)) fun t15 h =>
vPick t11 (.bool .true) t15 h fun t16 h =>
joinG (fun g71 => grdV t16 false (vFaddr 10 t1 h g71) (g71 undefV h)) fun t18 h =>
joinG (fun g70 => grdV t16 false (vLoad2 t18 h g70) (g70 undefV h)) fun t19 h =>
joinG (fun g69 => grdV t16 false (cf f_lagoonref4_May [t19] h g69) (g69 undefV h)) fun t20 h =>
joinG (fun g68 => grdV t16 false (vNot t20 h g68) (g68 undefV h)) fun t21 h =>
vPick t16 (.bool .true) t21 h fun t22 h =>
joinG (fun g67 => grdV t22 false (vFaddr 10 t1 h g67) (g67 undefV h)) fun t24 h =>
joinG (fun g66 => grdV t22 false (vLoad2 t24 h g66) (g66 undefV h)) fun t25 h =>
joinG (fun g65 => grdV t22 false (vFaddr 0 t1 h g65) (g65 undefV h)) fun t26 h =>
joinG (fun g64 => grdV t22 false (vFaddr 1 t26 h g64) (g64 undefV h)) fun t27 h =>
joinG (fun g63 => grdV t22 false (vLoad2 t27 h g63) (g63 undefV h)) fun t28 h =>
joinG (fun g62 => grdV t22 false (vFaddr 2 t1 h g62) (g62 undefV h)) fun t30 h =>
joinG (fun g61 => grdV t22 false (vLoad2 t30 h g61) (g61 undefV h)) fun t31 h =>
joinG (fun g60 => grdV t22 false (vArith Go.Am.subI t31 (.int .i64 1) h g60) (g60 undefV h)) fun t32 h =>
joinG (fun g59 => grdV t22 false (cf f_lagoonref4_At [t25, t28] h g59) (g59 undefV h)) fun t29 h =>
joinP (fun g58 => grdV t22 false (vLoad2 t30 h fun c _ => gd (sameV c t31) g58) g58) (
joinG (fun g57 => grdV t22 false (vNeq t29 t32 h g57) (g57 undefV h)) fun t33 h =>
vPick t22 (.bool .true) t33 h fun t34 h =>
vIf t34 (
K (.bool .false) h) (
s_lagoonref12_MayB56 cf fuel K t1 h))
theorem s_lagoonref12_May_eq (cf : CallK) (fuel : Nat) (t0 : AV) (h : Hp) (K : AV → Hp → Prop) : s_lagoonref12_May cf fuel t0 h K = deepT (tabOf Try.prog) f_lagoonref12_May cf fuel [t0] h K :=
  Eq.trans (by kernel_rfl) (rFun (by kernel_rfl) rExact)

noncomputable def s_ops_seenE1 (cf : CallK) (fuel : Nat) (K : AV → Hp → Prop) (t1 : AV) : Hp → Prop := fun h =>
vFaddr 10 t1 h fun t40 h =>
vLoad2 t40 h fun t41 h =>
vFaddr 0 t1 h fun t42 h =>
vFaddr 1 t42 h fun t43 h =>
vLoad2 t43 h fun t44 h =>
vFaddr 2 t1 h fun t46 h =>
vLoad2 t46 h fun t47 h =>
vArith Go.Am.subI t47 (.int .i64 1) h fun t48 h =>
cf f_vector_At [t41, t44] h fun t45 h =>
vLoad2 t46 h fun c _ => gd (sameV c t47) (
vEql t45 t48 h fun t49 h =>
K t49 h)
noncomputable def s_ops_seenL2B (cf : CallK) (fuel : Nat) (K : AV → Hp → Prop) (e1 : Hp → Prop) (t1 : AV) (t27 : AV) (t28 : AV) (ih2 : AV → Hp → Prop) : AV → Hp → Prop := fun t29 h =>
vLss t29 t28 h fun t30 h =>
vIf t30 (
(fun (e3 : Hp → Prop) =>
vIaddr 1 t27 t29 h fun t31 h =>
vLoad2 t31 h fun t32 h =>
vLss t32 (.int .i64 0) h fun t34 h =>
joinG (fun g5 => grdV t34 false (vMov t32 h g5) (g5 undefV h)) fun t36 h =>
joinG (fun g4 => grdV t34 false (vGtr t36 (.int .i64 1152921504606846976) h g4) (g4 undefV h)) fun t37 h =>
vPick t34 (.bool .true) t37 h fun t38 h =>
vIf t38 (
K (.bool .false) h) (
e3 h)) fun h =>
vAdd t29 (.int .i64 1) h fun t39 h =>
ih2 t39 h) (
e1 h)
noncomputable def s_ops_seenL2 (cf : CallK) (fuel : Nat) (K : AV → Hp → Prop) (e1 : Hp → Prop) (t1 : AV) (t27 : AV) (t28 : AV) (m : Nat) : AV → Hp → Prop := Nat.rec (motive := fun _ => AV → Hp → Prop) (fun _ _ => False) (fun _ ih => s_ops_seenL2B cf fuel K e1 t1 t27 t28 ih) m
theorem s_ops_seenL2_succ (cf : CallK) (fuel : Nat) (K : AV → Hp → Prop) (e1 : Hp → Prop) (t1 : AV) (t27 : AV) (t28 : AV) (m : Nat) : s_ops_seenL2 cf fuel K e1 t1 t27 t28 (m + 1) = s_ops_seenL2B cf fuel K e1 t1 t27 t28 (s_ops_seenL2 cf fuel K e1 t1 t27 t28 m) := rfl
noncomputable def s_ops_seenE0 (cf : CallK) (fuel : Nat) (K : AV → Hp → Prop) (t1 : AV) : AV → Hp → Prop := fun t3 h =>
vGtr t3 (.int .i64 64) h fun t23 h =>
vIf t23 (
K (.bool .false) h) (
vFaddr 10 t1 h fun t24 h =>
vLoad2 t24 h fun t25 h =>
vSlice2 1 t25 none (some t3) h fun t27 h =>
vLenL2 t27 h fun t28 h =>
(fun (e1 : Hp → Prop) =>
s_ops_seenL2 cf fuel K (s_ops_seenE1 cf fuel K t1) t1 t27 t28 fuel (.int .i64 0) h) (s_ops_seenE1 cf fuel K t1))
noncomputable def s_ops_seenL6B (cf : CallK) (fuel : Nat) (e0 : AV → Hp → Prop) (t1 : AV) (ih6 : AV → Hp → Prop) : AV → Hp → Prop := fun t3 h =>
vGtr t3 (.int .i64 0) h fun t10 h =>
joinG (fun g15 => grdV t10 true (vFaddr 10 t1 h g15) (g15 undefV h)) fun t12 h =>
joinG (fun g14 => grdV t10 true (vLoad2 t12 h g14) (g14 undefV h)) fun t13 h =>
joinG (fun g13 => grdV t10 true (vMov t3 h g13) (g13 undefV h)) fun t14 h =>
joinG (fun g12 => grdV t10 true (vArith Go.Am.subI t14 (.int .i64 1) h g12) (g12 undefV h)) fun t15 h =>
joinG (fun g11 => grdV t10 true (vIaddr 1 t13 t15 h g11) (g11 undefV h)) fun t16 h =>
joinG (fun g10 => grdV t10 true (vLoad2 t16 h g10) (g10 undefV h)) fun t17 h =>
joinG (fun g9 => grdV t10 true (vEql t17 (.int .i64 0) h g9) (g9 undefV h)) fun t18 h =>
vPick t10 t18 (.bool .false) h fun t19 h =>
vIf t19 (
(fun (e7 : AV → Hp → Prop) =>
vArith Go.Am.subI t3 (.int .i64 1) h fun t21 h =>
e7 t21 h) fun t3_8 h =>
ih6 t3_8 h) (
e0 t3 h)
noncomputable def s_ops_seenL6 (cf : CallK) (fuel : Nat) (e0 : AV → Hp → Prop) (t1 : AV) (m : Nat) : AV → Hp → Prop := Nat.rec (motive := fun _ => AV → Hp → Prop) (fun _ _ => False) (fun _ ih => s_ops_seenL6B cf fuel e0 t1 ih) m
theorem s_ops_seenL6_succ (cf : CallK) (fuel : Nat) (e0 : AV → Hp → Prop) (t1 : AV) (m : Nat) : s_ops_seenL6 cf fuel e0 t1 (m + 1) = s_ops_seenL6B cf fuel e0 t1 (s_ops_seenL6 cf fuel e0 t1 m) := rfl
noncomputable def s_ops_seen (cf : CallK) (fuel : Nat) (t0 : AV) (h : Hp) (K : AV → Hp → Prop) : Prop :=
vBox 11 t0 h fun t1 h =>
vFaddr 10 t1 h fun t6 h =>
vLoad2 t6 h fun t7 h =>
vLenL2 t7 h fun t8 h =>
(fun (e0 : AV → Hp → Prop) =>
s_ops_seenL6 cf fuel (s_ops_seenE0 cf fuel K t1) t1 fuel t8 h) (s_ops_seenE0 cf fuel K t1)
theorem s_ops_seen_eq (cf : CallK) (fuel : Nat) (t0 : AV) (h : Hp) (K : AV → Hp → Prop) : s_ops_seen cf fuel t0 h K = deepT (tabOf Try.prog) f_ops_seen cf fuel [t0] h K :=
  Eq.trans (by kernel_rfl) (rFun (by kernel_rfl) (rSeq (by kernel_rfl) (rSeq (by kernel_rfl) (rSeq (by kernel_rfl) (rSeq (by kernel_rfl) (rSeq (by kernel_rfl) rExact (rSeq (by kernel_rfl) (rBlock (by kernel_rfl) (rLoop (by kernel_rfl) (fun m2 fr h => s_ops_seenL2 cf fuel K (s_ops_seenE1 cf fuel K (getS fr (gpos 1))) (getS fr (gpos 1)) (getS fr (gpos 27)) (getS fr (gpos 28)) m2 (getS fr (gpos 29)) h) (funext fun fr => funext fun h => by kernel_rfl) fun m2 => rCast (funext fun fr => funext fun h => by kernel_rfl) rExact)) rExact)) rExact) (rBlock (by kernel_rfl) (rLoop (by kernel_rfl) (fun m6 fr h => s_ops_seenL6 cf fuel (s_ops_seenE0 cf fuel K (getS fr (gpos 1))) (getS fr (gpos 1)) m6 (getS fr (gpos 3)) h) (funext fun fr => funext fun h => by kernel_rfl) fun m6 => rCast (funext fun fr => funext fun h => by kernel_rfl) rExact))) rExact) rExact))

noncomputable def s_ops_earlier (cf : CallK) (fuel : Nat) (t0 : AV) (t1 : AV) (h : Hp) (K : AV → Hp → Prop) : Prop :=
vBox 2 t0 h fun t2 h =>
vBox 11 t1 h fun t3 h =>
vLoadA 2 t2 h fun t5 h =>
cf f_clock_Valid [t5] h fun t6 h =>
joinG (fun g3 => grdV t6 true (vLoadA 2 t2 h g3) (g3 undefV h)) fun t8 h =>
joinG (fun g2 => grdV t6 true (vFaddr 0 t3 h g2) (g2 undefV h)) fun t9 h =>
joinG (fun g1 => grdV t6 true (vLoadA 2 t9 h g1) (g1 undefV h)) fun t10 h =>
joinG (fun g0 => grdV t6 true (cf f_clock_Less [t8, t10] h g0) (g0 undefV h)) fun t11 h =>
vPick t6 t11 (.bool .false) h fun t12 h =>
K t12 h
theorem s_ops_earlier_eq (cf : CallK) (fuel : Nat) (t0 : AV) (t1 : AV) (h : Hp) (K : AV → Hp → Prop) : s_ops_earlier cf fuel t0 t1 h K = deepT (tabOf Try.prog) f_ops_earlier cf fuel [t0, t1] h K :=
  Eq.trans (by kernel_rfl) (rFun (by kernel_rfl) rExact)

noncomputable def s_ops_MayB24 (cf : CallK) (fuel : Nat) (K : AV → Hp → Prop) (t1 : AV) (h : Hp) : Prop :=
vFaddr 4 t1 h fun t80 h =>
vLoadA 2 t80 h fun t81 h =>
vLoadA 11 t1 h fun t82 h =>
cf f_ops_earlier [t81, t82] h fun t83 h =>
joinG (fun g23 => grdV t83 true (vFaddr 6 t1 h g23) (g23 undefV h)) fun t85 h =>
joinG (fun g22 => grdV t83 true (vLoadA 2 t85 h g22) (g22 undefV h)) fun t86 h =>
joinG (fun g21 => grdV t83 true (vBuild [(.int .i64 0), (.int .i64 0)] [] h g21) (g21 undefV h)) fun t87 h =>
joinG (fun g20 => grdV t83 true (vEq false eqPairS t86 t87 h g20) (g20 undefV h)) fun t88 h =>
vPick t83 t88 (.bool .false) h fun t89 h =>
joinG (fun g19 => grdV t89 true (vFaddr 8 t1 h g19) (g19 undefV h)) fun t91 h =>
joinG (fun g18 => grdV t89 true (vLoad2 t91 h g18) (g18 undefV h)) fun t92 h =>
joinG (fun g17 => grdV t89 true (vEql t92 (.str 0 0) h g17) (g17 undefV h)) fun t93 h =>
vPick t89 t93 (.bool .false) h fun t94 h =>
joinG (fun g16 => grdV t94 true (vFaddr 9 t1 h g16) (g16 undefV h)) fun t96 h =>
joinG (fun g15 => grdV t94 true (vLoad2 t96 h g15) (g15 undefV h)) fun t97 h =>
joinG (fun g14 => grdV t94 true (vLenL2 t97 h g14) (g14 undefV h)) fun t98 h =>
joinG (fun g13 => grdV t94 true (vLeq t98 (.int .i64 65536) h g13) (g13 undefV h)) fun t99 h =>
vPick t94 t99 (.bool .false) h fun t100 h =>
K t100 h
noncomputable def s_ops_MayB25 (cf : CallK) (fuel : Nat) (K : AV → Hp → Prop) (t43 : AV) (t33 : AV) (t1 : AV) (h : Hp) : Prop :=
vFaddr 4 t1 h fun t62 h =>
vLoadA 2 t62 h fun t63 h =>
vLoadA 11 t1 h fun t64 h =>
cf f_ops_earlier [t63, t64] h fun t65 h =>
joinG (fun g12 => grdV t65 true (vMov t43 h g12) (g12 undefV h)) fun t67 h =>
joinG (fun g11 => grdV t65 true (vMov t67 h g11) (g11 undefV h)) fun t68 h =>
joinG (fun g10 => grdV t68 false (vFaddr 6 t1 h g10) (g10 undefV h)) fun t69 h =>
joinG (fun g9 => grdV t68 false (vLoadA 2 t69 h g9) (g9 undefV h)) fun t70 h =>
joinG (fun g8 => grdV t68 false (cf f_ops_Trash [] h g8) (g8 undefV h)) fun t71 h =>
joinP (fun g7 => grdV t68 false (vLoadA 2 t69 h fun c _ => gd (sameV c t70) g7) g7) (
joinG (fun g6 => grdV t68 false (vEq false eqPairS t70 t71 h g6) (g6 undefV h)) fun t72 h =>
joinG (fun g5 => grdV t65 true (vPick t68 (.bool .true) t72 h g5) (g5 undefV h)) fun t73 h =>
vPick t65 t73 (.bool .false) h fun t74 h =>
joinG (fun g4 => grdV t74 true (vMov t33 h g4) (g4 undefV h)) fun t76 h =>
vPick t74 t76 (.bool .false) h fun t77 h =>
K t77 h)
noncomputable def s_ops_MayB34 (cf : CallK) (fuel : Nat) (K : AV → Hp → Prop) (t1 : AV) (h : Hp) : Prop :=
vFaddr 8 t1 h fun t24 h =>
vLoad2 t24 h fun t25 h =>
cf f_ops_Name [t25] h fun t26 h =>
vEql t26 (.int .i64 0) h fun t27 h =>
joinG (fun g33 => grdV t27 true (vFaddr 9 t1 h g33) (g33 undefV h)) fun t29 h =>
joinG (fun g32 => grdV t27 true (vLoad2 t29 h g32) (g32 undefV h)) fun t30 h =>
joinG (fun g31 => grdV t27 true (vLenL2 t30 h g31) (g31 undefV h)) fun t31 h =>
joinG (fun g30 => grdV t27 true (vEql t31 (.int .i64 0) h g30) (g30 undefV h)) fun t32 h =>
vPick t27 t32 (.bool .false) h fun t33 h =>
vFaddr 6 t1 h fun t34 h =>
vLoadA 2 t34 h fun t35 h =>
cf f_ops_Root [] h fun t36 h =>
vLoadA 2 t34 h fun c _ => gd (sameV c t35) (
vEq false eqPairS t35 t36 h fun t37 h =>
joinG (fun g29 => grdV t37 false (vFaddr 6 t1 h g29) (g29 undefV h)) fun t39 h =>
joinG (fun g28 => grdV t37 false (vLoadA 2 t39 h g28) (g28 undefV h)) fun t40 h =>
joinG (fun g27 => grdV t37 false (vLoadA 11 t1 h g27) (g27 undefV h)) fun t41 h =>
joinG (fun g26 => grdV t37 false (cf f_ops_earlier [t40, t41] h g26) (g26 undefV h)) fun t42 h =>
vPick t37 (.bool .true) t42 h fun t43 h =>
vFaddr 3 t1 h fun t44 h =>
vLoad2 t44 h fun t45 h =>
(fun (e0 : Hp → Prop) =>
(fun (j1 : AV → Hp → Prop) =>
vEql t45 (.int .i64 1) h fun t47 h =>
vIf t47 (
j1 t47 h) (
vEql t45 (.int .i64 2) h fun t48 h =>
j1 t48 h)) fun t46 h =>
vIf t46 (
vFaddr 4 t1 h fun t49 h =>
vLoadA 2 t49 h fun t50 h =>
vFaddr 0 t1 h fun t51 h =>
vLoadA 2 t51 h fun t52 h =>
vEq false eqPairS t50 t52 h fun t53 h =>
joinG (fun g3 => grdV t53 true (vMov t43 h g3) (g3 undefV h)) fun t55 h =>
vPick t53 t55 (.bool .false) h fun t56 h =>
joinG (fun g2 => grdV t56 true (vMov t33 h g2) (g2 undefV h)) fun t58 h =>
vPick t56 t58 (.bool .false) h fun t59 h =>
K t59 h) (
vEql t45 (.int .i64 3) h fun t61 h =>
vIf t61 (
s_ops_MayB25 cf fuel K t43 t33 t1 h) (
vEql t45 (.int .i64 4) h fun t79 h =>
vIf t79 (
s_ops_MayB24 cf fuel K t1 h) (
e0 h)))) fun h =>
K (.bool .false) h)
noncomputable def s_ops_May (cf : CallK) (fuel : Nat) (t0 : AV) (h : Hp) (K : AV → Hp → Prop) : Prop :=
vBox 11 t0 h fun t1 h =>
vFaddr 0 t1 h fun t5 h =>
vLoadA 2 t5 h fun t6 h =>
cf f_clock_Valid [t6] h fun t7 h =>
vNot t7 h fun t8 h =>
joinG (fun g43 => grdV t8 false (vFaddr 2 t1 h g43) (g43 undefV h)) fun t10 h =>
joinG (fun g42 => grdV t8 false (vLoad2 t10 h g42) (g42 undefV h)) fun t11 h =>
joinG (fun g41 => grdV t8 false (vLss t11 (.int .i64 1) h g41) (g41 undefV h)) fun t12 h =>
vPick t8 (.bool .true) t12 h fun t13 h =>
joinG (fun g40 => grdV t13 false (vFaddr 2 t1 h g40) (g40 undefV h)) fun t15 h =>
joinG (fun g39 => grdV t13 false (vLoad2 t15 h g39) (g39 undefV h)) fun t16 h =>
joinG (fun g38 => grdV t13 false (vGtr t16 (.int .i64 1152921504606846976) h g38) (g38 undefV h)) fun t17 h =>
vPick t13 (.bool .true) t17 h fun t18 h =>
joinG (fun g37 => grdV t18 false (vLoadA 11 t1 h g37) (g37 undefV h)) fun t20 h =>
joinG (fun g36 => grdV t18 false (cf f_ops_seen [t20] h g36) (g36 undefV h)) fun t21 h =>
joinG (fun g35 => grdV t18 false (vNot t21 h g35) (g35 undefV h)) fun t22 h =>
vPick t18 (.bool .true) t22 h fun t23 h =>
vIf t23 (
K (.bool .false) h) (
s_ops_MayB34 cf fuel K t1 h)
theorem s_ops_May_eq (cf : CallK) (fuel : Nat) (t0 : AV) (h : Hp) (K : AV → Hp → Prop) : s_ops_May cf fuel t0 h K = deepT (tabOf Try.prog) f_ops_May cf fuel [t0] h K :=
  Eq.trans (by kernel_rfl) (rFun (by kernel_rfl) rExact)

noncomputable def s_slices_BinarySearchFunc_api_Version_api_Version_api_IDE0 (cf : CallK) (fuel : Nat) (K : AV → Hp → Prop) (t0 : AV) (t2 : AV) (t4 : AV) (t8 : AV) : AV → Hp → Prop := fun t9 h =>
vLss t9 t8 h fun t38 h =>
joinG (fun g8 => grdV t38 true (vMov t2 h g8) (g8 undefV h)) fun t40 h =>
joinG (fun g7 => grdV t38 true (vMov t0 h g7) (g7 undefV h)) fun t41 h =>
joinG (fun g6 => grdV t38 true (vMov t9 h g6) (g6 undefV h)) fun t42 h =>
joinG (fun g5 => grdV t38 true (vIaddr 5 t41 t42 h g5) (g5 undefV h)) fun t43 h =>
joinG (fun g4 => grdV t38 true (vLoadA 5 t43 h g4) (g4 undefV h)) fun t44 h =>
joinG (fun g3 => grdV t38 true (vLoadA 2 t4 h g3) (g3 undefV h)) fun t45 h =>
joinG (fun g2 => grdV t38 true (vCallV t40 [t44, t45] cf h g2) (g2 undefV h)) fun t46 h =>
joinG (fun g1 => grdV t38 true (vEql t46 (.int .i64 0) h g1) (g1 undefV h)) fun t47 h =>
vPick t38 t47 (.bool .false) h fun t48 h =>
K (.tup [t9, t48]) h
noncomputable def s_slices_BinarySearchFunc_api_Version_api_Version_api_IDB13 (cf : CallK) (fuel : Nat) (ih9 : AV → AV → Hp → Prop) (t10 : AV) (t9 : AV) (t0 : AV) (t2 : AV) (t4 : AV) (h : Hp) : Prop :=
(fun (e10 : AV → AV → Hp → Prop) =>
vAdd t9 t10 h fun t20 h =>
vToInt .u64 t20 h fun t21 h =>
vShr t21 (.int .u64 1) h fun t22 h =>
vToInt .i64 t22 h fun t23 h =>
vIaddr 5 t0 t23 h fun t27 h =>
vLoadA 5 t27 h fun t28 h =>
vLoadA 2 t4 h fun t29 h =>
vCallV t2 [t28, t29] cf h fun t30 h =>
vLss t30 (.int .i64 0) h fun t31 h =>
vIf t31 (
vAdd t23 (.int .i64 1) h fun t33 h =>
e10 t33 t10 h) (
e10 t9 t23 h)) fun t9_11 t10_12 h =>
ih9 t9_11 t10_12 h
noncomputable def s_slices_BinarySearchFunc_api_Version_api_Version_api_IDL9B (cf : CallK) (fuel : Nat) (e0 : AV → Hp → Prop) (t0 : AV) (t2 : AV) (t4 : AV) (t8 : AV) (ih9 : AV → AV → Hp → Prop) : AV → AV → Hp → Prop := fun t9 t10 h =>
vLss t9 t10 h fun t17 h =>
vIf t17 (
s_slices_BinarySearchFunc_api_Version_api_Version_api_IDB13 cf fuel ih9 t10 t9 t0 t2 t4 h) (
e0 t9 h)
noncomputable def s_slices_BinarySearchFunc_api_Version_api_Version_api_IDL9 (cf : CallK) (fuel : Nat) (e0 : AV → Hp → Prop) (t0 : AV) (t2 : AV) (t4 : AV) (t8 : AV) (m : Nat) : AV → AV → Hp → Prop := Nat.rec (motive := fun _ => AV → AV → Hp → Prop) (fun _ _ _ => False) (fun _ ih => s_slices_BinarySearchFunc_api_Version_api_Version_api_IDL9B cf fuel e0 t0 t2 t4 t8 ih) m
theorem s_slices_BinarySearchFunc_api_Version_api_Version_api_IDL9_succ (cf : CallK) (fuel : Nat) (e0 : AV → Hp → Prop) (t0 : AV) (t2 : AV) (t4 : AV) (t8 : AV) (m : Nat) : s_slices_BinarySearchFunc_api_Version_api_Version_api_IDL9 cf fuel e0 t0 t2 t4 t8 (m + 1) = s_slices_BinarySearchFunc_api_Version_api_Version_api_IDL9B cf fuel e0 t0 t2 t4 t8 (s_slices_BinarySearchFunc_api_Version_api_Version_api_IDL9 cf fuel e0 t0 t2 t4 t8 m) := rfl
noncomputable def s_slices_BinarySearchFunc_api_Version_api_Version_api_ID (cf : CallK) (fuel : Nat) (t0 : AV) (t1 : AV) (t2 : AV) (h : Hp) (K : AV → Hp → Prop) : Prop :=
vBox 2 t1 h fun t4 h =>
vLenL2 t0 h fun t13 h =>
(fun (e0 : AV → Hp → Prop) =>
s_slices_BinarySearchFunc_api_Version_api_Version_api_IDL9 cf fuel (s_slices_BinarySearchFunc_api_Version_api_Version_api_IDE0 cf fuel K t0 t2 t4 t13) t0 t2 t4 t13 fuel (.int .i64 0) t13 h) (s_slices_BinarySearchFunc_api_Version_api_Version_api_IDE0 cf fuel K t0 t2 t4 t13)
theorem s_slices_BinarySearchFunc_api_Version_api_Version_api_ID_eq (cf : CallK) (fuel : Nat) (t0 : AV) (t1 : AV) (t2 : AV) (h : Hp) (K : AV → Hp → Prop) : s_slices_BinarySearchFunc_api_Version_api_Version_api_ID cf fuel t0 t1 t2 h K = deepT (tabOf Try.prog) f_slices_BinarySearchFunc_api_Version_api_Version_api_ID cf fuel [t0, t1, t2] h K :=
  Eq.trans (by kernel_rfl) (rFun (by kernel_rfl) (rSeq (by kernel_rfl) (rSeq (by kernel_rfl) (rSeq (by kernel_rfl) (rSeq (by kernel_rfl) rExact (rBlock (by kernel_rfl) (rLoop (by kernel_rfl) (fun m9 fr h => s_slices_BinarySearchFunc_api_Version_api_Version_api_IDL9 cf fuel (s_slices_BinarySearchFunc_api_Version_api_Version_api_IDE0 cf fuel K (getS fr (gpos 0)) (getS fr (gpos 2)) (getS fr (gpos 4)) (getS fr (gpos 8))) (getS fr (gpos 0)) (getS fr (gpos 2)) (getS fr (gpos 4)) (getS fr (gpos 8)) m9 (getS fr (gpos 9)) (getS fr (gpos 10)) h) (funext fun fr => funext fun h => by kernel_rfl) fun m9 => rCast (funext fun fr => funext fun h => by kernel_rfl) rExact))) rExact) rExact) rExact))

noncomputable def s_bytes_Clone (cf : CallK) (fuel : Nat) (t0 : AV) (h : Hp) (K : AV → Hp → Prop) : Prop :=
vEq false eqNS t0 .nilslice h fun t4 h =>
vIf t4 (
K .nilslice h) (
vBslice 1 0 true [(.int .u8 0)] [] h fun t5 h =>
vAppend2 1 1 true t5 t0 h fun t7 h =>
K t7 h)
theorem s_bytes_Clone_eq (cf : CallK) (fuel : Nat) (t0 : AV) (h : Hp) (K : AV → Hp → Prop) : s_bytes_Clone cf fuel t0 h K = deepT (tabOf Try.prog) f_bytes_Clone cf fuel [t0] h K :=
  Eq.trans (by kernel_rfl) (rFun (by kernel_rfl) rExact)

noncomputable def s_content_Of (cf : CallK) (fuel : Nat) (t0 : AV) (h : Hp) (K : AV → Hp → Prop) : Prop :=
vBox 11 t0 h fun t1 h =>
vBox 5 (.agg [(.int .i64 0), (.int .i64 0), (.int .i64 0), .nilslice, .nilslice]) h fun t2 h =>
vFaddr 0 t1 h fun t3 h =>
vLoadA 2 t3 h fun t4 h =>
vFaddr 2 t1 h fun t5 h =>
vLoad2 t5 h fun t6 h =>
vFaddr 10 t1 h fun t7 h =>
vLoad2 t7 h fun t8 h =>
vFaddr 9 t1 h fun t10 h =>
vLoad2 t10 h fun t11 h =>
vAppend2 1 8 false .nilslice t8 h fun t9 h =>
vLoadA 2 t3 h fun c _ => gd (sameV c t4) (
vLoad2 t5 h fun c _ => gd (sameV c t6) (
vLoad2 t10 h fun c _ => gd (sameV c t11) (
cf f_bytes_Clone [t11] h fun t12 h =>
vLoadA 2 t3 h fun c _ => gd (sameV c t4) (
vLoad2 t5 h fun c _ => gd (sameV c t6) (
vBuild [(.int .i64 0), (.int .i64 0), (.int .i64 0), .nilslice, .nilslice] [(0, 2, t4), (2, 1, t6), (3, 1, t9), (4, 1, t12)] h fun t13 h =>
vStore 5 t2 t13 h fun _ h =>
vLoadA 5 t2 h fun r0 _ => K r0 h)))))
theorem s_content_Of_eq (cf : CallK) (fuel : Nat) (t0 : AV) (h : Hp) (K : AV → Hp → Prop) : s_content_Of cf fuel t0 h K = deepT (tabOf Try.prog) f_content_Of cf fuel [t0] h K :=
  Eq.trans (by kernel_rfl) (rFun (by kernel_rfl) rExact)

noncomputable def s_content_File_AddB0 (cf : CallK) (fuel : Nat) (K : AV → Hp → Prop) (t0 : AV) (t3 : AV) (h : Hp) : Prop :=
vNilck t0 h fun t21 h =>
vFaddr 0 t21 h fun t22 h =>
vLoad2 t22 h fun t23 h =>
vFaddr 0 t3 h fun t24 h =>
vLoadA 2 t24 h fun t25 h =>
cf f_slices_BinarySearchFunc_api_Version_api_Version_api_ID [t23, t25, (.func 57 [] [])] h fun t26 h =>
vExtract 0 t26 h fun t27 h =>
vExtract 1 t26 h fun t28 h =>
vIf t28 (
K (.int .i64 17) h) (
vNilck t0 h fun t32 h =>
vFaddr 0 t32 h fun t33 h =>
vLoad2 t33 h fun t34 h =>
vLoadA 11 t3 h fun t36 h =>
cf f_content_Of [t36] h fun t37 h =>
vLoad2 t33 h fun c _ => gd (sameV c t34) (
vBslice 5 1 false [(.int .i64 0), (.int .i64 0), (.int .i64 0), .nilslice, .nilslice] [(0, 5, t37)] h fun t38 h =>
vLoad2 t33 h fun c _ => gd (sameV c t34) (
cf f_slices_Insert_api_Version_api_Version [t34, t27, t38] h fun t39 h =>
vNilck t0 h fun t40 h =>
vFaddr 0 t40 h fun t41 h =>
vStore 1 t41 t39 h fun _ h =>
K (.int .i64 0) h)))
noncomputable def s_content_File_Add (cf : CallK) (fuel : Nat) (t0 : AV) (t1 : AV) (h : Hp) (K : AV → Hp → Prop) : Prop :=
vBox 11 t1 h fun t3 h =>
vEq false eqP t0 .nilptr h fun t8 h =>
joinG (fun g6 => grdV t8 false (vLoadA 11 t3 h g6) (g6 undefV h)) fun t10 h =>
joinG (fun g5 => grdV t8 false (cf f_ops_May [t10] h g5) (g5 undefV h)) fun t11 h =>
joinG (fun g4 => grdV t8 false (vNot t11 h g4) (g4 undefV h)) fun t12 h =>
vPick t8 (.bool .true) t12 h fun t13 h =>
joinG (fun g3 => grdV t13 false (vFaddr 3 t3 h g3) (g3 undefV h)) fun t15 h =>
joinG (fun g2 => grdV t13 false (vLoad2 t15 h g2) (g2 undefV h)) fun t16 h =>
joinG (fun g1 => grdV t13 false (vNeq t16 (.int .i64 4) h g1) (g1 undefV h)) fun t17 h =>
vPick t13 (.bool .true) t17 h fun t18 h =>
vIf t18 (
K (.int .i64 22) h) (
s_content_File_AddB0 cf fuel K t0 t3 h)
theorem s_content_File_Add_eq (cf : CallK) (fuel : Nat) (t0 : AV) (t1 : AV) (h : Hp) (K : AV → Hp → Prop) : s_content_File_Add cf fuel t0 t1 h K = deepT (tabOf Try.prog) f_content_File_Add cf fuel [t0, t1] h K :=
  Eq.trans (by kernel_rfl) (rFun (by kernel_rfl) rExact)

noncomputable def s_content_New (cf : CallK) (fuel : Nat) (h : Hp) (K : AV → Hp → Prop) : Prop :=
vBuild [.nilslice] [] h fun t1 h =>
vBox 1 t1 h fun t2 h =>
K t2 h
theorem s_content_New_eq (cf : CallK) (fuel : Nat) (h : Hp) (K : AV → Hp → Prop) : s_content_New cf fuel h K = deepT (tabOf Try.prog) f_content_New cf fuel [] h K :=
  Eq.trans (by kernel_rfl) (rFun (by kernel_rfl) rExact)

noncomputable def s_content_Behind (cf : CallK) (fuel : Nat) (t0 : AV) (t1 : AV) (h : Hp) (K : AV → Hp → Prop) : Prop :=
vBox 5 t0 h fun t2 h =>
vBox 5 t1 h fun t3 h =>
vFaddr 3 t3 h fun t5 h =>
vLoad2 t5 h fun t6 h =>
vFaddr 0 t2 h fun t7 h =>
vFaddr 1 t7 h fun t8 h =>
vLoad2 t8 h fun t9 h =>
vFaddr 2 t2 h fun t11 h =>
vLoad2 t11 h fun t12 h =>
cf f_vector_At [t6, t9] h fun t10 h =>
vLoad2 t11 h fun c _ => gd (sameV c t12) (
vGeq t10 t12 h fun t13 h =>
K t13 h)
theorem s_content_Behind_eq (cf : CallK) (fuel : Nat) (t0 : AV) (t1 : AV) (h : Hp) (K : AV → Hp → Prop) : s_content_Behind cf fuel t0 t1 h K = deepT (tabOf Try.prog) f_content_Behind cf fuel [t0, t1] h K :=
  Eq.trans (by kernel_rfl) (rFun (by kernel_rfl) rExact)

noncomputable def s_content_File_HeadsE0 (cf : CallK) (fuel : Nat) (K : AV → Hp → Prop) : AV → Hp → Prop := fun t3 h =>
K t3 h
noncomputable def s_content_File_HeadsE2 (cf : CallK) (fuel : Nat) (ih1 : AV → AV → Hp → Prop) (t0 : AV) (t13 : AV) (t14 : AV) (t15 : AV) : AV → Hp → Prop := fun t3 h =>
vAdd t15 (.int .i64 1) h fun t51 h =>
ih1 t3 t51 h
noncomputable def s_content_File_HeadsE3 (cf : CallK) (fuel : Nat) (e2 : AV → Hp → Prop) (t0 : AV) (t3 : AV) (t5 : AV) (t13 : AV) (t14 : AV) (t15 : AV) : Hp → Prop := fun h =>
vFaddr 3 t5 h fun t39 h =>
vLoad2 t39 h fun t40 h =>
vFaddr 4 t5 h fun t42 h =>
vLoad2 t42 h fun t43 h =>
vAppend2 1 8 false .nilslice t40 h fun t41 h =>
vLoad2 t42 h fun c _ => gd (sameV c t43) (
vFaddr 3 t5 h fun t45 h =>
cf f_bytes_Clone [t43] h fun t44 h =>
vStore 1 t45 t41 h fun _ h =>
vFaddr 4 t5 h fun t46 h =>
vStore 1 t46 t44 h fun _ h =>
vLoadA 5 t5 h fun t48 h =>
vBslice 5 1 false [(.int .i64 0), (.int .i64 0), (.int .i64 0), .nilslice, .nilslice] [(0, 5, t48)] h fun t49 h =>
vAppend2 5 72 false t3 t49 h fun t50 h =>
e2 t50 h)
noncomputable def s_content_File_HeadsB9 (cf : CallK) (fuel : Nat) (ih4 : AV → Hp → Prop) (e2 : AV → Hp → Prop) (t3 : AV) (t5 : AV) (t22 : AV) (t24 : AV) (h : Hp) : Prop :=
(fun (e5 : Hp → Prop) =>
vIaddr 5 t22 t24 h fun t26 h =>
vLoadA 5 t26 h fun t27 h =>
vBox 5 (.agg [(.int .i64 0), (.int .i64 0), (.int .i64 0), .nilslice, .nilslice]) h fun t7 h =>
vStore 5 t7 t27 h fun _ h =>
vFaddr 0 t5 h fun t28 h =>
vLoadA 2 t28 h fun t29 h =>
vFaddr 0 t7 h fun t30 h =>
vLoadA 2 t30 h fun t31 h =>
vEq true eqPairS t29 t31 h fun t32 h =>
joinG (fun g8 => grdV t32 true (vLoadA 5 t5 h g8) (g8 undefV h)) fun t34 h =>
joinG (fun g7 => grdV t32 true (vLoadA 5 t7 h g7) (g7 undefV h)) fun t35 h =>
joinG (fun g6 => grdV t32 true (cf f_content_Behind [t34, t35] h g6) (g6 undefV h)) fun t36 h =>
vPick t32 t36 (.bool .false) h fun t37 h =>
vIf t37 (
e2 t3 h) (
e5 h)) fun h =>
vAdd t24 (.int .i64 1) h fun t38 h =>
ih4 t38 h
noncomputable def s_content_File_HeadsL4B (cf : CallK) (fuel : Nat) (e2 : AV → Hp → Prop) (e3 : Hp → Prop) (t0 : AV) (t3 : AV) (t5 : AV) (t13 : AV) (t14 : AV) (t15 : AV) (t22 : AV) (t23 : AV) (ih4 : AV → Hp → Prop) : AV → Hp → Prop := fun t24 h =>
vLss t24 t23 h fun t25 h =>
vIf t25 (
s_content_File_HeadsB9 cf fuel ih4 e2 t3 t5 t22 t24 h) (
e3 h)
noncomputable def s_content_File_HeadsL4 (cf : CallK) (fuel : Nat) (e2 : AV → Hp → Prop) (e3 : Hp → Prop) (t0 : AV) (t3 : AV) (t5 : AV) (t13 : AV) (t14 : AV) (t15 : AV) (t22 : AV) (t23 : AV) (m : Nat) : AV → Hp → Prop := Nat.rec (motive := fun _ => AV → Hp → Prop) (fun _ _ => False) (fun _ ih => s_content_File_HeadsL4B cf fuel e2 e3 t0 t3 t5 t13 t14 t15 t22 t23 ih) m
theorem s_content_File_HeadsL4_succ (cf : CallK) (fuel : Nat) (e2 : AV → Hp → Prop) (e3 : Hp → Prop) (t0 : AV) (t3 : AV) (t5 : AV) (t13 : AV) (t14 : AV) (t15 : AV) (t22 : AV) (t23 : AV) (m : Nat) : s_content_File_HeadsL4 cf fuel e2 e3 t0 t3 t5 t13 t14 t15 t22 t23 (m + 1) = s_content_File_HeadsL4B cf fuel e2 e3 t0 t3 t5 t13 t14 t15 t22 t23 (s_content_File_HeadsL4 cf fuel e2 e3 t0 t3 t5 t13 t14 t15 t22 t23 m) := rfl
noncomputable def s_content_File_HeadsL1B (cf : CallK) (fuel : Nat) (e0 : AV → Hp → Prop) (t0 : AV) (t13 : AV) (t14 : AV) (ih1 : AV → AV → Hp → Prop) : AV → AV → Hp → Prop := fun t3 t15 h =>
vLss t15 t14 h fun t16 h =>
vIf t16 (
(fun (e2 : AV → Hp → Prop) =>
vIaddr 5 t13 t15 h fun t17 h =>
vLoadA 5 t17 h fun t18 h =>
vBox 5 (.agg [(.int .i64 0), (.int .i64 0), (.int .i64 0), .nilslice, .nilslice]) h fun t5 h =>
vStore 5 t5 t18 h fun _ h =>
vNilck t0 h fun t20 h =>
vFaddr 0 t20 h fun t21 h =>
vLoad2 t21 h fun t22 h =>
vLenL2 t22 h fun t23 h =>
(fun (e3 : Hp → Prop) =>
s_content_File_HeadsL4 cf fuel (s_content_File_HeadsE2 cf fuel ih1 t0 t13 t14 t15) (s_content_File_HeadsE3 cf fuel (s_content_File_HeadsE2 cf fuel ih1 t0 t13 t14 t15) t0 t3 t5 t13 t14 t15) t0 t3 t5 t13 t14 t15 t22 t23 fuel (.int .i64 0) h) (s_content_File_HeadsE3 cf fuel (s_content_File_HeadsE2 cf fuel ih1 t0 t13 t14 t15) t0 t3 t5 t13 t14 t15)) (s_content_File_HeadsE2 cf fuel ih1 t0 t13 t14 t15)) (
e0 t3 h)
noncomputable def s_content_File_HeadsL1 (cf : CallK) (fuel : Nat) (e0 : AV → Hp → Prop) (t0 : AV) (t13 : AV) (t14 : AV) (m : Nat) : AV → AV → Hp → Prop := Nat.rec (motive := fun _ => AV → AV → Hp → Prop) (fun _ _ _ => False) (fun _ ih => s_content_File_HeadsL1B cf fuel e0 t0 t13 t14 ih) m
theorem s_content_File_HeadsL1_succ (cf : CallK) (fuel : Nat) (e0 : AV → Hp → Prop) (t0 : AV) (t13 : AV) (t14 : AV) (m : Nat) : s_content_File_HeadsL1 cf fuel e0 t0 t13 t14 (m + 1) = s_content_File_HeadsL1B cf fuel e0 t0 t13 t14 (s_content_File_HeadsL1 cf fuel e0 t0 t13 t14 m) := rfl
noncomputable def s_content_File_Heads (cf : CallK) (fuel : Nat) (t0 : AV) (h : Hp) (K : AV → Hp → Prop) : Prop :=
vEq false eqP t0 .nilptr h fun t9 h =>
vIf t9 (
K .nilslice h) (
vNilck t0 h fun t11 h =>
vFaddr 0 t11 h fun t12 h =>
vLoad2 t12 h fun t13 h =>
vLenL2 t13 h fun t14 h =>
(fun (e0 : AV → Hp → Prop) =>
s_content_File_HeadsL1 cf fuel (s_content_File_HeadsE0 cf fuel K) t0 t13 t14 fuel .nilslice (.int .i64 0) h) (s_content_File_HeadsE0 cf fuel K))
theorem s_content_File_Heads_eq (cf : CallK) (fuel : Nat) (t0 : AV) (h : Hp) (K : AV → Hp → Prop) : s_content_File_Heads cf fuel t0 h K = deepT (tabOf Try.prog) f_content_File_Heads cf fuel [t0] h K :=
  Eq.trans (by kernel_rfl) (rFun (by kernel_rfl) (rSeq (by kernel_rfl) (rScope (by kernel_rfl) (rSeq (by kernel_rfl) (rSeq (by kernel_rfl) (rSeq (by kernel_rfl) (rSeq (by kernel_rfl) rExact (rSeq (by kernel_rfl) (rBlock (by kernel_rfl) (rLoop (by kernel_rfl) (fun m1 fr h => s_content_File_HeadsL1 cf fuel (s_content_File_HeadsE0 cf fuel K) (getS fr (gpos 0)) (getS fr (gpos 13)) (getS fr (gpos 14)) m1 (getS fr (gpos 3)) (getS fr (gpos 15)) h) (funext fun fr => funext fun h => by kernel_rfl) fun m1 => rCast (funext fun fr => funext fun h => by kernel_rfl) (rSeq (by kernel_rfl) (rSeq (by kernel_rfl) (rSeq (by kernel_rfl) rExact (rBlock (by kernel_rfl) (rSeq (by kernel_rfl) (rSeq (by kernel_rfl) rExact (rSeq (by kernel_rfl) (rBlock (by kernel_rfl) (rLoop (by kernel_rfl) (fun m4 fr h => s_content_File_HeadsL4 cf fuel (s_content_File_HeadsE2 cf fuel (s_content_File_HeadsL1 cf fuel (s_content_File_HeadsE0 cf fuel K) (getS fr (gpos 0)) (getS fr (gpos 13)) (getS fr (gpos 14)) m1) (getS fr (gpos 0)) (getS fr (gpos 13)) (getS fr (gpos 14)) (getS fr (gpos 15))) (s_content_File_HeadsE3 cf fuel (s_content_File_HeadsE2 cf fuel (s_content_File_HeadsL1 cf fuel (s_content_File_HeadsE0 cf fuel K) (getS fr (gpos 0)) (getS fr (gpos 13)) (getS fr (gpos 14)) m1) (getS fr (gpos 0)) (getS fr (gpos 13)) (getS fr (gpos 14)) (getS fr (gpos 15))) (getS fr (gpos 0)) (getS fr (gpos 3)) (getS fr (gpos 5)) (getS fr (gpos 13)) (getS fr (gpos 14)) (getS fr (gpos 15))) (getS fr (gpos 0)) (getS fr (gpos 3)) (getS fr (gpos 5)) (getS fr (gpos 13)) (getS fr (gpos 14)) (getS fr (gpos 15)) (getS fr (gpos 22)) (getS fr (gpos 23)) m4 (getS fr (gpos 24)) h) (funext fun fr => funext fun h => by kernel_rfl) fun m4 => rCast (funext fun fr => funext fun h => by kernel_rfl) rExact)) rExact)) rExact))) rExact) rExact))) rExact)) rExact) rExact) rExact)) rExact))

noncomputable def s_content_File_Value (cf : CallK) (fuel : Nat) (t0 : AV) (h : Hp) (K : AV → Hp → Prop) : Prop :=
cf f_content_File_Heads [t0] h fun t5 h =>
vLenL2 t5 h fun t7 h =>
vEql t7 (.int .i64 0) h fun t8 h =>
vIf t8 (
K .nilslice h) (
vLenL2 t5 h fun t11 h =>
vArith Go.Am.subI t11 (.int .i64 1) h fun t12 h =>
vIaddr 5 t5 t12 h fun t13 h =>
vFaddr 4 t13 h fun t14 h =>
vLoad2 t14 h fun t15 h =>
K t15 h)
theorem s_content_File_Value_eq (cf : CallK) (fuel : Nat) (t0 : AV) (h : Hp) (K : AV → Hp → Prop) : s_content_File_Value cf fuel t0 h K = deepT (tabOf Try.prog) f_content_File_Value cf fuel [t0] h K :=
  Eq.trans (by kernel_rfl) (rFun (by kernel_rfl) rExact)

noncomputable def s_lagoonlaw2_Short (cf : CallK) (fuel : Nat) (t0 : AV) (t1 : AV) (h : Hp) (K : AV → Hp → Prop) : Prop :=
vLenL2 t0 h fun t6 h =>
vGtr t6 t1 h fun t8 h =>
vIf t8 (
vSlice2 1 t0 none (some t1) h fun t11 h =>
K t11 h) (
K t0 h)
theorem s_lagoonlaw2_Short_eq (cf : CallK) (fuel : Nat) (t0 : AV) (t1 : AV) (h : Hp) (K : AV → Hp → Prop) : s_lagoonlaw2_Short cf fuel t0 t1 h K = deepT (tabOf Try.prog) f_lagoonlaw2_Short cf fuel [t0, t1] h K :=
  Eq.trans (by kernel_rfl) (rFun (by kernel_rfl) rExact)

noncomputable def s_lagoonlaw4_Cut (cf : CallK) (fuel : Nat) (t0 : AV) (h : Hp) (K : AV → Hp → Prop) : Prop :=
vLenL2 t0 h fun t4 h =>
vGtr t4 (.int .i64 80) h fun t5 h =>
vIf t5 (
vSlice2 1 t0 none (some (.int .i64 80)) h fun t7 h =>
K t7 h) (
K t0 h)
theorem s_lagoonlaw4_Cut_eq (cf : CallK) (fuel : Nat) (t0 : AV) (h : Hp) (K : AV → Hp → Prop) : s_lagoonlaw4_Cut cf fuel t0 h K = deepT (tabOf Try.prog) f_lagoonlaw4_Cut cf fuel [t0] h K :=
  Eq.trans (by kernel_rfl) (rFun (by kernel_rfl) rExact)

noncomputable def s_lagoonlaw12_Cut (cf : CallK) (fuel : Nat) (t0 : AV) (h : Hp) (K : AV → Hp → Prop) : Prop :=
vBox 11 t0 h fun t1 h =>
vBox 11 (.agg [(.int .i64 0), (.int .i64 0), (.int .i64 0), (.int .i64 0), (.int .i64 0), (.int .i64 0), (.int .i64 0), (.int .i64 0), (.str 0 0), .nilslice, .nilslice]) h fun t2 h =>
vFaddr 9 t1 h fun t3 h =>
vLoad2 t3 h fun t4 h =>
cf f_lagoonlaw2_Short [t4, (.int .i64 3000)] h fun t5 h =>
vFaddr 9 t1 h fun t6 h =>
vStore 1 t6 t5 h fun _ h =>
(fun (j0 : Hp → Prop) =>
vFaddr 8 t1 h fun t7 h =>
vLoad2 t7 h fun t8 h =>
vLenS t8 h fun t9 h =>
vGtr t9 (.int .i64 100) h fun t10 h =>
vIf t10 (
vFaddr 8 t1 h fun t11 h =>
vLoad2 t11 h fun t12 h =>
vSliceS t12 none (some (.int .i64 100)) h fun t13 h =>
vFaddr 8 t1 h fun t14 h =>
vStore 1 t14 t13 h fun _ h =>
j0 h) (
j0 h)) fun h =>
vFaddr 10 t1 h fun t15 h =>
vLoad2 t15 h fun t16 h =>
cf f_lagoonlaw4_Cut [t16] h fun t17 h =>
vFaddr 10 t1 h fun t18 h =>
vStore 1 t18 t17 h fun _ h =>
vLoadA 11 t1 h fun t19 h =>
vStore 11 t2 t19 h fun _ h =>
vLoadA 11 t2 h fun r0 _ => K r0 h
theorem s_lagoonlaw12_Cut_eq (cf : CallK) (fuel : Nat) (t0 : AV) (h : Hp) (K : AV → Hp → Prop) : s_lagoonlaw12_Cut cf fuel t0 h K = deepT (tabOf Try.prog) f_lagoonlaw12_Cut cf fuel [t0] h K :=
  Eq.trans (by kernel_rfl) (rFun (by kernel_rfl) rExact)

noncomputable def s_lagoonlaw15_SomeE0 (cf : CallK) (fuel : Nat) (K : AV → Hp → Prop) : AV → Hp → Prop := fun t5 h =>
K t5 h
noncomputable def s_lagoonlaw15_SomeE2 (cf : CallK) (fuel : Nat) (ih1 : AV → AV → Hp → Prop) (t0 : AV) (t1 : AV) (t6 : AV) : AV → Hp → Prop := fun t5 h =>
vAdd t6 (.int .i64 1) h fun t21 h =>
ih1 t5 t21 h
noncomputable def s_lagoonlaw15_SomeE3 (cf : CallK) (fuel : Nat) (e2 : AV → Hp → Prop) (t0 : AV) (t1 : AV) (t5 : AV) (t6 : AV) (t7 : AV) : AV → Hp → Prop := fun t8 h =>
vIf t8 (
vLoadA 11 t7 h fun t49 h =>
vBslice 11 1 false [(.int .i64 0), (.int .i64 0), (.int .i64 0), (.int .i64 0), (.int .i64 0), (.int .i64 0), (.int .i64 0), (.int .i64 0), (.str 0 0), .nilslice, .nilslice] [(0, 11, t49)] h fun t50 h =>
vAppend2 11 128 false t5 t50 h fun t51 h =>
e2 t51 h) (
e2 t5 h)
noncomputable def s_lagoonlaw15_SomeL4B (cf : CallK) (fuel : Nat) (e3 : AV → Hp → Prop) (t0 : AV) (t1 : AV) (t5 : AV) (t6 : AV) (t7 : AV) (ih4 : AV → AV → Hp → Prop) : AV → AV → Hp → Prop := fun t8 t9 h =>
vLenL2 t5 h fun t31 h =>
vLss t9 t31 h fun t32 h =>
joinG (fun g6 => grdV t32 true (vMov t8 h g6) (g6 undefV h)) fun t34 h =>
vPick t32 t34 (.bool .false) h fun t35 h =>
vIf t35 (
(fun (e5 : AV → Hp → Prop) =>
vIaddr 11 t5 t9 h fun t40 h =>
vFaddr 0 t40 h fun t41 h =>
vLoadA 2 t41 h fun t42 h =>
vFaddr 0 t7 h fun t43 h =>
vLoadA 2 t43 h fun t44 h =>
cf f_lagoonref4_Same [t42, t44] h fun t45 h =>
vNot t45 h fun t46 h =>
e5 t46 h) fun t8 h =>
vAdd t9 (.int .i64 1) h fun t37 h =>
ih4 t8 t37 h) (
e3 t8 h)
noncomputable def s_lagoonlaw15_SomeL4 (cf : CallK) (fuel : Nat) (e3 : AV → Hp → Prop) (t0 : AV) (t1 : AV) (t5 : AV) (t6 : AV) (t7 : AV) (m : Nat) : AV → AV → Hp → Prop := Nat.rec (motive := fun _ => AV → AV → Hp → Prop) (fun _ _ _ => False) (fun _ ih => s_lagoonlaw15_SomeL4B cf fuel e3 t0 t1 t5 t6 t7 ih) m
theorem s_lagoonlaw15_SomeL4_succ (cf : CallK) (fuel : Nat) (e3 : AV → Hp → Prop) (t0 : AV) (t1 : AV) (t5 : AV) (t6 : AV) (t7 : AV) (m : Nat) : s_lagoonlaw15_SomeL4 cf fuel e3 t0 t1 t5 t6 t7 (m + 1) = s_lagoonlaw15_SomeL4B cf fuel e3 t0 t1 t5 t6 t7 (s_lagoonlaw15_SomeL4 cf fuel e3 t0 t1 t5 t6 t7 m) := rfl
noncomputable def s_lagoonlaw15_SomeL1B (cf : CallK) (fuel : Nat) (e0 : AV → Hp → Prop) (t0 : AV) (t1 : AV) (ih1 : AV → AV → Hp → Prop) : AV → AV → Hp → Prop := fun t5 t6 h =>
vLenL2 t0 h fun t12 h =>
vLss t6 t12 h fun t13 h =>
joinG (fun g10 => grdV t13 true (vMov t5 h g10) (g10 undefV h)) fun t15 h =>
joinG (fun g9 => grdV t13 true (vLenL2 t15 h g9) (g9 undefV h)) fun t16 h =>
joinG (fun g8 => grdV t13 true (vMov t1 h g8) (g8 undefV h)) fun t17 h =>
joinG (fun g7 => grdV t13 true (vLss t16 t17 h g7) (g7 undefV h)) fun t18 h =>
vPick t13 t18 (.bool .false) h fun t19 h =>
vIf t19 (
(fun (e2 : AV → Hp → Prop) =>
vIaddr 11 t0 t6 h fun t24 h =>
vLoadA 11 t24 h fun t25 h =>
cf f_lagoonlaw12_Cut [t25] h fun t26 h =>
vBox 11 (.agg [(.int .i64 0), (.int .i64 0), (.int .i64 0), (.int .i64 0), (.int .i64 0), (.int .i64 0), (.int .i64 0), (.int .i64 0), (.str 0 0), .nilslice, .nilslice]) h fun t7 h =>
vStore 11 t7 t26 h fun _ h =>
vLoadA 11 t7 h fun t27 h =>
cf f_lagoonref12_May [t27] h fun t28 h =>
(fun (e3 : AV → Hp → Prop) =>
s_lagoonlaw15_SomeL4 cf fuel (s_lagoonlaw15_SomeE3 cf fuel (s_lagoonlaw15_SomeE2 cf fuel ih1 t0 t1 t6) t0 t1 t5 t6 t7) t0 t1 t5 t6 t7 fuel t28 (.int .i64 0) h) (s_lagoonlaw15_SomeE3 cf fuel (s_lagoonlaw15_SomeE2 cf fuel ih1 t0 t1 t6) t0 t1 t5 t6 t7)) (s_lagoonlaw15_SomeE2 cf fuel ih1 t0 t1 t6)) (
e0 t5 h)
noncomputable def s_lagoonlaw15_SomeL1 (cf : CallK) (fuel : Nat) (e0 : AV → Hp → Prop) (t0 : AV) (t1 : AV) (m : Nat) : AV → AV → Hp → Prop := Nat.rec (motive := fun _ => AV → AV → Hp → Prop) (fun _ _ _ => False) (fun _ ih => s_lagoonlaw15_SomeL1B cf fuel e0 t0 t1 ih) m
theorem s_lagoonlaw15_SomeL1_succ (cf : CallK) (fuel : Nat) (e0 : AV → Hp → Prop) (t0 : AV) (t1 : AV) (m : Nat) : s_lagoonlaw15_SomeL1 cf fuel e0 t0 t1 (m + 1) = s_lagoonlaw15_SomeL1B cf fuel e0 t0 t1 (s_lagoonlaw15_SomeL1 cf fuel e0 t0 t1 m) := rfl
noncomputable def s_lagoonlaw15_Some (cf : CallK) (fuel : Nat) (t0 : AV) (t1 : AV) (h : Hp) (K : AV → Hp → Prop) : Prop :=
(fun (e0 : AV → Hp → Prop) =>
s_lagoonlaw15_SomeL1 cf fuel (s_lagoonlaw15_SomeE0 cf fuel K) t0 t1 fuel .nilslice (.int .i64 0) h) (s_lagoonlaw15_SomeE0 cf fuel K)
theorem s_lagoonlaw15_Some_eq (cf : CallK) (fuel : Nat) (t0 : AV) (t1 : AV) (h : Hp) (K : AV → Hp → Prop) : s_lagoonlaw15_Some cf fuel t0 t1 h K = deepT (tabOf Try.prog) f_lagoonlaw15_Some cf fuel [t0, t1] h K :=
  Eq.trans (by kernel_rfl) (rFun (by kernel_rfl) (rSeq (by kernel_rfl) (rSeq (by kernel_rfl) (rSeq (by kernel_rfl) rExact (rSeq (by kernel_rfl) (rBlock (by kernel_rfl) (rLoop (by kernel_rfl) (fun m1 fr h => s_lagoonlaw15_SomeL1 cf fuel (s_lagoonlaw15_SomeE0 cf fuel K) (getS fr (gpos 0)) (getS fr (gpos 1)) m1 (getS fr (gpos 5)) (getS fr (gpos 6)) h) (funext fun fr => funext fun h => by kernel_rfl) fun m1 => rCast (funext fun fr => funext fun h => by kernel_rfl) (rSeq (by kernel_rfl) (rSeq (by kernel_rfl) rExact (rBlock (by kernel_rfl) (rSeq (by kernel_rfl) (rSeq (by kernel_rfl) (rSeq (by kernel_rfl) rExact (rSeq (by kernel_rfl) (rBlock (by kernel_rfl) (rLoop (by kernel_rfl) (fun m4 fr h => s_lagoonlaw15_SomeL4 cf fuel (s_lagoonlaw15_SomeE3 cf fuel (s_lagoonlaw15_SomeE2 cf fuel (s_lagoonlaw15_SomeL1 cf fuel (s_lagoonlaw15_SomeE0 cf fuel K) (getS fr (gpos 0)) (getS fr (gpos 1)) m1) (getS fr (gpos 0)) (getS fr (gpos 1)) (getS fr (gpos 6))) (getS fr (gpos 0)) (getS fr (gpos 1)) (getS fr (gpos 5)) (getS fr (gpos 6)) (getS fr (gpos 7))) (getS fr (gpos 0)) (getS fr (gpos 1)) (getS fr (gpos 5)) (getS fr (gpos 6)) (getS fr (gpos 7)) m4 (getS fr (gpos 8)) (getS fr (gpos 9)) h) (funext fun fr => funext fun h => by kernel_rfl) fun m4 => rCast (funext fun fr => funext fun h => by kernel_rfl) rExact)) rExact)) rExact) rExact))) rExact))) rExact)) rExact) rExact))

noncomputable def s_lagoonref4_LeqE0 (cf : CallK) (fuel : Nat) (K : AV → Hp → Prop) : Hp → Prop := fun h =>
K (.bool .true) h
noncomputable def s_lagoonref4_LeqL1B (cf : CallK) (fuel : Nat) (K : AV → Hp → Prop) (e0 : Hp → Prop) (t0 : AV) (t1 : AV) (ih1 : AV → Hp → Prop) : AV → Hp → Prop := fun t5 h =>
vLss t5 (.int .i64 64) h fun t7 h =>
vIf t7 (
(fun (e2 : Hp → Prop) =>
cf f_lagoonref4_At [t0, t5] h fun t12 h =>
cf f_lagoonref4_At [t1, t5] h fun t15 h =>
vGtr t12 t15 h fun t16 h =>
vIf t16 (
K (.bool .false) h) (
e2 h)) fun h =>
vAdd t5 (.int .i64 1) h fun t9 h =>
ih1 t9 h) (
e0 h)
noncomputable def s_lagoonref4_LeqL1 (cf : CallK) (fuel : Nat) (K : AV → Hp → Prop) (e0 : Hp → Prop) (t0 : AV) (t1 : AV) (m : Nat) : AV → Hp → Prop := Nat.rec (motive := fun _ => AV → Hp → Prop) (fun _ _ => False) (fun _ ih => s_lagoonref4_LeqL1B cf fuel K e0 t0 t1 ih) m
theorem s_lagoonref4_LeqL1_succ (cf : CallK) (fuel : Nat) (K : AV → Hp → Prop) (e0 : Hp → Prop) (t0 : AV) (t1 : AV) (m : Nat) : s_lagoonref4_LeqL1 cf fuel K e0 t0 t1 (m + 1) = s_lagoonref4_LeqL1B cf fuel K e0 t0 t1 (s_lagoonref4_LeqL1 cf fuel K e0 t0 t1 m) := rfl
noncomputable def s_lagoonref4_Leq (cf : CallK) (fuel : Nat) (t0 : AV) (t1 : AV) (h : Hp) (K : AV → Hp → Prop) : Prop :=
(fun (e0 : Hp → Prop) =>
s_lagoonref4_LeqL1 cf fuel K (s_lagoonref4_LeqE0 cf fuel K) t0 t1 fuel (.int .i64 0) h) (s_lagoonref4_LeqE0 cf fuel K)
theorem s_lagoonref4_Leq_eq (cf : CallK) (fuel : Nat) (t0 : AV) (t1 : AV) (h : Hp) (K : AV → Hp → Prop) : s_lagoonref4_Leq cf fuel t0 t1 h K = deepT (tabOf Try.prog) f_lagoonref4_Leq cf fuel [t0, t1] h K :=
  Eq.trans (by kernel_rfl) (rFun (by kernel_rfl) (rSeq (by kernel_rfl) (rSeq (by kernel_rfl) rExact (rSeq (by kernel_rfl) (rBlock (by kernel_rfl) (rLoop (by kernel_rfl) (fun m1 fr h => s_lagoonref4_LeqL1 cf fuel K (s_lagoonref4_LeqE0 cf fuel K) (getS fr (gpos 0)) (getS fr (gpos 1)) m1 (getS fr (gpos 5)) h) (funext fun fr => funext fun h => by kernel_rfl) fun m1 => rCast (funext fun fr => funext fun h => by kernel_rfl) rExact)) rExact)) rExact))

noncomputable def s_lagoonref4_Eq (cf : CallK) (fuel : Nat) (t0 : AV) (t1 : AV) (h : Hp) (K : AV → Hp → Prop) : Prop :=
cf f_lagoonref4_Leq [t0, t1] h fun t7 h =>
joinG (fun g2 => grdV t7 true (vMov t1 h g2) (g2 undefV h)) fun t9 h =>
joinG (fun g1 => grdV t7 true (vMov t0 h g1) (g1 undefV h)) fun t10 h =>
joinG (fun g0 => grdV t7 true (cf f_lagoonref4_Leq [t9, t10] h g0) (g0 undefV h)) fun t11 h =>
vPick t7 t11 (.bool .false) h fun t12 h =>
K t12 h
theorem s_lagoonref4_Eq_eq (cf : CallK) (fuel : Nat) (t0 : AV) (t1 : AV) (h : Hp) (K : AV → Hp → Prop) : s_lagoonref4_Eq cf fuel t0 t1 h K = deepT (tabOf Try.prog) f_lagoonref4_Eq cf fuel [t0, t1] h K :=
  Eq.trans (by kernel_rfl) (rFun (by kernel_rfl) rExact)

noncomputable def s_lagoonref15_Behind (cf : CallK) (fuel : Nat) (t0 : AV) (t1 : AV) (h : Hp) (K : AV → Hp → Prop) : Prop :=
vBox 11 t0 h fun t2 h =>
vBox 11 t1 h fun t3 h =>
vFaddr 10 t3 h fun t5 h =>
vLoad2 t5 h fun t6 h =>
vFaddr 0 t2 h fun t7 h =>
vFaddr 1 t7 h fun t8 h =>
vLoad2 t8 h fun t9 h =>
vFaddr 2 t2 h fun t11 h =>
vLoad2 t11 h fun t12 h =>
cf f_lagoonref4_At [t6, t9] h fun t10 h =>
vLoad2 t11 h fun c _ => gd (sameV c t12) (
vGeq t10 t12 h fun t13 h =>
K t13 h)
theorem s_lagoonref15_Behind_eq (cf : CallK) (fuel : Nat) (t0 : AV) (t1 : AV) (h : Hp) (K : AV → Hp → Prop) : s_lagoonref15_Behind cf fuel t0 t1 h K = deepT (tabOf Try.prog) f_lagoonref15_Behind cf fuel [t0, t1] h K :=
  Eq.trans (by kernel_rfl) (rFun (by kernel_rfl) rExact)

noncomputable def s_lagoonref15_HeadsE0 (cf : CallK) (fuel : Nat) (K : AV → Hp → Prop) : AV → Hp → Prop := fun t3 h =>
K t3 h
noncomputable def s_lagoonref15_HeadsE2 (cf : CallK) (fuel : Nat) (ih1 : AV → AV → Hp → Prop) (t0 : AV) (t4 : AV) : AV → Hp → Prop := fun t3 h =>
vAdd t4 (.int .i64 1) h fun t12 h =>
ih1 t3 t12 h
noncomputable def s_lagoonref15_HeadsE3 (cf : CallK) (fuel : Nat) (e2 : AV → Hp → Prop) (t0 : AV) (t3 : AV) (t4 : AV) : AV → Hp → Prop := fun t5 h =>
vIf t5 (
vIaddr 11 t0 t4 h fun t37 h =>
vLoadA 11 t37 h fun t38 h =>
vBslice 11 1 false [(.int .i64 0), (.int .i64 0), (.int .i64 0), (.int .i64 0), (.int .i64 0), (.int .i64 0), (.int .i64 0), (.int .i64 0), (.str 0 0), .nilslice, .nilslice] [(0, 11, t38)] h fun t39 h =>
vAppend2 11 128 false t3 t39 h fun t40 h =>
e2 t40 h) (
e2 t3 h)
noncomputable def s_lagoonref15_HeadsB15 (cf : CallK) (fuel : Nat) (ih4 : AV → AV → Hp → Prop) (t0 : AV) (t6 : AV) (t4 : AV) (t5 : AV) (h : Hp) : Prop :=
(fun (e5 : AV → Hp → Prop) =>
vNeq t6 t4 h fun t21 h =>
joinG (fun g14 => grdV t21 true (vMov t0 h g14) (g14 undefV h)) fun t23 h =>
joinG (fun g13 => grdV t21 true (vMov t4 h g13) (g13 undefV h)) fun t24 h =>
joinG (fun g12 => grdV t21 true (vIaddr 11 t23 t24 h g12) (g12 undefV h)) fun t25 h =>
joinG (fun g11 => grdV t21 true (vLoadA 11 t25 h g11) (g11 undefV h)) fun t26 h =>
joinG (fun g10 => grdV t21 true (vMov t0 h g10) (g10 undefV h)) fun t27 h =>
joinG (fun g9 => grdV t21 true (vMov t6 h g9) (g9 undefV h)) fun t28 h =>
joinG (fun g8 => grdV t21 true (vIaddr 11 t27 t28 h g8) (g8 undefV h)) fun t29 h =>
joinG (fun g7 => grdV t21 true (vLoadA 11 t29 h g7) (g7 undefV h)) fun t30 h =>
joinG (fun g6 => grdV t21 true (cf f_lagoonref15_Behind [t26, t30] h g6) (g6 undefV h)) fun t31 h =>
vPick t21 t31 (.bool .false) h fun t32 h =>
vIf t32 (
e5 (.bool .false) h) (
e5 t5 h)) fun t5 h =>
vAdd t6 (.int .i64 1) h fun t18 h =>
ih4 t5 t18 h
noncomputable def s_lagoonref15_HeadsL4B (cf : CallK) (fuel : Nat) (e3 : AV → Hp → Prop) (t0 : AV) (t3 : AV) (t4 : AV) (ih4 : AV → AV → Hp → Prop) : AV → AV → Hp → Prop := fun t5 t6 h =>
vLenL2 t0 h fun t15 h =>
vLss t6 t15 h fun t16 h =>
vIf t16 (
s_lagoonref15_HeadsB15 cf fuel ih4 t0 t6 t4 t5 h) (
e3 t5 h)
noncomputable def s_lagoonref15_HeadsL4 (cf : CallK) (fuel : Nat) (e3 : AV → Hp → Prop) (t0 : AV) (t3 : AV) (t4 : AV) (m : Nat) : AV → AV → Hp → Prop := Nat.rec (motive := fun _ => AV → AV → Hp → Prop) (fun _ _ _ => False) (fun _ ih => s_lagoonref15_HeadsL4B cf fuel e3 t0 t3 t4 ih) m
theorem s_lagoonref15_HeadsL4_succ (cf : CallK) (fuel : Nat) (e3 : AV → Hp → Prop) (t0 : AV) (t3 : AV) (t4 : AV) (m : Nat) : s_lagoonref15_HeadsL4 cf fuel e3 t0 t3 t4 (m + 1) = s_lagoonref15_HeadsL4B cf fuel e3 t0 t3 t4 (s_lagoonref15_HeadsL4 cf fuel e3 t0 t3 t4 m) := rfl
noncomputable def s_lagoonref15_HeadsL1B (cf : CallK) (fuel : Nat) (e0 : AV → Hp → Prop) (t0 : AV) (ih1 : AV → AV → Hp → Prop) : AV → AV → Hp → Prop := fun t3 t4 h =>
vLenL2 t0 h fun t9 h =>
vLss t4 t9 h fun t10 h =>
vIf t10 (
(fun (e2 : AV → Hp → Prop) =>
(fun (e3 : AV → Hp → Prop) =>
s_lagoonref15_HeadsL4 cf fuel (s_lagoonref15_HeadsE3 cf fuel (s_lagoonref15_HeadsE2 cf fuel ih1 t0 t4) t0 t3 t4) t0 t3 t4 fuel (.bool .true) (.int .i64 0) h) (s_lagoonref15_HeadsE3 cf fuel (s_lagoonref15_HeadsE2 cf fuel ih1 t0 t4) t0 t3 t4)) (s_lagoonref15_HeadsE2 cf fuel ih1 t0 t4)) (
e0 t3 h)
noncomputable def s_lagoonref15_HeadsL1 (cf : CallK) (fuel : Nat) (e0 : AV → Hp → Prop) (t0 : AV) (m : Nat) : AV → AV → Hp → Prop := Nat.rec (motive := fun _ => AV → AV → Hp → Prop) (fun _ _ _ => False) (fun _ ih => s_lagoonref15_HeadsL1B cf fuel e0 t0 ih) m
theorem s_lagoonref15_HeadsL1_succ (cf : CallK) (fuel : Nat) (e0 : AV → Hp → Prop) (t0 : AV) (m : Nat) : s_lagoonref15_HeadsL1 cf fuel e0 t0 (m + 1) = s_lagoonref15_HeadsL1B cf fuel e0 t0 (s_lagoonref15_HeadsL1 cf fuel e0 t0 m) := rfl
noncomputable def s_lagoonref15_Heads (cf : CallK) (fuel : Nat) (t0 : AV) (h : Hp) (K : AV → Hp → Prop) : Prop :=
(fun (e0 : AV → Hp → Prop) =>
s_lagoonref15_HeadsL1 cf fuel (s_lagoonref15_HeadsE0 cf fuel K) t0 fuel .nilslice (.int .i64 0) h) (s_lagoonref15_HeadsE0 cf fuel K)
theorem s_lagoonref15_Heads_eq (cf : CallK) (fuel : Nat) (t0 : AV) (h : Hp) (K : AV → Hp → Prop) : s_lagoonref15_Heads cf fuel t0 h K = deepT (tabOf Try.prog) f_lagoonref15_Heads cf fuel [t0] h K :=
  Eq.trans (by kernel_rfl) (rFun (by kernel_rfl) (rSeq (by kernel_rfl) (rSeq (by kernel_rfl) (rSeq (by kernel_rfl) rExact (rSeq (by kernel_rfl) (rBlock (by kernel_rfl) (rLoop (by kernel_rfl) (fun m1 fr h => s_lagoonref15_HeadsL1 cf fuel (s_lagoonref15_HeadsE0 cf fuel K) (getS fr (gpos 0)) m1 (getS fr (gpos 3)) (getS fr (gpos 4)) h) (funext fun fr => funext fun h => by kernel_rfl) fun m1 => rCast (funext fun fr => funext fun h => by kernel_rfl) (rSeq (by kernel_rfl) (rSeq (by kernel_rfl) rExact (rBlock (by kernel_rfl) (rSeq (by kernel_rfl) (rSeq (by kernel_rfl) rExact (rSeq (by kernel_rfl) (rBlock (by kernel_rfl) (rLoop (by kernel_rfl) (fun m4 fr h => s_lagoonref15_HeadsL4 cf fuel (s_lagoonref15_HeadsE3 cf fuel (s_lagoonref15_HeadsE2 cf fuel (s_lagoonref15_HeadsL1 cf fuel (s_lagoonref15_HeadsE0 cf fuel K) (getS fr (gpos 0)) m1) (getS fr (gpos 0)) (getS fr (gpos 4))) (getS fr (gpos 0)) (getS fr (gpos 3)) (getS fr (gpos 4))) (getS fr (gpos 0)) (getS fr (gpos 3)) (getS fr (gpos 4)) m4 (getS fr (gpos 5)) (getS fr (gpos 6)) h) (funext fun fr => funext fun h => by kernel_rfl) fun m4 => rCast (funext fun fr => funext fun h => by kernel_rfl) rExact)) rExact)) rExact))) rExact))) rExact)) rExact) rExact))

noncomputable def s_lagoonref12_SortedE0 (cf : CallK) (fuel : Nat) (K : AV → Hp → Prop) : AV → Hp → Prop := fun t3 h =>
K t3 h
noncomputable def s_lagoonref12_SortedE2 (cf : CallK) (fuel : Nat) (ih1 : AV → AV → Hp → Prop) (t0 : AV) (t4 : AV) : AV → Hp → Prop := fun t3 h =>
vAdd t4 (.int .i64 1) h fun t13 h =>
ih1 t3 t13 h
noncomputable def s_lagoonref12_SortedE3 (cf : CallK) (fuel : Nat) (e2 : AV → Hp → Prop) (t0 : AV) (t3 : AV) (t4 : AV) : Hp → Prop := fun h =>
e2 t3 h
noncomputable def s_lagoonref12_SortedB7 (cf : CallK) (fuel : Nat) (ih4 : AV → Hp → Prop) (t5 : AV) (t3 : AV) (h : Hp) : Prop :=
(fun (e5 : Hp → Prop) =>
(fun (j6 : AV → AV → Hp → Prop) =>
(vArith Go.Am.subI t5 (.int .i64 1) h fun t44 h =>
vIaddr 11 t3 t44 h fun t45 h =>
vLoadA 11 t45 h fun t46 h =>
vIaddr 11 t3 t5 h fun t49 h =>
vLoadA 11 t49 h fun t50 h =>
vBox 11 (.agg [(.int .i64 0), (.int .i64 0), (.int .i64 0), (.int .i64 0), (.int .i64 0), (.int .i64 0), (.int .i64 0), (.int .i64 0), (.str 0 0), .nilslice, .nilslice]) h fun t6 h =>
vLoadA 11 t45 h fun c _ => gd (sameV c t46) (
vLoadA 11 t49 h fun c _ => gd (sameV c t50) (
vBox 11 (.agg [(.int .i64 0), (.int .i64 0), (.int .i64 0), (.int .i64 0), (.int .i64 0), (.int .i64 0), (.int .i64 0), (.int .i64 0), (.str 0 0), .nilslice, .nilslice]) h fun t7 h =>
vLoadA 11 t45 h fun c _ => gd (sameV c t46) (
vLoadA 11 t49 h fun c _ => gd (sameV c t50) (
vStore 11 t6 t46 h fun _ h =>
vLoadA 11 t49 h fun c _ => gd (sameV c t50) (
vStore 11 t7 t50 h fun _ h =>
j6 t6 t7 h)))))) ∧
(vArith Go.Am.subI t5 (.int .i64 1) h fun t44 h =>
vIaddr 11 t3 t44 h fun t45 h =>
vLoadA 11 t45 h fun t46 h =>
vIaddr 11 t3 t5 h fun t49 h =>
vLoadA 11 t49 h fun t50 h =>
vBox 11 (.agg [(.int .i64 0), (.int .i64 0), (.int .i64 0), (.int .i64 0), (.int .i64 0), (.int .i64 0), (.int .i64 0), (.int .i64 0), (.str 0 0), .nilslice, .nilslice]) h fun t7 h =>
vLoadA 11 t45 h fun c _ => gd (sameV c t46) (
vLoadA 11 t49 h fun c _ => gd (sameV c t50) (
vBox 11 (.agg [(.int .i64 0), (.int .i64 0), (.int .i64 0), (.int .i64 0), (.int .i64 0), (.int .i64 0), (.int .i64 0), (.int .i64 0), (.str 0 0), .nilslice, .nilslice]) h fun t6 h =>
vLoadA 11 t45 h fun c _ => gd (sameV c t46) (
vLoadA 11 t49 h fun c _ => gd (sameV c t50) (
vStore 11 t6 t46 h fun _ h =>
vLoadA 11 t49 h fun c _ => gd (sameV c t50) (
vStore 11 t7 t50 h fun _ h =>
j6 t6 t7 h))))))) fun t6 t7 h =>
vArith Go.Am.subI t5 (.int .i64 1) h fun t53 h =>
vLoadA 11 t7 h fun t54 h =>
vIaddr 11 t3 t53 h fun t55 h =>
vStore 11 t55 t54 h fun _ h =>
vLoadA 11 t6 h fun t58 h =>
vIaddr 11 t3 t5 h fun t59 h =>
vStore 11 t59 t58 h fun _ h =>
e5 h) fun h =>
vArith Go.Am.subI t5 (.int .i64 1) h fun t41 h =>
ih4 t41 h
noncomputable def s_lagoonref12_SortedL4B (cf : CallK) (fuel : Nat) (e3 : Hp → Prop) (t0 : AV) (t3 : AV) (t4 : AV) (ih4 : AV → Hp → Prop) : AV → Hp → Prop := fun t5 h =>
vGtr t5 (.int .i64 0) h fun t25 h =>
joinG (fun g19 => grdV t25 true (vMov t3 h g19) (g19 undefV h)) fun t27 h =>
joinG (fun g18 => grdV t25 true (vMov t5 h g18) (g18 undefV h)) fun t28 h =>
joinG (fun g17 => grdV t25 true (vIaddr 11 t27 t28 h g17) (g17 undefV h)) fun t29 h =>
joinG (fun g16 => grdV t25 true (vFaddr 0 t29 h g16) (g16 undefV h)) fun t30 h =>
joinG (fun g15 => grdV t25 true (vLoadA 2 t30 h g15) (g15 undefV h)) fun t31 h =>
joinG (fun g14 => grdV t25 true (vMov t3 h g14) (g14 undefV h)) fun t32 h =>
joinG (fun g13 => grdV t25 true (vMov t5 h g13) (g13 undefV h)) fun t33 h =>
joinG (fun g12 => grdV t25 true (vArith Go.Am.subI t33 (.int .i64 1) h g12) (g12 undefV h)) fun t34 h =>
joinG (fun g11 => grdV t25 true (vIaddr 11 t32 t34 h g11) (g11 undefV h)) fun t35 h =>
joinG (fun g10 => grdV t25 true (vFaddr 0 t35 h g10) (g10 undefV h)) fun t36 h =>
joinG (fun g9 => grdV t25 true (vLoadA 2 t36 h g9) (g9 undefV h)) fun t37 h =>
joinG (fun g8 => grdV t25 true (cf f_lagoonref4_Less [t31, t37] h g8) (g8 undefV h)) fun t38 h =>
vPick t25 t38 (.bool .false) h fun t39 h =>
vIf t39 (
s_lagoonref12_SortedB7 cf fuel ih4 t5 t3 h) (
e3 h)
noncomputable def s_lagoonref12_SortedL4 (cf : CallK) (fuel : Nat) (e3 : Hp → Prop) (t0 : AV) (t3 : AV) (t4 : AV) (m : Nat) : AV → Hp → Prop := Nat.rec (motive := fun _ => AV → Hp → Prop) (fun _ _ => False) (fun _ ih => s_lagoonref12_SortedL4B cf fuel e3 t0 t3 t4 ih) m
theorem s_lagoonref12_SortedL4_succ (cf : CallK) (fuel : Nat) (e3 : Hp → Prop) (t0 : AV) (t3 : AV) (t4 : AV) (m : Nat) : s_lagoonref12_SortedL4 cf fuel e3 t0 t3 t4 (m + 1) = s_lagoonref12_SortedL4B cf fuel e3 t0 t3 t4 (s_lagoonref12_SortedL4 cf fuel e3 t0 t3 t4 m) := rfl
noncomputable def s_lagoonref12_SortedL1B (cf : CallK) (fuel : Nat) (e0 : AV → Hp → Prop) (t0 : AV) (ih1 : AV → AV → Hp → Prop) : AV → AV → Hp → Prop := fun t3 t4 h =>
vLenL2 t0 h fun t10 h =>
vLss t4 t10 h fun t11 h =>
vIf t11 (
(fun (e2 : AV → Hp → Prop) =>
vIaddr 11 t0 t4 h fun t17 h =>
vLoadA 11 t17 h fun t18 h =>
vBslice 11 1 false [(.int .i64 0), (.int .i64 0), (.int .i64 0), (.int .i64 0), (.int .i64 0), (.int .i64 0), (.int .i64 0), (.int .i64 0), (.str 0 0), .nilslice, .nilslice] [(0, 11, t18)] h fun t19 h =>
vAppend2 11 128 false t3 t19 h fun t20 h =>
vLenL2 t20 h fun t22 h =>
vArith Go.Am.subI t22 (.int .i64 1) h fun t23 h =>
(fun (e3 : Hp → Prop) =>
s_lagoonref12_SortedL4 cf fuel (s_lagoonref12_SortedE3 cf fuel (s_lagoonref12_SortedE2 cf fuel ih1 t0 t4) t0 t20 t4) t0 t20 t4 fuel t23 h) (s_lagoonref12_SortedE3 cf fuel (s_lagoonref12_SortedE2 cf fuel ih1 t0 t4) t0 t20 t4)) (s_lagoonref12_SortedE2 cf fuel ih1 t0 t4)) (
e0 t3 h)
noncomputable def s_lagoonref12_SortedL1 (cf : CallK) (fuel : Nat) (e0 : AV → Hp → Prop) (t0 : AV) (m : Nat) : AV → AV → Hp → Prop := Nat.rec (motive := fun _ => AV → AV → Hp → Prop) (fun _ _ _ => False) (fun _ ih => s_lagoonref12_SortedL1B cf fuel e0 t0 ih) m
theorem s_lagoonref12_SortedL1_succ (cf : CallK) (fuel : Nat) (e0 : AV → Hp → Prop) (t0 : AV) (m : Nat) : s_lagoonref12_SortedL1 cf fuel e0 t0 (m + 1) = s_lagoonref12_SortedL1B cf fuel e0 t0 (s_lagoonref12_SortedL1 cf fuel e0 t0 m) := rfl
noncomputable def s_lagoonref12_Sorted (cf : CallK) (fuel : Nat) (t0 : AV) (h : Hp) (K : AV → Hp → Prop) : Prop :=
(fun (e0 : AV → Hp → Prop) =>
s_lagoonref12_SortedL1 cf fuel (s_lagoonref12_SortedE0 cf fuel K) t0 fuel .nilslice (.int .i64 0) h) (s_lagoonref12_SortedE0 cf fuel K)
theorem s_lagoonref12_Sorted_eq (cf : CallK) (fuel : Nat) (t0 : AV) (h : Hp) (K : AV → Hp → Prop) : s_lagoonref12_Sorted cf fuel t0 h K = deepT (tabOf Try.prog) f_lagoonref12_Sorted cf fuel [t0] h K :=
  Eq.trans (by kernel_rfl) (rFun (by kernel_rfl) (rSeq (by kernel_rfl) (rSeq (by kernel_rfl) (rSeq (by kernel_rfl) rExact (rSeq (by kernel_rfl) (rBlock (by kernel_rfl) (rLoop (by kernel_rfl) (fun m1 fr h => s_lagoonref12_SortedL1 cf fuel (s_lagoonref12_SortedE0 cf fuel K) (getS fr (gpos 0)) m1 (getS fr (gpos 3)) (getS fr (gpos 4)) h) (funext fun fr => funext fun h => by kernel_rfl) fun m1 => rCast (funext fun fr => funext fun h => by kernel_rfl) (rSeq (by kernel_rfl) (rSeq (by kernel_rfl) rExact (rBlock (by kernel_rfl) (rSeq (by kernel_rfl) (rSeq (by kernel_rfl) (rBlock (by kernel_rfl) (rLoop (by kernel_rfl) (fun m4 fr h => s_lagoonref12_SortedL4 cf fuel (s_lagoonref12_SortedE3 cf fuel (s_lagoonref12_SortedE2 cf fuel (s_lagoonref12_SortedL1 cf fuel (s_lagoonref12_SortedE0 cf fuel K) (getS fr (gpos 0)) m1) (getS fr (gpos 0)) (getS fr (gpos 4))) (getS fr (gpos 0)) (getS fr (gpos 3)) (getS fr (gpos 4))) (getS fr (gpos 0)) (getS fr (gpos 3)) (getS fr (gpos 4)) m4 (getS fr (gpos 5)) h) (funext fun fr => funext fun h => by kernel_rfl) fun m4 => rCast (funext fun fr => funext fun h => by kernel_rfl) rExact)) rExact) rExact))) rExact))) rExact)) rExact) rExact))

noncomputable def s_content_File_Size (cf : CallK) (fuel : Nat) (t0 : AV) (h : Hp) (K : AV → Hp → Prop) : Prop :=
cf f_content_File_Value [t0] h fun t4 h =>
vLenL2 t4 h fun t5 h =>
K t5 h
theorem s_content_File_Size_eq (cf : CallK) (fuel : Nat) (t0 : AV) (h : Hp) (K : AV → Hp → Prop) : s_content_File_Size cf fuel t0 h K = deepT (tabOf Try.prog) f_content_File_Size cf fuel [t0] h K :=
  Eq.trans (by kernel_rfl) (rFun (by kernel_rfl) rExact)

noncomputable def s_content_File_Len (cf : CallK) (fuel : Nat) (t0 : AV) (h : Hp) (K : AV → Hp → Prop) : Prop :=
vEq false eqP t0 .nilptr h fun t4 h =>
vIf t4 (
K (.int .i64 0) h) (
vNilck t0 h fun t6 h =>
vFaddr 0 t6 h fun t7 h =>
vLoad2 t7 h fun t8 h =>
vLenL2 t8 h fun t9 h =>
K t9 h)
theorem s_content_File_Len_eq (cf : CallK) (fuel : Nat) (t0 : AV) (h : Hp) (K : AV → Hp → Prop) : s_content_File_Len cf fuel t0 h K = deepT (tabOf Try.prog) f_content_File_Len cf fuel [t0] h K :=
  Eq.trans (by kernel_rfl) (rFun (by kernel_rfl) rExact)

noncomputable def s_lagoonlaw17_isE0 (cf : CallK) (fuel : Nat) (K : AV → Hp → Prop) : Hp → Prop := fun h =>
K (.bool .true) h
noncomputable def s_lagoonlaw17_isB39 (cf : CallK) (fuel : Nat) (K : AV → Hp → Prop) (ih1 : AV → Hp → Prop) (t0 : AV) (t5 : AV) (t1 : AV) (h : Hp) : Prop :=
(fun (e2 : Hp → Prop) =>
vIaddr 5 t0 t5 h fun t19 h =>
vFaddr 0 t19 h fun t20 h =>
vLoadA 2 t20 h fun t21 h =>
vIaddr 11 t1 t5 h fun t24 h =>
vFaddr 0 t24 h fun t25 h =>
vLoadA 2 t25 h fun t26 h =>
cf f_lagoonref4_Same [t21, t26] h fun t27 h =>
vNot t27 h fun t28 h =>
joinG (fun g38 => grdV t28 false (vMov t0 h g38) (g38 undefV h)) fun t30 h =>
joinG (fun g37 => grdV t28 false (vMov t5 h g37) (g37 undefV h)) fun t31 h =>
joinG (fun g36 => grdV t28 false (vIaddr 5 t30 t31 h g36) (g36 undefV h)) fun t32 h =>
joinG (fun g35 => grdV t28 false (vFaddr 2 t32 h g35) (g35 undefV h)) fun t33 h =>
joinG (fun g34 => grdV t28 false (vLoad2 t33 h g34) (g34 undefV h)) fun t34 h =>
joinG (fun g33 => grdV t28 false (vMov t1 h g33) (g33 undefV h)) fun t35 h =>
joinG (fun g32 => grdV t28 false (vMov t5 h g32) (g32 undefV h)) fun t36 h =>
joinG (fun g31 => grdV t28 false (vIaddr 11 t35 t36 h g31) (g31 undefV h)) fun t37 h =>
joinG (fun g30 => grdV t28 false (vFaddr 2 t37 h g30) (g30 undefV h)) fun t38 h =>
joinG (fun g29 => grdV t28 false (vLoad2 t38 h g29) (g29 undefV h)) fun t39 h =>
joinG (fun g28 => grdV t28 false (vNeq t34 t39 h g28) (g28 undefV h)) fun t40 h =>
vPick t28 (.bool .true) t40 h fun t41 h =>
joinG (fun g27 => grdV t41 false (vMov t0 h g27) (g27 undefV h)) fun t43 h =>
joinG (fun g26 => grdV t41 false (vMov t5 h g26) (g26 undefV h)) fun t44 h =>
joinG (fun g25 => grdV t41 false (vIaddr 5 t43 t44 h g25) (g25 undefV h)) fun t45 h =>
joinG (fun g24 => grdV t41 false (vFaddr 3 t45 h g24) (g24 undefV h)) fun t46 h =>
joinG (fun g23 => grdV t41 false (vLoad2 t46 h g23) (g23 undefV h)) fun t47 h =>
joinG (fun g22 => grdV t41 false (vMov t1 h g22) (g22 undefV h)) fun t48 h =>
joinG (fun g21 => grdV t41 false (vMov t5 h g21) (g21 undefV h)) fun t49 h =>
joinG (fun g20 => grdV t41 false (vIaddr 11 t48 t49 h g20) (g20 undefV h)) fun t50 h =>
joinG (fun g19 => grdV t41 false (vFaddr 10 t50 h g19) (g19 undefV h)) fun t51 h =>
joinG (fun g18 => grdV t41 false (vLoad2 t51 h g18) (g18 undefV h)) fun t52 h =>
joinG (fun g17 => grdV t41 false (cf f_lagoonref4_Eq [t47, t52] h g17) (g17 undefV h)) fun t53 h =>
joinG (fun g16 => grdV t41 false (vNot t53 h g16) (g16 undefV h)) fun t54 h =>
vPick t41 (.bool .true) t54 h fun t55 h =>
joinG (fun g15 => grdV t55 false (vMov t0 h g15) (g15 undefV h)) fun t57 h =>
joinG (fun g14 => grdV t55 false (vMov t5 h g14) (g14 undefV h)) fun t58 h =>
joinG (fun g13 => grdV t55 false (vIaddr 5 t57 t58 h g13) (g13 undefV h)) fun t59 h =>
joinG (fun g12 => grdV t55 false (vFaddr 4 t59 h g12) (g12 undefV h)) fun t60 h =>
joinG (fun g11 => grdV t55 false (vLoad2 t60 h g11) (g11 undefV h)) fun t61 h =>
joinG (fun g10 => grdV t55 false (vToStr t61 h g10) (g10 undefV h)) fun t62 h =>
joinG (fun g9 => grdV t55 false (vMov t1 h g9) (g9 undefV h)) fun t63 h =>
joinG (fun g8 => grdV t55 false (vMov t5 h g8) (g8 undefV h)) fun t64 h =>
joinG (fun g7 => grdV t55 false (vIaddr 11 t63 t64 h g7) (g7 undefV h)) fun t65 h =>
joinG (fun g6 => grdV t55 false (vFaddr 9 t65 h g6) (g6 undefV h)) fun t66 h =>
joinG (fun g5 => grdV t55 false (vLoad2 t66 h g5) (g5 undefV h)) fun t67 h =>
joinG (fun g4 => grdV t55 false (vToStr t67 h g4) (g4 undefV h)) fun t68 h =>
joinG (fun g3 => grdV t55 false (vNeq t62 t68 h g3) (g3 undefV h)) fun t69 h =>
vPick t55 (.bool .true) t69 h fun t70 h =>
vIf t70 (
K (.bool .false) h) (
e2 h)) fun h =>
vAdd t5 (.int .i64 1) h fun t16 h =>
ih1 t16 h
noncomputable def s_lagoonlaw17_isL1B (cf : CallK) (fuel : Nat) (K : AV → Hp → Prop) (e0 : Hp → Prop) (t0 : AV) (t1 : AV) (ih1 : AV → Hp → Prop) : AV → Hp → Prop := fun t5 h =>
vLenL2 t0 h fun t13 h =>
vLss t5 t13 h fun t14 h =>
vIf t14 (
s_lagoonlaw17_isB39 cf fuel K ih1 t0 t5 t1 h) (
e0 h)
noncomputable def s_lagoonlaw17_isL1 (cf : CallK) (fuel : Nat) (K : AV → Hp → Prop) (e0 : Hp → Prop) (t0 : AV) (t1 : AV) (m : Nat) : AV → Hp → Prop := Nat.rec (motive := fun _ => AV → Hp → Prop) (fun _ _ => False) (fun _ ih => s_lagoonlaw17_isL1B cf fuel K e0 t0 t1 ih) m
theorem s_lagoonlaw17_isL1_succ (cf : CallK) (fuel : Nat) (K : AV → Hp → Prop) (e0 : Hp → Prop) (t0 : AV) (t1 : AV) (m : Nat) : s_lagoonlaw17_isL1 cf fuel K e0 t0 t1 (m + 1) = s_lagoonlaw17_isL1B cf fuel K e0 t0 t1 (s_lagoonlaw17_isL1 cf fuel K e0 t0 t1 m) := rfl
noncomputable def s_lagoonlaw17_is (cf : CallK) (fuel : Nat) (t0 : AV) (t1 : AV) (h : Hp) (K : AV → Hp → Prop) : Prop :=
vLenL2 t0 h fun t7 h =>
vLenL2 t1 h fun t9 h =>
vNeq t7 t9 h fun t10 h =>
vIf t10 (
K (.bool .false) h) (
(fun (e0 : Hp → Prop) =>
s_lagoonlaw17_isL1 cf fuel K (s_lagoonlaw17_isE0 cf fuel K) t0 t1 fuel (.int .i64 0) h) (s_lagoonlaw17_isE0 cf fuel K))
theorem s_lagoonlaw17_is_eq (cf : CallK) (fuel : Nat) (t0 : AV) (t1 : AV) (h : Hp) (K : AV → Hp → Prop) : s_lagoonlaw17_is cf fuel t0 t1 h K = deepT (tabOf Try.prog) f_lagoonlaw17_is cf fuel [t0, t1] h K :=
  Eq.trans (by kernel_rfl) (rFun (by kernel_rfl) (rSeq (by kernel_rfl) (rSeq (by kernel_rfl) (rSeq (by kernel_rfl) rExact (rSeq (by kernel_rfl) (rBlock (by kernel_rfl) (rLoop (by kernel_rfl) (fun m1 fr h => s_lagoonlaw17_isL1 cf fuel K (s_lagoonlaw17_isE0 cf fuel K) (getS fr (gpos 0)) (getS fr (gpos 1)) m1 (getS fr (gpos 5)) h) (funext fun fr => funext fun h => by kernel_rfl) fun m1 => rCast (funext fun fr => funext fun h => by kernel_rfl) rExact)) rExact)) rExact) rExact))

noncomputable def s_lagoonref4_shortE0 (cf : CallK) (fuel : Nat) (K : AV → Hp → Prop) (t0 : AV) : AV → Hp → Prop := fun t3 h =>
vSlice3 1 t0 none t3 t3 h fun t21 h =>
K t21 h
noncomputable def s_lagoonref4_shortL1B (cf : CallK) (fuel : Nat) (e0 : AV → Hp → Prop) (t0 : AV) (ih1 : AV → Hp → Prop) : AV → Hp → Prop := fun t3 h =>
vGtr t3 (.int .i64 0) h fun t7 h =>
joinG (fun g9 => grdV t7 true (vMov t0 h g9) (g9 undefV h)) fun t9 h =>
joinG (fun g8 => grdV t7 true (vMov t3 h g8) (g8 undefV h)) fun t10 h =>
joinG (fun g7 => grdV t7 true (vArith Go.Am.subI t10 (.int .i64 1) h g7) (g7 undefV h)) fun t11 h =>
joinG (fun g6 => grdV t7 true (vIaddr 1 t9 t11 h g6) (g6 undefV h)) fun t12 h =>
joinG (fun g5 => grdV t7 true (vLoad2 t12 h g5) (g5 undefV h)) fun t13 h =>
joinG (fun g4 => grdV t7 true (vEql t13 (.int .i64 0) h g4) (g4 undefV h)) fun t14 h =>
vPick t7 t14 (.bool .false) h fun t15 h =>
vIf t15 (
(fun (e2 : AV → Hp → Prop) =>
vArith Go.Am.subI t3 (.int .i64 1) h fun t17 h =>
e2 t17 h) fun t3_3 h =>
ih1 t3_3 h) (
e0 t3 h)
noncomputable def s_lagoonref4_shortL1 (cf : CallK) (fuel : Nat) (e0 : AV → Hp → Prop) (t0 : AV) (m : Nat) : AV → Hp → Prop := Nat.rec (motive := fun _ => AV → Hp → Prop) (fun _ _ => False) (fun _ ih => s_lagoonref4_shortL1B cf fuel e0 t0 ih) m
theorem s_lagoonref4_shortL1_succ (cf : CallK) (fuel : Nat) (e0 : AV → Hp → Prop) (t0 : AV) (m : Nat) : s_lagoonref4_shortL1 cf fuel e0 t0 (m + 1) = s_lagoonref4_shortL1B cf fuel e0 t0 (s_lagoonref4_shortL1 cf fuel e0 t0 m) := rfl
noncomputable def s_lagoonref4_short (cf : CallK) (fuel : Nat) (t0 : AV) (h : Hp) (K : AV → Hp → Prop) : Prop :=
vLenL2 t0 h fun t5 h =>
(fun (e0 : AV → Hp → Prop) =>
s_lagoonref4_shortL1 cf fuel (s_lagoonref4_shortE0 cf fuel K t0) t0 fuel t5 h) (s_lagoonref4_shortE0 cf fuel K t0)
theorem s_lagoonref4_short_eq (cf : CallK) (fuel : Nat) (t0 : AV) (h : Hp) (K : AV → Hp → Prop) : s_lagoonref4_short cf fuel t0 h K = deepT (tabOf Try.prog) f_lagoonref4_short cf fuel [t0] h K :=
  Eq.trans (by kernel_rfl) (rFun (by kernel_rfl) (rSeq (by kernel_rfl) (rSeq (by kernel_rfl) (rSeq (by kernel_rfl) rExact (rBlock (by kernel_rfl) (rLoop (by kernel_rfl) (fun m1 fr h => s_lagoonref4_shortL1 cf fuel (s_lagoonref4_shortE0 cf fuel K (getS fr (gpos 0))) (getS fr (gpos 0)) m1 (getS fr (gpos 3)) h) (funext fun fr => funext fun h => by kernel_rfl) fun m1 => rCast (funext fun fr => funext fun h => by kernel_rfl) rExact))) rExact) rExact))

noncomputable def s_lagoonref4_WithE0 (cf : CallK) (fuel : Nat) (K : AV → Hp → Prop) : AV → Hp → Prop := fun t7 h =>
cf f_lagoonref4_short [t7] h fun t43 h =>
K t43 h
noncomputable def s_lagoonref4_WithL1B (cf : CallK) (fuel : Nat) (e0 : AV → Hp → Prop) (t0 : AV) (t1 : AV) (t2 : AV) (ih1 : AV → AV → Hp → Prop) : AV → AV → Hp → Prop := fun t7 t8 h =>
vLss t8 (.int .i64 64) h fun t26 h =>
vIf t26 (
(fun (e2 : AV → Hp → Prop) =>
vEql t8 t1 h fun t31 h =>
vIf t31 (
vBslice 1 1 false [(.int .i64 0)] [(0, 1, t2)] h fun t34 h =>
vAppend2 1 8 false t7 t34 h fun t35 h =>
e2 t35 h) (
cf f_lagoonref4_At [t0, t8] h fun t39 h =>
vBslice 1 1 false [(.int .i64 0)] [(0, 1, t39)] h fun t40 h =>
vAppend2 1 8 false t7 t40 h fun t41 h =>
e2 t41 h)) fun t7 h =>
vAdd t8 (.int .i64 1) h fun t28 h =>
ih1 t7 t28 h) (
e0 t7 h)
noncomputable def s_lagoonref4_WithL1 (cf : CallK) (fuel : Nat) (e0 : AV → Hp → Prop) (t0 : AV) (t1 : AV) (t2 : AV) (m : Nat) : AV → AV → Hp → Prop := Nat.rec (motive := fun _ => AV → AV → Hp → Prop) (fun _ _ _ => False) (fun _ ih => s_lagoonref4_WithL1B cf fuel e0 t0 t1 t2 ih) m
theorem s_lagoonref4_WithL1_succ (cf : CallK) (fuel : Nat) (e0 : AV → Hp → Prop) (t0 : AV) (t1 : AV) (t2 : AV) (m : Nat) : s_lagoonref4_WithL1 cf fuel e0 t0 t1 t2 (m + 1) = s_lagoonref4_WithL1B cf fuel e0 t0 t1 t2 (s_lagoonref4_WithL1 cf fuel e0 t0 t1 t2 m) := rfl
noncomputable def s_lagoonref4_With (cf : CallK) (fuel : Nat) (t0 : AV) (t1 : AV) (t2 : AV) (h : Hp) (K : AV → Hp → Prop) : Prop :=
vLss t1 (.int .i64 0) h fun t10 h =>
joinG (fun g8 => grdV t10 false (vMov t1 h g8) (g8 undefV h)) fun t12 h =>
joinG (fun g7 => grdV t10 false (vGeq t12 (.int .i64 64) h g7) (g7 undefV h)) fun t13 h =>
vPick t10 (.bool .true) t13 h fun t14 h =>
joinG (fun g6 => grdV t14 false (vMov t2 h g6) (g6 undefV h)) fun t16 h =>
joinG (fun g5 => grdV t14 false (vLss t16 (.int .i64 0) h g5) (g5 undefV h)) fun t17 h =>
vPick t14 (.bool .true) t17 h fun t18 h =>
joinG (fun g4 => grdV t18 false (vMov t2 h g4) (g4 undefV h)) fun t20 h =>
joinG (fun g3 => grdV t18 false (vGtr t20 (.int .i64 1152921504606846976) h g3) (g3 undefV h)) fun t21 h =>
vPick t18 (.bool .true) t21 h fun t22 h =>
vIf t22 (
cf f_lagoonref4_Norm [t0] h fun t24 h =>
K t24 h) (
(fun (e0 : AV → Hp → Prop) =>
s_lagoonref4_WithL1 cf fuel (s_lagoonref4_WithE0 cf fuel K) t0 t1 t2 fuel .nilslice (.int .i64 0) h) (s_lagoonref4_WithE0 cf fuel K))
theorem s_lagoonref4_With_eq (cf : CallK) (fuel : Nat) (t0 : AV) (t1 : AV) (t2 : AV) (h : Hp) (K : AV → Hp → Prop) : s_lagoonref4_With cf fuel t0 t1 t2 h K = deepT (tabOf Try.prog) f_lagoonref4_With cf fuel [t0, t1, t2] h K :=
  Eq.trans (by kernel_rfl) (rFun (by kernel_rfl) (rSeq (by kernel_rfl) (rSeq (by kernel_rfl) (rSeq (by kernel_rfl) (rSeq (by kernel_rfl) rExact (rSeq (by kernel_rfl) (rBlock (by kernel_rfl) (rLoop (by kernel_rfl) (fun m1 fr h => s_lagoonref4_WithL1 cf fuel (s_lagoonref4_WithE0 cf fuel K) (getS fr (gpos 0)) (getS fr (gpos 1)) (getS fr (gpos 2)) m1 (getS fr (gpos 7)) (getS fr (gpos 8)) h) (funext fun fr => funext fun h => by kernel_rfl) fun m1 => rCast (funext fun fr => funext fun h => by kernel_rfl) rExact)) rExact)) rExact) rExact) rExact))

noncomputable def s_lagoonlaw17_ContentAllE0 (cf : CallK) (fuel : Nat) (K : AV → Hp → Prop) (t3 : AV) : Hp → Prop := fun h =>
K t3 h
noncomputable def s_lagoonlaw17_ContentAllE2 (cf : CallK) (fuel : Nat) (ih1 : AV → AV → Hp → Prop) (t3 : AV) (t4 : AV) (t6 : AV) (t7 : AV) : AV → Hp → Prop := fun t5 h =>
vAdd t7 (.int .i64 1) h fun t24 h =>
ih1 t5 t24 h
noncomputable def s_lagoonlaw17_ContentAllE5 (cf : CallK) (fuel : Nat) (e2 : AV → Hp → Prop) (t3 : AV) (t4 : AV) (t5 : AV) (t6 : AV) (t7 : AV) : Hp → Prop := fun h =>
e2 t5 h
noncomputable def s_lagoonlaw17_ContentAllB8 (cf : CallK) (fuel : Nat) (K : AV → Hp → Prop) (ih6 : AV → Hp → Prop) (t5 : AV) (t12 : AV) (t6 : AV) (t7 : AV) (t11 : AV) (h : Hp) : Prop :=
(fun (e7 : Hp → Prop) =>
vLoadA 5 t11 h fun t119 h =>
vIaddr 11 t5 t12 h fun t122 h =>
vLoadA 11 t122 h fun t123 h =>
vIaddr 11 t6 t7 h fun t128 h =>
vLoadA 11 t128 h fun t129 h =>
vIaddr 11 t5 t12 h fun t132 h =>
vLoadA 11 t132 h fun t133 h =>
cf f_content_Of [t123] h fun t124 h =>
vLoadA 5 t11 h fun c _ => gd (sameV c t119) (
vLoadA 11 t128 h fun c _ => gd (sameV c t129) (
vLoadA 11 t132 h fun c _ => gd (sameV c t133) (
cf f_content_Behind [t119, t124] h fun t125 h =>
vLoadA 11 t128 h fun c _ => gd (sameV c t129) (
vLoadA 11 t132 h fun c _ => gd (sameV c t133) (
cf f_lagoonref15_Behind [t129, t133] h fun t134 h =>
vEq true eqB t125 t134 h fun t135 h =>
vIf t135 (
K (.bool .false) h) (
e7 h))))))) fun h =>
vAdd t12 (.int .i64 1) h fun t118 h =>
ih6 t118 h
noncomputable def s_lagoonlaw17_ContentAllL6B (cf : CallK) (fuel : Nat) (K : AV → Hp → Prop) (e5 : Hp → Prop) (t3 : AV) (t4 : AV) (t5 : AV) (t6 : AV) (t7 : AV) (t11 : AV) (ih6 : AV → Hp → Prop) : AV → Hp → Prop := fun t12 h =>
vLenL2 t5 h fun t115 h =>
vLss t12 t115 h fun t116 h =>
vIf t116 (
s_lagoonlaw17_ContentAllB8 cf fuel K ih6 t5 t12 t6 t7 t11 h) (
e5 h)
noncomputable def s_lagoonlaw17_ContentAllL6 (cf : CallK) (fuel : Nat) (K : AV → Hp → Prop) (e5 : Hp → Prop) (t3 : AV) (t4 : AV) (t5 : AV) (t6 : AV) (t7 : AV) (t11 : AV) (m : Nat) : AV → Hp → Prop := Nat.rec (motive := fun _ => AV → Hp → Prop) (fun _ _ => False) (fun _ ih => s_lagoonlaw17_ContentAllL6B cf fuel K e5 t3 t4 t5 t6 t7 t11 ih) m
theorem s_lagoonlaw17_ContentAllL6_succ (cf : CallK) (fuel : Nat) (K : AV → Hp → Prop) (e5 : Hp → Prop) (t3 : AV) (t4 : AV) (t5 : AV) (t6 : AV) (t7 : AV) (t11 : AV) (m : Nat) : s_lagoonlaw17_ContentAllL6 cf fuel K e5 t3 t4 t5 t6 t7 t11 (m + 1) = s_lagoonlaw17_ContentAllL6B cf fuel K e5 t3 t4 t5 t6 t7 t11 (s_lagoonlaw17_ContentAllL6 cf fuel K e5 t3 t4 t5 t6 t7 t11 m) := rfl
noncomputable def s_lagoonlaw17_ContentAllB9 (cf : CallK) (fuel : Nat) (K : AV → Hp → Prop) (ih1 : AV → AV → Hp → Prop) (t45 : AV) (t7 : AV) (t6 : AV) (t4 : AV) (t3 : AV) (h : Hp) : Prop :=
vIaddr 11 t6 t7 h fun t101 h =>
vLoadA 11 t101 h fun t102 h =>
cf f_content_Of [t102] h fun t103 h =>
vBox 5 (.agg [(.int .i64 0), (.int .i64 0), (.int .i64 0), .nilslice, .nilslice]) h fun t11 h =>
vStore 5 t11 t103 h fun _ h =>
(fun (j4 : AV → Hp → Prop) =>
(vLoadA 5 t11 h fun t104 h =>
vIaddr 11 t6 t7 h fun t108 h =>
vLoadA 11 t108 h fun t109 h =>
vBslice 5 1 false [(.int .i64 0), (.int .i64 0), (.int .i64 0), .nilslice, .nilslice] [(0, 5, t104)] h fun t105 h =>
vLoadA 11 t108 h fun c _ => gd (sameV c t109) (
vBslice 11 1 false [(.int .i64 0), (.int .i64 0), (.int .i64 0), (.int .i64 0), (.int .i64 0), (.int .i64 0), (.int .i64 0), (.int .i64 0), (.str 0 0), .nilslice, .nilslice] [(0, 11, t109)] h fun t110 h =>
cf f_lagoonlaw17_is [t105, t110] h fun t111 h =>
vNot t111 h fun t112 h =>
j4 t112 h)) ∧
(vLoadA 5 t11 h fun t104 h =>
vIaddr 11 t6 t7 h fun t108 h =>
vLoadA 11 t108 h fun t109 h =>
vBslice 11 1 false [(.int .i64 0), (.int .i64 0), (.int .i64 0), (.int .i64 0), (.int .i64 0), (.int .i64 0), (.int .i64 0), (.int .i64 0), (.str 0 0), .nilslice, .nilslice] [(0, 11, t109)] h fun t110 h =>
vLoadA 5 t11 h fun c _ => gd (sameV c t104) (
vBslice 5 1 false [(.int .i64 0), (.int .i64 0), (.int .i64 0), .nilslice, .nilslice] [(0, 5, t104)] h fun t105 h =>
vLoadA 11 t108 h fun c _ => gd (sameV c t109) (
cf f_lagoonlaw17_is [t105, t110] h fun t111 h =>
vNot t111 h fun t112 h =>
j4 t112 h)))) fun t112 h =>
vIf t112 (
K (.bool .false) h) (
(fun (e5 : Hp → Prop) =>
s_lagoonlaw17_ContentAllL6 cf fuel K (s_lagoonlaw17_ContentAllE5 cf fuel (s_lagoonlaw17_ContentAllE2 cf fuel ih1 t3 t4 t6 t7) t3 t4 t45 t6 t7) t3 t4 t45 t6 t7 t11 fuel (.int .i64 0) h) (s_lagoonlaw17_ContentAllE5 cf fuel (s_lagoonlaw17_ContentAllE2 cf fuel ih1 t3 t4 t6 t7) t3 t4 t45 t6 t7))
noncomputable def s_lagoonlaw17_ContentAllB39 (cf : CallK) (fuel : Nat) (K : AV → Hp → Prop) (ih1 : AV → AV → Hp → Prop) (t7 : AV) (t6 : AV) (t30 : AV) (t4 : AV) (t3 : AV) (t5 : AV) (h : Hp) : Prop :=
vIaddr 11 t6 t7 h fun t42 h =>
vLoadA 11 t42 h fun t43 h =>
vBslice 11 1 false [(.int .i64 0), (.int .i64 0), (.int .i64 0), (.int .i64 0), (.int .i64 0), (.int .i64 0), (.int .i64 0), (.int .i64 0), (.str 0 0), .nilslice, .nilslice] [(0, 11, t43)] h fun t44 h =>
vAppend2 11 128 false t5 t44 h fun t45 h =>
cf f_lagoonref12_Sorted [t45] h fun t47 h =>
cf f_lagoonref15_Heads [t47] h fun t48 h =>
(fun (j3 : AV → Hp → Prop) =>
vLenL2 t48 h fun t50 h =>
vGtr t50 (.int .i64 0) h fun t51 h =>
vIf t51 (
vLenL2 t48 h fun t54 h =>
vArith Go.Am.subI t54 (.int .i64 1) h fun t55 h =>
vIaddr 11 t48 t55 h fun t56 h =>
vFaddr 9 t56 h fun t57 h =>
vLoad2 t57 h fun t58 h =>
j3 t58 h) (
j3 .nilslice h)) fun t10 h =>
vNeq t30 (.int .i64 0) h fun t60 h =>
joinG (fun g38 => grdV t60 false (vMov t4 h g38) (g38 undefV h)) fun t62 h =>
joinG (fun g37 => grdV t60 false (vMov t6 h g37) (g37 undefV h)) fun t63 h =>
joinG (fun g36 => grdV t60 false (vMov t7 h g36) (g36 undefV h)) fun t64 h =>
joinG (fun g35 => grdV t60 false (vIaddr 11 t63 t64 h g35) (g35 undefV h)) fun t65 h =>
joinG (fun g34 => grdV t60 false (vLoadA 11 t65 h g34) (g34 undefV h)) fun t66 h =>
joinG (fun g33 => grdV t60 false (cf f_content_File_Add [t62, t66] h g33) (g33 undefV h)) fun t67 h =>
joinG (fun g32 => grdV t60 false (vNeq t67 (.int .i64 17) h g32) (g32 undefV h)) fun t68 h =>
vPick t60 (.bool .true) t68 h fun t69 h =>
joinG (fun g31 => grdV t69 false (vMov t4 h g31) (g31 undefV h)) fun t71 h =>
joinG (fun g30 => grdV t69 false (vMov t48 h g30) (g30 undefV h)) fun t73 h =>
joinG (fun g29 => grdV t69 false (cf f_content_File_Heads [t71] h g29) (g29 undefV h)) fun t72 h =>
joinG (fun g28 => grdV t69 false (cf f_lagoonlaw17_is [t72, t73] h g28) (g28 undefV h)) fun t74 h =>
joinG (fun g27 => grdV t69 false (vNot t74 h g27) (g27 undefV h)) fun t75 h =>
vPick t69 (.bool .true) t75 h fun t76 h =>
joinG (fun g26 => grdV t76 false (vMov t4 h g26) (g26 undefV h)) fun t78 h =>
joinG (fun g25 => grdV t76 false (vMov t10 h g25) (g25 undefV h)) fun t81 h =>
joinG (fun g24 => grdV t76 false (vToStr t81 h g24) (g24 undefV h)) fun t82 h =>
joinG (fun g23 => grdV t76 false (cf f_content_File_Value [t78] h g23) (g23 undefV h)) fun t79 h =>
joinP (fun g22 => grdV t76 false (vToStr t81 h fun c _ => gd (sameV c t82) g22) g22) (
joinG (fun g21 => grdV t76 false (vToStr t79 h g21) (g21 undefV h)) fun t80 h =>
joinG (fun g20 => grdV t76 false (vNeq t80 t82 h g20) (g20 undefV h)) fun t83 h =>
vPick t76 (.bool .true) t83 h fun t84 h =>
joinG (fun g19 => grdV t84 false (vMov t4 h g19) (g19 undefV h)) fun t86 h =>
joinG (fun g18 => grdV t84 false (vMov t10 h g18) (g18 undefV h)) fun t88 h =>
joinG (fun g17 => grdV t84 false (vLenL2 t88 h g17) (g17 undefV h)) fun t89 h =>
joinG (fun g16 => grdV t84 false (cf f_content_File_Size [t86] h g16) (g16 undefV h)) fun t87 h =>
joinG (fun g15 => grdV t84 false (vNeq t87 t89 h g15) (g15 undefV h)) fun t90 h =>
vPick t84 (.bool .true) t90 h fun t91 h =>
joinG (fun g14 => grdV t91 false (vMov t4 h g14) (g14 undefV h)) fun t93 h =>
joinG (fun g13 => grdV t91 false (vMov t45 h g13) (g13 undefV h)) fun t95 h =>
joinG (fun g12 => grdV t91 false (vLenL2 t95 h g12) (g12 undefV h)) fun t96 h =>
joinG (fun g11 => grdV t91 false (cf f_content_File_Len [t93] h g11) (g11 undefV h)) fun t94 h =>
joinG (fun g10 => grdV t91 false (vNeq t94 t96 h g10) (g10 undefV h)) fun t97 h =>
vPick t91 (.bool .true) t97 h fun t98 h =>
vIf t98 (
K (.bool .false) h) (
s_lagoonlaw17_ContentAllB9 cf fuel K ih1 t45 t7 t6 t4 t3 h))
noncomputable def s_lagoonlaw17_ContentAllL1B (cf : CallK) (fuel : Nat) (K : AV → Hp → Prop) (e0 : Hp → Prop) (t3 : AV) (t4 : AV) (t6 : AV) (ih1 : AV → AV → Hp → Prop) : AV → AV → Hp → Prop := fun t5 t7 h =>
vLenL2 t6 h fun t21 h =>
vLss t7 t21 h fun t22 h =>
vIf t22 (
(fun (e2 : AV → Hp → Prop) =>
vIaddr 11 t6 t7 h fun t28 h =>
vLoadA 11 t28 h fun t29 h =>
cf f_content_File_Add [t4, t29] h fun t30 h =>
vIaddr 11 t6 t7 h fun t33 h =>
vFaddr 3 t33 h fun t34 h =>
vLoad2 t34 h fun t35 h =>
vNeq t35 (.int .i64 4) h fun t36 h =>
vIf t36 (
vNeq t30 (.int .i64 22) h fun t38 h =>
vIf t38 (
K (.bool .false) h) (
e2 t5 h)) (
s_lagoonlaw17_ContentAllB39 cf fuel K ih1 t7 t6 t30 t4 t3 t5 h)) (s_lagoonlaw17_ContentAllE2 cf fuel ih1 t3 t4 t6 t7)) (
e0 h)
noncomputable def s_lagoonlaw17_ContentAllL1 (cf : CallK) (fuel : Nat) (K : AV → Hp → Prop) (e0 : Hp → Prop) (t3 : AV) (t4 : AV) (t6 : AV) (m : Nat) : AV → AV → Hp → Prop := Nat.rec (motive := fun _ => AV → AV → Hp → Prop) (fun _ _ _ => False) (fun _ ih => s_lagoonlaw17_ContentAllL1B cf fuel K e0 t3 t4 t6 ih) m
theorem s_lagoonlaw17_ContentAllL1_succ (cf : CallK) (fuel : Nat) (K : AV → Hp → Prop) (e0 : Hp → Prop) (t3 : AV) (t4 : AV) (t6 : AV) (m : Nat) : s_lagoonlaw17_ContentAllL1 cf fuel K e0 t3 t4 t6 (m + 1) = s_lagoonlaw17_ContentAllL1B cf fuel K e0 t3 t4 t6 (s_lagoonlaw17_ContentAllL1 cf fuel K e0 t3 t4 t6 m) := rfl
noncomputable def s_lagoonlaw17_ContentAll (cf : CallK) (fuel : Nat) (t0 : AV) (h : Hp) (K : AV → Hp → Prop) : Prop :=
cf f_lagoonlaw17_begun [] h fun t13 h =>
cf f_content_New [] h fun t14 h =>
vEq false eqP t14 .nilptr h fun t16 h =>
vIf t16 (
K (.bool .false) h) (
cf f_lagoonlaw15_Some [t0, (.int .i64 20)] h fun t18 h =>
(fun (e0 : Hp → Prop) =>
s_lagoonlaw17_ContentAllL1 cf fuel K (s_lagoonlaw17_ContentAllE0 cf fuel K t13) t13 t14 t18 fuel .nilslice (.int .i64 0) h) (s_lagoonlaw17_ContentAllE0 cf fuel K t13))
theorem s_lagoonlaw17_ContentAll_eq (cf : CallK) (fuel : Nat) (t0 : AV) (h : Hp) (K : AV → Hp → Prop) : s_lagoonlaw17_ContentAll cf fuel t0 h K = deepT (tabOf Try.prog) f_lagoonlaw17_ContentAll cf fuel [t0] h K :=
  Eq.trans (by kernel_rfl) (rFun (by kernel_rfl) (rSeq (by kernel_rfl) (rSeq (by kernel_rfl) (rSeq (by kernel_rfl) (rSeq (by kernel_rfl) (rSeq (by kernel_rfl) (rSeq (by kernel_rfl) (rSeq (by kernel_rfl) rExact (rSeq (by kernel_rfl) (rBlock (by kernel_rfl) (rLoop (by kernel_rfl) (fun m1 fr h => s_lagoonlaw17_ContentAllL1 cf fuel K (s_lagoonlaw17_ContentAllE0 cf fuel K (getS fr (gpos 3))) (getS fr (gpos 3)) (getS fr (gpos 4)) (getS fr (gpos 6)) m1 (getS fr (gpos 5)) (getS fr (gpos 7)) h) (funext fun fr => funext fun h => by kernel_rfl) fun m1 => rCast (funext fun fr => funext fun h => by kernel_rfl) (rSeq (by kernel_rfl) (rSeq (by kernel_rfl) rExact (rBlock (by kernel_rfl) (rSeq (by kernel_rfl) (rSeq (by kernel_rfl) (rSeq (by kernel_rfl) (rSeq (by kernel_rfl) (rSeq (by kernel_rfl) (rSeq (by kernel_rfl) (rSeq (by kernel_rfl) (rSeq (by kernel_rfl) (rSeq (by kernel_rfl) (rSeq (by kernel_rfl) (rBlock (by kernel_rfl) (rLoop (by kernel_rfl) (fun m6 fr h => s_lagoonlaw17_ContentAllL6 cf fuel K (s_lagoonlaw17_ContentAllE5 cf fuel (s_lagoonlaw17_ContentAllE2 cf fuel (s_lagoonlaw17_ContentAllL1 cf fuel K (s_lagoonlaw17_ContentAllE0 cf fuel K (getS fr (gpos 3))) (getS fr (gpos 3)) (getS fr (gpos 4)) (getS fr (gpos 6)) m1) (getS fr (gpos 3)) (getS fr (gpos 4)) (getS fr (gpos 6)) (getS fr (gpos 7))) (getS fr (gpos 3)) (getS fr (gpos 4)) (getS fr (gpos 5)) (getS fr (gpos 6)) (getS fr (gpos 7))) (getS fr (gpos 3)) (getS fr (gpos 4)) (getS fr (gpos 5)) (getS fr (gpos 6)) (getS fr (gpos 7)) (getS fr (gpos 11)) m6 (getS fr (gpos 12)) h) (funext fun fr => funext fun h => by kernel_rfl) fun m6 => rCast (funext fun fr => funext fun h => by kernel_rfl) rExact)) rExact) rExact) rExact) rExact) rExact) rExact) rExact) rExact) rExact) rExact))) rExact))) rExact)) rExact) rExact) rExact) rExact) rExact) rExact))

noncomputable def s_lagoonlaw17_ContentOrdersE1 (cf : CallK) (fuel : Nat) (K : AV → Hp → Prop) (t3 : AV) (t4 : AV) (t5 : AV) : Hp → Prop := fun h =>
joinG (fun g9 => grdV t3 true (vMov t4 h g9) (g9 undefV h)) fun t73 h =>
joinG (fun g8 => grdV t3 true (vMov t5 h g8) (g8 undefV h)) fun t76 h =>
joinG (fun g7 => grdV t3 true (cf f_content_File_Value [t73] h g7) (g7 undefV h)) fun t74 h =>
joinG (fun g6 => grdV t3 true (vToStr t74 h g6) (g6 undefV h)) fun t75 h =>
joinG (fun g5 => grdV t3 true (cf f_content_File_Value [t76] h g5) (g5 undefV h)) fun t77 h =>
joinP (fun g4 => grdV t3 true (vToStr t74 h fun c _ => gd (sameV c t75) g4) g4) (
joinG (fun g3 => grdV t3 true (vToStr t77 h g3) (g3 undefV h)) fun t78 h =>
joinG (fun g2 => grdV t3 true (vEql t75 t78 h g2) (g2 undefV h)) fun t79 h =>
vPick t3 t79 (.bool .false) h fun t80 h =>
K t80 h)
noncomputable def s_lagoonlaw17_ContentOrdersL10B (cf : CallK) (fuel : Nat) (K : AV → Hp → Prop) (e1 : Hp → Prop) (t3 : AV) (t4 : AV) (t5 : AV) (t8 : AV) (t9 : AV) (ih10 : AV → Hp → Prop) : AV → Hp → Prop := fun t10 h =>
vLenL2 t8 h fun t55 h =>
vLss t10 t55 h fun t56 h =>
vIf t56 (
(fun (e11 : Hp → Prop) =>
vIaddr 5 t8 t10 h fun t61 h =>
vFaddr 0 t61 h fun t62 h =>
vLoadA 2 t62 h fun t63 h =>
vIaddr 5 t9 t10 h fun t66 h =>
vFaddr 0 t66 h fun t67 h =>
vLoadA 2 t67 h fun t68 h =>
cf f_lagoonref4_Same [t63, t68] h fun t69 h =>
vNot t69 h fun t70 h =>
vIf t70 (
K (.bool .false) h) (
e11 h)) fun h =>
vAdd t10 (.int .i64 1) h fun t58 h =>
ih10 t58 h) (
e1 h)
noncomputable def s_lagoonlaw17_ContentOrdersL10 (cf : CallK) (fuel : Nat) (K : AV → Hp → Prop) (e1 : Hp → Prop) (t3 : AV) (t4 : AV) (t5 : AV) (t8 : AV) (t9 : AV) (m : Nat) : AV → Hp → Prop := Nat.rec (motive := fun _ => AV → Hp → Prop) (fun _ _ => False) (fun _ ih => s_lagoonlaw17_ContentOrdersL10B cf fuel K e1 t3 t4 t5 t8 t9 ih) m
theorem s_lagoonlaw17_ContentOrdersL10_succ (cf : CallK) (fuel : Nat) (K : AV → Hp → Prop) (e1 : Hp → Prop) (t3 : AV) (t4 : AV) (t5 : AV) (t8 : AV) (t9 : AV) (m : Nat) : s_lagoonlaw17_ContentOrdersL10 cf fuel K e1 t3 t4 t5 t8 t9 (m + 1) = s_lagoonlaw17_ContentOrdersL10B cf fuel K e1 t3 t4 t5 t8 t9 (s_lagoonlaw17_ContentOrdersL10 cf fuel K e1 t3 t4 t5 t8 t9 m) := rfl
noncomputable def s_lagoonlaw17_ContentOrdersE0 (cf : CallK) (fuel : Nat) (K : AV → Hp → Prop) (t3 : AV) (t4 : AV) (t5 : AV) : Hp → Prop := fun h =>
cf f_content_File_Heads [t4] h fun t45 h =>
cf f_content_File_Heads [t5] h fun t47 h =>
vLenL2 t45 h fun t49 h =>
vLenL2 t47 h fun t51 h =>
vNeq t49 t51 h fun t52 h =>
vIf t52 (
K (.bool .false) h) (
(fun (e1 : Hp → Prop) =>
s_lagoonlaw17_ContentOrdersL10 cf fuel K (s_lagoonlaw17_ContentOrdersE1 cf fuel K t3 t4 t5) t3 t4 t5 t45 t47 fuel (.int .i64 0) h) (s_lagoonlaw17_ContentOrdersE1 cf fuel K t3 t4 t5))
noncomputable def s_lagoonlaw17_ContentOrdersL12B (cf : CallK) (fuel : Nat) (e0 : Hp → Prop) (t3 : AV) (t4 : AV) (t5 : AV) (t6 : AV) (ih12 : AV → Hp → Prop) : AV → Hp → Prop := fun t7 h =>
vLenL2 t6 h fun t24 h =>
vLss t7 t24 h fun t25 h =>
vIf t25 (
(fun (e13 : Hp → Prop) =>
vIaddr 11 t6 t7 h fun t31 h =>
vLoadA 11 t31 h fun t32 h =>
cf f_content_File_Add [t4, t32] h fun t33 h =>
vLenL2 t6 h fun t37 h =>
vArith Go.Am.subI t37 (.int .i64 1) h fun t38 h =>
vArith Go.Am.subI t38 t7 h fun t40 h =>
vIaddr 11 t6 t40 h fun t41 h =>
vLoadA 11 t41 h fun t42 h =>
cf f_content_File_Add [t5, t42] h fun t43 h =>
e13 h) fun h =>
vAdd t7 (.int .i64 1) h fun t27 h =>
ih12 t27 h) (
e0 h)
noncomputable def s_lagoonlaw17_ContentOrdersL12 (cf : CallK) (fuel : Nat) (e0 : Hp → Prop) (t3 : AV) (t4 : AV) (t5 : AV) (t6 : AV) (m : Nat) : AV → Hp → Prop := Nat.rec (motive := fun _ => AV → Hp → Prop) (fun _ _ => False) (fun _ ih => s_lagoonlaw17_ContentOrdersL12B cf fuel e0 t3 t4 t5 t6 ih) m
theorem s_lagoonlaw17_ContentOrdersL12_succ (cf : CallK) (fuel : Nat) (e0 : Hp → Prop) (t3 : AV) (t4 : AV) (t5 : AV) (t6 : AV) (m : Nat) : s_lagoonlaw17_ContentOrdersL12 cf fuel e0 t3 t4 t5 t6 (m + 1) = s_lagoonlaw17_ContentOrdersL12B cf fuel e0 t3 t4 t5 t6 (s_lagoonlaw17_ContentOrdersL12 cf fuel e0 t3 t4 t5 t6 m) := rfl
noncomputable def s_lagoonlaw17_ContentOrders (cf : CallK) (fuel : Nat) (t0 : AV) (h : Hp) (K : AV → Hp → Prop) : Prop :=
cf f_lagoonlaw17_begun [] h fun t11 h =>
cf f_content_New [] h fun t12 h =>
cf f_content_New [] h fun t13 h =>
vEq false eqP t12 .nilptr h fun t15 h =>
joinG (fun g15 => grdV t15 false (vMov t13 h g15) (g15 undefV h)) fun t17 h =>
joinG (fun g14 => grdV t15 false (vEq false eqP t17 .nilptr h g14) (g14 undefV h)) fun t18 h =>
vPick t15 (.bool .true) t18 h fun t19 h =>
vIf t19 (
K (.bool .false) h) (
cf f_lagoonlaw15_Some [t0, (.int .i64 20)] h fun t21 h =>
(fun (e0 : Hp → Prop) =>
s_lagoonlaw17_ContentOrdersL12 cf fuel (s_lagoonlaw17_ContentOrdersE0 cf fuel K t11 t12 t13) t11 t12 t13 t21 fuel (.int .i64 0) h) (s_lagoonlaw17_ContentOrdersE0 cf fuel K t11 t12 t13))
theorem s_lagoonlaw17_ContentOrders_eq (cf : CallK) (fuel : Nat) (t0 : AV) (h : Hp) (K : AV → Hp → Prop) : s_lagoonlaw17_ContentOrders cf fuel t0 h K = deepT (tabOf Try.prog) f_lagoonlaw17_ContentOrders cf fuel [t0] h K :=
  Eq.trans (by kernel_rfl) (rFun (by kernel_rfl) (rSeq (by kernel_rfl) (rSeq (by kernel_rfl) (rSeq (by kernel_rfl) (rSeq (by kernel_rfl) (rSeq (by kernel_rfl) (rSeq (by kernel_rfl) (rSeq (by kernel_rfl) (rSeq (by kernel_rfl) (rSeq (by kernel_rfl) rExact (rSeq (by kernel_rfl) (rBlock (by kernel_rfl) (rLoop (by kernel_rfl) (fun m10 fr h => s_lagoonlaw17_ContentOrdersL10 cf fuel K (s_lagoonlaw17_ContentOrdersE1 cf fuel K (getS fr (gpos 3)) (getS fr (gpos 4)) (getS fr (gpos 5))) (getS fr (gpos 3)) (getS fr (gpos 4)) (getS fr (gpos 5)) (getS fr (gpos 8)) (getS fr (gpos 9)) m10 (getS fr (gpos 10)) h) (funext fun fr => funext fun h => by kernel_rfl) fun m10 => rCast (funext fun fr => funext fun h => by kernel_rfl) rExact)) rExact)) rExact) rExact) (rSeq (by kernel_rfl) (rBlock (by kernel_rfl) (rLoop (by kernel_rfl) (fun m12 fr h => s_lagoonlaw17_ContentOrdersL12 cf fuel (s_lagoonlaw17_ContentOrdersE0 cf fuel K (getS fr (gpos 3)) (getS fr (gpos 4)) (getS fr (gpos 5))) (getS fr (gpos 3)) (getS fr (gpos 4)) (getS fr (gpos 5)) (getS fr (gpos 6)) m12 (getS fr (gpos 7)) h) (funext fun fr => funext fun h => by kernel_rfl) fun m12 => rCast (funext fun fr => funext fun h => by kernel_rfl) rExact)) rExact)) rExact) rExact) rExact) rExact) rExact))

noncomputable def s_lagoonlaw17_ContentMergeB13 (cf : CallK) (fuel : Nat) (K : AV → Hp → Prop) (t8 : AV) (t100 : AV) (t2 : AV) (t7 : AV) (h : Hp) : Prop :=
vIf t2 (
joinG (fun g6 => grdV t7 true (vMov t8 h g6) (g6 undefV h)) fun t135 h =>
joinG (fun g5 => grdV t7 true (cf f_content_File_Heads [t135] h g5) (g5 undefV h)) fun t136 h =>
joinG (fun g4 => grdV t7 true (vLenL2 t136 h g4) (g4 undefV h)) fun t137 h =>
joinG (fun g3 => grdV t7 true (vEql t137 (.int .i64 1) h g3) (g3 undefV h)) fun t138 h =>
vPick t7 t138 (.bool .false) h fun t139 h =>
K t139 h) (
joinG (fun g12 => grdV t7 true (vMov t8 h g12) (g12 undefV h)) fun t142 h =>
joinG (fun g11 => grdV t7 true (cf f_content_File_Heads [t142] h g11) (g11 undefV h)) fun t143 h =>
joinG (fun g10 => grdV t7 true (vLenL2 t143 h g10) (g10 undefV h)) fun t144 h =>
joinG (fun g9 => grdV t7 true (vMov t100 h g9) (g9 undefV h)) fun t145 h =>
joinG (fun g8 => grdV t7 true (vAdd t145 (.int .i64 1) h g8) (g8 undefV h)) fun t146 h =>
joinG (fun g7 => grdV t7 true (vEql t144 t146 h g7) (g7 undefV h)) fun t147 h =>
vPick t7 t147 (.bool .false) h fun t148 h =>
K t148 h)
noncomputable def s_lagoonlaw17_ContentMergeE0 (cf : CallK) (fuel : Nat) (K : AV → Hp → Prop) (t1 : AV) (t2 : AV) (t7 : AV) (t8 : AV) : AV → AV → Hp → Prop := fun t9 t10 h =>
cf f_content_File_Heads [t8] h fun t99 h =>
vLenL2 t99 h fun t100 h =>
(fun (j1 : AV → Hp → Prop) =>
vNot t2 h fun t102 h =>
vIf t102 (
j1 .nilslice h) (
j1 t9 h)) fun t9 h =>
(fun (j2 : AV → Hp → Prop) =>
vLenL2 t1 h fun t104 h =>
vGtr t104 (.int .i64 100) h fun t105 h =>
vIf t105 (
vSlice2 1 t1 none (some (.int .i64 100)) h fun t107 h =>
j2 t107 h) (
j2 t1 h)) fun t1 h =>
vBuild [(.int .i64 0), (.int .i64 0)] [(0, 1, (.int .i64 1152921504606846976)), (1, 1, (.int .i64 40))] h fun t109 h =>
vBuild [(.int .i64 0), (.int .i64 0)] [(0, 1, (.int .i64 1))] h fun t110 h =>
vBuild [(.int .i64 0), (.int .i64 0), (.int .i64 0), (.int .i64 0), (.int .i64 0), (.int .i64 0), (.int .i64 0), (.int .i64 0), (.str 0 0), .nilslice, .nilslice] [(0, 2, t109), (2, 1, (.int .i64 1)), (3, 1, (.int .i64 4)), (4, 2, t110), (9, 1, t1), (10, 1, t9)] h fun t113 h =>
cf f_content_File_Add [t8, t113] h fun t114 h =>
vNeq t114 (.int .i64 0) h fun t116 h =>
joinG (fun g25 => grdV t116 false (vMov t8 h g25) (g25 undefV h)) fun t118 h =>
joinG (fun g24 => grdV t116 false (vMov t1 h g24) (g24 undefV h)) fun t121 h =>
joinG (fun g23 => grdV t116 false (vToStr t121 h g23) (g23 undefV h)) fun t122 h =>
joinG (fun g22 => grdV t116 false (cf f_content_File_Value [t118] h g22) (g22 undefV h)) fun t119 h =>
joinP (fun g21 => grdV t116 false (vToStr t121 h fun c _ => gd (sameV c t122) g21) g21) (
joinG (fun g20 => grdV t116 false (vToStr t119 h g20) (g20 undefV h)) fun t120 h =>
joinG (fun g19 => grdV t116 false (vNeq t120 t122 h g19) (g19 undefV h)) fun t123 h =>
vPick t116 (.bool .true) t123 h fun t124 h =>
joinG (fun g18 => grdV t124 false (vMov t8 h g18) (g18 undefV h)) fun t126 h =>
joinG (fun g17 => grdV t124 false (vMov t10 h g17) (g17 undefV h)) fun t128 h =>
joinG (fun g16 => grdV t124 false (vAdd t128 (.int .i64 1) h g16) (g16 undefV h)) fun t129 h =>
joinG (fun g15 => grdV t124 false (cf f_content_File_Len [t126] h g15) (g15 undefV h)) fun t127 h =>
joinG (fun g14 => grdV t124 false (vNeq t127 t129 h g14) (g14 undefV h)) fun t130 h =>
vPick t124 (.bool .true) t130 h fun t131 h =>
vIf t131 (
K (.bool .false) h) (
s_lagoonlaw17_ContentMergeB13 cf fuel K t8 t100 t2 t7 h))
noncomputable def s_lagoonlaw17_ContentMergeB28 (cf : CallK) (fuel : Nat) (e27 : AV → AV → Hp → Prop) (t12 : AV) (t11 : AV) (t9 : AV) (t10 : AV) (h : Hp) : Prop :=
vAdd t10 (.int .i64 1) h fun t70 h =>
vIaddr 11 t11 t12 h fun t74 h =>
vFaddr 0 t74 h fun t75 h =>
vFaddr 1 t75 h fun t76 h =>
vLoad2 t76 h fun t77 h =>
vIaddr 11 t11 t12 h fun t81 h =>
vFaddr 2 t81 h fun t82 h =>
vLoad2 t82 h fun t83 h =>
cf f_lagoonref4_At [t9, t77] h fun t78 h =>
vLoad2 t82 h fun c _ => gd (sameV c t83) (
vLss t78 t83 h fun t84 h =>
vIf t84 (
vIaddr 11 t11 t12 h fun t88 h =>
vFaddr 0 t88 h fun t89 h =>
vFaddr 1 t89 h fun t90 h =>
vLoad2 t90 h fun t91 h =>
vIaddr 11 t11 t12 h fun t94 h =>
vFaddr 2 t94 h fun t95 h =>
vLoad2 t95 h fun t96 h =>
cf f_lagoonref4_With [t9, t91, t96] h fun t97 h =>
e27 t97 t70 h) (
e27 t9 t70 h))
noncomputable def s_lagoonlaw17_ContentMergeB57 (cf : CallK) (fuel : Nat) (ih26 : AV → AV → AV → Hp → Prop) (t11 : AV) (t12 : AV) (t8 : AV) (t9 : AV) (t10 : AV) (h : Hp) : Prop :=
(fun (e27 : AV → AV → Hp → Prop) =>
vIaddr 11 t11 t12 h fun t29 h =>
vFaddr 3 t29 h fun t30 h =>
vLoad2 t30 h fun t31 h =>
vEql t31 (.int .i64 4) h fun t32 h =>
joinG (fun g56 => grdV t32 true (vMov t11 h g56) (g56 undefV h)) fun t34 h =>
joinG (fun g55 => grdV t32 true (vMov t12 h g55) (g55 undefV h)) fun t35 h =>
joinG (fun g54 => grdV t32 true (vIaddr 11 t34 t35 h g54) (g54 undefV h)) fun t36 h =>
joinG (fun g53 => grdV t32 true (vFaddr 0 t36 h g53) (g53 undefV h)) fun t37 h =>
joinG (fun g52 => grdV t32 true (vFaddr 0 t37 h g52) (g52 undefV h)) fun t38 h =>
joinG (fun g51 => grdV t32 true (vLoad2 t38 h g51) (g51 undefV h)) fun t39 h =>
joinG (fun g50 => grdV t32 true (vLss t39 (.int .i64 1152921504606846976) h g50) (g50 undefV h)) fun t40 h =>
vPick t32 t40 (.bool .false) h fun t41 h =>
joinG (fun g49 => grdV t41 true (vMov t11 h g49) (g49 undefV h)) fun t43 h =>
joinG (fun g48 => grdV t41 true (vMov t12 h g48) (g48 undefV h)) fun t44 h =>
joinG (fun g47 => grdV t41 true (vIaddr 11 t43 t44 h g47) (g47 undefV h)) fun t45 h =>
joinG (fun g46 => grdV t41 true (vFaddr 0 t45 h g46) (g46 undefV h)) fun t46 h =>
joinG (fun g45 => grdV t41 true (vFaddr 1 t46 h g45) (g45 undefV h)) fun t47 h =>
joinG (fun g44 => grdV t41 true (vLoad2 t47 h g44) (g44 undefV h)) fun t48 h =>
joinG (fun g43 => grdV t41 true (vNeq t48 (.int .i64 40) h g43) (g43 undefV h)) fun t49 h =>
vPick t41 t49 (.bool .false) h fun t50 h =>
joinG (fun g42 => grdV t50 true (vMov t11 h g42) (g42 undefV h)) fun t52 h =>
joinG (fun g41 => grdV t50 true (vMov t12 h g41) (g41 undefV h)) fun t53 h =>
joinG (fun g40 => grdV t50 true (vIaddr 11 t52 t53 h g40) (g40 undefV h)) fun t54 h =>
joinG (fun g39 => grdV t50 true (vFaddr 10 t54 h g39) (g39 undefV h)) fun t55 h =>
joinG (fun g38 => grdV t50 true (vLoad2 t55 h g38) (g38 undefV h)) fun t56 h =>
joinG (fun g37 => grdV t50 true (cf f_lagoonref4_At [t56, (.int .i64 40)] h g37) (g37 undefV h)) fun t57 h =>
joinG (fun g36 => grdV t50 true (vEql t57 (.int .i64 0) h g36) (g36 undefV h)) fun t58 h =>
vPick t50 t58 (.bool .false) h fun t59 h =>
joinG (fun g35 => grdV t59 true (vMov t8 h g35) (g35 undefV h)) fun t61 h =>
joinG (fun g34 => grdV t59 true (vMov t11 h g34) (g34 undefV h)) fun t62 h =>
joinG (fun g33 => grdV t59 true (vMov t12 h g33) (g33 undefV h)) fun t63 h =>
joinG (fun g32 => grdV t59 true (vIaddr 11 t62 t63 h g32) (g32 undefV h)) fun t64 h =>
joinG (fun g31 => grdV t59 true (vLoadA 11 t64 h g31) (g31 undefV h)) fun t65 h =>
joinG (fun g30 => grdV t59 true (cf f_content_File_Add [t61, t65] h g30) (g30 undefV h)) fun t66 h =>
joinG (fun g29 => grdV t59 true (vEql t66 (.int .i64 0) h g29) (g29 undefV h)) fun t67 h =>
vPick t59 t67 (.bool .false) h fun t68 h =>
vIf t68 (
s_lagoonlaw17_ContentMergeB28 cf fuel e27 t12 t11 t9 t10 h) (
e27 t9 t10 h)) fun t9 t10 h =>
vAdd t12 (.int .i64 1) h fun t26 h =>
ih26 t9 t10 t26 h
noncomputable def s_lagoonlaw17_ContentMergeL26B (cf : CallK) (fuel : Nat) (e0 : AV → AV → Hp → Prop) (t1 : AV) (t2 : AV) (t7 : AV) (t8 : AV) (t11 : AV) (ih26 : AV → AV → AV → Hp → Prop) : AV → AV → AV → Hp → Prop := fun t9 t10 t12 h =>
vLenL2 t11 h fun t23 h =>
vLss t12 t23 h fun t24 h =>
vIf t24 (
s_lagoonlaw17_ContentMergeB57 cf fuel ih26 t11 t12 t8 t9 t10 h) (
e0 t9 t10 h)
noncomputable def s_lagoonlaw17_ContentMergeL26 (cf : CallK) (fuel : Nat) (e0 : AV → AV → Hp → Prop) (t1 : AV) (t2 : AV) (t7 : AV) (t8 : AV) (t11 : AV) (m : Nat) : AV → AV → AV → Hp → Prop := Nat.rec (motive := fun _ => AV → AV → AV → Hp → Prop) (fun _ _ _ _ => False) (fun _ ih => s_lagoonlaw17_ContentMergeL26B cf fuel e0 t1 t2 t7 t8 t11 ih) m
theorem s_lagoonlaw17_ContentMergeL26_succ (cf : CallK) (fuel : Nat) (e0 : AV → AV → Hp → Prop) (t1 : AV) (t2 : AV) (t7 : AV) (t8 : AV) (t11 : AV) (m : Nat) : s_lagoonlaw17_ContentMergeL26 cf fuel e0 t1 t2 t7 t8 t11 (m + 1) = s_lagoonlaw17_ContentMergeL26B cf fuel e0 t1 t2 t7 t8 t11 (s_lagoonlaw17_ContentMergeL26 cf fuel e0 t1 t2 t7 t8 t11 m) := rfl
noncomputable def s_lagoonlaw17_ContentMerge (cf : CallK) (fuel : Nat) (t0 : AV) (t1 : AV) (t2 : AV) (h : Hp) (K : AV → Hp → Prop) : Prop :=
cf f_lagoonlaw17_begun [] h fun t15 h =>
cf f_content_New [] h fun t16 h =>
vEq false eqP t16 .nilptr h fun t18 h =>
vIf t18 (
K (.bool .false) h) (
cf f_lagoonlaw15_Some [t0, (.int .i64 15)] h fun t20 h =>
(fun (e0 : AV → AV → Hp → Prop) =>
s_lagoonlaw17_ContentMergeL26 cf fuel (s_lagoonlaw17_ContentMergeE0 cf fuel K t1 t2 t15 t16) t1 t2 t15 t16 t20 fuel .nilslice (.int .i64 0) (.int .i64 0) h) (s_lagoonlaw17_ContentMergeE0 cf fuel K t1 t2 t15 t16))
theorem s_lagoonlaw17_ContentMerge_eq (cf : CallK) (fuel : Nat) (t0 : AV) (t1 : AV) (t2 : AV) (h : Hp) (K : AV → Hp → Prop) : s_lagoonlaw17_ContentMerge cf fuel t0 t1 t2 h K = deepT (tabOf Try.prog) f_lagoonlaw17_ContentMerge cf fuel [t0, t1, t2] h K :=
  Eq.trans (by kernel_rfl) (rFun (by kernel_rfl) (rSeq (by kernel_rfl) (rSeq (by kernel_rfl) (rSeq (by kernel_rfl) (rSeq (by kernel_rfl) (rSeq (by kernel_rfl) (rSeq (by kernel_rfl) (rSeq (by kernel_rfl) (rSeq (by kernel_rfl) rExact (rSeq (by kernel_rfl) (rBlock (by kernel_rfl) (rLoop (by kernel_rfl) (fun m26 fr h => s_lagoonlaw17_ContentMergeL26 cf fuel (s_lagoonlaw17_ContentMergeE0 cf fuel K (getS fr (gpos 1)) (getS fr (gpos 2)) (getS fr (gpos 7)) (getS fr (gpos 8))) (getS fr (gpos 1)) (getS fr (gpos 2)) (getS fr (gpos 7)) (getS fr (gpos 8)) (getS fr (gpos 11)) m26 (getS fr (gpos 9)) (getS fr (gpos 10)) (getS fr (gpos 12)) h) (funext fun fr => funext fun h => by kernel_rfl) fun m26 => rCast (funext fun fr => funext fun h => by kernel_rfl) rExact)) rExact)) rExact) rExact) rExact) rExact) rExact) rExact) rExact))


end Go.Proofs.Ytnhamanffojhfaa.shl
