/- The Go functions' code as the abstract machine's, over values; each is the code that the machine makes of the program's (theorems s_.._eq). No condition. -/
import Derived.Test.YtciipeallilmiaaGreatDoorAmC
import Derived.Test.YtciipeallilmiaaGreatDoorProg
import Derived.KernelRfl
namespace Go.Proofs.YtciipeallilmiaaGreatDoor.sh9
open Go Go.Am Go.Proofs
set_option linter.unusedVariables false
set_option maxRecDepth 100000
abbrev f_bytes_Clone : Nat := 145
abbrev f_bytes_Equal : Nat := 191
abbrev f_clash_Suffix : Nat := 300
abbrev f_clash_number : Nat := 299
abbrev f_clock_Cmp : Nat := 219
abbrev f_cmp_Less_int : Nat := 249
abbrev f_cmp_isNaN_int : Nat := 295
abbrev f_content_File_Add_1 : Nat := 287
abbrev f_content_Of : Nat := 289
abbrev f_inode_blocks : Nat := 275
abbrev f_int_strconv_FormatInt : Nat := 274
abbrev f_int_strconv_formatBase10 : Nat := 316
abbrev f_int_strconv_formatBits : Nat := 317
abbrev f_int_strconv_numDigits : Nat := 315
abbrev f_int_strconv_small : Nat := 314
abbrev f_int_stringslite_Cut : Nat := 328
abbrev f_int_stringslite_HasPrefix : Nat := 296
abbrev f_localdir_Fine : Nat := 276
abbrev f_localfs_FS_turned : Nat := 273
abbrev f_localfs_file : Nat := 174
abbrev f_localfs_object_kid : Nat := 277
abbrev f_localfs_object_set : Nat := 313
abbrev f_math_bits_Len : Nat := 184
abbrev f_movetree_Tree_Apply_1 : Nat := 279
abbrev f_movetree_Tree_do : Nat := 285
abbrev f_movetree_Tree_may : Nat := 321
abbrev f_movetree_Tree_undo : Nat := 283
abbrev f_movetree_each : Nat := 282
abbrev f_slices_BinarySearchFunc_api_Version_api_Version_api_ID : Nat := 286
abbrev f_slices_BinarySearchFunc_movetree_done_movetree_done_api_ID : Nat := 278
abbrev f_slices_BinarySearch_string_string : Nat := 318
abbrev f_slices_Clone_movetree_done_movetree_done : Nat := 280
abbrev f_slices_Insert_api_Version_api_Version : Nat := 288
abbrev f_slices_Insert_movetree_done_movetree_done : Nat := 284
abbrev f_slices_Reverse_movetree_done_movetree_done : Nat := 281
abbrev f_slices_SortFunc_api_ID_api_ID : Nat := 302
abbrev f_slices_medianAdjacentOrdered_int : Nat := 293
abbrev f_slices_medianOrdered_int : Nat := 294
abbrev f_slices_nextPowerOfTwo : Nat := 291
abbrev f_slices_order2Ordered_int : Nat := 324
abbrev f_slices_pdqsortCmpFunc_api_ID : Nat := 335
abbrev f_slices_siftDownOrdered_int : Nat := 290
abbrev f_slices_xorshift_Next : Nat := 292
abbrev f_strconv_FormatInt : Nat := 223
abbrev f_strconv_Itoa : Nat := 330
abbrev f_strconv_ParseInt : Nat := 329
abbrev f_strings_ContainsAny : Nat := 265
abbrev f_strings_Count : Nat := 326
abbrev f_strings_Cut : Nat := 298
abbrev f_strings_Index : Nat := 327
abbrev f_strings_IndexAny : Nat := 301
abbrev f_strings_IndexRune : Nat := 331
abbrev f_strings_asciiSet_contains : Nat := 334
abbrev f_strings_explode : Nat := 325
abbrev f_strings_genSplit : Nat := 297
abbrev f_strings_makeASCIISet : Nat := 333
abbrev f_strings_shouldUseASCIISet : Nat := 332

noncomputable def s_localfs_FS_turned (cf : CallK) (fuel : Nat) (t0 : AV) (t1 : AV) (t2 : AV) (t3 : AV) (h : Hp) (K : AV → Hp → Prop) : Prop :=
vEq true eqP t2 .nilptr h fun t11 h =>
joinG (fun g5 => grdV t11 true (vMov t2 h g5) (g5 undefV h)) fun t13 h =>
joinG (fun g4 => grdV t11 true (vNilck t13 h g4) (g4 undefV h)) fun t14 h =>
joinG (fun g3 => grdV t11 true (vFaddr 1 t14 h g3) (g3 undefV h)) fun t15 h =>
joinG (fun g2 => grdV t11 true (vLoad2 t15 h g2) (g2 undefV h)) fun t16 h =>
joinG (fun g1 => grdV t11 true (vMov t3 h g1) (g1 undefV h)) fun t17 h =>
joinG (fun g0 => grdV t11 true (cf f_bytes_Equal [t16, t17] h g0) (g0 undefV h)) fun t18 h =>
vPick t11 t18 (.bool .false) h fun t19 h =>
vIf t19 (
K (.tup [.nilptr, (.int .i64 0)]) h) (
vNilck t0 h fun t21 h =>
vFaddr 2 t21 h fun t22 h =>
vLoad2 t22 h fun t23 h =>
cf f_localfs_file [t3] h fun t26 h =>
vLoad2 t22 h fun c _ => gd (sameV c t23) (
cf f_localfs_object_set [t23, t1, t26] h fun t27 h =>
K (.tup [t27, (.int .i64 0)]) h))
theorem s_localfs_FS_turned_eq (cf : CallK) (fuel : Nat) (t0 : AV) (t1 : AV) (t2 : AV) (t3 : AV) (h : Hp) (K : AV → Hp → Prop) : s_localfs_FS_turned cf fuel t0 t1 t2 t3 h K = deepT (tabOf Tryz.prog) f_localfs_FS_turned cf fuel [t0, t1, t2, t3] h K :=
  Eq.trans (by kernel_rfl) (rFun (by kernel_rfl) rExact)

noncomputable def s_int_strconv_FormatIntB1 (cf : CallK) (fuel : Nat) (K : AV → Hp → Prop) (t0 : AV) (h : Hp) : Prop :=
vBox 24 (.agg (List.replicate 24 (.int .u8 0))) h fun t5 h =>
vToInt .u64 t0 h fun t21 h =>
(fun (j0 : AV → Hp → Prop) =>
vLss t0 (.int .i64 0) h fun t23 h =>
vIf t23 (
vNeg t21 h fun t25 h =>
j0 t25 h) (
j0 t21 h)) fun t6 h =>
cf f_int_strconv_numDigits [t6] h fun t27 h =>
vAdd (.int .i64 1) t27 h fun t29 h =>
vSliceA 1 24 t5 (some (.int .i64 1)) (some t29) h fun t30 h =>
cf f_int_strconv_formatBase10 [t30, t6] h fun t32 h =>
vLss t0 (.int .i64 0) h fun t34 h =>
vIf t34 (
vIaddrA 1 24 t5 (.int .i64 0) h fun t35 h =>
vStore 1 t35 (.int .u8 45) h fun _ h =>
vAdd (.int .i64 1) t27 h fun t37 h =>
vSliceA 1 24 t5 none (some t37) h fun t38 h =>
vToStr t38 h fun t39 h =>
K t39 h) (
vAdd (.int .i64 1) t27 h fun t41 h =>
vSliceA 1 24 t5 (some (.int .i64 1)) (some t41) h fun t42 h =>
vToStr t42 h fun t43 h =>
K t43 h)
noncomputable def s_int_strconv_FormatInt (cf : CallK) (fuel : Nat) (t0 : AV) (t1 : AV) (h : Hp) (K : AV → Hp → Prop) : Prop :=
vEql t1 (.int .i64 10) h fun t11 h =>
vIf t11 (
vLeq (.int .i64 0) t0 h fun t13 h =>
joinG (fun g3 => grdV t13 true (vMov t0 h g3) (g3 undefV h)) fun t15 h =>
joinG (fun g2 => grdV t13 true (vLss t15 (.int .i64 100) h g2) (g2 undefV h)) fun t16 h =>
vPick t13 t16 (.bool .false) h fun t17 h =>
vIf t17 (
cf f_int_strconv_small [t0] h fun t19 h =>
K t19 h) (
s_int_strconv_FormatIntB1 cf fuel K t0 h)) (
vToInt .u64 t0 h fun t46 h =>
vLss t0 (.int .i64 0) h fun t49 h =>
cf f_int_strconv_formatBits [.nilslice, t46, t1, t49, (.bool .false)] h fun t50 h =>
vExtract 0 t50 h fun t51 h =>
vExtract 1 t50 h fun t52 h =>
K t52 h)
theorem s_int_strconv_FormatInt_eq (cf : CallK) (fuel : Nat) (t0 : AV) (t1 : AV) (h : Hp) (K : AV → Hp → Prop) : s_int_strconv_FormatInt cf fuel t0 t1 h K = deepT (tabOf Tryz.prog) f_int_strconv_FormatInt cf fuel [t0, t1] h K :=
  Eq.trans (by kernel_rfl) (rFun (by kernel_rfl) rExact)

noncomputable def s_inode_blocks (cf : CallK) (fuel : Nat) (t0 : AV) (h : Hp) (K : AV → Hp → Prop) : Prop :=
vAdd t0 (.int .i64 512) h fun t4 h =>
vArith Go.Am.subI t4 (.int .i64 1) h fun t5 h =>
vDiv false t5 (.int .i64 512) h fun t6 h =>
K t6 h
theorem s_inode_blocks_eq (cf : CallK) (fuel : Nat) (t0 : AV) (h : Hp) (K : AV → Hp → Prop) : s_inode_blocks cf fuel t0 h K = deepT (tabOf Tryz.prog) f_inode_blocks cf fuel [t0] h K :=
  Eq.trans (by kernel_rfl) (rFun (by kernel_rfl) rExact)

noncomputable def s_localdir_Fine (cf : CallK) (fuel : Nat) (t0 : AV) (h : Hp) (K : AV → Hp → Prop) : Prop :=
(fun (e0 : Hp → Prop) =>
vEql t0 (.str 0 0) h fun t5 h =>
joinG (fun g6 => grdV t5 false (vMov t0 h g6) (g6 undefV h)) fun t7 h =>
joinG (fun g5 => grdV t5 false (vEql t7 (.str 1 46) h g5) (g5 undefV h)) fun t8 h =>
vPick t5 (.bool .true) t8 h fun t9 h =>
joinG (fun g4 => grdV t9 false (vMov t0 h g4) (g4 undefV h)) fun t11 h =>
joinG (fun g3 => grdV t9 false (vEql t11 (.str 2 11822) h g3) (g3 undefV h)) fun t12 h =>
vPick t9 (.bool .true) t12 h fun t13 h =>
joinG (fun g2 => grdV t13 false (vMov t0 h g2) (g2 undefV h)) fun t15 h =>
joinG (fun g1 => grdV t13 false (cf f_strings_ContainsAny [t15, (.str 2 12032)] h g1) (g1 undefV h)) fun t16 h =>
vPick t13 (.bool .true) t16 h fun t17 h =>
vIf t17 (
K (.int .i64 22) h) (
vLenS t0 h fun t20 h =>
vGtr t20 (.int .i64 64) h fun t21 h =>
vIf t21 (
K (.int .i64 36) h) (
e0 h))) fun h =>
K (.int .i64 0) h
theorem s_localdir_Fine_eq (cf : CallK) (fuel : Nat) (t0 : AV) (h : Hp) (K : AV → Hp → Prop) : s_localdir_Fine cf fuel t0 h K = deepT (tabOf Tryz.prog) f_localdir_Fine cf fuel [t0] h K :=
  Eq.trans (by kernel_rfl) (rFun (by kernel_rfl) rExact)

noncomputable def s_localfs_object_kid (cf : CallK) (fuel : Nat) (t0 : AV) (t1 : AV) (h : Hp) (K : AV → Hp → Prop) : Prop :=
vNilck t0 h fun t9 h =>
vFaddr 2 t9 h fun t10 h =>
vLoad2 t10 h fun t11 h =>
cf f_slices_BinarySearch_string_string [t11, t1] h fun t13 h =>
vExtract 0 t13 h fun t14 h =>
vExtract 1 t13 h fun t15 h =>
vIf t15 (
vNilck t0 h fun t18 h =>
vFaddr 3 t18 h fun t19 h =>
vLoad2 t19 h fun t20 h =>
vIaddr 1 t20 t14 h fun t22 h =>
vLoad2 t22 h fun t23 h =>
K t23 h) (
K .nilptr h)
theorem s_localfs_object_kid_eq (cf : CallK) (fuel : Nat) (t0 : AV) (t1 : AV) (h : Hp) (K : AV → Hp → Prop) : s_localfs_object_kid cf fuel t0 t1 h K = deepT (tabOf Tryz.prog) f_localfs_object_kid cf fuel [t0, t1] h K :=
  Eq.trans (by kernel_rfl) (rFun (by kernel_rfl) rExact)

noncomputable def s_slices_BinarySearchFunc_movetree_done_movetree_done_api_IDE0 (cf : CallK) (fuel : Nat) (K : AV → Hp → Prop) (t0 : AV) (t2 : AV) (t4 : AV) (t8 : AV) : AV → Hp → Prop := fun t9 h =>
vLss t9 t8 h fun t38 h =>
joinG (fun g8 => grdV t38 true (vMov t2 h g8) (g8 undefV h)) fun t40 h =>
joinG (fun g7 => grdV t38 true (vMov t0 h g7) (g7 undefV h)) fun t41 h =>
joinG (fun g6 => grdV t38 true (vMov t9 h g6) (g6 undefV h)) fun t42 h =>
joinG (fun g5 => grdV t38 true (vIaddr 17 t41 t42 h g5) (g5 undefV h)) fun t43 h =>
joinG (fun g4 => grdV t38 true (vLoadA 17 t43 h g4) (g4 undefV h)) fun t44 h =>
joinG (fun g3 => grdV t38 true (vLoadA 2 t4 h g3) (g3 undefV h)) fun t45 h =>
joinG (fun g2 => grdV t38 true (vCallV t40 [t44, t45] cf h g2) (g2 undefV h)) fun t46 h =>
joinG (fun g1 => grdV t38 true (vEql t46 (.int .i64 0) h g1) (g1 undefV h)) fun t47 h =>
vPick t38 t47 (.bool .false) h fun t48 h =>
K (.tup [t9, t48]) h
noncomputable def s_slices_BinarySearchFunc_movetree_done_movetree_done_api_IDB13 (cf : CallK) (fuel : Nat) (ih9 : AV → AV → Hp → Prop) (t10 : AV) (t9 : AV) (t0 : AV) (t2 : AV) (t4 : AV) (h : Hp) : Prop :=
(fun (e10 : AV → AV → Hp → Prop) =>
vAdd t9 t10 h fun t20 h =>
vToInt .u64 t20 h fun t21 h =>
vShr t21 (.int .u64 1) h fun t22 h =>
vToInt .i64 t22 h fun t23 h =>
vIaddr 17 t0 t23 h fun t27 h =>
vLoadA 17 t27 h fun t28 h =>
vLoadA 2 t4 h fun t29 h =>
vCallV t2 [t28, t29] cf h fun t30 h =>
vLss t30 (.int .i64 0) h fun t31 h =>
vIf t31 (
vAdd t23 (.int .i64 1) h fun t33 h =>
e10 t33 t10 h) (
e10 t9 t23 h)) fun t9_11 t10_12 h =>
ih9 t9_11 t10_12 h
noncomputable def s_slices_BinarySearchFunc_movetree_done_movetree_done_api_IDL9B (cf : CallK) (fuel : Nat) (e0 : AV → Hp → Prop) (t0 : AV) (t2 : AV) (t4 : AV) (t8 : AV) (ih9 : AV → AV → Hp → Prop) : AV → AV → Hp → Prop := fun t9 t10 h =>
vLss t9 t10 h fun t17 h =>
vIf t17 (
s_slices_BinarySearchFunc_movetree_done_movetree_done_api_IDB13 cf fuel ih9 t10 t9 t0 t2 t4 h) (
e0 t9 h)
noncomputable def s_slices_BinarySearchFunc_movetree_done_movetree_done_api_IDL9 (cf : CallK) (fuel : Nat) (e0 : AV → Hp → Prop) (t0 : AV) (t2 : AV) (t4 : AV) (t8 : AV) (m : Nat) : AV → AV → Hp → Prop := Nat.rec (motive := fun _ => AV → AV → Hp → Prop) (fun _ _ _ => False) (fun _ ih => s_slices_BinarySearchFunc_movetree_done_movetree_done_api_IDL9B cf fuel e0 t0 t2 t4 t8 ih) m
theorem s_slices_BinarySearchFunc_movetree_done_movetree_done_api_IDL9_succ (cf : CallK) (fuel : Nat) (e0 : AV → Hp → Prop) (t0 : AV) (t2 : AV) (t4 : AV) (t8 : AV) (m : Nat) : s_slices_BinarySearchFunc_movetree_done_movetree_done_api_IDL9 cf fuel e0 t0 t2 t4 t8 (m + 1) = s_slices_BinarySearchFunc_movetree_done_movetree_done_api_IDL9B cf fuel e0 t0 t2 t4 t8 (s_slices_BinarySearchFunc_movetree_done_movetree_done_api_IDL9 cf fuel e0 t0 t2 t4 t8 m) := rfl
noncomputable def s_slices_BinarySearchFunc_movetree_done_movetree_done_api_ID (cf : CallK) (fuel : Nat) (t0 : AV) (t1 : AV) (t2 : AV) (h : Hp) (K : AV → Hp → Prop) : Prop :=
vBox 2 t1 h fun t4 h =>
vLenL2 t0 h fun t13 h =>
(fun (e0 : AV → Hp → Prop) =>
s_slices_BinarySearchFunc_movetree_done_movetree_done_api_IDL9 cf fuel (s_slices_BinarySearchFunc_movetree_done_movetree_done_api_IDE0 cf fuel K t0 t2 t4 t13) t0 t2 t4 t13 fuel (.int .i64 0) t13 h) (s_slices_BinarySearchFunc_movetree_done_movetree_done_api_IDE0 cf fuel K t0 t2 t4 t13)
theorem s_slices_BinarySearchFunc_movetree_done_movetree_done_api_ID_eq (cf : CallK) (fuel : Nat) (t0 : AV) (t1 : AV) (t2 : AV) (h : Hp) (K : AV → Hp → Prop) : s_slices_BinarySearchFunc_movetree_done_movetree_done_api_ID cf fuel t0 t1 t2 h K = deepT (tabOf Tryz.prog) f_slices_BinarySearchFunc_movetree_done_movetree_done_api_ID cf fuel [t0, t1, t2] h K :=
  Eq.trans (by kernel_rfl) (rFun (by kernel_rfl) (rSeq (by kernel_rfl) (rSeq (by kernel_rfl) (rSeq (by kernel_rfl) (rSeq (by kernel_rfl) rExact (rBlock (by kernel_rfl) (rLoop (by kernel_rfl) (fun m9 fr h => s_slices_BinarySearchFunc_movetree_done_movetree_done_api_IDL9 cf fuel (s_slices_BinarySearchFunc_movetree_done_movetree_done_api_IDE0 cf fuel K (getS fr (gpos 0)) (getS fr (gpos 2)) (getS fr (gpos 4)) (getS fr (gpos 8))) (getS fr (gpos 0)) (getS fr (gpos 2)) (getS fr (gpos 4)) (getS fr (gpos 8)) m9 (getS fr (gpos 9)) (getS fr (gpos 10)) h) (funext fun fr => funext fun h => by kernel_rfl) fun m9 => rCast (funext fun fr => funext fun h => by kernel_rfl) rExact))) rExact) rExact) rExact))

noncomputable def s_movetree_Tree_Apply_1 (cf : CallK) (fuel : Nat) (t0 : AV) (t1 : AV) (h : Hp) (K : AV → Hp → Prop) : Prop :=
vBox 17 t0 h fun t2 h =>
vBox 2 t1 h fun t3 h =>
vFaddr 0 t2 h fun t5 h =>
vFaddr 0 t5 h fun t6 h =>
vLoadA 2 t6 h fun t7 h =>
vLoadA 2 t3 h fun t8 h =>
cf f_clock_Cmp [t7, t8] h fun t9 h =>
K t9 h
theorem s_movetree_Tree_Apply_1_eq (cf : CallK) (fuel : Nat) (t0 : AV) (t1 : AV) (h : Hp) (K : AV → Hp → Prop) : s_movetree_Tree_Apply_1 cf fuel t0 t1 h K = deepT (tabOf Tryz.prog) f_movetree_Tree_Apply_1 cf fuel [t0, t1] h K :=
  Eq.trans (by kernel_rfl) (rFun (by kernel_rfl) rExact)

noncomputable def s_slices_Clone_movetree_done_movetree_done (cf : CallK) (fuel : Nat) (t0 : AV) (h : Hp) (K : AV → Hp → Prop) : Prop :=
vEq false eqNS t0 .nilslice h fun t4 h =>
vIf t4 (
K .nilslice h) (
vBslice 17 0 false [(.int .i64 0), (.int .i64 0), (.int .i64 0), (.int .i64 0), (.int .i64 0), (.int .i64 0), (.int .i64 0), (.int .i64 0), (.str 0 0), .nilslice, .nilslice, (.bool .false), (.int .i64 0), (.int .i64 0), (.str 0 0), (.bool .false), (.bool .false)] [] h fun t5 h =>
vAppend2 17 176 false t5 t0 h fun t7 h =>
K t7 h)
theorem s_slices_Clone_movetree_done_movetree_done_eq (cf : CallK) (fuel : Nat) (t0 : AV) (h : Hp) (K : AV → Hp → Prop) : s_slices_Clone_movetree_done_movetree_done cf fuel t0 h K = deepT (tabOf Tryz.prog) f_slices_Clone_movetree_done_movetree_done cf fuel [t0] h K :=
  Eq.trans (by kernel_rfl) (rFun (by kernel_rfl) rExact)

noncomputable def s_slices_Reverse_movetree_done_movetree_doneE0 (cf : CallK) (fuel : Nat) (K : AV → Hp → Prop) : Hp → Prop := fun h =>
K (.tup []) h
noncomputable def s_slices_Reverse_movetree_done_movetree_doneL1B (cf : CallK) (fuel : Nat) (e0 : Hp → Prop) (t0 : AV) (ih1 : AV → AV → Hp → Prop) : AV → AV → Hp → Prop := fun t2 t3 h =>
vLss t2 t3 h fun t9 h =>
vIf t9 (
(fun (e2 : Hp → Prop) =>
vIaddr 17 t0 t3 h fun t20 h =>
vLoadA 17 t20 h fun t21 h =>
vIaddr 17 t0 t2 h fun t24 h =>
vLoadA 17 t24 h fun t25 h =>
vIaddr 17 t0 t2 h fun t26 h =>
vStore 17 t26 t21 h fun _ h =>
vIaddr 17 t0 t3 h fun t27 h =>
vStore 17 t27 t25 h fun _ h =>
e2 h) fun h =>
vAdd t2 (.int .i64 1) h fun t11 h =>
vArith Go.Am.subI t3 (.int .i64 1) h fun t13 h =>
ih1 t11 t13 h) (
e0 h)
noncomputable def s_slices_Reverse_movetree_done_movetree_doneL1 (cf : CallK) (fuel : Nat) (e0 : Hp → Prop) (t0 : AV) (m : Nat) : AV → AV → Hp → Prop := Nat.rec (motive := fun _ => AV → AV → Hp → Prop) (fun _ _ _ => False) (fun _ ih => s_slices_Reverse_movetree_done_movetree_doneL1B cf fuel e0 t0 ih) m
theorem s_slices_Reverse_movetree_done_movetree_doneL1_succ (cf : CallK) (fuel : Nat) (e0 : Hp → Prop) (t0 : AV) (m : Nat) : s_slices_Reverse_movetree_done_movetree_doneL1 cf fuel e0 t0 (m + 1) = s_slices_Reverse_movetree_done_movetree_doneL1B cf fuel e0 t0 (s_slices_Reverse_movetree_done_movetree_doneL1 cf fuel e0 t0 m) := rfl
noncomputable def s_slices_Reverse_movetree_done_movetree_done (cf : CallK) (fuel : Nat) (t0 : AV) (h : Hp) (K : AV → Hp → Prop) : Prop :=
vLenL2 t0 h fun t5 h =>
vArith Go.Am.subI t5 (.int .i64 1) h fun t6 h =>
(fun (e0 : Hp → Prop) =>
s_slices_Reverse_movetree_done_movetree_doneL1 cf fuel (s_slices_Reverse_movetree_done_movetree_doneE0 cf fuel K) t0 fuel (.int .i64 0) t6 h) (s_slices_Reverse_movetree_done_movetree_doneE0 cf fuel K)
theorem s_slices_Reverse_movetree_done_movetree_done_eq (cf : CallK) (fuel : Nat) (t0 : AV) (h : Hp) (K : AV → Hp → Prop) : s_slices_Reverse_movetree_done_movetree_done cf fuel t0 h K = deepT (tabOf Tryz.prog) f_slices_Reverse_movetree_done_movetree_done cf fuel [t0] h K :=
  Eq.trans (by kernel_rfl) (rFun (by kernel_rfl) (rSeq (by kernel_rfl) (rBlock (by kernel_rfl) (rLoop (by kernel_rfl) (fun m1 fr h => s_slices_Reverse_movetree_done_movetree_doneL1 cf fuel (s_slices_Reverse_movetree_done_movetree_doneE0 cf fuel K) (getS fr (gpos 0)) m1 (getS fr (gpos 2)) (getS fr (gpos 3)) h) (funext fun fr => funext fun h => by kernel_rfl) fun m1 => rCast (funext fun fr => funext fun h => by kernel_rfl) rExact)) rExact))

noncomputable def s_movetree_eachE0 (cf : CallK) (fuel : Nat) (K : AV → Hp → Prop) : Hp → Prop := fun h =>
K (.tup []) h
noncomputable def s_movetree_eachL1B (cf : CallK) (fuel : Nat) (e0 : Hp → Prop) (t0 : AV) (t1 : AV) (t6 : AV) (ih1 : AV → Hp → Prop) : AV → Hp → Prop := fun t7 h =>
vLss t7 t6 h fun t8 h =>
vIf t8 (
(fun (e2 : Hp → Prop) =>
vIaddr 17 t0 t7 h fun t13 h =>
vCallV t1 [t13] cf h fun t14 h =>
e2 h) fun h =>
vAdd t7 (.int .i64 1) h fun t15 h =>
ih1 t15 h) (
e0 h)
noncomputable def s_movetree_eachL1 (cf : CallK) (fuel : Nat) (e0 : Hp → Prop) (t0 : AV) (t1 : AV) (t6 : AV) (m : Nat) : AV → Hp → Prop := Nat.rec (motive := fun _ => AV → Hp → Prop) (fun _ _ => False) (fun _ ih => s_movetree_eachL1B cf fuel e0 t0 t1 t6 ih) m
theorem s_movetree_eachL1_succ (cf : CallK) (fuel : Nat) (e0 : Hp → Prop) (t0 : AV) (t1 : AV) (t6 : AV) (m : Nat) : s_movetree_eachL1 cf fuel e0 t0 t1 t6 (m + 1) = s_movetree_eachL1B cf fuel e0 t0 t1 t6 (s_movetree_eachL1 cf fuel e0 t0 t1 t6 m) := rfl
noncomputable def s_movetree_each (cf : CallK) (fuel : Nat) (t0 : AV) (t1 : AV) (h : Hp) (K : AV → Hp → Prop) : Prop :=
vLenL2 t0 h fun t6 h =>
(fun (e0 : Hp → Prop) =>
s_movetree_eachL1 cf fuel (s_movetree_eachE0 cf fuel K) t0 t1 t6 fuel (.int .i64 0) h) (s_movetree_eachE0 cf fuel K)
theorem s_movetree_each_eq (cf : CallK) (fuel : Nat) (t0 : AV) (t1 : AV) (h : Hp) (K : AV → Hp → Prop) : s_movetree_each cf fuel t0 t1 h K = deepT (tabOf Tryz.prog) f_movetree_each cf fuel [t0, t1] h K :=
  Eq.trans (by kernel_rfl) (rFun (by kernel_rfl) (rSeq (by kernel_rfl) (rBlock (by kernel_rfl) (rLoop (by kernel_rfl) (fun m1 fr h => s_movetree_eachL1 cf fuel (s_movetree_eachE0 cf fuel K) (getS fr (gpos 0)) (getS fr (gpos 1)) (getS fr (gpos 6)) m1 (getS fr (gpos 7)) h) (funext fun fr => funext fun h => by kernel_rfl) fun m1 => rCast (funext fun fr => funext fun h => by kernel_rfl) rExact)) rExact))

noncomputable def s_movetree_Tree_undoB1 (cf : CallK) (fuel : Nat) (e0 : Hp → Prop) (t1 : AV) (t0 : AV) (h : Hp) : Prop :=
vNilck t1 h fun t21 h =>
vFaddr 15 t21 h fun t22 h =>
vLoad2 t22 h fun t23 h =>
vIf t23 (
vNilck t0 h fun t25 h =>
vFaddr 0 t25 h fun t26 h =>
vLoad2 t26 h fun t27 h =>
vNilck t1 h fun t29 h =>
vFaddr 0 t29 h fun t30 h =>
vFaddr 4 t30 h fun t31 h =>
vLoadA 2 t31 h fun t32 h =>
vNilck t1 h fun t34 h =>
vFaddr 11 t34 h fun t35 h =>
vLoadA 4 t35 h fun t36 h =>
vMapSet Go.Am.eqPair t27 t32 t36 h fun _ h =>
e0 h) (
vNilck t0 h fun t5 h =>
vFaddr 0 t5 h fun t6 h =>
vLoad2 t6 h fun t7 h =>
vNilck t1 h fun t9 h =>
vFaddr 0 t9 h fun t10 h =>
vFaddr 4 t10 h fun t11 h =>
vLoadA 2 t11 h fun t12 h =>
vMapDel Go.Am.eqPair t7 t12 h fun _ h =>
e0 h)
noncomputable def s_movetree_Tree_undo (cf : CallK) (fuel : Nat) (t0 : AV) (t1 : AV) (h : Hp) (K : AV → Hp → Prop) : Prop :=
(fun (e0 : Hp → Prop) =>
vNilck t1 h fun t15 h =>
vFaddr 16 t15 h fun t16 h =>
vLoad2 t16 h fun t17 h =>
vNot t17 h fun t18 h =>
vIf t18 (
e0 h) (
s_movetree_Tree_undoB1 cf fuel e0 t1 t0 h)) fun h =>
K (.tup []) h
theorem s_movetree_Tree_undo_eq (cf : CallK) (fuel : Nat) (t0 : AV) (t1 : AV) (h : Hp) (K : AV → Hp → Prop) : s_movetree_Tree_undo cf fuel t0 t1 h K = deepT (tabOf Tryz.prog) f_movetree_Tree_undo cf fuel [t0, t1] h K :=
  Eq.trans (by kernel_rfl) (rFun (by kernel_rfl) rExact)

noncomputable def s_slices_Insert_movetree_done_movetree_done (cf : CallK) (fuel : Nat) (t0 : AV) (t1 : AV) (t2 : AV) (h : Hp) (K : AV → Hp → Prop) : Prop :=
vSlice2 17 t0 (some t1) none h fun t12 h =>
vLenL2 t2 h fun t14 h =>
vEql t14 (.int .i64 0) h fun t16 h =>
vIf t16 (
K t0 h) (
vLenL2 t0 h fun t19 h =>
vEql t1 t19 h fun t22 h =>
vIf t22 (
vAppend2 17 176 false t0 t2 h fun t25 h =>
K t25 h) (
False))
theorem s_slices_Insert_movetree_done_movetree_done_eq (cf : CallK) (fuel : Nat) (t0 : AV) (t1 : AV) (t2 : AV) (h : Hp) (K : AV → Hp → Prop) : s_slices_Insert_movetree_done_movetree_done cf fuel t0 t1 t2 h K = deepT (tabOf Tryz.prog) f_slices_Insert_movetree_done_movetree_done cf fuel [t0, t1, t2] h K :=
  Eq.trans (by kernel_rfl) (rFun (by kernel_rfl) rExact)

noncomputable def s_movetree_Tree_doB6 (cf : CallK) (fuel : Nat) (K : AV → Hp → Prop) (t1 : AV) (t0 : AV) (h : Hp) : Prop :=
vNilck t0 h fun t37 h =>
vFaddr 0 t37 h fun t38 h =>
vLoad2 t38 h fun t39 h =>
vNilck t1 h fun t41 h =>
vFaddr 0 t41 h fun t42 h =>
vFaddr 4 t42 h fun t43 h =>
vLoadA 2 t43 h fun t44 h =>
vNilck t1 h fun t46 h =>
vFaddr 11 t46 h fun t47 h =>
vFaddr 0 t47 h fun t48 h =>
vLoad2 t48 h fun t49 h =>
joinG (fun g5 => grdV t49 false (vMov t1 h g5) (g5 undefV h)) fun t51 h =>
joinG (fun g4 => grdV t49 false (vNilck t51 h g4) (g4 undefV h)) fun t52 h =>
joinG (fun g3 => grdV t49 false (vFaddr 0 t52 h g3) (g3 undefV h)) fun t53 h =>
joinG (fun g2 => grdV t49 false (vFaddr 3 t53 h g2) (g2 undefV h)) fun t54 h =>
joinG (fun g1 => grdV t49 false (vLoad2 t54 h g1) (g1 undefV h)) fun t55 h =>
joinG (fun g0 => grdV t49 false (vEql t55 (.int .i64 1) h g0) (g0 undefV h)) fun t56 h =>
vPick t49 (.bool .true) t56 h fun t57 h =>
vNilck t1 h fun t59 h =>
vFaddr 0 t59 h fun t60 h =>
vFaddr 6 t60 h fun t61 h =>
vLoadA 2 t61 h fun t62 h =>
vNilck t1 h fun t64 h =>
vFaddr 0 t64 h fun t65 h =>
vFaddr 8 t65 h fun t66 h =>
vLoad2 t66 h fun t67 h =>
vBuild [(.bool .false), (.int .i64 0), (.int .i64 0), (.str 0 0)] [(0, 1, t57), (1, 2, t62), (3, 1, t67)] h fun t68 h =>
vMapSet Go.Am.eqPair t39 t44 t68 h fun _ h =>
K (.tup []) h
noncomputable def s_movetree_Tree_do (cf : CallK) (fuel : Nat) (t0 : AV) (t1 : AV) (h : Hp) (K : AV → Hp → Prop) : Prop :=
vNilck t0 h fun t8 h =>
vFaddr 0 t8 h fun t9 h =>
vLoad2 t9 h fun t10 h =>
vNilck t1 h fun t12 h =>
vFaddr 0 t12 h fun t13 h =>
vFaddr 4 t13 h fun t14 h =>
vLoadA 2 t14 h fun t15 h =>
vLookup Go.Am.eqPair true (.agg [(.bool .false), (.int .i64 0), (.int .i64 0), (.str 0 0)]) t10 t15 h fun t16 h =>
vExtract 0 t16 h fun t17 h =>
vExtract 1 t16 h fun t18 h =>
vNilck t1 h fun t19 h =>
vFaddr 11 t19 h fun t20 h =>
vStore 4 t20 t17 h fun _ h =>
vNilck t1 h fun t21 h =>
vFaddr 15 t21 h fun t22 h =>
vStore 1 t22 t18 h fun _ h =>
vNilck t1 h fun t26 h =>
vFaddr 0 t26 h fun t27 h =>
vLoadA 11 t27 h fun t28 h =>
cf f_movetree_Tree_may [t0, t28] h fun t29 h =>
vNilck t1 h fun t30 h =>
vFaddr 16 t30 h fun t31 h =>
vStore 1 t31 t29 h fun _ h =>
vNilck t1 h fun t33 h =>
vFaddr 16 t33 h fun t34 h =>
vLoad2 t34 h fun t35 h =>
vIf t35 (
s_movetree_Tree_doB6 cf fuel K t1 t0 h) (
K (.tup []) h)
theorem s_movetree_Tree_do_eq (cf : CallK) (fuel : Nat) (t0 : AV) (t1 : AV) (h : Hp) (K : AV → Hp → Prop) : s_movetree_Tree_do cf fuel t0 t1 h K = deepT (tabOf Tryz.prog) f_movetree_Tree_do cf fuel [t0, t1] h K :=
  Eq.trans (by kernel_rfl) (rFun (by kernel_rfl) rExact)

noncomputable def s_slices_Insert_api_Version_api_Version (cf : CallK) (fuel : Nat) (t0 : AV) (t1 : AV) (t2 : AV) (h : Hp) (K : AV → Hp → Prop) : Prop :=
vSlice2 5 t0 (some t1) none h fun t12 h =>
vLenL2 t2 h fun t14 h =>
vEql t14 (.int .i64 0) h fun t16 h =>
vIf t16 (
K t0 h) (
vLenL2 t0 h fun t19 h =>
vEql t1 t19 h fun t22 h =>
vIf t22 (
vAppend2 5 72 false t0 t2 h fun t25 h =>
K t25 h) (
False))
theorem s_slices_Insert_api_Version_api_Version_eq (cf : CallK) (fuel : Nat) (t0 : AV) (t1 : AV) (t2 : AV) (h : Hp) (K : AV → Hp → Prop) : s_slices_Insert_api_Version_api_Version cf fuel t0 t1 t2 h K = deepT (tabOf Tryz.prog) f_slices_Insert_api_Version_api_Version cf fuel [t0, t1, t2] h K :=
  Eq.trans (by kernel_rfl) (rFun (by kernel_rfl) rExact)

noncomputable def s_slices_nextPowerOfTwo (cf : CallK) (fuel : Nat) (t0 : AV) (h : Hp) (K : AV → Hp → Prop) : Prop :=
vToInt .u64 t0 h fun t4 h =>
cf f_math_bits_Len [t4] h fun t5 h =>
vShl (.int .u64 1) t5 h fun t6 h =>
K t6 h
theorem s_slices_nextPowerOfTwo_eq (cf : CallK) (fuel : Nat) (t0 : AV) (h : Hp) (K : AV → Hp → Prop) : s_slices_nextPowerOfTwo cf fuel t0 h K = deepT (tabOf Tryz.prog) f_slices_nextPowerOfTwo cf fuel [t0] h K :=
  Eq.trans (by kernel_rfl) (rFun (by kernel_rfl) rExact)

noncomputable def s_slices_xorshift_Next (cf : CallK) (fuel : Nat) (t0 : AV) (h : Hp) (K : AV → Hp → Prop) : Prop :=
vNilck t0 h fun t4 h =>
vLoad2 t4 h fun t5 h =>
vNilck t0 h fun t7 h =>
vLoad2 t7 h fun t8 h =>
vShl t8 (.int .u64 13) h fun t9 h =>
vBits Nat.xor t5 t9 h fun t10 h =>
vNilck t0 h fun t11 h =>
vStore 1 t11 t10 h fun _ h =>
vNilck t0 h fun t13 h =>
vLoad2 t13 h fun t14 h =>
vNilck t0 h fun t16 h =>
vLoad2 t16 h fun t17 h =>
vShr t17 (.int .u64 7) h fun t18 h =>
vBits Nat.xor t14 t18 h fun t19 h =>
vNilck t0 h fun t20 h =>
vStore 1 t20 t19 h fun _ h =>
vNilck t0 h fun t22 h =>
vLoad2 t22 h fun t23 h =>
vNilck t0 h fun t25 h =>
vLoad2 t25 h fun t26 h =>
vShl t26 (.int .u64 17) h fun t27 h =>
vBits Nat.xor t23 t27 h fun t28 h =>
vNilck t0 h fun t29 h =>
vStore 1 t29 t28 h fun _ h =>
vNilck t0 h fun t31 h =>
vLoad2 t31 h fun t32 h =>
K t32 h
theorem s_slices_xorshift_Next_eq (cf : CallK) (fuel : Nat) (t0 : AV) (h : Hp) (K : AV → Hp → Prop) : s_slices_xorshift_Next cf fuel t0 h K = deepT (tabOf Tryz.prog) f_slices_xorshift_Next cf fuel [t0] h K :=
  Eq.trans (by kernel_rfl) (rFun (by kernel_rfl) rExact)

noncomputable def s_cmp_isNaN_int (cf : CallK) (fuel : Nat) (t0 : AV) (h : Hp) (K : AV → Hp → Prop) : Prop :=
vNeq t0 t0 h fun t5 h =>
K t5 h
theorem s_cmp_isNaN_int_eq (cf : CallK) (fuel : Nat) (t0 : AV) (h : Hp) (K : AV → Hp → Prop) : s_cmp_isNaN_int cf fuel t0 h K = deepT (tabOf Tryz.prog) f_cmp_isNaN_int cf fuel [t0] h K :=
  Eq.trans (by kernel_rfl) (rFun (by kernel_rfl) rExact)

noncomputable def s_int_stringslite_HasPrefix (cf : CallK) (fuel : Nat) (t0 : AV) (t1 : AV) (h : Hp) (K : AV → Hp → Prop) : Prop :=
vLenS t0 h fun t6 h =>
vLenS t1 h fun t8 h =>
vGeq t6 t8 h fun t9 h =>
joinG (fun g5 => grdV t9 true (vMov t0 h g5) (g5 undefV h)) fun t11 h =>
joinG (fun g4 => grdV t9 true (vMov t1 h g4) (g4 undefV h)) fun t12 h =>
joinG (fun g3 => grdV t9 true (vLenS t12 h g3) (g3 undefV h)) fun t13 h =>
joinG (fun g2 => grdV t9 true (vSliceS t11 none (some t13) h g2) (g2 undefV h)) fun t14 h =>
joinG (fun g1 => grdV t9 true (vMov t1 h g1) (g1 undefV h)) fun t15 h =>
joinG (fun g0 => grdV t9 true (vEql t14 t15 h g0) (g0 undefV h)) fun t16 h =>
vPick t9 t16 (.bool .false) h fun t17 h =>
K t17 h
theorem s_int_stringslite_HasPrefix_eq (cf : CallK) (fuel : Nat) (t0 : AV) (t1 : AV) (h : Hp) (K : AV → Hp → Prop) : s_int_stringslite_HasPrefix cf fuel t0 t1 h K = deepT (tabOf Tryz.prog) f_int_stringslite_HasPrefix cf fuel [t0, t1] h K :=
  Eq.trans (by kernel_rfl) (rFun (by kernel_rfl) rExact)

noncomputable def s_strings_genSplitE2 (cf : CallK) (fuel : Nat) (K : AV → Hp → Prop) (t9 : AV) : AV → AV → Hp → Prop := fun t0 t10 h =>
vIaddr 1 t9 t10 h fun t61 h =>
vStore 1 t61 t0 h fun _ h =>
vAdd t10 (.int .i64 1) h fun t64 h =>
vSlice2 1 t9 none (some t64) h fun t65 h =>
K t65 h
noncomputable def s_strings_genSplitB6 (cf : CallK) (fuel : Nat) (ih3 : AV → AV → Hp → Prop) (e2 : AV → AV → Hp → Prop) (t10 : AV) (t1 : AV) (t2 : AV) (t9 : AV) (t0 : AV) (h : Hp) : Prop :=
(fun (e4 : AV → AV → Hp → Prop) =>
cf f_strings_Index [t0, t1] h fun t39 h =>
vLss t39 (.int .i64 0) h fun t41 h =>
vIf t41 (
e2 t0 t10 h) (
vAdd t39 t2 h fun t47 h =>
vSliceS t0 none (some t47) h fun t48 h =>
vIaddr 1 t9 t10 h fun t49 h =>
vStore 1 t49 t48 h fun _ h =>
vLenS t1 h fun t53 h =>
vAdd t39 t53 h fun t54 h =>
vSliceS t0 (some t54) none h fun t55 h =>
vAdd t10 (.int .i64 1) h fun t57 h =>
e4 t55 t57 h)) fun t0 t10_5 h =>
ih3 t0 t10_5 h
noncomputable def s_strings_genSplitL3B (cf : CallK) (fuel : Nat) (e2 : AV → AV → Hp → Prop) (t1 : AV) (t2 : AV) (t3 : AV) (t9 : AV) (ih3 : AV → AV → Hp → Prop) : AV → AV → Hp → Prop := fun t0 t10 h =>
vLss t10 t3 h fun t36 h =>
vIf t36 (
s_strings_genSplitB6 cf fuel ih3 e2 t10 t1 t2 t9 t0 h) (
e2 t0 t10 h)
noncomputable def s_strings_genSplitL3 (cf : CallK) (fuel : Nat) (e2 : AV → AV → Hp → Prop) (t1 : AV) (t2 : AV) (t3 : AV) (t9 : AV) (m : Nat) : AV → AV → Hp → Prop := Nat.rec (motive := fun _ => AV → AV → Hp → Prop) (fun _ _ _ => False) (fun _ ih => s_strings_genSplitL3B cf fuel e2 t1 t2 t3 t9 ih) m
theorem s_strings_genSplitL3_succ (cf : CallK) (fuel : Nat) (e2 : AV → AV → Hp → Prop) (t1 : AV) (t2 : AV) (t3 : AV) (t9 : AV) (m : Nat) : s_strings_genSplitL3 cf fuel e2 t1 t2 t3 t9 (m + 1) = s_strings_genSplitL3B cf fuel e2 t1 t2 t3 t9 (s_strings_genSplitL3 cf fuel e2 t1 t2 t3 t9 m) := rfl
noncomputable def s_strings_genSplitB7 (cf : CallK) (fuel : Nat) (K : AV → Hp → Prop) (t3 : AV) (t0 : AV) (t1 : AV) (t2 : AV) (h : Hp) : Prop :=
vEql t1 (.str 0 0) h fun t15 h =>
vIf t15 (
cf f_strings_explode [t0, t3] h fun t18 h =>
K t18 h) (
(fun (j0 : AV → Hp → Prop) =>
vLss t3 (.int .i64 0) h fun t20 h =>
vIf t20 (
cf f_strings_Count [t0, t1] h fun t23 h =>
vAdd t23 (.int .i64 1) h fun t24 h =>
j0 t24 h) (
j0 t3 h)) fun t3_1 h =>
vLenS t0 h fun t27 h =>
vAdd t27 (.int .i64 1) h fun t28 h =>
vMin false t3_1 t28 h fun t29 h =>
vMkSlice 1 16 false [(.str 0 0)] t29 t29 h fun t31 h =>
vArith Go.Am.subI t29 (.int .i64 1) h fun t33 h =>
(fun (e2 : AV → AV → Hp → Prop) =>
s_strings_genSplitL3 cf fuel (s_strings_genSplitE2 cf fuel K t31) t1 t2 t33 t31 fuel t0 (.int .i64 0) h) (s_strings_genSplitE2 cf fuel K t31))
noncomputable def s_strings_genSplit (cf : CallK) (fuel : Nat) (t0 : AV) (t1 : AV) (t2 : AV) (t3 : AV) (h : Hp) (K : AV → Hp → Prop) : Prop :=
vEql t3 (.int .i64 0) h fun t13 h =>
vIf t13 (
K .nilslice h) (
s_strings_genSplitB7 cf fuel K t3 t0 t1 t2 h)
theorem s_strings_genSplit_eq (cf : CallK) (fuel : Nat) (t0 : AV) (t1 : AV) (t2 : AV) (t3 : AV) (h : Hp) (K : AV → Hp → Prop) : s_strings_genSplit cf fuel t0 t1 t2 t3 h K = deepT (tabOf Tryz.prog) f_strings_genSplit cf fuel [t0, t1, t2, t3] h K :=
  Eq.trans (by kernel_rfl) (rFun (by kernel_rfl) (rSeq (by kernel_rfl) (rSeq (by kernel_rfl) (rSeq (by kernel_rfl) (rSeq (by kernel_rfl) (rSeq (by kernel_rfl) (rSeq (by kernel_rfl) (rSeq (by kernel_rfl) (rSeq (by kernel_rfl) (rSeq (by kernel_rfl) rExact (rBlock (by kernel_rfl) (rLoop (by kernel_rfl) (fun m3 fr h => s_strings_genSplitL3 cf fuel (s_strings_genSplitE2 cf fuel K (getS fr (gpos 9))) (getS fr (gpos 1)) (getS fr (gpos 2)) (getS fr (gpos 3)) (getS fr (gpos 9)) m3 (getS fr (gpos 0)) (getS fr (gpos 10)) h) (funext fun fr => funext fun h => by kernel_rfl) fun m3 => rCast (funext fun fr => funext fun h => by kernel_rfl) rExact))) rExact) rExact) rExact) rExact) rExact) rExact) rExact) rExact))

noncomputable def s_strings_Cut (cf : CallK) (fuel : Nat) (t0 : AV) (t1 : AV) (h : Hp) (K : AV → Hp → Prop) : Prop :=
cf f_int_stringslite_Cut [t0, t1] h fun t9 h =>
vExtract 0 t9 h fun t10 h =>
vExtract 1 t9 h fun t11 h =>
vExtract 2 t9 h fun t12 h =>
K (.tup [t10, t11, t12]) h
theorem s_strings_Cut_eq (cf : CallK) (fuel : Nat) (t0 : AV) (t1 : AV) (h : Hp) (K : AV → Hp → Prop) : s_strings_Cut cf fuel t0 t1 h K = deepT (tabOf Tryz.prog) f_strings_Cut cf fuel [t0, t1] h K :=
  Eq.trans (by kernel_rfl) (rFun (by kernel_rfl) rExact)

noncomputable def s_clash_number (cf : CallK) (fuel : Nat) (t0 : AV) (h : Hp) (K : AV → Hp → Prop) : Prop :=
cf f_strconv_ParseInt [t0, (.int .i64 10), (.int .i64 64)] h fun t8 h =>
vExtract 0 t8 h fun t9 h =>
vExtract 1 t8 h fun t10 h =>
vEq false (eqIf Tryz.prog true) t10 .niliface h fun t13 h =>
joinG (fun g3 => grdV t13 true (vMov t9 h g3) (g3 undefV h)) fun t15 h =>
joinG (fun g2 => grdV t13 true (cf f_strconv_FormatInt [t15, (.int .i64 10)] h g2) (g2 undefV h)) fun t16 h =>
joinG (fun g1 => grdV t13 true (vMov t0 h g1) (g1 undefV h)) fun t17 h =>
joinG (fun g0 => grdV t13 true (vEql t16 t17 h g0) (g0 undefV h)) fun t18 h =>
vPick t13 t18 (.bool .false) h fun t19 h =>
K (.tup [t9, t19]) h
theorem s_clash_number_eq (cf : CallK) (fuel : Nat) (t0 : AV) (h : Hp) (K : AV → Hp → Prop) : s_clash_number cf fuel t0 h K = deepT (tabOf Tryz.prog) f_clash_number cf fuel [t0] h K :=
  Eq.trans (by kernel_rfl) (rFun (by kernel_rfl) rExact)

noncomputable def s_clash_Suffix (cf : CallK) (fuel : Nat) (t0 : AV) (h : Hp) (K : AV → Hp → Prop) : Prop :=
vBox 2 t0 h fun t1 h =>
vFaddr 0 t1 h fun t3 h =>
vLoad2 t3 h fun t4 h =>
vFaddr 1 t1 h fun t8 h =>
vLoad2 t8 h fun t9 h =>
cf f_strconv_FormatInt [t4, (.int .i64 10)] h fun t5 h =>
vLoad2 t8 h fun c _ => gd (sameV c t9) (
vAdd (.str 1 1) t5 h fun t6 h =>
vAdd t6 (.str 1 46) h fun t7 h =>
cf f_strconv_Itoa [t9] h fun t10 h =>
vAdd t7 t10 h fun t11 h =>
K t11 h)
theorem s_clash_Suffix_eq (cf : CallK) (fuel : Nat) (t0 : AV) (h : Hp) (K : AV → Hp → Prop) : s_clash_Suffix cf fuel t0 h K = deepT (tabOf Tryz.prog) f_clash_Suffix cf fuel [t0] h K :=
  Eq.trans (by kernel_rfl) (rFun (by kernel_rfl) rExact)

noncomputable def s_slices_SortFunc_api_ID_api_ID (cf : CallK) (fuel : Nat) (t0 : AV) (t1 : AV) (h : Hp) (K : AV → Hp → Prop) : Prop :=
vLenL2 t0 h fun t6 h =>
vToInt .u64 t6 h fun t10 h =>
cf f_math_bits_Len [t10] h fun t11 h =>
cf f_slices_pdqsortCmpFunc_api_ID [t0, (.int .i64 0), t6, t11, t1] h fun t13 h =>
K (.tup []) h
theorem s_slices_SortFunc_api_ID_api_ID_eq (cf : CallK) (fuel : Nat) (t0 : AV) (t1 : AV) (h : Hp) (K : AV → Hp → Prop) : s_slices_SortFunc_api_ID_api_ID cf fuel t0 t1 h K = deepT (tabOf Tryz.prog) f_slices_SortFunc_api_ID_api_ID cf fuel [t0, t1] h K :=
  Eq.trans (by kernel_rfl) (rFun (by kernel_rfl) rExact)


end Go.Proofs.YtciipeallilmiaaGreatDoor.sh9
