/- The Go functions' code as the abstract machine's, over values; each is the code that the machine makes of the program's (theorems s_.._eq). No condition. -/
import Derived.Test.YtciipeallilmiaaGreatDoorAmC
import Derived.Test.YtciipeallilmiaaGreatDoorProg
import Derived.KernelRfl
namespace Go.Proofs.YtciipeallilmiaaGreatDoor.sh8
open Go Go.Am Go.Proofs
set_option linter.unusedVariables false
set_option maxRecDepth 100000
abbrev f_clash_Shown : Nat := 267
abbrev f_clash_Split : Nat := 259
abbrev f_clash_Suffix : Nat := 300
abbrev f_clash_number : Nat := 299
abbrev f_clock_Less : Nat := 148
abbrev f_clock_Valid : Nat := 215
abbrev f_cmp_Compare_int : Nat := 272
abbrev f_cmp_Compare_int64 : Nat := 271
abbrev f_cmp_Less_int : Nat := 249
abbrev f_cmp_isNaN_int : Nat := 295
abbrev f_cmp_isNaN_int64 : Nat := 312
abbrev f_codec_stamp : Nat := 270
abbrev f_content_Behind : Nat := 264
abbrev f_content_File_Size : Nat := 263
abbrev f_content_File_Value : Nat := 202
abbrev f_device_Device_done : Nat := 254
abbrev f_int_bytealg_CompareString : Nat := 269
abbrev f_int_bytealg_abigen_runtime_cmpstring : Nat := 311
abbrev f_int_stringslite_HasPrefix : Nat := 296
abbrev f_math_bits_Len32 : Nat := 252
abbrev f_math_bits_Len64 : Nat := 253
abbrev f_movetree_Tree_Below : Nat := 206
abbrev f_movetree_Tree_Kids : Nat := 266
abbrev f_movetree_Tree_Live : Nat := 261
abbrev f_movetree_fixed : Nat := 262
abbrev f_ops_Name : Nat := 203
abbrev f_ops_Root : Nat := 217
abbrev f_ops_Trash : Nat := 205
abbrev f_slices_Index_string_string : Nat := 260
abbrev f_slices_SortFunc_api_ID_api_ID : Nat := 302
abbrev f_slices_breakPatternsCmpFunc_api_Entry : Nat := 305
abbrev f_slices_breakPatternsOrdered_int : Nat := 245
abbrev f_slices_choosePivotCmpFunc_api_Entry : Nat := 306
abbrev f_slices_choosePivotOrdered_int : Nat := 246
abbrev f_slices_heapSortCmpFunc_api_Entry : Nat := 304
abbrev f_slices_heapSortOrdered_int : Nat := 244
abbrev f_slices_insertionSortCmpFunc_api_Entry : Nat := 303
abbrev f_slices_insertionSortOrdered_int : Nat := 243
abbrev f_slices_medianAdjacentOrdered_int : Nat := 293
abbrev f_slices_medianOrdered_int : Nat := 294
abbrev f_slices_nextPowerOfTwo : Nat := 291
abbrev f_slices_partialInsertionSortCmpFunc_api_Entry : Nat := 308
abbrev f_slices_partialInsertionSortOrdered_int : Nat := 248
abbrev f_slices_partitionCmpFunc_api_Entry : Nat := 310
abbrev f_slices_partitionEqualCmpFunc_api_Entry : Nat := 309
abbrev f_slices_partitionEqualOrdered_int : Nat := 250
abbrev f_slices_partitionOrdered_int : Nat := 251
abbrev f_slices_pdqsortCmpFunc_api_Entry : Nat := 268
abbrev f_slices_reverseRangeCmpFunc_api_Entry : Nat := 307
abbrev f_slices_reverseRangeOrdered_int : Nat := 247
abbrev f_slices_siftDownOrdered_int : Nat := 290
abbrev f_slices_xorshift_Next : Nat := 292
abbrev f_strings_ContainsAny : Nat := 265
abbrev f_strings_Cut : Nat := 298
abbrev f_strings_HasPrefix : Nat := 257
abbrev f_strings_IndexAny : Nat := 301
abbrev f_strings_Split : Nat := 258
abbrev f_strings_genSplit : Nat := 297
abbrev f_vector_At : Nat := 106
abbrev f_wal_Volume_may : Nat := 256
abbrev f_zbyte_Append64 : Nat := 255

noncomputable def s_cmp_Less_int (cf : CallK) (fuel : Nat) (t0 : AV) (t1 : AV) (h : Hp) (K : AV → Hp → Prop) : Prop :=
cf f_cmp_isNaN_int [t0] h fun t6 h =>
joinG (fun g5 => grdV t6 true (vMov t1 h g5) (g5 undefV h)) fun t8 h =>
joinG (fun g4 => grdV t6 true (cf f_cmp_isNaN_int [t8] h g4) (g4 undefV h)) fun t9 h =>
joinG (fun g3 => grdV t6 true (vNot t9 h g3) (g3 undefV h)) fun t10 h =>
vPick t6 t10 (.bool .false) h fun t11 h =>
joinG (fun g2 => grdV t11 false (vMov t0 h g2) (g2 undefV h)) fun t13 h =>
joinG (fun g1 => grdV t11 false (vMov t1 h g1) (g1 undefV h)) fun t14 h =>
joinG (fun g0 => grdV t11 false (vLss t13 t14 h g0) (g0 undefV h)) fun t15 h =>
vPick t11 (.bool .true) t15 h fun t16 h =>
K t16 h
theorem s_cmp_Less_int_eq (cf : CallK) (fuel : Nat) (t0 : AV) (t1 : AV) (h : Hp) (K : AV → Hp → Prop) : s_cmp_Less_int cf fuel t0 t1 h K = deepT (tabOf Tryz.prog) f_cmp_Less_int cf fuel [t0, t1] h K :=
  Eq.trans (by kernel_rfl) (rFun (by kernel_rfl) rExact)

noncomputable def s_math_bits_Len32 (cf : CallK) (fuel : Nat) (t0 : AV) (h : Hp) (K : AV → Hp → Prop) : Prop :=
(fun (j0 : AV → AV → Hp → Prop) =>
vGeq t0 (.int .u32 65536) h fun t4 h =>
vIf t4 (
vShr t0 (.int .u64 16) h fun t6 h =>
j0 t6 (.int .i64 16) h) (
j0 t0 (.int .i64 0) h)) fun t0 t2 h =>
(fun (j1 : AV → AV → Hp → Prop) =>
vGeq t0 (.int .u32 256) h fun t8 h =>
vIf t8 (
vShr t0 (.int .u64 8) h fun t10 h =>
vAdd t2 (.int .i64 8) h fun t12 h =>
j1 t10 t12 h) (
j1 t0 t2 h)) fun t0 t2 h =>
vToInt .u8 t0 h fun t15 h =>
vIdxS (.str 256 1013866857139168856493015739252390649739422828853819106890363778118420553376247557433637691341895324351018602695588957474325319502760499485336098898398377509666851054660423406800006203933793007272033180812049178612605246075062580585469430410618860250057463399279570354286669047577758927328864388992123306212451509403152394148136105363817402562688186708175358218852349079190158732807302672745370040257219644697201681238697346923541678507645485296520536209706771857694240900605172937619415410180424934769249448772944216470541052485265558808433676546390051204254346932932316488017972311616136051587427851453983453479168) t15 h fun t16 h =>
vToInt .i64 t16 h fun t17 h =>
vAdd t2 t17 h fun t18 h =>
K t18 h
theorem s_math_bits_Len32_eq (cf : CallK) (fuel : Nat) (t0 : AV) (h : Hp) (K : AV → Hp → Prop) : s_math_bits_Len32 cf fuel t0 h K = deepT (tabOf Tryz.prog) f_math_bits_Len32 cf fuel [t0] h K :=
  Eq.trans (by kernel_rfl) (rFun (by kernel_rfl) rExact)

noncomputable def s_math_bits_Len64 (cf : CallK) (fuel : Nat) (t0 : AV) (h : Hp) (K : AV → Hp → Prop) : Prop :=
(fun (j0 : AV → AV → Hp → Prop) =>
vGeq t0 (.int .u64 4294967296) h fun t4 h =>
vIf t4 (
vShr t0 (.int .u64 32) h fun t6 h =>
j0 t6 (.int .i64 32) h) (
j0 t0 (.int .i64 0) h)) fun t0 t2 h =>
(fun (j1 : AV → AV → Hp → Prop) =>
vGeq t0 (.int .u64 65536) h fun t8 h =>
vIf t8 (
vShr t0 (.int .u64 16) h fun t10 h =>
vAdd t2 (.int .i64 16) h fun t12 h =>
j1 t10 t12 h) (
j1 t0 t2 h)) fun t0 t2 h =>
(fun (j2 : AV → AV → Hp → Prop) =>
vGeq t0 (.int .u64 256) h fun t14 h =>
vIf t14 (
vShr t0 (.int .u64 8) h fun t16 h =>
vAdd t2 (.int .i64 8) h fun t18 h =>
j2 t16 t18 h) (
j2 t0 t2 h)) fun t0 t2 h =>
vToInt .u8 t0 h fun t21 h =>
vIdxS (.str 256 1013866857139168856493015739252390649739422828853819106890363778118420553376247557433637691341895324351018602695588957474325319502760499485336098898398377509666851054660423406800006203933793007272033180812049178612605246075062580585469430410618860250057463399279570354286669047577758927328864388992123306212451509403152394148136105363817402562688186708175358218852349079190158732807302672745370040257219644697201681238697346923541678507645485296520536209706771857694240900605172937619415410180424934769249448772944216470541052485265558808433676546390051204254346932932316488017972311616136051587427851453983453479168) t21 h fun t22 h =>
vToInt .i64 t22 h fun t23 h =>
vAdd t2 t23 h fun t24 h =>
K t24 h
theorem s_math_bits_Len64_eq (cf : CallK) (fuel : Nat) (t0 : AV) (h : Hp) (K : AV → Hp → Prop) : s_math_bits_Len64 cf fuel t0 h K = deepT (tabOf Tryz.prog) f_math_bits_Len64 cf fuel [t0] h K :=
  Eq.trans (by kernel_rfl) (rFun (by kernel_rfl) rExact)

noncomputable def s_device_Device_doneB1 (cf : CallK) (fuel : Nat) (j0 : Hp → Prop) (t0 : AV) (h : Hp) : Prop :=
vNilck t0 h fun t15 h =>
vFaddr 2 t15 h fun t16 h =>
vLoad2 t16 h fun t17 h =>
vArith Go.Am.subI t17 (.int .i64 1) h fun t18 h =>
vNilck t0 h fun t19 h =>
vFaddr 2 t19 h fun t20 h =>
vStore 1 t20 t18 h fun _ h =>
vNilck t0 h fun t23 h =>
vFaddr 2 t23 h fun t24 h =>
vLoad2 t24 h fun t25 h =>
vLss t25 (.int .i64 1) h fun t26 h =>
vNilck t0 h fun t27 h =>
vFaddr 3 t27 h fun t28 h =>
vStore 1 t28 t26 h fun _ h =>
j0 h
noncomputable def s_device_Device_done (cf : CallK) (fuel : Nat) (t0 : AV) (h : Hp) (K : AV → Hp → Prop) : Prop :=
vNilck t0 h fun t4 h =>
vFaddr 4 t4 h fun t5 h =>
vLoad2 t5 h fun t6 h =>
vAdd t6 (.int .i64 1) h fun t7 h =>
vNilck t0 h fun t8 h =>
vFaddr 4 t8 h fun t9 h =>
vStore 1 t9 t7 h fun _ h =>
(fun (j0 : Hp → Prop) =>
vNilck t0 h fun t11 h =>
vFaddr 1 t11 h fun t12 h =>
vLoad2 t12 h fun t13 h =>
vIf t13 (
s_device_Device_doneB1 cf fuel j0 t0 h) (
j0 h)) fun h =>
K (.int .i64 0) h
theorem s_device_Device_done_eq (cf : CallK) (fuel : Nat) (t0 : AV) (h : Hp) (K : AV → Hp → Prop) : s_device_Device_done cf fuel t0 h K = deepT (tabOf Tryz.prog) f_device_Device_done cf fuel [t0] h K :=
  Eq.trans (by kernel_rfl) (rFun (by kernel_rfl) rExact)

noncomputable def s_zbyte_Append64 (cf : CallK) (fuel : Nat) (t0 : AV) (t1 : AV) (h : Hp) (K : AV → Hp → Prop) : Prop :=
vToInt .u8 t1 h fun t7 h =>
vShr t1 (.int .u64 8) h fun t9 h =>
vToInt .u8 t9 h fun t10 h =>
vShr t1 (.int .u64 16) h fun t12 h =>
vToInt .u8 t12 h fun t13 h =>
vShr t1 (.int .u64 24) h fun t15 h =>
vToInt .u8 t15 h fun t16 h =>
vShr t1 (.int .u64 32) h fun t18 h =>
vToInt .u8 t18 h fun t19 h =>
vShr t1 (.int .u64 40) h fun t21 h =>
vToInt .u8 t21 h fun t22 h =>
vShr t1 (.int .u64 48) h fun t24 h =>
vToInt .u8 t24 h fun t25 h =>
vShr t1 (.int .u64 56) h fun t27 h =>
vToInt .u8 t27 h fun t28 h =>
vBslice 1 8 true [(.int .u8 0)] [(0, 1, t7), (1, 1, t10), (2, 1, t13), (3, 1, t16), (4, 1, t19), (5, 1, t22), (6, 1, t25), (7, 1, t28)] h fun t29 h =>
vAppend2 1 1 true t0 t29 h fun t30 h =>
K t30 h
theorem s_zbyte_Append64_eq (cf : CallK) (fuel : Nat) (t0 : AV) (t1 : AV) (h : Hp) (K : AV → Hp → Prop) : s_zbyte_Append64 cf fuel t0 t1 h K = deepT (tabOf Tryz.prog) f_zbyte_Append64 cf fuel [t0, t1] h K :=
  Eq.trans (by kernel_rfl) (rFun (by kernel_rfl) rExact)

noncomputable def s_wal_Volume_mayE0 (cf : CallK) (fuel : Nat) (K : AV → Hp → Prop) : Hp → Prop := fun h =>
K (.bool .true) h
noncomputable def s_wal_Volume_mayB15 (cf : CallK) (fuel : Nat) (K : AV → Hp → Prop) (ih1 : AV → Hp → Prop) (t0 : AV) (t15 : AV) (t17 : AV) (h : Hp) : Prop :=
(fun (e2 : Hp → Prop) =>
vIaddr 2 t15 t17 h fun t19 h =>
vLoadA 2 t19 h fun t20 h =>
vBox 2 (.agg [(.int .i64 0), .nilslice]) h fun t6 h =>
vStore 2 t6 t20 h fun _ h =>
vFaddr 0 t6 h fun t21 h =>
vLoad2 t21 h fun t22 h =>
vLss t22 (.int .i64 0) h fun t23 h =>
joinG (fun g14 => grdV t23 false (vFaddr 0 t6 h g14) (g14 undefV h)) fun t25 h =>
joinG (fun g13 => grdV t23 false (vLoad2 t25 h g13) (g13 undefV h)) fun t26 h =>
joinG (fun g12 => grdV t23 false (vMov t0 h g12) (g12 undefV h)) fun t27 h =>
joinG (fun g11 => grdV t23 false (vNilck t27 h g11) (g11 undefV h)) fun t28 h =>
joinG (fun g10 => grdV t23 false (vFaddr 1 t28 h g10) (g10 undefV h)) fun t29 h =>
joinG (fun g9 => grdV t23 false (vLoad2 t29 h g9) (g9 undefV h)) fun t30 h =>
joinG (fun g8 => grdV t23 false (vLenL2 t30 h g8) (g8 undefV h)) fun t31 h =>
joinG (fun g7 => grdV t23 false (vGeq t26 t31 h g7) (g7 undefV h)) fun t32 h =>
vPick t23 (.bool .true) t32 h fun t33 h =>
joinG (fun g6 => grdV t33 false (vFaddr 1 t6 h g6) (g6 undefV h)) fun t35 h =>
joinG (fun g5 => grdV t33 false (vLoad2 t35 h g5) (g5 undefV h)) fun t36 h =>
joinG (fun g4 => grdV t33 false (vLenL2 t36 h g4) (g4 undefV h)) fun t37 h =>
joinG (fun g3 => grdV t33 false (vNeq t37 (.int .i64 512) h g3) (g3 undefV h)) fun t38 h =>
vPick t33 (.bool .true) t38 h fun t39 h =>
vIf t39 (
K (.bool .false) h) (
e2 h)) fun h =>
vAdd t17 (.int .i64 1) h fun t40 h =>
ih1 t40 h
noncomputable def s_wal_Volume_mayL1B (cf : CallK) (fuel : Nat) (K : AV → Hp → Prop) (e0 : Hp → Prop) (t0 : AV) (t15 : AV) (t16 : AV) (ih1 : AV → Hp → Prop) : AV → Hp → Prop := fun t17 h =>
vLss t17 t16 h fun t18 h =>
vIf t18 (
s_wal_Volume_mayB15 cf fuel K ih1 t0 t15 t17 h) (
e0 h)
noncomputable def s_wal_Volume_mayL1 (cf : CallK) (fuel : Nat) (K : AV → Hp → Prop) (e0 : Hp → Prop) (t0 : AV) (t15 : AV) (t16 : AV) (m : Nat) : AV → Hp → Prop := Nat.rec (motive := fun _ => AV → Hp → Prop) (fun _ _ => False) (fun _ ih => s_wal_Volume_mayL1B cf fuel K e0 t0 t15 t16 ih) m
theorem s_wal_Volume_mayL1_succ (cf : CallK) (fuel : Nat) (K : AV → Hp → Prop) (e0 : Hp → Prop) (t0 : AV) (t15 : AV) (t16 : AV) (m : Nat) : s_wal_Volume_mayL1 cf fuel K e0 t0 t15 t16 (m + 1) = s_wal_Volume_mayL1B cf fuel K e0 t0 t15 t16 (s_wal_Volume_mayL1 cf fuel K e0 t0 t15 t16 m) := rfl
noncomputable def s_wal_Volume_may (cf : CallK) (fuel : Nat) (t0 : AV) (t1 : AV) (h : Hp) (K : AV → Hp → Prop) : Prop :=
vLenL2 t1 h fun t8 h =>
vNilck t0 h fun t10 h =>
vFaddr 1 t10 h fun t11 h =>
vLoad2 t11 h fun t12 h =>
vLenL2 t12 h fun t13 h =>
vGtr t8 t13 h fun t14 h =>
vIf t14 (
K (.bool .false) h) (
vLenL2 t1 h fun t16 h =>
(fun (e0 : Hp → Prop) =>
s_wal_Volume_mayL1 cf fuel K (s_wal_Volume_mayE0 cf fuel K) t0 t1 t16 fuel (.int .i64 0) h) (s_wal_Volume_mayE0 cf fuel K))
theorem s_wal_Volume_may_eq (cf : CallK) (fuel : Nat) (t0 : AV) (t1 : AV) (h : Hp) (K : AV → Hp → Prop) : s_wal_Volume_may cf fuel t0 t1 h K = deepT (tabOf Tryz.prog) f_wal_Volume_may cf fuel [t0, t1] h K :=
  Eq.trans (by kernel_rfl) (rFun (by kernel_rfl) (rSeq (by kernel_rfl) (rSeq (by kernel_rfl) (rSeq (by kernel_rfl) rExact (rSeq (by kernel_rfl) (rBlock (by kernel_rfl) (rLoop (by kernel_rfl) (fun m1 fr h => s_wal_Volume_mayL1 cf fuel K (s_wal_Volume_mayE0 cf fuel K) (getS fr (gpos 0)) (getS fr (gpos 15)) (getS fr (gpos 16)) m1 (getS fr (gpos 17)) h) (funext fun fr => funext fun h => by kernel_rfl) fun m1 => rCast (funext fun fr => funext fun h => by kernel_rfl) rExact)) rExact)) rExact) rExact))

noncomputable def s_strings_HasPrefix (cf : CallK) (fuel : Nat) (t0 : AV) (t1 : AV) (h : Hp) (K : AV → Hp → Prop) : Prop :=
cf f_int_stringslite_HasPrefix [t0, t1] h fun t7 h =>
K t7 h
theorem s_strings_HasPrefix_eq (cf : CallK) (fuel : Nat) (t0 : AV) (t1 : AV) (h : Hp) (K : AV → Hp → Prop) : s_strings_HasPrefix cf fuel t0 t1 h K = deepT (tabOf Tryz.prog) f_strings_HasPrefix cf fuel [t0, t1] h K :=
  Eq.trans (by kernel_rfl) (rFun (by kernel_rfl) rExact)

noncomputable def s_strings_Split (cf : CallK) (fuel : Nat) (t0 : AV) (t1 : AV) (h : Hp) (K : AV → Hp → Prop) : Prop :=
cf f_strings_genSplit [t0, t1, (.int .i64 0), (.int .i64 (-1))] h fun t7 h =>
K t7 h
theorem s_strings_Split_eq (cf : CallK) (fuel : Nat) (t0 : AV) (t1 : AV) (h : Hp) (K : AV → Hp → Prop) : s_strings_Split cf fuel t0 t1 h K = deepT (tabOf Tryz.prog) f_strings_Split cf fuel [t0, t1] h K :=
  Eq.trans (by kernel_rfl) (rFun (by kernel_rfl) rExact)

noncomputable def s_clash_Split (cf : CallK) (fuel : Nat) (t0 : AV) (h : Hp) (K : AV → Hp → Prop) : Prop :=
vBox 2 (.agg [(.int .i64 0), (.int .i64 0)]) h fun t3 h =>
cf f_strings_Cut [t0, (.str 1 1)] h fun t18 h =>
vExtract 0 t18 h fun t19 h =>
vExtract 1 t18 h fun t20 h =>
vExtract 2 t18 h fun t21 h =>
cf f_strings_Cut [t20, (.str 1 46)] h fun t24 h =>
vExtract 0 t24 h fun t25 h =>
vExtract 1 t24 h fun t26 h =>
vExtract 2 t24 h fun t27 h =>
cf f_clash_number [t25] h fun t30 h =>
vExtract 0 t30 h fun t31 h =>
vExtract 1 t30 h fun t32 h =>
cf f_clash_number [t26] h fun t35 h =>
vExtract 0 t35 h fun t36 h =>
vExtract 1 t35 h fun t37 h =>
vBuild [(.int .i64 0), (.int .i64 0)] [(0, 1, t31), (1, 1, t36)] h fun t40 h =>
vBox 2 (.agg [(.int .i64 0), (.int .i64 0)]) h fun t15 h =>
vStore 2 t15 t40 h fun _ h =>
vNot t32 h fun t42 h =>
joinG (fun g13 => grdV t42 false (vMov t37 h g13) (g13 undefV h)) fun t44 h =>
joinG (fun g12 => grdV t42 false (vNot t44 h g12) (g12 undefV h)) fun t45 h =>
vPick t42 (.bool .true) t45 h fun t46 h =>
joinG (fun g11 => grdV t46 false (vLoadA 2 t15 h g11) (g11 undefV h)) fun t48 h =>
joinG (fun g10 => grdV t46 false (cf f_clock_Valid [t48] h g10) (g10 undefV h)) fun t49 h =>
joinG (fun g9 => grdV t46 false (vNot t49 h g9) (g9 undefV h)) fun t50 h =>
vPick t46 (.bool .true) t50 h fun t51 h =>
joinG (fun g8 => grdV t51 false (vMov t19 h g8) (g8 undefV h)) fun t53 h =>
joinG (fun g7 => grdV t51 false (cf f_ops_Name [t53] h g7) (g7 undefV h)) fun t54 h =>
joinG (fun g6 => grdV t51 false (vNeq t54 (.int .i64 0) h g6) (g6 undefV h)) fun t55 h =>
vPick t51 (.bool .true) t55 h fun t56 h =>
joinG (fun g5 => grdV t56 false (vMov t19 h g5) (g5 undefV h)) fun t58 h =>
joinG (fun g4 => grdV t56 false (vLoadA 2 t15 h g4) (g4 undefV h)) fun t59 h =>
joinG (fun g3 => grdV t56 false (cf f_clash_Suffix [t59] h g3) (g3 undefV h)) fun t60 h =>
joinG (fun g2 => grdV t56 false (vAdd t58 t60 h g2) (g2 undefV h)) fun t61 h =>
joinG (fun g1 => grdV t56 false (vMov t0 h g1) (g1 undefV h)) fun t62 h =>
joinG (fun g0 => grdV t56 false (vNeq t61 t62 h g0) (g0 undefV h)) fun t63 h =>
vPick t56 (.bool .true) t63 h fun t64 h =>
vIf t64 (
vBuild [(.int .i64 0), (.int .i64 0)] [] h fun t66 h =>
vStore 2 t3 t66 h fun _ h =>
vLoadA 2 t3 h fun r1 _ => K (.tup [t0, r1, (.bool .false)]) h) (
vLoadA 2 t15 h fun t68 h =>
vStore 2 t3 t68 h fun _ h =>
vLoadA 2 t3 h fun r1 _ => K (.tup [t19, r1, (.bool .true)]) h)
theorem s_clash_Split_eq (cf : CallK) (fuel : Nat) (t0 : AV) (h : Hp) (K : AV → Hp → Prop) : s_clash_Split cf fuel t0 h K = deepT (tabOf Tryz.prog) f_clash_Split cf fuel [t0] h K :=
  Eq.trans (by kernel_rfl) (rFun (by kernel_rfl) rExact)

noncomputable def s_slices_Index_string_stringE0 (cf : CallK) (fuel : Nat) (K : AV → Hp → Prop) : Hp → Prop := fun h =>
K (.int .i64 (-1)) h
noncomputable def s_slices_Index_string_stringL1B (cf : CallK) (fuel : Nat) (K : AV → Hp → Prop) (e0 : Hp → Prop) (t0 : AV) (t1 : AV) (t7 : AV) (ih1 : AV → Hp → Prop) : AV → Hp → Prop := fun t8 h =>
vLss t8 t7 h fun t9 h =>
vIf t9 (
(fun (e2 : Hp → Prop) =>
vIaddr 1 t0 t8 h fun t14 h =>
vLoad2 t14 h fun t15 h =>
vEql t1 t15 h fun t16 h =>
vIf t16 (
K t8 h) (
e2 h)) fun h =>
vAdd t8 (.int .i64 1) h fun t18 h =>
ih1 t18 h) (
e0 h)
noncomputable def s_slices_Index_string_stringL1 (cf : CallK) (fuel : Nat) (K : AV → Hp → Prop) (e0 : Hp → Prop) (t0 : AV) (t1 : AV) (t7 : AV) (m : Nat) : AV → Hp → Prop := Nat.rec (motive := fun _ => AV → Hp → Prop) (fun _ _ => False) (fun _ ih => s_slices_Index_string_stringL1B cf fuel K e0 t0 t1 t7 ih) m
theorem s_slices_Index_string_stringL1_succ (cf : CallK) (fuel : Nat) (K : AV → Hp → Prop) (e0 : Hp → Prop) (t0 : AV) (t1 : AV) (t7 : AV) (m : Nat) : s_slices_Index_string_stringL1 cf fuel K e0 t0 t1 t7 (m + 1) = s_slices_Index_string_stringL1B cf fuel K e0 t0 t1 t7 (s_slices_Index_string_stringL1 cf fuel K e0 t0 t1 t7 m) := rfl
noncomputable def s_slices_Index_string_string (cf : CallK) (fuel : Nat) (t0 : AV) (t1 : AV) (h : Hp) (K : AV → Hp → Prop) : Prop :=
vLenL2 t0 h fun t7 h =>
(fun (e0 : Hp → Prop) =>
s_slices_Index_string_stringL1 cf fuel K (s_slices_Index_string_stringE0 cf fuel K) t0 t1 t7 fuel (.int .i64 0) h) (s_slices_Index_string_stringE0 cf fuel K)
theorem s_slices_Index_string_string_eq (cf : CallK) (fuel : Nat) (t0 : AV) (t1 : AV) (h : Hp) (K : AV → Hp → Prop) : s_slices_Index_string_string cf fuel t0 t1 h K = deepT (tabOf Tryz.prog) f_slices_Index_string_string cf fuel [t0, t1] h K :=
  Eq.trans (by kernel_rfl) (rFun (by kernel_rfl) (rSeq (by kernel_rfl) (rSeq (by kernel_rfl) rExact (rSeq (by kernel_rfl) (rBlock (by kernel_rfl) (rLoop (by kernel_rfl) (fun m1 fr h => s_slices_Index_string_stringL1 cf fuel K (s_slices_Index_string_stringE0 cf fuel K) (getS fr (gpos 0)) (getS fr (gpos 1)) (getS fr (gpos 7)) m1 (getS fr (gpos 8)) h) (funext fun fr => funext fun h => by kernel_rfl) fun m1 => rCast (funext fun fr => funext fun h => by kernel_rfl) rExact)) rExact)) rExact))

noncomputable def s_movetree_Tree_Live (cf : CallK) (fuel : Nat) (t0 : AV) (t1 : AV) (h : Hp) (K : AV → Hp → Prop) : Prop :=
vBox 2 t1 h fun t3 h =>
vEq true eqP t0 .nilptr h fun t6 h =>
joinG (fun g10 => grdV t6 true (vLoadA 2 t3 h g10) (g10 undefV h)) fun t8 h =>
joinG (fun g9 => grdV t6 true (cf f_ops_Root [] h g9) (g9 undefV h)) fun t9 h =>
joinP (fun g8 => grdV t6 true (vLoadA 2 t3 h fun c _ => gd (sameV c t8) g8) g8) (
joinG (fun g7 => grdV t6 true (vEq false eqPairS t8 t9 h g7) (g7 undefV h)) fun t10 h =>
joinG (fun g6 => grdV t6 true (vMov t10 h g6) (g6 undefV h)) fun t11 h =>
joinG (fun g5 => grdV t11 false (vMov t0 h g5) (g5 undefV h)) fun t12 h =>
joinG (fun g4 => grdV t11 false (vLoadA 2 t3 h g4) (g4 undefV h)) fun t13 h =>
joinG (fun g3 => grdV t11 false (cf f_ops_Root [] h g3) (g3 undefV h)) fun t14 h =>
joinP (fun g2 => grdV t11 false (vLoadA 2 t3 h fun c _ => gd (sameV c t13) g2) g2) (
joinG (fun g1 => grdV t11 false (cf f_movetree_Tree_Below [t12, t13, t14] h g1) (g1 undefV h)) fun t15 h =>
joinG (fun g0 => grdV t6 true (vPick t11 (.bool .true) t15 h g0) (g0 undefV h)) fun t16 h =>
vPick t6 t16 (.bool .false) h fun t17 h =>
K t17 h))
theorem s_movetree_Tree_Live_eq (cf : CallK) (fuel : Nat) (t0 : AV) (t1 : AV) (h : Hp) (K : AV → Hp → Prop) : s_movetree_Tree_Live cf fuel t0 t1 h K = deepT (tabOf Tryz.prog) f_movetree_Tree_Live cf fuel [t0, t1] h K :=
  Eq.trans (by kernel_rfl) (rFun (by kernel_rfl) rExact)

noncomputable def s_movetree_fixed (cf : CallK) (fuel : Nat) (t0 : AV) (h : Hp) (K : AV → Hp → Prop) : Prop :=
vBox 2 t0 h fun t1 h =>
vLoadA 2 t1 h fun t3 h =>
cf f_ops_Root [] h fun t4 h =>
vLoadA 2 t1 h fun c _ => gd (sameV c t3) (
vEq false eqPairS t3 t4 h fun t5 h =>
joinG (fun g3 => grdV t5 false (vLoadA 2 t1 h g3) (g3 undefV h)) fun t7 h =>
joinG (fun g2 => grdV t5 false (cf f_ops_Trash [] h g2) (g2 undefV h)) fun t8 h =>
joinP (fun g1 => grdV t5 false (vLoadA 2 t1 h fun c _ => gd (sameV c t7) g1) g1) (
joinG (fun g0 => grdV t5 false (vEq false eqPairS t7 t8 h g0) (g0 undefV h)) fun t9 h =>
vPick t5 (.bool .true) t9 h fun t10 h =>
K t10 h))
theorem s_movetree_fixed_eq (cf : CallK) (fuel : Nat) (t0 : AV) (h : Hp) (K : AV → Hp → Prop) : s_movetree_fixed cf fuel t0 h K = deepT (tabOf Tryz.prog) f_movetree_fixed cf fuel [t0] h K :=
  Eq.trans (by kernel_rfl) (rFun (by kernel_rfl) rExact)

noncomputable def s_strings_ContainsAny (cf : CallK) (fuel : Nat) (t0 : AV) (t1 : AV) (h : Hp) (K : AV → Hp → Prop) : Prop :=
cf f_strings_IndexAny [t0, t1] h fun t7 h =>
vGeq t7 (.int .i64 0) h fun t8 h =>
K t8 h
theorem s_strings_ContainsAny_eq (cf : CallK) (fuel : Nat) (t0 : AV) (t1 : AV) (h : Hp) (K : AV → Hp → Prop) : s_strings_ContainsAny cf fuel t0 t1 h K = deepT (tabOf Tryz.prog) f_strings_ContainsAny cf fuel [t0, t1] h K :=
  Eq.trans (by kernel_rfl) (rFun (by kernel_rfl) rExact)

noncomputable def s_movetree_Tree_KidsJ0 (cf : CallK) (fuel : Nat) (K : AV → Hp → Prop) : AV → Hp → Prop := fun t5 h =>
cf f_slices_SortFunc_api_ID_api_ID [t5, (.func 219 [] [])] h fun t29 h =>
K t5 h
noncomputable def s_movetree_Tree_KidsE1 (cf : CallK) (fuel : Nat) (j0 : AV → Hp → Prop) : AV → Hp → Prop := fun t5 h =>
j0 t5 h
noncomputable def s_movetree_Tree_KidsB4 (cf : CallK) (fuel : Nat) (ih2 : AV → Hp → Prop) (t3 : AV) (t14 : AV) (t5 : AV) (h : Hp) : Prop :=
(fun (e3 : AV → Hp → Prop) =>
vEntry t14 h fun t17 h =>
vExtract 0 t17 h fun t18 h =>
vExtract 1 t17 h fun t19 h =>
vBox 2 (.agg [(.int .i64 0), (.int .i64 0)]) h fun t6 h =>
vBox 4 (.agg [(.bool .false), (.int .i64 0), (.int .i64 0), (.str 0 0)]) h fun t7 h =>
vStore 2 t6 t18 h fun _ h =>
vStore 4 t7 t19 h fun _ h =>
vFaddr 1 t7 h fun t20 h =>
vLoadA 2 t20 h fun t21 h =>
vLoadA 2 t3 h fun t22 h =>
vEq false eqPairS t21 t22 h fun t23 h =>
vIf t23 (
vLoadA 2 t6 h fun t25 h =>
vBslice 2 1 false [(.int .i64 0), (.int .i64 0)] [(0, 2, t25)] h fun t26 h =>
vAppend2 2 16 false t5 t26 h fun t27 h =>
e3 t27 h) (
e3 t5 h)) fun t5 h =>
ih2 t5 h
noncomputable def s_movetree_Tree_KidsL2B (cf : CallK) (fuel : Nat) (e1 : AV → Hp → Prop) (t3 : AV) (t14 : AV) (ih2 : AV → Hp → Prop) : AV → Hp → Prop := fun t5 h =>
vNextM t14 h fun t15 h =>
vExtract 0 t15 h fun t16 h =>
vIf t16 (
s_movetree_Tree_KidsB4 cf fuel ih2 t3 t14 t5 h) (
e1 t5 h)
noncomputable def s_movetree_Tree_KidsL2 (cf : CallK) (fuel : Nat) (e1 : AV → Hp → Prop) (t3 : AV) (t14 : AV) (m : Nat) : AV → Hp → Prop := Nat.rec (motive := fun _ => AV → Hp → Prop) (fun _ _ => False) (fun _ ih => s_movetree_Tree_KidsL2B cf fuel e1 t3 t14 ih) m
theorem s_movetree_Tree_KidsL2_succ (cf : CallK) (fuel : Nat) (e1 : AV → Hp → Prop) (t3 : AV) (t14 : AV) (m : Nat) : s_movetree_Tree_KidsL2 cf fuel e1 t3 t14 (m + 1) = s_movetree_Tree_KidsL2B cf fuel e1 t3 t14 (s_movetree_Tree_KidsL2 cf fuel e1 t3 t14 m) := rfl
noncomputable def s_movetree_Tree_Kids (cf : CallK) (fuel : Nat) (t0 : AV) (t1 : AV) (h : Hp) (K : AV → Hp → Prop) : Prop :=
vBox 2 t1 h fun t3 h =>
(fun (j0 : AV → Hp → Prop) =>
vEq true eqP t0 .nilptr h fun t9 h =>
vIf t9 (
vNilck t0 h fun t11 h =>
vFaddr 0 t11 h fun t12 h =>
vLoad2 t12 h fun t13 h =>
vRangeM t13 h fun t14 h =>
(fun (e1 : AV → Hp → Prop) =>
s_movetree_Tree_KidsL2 cf fuel (s_movetree_Tree_KidsE1 cf fuel (s_movetree_Tree_KidsJ0 cf fuel K)) t3 t14 fuel .nilslice h) (s_movetree_Tree_KidsE1 cf fuel (s_movetree_Tree_KidsJ0 cf fuel K))) (
j0 .nilslice h)) (s_movetree_Tree_KidsJ0 cf fuel K)
theorem s_movetree_Tree_Kids_eq (cf : CallK) (fuel : Nat) (t0 : AV) (t1 : AV) (h : Hp) (K : AV → Hp → Prop) : s_movetree_Tree_Kids cf fuel t0 t1 h K = deepT (tabOf Tryz.prog) f_movetree_Tree_Kids cf fuel [t0, t1] h K :=
  Eq.trans (by kernel_rfl) (rFun (by kernel_rfl) (rSeq (by kernel_rfl) (rSeq (by kernel_rfl) (rSeq (by kernel_rfl) rExact (rSeq (by kernel_rfl) (rCond (by kernel_rfl) (rSeq (by kernel_rfl) (rBlock (by kernel_rfl) (rLoop (by kernel_rfl) (fun m2 fr h => s_movetree_Tree_KidsL2 cf fuel (s_movetree_Tree_KidsE1 cf fuel (s_movetree_Tree_KidsJ0 cf fuel K)) (getS fr (gpos 3)) (getS fr (gpos 14)) m2 (getS fr (gpos 5)) h) (funext fun fr => funext fun h => by kernel_rfl) fun m2 => rCast (funext fun fr => funext fun h => by kernel_rfl) rExact)) rExact) rExact) rExact)) rExact) rExact))

noncomputable def s_clash_ShownE1 (cf : CallK) (fuel : Nat) (K : AV → Hp → Prop) : AV → Hp → Prop := fun t10 h =>
K t10 h
noncomputable def s_clash_ShownB5 (cf : CallK) (fuel : Nat) (ih2 : AV → AV → Hp → Prop) (t0 : AV) (t1 : AV) (t6 : AV) (t10 : AV) (t53 : AV) (h : Hp) : Prop :=
(fun (e3 : AV → Hp → Prop) =>
vIaddr 1 t1 t53 h fun t58 h =>
vLoad2 t58 h fun t59 h =>
(fun (j4 : AV → Hp → Prop) =>
vLookup Go.Am.eqKS false (.int .i64 0) t6 t59 h fun t62 h =>
vNeq t62 t53 h fun t64 h =>
vIf t64 (
vIaddr 2 t0 t53 h fun t68 h =>
vLoadA 2 t68 h fun t69 h =>
cf f_clash_Suffix [t69] h fun t70 h =>
vAdd t59 t70 h fun t71 h =>
j4 t71 h) (
j4 t59 h)) fun t12 h =>
vBslice 1 1 false [(.str 0 0)] [(0, 1, t12)] h fun t74 h =>
vAppend2 1 16 false t10 t74 h fun t75 h =>
e3 t75 h) fun t10 h =>
vAdd t53 (.int .i64 1) h fun t76 h =>
ih2 t10 t76 h
noncomputable def s_clash_ShownL2B (cf : CallK) (fuel : Nat) (e1 : AV → Hp → Prop) (t0 : AV) (t1 : AV) (t6 : AV) (t52 : AV) (ih2 : AV → AV → Hp → Prop) : AV → AV → Hp → Prop := fun t10 t53 h =>
vLss t53 t52 h fun t54 h =>
vIf t54 (
s_clash_ShownB5 cf fuel ih2 t0 t1 t6 t10 t53 h) (
e1 t10 h)
noncomputable def s_clash_ShownL2 (cf : CallK) (fuel : Nat) (e1 : AV → Hp → Prop) (t0 : AV) (t1 : AV) (t6 : AV) (t52 : AV) (m : Nat) : AV → AV → Hp → Prop := Nat.rec (motive := fun _ => AV → AV → Hp → Prop) (fun _ _ _ => False) (fun _ ih => s_clash_ShownL2B cf fuel e1 t0 t1 t6 t52 ih) m
theorem s_clash_ShownL2_succ (cf : CallK) (fuel : Nat) (e1 : AV → Hp → Prop) (t0 : AV) (t1 : AV) (t6 : AV) (t52 : AV) (m : Nat) : s_clash_ShownL2 cf fuel e1 t0 t1 t6 t52 (m + 1) = s_clash_ShownL2B cf fuel e1 t0 t1 t6 t52 (s_clash_ShownL2 cf fuel e1 t0 t1 t6 t52 m) := rfl
noncomputable def s_clash_ShownE0 (cf : CallK) (fuel : Nat) (K : AV → Hp → Prop) (t0 : AV) (t1 : AV) (t5 : AV) (t6 : AV) : Hp → Prop := fun h =>
(fun (e1 : AV → Hp → Prop) =>
s_clash_ShownL2 cf fuel (s_clash_ShownE1 cf fuel K) t0 t1 t6 t5 fuel .nilslice (.int .i64 0) h) (s_clash_ShownE1 cf fuel K)
noncomputable def s_clash_ShownB17 (cf : CallK) (fuel : Nat) (ih6 : AV → Hp → Prop) (t0 : AV) (t1 : AV) (t6 : AV) (t20 : AV) (h : Hp) : Prop :=
(fun (e7 : Hp → Prop) =>
vIaddr 1 t1 t20 h fun t27 h =>
vLoad2 t27 h fun t28 h =>
vLookup Go.Am.eqKS true (.int .i64 0) t6 t28 h fun t29 h =>
vExtract 0 t29 h fun t30 h =>
vExtract 1 t29 h fun t31 h =>
vNot t31 h fun t33 h =>
joinG (fun g16 => grdV t33 false (vMov t0 h g16) (g16 undefV h)) fun t35 h =>
joinG (fun g15 => grdV t33 false (vMov t20 h g15) (g15 undefV h)) fun t36 h =>
joinG (fun g14 => grdV t33 false (vIaddr 2 t35 t36 h g14) (g14 undefV h)) fun t37 h =>
joinG (fun g13 => grdV t33 false (vLoadA 2 t37 h g13) (g13 undefV h)) fun t38 h =>
joinG (fun g12 => grdV t33 false (vMov t0 h g12) (g12 undefV h)) fun t39 h =>
joinG (fun g11 => grdV t33 false (vMov t30 h g11) (g11 undefV h)) fun t40 h =>
joinG (fun g10 => grdV t33 false (vIaddr 2 t39 t40 h g10) (g10 undefV h)) fun t41 h =>
joinG (fun g9 => grdV t33 false (vLoadA 2 t41 h g9) (g9 undefV h)) fun t42 h =>
joinG (fun g8 => grdV t33 false (cf f_clock_Less [t38, t42] h g8) (g8 undefV h)) fun t43 h =>
vPick t33 (.bool .true) t43 h fun t44 h =>
vIf t44 (
vIaddr 1 t1 t20 h fun t48 h =>
vLoad2 t48 h fun t49 h =>
vMapSet Go.Am.eqKS t6 t49 t20 h fun _ h =>
e7 h) (
e7 h)) fun h =>
vAdd t20 (.int .i64 1) h fun t51 h =>
ih6 t51 h
noncomputable def s_clash_ShownL6B (cf : CallK) (fuel : Nat) (e0 : Hp → Prop) (t0 : AV) (t1 : AV) (t5 : AV) (t6 : AV) (t19 : AV) (ih6 : AV → Hp → Prop) : AV → Hp → Prop := fun t20 h =>
vLss t20 t19 h fun t21 h =>
vIf t21 (
s_clash_ShownB17 cf fuel ih6 t0 t1 t6 t20 h) (
e0 h)
noncomputable def s_clash_ShownL6 (cf : CallK) (fuel : Nat) (e0 : Hp → Prop) (t0 : AV) (t1 : AV) (t5 : AV) (t6 : AV) (t19 : AV) (m : Nat) : AV → Hp → Prop := Nat.rec (motive := fun _ => AV → Hp → Prop) (fun _ _ => False) (fun _ ih => s_clash_ShownL6B cf fuel e0 t0 t1 t5 t6 t19 ih) m
theorem s_clash_ShownL6_succ (cf : CallK) (fuel : Nat) (e0 : Hp → Prop) (t0 : AV) (t1 : AV) (t5 : AV) (t6 : AV) (t19 : AV) (m : Nat) : s_clash_ShownL6 cf fuel e0 t0 t1 t5 t6 t19 (m + 1) = s_clash_ShownL6B cf fuel e0 t0 t1 t5 t6 t19 (s_clash_ShownL6 cf fuel e0 t0 t1 t5 t6 t19 m) := rfl
noncomputable def s_clash_Shown (cf : CallK) (fuel : Nat) (t0 : AV) (t1 : AV) (h : Hp) (K : AV → Hp → Prop) : Prop :=
vLenL2 t0 h fun t14 h =>
vLenL2 t1 h fun t16 h =>
vMin false t14 t16 h fun t17 h =>
vMkMap h fun t18 h =>
(fun (e0 : Hp → Prop) =>
s_clash_ShownL6 cf fuel (s_clash_ShownE0 cf fuel K t0 t1 t17 t18) t0 t1 t17 t18 t17 fuel (.int .i64 0) h) (s_clash_ShownE0 cf fuel K t0 t1 t17 t18)
theorem s_clash_Shown_eq (cf : CallK) (fuel : Nat) (t0 : AV) (t1 : AV) (h : Hp) (K : AV → Hp → Prop) : s_clash_Shown cf fuel t0 t1 h K = deepT (tabOf Tryz.prog) f_clash_Shown cf fuel [t0, t1] h K :=
  Eq.trans (by kernel_rfl) (rFun (by kernel_rfl) (rSeq (by kernel_rfl) (rSeq (by kernel_rfl) (rSeq (by kernel_rfl) (rSeq (by kernel_rfl) (rSeq (by kernel_rfl) (rSeq (by kernel_rfl) rExact (rSeq (by kernel_rfl) (rBlock (by kernel_rfl) (rLoop (by kernel_rfl) (fun m2 fr h => s_clash_ShownL2 cf fuel (s_clash_ShownE1 cf fuel K) (getS fr (gpos 0)) (getS fr (gpos 1)) (getS fr (gpos 6)) (getS fr (gpos 52)) m2 (getS fr (gpos 10)) (getS fr (gpos 53)) h) (funext fun fr => funext fun h => by kernel_rfl) fun m2 => rCast (funext fun fr => funext fun h => by kernel_rfl) rExact)) rExact)) rExact) (rSeq (by kernel_rfl) (rBlock (by kernel_rfl) (rLoop (by kernel_rfl) (fun m6 fr h => s_clash_ShownL6 cf fuel (s_clash_ShownE0 cf fuel K (getS fr (gpos 0)) (getS fr (gpos 1)) (getS fr (gpos 5)) (getS fr (gpos 6))) (getS fr (gpos 0)) (getS fr (gpos 1)) (getS fr (gpos 5)) (getS fr (gpos 6)) (getS fr (gpos 19)) m6 (getS fr (gpos 20)) h) (funext fun fr => funext fun h => by kernel_rfl) fun m6 => rCast (funext fun fr => funext fun h => by kernel_rfl) rExact)) rExact)) rExact) rExact) rExact))

noncomputable def s_int_bytealg_CompareString (cf : CallK) (fuel : Nat) (t0 : AV) (t1 : AV) (h : Hp) (K : AV → Hp → Prop) : Prop :=
cf f_int_bytealg_abigen_runtime_cmpstring [t0, t1] h fun t7 h =>
K t7 h
theorem s_int_bytealg_CompareString_eq (cf : CallK) (fuel : Nat) (t0 : AV) (t1 : AV) (h : Hp) (K : AV → Hp → Prop) : s_int_bytealg_CompareString cf fuel t0 t1 h K = deepT (tabOf Tryz.prog) f_int_bytealg_CompareString cf fuel [t0, t1] h K :=
  Eq.trans (by kernel_rfl) (rFun (by kernel_rfl) rExact)

noncomputable def s_codec_stamp (cf : CallK) (fuel : Nat) (t0 : AV) (h : Hp) (K : AV → Hp → Prop) : Prop :=
vBox 2 t0 h fun t1 h =>
vFaddr 0 t1 h fun t3 h =>
vLoad2 t3 h fun t4 h =>
vGeq t4 (.int .i64 0) h fun t5 h =>
joinG (fun g8 => grdV t5 true (vFaddr 0 t1 h g8) (g8 undefV h)) fun t7 h =>
joinG (fun g7 => grdV t5 true (vLoad2 t7 h g7) (g7 undefV h)) fun t8 h =>
joinG (fun g6 => grdV t5 true (vLeq t8 (.int .i64 1152921504606846976) h g6) (g6 undefV h)) fun t9 h =>
vPick t5 t9 (.bool .false) h fun t10 h =>
joinG (fun g5 => grdV t10 true (vFaddr 1 t1 h g5) (g5 undefV h)) fun t12 h =>
joinG (fun g4 => grdV t10 true (vLoad2 t12 h g4) (g4 undefV h)) fun t13 h =>
joinG (fun g3 => grdV t10 true (vGeq t13 (.int .i64 0) h g3) (g3 undefV h)) fun t14 h =>
vPick t10 t14 (.bool .false) h fun t15 h =>
joinG (fun g2 => grdV t15 true (vFaddr 1 t1 h g2) (g2 undefV h)) fun t17 h =>
joinG (fun g1 => grdV t15 true (vLoad2 t17 h g1) (g1 undefV h)) fun t18 h =>
joinG (fun g0 => grdV t15 true (vLss t18 (.int .i64 64) h g0) (g0 undefV h)) fun t19 h =>
vPick t15 t19 (.bool .false) h fun t20 h =>
K t20 h
theorem s_codec_stamp_eq (cf : CallK) (fuel : Nat) (t0 : AV) (h : Hp) (K : AV → Hp → Prop) : s_codec_stamp cf fuel t0 h K = deepT (tabOf Tryz.prog) f_codec_stamp cf fuel [t0] h K :=
  Eq.trans (by kernel_rfl) (rFun (by kernel_rfl) rExact)

noncomputable def s_cmp_Compare_int64 (cf : CallK) (fuel : Nat) (t0 : AV) (t1 : AV) (h : Hp) (K : AV → Hp → Prop) : Prop :=
cf f_cmp_isNaN_int64 [t0] h fun t8 h =>
cf f_cmp_isNaN_int64 [t1] h fun t10 h =>
vIf t8 (
vIf t10 (
K (.int .i64 0) h) (
K (.int .i64 (-1)) h)) (
vIf t10 (
K (.int .i64 1) h) (
vLss t0 t1 h fun t16 h =>
vIf t16 (
K (.int .i64 (-1)) h) (
vGtr t0 t1 h fun t19 h =>
vIf t19 (
K (.int .i64 1) h) (
K (.int .i64 0) h))))
theorem s_cmp_Compare_int64_eq (cf : CallK) (fuel : Nat) (t0 : AV) (t1 : AV) (h : Hp) (K : AV → Hp → Prop) : s_cmp_Compare_int64 cf fuel t0 t1 h K = deepT (tabOf Tryz.prog) f_cmp_Compare_int64 cf fuel [t0, t1] h K :=
  Eq.trans (by kernel_rfl) (rFun (by kernel_rfl) rExact)

noncomputable def s_cmp_Compare_int (cf : CallK) (fuel : Nat) (t0 : AV) (t1 : AV) (h : Hp) (K : AV → Hp → Prop) : Prop :=
cf f_cmp_isNaN_int [t0] h fun t8 h =>
cf f_cmp_isNaN_int [t1] h fun t10 h =>
vIf t8 (
vIf t10 (
K (.int .i64 0) h) (
K (.int .i64 (-1)) h)) (
vIf t10 (
K (.int .i64 1) h) (
vLss t0 t1 h fun t16 h =>
vIf t16 (
K (.int .i64 (-1)) h) (
vGtr t0 t1 h fun t19 h =>
vIf t19 (
K (.int .i64 1) h) (
K (.int .i64 0) h))))
theorem s_cmp_Compare_int_eq (cf : CallK) (fuel : Nat) (t0 : AV) (t1 : AV) (h : Hp) (K : AV → Hp → Prop) : s_cmp_Compare_int cf fuel t0 t1 h K = deepT (tabOf Tryz.prog) f_cmp_Compare_int cf fuel [t0, t1] h K :=
  Eq.trans (by kernel_rfl) (rFun (by kernel_rfl) rExact)


end Go.Proofs.YtciipeallilmiaaGreatDoor.sh8
