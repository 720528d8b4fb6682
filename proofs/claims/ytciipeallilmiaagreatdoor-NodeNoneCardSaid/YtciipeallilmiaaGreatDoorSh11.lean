/- The Go functions' code as the abstract machine's, over values; each is the code that the machine makes of the program's (theorems s_.._eq). No condition. -/
import Derived.Test.YtciipeallilmiaaGreatDoorAmC
import Derived.Test.YtciipeallilmiaaGreatDoorProg
import Derived.KernelRfl
namespace Go.Proofs.YtciipeallilmiaaGreatDoor.sh11
open Go Go.Am Go.Proofs
set_option linter.unusedVariables false
set_option maxRecDepth 100000
abbrev f_cmp_Less_string : Nat := 344
abbrev f_cmp_isNaN_string : Nat := 377
abbrev f_int_bytealg_Cutover : Nat := 358
abbrev f_int_bytealg_IndexRabinKarp_string : Nat := 381
abbrev f_int_bytealg_IndexString : Nat := 359
abbrev f_int_strconv_FormatInt : Nat := 274
abbrev f_int_strconv_Itoa : Nat := 355
abbrev f_int_strconv_ParseInt : Nat := 353
abbrev f_int_strconv_ParseUint : Nat := 382
abbrev f_int_strconv_bool2_int : Nat := 341
abbrev f_int_strconv_isPowerOfTwo : Nat := 342
abbrev f_int_strconv_log10Pow2 : Nat := 340
abbrev f_int_stringslite_Index : Nat := 352
abbrev f_int_stringslite_IndexByte : Nat := 380
abbrev f_localfs_folder : Nat := 119
abbrev f_localfs_object_with : Nat := 339
abbrev f_math_bits_TrailingZeros : Nat := 343
abbrev f_math_bits_TrailingZeros32 : Nat := 375
abbrev f_math_bits_TrailingZeros64 : Nat := 376
abbrev f_movetree_Tree_Has : Nat := 347
abbrev f_movetree_fixed : Nat := 262
abbrev f_slices_BinarySearch_string_string : Nat := 318
abbrev f_slices_Clone_localfs_object_localfs_object : Nat := 370
abbrev f_slices_Clone_string_string : Nat := 369
abbrev f_slices_Delete_localfs_object_localfs_object : Nat := 372
abbrev f_slices_Delete_string_string : Nat := 371
abbrev f_slices_Insert_localfs_object_localfs_object : Nat := 374
abbrev f_slices_Insert_string_string : Nat := 373
abbrev f_slices_Reverse_api_Version_api_Version : Nat := 378
abbrev f_slices_Reverse_movetree_done_movetree_done : Nat := 281
abbrev f_slices_breakPatternsCmpFunc_api_ID : Nat := 362
abbrev f_slices_choosePivotCmpFunc_api_ID : Nat := 363
abbrev f_slices_heapSortCmpFunc_api_ID : Nat := 361
abbrev f_slices_insertionSortCmpFunc_api_ID : Nat := 360
abbrev f_slices_isNaN_string : Nat := 345
abbrev f_slices_medianAdjacentCmpFunc_api_Entry : Nat := 337
abbrev f_slices_medianCmpFunc_api_Entry : Nat := 338
abbrev f_slices_nextPowerOfTwo : Nat := 291
abbrev f_slices_order2CmpFunc_api_Entry : Nat := 368
abbrev f_slices_partialInsertionSortCmpFunc_api_ID : Nat := 365
abbrev f_slices_partitionCmpFunc_api_ID : Nat := 367
abbrev f_slices_partitionEqualCmpFunc_api_ID : Nat := 366
abbrev f_slices_pdqsortCmpFunc_api_ID : Nat := 335
abbrev f_slices_reverseRangeCmpFunc_api_ID : Nat := 364
abbrev f_slices_rotateLeft_api_Version : Nat := 348
abbrev f_slices_rotateLeft_movetree_done : Nat := 346
abbrev f_slices_siftDownCmpFunc_api_Entry : Nat := 336
abbrev f_slices_siftDownCmpFunc_api_ID : Nat := 387
abbrev f_slices_xorshift_Next : Nat := 292
abbrev f_strconv_baseError : Nat := 385
abbrev f_strconv_bitSizeError : Nat := 386
abbrev f_strconv_rangeError : Nat := 384
abbrev f_strconv_syntaxError : Nat := 383
abbrev f_strconv_toError : Nat := 354
abbrev f_strings_IndexByte : Nat := 356
abbrev f_strings_asciiSet_contains : Nat := 334
abbrev f_strings_makeASCIISet : Nat := 333
abbrev f_unicode_utf8_DecodeRuneInString : Nat := 350
abbrev f_unicode_utf8_RuneCountInString : Nat := 349
abbrev f_unicode_utf8_ValidRune : Nat := 357
abbrev f_unicode_utf8_decodeRuneInStringSlow : Nat := 379

noncomputable def s_strings_asciiSet_contains (cf : CallK) (fuel : Nat) (t0 : AV) (t1 : AV) (h : Hp) (K : AV → Hp → Prop) : Prop :=
vNilck t0 h fun t7 h =>
vIaddrA 1 256 t7 t1 h fun t8 h =>
vLoad2 t8 h fun t9 h =>
K t9 h
theorem s_strings_asciiSet_contains_eq (cf : CallK) (fuel : Nat) (t0 : AV) (t1 : AV) (h : Hp) (K : AV → Hp → Prop) : s_strings_asciiSet_contains cf fuel t0 t1 h K = deepT (tabOf Tryz.prog) f_strings_asciiSet_contains cf fuel [t0, t1] h K :=
  Eq.trans (by kernel_rfl) (rFun (by kernel_rfl) rExact)

noncomputable def s_localfs_object_with (cf : CallK) (fuel : Nat) (t0 : AV) (t1 : AV) (t2 : AV) (h : Hp) (K : AV → Hp → Prop) : Prop :=
vNilck t0 h fun t13 h =>
vFaddr 2 t13 h fun t14 h =>
vLoad2 t14 h fun t15 h =>
cf f_slices_BinarySearch_string_string [t15, t1] h fun t17 h =>
vExtract 0 t17 h fun t18 h =>
vExtract 1 t17 h fun t19 h =>
vNilck t0 h fun t21 h =>
vFaddr 2 t21 h fun t22 h =>
vLoad2 t22 h fun t23 h =>
vNilck t0 h fun t26 h =>
vFaddr 3 t26 h fun t27 h =>
vLoad2 t27 h fun t28 h =>
cf f_slices_Clone_string_string [t23] h fun t24 h =>
vLoad2 t27 h fun c _ => gd (sameV c t28) (
cf f_slices_Clone_localfs_object_localfs_object [t28] h fun t29 h =>
(fun (e0 : AV → AV → Hp → Prop) =>
vEq false eqP t2 .nilptr h fun t32 h =>
joinG (fun g1 => grdV t32 true (vMov t19 h g1) (g1 undefV h)) fun t34 h =>
vPick t32 t34 (.bool .false) h fun t35 h =>
vIf t35 (
vAdd t18 (.int .i64 1) h fun t39 h =>
cf f_slices_Delete_string_string [t24, t18, t39] h fun t40 h =>
vAdd t18 (.int .i64 1) h fun t44 h =>
cf f_slices_Delete_localfs_object_localfs_object [t29, t18, t44] h fun t45 h =>
e0 t40 t45 h) (
vIf t19 (
vIaddr 1 t29 t18 h fun t51 h =>
vStore 1 t51 t2 h fun _ h =>
e0 t24 t29 h) (
vEq true eqP t2 .nilptr h fun t54 h =>
vIf t54 (
vBslice 1 1 false [(.str 0 0)] [(0, 1, t1)] h fun t58 h =>
cf f_slices_Insert_string_string [t24, t18, t58] h fun t59 h =>
vBslice 1 1 false [.nilptr] [(0, 1, t2)] h fun t63 h =>
cf f_slices_Insert_localfs_object_localfs_object [t29, t18, t63] h fun t64 h =>
e0 t59 t64 h) (
e0 t24 t29 h)))) fun t9 t10 h =>
cf f_localfs_folder [t9, t10] h fun t67 h =>
K t67 h)
theorem s_localfs_object_with_eq (cf : CallK) (fuel : Nat) (t0 : AV) (t1 : AV) (t2 : AV) (h : Hp) (K : AV → Hp → Prop) : s_localfs_object_with cf fuel t0 t1 t2 h K = deepT (tabOf Tryz.prog) f_localfs_object_with cf fuel [t0, t1, t2] h K :=
  Eq.trans (by kernel_rfl) (rFun (by kernel_rfl) rExact)

noncomputable def s_int_strconv_log10Pow2 (cf : CallK) (fuel : Nat) (t0 : AV) (h : Hp) (K : AV → Hp → Prop) : Prop :=
vArith Go.Am.mulI t0 (.int .i64 78913) h fun t4 h =>
vShr t4 (.int .u64 18) h fun t5 h =>
K t5 h
theorem s_int_strconv_log10Pow2_eq (cf : CallK) (fuel : Nat) (t0 : AV) (h : Hp) (K : AV → Hp → Prop) : s_int_strconv_log10Pow2 cf fuel t0 h K = deepT (tabOf Tryz.prog) f_int_strconv_log10Pow2 cf fuel [t0] h K :=
  Eq.trans (by kernel_rfl) (rFun (by kernel_rfl) rExact)

noncomputable def s_int_strconv_bool2_int (cf : CallK) (fuel : Nat) (t0 : AV) (h : Hp) (K : AV → Hp → Prop) : Prop :=
vIf t0 (
K (.int .i64 1) h) (
K (.int .i64 0) h)
theorem s_int_strconv_bool2_int_eq (cf : CallK) (fuel : Nat) (t0 : AV) (h : Hp) (K : AV → Hp → Prop) : s_int_strconv_bool2_int cf fuel t0 h K = deepT (tabOf Tryz.prog) f_int_strconv_bool2_int cf fuel [t0] h K :=
  Eq.trans (by kernel_rfl) (rFun (by kernel_rfl) rExact)

noncomputable def s_int_strconv_isPowerOfTwo (cf : CallK) (fuel : Nat) (t0 : AV) (h : Hp) (K : AV → Hp → Prop) : Prop :=
vArith Go.Am.subI t0 (.int .i64 1) h fun t5 h =>
vBits Nat.land t0 t5 h fun t6 h =>
vEql t6 (.int .i64 0) h fun t7 h =>
K t7 h
theorem s_int_strconv_isPowerOfTwo_eq (cf : CallK) (fuel : Nat) (t0 : AV) (h : Hp) (K : AV → Hp → Prop) : s_int_strconv_isPowerOfTwo cf fuel t0 h K = deepT (tabOf Tryz.prog) f_int_strconv_isPowerOfTwo cf fuel [t0] h K :=
  Eq.trans (by kernel_rfl) (rFun (by kernel_rfl) rExact)

noncomputable def s_math_bits_TrailingZeros (cf : CallK) (fuel : Nat) (t0 : AV) (h : Hp) (K : AV → Hp → Prop) : Prop :=
vIf (.bool .false) (
vToInt .u32 t0 h fun t4 h =>
cf f_math_bits_TrailingZeros32 [t4] h fun t5 h =>
K t5 h) (
cf f_math_bits_TrailingZeros64 [t0] h fun t7 h =>
K t7 h)
theorem s_math_bits_TrailingZeros_eq (cf : CallK) (fuel : Nat) (t0 : AV) (h : Hp) (K : AV → Hp → Prop) : s_math_bits_TrailingZeros cf fuel t0 h K = deepT (tabOf Tryz.prog) f_math_bits_TrailingZeros cf fuel [t0] h K :=
  Eq.trans (by kernel_rfl) (rFun (by kernel_rfl) rExact)

noncomputable def s_cmp_Less_string (cf : CallK) (fuel : Nat) (t0 : AV) (t1 : AV) (h : Hp) (K : AV → Hp → Prop) : Prop :=
cf f_cmp_isNaN_string [t0] h fun t6 h =>
joinG (fun g5 => grdV t6 true (vMov t1 h g5) (g5 undefV h)) fun t8 h =>
joinG (fun g4 => grdV t6 true (cf f_cmp_isNaN_string [t8] h g4) (g4 undefV h)) fun t9 h =>
joinG (fun g3 => grdV t6 true (vNot t9 h g3) (g3 undefV h)) fun t10 h =>
vPick t6 t10 (.bool .false) h fun t11 h =>
joinG (fun g2 => grdV t11 false (vMov t0 h g2) (g2 undefV h)) fun t13 h =>
joinG (fun g1 => grdV t11 false (vMov t1 h g1) (g1 undefV h)) fun t14 h =>
joinG (fun g0 => grdV t11 false (vLss t13 t14 h g0) (g0 undefV h)) fun t15 h =>
vPick t11 (.bool .true) t15 h fun t16 h =>
K t16 h
theorem s_cmp_Less_string_eq (cf : CallK) (fuel : Nat) (t0 : AV) (t1 : AV) (h : Hp) (K : AV → Hp → Prop) : s_cmp_Less_string cf fuel t0 t1 h K = deepT (tabOf Tryz.prog) f_cmp_Less_string cf fuel [t0, t1] h K :=
  Eq.trans (by kernel_rfl) (rFun (by kernel_rfl) rExact)

noncomputable def s_slices_isNaN_string (cf : CallK) (fuel : Nat) (t0 : AV) (h : Hp) (K : AV → Hp → Prop) : Prop :=
vNeq t0 t0 h fun t5 h =>
K t5 h
theorem s_slices_isNaN_string_eq (cf : CallK) (fuel : Nat) (t0 : AV) (h : Hp) (K : AV → Hp → Prop) : s_slices_isNaN_string cf fuel t0 h K = deepT (tabOf Tryz.prog) f_slices_isNaN_string cf fuel [t0] h K :=
  Eq.trans (by kernel_rfl) (rFun (by kernel_rfl) rExact)

noncomputable def s_slices_rotateLeft_movetree_done (cf : CallK) (fuel : Nat) (t0 : AV) (t1 : AV) (h : Hp) (K : AV → Hp → Prop) : Prop :=
vSlice2 17 t0 none (some t1) h fun t6 h =>
cf f_slices_Reverse_movetree_done_movetree_done [t6] h fun t7 h =>
vSlice2 17 t0 (some t1) none h fun t10 h =>
cf f_slices_Reverse_movetree_done_movetree_done [t10] h fun t11 h =>
cf f_slices_Reverse_movetree_done_movetree_done [t0] h fun t13 h =>
K (.tup []) h
theorem s_slices_rotateLeft_movetree_done_eq (cf : CallK) (fuel : Nat) (t0 : AV) (t1 : AV) (h : Hp) (K : AV → Hp → Prop) : s_slices_rotateLeft_movetree_done cf fuel t0 t1 h K = deepT (tabOf Tryz.prog) f_slices_rotateLeft_movetree_done cf fuel [t0, t1] h K :=
  Eq.trans (by kernel_rfl) (rFun (by kernel_rfl) rExact)

noncomputable def s_movetree_Tree_HasB2 (cf : CallK) (fuel : Nat) (K : AV → Hp → Prop) (t0 : AV) (t3 : AV) (h : Hp) : Prop :=
vNilck t0 h fun t11 h =>
vFaddr 0 t11 h fun t12 h =>
vLoad2 t12 h fun t13 h =>
vLoadA 2 t3 h fun t14 h =>
vLookup Go.Am.eqPair true (.agg [(.bool .false), (.int .i64 0), (.int .i64 0), (.str 0 0)]) t13 t14 h fun t15 h =>
vExtract 0 t15 h fun t16 h =>
vExtract 1 t15 h fun t17 h =>
vBox 4 (.agg [(.bool .false), (.int .i64 0), (.int .i64 0), (.str 0 0)]) h fun t5 h =>
vLoad2 t12 h fun c _ => gd (sameV c t13) (
vLoadA 2 t3 h fun c _ => gd (sameV c t14) (
vLookup Go.Am.eqPair true (.agg [(.bool .false), (.int .i64 0), (.int .i64 0), (.str 0 0)]) t13 t14 h fun c _ => gd (sameV c t15) (
vStore 4 t5 t16 h fun _ h =>
joinG (fun g1 => grdV t17 false (vLoadA 2 t3 h g1) (g1 undefV h)) fun t20 h =>
joinG (fun g0 => grdV t17 false (cf f_movetree_fixed [t20] h g0) (g0 undefV h)) fun t21 h =>
vPick t17 (.bool .true) t21 h fun t22 h =>
K t22 h)))
noncomputable def s_movetree_Tree_Has (cf : CallK) (fuel : Nat) (t0 : AV) (t1 : AV) (h : Hp) (K : AV → Hp → Prop) : Prop :=
vBox 2 t1 h fun t3 h =>
vEq false eqP t0 .nilptr h fun t8 h =>
vIf t8 (
K (.bool .false) h) (
s_movetree_Tree_HasB2 cf fuel K t0 t3 h)
theorem s_movetree_Tree_Has_eq (cf : CallK) (fuel : Nat) (t0 : AV) (t1 : AV) (h : Hp) (K : AV → Hp → Prop) : s_movetree_Tree_Has cf fuel t0 t1 h K = deepT (tabOf Tryz.prog) f_movetree_Tree_Has cf fuel [t0, t1] h K :=
  Eq.trans (by kernel_rfl) (rFun (by kernel_rfl) rExact)

noncomputable def s_unicode_utf8_RuneCountInStringE0 (cf : CallK) (fuel : Nat) (K : AV → Hp → Prop) : AV → Hp → Prop := fun t2 h =>
K t2 h
noncomputable def s_unicode_utf8_RuneCountInStringL1B (cf : CallK) (fuel : Nat) (e0 : AV → Hp → Prop) (t4 : AV) (ih1 : AV → Hp → Prop) : AV → Hp → Prop := fun t2 h =>
vNextS t4 h fun t5 h =>
vExtract 0 t5 h fun t6 h =>
vIf t6 (
(fun (e2 : AV → Hp → Prop) =>
vAdd t2 (.int .i64 1) h fun t8 h =>
e2 t8 h) fun t2 h =>
ih1 t2 h) (
e0 t2 h)
noncomputable def s_unicode_utf8_RuneCountInStringL1 (cf : CallK) (fuel : Nat) (e0 : AV → Hp → Prop) (t4 : AV) (m : Nat) : AV → Hp → Prop := Nat.rec (motive := fun _ => AV → Hp → Prop) (fun _ _ => False) (fun _ ih => s_unicode_utf8_RuneCountInStringL1B cf fuel e0 t4 ih) m
theorem s_unicode_utf8_RuneCountInStringL1_succ (cf : CallK) (fuel : Nat) (e0 : AV → Hp → Prop) (t4 : AV) (m : Nat) : s_unicode_utf8_RuneCountInStringL1 cf fuel e0 t4 (m + 1) = s_unicode_utf8_RuneCountInStringL1B cf fuel e0 t4 (s_unicode_utf8_RuneCountInStringL1 cf fuel e0 t4 m) := rfl
noncomputable def s_unicode_utf8_RuneCountInString (cf : CallK) (fuel : Nat) (t0 : AV) (h : Hp) (K : AV → Hp → Prop) : Prop :=
vRangeS t0 h fun t4 h =>
(fun (e0 : AV → Hp → Prop) =>
s_unicode_utf8_RuneCountInStringL1 cf fuel (s_unicode_utf8_RuneCountInStringE0 cf fuel K) t4 fuel (.int .i64 0) h) (s_unicode_utf8_RuneCountInStringE0 cf fuel K)
theorem s_unicode_utf8_RuneCountInString_eq (cf : CallK) (fuel : Nat) (t0 : AV) (h : Hp) (K : AV → Hp → Prop) : s_unicode_utf8_RuneCountInString cf fuel t0 h K = deepT (tabOf Tryz.prog) f_unicode_utf8_RuneCountInString cf fuel [t0] h K :=
  Eq.trans (by kernel_rfl) (rFun (by kernel_rfl) (rSeq (by kernel_rfl) (rSeq (by kernel_rfl) rExact (rSeq (by kernel_rfl) (rBlock (by kernel_rfl) (rLoop (by kernel_rfl) (fun m1 fr h => s_unicode_utf8_RuneCountInStringL1 cf fuel (s_unicode_utf8_RuneCountInStringE0 cf fuel K) (getS fr (gpos 4)) m1 (getS fr (gpos 2)) h) (funext fun fr => funext fun h => by kernel_rfl) fun m1 => rCast (funext fun fr => funext fun h => by kernel_rfl) rExact)) rExact)) rExact))

noncomputable def s_unicode_utf8_DecodeRuneInString (cf : CallK) (fuel : Nat) (t0 : AV) (h : Hp) (K : AV → Hp → Prop) : Prop :=
vNeq t0 (.str 0 0) h fun t5 h =>
joinG (fun g2 => grdV t5 true (vMov t0 h g2) (g2 undefV h)) fun t7 h =>
joinG (fun g1 => grdV t5 true (vIdxS t7 (.int .i64 0) h g1) (g1 undefV h)) fun t8 h =>
joinG (fun g0 => grdV t5 true (vLss t8 (.int .u8 128) h g0) (g0 undefV h)) fun t9 h =>
vPick t5 t9 (.bool .false) h fun t10 h =>
vIf t10 (
vIdxS t0 (.int .i64 0) h fun t12 h =>
vToInt .i32 t12 h fun t13 h =>
K (.tup [t13, (.int .i64 1)]) h) (
cf f_unicode_utf8_decodeRuneInStringSlow [t0] h fun t16 h =>
vExtract 0 t16 h fun t17 h =>
vExtract 1 t16 h fun t18 h =>
K (.tup [t17, t18]) h)
theorem s_unicode_utf8_DecodeRuneInString_eq (cf : CallK) (fuel : Nat) (t0 : AV) (h : Hp) (K : AV → Hp → Prop) : s_unicode_utf8_DecodeRuneInString cf fuel t0 h K = deepT (tabOf Tryz.prog) f_unicode_utf8_DecodeRuneInString cf fuel [t0] h K :=
  Eq.trans (by kernel_rfl) (rFun (by kernel_rfl) rExact)

-- 351 FAILS no body
noncomputable def s_int_stringslite_IndexB4 (cf : CallK) (fuel : Nat) (K : AV → Hp → Prop) (e0 : Hp → Prop) (t15 : AV) (t1 : AV) (t0 : AV) (h : Hp) : Prop :=
vEql t15 (.int .i64 1) h fun t26 h =>
vIf t26 (
vIdxS t1 (.int .i64 0) h fun t29 h =>
cf f_int_stringslite_IndexByte [t0, t29] h fun t30 h =>
K t30 h) (
vLenS t0 h fun t34 h =>
vGeq t15 t34 h fun t35 h =>
vIf t35 (
K (.int .i64 (-1)) h) (
vLoad2 (.gptr 0) h fun t38 h =>
vLeq t15 t38 h fun t39 h =>
joinG (fun g3 => grdV t39 true (vMov t0 h g3) (g3 undefV h)) fun t41 h =>
joinG (fun g2 => grdV t39 true (vLenS t41 h g2) (g2 undefV h)) fun t42 h =>
joinG (fun g1 => grdV t39 true (vLeq t42 (.int .i64 64) h g1) (g1 undefV h)) fun t43 h =>
vPick t39 t43 (.bool .false) h fun t44 h =>
vIf t44 (
cf f_int_bytealg_IndexString [t0, t1] h fun t47 h =>
K t47 h) (
e0 h)))
noncomputable def s_int_stringslite_IndexE8 (cf : CallK) (fuel : Nat) (K : AV → Hp → Prop) : Hp → Prop := fun h =>
K (.int .i64 (-1)) h
noncomputable def s_int_stringslite_IndexB21 (cf : CallK) (fuel : Nat) (K : AV → Hp → Prop) (e10 : AV → AV → Hp → Prop) (t5 : AV) (t98 : AV) (t96 : AV) (t0 : AV) (t9 : AV) (t1 : AV) (h : Hp) : Prop :=
vLoad2 (.gptr 0) h fun t119 h =>
vGtr t5 t119 h fun t120 h =>
joinG (fun g20 => grdV t120 true (vMov t98 h g20) (g20 undefV h)) fun t122 h =>
joinG (fun g19 => grdV t120 true (vMov t96 h g19) (g19 undefV h)) fun t123 h =>
joinG (fun g18 => grdV t120 true (vShr t123 (.int .u64 4) h g18) (g18 undefV h)) fun t124 h =>
joinG (fun g17 => grdV t120 true (vAdd (.int .i64 4) t124 h g17) (g17 undefV h)) fun t125 h =>
joinG (fun g16 => grdV t120 true (vGeq t122 t125 h g16) (g16 undefV h)) fun t126 h =>
vPick t120 t126 (.bool .false) h fun t127 h =>
joinG (fun g15 => grdV t127 true (vMov t96 h g15) (g15 undefV h)) fun t129 h =>
joinG (fun g14 => grdV t127 true (vMov t9 h g14) (g14 undefV h)) fun t130 h =>
joinG (fun g13 => grdV t127 true (vLss t129 t130 h g13) (g13 undefV h)) fun t131 h =>
vPick t127 t131 (.bool .false) h fun t132 h =>
vIf t132 (
vSliceS t0 (some t96) none h fun t135 h =>
cf f_int_bytealg_IndexRabinKarp_string [t135, t1] h fun t137 h =>
vLss t137 (.int .i64 0) h fun t139 h =>
vIf t139 (
K (.int .i64 (-1)) h) (
vAdd t96 t137 h fun t142 h =>
K t142 h)) (
e10 t96 t98 h)
noncomputable def s_int_stringslite_IndexB26 (cf : CallK) (fuel : Nat) (K : AV → Hp → Prop) (e10 : AV → AV → Hp → Prop) (t8_12 : AV) (t0 : AV) (t9 : AV) (t1 : AV) (t5 : AV) (t10 : AV) (h : Hp) : Prop :=
vAdd t8_12 (.int .i64 1) h fun t96 h =>
vAdd t10 (.int .i64 1) h fun t98 h =>
vLoad2 (.gptr 0) h fun t100 h =>
vLeq t5 t100 h fun t101 h =>
joinG (fun g25 => grdV t101 true (vMov t98 h g25) (g25 undefV h)) fun t103 h =>
joinG (fun g24 => grdV t101 true (vMov t96 h g24) (g24 undefV h)) fun t104 h =>
joinG (fun g23 => grdV t101 true (cf f_int_bytealg_Cutover [t104] h g23) (g23 undefV h)) fun t105 h =>
joinG (fun g22 => grdV t101 true (vGtr t103 t105 h g22) (g22 undefV h)) fun t106 h =>
vPick t101 t106 (.bool .false) h fun t107 h =>
vIf t107 (
vSliceS t0 (some t96) none h fun t110 h =>
cf f_int_bytealg_IndexString [t110, t1] h fun t112 h =>
vGeq t112 (.int .i64 0) h fun t114 h =>
vIf t114 (
vAdd t112 t96 h fun t117 h =>
K t117 h) (
K (.int .i64 (-1)) h)) (
s_int_stringslite_IndexB21 cf fuel K e10 t5 t98 t96 t0 t9 t1 h)
noncomputable def s_int_stringslite_IndexB36 (cf : CallK) (fuel : Nat) (K : AV → Hp → Prop) (ih9 : AV → AV → Hp → Prop) (t9 : AV) (t8 : AV) (t0 : AV) (t1 : AV) (t5 : AV) (t6 : AV) (t7 : AV) (t10 : AV) (h : Hp) : Prop :=
(fun (e10 : AV → AV → Hp → Prop) =>
(fun (j11 : AV → Hp → Prop) =>
vIdxS t0 t8 h fun t62 h =>
vNeq t62 t6 h fun t64 h =>
vIf t64 (
vAdd t8 (.int .i64 1) h fun t67 h =>
vSliceS t0 (some t67) (some t9) h fun t69 h =>
cf f_int_stringslite_IndexByte [t69, t6] h fun t71 h =>
vLss t71 (.int .i64 0) h fun t73 h =>
vIf t73 (
K (.int .i64 (-1)) h) (
vAdd t71 (.int .i64 1) h fun t76 h =>
vAdd t8 t76 h fun t77 h =>
j11 t77 h)) (
j11 t8 h)) fun t8_12 h =>
vAdd t8_12 (.int .i64 1) h fun t80 h =>
vIdxS t0 t80 h fun t81 h =>
vEql t81 t7 h fun t83 h =>
joinG (fun g34 => grdV t83 true (vMov t0 h g34) (g34 undefV h)) fun t85 h =>
joinG (fun g33 => grdV t83 true (vMov t8_12 h g33) (g33 undefV h)) fun t86 h =>
joinG (fun g32 => grdV t83 true (vMov t8_12 h g32) (g32 undefV h)) fun t87 h =>
joinG (fun g31 => grdV t83 true (vMov t5 h g31) (g31 undefV h)) fun t88 h =>
joinG (fun g30 => grdV t83 true (vAdd t87 t88 h g30) (g30 undefV h)) fun t89 h =>
joinG (fun g29 => grdV t83 true (vSliceS t85 (some t86) (some t89) h g29) (g29 undefV h)) fun t90 h =>
joinG (fun g28 => grdV t83 true (vMov t1 h g28) (g28 undefV h)) fun t91 h =>
joinG (fun g27 => grdV t83 true (vEql t90 t91 h g27) (g27 undefV h)) fun t92 h =>
vPick t83 t92 (.bool .false) h fun t93 h =>
vIf t93 (
K t8_12 h) (
s_int_stringslite_IndexB26 cf fuel K e10 t8_12 t0 t9 t1 t5 t10 h)) fun t8_35 t10 h =>
ih9 t8_35 t10 h
noncomputable def s_int_stringslite_IndexL9B (cf : CallK) (fuel : Nat) (K : AV → Hp → Prop) (e8 : Hp → Prop) (t0 : AV) (t1 : AV) (t5 : AV) (t6 : AV) (t7 : AV) (t9 : AV) (ih9 : AV → AV → Hp → Prop) : AV → AV → Hp → Prop := fun t8 t10 h =>
vLss t8 t9 h fun t59 h =>
vIf t59 (
s_int_stringslite_IndexB36 cf fuel K ih9 t9 t8 t0 t1 t5 t6 t7 t10 h) (
e8 h)
noncomputable def s_int_stringslite_IndexL9 (cf : CallK) (fuel : Nat) (K : AV → Hp → Prop) (e8 : Hp → Prop) (t0 : AV) (t1 : AV) (t5 : AV) (t6 : AV) (t7 : AV) (t9 : AV) (m : Nat) : AV → AV → Hp → Prop := Nat.rec (motive := fun _ => AV → AV → Hp → Prop) (fun _ _ _ => False) (fun _ ih => s_int_stringslite_IndexL9B cf fuel K e8 t0 t1 t5 t6 t7 t9 ih) m
theorem s_int_stringslite_IndexL9_succ (cf : CallK) (fuel : Nat) (K : AV → Hp → Prop) (e8 : Hp → Prop) (t0 : AV) (t1 : AV) (t5 : AV) (t6 : AV) (t7 : AV) (t9 : AV) (m : Nat) : s_int_stringslite_IndexL9 cf fuel K e8 t0 t1 t5 t6 t7 t9 (m + 1) = s_int_stringslite_IndexL9B cf fuel K e8 t0 t1 t5 t6 t7 t9 (s_int_stringslite_IndexL9 cf fuel K e8 t0 t1 t5 t6 t7 t9 m) := rfl
noncomputable def s_int_stringslite_Index (cf : CallK) (fuel : Nat) (t0 : AV) (t1 : AV) (h : Hp) (K : AV → Hp → Prop) : Prop :=
vLenS t1 h fun t15 h =>
(fun (e0 : Hp → Prop) =>
vEql t15 (.int .i64 0) h fun t18 h =>
joinG (fun g7 => grdV t18 false (vMov t1 h g7) (g7 undefV h)) fun t20 h =>
joinG (fun g6 => grdV t18 false (vMov t0 h g6) (g6 undefV h)) fun t21 h =>
joinG (fun g5 => grdV t18 false (vEql t20 t21 h g5) (g5 undefV h)) fun t22 h =>
vPick t18 (.bool .true) t22 h fun t23 h =>
vIf t23 (
K (.int .i64 0) h) (
s_int_stringslite_IndexB4 cf fuel K e0 t15 t1 t0 h)) fun h =>
vIdxS t1 (.int .i64 0) h fun t49 h =>
vIdxS t1 (.int .i64 1) h fun t51 h =>
vLenS t0 h fun t53 h =>
vArith Go.Am.subI t53 t15 h fun t55 h =>
vAdd t55 (.int .i64 1) h fun t56 h =>
(fun (e8 : Hp → Prop) =>
s_int_stringslite_IndexL9 cf fuel K (s_int_stringslite_IndexE8 cf fuel K) t0 t1 t15 t49 t51 t56 fuel (.int .i64 0) (.int .i64 0) h) (s_int_stringslite_IndexE8 cf fuel K)
theorem s_int_stringslite_Index_eq (cf : CallK) (fuel : Nat) (t0 : AV) (t1 : AV) (h : Hp) (K : AV → Hp → Prop) : s_int_stringslite_Index cf fuel t0 t1 h K = deepT (tabOf Tryz.prog) f_int_stringslite_Index cf fuel [t0, t1] h K :=
  Eq.trans (by kernel_rfl) (rFun (by kernel_rfl) (rSeq (by kernel_rfl) (rSeq (by kernel_rfl) (rSeq (by kernel_rfl) (rSeq (by kernel_rfl) (rSeq (by kernel_rfl) (rSeq (by kernel_rfl) (rSeq (by kernel_rfl) (rSeq (by kernel_rfl) (rSeq (by kernel_rfl) rExact (rBlock (by kernel_rfl) (rLoop (by kernel_rfl) (fun m9 fr h => s_int_stringslite_IndexL9 cf fuel K (s_int_stringslite_IndexE8 cf fuel K) (getS fr (gpos 0)) (getS fr (gpos 1)) (getS fr (gpos 5)) (getS fr (gpos 6)) (getS fr (gpos 7)) (getS fr (gpos 9)) m9 (getS fr (gpos 8)) (getS fr (gpos 10)) h) (funext fun fr => funext fun h => by kernel_rfl) fun m9 => rCast (funext fun fr => funext fun h => by kernel_rfl) rExact))) rExact) rExact) rExact) rExact) rExact) rExact) rExact) rExact))

noncomputable def s_int_strconv_ParseIntB8 (cf : CallK) (fuel : Nat) (K : AV → Hp → Prop) (t8 : AV) (t45 : AV) (t30 : AV) (h : Hp) : Prop :=
joinG (fun g7 => grdV t8 true (vMov t30 h g7) (g7 undefV h)) fun t59 h =>
joinG (fun g6 => grdV t8 true (vMov t45 h g6) (g6 undefV h)) fun t60 h =>
joinG (fun g5 => grdV t8 true (vGtr t59 t60 h g5) (g5 undefV h)) fun t61 h =>
vPick t8 t61 (.bool .false) h fun t62 h =>
vIf t62 (
vToInt .i64 t45 h fun t64 h =>
vNeg t64 h fun t65 h =>
vIface 454 (.int .i64 1) h fun t66 h =>
K (.tup [t65, t66]) h) (
vToInt .i64 t30 h fun t68 h =>
(fun (j4 : AV → Hp → Prop) =>
vIf t8 (
vNeg t68 h fun t71 h =>
j4 t71 h) (
j4 t68 h)) fun t11 h =>
K (.tup [t11, .niliface]) h)
noncomputable def s_int_strconv_ParseIntB12 (cf : CallK) (fuel : Nat) (K : AV → Hp → Prop) (t30 : AV) (t2 : AV) (t8 : AV) (h : Hp) : Prop :=
(fun (j2 : AV → Hp → Prop) =>
vEql t2 (.int .i64 0) h fun t41 h =>
vIf t41 (
j2 (.int .i64 64) h) (
j2 t2 h)) fun t2_3 h =>
vArith Go.Am.subI t2_3 (.int .i64 1) h fun t43 h =>
vToInt .u64 t43 h fun t44 h =>
vShl (.int .u64 1) t44 h fun t45 h =>
vNot t8 h fun t47 h =>
joinG (fun g11 => grdV t47 true (vMov t30 h g11) (g11 undefV h)) fun t49 h =>
joinG (fun g10 => grdV t47 true (vMov t45 h g10) (g10 undefV h)) fun t50 h =>
joinG (fun g9 => grdV t47 true (vGeq t49 t50 h g9) (g9 undefV h)) fun t51 h =>
vPick t47 t51 (.bool .false) h fun t52 h =>
vIf t52 (
vArith Go.Am.subI t45 (.int .u64 1) h fun t54 h =>
vToInt .i64 t54 h fun t55 h =>
vIface 454 (.int .i64 1) h fun t56 h =>
K (.tup [t55, t56]) h) (
s_int_strconv_ParseIntB8 cf fuel K t8 t45 t30 h)
noncomputable def s_int_strconv_ParseIntB16 (cf : CallK) (fuel : Nat) (K : AV → Hp → Prop) (t0 : AV) (t1 : AV) (t2 : AV) (h : Hp) : Prop :=
vIdxS t0 (.int .i64 0) h fun t16 h =>
(fun (e0 : AV → AV → Hp → Prop) =>
vEql t16 (.int .u8 43) h fun t18 h =>
vIf t18 (
vSliceS t0 (some (.int .i64 1)) none h fun t20 h =>
e0 t20 (.bool .false) h) (
vEql t16 (.int .u8 45) h fun t22 h =>
vIf t22 (
vSliceS t0 (some (.int .i64 1)) none h fun t24 h =>
e0 t24 (.bool .true) h) (
e0 t0 (.bool .false) h))) fun t0_1 t8 h =>
cf f_int_strconv_ParseUint [t0_1, t1, t2] h fun t29 h =>
vExtract 0 t29 h fun t30 h =>
vExtract 1 t29 h fun t31 h =>
vEq true (eqIf Tryz.prog true) t31 .niliface h fun t33 h =>
joinG (fun g15 => grdV t33 true (vMov t31 h g15) (g15 undefV h)) fun t35 h =>
joinG (fun g14 => grdV t33 true (vIface 454 (.int .i64 1) h g14) (g14 undefV h)) fun t36 h =>
joinG (fun g13 => grdV t33 true (vEq true (eqIf Tryz.prog false) t35 t36 h g13) (g13 undefV h)) fun t37 h =>
vPick t33 t37 (.bool .false) h fun t38 h =>
vIf t38 (
K (.tup [(.int .i64 0), t31]) h) (
s_int_strconv_ParseIntB12 cf fuel K t30 t2 t8 h)
noncomputable def s_int_strconv_ParseInt (cf : CallK) (fuel : Nat) (t0 : AV) (t1 : AV) (t2 : AV) (h : Hp) (K : AV → Hp → Prop) : Prop :=
vEql t0 (.str 0 0) h fun t13 h =>
vIf t13 (
vIface 454 (.int .i64 2) h fun t14 h =>
K (.tup [(.int .i64 0), t14]) h) (
s_int_strconv_ParseIntB16 cf fuel K t0 t1 t2 h)
theorem s_int_strconv_ParseInt_eq (cf : CallK) (fuel : Nat) (t0 : AV) (t1 : AV) (t2 : AV) (h : Hp) (K : AV → Hp → Prop) : s_int_strconv_ParseInt cf fuel t0 t1 t2 h K = deepT (tabOf Tryz.prog) f_int_strconv_ParseInt cf fuel [t0, t1, t2] h K :=
  Eq.trans (by kernel_rfl) (rFun (by kernel_rfl) rExact)

noncomputable def s_strconv_toErrorB1 (cf : CallK) (fuel : Nat) (K : AV → Hp → Prop) (e0 : Hp → Prop) (t4 : AV) (t0 : AV) (t1 : AV) (t2 : AV) (t3 : AV) (h : Hp) : Prop :=
vIface 454 (.int .i64 1) h fun t20 h =>
vEq false (eqIf Tryz.prog false) t4 t20 h fun t21 h =>
vIf t21 (
cf f_strconv_rangeError [t0, t1] h fun t24 h =>
vIface 457 t24 h fun t25 h =>
K t25 h) (
vIface 454 (.int .i64 3) h fun t27 h =>
vEq false (eqIf Tryz.prog false) t4 t27 h fun t28 h =>
vIf t28 (
cf f_strconv_baseError [t0, t1, t2] h fun t32 h =>
vIface 457 t32 h fun t33 h =>
K t33 h) (
vIface 454 (.int .i64 4) h fun t35 h =>
vEq false (eqIf Tryz.prog false) t4 t35 h fun t36 h =>
vIf t36 (
cf f_strconv_bitSizeError [t0, t1, t3] h fun t40 h =>
vIface 457 t40 h fun t41 h =>
K t41 h) (
e0 h)))
noncomputable def s_strconv_toError (cf : CallK) (fuel : Nat) (t0 : AV) (t1 : AV) (t2 : AV) (t3 : AV) (t4 : AV) (h : Hp) (K : AV → Hp → Prop) : Prop :=
(fun (e0 : Hp → Prop) =>
vIface 454 (.int .i64 2) h fun t13 h =>
vEq false (eqIf Tryz.prog false) t4 t13 h fun t14 h =>
vIf t14 (
cf f_strconv_syntaxError [t0, t1] h fun t17 h =>
vIface 457 t17 h fun t18 h =>
K t18 h) (
s_strconv_toErrorB1 cf fuel K e0 t4 t0 t1 t2 t3 h)) fun h =>
K t4 h
theorem s_strconv_toError_eq (cf : CallK) (fuel : Nat) (t0 : AV) (t1 : AV) (t2 : AV) (t3 : AV) (t4 : AV) (h : Hp) (K : AV → Hp → Prop) : s_strconv_toError cf fuel t0 t1 t2 t3 t4 h K = deepT (tabOf Tryz.prog) f_strconv_toError cf fuel [t0, t1, t2, t3, t4] h K :=
  Eq.trans (by kernel_rfl) (rFun (by kernel_rfl) rExact)

noncomputable def s_int_strconv_Itoa (cf : CallK) (fuel : Nat) (t0 : AV) (h : Hp) (K : AV → Hp → Prop) : Prop :=
cf f_int_strconv_FormatInt [t0, (.int .i64 10)] h fun t4 h =>
K t4 h
theorem s_int_strconv_Itoa_eq (cf : CallK) (fuel : Nat) (t0 : AV) (h : Hp) (K : AV → Hp → Prop) : s_int_strconv_Itoa cf fuel t0 h K = deepT (tabOf Tryz.prog) f_int_strconv_Itoa cf fuel [t0] h K :=
  Eq.trans (by kernel_rfl) (rFun (by kernel_rfl) rExact)

noncomputable def s_strings_IndexByte (cf : CallK) (fuel : Nat) (t0 : AV) (t1 : AV) (h : Hp) (K : AV → Hp → Prop) : Prop :=
cf f_int_stringslite_IndexByte [t0, t1] h fun t7 h =>
K t7 h
theorem s_strings_IndexByte_eq (cf : CallK) (fuel : Nat) (t0 : AV) (t1 : AV) (h : Hp) (K : AV → Hp → Prop) : s_strings_IndexByte cf fuel t0 t1 h K = deepT (tabOf Tryz.prog) f_strings_IndexByte cf fuel [t0, t1] h K :=
  Eq.trans (by kernel_rfl) (rFun (by kernel_rfl) rExact)

noncomputable def s_unicode_utf8_ValidRune (cf : CallK) (fuel : Nat) (t0 : AV) (h : Hp) (K : AV → Hp → Prop) : Prop :=
(fun (e0 : Hp → Prop) =>
vLeq (.int .i32 0) t0 h fun t5 h =>
joinG (fun g4 => grdV t5 true (vMov t0 h g4) (g4 undefV h)) fun t7 h =>
joinG (fun g3 => grdV t5 true (vLss t7 (.int .i32 55296) h g3) (g3 undefV h)) fun t8 h =>
vPick t5 t8 (.bool .false) h fun t9 h =>
vIf t9 (
K (.bool .true) h) (
vLss (.int .i32 57343) t0 h fun t12 h =>
joinG (fun g2 => grdV t12 true (vMov t0 h g2) (g2 undefV h)) fun t14 h =>
joinG (fun g1 => grdV t12 true (vLeq t14 (.int .i32 1114111) h g1) (g1 undefV h)) fun t15 h =>
vPick t12 t15 (.bool .false) h fun t16 h =>
vIf t16 (
K (.bool .true) h) (
e0 h))) fun h =>
K (.bool .false) h
theorem s_unicode_utf8_ValidRune_eq (cf : CallK) (fuel : Nat) (t0 : AV) (h : Hp) (K : AV → Hp → Prop) : s_unicode_utf8_ValidRune cf fuel t0 h K = deepT (tabOf Tryz.prog) f_unicode_utf8_ValidRune cf fuel [t0] h K :=
  Eq.trans (by kernel_rfl) (rFun (by kernel_rfl) rExact)

noncomputable def s_int_bytealg_Cutover (cf : CallK) (fuel : Nat) (t0 : AV) (h : Hp) (K : AV → Hp → Prop) : Prop :=
vAdd t0 (.int .i64 16) h fun t4 h =>
vDiv false t4 (.int .i64 8) h fun t5 h =>
K t5 h
theorem s_int_bytealg_Cutover_eq (cf : CallK) (fuel : Nat) (t0 : AV) (h : Hp) (K : AV → Hp → Prop) : s_int_bytealg_Cutover cf fuel t0 h K = deepT (tabOf Tryz.prog) f_int_bytealg_Cutover cf fuel [t0] h K :=
  Eq.trans (by kernel_rfl) (rFun (by kernel_rfl) rExact)


end Go.Proofs.YtciipeallilmiaaGreatDoor.sh11
