/- The Go functions' code as the abstract machine's, over values; each is the code that the machine makes of the program's (theorems s_.._eq). No condition. -/
import Derived.Test.YtciipeallilmiaaGreatDoorAmC
import Derived.Test.YtciipeallilmiaaGreatDoorProg
import Derived.KernelRfl
namespace Go.Proofs.YtciipeallilmiaaGreatDoor.sh12
open Go Go.Am Go.Proofs
set_option linter.unusedVariables false
set_option maxRecDepth 100000
abbrev f_cmp_isNaN_string : Nat := 377
abbrev f_errors_New : Nat := 399
abbrev f_int_bytealg_IndexRabinKarp_string : Nat := 381
abbrev f_int_bytealg_hashStr_string : Nat := 395
abbrev f_int_strconv_ParseUint : Nat := 382
abbrev f_int_strconv_lower : Nat := 396
abbrev f_int_strconv_underscoreOK : Nat := 397
abbrev f_int_stringslite_Clone : Nat := 398
abbrev f_int_stringslite_IndexByte : Nat := 380
abbrev f_math_bits_TrailingZeros32 : Nat := 375
abbrev f_math_bits_TrailingZeros64 : Nat := 376
abbrev f_slices_Clone_localfs_object_localfs_object : Nat := 370
abbrev f_slices_Clone_string_string : Nat := 369
abbrev f_slices_Delete_localfs_object_localfs_object : Nat := 372
abbrev f_slices_Delete_string_string : Nat := 371
abbrev f_slices_Insert_localfs_object_localfs_object : Nat := 374
abbrev f_slices_Insert_string_string : Nat := 373
abbrev f_slices_Reverse_api_Version_api_Version : Nat := 378
abbrev f_slices_choosePivotCmpFunc_api_ID : Nat := 363
abbrev f_slices_medianAdjacentCmpFunc_api_ID : Nat := 388
abbrev f_slices_medianCmpFunc_api_ID : Nat := 389
abbrev f_slices_order2CmpFunc_api_Entry : Nat := 368
abbrev f_slices_order2CmpFunc_api_ID : Nat := 400
abbrev f_slices_partialInsertionSortCmpFunc_api_ID : Nat := 365
abbrev f_slices_partitionCmpFunc_api_ID : Nat := 367
abbrev f_slices_partitionEqualCmpFunc_api_ID : Nat := 366
abbrev f_slices_reverseRangeCmpFunc_api_ID : Nat := 364
abbrev f_slices_rotateLeft_string : Nat := 401
abbrev f_slices_rotateRight_string : Nat := 391
abbrev f_slices_siftDownCmpFunc_api_ID : Nat := 387
abbrev f_strconv_Itoa : Nat := 330
abbrev f_strconv_baseError : Nat := 385
abbrev f_strconv_bitSizeError : Nat := 386
abbrev f_strconv_rangeError : Nat := 384
abbrev f_strconv_syntaxError : Nat := 383
abbrev f_unicode_utf8_decodeRuneInStringSlow : Nat := 379

noncomputable def s_slices_Clone_string_string (cf : CallK) (fuel : Nat) (t0 : AV) (h : Hp) (K : AV → Hp → Prop) : Prop :=
vEq false eqNS t0 .nilslice h fun t4 h =>
vIf t4 (
K .nilslice h) (
vBslice 1 0 false [(.str 0 0)] [] h fun t5 h =>
vAppend2 1 16 false t5 t0 h fun t7 h =>
K t7 h)
theorem s_slices_Clone_string_string_eq (cf : CallK) (fuel : Nat) (t0 : AV) (h : Hp) (K : AV → Hp → Prop) : s_slices_Clone_string_string cf fuel t0 h K = deepT (tabOf Tryz.prog) f_slices_Clone_string_string cf fuel [t0] h K :=
  Eq.trans (by kernel_rfl) (rFun (by kernel_rfl) rExact)

noncomputable def s_slices_Clone_localfs_object_localfs_object (cf : CallK) (fuel : Nat) (t0 : AV) (h : Hp) (K : AV → Hp → Prop) : Prop :=
vEq false eqNS t0 .nilslice h fun t4 h =>
vIf t4 (
K .nilslice h) (
vBslice 1 0 false [.nilptr] [] h fun t5 h =>
vAppend2 1 8 false t5 t0 h fun t7 h =>
K t7 h)
theorem s_slices_Clone_localfs_object_localfs_object_eq (cf : CallK) (fuel : Nat) (t0 : AV) (h : Hp) (K : AV → Hp → Prop) : s_slices_Clone_localfs_object_localfs_object cf fuel t0 h K = deepT (tabOf Tryz.prog) f_slices_Clone_localfs_object_localfs_object cf fuel [t0] h K :=
  Eq.trans (by kernel_rfl) (rFun (by kernel_rfl) rExact)

noncomputable def s_slices_Delete_string_string (cf : CallK) (fuel : Nat) (t0 : AV) (t1 : AV) (t2 : AV) (h : Hp) (K : AV → Hp → Prop) : Prop :=
vLenL2 t0 h fun t12 h =>
vSlice3 1 t0 (some t1) t2 t12 h fun t13 h =>
vEql t1 t2 h fun t16 h =>
vIf t16 (
K t0 h) (
vLenL2 t0 h fun t19 h =>
vSlice2 1 t0 none (some t1) h fun t22 h =>
vSlice2 1 t0 (some t2) none h fun t25 h =>
vAppend2 1 16 false t22 t25 h fun t26 h =>
False)
theorem s_slices_Delete_string_string_eq (cf : CallK) (fuel : Nat) (t0 : AV) (t1 : AV) (t2 : AV) (h : Hp) (K : AV → Hp → Prop) : s_slices_Delete_string_string cf fuel t0 t1 t2 h K = deepT (tabOf Tryz.prog) f_slices_Delete_string_string cf fuel [t0, t1, t2] h K :=
  Eq.trans (by kernel_rfl) (rFun (by kernel_rfl) rExact)

noncomputable def s_slices_Delete_localfs_object_localfs_object (cf : CallK) (fuel : Nat) (t0 : AV) (t1 : AV) (t2 : AV) (h : Hp) (K : AV → Hp → Prop) : Prop :=
vLenL2 t0 h fun t12 h =>
vSlice3 1 t0 (some t1) t2 t12 h fun t13 h =>
vEql t1 t2 h fun t16 h =>
vIf t16 (
K t0 h) (
vLenL2 t0 h fun t19 h =>
vSlice2 1 t0 none (some t1) h fun t22 h =>
vSlice2 1 t0 (some t2) none h fun t25 h =>
vAppend2 1 8 false t22 t25 h fun t26 h =>
False)
theorem s_slices_Delete_localfs_object_localfs_object_eq (cf : CallK) (fuel : Nat) (t0 : AV) (t1 : AV) (t2 : AV) (h : Hp) (K : AV → Hp → Prop) : s_slices_Delete_localfs_object_localfs_object cf fuel t0 t1 t2 h K = deepT (tabOf Tryz.prog) f_slices_Delete_localfs_object_localfs_object cf fuel [t0, t1, t2] h K :=
  Eq.trans (by kernel_rfl) (rFun (by kernel_rfl) rExact)

noncomputable def s_slices_Insert_string_string (cf : CallK) (fuel : Nat) (t0 : AV) (t1 : AV) (t2 : AV) (h : Hp) (K : AV → Hp → Prop) : Prop :=
vSlice2 1 t0 (some t1) none h fun t12 h =>
vLenL2 t2 h fun t14 h =>
vEql t14 (.int .i64 0) h fun t16 h =>
vIf t16 (
K t0 h) (
vLenL2 t0 h fun t19 h =>
vEql t1 t19 h fun t22 h =>
vIf t22 (
vAppend2 1 16 false t0 t2 h fun t25 h =>
K t25 h) (
False))
theorem s_slices_Insert_string_string_eq (cf : CallK) (fuel : Nat) (t0 : AV) (t1 : AV) (t2 : AV) (h : Hp) (K : AV → Hp → Prop) : s_slices_Insert_string_string cf fuel t0 t1 t2 h K = deepT (tabOf Tryz.prog) f_slices_Insert_string_string cf fuel [t0, t1, t2] h K :=
  Eq.trans (by kernel_rfl) (rFun (by kernel_rfl) rExact)

noncomputable def s_slices_Insert_localfs_object_localfs_object (cf : CallK) (fuel : Nat) (t0 : AV) (t1 : AV) (t2 : AV) (h : Hp) (K : AV → Hp → Prop) : Prop :=
vSlice2 1 t0 (some t1) none h fun t12 h =>
vLenL2 t2 h fun t14 h =>
vEql t14 (.int .i64 0) h fun t16 h =>
vIf t16 (
K t0 h) (
vLenL2 t0 h fun t19 h =>
vEql t1 t19 h fun t22 h =>
vIf t22 (
vAppend2 1 8 false t0 t2 h fun t25 h =>
K t25 h) (
False))
theorem s_slices_Insert_localfs_object_localfs_object_eq (cf : CallK) (fuel : Nat) (t0 : AV) (t1 : AV) (t2 : AV) (h : Hp) (K : AV → Hp → Prop) : s_slices_Insert_localfs_object_localfs_object cf fuel t0 t1 t2 h K = deepT (tabOf Tryz.prog) f_slices_Insert_localfs_object_localfs_object cf fuel [t0, t1, t2] h K :=
  Eq.trans (by kernel_rfl) (rFun (by kernel_rfl) rExact)

noncomputable def s_math_bits_TrailingZeros32 (cf : CallK) (fuel : Nat) (t0 : AV) (h : Hp) (K : AV → Hp → Prop) : Prop :=
vEql t0 (.int .u32 0) h fun t4 h =>
vIf t4 (
K (.int .i64 32) h) (
vNeg t0 h fun t7 h =>
vBits Nat.land t0 t7 h fun t8 h =>
vArith Go.Am.mulI t8 (.int .u32 125613361) h fun t9 h =>
vShr t9 (.int .u64 27) h fun t10 h =>
vIaddrA 1 32 (.gptr 2) t10 h fun t11 h =>
vLoad2 t11 h fun t12 h =>
vToInt .i64 t12 h fun t13 h =>
K t13 h)
theorem s_math_bits_TrailingZeros32_eq (cf : CallK) (fuel : Nat) (t0 : AV) (h : Hp) (K : AV → Hp → Prop) : s_math_bits_TrailingZeros32 cf fuel t0 h K = deepT (tabOf Tryz.prog) f_math_bits_TrailingZeros32 cf fuel [t0] h K :=
  Eq.trans (by kernel_rfl) (rFun (by kernel_rfl) rExact)

noncomputable def s_math_bits_TrailingZeros64 (cf : CallK) (fuel : Nat) (t0 : AV) (h : Hp) (K : AV → Hp → Prop) : Prop :=
vEql t0 (.int .u64 0) h fun t4 h =>
vIf t4 (
K (.int .i64 64) h) (
vNeg t0 h fun t7 h =>
vBits Nat.land t0 t7 h fun t8 h =>
vArith Go.Am.mulI t8 (.int .u64 285870213051353865) h fun t9 h =>
vShr t9 (.int .u64 58) h fun t10 h =>
vIaddrA 1 64 (.gptr 3) t10 h fun t11 h =>
vLoad2 t11 h fun t12 h =>
vToInt .i64 t12 h fun t13 h =>
K t13 h)
theorem s_math_bits_TrailingZeros64_eq (cf : CallK) (fuel : Nat) (t0 : AV) (h : Hp) (K : AV → Hp → Prop) : s_math_bits_TrailingZeros64 cf fuel t0 h K = deepT (tabOf Tryz.prog) f_math_bits_TrailingZeros64 cf fuel [t0] h K :=
  Eq.trans (by kernel_rfl) (rFun (by kernel_rfl) rExact)

noncomputable def s_cmp_isNaN_string (cf : CallK) (fuel : Nat) (t0 : AV) (h : Hp) (K : AV → Hp → Prop) : Prop :=
vNeq t0 t0 h fun t5 h =>
K t5 h
theorem s_cmp_isNaN_string_eq (cf : CallK) (fuel : Nat) (t0 : AV) (h : Hp) (K : AV → Hp → Prop) : s_cmp_isNaN_string cf fuel t0 h K = deepT (tabOf Tryz.prog) f_cmp_isNaN_string cf fuel [t0] h K :=
  Eq.trans (by kernel_rfl) (rFun (by kernel_rfl) rExact)

noncomputable def s_slices_Reverse_api_Version_api_VersionE0 (cf : CallK) (fuel : Nat) (K : AV → Hp → Prop) : Hp → Prop := fun h =>
K (.tup []) h
noncomputable def s_slices_Reverse_api_Version_api_VersionL1B (cf : CallK) (fuel : Nat) (e0 : Hp → Prop) (t0 : AV) (ih1 : AV → AV → Hp → Prop) : AV → AV → Hp → Prop := fun t2 t3 h =>
vLss t2 t3 h fun t9 h =>
vIf t9 (
(fun (e2 : Hp → Prop) =>
vIaddr 5 t0 t3 h fun t20 h =>
vLoadA 5 t20 h fun t21 h =>
vIaddr 5 t0 t2 h fun t24 h =>
vLoadA 5 t24 h fun t25 h =>
vIaddr 5 t0 t2 h fun t26 h =>
vStore 5 t26 t21 h fun _ h =>
vIaddr 5 t0 t3 h fun t27 h =>
vStore 5 t27 t25 h fun _ h =>
e2 h) fun h =>
vAdd t2 (.int .i64 1) h fun t11 h =>
vArith Go.Am.subI t3 (.int .i64 1) h fun t13 h =>
ih1 t11 t13 h) (
e0 h)
noncomputable def s_slices_Reverse_api_Version_api_VersionL1 (cf : CallK) (fuel : Nat) (e0 : Hp → Prop) (t0 : AV) (m : Nat) : AV → AV → Hp → Prop := Nat.rec (motive := fun _ => AV → AV → Hp → Prop) (fun _ _ _ => False) (fun _ ih => s_slices_Reverse_api_Version_api_VersionL1B cf fuel e0 t0 ih) m
theorem s_slices_Reverse_api_Version_api_VersionL1_succ (cf : CallK) (fuel : Nat) (e0 : Hp → Prop) (t0 : AV) (m : Nat) : s_slices_Reverse_api_Version_api_VersionL1 cf fuel e0 t0 (m + 1) = s_slices_Reverse_api_Version_api_VersionL1B cf fuel e0 t0 (s_slices_Reverse_api_Version_api_VersionL1 cf fuel e0 t0 m) := rfl
noncomputable def s_slices_Reverse_api_Version_api_Version (cf : CallK) (fuel : Nat) (t0 : AV) (h : Hp) (K : AV → Hp → Prop) : Prop :=
vLenL2 t0 h fun t5 h =>
vArith Go.Am.subI t5 (.int .i64 1) h fun t6 h =>
(fun (e0 : Hp → Prop) =>
s_slices_Reverse_api_Version_api_VersionL1 cf fuel (s_slices_Reverse_api_Version_api_VersionE0 cf fuel K) t0 fuel (.int .i64 0) t6 h) (s_slices_Reverse_api_Version_api_VersionE0 cf fuel K)
theorem s_slices_Reverse_api_Version_api_Version_eq (cf : CallK) (fuel : Nat) (t0 : AV) (h : Hp) (K : AV → Hp → Prop) : s_slices_Reverse_api_Version_api_Version cf fuel t0 h K = deepT (tabOf Tryz.prog) f_slices_Reverse_api_Version_api_Version cf fuel [t0] h K :=
  Eq.trans (by kernel_rfl) (rFun (by kernel_rfl) (rSeq (by kernel_rfl) (rBlock (by kernel_rfl) (rLoop (by kernel_rfl) (fun m1 fr h => s_slices_Reverse_api_Version_api_VersionL1 cf fuel (s_slices_Reverse_api_Version_api_VersionE0 cf fuel K) (getS fr (gpos 0)) m1 (getS fr (gpos 2)) (getS fr (gpos 3)) h) (funext fun fr => funext fun h => by kernel_rfl) fun m1 => rCast (funext fun fr => funext fun h => by kernel_rfl) rExact)) rExact))

noncomputable def s_int_stringslite_IndexByte (cf : CallK) (fuel : Nat) (t0 : AV) (t1 : AV) (h : Hp) (K : AV → Hp → Prop) : Prop :=
vIdxB t0 t1 h fun t7 h =>
K t7 h
theorem s_int_stringslite_IndexByte_eq (cf : CallK) (fuel : Nat) (t0 : AV) (t1 : AV) (h : Hp) (K : AV → Hp → Prop) : s_int_stringslite_IndexByte cf fuel t0 t1 h K = deepT (tabOf Tryz.prog) f_int_stringslite_IndexByte cf fuel [t0, t1] h K :=
  Eq.trans (by kernel_rfl) (rFun (by kernel_rfl) rExact)

noncomputable def s_strconv_syntaxError (cf : CallK) (fuel : Nat) (t0 : AV) (t1 : AV) (h : Hp) (K : AV → Hp → Prop) : Prop :=
vLoad2 (.gptr 6) h fun t8 h =>
cf f_int_stringslite_Clone [t1] h fun t7 h =>
vLoad2 (.gptr 6) h fun c _ => gd (sameV c t8) (
vBuild [(.str 0 0), (.str 0 0), .niliface] [(0, 1, t0), (1, 1, t7), (2, 1, t8)] h fun t9 h =>
vBox 3 t9 h fun t10 h =>
K t10 h)
theorem s_strconv_syntaxError_eq (cf : CallK) (fuel : Nat) (t0 : AV) (t1 : AV) (h : Hp) (K : AV → Hp → Prop) : s_strconv_syntaxError cf fuel t0 t1 h K = deepT (tabOf Tryz.prog) f_strconv_syntaxError cf fuel [t0, t1] h K :=
  Eq.trans (by kernel_rfl) (rFun (by kernel_rfl) rExact)

noncomputable def s_strconv_rangeError (cf : CallK) (fuel : Nat) (t0 : AV) (t1 : AV) (h : Hp) (K : AV → Hp → Prop) : Prop :=
vLoad2 (.gptr 7) h fun t8 h =>
cf f_int_stringslite_Clone [t1] h fun t7 h =>
vLoad2 (.gptr 7) h fun c _ => gd (sameV c t8) (
vBuild [(.str 0 0), (.str 0 0), .niliface] [(0, 1, t0), (1, 1, t7), (2, 1, t8)] h fun t9 h =>
vBox 3 t9 h fun t10 h =>
K t10 h)
theorem s_strconv_rangeError_eq (cf : CallK) (fuel : Nat) (t0 : AV) (t1 : AV) (h : Hp) (K : AV → Hp → Prop) : s_strconv_rangeError cf fuel t0 t1 h K = deepT (tabOf Tryz.prog) f_strconv_rangeError cf fuel [t0, t1] h K :=
  Eq.trans (by kernel_rfl) (rFun (by kernel_rfl) rExact)

noncomputable def s_strconv_baseError (cf : CallK) (fuel : Nat) (t0 : AV) (t1 : AV) (t2 : AV) (h : Hp) (K : AV → Hp → Prop) : Prop :=
cf f_int_stringslite_Clone [t1] h fun t9 h =>
cf f_strconv_Itoa [t2] h fun t11 h =>
vAdd (.str 13 2566698672797334201289919589993) t11 h fun t12 h =>
cf f_errors_New [t12] h fun t13 h =>
vBuild [(.str 0 0), (.str 0 0), .niliface] [(0, 1, t0), (1, 1, t9), (2, 1, t13)] h fun t14 h =>
vBox 3 t14 h fun t15 h =>
K t15 h
theorem s_strconv_baseError_eq (cf : CallK) (fuel : Nat) (t0 : AV) (t1 : AV) (t2 : AV) (h : Hp) (K : AV → Hp → Prop) : s_strconv_baseError cf fuel t0 t1 t2 h K = deepT (tabOf Tryz.prog) f_strconv_baseError cf fuel [t0, t1, t2] h K :=
  Eq.trans (by kernel_rfl) (rFun (by kernel_rfl) rExact)

noncomputable def s_strconv_bitSizeError (cf : CallK) (fuel : Nat) (t0 : AV) (t1 : AV) (t2 : AV) (h : Hp) (K : AV → Hp → Prop) : Prop :=
cf f_int_stringslite_Clone [t1] h fun t9 h =>
cf f_strconv_Itoa [t2] h fun t11 h =>
vAdd (.str 17 11023923368035339908895700075316841442921) t11 h fun t12 h =>
cf f_errors_New [t12] h fun t13 h =>
vBuild [(.str 0 0), (.str 0 0), .niliface] [(0, 1, t0), (1, 1, t9), (2, 1, t13)] h fun t14 h =>
vBox 3 t14 h fun t15 h =>
K t15 h
theorem s_strconv_bitSizeError_eq (cf : CallK) (fuel : Nat) (t0 : AV) (t1 : AV) (t2 : AV) (h : Hp) (K : AV → Hp → Prop) : s_strconv_bitSizeError cf fuel t0 t1 t2 h K = deepT (tabOf Tryz.prog) f_strconv_bitSizeError cf fuel [t0, t1, t2] h K :=
  Eq.trans (by kernel_rfl) (rFun (by kernel_rfl) rExact)

-- 390 FAILS no body
noncomputable def s_slices_rotateRight_string (cf : CallK) (fuel : Nat) (t0 : AV) (t1 : AV) (h : Hp) (K : AV → Hp → Prop) : Prop :=
vLenL2 t0 h fun t6 h =>
vArith Go.Am.subI t6 t1 h fun t8 h =>
cf f_slices_rotateLeft_string [t0, t8] h fun t9 h =>
K (.tup []) h
theorem s_slices_rotateRight_string_eq (cf : CallK) (fuel : Nat) (t0 : AV) (t1 : AV) (h : Hp) (K : AV → Hp → Prop) : s_slices_rotateRight_string cf fuel t0 t1 h K = deepT (tabOf Tryz.prog) f_slices_rotateRight_string cf fuel [t0, t1] h K :=
  Eq.trans (by kernel_rfl) (rFun (by kernel_rfl) rExact)

-- 392 FAILS no body

end Go.Proofs.YtciipeallilmiaaGreatDoor.sh12
