/- The Go functions' code as the abstract machine's, over values; each is the code that the machine makes of the program's (theorems s_.._eq). No condition. -/
import Derived.Test.YtciipeallilmiaaGreatDoorAmC
import Derived.Test.YtciipeallilmiaaGreatDoorProg
import Derived.KernelRfl
namespace Go.Proofs.YtciipeallilmiaaGreatDoor.sh10
open Go Go.Am Go.Proofs
set_option linter.unusedVariables false
set_option maxRecDepth 100000
abbrev f_cmp_Less_int : Nat := 249
abbrev f_cmp_Less_string : Nat := 344
abbrev f_cmp_isNaN_int64 : Nat := 312
abbrev f_int_strconv_Itoa : Nat := 355
abbrev f_int_strconv_ParseInt : Nat := 353
abbrev f_int_strconv_bool2_int : Nat := 341
abbrev f_int_strconv_formatBase10 : Nat := 316
abbrev f_int_strconv_formatBits : Nat := 317
abbrev f_int_strconv_isPowerOfTwo : Nat := 342
abbrev f_int_strconv_log10Pow2 : Nat := 340
abbrev f_int_strconv_numDigits : Nat := 315
abbrev f_int_strconv_small : Nat := 314
abbrev f_int_stringslite_Cut : Nat := 328
abbrev f_int_stringslite_Index : Nat := 352
abbrev f_localfs_object_kid : Nat := 277
abbrev f_localfs_object_set : Nat := 313
abbrev f_localfs_object_with : Nat := 339
abbrev f_math_bits_Len64 : Nat := 253
abbrev f_math_bits_TrailingZeros : Nat := 343
abbrev f_movetree_Tree_Below : Nat := 206
abbrev f_movetree_Tree_Dir : Nat := 196
abbrev f_movetree_Tree_Has : Nat := 347
abbrev f_movetree_Tree_may : Nat := 321
abbrev f_slices_BinarySearch_string_string : Nat := 318
abbrev f_slices_breakPatternsCmpFunc_api_Entry : Nat := 305
abbrev f_slices_choosePivotCmpFunc_api_Entry : Nat := 306
abbrev f_slices_heapSortCmpFunc_api_Entry : Nat := 304
abbrev f_slices_insertionSortCmpFunc_api_Entry : Nat := 303
abbrev f_slices_isNaN_string : Nat := 345
abbrev f_slices_medianAdjacentCmpFunc_api_Entry : Nat := 337
abbrev f_slices_medianCmpFunc_api_Entry : Nat := 338
abbrev f_slices_nextPowerOfTwo : Nat := 291
abbrev f_slices_order2Ordered_int : Nat := 324
abbrev f_slices_partialInsertionSortCmpFunc_api_Entry : Nat := 308
abbrev f_slices_partitionCmpFunc_api_Entry : Nat := 310
abbrev f_slices_partitionEqualCmpFunc_api_Entry : Nat := 309
abbrev f_slices_reverseRangeCmpFunc_api_Entry : Nat := 307
abbrev f_slices_rotateLeft_api_Version : Nat := 348
abbrev f_slices_rotateLeft_movetree_done : Nat := 346
abbrev f_slices_rotateRight_api_Version : Nat := 323
abbrev f_slices_rotateRight_movetree_done : Nat := 320
abbrev f_slices_siftDownCmpFunc_api_Entry : Nat := 336
abbrev f_slices_xorshift_Next : Nat := 292
abbrev f_strconv_Itoa : Nat := 330
abbrev f_strconv_ParseInt : Nat := 329
abbrev f_strconv_toError : Nat := 354
abbrev f_strings_Count : Nat := 326
abbrev f_strings_Index : Nat := 327
abbrev f_strings_IndexByte : Nat := 356
abbrev f_strings_IndexRune : Nat := 331
abbrev f_strings_explode : Nat := 325
abbrev f_strings_shouldUseASCIISet : Nat := 332
abbrev f_unicode_utf8_DecodeRuneInString : Nat := 350
abbrev f_unicode_utf8_RuneCountInString : Nat := 349
abbrev f_unicode_utf8_ValidRune : Nat := 357

-- 311 FAILS no body
noncomputable def s_cmp_isNaN_int64 (cf : CallK) (fuel : Nat) (t0 : AV) (h : Hp) (K : AV → Hp → Prop) : Prop :=
vNeq t0 t0 h fun t5 h =>
K t5 h
theorem s_cmp_isNaN_int64_eq (cf : CallK) (fuel : Nat) (t0 : AV) (h : Hp) (K : AV → Hp → Prop) : s_cmp_isNaN_int64 cf fuel t0 h K = deepT (tabOf Tryz.prog) f_cmp_isNaN_int64 cf fuel [t0] h K :=
  Eq.trans (by kernel_rfl) (rFun (by kernel_rfl) rExact)

noncomputable def s_localfs_object_setB0 (cf : CallK) (fuel : Nat) (K : AV → Hp → Prop) (t1 : AV) (t0 : AV) (t2 : AV) (h : Hp) : Prop :=
vLenL2 t1 h fun t12 h =>
vEql t12 (.int .i64 1) h fun t13 h =>
vIf t13 (
vIaddr 1 t1 (.int .i64 0) h fun t16 h =>
vLoad2 t16 h fun t17 h =>
cf f_localfs_object_with [t0, t17, t2] h fun t19 h =>
K t19 h) (
vIaddr 1 t1 (.int .i64 0) h fun t22 h =>
vLoad2 t22 h fun t23 h =>
vIaddr 1 t1 (.int .i64 0) h fun t26 h =>
vLoad2 t26 h fun t27 h =>
vSlice2 1 t1 (some (.int .i64 1)) none h fun t30 h =>
cf f_localfs_object_kid [t0, t27] h fun t28 h =>
vLoad2 t22 h fun c _ => gd (sameV c t23) (
cf f_localfs_object_set [t28, t30, t2] h fun t32 h =>
vLoad2 t22 h fun c _ => gd (sameV c t23) (
cf f_localfs_object_with [t0, t23, t32] h fun t33 h =>
K t33 h)))
noncomputable def s_localfs_object_set (cf : CallK) (fuel : Nat) (t0 : AV) (t1 : AV) (t2 : AV) (h : Hp) (K : AV → Hp → Prop) : Prop :=
vLenL2 t1 h fun t8 h =>
vEql t8 (.int .i64 0) h fun t9 h =>
vIf t9 (
K t2 h) (
s_localfs_object_setB0 cf fuel K t1 t0 t2 h)
theorem s_localfs_object_set_eq (cf : CallK) (fuel : Nat) (t0 : AV) (t1 : AV) (t2 : AV) (h : Hp) (K : AV → Hp → Prop) : s_localfs_object_set cf fuel t0 t1 t2 h K = deepT (tabOf Tryz.prog) f_localfs_object_set cf fuel [t0, t1, t2] h K :=
  Eq.trans (by kernel_rfl) (rFun (by kernel_rfl) rExact)

noncomputable def s_int_strconv_small (cf : CallK) (fuel : Nat) (t0 : AV) (h : Hp) (K : AV → Hp → Prop) : Prop :=
vLss t0 (.int .i64 10) h fun t4 h =>
vIf t4 (
vAdd t0 (.int .i64 1) h fun t7 h =>
vSliceS (.str 36 237927390410950444456928663707796224754864904193074819559483181009558347043374296609072) (some t0) (some t7) h fun t8 h =>
K t8 h) (
vArith Go.Am.mulI t0 (.int .i64 2) h fun t10 h =>
vArith Go.Am.mulI t0 (.int .i64 2) h fun t12 h =>
vAdd t12 (.int .i64 2) h fun t13 h =>
vSliceS (.str 200 9938655150514779720929161263213647789093395803754561035662628441001274968862597953692946393464194303251501229616933063375291039650253924995779037586872666250072396106842829501851083234932712366962979930255066872747696324303968523733872590022915936937156789320557469720923390131174387415513794469201054844961267015441141542819553679203788501627738430154234325528792480477051962324423099068299719245009424585859096469223093538032153047611602695245052081125123941502624659711709950000) (some t10) (some t13) h fun t14 h =>
K t14 h)
theorem s_int_strconv_small_eq (cf : CallK) (fuel : Nat) (t0 : AV) (h : Hp) (K : AV → Hp → Prop) : s_int_strconv_small cf fuel t0 h K = deepT (tabOf Tryz.prog) f_int_strconv_small cf fuel [t0] h K :=
  Eq.trans (by kernel_rfl) (rFun (by kernel_rfl) rExact)

noncomputable def s_int_strconv_numDigits (cf : CallK) (fuel : Nat) (t0 : AV) (h : Hp) (K : AV → Hp → Prop) : Prop :=
cf f_math_bits_Len64 [t0] h fun t5 h =>
cf f_int_strconv_log10Pow2 [t5] h fun t6 h =>
vIaddrA 1 20 (.gptr 1) t6 h fun t10 h =>
vLoad2 t10 h fun t11 h =>
vGeq t0 t11 h fun t12 h =>
cf f_int_strconv_bool2_int [t12] h fun t13 h =>
vAdd t6 t13 h fun t14 h =>
K t14 h
theorem s_int_strconv_numDigits_eq (cf : CallK) (fuel : Nat) (t0 : AV) (h : Hp) (K : AV → Hp → Prop) : s_int_strconv_numDigits cf fuel t0 h K = deepT (tabOf Tryz.prog) f_int_strconv_numDigits cf fuel [t0] h K :=
  Eq.trans (by kernel_rfl) (rFun (by kernel_rfl) rExact)

noncomputable def s_slices_BinarySearch_string_stringE0 (cf : CallK) (fuel : Nat) (K : AV → Hp → Prop) (t0 : AV) (t1 : AV) (t6 : AV) : AV → Hp → Prop := fun t7 h =>
vLss t7 t6 h fun t34 h =>
joinG (fun g17 => grdV t34 true (vMov t0 h g17) (g17 undefV h)) fun t36 h =>
joinG (fun g16 => grdV t34 true (vMov t7 h g16) (g16 undefV h)) fun t37 h =>
joinG (fun g15 => grdV t34 true (vIaddr 1 t36 t37 h g15) (g15 undefV h)) fun t38 h =>
joinG (fun g14 => grdV t34 true (vLoad2 t38 h g14) (g14 undefV h)) fun t39 h =>
joinG (fun g13 => grdV t34 true (vMov t1 h g13) (g13 undefV h)) fun t40 h =>
joinG (fun g12 => grdV t34 true (vEql t39 t40 h g12) (g12 undefV h)) fun t41 h =>
joinG (fun g11 => grdV t34 true (vMov t41 h g11) (g11 undefV h)) fun t42 h =>
joinG (fun g10 => grdV t42 false (vMov t0 h g10) (g10 undefV h)) fun t43 h =>
joinG (fun g9 => grdV t42 false (vMov t7 h g9) (g9 undefV h)) fun t44 h =>
joinG (fun g8 => grdV t42 false (vIaddr 1 t43 t44 h g8) (g8 undefV h)) fun t45 h =>
joinG (fun g7 => grdV t42 false (vLoad2 t45 h g7) (g7 undefV h)) fun t46 h =>
joinG (fun g6 => grdV t42 false (cf f_slices_isNaN_string [t46] h g6) (g6 undefV h)) fun t47 h =>
joinG (fun g5 => grdV t42 false (vMov t47 h g5) (g5 undefV h)) fun t48 h =>
joinG (fun g4 => grdV t48 true (vMov t1 h g4) (g4 undefV h)) fun t49 h =>
joinG (fun g3 => grdV t48 true (cf f_slices_isNaN_string [t49] h g3) (g3 undefV h)) fun t50 h =>
joinG (fun g2 => grdV t42 false (vPick t48 t50 (.bool .false) h g2) (g2 undefV h)) fun t51 h =>
joinG (fun g1 => grdV t34 true (vPick t42 (.bool .true) t51 h g1) (g1 undefV h)) fun t52 h =>
vPick t34 t52 (.bool .false) h fun t53 h =>
K (.tup [t7, t53]) h
noncomputable def s_slices_BinarySearch_string_stringL18B (cf : CallK) (fuel : Nat) (e0 : AV → Hp → Prop) (t0 : AV) (t1 : AV) (t6 : AV) (ih18 : AV → AV → Hp → Prop) : AV → AV → Hp → Prop := fun t7 t8 h =>
vLss t7 t8 h fun t15 h =>
vIf t15 (
(fun (e19 : AV → AV → Hp → Prop) =>
vAdd t7 t8 h fun t18 h =>
vToInt .u64 t18 h fun t19 h =>
vShr t19 (.int .u64 1) h fun t20 h =>
vToInt .i64 t20 h fun t21 h =>
vIaddr 1 t0 t21 h fun t24 h =>
vLoad2 t24 h fun t25 h =>
cf f_cmp_Less_string [t25, t1] h fun t27 h =>
vIf t27 (
vAdd t21 (.int .i64 1) h fun t29 h =>
e19 t29 t8 h) (
e19 t7 t21 h)) fun t7_20 t8_21 h =>
ih18 t7_20 t8_21 h) (
e0 t7 h)
noncomputable def s_slices_BinarySearch_string_stringL18 (cf : CallK) (fuel : Nat) (e0 : AV → Hp → Prop) (t0 : AV) (t1 : AV) (t6 : AV) (m : Nat) : AV → AV → Hp → Prop := Nat.rec (motive := fun _ => AV → AV → Hp → Prop) (fun _ _ _ => False) (fun _ ih => s_slices_BinarySearch_string_stringL18B cf fuel e0 t0 t1 t6 ih) m
theorem s_slices_BinarySearch_string_stringL18_succ (cf : CallK) (fuel : Nat) (e0 : AV → Hp → Prop) (t0 : AV) (t1 : AV) (t6 : AV) (m : Nat) : s_slices_BinarySearch_string_stringL18 cf fuel e0 t0 t1 t6 (m + 1) = s_slices_BinarySearch_string_stringL18B cf fuel e0 t0 t1 t6 (s_slices_BinarySearch_string_stringL18 cf fuel e0 t0 t1 t6 m) := rfl
noncomputable def s_slices_BinarySearch_string_string (cf : CallK) (fuel : Nat) (t0 : AV) (t1 : AV) (h : Hp) (K : AV → Hp → Prop) : Prop :=
vLenL2 t0 h fun t11 h =>
(fun (e0 : AV → Hp → Prop) =>
s_slices_BinarySearch_string_stringL18 cf fuel (s_slices_BinarySearch_string_stringE0 cf fuel K t0 t1 t11) t0 t1 t11 fuel (.int .i64 0) t11 h) (s_slices_BinarySearch_string_stringE0 cf fuel K t0 t1 t11)
theorem s_slices_BinarySearch_string_string_eq (cf : CallK) (fuel : Nat) (t0 : AV) (t1 : AV) (h : Hp) (K : AV → Hp → Prop) : s_slices_BinarySearch_string_string cf fuel t0 t1 h K = deepT (tabOf Tryz.prog) f_slices_BinarySearch_string_string cf fuel [t0, t1] h K :=
  Eq.trans (by kernel_rfl) (rFun (by kernel_rfl) (rSeq (by kernel_rfl) (rSeq (by kernel_rfl) (rSeq (by kernel_rfl) (rSeq (by kernel_rfl) rExact (rBlock (by kernel_rfl) (rLoop (by kernel_rfl) (fun m18 fr h => s_slices_BinarySearch_string_stringL18 cf fuel (s_slices_BinarySearch_string_stringE0 cf fuel K (getS fr (gpos 0)) (getS fr (gpos 1)) (getS fr (gpos 6))) (getS fr (gpos 0)) (getS fr (gpos 1)) (getS fr (gpos 6)) m18 (getS fr (gpos 7)) (getS fr (gpos 8)) h) (funext fun fr => funext fun h => by kernel_rfl) fun m18 => rCast (funext fun fr => funext fun h => by kernel_rfl) rExact))) rExact) rExact) rExact))

-- 319 FAILS no body
noncomputable def s_slices_rotateRight_movetree_done (cf : CallK) (fuel : Nat) (t0 : AV) (t1 : AV) (h : Hp) (K : AV → Hp → Prop) : Prop :=
vLenL2 t0 h fun t6 h =>
vArith Go.Am.subI t6 t1 h fun t8 h =>
cf f_slices_rotateLeft_movetree_done [t0, t8] h fun t9 h =>
K (.tup []) h
theorem s_slices_rotateRight_movetree_done_eq (cf : CallK) (fuel : Nat) (t0 : AV) (t1 : AV) (h : Hp) (K : AV → Hp → Prop) : s_slices_rotateRight_movetree_done cf fuel t0 t1 h K = deepT (tabOf Tryz.prog) f_slices_rotateRight_movetree_done cf fuel [t0, t1] h K :=
  Eq.trans (by kernel_rfl) (rFun (by kernel_rfl) rExact)

noncomputable def s_movetree_Tree_mayB23 (cf : CallK) (fuel : Nat) (K : AV → Hp → Prop) (t3 : AV) (t0 : AV) (h : Hp) : Prop :=
vNilck t0 h fun t27 h =>
vFaddr 0 t27 h fun t28 h =>
vLoad2 t28 h fun t29 h =>
vFaddr 4 t3 h fun t30 h =>
vLoadA 2 t30 h fun t31 h =>
vLookup Go.Am.eqPair true (.agg [(.bool .false), (.int .i64 0), (.int .i64 0), (.str 0 0)]) t29 t31 h fun t32 h =>
vExtract 0 t32 h fun t33 h =>
vExtract 1 t32 h fun t34 h =>
vBox 4 (.agg [(.bool .false), (.int .i64 0), (.int .i64 0), (.str 0 0)]) h fun t5 h =>
vLoad2 t28 h fun c _ => gd (sameV c t29) (
vLoadA 2 t30 h fun c _ => gd (sameV c t31) (
vLookup Go.Am.eqPair true (.agg [(.bool .false), (.int .i64 0), (.int .i64 0), (.str 0 0)]) t29 t31 h fun c _ => gd (sameV c t32) (
vStore 4 t5 t33 h fun _ h =>
joinG (fun g22 => grdV t34 true (vMov t0 h g22) (g22 undefV h)) fun t37 h =>
joinG (fun g21 => grdV t34 true (vFaddr 6 t3 h g21) (g21 undefV h)) fun t38 h =>
joinG (fun g20 => grdV t34 true (vLoadA 2 t38 h g20) (g20 undefV h)) fun t39 h =>
joinG (fun g19 => grdV t34 true (cf f_movetree_Tree_Dir [t37, t39] h g19) (g19 undefV h)) fun t40 h =>
vPick t34 t40 (.bool .false) h fun t41 h =>
joinG (fun g18 => grdV t41 true (vFaddr 6 t3 h g18) (g18 undefV h)) fun t43 h =>
joinG (fun g17 => grdV t41 true (vLoadA 2 t43 h g17) (g17 undefV h)) fun t44 h =>
joinG (fun g16 => grdV t41 true (vFaddr 4 t3 h g16) (g16 undefV h)) fun t45 h =>
joinG (fun g15 => grdV t41 true (vLoadA 2 t45 h g15) (g15 undefV h)) fun t46 h =>
joinG (fun g14 => grdV t41 true (vEq true eqPairS t44 t46 h g14) (g14 undefV h)) fun t47 h =>
vPick t41 t47 (.bool .false) h fun t48 h =>
joinG (fun g13 => grdV t48 true (vMov t0 h g13) (g13 undefV h)) fun t50 h =>
joinG (fun g12 => grdV t48 true (vFaddr 6 t3 h g12) (g12 undefV h)) fun t51 h =>
joinG (fun g11 => grdV t48 true (vLoadA 2 t51 h g11) (g11 undefV h)) fun t52 h =>
joinG (fun g10 => grdV t48 true (vFaddr 4 t3 h g10) (g10 undefV h)) fun t53 h =>
joinG (fun g9 => grdV t48 true (vLoadA 2 t53 h g9) (g9 undefV h)) fun t54 h =>
joinG (fun g8 => grdV t48 true (cf f_movetree_Tree_Below [t50, t52, t54] h g8) (g8 undefV h)) fun t55 h =>
joinG (fun g7 => grdV t48 true (vNot t55 h g7) (g7 undefV h)) fun t56 h =>
vPick t48 t56 (.bool .false) h fun t57 h =>
K t57 h)))
noncomputable def s_movetree_Tree_may (cf : CallK) (fuel : Nat) (t0 : AV) (t1 : AV) (h : Hp) (K : AV → Hp → Prop) : Prop :=
vBox 11 t1 h fun t3 h =>
vFaddr 3 t3 h fun t7 h =>
vLoad2 t7 h fun t8 h =>
(fun (e0 : Hp → Prop) =>
(fun (j1 : AV → Hp → Prop) =>
vEql t8 (.int .i64 1) h fun t10 h =>
vIf t10 (
j1 t10 h) (
vEql t8 (.int .i64 2) h fun t11 h =>
j1 t11 h)) fun t9 h =>
vIf t9 (
vFaddr 6 t3 h fun t13 h =>
vLoadA 2 t13 h fun t14 h =>
cf f_movetree_Tree_Dir [t0, t14] h fun t15 h =>
joinG (fun g6 => grdV t15 true (vMov t0 h g6) (g6 undefV h)) fun t17 h =>
joinG (fun g5 => grdV t15 true (vFaddr 4 t3 h g5) (g5 undefV h)) fun t18 h =>
joinG (fun g4 => grdV t15 true (vLoadA 2 t18 h g4) (g4 undefV h)) fun t19 h =>
joinG (fun g3 => grdV t15 true (cf f_movetree_Tree_Has [t17, t19] h g3) (g3 undefV h)) fun t20 h =>
joinG (fun g2 => grdV t15 true (vNot t20 h g2) (g2 undefV h)) fun t21 h =>
vPick t15 t21 (.bool .false) h fun t22 h =>
K t22 h) (
vEql t8 (.int .i64 3) h fun t24 h =>
vIf t24 (
s_movetree_Tree_mayB23 cf fuel K t3 t0 h) (
e0 h))) fun h =>
K (.bool .false) h
theorem s_movetree_Tree_may_eq (cf : CallK) (fuel : Nat) (t0 : AV) (t1 : AV) (h : Hp) (K : AV → Hp → Prop) : s_movetree_Tree_may cf fuel t0 t1 h K = deepT (tabOf Tryz.prog) f_movetree_Tree_may cf fuel [t0, t1] h K :=
  Eq.trans (by kernel_rfl) (rFun (by kernel_rfl) rExact)

noncomputable def s_strings_CountE0 (cf : CallK) (fuel : Nat) (K : AV → Hp → Prop) : Hp → Prop := fun h =>
K undefV h
noncomputable def s_strings_CountL1B (cf : CallK) (fuel : Nat) (K : AV → Hp → Prop) (t1 : AV) (ih1 : AV → AV → Hp → Prop) : AV → AV → Hp → Prop := fun t0 t5 h =>
(fun (e2 : AV → AV → Hp → Prop) =>
cf f_strings_Index [t0, t1] h fun t22 h =>
vEql t22 (.int .i64 (-1)) h fun t24 h =>
vIf t24 (
K t5 h) (
vAdd t5 (.int .i64 1) h fun t27 h =>
vLenS t1 h fun t31 h =>
vAdd t22 t31 h fun t32 h =>
vSliceS t0 (some t32) none h fun t33 h =>
e2 t33 t27 h)) fun t0 t5 h =>
ih1 t0 t5 h
noncomputable def s_strings_CountL1 (cf : CallK) (fuel : Nat) (K : AV → Hp → Prop) (t1 : AV) (m : Nat) : AV → AV → Hp → Prop := Nat.rec (motive := fun _ => AV → AV → Hp → Prop) (fun _ _ _ => False) (fun _ ih => s_strings_CountL1B cf fuel K t1 ih) m
theorem s_strings_CountL1_succ (cf : CallK) (fuel : Nat) (K : AV → Hp → Prop) (t1 : AV) (m : Nat) : s_strings_CountL1 cf fuel K t1 (m + 1) = s_strings_CountL1B cf fuel K t1 (s_strings_CountL1 cf fuel K t1 m) := rfl
noncomputable def s_strings_Count (cf : CallK) (fuel : Nat) (t0 : AV) (t1 : AV) (h : Hp) (K : AV → Hp → Prop) : Prop :=
vLenS t1 h fun t8 h =>
vEql t8 (.int .i64 0) h fun t9 h =>
vIf t9 (
cf f_unicode_utf8_RuneCountInString [t0] h fun t11 h =>
vAdd t11 (.int .i64 1) h fun t12 h =>
K t12 h) (
vLenS t1 h fun t14 h =>
vEql t14 (.int .i64 1) h fun t15 h =>
vIf t15 (
vIdxS t1 (.int .i64 0) h fun t18 h =>
vCntB t0 t18 h fun t19 h =>
K t19 h) (
(fun (e0 : Hp → Prop) =>
s_strings_CountL1 cf fuel K t1 fuel t0 (.int .i64 0) h) (s_strings_CountE0 cf fuel K)))
theorem s_strings_Count_eq (cf : CallK) (fuel : Nat) (t0 : AV) (t1 : AV) (h : Hp) (K : AV → Hp → Prop) : s_strings_Count cf fuel t0 t1 h K = deepT (tabOf Tryz.prog) f_strings_Count cf fuel [t0, t1] h K :=
  Eq.trans (by kernel_rfl) (rFun (by kernel_rfl) (rSeq (by kernel_rfl) (rSeq (by kernel_rfl) (rSeq (by kernel_rfl) (rSeq (by kernel_rfl) (rBlock (by kernel_rfl) (rLoop (by kernel_rfl) (fun m1 fr h => s_strings_CountL1 cf fuel K (getS fr (gpos 1)) m1 (getS fr (gpos 0)) (getS fr (gpos 5)) h) (funext fun fr => funext fun h => by kernel_rfl) fun m1 => rCast (funext fun fr => funext fun h => by kernel_rfl) rExact)) rExact) rExact) rExact) rExact))

noncomputable def s_strings_Index (cf : CallK) (fuel : Nat) (t0 : AV) (t1 : AV) (h : Hp) (K : AV → Hp → Prop) : Prop :=
cf f_int_stringslite_Index [t0, t1] h fun t7 h =>
K t7 h
theorem s_strings_Index_eq (cf : CallK) (fuel : Nat) (t0 : AV) (t1 : AV) (h : Hp) (K : AV → Hp → Prop) : s_strings_Index cf fuel t0 t1 h K = deepT (tabOf Tryz.prog) f_strings_Index cf fuel [t0, t1] h K :=
  Eq.trans (by kernel_rfl) (rFun (by kernel_rfl) rExact)

noncomputable def s_int_stringslite_Cut (cf : CallK) (fuel : Nat) (t0 : AV) (t1 : AV) (h : Hp) (K : AV → Hp → Prop) : Prop :=
cf f_int_stringslite_Index [t0, t1] h fun t10 h =>
vGeq t10 (.int .i64 0) h fun t12 h =>
vIf t12 (
vSliceS t0 none (some t10) h fun t15 h =>
vLenS t1 h fun t19 h =>
vAdd t10 t19 h fun t20 h =>
vSliceS t0 (some t20) none h fun t21 h =>
K (.tup [t15, t21, (.bool .true)]) h) (
K (.tup [t0, (.str 0 0), (.bool .false)]) h)
theorem s_int_stringslite_Cut_eq (cf : CallK) (fuel : Nat) (t0 : AV) (t1 : AV) (h : Hp) (K : AV → Hp → Prop) : s_int_stringslite_Cut cf fuel t0 t1 h K = deepT (tabOf Tryz.prog) f_int_stringslite_Cut cf fuel [t0, t1] h K :=
  Eq.trans (by kernel_rfl) (rFun (by kernel_rfl) rExact)

noncomputable def s_strconv_ParseInt (cf : CallK) (fuel : Nat) (t0 : AV) (t1 : AV) (t2 : AV) (h : Hp) (K : AV → Hp → Prop) : Prop :=
cf f_int_strconv_ParseInt [t0, t1, t2] h fun t13 h =>
vExtract 0 t13 h fun t14 h =>
vExtract 1 t13 h fun t15 h =>
vEq true (eqIf Tryz.prog true) t15 .niliface h fun t17 h =>
vIf t17 (
cf f_strconv_toError [(.str 8 8389723855915213136), t0, t1, t2, t15] h fun t23 h =>
K (.tup [t14, t23]) h) (
K (.tup [t14, .niliface]) h)
theorem s_strconv_ParseInt_eq (cf : CallK) (fuel : Nat) (t0 : AV) (t1 : AV) (t2 : AV) (h : Hp) (K : AV → Hp → Prop) : s_strconv_ParseInt cf fuel t0 t1 t2 h K = deepT (tabOf Tryz.prog) f_strconv_ParseInt cf fuel [t0, t1, t2] h K :=
  Eq.trans (by kernel_rfl) (rFun (by kernel_rfl) rExact)

noncomputable def s_strconv_Itoa (cf : CallK) (fuel : Nat) (t0 : AV) (h : Hp) (K : AV → Hp → Prop) : Prop :=
cf f_int_strconv_Itoa [t0] h fun t4 h =>
K t4 h
theorem s_strconv_Itoa_eq (cf : CallK) (fuel : Nat) (t0 : AV) (h : Hp) (K : AV → Hp → Prop) : s_strconv_Itoa cf fuel t0 h K = deepT (tabOf Tryz.prog) f_strconv_Itoa cf fuel [t0] h K :=
  Eq.trans (by kernel_rfl) (rFun (by kernel_rfl) rExact)

noncomputable def s_strings_shouldUseASCIISet (cf : CallK) (fuel : Nat) (t0 : AV) (h : Hp) (K : AV → Hp → Prop) : Prop :=
vGtr t0 (.int .i64 8) h fun t4 h =>
K t4 h
theorem s_strings_shouldUseASCIISet_eq (cf : CallK) (fuel : Nat) (t0 : AV) (h : Hp) (K : AV → Hp → Prop) : s_strings_shouldUseASCIISet cf fuel t0 h K = deepT (tabOf Tryz.prog) f_strings_shouldUseASCIISet cf fuel [t0] h K :=
  Eq.trans (by kernel_rfl) (rFun (by kernel_rfl) rExact)


end Go.Proofs.YtciipeallilmiaaGreatDoor.sh10
