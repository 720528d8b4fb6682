/- The Go functions' code as the abstract machine's, over values; each is the code that the machine makes of the program's (theorems s_.._eq). No condition. -/
import Derived.Test.YtciipeallilmiaaGreatDoorAmC
import Derived.Test.YtciipeallilmiaaGreatDoorProg
import Derived.KernelRfl
namespace Go.Proofs.YtciipeallilmiaaGreatDoor.sh13
open Go Go.Am Go.Proofs
set_option linter.unusedVariables false
set_option maxRecDepth 100000
abbrev f_clock_Less : Nat := 148
abbrev f_errors_New : Nat := 399
abbrev f_int_bytealg_hashStr_string : Nat := 395
abbrev f_int_strconv_lower : Nat := 396
abbrev f_int_strconv_underscoreOK : Nat := 397
abbrev f_int_stringslite_Clone : Nat := 398
abbrev f_movetree_Tree_Len : Nat := 434
abbrev f_oplog_rests_Less : Nat := 426
abbrev f_oplog_rests_Pop : Nat := 427
abbrev f_oplog_rests_Push : Nat := 428
abbrev f_oplog_rests_Swap : Nat := 429
abbrev f_session_waiting_Less : Nat := 430
abbrev f_session_waiting_Pop : Nat := 431
abbrev f_session_waiting_Push : Nat := 432
abbrev f_session_waiting_Swap : Nat := 433
abbrev f_slices_Reverse_localfs_object_localfs_object : Nat := 404
abbrev f_slices_Reverse_string_string : Nat := 403
abbrev f_slices_order2CmpFunc_api_ID : Nat := 400
abbrev f_slices_rotateLeft_localfs_object : Nat := 402
abbrev f_slices_rotateLeft_string : Nat := 401
abbrev f_slices_rotateRight_localfs_object : Nat := 393
abbrev f_view_View_Len : Nat := 424

noncomputable def s_slices_rotateRight_localfs_object (cf : CallK) (fuel : Nat) (t0 : AV) (t1 : AV) (h : Hp) (K : AV → Hp → Prop) : Prop :=
vLenL2 t0 h fun t6 h =>
vArith Go.Am.subI t6 t1 h fun t8 h =>
cf f_slices_rotateLeft_localfs_object [t0, t8] h fun t9 h =>
K (.tup []) h
theorem s_slices_rotateRight_localfs_object_eq (cf : CallK) (fuel : Nat) (t0 : AV) (t1 : AV) (h : Hp) (K : AV → Hp → Prop) : s_slices_rotateRight_localfs_object cf fuel t0 t1 h K = deepT (tabOf Tryz.prog) f_slices_rotateRight_localfs_object cf fuel [t0, t1] h K :=
  Eq.trans (by kernel_rfl) (rFun (by kernel_rfl) rExact)

noncomputable def s_int_strconv_lower (cf : CallK) (fuel : Nat) (t0 : AV) (h : Hp) (K : AV → Hp → Prop) : Prop :=
vBits Nat.lor t0 (.int .u8 32) h fun t4 h =>
K t4 h
theorem s_int_strconv_lower_eq (cf : CallK) (fuel : Nat) (t0 : AV) (h : Hp) (K : AV → Hp → Prop) : s_int_strconv_lower cf fuel t0 h K = deepT (tabOf Tryz.prog) f_int_strconv_lower cf fuel [t0] h K :=
  Eq.trans (by kernel_rfl) (rFun (by kernel_rfl) rExact)

noncomputable def s_int_stringslite_Clone (cf : CallK) (fuel : Nat) (t0 : AV) (h : Hp) (K : AV → Hp → Prop) : Prop :=
vLenS t0 h fun t5 h =>
vEql t5 (.int .i64 0) h fun t6 h =>
vIf t6 (
K (.str 0 0) h) (
vLenS t0 h fun t8 h =>
vMkSlice 1 1 true [(.int .u8 0)] t8 t8 h fun t9 h =>
vCopy 1 true t9 t0 h fun t12 h =>
False)
theorem s_int_stringslite_Clone_eq (cf : CallK) (fuel : Nat) (t0 : AV) (h : Hp) (K : AV → Hp → Prop) : s_int_stringslite_Clone cf fuel t0 h K = deepT (tabOf Tryz.prog) f_int_stringslite_Clone cf fuel [t0] h K :=
  Eq.trans (by kernel_rfl) (rFun (by kernel_rfl) rExact)

noncomputable def s_errors_New (cf : CallK) (fuel : Nat) (t0 : AV) (h : Hp) (K : AV → Hp → Prop) : Prop :=
vBuild [(.str 0 0)] [(0, 1, t0)] h fun t4 h =>
vBox 1 t4 h fun t5 h =>
vIface 481 t5 h fun t6 h =>
K t6 h
theorem s_errors_New_eq (cf : CallK) (fuel : Nat) (t0 : AV) (h : Hp) (K : AV → Hp → Prop) : s_errors_New cf fuel t0 h K = deepT (tabOf Tryz.prog) f_errors_New cf fuel [t0] h K :=
  Eq.trans (by kernel_rfl) (rFun (by kernel_rfl) rExact)

noncomputable def s_slices_rotateLeft_string (cf : CallK) (fuel : Nat) (t0 : AV) (t1 : AV) (h : Hp) (K : AV → Hp → Prop) : Prop :=
vSlice2 1 t0 none (some t1) h fun t6 h =>
cf f_slices_Reverse_string_string [t6] h fun t7 h =>
vSlice2 1 t0 (some t1) none h fun t10 h =>
cf f_slices_Reverse_string_string [t10] h fun t11 h =>
cf f_slices_Reverse_string_string [t0] h fun t13 h =>
K (.tup []) h
theorem s_slices_rotateLeft_string_eq (cf : CallK) (fuel : Nat) (t0 : AV) (t1 : AV) (h : Hp) (K : AV → Hp → Prop) : s_slices_rotateLeft_string cf fuel t0 t1 h K = deepT (tabOf Tryz.prog) f_slices_rotateLeft_string cf fuel [t0, t1] h K :=
  Eq.trans (by kernel_rfl) (rFun (by kernel_rfl) rExact)

noncomputable def s_slices_rotateLeft_localfs_object (cf : CallK) (fuel : Nat) (t0 : AV) (t1 : AV) (h : Hp) (K : AV → Hp → Prop) : Prop :=
vSlice2 1 t0 none (some t1) h fun t6 h =>
cf f_slices_Reverse_localfs_object_localfs_object [t6] h fun t7 h =>
vSlice2 1 t0 (some t1) none h fun t10 h =>
cf f_slices_Reverse_localfs_object_localfs_object [t10] h fun t11 h =>
cf f_slices_Reverse_localfs_object_localfs_object [t0] h fun t13 h =>
K (.tup []) h
theorem s_slices_rotateLeft_localfs_object_eq (cf : CallK) (fuel : Nat) (t0 : AV) (t1 : AV) (h : Hp) (K : AV → Hp → Prop) : s_slices_rotateLeft_localfs_object cf fuel t0 t1 h K = deepT (tabOf Tryz.prog) f_slices_rotateLeft_localfs_object cf fuel [t0, t1] h K :=
  Eq.trans (by kernel_rfl) (rFun (by kernel_rfl) rExact)

noncomputable def s_slices_Reverse_string_stringE0 (cf : CallK) (fuel : Nat) (K : AV → Hp → Prop) : Hp → Prop := fun h =>
K (.tup []) h
noncomputable def s_slices_Reverse_string_stringL1B (cf : CallK) (fuel : Nat) (e0 : Hp → Prop) (t0 : AV) (ih1 : AV → AV → Hp → Prop) : AV → AV → Hp → Prop := fun t2 t3 h =>
vLss t2 t3 h fun t9 h =>
vIf t9 (
(fun (e2 : Hp → Prop) =>
vIaddr 1 t0 t3 h fun t20 h =>
vLoad2 t20 h fun t21 h =>
vIaddr 1 t0 t2 h fun t24 h =>
vLoad2 t24 h fun t25 h =>
vIaddr 1 t0 t2 h fun t26 h =>
vStore 1 t26 t21 h fun _ h =>
vIaddr 1 t0 t3 h fun t27 h =>
vStore 1 t27 t25 h fun _ h =>
e2 h) fun h =>
vAdd t2 (.int .i64 1) h fun t11 h =>
vArith Go.Am.subI t3 (.int .i64 1) h fun t13 h =>
ih1 t11 t13 h) (
e0 h)
noncomputable def s_slices_Reverse_string_stringL1 (cf : CallK) (fuel : Nat) (e0 : Hp → Prop) (t0 : AV) (m : Nat) : AV → AV → Hp → Prop := Nat.rec (motive := fun _ => AV → AV → Hp → Prop) (fun _ _ _ => False) (fun _ ih => s_slices_Reverse_string_stringL1B cf fuel e0 t0 ih) m
theorem s_slices_Reverse_string_stringL1_succ (cf : CallK) (fuel : Nat) (e0 : Hp → Prop) (t0 : AV) (m : Nat) : s_slices_Reverse_string_stringL1 cf fuel e0 t0 (m + 1) = s_slices_Reverse_string_stringL1B cf fuel e0 t0 (s_slices_Reverse_string_stringL1 cf fuel e0 t0 m) := rfl
noncomputable def s_slices_Reverse_string_string (cf : CallK) (fuel : Nat) (t0 : AV) (h : Hp) (K : AV → Hp → Prop) : Prop :=
vLenL2 t0 h fun t5 h =>
vArith Go.Am.subI t5 (.int .i64 1) h fun t6 h =>
(fun (e0 : Hp → Prop) =>
s_slices_Reverse_string_stringL1 cf fuel (s_slices_Reverse_string_stringE0 cf fuel K) t0 fuel (.int .i64 0) t6 h) (s_slices_Reverse_string_stringE0 cf fuel K)
theorem s_slices_Reverse_string_string_eq (cf : CallK) (fuel : Nat) (t0 : AV) (h : Hp) (K : AV → Hp → Prop) : s_slices_Reverse_string_string cf fuel t0 h K = deepT (tabOf Tryz.prog) f_slices_Reverse_string_string cf fuel [t0] h K :=
  Eq.trans (by kernel_rfl) (rFun (by kernel_rfl) (rSeq (by kernel_rfl) (rBlock (by kernel_rfl) (rLoop (by kernel_rfl) (fun m1 fr h => s_slices_Reverse_string_stringL1 cf fuel (s_slices_Reverse_string_stringE0 cf fuel K) (getS fr (gpos 0)) m1 (getS fr (gpos 2)) (getS fr (gpos 3)) h) (funext fun fr => funext fun h => by kernel_rfl) fun m1 => rCast (funext fun fr => funext fun h => by kernel_rfl) rExact)) rExact))

noncomputable def s_slices_Reverse_localfs_object_localfs_objectE0 (cf : CallK) (fuel : Nat) (K : AV → Hp → Prop) : Hp → Prop := fun h =>
K (.tup []) h
noncomputable def s_slices_Reverse_localfs_object_localfs_objectL1B (cf : CallK) (fuel : Nat) (e0 : Hp → Prop) (t0 : AV) (ih1 : AV → AV → Hp → Prop) : AV → AV → Hp → Prop := fun t2 t3 h =>
vLss t2 t3 h fun t9 h =>
vIf t9 (
(fun (e2 : Hp → Prop) =>
vIaddr 1 t0 t3 h fun t20 h =>
vLoad2 t20 h fun t21 h =>
vIaddr 1 t0 t2 h fun t24 h =>
vLoad2 t24 h fun t25 h =>
vIaddr 1 t0 t2 h fun t26 h =>
vStore 1 t26 t21 h fun _ h =>
vIaddr 1 t0 t3 h fun t27 h =>
vStore 1 t27 t25 h fun _ h =>
e2 h) fun h =>
vAdd t2 (.int .i64 1) h fun t11 h =>
vArith Go.Am.subI t3 (.int .i64 1) h fun t13 h =>
ih1 t11 t13 h) (
e0 h)
noncomputable def s_slices_Reverse_localfs_object_localfs_objectL1 (cf : CallK) (fuel : Nat) (e0 : Hp → Prop) (t0 : AV) (m : Nat) : AV → AV → Hp → Prop := Nat.rec (motive := fun _ => AV → AV → Hp → Prop) (fun _ _ _ => False) (fun _ ih => s_slices_Reverse_localfs_object_localfs_objectL1B cf fuel e0 t0 ih) m
theorem s_slices_Reverse_localfs_object_localfs_objectL1_succ (cf : CallK) (fuel : Nat) (e0 : Hp → Prop) (t0 : AV) (m : Nat) : s_slices_Reverse_localfs_object_localfs_objectL1 cf fuel e0 t0 (m + 1) = s_slices_Reverse_localfs_object_localfs_objectL1B cf fuel e0 t0 (s_slices_Reverse_localfs_object_localfs_objectL1 cf fuel e0 t0 m) := rfl
noncomputable def s_slices_Reverse_localfs_object_localfs_object (cf : CallK) (fuel : Nat) (t0 : AV) (h : Hp) (K : AV → Hp → Prop) : Prop :=
vLenL2 t0 h fun t5 h =>
vArith Go.Am.subI t5 (.int .i64 1) h fun t6 h =>
(fun (e0 : Hp → Prop) =>
s_slices_Reverse_localfs_object_localfs_objectL1 cf fuel (s_slices_Reverse_localfs_object_localfs_objectE0 cf fuel K) t0 fuel (.int .i64 0) t6 h) (s_slices_Reverse_localfs_object_localfs_objectE0 cf fuel K)
theorem s_slices_Reverse_localfs_object_localfs_object_eq (cf : CallK) (fuel : Nat) (t0 : AV) (h : Hp) (K : AV → Hp → Prop) : s_slices_Reverse_localfs_object_localfs_object cf fuel t0 h K = deepT (tabOf Tryz.prog) f_slices_Reverse_localfs_object_localfs_object cf fuel [t0] h K :=
  Eq.trans (by kernel_rfl) (rFun (by kernel_rfl) (rSeq (by kernel_rfl) (rBlock (by kernel_rfl) (rLoop (by kernel_rfl) (fun m1 fr h => s_slices_Reverse_localfs_object_localfs_objectL1 cf fuel (s_slices_Reverse_localfs_object_localfs_objectE0 cf fuel K) (getS fr (gpos 0)) m1 (getS fr (gpos 2)) (getS fr (gpos 3)) h) (funext fun fr => funext fun h => by kernel_rfl) fun m1 => rCast (funext fun fr => funext fun h => by kernel_rfl) rExact)) rExact))

-- 417 FAILS no body
-- 418 FAILS no body
-- 419 FAILS no body
-- 420 FAILS no body
-- 421 FAILS no body
-- 422 FAILS no body
-- 423 FAILS no body
noncomputable def s_view_View_Len (cf : CallK) (fuel : Nat) (t0 : AV) (h : Hp) (K : AV → Hp → Prop) : Prop :=
vEq false eqP t0 .nilptr h fun t4 h =>
vIf t4 (
K (.int .i64 0) h) (
vNilck t0 h fun t6 h =>
vFaddr 2 t6 h fun t7 h =>
vLoad2 t7 h fun t8 h =>
K t8 h)
theorem s_view_View_Len_eq (cf : CallK) (fuel : Nat) (t0 : AV) (h : Hp) (K : AV → Hp → Prop) : s_view_View_Len cf fuel t0 h K = deepT (tabOf Tryz.prog) f_view_View_Len cf fuel [t0] h K :=
  Eq.trans (by kernel_rfl) (rFun (by kernel_rfl) rExact)

-- 425 FAILS no body
noncomputable def s_oplog_rests_Less (cf : CallK) (fuel : Nat) (t0 : AV) (t1 : AV) (t2 : AV) (h : Hp) (K : AV → Hp → Prop) : Prop :=
vIaddr 1 t0 t1 h fun t9 h =>
vLoad2 t9 h fun t10 h =>
vIaddr 11 t10 (.int .i64 0) h fun t11 h =>
vFaddr 0 t11 h fun t12 h =>
vLoadA 2 t12 h fun t13 h =>
vIaddr 1 t0 t2 h fun t16 h =>
vLoad2 t16 h fun t17 h =>
vIaddr 11 t17 (.int .i64 0) h fun t18 h =>
vFaddr 0 t18 h fun t19 h =>
vLoadA 2 t19 h fun t20 h =>
cf f_clock_Less [t13, t20] h fun t21 h =>
K t21 h
theorem s_oplog_rests_Less_eq (cf : CallK) (fuel : Nat) (t0 : AV) (t1 : AV) (t2 : AV) (h : Hp) (K : AV → Hp → Prop) : s_oplog_rests_Less cf fuel t0 t1 t2 h K = deepT (tabOf Tryz.prog) f_oplog_rests_Less cf fuel [t0, t1, t2] h K :=
  Eq.trans (by kernel_rfl) (rFun (by kernel_rfl) rExact)

noncomputable def s_oplog_rests_Pop (cf : CallK) (fuel : Nat) (t0 : AV) (h : Hp) (K : AV → Hp → Prop) : Prop :=
vNilck t0 h fun t6 h =>
vLoad2 t6 h fun t7 h =>
vLenL2 t7 h fun t10 h =>
vArith Go.Am.subI t10 (.int .i64 1) h fun t11 h =>
vIaddr 1 t7 t11 h fun t12 h =>
vLoad2 t12 h fun t13 h =>
vLenL2 t7 h fun t17 h =>
vArith Go.Am.subI t17 (.int .i64 1) h fun t18 h =>
vSlice2 1 t7 none (some t18) h fun t19 h =>
vNilck t0 h fun t20 h =>
vStore 1 t20 t19 h fun _ h =>
vIface 49 t13 h fun t22 h =>
K t22 h
theorem s_oplog_rests_Pop_eq (cf : CallK) (fuel : Nat) (t0 : AV) (h : Hp) (K : AV → Hp → Prop) : s_oplog_rests_Pop cf fuel t0 h K = deepT (tabOf Tryz.prog) f_oplog_rests_Pop cf fuel [t0] h K :=
  Eq.trans (by kernel_rfl) (rFun (by kernel_rfl) rExact)

noncomputable def s_oplog_rests_Push (cf : CallK) (fuel : Nat) (t0 : AV) (t1 : AV) (h : Hp) (K : AV → Hp → Prop) : Prop :=
vNilck t0 h fun t6 h =>
vLoad2 t6 h fun t7 h =>
vAssert 49 false .nilslice t1 h fun t9 h =>
vBslice 1 1 false [.nilslice] [(0, 1, t9)] h fun t10 h =>
vLoad2 t6 h fun c _ => gd (sameV c t7) (
vAppend2 1 24 false t7 t10 h fun t11 h =>
vNilck t0 h fun t12 h =>
vStore 1 t12 t11 h fun _ h =>
K (.tup []) h)
theorem s_oplog_rests_Push_eq (cf : CallK) (fuel : Nat) (t0 : AV) (t1 : AV) (h : Hp) (K : AV → Hp → Prop) : s_oplog_rests_Push cf fuel t0 t1 h K = deepT (tabOf Tryz.prog) f_oplog_rests_Push cf fuel [t0, t1] h K :=
  Eq.trans (by kernel_rfl) (rFun (by kernel_rfl) rExact)

noncomputable def s_oplog_rests_Swap (cf : CallK) (fuel : Nat) (t0 : AV) (t1 : AV) (t2 : AV) (h : Hp) (K : AV → Hp → Prop) : Prop :=
vIaddr 1 t0 t2 h fun t12 h =>
vLoad2 t12 h fun t13 h =>
vIaddr 1 t0 t1 h fun t16 h =>
vLoad2 t16 h fun t17 h =>
vIaddr 1 t0 t1 h fun t18 h =>
vStore 1 t18 t13 h fun _ h =>
vIaddr 1 t0 t2 h fun t19 h =>
vStore 1 t19 t17 h fun _ h =>
K (.tup []) h
theorem s_oplog_rests_Swap_eq (cf : CallK) (fuel : Nat) (t0 : AV) (t1 : AV) (t2 : AV) (h : Hp) (K : AV → Hp → Prop) : s_oplog_rests_Swap cf fuel t0 t1 t2 h K = deepT (tabOf Tryz.prog) f_oplog_rests_Swap cf fuel [t0, t1, t2] h K :=
  Eq.trans (by kernel_rfl) (rFun (by kernel_rfl) rExact)

noncomputable def s_movetree_Tree_Len (cf : CallK) (fuel : Nat) (t0 : AV) (h : Hp) (K : AV → Hp → Prop) : Prop :=
vEq false eqP t0 .nilptr h fun t4 h =>
vIf t4 (
K (.int .i64 0) h) (
vNilck t0 h fun t6 h =>
vFaddr 0 t6 h fun t7 h =>
vLoad2 t7 h fun t8 h =>
vLenM t8 h fun t9 h =>
K t9 h)
theorem s_movetree_Tree_Len_eq (cf : CallK) (fuel : Nat) (t0 : AV) (h : Hp) (K : AV → Hp → Prop) : s_movetree_Tree_Len cf fuel t0 h K = deepT (tabOf Tryz.prog) f_movetree_Tree_Len cf fuel [t0] h K :=
  Eq.trans (by kernel_rfl) (rFun (by kernel_rfl) rExact)


end Go.Proofs.YtciipeallilmiaaGreatDoor.sh13
