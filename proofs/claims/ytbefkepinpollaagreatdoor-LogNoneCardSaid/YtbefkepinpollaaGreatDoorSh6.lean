/- The Go functions' code as the abstract machine's, over values; each is the code that the machine makes of the program's (theorems s_.._eq). No condition. -/
import Derived.Test.YtbefkepinpollaaGreatDoorAmLoop
import Derived.Test.YtbefkepinpollaaGreatDoorProg
import Derived.KernelRfl
namespace Go.Proofs.YtbefkepinpollaaGreatDoor.sh6
open Go Go.Am Go.Proofs
set_option linter.unusedVariables false
set_option maxRecDepth 100000
abbrev f_clock_Less : Nat := 39
abbrev f_cmp_isNaN_string : Nat := 193
abbrev f_int_bytealg_Cutover : Nat := 183
abbrev f_int_stringslite_IndexByte : Nat := 194
abbrev f_math_bits_TrailingZeros32 : Nat := 191
abbrev f_math_bits_TrailingZeros64 : Nat := 192
abbrev f_oplog_rests_Less : Nat := 221
abbrev f_oplog_rests_Pop : Nat := 222
abbrev f_oplog_rests_Push : Nat := 223
abbrev f_oplog_rests_Swap : Nat := 224
abbrev f_slices_Clone_localfs_object_localfs_object : Nat := 186
abbrev f_slices_Clone_string_string : Nat := 185
abbrev f_slices_Delete_localfs_object_localfs_object : Nat := 188
abbrev f_slices_Delete_string_string : Nat := 187
abbrev f_slices_Insert_localfs_object_localfs_object : Nat := 190
abbrev f_slices_Insert_string_string : Nat := 189
abbrev f_slices_Reverse_localfs_object_localfs_object : Nat := 203
abbrev f_slices_Reverse_string_string : Nat := 202
abbrev f_slices_rotateLeft_localfs_object : Nat := 201
abbrev f_slices_rotateLeft_string : Nat := 200
abbrev f_slices_rotateRight_localfs_object : Nat := 198
abbrev f_slices_rotateRight_string : Nat := 196

noncomputable def s_int_bytealg_Cutover (cf : CallK) (fuel : Nat) (t0 : AV) (h : Hp) (K : AV → Hp → Prop) : Prop :=
vAdd t0 (.int .i64 16) h fun t4 h =>
vDiv false t4 (.int .i64 8) h fun t5 h =>
K t5 h
theorem s_int_bytealg_Cutover_eq (cf : CallK) (fuel : Nat) (t0 : AV) (h : Hp) (K : AV → Hp → Prop) : s_int_bytealg_Cutover cf fuel t0 h K = deepT (tabOf Tryz.prog) f_int_bytealg_Cutover cf fuel [t0] h K :=
  Eq.trans (by kernel_rfl) (rFun (by kernel_rfl) rExact)

-- 184 FAILS no body
noncomputable def s_slices_Clone_string_string (cf : CallK) (fuel : Nat) (t0 : AV) (h : Hp) (K : AV → Hp → Prop) : Prop :=
vEq false eqNS t0 .nilslice h fun t4 h =>
vIf t4 (
K .nilslice h) (
vBslice 1 0 false [(.str 0 0)] [] h fun t5 h =>
vAppend2 1 16 false t5 t0 h fun t7 h =>
K t7 h)
theorem s_slices_Clone_string_string_eq (cf : CallK) (fuel : Nat) (t0 : AV) (h : Hp) (K : AV → Hp → Prop) : s_slices_Clone_string_string cf fuel t0 h K = deepT (tabOf Tryz.prog) f_slices_Clone_string_string cf fuel [t0] h K :=
  Eq.trans (by kernel_rfl) (rFun (by kernel_rfl) rExact)

noncomputable def s_slices_Clone_localfs_object_localfs_object (cf : CallK) (fuel : Nat) (t0 : AV) (h : Hp) (K : AV → Hp → Prop) : Prop :=
vEq false eqNS t0 .nilslice h fun t4 h =>
vIf t4 (
K .nilslice h) (
vBslice 1 0 false [.nilptr] [] h fun t5 h =>
vAppend2 1 8 false t5 t0 h fun t7 h =>
K t7 h)
theorem s_slices_Clone_localfs_object_localfs_object_eq (cf : CallK) (fuel : Nat) (t0 : AV) (h : Hp) (K : AV → Hp → Prop) : s_slices_Clone_localfs_object_localfs_object cf fuel t0 h K = deepT (tabOf Tryz.prog) f_slices_Clone_localfs_object_localfs_object cf fuel [t0] h K :=
  Eq.trans (by kernel_rfl) (rFun (by kernel_rfl) rExact)

noncomputable def s_slices_Delete_string_string (cf : CallK) (fuel : Nat) (t0 : AV) (t1 : AV) (t2 : AV) (h : Hp) (K : AV → Hp → Prop) : Prop :=
vLenL2 t0 h fun t12 h =>
vSlice3 1 t0 (some t1) t2 t12 h fun t13 h =>
vEql t1 t2 h fun t16 h =>
vIf t16 (
K t0 h) (
vLenL2 t0 h fun t19 h =>
vSlice2 1 t0 none (some t1) h fun t22 h =>
vSlice2 1 t0 (some t2) none h fun t25 h =>
vAppend2 1 16 false t22 t25 h fun t26 h =>
False)
theorem s_slices_Delete_string_string_eq (cf : CallK) (fuel : Nat) (t0 : AV) (t1 : AV) (t2 : AV) (h : Hp) (K : AV → Hp → Prop) : s_slices_Delete_string_string cf fuel t0 t1 t2 h K = deepT (tabOf Tryz.prog) f_slices_Delete_string_string cf fuel [t0, t1, t2] h K :=
  Eq.trans (by kernel_rfl) (rFun (by kernel_rfl) rExact)

noncomputable def s_slices_Delete_localfs_object_localfs_object (cf : CallK) (fuel : Nat) (t0 : AV) (t1 : AV) (t2 : AV) (h : Hp) (K : AV → Hp → Prop) : Prop :=
vLenL2 t0 h fun t12 h =>
vSlice3 1 t0 (some t1) t2 t12 h fun t13 h =>
vEql t1 t2 h fun t16 h =>
vIf t16 (
K t0 h) (
vLenL2 t0 h fun t19 h =>
vSlice2 1 t0 none (some t1) h fun t22 h =>
vSlice2 1 t0 (some t2) none h fun t25 h =>
vAppend2 1 8 false t22 t25 h fun t26 h =>
False)
theorem s_slices_Delete_localfs_object_localfs_object_eq (cf : CallK) (fuel : Nat) (t0 : AV) (t1 : AV) (t2 : AV) (h : Hp) (K : AV → Hp → Prop) : s_slices_Delete_localfs_object_localfs_object cf fuel t0 t1 t2 h K = deepT (tabOf Tryz.prog) f_slices_Delete_localfs_object_localfs_object cf fuel [t0, t1, t2] h K :=
  Eq.trans (by kernel_rfl) (rFun (by kernel_rfl) rExact)

noncomputable def s_slices_Insert_string_string (cf : CallK) (fuel : Nat) (t0 : AV) (t1 : AV) (t2 : AV) (h : Hp) (K : AV → Hp → Prop) : Prop :=
vSlice2 1 t0 (some t1) none h fun t12 h =>
vLenL2 t2 h fun t14 h =>
vEql t14 (.int .i64 0) h fun t16 h =>
vIf t16 (
K t0 h) (
vLenL2 t0 h fun t19 h =>
vEql t1 t19 h fun t22 h =>
vIf t22 (
vAppend2 1 16 false t0 t2 h fun t25 h =>
K t25 h) (
False))
theorem s_slices_Insert_string_string_eq (cf : CallK) (fuel : Nat) (t0 : AV) (t1 : AV) (t2 : AV) (h : Hp) (K : AV → Hp → Prop) : s_slices_Insert_string_string cf fuel t0 t1 t2 h K = deepT (tabOf Tryz.prog) f_slices_Insert_string_string cf fuel [t0, t1, t2] h K :=
  Eq.trans (by kernel_rfl) (rFun (by kernel_rfl) rExact)

noncomputable def s_slices_Insert_localfs_object_localfs_object (cf : CallK) (fuel : Nat) (t0 : AV) (t1 : AV) (t2 : AV) (h : Hp) (K : AV → Hp → Prop) : Prop :=
vSlice2 1 t0 (some t1) none h fun t12 h =>
vLenL2 t2 h fun t14 h =>
vEql t14 (.int .i64 0) h fun t16 h =>
vIf t16 (
K t0 h) (
vLenL2 t0 h fun t19 h =>
vEql t1 t19 h fun t22 h =>
vIf t22 (
vAppend2 1 8 false t0 t2 h fun t25 h =>
K t25 h) (
False))
theorem s_slices_Insert_localfs_object_localfs_object_eq (cf : CallK) (fuel : Nat) (t0 : AV) (t1 : AV) (t2 : AV) (h : Hp) (K : AV → Hp → Prop) : s_slices_Insert_localfs_object_localfs_object cf fuel t0 t1 t2 h K = deepT (tabOf Tryz.prog) f_slices_Insert_localfs_object_localfs_object cf fuel [t0, t1, t2] h K :=
  Eq.trans (by kernel_rfl) (rFun (by kernel_rfl) rExact)

noncomputable def s_math_bits_TrailingZeros32 (cf : CallK) (fuel : Nat) (t0 : AV) (h : Hp) (K : AV → Hp → Prop) : Prop :=
vEql t0 (.int .u32 0) h fun t4 h =>
vIf t4 (
K (.int .i64 32) h) (
vNeg t0 h fun t7 h =>
vBits Nat.land t0 t7 h fun t8 h =>
vArith Go.Am.mulI t8 (.int .u32 125613361) h fun t9 h =>
vShr t9 (.int .u64 27) h fun t10 h =>
vIaddrA 1 32 (.gptr 2) t10 h fun t11 h =>
vLoad2 t11 h fun t12 h =>
vToInt .i64 t12 h fun t13 h =>
K t13 h)
theorem s_math_bits_TrailingZeros32_eq (cf : CallK) (fuel : Nat) (t0 : AV) (h : Hp) (K : AV → Hp → Prop) : s_math_bits_TrailingZeros32 cf fuel t0 h K = deepT (tabOf Tryz.prog) f_math_bits_TrailingZeros32 cf fuel [t0] h K :=
  Eq.trans (by kernel_rfl) (rFun (by kernel_rfl) rExact)

noncomputable def s_math_bits_TrailingZeros64 (cf : CallK) (fuel : Nat) (t0 : AV) (h : Hp) (K : AV → Hp → Prop) : Prop :=
vEql t0 (.int .u64 0) h fun t4 h =>
vIf t4 (
K (.int .i64 64) h) (
vNeg t0 h fun t7 h =>
vBits Nat.land t0 t7 h fun t8 h =>
vArith Go.Am.mulI t8 (.int .u64 285870213051353865) h fun t9 h =>
vShr t9 (.int .u64 58) h fun t10 h =>
vIaddrA 1 64 (.gptr 3) t10 h fun t11 h =>
vLoad2 t11 h fun t12 h =>
vToInt .i64 t12 h fun t13 h =>
K t13 h)
theorem s_math_bits_TrailingZeros64_eq (cf : CallK) (fuel : Nat) (t0 : AV) (h : Hp) (K : AV → Hp → Prop) : s_math_bits_TrailingZeros64 cf fuel t0 h K = deepT (tabOf Tryz.prog) f_math_bits_TrailingZeros64 cf fuel [t0] h K :=
  Eq.trans (by kernel_rfl) (rFun (by kernel_rfl) rExact)

noncomputable def s_cmp_isNaN_string (cf : CallK) (fuel : Nat) (t0 : AV) (h : Hp) (K : AV → Hp → Prop) : Prop :=
vNeq t0 t0 h fun t5 h =>
K t5 h
theorem s_cmp_isNaN_string_eq (cf : CallK) (fuel : Nat) (t0 : AV) (h : Hp) (K : AV → Hp → Prop) : s_cmp_isNaN_string cf fuel t0 h K = deepT (tabOf Tryz.prog) f_cmp_isNaN_string cf fuel [t0] h K :=
  Eq.trans (by kernel_rfl) (rFun (by kernel_rfl) rExact)

noncomputable def s_int_stringslite_IndexByte (cf : CallK) (fuel : Nat) (t0 : AV) (t1 : AV) (h : Hp) (K : AV → Hp → Prop) : Prop :=
vIdxB t0 t1 h fun t7 h =>
K t7 h
theorem s_int_stringslite_IndexByte_eq (cf : CallK) (fuel : Nat) (t0 : AV) (t1 : AV) (h : Hp) (K : AV → Hp → Prop) : s_int_stringslite_IndexByte cf fuel t0 t1 h K = deepT (tabOf Tryz.prog) f_int_stringslite_IndexByte cf fuel [t0, t1] h K :=
  Eq.trans (by kernel_rfl) (rFun (by kernel_rfl) rExact)

-- 195 FAILS no body
noncomputable def s_slices_rotateRight_string (cf : CallK) (fuel : Nat) (t0 : AV) (t1 : AV) (h : Hp) (K : AV → Hp → Prop) : Prop :=
vLenL2 t0 h fun t6 h =>
vArith Go.Am.subI t6 t1 h fun t8 h =>
cf f_slices_rotateLeft_string [t0, t8] h fun t9 h =>
K (.tup []) h
theorem s_slices_rotateRight_string_eq (cf : CallK) (fuel : Nat) (t0 : AV) (t1 : AV) (h : Hp) (K : AV → Hp → Prop) : s_slices_rotateRight_string cf fuel t0 t1 h K = deepT (tabOf Tryz.prog) f_slices_rotateRight_string cf fuel [t0, t1] h K :=
  Eq.trans (by kernel_rfl) (rFun (by kernel_rfl) rExact)

-- 197 FAILS no body
noncomputable def s_slices_rotateRight_localfs_object (cf : CallK) (fuel : Nat) (t0 : AV) (t1 : AV) (h : Hp) (K : AV → Hp → Prop) : Prop :=
vLenL2 t0 h fun t6 h =>
vArith Go.Am.subI t6 t1 h fun t8 h =>
cf f_slices_rotateLeft_localfs_object [t0, t8] h fun t9 h =>
K (.tup []) h
theorem s_slices_rotateRight_localfs_object_eq (cf : CallK) (fuel : Nat) (t0 : AV) (t1 : AV) (h : Hp) (K : AV → Hp → Prop) : s_slices_rotateRight_localfs_object cf fuel t0 t1 h K = deepT (tabOf Tryz.prog) f_slices_rotateRight_localfs_object cf fuel [t0, t1] h K :=
  Eq.trans (by kernel_rfl) (rFun (by kernel_rfl) rExact)

-- 199 FAILS no body
noncomputable def s_slices_rotateLeft_string (cf : CallK) (fuel : Nat) (t0 : AV) (t1 : AV) (h : Hp) (K : AV → Hp → Prop) : Prop :=
vSlice2 1 t0 none (some t1) h fun t6 h =>
cf f_slices_Reverse_string_string [t6] h fun t7 h =>
vSlice2 1 t0 (some t1) none h fun t10 h =>
cf f_slices_Reverse_string_string [t10] h fun t11 h =>
cf f_slices_Reverse_string_string [t0] h fun t13 h =>
K (.tup []) h
theorem s_slices_rotateLeft_string_eq (cf : CallK) (fuel : Nat) (t0 : AV) (t1 : AV) (h : Hp) (K : AV → Hp → Prop) : s_slices_rotateLeft_string cf fuel t0 t1 h K = deepT (tabOf Tryz.prog) f_slices_rotateLeft_string cf fuel [t0, t1] h K :=
  Eq.trans (by kernel_rfl) (rFun (by kernel_rfl) rExact)

noncomputable def s_slices_rotateLeft_localfs_object (cf : CallK) (fuel : Nat) (t0 : AV) (t1 : AV) (h : Hp) (K : AV → Hp → Prop) : Prop :=
vSlice2 1 t0 none (some t1) h fun t6 h =>
cf f_slices_Reverse_localfs_object_localfs_object [t6] h fun t7 h =>
vSlice2 1 t0 (some t1) none h fun t10 h =>
cf f_slices_Reverse_localfs_object_localfs_object [t10] h fun t11 h =>
cf f_slices_Reverse_localfs_object_localfs_object [t0] h fun t13 h =>
K (.tup []) h
theorem s_slices_rotateLeft_localfs_object_eq (cf : CallK) (fuel : Nat) (t0 : AV) (t1 : AV) (h : Hp) (K : AV → Hp → Prop) : s_slices_rotateLeft_localfs_object cf fuel t0 t1 h K = deepT (tabOf Tryz.prog) f_slices_rotateLeft_localfs_object cf fuel [t0, t1] h K :=
  Eq.trans (by kernel_rfl) (rFun (by kernel_rfl) rExact)

noncomputable def s_slices_Reverse_string_stringE0 (cf : CallK) (fuel : Nat) (K : AV → Hp → Prop) : Hp → Prop := fun h =>
K (.tup []) h
noncomputable def s_slices_Reverse_string_stringL1B (cf : CallK) (fuel : Nat) (e0 : Hp → Prop) (t0 : AV) (ih1 : AV → AV → Hp → Prop) : AV → AV → Hp → Prop := fun t2 t3 h =>
vLss t2 t3 h fun t9 h =>
vIf t9 (
(fun (e2 : Hp → Prop) =>
vIaddr 1 t0 t3 h fun t20 h =>
vLoad2 t20 h fun t21 h =>
vIaddr 1 t0 t2 h fun t24 h =>
vLoad2 t24 h fun t25 h =>
vIaddr 1 t0 t2 h fun t26 h =>
vStore 1 t26 t21 h fun _ h =>
vIaddr 1 t0 t3 h fun t27 h =>
vStore 1 t27 t25 h fun _ h =>
e2 h) fun h =>
vAdd t2 (.int .i64 1) h fun t11 h =>
vArith Go.Am.subI t3 (.int .i64 1) h fun t13 h =>
ih1 t11 t13 h) (
e0 h)
noncomputable def s_slices_Reverse_string_stringL1 (cf : CallK) (fuel : Nat) (e0 : Hp → Prop) (t0 : AV) (m : Nat) : AV → AV → Hp → Prop := Nat.rec (motive := fun _ => AV → AV → Hp → Prop) (fun _ _ _ => False) (fun _ ih => s_slices_Reverse_string_stringL1B cf fuel e0 t0 ih) m
theorem s_slices_Reverse_string_stringL1_succ (cf : CallK) (fuel : Nat) (e0 : Hp → Prop) (t0 : AV) (m : Nat) : s_slices_Reverse_string_stringL1 cf fuel e0 t0 (m + 1) = s_slices_Reverse_string_stringL1B cf fuel e0 t0 (s_slices_Reverse_string_stringL1 cf fuel e0 t0 m) := rfl
noncomputable def s_slices_Reverse_string_string (cf : CallK) (fuel : Nat) (t0 : AV) (h : Hp) (K : AV → Hp → Prop) : Prop :=
vLenL2 t0 h fun t5 h =>
vArith Go.Am.subI t5 (.int .i64 1) h fun t6 h =>
(fun (e0 : Hp → Prop) =>
s_slices_Reverse_string_stringL1 cf fuel (s_slices_Reverse_string_stringE0 cf fuel K) t0 fuel (.int .i64 0) t6 h) (s_slices_Reverse_string_stringE0 cf fuel K)
theorem s_slices_Reverse_string_string_eq (cf : CallK) (fuel : Nat) (t0 : AV) (h : Hp) (K : AV → Hp → Prop) : s_slices_Reverse_string_string cf fuel t0 h K = deepT (tabOf Tryz.prog) f_slices_Reverse_string_string cf fuel [t0] h K :=
  Eq.trans (by kernel_rfl) (rFun (by kernel_rfl) (rSeq (by kernel_rfl) (rBlock (by kernel_rfl) (rLoop (by kernel_rfl) (fun m1 fr h => s_slices_Reverse_string_stringL1 cf fuel (s_slices_Reverse_string_stringE0 cf fuel K) (getS fr (gpos 0)) m1 (getS fr (gpos 2)) (getS fr (gpos 3)) h) (funext fun fr => funext fun h => by kernel_rfl) fun m1 => rCast (funext fun fr => funext fun h => by kernel_rfl) rExact)) rExact))

noncomputable def s_slices_Reverse_localfs_object_localfs_objectE0 (cf : CallK) (fuel : Nat) (K : AV → Hp → Prop) : Hp → Prop := fun h =>
K (.tup []) h
noncomputable def s_slices_Reverse_localfs_object_localfs_objectL1B (cf : CallK) (fuel : Nat) (e0 : Hp → Prop) (t0 : AV) (ih1 : AV → AV → Hp → Prop) : AV → AV → Hp → Prop := fun t2 t3 h =>
vLss t2 t3 h fun t9 h =>
vIf t9 (
(fun (e2 : Hp → Prop) =>
vIaddr 1 t0 t3 h fun t20 h =>
vLoad2 t20 h fun t21 h =>
vIaddr 1 t0 t2 h fun t24 h =>
vLoad2 t24 h fun t25 h =>
vIaddr 1 t0 t2 h fun t26 h =>
vStore 1 t26 t21 h fun _ h =>
vIaddr 1 t0 t3 h fun t27 h =>
vStore 1 t27 t25 h fun _ h =>
e2 h) fun h =>
vAdd t2 (.int .i64 1) h fun t11 h =>
vArith Go.Am.subI t3 (.int .i64 1) h fun t13 h =>
ih1 t11 t13 h) (
e0 h)
noncomputable def s_slices_Reverse_localfs_object_localfs_objectL1 (cf : CallK) (fuel : Nat) (e0 : Hp → Prop) (t0 : AV) (m : Nat) : AV → AV → Hp → Prop := Nat.rec (motive := fun _ => AV → AV → Hp → Prop) (fun _ _ _ => False) (fun _ ih => s_slices_Reverse_localfs_object_localfs_objectL1B cf fuel e0 t0 ih) m
theorem s_slices_Reverse_localfs_object_localfs_objectL1_succ (cf : CallK) (fuel : Nat) (e0 : Hp → Prop) (t0 : AV) (m : Nat) : s_slices_Reverse_localfs_object_localfs_objectL1 cf fuel e0 t0 (m + 1) = s_slices_Reverse_localfs_object_localfs_objectL1B cf fuel e0 t0 (s_slices_Reverse_localfs_object_localfs_objectL1 cf fuel e0 t0 m) := rfl
noncomputable def s_slices_Reverse_localfs_object_localfs_object (cf : CallK) (fuel : Nat) (t0 : AV) (h : Hp) (K : AV → Hp → Prop) : Prop :=
vLenL2 t0 h fun t5 h =>
vArith Go.Am.subI t5 (.int .i64 1) h fun t6 h =>
(fun (e0 : Hp → Prop) =>
s_slices_Reverse_localfs_object_localfs_objectL1 cf fuel (s_slices_Reverse_localfs_object_localfs_objectE0 cf fuel K) t0 fuel (.int .i64 0) t6 h) (s_slices_Reverse_localfs_object_localfs_objectE0 cf fuel K)
theorem s_slices_Reverse_localfs_object_localfs_object_eq (cf : CallK) (fuel : Nat) (t0 : AV) (h : Hp) (K : AV → Hp → Prop) : s_slices_Reverse_localfs_object_localfs_object cf fuel t0 h K = deepT (tabOf Tryz.prog) f_slices_Reverse_localfs_object_localfs_object cf fuel [t0] h K :=
  Eq.trans (by kernel_rfl) (rFun (by kernel_rfl) (rSeq (by kernel_rfl) (rBlock (by kernel_rfl) (rLoop (by kernel_rfl) (fun m1 fr h => s_slices_Reverse_localfs_object_localfs_objectL1 cf fuel (s_slices_Reverse_localfs_object_localfs_objectE0 cf fuel K) (getS fr (gpos 0)) m1 (getS fr (gpos 2)) (getS fr (gpos 3)) h) (funext fun fr => funext fun h => by kernel_rfl) fun m1 => rCast (funext fun fr => funext fun h => by kernel_rfl) rExact)) rExact))

-- 216 FAILS no body
-- 217 FAILS no body
-- 218 FAILS no body
-- 219 FAILS no body
-- 220 FAILS no body
noncomputable def s_oplog_rests_Less (cf : CallK) (fuel : Nat) (t0 : AV) (t1 : AV) (t2 : AV) (h : Hp) (K : AV → Hp → Prop) : Prop :=
vIaddr 1 t0 t1 h fun t9 h =>
vLoad2 t9 h fun t10 h =>
vIaddr 11 t10 (.int .i64 0) h fun t11 h =>
vFaddr 0 t11 h fun t12 h =>
vLoadA 2 t12 h fun t13 h =>
vIaddr 1 t0 t2 h fun t16 h =>
vLoad2 t16 h fun t17 h =>
vIaddr 11 t17 (.int .i64 0) h fun t18 h =>
vFaddr 0 t18 h fun t19 h =>
vLoadA 2 t19 h fun t20 h =>
cf f_clock_Less [t13, t20] h fun t21 h =>
K t21 h
theorem s_oplog_rests_Less_eq (cf : CallK) (fuel : Nat) (t0 : AV) (t1 : AV) (t2 : AV) (h : Hp) (K : AV → Hp → Prop) : s_oplog_rests_Less cf fuel t0 t1 t2 h K = deepT (tabOf Tryz.prog) f_oplog_rests_Less cf fuel [t0, t1, t2] h K :=
  Eq.trans (by kernel_rfl) (rFun (by kernel_rfl) rExact)

noncomputable def s_oplog_rests_Pop (cf : CallK) (fuel : Nat) (t0 : AV) (h : Hp) (K : AV → Hp → Prop) : Prop :=
vNilck t0 h fun t6 h =>
vLoad2 t6 h fun t7 h =>
vLenL2 t7 h fun t10 h =>
vArith Go.Am.subI t10 (.int .i64 1) h fun t11 h =>
vIaddr 1 t7 t11 h fun t12 h =>
vLoad2 t12 h fun t13 h =>
vLenL2 t7 h fun t17 h =>
vArith Go.Am.subI t17 (.int .i64 1) h fun t18 h =>
vSlice2 1 t7 none (some t18) h fun t19 h =>
vNilck t0 h fun t20 h =>
vStore 1 t20 t19 h fun _ h =>
vIface 40 t13 h fun t22 h =>
K t22 h
theorem s_oplog_rests_Pop_eq (cf : CallK) (fuel : Nat) (t0 : AV) (h : Hp) (K : AV → Hp → Prop) : s_oplog_rests_Pop cf fuel t0 h K = deepT (tabOf Tryz.prog) f_oplog_rests_Pop cf fuel [t0] h K :=
  Eq.trans (by kernel_rfl) (rFun (by kernel_rfl) rExact)

noncomputable def s_oplog_rests_Push (cf : CallK) (fuel : Nat) (t0 : AV) (t1 : AV) (h : Hp) (K : AV → Hp → Prop) : Prop :=
vNilck t0 h fun t6 h =>
vLoad2 t6 h fun t7 h =>
vAssert 40 false .nilslice t1 h fun t9 h =>
vBslice 1 1 false [.nilslice] [(0, 1, t9)] h fun t10 h =>
vLoad2 t6 h fun c _ => gd (sameV c t7) (
vAppend2 1 24 false t7 t10 h fun t11 h =>
vNilck t0 h fun t12 h =>
vStore 1 t12 t11 h fun _ h =>
K (.tup []) h)
theorem s_oplog_rests_Push_eq (cf : CallK) (fuel : Nat) (t0 : AV) (t1 : AV) (h : Hp) (K : AV → Hp → Prop) : s_oplog_rests_Push cf fuel t0 t1 h K = deepT (tabOf Tryz.prog) f_oplog_rests_Push cf fuel [t0, t1] h K :=
  Eq.trans (by kernel_rfl) (rFun (by kernel_rfl) rExact)

noncomputable def s_oplog_rests_Swap (cf : CallK) (fuel : Nat) (t0 : AV) (t1 : AV) (t2 : AV) (h : Hp) (K : AV → Hp → Prop) : Prop :=
vIaddr 1 t0 t2 h fun t12 h =>
vLoad2 t12 h fun t13 h =>
vIaddr 1 t0 t1 h fun t16 h =>
vLoad2 t16 h fun t17 h =>
vIaddr 1 t0 t1 h fun t18 h =>
vStore 1 t18 t13 h fun _ h =>
vIaddr 1 t0 t2 h fun t19 h =>
vStore 1 t19 t17 h fun _ h =>
K (.tup []) h
theorem s_oplog_rests_Swap_eq (cf : CallK) (fuel : Nat) (t0 : AV) (t1 : AV) (t2 : AV) (h : Hp) (K : AV → Hp → Prop) : s_oplog_rests_Swap cf fuel t0 t1 t2 h K = deepT (tabOf Tryz.prog) f_oplog_rests_Swap cf fuel [t0, t1, t2] h K :=
  Eq.trans (by kernel_rfl) (rFun (by kernel_rfl) rExact)


end Go.Proofs.YtbefkepinpollaaGreatDoor.sh6
