/- The Go functions' code as the abstract machine's, over values; each is the code that the machine makes of the program's (theorems s_.._eq). No condition. -/
import Derived.Test.YtbefkepinpollaaGreatDoorAmLoop
import Derived.Test.YtbefkepinpollaaGreatDoorProg
import Derived.KernelRfl
namespace Go.Proofs.YtbefkepinpollaaGreatDoor.sh5
open Go Go.Am Go.Proofs
set_option linter.unusedVariables false
set_option maxRecDepth 100000
abbrev f_bytes_Clone : Nat := 49
abbrev f_cmp_Less_string : Nat := 174
abbrev f_cmp_isNaN_string : Nat := 193
abbrev f_crc_New : Nat := 177
abbrev f_crc_Of : Nat := 162
abbrev f_crc_Sum_Add : Nat := 179
abbrev f_crc_Sum_Value : Nat := 180
abbrev f_crc_each : Nat := 178
abbrev f_device_Device_Blocks : Nat := 91
abbrev f_device_Device_Read : Nat := 153
abbrev f_device_Device_done : Nat := 159
abbrev f_inode_Cost : Nat := 155
abbrev f_inode_blocks : Nat := 176
abbrev f_int_strconv_bool2_int : Nat := 171
abbrev f_int_strconv_isPowerOfTwo : Nat := 172
abbrev f_int_strconv_log10Pow2 : Nat := 169
abbrev f_int_stringslite_IndexByte : Nat := 194
abbrev f_lagoonref12_Local : Nat := 157
abbrev f_lagoonref4_Less : Nat := 156
abbrev f_lagoonref4_short : Nat := 158
abbrev f_localfs_folder : Nat := 118
abbrev f_localfs_object_with : Nat := 168
abbrev f_math_bits_Len64 : Nat := 170
abbrev f_math_bits_TrailingZeros : Nat := 173
abbrev f_math_bits_TrailingZeros32 : Nat := 191
abbrev f_math_bits_TrailingZeros64 : Nat := 192
abbrev f_slices_BinarySearch_string_string : Nat := 151
abbrev f_slices_Clone_localfs_object_localfs_object : Nat := 186
abbrev f_slices_Clone_string_string : Nat := 185
abbrev f_slices_Delete_localfs_object_localfs_object : Nat := 188
abbrev f_slices_Delete_string_string : Nat := 187
abbrev f_slices_Insert_localfs_object_localfs_object : Nat := 190
abbrev f_slices_Insert_string_string : Nat := 189
abbrev f_slices_isNaN_string : Nat := 175
abbrev f_strings_IndexByte : Nat := 181
abbrev f_strings_IndexRune : Nat := 163
abbrev f_strings_asciiSet_contains : Nat := 166
abbrev f_strings_makeASCIISet : Nat := 165
abbrev f_strings_shouldUseASCIISet : Nat := 164
abbrev f_unicode_utf8_ValidRune : Nat := 182
abbrev f_wal_Volume_may : Nat := 167
abbrev f_zbyte_Append32 : Nat := 161
abbrev f_zbyte_Append64 : Nat := 160
abbrev f_zbyte_Get64 : Nat := 154

noncomputable def s_device_Device_Read (cf : CallK) (fuel : Nat) (t0 : AV) (t1 : AV) (h : Hp) (K : AV → Hp → Prop) : Prop :=
(fun (e0 : Hp → Prop) =>
vLss t1 (.int .i64 0) h fun t8 h =>
joinG (fun g4 => grdV t8 false (vMov t1 h g4) (g4 undefV h)) fun t10 h =>
joinG (fun g3 => grdV t8 false (vMov t0 h g3) (g3 undefV h)) fun t11 h =>
joinG (fun g2 => grdV t8 false (cf f_device_Device_Blocks [t11] h g2) (g2 undefV h)) fun t12 h =>
joinG (fun g1 => grdV t8 false (vGeq t10 t12 h g1) (g1 undefV h)) fun t13 h =>
vPick t8 (.bool .true) t13 h fun t14 h =>
vIf t14 (
K (.tup [.nilslice, (.int .i64 22)]) h) (
vNilck t0 h fun t17 h =>
vFaddr 0 t17 h fun t18 h =>
vLoad2 t18 h fun t19 h =>
vIaddr 3 t19 t1 h fun t21 h =>
vFaddr 0 t21 h fun t22 h =>
vLoad2 t22 h fun t23 h =>
vEq false eqNS t23 .nilslice h fun t24 h =>
vIf t24 (
vMkSlice 1 1 true [(.int .u8 0)] (.int .i64 512) (.int .i64 512) h fun t25 h =>
K (.tup [t25, (.int .i64 0)]) h) (
e0 h))) fun h =>
vNilck t0 h fun t27 h =>
vFaddr 0 t27 h fun t28 h =>
vLoad2 t28 h fun t29 h =>
vIaddr 3 t29 t1 h fun t31 h =>
vFaddr 0 t31 h fun t32 h =>
vLoad2 t32 h fun t33 h =>
cf f_bytes_Clone [t33] h fun t34 h =>
K (.tup [t34, (.int .i64 0)]) h
theorem s_device_Device_Read_eq (cf : CallK) (fuel : Nat) (t0 : AV) (t1 : AV) (h : Hp) (K : AV → Hp → Prop) : s_device_Device_Read cf fuel t0 t1 h K = deepT (tabOf Tryz.prog) f_device_Device_Read cf fuel [t0, t1] h K :=
  Eq.trans (by kernel_rfl) (rFun (by kernel_rfl) rExact)

noncomputable def s_zbyte_Get64 (cf : CallK) (fuel : Nat) (t0 : AV) (h : Hp) (K : AV → Hp → Prop) : Prop :=
vIaddr 1 t0 (.int .i64 0) h fun t4 h =>
vLoad2 t4 h fun t5 h =>
vToInt .u64 t5 h fun t6 h =>
vIaddr 1 t0 (.int .i64 1) h fun t8 h =>
vLoad2 t8 h fun t9 h =>
vToInt .u64 t9 h fun t10 h =>
vShl t10 (.int .u64 8) h fun t11 h =>
vBits Nat.lor t6 t11 h fun t12 h =>
vIaddr 1 t0 (.int .i64 2) h fun t14 h =>
vLoad2 t14 h fun t15 h =>
vToInt .u64 t15 h fun t16 h =>
vShl t16 (.int .u64 16) h fun t17 h =>
vBits Nat.lor t12 t17 h fun t18 h =>
vIaddr 1 t0 (.int .i64 3) h fun t20 h =>
vLoad2 t20 h fun t21 h =>
vToInt .u64 t21 h fun t22 h =>
vShl t22 (.int .u64 24) h fun t23 h =>
vBits Nat.lor t18 t23 h fun t24 h =>
vIaddr 1 t0 (.int .i64 4) h fun t26 h =>
vLoad2 t26 h fun t27 h =>
vToInt .u64 t27 h fun t28 h =>
vShl t28 (.int .u64 32) h fun t29 h =>
vBits Nat.lor t24 t29 h fun t30 h =>
vIaddr 1 t0 (.int .i64 5) h fun t32 h =>
vLoad2 t32 h fun t33 h =>
vToInt .u64 t33 h fun t34 h =>
vShl t34 (.int .u64 40) h fun t35 h =>
vBits Nat.lor t30 t35 h fun t36 h =>
vIaddr 1 t0 (.int .i64 6) h fun t38 h =>
vLoad2 t38 h fun t39 h =>
vToInt .u64 t39 h fun t40 h =>
vShl t40 (.int .u64 48) h fun t41 h =>
vBits Nat.lor t36 t41 h fun t42 h =>
vIaddr 1 t0 (.int .i64 7) h fun t44 h =>
vLoad2 t44 h fun t45 h =>
vToInt .u64 t45 h fun t46 h =>
vShl t46 (.int .u64 56) h fun t47 h =>
vBits Nat.lor t42 t47 h fun t48 h =>
K t48 h
theorem s_zbyte_Get64_eq (cf : CallK) (fuel : Nat) (t0 : AV) (h : Hp) (K : AV → Hp → Prop) : s_zbyte_Get64 cf fuel t0 h K = deepT (tabOf Tryz.prog) f_zbyte_Get64 cf fuel [t0] h K :=
  Eq.trans (by kernel_rfl) (rFun (by kernel_rfl) rExact)

noncomputable def s_inode_CostB2 (cf : CallK) (fuel : Nat) (K : AV → Hp → Prop) (t0 : AV) (h : Hp) : Prop :=
cf f_inode_blocks [t0] h fun t12 h =>
(fun (j0 : AV → Hp → Prop) =>
vGtr t12 (.int .i64 8) h fun t15 h =>
vIf t15 (
vAdd t12 (.int .i64 1) h fun t17 h =>
j0 t17 h) (
j0 t12 h)) fun t4 h =>
(fun (j1 : AV → Hp → Prop) =>
vGtr t12 (.int .i64 72) h fun t19 h =>
vIf t19 (
vArith Go.Am.subI t12 (.int .i64 72) h fun t22 h =>
vAdd t22 (.int .i64 64) h fun t23 h =>
vArith Go.Am.subI t23 (.int .i64 1) h fun t24 h =>
vDiv false t24 (.int .i64 64) h fun t25 h =>
vAdd (.int .i64 1) t25 h fun t26 h =>
vAdd t4 t26 h fun t27 h =>
j1 t27 h) (
j1 t4 h)) fun t4 h =>
K t4 h
noncomputable def s_inode_Cost (cf : CallK) (fuel : Nat) (t0 : AV) (h : Hp) (K : AV → Hp → Prop) : Prop :=
vLss t0 (.int .i64 1) h fun t6 h =>
joinG (fun g4 => grdV t6 false (vMov t0 h g4) (g4 undefV h)) fun t8 h =>
joinG (fun g3 => grdV t6 false (vGtr t8 (.int .i64 65536) h g3) (g3 undefV h)) fun t9 h =>
vPick t6 (.bool .true) t9 h fun t10 h =>
vIf t10 (
K (.int .i64 0) h) (
s_inode_CostB2 cf fuel K t0 h)
theorem s_inode_Cost_eq (cf : CallK) (fuel : Nat) (t0 : AV) (h : Hp) (K : AV → Hp → Prop) : s_inode_Cost cf fuel t0 h K = deepT (tabOf Tryz.prog) f_inode_Cost cf fuel [t0] h K :=
  Eq.trans (by kernel_rfl) (rFun (by kernel_rfl) rExact)

noncomputable def s_lagoonref4_Less (cf : CallK) (fuel : Nat) (t0 : AV) (t1 : AV) (h : Hp) (K : AV → Hp → Prop) : Prop :=
vBox 2 t0 h fun t2 h =>
vBox 2 t1 h fun t3 h =>
vFaddr 0 t2 h fun t5 h =>
vLoad2 t5 h fun t6 h =>
vFaddr 0 t3 h fun t7 h =>
vLoad2 t7 h fun t8 h =>
vLss t6 t8 h fun t9 h =>
joinG (fun g11 => grdV t9 false (vFaddr 0 t2 h g11) (g11 undefV h)) fun t11 h =>
joinG (fun g10 => grdV t9 false (vLoad2 t11 h g10) (g10 undefV h)) fun t12 h =>
joinG (fun g9 => grdV t9 false (vFaddr 0 t3 h g9) (g9 undefV h)) fun t13 h =>
joinG (fun g8 => grdV t9 false (vLoad2 t13 h g8) (g8 undefV h)) fun t14 h =>
joinG (fun g7 => grdV t9 false (vEql t12 t14 h g7) (g7 undefV h)) fun t15 h =>
joinG (fun g6 => grdV t9 false (vMov t15 h g6) (g6 undefV h)) fun t16 h =>
joinG (fun g5 => grdV t16 true (vFaddr 1 t2 h g5) (g5 undefV h)) fun t17 h =>
joinG (fun g4 => grdV t16 true (vLoad2 t17 h g4) (g4 undefV h)) fun t18 h =>
joinG (fun g3 => grdV t16 true (vFaddr 1 t3 h g3) (g3 undefV h)) fun t19 h =>
joinG (fun g2 => grdV t16 true (vLoad2 t19 h g2) (g2 undefV h)) fun t20 h =>
joinG (fun g1 => grdV t16 true (vLss t18 t20 h g1) (g1 undefV h)) fun t21 h =>
joinG (fun g0 => grdV t9 false (vPick t16 t21 (.bool .false) h g0) (g0 undefV h)) fun t22 h =>
vPick t9 (.bool .true) t22 h fun t23 h =>
K t23 h
theorem s_lagoonref4_Less_eq (cf : CallK) (fuel : Nat) (t0 : AV) (t1 : AV) (h : Hp) (K : AV → Hp → Prop) : s_lagoonref4_Less cf fuel t0 t1 h K = deepT (tabOf Tryz.prog) f_lagoonref4_Less cf fuel [t0, t1] h K :=
  Eq.trans (by kernel_rfl) (rFun (by kernel_rfl) rExact)

noncomputable def s_lagoonref12_LocalE0 (cf : CallK) (fuel : Nat) (K : AV → Hp → Prop) (t0 : AV) : Hp → Prop := fun h =>
vLenS t0 h fun t31 h =>
vGtr t31 (.int .i64 64) h fun t32 h =>
vIf t32 (
K (.int .i64 36) h) (
K (.int .i64 0) h)
noncomputable def s_lagoonref12_LocalL1B (cf : CallK) (fuel : Nat) (K : AV → Hp → Prop) (e0 : Hp → Prop) (t0 : AV) (ih1 : AV → Hp → Prop) : AV → Hp → Prop := fun t3 h =>
vLenS t0 h fun t16 h =>
vLss t3 t16 h fun t17 h =>
vIf t17 (
(fun (e2 : Hp → Prop) =>
vIdxS t0 t3 h fun t22 h =>
vEql t22 (.int .u8 0) h fun t23 h =>
joinG (fun g6 => grdV t23 false (vMov t0 h g6) (g6 undefV h)) fun t25 h =>
joinG (fun g5 => grdV t23 false (vMov t3 h g5) (g5 undefV h)) fun t26 h =>
joinG (fun g4 => grdV t23 false (vIdxS t25 t26 h g4) (g4 undefV h)) fun t27 h =>
joinG (fun g3 => grdV t23 false (vEql t27 (.int .u8 47) h g3) (g3 undefV h)) fun t28 h =>
vPick t23 (.bool .true) t28 h fun t29 h =>
vIf t29 (
K (.int .i64 22) h) (
e2 h)) fun h =>
vAdd t3 (.int .i64 1) h fun t19 h =>
ih1 t19 h) (
e0 h)
noncomputable def s_lagoonref12_LocalL1 (cf : CallK) (fuel : Nat) (K : AV → Hp → Prop) (e0 : Hp → Prop) (t0 : AV) (m : Nat) : AV → Hp → Prop := Nat.rec (motive := fun _ => AV → Hp → Prop) (fun _ _ => False) (fun _ ih => s_lagoonref12_LocalL1B cf fuel K e0 t0 ih) m
theorem s_lagoonref12_LocalL1_succ (cf : CallK) (fuel : Nat) (K : AV → Hp → Prop) (e0 : Hp → Prop) (t0 : AV) (m : Nat) : s_lagoonref12_LocalL1 cf fuel K e0 t0 (m + 1) = s_lagoonref12_LocalL1B cf fuel K e0 t0 (s_lagoonref12_LocalL1 cf fuel K e0 t0 m) := rfl
noncomputable def s_lagoonref12_Local (cf : CallK) (fuel : Nat) (t0 : AV) (h : Hp) (K : AV → Hp → Prop) : Prop :=
vEql t0 (.str 0 0) h fun t5 h =>
joinG (fun g10 => grdV t5 false (vMov t0 h g10) (g10 undefV h)) fun t7 h =>
joinG (fun g9 => grdV t5 false (vEql t7 (.str 1 46) h g9) (g9 undefV h)) fun t8 h =>
vPick t5 (.bool .true) t8 h fun t9 h =>
joinG (fun g8 => grdV t9 false (vMov t0 h g8) (g8 undefV h)) fun t11 h =>
joinG (fun g7 => grdV t9 false (vEql t11 (.str 2 11822) h g7) (g7 undefV h)) fun t12 h =>
vPick t9 (.bool .true) t12 h fun t13 h =>
vIf t13 (
K (.int .i64 22) h) (
(fun (e0 : Hp → Prop) =>
s_lagoonref12_LocalL1 cf fuel K (s_lagoonref12_LocalE0 cf fuel K t0) t0 fuel (.int .i64 0) h) (s_lagoonref12_LocalE0 cf fuel K t0))
theorem s_lagoonref12_Local_eq (cf : CallK) (fuel : Nat) (t0 : AV) (h : Hp) (K : AV → Hp → Prop) : s_lagoonref12_Local cf fuel t0 h K = deepT (tabOf Tryz.prog) f_lagoonref12_Local cf fuel [t0] h K :=
  Eq.trans (by kernel_rfl) (rFun (by kernel_rfl) (rSeq (by kernel_rfl) (rSeq (by kernel_rfl) (rSeq (by kernel_rfl) rExact (rSeq (by kernel_rfl) (rBlock (by kernel_rfl) (rLoop (by kernel_rfl) (fun m1 fr h => s_lagoonref12_LocalL1 cf fuel K (s_lagoonref12_LocalE0 cf fuel K (getS fr (gpos 0))) (getS fr (gpos 0)) m1 (getS fr (gpos 3)) h) (funext fun fr => funext fun h => by kernel_rfl) fun m1 => rCast (funext fun fr => funext fun h => by kernel_rfl) rExact)) rExact)) rExact) rExact))

noncomputable def s_lagoonref4_shortE0 (cf : CallK) (fuel : Nat) (K : AV → Hp → Prop) (t0 : AV) : AV → Hp → Prop := fun t3 h =>
vSlice3 1 t0 none t3 t3 h fun t21 h =>
K t21 h
noncomputable def s_lagoonref4_shortL1B (cf : CallK) (fuel : Nat) (e0 : AV → Hp → Prop) (t0 : AV) (ih1 : AV → Hp → Prop) : AV → Hp → Prop := fun t3 h =>
vGtr t3 (.int .i64 0) h fun t7 h =>
joinG (fun g9 => grdV t7 true (vMov t0 h g9) (g9 undefV h)) fun t9 h =>
joinG (fun g8 => grdV t7 true (vMov t3 h g8) (g8 undefV h)) fun t10 h =>
joinG (fun g7 => grdV t7 true (vArith Go.Am.subI t10 (.int .i64 1) h g7) (g7 undefV h)) fun t11 h =>
joinG (fun g6 => grdV t7 true (vIaddr 1 t9 t11 h g6) (g6 undefV h)) fun t12 h =>
joinG (fun g5 => grdV t7 true (vLoad2 t12 h g5) (g5 undefV h)) fun t13 h =>
joinG (fun g4 => grdV t7 true (vEql t13 (.int .i64 0) h g4) (g4 undefV h)) fun t14 h =>
vPick t7 t14 (.bool .false) h fun t15 h =>
vIf t15 (
(fun (e2 : AV → Hp → Prop) =>
vArith Go.Am.subI t3 (.int .i64 1) h fun t17 h =>
e2 t17 h) fun t3_3 h =>
ih1 t3_3 h) (
e0 t3 h)
noncomputable def s_lagoonref4_shortL1 (cf : CallK) (fuel : Nat) (e0 : AV → Hp → Prop) (t0 : AV) (m : Nat) : AV → Hp → Prop := Nat.rec (motive := fun _ => AV → Hp → Prop) (fun _ _ => False) (fun _ ih => s_lagoonref4_shortL1B cf fuel e0 t0 ih) m
theorem s_lagoonref4_shortL1_succ (cf : CallK) (fuel : Nat) (e0 : AV → Hp → Prop) (t0 : AV) (m : Nat) : s_lagoonref4_shortL1 cf fuel e0 t0 (m + 1) = s_lagoonref4_shortL1B cf fuel e0 t0 (s_lagoonref4_shortL1 cf fuel e0 t0 m) := rfl
noncomputable def s_lagoonref4_short (cf : CallK) (fuel : Nat) (t0 : AV) (h : Hp) (K : AV → Hp → Prop) : Prop :=
vLenL2 t0 h fun t5 h =>
(fun (e0 : AV → Hp → Prop) =>
s_lagoonref4_shortL1 cf fuel (s_lagoonref4_shortE0 cf fuel K t0) t0 fuel t5 h) (s_lagoonref4_shortE0 cf fuel K t0)
theorem s_lagoonref4_short_eq (cf : CallK) (fuel : Nat) (t0 : AV) (h : Hp) (K : AV → Hp → Prop) : s_lagoonref4_short cf fuel t0 h K = deepT (tabOf Tryz.prog) f_lagoonref4_short cf fuel [t0] h K :=
  Eq.trans (by kernel_rfl) (rFun (by kernel_rfl) (rSeq (by kernel_rfl) (rSeq (by kernel_rfl) (rSeq (by kernel_rfl) rExact (rBlock (by kernel_rfl) (rLoop (by kernel_rfl) (fun m1 fr h => s_lagoonref4_shortL1 cf fuel (s_lagoonref4_shortE0 cf fuel K (getS fr (gpos 0))) (getS fr (gpos 0)) m1 (getS fr (gpos 3)) h) (funext fun fr => funext fun h => by kernel_rfl) fun m1 => rCast (funext fun fr => funext fun h => by kernel_rfl) rExact))) rExact) rExact))

noncomputable def s_device_Device_doneB1 (cf : CallK) (fuel : Nat) (j0 : Hp → Prop) (t0 : AV) (h : Hp) : Prop :=
vNilck t0 h fun t15 h =>
vFaddr 2 t15 h fun t16 h =>
vLoad2 t16 h fun t17 h =>
vArith Go.Am.subI t17 (.int .i64 1) h fun t18 h =>
vNilck t0 h fun t19 h =>
vFaddr 2 t19 h fun t20 h =>
vStore 1 t20 t18 h fun _ h =>
vNilck t0 h fun t23 h =>
vFaddr 2 t23 h fun t24 h =>
vLoad2 t24 h fun t25 h =>
vLss t25 (.int .i64 1) h fun t26 h =>
vNilck t0 h fun t27 h =>
vFaddr 3 t27 h fun t28 h =>
vStore 1 t28 t26 h fun _ h =>
j0 h
noncomputable def s_device_Device_done (cf : CallK) (fuel : Nat) (t0 : AV) (h : Hp) (K : AV → Hp → Prop) : Prop :=
vNilck t0 h fun t4 h =>
vFaddr 4 t4 h fun t5 h =>
vLoad2 t5 h fun t6 h =>
vAdd t6 (.int .i64 1) h fun t7 h =>
vNilck t0 h fun t8 h =>
vFaddr 4 t8 h fun t9 h =>
vStore 1 t9 t7 h fun _ h =>
(fun (j0 : Hp → Prop) =>
vNilck t0 h fun t11 h =>
vFaddr 1 t11 h fun t12 h =>
vLoad2 t12 h fun t13 h =>
vIf t13 (
s_device_Device_doneB1 cf fuel j0 t0 h) (
j0 h)) fun h =>
K (.int .i64 0) h
theorem s_device_Device_done_eq (cf : CallK) (fuel : Nat) (t0 : AV) (h : Hp) (K : AV → Hp → Prop) : s_device_Device_done cf fuel t0 h K = deepT (tabOf Tryz.prog) f_device_Device_done cf fuel [t0] h K :=
  Eq.trans (by kernel_rfl) (rFun (by kernel_rfl) rExact)

noncomputable def s_zbyte_Append64 (cf : CallK) (fuel : Nat) (t0 : AV) (t1 : AV) (h : Hp) (K : AV → Hp → Prop) : Prop :=
vToInt .u8 t1 h fun t7 h =>
vShr t1 (.int .u64 8) h fun t9 h =>
vToInt .u8 t9 h fun t10 h =>
vShr t1 (.int .u64 16) h fun t12 h =>
vToInt .u8 t12 h fun t13 h =>
vShr t1 (.int .u64 24) h fun t15 h =>
vToInt .u8 t15 h fun t16 h =>
vShr t1 (.int .u64 32) h fun t18 h =>
vToInt .u8 t18 h fun t19 h =>
vShr t1 (.int .u64 40) h fun t21 h =>
vToInt .u8 t21 h fun t22 h =>
vShr t1 (.int .u64 48) h fun t24 h =>
vToInt .u8 t24 h fun t25 h =>
vShr t1 (.int .u64 56) h fun t27 h =>
vToInt .u8 t27 h fun t28 h =>
vBslice 1 8 true [(.int .u8 0)] [(0, 1, t7), (1, 1, t10), (2, 1, t13), (3, 1, t16), (4, 1, t19), (5, 1, t22), (6, 1, t25), (7, 1, t28)] h fun t29 h =>
vAppend2 1 1 true t0 t29 h fun t30 h =>
K t30 h
theorem s_zbyte_Append64_eq (cf : CallK) (fuel : Nat) (t0 : AV) (t1 : AV) (h : Hp) (K : AV → Hp → Prop) : s_zbyte_Append64 cf fuel t0 t1 h K = deepT (tabOf Tryz.prog) f_zbyte_Append64 cf fuel [t0, t1] h K :=
  Eq.trans (by kernel_rfl) (rFun (by kernel_rfl) rExact)

noncomputable def s_zbyte_Append32 (cf : CallK) (fuel : Nat) (t0 : AV) (t1 : AV) (h : Hp) (K : AV → Hp → Prop) : Prop :=
vToInt .u8 t1 h fun t7 h =>
vShr t1 (.int .u64 8) h fun t9 h =>
vToInt .u8 t9 h fun t10 h =>
vShr t1 (.int .u64 16) h fun t12 h =>
vToInt .u8 t12 h fun t13 h =>
vShr t1 (.int .u64 24) h fun t15 h =>
vToInt .u8 t15 h fun t16 h =>
vBslice 1 4 true [(.int .u8 0)] [(0, 1, t7), (1, 1, t10), (2, 1, t13), (3, 1, t16)] h fun t17 h =>
vAppend2 1 1 true t0 t17 h fun t18 h =>
K t18 h
theorem s_zbyte_Append32_eq (cf : CallK) (fuel : Nat) (t0 : AV) (t1 : AV) (h : Hp) (K : AV → Hp → Prop) : s_zbyte_Append32 cf fuel t0 t1 h K = deepT (tabOf Tryz.prog) f_zbyte_Append32 cf fuel [t0, t1] h K :=
  Eq.trans (by kernel_rfl) (rFun (by kernel_rfl) rExact)

noncomputable def s_crc_Of (cf : CallK) (fuel : Nat) (t0 : AV) (h : Hp) (K : AV → Hp → Prop) : Prop :=
cf f_crc_New [] h fun t4 h =>
vFunc 179 [t4] [] h fun t7 h =>
cf f_crc_each [t0, t7] h fun t8 h =>
cf f_crc_Sum_Value [t4] h fun t10 h =>
K t10 h
theorem s_crc_Of_eq (cf : CallK) (fuel : Nat) (t0 : AV) (h : Hp) (K : AV → Hp → Prop) : s_crc_Of cf fuel t0 h K = deepT (tabOf Tryz.prog) f_crc_Of cf fuel [t0] h K :=
  Eq.trans (by kernel_rfl) (rFun (by kernel_rfl) rExact)

noncomputable def s_strings_IndexRuneE0 (cf : CallK) (fuel : Nat) (K : AV → Hp → Prop) : Hp → Prop := fun h =>
K undefV h
noncomputable def s_strings_IndexRuneE1 (cf : CallK) (fuel : Nat) (K : AV → Hp → Prop) : Hp → Prop := fun h =>
K (.int .i64 (-1)) h
noncomputable def s_strings_IndexRuneL2B (cf : CallK) (fuel : Nat) (K : AV → Hp → Prop) (e1 : Hp → Prop) (t175 : AV) (ih2 : Hp → Prop) : Hp → Prop := fun h =>
vNextS t175 h fun t176 h =>
vExtract 0 t176 h fun t177 h =>
vIf t177 (
(fun (e3 : Hp → Prop) =>
vExtract 1 t176 h fun t178 h =>
vExtract 2 t176 h fun t179 h =>
vEql t179 (.int .i32 65533) h fun t181 h =>
vIf t181 (
K t178 h) (
e3 h)) fun h =>
ih2 h) (
e1 h)
noncomputable def s_strings_IndexRuneL2 (cf : CallK) (fuel : Nat) (K : AV → Hp → Prop) (e1 : Hp → Prop) (t175 : AV) (m : Nat) : Hp → Prop := Nat.rec (motive := fun _ => Hp → Prop) (fun _ => False) (fun _ ih => s_strings_IndexRuneL2B cf fuel K e1 t175 ih) m
theorem s_strings_IndexRuneL2_succ (cf : CallK) (fuel : Nat) (K : AV → Hp → Prop) (e1 : Hp → Prop) (t175 : AV) (m : Nat) : s_strings_IndexRuneL2 cf fuel K e1 t175 (m + 1) = s_strings_IndexRuneL2B cf fuel K e1 t175 (s_strings_IndexRuneL2 cf fuel K e1 t175 m) := rfl
noncomputable def s_strings_IndexRuneE4 (cf : CallK) (fuel : Nat) (K : AV → Hp → Prop) : Hp → Prop := fun h =>
K (.int .i64 (-1)) h
noncomputable def s_strings_IndexRuneE6 (cf : CallK) (fuel : Nat) (ih5 : AV → Hp → Prop) (t0 : AV) (t7 : AV) (t8 : AV) : AV → Hp → Prop := fun t9 h =>
ih5 t9 h
noncomputable def s_strings_IndexRuneE9 (cf : CallK) (fuel : Nat) (K : AV → Hp → Prop) (t8 : AV) (t9 : AV) : Hp → Prop := fun h =>
vArith Go.Am.subI t9 t8 h fun t67 h =>
K t67 h
noncomputable def s_strings_IndexRuneL10B (cf : CallK) (fuel : Nat) (e9 : Hp → Prop) (t0 : AV) (t7 : AV) (t8 : AV) (t9 : AV) (ih10 : AV → Hp → Prop) : AV → Hp → Prop := fun t12 h =>
vLenS t7 h fun t50 h =>
vLss t12 t50 h fun t51 h =>
vIf t51 (
(fun (e11 : Hp → Prop) =>
vArith Go.Am.subI t9 t12 h fun t57 h =>
vIdxS t0 t57 h fun t58 h =>
vArith Go.Am.subI t8 t12 h fun t62 h =>
vIdxS t7 t62 h fun t63 h =>
vNeq t58 t63 h fun t64 h =>
vIf t64 (
False) (
e11 h)) fun h =>
vAdd t12 (.int .i64 1) h fun t53 h =>
ih10 t53 h) (
e9 h)
noncomputable def s_strings_IndexRuneL10 (cf : CallK) (fuel : Nat) (e9 : Hp → Prop) (t0 : AV) (t7 : AV) (t8 : AV) (t9 : AV) (m : Nat) : AV → Hp → Prop := Nat.rec (motive := fun _ => AV → Hp → Prop) (fun _ _ => False) (fun _ ih => s_strings_IndexRuneL10B cf fuel e9 t0 t7 t8 t9 ih) m
theorem s_strings_IndexRuneL10_succ (cf : CallK) (fuel : Nat) (e9 : Hp → Prop) (t0 : AV) (t7 : AV) (t8 : AV) (t9 : AV) (m : Nat) : s_strings_IndexRuneL10 cf fuel e9 t0 t7 t8 t9 (m + 1) = s_strings_IndexRuneL10B cf fuel e9 t0 t7 t8 t9 (s_strings_IndexRuneL10 cf fuel e9 t0 t7 t8 t9 m) := rfl
noncomputable def s_strings_IndexRuneB12 (cf : CallK) (fuel : Nat) (K : AV → Hp → Prop) (ih5 : AV → Hp → Prop) (t0 : AV) (t9 : AV) (t7 : AV) (t8 : AV) (h : Hp) : Prop :=
(fun (e6 : AV → Hp → Prop) =>
(fun (j7 : AV → Hp → Prop) =>
vIdxS t0 t9 h fun t29 h =>
vIdxS t7 t8 h fun t32 h =>
vNeq t29 t32 h fun t33 h =>
vIf t33 (
vAdd t9 (.int .i64 1) h fun t36 h =>
vSliceS t0 (some t36) none h fun t37 h =>
vIdxS t7 t8 h fun t40 h =>
cf f_strings_IndexByte [t37, t40] h fun t41 h =>
vLss t41 (.int .i64 0) h fun t43 h =>
vIf t43 (
K (.int .i64 (-1)) h) (
vAdd t41 (.int .i64 1) h fun t46 h =>
vAdd t9 t46 h fun t47 h =>
j7 t47 h)) (
j7 t9 h)) fun t9_8 h =>
(fun (e9 : Hp → Prop) =>
s_strings_IndexRuneL10 cf fuel (s_strings_IndexRuneE9 cf fuel K t8 t9_8) t0 t7 t8 t9_8 fuel (.int .i64 1) h) (s_strings_IndexRuneE9 cf fuel K t8 t9_8)) (s_strings_IndexRuneE6 cf fuel ih5 t0 t7 t8)
noncomputable def s_strings_IndexRuneL5B (cf : CallK) (fuel : Nat) (K : AV → Hp → Prop) (e4 : Hp → Prop) (t0 : AV) (t7 : AV) (t8 : AV) (ih5 : AV → Hp → Prop) : AV → Hp → Prop := fun t9 h =>
vLenS t0 h fun t25 h =>
vLss t9 t25 h fun t26 h =>
vIf t26 (
s_strings_IndexRuneB12 cf fuel K ih5 t0 t9 t7 t8 h) (
e4 h)
noncomputable def s_strings_IndexRuneL5 (cf : CallK) (fuel : Nat) (K : AV → Hp → Prop) (e4 : Hp → Prop) (t0 : AV) (t7 : AV) (t8 : AV) (m : Nat) : AV → Hp → Prop := Nat.rec (motive := fun _ => AV → Hp → Prop) (fun _ _ => False) (fun _ ih => s_strings_IndexRuneL5B cf fuel K e4 t0 t7 t8 ih) m
theorem s_strings_IndexRuneL5_succ (cf : CallK) (fuel : Nat) (K : AV → Hp → Prop) (e4 : Hp → Prop) (t0 : AV) (t7 : AV) (t8 : AV) (m : Nat) : s_strings_IndexRuneL5 cf fuel K e4 t0 t7 t8 (m + 1) = s_strings_IndexRuneL5B cf fuel K e4 t0 t7 t8 (s_strings_IndexRuneL5 cf fuel K e4 t0 t7 t8 m) := rfl
noncomputable def s_strings_IndexRune (cf : CallK) (fuel : Nat) (t0 : AV) (t1 : AV) (h : Hp) (K : AV → Hp → Prop) : Prop :=
(fun (e0 : Hp → Prop) =>
vLeq (.int .i32 0) t1 h fun t162 h =>
joinG (fun g14 => grdV t162 true (vMov t1 h g14) (g14 undefV h)) fun t164 h =>
joinG (fun g13 => grdV t162 true (vLss t164 (.int .i32 128) h g13) (g13 undefV h)) fun t165 h =>
vPick t162 t165 (.bool .false) h fun t166 h =>
vIf t166 (
vToInt .u8 t1 h fun t169 h =>
cf f_strings_IndexByte [t0, t169] h fun t170 h =>
K t170 h) (
vEql t1 (.int .i32 65533) h fun t173 h =>
vIf t173 (
vRangeS t0 h fun t175 h =>
(fun (e1 : Hp → Prop) =>
s_strings_IndexRuneL2 cf fuel K (s_strings_IndexRuneE1 cf fuel K) t175 fuel h) (s_strings_IndexRuneE1 cf fuel K)) (
cf f_unicode_utf8_ValidRune [t1] h fun t185 h =>
vNot t185 h fun t186 h =>
vIf t186 (
K (.int .i64 (-1)) h) (
vRuneS t1 h fun t18 h =>
vLenS t18 h fun t20 h =>
vArith Go.Am.subI t20 (.int .i64 1) h fun t21 h =>
(fun (e4 : Hp → Prop) =>
s_strings_IndexRuneL5 cf fuel K (s_strings_IndexRuneE4 cf fuel K) t0 t18 t21 fuel t21 h) (s_strings_IndexRuneE4 cf fuel K))))) (s_strings_IndexRuneE0 cf fuel K)
theorem s_strings_IndexRune_eq (cf : CallK) (fuel : Nat) (t0 : AV) (t1 : AV) (h : Hp) (K : AV → Hp → Prop) : s_strings_IndexRune cf fuel t0 t1 h K = deepT (tabOf Tryz.prog) f_strings_IndexRune cf fuel [t0, t1] h K :=
  Eq.trans (by kernel_rfl) (rFun (by kernel_rfl) (rSeq (by kernel_rfl) (rBlock (by kernel_rfl) (rSeq (by kernel_rfl) (rCond (by kernel_rfl) rExact (rSeq (by kernel_rfl) (rCond (by kernel_rfl) (rSeq (by kernel_rfl) rExact (rSeq (by kernel_rfl) (rBlock (by kernel_rfl) (rLoop (by kernel_rfl) (fun m2 fr h => s_strings_IndexRuneL2 cf fuel K (s_strings_IndexRuneE1 cf fuel K) (getS fr (gpos 175)) m2 h) (funext fun fr => funext fun h => by kernel_rfl) fun m2 => rCast (funext fun fr => funext fun h => by kernel_rfl) rExact)) rExact)) (rSeq (by kernel_rfl) (rCond (by kernel_rfl) rExact (rScope (by kernel_rfl) (rSeq (by kernel_rfl) (rSeq (by kernel_rfl) (rSeq (by kernel_rfl) (rSeq (by kernel_rfl) (rSeq (by kernel_rfl) (rSeq (by kernel_rfl) (rSeq (by kernel_rfl) (rSeq (by kernel_rfl) rExact (rCond (by kernel_rfl) rExact (rScope (by kernel_rfl) (rSeq (by kernel_rfl) (rSeq (by kernel_rfl) (rSeq (by kernel_rfl) (rBlock (by kernel_rfl) rExact) rExact) rExact) rExact)))) rExact) rExact) (rBlock (by kernel_rfl) (rLoop (by kernel_rfl) (fun m5 fr h => s_strings_IndexRuneL5 cf fuel K (s_strings_IndexRuneE4 cf fuel K) (getS fr (gpos 0)) (getS fr (gpos 7)) (getS fr (gpos 8)) m5 (getS fr (gpos 9)) h) (funext fun fr => funext fun h => by kernel_rfl) fun m5 => rCast (funext fun fr => funext fun h => by kernel_rfl) (rSeq (by kernel_rfl) (rBlock (by kernel_rfl) (rScope (by kernel_rfl) (rSeq (by kernel_rfl) (rSeq (by kernel_rfl) rExact (rSeq (by kernel_rfl) (rBlock (by kernel_rfl) (rLoop (by kernel_rfl) (fun m10 fr h => s_strings_IndexRuneL10 cf fuel (s_strings_IndexRuneE9 cf fuel K (getS fr (gpos 8)) (getS fr (gpos 9))) (getS fr (gpos 0)) (getS fr (gpos 7)) (getS fr (gpos 8)) (getS fr (gpos 9)) m10 (getS fr (gpos 12)) h) (funext fun fr => funext fun h => by kernel_rfl) fun m10 => rCast (funext fun fr => funext fun h => by kernel_rfl) rExact)) rExact)) rExact))) rExact)))) rExact) rExact) rExact) rExact))) rExact)) rExact)) rExact)) rExact))

noncomputable def s_strings_shouldUseASCIISet (cf : CallK) (fuel : Nat) (t0 : AV) (h : Hp) (K : AV → Hp → Prop) : Prop :=
vGtr t0 (.int .i64 8) h fun t4 h =>
K t4 h
theorem s_strings_shouldUseASCIISet_eq (cf : CallK) (fuel : Nat) (t0 : AV) (h : Hp) (K : AV → Hp → Prop) : s_strings_shouldUseASCIISet cf fuel t0 h K = deepT (tabOf Tryz.prog) f_strings_shouldUseASCIISet cf fuel [t0] h K :=
  Eq.trans (by kernel_rfl) (rFun (by kernel_rfl) rExact)

noncomputable def s_strings_makeASCIISetE0 (cf : CallK) (fuel : Nat) (K : AV → Hp → Prop) (t2 : AV) : Hp → Prop := fun h =>
vLoadA 256 t2 h fun t20 h =>
vStore 256 t2 t20 h fun _ h =>
vLoadA 256 t2 h fun r0 _ => K (.tup [r0, (.bool .true)]) h
noncomputable def s_strings_makeASCIISetL1B (cf : CallK) (fuel : Nat) (K : AV → Hp → Prop) (e0 : Hp → Prop) (t0 : AV) (t2 : AV) (ih1 : AV → Hp → Prop) : AV → Hp → Prop := fun t4 h =>
vLenS t0 h fun t8 h =>
vLss t4 t8 h fun t9 h =>
vIf t9 (
(fun (e2 : Hp → Prop) =>
vIdxS t0 t4 h fun t14 h =>
vGeq t14 (.int .u8 128) h fun t16 h =>
vIf t16 (
vLoadA 256 t2 h fun t17 h =>
vStore 256 t2 t17 h fun _ h =>
vLoadA 256 t2 h fun r0 _ => K (.tup [r0, (.bool .false)]) h) (
vIaddrA 1 256 t2 t14 h fun t19 h =>
vStore 1 t19 (.bool .true) h fun _ h =>
e2 h)) fun h =>
vAdd t4 (.int .i64 1) h fun t11 h =>
ih1 t11 h) (
e0 h)
noncomputable def s_strings_makeASCIISetL1 (cf : CallK) (fuel : Nat) (K : AV → Hp → Prop) (e0 : Hp → Prop) (t0 : AV) (t2 : AV) (m : Nat) : AV → Hp → Prop := Nat.rec (motive := fun _ => AV → Hp → Prop) (fun _ _ => False) (fun _ ih => s_strings_makeASCIISetL1B cf fuel K e0 t0 t2 ih) m
theorem s_strings_makeASCIISetL1_succ (cf : CallK) (fuel : Nat) (K : AV → Hp → Prop) (e0 : Hp → Prop) (t0 : AV) (t2 : AV) (m : Nat) : s_strings_makeASCIISetL1 cf fuel K e0 t0 t2 (m + 1) = s_strings_makeASCIISetL1B cf fuel K e0 t0 t2 (s_strings_makeASCIISetL1 cf fuel K e0 t0 t2 m) := rfl
noncomputable def s_strings_makeASCIISet (cf : CallK) (fuel : Nat) (t0 : AV) (h : Hp) (K : AV → Hp → Prop) : Prop :=
vBox 256 (.agg (List.replicate 256 (.bool .false))) h fun t2 h =>
(fun (e0 : Hp → Prop) =>
s_strings_makeASCIISetL1 cf fuel K (s_strings_makeASCIISetE0 cf fuel K t2) t0 t2 fuel (.int .i64 0) h) (s_strings_makeASCIISetE0 cf fuel K t2)
theorem s_strings_makeASCIISet_eq (cf : CallK) (fuel : Nat) (t0 : AV) (h : Hp) (K : AV → Hp → Prop) : s_strings_makeASCIISet cf fuel t0 h K = deepT (tabOf Tryz.prog) f_strings_makeASCIISet cf fuel [t0] h K :=
  Eq.trans (by kernel_rfl) (rFun (by kernel_rfl) (rSeq (by kernel_rfl) (rSeq (by kernel_rfl) rExact (rSeq (by kernel_rfl) (rBlock (by kernel_rfl) (rLoop (by kernel_rfl) (fun m1 fr h => s_strings_makeASCIISetL1 cf fuel K (s_strings_makeASCIISetE0 cf fuel K (getS fr (gpos 2))) (getS fr (gpos 0)) (getS fr (gpos 2)) m1 (getS fr (gpos 4)) h) (funext fun fr => funext fun h => by kernel_rfl) fun m1 => rCast (funext fun fr => funext fun h => by kernel_rfl) rExact)) rExact)) rExact))

noncomputable def s_strings_asciiSet_contains (cf : CallK) (fuel : Nat) (t0 : AV) (t1 : AV) (h : Hp) (K : AV → Hp → Prop) : Prop :=
vNilck t0 h fun t7 h =>
vIaddrA 1 256 t7 t1 h fun t8 h =>
vLoad2 t8 h fun t9 h =>
K t9 h
theorem s_strings_asciiSet_contains_eq (cf : CallK) (fuel : Nat) (t0 : AV) (t1 : AV) (h : Hp) (K : AV → Hp → Prop) : s_strings_asciiSet_contains cf fuel t0 t1 h K = deepT (tabOf Tryz.prog) f_strings_asciiSet_contains cf fuel [t0, t1] h K :=
  Eq.trans (by kernel_rfl) (rFun (by kernel_rfl) rExact)

noncomputable def s_wal_Volume_mayE0 (cf : CallK) (fuel : Nat) (K : AV → Hp → Prop) : Hp → Prop := fun h =>
K (.bool .true) h
noncomputable def s_wal_Volume_mayB15 (cf : CallK) (fuel : Nat) (K : AV → Hp → Prop) (ih1 : AV → Hp → Prop) (t0 : AV) (t15 : AV) (t17 : AV) (h : Hp) : Prop :=
(fun (e2 : Hp → Prop) =>
vIaddr 2 t15 t17 h fun t19 h =>
vLoadA 2 t19 h fun t20 h =>
vBox 2 (.agg [(.int .i64 0), .nilslice]) h fun t6 h =>
vStore 2 t6 t20 h fun _ h =>
vFaddr 0 t6 h fun t21 h =>
vLoad2 t21 h fun t22 h =>
vLss t22 (.int .i64 0) h fun t23 h =>
joinG (fun g14 => grdV t23 false (vFaddr 0 t6 h g14) (g14 undefV h)) fun t25 h =>
joinG (fun g13 => grdV t23 false (vLoad2 t25 h g13) (g13 undefV h)) fun t26 h =>
joinG (fun g12 => grdV t23 false (vMov t0 h g12) (g12 undefV h)) fun t27 h =>
joinG (fun g11 => grdV t23 false (vNilck t27 h g11) (g11 undefV h)) fun t28 h =>
joinG (fun g10 => grdV t23 false (vFaddr 1 t28 h g10) (g10 undefV h)) fun t29 h =>
joinG (fun g9 => grdV t23 false (vLoad2 t29 h g9) (g9 undefV h)) fun t30 h =>
joinG (fun g8 => grdV t23 false (vLenL2 t30 h g8) (g8 undefV h)) fun t31 h =>
joinG (fun g7 => grdV t23 false (vGeq t26 t31 h g7) (g7 undefV h)) fun t32 h =>
vPick t23 (.bool .true) t32 h fun t33 h =>
joinG (fun g6 => grdV t33 false (vFaddr 1 t6 h g6) (g6 undefV h)) fun t35 h =>
joinG (fun g5 => grdV t33 false (vLoad2 t35 h g5) (g5 undefV h)) fun t36 h =>
joinG (fun g4 => grdV t33 false (vLenL2 t36 h g4) (g4 undefV h)) fun t37 h =>
joinG (fun g3 => grdV t33 false (vNeq t37 (.int .i64 512) h g3) (g3 undefV h)) fun t38 h =>
vPick t33 (.bool .true) t38 h fun t39 h =>
vIf t39 (
K (.bool .false) h) (
e2 h)) fun h =>
vAdd t17 (.int .i64 1) h fun t40 h =>
ih1 t40 h
noncomputable def s_wal_Volume_mayL1B (cf : CallK) (fuel : Nat) (K : AV → Hp → Prop) (e0 : Hp → Prop) (t0 : AV) (t15 : AV) (t16 : AV) (ih1 : AV → Hp → Prop) : AV → Hp → Prop := fun t17 h =>
vLss t17 t16 h fun t18 h =>
vIf t18 (
s_wal_Volume_mayB15 cf fuel K ih1 t0 t15 t17 h) (
e0 h)
noncomputable def s_wal_Volume_mayL1 (cf : CallK) (fuel : Nat) (K : AV → Hp → Prop) (e0 : Hp → Prop) (t0 : AV) (t15 : AV) (t16 : AV) (m : Nat) : AV → Hp → Prop := Nat.rec (motive := fun _ => AV → Hp → Prop) (fun _ _ => False) (fun _ ih => s_wal_Volume_mayL1B cf fuel K e0 t0 t15 t16 ih) m
theorem s_wal_Volume_mayL1_succ (cf : CallK) (fuel : Nat) (K : AV → Hp → Prop) (e0 : Hp → Prop) (t0 : AV) (t15 : AV) (t16 : AV) (m : Nat) : s_wal_Volume_mayL1 cf fuel K e0 t0 t15 t16 (m + 1) = s_wal_Volume_mayL1B cf fuel K e0 t0 t15 t16 (s_wal_Volume_mayL1 cf fuel K e0 t0 t15 t16 m) := rfl
noncomputable def s_wal_Volume_may (cf : CallK) (fuel : Nat) (t0 : AV) (t1 : AV) (h : Hp) (K : AV → Hp → Prop) : Prop :=
vLenL2 t1 h fun t8 h =>
vNilck t0 h fun t10 h =>
vFaddr 1 t10 h fun t11 h =>
vLoad2 t11 h fun t12 h =>
vLenL2 t12 h fun t13 h =>
vGtr t8 t13 h fun t14 h =>
vIf t14 (
K (.bool .false) h) (
vLenL2 t1 h fun t16 h =>
(fun (e0 : Hp → Prop) =>
s_wal_Volume_mayL1 cf fuel K (s_wal_Volume_mayE0 cf fuel K) t0 t1 t16 fuel (.int .i64 0) h) (s_wal_Volume_mayE0 cf fuel K))
theorem s_wal_Volume_may_eq (cf : CallK) (fuel : Nat) (t0 : AV) (t1 : AV) (h : Hp) (K : AV → Hp → Prop) : s_wal_Volume_may cf fuel t0 t1 h K = deepT (tabOf Tryz.prog) f_wal_Volume_may cf fuel [t0, t1] h K :=
  Eq.trans (by kernel_rfl) (rFun (by kernel_rfl) (rSeq (by kernel_rfl) (rSeq (by kernel_rfl) (rSeq (by kernel_rfl) rExact (rSeq (by kernel_rfl) (rBlock (by kernel_rfl) (rLoop (by kernel_rfl) (fun m1 fr h => s_wal_Volume_mayL1 cf fuel K (s_wal_Volume_mayE0 cf fuel K) (getS fr (gpos 0)) (getS fr (gpos 15)) (getS fr (gpos 16)) m1 (getS fr (gpos 17)) h) (funext fun fr => funext fun h => by kernel_rfl) fun m1 => rCast (funext fun fr => funext fun h => by kernel_rfl) rExact)) rExact)) rExact) rExact))

noncomputable def s_localfs_object_with (cf : CallK) (fuel : Nat) (t0 : AV) (t1 : AV) (t2 : AV) (h : Hp) (K : AV → Hp → Prop) : Prop :=
vNilck t0 h fun t13 h =>
vFaddr 2 t13 h fun t14 h =>
vLoad2 t14 h fun t15 h =>
cf f_slices_BinarySearch_string_string [t15, t1] h fun t17 h =>
vExtract 0 t17 h fun t18 h =>
vExtract 1 t17 h fun t19 h =>
vNilck t0 h fun t21 h =>
vFaddr 2 t21 h fun t22 h =>
vLoad2 t22 h fun t23 h =>
vNilck t0 h fun t26 h =>
vFaddr 3 t26 h fun t27 h =>
vLoad2 t27 h fun t28 h =>
cf f_slices_Clone_string_string [t23] h fun t24 h =>
vLoad2 t27 h fun c _ => gd (sameV c t28) (
cf f_slices_Clone_localfs_object_localfs_object [t28] h fun t29 h =>
(fun (e0 : AV → AV → Hp → Prop) =>
vEq false eqP t2 .nilptr h fun t32 h =>
joinG (fun g1 => grdV t32 true (vMov t19 h g1) (g1 undefV h)) fun t34 h =>
vPick t32 t34 (.bool .false) h fun t35 h =>
vIf t35 (
vAdd t18 (.int .i64 1) h fun t39 h =>
cf f_slices_Delete_string_string [t24, t18, t39] h fun t40 h =>
vAdd t18 (.int .i64 1) h fun t44 h =>
cf f_slices_Delete_localfs_object_localfs_object [t29, t18, t44] h fun t45 h =>
e0 t40 t45 h) (
vIf t19 (
vIaddr 1 t29 t18 h fun t51 h =>
vStore 1 t51 t2 h fun _ h =>
e0 t24 t29 h) (
vEq true eqP t2 .nilptr h fun t54 h =>
vIf t54 (
vBslice 1 1 false [(.str 0 0)] [(0, 1, t1)] h fun t58 h =>
cf f_slices_Insert_string_string [t24, t18, t58] h fun t59 h =>
vBslice 1 1 false [.nilptr] [(0, 1, t2)] h fun t63 h =>
cf f_slices_Insert_localfs_object_localfs_object [t29, t18, t63] h fun t64 h =>
e0 t59 t64 h) (
e0 t24 t29 h)))) fun t9 t10 h =>
cf f_localfs_folder [t9, t10] h fun t67 h =>
K t67 h)
theorem s_localfs_object_with_eq (cf : CallK) (fuel : Nat) (t0 : AV) (t1 : AV) (t2 : AV) (h : Hp) (K : AV → Hp → Prop) : s_localfs_object_with cf fuel t0 t1 t2 h K = deepT (tabOf Tryz.prog) f_localfs_object_with cf fuel [t0, t1, t2] h K :=
  Eq.trans (by kernel_rfl) (rFun (by kernel_rfl) rExact)

noncomputable def s_int_strconv_log10Pow2 (cf : CallK) (fuel : Nat) (t0 : AV) (h : Hp) (K : AV → Hp → Prop) : Prop :=
vArith Go.Am.mulI t0 (.int .i64 78913) h fun t4 h =>
vShr t4 (.int .u64 18) h fun t5 h =>
K t5 h
theorem s_int_strconv_log10Pow2_eq (cf : CallK) (fuel : Nat) (t0 : AV) (h : Hp) (K : AV → Hp → Prop) : s_int_strconv_log10Pow2 cf fuel t0 h K = deepT (tabOf Tryz.prog) f_int_strconv_log10Pow2 cf fuel [t0] h K :=
  Eq.trans (by kernel_rfl) (rFun (by kernel_rfl) rExact)

noncomputable def s_math_bits_Len64 (cf : CallK) (fuel : Nat) (t0 : AV) (h : Hp) (K : AV → Hp → Prop) : Prop :=
(fun (j0 : AV → AV → Hp → Prop) =>
vGeq t0 (.int .u64 4294967296) h fun t4 h =>
vIf t4 (
vShr t0 (.int .u64 32) h fun t6 h =>
j0 t6 (.int .i64 32) h) (
j0 t0 (.int .i64 0) h)) fun t0 t2 h =>
(fun (j1 : AV → AV → Hp → Prop) =>
vGeq t0 (.int .u64 65536) h fun t8 h =>
vIf t8 (
vShr t0 (.int .u64 16) h fun t10 h =>
vAdd t2 (.int .i64 16) h fun t12 h =>
j1 t10 t12 h) (
j1 t0 t2 h)) fun t0 t2 h =>
(fun (j2 : AV → AV → Hp → Prop) =>
vGeq t0 (.int .u64 256) h fun t14 h =>
vIf t14 (
vShr t0 (.int .u64 8) h fun t16 h =>
vAdd t2 (.int .i64 8) h fun t18 h =>
j2 t16 t18 h) (
j2 t0 t2 h)) fun t0 t2 h =>
vToInt .u8 t0 h fun t21 h =>
vIdxS (.str 256 1013866857139168856493015739252390649739422828853819106890363778118420553376247557433637691341895324351018602695588957474325319502760499485336098898398377509666851054660423406800006203933793007272033180812049178612605246075062580585469430410618860250057463399279570354286669047577758927328864388992123306212451509403152394148136105363817402562688186708175358218852349079190158732807302672745370040257219644697201681238697346923541678507645485296520536209706771857694240900605172937619415410180424934769249448772944216470541052485265558808433676546390051204254346932932316488017972311616136051587427851453983453479168) t21 h fun t22 h =>
vToInt .i64 t22 h fun t23 h =>
vAdd t2 t23 h fun t24 h =>
K t24 h
theorem s_math_bits_Len64_eq (cf : CallK) (fuel : Nat) (t0 : AV) (h : Hp) (K : AV → Hp → Prop) : s_math_bits_Len64 cf fuel t0 h K = deepT (tabOf Tryz.prog) f_math_bits_Len64 cf fuel [t0] h K :=
  Eq.trans (by kernel_rfl) (rFun (by kernel_rfl) rExact)

noncomputable def s_int_strconv_bool2_int (cf : CallK) (fuel : Nat) (t0 : AV) (h : Hp) (K : AV → Hp → Prop) : Prop :=
vIf t0 (
K (.int .i64 1) h) (
K (.int .i64 0) h)
theorem s_int_strconv_bool2_int_eq (cf : CallK) (fuel : Nat) (t0 : AV) (h : Hp) (K : AV → Hp → Prop) : s_int_strconv_bool2_int cf fuel t0 h K = deepT (tabOf Tryz.prog) f_int_strconv_bool2_int cf fuel [t0] h K :=
  Eq.trans (by kernel_rfl) (rFun (by kernel_rfl) rExact)

noncomputable def s_int_strconv_isPowerOfTwo (cf : CallK) (fuel : Nat) (t0 : AV) (h : Hp) (K : AV → Hp → Prop) : Prop :=
vArith Go.Am.subI t0 (.int .i64 1) h fun t5 h =>
vBits Nat.land t0 t5 h fun t6 h =>
vEql t6 (.int .i64 0) h fun t7 h =>
K t7 h
theorem s_int_strconv_isPowerOfTwo_eq (cf : CallK) (fuel : Nat) (t0 : AV) (h : Hp) (K : AV → Hp → Prop) : s_int_strconv_isPowerOfTwo cf fuel t0 h K = deepT (tabOf Tryz.prog) f_int_strconv_isPowerOfTwo cf fuel [t0] h K :=
  Eq.trans (by kernel_rfl) (rFun (by kernel_rfl) rExact)

noncomputable def s_math_bits_TrailingZeros (cf : CallK) (fuel : Nat) (t0 : AV) (h : Hp) (K : AV → Hp → Prop) : Prop :=
vIf (.bool .false) (
vToInt .u32 t0 h fun t4 h =>
cf f_math_bits_TrailingZeros32 [t4] h fun t5 h =>
K t5 h) (
cf f_math_bits_TrailingZeros64 [t0] h fun t7 h =>
K t7 h)
theorem s_math_bits_TrailingZeros_eq (cf : CallK) (fuel : Nat) (t0 : AV) (h : Hp) (K : AV → Hp → Prop) : s_math_bits_TrailingZeros cf fuel t0 h K = deepT (tabOf Tryz.prog) f_math_bits_TrailingZeros cf fuel [t0] h K :=
  Eq.trans (by kernel_rfl) (rFun (by kernel_rfl) rExact)

noncomputable def s_cmp_Less_string (cf : CallK) (fuel : Nat) (t0 : AV) (t1 : AV) (h : Hp) (K : AV → Hp → Prop) : Prop :=
cf f_cmp_isNaN_string [t0] h fun t6 h =>
joinG (fun g5 => grdV t6 true (vMov t1 h g5) (g5 undefV h)) fun t8 h =>
joinG (fun g4 => grdV t6 true (cf f_cmp_isNaN_string [t8] h g4) (g4 undefV h)) fun t9 h =>
joinG (fun g3 => grdV t6 true (vNot t9 h g3) (g3 undefV h)) fun t10 h =>
vPick t6 t10 (.bool .false) h fun t11 h =>
joinG (fun g2 => grdV t11 false (vMov t0 h g2) (g2 undefV h)) fun t13 h =>
joinG (fun g1 => grdV t11 false (vMov t1 h g1) (g1 undefV h)) fun t14 h =>
joinG (fun g0 => grdV t11 false (vLss t13 t14 h g0) (g0 undefV h)) fun t15 h =>
vPick t11 (.bool .true) t15 h fun t16 h =>
K t16 h
theorem s_cmp_Less_string_eq (cf : CallK) (fuel : Nat) (t0 : AV) (t1 : AV) (h : Hp) (K : AV → Hp → Prop) : s_cmp_Less_string cf fuel t0 t1 h K = deepT (tabOf Tryz.prog) f_cmp_Less_string cf fuel [t0, t1] h K :=
  Eq.trans (by kernel_rfl) (rFun (by kernel_rfl) rExact)

noncomputable def s_slices_isNaN_string (cf : CallK) (fuel : Nat) (t0 : AV) (h : Hp) (K : AV → Hp → Prop) : Prop :=
vNeq t0 t0 h fun t5 h =>
K t5 h
theorem s_slices_isNaN_string_eq (cf : CallK) (fuel : Nat) (t0 : AV) (h : Hp) (K : AV → Hp → Prop) : s_slices_isNaN_string cf fuel t0 h K = deepT (tabOf Tryz.prog) f_slices_isNaN_string cf fuel [t0] h K :=
  Eq.trans (by kernel_rfl) (rFun (by kernel_rfl) rExact)

noncomputable def s_inode_blocks (cf : CallK) (fuel : Nat) (t0 : AV) (h : Hp) (K : AV → Hp → Prop) : Prop :=
vAdd t0 (.int .i64 512) h fun t4 h =>
vArith Go.Am.subI t4 (.int .i64 1) h fun t5 h =>
vDiv false t5 (.int .i64 512) h fun t6 h =>
K t6 h
theorem s_inode_blocks_eq (cf : CallK) (fuel : Nat) (t0 : AV) (h : Hp) (K : AV → Hp → Prop) : s_inode_blocks cf fuel t0 h K = deepT (tabOf Tryz.prog) f_inode_blocks cf fuel [t0] h K :=
  Eq.trans (by kernel_rfl) (rFun (by kernel_rfl) rExact)

noncomputable def s_crc_New (cf : CallK) (fuel : Nat) (h : Hp) (K : AV → Hp → Prop) : Prop :=
vBuild [(.int .u32 0)] [] h fun t1 h =>
vBox 1 t1 h fun t2 h =>
K t2 h
theorem s_crc_New_eq (cf : CallK) (fuel : Nat) (h : Hp) (K : AV → Hp → Prop) : s_crc_New cf fuel h K = deepT (tabOf Tryz.prog) f_crc_New cf fuel [] h K :=
  Eq.trans (by kernel_rfl) (rFun (by kernel_rfl) rExact)

noncomputable def s_crc_eachE0 (cf : CallK) (fuel : Nat) (K : AV → Hp → Prop) : Hp → Prop := fun h =>
K (.tup []) h
noncomputable def s_crc_eachL1B (cf : CallK) (fuel : Nat) (e0 : Hp → Prop) (t1 : AV) (t6 : AV) (t7 : AV) (ih1 : AV → Hp → Prop) : AV → Hp → Prop := fun t8 h =>
vLss t8 t7 h fun t9 h =>
vIf t9 (
(fun (e2 : Hp → Prop) =>
vIaddr 1 t6 t8 h fun t10 h =>
vLoad2 t10 h fun t11 h =>
vCallV t1 [t11] cf h fun t14 h =>
e2 h) fun h =>
vAdd t8 (.int .i64 1) h fun t15 h =>
ih1 t15 h) (
e0 h)
noncomputable def s_crc_eachL1 (cf : CallK) (fuel : Nat) (e0 : Hp → Prop) (t1 : AV) (t6 : AV) (t7 : AV) (m : Nat) : AV → Hp → Prop := Nat.rec (motive := fun _ => AV → Hp → Prop) (fun _ _ => False) (fun _ ih => s_crc_eachL1B cf fuel e0 t1 t6 t7 ih) m
theorem s_crc_eachL1_succ (cf : CallK) (fuel : Nat) (e0 : Hp → Prop) (t1 : AV) (t6 : AV) (t7 : AV) (m : Nat) : s_crc_eachL1 cf fuel e0 t1 t6 t7 (m + 1) = s_crc_eachL1B cf fuel e0 t1 t6 t7 (s_crc_eachL1 cf fuel e0 t1 t6 t7 m) := rfl
noncomputable def s_crc_each (cf : CallK) (fuel : Nat) (t0 : AV) (t1 : AV) (h : Hp) (K : AV → Hp → Prop) : Prop :=
vLenL2 t0 h fun t7 h =>
(fun (e0 : Hp → Prop) =>
s_crc_eachL1 cf fuel (s_crc_eachE0 cf fuel K) t1 t0 t7 fuel (.int .i64 0) h) (s_crc_eachE0 cf fuel K)
theorem s_crc_each_eq (cf : CallK) (fuel : Nat) (t0 : AV) (t1 : AV) (h : Hp) (K : AV → Hp → Prop) : s_crc_each cf fuel t0 t1 h K = deepT (tabOf Tryz.prog) f_crc_each cf fuel [t0, t1] h K :=
  Eq.trans (by kernel_rfl) (rFun (by kernel_rfl) (rSeq (by kernel_rfl) (rBlock (by kernel_rfl) (rLoop (by kernel_rfl) (fun m1 fr h => s_crc_eachL1 cf fuel (s_crc_eachE0 cf fuel K) (getS fr (gpos 1)) (getS fr (gpos 6)) (getS fr (gpos 7)) m1 (getS fr (gpos 8)) h) (funext fun fr => funext fun h => by kernel_rfl) fun m1 => rCast (funext fun fr => funext fun h => by kernel_rfl) rExact)) rExact))

noncomputable def s_crc_Sum_AddE1 (cf : CallK) (fuel : Nat) (K : AV → Hp → Prop) (t0 : AV) : AV → Hp → Prop := fun t7 h =>
vCom t7 h fun t64 h =>
vNilck t0 h fun t65 h =>
vFaddr 0 t65 h fun t66 h =>
vStore 1 t66 t64 h fun _ h =>
K (.tup []) h
noncomputable def s_crc_Sum_AddB4 (cf : CallK) (fuel : Nat) (ih2 : AV → AV → Hp → Prop) (t4 : AV) (t37 : AV) (t7 : AV) (t39 : AV) (h : Hp) : Prop :=
(fun (e3 : AV → Hp → Prop) =>
vIaddr 1 t37 t39 h fun t41 h =>
vLoad2 t41 h fun t42 h =>
vToInt .u32 t42 h fun t45 h =>
vBits Nat.xor t7 t45 h fun t46 h =>
vShr t46 (.int .u64 4) h fun t48 h =>
vBits Nat.land t46 (.int .u32 15) h fun t50 h =>
vIaddrA 1 16 t4 t50 h fun t51 h =>
vLoad2 t51 h fun t52 h =>
vBits Nat.xor t48 t52 h fun t53 h =>
vShr t53 (.int .u64 4) h fun t55 h =>
vBits Nat.land t53 (.int .u32 15) h fun t57 h =>
vIaddrA 1 16 t4 t57 h fun t58 h =>
vLoad2 t58 h fun t59 h =>
vBits Nat.xor t55 t59 h fun t60 h =>
e3 t60 h) fun t7 h =>
vAdd t39 (.int .i64 1) h fun t61 h =>
ih2 t7 t61 h
noncomputable def s_crc_Sum_AddL2B (cf : CallK) (fuel : Nat) (e1 : AV → Hp → Prop) (t0 : AV) (t4 : AV) (t37 : AV) (t38 : AV) (ih2 : AV → AV → Hp → Prop) : AV → AV → Hp → Prop := fun t7 t39 h =>
vLss t39 t38 h fun t40 h =>
vIf t40 (
s_crc_Sum_AddB4 cf fuel ih2 t4 t37 t7 t39 h) (
e1 t7 h)
noncomputable def s_crc_Sum_AddL2 (cf : CallK) (fuel : Nat) (e1 : AV → Hp → Prop) (t0 : AV) (t4 : AV) (t37 : AV) (t38 : AV) (m : Nat) : AV → AV → Hp → Prop := Nat.rec (motive := fun _ => AV → AV → Hp → Prop) (fun _ _ _ => False) (fun _ ih => s_crc_Sum_AddL2B cf fuel e1 t0 t4 t37 t38 ih) m
theorem s_crc_Sum_AddL2_succ (cf : CallK) (fuel : Nat) (e1 : AV → Hp → Prop) (t0 : AV) (t4 : AV) (t37 : AV) (t38 : AV) (m : Nat) : s_crc_Sum_AddL2 cf fuel e1 t0 t4 t37 t38 (m + 1) = s_crc_Sum_AddL2B cf fuel e1 t0 t4 t37 t38 (s_crc_Sum_AddL2 cf fuel e1 t0 t4 t37 t38 m) := rfl
noncomputable def s_crc_Sum_AddE0 (cf : CallK) (fuel : Nat) (K : AV → Hp → Prop) (t0 : AV) (t1 : AV) (t4 : AV) : Hp → Prop := fun h =>
vNilck t0 h fun t33 h =>
vFaddr 0 t33 h fun t34 h =>
vLoad2 t34 h fun t35 h =>
vCom t35 h fun t36 h =>
vLenL2 t1 h fun t38 h =>
(fun (e1 : AV → Hp → Prop) =>
s_crc_Sum_AddL2 cf fuel (s_crc_Sum_AddE1 cf fuel K t0) t0 t4 t1 t38 fuel t36 (.int .i64 0) h) (s_crc_Sum_AddE1 cf fuel K t0)
noncomputable def s_crc_Sum_AddE6 (cf : CallK) (fuel : Nat) (ih5 : AV → Hp → Prop) (t0 : AV) (t1 : AV) (t4 : AV) (t13 : AV) : Hp → Prop := fun h =>
vAdd t13 (.int .i64 1) h fun t31 h =>
ih5 t31 h
noncomputable def s_crc_Sum_AddE7 (cf : CallK) (fuel : Nat) (e6 : Hp → Prop) (t0 : AV) (t1 : AV) (t4 : AV) (t5 : AV) (t13 : AV) : AV → Hp → Prop := fun t6 h =>
vIaddrA 1 16 t4 t5 h fun t30 h =>
vStore 1 t30 t6 h fun _ h =>
e6 h
noncomputable def s_crc_Sum_AddL8B (cf : CallK) (fuel : Nat) (e7 : AV → Hp → Prop) (t0 : AV) (t1 : AV) (t4 : AV) (t5 : AV) (t13 : AV) (ih8 : AV → AV → Hp → Prop) : AV → AV → Hp → Prop := fun t6 t18 h =>
vLss t18 (.int .i64 4) h fun t19 h =>
vIf t19 (
(fun (e9 : AV → Hp → Prop) =>
vShr t6 (.int .u64 1) h fun t21 h =>
vBits Nat.land t6 (.int .u32 1) h fun t23 h =>
vNeg t23 h fun t24 h =>
vBits Nat.land (.int .u32 3988292384) t24 h fun t25 h =>
vBits Nat.xor t21 t25 h fun t26 h =>
e9 t26 h) fun t6 h =>
vAdd t18 (.int .i64 1) h fun t27 h =>
ih8 t6 t27 h) (
e7 t6 h)
noncomputable def s_crc_Sum_AddL8 (cf : CallK) (fuel : Nat) (e7 : AV → Hp → Prop) (t0 : AV) (t1 : AV) (t4 : AV) (t5 : AV) (t13 : AV) (m : Nat) : AV → AV → Hp → Prop := Nat.rec (motive := fun _ => AV → AV → Hp → Prop) (fun _ _ _ => False) (fun _ ih => s_crc_Sum_AddL8B cf fuel e7 t0 t1 t4 t5 t13 ih) m
theorem s_crc_Sum_AddL8_succ (cf : CallK) (fuel : Nat) (e7 : AV → Hp → Prop) (t0 : AV) (t1 : AV) (t4 : AV) (t5 : AV) (t13 : AV) (m : Nat) : s_crc_Sum_AddL8 cf fuel e7 t0 t1 t4 t5 t13 (m + 1) = s_crc_Sum_AddL8B cf fuel e7 t0 t1 t4 t5 t13 (s_crc_Sum_AddL8 cf fuel e7 t0 t1 t4 t5 t13 m) := rfl
noncomputable def s_crc_Sum_AddL5B (cf : CallK) (fuel : Nat) (e0 : Hp → Prop) (t0 : AV) (t1 : AV) (t4 : AV) (ih5 : AV → Hp → Prop) : AV → Hp → Prop := fun t13 h =>
vLss t13 (.int .i64 16) h fun t14 h =>
vIf t14 (
(fun (e6 : Hp → Prop) =>
vToInt .u32 t13 h fun t17 h =>
(fun (e7 : AV → Hp → Prop) =>
s_crc_Sum_AddL8 cf fuel (s_crc_Sum_AddE7 cf fuel (s_crc_Sum_AddE6 cf fuel ih5 t0 t1 t4 t13) t0 t1 t4 t13 t13) t0 t1 t4 t13 t13 fuel t17 (.int .i64 0) h) (s_crc_Sum_AddE7 cf fuel (s_crc_Sum_AddE6 cf fuel ih5 t0 t1 t4 t13) t0 t1 t4 t13 t13)) (s_crc_Sum_AddE6 cf fuel ih5 t0 t1 t4 t13)) (
e0 h)
noncomputable def s_crc_Sum_AddL5 (cf : CallK) (fuel : Nat) (e0 : Hp → Prop) (t0 : AV) (t1 : AV) (t4 : AV) (m : Nat) : AV → Hp → Prop := Nat.rec (motive := fun _ => AV → Hp → Prop) (fun _ _ => False) (fun _ ih => s_crc_Sum_AddL5B cf fuel e0 t0 t1 t4 ih) m
theorem s_crc_Sum_AddL5_succ (cf : CallK) (fuel : Nat) (e0 : Hp → Prop) (t0 : AV) (t1 : AV) (t4 : AV) (m : Nat) : s_crc_Sum_AddL5 cf fuel e0 t0 t1 t4 (m + 1) = s_crc_Sum_AddL5B cf fuel e0 t0 t1 t4 (s_crc_Sum_AddL5 cf fuel e0 t0 t1 t4 m) := rfl
noncomputable def s_crc_Sum_Add (cf : CallK) (fuel : Nat) (t0 : AV) (t1 : AV) (h : Hp) (K : AV → Hp → Prop) : Prop :=
vEq false eqP t0 .nilptr h fun t11 h =>
vIf t11 (
K (.tup []) h) (
vBuild [(.int .u32 0), (.int .u32 0), (.int .u32 0), (.int .u32 0), (.int .u32 0), (.int .u32 0), (.int .u32 0), (.int .u32 0), (.int .u32 0), (.int .u32 0), (.int .u32 0), (.int .u32 0), (.int .u32 0), (.int .u32 0), (.int .u32 0), (.int .u32 0)] [] h fun t12 h =>
vBox 16 (.agg [(.int .u32 0), (.int .u32 0), (.int .u32 0), (.int .u32 0), (.int .u32 0), (.int .u32 0), (.int .u32 0), (.int .u32 0), (.int .u32 0), (.int .u32 0), (.int .u32 0), (.int .u32 0), (.int .u32 0), (.int .u32 0), (.int .u32 0), (.int .u32 0)]) h fun t4 h =>
vStore 16 t4 t12 h fun _ h =>
(fun (e0 : Hp → Prop) =>
s_crc_Sum_AddL5 cf fuel (s_crc_Sum_AddE0 cf fuel K t0 t1 t4) t0 t1 t4 fuel (.int .i64 0) h) (s_crc_Sum_AddE0 cf fuel K t0 t1 t4))
theorem s_crc_Sum_Add_eq (cf : CallK) (fuel : Nat) (t0 : AV) (t1 : AV) (h : Hp) (K : AV → Hp → Prop) : s_crc_Sum_Add cf fuel t0 t1 h K = deepT (tabOf Tryz.prog) f_crc_Sum_Add cf fuel [t0, t1] h K :=
  Eq.trans (by kernel_rfl) (rFun (by kernel_rfl) (rSeq (by kernel_rfl) (rSeq (by kernel_rfl) (rSeq (by kernel_rfl) (rSeq (by kernel_rfl) (rSeq (by kernel_rfl) rExact (rSeq (by kernel_rfl) (rBlock (by kernel_rfl) (rLoop (by kernel_rfl) (fun m2 fr h => s_crc_Sum_AddL2 cf fuel (s_crc_Sum_AddE1 cf fuel K (getS fr (gpos 0))) (getS fr (gpos 0)) (getS fr (gpos 4)) (getS fr (gpos 37)) (getS fr (gpos 38)) m2 (getS fr (gpos 7)) (getS fr (gpos 39)) h) (funext fun fr => funext fun h => by kernel_rfl) fun m2 => rCast (funext fun fr => funext fun h => by kernel_rfl) rExact)) rExact)) rExact) (rSeq (by kernel_rfl) (rBlock (by kernel_rfl) (rLoop (by kernel_rfl) (fun m5 fr h => s_crc_Sum_AddL5 cf fuel (s_crc_Sum_AddE0 cf fuel K (getS fr (gpos 0)) (getS fr (gpos 1)) (getS fr (gpos 4))) (getS fr (gpos 0)) (getS fr (gpos 1)) (getS fr (gpos 4)) m5 (getS fr (gpos 13)) h) (funext fun fr => funext fun h => by kernel_rfl) fun m5 => rCast (funext fun fr => funext fun h => by kernel_rfl) (rSeq (by kernel_rfl) (rSeq (by kernel_rfl) (rSeq (by kernel_rfl) rExact (rBlock (by kernel_rfl) (rSeq (by kernel_rfl) (rSeq (by kernel_rfl) (rSeq (by kernel_rfl) rExact (rSeq (by kernel_rfl) (rBlock (by kernel_rfl) (rLoop (by kernel_rfl) (fun m8 fr h => s_crc_Sum_AddL8 cf fuel (s_crc_Sum_AddE7 cf fuel (s_crc_Sum_AddE6 cf fuel (s_crc_Sum_AddL5 cf fuel (s_crc_Sum_AddE0 cf fuel K (getS fr (gpos 0)) (getS fr (gpos 1)) (getS fr (gpos 4))) (getS fr (gpos 0)) (getS fr (gpos 1)) (getS fr (gpos 4)) m5) (getS fr (gpos 0)) (getS fr (gpos 1)) (getS fr (gpos 4)) (getS fr (gpos 13))) (getS fr (gpos 0)) (getS fr (gpos 1)) (getS fr (gpos 4)) (getS fr (gpos 5)) (getS fr (gpos 13))) (getS fr (gpos 0)) (getS fr (gpos 1)) (getS fr (gpos 4)) (getS fr (gpos 5)) (getS fr (gpos 13)) m8 (getS fr (gpos 6)) (getS fr (gpos 18)) h) (funext fun fr => funext fun h => by kernel_rfl) fun m8 => rCast (funext fun fr => funext fun h => by kernel_rfl) rExact)) rExact)) rExact) rExact))) rExact) rExact))) rExact)) rExact) rExact))

noncomputable def s_crc_Sum_Value (cf : CallK) (fuel : Nat) (t0 : AV) (h : Hp) (K : AV → Hp → Prop) : Prop :=
vEq false eqP t0 .nilptr h fun t4 h =>
vIf t4 (
K (.int .u32 0) h) (
vNilck t0 h fun t6 h =>
vFaddr 0 t6 h fun t7 h =>
vLoad2 t7 h fun t8 h =>
K t8 h)
theorem s_crc_Sum_Value_eq (cf : CallK) (fuel : Nat) (t0 : AV) (h : Hp) (K : AV → Hp → Prop) : s_crc_Sum_Value cf fuel t0 h K = deepT (tabOf Tryz.prog) f_crc_Sum_Value cf fuel [t0] h K :=
  Eq.trans (by kernel_rfl) (rFun (by kernel_rfl) rExact)

noncomputable def s_strings_IndexByte (cf : CallK) (fuel : Nat) (t0 : AV) (t1 : AV) (h : Hp) (K : AV → Hp → Prop) : Prop :=
cf f_int_stringslite_IndexByte [t0, t1] h fun t7 h =>
K t7 h
theorem s_strings_IndexByte_eq (cf : CallK) (fuel : Nat) (t0 : AV) (t1 : AV) (h : Hp) (K : AV → Hp → Prop) : s_strings_IndexByte cf fuel t0 t1 h K = deepT (tabOf Tryz.prog) f_strings_IndexByte cf fuel [t0, t1] h K :=
  Eq.trans (by kernel_rfl) (rFun (by kernel_rfl) rExact)

noncomputable def s_unicode_utf8_ValidRune (cf : CallK) (fuel : Nat) (t0 : AV) (h : Hp) (K : AV → Hp → Prop) : Prop :=
(fun (e0 : Hp → Prop) =>
vLeq (.int .i32 0) t0 h fun t5 h =>
joinG (fun g4 => grdV t5 true (vMov t0 h g4) (g4 undefV h)) fun t7 h =>
joinG (fun g3 => grdV t5 true (vLss t7 (.int .i32 55296) h g3) (g3 undefV h)) fun t8 h =>
vPick t5 t8 (.bool .false) h fun t9 h =>
vIf t9 (
K (.bool .true) h) (
vLss (.int .i32 57343) t0 h fun t12 h =>
joinG (fun g2 => grdV t12 true (vMov t0 h g2) (g2 undefV h)) fun t14 h =>
joinG (fun g1 => grdV t12 true (vLeq t14 (.int .i32 1114111) h g1) (g1 undefV h)) fun t15 h =>
vPick t12 t15 (.bool .false) h fun t16 h =>
vIf t16 (
K (.bool .true) h) (
e0 h))) fun h =>
K (.bool .false) h
theorem s_unicode_utf8_ValidRune_eq (cf : CallK) (fuel : Nat) (t0 : AV) (h : Hp) (K : AV → Hp → Prop) : s_unicode_utf8_ValidRune cf fuel t0 h K = deepT (tabOf Tryz.prog) f_unicode_utf8_ValidRune cf fuel [t0] h K :=
  Eq.trans (by kernel_rfl) (rFun (by kernel_rfl) rExact)


end Go.Proofs.YtbefkepinpollaaGreatDoor.sh5
