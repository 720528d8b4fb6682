/- The Go functions' code as the abstract machine's, over values; each is the code that the machine makes of the program's (theorems s_.._eq). No condition. -/
import Derived.Test.YtbefkepinpollaaGreatDoorAmLoop
import Derived.Test.YtbefkepinpollaaGreatDoorProg
import Derived.KernelRfl
namespace Go.Proofs.YtbefkepinpollaaGreatDoor.sh4
open Go Go.Am Go.Proofs
set_option linter.unusedVariables false
set_option maxRecDepth 100000
abbrev f_bytes_Clone : Nat := 49
abbrev f_bytes_Equal : Nat := 144
abbrev f_bytes_HasPrefix : Nat := 123
abbrev f_cmp_Less_string : Nat := 174
abbrev f_cmp_isNaN_int : Nat := 142
abbrev f_cmp_isNaN_int64 : Nat := 141
abbrev f_crc_Of : Nat := 162
abbrev f_device_Device_Blocks : Nat := 91
abbrev f_device_Device_Dead : Nat := 134
abbrev f_device_Device_Flush : Nat := 137
abbrev f_device_Device_Read : Nat := 153
abbrev f_device_Device_Write : Nat := 138
abbrev f_device_Device_done : Nat := 159
abbrev f_inode_Cost : Nat := 155
abbrev f_int_strconv_bool2_int : Nat := 171
abbrev f_int_strconv_formatBase10 : Nat := 149
abbrev f_int_strconv_formatBits : Nat := 150
abbrev f_int_strconv_isPowerOfTwo : Nat := 172
abbrev f_int_strconv_log10Pow2 : Nat := 169
abbrev f_int_strconv_numDigits : Nat := 148
abbrev f_int_strconv_small : Nat := 147
abbrev f_lagoonref12_Local : Nat := 157
abbrev f_lagoonref12_Name : Nat := 131
abbrev f_lagoonref12_older : Nat := 130
abbrev f_lagoonref12_root : Nat := 129
abbrev f_lagoonref12_trash : Nat := 132
abbrev f_lagoonref4_At : Nat := 126
abbrev f_lagoonref4_Less : Nat := 156
abbrev f_lagoonref4_May : Nat := 128
abbrev f_lagoonref4_Norm : Nat := 133
abbrev f_lagoonref4_Valid : Nat := 127
abbrev f_lagoonref4_short : Nat := 158
abbrev f_localfs_file : Nat := 125
abbrev f_localfs_object_kid : Nat := 116
abbrev f_localfs_object_set : Nat := 146
abbrev f_localfs_object_with : Nat := 168
abbrev f_localfs_object_write : Nat := 143
abbrev f_math_bits_Len64 : Nat := 170
abbrev f_math_bits_TrailingZeros : Nat := 173
abbrev f_slices_BinarySearch_string_string : Nat := 151
abbrev f_slices_isNaN_string : Nat := 175
abbrev f_strings_IndexAny : Nat := 140
abbrev f_strings_IndexRune : Nat := 163
abbrev f_strings_asciiSet_contains : Nat := 166
abbrev f_strings_makeASCIISet : Nat := 165
abbrev f_strings_shouldUseASCIISet : Nat := 164
abbrev f_wal_Volume_Commit : Nat := 145
abbrev f_wal_Volume_at : Nat := 136
abbrev f_wal_Volume_dead : Nat := 102
abbrev f_wal_Volume_may : Nat := 167
abbrev f_wal_head : Nat := 139
abbrev f_wal_room : Nat := 152
abbrev f_wal_wrote : Nat := 135
abbrev f_zbyte_Append32 : Nat := 161
abbrev f_zbyte_Append64 : Nat := 160
abbrev f_zbyte_Get32 : Nat := 124

noncomputable def s_bytes_HasPrefix (cf : CallK) (fuel : Nat) (t0 : AV) (t1 : AV) (h : Hp) (K : AV → Hp → Prop) : Prop :=
vLenL2 t0 h fun t6 h =>
vLenL2 t1 h fun t8 h =>
vGeq t6 t8 h fun t9 h =>
joinG (fun g5 => grdV t9 true (vMov t0 h g5) (g5 undefV h)) fun t11 h =>
joinG (fun g4 => grdV t9 true (vMov t1 h g4) (g4 undefV h)) fun t12 h =>
joinG (fun g3 => grdV t9 true (vLenL2 t12 h g3) (g3 undefV h)) fun t13 h =>
joinG (fun g2 => grdV t9 true (vSlice2 1 t11 none (some t13) h g2) (g2 undefV h)) fun t14 h =>
joinG (fun g1 => grdV t9 true (vMov t1 h g1) (g1 undefV h)) fun t15 h =>
joinG (fun g0 => grdV t9 true (cf f_bytes_Equal [t14, t15] h g0) (g0 undefV h)) fun t16 h =>
vPick t9 t16 (.bool .false) h fun t17 h =>
K t17 h
theorem s_bytes_HasPrefix_eq (cf : CallK) (fuel : Nat) (t0 : AV) (t1 : AV) (h : Hp) (K : AV → Hp → Prop) : s_bytes_HasPrefix cf fuel t0 t1 h K = deepT (tabOf Tryz.prog) f_bytes_HasPrefix cf fuel [t0, t1] h K :=
  Eq.trans (by kernel_rfl) (rFun (by kernel_rfl) rExact)

noncomputable def s_zbyte_Get32 (cf : CallK) (fuel : Nat) (t0 : AV) (h : Hp) (K : AV → Hp → Prop) : Prop :=
vIaddr 1 t0 (.int .i64 0) h fun t4 h =>
vLoad2 t4 h fun t5 h =>
vToInt .u32 t5 h fun t6 h =>
vIaddr 1 t0 (.int .i64 1) h fun t8 h =>
vLoad2 t8 h fun t9 h =>
vToInt .u32 t9 h fun t10 h =>
vShl t10 (.int .u64 8) h fun t11 h =>
vBits Nat.lor t6 t11 h fun t12 h =>
vIaddr 1 t0 (.int .i64 2) h fun t14 h =>
vLoad2 t14 h fun t15 h =>
vToInt .u32 t15 h fun t16 h =>
vShl t16 (.int .u64 16) h fun t17 h =>
vBits Nat.lor t12 t17 h fun t18 h =>
vIaddr 1 t0 (.int .i64 3) h fun t20 h =>
vLoad2 t20 h fun t21 h =>
vToInt .u32 t21 h fun t22 h =>
vShl t22 (.int .u64 24) h fun t23 h =>
vBits Nat.lor t18 t23 h fun t24 h =>
K t24 h
theorem s_zbyte_Get32_eq (cf : CallK) (fuel : Nat) (t0 : AV) (h : Hp) (K : AV → Hp → Prop) : s_zbyte_Get32 cf fuel t0 h K = deepT (tabOf Tryz.prog) f_zbyte_Get32 cf fuel [t0] h K :=
  Eq.trans (by kernel_rfl) (rFun (by kernel_rfl) rExact)

noncomputable def s_localfs_file (cf : CallK) (fuel : Nat) (t0 : AV) (h : Hp) (K : AV → Hp → Prop) : Prop :=
vLenL2 t0 h fun t5 h =>
cf f_inode_Cost [t5] h fun t6 h =>
vAdd (.int .i64 1) t6 h fun t7 h =>
vBuild [(.bool .false), .nilslice, .nilslice, .nilslice, (.int .i64 0), (.bool .false)] [(1, 1, t0), (4, 1, t7)] h fun t8 h =>
vBox 6 t8 h fun t9 h =>
K t9 h
theorem s_localfs_file_eq (cf : CallK) (fuel : Nat) (t0 : AV) (h : Hp) (K : AV → Hp → Prop) : s_localfs_file cf fuel t0 h K = deepT (tabOf Tryz.prog) f_localfs_file cf fuel [t0] h K :=
  Eq.trans (by kernel_rfl) (rFun (by kernel_rfl) rExact)

noncomputable def s_lagoonref4_At (cf : CallK) (fuel : Nat) (t0 : AV) (t1 : AV) (h : Hp) (K : AV → Hp → Prop) : Prop :=
vLss t1 (.int .i64 0) h fun t6 h =>
joinG (fun g15 => grdV t6 false (vMov t1 h g15) (g15 undefV h)) fun t8 h =>
joinG (fun g14 => grdV t6 false (vGeq t8 (.int .i64 64) h g14) (g14 undefV h)) fun t9 h =>
vPick t6 (.bool .true) t9 h fun t10 h =>
joinG (fun g13 => grdV t10 false (vMov t1 h g13) (g13 undefV h)) fun t12 h =>
joinG (fun g12 => grdV t10 false (vMov t0 h g12) (g12 undefV h)) fun t13 h =>
joinG (fun g11 => grdV t10 false (vLenL2 t13 h g11) (g11 undefV h)) fun t14 h =>
joinG (fun g10 => grdV t10 false (vGeq t12 t14 h g10) (g10 undefV h)) fun t15 h =>
vPick t10 (.bool .true) t15 h fun t16 h =>
joinG (fun g9 => grdV t16 false (vMov t0 h g9) (g9 undefV h)) fun t18 h =>
joinG (fun g8 => grdV t16 false (vMov t1 h g8) (g8 undefV h)) fun t19 h =>
joinG (fun g7 => grdV t16 false (vIaddr 1 t18 t19 h g7) (g7 undefV h)) fun t20 h =>
joinG (fun g6 => grdV t16 false (vLoad2 t20 h g6) (g6 undefV h)) fun t21 h =>
joinG (fun g5 => grdV t16 false (vLss t21 (.int .i64 0) h g5) (g5 undefV h)) fun t22 h =>
vPick t16 (.bool .true) t22 h fun t23 h =>
joinG (fun g4 => grdV t23 false (vMov t0 h g4) (g4 undefV h)) fun t25 h =>
joinG (fun g3 => grdV t23 false (vMov t1 h g3) (g3 undefV h)) fun t26 h =>
joinG (fun g2 => grdV t23 false (vIaddr 1 t25 t26 h g2) (g2 undefV h)) fun t27 h =>
joinG (fun g1 => grdV t23 false (vLoad2 t27 h g1) (g1 undefV h)) fun t28 h =>
joinG (fun g0 => grdV t23 false (vGtr t28 (.int .i64 1152921504606846976) h g0) (g0 undefV h)) fun t29 h =>
vPick t23 (.bool .true) t29 h fun t30 h =>
vIf t30 (
K (.int .i64 0) h) (
vIaddr 1 t0 t1 h fun t33 h =>
vLoad2 t33 h fun t34 h =>
K t34 h)
theorem s_lagoonref4_At_eq (cf : CallK) (fuel : Nat) (t0 : AV) (t1 : AV) (h : Hp) (K : AV → Hp → Prop) : s_lagoonref4_At cf fuel t0 t1 h K = deepT (tabOf Tryz.prog) f_lagoonref4_At cf fuel [t0, t1] h K :=
  Eq.trans (by kernel_rfl) (rFun (by kernel_rfl) rExact)

noncomputable def s_lagoonref4_Valid (cf : CallK) (fuel : Nat) (t0 : AV) (h : Hp) (K : AV → Hp → Prop) : Prop :=
vBox 2 t0 h fun t1 h =>
vFaddr 0 t1 h fun t3 h =>
vLoad2 t3 h fun t4 h =>
vGeq t4 (.int .i64 1) h fun t5 h =>
joinG (fun g8 => grdV t5 true (vFaddr 0 t1 h g8) (g8 undefV h)) fun t7 h =>
joinG (fun g7 => grdV t5 true (vLoad2 t7 h g7) (g7 undefV h)) fun t8 h =>
joinG (fun g6 => grdV t5 true (vLeq t8 (.int .i64 1152921504606846976) h g6) (g6 undefV h)) fun t9 h =>
vPick t5 t9 (.bool .false) h fun t10 h =>
joinG (fun g5 => grdV t10 true (vFaddr 1 t1 h g5) (g5 undefV h)) fun t12 h =>
joinG (fun g4 => grdV t10 true (vLoad2 t12 h g4) (g4 undefV h)) fun t13 h =>
joinG (fun g3 => grdV t10 true (vGeq t13 (.int .i64 0) h g3) (g3 undefV h)) fun t14 h =>
vPick t10 t14 (.bool .false) h fun t15 h =>
joinG (fun g2 => grdV t15 true (vFaddr 1 t1 h g2) (g2 undefV h)) fun t17 h =>
joinG (fun g1 => grdV t15 true (vLoad2 t17 h g1) (g1 undefV h)) fun t18 h =>
joinG (fun g0 => grdV t15 true (vLss t18 (.int .i64 64) h g0) (g0 undefV h)) fun t19 h =>
vPick t15 t19 (.bool .false) h fun t20 h =>
K t20 h
theorem s_lagoonref4_Valid_eq (cf : CallK) (fuel : Nat) (t0 : AV) (h : Hp) (K : AV → Hp → Prop) : s_lagoonref4_Valid cf fuel t0 h K = deepT (tabOf Tryz.prog) f_lagoonref4_Valid cf fuel [t0] h K :=
  Eq.trans (by kernel_rfl) (rFun (by kernel_rfl) rExact)

noncomputable def s_lagoonref4_MayE1 (cf : CallK) (fuel : Nat) (K : AV → Hp → Prop) : Hp → Prop := fun h =>
K (.bool .true) h
noncomputable def s_lagoonref4_MayB9 (cf : CallK) (fuel : Nat) (K : AV → Hp → Prop) (ih2 : AV → Hp → Prop) (t4 : AV) (t0 : AV) (h : Hp) : Prop :=
(fun (e3 : Hp → Prop) =>
vIaddr 1 t0 t4 h fun t28 h =>
vLoad2 t28 h fun t29 h =>
vLss t29 (.int .i64 0) h fun t30 h =>
joinG (fun g8 => grdV t30 false (vMov t0 h g8) (g8 undefV h)) fun t32 h =>
joinG (fun g7 => grdV t30 false (vMov t4 h g7) (g7 undefV h)) fun t33 h =>
joinG (fun g6 => grdV t30 false (vIaddr 1 t32 t33 h g6) (g6 undefV h)) fun t34 h =>
joinG (fun g5 => grdV t30 false (vLoad2 t34 h g5) (g5 undefV h)) fun t35 h =>
joinG (fun g4 => grdV t30 false (vGtr t35 (.int .i64 1152921504606846976) h g4) (g4 undefV h)) fun t36 h =>
vPick t30 (.bool .true) t36 h fun t37 h =>
vIf t37 (
K (.bool .false) h) (
e3 h)) fun h =>
vAdd t4 (.int .i64 1) h fun t25 h =>
ih2 t25 h
noncomputable def s_lagoonref4_MayL2B (cf : CallK) (fuel : Nat) (K : AV → Hp → Prop) (e1 : Hp → Prop) (t0 : AV) (t3 : AV) (ih2 : AV → Hp → Prop) : AV → Hp → Prop := fun t4 h =>
vLss t4 t3 h fun t23 h =>
vIf t23 (
s_lagoonref4_MayB9 cf fuel K ih2 t4 t0 h) (
e1 h)
noncomputable def s_lagoonref4_MayL2 (cf : CallK) (fuel : Nat) (K : AV → Hp → Prop) (e1 : Hp → Prop) (t0 : AV) (t3 : AV) (m : Nat) : AV → Hp → Prop := Nat.rec (motive := fun _ => AV → Hp → Prop) (fun _ _ => False) (fun _ ih => s_lagoonref4_MayL2B cf fuel K e1 t0 t3 ih) m
theorem s_lagoonref4_MayL2_succ (cf : CallK) (fuel : Nat) (K : AV → Hp → Prop) (e1 : Hp → Prop) (t0 : AV) (t3 : AV) (m : Nat) : s_lagoonref4_MayL2 cf fuel K e1 t0 t3 (m + 1) = s_lagoonref4_MayL2B cf fuel K e1 t0 t3 (s_lagoonref4_MayL2 cf fuel K e1 t0 t3 m) := rfl
noncomputable def s_lagoonref4_MayE0 (cf : CallK) (fuel : Nat) (K : AV → Hp → Prop) (t0 : AV) : AV → Hp → Prop := fun t3 h =>
vGtr t3 (.int .i64 64) h fun t20 h =>
vIf t20 (
K (.bool .false) h) (
(fun (e1 : Hp → Prop) =>
s_lagoonref4_MayL2 cf fuel K (s_lagoonref4_MayE1 cf fuel K) t0 t3 fuel (.int .i64 0) h) (s_lagoonref4_MayE1 cf fuel K))
noncomputable def s_lagoonref4_MayL10B (cf : CallK) (fuel : Nat) (e0 : AV → Hp → Prop) (t0 : AV) (ih10 : AV → Hp → Prop) : AV → Hp → Prop := fun t3 h =>
vGtr t3 (.int .i64 0) h fun t8 h =>
joinG (fun g18 => grdV t8 true (vMov t0 h g18) (g18 undefV h)) fun t10 h =>
joinG (fun g17 => grdV t8 true (vMov t3 h g17) (g17 undefV h)) fun t11 h =>
joinG (fun g16 => grdV t8 true (vArith Go.Am.subI t11 (.int .i64 1) h g16) (g16 undefV h)) fun t12 h =>
joinG (fun g15 => grdV t8 true (vIaddr 1 t10 t12 h g15) (g15 undefV h)) fun t13 h =>
joinG (fun g14 => grdV t8 true (vLoad2 t13 h g14) (g14 undefV h)) fun t14 h =>
joinG (fun g13 => grdV t8 true (vEql t14 (.int .i64 0) h g13) (g13 undefV h)) fun t15 h =>
vPick t8 t15 (.bool .false) h fun t16 h =>
vIf t16 (
(fun (e11 : AV → Hp → Prop) =>
vArith Go.Am.subI t3 (.int .i64 1) h fun t18 h =>
e11 t18 h) fun t3_12 h =>
ih10 t3_12 h) (
e0 t3 h)
noncomputable def s_lagoonref4_MayL10 (cf : CallK) (fuel : Nat) (e0 : AV → Hp → Prop) (t0 : AV) (m : Nat) : AV → Hp → Prop := Nat.rec (motive := fun _ => AV → Hp → Prop) (fun _ _ => False) (fun _ ih => s_lagoonref4_MayL10B cf fuel e0 t0 ih) m
theorem s_lagoonref4_MayL10_succ (cf : CallK) (fuel : Nat) (e0 : AV → Hp → Prop) (t0 : AV) (m : Nat) : s_lagoonref4_MayL10 cf fuel e0 t0 (m + 1) = s_lagoonref4_MayL10B cf fuel e0 t0 (s_lagoonref4_MayL10 cf fuel e0 t0 m) := rfl
noncomputable def s_lagoonref4_May (cf : CallK) (fuel : Nat) (t0 : AV) (h : Hp) (K : AV → Hp → Prop) : Prop :=
vLenL2 t0 h fun t6 h =>
(fun (e0 : AV → Hp → Prop) =>
s_lagoonref4_MayL10 cf fuel (s_lagoonref4_MayE0 cf fuel K t0) t0 fuel t6 h) (s_lagoonref4_MayE0 cf fuel K t0)
theorem s_lagoonref4_May_eq (cf : CallK) (fuel : Nat) (t0 : AV) (h : Hp) (K : AV → Hp → Prop) : s_lagoonref4_May cf fuel t0 h K = deepT (tabOf Tryz.prog) f_lagoonref4_May cf fuel [t0] h K :=
  Eq.trans (by kernel_rfl) (rFun (by kernel_rfl) (rSeq (by kernel_rfl) (rSeq (by kernel_rfl) (rSeq (by kernel_rfl) (rSeq (by kernel_rfl) (rSeq (by kernel_rfl) rExact (rSeq (by kernel_rfl) (rBlock (by kernel_rfl) (rLoop (by kernel_rfl) (fun m2 fr h => s_lagoonref4_MayL2 cf fuel K (s_lagoonref4_MayE1 cf fuel K) (getS fr (gpos 0)) (getS fr (gpos 3)) m2 (getS fr (gpos 4)) h) (funext fun fr => funext fun h => by kernel_rfl) fun m2 => rCast (funext fun fr => funext fun h => by kernel_rfl) rExact)) rExact)) rExact) (rBlock (by kernel_rfl) (rLoop (by kernel_rfl) (fun m10 fr h => s_lagoonref4_MayL10 cf fuel (s_lagoonref4_MayE0 cf fuel K (getS fr (gpos 0))) (getS fr (gpos 0)) m10 (getS fr (gpos 3)) h) (funext fun fr => funext fun h => by kernel_rfl) fun m10 => rCast (funext fun fr => funext fun h => by kernel_rfl) rExact))) rExact) rExact))

noncomputable def s_lagoonref12_root (cf : CallK) (fuel : Nat) (t0 : AV) (h : Hp) (K : AV → Hp → Prop) : Prop :=
vBox 2 t0 h fun t1 h =>
vFaddr 0 t1 h fun t3 h =>
vLoad2 t3 h fun t4 h =>
vEql t4 (.int .i64 0) h fun t5 h =>
joinG (fun g2 => grdV t5 true (vFaddr 1 t1 h g2) (g2 undefV h)) fun t7 h =>
joinG (fun g1 => grdV t5 true (vLoad2 t7 h g1) (g1 undefV h)) fun t8 h =>
joinG (fun g0 => grdV t5 true (vEql t8 (.int .i64 0) h g0) (g0 undefV h)) fun t9 h =>
vPick t5 t9 (.bool .false) h fun t10 h =>
K t10 h
theorem s_lagoonref12_root_eq (cf : CallK) (fuel : Nat) (t0 : AV) (h : Hp) (K : AV → Hp → Prop) : s_lagoonref12_root cf fuel t0 h K = deepT (tabOf Tryz.prog) f_lagoonref12_root cf fuel [t0] h K :=
  Eq.trans (by kernel_rfl) (rFun (by kernel_rfl) rExact)

noncomputable def s_lagoonref12_older (cf : CallK) (fuel : Nat) (t0 : AV) (t1 : AV) (h : Hp) (K : AV → Hp → Prop) : Prop :=
vBox 2 t0 h fun t2 h =>
vBox 2 t1 h fun t3 h =>
vLoadA 2 t2 h fun t5 h =>
cf f_lagoonref4_Valid [t5] h fun t6 h =>
joinG (fun g2 => grdV t6 true (vLoadA 2 t2 h g2) (g2 undefV h)) fun t8 h =>
joinG (fun g1 => grdV t6 true (vLoadA 2 t3 h g1) (g1 undefV h)) fun t9 h =>
joinG (fun g0 => grdV t6 true (cf f_lagoonref4_Less [t8, t9] h g0) (g0 undefV h)) fun t10 h =>
vPick t6 t10 (.bool .false) h fun t11 h =>
K t11 h
theorem s_lagoonref12_older_eq (cf : CallK) (fuel : Nat) (t0 : AV) (t1 : AV) (h : Hp) (K : AV → Hp → Prop) : s_lagoonref12_older cf fuel t0 t1 h K = deepT (tabOf Tryz.prog) f_lagoonref12_older cf fuel [t0, t1] h K :=
  Eq.trans (by kernel_rfl) (rFun (by kernel_rfl) rExact)

noncomputable def s_lagoonref12_NameE0 (cf : CallK) (fuel : Nat) (K : AV → Hp → Prop) (t0 : AV) : Hp → Prop := fun h =>
cf f_lagoonref12_Local [t0] h fun t15 h =>
K t15 h
noncomputable def s_lagoonref12_NameL1B (cf : CallK) (fuel : Nat) (K : AV → Hp → Prop) (e0 : Hp → Prop) (t0 : AV) (ih1 : AV → Hp → Prop) : AV → Hp → Prop := fun t3 h =>
vLenS t0 h fun t6 h =>
vLss t3 t6 h fun t7 h =>
vIf t7 (
(fun (e2 : Hp → Prop) =>
vIdxS t0 t3 h fun t12 h =>
vEql t12 (.int .u8 1) h fun t13 h =>
vIf t13 (
K (.int .i64 22) h) (
e2 h)) fun h =>
vAdd t3 (.int .i64 1) h fun t9 h =>
ih1 t9 h) (
e0 h)
noncomputable def s_lagoonref12_NameL1 (cf : CallK) (fuel : Nat) (K : AV → Hp → Prop) (e0 : Hp → Prop) (t0 : AV) (m : Nat) : AV → Hp → Prop := Nat.rec (motive := fun _ => AV → Hp → Prop) (fun _ _ => False) (fun _ ih => s_lagoonref12_NameL1B cf fuel K e0 t0 ih) m
theorem s_lagoonref12_NameL1_succ (cf : CallK) (fuel : Nat) (K : AV → Hp → Prop) (e0 : Hp → Prop) (t0 : AV) (m : Nat) : s_lagoonref12_NameL1 cf fuel K e0 t0 (m + 1) = s_lagoonref12_NameL1B cf fuel K e0 t0 (s_lagoonref12_NameL1 cf fuel K e0 t0 m) := rfl
noncomputable def s_lagoonref12_Name (cf : CallK) (fuel : Nat) (t0 : AV) (h : Hp) (K : AV → Hp → Prop) : Prop :=
(fun (e0 : Hp → Prop) =>
s_lagoonref12_NameL1 cf fuel K (s_lagoonref12_NameE0 cf fuel K t0) t0 fuel (.int .i64 0) h) (s_lagoonref12_NameE0 cf fuel K t0)
theorem s_lagoonref12_Name_eq (cf : CallK) (fuel : Nat) (t0 : AV) (h : Hp) (K : AV → Hp → Prop) : s_lagoonref12_Name cf fuel t0 h K = deepT (tabOf Tryz.prog) f_lagoonref12_Name cf fuel [t0] h K :=
  Eq.trans (by kernel_rfl) (rFun (by kernel_rfl) (rSeq (by kernel_rfl) (rSeq (by kernel_rfl) rExact (rSeq (by kernel_rfl) (rBlock (by kernel_rfl) (rLoop (by kernel_rfl) (fun m1 fr h => s_lagoonref12_NameL1 cf fuel K (s_lagoonref12_NameE0 cf fuel K (getS fr (gpos 0))) (getS fr (gpos 0)) m1 (getS fr (gpos 3)) h) (funext fun fr => funext fun h => by kernel_rfl) fun m1 => rCast (funext fun fr => funext fun h => by kernel_rfl) rExact)) rExact)) rExact))

noncomputable def s_lagoonref12_trash (cf : CallK) (fuel : Nat) (t0 : AV) (h : Hp) (K : AV → Hp → Prop) : Prop :=
vBox 2 t0 h fun t1 h =>
vFaddr 0 t1 h fun t3 h =>
vLoad2 t3 h fun t4 h =>
vEql t4 (.int .i64 0) h fun t5 h =>
joinG (fun g2 => grdV t5 true (vFaddr 1 t1 h g2) (g2 undefV h)) fun t7 h =>
joinG (fun g1 => grdV t5 true (vLoad2 t7 h g1) (g1 undefV h)) fun t8 h =>
joinG (fun g0 => grdV t5 true (vEql t8 (.int .i64 1) h g0) (g0 undefV h)) fun t9 h =>
vPick t5 t9 (.bool .false) h fun t10 h =>
K t10 h
theorem s_lagoonref12_trash_eq (cf : CallK) (fuel : Nat) (t0 : AV) (h : Hp) (K : AV → Hp → Prop) : s_lagoonref12_trash cf fuel t0 h K = deepT (tabOf Tryz.prog) f_lagoonref12_trash cf fuel [t0] h K :=
  Eq.trans (by kernel_rfl) (rFun (by kernel_rfl) rExact)

noncomputable def s_lagoonref4_NormE0 (cf : CallK) (fuel : Nat) (K : AV → Hp → Prop) : AV → Hp → Prop := fun t3 h =>
cf f_lagoonref4_short [t3] h fun t16 h =>
K t16 h
noncomputable def s_lagoonref4_NormL1B (cf : CallK) (fuel : Nat) (e0 : AV → Hp → Prop) (t0 : AV) (ih1 : AV → AV → Hp → Prop) : AV → AV → Hp → Prop := fun t3 t4 h =>
vLss t4 (.int .i64 64) h fun t6 h =>
vIf t6 (
(fun (e2 : AV → Hp → Prop) =>
cf f_lagoonref4_At [t0, t4] h fun t12 h =>
vBslice 1 1 false [(.int .i64 0)] [(0, 1, t12)] h fun t13 h =>
vAppend2 1 8 false t3 t13 h fun t14 h =>
e2 t14 h) fun t3 h =>
vAdd t4 (.int .i64 1) h fun t8 h =>
ih1 t3 t8 h) (
e0 t3 h)
noncomputable def s_lagoonref4_NormL1 (cf : CallK) (fuel : Nat) (e0 : AV → Hp → Prop) (t0 : AV) (m : Nat) : AV → AV → Hp → Prop := Nat.rec (motive := fun _ => AV → AV → Hp → Prop) (fun _ _ _ => False) (fun _ ih => s_lagoonref4_NormL1B cf fuel e0 t0 ih) m
theorem s_lagoonref4_NormL1_succ (cf : CallK) (fuel : Nat) (e0 : AV → Hp → Prop) (t0 : AV) (m : Nat) : s_lagoonref4_NormL1 cf fuel e0 t0 (m + 1) = s_lagoonref4_NormL1B cf fuel e0 t0 (s_lagoonref4_NormL1 cf fuel e0 t0 m) := rfl
noncomputable def s_lagoonref4_Norm (cf : CallK) (fuel : Nat) (t0 : AV) (h : Hp) (K : AV → Hp → Prop) : Prop :=
(fun (e0 : AV → Hp → Prop) =>
s_lagoonref4_NormL1 cf fuel (s_lagoonref4_NormE0 cf fuel K) t0 fuel .nilslice (.int .i64 0) h) (s_lagoonref4_NormE0 cf fuel K)
theorem s_lagoonref4_Norm_eq (cf : CallK) (fuel : Nat) (t0 : AV) (h : Hp) (K : AV → Hp → Prop) : s_lagoonref4_Norm cf fuel t0 h K = deepT (tabOf Tryz.prog) f_lagoonref4_Norm cf fuel [t0] h K :=
  Eq.trans (by kernel_rfl) (rFun (by kernel_rfl) (rSeq (by kernel_rfl) (rSeq (by kernel_rfl) (rSeq (by kernel_rfl) rExact (rSeq (by kernel_rfl) (rBlock (by kernel_rfl) (rLoop (by kernel_rfl) (fun m1 fr h => s_lagoonref4_NormL1 cf fuel (s_lagoonref4_NormE0 cf fuel K) (getS fr (gpos 0)) m1 (getS fr (gpos 3)) (getS fr (gpos 4)) h) (funext fun fr => funext fun h => by kernel_rfl) fun m1 => rCast (funext fun fr => funext fun h => by kernel_rfl) rExact)) rExact)) rExact) rExact))

noncomputable def s_device_Device_Dead (cf : CallK) (fuel : Nat) (t0 : AV) (h : Hp) (K : AV → Hp → Prop) : Prop :=
vEq false eqP t0 .nilptr h fun t4 h =>
joinG (fun g3 => grdV t4 false (vMov t0 h g3) (g3 undefV h)) fun t6 h =>
joinG (fun g2 => grdV t4 false (vNilck t6 h g2) (g2 undefV h)) fun t7 h =>
joinG (fun g1 => grdV t4 false (vFaddr 3 t7 h g1) (g1 undefV h)) fun t8 h =>
joinG (fun g0 => grdV t4 false (vLoad2 t8 h g0) (g0 undefV h)) fun t9 h =>
vPick t4 (.bool .true) t9 h fun t10 h =>
K t10 h
theorem s_device_Device_Dead_eq (cf : CallK) (fuel : Nat) (t0 : AV) (h : Hp) (K : AV → Hp → Prop) : s_device_Device_Dead cf fuel t0 h K = deepT (tabOf Tryz.prog) f_device_Device_Dead cf fuel [t0] h K :=
  Eq.trans (by kernel_rfl) (rFun (by kernel_rfl) rExact)

noncomputable def s_wal_wrote (cf : CallK) (fuel : Nat) (t0 : AV) (t1 : AV) (t2 : AV) (h : Hp) (K : AV → Hp → Prop) : Prop :=
cf f_device_Device_Read [t0, t1] h fun t12 h =>
vExtract 0 t12 h fun t13 h =>
vExtract 1 t12 h fun t14 h =>
vEql t14 (.int .i64 0) h fun t16 h =>
joinG (fun g2 => grdV t16 true (vMov t13 h g2) (g2 undefV h)) fun t18 h =>
joinG (fun g1 => grdV t16 true (vMov t2 h g1) (g1 undefV h)) fun t19 h =>
joinG (fun g0 => grdV t16 true (cf f_bytes_Equal [t18, t19] h g0) (g0 undefV h)) fun t20 h =>
vPick t16 t20 (.bool .false) h fun t21 h =>
vIf t21 (
K (.int .i64 0) h) (
cf f_device_Device_Write [t0, t1, t2] h fun t25 h =>
K t25 h)
theorem s_wal_wrote_eq (cf : CallK) (fuel : Nat) (t0 : AV) (t1 : AV) (t2 : AV) (h : Hp) (K : AV → Hp → Prop) : s_wal_wrote cf fuel t0 t1 t2 h K = deepT (tabOf Tryz.prog) f_wal_wrote cf fuel [t0, t1, t2] h K :=
  Eq.trans (by kernel_rfl) (rFun (by kernel_rfl) rExact)

noncomputable def s_wal_Volume_at (cf : CallK) (fuel : Nat) (t0 : AV) (t1 : AV) (t2 : AV) (h : Hp) (K : AV → Hp → Prop) : Prop :=
vDiv true t1 (.int .i64 2) h fun t8 h =>
vNilck t0 h fun t10 h =>
vFaddr 1 t10 h fun t11 h =>
vLoad2 t11 h fun t12 h =>
vLenL2 t12 h fun t13 h =>
vArith Go.Am.mulI t8 t13 h fun t14 h =>
vAdd (.int .i64 8) t14 h fun t15 h =>
vAdd t15 t2 h fun t17 h =>
K t17 h
theorem s_wal_Volume_at_eq (cf : CallK) (fuel : Nat) (t0 : AV) (t1 : AV) (t2 : AV) (h : Hp) (K : AV → Hp → Prop) : s_wal_Volume_at cf fuel t0 t1 t2 h K = deepT (tabOf Tryz.prog) f_wal_Volume_at cf fuel [t0, t1, t2] h K :=
  Eq.trans (by kernel_rfl) (rFun (by kernel_rfl) rExact)

noncomputable def s_device_Device_FlushE0 (cf : CallK) (fuel : Nat) (K : AV → Hp → Prop) (t0 : AV) : Hp → Prop := fun h =>
cf f_device_Device_done [t0] h fun t38 h =>
K t38 h
noncomputable def s_device_Device_FlushB3 (cf : CallK) (fuel : Nat) (ih1 : AV → Hp → Prop) (t0 : AV) (t11 : AV) (h : Hp) : Prop :=
(fun (e2 : Hp → Prop) =>
vNilck t0 h fun t15 h =>
vFaddr 0 t15 h fun t16 h =>
vLoad2 t16 h fun t17 h =>
vNilck t0 h fun t20 h =>
vFaddr 0 t20 h fun t21 h =>
vLoad2 t21 h fun t22 h =>
vNilck t0 h fun t25 h =>
vFaddr 0 t25 h fun t26 h =>
vLoad2 t26 h fun t27 h =>
vIaddr 3 t27 t11 h fun t29 h =>
vFaddr 0 t29 h fun t30 h =>
vLoad2 t30 h fun t31 h =>
vIaddr 3 t17 t11 h fun t32 h =>
vFaddr 1 t32 h fun t33 h =>
vStore 1 t33 t31 h fun _ h =>
vIaddr 3 t22 t11 h fun t34 h =>
vFaddr 2 t34 h fun t35 h =>
vStore 1 t35 (.bool .false) h fun _ h =>
e2 h) fun h =>
vAdd t11 (.int .i64 1) h fun t36 h =>
ih1 t36 h
noncomputable def s_device_Device_FlushL1B (cf : CallK) (fuel : Nat) (e0 : Hp → Prop) (t0 : AV) (t10 : AV) (ih1 : AV → Hp → Prop) : AV → Hp → Prop := fun t11 h =>
vLss t11 t10 h fun t12 h =>
vIf t12 (
s_device_Device_FlushB3 cf fuel ih1 t0 t11 h) (
e0 h)
noncomputable def s_device_Device_FlushL1 (cf : CallK) (fuel : Nat) (e0 : Hp → Prop) (t0 : AV) (t10 : AV) (m : Nat) : AV → Hp → Prop := Nat.rec (motive := fun _ => AV → Hp → Prop) (fun _ _ => False) (fun _ ih => s_device_Device_FlushL1B cf fuel e0 t0 t10 ih) m
theorem s_device_Device_FlushL1_succ (cf : CallK) (fuel : Nat) (e0 : Hp → Prop) (t0 : AV) (t10 : AV) (m : Nat) : s_device_Device_FlushL1 cf fuel e0 t0 t10 (m + 1) = s_device_Device_FlushL1B cf fuel e0 t0 t10 (s_device_Device_FlushL1 cf fuel e0 t0 t10 m) := rfl
noncomputable def s_device_Device_Flush (cf : CallK) (fuel : Nat) (t0 : AV) (h : Hp) (K : AV → Hp → Prop) : Prop :=
cf f_device_Device_Dead [t0] h fun t5 h =>
vIf t5 (
K (.int .i64 5) h) (
vNilck t0 h fun t7 h =>
vFaddr 0 t7 h fun t8 h =>
vLoad2 t8 h fun t9 h =>
vLenL2 t9 h fun t10 h =>
(fun (e0 : Hp → Prop) =>
s_device_Device_FlushL1 cf fuel (s_device_Device_FlushE0 cf fuel K t0) t0 t10 fuel (.int .i64 0) h) (s_device_Device_FlushE0 cf fuel K t0))
theorem s_device_Device_Flush_eq (cf : CallK) (fuel : Nat) (t0 : AV) (h : Hp) (K : AV → Hp → Prop) : s_device_Device_Flush cf fuel t0 h K = deepT (tabOf Tryz.prog) f_device_Device_Flush cf fuel [t0] h K :=
  Eq.trans (by kernel_rfl) (rFun (by kernel_rfl) (rSeq (by kernel_rfl) (rSeq (by kernel_rfl) (rSeq (by kernel_rfl) rExact (rSeq (by kernel_rfl) (rBlock (by kernel_rfl) (rLoop (by kernel_rfl) (fun m1 fr h => s_device_Device_FlushL1 cf fuel (s_device_Device_FlushE0 cf fuel K (getS fr (gpos 0))) (getS fr (gpos 0)) (getS fr (gpos 10)) m1 (getS fr (gpos 11)) h) (funext fun fr => funext fun h => by kernel_rfl) fun m1 => rCast (funext fun fr => funext fun h => by kernel_rfl) rExact)) rExact)) rExact) rExact))

noncomputable def s_device_Device_WriteB11 (cf : CallK) (fuel : Nat) (K : AV → Hp → Prop) (e0 : Hp → Prop) (t0 : AV) (t1 : AV) (t2 : AV) (h : Hp) : Prop :=
vLss t1 (.int .i64 0) h fun t12 h =>
joinG (fun g10 => grdV t12 false (vMov t1 h g10) (g10 undefV h)) fun t14 h =>
joinG (fun g9 => grdV t12 false (vMov t0 h g9) (g9 undefV h)) fun t15 h =>
joinG (fun g8 => grdV t12 false (vNilck t15 h g8) (g8 undefV h)) fun t16 h =>
joinG (fun g7 => grdV t12 false (vFaddr 0 t16 h g7) (g7 undefV h)) fun t17 h =>
joinG (fun g6 => grdV t12 false (vLoad2 t17 h g6) (g6 undefV h)) fun t18 h =>
joinG (fun g5 => grdV t12 false (vLenL2 t18 h g5) (g5 undefV h)) fun t19 h =>
joinG (fun g4 => grdV t12 false (vGeq t14 t19 h g4) (g4 undefV h)) fun t20 h =>
vPick t12 (.bool .true) t20 h fun t21 h =>
joinG (fun g3 => grdV t21 false (vMov t2 h g3) (g3 undefV h)) fun t23 h =>
joinG (fun g2 => grdV t21 false (vLenL2 t23 h g2) (g2 undefV h)) fun t24 h =>
joinG (fun g1 => grdV t21 false (vNeq t24 (.int .i64 512) h g1) (g1 undefV h)) fun t25 h =>
vPick t21 (.bool .true) t25 h fun t26 h =>
vIf t26 (
K (.int .i64 22) h) (
e0 h)
noncomputable def s_device_Device_Write (cf : CallK) (fuel : Nat) (t0 : AV) (t1 : AV) (t2 : AV) (h : Hp) (K : AV → Hp → Prop) : Prop :=
(fun (e0 : Hp → Prop) =>
cf f_device_Device_Dead [t0] h fun t9 h =>
vIf t9 (
K (.int .i64 5) h) (
s_device_Device_WriteB11 cf fuel K e0 t0 t1 t2 h)) fun h =>
vNilck t0 h fun t28 h =>
vFaddr 0 t28 h fun t29 h =>
vLoad2 t29 h fun t30 h =>
vNilck t0 h fun t33 h =>
vFaddr 0 t33 h fun t34 h =>
vLoad2 t34 h fun t35 h =>
cf f_bytes_Clone [t2] h fun t38 h =>
vLoad2 t29 h fun c _ => gd (sameV c t30) (
vLoad2 t34 h fun c _ => gd (sameV c t35) (
vIaddr 3 t30 t1 h fun t39 h =>
vFaddr 0 t39 h fun t40 h =>
vStore 1 t40 t38 h fun _ h =>
vIaddr 3 t35 t1 h fun t41 h =>
vFaddr 2 t41 h fun t42 h =>
vStore 1 t42 (.bool .true) h fun _ h =>
cf f_device_Device_done [t0] h fun t44 h =>
K t44 h))
theorem s_device_Device_Write_eq (cf : CallK) (fuel : Nat) (t0 : AV) (t1 : AV) (t2 : AV) (h : Hp) (K : AV → Hp → Prop) : s_device_Device_Write cf fuel t0 t1 t2 h K = deepT (tabOf Tryz.prog) f_device_Device_Write cf fuel [t0, t1, t2] h K :=
  Eq.trans (by kernel_rfl) (rFun (by kernel_rfl) rExact)

noncomputable def s_wal_head (cf : CallK) (fuel : Nat) (t0 : AV) (t1 : AV) (h : Hp) (K : AV → Hp → Prop) : Prop :=
vBslice 1 16 true [(.int .u8 0)] [(0, 1, (.int .u8 108)), (1, 1, (.int .u8 97)), (2, 1, (.int .u8 103)), (3, 1, (.int .u8 111)), (4, 1, (.int .u8 111)), (5, 1, (.int .u8 110)), (6, 1, (.int .u8 39)), (7, 1, (.int .u8 115)), (8, 1, (.int .u8 32)), (9, 1, (.int .u8 118)), (10, 1, (.int .u8 111)), (11, 1, (.int .u8 108)), (12, 1, (.int .u8 117)), (13, 1, (.int .u8 109)), (14, 1, (.int .u8 101)), (15, 1, (.int .u8 10))] h fun t6 h =>
vStrish t6 h fun t7 h =>
vToInt .u64 t0 h fun t9 h =>
cf f_zbyte_Append64 [t7, t9] h fun t10 h =>
vToInt .u64 t1 h fun t13 h =>
cf f_zbyte_Append64 [t10, t13] h fun t14 h =>
vBslice 1 1 false [.nilslice] [(0, 1, t14)] h fun t17 h =>
cf f_crc_Of [t17] h fun t18 h =>
cf f_zbyte_Append32 [t14, t18] h fun t19 h =>
vLenL2 t19 h fun t22 h =>
vArith Go.Am.subI (.int .i64 512) t22 h fun t23 h =>
vAppendZ 1 1 true [(.int .u8 0)] t19 t23 h fun t24 h =>
K t24 h
theorem s_wal_head_eq (cf : CallK) (fuel : Nat) (t0 : AV) (t1 : AV) (h : Hp) (K : AV → Hp → Prop) : s_wal_head cf fuel t0 t1 h K = deepT (tabOf Tryz.prog) f_wal_head cf fuel [t0, t1] h K :=
  Eq.trans (by kernel_rfl) (rFun (by kernel_rfl) rExact)

noncomputable def s_strings_IndexAnyE2 (cf : CallK) (fuel : Nat) (K : AV → Hp → Prop) : Hp → Prop := fun h =>
K (.int .i64 (-1)) h
noncomputable def s_strings_IndexAnyL3B (cf : CallK) (fuel : Nat) (K : AV → Hp → Prop) (e2 : Hp → Prop) (t1 : AV) (t45 : AV) (ih3 : Hp → Prop) : Hp → Prop := fun h =>
vNextS t45 h fun t46 h =>
vExtract 0 t46 h fun t47 h =>
vIf t47 (
(fun (e4 : Hp → Prop) =>
vExtract 1 t46 h fun t48 h =>
vExtract 2 t46 h fun t49 h =>
cf f_strings_IndexRune [t1, t49] h fun t52 h =>
vGeq t52 (.int .i64 0) h fun t53 h =>
vIf t53 (
K t48 h) (
e4 h)) fun h =>
ih3 h) (
e2 h)
noncomputable def s_strings_IndexAnyL3 (cf : CallK) (fuel : Nat) (K : AV → Hp → Prop) (e2 : Hp → Prop) (t1 : AV) (t45 : AV) (m : Nat) : Hp → Prop := Nat.rec (motive := fun _ => Hp → Prop) (fun _ => False) (fun _ ih => s_strings_IndexAnyL3B cf fuel K e2 t1 t45 ih) m
theorem s_strings_IndexAnyL3_succ (cf : CallK) (fuel : Nat) (K : AV → Hp → Prop) (e2 : Hp → Prop) (t1 : AV) (t45 : AV) (m : Nat) : s_strings_IndexAnyL3 cf fuel K e2 t1 t45 (m + 1) = s_strings_IndexAnyL3B cf fuel K e2 t1 t45 (s_strings_IndexAnyL3 cf fuel K e2 t1 t45 m) := rfl
noncomputable def s_strings_IndexAnyJ1 (cf : CallK) (fuel : Nat) (K : AV → Hp → Prop) (t0 : AV) (t1 : AV) : Hp → Prop := fun h =>
vRangeS t0 h fun t45 h =>
(fun (e2 : Hp → Prop) =>
s_strings_IndexAnyL3 cf fuel K (s_strings_IndexAnyE2 cf fuel K) t1 t45 fuel h) (s_strings_IndexAnyE2 cf fuel K)
noncomputable def s_strings_IndexAnyE5 (cf : CallK) (fuel : Nat) (K : AV → Hp → Prop) : Hp → Prop := fun h =>
K (.int .i64 (-1)) h
noncomputable def s_strings_IndexAnyL6B (cf : CallK) (fuel : Nat) (K : AV → Hp → Prop) (e5 : Hp → Prop) (t0 : AV) (t6 : AV) (ih6 : AV → Hp → Prop) : AV → Hp → Prop := fun t8 h =>
vLenS t0 h fun t35 h =>
vLss t8 t35 h fun t36 h =>
vIf t36 (
(fun (e7 : Hp → Prop) =>
vIdxS t0 t8 h fun t41 h =>
cf f_strings_asciiSet_contains [t6, t41] h fun t42 h =>
vIf t42 (
K t8 h) (
e7 h)) fun h =>
vAdd t8 (.int .i64 1) h fun t38 h =>
ih6 t38 h) (
e5 h)
noncomputable def s_strings_IndexAnyL6 (cf : CallK) (fuel : Nat) (K : AV → Hp → Prop) (e5 : Hp → Prop) (t0 : AV) (t6 : AV) (m : Nat) : AV → Hp → Prop := Nat.rec (motive := fun _ => AV → Hp → Prop) (fun _ _ => False) (fun _ ih => s_strings_IndexAnyL6B cf fuel K e5 t0 t6 ih) m
theorem s_strings_IndexAnyL6_succ (cf : CallK) (fuel : Nat) (K : AV → Hp → Prop) (e5 : Hp → Prop) (t0 : AV) (t6 : AV) (m : Nat) : s_strings_IndexAnyL6 cf fuel K e5 t0 t6 (m + 1) = s_strings_IndexAnyL6B cf fuel K e5 t0 t6 (s_strings_IndexAnyL6 cf fuel K e5 t0 t6 m) := rfl
noncomputable def s_strings_IndexAnyB8 (cf : CallK) (fuel : Nat) (K : AV → Hp → Prop) (t1 : AV) (t0 : AV) (h : Hp) : Prop :=
vLenS t1 h fun t14 h =>
vEql t14 (.int .i64 1) h fun t15 h =>
vIf t15 (
vIdxS t1 (.int .i64 0) h fun t17 h =>
vToInt .i32 t17 h fun t18 h =>
(fun (j0 : AV → Hp → Prop) =>
vGeq t18 (.int .i32 128) h fun t20 h =>
vIf t20 (
j0 (.int .i32 65533) h) (
j0 t18 h)) fun t5 h =>
cf f_strings_IndexRune [t0, t5] h fun t23 h =>
K t23 h) (
(fun (j1 : Hp → Prop) =>
vLenS t0 h fun t25 h =>
cf f_strings_shouldUseASCIISet [t25] h fun t26 h =>
vIf t26 (
cf f_strings_makeASCIISet [t1] h fun t29 h =>
vExtract 0 t29 h fun t30 h =>
vExtract 1 t29 h fun t31 h =>
vBox 256 (.agg (List.replicate 256 (.bool .false))) h fun t6 h =>
vStore 256 t6 t30 h fun _ h =>
vIf t31 (
(fun (e5 : Hp → Prop) =>
s_strings_IndexAnyL6 cf fuel K (s_strings_IndexAnyE5 cf fuel K) t0 t6 fuel (.int .i64 0) h) (s_strings_IndexAnyE5 cf fuel K)) (
j1 h)) (
j1 h)) (s_strings_IndexAnyJ1 cf fuel K t0 t1))
noncomputable def s_strings_IndexAny (cf : CallK) (fuel : Nat) (t0 : AV) (t1 : AV) (h : Hp) (K : AV → Hp → Prop) : Prop :=
vEql t1 (.str 0 0) h fun t12 h =>
vIf t12 (
K (.int .i64 (-1)) h) (
s_strings_IndexAnyB8 cf fuel K t1 t0 h)
theorem s_strings_IndexAny_eq (cf : CallK) (fuel : Nat) (t0 : AV) (t1 : AV) (h : Hp) (K : AV → Hp → Prop) : s_strings_IndexAny cf fuel t0 t1 h K = deepT (tabOf Tryz.prog) f_strings_IndexAny cf fuel [t0, t1] h K :=
  Eq.trans (by kernel_rfl) (rFun (by kernel_rfl) (rSeq (by kernel_rfl) (rSeq (by kernel_rfl) (rSeq (by kernel_rfl) (rSeq (by kernel_rfl) (rSeq (by kernel_rfl) rExact (rSeq (by kernel_rfl) (rBlock (by kernel_rfl) (rLoop (by kernel_rfl) (fun m3 fr h => s_strings_IndexAnyL3 cf fuel K (s_strings_IndexAnyE2 cf fuel K) (getS fr (gpos 1)) (getS fr (gpos 45)) m3 h) (funext fun fr => funext fun h => by kernel_rfl) fun m3 => rCast (funext fun fr => funext fun h => by kernel_rfl) rExact)) rExact)) (rSeq (by kernel_rfl) (rCond (by kernel_rfl) (rSeq (by kernel_rfl) (rSeq (by kernel_rfl) (rCond (by kernel_rfl) (rSeq (by kernel_rfl) rExact (rSeq (by kernel_rfl) (rBlock (by kernel_rfl) (rLoop (by kernel_rfl) (fun m6 fr h => s_strings_IndexAnyL6 cf fuel K (s_strings_IndexAnyE5 cf fuel K) (getS fr (gpos 0)) (getS fr (gpos 6)) m6 (getS fr (gpos 8)) h) (funext fun fr => funext fun h => by kernel_rfl) fun m6 => rCast (funext fun fr => funext fun h => by kernel_rfl) rExact)) rExact)) rExact) rExact) rExact) rExact) rExact)) rExact) rExact) rExact))

noncomputable def s_cmp_isNaN_int64 (cf : CallK) (fuel : Nat) (t0 : AV) (h : Hp) (K : AV → Hp → Prop) : Prop :=
vNeq t0 t0 h fun t5 h =>
K t5 h
theorem s_cmp_isNaN_int64_eq (cf : CallK) (fuel : Nat) (t0 : AV) (h : Hp) (K : AV → Hp → Prop) : s_cmp_isNaN_int64 cf fuel t0 h K = deepT (tabOf Tryz.prog) f_cmp_isNaN_int64 cf fuel [t0] h K :=
  Eq.trans (by kernel_rfl) (rFun (by kernel_rfl) rExact)

noncomputable def s_cmp_isNaN_int (cf : CallK) (fuel : Nat) (t0 : AV) (h : Hp) (K : AV → Hp → Prop) : Prop :=
vNeq t0 t0 h fun t5 h =>
K t5 h
theorem s_cmp_isNaN_int_eq (cf : CallK) (fuel : Nat) (t0 : AV) (h : Hp) (K : AV → Hp → Prop) : s_cmp_isNaN_int cf fuel t0 h K = deepT (tabOf Tryz.prog) f_cmp_isNaN_int cf fuel [t0] h K :=
  Eq.trans (by kernel_rfl) (rFun (by kernel_rfl) rExact)

noncomputable def s_localfs_object_writeE0 (cf : CallK) (fuel : Nat) (K : AV → Hp → Prop) : AV → Hp → Prop := fun t1 h =>
K t1 h
noncomputable def s_localfs_object_writeB3 (cf : CallK) (fuel : Nat) (ih1 : AV → AV → Hp → Prop) (t0 : AV) (t41 : AV) (t1 : AV) (t43 : AV) (h : Hp) : Prop :=
(fun (e2 : AV → Hp → Prop) =>
vIaddr 1 t41 t43 h fun t46 h =>
vLoad2 t46 h fun t47 h =>
vLenS t47 h fun t50 h =>
vToInt .u8 t50 h fun t51 h =>
vBslice 1 1 true [(.int .u8 0)] [(0, 1, t51)] h fun t52 h =>
vAppend2 1 1 true t1 t52 h fun t53 h =>
vAppend2 1 1 true t53 t47 h fun t55 h =>
vNilck t0 h fun t57 h =>
vFaddr 3 t57 h fun t58 h =>
vLoad2 t58 h fun t59 h =>
vIaddr 1 t59 t43 h fun t61 h =>
vLoad2 t61 h fun t62 h =>
cf f_localfs_object_write [t62, t55] h fun t64 h =>
e2 t64 h) fun t1 h =>
vAdd t43 (.int .i64 1) h fun t65 h =>
ih1 t1 t65 h
noncomputable def s_localfs_object_writeL1B (cf : CallK) (fuel : Nat) (e0 : AV → Hp → Prop) (t0 : AV) (t41 : AV) (t42 : AV) (ih1 : AV → AV → Hp → Prop) : AV → AV → Hp → Prop := fun t1 t43 h =>
vLss t43 t42 h fun t44 h =>
vIf t44 (
s_localfs_object_writeB3 cf fuel ih1 t0 t41 t1 t43 h) (
e0 t1 h)
noncomputable def s_localfs_object_writeL1 (cf : CallK) (fuel : Nat) (e0 : AV → Hp → Prop) (t0 : AV) (t41 : AV) (t42 : AV) (m : Nat) : AV → AV → Hp → Prop := Nat.rec (motive := fun _ => AV → AV → Hp → Prop) (fun _ _ _ => False) (fun _ ih => s_localfs_object_writeL1B cf fuel e0 t0 t41 t42 ih) m
theorem s_localfs_object_writeL1_succ (cf : CallK) (fuel : Nat) (e0 : AV → Hp → Prop) (t0 : AV) (t41 : AV) (t42 : AV) (m : Nat) : s_localfs_object_writeL1 cf fuel e0 t0 t41 t42 (m + 1) = s_localfs_object_writeL1B cf fuel e0 t0 t41 t42 (s_localfs_object_writeL1 cf fuel e0 t0 t41 t42 m) := rfl
noncomputable def s_localfs_object_writeB4 (cf : CallK) (fuel : Nat) (K : AV → Hp → Prop) (t0 : AV) (t1 : AV) (h : Hp) : Prop :=
vNilck t0 h fun t16 h =>
vFaddr 1 t16 h fun t17 h =>
vLoad2 t17 h fun t18 h =>
vLenL2 t18 h fun t19 h =>
vToInt .u32 t19 h fun t20 h =>
vBslice 1 1 true [(.int .u8 0)] [(0, 1, (.int .u8 1))] h fun t13 h =>
vLoad2 t17 h fun c _ => gd (sameV c t18) (
vAppend2 1 1 true t1 t13 h fun t14 h =>
vLoad2 t17 h fun c _ => gd (sameV c t18) (
cf f_zbyte_Append32 [t14, t20] h fun t21 h =>
vNilck t0 h fun t24 h =>
vFaddr 1 t24 h fun t25 h =>
vLoad2 t25 h fun t26 h =>
vAppend2 1 1 true t21 t26 h fun t27 h =>
K t27 h))
noncomputable def s_localfs_object_writeB5 (cf : CallK) (fuel : Nat) (K : AV → Hp → Prop) (t0 : AV) (t1 : AV) (h : Hp) : Prop :=
vNilck t0 h fun t32 h =>
vFaddr 2 t32 h fun t33 h =>
vLoad2 t33 h fun t34 h =>
vLenL2 t34 h fun t35 h =>
vToInt .u32 t35 h fun t36 h =>
vBslice 1 1 true [(.int .u8 0)] [(0, 1, (.int .u8 2))] h fun t29 h =>
vLoad2 t33 h fun c _ => gd (sameV c t34) (
vAppend2 1 1 true t1 t29 h fun t30 h =>
vLoad2 t33 h fun c _ => gd (sameV c t34) (
cf f_zbyte_Append32 [t30, t36] h fun t37 h =>
vNilck t0 h fun t39 h =>
vFaddr 2 t39 h fun t40 h =>
vLoad2 t40 h fun t41 h =>
vLenL2 t41 h fun t42 h =>
(fun (e0 : AV → Hp → Prop) =>
s_localfs_object_writeL1 cf fuel (s_localfs_object_writeE0 cf fuel K) t0 t41 t42 fuel t37 (.int .i64 0) h) (s_localfs_object_writeE0 cf fuel K)))
noncomputable def s_localfs_object_write (cf : CallK) (fuel : Nat) (t0 : AV) (t1 : AV) (h : Hp) (K : AV → Hp → Prop) : Prop :=
vNilck t0 h fun t8 h =>
vFaddr 0 t8 h fun t9 h =>
vLoad2 t9 h fun t10 h =>
vNot t10 h fun t11 h =>
vIf t11 (
s_localfs_object_writeB4 cf fuel K t0 t1 h) (
s_localfs_object_writeB5 cf fuel K t0 t1 h)
theorem s_localfs_object_write_eq (cf : CallK) (fuel : Nat) (t0 : AV) (t1 : AV) (h : Hp) (K : AV → Hp → Prop) : s_localfs_object_write cf fuel t0 t1 h K = deepT (tabOf Tryz.prog) f_localfs_object_write cf fuel [t0, t1] h K :=
  Eq.trans (by kernel_rfl) (rFun (by kernel_rfl) (rSeq (by kernel_rfl) (rSeq (by kernel_rfl) (rSeq (by kernel_rfl) (rSeq (by kernel_rfl) rExact (rSeq (by kernel_rfl) (rBlock (by kernel_rfl) (rLoop (by kernel_rfl) (fun m1 fr h => s_localfs_object_writeL1 cf fuel (s_localfs_object_writeE0 cf fuel K) (getS fr (gpos 0)) (getS fr (gpos 41)) (getS fr (gpos 42)) m1 (getS fr (gpos 1)) (getS fr (gpos 43)) h) (funext fun fr => funext fun h => by kernel_rfl) fun m1 => rCast (funext fun fr => funext fun h => by kernel_rfl) rExact)) rExact)) rExact) rExact) rExact))

noncomputable def s_bytes_Equal (cf : CallK) (fuel : Nat) (t0 : AV) (t1 : AV) (h : Hp) (K : AV → Hp → Prop) : Prop :=
vToStr t0 h fun t6 h =>
vToStr t1 h fun t8 h =>
vEql t6 t8 h fun t9 h =>
K t9 h
theorem s_bytes_Equal_eq (cf : CallK) (fuel : Nat) (t0 : AV) (t1 : AV) (h : Hp) (K : AV → Hp → Prop) : s_bytes_Equal cf fuel t0 t1 h K = deepT (tabOf Tryz.prog) f_bytes_Equal cf fuel [t0, t1] h K :=
  Eq.trans (by kernel_rfl) (rFun (by kernel_rfl) rExact)

noncomputable def s_wal_Volume_CommitE1 (cf : CallK) (fuel : Nat) (K : AV → Hp → Prop) (t0 : AV) : Hp → Prop := fun h =>
vNilck t0 h fun t40 h =>
vFaddr 3 t40 h fun t41 h =>
vLoad2 t41 h fun t42 h =>
vAdd t42 (.int .i64 1) h fun t43 h =>
vNilck t0 h fun t44 h =>
vFaddr 3 t44 h fun t45 h =>
vStore 1 t45 t43 h fun _ h =>
vNilck t0 h fun t47 h =>
vFaddr 4 t47 h fun t48 h =>
vStore 1 t48 (.bool .true) h fun _ h =>
K (.int .i64 0) h
noncomputable def s_wal_Volume_CommitB4 (cf : CallK) (fuel : Nat) (ih2 : AV → Hp → Prop) (t0 : AV) (t22 : AV) (t24 : AV) (h : Hp) : Prop :=
(fun (e3 : Hp → Prop) =>
vIaddr 2 t22 t24 h fun t26 h =>
vLoadA 2 t26 h fun t27 h =>
vBox 2 (.agg [(.int .i64 0), .nilslice]) h fun t6 h =>
vStore 2 t6 t27 h fun _ h =>
vNilck t0 h fun t29 h =>
vFaddr 1 t29 h fun t30 h =>
vLoad2 t30 h fun t31 h =>
vFaddr 0 t6 h fun t32 h =>
vLoad2 t32 h fun t33 h =>
vFaddr 1 t6 h fun t34 h =>
vLoad2 t34 h fun t35 h =>
cf f_bytes_Clone [t35] h fun t36 h =>
vLoad2 t30 h fun c _ => gd (sameV c t31) (
vLoad2 t32 h fun c _ => gd (sameV c t33) (
vIaddr 1 t31 t33 h fun t37 h =>
vStore 1 t37 t36 h fun _ h =>
e3 h))) fun h =>
vAdd t24 (.int .i64 1) h fun t38 h =>
ih2 t38 h
noncomputable def s_wal_Volume_CommitL2B (cf : CallK) (fuel : Nat) (e1 : Hp → Prop) (t0 : AV) (t22 : AV) (t23 : AV) (ih2 : AV → Hp → Prop) : AV → Hp → Prop := fun t24 h =>
vLss t24 t23 h fun t25 h =>
vIf t25 (
s_wal_Volume_CommitB4 cf fuel ih2 t0 t22 t24 h) (
e1 h)
noncomputable def s_wal_Volume_CommitL2 (cf : CallK) (fuel : Nat) (e1 : Hp → Prop) (t0 : AV) (t22 : AV) (t23 : AV) (m : Nat) : AV → Hp → Prop := Nat.rec (motive := fun _ => AV → Hp → Prop) (fun _ _ => False) (fun _ ih => s_wal_Volume_CommitL2B cf fuel e1 t0 t22 t23 ih) m
theorem s_wal_Volume_CommitL2_succ (cf : CallK) (fuel : Nat) (e1 : Hp → Prop) (t0 : AV) (t22 : AV) (t23 : AV) (m : Nat) : s_wal_Volume_CommitL2 cf fuel e1 t0 t22 t23 (m + 1) = s_wal_Volume_CommitL2B cf fuel e1 t0 t22 t23 (s_wal_Volume_CommitL2 cf fuel e1 t0 t22 t23 m) := rfl
noncomputable def s_wal_Volume_Commit (cf : CallK) (fuel : Nat) (t0 : AV) (t1 : AV) (h : Hp) (K : AV → Hp → Prop) : Prop :=
(fun (e0 : Hp → Prop) =>
vEq false eqP t0 .nilptr h fun t9 h =>
vIf t9 (
K (.int .i64 5) h) (
cf f_wal_Volume_may [t0, t1] h fun t13 h =>
vNot t13 h fun t14 h =>
vIf t14 (
K (.int .i64 22) h) (
vLenL2 t1 h fun t17 h =>
vEql t17 (.int .i64 0) h fun t18 h =>
vIf t18 (
K (.int .i64 0) h) (
cf f_wal_Volume_dead [t0] h fun t21 h =>
vIf t21 (
K (.int .i64 5) h) (
e0 h))))) fun h =>
vLenL2 t1 h fun t23 h =>
(fun (e1 : Hp → Prop) =>
s_wal_Volume_CommitL2 cf fuel (s_wal_Volume_CommitE1 cf fuel K t0) t0 t1 t23 fuel (.int .i64 0) h) (s_wal_Volume_CommitE1 cf fuel K t0)
theorem s_wal_Volume_Commit_eq (cf : CallK) (fuel : Nat) (t0 : AV) (t1 : AV) (h : Hp) (K : AV → Hp → Prop) : s_wal_Volume_Commit cf fuel t0 t1 h K = deepT (tabOf Tryz.prog) f_wal_Volume_Commit cf fuel [t0, t1] h K :=
  Eq.trans (by kernel_rfl) (rFun (by kernel_rfl) (rSeq (by kernel_rfl) (rSeq (by kernel_rfl) (rSeq (by kernel_rfl) rExact (rSeq (by kernel_rfl) (rBlock (by kernel_rfl) (rLoop (by kernel_rfl) (fun m2 fr h => s_wal_Volume_CommitL2 cf fuel (s_wal_Volume_CommitE1 cf fuel K (getS fr (gpos 0))) (getS fr (gpos 0)) (getS fr (gpos 22)) (getS fr (gpos 23)) m2 (getS fr (gpos 24)) h) (funext fun fr => funext fun h => by kernel_rfl) fun m2 => rCast (funext fun fr => funext fun h => by kernel_rfl) rExact)) rExact)) rExact) rExact))

noncomputable def s_localfs_object_setB0 (cf : CallK) (fuel : Nat) (K : AV → Hp → Prop) (t1 : AV) (t0 : AV) (t2 : AV) (h : Hp) : Prop :=
vLenL2 t1 h fun t12 h =>
vEql t12 (.int .i64 1) h fun t13 h =>
vIf t13 (
vIaddr 1 t1 (.int .i64 0) h fun t16 h =>
vLoad2 t16 h fun t17 h =>
cf f_localfs_object_with [t0, t17, t2] h fun t19 h =>
K t19 h) (
vIaddr 1 t1 (.int .i64 0) h fun t22 h =>
vLoad2 t22 h fun t23 h =>
vIaddr 1 t1 (.int .i64 0) h fun t26 h =>
vLoad2 t26 h fun t27 h =>
vSlice2 1 t1 (some (.int .i64 1)) none h fun t30 h =>
cf f_localfs_object_kid [t0, t27] h fun t28 h =>
vLoad2 t22 h fun c _ => gd (sameV c t23) (
cf f_localfs_object_set [t28, t30, t2] h fun t32 h =>
vLoad2 t22 h fun c _ => gd (sameV c t23) (
cf f_localfs_object_with [t0, t23, t32] h fun t33 h =>
K t33 h)))
noncomputable def s_localfs_object_set (cf : CallK) (fuel : Nat) (t0 : AV) (t1 : AV) (t2 : AV) (h : Hp) (K : AV → Hp → Prop) : Prop :=
vLenL2 t1 h fun t8 h =>
vEql t8 (.int .i64 0) h fun t9 h =>
vIf t9 (
K t2 h) (
s_localfs_object_setB0 cf fuel K t1 t0 t2 h)
theorem s_localfs_object_set_eq (cf : CallK) (fuel : Nat) (t0 : AV) (t1 : AV) (t2 : AV) (h : Hp) (K : AV → Hp → Prop) : s_localfs_object_set cf fuel t0 t1 t2 h K = deepT (tabOf Tryz.prog) f_localfs_object_set cf fuel [t0, t1, t2] h K :=
  Eq.trans (by kernel_rfl) (rFun (by kernel_rfl) rExact)

noncomputable def s_int_strconv_small (cf : CallK) (fuel : Nat) (t0 : AV) (h : Hp) (K : AV → Hp → Prop) : Prop :=
vLss t0 (.int .i64 10) h fun t4 h =>
vIf t4 (
vAdd t0 (.int .i64 1) h fun t7 h =>
vSliceS (.str 36 237927390410950444456928663707796224754864904193074819559483181009558347043374296609072) (some t0) (some t7) h fun t8 h =>
K t8 h) (
vArith Go.Am.mulI t0 (.int .i64 2) h fun t10 h =>
vArith Go.Am.mulI t0 (.int .i64 2) h fun t12 h =>
vAdd t12 (.int .i64 2) h fun t13 h =>
vSliceS (.str 200 9938655150514779720929161263213647789093395803754561035662628441001274968862597953692946393464194303251501229616933063375291039650253924995779037586872666250072396106842829501851083234932712366962979930255066872747696324303968523733872590022915936937156789320557469720923390131174387415513794469201054844961267015441141542819553679203788501627738430154234325528792480477051962324423099068299719245009424585859096469223093538032153047611602695245052081125123941502624659711709950000) (some t10) (some t13) h fun t14 h =>
K t14 h)
theorem s_int_strconv_small_eq (cf : CallK) (fuel : Nat) (t0 : AV) (h : Hp) (K : AV → Hp → Prop) : s_int_strconv_small cf fuel t0 h K = deepT (tabOf Tryz.prog) f_int_strconv_small cf fuel [t0] h K :=
  Eq.trans (by kernel_rfl) (rFun (by kernel_rfl) rExact)

noncomputable def s_int_strconv_numDigits (cf : CallK) (fuel : Nat) (t0 : AV) (h : Hp) (K : AV → Hp → Prop) : Prop :=
cf f_math_bits_Len64 [t0] h fun t5 h =>
cf f_int_strconv_log10Pow2 [t5] h fun t6 h =>
vIaddrA 1 20 (.gptr 0) t6 h fun t10 h =>
vLoad2 t10 h fun t11 h =>
vGeq t0 t11 h fun t12 h =>
cf f_int_strconv_bool2_int [t12] h fun t13 h =>
vAdd t6 t13 h fun t14 h =>
K t14 h
theorem s_int_strconv_numDigits_eq (cf : CallK) (fuel : Nat) (t0 : AV) (h : Hp) (K : AV → Hp → Prop) : s_int_strconv_numDigits cf fuel t0 h K = deepT (tabOf Tryz.prog) f_int_strconv_numDigits cf fuel [t0] h K :=
  Eq.trans (by kernel_rfl) (rFun (by kernel_rfl) rExact)

noncomputable def s_int_strconv_formatBase10B2 (cf : CallK) (fuel : Nat) (j1 : AV → AV → Hp → Prop) (t4 : AV) (t97 : AV) (t0 : AV) (h : Hp) : Prop :=
vDiv true t97 (.int .u32 10000) h fun t101 h =>
vDiv false t97 (.int .u32 10000) h fun t103 h =>
vDiv false t101 (.int .u32 100) h fun t105 h =>
vArith Go.Am.mulI t105 (.int .u32 2) h fun t106 h =>
vDiv true t101 (.int .u32 100) h fun t108 h =>
vArith Go.Am.mulI t108 (.int .u32 2) h fun t109 h =>
vArith Go.Am.subI t4 (.int .i64 1) h fun t112 h =>
vArith Go.Am.subI t4 (.int .i64 2) h fun t115 h =>
vAdd t109 (.int .u32 1) h fun t117 h =>
vIdxS (.str 200 9938655150514779720929161263213647789093395803754561035662628441001274968862597953692946393464194303251501229616933063375291039650253924995779037586872666250072396106842829501851083234932712366962979930255066872747696324303968523733872590022915936937156789320557469720923390131174387415513794469201054844961267015441141542819553679203788501627738430154234325528792480477051962324423099068299719245009424585859096469223093538032153047611602695245052081125123941502624659711709950000) t117 h fun t118 h =>
vIdxS (.str 200 9938655150514779720929161263213647789093395803754561035662628441001274968862597953692946393464194303251501229616933063375291039650253924995779037586872666250072396106842829501851083234932712366962979930255066872747696324303968523733872590022915936937156789320557469720923390131174387415513794469201054844961267015441141542819553679203788501627738430154234325528792480477051962324423099068299719245009424585859096469223093538032153047611602695245052081125123941502624659711709950000) t109 h fun t120 h =>
vIaddr 1 t0 t112 h fun t121 h =>
vStore 1 t121 t118 h fun _ h =>
vIaddr 1 t0 t115 h fun t122 h =>
vStore 1 t122 t120 h fun _ h =>
vArith Go.Am.subI t4 (.int .i64 3) h fun t125 h =>
vArith Go.Am.subI t4 (.int .i64 4) h fun t128 h =>
vAdd t106 (.int .u32 1) h fun t130 h =>
vIdxS (.str 200 9938655150514779720929161263213647789093395803754561035662628441001274968862597953692946393464194303251501229616933063375291039650253924995779037586872666250072396106842829501851083234932712366962979930255066872747696324303968523733872590022915936937156789320557469720923390131174387415513794469201054844961267015441141542819553679203788501627738430154234325528792480477051962324423099068299719245009424585859096469223093538032153047611602695245052081125123941502624659711709950000) t130 h fun t131 h =>
vIdxS (.str 200 9938655150514779720929161263213647789093395803754561035662628441001274968862597953692946393464194303251501229616933063375291039650253924995779037586872666250072396106842829501851083234932712366962979930255066872747696324303968523733872590022915936937156789320557469720923390131174387415513794469201054844961267015441141542819553679203788501627738430154234325528792480477051962324423099068299719245009424585859096469223093538032153047611602695245052081125123941502624659711709950000) t106 h fun t133 h =>
vIaddr 1 t0 t125 h fun t134 h =>
vStore 1 t134 t131 h fun _ h =>
vIaddr 1 t0 t128 h fun t135 h =>
vStore 1 t135 t133 h fun _ h =>
vArith Go.Am.subI t4 (.int .i64 4) h fun t137 h =>
j1 t137 t103 h
noncomputable def s_int_strconv_formatBase10E0 (cf : CallK) (fuel : Nat) (K : AV → Hp → Prop) (t0 : AV) : AV → AV → Hp → Prop := fun t1 t4 h =>
vToInt .u32 t1 h fun t97 h =>
(fun (j1 : AV → AV → Hp → Prop) =>
vGeq t4 (.int .i64 4) h fun t99 h =>
vIf t99 (
s_int_strconv_formatBase10B2 cf fuel j1 t4 t97 t0 h) (
j1 t4 t97 h)) fun t4 t12 h =>
(fun (j3 : AV → AV → Hp → Prop) =>
vGeq t4 (.int .i64 2) h fun t139 h =>
vIf t139 (
vDiv true t12 (.int .u32 100) h fun t141 h =>
vArith Go.Am.mulI t141 (.int .u32 2) h fun t142 h =>
vDiv false t12 (.int .u32 100) h fun t144 h =>
vArith Go.Am.subI t4 (.int .i64 1) h fun t147 h =>
vArith Go.Am.subI t4 (.int .i64 2) h fun t150 h =>
vAdd t142 (.int .u32 1) h fun t152 h =>
vIdxS (.str 200 9938655150514779720929161263213647789093395803754561035662628441001274968862597953692946393464194303251501229616933063375291039650253924995779037586872666250072396106842829501851083234932712366962979930255066872747696324303968523733872590022915936937156789320557469720923390131174387415513794469201054844961267015441141542819553679203788501627738430154234325528792480477051962324423099068299719245009424585859096469223093538032153047611602695245052081125123941502624659711709950000) t152 h fun t153 h =>
vIdxS (.str 200 9938655150514779720929161263213647789093395803754561035662628441001274968862597953692946393464194303251501229616933063375291039650253924995779037586872666250072396106842829501851083234932712366962979930255066872747696324303968523733872590022915936937156789320557469720923390131174387415513794469201054844961267015441141542819553679203788501627738430154234325528792480477051962324423099068299719245009424585859096469223093538032153047611602695245052081125123941502624659711709950000) t142 h fun t155 h =>
vIaddr 1 t0 t147 h fun t156 h =>
vStore 1 t156 t153 h fun _ h =>
vIaddr 1 t0 t150 h fun t157 h =>
vStore 1 t157 t155 h fun _ h =>
vArith Go.Am.subI t4 (.int .i64 2) h fun t159 h =>
j3 t159 t144 h) (
j3 t4 t12 h)) fun t4 t12 h =>
vGtr t4 (.int .i64 0) h fun t161 h =>
vIf t161 (
vAdd (.int .u32 48) t12 h fun t164 h =>
vToInt .u8 t164 h fun t165 h =>
vIaddr 1 t0 (.int .i64 0) h fun t166 h =>
vStore 1 t166 t165 h fun _ h =>
K (.tup []) h) (
K (.tup []) h)
noncomputable def s_int_strconv_formatBase10B7 (cf : CallK) (fuel : Nat) (ih4 : AV → AV → Hp → Prop) (t4 : AV) (t0 : AV) (t1 : AV) (h : Hp) : Prop :=
(fun (e5 : AV → AV → Hp → Prop) =>
vDiv true t1 (.int .u64 100000000) h fun t22 h =>
vToInt .u32 t22 h fun t23 h =>
vDiv false t1 (.int .u64 100000000) h fun t25 h =>
vDiv false t23 (.int .u32 10000) h fun t27 h =>
vDiv true t23 (.int .u32 10000) h fun t29 h =>
vDiv false t29 (.int .u32 100) h fun t31 h =>
vArith Go.Am.mulI t31 (.int .u32 2) h fun t32 h =>
vDiv true t29 (.int .u32 100) h fun t34 h =>
vArith Go.Am.mulI t34 (.int .u32 2) h fun t35 h =>
vDiv false t27 (.int .u32 100) h fun t37 h =>
vArith Go.Am.mulI t37 (.int .u32 2) h fun t38 h =>
vDiv true t27 (.int .u32 100) h fun t40 h =>
vArith Go.Am.mulI t40 (.int .u32 2) h fun t41 h =>
vArith Go.Am.subI t4 (.int .i64 1) h fun t44 h =>
vArith Go.Am.subI t4 (.int .i64 2) h fun t47 h =>
vAdd t35 (.int .u32 1) h fun t49 h =>
vIdxS (.str 200 9938655150514779720929161263213647789093395803754561035662628441001274968862597953692946393464194303251501229616933063375291039650253924995779037586872666250072396106842829501851083234932712366962979930255066872747696324303968523733872590022915936937156789320557469720923390131174387415513794469201054844961267015441141542819553679203788501627738430154234325528792480477051962324423099068299719245009424585859096469223093538032153047611602695245052081125123941502624659711709950000) t49 h fun t50 h =>
vIdxS (.str 200 9938655150514779720929161263213647789093395803754561035662628441001274968862597953692946393464194303251501229616933063375291039650253924995779037586872666250072396106842829501851083234932712366962979930255066872747696324303968523733872590022915936937156789320557469720923390131174387415513794469201054844961267015441141542819553679203788501627738430154234325528792480477051962324423099068299719245009424585859096469223093538032153047611602695245052081125123941502624659711709950000) t35 h fun t52 h =>
vIaddr 1 t0 t44 h fun t53 h =>
vStore 1 t53 t50 h fun _ h =>
vIaddr 1 t0 t47 h fun t54 h =>
vStore 1 t54 t52 h fun _ h =>
vArith Go.Am.subI t4 (.int .i64 3) h fun t57 h =>
vArith Go.Am.subI t4 (.int .i64 4) h fun t60 h =>
vAdd t32 (.int .u32 1) h fun t62 h =>
vIdxS (.str 200 9938655150514779720929161263213647789093395803754561035662628441001274968862597953692946393464194303251501229616933063375291039650253924995779037586872666250072396106842829501851083234932712366962979930255066872747696324303968523733872590022915936937156789320557469720923390131174387415513794469201054844961267015441141542819553679203788501627738430154234325528792480477051962324423099068299719245009424585859096469223093538032153047611602695245052081125123941502624659711709950000) t62 h fun t63 h =>
vIdxS (.str 200 9938655150514779720929161263213647789093395803754561035662628441001274968862597953692946393464194303251501229616933063375291039650253924995779037586872666250072396106842829501851083234932712366962979930255066872747696324303968523733872590022915936937156789320557469720923390131174387415513794469201054844961267015441141542819553679203788501627738430154234325528792480477051962324423099068299719245009424585859096469223093538032153047611602695245052081125123941502624659711709950000) t32 h fun t65 h =>
vIaddr 1 t0 t57 h fun t66 h =>
vStore 1 t66 t63 h fun _ h =>
vIaddr 1 t0 t60 h fun t67 h =>
vStore 1 t67 t65 h fun _ h =>
vArith Go.Am.subI t4 (.int .i64 5) h fun t70 h =>
vArith Go.Am.subI t4 (.int .i64 6) h fun t73 h =>
vAdd t41 (.int .u32 1) h fun t75 h =>
vIdxS (.str 200 9938655150514779720929161263213647789093395803754561035662628441001274968862597953692946393464194303251501229616933063375291039650253924995779037586872666250072396106842829501851083234932712366962979930255066872747696324303968523733872590022915936937156789320557469720923390131174387415513794469201054844961267015441141542819553679203788501627738430154234325528792480477051962324423099068299719245009424585859096469223093538032153047611602695245052081125123941502624659711709950000) t75 h fun t76 h =>
vIdxS (.str 200 9938655150514779720929161263213647789093395803754561035662628441001274968862597953692946393464194303251501229616933063375291039650253924995779037586872666250072396106842829501851083234932712366962979930255066872747696324303968523733872590022915936937156789320557469720923390131174387415513794469201054844961267015441141542819553679203788501627738430154234325528792480477051962324423099068299719245009424585859096469223093538032153047611602695245052081125123941502624659711709950000) t41 h fun t78 h =>
vIaddr 1 t0 t70 h fun t79 h =>
vStore 1 t79 t76 h fun _ h =>
vIaddr 1 t0 t73 h fun t80 h =>
vStore 1 t80 t78 h fun _ h =>
vArith Go.Am.subI t4 (.int .i64 7) h fun t83 h =>
vArith Go.Am.subI t4 (.int .i64 8) h fun t86 h =>
vAdd t38 (.int .u32 1) h fun t88 h =>
vIdxS (.str 200 9938655150514779720929161263213647789093395803754561035662628441001274968862597953692946393464194303251501229616933063375291039650253924995779037586872666250072396106842829501851083234932712366962979930255066872747696324303968523733872590022915936937156789320557469720923390131174387415513794469201054844961267015441141542819553679203788501627738430154234325528792480477051962324423099068299719245009424585859096469223093538032153047611602695245052081125123941502624659711709950000) t88 h fun t89 h =>
vIdxS (.str 200 9938655150514779720929161263213647789093395803754561035662628441001274968862597953692946393464194303251501229616933063375291039650253924995779037586872666250072396106842829501851083234932712366962979930255066872747696324303968523733872590022915936937156789320557469720923390131174387415513794469201054844961267015441141542819553679203788501627738430154234325528792480477051962324423099068299719245009424585859096469223093538032153047611602695245052081125123941502624659711709950000) t38 h fun t91 h =>
vIaddr 1 t0 t83 h fun t92 h =>
vStore 1 t92 t89 h fun _ h =>
vIaddr 1 t0 t86 h fun t93 h =>
vStore 1 t93 t91 h fun _ h =>
vArith Go.Am.subI t4 (.int .i64 8) h fun t95 h =>
e5 t25 t95 h) fun t1 t4_6 h =>
ih4 t1 t4_6 h
noncomputable def s_int_strconv_formatBase10L4B (cf : CallK) (fuel : Nat) (e0 : AV → AV → Hp → Prop) (t0 : AV) (ih4 : AV → AV → Hp → Prop) : AV → AV → Hp → Prop := fun t1 t4 h =>
vGeq t4 (.int .i64 8) h fun t20 h =>
vIf t20 (
s_int_strconv_formatBase10B7 cf fuel ih4 t4 t0 t1 h) (
e0 t1 t4 h)
noncomputable def s_int_strconv_formatBase10L4 (cf : CallK) (fuel : Nat) (e0 : AV → AV → Hp → Prop) (t0 : AV) (m : Nat) : AV → AV → Hp → Prop := Nat.rec (motive := fun _ => AV → AV → Hp → Prop) (fun _ _ _ => False) (fun _ ih => s_int_strconv_formatBase10L4B cf fuel e0 t0 ih) m
theorem s_int_strconv_formatBase10L4_succ (cf : CallK) (fuel : Nat) (e0 : AV → AV → Hp → Prop) (t0 : AV) (m : Nat) : s_int_strconv_formatBase10L4 cf fuel e0 t0 (m + 1) = s_int_strconv_formatBase10L4B cf fuel e0 t0 (s_int_strconv_formatBase10L4 cf fuel e0 t0 m) := rfl
noncomputable def s_int_strconv_formatBase10 (cf : CallK) (fuel : Nat) (t0 : AV) (t1 : AV) (h : Hp) (K : AV → Hp → Prop) : Prop :=
vLenL2 t0 h fun t18 h =>
(fun (e0 : AV → AV → Hp → Prop) =>
s_int_strconv_formatBase10L4 cf fuel (s_int_strconv_formatBase10E0 cf fuel K t0) t0 fuel t1 t18 h) (s_int_strconv_formatBase10E0 cf fuel K t0)
theorem s_int_strconv_formatBase10_eq (cf : CallK) (fuel : Nat) (t0 : AV) (t1 : AV) (h : Hp) (K : AV → Hp → Prop) : s_int_strconv_formatBase10 cf fuel t0 t1 h K = deepT (tabOf Tryz.prog) f_int_strconv_formatBase10 cf fuel [t0, t1] h K :=
  Eq.trans (by kernel_rfl) (rFun (by kernel_rfl) (rSeq (by kernel_rfl) (rSeq (by kernel_rfl) rExact (rBlock (by kernel_rfl) (rLoop (by kernel_rfl) (fun m4 fr h => s_int_strconv_formatBase10L4 cf fuel (s_int_strconv_formatBase10E0 cf fuel K (getS fr (gpos 0))) (getS fr (gpos 0)) m4 (getS fr (gpos 1)) (getS fr (gpos 4)) h) (funext fun fr => funext fun h => by kernel_rfl) fun m4 => rCast (funext fun fr => funext fun h => by kernel_rfl) rExact))) rExact))

noncomputable def s_int_strconv_formatBitsJ1 (cf : CallK) (fuel : Nat) (K : AV → Hp → Prop) (t0 : AV) (t3 : AV) (t4 : AV) (t10 : AV) (t11 : AV) (t12 : AV) : AV → Hp → Prop := fun t13 h =>
(fun (j2 : AV → Hp → Prop) =>
vIf t3 (
vArith Go.Am.subI t13 (.int .i64 1) h fun t91 h =>
vIaddrA 1 65 t12 t91 h fun t93 h =>
vStore 1 t93 (.int .u8 45) h fun _ h =>
j2 t91 h) (
j2 t13 h)) fun t13 h =>
vIf t4 (
vSliceA 1 65 t12 (some t13) none h fun t97 h =>
vAppend2 1 1 true t0 t97 h fun t98 h =>
K (.tup [t98, t11]) h) (
vSliceA 1 65 t12 (some t13) none h fun t100 h =>
vToStr t100 h fun t101 h =>
K (.tup [t10, t101]) h)
noncomputable def s_int_strconv_formatBitsE3 (cf : CallK) (fuel : Nat) (j1 : AV → Hp → Prop) (t0 : AV) (t3 : AV) (t4 : AV) (t10 : AV) (t11 : AV) (t12 : AV) : AV → AV → Hp → Prop := fun t1 t13 h =>
vArith Go.Am.subI t13 (.int .i64 1) h fun t59 h =>
vIdxS (.str 36 237927390410950444456928663707796224754864904193074819559483181009558347043374296609072) t1 h fun t62 h =>
vIaddrA 1 65 t12 t59 h fun t63 h =>
vStore 1 t63 t62 h fun _ h =>
j1 t59 h
noncomputable def s_int_strconv_formatBitsL4B (cf : CallK) (fuel : Nat) (e3 : AV → AV → Hp → Prop) (t0 : AV) (t3 : AV) (t4 : AV) (t10 : AV) (t11 : AV) (t12 : AV) (t14 : AV) (t15 : AV) (t16 : AV) (ih4 : AV → AV → Hp → Prop) : AV → AV → Hp → Prop := fun t1 t13 h =>
vGeq t1 t15 h fun t46 h =>
vIf t46 (
(fun (e5 : AV → AV → Hp → Prop) =>
vArith Go.Am.subI t13 (.int .i64 1) h fun t48 h =>
vBits Nat.land t1 t16 h fun t52 h =>
vIdxS (.str 36 237927390410950444456928663707796224754864904193074819559483181009558347043374296609072) t52 h fun t53 h =>
vIaddrA 1 65 t12 t48 h fun t54 h =>
vStore 1 t54 t53 h fun _ h =>
vShr t1 t14 h fun t57 h =>
e5 t57 t48 h) fun t1_6 t13 h =>
ih4 t1_6 t13 h) (
e3 t1 t13 h)
noncomputable def s_int_strconv_formatBitsL4 (cf : CallK) (fuel : Nat) (e3 : AV → AV → Hp → Prop) (t0 : AV) (t3 : AV) (t4 : AV) (t10 : AV) (t11 : AV) (t12 : AV) (t14 : AV) (t15 : AV) (t16 : AV) (m : Nat) : AV → AV → Hp → Prop := Nat.rec (motive := fun _ => AV → AV → Hp → Prop) (fun _ _ _ => False) (fun _ ih => s_int_strconv_formatBitsL4B cf fuel e3 t0 t3 t4 t10 t11 t12 t14 t15 t16 ih) m
theorem s_int_strconv_formatBitsL4_succ (cf : CallK) (fuel : Nat) (e3 : AV → AV → Hp → Prop) (t0 : AV) (t3 : AV) (t4 : AV) (t10 : AV) (t11 : AV) (t12 : AV) (t14 : AV) (t15 : AV) (t16 : AV) (m : Nat) : s_int_strconv_formatBitsL4 cf fuel e3 t0 t3 t4 t10 t11 t12 t14 t15 t16 (m + 1) = s_int_strconv_formatBitsL4B cf fuel e3 t0 t3 t4 t10 t11 t12 t14 t15 t16 (s_int_strconv_formatBitsL4 cf fuel e3 t0 t3 t4 t10 t11 t12 t14 t15 t16 m) := rfl
noncomputable def s_int_strconv_formatBitsE7 (cf : CallK) (fuel : Nat) (j1 : AV → Hp → Prop) (t0 : AV) (t3 : AV) (t4 : AV) (t10 : AV) (t11 : AV) (t12 : AV) : AV → AV → Hp → Prop := fun t1 t13 h =>
vArith Go.Am.subI t13 (.int .i64 1) h fun t84 h =>
vIdxS (.str 36 237927390410950444456928663707796224754864904193074819559483181009558347043374296609072) t1 h fun t87 h =>
vIaddrA 1 65 t12 t84 h fun t88 h =>
vStore 1 t88 t87 h fun _ h =>
j1 t84 h
noncomputable def s_int_strconv_formatBitsL8B (cf : CallK) (fuel : Nat) (e7 : AV → AV → Hp → Prop) (t0 : AV) (t3 : AV) (t4 : AV) (t10 : AV) (t11 : AV) (t12 : AV) (t17 : AV) (ih8 : AV → AV → Hp → Prop) : AV → AV → Hp → Prop := fun t1 t13 h =>
vGeq t1 t17 h fun t68 h =>
vIf t68 (
(fun (e9 : AV → AV → Hp → Prop) =>
vArith Go.Am.subI t13 (.int .i64 1) h fun t70 h =>
vDiv false t1 t17 h fun t73 h =>
vArith Go.Am.mulI t73 t17 h fun t78 h =>
vArith Go.Am.subI t1 t78 h fun t79 h =>
vIdxS (.str 36 237927390410950444456928663707796224754864904193074819559483181009558347043374296609072) t79 h fun t80 h =>
vIaddrA 1 65 t12 t70 h fun t81 h =>
vStore 1 t81 t80 h fun _ h =>
e9 t73 t70 h) fun t1_10 t13 h =>
ih8 t1_10 t13 h) (
e7 t1 t13 h)
noncomputable def s_int_strconv_formatBitsL8 (cf : CallK) (fuel : Nat) (e7 : AV → AV → Hp → Prop) (t0 : AV) (t3 : AV) (t4 : AV) (t10 : AV) (t11 : AV) (t12 : AV) (t17 : AV) (m : Nat) : AV → AV → Hp → Prop := Nat.rec (motive := fun _ => AV → AV → Hp → Prop) (fun _ _ _ => False) (fun _ ih => s_int_strconv_formatBitsL8B cf fuel e7 t0 t3 t4 t10 t11 t12 t17 ih) m
theorem s_int_strconv_formatBitsL8_succ (cf : CallK) (fuel : Nat) (e7 : AV → AV → Hp → Prop) (t0 : AV) (t3 : AV) (t4 : AV) (t10 : AV) (t11 : AV) (t12 : AV) (t17 : AV) (m : Nat) : s_int_strconv_formatBitsL8 cf fuel e7 t0 t3 t4 t10 t11 t12 t17 (m + 1) = s_int_strconv_formatBitsL8B cf fuel e7 t0 t3 t4 t10 t11 t12 t17 (s_int_strconv_formatBitsL8 cf fuel e7 t0 t3 t4 t10 t11 t12 t17 m) := rfl
noncomputable def s_int_strconv_formatBitsB11 (cf : CallK) (fuel : Nat) (K : AV → Hp → Prop) (t2 : AV) (t0 : AV) (t1 : AV) (t3 : AV) (t4 : AV) (h : Hp) : Prop :=
vBox 65 (.agg (List.replicate 65 (.int .u8 0))) h fun t12 h =>
(fun (j0 : AV → Hp → Prop) =>
vIf t3 (
vNeg t1 h fun t32 h =>
j0 t32 h) (
j0 t1 h)) fun t1 h =>
(fun (j1 : AV → Hp → Prop) =>
cf f_int_strconv_isPowerOfTwo [t2] h fun t34 h =>
vIf t34 (
vToInt .u64 t2 h fun t36 h =>
cf f_math_bits_TrailingZeros [t36] h fun t37 h =>
vToInt .u64 t37 h fun t38 h =>
vToInt .u64 t2 h fun t40 h =>
vToInt .u64 t2 h fun t42 h =>
vArith Go.Am.subI t42 (.int .u64 1) h fun t43 h =>
(fun (e3 : AV → AV → Hp → Prop) =>
s_int_strconv_formatBitsL4 cf fuel (s_int_strconv_formatBitsE3 cf fuel (s_int_strconv_formatBitsJ1 cf fuel K t0 t3 t4 .nilslice (.str 0 0) t12) t0 t3 t4 .nilslice (.str 0 0) t12) t0 t3 t4 .nilslice (.str 0 0) t12 t38 t40 t43 fuel t1 (.int .i64 65) h) (s_int_strconv_formatBitsE3 cf fuel (s_int_strconv_formatBitsJ1 cf fuel K t0 t3 t4 .nilslice (.str 0 0) t12) t0 t3 t4 .nilslice (.str 0 0) t12)) (
vToInt .u64 t2 h fun t65 h =>
(fun (e7 : AV → AV → Hp → Prop) =>
s_int_strconv_formatBitsL8 cf fuel (s_int_strconv_formatBitsE7 cf fuel (s_int_strconv_formatBitsJ1 cf fuel K t0 t3 t4 .nilslice (.str 0 0) t12) t0 t3 t4 .nilslice (.str 0 0) t12) t0 t3 t4 .nilslice (.str 0 0) t12 t65 fuel t1 (.int .i64 65) h) (s_int_strconv_formatBitsE7 cf fuel (s_int_strconv_formatBitsJ1 cf fuel K t0 t3 t4 .nilslice (.str 0 0) t12) t0 t3 t4 .nilslice (.str 0 0) t12))) (s_int_strconv_formatBitsJ1 cf fuel K t0 t3 t4 .nilslice (.str 0 0) t12)
noncomputable def s_int_strconv_formatBits (cf : CallK) (fuel : Nat) (t0 : AV) (t1 : AV) (t2 : AV) (t3 : AV) (t4 : AV) (h : Hp) (K : AV → Hp → Prop) : Prop :=
vLss t2 (.int .i64 2) h fun t20 h =>
joinG (fun g15 => grdV t20 false (vMov t2 h g15) (g15 undefV h)) fun t22 h =>
joinG (fun g14 => grdV t20 false (vEql t22 (.int .i64 10) h g14) (g14 undefV h)) fun t23 h =>
vPick t20 (.bool .true) t23 h fun t24 h =>
joinG (fun g13 => grdV t24 false (vMov t2 h g13) (g13 undefV h)) fun t26 h =>
joinG (fun g12 => grdV t24 false (vGtr t26 (.int .i64 36) h g12) (g12 undefV h)) fun t27 h =>
vPick t24 (.bool .true) t27 h fun t28 h =>
vIf t28 (
False) (
s_int_strconv_formatBitsB11 cf fuel K t2 t0 t1 t3 t4 h)
theorem s_int_strconv_formatBits_eq (cf : CallK) (fuel : Nat) (t0 : AV) (t1 : AV) (t2 : AV) (t3 : AV) (t4 : AV) (h : Hp) (K : AV → Hp → Prop) : s_int_strconv_formatBits cf fuel t0 t1 t2 t3 t4 h K = deepT (tabOf Tryz.prog) f_int_strconv_formatBits cf fuel [t0, t1, t2, t3, t4] h K :=
  Eq.trans (by kernel_rfl) (rFun (by kernel_rfl) (rSeq (by kernel_rfl) (rSeq (by kernel_rfl) (rSeq (by kernel_rfl) (rSeq (by kernel_rfl) (rSeq (by kernel_rfl) (rSeq (by kernel_rfl) rExact (rSeq (by kernel_rfl) (rCond (by kernel_rfl) (rSeq (by kernel_rfl) (rSeq (by kernel_rfl) (rSeq (by kernel_rfl) (rSeq (by kernel_rfl) rExact (rBlock (by kernel_rfl) (rLoop (by kernel_rfl) (fun m4 fr h => s_int_strconv_formatBitsL4 cf fuel (s_int_strconv_formatBitsE3 cf fuel (s_int_strconv_formatBitsJ1 cf fuel K (getS fr (gpos 0)) (getS fr (gpos 3)) (getS fr (gpos 4)) (getS fr (gpos 10)) (getS fr (gpos 11)) (getS fr (gpos 12))) (getS fr (gpos 0)) (getS fr (gpos 3)) (getS fr (gpos 4)) (getS fr (gpos 10)) (getS fr (gpos 11)) (getS fr (gpos 12))) (getS fr (gpos 0)) (getS fr (gpos 3)) (getS fr (gpos 4)) (getS fr (gpos 10)) (getS fr (gpos 11)) (getS fr (gpos 12)) (getS fr (gpos 14)) (getS fr (gpos 15)) (getS fr (gpos 16)) m4 (getS fr (gpos 1)) (getS fr (gpos 13)) h) (funext fun fr => funext fun h => by kernel_rfl) fun m4 => rCast (funext fun fr => funext fun h => by kernel_rfl) rExact))) rExact) rExact) rExact) (rSeq (by kernel_rfl) (rSeq (by kernel_rfl) rExact (rBlock (by kernel_rfl) (rLoop (by kernel_rfl) (fun m8 fr h => s_int_strconv_formatBitsL8 cf fuel (s_int_strconv_formatBitsE7 cf fuel (s_int_strconv_formatBitsJ1 cf fuel K (getS fr (gpos 0)) (getS fr (gpos 3)) (getS fr (gpos 4)) (getS fr (gpos 10)) (getS fr (gpos 11)) (getS fr (gpos 12))) (getS fr (gpos 0)) (getS fr (gpos 3)) (getS fr (gpos 4)) (getS fr (gpos 10)) (getS fr (gpos 11)) (getS fr (gpos 12))) (getS fr (gpos 0)) (getS fr (gpos 3)) (getS fr (gpos 4)) (getS fr (gpos 10)) (getS fr (gpos 11)) (getS fr (gpos 12)) (getS fr (gpos 17)) m8 (getS fr (gpos 1)) (getS fr (gpos 13)) h) (funext fun fr => funext fun h => by kernel_rfl) fun m8 => rCast (funext fun fr => funext fun h => by kernel_rfl) rExact))) rExact)) rExact)) rExact) rExact) rExact) rExact) rExact))

noncomputable def s_slices_BinarySearch_string_stringE0 (cf : CallK) (fuel : Nat) (K : AV → Hp → Prop) (t0 : AV) (t1 : AV) (t6 : AV) : AV → Hp → Prop := fun t7 h =>
vLss t7 t6 h fun t34 h =>
joinG (fun g17 => grdV t34 true (vMov t0 h g17) (g17 undefV h)) fun t36 h =>
joinG (fun g16 => grdV t34 true (vMov t7 h g16) (g16 undefV h)) fun t37 h =>
joinG (fun g15 => grdV t34 true (vIaddr 1 t36 t37 h g15) (g15 undefV h)) fun t38 h =>
joinG (fun g14 => grdV t34 true (vLoad2 t38 h g14) (g14 undefV h)) fun t39 h =>
joinG (fun g13 => grdV t34 true (vMov t1 h g13) (g13 undefV h)) fun t40 h =>
joinG (fun g12 => grdV t34 true (vEql t39 t40 h g12) (g12 undefV h)) fun t41 h =>
joinG (fun g11 => grdV t34 true (vMov t41 h g11) (g11 undefV h)) fun t42 h =>
joinG (fun g10 => grdV t42 false (vMov t0 h g10) (g10 undefV h)) fun t43 h =>
joinG (fun g9 => grdV t42 false (vMov t7 h g9) (g9 undefV h)) fun t44 h =>
joinG (fun g8 => grdV t42 false (vIaddr 1 t43 t44 h g8) (g8 undefV h)) fun t45 h =>
joinG (fun g7 => grdV t42 false (vLoad2 t45 h g7) (g7 undefV h)) fun t46 h =>
joinG (fun g6 => grdV t42 false (cf f_slices_isNaN_string [t46] h g6) (g6 undefV h)) fun t47 h =>
joinG (fun g5 => grdV t42 false (vMov t47 h g5) (g5 undefV h)) fun t48 h =>
joinG (fun g4 => grdV t48 true (vMov t1 h g4) (g4 undefV h)) fun t49 h =>
joinG (fun g3 => grdV t48 true (cf f_slices_isNaN_string [t49] h g3) (g3 undefV h)) fun t50 h =>
joinG (fun g2 => grdV t42 false (vPick t48 t50 (.bool .false) h g2) (g2 undefV h)) fun t51 h =>
joinG (fun g1 => grdV t34 true (vPick t42 (.bool .true) t51 h g1) (g1 undefV h)) fun t52 h =>
vPick t34 t52 (.bool .false) h fun t53 h =>
K (.tup [t7, t53]) h
noncomputable def s_slices_BinarySearch_string_stringL18B (cf : CallK) (fuel : Nat) (e0 : AV → Hp → Prop) (t0 : AV) (t1 : AV) (t6 : AV) (ih18 : AV → AV → Hp → Prop) : AV → AV → Hp → Prop := fun t7 t8 h =>
vLss t7 t8 h fun t15 h =>
vIf t15 (
(fun (e19 : AV → AV → Hp → Prop) =>
vAdd t7 t8 h fun t18 h =>
vToInt .u64 t18 h fun t19 h =>
vShr t19 (.int .u64 1) h fun t20 h =>
vToInt .i64 t20 h fun t21 h =>
vIaddr 1 t0 t21 h fun t24 h =>
vLoad2 t24 h fun t25 h =>
cf f_cmp_Less_string [t25, t1] h fun t27 h =>
vIf t27 (
vAdd t21 (.int .i64 1) h fun t29 h =>
e19 t29 t8 h) (
e19 t7 t21 h)) fun t7_20 t8_21 h =>
ih18 t7_20 t8_21 h) (
e0 t7 h)
noncomputable def s_slices_BinarySearch_string_stringL18 (cf : CallK) (fuel : Nat) (e0 : AV → Hp → Prop) (t0 : AV) (t1 : AV) (t6 : AV) (m : Nat) : AV → AV → Hp → Prop := Nat.rec (motive := fun _ => AV → AV → Hp → Prop) (fun _ _ _ => False) (fun _ ih => s_slices_BinarySearch_string_stringL18B cf fuel e0 t0 t1 t6 ih) m
theorem s_slices_BinarySearch_string_stringL18_succ (cf : CallK) (fuel : Nat) (e0 : AV → Hp → Prop) (t0 : AV) (t1 : AV) (t6 : AV) (m : Nat) : s_slices_BinarySearch_string_stringL18 cf fuel e0 t0 t1 t6 (m + 1) = s_slices_BinarySearch_string_stringL18B cf fuel e0 t0 t1 t6 (s_slices_BinarySearch_string_stringL18 cf fuel e0 t0 t1 t6 m) := rfl
noncomputable def s_slices_BinarySearch_string_string (cf : CallK) (fuel : Nat) (t0 : AV) (t1 : AV) (h : Hp) (K : AV → Hp → Prop) : Prop :=
vLenL2 t0 h fun t11 h =>
(fun (e0 : AV → Hp → Prop) =>
s_slices_BinarySearch_string_stringL18 cf fuel (s_slices_BinarySearch_string_stringE0 cf fuel K t0 t1 t11) t0 t1 t11 fuel (.int .i64 0) t11 h) (s_slices_BinarySearch_string_stringE0 cf fuel K t0 t1 t11)
theorem s_slices_BinarySearch_string_string_eq (cf : CallK) (fuel : Nat) (t0 : AV) (t1 : AV) (h : Hp) (K : AV → Hp → Prop) : s_slices_BinarySearch_string_string cf fuel t0 t1 h K = deepT (tabOf Tryz.prog) f_slices_BinarySearch_string_string cf fuel [t0, t1] h K :=
  Eq.trans (by kernel_rfl) (rFun (by kernel_rfl) (rSeq (by kernel_rfl) (rSeq (by kernel_rfl) (rSeq (by kernel_rfl) (rSeq (by kernel_rfl) rExact (rBlock (by kernel_rfl) (rLoop (by kernel_rfl) (fun m18 fr h => s_slices_BinarySearch_string_stringL18 cf fuel (s_slices_BinarySearch_string_stringE0 cf fuel K (getS fr (gpos 0)) (getS fr (gpos 1)) (getS fr (gpos 6))) (getS fr (gpos 0)) (getS fr (gpos 1)) (getS fr (gpos 6)) m18 (getS fr (gpos 7)) (getS fr (gpos 8)) h) (funext fun fr => funext fun h => by kernel_rfl) fun m18 => rCast (funext fun fr => funext fun h => by kernel_rfl) rExact))) rExact) rExact) rExact))

noncomputable def s_wal_room (cf : CallK) (fuel : Nat) (t0 : AV) (h : Hp) (K : AV → Hp → Prop) : Prop :=
cf f_device_Device_Blocks [t0] h fun t4 h =>
vLss t4 (.int .i64 16) h fun t5 h =>
vIf t5 (
K (.int .i64 0) h) (
cf f_device_Device_Blocks [t0] h fun t7 h =>
vArith Go.Am.subI t7 (.int .i64 8) h fun t8 h =>
vDiv false t8 (.int .i64 4) h fun t9 h =>
K t9 h)
theorem s_wal_room_eq (cf : CallK) (fuel : Nat) (t0 : AV) (h : Hp) (K : AV → Hp → Prop) : s_wal_room cf fuel t0 h K = deepT (tabOf Tryz.prog) f_wal_room cf fuel [t0] h K :=
  Eq.trans (by kernel_rfl) (rFun (by kernel_rfl) rExact)


end Go.Proofs.YtbefkepinpollaaGreatDoor.sh4
