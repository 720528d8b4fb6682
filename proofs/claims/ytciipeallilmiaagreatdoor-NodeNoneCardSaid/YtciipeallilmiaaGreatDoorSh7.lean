/- The Go functions' code as the abstract machine's, over values; each is the code that the machine makes of the program's (theorems s_.._eq). No condition. -/
import Derived.Test.YtciipeallilmiaaGreatDoorAmC
import Derived.Test.YtciipeallilmiaaGreatDoorProg
import Derived.KernelRfl
namespace Go.Proofs.YtciipeallilmiaaGreatDoor.sh7
open Go Go.Am Go.Proofs
set_option linter.unusedVariables false
set_option maxRecDepth 100000
abbrev f_bytes_Clone : Nat := 145
abbrev f_clock_Clock_to : Nat := 242
abbrev f_clock_Cmp : Nat := 219
abbrev f_clock_Less : Nat := 148
abbrev f_clock_Valid : Nat := 215
abbrev f_clock_node : Nat := 102
abbrev f_cmp_Compare_int : Nat := 272
abbrev f_cmp_Compare_int64 : Nat := 271
abbrev f_codec_Writer_Bytes : Nat := 150
abbrev f_codec_Writer_ID : Nat := 213
abbrev f_codec_Writer_Text : Nat := 214
abbrev f_codec_Writer_may : Nat := 144
abbrev f_codec_nums : Nat := 227
abbrev f_codec_stamp : Nat := 270
abbrev f_content_File_Add : Nat := 241
abbrev f_content_New : Nat := 240
abbrev f_content_Of : Nat := 289
abbrev f_crc_New : Nat := 229
abbrev f_crc_Sum_Add : Nat := 231
abbrev f_crc_Sum_Value : Nat := 232
abbrev f_crc_each : Nat := 230
abbrev f_device_Device_Blocks : Nat := 31
abbrev f_device_Device_Dead : Nat := 233
abbrev f_device_Device_Flush : Nat := 187
abbrev f_device_Device_Read : Nat := 234
abbrev f_device_Device_Write : Nat := 188
abbrev f_inode_Cost : Nat := 237
abbrev f_inode_blocks : Nat := 275
abbrev f_int_strconv_FormatInt : Nat := 274
abbrev f_localdir_Fine : Nat := 276
abbrev f_localfs_FS_change : Nat := 221
abbrev f_localfs_FS_commit : Nat := 118
abbrev f_localfs_FS_filed : Nat := 175
abbrev f_localfs_FS_turned : Nat := 273
abbrev f_localfs_FS_walk : Nat := 238
abbrev f_localfs_object_kid : Nat := 277
abbrev f_localfs_replacing_do : Nat := 222
abbrev f_localfs_writing_do : Nat := 224
abbrev f_movetree_Tree_Apply : Nat := 239
abbrev f_movetree_each : Nat := 282
abbrev f_ops_Copy : Nat := 110
abbrev f_ops_May : Nat := 146
abbrev f_ops_Root : Nat := 217
abbrev f_ops_earlier : Nat := 218
abbrev f_ops_seen : Nat := 216
abbrev f_slices_BinarySearchFunc_api_Version_api_Version_api_ID : Nat := 286
abbrev f_slices_BinarySearchFunc_movetree_done_movetree_done_api_ID : Nat := 278
abbrev f_slices_Clone_movetree_done_movetree_done : Nat := 280
abbrev f_slices_Insert_api_Version_api_Version : Nat := 288
abbrev f_slices_Insert_movetree_done_movetree_done : Nat := 284
abbrev f_slices_Reverse_movetree_done_movetree_done : Nat := 281
abbrev f_strconv_FormatInt : Nat := 223
abbrev f_vector_At : Nat := 106
abbrev f_vector_With_1 : Nat := 220
abbrev f_wal_Volume_at : Nat := 236
abbrev f_wal_Volume_dead : Nat := 225
abbrev f_wal_Volume_keep : Nat := 226
abbrev f_wal_head : Nat := 189
abbrev f_wal_wrote : Nat := 186
abbrev f_zbyte_Append32 : Nat := 228
abbrev f_zbyte_Get64 : Nat := 235

noncomputable def s_codec_Writer_ID (cf : CallK) (fuel : Nat) (t0 : AV) (t1 : AV) (h : Hp) (K : AV → Hp → Prop) : Prop :=
vBox 2 t1 h fun t3 h =>
vLoadA 2 t3 h fun t5 h =>
cf f_codec_stamp [t5] h fun t6 h =>
cf f_codec_Writer_may [t0, t6] h fun t7 h =>
vIf t7 (
vFunc 67 [t0] [] h fun t9 h =>
vFaddr 0 t3 h fun t10 h =>
vLoad2 t10 h fun t11 h =>
vFaddr 1 t3 h fun t12 h =>
vLoad2 t12 h fun t13 h =>
vBslice 1 2 false [(.int .i64 0)] [(0, 1, t11), (1, 1, t13)] h fun t14 h =>
cf f_codec_nums [t9, t14] h fun t15 h =>
K (.tup []) h) (
K (.tup []) h)
theorem s_codec_Writer_ID_eq (cf : CallK) (fuel : Nat) (t0 : AV) (t1 : AV) (h : Hp) (K : AV → Hp → Prop) : s_codec_Writer_ID cf fuel t0 t1 h K = deepT (tabOf Tryz.prog) f_codec_Writer_ID cf fuel [t0, t1] h K :=
  Eq.trans (by kernel_rfl) (rFun (by kernel_rfl) rExact)

noncomputable def s_codec_Writer_Text (cf : CallK) (fuel : Nat) (t0 : AV) (t1 : AV) (h : Hp) (K : AV → Hp → Prop) : Prop :=
vToBytes t1 h fun t6 h =>
cf f_codec_Writer_Bytes [t0, t6] h fun t7 h =>
K (.tup []) h
theorem s_codec_Writer_Text_eq (cf : CallK) (fuel : Nat) (t0 : AV) (t1 : AV) (h : Hp) (K : AV → Hp → Prop) : s_codec_Writer_Text cf fuel t0 t1 h K = deepT (tabOf Tryz.prog) f_codec_Writer_Text cf fuel [t0, t1] h K :=
  Eq.trans (by kernel_rfl) (rFun (by kernel_rfl) rExact)

noncomputable def s_clock_Valid (cf : CallK) (fuel : Nat) (t0 : AV) (h : Hp) (K : AV → Hp → Prop) : Prop :=
vBox 2 t0 h fun t1 h =>
vFaddr 0 t1 h fun t3 h =>
vLoad2 t3 h fun t4 h =>
vGeq t4 (.int .i64 1) h fun t5 h =>
joinG (fun g5 => grdV t5 true (vFaddr 0 t1 h g5) (g5 undefV h)) fun t7 h =>
joinG (fun g4 => grdV t5 true (vLoad2 t7 h g4) (g4 undefV h)) fun t8 h =>
joinG (fun g3 => grdV t5 true (vLeq t8 (.int .i64 1152921504606846976) h g3) (g3 undefV h)) fun t9 h =>
vPick t5 t9 (.bool .false) h fun t10 h =>
joinG (fun g2 => grdV t10 true (vFaddr 1 t1 h g2) (g2 undefV h)) fun t12 h =>
joinG (fun g1 => grdV t10 true (vLoad2 t12 h g1) (g1 undefV h)) fun t13 h =>
joinG (fun g0 => grdV t10 true (cf f_clock_node [t13] h g0) (g0 undefV h)) fun t14 h =>
vPick t10 t14 (.bool .false) h fun t15 h =>
K t15 h
theorem s_clock_Valid_eq (cf : CallK) (fuel : Nat) (t0 : AV) (h : Hp) (K : AV → Hp → Prop) : s_clock_Valid cf fuel t0 h K = deepT (tabOf Tryz.prog) f_clock_Valid cf fuel [t0] h K :=
  Eq.trans (by kernel_rfl) (rFun (by kernel_rfl) rExact)

noncomputable def s_ops_seenE1 (cf : CallK) (fuel : Nat) (K : AV → Hp → Prop) (t1 : AV) : Hp → Prop := fun h =>
vFaddr 10 t1 h fun t40 h =>
vLoad2 t40 h fun t41 h =>
vFaddr 0 t1 h fun t42 h =>
vFaddr 1 t42 h fun t43 h =>
vLoad2 t43 h fun t44 h =>
vFaddr 2 t1 h fun t46 h =>
vLoad2 t46 h fun t47 h =>
vArith Go.Am.subI t47 (.int .i64 1) h fun t48 h =>
cf f_vector_At [t41, t44] h fun t45 h =>
vLoad2 t46 h fun c _ => gd (sameV c t47) (
vEql t45 t48 h fun t49 h =>
K t49 h)
noncomputable def s_ops_seenL2B (cf : CallK) (fuel : Nat) (K : AV → Hp → Prop) (e1 : Hp → Prop) (t1 : AV) (t27 : AV) (t28 : AV) (ih2 : AV → Hp → Prop) : AV → Hp → Prop := fun t29 h =>
vLss t29 t28 h fun t30 h =>
vIf t30 (
(fun (e3 : Hp → Prop) =>
vIaddr 1 t27 t29 h fun t31 h =>
vLoad2 t31 h fun t32 h =>
vLss t32 (.int .i64 0) h fun t34 h =>
joinG (fun g5 => grdV t34 false (vMov t32 h g5) (g5 undefV h)) fun t36 h =>
joinG (fun g4 => grdV t34 false (vGtr t36 (.int .i64 1152921504606846976) h g4) (g4 undefV h)) fun t37 h =>
vPick t34 (.bool .true) t37 h fun t38 h =>
vIf t38 (
K (.bool .false) h) (
e3 h)) fun h =>
vAdd t29 (.int .i64 1) h fun t39 h =>
ih2 t39 h) (
e1 h)
noncomputable def s_ops_seenL2 (cf : CallK) (fuel : Nat) (K : AV → Hp → Prop) (e1 : Hp → Prop) (t1 : AV) (t27 : AV) (t28 : AV) (m : Nat) : AV → Hp → Prop := Nat.rec (motive := fun _ => AV → Hp → Prop) (fun _ _ => False) (fun _ ih => s_ops_seenL2B cf fuel K e1 t1 t27 t28 ih) m
theorem s_ops_seenL2_succ (cf : CallK) (fuel : Nat) (K : AV → Hp → Prop) (e1 : Hp → Prop) (t1 : AV) (t27 : AV) (t28 : AV) (m : Nat) : s_ops_seenL2 cf fuel K e1 t1 t27 t28 (m + 1) = s_ops_seenL2B cf fuel K e1 t1 t27 t28 (s_ops_seenL2 cf fuel K e1 t1 t27 t28 m) := rfl
noncomputable def s_ops_seenE0 (cf : CallK) (fuel : Nat) (K : AV → Hp → Prop) (t1 : AV) : AV → Hp → Prop := fun t3 h =>
vGtr t3 (.int .i64 64) h fun t23 h =>
vIf t23 (
K (.bool .false) h) (
vFaddr 10 t1 h fun t24 h =>
vLoad2 t24 h fun t25 h =>
vSlice2 1 t25 none (some t3) h fun t27 h =>
vLenL2 t27 h fun t28 h =>
(fun (e1 : Hp → Prop) =>
s_ops_seenL2 cf fuel K (s_ops_seenE1 cf fuel K t1) t1 t27 t28 fuel (.int .i64 0) h) (s_ops_seenE1 cf fuel K t1))
noncomputable def s_ops_seenL6B (cf : CallK) (fuel : Nat) (e0 : AV → Hp → Prop) (t1 : AV) (ih6 : AV → Hp → Prop) : AV → Hp → Prop := fun t3 h =>
vGtr t3 (.int .i64 0) h fun t10 h =>
joinG (fun g15 => grdV t10 true (vFaddr 10 t1 h g15) (g15 undefV h)) fun t12 h =>
joinG (fun g14 => grdV t10 true (vLoad2 t12 h g14) (g14 undefV h)) fun t13 h =>
joinG (fun g13 => grdV t10 true (vMov t3 h g13) (g13 undefV h)) fun t14 h =>
joinG (fun g12 => grdV t10 true (vArith Go.Am.subI t14 (.int .i64 1) h g12) (g12 undefV h)) fun t15 h =>
joinG (fun g11 => grdV t10 true (vIaddr 1 t13 t15 h g11) (g11 undefV h)) fun t16 h =>
joinG (fun g10 => grdV t10 true (vLoad2 t16 h g10) (g10 undefV h)) fun t17 h =>
joinG (fun g9 => grdV t10 true (vEql t17 (.int .i64 0) h g9) (g9 undefV h)) fun t18 h =>
vPick t10 t18 (.bool .false) h fun t19 h =>
vIf t19 (
(fun (e7 : AV → Hp → Prop) =>
vArith Go.Am.subI t3 (.int .i64 1) h fun t21 h =>
e7 t21 h) fun t3_8 h =>
ih6 t3_8 h) (
e0 t3 h)
noncomputable def s_ops_seenL6 (cf : CallK) (fuel : Nat) (e0 : AV → Hp → Prop) (t1 : AV) (m : Nat) : AV → Hp → Prop := Nat.rec (motive := fun _ => AV → Hp → Prop) (fun _ _ => False) (fun _ ih => s_ops_seenL6B cf fuel e0 t1 ih) m
theorem s_ops_seenL6_succ (cf : CallK) (fuel : Nat) (e0 : AV → Hp → Prop) (t1 : AV) (m : Nat) : s_ops_seenL6 cf fuel e0 t1 (m + 1) = s_ops_seenL6B cf fuel e0 t1 (s_ops_seenL6 cf fuel e0 t1 m) := rfl
noncomputable def s_ops_seen (cf : CallK) (fuel : Nat) (t0 : AV) (h : Hp) (K : AV → Hp → Prop) : Prop :=
vBox 11 t0 h fun t1 h =>
vFaddr 10 t1 h fun t6 h =>
vLoad2 t6 h fun t7 h =>
vLenL2 t7 h fun t8 h =>
(fun (e0 : AV → Hp → Prop) =>
s_ops_seenL6 cf fuel (s_ops_seenE0 cf fuel K t1) t1 fuel t8 h) (s_ops_seenE0 cf fuel K t1)
theorem s_ops_seen_eq (cf : CallK) (fuel : Nat) (t0 : AV) (h : Hp) (K : AV → Hp → Prop) : s_ops_seen cf fuel t0 h K = deepT (tabOf Tryz.prog) f_ops_seen cf fuel [t0] h K :=
  Eq.trans (by kernel_rfl) (rFun (by kernel_rfl) (rSeq (by kernel_rfl) (rSeq (by kernel_rfl) (rSeq (by kernel_rfl) (rSeq (by kernel_rfl) (rSeq (by kernel_rfl) rExact (rSeq (by kernel_rfl) (rBlock (by kernel_rfl) (rLoop (by kernel_rfl) (fun m2 fr h => s_ops_seenL2 cf fuel K (s_ops_seenE1 cf fuel K (getS fr (gpos 1))) (getS fr (gpos 1)) (getS fr (gpos 27)) (getS fr (gpos 28)) m2 (getS fr (gpos 29)) h) (funext fun fr => funext fun h => by kernel_rfl) fun m2 => rCast (funext fun fr => funext fun h => by kernel_rfl) rExact)) rExact)) rExact) (rBlock (by kernel_rfl) (rLoop (by kernel_rfl) (fun m6 fr h => s_ops_seenL6 cf fuel (s_ops_seenE0 cf fuel K (getS fr (gpos 1))) (getS fr (gpos 1)) m6 (getS fr (gpos 3)) h) (funext fun fr => funext fun h => by kernel_rfl) fun m6 => rCast (funext fun fr => funext fun h => by kernel_rfl) rExact))) rExact) rExact))

noncomputable def s_ops_Root (cf : CallK) (fuel : Nat) (h : Hp) (K : AV → Hp → Prop) : Prop :=
vBox 2 (.agg [(.int .i64 0), (.int .i64 0)]) h fun t0 h =>
vBuild [(.int .i64 0), (.int .i64 0)] [] h fun t1 h =>
vStore 2 t0 t1 h fun _ h =>
vLoadA 2 t0 h fun r0 _ => K r0 h
theorem s_ops_Root_eq (cf : CallK) (fuel : Nat) (h : Hp) (K : AV → Hp → Prop) : s_ops_Root cf fuel h K = deepT (tabOf Tryz.prog) f_ops_Root cf fuel [] h K :=
  Eq.trans (by kernel_rfl) (rFun (by kernel_rfl) rExact)

noncomputable def s_ops_earlier (cf : CallK) (fuel : Nat) (t0 : AV) (t1 : AV) (h : Hp) (K : AV → Hp → Prop) : Prop :=
vBox 2 t0 h fun t2 h =>
vBox 11 t1 h fun t3 h =>
vLoadA 2 t2 h fun t5 h =>
cf f_clock_Valid [t5] h fun t6 h =>
joinG (fun g3 => grdV t6 true (vLoadA 2 t2 h g3) (g3 undefV h)) fun t8 h =>
joinG (fun g2 => grdV t6 true (vFaddr 0 t3 h g2) (g2 undefV h)) fun t9 h =>
joinG (fun g1 => grdV t6 true (vLoadA 2 t9 h g1) (g1 undefV h)) fun t10 h =>
joinG (fun g0 => grdV t6 true (cf f_clock_Less [t8, t10] h g0) (g0 undefV h)) fun t11 h =>
vPick t6 t11 (.bool .false) h fun t12 h =>
K t12 h
theorem s_ops_earlier_eq (cf : CallK) (fuel : Nat) (t0 : AV) (t1 : AV) (h : Hp) (K : AV → Hp → Prop) : s_ops_earlier cf fuel t0 t1 h K = deepT (tabOf Tryz.prog) f_ops_earlier cf fuel [t0, t1] h K :=
  Eq.trans (by kernel_rfl) (rFun (by kernel_rfl) rExact)

noncomputable def s_clock_Cmp (cf : CallK) (fuel : Nat) (t0 : AV) (t1 : AV) (h : Hp) (K : AV → Hp → Prop) : Prop :=
vBox 2 t0 h fun t2 h =>
vBox 2 t1 h fun t3 h =>
vFaddr 0 t2 h fun t6 h =>
vLoad2 t6 h fun t7 h =>
vFaddr 0 t3 h fun t8 h =>
vLoad2 t8 h fun t9 h =>
cf f_cmp_Compare_int64 [t7, t9] h fun t10 h =>
vNeq t10 (.int .i64 0) h fun t12 h =>
vIf t12 (
K t10 h) (
vFaddr 1 t2 h fun t14 h =>
vLoad2 t14 h fun t15 h =>
vFaddr 1 t3 h fun t16 h =>
vLoad2 t16 h fun t17 h =>
cf f_cmp_Compare_int [t15, t17] h fun t18 h =>
K t18 h)
theorem s_clock_Cmp_eq (cf : CallK) (fuel : Nat) (t0 : AV) (t1 : AV) (h : Hp) (K : AV → Hp → Prop) : s_clock_Cmp cf fuel t0 t1 h K = deepT (tabOf Tryz.prog) f_clock_Cmp cf fuel [t0, t1] h K :=
  Eq.trans (by kernel_rfl) (rFun (by kernel_rfl) rExact)

noncomputable def s_vector_With_1 (cf : CallK) (fuel : Nat) (t0 : AV) (t1 : AV) (t2 : AV) (t3 : AV) (h : Hp) (K : AV → Hp → Prop) : Prop :=
vLoad2 t1 h fun t7 h =>
vEql t0 t7 h fun t8 h =>
vIf t8 (
vLoad2 t2 h fun t9 h =>
K t9 h) (
vLoad2 t3 h fun t10 h =>
cf f_vector_At [t10, t0] h fun t12 h =>
K t12 h)
theorem s_vector_With_1_eq (cf : CallK) (fuel : Nat) (t0 : AV) (t1 : AV) (t2 : AV) (t3 : AV) (h : Hp) (K : AV → Hp → Prop) : s_vector_With_1 cf fuel t0 t1 t2 t3 h K = deepT (tabOf Tryz.prog) f_vector_With_1 cf fuel [t0, t1, t2, t3] h K :=
  Eq.trans (by kernel_rfl) (rFun (by kernel_rfl) rExact)

noncomputable def s_localfs_FS_changeB24 (cf : CallK) (fuel : Nat) (K : AV → Hp → Prop) (e0 : Hp → Prop) (t12 : AV) (t0 : AV) (h : Hp) : Prop :=
vNilck t12 h fun t24 h =>
vFaddr 5 t24 h fun t25 h =>
vLoad2 t25 h fun t26 h =>
joinG (fun g23 => grdV t26 false (vMov t12 h g23) (g23 undefV h)) fun t28 h =>
joinG (fun g22 => grdV t26 false (vNilck t28 h g22) (g22 undefV h)) fun t29 h =>
joinG (fun g21 => grdV t26 false (vFaddr 4 t29 h g21) (g21 undefV h)) fun t30 h =>
joinG (fun g20 => grdV t26 false (vLoad2 t30 h g20) (g20 undefV h)) fun t31 h =>
joinG (fun g19 => grdV t26 false (vMov t0 h g19) (g19 undefV h)) fun t32 h =>
joinG (fun g18 => grdV t26 false (vNilck t32 h g18) (g18 undefV h)) fun t33 h =>
joinG (fun g17 => grdV t26 false (vFaddr 1 t33 h g17) (g17 undefV h)) fun t34 h =>
joinG (fun g16 => grdV t26 false (vLoad2 t34 h g16) (g16 undefV h)) fun t35 h =>
joinG (fun g15 => grdV t26 false (vGtr t31 t35 h g15) (g15 undefV h)) fun t36 h =>
joinG (fun g14 => grdV t26 false (vMov t36 h g14) (g14 undefV h)) fun t37 h =>
joinG (fun g13 => grdV t37 true (vMov t12 h g13) (g13 undefV h)) fun t38 h =>
joinG (fun g12 => grdV t37 true (vNilck t38 h g12) (g12 undefV h)) fun t39 h =>
joinG (fun g11 => grdV t37 true (vFaddr 4 t39 h g11) (g11 undefV h)) fun t40 h =>
joinG (fun g10 => grdV t37 true (vLoad2 t40 h g10) (g10 undefV h)) fun t41 h =>
joinG (fun g9 => grdV t37 true (vMov t0 h g9) (g9 undefV h)) fun t42 h =>
joinG (fun g8 => grdV t37 true (vNilck t42 h g8) (g8 undefV h)) fun t43 h =>
joinG (fun g7 => grdV t37 true (vFaddr 2 t43 h g7) (g7 undefV h)) fun t44 h =>
joinG (fun g6 => grdV t37 true (vLoad2 t44 h g6) (g6 undefV h)) fun t45 h =>
joinG (fun g5 => grdV t37 true (vNilck t45 h g5) (g5 undefV h)) fun t46 h =>
joinG (fun g4 => grdV t37 true (vFaddr 4 t46 h g4) (g4 undefV h)) fun t47 h =>
joinG (fun g3 => grdV t37 true (vLoad2 t47 h g3) (g3 undefV h)) fun t48 h =>
joinG (fun g2 => grdV t37 true (vGtr t41 t48 h g2) (g2 undefV h)) fun t49 h =>
joinG (fun g1 => grdV t26 false (vPick t37 t49 (.bool .false) h g1) (g1 undefV h)) fun t50 h =>
vPick t26 (.bool .true) t50 h fun t51 h =>
vIf t51 (
K (.int .i64 28) h) (
e0 h)
noncomputable def s_localfs_FS_change (cf : CallK) (fuel : Nat) (t0 : AV) (t1 : AV) (h : Hp) (K : AV → Hp → Prop) : Prop :=
vEq false eqP t0 .nilptr h fun t8 h =>
vIf t8 (
K (.int .i64 5) h) (
vCallV t1 [] cf h fun t11 h =>
vExtract 0 t11 h fun t12 h =>
vExtract 1 t11 h fun t13 h =>
(fun (e0 : Hp → Prop) =>
vNeq t13 (.int .i64 0) h fun t16 h =>
joinG (fun g26 => grdV t16 false (vMov t12 h g26) (g26 undefV h)) fun t18 h =>
joinG (fun g25 => grdV t16 false (vEq false eqP t18 .nilptr h g25) (g25 undefV h)) fun t19 h =>
vPick t16 (.bool .true) t19 h fun t20 h =>
vIf t20 (
K t13 h) (
s_localfs_FS_changeB24 cf fuel K e0 t12 t0 h)) fun h =>
cf f_localfs_FS_commit [t0, t12] h fun t54 h =>
K t54 h)
theorem s_localfs_FS_change_eq (cf : CallK) (fuel : Nat) (t0 : AV) (t1 : AV) (h : Hp) (K : AV → Hp → Prop) : s_localfs_FS_change cf fuel t0 t1 h K = deepT (tabOf Tryz.prog) f_localfs_FS_change cf fuel [t0, t1] h K :=
  Eq.trans (by kernel_rfl) (rFun (by kernel_rfl) rExact)

noncomputable def s_localfs_replacing_doB5 (cf : CallK) (fuel : Nat) (K : AV → Hp → Prop) (e0 : Hp → Prop) (t12 : AV) (t1 : AV) (h : Hp) : Prop :=
vEq true eqP t12 .nilptr h fun t20 h =>
joinG (fun g4 => grdV t20 true (vMov t12 h g4) (g4 undefV h)) fun t22 h =>
joinG (fun g3 => grdV t20 true (vNilck t22 h g3) (g3 undefV h)) fun t23 h =>
joinG (fun g2 => grdV t20 true (vFaddr 0 t23 h g2) (g2 undefV h)) fun t24 h =>
joinG (fun g1 => grdV t20 true (vLoad2 t24 h g1) (g1 undefV h)) fun t25 h =>
vPick t20 t25 (.bool .false) h fun t26 h =>
vIf t26 (
K (.tup [.nilptr, (.int .i64 21)]) h) (
vFaddr 2 t1 h fun t28 h =>
vLoad2 t28 h fun t29 h =>
vLenL2 t29 h fun t30 h =>
vGtr t30 (.int .i64 65536) h fun t31 h =>
vIf t31 (
K (.tup [.nilptr, (.int .i64 27)]) h) (
e0 h))
noncomputable def s_localfs_replacing_do (cf : CallK) (fuel : Nat) (t0 : AV) (h : Hp) (K : AV → Hp → Prop) : Prop :=
vBox 3 t0 h fun t1 h =>
vFaddr 0 t1 h fun t7 h =>
vLoad2 t7 h fun t8 h =>
vFaddr 1 t1 h fun t9 h =>
vLoad2 t9 h fun t10 h =>
cf f_localfs_FS_walk [t8, t10] h fun t11 h =>
vExtract 0 t11 h fun t12 h =>
vExtract 1 t11 h fun t13 h =>
(fun (e0 : Hp → Prop) =>
vNeq t13 (.int .i64 0) h fun t16 h =>
vIf t16 (
K (.tup [.nilptr, t13]) h) (
s_localfs_replacing_doB5 cf fuel K e0 t12 t1 h)) fun h =>
vFaddr 0 t1 h fun t32 h =>
vLoad2 t32 h fun t33 h =>
vFaddr 1 t1 h fun t34 h =>
vLoad2 t34 h fun t35 h =>
vFaddr 2 t1 h fun t37 h =>
vLoad2 t37 h fun t38 h =>
cf f_bytes_Clone [t38] h fun t39 h =>
vLoad2 t32 h fun c _ => gd (sameV c t33) (
vLoad2 t34 h fun c _ => gd (sameV c t35) (
cf f_localfs_FS_turned [t33, t35, t12, t39] h fun t40 h =>
vExtract 0 t40 h fun t41 h =>
vExtract 1 t40 h fun t42 h =>
K (.tup [t41, t42]) h))
theorem s_localfs_replacing_do_eq (cf : CallK) (fuel : Nat) (t0 : AV) (h : Hp) (K : AV → Hp → Prop) : s_localfs_replacing_do cf fuel t0 h K = deepT (tabOf Tryz.prog) f_localfs_replacing_do cf fuel [t0] h K :=
  Eq.trans (by kernel_rfl) (rFun (by kernel_rfl) rExact)

noncomputable def s_strconv_FormatInt (cf : CallK) (fuel : Nat) (t0 : AV) (t1 : AV) (h : Hp) (K : AV → Hp → Prop) : Prop :=
cf f_int_strconv_FormatInt [t0, t1] h fun t7 h =>
K t7 h
theorem s_strconv_FormatInt_eq (cf : CallK) (fuel : Nat) (t0 : AV) (t1 : AV) (h : Hp) (K : AV → Hp → Prop) : s_strconv_FormatInt cf fuel t0 t1 h K = deepT (tabOf Tryz.prog) f_strconv_FormatInt cf fuel [t0, t1] h K :=
  Eq.trans (by kernel_rfl) (rFun (by kernel_rfl) rExact)

noncomputable def s_localfs_writing_doB8 (cf : CallK) (fuel : Nat) (K : AV → Hp → Prop) (e0 : Hp → Prop) (t1 : AV) (h : Hp) : Prop :=
vFaddr 3 t1 h fun t23 h =>
vLoad2 t23 h fun t24 h =>
vLenL2 t24 h fun t25 h =>
vGtr t25 (.int .i64 65536) h fun t26 h =>
joinG (fun g7 => grdV t26 false (vFaddr 2 t1 h g7) (g7 undefV h)) fun t28 h =>
joinG (fun g6 => grdV t26 false (vLoad2 t28 h g6) (g6 undefV h)) fun t29 h =>
joinG (fun g5 => grdV t26 false (vFaddr 3 t1 h g5) (g5 undefV h)) fun t30 h =>
joinG (fun g4 => grdV t26 false (vLoad2 t30 h g4) (g4 undefV h)) fun t31 h =>
joinG (fun g3 => grdV t26 false (vLenL2 t31 h g3) (g3 undefV h)) fun t32 h =>
joinG (fun g2 => grdV t26 false (vArith Go.Am.subI (.int .i64 65536) t32 h g2) (g2 undefV h)) fun t33 h =>
joinG (fun g1 => grdV t26 false (vGtr t29 t33 h g1) (g1 undefV h)) fun t34 h =>
vPick t26 (.bool .true) t34 h fun t35 h =>
vIf t35 (
K (.tup [.nilptr, (.int .i64 27)]) h) (
vFaddr 3 t1 h fun t37 h =>
vLoad2 t37 h fun t38 h =>
vLenL2 t38 h fun t39 h =>
vEql t39 (.int .i64 0) h fun t40 h =>
vIf t40 (
K (.tup [.nilptr, (.int .i64 0)]) h) (
e0 h))
noncomputable def s_localfs_writing_do (cf : CallK) (fuel : Nat) (t0 : AV) (h : Hp) (K : AV → Hp → Prop) : Prop :=
vBox 4 t0 h fun t1 h =>
vFaddr 0 t1 h fun t8 h =>
vLoad2 t8 h fun t9 h =>
vFaddr 1 t1 h fun t10 h =>
vLoad2 t10 h fun t11 h =>
vFaddr 2 t1 h fun t12 h =>
vLoad2 t12 h fun t13 h =>
vLss t13 (.int .i64 0) h fun t14 h =>
cf f_localfs_FS_filed [t9, t11, t14] h fun t15 h =>
vExtract 0 t15 h fun t16 h =>
vExtract 1 t15 h fun t17 h =>
(fun (e0 : Hp → Prop) =>
vNeq t17 (.int .i64 0) h fun t20 h =>
vIf t20 (
K (.tup [.nilptr, t17]) h) (
s_localfs_writing_doB8 cf fuel K e0 t1 h)) fun h =>
vNilck t16 h fun t42 h =>
vFaddr 1 t42 h fun t43 h =>
vLoad2 t43 h fun t44 h =>
vLenL2 t44 h fun t45 h =>
vFaddr 2 t1 h fun t46 h =>
vLoad2 t46 h fun t47 h =>
vFaddr 3 t1 h fun t48 h =>
vLoad2 t48 h fun t49 h =>
vLenL2 t49 h fun t50 h =>
vAdd t47 t50 h fun t51 h =>
vMin true t45 t51 h fun t52 h =>
vMkSlice 1 1 true [(.int .u8 0)] t52 t52 h fun t53 h =>
vNilck t16 h fun t56 h =>
vFaddr 1 t56 h fun t57 h =>
vLoad2 t57 h fun t58 h =>
vCopy 1 true t53 t58 h fun t59 h =>
vFaddr 2 t1 h fun t61 h =>
vLoad2 t61 h fun t62 h =>
vSlice2 1 t53 (some t62) none h fun t63 h =>
vFaddr 3 t1 h fun t64 h =>
vLoad2 t64 h fun t65 h =>
vCopy 1 true t63 t65 h fun t66 h =>
vFaddr 0 t1 h fun t67 h =>
vLoad2 t67 h fun t68 h =>
vFaddr 1 t1 h fun t69 h =>
vLoad2 t69 h fun t70 h =>
cf f_localfs_FS_turned [t68, t70, t16, t53] h fun t73 h =>
vExtract 0 t73 h fun t74 h =>
vExtract 1 t73 h fun t75 h =>
K (.tup [t74, t75]) h
theorem s_localfs_writing_do_eq (cf : CallK) (fuel : Nat) (t0 : AV) (h : Hp) (K : AV → Hp → Prop) : s_localfs_writing_do cf fuel t0 h K = deepT (tabOf Tryz.prog) f_localfs_writing_do cf fuel [t0] h K :=
  Eq.trans (by kernel_rfl) (rFun (by kernel_rfl) rExact)

noncomputable def s_wal_Volume_dead (cf : CallK) (fuel : Nat) (t0 : AV) (h : Hp) (K : AV → Hp → Prop) : Prop :=
vNilck t0 h fun t5 h =>
vFaddr 5 t5 h fun t6 h =>
vLoad2 t6 h fun t7 h =>
joinG (fun g4 => grdV t7 false (vMov t0 h g4) (g4 undefV h)) fun t9 h =>
joinG (fun g3 => grdV t7 false (vNilck t9 h g3) (g3 undefV h)) fun t10 h =>
joinG (fun g2 => grdV t7 false (vFaddr 0 t10 h g2) (g2 undefV h)) fun t11 h =>
joinG (fun g1 => grdV t7 false (vLoad2 t11 h g1) (g1 undefV h)) fun t12 h =>
joinG (fun g0 => grdV t7 false (cf f_device_Device_Dead [t12] h g0) (g0 undefV h)) fun t13 h =>
vPick t7 (.bool .true) t13 h fun t14 h =>
vNilck t0 h fun t15 h =>
vFaddr 5 t15 h fun t16 h =>
vStore 1 t16 t14 h fun _ h =>
vNilck t0 h fun t18 h =>
vFaddr 5 t18 h fun t19 h =>
vLoad2 t19 h fun t20 h =>
K t20 h
theorem s_wal_Volume_dead_eq (cf : CallK) (fuel : Nat) (t0 : AV) (h : Hp) (K : AV → Hp → Prop) : s_wal_Volume_dead cf fuel t0 h K = deepT (tabOf Tryz.prog) f_wal_Volume_dead cf fuel [t0] h K :=
  Eq.trans (by kernel_rfl) (rFun (by kernel_rfl) rExact)

noncomputable def s_wal_Volume_keepB1 (cf : CallK) (fuel : Nat) (K : AV → Hp → Prop) (t0 : AV) (t3 : AV) (h : Hp) : Prop :=
vNilck t0 h fun t48 h =>
vFaddr 0 t48 h fun t49 h =>
vLoad2 t49 h fun t50 h =>
vDiv true t3 (.int .i64 2) h fun t52 h =>
vNilck t0 h fun t55 h =>
vFaddr 3 t55 h fun t56 h =>
vLoad2 t56 h fun t57 h =>
cf f_wal_head [t3, t57] h fun t58 h =>
vLoad2 t49 h fun c _ => gd (sameV c t50) (
cf f_device_Device_Write [t50, t52, t58] h fun t59 h =>
vNeq t59 (.int .i64 0) h fun t61 h =>
vIf t61 (
K t59 h) (
vNilck t0 h fun t64 h =>
vFaddr 0 t64 h fun t65 h =>
vLoad2 t65 h fun t66 h =>
cf f_device_Device_Flush [t66] h fun t67 h =>
vNilck t0 h fun t70 h =>
vFaddr 2 t70 h fun t71 h =>
vStore 1 t71 t3 h fun _ h =>
K t67 h))
noncomputable def s_wal_Volume_keepE0 (cf : CallK) (fuel : Nat) (K : AV → Hp → Prop) (t0 : AV) (t3 : AV) : Hp → Prop := fun h =>
vNilck t0 h fun t40 h =>
vFaddr 0 t40 h fun t41 h =>
vLoad2 t41 h fun t42 h =>
cf f_device_Device_Flush [t42] h fun t43 h =>
vNeq t43 (.int .i64 0) h fun t45 h =>
vIf t45 (
K t43 h) (
s_wal_Volume_keepB1 cf fuel K t0 t3 h)
noncomputable def s_wal_Volume_keepB4 (cf : CallK) (fuel : Nat) (K : AV → Hp → Prop) (ih2 : AV → Hp → Prop) (t0 : AV) (t3 : AV) (t18 : AV) (t20 : AV) (h : Hp) : Prop :=
(fun (e3 : Hp → Prop) =>
vIaddr 1 t18 t20 h fun t23 h =>
vLoad2 t23 h fun t24 h =>
vNilck t0 h fun t26 h =>
vFaddr 0 t26 h fun t27 h =>
vLoad2 t27 h fun t28 h =>
cf f_wal_Volume_at [t0, t3, t20] h fun t32 h =>
vLoad2 t27 h fun c _ => gd (sameV c t28) (
cf f_wal_wrote [t28, t32, t24] h fun t34 h =>
vNeq t34 (.int .i64 0) h fun t36 h =>
vIf t36 (
K t34 h) (
e3 h))) fun h =>
vAdd t20 (.int .i64 1) h fun t38 h =>
ih2 t38 h
noncomputable def s_wal_Volume_keepL2B (cf : CallK) (fuel : Nat) (K : AV → Hp → Prop) (e0 : Hp → Prop) (t0 : AV) (t3 : AV) (t18 : AV) (t19 : AV) (ih2 : AV → Hp → Prop) : AV → Hp → Prop := fun t20 h =>
vLss t20 t19 h fun t21 h =>
vIf t21 (
s_wal_Volume_keepB4 cf fuel K ih2 t0 t3 t18 t20 h) (
e0 h)
noncomputable def s_wal_Volume_keepL2 (cf : CallK) (fuel : Nat) (K : AV → Hp → Prop) (e0 : Hp → Prop) (t0 : AV) (t3 : AV) (t18 : AV) (t19 : AV) (m : Nat) : AV → Hp → Prop := Nat.rec (motive := fun _ => AV → Hp → Prop) (fun _ _ => False) (fun _ ih => s_wal_Volume_keepL2B cf fuel K e0 t0 t3 t18 t19 ih) m
theorem s_wal_Volume_keepL2_succ (cf : CallK) (fuel : Nat) (K : AV → Hp → Prop) (e0 : Hp → Prop) (t0 : AV) (t3 : AV) (t18 : AV) (t19 : AV) (m : Nat) : s_wal_Volume_keepL2 cf fuel K e0 t0 t3 t18 t19 (m + 1) = s_wal_Volume_keepL2B cf fuel K e0 t0 t3 t18 t19 (s_wal_Volume_keepL2 cf fuel K e0 t0 t3 t18 t19 m) := rfl
noncomputable def s_wal_Volume_keep (cf : CallK) (fuel : Nat) (t0 : AV) (h : Hp) (K : AV → Hp → Prop) : Prop :=
vNilck t0 h fun t11 h =>
vFaddr 2 t11 h fun t12 h =>
vLoad2 t12 h fun t13 h =>
vAdd t13 (.int .i64 1) h fun t14 h =>
vNilck t0 h fun t16 h =>
vFaddr 1 t16 h fun t17 h =>
vLoad2 t17 h fun t18 h =>
vLenL2 t18 h fun t19 h =>
(fun (e0 : Hp → Prop) =>
s_wal_Volume_keepL2 cf fuel K (s_wal_Volume_keepE0 cf fuel K t0 t14) t0 t14 t18 t19 fuel (.int .i64 0) h) (s_wal_Volume_keepE0 cf fuel K t0 t14)
theorem s_wal_Volume_keep_eq (cf : CallK) (fuel : Nat) (t0 : AV) (h : Hp) (K : AV → Hp → Prop) : s_wal_Volume_keep cf fuel t0 h K = deepT (tabOf Tryz.prog) f_wal_Volume_keep cf fuel [t0] h K :=
  Eq.trans (by kernel_rfl) (rFun (by kernel_rfl) (rSeq (by kernel_rfl) (rSeq (by kernel_rfl) (rSeq (by kernel_rfl) rExact (rSeq (by kernel_rfl) (rBlock (by kernel_rfl) (rLoop (by kernel_rfl) (fun m2 fr h => s_wal_Volume_keepL2 cf fuel K (s_wal_Volume_keepE0 cf fuel K (getS fr (gpos 0)) (getS fr (gpos 3))) (getS fr (gpos 0)) (getS fr (gpos 3)) (getS fr (gpos 18)) (getS fr (gpos 19)) m2 (getS fr (gpos 20)) h) (funext fun fr => funext fun h => by kernel_rfl) fun m2 => rCast (funext fun fr => funext fun h => by kernel_rfl) rExact)) rExact)) rExact) rExact))

noncomputable def s_codec_numsE0 (cf : CallK) (fuel : Nat) (K : AV → Hp → Prop) : Hp → Prop := fun h =>
K (.tup []) h
noncomputable def s_codec_numsL1B (cf : CallK) (fuel : Nat) (e0 : Hp → Prop) (t0 : AV) (t6 : AV) (t7 : AV) (ih1 : AV → Hp → Prop) : AV → Hp → Prop := fun t8 h =>
vLss t8 t7 h fun t9 h =>
vIf t9 (
(fun (e2 : Hp → Prop) =>
vIaddr 1 t6 t8 h fun t10 h =>
vLoad2 t10 h fun t11 h =>
vCallV t0 [t11] cf h fun t14 h =>
e2 h) fun h =>
vAdd t8 (.int .i64 1) h fun t15 h =>
ih1 t15 h) (
e0 h)
noncomputable def s_codec_numsL1 (cf : CallK) (fuel : Nat) (e0 : Hp → Prop) (t0 : AV) (t6 : AV) (t7 : AV) (m : Nat) : AV → Hp → Prop := Nat.rec (motive := fun _ => AV → Hp → Prop) (fun _ _ => False) (fun _ ih => s_codec_numsL1B cf fuel e0 t0 t6 t7 ih) m
theorem s_codec_numsL1_succ (cf : CallK) (fuel : Nat) (e0 : Hp → Prop) (t0 : AV) (t6 : AV) (t7 : AV) (m : Nat) : s_codec_numsL1 cf fuel e0 t0 t6 t7 (m + 1) = s_codec_numsL1B cf fuel e0 t0 t6 t7 (s_codec_numsL1 cf fuel e0 t0 t6 t7 m) := rfl
noncomputable def s_codec_nums (cf : CallK) (fuel : Nat) (t0 : AV) (t1 : AV) (h : Hp) (K : AV → Hp → Prop) : Prop :=
vLenL2 t1 h fun t7 h =>
(fun (e0 : Hp → Prop) =>
s_codec_numsL1 cf fuel (s_codec_numsE0 cf fuel K) t0 t1 t7 fuel (.int .i64 0) h) (s_codec_numsE0 cf fuel K)
theorem s_codec_nums_eq (cf : CallK) (fuel : Nat) (t0 : AV) (t1 : AV) (h : Hp) (K : AV → Hp → Prop) : s_codec_nums cf fuel t0 t1 h K = deepT (tabOf Tryz.prog) f_codec_nums cf fuel [t0, t1] h K :=
  Eq.trans (by kernel_rfl) (rFun (by kernel_rfl) (rSeq (by kernel_rfl) (rBlock (by kernel_rfl) (rLoop (by kernel_rfl) (fun m1 fr h => s_codec_numsL1 cf fuel (s_codec_numsE0 cf fuel K) (getS fr (gpos 0)) (getS fr (gpos 6)) (getS fr (gpos 7)) m1 (getS fr (gpos 8)) h) (funext fun fr => funext fun h => by kernel_rfl) fun m1 => rCast (funext fun fr => funext fun h => by kernel_rfl) rExact)) rExact))

noncomputable def s_zbyte_Append32 (cf : CallK) (fuel : Nat) (t0 : AV) (t1 : AV) (h : Hp) (K : AV → Hp → Prop) : Prop :=
vToInt .u8 t1 h fun t7 h =>
vShr t1 (.int .u64 8) h fun t9 h =>
vToInt .u8 t9 h fun t10 h =>
vShr t1 (.int .u64 16) h fun t12 h =>
vToInt .u8 t12 h fun t13 h =>
vShr t1 (.int .u64 24) h fun t15 h =>
vToInt .u8 t15 h fun t16 h =>
vBslice 1 4 true [(.int .u8 0)] [(0, 1, t7), (1, 1, t10), (2, 1, t13), (3, 1, t16)] h fun t17 h =>
vAppend2 1 1 true t0 t17 h fun t18 h =>
K t18 h
theorem s_zbyte_Append32_eq (cf : CallK) (fuel : Nat) (t0 : AV) (t1 : AV) (h : Hp) (K : AV → Hp → Prop) : s_zbyte_Append32 cf fuel t0 t1 h K = deepT (tabOf Tryz.prog) f_zbyte_Append32 cf fuel [t0, t1] h K :=
  Eq.trans (by kernel_rfl) (rFun (by kernel_rfl) rExact)

noncomputable def s_crc_New (cf : CallK) (fuel : Nat) (h : Hp) (K : AV → Hp → Prop) : Prop :=
vBuild [(.int .u32 0)] [] h fun t1 h =>
vBox 1 t1 h fun t2 h =>
K t2 h
theorem s_crc_New_eq (cf : CallK) (fuel : Nat) (h : Hp) (K : AV → Hp → Prop) : s_crc_New cf fuel h K = deepT (tabOf Tryz.prog) f_crc_New cf fuel [] h K :=
  Eq.trans (by kernel_rfl) (rFun (by kernel_rfl) rExact)

noncomputable def s_crc_eachE0 (cf : CallK) (fuel : Nat) (K : AV → Hp → Prop) : Hp → Prop := fun h =>
K (.tup []) h
noncomputable def s_crc_eachL1B (cf : CallK) (fuel : Nat) (e0 : Hp → Prop) (t1 : AV) (t6 : AV) (t7 : AV) (ih1 : AV → Hp → Prop) : AV → Hp → Prop := fun t8 h =>
vLss t8 t7 h fun t9 h =>
vIf t9 (
(fun (e2 : Hp → Prop) =>
vIaddr 1 t6 t8 h fun t10 h =>
vLoad2 t10 h fun t11 h =>
vCallV t1 [t11] cf h fun t14 h =>
e2 h) fun h =>
vAdd t8 (.int .i64 1) h fun t15 h =>
ih1 t15 h) (
e0 h)
noncomputable def s_crc_eachL1 (cf : CallK) (fuel : Nat) (e0 : Hp → Prop) (t1 : AV) (t6 : AV) (t7 : AV) (m : Nat) : AV → Hp → Prop := Nat.rec (motive := fun _ => AV → Hp → Prop) (fun _ _ => False) (fun _ ih => s_crc_eachL1B cf fuel e0 t1 t6 t7 ih) m
theorem s_crc_eachL1_succ (cf : CallK) (fuel : Nat) (e0 : Hp → Prop) (t1 : AV) (t6 : AV) (t7 : AV) (m : Nat) : s_crc_eachL1 cf fuel e0 t1 t6 t7 (m + 1) = s_crc_eachL1B cf fuel e0 t1 t6 t7 (s_crc_eachL1 cf fuel e0 t1 t6 t7 m) := rfl
noncomputable def s_crc_each (cf : CallK) (fuel : Nat) (t0 : AV) (t1 : AV) (h : Hp) (K : AV → Hp → Prop) : Prop :=
vLenL2 t0 h fun t7 h =>
(fun (e0 : Hp → Prop) =>
s_crc_eachL1 cf fuel (s_crc_eachE0 cf fuel K) t1 t0 t7 fuel (.int .i64 0) h) (s_crc_eachE0 cf fuel K)
theorem s_crc_each_eq (cf : CallK) (fuel : Nat) (t0 : AV) (t1 : AV) (h : Hp) (K : AV → Hp → Prop) : s_crc_each cf fuel t0 t1 h K = deepT (tabOf Tryz.prog) f_crc_each cf fuel [t0, t1] h K :=
  Eq.trans (by kernel_rfl) (rFun (by kernel_rfl) (rSeq (by kernel_rfl) (rBlock (by kernel_rfl) (rLoop (by kernel_rfl) (fun m1 fr h => s_crc_eachL1 cf fuel (s_crc_eachE0 cf fuel K) (getS fr (gpos 1)) (getS fr (gpos 6)) (getS fr (gpos 7)) m1 (getS fr (gpos 8)) h) (funext fun fr => funext fun h => by kernel_rfl) fun m1 => rCast (funext fun fr => funext fun h => by kernel_rfl) rExact)) rExact))

noncomputable def s_crc_Sum_AddE1 (cf : CallK) (fuel : Nat) (K : AV → Hp → Prop) (t0 : AV) : AV → Hp → Prop := fun t7 h =>
vCom t7 h fun t64 h =>
vNilck t0 h fun t65 h =>
vFaddr 0 t65 h fun t66 h =>
vStore 1 t66 t64 h fun _ h =>
K (.tup []) h
noncomputable def s_crc_Sum_AddB4 (cf : CallK) (fuel : Nat) (ih2 : AV → AV → Hp → Prop) (t4 : AV) (t37 : AV) (t7 : AV) (t39 : AV) (h : Hp) : Prop :=
(fun (e3 : AV → Hp → Prop) =>
vIaddr 1 t37 t39 h fun t41 h =>
vLoad2 t41 h fun t42 h =>
vToInt .u32 t42 h fun t45 h =>
vBits Nat.xor t7 t45 h fun t46 h =>
vShr t46 (.int .u64 4) h fun t48 h =>
vBits Nat.land t46 (.int .u32 15) h fun t50 h =>
vIaddrA 1 16 t4 t50 h fun t51 h =>
vLoad2 t51 h fun t52 h =>
vBits Nat.xor t48 t52 h fun t53 h =>
vShr t53 (.int .u64 4) h fun t55 h =>
vBits Nat.land t53 (.int .u32 15) h fun t57 h =>
vIaddrA 1 16 t4 t57 h fun t58 h =>
vLoad2 t58 h fun t59 h =>
vBits Nat.xor t55 t59 h fun t60 h =>
e3 t60 h) fun t7 h =>
vAdd t39 (.int .i64 1) h fun t61 h =>
ih2 t7 t61 h
noncomputable def s_crc_Sum_AddL2B (cf : CallK) (fuel : Nat) (e1 : AV → Hp → Prop) (t0 : AV) (t4 : AV) (t37 : AV) (t38 : AV) (ih2 : AV → AV → Hp → Prop) : AV → AV → Hp → Prop := fun t7 t39 h =>
vLss t39 t38 h fun t40 h =>
vIf t40 (
s_crc_Sum_AddB4 cf fuel ih2 t4 t37 t7 t39 h) (
e1 t7 h)
noncomputable def s_crc_Sum_AddL2 (cf : CallK) (fuel : Nat) (e1 : AV → Hp → Prop) (t0 : AV) (t4 : AV) (t37 : AV) (t38 : AV) (m : Nat) : AV → AV → Hp → Prop := Nat.rec (motive := fun _ => AV → AV → Hp → Prop) (fun _ _ _ => False) (fun _ ih => s_crc_Sum_AddL2B cf fuel e1 t0 t4 t37 t38 ih) m
theorem s_crc_Sum_AddL2_succ (cf : CallK) (fuel : Nat) (e1 : AV → Hp → Prop) (t0 : AV) (t4 : AV) (t37 : AV) (t38 : AV) (m : Nat) : s_crc_Sum_AddL2 cf fuel e1 t0 t4 t37 t38 (m + 1) = s_crc_Sum_AddL2B cf fuel e1 t0 t4 t37 t38 (s_crc_Sum_AddL2 cf fuel e1 t0 t4 t37 t38 m) := rfl
noncomputable def s_crc_Sum_AddE0 (cf : CallK) (fuel : Nat) (K : AV → Hp → Prop) (t0 : AV) (t1 : AV) (t4 : AV) : Hp → Prop := fun h =>
vNilck t0 h fun t33 h =>
vFaddr 0 t33 h fun t34 h =>
vLoad2 t34 h fun t35 h =>
vCom t35 h fun t36 h =>
vLenL2 t1 h fun t38 h =>
(fun (e1 : AV → Hp → Prop) =>
s_crc_Sum_AddL2 cf fuel (s_crc_Sum_AddE1 cf fuel K t0) t0 t4 t1 t38 fuel t36 (.int .i64 0) h) (s_crc_Sum_AddE1 cf fuel K t0)
noncomputable def s_crc_Sum_AddE6 (cf : CallK) (fuel : Nat) (ih5 : AV → Hp → Prop) (t0 : AV) (t1 : AV) (t4 : AV) (t13 : AV) : Hp → Prop := fun h =>
vAdd t13 (.int .i64 1) h fun t31 h =>
ih5 t31 h
noncomputable def s_crc_Sum_AddE7 (cf : CallK) (fuel : Nat) (e6 : Hp → Prop) (t0 : AV) (t1 : AV) (t4 : AV) (t5 : AV) (t13 : AV) : AV → Hp → Prop := fun t6 h =>
vIaddrA 1 16 t4 t5 h fun t30 h =>
vStore 1 t30 t6 h fun _ h =>
e6 h
noncomputable def s_crc_Sum_AddL8B (cf : CallK) (fuel : Nat) (e7 : AV → Hp → Prop) (t0 : AV) (t1 : AV) (t4 : AV) (t5 : AV) (t13 : AV) (ih8 : AV → AV → Hp → Prop) : AV → AV → Hp → Prop := fun t6 t18 h =>
vLss t18 (.int .i64 4) h fun t19 h =>
vIf t19 (
(fun (e9 : AV → Hp → Prop) =>
vShr t6 (.int .u64 1) h fun t21 h =>
vBits Nat.land t6 (.int .u32 1) h fun t23 h =>
vNeg t23 h fun t24 h =>
vBits Nat.land (.int .u32 3988292384) t24 h fun t25 h =>
vBits Nat.xor t21 t25 h fun t26 h =>
e9 t26 h) fun t6 h =>
vAdd t18 (.int .i64 1) h fun t27 h =>
ih8 t6 t27 h) (
e7 t6 h)
noncomputable def s_crc_Sum_AddL8 (cf : CallK) (fuel : Nat) (e7 : AV → Hp → Prop) (t0 : AV) (t1 : AV) (t4 : AV) (t5 : AV) (t13 : AV) (m : Nat) : AV → AV → Hp → Prop := Nat.rec (motive := fun _ => AV → AV → Hp → Prop) (fun _ _ _ => False) (fun _ ih => s_crc_Sum_AddL8B cf fuel e7 t0 t1 t4 t5 t13 ih) m
theorem s_crc_Sum_AddL8_succ (cf : CallK) (fuel : Nat) (e7 : AV → Hp → Prop) (t0 : AV) (t1 : AV) (t4 : AV) (t5 : AV) (t13 : AV) (m : Nat) : s_crc_Sum_AddL8 cf fuel e7 t0 t1 t4 t5 t13 (m + 1) = s_crc_Sum_AddL8B cf fuel e7 t0 t1 t4 t5 t13 (s_crc_Sum_AddL8 cf fuel e7 t0 t1 t4 t5 t13 m) := rfl
noncomputable def s_crc_Sum_AddL5B (cf : CallK) (fuel : Nat) (e0 : Hp → Prop) (t0 : AV) (t1 : AV) (t4 : AV) (ih5 : AV → Hp → Prop) : AV → Hp → Prop := fun t13 h =>
vLss t13 (.int .i64 16) h fun t14 h =>
vIf t14 (
(fun (e6 : Hp → Prop) =>
vToInt .u32 t13 h fun t17 h =>
(fun (e7 : AV → Hp → Prop) =>
s_crc_Sum_AddL8 cf fuel (s_crc_Sum_AddE7 cf fuel (s_crc_Sum_AddE6 cf fuel ih5 t0 t1 t4 t13) t0 t1 t4 t13 t13) t0 t1 t4 t13 t13 fuel t17 (.int .i64 0) h) (s_crc_Sum_AddE7 cf fuel (s_crc_Sum_AddE6 cf fuel ih5 t0 t1 t4 t13) t0 t1 t4 t13 t13)) (s_crc_Sum_AddE6 cf fuel ih5 t0 t1 t4 t13)) (
e0 h)
noncomputable def s_crc_Sum_AddL5 (cf : CallK) (fuel : Nat) (e0 : Hp → Prop) (t0 : AV) (t1 : AV) (t4 : AV) (m : Nat) : AV → Hp → Prop := Nat.rec (motive := fun _ => AV → Hp → Prop) (fun _ _ => False) (fun _ ih => s_crc_Sum_AddL5B cf fuel e0 t0 t1 t4 ih) m
theorem s_crc_Sum_AddL5_succ (cf : CallK) (fuel : Nat) (e0 : Hp → Prop) (t0 : AV) (t1 : AV) (t4 : AV) (m : Nat) : s_crc_Sum_AddL5 cf fuel e0 t0 t1 t4 (m + 1) = s_crc_Sum_AddL5B cf fuel e0 t0 t1 t4 (s_crc_Sum_AddL5 cf fuel e0 t0 t1 t4 m) := rfl
noncomputable def s_crc_Sum_Add (cf : CallK) (fuel : Nat) (t0 : AV) (t1 : AV) (h : Hp) (K : AV → Hp → Prop) : Prop :=
vEq false eqP t0 .nilptr h fun t11 h =>
vIf t11 (
K (.tup []) h) (
vBuild [(.int .u32 0), (.int .u32 0), (.int .u32 0), (.int .u32 0), (.int .u32 0), (.int .u32 0), (.int .u32 0), (.int .u32 0), (.int .u32 0), (.int .u32 0), (.int .u32 0), (.int .u32 0), (.int .u32 0), (.int .u32 0), (.int .u32 0), (.int .u32 0)] [] h fun t12 h =>
vBox 16 (.agg [(.int .u32 0), (.int .u32 0), (.int .u32 0), (.int .u32 0), (.int .u32 0), (.int .u32 0), (.int .u32 0), (.int .u32 0), (.int .u32 0), (.int .u32 0), (.int .u32 0), (.int .u32 0), (.int .u32 0), (.int .u32 0), (.int .u32 0), (.int .u32 0)]) h fun t4 h =>
vStore 16 t4 t12 h fun _ h =>
(fun (e0 : Hp → Prop) =>
s_crc_Sum_AddL5 cf fuel (s_crc_Sum_AddE0 cf fuel K t0 t1 t4) t0 t1 t4 fuel (.int .i64 0) h) (s_crc_Sum_AddE0 cf fuel K t0 t1 t4))
theorem s_crc_Sum_Add_eq (cf : CallK) (fuel : Nat) (t0 : AV) (t1 : AV) (h : Hp) (K : AV → Hp → Prop) : s_crc_Sum_Add cf fuel t0 t1 h K = deepT (tabOf Tryz.prog) f_crc_Sum_Add cf fuel [t0, t1] h K :=
  Eq.trans (by kernel_rfl) (rFun (by kernel_rfl) (rSeq (by kernel_rfl) (rSeq (by kernel_rfl) (rSeq (by kernel_rfl) (rSeq (by kernel_rfl) (rSeq (by kernel_rfl) rExact (rSeq (by kernel_rfl) (rBlock (by kernel_rfl) (rLoop (by kernel_rfl) (fun m2 fr h => s_crc_Sum_AddL2 cf fuel (s_crc_Sum_AddE1 cf fuel K (getS fr (gpos 0))) (getS fr (gpos 0)) (getS fr (gpos 4)) (getS fr (gpos 37)) (getS fr (gpos 38)) m2 (getS fr (gpos 7)) (getS fr (gpos 39)) h) (funext fun fr => funext fun h => by kernel_rfl) fun m2 => rCast (funext fun fr => funext fun h => by kernel_rfl) rExact)) rExact)) rExact) (rSeq (by kernel_rfl) (rBlock (by kernel_rfl) (rLoop (by kernel_rfl) (fun m5 fr h => s_crc_Sum_AddL5 cf fuel (s_crc_Sum_AddE0 cf fuel K (getS fr (gpos 0)) (getS fr (gpos 1)) (getS fr (gpos 4))) (getS fr (gpos 0)) (getS fr (gpos 1)) (getS fr (gpos 4)) m5 (getS fr (gpos 13)) h) (funext fun fr => funext fun h => by kernel_rfl) fun m5 => rCast (funext fun fr => funext fun h => by kernel_rfl) (rSeq (by kernel_rfl) (rSeq (by kernel_rfl) (rSeq (by kernel_rfl) rExact (rBlock (by kernel_rfl) (rSeq (by kernel_rfl) (rSeq (by kernel_rfl) (rSeq (by kernel_rfl) rExact (rSeq (by kernel_rfl) (rBlock (by kernel_rfl) (rLoop (by kernel_rfl) (fun m8 fr h => s_crc_Sum_AddL8 cf fuel (s_crc_Sum_AddE7 cf fuel (s_crc_Sum_AddE6 cf fuel (s_crc_Sum_AddL5 cf fuel (s_crc_Sum_AddE0 cf fuel K (getS fr (gpos 0)) (getS fr (gpos 1)) (getS fr (gpos 4))) (getS fr (gpos 0)) (getS fr (gpos 1)) (getS fr (gpos 4)) m5) (getS fr (gpos 0)) (getS fr (gpos 1)) (getS fr (gpos 4)) (getS fr (gpos 13))) (getS fr (gpos 0)) (getS fr (gpos 1)) (getS fr (gpos 4)) (getS fr (gpos 5)) (getS fr (gpos 13))) (getS fr (gpos 0)) (getS fr (gpos 1)) (getS fr (gpos 4)) (getS fr (gpos 5)) (getS fr (gpos 13)) m8 (getS fr (gpos 6)) (getS fr (gpos 18)) h) (funext fun fr => funext fun h => by kernel_rfl) fun m8 => rCast (funext fun fr => funext fun h => by kernel_rfl) rExact)) rExact)) rExact) rExact))) rExact) rExact))) rExact)) rExact) rExact))

noncomputable def s_crc_Sum_Value (cf : CallK) (fuel : Nat) (t0 : AV) (h : Hp) (K : AV → Hp → Prop) : Prop :=
vEq false eqP t0 .nilptr h fun t4 h =>
vIf t4 (
K (.int .u32 0) h) (
vNilck t0 h fun t6 h =>
vFaddr 0 t6 h fun t7 h =>
vLoad2 t7 h fun t8 h =>
K t8 h)
theorem s_crc_Sum_Value_eq (cf : CallK) (fuel : Nat) (t0 : AV) (h : Hp) (K : AV → Hp → Prop) : s_crc_Sum_Value cf fuel t0 h K = deepT (tabOf Tryz.prog) f_crc_Sum_Value cf fuel [t0] h K :=
  Eq.trans (by kernel_rfl) (rFun (by kernel_rfl) rExact)

noncomputable def s_device_Device_Dead (cf : CallK) (fuel : Nat) (t0 : AV) (h : Hp) (K : AV → Hp → Prop) : Prop :=
vEq false eqP t0 .nilptr h fun t4 h =>
joinG (fun g3 => grdV t4 false (vMov t0 h g3) (g3 undefV h)) fun t6 h =>
joinG (fun g2 => grdV t4 false (vNilck t6 h g2) (g2 undefV h)) fun t7 h =>
joinG (fun g1 => grdV t4 false (vFaddr 3 t7 h g1) (g1 undefV h)) fun t8 h =>
joinG (fun g0 => grdV t4 false (vLoad2 t8 h g0) (g0 undefV h)) fun t9 h =>
vPick t4 (.bool .true) t9 h fun t10 h =>
K t10 h
theorem s_device_Device_Dead_eq (cf : CallK) (fuel : Nat) (t0 : AV) (h : Hp) (K : AV → Hp → Prop) : s_device_Device_Dead cf fuel t0 h K = deepT (tabOf Tryz.prog) f_device_Device_Dead cf fuel [t0] h K :=
  Eq.trans (by kernel_rfl) (rFun (by kernel_rfl) rExact)

noncomputable def s_device_Device_Read (cf : CallK) (fuel : Nat) (t0 : AV) (t1 : AV) (h : Hp) (K : AV → Hp → Prop) : Prop :=
(fun (e0 : Hp → Prop) =>
vLss t1 (.int .i64 0) h fun t8 h =>
joinG (fun g4 => grdV t8 false (vMov t1 h g4) (g4 undefV h)) fun t10 h =>
joinG (fun g3 => grdV t8 false (vMov t0 h g3) (g3 undefV h)) fun t11 h =>
joinG (fun g2 => grdV t8 false (cf f_device_Device_Blocks [t11] h g2) (g2 undefV h)) fun t12 h =>
joinG (fun g1 => grdV t8 false (vGeq t10 t12 h g1) (g1 undefV h)) fun t13 h =>
vPick t8 (.bool .true) t13 h fun t14 h =>
vIf t14 (
K (.tup [.nilslice, (.int .i64 22)]) h) (
vNilck t0 h fun t17 h =>
vFaddr 0 t17 h fun t18 h =>
vLoad2 t18 h fun t19 h =>
vIaddr 3 t19 t1 h fun t21 h =>
vFaddr 0 t21 h fun t22 h =>
vLoad2 t22 h fun t23 h =>
vEq false eqNS t23 .nilslice h fun t24 h =>
vIf t24 (
vMkSlice 1 1 true [(.int .u8 0)] (.int .i64 512) (.int .i64 512) h fun t25 h =>
K (.tup [t25, (.int .i64 0)]) h) (
e0 h))) fun h =>
vNilck t0 h fun t27 h =>
vFaddr 0 t27 h fun t28 h =>
vLoad2 t28 h fun t29 h =>
vIaddr 3 t29 t1 h fun t31 h =>
vFaddr 0 t31 h fun t32 h =>
vLoad2 t32 h fun t33 h =>
cf f_bytes_Clone [t33] h fun t34 h =>
K (.tup [t34, (.int .i64 0)]) h
theorem s_device_Device_Read_eq (cf : CallK) (fuel : Nat) (t0 : AV) (t1 : AV) (h : Hp) (K : AV → Hp → Prop) : s_device_Device_Read cf fuel t0 t1 h K = deepT (tabOf Tryz.prog) f_device_Device_Read cf fuel [t0, t1] h K :=
  Eq.trans (by kernel_rfl) (rFun (by kernel_rfl) rExact)

noncomputable def s_zbyte_Get64 (cf : CallK) (fuel : Nat) (t0 : AV) (h : Hp) (K : AV → Hp → Prop) : Prop :=
vIaddr 1 t0 (.int .i64 0) h fun t4 h =>
vLoad2 t4 h fun t5 h =>
vToInt .u64 t5 h fun t6 h =>
vIaddr 1 t0 (.int .i64 1) h fun t8 h =>
vLoad2 t8 h fun t9 h =>
vToInt .u64 t9 h fun t10 h =>
vShl t10 (.int .u64 8) h fun t11 h =>
vBits Nat.lor t6 t11 h fun t12 h =>
vIaddr 1 t0 (.int .i64 2) h fun t14 h =>
vLoad2 t14 h fun t15 h =>
vToInt .u64 t15 h fun t16 h =>
vShl t16 (.int .u64 16) h fun t17 h =>
vBits Nat.lor t12 t17 h fun t18 h =>
vIaddr 1 t0 (.int .i64 3) h fun t20 h =>
vLoad2 t20 h fun t21 h =>
vToInt .u64 t21 h fun t22 h =>
vShl t22 (.int .u64 24) h fun t23 h =>
vBits Nat.lor t18 t23 h fun t24 h =>
vIaddr 1 t0 (.int .i64 4) h fun t26 h =>
vLoad2 t26 h fun t27 h =>
vToInt .u64 t27 h fun t28 h =>
vShl t28 (.int .u64 32) h fun t29 h =>
vBits Nat.lor t24 t29 h fun t30 h =>
vIaddr 1 t0 (.int .i64 5) h fun t32 h =>
vLoad2 t32 h fun t33 h =>
vToInt .u64 t33 h fun t34 h =>
vShl t34 (.int .u64 40) h fun t35 h =>
vBits Nat.lor t30 t35 h fun t36 h =>
vIaddr 1 t0 (.int .i64 6) h fun t38 h =>
vLoad2 t38 h fun t39 h =>
vToInt .u64 t39 h fun t40 h =>
vShl t40 (.int .u64 48) h fun t41 h =>
vBits Nat.lor t36 t41 h fun t42 h =>
vIaddr 1 t0 (.int .i64 7) h fun t44 h =>
vLoad2 t44 h fun t45 h =>
vToInt .u64 t45 h fun t46 h =>
vShl t46 (.int .u64 56) h fun t47 h =>
vBits Nat.lor t42 t47 h fun t48 h =>
K t48 h
theorem s_zbyte_Get64_eq (cf : CallK) (fuel : Nat) (t0 : AV) (h : Hp) (K : AV → Hp → Prop) : s_zbyte_Get64 cf fuel t0 h K = deepT (tabOf Tryz.prog) f_zbyte_Get64 cf fuel [t0] h K :=
  Eq.trans (by kernel_rfl) (rFun (by kernel_rfl) rExact)

noncomputable def s_wal_Volume_at (cf : CallK) (fuel : Nat) (t0 : AV) (t1 : AV) (t2 : AV) (h : Hp) (K : AV → Hp → Prop) : Prop :=
vDiv true t1 (.int .i64 2) h fun t8 h =>
vNilck t0 h fun t10 h =>
vFaddr 1 t10 h fun t11 h =>
vLoad2 t11 h fun t12 h =>
vLenL2 t12 h fun t13 h =>
vArith Go.Am.mulI t8 t13 h fun t14 h =>
vAdd (.int .i64 8) t14 h fun t15 h =>
vAdd t15 t2 h fun t17 h =>
K t17 h
theorem s_wal_Volume_at_eq (cf : CallK) (fuel : Nat) (t0 : AV) (t1 : AV) (t2 : AV) (h : Hp) (K : AV → Hp → Prop) : s_wal_Volume_at cf fuel t0 t1 t2 h K = deepT (tabOf Tryz.prog) f_wal_Volume_at cf fuel [t0, t1, t2] h K :=
  Eq.trans (by kernel_rfl) (rFun (by kernel_rfl) rExact)

noncomputable def s_inode_CostB2 (cf : CallK) (fuel : Nat) (K : AV → Hp → Prop) (t0 : AV) (h : Hp) : Prop :=
cf f_inode_blocks [t0] h fun t12 h =>
(fun (j0 : AV → Hp → Prop) =>
vGtr t12 (.int .i64 8) h fun t15 h =>
vIf t15 (
vAdd t12 (.int .i64 1) h fun t17 h =>
j0 t17 h) (
j0 t12 h)) fun t4 h =>
(fun (j1 : AV → Hp → Prop) =>
vGtr t12 (.int .i64 72) h fun t19 h =>
vIf t19 (
vArith Go.Am.subI t12 (.int .i64 72) h fun t22 h =>
vAdd t22 (.int .i64 64) h fun t23 h =>
vArith Go.Am.subI t23 (.int .i64 1) h fun t24 h =>
vDiv false t24 (.int .i64 64) h fun t25 h =>
vAdd (.int .i64 1) t25 h fun t26 h =>
vAdd t4 t26 h fun t27 h =>
j1 t27 h) (
j1 t4 h)) fun t4 h =>
K t4 h
noncomputable def s_inode_Cost (cf : CallK) (fuel : Nat) (t0 : AV) (h : Hp) (K : AV → Hp → Prop) : Prop :=
vLss t0 (.int .i64 1) h fun t6 h =>
joinG (fun g4 => grdV t6 false (vMov t0 h g4) (g4 undefV h)) fun t8 h =>
joinG (fun g3 => grdV t6 false (vGtr t8 (.int .i64 65536) h g3) (g3 undefV h)) fun t9 h =>
vPick t6 (.bool .true) t9 h fun t10 h =>
vIf t10 (
K (.int .i64 0) h) (
s_inode_CostB2 cf fuel K t0 h)
theorem s_inode_Cost_eq (cf : CallK) (fuel : Nat) (t0 : AV) (h : Hp) (K : AV → Hp → Prop) : s_inode_Cost cf fuel t0 h K = deepT (tabOf Tryz.prog) f_inode_Cost cf fuel [t0] h K :=
  Eq.trans (by kernel_rfl) (rFun (by kernel_rfl) rExact)

noncomputable def s_localfs_FS_walkE1 (cf : CallK) (fuel : Nat) (K : AV → Hp → Prop) : AV → Hp → Prop := fun t9 h =>
K (.tup [t9, (.int .i64 0)]) h
noncomputable def s_localfs_FS_walkB9 (cf : CallK) (fuel : Nat) (K : AV → Hp → Prop) (ih2 : AV → AV → Hp → Prop) (t1 : AV) (t31 : AV) (t9 : AV) (t33 : AV) (h : Hp) : Prop :=
(fun (e3 : AV → Hp → Prop) =>
vIaddr 1 t31 t33 h fun t36 h =>
vLoad2 t36 h fun t37 h =>
vNilck t9 h fun t39 h =>
vFaddr 0 t39 h fun t40 h =>
vLoad2 t40 h fun t41 h =>
vNot t41 h fun t42 h =>
vIf t42 (
K (.tup [.nilptr, (.int .i64 20)]) h) (
cf f_localfs_object_kid [t9, t37] h fun t45 h =>
vEq false eqP t45 .nilptr h fun t47 h =>
joinG (fun g8 => grdV t47 true (vMov t33 h g8) (g8 undefV h)) fun t49 h =>
joinG (fun g7 => grdV t47 true (vAdd t49 (.int .i64 1) h g7) (g7 undefV h)) fun t50 h =>
joinG (fun g6 => grdV t47 true (vMov t1 h g6) (g6 undefV h)) fun t51 h =>
joinG (fun g5 => grdV t47 true (vLenL2 t51 h g5) (g5 undefV h)) fun t52 h =>
joinG (fun g4 => grdV t47 true (vLss t50 t52 h g4) (g4 undefV h)) fun t53 h =>
vPick t47 t53 (.bool .false) h fun t54 h =>
vIf t54 (
K (.tup [.nilptr, (.int .i64 2)]) h) (
e3 t45 h))) fun t9 h =>
vAdd t33 (.int .i64 1) h fun t55 h =>
ih2 t9 t55 h
noncomputable def s_localfs_FS_walkL2B (cf : CallK) (fuel : Nat) (K : AV → Hp → Prop) (e1 : AV → Hp → Prop) (t1 : AV) (t31 : AV) (t32 : AV) (ih2 : AV → AV → Hp → Prop) : AV → AV → Hp → Prop := fun t9 t33 h =>
vLss t33 t32 h fun t34 h =>
vIf t34 (
s_localfs_FS_walkB9 cf fuel K ih2 t1 t31 t9 t33 h) (
e1 t9 h)
noncomputable def s_localfs_FS_walkL2 (cf : CallK) (fuel : Nat) (K : AV → Hp → Prop) (e1 : AV → Hp → Prop) (t1 : AV) (t31 : AV) (t32 : AV) (m : Nat) : AV → AV → Hp → Prop := Nat.rec (motive := fun _ => AV → AV → Hp → Prop) (fun _ _ _ => False) (fun _ ih => s_localfs_FS_walkL2B cf fuel K e1 t1 t31 t32 ih) m
theorem s_localfs_FS_walkL2_succ (cf : CallK) (fuel : Nat) (K : AV → Hp → Prop) (e1 : AV → Hp → Prop) (t1 : AV) (t31 : AV) (t32 : AV) (m : Nat) : s_localfs_FS_walkL2 cf fuel K e1 t1 t31 t32 (m + 1) = s_localfs_FS_walkL2B cf fuel K e1 t1 t31 t32 (s_localfs_FS_walkL2 cf fuel K e1 t1 t31 t32 m) := rfl
noncomputable def s_localfs_FS_walkE0 (cf : CallK) (fuel : Nat) (K : AV → Hp → Prop) (t0 : AV) (t1 : AV) : Hp → Prop := fun h =>
vNilck t0 h fun t28 h =>
vFaddr 2 t28 h fun t29 h =>
vLoad2 t29 h fun t30 h =>
vLenL2 t1 h fun t32 h =>
(fun (e1 : AV → Hp → Prop) =>
s_localfs_FS_walkL2 cf fuel K (s_localfs_FS_walkE1 cf fuel K) t1 t1 t32 fuel t30 (.int .i64 0) h) (s_localfs_FS_walkE1 cf fuel K)
noncomputable def s_localfs_FS_walkL10B (cf : CallK) (fuel : Nat) (K : AV → Hp → Prop) (e0 : Hp → Prop) (t0 : AV) (t1 : AV) (t15 : AV) (t16 : AV) (ih10 : AV → Hp → Prop) : AV → Hp → Prop := fun t17 h =>
vLss t17 t16 h fun t18 h =>
vIf t18 (
(fun (e11 : Hp → Prop) =>
vIaddr 1 t15 t17 h fun t19 h =>
vLoad2 t19 h fun t20 h =>
cf f_localdir_Fine [t20] h fun t22 h =>
vNeq t22 (.int .i64 0) h fun t24 h =>
vIf t24 (
K (.tup [.nilptr, t22]) h) (
e11 h)) fun h =>
vAdd t17 (.int .i64 1) h fun t26 h =>
ih10 t26 h) (
e0 h)
noncomputable def s_localfs_FS_walkL10 (cf : CallK) (fuel : Nat) (K : AV → Hp → Prop) (e0 : Hp → Prop) (t0 : AV) (t1 : AV) (t15 : AV) (t16 : AV) (m : Nat) : AV → Hp → Prop := Nat.rec (motive := fun _ => AV → Hp → Prop) (fun _ _ => False) (fun _ ih => s_localfs_FS_walkL10B cf fuel K e0 t0 t1 t15 t16 ih) m
theorem s_localfs_FS_walkL10_succ (cf : CallK) (fuel : Nat) (K : AV → Hp → Prop) (e0 : Hp → Prop) (t0 : AV) (t1 : AV) (t15 : AV) (t16 : AV) (m : Nat) : s_localfs_FS_walkL10 cf fuel K e0 t0 t1 t15 t16 (m + 1) = s_localfs_FS_walkL10B cf fuel K e0 t0 t1 t15 t16 (s_localfs_FS_walkL10 cf fuel K e0 t0 t1 t15 t16 m) := rfl
noncomputable def s_localfs_FS_walk (cf : CallK) (fuel : Nat) (t0 : AV) (t1 : AV) (h : Hp) (K : AV → Hp → Prop) : Prop :=
vLenL2 t1 h fun t13 h =>
vGtr t13 (.int .i64 64) h fun t14 h =>
vIf t14 (
K (.tup [.nilptr, (.int .i64 22)]) h) (
vLenL2 t1 h fun t16 h =>
(fun (e0 : Hp → Prop) =>
s_localfs_FS_walkL10 cf fuel K (s_localfs_FS_walkE0 cf fuel K t0 t1) t0 t1 t1 t16 fuel (.int .i64 0) h) (s_localfs_FS_walkE0 cf fuel K t0 t1))
theorem s_localfs_FS_walk_eq (cf : CallK) (fuel : Nat) (t0 : AV) (t1 : AV) (h : Hp) (K : AV → Hp → Prop) : s_localfs_FS_walk cf fuel t0 t1 h K = deepT (tabOf Tryz.prog) f_localfs_FS_walk cf fuel [t0, t1] h K :=
  Eq.trans (by kernel_rfl) (rFun (by kernel_rfl) (rSeq (by kernel_rfl) (rSeq (by kernel_rfl) (rSeq (by kernel_rfl) (rSeq (by kernel_rfl) (rSeq (by kernel_rfl) rExact (rSeq (by kernel_rfl) (rBlock (by kernel_rfl) (rLoop (by kernel_rfl) (fun m2 fr h => s_localfs_FS_walkL2 cf fuel K (s_localfs_FS_walkE1 cf fuel K) (getS fr (gpos 1)) (getS fr (gpos 31)) (getS fr (gpos 32)) m2 (getS fr (gpos 9)) (getS fr (gpos 33)) h) (funext fun fr => funext fun h => by kernel_rfl) fun m2 => rCast (funext fun fr => funext fun h => by kernel_rfl) rExact)) rExact)) rExact) (rSeq (by kernel_rfl) (rBlock (by kernel_rfl) (rLoop (by kernel_rfl) (fun m10 fr h => s_localfs_FS_walkL10 cf fuel K (s_localfs_FS_walkE0 cf fuel K (getS fr (gpos 0)) (getS fr (gpos 1))) (getS fr (gpos 0)) (getS fr (gpos 1)) (getS fr (gpos 15)) (getS fr (gpos 16)) m10 (getS fr (gpos 17)) h) (funext fun fr => funext fun h => by kernel_rfl) fun m10 => rCast (funext fun fr => funext fun h => by kernel_rfl) rExact)) rExact)) rExact) rExact))

noncomputable def s_movetree_Tree_ApplyB0 (cf : CallK) (fuel : Nat) (K : AV → Hp → Prop) (t24 : AV) (t0 : AV) (t3 : AV) (h : Hp) : Prop :=
vNilck t0 h fun t28 h =>
vFaddr 1 t28 h fun t29 h =>
vLoad2 t29 h fun t30 h =>
vSlice2 17 t30 (some t24) none h fun t32 h =>
cf f_slices_Clone_movetree_done_movetree_done [t32] h fun t33 h =>
cf f_slices_Reverse_movetree_done_movetree_done [t33] h fun t35 h =>
vFunc 283 [t0] [] h fun t38 h =>
cf f_movetree_each [t33, t38] h fun t39 h =>
vLoadA 11 t3 h fun t40 h =>
cf f_ops_Copy [t40] h fun t41 h =>
vStore 11 t3 t41 h fun _ h =>
vFaddr 9 t3 h fun t42 h =>
vStore 1 t42 .nilslice h fun _ h =>
vNilck t0 h fun t45 h =>
vFaddr 1 t45 h fun t46 h =>
vLoad2 t46 h fun t47 h =>
vLoadA 11 t3 h fun t49 h =>
vBuild [(.int .i64 0), (.int .i64 0), (.int .i64 0), (.int .i64 0), (.int .i64 0), (.int .i64 0), (.int .i64 0), (.int .i64 0), (.str 0 0), .nilslice, .nilslice, (.bool .false), (.int .i64 0), (.int .i64 0), (.str 0 0), (.bool .false), (.bool .false)] [(0, 11, t49)] h fun t50 h =>
vBslice 17 1 false [(.int .i64 0), (.int .i64 0), (.int .i64 0), (.int .i64 0), (.int .i64 0), (.int .i64 0), (.int .i64 0), (.int .i64 0), (.str 0 0), .nilslice, .nilslice, (.bool .false), (.int .i64 0), (.int .i64 0), (.str 0 0), (.bool .false), (.bool .false)] [(0, 17, t50)] h fun t51 h =>
vLoad2 t46 h fun c _ => gd (sameV c t47) (
cf f_slices_Insert_movetree_done_movetree_done [t47, t24, t51] h fun t52 h =>
vNilck t0 h fun t53 h =>
vFaddr 1 t53 h fun t54 h =>
vStore 1 t54 t52 h fun _ h =>
vNilck t0 h fun t56 h =>
vFaddr 1 t56 h fun t57 h =>
vLoad2 t57 h fun t58 h =>
vSlice2 17 t58 (some t24) none h fun t60 h =>
vFunc 285 [t0] [] h fun t62 h =>
cf f_movetree_each [t60, t62] h fun t63 h =>
vLenL2 t33 h fun t65 h =>
K (.tup [t65, (.int .i64 0)]) h)
noncomputable def s_movetree_Tree_Apply (cf : CallK) (fuel : Nat) (t0 : AV) (t1 : AV) (h : Hp) (K : AV → Hp → Prop) : Prop :=
vBox 11 t1 h fun t3 h =>
vEq false eqP t0 .nilptr h fun t10 h =>
joinG (fun g3 => grdV t10 false (vLoadA 11 t3 h g3) (g3 undefV h)) fun t12 h =>
joinG (fun g2 => grdV t10 false (cf f_ops_May [t12] h g2) (g2 undefV h)) fun t13 h =>
joinG (fun g1 => grdV t10 false (vNot t13 h g1) (g1 undefV h)) fun t14 h =>
vPick t10 (.bool .true) t14 h fun t15 h =>
vIf t15 (
K (.tup [(.int .i64 0), (.int .i64 22)]) h) (
vNilck t0 h fun t18 h =>
vFaddr 1 t18 h fun t19 h =>
vLoad2 t19 h fun t20 h =>
vFaddr 0 t3 h fun t21 h =>
vLoadA 2 t21 h fun t22 h =>
cf f_slices_BinarySearchFunc_movetree_done_movetree_done_api_ID [t20, t22, (.func 279 [] [])] h fun t23 h =>
vExtract 0 t23 h fun t24 h =>
vExtract 1 t23 h fun t25 h =>
vIf t25 (
K (.tup [(.int .i64 0), (.int .i64 17)]) h) (
s_movetree_Tree_ApplyB0 cf fuel K t24 t0 t3 h))
theorem s_movetree_Tree_Apply_eq (cf : CallK) (fuel : Nat) (t0 : AV) (t1 : AV) (h : Hp) (K : AV → Hp → Prop) : s_movetree_Tree_Apply cf fuel t0 t1 h K = deepT (tabOf Tryz.prog) f_movetree_Tree_Apply cf fuel [t0, t1] h K :=
  Eq.trans (by kernel_rfl) (rFun (by kernel_rfl) rExact)

noncomputable def s_clock_Clock_to (cf : CallK) (fuel : Nat) (t0 : AV) (t1 : AV) (h : Hp) (K : AV → Hp → Prop) : Prop :=
vNilck t0 h fun t7 h =>
vFaddr 1 t7 h fun t8 h =>
vStore 1 t8 t1 h fun _ h =>
vNilck t0 h fun t11 h =>
vFaddr 2 t11 h fun t12 h =>
vLoad2 t12 h fun t13 h =>
vLeq t1 t13 h fun t14 h =>
vIf t14 (
K (.bool .false) h) (
vAdd t1 (.int .i64 4096) h fun t17 h =>
vMin false t17 (.int .i64 1152921504606846976) h fun t18 h =>
vNilck t0 h fun t19 h =>
vFaddr 2 t19 h fun t20 h =>
vStore 1 t20 t18 h fun _ h =>
K (.bool .true) h)
theorem s_clock_Clock_to_eq (cf : CallK) (fuel : Nat) (t0 : AV) (t1 : AV) (h : Hp) (K : AV → Hp → Prop) : s_clock_Clock_to cf fuel t0 t1 h K = deepT (tabOf Tryz.prog) f_clock_Clock_to cf fuel [t0, t1] h K :=
  Eq.trans (by kernel_rfl) (rFun (by kernel_rfl) rExact)


end Go.Proofs.YtciipeallilmiaaGreatDoor.sh7
