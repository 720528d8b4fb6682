/- The Go functions' code as the abstract machine's, over values; each is the code that the machine makes of the program's (theorems s_.._eq). No condition. -/
import Derived.Test.YtciipeallilmiaaGreatDoorAmC
import Derived.Test.YtciipeallilmiaaGreatDoorProg
import Derived.KernelRfl
namespace Go.Proofs.YtciipeallilmiaaGreatDoor.sh5
open Go Go.Am Go.Proofs
set_option linter.unusedVariables false
set_option maxRecDepth 100000
abbrev f_bytes_Equal : Nat := 191
abbrev f_bytes_HasPrefix : Nat := 173
abbrev f_clock_Clock_See : Nat := 182
abbrev f_clock_Clock_to : Nat := 242
abbrev f_clock_Valid : Nat := 215
abbrev f_codec_NewWriter : Nat := 66
abbrev f_codec_Reader_Bytes : Nat := 98
abbrev f_codec_Reader_ID : Nat := 165
abbrev f_codec_Reader_Num : Nat := 80
abbrev f_codec_Reader_Text : Nat := 166
abbrev f_codec_Reader_fails : Nat := 162
abbrev f_codec_Writer_Done : Nat := 68
abbrev f_codec_Writer_Num : Nat := 67
abbrev f_codec_Writer_Truth : Nat := 156
abbrev f_codec_Writer_Vector : Nat := 157
abbrev f_codec_Writer_may : Nat := 144
abbrev f_codec_cut : Nat := 164
abbrev f_codec_nums : Nat := 227
abbrev f_codec_vector : Nat := 163
abbrev f_container_heap_down : Nat := 180
abbrev f_container_heap_up : Nat := 179
abbrev f_content_File_Add : Nat := 241
abbrev f_content_New : Nat := 240
abbrev f_crc_Frame : Nat := 159
abbrev f_crc_New : Nat := 229
abbrev f_crc_Of : Nat := 161
abbrev f_crc_Sum_Value : Nat := 232
abbrev f_crc_each : Nat := 230
abbrev f_device_Device_Dead : Nat := 233
abbrev f_device_Device_Read : Nat := 234
abbrev f_frames_node : Nat := 167
abbrev f_frames_sized : Nat := 158
abbrev f_inode_Cost : Nat := 237
abbrev f_localfs_FS_Write : Nat := 153
abbrev f_localfs_FS_change : Nat := 221
abbrev f_localfs_FS_filed : Nat := 175
abbrev f_localfs_FS_walk : Nat := 238
abbrev f_localfs_file : Nat := 174
abbrev f_movetree_New : Nat := 176
abbrev f_movetree_Tree_Apply : Nat := 239
abbrev f_session_end_active : Nat := 155
abbrev f_vector_Ahead : Nat := 168
abbrev f_vector_At : Nat := 106
abbrev f_vector_made : Nat := 177
abbrev f_vector_numbers_at : Nat := 178
abbrev f_view_View_Apply : Nat := 181
abbrev f_wal_Volume_Sync : Nat := 154
abbrev f_wal_Volume_alive : Nat := 170
abbrev f_wal_Volume_at : Nat := 236
abbrev f_wal_Volume_blocks : Nat := 172
abbrev f_wal_Volume_dead : Nat := 225
abbrev f_wal_Volume_heads : Nat := 171
abbrev f_wal_Volume_keep : Nat := 226
abbrev f_wal_Volume_large : Nat := 169
abbrev f_wal_head : Nat := 189
abbrev f_wal_room : Nat := 185
abbrev f_zbyte_Append32 : Nat := 228
abbrev f_zbyte_Get32 : Nat := 160
abbrev f_zbyte_Get64 : Nat := 235

noncomputable def s_localfs_FS_Write (cf : CallK) (fuel : Nat) (t0 : AV) (t1 : AV) (t2 : AV) (t3 : AV) (h : Hp) (K : AV → Hp → Prop) : Prop :=
vBuild [.nilptr, .nilslice, (.int .i64 0), .nilslice] [(0, 1, t0), (1, 1, t1), (2, 1, t2), (3, 1, t3)] h fun t14 h =>
vFunc 224 [t14] [] h fun t15 h =>
cf f_localfs_FS_change [t0, t15] h fun t16 h =>
K t16 h
theorem s_localfs_FS_Write_eq (cf : CallK) (fuel : Nat) (t0 : AV) (t1 : AV) (t2 : AV) (t3 : AV) (h : Hp) (K : AV → Hp → Prop) : s_localfs_FS_Write cf fuel t0 t1 t2 t3 h K = deepT (tabOf Tryz.prog) f_localfs_FS_Write cf fuel [t0, t1, t2, t3] h K :=
  Eq.trans (by kernel_rfl) (rFun (by kernel_rfl) rExact)

noncomputable def s_wal_Volume_SyncB3 (cf : CallK) (fuel : Nat) (K : AV → Hp → Prop) (t0 : AV) (h : Hp) : Prop :=
vNilck t0 h fun t10 h =>
vFaddr 4 t10 h fun t11 h =>
vLoad2 t11 h fun t12 h =>
joinG (fun g2 => grdV t12 true (vMov t0 h g2) (g2 undefV h)) fun t14 h =>
joinG (fun g1 => grdV t12 true (cf f_wal_Volume_keep [t14] h g1) (g1 undefV h)) fun t15 h =>
joinG (fun g0 => grdV t12 true (vNeq t15 (.int .i64 0) h g0) (g0 undefV h)) fun t16 h =>
vPick t12 t16 (.bool .false) h fun t17 h =>
vIf t17 (
vNilck t0 h fun t19 h =>
vFaddr 5 t19 h fun t20 h =>
vStore 1 t20 (.bool .true) h fun _ h =>
K (.int .i64 5) h) (
vNilck t0 h fun t22 h =>
vFaddr 4 t22 h fun t23 h =>
vStore 1 t23 (.bool .false) h fun _ h =>
K (.int .i64 0) h)
noncomputable def s_wal_Volume_Sync (cf : CallK) (fuel : Nat) (t0 : AV) (h : Hp) (K : AV → Hp → Prop) : Prop :=
vEq false eqP t0 .nilptr h fun t4 h =>
joinG (fun g5 => grdV t4 false (vMov t0 h g5) (g5 undefV h)) fun t6 h =>
joinG (fun g4 => grdV t4 false (cf f_wal_Volume_dead [t6] h g4) (g4 undefV h)) fun t7 h =>
vPick t4 (.bool .true) t7 h fun t8 h =>
vIf t8 (
K (.int .i64 5) h) (
s_wal_Volume_SyncB3 cf fuel K t0 h)
theorem s_wal_Volume_Sync_eq (cf : CallK) (fuel : Nat) (t0 : AV) (h : Hp) (K : AV → Hp → Prop) : s_wal_Volume_Sync cf fuel t0 h K = deepT (tabOf Tryz.prog) f_wal_Volume_Sync cf fuel [t0] h K :=
  Eq.trans (by kernel_rfl) (rFun (by kernel_rfl) rExact)

noncomputable def s_codec_Writer_Truth (cf : CallK) (fuel : Nat) (t0 : AV) (t1 : AV) (h : Hp) (K : AV → Hp → Prop) : Prop :=
vIf t1 (
cf f_codec_Writer_Num [t0, (.int .i64 1)] h fun t6 h =>
K (.tup []) h) (
cf f_codec_Writer_Num [t0, (.int .i64 0)] h fun t8 h =>
K (.tup []) h)
theorem s_codec_Writer_Truth_eq (cf : CallK) (fuel : Nat) (t0 : AV) (t1 : AV) (h : Hp) (K : AV → Hp → Prop) : s_codec_Writer_Truth cf fuel t0 t1 h K = deepT (tabOf Tryz.prog) f_codec_Writer_Truth cf fuel [t0, t1] h K :=
  Eq.trans (by kernel_rfl) (rFun (by kernel_rfl) rExact)

noncomputable def s_codec_Writer_Vector (cf : CallK) (fuel : Nat) (t0 : AV) (t1 : AV) (h : Hp) (K : AV → Hp → Prop) : Prop :=
cf f_codec_cut [t1] h fun t5 h =>
cf f_codec_vector [t5] h fun t8 h =>
cf f_codec_Writer_may [t0, t8] h fun t9 h =>
vIf t9 (
vLenL2 t5 h fun t12 h =>
cf f_codec_Writer_Num [t0, t12] h fun t13 h =>
vFunc 67 [t0] [] h fun t15 h =>
cf f_codec_nums [t15, t5] h fun t17 h =>
K (.tup []) h) (
K (.tup []) h)
theorem s_codec_Writer_Vector_eq (cf : CallK) (fuel : Nat) (t0 : AV) (t1 : AV) (h : Hp) (K : AV → Hp → Prop) : s_codec_Writer_Vector cf fuel t0 t1 h K = deepT (tabOf Tryz.prog) f_codec_Writer_Vector cf fuel [t0, t1] h K :=
  Eq.trans (by kernel_rfl) (rFun (by kernel_rfl) rExact)

noncomputable def s_crc_Frame (cf : CallK) (fuel : Nat) (t0 : AV) (h : Hp) (K : AV → Hp → Prop) : Prop :=
vLenL2 t0 h fun t6 h =>
vGtr t6 (.int .i64 1048576) h fun t7 h =>
vIf t7 (
K (.tup [.nilslice, (.int .i64 22)]) h) (
vLenL2 t0 h fun t9 h =>
vToInt .u32 t9 h fun t10 h =>
cf f_zbyte_Append32 [.nilslice, t10] h fun t11 h =>
vBslice 1 1 false [.nilslice] [(0, 1, t0)] h fun t14 h =>
cf f_crc_Of [t14] h fun t15 h =>
cf f_zbyte_Append32 [t11, t15] h fun t16 h =>
vAppend2 1 1 true t16 t0 h fun t19 h =>
K (.tup [t19, (.int .i64 0)]) h)
theorem s_crc_Frame_eq (cf : CallK) (fuel : Nat) (t0 : AV) (h : Hp) (K : AV → Hp → Prop) : s_crc_Frame cf fuel t0 h K = deepT (tabOf Tryz.prog) f_crc_Frame cf fuel [t0] h K :=
  Eq.trans (by kernel_rfl) (rFun (by kernel_rfl) rExact)

noncomputable def s_zbyte_Get32 (cf : CallK) (fuel : Nat) (t0 : AV) (h : Hp) (K : AV → Hp → Prop) : Prop :=
vIaddr 1 t0 (.int .i64 0) h fun t4 h =>
vLoad2 t4 h fun t5 h =>
vToInt .u32 t5 h fun t6 h =>
vIaddr 1 t0 (.int .i64 1) h fun t8 h =>
vLoad2 t8 h fun t9 h =>
vToInt .u32 t9 h fun t10 h =>
vShl t10 (.int .u64 8) h fun t11 h =>
vBits Nat.lor t6 t11 h fun t12 h =>
vIaddr 1 t0 (.int .i64 2) h fun t14 h =>
vLoad2 t14 h fun t15 h =>
vToInt .u32 t15 h fun t16 h =>
vShl t16 (.int .u64 16) h fun t17 h =>
vBits Nat.lor t12 t17 h fun t18 h =>
vIaddr 1 t0 (.int .i64 3) h fun t20 h =>
vLoad2 t20 h fun t21 h =>
vToInt .u32 t21 h fun t22 h =>
vShl t22 (.int .u64 24) h fun t23 h =>
vBits Nat.lor t18 t23 h fun t24 h =>
K t24 h
theorem s_zbyte_Get32_eq (cf : CallK) (fuel : Nat) (t0 : AV) (h : Hp) (K : AV → Hp → Prop) : s_zbyte_Get32 cf fuel t0 h K = deepT (tabOf Tryz.prog) f_zbyte_Get32 cf fuel [t0] h K :=
  Eq.trans (by kernel_rfl) (rFun (by kernel_rfl) rExact)

noncomputable def s_crc_Of (cf : CallK) (fuel : Nat) (t0 : AV) (h : Hp) (K : AV → Hp → Prop) : Prop :=
cf f_crc_New [] h fun t4 h =>
vFunc 231 [t4] [] h fun t7 h =>
cf f_crc_each [t0, t7] h fun t8 h =>
cf f_crc_Sum_Value [t4] h fun t10 h =>
K t10 h
theorem s_crc_Of_eq (cf : CallK) (fuel : Nat) (t0 : AV) (h : Hp) (K : AV → Hp → Prop) : s_crc_Of cf fuel t0 h K = deepT (tabOf Tryz.prog) f_crc_Of cf fuel [t0] h K :=
  Eq.trans (by kernel_rfl) (rFun (by kernel_rfl) rExact)

noncomputable def s_codec_Reader_failsB2 (cf : CallK) (fuel : Nat) (K : AV → Hp → Prop) (t0 : AV) (t1 : AV) (h : Hp) : Prop :=
(fun (j0 : Hp → Prop) =>
vNilck t0 h fun t9 h =>
vFaddr 1 t9 h fun t10 h =>
vLoad2 t10 h fun t11 h =>
joinG (fun g1 => grdV t11 false (vMov t1 h g1) (g1 undefV h)) fun t13 h =>
vPick t11 (.bool .true) t13 h fun t14 h =>
vNilck t0 h fun t15 h =>
vFaddr 1 t15 h fun t16 h =>
vStore 1 t16 t14 h fun _ h =>
vNilck t0 h fun t18 h =>
vFaddr 1 t18 h fun t19 h =>
vLoad2 t19 h fun t20 h =>
vIf t20 (
vNilck t0 h fun t22 h =>
vFaddr 0 t22 h fun t23 h =>
vStore 1 t23 .nilslice h fun _ h =>
j0 h) (
j0 h)) fun h =>
vNilck t0 h fun t25 h =>
vFaddr 1 t25 h fun t26 h =>
vLoad2 t26 h fun t27 h =>
K t27 h
noncomputable def s_codec_Reader_fails (cf : CallK) (fuel : Nat) (t0 : AV) (t1 : AV) (h : Hp) (K : AV → Hp → Prop) : Prop :=
vEq false eqP t0 .nilptr h fun t6 h =>
vIf t6 (
K (.bool .true) h) (
s_codec_Reader_failsB2 cf fuel K t0 t1 h)
theorem s_codec_Reader_fails_eq (cf : CallK) (fuel : Nat) (t0 : AV) (t1 : AV) (h : Hp) (K : AV → Hp → Prop) : s_codec_Reader_fails cf fuel t0 t1 h K = deepT (tabOf Tryz.prog) f_codec_Reader_fails cf fuel [t0, t1] h K :=
  Eq.trans (by kernel_rfl) (rFun (by kernel_rfl) rExact)

noncomputable def s_codec_vectorE0 (cf : CallK) (fuel : Nat) (K : AV → Hp → Prop) (t0 : AV) : Hp → Prop := fun h =>
vLenL2 t0 h fun t19 h =>
vLeq t19 (.int .i64 64) h fun t20 h =>
K t20 h
noncomputable def s_codec_vectorL1B (cf : CallK) (fuel : Nat) (K : AV → Hp → Prop) (e0 : Hp → Prop) (t0 : AV) (t5 : AV) (t6 : AV) (ih1 : AV → Hp → Prop) : AV → Hp → Prop := fun t7 h =>
vLss t7 t6 h fun t8 h =>
vIf t8 (
(fun (e2 : Hp → Prop) =>
vIaddr 1 t5 t7 h fun t9 h =>
vLoad2 t9 h fun t10 h =>
vLss t10 (.int .i64 0) h fun t12 h =>
joinG (fun g4 => grdV t12 false (vMov t10 h g4) (g4 undefV h)) fun t14 h =>
joinG (fun g3 => grdV t12 false (vGtr t14 (.int .i64 1152921504606846976) h g3) (g3 undefV h)) fun t15 h =>
vPick t12 (.bool .true) t15 h fun t16 h =>
vIf t16 (
K (.bool .false) h) (
e2 h)) fun h =>
vAdd t7 (.int .i64 1) h fun t17 h =>
ih1 t17 h) (
e0 h)
noncomputable def s_codec_vectorL1 (cf : CallK) (fuel : Nat) (K : AV → Hp → Prop) (e0 : Hp → Prop) (t0 : AV) (t5 : AV) (t6 : AV) (m : Nat) : AV → Hp → Prop := Nat.rec (motive := fun _ => AV → Hp → Prop) (fun _ _ => False) (fun _ ih => s_codec_vectorL1B cf fuel K e0 t0 t5 t6 ih) m
theorem s_codec_vectorL1_succ (cf : CallK) (fuel : Nat) (K : AV → Hp → Prop) (e0 : Hp → Prop) (t0 : AV) (t5 : AV) (t6 : AV) (m : Nat) : s_codec_vectorL1 cf fuel K e0 t0 t5 t6 (m + 1) = s_codec_vectorL1B cf fuel K e0 t0 t5 t6 (s_codec_vectorL1 cf fuel K e0 t0 t5 t6 m) := rfl
noncomputable def s_codec_vector (cf : CallK) (fuel : Nat) (t0 : AV) (h : Hp) (K : AV → Hp → Prop) : Prop :=
vLenL2 t0 h fun t6 h =>
(fun (e0 : Hp → Prop) =>
s_codec_vectorL1 cf fuel K (s_codec_vectorE0 cf fuel K t0) t0 t0 t6 fuel (.int .i64 0) h) (s_codec_vectorE0 cf fuel K t0)
theorem s_codec_vector_eq (cf : CallK) (fuel : Nat) (t0 : AV) (h : Hp) (K : AV → Hp → Prop) : s_codec_vector cf fuel t0 h K = deepT (tabOf Tryz.prog) f_codec_vector cf fuel [t0] h K :=
  Eq.trans (by kernel_rfl) (rFun (by kernel_rfl) (rSeq (by kernel_rfl) (rSeq (by kernel_rfl) rExact (rSeq (by kernel_rfl) (rBlock (by kernel_rfl) (rLoop (by kernel_rfl) (fun m1 fr h => s_codec_vectorL1 cf fuel K (s_codec_vectorE0 cf fuel K (getS fr (gpos 0))) (getS fr (gpos 0)) (getS fr (gpos 5)) (getS fr (gpos 6)) m1 (getS fr (gpos 7)) h) (funext fun fr => funext fun h => by kernel_rfl) fun m1 => rCast (funext fun fr => funext fun h => by kernel_rfl) rExact)) rExact)) rExact))

noncomputable def s_codec_cutE0 (cf : CallK) (fuel : Nat) (K : AV → Hp → Prop) (t0 : AV) : AV → Hp → Prop := fun t3 h =>
vSlice2 1 t0 none (some t3) h fun t20 h =>
K t20 h
noncomputable def s_codec_cutL1B (cf : CallK) (fuel : Nat) (e0 : AV → Hp → Prop) (t0 : AV) (ih1 : AV → Hp → Prop) : AV → Hp → Prop := fun t3 h =>
vGtr t3 (.int .i64 0) h fun t7 h =>
joinG (fun g9 => grdV t7 true (vMov t0 h g9) (g9 undefV h)) fun t9 h =>
joinG (fun g8 => grdV t7 true (vMov t3 h g8) (g8 undefV h)) fun t10 h =>
joinG (fun g7 => grdV t7 true (vArith Go.Am.subI t10 (.int .i64 1) h g7) (g7 undefV h)) fun t11 h =>
joinG (fun g6 => grdV t7 true (vIaddr 1 t9 t11 h g6) (g6 undefV h)) fun t12 h =>
joinG (fun g5 => grdV t7 true (vLoad2 t12 h g5) (g5 undefV h)) fun t13 h =>
joinG (fun g4 => grdV t7 true (vEql t13 (.int .i64 0) h g4) (g4 undefV h)) fun t14 h =>
vPick t7 t14 (.bool .false) h fun t15 h =>
vIf t15 (
(fun (e2 : AV → Hp → Prop) =>
vArith Go.Am.subI t3 (.int .i64 1) h fun t17 h =>
e2 t17 h) fun t3_3 h =>
ih1 t3_3 h) (
e0 t3 h)
noncomputable def s_codec_cutL1 (cf : CallK) (fuel : Nat) (e0 : AV → Hp → Prop) (t0 : AV) (m : Nat) : AV → Hp → Prop := Nat.rec (motive := fun _ => AV → Hp → Prop) (fun _ _ => False) (fun _ ih => s_codec_cutL1B cf fuel e0 t0 ih) m
theorem s_codec_cutL1_succ (cf : CallK) (fuel : Nat) (e0 : AV → Hp → Prop) (t0 : AV) (m : Nat) : s_codec_cutL1 cf fuel e0 t0 (m + 1) = s_codec_cutL1B cf fuel e0 t0 (s_codec_cutL1 cf fuel e0 t0 m) := rfl
noncomputable def s_codec_cut (cf : CallK) (fuel : Nat) (t0 : AV) (h : Hp) (K : AV → Hp → Prop) : Prop :=
vLenL2 t0 h fun t5 h =>
(fun (e0 : AV → Hp → Prop) =>
s_codec_cutL1 cf fuel (s_codec_cutE0 cf fuel K t0) t0 fuel t5 h) (s_codec_cutE0 cf fuel K t0)
theorem s_codec_cut_eq (cf : CallK) (fuel : Nat) (t0 : AV) (h : Hp) (K : AV → Hp → Prop) : s_codec_cut cf fuel t0 h K = deepT (tabOf Tryz.prog) f_codec_cut cf fuel [t0] h K :=
  Eq.trans (by kernel_rfl) (rFun (by kernel_rfl) (rSeq (by kernel_rfl) (rSeq (by kernel_rfl) (rSeq (by kernel_rfl) rExact (rBlock (by kernel_rfl) (rLoop (by kernel_rfl) (fun m1 fr h => s_codec_cutL1 cf fuel (s_codec_cutE0 cf fuel K (getS fr (gpos 0))) (getS fr (gpos 0)) m1 (getS fr (gpos 3)) h) (funext fun fr => funext fun h => by kernel_rfl) fun m1 => rCast (funext fun fr => funext fun h => by kernel_rfl) rExact))) rExact) rExact))

noncomputable def s_codec_Reader_ID (cf : CallK) (fuel : Nat) (t0 : AV) (h : Hp) (K : AV → Hp → Prop) : Prop :=
vBox 2 (.agg [(.int .i64 0), (.int .i64 0)]) h fun t2 h =>
cf f_codec_Reader_Num [t0] h fun t6 h =>
cf f_codec_Reader_Num [t0] h fun t8 h =>
vGtr t6 (.int .i64 1152921504606846976) h fun t11 h =>
joinG (fun g1 => grdV t11 false (vMov t8 h g1) (g1 undefV h)) fun t13 h =>
joinG (fun g0 => grdV t11 false (vGeq t13 (.int .i64 64) h g0) (g0 undefV h)) fun t14 h =>
vPick t11 (.bool .true) t14 h fun t15 h =>
cf f_codec_Reader_fails [t0, t15] h fun t16 h =>
vIf t16 (
vBuild [(.int .i64 0), (.int .i64 0)] [] h fun t17 h =>
vStore 2 t2 t17 h fun _ h =>
vLoadA 2 t2 h fun r0 _ => K r0 h) (
vBuild [(.int .i64 0), (.int .i64 0)] [(0, 1, t6), (1, 1, t8)] h fun t20 h =>
vStore 2 t2 t20 h fun _ h =>
vLoadA 2 t2 h fun r0 _ => K r0 h)
theorem s_codec_Reader_ID_eq (cf : CallK) (fuel : Nat) (t0 : AV) (h : Hp) (K : AV → Hp → Prop) : s_codec_Reader_ID cf fuel t0 h K = deepT (tabOf Tryz.prog) f_codec_Reader_ID cf fuel [t0] h K :=
  Eq.trans (by kernel_rfl) (rFun (by kernel_rfl) rExact)

noncomputable def s_codec_Reader_Text (cf : CallK) (fuel : Nat) (t0 : AV) (h : Hp) (K : AV → Hp → Prop) : Prop :=
cf f_codec_Reader_Bytes [t0] h fun t4 h =>
vToStr t4 h fun t5 h =>
K t5 h
theorem s_codec_Reader_Text_eq (cf : CallK) (fuel : Nat) (t0 : AV) (h : Hp) (K : AV → Hp → Prop) : s_codec_Reader_Text cf fuel t0 h K = deepT (tabOf Tryz.prog) f_codec_Reader_Text cf fuel [t0] h K :=
  Eq.trans (by kernel_rfl) (rFun (by kernel_rfl) rExact)

noncomputable def s_vector_AheadE0 (cf : CallK) (fuel : Nat) (K : AV → Hp → Prop) : AV → Hp → Prop := fun t5 h =>
K t5 h
noncomputable def s_vector_AheadL1B (cf : CallK) (fuel : Nat) (e0 : AV → Hp → Prop) (t0 : AV) (t1 : AV) (ih1 : AV → AV → Hp → Prop) : AV → AV → Hp → Prop := fun t5 t7 h =>
vLss t7 (.int .i64 64) h fun t8 h =>
vIf t8 (
(fun (e2 : AV → Hp → Prop) =>
cf f_vector_At [t0, t7] h fun t12 h =>
cf f_vector_At [t1, t7] h fun t15 h =>
vGtr t12 t15 h fun t16 h =>
vIf t16 (
vBslice 1 1 false [(.int .i64 0)] [(0, 1, t7)] h fun t19 h =>
vAppend2 1 8 false t5 t19 h fun t20 h =>
e2 t20 h) (
e2 t5 h)) fun t5 h =>
vAdd t7 (.int .i64 1) h fun t21 h =>
ih1 t5 t21 h) (
e0 t5 h)
noncomputable def s_vector_AheadL1 (cf : CallK) (fuel : Nat) (e0 : AV → Hp → Prop) (t0 : AV) (t1 : AV) (m : Nat) : AV → AV → Hp → Prop := Nat.rec (motive := fun _ => AV → AV → Hp → Prop) (fun _ _ _ => False) (fun _ ih => s_vector_AheadL1B cf fuel e0 t0 t1 ih) m
theorem s_vector_AheadL1_succ (cf : CallK) (fuel : Nat) (e0 : AV → Hp → Prop) (t0 : AV) (t1 : AV) (m : Nat) : s_vector_AheadL1 cf fuel e0 t0 t1 (m + 1) = s_vector_AheadL1B cf fuel e0 t0 t1 (s_vector_AheadL1 cf fuel e0 t0 t1 m) := rfl
noncomputable def s_vector_Ahead (cf : CallK) (fuel : Nat) (t0 : AV) (t1 : AV) (h : Hp) (K : AV → Hp → Prop) : Prop :=
(fun (e0 : AV → Hp → Prop) =>
s_vector_AheadL1 cf fuel (s_vector_AheadE0 cf fuel K) t0 t1 fuel .nilslice (.int .i64 0) h) (s_vector_AheadE0 cf fuel K)
theorem s_vector_Ahead_eq (cf : CallK) (fuel : Nat) (t0 : AV) (t1 : AV) (h : Hp) (K : AV → Hp → Prop) : s_vector_Ahead cf fuel t0 t1 h K = deepT (tabOf Tryz.prog) f_vector_Ahead cf fuel [t0, t1] h K :=
  Eq.trans (by kernel_rfl) (rFun (by kernel_rfl) (rSeq (by kernel_rfl) (rSeq (by kernel_rfl) (rSeq (by kernel_rfl) rExact (rSeq (by kernel_rfl) (rBlock (by kernel_rfl) (rLoop (by kernel_rfl) (fun m1 fr h => s_vector_AheadL1 cf fuel (s_vector_AheadE0 cf fuel K) (getS fr (gpos 0)) (getS fr (gpos 1)) m1 (getS fr (gpos 5)) (getS fr (gpos 7)) h) (funext fun fr => funext fun h => by kernel_rfl) fun m1 => rCast (funext fun fr => funext fun h => by kernel_rfl) rExact)) rExact)) rExact) rExact))

noncomputable def s_wal_Volume_large (cf : CallK) (fuel : Nat) (t0 : AV) (h : Hp) (K : AV → Hp → Prop) : Prop :=
vNilck t0 h fun t4 h =>
vFaddr 0 t4 h fun t5 h =>
vLoad2 t5 h fun t6 h =>
cf f_wal_room [t6] h fun t7 h =>
vEql t7 (.int .i64 0) h fun t8 h =>
vIf t8 (
K (.int .i64 22) h) (
K (.int .i64 0) h)
theorem s_wal_Volume_large_eq (cf : CallK) (fuel : Nat) (t0 : AV) (h : Hp) (K : AV → Hp → Prop) : s_wal_Volume_large cf fuel t0 h K = deepT (tabOf Tryz.prog) f_wal_Volume_large cf fuel [t0] h K :=
  Eq.trans (by kernel_rfl) (rFun (by kernel_rfl) rExact)

noncomputable def s_wal_Volume_alive (cf : CallK) (fuel : Nat) (t0 : AV) (h : Hp) (K : AV → Hp → Prop) : Prop :=
vNilck t0 h fun t4 h =>
vFaddr 0 t4 h fun t5 h =>
vLoad2 t5 h fun t6 h =>
cf f_device_Device_Dead [t6] h fun t7 h =>
vIf t7 (
K (.int .i64 5) h) (
K (.int .i64 0) h)
theorem s_wal_Volume_alive_eq (cf : CallK) (fuel : Nat) (t0 : AV) (h : Hp) (K : AV → Hp → Prop) : s_wal_Volume_alive cf fuel t0 h K = deepT (tabOf Tryz.prog) f_wal_Volume_alive cf fuel [t0] h K :=
  Eq.trans (by kernel_rfl) (rFun (by kernel_rfl) rExact)

noncomputable def s_wal_Volume_headsE0 (cf : CallK) (fuel : Nat) (K : AV → Hp → Prop) (t0 : AV) : Hp → Prop := fun h =>
vNilck t0 h fun t60 h =>
vFaddr 2 t60 h fun t61 h =>
vLoad2 t61 h fun t62 h =>
vLss t62 (.int .i64 0) h fun t63 h =>
vIf t63 (
K (.int .i64 74) h) (
K (.int .i64 0) h)
noncomputable def s_wal_Volume_headsB12 (cf : CallK) (fuel : Nat) (ih1 : AV → Hp → Prop) (t0 : AV) (t11 : AV) (h : Hp) : Prop :=
(fun (e2 : Hp → Prop) =>
vNilck t0 h fun t16 h =>
vFaddr 0 t16 h fun t17 h =>
vLoad2 t17 h fun t18 h =>
cf f_device_Device_Read [t18, t11] h fun t20 h =>
vExtract 0 t20 h fun t21 h =>
vExtract 1 t20 h fun t22 h =>
vSlice2 1 t21 (some (.int .i64 16)) none h fun t24 h =>
vSlice2 1 t21 (some (.int .i64 24)) none h fun t28 h =>
cf f_zbyte_Get64 [t24] h fun t25 h =>
vToInt .i64 t25 h fun t26 h =>
cf f_zbyte_Get64 [t28] h fun t29 h =>
vToInt .i64 t29 h fun t30 h =>
vNilck t0 h fun t33 h =>
vFaddr 2 t33 h fun t34 h =>
vLoad2 t34 h fun t35 h =>
vGtr t26 t35 h fun t36 h =>
joinG (fun g11 => grdV t36 true (vMov t26 h g11) (g11 undefV h)) fun t38 h =>
joinG (fun g10 => grdV t36 true (vDiv true t38 (.int .i64 2) h g10) (g10 undefV h)) fun t39 h =>
joinG (fun g9 => grdV t36 true (vMov t11 h g9) (g9 undefV h)) fun t40 h =>
joinG (fun g8 => grdV t36 true (vEql t39 t40 h g8) (g8 undefV h)) fun t41 h =>
vPick t36 t41 (.bool .false) h fun t42 h =>
joinG (fun g7 => grdV t42 true (vMov t21 h g7) (g7 undefV h)) fun t44 h =>
joinG (fun g6 => grdV t42 true (vMov t26 h g6) (g6 undefV h)) fun t45 h =>
joinG (fun g5 => grdV t42 true (vMov t30 h g5) (g5 undefV h)) fun t46 h =>
joinG (fun g4 => grdV t42 true (cf f_wal_head [t45, t46] h g4) (g4 undefV h)) fun t47 h =>
joinG (fun g3 => grdV t42 true (cf f_bytes_Equal [t44, t47] h g3) (g3 undefV h)) fun t48 h =>
vPick t42 t48 (.bool .false) h fun t49 h =>
vIf t49 (
vNilck t0 h fun t54 h =>
vFaddr 2 t54 h fun t55 h =>
vStore 1 t55 t26 h fun _ h =>
vNilck t0 h fun t56 h =>
vFaddr 3 t56 h fun t57 h =>
vStore 1 t57 t30 h fun _ h =>
e2 h) (
e2 h)) fun h =>
vAdd t11 (.int .i64 1) h fun t58 h =>
ih1 t58 h
noncomputable def s_wal_Volume_headsL1B (cf : CallK) (fuel : Nat) (e0 : Hp → Prop) (t0 : AV) (ih1 : AV → Hp → Prop) : AV → Hp → Prop := fun t11 h =>
vLss t11 (.int .i64 2) h fun t12 h =>
vIf t12 (
s_wal_Volume_headsB12 cf fuel ih1 t0 t11 h) (
e0 h)
noncomputable def s_wal_Volume_headsL1 (cf : CallK) (fuel : Nat) (e0 : Hp → Prop) (t0 : AV) (m : Nat) : AV → Hp → Prop := Nat.rec (motive := fun _ => AV → Hp → Prop) (fun _ _ => False) (fun _ ih => s_wal_Volume_headsL1B cf fuel e0 t0 ih) m
theorem s_wal_Volume_headsL1_succ (cf : CallK) (fuel : Nat) (e0 : Hp → Prop) (t0 : AV) (m : Nat) : s_wal_Volume_headsL1 cf fuel e0 t0 (m + 1) = s_wal_Volume_headsL1B cf fuel e0 t0 (s_wal_Volume_headsL1 cf fuel e0 t0 m) := rfl
noncomputable def s_wal_Volume_heads (cf : CallK) (fuel : Nat) (t0 : AV) (h : Hp) (K : AV → Hp → Prop) : Prop :=
vNilck t0 h fun t9 h =>
vFaddr 2 t9 h fun t10 h =>
vStore 1 t10 (.int .i64 (-1)) h fun _ h =>
(fun (e0 : Hp → Prop) =>
s_wal_Volume_headsL1 cf fuel (s_wal_Volume_headsE0 cf fuel K t0) t0 fuel (.int .i64 0) h) (s_wal_Volume_headsE0 cf fuel K t0)
theorem s_wal_Volume_heads_eq (cf : CallK) (fuel : Nat) (t0 : AV) (h : Hp) (K : AV → Hp → Prop) : s_wal_Volume_heads cf fuel t0 h K = deepT (tabOf Tryz.prog) f_wal_Volume_heads cf fuel [t0] h K :=
  Eq.trans (by kernel_rfl) (rFun (by kernel_rfl) (rSeq (by kernel_rfl) (rSeq (by kernel_rfl) (rSeq (by kernel_rfl) rExact (rSeq (by kernel_rfl) (rBlock (by kernel_rfl) (rLoop (by kernel_rfl) (fun m1 fr h => s_wal_Volume_headsL1 cf fuel (s_wal_Volume_headsE0 cf fuel K (getS fr (gpos 0))) (getS fr (gpos 0)) m1 (getS fr (gpos 11)) h) (funext fun fr => funext fun h => by kernel_rfl) fun m1 => rCast (funext fun fr => funext fun h => by kernel_rfl) rExact)) rExact)) rExact) rExact))

noncomputable def s_wal_Volume_blocksE0 (cf : CallK) (fuel : Nat) (K : AV → Hp → Prop) : Hp → Prop := fun h =>
K (.int .i64 0) h
noncomputable def s_wal_Volume_blocksB3 (cf : CallK) (fuel : Nat) (ih1 : AV → Hp → Prop) (t0 : AV) (t18 : AV) (h : Hp) : Prop :=
(fun (e2 : Hp → Prop) =>
vNilck t0 h fun t23 h =>
vFaddr 1 t23 h fun t24 h =>
vLoad2 t24 h fun t25 h =>
vNilck t0 h fun t28 h =>
vFaddr 0 t28 h fun t29 h =>
vLoad2 t29 h fun t30 h =>
vNilck t0 h fun t33 h =>
vFaddr 2 t33 h fun t34 h =>
vLoad2 t34 h fun t35 h =>
cf f_wal_Volume_at [t0, t35, t18] h fun t37 h =>
vLoad2 t24 h fun c _ => gd (sameV c t25) (
vLoad2 t29 h fun c _ => gd (sameV c t30) (
cf f_device_Device_Read [t30, t37] h fun t38 h =>
vLoad2 t24 h fun c _ => gd (sameV c t25) (
vExtract 0 t38 h fun t39 h =>
vExtract 1 t38 h fun t40 h =>
vIaddr 1 t25 t18 h fun t41 h =>
vStore 1 t41 t39 h fun _ h =>
e2 h)))) fun h =>
vAdd t18 (.int .i64 1) h fun t42 h =>
ih1 t42 h
noncomputable def s_wal_Volume_blocksL1B (cf : CallK) (fuel : Nat) (e0 : Hp → Prop) (t0 : AV) (t17 : AV) (ih1 : AV → Hp → Prop) : AV → Hp → Prop := fun t18 h =>
vLss t18 t17 h fun t19 h =>
vIf t19 (
s_wal_Volume_blocksB3 cf fuel ih1 t0 t18 h) (
e0 h)
noncomputable def s_wal_Volume_blocksL1 (cf : CallK) (fuel : Nat) (e0 : Hp → Prop) (t0 : AV) (t17 : AV) (m : Nat) : AV → Hp → Prop := Nat.rec (motive := fun _ => AV → Hp → Prop) (fun _ _ => False) (fun _ ih => s_wal_Volume_blocksL1B cf fuel e0 t0 t17 ih) m
theorem s_wal_Volume_blocksL1_succ (cf : CallK) (fuel : Nat) (e0 : Hp → Prop) (t0 : AV) (t17 : AV) (m : Nat) : s_wal_Volume_blocksL1 cf fuel e0 t0 t17 (m + 1) = s_wal_Volume_blocksL1B cf fuel e0 t0 t17 (s_wal_Volume_blocksL1 cf fuel e0 t0 t17 m) := rfl
noncomputable def s_wal_Volume_blocks (cf : CallK) (fuel : Nat) (t0 : AV) (h : Hp) (K : AV → Hp → Prop) : Prop :=
vNilck t0 h fun t6 h =>
vFaddr 0 t6 h fun t7 h =>
vLoad2 t7 h fun t8 h =>
cf f_wal_room [t8] h fun t9 h =>
vMkSlice 1 24 false [.nilslice] t9 t9 h fun t10 h =>
vNilck t0 h fun t11 h =>
vFaddr 1 t11 h fun t12 h =>
vStore 1 t12 t10 h fun _ h =>
vNilck t0 h fun t14 h =>
vFaddr 1 t14 h fun t15 h =>
vLoad2 t15 h fun t16 h =>
vLenL2 t16 h fun t17 h =>
(fun (e0 : Hp → Prop) =>
s_wal_Volume_blocksL1 cf fuel (s_wal_Volume_blocksE0 cf fuel K) t0 t17 fuel (.int .i64 0) h) (s_wal_Volume_blocksE0 cf fuel K)
theorem s_wal_Volume_blocks_eq (cf : CallK) (fuel : Nat) (t0 : AV) (h : Hp) (K : AV → Hp → Prop) : s_wal_Volume_blocks cf fuel t0 h K = deepT (tabOf Tryz.prog) f_wal_Volume_blocks cf fuel [t0] h K :=
  Eq.trans (by kernel_rfl) (rFun (by kernel_rfl) (rSeq (by kernel_rfl) (rSeq (by kernel_rfl) (rSeq (by kernel_rfl) rExact (rSeq (by kernel_rfl) (rBlock (by kernel_rfl) (rLoop (by kernel_rfl) (fun m1 fr h => s_wal_Volume_blocksL1 cf fuel (s_wal_Volume_blocksE0 cf fuel K) (getS fr (gpos 0)) (getS fr (gpos 17)) m1 (getS fr (gpos 18)) h) (funext fun fr => funext fun h => by kernel_rfl) fun m1 => rCast (funext fun fr => funext fun h => by kernel_rfl) rExact)) rExact)) rExact) rExact))

noncomputable def s_bytes_HasPrefix (cf : CallK) (fuel : Nat) (t0 : AV) (t1 : AV) (h : Hp) (K : AV → Hp → Prop) : Prop :=
vLenL2 t0 h fun t6 h =>
vLenL2 t1 h fun t8 h =>
vGeq t6 t8 h fun t9 h =>
joinG (fun g5 => grdV t9 true (vMov t0 h g5) (g5 undefV h)) fun t11 h =>
joinG (fun g4 => grdV t9 true (vMov t1 h g4) (g4 undefV h)) fun t12 h =>
joinG (fun g3 => grdV t9 true (vLenL2 t12 h g3) (g3 undefV h)) fun t13 h =>
joinG (fun g2 => grdV t9 true (vSlice2 1 t11 none (some t13) h g2) (g2 undefV h)) fun t14 h =>
joinG (fun g1 => grdV t9 true (vMov t1 h g1) (g1 undefV h)) fun t15 h =>
joinG (fun g0 => grdV t9 true (cf f_bytes_Equal [t14, t15] h g0) (g0 undefV h)) fun t16 h =>
vPick t9 t16 (.bool .false) h fun t17 h =>
K t17 h
theorem s_bytes_HasPrefix_eq (cf : CallK) (fuel : Nat) (t0 : AV) (t1 : AV) (h : Hp) (K : AV → Hp → Prop) : s_bytes_HasPrefix cf fuel t0 t1 h K = deepT (tabOf Tryz.prog) f_bytes_HasPrefix cf fuel [t0, t1] h K :=
  Eq.trans (by kernel_rfl) (rFun (by kernel_rfl) rExact)

noncomputable def s_localfs_file (cf : CallK) (fuel : Nat) (t0 : AV) (h : Hp) (K : AV → Hp → Prop) : Prop :=
vLenL2 t0 h fun t5 h =>
cf f_inode_Cost [t5] h fun t6 h =>
vAdd (.int .i64 1) t6 h fun t7 h =>
vBuild [(.bool .false), .nilslice, .nilslice, .nilslice, (.int .i64 0), (.bool .false)] [(1, 1, t0), (4, 1, t7)] h fun t8 h =>
vBox 6 t8 h fun t9 h =>
K t9 h
theorem s_localfs_file_eq (cf : CallK) (fuel : Nat) (t0 : AV) (h : Hp) (K : AV → Hp → Prop) : s_localfs_file cf fuel t0 h K = deepT (tabOf Tryz.prog) f_localfs_file cf fuel [t0] h K :=
  Eq.trans (by kernel_rfl) (rFun (by kernel_rfl) rExact)

noncomputable def s_localfs_FS_filed (cf : CallK) (fuel : Nat) (t0 : AV) (t1 : AV) (t2 : AV) (h : Hp) (K : AV → Hp → Prop) : Prop :=
cf f_localfs_FS_walk [t0, t1] h fun t13 h =>
vExtract 0 t13 h fun t14 h =>
vExtract 1 t13 h fun t15 h =>
(fun (e0 : Hp → Prop) =>
vNeq t15 (.int .i64 0) h fun t18 h =>
vIf t18 (
K (.tup [.nilptr, t15]) h) (
vIf t2 (
K (.tup [.nilptr, (.int .i64 22)]) h) (
vEq false eqP t14 .nilptr h fun t24 h =>
vIf t24 (
K (.tup [.nilptr, (.int .i64 2)]) h) (
vNilck t14 h fun t27 h =>
vFaddr 0 t27 h fun t28 h =>
vLoad2 t28 h fun t29 h =>
vIf t29 (
K (.tup [.nilptr, (.int .i64 21)]) h) (
e0 h))))) fun h =>
K (.tup [t14, (.int .i64 0)]) h
theorem s_localfs_FS_filed_eq (cf : CallK) (fuel : Nat) (t0 : AV) (t1 : AV) (t2 : AV) (h : Hp) (K : AV → Hp → Prop) : s_localfs_FS_filed cf fuel t0 t1 t2 h K = deepT (tabOf Tryz.prog) f_localfs_FS_filed cf fuel [t0, t1, t2] h K :=
  Eq.trans (by kernel_rfl) (rFun (by kernel_rfl) rExact)

noncomputable def s_movetree_New (cf : CallK) (fuel : Nat) (h : Hp) (K : AV → Hp → Prop) : Prop :=
vMkMap h fun t1 h =>
vBuild [.nilmap, .nilslice] [(0, 1, t1)] h fun t2 h =>
vBox 2 t2 h fun t3 h =>
K t3 h
theorem s_movetree_New_eq (cf : CallK) (fuel : Nat) (h : Hp) (K : AV → Hp → Prop) : s_movetree_New cf fuel h K = deepT (tabOf Tryz.prog) f_movetree_New cf fuel [] h K :=
  Eq.trans (by kernel_rfl) (rFun (by kernel_rfl) rExact)

noncomputable def s_vector_madeE0 (cf : CallK) (fuel : Nat) (K : AV → Hp → Prop) : AV → AV → Hp → Prop := fun t3 t4 h =>
vSlice3 1 t3 none t4 t4 h fun t25 h =>
K t25 h
noncomputable def s_vector_madeL1B (cf : CallK) (fuel : Nat) (e0 : AV → AV → Hp → Prop) (t0 : AV) (ih1 : AV → AV → AV → Hp → Prop) : AV → AV → AV → Hp → Prop := fun t3 t4 t7 h =>
vLss t7 (.int .i64 64) h fun t8 h =>
vIf t8 (
(fun (e2 : AV → AV → Hp → Prop) =>
vCallV t0 [t7] cf h fun t12 h =>
vBslice 1 1 false [(.int .i64 0)] [(0, 1, t12)] h fun t15 h =>
vAppend2 1 8 false t3 t15 h fun t16 h =>
vNeq t12 (.int .i64 0) h fun t18 h =>
vIf t18 (
vAdd t7 (.int .i64 1) h fun t20 h =>
e2 t16 t20 h) (
e2 t16 t4 h)) fun t3 t4 h =>
vAdd t7 (.int .i64 1) h fun t21 h =>
ih1 t3 t4 t21 h) (
e0 t3 t4 h)
noncomputable def s_vector_madeL1 (cf : CallK) (fuel : Nat) (e0 : AV → AV → Hp → Prop) (t0 : AV) (m : Nat) : AV → AV → AV → Hp → Prop := Nat.rec (motive := fun _ => AV → AV → AV → Hp → Prop) (fun _ _ _ _ => False) (fun _ ih => s_vector_madeL1B cf fuel e0 t0 ih) m
theorem s_vector_madeL1_succ (cf : CallK) (fuel : Nat) (e0 : AV → AV → Hp → Prop) (t0 : AV) (m : Nat) : s_vector_madeL1 cf fuel e0 t0 (m + 1) = s_vector_madeL1B cf fuel e0 t0 (s_vector_madeL1 cf fuel e0 t0 m) := rfl
noncomputable def s_vector_made (cf : CallK) (fuel : Nat) (t0 : AV) (h : Hp) (K : AV → Hp → Prop) : Prop :=
(fun (e0 : AV → AV → Hp → Prop) =>
s_vector_madeL1 cf fuel (s_vector_madeE0 cf fuel K) t0 fuel .nilslice (.int .i64 0) (.int .i64 0) h) (s_vector_madeE0 cf fuel K)
theorem s_vector_made_eq (cf : CallK) (fuel : Nat) (t0 : AV) (h : Hp) (K : AV → Hp → Prop) : s_vector_made cf fuel t0 h K = deepT (tabOf Tryz.prog) f_vector_made cf fuel [t0] h K :=
  Eq.trans (by kernel_rfl) (rFun (by kernel_rfl) (rSeq (by kernel_rfl) (rSeq (by kernel_rfl) (rSeq (by kernel_rfl) (rSeq (by kernel_rfl) rExact (rSeq (by kernel_rfl) (rBlock (by kernel_rfl) (rLoop (by kernel_rfl) (fun m1 fr h => s_vector_madeL1 cf fuel (s_vector_madeE0 cf fuel K) (getS fr (gpos 0)) m1 (getS fr (gpos 3)) (getS fr (gpos 4)) (getS fr (gpos 7)) h) (funext fun fr => funext fun h => by kernel_rfl) fun m1 => rCast (funext fun fr => funext fun h => by kernel_rfl) rExact)) rExact)) rExact) rExact) rExact))

noncomputable def s_vector_numbers_at (cf : CallK) (fuel : Nat) (t0 : AV) (t1 : AV) (h : Hp) (K : AV → Hp → Prop) : Prop :=
cf f_vector_At [t0, t1] h fun t7 h =>
K t7 h
theorem s_vector_numbers_at_eq (cf : CallK) (fuel : Nat) (t0 : AV) (t1 : AV) (h : Hp) (K : AV → Hp → Prop) : s_vector_numbers_at cf fuel t0 t1 h K = deepT (tabOf Tryz.prog) f_vector_numbers_at cf fuel [t0, t1] h K :=
  Eq.trans (by kernel_rfl) (rFun (by kernel_rfl) rExact)

noncomputable def s_container_heap_upE0 (cf : CallK) (fuel : Nat) (K : AV → Hp → Prop) : Hp → Prop := fun h =>
K (.tup []) h
noncomputable def s_container_heap_upL1B (cf : CallK) (fuel : Nat) (e0 : Hp → Prop) (t0 : AV) (ih1 : AV → Hp → Prop) : AV → Hp → Prop := fun t1 h =>
(fun (e2 : AV → Hp → Prop) =>
vArith Go.Am.subI t1 (.int .i64 1) h fun t6 h =>
vDiv false t6 (.int .i64 2) h fun t7 h =>
vEql t7 t1 h fun t10 h =>
joinG (fun g7 => grdV t10 false (vMov t0 h g7) (g7 undefV h)) fun t12 h =>
joinG (fun g6 => grdV t10 false (vMov t1 h g6) (g6 undefV h)) fun t13 h =>
joinG (fun g5 => grdV t10 false (vMov t7 h g5) (g5 undefV h)) fun t14 h =>
joinG (fun g4 => grdV t10 false (vCallM t12 (selOf Tryz.prog "Less") [t13, t14] cf h g4) (g4 undefV h)) fun t15 h =>
joinG (fun g3 => grdV t10 false (vNot t15 h g3) (g3 undefV h)) fun t16 h =>
vPick t10 (.bool .true) t16 h fun t17 h =>
vIf t17 (
e0 h) (
vCallM t0 (selOf Tryz.prog "Swap") [t7, t1] cf h fun t21 h =>
e2 t7 h)) fun t1 h =>
ih1 t1 h
noncomputable def s_container_heap_upL1 (cf : CallK) (fuel : Nat) (e0 : Hp → Prop) (t0 : AV) (m : Nat) : AV → Hp → Prop := Nat.rec (motive := fun _ => AV → Hp → Prop) (fun _ _ => False) (fun _ ih => s_container_heap_upL1B cf fuel e0 t0 ih) m
theorem s_container_heap_upL1_succ (cf : CallK) (fuel : Nat) (e0 : Hp → Prop) (t0 : AV) (m : Nat) : s_container_heap_upL1 cf fuel e0 t0 (m + 1) = s_container_heap_upL1B cf fuel e0 t0 (s_container_heap_upL1 cf fuel e0 t0 m) := rfl
noncomputable def s_container_heap_up (cf : CallK) (fuel : Nat) (t0 : AV) (t1 : AV) (h : Hp) (K : AV → Hp → Prop) : Prop :=
(fun (e0 : Hp → Prop) =>
s_container_heap_upL1 cf fuel (s_container_heap_upE0 cf fuel K) t0 fuel t1 h) (s_container_heap_upE0 cf fuel K)
theorem s_container_heap_up_eq (cf : CallK) (fuel : Nat) (t0 : AV) (t1 : AV) (h : Hp) (K : AV → Hp → Prop) : s_container_heap_up cf fuel t0 t1 h K = deepT (tabOf Tryz.prog) f_container_heap_up cf fuel [t0, t1] h K :=
  Eq.trans (by kernel_rfl) (rFun (by kernel_rfl) (rBlock (by kernel_rfl) (rLoop (by kernel_rfl) (fun m1 fr h => s_container_heap_upL1 cf fuel (s_container_heap_upE0 cf fuel K) (getS fr (gpos 0)) m1 (getS fr (gpos 1)) h) (funext fun fr => funext fun h => by kernel_rfl) fun m1 => rCast (funext fun fr => funext fun h => by kernel_rfl) rExact)))

noncomputable def s_container_heap_downE0 (cf : CallK) (fuel : Nat) (K : AV → Hp → Prop) (t1 : AV) : AV → Hp → Prop := fun t7 h =>
vGtr t7 t1 h fun t47 h =>
K t47 h
noncomputable def s_container_heap_downB8 (cf : CallK) (fuel : Nat) (e0 : AV → Hp → Prop) (e2 : AV → Hp → Prop) (t2 : AV) (t14 : AV) (t7 : AV) (t0 : AV) (h : Hp) : Prop :=
(fun (j3 : AV → Hp → Prop) =>
vAdd t14 (.int .i64 1) h fun t24 h =>
vLss t24 t2 h fun t27 h =>
joinG (fun g7 => grdV t27 true (vMov t0 h g7) (g7 undefV h)) fun t29 h =>
joinG (fun g6 => grdV t27 true (vMov t24 h g6) (g6 undefV h)) fun t30 h =>
joinG (fun g5 => grdV t27 true (vMov t14 h g5) (g5 undefV h)) fun t31 h =>
joinG (fun g4 => grdV t27 true (vCallM t29 (selOf Tryz.prog "Less") [t30, t31] cf h g4) (g4 undefV h)) fun t32 h =>
vPick t27 t32 (.bool .false) h fun t33 h =>
vIf t33 (
j3 t24 h) (
j3 t14 h)) fun t9 h =>
vCallM t0 (selOf Tryz.prog "Less") [t9, t7] cf h fun t38 h =>
vNot t38 h fun t39 h =>
vIf t39 (
e0 t7 h) (
vCallM t0 (selOf Tryz.prog "Swap") [t7, t9] cf h fun t43 h =>
e2 t9 h)
noncomputable def s_container_heap_downL1B (cf : CallK) (fuel : Nat) (e0 : AV → Hp → Prop) (t0 : AV) (t1 : AV) (t2 : AV) (ih1 : AV → Hp → Prop) : AV → Hp → Prop := fun t7 h =>
(fun (e2 : AV → Hp → Prop) =>
vArith Go.Am.mulI (.int .i64 2) t7 h fun t13 h =>
vAdd t13 (.int .i64 1) h fun t14 h =>
vGeq t14 t2 h fun t17 h =>
joinG (fun g10 => grdV t17 false (vMov t14 h g10) (g10 undefV h)) fun t19 h =>
joinG (fun g9 => grdV t17 false (vLss t19 (.int .i64 0) h g9) (g9 undefV h)) fun t20 h =>
vPick t17 (.bool .true) t20 h fun t21 h =>
vIf t21 (
e0 t7 h) (
s_container_heap_downB8 cf fuel e0 e2 t2 t14 t7 t0 h)) fun t7 h =>
ih1 t7 h
noncomputable def s_container_heap_downL1 (cf : CallK) (fuel : Nat) (e0 : AV → Hp → Prop) (t0 : AV) (t1 : AV) (t2 : AV) (m : Nat) : AV → Hp → Prop := Nat.rec (motive := fun _ => AV → Hp → Prop) (fun _ _ => False) (fun _ ih => s_container_heap_downL1B cf fuel e0 t0 t1 t2 ih) m
theorem s_container_heap_downL1_succ (cf : CallK) (fuel : Nat) (e0 : AV → Hp → Prop) (t0 : AV) (t1 : AV) (t2 : AV) (m : Nat) : s_container_heap_downL1 cf fuel e0 t0 t1 t2 (m + 1) = s_container_heap_downL1B cf fuel e0 t0 t1 t2 (s_container_heap_downL1 cf fuel e0 t0 t1 t2 m) := rfl
noncomputable def s_container_heap_down (cf : CallK) (fuel : Nat) (t0 : AV) (t1 : AV) (t2 : AV) (h : Hp) (K : AV → Hp → Prop) : Prop :=
(fun (e0 : AV → Hp → Prop) =>
s_container_heap_downL1 cf fuel (s_container_heap_downE0 cf fuel K t1) t0 t1 t2 fuel t1 h) (s_container_heap_downE0 cf fuel K t1)
theorem s_container_heap_down_eq (cf : CallK) (fuel : Nat) (t0 : AV) (t1 : AV) (t2 : AV) (h : Hp) (K : AV → Hp → Prop) : s_container_heap_down cf fuel t0 t1 t2 h K = deepT (tabOf Tryz.prog) f_container_heap_down cf fuel [t0, t1, t2] h K :=
  Eq.trans (by kernel_rfl) (rFun (by kernel_rfl) (rSeq (by kernel_rfl) (rSeq (by kernel_rfl) (rSeq (by kernel_rfl) rExact (rBlock (by kernel_rfl) (rLoop (by kernel_rfl) (fun m1 fr h => s_container_heap_downL1 cf fuel (s_container_heap_downE0 cf fuel K (getS fr (gpos 1))) (getS fr (gpos 0)) (getS fr (gpos 1)) (getS fr (gpos 2)) m1 (getS fr (gpos 7)) h) (funext fun fr => funext fun h => by kernel_rfl) fun m1 => rCast (funext fun fr => funext fun h => by kernel_rfl) rExact))) rExact) rExact))

noncomputable def s_view_View_ApplyB2 (cf : CallK) (fuel : Nat) (j0 : Hp → Prop) (t0 : AV) (t3 : AV) (h : Hp) : Prop :=
(fun (j1 : Hp → Prop) =>
vNilck t0 h fun t25 h =>
vFaddr 1 t25 h fun t26 h =>
vLoad2 t26 h fun t27 h =>
vFaddr 4 t3 h fun t28 h =>
vLoadA 2 t28 h fun t29 h =>
vLookup Go.Am.eqPair false .nilptr t27 t29 h fun t30 h =>
vEq false eqP t30 .nilptr h fun t31 h =>
vIf t31 (
vNilck t0 h fun t33 h =>
vFaddr 1 t33 h fun t34 h =>
vLoad2 t34 h fun t35 h =>
vFaddr 4 t3 h fun t36 h =>
vLoadA 2 t36 h fun t37 h =>
cf f_content_New [] h fun t38 h =>
vLoad2 t34 h fun c _ => gd (sameV c t35) (
vLoadA 2 t36 h fun c _ => gd (sameV c t37) (
vMapSet Go.Am.eqPair t35 t37 t38 h fun _ h =>
j1 h))) (
j1 h)) fun h =>
vNilck t0 h fun t40 h =>
vFaddr 1 t40 h fun t41 h =>
vLoad2 t41 h fun t42 h =>
vFaddr 4 t3 h fun t43 h =>
vLoadA 2 t43 h fun t44 h =>
vLookup Go.Am.eqPair false .nilptr t42 t44 h fun t45 h =>
vLoadA 11 t3 h fun t46 h =>
cf f_content_File_Add [t45, t46] h fun t47 h =>
j0 h
noncomputable def s_view_View_ApplyB3 (cf : CallK) (fuel : Nat) (K : AV → Hp → Prop) (t0 : AV) (t3 : AV) (h : Hp) : Prop :=
(fun (j0 : Hp → Prop) =>
vFaddr 3 t3 h fun t21 h =>
vLoad2 t21 h fun t22 h =>
vEql t22 (.int .i64 4) h fun t23 h =>
vIf t23 (
s_view_View_ApplyB2 cf fuel j0 t0 t3 h) (
j0 h)) fun h =>
vNilck t0 h fun t49 h =>
vFaddr 2 t49 h fun t50 h =>
vLoad2 t50 h fun t51 h =>
vAdd t51 (.int .i64 1) h fun t52 h =>
vNilck t0 h fun t53 h =>
vFaddr 2 t53 h fun t54 h =>
vStore 1 t54 t52 h fun _ h =>
K (.int .i64 0) h
noncomputable def s_view_View_Apply (cf : CallK) (fuel : Nat) (t0 : AV) (t1 : AV) (h : Hp) (K : AV → Hp → Prop) : Prop :=
vBox 11 t1 h fun t3 h =>
vEq false eqP t0 .nilptr h fun t8 h =>
vIf t8 (
K (.int .i64 22) h) (
vNilck t0 h fun t11 h =>
vFaddr 0 t11 h fun t12 h =>
vLoad2 t12 h fun t13 h =>
vLoadA 11 t3 h fun t14 h =>
cf f_movetree_Tree_Apply [t13, t14] h fun t15 h =>
vExtract 0 t15 h fun t16 h =>
vExtract 1 t15 h fun t17 h =>
vNeq t17 (.int .i64 0) h fun t19 h =>
vIf t19 (
K t17 h) (
s_view_View_ApplyB3 cf fuel K t0 t3 h))
theorem s_view_View_Apply_eq (cf : CallK) (fuel : Nat) (t0 : AV) (t1 : AV) (h : Hp) (K : AV → Hp → Prop) : s_view_View_Apply cf fuel t0 t1 h K = deepT (tabOf Tryz.prog) f_view_View_Apply cf fuel [t0, t1] h K :=
  Eq.trans (by kernel_rfl) (rFun (by kernel_rfl) rExact)

noncomputable def s_clock_Clock_See (cf : CallK) (fuel : Nat) (t0 : AV) (t1 : AV) (h : Hp) (K : AV → Hp → Prop) : Prop :=
vBox 2 t1 h fun t3 h =>
vEq false eqP t0 .nilptr h fun t7 h =>
joinG (fun g2 => grdV t7 false (vLoadA 2 t3 h g2) (g2 undefV h)) fun t9 h =>
joinG (fun g1 => grdV t7 false (cf f_clock_Valid [t9] h g1) (g1 undefV h)) fun t10 h =>
joinG (fun g0 => grdV t7 false (vNot t10 h g0) (g0 undefV h)) fun t11 h =>
vPick t7 (.bool .true) t11 h fun t12 h =>
vIf t12 (
K (.tup [(.bool .false), (.int .i64 22)]) h) (
vNilck t0 h fun t15 h =>
vFaddr 1 t15 h fun t16 h =>
vLoad2 t16 h fun t17 h =>
vFaddr 0 t3 h fun t18 h =>
vLoad2 t18 h fun t19 h =>
vMin true t17 t19 h fun t20 h =>
cf f_clock_Clock_to [t0, t20] h fun t21 h =>
K (.tup [t21, (.int .i64 0)]) h)
theorem s_clock_Clock_See_eq (cf : CallK) (fuel : Nat) (t0 : AV) (t1 : AV) (h : Hp) (K : AV → Hp → Prop) : s_clock_Clock_See cf fuel t0 t1 h K = deepT (tabOf Tryz.prog) f_clock_Clock_See cf fuel [t0, t1] h K :=
  Eq.trans (by kernel_rfl) (rFun (by kernel_rfl) rExact)


end Go.Proofs.YtciipeallilmiaaGreatDoor.sh5
