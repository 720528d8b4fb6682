/- The Go functions' code as the abstract machine's, over values; each is the code that the machine makes of the program's (theorems s_.._eq). No condition. -/
import Derived.Test.YtciipeallilmiaaGreatDoorAmC
import Derived.Test.YtciipeallilmiaaGreatDoorProg
import Derived.KernelRfl
namespace Go.Proofs.YtciipeallilmiaaGreatDoor.sh3
open Go Go.Am Go.Proofs
set_option linter.unusedVariables false
set_option maxRecDepth 100000
abbrev f_bytes_Clone : Nat := 145
abbrev f_bytes_CutPrefix : Nat := 94
abbrev f_bytes_Equal : Nat := 191
abbrev f_bytes_HasPrefix : Nat := 173
abbrev f_clock_Clock_See : Nat := 182
abbrev f_clock_node : Nat := 102
abbrev f_codec_NewReader : Nat := 79
abbrev f_codec_Reader_Bytes : Nat := 98
abbrev f_codec_Reader_Done : Nat := 99
abbrev f_codec_Reader_Err : Nat := 83
abbrev f_codec_Reader_Left : Nat := 84
abbrev f_codec_Reader_Num : Nat := 80
abbrev f_codec_Reader_fails : Nat := 162
abbrev f_container_heap_Pop : Nat := 109
abbrev f_container_heap_Push : Nat := 107
abbrev f_container_heap_down : Nat := 180
abbrev f_container_heap_up : Nat := 179
abbrev f_content_File_Heads : Nat := 198
abbrev f_device_Device_Flush : Nat := 187
abbrev f_device_Device_Write : Nat := 188
abbrev f_fds_New : Nat := 104
abbrev f_fds_Table_Open : Nat := 125
abbrev f_fds_Table_Room : Nat := 123
abbrev f_localfs_FS_Read : Nat := 96
abbrev f_localfs_FS_commit : Nat := 118
abbrev f_localfs_FS_filed : Nat := 175
abbrev f_localfs_file : Nat := 174
abbrev f_localfs_folder : Nat := 119
abbrev f_localfs_object_write : Nat := 190
abbrev f_localfs_read : Nat := 95
abbrev f_math_bits_Len : Nat := 184
abbrev f_movetree_New : Nat := 176
abbrev f_movetree_Tree_Dir : Nat := 196
abbrev f_oplog_Log_Get : Nat := 112
abbrev f_oplog_Log_Meta : Nat := 101
abbrev f_oplog_Log_load : Nat := 100
abbrev f_oplog_Log_put : Nat := 71
abbrev f_oplog_Log_takes : Nat := 70
abbrev f_oplog_file : Nat := 152
abbrev f_oplog_head : Nat := 97
abbrev f_oplog_rests_Len : Nat := 108
abbrev f_ops_Copy : Nat := 110
abbrev f_ops_Decode : Nat := 85
abbrev f_ops_May : Nat := 146
abbrev f_path_Fresh : Nat := 130
abbrev f_path_Parse : Nat := 193
abbrev f_session_Table_Active : Nat := 113
abbrev f_session_end_active : Nat := 155
abbrev f_session_late : Nat := 115
abbrev f_session_waiting_Len : Nat := 114
abbrev f_slices_Sort_int_int : Nat := 116
abbrev f_slices_pdqsortOrdered_int : Nat := 183
abbrev f_vector_At : Nat := 106
abbrev f_vector_Leq : Nat := 147
abbrev f_vector_Norm : Nat := 105
abbrev f_vector_With : Nat := 149
abbrev f_vector_made : Nat := 177
abbrev f_vfs_FS_Load : Nat := 111
abbrev f_vfs_call_create : Nat := 121
abbrev f_vfs_call_find : Nat := 120
abbrev f_vfs_call_make : Nat := 131
abbrev f_vfs_place_name : Nat := 132
abbrev f_view_New : Nat := 103
abbrev f_view_View_Apply : Nat := 181
abbrev f_view_View_Live : Nat := 195
abbrev f_view_View_Stat : Nat := 122
abbrev f_view_View_Walk : Nat := 194
abbrev f_view_View_size : Nat := 197
abbrev f_wal_Format : Nat := 117
abbrev f_wal_Volume_Blocks : Nat := 92
abbrev f_wal_Volume_Commit : Nat := 192
abbrev f_wal_Volume_Read : Nat := 93
abbrev f_wal_head : Nat := 189
abbrev f_wal_room : Nat := 185
abbrev f_wal_wrote : Nat := 186
abbrev f_zbyte_Get32 : Nat := 160

noncomputable def s_wal_Volume_Read (cf : CallK) (fuel : Nat) (t0 : AV) (t1 : AV) (h : Hp) (K : AV → Hp → Prop) : Prop :=
vLss t1 (.int .i64 0) h fun t7 h =>
joinG (fun g3 => grdV t7 false (vMov t1 h g3) (g3 undefV h)) fun t9 h =>
joinG (fun g2 => grdV t7 false (vMov t0 h g2) (g2 undefV h)) fun t10 h =>
joinG (fun g1 => grdV t7 false (cf f_wal_Volume_Blocks [t10] h g1) (g1 undefV h)) fun t11 h =>
joinG (fun g0 => grdV t7 false (vGeq t9 t11 h g0) (g0 undefV h)) fun t12 h =>
vPick t7 (.bool .true) t12 h fun t13 h =>
vIf t13 (
K (.tup [.nilslice, (.int .i64 22)]) h) (
vNilck t0 h fun t15 h =>
vFaddr 1 t15 h fun t16 h =>
vLoad2 t16 h fun t17 h =>
vIaddr 1 t17 t1 h fun t19 h =>
vLoad2 t19 h fun t20 h =>
cf f_bytes_Clone [t20] h fun t21 h =>
K (.tup [t21, (.int .i64 0)]) h)
theorem s_wal_Volume_Read_eq (cf : CallK) (fuel : Nat) (t0 : AV) (t1 : AV) (h : Hp) (K : AV → Hp → Prop) : s_wal_Volume_Read cf fuel t0 t1 h K = deepT (tabOf Tryz.prog) f_wal_Volume_Read cf fuel [t0, t1] h K :=
  Eq.trans (by kernel_rfl) (rFun (by kernel_rfl) rExact)

noncomputable def s_bytes_CutPrefix (cf : CallK) (fuel : Nat) (t0 : AV) (t1 : AV) (h : Hp) (K : AV → Hp → Prop) : Prop :=
cf f_bytes_HasPrefix [t0, t1] h fun t8 h =>
vNot t8 h fun t9 h =>
vIf t9 (
K (.tup [t0, (.bool .false)]) h) (
vLenL2 t1 h fun t13 h =>
vSlice2 1 t0 (some t13) none h fun t14 h =>
K (.tup [t14, (.bool .true)]) h)
theorem s_bytes_CutPrefix_eq (cf : CallK) (fuel : Nat) (t0 : AV) (t1 : AV) (h : Hp) (K : AV → Hp → Prop) : s_bytes_CutPrefix cf fuel t0 t1 h K = deepT (tabOf Tryz.prog) f_bytes_CutPrefix cf fuel [t0, t1] h K :=
  Eq.trans (by kernel_rfl) (rFun (by kernel_rfl) rExact)

noncomputable def s_localfs_readE0 (cf : CallK) (fuel : Nat) (K : AV → Hp → Prop) : AV → AV → AV → Hp → Prop := fun t0 t6 t7 h =>
cf f_localfs_folder [t6, t7] h fun t80 h =>
K (.tup [t80, t0]) h
noncomputable def s_localfs_readB3 (cf : CallK) (fuel : Nat) (K : AV → Hp → Prop) (e2 : AV → AV → AV → Hp → Prop) (t0 : AV) (t6 : AV) (t7 : AV) (h : Hp) : Prop :=
vIaddr 1 t0 (.int .i64 0) h fun t53 h =>
vLoad2 t53 h fun t54 h =>
vToInt .i64 t54 h fun t55 h =>
vAdd (.int .i64 1) t55 h fun t56 h =>
vSlice2 1 t0 (some (.int .i64 1)) (some t56) h fun t60 h =>
vToStr t60 h fun t61 h =>
vBslice 1 1 false [(.str 0 0)] [(0, 1, t61)] h fun t62 h =>
vAppend2 1 16 false t6 t62 h fun t63 h =>
vSlice2 1 t0 (some t56) none h fun t67 h =>
cf f_localfs_read [t67] h fun t68 h =>
vExtract 0 t68 h fun t69 h =>
vExtract 1 t68 h fun t70 h =>
vEq false eqP t69 .nilptr h fun t72 h =>
vIf t72 (
K (.tup [.nilptr, .nilslice]) h) (
vBslice 1 1 false [.nilptr] [(0, 1, t69)] h fun t75 h =>
vAppend2 1 8 false t7 t75 h fun t76 h =>
e2 t70 t63 t76 h)
noncomputable def s_localfs_readB12 (cf : CallK) (fuel : Nat) (K : AV → Hp → Prop) (ih1 : AV → AV → AV → AV → Hp → Prop) (t0 : AV) (t6 : AV) (t7 : AV) (t37 : AV) (h : Hp) : Prop :=
(fun (e2 : AV → AV → AV → Hp → Prop) =>
vLenL2 t0 h fun t40 h =>
vEql t40 (.int .i64 0) h fun t41 h =>
joinG (fun g11 => grdV t41 false (vMov t0 h g11) (g11 undefV h)) fun t43 h =>
joinG (fun g10 => grdV t41 false (vLenL2 t43 h g10) (g10 undefV h)) fun t44 h =>
joinG (fun g9 => grdV t41 false (vMov t0 h g9) (g9 undefV h)) fun t45 h =>
joinG (fun g8 => grdV t41 false (vIaddr 1 t45 (.int .i64 0) h g8) (g8 undefV h)) fun t46 h =>
joinG (fun g7 => grdV t41 false (vLoad2 t46 h g7) (g7 undefV h)) fun t47 h =>
joinG (fun g6 => grdV t41 false (vToInt .i64 t47 h g6) (g6 undefV h)) fun t48 h =>
joinG (fun g5 => grdV t41 false (vAdd (.int .i64 1) t48 h g5) (g5 undefV h)) fun t49 h =>
joinG (fun g4 => grdV t41 false (vLss t44 t49 h g4) (g4 undefV h)) fun t50 h =>
vPick t41 (.bool .true) t50 h fun t51 h =>
vIf t51 (
K (.tup [.nilptr, .nilslice]) h) (
s_localfs_readB3 cf fuel K e2 t0 t6 t7 h)) fun t0 t6 t7 h =>
vAdd t37 (.int .i64 1) h fun t77 h =>
ih1 t0 t6 t7 t77 h
noncomputable def s_localfs_readL1B (cf : CallK) (fuel : Nat) (K : AV → Hp → Prop) (e0 : AV → AV → AV → Hp → Prop) (t36 : AV) (ih1 : AV → AV → AV → AV → Hp → Prop) : AV → AV → AV → AV → Hp → Prop := fun t0 t6 t7 t37 h =>
vLss t37 t36 h fun t38 h =>
vIf t38 (
s_localfs_readB12 cf fuel K ih1 t0 t6 t7 t37 h) (
e0 t0 t6 t7 h)
noncomputable def s_localfs_readL1 (cf : CallK) (fuel : Nat) (K : AV → Hp → Prop) (e0 : AV → AV → AV → Hp → Prop) (t36 : AV) (m : Nat) : AV → AV → AV → AV → Hp → Prop := Nat.rec (motive := fun _ => AV → AV → AV → AV → Hp → Prop) (fun _ _ _ _ _ => False) (fun _ ih => s_localfs_readL1B cf fuel K e0 t36 ih) m
theorem s_localfs_readL1_succ (cf : CallK) (fuel : Nat) (K : AV → Hp → Prop) (e0 : AV → AV → AV → Hp → Prop) (t36 : AV) (m : Nat) : s_localfs_readL1 cf fuel K e0 t36 (m + 1) = s_localfs_readL1B cf fuel K e0 t36 (s_localfs_readL1 cf fuel K e0 t36 m) := rfl
noncomputable def s_localfs_readB13 (cf : CallK) (fuel : Nat) (K : AV → Hp → Prop) (t0 : AV) (h : Hp) : Prop :=
vIaddr 1 t0 (.int .i64 0) h fun t14 h =>
vLoad2 t14 h fun t15 h =>
vSlice2 1 t0 (some (.int .i64 1)) none h fun t17 h =>
cf f_zbyte_Get32 [t17] h fun t18 h =>
vLoad2 t14 h fun c _ => gd (sameV c t15) (
vToInt .i64 t18 h fun t19 h =>
vSlice2 1 t0 (some (.int .i64 5)) none h fun t21 h =>
vEql t15 (.int .u8 1) h fun t23 h =>
vIf t23 (
vLenL2 t21 h fun t26 h =>
vGtr t19 t26 h fun t27 h =>
vIf t27 (
K (.tup [.nilptr, .nilslice]) h) (
vSlice2 1 t21 none (some t19) h fun t30 h =>
vSlice2 1 t21 (some t19) none h fun t35 h =>
cf f_bytes_Clone [t30] h fun t31 h =>
cf f_localfs_file [t31] h fun t32 h =>
K (.tup [t32, t35]) h)) (
(fun (e0 : AV → AV → AV → Hp → Prop) =>
s_localfs_readL1 cf fuel K (s_localfs_readE0 cf fuel K) t19 fuel t21 .nilslice .nilslice (.int .i64 0) h) (s_localfs_readE0 cf fuel K)))
noncomputable def s_localfs_read (cf : CallK) (fuel : Nat) (t0 : AV) (h : Hp) (K : AV → Hp → Prop) : Prop :=
vLenL2 t0 h fun t11 h =>
vLss t11 (.int .i64 5) h fun t12 h =>
vIf t12 (
K (.tup [.nilptr, .nilslice]) h) (
s_localfs_readB13 cf fuel K t0 h)
theorem s_localfs_read_eq (cf : CallK) (fuel : Nat) (t0 : AV) (h : Hp) (K : AV → Hp → Prop) : s_localfs_read cf fuel t0 h K = deepT (tabOf Tryz.prog) f_localfs_read cf fuel [t0] h K :=
  Eq.trans (by kernel_rfl) (rFun (by kernel_rfl) (rSeq (by kernel_rfl) (rSeq (by kernel_rfl) (rSeq (by kernel_rfl) (rSeq (by kernel_rfl) (rSeq (by kernel_rfl) (rSeq (by kernel_rfl) (rSeq (by kernel_rfl) (rSeq (by kernel_rfl) rExact (rSeq (by kernel_rfl) (rBlock (by kernel_rfl) (rLoop (by kernel_rfl) (fun m1 fr h => s_localfs_readL1 cf fuel K (s_localfs_readE0 cf fuel K) (getS fr (gpos 36)) m1 (getS fr (gpos 0)) (getS fr (gpos 6)) (getS fr (gpos 7)) (getS fr (gpos 37)) h) (funext fun fr => funext fun h => by kernel_rfl) fun m1 => rCast (funext fun fr => funext fun h => by kernel_rfl) rExact)) rExact)) rExact) rExact) rExact) rExact) rExact) rExact) rExact))

noncomputable def s_localfs_FS_ReadB9 (cf : CallK) (fuel : Nat) (K : AV → Hp → Prop) (t0 : AV) (t1 : AV) (t2 : AV) (t3 : AV) (h : Hp) : Prop :=
vLss t2 (.int .i64 0) h fun t18 h =>
joinG (fun g8 => grdV t18 false (vMov t3 h g8) (g8 undefV h)) fun t20 h =>
joinG (fun g7 => grdV t18 false (vLss t20 (.int .i64 0) h g7) (g7 undefV h)) fun t21 h =>
vPick t18 (.bool .true) t21 h fun t22 h =>
cf f_localfs_FS_filed [t0, t1, t22] h fun t23 h =>
vExtract 0 t23 h fun t24 h =>
vExtract 1 t23 h fun t25 h =>
vNeq t25 (.int .i64 0) h fun t27 h =>
joinG (fun g6 => grdV t27 false (vMov t2 h g6) (g6 undefV h)) fun t29 h =>
joinG (fun g5 => grdV t27 false (vMov t24 h g5) (g5 undefV h)) fun t30 h =>
joinG (fun g4 => grdV t27 false (vNilck t30 h g4) (g4 undefV h)) fun t31 h =>
joinG (fun g3 => grdV t27 false (vFaddr 1 t31 h g3) (g3 undefV h)) fun t32 h =>
joinG (fun g2 => grdV t27 false (vLoad2 t32 h g2) (g2 undefV h)) fun t33 h =>
joinG (fun g1 => grdV t27 false (vLenL2 t33 h g1) (g1 undefV h)) fun t34 h =>
joinG (fun g0 => grdV t27 false (vGeq t29 t34 h g0) (g0 undefV h)) fun t35 h =>
vPick t27 (.bool .true) t35 h fun t36 h =>
vIf t36 (
K (.tup [.nilslice, t25]) h) (
vNilck t24 h fun t39 h =>
vFaddr 1 t39 h fun t40 h =>
vLoad2 t40 h fun t41 h =>
vNilck t24 h fun t46 h =>
vFaddr 1 t46 h fun t47 h =>
vLoad2 t47 h fun t48 h =>
vLenL2 t48 h fun t49 h =>
vArith Go.Am.subI t49 t2 h fun t51 h =>
vMin false t3 t51 h fun t52 h =>
vAdd t2 t52 h fun t53 h =>
vSlice2 1 t41 (some t2) (some t53) h fun t54 h =>
cf f_bytes_Clone [t54] h fun t55 h =>
K (.tup [t55, (.int .i64 0)]) h)
noncomputable def s_localfs_FS_Read (cf : CallK) (fuel : Nat) (t0 : AV) (t1 : AV) (t2 : AV) (t3 : AV) (h : Hp) (K : AV → Hp → Prop) : Prop :=
vEq false eqP t0 .nilptr h fun t13 h =>
vIf t13 (
K (.tup [.nilslice, (.int .i64 5)]) h) (
s_localfs_FS_ReadB9 cf fuel K t0 t1 t2 t3 h)
theorem s_localfs_FS_Read_eq (cf : CallK) (fuel : Nat) (t0 : AV) (t1 : AV) (t2 : AV) (t3 : AV) (h : Hp) (K : AV → Hp → Prop) : s_localfs_FS_Read cf fuel t0 t1 t2 t3 h K = deepT (tabOf Tryz.prog) f_localfs_FS_Read cf fuel [t0, t1, t2, t3] h K :=
  Eq.trans (by kernel_rfl) (rFun (by kernel_rfl) rExact)

noncomputable def s_oplog_head (cf : CallK) (fuel : Nat) (h : Hp) (K : AV → Hp → Prop) : Prop :=
vBslice 1 1 false [(.str 0 0)] [(0, 1, (.str 4 1684104552))] h fun t1 h =>
K t1 h
theorem s_oplog_head_eq (cf : CallK) (fuel : Nat) (h : Hp) (K : AV → Hp → Prop) : s_oplog_head cf fuel h K = deepT (tabOf Tryz.prog) f_oplog_head cf fuel [] h K :=
  Eq.trans (by kernel_rfl) (rFun (by kernel_rfl) rExact)

noncomputable def s_codec_Reader_Bytes (cf : CallK) (fuel : Nat) (t0 : AV) (h : Hp) (K : AV → Hp → Prop) : Prop :=
cf f_codec_Reader_Num [t0] h fun t6 h =>
vGtr t6 (.int .i64 65536) h fun t9 h =>
joinG (fun g3 => grdV t9 false (vMov t6 h g3) (g3 undefV h)) fun t11 h =>
joinG (fun g2 => grdV t9 false (vMov t0 h g2) (g2 undefV h)) fun t12 h =>
joinG (fun g1 => grdV t9 false (cf f_codec_Reader_Left [t12] h g1) (g1 undefV h)) fun t13 h =>
joinG (fun g0 => grdV t9 false (vGtr t11 t13 h g0) (g0 undefV h)) fun t14 h =>
vPick t9 (.bool .true) t14 h fun t15 h =>
cf f_codec_Reader_fails [t0, t15] h fun t16 h =>
vIf t16 (
K .nilslice h) (
vNilck t0 h fun t18 h =>
vFaddr 0 t18 h fun t19 h =>
vLoad2 t19 h fun t20 h =>
vSlice2 1 t20 none (some t6) h fun t22 h =>
cf f_bytes_Clone [t22] h fun t23 h =>
vNilck t0 h fun t26 h =>
vFaddr 0 t26 h fun t27 h =>
vLoad2 t27 h fun t28 h =>
vSlice2 1 t28 (some t6) none h fun t30 h =>
vNilck t0 h fun t31 h =>
vFaddr 0 t31 h fun t32 h =>
vStore 1 t32 t30 h fun _ h =>
K t23 h)
theorem s_codec_Reader_Bytes_eq (cf : CallK) (fuel : Nat) (t0 : AV) (h : Hp) (K : AV → Hp → Prop) : s_codec_Reader_Bytes cf fuel t0 h K = deepT (tabOf Tryz.prog) f_codec_Reader_Bytes cf fuel [t0] h K :=
  Eq.trans (by kernel_rfl) (rFun (by kernel_rfl) rExact)

noncomputable def s_codec_Reader_Done (cf : CallK) (fuel : Nat) (t0 : AV) (h : Hp) (K : AV → Hp → Prop) : Prop :=
cf f_codec_Reader_Left [t0] h fun t4 h =>
vGtr t4 (.int .i64 0) h fun t5 h =>
vIf t5 (
K (.int .i64 74) h) (
cf f_codec_Reader_Err [t0] h fun t7 h =>
K t7 h)
theorem s_codec_Reader_Done_eq (cf : CallK) (fuel : Nat) (t0 : AV) (h : Hp) (K : AV → Hp → Prop) : s_codec_Reader_Done cf fuel t0 h K = deepT (tabOf Tryz.prog) f_codec_Reader_Done cf fuel [t0] h K :=
  Eq.trans (by kernel_rfl) (rFun (by kernel_rfl) rExact)

noncomputable def s_oplog_Log_loadE1 (cf : CallK) (fuel : Nat) (K : AV → Hp → Prop) (t7 : AV) : Hp → Prop := fun h =>
cf f_codec_Reader_Done [t7] h fun t85 h =>
K t85 h
noncomputable def s_oplog_Log_loadE3 (cf : CallK) (fuel : Nat) (ih2 : Hp → Prop) (t0 : AV) (t7 : AV) : Hp → Prop := fun h =>
ih2 h
noncomputable def s_oplog_Log_loadE4 (cf : CallK) (fuel : Nat) (K : AV → Hp → Prop) (e3 : Hp → Prop) (t0 : AV) (t7 : AV) : AV → Hp → Prop := fun t9 h =>
cf f_ops_Decode [t9] h fun t70 h =>
vExtract 0 t70 h fun t71 h =>
vExtract 1 t70 h fun t72 h =>
vBox 11 (.agg [(.int .i64 0), (.int .i64 0), (.int .i64 0), (.int .i64 0), (.int .i64 0), (.int .i64 0), (.int .i64 0), (.int .i64 0), (.str 0 0), .nilslice, .nilslice]) h fun t11 h =>
vStore 11 t11 t71 h fun _ h =>
vNeq t72 (.int .i64 0) h fun t74 h =>
joinG (fun g8 => grdV t74 false (vMov t0 h g8) (g8 undefV h)) fun t76 h =>
joinG (fun g7 => grdV t74 false (vLoadA 11 t11 h g7) (g7 undefV h)) fun t77 h =>
joinG (fun g6 => grdV t74 false (cf f_oplog_Log_takes [t76, t77] h g6) (g6 undefV h)) fun t78 h =>
joinG (fun g5 => grdV t74 false (vNot t78 h g5) (g5 undefV h)) fun t79 h =>
vPick t74 (.bool .true) t79 h fun t80 h =>
vIf t80 (
K (.int .i64 74) h) (
vLoadA 11 t11 h fun t82 h =>
cf f_oplog_Log_put [t0, t82] h fun t83 h =>
e3 h)
noncomputable def s_oplog_Log_loadL9B (cf : CallK) (fuel : Nat) (e4 : AV → Hp → Prop) (t0 : AV) (t7 : AV) (ih9 : AV → AV → Hp → Prop) : AV → AV → Hp → Prop := fun t8 t9 h =>
vGtr t8 (.int .i64 0) h fun t55 h =>
joinG (fun g14 => grdV t55 true (vMov t7 h g14) (g14 undefV h)) fun t57 h =>
joinG (fun g13 => grdV t55 true (cf f_codec_Reader_Left [t57] h g13) (g13 undefV h)) fun t58 h =>
joinG (fun g12 => grdV t55 true (vGtr t58 (.int .i64 0) h g12) (g12 undefV h)) fun t59 h =>
vPick t55 t59 (.bool .false) h fun t60 h =>
vIf t60 (
(fun (e10 : AV → AV → Hp → Prop) =>
cf f_codec_Reader_Bytes [t7] h fun t62 h =>
vAppend2 1 1 true t9 t62 h fun t65 h =>
vArith Go.Am.subI t8 (.int .i64 1) h fun t67 h =>
e10 t67 t65 h) fun t8_11 t9 h =>
ih9 t8_11 t9 h) (
e4 t9 h)
noncomputable def s_oplog_Log_loadL9 (cf : CallK) (fuel : Nat) (e4 : AV → Hp → Prop) (t0 : AV) (t7 : AV) (m : Nat) : AV → AV → Hp → Prop := Nat.rec (motive := fun _ => AV → AV → Hp → Prop) (fun _ _ _ => False) (fun _ ih => s_oplog_Log_loadL9B cf fuel e4 t0 t7 ih) m
theorem s_oplog_Log_loadL9_succ (cf : CallK) (fuel : Nat) (e4 : AV → Hp → Prop) (t0 : AV) (t7 : AV) (m : Nat) : s_oplog_Log_loadL9 cf fuel e4 t0 t7 (m + 1) = s_oplog_Log_loadL9B cf fuel e4 t0 t7 (s_oplog_Log_loadL9 cf fuel e4 t0 t7 m) := rfl
noncomputable def s_oplog_Log_loadL2B (cf : CallK) (fuel : Nat) (K : AV → Hp → Prop) (e1 : Hp → Prop) (t0 : AV) (t7 : AV) (ih2 : Hp → Prop) : Hp → Prop := fun h =>
cf f_codec_Reader_Left [t7] h fun t50 h =>
vGtr t50 (.int .i64 0) h fun t51 h =>
vIf t51 (
(fun (e3 : Hp → Prop) =>
cf f_codec_Reader_Num [t7] h fun t53 h =>
(fun (e4 : AV → Hp → Prop) =>
s_oplog_Log_loadL9 cf fuel (s_oplog_Log_loadE4 cf fuel K (s_oplog_Log_loadE3 cf fuel ih2 t0 t7) t0 t7) t0 t7 fuel t53 .nilslice h) (s_oplog_Log_loadE4 cf fuel K (s_oplog_Log_loadE3 cf fuel ih2 t0 t7) t0 t7)) (s_oplog_Log_loadE3 cf fuel ih2 t0 t7)) (
e1 h)
noncomputable def s_oplog_Log_loadL2 (cf : CallK) (fuel : Nat) (K : AV → Hp → Prop) (e1 : Hp → Prop) (t0 : AV) (t7 : AV) (m : Nat) : Hp → Prop := Nat.rec (motive := fun _ => Hp → Prop) (fun _ => False) (fun _ ih => s_oplog_Log_loadL2B cf fuel K e1 t0 t7 ih) m
theorem s_oplog_Log_loadL2_succ (cf : CallK) (fuel : Nat) (K : AV → Hp → Prop) (e1 : Hp → Prop) (t0 : AV) (t7 : AV) (m : Nat) : s_oplog_Log_loadL2 cf fuel K e1 t0 t7 (m + 1) = s_oplog_Log_loadL2B cf fuel K e1 t0 t7 (s_oplog_Log_loadL2 cf fuel K e1 t0 t7 m) := rfl
noncomputable def s_oplog_Log_loadE0 (cf : CallK) (fuel : Nat) (K : AV → Hp → Prop) (t0 : AV) : AV → Hp → Prop := fun t3 h =>
vNilck t0 h fun t44 h =>
vFaddr 69 t44 h fun t45 h =>
vLoad2 t45 h fun t46 h =>
vSlice2 1 t3 none (some t46) h fun t47 h =>
cf f_codec_NewReader [t47] h fun t48 h =>
(fun (e1 : Hp → Prop) =>
s_oplog_Log_loadL2 cf fuel K (s_oplog_Log_loadE1 cf fuel K t48) t0 t48 fuel h) (s_oplog_Log_loadE1 cf fuel K t48)
noncomputable def s_oplog_Log_loadB21 (cf : CallK) (fuel : Nat) (K : AV → Hp → Prop) (ih15 : AV → AV → Hp → Prop) (t0 : AV) (t3 : AV) (t4 : AV) (h : Hp) : Prop :=
(fun (e16 : AV → Hp → Prop) =>
vNilck t0 h fun t24 h =>
vFaddr 0 t24 h fun t25 h =>
vLoad2 t25 h fun t26 h =>
cf f_oplog_file [t4] h fun t28 h =>
vLoad2 t25 h fun c _ => gd (sameV c t26) (
cf f_localfs_FS_Read [t26, t28, (.int .i64 0), (.int .i64 32768)] h fun t29 h =>
vExtract 0 t29 h fun t30 h =>
vExtract 1 t29 h fun t31 h =>
vNeq t31 (.int .i64 0) h fun t33 h =>
joinG (fun g19 => grdV t33 false (vMov t30 h g19) (g19 undefV h)) fun t35 h =>
joinG (fun g18 => grdV t33 false (vLenL2 t35 h g18) (g18 undefV h)) fun t36 h =>
joinG (fun g17 => grdV t33 false (vEql t36 (.int .i64 0) h g17) (g17 undefV h)) fun t37 h =>
vPick t33 (.bool .true) t37 h fun t38 h =>
vIf t38 (
K (.int .i64 74) h) (
vAppend2 1 1 true t3 t30 h fun t41 h =>
e16 t41 h))) fun t3_20 h =>
vAdd t4 (.int .i64 1) h fun t21 h =>
ih15 t3_20 t21 h
noncomputable def s_oplog_Log_loadL15B (cf : CallK) (fuel : Nat) (K : AV → Hp → Prop) (e0 : AV → Hp → Prop) (t0 : AV) (ih15 : AV → AV → Hp → Prop) : AV → AV → Hp → Prop := fun t3 t4 h =>
vLenL2 t3 h fun t14 h =>
vNilck t0 h fun t16 h =>
vFaddr 69 t16 h fun t17 h =>
vLoad2 t17 h fun t18 h =>
vLss t14 t18 h fun t19 h =>
vIf t19 (
s_oplog_Log_loadB21 cf fuel K ih15 t0 t3 t4 h) (
e0 t3 h)
noncomputable def s_oplog_Log_loadL15 (cf : CallK) (fuel : Nat) (K : AV → Hp → Prop) (e0 : AV → Hp → Prop) (t0 : AV) (m : Nat) : AV → AV → Hp → Prop := Nat.rec (motive := fun _ => AV → AV → Hp → Prop) (fun _ _ _ => False) (fun _ ih => s_oplog_Log_loadL15B cf fuel K e0 t0 ih) m
theorem s_oplog_Log_loadL15_succ (cf : CallK) (fuel : Nat) (K : AV → Hp → Prop) (e0 : AV → Hp → Prop) (t0 : AV) (m : Nat) : s_oplog_Log_loadL15 cf fuel K e0 t0 (m + 1) = s_oplog_Log_loadL15B cf fuel K e0 t0 (s_oplog_Log_loadL15 cf fuel K e0 t0 m) := rfl
noncomputable def s_oplog_Log_load (cf : CallK) (fuel : Nat) (t0 : AV) (h : Hp) (K : AV → Hp → Prop) : Prop :=
(fun (e0 : AV → Hp → Prop) =>
s_oplog_Log_loadL15 cf fuel K (s_oplog_Log_loadE0 cf fuel K t0) t0 fuel .nilslice (.int .i64 0) h) (s_oplog_Log_loadE0 cf fuel K t0)
theorem s_oplog_Log_load_eq (cf : CallK) (fuel : Nat) (t0 : AV) (h : Hp) (K : AV → Hp → Prop) : s_oplog_Log_load cf fuel t0 h K = deepT (tabOf Tryz.prog) f_oplog_Log_load cf fuel [t0] h K :=
  Eq.trans (by kernel_rfl) (rFun (by kernel_rfl) (rSeq (by kernel_rfl) (rSeq (by kernel_rfl) (rSeq (by kernel_rfl) (rSeq (by kernel_rfl) (rSeq (by kernel_rfl) rExact (rBlock (by kernel_rfl) (rLoop (by kernel_rfl) (fun m2 fr h => s_oplog_Log_loadL2 cf fuel K (s_oplog_Log_loadE1 cf fuel K (getS fr (gpos 7))) (getS fr (gpos 0)) (getS fr (gpos 7)) m2 h) (funext fun fr => funext fun h => by kernel_rfl) fun m2 => rCast (funext fun fr => funext fun h => by kernel_rfl) (rSeq (by kernel_rfl) (rBlock (by kernel_rfl) (rSeq (by kernel_rfl) (rSeq (by kernel_rfl) (rSeq (by kernel_rfl) rExact (rBlock (by kernel_rfl) (rLoop (by kernel_rfl) (fun m9 fr h => s_oplog_Log_loadL9 cf fuel (s_oplog_Log_loadE4 cf fuel K (s_oplog_Log_loadE3 cf fuel (s_oplog_Log_loadL2 cf fuel K (s_oplog_Log_loadE1 cf fuel K (getS fr (gpos 7))) (getS fr (gpos 0)) (getS fr (gpos 7)) m2) (getS fr (gpos 0)) (getS fr (gpos 7))) (getS fr (gpos 0)) (getS fr (gpos 7))) (getS fr (gpos 0)) (getS fr (gpos 7)) m9 (getS fr (gpos 8)) (getS fr (gpos 9)) h) (funext fun fr => funext fun h => by kernel_rfl) fun m9 => rCast (funext fun fr => funext fun h => by kernel_rfl) rExact))) rExact) rExact)) rExact)))) rExact) (rSeq (by kernel_rfl) (rBlock (by kernel_rfl) (rLoop (by kernel_rfl) (fun m15 fr h => s_oplog_Log_loadL15 cf fuel K (s_oplog_Log_loadE0 cf fuel K (getS fr (gpos 0))) (getS fr (gpos 0)) m15 (getS fr (gpos 3)) (getS fr (gpos 4)) h) (funext fun fr => funext fun h => by kernel_rfl) fun m15 => rCast (funext fun fr => funext fun h => by kernel_rfl) rExact)) rExact)) rExact) rExact))

noncomputable def s_oplog_Log_Meta (cf : CallK) (fuel : Nat) (t0 : AV) (h : Hp) (K : AV → Hp → Prop) : Prop :=
vEq false eqP t0 .nilptr h fun t4 h =>
vIf t4 (
K .nilslice h) (
vNilck t0 h fun t6 h =>
vFaddr 68 t6 h fun t7 h =>
vLoad2 t7 h fun t8 h =>
cf f_bytes_Clone [t8] h fun t9 h =>
K t9 h)
theorem s_oplog_Log_Meta_eq (cf : CallK) (fuel : Nat) (t0 : AV) (h : Hp) (K : AV → Hp → Prop) : s_oplog_Log_Meta cf fuel t0 h K = deepT (tabOf Tryz.prog) f_oplog_Log_Meta cf fuel [t0] h K :=
  Eq.trans (by kernel_rfl) (rFun (by kernel_rfl) rExact)

noncomputable def s_clock_node (cf : CallK) (fuel : Nat) (t0 : AV) (h : Hp) (K : AV → Hp → Prop) : Prop :=
vGeq t0 (.int .i64 0) h fun t4 h =>
joinG (fun g1 => grdV t4 true (vMov t0 h g1) (g1 undefV h)) fun t6 h =>
joinG (fun g0 => grdV t4 true (vLss t6 (.int .i64 64) h g0) (g0 undefV h)) fun t7 h =>
vPick t4 t7 (.bool .false) h fun t8 h =>
K t8 h
theorem s_clock_node_eq (cf : CallK) (fuel : Nat) (t0 : AV) (h : Hp) (K : AV → Hp → Prop) : s_clock_node cf fuel t0 h K = deepT (tabOf Tryz.prog) f_clock_node cf fuel [t0] h K :=
  Eq.trans (by kernel_rfl) (rFun (by kernel_rfl) rExact)

noncomputable def s_view_New (cf : CallK) (fuel : Nat) (h : Hp) (K : AV → Hp → Prop) : Prop :=
cf f_movetree_New [] h fun t1 h =>
vMkMap h fun t2 h =>
vBuild [.nilptr, .nilmap, (.int .i64 0)] [(0, 1, t1), (1, 1, t2)] h fun t3 h =>
vBox 3 t3 h fun t4 h =>
K t4 h
theorem s_view_New_eq (cf : CallK) (fuel : Nat) (h : Hp) (K : AV → Hp → Prop) : s_view_New cf fuel h K = deepT (tabOf Tryz.prog) f_view_New cf fuel [] h K :=
  Eq.trans (by kernel_rfl) (rFun (by kernel_rfl) rExact)

noncomputable def s_fds_New (cf : CallK) (fuel : Nat) (h : Hp) (K : AV → Hp → Prop) : Prop :=
vBuild [.nilslice, .nilslice] [] h fun t1 h =>
vBox 2 t1 h fun t2 h =>
K t2 h
theorem s_fds_New_eq (cf : CallK) (fuel : Nat) (h : Hp) (K : AV → Hp → Prop) : s_fds_New cf fuel h K = deepT (tabOf Tryz.prog) f_fds_New cf fuel [] h K :=
  Eq.trans (by kernel_rfl) (rFun (by kernel_rfl) rExact)

noncomputable def s_vector_Norm (cf : CallK) (fuel : Nat) (t0 : AV) (h : Hp) (K : AV → Hp → Prop) : Prop :=
vFunc 178 [t0] [] h fun t4 h =>
cf f_vector_made [t4] h fun t5 h =>
K t5 h
theorem s_vector_Norm_eq (cf : CallK) (fuel : Nat) (t0 : AV) (h : Hp) (K : AV → Hp → Prop) : s_vector_Norm cf fuel t0 h K = deepT (tabOf Tryz.prog) f_vector_Norm cf fuel [t0] h K :=
  Eq.trans (by kernel_rfl) (rFun (by kernel_rfl) rExact)

noncomputable def s_vector_At (cf : CallK) (fuel : Nat) (t0 : AV) (t1 : AV) (h : Hp) (K : AV → Hp → Prop) : Prop :=
vLss t1 (.int .i64 0) h fun t6 h =>
joinG (fun g14 => grdV t6 false (vMov t1 h g14) (g14 undefV h)) fun t8 h =>
joinG (fun g13 => grdV t6 false (vMov t0 h g13) (g13 undefV h)) fun t9 h =>
joinG (fun g12 => grdV t6 false (vLenL2 t9 h g12) (g12 undefV h)) fun t10 h =>
joinG (fun g11 => grdV t6 false (vMin false t10 (.int .i64 64) h g11) (g11 undefV h)) fun t11 h =>
joinG (fun g10 => grdV t6 false (vGeq t8 t11 h g10) (g10 undefV h)) fun t12 h =>
vPick t6 (.bool .true) t12 h fun t13 h =>
joinG (fun g9 => grdV t13 false (vMov t0 h g9) (g9 undefV h)) fun t15 h =>
joinG (fun g8 => grdV t13 false (vMov t1 h g8) (g8 undefV h)) fun t16 h =>
joinG (fun g7 => grdV t13 false (vIaddr 1 t15 t16 h g7) (g7 undefV h)) fun t17 h =>
joinG (fun g6 => grdV t13 false (vLoad2 t17 h g6) (g6 undefV h)) fun t18 h =>
joinG (fun g5 => grdV t13 false (vLss t18 (.int .i64 0) h g5) (g5 undefV h)) fun t19 h =>
vPick t13 (.bool .true) t19 h fun t20 h =>
joinG (fun g4 => grdV t20 false (vMov t0 h g4) (g4 undefV h)) fun t22 h =>
joinG (fun g3 => grdV t20 false (vMov t1 h g3) (g3 undefV h)) fun t23 h =>
joinG (fun g2 => grdV t20 false (vIaddr 1 t22 t23 h g2) (g2 undefV h)) fun t24 h =>
joinG (fun g1 => grdV t20 false (vLoad2 t24 h g1) (g1 undefV h)) fun t25 h =>
joinG (fun g0 => grdV t20 false (vGtr t25 (.int .i64 1152921504606846976) h g0) (g0 undefV h)) fun t26 h =>
vPick t20 (.bool .true) t26 h fun t27 h =>
vIf t27 (
K (.int .i64 0) h) (
vIaddr 1 t0 t1 h fun t30 h =>
vLoad2 t30 h fun t31 h =>
K t31 h)
theorem s_vector_At_eq (cf : CallK) (fuel : Nat) (t0 : AV) (t1 : AV) (h : Hp) (K : AV → Hp → Prop) : s_vector_At cf fuel t0 t1 h K = deepT (tabOf Tryz.prog) f_vector_At cf fuel [t0, t1] h K :=
  Eq.trans (by kernel_rfl) (rFun (by kernel_rfl) rExact)

noncomputable def s_container_heap_Push (cf : CallK) (fuel : Nat) (t0 : AV) (t1 : AV) (h : Hp) (K : AV → Hp → Prop) : Prop :=
vCallM t0 (selOf Tryz.prog "Push") [t1] cf h fun t6 h =>
vCallM t0 (selOf Tryz.prog "Len") [] cf h fun t9 h =>
vArith Go.Am.subI t9 (.int .i64 1) h fun t10 h =>
cf f_container_heap_up [t0, t10] h fun t11 h =>
K (.tup []) h
theorem s_container_heap_Push_eq (cf : CallK) (fuel : Nat) (t0 : AV) (t1 : AV) (h : Hp) (K : AV → Hp → Prop) : s_container_heap_Push cf fuel t0 t1 h K = deepT (tabOf Tryz.prog) f_container_heap_Push cf fuel [t0, t1] h K :=
  Eq.trans (by kernel_rfl) (rFun (by kernel_rfl) rExact)

noncomputable def s_oplog_rests_Len (cf : CallK) (fuel : Nat) (t0 : AV) (h : Hp) (K : AV → Hp → Prop) : Prop :=
vLenL2 t0 h fun t4 h =>
K t4 h
theorem s_oplog_rests_Len_eq (cf : CallK) (fuel : Nat) (t0 : AV) (h : Hp) (K : AV → Hp → Prop) : s_oplog_rests_Len cf fuel t0 h K = deepT (tabOf Tryz.prog) f_oplog_rests_Len cf fuel [t0] h K :=
  Eq.trans (by kernel_rfl) (rFun (by kernel_rfl) rExact)

noncomputable def s_container_heap_Pop (cf : CallK) (fuel : Nat) (t0 : AV) (h : Hp) (K : AV → Hp → Prop) : Prop :=
vCallM t0 (selOf Tryz.prog "Len") [] cf h fun t5 h =>
vArith Go.Am.subI t5 (.int .i64 1) h fun t6 h =>
vCallM t0 (selOf Tryz.prog "Swap") [(.int .i64 0), t6] cf h fun t9 h =>
cf f_container_heap_down [t0, (.int .i64 0), t6] h fun t12 h =>
vCallM t0 (selOf Tryz.prog "Pop") [] cf h fun t14 h =>
K t14 h
theorem s_container_heap_Pop_eq (cf : CallK) (fuel : Nat) (t0 : AV) (h : Hp) (K : AV → Hp → Prop) : s_container_heap_Pop cf fuel t0 h K = deepT (tabOf Tryz.prog) f_container_heap_Pop cf fuel [t0] h K :=
  Eq.trans (by kernel_rfl) (rFun (by kernel_rfl) rExact)

noncomputable def s_ops_Copy (cf : CallK) (fuel : Nat) (t0 : AV) (h : Hp) (K : AV → Hp → Prop) : Prop :=
vBox 11 t0 h fun t1 h =>
vBox 11 (.agg [(.int .i64 0), (.int .i64 0), (.int .i64 0), (.int .i64 0), (.int .i64 0), (.int .i64 0), (.int .i64 0), (.int .i64 0), (.str 0 0), .nilslice, .nilslice]) h fun t2 h =>
vFaddr 9 t1 h fun t3 h =>
vLoad2 t3 h fun t4 h =>
vFaddr 10 t1 h fun t6 h =>
vLoad2 t6 h fun t7 h =>
cf f_bytes_Clone [t4] h fun t5 h =>
vLoad2 t6 h fun c _ => gd (sameV c t7) (
vFaddr 9 t1 h fun t9 h =>
vAppend2 1 8 false .nilslice t7 h fun t8 h =>
vStore 1 t9 t5 h fun _ h =>
vFaddr 10 t1 h fun t10 h =>
vStore 1 t10 t8 h fun _ h =>
vLoadA 11 t1 h fun t11 h =>
vStore 11 t2 t11 h fun _ h =>
vLoadA 11 t2 h fun r0 _ => K r0 h)
theorem s_ops_Copy_eq (cf : CallK) (fuel : Nat) (t0 : AV) (h : Hp) (K : AV → Hp → Prop) : s_ops_Copy cf fuel t0 h K = deepT (tabOf Tryz.prog) f_ops_Copy cf fuel [t0] h K :=
  Eq.trans (by kernel_rfl) (rFun (by kernel_rfl) rExact)

noncomputable def s_vfs_FS_LoadB0 (cf : CallK) (fuel : Nat) (K : AV → Hp → Prop) (t0 : AV) (t3 : AV) (h : Hp) : Prop :=
vNilck t0 h fun t48 h =>
vFaddr 3 t48 h fun t49 h =>
vLoad2 t49 h fun t50 h =>
vFaddr 0 t3 h fun t51 h =>
vFaddr 1 t51 h fun t52 h =>
vLoad2 t52 h fun t53 h =>
vFaddr 2 t3 h fun t54 h =>
vLoad2 t54 h fun t55 h =>
cf f_vector_With [t50, t53, t55] h fun t56 h =>
vNilck t0 h fun t57 h =>
vFaddr 3 t57 h fun t58 h =>
vStore 1 t58 t56 h fun _ h =>
vNilck t0 h fun t60 h =>
vFaddr 1 t60 h fun t61 h =>
vLoad2 t61 h fun t62 h =>
vFaddr 0 t3 h fun t63 h =>
vLoadA 2 t63 h fun t64 h =>
cf f_clock_Clock_See [t62, t64] h fun t65 h =>
K (.int .i64 0) h
noncomputable def s_vfs_FS_Load (cf : CallK) (fuel : Nat) (t0 : AV) (t1 : AV) (h : Hp) (K : AV → Hp → Prop) : Prop :=
vBox 11 t1 h fun t3 h =>
vEq false eqP t0 .nilptr h fun t7 h =>
joinG (fun g24 => grdV t7 false (vLoadA 11 t3 h g24) (g24 undefV h)) fun t9 h =>
joinG (fun g23 => grdV t7 false (cf f_ops_May [t9] h g23) (g23 undefV h)) fun t10 h =>
joinG (fun g22 => grdV t7 false (vNot t10 h g22) (g22 undefV h)) fun t11 h =>
vPick t7 (.bool .true) t11 h fun t12 h =>
joinG (fun g21 => grdV t12 false (vFaddr 2 t3 h g21) (g21 undefV h)) fun t14 h =>
joinG (fun g20 => grdV t12 false (vLoad2 t14 h g20) (g20 undefV h)) fun t15 h =>
joinG (fun g19 => grdV t12 false (vMov t0 h g19) (g19 undefV h)) fun t16 h =>
joinG (fun g18 => grdV t12 false (vNilck t16 h g18) (g18 undefV h)) fun t17 h =>
joinG (fun g17 => grdV t12 false (vFaddr 3 t17 h g17) (g17 undefV h)) fun t18 h =>
joinG (fun g16 => grdV t12 false (vLoad2 t18 h g16) (g16 undefV h)) fun t19 h =>
joinG (fun g15 => grdV t12 false (vFaddr 0 t3 h g15) (g15 undefV h)) fun t20 h =>
joinG (fun g14 => grdV t12 false (vFaddr 1 t20 h g14) (g14 undefV h)) fun t21 h =>
joinG (fun g13 => grdV t12 false (vLoad2 t21 h g13) (g13 undefV h)) fun t22 h =>
joinG (fun g12 => grdV t12 false (cf f_vector_At [t19, t22] h g12) (g12 undefV h)) fun t23 h =>
joinP (fun g11 => grdV t12 false (vLoad2 t14 h fun c _ => gd (sameV c t15) g11) g11) (
joinG (fun g10 => grdV t12 false (vAdd t23 (.int .i64 1) h g10) (g10 undefV h)) fun t24 h =>
joinG (fun g9 => grdV t12 false (vNeq t15 t24 h g9) (g9 undefV h)) fun t25 h =>
vPick t12 (.bool .true) t25 h fun t26 h =>
joinG (fun g8 => grdV t26 false (vFaddr 10 t3 h g8) (g8 undefV h)) fun t28 h =>
joinG (fun g7 => grdV t26 false (vLoad2 t28 h g7) (g7 undefV h)) fun t29 h =>
joinG (fun g6 => grdV t26 false (vMov t0 h g6) (g6 undefV h)) fun t30 h =>
joinG (fun g5 => grdV t26 false (vNilck t30 h g5) (g5 undefV h)) fun t31 h =>
joinG (fun g4 => grdV t26 false (vFaddr 3 t31 h g4) (g4 undefV h)) fun t32 h =>
joinG (fun g3 => grdV t26 false (vLoad2 t32 h g3) (g3 undefV h)) fun t33 h =>
joinG (fun g2 => grdV t26 false (cf f_vector_Leq [t29, t33] h g2) (g2 undefV h)) fun t34 h =>
joinG (fun g1 => grdV t26 false (vNot t34 h g1) (g1 undefV h)) fun t35 h =>
vPick t26 (.bool .true) t35 h fun t36 h =>
vIf t36 (
K (.int .i64 22) h) (
vNilck t0 h fun t38 h =>
vFaddr 2 t38 h fun t39 h =>
vLoad2 t39 h fun t40 h =>
vLoadA 11 t3 h fun t41 h =>
cf f_view_View_Apply [t40, t41] h fun t42 h =>
vNeq t42 (.int .i64 0) h fun t44 h =>
vIf t44 (
K t42 h) (
s_vfs_FS_LoadB0 cf fuel K t0 t3 h)))
theorem s_vfs_FS_Load_eq (cf : CallK) (fuel : Nat) (t0 : AV) (t1 : AV) (h : Hp) (K : AV → Hp → Prop) : s_vfs_FS_Load cf fuel t0 t1 h K = deepT (tabOf Tryz.prog) f_vfs_FS_Load cf fuel [t0, t1] h K :=
  Eq.trans (by kernel_rfl) (rFun (by kernel_rfl) rExact)

noncomputable def s_oplog_Log_Get (cf : CallK) (fuel : Nat) (t0 : AV) (t1 : AV) (t2 : AV) (h : Hp) (K : AV → Hp → Prop) : Prop :=
vBox 11 (.agg [(.int .i64 0), (.int .i64 0), (.int .i64 0), (.int .i64 0), (.int .i64 0), (.int .i64 0), (.int .i64 0), (.int .i64 0), (.str 0 0), .nilslice, .nilslice]) h fun t6 h =>
vEq false eqP t0 .nilptr h fun t9 h =>
joinG (fun g14 => grdV t9 false (vMov t1 h g14) (g14 undefV h)) fun t11 h =>
joinG (fun g13 => grdV t9 false (vLss t11 (.int .i64 0) h g13) (g13 undefV h)) fun t12 h =>
vPick t9 (.bool .true) t12 h fun t13 h =>
joinG (fun g12 => grdV t13 false (vMov t1 h g12) (g12 undefV h)) fun t15 h =>
joinG (fun g11 => grdV t13 false (vGeq t15 (.int .i64 64) h g11) (g11 undefV h)) fun t16 h =>
vPick t13 (.bool .true) t16 h fun t17 h =>
joinG (fun g10 => grdV t17 false (vMov t2 h g10) (g10 undefV h)) fun t19 h =>
joinG (fun g9 => grdV t17 false (vLss t19 (.int .i64 1) h g9) (g9 undefV h)) fun t20 h =>
vPick t17 (.bool .true) t20 h fun t21 h =>
joinG (fun g8 => grdV t21 false (vMov t2 h g8) (g8 undefV h)) fun t23 h =>
joinG (fun g7 => grdV t21 false (vMov t0 h g7) (g7 undefV h)) fun t24 h =>
joinG (fun g6 => grdV t21 false (vMov t1 h g6) (g6 undefV h)) fun t25 h =>
joinG (fun g5 => grdV t21 false (vNilck t24 h g5) (g5 undefV h)) fun t26 h =>
joinG (fun g4 => grdV t21 false (vFaddr 2 t26 h g4) (g4 undefV h)) fun t27 h =>
joinG (fun g3 => grdV t21 false (vIaddrA 1 64 t27 t25 h g3) (g3 undefV h)) fun t28 h =>
joinG (fun g2 => grdV t21 false (vLoad2 t28 h g2) (g2 undefV h)) fun t29 h =>
joinG (fun g1 => grdV t21 false (vLenL2 t29 h g1) (g1 undefV h)) fun t30 h =>
joinG (fun g0 => grdV t21 false (vGtr t23 t30 h g0) (g0 undefV h)) fun t31 h =>
vPick t21 (.bool .true) t31 h fun t32 h =>
vIf t32 (
vBuild [(.int .i64 0), (.int .i64 0), (.int .i64 0), (.int .i64 0), (.int .i64 0), (.int .i64 0), (.int .i64 0), (.int .i64 0), (.str 0 0), .nilslice, .nilslice] [] h fun t33 h =>
vStore 11 t6 t33 h fun _ h =>
vLoadA 11 t6 h fun r0 _ => K (.tup [r0, (.bool .false)]) h) (
vNilck t0 h fun t36 h =>
vFaddr 2 t36 h fun t37 h =>
vIaddrA 1 64 t37 t1 h fun t38 h =>
vLoad2 t38 h fun t39 h =>
vArith Go.Am.subI t2 (.int .i64 1) h fun t41 h =>
vIaddr 11 t39 t41 h fun t42 h =>
vLoadA 11 t42 h fun t43 h =>
cf f_ops_Copy [t43] h fun t44 h =>
vStore 11 t6 t44 h fun _ h =>
vLoadA 11 t6 h fun r0 _ => K (.tup [r0, (.bool .true)]) h)
theorem s_oplog_Log_Get_eq (cf : CallK) (fuel : Nat) (t0 : AV) (t1 : AV) (t2 : AV) (h : Hp) (K : AV → Hp → Prop) : s_oplog_Log_Get cf fuel t0 t1 t2 h K = deepT (tabOf Tryz.prog) f_oplog_Log_Get cf fuel [t0, t1, t2] h K :=
  Eq.trans (by kernel_rfl) (rFun (by kernel_rfl) rExact)

noncomputable def s_slices_Sort_int_int (cf : CallK) (fuel : Nat) (t0 : AV) (h : Hp) (K : AV → Hp → Prop) : Prop :=
vLenL2 t0 h fun t4 h =>
vToInt .u64 t4 h fun t8 h =>
cf f_math_bits_Len [t8] h fun t9 h =>
cf f_slices_pdqsortOrdered_int [t0, (.int .i64 0), t4, t9] h fun t10 h =>
K (.tup []) h
theorem s_slices_Sort_int_int_eq (cf : CallK) (fuel : Nat) (t0 : AV) (h : Hp) (K : AV → Hp → Prop) : s_slices_Sort_int_int cf fuel t0 h K = deepT (tabOf Tryz.prog) f_slices_Sort_int_int cf fuel [t0] h K :=
  Eq.trans (by kernel_rfl) (rFun (by kernel_rfl) rExact)

noncomputable def s_wal_FormatE2 (cf : CallK) (fuel : Nat) (K : AV → Hp → Prop) : Hp → Prop := fun h =>
K (.int .i64 0) h
noncomputable def s_wal_FormatL3B (cf : CallK) (fuel : Nat) (K : AV → Hp → Prop) (e2 : Hp → Prop) (t52 : AV) (t53 : AV) (ih3 : AV → Hp → Prop) : AV → Hp → Prop := fun t54 h =>
vLss t54 t53 h fun t55 h =>
vIf t55 (
(fun (e4 : Hp → Prop) =>
vIaddr 1 t52 t54 h fun t56 h =>
vLoad2 t56 h fun t57 h =>
vNeq t57 (.int .i64 0) h fun t59 h =>
vIf t59 (
K t57 h) (
e4 h)) fun h =>
vAdd t54 (.int .i64 1) h fun t61 h =>
ih3 t61 h) (
e2 h)
noncomputable def s_wal_FormatL3 (cf : CallK) (fuel : Nat) (K : AV → Hp → Prop) (e2 : Hp → Prop) (t52 : AV) (t53 : AV) (m : Nat) : AV → Hp → Prop := Nat.rec (motive := fun _ => AV → Hp → Prop) (fun _ _ => False) (fun _ ih => s_wal_FormatL3B cf fuel K e2 t52 t53 ih) m
theorem s_wal_FormatL3_succ (cf : CallK) (fuel : Nat) (K : AV → Hp → Prop) (e2 : Hp → Prop) (t52 : AV) (t53 : AV) (m : Nat) : s_wal_FormatL3 cf fuel K e2 t52 t53 (m + 1) = s_wal_FormatL3B cf fuel K e2 t52 t53 (s_wal_FormatL3 cf fuel K e2 t52 t53 m) := rfl
noncomputable def s_wal_FormatE1 (cf : CallK) (fuel : Nat) (K : AV → Hp → Prop) (t0 : AV) : Hp → Prop := fun h =>
cf f_device_Device_Flush [t0] h fun t46 h =>
cf f_wal_head [(.int .i64 0), (.int .i64 0)] h fun t48 h =>
cf f_device_Device_Write [t0, (.int .i64 0), t48] h fun t49 h =>
cf f_device_Device_Flush [t0] h fun t51 h =>
vBslice 1 3 false [(.int .i64 0)] [(0, 1, t46), (1, 1, t49), (2, 1, t51)] h fun t52 h =>
vLenL2 t52 h fun t53 h =>
(fun (e2 : Hp → Prop) =>
s_wal_FormatL3 cf fuel K (s_wal_FormatE2 cf fuel K) t52 t53 fuel (.int .i64 0) h) (s_wal_FormatE2 cf fuel K)
noncomputable def s_wal_FormatL5B (cf : CallK) (fuel : Nat) (K : AV → Hp → Prop) (e1 : Hp → Prop) (t0 : AV) (t3 : AV) (t32 : AV) (ih5 : AV → Hp → Prop) : AV → Hp → Prop := fun t33 h =>
vLss t33 t32 h fun t34 h =>
vIf t34 (
(fun (e6 : Hp → Prop) =>
vAdd (.int .i64 8) t33 h fun t38 h =>
cf f_wal_wrote [t0, t38, t3] h fun t40 h =>
vNeq t40 (.int .i64 0) h fun t42 h =>
vIf t42 (
K t40 h) (
e6 h)) fun h =>
vAdd t33 (.int .i64 1) h fun t44 h =>
ih5 t44 h) (
e1 h)
noncomputable def s_wal_FormatL5 (cf : CallK) (fuel : Nat) (K : AV → Hp → Prop) (e1 : Hp → Prop) (t0 : AV) (t3 : AV) (t32 : AV) (m : Nat) : AV → Hp → Prop := Nat.rec (motive := fun _ => AV → Hp → Prop) (fun _ _ => False) (fun _ ih => s_wal_FormatL5B cf fuel K e1 t0 t3 t32 ih) m
theorem s_wal_FormatL5_succ (cf : CallK) (fuel : Nat) (K : AV → Hp → Prop) (e1 : Hp → Prop) (t0 : AV) (t3 : AV) (t32 : AV) (m : Nat) : s_wal_FormatL5 cf fuel K e1 t0 t3 t32 (m + 1) = s_wal_FormatL5B cf fuel K e1 t0 t3 t32 (s_wal_FormatL5 cf fuel K e1 t0 t3 t32 m) := rfl
noncomputable def s_wal_FormatE0 (cf : CallK) (fuel : Nat) (K : AV → Hp → Prop) (t0 : AV) (t3 : AV) : Hp → Prop := fun h =>
cf f_device_Device_Flush [t0] h fun t27 h =>
vNeq t27 (.int .i64 0) h fun t29 h =>
vIf t29 (
K t27 h) (
cf f_wal_room [t0] h fun t32 h =>
(fun (e1 : Hp → Prop) =>
s_wal_FormatL5 cf fuel K (s_wal_FormatE1 cf fuel K t0) t0 t3 t32 fuel (.int .i64 0) h) (s_wal_FormatE1 cf fuel K t0))
noncomputable def s_wal_FormatL7B (cf : CallK) (fuel : Nat) (K : AV → Hp → Prop) (e0 : Hp → Prop) (t0 : AV) (t3 : AV) (ih7 : AV → Hp → Prop) : AV → Hp → Prop := fun t15 h =>
vLss t15 (.int .i64 2) h fun t16 h =>
vIf t16 (
(fun (e8 : Hp → Prop) =>
cf f_wal_wrote [t0, t15, t3] h fun t21 h =>
vNeq t21 (.int .i64 0) h fun t23 h =>
vIf t23 (
K t21 h) (
e8 h)) fun h =>
vAdd t15 (.int .i64 1) h fun t25 h =>
ih7 t25 h) (
e0 h)
noncomputable def s_wal_FormatL7 (cf : CallK) (fuel : Nat) (K : AV → Hp → Prop) (e0 : Hp → Prop) (t0 : AV) (t3 : AV) (m : Nat) : AV → Hp → Prop := Nat.rec (motive := fun _ => AV → Hp → Prop) (fun _ _ => False) (fun _ ih => s_wal_FormatL7B cf fuel K e0 t0 t3 ih) m
theorem s_wal_FormatL7_succ (cf : CallK) (fuel : Nat) (K : AV → Hp → Prop) (e0 : Hp → Prop) (t0 : AV) (t3 : AV) (m : Nat) : s_wal_FormatL7 cf fuel K e0 t0 t3 (m + 1) = s_wal_FormatL7B cf fuel K e0 t0 t3 (s_wal_FormatL7 cf fuel K e0 t0 t3 m) := rfl
noncomputable def s_wal_Format (cf : CallK) (fuel : Nat) (t0 : AV) (h : Hp) (K : AV → Hp → Prop) : Prop :=
cf f_wal_room [t0] h fun t12 h =>
vEql t12 (.int .i64 0) h fun t13 h =>
vIf t13 (
K (.int .i64 22) h) (
vMkSlice 1 1 true [(.int .u8 0)] (.int .i64 512) (.int .i64 512) h fun t14 h =>
(fun (e0 : Hp → Prop) =>
s_wal_FormatL7 cf fuel K (s_wal_FormatE0 cf fuel K t0 t14) t0 t14 fuel (.int .i64 0) h) (s_wal_FormatE0 cf fuel K t0 t14))
theorem s_wal_Format_eq (cf : CallK) (fuel : Nat) (t0 : AV) (h : Hp) (K : AV → Hp → Prop) : s_wal_Format cf fuel t0 h K = deepT (tabOf Tryz.prog) f_wal_Format cf fuel [t0] h K :=
  Eq.trans (by kernel_rfl) (rFun (by kernel_rfl) (rSeq (by kernel_rfl) (rSeq (by kernel_rfl) (rSeq (by kernel_rfl) (rSeq (by kernel_rfl) (rSeq (by kernel_rfl) (rSeq (by kernel_rfl) (rSeq (by kernel_rfl) rExact (rSeq (by kernel_rfl) (rBlock (by kernel_rfl) (rLoop (by kernel_rfl) (fun m3 fr h => s_wal_FormatL3 cf fuel K (s_wal_FormatE2 cf fuel K) (getS fr (gpos 52)) (getS fr (gpos 53)) m3 (getS fr (gpos 54)) h) (funext fun fr => funext fun h => by kernel_rfl) fun m3 => rCast (funext fun fr => funext fun h => by kernel_rfl) rExact)) rExact)) (rSeq (by kernel_rfl) (rBlock (by kernel_rfl) (rLoop (by kernel_rfl) (fun m5 fr h => s_wal_FormatL5 cf fuel K (s_wal_FormatE1 cf fuel K (getS fr (gpos 0))) (getS fr (gpos 0)) (getS fr (gpos 3)) (getS fr (gpos 32)) m5 (getS fr (gpos 33)) h) (funext fun fr => funext fun h => by kernel_rfl) fun m5 => rCast (funext fun fr => funext fun h => by kernel_rfl) rExact)) rExact)) rExact) (rSeq (by kernel_rfl) (rBlock (by kernel_rfl) (rLoop (by kernel_rfl) (fun m7 fr h => s_wal_FormatL7 cf fuel K (s_wal_FormatE0 cf fuel K (getS fr (gpos 0)) (getS fr (gpos 3))) (getS fr (gpos 0)) (getS fr (gpos 3)) m7 (getS fr (gpos 15)) h) (funext fun fr => funext fun h => by kernel_rfl) fun m7 => rCast (funext fun fr => funext fun h => by kernel_rfl) rExact)) rExact)) rExact) rExact) rExact))

noncomputable def s_localfs_FS_commitB2 (cf : CallK) (fuel : Nat) (K : AV → Hp → Prop) (t0 : AV) (t1 : AV) (t5 : AV) (h : Hp) : Prop :=
vNilck t0 h fun t72 h =>
vFaddr 2 t72 h fun t73 h =>
vStore 1 t73 t1 h fun _ h =>
(fun (j1 : AV → Hp → Prop) =>
vLenL2 t5 h fun t75 h =>
vNilck t0 h fun t77 h =>
vFaddr 3 t77 h fun t78 h =>
vLoad2 t78 h fun t79 h =>
vLenL2 t79 h fun t80 h =>
vLss t75 t80 h fun t81 h =>
vIf t81 (
vNilck t0 h fun t84 h =>
vFaddr 3 t84 h fun t85 h =>
vLoad2 t85 h fun t86 h =>
vLenL2 t5 h fun t88 h =>
vSlice2 1 t86 (some t88) none h fun t89 h =>
vAppend2 1 1 true t5 t89 h fun t90 h =>
j1 t90 h) (
j1 t5 h)) fun t5 h =>
vNilck t0 h fun t93 h =>
vFaddr 3 t93 h fun t94 h =>
vStore 1 t94 t5 h fun _ h =>
K (.int .i64 0) h
noncomputable def s_localfs_FS_commitE0 (cf : CallK) (fuel : Nat) (K : AV → Hp → Prop) (t0 : AV) (t1 : AV) (t5 : AV) : AV → Hp → Prop := fun t6 h =>
vNilck t0 h fun t63 h =>
vFaddr 0 t63 h fun t64 h =>
vLoad2 t64 h fun t65 h =>
cf f_wal_Volume_Commit [t65, t6] h fun t67 h =>
vNeq t67 (.int .i64 0) h fun t69 h =>
vIf t69 (
K (.int .i64 5) h) (
s_localfs_FS_commitB2 cf fuel K t0 t1 t5 h)
noncomputable def s_localfs_FS_commitB20 (cf : CallK) (fuel : Nat) (ih3 : AV → AV → Hp → Prop) (t5 : AV) (t7 : AV) (t0 : AV) (t6 : AV) (h : Hp) : Prop :=
(fun (e4 : AV → Hp → Prop) =>
vAdd t7 (.int .i64 512) h fun t27 h =>
vNilck t0 h fun t29 h =>
vFaddr 3 t29 h fun t30 h =>
vLoad2 t30 h fun t31 h =>
vLenL2 t31 h fun t32 h =>
vGtr t27 t32 h fun t33 h =>
joinG (fun g19 => grdV t33 false (vMov t5 h g19) (g19 undefV h)) fun t35 h =>
joinG (fun g18 => grdV t33 false (vMov t7 h g18) (g18 undefV h)) fun t36 h =>
joinG (fun g17 => grdV t33 false (vMov t7 h g17) (g17 undefV h)) fun t37 h =>
joinG (fun g16 => grdV t33 false (vAdd t37 (.int .i64 512) h g16) (g16 undefV h)) fun t38 h =>
joinG (fun g15 => grdV t33 false (vSlice2 1 t35 (some t36) (some t38) h g15) (g15 undefV h)) fun t39 h =>
joinG (fun g14 => grdV t33 false (vMov t0 h g14) (g14 undefV h)) fun t40 h =>
joinG (fun g13 => grdV t33 false (vNilck t40 h g13) (g13 undefV h)) fun t41 h =>
joinG (fun g12 => grdV t33 false (vFaddr 3 t41 h g12) (g12 undefV h)) fun t42 h =>
joinG (fun g11 => grdV t33 false (vLoad2 t42 h g11) (g11 undefV h)) fun t43 h =>
joinG (fun g10 => grdV t33 false (vMov t7 h g10) (g10 undefV h)) fun t44 h =>
joinG (fun g9 => grdV t33 false (vMov t7 h g9) (g9 undefV h)) fun t45 h =>
joinG (fun g8 => grdV t33 false (vAdd t45 (.int .i64 512) h g8) (g8 undefV h)) fun t46 h =>
joinG (fun g7 => grdV t33 false (vSlice2 1 t43 (some t44) (some t46) h g7) (g7 undefV h)) fun t47 h =>
joinG (fun g6 => grdV t33 false (cf f_bytes_Equal [t39, t47] h g6) (g6 undefV h)) fun t48 h =>
joinG (fun g5 => grdV t33 false (vNot t48 h g5) (g5 undefV h)) fun t49 h =>
vPick t33 (.bool .true) t49 h fun t50 h =>
vIf t50 (
vDiv false t7 (.int .i64 512) h fun t53 h =>
vAdd t7 (.int .i64 512) h fun t57 h =>
vSlice2 1 t5 (some t7) (some t57) h fun t58 h =>
vBuild [(.int .i64 0), .nilslice] [(0, 1, t53), (1, 1, t58)] h fun t59 h =>
vBslice 2 1 false [(.int .i64 0), .nilslice] [(0, 2, t59)] h fun t60 h =>
vAppend2 2 32 false t6 t60 h fun t61 h =>
e4 t61 h) (
e4 t6 h)) fun t6 h =>
vAdd t7 (.int .i64 512) h fun t25 h =>
ih3 t6 t25 h
noncomputable def s_localfs_FS_commitL3B (cf : CallK) (fuel : Nat) (e0 : AV → Hp → Prop) (t0 : AV) (t1 : AV) (t5 : AV) (ih3 : AV → AV → Hp → Prop) : AV → AV → Hp → Prop := fun t6 t7 h =>
vLenL2 t5 h fun t22 h =>
vLss t7 t22 h fun t23 h =>
vIf t23 (
s_localfs_FS_commitB20 cf fuel ih3 t5 t7 t0 t6 h) (
e0 t6 h)
noncomputable def s_localfs_FS_commitL3 (cf : CallK) (fuel : Nat) (e0 : AV → Hp → Prop) (t0 : AV) (t1 : AV) (t5 : AV) (m : Nat) : AV → AV → Hp → Prop := Nat.rec (motive := fun _ => AV → AV → Hp → Prop) (fun _ _ _ => False) (fun _ ih => s_localfs_FS_commitL3B cf fuel e0 t0 t1 t5 ih) m
theorem s_localfs_FS_commitL3_succ (cf : CallK) (fuel : Nat) (e0 : AV → Hp → Prop) (t0 : AV) (t1 : AV) (t5 : AV) (m : Nat) : s_localfs_FS_commitL3 cf fuel e0 t0 t1 t5 (m + 1) = s_localfs_FS_commitL3B cf fuel e0 t0 t1 t5 (s_localfs_FS_commitL3 cf fuel e0 t0 t1 t5 m) := rfl
noncomputable def s_localfs_FS_commit (cf : CallK) (fuel : Nat) (t0 : AV) (t1 : AV) (h : Hp) (K : AV → Hp → Prop) : Prop :=
vBslice 1 15 true [(.int .u8 0)] [(0, 1, (.int .u8 108)), (1, 1, (.int .u8 97)), (2, 1, (.int .u8 103)), (3, 1, (.int .u8 111)), (4, 1, (.int .u8 111)), (5, 1, (.int .u8 110)), (6, 1, (.int .u8 39)), (7, 1, (.int .u8 115)), (8, 1, (.int .u8 32)), (9, 1, (.int .u8 102)), (10, 1, (.int .u8 105)), (11, 1, (.int .u8 108)), (12, 1, (.int .u8 101)), (13, 1, (.int .u8 115)), (14, 1, (.int .u8 10))] h fun t10 h =>
vStrish t10 h fun t11 h =>
cf f_localfs_object_write [t1, t11] h fun t12 h =>
vLenL2 t12 h fun t15 h =>
vDiv true t15 (.int .i64 512) h fun t16 h =>
vArith Go.Am.subI (.int .i64 512) t16 h fun t17 h =>
vDiv true t17 (.int .i64 512) h fun t18 h =>
vAppendZ 1 1 true [(.int .u8 0)] t12 t18 h fun t19 h =>
(fun (e0 : AV → Hp → Prop) =>
s_localfs_FS_commitL3 cf fuel (s_localfs_FS_commitE0 cf fuel K t0 t1 t19) t0 t1 t19 fuel .nilslice (.int .i64 0) h) (s_localfs_FS_commitE0 cf fuel K t0 t1 t19)
theorem s_localfs_FS_commit_eq (cf : CallK) (fuel : Nat) (t0 : AV) (t1 : AV) (h : Hp) (K : AV → Hp → Prop) : s_localfs_FS_commit cf fuel t0 t1 h K = deepT (tabOf Tryz.prog) f_localfs_FS_commit cf fuel [t0, t1] h K :=
  Eq.trans (by kernel_rfl) (rFun (by kernel_rfl) (rSeq (by kernel_rfl) (rSeq (by kernel_rfl) (rSeq (by kernel_rfl) (rSeq (by kernel_rfl) (rSeq (by kernel_rfl) rExact (rSeq (by kernel_rfl) (rBlock (by kernel_rfl) (rLoop (by kernel_rfl) (fun m3 fr h => s_localfs_FS_commitL3 cf fuel (s_localfs_FS_commitE0 cf fuel K (getS fr (gpos 0)) (getS fr (gpos 1)) (getS fr (gpos 5))) (getS fr (gpos 0)) (getS fr (gpos 1)) (getS fr (gpos 5)) m3 (getS fr (gpos 6)) (getS fr (gpos 7)) h) (funext fun fr => funext fun h => by kernel_rfl) fun m3 => rCast (funext fun fr => funext fun h => by kernel_rfl) rExact)) rExact)) rExact) rExact) rExact) rExact))

noncomputable def s_localfs_folderE0 (cf : CallK) (fuel : Nat) (K : AV → Hp → Prop) (t5 : AV) : Hp → Prop := fun h =>
K t5 h
noncomputable def s_localfs_folderB7 (cf : CallK) (fuel : Nat) (ih1 : AV → Hp → Prop) (t5 : AV) (t24 : AV) (t26 : AV) (h : Hp) : Prop :=
(fun (e2 : Hp → Prop) =>
vIaddr 1 t24 t26 h fun t28 h =>
vLoad2 t28 h fun t29 h =>
vNilck t5 h fun t31 h =>
vFaddr 4 t31 h fun t32 h =>
vLoad2 t32 h fun t33 h =>
vNilck t29 h fun t35 h =>
vFaddr 4 t35 h fun t36 h =>
vLoad2 t36 h fun t37 h =>
vAdd t33 t37 h fun t38 h =>
vNilck t5 h fun t39 h =>
vFaddr 4 t39 h fun t40 h =>
vStore 1 t40 t38 h fun _ h =>
vNilck t5 h fun t43 h =>
vFaddr 5 t43 h fun t44 h =>
vLoad2 t44 h fun t45 h =>
joinG (fun g6 => grdV t45 false (vMov t29 h g6) (g6 undefV h)) fun t47 h =>
joinG (fun g5 => grdV t45 false (vNilck t47 h g5) (g5 undefV h)) fun t48 h =>
joinG (fun g4 => grdV t45 false (vFaddr 5 t48 h g4) (g4 undefV h)) fun t49 h =>
joinG (fun g3 => grdV t45 false (vLoad2 t49 h g3) (g3 undefV h)) fun t50 h =>
vPick t45 (.bool .true) t50 h fun t51 h =>
vNilck t5 h fun t52 h =>
vFaddr 5 t52 h fun t53 h =>
vStore 1 t53 t51 h fun _ h =>
e2 h) fun h =>
vAdd t26 (.int .i64 1) h fun t54 h =>
ih1 t54 h
noncomputable def s_localfs_folderL1B (cf : CallK) (fuel : Nat) (e0 : Hp → Prop) (t5 : AV) (t24 : AV) (t25 : AV) (ih1 : AV → Hp → Prop) : AV → Hp → Prop := fun t26 h =>
vLss t26 t25 h fun t27 h =>
vIf t27 (
s_localfs_folderB7 cf fuel ih1 t5 t24 t26 h) (
e0 h)
noncomputable def s_localfs_folderL1 (cf : CallK) (fuel : Nat) (e0 : Hp → Prop) (t5 : AV) (t24 : AV) (t25 : AV) (m : Nat) : AV → Hp → Prop := Nat.rec (motive := fun _ => AV → Hp → Prop) (fun _ _ => False) (fun _ ih => s_localfs_folderL1B cf fuel e0 t5 t24 t25 ih) m
theorem s_localfs_folderL1_succ (cf : CallK) (fuel : Nat) (e0 : Hp → Prop) (t5 : AV) (t24 : AV) (t25 : AV) (m : Nat) : s_localfs_folderL1 cf fuel e0 t5 t24 t25 (m + 1) = s_localfs_folderL1B cf fuel e0 t5 t24 t25 (s_localfs_folderL1 cf fuel e0 t5 t24 t25 m) := rfl
noncomputable def s_localfs_folder (cf : CallK) (fuel : Nat) (t0 : AV) (t1 : AV) (h : Hp) (K : AV → Hp → Prop) : Prop :=
vLenL2 t0 h fun t11 h =>
vAdd t11 (.int .i64 4) h fun t12 h =>
vArith Go.Am.subI t12 (.int .i64 1) h fun t13 h =>
vDiv false t13 (.int .i64 4) h fun t14 h =>
vAdd (.int .i64 2) t14 h fun t15 h =>
vBuild [(.bool .false), .nilslice, .nilslice, .nilslice, (.int .i64 0), (.bool .false)] [(0, 1, (.bool .true)), (2, 1, t0), (3, 1, t1), (4, 1, t15)] h fun t16 h =>
vBox 6 t16 h fun t17 h =>
vLenL2 t0 h fun t20 h =>
vGtr t20 (.int .i64 2048) h fun t21 h =>
vNilck t17 h fun t22 h =>
vFaddr 5 t22 h fun t23 h =>
vStore 1 t23 t21 h fun _ h =>
vLenL2 t1 h fun t25 h =>
(fun (e0 : Hp → Prop) =>
s_localfs_folderL1 cf fuel (s_localfs_folderE0 cf fuel K t17) t17 t1 t25 fuel (.int .i64 0) h) (s_localfs_folderE0 cf fuel K t17)
theorem s_localfs_folder_eq (cf : CallK) (fuel : Nat) (t0 : AV) (t1 : AV) (h : Hp) (K : AV → Hp → Prop) : s_localfs_folder cf fuel t0 t1 h K = deepT (tabOf Tryz.prog) f_localfs_folder cf fuel [t0, t1] h K :=
  Eq.trans (by kernel_rfl) (rFun (by kernel_rfl) (rSeq (by kernel_rfl) (rSeq (by kernel_rfl) (rSeq (by kernel_rfl) (rSeq (by kernel_rfl) rExact (rSeq (by kernel_rfl) (rBlock (by kernel_rfl) (rLoop (by kernel_rfl) (fun m1 fr h => s_localfs_folderL1 cf fuel (s_localfs_folderE0 cf fuel K (getS fr (gpos 5))) (getS fr (gpos 5)) (getS fr (gpos 24)) (getS fr (gpos 25)) m1 (getS fr (gpos 26)) h) (funext fun fr => funext fun h => by kernel_rfl) fun m1 => rCast (funext fun fr => funext fun h => by kernel_rfl) rExact)) rExact)) rExact) rExact) rExact))

noncomputable def s_vfs_call_findB1 (cf : CallK) (fuel : Nat) (K : AV → Hp → Prop) (t8 : AV) (t13 : AV) (t0 : AV) (t4 : AV) (h : Hp) : Prop :=
vLoadA 2 t8 h fun t44 h =>
vBuild [.nilslice, (.int .i64 0), (.int .i64 0), (.int .i64 0), (.int .i64 0), (.bool .false)] [(0, 1, t13), (1, 2, t44)] h fun t45 h =>
vBox 6 (.agg [.nilslice, (.int .i64 0), (.int .i64 0), (.int .i64 0), (.int .i64 0), (.bool .false)]) h fun t9 h =>
vStore 6 t9 t45 h fun _ h =>
vNilck t0 h fun t48 h =>
vFaddr 0 t48 h fun t49 h =>
vLoad2 t49 h fun t50 h =>
vNilck t50 h fun t51 h =>
vFaddr 2 t51 h fun t52 h =>
vLoad2 t52 h fun t53 h =>
cf f_view_View_Walk [t53, t13] h fun t55 h =>
vExtract 0 t55 h fun t56 h =>
vExtract 1 t55 h fun t57 h =>
vFaddr 3 t9 h fun t58 h =>
vStore 2 t58 t56 h fun _ h =>
(fun (e0 : Hp → Prop) =>
vEql t57 (.int .i64 0) h fun t63 h =>
vIf t63 (
vFaddr 5 t9 h fun t64 h =>
vStore 1 t64 (.bool .true) h fun _ h =>
e0 h) (
vEql t57 (.int .i64 2) h fun t66 h =>
vIf t66 (
e0 h) (
vBuild [.nilslice, (.int .i64 0), (.int .i64 0), (.int .i64 0), (.int .i64 0), (.bool .false)] [] h fun t60 h =>
vStore 6 t4 t60 h fun _ h =>
vLoadA 6 t4 h fun r0 _ => K (.tup [r0, t57]) h))) fun h =>
vLoadA 6 t9 h fun t67 h =>
vStore 6 t4 t67 h fun _ h =>
vLoadA 6 t4 h fun r0 _ => K (.tup [r0, (.int .i64 0)]) h
noncomputable def s_vfs_call_findB2 (cf : CallK) (fuel : Nat) (K : AV → Hp → Prop) (t13 : AV) (t4 : AV) (t0 : AV) (h : Hp) : Prop :=
vNilck t0 h fun t25 h =>
vFaddr 0 t25 h fun t26 h =>
vLoad2 t26 h fun t27 h =>
vNilck t27 h fun t28 h =>
vFaddr 2 t28 h fun t29 h =>
vLoad2 t29 h fun t30 h =>
vLenL2 t13 h fun t33 h =>
vArith Go.Am.subI t33 (.int .i64 1) h fun t34 h =>
vSlice2 1 t13 none (some t34) h fun t35 h =>
cf f_view_View_Walk [t30, t35] h fun t36 h =>
vExtract 0 t36 h fun t37 h =>
vExtract 1 t36 h fun t38 h =>
vBox 2 (.agg [(.int .i64 0), (.int .i64 0)]) h fun t8 h =>
vLoad2 t26 h fun c _ => gd (sameV c t27) (
vLoad2 t29 h fun c _ => gd (sameV c t30) (
vStore 2 t8 t37 h fun _ h =>
vNeq t38 (.int .i64 0) h fun t40 h =>
vIf t40 (
vBuild [.nilslice, (.int .i64 0), (.int .i64 0), (.int .i64 0), (.int .i64 0), (.bool .false)] [] h fun t41 h =>
vStore 6 t4 t41 h fun _ h =>
vLoadA 6 t4 h fun r0 _ => K (.tup [r0, t38]) h) (
s_vfs_call_findB1 cf fuel K t8 t13 t0 t4 h)))
noncomputable def s_vfs_call_find (cf : CallK) (fuel : Nat) (t0 : AV) (t1 : AV) (h : Hp) (K : AV → Hp → Prop) : Prop :=
vBox 6 (.agg [.nilslice, (.int .i64 0), (.int .i64 0), (.int .i64 0), (.int .i64 0), (.bool .false)]) h fun t4 h =>
cf f_path_Parse [t1] h fun t12 h =>
vExtract 0 t12 h fun t13 h =>
vExtract 1 t12 h fun t14 h =>
vNeq t14 (.int .i64 0) h fun t16 h =>
vIf t16 (
vBuild [.nilslice, (.int .i64 0), (.int .i64 0), (.int .i64 0), (.int .i64 0), (.bool .false)] [] h fun t17 h =>
vStore 6 t4 t17 h fun _ h =>
vLoadA 6 t4 h fun r0 _ => K (.tup [r0, t14]) h) (
vLenL2 t13 h fun t20 h =>
vEql t20 (.int .i64 0) h fun t21 h =>
vIf t21 (
vBuild [.nilslice, (.int .i64 0), (.int .i64 0), (.int .i64 0), (.int .i64 0), (.bool .false)] [(5, 1, (.bool .true))] h fun t22 h =>
vStore 6 t4 t22 h fun _ h =>
vLoadA 6 t4 h fun r0 _ => K (.tup [r0, (.int .i64 0)]) h) (
s_vfs_call_findB2 cf fuel K t13 t4 t0 h))
theorem s_vfs_call_find_eq (cf : CallK) (fuel : Nat) (t0 : AV) (t1 : AV) (h : Hp) (K : AV → Hp → Prop) : s_vfs_call_find cf fuel t0 t1 h K = deepT (tabOf Tryz.prog) f_vfs_call_find cf fuel [t0, t1] h K :=
  Eq.trans (by kernel_rfl) (rFun (by kernel_rfl) rExact)

noncomputable def s_view_View_Stat (cf : CallK) (fuel : Nat) (t0 : AV) (t1 : AV) (h : Hp) (K : AV → Hp → Prop) : Prop :=
vBox 2 t1 h fun t3 h =>
vBox 5 (.agg [(.int .i64 0), (.int .i64 0), (.bool .false), (.int .i64 0), (.int .i64 0)]) h fun t4 h =>
(fun (e0 : Hp → Prop) =>
vLoadA 2 t3 h fun t8 h =>
cf f_view_View_Live [t0, t8] h fun t9 h =>
vNot t9 h fun t10 h =>
vIf t10 (
vBuild [(.int .i64 0), (.int .i64 0), (.bool .false), (.int .i64 0), (.int .i64 0)] [] h fun t11 h =>
vStore 5 t4 t11 h fun _ h =>
vLoadA 5 t4 h fun r0 _ => K (.tup [r0, (.int .i64 2)]) h) (
vNilck t0 h fun t14 h =>
vFaddr 0 t14 h fun t15 h =>
vLoad2 t15 h fun t16 h =>
vLoadA 2 t3 h fun t17 h =>
cf f_movetree_Tree_Dir [t16, t17] h fun t18 h =>
vIf t18 (
vLoadA 2 t3 h fun t19 h =>
vBuild [(.int .i64 0), (.int .i64 0), (.bool .false), (.int .i64 0), (.int .i64 0)] [(0, 2, t19), (2, 1, (.bool .true))] h fun t20 h =>
vStore 5 t4 t20 h fun _ h =>
vLoadA 5 t4 h fun r0 _ => K (.tup [r0, (.int .i64 0)]) h) (
e0 h))) fun h =>
vLoadA 2 t3 h fun t21 h =>
vLoadA 2 t3 h fun t23 h =>
vNilck t0 h fun t26 h =>
vFaddr 1 t26 h fun t27 h =>
vLoad2 t27 h fun t28 h =>
vLoadA 2 t3 h fun t29 h =>
vLookup Go.Am.eqPair false .nilptr t28 t29 h fun t30 h =>
cf f_view_View_size [t0, t23] h fun t24 h =>
vLoadA 2 t3 h fun c _ => gd (sameV c t21) (
vLoad2 t27 h fun c _ => gd (sameV c t28) (
vLoadA 2 t3 h fun c _ => gd (sameV c t29) (
vLookup Go.Am.eqPair false .nilptr t28 t29 h fun c _ => gd (sameV c t30) (
cf f_content_File_Heads [t30] h fun t31 h =>
vLoadA 2 t3 h fun c _ => gd (sameV c t21) (
vLenL2 t31 h fun t32 h =>
vBuild [(.int .i64 0), (.int .i64 0), (.bool .false), (.int .i64 0), (.int .i64 0)] [(0, 2, t21), (3, 1, t24), (4, 1, t32)] h fun t33 h =>
vStore 5 t4 t33 h fun _ h =>
vLoadA 5 t4 h fun r0 _ => K (.tup [r0, (.int .i64 0)]) h)))))
theorem s_view_View_Stat_eq (cf : CallK) (fuel : Nat) (t0 : AV) (t1 : AV) (h : Hp) (K : AV → Hp → Prop) : s_view_View_Stat cf fuel t0 t1 h K = deepT (tabOf Tryz.prog) f_view_View_Stat cf fuel [t0, t1] h K :=
  Eq.trans (by kernel_rfl) (rFun (by kernel_rfl) rExact)


end Go.Proofs.YtciipeallilmiaaGreatDoor.sh3
