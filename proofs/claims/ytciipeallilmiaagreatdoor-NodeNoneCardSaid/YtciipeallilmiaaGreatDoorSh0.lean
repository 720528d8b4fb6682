/- The Go functions' code as the abstract machine's, over values; each is the code that the machine makes of the program's (theorems s_.._eq). No condition. -/
import Derived.Test.YtciipeallilmiaaGreatDoorAmC
import Derived.Test.YtciipeallilmiaaGreatDoorProg
import Derived.KernelRfl
namespace Go.Proofs.YtciipeallilmiaaGreatDoor.sh0
open Go Go.Am Go.Proofs
set_option linter.unusedVariables false
set_option maxRecDepth 100000
abbrev f_bytes_CutPrefix : Nat := 94
abbrev f_clock_Clock_Lease : Nat := 65
abbrev f_clock_Clock_Now : Nat := 45
abbrev f_clock_New : Nat := 33
abbrev f_codec_NewReader : Nat := 79
abbrev f_codec_NewWriter : Nat := 66
abbrev f_codec_Reader_Bytes : Nat := 98
abbrev f_codec_Reader_Done : Nat := 99
abbrev f_codec_Reader_Err : Nat := 83
abbrev f_codec_Reader_Left : Nat := 84
abbrev f_codec_Reader_Num : Nat := 80
abbrev f_codec_Reader_Truth : Nat := 81
abbrev f_codec_Reader_Vector : Nat := 82
abbrev f_codec_Writer_Done : Nat := 68
abbrev f_codec_Writer_Num : Nat := 67
abbrev f_crc_Unframe : Nat := 78
abbrev f_device_Device_Blocks : Nat := 31
abbrev f_device_Device_Crash : Nat := 42
abbrev f_device_New : Nat := 8
abbrev f_frames_Decode : Nat := 26
abbrev f_frames_Encode : Nat := 77
abbrev f_frames_May : Nat := 86
abbrev f_lagoonlaw24_Fresh : Nat := 41
abbrev f_lagoonlaw24_NodeNone : Nat := 3
abbrev f_lagoonlaw24_begun : Nat := 9
abbrev f_localfs_Capacity : Nat := 47
abbrev f_localfs_FS_Read : Nat := 96
abbrev f_localfs_FS_Sync : Nat := 74
abbrev f_localfs_Mkfs : Nat := 46
abbrev f_localfs_Mount : Nat := 29
abbrev f_localfs_may : Nat := 90
abbrev f_localfs_read : Nat := 95
abbrev f_node_Boot : Nat := 7
abbrev f_node_Format : Nat := 16
abbrev f_node_Node_Cost : Nat := 13
abbrev f_node_Node_Dead : Nat := 15
abbrev f_node_Node_Do : Nat := 4
abbrev f_node_Node_Now : Nat := 14
abbrev f_node_Node_Ops : Nat := 12
abbrev f_node_Node_Start : Nat := 5
abbrev f_node_Node_Take : Nat := 6
abbrev f_node_Node_Tick : Nat := 10
abbrev f_node_Node_Vector : Nat := 11
abbrev f_node_Node_fails : Nat := 23
abbrev f_node_Node_keep : Nat := 20
abbrev f_node_Node_kept : Nat := 32
abbrev f_node_Node_load : Nat := 40
abbrev f_node_Node_out : Nat := 25
abbrev f_node_Room : Nat := 17
abbrev f_node_may : Nat := 28
abbrev f_oplog_Log_Add : Nat := 21
abbrev f_oplog_Log_Cost : Nat := 44
abbrev f_oplog_Log_Fits : Nat := 19
abbrev f_oplog_Log_Meta : Nat := 101
abbrev f_oplog_Log_SetMeta : Nat := 69
abbrev f_oplog_Log_Since : Nat := 38
abbrev f_oplog_Log_Sync : Nat := 22
abbrev f_oplog_Log_Vector : Nat := 37
abbrev f_oplog_Log_keep : Nat := 73
abbrev f_oplog_Log_load : Nat := 100
abbrev f_oplog_Log_put : Nat := 71
abbrev f_oplog_Log_takes : Nat := 70
abbrev f_oplog_Open : Nat := 30
abbrev f_oplog_head : Nat := 97
abbrev f_oplog_written : Nat := 72
abbrev f_ops_Cost : Nat := 64
abbrev f_ops_Decode : Nat := 85
abbrev f_session_Hands : Nat := 36
abbrev f_session_New : Nat := 35
abbrev f_session_Table_Start : Nat := 24
abbrev f_session_Table_Take : Nat := 27
abbrev f_session_Table_Tick : Nat := 43
abbrev f_session_Table_acked : Nat := 89
abbrev f_session_Table_begin : Nat := 75
abbrev f_session_Table_frame : Nat := 76
abbrev f_session_Table_send : Nat := 87
abbrev f_session_Table_taken : Nat := 88
abbrev f_vfs_FS_Do : Nat := 18
abbrev f_vfs_New : Nat := 34
abbrev f_wal_Mount : Nat := 91
abbrev f_wal_Volume_Blocks : Nat := 92
abbrev f_wal_Volume_Read : Nat := 93

noncomputable def s_lagoonlaw24_NodeNone (cf : CallK) (fuel : Nat) (h : Hp) (K : AV → Hp → Prop) : Prop :=
vBuild [(.int .i64 0), (.str 0 0), (.str 0 0), (.int .i64 0), (.int .i64 0), (.int .i64 0), .nilslice] [(0, 1, (.int .i64 12))] h fun t12 h =>
cf f_node_Node_Do [.nilptr, t12] h fun t13 h =>
vBox 9 (.agg [(.int .i64 0), (.int .i64 0), .nilslice, .nilslice, (.int .i64 0), (.int .i64 0), (.bool .false), (.int .i64 0), (.int .i64 0)]) h fun t2 h =>
vStore 9 t2 t13 h fun _ h =>
cf f_node_Node_Start [.nilptr, (.int .i64 1), (.int .i64 0)] h fun t16 h =>
vExtract 0 t16 h fun t17 h =>
vExtract 1 t16 h fun t18 h =>
cf f_node_Node_Take [.nilptr, .nilslice, (.int .i64 0)] h fun t21 h =>
vExtract 0 t21 h fun t22 h =>
vExtract 1 t21 h fun t23 h =>
cf f_node_Boot [.nilptr, (.int .i64 1)] h fun t25 h =>
vExtract 0 t25 h fun t26 h =>
vExtract 1 t25 h fun t27 h =>
cf f_device_New [(.int .i64 2000)] h fun t29 h =>
cf f_node_Boot [t29, (.int .i64 1)] h fun t30 h =>
vExtract 0 t30 h fun t31 h =>
vExtract 1 t30 h fun t32 h =>
cf f_lagoonlaw24_begun [] h fun t33 h =>
joinG (fun g41 => grdV t33 true (vFaddr 0 t2 h g41) (g41 undefV h)) fun t35 h =>
joinG (fun g40 => grdV t33 true (vLoad2 t35 h g40) (g40 undefV h)) fun t36 h =>
joinG (fun g39 => grdV t33 true (vEql t36 (.int .i64 5) h g39) (g39 undefV h)) fun t37 h =>
vPick t33 t37 (.bool .false) h fun t38 h =>
joinG (fun g38 => grdV t38 true (vMov t18 h g38) (g38 undefV h)) fun t40 h =>
joinG (fun g37 => grdV t38 true (vEql t40 (.int .i64 5) h g37) (g37 undefV h)) fun t41 h =>
vPick t38 t41 (.bool .false) h fun t42 h =>
joinG (fun g36 => grdV t42 true (vMov t23 h g36) (g36 undefV h)) fun t44 h =>
joinG (fun g35 => grdV t42 true (vEql t44 (.int .i64 5) h g35) (g35 undefV h)) fun t45 h =>
vPick t42 t45 (.bool .false) h fun t46 h =>
joinG (fun g34 => grdV t46 true (vMov .nilptr h g34) (g34 undefV h)) fun t48 h =>
joinG (fun g33 => grdV t46 true (cf f_node_Node_Tick [t48, (.int .i64 1)] h g33) (g33 undefV h)) fun t49 h =>
joinG (fun g32 => grdV t46 true (vLenL2 t49 h g32) (g32 undefV h)) fun t50 h =>
joinG (fun g31 => grdV t46 true (vEql t50 (.int .i64 0) h g31) (g31 undefV h)) fun t51 h =>
vPick t46 t51 (.bool .false) h fun t52 h =>
joinG (fun g30 => grdV t52 true (vMov .nilptr h g30) (g30 undefV h)) fun t54 h =>
joinG (fun g29 => grdV t52 true (cf f_node_Node_Vector [t54] h g29) (g29 undefV h)) fun t55 h =>
joinG (fun g28 => grdV t52 true (vLenL2 t55 h g28) (g28 undefV h)) fun t56 h =>
joinG (fun g27 => grdV t52 true (vEql t56 (.int .i64 0) h g27) (g27 undefV h)) fun t57 h =>
vPick t52 t57 (.bool .false) h fun t58 h =>
joinG (fun g26 => grdV t58 true (vMov .nilptr h g26) (g26 undefV h)) fun t60 h =>
joinG (fun g25 => grdV t58 true (cf f_node_Node_Ops [t60] h g25) (g25 undefV h)) fun t61 h =>
joinG (fun g24 => grdV t58 true (vLenL2 t61 h g24) (g24 undefV h)) fun t62 h =>
joinG (fun g23 => grdV t58 true (vEql t62 (.int .i64 0) h g23) (g23 undefV h)) fun t63 h =>
vPick t58 t63 (.bool .false) h fun t64 h =>
joinG (fun g22 => grdV t64 true (vMov .nilptr h g22) (g22 undefV h)) fun t66 h =>
joinG (fun g21 => grdV t64 true (cf f_node_Node_Cost [t66] h g21) (g21 undefV h)) fun t67 h =>
joinG (fun g20 => grdV t64 true (vEql t67 (.int .i64 0) h g20) (g20 undefV h)) fun t68 h =>
vPick t64 t68 (.bool .false) h fun t69 h =>
joinG (fun g19 => grdV t69 true (vMov .nilptr h g19) (g19 undefV h)) fun t71 h =>
joinG (fun g18 => grdV t69 true (cf f_node_Node_Now [t71] h g18) (g18 undefV h)) fun t72 h =>
joinG (fun g17 => grdV t69 true (vEql t72 (.int .i64 0) h g17) (g17 undefV h)) fun t73 h =>
vPick t69 t73 (.bool .false) h fun t74 h =>
joinG (fun g16 => grdV t74 true (vMov .nilptr h g16) (g16 undefV h)) fun t76 h =>
joinG (fun g15 => grdV t74 true (cf f_node_Node_Dead [t76] h g15) (g15 undefV h)) fun t77 h =>
vPick t74 t77 (.bool .false) h fun t78 h =>
joinG (fun g14 => grdV t78 true (vMov t26 h g14) (g14 undefV h)) fun t80 h =>
joinG (fun g13 => grdV t78 true (vEq false eqP t80 .nilptr h g13) (g13 undefV h)) fun t81 h =>
vPick t78 t81 (.bool .false) h fun t82 h =>
joinG (fun g12 => grdV t82 true (vMov t27 h g12) (g12 undefV h)) fun t84 h =>
joinG (fun g11 => grdV t82 true (vEql t84 (.int .i64 22) h g11) (g11 undefV h)) fun t85 h =>
vPick t82 t85 (.bool .false) h fun t86 h =>
joinG (fun g10 => grdV t86 true (vMov t32 h g10) (g10 undefV h)) fun t88 h =>
joinG (fun g9 => grdV t86 true (vEql t88 (.int .i64 74) h g9) (g9 undefV h)) fun t89 h =>
vPick t86 t89 (.bool .false) h fun t90 h =>
joinG (fun g8 => grdV t90 true (cf f_node_Format [.nilptr] h g8) (g8 undefV h)) fun t92 h =>
joinG (fun g7 => grdV t90 true (vEql t92 (.int .i64 22) h g7) (g7 undefV h)) fun t93 h =>
vPick t90 t93 (.bool .false) h fun t94 h =>
joinG (fun g6 => grdV t94 true (cf f_device_New [(.int .i64 1000)] h g6) (g6 undefV h)) fun t96 h =>
joinG (fun g5 => grdV t94 true (cf f_node_Format [t96] h g5) (g5 undefV h)) fun t97 h =>
joinG (fun g4 => grdV t94 true (vEql t97 (.int .i64 22) h g4) (g4 undefV h)) fun t98 h =>
vPick t94 t98 (.bool .false) h fun t99 h =>
joinG (fun g3 => grdV t99 true (cf f_node_Room [(.int .i64 1208)] h g3) (g3 undefV h)) fun t101 h =>
joinG (fun g2 => grdV t99 true (vEql t101 (.int .i64 5248) h g2) (g2 undefV h)) fun t102 h =>
vPick t99 t102 (.bool .false) h fun t103 h =>
joinG (fun g1 => grdV t103 true (cf f_node_Room [(.int .i64 5)] h g1) (g1 undefV h)) fun t105 h =>
joinG (fun g0 => grdV t103 true (vEql t105 (.int .i64 0) h g0) (g0 undefV h)) fun t106 h =>
vPick t103 t106 (.bool .false) h fun t107 h =>
K t107 h
theorem s_lagoonlaw24_NodeNone_eq (cf : CallK) (fuel : Nat) (h : Hp) (K : AV → Hp → Prop) : s_lagoonlaw24_NodeNone cf fuel h K = deepT (tabOf Tryz.prog) f_lagoonlaw24_NodeNone cf fuel [] h K :=
  Eq.trans (by kernel_rfl) (rFun (by kernel_rfl) rExact)

noncomputable def s_node_Node_DoB8 (cf : CallK) (fuel : Nat) (K : AV → Hp → Prop) (t0 : AV) (t4 : AV) (t3 : AV) (h : Hp) : Prop :=
vNilck t0 h fun t13 h =>
vFaddr 1 t13 h fun t14 h =>
vLoad2 t14 h fun t15 h =>
vLoadA 7 t3 h fun t16 h =>
vNilck t0 h fun t18 h =>
vFaddr 0 t18 h fun t19 h =>
vLoad2 t19 h fun t20 h =>
vFunc 19 [t20] [] h fun t21 h =>
cf f_vfs_FS_Do [t15, t16, t21] h fun t22 h =>
vExtract 0 t22 h fun t23 h =>
vExtract 1 t22 h fun t24 h =>
vBox 9 (.agg [(.int .i64 0), (.int .i64 0), .nilslice, .nilslice, (.int .i64 0), (.int .i64 0), (.bool .false), (.int .i64 0), (.int .i64 0)]) h fun t5 h =>
vLoad2 t14 h fun c _ => gd (sameV c t15) (
vLoadA 7 t3 h fun c _ => gd (sameV c t16) (
vLoad2 t19 h fun c _ => gd (sameV c t20) (
vStore 9 t5 t23 h fun _ h =>
cf f_node_Node_keep [t0] h fun t26 h =>
(fun (j0 : AV → Hp → Prop) =>
vEql t26 (.int .i64 0) h fun t28 h =>
joinG (fun g3 => grdV t28 true (vMov t24 h g3) (g3 undefV h)) fun t30 h =>
joinG (fun g2 => grdV t28 true (vLenL2 t30 h g2) (g2 undefV h)) fun t31 h =>
joinG (fun g1 => grdV t28 true (vGtr t31 (.int .i64 0) h g1) (g1 undefV h)) fun t32 h =>
vPick t28 t32 (.bool .false) h fun t33 h =>
vIf t33 (
vNilck t0 h fun t36 h =>
vFaddr 0 t36 h fun t37 h =>
vLoad2 t37 h fun t38 h =>
cf f_oplog_Log_Add [t38, t24] h fun t40 h =>
vExtract 0 t40 h fun t41 h =>
vExtract 1 t40 h fun t42 h =>
j0 t42 h) (
j0 t26 h)) fun t7 h =>
(fun (j4 : AV → Hp → Prop) =>
vEql t7 (.int .i64 0) h fun t44 h =>
joinG (fun g7 => grdV t44 true (vFaddr 0 t3 h g7) (g7 undefV h)) fun t46 h =>
joinG (fun g6 => grdV t44 true (vLoad2 t46 h g6) (g6 undefV h)) fun t47 h =>
joinG (fun g5 => grdV t44 true (vEql t47 (.int .i64 12) h g5) (g5 undefV h)) fun t48 h =>
vPick t44 t48 (.bool .false) h fun t49 h =>
vIf t49 (
vNilck t0 h fun t51 h =>
vFaddr 0 t51 h fun t52 h =>
vLoad2 t52 h fun t53 h =>
cf f_oplog_Log_Sync [t53] h fun t54 h =>
j4 t54 h) (
j4 t7 h)) fun t7 h =>
cf f_node_Node_fails [t0, t7] h fun t57 h =>
vNeq t57 (.int .i64 0) h fun t58 h =>
vIf t58 (
vBuild [(.int .i64 0), (.int .i64 0), .nilslice, .nilslice, (.int .i64 0), (.int .i64 0), (.bool .false), (.int .i64 0), (.int .i64 0)] [(0, 1, (.int .i64 5))] h fun t59 h =>
vStore 9 t4 t59 h fun _ h =>
vLoadA 9 t4 h fun r0 _ => K r0 h) (
vLoadA 9 t5 h fun t60 h =>
vStore 9 t4 t60 h fun _ h =>
vLoadA 9 t4 h fun r0 _ => K r0 h))))
noncomputable def s_node_Node_Do (cf : CallK) (fuel : Nat) (t0 : AV) (t1 : AV) (h : Hp) (K : AV → Hp → Prop) : Prop :=
vBox 7 t1 h fun t3 h =>
vBox 9 (.agg [(.int .i64 0), (.int .i64 0), .nilslice, .nilslice, (.int .i64 0), (.int .i64 0), (.bool .false), (.int .i64 0), (.int .i64 0)]) h fun t4 h =>
cf f_node_Node_Dead [t0] h fun t9 h =>
vIf t9 (
vBuild [(.int .i64 0), (.int .i64 0), .nilslice, .nilslice, (.int .i64 0), (.int .i64 0), (.bool .false), (.int .i64 0), (.int .i64 0)] [(0, 1, (.int .i64 5))] h fun t10 h =>
vStore 9 t4 t10 h fun _ h =>
vLoadA 9 t4 h fun r0 _ => K r0 h) (
s_node_Node_DoB8 cf fuel K t0 t4 t3 h)
theorem s_node_Node_Do_eq (cf : CallK) (fuel : Nat) (t0 : AV) (t1 : AV) (h : Hp) (K : AV → Hp → Prop) : s_node_Node_Do cf fuel t0 t1 h K = deepT (tabOf Tryz.prog) f_node_Node_Do cf fuel [t0, t1] h K :=
  Eq.trans (by kernel_rfl) (rFun (by kernel_rfl) rExact)

noncomputable def s_node_BootE0 (cf : CallK) (fuel : Nat) (K : AV → Hp → Prop) (t1 : AV) (t9 : AV) (t10 : AV) : AV → Hp → Prop := fun t12 h =>
vAdd t12 (.int .i64 4096) h fun t76 h =>
vMin false t76 (.int .i64 1152921504606846976) h fun t77 h =>
cf f_clock_New [t1, t12, t77] h fun t78 h =>
vNilck t10 h fun t79 h =>
vFaddr 2 t79 h fun t80 h =>
vStore 1 t80 t78 h fun _ h =>
vNilck t10 h fun t84 h =>
vFaddr 2 t84 h fun t85 h =>
vLoad2 t85 h fun t86 h =>
cf f_vfs_New [t1, t86] h fun t87 h =>
vNilck t10 h fun t88 h =>
vFaddr 1 t88 h fun t89 h =>
vStore 1 t89 t87 h fun _ h =>
vMin false t12 (.int .i64 576460752303423488) h fun t93 h =>
vFunc 37 [t9] [] h fun t95 h =>
vFunc 38 [t9] [] h fun t97 h =>
vFunc 39 [t10] [] h fun t99 h =>
cf f_session_Hands [t95, t97, t99] h fun t100 h =>
cf f_session_New [t1, t93, t100] h fun t101 h =>
vNilck t10 h fun t102 h =>
vFaddr 3 t102 h fun t103 h =>
vStore 1 t103 t101 h fun _ h =>
cf f_node_Node_load [t10] h fun t105 h =>
cf f_node_Node_keep [t10] h fun t107 h =>
vNeq t107 (.int .i64 0) h fun t109 h =>
vIf t109 (
K (.tup [.nilptr, t107]) h) (
K (.tup [t10, (.int .i64 0)]) h)
noncomputable def s_node_BootL1B (cf : CallK) (fuel : Nat) (e0 : AV → Hp → Prop) (t1 : AV) (t9 : AV) (t10 : AV) (t60 : AV) (t61 : AV) (ih1 : AV → AV → Hp → Prop) : AV → AV → Hp → Prop := fun t12 t62 h =>
vLss t62 t61 h fun t63 h =>
vIf t63 (
(fun (e2 : AV → Hp → Prop) =>
vIaddr 11 t60 t62 h fun t64 h =>
vLoadA 11 t64 h fun t65 h =>
vBox 11 (.agg [(.int .i64 0), (.int .i64 0), (.int .i64 0), (.int .i64 0), (.int .i64 0), (.int .i64 0), (.int .i64 0), (.int .i64 0), (.str 0 0), .nilslice, .nilslice]) h fun t14 h =>
vStore 11 t14 t65 h fun _ h =>
vFaddr 0 t14 h fun t67 h =>
vFaddr 0 t67 h fun t68 h =>
vLoad2 t68 h fun t69 h =>
vMin true t12 t69 h fun t70 h =>
e2 t70 h) fun t12 h =>
vAdd t62 (.int .i64 1) h fun t71 h =>
ih1 t12 t71 h) (
e0 t12 h)
noncomputable def s_node_BootL1 (cf : CallK) (fuel : Nat) (e0 : AV → Hp → Prop) (t1 : AV) (t9 : AV) (t10 : AV) (t60 : AV) (t61 : AV) (m : Nat) : AV → AV → Hp → Prop := Nat.rec (motive := fun _ => AV → AV → Hp → Prop) (fun _ _ _ => False) (fun _ ih => s_node_BootL1B cf fuel e0 t1 t9 t10 t60 t61 ih) m
theorem s_node_BootL1_succ (cf : CallK) (fuel : Nat) (e0 : AV → Hp → Prop) (t1 : AV) (t9 : AV) (t10 : AV) (t60 : AV) (t61 : AV) (m : Nat) : s_node_BootL1 cf fuel e0 t1 t9 t10 t60 t61 (m + 1) = s_node_BootL1B cf fuel e0 t1 t9 t10 t60 t61 (s_node_BootL1 cf fuel e0 t1 t9 t10 t60 t61 m) := rfl
noncomputable def s_node_BootB3 (cf : CallK) (fuel : Nat) (K : AV → Hp → Prop) (t31 : AV) (t0 : AV) (t1 : AV) (h : Hp) : Prop :=
cf f_device_Device_Blocks [t0] h fun t39 h =>
cf f_node_Room [t39] h fun t40 h =>
cf f_oplog_Open [t31, t40] h fun t41 h =>
vExtract 0 t41 h fun t42 h =>
vExtract 1 t41 h fun t43 h =>
vNeq t43 (.int .i64 0) h fun t45 h =>
vIf t45 (
K (.tup [.nilptr, t43]) h) (
vBuild [.nilptr, .nilptr, .nilptr, .nilptr, (.int .i64 0), (.bool .false)] [(0, 1, t42)] h fun t48 h =>
vBox 6 t48 h fun t49 h =>
cf f_node_Node_kept [t49] h fun t52 h =>
vExtract 0 t52 h fun t53 h =>
vExtract 1 t52 h fun t54 h =>
vNeq t54 (.int .i64 0) h fun t56 h =>
vIf t56 (
K (.tup [.nilptr, t54]) h) (
cf f_node_Node_Ops [t49] h fun t60 h =>
vLenL2 t60 h fun t61 h =>
(fun (e0 : AV → Hp → Prop) =>
s_node_BootL1 cf fuel (s_node_BootE0 cf fuel K t1 t42 t49) t1 t42 t49 t60 t61 fuel t53 (.int .i64 0) h) (s_node_BootE0 cf fuel K t1 t42 t49)))
noncomputable def s_node_Boot (cf : CallK) (fuel : Nat) (t0 : AV) (t1 : AV) (h : Hp) (K : AV → Hp → Prop) : Prop :=
cf f_node_may [t0] h fun t17 h =>
vNeq t17 (.int .i64 0) h fun t19 h =>
joinG (fun g7 => grdV t19 false (vMov t1 h g7) (g7 undefV h)) fun t21 h =>
joinG (fun g6 => grdV t19 false (vLss t21 (.int .i64 0) h g6) (g6 undefV h)) fun t22 h =>
vPick t19 (.bool .true) t22 h fun t23 h =>
joinG (fun g5 => grdV t23 false (vMov t1 h g5) (g5 undefV h)) fun t25 h =>
joinG (fun g4 => grdV t23 false (vGeq t25 (.int .i64 64) h g4) (g4 undefV h)) fun t26 h =>
vPick t23 (.bool .true) t26 h fun t27 h =>
vIf t27 (
K (.tup [.nilptr, (.int .i64 22)]) h) (
cf f_localfs_Mount [t0] h fun t30 h =>
vExtract 0 t30 h fun t31 h =>
vExtract 1 t30 h fun t32 h =>
vNeq t32 (.int .i64 0) h fun t34 h =>
vIf t34 (
K (.tup [.nilptr, t32]) h) (
s_node_BootB3 cf fuel K t31 t0 t1 h))
theorem s_node_Boot_eq (cf : CallK) (fuel : Nat) (t0 : AV) (t1 : AV) (h : Hp) (K : AV → Hp → Prop) : s_node_Boot cf fuel t0 t1 h K = deepT (tabOf Tryz.prog) f_node_Boot cf fuel [t0, t1] h K :=
  Eq.trans (by kernel_rfl) (rFun (by kernel_rfl) (rSeq (by kernel_rfl) (rSeq (by kernel_rfl) (rSeq (by kernel_rfl) (rSeq (by kernel_rfl) (rSeq (by kernel_rfl) (rSeq (by kernel_rfl) (rSeq (by kernel_rfl) (rSeq (by kernel_rfl) (rSeq (by kernel_rfl) (rSeq (by kernel_rfl) (rSeq (by kernel_rfl) rExact (rSeq (by kernel_rfl) (rBlock (by kernel_rfl) (rLoop (by kernel_rfl) (fun m1 fr h => s_node_BootL1 cf fuel (s_node_BootE0 cf fuel K (getS fr (gpos 1)) (getS fr (gpos 9)) (getS fr (gpos 10))) (getS fr (gpos 1)) (getS fr (gpos 9)) (getS fr (gpos 10)) (getS fr (gpos 60)) (getS fr (gpos 61)) m1 (getS fr (gpos 12)) (getS fr (gpos 62)) h) (funext fun fr => funext fun h => by kernel_rfl) fun m1 => rCast (funext fun fr => funext fun h => by kernel_rfl) rExact)) rExact)) rExact) rExact) rExact) rExact) rExact) rExact) rExact) rExact) rExact) rExact))

noncomputable def s_device_New (cf : CallK) (fuel : Nat) (t0 : AV) (h : Hp) (K : AV → Hp → Prop) : Prop :=
vLss t0 (.int .i64 1) h fun t4 h =>
joinG (fun g1 => grdV t4 false (vMov t0 h g1) (g1 undefV h)) fun t6 h =>
joinG (fun g0 => grdV t4 false (vGtr t6 (.int .i64 65536) h g0) (g0 undefV h)) fun t7 h =>
vPick t4 (.bool .true) t7 h fun t8 h =>
vIf t8 (
K .nilptr h) (
vMkSlice 3 56 false [.nilslice, .nilslice, (.bool .false)] t0 t0 h fun t10 h =>
vBuild [.nilslice, (.bool .false), (.int .i64 0), (.bool .false), (.int .i64 0)] [(0, 1, t10)] h fun t11 h =>
vBox 5 t11 h fun t12 h =>
K t12 h)
theorem s_device_New_eq (cf : CallK) (fuel : Nat) (t0 : AV) (h : Hp) (K : AV → Hp → Prop) : s_device_New cf fuel t0 h K = deepT (tabOf Tryz.prog) f_device_New cf fuel [t0] h K :=
  Eq.trans (by kernel_rfl) (rFun (by kernel_rfl) rExact)

noncomputable def s_lagoonlaw24_begunB23 (cf : CallK) (fuel : Nat) (K : AV → Hp → Prop) (t24 : AV) (t4 : AV) (t3 : AV) (h : Hp) : Prop :=
vBuild [(.int .i64 0), (.str 0 0), (.str 0 0), (.int .i64 0), (.int .i64 0), (.int .i64 0), .nilslice] [(0, 1, (.int .i64 10)), (1, 1, (.str 1 47))] h fun t33 h =>
cf f_node_Node_Do [t24, t33] h fun t34 h =>
vBox 9 (.agg [(.int .i64 0), (.int .i64 0), .nilslice, .nilslice, (.int .i64 0), (.int .i64 0), (.bool .false), (.int .i64 0), (.int .i64 0)]) h fun t7 h =>
vStore 9 t7 t34 h fun _ h =>
vFaddr 0 t3 h fun t35 h =>
vLoad2 t35 h fun t36 h =>
vEql t36 (.int .i64 0) h fun t37 h =>
joinG (fun g22 => grdV t37 true (vFaddr 0 t4 h g22) (g22 undefV h)) fun t39 h =>
joinG (fun g21 => grdV t37 true (vLoad2 t39 h g21) (g21 undefV h)) fun t40 h =>
joinG (fun g20 => grdV t37 true (vEql t40 (.int .i64 0) h g20) (g20 undefV h)) fun t41 h =>
vPick t37 t41 (.bool .false) h fun t42 h =>
joinG (fun g19 => grdV t42 true (vFaddr 3 t7 h g19) (g19 undefV h)) fun t44 h =>
joinG (fun g18 => grdV t42 true (vLoad2 t44 h g18) (g18 undefV h)) fun t45 h =>
joinG (fun g17 => grdV t42 true (vLenL2 t45 h g17) (g17 undefV h)) fun t46 h =>
joinG (fun g16 => grdV t42 true (vEql t46 (.int .i64 1) h g16) (g16 undefV h)) fun t47 h =>
vPick t42 t47 (.bool .false) h fun t48 h =>
joinG (fun g15 => grdV t48 true (vFaddr 3 t7 h g15) (g15 undefV h)) fun t50 h =>
joinG (fun g14 => grdV t48 true (vLoad2 t50 h g14) (g14 undefV h)) fun t51 h =>
joinG (fun g13 => grdV t48 true (vIaddr 5 t51 (.int .i64 0) h g13) (g13 undefV h)) fun t52 h =>
joinG (fun g12 => grdV t48 true (vFaddr 0 t52 h g12) (g12 undefV h)) fun t53 h =>
joinG (fun g11 => grdV t48 true (vLoad2 t53 h g11) (g11 undefV h)) fun t54 h =>
joinG (fun g10 => grdV t48 true (vEql t54 (.str 1 100) h g10) (g10 undefV h)) fun t55 h =>
vPick t48 t55 (.bool .false) h fun t56 h =>
joinG (fun g9 => grdV t56 true (vMov t24 h g9) (g9 undefV h)) fun t58 h =>
joinG (fun g8 => grdV t56 true (cf f_node_Node_Ops [t58] h g8) (g8 undefV h)) fun t59 h =>
joinG (fun g7 => grdV t56 true (vLenL2 t59 h g7) (g7 undefV h)) fun t60 h =>
joinG (fun g6 => grdV t56 true (vEql t60 (.int .i64 1) h g6) (g6 undefV h)) fun t61 h =>
vPick t56 t61 (.bool .false) h fun t62 h =>
joinG (fun g5 => grdV t62 true (vMov t24 h g5) (g5 undefV h)) fun t64 h =>
joinG (fun g4 => grdV t62 true (cf f_node_Node_Now [t64] h g4) (g4 undefV h)) fun t65 h =>
joinG (fun g3 => grdV t62 true (vEql t65 (.int .i64 4096) h g3) (g3 undefV h)) fun t66 h =>
vPick t62 t66 (.bool .false) h fun t67 h =>
joinG (fun g2 => grdV t67 true (vMov t24 h g2) (g2 undefV h)) fun t69 h =>
joinG (fun g1 => grdV t67 true (cf f_node_Node_Dead [t69] h g1) (g1 undefV h)) fun t70 h =>
joinG (fun g0 => grdV t67 true (vNot t70 h g0) (g0 undefV h)) fun t71 h =>
vPick t67 t71 (.bool .false) h fun t72 h =>
K t72 h
noncomputable def s_lagoonlaw24_begunB26 (cf : CallK) (fuel : Nat) (K : AV → Hp → Prop) (t11 : AV) (t10 : AV) (h : Hp) : Prop :=
vBuild [(.int .i64 0), (.str 0 0), (.str 0 0), (.int .i64 0), (.int .i64 0), (.int .i64 0), .nilslice] [(0, 1, (.int .i64 6)), (1, 1, (.str 2 25647))] h fun t15 h =>
cf f_node_Node_Do [t11, t15] h fun t16 h =>
vBox 9 (.agg [(.int .i64 0), (.int .i64 0), .nilslice, .nilslice, (.int .i64 0), (.int .i64 0), (.bool .false), (.int .i64 0), (.int .i64 0)]) h fun t3 h =>
vStore 9 t3 t16 h fun _ h =>
vBuild [(.int .i64 0), (.str 0 0), (.str 0 0), (.int .i64 0), (.int .i64 0), (.int .i64 0), .nilslice] [(0, 1, (.int .i64 12))] h fun t18 h =>
cf f_node_Node_Do [t11, t18] h fun t19 h =>
vBox 9 (.agg [(.int .i64 0), (.int .i64 0), .nilslice, .nilslice, (.int .i64 0), (.int .i64 0), (.bool .false), (.int .i64 0), (.int .i64 0)]) h fun t4 h =>
vStore 9 t4 t19 h fun _ h =>
cf f_device_Device_Crash [t10, .nilfunc] h fun t22 h =>
cf f_node_Boot [t22, (.int .i64 4)] h fun t23 h =>
vExtract 0 t23 h fun t24 h =>
vExtract 1 t23 h fun t25 h =>
vNeq t25 (.int .i64 0) h fun t27 h =>
joinG (fun g25 => grdV t27 false (vMov t24 h g25) (g25 undefV h)) fun t29 h =>
joinG (fun g24 => grdV t27 false (vEq false eqP t29 .nilptr h g24) (g24 undefV h)) fun t30 h =>
vPick t27 (.bool .true) t30 h fun t31 h =>
vIf t31 (
K (.bool .false) h) (
s_lagoonlaw24_begunB23 cf fuel K t24 t4 t3 h)
noncomputable def s_lagoonlaw24_begun (cf : CallK) (fuel : Nat) (h : Hp) (K : AV → Hp → Prop) : Prop :=
cf f_lagoonlaw24_Fresh [(.int .i64 1208), (.int .i64 4)] h fun t9 h =>
vExtract 0 t9 h fun t10 h =>
vExtract 1 t9 h fun t11 h =>
vEq false eqP t11 .nilptr h fun t13 h =>
vIf t13 (
K (.bool .false) h) (
s_lagoonlaw24_begunB26 cf fuel K t11 t10 h)
theorem s_lagoonlaw24_begun_eq (cf : CallK) (fuel : Nat) (h : Hp) (K : AV → Hp → Prop) : s_lagoonlaw24_begun cf fuel h K = deepT (tabOf Tryz.prog) f_lagoonlaw24_begun cf fuel [] h K :=
  Eq.trans (by kernel_rfl) (rFun (by kernel_rfl) rExact)

noncomputable def s_node_Node_Tick (cf : CallK) (fuel : Nat) (t0 : AV) (t1 : AV) (h : Hp) (K : AV → Hp → Prop) : Prop :=
cf f_node_Node_Dead [t0] h fun t6 h =>
vIf t6 (
K .nilslice h) (
vNilck t0 h fun t8 h =>
vFaddr 3 t8 h fun t9 h =>
vLoad2 t9 h fun t10 h =>
cf f_session_Table_Tick [t10, t1] h fun t12 h =>
K t12 h)
theorem s_node_Node_Tick_eq (cf : CallK) (fuel : Nat) (t0 : AV) (t1 : AV) (h : Hp) (K : AV → Hp → Prop) : s_node_Node_Tick cf fuel t0 t1 h K = deepT (tabOf Tryz.prog) f_node_Node_Tick cf fuel [t0, t1] h K :=
  Eq.trans (by kernel_rfl) (rFun (by kernel_rfl) rExact)

noncomputable def s_node_Node_Vector (cf : CallK) (fuel : Nat) (t0 : AV) (h : Hp) (K : AV → Hp → Prop) : Prop :=
vEq false eqP t0 .nilptr h fun t4 h =>
vIf t4 (
K .nilslice h) (
vNilck t0 h fun t6 h =>
vFaddr 0 t6 h fun t7 h =>
vLoad2 t7 h fun t8 h =>
cf f_oplog_Log_Vector [t8] h fun t9 h =>
K t9 h)
theorem s_node_Node_Vector_eq (cf : CallK) (fuel : Nat) (t0 : AV) (h : Hp) (K : AV → Hp → Prop) : s_node_Node_Vector cf fuel t0 h K = deepT (tabOf Tryz.prog) f_node_Node_Vector cf fuel [t0] h K :=
  Eq.trans (by kernel_rfl) (rFun (by kernel_rfl) rExact)

noncomputable def s_node_Node_Ops (cf : CallK) (fuel : Nat) (t0 : AV) (h : Hp) (K : AV → Hp → Prop) : Prop :=
vEq false eqP t0 .nilptr h fun t4 h =>
vIf t4 (
K .nilslice h) (
vNilck t0 h fun t6 h =>
vFaddr 0 t6 h fun t7 h =>
vLoad2 t7 h fun t8 h =>
cf f_oplog_Log_Since [t8, .nilslice, (.int .i64 9223372036854775807)] h fun t9 h =>
K t9 h)
theorem s_node_Node_Ops_eq (cf : CallK) (fuel : Nat) (t0 : AV) (h : Hp) (K : AV → Hp → Prop) : s_node_Node_Ops cf fuel t0 h K = deepT (tabOf Tryz.prog) f_node_Node_Ops cf fuel [t0] h K :=
  Eq.trans (by kernel_rfl) (rFun (by kernel_rfl) rExact)

noncomputable def s_node_Node_Cost (cf : CallK) (fuel : Nat) (t0 : AV) (h : Hp) (K : AV → Hp → Prop) : Prop :=
vEq false eqP t0 .nilptr h fun t4 h =>
vIf t4 (
K (.int .i64 0) h) (
vNilck t0 h fun t6 h =>
vFaddr 0 t6 h fun t7 h =>
vLoad2 t7 h fun t8 h =>
cf f_oplog_Log_Cost [t8] h fun t9 h =>
K t9 h)
theorem s_node_Node_Cost_eq (cf : CallK) (fuel : Nat) (t0 : AV) (h : Hp) (K : AV → Hp → Prop) : s_node_Node_Cost cf fuel t0 h K = deepT (tabOf Tryz.prog) f_node_Node_Cost cf fuel [t0] h K :=
  Eq.trans (by kernel_rfl) (rFun (by kernel_rfl) rExact)

noncomputable def s_node_Node_Now (cf : CallK) (fuel : Nat) (t0 : AV) (h : Hp) (K : AV → Hp → Prop) : Prop :=
vEq false eqP t0 .nilptr h fun t4 h =>
vIf t4 (
K (.int .i64 0) h) (
vNilck t0 h fun t6 h =>
vFaddr 2 t6 h fun t7 h =>
vLoad2 t7 h fun t8 h =>
cf f_clock_Clock_Now [t8] h fun t9 h =>
K t9 h)
theorem s_node_Node_Now_eq (cf : CallK) (fuel : Nat) (t0 : AV) (h : Hp) (K : AV → Hp → Prop) : s_node_Node_Now cf fuel t0 h K = deepT (tabOf Tryz.prog) f_node_Node_Now cf fuel [t0] h K :=
  Eq.trans (by kernel_rfl) (rFun (by kernel_rfl) rExact)

noncomputable def s_node_Node_Dead (cf : CallK) (fuel : Nat) (t0 : AV) (h : Hp) (K : AV → Hp → Prop) : Prop :=
vEq false eqP t0 .nilptr h fun t4 h =>
joinG (fun g3 => grdV t4 false (vMov t0 h g3) (g3 undefV h)) fun t6 h =>
joinG (fun g2 => grdV t4 false (vNilck t6 h g2) (g2 undefV h)) fun t7 h =>
joinG (fun g1 => grdV t4 false (vFaddr 5 t7 h g1) (g1 undefV h)) fun t8 h =>
joinG (fun g0 => grdV t4 false (vLoad2 t8 h g0) (g0 undefV h)) fun t9 h =>
vPick t4 (.bool .true) t9 h fun t10 h =>
K t10 h
theorem s_node_Node_Dead_eq (cf : CallK) (fuel : Nat) (t0 : AV) (h : Hp) (K : AV → Hp → Prop) : s_node_Node_Dead cf fuel t0 h K = deepT (tabOf Tryz.prog) f_node_Node_Dead cf fuel [t0] h K :=
  Eq.trans (by kernel_rfl) (rFun (by kernel_rfl) rExact)

noncomputable def s_node_Format (cf : CallK) (fuel : Nat) (t0 : AV) (h : Hp) (K : AV → Hp → Prop) : Prop :=
cf f_node_may [t0] h fun t5 h =>
vNeq t5 (.int .i64 0) h fun t7 h =>
vIf t7 (
K t5 h) (
cf f_localfs_Mkfs [t0] h fun t10 h =>
K t10 h)
theorem s_node_Format_eq (cf : CallK) (fuel : Nat) (t0 : AV) (h : Hp) (K : AV → Hp → Prop) : s_node_Format cf fuel t0 h K = deepT (tabOf Tryz.prog) f_node_Format cf fuel [t0] h K :=
  Eq.trans (by kernel_rfl) (rFun (by kernel_rfl) rExact)

noncomputable def s_node_Room (cf : CallK) (fuel : Nat) (t0 : AV) (h : Hp) (K : AV → Hp → Prop) : Prop :=
cf f_localfs_Capacity [t0] h fun t4 h =>
vArith Go.Am.mulI (.int .i64 128) t4 h fun t5 h =>
vArith Go.Am.subI t5 (.int .i64 4096) h fun t6 h =>
vMin true t6 (.int .i64 0) h fun t7 h =>
K t7 h
theorem s_node_Room_eq (cf : CallK) (fuel : Nat) (t0 : AV) (h : Hp) (K : AV → Hp → Prop) : s_node_Room cf fuel t0 h K = deepT (tabOf Tryz.prog) f_node_Room cf fuel [t0] h K :=
  Eq.trans (by kernel_rfl) (rFun (by kernel_rfl) rExact)

noncomputable def s_vfs_FS_DoB0 (cf : CallK) (fuel : Nat) (K : AV → Hp → Prop) (t14 : AV) (t0 : AV) (t6 : AV) (t4 : AV) (t2 : AV) (h : Hp) : Prop :=
vLoadA 7 t4 h fun t27 h =>
vBuild [.nilptr, (.int .i64 0), (.str 0 0), (.str 0 0), (.int .i64 0), (.int .i64 0), (.int .i64 0), .nilslice, .nilfunc, .nilslice, (.int .i64 0), (.int .i64 0), .nilslice, .nilslice, (.int .i64 0), (.int .i64 0), (.bool .false), (.int .i64 0), (.int .i64 0)] [(0, 1, t0), (1, 7, t27), (8, 1, t2)] h fun t29 h =>
vBox 19 t29 h fun t30 h =>
vFaddr 0 t4 h fun t32 h =>
vLoad2 t32 h fun t33 h =>
vIaddr 1 t14 t33 h fun t34 h =>
vLoad2 t34 h fun t35 h =>
vCallV t35 [t30] cf h fun t37 h =>
vNeq t37 (.int .i64 0) h fun t39 h =>
vIf t39 (
vBuild [(.int .i64 0), (.int .i64 0), .nilslice, .nilslice, (.int .i64 0), (.int .i64 0), (.bool .false), (.int .i64 0), (.int .i64 0)] [(0, 1, t37)] h fun t41 h =>
vStore 9 t6 t41 h fun _ h =>
vLoadA 9 t6 h fun r0 _ => K (.tup [r0, .nilslice]) h) (
vNilck t30 h fun t43 h =>
vFaddr 10 t43 h fun t44 h =>
vLoadA 9 t44 h fun t45 h =>
vNilck t30 h fun t47 h =>
vFaddr 9 t47 h fun t48 h =>
vLoad2 t48 h fun t49 h =>
vStore 9 t6 t45 h fun _ h =>
vLoad2 t48 h fun c _ => gd (sameV c t49) (
vLoadA 9 t6 h fun r0 _ => K (.tup [r0, t49]) h))
noncomputable def s_vfs_FS_DoB6 (cf : CallK) (fuel : Nat) (K : AV → Hp → Prop) (t0 : AV) (t6 : AV) (t4 : AV) (t2 : AV) (h : Hp) : Prop :=
vBslice 1 17 false [.nilfunc] [(0, 1, .nilfunc), (1, 1, (.func 48 [] [])), (2, 1, (.func 49 [] [])), (3, 1, (.func 50 [] [])), (4, 1, (.func 51 [] [])), (5, 1, (.func 52 [] [])), (6, 1, (.func 53 [] [])), (7, 1, (.func 54 [] [])), (8, 1, (.func 55 [] [])), (9, 1, (.func 56 [] [])), (10, 1, (.func 57 [] [])), (11, 1, (.func 58 [] [])), (12, 1, (.func 59 [] [])), (13, 1, (.func 60 [] [])), (14, 1, (.func 61 [] [])), (15, 1, (.func 62 [] [])), (16, 1, (.func 63 [] []))] h fun t14 h =>
vFaddr 0 t4 h fun t15 h =>
vLoad2 t15 h fun t16 h =>
vLss t16 (.int .i64 1) h fun t17 h =>
joinG (fun g5 => grdV t17 false (vFaddr 0 t4 h g5) (g5 undefV h)) fun t19 h =>
joinG (fun g4 => grdV t17 false (vLoad2 t19 h g4) (g4 undefV h)) fun t20 h =>
joinG (fun g3 => grdV t17 false (vMov t14 h g3) (g3 undefV h)) fun t21 h =>
joinG (fun g2 => grdV t17 false (vLenL2 t21 h g2) (g2 undefV h)) fun t22 h =>
joinG (fun g1 => grdV t17 false (vGeq t20 t22 h g1) (g1 undefV h)) fun t23 h =>
vPick t17 (.bool .true) t23 h fun t24 h =>
vIf t24 (
vBuild [(.int .i64 0), (.int .i64 0), .nilslice, .nilslice, (.int .i64 0), (.int .i64 0), (.bool .false), (.int .i64 0), (.int .i64 0)] [(0, 1, (.int .i64 22))] h fun t25 h =>
vStore 9 t6 t25 h fun _ h =>
vLoadA 9 t6 h fun r0 _ => K (.tup [r0, .nilslice]) h) (
s_vfs_FS_DoB0 cf fuel K t14 t0 t6 t4 t2 h)
noncomputable def s_vfs_FS_Do (cf : CallK) (fuel : Nat) (t0 : AV) (t1 : AV) (t2 : AV) (h : Hp) (K : AV → Hp → Prop) : Prop :=
vBox 7 t1 h fun t4 h =>
vBox 9 (.agg [(.int .i64 0), (.int .i64 0), .nilslice, .nilslice, (.int .i64 0), (.int .i64 0), (.bool .false), (.int .i64 0), (.int .i64 0)]) h fun t6 h =>
vEq false eqP t0 .nilptr h fun t12 h =>
vIf t12 (
vBuild [(.int .i64 0), (.int .i64 0), .nilslice, .nilslice, (.int .i64 0), (.int .i64 0), (.bool .false), (.int .i64 0), (.int .i64 0)] [(0, 1, (.int .i64 5))] h fun t13 h =>
vStore 9 t6 t13 h fun _ h =>
vLoadA 9 t6 h fun r0 _ => K (.tup [r0, .nilslice]) h) (
s_vfs_FS_DoB6 cf fuel K t0 t6 t4 t2 h)
theorem s_vfs_FS_Do_eq (cf : CallK) (fuel : Nat) (t0 : AV) (t1 : AV) (t2 : AV) (h : Hp) (K : AV → Hp → Prop) : s_vfs_FS_Do cf fuel t0 t1 t2 h K = deepT (tabOf Tryz.prog) f_vfs_FS_Do cf fuel [t0, t1, t2] h K :=
  Eq.trans (by kernel_rfl) (rFun (by kernel_rfl) rExact)

noncomputable def s_oplog_Log_FitsE0 (cf : CallK) (fuel : Nat) (K : AV → Hp → Prop) (t0 : AV) : AV → Hp → Prop := fun t5 h =>
vNilck t0 h fun t28 h =>
vFaddr 1 t28 h fun t29 h =>
vLoad2 t29 h fun t30 h =>
vLeq t5 t30 h fun t31 h =>
K t31 h
noncomputable def s_oplog_Log_FitsL1B (cf : CallK) (fuel : Nat) (e0 : AV → Hp → Prop) (t0 : AV) (t14 : AV) (t15 : AV) (ih1 : AV → AV → Hp → Prop) : AV → AV → Hp → Prop := fun t5 t16 h =>
vLss t16 t15 h fun t17 h =>
vIf t17 (
(fun (e2 : AV → Hp → Prop) =>
vIaddr 11 t14 t16 h fun t18 h =>
vLoadA 11 t18 h fun t19 h =>
vBox 11 (.agg [(.int .i64 0), (.int .i64 0), (.int .i64 0), (.int .i64 0), (.int .i64 0), (.int .i64 0), (.int .i64 0), (.int .i64 0), (.str 0 0), .nilslice, .nilslice]) h fun t7 h =>
vStore 11 t7 t19 h fun _ h =>
vLoadA 11 t7 h fun t21 h =>
cf f_ops_Cost [t21] h fun t22 h =>
vAdd t22 (.int .i64 16) h fun t23 h =>
vAdd t5 t23 h fun t24 h =>
e2 t24 h) fun t5 h =>
vAdd t16 (.int .i64 1) h fun t25 h =>
ih1 t5 t25 h) (
e0 t5 h)
noncomputable def s_oplog_Log_FitsL1 (cf : CallK) (fuel : Nat) (e0 : AV → Hp → Prop) (t0 : AV) (t14 : AV) (t15 : AV) (m : Nat) : AV → AV → Hp → Prop := Nat.rec (motive := fun _ => AV → AV → Hp → Prop) (fun _ _ _ => False) (fun _ ih => s_oplog_Log_FitsL1B cf fuel e0 t0 t14 t15 ih) m
theorem s_oplog_Log_FitsL1_succ (cf : CallK) (fuel : Nat) (e0 : AV → Hp → Prop) (t0 : AV) (t14 : AV) (t15 : AV) (m : Nat) : s_oplog_Log_FitsL1 cf fuel e0 t0 t14 t15 (m + 1) = s_oplog_Log_FitsL1B cf fuel e0 t0 t14 t15 (s_oplog_Log_FitsL1 cf fuel e0 t0 t14 t15 m) := rfl
noncomputable def s_oplog_Log_Fits (cf : CallK) (fuel : Nat) (t0 : AV) (t1 : AV) (h : Hp) (K : AV → Hp → Prop) : Prop :=
vEq false eqP t0 .nilptr h fun t9 h =>
vIf t9 (
K (.bool .false) h) (
vNilck t0 h fun t11 h =>
vFaddr 67 t11 h fun t12 h =>
vLoad2 t12 h fun t13 h =>
vLenL2 t1 h fun t15 h =>
(fun (e0 : AV → Hp → Prop) =>
s_oplog_Log_FitsL1 cf fuel (s_oplog_Log_FitsE0 cf fuel K t0) t0 t1 t15 fuel t13 (.int .i64 0) h) (s_oplog_Log_FitsE0 cf fuel K t0))
theorem s_oplog_Log_Fits_eq (cf : CallK) (fuel : Nat) (t0 : AV) (t1 : AV) (h : Hp) (K : AV → Hp → Prop) : s_oplog_Log_Fits cf fuel t0 t1 h K = deepT (tabOf Tryz.prog) f_oplog_Log_Fits cf fuel [t0, t1] h K :=
  Eq.trans (by kernel_rfl) (rFun (by kernel_rfl) (rSeq (by kernel_rfl) (rSeq (by kernel_rfl) (rSeq (by kernel_rfl) (rSeq (by kernel_rfl) rExact (rSeq (by kernel_rfl) (rBlock (by kernel_rfl) (rLoop (by kernel_rfl) (fun m1 fr h => s_oplog_Log_FitsL1 cf fuel (s_oplog_Log_FitsE0 cf fuel K (getS fr (gpos 0))) (getS fr (gpos 0)) (getS fr (gpos 14)) (getS fr (gpos 15)) m1 (getS fr (gpos 5)) (getS fr (gpos 16)) h) (funext fun fr => funext fun h => by kernel_rfl) fun m1 => rCast (funext fun fr => funext fun h => by kernel_rfl) rExact)) rExact)) rExact) rExact) rExact))

noncomputable def s_node_Node_keepB0 (cf : CallK) (fuel : Nat) (K : AV → Hp → Prop) (t0 : AV) (h : Hp) : Prop :=
cf f_codec_NewWriter [] h fun t17 h =>
vNilck t0 h fun t20 h =>
vFaddr 2 t20 h fun t21 h =>
vLoad2 t21 h fun t22 h =>
cf f_clock_Clock_Lease [t22] h fun t23 h =>
cf f_codec_Writer_Num [t17, t23] h fun t24 h =>
cf f_codec_Writer_Done [t17] h fun t27 h =>
vExtract 0 t27 h fun t28 h =>
vExtract 1 t27 h fun t29 h =>
vNilck t0 h fun t31 h =>
vFaddr 0 t31 h fun t32 h =>
vLoad2 t32 h fun t33 h =>
cf f_oplog_Log_SetMeta [t33, t28] h fun t35 h =>
vNeq t35 (.int .i64 0) h fun t37 h =>
vIf t37 (
cf f_node_Node_fails [t0, t35] h fun t40 h =>
K t40 h) (
vNilck t0 h fun t43 h =>
vFaddr 2 t43 h fun t44 h =>
vLoad2 t44 h fun t45 h =>
cf f_clock_Clock_Lease [t45] h fun t46 h =>
vNilck t0 h fun t47 h =>
vFaddr 4 t47 h fun t48 h =>
vStore 1 t48 t46 h fun _ h =>
vNilck t0 h fun t51 h =>
vFaddr 0 t51 h fun t52 h =>
vLoad2 t52 h fun t53 h =>
cf f_oplog_Log_Sync [t53] h fun t54 h =>
cf f_node_Node_fails [t0, t54] h fun t55 h =>
K t55 h)
noncomputable def s_node_Node_keep (cf : CallK) (fuel : Nat) (t0 : AV) (h : Hp) (K : AV → Hp → Prop) : Prop :=
vNilck t0 h fun t8 h =>
vFaddr 2 t8 h fun t9 h =>
vLoad2 t9 h fun t10 h =>
vNilck t0 h fun t13 h =>
vFaddr 4 t13 h fun t14 h =>
vLoad2 t14 h fun t15 h =>
cf f_clock_Clock_Lease [t10] h fun t11 h =>
vLoad2 t14 h fun c _ => gd (sameV c t15) (
vEql t11 t15 h fun t16 h =>
vIf t16 (
K (.int .i64 0) h) (
s_node_Node_keepB0 cf fuel K t0 h))
theorem s_node_Node_keep_eq (cf : CallK) (fuel : Nat) (t0 : AV) (h : Hp) (K : AV → Hp → Prop) : s_node_Node_keep cf fuel t0 h K = deepT (tabOf Tryz.prog) f_node_Node_keep cf fuel [t0] h K :=
  Eq.trans (by kernel_rfl) (rFun (by kernel_rfl) rExact)

noncomputable def s_oplog_Log_AddB2 (cf : CallK) (fuel : Nat) (K : AV → Hp → Prop) (t9 : AV) (t0 : AV) (t6 : AV) (t10 : AV) (h : Hp) : Prop :=
vNilck t6 h fun t110 h =>
vFaddr 2 t110 h fun t111 h =>
vLoadA 64 t111 h fun t112 h =>
vNilck t6 h fun t114 h =>
vFaddr 66 t114 h fun t115 h =>
vLoad2 t115 h fun t116 h =>
vNilck t6 h fun t118 h =>
vFaddr 67 t118 h fun t119 h =>
vLoad2 t119 h fun t120 h =>
vNilck t0 h fun t121 h =>
vFaddr 2 t121 h fun t122 h =>
vStore 64 t122 t112 h fun _ h =>
vNilck t0 h fun t123 h =>
vFaddr 66 t123 h fun t124 h =>
vStore 1 t124 t116 h fun _ h =>
vNilck t0 h fun t125 h =>
vFaddr 67 t125 h fun t126 h =>
vStore 1 t126 t120 h fun _ h =>
K (.tup [t9, t10]) h
noncomputable def s_oplog_Log_AddE1 (cf : CallK) (fuel : Nat) (K : AV → Hp → Prop) (t0 : AV) (t6 : AV) : AV → AV → AV → Hp → Prop := fun t8 t9 t10 h =>
vGtr t9 (.int .i64 0) h fun t95 h =>
joinG (fun g10 => grdV t95 true (vMov t0 h g10) (g10 undefV h)) fun t97 h =>
joinG (fun g9 => grdV t95 true (vMov t8 h g9) (g9 undefV h)) fun t98 h =>
joinG (fun g8 => grdV t95 true (vMov t0 h g8) (g8 undefV h)) fun t99 h =>
joinG (fun g7 => grdV t95 true (vNilck t99 h g7) (g7 undefV h)) fun t100 h =>
joinG (fun g6 => grdV t95 true (vFaddr 68 t100 h g6) (g6 undefV h)) fun t101 h =>
joinG (fun g5 => grdV t95 true (vLoad2 t101 h g5) (g5 undefV h)) fun t102 h =>
joinG (fun g4 => grdV t95 true (cf f_oplog_Log_keep [t97, t98, t102] h g4) (g4 undefV h)) fun t103 h =>
joinG (fun g3 => grdV t95 true (vNeq t103 (.int .i64 0) h g3) (g3 undefV h)) fun t104 h =>
vPick t95 t104 (.bool .false) h fun t105 h =>
vIf t105 (
K (.tup [(.int .i64 0), (.int .i64 5)]) h) (
s_oplog_Log_AddB2 cf fuel K t9 t0 t6 t10 h)
noncomputable def s_oplog_Log_AddB14 (cf : CallK) (fuel : Nat) (e1 : AV → AV → AV → Hp → Prop) (e13 : AV → Hp → Prop) (t6 : AV) (t12 : AV) (t0 : AV) (t8 : AV) (t9 : AV) (t10 : AV) (h : Hp) : Prop :=
vNilck t6 h fun t72 h =>
vFaddr 67 t72 h fun t73 h =>
vLoad2 t73 h fun t74 h =>
vLoadA 11 t12 h fun t75 h =>
vNilck t0 h fun t80 h =>
vFaddr 1 t80 h fun t81 h =>
vLoad2 t81 h fun t82 h =>
cf f_ops_Cost [t75] h fun t76 h =>
vLoad2 t73 h fun c _ => gd (sameV c t74) (
vLoad2 t81 h fun c _ => gd (sameV c t82) (
vAdd t74 t76 h fun t77 h =>
vAdd t77 (.int .i64 16) h fun t78 h =>
vGtr t78 t82 h fun t83 h =>
vIf t83 (
e1 t8 t9 (.int .i64 28) h) (
e13 t10 h)))
noncomputable def s_oplog_Log_AddB15 (cf : CallK) (fuel : Nat) (ih11 : AV → AV → AV → AV → Hp → Prop) (e1 : AV → AV → AV → Hp → Prop) (t0 : AV) (t6 : AV) (t59 : AV) (t8 : AV) (t9 : AV) (t10 : AV) (t61 : AV) (h : Hp) : Prop :=
(fun (e12 : AV → AV → AV → Hp → Prop) =>
vIaddr 11 t59 t61 h fun t63 h =>
vLoadA 11 t63 h fun t64 h =>
vBox 11 (.agg [(.int .i64 0), (.int .i64 0), (.int .i64 0), (.int .i64 0), (.int .i64 0), (.int .i64 0), (.int .i64 0), (.int .i64 0), (.str 0 0), .nilslice, .nilslice]) h fun t12 h =>
vStore 11 t12 t64 h fun _ h =>
(fun (e13 : AV → Hp → Prop) =>
vLoadA 11 t12 h fun t67 h =>
cf f_oplog_Log_takes [t6, t67] h fun t68 h =>
vNot t68 h fun t69 h =>
vIf t69 (
e1 t8 t9 (.int .i64 22) h) (
s_oplog_Log_AddB14 cf fuel e1 e13 t6 t12 t0 t8 t9 t10 h)) fun t10 h =>
vLoadA 11 t12 h fun t85 h =>
cf f_oplog_Log_put [t6, t85] h fun t86 h =>
vLoadA 11 t12 h fun t88 h =>
cf f_oplog_written [t88] h fun t89 h =>
vAppend2 1 1 true t8 t89 h fun t90 h =>
vAdd t9 (.int .i64 1) h fun t92 h =>
e12 t90 t92 t10 h) fun t8 t9 t10 h =>
vAdd t61 (.int .i64 1) h fun t93 h =>
ih11 t8 t9 t10 t93 h
noncomputable def s_oplog_Log_AddL11B (cf : CallK) (fuel : Nat) (e1 : AV → AV → AV → Hp → Prop) (t0 : AV) (t6 : AV) (t59 : AV) (t60 : AV) (ih11 : AV → AV → AV → AV → Hp → Prop) : AV → AV → AV → AV → Hp → Prop := fun t8 t9 t10 t61 h =>
vLss t61 t60 h fun t62 h =>
vIf t62 (
s_oplog_Log_AddB15 cf fuel ih11 e1 t0 t6 t59 t8 t9 t10 t61 h) (
e1 t8 t9 t10 h)
noncomputable def s_oplog_Log_AddL11 (cf : CallK) (fuel : Nat) (e1 : AV → AV → AV → Hp → Prop) (t0 : AV) (t6 : AV) (t59 : AV) (t60 : AV) (m : Nat) : AV → AV → AV → AV → Hp → Prop := Nat.rec (motive := fun _ => AV → AV → AV → AV → Hp → Prop) (fun _ _ _ _ _ => False) (fun _ ih => s_oplog_Log_AddL11B cf fuel e1 t0 t6 t59 t60 ih) m
theorem s_oplog_Log_AddL11_succ (cf : CallK) (fuel : Nat) (e1 : AV → AV → AV → Hp → Prop) (t0 : AV) (t6 : AV) (t59 : AV) (t60 : AV) (m : Nat) : s_oplog_Log_AddL11 cf fuel e1 t0 t6 t59 t60 (m + 1) = s_oplog_Log_AddL11B cf fuel e1 t0 t6 t59 t60 (s_oplog_Log_AddL11 cf fuel e1 t0 t6 t59 t60 m) := rfl
noncomputable def s_oplog_Log_AddE0 (cf : CallK) (fuel : Nat) (K : AV → Hp → Prop) (t0 : AV) (t1 : AV) (t6 : AV) : Hp → Prop := fun h =>
vLenL2 t1 h fun t60 h =>
(fun (e1 : AV → AV → AV → Hp → Prop) =>
s_oplog_Log_AddL11 cf fuel (s_oplog_Log_AddE1 cf fuel K t0 t6) t0 t6 t1 t60 fuel .nilslice (.int .i64 0) (.int .i64 0) (.int .i64 0) h) (s_oplog_Log_AddE1 cf fuel K t0 t6)
noncomputable def s_oplog_Log_AddB18 (cf : CallK) (fuel : Nat) (ih16 : AV → Hp → Prop) (t6 : AV) (t29 : AV) (h : Hp) : Prop :=
(fun (e17 : Hp → Prop) =>
vNilck t6 h fun t36 h =>
vFaddr 2 t36 h fun t37 h =>
vIaddrA 1 64 t37 t29 h fun t38 h =>
vLoad2 t38 h fun t39 h =>
vNilck t6 h fun t42 h =>
vFaddr 2 t42 h fun t43 h =>
vIaddrA 1 64 t43 t29 h fun t44 h =>
vLoad2 t44 h fun t45 h =>
vLenL2 t45 h fun t46 h =>
vNilck t6 h fun t49 h =>
vFaddr 2 t49 h fun t50 h =>
vIaddrA 1 64 t50 t29 h fun t51 h =>
vLoad2 t51 h fun t52 h =>
vLenL2 t52 h fun t53 h =>
vSlice3 11 t39 none t46 t53 h fun t54 h =>
vNilck t6 h fun t55 h =>
vFaddr 2 t55 h fun t56 h =>
vIaddrA 1 64 t56 t29 h fun t57 h =>
vStore 1 t57 t54 h fun _ h =>
e17 h) fun h =>
vAdd t29 (.int .i64 1) h fun t58 h =>
ih16 t58 h
noncomputable def s_oplog_Log_AddL16B (cf : CallK) (fuel : Nat) (e0 : Hp → Prop) (t0 : AV) (t1 : AV) (t6 : AV) (ih16 : AV → Hp → Prop) : AV → Hp → Prop := fun t29 h =>
vLss t29 (.int .i64 64) h fun t30 h =>
vIf t30 (
s_oplog_Log_AddB18 cf fuel ih16 t6 t29 h) (
e0 h)
noncomputable def s_oplog_Log_AddL16 (cf : CallK) (fuel : Nat) (e0 : Hp → Prop) (t0 : AV) (t1 : AV) (t6 : AV) (m : Nat) : AV → Hp → Prop := Nat.rec (motive := fun _ => AV → Hp → Prop) (fun _ _ => False) (fun _ ih => s_oplog_Log_AddL16B cf fuel e0 t0 t1 t6 ih) m
theorem s_oplog_Log_AddL16_succ (cf : CallK) (fuel : Nat) (e0 : Hp → Prop) (t0 : AV) (t1 : AV) (t6 : AV) (m : Nat) : s_oplog_Log_AddL16 cf fuel e0 t0 t1 t6 (m + 1) = s_oplog_Log_AddL16B cf fuel e0 t0 t1 t6 (s_oplog_Log_AddL16 cf fuel e0 t0 t1 t6 m) := rfl
noncomputable def s_oplog_Log_Add (cf : CallK) (fuel : Nat) (t0 : AV) (t1 : AV) (h : Hp) (K : AV → Hp → Prop) : Prop :=
vEq false eqP t0 .nilptr h fun t14 h =>
vIf t14 (
K (.tup [(.int .i64 0), (.int .i64 5)]) h) (
vNilck t0 h fun t16 h =>
vFaddr 2 t16 h fun t17 h =>
vLoadA 64 t17 h fun t18 h =>
vNilck t0 h fun t20 h =>
vFaddr 66 t20 h fun t21 h =>
vLoad2 t21 h fun t22 h =>
vNilck t0 h fun t24 h =>
vFaddr 67 t24 h fun t25 h =>
vLoad2 t25 h fun t26 h =>
vBuild [.nilptr, (.int .i64 0), .nilslice, .nilslice, .nilslice, .nilslice, .nilslice, .nilslice, .nilslice, .nilslice, .nilslice, .nilslice, .nilslice, .nilslice, .nilslice, .nilslice, .nilslice, .nilslice, .nilslice, .nilslice, .nilslice, .nilslice, .nilslice, .nilslice, .nilslice, .nilslice, .nilslice, .nilslice, .nilslice, .nilslice, .nilslice, .nilslice, .nilslice, .nilslice, .nilslice, .nilslice, .nilslice, .nilslice, .nilslice, .nilslice, .nilslice, .nilslice, .nilslice, .nilslice, .nilslice, .nilslice, .nilslice, .nilslice, .nilslice, .nilslice, .nilslice, .nilslice, .nilslice, .nilslice, .nilslice, .nilslice, .nilslice, .nilslice, .nilslice, .nilslice, .nilslice, .nilslice, .nilslice, .nilslice, .nilslice, .nilslice, .nilslice, (.int .i64 0), .nilslice, (.int .i64 0)] [(2, 64, t18), (66, 1, t22), (67, 1, t26)] h fun t27 h =>
vBox 70 t27 h fun t28 h =>
(fun (e0 : Hp → Prop) =>
s_oplog_Log_AddL16 cf fuel (s_oplog_Log_AddE0 cf fuel K t0 t1 t28) t0 t1 t28 fuel (.int .i64 0) h) (s_oplog_Log_AddE0 cf fuel K t0 t1 t28))
theorem s_oplog_Log_Add_eq (cf : CallK) (fuel : Nat) (t0 : AV) (t1 : AV) (h : Hp) (K : AV → Hp → Prop) : s_oplog_Log_Add cf fuel t0 t1 h K = deepT (tabOf Tryz.prog) f_oplog_Log_Add cf fuel [t0, t1] h K :=
  Eq.trans (by kernel_rfl) (rFun (by kernel_rfl) (rSeq (by kernel_rfl) (rScope (by kernel_rfl) (rSeq (by kernel_rfl) (rSeq (by kernel_rfl) (rSeq (by kernel_rfl) (rSeq (by kernel_rfl) (rSeq (by kernel_rfl) (rSeq (by kernel_rfl) (rSeq (by kernel_rfl) rExact (rSeq (by kernel_rfl) (rBlock (by kernel_rfl) (rLoop (by kernel_rfl) (fun m11 fr h => s_oplog_Log_AddL11 cf fuel (s_oplog_Log_AddE1 cf fuel K (getS fr (gpos 0)) (getS fr (gpos 6))) (getS fr (gpos 0)) (getS fr (gpos 6)) (getS fr (gpos 59)) (getS fr (gpos 60)) m11 (getS fr (gpos 8)) (getS fr (gpos 9)) (getS fr (gpos 10)) (getS fr (gpos 61)) h) (funext fun fr => funext fun h => by kernel_rfl) fun m11 => rCast (funext fun fr => funext fun h => by kernel_rfl) rExact)) rExact)) rExact) rExact) rExact) (rSeq (by kernel_rfl) (rBlock (by kernel_rfl) (rLoop (by kernel_rfl) (fun m16 fr h => s_oplog_Log_AddL16 cf fuel (s_oplog_Log_AddE0 cf fuel K (getS fr (gpos 0)) (getS fr (gpos 1)) (getS fr (gpos 6))) (getS fr (gpos 0)) (getS fr (gpos 1)) (getS fr (gpos 6)) m16 (getS fr (gpos 29)) h) (funext fun fr => funext fun h => by kernel_rfl) fun m16 => rCast (funext fun fr => funext fun h => by kernel_rfl) rExact)) rExact)) rExact) rExact)) rExact))

noncomputable def s_oplog_Log_Sync (cf : CallK) (fuel : Nat) (t0 : AV) (h : Hp) (K : AV → Hp → Prop) : Prop :=
vEq false eqP t0 .nilptr h fun t4 h =>
vIf t4 (
K (.int .i64 5) h) (
vNilck t0 h fun t6 h =>
vFaddr 0 t6 h fun t7 h =>
vLoad2 t7 h fun t8 h =>
cf f_localfs_FS_Sync [t8] h fun t9 h =>
K t9 h)
theorem s_oplog_Log_Sync_eq (cf : CallK) (fuel : Nat) (t0 : AV) (h : Hp) (K : AV → Hp → Prop) : s_oplog_Log_Sync cf fuel t0 h K = deepT (tabOf Tryz.prog) f_oplog_Log_Sync cf fuel [t0] h K :=
  Eq.trans (by kernel_rfl) (rFun (by kernel_rfl) rExact)

noncomputable def s_node_Node_fails (cf : CallK) (fuel : Nat) (t0 : AV) (t1 : AV) (h : Hp) (K : AV → Hp → Prop) : Prop :=
vEql t1 (.int .i64 0) h fun t6 h =>
vIf t6 (
K (.int .i64 0) h) (
vNilck t0 h fun t8 h =>
vFaddr 5 t8 h fun t9 h =>
vStore 1 t9 (.bool .true) h fun _ h =>
K (.int .i64 5) h)
theorem s_node_Node_fails_eq (cf : CallK) (fuel : Nat) (t0 : AV) (t1 : AV) (h : Hp) (K : AV → Hp → Prop) : s_node_Node_fails cf fuel t0 t1 h K = deepT (tabOf Tryz.prog) f_node_Node_fails cf fuel [t0, t1] h K :=
  Eq.trans (by kernel_rfl) (rFun (by kernel_rfl) rExact)

noncomputable def s_node_may (cf : CallK) (fuel : Nat) (t0 : AV) (h : Hp) (K : AV → Hp → Prop) : Prop :=
cf f_device_Device_Blocks [t0] h fun t4 h =>
cf f_node_Room [t4] h fun t5 h =>
vLss t5 (.int .i64 4096) h fun t6 h =>
vIf t6 (
K (.int .i64 22) h) (
K (.int .i64 0) h)
theorem s_node_may_eq (cf : CallK) (fuel : Nat) (t0 : AV) (h : Hp) (K : AV → Hp → Prop) : s_node_may cf fuel t0 h K = deepT (tabOf Tryz.prog) f_node_may cf fuel [t0] h K :=
  Eq.trans (by kernel_rfl) (rFun (by kernel_rfl) rExact)

noncomputable def s_localfs_MountE0 (cf : CallK) (fuel : Nat) (K : AV → Hp → Prop) (t7 : AV) : Hp → Prop := fun h =>
vNilck t7 h fun t55 h =>
vFaddr 3 t55 h fun t56 h =>
vLoad2 t56 h fun t57 h =>
vBslice 1 15 true [(.int .u8 0)] [(0, 1, (.int .u8 108)), (1, 1, (.int .u8 97)), (2, 1, (.int .u8 103)), (3, 1, (.int .u8 111)), (4, 1, (.int .u8 111)), (5, 1, (.int .u8 110)), (6, 1, (.int .u8 39)), (7, 1, (.int .u8 115)), (8, 1, (.int .u8 32)), (9, 1, (.int .u8 102)), (10, 1, (.int .u8 105)), (11, 1, (.int .u8 108)), (12, 1, (.int .u8 101)), (13, 1, (.int .u8 115)), (14, 1, (.int .u8 10))] h fun t58 h =>
vStrish t58 h fun t59 h =>
cf f_bytes_CutPrefix [t57, t59] h fun t60 h =>
vExtract 0 t60 h fun t61 h =>
vExtract 1 t60 h fun t62 h =>
(fun (j1 : Hp → Prop) =>
vIf t62 (
cf f_localfs_read [t61] h fun t67 h =>
vExtract 0 t67 h fun t68 h =>
vExtract 1 t67 h fun t69 h =>
vNilck t7 h fun t70 h =>
vFaddr 2 t70 h fun t71 h =>
vStore 1 t71 t68 h fun _ h =>
j1 h) (
j1 h)) fun h =>
vNilck t7 h fun t73 h =>
vFaddr 2 t73 h fun t74 h =>
vLoad2 t74 h fun t75 h =>
vEq false eqP t75 .nilptr h fun t76 h =>
joinG (fun g9 => grdV t76 false (vMov t7 h g9) (g9 undefV h)) fun t78 h =>
joinG (fun g8 => grdV t76 false (vNilck t78 h g8) (g8 undefV h)) fun t79 h =>
joinG (fun g7 => grdV t76 false (vFaddr 2 t79 h g7) (g7 undefV h)) fun t80 h =>
joinG (fun g6 => grdV t76 false (vLoad2 t80 h g6) (g6 undefV h)) fun t81 h =>
joinG (fun g5 => grdV t76 false (vNilck t81 h g5) (g5 undefV h)) fun t82 h =>
joinG (fun g4 => grdV t76 false (vFaddr 0 t82 h g4) (g4 undefV h)) fun t83 h =>
joinG (fun g3 => grdV t76 false (vLoad2 t83 h g3) (g3 undefV h)) fun t84 h =>
joinG (fun g2 => grdV t76 false (vNot t84 h g2) (g2 undefV h)) fun t85 h =>
vPick t76 (.bool .true) t85 h fun t86 h =>
vIf t86 (
K (.tup [.nilptr, (.int .i64 74)]) h) (
K (.tup [t7, (.int .i64 0)]) h)
noncomputable def s_localfs_MountL10B (cf : CallK) (fuel : Nat) (e0 : Hp → Prop) (t5 : AV) (t7 : AV) (t33 : AV) (ih10 : AV → Hp → Prop) : AV → Hp → Prop := fun t34 h =>
vLss t34 t33 h fun t35 h =>
vIf t35 (
(fun (e11 : Hp → Prop) =>
cf f_wal_Volume_Read [t5, t34] h fun t40 h =>
vExtract 0 t40 h fun t41 h =>
vExtract 1 t40 h fun t42 h =>
vNilck t7 h fun t45 h =>
vFaddr 3 t45 h fun t46 h =>
vLoad2 t46 h fun t47 h =>
vAppend2 1 1 true t47 t41 h fun t49 h =>
vNilck t7 h fun t50 h =>
vFaddr 3 t50 h fun t51 h =>
vStore 1 t51 t49 h fun _ h =>
e11 h) fun h =>
vAdd t34 (.int .i64 1) h fun t52 h =>
ih10 t52 h) (
e0 h)
noncomputable def s_localfs_MountL10 (cf : CallK) (fuel : Nat) (e0 : Hp → Prop) (t5 : AV) (t7 : AV) (t33 : AV) (m : Nat) : AV → Hp → Prop := Nat.rec (motive := fun _ => AV → Hp → Prop) (fun _ _ => False) (fun _ ih => s_localfs_MountL10B cf fuel e0 t5 t7 t33 ih) m
theorem s_localfs_MountL10_succ (cf : CallK) (fuel : Nat) (e0 : Hp → Prop) (t5 : AV) (t7 : AV) (t33 : AV) (m : Nat) : s_localfs_MountL10 cf fuel e0 t5 t7 t33 (m + 1) = s_localfs_MountL10B cf fuel e0 t5 t7 t33 (s_localfs_MountL10 cf fuel e0 t5 t7 t33 m) := rfl
noncomputable def s_localfs_Mount (cf : CallK) (fuel : Nat) (t0 : AV) (h : Hp) (K : AV → Hp → Prop) : Prop :=
cf f_localfs_may [t0] h fun t14 h =>
vNeq t14 (.int .i64 0) h fun t16 h =>
vIf t16 (
K (.tup [.nilptr, t14]) h) (
cf f_wal_Mount [t0] h fun t20 h =>
vExtract 0 t20 h fun t21 h =>
vExtract 1 t20 h fun t22 h =>
vNeq t22 (.int .i64 0) h fun t24 h =>
vIf t24 (
K (.tup [.nilptr, t22]) h) (
cf f_device_Device_Blocks [t0] h fun t28 h =>
cf f_localfs_Capacity [t28] h fun t29 h =>
vBuild [.nilptr, (.int .i64 0), .nilptr, .nilslice] [(0, 1, t21), (1, 1, t29)] h fun t30 h =>
vBox 4 t30 h fun t31 h =>
cf f_wal_Volume_Blocks [t21] h fun t33 h =>
(fun (e0 : Hp → Prop) =>
s_localfs_MountL10 cf fuel (s_localfs_MountE0 cf fuel K t31) t21 t31 t33 fuel (.int .i64 0) h) (s_localfs_MountE0 cf fuel K t31)))
theorem s_localfs_Mount_eq (cf : CallK) (fuel : Nat) (t0 : AV) (h : Hp) (K : AV → Hp → Prop) : s_localfs_Mount cf fuel t0 h K = deepT (tabOf Tryz.prog) f_localfs_Mount cf fuel [t0] h K :=
  Eq.trans (by kernel_rfl) (rFun (by kernel_rfl) (rSeq (by kernel_rfl) (rSeq (by kernel_rfl) (rSeq (by kernel_rfl) (rSeq (by kernel_rfl) (rSeq (by kernel_rfl) (rSeq (by kernel_rfl) rExact (rSeq (by kernel_rfl) (rBlock (by kernel_rfl) (rLoop (by kernel_rfl) (fun m10 fr h => s_localfs_MountL10 cf fuel (s_localfs_MountE0 cf fuel K (getS fr (gpos 7))) (getS fr (gpos 5)) (getS fr (gpos 7)) (getS fr (gpos 33)) m10 (getS fr (gpos 34)) h) (funext fun fr => funext fun h => by kernel_rfl) fun m10 => rCast (funext fun fr => funext fun h => by kernel_rfl) rExact)) rExact)) rExact) rExact) rExact) rExact) rExact))

noncomputable def s_oplog_OpenB1 (cf : CallK) (fuel : Nat) (K : AV → Hp → Prop) (t0 : AV) (t1 : AV) (h : Hp) : Prop :=
vBuild [.nilptr, (.int .i64 0), .nilslice, .nilslice, .nilslice, .nilslice, .nilslice, .nilslice, .nilslice, .nilslice, .nilslice, .nilslice, .nilslice, .nilslice, .nilslice, .nilslice, .nilslice, .nilslice, .nilslice, .nilslice, .nilslice, .nilslice, .nilslice, .nilslice, .nilslice, .nilslice, .nilslice, .nilslice, .nilslice, .nilslice, .nilslice, .nilslice, .nilslice, .nilslice, .nilslice, .nilslice, .nilslice, .nilslice, .nilslice, .nilslice, .nilslice, .nilslice, .nilslice, .nilslice, .nilslice, .nilslice, .nilslice, .nilslice, .nilslice, .nilslice, .nilslice, .nilslice, .nilslice, .nilslice, .nilslice, .nilslice, .nilslice, .nilslice, .nilslice, .nilslice, .nilslice, .nilslice, .nilslice, .nilslice, .nilslice, .nilslice, .nilslice, (.int .i64 0), .nilslice, (.int .i64 0)] [(0, 1, t0), (1, 1, t1)] h fun t18 h =>
vBox 70 t18 h fun t19 h =>
cf f_oplog_head [] h fun t22 h =>
cf f_localfs_FS_Read [t0, t22, (.int .i64 0), (.int .i64 65536)] h fun t23 h =>
vExtract 0 t23 h fun t24 h =>
vExtract 1 t23 h fun t25 h =>
(fun (e0 : Hp → Prop) =>
vEql t25 (.int .i64 2) h fun t29 h =>
vIf t29 (
K (.tup [t19, (.int .i64 0)]) h) (
vEql t25 (.int .i64 0) h fun t32 h =>
vIf t32 (
e0 h) (
K (.tup [.nilptr, t25]) h))) fun h =>
cf f_codec_NewReader [t24] h fun t34 h =>
cf f_codec_Reader_Num [t34] h fun t38 h =>
cf f_codec_Reader_Bytes [t34] h fun t40 h =>
vNilck t19 h fun t41 h =>
vFaddr 69 t41 h fun t42 h =>
vStore 1 t42 t38 h fun _ h =>
vNilck t19 h fun t43 h =>
vFaddr 68 t43 h fun t44 h =>
vStore 1 t44 t40 h fun _ h =>
cf f_codec_Reader_Done [t34] h fun t46 h =>
vNeq t46 (.int .i64 0) h fun t47 h =>
vIf t47 (
K (.tup [.nilptr, (.int .i64 74)]) h) (
cf f_oplog_Log_load [t19] h fun t50 h =>
K (.tup [t19, t50]) h)
noncomputable def s_oplog_Open (cf : CallK) (fuel : Nat) (t0 : AV) (t1 : AV) (h : Hp) (K : AV → Hp → Prop) : Prop :=
vEq false eqP t0 .nilptr h fun t11 h =>
joinG (fun g3 => grdV t11 false (vMov t1 h g3) (g3 undefV h)) fun t13 h =>
joinG (fun g2 => grdV t11 false (vLss t13 (.int .i64 0) h g2) (g2 undefV h)) fun t14 h =>
vPick t11 (.bool .true) t14 h fun t15 h =>
vIf t15 (
K (.tup [.nilptr, (.int .i64 22)]) h) (
s_oplog_OpenB1 cf fuel K t0 t1 h)
theorem s_oplog_Open_eq (cf : CallK) (fuel : Nat) (t0 : AV) (t1 : AV) (h : Hp) (K : AV → Hp → Prop) : s_oplog_Open cf fuel t0 t1 h K = deepT (tabOf Tryz.prog) f_oplog_Open cf fuel [t0, t1] h K :=
  Eq.trans (by kernel_rfl) (rFun (by kernel_rfl) rExact)

noncomputable def s_device_Device_Blocks (cf : CallK) (fuel : Nat) (t0 : AV) (h : Hp) (K : AV → Hp → Prop) : Prop :=
vEq false eqP t0 .nilptr h fun t4 h =>
vIf t4 (
K (.int .i64 0) h) (
vNilck t0 h fun t6 h =>
vFaddr 0 t6 h fun t7 h =>
vLoad2 t7 h fun t8 h =>
vLenL2 t8 h fun t9 h =>
K t9 h)
theorem s_device_Device_Blocks_eq (cf : CallK) (fuel : Nat) (t0 : AV) (h : Hp) (K : AV → Hp → Prop) : s_device_Device_Blocks cf fuel t0 h K = deepT (tabOf Tryz.prog) f_device_Device_Blocks cf fuel [t0] h K :=
  Eq.trans (by kernel_rfl) (rFun (by kernel_rfl) rExact)

noncomputable def s_node_Node_kept (cf : CallK) (fuel : Nat) (t0 : AV) (h : Hp) (K : AV → Hp → Prop) : Prop :=
vNilck t0 h fun t8 h =>
vFaddr 0 t8 h fun t9 h =>
vLoad2 t9 h fun t10 h =>
cf f_oplog_Log_Meta [t10] h fun t11 h =>
vLenL2 t11 h fun t13 h =>
vEql t13 (.int .i64 0) h fun t14 h =>
vIf t14 (
K (.tup [(.int .i64 0), (.int .i64 0)]) h) (
cf f_codec_NewReader [t11] h fun t16 h =>
cf f_codec_Reader_Num [t16] h fun t18 h =>
cf f_codec_Reader_Done [t16] h fun t20 h =>
vNeq t20 (.int .i64 0) h fun t21 h =>
joinG (fun g1 => grdV t21 false (vMov t18 h g1) (g1 undefV h)) fun t23 h =>
joinG (fun g0 => grdV t21 false (vGtr t23 (.int .i64 1152921504606846976) h g0) (g0 undefV h)) fun t24 h =>
vPick t21 (.bool .true) t24 h fun t25 h =>
vIf t25 (
K (.tup [(.int .i64 0), (.int .i64 74)]) h) (
K (.tup [t18, (.int .i64 0)]) h))
theorem s_node_Node_kept_eq (cf : CallK) (fuel : Nat) (t0 : AV) (h : Hp) (K : AV → Hp → Prop) : s_node_Node_kept cf fuel t0 h K = deepT (tabOf Tryz.prog) f_node_Node_kept cf fuel [t0] h K :=
  Eq.trans (by kernel_rfl) (rFun (by kernel_rfl) rExact)


end Go.Proofs.YtciipeallilmiaaGreatDoor.sh0
