/- The Go functions' code as the abstract machine's, over values; each is the code that the machine makes of the program's (theorems s_.._eq). No condition. -/
import Derived.Test.YtciipeallilmiaaGreatDoorAmC
import Derived.Test.YtciipeallilmiaaGreatDoorProg
import Derived.KernelRfl
namespace Go.Proofs.YtciipeallilmiaaGreatDoor.sh1
open Go Go.Am Go.Proofs
set_option linter.unusedVariables false
set_option maxRecDepth 100000
abbrev f_clock_Clock_Now : Nat := 45
abbrev f_clock_New : Nat := 33
abbrev f_clock_node : Nat := 102
abbrev f_container_heap_Pop : Nat := 109
abbrev f_container_heap_Push : Nat := 107
abbrev f_device_Device_Crash : Nat := 42
abbrev f_device_New : Nat := 8
abbrev f_fds_New : Nat := 104
abbrev f_fds_Table_Close : Nat := 129
abbrev f_fds_Table_Get : Nat := 126
abbrev f_fds_Table_Open : Nat := 125
abbrev f_fds_Table_Room : Nat := 123
abbrev f_fds_Table_Seek : Nat := 128
abbrev f_lagoonlaw24_Fresh : Nat := 41
abbrev f_localfs_Capacity : Nat := 47
abbrev f_localfs_FS_Sync : Nat := 74
abbrev f_localfs_FS_commit : Nat := 118
abbrev f_localfs_Mkfs : Nat := 46
abbrev f_localfs_folder : Nat := 119
abbrev f_localfs_may : Nat := 90
abbrev f_node_Boot : Nat := 7
abbrev f_node_Format : Nat := 16
abbrev f_node_Node_add : Nat := 39
abbrev f_node_Node_fails : Nat := 23
abbrev f_node_Node_keep : Nat := 20
abbrev f_node_Node_load : Nat := 40
abbrev f_oplog_Log_Add : Nat := 21
abbrev f_oplog_Log_Cost : Nat := 44
abbrev f_oplog_Log_Get : Nat := 112
abbrev f_oplog_Log_Since : Nat := 38
abbrev f_oplog_Log_Vector : Nat := 37
abbrev f_oplog_rests_Len : Nat := 108
abbrev f_ops_Copy : Nat := 110
abbrev f_path_Fresh : Nat := 130
abbrev f_session_Hands : Nat := 36
abbrev f_session_New : Nat := 35
abbrev f_session_Table_Active : Nat := 113
abbrev f_session_Table_Tick : Nat := 43
abbrev f_session_late : Nat := 115
abbrev f_session_waiting_Len : Nat := 114
abbrev f_slices_Sort_int_int : Nat := 116
abbrev f_vector_At : Nat := 106
abbrev f_vector_Norm : Nat := 105
abbrev f_vfs_FS_Load : Nat := 111
abbrev f_vfs_New : Nat := 34
abbrev f_vfs_call_bare : Nat := 135
abbrev f_vfs_call_close : Nat := 52
abbrev f_vfs_call_conflicts : Nat := 62
abbrev f_vfs_call_create : Nat := 121
abbrev f_vfs_call_dir : Nat := 134
abbrev f_vfs_call_file : Nat := 137
abbrev f_vfs_call_find : Nat := 120
abbrev f_vfs_call_gone : Nat := 136
abbrev f_vfs_call_link : Nat := 60
abbrev f_vfs_call_make : Nat := 131
abbrev f_vfs_call_mkdir : Nat := 53
abbrev f_vfs_call_open : Nat := 48
abbrev f_vfs_call_read : Nat := 49
abbrev f_vfs_call_readdir : Nat := 57
abbrev f_vfs_call_rename : Nat := 56
abbrev f_vfs_call_rmdir : Nat := 54
abbrev f_vfs_call_seek : Nat := 51
abbrev f_vfs_call_stat : Nat := 58
abbrev f_vfs_call_sync : Nat := 59
abbrev f_vfs_call_there : Nat := 140
abbrev f_vfs_call_truncate : Nat := 61
abbrev f_vfs_call_unlink : Nat := 55
abbrev f_vfs_call_write : Nat := 50
abbrev f_vfs_call_written : Nat := 124
abbrev f_vfs_place_name : Nat := 132
abbrev f_vfs_place_root : Nat := 133
abbrev f_view_New : Nat := 103
abbrev f_view_View_Below : Nat := 138
abbrev f_view_View_Heads : Nat := 142
abbrev f_view_View_List : Nat := 141
abbrev f_view_View_Read : Nat := 127
abbrev f_view_View_Stat : Nat := 122
abbrev f_view_View_Where : Nat := 139
abbrev f_wal_Format : Nat := 117
abbrev f_wal_Mount : Nat := 91

noncomputable def s_clock_New (cf : CallK) (fuel : Nat) (t0 : AV) (t1 : AV) (t2 : AV) (h : Hp) (K : AV → Hp → Prop) : Prop :=
cf f_clock_node [t0] h fun t8 h =>
vNot t8 h fun t9 h =>
joinG (fun g6 => grdV t9 false (vMov t1 h g6) (g6 undefV h)) fun t11 h =>
joinG (fun g5 => grdV t9 false (vLss t11 (.int .i64 0) h g5) (g5 undefV h)) fun t12 h =>
vPick t9 (.bool .true) t12 h fun t13 h =>
joinG (fun g4 => grdV t13 false (vMov t2 h g4) (g4 undefV h)) fun t15 h =>
joinG (fun g3 => grdV t13 false (vGtr t15 (.int .i64 1152921504606846976) h g3) (g3 undefV h)) fun t16 h =>
vPick t13 (.bool .true) t16 h fun t17 h =>
joinG (fun g2 => grdV t17 false (vMov t2 h g2) (g2 undefV h)) fun t19 h =>
joinG (fun g1 => grdV t17 false (vMov t1 h g1) (g1 undefV h)) fun t20 h =>
joinG (fun g0 => grdV t17 false (vLss t19 t20 h g0) (g0 undefV h)) fun t21 h =>
vPick t17 (.bool .true) t21 h fun t22 h =>
vIf t22 (
K .nilptr h) (
vBuild [(.int .i64 0), (.int .i64 0), (.int .i64 0)] [(0, 1, t0), (1, 1, t1), (2, 1, t2)] h fun t26 h =>
vBox 3 t26 h fun t27 h =>
K t27 h)
theorem s_clock_New_eq (cf : CallK) (fuel : Nat) (t0 : AV) (t1 : AV) (t2 : AV) (h : Hp) (K : AV → Hp → Prop) : s_clock_New cf fuel t0 t1 t2 h K = deepT (tabOf Tryz.prog) f_clock_New cf fuel [t0, t1, t2] h K :=
  Eq.trans (by kernel_rfl) (rFun (by kernel_rfl) rExact)

noncomputable def s_vfs_New (cf : CallK) (fuel : Nat) (t0 : AV) (t1 : AV) (h : Hp) (K : AV → Hp → Prop) : Prop :=
vLss t0 (.int .i64 0) h fun t6 h =>
joinG (fun g3 => grdV t6 false (vMov t0 h g3) (g3 undefV h)) fun t8 h =>
joinG (fun g2 => grdV t6 false (vGeq t8 (.int .i64 64) h g2) (g2 undefV h)) fun t9 h =>
vPick t6 (.bool .true) t9 h fun t10 h =>
joinG (fun g1 => grdV t10 false (vMov t1 h g1) (g1 undefV h)) fun t12 h =>
joinG (fun g0 => grdV t10 false (vEq false eqP t12 .nilptr h g0) (g0 undefV h)) fun t13 h =>
vPick t10 (.bool .true) t13 h fun t14 h =>
vIf t14 (
K .nilptr h) (
cf f_view_New [] h fun t17 h =>
cf f_fds_New [] h fun t18 h =>
vBuild [(.int .i64 0), .nilptr, .nilptr, .nilslice, .nilptr] [(0, 1, t0), (1, 1, t1), (2, 1, t17), (4, 1, t18)] h fun t19 h =>
vBox 5 t19 h fun t20 h =>
K t20 h)
theorem s_vfs_New_eq (cf : CallK) (fuel : Nat) (t0 : AV) (t1 : AV) (h : Hp) (K : AV → Hp → Prop) : s_vfs_New cf fuel t0 t1 h K = deepT (tabOf Tryz.prog) f_vfs_New cf fuel [t0, t1] h K :=
  Eq.trans (by kernel_rfl) (rFun (by kernel_rfl) rExact)

noncomputable def s_oplog_Log_Vector (cf : CallK) (fuel : Nat) (t0 : AV) (h : Hp) (K : AV → Hp → Prop) : Prop :=
vEq false eqP t0 .nilptr h fun t4 h =>
vIf t4 (
K .nilslice h) (
vNilck t0 h fun t6 h =>
vFaddr 66 t6 h fun t7 h =>
vLoad2 t7 h fun t8 h =>
cf f_vector_Norm [t8] h fun t9 h =>
K t9 h)
theorem s_oplog_Log_Vector_eq (cf : CallK) (fuel : Nat) (t0 : AV) (h : Hp) (K : AV → Hp → Prop) : s_oplog_Log_Vector cf fuel t0 h K = deepT (tabOf Tryz.prog) f_oplog_Log_Vector cf fuel [t0] h K :=
  Eq.trans (by kernel_rfl) (rFun (by kernel_rfl) rExact)

noncomputable def s_oplog_Log_SinceE1 (cf : CallK) (fuel : Nat) (K : AV → Hp → Prop) : AV → Hp → Prop := fun t11 h =>
K t11 h
noncomputable def s_oplog_Log_SinceB4 (cf : CallK) (fuel : Nat) (ih2 : AV → Hp → Prop) (t7 : AV) (t11 : AV) (h : Hp) : Prop :=
(fun (e3 : AV → Hp → Prop) =>
vIface 168 t7 h fun t52 h =>
cf f_container_heap_Pop [t52] h fun t53 h =>
vAssert 49 false .nilslice t53 h fun t54 h =>
vIaddr 11 t54 (.int .i64 0) h fun t57 h =>
vLoadA 11 t57 h fun t58 h =>
cf f_ops_Copy [t58] h fun t59 h =>
vBslice 11 1 false [(.int .i64 0), (.int .i64 0), (.int .i64 0), (.int .i64 0), (.int .i64 0), (.int .i64 0), (.int .i64 0), (.int .i64 0), (.str 0 0), .nilslice, .nilslice] [(0, 11, t59)] h fun t60 h =>
vAppend2 11 128 false t11 t60 h fun t61 h =>
vLenL2 t54 h fun t63 h =>
vGtr t63 (.int .i64 1) h fun t64 h =>
vIf t64 (
vIface 168 t7 h fun t66 h =>
vSlice2 11 t54 (some (.int .i64 1)) none h fun t68 h =>
vIface 49 t68 h fun t69 h =>
cf f_container_heap_Push [t66, t69] h fun t70 h =>
e3 t61 h) (
e3 t61 h)) fun t11 h =>
ih2 t11 h
noncomputable def s_oplog_Log_SinceL2B (cf : CallK) (fuel : Nat) (e1 : AV → Hp → Prop) (t2 : AV) (t7 : AV) (ih2 : AV → Hp → Prop) : AV → Hp → Prop := fun t11 h =>
vNilck t7 h fun t41 h =>
vLoad2 t41 h fun t42 h =>
cf f_oplog_rests_Len [t42] h fun t43 h =>
vGtr t43 (.int .i64 0) h fun t44 h =>
joinG (fun g8 => grdV t44 true (vMov t11 h g8) (g8 undefV h)) fun t46 h =>
joinG (fun g7 => grdV t44 true (vLenL2 t46 h g7) (g7 undefV h)) fun t47 h =>
joinG (fun g6 => grdV t44 true (vMov t2 h g6) (g6 undefV h)) fun t48 h =>
joinG (fun g5 => grdV t44 true (vLss t47 t48 h g5) (g5 undefV h)) fun t49 h =>
vPick t44 t49 (.bool .false) h fun t50 h =>
vIf t50 (
s_oplog_Log_SinceB4 cf fuel ih2 t7 t11 h) (
e1 t11 h)
noncomputable def s_oplog_Log_SinceL2 (cf : CallK) (fuel : Nat) (e1 : AV → Hp → Prop) (t2 : AV) (t7 : AV) (m : Nat) : AV → Hp → Prop := Nat.rec (motive := fun _ => AV → Hp → Prop) (fun _ _ => False) (fun _ ih => s_oplog_Log_SinceL2B cf fuel e1 t2 t7 ih) m
theorem s_oplog_Log_SinceL2_succ (cf : CallK) (fuel : Nat) (e1 : AV → Hp → Prop) (t2 : AV) (t7 : AV) (m : Nat) : s_oplog_Log_SinceL2 cf fuel e1 t2 t7 (m + 1) = s_oplog_Log_SinceL2B cf fuel e1 t2 t7 (s_oplog_Log_SinceL2 cf fuel e1 t2 t7 m) := rfl
noncomputable def s_oplog_Log_SinceE0 (cf : CallK) (fuel : Nat) (K : AV → Hp → Prop) (t2 : AV) (t7 : AV) : Hp → Prop := fun h =>
(fun (e1 : AV → Hp → Prop) =>
s_oplog_Log_SinceL2 cf fuel (s_oplog_Log_SinceE1 cf fuel K) t2 t7 fuel .nilslice h) (s_oplog_Log_SinceE1 cf fuel K)
noncomputable def s_oplog_Log_SinceL9B (cf : CallK) (fuel : Nat) (e0 : Hp → Prop) (t1 : AV) (t2 : AV) (t7 : AV) (t20 : AV) (ih9 : AV → Hp → Prop) : AV → Hp → Prop := fun t21 h =>
vLss t21 (.int .i64 64) h fun t22 h =>
vIf t22 (
(fun (e10 : Hp → Prop) =>
vIdx 64 t20 t21 h fun t24 h =>
cf f_vector_At [t1, t21] h fun t27 h =>
vLenL2 t24 h fun t30 h =>
vLss t27 t30 h fun t31 h =>
vIf t31 (
vIface 168 t7 h fun t33 h =>
vSlice2 11 t24 (some t27) none h fun t36 h =>
vIface 49 t36 h fun t37 h =>
cf f_container_heap_Push [t33, t37] h fun t38 h =>
e10 h) (
e10 h)) fun h =>
vAdd t21 (.int .i64 1) h fun t39 h =>
ih9 t39 h) (
e0 h)
noncomputable def s_oplog_Log_SinceL9 (cf : CallK) (fuel : Nat) (e0 : Hp → Prop) (t1 : AV) (t2 : AV) (t7 : AV) (t20 : AV) (m : Nat) : AV → Hp → Prop := Nat.rec (motive := fun _ => AV → Hp → Prop) (fun _ _ => False) (fun _ ih => s_oplog_Log_SinceL9B cf fuel e0 t1 t2 t7 t20 ih) m
theorem s_oplog_Log_SinceL9_succ (cf : CallK) (fuel : Nat) (e0 : Hp → Prop) (t1 : AV) (t2 : AV) (t7 : AV) (t20 : AV) (m : Nat) : s_oplog_Log_SinceL9 cf fuel e0 t1 t2 t7 t20 (m + 1) = s_oplog_Log_SinceL9B cf fuel e0 t1 t2 t7 t20 (s_oplog_Log_SinceL9 cf fuel e0 t1 t2 t7 t20 m) := rfl
noncomputable def s_oplog_Log_Since (cf : CallK) (fuel : Nat) (t0 : AV) (t1 : AV) (t2 : AV) (h : Hp) (K : AV → Hp → Prop) : Prop :=
vEq false eqP t0 .nilptr h fun t14 h =>
vIf t14 (
K .nilslice h) (
vBslice 1 0 false [.nilslice] [] h fun t15 h =>
vBox 1 t15 h fun t16 h =>
vNilck t0 h fun t18 h =>
vFaddr 2 t18 h fun t19 h =>
vLoadA 64 t19 h fun t20 h =>
(fun (e0 : Hp → Prop) =>
s_oplog_Log_SinceL9 cf fuel (s_oplog_Log_SinceE0 cf fuel K t2 t16) t1 t2 t16 t20 fuel (.int .i64 0) h) (s_oplog_Log_SinceE0 cf fuel K t2 t16))
theorem s_oplog_Log_Since_eq (cf : CallK) (fuel : Nat) (t0 : AV) (t1 : AV) (t2 : AV) (h : Hp) (K : AV → Hp → Prop) : s_oplog_Log_Since cf fuel t0 t1 t2 h K = deepT (tabOf Tryz.prog) f_oplog_Log_Since cf fuel [t0, t1, t2] h K :=
  Eq.trans (by kernel_rfl) (rFun (by kernel_rfl) (rSeq (by kernel_rfl) (rSeq (by kernel_rfl) (rSeq (by kernel_rfl) (rSeq (by kernel_rfl) (rSeq (by kernel_rfl) (rSeq (by kernel_rfl) rExact (rBlock (by kernel_rfl) (rLoop (by kernel_rfl) (fun m2 fr h => s_oplog_Log_SinceL2 cf fuel (s_oplog_Log_SinceE1 cf fuel K) (getS fr (gpos 2)) (getS fr (gpos 7)) m2 (getS fr (gpos 11)) h) (funext fun fr => funext fun h => by kernel_rfl) fun m2 => rCast (funext fun fr => funext fun h => by kernel_rfl) rExact))) rExact) (rSeq (by kernel_rfl) (rBlock (by kernel_rfl) (rLoop (by kernel_rfl) (fun m9 fr h => s_oplog_Log_SinceL9 cf fuel (s_oplog_Log_SinceE0 cf fuel K (getS fr (gpos 2)) (getS fr (gpos 7))) (getS fr (gpos 1)) (getS fr (gpos 2)) (getS fr (gpos 7)) (getS fr (gpos 20)) m9 (getS fr (gpos 21)) h) (funext fun fr => funext fun h => by kernel_rfl) fun m9 => rCast (funext fun fr => funext fun h => by kernel_rfl) rExact)) rExact)) rExact) rExact) rExact))

noncomputable def s_node_Node_loadE0 (cf : CallK) (fuel : Nat) (K : AV → Hp → Prop) : Hp → Prop := fun h =>
K (.tup []) h
noncomputable def s_node_Node_loadE2 (cf : CallK) (fuel : Nat) (ih1 : AV → Hp → Prop) (t0 : AV) (t2 : AV) : AV → Hp → Prop := fun t3 h =>
ih1 t3 h
noncomputable def s_node_Node_loadE3 (cf : CallK) (fuel : Nat) (e2 : AV → Hp → Prop) (t0 : AV) (t2 : AV) : AV → Hp → Prop := fun t3 h =>
e2 t3 h
noncomputable def s_node_Node_loadE5 (cf : CallK) (fuel : Nat) (ih4 : AV → AV → Hp → Prop) (t0 : AV) (t2 : AV) (t8 : AV) : AV → Hp → Prop := fun t3 h =>
vAdd t8 (.int .i64 1) h fun t40 h =>
ih4 t3 t40 h
noncomputable def s_node_Node_loadE6 (cf : CallK) (fuel : Nat) (e5 : AV → Hp → Prop) (t0 : AV) (t2 : AV) (t8 : AV) : AV → Hp → Prop := fun t3 h =>
e5 t3 h
noncomputable def s_node_Node_loadL7B (cf : CallK) (fuel : Nat) (e6 : AV → Hp → Prop) (t0 : AV) (t2 : AV) (t4 : AV) (t8 : AV) (ih7 : AV → Hp → Prop) : AV → Hp → Prop := fun t3 h =>
(fun (e8 : AV → Hp → Prop) =>
vNilck t0 h fun t13 h =>
vFaddr 0 t13 h fun t14 h =>
vLoad2 t14 h fun t15 h =>
vIaddrA 1 64 t2 t4 h fun t18 h =>
vLoad2 t18 h fun t19 h =>
vAdd t19 (.int .i64 1) h fun t20 h =>
cf f_oplog_Log_Get [t15, t4, t20] h fun t21 h =>
vExtract 0 t21 h fun t22 h =>
vExtract 1 t21 h fun t23 h =>
vBox 11 (.agg [(.int .i64 0), (.int .i64 0), (.int .i64 0), (.int .i64 0), (.int .i64 0), (.int .i64 0), (.int .i64 0), (.int .i64 0), (.str 0 0), .nilslice, .nilslice]) h fun t5 h =>
vLoad2 t14 h fun c _ => gd (sameV c t15) (
vLoad2 t18 h fun c _ => gd (sameV c t19) (
vStore 11 t5 t22 h fun _ h =>
vNot t23 h fun t25 h =>
joinG (fun g15 => grdV t25 false (vMov t0 h g15) (g15 undefV h)) fun t27 h =>
joinG (fun g14 => grdV t25 false (vNilck t27 h g14) (g14 undefV h)) fun t28 h =>
joinG (fun g13 => grdV t25 false (vFaddr 1 t28 h g13) (g13 undefV h)) fun t29 h =>
joinG (fun g12 => grdV t25 false (vLoad2 t29 h g12) (g12 undefV h)) fun t30 h =>
joinG (fun g11 => grdV t25 false (vLoadA 11 t5 h g11) (g11 undefV h)) fun t31 h =>
joinG (fun g10 => grdV t25 false (cf f_vfs_FS_Load [t30, t31] h g10) (g10 undefV h)) fun t32 h =>
joinG (fun g9 => grdV t25 false (vNeq t32 (.int .i64 0) h g9) (g9 undefV h)) fun t33 h =>
vPick t25 (.bool .true) t33 h fun t34 h =>
vIf t34 (
e6 t3 h) (
vIaddrA 1 64 t2 t4 h fun t36 h =>
vLoad2 t36 h fun t37 h =>
vAdd t37 (.int .i64 1) h fun t38 h =>
vIaddrA 1 64 t2 t4 h fun t39 h =>
vStore 1 t39 t38 h fun _ h =>
e8 (.bool .true) h)))) fun t3 h =>
ih7 t3 h
noncomputable def s_node_Node_loadL7 (cf : CallK) (fuel : Nat) (e6 : AV → Hp → Prop) (t0 : AV) (t2 : AV) (t4 : AV) (t8 : AV) (m : Nat) : AV → Hp → Prop := Nat.rec (motive := fun _ => AV → Hp → Prop) (fun _ _ => False) (fun _ ih => s_node_Node_loadL7B cf fuel e6 t0 t2 t4 t8 ih) m
theorem s_node_Node_loadL7_succ (cf : CallK) (fuel : Nat) (e6 : AV → Hp → Prop) (t0 : AV) (t2 : AV) (t4 : AV) (t8 : AV) (m : Nat) : s_node_Node_loadL7 cf fuel e6 t0 t2 t4 t8 (m + 1) = s_node_Node_loadL7B cf fuel e6 t0 t2 t4 t8 (s_node_Node_loadL7 cf fuel e6 t0 t2 t4 t8 m) := rfl
noncomputable def s_node_Node_loadL4B (cf : CallK) (fuel : Nat) (e3 : AV → Hp → Prop) (t0 : AV) (t2 : AV) (ih4 : AV → AV → Hp → Prop) : AV → AV → Hp → Prop := fun t3 t8 h =>
vLss t8 (.int .i64 64) h fun t9 h =>
vIf t9 (
(fun (e5 : AV → Hp → Prop) =>
(fun (e6 : AV → Hp → Prop) =>
s_node_Node_loadL7 cf fuel (s_node_Node_loadE6 cf fuel (s_node_Node_loadE5 cf fuel ih4 t0 t2 t8) t0 t2 t8) t0 t2 t8 t8 fuel t3 h) (s_node_Node_loadE6 cf fuel (s_node_Node_loadE5 cf fuel ih4 t0 t2 t8) t0 t2 t8)) (s_node_Node_loadE5 cf fuel ih4 t0 t2 t8)) (
e3 t3 h)
noncomputable def s_node_Node_loadL4 (cf : CallK) (fuel : Nat) (e3 : AV → Hp → Prop) (t0 : AV) (t2 : AV) (m : Nat) : AV → AV → Hp → Prop := Nat.rec (motive := fun _ => AV → AV → Hp → Prop) (fun _ _ _ => False) (fun _ ih => s_node_Node_loadL4B cf fuel e3 t0 t2 ih) m
theorem s_node_Node_loadL4_succ (cf : CallK) (fuel : Nat) (e3 : AV → Hp → Prop) (t0 : AV) (t2 : AV) (m : Nat) : s_node_Node_loadL4 cf fuel e3 t0 t2 (m + 1) = s_node_Node_loadL4B cf fuel e3 t0 t2 (s_node_Node_loadL4 cf fuel e3 t0 t2 m) := rfl
noncomputable def s_node_Node_loadL1B (cf : CallK) (fuel : Nat) (e0 : Hp → Prop) (t0 : AV) (t2 : AV) (ih1 : AV → Hp → Prop) : AV → Hp → Prop := fun t3 h =>
vIf t3 (
(fun (e2 : AV → Hp → Prop) =>
(fun (e3 : AV → Hp → Prop) =>
s_node_Node_loadL4 cf fuel (s_node_Node_loadE3 cf fuel (s_node_Node_loadE2 cf fuel ih1 t0 t2) t0 t2) t0 t2 fuel (.bool .false) (.int .i64 0) h) (s_node_Node_loadE3 cf fuel (s_node_Node_loadE2 cf fuel ih1 t0 t2) t0 t2)) (s_node_Node_loadE2 cf fuel ih1 t0 t2)) (
e0 h)
noncomputable def s_node_Node_loadL1 (cf : CallK) (fuel : Nat) (e0 : Hp → Prop) (t0 : AV) (t2 : AV) (m : Nat) : AV → Hp → Prop := Nat.rec (motive := fun _ => AV → Hp → Prop) (fun _ _ => False) (fun _ ih => s_node_Node_loadL1B cf fuel e0 t0 t2 ih) m
theorem s_node_Node_loadL1_succ (cf : CallK) (fuel : Nat) (e0 : Hp → Prop) (t0 : AV) (t2 : AV) (m : Nat) : s_node_Node_loadL1 cf fuel e0 t0 t2 (m + 1) = s_node_Node_loadL1B cf fuel e0 t0 t2 (s_node_Node_loadL1 cf fuel e0 t0 t2 m) := rfl
noncomputable def s_node_Node_load (cf : CallK) (fuel : Nat) (t0 : AV) (h : Hp) (K : AV → Hp → Prop) : Prop :=
vBox 64 (.agg (List.replicate 64 (.int .i64 0))) h fun t2 h =>
(fun (e0 : Hp → Prop) =>
s_node_Node_loadL1 cf fuel (s_node_Node_loadE0 cf fuel K) t0 t2 fuel (.bool .true) h) (s_node_Node_loadE0 cf fuel K)
theorem s_node_Node_load_eq (cf : CallK) (fuel : Nat) (t0 : AV) (h : Hp) (K : AV → Hp → Prop) : s_node_Node_load cf fuel t0 h K = deepT (tabOf Tryz.prog) f_node_Node_load cf fuel [t0] h K :=
  Eq.trans (by kernel_rfl) (rFun (by kernel_rfl) (rSeq (by kernel_rfl) (rSeq (by kernel_rfl) (rBlock (by kernel_rfl) (rLoop (by kernel_rfl) (fun m1 fr h => s_node_Node_loadL1 cf fuel (s_node_Node_loadE0 cf fuel K) (getS fr (gpos 0)) (getS fr (gpos 2)) m1 (getS fr (gpos 3)) h) (funext fun fr => funext fun h => by kernel_rfl) fun m1 => rCast (funext fun fr => funext fun h => by kernel_rfl) (rSeq (by kernel_rfl) (rBlock (by kernel_rfl) (rSeq (by kernel_rfl) (rSeq (by kernel_rfl) (rBlock (by kernel_rfl) (rLoop (by kernel_rfl) (fun m4 fr h => s_node_Node_loadL4 cf fuel (s_node_Node_loadE3 cf fuel (s_node_Node_loadE2 cf fuel (s_node_Node_loadL1 cf fuel (s_node_Node_loadE0 cf fuel K) (getS fr (gpos 0)) (getS fr (gpos 2)) m1) (getS fr (gpos 0)) (getS fr (gpos 2))) (getS fr (gpos 0)) (getS fr (gpos 2))) (getS fr (gpos 0)) (getS fr (gpos 2)) m4 (getS fr (gpos 3)) (getS fr (gpos 8)) h) (funext fun fr => funext fun h => by kernel_rfl) fun m4 => rCast (funext fun fr => funext fun h => by kernel_rfl) (rSeq (by kernel_rfl) (rSeq (by kernel_rfl) (rSeq (by kernel_rfl) rExact (rBlock (by kernel_rfl) (rSeq (by kernel_rfl) (rBlock (by kernel_rfl) (rLoop (by kernel_rfl) (fun m7 fr h => s_node_Node_loadL7 cf fuel (s_node_Node_loadE6 cf fuel (s_node_Node_loadE5 cf fuel (s_node_Node_loadL4 cf fuel (s_node_Node_loadE3 cf fuel (s_node_Node_loadE2 cf fuel (s_node_Node_loadL1 cf fuel (s_node_Node_loadE0 cf fuel K) (getS fr (gpos 0)) (getS fr (gpos 2)) m1) (getS fr (gpos 0)) (getS fr (gpos 2))) (getS fr (gpos 0)) (getS fr (gpos 2))) (getS fr (gpos 0)) (getS fr (gpos 2)) m4) (getS fr (gpos 0)) (getS fr (gpos 2)) (getS fr (gpos 8))) (getS fr (gpos 0)) (getS fr (gpos 2)) (getS fr (gpos 8))) (getS fr (gpos 0)) (getS fr (gpos 2)) (getS fr (gpos 4)) (getS fr (gpos 8)) m7 (getS fr (gpos 3)) h) (funext fun fr => funext fun h => by kernel_rfl) fun m7 => rCast (funext fun fr => funext fun h => by kernel_rfl) rExact)) rExact))) rExact) rExact))) rExact) rExact)) rExact))) rExact) rExact))

noncomputable def s_lagoonlaw24_Fresh (cf : CallK) (fuel : Nat) (t0 : AV) (t1 : AV) (h : Hp) (K : AV → Hp → Prop) : Prop :=
cf f_device_New [t0] h fun t11 h =>
cf f_node_Format [t11] h fun t13 h =>
cf f_node_Boot [t11, t1] h fun t17 h =>
vExtract 0 t17 h fun t18 h =>
vExtract 1 t17 h fun t19 h =>
vNeq t13 (.int .i64 0) h fun t21 h =>
joinG (fun g1 => grdV t21 false (vMov t19 h g1) (g1 undefV h)) fun t23 h =>
joinG (fun g0 => grdV t21 false (vNeq t23 (.int .i64 0) h g0) (g0 undefV h)) fun t24 h =>
vPick t21 (.bool .true) t24 h fun t25 h =>
vIf t25 (
K (.tup [.nilptr, .nilptr]) h) (
K (.tup [t11, t18]) h)
theorem s_lagoonlaw24_Fresh_eq (cf : CallK) (fuel : Nat) (t0 : AV) (t1 : AV) (h : Hp) (K : AV → Hp → Prop) : s_lagoonlaw24_Fresh cf fuel t0 t1 h K = deepT (tabOf Tryz.prog) f_lagoonlaw24_Fresh cf fuel [t0, t1] h K :=
  Eq.trans (by kernel_rfl) (rFun (by kernel_rfl) rExact)

noncomputable def s_device_Device_CrashE0 (cf : CallK) (fuel : Nat) (K : AV → Hp → Prop) (t5 : AV) : Hp → Prop := fun h =>
K t5 h
noncomputable def s_device_Device_CrashB9 (cf : CallK) (fuel : Nat) (ih1 : AV → Hp → Prop) (t1 : AV) (t5 : AV) (t20 : AV) (t22 : AV) (h : Hp) : Prop :=
(fun (e2 : Hp → Prop) =>
vIaddr 3 t20 t22 h fun t25 h =>
vLoadA 3 t25 h fun t26 h =>
vBox 3 (.agg [.nilslice, .nilslice, (.bool .false)]) h fun t7 h =>
vStore 3 t7 t26 h fun _ h =>
vFaddr 1 t7 h fun t27 h =>
vLoad2 t27 h fun t28 h =>
(fun (j3 : AV → Hp → Prop) =>
vFaddr 2 t7 h fun t29 h =>
vLoad2 t29 h fun t30 h =>
joinG (fun g8 => grdV t30 true (vMov t1 h g8) (g8 undefV h)) fun t32 h =>
joinG (fun g7 => grdV t30 true (vEq true eqNF t32 .nilfunc h g7) (g7 undefV h)) fun t33 h =>
vPick t30 t33 (.bool .false) h fun t34 h =>
joinG (fun g6 => grdV t34 true (vMov t1 h g6) (g6 undefV h)) fun t36 h =>
joinG (fun g5 => grdV t34 true (vMov t22 h g5) (g5 undefV h)) fun t37 h =>
joinG (fun g4 => grdV t34 true (vCallV t36 [t37] cf h g4) (g4 undefV h)) fun t38 h =>
vPick t34 t38 (.bool .false) h fun t39 h =>
vIf t39 (
vFaddr 0 t7 h fun t40 h =>
vLoad2 t40 h fun t41 h =>
j3 t41 h) (
j3 t28 h)) fun t8 h =>
vNilck t5 h fun t43 h =>
vFaddr 0 t43 h fun t44 h =>
vLoad2 t44 h fun t45 h =>
vBuild [.nilslice, .nilslice, (.bool .false)] [(0, 1, t8), (1, 1, t8)] h fun t49 h =>
vIaddr 3 t45 t22 h fun t50 h =>
vStore 3 t50 t49 h fun _ h =>
e2 h) fun h =>
vAdd t22 (.int .i64 1) h fun t51 h =>
ih1 t51 h
noncomputable def s_device_Device_CrashL1B (cf : CallK) (fuel : Nat) (e0 : Hp → Prop) (t1 : AV) (t5 : AV) (t20 : AV) (t21 : AV) (ih1 : AV → Hp → Prop) : AV → Hp → Prop := fun t22 h =>
vLss t22 t21 h fun t23 h =>
vIf t23 (
s_device_Device_CrashB9 cf fuel ih1 t1 t5 t20 t22 h) (
e0 h)
noncomputable def s_device_Device_CrashL1 (cf : CallK) (fuel : Nat) (e0 : Hp → Prop) (t1 : AV) (t5 : AV) (t20 : AV) (t21 : AV) (m : Nat) : AV → Hp → Prop := Nat.rec (motive := fun _ => AV → Hp → Prop) (fun _ _ => False) (fun _ ih => s_device_Device_CrashL1B cf fuel e0 t1 t5 t20 t21 ih) m
theorem s_device_Device_CrashL1_succ (cf : CallK) (fuel : Nat) (e0 : Hp → Prop) (t1 : AV) (t5 : AV) (t20 : AV) (t21 : AV) (m : Nat) : s_device_Device_CrashL1 cf fuel e0 t1 t5 t20 t21 (m + 1) = s_device_Device_CrashL1B cf fuel e0 t1 t5 t20 t21 (s_device_Device_CrashL1 cf fuel e0 t1 t5 t20 t21 m) := rfl
noncomputable def s_device_Device_Crash (cf : CallK) (fuel : Nat) (t0 : AV) (t1 : AV) (h : Hp) (K : AV → Hp → Prop) : Prop :=
vEq false eqP t0 .nilptr h fun t10 h =>
vIf t10 (
K .nilptr h) (
vNilck t0 h fun t12 h =>
vFaddr 0 t12 h fun t13 h =>
vLoad2 t13 h fun t14 h =>
vLenL2 t14 h fun t15 h =>
cf f_device_New [t15] h fun t16 h =>
vNilck t0 h fun t18 h =>
vFaddr 0 t18 h fun t19 h =>
vLoad2 t19 h fun t20 h =>
vLenL2 t20 h fun t21 h =>
(fun (e0 : Hp → Prop) =>
s_device_Device_CrashL1 cf fuel (s_device_Device_CrashE0 cf fuel K t16) t1 t16 t20 t21 fuel (.int .i64 0) h) (s_device_Device_CrashE0 cf fuel K t16))
theorem s_device_Device_Crash_eq (cf : CallK) (fuel : Nat) (t0 : AV) (t1 : AV) (h : Hp) (K : AV → Hp → Prop) : s_device_Device_Crash cf fuel t0 t1 h K = deepT (tabOf Tryz.prog) f_device_Device_Crash cf fuel [t0, t1] h K :=
  Eq.trans (by kernel_rfl) (rFun (by kernel_rfl) (rSeq (by kernel_rfl) (rSeq (by kernel_rfl) (rSeq (by kernel_rfl) (rSeq (by kernel_rfl) rExact (rSeq (by kernel_rfl) (rBlock (by kernel_rfl) (rLoop (by kernel_rfl) (fun m1 fr h => s_device_Device_CrashL1 cf fuel (s_device_Device_CrashE0 cf fuel K (getS fr (gpos 5))) (getS fr (gpos 1)) (getS fr (gpos 5)) (getS fr (gpos 20)) (getS fr (gpos 21)) m1 (getS fr (gpos 22)) h) (funext fun fr => funext fun h => by kernel_rfl) fun m1 => rCast (funext fun fr => funext fun h => by kernel_rfl) rExact)) rExact)) rExact) rExact) rExact))

noncomputable def s_oplog_Log_Cost (cf : CallK) (fuel : Nat) (t0 : AV) (h : Hp) (K : AV → Hp → Prop) : Prop :=
vEq false eqP t0 .nilptr h fun t4 h =>
vIf t4 (
K (.int .i64 0) h) (
vNilck t0 h fun t6 h =>
vFaddr 67 t6 h fun t7 h =>
vLoad2 t7 h fun t8 h =>
K t8 h)
theorem s_oplog_Log_Cost_eq (cf : CallK) (fuel : Nat) (t0 : AV) (h : Hp) (K : AV → Hp → Prop) : s_oplog_Log_Cost cf fuel t0 h K = deepT (tabOf Tryz.prog) f_oplog_Log_Cost cf fuel [t0] h K :=
  Eq.trans (by kernel_rfl) (rFun (by kernel_rfl) rExact)

noncomputable def s_clock_Clock_Now (cf : CallK) (fuel : Nat) (t0 : AV) (h : Hp) (K : AV → Hp → Prop) : Prop :=
vEq false eqP t0 .nilptr h fun t4 h =>
vIf t4 (
K (.int .i64 0) h) (
vNilck t0 h fun t6 h =>
vFaddr 1 t6 h fun t7 h =>
vLoad2 t7 h fun t8 h =>
K t8 h)
theorem s_clock_Clock_Now_eq (cf : CallK) (fuel : Nat) (t0 : AV) (h : Hp) (K : AV → Hp → Prop) : s_clock_Clock_Now cf fuel t0 h K = deepT (tabOf Tryz.prog) f_clock_Clock_Now cf fuel [t0] h K :=
  Eq.trans (by kernel_rfl) (rFun (by kernel_rfl) rExact)

noncomputable def s_localfs_MkfsB0 (cf : CallK) (fuel : Nat) (K : AV → Hp → Prop) (t0 : AV) (h : Hp) : Prop :=
cf f_wal_Mount [t0] h fun t21 h =>
vExtract 0 t21 h fun t22 h =>
vExtract 1 t21 h fun t23 h =>
vNeq t23 (.int .i64 0) h fun t25 h =>
vIf t25 (
K t23 h) (
vBuild [.nilptr, (.int .i64 0), .nilptr, .nilslice] [(0, 1, t22)] h fun t28 h =>
vBox 4 t28 h fun t29 h =>
cf f_localfs_folder [.nilslice, .nilslice] h fun t31 h =>
cf f_localfs_FS_commit [t29, t31] h fun t32 h =>
vNeq t32 (.int .i64 0) h fun t34 h =>
vIf t34 (
K t32 h) (
cf f_localfs_FS_Sync [t29] h fun t37 h =>
K t37 h))
noncomputable def s_localfs_Mkfs (cf : CallK) (fuel : Nat) (t0 : AV) (h : Hp) (K : AV → Hp → Prop) : Prop :=
cf f_localfs_may [t0] h fun t10 h =>
vNeq t10 (.int .i64 0) h fun t12 h =>
vIf t12 (
K t10 h) (
cf f_wal_Format [t0] h fun t15 h =>
vNeq t15 (.int .i64 0) h fun t17 h =>
vIf t17 (
K t15 h) (
s_localfs_MkfsB0 cf fuel K t0 h))
theorem s_localfs_Mkfs_eq (cf : CallK) (fuel : Nat) (t0 : AV) (h : Hp) (K : AV → Hp → Prop) : s_localfs_Mkfs cf fuel t0 h K = deepT (tabOf Tryz.prog) f_localfs_Mkfs cf fuel [t0] h K :=
  Eq.trans (by kernel_rfl) (rFun (by kernel_rfl) rExact)

noncomputable def s_localfs_Capacity (cf : CallK) (fuel : Nat) (t0 : AV) (h : Hp) (K : AV → Hp → Prop) : Prop :=
vLss t0 (.int .i64 8) h fun t4 h =>
vIf t4 (
K (.int .i64 0) h) (
vArith Go.Am.subI t0 (.int .i64 8) h fun t6 h =>
vDiv false t6 (.int .i64 16) h fun t7 h =>
vArith Go.Am.subI t7 (.int .i64 2) h fun t8 h =>
vMin true t8 (.int .i64 0) h fun t9 h =>
K t9 h)
theorem s_localfs_Capacity_eq (cf : CallK) (fuel : Nat) (t0 : AV) (h : Hp) (K : AV → Hp → Prop) : s_localfs_Capacity cf fuel t0 h K = deepT (tabOf Tryz.prog) f_localfs_Capacity cf fuel [t0] h K :=
  Eq.trans (by kernel_rfl) (rFun (by kernel_rfl) rExact)

noncomputable def s_vfs_call_mkdir (cf : CallK) (fuel : Nat) (t0 : AV) (h : Hp) (K : AV → Hp → Prop) : Prop :=
vNilck t0 h fun t9 h =>
vFaddr 1 t9 h fun t10 h =>
vFaddr 1 t10 h fun t11 h =>
vLoad2 t11 h fun t12 h =>
cf f_vfs_call_find [t0, t12] h fun t13 h =>
vExtract 0 t13 h fun t14 h =>
vExtract 1 t13 h fun t15 h =>
vBox 6 (.agg [.nilslice, (.int .i64 0), (.int .i64 0), (.int .i64 0), (.int .i64 0), (.bool .false)]) h fun t3 h =>
vStore 6 t3 t14 h fun _ h =>
(fun (e0 : Hp → Prop) =>
vNeq t15 (.int .i64 0) h fun t18 h =>
vIf t18 (
K t15 h) (
vFaddr 5 t3 h fun t21 h =>
vLoad2 t21 h fun t22 h =>
vIf t22 (
K (.int .i64 17) h) (
e0 h))) fun h =>
vFaddr 0 t3 h fun t23 h =>
vLoad2 t23 h fun t24 h =>
cf f_path_Fresh [t24] h fun t25 h =>
vNeq t25 (.int .i64 0) h fun t27 h =>
vIf t27 (
K t25 h) (
vFaddr 1 t3 h fun t30 h =>
vLoadA 2 t30 h fun t31 h =>
vLoadA 6 t3 h fun t32 h =>
cf f_vfs_place_name [t32] h fun t33 h =>
vLoadA 2 t30 h fun c _ => gd (sameV c t31) (
vBuild [(.int .i64 0), (.int .i64 0), (.int .i64 0), (.int .i64 0), (.int .i64 0), (.int .i64 0), (.int .i64 0), (.int .i64 0), (.str 0 0), .nilslice, .nilslice] [(3, 1, (.int .i64 1)), (6, 2, t31), (8, 1, t33)] h fun t34 h =>
vBslice 11 1 false [(.int .i64 0), (.int .i64 0), (.int .i64 0), (.int .i64 0), (.int .i64 0), (.int .i64 0), (.int .i64 0), (.int .i64 0), (.str 0 0), .nilslice, .nilslice] [(0, 11, t34)] h fun t35 h =>
cf f_vfs_call_make [t0, t35] h fun t36 h =>
K t36 h))
theorem s_vfs_call_mkdir_eq (cf : CallK) (fuel : Nat) (t0 : AV) (h : Hp) (K : AV → Hp → Prop) : s_vfs_call_mkdir cf fuel t0 h K = deepT (tabOf Tryz.prog) f_vfs_call_mkdir cf fuel [t0] h K :=
  Eq.trans (by kernel_rfl) (rFun (by kernel_rfl) rExact)

noncomputable def s_vfs_call_readdirB1 (cf : CallK) (fuel : Nat) (j0 : AV → Hp → Prop) (t3 : AV) (t0 : AV) (h : Hp) : Prop :=
vNilck t0 h fun t20 h =>
vFaddr 0 t20 h fun t21 h =>
vLoad2 t21 h fun t22 h =>
vNilck t22 h fun t23 h =>
vFaddr 2 t23 h fun t24 h =>
vLoad2 t24 h fun t25 h =>
vFaddr 3 t3 h fun t26 h =>
vLoadA 2 t26 h fun t27 h =>
cf f_view_View_List [t25, t27] h fun t28 h =>
vExtract 0 t28 h fun t29 h =>
vExtract 1 t28 h fun t30 h =>
vNilck t0 h fun t31 h =>
vFaddr 10 t31 h fun t32 h =>
vFaddr 3 t32 h fun t33 h =>
vStore 1 t33 t29 h fun _ h =>
j0 t30 h
noncomputable def s_vfs_call_readdir (cf : CallK) (fuel : Nat) (t0 : AV) (h : Hp) (K : AV → Hp → Prop) : Prop :=
vNilck t0 h fun t8 h =>
vFaddr 1 t8 h fun t9 h =>
vFaddr 1 t9 h fun t10 h =>
vLoad2 t10 h fun t11 h =>
cf f_vfs_call_there [t0, t11] h fun t12 h =>
vExtract 0 t12 h fun t13 h =>
vExtract 1 t12 h fun t14 h =>
vBox 6 (.agg [.nilslice, (.int .i64 0), (.int .i64 0), (.int .i64 0), (.int .i64 0), (.bool .false)]) h fun t3 h =>
vStore 6 t3 t13 h fun _ h =>
(fun (j0 : AV → Hp → Prop) =>
vEql t14 (.int .i64 0) h fun t16 h =>
vIf t16 (
s_vfs_call_readdirB1 cf fuel j0 t3 t0 h) (
j0 t14 h)) fun t4 h =>
K t4 h
theorem s_vfs_call_readdir_eq (cf : CallK) (fuel : Nat) (t0 : AV) (h : Hp) (K : AV → Hp → Prop) : s_vfs_call_readdir cf fuel t0 h K = deepT (tabOf Tryz.prog) f_vfs_call_readdir cf fuel [t0] h K :=
  Eq.trans (by kernel_rfl) (rFun (by kernel_rfl) rExact)

noncomputable def s_vfs_call_sync (cf : CallK) (fuel : Nat) (t0 : AV) (h : Hp) (K : AV → Hp → Prop) : Prop :=
K (.int .i64 0) h
theorem s_vfs_call_sync_eq (cf : CallK) (fuel : Nat) (t0 : AV) (h : Hp) (K : AV → Hp → Prop) : s_vfs_call_sync cf fuel t0 h K = deepT (tabOf Tryz.prog) f_vfs_call_sync cf fuel [t0] h K :=
  Eq.trans (by kernel_rfl) (rFun (by kernel_rfl) rExact)


end Go.Proofs.YtciipeallilmiaaGreatDoor.sh1
