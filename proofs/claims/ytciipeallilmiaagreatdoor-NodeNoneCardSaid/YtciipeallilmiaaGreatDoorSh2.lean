/- The Go functions' code as the abstract machine's, over values; each is the code that the machine makes of the program's (theorems s_.._eq). No condition. -/
import Derived.Test.YtciipeallilmiaaGreatDoorAmC
import Derived.Test.YtciipeallilmiaaGreatDoorProg
import Derived.KernelRfl
namespace Go.Proofs.YtciipeallilmiaaGreatDoor.sh2
open Go Go.Am Go.Proofs
set_option linter.unusedVariables false
set_option maxRecDepth 100000
abbrev f_bytes_Clone : Nat := 145
abbrev f_clock_Clock_Lease : Nat := 65
abbrev f_clock_Less : Nat := 148
abbrev f_codec_NewReader : Nat := 79
abbrev f_codec_NewWriter : Nat := 66
abbrev f_codec_Reader_Bytes : Nat := 98
abbrev f_codec_Reader_Done : Nat := 99
abbrev f_codec_Reader_Err : Nat := 83
abbrev f_codec_Reader_ID : Nat := 165
abbrev f_codec_Reader_Left : Nat := 84
abbrev f_codec_Reader_Num : Nat := 80
abbrev f_codec_Reader_Text : Nat := 166
abbrev f_codec_Reader_Truth : Nat := 81
abbrev f_codec_Reader_Vector : Nat := 82
abbrev f_codec_Reader_fails : Nat := 162
abbrev f_codec_Writer_Bytes : Nat := 150
abbrev f_codec_Writer_Done : Nat := 68
abbrev f_codec_Writer_Num : Nat := 67
abbrev f_codec_Writer_Truth : Nat := 156
abbrev f_codec_Writer_Vector : Nat := 157
abbrev f_codec_Writer_may : Nat := 144
abbrev f_codec_cut : Nat := 164
abbrev f_codec_vector : Nat := 163
abbrev f_crc_Frame : Nat := 159
abbrev f_crc_Of : Nat := 161
abbrev f_crc_Unframe : Nat := 78
abbrev f_device_Device_Blocks : Nat := 31
abbrev f_frames_Encode : Nat := 77
abbrev f_frames_May : Nat := 86
abbrev f_frames_node : Nat := 167
abbrev f_frames_sized : Nat := 158
abbrev f_localfs_Capacity : Nat := 47
abbrev f_localfs_FS_Replace : Nat := 151
abbrev f_localfs_FS_Sync : Nat := 74
abbrev f_localfs_FS_Write : Nat := 153
abbrev f_localfs_may : Nat := 90
abbrev f_oplog_Log_SetMeta : Nat := 69
abbrev f_oplog_Log_keep : Nat := 73
abbrev f_oplog_Log_put : Nat := 71
abbrev f_oplog_Log_takes : Nat := 70
abbrev f_oplog_file : Nat := 152
abbrev f_oplog_head : Nat := 97
abbrev f_oplog_written : Nat := 72
abbrev f_ops_Copy : Nat := 110
abbrev f_ops_Cost : Nat := 64
abbrev f_ops_Decode : Nat := 85
abbrev f_ops_Encode : Nat := 143
abbrev f_ops_May : Nat := 146
abbrev f_session_Table_acked : Nat := 89
abbrev f_session_Table_begin : Nat := 75
abbrev f_session_Table_frame : Nat := 76
abbrev f_session_Table_send : Nat := 87
abbrev f_session_Table_taken : Nat := 88
abbrev f_session_end_active : Nat := 155
abbrev f_vector_Ahead : Nat := 168
abbrev f_vector_At : Nat := 106
abbrev f_vector_Leq : Nat := 147
abbrev f_vector_With : Nat := 149
abbrev f_vfs_call_file : Nat := 137
abbrev f_vfs_call_resolve : Nat := 63
abbrev f_vfs_call_written : Nat := 124
abbrev f_view_View_Heads : Nat := 142
abbrev f_wal_Mount : Nat := 91
abbrev f_wal_Volume_Blocks : Nat := 92
abbrev f_wal_Volume_Sync : Nat := 154
abbrev f_zbyte_Get32 : Nat := 160

noncomputable def s_ops_Cost (cf : CallK) (fuel : Nat) (t0 : AV) (h : Hp) (K : AV → Hp → Prop) : Prop :=
vBox 11 t0 h fun t1 h =>
vLoadA 11 t1 h fun t6 h =>
cf f_ops_Encode [t6] h fun t7 h =>
vExtract 0 t7 h fun t8 h =>
vExtract 1 t7 h fun t9 h =>
vLenL2 t8 h fun t11 h =>
K t11 h
theorem s_ops_Cost_eq (cf : CallK) (fuel : Nat) (t0 : AV) (h : Hp) (K : AV → Hp → Prop) : s_ops_Cost cf fuel t0 h K = deepT (tabOf Tryz.prog) f_ops_Cost cf fuel [t0] h K :=
  Eq.trans (by kernel_rfl) (rFun (by kernel_rfl) rExact)

noncomputable def s_clock_Clock_Lease (cf : CallK) (fuel : Nat) (t0 : AV) (h : Hp) (K : AV → Hp → Prop) : Prop :=
vEq false eqP t0 .nilptr h fun t4 h =>
vIf t4 (
K (.int .i64 0) h) (
vNilck t0 h fun t6 h =>
vFaddr 2 t6 h fun t7 h =>
vLoad2 t7 h fun t8 h =>
K t8 h)
theorem s_clock_Clock_Lease_eq (cf : CallK) (fuel : Nat) (t0 : AV) (h : Hp) (K : AV → Hp → Prop) : s_clock_Clock_Lease cf fuel t0 h K = deepT (tabOf Tryz.prog) f_clock_Clock_Lease cf fuel [t0] h K :=
  Eq.trans (by kernel_rfl) (rFun (by kernel_rfl) rExact)

noncomputable def s_codec_NewWriter (cf : CallK) (fuel : Nat) (h : Hp) (K : AV → Hp → Prop) : Prop :=
vBuild [.nilslice, (.bool .false)] [] h fun t1 h =>
vBox 2 t1 h fun t2 h =>
K t2 h
theorem s_codec_NewWriter_eq (cf : CallK) (fuel : Nat) (h : Hp) (K : AV → Hp → Prop) : s_codec_NewWriter cf fuel h K = deepT (tabOf Tryz.prog) f_codec_NewWriter cf fuel [] h K :=
  Eq.trans (by kernel_rfl) (rFun (by kernel_rfl) rExact)

noncomputable def s_codec_Writer_NumE0 (cf : CallK) (fuel : Nat) (K : AV → Hp → Prop) (t0 : AV) : AV → Hp → Prop := fun t1 h =>
vNilck t0 h fun t31 h =>
vFaddr 0 t31 h fun t32 h =>
vLoad2 t32 h fun t33 h =>
vToInt .u8 t1 h fun t35 h =>
vBslice 1 1 true [(.int .u8 0)] [(0, 1, t35)] h fun t36 h =>
vAppend2 1 1 true t33 t36 h fun t37 h =>
vNilck t0 h fun t38 h =>
vFaddr 0 t38 h fun t39 h =>
vStore 1 t39 t37 h fun _ h =>
K (.tup []) h
noncomputable def s_codec_Writer_NumL1B (cf : CallK) (fuel : Nat) (e0 : AV → Hp → Prop) (t0 : AV) (ih1 : AV → Hp → Prop) : AV → Hp → Prop := fun t1 h =>
vGtr t1 (.int .i64 127) h fun t14 h =>
vIf t14 (
(fun (e2 : Hp → Prop) =>
vNilck t0 h fun t19 h =>
vFaddr 0 t19 h fun t20 h =>
vLoad2 t20 h fun t21 h =>
vToInt .u8 t1 h fun t23 h =>
vBits Nat.lor t23 (.int .u8 128) h fun t24 h =>
vBslice 1 1 true [(.int .u8 0)] [(0, 1, t24)] h fun t25 h =>
vAppend2 1 1 true t21 t25 h fun t26 h =>
vNilck t0 h fun t27 h =>
vFaddr 0 t27 h fun t28 h =>
vStore 1 t28 t26 h fun _ h =>
e2 h) fun h =>
vShr t1 (.int .u64 7) h fun t16 h =>
ih1 t16 h) (
e0 t1 h)
noncomputable def s_codec_Writer_NumL1 (cf : CallK) (fuel : Nat) (e0 : AV → Hp → Prop) (t0 : AV) (m : Nat) : AV → Hp → Prop := Nat.rec (motive := fun _ => AV → Hp → Prop) (fun _ _ => False) (fun _ ih => s_codec_Writer_NumL1B cf fuel e0 t0 ih) m
theorem s_codec_Writer_NumL1_succ (cf : CallK) (fuel : Nat) (e0 : AV → Hp → Prop) (t0 : AV) (m : Nat) : s_codec_Writer_NumL1 cf fuel e0 t0 (m + 1) = s_codec_Writer_NumL1B cf fuel e0 t0 (s_codec_Writer_NumL1 cf fuel e0 t0 m) := rfl
noncomputable def s_codec_Writer_Num (cf : CallK) (fuel : Nat) (t0 : AV) (t1 : AV) (h : Hp) (K : AV → Hp → Prop) : Prop :=
vGeq t1 (.int .i64 0) h fun t6 h =>
joinG (fun g4 => grdV t6 true (vMov t1 h g4) (g4 undefV h)) fun t8 h =>
joinG (fun g3 => grdV t6 true (vLeq t8 (.int .i64 4611686018427387904) h g3) (g3 undefV h)) fun t9 h =>
vPick t6 t9 (.bool .false) h fun t10 h =>
cf f_codec_Writer_may [t0, t10] h fun t11 h =>
vNot t11 h fun t12 h =>
vIf t12 (
K (.tup []) h) (
(fun (e0 : AV → Hp → Prop) =>
s_codec_Writer_NumL1 cf fuel (s_codec_Writer_NumE0 cf fuel K t0) t0 fuel t1 h) (s_codec_Writer_NumE0 cf fuel K t0))
theorem s_codec_Writer_Num_eq (cf : CallK) (fuel : Nat) (t0 : AV) (t1 : AV) (h : Hp) (K : AV → Hp → Prop) : s_codec_Writer_Num cf fuel t0 t1 h K = deepT (tabOf Tryz.prog) f_codec_Writer_Num cf fuel [t0, t1] h K :=
  Eq.trans (by kernel_rfl) (rFun (by kernel_rfl) (rSeq (by kernel_rfl) (rSeq (by kernel_rfl) rExact (rBlock (by kernel_rfl) (rLoop (by kernel_rfl) (fun m1 fr h => s_codec_Writer_NumL1 cf fuel (s_codec_Writer_NumE0 cf fuel K (getS fr (gpos 0))) (getS fr (gpos 0)) m1 (getS fr (gpos 1)) h) (funext fun fr => funext fun h => by kernel_rfl) fun m1 => rCast (funext fun fr => funext fun h => by kernel_rfl) rExact))) rExact))

noncomputable def s_codec_Writer_Done (cf : CallK) (fuel : Nat) (t0 : AV) (h : Hp) (K : AV → Hp → Prop) : Prop :=
vEq false eqP t0 .nilptr h fun t5 h =>
joinG (fun g3 => grdV t5 false (vMov t0 h g3) (g3 undefV h)) fun t7 h =>
joinG (fun g2 => grdV t5 false (vNilck t7 h g2) (g2 undefV h)) fun t8 h =>
joinG (fun g1 => grdV t5 false (vFaddr 1 t8 h g1) (g1 undefV h)) fun t9 h =>
joinG (fun g0 => grdV t5 false (vLoad2 t9 h g0) (g0 undefV h)) fun t10 h =>
vPick t5 (.bool .true) t10 h fun t11 h =>
vIf t11 (
K (.tup [.nilslice, (.int .i64 22)]) h) (
vNilck t0 h fun t13 h =>
vFaddr 0 t13 h fun t14 h =>
vLoad2 t14 h fun t15 h =>
cf f_bytes_Clone [t15] h fun t16 h =>
K (.tup [t16, (.int .i64 0)]) h)
theorem s_codec_Writer_Done_eq (cf : CallK) (fuel : Nat) (t0 : AV) (h : Hp) (K : AV → Hp → Prop) : s_codec_Writer_Done cf fuel t0 h K = deepT (tabOf Tryz.prog) f_codec_Writer_Done cf fuel [t0] h K :=
  Eq.trans (by kernel_rfl) (rFun (by kernel_rfl) rExact)

noncomputable def s_oplog_Log_SetMeta (cf : CallK) (fuel : Nat) (t0 : AV) (t1 : AV) (h : Hp) (K : AV → Hp → Prop) : Prop :=
(fun (e0 : Hp → Prop) =>
vEq false eqP t0 .nilptr h fun t7 h =>
vIf t7 (
K (.int .i64 5) h) (
vLenL2 t1 h fun t10 h =>
vGtr t10 (.int .i64 256) h fun t11 h =>
vIf t11 (
K (.int .i64 22) h) (
e0 h))) fun h =>
cf f_oplog_Log_keep [t0, .nilslice, t1] h fun t14 h =>
K t14 h
theorem s_oplog_Log_SetMeta_eq (cf : CallK) (fuel : Nat) (t0 : AV) (t1 : AV) (h : Hp) (K : AV → Hp → Prop) : s_oplog_Log_SetMeta cf fuel t0 t1 h K = deepT (tabOf Tryz.prog) f_oplog_Log_SetMeta cf fuel [t0, t1] h K :=
  Eq.trans (by kernel_rfl) (rFun (by kernel_rfl) rExact)

noncomputable def s_oplog_Log_takesE0 (cf : CallK) (fuel : Nat) (K : AV → Hp → Prop) : Hp → Prop := fun h =>
K (.bool .true) h
noncomputable def s_oplog_Log_takesB13 (cf : CallK) (fuel : Nat) (K : AV → Hp → Prop) (ih1 : AV → Hp → Prop) (t3 : AV) (t38 : AV) (t39 : AV) (h : Hp) : Prop :=
(fun (e2 : Hp → Prop) =>
vIdx 64 t38 t39 h fun t42 h =>
vFaddr 10 t3 h fun t43 h =>
vLoad2 t43 h fun t44 h =>
cf f_vector_At [t44, t39] h fun t46 h =>
vGtr t46 (.int .i64 0) h fun t48 h =>
joinG (fun g12 => grdV t48 true (vMov t42 h g12) (g12 undefV h)) fun t50 h =>
joinG (fun g11 => grdV t48 true (vMov t46 h g11) (g11 undefV h)) fun t51 h =>
joinG (fun g10 => grdV t48 true (vArith Go.Am.subI t51 (.int .i64 1) h g10) (g10 undefV h)) fun t52 h =>
joinG (fun g9 => grdV t48 true (vIaddr 11 t50 t52 h g9) (g9 undefV h)) fun t53 h =>
joinG (fun g8 => grdV t48 true (vFaddr 0 t53 h g8) (g8 undefV h)) fun t54 h =>
joinG (fun g7 => grdV t48 true (vLoadA 2 t54 h g7) (g7 undefV h)) fun t55 h =>
joinG (fun g6 => grdV t48 true (vFaddr 0 t3 h g6) (g6 undefV h)) fun t56 h =>
joinG (fun g5 => grdV t48 true (vLoadA 2 t56 h g5) (g5 undefV h)) fun t57 h =>
joinG (fun g4 => grdV t48 true (cf f_clock_Less [t55, t57] h g4) (g4 undefV h)) fun t58 h =>
joinG (fun g3 => grdV t48 true (vNot t58 h g3) (g3 undefV h)) fun t59 h =>
vPick t48 t59 (.bool .false) h fun t60 h =>
vIf t60 (
K (.bool .false) h) (
e2 h)) fun h =>
vAdd t39 (.int .i64 1) h fun t61 h =>
ih1 t61 h
noncomputable def s_oplog_Log_takesL1B (cf : CallK) (fuel : Nat) (K : AV → Hp → Prop) (e0 : Hp → Prop) (t3 : AV) (t38 : AV) (ih1 : AV → Hp → Prop) : AV → Hp → Prop := fun t39 h =>
vLss t39 (.int .i64 64) h fun t40 h =>
vIf t40 (
s_oplog_Log_takesB13 cf fuel K ih1 t3 t38 t39 h) (
e0 h)
noncomputable def s_oplog_Log_takesL1 (cf : CallK) (fuel : Nat) (K : AV → Hp → Prop) (e0 : Hp → Prop) (t3 : AV) (t38 : AV) (m : Nat) : AV → Hp → Prop := Nat.rec (motive := fun _ => AV → Hp → Prop) (fun _ _ => False) (fun _ ih => s_oplog_Log_takesL1B cf fuel K e0 t3 t38 ih) m
theorem s_oplog_Log_takesL1_succ (cf : CallK) (fuel : Nat) (K : AV → Hp → Prop) (e0 : Hp → Prop) (t3 : AV) (t38 : AV) (m : Nat) : s_oplog_Log_takesL1 cf fuel K e0 t3 t38 (m + 1) = s_oplog_Log_takesL1B cf fuel K e0 t3 t38 (s_oplog_Log_takesL1 cf fuel K e0 t3 t38 m) := rfl
noncomputable def s_oplog_Log_takes (cf : CallK) (fuel : Nat) (t0 : AV) (t1 : AV) (h : Hp) (K : AV → Hp → Prop) : Prop :=
vBox 11 t1 h fun t3 h =>
vLoadA 11 t3 h fun t8 h =>
cf f_ops_May [t8] h fun t9 h =>
vNot t9 h fun t10 h =>
joinG (fun g34 => grdV t10 false (vFaddr 2 t3 h g34) (g34 undefV h)) fun t12 h =>
joinG (fun g33 => grdV t10 false (vLoad2 t12 h g33) (g33 undefV h)) fun t13 h =>
joinG (fun g32 => grdV t10 false (vMov t0 h g32) (g32 undefV h)) fun t14 h =>
joinG (fun g31 => grdV t10 false (vNilck t14 h g31) (g31 undefV h)) fun t15 h =>
joinG (fun g30 => grdV t10 false (vFaddr 66 t15 h g30) (g30 undefV h)) fun t16 h =>
joinG (fun g29 => grdV t10 false (vLoad2 t16 h g29) (g29 undefV h)) fun t17 h =>
joinG (fun g28 => grdV t10 false (vFaddr 0 t3 h g28) (g28 undefV h)) fun t18 h =>
joinG (fun g27 => grdV t10 false (vFaddr 1 t18 h g27) (g27 undefV h)) fun t19 h =>
joinG (fun g26 => grdV t10 false (vLoad2 t19 h g26) (g26 undefV h)) fun t20 h =>
joinG (fun g25 => grdV t10 false (cf f_vector_At [t17, t20] h g25) (g25 undefV h)) fun t21 h =>
joinP (fun g24 => grdV t10 false (vLoad2 t12 h fun c _ => gd (sameV c t13) g24) g24) (
joinG (fun g23 => grdV t10 false (vAdd t21 (.int .i64 1) h g23) (g23 undefV h)) fun t22 h =>
joinG (fun g22 => grdV t10 false (vNeq t13 t22 h g22) (g22 undefV h)) fun t23 h =>
vPick t10 (.bool .true) t23 h fun t24 h =>
joinG (fun g21 => grdV t24 false (vFaddr 10 t3 h g21) (g21 undefV h)) fun t26 h =>
joinG (fun g20 => grdV t24 false (vLoad2 t26 h g20) (g20 undefV h)) fun t27 h =>
joinG (fun g19 => grdV t24 false (vMov t0 h g19) (g19 undefV h)) fun t28 h =>
joinG (fun g18 => grdV t24 false (vNilck t28 h g18) (g18 undefV h)) fun t29 h =>
joinG (fun g17 => grdV t24 false (vFaddr 66 t29 h g17) (g17 undefV h)) fun t30 h =>
joinG (fun g16 => grdV t24 false (vLoad2 t30 h g16) (g16 undefV h)) fun t31 h =>
joinG (fun g15 => grdV t24 false (cf f_vector_Leq [t27, t31] h g15) (g15 undefV h)) fun t32 h =>
joinG (fun g14 => grdV t24 false (vNot t32 h g14) (g14 undefV h)) fun t33 h =>
vPick t24 (.bool .true) t33 h fun t34 h =>
vIf t34 (
K (.bool .false) h) (
vNilck t0 h fun t36 h =>
vFaddr 2 t36 h fun t37 h =>
vLoadA 64 t37 h fun t38 h =>
(fun (e0 : Hp → Prop) =>
s_oplog_Log_takesL1 cf fuel K (s_oplog_Log_takesE0 cf fuel K) t3 t38 fuel (.int .i64 0) h) (s_oplog_Log_takesE0 cf fuel K)))
theorem s_oplog_Log_takes_eq (cf : CallK) (fuel : Nat) (t0 : AV) (t1 : AV) (h : Hp) (K : AV → Hp → Prop) : s_oplog_Log_takes cf fuel t0 t1 h K = deepT (tabOf Tryz.prog) f_oplog_Log_takes cf fuel [t0, t1] h K :=
  Eq.trans (by kernel_rfl) (rFun (by kernel_rfl) (rSeq (by kernel_rfl) (rSeq (by kernel_rfl) (rSeq (by kernel_rfl) rExact (rSeq (by kernel_rfl) (rBlock (by kernel_rfl) (rLoop (by kernel_rfl) (fun m1 fr h => s_oplog_Log_takesL1 cf fuel K (s_oplog_Log_takesE0 cf fuel K) (getS fr (gpos 3)) (getS fr (gpos 38)) m1 (getS fr (gpos 39)) h) (funext fun fr => funext fun h => by kernel_rfl) fun m1 => rCast (funext fun fr => funext fun h => by kernel_rfl) rExact)) rExact)) rExact) rExact))

noncomputable def s_oplog_Log_put (cf : CallK) (fuel : Nat) (t0 : AV) (t1 : AV) (h : Hp) (K : AV → Hp → Prop) : Prop :=
vBox 11 t1 h fun t3 h =>
vFaddr 0 t3 h fun t5 h =>
vFaddr 1 t5 h fun t6 h =>
vLoad2 t6 h fun t7 h =>
vFaddr 0 t3 h fun t9 h =>
vFaddr 1 t9 h fun t10 h =>
vLoad2 t10 h fun t11 h =>
vNilck t0 h fun t12 h =>
vFaddr 2 t12 h fun t13 h =>
vIaddrA 1 64 t13 t11 h fun t14 h =>
vLoad2 t14 h fun t15 h =>
vLoadA 11 t3 h fun t16 h =>
vNilck t0 h fun t20 h =>
vFaddr 2 t20 h fun t21 h =>
cf f_ops_Copy [t16] h fun t17 h =>
vLoad2 t6 h fun c _ => gd (sameV c t7) (
vLoad2 t10 h fun c _ => gd (sameV c t11) (
vLoad2 t14 h fun c _ => gd (sameV c t15) (
vBslice 11 1 false [(.int .i64 0), (.int .i64 0), (.int .i64 0), (.int .i64 0), (.int .i64 0), (.int .i64 0), (.int .i64 0), (.int .i64 0), (.str 0 0), .nilslice, .nilslice] [(0, 11, t17)] h fun t18 h =>
vLoad2 t6 h fun c _ => gd (sameV c t7) (
vLoad2 t10 h fun c _ => gd (sameV c t11) (
vLoad2 t14 h fun c _ => gd (sameV c t15) (
vAppend2 11 128 false t15 t18 h fun t19 h =>
vLoad2 t6 h fun c _ => gd (sameV c t7) (
vIaddrA 1 64 t21 t7 h fun t22 h =>
vStore 1 t22 t19 h fun _ h =>
vNilck t0 h fun t25 h =>
vFaddr 66 t25 h fun t26 h =>
vLoad2 t26 h fun t27 h =>
vFaddr 0 t3 h fun t28 h =>
vFaddr 1 t28 h fun t29 h =>
vLoad2 t29 h fun t30 h =>
vFaddr 2 t3 h fun t31 h =>
vLoad2 t31 h fun t32 h =>
cf f_vector_With [t27, t30, t32] h fun t33 h =>
vNilck t0 h fun t34 h =>
vFaddr 66 t34 h fun t35 h =>
vStore 1 t35 t33 h fun _ h =>
vNilck t0 h fun t37 h =>
vFaddr 67 t37 h fun t38 h =>
vLoad2 t38 h fun t39 h =>
vLoadA 11 t3 h fun t40 h =>
cf f_ops_Cost [t40] h fun t41 h =>
vLoad2 t38 h fun c _ => gd (sameV c t39) (
vAdd t41 (.int .i64 16) h fun t42 h =>
vAdd t39 t42 h fun t43 h =>
vNilck t0 h fun t44 h =>
vFaddr 67 t44 h fun t45 h =>
vStore 1 t45 t43 h fun _ h =>
K (.tup []) h))))))))
theorem s_oplog_Log_put_eq (cf : CallK) (fuel : Nat) (t0 : AV) (t1 : AV) (h : Hp) (K : AV → Hp → Prop) : s_oplog_Log_put cf fuel t0 t1 h K = deepT (tabOf Tryz.prog) f_oplog_Log_put cf fuel [t0, t1] h K :=
  Eq.trans (by kernel_rfl) (rFun (by kernel_rfl) rExact)

noncomputable def s_oplog_writtenE0 (cf : CallK) (fuel : Nat) (K : AV → Hp → Prop) (t5 : AV) : Hp → Prop := fun h =>
cf f_codec_Writer_Done [t5] h fun t38 h =>
vExtract 0 t38 h fun t39 h =>
vExtract 1 t38 h fun t40 h =>
K t39 h
noncomputable def s_oplog_writtenL1B (cf : CallK) (fuel : Nat) (e0 : Hp → Prop) (t5 : AV) (ih1 : AV → Hp → Prop) : AV → Hp → Prop := fun t3 h =>
vLenL2 t3 h fun t23 h =>
vGtr t23 (.int .i64 0) h fun t24 h =>
vIf t24 (
(fun (e2 : AV → Hp → Prop) =>
vLenL2 t3 h fun t26 h =>
vMin false t26 (.int .i64 65536) h fun t27 h =>
vSlice2 1 t3 none (some t27) h fun t31 h =>
cf f_codec_Writer_Bytes [t5, t31] h fun t32 h =>
vSlice2 1 t3 (some t27) none h fun t35 h =>
e2 t35 h) fun t3_3 h =>
ih1 t3_3 h) (
e0 h)
noncomputable def s_oplog_writtenL1 (cf : CallK) (fuel : Nat) (e0 : Hp → Prop) (t5 : AV) (m : Nat) : AV → Hp → Prop := Nat.rec (motive := fun _ => AV → Hp → Prop) (fun _ _ => False) (fun _ ih => s_oplog_writtenL1B cf fuel e0 t5 ih) m
theorem s_oplog_writtenL1_succ (cf : CallK) (fuel : Nat) (e0 : Hp → Prop) (t5 : AV) (m : Nat) : s_oplog_writtenL1 cf fuel e0 t5 (m + 1) = s_oplog_writtenL1B cf fuel e0 t5 (s_oplog_writtenL1 cf fuel e0 t5 m) := rfl
noncomputable def s_oplog_written (cf : CallK) (fuel : Nat) (t0 : AV) (h : Hp) (K : AV → Hp → Prop) : Prop :=
vBox 11 t0 h fun t1 h =>
vLoadA 11 t1 h fun t10 h =>
cf f_ops_Encode [t10] h fun t11 h =>
vExtract 0 t11 h fun t12 h =>
vExtract 1 t11 h fun t13 h =>
cf f_codec_NewWriter [] h fun t14 h =>
vLenL2 t12 h fun t17 h =>
vAdd t17 (.int .i64 65536) h fun t18 h =>
vArith Go.Am.subI t18 (.int .i64 1) h fun t19 h =>
vDiv false t19 (.int .i64 65536) h fun t20 h =>
cf f_codec_Writer_Num [t14, t20] h fun t21 h =>
(fun (e0 : Hp → Prop) =>
s_oplog_writtenL1 cf fuel (s_oplog_writtenE0 cf fuel K t14) t14 fuel t12 h) (s_oplog_writtenE0 cf fuel K t14)
theorem s_oplog_written_eq (cf : CallK) (fuel : Nat) (t0 : AV) (h : Hp) (K : AV → Hp → Prop) : s_oplog_written cf fuel t0 h K = deepT (tabOf Tryz.prog) f_oplog_written cf fuel [t0] h K :=
  Eq.trans (by kernel_rfl) (rFun (by kernel_rfl) (rSeq (by kernel_rfl) (rSeq (by kernel_rfl) (rSeq (by kernel_rfl) (rSeq (by kernel_rfl) (rSeq (by kernel_rfl) rExact (rBlock (by kernel_rfl) (rLoop (by kernel_rfl) (fun m1 fr h => s_oplog_writtenL1 cf fuel (s_oplog_writtenE0 cf fuel K (getS fr (gpos 5))) (getS fr (gpos 5)) m1 (getS fr (gpos 3)) h) (funext fun fr => funext fun h => by kernel_rfl) fun m1 => rCast (funext fun fr => funext fun h => by kernel_rfl) rExact))) rExact) rExact) rExact) rExact))

noncomputable def s_oplog_Log_keepE0 (cf : CallK) (fuel : Nat) (K : AV → Hp → Prop) (t0 : AV) (t2 : AV) : AV → Hp → Prop := fun t7 h =>
cf f_codec_NewWriter [] h fun t66 h =>
cf f_codec_Writer_Num [t66, t7] h fun t69 h =>
cf f_codec_Writer_Bytes [t66, t2] h fun t72 h =>
cf f_codec_Writer_Done [t66] h fun t75 h =>
vExtract 0 t75 h fun t76 h =>
vExtract 1 t75 h fun t77 h =>
vNilck t0 h fun t79 h =>
vFaddr 0 t79 h fun t80 h =>
vLoad2 t80 h fun t81 h =>
cf f_oplog_head [] h fun t82 h =>
vLoad2 t80 h fun c _ => gd (sameV c t81) (
cf f_localfs_FS_Replace [t81, t82, t76] h fun t84 h =>
vNeq t84 (.int .i64 0) h fun t86 h =>
vIf t86 (
K (.int .i64 5) h) (
cf f_bytes_Clone [t2] h fun t91 h =>
vNilck t0 h fun t92 h =>
vFaddr 69 t92 h fun t93 h =>
vStore 1 t93 t7 h fun _ h =>
vNilck t0 h fun t94 h =>
vFaddr 68 t94 h fun t95 h =>
vStore 1 t95 t91 h fun _ h =>
K (.int .i64 0) h))
noncomputable def s_oplog_Log_keepB5 (cf : CallK) (fuel : Nat) (K : AV → Hp → Prop) (ih1 : AV → AV → Hp → Prop) (t1 : AV) (t0 : AV) (t7 : AV) (h : Hp) : Prop :=
(fun (e2 : AV → AV → Hp → Prop) =>
vDiv false t7 (.int .i64 32768) h fun t25 h =>
vDiv true t7 (.int .i64 32768) h fun t27 h =>
vLenL2 t1 h fun t29 h =>
vArith Go.Am.subI (.int .i64 32768) t27 h fun t31 h =>
vMin false t29 t31 h fun t32 h =>
(fun (j3 : Hp → Prop) =>
vEql t27 (.int .i64 0) h fun t34 h =>
vIf t34 (
vNilck t0 h fun t36 h =>
vFaddr 0 t36 h fun t37 h =>
vLoad2 t37 h fun t38 h =>
vSlice2 1 t1 none (some t32) h fun t43 h =>
cf f_oplog_file [t25] h fun t40 h =>
vLoad2 t37 h fun c _ => gd (sameV c t38) (
cf f_localfs_FS_Replace [t38, t40, t43] h fun t44 h =>
vNeq t44 (.int .i64 0) h fun t46 h =>
vIf t46 (
K (.int .i64 5) h) (
j3 h))) (
vNilck t0 h fun t48 h =>
vFaddr 0 t48 h fun t49 h =>
vLoad2 t49 h fun t50 h =>
vSlice2 1 t1 none (some t32) h fun t56 h =>
cf f_oplog_file [t25] h fun t52 h =>
vLoad2 t49 h fun c _ => gd (sameV c t50) (
cf f_localfs_FS_Write [t50, t52, t27, t56] h fun t57 h =>
vNeq t57 (.int .i64 0) h fun t59 h =>
vIf t59 (
K (.int .i64 5) h) (
j3 h)))) fun h =>
vAdd t7 t32 h fun t62 h =>
vSlice2 1 t1 (some t32) none h fun t65 h =>
e2 t65 t62 h) fun t1_4 t7 h =>
ih1 t1_4 t7 h
noncomputable def s_oplog_Log_keepL1B (cf : CallK) (fuel : Nat) (K : AV → Hp → Prop) (e0 : AV → Hp → Prop) (t0 : AV) (t2 : AV) (ih1 : AV → AV → Hp → Prop) : AV → AV → Hp → Prop := fun t1 t7 h =>
vLenL2 t1 h fun t22 h =>
vGtr t22 (.int .i64 0) h fun t23 h =>
vIf t23 (
s_oplog_Log_keepB5 cf fuel K ih1 t1 t0 t7 h) (
e0 t7 h)
noncomputable def s_oplog_Log_keepL1 (cf : CallK) (fuel : Nat) (K : AV → Hp → Prop) (e0 : AV → Hp → Prop) (t0 : AV) (t2 : AV) (m : Nat) : AV → AV → Hp → Prop := Nat.rec (motive := fun _ => AV → AV → Hp → Prop) (fun _ _ _ => False) (fun _ ih => s_oplog_Log_keepL1B cf fuel K e0 t0 t2 ih) m
theorem s_oplog_Log_keepL1_succ (cf : CallK) (fuel : Nat) (K : AV → Hp → Prop) (e0 : AV → Hp → Prop) (t0 : AV) (t2 : AV) (m : Nat) : s_oplog_Log_keepL1 cf fuel K e0 t0 t2 (m + 1) = s_oplog_Log_keepL1B cf fuel K e0 t0 t2 (s_oplog_Log_keepL1 cf fuel K e0 t0 t2 m) := rfl
noncomputable def s_oplog_Log_keep (cf : CallK) (fuel : Nat) (t0 : AV) (t1 : AV) (t2 : AV) (h : Hp) (K : AV → Hp → Prop) : Prop :=
vNilck t0 h fun t18 h =>
vFaddr 69 t18 h fun t19 h =>
vLoad2 t19 h fun t20 h =>
(fun (e0 : AV → Hp → Prop) =>
s_oplog_Log_keepL1 cf fuel K (s_oplog_Log_keepE0 cf fuel K t0 t2) t0 t2 fuel t1 t20 h) (s_oplog_Log_keepE0 cf fuel K t0 t2)
theorem s_oplog_Log_keep_eq (cf : CallK) (fuel : Nat) (t0 : AV) (t1 : AV) (t2 : AV) (h : Hp) (K : AV → Hp → Prop) : s_oplog_Log_keep cf fuel t0 t1 t2 h K = deepT (tabOf Tryz.prog) f_oplog_Log_keep cf fuel [t0, t1, t2] h K :=
  Eq.trans (by kernel_rfl) (rFun (by kernel_rfl) (rSeq (by kernel_rfl) (rSeq (by kernel_rfl) (rSeq (by kernel_rfl) rExact (rBlock (by kernel_rfl) (rLoop (by kernel_rfl) (fun m1 fr h => s_oplog_Log_keepL1 cf fuel K (s_oplog_Log_keepE0 cf fuel K (getS fr (gpos 0)) (getS fr (gpos 2))) (getS fr (gpos 0)) (getS fr (gpos 2)) m1 (getS fr (gpos 1)) (getS fr (gpos 7)) h) (funext fun fr => funext fun h => by kernel_rfl) fun m1 => rCast (funext fun fr => funext fun h => by kernel_rfl) rExact))) rExact) rExact))

noncomputable def s_localfs_FS_Sync (cf : CallK) (fuel : Nat) (t0 : AV) (h : Hp) (K : AV → Hp → Prop) : Prop :=
vEq false eqP t0 .nilptr h fun t4 h =>
vIf t4 (
K (.int .i64 5) h) (
vNilck t0 h fun t6 h =>
vFaddr 0 t6 h fun t7 h =>
vLoad2 t7 h fun t8 h =>
cf f_wal_Volume_Sync [t8] h fun t9 h =>
K t9 h)
theorem s_localfs_FS_Sync_eq (cf : CallK) (fuel : Nat) (t0 : AV) (h : Hp) (K : AV → Hp → Prop) : s_localfs_FS_Sync cf fuel t0 h K = deepT (tabOf Tryz.prog) f_localfs_FS_Sync cf fuel [t0] h K :=
  Eq.trans (by kernel_rfl) (rFun (by kernel_rfl) rExact)

noncomputable def s_crc_UnframeB5 (cf : CallK) (fuel : Nat) (K : AV → Hp → Prop) (t0 : AV) (h : Hp) : Prop :=
cf f_zbyte_Get32 [t0] h fun t11 h =>
vToInt .i64 t11 h fun t12 h =>
vGtr t12 (.int .i64 1048576) h fun t14 h =>
joinG (fun g4 => grdV t14 false (vMov t12 h g4) (g4 undefV h)) fun t16 h =>
joinG (fun g3 => grdV t14 false (vMov t0 h g3) (g3 undefV h)) fun t17 h =>
joinG (fun g2 => grdV t14 false (vLenL2 t17 h g2) (g2 undefV h)) fun t18 h =>
joinG (fun g1 => grdV t14 false (vArith Go.Am.subI t18 (.int .i64 8) h g1) (g1 undefV h)) fun t19 h =>
joinG (fun g0 => grdV t14 false (vGtr t16 t19 h g0) (g0 undefV h)) fun t20 h =>
vPick t14 (.bool .true) t20 h fun t21 h =>
vIf t21 (
K (.tup [.nilslice, (.int .i64 0), (.int .i64 22)]) h) (
vAdd (.int .i64 8) t12 h fun t24 h =>
vSlice2 1 t0 (some (.int .i64 8)) (some t24) h fun t25 h =>
vSlice2 1 t0 (some (.int .i64 4)) none h fun t30 h =>
vBslice 1 1 false [.nilslice] [(0, 1, t25)] h fun t27 h =>
cf f_crc_Of [t27] h fun t28 h =>
cf f_zbyte_Get32 [t30] h fun t31 h =>
vNeq t28 t31 h fun t32 h =>
vIf t32 (
K (.tup [.nilslice, (.int .i64 0), (.int .i64 74)]) h) (
cf f_bytes_Clone [t25] h fun t34 h =>
vAdd (.int .i64 8) t12 h fun t36 h =>
K (.tup [t34, t36, (.int .i64 0)]) h))
noncomputable def s_crc_Unframe (cf : CallK) (fuel : Nat) (t0 : AV) (h : Hp) (K : AV → Hp → Prop) : Prop :=
vLenL2 t0 h fun t8 h =>
vLss t8 (.int .i64 8) h fun t9 h =>
vIf t9 (
K (.tup [.nilslice, (.int .i64 0), (.int .i64 22)]) h) (
s_crc_UnframeB5 cf fuel K t0 h)
theorem s_crc_Unframe_eq (cf : CallK) (fuel : Nat) (t0 : AV) (h : Hp) (K : AV → Hp → Prop) : s_crc_Unframe cf fuel t0 h K = deepT (tabOf Tryz.prog) f_crc_Unframe cf fuel [t0] h K :=
  Eq.trans (by kernel_rfl) (rFun (by kernel_rfl) rExact)

noncomputable def s_codec_NewReader (cf : CallK) (fuel : Nat) (t0 : AV) (h : Hp) (K : AV → Hp → Prop) : Prop :=
cf f_bytes_Clone [t0] h fun t4 h =>
vBuild [.nilslice, (.bool .false)] [(0, 1, t4)] h fun t5 h =>
vBox 2 t5 h fun t6 h =>
K t6 h
theorem s_codec_NewReader_eq (cf : CallK) (fuel : Nat) (t0 : AV) (h : Hp) (K : AV → Hp → Prop) : s_codec_NewReader cf fuel t0 h K = deepT (tabOf Tryz.prog) f_codec_NewReader cf fuel [t0] h K :=
  Eq.trans (by kernel_rfl) (rFun (by kernel_rfl) rExact)

noncomputable def s_codec_Reader_NumE0 (cf : CallK) (fuel : Nat) (K : AV → Hp → Prop) (t0 : AV) : Hp → Prop := fun h =>
cf f_codec_Reader_fails [t0, (.bool .true)] h fun t67 h =>
K (.int .i64 0) h
noncomputable def s_codec_Reader_NumB3 (cf : CallK) (fuel : Nat) (K : AV → Hp → Prop) (e2 : AV → Hp → Prop) (t13 : AV) (t17 : AV) (t0 : AV) (t3 : AV) (h : Hp) : Prop :=
vBits Nat.land t17 (.int .u8 127) h fun t46 h =>
vToInt .i64 t46 h fun t47 h =>
vArith Go.Am.mulI (.int .i64 7) t13 h fun t49 h =>
vShl t47 t49 h fun t50 h =>
vBits Nat.lor t3 t50 h fun t51 h =>
vLss t17 (.int .u8 128) h fun t53 h =>
vIf t53 (
vNilck t0 h fun t56 h =>
vFaddr 0 t56 h fun t57 h =>
vLoad2 t57 h fun t58 h =>
vAdd t13 (.int .i64 1) h fun t60 h =>
vSlice2 1 t58 (some t60) none h fun t61 h =>
vNilck t0 h fun t62 h =>
vFaddr 0 t62 h fun t63 h =>
vStore 1 t63 t61 h fun _ h =>
K t51 h) (
e2 t51 h)
noncomputable def s_codec_Reader_NumB22 (cf : CallK) (fuel : Nat) (K : AV → Hp → Prop) (ih1 : AV → AV → Hp → Prop) (e0 : Hp → Prop) (t0 : AV) (t11 : AV) (t3 : AV) (t13 : AV) (h : Hp) : Prop :=
(fun (e2 : AV → Hp → Prop) =>
vIaddr 1 t11 t13 h fun t16 h =>
vLoad2 t16 h fun t17 h =>
vEql t13 (.int .i64 8) h fun t19 h =>
joinG (fun g21 => grdV t19 true (vMov t17 h g21) (g21 undefV h)) fun t21 h =>
joinG (fun g20 => grdV t19 true (vGtr t21 (.int .u8 64) h g20) (g20 undefV h)) fun t22 h =>
vPick t19 t22 (.bool .false) h fun t23 h =>
joinG (fun g19 => grdV t23 false (vMov t13 h g19) (g19 undefV h)) fun t25 h =>
joinG (fun g18 => grdV t23 false (vEql t25 (.int .i64 8) h g18) (g18 undefV h)) fun t26 h =>
joinG (fun g17 => grdV t23 false (vMov t26 h g17) (g17 undefV h)) fun t27 h =>
joinG (fun g16 => grdV t27 true (vMov t17 h g16) (g16 undefV h)) fun t28 h =>
joinG (fun g15 => grdV t27 true (vEql t28 (.int .u8 64) h g15) (g15 undefV h)) fun t29 h =>
joinG (fun g14 => grdV t23 false (vPick t27 t29 (.bool .false) h g14) (g14 undefV h)) fun t30 h =>
joinG (fun g13 => grdV t23 false (vMov t30 h g13) (g13 undefV h)) fun t31 h =>
joinG (fun g12 => grdV t31 true (vMov t3 h g12) (g12 undefV h)) fun t32 h =>
joinG (fun g11 => grdV t31 true (vGtr t32 (.int .i64 0) h g11) (g11 undefV h)) fun t33 h =>
joinG (fun g10 => grdV t23 false (vPick t31 t33 (.bool .false) h g10) (g10 undefV h)) fun t34 h =>
vPick t23 (.bool .true) t34 h fun t35 h =>
joinG (fun g9 => grdV t35 false (vMov t13 h g9) (g9 undefV h)) fun t37 h =>
joinG (fun g8 => grdV t35 false (vGtr t37 (.int .i64 0) h g8) (g8 undefV h)) fun t38 h =>
joinG (fun g7 => grdV t35 false (vMov t38 h g7) (g7 undefV h)) fun t39 h =>
joinG (fun g6 => grdV t39 true (vMov t17 h g6) (g6 undefV h)) fun t40 h =>
joinG (fun g5 => grdV t39 true (vEql t40 (.int .u8 0) h g5) (g5 undefV h)) fun t41 h =>
joinG (fun g4 => grdV t35 false (vPick t39 t41 (.bool .false) h g4) (g4 undefV h)) fun t42 h =>
vPick t35 (.bool .true) t42 h fun t43 h =>
vIf t43 (
e0 h) (
s_codec_Reader_NumB3 cf fuel K e2 t13 t17 t0 t3 h)) fun t3 h =>
vAdd t13 (.int .i64 1) h fun t65 h =>
ih1 t3 t65 h
noncomputable def s_codec_Reader_NumL1B (cf : CallK) (fuel : Nat) (K : AV → Hp → Prop) (e0 : Hp → Prop) (t0 : AV) (t11 : AV) (t12 : AV) (ih1 : AV → AV → Hp → Prop) : AV → AV → Hp → Prop := fun t3 t13 h =>
vLss t13 t12 h fun t14 h =>
vIf t14 (
s_codec_Reader_NumB22 cf fuel K ih1 e0 t0 t11 t3 t13 h) (
e0 h)
noncomputable def s_codec_Reader_NumL1 (cf : CallK) (fuel : Nat) (K : AV → Hp → Prop) (e0 : Hp → Prop) (t0 : AV) (t11 : AV) (t12 : AV) (m : Nat) : AV → AV → Hp → Prop := Nat.rec (motive := fun _ => AV → AV → Hp → Prop) (fun _ _ _ => False) (fun _ ih => s_codec_Reader_NumL1B cf fuel K e0 t0 t11 t12 ih) m
theorem s_codec_Reader_NumL1_succ (cf : CallK) (fuel : Nat) (K : AV → Hp → Prop) (e0 : Hp → Prop) (t0 : AV) (t11 : AV) (t12 : AV) (m : Nat) : s_codec_Reader_NumL1 cf fuel K e0 t0 t11 t12 (m + 1) = s_codec_Reader_NumL1B cf fuel K e0 t0 t11 t12 (s_codec_Reader_NumL1 cf fuel K e0 t0 t11 t12 m) := rfl
noncomputable def s_codec_Reader_Num (cf : CallK) (fuel : Nat) (t0 : AV) (h : Hp) (K : AV → Hp → Prop) : Prop :=
cf f_codec_Reader_fails [t0, (.bool .false)] h fun t7 h =>
vIf t7 (
K (.int .i64 0) h) (
vNilck t0 h fun t9 h =>
vFaddr 0 t9 h fun t10 h =>
vLoad2 t10 h fun t11 h =>
vLenL2 t11 h fun t12 h =>
(fun (e0 : Hp → Prop) =>
s_codec_Reader_NumL1 cf fuel K (s_codec_Reader_NumE0 cf fuel K t0) t0 t11 t12 fuel (.int .i64 0) (.int .i64 0) h) (s_codec_Reader_NumE0 cf fuel K t0))
theorem s_codec_Reader_Num_eq (cf : CallK) (fuel : Nat) (t0 : AV) (h : Hp) (K : AV → Hp → Prop) : s_codec_Reader_Num cf fuel t0 h K = deepT (tabOf Tryz.prog) f_codec_Reader_Num cf fuel [t0] h K :=
  Eq.trans (by kernel_rfl) (rFun (by kernel_rfl) (rSeq (by kernel_rfl) (rSeq (by kernel_rfl) (rSeq (by kernel_rfl) (rSeq (by kernel_rfl) rExact (rSeq (by kernel_rfl) (rBlock (by kernel_rfl) (rLoop (by kernel_rfl) (fun m1 fr h => s_codec_Reader_NumL1 cf fuel K (s_codec_Reader_NumE0 cf fuel K (getS fr (gpos 0))) (getS fr (gpos 0)) (getS fr (gpos 11)) (getS fr (gpos 12)) m1 (getS fr (gpos 3)) (getS fr (gpos 13)) h) (funext fun fr => funext fun h => by kernel_rfl) fun m1 => rCast (funext fun fr => funext fun h => by kernel_rfl) rExact)) rExact)) rExact) rExact) rExact))

noncomputable def s_codec_Reader_Truth (cf : CallK) (fuel : Nat) (t0 : AV) (h : Hp) (K : AV → Hp → Prop) : Prop :=
cf f_codec_Reader_Num [t0] h fun t5 h =>
vGtr t5 (.int .i64 1) h fun t8 h =>
cf f_codec_Reader_fails [t0, t8] h fun t9 h =>
vNot t9 h fun t10 h =>
joinG (fun g1 => grdV t10 true (vMov t5 h g1) (g1 undefV h)) fun t12 h =>
joinG (fun g0 => grdV t10 true (vEql t12 (.int .i64 1) h g0) (g0 undefV h)) fun t13 h =>
vPick t10 t13 (.bool .false) h fun t14 h =>
K t14 h
theorem s_codec_Reader_Truth_eq (cf : CallK) (fuel : Nat) (t0 : AV) (h : Hp) (K : AV → Hp → Prop) : s_codec_Reader_Truth cf fuel t0 h K = deepT (tabOf Tryz.prog) f_codec_Reader_Truth cf fuel [t0] h K :=
  Eq.trans (by kernel_rfl) (rFun (by kernel_rfl) rExact)

noncomputable def s_codec_Reader_VectorE0 (cf : CallK) (fuel : Nat) (K : AV → Hp → Prop) (t0 : AV) : AV → Hp → Prop := fun t4 h =>
cf f_codec_vector [t4] h fun t22 h =>
vNot t22 h fun t23 h =>
joinG (fun g6 => grdV t23 false (vMov t4 h g6) (g6 undefV h)) fun t25 h =>
joinG (fun g5 => grdV t23 false (cf f_codec_cut [t25] h g5) (g5 undefV h)) fun t26 h =>
joinG (fun g4 => grdV t23 false (vLenL2 t26 h g4) (g4 undefV h)) fun t27 h =>
joinG (fun g3 => grdV t23 false (vMov t4 h g3) (g3 undefV h)) fun t28 h =>
joinG (fun g2 => grdV t23 false (vLenL2 t28 h g2) (g2 undefV h)) fun t29 h =>
joinG (fun g1 => grdV t23 false (vNeq t27 t29 h g1) (g1 undefV h)) fun t30 h =>
vPick t23 (.bool .true) t30 h fun t31 h =>
cf f_codec_Reader_fails [t0, t31] h fun t32 h =>
vIf t32 (
K .nilslice h) (
K t4 h)
noncomputable def s_codec_Reader_VectorL7B (cf : CallK) (fuel : Nat) (e0 : AV → Hp → Prop) (t0 : AV) (t11 : AV) (ih7 : AV → AV → Hp → Prop) : AV → AV → Hp → Prop := fun t4 t12 h =>
vLss t12 t11 h fun t13 h =>
vIf t13 (
(fun (e8 : AV → Hp → Prop) =>
cf f_codec_Reader_Num [t0] h fun t16 h =>
vBslice 1 1 false [(.int .i64 0)] [(0, 1, t16)] h fun t17 h =>
vAppend2 1 8 false t4 t17 h fun t18 h =>
e8 t18 h) fun t4 h =>
vAdd t12 (.int .i64 1) h fun t19 h =>
ih7 t4 t19 h) (
e0 t4 h)
noncomputable def s_codec_Reader_VectorL7 (cf : CallK) (fuel : Nat) (e0 : AV → Hp → Prop) (t0 : AV) (t11 : AV) (m : Nat) : AV → AV → Hp → Prop := Nat.rec (motive := fun _ => AV → AV → Hp → Prop) (fun _ _ _ => False) (fun _ ih => s_codec_Reader_VectorL7B cf fuel e0 t0 t11 ih) m
theorem s_codec_Reader_VectorL7_succ (cf : CallK) (fuel : Nat) (e0 : AV → Hp → Prop) (t0 : AV) (t11 : AV) (m : Nat) : s_codec_Reader_VectorL7 cf fuel e0 t0 t11 (m + 1) = s_codec_Reader_VectorL7B cf fuel e0 t0 t11 (s_codec_Reader_VectorL7 cf fuel e0 t0 t11 m) := rfl
noncomputable def s_codec_Reader_Vector (cf : CallK) (fuel : Nat) (t0 : AV) (h : Hp) (K : AV → Hp → Prop) : Prop :=
cf f_codec_Reader_Num [t0] h fun t6 h =>
vGtr t6 (.int .i64 64) h fun t9 h =>
cf f_codec_Reader_fails [t0, t9] h fun t10 h =>
vIf t10 (
K .nilslice h) (
(fun (e0 : AV → Hp → Prop) =>
s_codec_Reader_VectorL7 cf fuel (s_codec_Reader_VectorE0 cf fuel K t0) t0 t6 fuel .nilslice (.int .i64 0) h) (s_codec_Reader_VectorE0 cf fuel K t0))
theorem s_codec_Reader_Vector_eq (cf : CallK) (fuel : Nat) (t0 : AV) (h : Hp) (K : AV → Hp → Prop) : s_codec_Reader_Vector cf fuel t0 h K = deepT (tabOf Tryz.prog) f_codec_Reader_Vector cf fuel [t0] h K :=
  Eq.trans (by kernel_rfl) (rFun (by kernel_rfl) (rSeq (by kernel_rfl) (rSeq (by kernel_rfl) (rSeq (by kernel_rfl) (rSeq (by kernel_rfl) (rSeq (by kernel_rfl) rExact (rSeq (by kernel_rfl) (rBlock (by kernel_rfl) (rLoop (by kernel_rfl) (fun m7 fr h => s_codec_Reader_VectorL7 cf fuel (s_codec_Reader_VectorE0 cf fuel K (getS fr (gpos 0))) (getS fr (gpos 0)) (getS fr (gpos 11)) m7 (getS fr (gpos 4)) (getS fr (gpos 12)) h) (funext fun fr => funext fun h => by kernel_rfl) fun m7 => rCast (funext fun fr => funext fun h => by kernel_rfl) rExact)) rExact)) rExact) rExact) rExact) rExact))

noncomputable def s_codec_Reader_Err (cf : CallK) (fuel : Nat) (t0 : AV) (h : Hp) (K : AV → Hp → Prop) : Prop :=
vEq false eqP t0 .nilptr h fun t4 h =>
joinG (fun g3 => grdV t4 false (vMov t0 h g3) (g3 undefV h)) fun t6 h =>
joinG (fun g2 => grdV t4 false (vNilck t6 h g2) (g2 undefV h)) fun t7 h =>
joinG (fun g1 => grdV t4 false (vFaddr 1 t7 h g1) (g1 undefV h)) fun t8 h =>
joinG (fun g0 => grdV t4 false (vLoad2 t8 h g0) (g0 undefV h)) fun t9 h =>
vPick t4 (.bool .true) t9 h fun t10 h =>
vIf t10 (
K (.int .i64 74) h) (
K (.int .i64 0) h)
theorem s_codec_Reader_Err_eq (cf : CallK) (fuel : Nat) (t0 : AV) (h : Hp) (K : AV → Hp → Prop) : s_codec_Reader_Err cf fuel t0 h K = deepT (tabOf Tryz.prog) f_codec_Reader_Err cf fuel [t0] h K :=
  Eq.trans (by kernel_rfl) (rFun (by kernel_rfl) rExact)

noncomputable def s_codec_Reader_Left (cf : CallK) (fuel : Nat) (t0 : AV) (h : Hp) (K : AV → Hp → Prop) : Prop :=
vEq false eqP t0 .nilptr h fun t4 h =>
vIf t4 (
K (.int .i64 0) h) (
vNilck t0 h fun t6 h =>
vFaddr 0 t6 h fun t7 h =>
vLoad2 t7 h fun t8 h =>
vLenL2 t8 h fun t9 h =>
K t9 h)
theorem s_codec_Reader_Left_eq (cf : CallK) (fuel : Nat) (t0 : AV) (h : Hp) (K : AV → Hp → Prop) : s_codec_Reader_Left cf fuel t0 h K = deepT (tabOf Tryz.prog) f_codec_Reader_Left cf fuel [t0] h K :=
  Eq.trans (by kernel_rfl) (rFun (by kernel_rfl) rExact)

noncomputable def s_ops_Decode (cf : CallK) (fuel : Nat) (t0 : AV) (h : Hp) (K : AV → Hp → Prop) : Prop :=
vBox 11 (.agg [(.int .i64 0), (.int .i64 0), (.int .i64 0), (.int .i64 0), (.int .i64 0), (.int .i64 0), (.int .i64 0), (.int .i64 0), (.str 0 0), .nilslice, .nilslice]) h fun t2 h =>
cf f_codec_NewReader [t0] h fun t8 h =>
cf f_codec_Reader_Num [t8] h fun t10 h =>
cf f_codec_Reader_ID [t8] h fun t12 h =>
cf f_codec_Reader_Num [t8] h fun t14 h =>
cf f_codec_Reader_ID [t8] h fun t16 h =>
cf f_codec_Reader_ID [t8] h fun t18 h =>
cf f_codec_Reader_Text [t8] h fun t20 h =>
cf f_codec_Reader_Bytes [t8] h fun t22 h =>
cf f_codec_Reader_Vector [t8] h fun t24 h =>
vBuild [(.int .i64 0), (.int .i64 0), (.int .i64 0), (.int .i64 0), (.int .i64 0), (.int .i64 0), (.int .i64 0), (.int .i64 0), (.str 0 0), .nilslice, .nilslice] [(0, 2, t12), (2, 1, t14), (4, 2, t16), (6, 2, t18), (8, 1, t20), (9, 1, t22), (10, 1, t24)] h fun t25 h =>
vBox 11 (.agg [(.int .i64 0), (.int .i64 0), (.int .i64 0), (.int .i64 0), (.int .i64 0), (.int .i64 0), (.int .i64 0), (.int .i64 0), (.str 0 0), .nilslice, .nilslice]) h fun t6 h =>
vStore 11 t6 t25 h fun _ h =>
(fun (j0 : Hp → Prop) =>
vLeq t10 (.int .i64 4) h fun t27 h =>
vIf t27 (
vFaddr 3 t6 h fun t29 h =>
vStore 1 t29 t10 h fun _ h =>
j0 h) (
j0 h)) fun h =>
cf f_codec_Reader_Done [t8] h fun t31 h =>
vNeq t31 (.int .i64 0) h fun t32 h =>
joinG (fun g3 => grdV t32 false (vLoadA 11 t6 h g3) (g3 undefV h)) fun t34 h =>
joinG (fun g2 => grdV t32 false (cf f_ops_May [t34] h g2) (g2 undefV h)) fun t35 h =>
joinG (fun g1 => grdV t32 false (vNot t35 h g1) (g1 undefV h)) fun t36 h =>
vPick t32 (.bool .true) t36 h fun t37 h =>
vIf t37 (
vBuild [(.int .i64 0), (.int .i64 0), (.int .i64 0), (.int .i64 0), (.int .i64 0), (.int .i64 0), (.int .i64 0), (.int .i64 0), (.str 0 0), .nilslice, .nilslice] [] h fun t38 h =>
vStore 11 t2 t38 h fun _ h =>
vLoadA 11 t2 h fun r0 _ => K (.tup [r0, (.int .i64 74)]) h) (
vLoadA 11 t6 h fun t39 h =>
vStore 11 t2 t39 h fun _ h =>
vLoadA 11 t2 h fun r0 _ => K (.tup [r0, (.int .i64 0)]) h)
theorem s_ops_Decode_eq (cf : CallK) (fuel : Nat) (t0 : AV) (h : Hp) (K : AV → Hp → Prop) : s_ops_Decode cf fuel t0 h K = deepT (tabOf Tryz.prog) f_ops_Decode cf fuel [t0] h K :=
  Eq.trans (by kernel_rfl) (rFun (by kernel_rfl) rExact)

noncomputable def s_localfs_may (cf : CallK) (fuel : Nat) (t0 : AV) (h : Hp) (K : AV → Hp → Prop) : Prop :=
cf f_device_Device_Blocks [t0] h fun t4 h =>
cf f_localfs_Capacity [t4] h fun t5 h =>
vLss t5 (.int .i64 4) h fun t6 h =>
vIf t6 (
K (.int .i64 22) h) (
K (.int .i64 0) h)
theorem s_localfs_may_eq (cf : CallK) (fuel : Nat) (t0 : AV) (h : Hp) (K : AV → Hp → Prop) : s_localfs_may cf fuel t0 h K = deepT (tabOf Tryz.prog) f_localfs_may cf fuel [t0] h K :=
  Eq.trans (by kernel_rfl) (rFun (by kernel_rfl) rExact)

noncomputable def s_wal_MountE0 (cf : CallK) (fuel : Nat) (K : AV → Hp → Prop) (t4 : AV) : Hp → Prop := fun h =>
K (.tup [t4, (.int .i64 0)]) h
noncomputable def s_wal_MountL1B (cf : CallK) (fuel : Nat) (K : AV → Hp → Prop) (e0 : Hp → Prop) (t4 : AV) (t19 : AV) (t20 : AV) (ih1 : AV → Hp → Prop) : AV → Hp → Prop := fun t21 h =>
vLss t21 t20 h fun t22 h =>
vIf t22 (
(fun (e2 : Hp → Prop) =>
vIaddr 1 t19 t21 h fun t23 h =>
vLoad2 t23 h fun t24 h =>
vCallV t24 [] cf h fun t26 h =>
vNeq t26 (.int .i64 0) h fun t28 h =>
vIf t28 (
K (.tup [.nilptr, t26]) h) (
e2 h)) fun h =>
vAdd t21 (.int .i64 1) h fun t30 h =>
ih1 t30 h) (
e0 h)
noncomputable def s_wal_MountL1 (cf : CallK) (fuel : Nat) (K : AV → Hp → Prop) (e0 : Hp → Prop) (t4 : AV) (t19 : AV) (t20 : AV) (m : Nat) : AV → Hp → Prop := Nat.rec (motive := fun _ => AV → Hp → Prop) (fun _ _ => False) (fun _ ih => s_wal_MountL1B cf fuel K e0 t4 t19 t20 ih) m
theorem s_wal_MountL1_succ (cf : CallK) (fuel : Nat) (K : AV → Hp → Prop) (e0 : Hp → Prop) (t4 : AV) (t19 : AV) (t20 : AV) (m : Nat) : s_wal_MountL1 cf fuel K e0 t4 t19 t20 (m + 1) = s_wal_MountL1B cf fuel K e0 t4 t19 t20 (s_wal_MountL1 cf fuel K e0 t4 t19 t20 m) := rfl
noncomputable def s_wal_Mount (cf : CallK) (fuel : Nat) (t0 : AV) (h : Hp) (K : AV → Hp → Prop) : Prop :=
vBuild [.nilptr, .nilslice, (.int .i64 0), (.int .i64 0), (.bool .false), (.bool .false)] [(0, 1, t0)] h fun t9 h =>
vBox 6 t9 h fun t10 h =>
vFunc 169 [t10] [] h fun t12 h =>
vFunc 170 [t10] [] h fun t14 h =>
vFunc 171 [t10] [] h fun t16 h =>
vFunc 172 [t10] [] h fun t18 h =>
vBslice 1 4 false [.nilfunc] [(0, 1, t12), (1, 1, t14), (2, 1, t16), (3, 1, t18)] h fun t19 h =>
vLenL2 t19 h fun t20 h =>
(fun (e0 : Hp → Prop) =>
s_wal_MountL1 cf fuel K (s_wal_MountE0 cf fuel K t10) t10 t19 t20 fuel (.int .i64 0) h) (s_wal_MountE0 cf fuel K t10)
theorem s_wal_Mount_eq (cf : CallK) (fuel : Nat) (t0 : AV) (h : Hp) (K : AV → Hp → Prop) : s_wal_Mount cf fuel t0 h K = deepT (tabOf Tryz.prog) f_wal_Mount cf fuel [t0] h K :=
  Eq.trans (by kernel_rfl) (rFun (by kernel_rfl) (rSeq (by kernel_rfl) (rSeq (by kernel_rfl) (rSeq (by kernel_rfl) rExact (rSeq (by kernel_rfl) (rBlock (by kernel_rfl) (rLoop (by kernel_rfl) (fun m1 fr h => s_wal_MountL1 cf fuel K (s_wal_MountE0 cf fuel K (getS fr (gpos 4))) (getS fr (gpos 4)) (getS fr (gpos 19)) (getS fr (gpos 20)) m1 (getS fr (gpos 21)) h) (funext fun fr => funext fun h => by kernel_rfl) fun m1 => rCast (funext fun fr => funext fun h => by kernel_rfl) rExact)) rExact)) rExact) rExact))

noncomputable def s_wal_Volume_Blocks (cf : CallK) (fuel : Nat) (t0 : AV) (h : Hp) (K : AV → Hp → Prop) : Prop :=
vEq false eqP t0 .nilptr h fun t4 h =>
vIf t4 (
K (.int .i64 0) h) (
vNilck t0 h fun t6 h =>
vFaddr 1 t6 h fun t7 h =>
vLoad2 t7 h fun t8 h =>
vLenL2 t8 h fun t9 h =>
K t9 h)
theorem s_wal_Volume_Blocks_eq (cf : CallK) (fuel : Nat) (t0 : AV) (h : Hp) (K : AV → Hp → Prop) : s_wal_Volume_Blocks cf fuel t0 h K = deepT (tabOf Tryz.prog) f_wal_Volume_Blocks cf fuel [t0] h K :=
  Eq.trans (by kernel_rfl) (rFun (by kernel_rfl) rExact)


end Go.Proofs.YtciipeallilmiaaGreatDoor.sh2
