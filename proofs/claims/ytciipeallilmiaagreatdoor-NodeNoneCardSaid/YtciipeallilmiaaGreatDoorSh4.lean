/- The Go functions' code as the abstract machine's, over values; each is the code that the machine makes of the program's (theorems s_.._eq). No condition. -/
import Derived.Test.YtciipeallilmiaaGreatDoorAmC
import Derived.Test.YtciipeallilmiaaGreatDoorProg
import Derived.KernelRfl
namespace Go.Proofs.YtciipeallilmiaaGreatDoor.sh4
open Go Go.Am Go.Proofs
set_option linter.unusedVariables false
set_option maxRecDepth 100000
abbrev f_bytes_Clone : Nat := 145
abbrev f_clock_Clock_Next : Nat := 204
abbrev f_clock_Cmp : Nat := 219
abbrev f_clock_Less : Nat := 148
abbrev f_clock_Valid : Nat := 215
abbrev f_codec_NewWriter : Nat := 66
abbrev f_codec_Writer_Bytes : Nat := 150
abbrev f_codec_Writer_Done : Nat := 68
abbrev f_codec_Writer_ID : Nat := 213
abbrev f_codec_Writer_Num : Nat := 67
abbrev f_codec_Writer_Text : Nat := 214
abbrev f_codec_Writer_Vector : Nat := 157
abbrev f_codec_Writer_may : Nat := 144
abbrev f_container_heap_Pop : Nat := 109
abbrev f_container_heap_Push : Nat := 107
abbrev f_content_File_Heads : Nat := 198
abbrev f_content_File_Value : Nat := 202
abbrev f_fds_Table_Close : Nat := 129
abbrev f_fds_Table_Get : Nat := 126
abbrev f_fds_Table_Len : Nat := 199
abbrev f_fds_Table_Open : Nat := 125
abbrev f_fds_Table_Room : Nat := 123
abbrev f_fds_Table_Seek : Nat := 128
abbrev f_fds_Table_find : Nat := 200
abbrev f_localfs_FS_Replace : Nat := 151
abbrev f_localfs_FS_change : Nat := 221
abbrev f_movetree_Tree_Below : Nat := 206
abbrev f_movetree_Tree_Dir : Nat := 196
abbrev f_movetree_Tree_Parent : Nat := 207
abbrev f_oplog_file : Nat := 152
abbrev f_ops_Copy : Nat := 110
abbrev f_ops_Encode : Nat := 143
abbrev f_ops_May : Nat := 146
abbrev f_ops_Name : Nat := 203
abbrev f_ops_Root : Nat := 217
abbrev f_ops_Trash : Nat := 205
abbrev f_ops_earlier : Nat := 218
abbrev f_ops_seen : Nat := 216
abbrev f_path_Fresh : Nat := 130
abbrev f_slices_SortFunc_api_Entry_api_Entry : Nat := 210
abbrev f_strconv_FormatInt : Nat := 223
abbrev f_vector_Ahead : Nat := 168
abbrev f_vector_At : Nat := 106
abbrev f_vector_Leq : Nat := 147
abbrev f_vector_Norm : Nat := 105
abbrev f_vector_With : Nat := 149
abbrev f_vector_made : Nat := 177
abbrev f_vfs_call_bare : Nat := 135
abbrev f_vfs_call_dir : Nat := 134
abbrev f_vfs_call_file : Nat := 137
abbrev f_vfs_call_find : Nat := 120
abbrev f_vfs_call_gone : Nat := 136
abbrev f_vfs_call_make : Nat := 131
abbrev f_vfs_call_there : Nat := 140
abbrev f_vfs_call_written : Nat := 124
abbrev f_vfs_place_name : Nat := 132
abbrev f_vfs_place_root : Nat := 133
abbrev f_view_View_Apply : Nat := 181
abbrev f_view_View_Below : Nat := 138
abbrev f_view_View_Heads : Nat := 142
abbrev f_view_View_List : Nat := 141
abbrev f_view_View_Live : Nat := 195
abbrev f_view_View_Read : Nat := 127
abbrev f_view_View_Stat : Nat := 122
abbrev f_view_View_Where : Nat := 139
abbrev f_view_View_entry : Nat := 209
abbrev f_view_View_file : Nat := 201
abbrev f_view_View_kids : Nat := 208

noncomputable def s_fds_Table_Room (cf : CallK) (fuel : Nat) (t0 : AV) (h : Hp) (K : AV → Hp → Prop) : Prop :=
vEq true eqP t0 .nilptr h fun t4 h =>
joinG (fun g2 => grdV t4 true (vMov t0 h g2) (g2 undefV h)) fun t6 h =>
joinG (fun g1 => grdV t4 true (cf f_fds_Table_Len [t6] h g1) (g1 undefV h)) fun t7 h =>
joinG (fun g0 => grdV t4 true (vLss t7 (.int .i64 32) h g0) (g0 undefV h)) fun t8 h =>
vPick t4 t8 (.bool .false) h fun t9 h =>
K t9 h
theorem s_fds_Table_Room_eq (cf : CallK) (fuel : Nat) (t0 : AV) (h : Hp) (K : AV → Hp → Prop) : s_fds_Table_Room cf fuel t0 h K = deepT (tabOf Tryz.prog) f_fds_Table_Room cf fuel [t0] h K :=
  Eq.trans (by kernel_rfl) (rFun (by kernel_rfl) rExact)

noncomputable def s_fds_Table_OpenB0 (cf : CallK) (fuel : Nat) (K : AV → Hp → Prop) (t0 : AV) (t8 : AV) (h : Hp) : Prop :=
vNilck t0 h fun t38 h =>
vFaddr 0 t38 h fun t39 h =>
vLoad2 t39 h fun t40 h =>
vLoadA 5 t8 h fun t41 h =>
vBslice 5 1 false [(.int .i64 0), (.int .i64 0), (.int .i64 0), (.int .i64 0), (.bool .false)] [(0, 5, t41)] h fun t42 h =>
vLoad2 t39 h fun c _ => gd (sameV c t40) (
vAppend2 5 40 false t40 t42 h fun t43 h =>
vNilck t0 h fun t44 h =>
vFaddr 0 t44 h fun t45 h =>
vStore 1 t45 t43 h fun _ h =>
vNilck t0 h fun t47 h =>
vFaddr 0 t47 h fun t48 h =>
vLoad2 t48 h fun t49 h =>
vLenL2 t49 h fun t50 h =>
vArith Go.Am.subI t50 (.int .i64 1) h fun t51 h =>
K (.tup [t51, (.int .i64 0)]) h)
noncomputable def s_fds_Table_OpenB1 (cf : CallK) (fuel : Nat) (K : AV → Hp → Prop) (t0 : AV) (t4 : AV) (t2 : AV) (h : Hp) : Prop :=
vLoadA 2 t4 h fun t13 h =>
vBuild [(.int .i64 0), (.int .i64 0), (.int .i64 0), (.int .i64 0), (.bool .false)] [(0, 2, t13), (2, 1, t2), (3, 1, (.int .i64 0)), (4, 1, (.bool .true))] h fun t15 h =>
vBox 5 (.agg [(.int .i64 0), (.int .i64 0), (.int .i64 0), (.int .i64 0), (.bool .false)]) h fun t8 h =>
vStore 5 t8 t15 h fun _ h =>
vNilck t0 h fun t17 h =>
vFaddr 1 t17 h fun t18 h =>
vLoad2 t18 h fun t19 h =>
vLenL2 t19 h fun t20 h =>
vGtr t20 (.int .i64 0) h fun t21 h =>
vIf t21 (
vNilck t0 h fun t23 h =>
vFaddr 1 t23 h fun t24 h =>
vIface 290 t24 h fun t25 h =>
cf f_container_heap_Pop [t25] h fun t26 h =>
vAssert 3 false (.int .i64 0) t26 h fun t27 h =>
vNilck t0 h fun t29 h =>
vFaddr 0 t29 h fun t30 h =>
vLoad2 t30 h fun t31 h =>
vLoadA 5 t8 h fun t33 h =>
vIaddr 5 t31 t27 h fun t34 h =>
vStore 5 t34 t33 h fun _ h =>
K (.tup [t27, (.int .i64 0)]) h) (
s_fds_Table_OpenB0 cf fuel K t0 t8 h)
noncomputable def s_fds_Table_Open (cf : CallK) (fuel : Nat) (t0 : AV) (t1 : AV) (t2 : AV) (h : Hp) (K : AV → Hp → Prop) : Prop :=
vBox 2 t1 h fun t4 h =>
cf f_fds_Table_Room [t0] h fun t11 h =>
vNot t11 h fun t12 h =>
vIf t12 (
K (.tup [(.int .i64 0), (.int .i64 23)]) h) (
s_fds_Table_OpenB1 cf fuel K t0 t4 t2 h)
theorem s_fds_Table_Open_eq (cf : CallK) (fuel : Nat) (t0 : AV) (t1 : AV) (t2 : AV) (h : Hp) (K : AV → Hp → Prop) : s_fds_Table_Open cf fuel t0 t1 t2 h K = deepT (tabOf Tryz.prog) f_fds_Table_Open cf fuel [t0, t1, t2] h K :=
  Eq.trans (by kernel_rfl) (rFun (by kernel_rfl) rExact)

noncomputable def s_fds_Table_Get (cf : CallK) (fuel : Nat) (t0 : AV) (t1 : AV) (h : Hp) (K : AV → Hp → Prop) : Prop :=
vBox 2 (.agg [(.int .i64 0), (.int .i64 0)]) h fun t4 h =>
cf f_fds_Table_find [t0, t1] h fun t11 h =>
vEq false eqP t11 .nilptr h fun t13 h =>
vIf t13 (
vBuild [(.int .i64 0), (.int .i64 0)] [] h fun t14 h =>
vStore 2 t4 t14 h fun _ h =>
vLoadA 2 t4 h fun r0 _ => K (.tup [r0, (.int .i64 0), (.int .i64 0), (.int .i64 9)]) h) (
vNilck t11 h fun t16 h =>
vFaddr 0 t16 h fun t17 h =>
vLoadA 2 t17 h fun t18 h =>
vNilck t11 h fun t20 h =>
vFaddr 2 t20 h fun t21 h =>
vLoad2 t21 h fun t22 h =>
vNilck t11 h fun t24 h =>
vFaddr 3 t24 h fun t25 h =>
vLoad2 t25 h fun t26 h =>
vStore 2 t4 t18 h fun _ h =>
vLoad2 t21 h fun c _ => gd (sameV c t22) (
vLoad2 t25 h fun c _ => gd (sameV c t26) (
vLoadA 2 t4 h fun r0 _ => K (.tup [r0, t22, t26, (.int .i64 0)]) h)))
theorem s_fds_Table_Get_eq (cf : CallK) (fuel : Nat) (t0 : AV) (t1 : AV) (h : Hp) (K : AV → Hp → Prop) : s_fds_Table_Get cf fuel t0 t1 h K = deepT (tabOf Tryz.prog) f_fds_Table_Get cf fuel [t0, t1] h K :=
  Eq.trans (by kernel_rfl) (rFun (by kernel_rfl) rExact)

noncomputable def s_view_View_Read (cf : CallK) (fuel : Nat) (t0 : AV) (t1 : AV) (h : Hp) (K : AV → Hp → Prop) : Prop :=
vBox 2 t1 h fun t3 h =>
vLoadA 2 t3 h fun t10 h =>
cf f_view_View_file [t0, t10] h fun t11 h =>
vExtract 0 t11 h fun t12 h =>
vExtract 1 t11 h fun t13 h =>
vNeq t13 (.int .i64 0) h fun t15 h =>
vIf t15 (
K (.tup [.nilslice, t13]) h) (
cf f_content_File_Value [t12] h fun t18 h =>
K (.tup [t18, (.int .i64 0)]) h)
theorem s_view_View_Read_eq (cf : CallK) (fuel : Nat) (t0 : AV) (t1 : AV) (h : Hp) (K : AV → Hp → Prop) : s_view_View_Read cf fuel t0 t1 h K = deepT (tabOf Tryz.prog) f_view_View_Read cf fuel [t0, t1] h K :=
  Eq.trans (by kernel_rfl) (rFun (by kernel_rfl) rExact)

noncomputable def s_fds_Table_Seek (cf : CallK) (fuel : Nat) (t0 : AV) (t1 : AV) (t2 : AV) (h : Hp) (K : AV → Hp → Prop) : Prop :=
cf f_fds_Table_find [t0, t1] h fun t10 h =>
(fun (e0 : Hp → Prop) =>
vEq false eqP t10 .nilptr h fun t13 h =>
vIf t13 (
K (.int .i64 9) h) (
vLss t2 (.int .i64 0) h fun t16 h =>
vIf t16 (
K (.int .i64 22) h) (
vGtr t2 (.int .i64 1073741824) h fun t19 h =>
vIf t19 (
K (.int .i64 75) h) (
e0 h)))) fun h =>
vNilck t10 h fun t22 h =>
vFaddr 3 t22 h fun t23 h =>
vStore 1 t23 t2 h fun _ h =>
K (.int .i64 0) h
theorem s_fds_Table_Seek_eq (cf : CallK) (fuel : Nat) (t0 : AV) (t1 : AV) (t2 : AV) (h : Hp) (K : AV → Hp → Prop) : s_fds_Table_Seek cf fuel t0 t1 t2 h K = deepT (tabOf Tryz.prog) f_fds_Table_Seek cf fuel [t0, t1, t2] h K :=
  Eq.trans (by kernel_rfl) (rFun (by kernel_rfl) rExact)

noncomputable def s_fds_Table_Close (cf : CallK) (fuel : Nat) (t0 : AV) (t1 : AV) (h : Hp) (K : AV → Hp → Prop) : Prop :=
cf f_fds_Table_find [t0, t1] h fun t8 h =>
vEq false eqP t8 .nilptr h fun t10 h =>
vIf t10 (
K (.int .i64 9) h) (
vBuild [(.int .i64 0), (.int .i64 0), (.int .i64 0), (.int .i64 0), (.bool .false)] [] h fun t12 h =>
vNilck t8 h fun t13 h =>
vStore 5 t13 t12 h fun _ h =>
vNilck t0 h fun t15 h =>
vFaddr 1 t15 h fun t16 h =>
vIface 290 t16 h fun t17 h =>
vIface 3 t1 h fun t19 h =>
cf f_container_heap_Push [t17, t19] h fun t20 h =>
K (.int .i64 0) h)
theorem s_fds_Table_Close_eq (cf : CallK) (fuel : Nat) (t0 : AV) (t1 : AV) (h : Hp) (K : AV → Hp → Prop) : s_fds_Table_Close cf fuel t0 t1 h K = deepT (tabOf Tryz.prog) f_fds_Table_Close cf fuel [t0, t1] h K :=
  Eq.trans (by kernel_rfl) (rFun (by kernel_rfl) rExact)

noncomputable def s_path_Fresh (cf : CallK) (fuel : Nat) (t0 : AV) (h : Hp) (K : AV → Hp → Prop) : Prop :=
vLenL2 t0 h fun t4 h =>
vEql t4 (.int .i64 0) h fun t5 h =>
vIf t5 (
K (.int .i64 17) h) (
vLenL2 t0 h fun t8 h =>
vArith Go.Am.subI t8 (.int .i64 1) h fun t9 h =>
vIaddr 1 t0 t9 h fun t10 h =>
vLoad2 t10 h fun t11 h =>
cf f_ops_Name [t11] h fun t12 h =>
K t12 h)
theorem s_path_Fresh_eq (cf : CallK) (fuel : Nat) (t0 : AV) (h : Hp) (K : AV → Hp → Prop) : s_path_Fresh cf fuel t0 h K = deepT (tabOf Tryz.prog) f_path_Fresh cf fuel [t0] h K :=
  Eq.trans (by kernel_rfl) (rFun (by kernel_rfl) rExact)

noncomputable def s_vfs_call_makeE1 (cf : CallK) (fuel : Nat) (K : AV → Hp → Prop) (t0 : AV) (t5 : AV) : Hp → Prop := fun h =>
vNilck t0 h fun t141 h =>
vFaddr 0 t141 h fun t142 h =>
vLoad2 t142 h fun t143 h =>
vNilck t143 h fun t145 h =>
vFaddr 3 t145 h fun t146 h =>
vStore 1 t146 t5 h fun _ h =>
K (.int .i64 0) h
noncomputable def s_vfs_call_makeB4 (cf : CallK) (fuel : Nat) (K : AV → Hp → Prop) (ih2 : AV → Hp → Prop) (t0 : AV) (t110 : AV) (t112 : AV) (h : Hp) : Prop :=
(fun (e3 : Hp → Prop) =>
vIaddr 11 t110 t112 h fun t114 h =>
vLoadA 11 t114 h fun t115 h =>
vBox 11 (.agg [(.int .i64 0), (.int .i64 0), (.int .i64 0), (.int .i64 0), (.int .i64 0), (.int .i64 0), (.int .i64 0), (.int .i64 0), (.str 0 0), .nilslice, .nilslice]) h fun t12 h =>
vStore 11 t12 t115 h fun _ h =>
vNilck t0 h fun t117 h =>
vFaddr 0 t117 h fun t118 h =>
vLoad2 t118 h fun t119 h =>
vNilck t119 h fun t120 h =>
vFaddr 2 t120 h fun t121 h =>
vLoad2 t121 h fun t122 h =>
vLoadA 11 t12 h fun t123 h =>
cf f_view_View_Apply [t122, t123] h fun t124 h =>
vNeq t124 (.int .i64 0) h fun t126 h =>
vIf t126 (
K t124 h) (
vNilck t0 h fun t130 h =>
vFaddr 9 t130 h fun t131 h =>
vLoad2 t131 h fun t132 h =>
vLoadA 11 t12 h fun t133 h =>
cf f_ops_Copy [t133] h fun t134 h =>
vLoad2 t131 h fun c _ => gd (sameV c t132) (
vBslice 11 1 false [(.int .i64 0), (.int .i64 0), (.int .i64 0), (.int .i64 0), (.int .i64 0), (.int .i64 0), (.int .i64 0), (.int .i64 0), (.str 0 0), .nilslice, .nilslice] [(0, 11, t134)] h fun t135 h =>
vLoad2 t131 h fun c _ => gd (sameV c t132) (
vAppend2 11 128 false t132 t135 h fun t136 h =>
vNilck t0 h fun t137 h =>
vFaddr 9 t137 h fun t138 h =>
vStore 1 t138 t136 h fun _ h =>
e3 h)))) fun h =>
vAdd t112 (.int .i64 1) h fun t139 h =>
ih2 t139 h
noncomputable def s_vfs_call_makeL2B (cf : CallK) (fuel : Nat) (K : AV → Hp → Prop) (e1 : Hp → Prop) (t0 : AV) (t5 : AV) (t110 : AV) (t111 : AV) (ih2 : AV → Hp → Prop) : AV → Hp → Prop := fun t112 h =>
vLss t112 t111 h fun t113 h =>
vIf t113 (
s_vfs_call_makeB4 cf fuel K ih2 t0 t110 t112 h) (
e1 h)
noncomputable def s_vfs_call_makeL2 (cf : CallK) (fuel : Nat) (K : AV → Hp → Prop) (e1 : Hp → Prop) (t0 : AV) (t5 : AV) (t110 : AV) (t111 : AV) (m : Nat) : AV → Hp → Prop := Nat.rec (motive := fun _ => AV → Hp → Prop) (fun _ _ => False) (fun _ ih => s_vfs_call_makeL2B cf fuel K e1 t0 t5 t110 t111 ih) m
theorem s_vfs_call_makeL2_succ (cf : CallK) (fuel : Nat) (K : AV → Hp → Prop) (e1 : Hp → Prop) (t0 : AV) (t5 : AV) (t110 : AV) (t111 : AV) (m : Nat) : s_vfs_call_makeL2 cf fuel K e1 t0 t5 t110 t111 (m + 1) = s_vfs_call_makeL2B cf fuel K e1 t0 t5 t110 t111 (s_vfs_call_makeL2 cf fuel K e1 t0 t5 t110 t111 m) := rfl
noncomputable def s_vfs_call_makeE0 (cf : CallK) (fuel : Nat) (K : AV → Hp → Prop) (t0 : AV) (t1 : AV) : AV → Hp → Prop := fun t5 h =>
vNilck t0 h fun t97 h =>
vFaddr 8 t97 h fun t98 h =>
vLoad2 t98 h fun t99 h =>
vEq true eqNF t99 .nilfunc h fun t100 h =>
joinG (fun g11 => grdV t100 true (vMov t0 h g11) (g11 undefV h)) fun t102 h =>
joinG (fun g10 => grdV t100 true (vNilck t102 h g10) (g10 undefV h)) fun t103 h =>
joinG (fun g9 => grdV t100 true (vFaddr 8 t103 h g9) (g9 undefV h)) fun t104 h =>
joinG (fun g8 => grdV t100 true (vLoad2 t104 h g8) (g8 undefV h)) fun t105 h =>
joinG (fun g7 => grdV t100 true (vMov t1 h g7) (g7 undefV h)) fun t106 h =>
joinG (fun g6 => grdV t100 true (vCallV t105 [t106] cf h g6) (g6 undefV h)) fun t107 h =>
joinG (fun g5 => grdV t100 true (vNot t107 h g5) (g5 undefV h)) fun t108 h =>
vPick t100 t108 (.bool .false) h fun t109 h =>
vIf t109 (
K (.int .i64 28) h) (
vLenL2 t1 h fun t111 h =>
(fun (e1 : Hp → Prop) =>
s_vfs_call_makeL2 cf fuel K (s_vfs_call_makeE1 cf fuel K t0 t5) t0 t5 t1 t111 fuel (.int .i64 0) h) (s_vfs_call_makeE1 cf fuel K t0 t5))
noncomputable def s_vfs_call_makeB20 (cf : CallK) (fuel : Nat) (e13 : AV → Hp → Prop) (t7 : AV) (t0 : AV) (t23 : AV) (t1 : AV) (t5 : AV) (h : Hp) : Prop :=
vIaddr 11 t1 t23 h fun t43 h =>
vLoadA 2 t7 h fun t47 h =>
vNilck t0 h fun t50 h =>
vFaddr 0 t50 h fun t51 h =>
vLoad2 t51 h fun t52 h =>
vNilck t52 h fun t53 h =>
vFaddr 0 t53 h fun t54 h =>
vLoad2 t54 h fun t55 h =>
cf f_vector_At [t5, t55] h fun t56 h =>
vLoadA 2 t7 h fun c _ => gd (sameV c t47) (
vAdd t56 (.int .i64 1) h fun t57 h =>
cf f_vector_Norm [t5] h fun t59 h =>
vLoadA 2 t7 h fun c _ => gd (sameV c t47) (
vNilck t43 h fun t60 h =>
vFaddr 0 t60 h fun t61 h =>
vStore 2 t61 t47 h fun _ h =>
vNilck t43 h fun t62 h =>
vFaddr 2 t62 h fun t63 h =>
vStore 1 t63 t57 h fun _ h =>
vNilck t43 h fun t64 h =>
vFaddr 10 t64 h fun t65 h =>
vStore 1 t65 t59 h fun _ h =>
(fun (j14 : Hp → Prop) =>
vNilck t43 h fun t67 h =>
vFaddr 3 t67 h fun t68 h =>
vLoad2 t68 h fun t69 h =>
vEql t69 (.int .i64 1) h fun t70 h =>
joinG (fun g19 => grdV t70 false (vMov t43 h g19) (g19 undefV h)) fun t72 h =>
joinG (fun g18 => grdV t70 false (vNilck t72 h g18) (g18 undefV h)) fun t73 h =>
joinG (fun g17 => grdV t70 false (vFaddr 3 t73 h g17) (g17 undefV h)) fun t74 h =>
joinG (fun g16 => grdV t70 false (vLoad2 t74 h g16) (g16 undefV h)) fun t75 h =>
joinG (fun g15 => grdV t70 false (vEql t75 (.int .i64 2) h g15) (g15 undefV h)) fun t76 h =>
vPick t70 (.bool .true) t76 h fun t77 h =>
vIf t77 (
vLoadA 2 t7 h fun t79 h =>
vNilck t43 h fun t80 h =>
vFaddr 4 t80 h fun t81 h =>
vStore 2 t81 t79 h fun _ h =>
j14 h) (
j14 h)) fun h =>
vNilck t0 h fun t84 h =>
vFaddr 0 t84 h fun t85 h =>
vLoad2 t85 h fun t86 h =>
vNilck t86 h fun t87 h =>
vFaddr 0 t87 h fun t88 h =>
vLoad2 t88 h fun t89 h =>
vNilck t43 h fun t91 h =>
vFaddr 2 t91 h fun t92 h =>
vLoad2 t92 h fun t93 h =>
cf f_vector_With [t5, t89, t93] h fun t94 h =>
e13 t94 h))
noncomputable def s_vfs_call_makeB21 (cf : CallK) (fuel : Nat) (K : AV → Hp → Prop) (ih12 : AV → AV → Hp → Prop) (t0 : AV) (t1 : AV) (t5 : AV) (t23 : AV) (h : Hp) : Prop :=
(fun (e13 : AV → Hp → Prop) =>
vNilck t0 h fun t28 h =>
vFaddr 0 t28 h fun t29 h =>
vLoad2 t29 h fun t30 h =>
vNilck t30 h fun t31 h =>
vFaddr 1 t31 h fun t32 h =>
vLoad2 t32 h fun t33 h =>
cf f_clock_Clock_Next [t33] h fun t34 h =>
vExtract 0 t34 h fun t35 h =>
vExtract 1 t34 h fun t36 h =>
vExtract 2 t34 h fun t37 h =>
vBox 2 (.agg [(.int .i64 0), (.int .i64 0)]) h fun t7 h =>
vStore 2 t7 t35 h fun _ h =>
vNeq t37 (.int .i64 0) h fun t39 h =>
vIf t39 (
K t37 h) (
s_vfs_call_makeB20 cf fuel e13 t7 t0 t23 t1 t5 h)) fun t5 h =>
vAdd t23 (.int .i64 1) h fun t95 h =>
ih12 t5 t95 h
noncomputable def s_vfs_call_makeL12B (cf : CallK) (fuel : Nat) (K : AV → Hp → Prop) (e0 : AV → Hp → Prop) (t0 : AV) (t1 : AV) (t22 : AV) (ih12 : AV → AV → Hp → Prop) : AV → AV → Hp → Prop := fun t5 t23 h =>
vLss t23 t22 h fun t24 h =>
vIf t24 (
s_vfs_call_makeB21 cf fuel K ih12 t0 t1 t5 t23 h) (
e0 t5 h)
noncomputable def s_vfs_call_makeL12 (cf : CallK) (fuel : Nat) (K : AV → Hp → Prop) (e0 : AV → Hp → Prop) (t0 : AV) (t1 : AV) (t22 : AV) (m : Nat) : AV → AV → Hp → Prop := Nat.rec (motive := fun _ => AV → AV → Hp → Prop) (fun _ _ _ => False) (fun _ ih => s_vfs_call_makeL12B cf fuel K e0 t0 t1 t22 ih) m
theorem s_vfs_call_makeL12_succ (cf : CallK) (fuel : Nat) (K : AV → Hp → Prop) (e0 : AV → Hp → Prop) (t0 : AV) (t1 : AV) (t22 : AV) (m : Nat) : s_vfs_call_makeL12 cf fuel K e0 t0 t1 t22 (m + 1) = s_vfs_call_makeL12B cf fuel K e0 t0 t1 t22 (s_vfs_call_makeL12 cf fuel K e0 t0 t1 t22 m) := rfl
noncomputable def s_vfs_call_make (cf : CallK) (fuel : Nat) (t0 : AV) (t1 : AV) (h : Hp) (K : AV → Hp → Prop) : Prop :=
vNilck t0 h fun t15 h =>
vFaddr 0 t15 h fun t16 h =>
vLoad2 t16 h fun t17 h =>
vNilck t17 h fun t18 h =>
vFaddr 3 t18 h fun t19 h =>
vLoad2 t19 h fun t20 h =>
vLenL2 t1 h fun t22 h =>
(fun (e0 : AV → Hp → Prop) =>
s_vfs_call_makeL12 cf fuel K (s_vfs_call_makeE0 cf fuel K t0 t1) t0 t1 t22 fuel t20 (.int .i64 0) h) (s_vfs_call_makeE0 cf fuel K t0 t1)
theorem s_vfs_call_make_eq (cf : CallK) (fuel : Nat) (t0 : AV) (t1 : AV) (h : Hp) (K : AV → Hp → Prop) : s_vfs_call_make cf fuel t0 t1 h K = deepT (tabOf Tryz.prog) f_vfs_call_make cf fuel [t0, t1] h K :=
  Eq.trans (by kernel_rfl) (rFun (by kernel_rfl) (rSeq (by kernel_rfl) (rSeq (by kernel_rfl) (rSeq (by kernel_rfl) (rSeq (by kernel_rfl) (rSeq (by kernel_rfl) rExact (rSeq (by kernel_rfl) (rBlock (by kernel_rfl) (rLoop (by kernel_rfl) (fun m2 fr h => s_vfs_call_makeL2 cf fuel K (s_vfs_call_makeE1 cf fuel K (getS fr (gpos 0)) (getS fr (gpos 5))) (getS fr (gpos 0)) (getS fr (gpos 5)) (getS fr (gpos 110)) (getS fr (gpos 111)) m2 (getS fr (gpos 112)) h) (funext fun fr => funext fun h => by kernel_rfl) fun m2 => rCast (funext fun fr => funext fun h => by kernel_rfl) rExact)) rExact)) rExact) (rSeq (by kernel_rfl) (rBlock (by kernel_rfl) (rLoop (by kernel_rfl) (fun m12 fr h => s_vfs_call_makeL12 cf fuel K (s_vfs_call_makeE0 cf fuel K (getS fr (gpos 0)) (getS fr (gpos 1))) (getS fr (gpos 0)) (getS fr (gpos 1)) (getS fr (gpos 22)) m12 (getS fr (gpos 5)) (getS fr (gpos 23)) h) (funext fun fr => funext fun h => by kernel_rfl) fun m12 => rCast (funext fun fr => funext fun h => by kernel_rfl) rExact)) rExact)) rExact) rExact))

noncomputable def s_vfs_place_name (cf : CallK) (fuel : Nat) (t0 : AV) (h : Hp) (K : AV → Hp → Prop) : Prop :=
vBox 6 t0 h fun t1 h =>
vFaddr 0 t1 h fun t3 h =>
vLoad2 t3 h fun t4 h =>
vFaddr 0 t1 h fun t5 h =>
vLoad2 t5 h fun t6 h =>
vLenL2 t6 h fun t7 h =>
vArith Go.Am.subI t7 (.int .i64 1) h fun t8 h =>
vIaddr 1 t4 t8 h fun t9 h =>
vLoad2 t9 h fun t10 h =>
K t10 h
theorem s_vfs_place_name_eq (cf : CallK) (fuel : Nat) (t0 : AV) (h : Hp) (K : AV → Hp → Prop) : s_vfs_place_name cf fuel t0 h K = deepT (tabOf Tryz.prog) f_vfs_place_name cf fuel [t0] h K :=
  Eq.trans (by kernel_rfl) (rFun (by kernel_rfl) rExact)

noncomputable def s_vfs_place_root (cf : CallK) (fuel : Nat) (t0 : AV) (h : Hp) (K : AV → Hp → Prop) : Prop :=
vBox 6 t0 h fun t1 h =>
vFaddr 0 t1 h fun t3 h =>
vLoad2 t3 h fun t4 h =>
vLenL2 t4 h fun t5 h =>
vEql t5 (.int .i64 0) h fun t6 h =>
K t6 h
theorem s_vfs_place_root_eq (cf : CallK) (fuel : Nat) (t0 : AV) (h : Hp) (K : AV → Hp → Prop) : s_vfs_place_root cf fuel t0 h K = deepT (tabOf Tryz.prog) f_vfs_place_root cf fuel [t0] h K :=
  Eq.trans (by kernel_rfl) (rFun (by kernel_rfl) rExact)

noncomputable def s_vfs_call_dir (cf : CallK) (fuel : Nat) (t0 : AV) (t1 : AV) (h : Hp) (K : AV → Hp → Prop) : Prop :=
vBox 2 t1 h fun t3 h =>
vNilck t0 h fun t9 h =>
vFaddr 0 t9 h fun t10 h =>
vLoad2 t10 h fun t11 h =>
vNilck t11 h fun t12 h =>
vFaddr 2 t12 h fun t13 h =>
vLoad2 t13 h fun t14 h =>
vLoadA 2 t3 h fun t15 h =>
cf f_view_View_Stat [t14, t15] h fun t16 h =>
vExtract 0 t16 h fun t17 h =>
vExtract 1 t16 h fun t18 h =>
vBox 5 (.agg [(.int .i64 0), (.int .i64 0), (.bool .false), (.int .i64 0), (.int .i64 0)]) h fun t5 h =>
vLoad2 t10 h fun c _ => gd (sameV c t11) (
vLoad2 t13 h fun c _ => gd (sameV c t14) (
vLoadA 2 t3 h fun c _ => gd (sameV c t15) (
vStore 5 t5 t17 h fun _ h =>
vFaddr 2 t5 h fun t19 h =>
vLoad2 t19 h fun t20 h =>
K t20 h)))
theorem s_vfs_call_dir_eq (cf : CallK) (fuel : Nat) (t0 : AV) (t1 : AV) (h : Hp) (K : AV → Hp → Prop) : s_vfs_call_dir cf fuel t0 t1 h K = deepT (tabOf Tryz.prog) f_vfs_call_dir cf fuel [t0, t1] h K :=
  Eq.trans (by kernel_rfl) (rFun (by kernel_rfl) rExact)

noncomputable def s_view_View_Below (cf : CallK) (fuel : Nat) (t0 : AV) (t1 : AV) (t2 : AV) (h : Hp) (K : AV → Hp → Prop) : Prop :=
vBox 2 t1 h fun t4 h =>
vBox 2 t2 h fun t5 h =>
vEq true eqP t0 .nilptr h fun t8 h =>
joinG (fun g6 => grdV t8 true (vMov t0 h g6) (g6 undefV h)) fun t10 h =>
joinG (fun g5 => grdV t8 true (vNilck t10 h g5) (g5 undefV h)) fun t11 h =>
joinG (fun g4 => grdV t8 true (vFaddr 0 t11 h g4) (g4 undefV h)) fun t12 h =>
joinG (fun g3 => grdV t8 true (vLoad2 t12 h g3) (g3 undefV h)) fun t13 h =>
joinG (fun g2 => grdV t8 true (vLoadA 2 t4 h g2) (g2 undefV h)) fun t14 h =>
joinG (fun g1 => grdV t8 true (vLoadA 2 t5 h g1) (g1 undefV h)) fun t15 h =>
joinG (fun g0 => grdV t8 true (cf f_movetree_Tree_Below [t13, t14, t15] h g0) (g0 undefV h)) fun t16 h =>
vPick t8 t16 (.bool .false) h fun t17 h =>
K t17 h
theorem s_view_View_Below_eq (cf : CallK) (fuel : Nat) (t0 : AV) (t1 : AV) (t2 : AV) (h : Hp) (K : AV → Hp → Prop) : s_view_View_Below cf fuel t0 t1 t2 h K = deepT (tabOf Tryz.prog) f_view_View_Below cf fuel [t0, t1, t2] h K :=
  Eq.trans (by kernel_rfl) (rFun (by kernel_rfl) rExact)

noncomputable def s_view_View_Where (cf : CallK) (fuel : Nat) (t0 : AV) (t1 : AV) (h : Hp) (K : AV → Hp → Prop) : Prop :=
vBox 2 t1 h fun t3 h =>
vBox 2 (.agg [(.int .i64 0), (.int .i64 0)]) h fun t4 h =>
vEq false eqP t0 .nilptr h fun t8 h =>
vIf t8 (
vBuild [(.int .i64 0), (.int .i64 0)] [] h fun t9 h =>
vStore 2 t4 t9 h fun _ h =>
vLoadA 2 t4 h fun r0 _ => K (.tup [r0, (.str 0 0), (.bool .false)]) h) (
vNilck t0 h fun t11 h =>
vFaddr 0 t11 h fun t12 h =>
vLoad2 t12 h fun t13 h =>
vLoadA 2 t3 h fun t14 h =>
cf f_movetree_Tree_Parent [t13, t14] h fun t15 h =>
vExtract 0 t15 h fun t16 h =>
vExtract 1 t15 h fun t17 h =>
vExtract 2 t15 h fun t18 h =>
vStore 2 t4 t16 h fun _ h =>
vLoadA 2 t4 h fun r0 _ => K (.tup [r0, t17, t18]) h)
theorem s_view_View_Where_eq (cf : CallK) (fuel : Nat) (t0 : AV) (t1 : AV) (h : Hp) (K : AV → Hp → Prop) : s_view_View_Where cf fuel t0 t1 h K = deepT (tabOf Tryz.prog) f_view_View_Where cf fuel [t0, t1] h K :=
  Eq.trans (by kernel_rfl) (rFun (by kernel_rfl) rExact)

noncomputable def s_vfs_call_there (cf : CallK) (fuel : Nat) (t0 : AV) (t1 : AV) (h : Hp) (K : AV → Hp → Prop) : Prop :=
vBox 6 (.agg [.nilslice, (.int .i64 0), (.int .i64 0), (.int .i64 0), (.int .i64 0), (.bool .false)]) h fun t4 h =>
cf f_vfs_call_find [t0, t1] h fun t11 h =>
vExtract 0 t11 h fun t12 h =>
vExtract 1 t11 h fun t13 h =>
vBox 6 (.agg [.nilslice, (.int .i64 0), (.int .i64 0), (.int .i64 0), (.int .i64 0), (.bool .false)]) h fun t6 h =>
vStore 6 t6 t12 h fun _ h =>
(fun (j0 : AV → Hp → Prop) =>
vEql t13 (.int .i64 0) h fun t15 h =>
joinG (fun g3 => grdV t15 true (vFaddr 5 t6 h g3) (g3 undefV h)) fun t17 h =>
joinG (fun g2 => grdV t15 true (vLoad2 t17 h g2) (g2 undefV h)) fun t18 h =>
joinG (fun g1 => grdV t15 true (vNot t18 h g1) (g1 undefV h)) fun t19 h =>
vPick t15 t19 (.bool .false) h fun t20 h =>
vIf t20 (
j0 (.int .i64 2) h) (
j0 t13 h)) fun t7 h =>
vLoadA 6 t6 h fun t21 h =>
vStore 6 t4 t21 h fun _ h =>
vLoadA 6 t4 h fun r0 _ => K (.tup [r0, t7]) h
theorem s_vfs_call_there_eq (cf : CallK) (fuel : Nat) (t0 : AV) (t1 : AV) (h : Hp) (K : AV → Hp → Prop) : s_vfs_call_there cf fuel t0 t1 h K = deepT (tabOf Tryz.prog) f_vfs_call_there cf fuel [t0, t1] h K :=
  Eq.trans (by kernel_rfl) (rFun (by kernel_rfl) rExact)

noncomputable def s_view_View_ListE1 (cf : CallK) (fuel : Nat) (K : AV → Hp → Prop) : AV → Hp → Prop := fun t6 h =>
cf f_slices_SortFunc_api_Entry_api_Entry [t6, (.func 211 [] [])] h fun t49 h =>
K (.tup [t6, (.int .i64 0)]) h
noncomputable def s_view_View_ListL2B (cf : CallK) (fuel : Nat) (e1 : AV → Hp → Prop) (t0 : AV) (t8 : AV) (t30 : AV) (t31 : AV) (ih2 : AV → AV → Hp → Prop) : AV → AV → Hp → Prop := fun t6 t32 h =>
vLss t32 t31 h fun t33 h =>
vIf t33 (
(fun (e3 : AV → Hp → Prop) =>
vIaddr 2 t30 t32 h fun t35 h =>
vLoadA 2 t35 h fun t36 h =>
vBox 2 (.agg [(.int .i64 0), (.int .i64 0)]) h fun t10 h =>
vStore 2 t10 t36 h fun _ h =>
vLoadA 2 t10 h fun t39 h =>
vIaddr 1 t8 t32 h fun t42 h =>
vLoad2 t42 h fun t43 h =>
cf f_view_View_entry [t0, t39, t43] h fun t44 h =>
vBslice 5 1 false [(.str 0 0), (.int .i64 0), (.int .i64 0), (.bool .false), (.int .i64 0)] [(0, 5, t44)] h fun t45 h =>
vAppend2 5 48 false t6 t45 h fun t46 h =>
e3 t46 h) fun t6 h =>
vAdd t32 (.int .i64 1) h fun t47 h =>
ih2 t6 t47 h) (
e1 t6 h)
noncomputable def s_view_View_ListL2 (cf : CallK) (fuel : Nat) (e1 : AV → Hp → Prop) (t0 : AV) (t8 : AV) (t30 : AV) (t31 : AV) (m : Nat) : AV → AV → Hp → Prop := Nat.rec (motive := fun _ => AV → AV → Hp → Prop) (fun _ _ _ => False) (fun _ ih => s_view_View_ListL2B cf fuel e1 t0 t8 t30 t31 ih) m
theorem s_view_View_ListL2_succ (cf : CallK) (fuel : Nat) (e1 : AV → Hp → Prop) (t0 : AV) (t8 : AV) (t30 : AV) (t31 : AV) (m : Nat) : s_view_View_ListL2 cf fuel e1 t0 t8 t30 t31 (m + 1) = s_view_View_ListL2B cf fuel e1 t0 t8 t30 t31 (s_view_View_ListL2 cf fuel e1 t0 t8 t30 t31 m) := rfl
noncomputable def s_view_View_List (cf : CallK) (fuel : Nat) (t0 : AV) (t1 : AV) (h : Hp) (K : AV → Hp → Prop) : Prop :=
vBox 2 t1 h fun t3 h =>
(fun (e0 : Hp → Prop) =>
vLoadA 2 t3 h fun t13 h =>
cf f_view_View_Live [t0, t13] h fun t14 h =>
vNot t14 h fun t15 h =>
vIf t15 (
K (.tup [.nilslice, (.int .i64 2)]) h) (
vNilck t0 h fun t18 h =>
vFaddr 0 t18 h fun t19 h =>
vLoad2 t19 h fun t20 h =>
vLoadA 2 t3 h fun t21 h =>
cf f_movetree_Tree_Dir [t20, t21] h fun t22 h =>
vNot t22 h fun t23 h =>
vIf t23 (
K (.tup [.nilslice, (.int .i64 20)]) h) (
e0 h))) fun h =>
vLoadA 2 t3 h fun t26 h =>
cf f_view_View_kids [t0, t26] h fun t27 h =>
vExtract 0 t27 h fun t28 h =>
vExtract 1 t27 h fun t29 h =>
vLenL2 t28 h fun t31 h =>
(fun (e1 : AV → Hp → Prop) =>
s_view_View_ListL2 cf fuel (s_view_View_ListE1 cf fuel K) t0 t29 t28 t31 fuel .nilslice (.int .i64 0) h) (s_view_View_ListE1 cf fuel K)
theorem s_view_View_List_eq (cf : CallK) (fuel : Nat) (t0 : AV) (t1 : AV) (h : Hp) (K : AV → Hp → Prop) : s_view_View_List cf fuel t0 t1 h K = deepT (tabOf Tryz.prog) f_view_View_List cf fuel [t0, t1] h K :=
  Eq.trans (by kernel_rfl) (rFun (by kernel_rfl) (rSeq (by kernel_rfl) (rSeq (by kernel_rfl) (rSeq (by kernel_rfl) (rSeq (by kernel_rfl) (rSeq (by kernel_rfl) rExact (rSeq (by kernel_rfl) (rBlock (by kernel_rfl) (rLoop (by kernel_rfl) (fun m2 fr h => s_view_View_ListL2 cf fuel (s_view_View_ListE1 cf fuel K) (getS fr (gpos 0)) (getS fr (gpos 8)) (getS fr (gpos 30)) (getS fr (gpos 31)) m2 (getS fr (gpos 6)) (getS fr (gpos 32)) h) (funext fun fr => funext fun h => by kernel_rfl) fun m2 => rCast (funext fun fr => funext fun h => by kernel_rfl) rExact)) rExact)) rExact) rExact) rExact) rExact))

noncomputable def s_view_View_Heads (cf : CallK) (fuel : Nat) (t0 : AV) (t1 : AV) (h : Hp) (K : AV → Hp → Prop) : Prop :=
vBox 2 t1 h fun t3 h =>
vLoadA 2 t3 h fun t10 h =>
cf f_view_View_file [t0, t10] h fun t11 h =>
vExtract 0 t11 h fun t12 h =>
vExtract 1 t11 h fun t13 h =>
vNeq t13 (.int .i64 0) h fun t15 h =>
vIf t15 (
K (.tup [.nilslice, t13]) h) (
cf f_content_File_Heads [t12] h fun t18 h =>
K (.tup [t18, (.int .i64 0)]) h)
theorem s_view_View_Heads_eq (cf : CallK) (fuel : Nat) (t0 : AV) (t1 : AV) (h : Hp) (K : AV → Hp → Prop) : s_view_View_Heads cf fuel t0 t1 h K = deepT (tabOf Tryz.prog) f_view_View_Heads cf fuel [t0, t1] h K :=
  Eq.trans (by kernel_rfl) (rFun (by kernel_rfl) rExact)

noncomputable def s_ops_EncodeB0 (cf : CallK) (fuel : Nat) (K : AV → Hp → Prop) (t1 : AV) (h : Hp) : Prop :=
cf f_codec_NewWriter [] h fun t8 h =>
vFaddr 3 t1 h fun t10 h =>
vLoad2 t10 h fun t11 h =>
cf f_codec_Writer_Num [t8, t11] h fun t12 h =>
vFaddr 0 t1 h fun t14 h =>
vLoadA 2 t14 h fun t15 h =>
cf f_codec_Writer_ID [t8, t15] h fun t16 h =>
vFaddr 2 t1 h fun t18 h =>
vLoad2 t18 h fun t19 h =>
cf f_codec_Writer_Num [t8, t19] h fun t20 h =>
vFaddr 4 t1 h fun t22 h =>
vLoadA 2 t22 h fun t23 h =>
cf f_codec_Writer_ID [t8, t23] h fun t24 h =>
vFaddr 6 t1 h fun t26 h =>
vLoadA 2 t26 h fun t27 h =>
cf f_codec_Writer_ID [t8, t27] h fun t28 h =>
vFaddr 8 t1 h fun t30 h =>
vLoad2 t30 h fun t31 h =>
cf f_codec_Writer_Text [t8, t31] h fun t32 h =>
vFaddr 9 t1 h fun t34 h =>
vLoad2 t34 h fun t35 h =>
cf f_codec_Writer_Bytes [t8, t35] h fun t36 h =>
vFaddr 10 t1 h fun t38 h =>
vLoad2 t38 h fun t39 h =>
cf f_codec_Writer_Vector [t8, t39] h fun t40 h =>
cf f_codec_Writer_Done [t8] h fun t42 h =>
vExtract 0 t42 h fun t43 h =>
vExtract 1 t42 h fun t44 h =>
K (.tup [t43, t44]) h
noncomputable def s_ops_Encode (cf : CallK) (fuel : Nat) (t0 : AV) (h : Hp) (K : AV → Hp → Prop) : Prop :=
vBox 11 t0 h fun t1 h =>
vLoadA 11 t1 h fun t5 h =>
cf f_ops_May [t5] h fun t6 h =>
vNot t6 h fun t7 h =>
vIf t7 (
K (.tup [.nilslice, (.int .i64 22)]) h) (
s_ops_EncodeB0 cf fuel K t1 h)
theorem s_ops_Encode_eq (cf : CallK) (fuel : Nat) (t0 : AV) (h : Hp) (K : AV → Hp → Prop) : s_ops_Encode cf fuel t0 h K = deepT (tabOf Tryz.prog) f_ops_Encode cf fuel [t0] h K :=
  Eq.trans (by kernel_rfl) (rFun (by kernel_rfl) rExact)

noncomputable def s_codec_Writer_may (cf : CallK) (fuel : Nat) (t0 : AV) (t1 : AV) (h : Hp) (K : AV → Hp → Prop) : Prop :=
vEq false eqP t0 .nilptr h fun t6 h =>
joinG (fun g3 => grdV t6 false (vMov t0 h g3) (g3 undefV h)) fun t8 h =>
joinG (fun g2 => grdV t6 false (vNilck t8 h g2) (g2 undefV h)) fun t9 h =>
joinG (fun g1 => grdV t6 false (vFaddr 1 t9 h g1) (g1 undefV h)) fun t10 h =>
joinG (fun g0 => grdV t6 false (vLoad2 t10 h g0) (g0 undefV h)) fun t11 h =>
vPick t6 (.bool .true) t11 h fun t12 h =>
vIf t12 (
K (.bool .false) h) (
vNot t1 h fun t15 h =>
vNilck t0 h fun t16 h =>
vFaddr 1 t16 h fun t17 h =>
vStore 1 t17 t15 h fun _ h =>
K t1 h)
theorem s_codec_Writer_may_eq (cf : CallK) (fuel : Nat) (t0 : AV) (t1 : AV) (h : Hp) (K : AV → Hp → Prop) : s_codec_Writer_may cf fuel t0 t1 h K = deepT (tabOf Tryz.prog) f_codec_Writer_may cf fuel [t0, t1] h K :=
  Eq.trans (by kernel_rfl) (rFun (by kernel_rfl) rExact)

noncomputable def s_bytes_Clone (cf : CallK) (fuel : Nat) (t0 : AV) (h : Hp) (K : AV → Hp → Prop) : Prop :=
vEq false eqNS t0 .nilslice h fun t4 h =>
vIf t4 (
K .nilslice h) (
vBslice 1 0 true [(.int .u8 0)] [] h fun t5 h =>
vAppend2 1 1 true t5 t0 h fun t7 h =>
K t7 h)
theorem s_bytes_Clone_eq (cf : CallK) (fuel : Nat) (t0 : AV) (h : Hp) (K : AV → Hp → Prop) : s_bytes_Clone cf fuel t0 h K = deepT (tabOf Tryz.prog) f_bytes_Clone cf fuel [t0] h K :=
  Eq.trans (by kernel_rfl) (rFun (by kernel_rfl) rExact)

noncomputable def s_ops_MayB24 (cf : CallK) (fuel : Nat) (K : AV → Hp → Prop) (t1 : AV) (h : Hp) : Prop :=
vFaddr 4 t1 h fun t80 h =>
vLoadA 2 t80 h fun t81 h =>
vLoadA 11 t1 h fun t82 h =>
cf f_ops_earlier [t81, t82] h fun t83 h =>
joinG (fun g23 => grdV t83 true (vFaddr 6 t1 h g23) (g23 undefV h)) fun t85 h =>
joinG (fun g22 => grdV t83 true (vLoadA 2 t85 h g22) (g22 undefV h)) fun t86 h =>
joinG (fun g21 => grdV t83 true (vBuild [(.int .i64 0), (.int .i64 0)] [] h g21) (g21 undefV h)) fun t87 h =>
joinG (fun g20 => grdV t83 true (vEq false eqPairS t86 t87 h g20) (g20 undefV h)) fun t88 h =>
vPick t83 t88 (.bool .false) h fun t89 h =>
joinG (fun g19 => grdV t89 true (vFaddr 8 t1 h g19) (g19 undefV h)) fun t91 h =>
joinG (fun g18 => grdV t89 true (vLoad2 t91 h g18) (g18 undefV h)) fun t92 h =>
joinG (fun g17 => grdV t89 true (vEql t92 (.str 0 0) h g17) (g17 undefV h)) fun t93 h =>
vPick t89 t93 (.bool .false) h fun t94 h =>
joinG (fun g16 => grdV t94 true (vFaddr 9 t1 h g16) (g16 undefV h)) fun t96 h =>
joinG (fun g15 => grdV t94 true (vLoad2 t96 h g15) (g15 undefV h)) fun t97 h =>
joinG (fun g14 => grdV t94 true (vLenL2 t97 h g14) (g14 undefV h)) fun t98 h =>
joinG (fun g13 => grdV t94 true (vLeq t98 (.int .i64 65536) h g13) (g13 undefV h)) fun t99 h =>
vPick t94 t99 (.bool .false) h fun t100 h =>
K t100 h
noncomputable def s_ops_MayB25 (cf : CallK) (fuel : Nat) (K : AV → Hp → Prop) (t43 : AV) (t33 : AV) (t1 : AV) (h : Hp) : Prop :=
vFaddr 4 t1 h fun t62 h =>
vLoadA 2 t62 h fun t63 h =>
vLoadA 11 t1 h fun t64 h =>
cf f_ops_earlier [t63, t64] h fun t65 h =>
joinG (fun g12 => grdV t65 true (vMov t43 h g12) (g12 undefV h)) fun t67 h =>
joinG (fun g11 => grdV t65 true (vMov t67 h g11) (g11 undefV h)) fun t68 h =>
joinG (fun g10 => grdV t68 false (vFaddr 6 t1 h g10) (g10 undefV h)) fun t69 h =>
joinG (fun g9 => grdV t68 false (vLoadA 2 t69 h g9) (g9 undefV h)) fun t70 h =>
joinG (fun g8 => grdV t68 false (cf f_ops_Trash [] h g8) (g8 undefV h)) fun t71 h =>
joinP (fun g7 => grdV t68 false (vLoadA 2 t69 h fun c _ => gd (sameV c t70) g7) g7) (
joinG (fun g6 => grdV t68 false (vEq false eqPairS t70 t71 h g6) (g6 undefV h)) fun t72 h =>
joinG (fun g5 => grdV t65 true (vPick t68 (.bool .true) t72 h g5) (g5 undefV h)) fun t73 h =>
vPick t65 t73 (.bool .false) h fun t74 h =>
joinG (fun g4 => grdV t74 true (vMov t33 h g4) (g4 undefV h)) fun t76 h =>
vPick t74 t76 (.bool .false) h fun t77 h =>
K t77 h)
noncomputable def s_ops_MayB34 (cf : CallK) (fuel : Nat) (K : AV → Hp → Prop) (t1 : AV) (h : Hp) : Prop :=
vFaddr 8 t1 h fun t24 h =>
vLoad2 t24 h fun t25 h =>
cf f_ops_Name [t25] h fun t26 h =>
vEql t26 (.int .i64 0) h fun t27 h =>
joinG (fun g33 => grdV t27 true (vFaddr 9 t1 h g33) (g33 undefV h)) fun t29 h =>
joinG (fun g32 => grdV t27 true (vLoad2 t29 h g32) (g32 undefV h)) fun t30 h =>
joinG (fun g31 => grdV t27 true (vLenL2 t30 h g31) (g31 undefV h)) fun t31 h =>
joinG (fun g30 => grdV t27 true (vEql t31 (.int .i64 0) h g30) (g30 undefV h)) fun t32 h =>
vPick t27 t32 (.bool .false) h fun t33 h =>
vFaddr 6 t1 h fun t34 h =>
vLoadA 2 t34 h fun t35 h =>
cf f_ops_Root [] h fun t36 h =>
vLoadA 2 t34 h fun c _ => gd (sameV c t35) (
vEq false eqPairS t35 t36 h fun t37 h =>
joinG (fun g29 => grdV t37 false (vFaddr 6 t1 h g29) (g29 undefV h)) fun t39 h =>
joinG (fun g28 => grdV t37 false (vLoadA 2 t39 h g28) (g28 undefV h)) fun t40 h =>
joinG (fun g27 => grdV t37 false (vLoadA 11 t1 h g27) (g27 undefV h)) fun t41 h =>
joinG (fun g26 => grdV t37 false (cf f_ops_earlier [t40, t41] h g26) (g26 undefV h)) fun t42 h =>
vPick t37 (.bool .true) t42 h fun t43 h =>
vFaddr 3 t1 h fun t44 h =>
vLoad2 t44 h fun t45 h =>
(fun (e0 : Hp → Prop) =>
(fun (j1 : AV → Hp → Prop) =>
vEql t45 (.int .i64 1) h fun t47 h =>
vIf t47 (
j1 t47 h) (
vEql t45 (.int .i64 2) h fun t48 h =>
j1 t48 h)) fun t46 h =>
vIf t46 (
vFaddr 4 t1 h fun t49 h =>
vLoadA 2 t49 h fun t50 h =>
vFaddr 0 t1 h fun t51 h =>
vLoadA 2 t51 h fun t52 h =>
vEq false eqPairS t50 t52 h fun t53 h =>
joinG (fun g3 => grdV t53 true (vMov t43 h g3) (g3 undefV h)) fun t55 h =>
vPick t53 t55 (.bool .false) h fun t56 h =>
joinG (fun g2 => grdV t56 true (vMov t33 h g2) (g2 undefV h)) fun t58 h =>
vPick t56 t58 (.bool .false) h fun t59 h =>
K t59 h) (
vEql t45 (.int .i64 3) h fun t61 h =>
vIf t61 (
s_ops_MayB25 cf fuel K t43 t33 t1 h) (
vEql t45 (.int .i64 4) h fun t79 h =>
vIf t79 (
s_ops_MayB24 cf fuel K t1 h) (
e0 h)))) fun h =>
K (.bool .false) h)
noncomputable def s_ops_May (cf : CallK) (fuel : Nat) (t0 : AV) (h : Hp) (K : AV → Hp → Prop) : Prop :=
vBox 11 t0 h fun t1 h =>
vFaddr 0 t1 h fun t5 h =>
vLoadA 2 t5 h fun t6 h =>
cf f_clock_Valid [t6] h fun t7 h =>
vNot t7 h fun t8 h =>
joinG (fun g43 => grdV t8 false (vFaddr 2 t1 h g43) (g43 undefV h)) fun t10 h =>
joinG (fun g42 => grdV t8 false (vLoad2 t10 h g42) (g42 undefV h)) fun t11 h =>
joinG (fun g41 => grdV t8 false (vLss t11 (.int .i64 1) h g41) (g41 undefV h)) fun t12 h =>
vPick t8 (.bool .true) t12 h fun t13 h =>
joinG (fun g40 => grdV t13 false (vFaddr 2 t1 h g40) (g40 undefV h)) fun t15 h =>
joinG (fun g39 => grdV t13 false (vLoad2 t15 h g39) (g39 undefV h)) fun t16 h =>
joinG (fun g38 => grdV t13 false (vGtr t16 (.int .i64 1152921504606846976) h g38) (g38 undefV h)) fun t17 h =>
vPick t13 (.bool .true) t17 h fun t18 h =>
joinG (fun g37 => grdV t18 false (vLoadA 11 t1 h g37) (g37 undefV h)) fun t20 h =>
joinG (fun g36 => grdV t18 false (cf f_ops_seen [t20] h g36) (g36 undefV h)) fun t21 h =>
joinG (fun g35 => grdV t18 false (vNot t21 h g35) (g35 undefV h)) fun t22 h =>
vPick t18 (.bool .true) t22 h fun t23 h =>
vIf t23 (
K (.bool .false) h) (
s_ops_MayB34 cf fuel K t1 h)
theorem s_ops_May_eq (cf : CallK) (fuel : Nat) (t0 : AV) (h : Hp) (K : AV → Hp → Prop) : s_ops_May cf fuel t0 h K = deepT (tabOf Tryz.prog) f_ops_May cf fuel [t0] h K :=
  Eq.trans (by kernel_rfl) (rFun (by kernel_rfl) rExact)

noncomputable def s_vector_Leq (cf : CallK) (fuel : Nat) (t0 : AV) (t1 : AV) (h : Hp) (K : AV → Hp → Prop) : Prop :=
cf f_vector_Ahead [t0, t1] h fun t7 h =>
vLenL2 t7 h fun t8 h =>
vEql t8 (.int .i64 0) h fun t9 h =>
K t9 h
theorem s_vector_Leq_eq (cf : CallK) (fuel : Nat) (t0 : AV) (t1 : AV) (h : Hp) (K : AV → Hp → Prop) : s_vector_Leq cf fuel t0 t1 h K = deepT (tabOf Tryz.prog) f_vector_Leq cf fuel [t0, t1] h K :=
  Eq.trans (by kernel_rfl) (rFun (by kernel_rfl) rExact)

noncomputable def s_clock_Less (cf : CallK) (fuel : Nat) (t0 : AV) (t1 : AV) (h : Hp) (K : AV → Hp → Prop) : Prop :=
vBox 2 t0 h fun t2 h =>
vBox 2 t1 h fun t3 h =>
vLoadA 2 t2 h fun t5 h =>
vLoadA 2 t3 h fun t6 h =>
cf f_clock_Cmp [t5, t6] h fun t7 h =>
vLss t7 (.int .i64 0) h fun t8 h =>
K t8 h
theorem s_clock_Less_eq (cf : CallK) (fuel : Nat) (t0 : AV) (t1 : AV) (h : Hp) (K : AV → Hp → Prop) : s_clock_Less cf fuel t0 t1 h K = deepT (tabOf Tryz.prog) f_clock_Less cf fuel [t0, t1] h K :=
  Eq.trans (by kernel_rfl) (rFun (by kernel_rfl) rExact)

noncomputable def s_vector_With (cf : CallK) (fuel : Nat) (t0 : AV) (t1 : AV) (t2 : AV) (h : Hp) (K : AV → Hp → Prop) : Prop :=
vBox 1 t0 h fun t3 h =>
vBox 1 t1 h fun t4 h =>
vBox 1 t2 h fun t5 h =>
vLoad2 t4 h fun t7 h =>
vLss t7 (.int .i64 0) h fun t8 h =>
joinG (fun g5 => grdV t8 false (vLoad2 t4 h g5) (g5 undefV h)) fun t10 h =>
joinG (fun g4 => grdV t8 false (vGeq t10 (.int .i64 64) h g4) (g4 undefV h)) fun t11 h =>
vPick t8 (.bool .true) t11 h fun t12 h =>
joinG (fun g3 => grdV t12 false (vLoad2 t5 h g3) (g3 undefV h)) fun t14 h =>
joinG (fun g2 => grdV t12 false (vLss t14 (.int .i64 0) h g2) (g2 undefV h)) fun t15 h =>
vPick t12 (.bool .true) t15 h fun t16 h =>
joinG (fun g1 => grdV t16 false (vLoad2 t5 h g1) (g1 undefV h)) fun t18 h =>
joinG (fun g0 => grdV t16 false (vGtr t18 (.int .i64 1152921504606846976) h g0) (g0 undefV h)) fun t19 h =>
vPick t16 (.bool .true) t19 h fun t20 h =>
vIf t20 (
vLoad2 t3 h fun t21 h =>
cf f_vector_Norm [t21] h fun t22 h =>
K t22 h) (
vFunc 220 [] [t4, t5, t3] h fun t23 h =>
cf f_vector_made [t23] h fun t24 h =>
K t24 h)
theorem s_vector_With_eq (cf : CallK) (fuel : Nat) (t0 : AV) (t1 : AV) (t2 : AV) (h : Hp) (K : AV → Hp → Prop) : s_vector_With cf fuel t0 t1 t2 h K = deepT (tabOf Tryz.prog) f_vector_With cf fuel [t0, t1, t2] h K :=
  Eq.trans (by kernel_rfl) (rFun (by kernel_rfl) rExact)

noncomputable def s_codec_Writer_Bytes (cf : CallK) (fuel : Nat) (t0 : AV) (t1 : AV) (h : Hp) (K : AV → Hp → Prop) : Prop :=
vLenL2 t1 h fun t6 h =>
vLeq t6 (.int .i64 65536) h fun t7 h =>
cf f_codec_Writer_may [t0, t7] h fun t8 h =>
vIf t8 (
vLenL2 t1 h fun t11 h =>
cf f_codec_Writer_Num [t0, t11] h fun t12 h =>
vNilck t0 h fun t15 h =>
vFaddr 0 t15 h fun t16 h =>
vLoad2 t16 h fun t17 h =>
vAppend2 1 1 true t17 t1 h fun t19 h =>
vNilck t0 h fun t20 h =>
vFaddr 0 t20 h fun t21 h =>
vStore 1 t21 t19 h fun _ h =>
K (.tup []) h) (
K (.tup []) h)
theorem s_codec_Writer_Bytes_eq (cf : CallK) (fuel : Nat) (t0 : AV) (t1 : AV) (h : Hp) (K : AV → Hp → Prop) : s_codec_Writer_Bytes cf fuel t0 t1 h K = deepT (tabOf Tryz.prog) f_codec_Writer_Bytes cf fuel [t0, t1] h K :=
  Eq.trans (by kernel_rfl) (rFun (by kernel_rfl) rExact)

noncomputable def s_localfs_FS_Replace (cf : CallK) (fuel : Nat) (t0 : AV) (t1 : AV) (t2 : AV) (h : Hp) (K : AV → Hp → Prop) : Prop :=
vBuild [.nilptr, .nilslice, .nilslice] [(0, 1, t0), (1, 1, t1), (2, 1, t2)] h fun t11 h =>
vFunc 222 [t11] [] h fun t12 h =>
cf f_localfs_FS_change [t0, t12] h fun t13 h =>
K t13 h
theorem s_localfs_FS_Replace_eq (cf : CallK) (fuel : Nat) (t0 : AV) (t1 : AV) (t2 : AV) (h : Hp) (K : AV → Hp → Prop) : s_localfs_FS_Replace cf fuel t0 t1 t2 h K = deepT (tabOf Tryz.prog) f_localfs_FS_Replace cf fuel [t0, t1, t2] h K :=
  Eq.trans (by kernel_rfl) (rFun (by kernel_rfl) rExact)

noncomputable def s_oplog_file (cf : CallK) (fuel : Nat) (t0 : AV) (h : Hp) (K : AV → Hp → Prop) : Prop :=
cf f_strconv_FormatInt [t0, (.int .i64 10)] h fun t4 h =>
vBslice 1 1 false [(.str 0 0)] [(0, 1, t4)] h fun t5 h =>
K t5 h
theorem s_oplog_file_eq (cf : CallK) (fuel : Nat) (t0 : AV) (h : Hp) (K : AV → Hp → Prop) : s_oplog_file cf fuel t0 h K = deepT (tabOf Tryz.prog) f_oplog_file cf fuel [t0] h K :=
  Eq.trans (by kernel_rfl) (rFun (by kernel_rfl) rExact)


end Go.Proofs.YtciipeallilmiaaGreatDoor.sh4
