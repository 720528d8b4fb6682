/- The Go functions' code as the abstract machine's, over values; each is the code that the machine makes of the program's (theorems s_.._eq). No condition. -/
import Derived.Test.YtbefkepinpollaaGreatDoorAmLoop
import Derived.Test.YtbefkepinpollaaGreatDoorProg
import Derived.KernelRfl
namespace Go.Proofs.YtbefkepinpollaaGreatDoor.sh0
open Go Go.Am Go.Proofs
set_option linter.unusedVariables false
set_option maxRecDepth 100000
abbrev f_bytes_Clone : Nat := 49
abbrev f_clock_Less : Nat := 39
abbrev f_codec_NewReader : Nat := 20
abbrev f_codec_NewWriter : Nat := 42
abbrev f_codec_Reader_Bytes : Nat := 22
abbrev f_codec_Reader_Done : Nat := 23
abbrev f_codec_Reader_Err : Nat := 53
abbrev f_codec_Reader_Left : Nat := 52
abbrev f_codec_Reader_Num : Nat := 21
abbrev f_codec_Reader_fails : Nat := 51
abbrev f_codec_Writer_Bytes : Nat := 44
abbrev f_codec_Writer_Done : Nat := 45
abbrev f_codec_Writer_Num : Nat := 43
abbrev f_container_heap_Pop : Nat := 35
abbrev f_container_heap_Push : Nat := 33
abbrev f_device_Device_Crash : Nat := 28
abbrev f_device_New : Nat := 57
abbrev f_lagoonlaw11_Fresh : Nat := 55
abbrev f_lagoonlaw13_LogNone : Nat := 3
abbrev f_lagoonlaw13_again : Nat := 27
abbrev f_lagoonlaw13_begun : Nat := 7
abbrev f_lagoonlaw13_open : Nat := 26
abbrev f_lagoonref12_Cost : Nat := 30
abbrev f_lagoonref12_Encode : Nat := 60
abbrev f_lagoonref12_Eq : Nat := 29
abbrev f_lagoonref4_Eq : Nat := 59
abbrev f_lagoonref4_Same : Nat := 58
abbrev f_localfs_FS_Read : Nat := 18
abbrev f_localfs_FS_Replace : Nat := 46
abbrev f_localfs_FS_Sync : Nat := 36
abbrev f_localfs_FS_Write : Nat := 48
abbrev f_localfs_FS_filed : Nat := 50
abbrev f_localfs_Mount : Nat := 56
abbrev f_oplog_Log_Add : Nat := 4
abbrev f_oplog_Log_Cost : Nat := 9
abbrev f_oplog_Log_Get : Nat := 6
abbrev f_oplog_Log_SetMeta : Nat := 12
abbrev f_oplog_Log_Since : Nat := 10
abbrev f_oplog_Log_Sync : Nat := 11
abbrev f_oplog_Log_Vector : Nat := 8
abbrev f_oplog_Log_keep : Nat := 17
abbrev f_oplog_Log_load : Nat := 24
abbrev f_oplog_Log_put : Nat := 15
abbrev f_oplog_Log_takes : Nat := 13
abbrev f_oplog_Open : Nat := 5
abbrev f_oplog_file : Nat := 47
abbrev f_oplog_head : Nat := 19
abbrev f_oplog_rests_Len : Nat := 34
abbrev f_oplog_written : Nat := 16
abbrev f_ops_Copy : Nat := 25
abbrev f_ops_Cost : Nat := 14
abbrev f_ops_Decode : Nat := 54
abbrev f_ops_Encode : Nat := 40
abbrev f_ops_May : Nat := 37
abbrev f_vector_At : Nat := 32
abbrev f_vector_Leq : Nat := 38
abbrev f_vector_Norm : Nat := 31
abbrev f_vector_With : Nat := 41
abbrev f_vector_made : Nat := 61

noncomputable def s_lagoonlaw13_LogNone (cf : CallK) (fuel : Nat) (h : Hp) (K : AV → Hp → Prop) : Prop :=
cf f_oplog_Log_Add [.nilptr, .nilslice] h fun t10 h =>
vExtract 0 t10 h fun t11 h =>
vExtract 1 t10 h fun t12 h =>
cf f_oplog_Open [.nilptr, (.int .i64 5)] h fun t14 h =>
vExtract 0 t14 h fun t15 h =>
vExtract 1 t14 h fun t16 h =>
cf f_oplog_Log_Get [.nilptr, (.int .i64 0), (.int .i64 1)] h fun t19 h =>
vExtract 0 t19 h fun t20 h =>
vExtract 1 t19 h fun t21 h =>
vBox 11 (.agg [(.int .i64 0), (.int .i64 0), (.int .i64 0), (.int .i64 0), (.int .i64 0), (.int .i64 0), (.int .i64 0), (.int .i64 0), (.str 0 0), .nilslice, .nilslice]) h fun t6 h =>
vStore 11 t6 t20 h fun _ h =>
cf f_lagoonlaw13_begun [] h fun t22 h =>
joinG (fun g26 => grdV t22 true (vMov t11 h g26) (g26 undefV h)) fun t24 h =>
joinG (fun g25 => grdV t22 true (vEql t24 (.int .i64 0) h g25) (g25 undefV h)) fun t25 h =>
vPick t22 t25 (.bool .false) h fun t26 h =>
joinG (fun g24 => grdV t26 true (vMov t12 h g24) (g24 undefV h)) fun t28 h =>
joinG (fun g23 => grdV t26 true (vEql t28 (.int .i64 5) h g23) (g23 undefV h)) fun t29 h =>
vPick t26 t29 (.bool .false) h fun t30 h =>
joinG (fun g22 => grdV t30 true (vMov t15 h g22) (g22 undefV h)) fun t32 h =>
joinG (fun g21 => grdV t30 true (vEq false eqP t32 .nilptr h g21) (g21 undefV h)) fun t33 h =>
vPick t30 t33 (.bool .false) h fun t34 h =>
joinG (fun g20 => grdV t34 true (vMov t16 h g20) (g20 undefV h)) fun t36 h =>
joinG (fun g19 => grdV t34 true (vEql t36 (.int .i64 22) h g19) (g19 undefV h)) fun t37 h =>
vPick t34 t37 (.bool .false) h fun t38 h =>
joinG (fun g18 => grdV t38 true (vMov t21 h g18) (g18 undefV h)) fun t40 h =>
joinG (fun g17 => grdV t38 true (vNot t40 h g17) (g17 undefV h)) fun t41 h =>
vPick t38 t41 (.bool .false) h fun t42 h =>
joinG (fun g16 => grdV t42 true (vMov .nilptr h g16) (g16 undefV h)) fun t44 h =>
joinG (fun g15 => grdV t42 true (cf f_oplog_Log_Vector [t44] h g15) (g15 undefV h)) fun t45 h =>
joinG (fun g14 => grdV t42 true (vLenL2 t45 h g14) (g14 undefV h)) fun t46 h =>
joinG (fun g13 => grdV t42 true (vEql t46 (.int .i64 0) h g13) (g13 undefV h)) fun t47 h =>
vPick t42 t47 (.bool .false) h fun t48 h =>
joinG (fun g12 => grdV t48 true (vMov .nilptr h g12) (g12 undefV h)) fun t50 h =>
joinG (fun g11 => grdV t48 true (cf f_oplog_Log_Cost [t50] h g11) (g11 undefV h)) fun t51 h =>
joinG (fun g10 => grdV t48 true (vEql t51 (.int .i64 0) h g10) (g10 undefV h)) fun t52 h =>
vPick t48 t52 (.bool .false) h fun t53 h =>
joinG (fun g9 => grdV t53 true (vMov .nilptr h g9) (g9 undefV h)) fun t55 h =>
joinG (fun g8 => grdV t53 true (cf f_oplog_Log_Since [t55, .nilslice, (.int .i64 5)] h g8) (g8 undefV h)) fun t56 h =>
joinG (fun g7 => grdV t53 true (vLenL2 t56 h g7) (g7 undefV h)) fun t57 h =>
joinG (fun g6 => grdV t53 true (vEql t57 (.int .i64 0) h g6) (g6 undefV h)) fun t58 h =>
vPick t53 t58 (.bool .false) h fun t59 h =>
joinG (fun g5 => grdV t59 true (vMov .nilptr h g5) (g5 undefV h)) fun t61 h =>
joinG (fun g4 => grdV t59 true (cf f_oplog_Log_Sync [t61] h g4) (g4 undefV h)) fun t62 h =>
joinG (fun g3 => grdV t59 true (vEql t62 (.int .i64 5) h g3) (g3 undefV h)) fun t63 h =>
vPick t59 t63 (.bool .false) h fun t64 h =>
joinG (fun g2 => grdV t64 true (vMov .nilptr h g2) (g2 undefV h)) fun t66 h =>
joinG (fun g1 => grdV t64 true (cf f_oplog_Log_SetMeta [t66, .nilslice] h g1) (g1 undefV h)) fun t67 h =>
joinG (fun g0 => grdV t64 true (vEql t67 (.int .i64 5) h g0) (g0 undefV h)) fun t68 h =>
vPick t64 t68 (.bool .false) h fun t69 h =>
K t69 h
theorem s_lagoonlaw13_LogNone_eq (cf : CallK) (fuel : Nat) (h : Hp) (K : AV → Hp → Prop) : s_lagoonlaw13_LogNone cf fuel h K = deepT (tabOf Tryz.prog) f_lagoonlaw13_LogNone cf fuel [] h K :=
  Eq.trans (by kernel_rfl) (rFun (by kernel_rfl) rExact)

noncomputable def s_oplog_Log_AddB2 (cf : CallK) (fuel : Nat) (K : AV → Hp → Prop) (t9 : AV) (t0 : AV) (t6 : AV) (t10 : AV) (h : Hp) : Prop :=
vNilck t6 h fun t110 h =>
vFaddr 2 t110 h fun t111 h =>
vLoadA 64 t111 h fun t112 h =>
vNilck t6 h fun t114 h =>
vFaddr 66 t114 h fun t115 h =>
vLoad2 t115 h fun t116 h =>
vNilck t6 h fun t118 h =>
vFaddr 67 t118 h fun t119 h =>
vLoad2 t119 h fun t120 h =>
vNilck t0 h fun t121 h =>
vFaddr 2 t121 h fun t122 h =>
vStore 64 t122 t112 h fun _ h =>
vNilck t0 h fun t123 h =>
vFaddr 66 t123 h fun t124 h =>
vStore 1 t124 t116 h fun _ h =>
vNilck t0 h fun t125 h =>
vFaddr 67 t125 h fun t126 h =>
vStore 1 t126 t120 h fun _ h =>
K (.tup [t9, t10]) h
noncomputable def s_oplog_Log_AddE1 (cf : CallK) (fuel : Nat) (K : AV → Hp → Prop) (t0 : AV) (t6 : AV) : AV → AV → AV → Hp → Prop := fun t8 t9 t10 h =>
vGtr t9 (.int .i64 0) h fun t95 h =>
joinG (fun g10 => grdV t95 true (vMov t0 h g10) (g10 undefV h)) fun t97 h =>
joinG (fun g9 => grdV t95 true (vMov t8 h g9) (g9 undefV h)) fun t98 h =>
joinG (fun g8 => grdV t95 true (vMov t0 h g8) (g8 undefV h)) fun t99 h =>
joinG (fun g7 => grdV t95 true (vNilck t99 h g7) (g7 undefV h)) fun t100 h =>
joinG (fun g6 => grdV t95 true (vFaddr 68 t100 h g6) (g6 undefV h)) fun t101 h =>
joinG (fun g5 => grdV t95 true (vLoad2 t101 h g5) (g5 undefV h)) fun t102 h =>
joinG (fun g4 => grdV t95 true (cf f_oplog_Log_keep [t97, t98, t102] h g4) (g4 undefV h)) fun t103 h =>
joinG (fun g3 => grdV t95 true (vNeq t103 (.int .i64 0) h g3) (g3 undefV h)) fun t104 h =>
vPick t95 t104 (.bool .false) h fun t105 h =>
vIf t105 (
K (.tup [(.int .i64 0), (.int .i64 5)]) h) (
s_oplog_Log_AddB2 cf fuel K t9 t0 t6 t10 h)
noncomputable def s_oplog_Log_AddB14 (cf : CallK) (fuel : Nat) (e1 : AV → AV → AV → Hp → Prop) (e13 : AV → Hp → Prop) (t6 : AV) (t12 : AV) (t0 : AV) (t8 : AV) (t9 : AV) (t10 : AV) (h : Hp) : Prop :=
vNilck t6 h fun t72 h =>
vFaddr 67 t72 h fun t73 h =>
vLoad2 t73 h fun t74 h =>
vLoadA 11 t12 h fun t75 h =>
vNilck t0 h fun t80 h =>
vFaddr 1 t80 h fun t81 h =>
vLoad2 t81 h fun t82 h =>
cf f_ops_Cost [t75] h fun t76 h =>
vLoad2 t73 h fun c _ => gd (sameV c t74) (
vLoad2 t81 h fun c _ => gd (sameV c t82) (
vAdd t74 t76 h fun t77 h =>
vAdd t77 (.int .i64 16) h fun t78 h =>
vGtr t78 t82 h fun t83 h =>
vIf t83 (
e1 t8 t9 (.int .i64 28) h) (
e13 t10 h)))
noncomputable def s_oplog_Log_AddB15 (cf : CallK) (fuel : Nat) (ih11 : AV → AV → AV → AV → Hp → Prop) (e1 : AV → AV → AV → Hp → Prop) (t0 : AV) (t6 : AV) (t59 : AV) (t8 : AV) (t9 : AV) (t10 : AV) (t61 : AV) (h : Hp) : Prop :=
(fun (e12 : AV → AV → AV → Hp → Prop) =>
vIaddr 11 t59 t61 h fun t63 h =>
vLoadA 11 t63 h fun t64 h =>
vBox 11 (.agg [(.int .i64 0), (.int .i64 0), (.int .i64 0), (.int .i64 0), (.int .i64 0), (.int .i64 0), (.int .i64 0), (.int .i64 0), (.str 0 0), .nilslice, .nilslice]) h fun t12 h =>
vStore 11 t12 t64 h fun _ h =>
(fun (e13 : AV → Hp → Prop) =>
vLoadA 11 t12 h fun t67 h =>
cf f_oplog_Log_takes [t6, t67] h fun t68 h =>
vNot t68 h fun t69 h =>
vIf t69 (
e1 t8 t9 (.int .i64 22) h) (
s_oplog_Log_AddB14 cf fuel e1 e13 t6 t12 t0 t8 t9 t10 h)) fun t10 h =>
vLoadA 11 t12 h fun t85 h =>
cf f_oplog_Log_put [t6, t85] h fun t86 h =>
vLoadA 11 t12 h fun t88 h =>
cf f_oplog_written [t88] h fun t89 h =>
vAppend2 1 1 true t8 t89 h fun t90 h =>
vAdd t9 (.int .i64 1) h fun t92 h =>
e12 t90 t92 t10 h) fun t8 t9 t10 h =>
vAdd t61 (.int .i64 1) h fun t93 h =>
ih11 t8 t9 t10 t93 h
noncomputable def s_oplog_Log_AddL11B (cf : CallK) (fuel : Nat) (e1 : AV → AV → AV → Hp → Prop) (t0 : AV) (t6 : AV) (t59 : AV) (t60 : AV) (ih11 : AV → AV → AV → AV → Hp → Prop) : AV → AV → AV → AV → Hp → Prop := fun t8 t9 t10 t61 h =>
vLss t61 t60 h fun t62 h =>
vIf t62 (
s_oplog_Log_AddB15 cf fuel ih11 e1 t0 t6 t59 t8 t9 t10 t61 h) (
e1 t8 t9 t10 h)
noncomputable def s_oplog_Log_AddL11 (cf : CallK) (fuel : Nat) (e1 : AV → AV → AV → Hp → Prop) (t0 : AV) (t6 : AV) (t59 : AV) (t60 : AV) (m : Nat) : AV → AV → AV → AV → Hp → Prop := Nat.rec (motive := fun _ => AV → AV → AV → AV → Hp → Prop) (fun _ _ _ _ _ => False) (fun _ ih => s_oplog_Log_AddL11B cf fuel e1 t0 t6 t59 t60 ih) m
theorem s_oplog_Log_AddL11_succ (cf : CallK) (fuel : Nat) (e1 : AV → AV → AV → Hp → Prop) (t0 : AV) (t6 : AV) (t59 : AV) (t60 : AV) (m : Nat) : s_oplog_Log_AddL11 cf fuel e1 t0 t6 t59 t60 (m + 1) = s_oplog_Log_AddL11B cf fuel e1 t0 t6 t59 t60 (s_oplog_Log_AddL11 cf fuel e1 t0 t6 t59 t60 m) := rfl
noncomputable def s_oplog_Log_AddE0 (cf : CallK) (fuel : Nat) (K : AV → Hp → Prop) (t0 : AV) (t1 : AV) (t6 : AV) : Hp → Prop := fun h =>
vLenL2 t1 h fun t60 h =>
(fun (e1 : AV → AV → AV → Hp → Prop) =>
s_oplog_Log_AddL11 cf fuel (s_oplog_Log_AddE1 cf fuel K t0 t6) t0 t6 t1 t60 fuel .nilslice (.int .i64 0) (.int .i64 0) (.int .i64 0) h) (s_oplog_Log_AddE1 cf fuel K t0 t6)
noncomputable def s_oplog_Log_AddB18 (cf : CallK) (fuel : Nat) (ih16 : AV → Hp → Prop) (t6 : AV) (t29 : AV) (h : Hp) : Prop :=
(fun (e17 : Hp → Prop) =>
vNilck t6 h fun t36 h =>
vFaddr 2 t36 h fun t37 h =>
vIaddrA 1 64 t37 t29 h fun t38 h =>
vLoad2 t38 h fun t39 h =>
vNilck t6 h fun t42 h =>
vFaddr 2 t42 h fun t43 h =>
vIaddrA 1 64 t43 t29 h fun t44 h =>
vLoad2 t44 h fun t45 h =>
vLenL2 t45 h fun t46 h =>
vNilck t6 h fun t49 h =>
vFaddr 2 t49 h fun t50 h =>
vIaddrA 1 64 t50 t29 h fun t51 h =>
vLoad2 t51 h fun t52 h =>
vLenL2 t52 h fun t53 h =>
vSlice3 11 t39 none t46 t53 h fun t54 h =>
vNilck t6 h fun t55 h =>
vFaddr 2 t55 h fun t56 h =>
vIaddrA 1 64 t56 t29 h fun t57 h =>
vStore 1 t57 t54 h fun _ h =>
e17 h) fun h =>
vAdd t29 (.int .i64 1) h fun t58 h =>
ih16 t58 h
noncomputable def s_oplog_Log_AddL16B (cf : CallK) (fuel : Nat) (e0 : Hp → Prop) (t0 : AV) (t1 : AV) (t6 : AV) (ih16 : AV → Hp → Prop) : AV → Hp → Prop := fun t29 h =>
vLss t29 (.int .i64 64) h fun t30 h =>
vIf t30 (
s_oplog_Log_AddB18 cf fuel ih16 t6 t29 h) (
e0 h)
noncomputable def s_oplog_Log_AddL16 (cf : CallK) (fuel : Nat) (e0 : Hp → Prop) (t0 : AV) (t1 : AV) (t6 : AV) (m : Nat) : AV → Hp → Prop := Nat.rec (motive := fun _ => AV → Hp → Prop) (fun _ _ => False) (fun _ ih => s_oplog_Log_AddL16B cf fuel e0 t0 t1 t6 ih) m
theorem s_oplog_Log_AddL16_succ (cf : CallK) (fuel : Nat) (e0 : Hp → Prop) (t0 : AV) (t1 : AV) (t6 : AV) (m : Nat) : s_oplog_Log_AddL16 cf fuel e0 t0 t1 t6 (m + 1) = s_oplog_Log_AddL16B cf fuel e0 t0 t1 t6 (s_oplog_Log_AddL16 cf fuel e0 t0 t1 t6 m) := rfl
noncomputable def s_oplog_Log_Add (cf : CallK) (fuel : Nat) (t0 : AV) (t1 : AV) (h : Hp) (K : AV → Hp → Prop) : Prop :=
vEq false eqP t0 .nilptr h fun t14 h =>
vIf t14 (
K (.tup [(.int .i64 0), (.int .i64 5)]) h) (
vNilck t0 h fun t16 h =>
vFaddr 2 t16 h fun t17 h =>
vLoadA 64 t17 h fun t18 h =>
vNilck t0 h fun t20 h =>
vFaddr 66 t20 h fun t21 h =>
vLoad2 t21 h fun t22 h =>
vNilck t0 h fun t24 h =>
vFaddr 67 t24 h fun t25 h =>
vLoad2 t25 h fun t26 h =>
vBuild [.nilptr, (.int .i64 0), .nilslice, .nilslice, .nilslice, .nilslice, .nilslice, .nilslice, .nilslice, .nilslice, .nilslice, .nilslice, .nilslice, .nilslice, .nilslice, .nilslice, .nilslice, .nilslice, .nilslice, .nilslice, .nilslice, .nilslice, .nilslice, .nilslice, .nilslice, .nilslice, .nilslice, .nilslice, .nilslice, .nilslice, .nilslice, .nilslice, .nilslice, .nilslice, .nilslice, .nilslice, .nilslice, .nilslice, .nilslice, .nilslice, .nilslice, .nilslice, .nilslice, .nilslice, .nilslice, .nilslice, .nilslice, .nilslice, .nilslice, .nilslice, .nilslice, .nilslice, .nilslice, .nilslice, .nilslice, .nilslice, .nilslice, .nilslice, .nilslice, .nilslice, .nilslice, .nilslice, .nilslice, .nilslice, .nilslice, .nilslice, .nilslice, (.int .i64 0), .nilslice, (.int .i64 0)] [(2, 64, t18), (66, 1, t22), (67, 1, t26)] h fun t27 h =>
vBox 70 t27 h fun t28 h =>
(fun (e0 : Hp → Prop) =>
s_oplog_Log_AddL16 cf fuel (s_oplog_Log_AddE0 cf fuel K t0 t1 t28) t0 t1 t28 fuel (.int .i64 0) h) (s_oplog_Log_AddE0 cf fuel K t0 t1 t28))
theorem s_oplog_Log_Add_eq (cf : CallK) (fuel : Nat) (t0 : AV) (t1 : AV) (h : Hp) (K : AV → Hp → Prop) : s_oplog_Log_Add cf fuel t0 t1 h K = deepT (tabOf Tryz.prog) f_oplog_Log_Add cf fuel [t0, t1] h K :=
  Eq.trans (by kernel_rfl) (rFun (by kernel_rfl) (rSeq (by kernel_rfl) (rScope (by kernel_rfl) (rSeq (by kernel_rfl) (rSeq (by kernel_rfl) (rSeq (by kernel_rfl) (rSeq (by kernel_rfl) (rSeq (by kernel_rfl) (rSeq (by kernel_rfl) (rSeq (by kernel_rfl) rExact (rSeq (by kernel_rfl) (rBlock (by kernel_rfl) (rLoop (by kernel_rfl) (fun m11 fr h => s_oplog_Log_AddL11 cf fuel (s_oplog_Log_AddE1 cf fuel K (getS fr (gpos 0)) (getS fr (gpos 6))) (getS fr (gpos 0)) (getS fr (gpos 6)) (getS fr (gpos 59)) (getS fr (gpos 60)) m11 (getS fr (gpos 8)) (getS fr (gpos 9)) (getS fr (gpos 10)) (getS fr (gpos 61)) h) (funext fun fr => funext fun h => by kernel_rfl) fun m11 => rCast (funext fun fr => funext fun h => by kernel_rfl) rExact)) rExact)) rExact) rExact) rExact) (rSeq (by kernel_rfl) (rBlock (by kernel_rfl) (rLoop (by kernel_rfl) (fun m16 fr h => s_oplog_Log_AddL16 cf fuel (s_oplog_Log_AddE0 cf fuel K (getS fr (gpos 0)) (getS fr (gpos 1)) (getS fr (gpos 6))) (getS fr (gpos 0)) (getS fr (gpos 1)) (getS fr (gpos 6)) m16 (getS fr (gpos 29)) h) (funext fun fr => funext fun h => by kernel_rfl) fun m16 => rCast (funext fun fr => funext fun h => by kernel_rfl) rExact)) rExact)) rExact) rExact)) rExact))

noncomputable def s_oplog_OpenB1 (cf : CallK) (fuel : Nat) (K : AV → Hp → Prop) (t0 : AV) (t1 : AV) (h : Hp) : Prop :=
vBuild [.nilptr, (.int .i64 0), .nilslice, .nilslice, .nilslice, .nilslice, .nilslice, .nilslice, .nilslice, .nilslice, .nilslice, .nilslice, .nilslice, .nilslice, .nilslice, .nilslice, .nilslice, .nilslice, .nilslice, .nilslice, .nilslice, .nilslice, .nilslice, .nilslice, .nilslice, .nilslice, .nilslice, .nilslice, .nilslice, .nilslice, .nilslice, .nilslice, .nilslice, .nilslice, .nilslice, .nilslice, .nilslice, .nilslice, .nilslice, .nilslice, .nilslice, .nilslice, .nilslice, .nilslice, .nilslice, .nilslice, .nilslice, .nilslice, .nilslice, .nilslice, .nilslice, .nilslice, .nilslice, .nilslice, .nilslice, .nilslice, .nilslice, .nilslice, .nilslice, .nilslice, .nilslice, .nilslice, .nilslice, .nilslice, .nilslice, .nilslice, .nilslice, (.int .i64 0), .nilslice, (.int .i64 0)] [(0, 1, t0), (1, 1, t1)] h fun t18 h =>
vBox 70 t18 h fun t19 h =>
cf f_oplog_head [] h fun t22 h =>
cf f_localfs_FS_Read [t0, t22, (.int .i64 0), (.int .i64 65536)] h fun t23 h =>
vExtract 0 t23 h fun t24 h =>
vExtract 1 t23 h fun t25 h =>
(fun (e0 : Hp → Prop) =>
vEql t25 (.int .i64 2) h fun t29 h =>
vIf t29 (
K (.tup [t19, (.int .i64 0)]) h) (
vEql t25 (.int .i64 0) h fun t32 h =>
vIf t32 (
e0 h) (
K (.tup [.nilptr, t25]) h))) fun h =>
cf f_codec_NewReader [t24] h fun t34 h =>
cf f_codec_Reader_Num [t34] h fun t38 h =>
cf f_codec_Reader_Bytes [t34] h fun t40 h =>
vNilck t19 h fun t41 h =>
vFaddr 69 t41 h fun t42 h =>
vStore 1 t42 t38 h fun _ h =>
vNilck t19 h fun t43 h =>
vFaddr 68 t43 h fun t44 h =>
vStore 1 t44 t40 h fun _ h =>
cf f_codec_Reader_Done [t34] h fun t46 h =>
vNeq t46 (.int .i64 0) h fun t47 h =>
vIf t47 (
K (.tup [.nilptr, (.int .i64 74)]) h) (
cf f_oplog_Log_load [t19] h fun t50 h =>
K (.tup [t19, t50]) h)
noncomputable def s_oplog_Open (cf : CallK) (fuel : Nat) (t0 : AV) (t1 : AV) (h : Hp) (K : AV → Hp → Prop) : Prop :=
vEq false eqP t0 .nilptr h fun t11 h =>
joinG (fun g3 => grdV t11 false (vMov t1 h g3) (g3 undefV h)) fun t13 h =>
joinG (fun g2 => grdV t11 false (vLss t13 (.int .i64 0) h g2) (g2 undefV h)) fun t14 h =>
vPick t11 (.bool .true) t14 h fun t15 h =>
vIf t15 (
K (.tup [.nilptr, (.int .i64 22)]) h) (
s_oplog_OpenB1 cf fuel K t0 t1 h)
theorem s_oplog_Open_eq (cf : CallK) (fuel : Nat) (t0 : AV) (t1 : AV) (h : Hp) (K : AV → Hp → Prop) : s_oplog_Open cf fuel t0 t1 h K = deepT (tabOf Tryz.prog) f_oplog_Open cf fuel [t0, t1] h K :=
  Eq.trans (by kernel_rfl) (rFun (by kernel_rfl) rExact)

noncomputable def s_oplog_Log_Get (cf : CallK) (fuel : Nat) (t0 : AV) (t1 : AV) (t2 : AV) (h : Hp) (K : AV → Hp → Prop) : Prop :=
vBox 11 (.agg [(.int .i64 0), (.int .i64 0), (.int .i64 0), (.int .i64 0), (.int .i64 0), (.int .i64 0), (.int .i64 0), (.int .i64 0), (.str 0 0), .nilslice, .nilslice]) h fun t6 h =>
vEq false eqP t0 .nilptr h fun t9 h =>
joinG (fun g14 => grdV t9 false (vMov t1 h g14) (g14 undefV h)) fun t11 h =>
joinG (fun g13 => grdV t9 false (vLss t11 (.int .i64 0) h g13) (g13 undefV h)) fun t12 h =>
vPick t9 (.bool .true) t12 h fun t13 h =>
joinG (fun g12 => grdV t13 false (vMov t1 h g12) (g12 undefV h)) fun t15 h =>
joinG (fun g11 => grdV t13 false (vGeq t15 (.int .i64 64) h g11) (g11 undefV h)) fun t16 h =>
vPick t13 (.bool .true) t16 h fun t17 h =>
joinG (fun g10 => grdV t17 false (vMov t2 h g10) (g10 undefV h)) fun t19 h =>
joinG (fun g9 => grdV t17 false (vLss t19 (.int .i64 1) h g9) (g9 undefV h)) fun t20 h =>
vPick t17 (.bool .true) t20 h fun t21 h =>
joinG (fun g8 => grdV t21 false (vMov t2 h g8) (g8 undefV h)) fun t23 h =>
joinG (fun g7 => grdV t21 false (vMov t0 h g7) (g7 undefV h)) fun t24 h =>
joinG (fun g6 => grdV t21 false (vMov t1 h g6) (g6 undefV h)) fun t25 h =>
joinG (fun g5 => grdV t21 false (vNilck t24 h g5) (g5 undefV h)) fun t26 h =>
joinG (fun g4 => grdV t21 false (vFaddr 2 t26 h g4) (g4 undefV h)) fun t27 h =>
joinG (fun g3 => grdV t21 false (vIaddrA 1 64 t27 t25 h g3) (g3 undefV h)) fun t28 h =>
joinG (fun g2 => grdV t21 false (vLoad2 t28 h g2) (g2 undefV h)) fun t29 h =>
joinG (fun g1 => grdV t21 false (vLenL2 t29 h g1) (g1 undefV h)) fun t30 h =>
joinG (fun g0 => grdV t21 false (vGtr t23 t30 h g0) (g0 undefV h)) fun t31 h =>
vPick t21 (.bool .true) t31 h fun t32 h =>
vIf t32 (
vBuild [(.int .i64 0), (.int .i64 0), (.int .i64 0), (.int .i64 0), (.int .i64 0), (.int .i64 0), (.int .i64 0), (.int .i64 0), (.str 0 0), .nilslice, .nilslice] [] h fun t33 h =>
vStore 11 t6 t33 h fun _ h =>
vLoadA 11 t6 h fun r0 _ => K (.tup [r0, (.bool .false)]) h) (
vNilck t0 h fun t36 h =>
vFaddr 2 t36 h fun t37 h =>
vIaddrA 1 64 t37 t1 h fun t38 h =>
vLoad2 t38 h fun t39 h =>
vArith Go.Am.subI t2 (.int .i64 1) h fun t41 h =>
vIaddr 11 t39 t41 h fun t42 h =>
vLoadA 11 t42 h fun t43 h =>
cf f_ops_Copy [t43] h fun t44 h =>
vStore 11 t6 t44 h fun _ h =>
vLoadA 11 t6 h fun r0 _ => K (.tup [r0, (.bool .true)]) h)
theorem s_oplog_Log_Get_eq (cf : CallK) (fuel : Nat) (t0 : AV) (t1 : AV) (t2 : AV) (h : Hp) (K : AV → Hp → Prop) : s_oplog_Log_Get cf fuel t0 t1 t2 h K = deepT (tabOf Tryz.prog) f_oplog_Log_Get cf fuel [t0, t1, t2] h K :=
  Eq.trans (by kernel_rfl) (rFun (by kernel_rfl) rExact)

noncomputable def s_lagoonlaw13_begunB18 (cf : CallK) (fuel : Nat) (K : AV → Hp → Prop) (t32 : AV) (t29 : AV) (t14 : AV) (t27 : AV) (t26 : AV) (t4 : AV) (h : Hp) : Prop :=
cf f_oplog_Log_Get [t32, (.int .i64 1), (.int .i64 1)] h fun t37 h =>
vExtract 0 t37 h fun t38 h =>
vExtract 1 t37 h fun t39 h =>
vBox 11 (.agg [(.int .i64 0), (.int .i64 0), (.int .i64 0), (.int .i64 0), (.int .i64 0), (.int .i64 0), (.int .i64 0), (.int .i64 0), (.str 0 0), .nilslice, .nilslice]) h fun t9 h =>
vStore 11 t9 t38 h fun _ h =>
vEql t26 (.int .i64 1) h fun t41 h =>
joinG (fun g17 => grdV t41 true (vMov t27 h g17) (g17 undefV h)) fun t43 h =>
joinG (fun g16 => grdV t41 true (vEql t43 (.int .i64 0) h g16) (g16 undefV h)) fun t44 h =>
vPick t41 t44 (.bool .false) h fun t45 h =>
joinG (fun g15 => grdV t45 true (vMov t29 h g15) (g15 undefV h)) fun t47 h =>
joinG (fun g14 => grdV t45 true (vEql t47 (.int .i64 0) h g14) (g14 undefV h)) fun t48 h =>
vPick t45 t48 (.bool .false) h fun t49 h =>
joinG (fun g13 => grdV t49 true (vMov t39 h g13) (g13 undefV h)) fun t51 h =>
vPick t49 t51 (.bool .false) h fun t52 h =>
joinG (fun g12 => grdV t52 true (vLoadA 11 t9 h g12) (g12 undefV h)) fun t54 h =>
joinG (fun g11 => grdV t52 true (vLoadA 11 t4 h g11) (g11 undefV h)) fun t55 h =>
joinG (fun g10 => grdV t52 true (cf f_lagoonref12_Eq [t54, t55] h g10) (g10 undefV h)) fun t56 h =>
vPick t52 t56 (.bool .false) h fun t57 h =>
joinG (fun g9 => grdV t57 true (vMov t32 h g9) (g9 undefV h)) fun t59 h =>
joinG (fun g8 => grdV t57 true (cf f_oplog_Log_Since [t59, .nilslice, (.int .i64 5)] h g8) (g8 undefV h)) fun t60 h =>
joinG (fun g7 => grdV t57 true (vLenL2 t60 h g7) (g7 undefV h)) fun t61 h =>
joinG (fun g6 => grdV t57 true (vEql t61 (.int .i64 1) h g6) (g6 undefV h)) fun t62 h =>
vPick t57 t62 (.bool .false) h fun t63 h =>
joinG (fun g5 => grdV t63 true (vMov t14 h g5) (g5 undefV h)) fun t65 h =>
joinG (fun g4 => grdV t63 true (vLoadA 11 t4 h g4) (g4 undefV h)) fun t67 h =>
joinG (fun g3 => grdV t63 true (cf f_oplog_Log_Cost [t65] h g3) (g3 undefV h)) fun t66 h =>
joinP (fun g2 => grdV t63 true (vLoadA 11 t4 h fun c _ => gd (sameV c t67) g2) g2) (
joinG (fun g1 => grdV t63 true (cf f_lagoonref12_Cost [t67] h g1) (g1 undefV h)) fun t68 h =>
joinG (fun g0 => grdV t63 true (vEql t66 t68 h g0) (g0 undefV h)) fun t69 h =>
vPick t63 t69 (.bool .false) h fun t70 h =>
K t70 h)
noncomputable def s_lagoonlaw13_begunB19 (cf : CallK) (fuel : Nat) (K : AV → Hp → Prop) (t14 : AV) (t13 : AV) (h : Hp) : Prop :=
vBuild [(.int .i64 0), (.int .i64 0)] [(0, 1, (.int .i64 3)), (1, 1, (.int .i64 1))] h fun t17 h =>
vBox 2 (.agg [(.int .i64 0), (.int .i64 0)]) h fun t3 h =>
vStore 2 t3 t17 h fun _ h =>
vLoadA 2 t3 h fun t18 h =>
vLoadA 2 t3 h fun t19 h =>
vBuild [(.int .i64 0), (.int .i64 0), (.int .i64 0), (.int .i64 0), (.int .i64 0), (.int .i64 0), (.int .i64 0), (.int .i64 0), (.str 0 0), .nilslice, .nilslice] [(0, 2, t18), (2, 1, (.int .i64 1)), (3, 1, (.int .i64 2)), (4, 2, t19), (8, 1, (.str 1 102))] h fun t20 h =>
vBox 11 (.agg [(.int .i64 0), (.int .i64 0), (.int .i64 0), (.int .i64 0), (.int .i64 0), (.int .i64 0), (.int .i64 0), (.int .i64 0), (.str 0 0), .nilslice, .nilslice]) h fun t4 h =>
vStore 11 t4 t20 h fun _ h =>
vLoadA 11 t4 h fun t23 h =>
vBslice 11 1 false [(.int .i64 0), (.int .i64 0), (.int .i64 0), (.int .i64 0), (.int .i64 0), (.int .i64 0), (.int .i64 0), (.int .i64 0), (.str 0 0), .nilslice, .nilslice] [(0, 11, t23)] h fun t24 h =>
cf f_oplog_Log_Add [t14, t24] h fun t25 h =>
vExtract 0 t25 h fun t26 h =>
vExtract 1 t25 h fun t27 h =>
cf f_oplog_Log_Sync [t14] h fun t29 h =>
cf f_device_Device_Crash [t13, .nilfunc] h fun t31 h =>
cf f_lagoonlaw13_again [t31, (.int .i64 3800)] h fun t32 h =>
vEq false eqP t32 .nilptr h fun t34 h =>
vIf t34 (
K (.bool .false) h) (
s_lagoonlaw13_begunB18 cf fuel K t32 t29 t14 t27 t26 t4 h)
noncomputable def s_lagoonlaw13_begun (cf : CallK) (fuel : Nat) (h : Hp) (K : AV → Hp → Prop) : Prop :=
cf f_lagoonlaw13_open [(.int .i64 1000), (.int .i64 3800)] h fun t12 h =>
vExtract 0 t12 h fun t13 h =>
vExtract 1 t12 h fun t14 h =>
vEq false eqP t14 .nilptr h fun t16 h =>
vIf t16 (
K (.bool .false) h) (
s_lagoonlaw13_begunB19 cf fuel K t14 t13 h)
theorem s_lagoonlaw13_begun_eq (cf : CallK) (fuel : Nat) (h : Hp) (K : AV → Hp → Prop) : s_lagoonlaw13_begun cf fuel h K = deepT (tabOf Tryz.prog) f_lagoonlaw13_begun cf fuel [] h K :=
  Eq.trans (by kernel_rfl) (rFun (by kernel_rfl) rExact)

noncomputable def s_oplog_Log_Vector (cf : CallK) (fuel : Nat) (t0 : AV) (h : Hp) (K : AV → Hp → Prop) : Prop :=
vEq false eqP t0 .nilptr h fun t4 h =>
vIf t4 (
K .nilslice h) (
vNilck t0 h fun t6 h =>
vFaddr 66 t6 h fun t7 h =>
vLoad2 t7 h fun t8 h =>
cf f_vector_Norm [t8] h fun t9 h =>
K t9 h)
theorem s_oplog_Log_Vector_eq (cf : CallK) (fuel : Nat) (t0 : AV) (h : Hp) (K : AV → Hp → Prop) : s_oplog_Log_Vector cf fuel t0 h K = deepT (tabOf Tryz.prog) f_oplog_Log_Vector cf fuel [t0] h K :=
  Eq.trans (by kernel_rfl) (rFun (by kernel_rfl) rExact)

noncomputable def s_oplog_Log_Cost (cf : CallK) (fuel : Nat) (t0 : AV) (h : Hp) (K : AV → Hp → Prop) : Prop :=
vEq false eqP t0 .nilptr h fun t4 h =>
vIf t4 (
K (.int .i64 0) h) (
vNilck t0 h fun t6 h =>
vFaddr 67 t6 h fun t7 h =>
vLoad2 t7 h fun t8 h =>
K t8 h)
theorem s_oplog_Log_Cost_eq (cf : CallK) (fuel : Nat) (t0 : AV) (h : Hp) (K : AV → Hp → Prop) : s_oplog_Log_Cost cf fuel t0 h K = deepT (tabOf Tryz.prog) f_oplog_Log_Cost cf fuel [t0] h K :=
  Eq.trans (by kernel_rfl) (rFun (by kernel_rfl) rExact)

noncomputable def s_oplog_Log_SinceE1 (cf : CallK) (fuel : Nat) (K : AV → Hp → Prop) : AV → Hp → Prop := fun t11 h =>
K t11 h
noncomputable def s_oplog_Log_SinceB4 (cf : CallK) (fuel : Nat) (ih2 : AV → Hp → Prop) (t7 : AV) (t11 : AV) (h : Hp) : Prop :=
(fun (e3 : AV → Hp → Prop) =>
vIface 69 t7 h fun t52 h =>
cf f_container_heap_Pop [t52] h fun t53 h =>
vAssert 40 false .nilslice t53 h fun t54 h =>
vIaddr 11 t54 (.int .i64 0) h fun t57 h =>
vLoadA 11 t57 h fun t58 h =>
cf f_ops_Copy [t58] h fun t59 h =>
vBslice 11 1 false [(.int .i64 0), (.int .i64 0), (.int .i64 0), (.int .i64 0), (.int .i64 0), (.int .i64 0), (.int .i64 0), (.int .i64 0), (.str 0 0), .nilslice, .nilslice] [(0, 11, t59)] h fun t60 h =>
vAppend2 11 128 false t11 t60 h fun t61 h =>
vLenL2 t54 h fun t63 h =>
vGtr t63 (.int .i64 1) h fun t64 h =>
vIf t64 (
vIface 69 t7 h fun t66 h =>
vSlice2 11 t54 (some (.int .i64 1)) none h fun t68 h =>
vIface 40 t68 h fun t69 h =>
cf f_container_heap_Push [t66, t69] h fun t70 h =>
e3 t61 h) (
e3 t61 h)) fun t11 h =>
ih2 t11 h
noncomputable def s_oplog_Log_SinceL2B (cf : CallK) (fuel : Nat) (e1 : AV → Hp → Prop) (t2 : AV) (t7 : AV) (ih2 : AV → Hp → Prop) : AV → Hp → Prop := fun t11 h =>
vNilck t7 h fun t41 h =>
vLoad2 t41 h fun t42 h =>
cf f_oplog_rests_Len [t42] h fun t43 h =>
vGtr t43 (.int .i64 0) h fun t44 h =>
joinG (fun g8 => grdV t44 true (vMov t11 h g8) (g8 undefV h)) fun t46 h =>
joinG (fun g7 => grdV t44 true (vLenL2 t46 h g7) (g7 undefV h)) fun t47 h =>
joinG (fun g6 => grdV t44 true (vMov t2 h g6) (g6 undefV h)) fun t48 h =>
joinG (fun g5 => grdV t44 true (vLss t47 t48 h g5) (g5 undefV h)) fun t49 h =>
vPick t44 t49 (.bool .false) h fun t50 h =>
vIf t50 (
s_oplog_Log_SinceB4 cf fuel ih2 t7 t11 h) (
e1 t11 h)
noncomputable def s_oplog_Log_SinceL2 (cf : CallK) (fuel : Nat) (e1 : AV → Hp → Prop) (t2 : AV) (t7 : AV) (m : Nat) : AV → Hp → Prop := Nat.rec (motive := fun _ => AV → Hp → Prop) (fun _ _ => False) (fun _ ih => s_oplog_Log_SinceL2B cf fuel e1 t2 t7 ih) m
theorem s_oplog_Log_SinceL2_succ (cf : CallK) (fuel : Nat) (e1 : AV → Hp → Prop) (t2 : AV) (t7 : AV) (m : Nat) : s_oplog_Log_SinceL2 cf fuel e1 t2 t7 (m + 1) = s_oplog_Log_SinceL2B cf fuel e1 t2 t7 (s_oplog_Log_SinceL2 cf fuel e1 t2 t7 m) := rfl
noncomputable def s_oplog_Log_SinceE0 (cf : CallK) (fuel : Nat) (K : AV → Hp → Prop) (t2 : AV) (t7 : AV) : Hp → Prop := fun h =>
(fun (e1 : AV → Hp → Prop) =>
s_oplog_Log_SinceL2 cf fuel (s_oplog_Log_SinceE1 cf fuel K) t2 t7 fuel .nilslice h) (s_oplog_Log_SinceE1 cf fuel K)
noncomputable def s_oplog_Log_SinceL9B (cf : CallK) (fuel : Nat) (e0 : Hp → Prop) (t1 : AV) (t2 : AV) (t7 : AV) (t20 : AV) (ih9 : AV → Hp → Prop) : AV → Hp → Prop := fun t21 h =>
vLss t21 (.int .i64 64) h fun t22 h =>
vIf t22 (
(fun (e10 : Hp → Prop) =>
vIdx 64 t20 t21 h fun t24 h =>
cf f_vector_At [t1, t21] h fun t27 h =>
vLenL2 t24 h fun t30 h =>
vLss t27 t30 h fun t31 h =>
vIf t31 (
vIface 69 t7 h fun t33 h =>
vSlice2 11 t24 (some t27) none h fun t36 h =>
vIface 40 t36 h fun t37 h =>
cf f_container_heap_Push [t33, t37] h fun t38 h =>
e10 h) (
e10 h)) fun h =>
vAdd t21 (.int .i64 1) h fun t39 h =>
ih9 t39 h) (
e0 h)
noncomputable def s_oplog_Log_SinceL9 (cf : CallK) (fuel : Nat) (e0 : Hp → Prop) (t1 : AV) (t2 : AV) (t7 : AV) (t20 : AV) (m : Nat) : AV → Hp → Prop := Nat.rec (motive := fun _ => AV → Hp → Prop) (fun _ _ => False) (fun _ ih => s_oplog_Log_SinceL9B cf fuel e0 t1 t2 t7 t20 ih) m
theorem s_oplog_Log_SinceL9_succ (cf : CallK) (fuel : Nat) (e0 : Hp → Prop) (t1 : AV) (t2 : AV) (t7 : AV) (t20 : AV) (m : Nat) : s_oplog_Log_SinceL9 cf fuel e0 t1 t2 t7 t20 (m + 1) = s_oplog_Log_SinceL9B cf fuel e0 t1 t2 t7 t20 (s_oplog_Log_SinceL9 cf fuel e0 t1 t2 t7 t20 m) := rfl
noncomputable def s_oplog_Log_Since (cf : CallK) (fuel : Nat) (t0 : AV) (t1 : AV) (t2 : AV) (h : Hp) (K : AV → Hp → Prop) : Prop :=
vEq false eqP t0 .nilptr h fun t14 h =>
vIf t14 (
K .nilslice h) (
vBslice 1 0 false [.nilslice] [] h fun t15 h =>
vBox 1 t15 h fun t16 h =>
vNilck t0 h fun t18 h =>
vFaddr 2 t18 h fun t19 h =>
vLoadA 64 t19 h fun t20 h =>
(fun (e0 : Hp → Prop) =>
s_oplog_Log_SinceL9 cf fuel (s_oplog_Log_SinceE0 cf fuel K t2 t16) t1 t2 t16 t20 fuel (.int .i64 0) h) (s_oplog_Log_SinceE0 cf fuel K t2 t16))
theorem s_oplog_Log_Since_eq (cf : CallK) (fuel : Nat) (t0 : AV) (t1 : AV) (t2 : AV) (h : Hp) (K : AV → Hp → Prop) : s_oplog_Log_Since cf fuel t0 t1 t2 h K = deepT (tabOf Tryz.prog) f_oplog_Log_Since cf fuel [t0, t1, t2] h K :=
  Eq.trans (by kernel_rfl) (rFun (by kernel_rfl) (rSeq (by kernel_rfl) (rSeq (by kernel_rfl) (rSeq (by kernel_rfl) (rSeq (by kernel_rfl) (rSeq (by kernel_rfl) (rSeq (by kernel_rfl) rExact (rBlock (by kernel_rfl) (rLoop (by kernel_rfl) (fun m2 fr h => s_oplog_Log_SinceL2 cf fuel (s_oplog_Log_SinceE1 cf fuel K) (getS fr (gpos 2)) (getS fr (gpos 7)) m2 (getS fr (gpos 11)) h) (funext fun fr => funext fun h => by kernel_rfl) fun m2 => rCast (funext fun fr => funext fun h => by kernel_rfl) rExact))) rExact) (rSeq (by kernel_rfl) (rBlock (by kernel_rfl) (rLoop (by kernel_rfl) (fun m9 fr h => s_oplog_Log_SinceL9 cf fuel (s_oplog_Log_SinceE0 cf fuel K (getS fr (gpos 2)) (getS fr (gpos 7))) (getS fr (gpos 1)) (getS fr (gpos 2)) (getS fr (gpos 7)) (getS fr (gpos 20)) m9 (getS fr (gpos 21)) h) (funext fun fr => funext fun h => by kernel_rfl) fun m9 => rCast (funext fun fr => funext fun h => by kernel_rfl) rExact)) rExact)) rExact) rExact) rExact))

noncomputable def s_oplog_Log_Sync (cf : CallK) (fuel : Nat) (t0 : AV) (h : Hp) (K : AV → Hp → Prop) : Prop :=
vEq false eqP t0 .nilptr h fun t4 h =>
vIf t4 (
K (.int .i64 5) h) (
vNilck t0 h fun t6 h =>
vFaddr 0 t6 h fun t7 h =>
vLoad2 t7 h fun t8 h =>
cf f_localfs_FS_Sync [t8] h fun t9 h =>
K t9 h)
theorem s_oplog_Log_Sync_eq (cf : CallK) (fuel : Nat) (t0 : AV) (h : Hp) (K : AV → Hp → Prop) : s_oplog_Log_Sync cf fuel t0 h K = deepT (tabOf Tryz.prog) f_oplog_Log_Sync cf fuel [t0] h K :=
  Eq.trans (by kernel_rfl) (rFun (by kernel_rfl) rExact)

noncomputable def s_oplog_Log_SetMeta (cf : CallK) (fuel : Nat) (t0 : AV) (t1 : AV) (h : Hp) (K : AV → Hp → Prop) : Prop :=
(fun (e0 : Hp → Prop) =>
vEq false eqP t0 .nilptr h fun t7 h =>
vIf t7 (
K (.int .i64 5) h) (
vLenL2 t1 h fun t10 h =>
vGtr t10 (.int .i64 256) h fun t11 h =>
vIf t11 (
K (.int .i64 22) h) (
e0 h))) fun h =>
cf f_oplog_Log_keep [t0, .nilslice, t1] h fun t14 h =>
K t14 h
theorem s_oplog_Log_SetMeta_eq (cf : CallK) (fuel : Nat) (t0 : AV) (t1 : AV) (h : Hp) (K : AV → Hp → Prop) : s_oplog_Log_SetMeta cf fuel t0 t1 h K = deepT (tabOf Tryz.prog) f_oplog_Log_SetMeta cf fuel [t0, t1] h K :=
  Eq.trans (by kernel_rfl) (rFun (by kernel_rfl) rExact)

noncomputable def s_oplog_Log_takesE0 (cf : CallK) (fuel : Nat) (K : AV → Hp → Prop) : Hp → Prop := fun h =>
K (.bool .true) h
noncomputable def s_oplog_Log_takesB13 (cf : CallK) (fuel : Nat) (K : AV → Hp → Prop) (ih1 : AV → Hp → Prop) (t3 : AV) (t38 : AV) (t39 : AV) (h : Hp) : Prop :=
(fun (e2 : Hp → Prop) =>
vIdx 64 t38 t39 h fun t42 h =>
vFaddr 10 t3 h fun t43 h =>
vLoad2 t43 h fun t44 h =>
cf f_vector_At [t44, t39] h fun t46 h =>
vGtr t46 (.int .i64 0) h fun t48 h =>
joinG (fun g12 => grdV t48 true (vMov t42 h g12) (g12 undefV h)) fun t50 h =>
joinG (fun g11 => grdV t48 true (vMov t46 h g11) (g11 undefV h)) fun t51 h =>
joinG (fun g10 => grdV t48 true (vArith Go.Am.subI t51 (.int .i64 1) h g10) (g10 undefV h)) fun t52 h =>
joinG (fun g9 => grdV t48 true (vIaddr 11 t50 t52 h g9) (g9 undefV h)) fun t53 h =>
joinG (fun g8 => grdV t48 true (vFaddr 0 t53 h g8) (g8 undefV h)) fun t54 h =>
joinG (fun g7 => grdV t48 true (vLoadA 2 t54 h g7) (g7 undefV h)) fun t55 h =>
joinG (fun g6 => grdV t48 true (vFaddr 0 t3 h g6) (g6 undefV h)) fun t56 h =>
joinG (fun g5 => grdV t48 true (vLoadA 2 t56 h g5) (g5 undefV h)) fun t57 h =>
joinG (fun g4 => grdV t48 true (cf f_clock_Less [t55, t57] h g4) (g4 undefV h)) fun t58 h =>
joinG (fun g3 => grdV t48 true (vNot t58 h g3) (g3 undefV h)) fun t59 h =>
vPick t48 t59 (.bool .false) h fun t60 h =>
vIf t60 (
K (.bool .false) h) (
e2 h)) fun h =>
vAdd t39 (.int .i64 1) h fun t61 h =>
ih1 t61 h
noncomputable def s_oplog_Log_takesL1B (cf : CallK) (fuel : Nat) (K : AV → Hp → Prop) (e0 : Hp → Prop) (t3 : AV) (t38 : AV) (ih1 : AV → Hp → Prop) : AV → Hp → Prop := fun t39 h =>
vLss t39 (.int .i64 64) h fun t40 h =>
vIf t40 (
s_oplog_Log_takesB13 cf fuel K ih1 t3 t38 t39 h) (
e0 h)
noncomputable def s_oplog_Log_takesL1 (cf : CallK) (fuel : Nat) (K : AV → Hp → Prop) (e0 : Hp → Prop) (t3 : AV) (t38 : AV) (m : Nat) : AV → Hp → Prop := Nat.rec (motive := fun _ => AV → Hp → Prop) (fun _ _ => False) (fun _ ih => s_oplog_Log_takesL1B cf fuel K e0 t3 t38 ih) m
theorem s_oplog_Log_takesL1_succ (cf : CallK) (fuel : Nat) (K : AV → Hp → Prop) (e0 : Hp → Prop) (t3 : AV) (t38 : AV) (m : Nat) : s_oplog_Log_takesL1 cf fuel K e0 t3 t38 (m + 1) = s_oplog_Log_takesL1B cf fuel K e0 t3 t38 (s_oplog_Log_takesL1 cf fuel K e0 t3 t38 m) := rfl
noncomputable def s_oplog_Log_takes (cf : CallK) (fuel : Nat) (t0 : AV) (t1 : AV) (h : Hp) (K : AV → Hp → Prop) : Prop :=
vBox 11 t1 h fun t3 h =>
vLoadA 11 t3 h fun t8 h =>
cf f_ops_May [t8] h fun t9 h =>
vNot t9 h fun t10 h =>
joinG (fun g34 => grdV t10 false (vFaddr 2 t3 h g34) (g34 undefV h)) fun t12 h =>
joinG (fun g33 => grdV t10 false (vLoad2 t12 h g33) (g33 undefV h)) fun t13 h =>
joinG (fun g32 => grdV t10 false (vMov t0 h g32) (g32 undefV h)) fun t14 h =>
joinG (fun g31 => grdV t10 false (vNilck t14 h g31) (g31 undefV h)) fun t15 h =>
joinG (fun g30 => grdV t10 false (vFaddr 66 t15 h g30) (g30 undefV h)) fun t16 h =>
joinG (fun g29 => grdV t10 false (vLoad2 t16 h g29) (g29 undefV h)) fun t17 h =>
joinG (fun g28 => grdV t10 false (vFaddr 0 t3 h g28) (g28 undefV h)) fun t18 h =>
joinG (fun g27 => grdV t10 false (vFaddr 1 t18 h g27) (g27 undefV h)) fun t19 h =>
joinG (fun g26 => grdV t10 false (vLoad2 t19 h g26) (g26 undefV h)) fun t20 h =>
joinG (fun g25 => grdV t10 false (cf f_vector_At [t17, t20] h g25) (g25 undefV h)) fun t21 h =>
joinP (fun g24 => grdV t10 false (vLoad2 t12 h fun c _ => gd (sameV c t13) g24) g24) (
joinG (fun g23 => grdV t10 false (vAdd t21 (.int .i64 1) h g23) (g23 undefV h)) fun t22 h =>
joinG (fun g22 => grdV t10 false (vNeq t13 t22 h g22) (g22 undefV h)) fun t23 h =>
vPick t10 (.bool .true) t23 h fun t24 h =>
joinG (fun g21 => grdV t24 false (vFaddr 10 t3 h g21) (g21 undefV h)) fun t26 h =>
joinG (fun g20 => grdV t24 false (vLoad2 t26 h g20) (g20 undefV h)) fun t27 h =>
joinG (fun g19 => grdV t24 false (vMov t0 h g19) (g19 undefV h)) fun t28 h =>
joinG (fun g18 => grdV t24 false (vNilck t28 h g18) (g18 undefV h)) fun t29 h =>
joinG (fun g17 => grdV t24 false (vFaddr 66 t29 h g17) (g17 undefV h)) fun t30 h =>
joinG (fun g16 => grdV t24 false (vLoad2 t30 h g16) (g16 undefV h)) fun t31 h =>
joinG (fun g15 => grdV t24 false (cf f_vector_Leq [t27, t31] h g15) (g15 undefV h)) fun t32 h =>
joinG (fun g14 => grdV t24 false (vNot t32 h g14) (g14 undefV h)) fun t33 h =>
vPick t24 (.bool .true) t33 h fun t34 h =>
vIf t34 (
K (.bool .false) h) (
vNilck t0 h fun t36 h =>
vFaddr 2 t36 h fun t37 h =>
vLoadA 64 t37 h fun t38 h =>
(fun (e0 : Hp → Prop) =>
s_oplog_Log_takesL1 cf fuel K (s_oplog_Log_takesE0 cf fuel K) t3 t38 fuel (.int .i64 0) h) (s_oplog_Log_takesE0 cf fuel K)))
theorem s_oplog_Log_takes_eq (cf : CallK) (fuel : Nat) (t0 : AV) (t1 : AV) (h : Hp) (K : AV → Hp → Prop) : s_oplog_Log_takes cf fuel t0 t1 h K = deepT (tabOf Tryz.prog) f_oplog_Log_takes cf fuel [t0, t1] h K :=
  Eq.trans (by kernel_rfl) (rFun (by kernel_rfl) (rSeq (by kernel_rfl) (rSeq (by kernel_rfl) (rSeq (by kernel_rfl) rExact (rSeq (by kernel_rfl) (rBlock (by kernel_rfl) (rLoop (by kernel_rfl) (fun m1 fr h => s_oplog_Log_takesL1 cf fuel K (s_oplog_Log_takesE0 cf fuel K) (getS fr (gpos 3)) (getS fr (gpos 38)) m1 (getS fr (gpos 39)) h) (funext fun fr => funext fun h => by kernel_rfl) fun m1 => rCast (funext fun fr => funext fun h => by kernel_rfl) rExact)) rExact)) rExact) rExact))

noncomputable def s_ops_Cost (cf : CallK) (fuel : Nat) (t0 : AV) (h : Hp) (K : AV → Hp → Prop) : Prop :=
vBox 11 t0 h fun t1 h =>
vLoadA 11 t1 h fun t6 h =>
cf f_ops_Encode [t6] h fun t7 h =>
vExtract 0 t7 h fun t8 h =>
vExtract 1 t7 h fun t9 h =>
vLenL2 t8 h fun t11 h =>
K t11 h
theorem s_ops_Cost_eq (cf : CallK) (fuel : Nat) (t0 : AV) (h : Hp) (K : AV → Hp → Prop) : s_ops_Cost cf fuel t0 h K = deepT (tabOf Tryz.prog) f_ops_Cost cf fuel [t0] h K :=
  Eq.trans (by kernel_rfl) (rFun (by kernel_rfl) rExact)

noncomputable def s_oplog_Log_put (cf : CallK) (fuel : Nat) (t0 : AV) (t1 : AV) (h : Hp) (K : AV → Hp → Prop) : Prop :=
vBox 11 t1 h fun t3 h =>
vFaddr 0 t3 h fun t5 h =>
vFaddr 1 t5 h fun t6 h =>
vLoad2 t6 h fun t7 h =>
vFaddr 0 t3 h fun t9 h =>
vFaddr 1 t9 h fun t10 h =>
vLoad2 t10 h fun t11 h =>
vNilck t0 h fun t12 h =>
vFaddr 2 t12 h fun t13 h =>
vIaddrA 1 64 t13 t11 h fun t14 h =>
vLoad2 t14 h fun t15 h =>
vLoadA 11 t3 h fun t16 h =>
vNilck t0 h fun t20 h =>
vFaddr 2 t20 h fun t21 h =>
cf f_ops_Copy [t16] h fun t17 h =>
vLoad2 t6 h fun c _ => gd (sameV c t7) (
vLoad2 t10 h fun c _ => gd (sameV c t11) (
vLoad2 t14 h fun c _ => gd (sameV c t15) (
vBslice 11 1 false [(.int .i64 0), (.int .i64 0), (.int .i64 0), (.int .i64 0), (.int .i64 0), (.int .i64 0), (.int .i64 0), (.int .i64 0), (.str 0 0), .nilslice, .nilslice] [(0, 11, t17)] h fun t18 h =>
vLoad2 t6 h fun c _ => gd (sameV c t7) (
vLoad2 t10 h fun c _ => gd (sameV c t11) (
vLoad2 t14 h fun c _ => gd (sameV c t15) (
vAppend2 11 128 false t15 t18 h fun t19 h =>
vLoad2 t6 h fun c _ => gd (sameV c t7) (
vIaddrA 1 64 t21 t7 h fun t22 h =>
vStore 1 t22 t19 h fun _ h =>
vNilck t0 h fun t25 h =>
vFaddr 66 t25 h fun t26 h =>
vLoad2 t26 h fun t27 h =>
vFaddr 0 t3 h fun t28 h =>
vFaddr 1 t28 h fun t29 h =>
vLoad2 t29 h fun t30 h =>
vFaddr 2 t3 h fun t31 h =>
vLoad2 t31 h fun t32 h =>
cf f_vector_With [t27, t30, t32] h fun t33 h =>
vNilck t0 h fun t34 h =>
vFaddr 66 t34 h fun t35 h =>
vStore 1 t35 t33 h fun _ h =>
vNilck t0 h fun t37 h =>
vFaddr 67 t37 h fun t38 h =>
vLoad2 t38 h fun t39 h =>
vLoadA 11 t3 h fun t40 h =>
cf f_ops_Cost [t40] h fun t41 h =>
vLoad2 t38 h fun c _ => gd (sameV c t39) (
vAdd t41 (.int .i64 16) h fun t42 h =>
vAdd t39 t42 h fun t43 h =>
vNilck t0 h fun t44 h =>
vFaddr 67 t44 h fun t45 h =>
vStore 1 t45 t43 h fun _ h =>
K (.tup []) h))))))))


noncomputable def s_oplog_writtenE0 (cf : CallK) (fuel : Nat) (K : AV → Hp → Prop) (t5 : AV) : Hp → Prop := fun h =>
cf f_codec_Writer_Done [t5] h fun t38 h =>
vExtract 0 t38 h fun t39 h =>
vExtract 1 t38 h fun t40 h =>
K t39 h
noncomputable def s_oplog_writtenL1B (cf : CallK) (fuel : Nat) (e0 : Hp → Prop) (t5 : AV) (ih1 : AV → Hp → Prop) : AV → Hp → Prop := fun t3 h =>
vLenL2 t3 h fun t23 h =>
vGtr t23 (.int .i64 0) h fun t24 h =>
vIf t24 (
(fun (e2 : AV → Hp → Prop) =>
vLenL2 t3 h fun t26 h =>
vMin false t26 (.int .i64 65536) h fun t27 h =>
vSlice2 1 t3 none (some t27) h fun t31 h =>
cf f_codec_Writer_Bytes [t5, t31] h fun t32 h =>
vSlice2 1 t3 (some t27) none h fun t35 h =>
e2 t35 h) fun t3_3 h =>
ih1 t3_3 h) (
e0 h)
noncomputable def s_oplog_writtenL1 (cf : CallK) (fuel : Nat) (e0 : Hp → Prop) (t5 : AV) (m : Nat) : AV → Hp → Prop := Nat.rec (motive := fun _ => AV → Hp → Prop) (fun _ _ => False) (fun _ ih => s_oplog_writtenL1B cf fuel e0 t5 ih) m
theorem s_oplog_writtenL1_succ (cf : CallK) (fuel : Nat) (e0 : Hp → Prop) (t5 : AV) (m : Nat) : s_oplog_writtenL1 cf fuel e0 t5 (m + 1) = s_oplog_writtenL1B cf fuel e0 t5 (s_oplog_writtenL1 cf fuel e0 t5 m) := rfl
noncomputable def s_oplog_written (cf : CallK) (fuel : Nat) (t0 : AV) (h : Hp) (K : AV → Hp → Prop) : Prop :=
vBox 11 t0 h fun t1 h =>
vLoadA 11 t1 h fun t10 h =>
cf f_ops_Encode [t10] h fun t11 h =>
vExtract 0 t11 h fun t12 h =>
vExtract 1 t11 h fun t13 h =>
cf f_codec_NewWriter [] h fun t14 h =>
vLenL2 t12 h fun t17 h =>
vAdd t17 (.int .i64 65536) h fun t18 h =>
vArith Go.Am.subI t18 (.int .i64 1) h fun t19 h =>
vDiv false t19 (.int .i64 65536) h fun t20 h =>
cf f_codec_Writer_Num [t14, t20] h fun t21 h =>
(fun (e0 : Hp → Prop) =>
s_oplog_writtenL1 cf fuel (s_oplog_writtenE0 cf fuel K t14) t14 fuel t12 h) (s_oplog_writtenE0 cf fuel K t14)
theorem s_oplog_written_eq (cf : CallK) (fuel : Nat) (t0 : AV) (h : Hp) (K : AV → Hp → Prop) : s_oplog_written cf fuel t0 h K = deepT (tabOf Tryz.prog) f_oplog_written cf fuel [t0] h K :=
  Eq.trans (by kernel_rfl) (rFun (by kernel_rfl) (rSeq (by kernel_rfl) (rSeq (by kernel_rfl) (rSeq (by kernel_rfl) (rSeq (by kernel_rfl) (rSeq (by kernel_rfl) rExact (rBlock (by kernel_rfl) (rLoop (by kernel_rfl) (fun m1 fr h => s_oplog_writtenL1 cf fuel (s_oplog_writtenE0 cf fuel K (getS fr (gpos 5))) (getS fr (gpos 5)) m1 (getS fr (gpos 3)) h) (funext fun fr => funext fun h => by kernel_rfl) fun m1 => rCast (funext fun fr => funext fun h => by kernel_rfl) rExact))) rExact) rExact) rExact) rExact))

noncomputable def s_oplog_Log_keepE0 (cf : CallK) (fuel : Nat) (K : AV → Hp → Prop) (t0 : AV) (t2 : AV) : AV → Hp → Prop := fun t7 h =>
cf f_codec_NewWriter [] h fun t66 h =>
cf f_codec_Writer_Num [t66, t7] h fun t69 h =>
cf f_codec_Writer_Bytes [t66, t2] h fun t72 h =>
cf f_codec_Writer_Done [t66] h fun t75 h =>
vExtract 0 t75 h fun t76 h =>
vExtract 1 t75 h fun t77 h =>
vNilck t0 h fun t79 h =>
vFaddr 0 t79 h fun t80 h =>
vLoad2 t80 h fun t81 h =>
cf f_oplog_head [] h fun t82 h =>
vLoad2 t80 h fun c _ => gd (sameV c t81) (
cf f_localfs_FS_Replace [t81, t82, t76] h fun t84 h =>
vNeq t84 (.int .i64 0) h fun t86 h =>
vIf t86 (
K (.int .i64 5) h) (
cf f_bytes_Clone [t2] h fun t91 h =>
vNilck t0 h fun t92 h =>
vFaddr 69 t92 h fun t93 h =>
vStore 1 t93 t7 h fun _ h =>
vNilck t0 h fun t94 h =>
vFaddr 68 t94 h fun t95 h =>
vStore 1 t95 t91 h fun _ h =>
K (.int .i64 0) h))
noncomputable def s_oplog_Log_keepB5 (cf : CallK) (fuel : Nat) (K : AV → Hp → Prop) (ih1 : AV → AV → Hp → Prop) (t1 : AV) (t0 : AV) (t7 : AV) (h : Hp) : Prop :=
(fun (e2 : AV → AV → Hp → Prop) =>
vDiv false t7 (.int .i64 32768) h fun t25 h =>
vDiv true t7 (.int .i64 32768) h fun t27 h =>
vLenL2 t1 h fun t29 h =>
vArith Go.Am.subI (.int .i64 32768) t27 h fun t31 h =>
vMin false t29 t31 h fun t32 h =>
(fun (j3 : Hp → Prop) =>
vEql t27 (.int .i64 0) h fun t34 h =>
vIf t34 (
vNilck t0 h fun t36 h =>
vFaddr 0 t36 h fun t37 h =>
vLoad2 t37 h fun t38 h =>
vSlice2 1 t1 none (some t32) h fun t43 h =>
cf f_oplog_file [t25] h fun t40 h =>
vLoad2 t37 h fun c _ => gd (sameV c t38) (
cf f_localfs_FS_Replace [t38, t40, t43] h fun t44 h =>
vNeq t44 (.int .i64 0) h fun t46 h =>
vIf t46 (
K (.int .i64 5) h) (
j3 h))) (
vNilck t0 h fun t48 h =>
vFaddr 0 t48 h fun t49 h =>
vLoad2 t49 h fun t50 h =>
vSlice2 1 t1 none (some t32) h fun t56 h =>
cf f_oplog_file [t25] h fun t52 h =>
vLoad2 t49 h fun c _ => gd (sameV c t50) (
cf f_localfs_FS_Write [t50, t52, t27, t56] h fun t57 h =>
vNeq t57 (.int .i64 0) h fun t59 h =>
vIf t59 (
K (.int .i64 5) h) (
j3 h)))) fun h =>
vAdd t7 t32 h fun t62 h =>
vSlice2 1 t1 (some t32) none h fun t65 h =>
e2 t65 t62 h) fun t1_4 t7 h =>
ih1 t1_4 t7 h
noncomputable def s_oplog_Log_keepL1B (cf : CallK) (fuel : Nat) (K : AV → Hp → Prop) (e0 : AV → Hp → Prop) (t0 : AV) (t2 : AV) (ih1 : AV → AV → Hp → Prop) : AV → AV → Hp → Prop := fun t1 t7 h =>
vLenL2 t1 h fun t22 h =>
vGtr t22 (.int .i64 0) h fun t23 h =>
vIf t23 (
s_oplog_Log_keepB5 cf fuel K ih1 t1 t0 t7 h) (
e0 t7 h)
noncomputable def s_oplog_Log_keepL1 (cf : CallK) (fuel : Nat) (K : AV → Hp → Prop) (e0 : AV → Hp → Prop) (t0 : AV) (t2 : AV) (m : Nat) : AV → AV → Hp → Prop := Nat.rec (motive := fun _ => AV → AV → Hp → Prop) (fun _ _ _ => False) (fun _ ih => s_oplog_Log_keepL1B cf fuel K e0 t0 t2 ih) m
theorem s_oplog_Log_keepL1_succ (cf : CallK) (fuel : Nat) (K : AV → Hp → Prop) (e0 : AV → Hp → Prop) (t0 : AV) (t2 : AV) (m : Nat) : s_oplog_Log_keepL1 cf fuel K e0 t0 t2 (m + 1) = s_oplog_Log_keepL1B cf fuel K e0 t0 t2 (s_oplog_Log_keepL1 cf fuel K e0 t0 t2 m) := rfl
noncomputable def s_oplog_Log_keep (cf : CallK) (fuel : Nat) (t0 : AV) (t1 : AV) (t2 : AV) (h : Hp) (K : AV → Hp → Prop) : Prop :=
vNilck t0 h fun t18 h =>
vFaddr 69 t18 h fun t19 h =>
vLoad2 t19 h fun t20 h =>
(fun (e0 : AV → Hp → Prop) =>
s_oplog_Log_keepL1 cf fuel K (s_oplog_Log_keepE0 cf fuel K t0 t2) t0 t2 fuel t1 t20 h) (s_oplog_Log_keepE0 cf fuel K t0 t2)
theorem s_oplog_Log_keep_eq (cf : CallK) (fuel : Nat) (t0 : AV) (t1 : AV) (t2 : AV) (h : Hp) (K : AV → Hp → Prop) : s_oplog_Log_keep cf fuel t0 t1 t2 h K = deepT (tabOf Tryz.prog) f_oplog_Log_keep cf fuel [t0, t1, t2] h K :=
  Eq.trans (by kernel_rfl) (rFun (by kernel_rfl) (rSeq (by kernel_rfl) (rSeq (by kernel_rfl) (rSeq (by kernel_rfl) rExact (rBlock (by kernel_rfl) (rLoop (by kernel_rfl) (fun m1 fr h => s_oplog_Log_keepL1 cf fuel K (s_oplog_Log_keepE0 cf fuel K (getS fr (gpos 0)) (getS fr (gpos 2))) (getS fr (gpos 0)) (getS fr (gpos 2)) m1 (getS fr (gpos 1)) (getS fr (gpos 7)) h) (funext fun fr => funext fun h => by kernel_rfl) fun m1 => rCast (funext fun fr => funext fun h => by kernel_rfl) rExact))) rExact) rExact))

noncomputable def s_localfs_FS_ReadB9 (cf : CallK) (fuel : Nat) (K : AV → Hp → Prop) (t0 : AV) (t1 : AV) (t2 : AV) (t3 : AV) (h : Hp) : Prop :=
vLss t2 (.int .i64 0) h fun t18 h =>
joinG (fun g8 => grdV t18 false (vMov t3 h g8) (g8 undefV h)) fun t20 h =>
joinG (fun g7 => grdV t18 false (vLss t20 (.int .i64 0) h g7) (g7 undefV h)) fun t21 h =>
vPick t18 (.bool .true) t21 h fun t22 h =>
cf f_localfs_FS_filed [t0, t1, t22] h fun t23 h =>
vExtract 0 t23 h fun t24 h =>
vExtract 1 t23 h fun t25 h =>
vNeq t25 (.int .i64 0) h fun t27 h =>
joinG (fun g6 => grdV t27 false (vMov t2 h g6) (g6 undefV h)) fun t29 h =>
joinG (fun g5 => grdV t27 false (vMov t24 h g5) (g5 undefV h)) fun t30 h =>
joinG (fun g4 => grdV t27 false (vNilck t30 h g4) (g4 undefV h)) fun t31 h =>
joinG (fun g3 => grdV t27 false (vFaddr 1 t31 h g3) (g3 undefV h)) fun t32 h =>
joinG (fun g2 => grdV t27 false (vLoad2 t32 h g2) (g2 undefV h)) fun t33 h =>
joinG (fun g1 => grdV t27 false (vLenL2 t33 h g1) (g1 undefV h)) fun t34 h =>
joinG (fun g0 => grdV t27 false (vGeq t29 t34 h g0) (g0 undefV h)) fun t35 h =>
vPick t27 (.bool .true) t35 h fun t36 h =>
vIf t36 (
K (.tup [.nilslice, t25]) h) (
vNilck t24 h fun t39 h =>
vFaddr 1 t39 h fun t40 h =>
vLoad2 t40 h fun t41 h =>
vNilck t24 h fun t46 h =>
vFaddr 1 t46 h fun t47 h =>
vLoad2 t47 h fun t48 h =>
vLenL2 t48 h fun t49 h =>
vArith Go.Am.subI t49 t2 h fun t51 h =>
vMin false t3 t51 h fun t52 h =>
vAdd t2 t52 h fun t53 h =>
vSlice2 1 t41 (some t2) (some t53) h fun t54 h =>
cf f_bytes_Clone [t54] h fun t55 h =>
K (.tup [t55, (.int .i64 0)]) h)
noncomputable def s_localfs_FS_Read (cf : CallK) (fuel : Nat) (t0 : AV) (t1 : AV) (t2 : AV) (t3 : AV) (h : Hp) (K : AV → Hp → Prop) : Prop :=
vEq false eqP t0 .nilptr h fun t13 h =>
vIf t13 (
K (.tup [.nilslice, (.int .i64 5)]) h) (
s_localfs_FS_ReadB9 cf fuel K t0 t1 t2 t3 h)
theorem s_localfs_FS_Read_eq (cf : CallK) (fuel : Nat) (t0 : AV) (t1 : AV) (t2 : AV) (t3 : AV) (h : Hp) (K : AV → Hp → Prop) : s_localfs_FS_Read cf fuel t0 t1 t2 t3 h K = deepT (tabOf Tryz.prog) f_localfs_FS_Read cf fuel [t0, t1, t2, t3] h K :=
  Eq.trans (by kernel_rfl) (rFun (by kernel_rfl) rExact)

noncomputable def s_oplog_head (cf : CallK) (fuel : Nat) (h : Hp) (K : AV → Hp → Prop) : Prop :=
vBslice 1 1 false [(.str 0 0)] [(0, 1, (.str 4 1684104552))] h fun t1 h =>
K t1 h
theorem s_oplog_head_eq (cf : CallK) (fuel : Nat) (h : Hp) (K : AV → Hp → Prop) : s_oplog_head cf fuel h K = deepT (tabOf Tryz.prog) f_oplog_head cf fuel [] h K :=
  Eq.trans (by kernel_rfl) (rFun (by kernel_rfl) rExact)

noncomputable def s_codec_NewReader (cf : CallK) (fuel : Nat) (t0 : AV) (h : Hp) (K : AV → Hp → Prop) : Prop :=
cf f_bytes_Clone [t0] h fun t4 h =>
vBuild [.nilslice, (.bool .false)] [(0, 1, t4)] h fun t5 h =>
vBox 2 t5 h fun t6 h =>
K t6 h
theorem s_codec_NewReader_eq (cf : CallK) (fuel : Nat) (t0 : AV) (h : Hp) (K : AV → Hp → Prop) : s_codec_NewReader cf fuel t0 h K = deepT (tabOf Tryz.prog) f_codec_NewReader cf fuel [t0] h K :=
  Eq.trans (by kernel_rfl) (rFun (by kernel_rfl) rExact)

noncomputable def s_codec_Reader_NumE0 (cf : CallK) (fuel : Nat) (K : AV → Hp → Prop) (t0 : AV) : Hp → Prop := fun h =>
cf f_codec_Reader_fails [t0, (.bool .true)] h fun t67 h =>
K (.int .i64 0) h
noncomputable def s_codec_Reader_NumB3 (cf : CallK) (fuel : Nat) (K : AV → Hp → Prop) (e2 : AV → Hp → Prop) (t13 : AV) (t17 : AV) (t0 : AV) (t3 : AV) (h : Hp) : Prop :=
vBits Nat.land t17 (.int .u8 127) h fun t46 h =>
vToInt .i64 t46 h fun t47 h =>
vArith Go.Am.mulI (.int .i64 7) t13 h fun t49 h =>
vShl t47 t49 h fun t50 h =>
vBits Nat.lor t3 t50 h fun t51 h =>
vLss t17 (.int .u8 128) h fun t53 h =>
vIf t53 (
vNilck t0 h fun t56 h =>
vFaddr 0 t56 h fun t57 h =>
vLoad2 t57 h fun t58 h =>
vAdd t13 (.int .i64 1) h fun t60 h =>
vSlice2 1 t58 (some t60) none h fun t61 h =>
vNilck t0 h fun t62 h =>
vFaddr 0 t62 h fun t63 h =>
vStore 1 t63 t61 h fun _ h =>
K t51 h) (
e2 t51 h)
noncomputable def s_codec_Reader_NumB22 (cf : CallK) (fuel : Nat) (K : AV → Hp → Prop) (ih1 : AV → AV → Hp → Prop) (e0 : Hp → Prop) (t0 : AV) (t11 : AV) (t3 : AV) (t13 : AV) (h : Hp) : Prop :=
(fun (e2 : AV → Hp → Prop) =>
vIaddr 1 t11 t13 h fun t16 h =>
vLoad2 t16 h fun t17 h =>
vEql t13 (.int .i64 8) h fun t19 h =>
joinG (fun g21 => grdV t19 true (vMov t17 h g21) (g21 undefV h)) fun t21 h =>
joinG (fun g20 => grdV t19 true (vGtr t21 (.int .u8 64) h g20) (g20 undefV h)) fun t22 h =>
vPick t19 t22 (.bool .false) h fun t23 h =>
joinG (fun g19 => grdV t23 false (vMov t13 h g19) (g19 undefV h)) fun t25 h =>
joinG (fun g18 => grdV t23 false (vEql t25 (.int .i64 8) h g18) (g18 undefV h)) fun t26 h =>
joinG (fun g17 => grdV t23 false (vMov t26 h g17) (g17 undefV h)) fun t27 h =>
joinG (fun g16 => grdV t27 true (vMov t17 h g16) (g16 undefV h)) fun t28 h =>
joinG (fun g15 => grdV t27 true (vEql t28 (.int .u8 64) h g15) (g15 undefV h)) fun t29 h =>
joinG (fun g14 => grdV t23 false (vPick t27 t29 (.bool .false) h g14) (g14 undefV h)) fun t30 h =>
joinG (fun g13 => grdV t23 false (vMov t30 h g13) (g13 undefV h)) fun t31 h =>
joinG (fun g12 => grdV t31 true (vMov t3 h g12) (g12 undefV h)) fun t32 h =>
joinG (fun g11 => grdV t31 true (vGtr t32 (.int .i64 0) h g11) (g11 undefV h)) fun t33 h =>
joinG (fun g10 => grdV t23 false (vPick t31 t33 (.bool .false) h g10) (g10 undefV h)) fun t34 h =>
vPick t23 (.bool .true) t34 h fun t35 h =>
joinG (fun g9 => grdV t35 false (vMov t13 h g9) (g9 undefV h)) fun t37 h =>
joinG (fun g8 => grdV t35 false (vGtr t37 (.int .i64 0) h g8) (g8 undefV h)) fun t38 h =>
joinG (fun g7 => grdV t35 false (vMov t38 h g7) (g7 undefV h)) fun t39 h =>
joinG (fun g6 => grdV t39 true (vMov t17 h g6) (g6 undefV h)) fun t40 h =>
joinG (fun g5 => grdV t39 true (vEql t40 (.int .u8 0) h g5) (g5 undefV h)) fun t41 h =>
joinG (fun g4 => grdV t35 false (vPick t39 t41 (.bool .false) h g4) (g4 undefV h)) fun t42 h =>
vPick t35 (.bool .true) t42 h fun t43 h =>
vIf t43 (
e0 h) (
s_codec_Reader_NumB3 cf fuel K e2 t13 t17 t0 t3 h)) fun t3 h =>
vAdd t13 (.int .i64 1) h fun t65 h =>
ih1 t3 t65 h
noncomputable def s_codec_Reader_NumL1B (cf : CallK) (fuel : Nat) (K : AV → Hp → Prop) (e0 : Hp → Prop) (t0 : AV) (t11 : AV) (t12 : AV) (ih1 : AV → AV → Hp → Prop) : AV → AV → Hp → Prop := fun t3 t13 h =>
vLss t13 t12 h fun t14 h =>
vIf t14 (
s_codec_Reader_NumB22 cf fuel K ih1 e0 t0 t11 t3 t13 h) (
e0 h)
noncomputable def s_codec_Reader_NumL1 (cf : CallK) (fuel : Nat) (K : AV → Hp → Prop) (e0 : Hp → Prop) (t0 : AV) (t11 : AV) (t12 : AV) (m : Nat) : AV → AV → Hp → Prop := Nat.rec (motive := fun _ => AV → AV → Hp → Prop) (fun _ _ _ => False) (fun _ ih => s_codec_Reader_NumL1B cf fuel K e0 t0 t11 t12 ih) m
theorem s_codec_Reader_NumL1_succ (cf : CallK) (fuel : Nat) (K : AV → Hp → Prop) (e0 : Hp → Prop) (t0 : AV) (t11 : AV) (t12 : AV) (m : Nat) : s_codec_Reader_NumL1 cf fuel K e0 t0 t11 t12 (m + 1) = s_codec_Reader_NumL1B cf fuel K e0 t0 t11 t12 (s_codec_Reader_NumL1 cf fuel K e0 t0 t11 t12 m) := rfl
noncomputable def s_codec_Reader_Num (cf : CallK) (fuel : Nat) (t0 : AV) (h : Hp) (K : AV → Hp → Prop) : Prop :=
cf f_codec_Reader_fails [t0, (.bool .false)] h fun t7 h =>
vIf t7 (
K (.int .i64 0) h) (
vNilck t0 h fun t9 h =>
vFaddr 0 t9 h fun t10 h =>
vLoad2 t10 h fun t11 h =>
vLenL2 t11 h fun t12 h =>
(fun (e0 : Hp → Prop) =>
s_codec_Reader_NumL1 cf fuel K (s_codec_Reader_NumE0 cf fuel K t0) t0 t11 t12 fuel (.int .i64 0) (.int .i64 0) h) (s_codec_Reader_NumE0 cf fuel K t0))
theorem s_codec_Reader_Num_eq (cf : CallK) (fuel : Nat) (t0 : AV) (h : Hp) (K : AV → Hp → Prop) : s_codec_Reader_Num cf fuel t0 h K = deepT (tabOf Tryz.prog) f_codec_Reader_Num cf fuel [t0] h K :=
  Eq.trans (by kernel_rfl) (rFun (by kernel_rfl) (rSeq (by kernel_rfl) (rSeq (by kernel_rfl) (rSeq (by kernel_rfl) (rSeq (by kernel_rfl) rExact (rSeq (by kernel_rfl) (rBlock (by kernel_rfl) (rLoop (by kernel_rfl) (fun m1 fr h => s_codec_Reader_NumL1 cf fuel K (s_codec_Reader_NumE0 cf fuel K (getS fr (gpos 0))) (getS fr (gpos 0)) (getS fr (gpos 11)) (getS fr (gpos 12)) m1 (getS fr (gpos 3)) (getS fr (gpos 13)) h) (funext fun fr => funext fun h => by kernel_rfl) fun m1 => rCast (funext fun fr => funext fun h => by kernel_rfl) rExact)) rExact)) rExact) rExact) rExact))

noncomputable def s_codec_Reader_Bytes (cf : CallK) (fuel : Nat) (t0 : AV) (h : Hp) (K : AV → Hp → Prop) : Prop :=
cf f_codec_Reader_Num [t0] h fun t6 h =>
vGtr t6 (.int .i64 65536) h fun t9 h =>
joinG (fun g3 => grdV t9 false (vMov t6 h g3) (g3 undefV h)) fun t11 h =>
joinG (fun g2 => grdV t9 false (vMov t0 h g2) (g2 undefV h)) fun t12 h =>
joinG (fun g1 => grdV t9 false (cf f_codec_Reader_Left [t12] h g1) (g1 undefV h)) fun t13 h =>
joinG (fun g0 => grdV t9 false (vGtr t11 t13 h g0) (g0 undefV h)) fun t14 h =>
vPick t9 (.bool .true) t14 h fun t15 h =>
cf f_codec_Reader_fails [t0, t15] h fun t16 h =>
vIf t16 (
K .nilslice h) (
vNilck t0 h fun t18 h =>
vFaddr 0 t18 h fun t19 h =>
vLoad2 t19 h fun t20 h =>
vSlice2 1 t20 none (some t6) h fun t22 h =>
cf f_bytes_Clone [t22] h fun t23 h =>
vNilck t0 h fun t26 h =>
vFaddr 0 t26 h fun t27 h =>
vLoad2 t27 h fun t28 h =>
vSlice2 1 t28 (some t6) none h fun t30 h =>
vNilck t0 h fun t31 h =>
vFaddr 0 t31 h fun t32 h =>
vStore 1 t32 t30 h fun _ h =>
K t23 h)
theorem s_codec_Reader_Bytes_eq (cf : CallK) (fuel : Nat) (t0 : AV) (h : Hp) (K : AV → Hp → Prop) : s_codec_Reader_Bytes cf fuel t0 h K = deepT (tabOf Tryz.prog) f_codec_Reader_Bytes cf fuel [t0] h K :=
  Eq.trans (by kernel_rfl) (rFun (by kernel_rfl) rExact)

noncomputable def s_codec_Reader_Done (cf : CallK) (fuel : Nat) (t0 : AV) (h : Hp) (K : AV → Hp → Prop) : Prop :=
cf f_codec_Reader_Left [t0] h fun t4 h =>
vGtr t4 (.int .i64 0) h fun t5 h =>
vIf t5 (
K (.int .i64 74) h) (
cf f_codec_Reader_Err [t0] h fun t7 h =>
K t7 h)
theorem s_codec_Reader_Done_eq (cf : CallK) (fuel : Nat) (t0 : AV) (h : Hp) (K : AV → Hp → Prop) : s_codec_Reader_Done cf fuel t0 h K = deepT (tabOf Tryz.prog) f_codec_Reader_Done cf fuel [t0] h K :=
  Eq.trans (by kernel_rfl) (rFun (by kernel_rfl) rExact)

noncomputable def s_oplog_Log_loadE1 (cf : CallK) (fuel : Nat) (K : AV → Hp → Prop) (t7 : AV) : Hp → Prop := fun h =>
cf f_codec_Reader_Done [t7] h fun t85 h =>
K t85 h
noncomputable def s_oplog_Log_loadE3 (cf : CallK) (fuel : Nat) (ih2 : Hp → Prop) (t0 : AV) (t7 : AV) : Hp → Prop := fun h =>
ih2 h
noncomputable def s_oplog_Log_loadE4 (cf : CallK) (fuel : Nat) (K : AV → Hp → Prop) (e3 : Hp → Prop) (t0 : AV) (t7 : AV) : AV → Hp → Prop := fun t9 h =>
cf f_ops_Decode [t9] h fun t70 h =>
vExtract 0 t70 h fun t71 h =>
vExtract 1 t70 h fun t72 h =>
vBox 11 (.agg [(.int .i64 0), (.int .i64 0), (.int .i64 0), (.int .i64 0), (.int .i64 0), (.int .i64 0), (.int .i64 0), (.int .i64 0), (.str 0 0), .nilslice, .nilslice]) h fun t11 h =>
vStore 11 t11 t71 h fun _ h =>
vNeq t72 (.int .i64 0) h fun t74 h =>
joinG (fun g8 => grdV t74 false (vMov t0 h g8) (g8 undefV h)) fun t76 h =>
joinG (fun g7 => grdV t74 false (vLoadA 11 t11 h g7) (g7 undefV h)) fun t77 h =>
joinG (fun g6 => grdV t74 false (cf f_oplog_Log_takes [t76, t77] h g6) (g6 undefV h)) fun t78 h =>
joinG (fun g5 => grdV t74 false (vNot t78 h g5) (g5 undefV h)) fun t79 h =>
vPick t74 (.bool .true) t79 h fun t80 h =>
vIf t80 (
K (.int .i64 74) h) (
vLoadA 11 t11 h fun t82 h =>
cf f_oplog_Log_put [t0, t82] h fun t83 h =>
e3 h)
noncomputable def s_oplog_Log_loadL9B (cf : CallK) (fuel : Nat) (e4 : AV → Hp → Prop) (t0 : AV) (t7 : AV) (ih9 : AV → AV → Hp → Prop) : AV → AV → Hp → Prop := fun t8 t9 h =>
vGtr t8 (.int .i64 0) h fun t55 h =>
joinG (fun g14 => grdV t55 true (vMov t7 h g14) (g14 undefV h)) fun t57 h =>
joinG (fun g13 => grdV t55 true (cf f_codec_Reader_Left [t57] h g13) (g13 undefV h)) fun t58 h =>
joinG (fun g12 => grdV t55 true (vGtr t58 (.int .i64 0) h g12) (g12 undefV h)) fun t59 h =>
vPick t55 t59 (.bool .false) h fun t60 h =>
vIf t60 (
(fun (e10 : AV → AV → Hp → Prop) =>
cf f_codec_Reader_Bytes [t7] h fun t62 h =>
vAppend2 1 1 true t9 t62 h fun t65 h =>
vArith Go.Am.subI t8 (.int .i64 1) h fun t67 h =>
e10 t67 t65 h) fun t8_11 t9 h =>
ih9 t8_11 t9 h) (
e4 t9 h)
noncomputable def s_oplog_Log_loadL9 (cf : CallK) (fuel : Nat) (e4 : AV → Hp → Prop) (t0 : AV) (t7 : AV) (m : Nat) : AV → AV → Hp → Prop := Nat.rec (motive := fun _ => AV → AV → Hp → Prop) (fun _ _ _ => False) (fun _ ih => s_oplog_Log_loadL9B cf fuel e4 t0 t7 ih) m
theorem s_oplog_Log_loadL9_succ (cf : CallK) (fuel : Nat) (e4 : AV → Hp → Prop) (t0 : AV) (t7 : AV) (m : Nat) : s_oplog_Log_loadL9 cf fuel e4 t0 t7 (m + 1) = s_oplog_Log_loadL9B cf fuel e4 t0 t7 (s_oplog_Log_loadL9 cf fuel e4 t0 t7 m) := rfl
noncomputable def s_oplog_Log_loadL2B (cf : CallK) (fuel : Nat) (K : AV → Hp → Prop) (e1 : Hp → Prop) (t0 : AV) (t7 : AV) (ih2 : Hp → Prop) : Hp → Prop := fun h =>
cf f_codec_Reader_Left [t7] h fun t50 h =>
vGtr t50 (.int .i64 0) h fun t51 h =>
vIf t51 (
(fun (e3 : Hp → Prop) =>
cf f_codec_Reader_Num [t7] h fun t53 h =>
(fun (e4 : AV → Hp → Prop) =>
s_oplog_Log_loadL9 cf fuel (s_oplog_Log_loadE4 cf fuel K (s_oplog_Log_loadE3 cf fuel ih2 t0 t7) t0 t7) t0 t7 fuel t53 .nilslice h) (s_oplog_Log_loadE4 cf fuel K (s_oplog_Log_loadE3 cf fuel ih2 t0 t7) t0 t7)) (s_oplog_Log_loadE3 cf fuel ih2 t0 t7)) (
e1 h)
noncomputable def s_oplog_Log_loadL2 (cf : CallK) (fuel : Nat) (K : AV → Hp → Prop) (e1 : Hp → Prop) (t0 : AV) (t7 : AV) (m : Nat) : Hp → Prop := Nat.rec (motive := fun _ => Hp → Prop) (fun _ => False) (fun _ ih => s_oplog_Log_loadL2B cf fuel K e1 t0 t7 ih) m
theorem s_oplog_Log_loadL2_succ (cf : CallK) (fuel : Nat) (K : AV → Hp → Prop) (e1 : Hp → Prop) (t0 : AV) (t7 : AV) (m : Nat) : s_oplog_Log_loadL2 cf fuel K e1 t0 t7 (m + 1) = s_oplog_Log_loadL2B cf fuel K e1 t0 t7 (s_oplog_Log_loadL2 cf fuel K e1 t0 t7 m) := rfl
noncomputable def s_oplog_Log_loadE0 (cf : CallK) (fuel : Nat) (K : AV → Hp → Prop) (t0 : AV) : AV → Hp → Prop := fun t3 h =>
vNilck t0 h fun t44 h =>
vFaddr 69 t44 h fun t45 h =>
vLoad2 t45 h fun t46 h =>
vSlice2 1 t3 none (some t46) h fun t47 h =>
cf f_codec_NewReader [t47] h fun t48 h =>
(fun (e1 : Hp → Prop) =>
s_oplog_Log_loadL2 cf fuel K (s_oplog_Log_loadE1 cf fuel K t48) t0 t48 fuel h) (s_oplog_Log_loadE1 cf fuel K t48)
noncomputable def s_oplog_Log_loadB21 (cf : CallK) (fuel : Nat) (K : AV → Hp → Prop) (ih15 : AV → AV → Hp → Prop) (t0 : AV) (t3 : AV) (t4 : AV) (h : Hp) : Prop :=
(fun (e16 : AV → Hp → Prop) =>
vNilck t0 h fun t24 h =>
vFaddr 0 t24 h fun t25 h =>
vLoad2 t25 h fun t26 h =>
cf f_oplog_file [t4] h fun t28 h =>
vLoad2 t25 h fun c _ => gd (sameV c t26) (
cf f_localfs_FS_Read [t26, t28, (.int .i64 0), (.int .i64 32768)] h fun t29 h =>
vExtract 0 t29 h fun t30 h =>
vExtract 1 t29 h fun t31 h =>
vNeq t31 (.int .i64 0) h fun t33 h =>
joinG (fun g19 => grdV t33 false (vMov t30 h g19) (g19 undefV h)) fun t35 h =>
joinG (fun g18 => grdV t33 false (vLenL2 t35 h g18) (g18 undefV h)) fun t36 h =>
joinG (fun g17 => grdV t33 false (vEql t36 (.int .i64 0) h g17) (g17 undefV h)) fun t37 h =>
vPick t33 (.bool .true) t37 h fun t38 h =>
vIf t38 (
K (.int .i64 74) h) (
vAppend2 1 1 true t3 t30 h fun t41 h =>
e16 t41 h))) fun t3_20 h =>
vAdd t4 (.int .i64 1) h fun t21 h =>
ih15 t3_20 t21 h
noncomputable def s_oplog_Log_loadL15B (cf : CallK) (fuel : Nat) (K : AV → Hp → Prop) (e0 : AV → Hp → Prop) (t0 : AV) (ih15 : AV → AV → Hp → Prop) : AV → AV → Hp → Prop := fun t3 t4 h =>
vLenL2 t3 h fun t14 h =>
vNilck t0 h fun t16 h =>
vFaddr 69 t16 h fun t17 h =>
vLoad2 t17 h fun t18 h =>
vLss t14 t18 h fun t19 h =>
vIf t19 (
s_oplog_Log_loadB21 cf fuel K ih15 t0 t3 t4 h) (
e0 t3 h)
noncomputable def s_oplog_Log_loadL15 (cf : CallK) (fuel : Nat) (K : AV → Hp → Prop) (e0 : AV → Hp → Prop) (t0 : AV) (m : Nat) : AV → AV → Hp → Prop := Nat.rec (motive := fun _ => AV → AV → Hp → Prop) (fun _ _ _ => False) (fun _ ih => s_oplog_Log_loadL15B cf fuel K e0 t0 ih) m
theorem s_oplog_Log_loadL15_succ (cf : CallK) (fuel : Nat) (K : AV → Hp → Prop) (e0 : AV → Hp → Prop) (t0 : AV) (m : Nat) : s_oplog_Log_loadL15 cf fuel K e0 t0 (m + 1) = s_oplog_Log_loadL15B cf fuel K e0 t0 (s_oplog_Log_loadL15 cf fuel K e0 t0 m) := rfl
noncomputable def s_oplog_Log_load (cf : CallK) (fuel : Nat) (t0 : AV) (h : Hp) (K : AV → Hp → Prop) : Prop :=
(fun (e0 : AV → Hp → Prop) =>
s_oplog_Log_loadL15 cf fuel K (s_oplog_Log_loadE0 cf fuel K t0) t0 fuel .nilslice (.int .i64 0) h) (s_oplog_Log_loadE0 cf fuel K t0)
theorem s_oplog_Log_load_eq (cf : CallK) (fuel : Nat) (t0 : AV) (h : Hp) (K : AV → Hp → Prop) : s_oplog_Log_load cf fuel t0 h K = deepT (tabOf Tryz.prog) f_oplog_Log_load cf fuel [t0] h K :=
  Eq.trans (by kernel_rfl) (rFun (by kernel_rfl) (rSeq (by kernel_rfl) (rSeq (by kernel_rfl) (rSeq (by kernel_rfl) (rSeq (by kernel_rfl) (rSeq (by kernel_rfl) rExact (rBlock (by kernel_rfl) (rLoop (by kernel_rfl) (fun m2 fr h => s_oplog_Log_loadL2 cf fuel K (s_oplog_Log_loadE1 cf fuel K (getS fr (gpos 7))) (getS fr (gpos 0)) (getS fr (gpos 7)) m2 h) (funext fun fr => funext fun h => by kernel_rfl) fun m2 => rCast (funext fun fr => funext fun h => by kernel_rfl) (rSeq (by kernel_rfl) (rBlock (by kernel_rfl) (rSeq (by kernel_rfl) (rSeq (by kernel_rfl) (rSeq (by kernel_rfl) rExact (rBlock (by kernel_rfl) (rLoop (by kernel_rfl) (fun m9 fr h => s_oplog_Log_loadL9 cf fuel (s_oplog_Log_loadE4 cf fuel K (s_oplog_Log_loadE3 cf fuel (s_oplog_Log_loadL2 cf fuel K (s_oplog_Log_loadE1 cf fuel K (getS fr (gpos 7))) (getS fr (gpos 0)) (getS fr (gpos 7)) m2) (getS fr (gpos 0)) (getS fr (gpos 7))) (getS fr (gpos 0)) (getS fr (gpos 7))) (getS fr (gpos 0)) (getS fr (gpos 7)) m9 (getS fr (gpos 8)) (getS fr (gpos 9)) h) (funext fun fr => funext fun h => by kernel_rfl) fun m9 => rCast (funext fun fr => funext fun h => by kernel_rfl) rExact))) rExact) rExact)) rExact)))) rExact) (rSeq (by kernel_rfl) (rBlock (by kernel_rfl) (rLoop (by kernel_rfl) (fun m15 fr h => s_oplog_Log_loadL15 cf fuel K (s_oplog_Log_loadE0 cf fuel K (getS fr (gpos 0))) (getS fr (gpos 0)) m15 (getS fr (gpos 3)) (getS fr (gpos 4)) h) (funext fun fr => funext fun h => by kernel_rfl) fun m15 => rCast (funext fun fr => funext fun h => by kernel_rfl) rExact)) rExact)) rExact) rExact))

noncomputable def s_ops_Copy (cf : CallK) (fuel : Nat) (t0 : AV) (h : Hp) (K : AV → Hp → Prop) : Prop :=
vBox 11 t0 h fun t1 h =>
vBox 11 (.agg [(.int .i64 0), (.int .i64 0), (.int .i64 0), (.int .i64 0), (.int .i64 0), (.int .i64 0), (.int .i64 0), (.int .i64 0), (.str 0 0), .nilslice, .nilslice]) h fun t2 h =>
vFaddr 9 t1 h fun t3 h =>
vLoad2 t3 h fun t4 h =>
vFaddr 10 t1 h fun t6 h =>
vLoad2 t6 h fun t7 h =>
cf f_bytes_Clone [t4] h fun t5 h =>
vLoad2 t6 h fun c _ => gd (sameV c t7) (
vFaddr 9 t1 h fun t9 h =>
vAppend2 1 8 false .nilslice t7 h fun t8 h =>
vStore 1 t9 t5 h fun _ h =>
vFaddr 10 t1 h fun t10 h =>
vStore 1 t10 t8 h fun _ h =>
vLoadA 11 t1 h fun t11 h =>
vStore 11 t2 t11 h fun _ h =>
vLoadA 11 t2 h fun r0 _ => K r0 h)
theorem s_ops_Copy_eq (cf : CallK) (fuel : Nat) (t0 : AV) (h : Hp) (K : AV → Hp → Prop) : s_ops_Copy cf fuel t0 h K = deepT (tabOf Tryz.prog) f_ops_Copy cf fuel [t0] h K :=
  Eq.trans (by kernel_rfl) (rFun (by kernel_rfl) rExact)

noncomputable def s_lagoonlaw13_open (cf : CallK) (fuel : Nat) (t0 : AV) (t1 : AV) (h : Hp) (K : AV → Hp → Prop) : Prop :=
cf f_lagoonlaw11_Fresh [t0] h fun t12 h =>
vExtract 0 t12 h fun t13 h =>
vExtract 1 t12 h fun t14 h =>
vEq false eqP t14 .nilptr h fun t16 h =>
vIf t16 (
K (.tup [.nilptr, .nilptr]) h) (
cf f_oplog_Open [t14, t1] h fun t20 h =>
vExtract 0 t20 h fun t21 h =>
vExtract 1 t20 h fun t22 h =>
vNeq t22 (.int .i64 0) h fun t24 h =>
vIf t24 (
K (.tup [.nilptr, .nilptr]) h) (
K (.tup [t13, t21]) h))
theorem s_lagoonlaw13_open_eq (cf : CallK) (fuel : Nat) (t0 : AV) (t1 : AV) (h : Hp) (K : AV → Hp → Prop) : s_lagoonlaw13_open cf fuel t0 t1 h K = deepT (tabOf Tryz.prog) f_lagoonlaw13_open cf fuel [t0, t1] h K :=
  Eq.trans (by kernel_rfl) (rFun (by kernel_rfl) rExact)

noncomputable def s_lagoonlaw13_again (cf : CallK) (fuel : Nat) (t0 : AV) (t1 : AV) (h : Hp) (K : AV → Hp → Prop) : Prop :=
cf f_localfs_Mount [t0] h fun t11 h =>
vExtract 0 t11 h fun t12 h =>
vExtract 1 t11 h fun t13 h =>
vNeq t13 (.int .i64 0) h fun t15 h =>
vIf t15 (
K .nilptr h) (
cf f_oplog_Open [t12, t1] h fun t19 h =>
vExtract 0 t19 h fun t20 h =>
vExtract 1 t19 h fun t21 h =>
vNeq t21 (.int .i64 0) h fun t23 h =>
vIf t23 (
K .nilptr h) (
K t20 h))
theorem s_lagoonlaw13_again_eq (cf : CallK) (fuel : Nat) (t0 : AV) (t1 : AV) (h : Hp) (K : AV → Hp → Prop) : s_lagoonlaw13_again cf fuel t0 t1 h K = deepT (tabOf Tryz.prog) f_lagoonlaw13_again cf fuel [t0, t1] h K :=
  Eq.trans (by kernel_rfl) (rFun (by kernel_rfl) rExact)

noncomputable def s_device_Device_CrashE0 (cf : CallK) (fuel : Nat) (K : AV → Hp → Prop) (t5 : AV) : Hp → Prop := fun h =>
K t5 h
noncomputable def s_device_Device_CrashB9 (cf : CallK) (fuel : Nat) (ih1 : AV → Hp → Prop) (t1 : AV) (t5 : AV) (t20 : AV) (t22 : AV) (h : Hp) : Prop :=
(fun (e2 : Hp → Prop) =>
vIaddr 3 t20 t22 h fun t25 h =>
vLoadA 3 t25 h fun t26 h =>
vBox 3 (.agg [.nilslice, .nilslice, (.bool .false)]) h fun t7 h =>
vStore 3 t7 t26 h fun _ h =>
vFaddr 1 t7 h fun t27 h =>
vLoad2 t27 h fun t28 h =>
(fun (j3 : AV → Hp → Prop) =>
vFaddr 2 t7 h fun t29 h =>
vLoad2 t29 h fun t30 h =>
joinG (fun g8 => grdV t30 true (vMov t1 h g8) (g8 undefV h)) fun t32 h =>
joinG (fun g7 => grdV t30 true (vEq true eqNF t32 .nilfunc h g7) (g7 undefV h)) fun t33 h =>
vPick t30 t33 (.bool .false) h fun t34 h =>
joinG (fun g6 => grdV t34 true (vMov t1 h g6) (g6 undefV h)) fun t36 h =>
joinG (fun g5 => grdV t34 true (vMov t22 h g5) (g5 undefV h)) fun t37 h =>
joinG (fun g4 => grdV t34 true (vCallV t36 [t37] cf h g4) (g4 undefV h)) fun t38 h =>
vPick t34 t38 (.bool .false) h fun t39 h =>
vIf t39 (
vFaddr 0 t7 h fun t40 h =>
vLoad2 t40 h fun t41 h =>
j3 t41 h) (
j3 t28 h)) fun t8 h =>
vNilck t5 h fun t43 h =>
vFaddr 0 t43 h fun t44 h =>
vLoad2 t44 h fun t45 h =>
vBuild [.nilslice, .nilslice, (.bool .false)] [(0, 1, t8), (1, 1, t8)] h fun t49 h =>
vIaddr 3 t45 t22 h fun t50 h =>
vStore 3 t50 t49 h fun _ h =>
e2 h) fun h =>
vAdd t22 (.int .i64 1) h fun t51 h =>
ih1 t51 h
noncomputable def s_device_Device_CrashL1B (cf : CallK) (fuel : Nat) (e0 : Hp → Prop) (t1 : AV) (t5 : AV) (t20 : AV) (t21 : AV) (ih1 : AV → Hp → Prop) : AV → Hp → Prop := fun t22 h =>
vLss t22 t21 h fun t23 h =>
vIf t23 (
s_device_Device_CrashB9 cf fuel ih1 t1 t5 t20 t22 h) (
e0 h)
noncomputable def s_device_Device_CrashL1 (cf : CallK) (fuel : Nat) (e0 : Hp → Prop) (t1 : AV) (t5 : AV) (t20 : AV) (t21 : AV) (m : Nat) : AV → Hp → Prop := Nat.rec (motive := fun _ => AV → Hp → Prop) (fun _ _ => False) (fun _ ih => s_device_Device_CrashL1B cf fuel e0 t1 t5 t20 t21 ih) m
theorem s_device_Device_CrashL1_succ (cf : CallK) (fuel : Nat) (e0 : Hp → Prop) (t1 : AV) (t5 : AV) (t20 : AV) (t21 : AV) (m : Nat) : s_device_Device_CrashL1 cf fuel e0 t1 t5 t20 t21 (m + 1) = s_device_Device_CrashL1B cf fuel e0 t1 t5 t20 t21 (s_device_Device_CrashL1 cf fuel e0 t1 t5 t20 t21 m) := rfl
noncomputable def s_device_Device_Crash (cf : CallK) (fuel : Nat) (t0 : AV) (t1 : AV) (h : Hp) (K : AV → Hp → Prop) : Prop :=
vEq false eqP t0 .nilptr h fun t10 h =>
vIf t10 (
K .nilptr h) (
vNilck t0 h fun t12 h =>
vFaddr 0 t12 h fun t13 h =>
vLoad2 t13 h fun t14 h =>
vLenL2 t14 h fun t15 h =>
cf f_device_New [t15] h fun t16 h =>
vNilck t0 h fun t18 h =>
vFaddr 0 t18 h fun t19 h =>
vLoad2 t19 h fun t20 h =>
vLenL2 t20 h fun t21 h =>
(fun (e0 : Hp → Prop) =>
s_device_Device_CrashL1 cf fuel (s_device_Device_CrashE0 cf fuel K t16) t1 t16 t20 t21 fuel (.int .i64 0) h) (s_device_Device_CrashE0 cf fuel K t16))
theorem s_device_Device_Crash_eq (cf : CallK) (fuel : Nat) (t0 : AV) (t1 : AV) (h : Hp) (K : AV → Hp → Prop) : s_device_Device_Crash cf fuel t0 t1 h K = deepT (tabOf Tryz.prog) f_device_Device_Crash cf fuel [t0, t1] h K :=
  Eq.trans (by kernel_rfl) (rFun (by kernel_rfl) (rSeq (by kernel_rfl) (rSeq (by kernel_rfl) (rSeq (by kernel_rfl) (rSeq (by kernel_rfl) rExact (rSeq (by kernel_rfl) (rBlock (by kernel_rfl) (rLoop (by kernel_rfl) (fun m1 fr h => s_device_Device_CrashL1 cf fuel (s_device_Device_CrashE0 cf fuel K (getS fr (gpos 5))) (getS fr (gpos 1)) (getS fr (gpos 5)) (getS fr (gpos 20)) (getS fr (gpos 21)) m1 (getS fr (gpos 22)) h) (funext fun fr => funext fun h => by kernel_rfl) fun m1 => rCast (funext fun fr => funext fun h => by kernel_rfl) rExact)) rExact)) rExact) rExact) rExact))

noncomputable def s_lagoonref12_Eq (cf : CallK) (fuel : Nat) (t0 : AV) (t1 : AV) (h : Hp) (K : AV → Hp → Prop) : Prop :=
vBox 11 t0 h fun t2 h =>
vBox 11 t1 h fun t3 h =>
vFaddr 0 t2 h fun t5 h =>
vLoadA 2 t5 h fun t6 h =>
vFaddr 0 t3 h fun t7 h =>
vLoadA 2 t7 h fun t8 h =>
cf f_lagoonref4_Same [t6, t8] h fun t9 h =>
joinG (fun g36 => grdV t9 true (vFaddr 2 t2 h g36) (g36 undefV h)) fun t11 h =>
joinG (fun g35 => grdV t9 true (vLoad2 t11 h g35) (g35 undefV h)) fun t12 h =>
joinG (fun g34 => grdV t9 true (vFaddr 2 t3 h g34) (g34 undefV h)) fun t13 h =>
joinG (fun g33 => grdV t9 true (vLoad2 t13 h g33) (g33 undefV h)) fun t14 h =>
joinG (fun g32 => grdV t9 true (vEql t12 t14 h g32) (g32 undefV h)) fun t15 h =>
vPick t9 t15 (.bool .false) h fun t16 h =>
joinG (fun g31 => grdV t16 true (vFaddr 3 t2 h g31) (g31 undefV h)) fun t18 h =>
joinG (fun g30 => grdV t16 true (vLoad2 t18 h g30) (g30 undefV h)) fun t19 h =>
joinG (fun g29 => grdV t16 true (vFaddr 3 t3 h g29) (g29 undefV h)) fun t20 h =>
joinG (fun g28 => grdV t16 true (vLoad2 t20 h g28) (g28 undefV h)) fun t21 h =>
joinG (fun g27 => grdV t16 true (vEql t19 t21 h g27) (g27 undefV h)) fun t22 h =>
vPick t16 t22 (.bool .false) h fun t23 h =>
joinG (fun g26 => grdV t23 true (vFaddr 4 t2 h g26) (g26 undefV h)) fun t25 h =>
joinG (fun g25 => grdV t23 true (vLoadA 2 t25 h g25) (g25 undefV h)) fun t26 h =>
joinG (fun g24 => grdV t23 true (vFaddr 4 t3 h g24) (g24 undefV h)) fun t27 h =>
joinG (fun g23 => grdV t23 true (vLoadA 2 t27 h g23) (g23 undefV h)) fun t28 h =>
joinG (fun g22 => grdV t23 true (cf f_lagoonref4_Same [t26, t28] h g22) (g22 undefV h)) fun t29 h =>
vPick t23 t29 (.bool .false) h fun t30 h =>
joinG (fun g21 => grdV t30 true (vFaddr 6 t2 h g21) (g21 undefV h)) fun t32 h =>
joinG (fun g20 => grdV t30 true (vLoadA 2 t32 h g20) (g20 undefV h)) fun t33 h =>
joinG (fun g19 => grdV t30 true (vFaddr 6 t3 h g19) (g19 undefV h)) fun t34 h =>
joinG (fun g18 => grdV t30 true (vLoadA 2 t34 h g18) (g18 undefV h)) fun t35 h =>
joinG (fun g17 => grdV t30 true (cf f_lagoonref4_Same [t33, t35] h g17) (g17 undefV h)) fun t36 h =>
vPick t30 t36 (.bool .false) h fun t37 h =>
joinG (fun g16 => grdV t37 true (vFaddr 8 t2 h g16) (g16 undefV h)) fun t39 h =>
joinG (fun g15 => grdV t37 true (vLoad2 t39 h g15) (g15 undefV h)) fun t40 h =>
joinG (fun g14 => grdV t37 true (vFaddr 8 t3 h g14) (g14 undefV h)) fun t41 h =>
joinG (fun g13 => grdV t37 true (vLoad2 t41 h g13) (g13 undefV h)) fun t42 h =>
joinG (fun g12 => grdV t37 true (vEql t40 t42 h g12) (g12 undefV h)) fun t43 h =>
vPick t37 t43 (.bool .false) h fun t44 h =>
joinG (fun g11 => grdV t44 true (vFaddr 9 t2 h g11) (g11 undefV h)) fun t46 h =>
joinG (fun g10 => grdV t44 true (vLoad2 t46 h g10) (g10 undefV h)) fun t47 h =>
joinG (fun g9 => grdV t44 true (vToStr t47 h g9) (g9 undefV h)) fun t48 h =>
joinG (fun g8 => grdV t44 true (vFaddr 9 t3 h g8) (g8 undefV h)) fun t49 h =>
joinG (fun g7 => grdV t44 true (vLoad2 t49 h g7) (g7 undefV h)) fun t50 h =>
joinG (fun g6 => grdV t44 true (vToStr t50 h g6) (g6 undefV h)) fun t51 h =>
joinG (fun g5 => grdV t44 true (vEql t48 t51 h g5) (g5 undefV h)) fun t52 h =>
vPick t44 t52 (.bool .false) h fun t53 h =>
joinG (fun g4 => grdV t53 true (vFaddr 10 t2 h g4) (g4 undefV h)) fun t55 h =>
joinG (fun g3 => grdV t53 true (vLoad2 t55 h g3) (g3 undefV h)) fun t56 h =>
joinG (fun g2 => grdV t53 true (vFaddr 10 t3 h g2) (g2 undefV h)) fun t57 h =>
joinG (fun g1 => grdV t53 true (vLoad2 t57 h g1) (g1 undefV h)) fun t58 h =>
joinG (fun g0 => grdV t53 true (cf f_lagoonref4_Eq [t56, t58] h g0) (g0 undefV h)) fun t59 h =>
vPick t53 t59 (.bool .false) h fun t60 h =>
K t60 h
theorem s_lagoonref12_Eq_eq (cf : CallK) (fuel : Nat) (t0 : AV) (t1 : AV) (h : Hp) (K : AV → Hp → Prop) : s_lagoonref12_Eq cf fuel t0 t1 h K = deepT (tabOf Tryz.prog) f_lagoonref12_Eq cf fuel [t0, t1] h K :=
  Eq.trans (by kernel_rfl) (rFun (by kernel_rfl) rExact)

noncomputable def s_lagoonref12_Cost (cf : CallK) (fuel : Nat) (t0 : AV) (h : Hp) (K : AV → Hp → Prop) : Prop :=
vBox 11 t0 h fun t1 h =>
vLoadA 11 t1 h fun t3 h =>
cf f_lagoonref12_Encode [t3] h fun t4 h =>
vLenL2 t4 h fun t5 h =>
vAdd t5 (.int .i64 16) h fun t6 h =>
K t6 h
theorem s_lagoonref12_Cost_eq (cf : CallK) (fuel : Nat) (t0 : AV) (h : Hp) (K : AV → Hp → Prop) : s_lagoonref12_Cost cf fuel t0 h K = deepT (tabOf Tryz.prog) f_lagoonref12_Cost cf fuel [t0] h K :=
  Eq.trans (by kernel_rfl) (rFun (by kernel_rfl) rExact)

noncomputable def s_vector_Norm (cf : CallK) (fuel : Nat) (t0 : AV) (h : Hp) (K : AV → Hp → Prop) : Prop :=
vFunc 62 [t0] [] h fun t4 h =>
cf f_vector_made [t4] h fun t5 h =>
K t5 h
theorem s_vector_Norm_eq (cf : CallK) (fuel : Nat) (t0 : AV) (h : Hp) (K : AV → Hp → Prop) : s_vector_Norm cf fuel t0 h K = deepT (tabOf Tryz.prog) f_vector_Norm cf fuel [t0] h K :=
  Eq.trans (by kernel_rfl) (rFun (by kernel_rfl) rExact)

noncomputable def s_vector_At (cf : CallK) (fuel : Nat) (t0 : AV) (t1 : AV) (h : Hp) (K : AV → Hp → Prop) : Prop :=
vLss t1 (.int .i64 0) h fun t6 h =>
joinG (fun g14 => grdV t6 false (vMov t1 h g14) (g14 undefV h)) fun t8 h =>
joinG (fun g13 => grdV t6 false (vMov t0 h g13) (g13 undefV h)) fun t9 h =>
joinG (fun g12 => grdV t6 false (vLenL2 t9 h g12) (g12 undefV h)) fun t10 h =>
joinG (fun g11 => grdV t6 false (vMin false t10 (.int .i64 64) h g11) (g11 undefV h)) fun t11 h =>
joinG (fun g10 => grdV t6 false (vGeq t8 t11 h g10) (g10 undefV h)) fun t12 h =>
vPick t6 (.bool .true) t12 h fun t13 h =>
joinG (fun g9 => grdV t13 false (vMov t0 h g9) (g9 undefV h)) fun t15 h =>
joinG (fun g8 => grdV t13 false (vMov t1 h g8) (g8 undefV h)) fun t16 h =>
joinG (fun g7 => grdV t13 false (vIaddr 1 t15 t16 h g7) (g7 undefV h)) fun t17 h =>
joinG (fun g6 => grdV t13 false (vLoad2 t17 h g6) (g6 undefV h)) fun t18 h =>
joinG (fun g5 => grdV t13 false (vLss t18 (.int .i64 0) h g5) (g5 undefV h)) fun t19 h =>
vPick t13 (.bool .true) t19 h fun t20 h =>
joinG (fun g4 => grdV t20 false (vMov t0 h g4) (g4 undefV h)) fun t22 h =>
joinG (fun g3 => grdV t20 false (vMov t1 h g3) (g3 undefV h)) fun t23 h =>
joinG (fun g2 => grdV t20 false (vIaddr 1 t22 t23 h g2) (g2 undefV h)) fun t24 h =>
joinG (fun g1 => grdV t20 false (vLoad2 t24 h g1) (g1 undefV h)) fun t25 h =>
joinG (fun g0 => grdV t20 false (vGtr t25 (.int .i64 1152921504606846976) h g0) (g0 undefV h)) fun t26 h =>
vPick t20 (.bool .true) t26 h fun t27 h =>
vIf t27 (
K (.int .i64 0) h) (
vIaddr 1 t0 t1 h fun t30 h =>
vLoad2 t30 h fun t31 h =>
K t31 h)
theorem s_vector_At_eq (cf : CallK) (fuel : Nat) (t0 : AV) (t1 : AV) (h : Hp) (K : AV → Hp → Prop) : s_vector_At cf fuel t0 t1 h K = deepT (tabOf Tryz.prog) f_vector_At cf fuel [t0, t1] h K :=
  Eq.trans (by kernel_rfl) (rFun (by kernel_rfl) rExact)


end Go.Proofs.YtbefkepinpollaaGreatDoor.sh0
