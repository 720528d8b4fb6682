/- The Go functions' code as the abstract machine's, over values; each is the code that the machine makes of the program's (theorems s_.._eq). No condition. -/
import Derived.Test.YtbefkepinpollaaGreatDoorAmLoop
import Derived.Test.YtbefkepinpollaaGreatDoorProg
import Derived.KernelRfl
namespace Go.Proofs.YtbefkepinpollaaGreatDoor.sh1
open Go Go.Am Go.Proofs
set_option linter.unusedVariables false
set_option maxRecDepth 100000
abbrev f_bytes_Clone : Nat := 49
abbrev f_bytes_CutPrefix : Nat := 94
abbrev f_clock_Cmp : Nat := 73
abbrev f_clock_Less : Nat := 39
abbrev f_clock_Valid : Nat := 66
abbrev f_codec_NewReader : Nat := 20
abbrev f_codec_NewWriter : Nat := 42
abbrev f_codec_Reader_Bytes : Nat := 22
abbrev f_codec_Reader_Done : Nat := 23
abbrev f_codec_Reader_Err : Nat := 53
abbrev f_codec_Reader_ID : Nat := 84
abbrev f_codec_Reader_Left : Nat := 52
abbrev f_codec_Reader_Num : Nat := 21
abbrev f_codec_Reader_Text : Nat := 85
abbrev f_codec_Reader_Vector : Nat := 86
abbrev f_codec_Reader_fails : Nat := 51
abbrev f_codec_Writer_Bytes : Nat := 44
abbrev f_codec_Writer_Done : Nat := 45
abbrev f_codec_Writer_ID : Nat := 74
abbrev f_codec_Writer_Num : Nat := 43
abbrev f_codec_Writer_Text : Nat := 75
abbrev f_codec_Writer_Vector : Nat := 76
abbrev f_codec_Writer_may : Nat := 78
abbrev f_container_heap_Pop : Nat := 35
abbrev f_container_heap_Push : Nat := 33
abbrev f_container_heap_down : Nat := 64
abbrev f_container_heap_up : Nat := 63
abbrev f_device_Device_Blocks : Nat := 91
abbrev f_device_New : Nat := 57
abbrev f_lagoonlaw11_Fresh : Nat := 55
abbrev f_lagoonref12_Encode : Nat := 60
abbrev f_lagoonref12_May : Nat := 97
abbrev f_lagoonref3_Bytes : Nat := 100
abbrev f_lagoonref3_ID : Nat := 99
abbrev f_lagoonref3_Num : Nat := 98
abbrev f_lagoonref3_Vector : Nat := 101
abbrev f_lagoonref4_Eq : Nat := 59
abbrev f_lagoonref4_Leq : Nat := 96
abbrev f_lagoonref4_Same : Nat := 58
abbrev f_localfs_Capacity : Nat := 90
abbrev f_localfs_FS_Replace : Nat := 46
abbrev f_localfs_FS_Sync : Nat := 36
abbrev f_localfs_FS_Write : Nat := 48
abbrev f_localfs_FS_change : Nat := 79
abbrev f_localfs_FS_filed : Nat := 50
abbrev f_localfs_FS_walk : Nat := 83
abbrev f_localfs_Mkfs : Nat := 87
abbrev f_localfs_Mount : Nat := 56
abbrev f_localfs_may : Nat := 88
abbrev f_localfs_read : Nat := 95
abbrev f_oplog_file : Nat := 47
abbrev f_oplog_rests_Len : Nat := 34
abbrev f_ops_Decode : Nat := 54
abbrev f_ops_Encode : Nat := 40
abbrev f_ops_May : Nat := 37
abbrev f_ops_Name : Nat := 68
abbrev f_ops_Root : Nat := 69
abbrev f_ops_Trash : Nat := 71
abbrev f_ops_earlier : Nat := 70
abbrev f_ops_seen : Nat := 67
abbrev f_strconv_FormatInt : Nat := 81
abbrev f_vector_Ahead : Nat := 72
abbrev f_vector_At : Nat := 32
abbrev f_vector_Leq : Nat := 38
abbrev f_vector_Norm : Nat := 31
abbrev f_vector_With : Nat := 41
abbrev f_vector_made : Nat := 61
abbrev f_vector_numbers_at : Nat := 62
abbrev f_wal_Mount : Nat := 89
abbrev f_wal_Volume_Blocks : Nat := 92
abbrev f_wal_Volume_Read : Nat := 93
abbrev f_wal_Volume_Sync : Nat := 65

noncomputable def s_container_heap_Push (cf : CallK) (fuel : Nat) (t0 : AV) (t1 : AV) (h : Hp) (K : AV → Hp → Prop) : Prop :=
vCallM t0 (selOf Tryz.prog "Push") [t1] cf h fun t6 h =>
vCallM t0 (selOf Tryz.prog "Len") [] cf h fun t9 h =>
vArith Go.Am.subI t9 (.int .i64 1) h fun t10 h =>
cf f_container_heap_up [t0, t10] h fun t11 h =>
K (.tup []) h
theorem s_container_heap_Push_eq (cf : CallK) (fuel : Nat) (t0 : AV) (t1 : AV) (h : Hp) (K : AV → Hp → Prop) : s_container_heap_Push cf fuel t0 t1 h K = deepT (tabOf Tryz.prog) f_container_heap_Push cf fuel [t0, t1] h K :=
  Eq.trans (by kernel_rfl) (rFun (by kernel_rfl) rExact)

noncomputable def s_oplog_rests_Len (cf : CallK) (fuel : Nat) (t0 : AV) (h : Hp) (K : AV → Hp → Prop) : Prop :=
vLenL2 t0 h fun t4 h =>
K t4 h
theorem s_oplog_rests_Len_eq (cf : CallK) (fuel : Nat) (t0 : AV) (h : Hp) (K : AV → Hp → Prop) : s_oplog_rests_Len cf fuel t0 h K = deepT (tabOf Tryz.prog) f_oplog_rests_Len cf fuel [t0] h K :=
  Eq.trans (by kernel_rfl) (rFun (by kernel_rfl) rExact)

noncomputable def s_container_heap_Pop (cf : CallK) (fuel : Nat) (t0 : AV) (h : Hp) (K : AV → Hp → Prop) : Prop :=
vCallM t0 (selOf Tryz.prog "Len") [] cf h fun t5 h =>
vArith Go.Am.subI t5 (.int .i64 1) h fun t6 h =>
vCallM t0 (selOf Tryz.prog "Swap") [(.int .i64 0), t6] cf h fun t9 h =>
cf f_container_heap_down [t0, (.int .i64 0), t6] h fun t12 h =>
vCallM t0 (selOf Tryz.prog "Pop") [] cf h fun t14 h =>
K t14 h
theorem s_container_heap_Pop_eq (cf : CallK) (fuel : Nat) (t0 : AV) (h : Hp) (K : AV → Hp → Prop) : s_container_heap_Pop cf fuel t0 h K = deepT (tabOf Tryz.prog) f_container_heap_Pop cf fuel [t0] h K :=
  Eq.trans (by kernel_rfl) (rFun (by kernel_rfl) rExact)

noncomputable def s_localfs_FS_Sync (cf : CallK) (fuel : Nat) (t0 : AV) (h : Hp) (K : AV → Hp → Prop) : Prop :=
vEq false eqP t0 .nilptr h fun t4 h =>
vIf t4 (
K (.int .i64 5) h) (
vNilck t0 h fun t6 h =>
vFaddr 0 t6 h fun t7 h =>
vLoad2 t7 h fun t8 h =>
cf f_wal_Volume_Sync [t8] h fun t9 h =>
K t9 h)
theorem s_localfs_FS_Sync_eq (cf : CallK) (fuel : Nat) (t0 : AV) (h : Hp) (K : AV → Hp → Prop) : s_localfs_FS_Sync cf fuel t0 h K = deepT (tabOf Tryz.prog) f_localfs_FS_Sync cf fuel [t0] h K :=
  Eq.trans (by kernel_rfl) (rFun (by kernel_rfl) rExact)

noncomputable def s_ops_MayB24 (cf : CallK) (fuel : Nat) (K : AV → Hp → Prop) (t1 : AV) (h : Hp) : Prop :=
vFaddr 4 t1 h fun t80 h =>
vLoadA 2 t80 h fun t81 h =>
vLoadA 11 t1 h fun t82 h =>
cf f_ops_earlier [t81, t82] h fun t83 h =>
joinG (fun g23 => grdV t83 true (vFaddr 6 t1 h g23) (g23 undefV h)) fun t85 h =>
joinG (fun g22 => grdV t83 true (vLoadA 2 t85 h g22) (g22 undefV h)) fun t86 h =>
joinG (fun g21 => grdV t83 true (vBuild [(.int .i64 0), (.int .i64 0)] [] h g21) (g21 undefV h)) fun t87 h =>
joinG (fun g20 => grdV t83 true (vEq false eqPairS t86 t87 h g20) (g20 undefV h)) fun t88 h =>
vPick t83 t88 (.bool .false) h fun t89 h =>
joinG (fun g19 => grdV t89 true (vFaddr 8 t1 h g19) (g19 undefV h)) fun t91 h =>
joinG (fun g18 => grdV t89 true (vLoad2 t91 h g18) (g18 undefV h)) fun t92 h =>
joinG (fun g17 => grdV t89 true (vEql t92 (.str 0 0) h g17) (g17 undefV h)) fun t93 h =>
vPick t89 t93 (.bool .false) h fun t94 h =>
joinG (fun g16 => grdV t94 true (vFaddr 9 t1 h g16) (g16 undefV h)) fun t96 h =>
joinG (fun g15 => grdV t94 true (vLoad2 t96 h g15) (g15 undefV h)) fun t97 h =>
joinG (fun g14 => grdV t94 true (vLenL2 t97 h g14) (g14 undefV h)) fun t98 h =>
joinG (fun g13 => grdV t94 true (vLeq t98 (.int .i64 65536) h g13) (g13 undefV h)) fun t99 h =>
vPick t94 t99 (.bool .false) h fun t100 h =>
K t100 h
noncomputable def s_ops_MayB25 (cf : CallK) (fuel : Nat) (K : AV → Hp → Prop) (t43 : AV) (t33 : AV) (t1 : AV) (h : Hp) : Prop :=
vFaddr 4 t1 h fun t62 h =>
vLoadA 2 t62 h fun t63 h =>
vLoadA 11 t1 h fun t64 h =>
cf f_ops_earlier [t63, t64] h fun t65 h =>
joinG (fun g12 => grdV t65 true (vMov t43 h g12) (g12 undefV h)) fun t67 h =>
joinG (fun g11 => grdV t65 true (vMov t67 h g11) (g11 undefV h)) fun t68 h =>
joinG (fun g10 => grdV t68 false (vFaddr 6 t1 h g10) (g10 undefV h)) fun t69 h =>
joinG (fun g9 => grdV t68 false (vLoadA 2 t69 h g9) (g9 undefV h)) fun t70 h =>
joinG (fun g8 => grdV t68 false (cf f_ops_Trash [] h g8) (g8 undefV h)) fun t71 h =>
joinP (fun g7 => grdV t68 false (vLoadA 2 t69 h fun c _ => gd (sameV c t70) g7) g7) (
joinG (fun g6 => grdV t68 false (vEq false eqPairS t70 t71 h g6) (g6 undefV h)) fun t72 h =>
joinG (fun g5 => grdV t65 true (vPick t68 (.bool .true) t72 h g5) (g5 undefV h)) fun t73 h =>
vPick t65 t73 (.bool .false) h fun t74 h =>
joinG (fun g4 => grdV t74 true (vMov t33 h g4) (g4 undefV h)) fun t76 h =>
vPick t74 t76 (.bool .false) h fun t77 h =>
K t77 h)
noncomputable def s_ops_MayB34 (cf : CallK) (fuel : Nat) (K : AV → Hp → Prop) (t1 : AV) (h : Hp) : Prop :=
vFaddr 8 t1 h fun t24 h =>
vLoad2 t24 h fun t25 h =>
cf f_ops_Name [t25] h fun t26 h =>
vEql t26 (.int .i64 0) h fun t27 h =>
joinG (fun g33 => grdV t27 true (vFaddr 9 t1 h g33) (g33 undefV h)) fun t29 h =>
joinG (fun g32 => grdV t27 true (vLoad2 t29 h g32) (g32 undefV h)) fun t30 h =>
joinG (fun g31 => grdV t27 true (vLenL2 t30 h g31) (g31 undefV h)) fun t31 h =>
joinG (fun g30 => grdV t27 true (vEql t31 (.int .i64 0) h g30) (g30 undefV h)) fun t32 h =>
vPick t27 t32 (.bool .false) h fun t33 h =>
vFaddr 6 t1 h fun t34 h =>
vLoadA 2 t34 h fun t35 h =>
cf f_ops_Root [] h fun t36 h =>
vLoadA 2 t34 h fun c _ => gd (sameV c t35) (
vEq false eqPairS t35 t36 h fun t37 h =>
joinG (fun g29 => grdV t37 false (vFaddr 6 t1 h g29) (g29 undefV h)) fun t39 h =>
joinG (fun g28 => grdV t37 false (vLoadA 2 t39 h g28) (g28 undefV h)) fun t40 h =>
joinG (fun g27 => grdV t37 false (vLoadA 11 t1 h g27) (g27 undefV h)) fun t41 h =>
joinG (fun g26 => grdV t37 false (cf f_ops_earlier [t40, t41] h g26) (g26 undefV h)) fun t42 h =>
vPick t37 (.bool .true) t42 h fun t43 h =>
vFaddr 3 t1 h fun t44 h =>
vLoad2 t44 h fun t45 h =>
(fun (e0 : Hp → Prop) =>
(fun (j1 : AV → Hp → Prop) =>
vEql t45 (.int .i64 1) h fun t47 h =>
vIf t47 (
j1 t47 h) (
vEql t45 (.int .i64 2) h fun t48 h =>
j1 t48 h)) fun t46 h =>
vIf t46 (
vFaddr 4 t1 h fun t49 h =>
vLoadA 2 t49 h fun t50 h =>
vFaddr 0 t1 h fun t51 h =>
vLoadA 2 t51 h fun t52 h =>
vEq false eqPairS t50 t52 h fun t53 h =>
joinG (fun g3 => grdV t53 true (vMov t43 h g3) (g3 undefV h)) fun t55 h =>
vPick t53 t55 (.bool .false) h fun t56 h =>
joinG (fun g2 => grdV t56 true (vMov t33 h g2) (g2 undefV h)) fun t58 h =>
vPick t56 t58 (.bool .false) h fun t59 h =>
K t59 h) (
vEql t45 (.int .i64 3) h fun t61 h =>
vIf t61 (
s_ops_MayB25 cf fuel K t43 t33 t1 h) (
vEql t45 (.int .i64 4) h fun t79 h =>
vIf t79 (
s_ops_MayB24 cf fuel K t1 h) (
e0 h)))) fun h =>
K (.bool .false) h)
noncomputable def s_ops_May (cf : CallK) (fuel : Nat) (t0 : AV) (h : Hp) (K : AV → Hp → Prop) : Prop :=
vBox 11 t0 h fun t1 h =>
vFaddr 0 t1 h fun t5 h =>
vLoadA 2 t5 h fun t6 h =>
cf f_clock_Valid [t6] h fun t7 h =>
vNot t7 h fun t8 h =>
joinG (fun g43 => grdV t8 false (vFaddr 2 t1 h g43) (g43 undefV h)) fun t10 h =>
joinG (fun g42 => grdV t8 false (vLoad2 t10 h g42) (g42 undefV h)) fun t11 h =>
joinG (fun g41 => grdV t8 false (vLss t11 (.int .i64 1) h g41) (g41 undefV h)) fun t12 h =>
vPick t8 (.bool .true) t12 h fun t13 h =>
joinG (fun g40 => grdV t13 false (vFaddr 2 t1 h g40) (g40 undefV h)) fun t15 h =>
joinG (fun g39 => grdV t13 false (vLoad2 t15 h g39) (g39 undefV h)) fun t16 h =>
joinG (fun g38 => grdV t13 false (vGtr t16 (.int .i64 1152921504606846976) h g38) (g38 undefV h)) fun t17 h =>
vPick t13 (.bool .true) t17 h fun t18 h =>
joinG (fun g37 => grdV t18 false (vLoadA 11 t1 h g37) (g37 undefV h)) fun t20 h =>
joinG (fun g36 => grdV t18 false (cf f_ops_seen [t20] h g36) (g36 undefV h)) fun t21 h =>
joinG (fun g35 => grdV t18 false (vNot t21 h g35) (g35 undefV h)) fun t22 h =>
vPick t18 (.bool .true) t22 h fun t23 h =>
vIf t23 (
K (.bool .false) h) (
s_ops_MayB34 cf fuel K t1 h)
theorem s_ops_May_eq (cf : CallK) (fuel : Nat) (t0 : AV) (h : Hp) (K : AV → Hp → Prop) : s_ops_May cf fuel t0 h K = deepT (tabOf Tryz.prog) f_ops_May cf fuel [t0] h K :=
  Eq.trans (by kernel_rfl) (rFun (by kernel_rfl) rExact)

noncomputable def s_vector_Leq (cf : CallK) (fuel : Nat) (t0 : AV) (t1 : AV) (h : Hp) (K : AV → Hp → Prop) : Prop :=
cf f_vector_Ahead [t0, t1] h fun t7 h =>
vLenL2 t7 h fun t8 h =>
vEql t8 (.int .i64 0) h fun t9 h =>
K t9 h
theorem s_vector_Leq_eq (cf : CallK) (fuel : Nat) (t0 : AV) (t1 : AV) (h : Hp) (K : AV → Hp → Prop) : s_vector_Leq cf fuel t0 t1 h K = deepT (tabOf Tryz.prog) f_vector_Leq cf fuel [t0, t1] h K :=
  Eq.trans (by kernel_rfl) (rFun (by kernel_rfl) rExact)

noncomputable def s_clock_Less (cf : CallK) (fuel : Nat) (t0 : AV) (t1 : AV) (h : Hp) (K : AV → Hp → Prop) : Prop :=
vBox 2 t0 h fun t2 h =>
vBox 2 t1 h fun t3 h =>
vLoadA 2 t2 h fun t5 h =>
vLoadA 2 t3 h fun t6 h =>
cf f_clock_Cmp [t5, t6] h fun t7 h =>
vLss t7 (.int .i64 0) h fun t8 h =>
K t8 h
theorem s_clock_Less_eq (cf : CallK) (fuel : Nat) (t0 : AV) (t1 : AV) (h : Hp) (K : AV → Hp → Prop) : s_clock_Less cf fuel t0 t1 h K = deepT (tabOf Tryz.prog) f_clock_Less cf fuel [t0, t1] h K :=
  Eq.trans (by kernel_rfl) (rFun (by kernel_rfl) rExact)

noncomputable def s_ops_EncodeB0 (cf : CallK) (fuel : Nat) (K : AV → Hp → Prop) (t1 : AV) (h : Hp) : Prop :=
cf f_codec_NewWriter [] h fun t8 h =>
vFaddr 3 t1 h fun t10 h =>
vLoad2 t10 h fun t11 h =>
cf f_codec_Writer_Num [t8, t11] h fun t12 h =>
vFaddr 0 t1 h fun t14 h =>
vLoadA 2 t14 h fun t15 h =>
cf f_codec_Writer_ID [t8, t15] h fun t16 h =>
vFaddr 2 t1 h fun t18 h =>
vLoad2 t18 h fun t19 h =>
cf f_codec_Writer_Num [t8, t19] h fun t20 h =>
vFaddr 4 t1 h fun t22 h =>
vLoadA 2 t22 h fun t23 h =>
cf f_codec_Writer_ID [t8, t23] h fun t24 h =>
vFaddr 6 t1 h fun t26 h =>
vLoadA 2 t26 h fun t27 h =>
cf f_codec_Writer_ID [t8, t27] h fun t28 h =>
vFaddr 8 t1 h fun t30 h =>
vLoad2 t30 h fun t31 h =>
cf f_codec_Writer_Text [t8, t31] h fun t32 h =>
vFaddr 9 t1 h fun t34 h =>
vLoad2 t34 h fun t35 h =>
cf f_codec_Writer_Bytes [t8, t35] h fun t36 h =>
vFaddr 10 t1 h fun t38 h =>
vLoad2 t38 h fun t39 h =>
cf f_codec_Writer_Vector [t8, t39] h fun t40 h =>
cf f_codec_Writer_Done [t8] h fun t42 h =>
vExtract 0 t42 h fun t43 h =>
vExtract 1 t42 h fun t44 h =>
K (.tup [t43, t44]) h
noncomputable def s_ops_Encode (cf : CallK) (fuel : Nat) (t0 : AV) (h : Hp) (K : AV → Hp → Prop) : Prop :=
vBox 11 t0 h fun t1 h =>
vLoadA 11 t1 h fun t5 h =>
cf f_ops_May [t5] h fun t6 h =>
vNot t6 h fun t7 h =>
vIf t7 (
K (.tup [.nilslice, (.int .i64 22)]) h) (
s_ops_EncodeB0 cf fuel K t1 h)
theorem s_ops_Encode_eq (cf : CallK) (fuel : Nat) (t0 : AV) (h : Hp) (K : AV → Hp → Prop) : s_ops_Encode cf fuel t0 h K = deepT (tabOf Tryz.prog) f_ops_Encode cf fuel [t0] h K :=
  Eq.trans (by kernel_rfl) (rFun (by kernel_rfl) rExact)

noncomputable def s_vector_With (cf : CallK) (fuel : Nat) (t0 : AV) (t1 : AV) (t2 : AV) (h : Hp) (K : AV → Hp → Prop) : Prop :=
vBox 1 t0 h fun t3 h =>
vBox 1 t1 h fun t4 h =>
vBox 1 t2 h fun t5 h =>
vLoad2 t4 h fun t7 h =>
vLss t7 (.int .i64 0) h fun t8 h =>
joinG (fun g5 => grdV t8 false (vLoad2 t4 h g5) (g5 undefV h)) fun t10 h =>
joinG (fun g4 => grdV t8 false (vGeq t10 (.int .i64 64) h g4) (g4 undefV h)) fun t11 h =>
vPick t8 (.bool .true) t11 h fun t12 h =>
joinG (fun g3 => grdV t12 false (vLoad2 t5 h g3) (g3 undefV h)) fun t14 h =>
joinG (fun g2 => grdV t12 false (vLss t14 (.int .i64 0) h g2) (g2 undefV h)) fun t15 h =>
vPick t12 (.bool .true) t15 h fun t16 h =>
joinG (fun g1 => grdV t16 false (vLoad2 t5 h g1) (g1 undefV h)) fun t18 h =>
joinG (fun g0 => grdV t16 false (vGtr t18 (.int .i64 1152921504606846976) h g0) (g0 undefV h)) fun t19 h =>
vPick t16 (.bool .true) t19 h fun t20 h =>
vIf t20 (
vLoad2 t3 h fun t21 h =>
cf f_vector_Norm [t21] h fun t22 h =>
K t22 h) (
vFunc 77 [] [t4, t5, t3] h fun t23 h =>
cf f_vector_made [t23] h fun t24 h =>
K t24 h)
theorem s_vector_With_eq (cf : CallK) (fuel : Nat) (t0 : AV) (t1 : AV) (t2 : AV) (h : Hp) (K : AV → Hp → Prop) : s_vector_With cf fuel t0 t1 t2 h K = deepT (tabOf Tryz.prog) f_vector_With cf fuel [t0, t1, t2] h K :=
  Eq.trans (by kernel_rfl) (rFun (by kernel_rfl) rExact)

noncomputable def s_codec_NewWriter (cf : CallK) (fuel : Nat) (h : Hp) (K : AV → Hp → Prop) : Prop :=
vBuild [.nilslice, (.bool .false)] [] h fun t1 h =>
vBox 2 t1 h fun t2 h =>
K t2 h
theorem s_codec_NewWriter_eq (cf : CallK) (fuel : Nat) (h : Hp) (K : AV → Hp → Prop) : s_codec_NewWriter cf fuel h K = deepT (tabOf Tryz.prog) f_codec_NewWriter cf fuel [] h K :=
  Eq.trans (by kernel_rfl) (rFun (by kernel_rfl) rExact)

noncomputable def s_codec_Writer_NumE0 (cf : CallK) (fuel : Nat) (K : AV → Hp → Prop) (t0 : AV) : AV → Hp → Prop := fun t1 h =>
vNilck t0 h fun t31 h =>
vFaddr 0 t31 h fun t32 h =>
vLoad2 t32 h fun t33 h =>
vToInt .u8 t1 h fun t35 h =>
vBslice 1 1 true [(.int .u8 0)] [(0, 1, t35)] h fun t36 h =>
vAppend2 1 1 true t33 t36 h fun t37 h =>
vNilck t0 h fun t38 h =>
vFaddr 0 t38 h fun t39 h =>
vStore 1 t39 t37 h fun _ h =>
K (.tup []) h
noncomputable def s_codec_Writer_NumL1B (cf : CallK) (fuel : Nat) (e0 : AV → Hp → Prop) (t0 : AV) (ih1 : AV → Hp → Prop) : AV → Hp → Prop := fun t1 h =>
vGtr t1 (.int .i64 127) h fun t14 h =>
vIf t14 (
(fun (e2 : Hp → Prop) =>
vNilck t0 h fun t19 h =>
vFaddr 0 t19 h fun t20 h =>
vLoad2 t20 h fun t21 h =>
vToInt .u8 t1 h fun t23 h =>
vBits Nat.lor t23 (.int .u8 128) h fun t24 h =>
vBslice 1 1 true [(.int .u8 0)] [(0, 1, t24)] h fun t25 h =>
vAppend2 1 1 true t21 t25 h fun t26 h =>
vNilck t0 h fun t27 h =>
vFaddr 0 t27 h fun t28 h =>
vStore 1 t28 t26 h fun _ h =>
e2 h) fun h =>
vShr t1 (.int .u64 7) h fun t16 h =>
ih1 t16 h) (
e0 t1 h)
noncomputable def s_codec_Writer_NumL1 (cf : CallK) (fuel : Nat) (e0 : AV → Hp → Prop) (t0 : AV) (m : Nat) : AV → Hp → Prop := Nat.rec (motive := fun _ => AV → Hp → Prop) (fun _ _ => False) (fun _ ih => s_codec_Writer_NumL1B cf fuel e0 t0 ih) m
theorem s_codec_Writer_NumL1_succ (cf : CallK) (fuel : Nat) (e0 : AV → Hp → Prop) (t0 : AV) (m : Nat) : s_codec_Writer_NumL1 cf fuel e0 t0 (m + 1) = s_codec_Writer_NumL1B cf fuel e0 t0 (s_codec_Writer_NumL1 cf fuel e0 t0 m) := rfl
noncomputable def s_codec_Writer_Num (cf : CallK) (fuel : Nat) (t0 : AV) (t1 : AV) (h : Hp) (K : AV → Hp → Prop) : Prop :=
vGeq t1 (.int .i64 0) h fun t6 h =>
joinG (fun g4 => grdV t6 true (vMov t1 h g4) (g4 undefV h)) fun t8 h =>
joinG (fun g3 => grdV t6 true (vLeq t8 (.int .i64 4611686018427387904) h g3) (g3 undefV h)) fun t9 h =>
vPick t6 t9 (.bool .false) h fun t10 h =>
cf f_codec_Writer_may [t0, t10] h fun t11 h =>
vNot t11 h fun t12 h =>
vIf t12 (
K (.tup []) h) (
(fun (e0 : AV → Hp → Prop) =>
s_codec_Writer_NumL1 cf fuel (s_codec_Writer_NumE0 cf fuel K t0) t0 fuel t1 h) (s_codec_Writer_NumE0 cf fuel K t0))
theorem s_codec_Writer_Num_eq (cf : CallK) (fuel : Nat) (t0 : AV) (t1 : AV) (h : Hp) (K : AV → Hp → Prop) : s_codec_Writer_Num cf fuel t0 t1 h K = deepT (tabOf Tryz.prog) f_codec_Writer_Num cf fuel [t0, t1] h K :=
  Eq.trans (by kernel_rfl) (rFun (by kernel_rfl) (rSeq (by kernel_rfl) (rSeq (by kernel_rfl) rExact (rBlock (by kernel_rfl) (rLoop (by kernel_rfl) (fun m1 fr h => s_codec_Writer_NumL1 cf fuel (s_codec_Writer_NumE0 cf fuel K (getS fr (gpos 0))) (getS fr (gpos 0)) m1 (getS fr (gpos 1)) h) (funext fun fr => funext fun h => by kernel_rfl) fun m1 => rCast (funext fun fr => funext fun h => by kernel_rfl) rExact))) rExact))

noncomputable def s_codec_Writer_Bytes (cf : CallK) (fuel : Nat) (t0 : AV) (t1 : AV) (h : Hp) (K : AV → Hp → Prop) : Prop :=
vLenL2 t1 h fun t6 h =>
vLeq t6 (.int .i64 65536) h fun t7 h =>
cf f_codec_Writer_may [t0, t7] h fun t8 h =>
vIf t8 (
vLenL2 t1 h fun t11 h =>
cf f_codec_Writer_Num [t0, t11] h fun t12 h =>
vNilck t0 h fun t15 h =>
vFaddr 0 t15 h fun t16 h =>
vLoad2 t16 h fun t17 h =>
vAppend2 1 1 true t17 t1 h fun t19 h =>
vNilck t0 h fun t20 h =>
vFaddr 0 t20 h fun t21 h =>
vStore 1 t21 t19 h fun _ h =>
K (.tup []) h) (
K (.tup []) h)
theorem s_codec_Writer_Bytes_eq (cf : CallK) (fuel : Nat) (t0 : AV) (t1 : AV) (h : Hp) (K : AV → Hp → Prop) : s_codec_Writer_Bytes cf fuel t0 t1 h K = deepT (tabOf Tryz.prog) f_codec_Writer_Bytes cf fuel [t0, t1] h K :=
  Eq.trans (by kernel_rfl) (rFun (by kernel_rfl) rExact)

noncomputable def s_codec_Writer_Done (cf : CallK) (fuel : Nat) (t0 : AV) (h : Hp) (K : AV → Hp → Prop) : Prop :=
vEq false eqP t0 .nilptr h fun t5 h =>
joinG (fun g3 => grdV t5 false (vMov t0 h g3) (g3 undefV h)) fun t7 h =>
joinG (fun g2 => grdV t5 false (vNilck t7 h g2) (g2 undefV h)) fun t8 h =>
joinG (fun g1 => grdV t5 false (vFaddr 1 t8 h g1) (g1 undefV h)) fun t9 h =>
joinG (fun g0 => grdV t5 false (vLoad2 t9 h g0) (g0 undefV h)) fun t10 h =>
vPick t5 (.bool .true) t10 h fun t11 h =>
vIf t11 (
K (.tup [.nilslice, (.int .i64 22)]) h) (
vNilck t0 h fun t13 h =>
vFaddr 0 t13 h fun t14 h =>
vLoad2 t14 h fun t15 h =>
cf f_bytes_Clone [t15] h fun t16 h =>
K (.tup [t16, (.int .i64 0)]) h)
theorem s_codec_Writer_Done_eq (cf : CallK) (fuel : Nat) (t0 : AV) (h : Hp) (K : AV → Hp → Prop) : s_codec_Writer_Done cf fuel t0 h K = deepT (tabOf Tryz.prog) f_codec_Writer_Done cf fuel [t0] h K :=
  Eq.trans (by kernel_rfl) (rFun (by kernel_rfl) rExact)

noncomputable def s_localfs_FS_Replace (cf : CallK) (fuel : Nat) (t0 : AV) (t1 : AV) (t2 : AV) (h : Hp) (K : AV → Hp → Prop) : Prop :=
vBuild [.nilptr, .nilslice, .nilslice] [(0, 1, t0), (1, 1, t1), (2, 1, t2)] h fun t11 h =>
vFunc 80 [t11] [] h fun t12 h =>
cf f_localfs_FS_change [t0, t12] h fun t13 h =>
K t13 h
theorem s_localfs_FS_Replace_eq (cf : CallK) (fuel : Nat) (t0 : AV) (t1 : AV) (t2 : AV) (h : Hp) (K : AV → Hp → Prop) : s_localfs_FS_Replace cf fuel t0 t1 t2 h K = deepT (tabOf Tryz.prog) f_localfs_FS_Replace cf fuel [t0, t1, t2] h K :=
  Eq.trans (by kernel_rfl) (rFun (by kernel_rfl) rExact)

noncomputable def s_oplog_file (cf : CallK) (fuel : Nat) (t0 : AV) (h : Hp) (K : AV → Hp → Prop) : Prop :=
cf f_strconv_FormatInt [t0, (.int .i64 10)] h fun t4 h =>
vBslice 1 1 false [(.str 0 0)] [(0, 1, t4)] h fun t5 h =>
K t5 h
theorem s_oplog_file_eq (cf : CallK) (fuel : Nat) (t0 : AV) (h : Hp) (K : AV → Hp → Prop) : s_oplog_file cf fuel t0 h K = deepT (tabOf Tryz.prog) f_oplog_file cf fuel [t0] h K :=
  Eq.trans (by kernel_rfl) (rFun (by kernel_rfl) rExact)

noncomputable def s_localfs_FS_Write (cf : CallK) (fuel : Nat) (t0 : AV) (t1 : AV) (t2 : AV) (t3 : AV) (h : Hp) (K : AV → Hp → Prop) : Prop :=
vBuild [.nilptr, .nilslice, (.int .i64 0), .nilslice] [(0, 1, t0), (1, 1, t1), (2, 1, t2), (3, 1, t3)] h fun t14 h =>
vFunc 82 [t14] [] h fun t15 h =>
cf f_localfs_FS_change [t0, t15] h fun t16 h =>
K t16 h
theorem s_localfs_FS_Write_eq (cf : CallK) (fuel : Nat) (t0 : AV) (t1 : AV) (t2 : AV) (t3 : AV) (h : Hp) (K : AV → Hp → Prop) : s_localfs_FS_Write cf fuel t0 t1 t2 t3 h K = deepT (tabOf Tryz.prog) f_localfs_FS_Write cf fuel [t0, t1, t2, t3] h K :=
  Eq.trans (by kernel_rfl) (rFun (by kernel_rfl) rExact)

noncomputable def s_bytes_Clone (cf : CallK) (fuel : Nat) (t0 : AV) (h : Hp) (K : AV → Hp → Prop) : Prop :=
vEq false eqNS t0 .nilslice h fun t4 h =>
vIf t4 (
K .nilslice h) (
vBslice 1 0 true [(.int .u8 0)] [] h fun t5 h =>
vAppend2 1 1 true t5 t0 h fun t7 h =>
K t7 h)
theorem s_bytes_Clone_eq (cf : CallK) (fuel : Nat) (t0 : AV) (h : Hp) (K : AV → Hp → Prop) : s_bytes_Clone cf fuel t0 h K = deepT (tabOf Tryz.prog) f_bytes_Clone cf fuel [t0] h K :=
  Eq.trans (by kernel_rfl) (rFun (by kernel_rfl) rExact)

noncomputable def s_localfs_FS_filed (cf : CallK) (fuel : Nat) (t0 : AV) (t1 : AV) (t2 : AV) (h : Hp) (K : AV → Hp → Prop) : Prop :=
cf f_localfs_FS_walk [t0, t1] h fun t13 h =>
vExtract 0 t13 h fun t14 h =>
vExtract 1 t13 h fun t15 h =>
(fun (e0 : Hp → Prop) =>
vNeq t15 (.int .i64 0) h fun t18 h =>
vIf t18 (
K (.tup [.nilptr, t15]) h) (
vIf t2 (
K (.tup [.nilptr, (.int .i64 22)]) h) (
vEq false eqP t14 .nilptr h fun t24 h =>
vIf t24 (
K (.tup [.nilptr, (.int .i64 2)]) h) (
vNilck t14 h fun t27 h =>
vFaddr 0 t27 h fun t28 h =>
vLoad2 t28 h fun t29 h =>
vIf t29 (
K (.tup [.nilptr, (.int .i64 21)]) h) (
e0 h))))) fun h =>
K (.tup [t14, (.int .i64 0)]) h
theorem s_localfs_FS_filed_eq (cf : CallK) (fuel : Nat) (t0 : AV) (t1 : AV) (t2 : AV) (h : Hp) (K : AV → Hp → Prop) : s_localfs_FS_filed cf fuel t0 t1 t2 h K = deepT (tabOf Tryz.prog) f_localfs_FS_filed cf fuel [t0, t1, t2] h K :=
  Eq.trans (by kernel_rfl) (rFun (by kernel_rfl) rExact)

noncomputable def s_codec_Reader_failsB2 (cf : CallK) (fuel : Nat) (K : AV → Hp → Prop) (t0 : AV) (t1 : AV) (h : Hp) : Prop :=
(fun (j0 : Hp → Prop) =>
vNilck t0 h fun t9 h =>
vFaddr 1 t9 h fun t10 h =>
vLoad2 t10 h fun t11 h =>
joinG (fun g1 => grdV t11 false (vMov t1 h g1) (g1 undefV h)) fun t13 h =>
vPick t11 (.bool .true) t13 h fun t14 h =>
vNilck t0 h fun t15 h =>
vFaddr 1 t15 h fun t16 h =>
vStore 1 t16 t14 h fun _ h =>
vNilck t0 h fun t18 h =>
vFaddr 1 t18 h fun t19 h =>
vLoad2 t19 h fun t20 h =>
vIf t20 (
vNilck t0 h fun t22 h =>
vFaddr 0 t22 h fun t23 h =>
vStore 1 t23 .nilslice h fun _ h =>
j0 h) (
j0 h)) fun h =>
vNilck t0 h fun t25 h =>
vFaddr 1 t25 h fun t26 h =>
vLoad2 t26 h fun t27 h =>
K t27 h
noncomputable def s_codec_Reader_fails (cf : CallK) (fuel : Nat) (t0 : AV) (t1 : AV) (h : Hp) (K : AV → Hp → Prop) : Prop :=
vEq false eqP t0 .nilptr h fun t6 h =>
vIf t6 (
K (.bool .true) h) (
s_codec_Reader_failsB2 cf fuel K t0 t1 h)
theorem s_codec_Reader_fails_eq (cf : CallK) (fuel : Nat) (t0 : AV) (t1 : AV) (h : Hp) (K : AV → Hp → Prop) : s_codec_Reader_fails cf fuel t0 t1 h K = deepT (tabOf Tryz.prog) f_codec_Reader_fails cf fuel [t0, t1] h K :=
  Eq.trans (by kernel_rfl) (rFun (by kernel_rfl) rExact)

noncomputable def s_codec_Reader_Left (cf : CallK) (fuel : Nat) (t0 : AV) (h : Hp) (K : AV → Hp → Prop) : Prop :=
vEq false eqP t0 .nilptr h fun t4 h =>
vIf t4 (
K (.int .i64 0) h) (
vNilck t0 h fun t6 h =>
vFaddr 0 t6 h fun t7 h =>
vLoad2 t7 h fun t8 h =>
vLenL2 t8 h fun t9 h =>
K t9 h)
theorem s_codec_Reader_Left_eq (cf : CallK) (fuel : Nat) (t0 : AV) (h : Hp) (K : AV → Hp → Prop) : s_codec_Reader_Left cf fuel t0 h K = deepT (tabOf Tryz.prog) f_codec_Reader_Left cf fuel [t0] h K :=
  Eq.trans (by kernel_rfl) (rFun (by kernel_rfl) rExact)

noncomputable def s_codec_Reader_Err (cf : CallK) (fuel : Nat) (t0 : AV) (h : Hp) (K : AV → Hp → Prop) : Prop :=
vEq false eqP t0 .nilptr h fun t4 h =>
joinG (fun g3 => grdV t4 false (vMov t0 h g3) (g3 undefV h)) fun t6 h =>
joinG (fun g2 => grdV t4 false (vNilck t6 h g2) (g2 undefV h)) fun t7 h =>
joinG (fun g1 => grdV t4 false (vFaddr 1 t7 h g1) (g1 undefV h)) fun t8 h =>
joinG (fun g0 => grdV t4 false (vLoad2 t8 h g0) (g0 undefV h)) fun t9 h =>
vPick t4 (.bool .true) t9 h fun t10 h =>
vIf t10 (
K (.int .i64 74) h) (
K (.int .i64 0) h)
theorem s_codec_Reader_Err_eq (cf : CallK) (fuel : Nat) (t0 : AV) (h : Hp) (K : AV → Hp → Prop) : s_codec_Reader_Err cf fuel t0 h K = deepT (tabOf Tryz.prog) f_codec_Reader_Err cf fuel [t0] h K :=
  Eq.trans (by kernel_rfl) (rFun (by kernel_rfl) rExact)

noncomputable def s_ops_Decode (cf : CallK) (fuel : Nat) (t0 : AV) (h : Hp) (K : AV → Hp → Prop) : Prop :=
vBox 11 (.agg [(.int .i64 0), (.int .i64 0), (.int .i64 0), (.int .i64 0), (.int .i64 0), (.int .i64 0), (.int .i64 0), (.int .i64 0), (.str 0 0), .nilslice, .nilslice]) h fun t2 h =>
cf f_codec_NewReader [t0] h fun t8 h =>
cf f_codec_Reader_Num [t8] h fun t10 h =>
cf f_codec_Reader_ID [t8] h fun t12 h =>
cf f_codec_Reader_Num [t8] h fun t14 h =>
cf f_codec_Reader_ID [t8] h fun t16 h =>
cf f_codec_Reader_ID [t8] h fun t18 h =>
cf f_codec_Reader_Text [t8] h fun t20 h =>
cf f_codec_Reader_Bytes [t8] h fun t22 h =>
cf f_codec_Reader_Vector [t8] h fun t24 h =>
vBuild [(.int .i64 0), (.int .i64 0), (.int .i64 0), (.int .i64 0), (.int .i64 0), (.int .i64 0), (.int .i64 0), (.int .i64 0), (.str 0 0), .nilslice, .nilslice] [(0, 2, t12), (2, 1, t14), (4, 2, t16), (6, 2, t18), (8, 1, t20), (9, 1, t22), (10, 1, t24)] h fun t25 h =>
vBox 11 (.agg [(.int .i64 0), (.int .i64 0), (.int .i64 0), (.int .i64 0), (.int .i64 0), (.int .i64 0), (.int .i64 0), (.int .i64 0), (.str 0 0), .nilslice, .nilslice]) h fun t6 h =>
vStore 11 t6 t25 h fun _ h =>
(fun (j0 : Hp → Prop) =>
vLeq t10 (.int .i64 4) h fun t27 h =>
vIf t27 (
vFaddr 3 t6 h fun t29 h =>
vStore 1 t29 t10 h fun _ h =>
j0 h) (
j0 h)) fun h =>
cf f_codec_Reader_Done [t8] h fun t31 h =>
vNeq t31 (.int .i64 0) h fun t32 h =>
joinG (fun g3 => grdV t32 false (vLoadA 11 t6 h g3) (g3 undefV h)) fun t34 h =>
joinG (fun g2 => grdV t32 false (cf f_ops_May [t34] h g2) (g2 undefV h)) fun t35 h =>
joinG (fun g1 => grdV t32 false (vNot t35 h g1) (g1 undefV h)) fun t36 h =>
vPick t32 (.bool .true) t36 h fun t37 h =>
vIf t37 (
vBuild [(.int .i64 0), (.int .i64 0), (.int .i64 0), (.int .i64 0), (.int .i64 0), (.int .i64 0), (.int .i64 0), (.int .i64 0), (.str 0 0), .nilslice, .nilslice] [] h fun t38 h =>
vStore 11 t2 t38 h fun _ h =>
vLoadA 11 t2 h fun r0 _ => K (.tup [r0, (.int .i64 74)]) h) (
vLoadA 11 t6 h fun t39 h =>
vStore 11 t2 t39 h fun _ h =>
vLoadA 11 t2 h fun r0 _ => K (.tup [r0, (.int .i64 0)]) h)
theorem s_ops_Decode_eq (cf : CallK) (fuel : Nat) (t0 : AV) (h : Hp) (K : AV → Hp → Prop) : s_ops_Decode cf fuel t0 h K = deepT (tabOf Tryz.prog) f_ops_Decode cf fuel [t0] h K :=
  Eq.trans (by kernel_rfl) (rFun (by kernel_rfl) rExact)

noncomputable def s_lagoonlaw11_Fresh (cf : CallK) (fuel : Nat) (t0 : AV) (h : Hp) (K : AV → Hp → Prop) : Prop :=
cf f_device_New [t0] h fun t9 h =>
cf f_localfs_Mkfs [t9] h fun t11 h =>
cf f_localfs_Mount [t9] h fun t14 h =>
vExtract 0 t14 h fun t15 h =>
vExtract 1 t14 h fun t16 h =>
vNeq t11 (.int .i64 0) h fun t18 h =>
joinG (fun g1 => grdV t18 false (vMov t16 h g1) (g1 undefV h)) fun t20 h =>
joinG (fun g0 => grdV t18 false (vNeq t20 (.int .i64 0) h g0) (g0 undefV h)) fun t21 h =>
vPick t18 (.bool .true) t21 h fun t22 h =>
vIf t22 (
K (.tup [.nilptr, .nilptr]) h) (
K (.tup [t9, t15]) h)
theorem s_lagoonlaw11_Fresh_eq (cf : CallK) (fuel : Nat) (t0 : AV) (h : Hp) (K : AV → Hp → Prop) : s_lagoonlaw11_Fresh cf fuel t0 h K = deepT (tabOf Tryz.prog) f_lagoonlaw11_Fresh cf fuel [t0] h K :=
  Eq.trans (by kernel_rfl) (rFun (by kernel_rfl) rExact)

noncomputable def s_localfs_MountE0 (cf : CallK) (fuel : Nat) (K : AV → Hp → Prop) (t7 : AV) : Hp → Prop := fun h =>
vNilck t7 h fun t55 h =>
vFaddr 3 t55 h fun t56 h =>
vLoad2 t56 h fun t57 h =>
vBslice 1 15 true [(.int .u8 0)] [(0, 1, (.int .u8 108)), (1, 1, (.int .u8 97)), (2, 1, (.int .u8 103)), (3, 1, (.int .u8 111)), (4, 1, (.int .u8 111)), (5, 1, (.int .u8 110)), (6, 1, (.int .u8 39)), (7, 1, (.int .u8 115)), (8, 1, (.int .u8 32)), (9, 1, (.int .u8 102)), (10, 1, (.int .u8 105)), (11, 1, (.int .u8 108)), (12, 1, (.int .u8 101)), (13, 1, (.int .u8 115)), (14, 1, (.int .u8 10))] h fun t58 h =>
vStrish t58 h fun t59 h =>
cf f_bytes_CutPrefix [t57, t59] h fun t60 h =>
vExtract 0 t60 h fun t61 h =>
vExtract 1 t60 h fun t62 h =>
(fun (j1 : Hp → Prop) =>
vIf t62 (
cf f_localfs_read [t61] h fun t67 h =>
vExtract 0 t67 h fun t68 h =>
vExtract 1 t67 h fun t69 h =>
vNilck t7 h fun t70 h =>
vFaddr 2 t70 h fun t71 h =>
vStore 1 t71 t68 h fun _ h =>
j1 h) (
j1 h)) fun h =>
vNilck t7 h fun t73 h =>
vFaddr 2 t73 h fun t74 h =>
vLoad2 t74 h fun t75 h =>
vEq false eqP t75 .nilptr h fun t76 h =>
joinG (fun g9 => grdV t76 false (vMov t7 h g9) (g9 undefV h)) fun t78 h =>
joinG (fun g8 => grdV t76 false (vNilck t78 h g8) (g8 undefV h)) fun t79 h =>
joinG (fun g7 => grdV t76 false (vFaddr 2 t79 h g7) (g7 undefV h)) fun t80 h =>
joinG (fun g6 => grdV t76 false (vLoad2 t80 h g6) (g6 undefV h)) fun t81 h =>
joinG (fun g5 => grdV t76 false (vNilck t81 h g5) (g5 undefV h)) fun t82 h =>
joinG (fun g4 => grdV t76 false (vFaddr 0 t82 h g4) (g4 undefV h)) fun t83 h =>
joinG (fun g3 => grdV t76 false (vLoad2 t83 h g3) (g3 undefV h)) fun t84 h =>
joinG (fun g2 => grdV t76 false (vNot t84 h g2) (g2 undefV h)) fun t85 h =>
vPick t76 (.bool .true) t85 h fun t86 h =>
vIf t86 (
K (.tup [.nilptr, (.int .i64 74)]) h) (
K (.tup [t7, (.int .i64 0)]) h)
noncomputable def s_localfs_MountL10B (cf : CallK) (fuel : Nat) (e0 : Hp → Prop) (t5 : AV) (t7 : AV) (t33 : AV) (ih10 : AV → Hp → Prop) : AV → Hp → Prop := fun t34 h =>
vLss t34 t33 h fun t35 h =>
vIf t35 (
(fun (e11 : Hp → Prop) =>
cf f_wal_Volume_Read [t5, t34] h fun t40 h =>
vExtract 0 t40 h fun t41 h =>
vExtract 1 t40 h fun t42 h =>
vNilck t7 h fun t45 h =>
vFaddr 3 t45 h fun t46 h =>
vLoad2 t46 h fun t47 h =>
vAppend2 1 1 true t47 t41 h fun t49 h =>
vNilck t7 h fun t50 h =>
vFaddr 3 t50 h fun t51 h =>
vStore 1 t51 t49 h fun _ h =>
e11 h) fun h =>
vAdd t34 (.int .i64 1) h fun t52 h =>
ih10 t52 h) (
e0 h)
noncomputable def s_localfs_MountL10 (cf : CallK) (fuel : Nat) (e0 : Hp → Prop) (t5 : AV) (t7 : AV) (t33 : AV) (m : Nat) : AV → Hp → Prop := Nat.rec (motive := fun _ => AV → Hp → Prop) (fun _ _ => False) (fun _ ih => s_localfs_MountL10B cf fuel e0 t5 t7 t33 ih) m
theorem s_localfs_MountL10_succ (cf : CallK) (fuel : Nat) (e0 : Hp → Prop) (t5 : AV) (t7 : AV) (t33 : AV) (m : Nat) : s_localfs_MountL10 cf fuel e0 t5 t7 t33 (m + 1) = s_localfs_MountL10B cf fuel e0 t5 t7 t33 (s_localfs_MountL10 cf fuel e0 t5 t7 t33 m) := rfl
noncomputable def s_localfs_Mount (cf : CallK) (fuel : Nat) (t0 : AV) (h : Hp) (K : AV → Hp → Prop) : Prop :=
cf f_localfs_may [t0] h fun t14 h =>
vNeq t14 (.int .i64 0) h fun t16 h =>
vIf t16 (
K (.tup [.nilptr, t14]) h) (
cf f_wal_Mount [t0] h fun t20 h =>
vExtract 0 t20 h fun t21 h =>
vExtract 1 t20 h fun t22 h =>
vNeq t22 (.int .i64 0) h fun t24 h =>
vIf t24 (
K (.tup [.nilptr, t22]) h) (
cf f_device_Device_Blocks [t0] h fun t28 h =>
cf f_localfs_Capacity [t28] h fun t29 h =>
vBuild [.nilptr, (.int .i64 0), .nilptr, .nilslice] [(0, 1, t21), (1, 1, t29)] h fun t30 h =>
vBox 4 t30 h fun t31 h =>
cf f_wal_Volume_Blocks [t21] h fun t33 h =>
(fun (e0 : Hp → Prop) =>
s_localfs_MountL10 cf fuel (s_localfs_MountE0 cf fuel K t31) t21 t31 t33 fuel (.int .i64 0) h) (s_localfs_MountE0 cf fuel K t31)))
theorem s_localfs_Mount_eq (cf : CallK) (fuel : Nat) (t0 : AV) (h : Hp) (K : AV → Hp → Prop) : s_localfs_Mount cf fuel t0 h K = deepT (tabOf Tryz.prog) f_localfs_Mount cf fuel [t0] h K :=
  Eq.trans (by kernel_rfl) (rFun (by kernel_rfl) (rSeq (by kernel_rfl) (rSeq (by kernel_rfl) (rSeq (by kernel_rfl) (rSeq (by kernel_rfl) (rSeq (by kernel_rfl) (rSeq (by kernel_rfl) rExact (rSeq (by kernel_rfl) (rBlock (by kernel_rfl) (rLoop (by kernel_rfl) (fun m10 fr h => s_localfs_MountL10 cf fuel (s_localfs_MountE0 cf fuel K (getS fr (gpos 7))) (getS fr (gpos 5)) (getS fr (gpos 7)) (getS fr (gpos 33)) m10 (getS fr (gpos 34)) h) (funext fun fr => funext fun h => by kernel_rfl) fun m10 => rCast (funext fun fr => funext fun h => by kernel_rfl) rExact)) rExact)) rExact) rExact) rExact) rExact) rExact))

noncomputable def s_device_New (cf : CallK) (fuel : Nat) (t0 : AV) (h : Hp) (K : AV → Hp → Prop) : Prop :=
vLss t0 (.int .i64 1) h fun t4 h =>
joinG (fun g1 => grdV t4 false (vMov t0 h g1) (g1 undefV h)) fun t6 h =>
joinG (fun g0 => grdV t4 false (vGtr t6 (.int .i64 65536) h g0) (g0 undefV h)) fun t7 h =>
vPick t4 (.bool .true) t7 h fun t8 h =>
vIf t8 (
K .nilptr h) (
vMkSlice 3 56 false [.nilslice, .nilslice, (.bool .false)] t0 t0 h fun t10 h =>
vBuild [.nilslice, (.bool .false), (.int .i64 0), (.bool .false), (.int .i64 0)] [(0, 1, t10)] h fun t11 h =>
vBox 5 t11 h fun t12 h =>
K t12 h)
theorem s_device_New_eq (cf : CallK) (fuel : Nat) (t0 : AV) (h : Hp) (K : AV → Hp → Prop) : s_device_New cf fuel t0 h K = deepT (tabOf Tryz.prog) f_device_New cf fuel [t0] h K :=
  Eq.trans (by kernel_rfl) (rFun (by kernel_rfl) rExact)

noncomputable def s_lagoonref4_Same (cf : CallK) (fuel : Nat) (t0 : AV) (t1 : AV) (h : Hp) (K : AV → Hp → Prop) : Prop :=
vBox 2 t0 h fun t2 h =>
vBox 2 t1 h fun t3 h =>
vFaddr 0 t2 h fun t5 h =>
vLoad2 t5 h fun t6 h =>
vFaddr 0 t3 h fun t7 h =>
vLoad2 t7 h fun t8 h =>
vEql t6 t8 h fun t9 h =>
joinG (fun g4 => grdV t9 true (vFaddr 1 t2 h g4) (g4 undefV h)) fun t11 h =>
joinG (fun g3 => grdV t9 true (vLoad2 t11 h g3) (g3 undefV h)) fun t12 h =>
joinG (fun g2 => grdV t9 true (vFaddr 1 t3 h g2) (g2 undefV h)) fun t13 h =>
joinG (fun g1 => grdV t9 true (vLoad2 t13 h g1) (g1 undefV h)) fun t14 h =>
joinG (fun g0 => grdV t9 true (vEql t12 t14 h g0) (g0 undefV h)) fun t15 h =>
vPick t9 t15 (.bool .false) h fun t16 h =>
K t16 h
theorem s_lagoonref4_Same_eq (cf : CallK) (fuel : Nat) (t0 : AV) (t1 : AV) (h : Hp) (K : AV → Hp → Prop) : s_lagoonref4_Same cf fuel t0 t1 h K = deepT (tabOf Tryz.prog) f_lagoonref4_Same cf fuel [t0, t1] h K :=
  Eq.trans (by kernel_rfl) (rFun (by kernel_rfl) rExact)

noncomputable def s_lagoonref4_Eq (cf : CallK) (fuel : Nat) (t0 : AV) (t1 : AV) (h : Hp) (K : AV → Hp → Prop) : Prop :=
cf f_lagoonref4_Leq [t0, t1] h fun t7 h =>
joinG (fun g2 => grdV t7 true (vMov t1 h g2) (g2 undefV h)) fun t9 h =>
joinG (fun g1 => grdV t7 true (vMov t0 h g1) (g1 undefV h)) fun t10 h =>
joinG (fun g0 => grdV t7 true (cf f_lagoonref4_Leq [t9, t10] h g0) (g0 undefV h)) fun t11 h =>
vPick t7 t11 (.bool .false) h fun t12 h =>
K t12 h
theorem s_lagoonref4_Eq_eq (cf : CallK) (fuel : Nat) (t0 : AV) (t1 : AV) (h : Hp) (K : AV → Hp → Prop) : s_lagoonref4_Eq cf fuel t0 t1 h K = deepT (tabOf Tryz.prog) f_lagoonref4_Eq cf fuel [t0, t1] h K :=
  Eq.trans (by kernel_rfl) (rFun (by kernel_rfl) rExact)

noncomputable def s_lagoonref12_EncodeE0 (cf : CallK) (fuel : Nat) (K : AV → Hp → Prop) : AV → Hp → Prop := fun t3 h =>
K t3 h
noncomputable def s_lagoonref12_EncodeL1B (cf : CallK) (fuel : Nat) (e0 : AV → Hp → Prop) (t5 : AV) (ih1 : AV → AV → Hp → Prop) : AV → AV → Hp → Prop := fun t3 t6 h =>
vLss t6 (.int .i64 7) h fun t75 h =>
vIf t75 (
(fun (e2 : AV → Hp → Prop) =>
vIaddr 1 t5 t6 h fun t81 h =>
vLoad2 t81 h fun t82 h =>
vAppend2 1 1 true t3 t82 h fun t83 h =>
e2 t83 h) fun t3 h =>
vAdd t6 (.int .i64 1) h fun t77 h =>
ih1 t3 t77 h) (
e0 t3 h)
noncomputable def s_lagoonref12_EncodeL1 (cf : CallK) (fuel : Nat) (e0 : AV → Hp → Prop) (t5 : AV) (m : Nat) : AV → AV → Hp → Prop := Nat.rec (motive := fun _ => AV → AV → Hp → Prop) (fun _ _ _ => False) (fun _ ih => s_lagoonref12_EncodeL1B cf fuel e0 t5 ih) m
theorem s_lagoonref12_EncodeL1_succ (cf : CallK) (fuel : Nat) (e0 : AV → Hp → Prop) (t5 : AV) (m : Nat) : s_lagoonref12_EncodeL1 cf fuel e0 t5 (m + 1) = s_lagoonref12_EncodeL1B cf fuel e0 t5 (s_lagoonref12_EncodeL1 cf fuel e0 t5 m) := rfl
noncomputable def s_lagoonref12_EncodeB3 (cf : CallK) (fuel : Nat) (K : AV → Hp → Prop) (t1 : AV) (h : Hp) : Prop :=
vFaddr 3 t1 h fun t11 h =>
vLoad2 t11 h fun t12 h =>
cf f_lagoonref3_Num [t12] h fun t13 h =>
vExtract 0 t13 h fun t14 h =>
vExtract 1 t13 h fun t15 h =>
vMkSlice 1 24 false [.nilslice] (.int .i64 7) (.int .i64 7) h fun t16 h =>
vFaddr 0 t1 h fun t19 h =>
vLoadA 2 t19 h fun t20 h =>
cf f_lagoonref3_ID [t20] h fun t21 h =>
vExtract 0 t21 h fun t22 h =>
vExtract 1 t21 h fun t23 h =>
vIaddr 1 t16 (.int .i64 0) h fun t24 h =>
vStore 1 t24 t22 h fun _ h =>
vFaddr 2 t1 h fun t27 h =>
vLoad2 t27 h fun t28 h =>
cf f_lagoonref3_Num [t28] h fun t29 h =>
vExtract 0 t29 h fun t30 h =>
vExtract 1 t29 h fun t31 h =>
vIaddr 1 t16 (.int .i64 1) h fun t32 h =>
vStore 1 t32 t30 h fun _ h =>
vFaddr 4 t1 h fun t35 h =>
vLoadA 2 t35 h fun t36 h =>
cf f_lagoonref3_ID [t36] h fun t37 h =>
vExtract 0 t37 h fun t38 h =>
vExtract 1 t37 h fun t39 h =>
vIaddr 1 t16 (.int .i64 2) h fun t40 h =>
vStore 1 t40 t38 h fun _ h =>
vFaddr 6 t1 h fun t43 h =>
vLoadA 2 t43 h fun t44 h =>
cf f_lagoonref3_ID [t44] h fun t45 h =>
vExtract 0 t45 h fun t46 h =>
vExtract 1 t45 h fun t47 h =>
vIaddr 1 t16 (.int .i64 3) h fun t48 h =>
vStore 1 t48 t46 h fun _ h =>
vFaddr 8 t1 h fun t51 h =>
vLoad2 t51 h fun t52 h =>
vToBytes t52 h fun t53 h =>
cf f_lagoonref3_Bytes [t53] h fun t54 h =>
vExtract 0 t54 h fun t55 h =>
vExtract 1 t54 h fun t56 h =>
vIaddr 1 t16 (.int .i64 4) h fun t57 h =>
vStore 1 t57 t55 h fun _ h =>
vFaddr 9 t1 h fun t60 h =>
vLoad2 t60 h fun t61 h =>
cf f_lagoonref3_Bytes [t61] h fun t62 h =>
vExtract 0 t62 h fun t63 h =>
vExtract 1 t62 h fun t64 h =>
vIaddr 1 t16 (.int .i64 5) h fun t65 h =>
vStore 1 t65 t63 h fun _ h =>
vFaddr 10 t1 h fun t68 h =>
vLoad2 t68 h fun t69 h =>
cf f_lagoonref3_Vector [t69] h fun t70 h =>
vExtract 0 t70 h fun t71 h =>
vExtract 1 t70 h fun t72 h =>
vIaddr 1 t16 (.int .i64 6) h fun t73 h =>
vStore 1 t73 t71 h fun _ h =>
(fun (e0 : AV → Hp → Prop) =>
s_lagoonref12_EncodeL1 cf fuel (s_lagoonref12_EncodeE0 cf fuel K) t16 fuel t14 (.int .i64 0) h) (s_lagoonref12_EncodeE0 cf fuel K)
noncomputable def s_lagoonref12_Encode (cf : CallK) (fuel : Nat) (t0 : AV) (h : Hp) (K : AV → Hp → Prop) : Prop :=
vBox 11 t0 h fun t1 h =>
vLoadA 11 t1 h fun t7 h =>
cf f_lagoonref12_May [t7] h fun t8 h =>
vNot t8 h fun t9 h =>
vIf t9 (
K .nilslice h) (
s_lagoonref12_EncodeB3 cf fuel K t1 h)


noncomputable def s_vector_madeE0 (cf : CallK) (fuel : Nat) (K : AV → Hp → Prop) : AV → AV → Hp → Prop := fun t3 t4 h =>
vSlice3 1 t3 none t4 t4 h fun t25 h =>
K t25 h
noncomputable def s_vector_madeL1B (cf : CallK) (fuel : Nat) (e0 : AV → AV → Hp → Prop) (t0 : AV) (ih1 : AV → AV → AV → Hp → Prop) : AV → AV → AV → Hp → Prop := fun t3 t4 t7 h =>
vLss t7 (.int .i64 64) h fun t8 h =>
vIf t8 (
(fun (e2 : AV → AV → Hp → Prop) =>
vCallV t0 [t7] cf h fun t12 h =>
vBslice 1 1 false [(.int .i64 0)] [(0, 1, t12)] h fun t15 h =>
vAppend2 1 8 false t3 t15 h fun t16 h =>
vNeq t12 (.int .i64 0) h fun t18 h =>
vIf t18 (
vAdd t7 (.int .i64 1) h fun t20 h =>
e2 t16 t20 h) (
e2 t16 t4 h)) fun t3 t4 h =>
vAdd t7 (.int .i64 1) h fun t21 h =>
ih1 t3 t4 t21 h) (
e0 t3 t4 h)
noncomputable def s_vector_madeL1 (cf : CallK) (fuel : Nat) (e0 : AV → AV → Hp → Prop) (t0 : AV) (m : Nat) : AV → AV → AV → Hp → Prop := Nat.rec (motive := fun _ => AV → AV → AV → Hp → Prop) (fun _ _ _ _ => False) (fun _ ih => s_vector_madeL1B cf fuel e0 t0 ih) m
theorem s_vector_madeL1_succ (cf : CallK) (fuel : Nat) (e0 : AV → AV → Hp → Prop) (t0 : AV) (m : Nat) : s_vector_madeL1 cf fuel e0 t0 (m + 1) = s_vector_madeL1B cf fuel e0 t0 (s_vector_madeL1 cf fuel e0 t0 m) := rfl
noncomputable def s_vector_made (cf : CallK) (fuel : Nat) (t0 : AV) (h : Hp) (K : AV → Hp → Prop) : Prop :=
(fun (e0 : AV → AV → Hp → Prop) =>
s_vector_madeL1 cf fuel (s_vector_madeE0 cf fuel K) t0 fuel .nilslice (.int .i64 0) (.int .i64 0) h) (s_vector_madeE0 cf fuel K)
theorem s_vector_made_eq (cf : CallK) (fuel : Nat) (t0 : AV) (h : Hp) (K : AV → Hp → Prop) : s_vector_made cf fuel t0 h K = deepT (tabOf Tryz.prog) f_vector_made cf fuel [t0] h K :=
  Eq.trans (by kernel_rfl) (rFun (by kernel_rfl) (rSeq (by kernel_rfl) (rSeq (by kernel_rfl) (rSeq (by kernel_rfl) (rSeq (by kernel_rfl) rExact (rSeq (by kernel_rfl) (rBlock (by kernel_rfl) (rLoop (by kernel_rfl) (fun m1 fr h => s_vector_madeL1 cf fuel (s_vector_madeE0 cf fuel K) (getS fr (gpos 0)) m1 (getS fr (gpos 3)) (getS fr (gpos 4)) (getS fr (gpos 7)) h) (funext fun fr => funext fun h => by kernel_rfl) fun m1 => rCast (funext fun fr => funext fun h => by kernel_rfl) rExact)) rExact)) rExact) rExact) rExact))

noncomputable def s_vector_numbers_at (cf : CallK) (fuel : Nat) (t0 : AV) (t1 : AV) (h : Hp) (K : AV → Hp → Prop) : Prop :=
cf f_vector_At [t0, t1] h fun t7 h =>
K t7 h
theorem s_vector_numbers_at_eq (cf : CallK) (fuel : Nat) (t0 : AV) (t1 : AV) (h : Hp) (K : AV → Hp → Prop) : s_vector_numbers_at cf fuel t0 t1 h K = deepT (tabOf Tryz.prog) f_vector_numbers_at cf fuel [t0, t1] h K :=
  Eq.trans (by kernel_rfl) (rFun (by kernel_rfl) rExact)


end Go.Proofs.YtbefkepinpollaaGreatDoor.sh1
