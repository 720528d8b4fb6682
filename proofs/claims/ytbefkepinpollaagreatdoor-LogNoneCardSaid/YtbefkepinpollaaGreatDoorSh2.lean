/- The Go functions' code as the abstract machine's, over values; each is the code that the machine makes of the program's (theorems s_.._eq). No condition. -/
import Derived.Test.YtbefkepinpollaaGreatDoorAmLoop
import Derived.Test.YtbefkepinpollaaGreatDoorProg
import Derived.KernelRfl
namespace Go.Proofs.YtbefkepinpollaaGreatDoor.sh2
open Go Go.Am Go.Proofs
set_option linter.unusedVariables false
set_option maxRecDepth 100000
abbrev f_bytes_Clone : Nat := 49
abbrev f_clock_Cmp : Nat := 73
abbrev f_clock_Less : Nat := 39
abbrev f_clock_Valid : Nat := 66
abbrev f_clock_node : Nat := 104
abbrev f_cmp_Compare_int : Nat := 107
abbrev f_cmp_Compare_int64 : Nat := 106
abbrev f_codec_Reader_Bytes : Nat := 22
abbrev f_codec_Reader_ID : Nat := 84
abbrev f_codec_Reader_Num : Nat := 21
abbrev f_codec_Reader_Text : Nat := 85
abbrev f_codec_Reader_Vector : Nat := 86
abbrev f_codec_Reader_fails : Nat := 51
abbrev f_codec_Writer_Bytes : Nat := 44
abbrev f_codec_Writer_ID : Nat := 74
abbrev f_codec_Writer_Num : Nat := 43
abbrev f_codec_Writer_Text : Nat := 75
abbrev f_codec_Writer_Vector : Nat := 76
abbrev f_codec_Writer_may : Nat := 78
abbrev f_codec_cut : Nat := 110
abbrev f_codec_nums : Nat := 109
abbrev f_codec_stamp : Nat := 108
abbrev f_codec_vector : Nat := 111
abbrev f_container_heap_down : Nat := 64
abbrev f_container_heap_up : Nat := 63
abbrev f_device_Device_Blocks : Nat := 91
abbrev f_int_strconv_FormatInt : Nat := 114
abbrev f_localdir_Fine : Nat := 115
abbrev f_localfs_Capacity : Nat := 90
abbrev f_localfs_FS_Sync : Nat := 36
abbrev f_localfs_FS_change : Nat := 79
abbrev f_localfs_FS_commit : Nat := 112
abbrev f_localfs_FS_filed : Nat := 50
abbrev f_localfs_FS_turned : Nat := 113
abbrev f_localfs_FS_walk : Nat := 83
abbrev f_localfs_Mkfs : Nat := 87
abbrev f_localfs_folder : Nat := 118
abbrev f_localfs_may : Nat := 88
abbrev f_localfs_object_kid : Nat := 116
abbrev f_localfs_replacing_do : Nat := 80
abbrev f_localfs_writing_do : Nat := 82
abbrev f_ops_Name : Nat := 68
abbrev f_ops_Root : Nat := 69
abbrev f_ops_Trash : Nat := 71
abbrev f_ops_earlier : Nat := 70
abbrev f_ops_seen : Nat := 67
abbrev f_strconv_FormatInt : Nat := 81
abbrev f_strings_ContainsAny : Nat := 105
abbrev f_vector_Ahead : Nat := 72
abbrev f_vector_At : Nat := 32
abbrev f_vector_With_1 : Nat := 77
abbrev f_wal_Format : Nat := 117
abbrev f_wal_Mount : Nat := 89
abbrev f_wal_Volume_Blocks : Nat := 92
abbrev f_wal_Volume_Sync : Nat := 65
abbrev f_wal_Volume_dead : Nat := 102
abbrev f_wal_Volume_keep : Nat := 103

noncomputable def s_container_heap_upE0 (cf : CallK) (fuel : Nat) (K : AV → Hp → Prop) : Hp → Prop := fun h =>
K (.tup []) h
noncomputable def s_container_heap_upL1B (cf : CallK) (fuel : Nat) (e0 : Hp → Prop) (t0 : AV) (ih1 : AV → Hp → Prop) : AV → Hp → Prop := fun t1 h =>
(fun (e2 : AV → Hp → Prop) =>
vArith Go.Am.subI t1 (.int .i64 1) h fun t6 h =>
vDiv false t6 (.int .i64 2) h fun t7 h =>
vEql t7 t1 h fun t10 h =>
joinG (fun g7 => grdV t10 false (vMov t0 h g7) (g7 undefV h)) fun t12 h =>
joinG (fun g6 => grdV t10 false (vMov t1 h g6) (g6 undefV h)) fun t13 h =>
joinG (fun g5 => grdV t10 false (vMov t7 h g5) (g5 undefV h)) fun t14 h =>
joinG (fun g4 => grdV t10 false (vCallM t12 (selOf Tryz.prog "Less") [t13, t14] cf h g4) (g4 undefV h)) fun t15 h =>
joinG (fun g3 => grdV t10 false (vNot t15 h g3) (g3 undefV h)) fun t16 h =>
vPick t10 (.bool .true) t16 h fun t17 h =>
vIf t17 (
e0 h) (
vCallM t0 (selOf Tryz.prog "Swap") [t7, t1] cf h fun t21 h =>
e2 t7 h)) fun t1 h =>
ih1 t1 h
noncomputable def s_container_heap_upL1 (cf : CallK) (fuel : Nat) (e0 : Hp → Prop) (t0 : AV) (m : Nat) : AV → Hp → Prop := Nat.rec (motive := fun _ => AV → Hp → Prop) (fun _ _ => False) (fun _ ih => s_container_heap_upL1B cf fuel e0 t0 ih) m
theorem s_container_heap_upL1_succ (cf : CallK) (fuel : Nat) (e0 : Hp → Prop) (t0 : AV) (m : Nat) : s_container_heap_upL1 cf fuel e0 t0 (m + 1) = s_container_heap_upL1B cf fuel e0 t0 (s_container_heap_upL1 cf fuel e0 t0 m) := rfl
noncomputable def s_container_heap_up (cf : CallK) (fuel : Nat) (t0 : AV) (t1 : AV) (h : Hp) (K : AV → Hp → Prop) : Prop :=
(fun (e0 : Hp → Prop) =>
s_container_heap_upL1 cf fuel (s_container_heap_upE0 cf fuel K) t0 fuel t1 h) (s_container_heap_upE0 cf fuel K)
theorem s_container_heap_up_eq (cf : CallK) (fuel : Nat) (t0 : AV) (t1 : AV) (h : Hp) (K : AV → Hp → Prop) : s_container_heap_up cf fuel t0 t1 h K = deepT (tabOf Tryz.prog) f_container_heap_up cf fuel [t0, t1] h K :=
  Eq.trans (by kernel_rfl) (rFun (by kernel_rfl) (rBlock (by kernel_rfl) (rLoop (by kernel_rfl) (fun m1 fr h => s_container_heap_upL1 cf fuel (s_container_heap_upE0 cf fuel K) (getS fr (gpos 0)) m1 (getS fr (gpos 1)) h) (funext fun fr => funext fun h => by kernel_rfl) fun m1 => rCast (funext fun fr => funext fun h => by kernel_rfl) rExact)))

noncomputable def s_container_heap_downE0 (cf : CallK) (fuel : Nat) (K : AV → Hp → Prop) (t1 : AV) : AV → Hp → Prop := fun t7 h =>
vGtr t7 t1 h fun t47 h =>
K t47 h
noncomputable def s_container_heap_downB8 (cf : CallK) (fuel : Nat) (e0 : AV → Hp → Prop) (e2 : AV → Hp → Prop) (t2 : AV) (t14 : AV) (t7 : AV) (t0 : AV) (h : Hp) : Prop :=
(fun (j3 : AV → Hp → Prop) =>
vAdd t14 (.int .i64 1) h fun t24 h =>
vLss t24 t2 h fun t27 h =>
joinG (fun g7 => grdV t27 true (vMov t0 h g7) (g7 undefV h)) fun t29 h =>
joinG (fun g6 => grdV t27 true (vMov t24 h g6) (g6 undefV h)) fun t30 h =>
joinG (fun g5 => grdV t27 true (vMov t14 h g5) (g5 undefV h)) fun t31 h =>
joinG (fun g4 => grdV t27 true (vCallM t29 (selOf Tryz.prog "Less") [t30, t31] cf h g4) (g4 undefV h)) fun t32 h =>
vPick t27 t32 (.bool .false) h fun t33 h =>
vIf t33 (
j3 t24 h) (
j3 t14 h)) fun t9 h =>
vCallM t0 (selOf Tryz.prog "Less") [t9, t7] cf h fun t38 h =>
vNot t38 h fun t39 h =>
vIf t39 (
e0 t7 h) (
vCallM t0 (selOf Tryz.prog "Swap") [t7, t9] cf h fun t43 h =>
e2 t9 h)
noncomputable def s_container_heap_downL1B (cf : CallK) (fuel : Nat) (e0 : AV → Hp → Prop) (t0 : AV) (t1 : AV) (t2 : AV) (ih1 : AV → Hp → Prop) : AV → Hp → Prop := fun t7 h =>
(fun (e2 : AV → Hp → Prop) =>
vArith Go.Am.mulI (.int .i64 2) t7 h fun t13 h =>
vAdd t13 (.int .i64 1) h fun t14 h =>
vGeq t14 t2 h fun t17 h =>
joinG (fun g10 => grdV t17 false (vMov t14 h g10) (g10 undefV h)) fun t19 h =>
joinG (fun g9 => grdV t17 false (vLss t19 (.int .i64 0) h g9) (g9 undefV h)) fun t20 h =>
vPick t17 (.bool .true) t20 h fun t21 h =>
vIf t21 (
e0 t7 h) (
s_container_heap_downB8 cf fuel e0 e2 t2 t14 t7 t0 h)) fun t7 h =>
ih1 t7 h
noncomputable def s_container_heap_downL1 (cf : CallK) (fuel : Nat) (e0 : AV → Hp → Prop) (t0 : AV) (t1 : AV) (t2 : AV) (m : Nat) : AV → Hp → Prop := Nat.rec (motive := fun _ => AV → Hp → Prop) (fun _ _ => False) (fun _ ih => s_container_heap_downL1B cf fuel e0 t0 t1 t2 ih) m
theorem s_container_heap_downL1_succ (cf : CallK) (fuel : Nat) (e0 : AV → Hp → Prop) (t0 : AV) (t1 : AV) (t2 : AV) (m : Nat) : s_container_heap_downL1 cf fuel e0 t0 t1 t2 (m + 1) = s_container_heap_downL1B cf fuel e0 t0 t1 t2 (s_container_heap_downL1 cf fuel e0 t0 t1 t2 m) := rfl
noncomputable def s_container_heap_down (cf : CallK) (fuel : Nat) (t0 : AV) (t1 : AV) (t2 : AV) (h : Hp) (K : AV → Hp → Prop) : Prop :=
(fun (e0 : AV → Hp → Prop) =>
s_container_heap_downL1 cf fuel (s_container_heap_downE0 cf fuel K t1) t0 t1 t2 fuel t1 h) (s_container_heap_downE0 cf fuel K t1)
theorem s_container_heap_down_eq (cf : CallK) (fuel : Nat) (t0 : AV) (t1 : AV) (t2 : AV) (h : Hp) (K : AV → Hp → Prop) : s_container_heap_down cf fuel t0 t1 t2 h K = deepT (tabOf Tryz.prog) f_container_heap_down cf fuel [t0, t1, t2] h K :=
  Eq.trans (by kernel_rfl) (rFun (by kernel_rfl) (rSeq (by kernel_rfl) (rSeq (by kernel_rfl) (rSeq (by kernel_rfl) rExact (rBlock (by kernel_rfl) (rLoop (by kernel_rfl) (fun m1 fr h => s_container_heap_downL1 cf fuel (s_container_heap_downE0 cf fuel K (getS fr (gpos 1))) (getS fr (gpos 0)) (getS fr (gpos 1)) (getS fr (gpos 2)) m1 (getS fr (gpos 7)) h) (funext fun fr => funext fun h => by kernel_rfl) fun m1 => rCast (funext fun fr => funext fun h => by kernel_rfl) rExact))) rExact) rExact))

noncomputable def s_wal_Volume_SyncB3 (cf : CallK) (fuel : Nat) (K : AV → Hp → Prop) (t0 : AV) (h : Hp) : Prop :=
vNilck t0 h fun t10 h =>
vFaddr 4 t10 h fun t11 h =>
vLoad2 t11 h fun t12 h =>
joinG (fun g2 => grdV t12 true (vMov t0 h g2) (g2 undefV h)) fun t14 h =>
joinG (fun g1 => grdV t12 true (cf f_wal_Volume_keep [t14] h g1) (g1 undefV h)) fun t15 h =>
joinG (fun g0 => grdV t12 true (vNeq t15 (.int .i64 0) h g0) (g0 undefV h)) fun t16 h =>
vPick t12 t16 (.bool .false) h fun t17 h =>
vIf t17 (
vNilck t0 h fun t19 h =>
vFaddr 5 t19 h fun t20 h =>
vStore 1 t20 (.bool .true) h fun _ h =>
K (.int .i64 5) h) (
vNilck t0 h fun t22 h =>
vFaddr 4 t22 h fun t23 h =>
vStore 1 t23 (.bool .false) h fun _ h =>
K (.int .i64 0) h)
noncomputable def s_wal_Volume_Sync (cf : CallK) (fuel : Nat) (t0 : AV) (h : Hp) (K : AV → Hp → Prop) : Prop :=
vEq false eqP t0 .nilptr h fun t4 h =>
joinG (fun g5 => grdV t4 false (vMov t0 h g5) (g5 undefV h)) fun t6 h =>
joinG (fun g4 => grdV t4 false (cf f_wal_Volume_dead [t6] h g4) (g4 undefV h)) fun t7 h =>
vPick t4 (.bool .true) t7 h fun t8 h =>
vIf t8 (
K (.int .i64 5) h) (
s_wal_Volume_SyncB3 cf fuel K t0 h)
theorem s_wal_Volume_Sync_eq (cf : CallK) (fuel : Nat) (t0 : AV) (h : Hp) (K : AV → Hp → Prop) : s_wal_Volume_Sync cf fuel t0 h K = deepT (tabOf Tryz.prog) f_wal_Volume_Sync cf fuel [t0] h K :=
  Eq.trans (by kernel_rfl) (rFun (by kernel_rfl) rExact)

noncomputable def s_clock_Valid (cf : CallK) (fuel : Nat) (t0 : AV) (h : Hp) (K : AV → Hp → Prop) : Prop :=
vBox 2 t0 h fun t1 h =>
vFaddr 0 t1 h fun t3 h =>
vLoad2 t3 h fun t4 h =>
vGeq t4 (.int .i64 1) h fun t5 h =>
joinG (fun g5 => grdV t5 true (vFaddr 0 t1 h g5) (g5 undefV h)) fun t7 h =>
joinG (fun g4 => grdV t5 true (vLoad2 t7 h g4) (g4 undefV h)) fun t8 h =>
joinG (fun g3 => grdV t5 true (vLeq t8 (.int .i64 1152921504606846976) h g3) (g3 undefV h)) fun t9 h =>
vPick t5 t9 (.bool .false) h fun t10 h =>
joinG (fun g2 => grdV t10 true (vFaddr 1 t1 h g2) (g2 undefV h)) fun t12 h =>
joinG (fun g1 => grdV t10 true (vLoad2 t12 h g1) (g1 undefV h)) fun t13 h =>
joinG (fun g0 => grdV t10 true (cf f_clock_node [t13] h g0) (g0 undefV h)) fun t14 h =>
vPick t10 t14 (.bool .false) h fun t15 h =>
K t15 h
theorem s_clock_Valid_eq (cf : CallK) (fuel : Nat) (t0 : AV) (h : Hp) (K : AV → Hp → Prop) : s_clock_Valid cf fuel t0 h K = deepT (tabOf Tryz.prog) f_clock_Valid cf fuel [t0] h K :=
  Eq.trans (by kernel_rfl) (rFun (by kernel_rfl) rExact)

noncomputable def s_ops_seenE1 (cf : CallK) (fuel : Nat) (K : AV → Hp → Prop) (t1 : AV) : Hp → Prop := fun h =>
vFaddr 10 t1 h fun t40 h =>
vLoad2 t40 h fun t41 h =>
vFaddr 0 t1 h fun t42 h =>
vFaddr 1 t42 h fun t43 h =>
vLoad2 t43 h fun t44 h =>
vFaddr 2 t1 h fun t46 h =>
vLoad2 t46 h fun t47 h =>
vArith Go.Am.subI t47 (.int .i64 1) h fun t48 h =>
cf f_vector_At [t41, t44] h fun t45 h =>
vLoad2 t46 h fun c _ => gd (sameV c t47) (
vEql t45 t48 h fun t49 h =>
K t49 h)
noncomputable def s_ops_seenL2B (cf : CallK) (fuel : Nat) (K : AV → Hp → Prop) (e1 : Hp → Prop) (t1 : AV) (t27 : AV) (t28 : AV) (ih2 : AV → Hp → Prop) : AV → Hp → Prop := fun t29 h =>
vLss t29 t28 h fun t30 h =>
vIf t30 (
(fun (e3 : Hp → Prop) =>
vIaddr 1 t27 t29 h fun t31 h =>
vLoad2 t31 h fun t32 h =>
vLss t32 (.int .i64 0) h fun t34 h =>
joinG (fun g5 => grdV t34 false (vMov t32 h g5) (g5 undefV h)) fun t36 h =>
joinG (fun g4 => grdV t34 false (vGtr t36 (.int .i64 1152921504606846976) h g4) (g4 undefV h)) fun t37 h =>
vPick t34 (.bool .true) t37 h fun t38 h =>
vIf t38 (
K (.bool .false) h) (
e3 h)) fun h =>
vAdd t29 (.int .i64 1) h fun t39 h =>
ih2 t39 h) (
e1 h)
noncomputable def s_ops_seenL2 (cf : CallK) (fuel : Nat) (K : AV → Hp → Prop) (e1 : Hp → Prop) (t1 : AV) (t27 : AV) (t28 : AV) (m : Nat) : AV → Hp → Prop := Nat.rec (motive := fun _ => AV → Hp → Prop) (fun _ _ => False) (fun _ ih => s_ops_seenL2B cf fuel K e1 t1 t27 t28 ih) m
theorem s_ops_seenL2_succ (cf : CallK) (fuel : Nat) (K : AV → Hp → Prop) (e1 : Hp → Prop) (t1 : AV) (t27 : AV) (t28 : AV) (m : Nat) : s_ops_seenL2 cf fuel K e1 t1 t27 t28 (m + 1) = s_ops_seenL2B cf fuel K e1 t1 t27 t28 (s_ops_seenL2 cf fuel K e1 t1 t27 t28 m) := rfl
noncomputable def s_ops_seenE0 (cf : CallK) (fuel : Nat) (K : AV → Hp → Prop) (t1 : AV) : AV → Hp → Prop := fun t3 h =>
vGtr t3 (.int .i64 64) h fun t23 h =>
vIf t23 (
K (.bool .false) h) (
vFaddr 10 t1 h fun t24 h =>
vLoad2 t24 h fun t25 h =>
vSlice2 1 t25 none (some t3) h fun t27 h =>
vLenL2 t27 h fun t28 h =>
(fun (e1 : Hp → Prop) =>
s_ops_seenL2 cf fuel K (s_ops_seenE1 cf fuel K t1) t1 t27 t28 fuel (.int .i64 0) h) (s_ops_seenE1 cf fuel K t1))
noncomputable def s_ops_seenL6B (cf : CallK) (fuel : Nat) (e0 : AV → Hp → Prop) (t1 : AV) (ih6 : AV → Hp → Prop) : AV → Hp → Prop := fun t3 h =>
vGtr t3 (.int .i64 0) h fun t10 h =>
joinG (fun g15 => grdV t10 true (vFaddr 10 t1 h g15) (g15 undefV h)) fun t12 h =>
joinG (fun g14 => grdV t10 true (vLoad2 t12 h g14) (g14 undefV h)) fun t13 h =>
joinG (fun g13 => grdV t10 true (vMov t3 h g13) (g13 undefV h)) fun t14 h =>
joinG (fun g12 => grdV t10 true (vArith Go.Am.subI t14 (.int .i64 1) h g12) (g12 undefV h)) fun t15 h =>
joinG (fun g11 => grdV t10 true (vIaddr 1 t13 t15 h g11) (g11 undefV h)) fun t16 h =>
joinG (fun g10 => grdV t10 true (vLoad2 t16 h g10) (g10 undefV h)) fun t17 h =>
joinG (fun g9 => grdV t10 true (vEql t17 (.int .i64 0) h g9) (g9 undefV h)) fun t18 h =>
vPick t10 t18 (.bool .false) h fun t19 h =>
vIf t19 (
(fun (e7 : AV → Hp → Prop) =>
vArith Go.Am.subI t3 (.int .i64 1) h fun t21 h =>
e7 t21 h) fun t3_8 h =>
ih6 t3_8 h) (
e0 t3 h)
noncomputable def s_ops_seenL6 (cf : CallK) (fuel : Nat) (e0 : AV → Hp → Prop) (t1 : AV) (m : Nat) : AV → Hp → Prop := Nat.rec (motive := fun _ => AV → Hp → Prop) (fun _ _ => False) (fun _ ih => s_ops_seenL6B cf fuel e0 t1 ih) m
theorem s_ops_seenL6_succ (cf : CallK) (fuel : Nat) (e0 : AV → Hp → Prop) (t1 : AV) (m : Nat) : s_ops_seenL6 cf fuel e0 t1 (m + 1) = s_ops_seenL6B cf fuel e0 t1 (s_ops_seenL6 cf fuel e0 t1 m) := rfl
noncomputable def s_ops_seen (cf : CallK) (fuel : Nat) (t0 : AV) (h : Hp) (K : AV → Hp → Prop) : Prop :=
vBox 11 t0 h fun t1 h =>
vFaddr 10 t1 h fun t6 h =>
vLoad2 t6 h fun t7 h =>
vLenL2 t7 h fun t8 h =>
(fun (e0 : AV → Hp → Prop) =>
s_ops_seenL6 cf fuel (s_ops_seenE0 cf fuel K t1) t1 fuel t8 h) (s_ops_seenE0 cf fuel K t1)
theorem s_ops_seen_eq (cf : CallK) (fuel : Nat) (t0 : AV) (h : Hp) (K : AV → Hp → Prop) : s_ops_seen cf fuel t0 h K = deepT (tabOf Tryz.prog) f_ops_seen cf fuel [t0] h K :=
  Eq.trans (by kernel_rfl) (rFun (by kernel_rfl) (rSeq (by kernel_rfl) (rSeq (by kernel_rfl) (rSeq (by kernel_rfl) (rSeq (by kernel_rfl) (rSeq (by kernel_rfl) rExact (rSeq (by kernel_rfl) (rBlock (by kernel_rfl) (rLoop (by kernel_rfl) (fun m2 fr h => s_ops_seenL2 cf fuel K (s_ops_seenE1 cf fuel K (getS fr (gpos 1))) (getS fr (gpos 1)) (getS fr (gpos 27)) (getS fr (gpos 28)) m2 (getS fr (gpos 29)) h) (funext fun fr => funext fun h => by kernel_rfl) fun m2 => rCast (funext fun fr => funext fun h => by kernel_rfl) rExact)) rExact)) rExact) (rBlock (by kernel_rfl) (rLoop (by kernel_rfl) (fun m6 fr h => s_ops_seenL6 cf fuel (s_ops_seenE0 cf fuel K (getS fr (gpos 1))) (getS fr (gpos 1)) m6 (getS fr (gpos 3)) h) (funext fun fr => funext fun h => by kernel_rfl) fun m6 => rCast (funext fun fr => funext fun h => by kernel_rfl) rExact))) rExact) rExact))

noncomputable def s_ops_Name (cf : CallK) (fuel : Nat) (t0 : AV) (h : Hp) (K : AV → Hp → Prop) : Prop :=
(fun (e0 : Hp → Prop) =>
vEql t0 (.str 0 0) h fun t5 h =>
joinG (fun g6 => grdV t5 false (vMov t0 h g6) (g6 undefV h)) fun t7 h =>
joinG (fun g5 => grdV t5 false (vEql t7 (.str 1 46) h g5) (g5 undefV h)) fun t8 h =>
vPick t5 (.bool .true) t8 h fun t9 h =>
joinG (fun g4 => grdV t9 false (vMov t0 h g4) (g4 undefV h)) fun t11 h =>
joinG (fun g3 => grdV t9 false (vEql t11 (.str 2 11822) h g3) (g3 undefV h)) fun t12 h =>
vPick t9 (.bool .true) t12 h fun t13 h =>
joinG (fun g2 => grdV t13 false (vMov t0 h g2) (g2 undefV h)) fun t15 h =>
joinG (fun g1 => grdV t13 false (cf f_strings_ContainsAny [t15, (.str 3 3080448)] h g1) (g1 undefV h)) fun t16 h =>
vPick t13 (.bool .true) t16 h fun t17 h =>
vIf t17 (
K (.int .i64 22) h) (
vLenS t0 h fun t20 h =>
vGtr t20 (.int .i64 64) h fun t21 h =>
vIf t21 (
K (.int .i64 36) h) (
e0 h))) fun h =>
K (.int .i64 0) h
theorem s_ops_Name_eq (cf : CallK) (fuel : Nat) (t0 : AV) (h : Hp) (K : AV → Hp → Prop) : s_ops_Name cf fuel t0 h K = deepT (tabOf Tryz.prog) f_ops_Name cf fuel [t0] h K :=
  Eq.trans (by kernel_rfl) (rFun (by kernel_rfl) rExact)

noncomputable def s_ops_Root (cf : CallK) (fuel : Nat) (h : Hp) (K : AV → Hp → Prop) : Prop :=
vBox 2 (.agg [(.int .i64 0), (.int .i64 0)]) h fun t0 h =>
vBuild [(.int .i64 0), (.int .i64 0)] [] h fun t1 h =>
vStore 2 t0 t1 h fun _ h =>
vLoadA 2 t0 h fun r0 _ => K r0 h
theorem s_ops_Root_eq (cf : CallK) (fuel : Nat) (h : Hp) (K : AV → Hp → Prop) : s_ops_Root cf fuel h K = deepT (tabOf Tryz.prog) f_ops_Root cf fuel [] h K :=
  Eq.trans (by kernel_rfl) (rFun (by kernel_rfl) rExact)

noncomputable def s_ops_earlier (cf : CallK) (fuel : Nat) (t0 : AV) (t1 : AV) (h : Hp) (K : AV → Hp → Prop) : Prop :=
vBox 2 t0 h fun t2 h =>
vBox 11 t1 h fun t3 h =>
vLoadA 2 t2 h fun t5 h =>
cf f_clock_Valid [t5] h fun t6 h =>
joinG (fun g3 => grdV t6 true (vLoadA 2 t2 h g3) (g3 undefV h)) fun t8 h =>
joinG (fun g2 => grdV t6 true (vFaddr 0 t3 h g2) (g2 undefV h)) fun t9 h =>
joinG (fun g1 => grdV t6 true (vLoadA 2 t9 h g1) (g1 undefV h)) fun t10 h =>
joinG (fun g0 => grdV t6 true (cf f_clock_Less [t8, t10] h g0) (g0 undefV h)) fun t11 h =>
vPick t6 t11 (.bool .false) h fun t12 h =>
K t12 h
theorem s_ops_earlier_eq (cf : CallK) (fuel : Nat) (t0 : AV) (t1 : AV) (h : Hp) (K : AV → Hp → Prop) : s_ops_earlier cf fuel t0 t1 h K = deepT (tabOf Tryz.prog) f_ops_earlier cf fuel [t0, t1] h K :=
  Eq.trans (by kernel_rfl) (rFun (by kernel_rfl) rExact)

noncomputable def s_ops_Trash (cf : CallK) (fuel : Nat) (h : Hp) (K : AV → Hp → Prop) : Prop :=
vBox 2 (.agg [(.int .i64 0), (.int .i64 0)]) h fun t0 h =>
vBuild [(.int .i64 0), (.int .i64 0)] [(1, 1, (.int .i64 1))] h fun t1 h =>
vStore 2 t0 t1 h fun _ h =>
vLoadA 2 t0 h fun r0 _ => K r0 h
theorem s_ops_Trash_eq (cf : CallK) (fuel : Nat) (h : Hp) (K : AV → Hp → Prop) : s_ops_Trash cf fuel h K = deepT (tabOf Tryz.prog) f_ops_Trash cf fuel [] h K :=
  Eq.trans (by kernel_rfl) (rFun (by kernel_rfl) rExact)

noncomputable def s_vector_AheadE0 (cf : CallK) (fuel : Nat) (K : AV → Hp → Prop) : AV → Hp → Prop := fun t5 h =>
K t5 h
noncomputable def s_vector_AheadL1B (cf : CallK) (fuel : Nat) (e0 : AV → Hp → Prop) (t0 : AV) (t1 : AV) (ih1 : AV → AV → Hp → Prop) : AV → AV → Hp → Prop := fun t5 t7 h =>
vLss t7 (.int .i64 64) h fun t8 h =>
vIf t8 (
(fun (e2 : AV → Hp → Prop) =>
cf f_vector_At [t0, t7] h fun t12 h =>
cf f_vector_At [t1, t7] h fun t15 h =>
vGtr t12 t15 h fun t16 h =>
vIf t16 (
vBslice 1 1 false [(.int .i64 0)] [(0, 1, t7)] h fun t19 h =>
vAppend2 1 8 false t5 t19 h fun t20 h =>
e2 t20 h) (
e2 t5 h)) fun t5 h =>
vAdd t7 (.int .i64 1) h fun t21 h =>
ih1 t5 t21 h) (
e0 t5 h)
noncomputable def s_vector_AheadL1 (cf : CallK) (fuel : Nat) (e0 : AV → Hp → Prop) (t0 : AV) (t1 : AV) (m : Nat) : AV → AV → Hp → Prop := Nat.rec (motive := fun _ => AV → AV → Hp → Prop) (fun _ _ _ => False) (fun _ ih => s_vector_AheadL1B cf fuel e0 t0 t1 ih) m
theorem s_vector_AheadL1_succ (cf : CallK) (fuel : Nat) (e0 : AV → Hp → Prop) (t0 : AV) (t1 : AV) (m : Nat) : s_vector_AheadL1 cf fuel e0 t0 t1 (m + 1) = s_vector_AheadL1B cf fuel e0 t0 t1 (s_vector_AheadL1 cf fuel e0 t0 t1 m) := rfl
noncomputable def s_vector_Ahead (cf : CallK) (fuel : Nat) (t0 : AV) (t1 : AV) (h : Hp) (K : AV → Hp → Prop) : Prop :=
(fun (e0 : AV → Hp → Prop) =>
s_vector_AheadL1 cf fuel (s_vector_AheadE0 cf fuel K) t0 t1 fuel .nilslice (.int .i64 0) h) (s_vector_AheadE0 cf fuel K)
theorem s_vector_Ahead_eq (cf : CallK) (fuel : Nat) (t0 : AV) (t1 : AV) (h : Hp) (K : AV → Hp → Prop) : s_vector_Ahead cf fuel t0 t1 h K = deepT (tabOf Tryz.prog) f_vector_Ahead cf fuel [t0, t1] h K :=
  Eq.trans (by kernel_rfl) (rFun (by kernel_rfl) (rSeq (by kernel_rfl) (rSeq (by kernel_rfl) (rSeq (by kernel_rfl) rExact (rSeq (by kernel_rfl) (rBlock (by kernel_rfl) (rLoop (by kernel_rfl) (fun m1 fr h => s_vector_AheadL1 cf fuel (s_vector_AheadE0 cf fuel K) (getS fr (gpos 0)) (getS fr (gpos 1)) m1 (getS fr (gpos 5)) (getS fr (gpos 7)) h) (funext fun fr => funext fun h => by kernel_rfl) fun m1 => rCast (funext fun fr => funext fun h => by kernel_rfl) rExact)) rExact)) rExact) rExact))

noncomputable def s_clock_Cmp (cf : CallK) (fuel : Nat) (t0 : AV) (t1 : AV) (h : Hp) (K : AV → Hp → Prop) : Prop :=
vBox 2 t0 h fun t2 h =>
vBox 2 t1 h fun t3 h =>
vFaddr 0 t2 h fun t6 h =>
vLoad2 t6 h fun t7 h =>
vFaddr 0 t3 h fun t8 h =>
vLoad2 t8 h fun t9 h =>
cf f_cmp_Compare_int64 [t7, t9] h fun t10 h =>
vNeq t10 (.int .i64 0) h fun t12 h =>
vIf t12 (
K t10 h) (
vFaddr 1 t2 h fun t14 h =>
vLoad2 t14 h fun t15 h =>
vFaddr 1 t3 h fun t16 h =>
vLoad2 t16 h fun t17 h =>
cf f_cmp_Compare_int [t15, t17] h fun t18 h =>
K t18 h)
theorem s_clock_Cmp_eq (cf : CallK) (fuel : Nat) (t0 : AV) (t1 : AV) (h : Hp) (K : AV → Hp → Prop) : s_clock_Cmp cf fuel t0 t1 h K = deepT (tabOf Tryz.prog) f_clock_Cmp cf fuel [t0, t1] h K :=
  Eq.trans (by kernel_rfl) (rFun (by kernel_rfl) rExact)

noncomputable def s_codec_Writer_ID (cf : CallK) (fuel : Nat) (t0 : AV) (t1 : AV) (h : Hp) (K : AV → Hp → Prop) : Prop :=
vBox 2 t1 h fun t3 h =>
vLoadA 2 t3 h fun t5 h =>
cf f_codec_stamp [t5] h fun t6 h =>
cf f_codec_Writer_may [t0, t6] h fun t7 h =>
vIf t7 (
vFunc 43 [t0] [] h fun t9 h =>
vFaddr 0 t3 h fun t10 h =>
vLoad2 t10 h fun t11 h =>
vFaddr 1 t3 h fun t12 h =>
vLoad2 t12 h fun t13 h =>
vBslice 1 2 false [(.int .i64 0)] [(0, 1, t11), (1, 1, t13)] h fun t14 h =>
cf f_codec_nums [t9, t14] h fun t15 h =>
K (.tup []) h) (
K (.tup []) h)
theorem s_codec_Writer_ID_eq (cf : CallK) (fuel : Nat) (t0 : AV) (t1 : AV) (h : Hp) (K : AV → Hp → Prop) : s_codec_Writer_ID cf fuel t0 t1 h K = deepT (tabOf Tryz.prog) f_codec_Writer_ID cf fuel [t0, t1] h K :=
  Eq.trans (by kernel_rfl) (rFun (by kernel_rfl) rExact)

noncomputable def s_codec_Writer_Text (cf : CallK) (fuel : Nat) (t0 : AV) (t1 : AV) (h : Hp) (K : AV → Hp → Prop) : Prop :=
vToBytes t1 h fun t6 h =>
cf f_codec_Writer_Bytes [t0, t6] h fun t7 h =>
K (.tup []) h
theorem s_codec_Writer_Text_eq (cf : CallK) (fuel : Nat) (t0 : AV) (t1 : AV) (h : Hp) (K : AV → Hp → Prop) : s_codec_Writer_Text cf fuel t0 t1 h K = deepT (tabOf Tryz.prog) f_codec_Writer_Text cf fuel [t0, t1] h K :=
  Eq.trans (by kernel_rfl) (rFun (by kernel_rfl) rExact)

noncomputable def s_codec_Writer_Vector (cf : CallK) (fuel : Nat) (t0 : AV) (t1 : AV) (h : Hp) (K : AV → Hp → Prop) : Prop :=
cf f_codec_cut [t1] h fun t5 h =>
cf f_codec_vector [t5] h fun t8 h =>
cf f_codec_Writer_may [t0, t8] h fun t9 h =>
vIf t9 (
vLenL2 t5 h fun t12 h =>
cf f_codec_Writer_Num [t0, t12] h fun t13 h =>
vFunc 43 [t0] [] h fun t15 h =>
cf f_codec_nums [t15, t5] h fun t17 h =>
K (.tup []) h) (
K (.tup []) h)
theorem s_codec_Writer_Vector_eq (cf : CallK) (fuel : Nat) (t0 : AV) (t1 : AV) (h : Hp) (K : AV → Hp → Prop) : s_codec_Writer_Vector cf fuel t0 t1 h K = deepT (tabOf Tryz.prog) f_codec_Writer_Vector cf fuel [t0, t1] h K :=
  Eq.trans (by kernel_rfl) (rFun (by kernel_rfl) rExact)

noncomputable def s_vector_With_1 (cf : CallK) (fuel : Nat) (t0 : AV) (t1 : AV) (t2 : AV) (t3 : AV) (h : Hp) (K : AV → Hp → Prop) : Prop :=
vLoad2 t1 h fun t7 h =>
vEql t0 t7 h fun t8 h =>
vIf t8 (
vLoad2 t2 h fun t9 h =>
K t9 h) (
vLoad2 t3 h fun t10 h =>
cf f_vector_At [t10, t0] h fun t12 h =>
K t12 h)
theorem s_vector_With_1_eq (cf : CallK) (fuel : Nat) (t0 : AV) (t1 : AV) (t2 : AV) (t3 : AV) (h : Hp) (K : AV → Hp → Prop) : s_vector_With_1 cf fuel t0 t1 t2 t3 h K = deepT (tabOf Tryz.prog) f_vector_With_1 cf fuel [t0, t1, t2, t3] h K :=
  Eq.trans (by kernel_rfl) (rFun (by kernel_rfl) rExact)

noncomputable def s_codec_Writer_may (cf : CallK) (fuel : Nat) (t0 : AV) (t1 : AV) (h : Hp) (K : AV → Hp → Prop) : Prop :=
vEq false eqP t0 .nilptr h fun t6 h =>
joinG (fun g3 => grdV t6 false (vMov t0 h g3) (g3 undefV h)) fun t8 h =>
joinG (fun g2 => grdV t6 false (vNilck t8 h g2) (g2 undefV h)) fun t9 h =>
joinG (fun g1 => grdV t6 false (vFaddr 1 t9 h g1) (g1 undefV h)) fun t10 h =>
joinG (fun g0 => grdV t6 false (vLoad2 t10 h g0) (g0 undefV h)) fun t11 h =>
vPick t6 (.bool .true) t11 h fun t12 h =>
vIf t12 (
K (.bool .false) h) (
vNot t1 h fun t15 h =>
vNilck t0 h fun t16 h =>
vFaddr 1 t16 h fun t17 h =>
vStore 1 t17 t15 h fun _ h =>
K t1 h)
theorem s_codec_Writer_may_eq (cf : CallK) (fuel : Nat) (t0 : AV) (t1 : AV) (h : Hp) (K : AV → Hp → Prop) : s_codec_Writer_may cf fuel t0 t1 h K = deepT (tabOf Tryz.prog) f_codec_Writer_may cf fuel [t0, t1] h K :=
  Eq.trans (by kernel_rfl) (rFun (by kernel_rfl) rExact)

noncomputable def s_localfs_FS_changeB24 (cf : CallK) (fuel : Nat) (K : AV → Hp → Prop) (e0 : Hp → Prop) (t12 : AV) (t0 : AV) (h : Hp) : Prop :=
vNilck t12 h fun t24 h =>
vFaddr 5 t24 h fun t25 h =>
vLoad2 t25 h fun t26 h =>
joinG (fun g23 => grdV t26 false (vMov t12 h g23) (g23 undefV h)) fun t28 h =>
joinG (fun g22 => grdV t26 false (vNilck t28 h g22) (g22 undefV h)) fun t29 h =>
joinG (fun g21 => grdV t26 false (vFaddr 4 t29 h g21) (g21 undefV h)) fun t30 h =>
joinG (fun g20 => grdV t26 false (vLoad2 t30 h g20) (g20 undefV h)) fun t31 h =>
joinG (fun g19 => grdV t26 false (vMov t0 h g19) (g19 undefV h)) fun t32 h =>
joinG (fun g18 => grdV t26 false (vNilck t32 h g18) (g18 undefV h)) fun t33 h =>
joinG (fun g17 => grdV t26 false (vFaddr 1 t33 h g17) (g17 undefV h)) fun t34 h =>
joinG (fun g16 => grdV t26 false (vLoad2 t34 h g16) (g16 undefV h)) fun t35 h =>
joinG (fun g15 => grdV t26 false (vGtr t31 t35 h g15) (g15 undefV h)) fun t36 h =>
joinG (fun g14 => grdV t26 false (vMov t36 h g14) (g14 undefV h)) fun t37 h =>
joinG (fun g13 => grdV t37 true (vMov t12 h g13) (g13 undefV h)) fun t38 h =>
joinG (fun g12 => grdV t37 true (vNilck t38 h g12) (g12 undefV h)) fun t39 h =>
joinG (fun g11 => grdV t37 true (vFaddr 4 t39 h g11) (g11 undefV h)) fun t40 h =>
joinG (fun g10 => grdV t37 true (vLoad2 t40 h g10) (g10 undefV h)) fun t41 h =>
joinG (fun g9 => grdV t37 true (vMov t0 h g9) (g9 undefV h)) fun t42 h =>
joinG (fun g8 => grdV t37 true (vNilck t42 h g8) (g8 undefV h)) fun t43 h =>
joinG (fun g7 => grdV t37 true (vFaddr 2 t43 h g7) (g7 undefV h)) fun t44 h =>
joinG (fun g6 => grdV t37 true (vLoad2 t44 h g6) (g6 undefV h)) fun t45 h =>
joinG (fun g5 => grdV t37 true (vNilck t45 h g5) (g5 undefV h)) fun t46 h =>
joinG (fun g4 => grdV t37 true (vFaddr 4 t46 h g4) (g4 undefV h)) fun t47 h =>
joinG (fun g3 => grdV t37 true (vLoad2 t47 h g3) (g3 undefV h)) fun t48 h =>
joinG (fun g2 => grdV t37 true (vGtr t41 t48 h g2) (g2 undefV h)) fun t49 h =>
joinG (fun g1 => grdV t26 false (vPick t37 t49 (.bool .false) h g1) (g1 undefV h)) fun t50 h =>
vPick t26 (.bool .true) t50 h fun t51 h =>
vIf t51 (
K (.int .i64 28) h) (
e0 h)
noncomputable def s_localfs_FS_change (cf : CallK) (fuel : Nat) (t0 : AV) (t1 : AV) (h : Hp) (K : AV → Hp → Prop) : Prop :=
vEq false eqP t0 .nilptr h fun t8 h =>
vIf t8 (
K (.int .i64 5) h) (
vCallV t1 [] cf h fun t11 h =>
vExtract 0 t11 h fun t12 h =>
vExtract 1 t11 h fun t13 h =>
(fun (e0 : Hp → Prop) =>
vNeq t13 (.int .i64 0) h fun t16 h =>
joinG (fun g26 => grdV t16 false (vMov t12 h g26) (g26 undefV h)) fun t18 h =>
joinG (fun g25 => grdV t16 false (vEq false eqP t18 .nilptr h g25) (g25 undefV h)) fun t19 h =>
vPick t16 (.bool .true) t19 h fun t20 h =>
vIf t20 (
K t13 h) (
s_localfs_FS_changeB24 cf fuel K e0 t12 t0 h)) fun h =>
cf f_localfs_FS_commit [t0, t12] h fun t54 h =>
K t54 h)
theorem s_localfs_FS_change_eq (cf : CallK) (fuel : Nat) (t0 : AV) (t1 : AV) (h : Hp) (K : AV → Hp → Prop) : s_localfs_FS_change cf fuel t0 t1 h K = deepT (tabOf Tryz.prog) f_localfs_FS_change cf fuel [t0, t1] h K :=
  Eq.trans (by kernel_rfl) (rFun (by kernel_rfl) rExact)

noncomputable def s_localfs_replacing_doB5 (cf : CallK) (fuel : Nat) (K : AV → Hp → Prop) (e0 : Hp → Prop) (t12 : AV) (t1 : AV) (h : Hp) : Prop :=
vEq true eqP t12 .nilptr h fun t20 h =>
joinG (fun g4 => grdV t20 true (vMov t12 h g4) (g4 undefV h)) fun t22 h =>
joinG (fun g3 => grdV t20 true (vNilck t22 h g3) (g3 undefV h)) fun t23 h =>
joinG (fun g2 => grdV t20 true (vFaddr 0 t23 h g2) (g2 undefV h)) fun t24 h =>
joinG (fun g1 => grdV t20 true (vLoad2 t24 h g1) (g1 undefV h)) fun t25 h =>
vPick t20 t25 (.bool .false) h fun t26 h =>
vIf t26 (
K (.tup [.nilptr, (.int .i64 21)]) h) (
vFaddr 2 t1 h fun t28 h =>
vLoad2 t28 h fun t29 h =>
vLenL2 t29 h fun t30 h =>
vGtr t30 (.int .i64 65536) h fun t31 h =>
vIf t31 (
K (.tup [.nilptr, (.int .i64 27)]) h) (
e0 h))
noncomputable def s_localfs_replacing_do (cf : CallK) (fuel : Nat) (t0 : AV) (h : Hp) (K : AV → Hp → Prop) : Prop :=
vBox 3 t0 h fun t1 h =>
vFaddr 0 t1 h fun t7 h =>
vLoad2 t7 h fun t8 h =>
vFaddr 1 t1 h fun t9 h =>
vLoad2 t9 h fun t10 h =>
cf f_localfs_FS_walk [t8, t10] h fun t11 h =>
vExtract 0 t11 h fun t12 h =>
vExtract 1 t11 h fun t13 h =>
(fun (e0 : Hp → Prop) =>
vNeq t13 (.int .i64 0) h fun t16 h =>
vIf t16 (
K (.tup [.nilptr, t13]) h) (
s_localfs_replacing_doB5 cf fuel K e0 t12 t1 h)) fun h =>
vFaddr 0 t1 h fun t32 h =>
vLoad2 t32 h fun t33 h =>
vFaddr 1 t1 h fun t34 h =>
vLoad2 t34 h fun t35 h =>
vFaddr 2 t1 h fun t37 h =>
vLoad2 t37 h fun t38 h =>
cf f_bytes_Clone [t38] h fun t39 h =>
vLoad2 t32 h fun c _ => gd (sameV c t33) (
vLoad2 t34 h fun c _ => gd (sameV c t35) (
cf f_localfs_FS_turned [t33, t35, t12, t39] h fun t40 h =>
vExtract 0 t40 h fun t41 h =>
vExtract 1 t40 h fun t42 h =>
K (.tup [t41, t42]) h))
theorem s_localfs_replacing_do_eq (cf : CallK) (fuel : Nat) (t0 : AV) (h : Hp) (K : AV → Hp → Prop) : s_localfs_replacing_do cf fuel t0 h K = deepT (tabOf Tryz.prog) f_localfs_replacing_do cf fuel [t0] h K :=
  Eq.trans (by kernel_rfl) (rFun (by kernel_rfl) rExact)

noncomputable def s_strconv_FormatInt (cf : CallK) (fuel : Nat) (t0 : AV) (t1 : AV) (h : Hp) (K : AV → Hp → Prop) : Prop :=
cf f_int_strconv_FormatInt [t0, t1] h fun t7 h =>
K t7 h
theorem s_strconv_FormatInt_eq (cf : CallK) (fuel : Nat) (t0 : AV) (t1 : AV) (h : Hp) (K : AV → Hp → Prop) : s_strconv_FormatInt cf fuel t0 t1 h K = deepT (tabOf Tryz.prog) f_strconv_FormatInt cf fuel [t0, t1] h K :=
  Eq.trans (by kernel_rfl) (rFun (by kernel_rfl) rExact)

noncomputable def s_localfs_writing_doB8 (cf : CallK) (fuel : Nat) (K : AV → Hp → Prop) (e0 : Hp → Prop) (t1 : AV) (h : Hp) : Prop :=
vFaddr 3 t1 h fun t23 h =>
vLoad2 t23 h fun t24 h =>
vLenL2 t24 h fun t25 h =>
vGtr t25 (.int .i64 65536) h fun t26 h =>
joinG (fun g7 => grdV t26 false (vFaddr 2 t1 h g7) (g7 undefV h)) fun t28 h =>
joinG (fun g6 => grdV t26 false (vLoad2 t28 h g6) (g6 undefV h)) fun t29 h =>
joinG (fun g5 => grdV t26 false (vFaddr 3 t1 h g5) (g5 undefV h)) fun t30 h =>
joinG (fun g4 => grdV t26 false (vLoad2 t30 h g4) (g4 undefV h)) fun t31 h =>
joinG (fun g3 => grdV t26 false (vLenL2 t31 h g3) (g3 undefV h)) fun t32 h =>
joinG (fun g2 => grdV t26 false (vArith Go.Am.subI (.int .i64 65536) t32 h g2) (g2 undefV h)) fun t33 h =>
joinG (fun g1 => grdV t26 false (vGtr t29 t33 h g1) (g1 undefV h)) fun t34 h =>
vPick t26 (.bool .true) t34 h fun t35 h =>
vIf t35 (
K (.tup [.nilptr, (.int .i64 27)]) h) (
vFaddr 3 t1 h fun t37 h =>
vLoad2 t37 h fun t38 h =>
vLenL2 t38 h fun t39 h =>
vEql t39 (.int .i64 0) h fun t40 h =>
vIf t40 (
K (.tup [.nilptr, (.int .i64 0)]) h) (
e0 h))
noncomputable def s_localfs_writing_do (cf : CallK) (fuel : Nat) (t0 : AV) (h : Hp) (K : AV → Hp → Prop) : Prop :=
vBox 4 t0 h fun t1 h =>
vFaddr 0 t1 h fun t8 h =>
vLoad2 t8 h fun t9 h =>
vFaddr 1 t1 h fun t10 h =>
vLoad2 t10 h fun t11 h =>
vFaddr 2 t1 h fun t12 h =>
vLoad2 t12 h fun t13 h =>
vLss t13 (.int .i64 0) h fun t14 h =>
cf f_localfs_FS_filed [t9, t11, t14] h fun t15 h =>
vExtract 0 t15 h fun t16 h =>
vExtract 1 t15 h fun t17 h =>
(fun (e0 : Hp → Prop) =>
vNeq t17 (.int .i64 0) h fun t20 h =>
vIf t20 (
K (.tup [.nilptr, t17]) h) (
s_localfs_writing_doB8 cf fuel K e0 t1 h)) fun h =>
vNilck t16 h fun t42 h =>
vFaddr 1 t42 h fun t43 h =>
vLoad2 t43 h fun t44 h =>
vLenL2 t44 h fun t45 h =>
vFaddr 2 t1 h fun t46 h =>
vLoad2 t46 h fun t47 h =>
vFaddr 3 t1 h fun t48 h =>
vLoad2 t48 h fun t49 h =>
vLenL2 t49 h fun t50 h =>
vAdd t47 t50 h fun t51 h =>
vMin true t45 t51 h fun t52 h =>
vMkSlice 1 1 true [(.int .u8 0)] t52 t52 h fun t53 h =>
vNilck t16 h fun t56 h =>
vFaddr 1 t56 h fun t57 h =>
vLoad2 t57 h fun t58 h =>
vCopy 1 true t53 t58 h fun t59 h =>
vFaddr 2 t1 h fun t61 h =>
vLoad2 t61 h fun t62 h =>
vSlice2 1 t53 (some t62) none h fun t63 h =>
vFaddr 3 t1 h fun t64 h =>
vLoad2 t64 h fun t65 h =>
vCopy 1 true t63 t65 h fun t66 h =>
vFaddr 0 t1 h fun t67 h =>
vLoad2 t67 h fun t68 h =>
vFaddr 1 t1 h fun t69 h =>
vLoad2 t69 h fun t70 h =>
cf f_localfs_FS_turned [t68, t70, t16, t53] h fun t73 h =>
vExtract 0 t73 h fun t74 h =>
vExtract 1 t73 h fun t75 h =>
K (.tup [t74, t75]) h
theorem s_localfs_writing_do_eq (cf : CallK) (fuel : Nat) (t0 : AV) (h : Hp) (K : AV → Hp → Prop) : s_localfs_writing_do cf fuel t0 h K = deepT (tabOf Tryz.prog) f_localfs_writing_do cf fuel [t0] h K :=
  Eq.trans (by kernel_rfl) (rFun (by kernel_rfl) rExact)

noncomputable def s_localfs_FS_walkE1 (cf : CallK) (fuel : Nat) (K : AV → Hp → Prop) : AV → Hp → Prop := fun t9 h =>
K (.tup [t9, (.int .i64 0)]) h
noncomputable def s_localfs_FS_walkB9 (cf : CallK) (fuel : Nat) (K : AV → Hp → Prop) (ih2 : AV → AV → Hp → Prop) (t1 : AV) (t31 : AV) (t9 : AV) (t33 : AV) (h : Hp) : Prop :=
(fun (e3 : AV → Hp → Prop) =>
vIaddr 1 t31 t33 h fun t36 h =>
vLoad2 t36 h fun t37 h =>
vNilck t9 h fun t39 h =>
vFaddr 0 t39 h fun t40 h =>
vLoad2 t40 h fun t41 h =>
vNot t41 h fun t42 h =>
vIf t42 (
K (.tup [.nilptr, (.int .i64 20)]) h) (
cf f_localfs_object_kid [t9, t37] h fun t45 h =>
vEq false eqP t45 .nilptr h fun t47 h =>
joinG (fun g8 => grdV t47 true (vMov t33 h g8) (g8 undefV h)) fun t49 h =>
joinG (fun g7 => grdV t47 true (vAdd t49 (.int .i64 1) h g7) (g7 undefV h)) fun t50 h =>
joinG (fun g6 => grdV t47 true (vMov t1 h g6) (g6 undefV h)) fun t51 h =>
joinG (fun g5 => grdV t47 true (vLenL2 t51 h g5) (g5 undefV h)) fun t52 h =>
joinG (fun g4 => grdV t47 true (vLss t50 t52 h g4) (g4 undefV h)) fun t53 h =>
vPick t47 t53 (.bool .false) h fun t54 h =>
vIf t54 (
K (.tup [.nilptr, (.int .i64 2)]) h) (
e3 t45 h))) fun t9 h =>
vAdd t33 (.int .i64 1) h fun t55 h =>
ih2 t9 t55 h
noncomputable def s_localfs_FS_walkL2B (cf : CallK) (fuel : Nat) (K : AV → Hp → Prop) (e1 : AV → Hp → Prop) (t1 : AV) (t31 : AV) (t32 : AV) (ih2 : AV → AV → Hp → Prop) : AV → AV → Hp → Prop := fun t9 t33 h =>
vLss t33 t32 h fun t34 h =>
vIf t34 (
s_localfs_FS_walkB9 cf fuel K ih2 t1 t31 t9 t33 h) (
e1 t9 h)
noncomputable def s_localfs_FS_walkL2 (cf : CallK) (fuel : Nat) (K : AV → Hp → Prop) (e1 : AV → Hp → Prop) (t1 : AV) (t31 : AV) (t32 : AV) (m : Nat) : AV → AV → Hp → Prop := Nat.rec (motive := fun _ => AV → AV → Hp → Prop) (fun _ _ _ => False) (fun _ ih => s_localfs_FS_walkL2B cf fuel K e1 t1 t31 t32 ih) m
theorem s_localfs_FS_walkL2_succ (cf : CallK) (fuel : Nat) (K : AV → Hp → Prop) (e1 : AV → Hp → Prop) (t1 : AV) (t31 : AV) (t32 : AV) (m : Nat) : s_localfs_FS_walkL2 cf fuel K e1 t1 t31 t32 (m + 1) = s_localfs_FS_walkL2B cf fuel K e1 t1 t31 t32 (s_localfs_FS_walkL2 cf fuel K e1 t1 t31 t32 m) := rfl
noncomputable def s_localfs_FS_walkE0 (cf : CallK) (fuel : Nat) (K : AV → Hp → Prop) (t0 : AV) (t1 : AV) : Hp → Prop := fun h =>
vNilck t0 h fun t28 h =>
vFaddr 2 t28 h fun t29 h =>
vLoad2 t29 h fun t30 h =>
vLenL2 t1 h fun t32 h =>
(fun (e1 : AV → Hp → Prop) =>
s_localfs_FS_walkL2 cf fuel K (s_localfs_FS_walkE1 cf fuel K) t1 t1 t32 fuel t30 (.int .i64 0) h) (s_localfs_FS_walkE1 cf fuel K)
noncomputable def s_localfs_FS_walkL10B (cf : CallK) (fuel : Nat) (K : AV → Hp → Prop) (e0 : Hp → Prop) (t0 : AV) (t1 : AV) (t15 : AV) (t16 : AV) (ih10 : AV → Hp → Prop) : AV → Hp → Prop := fun t17 h =>
vLss t17 t16 h fun t18 h =>
vIf t18 (
(fun (e11 : Hp → Prop) =>
vIaddr 1 t15 t17 h fun t19 h =>
vLoad2 t19 h fun t20 h =>
cf f_localdir_Fine [t20] h fun t22 h =>
vNeq t22 (.int .i64 0) h fun t24 h =>
vIf t24 (
K (.tup [.nilptr, t22]) h) (
e11 h)) fun h =>
vAdd t17 (.int .i64 1) h fun t26 h =>
ih10 t26 h) (
e0 h)
noncomputable def s_localfs_FS_walkL10 (cf : CallK) (fuel : Nat) (K : AV → Hp → Prop) (e0 : Hp → Prop) (t0 : AV) (t1 : AV) (t15 : AV) (t16 : AV) (m : Nat) : AV → Hp → Prop := Nat.rec (motive := fun _ => AV → Hp → Prop) (fun _ _ => False) (fun _ ih => s_localfs_FS_walkL10B cf fuel K e0 t0 t1 t15 t16 ih) m
theorem s_localfs_FS_walkL10_succ (cf : CallK) (fuel : Nat) (K : AV → Hp → Prop) (e0 : Hp → Prop) (t0 : AV) (t1 : AV) (t15 : AV) (t16 : AV) (m : Nat) : s_localfs_FS_walkL10 cf fuel K e0 t0 t1 t15 t16 (m + 1) = s_localfs_FS_walkL10B cf fuel K e0 t0 t1 t15 t16 (s_localfs_FS_walkL10 cf fuel K e0 t0 t1 t15 t16 m) := rfl
noncomputable def s_localfs_FS_walk (cf : CallK) (fuel : Nat) (t0 : AV) (t1 : AV) (h : Hp) (K : AV → Hp → Prop) : Prop :=
vLenL2 t1 h fun t13 h =>
vGtr t13 (.int .i64 64) h fun t14 h =>
vIf t14 (
K (.tup [.nilptr, (.int .i64 22)]) h) (
vLenL2 t1 h fun t16 h =>
(fun (e0 : Hp → Prop) =>
s_localfs_FS_walkL10 cf fuel K (s_localfs_FS_walkE0 cf fuel K t0 t1) t0 t1 t1 t16 fuel (.int .i64 0) h) (s_localfs_FS_walkE0 cf fuel K t0 t1))
theorem s_localfs_FS_walk_eq (cf : CallK) (fuel : Nat) (t0 : AV) (t1 : AV) (h : Hp) (K : AV → Hp → Prop) : s_localfs_FS_walk cf fuel t0 t1 h K = deepT (tabOf Tryz.prog) f_localfs_FS_walk cf fuel [t0, t1] h K :=
  Eq.trans (by kernel_rfl) (rFun (by kernel_rfl) (rSeq (by kernel_rfl) (rSeq (by kernel_rfl) (rSeq (by kernel_rfl) (rSeq (by kernel_rfl) (rSeq (by kernel_rfl) rExact (rSeq (by kernel_rfl) (rBlock (by kernel_rfl) (rLoop (by kernel_rfl) (fun m2 fr h => s_localfs_FS_walkL2 cf fuel K (s_localfs_FS_walkE1 cf fuel K) (getS fr (gpos 1)) (getS fr (gpos 31)) (getS fr (gpos 32)) m2 (getS fr (gpos 9)) (getS fr (gpos 33)) h) (funext fun fr => funext fun h => by kernel_rfl) fun m2 => rCast (funext fun fr => funext fun h => by kernel_rfl) rExact)) rExact)) rExact) (rSeq (by kernel_rfl) (rBlock (by kernel_rfl) (rLoop (by kernel_rfl) (fun m10 fr h => s_localfs_FS_walkL10 cf fuel K (s_localfs_FS_walkE0 cf fuel K (getS fr (gpos 0)) (getS fr (gpos 1))) (getS fr (gpos 0)) (getS fr (gpos 1)) (getS fr (gpos 15)) (getS fr (gpos 16)) m10 (getS fr (gpos 17)) h) (funext fun fr => funext fun h => by kernel_rfl) fun m10 => rCast (funext fun fr => funext fun h => by kernel_rfl) rExact)) rExact)) rExact) rExact))

noncomputable def s_codec_Reader_ID (cf : CallK) (fuel : Nat) (t0 : AV) (h : Hp) (K : AV → Hp → Prop) : Prop :=
vBox 2 (.agg [(.int .i64 0), (.int .i64 0)]) h fun t2 h =>
cf f_codec_Reader_Num [t0] h fun t6 h =>
cf f_codec_Reader_Num [t0] h fun t8 h =>
vGtr t6 (.int .i64 1152921504606846976) h fun t11 h =>
joinG (fun g1 => grdV t11 false (vMov t8 h g1) (g1 undefV h)) fun t13 h =>
joinG (fun g0 => grdV t11 false (vGeq t13 (.int .i64 64) h g0) (g0 undefV h)) fun t14 h =>
vPick t11 (.bool .true) t14 h fun t15 h =>
cf f_codec_Reader_fails [t0, t15] h fun t16 h =>
vIf t16 (
vBuild [(.int .i64 0), (.int .i64 0)] [] h fun t17 h =>
vStore 2 t2 t17 h fun _ h =>
vLoadA 2 t2 h fun r0 _ => K r0 h) (
vBuild [(.int .i64 0), (.int .i64 0)] [(0, 1, t6), (1, 1, t8)] h fun t20 h =>
vStore 2 t2 t20 h fun _ h =>
vLoadA 2 t2 h fun r0 _ => K r0 h)
theorem s_codec_Reader_ID_eq (cf : CallK) (fuel : Nat) (t0 : AV) (h : Hp) (K : AV → Hp → Prop) : s_codec_Reader_ID cf fuel t0 h K = deepT (tabOf Tryz.prog) f_codec_Reader_ID cf fuel [t0] h K :=
  Eq.trans (by kernel_rfl) (rFun (by kernel_rfl) rExact)

noncomputable def s_codec_Reader_Text (cf : CallK) (fuel : Nat) (t0 : AV) (h : Hp) (K : AV → Hp → Prop) : Prop :=
cf f_codec_Reader_Bytes [t0] h fun t4 h =>
vToStr t4 h fun t5 h =>
K t5 h
theorem s_codec_Reader_Text_eq (cf : CallK) (fuel : Nat) (t0 : AV) (h : Hp) (K : AV → Hp → Prop) : s_codec_Reader_Text cf fuel t0 h K = deepT (tabOf Tryz.prog) f_codec_Reader_Text cf fuel [t0] h K :=
  Eq.trans (by kernel_rfl) (rFun (by kernel_rfl) rExact)

noncomputable def s_codec_Reader_VectorE0 (cf : CallK) (fuel : Nat) (K : AV → Hp → Prop) (t0 : AV) : AV → Hp → Prop := fun t4 h =>
cf f_codec_vector [t4] h fun t22 h =>
vNot t22 h fun t23 h =>
joinG (fun g6 => grdV t23 false (vMov t4 h g6) (g6 undefV h)) fun t25 h =>
joinG (fun g5 => grdV t23 false (cf f_codec_cut [t25] h g5) (g5 undefV h)) fun t26 h =>
joinG (fun g4 => grdV t23 false (vLenL2 t26 h g4) (g4 undefV h)) fun t27 h =>
joinG (fun g3 => grdV t23 false (vMov t4 h g3) (g3 undefV h)) fun t28 h =>
joinG (fun g2 => grdV t23 false (vLenL2 t28 h g2) (g2 undefV h)) fun t29 h =>
joinG (fun g1 => grdV t23 false (vNeq t27 t29 h g1) (g1 undefV h)) fun t30 h =>
vPick t23 (.bool .true) t30 h fun t31 h =>
cf f_codec_Reader_fails [t0, t31] h fun t32 h =>
vIf t32 (
K .nilslice h) (
K t4 h)
noncomputable def s_codec_Reader_VectorL7B (cf : CallK) (fuel : Nat) (e0 : AV → Hp → Prop) (t0 : AV) (t11 : AV) (ih7 : AV → AV → Hp → Prop) : AV → AV → Hp → Prop := fun t4 t12 h =>
vLss t12 t11 h fun t13 h =>
vIf t13 (
(fun (e8 : AV → Hp → Prop) =>
cf f_codec_Reader_Num [t0] h fun t16 h =>
vBslice 1 1 false [(.int .i64 0)] [(0, 1, t16)] h fun t17 h =>
vAppend2 1 8 false t4 t17 h fun t18 h =>
e8 t18 h) fun t4 h =>
vAdd t12 (.int .i64 1) h fun t19 h =>
ih7 t4 t19 h) (
e0 t4 h)
noncomputable def s_codec_Reader_VectorL7 (cf : CallK) (fuel : Nat) (e0 : AV → Hp → Prop) (t0 : AV) (t11 : AV) (m : Nat) : AV → AV → Hp → Prop := Nat.rec (motive := fun _ => AV → AV → Hp → Prop) (fun _ _ _ => False) (fun _ ih => s_codec_Reader_VectorL7B cf fuel e0 t0 t11 ih) m
theorem s_codec_Reader_VectorL7_succ (cf : CallK) (fuel : Nat) (e0 : AV → Hp → Prop) (t0 : AV) (t11 : AV) (m : Nat) : s_codec_Reader_VectorL7 cf fuel e0 t0 t11 (m + 1) = s_codec_Reader_VectorL7B cf fuel e0 t0 t11 (s_codec_Reader_VectorL7 cf fuel e0 t0 t11 m) := rfl
noncomputable def s_codec_Reader_Vector (cf : CallK) (fuel : Nat) (t0 : AV) (h : Hp) (K : AV → Hp → Prop) : Prop :=
cf f_codec_Reader_Num [t0] h fun t6 h =>
vGtr t6 (.int .i64 64) h fun t9 h =>
cf f_codec_Reader_fails [t0, t9] h fun t10 h =>
vIf t10 (
K .nilslice h) (
(fun (e0 : AV → Hp → Prop) =>
s_codec_Reader_VectorL7 cf fuel (s_codec_Reader_VectorE0 cf fuel K t0) t0 t6 fuel .nilslice (.int .i64 0) h) (s_codec_Reader_VectorE0 cf fuel K t0))
theorem s_codec_Reader_Vector_eq (cf : CallK) (fuel : Nat) (t0 : AV) (h : Hp) (K : AV → Hp → Prop) : s_codec_Reader_Vector cf fuel t0 h K = deepT (tabOf Tryz.prog) f_codec_Reader_Vector cf fuel [t0] h K :=
  Eq.trans (by kernel_rfl) (rFun (by kernel_rfl) (rSeq (by kernel_rfl) (rSeq (by kernel_rfl) (rSeq (by kernel_rfl) (rSeq (by kernel_rfl) (rSeq (by kernel_rfl) rExact (rSeq (by kernel_rfl) (rBlock (by kernel_rfl) (rLoop (by kernel_rfl) (fun m7 fr h => s_codec_Reader_VectorL7 cf fuel (s_codec_Reader_VectorE0 cf fuel K (getS fr (gpos 0))) (getS fr (gpos 0)) (getS fr (gpos 11)) m7 (getS fr (gpos 4)) (getS fr (gpos 12)) h) (funext fun fr => funext fun h => by kernel_rfl) fun m7 => rCast (funext fun fr => funext fun h => by kernel_rfl) rExact)) rExact)) rExact) rExact) rExact) rExact))

noncomputable def s_localfs_MkfsB0 (cf : CallK) (fuel : Nat) (K : AV → Hp → Prop) (t0 : AV) (h : Hp) : Prop :=
cf f_wal_Mount [t0] h fun t21 h =>
vExtract 0 t21 h fun t22 h =>
vExtract 1 t21 h fun t23 h =>
vNeq t23 (.int .i64 0) h fun t25 h =>
vIf t25 (
K t23 h) (
vBuild [.nilptr, (.int .i64 0), .nilptr, .nilslice] [(0, 1, t22)] h fun t28 h =>
vBox 4 t28 h fun t29 h =>
cf f_localfs_folder [.nilslice, .nilslice] h fun t31 h =>
cf f_localfs_FS_commit [t29, t31] h fun t32 h =>
vNeq t32 (.int .i64 0) h fun t34 h =>
vIf t34 (
K t32 h) (
cf f_localfs_FS_Sync [t29] h fun t37 h =>
K t37 h))
noncomputable def s_localfs_Mkfs (cf : CallK) (fuel : Nat) (t0 : AV) (h : Hp) (K : AV → Hp → Prop) : Prop :=
cf f_localfs_may [t0] h fun t10 h =>
vNeq t10 (.int .i64 0) h fun t12 h =>
vIf t12 (
K t10 h) (
cf f_wal_Format [t0] h fun t15 h =>
vNeq t15 (.int .i64 0) h fun t17 h =>
vIf t17 (
K t15 h) (
s_localfs_MkfsB0 cf fuel K t0 h))
theorem s_localfs_Mkfs_eq (cf : CallK) (fuel : Nat) (t0 : AV) (h : Hp) (K : AV → Hp → Prop) : s_localfs_Mkfs cf fuel t0 h K = deepT (tabOf Tryz.prog) f_localfs_Mkfs cf fuel [t0] h K :=
  Eq.trans (by kernel_rfl) (rFun (by kernel_rfl) rExact)

noncomputable def s_localfs_may (cf : CallK) (fuel : Nat) (t0 : AV) (h : Hp) (K : AV → Hp → Prop) : Prop :=
cf f_device_Device_Blocks [t0] h fun t4 h =>
cf f_localfs_Capacity [t4] h fun t5 h =>
vLss t5 (.int .i64 4) h fun t6 h =>
vIf t6 (
K (.int .i64 22) h) (
K (.int .i64 0) h)
theorem s_localfs_may_eq (cf : CallK) (fuel : Nat) (t0 : AV) (h : Hp) (K : AV → Hp → Prop) : s_localfs_may cf fuel t0 h K = deepT (tabOf Tryz.prog) f_localfs_may cf fuel [t0] h K :=
  Eq.trans (by kernel_rfl) (rFun (by kernel_rfl) rExact)

noncomputable def s_wal_MountE0 (cf : CallK) (fuel : Nat) (K : AV → Hp → Prop) (t4 : AV) : Hp → Prop := fun h =>
K (.tup [t4, (.int .i64 0)]) h
noncomputable def s_wal_MountL1B (cf : CallK) (fuel : Nat) (K : AV → Hp → Prop) (e0 : Hp → Prop) (t4 : AV) (t19 : AV) (t20 : AV) (ih1 : AV → Hp → Prop) : AV → Hp → Prop := fun t21 h =>
vLss t21 t20 h fun t22 h =>
vIf t22 (
(fun (e2 : Hp → Prop) =>
vIaddr 1 t19 t21 h fun t23 h =>
vLoad2 t23 h fun t24 h =>
vCallV t24 [] cf h fun t26 h =>
vNeq t26 (.int .i64 0) h fun t28 h =>
vIf t28 (
K (.tup [.nilptr, t26]) h) (
e2 h)) fun h =>
vAdd t21 (.int .i64 1) h fun t30 h =>
ih1 t30 h) (
e0 h)
noncomputable def s_wal_MountL1 (cf : CallK) (fuel : Nat) (K : AV → Hp → Prop) (e0 : Hp → Prop) (t4 : AV) (t19 : AV) (t20 : AV) (m : Nat) : AV → Hp → Prop := Nat.rec (motive := fun _ => AV → Hp → Prop) (fun _ _ => False) (fun _ ih => s_wal_MountL1B cf fuel K e0 t4 t19 t20 ih) m
theorem s_wal_MountL1_succ (cf : CallK) (fuel : Nat) (K : AV → Hp → Prop) (e0 : Hp → Prop) (t4 : AV) (t19 : AV) (t20 : AV) (m : Nat) : s_wal_MountL1 cf fuel K e0 t4 t19 t20 (m + 1) = s_wal_MountL1B cf fuel K e0 t4 t19 t20 (s_wal_MountL1 cf fuel K e0 t4 t19 t20 m) := rfl
noncomputable def s_wal_Mount (cf : CallK) (fuel : Nat) (t0 : AV) (h : Hp) (K : AV → Hp → Prop) : Prop :=
vBuild [.nilptr, .nilslice, (.int .i64 0), (.int .i64 0), (.bool .false), (.bool .false)] [(0, 1, t0)] h fun t9 h =>
vBox 6 t9 h fun t10 h =>
vFunc 119 [t10] [] h fun t12 h =>
vFunc 120 [t10] [] h fun t14 h =>
vFunc 121 [t10] [] h fun t16 h =>
vFunc 122 [t10] [] h fun t18 h =>
vBslice 1 4 false [.nilfunc] [(0, 1, t12), (1, 1, t14), (2, 1, t16), (3, 1, t18)] h fun t19 h =>
vLenL2 t19 h fun t20 h =>
(fun (e0 : Hp → Prop) =>
s_wal_MountL1 cf fuel K (s_wal_MountE0 cf fuel K t10) t10 t19 t20 fuel (.int .i64 0) h) (s_wal_MountE0 cf fuel K t10)
theorem s_wal_Mount_eq (cf : CallK) (fuel : Nat) (t0 : AV) (h : Hp) (K : AV → Hp → Prop) : s_wal_Mount cf fuel t0 h K = deepT (tabOf Tryz.prog) f_wal_Mount cf fuel [t0] h K :=
  Eq.trans (by kernel_rfl) (rFun (by kernel_rfl) (rSeq (by kernel_rfl) (rSeq (by kernel_rfl) (rSeq (by kernel_rfl) rExact (rSeq (by kernel_rfl) (rBlock (by kernel_rfl) (rLoop (by kernel_rfl) (fun m1 fr h => s_wal_MountL1 cf fuel K (s_wal_MountE0 cf fuel K (getS fr (gpos 4))) (getS fr (gpos 4)) (getS fr (gpos 19)) (getS fr (gpos 20)) m1 (getS fr (gpos 21)) h) (funext fun fr => funext fun h => by kernel_rfl) fun m1 => rCast (funext fun fr => funext fun h => by kernel_rfl) rExact)) rExact)) rExact) rExact))

noncomputable def s_localfs_Capacity (cf : CallK) (fuel : Nat) (t0 : AV) (h : Hp) (K : AV → Hp → Prop) : Prop :=
vLss t0 (.int .i64 8) h fun t4 h =>
vIf t4 (
K (.int .i64 0) h) (
vArith Go.Am.subI t0 (.int .i64 8) h fun t6 h =>
vDiv false t6 (.int .i64 16) h fun t7 h =>
vArith Go.Am.subI t7 (.int .i64 2) h fun t8 h =>
vMin true t8 (.int .i64 0) h fun t9 h =>
K t9 h)
theorem s_localfs_Capacity_eq (cf : CallK) (fuel : Nat) (t0 : AV) (h : Hp) (K : AV → Hp → Prop) : s_localfs_Capacity cf fuel t0 h K = deepT (tabOf Tryz.prog) f_localfs_Capacity cf fuel [t0] h K :=
  Eq.trans (by kernel_rfl) (rFun (by kernel_rfl) rExact)

noncomputable def s_device_Device_Blocks (cf : CallK) (fuel : Nat) (t0 : AV) (h : Hp) (K : AV → Hp → Prop) : Prop :=
vEq false eqP t0 .nilptr h fun t4 h =>
vIf t4 (
K (.int .i64 0) h) (
vNilck t0 h fun t6 h =>
vFaddr 0 t6 h fun t7 h =>
vLoad2 t7 h fun t8 h =>
vLenL2 t8 h fun t9 h =>
K t9 h)
theorem s_device_Device_Blocks_eq (cf : CallK) (fuel : Nat) (t0 : AV) (h : Hp) (K : AV → Hp → Prop) : s_device_Device_Blocks cf fuel t0 h K = deepT (tabOf Tryz.prog) f_device_Device_Blocks cf fuel [t0] h K :=
  Eq.trans (by kernel_rfl) (rFun (by kernel_rfl) rExact)

noncomputable def s_wal_Volume_Blocks (cf : CallK) (fuel : Nat) (t0 : AV) (h : Hp) (K : AV → Hp → Prop) : Prop :=
vEq false eqP t0 .nilptr h fun t4 h =>
vIf t4 (
K (.int .i64 0) h) (
vNilck t0 h fun t6 h =>
vFaddr 1 t6 h fun t7 h =>
vLoad2 t7 h fun t8 h =>
vLenL2 t8 h fun t9 h =>
K t9 h)
theorem s_wal_Volume_Blocks_eq (cf : CallK) (fuel : Nat) (t0 : AV) (h : Hp) (K : AV → Hp → Prop) : s_wal_Volume_Blocks cf fuel t0 h K = deepT (tabOf Tryz.prog) f_wal_Volume_Blocks cf fuel [t0] h K :=
  Eq.trans (by kernel_rfl) (rFun (by kernel_rfl) rExact)


end Go.Proofs.YtbefkepinpollaaGreatDoor.sh2
