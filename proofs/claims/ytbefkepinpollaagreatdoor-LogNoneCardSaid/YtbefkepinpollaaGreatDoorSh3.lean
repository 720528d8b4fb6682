/- The Go functions' code as the abstract machine's, over values; each is the code that the machine makes of the program's (theorems s_.._eq). No condition. -/
import Derived.Test.YtbefkepinpollaaGreatDoorAmLoop
import Derived.Test.YtbefkepinpollaaGreatDoorProg
import Derived.KernelRfl
namespace Go.Proofs.YtbefkepinpollaaGreatDoor.sh3
open Go Go.Am Go.Proofs
set_option linter.unusedVariables false
set_option maxRecDepth 100000
abbrev f_bytes_Clone : Nat := 49
abbrev f_bytes_CutPrefix : Nat := 94
abbrev f_bytes_Equal : Nat := 144
abbrev f_bytes_HasPrefix : Nat := 123
abbrev f_clock_node : Nat := 104
abbrev f_cmp_Compare_int : Nat := 107
abbrev f_cmp_Compare_int64 : Nat := 106
abbrev f_cmp_isNaN_int : Nat := 142
abbrev f_cmp_isNaN_int64 : Nat := 141
abbrev f_codec_cut : Nat := 110
abbrev f_codec_nums : Nat := 109
abbrev f_codec_stamp : Nat := 108
abbrev f_codec_vector : Nat := 111
abbrev f_device_Device_Dead : Nat := 134
abbrev f_device_Device_Flush : Nat := 137
abbrev f_device_Device_Read : Nat := 153
abbrev f_device_Device_Write : Nat := 138
abbrev f_int_strconv_FormatInt : Nat := 114
abbrev f_int_strconv_formatBase10 : Nat := 149
abbrev f_int_strconv_formatBits : Nat := 150
abbrev f_int_strconv_numDigits : Nat := 148
abbrev f_int_strconv_small : Nat := 147
abbrev f_lagoonref12_May : Nat := 97
abbrev f_lagoonref12_Name : Nat := 131
abbrev f_lagoonref12_older : Nat := 130
abbrev f_lagoonref12_root : Nat := 129
abbrev f_lagoonref12_trash : Nat := 132
abbrev f_lagoonref3_Bytes : Nat := 100
abbrev f_lagoonref3_ID : Nat := 99
abbrev f_lagoonref3_Num : Nat := 98
abbrev f_lagoonref3_Vector : Nat := 101
abbrev f_lagoonref4_At : Nat := 126
abbrev f_lagoonref4_Leq : Nat := 96
abbrev f_lagoonref4_May : Nat := 128
abbrev f_lagoonref4_Norm : Nat := 133
abbrev f_lagoonref4_Same : Nat := 58
abbrev f_lagoonref4_Valid : Nat := 127
abbrev f_localdir_Fine : Nat := 115
abbrev f_localfs_FS_commit : Nat := 112
abbrev f_localfs_FS_turned : Nat := 113
abbrev f_localfs_file : Nat := 125
abbrev f_localfs_folder : Nat := 118
abbrev f_localfs_object_kid : Nat := 116
abbrev f_localfs_object_set : Nat := 146
abbrev f_localfs_object_write : Nat := 143
abbrev f_localfs_read : Nat := 95
abbrev f_slices_BinarySearch_string_string : Nat := 151
abbrev f_strings_ContainsAny : Nat := 105
abbrev f_strings_IndexAny : Nat := 140
abbrev f_wal_Format : Nat := 117
abbrev f_wal_Volume_Blocks : Nat := 92
abbrev f_wal_Volume_Commit : Nat := 145
abbrev f_wal_Volume_Read : Nat := 93
abbrev f_wal_Volume_alive : Nat := 120
abbrev f_wal_Volume_at : Nat := 136
abbrev f_wal_Volume_blocks : Nat := 122
abbrev f_wal_Volume_dead : Nat := 102
abbrev f_wal_Volume_heads : Nat := 121
abbrev f_wal_Volume_keep : Nat := 103
abbrev f_wal_Volume_large : Nat := 119
abbrev f_wal_head : Nat := 139
abbrev f_wal_room : Nat := 152
abbrev f_wal_wrote : Nat := 135
abbrev f_zbyte_Get32 : Nat := 124
abbrev f_zbyte_Get64 : Nat := 154

noncomputable def s_wal_Volume_Read (cf : CallK) (fuel : Nat) (t0 : AV) (t1 : AV) (h : Hp) (K : AV → Hp → Prop) : Prop :=
vLss t1 (.int .i64 0) h fun t7 h =>
joinG (fun g3 => grdV t7 false (vMov t1 h g3) (g3 undefV h)) fun t9 h =>
joinG (fun g2 => grdV t7 false (vMov t0 h g2) (g2 undefV h)) fun t10 h =>
joinG (fun g1 => grdV t7 false (cf f_wal_Volume_Blocks [t10] h g1) (g1 undefV h)) fun t11 h =>
joinG (fun g0 => grdV t7 false (vGeq t9 t11 h g0) (g0 undefV h)) fun t12 h =>
vPick t7 (.bool .true) t12 h fun t13 h =>
vIf t13 (
K (.tup [.nilslice, (.int .i64 22)]) h) (
vNilck t0 h fun t15 h =>
vFaddr 1 t15 h fun t16 h =>
vLoad2 t16 h fun t17 h =>
vIaddr 1 t17 t1 h fun t19 h =>
vLoad2 t19 h fun t20 h =>
cf f_bytes_Clone [t20] h fun t21 h =>
K (.tup [t21, (.int .i64 0)]) h)
theorem s_wal_Volume_Read_eq (cf : CallK) (fuel : Nat) (t0 : AV) (t1 : AV) (h : Hp) (K : AV → Hp → Prop) : s_wal_Volume_Read cf fuel t0 t1 h K = deepT (tabOf Tryz.prog) f_wal_Volume_Read cf fuel [t0, t1] h K :=
  Eq.trans (by kernel_rfl) (rFun (by kernel_rfl) rExact)

noncomputable def s_bytes_CutPrefix (cf : CallK) (fuel : Nat) (t0 : AV) (t1 : AV) (h : Hp) (K : AV → Hp → Prop) : Prop :=
cf f_bytes_HasPrefix [t0, t1] h fun t8 h =>
vNot t8 h fun t9 h =>
vIf t9 (
K (.tup [t0, (.bool .false)]) h) (
vLenL2 t1 h fun t13 h =>
vSlice2 1 t0 (some t13) none h fun t14 h =>
K (.tup [t14, (.bool .true)]) h)
theorem s_bytes_CutPrefix_eq (cf : CallK) (fuel : Nat) (t0 : AV) (t1 : AV) (h : Hp) (K : AV → Hp → Prop) : s_bytes_CutPrefix cf fuel t0 t1 h K = deepT (tabOf Tryz.prog) f_bytes_CutPrefix cf fuel [t0, t1] h K :=
  Eq.trans (by kernel_rfl) (rFun (by kernel_rfl) rExact)

noncomputable def s_localfs_readE0 (cf : CallK) (fuel : Nat) (K : AV → Hp → Prop) : AV → AV → AV → Hp → Prop := fun t0 t6 t7 h =>
cf f_localfs_folder [t6, t7] h fun t80 h =>
K (.tup [t80, t0]) h
noncomputable def s_localfs_readB3 (cf : CallK) (fuel : Nat) (K : AV → Hp → Prop) (e2 : AV → AV → AV → Hp → Prop) (t0 : AV) (t6 : AV) (t7 : AV) (h : Hp) : Prop :=
vIaddr 1 t0 (.int .i64 0) h fun t53 h =>
vLoad2 t53 h fun t54 h =>
vToInt .i64 t54 h fun t55 h =>
vAdd (.int .i64 1) t55 h fun t56 h =>
vSlice2 1 t0 (some (.int .i64 1)) (some t56) h fun t60 h =>
vToStr t60 h fun t61 h =>
vBslice 1 1 false [(.str 0 0)] [(0, 1, t61)] h fun t62 h =>
vAppend2 1 16 false t6 t62 h fun t63 h =>
vSlice2 1 t0 (some t56) none h fun t67 h =>
cf f_localfs_read [t67] h fun t68 h =>
vExtract 0 t68 h fun t69 h =>
vExtract 1 t68 h fun t70 h =>
vEq false eqP t69 .nilptr h fun t72 h =>
vIf t72 (
K (.tup [.nilptr, .nilslice]) h) (
vBslice 1 1 false [.nilptr] [(0, 1, t69)] h fun t75 h =>
vAppend2 1 8 false t7 t75 h fun t76 h =>
e2 t70 t63 t76 h)
noncomputable def s_localfs_readB12 (cf : CallK) (fuel : Nat) (K : AV → Hp → Prop) (ih1 : AV → AV → AV → AV → Hp → Prop) (t0 : AV) (t6 : AV) (t7 : AV) (t37 : AV) (h : Hp) : Prop :=
(fun (e2 : AV → AV → AV → Hp → Prop) =>
vLenL2 t0 h fun t40 h =>
vEql t40 (.int .i64 0) h fun t41 h =>
joinG (fun g11 => grdV t41 false (vMov t0 h g11) (g11 undefV h)) fun t43 h =>
joinG (fun g10 => grdV t41 false (vLenL2 t43 h g10) (g10 undefV h)) fun t44 h =>
joinG (fun g9 => grdV t41 false (vMov t0 h g9) (g9 undefV h)) fun t45 h =>
joinG (fun g8 => grdV t41 false (vIaddr 1 t45 (.int .i64 0) h g8) (g8 undefV h)) fun t46 h =>
joinG (fun g7 => grdV t41 false (vLoad2 t46 h g7) (g7 undefV h)) fun t47 h =>
joinG (fun g6 => grdV t41 false (vToInt .i64 t47 h g6) (g6 undefV h)) fun t48 h =>
joinG (fun g5 => grdV t41 false (vAdd (.int .i64 1) t48 h g5) (g5 undefV h)) fun t49 h =>
joinG (fun g4 => grdV t41 false (vLss t44 t49 h g4) (g4 undefV h)) fun t50 h =>
vPick t41 (.bool .true) t50 h fun t51 h =>
vIf t51 (
K (.tup [.nilptr, .nilslice]) h) (
s_localfs_readB3 cf fuel K e2 t0 t6 t7 h)) fun t0 t6 t7 h =>
vAdd t37 (.int .i64 1) h fun t77 h =>
ih1 t0 t6 t7 t77 h
noncomputable def s_localfs_readL1B (cf : CallK) (fuel : Nat) (K : AV → Hp → Prop) (e0 : AV → AV → AV → Hp → Prop) (t36 : AV) (ih1 : AV → AV → AV → AV → Hp → Prop) : AV → AV → AV → AV → Hp → Prop := fun t0 t6 t7 t37 h =>
vLss t37 t36 h fun t38 h =>
vIf t38 (
s_localfs_readB12 cf fuel K ih1 t0 t6 t7 t37 h) (
e0 t0 t6 t7 h)
noncomputable def s_localfs_readL1 (cf : CallK) (fuel : Nat) (K : AV → Hp → Prop) (e0 : AV → AV → AV → Hp → Prop) (t36 : AV) (m : Nat) : AV → AV → AV → AV → Hp → Prop := Nat.rec (motive := fun _ => AV → AV → AV → AV → Hp → Prop) (fun _ _ _ _ _ => False) (fun _ ih => s_localfs_readL1B cf fuel K e0 t36 ih) m
theorem s_localfs_readL1_succ (cf : CallK) (fuel : Nat) (K : AV → Hp → Prop) (e0 : AV → AV → AV → Hp → Prop) (t36 : AV) (m : Nat) : s_localfs_readL1 cf fuel K e0 t36 (m + 1) = s_localfs_readL1B cf fuel K e0 t36 (s_localfs_readL1 cf fuel K e0 t36 m) := rfl
noncomputable def s_localfs_readB13 (cf : CallK) (fuel : Nat) (K : AV → Hp → Prop) (t0 : AV) (h : Hp) : Prop :=
vIaddr 1 t0 (.int .i64 0) h fun t14 h =>
vLoad2 t14 h fun t15 h =>
vSlice2 1 t0 (some (.int .i64 1)) none h fun t17 h =>
cf f_zbyte_Get32 [t17] h fun t18 h =>
vLoad2 t14 h fun c _ => gd (sameV c t15) (
vToInt .i64 t18 h fun t19 h =>
vSlice2 1 t0 (some (.int .i64 5)) none h fun t21 h =>
vEql t15 (.int .u8 1) h fun t23 h =>
vIf t23 (
vLenL2 t21 h fun t26 h =>
vGtr t19 t26 h fun t27 h =>
vIf t27 (
K (.tup [.nilptr, .nilslice]) h) (
vSlice2 1 t21 none (some t19) h fun t30 h =>
vSlice2 1 t21 (some t19) none h fun t35 h =>
cf f_bytes_Clone [t30] h fun t31 h =>
cf f_localfs_file [t31] h fun t32 h =>
K (.tup [t32, t35]) h)) (
(fun (e0 : AV → AV → AV → Hp → Prop) =>
s_localfs_readL1 cf fuel K (s_localfs_readE0 cf fuel K) t19 fuel t21 .nilslice .nilslice (.int .i64 0) h) (s_localfs_readE0 cf fuel K)))
noncomputable def s_localfs_read (cf : CallK) (fuel : Nat) (t0 : AV) (h : Hp) (K : AV → Hp → Prop) : Prop :=
vLenL2 t0 h fun t11 h =>
vLss t11 (.int .i64 5) h fun t12 h =>
vIf t12 (
K (.tup [.nilptr, .nilslice]) h) (
s_localfs_readB13 cf fuel K t0 h)
theorem s_localfs_read_eq (cf : CallK) (fuel : Nat) (t0 : AV) (h : Hp) (K : AV → Hp → Prop) : s_localfs_read cf fuel t0 h K = deepT (tabOf Tryz.prog) f_localfs_read cf fuel [t0] h K :=
  Eq.trans (by kernel_rfl) (rFun (by kernel_rfl) (rSeq (by kernel_rfl) (rSeq (by kernel_rfl) (rSeq (by kernel_rfl) (rSeq (by kernel_rfl) (rSeq (by kernel_rfl) (rSeq (by kernel_rfl) (rSeq (by kernel_rfl) (rSeq (by kernel_rfl) rExact (rSeq (by kernel_rfl) (rBlock (by kernel_rfl) (rLoop (by kernel_rfl) (fun m1 fr h => s_localfs_readL1 cf fuel K (s_localfs_readE0 cf fuel K) (getS fr (gpos 36)) m1 (getS fr (gpos 0)) (getS fr (gpos 6)) (getS fr (gpos 7)) (getS fr (gpos 37)) h) (funext fun fr => funext fun h => by kernel_rfl) fun m1 => rCast (funext fun fr => funext fun h => by kernel_rfl) rExact)) rExact)) rExact) rExact) rExact) rExact) rExact) rExact) rExact))

noncomputable def s_lagoonref4_LeqE0 (cf : CallK) (fuel : Nat) (K : AV → Hp → Prop) : Hp → Prop := fun h =>
K (.bool .true) h
noncomputable def s_lagoonref4_LeqL1B (cf : CallK) (fuel : Nat) (K : AV → Hp → Prop) (e0 : Hp → Prop) (t0 : AV) (t1 : AV) (ih1 : AV → Hp → Prop) : AV → Hp → Prop := fun t5 h =>
vLss t5 (.int .i64 64) h fun t7 h =>
vIf t7 (
(fun (e2 : Hp → Prop) =>
cf f_lagoonref4_At [t0, t5] h fun t12 h =>
cf f_lagoonref4_At [t1, t5] h fun t15 h =>
vGtr t12 t15 h fun t16 h =>
vIf t16 (
K (.bool .false) h) (
e2 h)) fun h =>
vAdd t5 (.int .i64 1) h fun t9 h =>
ih1 t9 h) (
e0 h)
noncomputable def s_lagoonref4_LeqL1 (cf : CallK) (fuel : Nat) (K : AV → Hp → Prop) (e0 : Hp → Prop) (t0 : AV) (t1 : AV) (m : Nat) : AV → Hp → Prop := Nat.rec (motive := fun _ => AV → Hp → Prop) (fun _ _ => False) (fun _ ih => s_lagoonref4_LeqL1B cf fuel K e0 t0 t1 ih) m
theorem s_lagoonref4_LeqL1_succ (cf : CallK) (fuel : Nat) (K : AV → Hp → Prop) (e0 : Hp → Prop) (t0 : AV) (t1 : AV) (m : Nat) : s_lagoonref4_LeqL1 cf fuel K e0 t0 t1 (m + 1) = s_lagoonref4_LeqL1B cf fuel K e0 t0 t1 (s_lagoonref4_LeqL1 cf fuel K e0 t0 t1 m) := rfl
noncomputable def s_lagoonref4_Leq (cf : CallK) (fuel : Nat) (t0 : AV) (t1 : AV) (h : Hp) (K : AV → Hp → Prop) : Prop :=
(fun (e0 : Hp → Prop) =>
s_lagoonref4_LeqL1 cf fuel K (s_lagoonref4_LeqE0 cf fuel K) t0 t1 fuel (.int .i64 0) h) (s_lagoonref4_LeqE0 cf fuel K)
theorem s_lagoonref4_Leq_eq (cf : CallK) (fuel : Nat) (t0 : AV) (t1 : AV) (h : Hp) (K : AV → Hp → Prop) : s_lagoonref4_Leq cf fuel t0 t1 h K = deepT (tabOf Tryz.prog) f_lagoonref4_Leq cf fuel [t0, t1] h K :=
  Eq.trans (by kernel_rfl) (rFun (by kernel_rfl) (rSeq (by kernel_rfl) (rSeq (by kernel_rfl) rExact (rSeq (by kernel_rfl) (rBlock (by kernel_rfl) (rLoop (by kernel_rfl) (fun m1 fr h => s_lagoonref4_LeqL1 cf fuel K (s_lagoonref4_LeqE0 cf fuel K) (getS fr (gpos 0)) (getS fr (gpos 1)) m1 (getS fr (gpos 5)) h) (funext fun fr => funext fun h => by kernel_rfl) fun m1 => rCast (funext fun fr => funext fun h => by kernel_rfl) rExact)) rExact)) rExact))

noncomputable def s_lagoonref12_MayB53 (cf : CallK) (fuel : Nat) (K : AV → Hp → Prop) (t1 : AV) (h : Hp) : Prop :=
vFaddr 4 t1 h fun t107 h =>
vLoadA 2 t107 h fun t108 h =>
vFaddr 0 t1 h fun t109 h =>
vLoadA 2 t109 h fun t110 h =>
cf f_lagoonref12_older [t108, t110] h fun t111 h =>
joinG (fun g52 => grdV t111 true (vFaddr 6 t1 h g52) (g52 undefV h)) fun t113 h =>
joinG (fun g51 => grdV t111 true (vLoadA 2 t113 h g51) (g51 undefV h)) fun t114 h =>
joinG (fun g50 => grdV t111 true (cf f_lagoonref12_root [t114] h g50) (g50 undefV h)) fun t115 h =>
vPick t111 t115 (.bool .false) h fun t116 h =>
joinG (fun g49 => grdV t116 true (vFaddr 8 t1 h g49) (g49 undefV h)) fun t118 h =>
joinG (fun g48 => grdV t116 true (vLoad2 t118 h g48) (g48 undefV h)) fun t119 h =>
joinG (fun g47 => grdV t116 true (vEql t119 (.str 0 0) h g47) (g47 undefV h)) fun t120 h =>
vPick t116 t120 (.bool .false) h fun t121 h =>
joinG (fun g46 => grdV t121 true (vFaddr 9 t1 h g46) (g46 undefV h)) fun t123 h =>
joinG (fun g45 => grdV t121 true (vLoad2 t123 h g45) (g45 undefV h)) fun t124 h =>
joinG (fun g44 => grdV t121 true (vLenL2 t124 h g44) (g44 undefV h)) fun t125 h =>
joinG (fun g43 => grdV t121 true (vLeq t125 (.int .i64 65536) h g43) (g43 undefV h)) fun t126 h =>
vPick t121 t126 (.bool .false) h fun t127 h =>
K t127 h
noncomputable def s_lagoonref12_MayB54 (cf : CallK) (fuel : Nat) (K : AV → Hp → Prop) (t1 : AV) (h : Hp) : Prop :=
vFaddr 4 t1 h fun t71 h =>
vLoadA 2 t71 h fun t72 h =>
vFaddr 0 t1 h fun t73 h =>
vLoadA 2 t73 h fun t74 h =>
cf f_lagoonref12_older [t72, t74] h fun t75 h =>
joinG (fun g42 => grdV t75 true (vFaddr 6 t1 h g42) (g42 undefV h)) fun t77 h =>
joinG (fun g41 => grdV t75 true (vLoadA 2 t77 h g41) (g41 undefV h)) fun t78 h =>
joinG (fun g40 => grdV t75 true (cf f_lagoonref12_root [t78] h g40) (g40 undefV h)) fun t79 h =>
joinG (fun g39 => grdV t75 true (vMov t79 h g39) (g39 undefV h)) fun t80 h =>
joinG (fun g38 => grdV t80 false (vFaddr 6 t1 h g38) (g38 undefV h)) fun t81 h =>
joinG (fun g37 => grdV t80 false (vLoadA 2 t81 h g37) (g37 undefV h)) fun t82 h =>
joinG (fun g36 => grdV t80 false (cf f_lagoonref12_trash [t82] h g36) (g36 undefV h)) fun t83 h =>
joinG (fun g35 => grdV t75 true (vPick t80 (.bool .true) t83 h g35) (g35 undefV h)) fun t84 h =>
joinG (fun g34 => grdV t75 true (vMov t84 h g34) (g34 undefV h)) fun t85 h =>
joinG (fun g33 => grdV t85 false (vFaddr 6 t1 h g33) (g33 undefV h)) fun t86 h =>
joinG (fun g32 => grdV t85 false (vLoadA 2 t86 h g32) (g32 undefV h)) fun t87 h =>
joinG (fun g31 => grdV t85 false (vFaddr 0 t1 h g31) (g31 undefV h)) fun t88 h =>
joinG (fun g30 => grdV t85 false (vLoadA 2 t88 h g30) (g30 undefV h)) fun t89 h =>
joinG (fun g29 => grdV t85 false (cf f_lagoonref12_older [t87, t89] h g29) (g29 undefV h)) fun t90 h =>
joinG (fun g28 => grdV t75 true (vPick t85 (.bool .true) t90 h g28) (g28 undefV h)) fun t91 h =>
vPick t75 t91 (.bool .false) h fun t92 h =>
joinG (fun g27 => grdV t92 true (vFaddr 8 t1 h g27) (g27 undefV h)) fun t94 h =>
joinG (fun g26 => grdV t92 true (vLoad2 t94 h g26) (g26 undefV h)) fun t95 h =>
joinG (fun g25 => grdV t92 true (cf f_lagoonref12_Name [t95] h g25) (g25 undefV h)) fun t96 h =>
joinG (fun g24 => grdV t92 true (vEql t96 (.int .i64 0) h g24) (g24 undefV h)) fun t97 h =>
vPick t92 t97 (.bool .false) h fun t98 h =>
joinG (fun g23 => grdV t98 true (vFaddr 9 t1 h g23) (g23 undefV h)) fun t100 h =>
joinG (fun g22 => grdV t98 true (vLoad2 t100 h g22) (g22 undefV h)) fun t101 h =>
joinG (fun g21 => grdV t98 true (vLenL2 t101 h g21) (g21 undefV h)) fun t102 h =>
joinG (fun g20 => grdV t98 true (vEql t102 (.int .i64 0) h g20) (g20 undefV h)) fun t103 h =>
vPick t98 t103 (.bool .false) h fun t104 h =>
K t104 h
noncomputable def s_lagoonref12_MayB55 (cf : CallK) (fuel : Nat) (K : AV → Hp → Prop) (t1 : AV) (h : Hp) : Prop :=
vFaddr 4 t1 h fun t40 h =>
vLoadA 2 t40 h fun t41 h =>
vFaddr 0 t1 h fun t42 h =>
vLoadA 2 t42 h fun t43 h =>
cf f_lagoonref4_Same [t41, t43] h fun t44 h =>
joinG (fun g19 => grdV t44 true (vFaddr 6 t1 h g19) (g19 undefV h)) fun t46 h =>
joinG (fun g18 => grdV t44 true (vLoadA 2 t46 h g18) (g18 undefV h)) fun t47 h =>
joinG (fun g17 => grdV t44 true (cf f_lagoonref12_root [t47] h g17) (g17 undefV h)) fun t48 h =>
joinG (fun g16 => grdV t44 true (vMov t48 h g16) (g16 undefV h)) fun t49 h =>
joinG (fun g15 => grdV t49 false (vFaddr 6 t1 h g15) (g15 undefV h)) fun t50 h =>
joinG (fun g14 => grdV t49 false (vLoadA 2 t50 h g14) (g14 undefV h)) fun t51 h =>
joinG (fun g13 => grdV t49 false (vFaddr 0 t1 h g13) (g13 undefV h)) fun t52 h =>
joinG (fun g12 => grdV t49 false (vLoadA 2 t52 h g12) (g12 undefV h)) fun t53 h =>
joinG (fun g11 => grdV t49 false (cf f_lagoonref12_older [t51, t53] h g11) (g11 undefV h)) fun t54 h =>
joinG (fun g10 => grdV t44 true (vPick t49 (.bool .true) t54 h g10) (g10 undefV h)) fun t55 h =>
vPick t44 t55 (.bool .false) h fun t56 h =>
joinG (fun g9 => grdV t56 true (vFaddr 8 t1 h g9) (g9 undefV h)) fun t58 h =>
joinG (fun g8 => grdV t56 true (vLoad2 t58 h g8) (g8 undefV h)) fun t59 h =>
joinG (fun g7 => grdV t56 true (cf f_lagoonref12_Name [t59] h g7) (g7 undefV h)) fun t60 h =>
joinG (fun g6 => grdV t56 true (vEql t60 (.int .i64 0) h g6) (g6 undefV h)) fun t61 h =>
vPick t56 t61 (.bool .false) h fun t62 h =>
joinG (fun g5 => grdV t62 true (vFaddr 9 t1 h g5) (g5 undefV h)) fun t64 h =>
joinG (fun g4 => grdV t62 true (vLoad2 t64 h g4) (g4 undefV h)) fun t65 h =>
joinG (fun g3 => grdV t62 true (vLenL2 t65 h g3) (g3 undefV h)) fun t66 h =>
joinG (fun g2 => grdV t62 true (vEql t66 (.int .i64 0) h g2) (g2 undefV h)) fun t67 h =>
vPick t62 t67 (.bool .false) h fun t68 h =>
K t68 h
noncomputable def s_lagoonref12_MayB56 (cf : CallK) (fuel : Nat) (K : AV → Hp → Prop) (t1 : AV) (h : Hp) : Prop :=
vFaddr 3 t1 h fun t35 h =>
vLoad2 t35 h fun t36 h =>
(fun (e0 : Hp → Prop) =>
(fun (j1 : AV → Hp → Prop) =>
vEql t36 (.int .i64 1) h fun t38 h =>
vIf t38 (
j1 t38 h) (
vEql t36 (.int .i64 2) h fun t39 h =>
j1 t39 h)) fun t37 h =>
vIf t37 (
s_lagoonref12_MayB55 cf fuel K t1 h) (
vEql t36 (.int .i64 3) h fun t70 h =>
vIf t70 (
s_lagoonref12_MayB54 cf fuel K t1 h) (
vEql t36 (.int .i64 4) h fun t106 h =>
vIf t106 (
s_lagoonref12_MayB53 cf fuel K t1 h) (
e0 h)))) fun h =>
K (.bool .false) h
noncomputable def s_lagoonref12_May (cf : CallK) (fuel : Nat) (t0 : AV) (h : Hp) (K : AV → Hp → Prop) : Prop :=
vBox 11 t0 h fun t1 h =>
vFaddr 0 t1 h fun t3 h =>
vLoadA 2 t3 h fun t4 h =>
cf f_lagoonref4_Valid [t4] h fun t5 h =>
vNot t5 h fun t6 h =>
joinG (fun g77 => grdV t6 false (vFaddr 2 t1 h g77) (g77 undefV h)) fun t8 h =>
joinG (fun g76 => grdV t6 false (vLoad2 t8 h g76) (g76 undefV h)) fun t9 h =>
joinG (fun g75 => grdV t6 false (vLss t9 (.int .i64 1) h g75) (g75 undefV h)) fun t10 h =>
vPick t6 (.bool .true) t10 h fun t11 h =>
joinG (fun g74 => grdV t11 false (vFaddr 2 t1 h g74) (g74 undefV h)) fun t13 h =>
joinG (fun g73 => grdV t11 false (vLoad2 t13 h g73) (g73 undefV h)) fun t14 h =>
joinG (fun g72 => grdV t11 false (vGtr t14 (.int .i64 1152921504606846976) h g72) (g72 undefV h)) fun t15 h =>
vPick t11 (.bool .true) t15 h fun t16 h =>
joinG (fun g71 => grdV t16 false (vFaddr 10 t1 h g71) (g71 undefV h)) fun t18 h =>
joinG (fun g70 => grdV t16 false (vLoad2 t18 h g70) (g70 undefV h)) fun t19 h =>
joinG (fun g69 => grdV t16 false (cf f_lagoonref4_May [t19] h g69) (g69 undefV h)) fun t20 h =>
joinG (fun g68 => grdV t16 false (vNot t20 h g68) (g68 undefV h)) fun t21 h =>
vPick t16 (.bool .true) t21 h fun t22 h =>
joinG (fun g67 => grdV t22 false (vFaddr 10 t1 h g67) (g67 undefV h)) fun t24 h =>
joinG (fun g66 => grdV t22 false (vLoad2 t24 h g66) (g66 undefV h)) fun t25 h =>
joinG (fun g65 => grdV t22 false (vFaddr 0 t1 h g65) (g65 undefV h)) fun t26 h =>
joinG (fun g64 => grdV t22 false (vFaddr 1 t26 h g64) (g64 undefV h)) fun t27 h =>
joinG (fun g63 => grdV t22 false (vLoad2 t27 h g63) (g63 undefV h)) fun t28 h =>
joinG (fun g62 => grdV t22 false (vFaddr 2 t1 h g62) (g62 undefV h)) fun t30 h =>
joinG (fun g61 => grdV t22 false (vLoad2 t30 h g61) (g61 undefV h)) fun t31 h =>
joinG (fun g60 => grdV t22 false (vArith Go.Am.subI t31 (.int .i64 1) h g60) (g60 undefV h)) fun t32 h =>
joinG (fun g59 => grdV t22 false (cf f_lagoonref4_At [t25, t28] h g59) (g59 undefV h)) fun t29 h =>
joinP (fun g58 => grdV t22 false (vLoad2 t30 h fun c _ => gd (sameV c t31) g58) g58) (
joinG (fun g57 => grdV t22 false (vNeq t29 t32 h g57) (g57 undefV h)) fun t33 h =>
vPick t22 (.bool .true) t33 h fun t34 h =>
vIf t34 (
K (.bool .false) h) (
s_lagoonref12_MayB56 cf fuel K t1 h))
theorem s_lagoonref12_May_eq (cf : CallK) (fuel : Nat) (t0 : AV) (h : Hp) (K : AV → Hp → Prop) : s_lagoonref12_May cf fuel t0 h K = deepT (tabOf Tryz.prog) f_lagoonref12_May cf fuel [t0] h K :=
  Eq.trans (by kernel_rfl) (rFun (by kernel_rfl) rExact)

noncomputable def s_lagoonref3_NumE0 (cf : CallK) (fuel : Nat) (K : AV → Hp → Prop) : AV → AV → Hp → Prop := fun t0 t4 h =>
vToInt .u8 t0 h fun t24 h =>
vBslice 1 1 true [(.int .u8 0)] [(0, 1, t24)] h fun t25 h =>
vAppend2 1 1 true t4 t25 h fun t26 h =>
K (.tup [t26, (.bool .true)]) h
noncomputable def s_lagoonref3_NumL1B (cf : CallK) (fuel : Nat) (e0 : AV → AV → Hp → Prop) (ih1 : AV → AV → Hp → Prop) : AV → AV → Hp → Prop := fun t0 t4 h =>
vGtr t0 (.int .i64 127) h fun t12 h =>
vIf t12 (
(fun (e2 : AV → AV → Hp → Prop) =>
vDiv true t0 (.int .i64 128) h fun t15 h =>
vAdd (.int .i64 128) t15 h fun t16 h =>
vToInt .u8 t16 h fun t17 h =>
vBslice 1 1 true [(.int .u8 0)] [(0, 1, t17)] h fun t18 h =>
vAppend2 1 1 true t4 t18 h fun t19 h =>
vDiv false t0 (.int .i64 128) h fun t21 h =>
e2 t21 t19 h) fun t0_3 t4 h =>
ih1 t0_3 t4 h) (
e0 t0 t4 h)
noncomputable def s_lagoonref3_NumL1 (cf : CallK) (fuel : Nat) (e0 : AV → AV → Hp → Prop) (m : Nat) : AV → AV → Hp → Prop := Nat.rec (motive := fun _ => AV → AV → Hp → Prop) (fun _ _ _ => False) (fun _ ih => s_lagoonref3_NumL1B cf fuel e0 ih) m
theorem s_lagoonref3_NumL1_succ (cf : CallK) (fuel : Nat) (e0 : AV → AV → Hp → Prop) (m : Nat) : s_lagoonref3_NumL1 cf fuel e0 (m + 1) = s_lagoonref3_NumL1B cf fuel e0 (s_lagoonref3_NumL1 cf fuel e0 m) := rfl
noncomputable def s_lagoonref3_Num (cf : CallK) (fuel : Nat) (t0 : AV) (h : Hp) (K : AV → Hp → Prop) : Prop :=
vLss t0 (.int .i64 0) h fun t6 h =>
joinG (fun g5 => grdV t6 false (vMov t0 h g5) (g5 undefV h)) fun t8 h =>
joinG (fun g4 => grdV t6 false (vGtr t8 (.int .i64 4611686018427387904) h g4) (g4 undefV h)) fun t9 h =>
vPick t6 (.bool .true) t9 h fun t10 h =>
vIf t10 (
K (.tup [.nilslice, (.bool .false)]) h) (
(fun (e0 : AV → AV → Hp → Prop) =>
s_lagoonref3_NumL1 cf fuel (s_lagoonref3_NumE0 cf fuel K) fuel t0 .nilslice h) (s_lagoonref3_NumE0 cf fuel K))
theorem s_lagoonref3_Num_eq (cf : CallK) (fuel : Nat) (t0 : AV) (h : Hp) (K : AV → Hp → Prop) : s_lagoonref3_Num cf fuel t0 h K = deepT (tabOf Tryz.prog) f_lagoonref3_Num cf fuel [t0] h K :=
  Eq.trans (by kernel_rfl) (rFun (by kernel_rfl) (rSeq (by kernel_rfl) (rSeq (by kernel_rfl) (rSeq (by kernel_rfl) (rSeq (by kernel_rfl) rExact (rBlock (by kernel_rfl) (rLoop (by kernel_rfl) (fun m1 fr h => s_lagoonref3_NumL1 cf fuel (s_lagoonref3_NumE0 cf fuel K) m1 (getS fr (gpos 0)) (getS fr (gpos 4)) h) (funext fun fr => funext fun h => by kernel_rfl) fun m1 => rCast (funext fun fr => funext fun h => by kernel_rfl) rExact))) rExact) rExact) rExact))

noncomputable def s_lagoonref3_ID (cf : CallK) (fuel : Nat) (t0 : AV) (h : Hp) (K : AV → Hp → Prop) : Prop :=
vBox 2 t0 h fun t1 h =>
vFaddr 0 t1 h fun t8 h =>
vLoad2 t8 h fun t9 h =>
vLss t9 (.int .i64 0) h fun t10 h =>
joinG (fun g8 => grdV t10 false (vFaddr 0 t1 h g8) (g8 undefV h)) fun t12 h =>
joinG (fun g7 => grdV t10 false (vLoad2 t12 h g7) (g7 undefV h)) fun t13 h =>
joinG (fun g6 => grdV t10 false (vGtr t13 (.int .i64 1152921504606846976) h g6) (g6 undefV h)) fun t14 h =>
vPick t10 (.bool .true) t14 h fun t15 h =>
joinG (fun g5 => grdV t15 false (vFaddr 1 t1 h g5) (g5 undefV h)) fun t17 h =>
joinG (fun g4 => grdV t15 false (vLoad2 t17 h g4) (g4 undefV h)) fun t18 h =>
joinG (fun g3 => grdV t15 false (vLss t18 (.int .i64 0) h g3) (g3 undefV h)) fun t19 h =>
vPick t15 (.bool .true) t19 h fun t20 h =>
joinG (fun g2 => grdV t20 false (vFaddr 1 t1 h g2) (g2 undefV h)) fun t22 h =>
joinG (fun g1 => grdV t20 false (vLoad2 t22 h g1) (g1 undefV h)) fun t23 h =>
joinG (fun g0 => grdV t20 false (vGeq t23 (.int .i64 64) h g0) (g0 undefV h)) fun t24 h =>
vPick t20 (.bool .true) t24 h fun t25 h =>
vIf t25 (
K (.tup [.nilslice, (.bool .false)]) h) (
vFaddr 0 t1 h fun t27 h =>
vLoad2 t27 h fun t28 h =>
cf f_lagoonref3_Num [t28] h fun t29 h =>
vExtract 0 t29 h fun t30 h =>
vExtract 1 t29 h fun t31 h =>
vFaddr 1 t1 h fun t33 h =>
vLoad2 t33 h fun t34 h =>
cf f_lagoonref3_Num [t34] h fun t35 h =>
vExtract 0 t35 h fun t36 h =>
vExtract 1 t35 h fun t37 h =>
vAppend2 1 1 true t30 t36 h fun t40 h =>
K (.tup [t40, (.bool .true)]) h)
theorem s_lagoonref3_ID_eq (cf : CallK) (fuel : Nat) (t0 : AV) (h : Hp) (K : AV → Hp → Prop) : s_lagoonref3_ID cf fuel t0 h K = deepT (tabOf Tryz.prog) f_lagoonref3_ID cf fuel [t0] h K :=
  Eq.trans (by kernel_rfl) (rFun (by kernel_rfl) rExact)

noncomputable def s_lagoonref3_Bytes (cf : CallK) (fuel : Nat) (t0 : AV) (h : Hp) (K : AV → Hp → Prop) : Prop :=
vLenL2 t0 h fun t7 h =>
vGtr t7 (.int .i64 65536) h fun t8 h =>
vIf t8 (
K (.tup [.nilslice, (.bool .false)]) h) (
vLenL2 t0 h fun t11 h =>
cf f_lagoonref3_Num [t11] h fun t12 h =>
vExtract 0 t12 h fun t13 h =>
vExtract 1 t12 h fun t14 h =>
vAppend2 1 1 true t13 t0 h fun t17 h =>
K (.tup [t17, (.bool .true)]) h)
theorem s_lagoonref3_Bytes_eq (cf : CallK) (fuel : Nat) (t0 : AV) (h : Hp) (K : AV → Hp → Prop) : s_lagoonref3_Bytes cf fuel t0 h K = deepT (tabOf Tryz.prog) f_lagoonref3_Bytes cf fuel [t0] h K :=
  Eq.trans (by kernel_rfl) (rFun (by kernel_rfl) rExact)

noncomputable def s_lagoonref3_VectorE0 (cf : CallK) (fuel : Nat) (K : AV → Hp → Prop) : AV → Hp → Prop := fun t5 h =>
K (.tup [t5, (.bool .true)]) h
noncomputable def s_lagoonref3_VectorL1B (cf : CallK) (fuel : Nat) (e0 : AV → Hp → Prop) (t4 : AV) (ih1 : AV → AV → Hp → Prop) : AV → AV → Hp → Prop := fun t5 t7 h =>
vLenL2 t4 h fun t23 h =>
vLss t7 t23 h fun t24 h =>
vIf t24 (
(fun (e2 : AV → Hp → Prop) =>
vIaddr 1 t4 t7 h fun t30 h =>
vLoad2 t30 h fun t31 h =>
cf f_lagoonref3_Num [t31] h fun t32 h =>
vExtract 0 t32 h fun t33 h =>
vExtract 1 t32 h fun t34 h =>
vAppend2 1 1 true t5 t33 h fun t37 h =>
e2 t37 h) fun t5 h =>
vAdd t7 (.int .i64 1) h fun t26 h =>
ih1 t5 t26 h) (
e0 t5 h)
noncomputable def s_lagoonref3_VectorL1 (cf : CallK) (fuel : Nat) (e0 : AV → Hp → Prop) (t4 : AV) (m : Nat) : AV → AV → Hp → Prop := Nat.rec (motive := fun _ => AV → AV → Hp → Prop) (fun _ _ _ => False) (fun _ ih => s_lagoonref3_VectorL1B cf fuel e0 t4 ih) m
theorem s_lagoonref3_VectorL1_succ (cf : CallK) (fuel : Nat) (e0 : AV → Hp → Prop) (t4 : AV) (m : Nat) : s_lagoonref3_VectorL1 cf fuel e0 t4 (m + 1) = s_lagoonref3_VectorL1B cf fuel e0 t4 (s_lagoonref3_VectorL1 cf fuel e0 t4 m) := rfl
noncomputable def s_lagoonref3_Vector (cf : CallK) (fuel : Nat) (t0 : AV) (h : Hp) (K : AV → Hp → Prop) : Prop :=
cf f_lagoonref4_May [t0] h fun t11 h =>
vNot t11 h fun t12 h =>
vIf t12 (
K (.tup [.nilslice, (.bool .false)]) h) (
cf f_lagoonref4_Norm [t0] h fun t14 h =>
vLenL2 t14 h fun t17 h =>
cf f_lagoonref3_Num [t17] h fun t18 h =>
vExtract 0 t18 h fun t19 h =>
vExtract 1 t18 h fun t20 h =>
(fun (e0 : AV → Hp → Prop) =>
s_lagoonref3_VectorL1 cf fuel (s_lagoonref3_VectorE0 cf fuel K) t14 fuel t19 (.int .i64 0) h) (s_lagoonref3_VectorE0 cf fuel K))
theorem s_lagoonref3_Vector_eq (cf : CallK) (fuel : Nat) (t0 : AV) (h : Hp) (K : AV → Hp → Prop) : s_lagoonref3_Vector cf fuel t0 h K = deepT (tabOf Tryz.prog) f_lagoonref3_Vector cf fuel [t0] h K :=
  Eq.trans (by kernel_rfl) (rFun (by kernel_rfl) (rSeq (by kernel_rfl) (rSeq (by kernel_rfl) (rSeq (by kernel_rfl) (rSeq (by kernel_rfl) (rSeq (by kernel_rfl) rExact (rSeq (by kernel_rfl) (rBlock (by kernel_rfl) (rLoop (by kernel_rfl) (fun m1 fr h => s_lagoonref3_VectorL1 cf fuel (s_lagoonref3_VectorE0 cf fuel K) (getS fr (gpos 4)) m1 (getS fr (gpos 5)) (getS fr (gpos 7)) h) (funext fun fr => funext fun h => by kernel_rfl) fun m1 => rCast (funext fun fr => funext fun h => by kernel_rfl) rExact)) rExact)) rExact) rExact) rExact) rExact))

noncomputable def s_wal_Volume_dead (cf : CallK) (fuel : Nat) (t0 : AV) (h : Hp) (K : AV → Hp → Prop) : Prop :=
vNilck t0 h fun t5 h =>
vFaddr 5 t5 h fun t6 h =>
vLoad2 t6 h fun t7 h =>
joinG (fun g4 => grdV t7 false (vMov t0 h g4) (g4 undefV h)) fun t9 h =>
joinG (fun g3 => grdV t7 false (vNilck t9 h g3) (g3 undefV h)) fun t10 h =>
joinG (fun g2 => grdV t7 false (vFaddr 0 t10 h g2) (g2 undefV h)) fun t11 h =>
joinG (fun g1 => grdV t7 false (vLoad2 t11 h g1) (g1 undefV h)) fun t12 h =>
joinG (fun g0 => grdV t7 false (cf f_device_Device_Dead [t12] h g0) (g0 undefV h)) fun t13 h =>
vPick t7 (.bool .true) t13 h fun t14 h =>
vNilck t0 h fun t15 h =>
vFaddr 5 t15 h fun t16 h =>
vStore 1 t16 t14 h fun _ h =>
vNilck t0 h fun t18 h =>
vFaddr 5 t18 h fun t19 h =>
vLoad2 t19 h fun t20 h =>
K t20 h
theorem s_wal_Volume_dead_eq (cf : CallK) (fuel : Nat) (t0 : AV) (h : Hp) (K : AV → Hp → Prop) : s_wal_Volume_dead cf fuel t0 h K = deepT (tabOf Tryz.prog) f_wal_Volume_dead cf fuel [t0] h K :=
  Eq.trans (by kernel_rfl) (rFun (by kernel_rfl) rExact)

noncomputable def s_wal_Volume_keepB1 (cf : CallK) (fuel : Nat) (K : AV → Hp → Prop) (t0 : AV) (t3 : AV) (h : Hp) : Prop :=
vNilck t0 h fun t48 h =>
vFaddr 0 t48 h fun t49 h =>
vLoad2 t49 h fun t50 h =>
vDiv true t3 (.int .i64 2) h fun t52 h =>
vNilck t0 h fun t55 h =>
vFaddr 3 t55 h fun t56 h =>
vLoad2 t56 h fun t57 h =>
cf f_wal_head [t3, t57] h fun t58 h =>
vLoad2 t49 h fun c _ => gd (sameV c t50) (
cf f_device_Device_Write [t50, t52, t58] h fun t59 h =>
vNeq t59 (.int .i64 0) h fun t61 h =>
vIf t61 (
K t59 h) (
vNilck t0 h fun t64 h =>
vFaddr 0 t64 h fun t65 h =>
vLoad2 t65 h fun t66 h =>
cf f_device_Device_Flush [t66] h fun t67 h =>
vNilck t0 h fun t70 h =>
vFaddr 2 t70 h fun t71 h =>
vStore 1 t71 t3 h fun _ h =>
K t67 h))
noncomputable def s_wal_Volume_keepE0 (cf : CallK) (fuel : Nat) (K : AV → Hp → Prop) (t0 : AV) (t3 : AV) : Hp → Prop := fun h =>
vNilck t0 h fun t40 h =>
vFaddr 0 t40 h fun t41 h =>
vLoad2 t41 h fun t42 h =>
cf f_device_Device_Flush [t42] h fun t43 h =>
vNeq t43 (.int .i64 0) h fun t45 h =>
vIf t45 (
K t43 h) (
s_wal_Volume_keepB1 cf fuel K t0 t3 h)
noncomputable def s_wal_Volume_keepB4 (cf : CallK) (fuel : Nat) (K : AV → Hp → Prop) (ih2 : AV → Hp → Prop) (t0 : AV) (t3 : AV) (t18 : AV) (t20 : AV) (h : Hp) : Prop :=
(fun (e3 : Hp → Prop) =>
vIaddr 1 t18 t20 h fun t23 h =>
vLoad2 t23 h fun t24 h =>
vNilck t0 h fun t26 h =>
vFaddr 0 t26 h fun t27 h =>
vLoad2 t27 h fun t28 h =>
cf f_wal_Volume_at [t0, t3, t20] h fun t32 h =>
vLoad2 t27 h fun c _ => gd (sameV c t28) (
cf f_wal_wrote [t28, t32, t24] h fun t34 h =>
vNeq t34 (.int .i64 0) h fun t36 h =>
vIf t36 (
K t34 h) (
e3 h))) fun h =>
vAdd t20 (.int .i64 1) h fun t38 h =>
ih2 t38 h
noncomputable def s_wal_Volume_keepL2B (cf : CallK) (fuel : Nat) (K : AV → Hp → Prop) (e0 : Hp → Prop) (t0 : AV) (t3 : AV) (t18 : AV) (t19 : AV) (ih2 : AV → Hp → Prop) : AV → Hp → Prop := fun t20 h =>
vLss t20 t19 h fun t21 h =>
vIf t21 (
s_wal_Volume_keepB4 cf fuel K ih2 t0 t3 t18 t20 h) (
e0 h)
noncomputable def s_wal_Volume_keepL2 (cf : CallK) (fuel : Nat) (K : AV → Hp → Prop) (e0 : Hp → Prop) (t0 : AV) (t3 : AV) (t18 : AV) (t19 : AV) (m : Nat) : AV → Hp → Prop := Nat.rec (motive := fun _ => AV → Hp → Prop) (fun _ _ => False) (fun _ ih => s_wal_Volume_keepL2B cf fuel K e0 t0 t3 t18 t19 ih) m
theorem s_wal_Volume_keepL2_succ (cf : CallK) (fuel : Nat) (K : AV → Hp → Prop) (e0 : Hp → Prop) (t0 : AV) (t3 : AV) (t18 : AV) (t19 : AV) (m : Nat) : s_wal_Volume_keepL2 cf fuel K e0 t0 t3 t18 t19 (m + 1) = s_wal_Volume_keepL2B cf fuel K e0 t0 t3 t18 t19 (s_wal_Volume_keepL2 cf fuel K e0 t0 t3 t18 t19 m) := rfl
noncomputable def s_wal_Volume_keep (cf : CallK) (fuel : Nat) (t0 : AV) (h : Hp) (K : AV → Hp → Prop) : Prop :=
vNilck t0 h fun t11 h =>
vFaddr 2 t11 h fun t12 h =>
vLoad2 t12 h fun t13 h =>
vAdd t13 (.int .i64 1) h fun t14 h =>
vNilck t0 h fun t16 h =>
vFaddr 1 t16 h fun t17 h =>
vLoad2 t17 h fun t18 h =>
vLenL2 t18 h fun t19 h =>
(fun (e0 : Hp → Prop) =>
s_wal_Volume_keepL2 cf fuel K (s_wal_Volume_keepE0 cf fuel K t0 t14) t0 t14 t18 t19 fuel (.int .i64 0) h) (s_wal_Volume_keepE0 cf fuel K t0 t14)
theorem s_wal_Volume_keep_eq (cf : CallK) (fuel : Nat) (t0 : AV) (h : Hp) (K : AV → Hp → Prop) : s_wal_Volume_keep cf fuel t0 h K = deepT (tabOf Tryz.prog) f_wal_Volume_keep cf fuel [t0] h K :=
  Eq.trans (by kernel_rfl) (rFun (by kernel_rfl) (rSeq (by kernel_rfl) (rSeq (by kernel_rfl) (rSeq (by kernel_rfl) rExact (rSeq (by kernel_rfl) (rBlock (by kernel_rfl) (rLoop (by kernel_rfl) (fun m2 fr h => s_wal_Volume_keepL2 cf fuel K (s_wal_Volume_keepE0 cf fuel K (getS fr (gpos 0)) (getS fr (gpos 3))) (getS fr (gpos 0)) (getS fr (gpos 3)) (getS fr (gpos 18)) (getS fr (gpos 19)) m2 (getS fr (gpos 20)) h) (funext fun fr => funext fun h => by kernel_rfl) fun m2 => rCast (funext fun fr => funext fun h => by kernel_rfl) rExact)) rExact)) rExact) rExact))

noncomputable def s_clock_node (cf : CallK) (fuel : Nat) (t0 : AV) (h : Hp) (K : AV → Hp → Prop) : Prop :=
vGeq t0 (.int .i64 0) h fun t4 h =>
joinG (fun g1 => grdV t4 true (vMov t0 h g1) (g1 undefV h)) fun t6 h =>
joinG (fun g0 => grdV t4 true (vLss t6 (.int .i64 64) h g0) (g0 undefV h)) fun t7 h =>
vPick t4 t7 (.bool .false) h fun t8 h =>
K t8 h
theorem s_clock_node_eq (cf : CallK) (fuel : Nat) (t0 : AV) (h : Hp) (K : AV → Hp → Prop) : s_clock_node cf fuel t0 h K = deepT (tabOf Tryz.prog) f_clock_node cf fuel [t0] h K :=
  Eq.trans (by kernel_rfl) (rFun (by kernel_rfl) rExact)

noncomputable def s_strings_ContainsAny (cf : CallK) (fuel : Nat) (t0 : AV) (t1 : AV) (h : Hp) (K : AV → Hp → Prop) : Prop :=
cf f_strings_IndexAny [t0, t1] h fun t7 h =>
vGeq t7 (.int .i64 0) h fun t8 h =>
K t8 h
theorem s_strings_ContainsAny_eq (cf : CallK) (fuel : Nat) (t0 : AV) (t1 : AV) (h : Hp) (K : AV → Hp → Prop) : s_strings_ContainsAny cf fuel t0 t1 h K = deepT (tabOf Tryz.prog) f_strings_ContainsAny cf fuel [t0, t1] h K :=
  Eq.trans (by kernel_rfl) (rFun (by kernel_rfl) rExact)

noncomputable def s_cmp_Compare_int64 (cf : CallK) (fuel : Nat) (t0 : AV) (t1 : AV) (h : Hp) (K : AV → Hp → Prop) : Prop :=
cf f_cmp_isNaN_int64 [t0] h fun t8 h =>
cf f_cmp_isNaN_int64 [t1] h fun t10 h =>
vIf t8 (
vIf t10 (
K (.int .i64 0) h) (
K (.int .i64 (-1)) h)) (
vIf t10 (
K (.int .i64 1) h) (
vLss t0 t1 h fun t16 h =>
vIf t16 (
K (.int .i64 (-1)) h) (
vGtr t0 t1 h fun t19 h =>
vIf t19 (
K (.int .i64 1) h) (
K (.int .i64 0) h))))
theorem s_cmp_Compare_int64_eq (cf : CallK) (fuel : Nat) (t0 : AV) (t1 : AV) (h : Hp) (K : AV → Hp → Prop) : s_cmp_Compare_int64 cf fuel t0 t1 h K = deepT (tabOf Tryz.prog) f_cmp_Compare_int64 cf fuel [t0, t1] h K :=
  Eq.trans (by kernel_rfl) (rFun (by kernel_rfl) rExact)

noncomputable def s_cmp_Compare_int (cf : CallK) (fuel : Nat) (t0 : AV) (t1 : AV) (h : Hp) (K : AV → Hp → Prop) : Prop :=
cf f_cmp_isNaN_int [t0] h fun t8 h =>
cf f_cmp_isNaN_int [t1] h fun t10 h =>
vIf t8 (
vIf t10 (
K (.int .i64 0) h) (
K (.int .i64 (-1)) h)) (
vIf t10 (
K (.int .i64 1) h) (
vLss t0 t1 h fun t16 h =>
vIf t16 (
K (.int .i64 (-1)) h) (
vGtr t0 t1 h fun t19 h =>
vIf t19 (
K (.int .i64 1) h) (
K (.int .i64 0) h))))
theorem s_cmp_Compare_int_eq (cf : CallK) (fuel : Nat) (t0 : AV) (t1 : AV) (h : Hp) (K : AV → Hp → Prop) : s_cmp_Compare_int cf fuel t0 t1 h K = deepT (tabOf Tryz.prog) f_cmp_Compare_int cf fuel [t0, t1] h K :=
  Eq.trans (by kernel_rfl) (rFun (by kernel_rfl) rExact)

noncomputable def s_codec_stamp (cf : CallK) (fuel : Nat) (t0 : AV) (h : Hp) (K : AV → Hp → Prop) : Prop :=
vBox 2 t0 h fun t1 h =>
vFaddr 0 t1 h fun t3 h =>
vLoad2 t3 h fun t4 h =>
vGeq t4 (.int .i64 0) h fun t5 h =>
joinG (fun g8 => grdV t5 true (vFaddr 0 t1 h g8) (g8 undefV h)) fun t7 h =>
joinG (fun g7 => grdV t5 true (vLoad2 t7 h g7) (g7 undefV h)) fun t8 h =>
joinG (fun g6 => grdV t5 true (vLeq t8 (.int .i64 1152921504606846976) h g6) (g6 undefV h)) fun t9 h =>
vPick t5 t9 (.bool .false) h fun t10 h =>
joinG (fun g5 => grdV t10 true (vFaddr 1 t1 h g5) (g5 undefV h)) fun t12 h =>
joinG (fun g4 => grdV t10 true (vLoad2 t12 h g4) (g4 undefV h)) fun t13 h =>
joinG (fun g3 => grdV t10 true (vGeq t13 (.int .i64 0) h g3) (g3 undefV h)) fun t14 h =>
vPick t10 t14 (.bool .false) h fun t15 h =>
joinG (fun g2 => grdV t15 true (vFaddr 1 t1 h g2) (g2 undefV h)) fun t17 h =>
joinG (fun g1 => grdV t15 true (vLoad2 t17 h g1) (g1 undefV h)) fun t18 h =>
joinG (fun g0 => grdV t15 true (vLss t18 (.int .i64 64) h g0) (g0 undefV h)) fun t19 h =>
vPick t15 t19 (.bool .false) h fun t20 h =>
K t20 h
theorem s_codec_stamp_eq (cf : CallK) (fuel : Nat) (t0 : AV) (h : Hp) (K : AV → Hp → Prop) : s_codec_stamp cf fuel t0 h K = deepT (tabOf Tryz.prog) f_codec_stamp cf fuel [t0] h K :=
  Eq.trans (by kernel_rfl) (rFun (by kernel_rfl) rExact)

noncomputable def s_codec_numsE0 (cf : CallK) (fuel : Nat) (K : AV → Hp → Prop) : Hp → Prop := fun h =>
K (.tup []) h
noncomputable def s_codec_numsL1B (cf : CallK) (fuel : Nat) (e0 : Hp → Prop) (t0 : AV) (t6 : AV) (t7 : AV) (ih1 : AV → Hp → Prop) : AV → Hp → Prop := fun t8 h =>
vLss t8 t7 h fun t9 h =>
vIf t9 (
(fun (e2 : Hp → Prop) =>
vIaddr 1 t6 t8 h fun t10 h =>
vLoad2 t10 h fun t11 h =>
vCallV t0 [t11] cf h fun t14 h =>
e2 h) fun h =>
vAdd t8 (.int .i64 1) h fun t15 h =>
ih1 t15 h) (
e0 h)
noncomputable def s_codec_numsL1 (cf : CallK) (fuel : Nat) (e0 : Hp → Prop) (t0 : AV) (t6 : AV) (t7 : AV) (m : Nat) : AV → Hp → Prop := Nat.rec (motive := fun _ => AV → Hp → Prop) (fun _ _ => False) (fun _ ih => s_codec_numsL1B cf fuel e0 t0 t6 t7 ih) m
theorem s_codec_numsL1_succ (cf : CallK) (fuel : Nat) (e0 : Hp → Prop) (t0 : AV) (t6 : AV) (t7 : AV) (m : Nat) : s_codec_numsL1 cf fuel e0 t0 t6 t7 (m + 1) = s_codec_numsL1B cf fuel e0 t0 t6 t7 (s_codec_numsL1 cf fuel e0 t0 t6 t7 m) := rfl
noncomputable def s_codec_nums (cf : CallK) (fuel : Nat) (t0 : AV) (t1 : AV) (h : Hp) (K : AV → Hp → Prop) : Prop :=
vLenL2 t1 h fun t7 h =>
(fun (e0 : Hp → Prop) =>
s_codec_numsL1 cf fuel (s_codec_numsE0 cf fuel K) t0 t1 t7 fuel (.int .i64 0) h) (s_codec_numsE0 cf fuel K)
theorem s_codec_nums_eq (cf : CallK) (fuel : Nat) (t0 : AV) (t1 : AV) (h : Hp) (K : AV → Hp → Prop) : s_codec_nums cf fuel t0 t1 h K = deepT (tabOf Tryz.prog) f_codec_nums cf fuel [t0, t1] h K :=
  Eq.trans (by kernel_rfl) (rFun (by kernel_rfl) (rSeq (by kernel_rfl) (rBlock (by kernel_rfl) (rLoop (by kernel_rfl) (fun m1 fr h => s_codec_numsL1 cf fuel (s_codec_numsE0 cf fuel K) (getS fr (gpos 0)) (getS fr (gpos 6)) (getS fr (gpos 7)) m1 (getS fr (gpos 8)) h) (funext fun fr => funext fun h => by kernel_rfl) fun m1 => rCast (funext fun fr => funext fun h => by kernel_rfl) rExact)) rExact))

noncomputable def s_codec_cutE0 (cf : CallK) (fuel : Nat) (K : AV → Hp → Prop) (t0 : AV) : AV → Hp → Prop := fun t3 h =>
vSlice2 1 t0 none (some t3) h fun t20 h =>
K t20 h
noncomputable def s_codec_cutL1B (cf : CallK) (fuel : Nat) (e0 : AV → Hp → Prop) (t0 : AV) (ih1 : AV → Hp → Prop) : AV → Hp → Prop := fun t3 h =>
vGtr t3 (.int .i64 0) h fun t7 h =>
joinG (fun g9 => grdV t7 true (vMov t0 h g9) (g9 undefV h)) fun t9 h =>
joinG (fun g8 => grdV t7 true (vMov t3 h g8) (g8 undefV h)) fun t10 h =>
joinG (fun g7 => grdV t7 true (vArith Go.Am.subI t10 (.int .i64 1) h g7) (g7 undefV h)) fun t11 h =>
joinG (fun g6 => grdV t7 true (vIaddr 1 t9 t11 h g6) (g6 undefV h)) fun t12 h =>
joinG (fun g5 => grdV t7 true (vLoad2 t12 h g5) (g5 undefV h)) fun t13 h =>
joinG (fun g4 => grdV t7 true (vEql t13 (.int .i64 0) h g4) (g4 undefV h)) fun t14 h =>
vPick t7 t14 (.bool .false) h fun t15 h =>
vIf t15 (
(fun (e2 : AV → Hp → Prop) =>
vArith Go.Am.subI t3 (.int .i64 1) h fun t17 h =>
e2 t17 h) fun t3_3 h =>
ih1 t3_3 h) (
e0 t3 h)
noncomputable def s_codec_cutL1 (cf : CallK) (fuel : Nat) (e0 : AV → Hp → Prop) (t0 : AV) (m : Nat) : AV → Hp → Prop := Nat.rec (motive := fun _ => AV → Hp → Prop) (fun _ _ => False) (fun _ ih => s_codec_cutL1B cf fuel e0 t0 ih) m
theorem s_codec_cutL1_succ (cf : CallK) (fuel : Nat) (e0 : AV → Hp → Prop) (t0 : AV) (m : Nat) : s_codec_cutL1 cf fuel e0 t0 (m + 1) = s_codec_cutL1B cf fuel e0 t0 (s_codec_cutL1 cf fuel e0 t0 m) := rfl
noncomputable def s_codec_cut (cf : CallK) (fuel : Nat) (t0 : AV) (h : Hp) (K : AV → Hp → Prop) : Prop :=
vLenL2 t0 h fun t5 h =>
(fun (e0 : AV → Hp → Prop) =>
s_codec_cutL1 cf fuel (s_codec_cutE0 cf fuel K t0) t0 fuel t5 h) (s_codec_cutE0 cf fuel K t0)
theorem s_codec_cut_eq (cf : CallK) (fuel : Nat) (t0 : AV) (h : Hp) (K : AV → Hp → Prop) : s_codec_cut cf fuel t0 h K = deepT (tabOf Tryz.prog) f_codec_cut cf fuel [t0] h K :=
  Eq.trans (by kernel_rfl) (rFun (by kernel_rfl) (rSeq (by kernel_rfl) (rSeq (by kernel_rfl) (rSeq (by kernel_rfl) rExact (rBlock (by kernel_rfl) (rLoop (by kernel_rfl) (fun m1 fr h => s_codec_cutL1 cf fuel (s_codec_cutE0 cf fuel K (getS fr (gpos 0))) (getS fr (gpos 0)) m1 (getS fr (gpos 3)) h) (funext fun fr => funext fun h => by kernel_rfl) fun m1 => rCast (funext fun fr => funext fun h => by kernel_rfl) rExact))) rExact) rExact))

noncomputable def s_codec_vectorE0 (cf : CallK) (fuel : Nat) (K : AV → Hp → Prop) (t0 : AV) : Hp → Prop := fun h =>
vLenL2 t0 h fun t19 h =>
vLeq t19 (.int .i64 64) h fun t20 h =>
K t20 h
noncomputable def s_codec_vectorL1B (cf : CallK) (fuel : Nat) (K : AV → Hp → Prop) (e0 : Hp → Prop) (t0 : AV) (t5 : AV) (t6 : AV) (ih1 : AV → Hp → Prop) : AV → Hp → Prop := fun t7 h =>
vLss t7 t6 h fun t8 h =>
vIf t8 (
(fun (e2 : Hp → Prop) =>
vIaddr 1 t5 t7 h fun t9 h =>
vLoad2 t9 h fun t10 h =>
vLss t10 (.int .i64 0) h fun t12 h =>
joinG (fun g4 => grdV t12 false (vMov t10 h g4) (g4 undefV h)) fun t14 h =>
joinG (fun g3 => grdV t12 false (vGtr t14 (.int .i64 1152921504606846976) h g3) (g3 undefV h)) fun t15 h =>
vPick t12 (.bool .true) t15 h fun t16 h =>
vIf t16 (
K (.bool .false) h) (
e2 h)) fun h =>
vAdd t7 (.int .i64 1) h fun t17 h =>
ih1 t17 h) (
e0 h)
noncomputable def s_codec_vectorL1 (cf : CallK) (fuel : Nat) (K : AV → Hp → Prop) (e0 : Hp → Prop) (t0 : AV) (t5 : AV) (t6 : AV) (m : Nat) : AV → Hp → Prop := Nat.rec (motive := fun _ => AV → Hp → Prop) (fun _ _ => False) (fun _ ih => s_codec_vectorL1B cf fuel K e0 t0 t5 t6 ih) m
theorem s_codec_vectorL1_succ (cf : CallK) (fuel : Nat) (K : AV → Hp → Prop) (e0 : Hp → Prop) (t0 : AV) (t5 : AV) (t6 : AV) (m : Nat) : s_codec_vectorL1 cf fuel K e0 t0 t5 t6 (m + 1) = s_codec_vectorL1B cf fuel K e0 t0 t5 t6 (s_codec_vectorL1 cf fuel K e0 t0 t5 t6 m) := rfl
noncomputable def s_codec_vector (cf : CallK) (fuel : Nat) (t0 : AV) (h : Hp) (K : AV → Hp → Prop) : Prop :=
vLenL2 t0 h fun t6 h =>
(fun (e0 : Hp → Prop) =>
s_codec_vectorL1 cf fuel K (s_codec_vectorE0 cf fuel K t0) t0 t0 t6 fuel (.int .i64 0) h) (s_codec_vectorE0 cf fuel K t0)
theorem s_codec_vector_eq (cf : CallK) (fuel : Nat) (t0 : AV) (h : Hp) (K : AV → Hp → Prop) : s_codec_vector cf fuel t0 h K = deepT (tabOf Tryz.prog) f_codec_vector cf fuel [t0] h K :=
  Eq.trans (by kernel_rfl) (rFun (by kernel_rfl) (rSeq (by kernel_rfl) (rSeq (by kernel_rfl) rExact (rSeq (by kernel_rfl) (rBlock (by kernel_rfl) (rLoop (by kernel_rfl) (fun m1 fr h => s_codec_vectorL1 cf fuel K (s_codec_vectorE0 cf fuel K (getS fr (gpos 0))) (getS fr (gpos 0)) (getS fr (gpos 5)) (getS fr (gpos 6)) m1 (getS fr (gpos 7)) h) (funext fun fr => funext fun h => by kernel_rfl) fun m1 => rCast (funext fun fr => funext fun h => by kernel_rfl) rExact)) rExact)) rExact))

noncomputable def s_localfs_FS_commitB2 (cf : CallK) (fuel : Nat) (K : AV → Hp → Prop) (t0 : AV) (t1 : AV) (t5 : AV) (h : Hp) : Prop :=
vNilck t0 h fun t72 h =>
vFaddr 2 t72 h fun t73 h =>
vStore 1 t73 t1 h fun _ h =>
(fun (j1 : AV → Hp → Prop) =>
vLenL2 t5 h fun t75 h =>
vNilck t0 h fun t77 h =>
vFaddr 3 t77 h fun t78 h =>
vLoad2 t78 h fun t79 h =>
vLenL2 t79 h fun t80 h =>
vLss t75 t80 h fun t81 h =>
vIf t81 (
vNilck t0 h fun t84 h =>
vFaddr 3 t84 h fun t85 h =>
vLoad2 t85 h fun t86 h =>
vLenL2 t5 h fun t88 h =>
vSlice2 1 t86 (some t88) none h fun t89 h =>
vAppend2 1 1 true t5 t89 h fun t90 h =>
j1 t90 h) (
j1 t5 h)) fun t5 h =>
vNilck t0 h fun t93 h =>
vFaddr 3 t93 h fun t94 h =>
vStore 1 t94 t5 h fun _ h =>
K (.int .i64 0) h
noncomputable def s_localfs_FS_commitE0 (cf : CallK) (fuel : Nat) (K : AV → Hp → Prop) (t0 : AV) (t1 : AV) (t5 : AV) : AV → Hp → Prop := fun t6 h =>
vNilck t0 h fun t63 h =>
vFaddr 0 t63 h fun t64 h =>
vLoad2 t64 h fun t65 h =>
cf f_wal_Volume_Commit [t65, t6] h fun t67 h =>
vNeq t67 (.int .i64 0) h fun t69 h =>
vIf t69 (
K (.int .i64 5) h) (
s_localfs_FS_commitB2 cf fuel K t0 t1 t5 h)
noncomputable def s_localfs_FS_commitB20 (cf : CallK) (fuel : Nat) (ih3 : AV → AV → Hp → Prop) (t5 : AV) (t7 : AV) (t0 : AV) (t6 : AV) (h : Hp) : Prop :=
(fun (e4 : AV → Hp → Prop) =>
vAdd t7 (.int .i64 512) h fun t27 h =>
vNilck t0 h fun t29 h =>
vFaddr 3 t29 h fun t30 h =>
vLoad2 t30 h fun t31 h =>
vLenL2 t31 h fun t32 h =>
vGtr t27 t32 h fun t33 h =>
joinG (fun g19 => grdV t33 false (vMov t5 h g19) (g19 undefV h)) fun t35 h =>
joinG (fun g18 => grdV t33 false (vMov t7 h g18) (g18 undefV h)) fun t36 h =>
joinG (fun g17 => grdV t33 false (vMov t7 h g17) (g17 undefV h)) fun t37 h =>
joinG (fun g16 => grdV t33 false (vAdd t37 (.int .i64 512) h g16) (g16 undefV h)) fun t38 h =>
joinG (fun g15 => grdV t33 false (vSlice2 1 t35 (some t36) (some t38) h g15) (g15 undefV h)) fun t39 h =>
joinG (fun g14 => grdV t33 false (vMov t0 h g14) (g14 undefV h)) fun t40 h =>
joinG (fun g13 => grdV t33 false (vNilck t40 h g13) (g13 undefV h)) fun t41 h =>
joinG (fun g12 => grdV t33 false (vFaddr 3 t41 h g12) (g12 undefV h)) fun t42 h =>
joinG (fun g11 => grdV t33 false (vLoad2 t42 h g11) (g11 undefV h)) fun t43 h =>
joinG (fun g10 => grdV t33 false (vMov t7 h g10) (g10 undefV h)) fun t44 h =>
joinG (fun g9 => grdV t33 false (vMov t7 h g9) (g9 undefV h)) fun t45 h =>
joinG (fun g8 => grdV t33 false (vAdd t45 (.int .i64 512) h g8) (g8 undefV h)) fun t46 h =>
joinG (fun g7 => grdV t33 false (vSlice2 1 t43 (some t44) (some t46) h g7) (g7 undefV h)) fun t47 h =>
joinG (fun g6 => grdV t33 false (cf f_bytes_Equal [t39, t47] h g6) (g6 undefV h)) fun t48 h =>
joinG (fun g5 => grdV t33 false (vNot t48 h g5) (g5 undefV h)) fun t49 h =>
vPick t33 (.bool .true) t49 h fun t50 h =>
vIf t50 (
vDiv false t7 (.int .i64 512) h fun t53 h =>
vAdd t7 (.int .i64 512) h fun t57 h =>
vSlice2 1 t5 (some t7) (some t57) h fun t58 h =>
vBuild [(.int .i64 0), .nilslice] [(0, 1, t53), (1, 1, t58)] h fun t59 h =>
vBslice 2 1 false [(.int .i64 0), .nilslice] [(0, 2, t59)] h fun t60 h =>
vAppend2 2 32 false t6 t60 h fun t61 h =>
e4 t61 h) (
e4 t6 h)) fun t6 h =>
vAdd t7 (.int .i64 512) h fun t25 h =>
ih3 t6 t25 h
noncomputable def s_localfs_FS_commitL3B (cf : CallK) (fuel : Nat) (e0 : AV → Hp → Prop) (t0 : AV) (t1 : AV) (t5 : AV) (ih3 : AV → AV → Hp → Prop) : AV → AV → Hp → Prop := fun t6 t7 h =>
vLenL2 t5 h fun t22 h =>
vLss t7 t22 h fun t23 h =>
vIf t23 (
s_localfs_FS_commitB20 cf fuel ih3 t5 t7 t0 t6 h) (
e0 t6 h)
noncomputable def s_localfs_FS_commitL3 (cf : CallK) (fuel : Nat) (e0 : AV → Hp → Prop) (t0 : AV) (t1 : AV) (t5 : AV) (m : Nat) : AV → AV → Hp → Prop := Nat.rec (motive := fun _ => AV → AV → Hp → Prop) (fun _ _ _ => False) (fun _ ih => s_localfs_FS_commitL3B cf fuel e0 t0 t1 t5 ih) m
theorem s_localfs_FS_commitL3_succ (cf : CallK) (fuel : Nat) (e0 : AV → Hp → Prop) (t0 : AV) (t1 : AV) (t5 : AV) (m : Nat) : s_localfs_FS_commitL3 cf fuel e0 t0 t1 t5 (m + 1) = s_localfs_FS_commitL3B cf fuel e0 t0 t1 t5 (s_localfs_FS_commitL3 cf fuel e0 t0 t1 t5 m) := rfl
noncomputable def s_localfs_FS_commit (cf : CallK) (fuel : Nat) (t0 : AV) (t1 : AV) (h : Hp) (K : AV → Hp → Prop) : Prop :=
vBslice 1 15 true [(.int .u8 0)] [(0, 1, (.int .u8 108)), (1, 1, (.int .u8 97)), (2, 1, (.int .u8 103)), (3, 1, (.int .u8 111)), (4, 1, (.int .u8 111)), (5, 1, (.int .u8 110)), (6, 1, (.int .u8 39)), (7, 1, (.int .u8 115)), (8, 1, (.int .u8 32)), (9, 1, (.int .u8 102)), (10, 1, (.int .u8 105)), (11, 1, (.int .u8 108)), (12, 1, (.int .u8 101)), (13, 1, (.int .u8 115)), (14, 1, (.int .u8 10))] h fun t10 h =>
vStrish t10 h fun t11 h =>
cf f_localfs_object_write [t1, t11] h fun t12 h =>
vLenL2 t12 h fun t15 h =>
vDiv true t15 (.int .i64 512) h fun t16 h =>
vArith Go.Am.subI (.int .i64 512) t16 h fun t17 h =>
vDiv true t17 (.int .i64 512) h fun t18 h =>
vAppendZ 1 1 true [(.int .u8 0)] t12 t18 h fun t19 h =>
(fun (e0 : AV → Hp → Prop) =>
s_localfs_FS_commitL3 cf fuel (s_localfs_FS_commitE0 cf fuel K t0 t1 t19) t0 t1 t19 fuel .nilslice (.int .i64 0) h) (s_localfs_FS_commitE0 cf fuel K t0 t1 t19)
theorem s_localfs_FS_commit_eq (cf : CallK) (fuel : Nat) (t0 : AV) (t1 : AV) (h : Hp) (K : AV → Hp → Prop) : s_localfs_FS_commit cf fuel t0 t1 h K = deepT (tabOf Tryz.prog) f_localfs_FS_commit cf fuel [t0, t1] h K :=
  Eq.trans (by kernel_rfl) (rFun (by kernel_rfl) (rSeq (by kernel_rfl) (rSeq (by kernel_rfl) (rSeq (by kernel_rfl) (rSeq (by kernel_rfl) (rSeq (by kernel_rfl) rExact (rSeq (by kernel_rfl) (rBlock (by kernel_rfl) (rLoop (by kernel_rfl) (fun m3 fr h => s_localfs_FS_commitL3 cf fuel (s_localfs_FS_commitE0 cf fuel K (getS fr (gpos 0)) (getS fr (gpos 1)) (getS fr (gpos 5))) (getS fr (gpos 0)) (getS fr (gpos 1)) (getS fr (gpos 5)) m3 (getS fr (gpos 6)) (getS fr (gpos 7)) h) (funext fun fr => funext fun h => by kernel_rfl) fun m3 => rCast (funext fun fr => funext fun h => by kernel_rfl) rExact)) rExact)) rExact) rExact) rExact) rExact))

noncomputable def s_localfs_FS_turned (cf : CallK) (fuel : Nat) (t0 : AV) (t1 : AV) (t2 : AV) (t3 : AV) (h : Hp) (K : AV → Hp → Prop) : Prop :=
vEq true eqP t2 .nilptr h fun t11 h =>
joinG (fun g5 => grdV t11 true (vMov t2 h g5) (g5 undefV h)) fun t13 h =>
joinG (fun g4 => grdV t11 true (vNilck t13 h g4) (g4 undefV h)) fun t14 h =>
joinG (fun g3 => grdV t11 true (vFaddr 1 t14 h g3) (g3 undefV h)) fun t15 h =>
joinG (fun g2 => grdV t11 true (vLoad2 t15 h g2) (g2 undefV h)) fun t16 h =>
joinG (fun g1 => grdV t11 true (vMov t3 h g1) (g1 undefV h)) fun t17 h =>
joinG (fun g0 => grdV t11 true (cf f_bytes_Equal [t16, t17] h g0) (g0 undefV h)) fun t18 h =>
vPick t11 t18 (.bool .false) h fun t19 h =>
vIf t19 (
K (.tup [.nilptr, (.int .i64 0)]) h) (
vNilck t0 h fun t21 h =>
vFaddr 2 t21 h fun t22 h =>
vLoad2 t22 h fun t23 h =>
cf f_localfs_file [t3] h fun t26 h =>
vLoad2 t22 h fun c _ => gd (sameV c t23) (
cf f_localfs_object_set [t23, t1, t26] h fun t27 h =>
K (.tup [t27, (.int .i64 0)]) h))
theorem s_localfs_FS_turned_eq (cf : CallK) (fuel : Nat) (t0 : AV) (t1 : AV) (t2 : AV) (t3 : AV) (h : Hp) (K : AV → Hp → Prop) : s_localfs_FS_turned cf fuel t0 t1 t2 t3 h K = deepT (tabOf Tryz.prog) f_localfs_FS_turned cf fuel [t0, t1, t2, t3] h K :=
  Eq.trans (by kernel_rfl) (rFun (by kernel_rfl) rExact)

noncomputable def s_int_strconv_FormatIntB1 (cf : CallK) (fuel : Nat) (K : AV → Hp → Prop) (t0 : AV) (h : Hp) : Prop :=
vBox 24 (.agg (List.replicate 24 (.int .u8 0))) h fun t5 h =>
vToInt .u64 t0 h fun t21 h =>
(fun (j0 : AV → Hp → Prop) =>
vLss t0 (.int .i64 0) h fun t23 h =>
vIf t23 (
vNeg t21 h fun t25 h =>
j0 t25 h) (
j0 t21 h)) fun t6 h =>
cf f_int_strconv_numDigits [t6] h fun t27 h =>
vAdd (.int .i64 1) t27 h fun t29 h =>
vSliceA 1 24 t5 (some (.int .i64 1)) (some t29) h fun t30 h =>
cf f_int_strconv_formatBase10 [t30, t6] h fun t32 h =>
vLss t0 (.int .i64 0) h fun t34 h =>
vIf t34 (
vIaddrA 1 24 t5 (.int .i64 0) h fun t35 h =>
vStore 1 t35 (.int .u8 45) h fun _ h =>
vAdd (.int .i64 1) t27 h fun t37 h =>
vSliceA 1 24 t5 none (some t37) h fun t38 h =>
vToStr t38 h fun t39 h =>
K t39 h) (
vAdd (.int .i64 1) t27 h fun t41 h =>
vSliceA 1 24 t5 (some (.int .i64 1)) (some t41) h fun t42 h =>
vToStr t42 h fun t43 h =>
K t43 h)
noncomputable def s_int_strconv_FormatInt (cf : CallK) (fuel : Nat) (t0 : AV) (t1 : AV) (h : Hp) (K : AV → Hp → Prop) : Prop :=
vEql t1 (.int .i64 10) h fun t11 h =>
vIf t11 (
vLeq (.int .i64 0) t0 h fun t13 h =>
joinG (fun g3 => grdV t13 true (vMov t0 h g3) (g3 undefV h)) fun t15 h =>
joinG (fun g2 => grdV t13 true (vLss t15 (.int .i64 100) h g2) (g2 undefV h)) fun t16 h =>
vPick t13 t16 (.bool .false) h fun t17 h =>
vIf t17 (
cf f_int_strconv_small [t0] h fun t19 h =>
K t19 h) (
s_int_strconv_FormatIntB1 cf fuel K t0 h)) (
vToInt .u64 t0 h fun t46 h =>
vLss t0 (.int .i64 0) h fun t49 h =>
cf f_int_strconv_formatBits [.nilslice, t46, t1, t49, (.bool .false)] h fun t50 h =>
vExtract 0 t50 h fun t51 h =>
vExtract 1 t50 h fun t52 h =>
K t52 h)
theorem s_int_strconv_FormatInt_eq (cf : CallK) (fuel : Nat) (t0 : AV) (t1 : AV) (h : Hp) (K : AV → Hp → Prop) : s_int_strconv_FormatInt cf fuel t0 t1 h K = deepT (tabOf Tryz.prog) f_int_strconv_FormatInt cf fuel [t0, t1] h K :=
  Eq.trans (by kernel_rfl) (rFun (by kernel_rfl) rExact)

noncomputable def s_localdir_Fine (cf : CallK) (fuel : Nat) (t0 : AV) (h : Hp) (K : AV → Hp → Prop) : Prop :=
(fun (e0 : Hp → Prop) =>
vEql t0 (.str 0 0) h fun t5 h =>
joinG (fun g6 => grdV t5 false (vMov t0 h g6) (g6 undefV h)) fun t7 h =>
joinG (fun g5 => grdV t5 false (vEql t7 (.str 1 46) h g5) (g5 undefV h)) fun t8 h =>
vPick t5 (.bool .true) t8 h fun t9 h =>
joinG (fun g4 => grdV t9 false (vMov t0 h g4) (g4 undefV h)) fun t11 h =>
joinG (fun g3 => grdV t9 false (vEql t11 (.str 2 11822) h g3) (g3 undefV h)) fun t12 h =>
vPick t9 (.bool .true) t12 h fun t13 h =>
joinG (fun g2 => grdV t13 false (vMov t0 h g2) (g2 undefV h)) fun t15 h =>
joinG (fun g1 => grdV t13 false (cf f_strings_ContainsAny [t15, (.str 2 12032)] h g1) (g1 undefV h)) fun t16 h =>
vPick t13 (.bool .true) t16 h fun t17 h =>
vIf t17 (
K (.int .i64 22) h) (
vLenS t0 h fun t20 h =>
vGtr t20 (.int .i64 64) h fun t21 h =>
vIf t21 (
K (.int .i64 36) h) (
e0 h))) fun h =>
K (.int .i64 0) h
theorem s_localdir_Fine_eq (cf : CallK) (fuel : Nat) (t0 : AV) (h : Hp) (K : AV → Hp → Prop) : s_localdir_Fine cf fuel t0 h K = deepT (tabOf Tryz.prog) f_localdir_Fine cf fuel [t0] h K :=
  Eq.trans (by kernel_rfl) (rFun (by kernel_rfl) rExact)

noncomputable def s_localfs_object_kid (cf : CallK) (fuel : Nat) (t0 : AV) (t1 : AV) (h : Hp) (K : AV → Hp → Prop) : Prop :=
vNilck t0 h fun t9 h =>
vFaddr 2 t9 h fun t10 h =>
vLoad2 t10 h fun t11 h =>
cf f_slices_BinarySearch_string_string [t11, t1] h fun t13 h =>
vExtract 0 t13 h fun t14 h =>
vExtract 1 t13 h fun t15 h =>
vIf t15 (
vNilck t0 h fun t18 h =>
vFaddr 3 t18 h fun t19 h =>
vLoad2 t19 h fun t20 h =>
vIaddr 1 t20 t14 h fun t22 h =>
vLoad2 t22 h fun t23 h =>
K t23 h) (
K .nilptr h)
theorem s_localfs_object_kid_eq (cf : CallK) (fuel : Nat) (t0 : AV) (t1 : AV) (h : Hp) (K : AV → Hp → Prop) : s_localfs_object_kid cf fuel t0 t1 h K = deepT (tabOf Tryz.prog) f_localfs_object_kid cf fuel [t0, t1] h K :=
  Eq.trans (by kernel_rfl) (rFun (by kernel_rfl) rExact)

noncomputable def s_wal_FormatE2 (cf : CallK) (fuel : Nat) (K : AV → Hp → Prop) : Hp → Prop := fun h =>
K (.int .i64 0) h
noncomputable def s_wal_FormatL3B (cf : CallK) (fuel : Nat) (K : AV → Hp → Prop) (e2 : Hp → Prop) (t52 : AV) (t53 : AV) (ih3 : AV → Hp → Prop) : AV → Hp → Prop := fun t54 h =>
vLss t54 t53 h fun t55 h =>
vIf t55 (
(fun (e4 : Hp → Prop) =>
vIaddr 1 t52 t54 h fun t56 h =>
vLoad2 t56 h fun t57 h =>
vNeq t57 (.int .i64 0) h fun t59 h =>
vIf t59 (
K t57 h) (
e4 h)) fun h =>
vAdd t54 (.int .i64 1) h fun t61 h =>
ih3 t61 h) (
e2 h)
noncomputable def s_wal_FormatL3 (cf : CallK) (fuel : Nat) (K : AV → Hp → Prop) (e2 : Hp → Prop) (t52 : AV) (t53 : AV) (m : Nat) : AV → Hp → Prop := Nat.rec (motive := fun _ => AV → Hp → Prop) (fun _ _ => False) (fun _ ih => s_wal_FormatL3B cf fuel K e2 t52 t53 ih) m
theorem s_wal_FormatL3_succ (cf : CallK) (fuel : Nat) (K : AV → Hp → Prop) (e2 : Hp → Prop) (t52 : AV) (t53 : AV) (m : Nat) : s_wal_FormatL3 cf fuel K e2 t52 t53 (m + 1) = s_wal_FormatL3B cf fuel K e2 t52 t53 (s_wal_FormatL3 cf fuel K e2 t52 t53 m) := rfl
noncomputable def s_wal_FormatE1 (cf : CallK) (fuel : Nat) (K : AV → Hp → Prop) (t0 : AV) : Hp → Prop := fun h =>
cf f_device_Device_Flush [t0] h fun t46 h =>
cf f_wal_head [(.int .i64 0), (.int .i64 0)] h fun t48 h =>
cf f_device_Device_Write [t0, (.int .i64 0), t48] h fun t49 h =>
cf f_device_Device_Flush [t0] h fun t51 h =>
vBslice 1 3 false [(.int .i64 0)] [(0, 1, t46), (1, 1, t49), (2, 1, t51)] h fun t52 h =>
vLenL2 t52 h fun t53 h =>
(fun (e2 : Hp → Prop) =>
s_wal_FormatL3 cf fuel K (s_wal_FormatE2 cf fuel K) t52 t53 fuel (.int .i64 0) h) (s_wal_FormatE2 cf fuel K)
noncomputable def s_wal_FormatL5B (cf : CallK) (fuel : Nat) (K : AV → Hp → Prop) (e1 : Hp → Prop) (t0 : AV) (t3 : AV) (t32 : AV) (ih5 : AV → Hp → Prop) : AV → Hp → Prop := fun t33 h =>
vLss t33 t32 h fun t34 h =>
vIf t34 (
(fun (e6 : Hp → Prop) =>
vAdd (.int .i64 8) t33 h fun t38 h =>
cf f_wal_wrote [t0, t38, t3] h fun t40 h =>
vNeq t40 (.int .i64 0) h fun t42 h =>
vIf t42 (
K t40 h) (
e6 h)) fun h =>
vAdd t33 (.int .i64 1) h fun t44 h =>
ih5 t44 h) (
e1 h)
noncomputable def s_wal_FormatL5 (cf : CallK) (fuel : Nat) (K : AV → Hp → Prop) (e1 : Hp → Prop) (t0 : AV) (t3 : AV) (t32 : AV) (m : Nat) : AV → Hp → Prop := Nat.rec (motive := fun _ => AV → Hp → Prop) (fun _ _ => False) (fun _ ih => s_wal_FormatL5B cf fuel K e1 t0 t3 t32 ih) m
theorem s_wal_FormatL5_succ (cf : CallK) (fuel : Nat) (K : AV → Hp → Prop) (e1 : Hp → Prop) (t0 : AV) (t3 : AV) (t32 : AV) (m : Nat) : s_wal_FormatL5 cf fuel K e1 t0 t3 t32 (m + 1) = s_wal_FormatL5B cf fuel K e1 t0 t3 t32 (s_wal_FormatL5 cf fuel K e1 t0 t3 t32 m) := rfl
noncomputable def s_wal_FormatE0 (cf : CallK) (fuel : Nat) (K : AV → Hp → Prop) (t0 : AV) (t3 : AV) : Hp → Prop := fun h =>
cf f_device_Device_Flush [t0] h fun t27 h =>
vNeq t27 (.int .i64 0) h fun t29 h =>
vIf t29 (
K t27 h) (
cf f_wal_room [t0] h fun t32 h =>
(fun (e1 : Hp → Prop) =>
s_wal_FormatL5 cf fuel K (s_wal_FormatE1 cf fuel K t0) t0 t3 t32 fuel (.int .i64 0) h) (s_wal_FormatE1 cf fuel K t0))
noncomputable def s_wal_FormatL7B (cf : CallK) (fuel : Nat) (K : AV → Hp → Prop) (e0 : Hp → Prop) (t0 : AV) (t3 : AV) (ih7 : AV → Hp → Prop) : AV → Hp → Prop := fun t15 h =>
vLss t15 (.int .i64 2) h fun t16 h =>
vIf t16 (
(fun (e8 : Hp → Prop) =>
cf f_wal_wrote [t0, t15, t3] h fun t21 h =>
vNeq t21 (.int .i64 0) h fun t23 h =>
vIf t23 (
K t21 h) (
e8 h)) fun h =>
vAdd t15 (.int .i64 1) h fun t25 h =>
ih7 t25 h) (
e0 h)
noncomputable def s_wal_FormatL7 (cf : CallK) (fuel : Nat) (K : AV → Hp → Prop) (e0 : Hp → Prop) (t0 : AV) (t3 : AV) (m : Nat) : AV → Hp → Prop := Nat.rec (motive := fun _ => AV → Hp → Prop) (fun _ _ => False) (fun _ ih => s_wal_FormatL7B cf fuel K e0 t0 t3 ih) m
theorem s_wal_FormatL7_succ (cf : CallK) (fuel : Nat) (K : AV → Hp → Prop) (e0 : Hp → Prop) (t0 : AV) (t3 : AV) (m : Nat) : s_wal_FormatL7 cf fuel K e0 t0 t3 (m + 1) = s_wal_FormatL7B cf fuel K e0 t0 t3 (s_wal_FormatL7 cf fuel K e0 t0 t3 m) := rfl
noncomputable def s_wal_Format (cf : CallK) (fuel : Nat) (t0 : AV) (h : Hp) (K : AV → Hp → Prop) : Prop :=
cf f_wal_room [t0] h fun t12 h =>
vEql t12 (.int .i64 0) h fun t13 h =>
vIf t13 (
K (.int .i64 22) h) (
vMkSlice 1 1 true [(.int .u8 0)] (.int .i64 512) (.int .i64 512) h fun t14 h =>
(fun (e0 : Hp → Prop) =>
s_wal_FormatL7 cf fuel K (s_wal_FormatE0 cf fuel K t0 t14) t0 t14 fuel (.int .i64 0) h) (s_wal_FormatE0 cf fuel K t0 t14))
theorem s_wal_Format_eq (cf : CallK) (fuel : Nat) (t0 : AV) (h : Hp) (K : AV → Hp → Prop) : s_wal_Format cf fuel t0 h K = deepT (tabOf Tryz.prog) f_wal_Format cf fuel [t0] h K :=
  Eq.trans (by kernel_rfl) (rFun (by kernel_rfl) (rSeq (by kernel_rfl) (rSeq (by kernel_rfl) (rSeq (by kernel_rfl) (rSeq (by kernel_rfl) (rSeq (by kernel_rfl) (rSeq (by kernel_rfl) (rSeq (by kernel_rfl) rExact (rSeq (by kernel_rfl) (rBlock (by kernel_rfl) (rLoop (by kernel_rfl) (fun m3 fr h => s_wal_FormatL3 cf fuel K (s_wal_FormatE2 cf fuel K) (getS fr (gpos 52)) (getS fr (gpos 53)) m3 (getS fr (gpos 54)) h) (funext fun fr => funext fun h => by kernel_rfl) fun m3 => rCast (funext fun fr => funext fun h => by kernel_rfl) rExact)) rExact)) (rSeq (by kernel_rfl) (rBlock (by kernel_rfl) (rLoop (by kernel_rfl) (fun m5 fr h => s_wal_FormatL5 cf fuel K (s_wal_FormatE1 cf fuel K (getS fr (gpos 0))) (getS fr (gpos 0)) (getS fr (gpos 3)) (getS fr (gpos 32)) m5 (getS fr (gpos 33)) h) (funext fun fr => funext fun h => by kernel_rfl) fun m5 => rCast (funext fun fr => funext fun h => by kernel_rfl) rExact)) rExact)) rExact) (rSeq (by kernel_rfl) (rBlock (by kernel_rfl) (rLoop (by kernel_rfl) (fun m7 fr h => s_wal_FormatL7 cf fuel K (s_wal_FormatE0 cf fuel K (getS fr (gpos 0)) (getS fr (gpos 3))) (getS fr (gpos 0)) (getS fr (gpos 3)) m7 (getS fr (gpos 15)) h) (funext fun fr => funext fun h => by kernel_rfl) fun m7 => rCast (funext fun fr => funext fun h => by kernel_rfl) rExact)) rExact)) rExact) rExact) rExact))

noncomputable def s_localfs_folderE0 (cf : CallK) (fuel : Nat) (K : AV → Hp → Prop) (t5 : AV) : Hp → Prop := fun h =>
K t5 h
noncomputable def s_localfs_folderB7 (cf : CallK) (fuel : Nat) (ih1 : AV → Hp → Prop) (t5 : AV) (t24 : AV) (t26 : AV) (h : Hp) : Prop :=
(fun (e2 : Hp → Prop) =>
vIaddr 1 t24 t26 h fun t28 h =>
vLoad2 t28 h fun t29 h =>
vNilck t5 h fun t31 h =>
vFaddr 4 t31 h fun t32 h =>
vLoad2 t32 h fun t33 h =>
vNilck t29 h fun t35 h =>
vFaddr 4 t35 h fun t36 h =>
vLoad2 t36 h fun t37 h =>
vAdd t33 t37 h fun t38 h =>
vNilck t5 h fun t39 h =>
vFaddr 4 t39 h fun t40 h =>
vStore 1 t40 t38 h fun _ h =>
vNilck t5 h fun t43 h =>
vFaddr 5 t43 h fun t44 h =>
vLoad2 t44 h fun t45 h =>
joinG (fun g6 => grdV t45 false (vMov t29 h g6) (g6 undefV h)) fun t47 h =>
joinG (fun g5 => grdV t45 false (vNilck t47 h g5) (g5 undefV h)) fun t48 h =>
joinG (fun g4 => grdV t45 false (vFaddr 5 t48 h g4) (g4 undefV h)) fun t49 h =>
joinG (fun g3 => grdV t45 false (vLoad2 t49 h g3) (g3 undefV h)) fun t50 h =>
vPick t45 (.bool .true) t50 h fun t51 h =>
vNilck t5 h fun t52 h =>
vFaddr 5 t52 h fun t53 h =>
vStore 1 t53 t51 h fun _ h =>
e2 h) fun h =>
vAdd t26 (.int .i64 1) h fun t54 h =>
ih1 t54 h
noncomputable def s_localfs_folderL1B (cf : CallK) (fuel : Nat) (e0 : Hp → Prop) (t5 : AV) (t24 : AV) (t25 : AV) (ih1 : AV → Hp → Prop) : AV → Hp → Prop := fun t26 h =>
vLss t26 t25 h fun t27 h =>
vIf t27 (
s_localfs_folderB7 cf fuel ih1 t5 t24 t26 h) (
e0 h)
noncomputable def s_localfs_folderL1 (cf : CallK) (fuel : Nat) (e0 : Hp → Prop) (t5 : AV) (t24 : AV) (t25 : AV) (m : Nat) : AV → Hp → Prop := Nat.rec (motive := fun _ => AV → Hp → Prop) (fun _ _ => False) (fun _ ih => s_localfs_folderL1B cf fuel e0 t5 t24 t25 ih) m
theorem s_localfs_folderL1_succ (cf : CallK) (fuel : Nat) (e0 : Hp → Prop) (t5 : AV) (t24 : AV) (t25 : AV) (m : Nat) : s_localfs_folderL1 cf fuel e0 t5 t24 t25 (m + 1) = s_localfs_folderL1B cf fuel e0 t5 t24 t25 (s_localfs_folderL1 cf fuel e0 t5 t24 t25 m) := rfl
noncomputable def s_localfs_folder (cf : CallK) (fuel : Nat) (t0 : AV) (t1 : AV) (h : Hp) (K : AV → Hp → Prop) : Prop :=
vLenL2 t0 h fun t11 h =>
vAdd t11 (.int .i64 4) h fun t12 h =>
vArith Go.Am.subI t12 (.int .i64 1) h fun t13 h =>
vDiv false t13 (.int .i64 4) h fun t14 h =>
vAdd (.int .i64 2) t14 h fun t15 h =>
vBuild [(.bool .false), .nilslice, .nilslice, .nilslice, (.int .i64 0), (.bool .false)] [(0, 1, (.bool .true)), (2, 1, t0), (3, 1, t1), (4, 1, t15)] h fun t16 h =>
vBox 6 t16 h fun t17 h =>
vLenL2 t0 h fun t20 h =>
vGtr t20 (.int .i64 2048) h fun t21 h =>
vNilck t17 h fun t22 h =>
vFaddr 5 t22 h fun t23 h =>
vStore 1 t23 t21 h fun _ h =>
vLenL2 t1 h fun t25 h =>
(fun (e0 : Hp → Prop) =>
s_localfs_folderL1 cf fuel (s_localfs_folderE0 cf fuel K t17) t17 t1 t25 fuel (.int .i64 0) h) (s_localfs_folderE0 cf fuel K t17)
theorem s_localfs_folder_eq (cf : CallK) (fuel : Nat) (t0 : AV) (t1 : AV) (h : Hp) (K : AV → Hp → Prop) : s_localfs_folder cf fuel t0 t1 h K = deepT (tabOf Tryz.prog) f_localfs_folder cf fuel [t0, t1] h K :=
  Eq.trans (by kernel_rfl) (rFun (by kernel_rfl) (rSeq (by kernel_rfl) (rSeq (by kernel_rfl) (rSeq (by kernel_rfl) (rSeq (by kernel_rfl) rExact (rSeq (by kernel_rfl) (rBlock (by kernel_rfl) (rLoop (by kernel_rfl) (fun m1 fr h => s_localfs_folderL1 cf fuel (s_localfs_folderE0 cf fuel K (getS fr (gpos 5))) (getS fr (gpos 5)) (getS fr (gpos 24)) (getS fr (gpos 25)) m1 (getS fr (gpos 26)) h) (funext fun fr => funext fun h => by kernel_rfl) fun m1 => rCast (funext fun fr => funext fun h => by kernel_rfl) rExact)) rExact)) rExact) rExact) rExact))

noncomputable def s_wal_Volume_large (cf : CallK) (fuel : Nat) (t0 : AV) (h : Hp) (K : AV → Hp → Prop) : Prop :=
vNilck t0 h fun t4 h =>
vFaddr 0 t4 h fun t5 h =>
vLoad2 t5 h fun t6 h =>
cf f_wal_room [t6] h fun t7 h =>
vEql t7 (.int .i64 0) h fun t8 h =>
vIf t8 (
K (.int .i64 22) h) (
K (.int .i64 0) h)
theorem s_wal_Volume_large_eq (cf : CallK) (fuel : Nat) (t0 : AV) (h : Hp) (K : AV → Hp → Prop) : s_wal_Volume_large cf fuel t0 h K = deepT (tabOf Tryz.prog) f_wal_Volume_large cf fuel [t0] h K :=
  Eq.trans (by kernel_rfl) (rFun (by kernel_rfl) rExact)

noncomputable def s_wal_Volume_alive (cf : CallK) (fuel : Nat) (t0 : AV) (h : Hp) (K : AV → Hp → Prop) : Prop :=
vNilck t0 h fun t4 h =>
vFaddr 0 t4 h fun t5 h =>
vLoad2 t5 h fun t6 h =>
cf f_device_Device_Dead [t6] h fun t7 h =>
vIf t7 (
K (.int .i64 5) h) (
K (.int .i64 0) h)
theorem s_wal_Volume_alive_eq (cf : CallK) (fuel : Nat) (t0 : AV) (h : Hp) (K : AV → Hp → Prop) : s_wal_Volume_alive cf fuel t0 h K = deepT (tabOf Tryz.prog) f_wal_Volume_alive cf fuel [t0] h K :=
  Eq.trans (by kernel_rfl) (rFun (by kernel_rfl) rExact)

noncomputable def s_wal_Volume_headsE0 (cf : CallK) (fuel : Nat) (K : AV → Hp → Prop) (t0 : AV) : Hp → Prop := fun h =>
vNilck t0 h fun t60 h =>
vFaddr 2 t60 h fun t61 h =>
vLoad2 t61 h fun t62 h =>
vLss t62 (.int .i64 0) h fun t63 h =>
vIf t63 (
K (.int .i64 74) h) (
K (.int .i64 0) h)
noncomputable def s_wal_Volume_headsB12 (cf : CallK) (fuel : Nat) (ih1 : AV → Hp → Prop) (t0 : AV) (t11 : AV) (h : Hp) : Prop :=
(fun (e2 : Hp → Prop) =>
vNilck t0 h fun t16 h =>
vFaddr 0 t16 h fun t17 h =>
vLoad2 t17 h fun t18 h =>
cf f_device_Device_Read [t18, t11] h fun t20 h =>
vExtract 0 t20 h fun t21 h =>
vExtract 1 t20 h fun t22 h =>
vSlice2 1 t21 (some (.int .i64 16)) none h fun t24 h =>
vSlice2 1 t21 (some (.int .i64 24)) none h fun t28 h =>
cf f_zbyte_Get64 [t24] h fun t25 h =>
vToInt .i64 t25 h fun t26 h =>
cf f_zbyte_Get64 [t28] h fun t29 h =>
vToInt .i64 t29 h fun t30 h =>
vNilck t0 h fun t33 h =>
vFaddr 2 t33 h fun t34 h =>
vLoad2 t34 h fun t35 h =>
vGtr t26 t35 h fun t36 h =>
joinG (fun g11 => grdV t36 true (vMov t26 h g11) (g11 undefV h)) fun t38 h =>
joinG (fun g10 => grdV t36 true (vDiv true t38 (.int .i64 2) h g10) (g10 undefV h)) fun t39 h =>
joinG (fun g9 => grdV t36 true (vMov t11 h g9) (g9 undefV h)) fun t40 h =>
joinG (fun g8 => grdV t36 true (vEql t39 t40 h g8) (g8 undefV h)) fun t41 h =>
vPick t36 t41 (.bool .false) h fun t42 h =>
joinG (fun g7 => grdV t42 true (vMov t21 h g7) (g7 undefV h)) fun t44 h =>
joinG (fun g6 => grdV t42 true (vMov t26 h g6) (g6 undefV h)) fun t45 h =>
joinG (fun g5 => grdV t42 true (vMov t30 h g5) (g5 undefV h)) fun t46 h =>
joinG (fun g4 => grdV t42 true (cf f_wal_head [t45, t46] h g4) (g4 undefV h)) fun t47 h =>
joinG (fun g3 => grdV t42 true (cf f_bytes_Equal [t44, t47] h g3) (g3 undefV h)) fun t48 h =>
vPick t42 t48 (.bool .false) h fun t49 h =>
vIf t49 (
vNilck t0 h fun t54 h =>
vFaddr 2 t54 h fun t55 h =>
vStore 1 t55 t26 h fun _ h =>
vNilck t0 h fun t56 h =>
vFaddr 3 t56 h fun t57 h =>
vStore 1 t57 t30 h fun _ h =>
e2 h) (
e2 h)) fun h =>
vAdd t11 (.int .i64 1) h fun t58 h =>
ih1 t58 h
noncomputable def s_wal_Volume_headsL1B (cf : CallK) (fuel : Nat) (e0 : Hp → Prop) (t0 : AV) (ih1 : AV → Hp → Prop) : AV → Hp → Prop := fun t11 h =>
vLss t11 (.int .i64 2) h fun t12 h =>
vIf t12 (
s_wal_Volume_headsB12 cf fuel ih1 t0 t11 h) (
e0 h)
noncomputable def s_wal_Volume_headsL1 (cf : CallK) (fuel : Nat) (e0 : Hp → Prop) (t0 : AV) (m : Nat) : AV → Hp → Prop := Nat.rec (motive := fun _ => AV → Hp → Prop) (fun _ _ => False) (fun _ ih => s_wal_Volume_headsL1B cf fuel e0 t0 ih) m
theorem s_wal_Volume_headsL1_succ (cf : CallK) (fuel : Nat) (e0 : Hp → Prop) (t0 : AV) (m : Nat) : s_wal_Volume_headsL1 cf fuel e0 t0 (m + 1) = s_wal_Volume_headsL1B cf fuel e0 t0 (s_wal_Volume_headsL1 cf fuel e0 t0 m) := rfl
noncomputable def s_wal_Volume_heads (cf : CallK) (fuel : Nat) (t0 : AV) (h : Hp) (K : AV → Hp → Prop) : Prop :=
vNilck t0 h fun t9 h =>
vFaddr 2 t9 h fun t10 h =>
vStore 1 t10 (.int .i64 (-1)) h fun _ h =>
(fun (e0 : Hp → Prop) =>
s_wal_Volume_headsL1 cf fuel (s_wal_Volume_headsE0 cf fuel K t0) t0 fuel (.int .i64 0) h) (s_wal_Volume_headsE0 cf fuel K t0)
theorem s_wal_Volume_heads_eq (cf : CallK) (fuel : Nat) (t0 : AV) (h : Hp) (K : AV → Hp → Prop) : s_wal_Volume_heads cf fuel t0 h K = deepT (tabOf Tryz.prog) f_wal_Volume_heads cf fuel [t0] h K :=
  Eq.trans (by kernel_rfl) (rFun (by kernel_rfl) (rSeq (by kernel_rfl) (rSeq (by kernel_rfl) (rSeq (by kernel_rfl) rExact (rSeq (by kernel_rfl) (rBlock (by kernel_rfl) (rLoop (by kernel_rfl) (fun m1 fr h => s_wal_Volume_headsL1 cf fuel (s_wal_Volume_headsE0 cf fuel K (getS fr (gpos 0))) (getS fr (gpos 0)) m1 (getS fr (gpos 11)) h) (funext fun fr => funext fun h => by kernel_rfl) fun m1 => rCast (funext fun fr => funext fun h => by kernel_rfl) rExact)) rExact)) rExact) rExact))

noncomputable def s_wal_Volume_blocksE0 (cf : CallK) (fuel : Nat) (K : AV → Hp → Prop) : Hp → Prop := fun h =>
K (.int .i64 0) h
noncomputable def s_wal_Volume_blocksB3 (cf : CallK) (fuel : Nat) (ih1 : AV → Hp → Prop) (t0 : AV) (t18 : AV) (h : Hp) : Prop :=
(fun (e2 : Hp → Prop) =>
vNilck t0 h fun t23 h =>
vFaddr 1 t23 h fun t24 h =>
vLoad2 t24 h fun t25 h =>
vNilck t0 h fun t28 h =>
vFaddr 0 t28 h fun t29 h =>
vLoad2 t29 h fun t30 h =>
vNilck t0 h fun t33 h =>
vFaddr 2 t33 h fun t34 h =>
vLoad2 t34 h fun t35 h =>
cf f_wal_Volume_at [t0, t35, t18] h fun t37 h =>
vLoad2 t24 h fun c _ => gd (sameV c t25) (
vLoad2 t29 h fun c _ => gd (sameV c t30) (
cf f_device_Device_Read [t30, t37] h fun t38 h =>
vLoad2 t24 h fun c _ => gd (sameV c t25) (
vExtract 0 t38 h fun t39 h =>
vExtract 1 t38 h fun t40 h =>
vIaddr 1 t25 t18 h fun t41 h =>
vStore 1 t41 t39 h fun _ h =>
e2 h)))) fun h =>
vAdd t18 (.int .i64 1) h fun t42 h =>
ih1 t42 h
noncomputable def s_wal_Volume_blocksL1B (cf : CallK) (fuel : Nat) (e0 : Hp → Prop) (t0 : AV) (t17 : AV) (ih1 : AV → Hp → Prop) : AV → Hp → Prop := fun t18 h =>
vLss t18 t17 h fun t19 h =>
vIf t19 (
s_wal_Volume_blocksB3 cf fuel ih1 t0 t18 h) (
e0 h)
noncomputable def s_wal_Volume_blocksL1 (cf : CallK) (fuel : Nat) (e0 : Hp → Prop) (t0 : AV) (t17 : AV) (m : Nat) : AV → Hp → Prop := Nat.rec (motive := fun _ => AV → Hp → Prop) (fun _ _ => False) (fun _ ih => s_wal_Volume_blocksL1B cf fuel e0 t0 t17 ih) m
theorem s_wal_Volume_blocksL1_succ (cf : CallK) (fuel : Nat) (e0 : Hp → Prop) (t0 : AV) (t17 : AV) (m : Nat) : s_wal_Volume_blocksL1 cf fuel e0 t0 t17 (m + 1) = s_wal_Volume_blocksL1B cf fuel e0 t0 t17 (s_wal_Volume_blocksL1 cf fuel e0 t0 t17 m) := rfl
noncomputable def s_wal_Volume_blocks (cf : CallK) (fuel : Nat) (t0 : AV) (h : Hp) (K : AV → Hp → Prop) : Prop :=
vNilck t0 h fun t6 h =>
vFaddr 0 t6 h fun t7 h =>
vLoad2 t7 h fun t8 h =>
cf f_wal_room [t8] h fun t9 h =>
vMkSlice 1 24 false [.nilslice] t9 t9 h fun t10 h =>
vNilck t0 h fun t11 h =>
vFaddr 1 t11 h fun t12 h =>
vStore 1 t12 t10 h fun _ h =>
vNilck t0 h fun t14 h =>
vFaddr 1 t14 h fun t15 h =>
vLoad2 t15 h fun t16 h =>
vLenL2 t16 h fun t17 h =>
(fun (e0 : Hp → Prop) =>
s_wal_Volume_blocksL1 cf fuel (s_wal_Volume_blocksE0 cf fuel K) t0 t17 fuel (.int .i64 0) h) (s_wal_Volume_blocksE0 cf fuel K)
theorem s_wal_Volume_blocks_eq (cf : CallK) (fuel : Nat) (t0 : AV) (h : Hp) (K : AV → Hp → Prop) : s_wal_Volume_blocks cf fuel t0 h K = deepT (tabOf Tryz.prog) f_wal_Volume_blocks cf fuel [t0] h K :=
  Eq.trans (by kernel_rfl) (rFun (by kernel_rfl) (rSeq (by kernel_rfl) (rSeq (by kernel_rfl) (rSeq (by kernel_rfl) rExact (rSeq (by kernel_rfl) (rBlock (by kernel_rfl) (rLoop (by kernel_rfl) (fun m1 fr h => s_wal_Volume_blocksL1 cf fuel (s_wal_Volume_blocksE0 cf fuel K) (getS fr (gpos 0)) (getS fr (gpos 17)) m1 (getS fr (gpos 18)) h) (funext fun fr => funext fun h => by kernel_rfl) fun m1 => rCast (funext fun fr => funext fun h => by kernel_rfl) rExact)) rExact)) rExact) rExact))


end Go.Proofs.YtbefkepinpollaaGreatDoor.sh3
