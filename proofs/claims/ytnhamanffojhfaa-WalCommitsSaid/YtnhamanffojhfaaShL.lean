/- The Go functions' code as the abstract machine's, over values; each is the code that the machine makes of the program's (theorems s_.._eq). No condition. -/
import Derived.Test.YtnhamanffojhfaaG3
import Derived.Test.YtnhamanffojhfaaProg
import Derived.KernelRfl
namespace Go.Proofs.Ytnhamanffojhfaa.shl
open Go Go.Am Go.Proofs
set_option linter.unusedVariables false
set_option maxRecDepth 100000
abbrev f_bytes_Clone : Nat := 61
abbrev f_bytes_Equal : Nat := 132
abbrev f_clock_Cmp : Nat := 58
abbrev f_cmp_Compare_int : Nat := 111
abbrev f_cmp_Compare_int64 : Nat := 110
abbrev f_cmp_isNaN_int : Nat := 138
abbrev f_cmp_isNaN_int64 : Nat := 137
abbrev f_content_Behind : Nat := 23
abbrev f_content_File_Heads : Nat := 18
abbrev f_content_File_Len : Nat := 21
abbrev f_content_New : Nat := 12
abbrev f_content_Of : Nat := 22
abbrev f_crc_New : Nat := 163
abbrev f_crc_Of : Nat := 155
abbrev f_crc_Sum_Add : Nat := 165
abbrev f_crc_Sum_Value : Nat := 166
abbrev f_crc_each : Nat := 164
abbrev f_device_Device_Blocks : Nat := 151
abbrev f_device_Device_Crash : Nat := 48
abbrev f_device_Device_Dead : Nat := 128
abbrev f_device_Device_Flush : Nat := 125
abbrev f_device_Device_Read : Nat := 130
abbrev f_device_Device_Write : Nat := 126
abbrev f_device_Device_done : Nat := 152
abbrev f_device_New : Nat := 86
abbrev f_lagoonlaw1_Full : Nat := 50
abbrev f_lagoonlaw6_Model_act : Nat := 42
abbrev f_lagoonlaw6_Model_now : Nat := 44
abbrev f_lagoonlaw6_Size : Nat := 41
abbrev f_lagoonlaw6_WalCommits : Nat := 9
abbrev f_lagoonlaw6_begun : Nat := 39
abbrev f_lagoonlaw6_fresh : Nat := 40
abbrev f_lagoonlaw6_is : Nat := 43
abbrev f_lagoonlaw6_puts : Nat := 89
abbrev f_lagoonref15_Behind : Nat := 24
abbrev f_lagoonref15_Heads : Nat := 15
abbrev f_lagoonref4_At : Nat := 26
abbrev f_lagoonref4_Eq : Nat := 60
abbrev f_lagoonref4_Leq : Nat := 114
abbrev f_lagoonref4_Less : Nat := 30
abbrev f_lagoonref4_Same : Nat := 25
abbrev f_lagoonref4_Valid : Nat := 99
abbrev f_vector_At : Nat := 62
abbrev f_wal_Format : Nat := 87
abbrev f_wal_Mount : Nat := 47
abbrev f_wal_Volume_Blocks : Nat := 49
abbrev f_wal_Volume_Commit : Nat := 51
abbrev f_wal_Volume_Commits : Nat := 45
abbrev f_wal_Volume_Read : Nat := 88
abbrev f_wal_Volume_Sync : Nat := 46
abbrev f_wal_Volume_alive : Nat := 93
abbrev f_wal_Volume_at : Nat := 129
abbrev f_wal_Volume_blocks : Nat := 95
abbrev f_wal_Volume_dead : Nat := 90
abbrev f_wal_Volume_heads : Nat := 94
abbrev f_wal_Volume_keep : Nat := 91
abbrev f_wal_Volume_large : Nat := 92
abbrev f_wal_Volume_may : Nat := 96
abbrev f_wal_head : Nat := 127
abbrev f_wal_room : Nat := 123
abbrev f_wal_wrote : Nat := 124
abbrev f_zbyte_Append32 : Nat := 154
abbrev f_zbyte_Append64 : Nat := 153
abbrev f_zbyte_Get64 : Nat := 131

noncomputable def s_lagoonlaw6_WalCommitsE0 (cf : CallK) (fuel : Nat) (K : AV → Hp → Prop) (t5 : AV) (t6 : AV) (t7 : AV) (t8 : AV) : Hp → Prop := fun h =>
cf f_wal_Volume_Sync [t7] h fun t64 h =>
cf f_wal_Mount [t6] h fun t67 h =>
vExtract 0 t67 h fun t68 h =>
vExtract 1 t67 h fun t69 h =>
cf f_device_Device_Crash [t6, .nilfunc] h fun t72 h =>
cf f_wal_Mount [t72] h fun t73 h =>
vExtract 0 t73 h fun t74 h =>
vExtract 1 t73 h fun t75 h =>
joinG (fun g29 => grdV t5 true (vMov t64 h g29) (g29 undefV h)) fun t78 h =>
joinG (fun g28 => grdV t5 true (vEql t78 (.int .i64 0) h g28) (g28 undefV h)) fun t79 h =>
vPick t5 t79 (.bool .false) h fun t80 h =>
joinG (fun g27 => grdV t80 true (vMov t69 h g27) (g27 undefV h)) fun t82 h =>
joinG (fun g26 => grdV t80 true (vEql t82 (.int .i64 0) h g26) (g26 undefV h)) fun t83 h =>
vPick t80 t83 (.bool .false) h fun t84 h =>
joinG (fun g25 => grdV t84 true (vMov t75 h g25) (g25 undefV h)) fun t86 h =>
joinG (fun g24 => grdV t84 true (vEql t86 (.int .i64 0) h g24) (g24 undefV h)) fun t87 h =>
vPick t84 t87 (.bool .false) h fun t88 h =>
joinG (fun g23 => grdV t88 true (vMov t68 h g23) (g23 undefV h)) fun t90 h =>
joinG (fun g22 => grdV t88 true (vMov t8 h g22) (g22 undefV h)) fun t91 h =>
joinG (fun g21 => grdV t88 true (cf f_lagoonlaw6_Model_now [t91] h g21) (g21 undefV h)) fun t92 h =>
joinG (fun g20 => grdV t88 true (cf f_lagoonlaw6_is [t90, t92] h g20) (g20 undefV h)) fun t93 h =>
vPick t88 t93 (.bool .false) h fun t94 h =>
joinG (fun g19 => grdV t94 true (vMov t74 h g19) (g19 undefV h)) fun t96 h =>
joinG (fun g18 => grdV t94 true (vMov t8 h g18) (g18 undefV h)) fun t97 h =>
joinG (fun g17 => grdV t94 true (cf f_lagoonlaw6_Model_now [t97] h g17) (g17 undefV h)) fun t98 h =>
joinG (fun g16 => grdV t94 true (cf f_lagoonlaw6_is [t96, t98] h g16) (g16 undefV h)) fun t99 h =>
vPick t94 t99 (.bool .false) h fun t100 h =>
joinG (fun g15 => grdV t100 true (vMov t68 h g15) (g15 undefV h)) fun t102 h =>
joinG (fun g14 => grdV t100 true (vMov t8 h g14) (g14 undefV h)) fun t104 h =>
joinG (fun g13 => grdV t100 true (vNilck t104 h g13) (g13 undefV h)) fun t105 h =>
joinG (fun g12 => grdV t100 true (vFaddr 0 t105 h g12) (g12 undefV h)) fun t106 h =>
joinG (fun g11 => grdV t100 true (vLoad2 t106 h g11) (g11 undefV h)) fun t107 h =>
joinG (fun g10 => grdV t100 true (vLenL2 t107 h g10) (g10 undefV h)) fun t108 h =>
joinG (fun g9 => grdV t100 true (vArith Go.Am.subI t108 (.int .i64 1) h g9) (g9 undefV h)) fun t109 h =>
joinG (fun g8 => grdV t100 true (cf f_wal_Volume_Commits [t102] h g8) (g8 undefV h)) fun t103 h =>
joinP (fun g7 => grdV t100 true (vLoad2 t106 h fun c _ => gd (sameV c t107) g7) g7) (
joinG (fun g6 => grdV t100 true (vEql t103 t109 h g6) (g6 undefV h)) fun t110 h =>
vPick t100 t110 (.bool .false) h fun t111 h =>
joinG (fun g5 => grdV t111 true (vMov t74 h g5) (g5 undefV h)) fun t113 h =>
joinG (fun g4 => grdV t111 true (vMov t68 h g4) (g4 undefV h)) fun t115 h =>
joinG (fun g3 => grdV t111 true (cf f_wal_Volume_Commits [t113] h g3) (g3 undefV h)) fun t114 h =>
joinG (fun g2 => grdV t111 true (cf f_wal_Volume_Commits [t115] h g2) (g2 undefV h)) fun t116 h =>
joinG (fun g1 => grdV t111 true (vEql t114 t116 h g1) (g1 undefV h)) fun t117 h =>
vPick t111 t117 (.bool .false) h fun t118 h =>
K t118 h)
noncomputable def s_lagoonlaw6_WalCommitsB47 (cf : CallK) (fuel : Nat) (K : AV → Hp → Prop) (ih30 : AV → Hp → Prop) (t1 : AV) (t9 : AV) (t7 : AV) (t8 : AV) (h : Hp) : Prop :=
(fun (e31 : Hp → Prop) =>
vIaddr 2 t1 t9 h fun t40 h =>
vLoadA 2 t40 h fun t41 h =>
cf f_lagoonlaw6_Model_act [t8, t7, t41] h fun t42 h =>
vNot t42 h fun t44 h =>
joinG (fun g46 => grdV t44 false (vMov t7 h g46) (g46 undefV h)) fun t46 h =>
joinG (fun g45 => grdV t44 false (vMov t8 h g45) (g45 undefV h)) fun t47 h =>
joinG (fun g44 => grdV t44 false (cf f_lagoonlaw6_Model_now [t47] h g44) (g44 undefV h)) fun t48 h =>
joinG (fun g43 => grdV t44 false (cf f_lagoonlaw6_is [t46, t48] h g43) (g43 undefV h)) fun t49 h =>
joinG (fun g42 => grdV t44 false (vNot t49 h g42) (g42 undefV h)) fun t50 h =>
vPick t44 (.bool .true) t50 h fun t51 h =>
joinG (fun g41 => grdV t51 false (vMov t7 h g41) (g41 undefV h)) fun t53 h =>
joinG (fun g40 => grdV t51 false (vMov t8 h g40) (g40 undefV h)) fun t55 h =>
joinG (fun g39 => grdV t51 false (vNilck t55 h g39) (g39 undefV h)) fun t56 h =>
joinG (fun g38 => grdV t51 false (vFaddr 0 t56 h g38) (g38 undefV h)) fun t57 h =>
joinG (fun g37 => grdV t51 false (vLoad2 t57 h g37) (g37 undefV h)) fun t58 h =>
joinG (fun g36 => grdV t51 false (vLenL2 t58 h g36) (g36 undefV h)) fun t59 h =>
joinG (fun g35 => grdV t51 false (vArith Go.Am.subI t59 (.int .i64 1) h g35) (g35 undefV h)) fun t60 h =>
joinG (fun g34 => grdV t51 false (cf f_wal_Volume_Commits [t53] h g34) (g34 undefV h)) fun t54 h =>
joinP (fun g33 => grdV t51 false (vLoad2 t57 h fun c _ => gd (sameV c t58) g33) g33) (
joinG (fun g32 => grdV t51 false (vNeq t54 t60 h g32) (g32 undefV h)) fun t61 h =>
vPick t51 (.bool .true) t61 h fun t62 h =>
vIf t62 (
K (.bool .false) h) (
e31 h))) fun h =>
vAdd t9 (.int .i64 1) h fun t35 h =>
ih30 t35 h
noncomputable def s_lagoonlaw6_WalCommitsL30B (cf : CallK) (fuel : Nat) (K : AV → Hp → Prop) (e0 : Hp → Prop) (t1 : AV) (t5 : AV) (t6 : AV) (t7 : AV) (t8 : AV) (ih30 : AV → Hp → Prop) : AV → Hp → Prop := fun t9 h =>
vLenL2 t1 h fun t28 h =>
vLss t9 t28 h fun t29 h =>
joinG (fun g49 => grdV t29 true (vMov t9 h g49) (g49 undefV h)) fun t31 h =>
joinG (fun g48 => grdV t29 true (vLss t31 (.int .i64 12) h g48) (g48 undefV h)) fun t32 h =>
vPick t29 t32 (.bool .false) h fun t33 h =>
vIf t33 (
s_lagoonlaw6_WalCommitsB47 cf fuel K ih30 t1 t9 t7 t8 h) (
e0 h)
noncomputable def s_lagoonlaw6_WalCommitsL30 (cf : CallK) (fuel : Nat) (K : AV → Hp → Prop) (e0 : Hp → Prop) (t1 : AV) (t5 : AV) (t6 : AV) (t7 : AV) (t8 : AV) (m : Nat) : AV → Hp → Prop := Nat.rec (motive := fun _ => AV → Hp → Prop) (fun _ _ => False) (fun _ ih => s_lagoonlaw6_WalCommitsL30B cf fuel K e0 t1 t5 t6 t7 t8 ih) m
theorem s_lagoonlaw6_WalCommitsL30_succ (cf : CallK) (fuel : Nat) (K : AV → Hp → Prop) (e0 : Hp → Prop) (t1 : AV) (t5 : AV) (t6 : AV) (t7 : AV) (t8 : AV) (m : Nat) : s_lagoonlaw6_WalCommitsL30 cf fuel K e0 t1 t5 t6 t7 t8 (m + 1) = s_lagoonlaw6_WalCommitsL30B cf fuel K e0 t1 t5 t6 t7 t8 (s_lagoonlaw6_WalCommitsL30 cf fuel K e0 t1 t5 t6 t7 t8 m) := rfl
noncomputable def s_lagoonlaw6_WalCommits (cf : CallK) (fuel : Nat) (t0 : AV) (t1 : AV) (h : Hp) (K : AV → Hp → Prop) : Prop :=
cf f_lagoonlaw6_begun [] h fun t16 h =>
cf f_lagoonlaw6_Size [t0] h fun t19 h =>
cf f_lagoonlaw6_fresh [t19] h fun t20 h =>
vExtract 0 t20 h fun t21 h =>
vExtract 1 t20 h fun t22 h =>
vExtract 2 t20 h fun t23 h =>
vEq false eqP t21 .nilptr h fun t25 h =>
vIf t25 (
K (.bool .false) h) (
(fun (e0 : Hp → Prop) =>
s_lagoonlaw6_WalCommitsL30 cf fuel K (s_lagoonlaw6_WalCommitsE0 cf fuel K t16 t21 t22 t23) t1 t16 t21 t22 t23 fuel (.int .i64 0) h) (s_lagoonlaw6_WalCommitsE0 cf fuel K t16 t21 t22 t23))
theorem s_lagoonlaw6_WalCommits_eq (cf : CallK) (fuel : Nat) (t0 : AV) (t1 : AV) (h : Hp) (K : AV → Hp → Prop) : s_lagoonlaw6_WalCommits cf fuel t0 t1 h K = deepT (tabOf Try.prog) f_lagoonlaw6_WalCommits cf fuel [t0, t1] h K :=
  Eq.trans (by kernel_rfl) (rFun (by kernel_rfl) (rSeq (by kernel_rfl) (rSeq (by kernel_rfl) (rSeq (by kernel_rfl) (rSeq (by kernel_rfl) (rSeq (by kernel_rfl) rExact (rSeq (by kernel_rfl) (rBlock (by kernel_rfl) (rLoop (by kernel_rfl) (fun m30 fr h => s_lagoonlaw6_WalCommitsL30 cf fuel K (s_lagoonlaw6_WalCommitsE0 cf fuel K (getS fr (gpos 5)) (getS fr (gpos 6)) (getS fr (gpos 7)) (getS fr (gpos 8))) (getS fr (gpos 1)) (getS fr (gpos 5)) (getS fr (gpos 6)) (getS fr (gpos 7)) (getS fr (gpos 8)) m30 (getS fr (gpos 9)) h) (funext fun fr => funext fun h => by kernel_rfl) fun m30 => rCast (funext fun fr => funext fun h => by kernel_rfl) rExact)) rExact)) rExact) rExact) rExact) rExact))

noncomputable def s_content_New (cf : CallK) (fuel : Nat) (h : Hp) (K : AV → Hp → Prop) : Prop :=
vBuild [.nilslice] [] h fun t1 h =>
vBox 1 t1 h fun t2 h =>
K t2 h
theorem s_content_New_eq (cf : CallK) (fuel : Nat) (h : Hp) (K : AV → Hp → Prop) : s_content_New cf fuel h K = deepT (tabOf Try.prog) f_content_New cf fuel [] h K :=
  Eq.trans (by kernel_rfl) (rFun (by kernel_rfl) rExact)

noncomputable def s_lagoonref15_HeadsE0 (cf : CallK) (fuel : Nat) (K : AV → Hp → Prop) : AV → Hp → Prop := fun t3 h =>
K t3 h
noncomputable def s_lagoonref15_HeadsE2 (cf : CallK) (fuel : Nat) (ih1 : AV → AV → Hp → Prop) (t0 : AV) (t4 : AV) : AV → Hp → Prop := fun t3 h =>
vAdd t4 (.int .i64 1) h fun t12 h =>
ih1 t3 t12 h
noncomputable def s_lagoonref15_HeadsE3 (cf : CallK) (fuel : Nat) (e2 : AV → Hp → Prop) (t0 : AV) (t3 : AV) (t4 : AV) : AV → Hp → Prop := fun t5 h =>
vIf t5 (
vIaddr 11 t0 t4 h fun t37 h =>
vLoadA 11 t37 h fun t38 h =>
vBslice 11 1 false [(.int .i64 0), (.int .i64 0), (.int .i64 0), (.int .i64 0), (.int .i64 0), (.int .i64 0), (.int .i64 0), (.int .i64 0), (.str 0 0), .nilslice, .nilslice] [(0, 11, t38)] h fun t39 h =>
vAppend2 11 128 false t3 t39 h fun t40 h =>
e2 t40 h) (
e2 t3 h)
noncomputable def s_lagoonref15_HeadsB15 (cf : CallK) (fuel : Nat) (ih4 : AV → AV → Hp → Prop) (t0 : AV) (t6 : AV) (t4 : AV) (t5 : AV) (h : Hp) : Prop :=
(fun (e5 : AV → Hp → Prop) =>
vNeq t6 t4 h fun t21 h =>
joinG (fun g14 => grdV t21 true (vMov t0 h g14) (g14 undefV h)) fun t23 h =>
joinG (fun g13 => grdV t21 true (vMov t4 h g13) (g13 undefV h)) fun t24 h =>
joinG (fun g12 => grdV t21 true (vIaddr 11 t23 t24 h g12) (g12 undefV h)) fun t25 h =>
joinG (fun g11 => grdV t21 true (vLoadA 11 t25 h g11) (g11 undefV h)) fun t26 h =>
joinG (fun g10 => grdV t21 true (vMov t0 h g10) (g10 undefV h)) fun t27 h =>
joinG (fun g9 => grdV t21 true (vMov t6 h g9) (g9 undefV h)) fun t28 h =>
joinG (fun g8 => grdV t21 true (vIaddr 11 t27 t28 h g8) (g8 undefV h)) fun t29 h =>
joinG (fun g7 => grdV t21 true (vLoadA 11 t29 h g7) (g7 undefV h)) fun t30 h =>
joinG (fun g6 => grdV t21 true (cf f_lagoonref15_Behind [t26, t30] h g6) (g6 undefV h)) fun t31 h =>
vPick t21 t31 (.bool .false) h fun t32 h =>
vIf t32 (
e5 (.bool .false) h) (
e5 t5 h)) fun t5 h =>
vAdd t6 (.int .i64 1) h fun t18 h =>
ih4 t5 t18 h
noncomputable def s_lagoonref15_HeadsL4B (cf : CallK) (fuel : Nat) (e3 : AV → Hp → Prop) (t0 : AV) (t3 : AV) (t4 : AV) (ih4 : AV → AV → Hp → Prop) : AV → AV → Hp → Prop := fun t5 t6 h =>
vLenL2 t0 h fun t15 h =>
vLss t6 t15 h fun t16 h =>
vIf t16 (
s_lagoonref15_HeadsB15 cf fuel ih4 t0 t6 t4 t5 h) (
e3 t5 h)
noncomputable def s_lagoonref15_HeadsL4 (cf : CallK) (fuel : Nat) (e3 : AV → Hp → Prop) (t0 : AV) (t3 : AV) (t4 : AV) (m : Nat) : AV → AV → Hp → Prop := Nat.rec (motive := fun _ => AV → AV → Hp → Prop) (fun _ _ _ => False) (fun _ ih => s_lagoonref15_HeadsL4B cf fuel e3 t0 t3 t4 ih) m
theorem s_lagoonref15_HeadsL4_succ (cf : CallK) (fuel : Nat) (e3 : AV → Hp → Prop) (t0 : AV) (t3 : AV) (t4 : AV) (m : Nat) : s_lagoonref15_HeadsL4 cf fuel e3 t0 t3 t4 (m + 1) = s_lagoonref15_HeadsL4B cf fuel e3 t0 t3 t4 (s_lagoonref15_HeadsL4 cf fuel e3 t0 t3 t4 m) := rfl
noncomputable def s_lagoonref15_HeadsL1B (cf : CallK) (fuel : Nat) (e0 : AV → Hp → Prop) (t0 : AV) (ih1 : AV → AV → Hp → Prop) : AV → AV → Hp → Prop := fun t3 t4 h =>
vLenL2 t0 h fun t9 h =>
vLss t4 t9 h fun t10 h =>
vIf t10 (
(fun (e2 : AV → Hp → Prop) =>
(fun (e3 : AV → Hp → Prop) =>
s_lagoonref15_HeadsL4 cf fuel (s_lagoonref15_HeadsE3 cf fuel (s_lagoonref15_HeadsE2 cf fuel ih1 t0 t4) t0 t3 t4) t0 t3 t4 fuel (.bool .true) (.int .i64 0) h) (s_lagoonref15_HeadsE3 cf fuel (s_lagoonref15_HeadsE2 cf fuel ih1 t0 t4) t0 t3 t4)) (s_lagoonref15_HeadsE2 cf fuel ih1 t0 t4)) (
e0 t3 h)
noncomputable def s_lagoonref15_HeadsL1 (cf : CallK) (fuel : Nat) (e0 : AV → Hp → Prop) (t0 : AV) (m : Nat) : AV → AV → Hp → Prop := Nat.rec (motive := fun _ => AV → AV → Hp → Prop) (fun _ _ _ => False) (fun _ ih => s_lagoonref15_HeadsL1B cf fuel e0 t0 ih) m
theorem s_lagoonref15_HeadsL1_succ (cf : CallK) (fuel : Nat) (e0 : AV → Hp → Prop) (t0 : AV) (m : Nat) : s_lagoonref15_HeadsL1 cf fuel e0 t0 (m + 1) = s_lagoonref15_HeadsL1B cf fuel e0 t0 (s_lagoonref15_HeadsL1 cf fuel e0 t0 m) := rfl
noncomputable def s_lagoonref15_Heads (cf : CallK) (fuel : Nat) (t0 : AV) (h : Hp) (K : AV → Hp → Prop) : Prop :=
(fun (e0 : AV → Hp → Prop) =>
s_lagoonref15_HeadsL1 cf fuel (s_lagoonref15_HeadsE0 cf fuel K) t0 fuel .nilslice (.int .i64 0) h) (s_lagoonref15_HeadsE0 cf fuel K)
theorem s_lagoonref15_Heads_eq (cf : CallK) (fuel : Nat) (t0 : AV) (h : Hp) (K : AV → Hp → Prop) : s_lagoonref15_Heads cf fuel t0 h K = deepT (tabOf Try.prog) f_lagoonref15_Heads cf fuel [t0] h K :=
  Eq.trans (by kernel_rfl) (rFun (by kernel_rfl) (rSeq (by kernel_rfl) (rSeq (by kernel_rfl) (rSeq (by kernel_rfl) rExact (rSeq (by kernel_rfl) (rBlock (by kernel_rfl) (rLoop (by kernel_rfl) (fun m1 fr h => s_lagoonref15_HeadsL1 cf fuel (s_lagoonref15_HeadsE0 cf fuel K) (getS fr (gpos 0)) m1 (getS fr (gpos 3)) (getS fr (gpos 4)) h) (funext fun fr => funext fun h => by kernel_rfl) fun m1 => rCast (funext fun fr => funext fun h => by kernel_rfl) (rSeq (by kernel_rfl) (rSeq (by kernel_rfl) rExact (rBlock (by kernel_rfl) (rSeq (by kernel_rfl) (rSeq (by kernel_rfl) rExact (rSeq (by kernel_rfl) (rBlock (by kernel_rfl) (rLoop (by kernel_rfl) (fun m4 fr h => s_lagoonref15_HeadsL4 cf fuel (s_lagoonref15_HeadsE3 cf fuel (s_lagoonref15_HeadsE2 cf fuel (s_lagoonref15_HeadsL1 cf fuel (s_lagoonref15_HeadsE0 cf fuel K) (getS fr (gpos 0)) m1) (getS fr (gpos 0)) (getS fr (gpos 4))) (getS fr (gpos 0)) (getS fr (gpos 3)) (getS fr (gpos 4))) (getS fr (gpos 0)) (getS fr (gpos 3)) (getS fr (gpos 4)) m4 (getS fr (gpos 5)) (getS fr (gpos 6)) h) (funext fun fr => funext fun h => by kernel_rfl) fun m4 => rCast (funext fun fr => funext fun h => by kernel_rfl) rExact)) rExact)) rExact))) rExact))) rExact)) rExact) rExact))

noncomputable def s_content_File_HeadsE0 (cf : CallK) (fuel : Nat) (K : AV → Hp → Prop) : AV → Hp → Prop := fun t3 h =>
K t3 h
noncomputable def s_content_File_HeadsE2 (cf : CallK) (fuel : Nat) (ih1 : AV → AV → Hp → Prop) (t0 : AV) (t13 : AV) (t14 : AV) (t15 : AV) : AV → Hp → Prop := fun t3 h =>
vAdd t15 (.int .i64 1) h fun t51 h =>
ih1 t3 t51 h
noncomputable def s_content_File_HeadsE3 (cf : CallK) (fuel : Nat) (e2 : AV → Hp → Prop) (t0 : AV) (t3 : AV) (t5 : AV) (t13 : AV) (t14 : AV) (t15 : AV) : Hp → Prop := fun h =>
vFaddr 3 t5 h fun t39 h =>
vLoad2 t39 h fun t40 h =>
vFaddr 4 t5 h fun t42 h =>
vLoad2 t42 h fun t43 h =>
vAppend2 1 8 false .nilslice t40 h fun t41 h =>
vLoad2 t42 h fun c _ => gd (sameV c t43) (
vFaddr 3 t5 h fun t45 h =>
cf f_bytes_Clone [t43] h fun t44 h =>
vStore 1 t45 t41 h fun _ h =>
vFaddr 4 t5 h fun t46 h =>
vStore 1 t46 t44 h fun _ h =>
vLoadA 5 t5 h fun t48 h =>
vBslice 5 1 false [(.int .i64 0), (.int .i64 0), (.int .i64 0), .nilslice, .nilslice] [(0, 5, t48)] h fun t49 h =>
vAppend2 5 72 false t3 t49 h fun t50 h =>
e2 t50 h)
noncomputable def s_content_File_HeadsB9 (cf : CallK) (fuel : Nat) (ih4 : AV → Hp → Prop) (e2 : AV → Hp → Prop) (t3 : AV) (t5 : AV) (t22 : AV) (t24 : AV) (h : Hp) : Prop :=
(fun (e5 : Hp → Prop) =>
vIaddr 5 t22 t24 h fun t26 h =>
vLoadA 5 t26 h fun t27 h =>
vBox 5 (.agg [(.int .i64 0), (.int .i64 0), (.int .i64 0), .nilslice, .nilslice]) h fun t7 h =>
vStore 5 t7 t27 h fun _ h =>
vFaddr 0 t5 h fun t28 h =>
vLoadA 2 t28 h fun t29 h =>
vFaddr 0 t7 h fun t30 h =>
vLoadA 2 t30 h fun t31 h =>
vEq true eqPairS t29 t31 h fun t32 h =>
joinG (fun g8 => grdV t32 true (vLoadA 5 t5 h g8) (g8 undefV h)) fun t34 h =>
joinG (fun g7 => grdV t32 true (vLoadA 5 t7 h g7) (g7 undefV h)) fun t35 h =>
joinG (fun g6 => grdV t32 true (cf f_content_Behind [t34, t35] h g6) (g6 undefV h)) fun t36 h =>
vPick t32 t36 (.bool .false) h fun t37 h =>
vIf t37 (
e2 t3 h) (
e5 h)) fun h =>
vAdd t24 (.int .i64 1) h fun t38 h =>
ih4 t38 h
noncomputable def s_content_File_HeadsL4B (cf : CallK) (fuel : Nat) (e2 : AV → Hp → Prop) (e3 : Hp → Prop) (t0 : AV) (t3 : AV) (t5 : AV) (t13 : AV) (t14 : AV) (t15 : AV) (t22 : AV) (t23 : AV) (ih4 : AV → Hp → Prop) : AV → Hp → Prop := fun t24 h =>
vLss t24 t23 h fun t25 h =>
vIf t25 (
s_content_File_HeadsB9 cf fuel ih4 e2 t3 t5 t22 t24 h) (
e3 h)
noncomputable def s_content_File_HeadsL4 (cf : CallK) (fuel : Nat) (e2 : AV → Hp → Prop) (e3 : Hp → Prop) (t0 : AV) (t3 : AV) (t5 : AV) (t13 : AV) (t14 : AV) (t15 : AV) (t22 : AV) (t23 : AV) (m : Nat) : AV → Hp → Prop := Nat.rec (motive := fun _ => AV → Hp → Prop) (fun _ _ => False) (fun _ ih => s_content_File_HeadsL4B cf fuel e2 e3 t0 t3 t5 t13 t14 t15 t22 t23 ih) m
theorem s_content_File_HeadsL4_succ (cf : CallK) (fuel : Nat) (e2 : AV → Hp → Prop) (e3 : Hp → Prop) (t0 : AV) (t3 : AV) (t5 : AV) (t13 : AV) (t14 : AV) (t15 : AV) (t22 : AV) (t23 : AV) (m : Nat) : s_content_File_HeadsL4 cf fuel e2 e3 t0 t3 t5 t13 t14 t15 t22 t23 (m + 1) = s_content_File_HeadsL4B cf fuel e2 e3 t0 t3 t5 t13 t14 t15 t22 t23 (s_content_File_HeadsL4 cf fuel e2 e3 t0 t3 t5 t13 t14 t15 t22 t23 m) := rfl
noncomputable def s_content_File_HeadsL1B (cf : CallK) (fuel : Nat) (e0 : AV → Hp → Prop) (t0 : AV) (t13 : AV) (t14 : AV) (ih1 : AV → AV → Hp → Prop) : AV → AV → Hp → Prop := fun t3 t15 h =>
vLss t15 t14 h fun t16 h =>
vIf t16 (
(fun (e2 : AV → Hp → Prop) =>
vIaddr 5 t13 t15 h fun t17 h =>
vLoadA 5 t17 h fun t18 h =>
vBox 5 (.agg [(.int .i64 0), (.int .i64 0), (.int .i64 0), .nilslice, .nilslice]) h fun t5 h =>
vStore 5 t5 t18 h fun _ h =>
vNilck t0 h fun t20 h =>
vFaddr 0 t20 h fun t21 h =>
vLoad2 t21 h fun t22 h =>
vLenL2 t22 h fun t23 h =>
(fun (e3 : Hp → Prop) =>
s_content_File_HeadsL4 cf fuel (s_content_File_HeadsE2 cf fuel ih1 t0 t13 t14 t15) (s_content_File_HeadsE3 cf fuel (s_content_File_HeadsE2 cf fuel ih1 t0 t13 t14 t15) t0 t3 t5 t13 t14 t15) t0 t3 t5 t13 t14 t15 t22 t23 fuel (.int .i64 0) h) (s_content_File_HeadsE3 cf fuel (s_content_File_HeadsE2 cf fuel ih1 t0 t13 t14 t15) t0 t3 t5 t13 t14 t15)) (s_content_File_HeadsE2 cf fuel ih1 t0 t13 t14 t15)) (
e0 t3 h)
noncomputable def s_content_File_HeadsL1 (cf : CallK) (fuel : Nat) (e0 : AV → Hp → Prop) (t0 : AV) (t13 : AV) (t14 : AV) (m : Nat) : AV → AV → Hp → Prop := Nat.rec (motive := fun _ => AV → AV → Hp → Prop) (fun _ _ _ => False) (fun _ ih => s_content_File_HeadsL1B cf fuel e0 t0 t13 t14 ih) m
theorem s_content_File_HeadsL1_succ (cf : CallK) (fuel : Nat) (e0 : AV → Hp → Prop) (t0 : AV) (t13 : AV) (t14 : AV) (m : Nat) : s_content_File_HeadsL1 cf fuel e0 t0 t13 t14 (m + 1) = s_content_File_HeadsL1B cf fuel e0 t0 t13 t14 (s_content_File_HeadsL1 cf fuel e0 t0 t13 t14 m) := rfl
noncomputable def s_content_File_Heads (cf : CallK) (fuel : Nat) (t0 : AV) (h : Hp) (K : AV → Hp → Prop) : Prop :=
vEq false eqP t0 .nilptr h fun t9 h =>
vIf t9 (
K .nilslice h) (
vNilck t0 h fun t11 h =>
vFaddr 0 t11 h fun t12 h =>
vLoad2 t12 h fun t13 h =>
vLenL2 t13 h fun t14 h =>
(fun (e0 : AV → Hp → Prop) =>
s_content_File_HeadsL1 cf fuel (s_content_File_HeadsE0 cf fuel K) t0 t13 t14 fuel .nilslice (.int .i64 0) h) (s_content_File_HeadsE0 cf fuel K))
theorem s_content_File_Heads_eq (cf : CallK) (fuel : Nat) (t0 : AV) (h : Hp) (K : AV → Hp → Prop) : s_content_File_Heads cf fuel t0 h K = deepT (tabOf Try.prog) f_content_File_Heads cf fuel [t0] h K :=
  Eq.trans (by kernel_rfl) (rFun (by kernel_rfl) (rSeq (by kernel_rfl) (rScope (by kernel_rfl) (rSeq (by kernel_rfl) (rSeq (by kernel_rfl) (rSeq (by kernel_rfl) (rSeq (by kernel_rfl) rExact (rSeq (by kernel_rfl) (rBlock (by kernel_rfl) (rLoop (by kernel_rfl) (fun m1 fr h => s_content_File_HeadsL1 cf fuel (s_content_File_HeadsE0 cf fuel K) (getS fr (gpos 0)) (getS fr (gpos 13)) (getS fr (gpos 14)) m1 (getS fr (gpos 3)) (getS fr (gpos 15)) h) (funext fun fr => funext fun h => by kernel_rfl) fun m1 => rCast (funext fun fr => funext fun h => by kernel_rfl) (rSeq (by kernel_rfl) (rSeq (by kernel_rfl) (rSeq (by kernel_rfl) rExact (rBlock (by kernel_rfl) (rSeq (by kernel_rfl) (rSeq (by kernel_rfl) rExact (rSeq (by kernel_rfl) (rBlock (by kernel_rfl) (rLoop (by kernel_rfl) (fun m4 fr h => s_content_File_HeadsL4 cf fuel (s_content_File_HeadsE2 cf fuel (s_content_File_HeadsL1 cf fuel (s_content_File_HeadsE0 cf fuel K) (getS fr (gpos 0)) (getS fr (gpos 13)) (getS fr (gpos 14)) m1) (getS fr (gpos 0)) (getS fr (gpos 13)) (getS fr (gpos 14)) (getS fr (gpos 15))) (s_content_File_HeadsE3 cf fuel (s_content_File_HeadsE2 cf fuel (s_content_File_HeadsL1 cf fuel (s_content_File_HeadsE0 cf fuel K) (getS fr (gpos 0)) (getS fr (gpos 13)) (getS fr (gpos 14)) m1) (getS fr (gpos 0)) (getS fr (gpos 13)) (getS fr (gpos 14)) (getS fr (gpos 15))) (getS fr (gpos 0)) (getS fr (gpos 3)) (getS fr (gpos 5)) (getS fr (gpos 13)) (getS fr (gpos 14)) (getS fr (gpos 15))) (getS fr (gpos 0)) (getS fr (gpos 3)) (getS fr (gpos 5)) (getS fr (gpos 13)) (getS fr (gpos 14)) (getS fr (gpos 15)) (getS fr (gpos 22)) (getS fr (gpos 23)) m4 (getS fr (gpos 24)) h) (funext fun fr => funext fun h => by kernel_rfl) fun m4 => rCast (funext fun fr => funext fun h => by kernel_rfl) rExact)) rExact)) rExact))) rExact) rExact))) rExact)) rExact) rExact) rExact)) rExact))

noncomputable def s_content_File_Len (cf : CallK) (fuel : Nat) (t0 : AV) (h : Hp) (K : AV → Hp → Prop) : Prop :=
vEq false eqP t0 .nilptr h fun t4 h =>
vIf t4 (
K (.int .i64 0) h) (
vNilck t0 h fun t6 h =>
vFaddr 0 t6 h fun t7 h =>
vLoad2 t7 h fun t8 h =>
vLenL2 t8 h fun t9 h =>
K t9 h)
theorem s_content_File_Len_eq (cf : CallK) (fuel : Nat) (t0 : AV) (h : Hp) (K : AV → Hp → Prop) : s_content_File_Len cf fuel t0 h K = deepT (tabOf Try.prog) f_content_File_Len cf fuel [t0] h K :=
  Eq.trans (by kernel_rfl) (rFun (by kernel_rfl) rExact)

noncomputable def s_content_Of (cf : CallK) (fuel : Nat) (t0 : AV) (h : Hp) (K : AV → Hp → Prop) : Prop :=
vBox 11 t0 h fun t1 h =>
vBox 5 (.agg [(.int .i64 0), (.int .i64 0), (.int .i64 0), .nilslice, .nilslice]) h fun t2 h =>
vFaddr 0 t1 h fun t3 h =>
vLoadA 2 t3 h fun t4 h =>
vFaddr 2 t1 h fun t5 h =>
vLoad2 t5 h fun t6 h =>
vFaddr 10 t1 h fun t7 h =>
vLoad2 t7 h fun t8 h =>
vFaddr 9 t1 h fun t10 h =>
vLoad2 t10 h fun t11 h =>
vAppend2 1 8 false .nilslice t8 h fun t9 h =>
vLoadA 2 t3 h fun c _ => gd (sameV c t4) (
vLoad2 t5 h fun c _ => gd (sameV c t6) (
vLoad2 t10 h fun c _ => gd (sameV c t11) (
cf f_bytes_Clone [t11] h fun t12 h =>
vLoadA 2 t3 h fun c _ => gd (sameV c t4) (
vLoad2 t5 h fun c _ => gd (sameV c t6) (
vBuild [(.int .i64 0), (.int .i64 0), (.int .i64 0), .nilslice, .nilslice] [(0, 2, t4), (2, 1, t6), (3, 1, t9), (4, 1, t12)] h fun t13 h =>
vStore 5 t2 t13 h fun _ h =>
vLoadA 5 t2 h fun r0 _ => K r0 h)))))
theorem s_content_Of_eq (cf : CallK) (fuel : Nat) (t0 : AV) (h : Hp) (K : AV → Hp → Prop) : s_content_Of cf fuel t0 h K = deepT (tabOf Try.prog) f_content_Of cf fuel [t0] h K :=
  Eq.trans (by kernel_rfl) (rFun (by kernel_rfl) rExact)

noncomputable def s_content_Behind (cf : CallK) (fuel : Nat) (t0 : AV) (t1 : AV) (h : Hp) (K : AV → Hp → Prop) : Prop :=
vBox 5 t0 h fun t2 h =>
vBox 5 t1 h fun t3 h =>
vFaddr 3 t3 h fun t5 h =>
vLoad2 t5 h fun t6 h =>
vFaddr 0 t2 h fun t7 h =>
vFaddr 1 t7 h fun t8 h =>
vLoad2 t8 h fun t9 h =>
vFaddr 2 t2 h fun t11 h =>
vLoad2 t11 h fun t12 h =>
cf f_vector_At [t6, t9] h fun t10 h =>
vLoad2 t11 h fun c _ => gd (sameV c t12) (
vGeq t10 t12 h fun t13 h =>
K t13 h)
theorem s_content_Behind_eq (cf : CallK) (fuel : Nat) (t0 : AV) (t1 : AV) (h : Hp) (K : AV → Hp → Prop) : s_content_Behind cf fuel t0 t1 h K = deepT (tabOf Try.prog) f_content_Behind cf fuel [t0, t1] h K :=
  Eq.trans (by kernel_rfl) (rFun (by kernel_rfl) rExact)

noncomputable def s_lagoonref15_Behind (cf : CallK) (fuel : Nat) (t0 : AV) (t1 : AV) (h : Hp) (K : AV → Hp → Prop) : Prop :=
vBox 11 t0 h fun t2 h =>
vBox 11 t1 h fun t3 h =>
vFaddr 10 t3 h fun t5 h =>
vLoad2 t5 h fun t6 h =>
vFaddr 0 t2 h fun t7 h =>
vFaddr 1 t7 h fun t8 h =>
vLoad2 t8 h fun t9 h =>
vFaddr 2 t2 h fun t11 h =>
vLoad2 t11 h fun t12 h =>
cf f_lagoonref4_At [t6, t9] h fun t10 h =>
vLoad2 t11 h fun c _ => gd (sameV c t12) (
vGeq t10 t12 h fun t13 h =>
K t13 h)
theorem s_lagoonref15_Behind_eq (cf : CallK) (fuel : Nat) (t0 : AV) (t1 : AV) (h : Hp) (K : AV → Hp → Prop) : s_lagoonref15_Behind cf fuel t0 t1 h K = deepT (tabOf Try.prog) f_lagoonref15_Behind cf fuel [t0, t1] h K :=
  Eq.trans (by kernel_rfl) (rFun (by kernel_rfl) rExact)

noncomputable def s_lagoonref4_Same (cf : CallK) (fuel : Nat) (t0 : AV) (t1 : AV) (h : Hp) (K : AV → Hp → Prop) : Prop :=
vBox 2 t0 h fun t2 h =>
vBox 2 t1 h fun t3 h =>
vFaddr 0 t2 h fun t5 h =>
vLoad2 t5 h fun t6 h =>
vFaddr 0 t3 h fun t7 h =>
vLoad2 t7 h fun t8 h =>
vEql t6 t8 h fun t9 h =>
joinG (fun g4 => grdV t9 true (vFaddr 1 t2 h g4) (g4 undefV h)) fun t11 h =>
joinG (fun g3 => grdV t9 true (vLoad2 t11 h g3) (g3 undefV h)) fun t12 h =>
joinG (fun g2 => grdV t9 true (vFaddr 1 t3 h g2) (g2 undefV h)) fun t13 h =>
joinG (fun g1 => grdV t9 true (vLoad2 t13 h g1) (g1 undefV h)) fun t14 h =>
joinG (fun g0 => grdV t9 true (vEql t12 t14 h g0) (g0 undefV h)) fun t15 h =>
vPick t9 t15 (.bool .false) h fun t16 h =>
K t16 h
theorem s_lagoonref4_Same_eq (cf : CallK) (fuel : Nat) (t0 : AV) (t1 : AV) (h : Hp) (K : AV → Hp → Prop) : s_lagoonref4_Same cf fuel t0 t1 h K = deepT (tabOf Try.prog) f_lagoonref4_Same cf fuel [t0, t1] h K :=
  Eq.trans (by kernel_rfl) (rFun (by kernel_rfl) rExact)

noncomputable def s_lagoonref4_At (cf : CallK) (fuel : Nat) (t0 : AV) (t1 : AV) (h : Hp) (K : AV → Hp → Prop) : Prop :=
vLss t1 (.int .i64 0) h fun t6 h =>
joinG (fun g15 => grdV t6 false (vMov t1 h g15) (g15 undefV h)) fun t8 h =>
joinG (fun g14 => grdV t6 false (vGeq t8 (.int .i64 64) h g14) (g14 undefV h)) fun t9 h =>
vPick t6 (.bool .true) t9 h fun t10 h =>
joinG (fun g13 => grdV t10 false (vMov t1 h g13) (g13 undefV h)) fun t12 h =>
joinG (fun g12 => grdV t10 false (vMov t0 h g12) (g12 undefV h)) fun t13 h =>
joinG (fun g11 => grdV t10 false (vLenL2 t13 h g11) (g11 undefV h)) fun t14 h =>
joinG (fun g10 => grdV t10 false (vGeq t12 t14 h g10) (g10 undefV h)) fun t15 h =>
vPick t10 (.bool .true) t15 h fun t16 h =>
joinG (fun g9 => grdV t16 false (vMov t0 h g9) (g9 undefV h)) fun t18 h =>
joinG (fun g8 => grdV t16 false (vMov t1 h g8) (g8 undefV h)) fun t19 h =>
joinG (fun g7 => grdV t16 false (vIaddr 1 t18 t19 h g7) (g7 undefV h)) fun t20 h =>
joinG (fun g6 => grdV t16 false (vLoad2 t20 h g6) (g6 undefV h)) fun t21 h =>
joinG (fun g5 => grdV t16 false (vLss t21 (.int .i64 0) h g5) (g5 undefV h)) fun t22 h =>
vPick t16 (.bool .true) t22 h fun t23 h =>
joinG (fun g4 => grdV t23 false (vMov t0 h g4) (g4 undefV h)) fun t25 h =>
joinG (fun g3 => grdV t23 false (vMov t1 h g3) (g3 undefV h)) fun t26 h =>
joinG (fun g2 => grdV t23 false (vIaddr 1 t25 t26 h g2) (g2 undefV h)) fun t27 h =>
joinG (fun g1 => grdV t23 false (vLoad2 t27 h g1) (g1 undefV h)) fun t28 h =>
joinG (fun g0 => grdV t23 false (vGtr t28 (.int .i64 1152921504606846976) h g0) (g0 undefV h)) fun t29 h =>
vPick t23 (.bool .true) t29 h fun t30 h =>
vIf t30 (
K (.int .i64 0) h) (
vIaddr 1 t0 t1 h fun t33 h =>
vLoad2 t33 h fun t34 h =>
K t34 h)
theorem s_lagoonref4_At_eq (cf : CallK) (fuel : Nat) (t0 : AV) (t1 : AV) (h : Hp) (K : AV → Hp → Prop) : s_lagoonref4_At cf fuel t0 t1 h K = deepT (tabOf Try.prog) f_lagoonref4_At cf fuel [t0, t1] h K :=
  Eq.trans (by kernel_rfl) (rFun (by kernel_rfl) rExact)

noncomputable def s_lagoonref4_Less (cf : CallK) (fuel : Nat) (t0 : AV) (t1 : AV) (h : Hp) (K : AV → Hp → Prop) : Prop :=
vBox 2 t0 h fun t2 h =>
vBox 2 t1 h fun t3 h =>
vFaddr 0 t2 h fun t5 h =>
vLoad2 t5 h fun t6 h =>
vFaddr 0 t3 h fun t7 h =>
vLoad2 t7 h fun t8 h =>
vLss t6 t8 h fun t9 h =>
joinG (fun g11 => grdV t9 false (vFaddr 0 t2 h g11) (g11 undefV h)) fun t11 h =>
joinG (fun g10 => grdV t9 false (vLoad2 t11 h g10) (g10 undefV h)) fun t12 h =>
joinG (fun g9 => grdV t9 false (vFaddr 0 t3 h g9) (g9 undefV h)) fun t13 h =>
joinG (fun g8 => grdV t9 false (vLoad2 t13 h g8) (g8 undefV h)) fun t14 h =>
joinG (fun g7 => grdV t9 false (vEql t12 t14 h g7) (g7 undefV h)) fun t15 h =>
joinG (fun g6 => grdV t9 false (vMov t15 h g6) (g6 undefV h)) fun t16 h =>
joinG (fun g5 => grdV t16 true (vFaddr 1 t2 h g5) (g5 undefV h)) fun t17 h =>
joinG (fun g4 => grdV t16 true (vLoad2 t17 h g4) (g4 undefV h)) fun t18 h =>
joinG (fun g3 => grdV t16 true (vFaddr 1 t3 h g3) (g3 undefV h)) fun t19 h =>
joinG (fun g2 => grdV t16 true (vLoad2 t19 h g2) (g2 undefV h)) fun t20 h =>
joinG (fun g1 => grdV t16 true (vLss t18 t20 h g1) (g1 undefV h)) fun t21 h =>
joinG (fun g0 => grdV t9 false (vPick t16 t21 (.bool .false) h g0) (g0 undefV h)) fun t22 h =>
vPick t9 (.bool .true) t22 h fun t23 h =>
K t23 h
theorem s_lagoonref4_Less_eq (cf : CallK) (fuel : Nat) (t0 : AV) (t1 : AV) (h : Hp) (K : AV → Hp → Prop) : s_lagoonref4_Less cf fuel t0 t1 h K = deepT (tabOf Try.prog) f_lagoonref4_Less cf fuel [t0, t1] h K :=
  Eq.trans (by kernel_rfl) (rFun (by kernel_rfl) rExact)

noncomputable def s_lagoonlaw6_freshE0 (cf : CallK) (fuel : Nat) (K : AV → Hp → Prop) (t5 : AV) (t7 : AV) : AV → Hp → Prop := fun t9 h =>
vBslice 1 1 false [.nilslice] [(0, 1, t9)] h fun t44 h =>
vBuild [.nilslice, (.int .i64 0)] [(0, 1, t44)] h fun t45 h =>
vBox 2 t45 h fun t46 h =>
K (.tup [t5, t7, t46]) h
noncomputable def s_lagoonlaw6_freshL1B (cf : CallK) (fuel : Nat) (e0 : AV → Hp → Prop) (t0 : AV) (t5 : AV) (t7 : AV) (ih1 : AV → AV → Hp → Prop) : AV → AV → Hp → Prop := fun t9 t10 h =>
vArith Go.Am.subI t0 (.int .i64 8) h fun t32 h =>
vDiv false t32 (.int .i64 4) h fun t33 h =>
vLss t10 t33 h fun t34 h =>
vIf t34 (
(fun (e2 : AV → Hp → Prop) =>
vMkSlice 1 1 true [(.int .u8 0)] (.int .i64 512) (.int .i64 512) h fun t38 h =>
vBslice 1 1 false [.nilslice] [(0, 1, t38)] h fun t39 h =>
vAppend2 1 24 false t9 t39 h fun t40 h =>
e2 t40 h) fun t9 h =>
vAdd t10 (.int .i64 1) h fun t36 h =>
ih1 t9 t36 h) (
e0 t9 h)
noncomputable def s_lagoonlaw6_freshL1 (cf : CallK) (fuel : Nat) (e0 : AV → Hp → Prop) (t0 : AV) (t5 : AV) (t7 : AV) (m : Nat) : AV → AV → Hp → Prop := Nat.rec (motive := fun _ => AV → AV → Hp → Prop) (fun _ _ _ => False) (fun _ ih => s_lagoonlaw6_freshL1B cf fuel e0 t0 t5 t7 ih) m
theorem s_lagoonlaw6_freshL1_succ (cf : CallK) (fuel : Nat) (e0 : AV → Hp → Prop) (t0 : AV) (t5 : AV) (t7 : AV) (m : Nat) : s_lagoonlaw6_freshL1 cf fuel e0 t0 t5 t7 (m + 1) = s_lagoonlaw6_freshL1B cf fuel e0 t0 t5 t7 (s_lagoonlaw6_freshL1 cf fuel e0 t0 t5 t7 m) := rfl
noncomputable def s_lagoonlaw6_fresh (cf : CallK) (fuel : Nat) (t0 : AV) (h : Hp) (K : AV → Hp → Prop) : Prop :=
cf f_device_New [t0] h fun t12 h =>
cf f_wal_Format [t12] h fun t14 h =>
cf f_wal_Mount [t12] h fun t17 h =>
vExtract 0 t17 h fun t18 h =>
vExtract 1 t17 h fun t19 h =>
vNeq t14 (.int .i64 0) h fun t21 h =>
joinG (fun g6 => grdV t21 false (vMov t19 h g6) (g6 undefV h)) fun t23 h =>
joinG (fun g5 => grdV t21 false (vNeq t23 (.int .i64 0) h g5) (g5 undefV h)) fun t24 h =>
vPick t21 (.bool .true) t24 h fun t25 h =>
joinG (fun g4 => grdV t25 false (vMov t18 h g4) (g4 undefV h)) fun t27 h =>
joinG (fun g3 => grdV t25 false (vEq false eqP t27 .nilptr h g3) (g3 undefV h)) fun t28 h =>
vPick t25 (.bool .true) t28 h fun t29 h =>
vIf t29 (
K (.tup [.nilptr, .nilptr, .nilptr]) h) (
(fun (e0 : AV → Hp → Prop) =>
s_lagoonlaw6_freshL1 cf fuel (s_lagoonlaw6_freshE0 cf fuel K t12 t18) t0 t12 t18 fuel .nilslice (.int .i64 0) h) (s_lagoonlaw6_freshE0 cf fuel K t12 t18))
theorem s_lagoonlaw6_fresh_eq (cf : CallK) (fuel : Nat) (t0 : AV) (h : Hp) (K : AV → Hp → Prop) : s_lagoonlaw6_fresh cf fuel t0 h K = deepT (tabOf Try.prog) f_lagoonlaw6_fresh cf fuel [t0] h K :=
  Eq.trans (by kernel_rfl) (rFun (by kernel_rfl) (rSeq (by kernel_rfl) (rSeq (by kernel_rfl) (rSeq (by kernel_rfl) (rSeq (by kernel_rfl) (rSeq (by kernel_rfl) (rSeq (by kernel_rfl) (rSeq (by kernel_rfl) rExact (rSeq (by kernel_rfl) (rBlock (by kernel_rfl) (rLoop (by kernel_rfl) (fun m1 fr h => s_lagoonlaw6_freshL1 cf fuel (s_lagoonlaw6_freshE0 cf fuel K (getS fr (gpos 5)) (getS fr (gpos 7))) (getS fr (gpos 0)) (getS fr (gpos 5)) (getS fr (gpos 7)) m1 (getS fr (gpos 9)) (getS fr (gpos 10)) h) (funext fun fr => funext fun h => by kernel_rfl) fun m1 => rCast (funext fun fr => funext fun h => by kernel_rfl) rExact)) rExact)) rExact) rExact) rExact) rExact) rExact) rExact))

noncomputable def s_lagoonlaw6_Size (cf : CallK) (fuel : Nat) (t0 : AV) (h : Hp) (K : AV → Hp → Prop) : Prop :=
(fun (j0 : AV → Hp → Prop) =>
vLss t0 (.int .i64 0) h fun t4 h =>
vIf t4 (
vAdd t0 (.int .i64 1) h fun t6 h =>
vNeg t6 h fun t7 h =>
j0 t7 h) (
j0 t0 h)) fun t0 h =>
vDiv true t0 (.int .i64 120) h fun t9 h =>
vAdd (.int .i64 16) t9 h fun t10 h =>
K t10 h
theorem s_lagoonlaw6_Size_eq (cf : CallK) (fuel : Nat) (t0 : AV) (h : Hp) (K : AV → Hp → Prop) : s_lagoonlaw6_Size cf fuel t0 h K = deepT (tabOf Try.prog) f_lagoonlaw6_Size cf fuel [t0] h K :=
  Eq.trans (by kernel_rfl) (rFun (by kernel_rfl) rExact)

noncomputable def s_lagoonlaw6_Model_actE3 (cf : CallK) (fuel : Nat) (K : AV → Hp → Prop) (t0 : AV) (t11 : AV) : Hp → Prop := fun h =>
vNilck t0 h fun t84 h =>
vFaddr 0 t84 h fun t85 h =>
vLoad2 t85 h fun t86 h =>
vBslice 1 1 false [.nilslice] [(0, 1, t11)] h fun t88 h =>
vAppend2 1 24 false t86 t88 h fun t89 h =>
vNilck t0 h fun t90 h =>
vFaddr 0 t90 h fun t91 h =>
vStore 1 t91 t89 h fun _ h =>
K (.bool .true) h
noncomputable def s_lagoonlaw6_Model_actL4B (cf : CallK) (fuel : Nat) (e3 : Hp → Prop) (t0 : AV) (t8 : AV) (t11 : AV) (ih4 : AV → Hp → Prop) : AV → Hp → Prop := fun t12 h =>
vLenL2 t8 h fun t66 h =>
vLss t12 t66 h fun t67 h =>
vIf t67 (
(fun (e5 : Hp → Prop) =>
vIaddr 2 t8 t12 h fun t73 h =>
vFaddr 0 t73 h fun t74 h =>
vLoad2 t74 h fun t75 h =>
vIaddr 2 t8 t12 h fun t78 h =>
vFaddr 1 t78 h fun t79 h =>
vLoad2 t79 h fun t80 h =>
vIaddr 1 t11 t75 h fun t81 h =>
vStore 1 t81 t80 h fun _ h =>
e5 h) fun h =>
vAdd t12 (.int .i64 1) h fun t69 h =>
ih4 t69 h) (
e3 h)
noncomputable def s_lagoonlaw6_Model_actL4 (cf : CallK) (fuel : Nat) (e3 : Hp → Prop) (t0 : AV) (t8 : AV) (t11 : AV) (m : Nat) : AV → Hp → Prop := Nat.rec (motive := fun _ => AV → Hp → Prop) (fun _ _ => False) (fun _ ih => s_lagoonlaw6_Model_actL4B cf fuel e3 t0 t8 t11 ih) m
theorem s_lagoonlaw6_Model_actL4_succ (cf : CallK) (fuel : Nat) (e3 : Hp → Prop) (t0 : AV) (t8 : AV) (t11 : AV) (m : Nat) : s_lagoonlaw6_Model_actL4 cf fuel e3 t0 t8 t11 (m + 1) = s_lagoonlaw6_Model_actL4B cf fuel e3 t0 t8 t11 (s_lagoonlaw6_Model_actL4 cf fuel e3 t0 t8 t11 m) := rfl
noncomputable def s_lagoonlaw6_Model_actB8 (cf : CallK) (fuel : Nat) (K : AV → Hp → Prop) (t45 : AV) (t41 : AV) (t0 : AV) (h : Hp) : Prop :=
vNeq t45 (.int .i64 0) h fun t51 h =>
joinG (fun g7 => grdV t51 true (vMov t45 h g7) (g7 undefV h)) fun t53 h =>
joinG (fun g6 => grdV t51 true (vNeq t53 (.int .i64 5) h g6) (g6 undefV h)) fun t54 h =>
vPick t51 t54 (.bool .false) h fun t55 h =>
vIf t55 (
K (.bool .false) h) (
vLenL2 t41 h fun t57 h =>
vEql t57 (.int .i64 0) h fun t58 h =>
vIf t58 (
vEql t45 (.int .i64 0) h fun t60 h =>
K t60 h) (
cf f_lagoonlaw6_Model_now [t0] h fun t62 h =>
vAppend2 1 24 false .nilslice t62 h fun t63 h =>
(fun (e3 : Hp → Prop) =>
s_lagoonlaw6_Model_actL4 cf fuel (s_lagoonlaw6_Model_actE3 cf fuel K t0 t63) t0 t41 t63 fuel (.int .i64 0) h) (s_lagoonlaw6_Model_actE3 cf fuel K t0 t63)))
noncomputable def s_lagoonlaw6_Model_actB9 (cf : CallK) (fuel : Nat) (K : AV → Hp → Prop) (t0 : AV) (t1 : AV) (h : Hp) : Prop :=
cf f_wal_Volume_Sync [t1] h fun t16 h =>
(fun (j0 : Hp → Prop) =>
vEql t16 (.int .i64 0) h fun t18 h =>
vIf t18 (
vNilck t0 h fun t21 h =>
vFaddr 0 t21 h fun t22 h =>
vLoad2 t22 h fun t23 h =>
vLenL2 t23 h fun t24 h =>
vArith Go.Am.subI t24 (.int .i64 1) h fun t25 h =>
vNilck t0 h fun t26 h =>
vFaddr 1 t26 h fun t27 h =>
vStore 1 t27 t25 h fun _ h =>
j0 h) (
j0 h)) fun h =>
vEql t16 (.int .i64 0) h fun t29 h =>
joinG (fun g2 => grdV t29 false (vMov t16 h g2) (g2 undefV h)) fun t31 h =>
joinG (fun g1 => grdV t29 false (vEql t31 (.int .i64 5) h g1) (g1 undefV h)) fun t32 h =>
vPick t29 (.bool .true) t32 h fun t33 h =>
K t33 h
noncomputable def s_lagoonlaw6_Model_act (cf : CallK) (fuel : Nat) (t0 : AV) (t1 : AV) (t2 : AV) (h : Hp) (K : AV → Hp → Prop) : Prop :=
vBox 2 t2 h fun t5 h =>
vFaddr 0 t5 h fun t13 h =>
vLoad2 t13 h fun t14 h =>
vIf t14 (
s_lagoonlaw6_Model_actB9 cf fuel K t0 t1 h) (
vFaddr 1 t5 h fun t35 h =>
vLoad2 t35 h fun t36 h =>
cf f_lagoonlaw6_Model_now [t0] h fun t38 h =>
vLoad2 t35 h fun c _ => gd (sameV c t36) (
vLenL2 t38 h fun t39 h =>
cf f_lagoonlaw6_puts [t36, t39] h fun t40 h =>
vExtract 0 t40 h fun t41 h =>
vExtract 1 t40 h fun t42 h =>
cf f_wal_Volume_Commit [t1, t41] h fun t45 h =>
vNot t42 h fun t47 h =>
vIf t47 (
vEql t45 (.int .i64 22) h fun t49 h =>
K t49 h) (
s_lagoonlaw6_Model_actB8 cf fuel K t45 t41 t0 h)))
theorem s_lagoonlaw6_Model_act_eq (cf : CallK) (fuel : Nat) (t0 : AV) (t1 : AV) (t2 : AV) (h : Hp) (K : AV → Hp → Prop) : s_lagoonlaw6_Model_act cf fuel t0 t1 t2 h K = deepT (tabOf Try.prog) f_lagoonlaw6_Model_act cf fuel [t0, t1, t2] h K :=
  Eq.trans (by kernel_rfl) (rFun (by kernel_rfl) (rSeq (by kernel_rfl) (rSeq (by kernel_rfl) (rSeq (by kernel_rfl) (rSeq (by kernel_rfl) (rSeq (by kernel_rfl) (rSeq (by kernel_rfl) (rSeq (by kernel_rfl) (rSeq (by kernel_rfl) (rSeq (by kernel_rfl) rExact (rSeq (by kernel_rfl) (rBlock (by kernel_rfl) (rLoop (by kernel_rfl) (fun m4 fr h => s_lagoonlaw6_Model_actL4 cf fuel (s_lagoonlaw6_Model_actE3 cf fuel K (getS fr (gpos 0)) (getS fr (gpos 11))) (getS fr (gpos 0)) (getS fr (gpos 8)) (getS fr (gpos 11)) m4 (getS fr (gpos 12)) h) (funext fun fr => funext fun h => by kernel_rfl) fun m4 => rCast (funext fun fr => funext fun h => by kernel_rfl) rExact)) rExact)) rExact) rExact) rExact) rExact) rExact) rExact) rExact) rExact))

noncomputable def s_lagoonlaw6_isE0 (cf : CallK) (fuel : Nat) (K : AV → Hp → Prop) (t0 : AV) (t1 : AV) : Hp → Prop := fun h =>
vLenL2 t1 h fun t46 h =>
cf f_wal_Volume_Read [t0, t46] h fun t47 h =>
vExtract 0 t47 h fun t48 h =>
vExtract 1 t47 h fun t49 h =>
vEql t49 (.int .i64 22) h fun t51 h =>
K t51 h
noncomputable def s_lagoonlaw6_isB11 (cf : CallK) (fuel : Nat) (K : AV → Hp → Prop) (ih1 : AV → Hp → Prop) (t1 : AV) (t5 : AV) (t0 : AV) (h : Hp) : Prop :=
(fun (e2 : Hp → Prop) =>
cf f_wal_Volume_Read [t0, t5] h fun t28 h =>
vExtract 0 t28 h fun t29 h =>
vExtract 1 t28 h fun t30 h =>
vNeq t30 (.int .i64 0) h fun t32 h =>
joinG (fun g10 => grdV t32 false (vMov t29 h g10) (g10 undefV h)) fun t34 h =>
joinG (fun g9 => grdV t32 false (vToStr t34 h g9) (g9 undefV h)) fun t35 h =>
joinG (fun g8 => grdV t32 false (vMov t1 h g8) (g8 undefV h)) fun t36 h =>
joinG (fun g7 => grdV t32 false (vMov t5 h g7) (g7 undefV h)) fun t37 h =>
joinG (fun g6 => grdV t32 false (vIaddr 1 t36 t37 h g6) (g6 undefV h)) fun t38 h =>
joinG (fun g5 => grdV t32 false (vLoad2 t38 h g5) (g5 undefV h)) fun t39 h =>
joinG (fun g4 => grdV t32 false (vToStr t39 h g4) (g4 undefV h)) fun t40 h =>
joinG (fun g3 => grdV t32 false (vNeq t35 t40 h g3) (g3 undefV h)) fun t41 h =>
vPick t32 (.bool .true) t41 h fun t42 h =>
vIf t42 (
K (.bool .false) h) (
e2 h)) fun h =>
vAdd t5 (.int .i64 1) h fun t24 h =>
ih1 t24 h
noncomputable def s_lagoonlaw6_isL1B (cf : CallK) (fuel : Nat) (K : AV → Hp → Prop) (e0 : Hp → Prop) (t0 : AV) (t1 : AV) (ih1 : AV → Hp → Prop) : AV → Hp → Prop := fun t5 h =>
vLenL2 t1 h fun t21 h =>
vLss t5 t21 h fun t22 h =>
vIf t22 (
s_lagoonlaw6_isB11 cf fuel K ih1 t1 t5 t0 h) (
e0 h)
noncomputable def s_lagoonlaw6_isL1 (cf : CallK) (fuel : Nat) (K : AV → Hp → Prop) (e0 : Hp → Prop) (t0 : AV) (t1 : AV) (m : Nat) : AV → Hp → Prop := Nat.rec (motive := fun _ => AV → Hp → Prop) (fun _ _ => False) (fun _ ih => s_lagoonlaw6_isL1B cf fuel K e0 t0 t1 ih) m
theorem s_lagoonlaw6_isL1_succ (cf : CallK) (fuel : Nat) (K : AV → Hp → Prop) (e0 : Hp → Prop) (t0 : AV) (t1 : AV) (m : Nat) : s_lagoonlaw6_isL1 cf fuel K e0 t0 t1 (m + 1) = s_lagoonlaw6_isL1B cf fuel K e0 t0 t1 (s_lagoonlaw6_isL1 cf fuel K e0 t0 t1 m) := rfl
noncomputable def s_lagoonlaw6_is (cf : CallK) (fuel : Nat) (t0 : AV) (t1 : AV) (h : Hp) (K : AV → Hp → Prop) : Prop :=
vEq false eqP t0 .nilptr h fun t11 h =>
joinG (fun g16 => grdV t11 false (vMov t0 h g16) (g16 undefV h)) fun t13 h =>
joinG (fun g15 => grdV t11 false (cf f_wal_Volume_Blocks [t13] h g15) (g15 undefV h)) fun t14 h =>
joinG (fun g14 => grdV t11 false (vMov t1 h g14) (g14 undefV h)) fun t15 h =>
joinG (fun g13 => grdV t11 false (vLenL2 t15 h g13) (g13 undefV h)) fun t16 h =>
joinG (fun g12 => grdV t11 false (vNeq t14 t16 h g12) (g12 undefV h)) fun t17 h =>
vPick t11 (.bool .true) t17 h fun t18 h =>
vIf t18 (
K (.bool .false) h) (
(fun (e0 : Hp → Prop) =>
s_lagoonlaw6_isL1 cf fuel K (s_lagoonlaw6_isE0 cf fuel K t0 t1) t0 t1 fuel (.int .i64 0) h) (s_lagoonlaw6_isE0 cf fuel K t0 t1))
theorem s_lagoonlaw6_is_eq (cf : CallK) (fuel : Nat) (t0 : AV) (t1 : AV) (h : Hp) (K : AV → Hp → Prop) : s_lagoonlaw6_is cf fuel t0 t1 h K = deepT (tabOf Try.prog) f_lagoonlaw6_is cf fuel [t0, t1] h K :=
  Eq.trans (by kernel_rfl) (rFun (by kernel_rfl) (rSeq (by kernel_rfl) (rSeq (by kernel_rfl) (rSeq (by kernel_rfl) rExact (rSeq (by kernel_rfl) (rBlock (by kernel_rfl) (rLoop (by kernel_rfl) (fun m1 fr h => s_lagoonlaw6_isL1 cf fuel K (s_lagoonlaw6_isE0 cf fuel K (getS fr (gpos 0)) (getS fr (gpos 1))) (getS fr (gpos 0)) (getS fr (gpos 1)) m1 (getS fr (gpos 5)) h) (funext fun fr => funext fun h => by kernel_rfl) fun m1 => rCast (funext fun fr => funext fun h => by kernel_rfl) rExact)) rExact)) rExact) rExact))

noncomputable def s_lagoonlaw6_Model_now (cf : CallK) (fuel : Nat) (t0 : AV) (h : Hp) (K : AV → Hp → Prop) : Prop :=
vNilck t0 h fun t4 h =>
vFaddr 0 t4 h fun t5 h =>
vLoad2 t5 h fun t6 h =>
vNilck t0 h fun t8 h =>
vFaddr 0 t8 h fun t9 h =>
vLoad2 t9 h fun t10 h =>
vLenL2 t10 h fun t11 h =>
vArith Go.Am.subI t11 (.int .i64 1) h fun t12 h =>
vIaddr 1 t6 t12 h fun t13 h =>
vLoad2 t13 h fun t14 h =>
K t14 h
theorem s_lagoonlaw6_Model_now_eq (cf : CallK) (fuel : Nat) (t0 : AV) (h : Hp) (K : AV → Hp → Prop) : s_lagoonlaw6_Model_now cf fuel t0 h K = deepT (tabOf Try.prog) f_lagoonlaw6_Model_now cf fuel [t0] h K :=
  Eq.trans (by kernel_rfl) (rFun (by kernel_rfl) rExact)

noncomputable def s_wal_Volume_Commits (cf : CallK) (fuel : Nat) (t0 : AV) (h : Hp) (K : AV → Hp → Prop) : Prop :=
vEq false eqP t0 .nilptr h fun t4 h =>
vIf t4 (
K (.int .i64 0) h) (
vNilck t0 h fun t6 h =>
vFaddr 3 t6 h fun t7 h =>
vLoad2 t7 h fun t8 h =>
K t8 h)
theorem s_wal_Volume_Commits_eq (cf : CallK) (fuel : Nat) (t0 : AV) (h : Hp) (K : AV → Hp → Prop) : s_wal_Volume_Commits cf fuel t0 h K = deepT (tabOf Try.prog) f_wal_Volume_Commits cf fuel [t0] h K :=
  Eq.trans (by kernel_rfl) (rFun (by kernel_rfl) rExact)

noncomputable def s_wal_Volume_SyncB3 (cf : CallK) (fuel : Nat) (K : AV → Hp → Prop) (t0 : AV) (h : Hp) : Prop :=
vNilck t0 h fun t10 h =>
vFaddr 4 t10 h fun t11 h =>
vLoad2 t11 h fun t12 h =>
joinG (fun g2 => grdV t12 true (vMov t0 h g2) (g2 undefV h)) fun t14 h =>
joinG (fun g1 => grdV t12 true (cf f_wal_Volume_keep [t14] h g1) (g1 undefV h)) fun t15 h =>
joinG (fun g0 => grdV t12 true (vNeq t15 (.int .i64 0) h g0) (g0 undefV h)) fun t16 h =>
vPick t12 t16 (.bool .false) h fun t17 h =>
vIf t17 (
vNilck t0 h fun t19 h =>
vFaddr 5 t19 h fun t20 h =>
vStore 1 t20 (.bool .true) h fun _ h =>
K (.int .i64 5) h) (
vNilck t0 h fun t22 h =>
vFaddr 4 t22 h fun t23 h =>
vStore 1 t23 (.bool .false) h fun _ h =>
K (.int .i64 0) h)
noncomputable def s_wal_Volume_Sync (cf : CallK) (fuel : Nat) (t0 : AV) (h : Hp) (K : AV → Hp → Prop) : Prop :=
vEq false eqP t0 .nilptr h fun t4 h =>
joinG (fun g5 => grdV t4 false (vMov t0 h g5) (g5 undefV h)) fun t6 h =>
joinG (fun g4 => grdV t4 false (cf f_wal_Volume_dead [t6] h g4) (g4 undefV h)) fun t7 h =>
vPick t4 (.bool .true) t7 h fun t8 h =>
vIf t8 (
K (.int .i64 5) h) (
s_wal_Volume_SyncB3 cf fuel K t0 h)
theorem s_wal_Volume_Sync_eq (cf : CallK) (fuel : Nat) (t0 : AV) (h : Hp) (K : AV → Hp → Prop) : s_wal_Volume_Sync cf fuel t0 h K = deepT (tabOf Try.prog) f_wal_Volume_Sync cf fuel [t0] h K :=
  Eq.trans (by kernel_rfl) (rFun (by kernel_rfl) rExact)

noncomputable def s_wal_MountE0 (cf : CallK) (fuel : Nat) (K : AV → Hp → Prop) (t4 : AV) : Hp → Prop := fun h =>
K (.tup [t4, (.int .i64 0)]) h
noncomputable def s_wal_MountL1B (cf : CallK) (fuel : Nat) (K : AV → Hp → Prop) (e0 : Hp → Prop) (t4 : AV) (t19 : AV) (t20 : AV) (ih1 : AV → Hp → Prop) : AV → Hp → Prop := fun t21 h =>
vLss t21 t20 h fun t22 h =>
vIf t22 (
(fun (e2 : Hp → Prop) =>
vIaddr 1 t19 t21 h fun t23 h =>
vLoad2 t23 h fun t24 h =>
vCallV t24 [] cf h fun t26 h =>
vNeq t26 (.int .i64 0) h fun t28 h =>
vIf t28 (
K (.tup [.nilptr, t26]) h) (
e2 h)) fun h =>
vAdd t21 (.int .i64 1) h fun t30 h =>
ih1 t30 h) (
e0 h)
noncomputable def s_wal_MountL1 (cf : CallK) (fuel : Nat) (K : AV → Hp → Prop) (e0 : Hp → Prop) (t4 : AV) (t19 : AV) (t20 : AV) (m : Nat) : AV → Hp → Prop := Nat.rec (motive := fun _ => AV → Hp → Prop) (fun _ _ => False) (fun _ ih => s_wal_MountL1B cf fuel K e0 t4 t19 t20 ih) m
theorem s_wal_MountL1_succ (cf : CallK) (fuel : Nat) (K : AV → Hp → Prop) (e0 : Hp → Prop) (t4 : AV) (t19 : AV) (t20 : AV) (m : Nat) : s_wal_MountL1 cf fuel K e0 t4 t19 t20 (m + 1) = s_wal_MountL1B cf fuel K e0 t4 t19 t20 (s_wal_MountL1 cf fuel K e0 t4 t19 t20 m) := rfl
noncomputable def s_wal_Mount (cf : CallK) (fuel : Nat) (t0 : AV) (h : Hp) (K : AV → Hp → Prop) : Prop :=
vBuild [.nilptr, .nilslice, (.int .i64 0), (.int .i64 0), (.bool .false), (.bool .false)] [(0, 1, t0)] h fun t9 h =>
vBox 6 t9 h fun t10 h =>
vFunc 92 [t10] [] h fun t12 h =>
vFunc 93 [t10] [] h fun t14 h =>
vFunc 94 [t10] [] h fun t16 h =>
vFunc 95 [t10] [] h fun t18 h =>
vBslice 1 4 false [.nilfunc] [(0, 1, t12), (1, 1, t14), (2, 1, t16), (3, 1, t18)] h fun t19 h =>
vLenL2 t19 h fun t20 h =>
(fun (e0 : Hp → Prop) =>
s_wal_MountL1 cf fuel K (s_wal_MountE0 cf fuel K t10) t10 t19 t20 fuel (.int .i64 0) h) (s_wal_MountE0 cf fuel K t10)
theorem s_wal_Mount_eq (cf : CallK) (fuel : Nat) (t0 : AV) (h : Hp) (K : AV → Hp → Prop) : s_wal_Mount cf fuel t0 h K = deepT (tabOf Try.prog) f_wal_Mount cf fuel [t0] h K :=
  Eq.trans (by kernel_rfl) (rFun (by kernel_rfl) (rSeq (by kernel_rfl) (rSeq (by kernel_rfl) (rSeq (by kernel_rfl) rExact (rSeq (by kernel_rfl) (rBlock (by kernel_rfl) (rLoop (by kernel_rfl) (fun m1 fr h => s_wal_MountL1 cf fuel K (s_wal_MountE0 cf fuel K (getS fr (gpos 4))) (getS fr (gpos 4)) (getS fr (gpos 19)) (getS fr (gpos 20)) m1 (getS fr (gpos 21)) h) (funext fun fr => funext fun h => by kernel_rfl) fun m1 => rCast (funext fun fr => funext fun h => by kernel_rfl) rExact)) rExact)) rExact) rExact))

noncomputable def s_device_Device_CrashE0 (cf : CallK) (fuel : Nat) (K : AV → Hp → Prop) (t5 : AV) : Hp → Prop := fun h =>
K t5 h
noncomputable def s_device_Device_CrashB9 (cf : CallK) (fuel : Nat) (ih1 : AV → Hp → Prop) (t1 : AV) (t5 : AV) (t20 : AV) (t22 : AV) (h : Hp) : Prop :=
(fun (e2 : Hp → Prop) =>
vIaddr 3 t20 t22 h fun t25 h =>
vLoadA 3 t25 h fun t26 h =>
vBox 3 (.agg [.nilslice, .nilslice, (.bool .false)]) h fun t7 h =>
vStore 3 t7 t26 h fun _ h =>
vFaddr 1 t7 h fun t27 h =>
vLoad2 t27 h fun t28 h =>
(fun (j3 : AV → Hp → Prop) =>
vFaddr 2 t7 h fun t29 h =>
vLoad2 t29 h fun t30 h =>
joinG (fun g8 => grdV t30 true (vMov t1 h g8) (g8 undefV h)) fun t32 h =>
joinG (fun g7 => grdV t30 true (vEq true eqNF t32 .nilfunc h g7) (g7 undefV h)) fun t33 h =>
vPick t30 t33 (.bool .false) h fun t34 h =>
joinG (fun g6 => grdV t34 true (vMov t1 h g6) (g6 undefV h)) fun t36 h =>
joinG (fun g5 => grdV t34 true (vMov t22 h g5) (g5 undefV h)) fun t37 h =>
joinG (fun g4 => grdV t34 true (vCallV t36 [t37] cf h g4) (g4 undefV h)) fun t38 h =>
vPick t34 t38 (.bool .false) h fun t39 h =>
vIf t39 (
vFaddr 0 t7 h fun t40 h =>
vLoad2 t40 h fun t41 h =>
j3 t41 h) (
j3 t28 h)) fun t8 h =>
vNilck t5 h fun t43 h =>
vFaddr 0 t43 h fun t44 h =>
vLoad2 t44 h fun t45 h =>
vBuild [.nilslice, .nilslice, (.bool .false)] [(0, 1, t8), (1, 1, t8)] h fun t49 h =>
vIaddr 3 t45 t22 h fun t50 h =>
vStore 3 t50 t49 h fun _ h =>
e2 h) fun h =>
vAdd t22 (.int .i64 1) h fun t51 h =>
ih1 t51 h
noncomputable def s_device_Device_CrashL1B (cf : CallK) (fuel : Nat) (e0 : Hp → Prop) (t1 : AV) (t5 : AV) (t20 : AV) (t21 : AV) (ih1 : AV → Hp → Prop) : AV → Hp → Prop := fun t22 h =>
vLss t22 t21 h fun t23 h =>
vIf t23 (
s_device_Device_CrashB9 cf fuel ih1 t1 t5 t20 t22 h) (
e0 h)
noncomputable def s_device_Device_CrashL1 (cf : CallK) (fuel : Nat) (e0 : Hp → Prop) (t1 : AV) (t5 : AV) (t20 : AV) (t21 : AV) (m : Nat) : AV → Hp → Prop := Nat.rec (motive := fun _ => AV → Hp → Prop) (fun _ _ => False) (fun _ ih => s_device_Device_CrashL1B cf fuel e0 t1 t5 t20 t21 ih) m
theorem s_device_Device_CrashL1_succ (cf : CallK) (fuel : Nat) (e0 : Hp → Prop) (t1 : AV) (t5 : AV) (t20 : AV) (t21 : AV) (m : Nat) : s_device_Device_CrashL1 cf fuel e0 t1 t5 t20 t21 (m + 1) = s_device_Device_CrashL1B cf fuel e0 t1 t5 t20 t21 (s_device_Device_CrashL1 cf fuel e0 t1 t5 t20 t21 m) := rfl
noncomputable def s_device_Device_Crash (cf : CallK) (fuel : Nat) (t0 : AV) (t1 : AV) (h : Hp) (K : AV → Hp → Prop) : Prop :=
vEq false eqP t0 .nilptr h fun t10 h =>
vIf t10 (
K .nilptr h) (
vNilck t0 h fun t12 h =>
vFaddr 0 t12 h fun t13 h =>
vLoad2 t13 h fun t14 h =>
vLenL2 t14 h fun t15 h =>
cf f_device_New [t15] h fun t16 h =>
vNilck t0 h fun t18 h =>
vFaddr 0 t18 h fun t19 h =>
vLoad2 t19 h fun t20 h =>
vLenL2 t20 h fun t21 h =>
(fun (e0 : Hp → Prop) =>
s_device_Device_CrashL1 cf fuel (s_device_Device_CrashE0 cf fuel K t16) t1 t16 t20 t21 fuel (.int .i64 0) h) (s_device_Device_CrashE0 cf fuel K t16))
theorem s_device_Device_Crash_eq (cf : CallK) (fuel : Nat) (t0 : AV) (t1 : AV) (h : Hp) (K : AV → Hp → Prop) : s_device_Device_Crash cf fuel t0 t1 h K = deepT (tabOf Try.prog) f_device_Device_Crash cf fuel [t0, t1] h K :=
  Eq.trans (by kernel_rfl) (rFun (by kernel_rfl) (rSeq (by kernel_rfl) (rSeq (by kernel_rfl) (rSeq (by kernel_rfl) (rSeq (by kernel_rfl) rExact (rSeq (by kernel_rfl) (rBlock (by kernel_rfl) (rLoop (by kernel_rfl) (fun m1 fr h => s_device_Device_CrashL1 cf fuel (s_device_Device_CrashE0 cf fuel K (getS fr (gpos 5))) (getS fr (gpos 1)) (getS fr (gpos 5)) (getS fr (gpos 20)) (getS fr (gpos 21)) m1 (getS fr (gpos 22)) h) (funext fun fr => funext fun h => by kernel_rfl) fun m1 => rCast (funext fun fr => funext fun h => by kernel_rfl) rExact)) rExact)) rExact) rExact) rExact))

noncomputable def s_wal_Volume_Blocks (cf : CallK) (fuel : Nat) (t0 : AV) (h : Hp) (K : AV → Hp → Prop) : Prop :=
vEq false eqP t0 .nilptr h fun t4 h =>
vIf t4 (
K (.int .i64 0) h) (
vNilck t0 h fun t6 h =>
vFaddr 1 t6 h fun t7 h =>
vLoad2 t7 h fun t8 h =>
vLenL2 t8 h fun t9 h =>
K t9 h)
theorem s_wal_Volume_Blocks_eq (cf : CallK) (fuel : Nat) (t0 : AV) (h : Hp) (K : AV → Hp → Prop) : s_wal_Volume_Blocks cf fuel t0 h K = deepT (tabOf Try.prog) f_wal_Volume_Blocks cf fuel [t0] h K :=
  Eq.trans (by kernel_rfl) (rFun (by kernel_rfl) rExact)

noncomputable def s_lagoonlaw1_FullE3 (cf : CallK) (fuel : Nat) (K : AV → Hp → Prop) (t5 : AV) : Hp → Prop := fun h =>
K t5 h
noncomputable def s_lagoonlaw1_FullL4B (cf : CallK) (fuel : Nat) (e3 : Hp → Prop) (t0 : AV) (t1 : AV) (t5 : AV) (ih4 : AV → Hp → Prop) : AV → Hp → Prop := fun t6 h =>
vLss t6 t1 h fun t17 h =>
joinG (fun g8 => grdV t17 true (vMov t0 h g8) (g8 undefV h)) fun t19 h =>
joinG (fun g7 => grdV t17 true (vLenL2 t19 h g7) (g7 undefV h)) fun t20 h =>
joinG (fun g6 => grdV t17 true (vGtr t20 (.int .i64 0) h g6) (g6 undefV h)) fun t21 h =>
vPick t17 t21 (.bool .false) h fun t22 h =>
vIf t22 (
(fun (e5 : Hp → Prop) =>
vLenL2 t0 h fun t30 h =>
vDiv true t6 t30 h fun t31 h =>
vIaddr 1 t0 t31 h fun t32 h =>
vLoad2 t32 h fun t33 h =>
vIaddr 1 t5 t6 h fun t34 h =>
vStore 1 t34 t33 h fun _ h =>
e5 h) fun h =>
vAdd t6 (.int .i64 1) h fun t24 h =>
ih4 t24 h) (
e3 h)
noncomputable def s_lagoonlaw1_FullL4 (cf : CallK) (fuel : Nat) (e3 : Hp → Prop) (t0 : AV) (t1 : AV) (t5 : AV) (m : Nat) : AV → Hp → Prop := Nat.rec (motive := fun _ => AV → Hp → Prop) (fun _ _ => False) (fun _ ih => s_lagoonlaw1_FullL4B cf fuel e3 t0 t1 t5 ih) m
theorem s_lagoonlaw1_FullL4_succ (cf : CallK) (fuel : Nat) (e3 : Hp → Prop) (t0 : AV) (t1 : AV) (t5 : AV) (m : Nat) : s_lagoonlaw1_FullL4 cf fuel e3 t0 t1 t5 (m + 1) = s_lagoonlaw1_FullL4B cf fuel e3 t0 t1 t5 (s_lagoonlaw1_FullL4 cf fuel e3 t0 t1 t5 m) := rfl
noncomputable def s_lagoonlaw1_Full (cf : CallK) (fuel : Nat) (t0 : AV) (t1 : AV) (h : Hp) (K : AV → Hp → Prop) : Prop :=
(fun (j0 : AV → Hp → Prop) =>
vLss t1 (.int .i64 0) h fun t8 h =>
joinG (fun g2 => grdV t8 false (vMov t1 h g2) (g2 undefV h)) fun t10 h =>
joinG (fun g1 => grdV t8 false (vGtr t10 (.int .i64 70000) h g1) (g1 undefV h)) fun t11 h =>
vPick t8 (.bool .true) t11 h fun t12 h =>
vIf t12 (
j0 (.int .i64 0) h) (
j0 t1 h)) fun t1 h =>
vMkSlice 1 1 true [(.int .u8 0)] t1 t1 h fun t14 h =>
(fun (e3 : Hp → Prop) =>
s_lagoonlaw1_FullL4 cf fuel (s_lagoonlaw1_FullE3 cf fuel K t14) t0 t1 t14 fuel (.int .i64 0) h) (s_lagoonlaw1_FullE3 cf fuel K t14)
theorem s_lagoonlaw1_Full_eq (cf : CallK) (fuel : Nat) (t0 : AV) (t1 : AV) (h : Hp) (K : AV → Hp → Prop) : s_lagoonlaw1_Full cf fuel t0 t1 h K = deepT (tabOf Try.prog) f_lagoonlaw1_Full cf fuel [t0, t1] h K :=
  Eq.trans (by kernel_rfl) (rFun (by kernel_rfl) (rSeq (by kernel_rfl) (rSeq (by kernel_rfl) (rSeq (by kernel_rfl) (rSeq (by kernel_rfl) rExact (rSeq (by kernel_rfl) (rBlock (by kernel_rfl) (rLoop (by kernel_rfl) (fun m4 fr h => s_lagoonlaw1_FullL4 cf fuel (s_lagoonlaw1_FullE3 cf fuel K (getS fr (gpos 5))) (getS fr (gpos 0)) (getS fr (gpos 1)) (getS fr (gpos 5)) m4 (getS fr (gpos 6)) h) (funext fun fr => funext fun h => by kernel_rfl) fun m4 => rCast (funext fun fr => funext fun h => by kernel_rfl) rExact)) rExact)) rExact) rExact) rExact))

noncomputable def s_wal_Volume_CommitE1 (cf : CallK) (fuel : Nat) (K : AV → Hp → Prop) (t0 : AV) : Hp → Prop := fun h =>
vNilck t0 h fun t40 h =>
vFaddr 3 t40 h fun t41 h =>
vLoad2 t41 h fun t42 h =>
vAdd t42 (.int .i64 1) h fun t43 h =>
vNilck t0 h fun t44 h =>
vFaddr 3 t44 h fun t45 h =>
vStore 1 t45 t43 h fun _ h =>
vNilck t0 h fun t47 h =>
vFaddr 4 t47 h fun t48 h =>
vStore 1 t48 (.bool .true) h fun _ h =>
K (.int .i64 0) h
noncomputable def s_wal_Volume_CommitB4 (cf : CallK) (fuel : Nat) (ih2 : AV → Hp → Prop) (t0 : AV) (t22 : AV) (t24 : AV) (h : Hp) : Prop :=
(fun (e3 : Hp → Prop) =>
vIaddr 2 t22 t24 h fun t26 h =>
vLoadA 2 t26 h fun t27 h =>
vBox 2 (.agg [(.int .i64 0), .nilslice]) h fun t6 h =>
vStore 2 t6 t27 h fun _ h =>
vNilck t0 h fun t29 h =>
vFaddr 1 t29 h fun t30 h =>
vLoad2 t30 h fun t31 h =>
vFaddr 0 t6 h fun t32 h =>
vLoad2 t32 h fun t33 h =>
vFaddr 1 t6 h fun t34 h =>
vLoad2 t34 h fun t35 h =>
cf f_bytes_Clone [t35] h fun t36 h =>
vLoad2 t30 h fun c _ => gd (sameV c t31) (
vLoad2 t32 h fun c _ => gd (sameV c t33) (
vIaddr 1 t31 t33 h fun t37 h =>
vStore 1 t37 t36 h fun _ h =>
e3 h))) fun h =>
vAdd t24 (.int .i64 1) h fun t38 h =>
ih2 t38 h
noncomputable def s_wal_Volume_CommitL2B (cf : CallK) (fuel : Nat) (e1 : Hp → Prop) (t0 : AV) (t22 : AV) (t23 : AV) (ih2 : AV → Hp → Prop) : AV → Hp → Prop := fun t24 h =>
vLss t24 t23 h fun t25 h =>
vIf t25 (
s_wal_Volume_CommitB4 cf fuel ih2 t0 t22 t24 h) (
e1 h)
noncomputable def s_wal_Volume_CommitL2 (cf : CallK) (fuel : Nat) (e1 : Hp → Prop) (t0 : AV) (t22 : AV) (t23 : AV) (m : Nat) : AV → Hp → Prop := Nat.rec (motive := fun _ => AV → Hp → Prop) (fun _ _ => False) (fun _ ih => s_wal_Volume_CommitL2B cf fuel e1 t0 t22 t23 ih) m
theorem s_wal_Volume_CommitL2_succ (cf : CallK) (fuel : Nat) (e1 : Hp → Prop) (t0 : AV) (t22 : AV) (t23 : AV) (m : Nat) : s_wal_Volume_CommitL2 cf fuel e1 t0 t22 t23 (m + 1) = s_wal_Volume_CommitL2B cf fuel e1 t0 t22 t23 (s_wal_Volume_CommitL2 cf fuel e1 t0 t22 t23 m) := rfl
noncomputable def s_wal_Volume_Commit (cf : CallK) (fuel : Nat) (t0 : AV) (t1 : AV) (h : Hp) (K : AV → Hp → Prop) : Prop :=
(fun (e0 : Hp → Prop) =>
vEq false eqP t0 .nilptr h fun t9 h =>
vIf t9 (
K (.int .i64 5) h) (
cf f_wal_Volume_may [t0, t1] h fun t13 h =>
vNot t13 h fun t14 h =>
vIf t14 (
K (.int .i64 22) h) (
vLenL2 t1 h fun t17 h =>
vEql t17 (.int .i64 0) h fun t18 h =>
vIf t18 (
K (.int .i64 0) h) (
cf f_wal_Volume_dead [t0] h fun t21 h =>
vIf t21 (
K (.int .i64 5) h) (
e0 h))))) fun h =>
vLenL2 t1 h fun t23 h =>
(fun (e1 : Hp → Prop) =>
s_wal_Volume_CommitL2 cf fuel (s_wal_Volume_CommitE1 cf fuel K t0) t0 t1 t23 fuel (.int .i64 0) h) (s_wal_Volume_CommitE1 cf fuel K t0)
theorem s_wal_Volume_Commit_eq (cf : CallK) (fuel : Nat) (t0 : AV) (t1 : AV) (h : Hp) (K : AV → Hp → Prop) : s_wal_Volume_Commit cf fuel t0 t1 h K = deepT (tabOf Try.prog) f_wal_Volume_Commit cf fuel [t0, t1] h K :=
  Eq.trans (by kernel_rfl) (rFun (by kernel_rfl) (rSeq (by kernel_rfl) (rSeq (by kernel_rfl) (rSeq (by kernel_rfl) rExact (rSeq (by kernel_rfl) (rBlock (by kernel_rfl) (rLoop (by kernel_rfl) (fun m2 fr h => s_wal_Volume_CommitL2 cf fuel (s_wal_Volume_CommitE1 cf fuel K (getS fr (gpos 0))) (getS fr (gpos 0)) (getS fr (gpos 22)) (getS fr (gpos 23)) m2 (getS fr (gpos 24)) h) (funext fun fr => funext fun h => by kernel_rfl) fun m2 => rCast (funext fun fr => funext fun h => by kernel_rfl) rExact)) rExact)) rExact) rExact))

noncomputable def s_clock_Cmp (cf : CallK) (fuel : Nat) (t0 : AV) (t1 : AV) (h : Hp) (K : AV → Hp → Prop) : Prop :=
vBox 2 t0 h fun t2 h =>
vBox 2 t1 h fun t3 h =>
vFaddr 0 t2 h fun t6 h =>
vLoad2 t6 h fun t7 h =>
vFaddr 0 t3 h fun t8 h =>
vLoad2 t8 h fun t9 h =>
cf f_cmp_Compare_int64 [t7, t9] h fun t10 h =>
vNeq t10 (.int .i64 0) h fun t12 h =>
vIf t12 (
K t10 h) (
vFaddr 1 t2 h fun t14 h =>
vLoad2 t14 h fun t15 h =>
vFaddr 1 t3 h fun t16 h =>
vLoad2 t16 h fun t17 h =>
cf f_cmp_Compare_int [t15, t17] h fun t18 h =>
K t18 h)
theorem s_clock_Cmp_eq (cf : CallK) (fuel : Nat) (t0 : AV) (t1 : AV) (h : Hp) (K : AV → Hp → Prop) : s_clock_Cmp cf fuel t0 t1 h K = deepT (tabOf Try.prog) f_clock_Cmp cf fuel [t0, t1] h K :=
  Eq.trans (by kernel_rfl) (rFun (by kernel_rfl) rExact)

noncomputable def s_lagoonref4_Eq (cf : CallK) (fuel : Nat) (t0 : AV) (t1 : AV) (h : Hp) (K : AV → Hp → Prop) : Prop :=
cf f_lagoonref4_Leq [t0, t1] h fun t7 h =>
joinG (fun g2 => grdV t7 true (vMov t1 h g2) (g2 undefV h)) fun t9 h =>
joinG (fun g1 => grdV t7 true (vMov t0 h g1) (g1 undefV h)) fun t10 h =>
joinG (fun g0 => grdV t7 true (cf f_lagoonref4_Leq [t9, t10] h g0) (g0 undefV h)) fun t11 h =>
vPick t7 t11 (.bool .false) h fun t12 h =>
K t12 h
theorem s_lagoonref4_Eq_eq (cf : CallK) (fuel : Nat) (t0 : AV) (t1 : AV) (h : Hp) (K : AV → Hp → Prop) : s_lagoonref4_Eq cf fuel t0 t1 h K = deepT (tabOf Try.prog) f_lagoonref4_Eq cf fuel [t0, t1] h K :=
  Eq.trans (by kernel_rfl) (rFun (by kernel_rfl) rExact)

noncomputable def s_bytes_Clone (cf : CallK) (fuel : Nat) (t0 : AV) (h : Hp) (K : AV → Hp → Prop) : Prop :=
vEq false eqNS t0 .nilslice h fun t4 h =>
vIf t4 (
K .nilslice h) (
vBslice 1 0 true [(.int .u8 0)] [] h fun t5 h =>
vAppend2 1 1 true t5 t0 h fun t7 h =>
K t7 h)
theorem s_bytes_Clone_eq (cf : CallK) (fuel : Nat) (t0 : AV) (h : Hp) (K : AV → Hp → Prop) : s_bytes_Clone cf fuel t0 h K = deepT (tabOf Try.prog) f_bytes_Clone cf fuel [t0] h K :=
  Eq.trans (by kernel_rfl) (rFun (by kernel_rfl) rExact)

noncomputable def s_vector_At (cf : CallK) (fuel : Nat) (t0 : AV) (t1 : AV) (h : Hp) (K : AV → Hp → Prop) : Prop :=
vLss t1 (.int .i64 0) h fun t6 h =>
joinG (fun g14 => grdV t6 false (vMov t1 h g14) (g14 undefV h)) fun t8 h =>
joinG (fun g13 => grdV t6 false (vMov t0 h g13) (g13 undefV h)) fun t9 h =>
joinG (fun g12 => grdV t6 false (vLenL2 t9 h g12) (g12 undefV h)) fun t10 h =>
joinG (fun g11 => grdV t6 false (vMin false t10 (.int .i64 64) h g11) (g11 undefV h)) fun t11 h =>
joinG (fun g10 => grdV t6 false (vGeq t8 t11 h g10) (g10 undefV h)) fun t12 h =>
vPick t6 (.bool .true) t12 h fun t13 h =>
joinG (fun g9 => grdV t13 false (vMov t0 h g9) (g9 undefV h)) fun t15 h =>
joinG (fun g8 => grdV t13 false (vMov t1 h g8) (g8 undefV h)) fun t16 h =>
joinG (fun g7 => grdV t13 false (vIaddr 1 t15 t16 h g7) (g7 undefV h)) fun t17 h =>
joinG (fun g6 => grdV t13 false (vLoad2 t17 h g6) (g6 undefV h)) fun t18 h =>
joinG (fun g5 => grdV t13 false (vLss t18 (.int .i64 0) h g5) (g5 undefV h)) fun t19 h =>
vPick t13 (.bool .true) t19 h fun t20 h =>
joinG (fun g4 => grdV t20 false (vMov t0 h g4) (g4 undefV h)) fun t22 h =>
joinG (fun g3 => grdV t20 false (vMov t1 h g3) (g3 undefV h)) fun t23 h =>
joinG (fun g2 => grdV t20 false (vIaddr 1 t22 t23 h g2) (g2 undefV h)) fun t24 h =>
joinG (fun g1 => grdV t20 false (vLoad2 t24 h g1) (g1 undefV h)) fun t25 h =>
joinG (fun g0 => grdV t20 false (vGtr t25 (.int .i64 1152921504606846976) h g0) (g0 undefV h)) fun t26 h =>
vPick t20 (.bool .true) t26 h fun t27 h =>
vIf t27 (
K (.int .i64 0) h) (
vIaddr 1 t0 t1 h fun t30 h =>
vLoad2 t30 h fun t31 h =>
K t31 h)
theorem s_vector_At_eq (cf : CallK) (fuel : Nat) (t0 : AV) (t1 : AV) (h : Hp) (K : AV → Hp → Prop) : s_vector_At cf fuel t0 t1 h K = deepT (tabOf Try.prog) f_vector_At cf fuel [t0, t1] h K :=
  Eq.trans (by kernel_rfl) (rFun (by kernel_rfl) rExact)

noncomputable def s_device_New (cf : CallK) (fuel : Nat) (t0 : AV) (h : Hp) (K : AV → Hp → Prop) : Prop :=
vLss t0 (.int .i64 1) h fun t4 h =>
joinG (fun g1 => grdV t4 false (vMov t0 h g1) (g1 undefV h)) fun t6 h =>
joinG (fun g0 => grdV t4 false (vGtr t6 (.int .i64 65536) h g0) (g0 undefV h)) fun t7 h =>
vPick t4 (.bool .true) t7 h fun t8 h =>
vIf t8 (
K .nilptr h) (
vMkSlice 3 56 false [.nilslice, .nilslice, (.bool .false)] t0 t0 h fun t10 h =>
vBuild [.nilslice, (.bool .false), (.int .i64 0), (.bool .false), (.int .i64 0)] [(0, 1, t10)] h fun t11 h =>
vBox 5 t11 h fun t12 h =>
K t12 h)
theorem s_device_New_eq (cf : CallK) (fuel : Nat) (t0 : AV) (h : Hp) (K : AV → Hp → Prop) : s_device_New cf fuel t0 h K = deepT (tabOf Try.prog) f_device_New cf fuel [t0] h K :=
  Eq.trans (by kernel_rfl) (rFun (by kernel_rfl) rExact)

noncomputable def s_wal_FormatE2 (cf : CallK) (fuel : Nat) (K : AV → Hp → Prop) : Hp → Prop := fun h =>
K (.int .i64 0) h
noncomputable def s_wal_FormatL3B (cf : CallK) (fuel : Nat) (K : AV → Hp → Prop) (e2 : Hp → Prop) (t52 : AV) (t53 : AV) (ih3 : AV → Hp → Prop) : AV → Hp → Prop := fun t54 h =>
vLss t54 t53 h fun t55 h =>
vIf t55 (
(fun (e4 : Hp → Prop) =>
vIaddr 1 t52 t54 h fun t56 h =>
vLoad2 t56 h fun t57 h =>
vNeq t57 (.int .i64 0) h fun t59 h =>
vIf t59 (
K t57 h) (
e4 h)) fun h =>
vAdd t54 (.int .i64 1) h fun t61 h =>
ih3 t61 h) (
e2 h)
noncomputable def s_wal_FormatL3 (cf : CallK) (fuel : Nat) (K : AV → Hp → Prop) (e2 : Hp → Prop) (t52 : AV) (t53 : AV) (m : Nat) : AV → Hp → Prop := Nat.rec (motive := fun _ => AV → Hp → Prop) (fun _ _ => False) (fun _ ih => s_wal_FormatL3B cf fuel K e2 t52 t53 ih) m
theorem s_wal_FormatL3_succ (cf : CallK) (fuel : Nat) (K : AV → Hp → Prop) (e2 : Hp → Prop) (t52 : AV) (t53 : AV) (m : Nat) : s_wal_FormatL3 cf fuel K e2 t52 t53 (m + 1) = s_wal_FormatL3B cf fuel K e2 t52 t53 (s_wal_FormatL3 cf fuel K e2 t52 t53 m) := rfl
noncomputable def s_wal_FormatE1 (cf : CallK) (fuel : Nat) (K : AV → Hp → Prop) (t0 : AV) : Hp → Prop := fun h =>
cf f_device_Device_Flush [t0] h fun t46 h =>
cf f_wal_head [(.int .i64 0), (.int .i64 0)] h fun t48 h =>
cf f_device_Device_Write [t0, (.int .i64 0), t48] h fun t49 h =>
cf f_device_Device_Flush [t0] h fun t51 h =>
vBslice 1 3 false [(.int .i64 0)] [(0, 1, t46), (1, 1, t49), (2, 1, t51)] h fun t52 h =>
vLenL2 t52 h fun t53 h =>
(fun (e2 : Hp → Prop) =>
s_wal_FormatL3 cf fuel K (s_wal_FormatE2 cf fuel K) t52 t53 fuel (.int .i64 0) h) (s_wal_FormatE2 cf fuel K)
noncomputable def s_wal_FormatL5B (cf : CallK) (fuel : Nat) (K : AV → Hp → Prop) (e1 : Hp → Prop) (t0 : AV) (t3 : AV) (t32 : AV) (ih5 : AV → Hp → Prop) : AV → Hp → Prop := fun t33 h =>
vLss t33 t32 h fun t34 h =>
vIf t34 (
(fun (e6 : Hp → Prop) =>
vAdd (.int .i64 8) t33 h fun t38 h =>
cf f_wal_wrote [t0, t38, t3] h fun t40 h =>
vNeq t40 (.int .i64 0) h fun t42 h =>
vIf t42 (
K t40 h) (
e6 h)) fun h =>
vAdd t33 (.int .i64 1) h fun t44 h =>
ih5 t44 h) (
e1 h)
noncomputable def s_wal_FormatL5 (cf : CallK) (fuel : Nat) (K : AV → Hp → Prop) (e1 : Hp → Prop) (t0 : AV) (t3 : AV) (t32 : AV) (m : Nat) : AV → Hp → Prop := Nat.rec (motive := fun _ => AV → Hp → Prop) (fun _ _ => False) (fun _ ih => s_wal_FormatL5B cf fuel K e1 t0 t3 t32 ih) m
theorem s_wal_FormatL5_succ (cf : CallK) (fuel : Nat) (K : AV → Hp → Prop) (e1 : Hp → Prop) (t0 : AV) (t3 : AV) (t32 : AV) (m : Nat) : s_wal_FormatL5 cf fuel K e1 t0 t3 t32 (m + 1) = s_wal_FormatL5B cf fuel K e1 t0 t3 t32 (s_wal_FormatL5 cf fuel K e1 t0 t3 t32 m) := rfl
noncomputable def s_wal_FormatE0 (cf : CallK) (fuel : Nat) (K : AV → Hp → Prop) (t0 : AV) (t3 : AV) : Hp → Prop := fun h =>
cf f_device_Device_Flush [t0] h fun t27 h =>
vNeq t27 (.int .i64 0) h fun t29 h =>
vIf t29 (
K t27 h) (
cf f_wal_room [t0] h fun t32 h =>
(fun (e1 : Hp → Prop) =>
s_wal_FormatL5 cf fuel K (s_wal_FormatE1 cf fuel K t0) t0 t3 t32 fuel (.int .i64 0) h) (s_wal_FormatE1 cf fuel K t0))
noncomputable def s_wal_FormatL7B (cf : CallK) (fuel : Nat) (K : AV → Hp → Prop) (e0 : Hp → Prop) (t0 : AV) (t3 : AV) (ih7 : AV → Hp → Prop) : AV → Hp → Prop := fun t15 h =>
vLss t15 (.int .i64 2) h fun t16 h =>
vIf t16 (
(fun (e8 : Hp → Prop) =>
cf f_wal_wrote [t0, t15, t3] h fun t21 h =>
vNeq t21 (.int .i64 0) h fun t23 h =>
vIf t23 (
K t21 h) (
e8 h)) fun h =>
vAdd t15 (.int .i64 1) h fun t25 h =>
ih7 t25 h) (
e0 h)
noncomputable def s_wal_FormatL7 (cf : CallK) (fuel : Nat) (K : AV → Hp → Prop) (e0 : Hp → Prop) (t0 : AV) (t3 : AV) (m : Nat) : AV → Hp → Prop := Nat.rec (motive := fun _ => AV → Hp → Prop) (fun _ _ => False) (fun _ ih => s_wal_FormatL7B cf fuel K e0 t0 t3 ih) m
theorem s_wal_FormatL7_succ (cf : CallK) (fuel : Nat) (K : AV → Hp → Prop) (e0 : Hp → Prop) (t0 : AV) (t3 : AV) (m : Nat) : s_wal_FormatL7 cf fuel K e0 t0 t3 (m + 1) = s_wal_FormatL7B cf fuel K e0 t0 t3 (s_wal_FormatL7 cf fuel K e0 t0 t3 m) := rfl
noncomputable def s_wal_Format (cf : CallK) (fuel : Nat) (t0 : AV) (h : Hp) (K : AV → Hp → Prop) : Prop :=
cf f_wal_room [t0] h fun t12 h =>
vEql t12 (.int .i64 0) h fun t13 h =>
vIf t13 (
K (.int .i64 22) h) (
vMkSlice 1 1 true [(.int .u8 0)] (.int .i64 512) (.int .i64 512) h fun t14 h =>
(fun (e0 : Hp → Prop) =>
s_wal_FormatL7 cf fuel K (s_wal_FormatE0 cf fuel K t0 t14) t0 t14 fuel (.int .i64 0) h) (s_wal_FormatE0 cf fuel K t0 t14))
theorem s_wal_Format_eq (cf : CallK) (fuel : Nat) (t0 : AV) (h : Hp) (K : AV → Hp → Prop) : s_wal_Format cf fuel t0 h K = deepT (tabOf Try.prog) f_wal_Format cf fuel [t0] h K :=
  Eq.trans (by kernel_rfl) (rFun (by kernel_rfl) (rSeq (by kernel_rfl) (rSeq (by kernel_rfl) (rSeq (by kernel_rfl) (rSeq (by kernel_rfl) (rSeq (by kernel_rfl) (rSeq (by kernel_rfl) (rSeq (by kernel_rfl) rExact (rSeq (by kernel_rfl) (rBlock (by kernel_rfl) (rLoop (by kernel_rfl) (fun m3 fr h => s_wal_FormatL3 cf fuel K (s_wal_FormatE2 cf fuel K) (getS fr (gpos 52)) (getS fr (gpos 53)) m3 (getS fr (gpos 54)) h) (funext fun fr => funext fun h => by kernel_rfl) fun m3 => rCast (funext fun fr => funext fun h => by kernel_rfl) rExact)) rExact)) (rSeq (by kernel_rfl) (rBlock (by kernel_rfl) (rLoop (by kernel_rfl) (fun m5 fr h => s_wal_FormatL5 cf fuel K (s_wal_FormatE1 cf fuel K (getS fr (gpos 0))) (getS fr (gpos 0)) (getS fr (gpos 3)) (getS fr (gpos 32)) m5 (getS fr (gpos 33)) h) (funext fun fr => funext fun h => by kernel_rfl) fun m5 => rCast (funext fun fr => funext fun h => by kernel_rfl) rExact)) rExact)) rExact) (rSeq (by kernel_rfl) (rBlock (by kernel_rfl) (rLoop (by kernel_rfl) (fun m7 fr h => s_wal_FormatL7 cf fuel K (s_wal_FormatE0 cf fuel K (getS fr (gpos 0)) (getS fr (gpos 3))) (getS fr (gpos 0)) (getS fr (gpos 3)) m7 (getS fr (gpos 15)) h) (funext fun fr => funext fun h => by kernel_rfl) fun m7 => rCast (funext fun fr => funext fun h => by kernel_rfl) rExact)) rExact)) rExact) rExact) rExact))

noncomputable def s_wal_Volume_Read (cf : CallK) (fuel : Nat) (t0 : AV) (t1 : AV) (h : Hp) (K : AV → Hp → Prop) : Prop :=
vLss t1 (.int .i64 0) h fun t7 h =>
joinG (fun g3 => grdV t7 false (vMov t1 h g3) (g3 undefV h)) fun t9 h =>
joinG (fun g2 => grdV t7 false (vMov t0 h g2) (g2 undefV h)) fun t10 h =>
joinG (fun g1 => grdV t7 false (cf f_wal_Volume_Blocks [t10] h g1) (g1 undefV h)) fun t11 h =>
joinG (fun g0 => grdV t7 false (vGeq t9 t11 h g0) (g0 undefV h)) fun t12 h =>
vPick t7 (.bool .true) t12 h fun t13 h =>
vIf t13 (
K (.tup [.nilslice, (.int .i64 22)]) h) (
vNilck t0 h fun t15 h =>
vFaddr 1 t15 h fun t16 h =>
vLoad2 t16 h fun t17 h =>
vIaddr 1 t17 t1 h fun t19 h =>
vLoad2 t19 h fun t20 h =>
cf f_bytes_Clone [t20] h fun t21 h =>
K (.tup [t21, (.int .i64 0)]) h)
theorem s_wal_Volume_Read_eq (cf : CallK) (fuel : Nat) (t0 : AV) (t1 : AV) (h : Hp) (K : AV → Hp → Prop) : s_wal_Volume_Read cf fuel t0 t1 h K = deepT (tabOf Try.prog) f_wal_Volume_Read cf fuel [t0, t1] h K :=
  Eq.trans (by kernel_rfl) (rFun (by kernel_rfl) rExact)

noncomputable def s_lagoonlaw6_putsE0 (cf : CallK) (fuel : Nat) (K : AV → Hp → Prop) : AV → AV → Hp → Prop := fun t6 t7 h =>
K (.tup [t6, t7]) h
noncomputable def s_lagoonlaw6_putsB19 (cf : CallK) (fuel : Nat) (ih1 : AV → AV → AV → Hp → Prop) (t0 : AV) (t8 : AV) (t1 : AV) (t6 : AV) (t7 : AV) (h : Hp) : Prop :=
(fun (e2 : AV → AV → Hp → Prop) =>
(fun (j3 : AV → Hp → Prop) =>
vIaddr 3 t0 t8 h fun t22 h =>
vFaddr 2 t22 h fun t23 h =>
vLoad2 t23 h fun t24 h =>
vIf t24 (
j3 (.int .i64 100) h) (
j3 (.int .i64 512) h)) fun t9 h =>
vIaddr 3 t0 t8 h fun t28 h =>
vFaddr 0 t28 h fun t29 h =>
vLoad2 t29 h fun t30 h =>
vIaddr 3 t0 t8 h fun t33 h =>
vFaddr 1 t33 h fun t34 h =>
vLoad2 t34 h fun t35 h =>
cf f_lagoonlaw1_Full [t35, t9] h fun t37 h =>
vLoad2 t29 h fun c _ => gd (sameV c t30) (
vBuild [(.int .i64 0), .nilslice] [(0, 1, t30), (1, 1, t37)] h fun t38 h =>
vBslice 2 1 false [(.int .i64 0), .nilslice] [(0, 2, t38)] h fun t39 h =>
vAppend2 2 32 false t6 t39 h fun t40 h =>
joinG (fun g18 => grdV t7 true (vMov t0 h g18) (g18 undefV h)) fun t43 h =>
joinG (fun g17 => grdV t7 true (vMov t8 h g17) (g17 undefV h)) fun t44 h =>
joinG (fun g16 => grdV t7 true (vIaddr 3 t43 t44 h g16) (g16 undefV h)) fun t45 h =>
joinG (fun g15 => grdV t7 true (vFaddr 0 t45 h g15) (g15 undefV h)) fun t46 h =>
joinG (fun g14 => grdV t7 true (vLoad2 t46 h g14) (g14 undefV h)) fun t47 h =>
joinG (fun g13 => grdV t7 true (vGeq t47 (.int .i64 0) h g13) (g13 undefV h)) fun t48 h =>
vPick t7 t48 (.bool .false) h fun t49 h =>
joinG (fun g12 => grdV t49 true (vMov t0 h g12) (g12 undefV h)) fun t51 h =>
joinG (fun g11 => grdV t49 true (vMov t8 h g11) (g11 undefV h)) fun t52 h =>
joinG (fun g10 => grdV t49 true (vIaddr 3 t51 t52 h g10) (g10 undefV h)) fun t53 h =>
joinG (fun g9 => grdV t49 true (vFaddr 0 t53 h g9) (g9 undefV h)) fun t54 h =>
joinG (fun g8 => grdV t49 true (vLoad2 t54 h g8) (g8 undefV h)) fun t55 h =>
joinG (fun g7 => grdV t49 true (vMov t1 h g7) (g7 undefV h)) fun t56 h =>
joinG (fun g6 => grdV t49 true (vLss t55 t56 h g6) (g6 undefV h)) fun t57 h =>
vPick t49 t57 (.bool .false) h fun t58 h =>
joinG (fun g5 => grdV t58 true (vMov t9 h g5) (g5 undefV h)) fun t60 h =>
joinG (fun g4 => grdV t58 true (vEql t60 (.int .i64 512) h g4) (g4 undefV h)) fun t61 h =>
vPick t58 t61 (.bool .false) h fun t62 h =>
e2 t40 t62 h)) fun t6 t7 h =>
vAdd t8 (.int .i64 1) h fun t19 h =>
ih1 t6 t7 t19 h
noncomputable def s_lagoonlaw6_putsL1B (cf : CallK) (fuel : Nat) (e0 : AV → AV → Hp → Prop) (t0 : AV) (t1 : AV) (ih1 : AV → AV → AV → Hp → Prop) : AV → AV → AV → Hp → Prop := fun t6 t7 t8 h =>
vLenL2 t0 h fun t16 h =>
vLss t8 t16 h fun t17 h =>
vIf t17 (
s_lagoonlaw6_putsB19 cf fuel ih1 t0 t8 t1 t6 t7 h) (
e0 t6 t7 h)
noncomputable def s_lagoonlaw6_putsL1 (cf : CallK) (fuel : Nat) (e0 : AV → AV → Hp → Prop) (t0 : AV) (t1 : AV) (m : Nat) : AV → AV → AV → Hp → Prop := Nat.rec (motive := fun _ => AV → AV → AV → Hp → Prop) (fun _ _ _ _ => False) (fun _ ih => s_lagoonlaw6_putsL1B cf fuel e0 t0 t1 ih) m
theorem s_lagoonlaw6_putsL1_succ (cf : CallK) (fuel : Nat) (e0 : AV → AV → Hp → Prop) (t0 : AV) (t1 : AV) (m : Nat) : s_lagoonlaw6_putsL1 cf fuel e0 t0 t1 (m + 1) = s_lagoonlaw6_putsL1B cf fuel e0 t0 t1 (s_lagoonlaw6_putsL1 cf fuel e0 t0 t1 m) := rfl
noncomputable def s_lagoonlaw6_puts (cf : CallK) (fuel : Nat) (t0 : AV) (t1 : AV) (h : Hp) (K : AV → Hp → Prop) : Prop :=
vLenL2 t0 h fun t11 h =>
vLeq t11 t1 h fun t13 h =>
(fun (e0 : AV → AV → Hp → Prop) =>
s_lagoonlaw6_putsL1 cf fuel (s_lagoonlaw6_putsE0 cf fuel K) t0 t1 fuel .nilslice t13 (.int .i64 0) h) (s_lagoonlaw6_putsE0 cf fuel K)
theorem s_lagoonlaw6_puts_eq (cf : CallK) (fuel : Nat) (t0 : AV) (t1 : AV) (h : Hp) (K : AV → Hp → Prop) : s_lagoonlaw6_puts cf fuel t0 t1 h K = deepT (tabOf Try.prog) f_lagoonlaw6_puts cf fuel [t0, t1] h K :=
  Eq.trans (by kernel_rfl) (rFun (by kernel_rfl) (rSeq (by kernel_rfl) (rSeq (by kernel_rfl) (rSeq (by kernel_rfl) (rSeq (by kernel_rfl) rExact (rSeq (by kernel_rfl) (rBlock (by kernel_rfl) (rLoop (by kernel_rfl) (fun m1 fr h => s_lagoonlaw6_putsL1 cf fuel (s_lagoonlaw6_putsE0 cf fuel K) (getS fr (gpos 0)) (getS fr (gpos 1)) m1 (getS fr (gpos 6)) (getS fr (gpos 7)) (getS fr (gpos 8)) h) (funext fun fr => funext fun h => by kernel_rfl) fun m1 => rCast (funext fun fr => funext fun h => by kernel_rfl) rExact)) rExact)) rExact) rExact) rExact))

noncomputable def s_wal_Volume_dead (cf : CallK) (fuel : Nat) (t0 : AV) (h : Hp) (K : AV → Hp → Prop) : Prop :=
vNilck t0 h fun t5 h =>
vFaddr 5 t5 h fun t6 h =>
vLoad2 t6 h fun t7 h =>
joinG (fun g4 => grdV t7 false (vMov t0 h g4) (g4 undefV h)) fun t9 h =>
joinG (fun g3 => grdV t7 false (vNilck t9 h g3) (g3 undefV h)) fun t10 h =>
joinG (fun g2 => grdV t7 false (vFaddr 0 t10 h g2) (g2 undefV h)) fun t11 h =>
joinG (fun g1 => grdV t7 false (vLoad2 t11 h g1) (g1 undefV h)) fun t12 h =>
joinG (fun g0 => grdV t7 false (cf f_device_Device_Dead [t12] h g0) (g0 undefV h)) fun t13 h =>
vPick t7 (.bool .true) t13 h fun t14 h =>
vNilck t0 h fun t15 h =>
vFaddr 5 t15 h fun t16 h =>
vStore 1 t16 t14 h fun _ h =>
vNilck t0 h fun t18 h =>
vFaddr 5 t18 h fun t19 h =>
vLoad2 t19 h fun t20 h =>
K t20 h
theorem s_wal_Volume_dead_eq (cf : CallK) (fuel : Nat) (t0 : AV) (h : Hp) (K : AV → Hp → Prop) : s_wal_Volume_dead cf fuel t0 h K = deepT (tabOf Try.prog) f_wal_Volume_dead cf fuel [t0] h K :=
  Eq.trans (by kernel_rfl) (rFun (by kernel_rfl) rExact)

noncomputable def s_wal_Volume_keepB1 (cf : CallK) (fuel : Nat) (K : AV → Hp → Prop) (t0 : AV) (t3 : AV) (h : Hp) : Prop :=
vNilck t0 h fun t48 h =>
vFaddr 0 t48 h fun t49 h =>
vLoad2 t49 h fun t50 h =>
vDiv true t3 (.int .i64 2) h fun t52 h =>
vNilck t0 h fun t55 h =>
vFaddr 3 t55 h fun t56 h =>
vLoad2 t56 h fun t57 h =>
cf f_wal_head [t3, t57] h fun t58 h =>
vLoad2 t49 h fun c _ => gd (sameV c t50) (
cf f_device_Device_Write [t50, t52, t58] h fun t59 h =>
vNeq t59 (.int .i64 0) h fun t61 h =>
vIf t61 (
K t59 h) (
vNilck t0 h fun t64 h =>
vFaddr 0 t64 h fun t65 h =>
vLoad2 t65 h fun t66 h =>
cf f_device_Device_Flush [t66] h fun t67 h =>
vNilck t0 h fun t70 h =>
vFaddr 2 t70 h fun t71 h =>
vStore 1 t71 t3 h fun _ h =>
K t67 h))
noncomputable def s_wal_Volume_keepE0 (cf : CallK) (fuel : Nat) (K : AV → Hp → Prop) (t0 : AV) (t3 : AV) : Hp → Prop := fun h =>
vNilck t0 h fun t40 h =>
vFaddr 0 t40 h fun t41 h =>
vLoad2 t41 h fun t42 h =>
cf f_device_Device_Flush [t42] h fun t43 h =>
vNeq t43 (.int .i64 0) h fun t45 h =>
vIf t45 (
K t43 h) (
s_wal_Volume_keepB1 cf fuel K t0 t3 h)
noncomputable def s_wal_Volume_keepB4 (cf : CallK) (fuel : Nat) (K : AV → Hp → Prop) (ih2 : AV → Hp → Prop) (t0 : AV) (t3 : AV) (t18 : AV) (t20 : AV) (h : Hp) : Prop :=
(fun (e3 : Hp → Prop) =>
vIaddr 1 t18 t20 h fun t23 h =>
vLoad2 t23 h fun t24 h =>
vNilck t0 h fun t26 h =>
vFaddr 0 t26 h fun t27 h =>
vLoad2 t27 h fun t28 h =>
cf f_wal_Volume_at [t0, t3, t20] h fun t32 h =>
vLoad2 t27 h fun c _ => gd (sameV c t28) (
cf f_wal_wrote [t28, t32, t24] h fun t34 h =>
vNeq t34 (.int .i64 0) h fun t36 h =>
vIf t36 (
K t34 h) (
e3 h))) fun h =>
vAdd t20 (.int .i64 1) h fun t38 h =>
ih2 t38 h
noncomputable def s_wal_Volume_keepL2B (cf : CallK) (fuel : Nat) (K : AV → Hp → Prop) (e0 : Hp → Prop) (t0 : AV) (t3 : AV) (t18 : AV) (t19 : AV) (ih2 : AV → Hp → Prop) : AV → Hp → Prop := fun t20 h =>
vLss t20 t19 h fun t21 h =>
vIf t21 (
s_wal_Volume_keepB4 cf fuel K ih2 t0 t3 t18 t20 h) (
e0 h)
noncomputable def s_wal_Volume_keepL2 (cf : CallK) (fuel : Nat) (K : AV → Hp → Prop) (e0 : Hp → Prop) (t0 : AV) (t3 : AV) (t18 : AV) (t19 : AV) (m : Nat) : AV → Hp → Prop := Nat.rec (motive := fun _ => AV → Hp → Prop) (fun _ _ => False) (fun _ ih => s_wal_Volume_keepL2B cf fuel K e0 t0 t3 t18 t19 ih) m
theorem s_wal_Volume_keepL2_succ (cf : CallK) (fuel : Nat) (K : AV → Hp → Prop) (e0 : Hp → Prop) (t0 : AV) (t3 : AV) (t18 : AV) (t19 : AV) (m : Nat) : s_wal_Volume_keepL2 cf fuel K e0 t0 t3 t18 t19 (m + 1) = s_wal_Volume_keepL2B cf fuel K e0 t0 t3 t18 t19 (s_wal_Volume_keepL2 cf fuel K e0 t0 t3 t18 t19 m) := rfl
noncomputable def s_wal_Volume_keep (cf : CallK) (fuel : Nat) (t0 : AV) (h : Hp) (K : AV → Hp → Prop) : Prop :=
vNilck t0 h fun t11 h =>
vFaddr 2 t11 h fun t12 h =>
vLoad2 t12 h fun t13 h =>
vAdd t13 (.int .i64 1) h fun t14 h =>
vNilck t0 h fun t16 h =>
vFaddr 1 t16 h fun t17 h =>
vLoad2 t17 h fun t18 h =>
vLenL2 t18 h fun t19 h =>
(fun (e0 : Hp → Prop) =>
s_wal_Volume_keepL2 cf fuel K (s_wal_Volume_keepE0 cf fuel K t0 t14) t0 t14 t18 t19 fuel (.int .i64 0) h) (s_wal_Volume_keepE0 cf fuel K t0 t14)
theorem s_wal_Volume_keep_eq (cf : CallK) (fuel : Nat) (t0 : AV) (h : Hp) (K : AV → Hp → Prop) : s_wal_Volume_keep cf fuel t0 h K = deepT (tabOf Try.prog) f_wal_Volume_keep cf fuel [t0] h K :=
  Eq.trans (by kernel_rfl) (rFun (by kernel_rfl) (rSeq (by kernel_rfl) (rSeq (by kernel_rfl) (rSeq (by kernel_rfl) rExact (rSeq (by kernel_rfl) (rBlock (by kernel_rfl) (rLoop (by kernel_rfl) (fun m2 fr h => s_wal_Volume_keepL2 cf fuel K (s_wal_Volume_keepE0 cf fuel K (getS fr (gpos 0)) (getS fr (gpos 3))) (getS fr (gpos 0)) (getS fr (gpos 3)) (getS fr (gpos 18)) (getS fr (gpos 19)) m2 (getS fr (gpos 20)) h) (funext fun fr => funext fun h => by kernel_rfl) fun m2 => rCast (funext fun fr => funext fun h => by kernel_rfl) rExact)) rExact)) rExact) rExact))

noncomputable def s_wal_Volume_large (cf : CallK) (fuel : Nat) (t0 : AV) (h : Hp) (K : AV → Hp → Prop) : Prop :=
vNilck t0 h fun t4 h =>
vFaddr 0 t4 h fun t5 h =>
vLoad2 t5 h fun t6 h =>
cf f_wal_room [t6] h fun t7 h =>
vEql t7 (.int .i64 0) h fun t8 h =>
vIf t8 (
K (.int .i64 22) h) (
K (.int .i64 0) h)
theorem s_wal_Volume_large_eq (cf : CallK) (fuel : Nat) (t0 : AV) (h : Hp) (K : AV → Hp → Prop) : s_wal_Volume_large cf fuel t0 h K = deepT (tabOf Try.prog) f_wal_Volume_large cf fuel [t0] h K :=
  Eq.trans (by kernel_rfl) (rFun (by kernel_rfl) rExact)

noncomputable def s_wal_Volume_alive (cf : CallK) (fuel : Nat) (t0 : AV) (h : Hp) (K : AV → Hp → Prop) : Prop :=
vNilck t0 h fun t4 h =>
vFaddr 0 t4 h fun t5 h =>
vLoad2 t5 h fun t6 h =>
cf f_device_Device_Dead [t6] h fun t7 h =>
vIf t7 (
K (.int .i64 5) h) (
K (.int .i64 0) h)
theorem s_wal_Volume_alive_eq (cf : CallK) (fuel : Nat) (t0 : AV) (h : Hp) (K : AV → Hp → Prop) : s_wal_Volume_alive cf fuel t0 h K = deepT (tabOf Try.prog) f_wal_Volume_alive cf fuel [t0] h K :=
  Eq.trans (by kernel_rfl) (rFun (by kernel_rfl) rExact)

noncomputable def s_wal_Volume_headsE0 (cf : CallK) (fuel : Nat) (K : AV → Hp → Prop) (t0 : AV) : Hp → Prop := fun h =>
vNilck t0 h fun t60 h =>
vFaddr 2 t60 h fun t61 h =>
vLoad2 t61 h fun t62 h =>
vLss t62 (.int .i64 0) h fun t63 h =>
vIf t63 (
K (.int .i64 74) h) (
K (.int .i64 0) h)
noncomputable def s_wal_Volume_headsB12 (cf : CallK) (fuel : Nat) (ih1 : AV → Hp → Prop) (t0 : AV) (t11 : AV) (h : Hp) : Prop :=
(fun (e2 : Hp → Prop) =>
vNilck t0 h fun t16 h =>
vFaddr 0 t16 h fun t17 h =>
vLoad2 t17 h fun t18 h =>
cf f_device_Device_Read [t18, t11] h fun t20 h =>
vExtract 0 t20 h fun t21 h =>
vExtract 1 t20 h fun t22 h =>
vSlice2 1 t21 (some (.int .i64 16)) none h fun t24 h =>
vSlice2 1 t21 (some (.int .i64 24)) none h fun t28 h =>
cf f_zbyte_Get64 [t24] h fun t25 h =>
vToInt .i64 t25 h fun t26 h =>
cf f_zbyte_Get64 [t28] h fun t29 h =>
vToInt .i64 t29 h fun t30 h =>
vNilck t0 h fun t33 h =>
vFaddr 2 t33 h fun t34 h =>
vLoad2 t34 h fun t35 h =>
vGtr t26 t35 h fun t36 h =>
joinG (fun g11 => grdV t36 true (vMov t26 h g11) (g11 undefV h)) fun t38 h =>
joinG (fun g10 => grdV t36 true (vDiv true t38 (.int .i64 2) h g10) (g10 undefV h)) fun t39 h =>
joinG (fun g9 => grdV t36 true (vMov t11 h g9) (g9 undefV h)) fun t40 h =>
joinG (fun g8 => grdV t36 true (vEql t39 t40 h g8) (g8 undefV h)) fun t41 h =>
vPick t36 t41 (.bool .false) h fun t42 h =>
joinG (fun g7 => grdV t42 true (vMov t21 h g7) (g7 undefV h)) fun t44 h =>
joinG (fun g6 => grdV t42 true (vMov t26 h g6) (g6 undefV h)) fun t45 h =>
joinG (fun g5 => grdV t42 true (vMov t30 h g5) (g5 undefV h)) fun t46 h =>
joinG (fun g4 => grdV t42 true (cf f_wal_head [t45, t46] h g4) (g4 undefV h)) fun t47 h =>
joinG (fun g3 => grdV t42 true (cf f_bytes_Equal [t44, t47] h g3) (g3 undefV h)) fun t48 h =>
vPick t42 t48 (.bool .false) h fun t49 h =>
vIf t49 (
vNilck t0 h fun t54 h =>
vFaddr 2 t54 h fun t55 h =>
vStore 1 t55 t26 h fun _ h =>
vNilck t0 h fun t56 h =>
vFaddr 3 t56 h fun t57 h =>
vStore 1 t57 t30 h fun _ h =>
e2 h) (
e2 h)) fun h =>
vAdd t11 (.int .i64 1) h fun t58 h =>
ih1 t58 h
noncomputable def s_wal_Volume_headsL1B (cf : CallK) (fuel : Nat) (e0 : Hp → Prop) (t0 : AV) (ih1 : AV → Hp → Prop) : AV → Hp → Prop := fun t11 h =>
vLss t11 (.int .i64 2) h fun t12 h =>
vIf t12 (
s_wal_Volume_headsB12 cf fuel ih1 t0 t11 h) (
e0 h)
noncomputable def s_wal_Volume_headsL1 (cf : CallK) (fuel : Nat) (e0 : Hp → Prop) (t0 : AV) (m : Nat) : AV → Hp → Prop := Nat.rec (motive := fun _ => AV → Hp → Prop) (fun _ _ => False) (fun _ ih => s_wal_Volume_headsL1B cf fuel e0 t0 ih) m
theorem s_wal_Volume_headsL1_succ (cf : CallK) (fuel : Nat) (e0 : Hp → Prop) (t0 : AV) (m : Nat) : s_wal_Volume_headsL1 cf fuel e0 t0 (m + 1) = s_wal_Volume_headsL1B cf fuel e0 t0 (s_wal_Volume_headsL1 cf fuel e0 t0 m) := rfl
noncomputable def s_wal_Volume_heads (cf : CallK) (fuel : Nat) (t0 : AV) (h : Hp) (K : AV → Hp → Prop) : Prop :=
vNilck t0 h fun t9 h =>
vFaddr 2 t9 h fun t10 h =>
vStore 1 t10 (.int .i64 (-1)) h fun _ h =>
(fun (e0 : Hp → Prop) =>
s_wal_Volume_headsL1 cf fuel (s_wal_Volume_headsE0 cf fuel K t0) t0 fuel (.int .i64 0) h) (s_wal_Volume_headsE0 cf fuel K t0)
theorem s_wal_Volume_heads_eq (cf : CallK) (fuel : Nat) (t0 : AV) (h : Hp) (K : AV → Hp → Prop) : s_wal_Volume_heads cf fuel t0 h K = deepT (tabOf Try.prog) f_wal_Volume_heads cf fuel [t0] h K :=
  Eq.trans (by kernel_rfl) (rFun (by kernel_rfl) (rSeq (by kernel_rfl) (rSeq (by kernel_rfl) (rSeq (by kernel_rfl) rExact (rSeq (by kernel_rfl) (rBlock (by kernel_rfl) (rLoop (by kernel_rfl) (fun m1 fr h => s_wal_Volume_headsL1 cf fuel (s_wal_Volume_headsE0 cf fuel K (getS fr (gpos 0))) (getS fr (gpos 0)) m1 (getS fr (gpos 11)) h) (funext fun fr => funext fun h => by kernel_rfl) fun m1 => rCast (funext fun fr => funext fun h => by kernel_rfl) rExact)) rExact)) rExact) rExact))

noncomputable def s_wal_Volume_blocksE0 (cf : CallK) (fuel : Nat) (K : AV → Hp → Prop) : Hp → Prop := fun h =>
K (.int .i64 0) h
noncomputable def s_wal_Volume_blocksB3 (cf : CallK) (fuel : Nat) (ih1 : AV → Hp → Prop) (t0 : AV) (t18 : AV) (h : Hp) : Prop :=
(fun (e2 : Hp → Prop) =>
vNilck t0 h fun t23 h =>
vFaddr 1 t23 h fun t24 h =>
vLoad2 t24 h fun t25 h =>
vNilck t0 h fun t28 h =>
vFaddr 0 t28 h fun t29 h =>
vLoad2 t29 h fun t30 h =>
vNilck t0 h fun t33 h =>
vFaddr 2 t33 h fun t34 h =>
vLoad2 t34 h fun t35 h =>
cf f_wal_Volume_at [t0, t35, t18] h fun t37 h =>
vLoad2 t24 h fun c _ => gd (sameV c t25) (
vLoad2 t29 h fun c _ => gd (sameV c t30) (
cf f_device_Device_Read [t30, t37] h fun t38 h =>
vLoad2 t24 h fun c _ => gd (sameV c t25) (
vExtract 0 t38 h fun t39 h =>
vExtract 1 t38 h fun t40 h =>
vIaddr 1 t25 t18 h fun t41 h =>
vStore 1 t41 t39 h fun _ h =>
e2 h)))) fun h =>
vAdd t18 (.int .i64 1) h fun t42 h =>
ih1 t42 h
noncomputable def s_wal_Volume_blocksL1B (cf : CallK) (fuel : Nat) (e0 : Hp → Prop) (t0 : AV) (t17 : AV) (ih1 : AV → Hp → Prop) : AV → Hp → Prop := fun t18 h =>
vLss t18 t17 h fun t19 h =>
vIf t19 (
s_wal_Volume_blocksB3 cf fuel ih1 t0 t18 h) (
e0 h)
noncomputable def s_wal_Volume_blocksL1 (cf : CallK) (fuel : Nat) (e0 : Hp → Prop) (t0 : AV) (t17 : AV) (m : Nat) : AV → Hp → Prop := Nat.rec (motive := fun _ => AV → Hp → Prop) (fun _ _ => False) (fun _ ih => s_wal_Volume_blocksL1B cf fuel e0 t0 t17 ih) m
theorem s_wal_Volume_blocksL1_succ (cf : CallK) (fuel : Nat) (e0 : Hp → Prop) (t0 : AV) (t17 : AV) (m : Nat) : s_wal_Volume_blocksL1 cf fuel e0 t0 t17 (m + 1) = s_wal_Volume_blocksL1B cf fuel e0 t0 t17 (s_wal_Volume_blocksL1 cf fuel e0 t0 t17 m) := rfl
noncomputable def s_wal_Volume_blocks (cf : CallK) (fuel : Nat) (t0 : AV) (h : Hp) (K : AV → Hp → Prop) : Prop :=
vNilck t0 h fun t6 h =>
vFaddr 0 t6 h fun t7 h =>
vLoad2 t7 h fun t8 h =>
cf f_wal_room [t8] h fun t9 h =>
vMkSlice 1 24 false [.nilslice] t9 t9 h fun t10 h =>
vNilck t0 h fun t11 h =>
vFaddr 1 t11 h fun t12 h =>
vStore 1 t12 t10 h fun _ h =>
vNilck t0 h fun t14 h =>
vFaddr 1 t14 h fun t15 h =>
vLoad2 t15 h fun t16 h =>
vLenL2 t16 h fun t17 h =>
(fun (e0 : Hp → Prop) =>
s_wal_Volume_blocksL1 cf fuel (s_wal_Volume_blocksE0 cf fuel K) t0 t17 fuel (.int .i64 0) h) (s_wal_Volume_blocksE0 cf fuel K)
theorem s_wal_Volume_blocks_eq (cf : CallK) (fuel : Nat) (t0 : AV) (h : Hp) (K : AV → Hp → Prop) : s_wal_Volume_blocks cf fuel t0 h K = deepT (tabOf Try.prog) f_wal_Volume_blocks cf fuel [t0] h K :=
  Eq.trans (by kernel_rfl) (rFun (by kernel_rfl) (rSeq (by kernel_rfl) (rSeq (by kernel_rfl) (rSeq (by kernel_rfl) rExact (rSeq (by kernel_rfl) (rBlock (by kernel_rfl) (rLoop (by kernel_rfl) (fun m1 fr h => s_wal_Volume_blocksL1 cf fuel (s_wal_Volume_blocksE0 cf fuel K) (getS fr (gpos 0)) (getS fr (gpos 17)) m1 (getS fr (gpos 18)) h) (funext fun fr => funext fun h => by kernel_rfl) fun m1 => rCast (funext fun fr => funext fun h => by kernel_rfl) rExact)) rExact)) rExact) rExact))

noncomputable def s_wal_Volume_mayE0 (cf : CallK) (fuel : Nat) (K : AV → Hp → Prop) : Hp → Prop := fun h =>
K (.bool .true) h
noncomputable def s_wal_Volume_mayB15 (cf : CallK) (fuel : Nat) (K : AV → Hp → Prop) (ih1 : AV → Hp → Prop) (t0 : AV) (t15 : AV) (t17 : AV) (h : Hp) : Prop :=
(fun (e2 : Hp → Prop) =>
vIaddr 2 t15 t17 h fun t19 h =>
vLoadA 2 t19 h fun t20 h =>
vBox 2 (.agg [(.int .i64 0), .nilslice]) h fun t6 h =>
vStore 2 t6 t20 h fun _ h =>
vFaddr 0 t6 h fun t21 h =>
vLoad2 t21 h fun t22 h =>
vLss t22 (.int .i64 0) h fun t23 h =>
joinG (fun g14 => grdV t23 false (vFaddr 0 t6 h g14) (g14 undefV h)) fun t25 h =>
joinG (fun g13 => grdV t23 false (vLoad2 t25 h g13) (g13 undefV h)) fun t26 h =>
joinG (fun g12 => grdV t23 false (vMov t0 h g12) (g12 undefV h)) fun t27 h =>
joinG (fun g11 => grdV t23 false (vNilck t27 h g11) (g11 undefV h)) fun t28 h =>
joinG (fun g10 => grdV t23 false (vFaddr 1 t28 h g10) (g10 undefV h)) fun t29 h =>
joinG (fun g9 => grdV t23 false (vLoad2 t29 h g9) (g9 undefV h)) fun t30 h =>
joinG (fun g8 => grdV t23 false (vLenL2 t30 h g8) (g8 undefV h)) fun t31 h =>
joinG (fun g7 => grdV t23 false (vGeq t26 t31 h g7) (g7 undefV h)) fun t32 h =>
vPick t23 (.bool .true) t32 h fun t33 h =>
joinG (fun g6 => grdV t33 false (vFaddr 1 t6 h g6) (g6 undefV h)) fun t35 h =>
joinG (fun g5 => grdV t33 false (vLoad2 t35 h g5) (g5 undefV h)) fun t36 h =>
joinG (fun g4 => grdV t33 false (vLenL2 t36 h g4) (g4 undefV h)) fun t37 h =>
joinG (fun g3 => grdV t33 false (vNeq t37 (.int .i64 512) h g3) (g3 undefV h)) fun t38 h =>
vPick t33 (.bool .true) t38 h fun t39 h =>
vIf t39 (
K (.bool .false) h) (
e2 h)) fun h =>
vAdd t17 (.int .i64 1) h fun t40 h =>
ih1 t40 h
noncomputable def s_wal_Volume_mayL1B (cf : CallK) (fuel : Nat) (K : AV → Hp → Prop) (e0 : Hp → Prop) (t0 : AV) (t15 : AV) (t16 : AV) (ih1 : AV → Hp → Prop) : AV → Hp → Prop := fun t17 h =>
vLss t17 t16 h fun t18 h =>
vIf t18 (
s_wal_Volume_mayB15 cf fuel K ih1 t0 t15 t17 h) (
e0 h)
noncomputable def s_wal_Volume_mayL1 (cf : CallK) (fuel : Nat) (K : AV → Hp → Prop) (e0 : Hp → Prop) (t0 : AV) (t15 : AV) (t16 : AV) (m : Nat) : AV → Hp → Prop := Nat.rec (motive := fun _ => AV → Hp → Prop) (fun _ _ => False) (fun _ ih => s_wal_Volume_mayL1B cf fuel K e0 t0 t15 t16 ih) m
theorem s_wal_Volume_mayL1_succ (cf : CallK) (fuel : Nat) (K : AV → Hp → Prop) (e0 : Hp → Prop) (t0 : AV) (t15 : AV) (t16 : AV) (m : Nat) : s_wal_Volume_mayL1 cf fuel K e0 t0 t15 t16 (m + 1) = s_wal_Volume_mayL1B cf fuel K e0 t0 t15 t16 (s_wal_Volume_mayL1 cf fuel K e0 t0 t15 t16 m) := rfl
noncomputable def s_wal_Volume_may (cf : CallK) (fuel : Nat) (t0 : AV) (t1 : AV) (h : Hp) (K : AV → Hp → Prop) : Prop :=
vLenL2 t1 h fun t8 h =>
vNilck t0 h fun t10 h =>
vFaddr 1 t10 h fun t11 h =>
vLoad2 t11 h fun t12 h =>
vLenL2 t12 h fun t13 h =>
vGtr t8 t13 h fun t14 h =>
vIf t14 (
K (.bool .false) h) (
vLenL2 t1 h fun t16 h =>
(fun (e0 : Hp → Prop) =>
s_wal_Volume_mayL1 cf fuel K (s_wal_Volume_mayE0 cf fuel K) t0 t1 t16 fuel (.int .i64 0) h) (s_wal_Volume_mayE0 cf fuel K))
theorem s_wal_Volume_may_eq (cf : CallK) (fuel : Nat) (t0 : AV) (t1 : AV) (h : Hp) (K : AV → Hp → Prop) : s_wal_Volume_may cf fuel t0 t1 h K = deepT (tabOf Try.prog) f_wal_Volume_may cf fuel [t0, t1] h K :=
  Eq.trans (by kernel_rfl) (rFun (by kernel_rfl) (rSeq (by kernel_rfl) (rSeq (by kernel_rfl) (rSeq (by kernel_rfl) rExact (rSeq (by kernel_rfl) (rBlock (by kernel_rfl) (rLoop (by kernel_rfl) (fun m1 fr h => s_wal_Volume_mayL1 cf fuel K (s_wal_Volume_mayE0 cf fuel K) (getS fr (gpos 0)) (getS fr (gpos 15)) (getS fr (gpos 16)) m1 (getS fr (gpos 17)) h) (funext fun fr => funext fun h => by kernel_rfl) fun m1 => rCast (funext fun fr => funext fun h => by kernel_rfl) rExact)) rExact)) rExact) rExact))

noncomputable def s_lagoonref4_Valid (cf : CallK) (fuel : Nat) (t0 : AV) (h : Hp) (K : AV → Hp → Prop) : Prop :=
vBox 2 t0 h fun t1 h =>
vFaddr 0 t1 h fun t3 h =>
vLoad2 t3 h fun t4 h =>
vGeq t4 (.int .i64 1) h fun t5 h =>
joinG (fun g8 => grdV t5 true (vFaddr 0 t1 h g8) (g8 undefV h)) fun t7 h =>
joinG (fun g7 => grdV t5 true (vLoad2 t7 h g7) (g7 undefV h)) fun t8 h =>
joinG (fun g6 => grdV t5 true (vLeq t8 (.int .i64 1152921504606846976) h g6) (g6 undefV h)) fun t9 h =>
vPick t5 t9 (.bool .false) h fun t10 h =>
joinG (fun g5 => grdV t10 true (vFaddr 1 t1 h g5) (g5 undefV h)) fun t12 h =>
joinG (fun g4 => grdV t10 true (vLoad2 t12 h g4) (g4 undefV h)) fun t13 h =>
joinG (fun g3 => grdV t10 true (vGeq t13 (.int .i64 0) h g3) (g3 undefV h)) fun t14 h =>
vPick t10 t14 (.bool .false) h fun t15 h =>
joinG (fun g2 => grdV t15 true (vFaddr 1 t1 h g2) (g2 undefV h)) fun t17 h =>
joinG (fun g1 => grdV t15 true (vLoad2 t17 h g1) (g1 undefV h)) fun t18 h =>
joinG (fun g0 => grdV t15 true (vLss t18 (.int .i64 64) h g0) (g0 undefV h)) fun t19 h =>
vPick t15 t19 (.bool .false) h fun t20 h =>
K t20 h
theorem s_lagoonref4_Valid_eq (cf : CallK) (fuel : Nat) (t0 : AV) (h : Hp) (K : AV → Hp → Prop) : s_lagoonref4_Valid cf fuel t0 h K = deepT (tabOf Try.prog) f_lagoonref4_Valid cf fuel [t0] h K :=
  Eq.trans (by kernel_rfl) (rFun (by kernel_rfl) rExact)

noncomputable def s_cmp_Compare_int64 (cf : CallK) (fuel : Nat) (t0 : AV) (t1 : AV) (h : Hp) (K : AV → Hp → Prop) : Prop :=
cf f_cmp_isNaN_int64 [t0] h fun t8 h =>
cf f_cmp_isNaN_int64 [t1] h fun t10 h =>
vIf t8 (
vIf t10 (
K (.int .i64 0) h) (
K (.int .i64 (-1)) h)) (
vIf t10 (
K (.int .i64 1) h) (
vLss t0 t1 h fun t16 h =>
vIf t16 (
K (.int .i64 (-1)) h) (
vGtr t0 t1 h fun t19 h =>
vIf t19 (
K (.int .i64 1) h) (
K (.int .i64 0) h))))
theorem s_cmp_Compare_int64_eq (cf : CallK) (fuel : Nat) (t0 : AV) (t1 : AV) (h : Hp) (K : AV → Hp → Prop) : s_cmp_Compare_int64 cf fuel t0 t1 h K = deepT (tabOf Try.prog) f_cmp_Compare_int64 cf fuel [t0, t1] h K :=
  Eq.trans (by kernel_rfl) (rFun (by kernel_rfl) rExact)

noncomputable def s_cmp_Compare_int (cf : CallK) (fuel : Nat) (t0 : AV) (t1 : AV) (h : Hp) (K : AV → Hp → Prop) : Prop :=
cf f_cmp_isNaN_int [t0] h fun t8 h =>
cf f_cmp_isNaN_int [t1] h fun t10 h =>
vIf t8 (
vIf t10 (
K (.int .i64 0) h) (
K (.int .i64 (-1)) h)) (
vIf t10 (
K (.int .i64 1) h) (
vLss t0 t1 h fun t16 h =>
vIf t16 (
K (.int .i64 (-1)) h) (
vGtr t0 t1 h fun t19 h =>
vIf t19 (
K (.int .i64 1) h) (
K (.int .i64 0) h))))
theorem s_cmp_Compare_int_eq (cf : CallK) (fuel : Nat) (t0 : AV) (t1 : AV) (h : Hp) (K : AV → Hp → Prop) : s_cmp_Compare_int cf fuel t0 t1 h K = deepT (tabOf Try.prog) f_cmp_Compare_int cf fuel [t0, t1] h K :=
  Eq.trans (by kernel_rfl) (rFun (by kernel_rfl) rExact)

noncomputable def s_lagoonref4_LeqE0 (cf : CallK) (fuel : Nat) (K : AV → Hp → Prop) : Hp → Prop := fun h =>
K (.bool .true) h
noncomputable def s_lagoonref4_LeqL1B (cf : CallK) (fuel : Nat) (K : AV → Hp → Prop) (e0 : Hp → Prop) (t0 : AV) (t1 : AV) (ih1 : AV → Hp → Prop) : AV → Hp → Prop := fun t5 h =>
vLss t5 (.int .i64 64) h fun t7 h =>
vIf t7 (
(fun (e2 : Hp → Prop) =>
cf f_lagoonref4_At [t0, t5] h fun t12 h =>
cf f_lagoonref4_At [t1, t5] h fun t15 h =>
vGtr t12 t15 h fun t16 h =>
vIf t16 (
K (.bool .false) h) (
e2 h)) fun h =>
vAdd t5 (.int .i64 1) h fun t9 h =>
ih1 t9 h) (
e0 h)
noncomputable def s_lagoonref4_LeqL1 (cf : CallK) (fuel : Nat) (K : AV → Hp → Prop) (e0 : Hp → Prop) (t0 : AV) (t1 : AV) (m : Nat) : AV → Hp → Prop := Nat.rec (motive := fun _ => AV → Hp → Prop) (fun _ _ => False) (fun _ ih => s_lagoonref4_LeqL1B cf fuel K e0 t0 t1 ih) m
theorem s_lagoonref4_LeqL1_succ (cf : CallK) (fuel : Nat) (K : AV → Hp → Prop) (e0 : Hp → Prop) (t0 : AV) (t1 : AV) (m : Nat) : s_lagoonref4_LeqL1 cf fuel K e0 t0 t1 (m + 1) = s_lagoonref4_LeqL1B cf fuel K e0 t0 t1 (s_lagoonref4_LeqL1 cf fuel K e0 t0 t1 m) := rfl
noncomputable def s_lagoonref4_Leq (cf : CallK) (fuel : Nat) (t0 : AV) (t1 : AV) (h : Hp) (K : AV → Hp → Prop) : Prop :=
(fun (e0 : Hp → Prop) =>
s_lagoonref4_LeqL1 cf fuel K (s_lagoonref4_LeqE0 cf fuel K) t0 t1 fuel (.int .i64 0) h) (s_lagoonref4_LeqE0 cf fuel K)
theorem s_lagoonref4_Leq_eq (cf : CallK) (fuel : Nat) (t0 : AV) (t1 : AV) (h : Hp) (K : AV → Hp → Prop) : s_lagoonref4_Leq cf fuel t0 t1 h K = deepT (tabOf Try.prog) f_lagoonref4_Leq cf fuel [t0, t1] h K :=
  Eq.trans (by kernel_rfl) (rFun (by kernel_rfl) (rSeq (by kernel_rfl) (rSeq (by kernel_rfl) rExact (rSeq (by kernel_rfl) (rBlock (by kernel_rfl) (rLoop (by kernel_rfl) (fun m1 fr h => s_lagoonref4_LeqL1 cf fuel K (s_lagoonref4_LeqE0 cf fuel K) (getS fr (gpos 0)) (getS fr (gpos 1)) m1 (getS fr (gpos 5)) h) (funext fun fr => funext fun h => by kernel_rfl) fun m1 => rCast (funext fun fr => funext fun h => by kernel_rfl) rExact)) rExact)) rExact))

noncomputable def s_wal_room (cf : CallK) (fuel : Nat) (t0 : AV) (h : Hp) (K : AV → Hp → Prop) : Prop :=
cf f_device_Device_Blocks [t0] h fun t4 h =>
vLss t4 (.int .i64 16) h fun t5 h =>
vIf t5 (
K (.int .i64 0) h) (
cf f_device_Device_Blocks [t0] h fun t7 h =>
vArith Go.Am.subI t7 (.int .i64 8) h fun t8 h =>
vDiv false t8 (.int .i64 4) h fun t9 h =>
K t9 h)
theorem s_wal_room_eq (cf : CallK) (fuel : Nat) (t0 : AV) (h : Hp) (K : AV → Hp → Prop) : s_wal_room cf fuel t0 h K = deepT (tabOf Try.prog) f_wal_room cf fuel [t0] h K :=
  Eq.trans (by kernel_rfl) (rFun (by kernel_rfl) rExact)

noncomputable def s_wal_wrote (cf : CallK) (fuel : Nat) (t0 : AV) (t1 : AV) (t2 : AV) (h : Hp) (K : AV → Hp → Prop) : Prop :=
cf f_device_Device_Read [t0, t1] h fun t12 h =>
vExtract 0 t12 h fun t13 h =>
vExtract 1 t12 h fun t14 h =>
vEql t14 (.int .i64 0) h fun t16 h =>
joinG (fun g2 => grdV t16 true (vMov t13 h g2) (g2 undefV h)) fun t18 h =>
joinG (fun g1 => grdV t16 true (vMov t2 h g1) (g1 undefV h)) fun t19 h =>
joinG (fun g0 => grdV t16 true (cf f_bytes_Equal [t18, t19] h g0) (g0 undefV h)) fun t20 h =>
vPick t16 t20 (.bool .false) h fun t21 h =>
vIf t21 (
K (.int .i64 0) h) (
cf f_device_Device_Write [t0, t1, t2] h fun t25 h =>
K t25 h)
theorem s_wal_wrote_eq (cf : CallK) (fuel : Nat) (t0 : AV) (t1 : AV) (t2 : AV) (h : Hp) (K : AV → Hp → Prop) : s_wal_wrote cf fuel t0 t1 t2 h K = deepT (tabOf Try.prog) f_wal_wrote cf fuel [t0, t1, t2] h K :=
  Eq.trans (by kernel_rfl) (rFun (by kernel_rfl) rExact)

noncomputable def s_device_Device_FlushE0 (cf : CallK) (fuel : Nat) (K : AV → Hp → Prop) (t0 : AV) : Hp → Prop := fun h =>
cf f_device_Device_done [t0] h fun t38 h =>
K t38 h
noncomputable def s_device_Device_FlushB3 (cf : CallK) (fuel : Nat) (ih1 : AV → Hp → Prop) (t0 : AV) (t11 : AV) (h : Hp) : Prop :=
(fun (e2 : Hp → Prop) =>
vNilck t0 h fun t15 h =>
vFaddr 0 t15 h fun t16 h =>
vLoad2 t16 h fun t17 h =>
vNilck t0 h fun t20 h =>
vFaddr 0 t20 h fun t21 h =>
vLoad2 t21 h fun t22 h =>
vNilck t0 h fun t25 h =>
vFaddr 0 t25 h fun t26 h =>
vLoad2 t26 h fun t27 h =>
vIaddr 3 t27 t11 h fun t29 h =>
vFaddr 0 t29 h fun t30 h =>
vLoad2 t30 h fun t31 h =>
vIaddr 3 t17 t11 h fun t32 h =>
vFaddr 1 t32 h fun t33 h =>
vStore 1 t33 t31 h fun _ h =>
vIaddr 3 t22 t11 h fun t34 h =>
vFaddr 2 t34 h fun t35 h =>
vStore 1 t35 (.bool .false) h fun _ h =>
e2 h) fun h =>
vAdd t11 (.int .i64 1) h fun t36 h =>
ih1 t36 h
noncomputable def s_device_Device_FlushL1B (cf : CallK) (fuel : Nat) (e0 : Hp → Prop) (t0 : AV) (t10 : AV) (ih1 : AV → Hp → Prop) : AV → Hp → Prop := fun t11 h =>
vLss t11 t10 h fun t12 h =>
vIf t12 (
s_device_Device_FlushB3 cf fuel ih1 t0 t11 h) (
e0 h)
noncomputable def s_device_Device_FlushL1 (cf : CallK) (fuel : Nat) (e0 : Hp → Prop) (t0 : AV) (t10 : AV) (m : Nat) : AV → Hp → Prop := Nat.rec (motive := fun _ => AV → Hp → Prop) (fun _ _ => False) (fun _ ih => s_device_Device_FlushL1B cf fuel e0 t0 t10 ih) m
theorem s_device_Device_FlushL1_succ (cf : CallK) (fuel : Nat) (e0 : Hp → Prop) (t0 : AV) (t10 : AV) (m : Nat) : s_device_Device_FlushL1 cf fuel e0 t0 t10 (m + 1) = s_device_Device_FlushL1B cf fuel e0 t0 t10 (s_device_Device_FlushL1 cf fuel e0 t0 t10 m) := rfl
noncomputable def s_device_Device_Flush (cf : CallK) (fuel : Nat) (t0 : AV) (h : Hp) (K : AV → Hp → Prop) : Prop :=
cf f_device_Device_Dead [t0] h fun t5 h =>
vIf t5 (
K (.int .i64 5) h) (
vNilck t0 h fun t7 h =>
vFaddr 0 t7 h fun t8 h =>
vLoad2 t8 h fun t9 h =>
vLenL2 t9 h fun t10 h =>
(fun (e0 : Hp → Prop) =>
s_device_Device_FlushL1 cf fuel (s_device_Device_FlushE0 cf fuel K t0) t0 t10 fuel (.int .i64 0) h) (s_device_Device_FlushE0 cf fuel K t0))
theorem s_device_Device_Flush_eq (cf : CallK) (fuel : Nat) (t0 : AV) (h : Hp) (K : AV → Hp → Prop) : s_device_Device_Flush cf fuel t0 h K = deepT (tabOf Try.prog) f_device_Device_Flush cf fuel [t0] h K :=
  Eq.trans (by kernel_rfl) (rFun (by kernel_rfl) (rSeq (by kernel_rfl) (rSeq (by kernel_rfl) (rSeq (by kernel_rfl) rExact (rSeq (by kernel_rfl) (rBlock (by kernel_rfl) (rLoop (by kernel_rfl) (fun m1 fr h => s_device_Device_FlushL1 cf fuel (s_device_Device_FlushE0 cf fuel K (getS fr (gpos 0))) (getS fr (gpos 0)) (getS fr (gpos 10)) m1 (getS fr (gpos 11)) h) (funext fun fr => funext fun h => by kernel_rfl) fun m1 => rCast (funext fun fr => funext fun h => by kernel_rfl) rExact)) rExact)) rExact) rExact))

noncomputable def s_device_Device_WriteB11 (cf : CallK) (fuel : Nat) (K : AV → Hp → Prop) (e0 : Hp → Prop) (t0 : AV) (t1 : AV) (t2 : AV) (h : Hp) : Prop :=
vLss t1 (.int .i64 0) h fun t12 h =>
joinG (fun g10 => grdV t12 false (vMov t1 h g10) (g10 undefV h)) fun t14 h =>
joinG (fun g9 => grdV t12 false (vMov t0 h g9) (g9 undefV h)) fun t15 h =>
joinG (fun g8 => grdV t12 false (vNilck t15 h g8) (g8 undefV h)) fun t16 h =>
joinG (fun g7 => grdV t12 false (vFaddr 0 t16 h g7) (g7 undefV h)) fun t17 h =>
joinG (fun g6 => grdV t12 false (vLoad2 t17 h g6) (g6 undefV h)) fun t18 h =>
joinG (fun g5 => grdV t12 false (vLenL2 t18 h g5) (g5 undefV h)) fun t19 h =>
joinG (fun g4 => grdV t12 false (vGeq t14 t19 h g4) (g4 undefV h)) fun t20 h =>
vPick t12 (.bool .true) t20 h fun t21 h =>
joinG (fun g3 => grdV t21 false (vMov t2 h g3) (g3 undefV h)) fun t23 h =>
joinG (fun g2 => grdV t21 false (vLenL2 t23 h g2) (g2 undefV h)) fun t24 h =>
joinG (fun g1 => grdV t21 false (vNeq t24 (.int .i64 512) h g1) (g1 undefV h)) fun t25 h =>
vPick t21 (.bool .true) t25 h fun t26 h =>
vIf t26 (
K (.int .i64 22) h) (
e0 h)
noncomputable def s_device_Device_Write (cf : CallK) (fuel : Nat) (t0 : AV) (t1 : AV) (t2 : AV) (h : Hp) (K : AV → Hp → Prop) : Prop :=
(fun (e0 : Hp → Prop) =>
cf f_device_Device_Dead [t0] h fun t9 h =>
vIf t9 (
K (.int .i64 5) h) (
s_device_Device_WriteB11 cf fuel K e0 t0 t1 t2 h)) fun h =>
vNilck t0 h fun t28 h =>
vFaddr 0 t28 h fun t29 h =>
vLoad2 t29 h fun t30 h =>
vNilck t0 h fun t33 h =>
vFaddr 0 t33 h fun t34 h =>
vLoad2 t34 h fun t35 h =>
cf f_bytes_Clone [t2] h fun t38 h =>
vLoad2 t29 h fun c _ => gd (sameV c t30) (
vLoad2 t34 h fun c _ => gd (sameV c t35) (
vIaddr 3 t30 t1 h fun t39 h =>
vFaddr 0 t39 h fun t40 h =>
vStore 1 t40 t38 h fun _ h =>
vIaddr 3 t35 t1 h fun t41 h =>
vFaddr 2 t41 h fun t42 h =>
vStore 1 t42 (.bool .true) h fun _ h =>
cf f_device_Device_done [t0] h fun t44 h =>
K t44 h))
theorem s_device_Device_Write_eq (cf : CallK) (fuel : Nat) (t0 : AV) (t1 : AV) (t2 : AV) (h : Hp) (K : AV → Hp → Prop) : s_device_Device_Write cf fuel t0 t1 t2 h K = deepT (tabOf Try.prog) f_device_Device_Write cf fuel [t0, t1, t2] h K :=
  Eq.trans (by kernel_rfl) (rFun (by kernel_rfl) rExact)

noncomputable def s_wal_head (cf : CallK) (fuel : Nat) (t0 : AV) (t1 : AV) (h : Hp) (K : AV → Hp → Prop) : Prop :=
vBslice 1 16 true [(.int .u8 0)] [(0, 1, (.int .u8 108)), (1, 1, (.int .u8 97)), (2, 1, (.int .u8 103)), (3, 1, (.int .u8 111)), (4, 1, (.int .u8 111)), (5, 1, (.int .u8 110)), (6, 1, (.int .u8 39)), (7, 1, (.int .u8 115)), (8, 1, (.int .u8 32)), (9, 1, (.int .u8 118)), (10, 1, (.int .u8 111)), (11, 1, (.int .u8 108)), (12, 1, (.int .u8 117)), (13, 1, (.int .u8 109)), (14, 1, (.int .u8 101)), (15, 1, (.int .u8 10))] h fun t6 h =>
vStrish t6 h fun t7 h =>
vToInt .u64 t0 h fun t9 h =>
cf f_zbyte_Append64 [t7, t9] h fun t10 h =>
vToInt .u64 t1 h fun t13 h =>
cf f_zbyte_Append64 [t10, t13] h fun t14 h =>
vBslice 1 1 false [.nilslice] [(0, 1, t14)] h fun t17 h =>
cf f_crc_Of [t17] h fun t18 h =>
cf f_zbyte_Append32 [t14, t18] h fun t19 h =>
vLenL2 t19 h fun t22 h =>
vArith Go.Am.subI (.int .i64 512) t22 h fun t23 h =>
vAppendZ 1 1 true [(.int .u8 0)] t19 t23 h fun t24 h =>
K t24 h
theorem s_wal_head_eq (cf : CallK) (fuel : Nat) (t0 : AV) (t1 : AV) (h : Hp) (K : AV → Hp → Prop) : s_wal_head cf fuel t0 t1 h K = deepT (tabOf Try.prog) f_wal_head cf fuel [t0, t1] h K :=
  Eq.trans (by kernel_rfl) (rFun (by kernel_rfl) rExact)

noncomputable def s_device_Device_Dead (cf : CallK) (fuel : Nat) (t0 : AV) (h : Hp) (K : AV → Hp → Prop) : Prop :=
vEq false eqP t0 .nilptr h fun t4 h =>
joinG (fun g3 => grdV t4 false (vMov t0 h g3) (g3 undefV h)) fun t6 h =>
joinG (fun g2 => grdV t4 false (vNilck t6 h g2) (g2 undefV h)) fun t7 h =>
joinG (fun g1 => grdV t4 false (vFaddr 3 t7 h g1) (g1 undefV h)) fun t8 h =>
joinG (fun g0 => grdV t4 false (vLoad2 t8 h g0) (g0 undefV h)) fun t9 h =>
vPick t4 (.bool .true) t9 h fun t10 h =>
K t10 h
theorem s_device_Device_Dead_eq (cf : CallK) (fuel : Nat) (t0 : AV) (h : Hp) (K : AV → Hp → Prop) : s_device_Device_Dead cf fuel t0 h K = deepT (tabOf Try.prog) f_device_Device_Dead cf fuel [t0] h K :=
  Eq.trans (by kernel_rfl) (rFun (by kernel_rfl) rExact)

noncomputable def s_wal_Volume_at (cf : CallK) (fuel : Nat) (t0 : AV) (t1 : AV) (t2 : AV) (h : Hp) (K : AV → Hp → Prop) : Prop :=
vDiv true t1 (.int .i64 2) h fun t8 h =>
vNilck t0 h fun t10 h =>
vFaddr 1 t10 h fun t11 h =>
vLoad2 t11 h fun t12 h =>
vLenL2 t12 h fun t13 h =>
vArith Go.Am.mulI t8 t13 h fun t14 h =>
vAdd (.int .i64 8) t14 h fun t15 h =>
vAdd t15 t2 h fun t17 h =>
K t17 h
theorem s_wal_Volume_at_eq (cf : CallK) (fuel : Nat) (t0 : AV) (t1 : AV) (t2 : AV) (h : Hp) (K : AV → Hp → Prop) : s_wal_Volume_at cf fuel t0 t1 t2 h K = deepT (tabOf Try.prog) f_wal_Volume_at cf fuel [t0, t1, t2] h K :=
  Eq.trans (by kernel_rfl) (rFun (by kernel_rfl) rExact)

noncomputable def s_device_Device_Read (cf : CallK) (fuel : Nat) (t0 : AV) (t1 : AV) (h : Hp) (K : AV → Hp → Prop) : Prop :=
(fun (e0 : Hp → Prop) =>
vLss t1 (.int .i64 0) h fun t8 h =>
joinG (fun g4 => grdV t8 false (vMov t1 h g4) (g4 undefV h)) fun t10 h =>
joinG (fun g3 => grdV t8 false (vMov t0 h g3) (g3 undefV h)) fun t11 h =>
joinG (fun g2 => grdV t8 false (cf f_device_Device_Blocks [t11] h g2) (g2 undefV h)) fun t12 h =>
joinG (fun g1 => grdV t8 false (vGeq t10 t12 h g1) (g1 undefV h)) fun t13 h =>
vPick t8 (.bool .true) t13 h fun t14 h =>
vIf t14 (
K (.tup [.nilslice, (.int .i64 22)]) h) (
vNilck t0 h fun t17 h =>
vFaddr 0 t17 h fun t18 h =>
vLoad2 t18 h fun t19 h =>
vIaddr 3 t19 t1 h fun t21 h =>
vFaddr 0 t21 h fun t22 h =>
vLoad2 t22 h fun t23 h =>
vEq false eqNS t23 .nilslice h fun t24 h =>
vIf t24 (
vMkSlice 1 1 true [(.int .u8 0)] (.int .i64 512) (.int .i64 512) h fun t25 h =>
K (.tup [t25, (.int .i64 0)]) h) (
e0 h))) fun h =>
vNilck t0 h fun t27 h =>
vFaddr 0 t27 h fun t28 h =>
vLoad2 t28 h fun t29 h =>
vIaddr 3 t29 t1 h fun t31 h =>
vFaddr 0 t31 h fun t32 h =>
vLoad2 t32 h fun t33 h =>
cf f_bytes_Clone [t33] h fun t34 h =>
K (.tup [t34, (.int .i64 0)]) h
theorem s_device_Device_Read_eq (cf : CallK) (fuel : Nat) (t0 : AV) (t1 : AV) (h : Hp) (K : AV → Hp → Prop) : s_device_Device_Read cf fuel t0 t1 h K = deepT (tabOf Try.prog) f_device_Device_Read cf fuel [t0, t1] h K :=
  Eq.trans (by kernel_rfl) (rFun (by kernel_rfl) rExact)

noncomputable def s_zbyte_Get64 (cf : CallK) (fuel : Nat) (t0 : AV) (h : Hp) (K : AV → Hp → Prop) : Prop :=
vIaddr 1 t0 (.int .i64 0) h fun t4 h =>
vLoad2 t4 h fun t5 h =>
vToInt .u64 t5 h fun t6 h =>
vIaddr 1 t0 (.int .i64 1) h fun t8 h =>
vLoad2 t8 h fun t9 h =>
vToInt .u64 t9 h fun t10 h =>
vShl t10 (.int .u64 8) h fun t11 h =>
vBits Nat.lor t6 t11 h fun t12 h =>
vIaddr 1 t0 (.int .i64 2) h fun t14 h =>
vLoad2 t14 h fun t15 h =>
vToInt .u64 t15 h fun t16 h =>
vShl t16 (.int .u64 16) h fun t17 h =>
vBits Nat.lor t12 t17 h fun t18 h =>
vIaddr 1 t0 (.int .i64 3) h fun t20 h =>
vLoad2 t20 h fun t21 h =>
vToInt .u64 t21 h fun t22 h =>
vShl t22 (.int .u64 24) h fun t23 h =>
vBits Nat.lor t18 t23 h fun t24 h =>
vIaddr 1 t0 (.int .i64 4) h fun t26 h =>
vLoad2 t26 h fun t27 h =>
vToInt .u64 t27 h fun t28 h =>
vShl t28 (.int .u64 32) h fun t29 h =>
vBits Nat.lor t24 t29 h fun t30 h =>
vIaddr 1 t0 (.int .i64 5) h fun t32 h =>
vLoad2 t32 h fun t33 h =>
vToInt .u64 t33 h fun t34 h =>
vShl t34 (.int .u64 40) h fun t35 h =>
vBits Nat.lor t30 t35 h fun t36 h =>
vIaddr 1 t0 (.int .i64 6) h fun t38 h =>
vLoad2 t38 h fun t39 h =>
vToInt .u64 t39 h fun t40 h =>
vShl t40 (.int .u64 48) h fun t41 h =>
vBits Nat.lor t36 t41 h fun t42 h =>
vIaddr 1 t0 (.int .i64 7) h fun t44 h =>
vLoad2 t44 h fun t45 h =>
vToInt .u64 t45 h fun t46 h =>
vShl t46 (.int .u64 56) h fun t47 h =>
vBits Nat.lor t42 t47 h fun t48 h =>
K t48 h
theorem s_zbyte_Get64_eq (cf : CallK) (fuel : Nat) (t0 : AV) (h : Hp) (K : AV → Hp → Prop) : s_zbyte_Get64 cf fuel t0 h K = deepT (tabOf Try.prog) f_zbyte_Get64 cf fuel [t0] h K :=
  Eq.trans (by kernel_rfl) (rFun (by kernel_rfl) rExact)

noncomputable def s_bytes_Equal (cf : CallK) (fuel : Nat) (t0 : AV) (t1 : AV) (h : Hp) (K : AV → Hp → Prop) : Prop :=
vToStr t0 h fun t6 h =>
vToStr t1 h fun t8 h =>
vEql t6 t8 h fun t9 h =>
K t9 h
theorem s_bytes_Equal_eq (cf : CallK) (fuel : Nat) (t0 : AV) (t1 : AV) (h : Hp) (K : AV → Hp → Prop) : s_bytes_Equal cf fuel t0 t1 h K = deepT (tabOf Try.prog) f_bytes_Equal cf fuel [t0, t1] h K :=
  Eq.trans (by kernel_rfl) (rFun (by kernel_rfl) rExact)

noncomputable def s_device_Device_Blocks (cf : CallK) (fuel : Nat) (t0 : AV) (h : Hp) (K : AV → Hp → Prop) : Prop :=
vEq false eqP t0 .nilptr h fun t4 h =>
vIf t4 (
K (.int .i64 0) h) (
vNilck t0 h fun t6 h =>
vFaddr 0 t6 h fun t7 h =>
vLoad2 t7 h fun t8 h =>
vLenL2 t8 h fun t9 h =>
K t9 h)
theorem s_device_Device_Blocks_eq (cf : CallK) (fuel : Nat) (t0 : AV) (h : Hp) (K : AV → Hp → Prop) : s_device_Device_Blocks cf fuel t0 h K = deepT (tabOf Try.prog) f_device_Device_Blocks cf fuel [t0] h K :=
  Eq.trans (by kernel_rfl) (rFun (by kernel_rfl) rExact)

noncomputable def s_device_Device_doneB1 (cf : CallK) (fuel : Nat) (j0 : Hp → Prop) (t0 : AV) (h : Hp) : Prop :=
vNilck t0 h fun t15 h =>
vFaddr 2 t15 h fun t16 h =>
vLoad2 t16 h fun t17 h =>
vArith Go.Am.subI t17 (.int .i64 1) h fun t18 h =>
vNilck t0 h fun t19 h =>
vFaddr 2 t19 h fun t20 h =>
vStore 1 t20 t18 h fun _ h =>
vNilck t0 h fun t23 h =>
vFaddr 2 t23 h fun t24 h =>
vLoad2 t24 h fun t25 h =>
vLss t25 (.int .i64 1) h fun t26 h =>
vNilck t0 h fun t27 h =>
vFaddr 3 t27 h fun t28 h =>
vStore 1 t28 t26 h fun _ h =>
j0 h
noncomputable def s_device_Device_done (cf : CallK) (fuel : Nat) (t0 : AV) (h : Hp) (K : AV → Hp → Prop) : Prop :=
vNilck t0 h fun t4 h =>
vFaddr 4 t4 h fun t5 h =>
vLoad2 t5 h fun t6 h =>
vAdd t6 (.int .i64 1) h fun t7 h =>
vNilck t0 h fun t8 h =>
vFaddr 4 t8 h fun t9 h =>
vStore 1 t9 t7 h fun _ h =>
(fun (j0 : Hp → Prop) =>
vNilck t0 h fun t11 h =>
vFaddr 1 t11 h fun t12 h =>
vLoad2 t12 h fun t13 h =>
vIf t13 (
s_device_Device_doneB1 cf fuel j0 t0 h) (
j0 h)) fun h =>
K (.int .i64 0) h
theorem s_device_Device_done_eq (cf : CallK) (fuel : Nat) (t0 : AV) (h : Hp) (K : AV → Hp → Prop) : s_device_Device_done cf fuel t0 h K = deepT (tabOf Try.prog) f_device_Device_done cf fuel [t0] h K :=
  Eq.trans (by kernel_rfl) (rFun (by kernel_rfl) rExact)

noncomputable def s_zbyte_Append64 (cf : CallK) (fuel : Nat) (t0 : AV) (t1 : AV) (h : Hp) (K : AV → Hp → Prop) : Prop :=
vToInt .u8 t1 h fun t7 h =>
vShr t1 (.int .u64 8) h fun t9 h =>
vToInt .u8 t9 h fun t10 h =>
vShr t1 (.int .u64 16) h fun t12 h =>
vToInt .u8 t12 h fun t13 h =>
vShr t1 (.int .u64 24) h fun t15 h =>
vToInt .u8 t15 h fun t16 h =>
vShr t1 (.int .u64 32) h fun t18 h =>
vToInt .u8 t18 h fun t19 h =>
vShr t1 (.int .u64 40) h fun t21 h =>
vToInt .u8 t21 h fun t22 h =>
vShr t1 (.int .u64 48) h fun t24 h =>
vToInt .u8 t24 h fun t25 h =>
vShr t1 (.int .u64 56) h fun t27 h =>
vToInt .u8 t27 h fun t28 h =>
vBslice 1 8 true [(.int .u8 0)] [(0, 1, t7), (1, 1, t10), (2, 1, t13), (3, 1, t16), (4, 1, t19), (5, 1, t22), (6, 1, t25), (7, 1, t28)] h fun t29 h =>
vAppend2 1 1 true t0 t29 h fun t30 h =>
K t30 h
theorem s_zbyte_Append64_eq (cf : CallK) (fuel : Nat) (t0 : AV) (t1 : AV) (h : Hp) (K : AV → Hp → Prop) : s_zbyte_Append64 cf fuel t0 t1 h K = deepT (tabOf Try.prog) f_zbyte_Append64 cf fuel [t0, t1] h K :=
  Eq.trans (by kernel_rfl) (rFun (by kernel_rfl) rExact)

noncomputable def s_zbyte_Append32 (cf : CallK) (fuel : Nat) (t0 : AV) (t1 : AV) (h : Hp) (K : AV → Hp → Prop) : Prop :=
vToInt .u8 t1 h fun t7 h =>
vShr t1 (.int .u64 8) h fun t9 h =>
vToInt .u8 t9 h fun t10 h =>
vShr t1 (.int .u64 16) h fun t12 h =>
vToInt .u8 t12 h fun t13 h =>
vShr t1 (.int .u64 24) h fun t15 h =>
vToInt .u8 t15 h fun t16 h =>
vBslice 1 4 true [(.int .u8 0)] [(0, 1, t7), (1, 1, t10), (2, 1, t13), (3, 1, t16)] h fun t17 h =>
vAppend2 1 1 true t0 t17 h fun t18 h =>
K t18 h
theorem s_zbyte_Append32_eq (cf : CallK) (fuel : Nat) (t0 : AV) (t1 : AV) (h : Hp) (K : AV → Hp → Prop) : s_zbyte_Append32 cf fuel t0 t1 h K = deepT (tabOf Try.prog) f_zbyte_Append32 cf fuel [t0, t1] h K :=
  Eq.trans (by kernel_rfl) (rFun (by kernel_rfl) rExact)

noncomputable def s_crc_Of (cf : CallK) (fuel : Nat) (t0 : AV) (h : Hp) (K : AV → Hp → Prop) : Prop :=
cf f_crc_New [] h fun t4 h =>
vFunc 165 [t4] [] h fun t7 h =>
cf f_crc_each [t0, t7] h fun t8 h =>
cf f_crc_Sum_Value [t4] h fun t10 h =>
K t10 h
theorem s_crc_Of_eq (cf : CallK) (fuel : Nat) (t0 : AV) (h : Hp) (K : AV → Hp → Prop) : s_crc_Of cf fuel t0 h K = deepT (tabOf Try.prog) f_crc_Of cf fuel [t0] h K :=
  Eq.trans (by kernel_rfl) (rFun (by kernel_rfl) rExact)

noncomputable def s_crc_New (cf : CallK) (fuel : Nat) (h : Hp) (K : AV → Hp → Prop) : Prop :=
vBuild [(.int .u32 0)] [] h fun t1 h =>
vBox 1 t1 h fun t2 h =>
K t2 h
theorem s_crc_New_eq (cf : CallK) (fuel : Nat) (h : Hp) (K : AV → Hp → Prop) : s_crc_New cf fuel h K = deepT (tabOf Try.prog) f_crc_New cf fuel [] h K :=
  Eq.trans (by kernel_rfl) (rFun (by kernel_rfl) rExact)

noncomputable def s_crc_eachE0 (cf : CallK) (fuel : Nat) (K : AV → Hp → Prop) : Hp → Prop := fun h =>
K (.tup []) h
noncomputable def s_crc_eachL1B (cf : CallK) (fuel : Nat) (e0 : Hp → Prop) (t1 : AV) (t6 : AV) (t7 : AV) (ih1 : AV → Hp → Prop) : AV → Hp → Prop := fun t8 h =>
vLss t8 t7 h fun t9 h =>
vIf t9 (
(fun (e2 : Hp → Prop) =>
vIaddr 1 t6 t8 h fun t10 h =>
vLoad2 t10 h fun t11 h =>
vCallV t1 [t11] cf h fun t14 h =>
e2 h) fun h =>
vAdd t8 (.int .i64 1) h fun t15 h =>
ih1 t15 h) (
e0 h)
noncomputable def s_crc_eachL1 (cf : CallK) (fuel : Nat) (e0 : Hp → Prop) (t1 : AV) (t6 : AV) (t7 : AV) (m : Nat) : AV → Hp → Prop := Nat.rec (motive := fun _ => AV → Hp → Prop) (fun _ _ => False) (fun _ ih => s_crc_eachL1B cf fuel e0 t1 t6 t7 ih) m
theorem s_crc_eachL1_succ (cf : CallK) (fuel : Nat) (e0 : Hp → Prop) (t1 : AV) (t6 : AV) (t7 : AV) (m : Nat) : s_crc_eachL1 cf fuel e0 t1 t6 t7 (m + 1) = s_crc_eachL1B cf fuel e0 t1 t6 t7 (s_crc_eachL1 cf fuel e0 t1 t6 t7 m) := rfl
noncomputable def s_crc_each (cf : CallK) (fuel : Nat) (t0 : AV) (t1 : AV) (h : Hp) (K : AV → Hp → Prop) : Prop :=
vLenL2 t0 h fun t7 h =>
(fun (e0 : Hp → Prop) =>
s_crc_eachL1 cf fuel (s_crc_eachE0 cf fuel K) t1 t0 t7 fuel (.int .i64 0) h) (s_crc_eachE0 cf fuel K)
theorem s_crc_each_eq (cf : CallK) (fuel : Nat) (t0 : AV) (t1 : AV) (h : Hp) (K : AV → Hp → Prop) : s_crc_each cf fuel t0 t1 h K = deepT (tabOf Try.prog) f_crc_each cf fuel [t0, t1] h K :=
  Eq.trans (by kernel_rfl) (rFun (by kernel_rfl) (rSeq (by kernel_rfl) (rBlock (by kernel_rfl) (rLoop (by kernel_rfl) (fun m1 fr h => s_crc_eachL1 cf fuel (s_crc_eachE0 cf fuel K) (getS fr (gpos 1)) (getS fr (gpos 6)) (getS fr (gpos 7)) m1 (getS fr (gpos 8)) h) (funext fun fr => funext fun h => by kernel_rfl) fun m1 => rCast (funext fun fr => funext fun h => by kernel_rfl) rExact)) rExact))

noncomputable def s_crc_Sum_AddE1 (cf : CallK) (fuel : Nat) (K : AV → Hp → Prop) (t0 : AV) : AV → Hp → Prop := fun t7 h =>
vCom t7 h fun t64 h =>
vNilck t0 h fun t65 h =>
vFaddr 0 t65 h fun t66 h =>
vStore 1 t66 t64 h fun _ h =>
K (.tup []) h
noncomputable def s_crc_Sum_AddB4 (cf : CallK) (fuel : Nat) (ih2 : AV → AV → Hp → Prop) (t4 : AV) (t37 : AV) (t7 : AV) (t39 : AV) (h : Hp) : Prop :=
(fun (e3 : AV → Hp → Prop) =>
vIaddr 1 t37 t39 h fun t41 h =>
vLoad2 t41 h fun t42 h =>
vToInt .u32 t42 h fun t45 h =>
vBits Nat.xor t7 t45 h fun t46 h =>
vShr t46 (.int .u64 4) h fun t48 h =>
vBits Nat.land t46 (.int .u32 15) h fun t50 h =>
vIaddrA 1 16 t4 t50 h fun t51 h =>
vLoad2 t51 h fun t52 h =>
vBits Nat.xor t48 t52 h fun t53 h =>
vShr t53 (.int .u64 4) h fun t55 h =>
vBits Nat.land t53 (.int .u32 15) h fun t57 h =>
vIaddrA 1 16 t4 t57 h fun t58 h =>
vLoad2 t58 h fun t59 h =>
vBits Nat.xor t55 t59 h fun t60 h =>
e3 t60 h) fun t7 h =>
vAdd t39 (.int .i64 1) h fun t61 h =>
ih2 t7 t61 h
noncomputable def s_crc_Sum_AddL2B (cf : CallK) (fuel : Nat) (e1 : AV → Hp → Prop) (t0 : AV) (t4 : AV) (t37 : AV) (t38 : AV) (ih2 : AV → AV → Hp → Prop) : AV → AV → Hp → Prop := fun t7 t39 h =>
vLss t39 t38 h fun t40 h =>
vIf t40 (
s_crc_Sum_AddB4 cf fuel ih2 t4 t37 t7 t39 h) (
e1 t7 h)
noncomputable def s_crc_Sum_AddL2 (cf : CallK) (fuel : Nat) (e1 : AV → Hp → Prop) (t0 : AV) (t4 : AV) (t37 : AV) (t38 : AV) (m : Nat) : AV → AV → Hp → Prop := Nat.rec (motive := fun _ => AV → AV → Hp → Prop) (fun _ _ _ => False) (fun _ ih => s_crc_Sum_AddL2B cf fuel e1 t0 t4 t37 t38 ih) m
theorem s_crc_Sum_AddL2_succ (cf : CallK) (fuel : Nat) (e1 : AV → Hp → Prop) (t0 : AV) (t4 : AV) (t37 : AV) (t38 : AV) (m : Nat) : s_crc_Sum_AddL2 cf fuel e1 t0 t4 t37 t38 (m + 1) = s_crc_Sum_AddL2B cf fuel e1 t0 t4 t37 t38 (s_crc_Sum_AddL2 cf fuel e1 t0 t4 t37 t38 m) := rfl
noncomputable def s_crc_Sum_AddE0 (cf : CallK) (fuel : Nat) (K : AV → Hp → Prop) (t0 : AV) (t1 : AV) (t4 : AV) : Hp → Prop := fun h =>
vNilck t0 h fun t33 h =>
vFaddr 0 t33 h fun t34 h =>
vLoad2 t34 h fun t35 h =>
vCom t35 h fun t36 h =>
vLenL2 t1 h fun t38 h =>
(fun (e1 : AV → Hp → Prop) =>
s_crc_Sum_AddL2 cf fuel (s_crc_Sum_AddE1 cf fuel K t0) t0 t4 t1 t38 fuel t36 (.int .i64 0) h) (s_crc_Sum_AddE1 cf fuel K t0)
noncomputable def s_crc_Sum_AddE6 (cf : CallK) (fuel : Nat) (ih5 : AV → Hp → Prop) (t0 : AV) (t1 : AV) (t4 : AV) (t13 : AV) : Hp → Prop := fun h =>
vAdd t13 (.int .i64 1) h fun t31 h =>
ih5 t31 h
noncomputable def s_crc_Sum_AddE7 (cf : CallK) (fuel : Nat) (e6 : Hp → Prop) (t0 : AV) (t1 : AV) (t4 : AV) (t5 : AV) (t13 : AV) : AV → Hp → Prop := fun t6 h =>
vIaddrA 1 16 t4 t5 h fun t30 h =>
vStore 1 t30 t6 h fun _ h =>
e6 h
noncomputable def s_crc_Sum_AddL8B (cf : CallK) (fuel : Nat) (e7 : AV → Hp → Prop) (t0 : AV) (t1 : AV) (t4 : AV) (t5 : AV) (t13 : AV) (ih8 : AV → AV → Hp → Prop) : AV → AV → Hp → Prop := fun t6 t18 h =>
vLss t18 (.int .i64 4) h fun t19 h =>
vIf t19 (
(fun (e9 : AV → Hp → Prop) =>
vShr t6 (.int .u64 1) h fun t21 h =>
vBits Nat.land t6 (.int .u32 1) h fun t23 h =>
vNeg t23 h fun t24 h =>
vBits Nat.land (.int .u32 3988292384) t24 h fun t25 h =>
vBits Nat.xor t21 t25 h fun t26 h =>
e9 t26 h) fun t6 h =>
vAdd t18 (.int .i64 1) h fun t27 h =>
ih8 t6 t27 h) (
e7 t6 h)
noncomputable def s_crc_Sum_AddL8 (cf : CallK) (fuel : Nat) (e7 : AV → Hp → Prop) (t0 : AV) (t1 : AV) (t4 : AV) (t5 : AV) (t13 : AV) (m : Nat) : AV → AV → Hp → Prop := Nat.rec (motive := fun _ => AV → AV → Hp → Prop) (fun _ _ _ => False) (fun _ ih => s_crc_Sum_AddL8B cf fuel e7 t0 t1 t4 t5 t13 ih) m
theorem s_crc_Sum_AddL8_succ (cf : CallK) (fuel : Nat) (e7 : AV → Hp → Prop) (t0 : AV) (t1 : AV) (t4 : AV) (t5 : AV) (t13 : AV) (m : Nat) : s_crc_Sum_AddL8 cf fuel e7 t0 t1 t4 t5 t13 (m + 1) = s_crc_Sum_AddL8B cf fuel e7 t0 t1 t4 t5 t13 (s_crc_Sum_AddL8 cf fuel e7 t0 t1 t4 t5 t13 m) := rfl
noncomputable def s_crc_Sum_AddL5B (cf : CallK) (fuel : Nat) (e0 : Hp → Prop) (t0 : AV) (t1 : AV) (t4 : AV) (ih5 : AV → Hp → Prop) : AV → Hp → Prop := fun t13 h =>
vLss t13 (.int .i64 16) h fun t14 h =>
vIf t14 (
(fun (e6 : Hp → Prop) =>
vToInt .u32 t13 h fun t17 h =>
(fun (e7 : AV → Hp → Prop) =>
s_crc_Sum_AddL8 cf fuel (s_crc_Sum_AddE7 cf fuel (s_crc_Sum_AddE6 cf fuel ih5 t0 t1 t4 t13) t0 t1 t4 t13 t13) t0 t1 t4 t13 t13 fuel t17 (.int .i64 0) h) (s_crc_Sum_AddE7 cf fuel (s_crc_Sum_AddE6 cf fuel ih5 t0 t1 t4 t13) t0 t1 t4 t13 t13)) (s_crc_Sum_AddE6 cf fuel ih5 t0 t1 t4 t13)) (
e0 h)
noncomputable def s_crc_Sum_AddL5 (cf : CallK) (fuel : Nat) (e0 : Hp → Prop) (t0 : AV) (t1 : AV) (t4 : AV) (m : Nat) : AV → Hp → Prop := Nat.rec (motive := fun _ => AV → Hp → Prop) (fun _ _ => False) (fun _ ih => s_crc_Sum_AddL5B cf fuel e0 t0 t1 t4 ih) m
theorem s_crc_Sum_AddL5_succ (cf : CallK) (fuel : Nat) (e0 : Hp → Prop) (t0 : AV) (t1 : AV) (t4 : AV) (m : Nat) : s_crc_Sum_AddL5 cf fuel e0 t0 t1 t4 (m + 1) = s_crc_Sum_AddL5B cf fuel e0 t0 t1 t4 (s_crc_Sum_AddL5 cf fuel e0 t0 t1 t4 m) := rfl
noncomputable def s_crc_Sum_Add (cf : CallK) (fuel : Nat) (t0 : AV) (t1 : AV) (h : Hp) (K : AV → Hp → Prop) : Prop :=
vEq false eqP t0 .nilptr h fun t11 h =>
vIf t11 (
K (.tup []) h) (
vBuild [(.int .u32 0), (.int .u32 0), (.int .u32 0), (.int .u32 0), (.int .u32 0), (.int .u32 0), (.int .u32 0), (.int .u32 0), (.int .u32 0), (.int .u32 0), (.int .u32 0), (.int .u32 0), (.int .u32 0), (.int .u32 0), (.int .u32 0), (.int .u32 0)] [] h fun t12 h =>
vBox 16 (.agg [(.int .u32 0), (.int .u32 0), (.int .u32 0), (.int .u32 0), (.int .u32 0), (.int .u32 0), (.int .u32 0), (.int .u32 0), (.int .u32 0), (.int .u32 0), (.int .u32 0), (.int .u32 0), (.int .u32 0), (.int .u32 0), (.int .u32 0), (.int .u32 0)]) h fun t4 h =>
vStore 16 t4 t12 h fun _ h =>
(fun (e0 : Hp → Prop) =>
s_crc_Sum_AddL5 cf fuel (s_crc_Sum_AddE0 cf fuel K t0 t1 t4) t0 t1 t4 fuel (.int .i64 0) h) (s_crc_Sum_AddE0 cf fuel K t0 t1 t4))
theorem s_crc_Sum_Add_eq (cf : CallK) (fuel : Nat) (t0 : AV) (t1 : AV) (h : Hp) (K : AV → Hp → Prop) : s_crc_Sum_Add cf fuel t0 t1 h K = deepT (tabOf Try.prog) f_crc_Sum_Add cf fuel [t0, t1] h K :=
  Eq.trans (by kernel_rfl) (rFun (by kernel_rfl) (rSeq (by kernel_rfl) (rSeq (by kernel_rfl) (rSeq (by kernel_rfl) (rSeq (by kernel_rfl) (rSeq (by kernel_rfl) rExact (rSeq (by kernel_rfl) (rBlock (by kernel_rfl) (rLoop (by kernel_rfl) (fun m2 fr h => s_crc_Sum_AddL2 cf fuel (s_crc_Sum_AddE1 cf fuel K (getS fr (gpos 0))) (getS fr (gpos 0)) (getS fr (gpos 4)) (getS fr (gpos 37)) (getS fr (gpos 38)) m2 (getS fr (gpos 7)) (getS fr (gpos 39)) h) (funext fun fr => funext fun h => by kernel_rfl) fun m2 => rCast (funext fun fr => funext fun h => by kernel_rfl) rExact)) rExact)) rExact) (rSeq (by kernel_rfl) (rBlock (by kernel_rfl) (rLoop (by kernel_rfl) (fun m5 fr h => s_crc_Sum_AddL5 cf fuel (s_crc_Sum_AddE0 cf fuel K (getS fr (gpos 0)) (getS fr (gpos 1)) (getS fr (gpos 4))) (getS fr (gpos 0)) (getS fr (gpos 1)) (getS fr (gpos 4)) m5 (getS fr (gpos 13)) h) (funext fun fr => funext fun h => by kernel_rfl) fun m5 => rCast (funext fun fr => funext fun h => by kernel_rfl) (rSeq (by kernel_rfl) (rSeq (by kernel_rfl) (rSeq (by kernel_rfl) rExact (rBlock (by kernel_rfl) (rSeq (by kernel_rfl) (rSeq (by kernel_rfl) (rSeq (by kernel_rfl) rExact (rSeq (by kernel_rfl) (rBlock (by kernel_rfl) (rLoop (by kernel_rfl) (fun m8 fr h => s_crc_Sum_AddL8 cf fuel (s_crc_Sum_AddE7 cf fuel (s_crc_Sum_AddE6 cf fuel (s_crc_Sum_AddL5 cf fuel (s_crc_Sum_AddE0 cf fuel K (getS fr (gpos 0)) (getS fr (gpos 1)) (getS fr (gpos 4))) (getS fr (gpos 0)) (getS fr (gpos 1)) (getS fr (gpos 4)) m5) (getS fr (gpos 0)) (getS fr (gpos 1)) (getS fr (gpos 4)) (getS fr (gpos 13))) (getS fr (gpos 0)) (getS fr (gpos 1)) (getS fr (gpos 4)) (getS fr (gpos 5)) (getS fr (gpos 13))) (getS fr (gpos 0)) (getS fr (gpos 1)) (getS fr (gpos 4)) (getS fr (gpos 5)) (getS fr (gpos 13)) m8 (getS fr (gpos 6)) (getS fr (gpos 18)) h) (funext fun fr => funext fun h => by kernel_rfl) fun m8 => rCast (funext fun fr => funext fun h => by kernel_rfl) rExact)) rExact)) rExact) rExact))) rExact) rExact))) rExact)) rExact) rExact))

noncomputable def s_crc_Sum_Value (cf : CallK) (fuel : Nat) (t0 : AV) (h : Hp) (K : AV → Hp → Prop) : Prop :=
vEq false eqP t0 .nilptr h fun t4 h =>
vIf t4 (
K (.int .u32 0) h) (
vNilck t0 h fun t6 h =>
vFaddr 0 t6 h fun t7 h =>
vLoad2 t7 h fun t8 h =>
K t8 h)
theorem s_crc_Sum_Value_eq (cf : CallK) (fuel : Nat) (t0 : AV) (h : Hp) (K : AV → Hp → Prop) : s_crc_Sum_Value cf fuel t0 h K = deepT (tabOf Try.prog) f_crc_Sum_Value cf fuel [t0] h K :=
  Eq.trans (by kernel_rfl) (rFun (by kernel_rfl) rExact)


end Go.Proofs.Ytnhamanffojhfaa.shl
