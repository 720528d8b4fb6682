/- The Go functions' code as the abstract machine's, over values; each is the code that the machine makes of the program's (theorems s_.._eq). No condition. -/
import Derived.Test.YtnegmbnkccngoaaAmC
import Derived.Test.YtnegmbnkccngoaaProg
import Derived.KernelRfl
namespace Go.Proofs.Ytnegmbnkccngoaa.sh0
open Go Go.Am Go.Proofs
set_option linter.unusedVariables false
set_option maxRecDepth 100000
abbrev f_bcache_Cache_Commit : Nat := 23
abbrev f_bcache_Cache_Counts : Nat := 9
abbrev f_bcache_Cache_Get : Nat := 8
abbrev f_bcache_Cache_Has : Nat := 25
abbrev f_bcache_Cache_Held : Nat := 10
abbrev f_bcache_Cache_Put : Nat := 21
abbrev f_bcache_Cache_got : Nat := 29
abbrev f_bcache_Cache_use : Nat := 54
abbrev f_bcache_New : Nat := 7
abbrev f_bytes_Clone : Nat := 30
abbrev f_device_New : Nat := 26
abbrev f_lagoonlaw15_TreeTrash : Nat := 4
abbrev f_lagoonlaw15_begun : Nat := 11
abbrev f_lagoonlaw15_map01 : Nat := 20
abbrev f_lagoonlaw1_Full : Nat := 22
abbrev f_lagoonlaw7_CacheScan : Nat := 3
abbrev f_lagoonlaw7_Volume : Nat := 6
abbrev f_lagoonlaw7_begun : Nat := 5
abbrev f_lagoonref4_At : Nat := 48
abbrev f_lagoonref4_Norm : Nat := 47
abbrev f_lagoonref4_Same : Nat := 33
abbrev f_lagoonref4_With : Nat := 14
abbrev f_lagoonref4_short : Nat := 49
abbrev f_movetree_New : Nat := 12
abbrev f_movetree_Tree_Apply : Nat := 13
abbrev f_movetree_Tree_Below : Nat := 17
abbrev f_movetree_Tree_Dir : Nat := 34
abbrev f_movetree_Tree_Has : Nat := 16
abbrev f_movetree_Tree_Kids : Nat := 19
abbrev f_movetree_Tree_Len : Nat := 18
abbrev f_movetree_Tree_Live : Nat := 15
abbrev f_movetree_Tree_Parent : Nat := 32
abbrev f_movetree_Tree_Skipped : Nat := 35
abbrev f_movetree_each : Nat := 42
abbrev f_movetree_fixed : Nat := 51
abbrev f_ops_Copy : Nat := 44
abbrev f_ops_May : Nat := 36
abbrev f_ops_Root : Nat := 50
abbrev f_slices_BinarySearchFunc_movetree_done_movetree_done_api_ID : Nat := 37
abbrev f_slices_Clone_movetree_done_movetree_done : Nat := 40
abbrev f_slices_Insert_movetree_done_movetree_done : Nat := 45
abbrev f_slices_Reverse_movetree_done_movetree_done : Nat := 41
abbrev f_slices_SortFunc_api_ID_api_ID : Nat := 52
abbrev f_slices_Sort_int_int : Nat := 31
abbrev f_wal_Format : Nat := 27
abbrev f_wal_Mount : Nat := 28
abbrev f_wal_Volume_Blocks : Nat := 53
abbrev f_wal_Volume_Commit : Nat := 55
abbrev f_wal_Volume_Read : Nat := 24

noncomputable def s_lagoonlaw7_CacheScanB36 (cf : CallK) (fuel : Nat) (K : AV → Hp → Prop) (t1 : AV) (t70 : AV) (t69 : AV) (t68 : AV) (t9 : AV) (t2 : AV) (t7 : AV) (h : Hp) : Prop :=
joinG (fun g16 => grdV t7 true (vMov t68 h g16) (g16 undefV h)) fun t76 h =>
joinG (fun g15 => grdV t7 true (vMov t1 h g15) (g15 undefV h)) fun t77 h =>
joinG (fun g14 => grdV t7 true (vMov t2 h g14) (g14 undefV h)) fun t78 h =>
joinG (fun g13 => grdV t7 true (vArith Go.Am.subI t78 (.int .i64 1) h g13) (g13 undefV h)) fun t79 h =>
joinG (fun g12 => grdV t7 true (vArith Go.Am.mulI t77 t79 h g12) (g12 undefV h)) fun t80 h =>
joinG (fun g11 => grdV t7 true (vEql t76 t80 h g11) (g11 undefV h)) fun t81 h =>
vPick t7 t81 (.bool .false) h fun t82 h =>
joinG (fun g10 => grdV t82 true (vMov t69 h g10) (g10 undefV h)) fun t84 h =>
joinG (fun g9 => grdV t82 true (vMov t1 h g9) (g9 undefV h)) fun t85 h =>
joinG (fun g8 => grdV t82 true (vEql t84 t85 h g8) (g8 undefV h)) fun t86 h =>
vPick t82 t86 (.bool .false) h fun t87 h =>
joinG (fun g7 => grdV t87 true (vMov t70 h g7) (g7 undefV h)) fun t89 h =>
joinG (fun g6 => grdV t87 true (vEql t89 (.int .i64 0) h g6) (g6 undefV h)) fun t90 h =>
vPick t87 t90 (.bool .false) h fun t91 h =>
joinG (fun g5 => grdV t91 true (vMov t9 h g5) (g5 undefV h)) fun t93 h =>
joinG (fun g4 => grdV t91 true (cf f_bcache_Cache_Held [t93] h g4) (g4 undefV h)) fun t94 h =>
joinG (fun g3 => grdV t91 true (vLenL2 t94 h g3) (g3 undefV h)) fun t95 h =>
joinG (fun g2 => grdV t91 true (vMov t1 h g2) (g2 undefV h)) fun t96 h =>
joinG (fun g1 => grdV t91 true (vEql t95 t96 h g1) (g1 undefV h)) fun t97 h =>
vPick t91 t97 (.bool .false) h fun t98 h =>
K t98 h
noncomputable def s_lagoonlaw7_CacheScanB37 (cf : CallK) (fuel : Nat) (K : AV → Hp → Prop) (t0 : AV) (t1 : AV) (t70 : AV) (t69 : AV) (t68 : AV) (t9 : AV) (t2 : AV) (t7 : AV) (h : Hp) : Prop :=
joinG (fun g35 => grdV t7 true (vMov t68 h g35) (g35 undefV h)) fun t101 h =>
joinG (fun g34 => grdV t7 true (vEql t101 (.int .i64 0) h g34) (g34 undefV h)) fun t102 h =>
vPick t7 t102 (.bool .false) h fun t103 h =>
joinG (fun g33 => grdV t103 true (vMov t69 h g33) (g33 undefV h)) fun t105 h =>
joinG (fun g32 => grdV t103 true (vMov t1 h g32) (g32 undefV h)) fun t106 h =>
joinG (fun g31 => grdV t103 true (vMov t2 h g31) (g31 undefV h)) fun t107 h =>
joinG (fun g30 => grdV t103 true (vArith Go.Am.mulI t106 t107 h g30) (g30 undefV h)) fun t108 h =>
joinG (fun g29 => grdV t103 true (vEql t105 t108 h g29) (g29 undefV h)) fun t109 h =>
vPick t103 t109 (.bool .false) h fun t110 h =>
joinG (fun g28 => grdV t110 true (vMov t70 h g28) (g28 undefV h)) fun t112 h =>
joinG (fun g27 => grdV t110 true (vMov t1 h g27) (g27 undefV h)) fun t113 h =>
joinG (fun g26 => grdV t110 true (vMov t2 h g26) (g26 undefV h)) fun t114 h =>
joinG (fun g25 => grdV t110 true (vArith Go.Am.mulI t113 t114 h g25) (g25 undefV h)) fun t115 h =>
joinG (fun g24 => grdV t110 true (vMov t0 h g24) (g24 undefV h)) fun t116 h =>
joinG (fun g23 => grdV t110 true (vArith Go.Am.subI t115 t116 h g23) (g23 undefV h)) fun t117 h =>
joinG (fun g22 => grdV t110 true (vEql t112 t117 h g22) (g22 undefV h)) fun t118 h =>
vPick t110 t118 (.bool .false) h fun t119 h =>
joinG (fun g21 => grdV t119 true (vMov t9 h g21) (g21 undefV h)) fun t121 h =>
joinG (fun g20 => grdV t119 true (cf f_bcache_Cache_Held [t121] h g20) (g20 undefV h)) fun t122 h =>
joinG (fun g19 => grdV t119 true (vLenL2 t122 h g19) (g19 undefV h)) fun t123 h =>
joinG (fun g18 => grdV t119 true (vMov t0 h g18) (g18 undefV h)) fun t124 h =>
joinG (fun g17 => grdV t119 true (vEql t123 t124 h g17) (g17 undefV h)) fun t125 h =>
vPick t119 t125 (.bool .false) h fun t126 h =>
K t126 h
noncomputable def s_lagoonlaw7_CacheScanE0 (cf : CallK) (fuel : Nat) (K : AV → Hp → Prop) (t0 : AV) (t1 : AV) (t2 : AV) (t7 : AV) (t9 : AV) : Hp → Prop := fun h =>
cf f_bcache_Cache_Counts [t9] h fun t67 h =>
vExtract 0 t67 h fun t68 h =>
vExtract 1 t67 h fun t69 h =>
vExtract 2 t67 h fun t70 h =>
vLeq t1 t0 h fun t73 h =>
vIf t73 (
s_lagoonlaw7_CacheScanB36 cf fuel K t1 t70 t69 t68 t9 t2 t7 h) (
s_lagoonlaw7_CacheScanB37 cf fuel K t0 t1 t70 t69 t68 t9 t2 t7 h)
noncomputable def s_lagoonlaw7_CacheScanE39 (cf : CallK) (fuel : Nat) (ih38 : AV → Hp → Prop) (t0 : AV) (t1 : AV) (t2 : AV) (t7 : AV) (t9 : AV) (t10 : AV) : Hp → Prop := fun h =>
vAdd t10 (.int .i64 1) h fun t51 h =>
ih38 t51 h
noncomputable def s_lagoonlaw7_CacheScanE40 (cf : CallK) (fuel : Nat) (e39 : Hp → Prop) (t0 : AV) (t1 : AV) (t2 : AV) (t7 : AV) (t9 : AV) (t10 : AV) : Hp → Prop := fun h =>
e39 h
noncomputable def s_lagoonlaw7_CacheScanL41B (cf : CallK) (fuel : Nat) (K : AV → Hp → Prop) (e40 : Hp → Prop) (t0 : AV) (t1 : AV) (t2 : AV) (t7 : AV) (t9 : AV) (t10 : AV) (ih41 : AV → Hp → Prop) : AV → Hp → Prop := fun t11 h =>
vLss t11 t1 h fun t54 h =>
vIf t54 (
(fun (e42 : Hp → Prop) =>
cf f_bcache_Cache_Get [t9, t11] h fun t60 h =>
vExtract 0 t60 h fun t61 h =>
vExtract 1 t60 h fun t62 h =>
vNeq t62 (.int .i64 0) h fun t64 h =>
vIf t64 (
K (.bool .false) h) (
e42 h)) fun h =>
vAdd t11 (.int .i64 1) h fun t56 h =>
ih41 t56 h) (
e40 h)
noncomputable def s_lagoonlaw7_CacheScanL41 (cf : CallK) (fuel : Nat) (K : AV → Hp → Prop) (e40 : Hp → Prop) (t0 : AV) (t1 : AV) (t2 : AV) (t7 : AV) (t9 : AV) (t10 : AV) (m : Nat) : AV → Hp → Prop := Nat.rec (motive := fun _ => AV → Hp → Prop) (fun _ _ => False) (fun _ ih => s_lagoonlaw7_CacheScanL41B cf fuel K e40 t0 t1 t2 t7 t9 t10 ih) m
theorem s_lagoonlaw7_CacheScanL41_succ (cf : CallK) (fuel : Nat) (K : AV → Hp → Prop) (e40 : Hp → Prop) (t0 : AV) (t1 : AV) (t2 : AV) (t7 : AV) (t9 : AV) (t10 : AV) (m : Nat) : s_lagoonlaw7_CacheScanL41 cf fuel K e40 t0 t1 t2 t7 t9 t10 (m + 1) = s_lagoonlaw7_CacheScanL41B cf fuel K e40 t0 t1 t2 t7 t9 t10 (s_lagoonlaw7_CacheScanL41 cf fuel K e40 t0 t1 t2 t7 t9 t10 m) := rfl
noncomputable def s_lagoonlaw7_CacheScanL38B (cf : CallK) (fuel : Nat) (K : AV → Hp → Prop) (e0 : Hp → Prop) (t0 : AV) (t1 : AV) (t2 : AV) (t7 : AV) (t9 : AV) (ih38 : AV → Hp → Prop) : AV → Hp → Prop := fun t10 h =>
vLss t10 t2 h fun t49 h =>
vIf t49 (
(fun (e39 : Hp → Prop) =>
(fun (e40 : Hp → Prop) =>
s_lagoonlaw7_CacheScanL41 cf fuel K (s_lagoonlaw7_CacheScanE40 cf fuel (s_lagoonlaw7_CacheScanE39 cf fuel ih38 t0 t1 t2 t7 t9 t10) t0 t1 t2 t7 t9 t10) t0 t1 t2 t7 t9 t10 fuel (.int .i64 0) h) (s_lagoonlaw7_CacheScanE40 cf fuel (s_lagoonlaw7_CacheScanE39 cf fuel ih38 t0 t1 t2 t7 t9 t10) t0 t1 t2 t7 t9 t10)) (s_lagoonlaw7_CacheScanE39 cf fuel ih38 t0 t1 t2 t7 t9 t10)) (
e0 h)
noncomputable def s_lagoonlaw7_CacheScanL38 (cf : CallK) (fuel : Nat) (K : AV → Hp → Prop) (e0 : Hp → Prop) (t0 : AV) (t1 : AV) (t2 : AV) (t7 : AV) (t9 : AV) (m : Nat) : AV → Hp → Prop := Nat.rec (motive := fun _ => AV → Hp → Prop) (fun _ _ => False) (fun _ ih => s_lagoonlaw7_CacheScanL38B cf fuel K e0 t0 t1 t2 t7 t9 ih) m
theorem s_lagoonlaw7_CacheScanL38_succ (cf : CallK) (fuel : Nat) (K : AV → Hp → Prop) (e0 : Hp → Prop) (t0 : AV) (t1 : AV) (t2 : AV) (t7 : AV) (t9 : AV) (m : Nat) : s_lagoonlaw7_CacheScanL38 cf fuel K e0 t0 t1 t2 t7 t9 (m + 1) = s_lagoonlaw7_CacheScanL38B cf fuel K e0 t0 t1 t2 t7 t9 (s_lagoonlaw7_CacheScanL38 cf fuel K e0 t0 t1 t2 t7 t9 m) := rfl
noncomputable def s_lagoonlaw7_CacheScan (cf : CallK) (fuel : Nat) (t0 : AV) (t1 : AV) (t2 : AV) (h : Hp) (K : AV → Hp → Prop) : Prop :=
cf f_lagoonlaw7_begun [] h fun t17 h =>
vLss t0 (.int .i64 1) h fun t19 h =>
joinG (fun g52 => grdV t19 false (vMov t0 h g52) (g52 undefV h)) fun t21 h =>
joinG (fun g51 => grdV t19 false (vGtr t21 (.int .i64 10) h g51) (g51 undefV h)) fun t22 h =>
vPick t19 (.bool .true) t22 h fun t23 h =>
joinG (fun g50 => grdV t23 false (vMov t1 h g50) (g50 undefV h)) fun t25 h =>
joinG (fun g49 => grdV t23 false (vLss t25 (.int .i64 1) h g49) (g49 undefV h)) fun t26 h =>
vPick t23 (.bool .true) t26 h fun t27 h =>
joinG (fun g48 => grdV t27 false (vMov t1 h g48) (g48 undefV h)) fun t29 h =>
joinG (fun g47 => grdV t27 false (vGtr t29 (.int .i64 12) h g47) (g47 undefV h)) fun t30 h =>
vPick t27 (.bool .true) t30 h fun t31 h =>
joinG (fun g46 => grdV t31 false (vMov t2 h g46) (g46 undefV h)) fun t33 h =>
joinG (fun g45 => grdV t31 false (vLss t33 (.int .i64 1) h g45) (g45 undefV h)) fun t34 h =>
vPick t31 (.bool .true) t34 h fun t35 h =>
joinG (fun g44 => grdV t35 false (vMov t2 h g44) (g44 undefV h)) fun t37 h =>
joinG (fun g43 => grdV t35 false (vGtr t37 (.int .i64 4) h g43) (g43 undefV h)) fun t38 h =>
vPick t35 (.bool .true) t38 h fun t39 h =>
vIf t39 (
K t17 h) (
cf f_lagoonlaw7_Volume [(.int .i64 12)] h fun t41 h =>
cf f_bcache_New [t41, t0] h fun t44 h =>
vEq false eqP t44 .nilptr h fun t46 h =>
vIf t46 (
K (.bool .false) h) (
(fun (e0 : Hp → Prop) =>
s_lagoonlaw7_CacheScanL38 cf fuel K (s_lagoonlaw7_CacheScanE0 cf fuel K t0 t1 t2 t17 t44) t0 t1 t2 t17 t44 fuel (.int .i64 0) h) (s_lagoonlaw7_CacheScanE0 cf fuel K t0 t1 t2 t17 t44)))
theorem s_lagoonlaw7_CacheScan_eq (cf : CallK) (fuel : Nat) (t0 : AV) (t1 : AV) (t2 : AV) (h : Hp) (K : AV → Hp → Prop) : s_lagoonlaw7_CacheScan cf fuel t0 t1 t2 h K = deepT (tabOf Try.prog) f_lagoonlaw7_CacheScan cf fuel [t0, t1, t2] h K :=
  Eq.trans (by kernel_rfl) (rFun (by kernel_rfl) (rSeq (by kernel_rfl) (rSeq (by kernel_rfl) (rSeq (by kernel_rfl) (rSeq (by kernel_rfl) (rSeq (by kernel_rfl) (rSeq (by kernel_rfl) (rSeq (by kernel_rfl) rExact (rSeq (by kernel_rfl) (rBlock (by kernel_rfl) (rLoop (by kernel_rfl) (fun m38 fr h => s_lagoonlaw7_CacheScanL38 cf fuel K (s_lagoonlaw7_CacheScanE0 cf fuel K (getS fr (gpos 0)) (getS fr (gpos 1)) (getS fr (gpos 2)) (getS fr (gpos 7)) (getS fr (gpos 9))) (getS fr (gpos 0)) (getS fr (gpos 1)) (getS fr (gpos 2)) (getS fr (gpos 7)) (getS fr (gpos 9)) m38 (getS fr (gpos 10)) h) (funext fun fr => funext fun h => by kernel_rfl) fun m38 => rCast (funext fun fr => funext fun h => by kernel_rfl) (rSeq (by kernel_rfl) (rSeq (by kernel_rfl) rExact (rBlock (by kernel_rfl) (rSeq (by kernel_rfl) (rBlock (by kernel_rfl) (rLoop (by kernel_rfl) (fun m41 fr h => s_lagoonlaw7_CacheScanL41 cf fuel K (s_lagoonlaw7_CacheScanE40 cf fuel (s_lagoonlaw7_CacheScanE39 cf fuel (s_lagoonlaw7_CacheScanL38 cf fuel K (s_lagoonlaw7_CacheScanE0 cf fuel K (getS fr (gpos 0)) (getS fr (gpos 1)) (getS fr (gpos 2)) (getS fr (gpos 7)) (getS fr (gpos 9))) (getS fr (gpos 0)) (getS fr (gpos 1)) (getS fr (gpos 2)) (getS fr (gpos 7)) (getS fr (gpos 9)) m38) (getS fr (gpos 0)) (getS fr (gpos 1)) (getS fr (gpos 2)) (getS fr (gpos 7)) (getS fr (gpos 9)) (getS fr (gpos 10))) (getS fr (gpos 0)) (getS fr (gpos 1)) (getS fr (gpos 2)) (getS fr (gpos 7)) (getS fr (gpos 9)) (getS fr (gpos 10))) (getS fr (gpos 0)) (getS fr (gpos 1)) (getS fr (gpos 2)) (getS fr (gpos 7)) (getS fr (gpos 9)) (getS fr (gpos 10)) m41 (getS fr (gpos 11)) h) (funext fun fr => funext fun h => by kernel_rfl) fun m41 => rCast (funext fun fr => funext fun h => by kernel_rfl) rExact)) rExact))) rExact))) rExact)) rExact) rExact) rExact) rExact) rExact) rExact))

noncomputable def s_lagoonlaw15_TreeTrashB5 (cf : CallK) (fuel : Nat) (j4 : Hp → Prop) (t0 : AV) (t6 : AV) (t9 : AV) (t13 : AV) (h : Hp) : Prop :=
vFaddr 0 t13 h fun t103 h =>
vFaddr 0 t103 h fun t104 h =>
vStore 1 t104 (.int .i64 51) h fun _ h =>
vFaddr 2 t13 h fun t105 h =>
vLoad2 t105 h fun t106 h =>
vAdd t106 (.int .i64 1) h fun t107 h =>
vFaddr 2 t13 h fun t108 h =>
vStore 1 t108 t107 h fun _ h =>
vAdd t0 (.int .i64 1) h fun t111 h =>
cf f_lagoonref4_With [t9, (.int .i64 2), t111] h fun t112 h =>
vFaddr 10 t13 h fun t113 h =>
vStore 1 t113 t112 h fun _ h =>
vBuild [(.int .i64 0), (.int .i64 0)] [] h fun t114 h =>
vFaddr 6 t13 h fun t115 h =>
vStore 2 t115 t114 h fun _ h =>
vLoadA 11 t13 h fun t117 h =>
cf f_movetree_Tree_Apply [t6, t117] h fun t118 h =>
j4 h
noncomputable def s_lagoonlaw15_TreeTrashE3 (cf : CallK) (fuel : Nat) (K : AV → Hp → Prop) (t0 : AV) (t1 : AV) (t5 : AV) (t6 : AV) (t7 : AV) (t9 : AV) (t13 : AV) : Hp → Prop := fun h =>
(fun (j4 : Hp → Prop) =>
vIf t1 (
s_lagoonlaw15_TreeTrashB5 cf fuel j4 t0 t6 t9 t13 h) (
j4 h)) fun h =>
joinG (fun g29 => grdV t5 true (vMov t6 h g29) (g29 undefV h)) fun t121 h =>
joinG (fun g28 => grdV t5 true (vMov t7 h g28) (g28 undefV h)) fun t122 h =>
joinG (fun g27 => grdV t5 true (vMov t0 h g27) (g27 undefV h)) fun t123 h =>
joinG (fun g26 => grdV t5 true (vArith Go.Am.subI t123 (.int .i64 1) h g26) (g26 undefV h)) fun t124 h =>
joinG (fun g25 => grdV t5 true (vIaddr 2 t122 t124 h g25) (g25 undefV h)) fun t125 h =>
joinG (fun g24 => grdV t5 true (vLoadA 2 t125 h g24) (g24 undefV h)) fun t126 h =>
joinG (fun g23 => grdV t5 true (vMov t1 h g23) (g23 undefV h)) fun t128 h =>
joinG (fun g22 => grdV t5 true (cf f_movetree_Tree_Live [t121, t126] h g22) (g22 undefV h)) fun t127 h =>
joinG (fun g21 => grdV t5 true (vEq false eqB t127 t128 h g21) (g21 undefV h)) fun t129 h =>
vPick t5 t129 (.bool .false) h fun t130 h =>
joinG (fun g20 => grdV t130 true (vMov t6 h g20) (g20 undefV h)) fun t132 h =>
joinG (fun g19 => grdV t130 true (vMov t0 h g19) (g19 undefV h)) fun t134 h =>
joinG (fun g18 => grdV t130 true (cf f_movetree_Tree_Len [t132] h g18) (g18 undefV h)) fun t133 h =>
joinG (fun g17 => grdV t130 true (vEql t133 t134 h g17) (g17 undefV h)) fun t135 h =>
vPick t130 t135 (.bool .false) h fun t136 h =>
joinG (fun g16 => grdV t136 true (vMov t6 h g16) (g16 undefV h)) fun t138 h =>
joinG (fun g15 => grdV t136 true (vBuild [(.int .i64 0), (.int .i64 0)] [] h g15) (g15 undefV h)) fun t139 h =>
joinG (fun g14 => grdV t136 true (vMov t7 h g14) (g14 undefV h)) fun t142 h =>
joinG (fun g13 => grdV t136 true (vSlice2 2 t142 none (some (.int .i64 1)) h g13) (g13 undefV h)) fun t143 h =>
joinG (fun g12 => grdV t136 true (vLenL2 t143 h g12) (g12 undefV h)) fun t144 h =>
joinG (fun g11 => grdV t136 true (vMov t1 h g11) (g11 undefV h)) fun t145 h =>
joinG (fun g10 => grdV t136 true (cf f_movetree_Tree_Kids [t138, t139] h g10) (g10 undefV h)) fun t140 h =>
joinG (fun g9 => grdV t136 true (vLenL2 t140 h g9) (g9 undefV h)) fun t141 h =>
joinG (fun g8 => grdV t136 true (cf f_lagoonlaw15_map01 [t145] h g8) (g8 undefV h)) fun t146 h =>
joinG (fun g7 => grdV t136 true (vArith Go.Am.mulI t144 t146 h g7) (g7 undefV h)) fun t147 h =>
joinG (fun g6 => grdV t136 true (vEql t141 t147 h g6) (g6 undefV h)) fun t148 h =>
vPick t136 t148 (.bool .false) h fun t149 h =>
K t149 h
noncomputable def s_lagoonlaw15_TreeTrashB47 (cf : CallK) (fuel : Nat) (K : AV → Hp → Prop) (ih30 : AV → Hp → Prop) (t14 : AV) (t6 : AV) (t7 : AV) (h : Hp) : Prop :=
(fun (e31 : Hp → Prop) =>
vIaddr 2 t7 t14 h fun t80 h =>
vLoadA 2 t80 h fun t81 h =>
cf f_movetree_Tree_Live [t6, t81] h fun t82 h =>
joinG (fun g46 => grdV t82 false (vMov t6 h g46) (g46 undefV h)) fun t84 h =>
joinG (fun g45 => grdV t82 false (vMov t7 h g45) (g45 undefV h)) fun t85 h =>
joinG (fun g44 => grdV t82 false (vMov t14 h g44) (g44 undefV h)) fun t86 h =>
joinG (fun g43 => grdV t82 false (vIaddr 2 t85 t86 h g43) (g43 undefV h)) fun t87 h =>
joinG (fun g42 => grdV t82 false (vLoadA 2 t87 h g42) (g42 undefV h)) fun t88 h =>
joinG (fun g41 => grdV t82 false (cf f_movetree_Tree_Has [t84, t88] h g41) (g41 undefV h)) fun t89 h =>
joinG (fun g40 => grdV t82 false (vNot t89 h g40) (g40 undefV h)) fun t90 h =>
vPick t82 (.bool .true) t90 h fun t91 h =>
joinG (fun g39 => grdV t91 false (vMov t6 h g39) (g39 undefV h)) fun t93 h =>
joinG (fun g38 => grdV t91 false (vMov t7 h g38) (g38 undefV h)) fun t94 h =>
joinG (fun g37 => grdV t91 false (vMov t14 h g37) (g37 undefV h)) fun t95 h =>
joinG (fun g36 => grdV t91 false (vIaddr 2 t94 t95 h g36) (g36 undefV h)) fun t96 h =>
joinG (fun g35 => grdV t91 false (vLoadA 2 t96 h g35) (g35 undefV h)) fun t97 h =>
joinG (fun g34 => grdV t91 false (vBuild [(.int .i64 0), (.int .i64 0)] [(1, 1, (.int .i64 1))] h g34) (g34 undefV h)) fun t98 h =>
joinG (fun g33 => grdV t91 false (cf f_movetree_Tree_Below [t93, t97, t98] h g33) (g33 undefV h)) fun t99 h =>
joinG (fun g32 => grdV t91 false (vNot t99 h g32) (g32 undefV h)) fun t100 h =>
vPick t91 (.bool .true) t100 h fun t101 h =>
vIf t101 (
K (.bool .false) h) (
e31 h)) fun h =>
vAdd t14 (.int .i64 1) h fun t76 h =>
ih30 t76 h
noncomputable def s_lagoonlaw15_TreeTrashL30B (cf : CallK) (fuel : Nat) (K : AV → Hp → Prop) (e3 : Hp → Prop) (t0 : AV) (t1 : AV) (t5 : AV) (t6 : AV) (t7 : AV) (t9 : AV) (t13 : AV) (ih30 : AV → Hp → Prop) : AV → Hp → Prop := fun t14 h =>
vLss t14 t0 h fun t74 h =>
vIf t74 (
s_lagoonlaw15_TreeTrashB47 cf fuel K ih30 t14 t6 t7 h) (
e3 h)
noncomputable def s_lagoonlaw15_TreeTrashL30 (cf : CallK) (fuel : Nat) (K : AV → Hp → Prop) (e3 : Hp → Prop) (t0 : AV) (t1 : AV) (t5 : AV) (t6 : AV) (t7 : AV) (t9 : AV) (t13 : AV) (m : Nat) : AV → Hp → Prop := Nat.rec (motive := fun _ => AV → Hp → Prop) (fun _ _ => False) (fun _ ih => s_lagoonlaw15_TreeTrashL30B cf fuel K e3 t0 t1 t5 t6 t7 t9 t13 ih) m
theorem s_lagoonlaw15_TreeTrashL30_succ (cf : CallK) (fuel : Nat) (K : AV → Hp → Prop) (e3 : Hp → Prop) (t0 : AV) (t1 : AV) (t5 : AV) (t6 : AV) (t7 : AV) (t9 : AV) (t13 : AV) (m : Nat) : s_lagoonlaw15_TreeTrashL30 cf fuel K e3 t0 t1 t5 t6 t7 t9 t13 (m + 1) = s_lagoonlaw15_TreeTrashL30B cf fuel K e3 t0 t1 t5 t6 t7 t9 t13 (s_lagoonlaw15_TreeTrashL30 cf fuel K e3 t0 t1 t5 t6 t7 t9 t13 m) := rfl
noncomputable def s_lagoonlaw15_TreeTrashE2 (cf : CallK) (fuel : Nat) (K : AV → Hp → Prop) (t0 : AV) (t1 : AV) (t5 : AV) (t6 : AV) : AV → AV → Hp → Prop := fun t7 t9 h =>
vBuild [(.int .i64 0), (.int .i64 0)] [(0, 1, (.int .i64 50)), (1, 1, (.int .i64 2))] h fun t60 h =>
vAdd t0 (.int .i64 1) h fun t62 h =>
vIaddr 2 t7 (.int .i64 0) h fun t64 h =>
vLoadA 2 t64 h fun t65 h =>
vBuild [(.int .i64 0), (.int .i64 0)] [(1, 1, (.int .i64 1))] h fun t66 h =>
vBuild [(.int .i64 0), (.int .i64 0), (.int .i64 0), (.int .i64 0), (.int .i64 0), (.int .i64 0), (.int .i64 0), (.int .i64 0), (.str 0 0), .nilslice, .nilslice] [(0, 2, t60), (2, 1, t62), (3, 1, (.int .i64 3)), (4, 2, t65), (6, 2, t66), (8, 1, (.str 1 100)), (10, 1, t9)] h fun t68 h =>
vBox 11 (.agg [(.int .i64 0), (.int .i64 0), (.int .i64 0), (.int .i64 0), (.int .i64 0), (.int .i64 0), (.int .i64 0), (.int .i64 0), (.str 0 0), .nilslice, .nilslice]) h fun t13 h =>
vStore 11 t13 t68 h fun _ h =>
vLoadA 11 t13 h fun t70 h =>
cf f_movetree_Tree_Apply [t6, t70] h fun t71 h =>
(fun (e3 : Hp → Prop) =>
s_lagoonlaw15_TreeTrashL30 cf fuel K (s_lagoonlaw15_TreeTrashE3 cf fuel K t0 t1 t5 t6 t7 t9 t13) t0 t1 t5 t6 t7 t9 t13 fuel (.int .i64 0) h) (s_lagoonlaw15_TreeTrashE3 cf fuel K t0 t1 t5 t6 t7 t9 t13)
noncomputable def s_lagoonlaw15_TreeTrashB50 (cf : CallK) (fuel : Nat) (ih48 : AV → AV → AV → Hp → Prop) (t10 : AV) (t6 : AV) (t8 : AV) (t7 : AV) (t9 : AV) (h : Hp) : Prop :=
(fun (e49 : AV → AV → Hp → Prop) =>
vAdd t10 (.int .i64 1) h fun t39 h =>
vBuild [(.int .i64 0), (.int .i64 0)] [(0, 1, t39), (1, 1, (.int .i64 2))] h fun t40 h =>
vBox 2 (.agg [(.int .i64 0), (.int .i64 0)]) h fun t11 h =>
vStore 2 t11 t40 h fun _ h =>
vLoadA 2 t11 h fun t41 h =>
vAdd t10 (.int .i64 1) h fun t43 h =>
vLoadA 2 t11 h fun t44 h =>
vLoadA 2 t8 h fun t45 h =>
vBuild [(.int .i64 0), (.int .i64 0), (.int .i64 0), (.int .i64 0), (.int .i64 0), (.int .i64 0), (.int .i64 0), (.int .i64 0), (.str 0 0), .nilslice, .nilslice] [(0, 2, t41), (2, 1, t43), (3, 1, (.int .i64 1)), (4, 2, t44), (6, 2, t45), (8, 1, (.str 1 100)), (10, 1, t9)] h fun t47 h =>
vBox 11 (.agg [(.int .i64 0), (.int .i64 0), (.int .i64 0), (.int .i64 0), (.int .i64 0), (.int .i64 0), (.int .i64 0), (.int .i64 0), (.str 0 0), .nilslice, .nilslice]) h fun t12 h =>
vStore 11 t12 t47 h fun _ h =>
vLoadA 11 t12 h fun t49 h =>
cf f_movetree_Tree_Apply [t6, t49] h fun t50 h =>
vLoadA 2 t11 h fun t52 h =>
vBslice 2 1 false [(.int .i64 0), (.int .i64 0)] [(0, 2, t52)] h fun t53 h =>
vAppend2 2 16 false t7 t53 h fun t54 h =>
vLoadA 2 t11 h fun t55 h =>
vStore 2 t8 t55 h fun _ h =>
vAdd t10 (.int .i64 1) h fun t58 h =>
cf f_lagoonref4_With [t9, (.int .i64 2), t58] h fun t59 h =>
e49 t54 t59 h) fun t7 t9 h =>
vAdd t10 (.int .i64 1) h fun t37 h =>
ih48 t7 t9 t37 h
noncomputable def s_lagoonlaw15_TreeTrashL48B (cf : CallK) (fuel : Nat) (e2 : AV → AV → Hp → Prop) (t0 : AV) (t1 : AV) (t5 : AV) (t6 : AV) (t8 : AV) (ih48 : AV → AV → AV → Hp → Prop) : AV → AV → AV → Hp → Prop := fun t7 t9 t10 h =>
vLss t10 t0 h fun t35 h =>
vIf t35 (
s_lagoonlaw15_TreeTrashB50 cf fuel ih48 t10 t6 t8 t7 t9 h) (
e2 t7 t9 h)
noncomputable def s_lagoonlaw15_TreeTrashL48 (cf : CallK) (fuel : Nat) (e2 : AV → AV → Hp → Prop) (t0 : AV) (t1 : AV) (t5 : AV) (t6 : AV) (t8 : AV) (m : Nat) : AV → AV → AV → Hp → Prop := Nat.rec (motive := fun _ => AV → AV → AV → Hp → Prop) (fun _ _ _ _ => False) (fun _ ih => s_lagoonlaw15_TreeTrashL48B cf fuel e2 t0 t1 t5 t6 t8 ih) m
theorem s_lagoonlaw15_TreeTrashL48_succ (cf : CallK) (fuel : Nat) (e2 : AV → AV → Hp → Prop) (t0 : AV) (t1 : AV) (t5 : AV) (t6 : AV) (t8 : AV) (m : Nat) : s_lagoonlaw15_TreeTrashL48 cf fuel e2 t0 t1 t5 t6 t8 (m + 1) = s_lagoonlaw15_TreeTrashL48B cf fuel e2 t0 t1 t5 t6 t8 (s_lagoonlaw15_TreeTrashL48 cf fuel e2 t0 t1 t5 t6 t8 m) := rfl
noncomputable def s_lagoonlaw15_TreeTrash (cf : CallK) (fuel : Nat) (t0 : AV) (t1 : AV) (h : Hp) (K : AV → Hp → Prop) : Prop :=
cf f_lagoonlaw15_begun [] h fun t15 h =>
cf f_movetree_New [] h fun t16 h =>
vEq false eqP t16 .nilptr h fun t18 h =>
joinG (fun g54 => grdV t18 false (vMov t0 h g54) (g54 undefV h)) fun t20 h =>
joinG (fun g53 => grdV t18 false (vLss t20 (.int .i64 1) h g53) (g53 undefV h)) fun t21 h =>
vPick t18 (.bool .true) t21 h fun t22 h =>
joinG (fun g52 => grdV t22 false (vMov t0 h g52) (g52 undefV h)) fun t24 h =>
joinG (fun g51 => grdV t22 false (vGtr t24 (.int .i64 20) h g51) (g51 undefV h)) fun t25 h =>
vPick t22 (.bool .true) t25 h fun t26 h =>
vIf t26 (
joinG (fun g1 => grdV t15 true (vMov t16 h g1) (g1 undefV h)) fun t29 h =>
joinG (fun g0 => grdV t15 true (vEq true eqP t29 .nilptr h g0) (g0 undefV h)) fun t30 h =>
vPick t15 t30 (.bool .false) h fun t31 h =>
K t31 h) (
vBuild [(.int .i64 0), (.int .i64 0)] [] h fun t32 h =>
vBox 2 (.agg [(.int .i64 0), (.int .i64 0)]) h fun t8 h =>
vStore 2 t8 t32 h fun _ h =>
(fun (e2 : AV → AV → Hp → Prop) =>
s_lagoonlaw15_TreeTrashL48 cf fuel (s_lagoonlaw15_TreeTrashE2 cf fuel K t0 t1 t15 t16) t0 t1 t15 t16 t8 fuel .nilslice .nilslice (.int .i64 0) h) (s_lagoonlaw15_TreeTrashE2 cf fuel K t0 t1 t15 t16))
theorem s_lagoonlaw15_TreeTrash_eq (cf : CallK) (fuel : Nat) (t0 : AV) (t1 : AV) (h : Hp) (K : AV → Hp → Prop) : s_lagoonlaw15_TreeTrash cf fuel t0 t1 h K = deepT (tabOf Try.prog) f_lagoonlaw15_TreeTrash cf fuel [t0, t1] h K :=
  Eq.trans (by kernel_rfl) (rFun (by kernel_rfl) (rSeq (by kernel_rfl) (rSeq (by kernel_rfl) (rSeq (by kernel_rfl) (rSeq (by kernel_rfl) (rSeq (by kernel_rfl) (rSeq (by kernel_rfl) (rSeq (by kernel_rfl) (rSeq (by kernel_rfl) (rSeq (by kernel_rfl) (rSeq (by kernel_rfl) (rSeq (by kernel_rfl) rExact (rSeq (by kernel_rfl) (rBlock (by kernel_rfl) (rLoop (by kernel_rfl) (fun m30 fr h => s_lagoonlaw15_TreeTrashL30 cf fuel K (s_lagoonlaw15_TreeTrashE3 cf fuel K (getS fr (gpos 0)) (getS fr (gpos 1)) (getS fr (gpos 5)) (getS fr (gpos 6)) (getS fr (gpos 7)) (getS fr (gpos 9)) (getS fr (gpos 13))) (getS fr (gpos 0)) (getS fr (gpos 1)) (getS fr (gpos 5)) (getS fr (gpos 6)) (getS fr (gpos 7)) (getS fr (gpos 9)) (getS fr (gpos 13)) m30 (getS fr (gpos 14)) h) (funext fun fr => funext fun h => by kernel_rfl) fun m30 => rCast (funext fun fr => funext fun h => by kernel_rfl) rExact)) rExact)) rExact) rExact) (rSeq (by kernel_rfl) (rBlock (by kernel_rfl) (rLoop (by kernel_rfl) (fun m48 fr h => s_lagoonlaw15_TreeTrashL48 cf fuel (s_lagoonlaw15_TreeTrashE2 cf fuel K (getS fr (gpos 0)) (getS fr (gpos 1)) (getS fr (gpos 5)) (getS fr (gpos 6))) (getS fr (gpos 0)) (getS fr (gpos 1)) (getS fr (gpos 5)) (getS fr (gpos 6)) (getS fr (gpos 8)) m48 (getS fr (gpos 7)) (getS fr (gpos 9)) (getS fr (gpos 10)) h) (funext fun fr => funext fun h => by kernel_rfl) fun m48 => rCast (funext fun fr => funext fun h => by kernel_rfl) rExact)) rExact)) rExact) rExact) rExact) rExact) rExact) rExact) rExact))

noncomputable def s_lagoonlaw7_begunB27 (cf : CallK) (fuel : Nat) (K : AV → Hp → Prop) (t18 : AV) (t14 : AV) (h : Hp) : Prop :=
vBslice 1 1 true [(.int .u8 0)] [(0, 1, (.int .u8 120))] h fun t22 h =>
vStrish t22 h fun t23 h =>
cf f_lagoonlaw1_Full [t23, (.int .i64 512)] h fun t24 h =>
cf f_bcache_Cache_Put [t18, (.int .i64 3), t24] h fun t25 h =>
cf f_bcache_Cache_Get [t18, (.int .i64 4)] h fun t28 h =>
vExtract 0 t28 h fun t29 h =>
vExtract 1 t28 h fun t30 h =>
cf f_bcache_Cache_Commit [t18] h fun t32 h =>
cf f_bcache_Cache_Get [t18, (.int .i64 4)] h fun t35 h =>
vExtract 0 t35 h fun t36 h =>
vExtract 1 t35 h fun t37 h =>
cf f_bcache_Cache_Counts [t18] h fun t40 h =>
vExtract 0 t40 h fun t41 h =>
vExtract 1 t40 h fun t42 h =>
vExtract 2 t40 h fun t43 h =>
cf f_wal_Volume_Read [t14, (.int .i64 3)] h fun t46 h =>
vExtract 0 t46 h fun t47 h =>
vExtract 1 t46 h fun t48 h =>
vEql t25 (.int .i64 0) h fun t50 h =>
joinG (fun g26 => grdV t50 true (vMov t30 h g26) (g26 undefV h)) fun t52 h =>
joinG (fun g25 => grdV t50 true (vEql t52 (.int .i64 28) h g25) (g25 undefV h)) fun t53 h =>
vPick t50 t53 (.bool .false) h fun t54 h =>
joinG (fun g24 => grdV t54 true (vMov t32 h g24) (g24 undefV h)) fun t56 h =>
joinG (fun g23 => grdV t54 true (vEql t56 (.int .i64 0) h g23) (g23 undefV h)) fun t57 h =>
vPick t54 t57 (.bool .false) h fun t58 h =>
joinG (fun g22 => grdV t58 true (vMov t37 h g22) (g22 undefV h)) fun t60 h =>
joinG (fun g21 => grdV t58 true (vEql t60 (.int .i64 0) h g21) (g21 undefV h)) fun t61 h =>
vPick t58 t61 (.bool .false) h fun t62 h =>
joinG (fun g20 => grdV t62 true (vMov t36 h g20) (g20 undefV h)) fun t64 h =>
joinG (fun g19 => grdV t62 true (vLenL2 t64 h g19) (g19 undefV h)) fun t65 h =>
joinG (fun g18 => grdV t62 true (vEql t65 (.int .i64 512) h g18) (g18 undefV h)) fun t66 h =>
vPick t62 t66 (.bool .false) h fun t67 h =>
joinG (fun g17 => grdV t67 true (vMov t42 h g17) (g17 undefV h)) fun t69 h =>
joinG (fun g16 => grdV t67 true (vEql t69 (.int .i64 1) h g16) (g16 undefV h)) fun t70 h =>
vPick t67 t70 (.bool .false) h fun t71 h =>
joinG (fun g15 => grdV t71 true (vMov t43 h g15) (g15 undefV h)) fun t73 h =>
joinG (fun g14 => grdV t71 true (vEql t73 (.int .i64 1) h g14) (g14 undefV h)) fun t74 h =>
vPick t71 t74 (.bool .false) h fun t75 h =>
joinG (fun g13 => grdV t75 true (vMov t48 h g13) (g13 undefV h)) fun t77 h =>
joinG (fun g12 => grdV t75 true (vEql t77 (.int .i64 0) h g12) (g12 undefV h)) fun t78 h =>
vPick t75 t78 (.bool .false) h fun t79 h =>
joinG (fun g11 => grdV t79 true (vMov t47 h g11) (g11 undefV h)) fun t81 h =>
joinG (fun g10 => grdV t79 true (vLenL2 t81 h g10) (g10 undefV h)) fun t82 h =>
joinG (fun g9 => grdV t79 true (vEql t82 (.int .i64 512) h g9) (g9 undefV h)) fun t83 h =>
vPick t79 t83 (.bool .false) h fun t84 h =>
joinG (fun g8 => grdV t84 true (vMov t47 h g8) (g8 undefV h)) fun t86 h =>
joinG (fun g7 => grdV t84 true (vIaddr 1 t86 (.int .i64 0) h g7) (g7 undefV h)) fun t87 h =>
joinG (fun g6 => grdV t84 true (vLoad2 t87 h g6) (g6 undefV h)) fun t88 h =>
joinG (fun g5 => grdV t84 true (vEql t88 (.int .u8 120) h g5) (g5 undefV h)) fun t89 h =>
vPick t84 t89 (.bool .false) h fun t90 h =>
joinG (fun g4 => grdV t90 true (vMov t18 h g4) (g4 undefV h)) fun t92 h =>
joinG (fun g3 => grdV t90 true (cf f_bcache_Cache_Has [t92, (.int .i64 3)] h g3) (g3 undefV h)) fun t93 h =>
joinG (fun g2 => grdV t90 true (vNot t93 h g2) (g2 undefV h)) fun t94 h =>
vPick t90 t94 (.bool .false) h fun t95 h =>
joinG (fun g1 => grdV t95 true (vMov t18 h g1) (g1 undefV h)) fun t97 h =>
joinG (fun g0 => grdV t95 true (cf f_bcache_Cache_Has [t97, (.int .i64 4)] h g0) (g0 undefV h)) fun t98 h =>
vPick t95 t98 (.bool .false) h fun t99 h =>
K t99 h
noncomputable def s_lagoonlaw7_begun (cf : CallK) (fuel : Nat) (h : Hp) (K : AV → Hp → Prop) : Prop :=
cf f_lagoonlaw7_Volume [(.int .i64 8)] h fun t14 h =>
vEq false eqP t14 .nilptr h fun t16 h =>
vIf t16 (
K (.bool .false) h) (
cf f_bcache_New [t14, (.int .i64 1)] h fun t18 h =>
vEq false eqP t18 .nilptr h fun t20 h =>
vIf t20 (
K (.bool .false) h) (
s_lagoonlaw7_begunB27 cf fuel K t18 t14 h))
theorem s_lagoonlaw7_begun_eq (cf : CallK) (fuel : Nat) (h : Hp) (K : AV → Hp → Prop) : s_lagoonlaw7_begun cf fuel h K = deepT (tabOf Try.prog) f_lagoonlaw7_begun cf fuel [] h K :=
  Eq.trans (by kernel_rfl) (rFun (by kernel_rfl) rExact)

noncomputable def s_lagoonlaw7_Volume (cf : CallK) (fuel : Nat) (t0 : AV) (h : Hp) (K : AV → Hp → Prop) : Prop :=
vArith Go.Am.mulI (.int .i64 4) t0 h fun t8 h =>
vAdd t8 (.int .i64 8) h fun t9 h =>
cf f_device_New [t9] h fun t10 h =>
cf f_wal_Format [t10] h fun t12 h =>
cf f_wal_Mount [t10] h fun t15 h =>
vExtract 0 t15 h fun t16 h =>
vExtract 1 t15 h fun t17 h =>
vNeq t12 (.int .i64 0) h fun t19 h =>
joinG (fun g1 => grdV t19 false (vMov t17 h g1) (g1 undefV h)) fun t21 h =>
joinG (fun g0 => grdV t19 false (vNeq t21 (.int .i64 0) h g0) (g0 undefV h)) fun t22 h =>
vPick t19 (.bool .true) t22 h fun t23 h =>
vIf t23 (
K .nilptr h) (
K t16 h)
theorem s_lagoonlaw7_Volume_eq (cf : CallK) (fuel : Nat) (t0 : AV) (h : Hp) (K : AV → Hp → Prop) : s_lagoonlaw7_Volume cf fuel t0 h K = deepT (tabOf Try.prog) f_lagoonlaw7_Volume cf fuel [t0] h K :=
  Eq.trans (by kernel_rfl) (rFun (by kernel_rfl) rExact)

noncomputable def s_bcache_New (cf : CallK) (fuel : Nat) (t0 : AV) (t1 : AV) (h : Hp) (K : AV → Hp → Prop) : Prop :=
vEq false eqP t0 .nilptr h fun t6 h =>
joinG (fun g3 => grdV t6 false (vMov t1 h g3) (g3 undefV h)) fun t8 h =>
joinG (fun g2 => grdV t6 false (vLss t8 (.int .i64 1) h g2) (g2 undefV h)) fun t9 h =>
vPick t6 (.bool .true) t9 h fun t10 h =>
joinG (fun g1 => grdV t10 false (vMov t1 h g1) (g1 undefV h)) fun t12 h =>
joinG (fun g0 => grdV t10 false (vGtr t12 (.int .i64 4096) h g0) (g0 undefV h)) fun t13 h =>
vPick t10 (.bool .true) t13 h fun t14 h =>
vIf t14 (
K .nilptr h) (
vMkMap h fun t17 h =>
vBuild [.nilptr, (.int .i64 0), .nilmap, (.int .i64 0), (.int .i64 0), (.int .i64 0), (.int .i64 0)] [(0, 1, t0), (1, 1, t1), (2, 1, t17)] h fun t18 h =>
vBox 7 t18 h fun t19 h =>
K t19 h)
theorem s_bcache_New_eq (cf : CallK) (fuel : Nat) (t0 : AV) (t1 : AV) (h : Hp) (K : AV → Hp → Prop) : s_bcache_New cf fuel t0 t1 h K = deepT (tabOf Try.prog) f_bcache_New cf fuel [t0, t1] h K :=
  Eq.trans (by kernel_rfl) (rFun (by kernel_rfl) rExact)

noncomputable def s_bcache_Cache_Get (cf : CallK) (fuel : Nat) (t0 : AV) (t1 : AV) (h : Hp) (K : AV → Hp → Prop) : Prop :=
cf f_bcache_Cache_got [t0, t1] h fun t11 h =>
vExtract 0 t11 h fun t12 h =>
vExtract 1 t11 h fun t13 h =>
vNeq t13 (.int .i64 0) h fun t15 h =>
vIf t15 (
K (.tup [.nilslice, t13]) h) (
vNilck t12 h fun t18 h =>
vFaddr 1 t18 h fun t19 h =>
vLoad2 t19 h fun t20 h =>
cf f_bytes_Clone [t20] h fun t21 h =>
K (.tup [t21, (.int .i64 0)]) h)
theorem s_bcache_Cache_Get_eq (cf : CallK) (fuel : Nat) (t0 : AV) (t1 : AV) (h : Hp) (K : AV → Hp → Prop) : s_bcache_Cache_Get cf fuel t0 t1 h K = deepT (tabOf Try.prog) f_bcache_Cache_Get cf fuel [t0, t1] h K :=
  Eq.trans (by kernel_rfl) (rFun (by kernel_rfl) rExact)

noncomputable def s_bcache_Cache_Counts (cf : CallK) (fuel : Nat) (t0 : AV) (h : Hp) (K : AV → Hp → Prop) : Prop :=
vEq false eqP t0 .nilptr h fun t6 h =>
vIf t6 (
K (.tup [(.int .i64 0), (.int .i64 0), (.int .i64 0)]) h) (
vNilck t0 h fun t8 h =>
vFaddr 4 t8 h fun t9 h =>
vLoad2 t9 h fun t10 h =>
vNilck t0 h fun t12 h =>
vFaddr 5 t12 h fun t13 h =>
vLoad2 t13 h fun t14 h =>
vNilck t0 h fun t16 h =>
vFaddr 6 t16 h fun t17 h =>
vLoad2 t17 h fun t18 h =>
K (.tup [t10, t14, t18]) h)
theorem s_bcache_Cache_Counts_eq (cf : CallK) (fuel : Nat) (t0 : AV) (h : Hp) (K : AV → Hp → Prop) : s_bcache_Cache_Counts cf fuel t0 h K = deepT (tabOf Try.prog) f_bcache_Cache_Counts cf fuel [t0] h K :=
  Eq.trans (by kernel_rfl) (rFun (by kernel_rfl) rExact)

noncomputable def s_bcache_Cache_HeldE0 (cf : CallK) (fuel : Nat) (K : AV → Hp → Prop) : AV → Hp → Prop := fun t3 h =>
cf f_slices_Sort_int_int [t3] h fun t21 h =>
K t3 h
noncomputable def s_bcache_Cache_HeldL1B (cf : CallK) (fuel : Nat) (e0 : AV → Hp → Prop) (t11 : AV) (ih1 : AV → Hp → Prop) : AV → Hp → Prop := fun t3 h =>
vNextM t11 h fun t12 h =>
vExtract 0 t12 h fun t13 h =>
vIf t13 (
(fun (e2 : AV → Hp → Prop) =>
vEntry t11 h fun t14 h =>
vExtract 0 t14 h fun t15 h =>
vBslice 1 1 false [(.int .i64 0)] [(0, 1, t15)] h fun t18 h =>
vAppend2 1 8 false t3 t18 h fun t19 h =>
e2 t19 h) fun t3 h =>
ih1 t3 h) (
e0 t3 h)
noncomputable def s_bcache_Cache_HeldL1 (cf : CallK) (fuel : Nat) (e0 : AV → Hp → Prop) (t11 : AV) (m : Nat) : AV → Hp → Prop := Nat.rec (motive := fun _ => AV → Hp → Prop) (fun _ _ => False) (fun _ ih => s_bcache_Cache_HeldL1B cf fuel e0 t11 ih) m
theorem s_bcache_Cache_HeldL1_succ (cf : CallK) (fuel : Nat) (e0 : AV → Hp → Prop) (t11 : AV) (m : Nat) : s_bcache_Cache_HeldL1 cf fuel e0 t11 (m + 1) = s_bcache_Cache_HeldL1B cf fuel e0 t11 (s_bcache_Cache_HeldL1 cf fuel e0 t11 m) := rfl
noncomputable def s_bcache_Cache_Held (cf : CallK) (fuel : Nat) (t0 : AV) (h : Hp) (K : AV → Hp → Prop) : Prop :=
vEq false eqP t0 .nilptr h fun t6 h =>
vIf t6 (
K .nilslice h) (
vNilck t0 h fun t8 h =>
vFaddr 2 t8 h fun t9 h =>
vLoad2 t9 h fun t10 h =>
vRangeM t10 h fun t11 h =>
(fun (e0 : AV → Hp → Prop) =>
s_bcache_Cache_HeldL1 cf fuel (s_bcache_Cache_HeldE0 cf fuel K) t11 fuel .nilslice h) (s_bcache_Cache_HeldE0 cf fuel K))
theorem s_bcache_Cache_Held_eq (cf : CallK) (fuel : Nat) (t0 : AV) (h : Hp) (K : AV → Hp → Prop) : s_bcache_Cache_Held cf fuel t0 h K = deepT (tabOf Try.prog) f_bcache_Cache_Held cf fuel [t0] h K :=
  Eq.trans (by kernel_rfl) (rFun (by kernel_rfl) (rSeq (by kernel_rfl) (rSeq (by kernel_rfl) (rSeq (by kernel_rfl) (rSeq (by kernel_rfl) rExact (rSeq (by kernel_rfl) (rBlock (by kernel_rfl) (rLoop (by kernel_rfl) (fun m1 fr h => s_bcache_Cache_HeldL1 cf fuel (s_bcache_Cache_HeldE0 cf fuel K) (getS fr (gpos 11)) m1 (getS fr (gpos 3)) h) (funext fun fr => funext fun h => by kernel_rfl) fun m1 => rCast (funext fun fr => funext fun h => by kernel_rfl) rExact)) rExact)) rExact) rExact) rExact))

noncomputable def s_lagoonlaw15_begunB36 (cf : CallK) (fuel : Nat) (K : AV → Hp → Prop) (t11 : AV) (h : Hp) : Prop :=
vBuild [(.int .i64 0), (.int .i64 0)] [(0, 1, (.int .i64 1)), (1, 1, (.int .i64 0))] h fun t14 h =>
vBuild [(.int .i64 0), (.int .i64 0)] [(0, 1, (.int .i64 2)), (1, 1, (.int .i64 0))] h fun t15 h =>
vBox 2 (.agg [(.int .i64 0), (.int .i64 0)]) h fun t2 h =>
vBox 2 (.agg [(.int .i64 0), (.int .i64 0)]) h fun t3 h =>
vStore 2 t2 t14 h fun _ h =>
vStore 2 t3 t15 h fun _ h =>
vLoadA 2 t3 h fun t18 h =>
vLoadA 2 t3 h fun t19 h =>
vLoadA 2 t2 h fun t20 h =>
vBslice 1 1 false [(.int .i64 0)] [(0, 1, (.int .i64 1))] h fun t21 h =>
vBuild [(.int .i64 0), (.int .i64 0), (.int .i64 0), (.int .i64 0), (.int .i64 0), (.int .i64 0), (.int .i64 0), (.int .i64 0), (.str 0 0), .nilslice, .nilslice] [(0, 2, t18), (2, 1, (.int .i64 2)), (3, 1, (.int .i64 2)), (4, 2, t19), (6, 2, t20), (8, 1, (.str 1 102)), (10, 1, t21)] h fun t22 h =>
cf f_movetree_Tree_Apply [t11, t22] h fun t23 h =>
vExtract 0 t23 h fun t24 h =>
vExtract 1 t23 h fun t25 h =>
vLoadA 2 t2 h fun t28 h =>
vLoadA 2 t2 h fun t29 h =>
vBuild [(.int .i64 0), (.int .i64 0), (.int .i64 0), (.int .i64 0), (.int .i64 0), (.int .i64 0), (.int .i64 0), (.int .i64 0), (.str 0 0), .nilslice, .nilslice] [(0, 2, t28), (2, 1, (.int .i64 1)), (3, 1, (.int .i64 1)), (4, 2, t29), (8, 1, (.str 1 100))] h fun t30 h =>
cf f_movetree_Tree_Apply [t11, t30] h fun t31 h =>
vExtract 0 t31 h fun t32 h =>
vExtract 1 t31 h fun t33 h =>
vLoadA 2 t3 h fun t36 h =>
cf f_movetree_Tree_Parent [t11, t36] h fun t37 h =>
vExtract 0 t37 h fun t38 h =>
vExtract 1 t37 h fun t39 h =>
vExtract 2 t37 h fun t40 h =>
vBox 2 (.agg [(.int .i64 0), (.int .i64 0)]) h fun t8 h =>
vStore 2 t8 t38 h fun _ h =>
vEql t24 (.int .i64 0) h fun t42 h =>
joinG (fun g35 => grdV t42 true (vMov t25 h g35) (g35 undefV h)) fun t44 h =>
joinG (fun g34 => grdV t42 true (vEql t44 (.int .i64 0) h g34) (g34 undefV h)) fun t45 h =>
vPick t42 t45 (.bool .false) h fun t46 h =>
joinG (fun g33 => grdV t46 true (vMov t32 h g33) (g33 undefV h)) fun t48 h =>
joinG (fun g32 => grdV t46 true (vEql t48 (.int .i64 1) h g32) (g32 undefV h)) fun t49 h =>
vPick t46 t49 (.bool .false) h fun t50 h =>
joinG (fun g31 => grdV t50 true (vMov t33 h g31) (g31 undefV h)) fun t52 h =>
joinG (fun g30 => grdV t50 true (vEql t52 (.int .i64 0) h g30) (g30 undefV h)) fun t53 h =>
vPick t50 t53 (.bool .false) h fun t54 h =>
joinG (fun g29 => grdV t54 true (vMov t40 h g29) (g29 undefV h)) fun t56 h =>
vPick t54 t56 (.bool .false) h fun t57 h =>
joinG (fun g28 => grdV t57 true (vMov t39 h g28) (g28 undefV h)) fun t59 h =>
joinG (fun g27 => grdV t57 true (vEql t59 (.str 1 102) h g27) (g27 undefV h)) fun t60 h =>
vPick t57 t60 (.bool .false) h fun t61 h =>
joinG (fun g26 => grdV t61 true (vLoadA 2 t8 h g26) (g26 undefV h)) fun t63 h =>
joinG (fun g25 => grdV t61 true (vLoadA 2 t2 h g25) (g25 undefV h)) fun t64 h =>
joinG (fun g24 => grdV t61 true (cf f_lagoonref4_Same [t63, t64] h g24) (g24 undefV h)) fun t65 h =>
vPick t61 t65 (.bool .false) h fun t66 h =>
joinG (fun g23 => grdV t66 true (vMov t11 h g23) (g23 undefV h)) fun t68 h =>
joinG (fun g22 => grdV t66 true (vLoadA 2 t3 h g22) (g22 undefV h)) fun t69 h =>
joinG (fun g21 => grdV t66 true (cf f_movetree_Tree_Live [t68, t69] h g21) (g21 undefV h)) fun t70 h =>
vPick t66 t70 (.bool .false) h fun t71 h =>
joinG (fun g20 => grdV t71 true (vMov t11 h g20) (g20 undefV h)) fun t73 h =>
joinG (fun g19 => grdV t71 true (vLoadA 2 t3 h g19) (g19 undefV h)) fun t74 h =>
joinG (fun g18 => grdV t71 true (vLoadA 2 t2 h g18) (g18 undefV h)) fun t75 h =>
joinG (fun g17 => grdV t71 true (cf f_movetree_Tree_Below [t73, t74, t75] h g17) (g17 undefV h)) fun t76 h =>
vPick t71 t76 (.bool .false) h fun t77 h =>
joinG (fun g16 => grdV t77 true (vMov t11 h g16) (g16 undefV h)) fun t79 h =>
joinG (fun g15 => grdV t77 true (cf f_movetree_Tree_Len [t79] h g15) (g15 undefV h)) fun t80 h =>
joinG (fun g14 => grdV t77 true (vEql t80 (.int .i64 2) h g14) (g14 undefV h)) fun t81 h =>
vPick t77 t81 (.bool .false) h fun t82 h =>
joinG (fun g13 => grdV t82 true (vMov t11 h g13) (g13 undefV h)) fun t84 h =>
joinG (fun g12 => grdV t82 true (vLoadA 2 t2 h g12) (g12 undefV h)) fun t85 h =>
joinG (fun g11 => grdV t82 true (cf f_movetree_Tree_Kids [t84, t85] h g11) (g11 undefV h)) fun t86 h =>
joinG (fun g10 => grdV t82 true (vLenL2 t86 h g10) (g10 undefV h)) fun t87 h =>
joinG (fun g9 => grdV t82 true (vEql t87 (.int .i64 1) h g9) (g9 undefV h)) fun t88 h =>
vPick t82 t88 (.bool .false) h fun t89 h =>
joinG (fun g8 => grdV t89 true (vMov t11 h g8) (g8 undefV h)) fun t91 h =>
joinG (fun g7 => grdV t89 true (vLoadA 2 t2 h g7) (g7 undefV h)) fun t92 h =>
joinG (fun g6 => grdV t89 true (cf f_movetree_Tree_Dir [t91, t92] h g6) (g6 undefV h)) fun t93 h =>
vPick t89 t93 (.bool .false) h fun t94 h =>
joinG (fun g5 => grdV t94 true (vMov t11 h g5) (g5 undefV h)) fun t96 h =>
joinG (fun g4 => grdV t94 true (vLoadA 2 t3 h g4) (g4 undefV h)) fun t97 h =>
joinG (fun g3 => grdV t94 true (cf f_movetree_Tree_Has [t96, t97] h g3) (g3 undefV h)) fun t98 h =>
vPick t94 t98 (.bool .false) h fun t99 h =>
joinG (fun g2 => grdV t99 true (vMov t11 h g2) (g2 undefV h)) fun t101 h =>
joinG (fun g1 => grdV t99 true (cf f_movetree_Tree_Skipped [t101] h g1) (g1 undefV h)) fun t102 h =>
joinG (fun g0 => grdV t99 true (vEql t102 (.int .i64 0) h g0) (g0 undefV h)) fun t103 h =>
vPick t99 t103 (.bool .false) h fun t104 h =>
K t104 h
noncomputable def s_lagoonlaw15_begun (cf : CallK) (fuel : Nat) (h : Hp) (K : AV → Hp → Prop) : Prop :=
cf f_movetree_New [] h fun t11 h =>
vEq false eqP t11 .nilptr h fun t13 h =>
vIf t13 (
K (.bool .false) h) (
s_lagoonlaw15_begunB36 cf fuel K t11 h)
theorem s_lagoonlaw15_begun_eq (cf : CallK) (fuel : Nat) (h : Hp) (K : AV → Hp → Prop) : s_lagoonlaw15_begun cf fuel h K = deepT (tabOf Try.prog) f_lagoonlaw15_begun cf fuel [] h K :=
  Eq.trans (by kernel_rfl) (rFun (by kernel_rfl) rExact)

noncomputable def s_movetree_New (cf : CallK) (fuel : Nat) (h : Hp) (K : AV → Hp → Prop) : Prop :=
vMkMap h fun t1 h =>
vBuild [.nilmap, .nilslice] [(0, 1, t1)] h fun t2 h =>
vBox 2 t2 h fun t3 h =>
K t3 h
theorem s_movetree_New_eq (cf : CallK) (fuel : Nat) (h : Hp) (K : AV → Hp → Prop) : s_movetree_New cf fuel h K = deepT (tabOf Try.prog) f_movetree_New cf fuel [] h K :=
  Eq.trans (by kernel_rfl) (rFun (by kernel_rfl) rExact)

noncomputable def s_movetree_Tree_ApplyB0 (cf : CallK) (fuel : Nat) (K : AV → Hp → Prop) (t24 : AV) (t0 : AV) (t3 : AV) (h : Hp) : Prop :=
vNilck t0 h fun t28 h =>
vFaddr 1 t28 h fun t29 h =>
vLoad2 t29 h fun t30 h =>
vSlice2 17 t30 (some t24) none h fun t32 h =>
cf f_slices_Clone_movetree_done_movetree_done [t32] h fun t33 h =>
cf f_slices_Reverse_movetree_done_movetree_done [t33] h fun t35 h =>
vFunc 43 [t0] [] h fun t38 h =>
cf f_movetree_each [t33, t38] h fun t39 h =>
vLoadA 11 t3 h fun t40 h =>
cf f_ops_Copy [t40] h fun t41 h =>
vStore 11 t3 t41 h fun _ h =>
vFaddr 9 t3 h fun t42 h =>
vStore 1 t42 .nilslice h fun _ h =>
vNilck t0 h fun t45 h =>
vFaddr 1 t45 h fun t46 h =>
vLoad2 t46 h fun t47 h =>
vLoadA 11 t3 h fun t49 h =>
vBuild [(.int .i64 0), (.int .i64 0), (.int .i64 0), (.int .i64 0), (.int .i64 0), (.int .i64 0), (.int .i64 0), (.int .i64 0), (.str 0 0), .nilslice, .nilslice, (.bool .false), (.int .i64 0), (.int .i64 0), (.str 0 0), (.bool .false), (.bool .false)] [(0, 11, t49)] h fun t50 h =>
vBslice 17 1 false [(.int .i64 0), (.int .i64 0), (.int .i64 0), (.int .i64 0), (.int .i64 0), (.int .i64 0), (.int .i64 0), (.int .i64 0), (.str 0 0), .nilslice, .nilslice, (.bool .false), (.int .i64 0), (.int .i64 0), (.str 0 0), (.bool .false), (.bool .false)] [(0, 17, t50)] h fun t51 h =>
vLoad2 t46 h fun c _ => gd (sameV c t47) (
cf f_slices_Insert_movetree_done_movetree_done [t47, t24, t51] h fun t52 h =>
vNilck t0 h fun t53 h =>
vFaddr 1 t53 h fun t54 h =>
vStore 1 t54 t52 h fun _ h =>
vNilck t0 h fun t56 h =>
vFaddr 1 t56 h fun t57 h =>
vLoad2 t57 h fun t58 h =>
vSlice2 17 t58 (some t24) none h fun t60 h =>
vFunc 46 [t0] [] h fun t62 h =>
cf f_movetree_each [t60, t62] h fun t63 h =>
vLenL2 t33 h fun t65 h =>
K (.tup [t65, (.int .i64 0)]) h)
noncomputable def s_movetree_Tree_Apply (cf : CallK) (fuel : Nat) (t0 : AV) (t1 : AV) (h : Hp) (K : AV → Hp → Prop) : Prop :=
vBox 11 t1 h fun t3 h =>
vEq false eqP t0 .nilptr h fun t10 h =>
joinG (fun g3 => grdV t10 false (vLoadA 11 t3 h g3) (g3 undefV h)) fun t12 h =>
joinG (fun g2 => grdV t10 false (cf f_ops_May [t12] h g2) (g2 undefV h)) fun t13 h =>
joinG (fun g1 => grdV t10 false (vNot t13 h g1) (g1 undefV h)) fun t14 h =>
vPick t10 (.bool .true) t14 h fun t15 h =>
vIf t15 (
K (.tup [(.int .i64 0), (.int .i64 22)]) h) (
vNilck t0 h fun t18 h =>
vFaddr 1 t18 h fun t19 h =>
vLoad2 t19 h fun t20 h =>
vFaddr 0 t3 h fun t21 h =>
vLoadA 2 t21 h fun t22 h =>
cf f_slices_BinarySearchFunc_movetree_done_movetree_done_api_ID [t20, t22, (.func 38 [] [])] h fun t23 h =>
vExtract 0 t23 h fun t24 h =>
vExtract 1 t23 h fun t25 h =>
vIf t25 (
K (.tup [(.int .i64 0), (.int .i64 17)]) h) (
s_movetree_Tree_ApplyB0 cf fuel K t24 t0 t3 h))
theorem s_movetree_Tree_Apply_eq (cf : CallK) (fuel : Nat) (t0 : AV) (t1 : AV) (h : Hp) (K : AV → Hp → Prop) : s_movetree_Tree_Apply cf fuel t0 t1 h K = deepT (tabOf Try.prog) f_movetree_Tree_Apply cf fuel [t0, t1] h K :=
  Eq.trans (by kernel_rfl) (rFun (by kernel_rfl) rExact)

noncomputable def s_lagoonref4_WithE0 (cf : CallK) (fuel : Nat) (K : AV → Hp → Prop) : AV → Hp → Prop := fun t7 h =>
cf f_lagoonref4_short [t7] h fun t43 h =>
K t43 h
noncomputable def s_lagoonref4_WithL1B (cf : CallK) (fuel : Nat) (e0 : AV → Hp → Prop) (t0 : AV) (t1 : AV) (t2 : AV) (ih1 : AV → AV → Hp → Prop) : AV → AV → Hp → Prop := fun t7 t8 h =>
vLss t8 (.int .i64 64) h fun t26 h =>
vIf t26 (
(fun (e2 : AV → Hp → Prop) =>
vEql t8 t1 h fun t31 h =>
vIf t31 (
vBslice 1 1 false [(.int .i64 0)] [(0, 1, t2)] h fun t34 h =>
vAppend2 1 8 false t7 t34 h fun t35 h =>
e2 t35 h) (
cf f_lagoonref4_At [t0, t8] h fun t39 h =>
vBslice 1 1 false [(.int .i64 0)] [(0, 1, t39)] h fun t40 h =>
vAppend2 1 8 false t7 t40 h fun t41 h =>
e2 t41 h)) fun t7 h =>
vAdd t8 (.int .i64 1) h fun t28 h =>
ih1 t7 t28 h) (
e0 t7 h)
noncomputable def s_lagoonref4_WithL1 (cf : CallK) (fuel : Nat) (e0 : AV → Hp → Prop) (t0 : AV) (t1 : AV) (t2 : AV) (m : Nat) : AV → AV → Hp → Prop := Nat.rec (motive := fun _ => AV → AV → Hp → Prop) (fun _ _ _ => False) (fun _ ih => s_lagoonref4_WithL1B cf fuel e0 t0 t1 t2 ih) m
theorem s_lagoonref4_WithL1_succ (cf : CallK) (fuel : Nat) (e0 : AV → Hp → Prop) (t0 : AV) (t1 : AV) (t2 : AV) (m : Nat) : s_lagoonref4_WithL1 cf fuel e0 t0 t1 t2 (m + 1) = s_lagoonref4_WithL1B cf fuel e0 t0 t1 t2 (s_lagoonref4_WithL1 cf fuel e0 t0 t1 t2 m) := rfl
noncomputable def s_lagoonref4_With (cf : CallK) (fuel : Nat) (t0 : AV) (t1 : AV) (t2 : AV) (h : Hp) (K : AV → Hp → Prop) : Prop :=
vLss t1 (.int .i64 0) h fun t10 h =>
joinG (fun g8 => grdV t10 false (vMov t1 h g8) (g8 undefV h)) fun t12 h =>
joinG (fun g7 => grdV t10 false (vGeq t12 (.int .i64 64) h g7) (g7 undefV h)) fun t13 h =>
vPick t10 (.bool .true) t13 h fun t14 h =>
joinG (fun g6 => grdV t14 false (vMov t2 h g6) (g6 undefV h)) fun t16 h =>
joinG (fun g5 => grdV t14 false (vLss t16 (.int .i64 0) h g5) (g5 undefV h)) fun t17 h =>
vPick t14 (.bool .true) t17 h fun t18 h =>
joinG (fun g4 => grdV t18 false (vMov t2 h g4) (g4 undefV h)) fun t20 h =>
joinG (fun g3 => grdV t18 false (vGtr t20 (.int .i64 1152921504606846976) h g3) (g3 undefV h)) fun t21 h =>
vPick t18 (.bool .true) t21 h fun t22 h =>
vIf t22 (
cf f_lagoonref4_Norm [t0] h fun t24 h =>
K t24 h) (
(fun (e0 : AV → Hp → Prop) =>
s_lagoonref4_WithL1 cf fuel (s_lagoonref4_WithE0 cf fuel K) t0 t1 t2 fuel .nilslice (.int .i64 0) h) (s_lagoonref4_WithE0 cf fuel K))
theorem s_lagoonref4_With_eq (cf : CallK) (fuel : Nat) (t0 : AV) (t1 : AV) (t2 : AV) (h : Hp) (K : AV → Hp → Prop) : s_lagoonref4_With cf fuel t0 t1 t2 h K = deepT (tabOf Try.prog) f_lagoonref4_With cf fuel [t0, t1, t2] h K :=
  Eq.trans (by kernel_rfl) (rFun (by kernel_rfl) (rSeq (by kernel_rfl) (rSeq (by kernel_rfl) (rSeq (by kernel_rfl) (rSeq (by kernel_rfl) rExact (rSeq (by kernel_rfl) (rBlock (by kernel_rfl) (rLoop (by kernel_rfl) (fun m1 fr h => s_lagoonref4_WithL1 cf fuel (s_lagoonref4_WithE0 cf fuel K) (getS fr (gpos 0)) (getS fr (gpos 1)) (getS fr (gpos 2)) m1 (getS fr (gpos 7)) (getS fr (gpos 8)) h) (funext fun fr => funext fun h => by kernel_rfl) fun m1 => rCast (funext fun fr => funext fun h => by kernel_rfl) rExact)) rExact)) rExact) rExact) rExact))

noncomputable def s_movetree_Tree_Live (cf : CallK) (fuel : Nat) (t0 : AV) (t1 : AV) (h : Hp) (K : AV → Hp → Prop) : Prop :=
vBox 2 t1 h fun t3 h =>
vEq true eqP t0 .nilptr h fun t6 h =>
joinG (fun g10 => grdV t6 true (vLoadA 2 t3 h g10) (g10 undefV h)) fun t8 h =>
joinG (fun g9 => grdV t6 true (cf f_ops_Root [] h g9) (g9 undefV h)) fun t9 h =>
joinP (fun g8 => grdV t6 true (vLoadA 2 t3 h fun c _ => gd (sameV c t8) g8) g8) (
joinG (fun g7 => grdV t6 true (vEq false eqPairS t8 t9 h g7) (g7 undefV h)) fun t10 h =>
joinG (fun g6 => grdV t6 true (vMov t10 h g6) (g6 undefV h)) fun t11 h =>
joinG (fun g5 => grdV t11 false (vMov t0 h g5) (g5 undefV h)) fun t12 h =>
joinG (fun g4 => grdV t11 false (vLoadA 2 t3 h g4) (g4 undefV h)) fun t13 h =>
joinG (fun g3 => grdV t11 false (cf f_ops_Root [] h g3) (g3 undefV h)) fun t14 h =>
joinP (fun g2 => grdV t11 false (vLoadA 2 t3 h fun c _ => gd (sameV c t13) g2) g2) (
joinG (fun g1 => grdV t11 false (cf f_movetree_Tree_Below [t12, t13, t14] h g1) (g1 undefV h)) fun t15 h =>
joinG (fun g0 => grdV t6 true (vPick t11 (.bool .true) t15 h g0) (g0 undefV h)) fun t16 h =>
vPick t6 t16 (.bool .false) h fun t17 h =>
K t17 h))
theorem s_movetree_Tree_Live_eq (cf : CallK) (fuel : Nat) (t0 : AV) (t1 : AV) (h : Hp) (K : AV → Hp → Prop) : s_movetree_Tree_Live cf fuel t0 t1 h K = deepT (tabOf Try.prog) f_movetree_Tree_Live cf fuel [t0, t1] h K :=
  Eq.trans (by kernel_rfl) (rFun (by kernel_rfl) rExact)

noncomputable def s_movetree_Tree_HasB2 (cf : CallK) (fuel : Nat) (K : AV → Hp → Prop) (t0 : AV) (t3 : AV) (h : Hp) : Prop :=
vNilck t0 h fun t11 h =>
vFaddr 0 t11 h fun t12 h =>
vLoad2 t12 h fun t13 h =>
vLoadA 2 t3 h fun t14 h =>
vLookup Go.Am.eqPair true (.agg [(.bool .false), (.int .i64 0), (.int .i64 0), (.str 0 0)]) t13 t14 h fun t15 h =>
vExtract 0 t15 h fun t16 h =>
vExtract 1 t15 h fun t17 h =>
vBox 4 (.agg [(.bool .false), (.int .i64 0), (.int .i64 0), (.str 0 0)]) h fun t5 h =>
vLoad2 t12 h fun c _ => gd (sameV c t13) (
vLoadA 2 t3 h fun c _ => gd (sameV c t14) (
vLookup Go.Am.eqPair true (.agg [(.bool .false), (.int .i64 0), (.int .i64 0), (.str 0 0)]) t13 t14 h fun c _ => gd (sameV c t15) (
vStore 4 t5 t16 h fun _ h =>
joinG (fun g1 => grdV t17 false (vLoadA 2 t3 h g1) (g1 undefV h)) fun t20 h =>
joinG (fun g0 => grdV t17 false (cf f_movetree_fixed [t20] h g0) (g0 undefV h)) fun t21 h =>
vPick t17 (.bool .true) t21 h fun t22 h =>
K t22 h)))
noncomputable def s_movetree_Tree_Has (cf : CallK) (fuel : Nat) (t0 : AV) (t1 : AV) (h : Hp) (K : AV → Hp → Prop) : Prop :=
vBox 2 t1 h fun t3 h =>
vEq false eqP t0 .nilptr h fun t8 h =>
vIf t8 (
K (.bool .false) h) (
s_movetree_Tree_HasB2 cf fuel K t0 t3 h)
theorem s_movetree_Tree_Has_eq (cf : CallK) (fuel : Nat) (t0 : AV) (t1 : AV) (h : Hp) (K : AV → Hp → Prop) : s_movetree_Tree_Has cf fuel t0 t1 h K = deepT (tabOf Try.prog) f_movetree_Tree_Has cf fuel [t0, t1] h K :=
  Eq.trans (by kernel_rfl) (rFun (by kernel_rfl) rExact)

noncomputable def s_movetree_Tree_BelowE0 (cf : CallK) (fuel : Nat) (K : AV → Hp → Prop) : Hp → Prop := fun h =>
K undefV h
noncomputable def s_movetree_Tree_BelowL1B (cf : CallK) (fuel : Nat) (K : AV → Hp → Prop) (t0 : AV) (t4 : AV) (t5 : AV) (ih1 : Hp → Prop) : Hp → Prop := fun h =>
(fun (e2 : Hp → Prop) =>
vLoadA 2 t4 h fun t12 h =>
cf f_movetree_Tree_Parent [t0, t12] h fun t13 h =>
vExtract 0 t13 h fun t14 h =>
vExtract 1 t13 h fun t15 h =>
vExtract 2 t13 h fun t16 h =>
vBox 2 (.agg [(.int .i64 0), (.int .i64 0)]) h fun t7 h =>
vStore 2 t7 t14 h fun _ h =>
vNot t16 h fun t18 h =>
vIf t18 (
K (.bool .false) h) (
vLoadA 2 t7 h fun t19 h =>
vLoadA 2 t5 h fun t20 h =>
vEq false eqPairS t19 t20 h fun t21 h =>
vIf t21 (
K (.bool .true) h) (
vLoadA 2 t7 h fun t22 h =>
vStore 2 t4 t22 h fun _ h =>
e2 h))) fun h =>
ih1 h
noncomputable def s_movetree_Tree_BelowL1 (cf : CallK) (fuel : Nat) (K : AV → Hp → Prop) (t0 : AV) (t4 : AV) (t5 : AV) (m : Nat) : Hp → Prop := Nat.rec (motive := fun _ => Hp → Prop) (fun _ => False) (fun _ ih => s_movetree_Tree_BelowL1B cf fuel K t0 t4 t5 ih) m
theorem s_movetree_Tree_BelowL1_succ (cf : CallK) (fuel : Nat) (K : AV → Hp → Prop) (t0 : AV) (t4 : AV) (t5 : AV) (m : Nat) : s_movetree_Tree_BelowL1 cf fuel K t0 t4 t5 (m + 1) = s_movetree_Tree_BelowL1B cf fuel K t0 t4 t5 (s_movetree_Tree_BelowL1 cf fuel K t0 t4 t5 m) := rfl
noncomputable def s_movetree_Tree_Below (cf : CallK) (fuel : Nat) (t0 : AV) (t1 : AV) (t2 : AV) (h : Hp) (K : AV → Hp → Prop) : Prop :=
vBox 2 t1 h fun t4 h =>
vBox 2 t2 h fun t5 h =>
(fun (e0 : Hp → Prop) =>
s_movetree_Tree_BelowL1 cf fuel K t0 t4 t5 fuel h) (s_movetree_Tree_BelowE0 cf fuel K)
theorem s_movetree_Tree_Below_eq (cf : CallK) (fuel : Nat) (t0 : AV) (t1 : AV) (t2 : AV) (h : Hp) (K : AV → Hp → Prop) : s_movetree_Tree_Below cf fuel t0 t1 t2 h K = deepT (tabOf Try.prog) f_movetree_Tree_Below cf fuel [t0, t1, t2] h K :=
  Eq.trans (by kernel_rfl) (rFun (by kernel_rfl) (rSeq (by kernel_rfl) (rBlock (by kernel_rfl) (rLoop (by kernel_rfl) (fun m1 fr h => s_movetree_Tree_BelowL1 cf fuel K (getS fr (gpos 0)) (getS fr (gpos 4)) (getS fr (gpos 5)) m1 h) (funext fun fr => funext fun h => by kernel_rfl) fun m1 => rCast (funext fun fr => funext fun h => by kernel_rfl) rExact)) rExact))

noncomputable def s_movetree_Tree_Len (cf : CallK) (fuel : Nat) (t0 : AV) (h : Hp) (K : AV → Hp → Prop) : Prop :=
vEq false eqP t0 .nilptr h fun t4 h =>
vIf t4 (
K (.int .i64 0) h) (
vNilck t0 h fun t6 h =>
vFaddr 0 t6 h fun t7 h =>
vLoad2 t7 h fun t8 h =>
vLenM t8 h fun t9 h =>
K t9 h)
theorem s_movetree_Tree_Len_eq (cf : CallK) (fuel : Nat) (t0 : AV) (h : Hp) (K : AV → Hp → Prop) : s_movetree_Tree_Len cf fuel t0 h K = deepT (tabOf Try.prog) f_movetree_Tree_Len cf fuel [t0] h K :=
  Eq.trans (by kernel_rfl) (rFun (by kernel_rfl) rExact)

noncomputable def s_movetree_Tree_KidsJ0 (cf : CallK) (fuel : Nat) (K : AV → Hp → Prop) : AV → Hp → Prop := fun t5 h =>
cf f_slices_SortFunc_api_ID_api_ID [t5, (.func 39 [] [])] h fun t29 h =>
K t5 h
noncomputable def s_movetree_Tree_KidsE1 (cf : CallK) (fuel : Nat) (j0 : AV → Hp → Prop) : AV → Hp → Prop := fun t5 h =>
j0 t5 h
noncomputable def s_movetree_Tree_KidsB4 (cf : CallK) (fuel : Nat) (ih2 : AV → Hp → Prop) (t3 : AV) (t14 : AV) (t5 : AV) (h : Hp) : Prop :=
(fun (e3 : AV → Hp → Prop) =>
vEntry t14 h fun t17 h =>
vExtract 0 t17 h fun t18 h =>
vExtract 1 t17 h fun t19 h =>
vBox 2 (.agg [(.int .i64 0), (.int .i64 0)]) h fun t6 h =>
vBox 4 (.agg [(.bool .false), (.int .i64 0), (.int .i64 0), (.str 0 0)]) h fun t7 h =>
vStore 2 t6 t18 h fun _ h =>
vStore 4 t7 t19 h fun _ h =>
vFaddr 1 t7 h fun t20 h =>
vLoadA 2 t20 h fun t21 h =>
vLoadA 2 t3 h fun t22 h =>
vEq false eqPairS t21 t22 h fun t23 h =>
vIf t23 (
vLoadA 2 t6 h fun t25 h =>
vBslice 2 1 false [(.int .i64 0), (.int .i64 0)] [(0, 2, t25)] h fun t26 h =>
vAppend2 2 16 false t5 t26 h fun t27 h =>
e3 t27 h) (
e3 t5 h)) fun t5 h =>
ih2 t5 h
noncomputable def s_movetree_Tree_KidsL2B (cf : CallK) (fuel : Nat) (e1 : AV → Hp → Prop) (t3 : AV) (t14 : AV) (ih2 : AV → Hp → Prop) : AV → Hp → Prop := fun t5 h =>
vNextM t14 h fun t15 h =>
vExtract 0 t15 h fun t16 h =>
vIf t16 (
s_movetree_Tree_KidsB4 cf fuel ih2 t3 t14 t5 h) (
e1 t5 h)
noncomputable def s_movetree_Tree_KidsL2 (cf : CallK) (fuel : Nat) (e1 : AV → Hp → Prop) (t3 : AV) (t14 : AV) (m : Nat) : AV → Hp → Prop := Nat.rec (motive := fun _ => AV → Hp → Prop) (fun _ _ => False) (fun _ ih => s_movetree_Tree_KidsL2B cf fuel e1 t3 t14 ih) m
theorem s_movetree_Tree_KidsL2_succ (cf : CallK) (fuel : Nat) (e1 : AV → Hp → Prop) (t3 : AV) (t14 : AV) (m : Nat) : s_movetree_Tree_KidsL2 cf fuel e1 t3 t14 (m + 1) = s_movetree_Tree_KidsL2B cf fuel e1 t3 t14 (s_movetree_Tree_KidsL2 cf fuel e1 t3 t14 m) := rfl
noncomputable def s_movetree_Tree_Kids (cf : CallK) (fuel : Nat) (t0 : AV) (t1 : AV) (h : Hp) (K : AV → Hp → Prop) : Prop :=
vBox 2 t1 h fun t3 h =>
(fun (j0 : AV → Hp → Prop) =>
vEq true eqP t0 .nilptr h fun t9 h =>
vIf t9 (
vNilck t0 h fun t11 h =>
vFaddr 0 t11 h fun t12 h =>
vLoad2 t12 h fun t13 h =>
vRangeM t13 h fun t14 h =>
(fun (e1 : AV → Hp → Prop) =>
s_movetree_Tree_KidsL2 cf fuel (s_movetree_Tree_KidsE1 cf fuel (s_movetree_Tree_KidsJ0 cf fuel K)) t3 t14 fuel .nilslice h) (s_movetree_Tree_KidsE1 cf fuel (s_movetree_Tree_KidsJ0 cf fuel K))) (
j0 .nilslice h)) (s_movetree_Tree_KidsJ0 cf fuel K)
theorem s_movetree_Tree_Kids_eq (cf : CallK) (fuel : Nat) (t0 : AV) (t1 : AV) (h : Hp) (K : AV → Hp → Prop) : s_movetree_Tree_Kids cf fuel t0 t1 h K = deepT (tabOf Try.prog) f_movetree_Tree_Kids cf fuel [t0, t1] h K :=
  Eq.trans (by kernel_rfl) (rFun (by kernel_rfl) (rSeq (by kernel_rfl) (rSeq (by kernel_rfl) (rSeq (by kernel_rfl) rExact (rSeq (by kernel_rfl) (rCond (by kernel_rfl) (rSeq (by kernel_rfl) (rBlock (by kernel_rfl) (rLoop (by kernel_rfl) (fun m2 fr h => s_movetree_Tree_KidsL2 cf fuel (s_movetree_Tree_KidsE1 cf fuel (s_movetree_Tree_KidsJ0 cf fuel K)) (getS fr (gpos 3)) (getS fr (gpos 14)) m2 (getS fr (gpos 5)) h) (funext fun fr => funext fun h => by kernel_rfl) fun m2 => rCast (funext fun fr => funext fun h => by kernel_rfl) rExact)) rExact) rExact) rExact)) rExact) rExact))

noncomputable def s_lagoonlaw15_map01 (cf : CallK) (fuel : Nat) (t0 : AV) (h : Hp) (K : AV → Hp → Prop) : Prop :=
vIf t0 (
K (.int .i64 1) h) (
K (.int .i64 0) h)
theorem s_lagoonlaw15_map01_eq (cf : CallK) (fuel : Nat) (t0 : AV) (h : Hp) (K : AV → Hp → Prop) : s_lagoonlaw15_map01 cf fuel t0 h K = deepT (tabOf Try.prog) f_lagoonlaw15_map01 cf fuel [t0] h K :=
  Eq.trans (by kernel_rfl) (rFun (by kernel_rfl) rExact)

noncomputable def s_bcache_Cache_PutB1 (cf : CallK) (fuel : Nat) (K : AV → Hp → Prop) (t0 : AV) (t1 : AV) (t2 : AV) (h : Hp) : Prop :=
cf f_bcache_Cache_use [t0, t1, .nilslice] h fun t32 h =>
vExtract 0 t32 h fun t33 h =>
vExtract 1 t32 h fun t34 h =>
(fun (j0 : Hp → Prop) =>
vEql t34 (.int .i64 0) h fun t36 h =>
vIf t36 (
cf f_bytes_Clone [t2] h fun t40 h =>
vNilck t33 h fun t41 h =>
vFaddr 1 t41 h fun t42 h =>
vStore 1 t42 t40 h fun _ h =>
vNilck t33 h fun t43 h =>
vFaddr 4 t43 h fun t44 h =>
vStore 1 t44 (.bool .true) h fun _ h =>
j0 h) (
j0 h)) fun h =>
K t34 h
noncomputable def s_bcache_Cache_Put (cf : CallK) (fuel : Nat) (t0 : AV) (t1 : AV) (t2 : AV) (h : Hp) (K : AV → Hp → Prop) : Prop :=
vEq false eqP t0 .nilptr h fun t10 h =>
joinG (fun g13 => grdV t10 false (vMov t1 h g13) (g13 undefV h)) fun t12 h =>
joinG (fun g12 => grdV t10 false (vLss t12 (.int .i64 0) h g12) (g12 undefV h)) fun t13 h =>
vPick t10 (.bool .true) t13 h fun t14 h =>
joinG (fun g11 => grdV t14 false (vMov t1 h g11) (g11 undefV h)) fun t16 h =>
joinG (fun g10 => grdV t14 false (vMov t0 h g10) (g10 undefV h)) fun t17 h =>
joinG (fun g9 => grdV t14 false (vNilck t17 h g9) (g9 undefV h)) fun t18 h =>
joinG (fun g8 => grdV t14 false (vFaddr 0 t18 h g8) (g8 undefV h)) fun t19 h =>
joinG (fun g7 => grdV t14 false (vLoad2 t19 h g7) (g7 undefV h)) fun t20 h =>
joinG (fun g6 => grdV t14 false (cf f_wal_Volume_Blocks [t20] h g6) (g6 undefV h)) fun t21 h =>
joinG (fun g5 => grdV t14 false (vGeq t16 t21 h g5) (g5 undefV h)) fun t22 h =>
vPick t14 (.bool .true) t22 h fun t23 h =>
joinG (fun g4 => grdV t23 false (vMov t2 h g4) (g4 undefV h)) fun t25 h =>
joinG (fun g3 => grdV t23 false (vLenL2 t25 h g3) (g3 undefV h)) fun t26 h =>
joinG (fun g2 => grdV t23 false (vNeq t26 (.int .i64 512) h g2) (g2 undefV h)) fun t27 h =>
vPick t23 (.bool .true) t27 h fun t28 h =>
vIf t28 (
K (.int .i64 22) h) (
s_bcache_Cache_PutB1 cf fuel K t0 t1 t2 h)
theorem s_bcache_Cache_Put_eq (cf : CallK) (fuel : Nat) (t0 : AV) (t1 : AV) (t2 : AV) (h : Hp) (K : AV → Hp → Prop) : s_bcache_Cache_Put cf fuel t0 t1 t2 h K = deepT (tabOf Try.prog) f_bcache_Cache_Put cf fuel [t0, t1, t2] h K :=
  Eq.trans (by kernel_rfl) (rFun (by kernel_rfl) rExact)

noncomputable def s_lagoonlaw1_FullE3 (cf : CallK) (fuel : Nat) (K : AV → Hp → Prop) (t5 : AV) : Hp → Prop := fun h =>
K t5 h
noncomputable def s_lagoonlaw1_FullL4B (cf : CallK) (fuel : Nat) (e3 : Hp → Prop) (t0 : AV) (t1 : AV) (t5 : AV) (ih4 : AV → Hp → Prop) : AV → Hp → Prop := fun t6 h =>
vLss t6 t1 h fun t17 h =>
joinG (fun g8 => grdV t17 true (vMov t0 h g8) (g8 undefV h)) fun t19 h =>
joinG (fun g7 => grdV t17 true (vLenL2 t19 h g7) (g7 undefV h)) fun t20 h =>
joinG (fun g6 => grdV t17 true (vGtr t20 (.int .i64 0) h g6) (g6 undefV h)) fun t21 h =>
vPick t17 t21 (.bool .false) h fun t22 h =>
vIf t22 (
(fun (e5 : Hp → Prop) =>
vLenL2 t0 h fun t30 h =>
vDiv true t6 t30 h fun t31 h =>
vIaddr 1 t0 t31 h fun t32 h =>
vLoad2 t32 h fun t33 h =>
vIaddr 1 t5 t6 h fun t34 h =>
vStore 1 t34 t33 h fun _ h =>
e5 h) fun h =>
vAdd t6 (.int .i64 1) h fun t24 h =>
ih4 t24 h) (
e3 h)
noncomputable def s_lagoonlaw1_FullL4 (cf : CallK) (fuel : Nat) (e3 : Hp → Prop) (t0 : AV) (t1 : AV) (t5 : AV) (m : Nat) : AV → Hp → Prop := Nat.rec (motive := fun _ => AV → Hp → Prop) (fun _ _ => False) (fun _ ih => s_lagoonlaw1_FullL4B cf fuel e3 t0 t1 t5 ih) m
theorem s_lagoonlaw1_FullL4_succ (cf : CallK) (fuel : Nat) (e3 : Hp → Prop) (t0 : AV) (t1 : AV) (t5 : AV) (m : Nat) : s_lagoonlaw1_FullL4 cf fuel e3 t0 t1 t5 (m + 1) = s_lagoonlaw1_FullL4B cf fuel e3 t0 t1 t5 (s_lagoonlaw1_FullL4 cf fuel e3 t0 t1 t5 m) := rfl
noncomputable def s_lagoonlaw1_Full (cf : CallK) (fuel : Nat) (t0 : AV) (t1 : AV) (h : Hp) (K : AV → Hp → Prop) : Prop :=
(fun (j0 : AV → Hp → Prop) =>
vLss t1 (.int .i64 0) h fun t8 h =>
joinG (fun g2 => grdV t8 false (vMov t1 h g2) (g2 undefV h)) fun t10 h =>
joinG (fun g1 => grdV t8 false (vGtr t10 (.int .i64 70000) h g1) (g1 undefV h)) fun t11 h =>
vPick t8 (.bool .true) t11 h fun t12 h =>
vIf t12 (
j0 (.int .i64 0) h) (
j0 t1 h)) fun t1 h =>
vMkSlice 1 1 true [(.int .u8 0)] t1 t1 h fun t14 h =>
(fun (e3 : Hp → Prop) =>
s_lagoonlaw1_FullL4 cf fuel (s_lagoonlaw1_FullE3 cf fuel K t14) t0 t1 t14 fuel (.int .i64 0) h) (s_lagoonlaw1_FullE3 cf fuel K t14)
theorem s_lagoonlaw1_Full_eq (cf : CallK) (fuel : Nat) (t0 : AV) (t1 : AV) (h : Hp) (K : AV → Hp → Prop) : s_lagoonlaw1_Full cf fuel t0 t1 h K = deepT (tabOf Try.prog) f_lagoonlaw1_Full cf fuel [t0, t1] h K :=
  Eq.trans (by kernel_rfl) (rFun (by kernel_rfl) (rSeq (by kernel_rfl) (rSeq (by kernel_rfl) (rSeq (by kernel_rfl) (rSeq (by kernel_rfl) rExact (rSeq (by kernel_rfl) (rBlock (by kernel_rfl) (rLoop (by kernel_rfl) (fun m4 fr h => s_lagoonlaw1_FullL4 cf fuel (s_lagoonlaw1_FullE3 cf fuel K (getS fr (gpos 5))) (getS fr (gpos 0)) (getS fr (gpos 1)) (getS fr (gpos 5)) m4 (getS fr (gpos 6)) h) (funext fun fr => funext fun h => by kernel_rfl) fun m4 => rCast (funext fun fr => funext fun h => by kernel_rfl) rExact)) rExact)) rExact) rExact) rExact))

noncomputable def s_bcache_Cache_CommitJ1 (cf : CallK) (fuel : Nat) (K : AV → Hp → Prop) (t7 : AV) : Hp → Prop := fun h =>
K t7 h
noncomputable def s_bcache_Cache_CommitE2 (cf : CallK) (fuel : Nat) (j1 : Hp → Prop) (t7 : AV) : Hp → Prop := fun h =>
j1 h
noncomputable def s_bcache_Cache_CommitL3B (cf : CallK) (fuel : Nat) (e2 : Hp → Prop) (t7 : AV) (t51 : AV) (ih3 : Hp → Prop) : Hp → Prop := fun h =>
vNextM t51 h fun t52 h =>
vExtract 0 t52 h fun t53 h =>
vIf t53 (
(fun (e4 : Hp → Prop) =>
vEntry t51 h fun t54 h =>
vExtract 1 t54 h fun t55 h =>
vNilck t55 h fun t57 h =>
vFaddr 4 t57 h fun t58 h =>
vStore 1 t58 (.bool .false) h fun _ h =>
e4 h) fun h =>
ih3 h) (
e2 h)
noncomputable def s_bcache_Cache_CommitL3 (cf : CallK) (fuel : Nat) (e2 : Hp → Prop) (t7 : AV) (t51 : AV) (m : Nat) : Hp → Prop := Nat.rec (motive := fun _ => Hp → Prop) (fun _ => False) (fun _ ih => s_bcache_Cache_CommitL3B cf fuel e2 t7 t51 ih) m
theorem s_bcache_Cache_CommitL3_succ (cf : CallK) (fuel : Nat) (e2 : Hp → Prop) (t7 : AV) (t51 : AV) (m : Nat) : s_bcache_Cache_CommitL3 cf fuel e2 t7 t51 (m + 1) = s_bcache_Cache_CommitL3B cf fuel e2 t7 t51 (s_bcache_Cache_CommitL3 cf fuel e2 t7 t51 m) := rfl
noncomputable def s_bcache_Cache_CommitE0 (cf : CallK) (fuel : Nat) (K : AV → Hp → Prop) (t0 : AV) : AV → Hp → Prop := fun t3 h =>
vNilck t0 h fun t40 h =>
vFaddr 0 t40 h fun t41 h =>
vLoad2 t41 h fun t42 h =>
cf f_wal_Volume_Commit [t42, t3] h fun t44 h =>
(fun (j1 : Hp → Prop) =>
vEql t44 (.int .i64 0) h fun t46 h =>
vIf t46 (
vNilck t0 h fun t48 h =>
vFaddr 2 t48 h fun t49 h =>
vLoad2 t49 h fun t50 h =>
vRangeM t50 h fun t51 h =>
(fun (e2 : Hp → Prop) =>
s_bcache_Cache_CommitL3 cf fuel (s_bcache_Cache_CommitE2 cf fuel (s_bcache_Cache_CommitJ1 cf fuel K t44) t44) t44 t51 fuel h) (s_bcache_Cache_CommitE2 cf fuel (s_bcache_Cache_CommitJ1 cf fuel K t44) t44)) (
j1 h)) (s_bcache_Cache_CommitJ1 cf fuel K t44)
noncomputable def s_bcache_Cache_CommitB7 (cf : CallK) (fuel : Nat) (ih5 : AV → AV → Hp → Prop) (t0 : AV) (t13 : AV) (t3 : AV) (t15 : AV) (h : Hp) : Prop :=
(fun (e6 : AV → Hp → Prop) =>
vIaddr 1 t13 t15 h fun t17 h =>
vLoad2 t17 h fun t18 h =>
vNilck t0 h fun t20 h =>
vFaddr 2 t20 h fun t21 h =>
vLoad2 t21 h fun t22 h =>
vLookup Go.Am.eqKI false .nilptr t22 t18 h fun t24 h =>
vNilck t24 h fun t26 h =>
vFaddr 4 t26 h fun t27 h =>
vLoad2 t27 h fun t28 h =>
vIf t28 (
vNilck t24 h fun t32 h =>
vFaddr 1 t32 h fun t33 h =>
vLoad2 t33 h fun t34 h =>
vBuild [(.int .i64 0), .nilslice] [(0, 1, t18), (1, 1, t34)] h fun t35 h =>
vBslice 2 1 false [(.int .i64 0), .nilslice] [(0, 2, t35)] h fun t36 h =>
vAppend2 2 32 false t3 t36 h fun t37 h =>
e6 t37 h) (
e6 t3 h)) fun t3 h =>
vAdd t15 (.int .i64 1) h fun t38 h =>
ih5 t3 t38 h
noncomputable def s_bcache_Cache_CommitL5B (cf : CallK) (fuel : Nat) (e0 : AV → Hp → Prop) (t0 : AV) (t13 : AV) (t14 : AV) (ih5 : AV → AV → Hp → Prop) : AV → AV → Hp → Prop := fun t3 t15 h =>
vLss t15 t14 h fun t16 h =>
vIf t16 (
s_bcache_Cache_CommitB7 cf fuel ih5 t0 t13 t3 t15 h) (
e0 t3 h)
noncomputable def s_bcache_Cache_CommitL5 (cf : CallK) (fuel : Nat) (e0 : AV → Hp → Prop) (t0 : AV) (t13 : AV) (t14 : AV) (m : Nat) : AV → AV → Hp → Prop := Nat.rec (motive := fun _ => AV → AV → Hp → Prop) (fun _ _ _ => False) (fun _ ih => s_bcache_Cache_CommitL5B cf fuel e0 t0 t13 t14 ih) m
theorem s_bcache_Cache_CommitL5_succ (cf : CallK) (fuel : Nat) (e0 : AV → Hp → Prop) (t0 : AV) (t13 : AV) (t14 : AV) (m : Nat) : s_bcache_Cache_CommitL5 cf fuel e0 t0 t13 t14 (m + 1) = s_bcache_Cache_CommitL5B cf fuel e0 t0 t13 t14 (s_bcache_Cache_CommitL5 cf fuel e0 t0 t13 t14 m) := rfl
noncomputable def s_bcache_Cache_Commit (cf : CallK) (fuel : Nat) (t0 : AV) (h : Hp) (K : AV → Hp → Prop) : Prop :=
vEq false eqP t0 .nilptr h fun t11 h =>
vIf t11 (
K (.int .i64 22) h) (
cf f_bcache_Cache_Held [t0] h fun t13 h =>
vLenL2 t13 h fun t14 h =>
(fun (e0 : AV → Hp → Prop) =>
s_bcache_Cache_CommitL5 cf fuel (s_bcache_Cache_CommitE0 cf fuel K t0) t0 t13 t14 fuel .nilslice (.int .i64 0) h) (s_bcache_Cache_CommitE0 cf fuel K t0))
theorem s_bcache_Cache_Commit_eq (cf : CallK) (fuel : Nat) (t0 : AV) (h : Hp) (K : AV → Hp → Prop) : s_bcache_Cache_Commit cf fuel t0 h K = deepT (tabOf Try.prog) f_bcache_Cache_Commit cf fuel [t0] h K :=
  Eq.trans (by kernel_rfl) (rFun (by kernel_rfl) (rSeq (by kernel_rfl) (rSeq (by kernel_rfl) (rSeq (by kernel_rfl) (rSeq (by kernel_rfl) (rSeq (by kernel_rfl) (rSeq (by kernel_rfl) rExact (rSeq (by kernel_rfl) (rCond (by kernel_rfl) (rSeq (by kernel_rfl) (rBlock (by kernel_rfl) (rLoop (by kernel_rfl) (fun m3 fr h => s_bcache_Cache_CommitL3 cf fuel (s_bcache_Cache_CommitE2 cf fuel (s_bcache_Cache_CommitJ1 cf fuel K (getS fr (gpos 7))) (getS fr (gpos 7))) (getS fr (gpos 7)) (getS fr (gpos 51)) m3 h) (funext fun fr => funext fun h => by kernel_rfl) fun m3 => rCast (funext fun fr => funext fun h => by kernel_rfl) rExact)) rExact) rExact) rExact)) rExact) (rSeq (by kernel_rfl) (rBlock (by kernel_rfl) (rLoop (by kernel_rfl) (fun m5 fr h => s_bcache_Cache_CommitL5 cf fuel (s_bcache_Cache_CommitE0 cf fuel K (getS fr (gpos 0))) (getS fr (gpos 0)) (getS fr (gpos 13)) (getS fr (gpos 14)) m5 (getS fr (gpos 3)) (getS fr (gpos 15)) h) (funext fun fr => funext fun h => by kernel_rfl) fun m5 => rCast (funext fun fr => funext fun h => by kernel_rfl) rExact)) rExact)) rExact) rExact) rExact))

noncomputable def s_wal_Volume_Read (cf : CallK) (fuel : Nat) (t0 : AV) (t1 : AV) (h : Hp) (K : AV → Hp → Prop) : Prop :=
vLss t1 (.int .i64 0) h fun t7 h =>
joinG (fun g3 => grdV t7 false (vMov t1 h g3) (g3 undefV h)) fun t9 h =>
joinG (fun g2 => grdV t7 false (vMov t0 h g2) (g2 undefV h)) fun t10 h =>
joinG (fun g1 => grdV t7 false (cf f_wal_Volume_Blocks [t10] h g1) (g1 undefV h)) fun t11 h =>
joinG (fun g0 => grdV t7 false (vGeq t9 t11 h g0) (g0 undefV h)) fun t12 h =>
vPick t7 (.bool .true) t12 h fun t13 h =>
vIf t13 (
K (.tup [.nilslice, (.int .i64 22)]) h) (
vNilck t0 h fun t15 h =>
vFaddr 1 t15 h fun t16 h =>
vLoad2 t16 h fun t17 h =>
vIaddr 1 t17 t1 h fun t19 h =>
vLoad2 t19 h fun t20 h =>
cf f_bytes_Clone [t20] h fun t21 h =>
K (.tup [t21, (.int .i64 0)]) h)
theorem s_wal_Volume_Read_eq (cf : CallK) (fuel : Nat) (t0 : AV) (t1 : AV) (h : Hp) (K : AV → Hp → Prop) : s_wal_Volume_Read cf fuel t0 t1 h K = deepT (tabOf Try.prog) f_wal_Volume_Read cf fuel [t0, t1] h K :=
  Eq.trans (by kernel_rfl) (rFun (by kernel_rfl) rExact)

noncomputable def s_bcache_Cache_Has (cf : CallK) (fuel : Nat) (t0 : AV) (t1 : AV) (h : Hp) (K : AV → Hp → Prop) : Prop :=
vEq true eqP t0 .nilptr h fun t6 h =>
joinG (fun g6 => grdV t6 true (vMov t0 h g6) (g6 undefV h)) fun t8 h =>
joinG (fun g5 => grdV t6 true (vNilck t8 h g5) (g5 undefV h)) fun t9 h =>
joinG (fun g4 => grdV t6 true (vFaddr 2 t9 h g4) (g4 undefV h)) fun t10 h =>
joinG (fun g3 => grdV t6 true (vLoad2 t10 h g3) (g3 undefV h)) fun t11 h =>
joinG (fun g2 => grdV t6 true (vMov t1 h g2) (g2 undefV h)) fun t12 h =>
joinG (fun g1 => grdV t6 true (vLookup Go.Am.eqKI false .nilptr t11 t12 h g1) (g1 undefV h)) fun t13 h =>
joinG (fun g0 => grdV t6 true (vEq true eqP t13 .nilptr h g0) (g0 undefV h)) fun t14 h =>
vPick t6 t14 (.bool .false) h fun t15 h =>
K t15 h
theorem s_bcache_Cache_Has_eq (cf : CallK) (fuel : Nat) (t0 : AV) (t1 : AV) (h : Hp) (K : AV → Hp → Prop) : s_bcache_Cache_Has cf fuel t0 t1 h K = deepT (tabOf Try.prog) f_bcache_Cache_Has cf fuel [t0, t1] h K :=
  Eq.trans (by kernel_rfl) (rFun (by kernel_rfl) rExact)

noncomputable def s_device_New (cf : CallK) (fuel : Nat) (t0 : AV) (h : Hp) (K : AV → Hp → Prop) : Prop :=
vLss t0 (.int .i64 1) h fun t4 h =>
joinG (fun g1 => grdV t4 false (vMov t0 h g1) (g1 undefV h)) fun t6 h =>
joinG (fun g0 => grdV t4 false (vGtr t6 (.int .i64 65536) h g0) (g0 undefV h)) fun t7 h =>
vPick t4 (.bool .true) t7 h fun t8 h =>
vIf t8 (
K .nilptr h) (
vMkSlice 3 56 false [.nilslice, .nilslice, (.bool .false)] t0 t0 h fun t10 h =>
vBuild [.nilslice, (.bool .false), (.int .i64 0), (.bool .false), (.int .i64 0)] [(0, 1, t10)] h fun t11 h =>
vBox 5 t11 h fun t12 h =>
K t12 h)
theorem s_device_New_eq (cf : CallK) (fuel : Nat) (t0 : AV) (h : Hp) (K : AV → Hp → Prop) : s_device_New cf fuel t0 h K = deepT (tabOf Try.prog) f_device_New cf fuel [t0] h K :=
  Eq.trans (by kernel_rfl) (rFun (by kernel_rfl) rExact)


end Go.Proofs.Ytnegmbnkccngoaa.sh0
