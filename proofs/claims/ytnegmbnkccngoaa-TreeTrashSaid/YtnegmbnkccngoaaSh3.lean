/- The Go functions' code as the abstract machine's, over values; each is the code that the machine makes of the program's (theorems s_.._eq). No condition. -/
import Derived.Test.YtnegmbnkccngoaaAmC
import Derived.Test.YtnegmbnkccngoaaProg
import Derived.KernelRfl
namespace Go.Proofs.Ytnegmbnkccngoaa.sh3
open Go Go.Am Go.Proofs
set_option linter.unusedVariables false
set_option maxRecDepth 100000
abbrev f_bcache_Cache_places : Nat := 78
abbrev f_bytes_Clone : Nat := 30
abbrev f_bytes_Equal : Nat := 83
abbrev f_cmp_Less_int : Nat := 97
abbrev f_cmp_isNaN_int : Nat := 107
abbrev f_container_heap_Init : Nat := 117
abbrev f_container_heap_Pop : Nat := 118
abbrev f_crc_New : Nat := 119
abbrev f_crc_Of : Nat := 88
abbrev f_crc_Sum_Value : Nat := 122
abbrev f_crc_each : Nat := 120
abbrev f_device_Device_Blocks : Nat := 81
abbrev f_device_Device_Dead : Nat := 84
abbrev f_device_Device_Read : Nat := 82
abbrev f_device_Device_done : Nat := 85
abbrev f_movetree_Tree_Below : Nat := 17
abbrev f_movetree_Tree_Dir : Nat := 34
abbrev f_movetree_Tree_Has : Nat := 16
abbrev f_movetree_Tree_may : Nat := 76
abbrev f_slices_breakPatternsCmpFunc_api_ID : Nat := 111
abbrev f_slices_breakPatternsOrdered_int : Nat := 93
abbrev f_slices_choosePivotCmpFunc_api_ID : Nat := 112
abbrev f_slices_choosePivotOrdered_int : Nat := 94
abbrev f_slices_heapSortCmpFunc_api_ID : Nat := 110
abbrev f_slices_heapSortOrdered_int : Nat := 92
abbrev f_slices_insertionSortCmpFunc_api_ID : Nat := 109
abbrev f_slices_insertionSortOrdered_int : Nat := 91
abbrev f_slices_medianAdjacentOrdered_int : Nat := 126
abbrev f_slices_medianOrdered_int : Nat := 127
abbrev f_slices_nextPowerOfTwo : Nat := 124
abbrev f_slices_partialInsertionSortCmpFunc_api_ID : Nat := 114
abbrev f_slices_partialInsertionSortOrdered_int : Nat := 96
abbrev f_slices_partitionCmpFunc_api_ID : Nat := 116
abbrev f_slices_partitionEqualCmpFunc_api_ID : Nat := 115
abbrev f_slices_partitionEqualOrdered_int : Nat := 98
abbrev f_slices_pdqsortCmpFunc_api_ID : Nat := 77
abbrev f_slices_reverseRangeCmpFunc_api_ID : Nat := 113
abbrev f_slices_reverseRangeOrdered_int : Nat := 95
abbrev f_slices_rotateLeft_movetree_done : Nat := 108
abbrev f_slices_rotateRight_movetree_done : Nat := 75
abbrev f_slices_siftDownOrdered_int : Nat := 123
abbrev f_slices_xorshift_Next : Nat := 125
abbrev f_wal_Volume_at : Nat := 90
abbrev f_wal_Volume_dead : Nat := 80
abbrev f_wal_Volume_may : Nat := 79
abbrev f_zbyte_Append32 : Nat := 87
abbrev f_zbyte_Append64 : Nat := 86
abbrev f_zbyte_Get64 : Nat := 89

noncomputable def s_slices_rotateRight_movetree_done (cf : CallK) (fuel : Nat) (t0 : AV) (t1 : AV) (h : Hp) (K : AV → Hp → Prop) : Prop :=
vLenL2 t0 h fun t6 h =>
vArith Go.Am.subI t6 t1 h fun t8 h =>
cf f_slices_rotateLeft_movetree_done [t0, t8] h fun t9 h =>
K (.tup []) h
theorem s_slices_rotateRight_movetree_done_eq (cf : CallK) (fuel : Nat) (t0 : AV) (t1 : AV) (h : Hp) (K : AV → Hp → Prop) : s_slices_rotateRight_movetree_done cf fuel t0 t1 h K = deepT (tabOf Try.prog) f_slices_rotateRight_movetree_done cf fuel [t0, t1] h K :=
  Eq.trans (by kernel_rfl) (rFun (by kernel_rfl) rExact)

noncomputable def s_movetree_Tree_mayB23 (cf : CallK) (fuel : Nat) (K : AV → Hp → Prop) (t3 : AV) (t0 : AV) (h : Hp) : Prop :=
vNilck t0 h fun t27 h =>
vFaddr 0 t27 h fun t28 h =>
vLoad2 t28 h fun t29 h =>
vFaddr 4 t3 h fun t30 h =>
vLoadA 2 t30 h fun t31 h =>
vLookup Go.Am.eqPair true (.agg [(.bool .false), (.int .i64 0), (.int .i64 0), (.str 0 0)]) t29 t31 h fun t32 h =>
vExtract 0 t32 h fun t33 h =>
vExtract 1 t32 h fun t34 h =>
vBox 4 (.agg [(.bool .false), (.int .i64 0), (.int .i64 0), (.str 0 0)]) h fun t5 h =>
vLoad2 t28 h fun c _ => gd (sameV c t29) (
vLoadA 2 t30 h fun c _ => gd (sameV c t31) (
vLookup Go.Am.eqPair true (.agg [(.bool .false), (.int .i64 0), (.int .i64 0), (.str 0 0)]) t29 t31 h fun c _ => gd (sameV c t32) (
vStore 4 t5 t33 h fun _ h =>
joinG (fun g22 => grdV t34 true (vMov t0 h g22) (g22 undefV h)) fun t37 h =>
joinG (fun g21 => grdV t34 true (vFaddr 6 t3 h g21) (g21 undefV h)) fun t38 h =>
joinG (fun g20 => grdV t34 true (vLoadA 2 t38 h g20) (g20 undefV h)) fun t39 h =>
joinG (fun g19 => grdV t34 true (cf f_movetree_Tree_Dir [t37, t39] h g19) (g19 undefV h)) fun t40 h =>
vPick t34 t40 (.bool .false) h fun t41 h =>
joinG (fun g18 => grdV t41 true (vFaddr 6 t3 h g18) (g18 undefV h)) fun t43 h =>
joinG (fun g17 => grdV t41 true (vLoadA 2 t43 h g17) (g17 undefV h)) fun t44 h =>
joinG (fun g16 => grdV t41 true (vFaddr 4 t3 h g16) (g16 undefV h)) fun t45 h =>
joinG (fun g15 => grdV t41 true (vLoadA 2 t45 h g15) (g15 undefV h)) fun t46 h =>
joinG (fun g14 => grdV t41 true (vEq true eqPairS t44 t46 h g14) (g14 undefV h)) fun t47 h =>
vPick t41 t47 (.bool .false) h fun t48 h =>
joinG (fun g13 => grdV t48 true (vMov t0 h g13) (g13 undefV h)) fun t50 h =>
joinG (fun g12 => grdV t48 true (vFaddr 6 t3 h g12) (g12 undefV h)) fun t51 h =>
joinG (fun g11 => grdV t48 true (vLoadA 2 t51 h g11) (g11 undefV h)) fun t52 h =>
joinG (fun g10 => grdV t48 true (vFaddr 4 t3 h g10) (g10 undefV h)) fun t53 h =>
joinG (fun g9 => grdV t48 true (vLoadA 2 t53 h g9) (g9 undefV h)) fun t54 h =>
joinG (fun g8 => grdV t48 true (cf f_movetree_Tree_Below [t50, t52, t54] h g8) (g8 undefV h)) fun t55 h =>
joinG (fun g7 => grdV t48 true (vNot t55 h g7) (g7 undefV h)) fun t56 h =>
vPick t48 t56 (.bool .false) h fun t57 h =>
K t57 h)))
noncomputable def s_movetree_Tree_may (cf : CallK) (fuel : Nat) (t0 : AV) (t1 : AV) (h : Hp) (K : AV → Hp → Prop) : Prop :=
vBox 11 t1 h fun t3 h =>
vFaddr 3 t3 h fun t7 h =>
vLoad2 t7 h fun t8 h =>
(fun (e0 : Hp → Prop) =>
(fun (j1 : AV → Hp → Prop) =>
vEql t8 (.int .i64 1) h fun t10 h =>
vIf t10 (
j1 t10 h) (
vEql t8 (.int .i64 2) h fun t11 h =>
j1 t11 h)) fun t9 h =>
vIf t9 (
vFaddr 6 t3 h fun t13 h =>
vLoadA 2 t13 h fun t14 h =>
cf f_movetree_Tree_Dir [t0, t14] h fun t15 h =>
joinG (fun g6 => grdV t15 true (vMov t0 h g6) (g6 undefV h)) fun t17 h =>
joinG (fun g5 => grdV t15 true (vFaddr 4 t3 h g5) (g5 undefV h)) fun t18 h =>
joinG (fun g4 => grdV t15 true (vLoadA 2 t18 h g4) (g4 undefV h)) fun t19 h =>
joinG (fun g3 => grdV t15 true (cf f_movetree_Tree_Has [t17, t19] h g3) (g3 undefV h)) fun t20 h =>
joinG (fun g2 => grdV t15 true (vNot t20 h g2) (g2 undefV h)) fun t21 h =>
vPick t15 t21 (.bool .false) h fun t22 h =>
K t22 h) (
vEql t8 (.int .i64 3) h fun t24 h =>
vIf t24 (
s_movetree_Tree_mayB23 cf fuel K t3 t0 h) (
e0 h))) fun h =>
K (.bool .false) h
theorem s_movetree_Tree_may_eq (cf : CallK) (fuel : Nat) (t0 : AV) (t1 : AV) (h : Hp) (K : AV → Hp → Prop) : s_movetree_Tree_may cf fuel t0 t1 h K = deepT (tabOf Try.prog) f_movetree_Tree_may cf fuel [t0, t1] h K :=
  Eq.trans (by kernel_rfl) (rFun (by kernel_rfl) rExact)

noncomputable def s_slices_pdqsortCmpFunc_api_IDE0 (cf : CallK) (fuel : Nat) (K : AV → Hp → Prop) : Hp → Prop := fun h =>
K (.tup []) h
noncomputable def s_slices_pdqsortCmpFunc_api_IDB10 (cf : CallK) (fuel : Nat) (e2 : AV → AV → AV → AV → AV → Hp → Prop) (t1 : AV) (t13 : AV) (t4 : AV) (t2 : AV) (t0 : AV) (t3_4 : AV) (t23 : AV) (h : Hp) : Prop :=
cf f_slices_partitionCmpFunc_api_ID [t0, t1, t2, t13, t4] h fun t111 h =>
vExtract 0 t111 h fun t112 h =>
vExtract 1 t111 h fun t113 h =>
vArith Go.Am.subI t112 t1 h fun t117 h =>
vArith Go.Am.subI t2 t112 h fun t120 h =>
vDiv false t23 (.int .i64 8) h fun t122 h =>
vLss t117 t120 h fun t125 h =>
vIf t125 (
vGeq t117 t122 h fun t128 h =>
cf f_slices_pdqsortCmpFunc_api_ID [t0, t1, t112, t3_4, t4] h fun t134 h =>
vAdd t112 (.int .i64 1) h fun t136 h =>
e2 t136 t2 t3_4 t128 t113 h) (
vGeq t120 t122 h fun t139 h =>
vAdd t112 (.int .i64 1) h fun t142 h =>
cf f_slices_pdqsortCmpFunc_api_ID [t0, t142, t2, t3_4, t4] h fun t146 h =>
e2 t1 t112 t3_4 t139 t113 h)
noncomputable def s_slices_pdqsortCmpFunc_api_IDB24 (cf : CallK) (fuel : Nat) (K : AV → Hp → Prop) (e2 : AV → AV → AV → AV → AV → Hp → Prop) (t3 : AV) (t23 : AV) (t1 : AV) (t2 : AV) (t0 : AV) (t4 : AV) (t10 : AV) (t11 : AV) (h : Hp) : Prop :=
(fun (j3 : AV → Hp → Prop) =>
vNot t10 h fun t39 h =>
vIf t39 (
cf f_slices_breakPatternsCmpFunc_api_ID [t0, t1, t2, t4] h fun t44 h =>
vArith Go.Am.subI t3 (.int .i64 1) h fun t46 h =>
j3 t46 h) (
j3 t3 h)) fun t3_4 h =>
cf f_slices_choosePivotCmpFunc_api_ID [t0, t1, t2, t4] h fun t52 h =>
vExtract 0 t52 h fun t53 h =>
vExtract 1 t52 h fun t54 h =>
(fun (j5 : AV → AV → Hp → Prop) =>
vEql t54 (.int .i64 2) h fun t56 h =>
vIf t56 (
cf f_slices_reverseRangeCmpFunc_api_ID [t0, t1, t2, t4] h fun t61 h =>
vArith Go.Am.subI t2 (.int .i64 1) h fun t63 h =>
vArith Go.Am.subI t53 t1 h fun t66 h =>
vArith Go.Am.subI t63 t66 h fun t67 h =>
j5 t67 (.int .i64 1) h) (
j5 t53 t54 h)) fun t13 t14 h =>
(fun (j6 : Hp → Prop) =>
joinG (fun g9 => grdV t10 true (vMov t11 h g9) (g9 undefV h)) fun t70 h =>
vPick t10 t70 (.bool .false) h fun t71 h =>
joinG (fun g8 => grdV t71 true (vMov t14 h g8) (g8 undefV h)) fun t73 h =>
joinG (fun g7 => grdV t71 true (vEql t73 (.int .i64 1) h g7) (g7 undefV h)) fun t74 h =>
vPick t71 t74 (.bool .false) h fun t75 h =>
vIf t75 (
cf f_slices_partialInsertionSortCmpFunc_api_ID [t0, t1, t2, t4] h fun t80 h =>
vIf t80 (
K (.tup []) h) (
j6 h)) (
j6 h)) fun h =>
vGtr t1 (.int .i64 0) h fun t82 h =>
joinG (fun g23 => grdV t82 true (vMov t4 h g23) (g23 undefV h)) fun t84 h =>
joinG (fun g22 => grdV t82 true (vMov t0 h g22) (g22 undefV h)) fun t85 h =>
joinG (fun g21 => grdV t82 true (vMov t1 h g21) (g21 undefV h)) fun t86 h =>
joinG (fun g20 => grdV t82 true (vArith Go.Am.subI t86 (.int .i64 1) h g20) (g20 undefV h)) fun t87 h =>
joinG (fun g19 => grdV t82 true (vIaddr 2 t85 t87 h g19) (g19 undefV h)) fun t88 h =>
joinG (fun g18 => grdV t82 true (vLoadA 2 t88 h g18) (g18 undefV h)) fun t89 h =>
joinG (fun g17 => grdV t82 true (vMov t0 h g17) (g17 undefV h)) fun t90 h =>
joinG (fun g16 => grdV t82 true (vMov t13 h g16) (g16 undefV h)) fun t91 h =>
joinG (fun g15 => grdV t82 true (vIaddr 2 t90 t91 h g15) (g15 undefV h)) fun t92 h =>
joinG (fun g14 => grdV t82 true (vLoadA 2 t92 h g14) (g14 undefV h)) fun t93 h =>
joinG (fun g13 => grdV t82 true (vCallV t84 [t89, t93] cf h g13) (g13 undefV h)) fun t94 h =>
joinG (fun g12 => grdV t82 true (vLss t94 (.int .i64 0) h g12) (g12 undefV h)) fun t95 h =>
joinG (fun g11 => grdV t82 true (vNot t95 h g11) (g11 undefV h)) fun t96 h =>
vPick t82 t96 (.bool .false) h fun t97 h =>
vIf t97 (
cf f_slices_partitionEqualCmpFunc_api_ID [t0, t1, t2, t13, t4] h fun t103 h =>
e2 t103 t2 t3_4 t10 t11 h) (
s_slices_pdqsortCmpFunc_api_IDB10 cf fuel e2 t1 t13 t4 t2 t0 t3_4 t23 h)
noncomputable def s_slices_pdqsortCmpFunc_api_IDL1B (cf : CallK) (fuel : Nat) (K : AV → Hp → Prop) (t0 : AV) (t4 : AV) (ih1 : AV → AV → AV → AV → AV → Hp → Prop) : AV → AV → AV → AV → AV → Hp → Prop := fun t1 t2 t3 t10 t11 h =>
(fun (e2 : AV → AV → AV → AV → AV → Hp → Prop) =>
vArith Go.Am.subI t2 t1 h fun t23 h =>
vLeq t23 (.int .i64 12) h fun t25 h =>
vIf t25 (
cf f_slices_insertionSortCmpFunc_api_ID [t0, t1, t2, t4] h fun t30 h =>
K (.tup []) h) (
vEql t3 (.int .i64 0) h fun t32 h =>
vIf t32 (
cf f_slices_heapSortCmpFunc_api_ID [t0, t1, t2, t4] h fun t37 h =>
K (.tup []) h) (
s_slices_pdqsortCmpFunc_api_IDB24 cf fuel K e2 t3 t23 t1 t2 t0 t4 t10 t11 h))) fun t1 t2 t3 t10 t11 h =>
ih1 t1 t2 t3 t10 t11 h
noncomputable def s_slices_pdqsortCmpFunc_api_IDL1 (cf : CallK) (fuel : Nat) (K : AV → Hp → Prop) (t0 : AV) (t4 : AV) (m : Nat) : AV → AV → AV → AV → AV → Hp → Prop := Nat.rec (motive := fun _ => AV → AV → AV → AV → AV → Hp → Prop) (fun _ _ _ _ _ _ => False) (fun _ ih => s_slices_pdqsortCmpFunc_api_IDL1B cf fuel K t0 t4 ih) m
theorem s_slices_pdqsortCmpFunc_api_IDL1_succ (cf : CallK) (fuel : Nat) (K : AV → Hp → Prop) (t0 : AV) (t4 : AV) (m : Nat) : s_slices_pdqsortCmpFunc_api_IDL1 cf fuel K t0 t4 (m + 1) = s_slices_pdqsortCmpFunc_api_IDL1B cf fuel K t0 t4 (s_slices_pdqsortCmpFunc_api_IDL1 cf fuel K t0 t4 m) := rfl
noncomputable def s_slices_pdqsortCmpFunc_api_ID (cf : CallK) (fuel : Nat) (t0 : AV) (t1 : AV) (t2 : AV) (t3 : AV) (t4 : AV) (h : Hp) (K : AV → Hp → Prop) : Prop :=
(fun (e0 : Hp → Prop) =>
s_slices_pdqsortCmpFunc_api_IDL1 cf fuel K t0 t4 fuel t1 t2 t3 (.bool .true) (.bool .true) h) (s_slices_pdqsortCmpFunc_api_IDE0 cf fuel K)
theorem s_slices_pdqsortCmpFunc_api_ID_eq (cf : CallK) (fuel : Nat) (t0 : AV) (t1 : AV) (t2 : AV) (t3 : AV) (t4 : AV) (h : Hp) (K : AV → Hp → Prop) : s_slices_pdqsortCmpFunc_api_ID cf fuel t0 t1 t2 t3 t4 h K = deepT (tabOf Try.prog) f_slices_pdqsortCmpFunc_api_ID cf fuel [t0, t1, t2, t3, t4] h K :=
  Eq.trans (by kernel_rfl) (rFun (by kernel_rfl) (rSeq (by kernel_rfl) (rSeq (by kernel_rfl) (rBlock (by kernel_rfl) (rLoop (by kernel_rfl) (fun m1 fr h => s_slices_pdqsortCmpFunc_api_IDL1 cf fuel K (getS fr (gpos 0)) (getS fr (gpos 4)) m1 (getS fr (gpos 1)) (getS fr (gpos 2)) (getS fr (gpos 3)) (getS fr (gpos 10)) (getS fr (gpos 11)) h) (funext fun fr => funext fun h => by kernel_rfl) fun m1 => rCast (funext fun fr => funext fun h => by kernel_rfl) rExact)) rExact) rExact))

noncomputable def s_bcache_Cache_placesB1 (cf : CallK) (fuel : Nat) (K : AV → Hp → Prop) (t3 : AV) (t0 : AV) (h : Hp) : Prop :=
vIface 154 t3 h fun t53 h =>
cf f_container_heap_Init [t53] h fun t54 h =>
vNilck t0 h fun t56 h =>
vFaddr 2 t56 h fun t57 h =>
vLoad2 t57 h fun t58 h =>
vIface 154 t3 h fun t60 h =>
cf f_container_heap_Pop [t60] h fun t61 h =>
vLoad2 t57 h fun c _ => gd (sameV c t58) (
vAssert 66 false .nilptr t61 h fun t62 h =>
vNilck t62 h fun t63 h =>
vFaddr 0 t63 h fun t64 h =>
vLoad2 t64 h fun t65 h =>
vMapDel Go.Am.eqKI t58 t65 h fun _ h =>
vNilck t0 h fun t67 h =>
vFaddr 6 t67 h fun t68 h =>
vLoad2 t68 h fun t69 h =>
vAdd t69 (.int .i64 1) h fun t70 h =>
vNilck t0 h fun t71 h =>
vFaddr 6 t71 h fun t72 h =>
vStore 1 t72 t70 h fun _ h =>
K (.int .i64 0) h)
noncomputable def s_bcache_Cache_placesE0 (cf : CallK) (fuel : Nat) (K : AV → Hp → Prop) (t0 : AV) (t3 : AV) : Hp → Prop := fun h =>
vNilck t3 h fun t48 h =>
vLoad2 t48 h fun t49 h =>
vLenL2 t49 h fun t50 h =>
vEql t50 (.int .i64 0) h fun t51 h =>
vIf t51 (
K (.int .i64 28) h) (
s_bcache_Cache_placesB1 cf fuel K t3 t0 h)
noncomputable def s_bcache_Cache_placesB9 (cf : CallK) (fuel : Nat) (ih2 : Hp → Prop) (t3 : AV) (t22 : AV) (h : Hp) : Prop :=
(fun (e3 : Hp → Prop) =>
vEntry t22 h fun t25 h =>
vExtract 1 t25 h fun t26 h =>
vNilck t26 h fun t28 h =>
vFaddr 3 t28 h fun t29 h =>
vLoad2 t29 h fun t30 h =>
vEql t30 (.int .i64 0) h fun t31 h =>
joinG (fun g8 => grdV t31 true (vMov t26 h g8) (g8 undefV h)) fun t33 h =>
joinG (fun g7 => grdV t31 true (vNilck t33 h g7) (g7 undefV h)) fun t34 h =>
joinG (fun g6 => grdV t31 true (vFaddr 4 t34 h g6) (g6 undefV h)) fun t35 h =>
joinG (fun g5 => grdV t31 true (vLoad2 t35 h g5) (g5 undefV h)) fun t36 h =>
joinG (fun g4 => grdV t31 true (vNot t36 h g4) (g4 undefV h)) fun t37 h =>
vPick t31 t37 (.bool .false) h fun t38 h =>
vIf t38 (
vNilck t3 h fun t41 h =>
vLoad2 t41 h fun t42 h =>
vBslice 1 1 false [.nilptr] [(0, 1, t26)] h fun t44 h =>
vAppend2 1 8 false t42 t44 h fun t45 h =>
vNilck t3 h fun t46 h =>
vStore 1 t46 t45 h fun _ h =>
e3 h) (
e3 h)) fun h =>
ih2 h
noncomputable def s_bcache_Cache_placesL2B (cf : CallK) (fuel : Nat) (e0 : Hp → Prop) (t0 : AV) (t3 : AV) (t22 : AV) (ih2 : Hp → Prop) : Hp → Prop := fun h =>
vNextM t22 h fun t23 h =>
vExtract 0 t23 h fun t24 h =>
vIf t24 (
s_bcache_Cache_placesB9 cf fuel ih2 t3 t22 h) (
e0 h)
noncomputable def s_bcache_Cache_placesL2 (cf : CallK) (fuel : Nat) (e0 : Hp → Prop) (t0 : AV) (t3 : AV) (t22 : AV) (m : Nat) : Hp → Prop := Nat.rec (motive := fun _ => Hp → Prop) (fun _ => False) (fun _ ih => s_bcache_Cache_placesL2B cf fuel e0 t0 t3 t22 ih) m
theorem s_bcache_Cache_placesL2_succ (cf : CallK) (fuel : Nat) (e0 : Hp → Prop) (t0 : AV) (t3 : AV) (t22 : AV) (m : Nat) : s_bcache_Cache_placesL2 cf fuel e0 t0 t3 t22 (m + 1) = s_bcache_Cache_placesL2B cf fuel e0 t0 t3 t22 (s_bcache_Cache_placesL2 cf fuel e0 t0 t3 t22 m) := rfl
noncomputable def s_bcache_Cache_places (cf : CallK) (fuel : Nat) (t0 : AV) (h : Hp) (K : AV → Hp → Prop) : Prop :=
vNilck t0 h fun t7 h =>
vFaddr 2 t7 h fun t8 h =>
vLoad2 t8 h fun t9 h =>
vLenM t9 h fun t10 h =>
vNilck t0 h fun t12 h =>
vFaddr 1 t12 h fun t13 h =>
vLoad2 t13 h fun t14 h =>
vLss t10 t14 h fun t15 h =>
vIf t15 (
K (.int .i64 0) h) (
vBslice 1 0 false [.nilptr] [] h fun t16 h =>
vBox 1 t16 h fun t17 h =>
vNilck t0 h fun t19 h =>
vFaddr 2 t19 h fun t20 h =>
vLoad2 t20 h fun t21 h =>
vRangeM t21 h fun t22 h =>
(fun (e0 : Hp → Prop) =>
s_bcache_Cache_placesL2 cf fuel (s_bcache_Cache_placesE0 cf fuel K t0 t17) t0 t17 t22 fuel h) (s_bcache_Cache_placesE0 cf fuel K t0 t17))
theorem s_bcache_Cache_places_eq (cf : CallK) (fuel : Nat) (t0 : AV) (h : Hp) (K : AV → Hp → Prop) : s_bcache_Cache_places cf fuel t0 h K = deepT (tabOf Try.prog) f_bcache_Cache_places cf fuel [t0] h K :=
  Eq.trans (by kernel_rfl) (rFun (by kernel_rfl) (rSeq (by kernel_rfl) (rSeq (by kernel_rfl) (rSeq (by kernel_rfl) (rSeq (by kernel_rfl) rExact (rSeq (by kernel_rfl) (rBlock (by kernel_rfl) (rLoop (by kernel_rfl) (fun m2 fr h => s_bcache_Cache_placesL2 cf fuel (s_bcache_Cache_placesE0 cf fuel K (getS fr (gpos 0)) (getS fr (gpos 3))) (getS fr (gpos 0)) (getS fr (gpos 3)) (getS fr (gpos 22)) m2 h) (funext fun fr => funext fun h => by kernel_rfl) fun m2 => rCast (funext fun fr => funext fun h => by kernel_rfl) rExact)) rExact)) rExact) rExact) rExact))

noncomputable def s_wal_Volume_mayE0 (cf : CallK) (fuel : Nat) (K : AV → Hp → Prop) : Hp → Prop := fun h =>
K (.bool .true) h
noncomputable def s_wal_Volume_mayB15 (cf : CallK) (fuel : Nat) (K : AV → Hp → Prop) (ih1 : AV → Hp → Prop) (t0 : AV) (t15 : AV) (t17 : AV) (h : Hp) : Prop :=
(fun (e2 : Hp → Prop) =>
vIaddr 2 t15 t17 h fun t19 h =>
vLoadA 2 t19 h fun t20 h =>
vBox 2 (.agg [(.int .i64 0), .nilslice]) h fun t6 h =>
vStore 2 t6 t20 h fun _ h =>
vFaddr 0 t6 h fun t21 h =>
vLoad2 t21 h fun t22 h =>
vLss t22 (.int .i64 0) h fun t23 h =>
joinG (fun g14 => grdV t23 false (vFaddr 0 t6 h g14) (g14 undefV h)) fun t25 h =>
joinG (fun g13 => grdV t23 false (vLoad2 t25 h g13) (g13 undefV h)) fun t26 h =>
joinG (fun g12 => grdV t23 false (vMov t0 h g12) (g12 undefV h)) fun t27 h =>
joinG (fun g11 => grdV t23 false (vNilck t27 h g11) (g11 undefV h)) fun t28 h =>
joinG (fun g10 => grdV t23 false (vFaddr 1 t28 h g10) (g10 undefV h)) fun t29 h =>
joinG (fun g9 => grdV t23 false (vLoad2 t29 h g9) (g9 undefV h)) fun t30 h =>
joinG (fun g8 => grdV t23 false (vLenL2 t30 h g8) (g8 undefV h)) fun t31 h =>
joinG (fun g7 => grdV t23 false (vGeq t26 t31 h g7) (g7 undefV h)) fun t32 h =>
vPick t23 (.bool .true) t32 h fun t33 h =>
joinG (fun g6 => grdV t33 false (vFaddr 1 t6 h g6) (g6 undefV h)) fun t35 h =>
joinG (fun g5 => grdV t33 false (vLoad2 t35 h g5) (g5 undefV h)) fun t36 h =>
joinG (fun g4 => grdV t33 false (vLenL2 t36 h g4) (g4 undefV h)) fun t37 h =>
joinG (fun g3 => grdV t33 false (vNeq t37 (.int .i64 512) h g3) (g3 undefV h)) fun t38 h =>
vPick t33 (.bool .true) t38 h fun t39 h =>
vIf t39 (
K (.bool .false) h) (
e2 h)) fun h =>
vAdd t17 (.int .i64 1) h fun t40 h =>
ih1 t40 h
noncomputable def s_wal_Volume_mayL1B (cf : CallK) (fuel : Nat) (K : AV → Hp → Prop) (e0 : Hp → Prop) (t0 : AV) (t15 : AV) (t16 : AV) (ih1 : AV → Hp → Prop) : AV → Hp → Prop := fun t17 h =>
vLss t17 t16 h fun t18 h =>
vIf t18 (
s_wal_Volume_mayB15 cf fuel K ih1 t0 t15 t17 h) (
e0 h)
noncomputable def s_wal_Volume_mayL1 (cf : CallK) (fuel : Nat) (K : AV → Hp → Prop) (e0 : Hp → Prop) (t0 : AV) (t15 : AV) (t16 : AV) (m : Nat) : AV → Hp → Prop := Nat.rec (motive := fun _ => AV → Hp → Prop) (fun _ _ => False) (fun _ ih => s_wal_Volume_mayL1B cf fuel K e0 t0 t15 t16 ih) m
theorem s_wal_Volume_mayL1_succ (cf : CallK) (fuel : Nat) (K : AV → Hp → Prop) (e0 : Hp → Prop) (t0 : AV) (t15 : AV) (t16 : AV) (m : Nat) : s_wal_Volume_mayL1 cf fuel K e0 t0 t15 t16 (m + 1) = s_wal_Volume_mayL1B cf fuel K e0 t0 t15 t16 (s_wal_Volume_mayL1 cf fuel K e0 t0 t15 t16 m) := rfl
noncomputable def s_wal_Volume_may (cf : CallK) (fuel : Nat) (t0 : AV) (t1 : AV) (h : Hp) (K : AV → Hp → Prop) : Prop :=
vLenL2 t1 h fun t8 h =>
vNilck t0 h fun t10 h =>
vFaddr 1 t10 h fun t11 h =>
vLoad2 t11 h fun t12 h =>
vLenL2 t12 h fun t13 h =>
vGtr t8 t13 h fun t14 h =>
vIf t14 (
K (.bool .false) h) (
vLenL2 t1 h fun t16 h =>
(fun (e0 : Hp → Prop) =>
s_wal_Volume_mayL1 cf fuel K (s_wal_Volume_mayE0 cf fuel K) t0 t1 t16 fuel (.int .i64 0) h) (s_wal_Volume_mayE0 cf fuel K))
theorem s_wal_Volume_may_eq (cf : CallK) (fuel : Nat) (t0 : AV) (t1 : AV) (h : Hp) (K : AV → Hp → Prop) : s_wal_Volume_may cf fuel t0 t1 h K = deepT (tabOf Try.prog) f_wal_Volume_may cf fuel [t0, t1] h K :=
  Eq.trans (by kernel_rfl) (rFun (by kernel_rfl) (rSeq (by kernel_rfl) (rSeq (by kernel_rfl) (rSeq (by kernel_rfl) rExact (rSeq (by kernel_rfl) (rBlock (by kernel_rfl) (rLoop (by kernel_rfl) (fun m1 fr h => s_wal_Volume_mayL1 cf fuel K (s_wal_Volume_mayE0 cf fuel K) (getS fr (gpos 0)) (getS fr (gpos 15)) (getS fr (gpos 16)) m1 (getS fr (gpos 17)) h) (funext fun fr => funext fun h => by kernel_rfl) fun m1 => rCast (funext fun fr => funext fun h => by kernel_rfl) rExact)) rExact)) rExact) rExact))

noncomputable def s_wal_Volume_dead (cf : CallK) (fuel : Nat) (t0 : AV) (h : Hp) (K : AV → Hp → Prop) : Prop :=
vNilck t0 h fun t5 h =>
vFaddr 5 t5 h fun t6 h =>
vLoad2 t6 h fun t7 h =>
joinG (fun g4 => grdV t7 false (vMov t0 h g4) (g4 undefV h)) fun t9 h =>
joinG (fun g3 => grdV t7 false (vNilck t9 h g3) (g3 undefV h)) fun t10 h =>
joinG (fun g2 => grdV t7 false (vFaddr 0 t10 h g2) (g2 undefV h)) fun t11 h =>
joinG (fun g1 => grdV t7 false (vLoad2 t11 h g1) (g1 undefV h)) fun t12 h =>
joinG (fun g0 => grdV t7 false (cf f_device_Device_Dead [t12] h g0) (g0 undefV h)) fun t13 h =>
vPick t7 (.bool .true) t13 h fun t14 h =>
vNilck t0 h fun t15 h =>
vFaddr 5 t15 h fun t16 h =>
vStore 1 t16 t14 h fun _ h =>
vNilck t0 h fun t18 h =>
vFaddr 5 t18 h fun t19 h =>
vLoad2 t19 h fun t20 h =>
K t20 h
theorem s_wal_Volume_dead_eq (cf : CallK) (fuel : Nat) (t0 : AV) (h : Hp) (K : AV → Hp → Prop) : s_wal_Volume_dead cf fuel t0 h K = deepT (tabOf Try.prog) f_wal_Volume_dead cf fuel [t0] h K :=
  Eq.trans (by kernel_rfl) (rFun (by kernel_rfl) rExact)

noncomputable def s_device_Device_Blocks (cf : CallK) (fuel : Nat) (t0 : AV) (h : Hp) (K : AV → Hp → Prop) : Prop :=
vEq false eqP t0 .nilptr h fun t4 h =>
vIf t4 (
K (.int .i64 0) h) (
vNilck t0 h fun t6 h =>
vFaddr 0 t6 h fun t7 h =>
vLoad2 t7 h fun t8 h =>
vLenL2 t8 h fun t9 h =>
K t9 h)
theorem s_device_Device_Blocks_eq (cf : CallK) (fuel : Nat) (t0 : AV) (h : Hp) (K : AV → Hp → Prop) : s_device_Device_Blocks cf fuel t0 h K = deepT (tabOf Try.prog) f_device_Device_Blocks cf fuel [t0] h K :=
  Eq.trans (by kernel_rfl) (rFun (by kernel_rfl) rExact)

noncomputable def s_device_Device_Read (cf : CallK) (fuel : Nat) (t0 : AV) (t1 : AV) (h : Hp) (K : AV → Hp → Prop) : Prop :=
(fun (e0 : Hp → Prop) =>
vLss t1 (.int .i64 0) h fun t8 h =>
joinG (fun g4 => grdV t8 false (vMov t1 h g4) (g4 undefV h)) fun t10 h =>
joinG (fun g3 => grdV t8 false (vMov t0 h g3) (g3 undefV h)) fun t11 h =>
joinG (fun g2 => grdV t8 false (cf f_device_Device_Blocks [t11] h g2) (g2 undefV h)) fun t12 h =>
joinG (fun g1 => grdV t8 false (vGeq t10 t12 h g1) (g1 undefV h)) fun t13 h =>
vPick t8 (.bool .true) t13 h fun t14 h =>
vIf t14 (
K (.tup [.nilslice, (.int .i64 22)]) h) (
vNilck t0 h fun t17 h =>
vFaddr 0 t17 h fun t18 h =>
vLoad2 t18 h fun t19 h =>
vIaddr 3 t19 t1 h fun t21 h =>
vFaddr 0 t21 h fun t22 h =>
vLoad2 t22 h fun t23 h =>
vEq false eqNS t23 .nilslice h fun t24 h =>
vIf t24 (
vMkSlice 1 1 true [(.int .u8 0)] (.int .i64 512) (.int .i64 512) h fun t25 h =>
K (.tup [t25, (.int .i64 0)]) h) (
e0 h))) fun h =>
vNilck t0 h fun t27 h =>
vFaddr 0 t27 h fun t28 h =>
vLoad2 t28 h fun t29 h =>
vIaddr 3 t29 t1 h fun t31 h =>
vFaddr 0 t31 h fun t32 h =>
vLoad2 t32 h fun t33 h =>
cf f_bytes_Clone [t33] h fun t34 h =>
K (.tup [t34, (.int .i64 0)]) h
theorem s_device_Device_Read_eq (cf : CallK) (fuel : Nat) (t0 : AV) (t1 : AV) (h : Hp) (K : AV → Hp → Prop) : s_device_Device_Read cf fuel t0 t1 h K = deepT (tabOf Try.prog) f_device_Device_Read cf fuel [t0, t1] h K :=
  Eq.trans (by kernel_rfl) (rFun (by kernel_rfl) rExact)

noncomputable def s_bytes_Equal (cf : CallK) (fuel : Nat) (t0 : AV) (t1 : AV) (h : Hp) (K : AV → Hp → Prop) : Prop :=
vToStr t0 h fun t6 h =>
vToStr t1 h fun t8 h =>
vEql t6 t8 h fun t9 h =>
K t9 h
theorem s_bytes_Equal_eq (cf : CallK) (fuel : Nat) (t0 : AV) (t1 : AV) (h : Hp) (K : AV → Hp → Prop) : s_bytes_Equal cf fuel t0 t1 h K = deepT (tabOf Try.prog) f_bytes_Equal cf fuel [t0, t1] h K :=
  Eq.trans (by kernel_rfl) (rFun (by kernel_rfl) rExact)

noncomputable def s_device_Device_Dead (cf : CallK) (fuel : Nat) (t0 : AV) (h : Hp) (K : AV → Hp → Prop) : Prop :=
vEq false eqP t0 .nilptr h fun t4 h =>
joinG (fun g3 => grdV t4 false (vMov t0 h g3) (g3 undefV h)) fun t6 h =>
joinG (fun g2 => grdV t4 false (vNilck t6 h g2) (g2 undefV h)) fun t7 h =>
joinG (fun g1 => grdV t4 false (vFaddr 3 t7 h g1) (g1 undefV h)) fun t8 h =>
joinG (fun g0 => grdV t4 false (vLoad2 t8 h g0) (g0 undefV h)) fun t9 h =>
vPick t4 (.bool .true) t9 h fun t10 h =>
K t10 h
theorem s_device_Device_Dead_eq (cf : CallK) (fuel : Nat) (t0 : AV) (h : Hp) (K : AV → Hp → Prop) : s_device_Device_Dead cf fuel t0 h K = deepT (tabOf Try.prog) f_device_Device_Dead cf fuel [t0] h K :=
  Eq.trans (by kernel_rfl) (rFun (by kernel_rfl) rExact)

noncomputable def s_device_Device_doneB1 (cf : CallK) (fuel : Nat) (j0 : Hp → Prop) (t0 : AV) (h : Hp) : Prop :=
vNilck t0 h fun t15 h =>
vFaddr 2 t15 h fun t16 h =>
vLoad2 t16 h fun t17 h =>
vArith Go.Am.subI t17 (.int .i64 1) h fun t18 h =>
vNilck t0 h fun t19 h =>
vFaddr 2 t19 h fun t20 h =>
vStore 1 t20 t18 h fun _ h =>
vNilck t0 h fun t23 h =>
vFaddr 2 t23 h fun t24 h =>
vLoad2 t24 h fun t25 h =>
vLss t25 (.int .i64 1) h fun t26 h =>
vNilck t0 h fun t27 h =>
vFaddr 3 t27 h fun t28 h =>
vStore 1 t28 t26 h fun _ h =>
j0 h
noncomputable def s_device_Device_done (cf : CallK) (fuel : Nat) (t0 : AV) (h : Hp) (K : AV → Hp → Prop) : Prop :=
vNilck t0 h fun t4 h =>
vFaddr 4 t4 h fun t5 h =>
vLoad2 t5 h fun t6 h =>
vAdd t6 (.int .i64 1) h fun t7 h =>
vNilck t0 h fun t8 h =>
vFaddr 4 t8 h fun t9 h =>
vStore 1 t9 t7 h fun _ h =>
(fun (j0 : Hp → Prop) =>
vNilck t0 h fun t11 h =>
vFaddr 1 t11 h fun t12 h =>
vLoad2 t12 h fun t13 h =>
vIf t13 (
s_device_Device_doneB1 cf fuel j0 t0 h) (
j0 h)) fun h =>
K (.int .i64 0) h
theorem s_device_Device_done_eq (cf : CallK) (fuel : Nat) (t0 : AV) (h : Hp) (K : AV → Hp → Prop) : s_device_Device_done cf fuel t0 h K = deepT (tabOf Try.prog) f_device_Device_done cf fuel [t0] h K :=
  Eq.trans (by kernel_rfl) (rFun (by kernel_rfl) rExact)

noncomputable def s_zbyte_Append64 (cf : CallK) (fuel : Nat) (t0 : AV) (t1 : AV) (h : Hp) (K : AV → Hp → Prop) : Prop :=
vToInt .u8 t1 h fun t7 h =>
vShr t1 (.int .u64 8) h fun t9 h =>
vToInt .u8 t9 h fun t10 h =>
vShr t1 (.int .u64 16) h fun t12 h =>
vToInt .u8 t12 h fun t13 h =>
vShr t1 (.int .u64 24) h fun t15 h =>
vToInt .u8 t15 h fun t16 h =>
vShr t1 (.int .u64 32) h fun t18 h =>
vToInt .u8 t18 h fun t19 h =>
vShr t1 (.int .u64 40) h fun t21 h =>
vToInt .u8 t21 h fun t22 h =>
vShr t1 (.int .u64 48) h fun t24 h =>
vToInt .u8 t24 h fun t25 h =>
vShr t1 (.int .u64 56) h fun t27 h =>
vToInt .u8 t27 h fun t28 h =>
vBslice 1 8 true [(.int .u8 0)] [(0, 1, t7), (1, 1, t10), (2, 1, t13), (3, 1, t16), (4, 1, t19), (5, 1, t22), (6, 1, t25), (7, 1, t28)] h fun t29 h =>
vAppend2 1 1 true t0 t29 h fun t30 h =>
K t30 h
theorem s_zbyte_Append64_eq (cf : CallK) (fuel : Nat) (t0 : AV) (t1 : AV) (h : Hp) (K : AV → Hp → Prop) : s_zbyte_Append64 cf fuel t0 t1 h K = deepT (tabOf Try.prog) f_zbyte_Append64 cf fuel [t0, t1] h K :=
  Eq.trans (by kernel_rfl) (rFun (by kernel_rfl) rExact)

noncomputable def s_zbyte_Append32 (cf : CallK) (fuel : Nat) (t0 : AV) (t1 : AV) (h : Hp) (K : AV → Hp → Prop) : Prop :=
vToInt .u8 t1 h fun t7 h =>
vShr t1 (.int .u64 8) h fun t9 h =>
vToInt .u8 t9 h fun t10 h =>
vShr t1 (.int .u64 16) h fun t12 h =>
vToInt .u8 t12 h fun t13 h =>
vShr t1 (.int .u64 24) h fun t15 h =>
vToInt .u8 t15 h fun t16 h =>
vBslice 1 4 true [(.int .u8 0)] [(0, 1, t7), (1, 1, t10), (2, 1, t13), (3, 1, t16)] h fun t17 h =>
vAppend2 1 1 true t0 t17 h fun t18 h =>
K t18 h
theorem s_zbyte_Append32_eq (cf : CallK) (fuel : Nat) (t0 : AV) (t1 : AV) (h : Hp) (K : AV → Hp → Prop) : s_zbyte_Append32 cf fuel t0 t1 h K = deepT (tabOf Try.prog) f_zbyte_Append32 cf fuel [t0, t1] h K :=
  Eq.trans (by kernel_rfl) (rFun (by kernel_rfl) rExact)

noncomputable def s_crc_Of (cf : CallK) (fuel : Nat) (t0 : AV) (h : Hp) (K : AV → Hp → Prop) : Prop :=
cf f_crc_New [] h fun t4 h =>
vFunc 121 [t4] [] h fun t7 h =>
cf f_crc_each [t0, t7] h fun t8 h =>
cf f_crc_Sum_Value [t4] h fun t10 h =>
K t10 h
theorem s_crc_Of_eq (cf : CallK) (fuel : Nat) (t0 : AV) (h : Hp) (K : AV → Hp → Prop) : s_crc_Of cf fuel t0 h K = deepT (tabOf Try.prog) f_crc_Of cf fuel [t0] h K :=
  Eq.trans (by kernel_rfl) (rFun (by kernel_rfl) rExact)

noncomputable def s_zbyte_Get64 (cf : CallK) (fuel : Nat) (t0 : AV) (h : Hp) (K : AV → Hp → Prop) : Prop :=
vIaddr 1 t0 (.int .i64 0) h fun t4 h =>
vLoad2 t4 h fun t5 h =>
vToInt .u64 t5 h fun t6 h =>
vIaddr 1 t0 (.int .i64 1) h fun t8 h =>
vLoad2 t8 h fun t9 h =>
vToInt .u64 t9 h fun t10 h =>
vShl t10 (.int .u64 8) h fun t11 h =>
vBits Nat.lor t6 t11 h fun t12 h =>
vIaddr 1 t0 (.int .i64 2) h fun t14 h =>
vLoad2 t14 h fun t15 h =>
vToInt .u64 t15 h fun t16 h =>
vShl t16 (.int .u64 16) h fun t17 h =>
vBits Nat.lor t12 t17 h fun t18 h =>
vIaddr 1 t0 (.int .i64 3) h fun t20 h =>
vLoad2 t20 h fun t21 h =>
vToInt .u64 t21 h fun t22 h =>
vShl t22 (.int .u64 24) h fun t23 h =>
vBits Nat.lor t18 t23 h fun t24 h =>
vIaddr 1 t0 (.int .i64 4) h fun t26 h =>
vLoad2 t26 h fun t27 h =>
vToInt .u64 t27 h fun t28 h =>
vShl t28 (.int .u64 32) h fun t29 h =>
vBits Nat.lor t24 t29 h fun t30 h =>
vIaddr 1 t0 (.int .i64 5) h fun t32 h =>
vLoad2 t32 h fun t33 h =>
vToInt .u64 t33 h fun t34 h =>
vShl t34 (.int .u64 40) h fun t35 h =>
vBits Nat.lor t30 t35 h fun t36 h =>
vIaddr 1 t0 (.int .i64 6) h fun t38 h =>
vLoad2 t38 h fun t39 h =>
vToInt .u64 t39 h fun t40 h =>
vShl t40 (.int .u64 48) h fun t41 h =>
vBits Nat.lor t36 t41 h fun t42 h =>
vIaddr 1 t0 (.int .i64 7) h fun t44 h =>
vLoad2 t44 h fun t45 h =>
vToInt .u64 t45 h fun t46 h =>
vShl t46 (.int .u64 56) h fun t47 h =>
vBits Nat.lor t42 t47 h fun t48 h =>
K t48 h
theorem s_zbyte_Get64_eq (cf : CallK) (fuel : Nat) (t0 : AV) (h : Hp) (K : AV → Hp → Prop) : s_zbyte_Get64 cf fuel t0 h K = deepT (tabOf Try.prog) f_zbyte_Get64 cf fuel [t0] h K :=
  Eq.trans (by kernel_rfl) (rFun (by kernel_rfl) rExact)

noncomputable def s_wal_Volume_at (cf : CallK) (fuel : Nat) (t0 : AV) (t1 : AV) (t2 : AV) (h : Hp) (K : AV → Hp → Prop) : Prop :=
vDiv true t1 (.int .i64 2) h fun t8 h =>
vNilck t0 h fun t10 h =>
vFaddr 1 t10 h fun t11 h =>
vLoad2 t11 h fun t12 h =>
vLenL2 t12 h fun t13 h =>
vArith Go.Am.mulI t8 t13 h fun t14 h =>
vAdd (.int .i64 8) t14 h fun t15 h =>
vAdd t15 t2 h fun t17 h =>
K t17 h
theorem s_wal_Volume_at_eq (cf : CallK) (fuel : Nat) (t0 : AV) (t1 : AV) (t2 : AV) (h : Hp) (K : AV → Hp → Prop) : s_wal_Volume_at cf fuel t0 t1 t2 h K = deepT (tabOf Try.prog) f_wal_Volume_at cf fuel [t0, t1, t2] h K :=
  Eq.trans (by kernel_rfl) (rFun (by kernel_rfl) rExact)

noncomputable def s_slices_insertionSortOrdered_intE0 (cf : CallK) (fuel : Nat) (K : AV → Hp → Prop) : Hp → Prop := fun h =>
K (.tup []) h
noncomputable def s_slices_insertionSortOrdered_intE2 (cf : CallK) (fuel : Nat) (ih1 : AV → Hp → Prop) (t0 : AV) (t1 : AV) (t2 : AV) (t6 : AV) : Hp → Prop := fun h =>
vAdd t6 (.int .i64 1) h fun t14 h =>
ih1 t14 h
noncomputable def s_slices_insertionSortOrdered_intE3 (cf : CallK) (fuel : Nat) (e2 : Hp → Prop) (t0 : AV) (t1 : AV) (t2 : AV) (t6 : AV) : Hp → Prop := fun h =>
e2 h
noncomputable def s_slices_insertionSortOrdered_intL4B (cf : CallK) (fuel : Nat) (e3 : Hp → Prop) (t0 : AV) (t1 : AV) (t2 : AV) (t6 : AV) (ih4 : AV → Hp → Prop) : AV → Hp → Prop := fun t7 h =>
vGtr t7 t1 h fun t18 h =>
joinG (fun g15 => grdV t18 true (vMov t0 h g15) (g15 undefV h)) fun t20 h =>
joinG (fun g14 => grdV t18 true (vMov t7 h g14) (g14 undefV h)) fun t21 h =>
joinG (fun g13 => grdV t18 true (vIaddr 1 t20 t21 h g13) (g13 undefV h)) fun t22 h =>
joinG (fun g12 => grdV t18 true (vLoad2 t22 h g12) (g12 undefV h)) fun t23 h =>
joinG (fun g11 => grdV t18 true (vMov t0 h g11) (g11 undefV h)) fun t24 h =>
joinG (fun g10 => grdV t18 true (vMov t7 h g10) (g10 undefV h)) fun t25 h =>
joinG (fun g9 => grdV t18 true (vArith Go.Am.subI t25 (.int .i64 1) h g9) (g9 undefV h)) fun t26 h =>
joinG (fun g8 => grdV t18 true (vIaddr 1 t24 t26 h g8) (g8 undefV h)) fun t27 h =>
joinG (fun g7 => grdV t18 true (vLoad2 t27 h g7) (g7 undefV h)) fun t28 h =>
joinG (fun g6 => grdV t18 true (cf f_cmp_Less_int [t23, t28] h g6) (g6 undefV h)) fun t29 h =>
vPick t18 t29 (.bool .false) h fun t30 h =>
vIf t30 (
(fun (e5 : Hp → Prop) =>
vArith Go.Am.subI t7 (.int .i64 1) h fun t37 h =>
vArith Go.Am.subI t7 (.int .i64 1) h fun t40 h =>
vIaddr 1 t0 t40 h fun t41 h =>
vLoad2 t41 h fun t42 h =>
vIaddr 1 t0 t7 h fun t45 h =>
vLoad2 t45 h fun t46 h =>
vIaddr 1 t0 t7 h fun t47 h =>
vStore 1 t47 t42 h fun _ h =>
vIaddr 1 t0 t37 h fun t48 h =>
vStore 1 t48 t46 h fun _ h =>
e5 h) fun h =>
vArith Go.Am.subI t7 (.int .i64 1) h fun t32 h =>
ih4 t32 h) (
e3 h)
noncomputable def s_slices_insertionSortOrdered_intL4 (cf : CallK) (fuel : Nat) (e3 : Hp → Prop) (t0 : AV) (t1 : AV) (t2 : AV) (t6 : AV) (m : Nat) : AV → Hp → Prop := Nat.rec (motive := fun _ => AV → Hp → Prop) (fun _ _ => False) (fun _ ih => s_slices_insertionSortOrdered_intL4B cf fuel e3 t0 t1 t2 t6 ih) m
theorem s_slices_insertionSortOrdered_intL4_succ (cf : CallK) (fuel : Nat) (e3 : Hp → Prop) (t0 : AV) (t1 : AV) (t2 : AV) (t6 : AV) (m : Nat) : s_slices_insertionSortOrdered_intL4 cf fuel e3 t0 t1 t2 t6 (m + 1) = s_slices_insertionSortOrdered_intL4B cf fuel e3 t0 t1 t2 t6 (s_slices_insertionSortOrdered_intL4 cf fuel e3 t0 t1 t2 t6 m) := rfl
noncomputable def s_slices_insertionSortOrdered_intL1B (cf : CallK) (fuel : Nat) (e0 : Hp → Prop) (t0 : AV) (t1 : AV) (t2 : AV) (ih1 : AV → Hp → Prop) : AV → Hp → Prop := fun t6 h =>
vLss t6 t2 h fun t12 h =>
vIf t12 (
(fun (e2 : Hp → Prop) =>
(fun (e3 : Hp → Prop) =>
s_slices_insertionSortOrdered_intL4 cf fuel (s_slices_insertionSortOrdered_intE3 cf fuel (s_slices_insertionSortOrdered_intE2 cf fuel ih1 t0 t1 t2 t6) t0 t1 t2 t6) t0 t1 t2 t6 fuel t6 h) (s_slices_insertionSortOrdered_intE3 cf fuel (s_slices_insertionSortOrdered_intE2 cf fuel ih1 t0 t1 t2 t6) t0 t1 t2 t6)) (s_slices_insertionSortOrdered_intE2 cf fuel ih1 t0 t1 t2 t6)) (
e0 h)
noncomputable def s_slices_insertionSortOrdered_intL1 (cf : CallK) (fuel : Nat) (e0 : Hp → Prop) (t0 : AV) (t1 : AV) (t2 : AV) (m : Nat) : AV → Hp → Prop := Nat.rec (motive := fun _ => AV → Hp → Prop) (fun _ _ => False) (fun _ ih => s_slices_insertionSortOrdered_intL1B cf fuel e0 t0 t1 t2 ih) m
theorem s_slices_insertionSortOrdered_intL1_succ (cf : CallK) (fuel : Nat) (e0 : Hp → Prop) (t0 : AV) (t1 : AV) (t2 : AV) (m : Nat) : s_slices_insertionSortOrdered_intL1 cf fuel e0 t0 t1 t2 (m + 1) = s_slices_insertionSortOrdered_intL1B cf fuel e0 t0 t1 t2 (s_slices_insertionSortOrdered_intL1 cf fuel e0 t0 t1 t2 m) := rfl
noncomputable def s_slices_insertionSortOrdered_int (cf : CallK) (fuel : Nat) (t0 : AV) (t1 : AV) (t2 : AV) (h : Hp) (K : AV → Hp → Prop) : Prop :=
vAdd t1 (.int .i64 1) h fun t9 h =>
(fun (e0 : Hp → Prop) =>
s_slices_insertionSortOrdered_intL1 cf fuel (s_slices_insertionSortOrdered_intE0 cf fuel K) t0 t1 t2 fuel t9 h) (s_slices_insertionSortOrdered_intE0 cf fuel K)
theorem s_slices_insertionSortOrdered_int_eq (cf : CallK) (fuel : Nat) (t0 : AV) (t1 : AV) (t2 : AV) (h : Hp) (K : AV → Hp → Prop) : s_slices_insertionSortOrdered_int cf fuel t0 t1 t2 h K = deepT (tabOf Try.prog) f_slices_insertionSortOrdered_int cf fuel [t0, t1, t2] h K :=
  Eq.trans (by kernel_rfl) (rFun (by kernel_rfl) (rSeq (by kernel_rfl) (rBlock (by kernel_rfl) (rLoop (by kernel_rfl) (fun m1 fr h => s_slices_insertionSortOrdered_intL1 cf fuel (s_slices_insertionSortOrdered_intE0 cf fuel K) (getS fr (gpos 0)) (getS fr (gpos 1)) (getS fr (gpos 2)) m1 (getS fr (gpos 6)) h) (funext fun fr => funext fun h => by kernel_rfl) fun m1 => rCast (funext fun fr => funext fun h => by kernel_rfl) (rSeq (by kernel_rfl) (rSeq (by kernel_rfl) rExact (rBlock (by kernel_rfl) (rSeq (by kernel_rfl) (rBlock (by kernel_rfl) (rLoop (by kernel_rfl) (fun m4 fr h => s_slices_insertionSortOrdered_intL4 cf fuel (s_slices_insertionSortOrdered_intE3 cf fuel (s_slices_insertionSortOrdered_intE2 cf fuel (s_slices_insertionSortOrdered_intL1 cf fuel (s_slices_insertionSortOrdered_intE0 cf fuel K) (getS fr (gpos 0)) (getS fr (gpos 1)) (getS fr (gpos 2)) m1) (getS fr (gpos 0)) (getS fr (gpos 1)) (getS fr (gpos 2)) (getS fr (gpos 6))) (getS fr (gpos 0)) (getS fr (gpos 1)) (getS fr (gpos 2)) (getS fr (gpos 6))) (getS fr (gpos 0)) (getS fr (gpos 1)) (getS fr (gpos 2)) (getS fr (gpos 6)) m4 (getS fr (gpos 7)) h) (funext fun fr => funext fun h => by kernel_rfl) fun m4 => rCast (funext fun fr => funext fun h => by kernel_rfl) rExact)) rExact))) rExact))) rExact))

noncomputable def s_slices_heapSortOrdered_intE1 (cf : CallK) (fuel : Nat) (K : AV → Hp → Prop) : Hp → Prop := fun h =>
K (.tup []) h
noncomputable def s_slices_heapSortOrdered_intB4 (cf : CallK) (fuel : Nat) (ih2 : AV → Hp → Prop) (t10 : AV) (t0 : AV) (t6 : AV) (t7 : AV) (h : Hp) : Prop :=
(fun (e3 : Hp → Prop) =>
vAdd t6 t10 h fun t38 h =>
vAdd t6 t10 h fun t42 h =>
vIaddr 1 t0 t42 h fun t43 h =>
vLoad2 t43 h fun t44 h =>
vIaddr 1 t0 t6 h fun t47 h =>
vLoad2 t47 h fun t48 h =>
vIaddr 1 t0 t6 h fun t49 h =>
vStore 1 t49 t44 h fun _ h =>
vIaddr 1 t0 t38 h fun t50 h =>
vStore 1 t50 t48 h fun _ h =>
cf f_slices_siftDownOrdered_int [t0, t7, t10, t6] h fun t55 h =>
e3 h) fun h =>
vArith Go.Am.subI t10 (.int .i64 1) h fun t32 h =>
ih2 t32 h
noncomputable def s_slices_heapSortOrdered_intL2B (cf : CallK) (fuel : Nat) (e1 : Hp → Prop) (t0 : AV) (t6 : AV) (t7 : AV) (ih2 : AV → Hp → Prop) : AV → Hp → Prop := fun t10 h =>
vGeq t10 (.int .i64 0) h fun t30 h =>
vIf t30 (
s_slices_heapSortOrdered_intB4 cf fuel ih2 t10 t0 t6 t7 h) (
e1 h)
noncomputable def s_slices_heapSortOrdered_intL2 (cf : CallK) (fuel : Nat) (e1 : Hp → Prop) (t0 : AV) (t6 : AV) (t7 : AV) (m : Nat) : AV → Hp → Prop := Nat.rec (motive := fun _ => AV → Hp → Prop) (fun _ _ => False) (fun _ ih => s_slices_heapSortOrdered_intL2B cf fuel e1 t0 t6 t7 ih) m
theorem s_slices_heapSortOrdered_intL2_succ (cf : CallK) (fuel : Nat) (e1 : Hp → Prop) (t0 : AV) (t6 : AV) (t7 : AV) (m : Nat) : s_slices_heapSortOrdered_intL2 cf fuel e1 t0 t6 t7 (m + 1) = s_slices_heapSortOrdered_intL2B cf fuel e1 t0 t6 t7 (s_slices_heapSortOrdered_intL2 cf fuel e1 t0 t6 t7 m) := rfl
noncomputable def s_slices_heapSortOrdered_intE0 (cf : CallK) (fuel : Nat) (K : AV → Hp → Prop) (t0 : AV) (t6 : AV) (t7 : AV) (t8 : AV) : Hp → Prop := fun h =>
vArith Go.Am.subI t8 (.int .i64 1) h fun t28 h =>
(fun (e1 : Hp → Prop) =>
s_slices_heapSortOrdered_intL2 cf fuel (s_slices_heapSortOrdered_intE1 cf fuel K) t0 t6 t7 fuel t28 h) (s_slices_heapSortOrdered_intE1 cf fuel K)
noncomputable def s_slices_heapSortOrdered_intL5B (cf : CallK) (fuel : Nat) (e0 : Hp → Prop) (t0 : AV) (t6 : AV) (t7 : AV) (t8 : AV) (ih5 : AV → Hp → Prop) : AV → Hp → Prop := fun t9 h =>
vGeq t9 (.int .i64 0) h fun t19 h =>
vIf t19 (
(fun (e6 : Hp → Prop) =>
cf f_slices_siftDownOrdered_int [t0, t9, t8, t6] h fun t26 h =>
e6 h) fun h =>
vArith Go.Am.subI t9 (.int .i64 1) h fun t21 h =>
ih5 t21 h) (
e0 h)
noncomputable def s_slices_heapSortOrdered_intL5 (cf : CallK) (fuel : Nat) (e0 : Hp → Prop) (t0 : AV) (t6 : AV) (t7 : AV) (t8 : AV) (m : Nat) : AV → Hp → Prop := Nat.rec (motive := fun _ => AV → Hp → Prop) (fun _ _ => False) (fun _ ih => s_slices_heapSortOrdered_intL5B cf fuel e0 t0 t6 t7 t8 ih) m
theorem s_slices_heapSortOrdered_intL5_succ (cf : CallK) (fuel : Nat) (e0 : Hp → Prop) (t0 : AV) (t6 : AV) (t7 : AV) (t8 : AV) (m : Nat) : s_slices_heapSortOrdered_intL5 cf fuel e0 t0 t6 t7 t8 (m + 1) = s_slices_heapSortOrdered_intL5B cf fuel e0 t0 t6 t7 t8 (s_slices_heapSortOrdered_intL5 cf fuel e0 t0 t6 t7 t8 m) := rfl
noncomputable def s_slices_heapSortOrdered_int (cf : CallK) (fuel : Nat) (t0 : AV) (t1 : AV) (t2 : AV) (h : Hp) (K : AV → Hp → Prop) : Prop :=
vArith Go.Am.subI t2 t1 h fun t14 h =>
vArith Go.Am.subI t14 (.int .i64 1) h fun t16 h =>
vDiv false t16 (.int .i64 2) h fun t17 h =>
(fun (e0 : Hp → Prop) =>
s_slices_heapSortOrdered_intL5 cf fuel (s_slices_heapSortOrdered_intE0 cf fuel K t0 t1 (.int .i64 0) t14) t0 t1 (.int .i64 0) t14 fuel t17 h) (s_slices_heapSortOrdered_intE0 cf fuel K t0 t1 (.int .i64 0) t14)
theorem s_slices_heapSortOrdered_int_eq (cf : CallK) (fuel : Nat) (t0 : AV) (t1 : AV) (t2 : AV) (h : Hp) (K : AV → Hp → Prop) : s_slices_heapSortOrdered_int cf fuel t0 t1 t2 h K = deepT (tabOf Try.prog) f_slices_heapSortOrdered_int cf fuel [t0, t1, t2] h K :=
  Eq.trans (by kernel_rfl) (rFun (by kernel_rfl) (rSeq (by kernel_rfl) (rSeq (by kernel_rfl) (rSeq (by kernel_rfl) (rSeq (by kernel_rfl) (rSeq (by kernel_rfl) (rBlock (by kernel_rfl) (rLoop (by kernel_rfl) (fun m2 fr h => s_slices_heapSortOrdered_intL2 cf fuel (s_slices_heapSortOrdered_intE1 cf fuel K) (getS fr (gpos 0)) (getS fr (gpos 6)) (getS fr (gpos 7)) m2 (getS fr (gpos 10)) h) (funext fun fr => funext fun h => by kernel_rfl) fun m2 => rCast (funext fun fr => funext fun h => by kernel_rfl) rExact)) rExact) (rSeq (by kernel_rfl) (rBlock (by kernel_rfl) (rLoop (by kernel_rfl) (fun m5 fr h => s_slices_heapSortOrdered_intL5 cf fuel (s_slices_heapSortOrdered_intE0 cf fuel K (getS fr (gpos 0)) (getS fr (gpos 6)) (getS fr (gpos 7)) (getS fr (gpos 8))) (getS fr (gpos 0)) (getS fr (gpos 6)) (getS fr (gpos 7)) (getS fr (gpos 8)) m5 (getS fr (gpos 9)) h) (funext fun fr => funext fun h => by kernel_rfl) fun m5 => rCast (funext fun fr => funext fun h => by kernel_rfl) rExact)) rExact)) rExact) rExact) rExact))

noncomputable def s_slices_breakPatternsOrdered_intE0 (cf : CallK) (fuel : Nat) (K : AV → Hp → Prop) : Hp → Prop := fun h =>
K (.tup []) h
noncomputable def s_slices_breakPatternsOrdered_intB4 (cf : CallK) (fuel : Nat) (ih1 : AV → Hp → Prop) (t6 : AV) (t1 : AV) (t9 : AV) (t0 : AV) (t7 : AV) (t8 : AV) (h : Hp) : Prop :=
(fun (e2 : Hp → Prop) =>
cf f_slices_xorshift_Next [t7] h fun t36 h =>
vArith Go.Am.subI t8 (.int .u64 1) h fun t38 h =>
vBits Nat.land t36 t38 h fun t39 h =>
vToInt .i64 t39 h fun t40 h =>
(fun (j3 : AV → Hp → Prop) =>
vGeq t40 t6 h fun t43 h =>
vIf t43 (
vArith Go.Am.subI t40 t6 h fun t46 h =>
j3 t46 h) (
j3 t40 h)) fun t10 h =>
vAdd t1 t10 h fun t52 h =>
vAdd t1 t10 h fun t56 h =>
vIaddr 1 t0 t56 h fun t57 h =>
vLoad2 t57 h fun t58 h =>
vIaddr 1 t0 t9 h fun t61 h =>
vLoad2 t61 h fun t62 h =>
vIaddr 1 t0 t9 h fun t63 h =>
vStore 1 t63 t58 h fun _ h =>
vIaddr 1 t0 t52 h fun t64 h =>
vStore 1 t64 t62 h fun _ h =>
e2 h) fun h =>
vAdd t9 (.int .i64 1) h fun t35 h =>
ih1 t35 h
noncomputable def s_slices_breakPatternsOrdered_intL1B (cf : CallK) (fuel : Nat) (e0 : Hp → Prop) (t0 : AV) (t1 : AV) (t6 : AV) (t7 : AV) (t8 : AV) (ih1 : AV → Hp → Prop) : AV → Hp → Prop := fun t9 h =>
vDiv false t6 (.int .i64 4) h fun t29 h =>
vArith Go.Am.mulI t29 (.int .i64 2) h fun t30 h =>
vAdd t1 t30 h fun t31 h =>
vAdd t31 (.int .i64 1) h fun t32 h =>
vLeq t9 t32 h fun t33 h =>
vIf t33 (
s_slices_breakPatternsOrdered_intB4 cf fuel ih1 t6 t1 t9 t0 t7 t8 h) (
e0 h)
noncomputable def s_slices_breakPatternsOrdered_intL1 (cf : CallK) (fuel : Nat) (e0 : Hp → Prop) (t0 : AV) (t1 : AV) (t6 : AV) (t7 : AV) (t8 : AV) (m : Nat) : AV → Hp → Prop := Nat.rec (motive := fun _ => AV → Hp → Prop) (fun _ _ => False) (fun _ ih => s_slices_breakPatternsOrdered_intL1B cf fuel e0 t0 t1 t6 t7 t8 ih) m
theorem s_slices_breakPatternsOrdered_intL1_succ (cf : CallK) (fuel : Nat) (e0 : Hp → Prop) (t0 : AV) (t1 : AV) (t6 : AV) (t7 : AV) (t8 : AV) (m : Nat) : s_slices_breakPatternsOrdered_intL1 cf fuel e0 t0 t1 t6 t7 t8 (m + 1) = s_slices_breakPatternsOrdered_intL1B cf fuel e0 t0 t1 t6 t7 t8 (s_slices_breakPatternsOrdered_intL1 cf fuel e0 t0 t1 t6 t7 t8 m) := rfl
noncomputable def s_slices_breakPatternsOrdered_int (cf : CallK) (fuel : Nat) (t0 : AV) (t1 : AV) (t2 : AV) (h : Hp) (K : AV → Hp → Prop) : Prop :=
vArith Go.Am.subI t2 t1 h fun t13 h =>
vGeq t13 (.int .i64 8) h fun t15 h =>
vIf t15 (
vToInt .u64 t13 h fun t17 h =>
vBox 1 (.int .u64 0) h fun t7 h =>
vStore 1 t7 t17 h fun _ h =>
cf f_slices_nextPowerOfTwo [t13] h fun t19 h =>
vDiv false t13 (.int .i64 4) h fun t22 h =>
vArith Go.Am.mulI t22 (.int .i64 2) h fun t23 h =>
vAdd t1 t23 h fun t24 h =>
vArith Go.Am.subI t24 (.int .i64 1) h fun t25 h =>
(fun (e0 : Hp → Prop) =>
s_slices_breakPatternsOrdered_intL1 cf fuel (s_slices_breakPatternsOrdered_intE0 cf fuel K) t0 t1 t13 t7 t19 fuel t25 h) (s_slices_breakPatternsOrdered_intE0 cf fuel K)) (
K (.tup []) h)
theorem s_slices_breakPatternsOrdered_int_eq (cf : CallK) (fuel : Nat) (t0 : AV) (t1 : AV) (t2 : AV) (h : Hp) (K : AV → Hp → Prop) : s_slices_breakPatternsOrdered_int cf fuel t0 t1 t2 h K = deepT (tabOf Try.prog) f_slices_breakPatternsOrdered_int cf fuel [t0, t1, t2] h K :=
  Eq.trans (by kernel_rfl) (rFun (by kernel_rfl) (rSeq (by kernel_rfl) (rSeq (by kernel_rfl) (rCond (by kernel_rfl) (rSeq (by kernel_rfl) (rSeq (by kernel_rfl) (rSeq (by kernel_rfl) (rBlock (by kernel_rfl) (rLoop (by kernel_rfl) (fun m1 fr h => s_slices_breakPatternsOrdered_intL1 cf fuel (s_slices_breakPatternsOrdered_intE0 cf fuel K) (getS fr (gpos 0)) (getS fr (gpos 1)) (getS fr (gpos 6)) (getS fr (gpos 7)) (getS fr (gpos 8)) m1 (getS fr (gpos 9)) h) (funext fun fr => funext fun h => by kernel_rfl) fun m1 => rCast (funext fun fr => funext fun h => by kernel_rfl) rExact)) rExact) rExact) rExact) rExact) rExact) rExact))

noncomputable def s_slices_choosePivotOrdered_int (cf : CallK) (fuel : Nat) (t0 : AV) (t1 : AV) (t2 : AV) (h : Hp) (K : AV → Hp → Prop) : Prop :=
vArith Go.Am.subI t2 t1 h fun t15 h =>
vBox 1 (.int .i64 0) h fun t9 h =>
vDiv false t15 (.int .i64 4) h fun t18 h =>
vArith Go.Am.mulI t18 (.int .i64 1) h fun t19 h =>
vAdd t1 t19 h fun t20 h =>
vDiv false t15 (.int .i64 4) h fun t23 h =>
vArith Go.Am.mulI t23 (.int .i64 2) h fun t24 h =>
vAdd t1 t24 h fun t25 h =>
vDiv false t15 (.int .i64 4) h fun t28 h =>
vArith Go.Am.mulI t28 (.int .i64 3) h fun t29 h =>
vAdd t1 t29 h fun t30 h =>
(fun (j0 : AV → Hp → Prop) =>
vGeq t15 (.int .i64 8) h fun t32 h =>
vIf t32 (
(fun (j1 : AV → AV → AV → Hp → Prop) =>
vGeq t15 (.int .i64 50) h fun t34 h =>
vIf t34 (
cf f_slices_medianAdjacentOrdered_int [t0, t20, t9] h fun t37 h =>
cf f_slices_medianAdjacentOrdered_int [t0, t25, t9] h fun t40 h =>
cf f_slices_medianAdjacentOrdered_int [t0, t30, t9] h fun t43 h =>
j1 t37 t40 t43 h) (
j1 t20 t25 t30 h)) fun t10 t11 t12 h =>
cf f_slices_medianOrdered_int [t0, t10, t11, t12, t9] h fun t48 h =>
j0 t48 h) (
j0 t25 h)) fun t11 h =>
vLoad2 t9 h fun t49 h =>
(fun (e2 : Hp → Prop) =>
vEql t49 (.int .i64 0) h fun t52 h =>
vIf t52 (
K (.tup [t11, (.int .i64 1)]) h) (
vEql t49 (.int .i64 12) h fun t55 h =>
vIf t55 (
K (.tup [t11, (.int .i64 2)]) h) (
K (.tup [t11, (.int .i64 0)]) h))) fun h =>
K (.tup [(.int .i64 0), (.int .i64 0)]) h
theorem s_slices_choosePivotOrdered_int_eq (cf : CallK) (fuel : Nat) (t0 : AV) (t1 : AV) (t2 : AV) (h : Hp) (K : AV → Hp → Prop) : s_slices_choosePivotOrdered_int cf fuel t0 t1 t2 h K = deepT (tabOf Try.prog) f_slices_choosePivotOrdered_int cf fuel [t0, t1, t2] h K :=
  Eq.trans (by kernel_rfl) (rFun (by kernel_rfl) rExact)

noncomputable def s_slices_reverseRangeOrdered_intE0 (cf : CallK) (fuel : Nat) (K : AV → Hp → Prop) : Hp → Prop := fun h =>
K (.tup []) h
noncomputable def s_slices_reverseRangeOrdered_intL1B (cf : CallK) (fuel : Nat) (e0 : Hp → Prop) (t0 : AV) (ih1 : AV → AV → Hp → Prop) : AV → AV → Hp → Prop := fun t6 t7 h =>
vLss t6 t7 h fun t13 h =>
vIf t13 (
(fun (e2 : AV → AV → Hp → Prop) =>
vIaddr 1 t0 t7 h fun t20 h =>
vLoad2 t20 h fun t21 h =>
vIaddr 1 t0 t6 h fun t24 h =>
vLoad2 t24 h fun t25 h =>
vIaddr 1 t0 t6 h fun t26 h =>
vStore 1 t26 t21 h fun _ h =>
vIaddr 1 t0 t7 h fun t27 h =>
vStore 1 t27 t25 h fun _ h =>
vAdd t6 (.int .i64 1) h fun t29 h =>
vArith Go.Am.subI t7 (.int .i64 1) h fun t31 h =>
e2 t29 t31 h) fun t6_3 t7_4 h =>
ih1 t6_3 t7_4 h) (
e0 h)
noncomputable def s_slices_reverseRangeOrdered_intL1 (cf : CallK) (fuel : Nat) (e0 : Hp → Prop) (t0 : AV) (m : Nat) : AV → AV → Hp → Prop := Nat.rec (motive := fun _ => AV → AV → Hp → Prop) (fun _ _ _ => False) (fun _ ih => s_slices_reverseRangeOrdered_intL1B cf fuel e0 t0 ih) m
theorem s_slices_reverseRangeOrdered_intL1_succ (cf : CallK) (fuel : Nat) (e0 : Hp → Prop) (t0 : AV) (m : Nat) : s_slices_reverseRangeOrdered_intL1 cf fuel e0 t0 (m + 1) = s_slices_reverseRangeOrdered_intL1B cf fuel e0 t0 (s_slices_reverseRangeOrdered_intL1 cf fuel e0 t0 m) := rfl
noncomputable def s_slices_reverseRangeOrdered_int (cf : CallK) (fuel : Nat) (t0 : AV) (t1 : AV) (t2 : AV) (h : Hp) (K : AV → Hp → Prop) : Prop :=
vArith Go.Am.subI t2 (.int .i64 1) h fun t10 h =>
(fun (e0 : Hp → Prop) =>
s_slices_reverseRangeOrdered_intL1 cf fuel (s_slices_reverseRangeOrdered_intE0 cf fuel K) t0 fuel t1 t10 h) (s_slices_reverseRangeOrdered_intE0 cf fuel K)
theorem s_slices_reverseRangeOrdered_int_eq (cf : CallK) (fuel : Nat) (t0 : AV) (t1 : AV) (t2 : AV) (h : Hp) (K : AV → Hp → Prop) : s_slices_reverseRangeOrdered_int cf fuel t0 t1 t2 h K = deepT (tabOf Try.prog) f_slices_reverseRangeOrdered_int cf fuel [t0, t1, t2] h K :=
  Eq.trans (by kernel_rfl) (rFun (by kernel_rfl) (rSeq (by kernel_rfl) (rSeq (by kernel_rfl) (rBlock (by kernel_rfl) (rLoop (by kernel_rfl) (fun m1 fr h => s_slices_reverseRangeOrdered_intL1 cf fuel (s_slices_reverseRangeOrdered_intE0 cf fuel K) (getS fr (gpos 0)) m1 (getS fr (gpos 6)) (getS fr (gpos 7)) h) (funext fun fr => funext fun h => by kernel_rfl) fun m1 => rCast (funext fun fr => funext fun h => by kernel_rfl) rExact)) rExact) rExact))

noncomputable def s_slices_partialInsertionSortOrdered_intE0 (cf : CallK) (fuel : Nat) (K : AV → Hp → Prop) : Hp → Prop := fun h =>
K (.bool .false) h
noncomputable def s_slices_partialInsertionSortOrdered_intE2 (cf : CallK) (fuel : Nat) (ih1 : AV → AV → Hp → Prop) (t0 : AV) (t1 : AV) (t2 : AV) (t8 : AV) : AV → Hp → Prop := fun t7 h =>
vAdd t8 (.int .i64 1) h fun t16 h =>
ih1 t7 t16 h
noncomputable def s_slices_partialInsertionSortOrdered_intE5 (cf : CallK) (fuel : Nat) (e2 : AV → Hp → Prop) (t0 : AV) (t1 : AV) (t2 : AV) (t7 : AV) (t8 : AV) : Hp → Prop := fun h =>
e2 t7 h
noncomputable def s_slices_partialInsertionSortOrdered_intB8 (cf : CallK) (fuel : Nat) (ih6 : AV → Hp → Prop) (e5 : Hp → Prop) (t10 : AV) (t0 : AV) (h : Hp) : Prop :=
(fun (e7 : Hp → Prop) =>
vIaddr 1 t0 t10 h fun t108 h =>
vLoad2 t108 h fun t109 h =>
vArith Go.Am.subI t10 (.int .i64 1) h fun t112 h =>
vIaddr 1 t0 t112 h fun t113 h =>
vLoad2 t113 h fun t114 h =>
cf f_cmp_Less_int [t109, t114] h fun t115 h =>
vNot t115 h fun t116 h =>
vIf t116 (
e5 h) (
vArith Go.Am.subI t10 (.int .i64 1) h fun t121 h =>
vArith Go.Am.subI t10 (.int .i64 1) h fun t124 h =>
vIaddr 1 t0 t124 h fun t125 h =>
vLoad2 t125 h fun t126 h =>
vIaddr 1 t0 t10 h fun t129 h =>
vLoad2 t129 h fun t130 h =>
vIaddr 1 t0 t10 h fun t131 h =>
vStore 1 t131 t126 h fun _ h =>
vIaddr 1 t0 t121 h fun t132 h =>
vStore 1 t132 t130 h fun _ h =>
e7 h)) fun h =>
vAdd t10 (.int .i64 1) h fun t105 h =>
ih6 t105 h
noncomputable def s_slices_partialInsertionSortOrdered_intL6B (cf : CallK) (fuel : Nat) (e5 : Hp → Prop) (t0 : AV) (t1 : AV) (t2 : AV) (t7 : AV) (t8 : AV) (ih6 : AV → Hp → Prop) : AV → Hp → Prop := fun t10 h =>
vLss t10 t2 h fun t103 h =>
vIf t103 (
s_slices_partialInsertionSortOrdered_intB8 cf fuel ih6 e5 t10 t0 h) (
e5 h)
noncomputable def s_slices_partialInsertionSortOrdered_intL6 (cf : CallK) (fuel : Nat) (e5 : Hp → Prop) (t0 : AV) (t1 : AV) (t2 : AV) (t7 : AV) (t8 : AV) (m : Nat) : AV → Hp → Prop := Nat.rec (motive := fun _ => AV → Hp → Prop) (fun _ _ => False) (fun _ ih => s_slices_partialInsertionSortOrdered_intL6B cf fuel e5 t0 t1 t2 t7 t8 ih) m
theorem s_slices_partialInsertionSortOrdered_intL6_succ (cf : CallK) (fuel : Nat) (e5 : Hp → Prop) (t0 : AV) (t1 : AV) (t2 : AV) (t7 : AV) (t8 : AV) (m : Nat) : s_slices_partialInsertionSortOrdered_intL6 cf fuel e5 t0 t1 t2 t7 t8 (m + 1) = s_slices_partialInsertionSortOrdered_intL6B cf fuel e5 t0 t1 t2 t7 t8 (s_slices_partialInsertionSortOrdered_intL6 cf fuel e5 t0 t1 t2 t7 t8 m) := rfl
noncomputable def s_slices_partialInsertionSortOrdered_intJ4 (cf : CallK) (fuel : Nat) (ih1 : AV → AV → Hp → Prop) (e2 : AV → Hp → Prop) (t0 : AV) (t1 : AV) (t2 : AV) (t7 : AV) (t8 : AV) : Hp → Prop := fun h =>
vArith Go.Am.subI t2 t7 h fun t97 h =>
vGeq t97 (.int .i64 2) h fun t98 h =>
vIf t98 (
vAdd t7 (.int .i64 1) h fun t100 h =>
(fun (e5 : Hp → Prop) =>
s_slices_partialInsertionSortOrdered_intL6 cf fuel (s_slices_partialInsertionSortOrdered_intE5 cf fuel (s_slices_partialInsertionSortOrdered_intE2 cf fuel ih1 t0 t1 t2 t8) t0 t1 t2 t7 t8) t0 t1 t2 t7 t8 fuel t100 h) (s_slices_partialInsertionSortOrdered_intE5 cf fuel (s_slices_partialInsertionSortOrdered_intE2 cf fuel ih1 t0 t1 t2 t8) t0 t1 t2 t7 t8)) (
e2 t7 h)
noncomputable def s_slices_partialInsertionSortOrdered_intE9 (cf : CallK) (fuel : Nat) (j4 : Hp → Prop) (t0 : AV) (t1 : AV) (t2 : AV) (t7 : AV) (t8 : AV) : Hp → Prop := fun h =>
j4 h
noncomputable def s_slices_partialInsertionSortOrdered_intB12 (cf : CallK) (fuel : Nat) (ih10 : AV → Hp → Prop) (e9 : Hp → Prop) (t9 : AV) (t0 : AV) (h : Hp) : Prop :=
(fun (e11 : Hp → Prop) =>
vIaddr 1 t0 t9 h fun t70 h =>
vLoad2 t70 h fun t71 h =>
vArith Go.Am.subI t9 (.int .i64 1) h fun t74 h =>
vIaddr 1 t0 t74 h fun t75 h =>
vLoad2 t75 h fun t76 h =>
cf f_cmp_Less_int [t71, t76] h fun t77 h =>
vNot t77 h fun t78 h =>
vIf t78 (
e9 h) (
vArith Go.Am.subI t9 (.int .i64 1) h fun t83 h =>
vArith Go.Am.subI t9 (.int .i64 1) h fun t86 h =>
vIaddr 1 t0 t86 h fun t87 h =>
vLoad2 t87 h fun t88 h =>
vIaddr 1 t0 t9 h fun t91 h =>
vLoad2 t91 h fun t92 h =>
vIaddr 1 t0 t9 h fun t93 h =>
vStore 1 t93 t88 h fun _ h =>
vIaddr 1 t0 t83 h fun t94 h =>
vStore 1 t94 t92 h fun _ h =>
e11 h)) fun h =>
vArith Go.Am.subI t9 (.int .i64 1) h fun t67 h =>
ih10 t67 h
noncomputable def s_slices_partialInsertionSortOrdered_intL10B (cf : CallK) (fuel : Nat) (e9 : Hp → Prop) (t0 : AV) (t1 : AV) (t2 : AV) (t7 : AV) (t8 : AV) (ih10 : AV → Hp → Prop) : AV → Hp → Prop := fun t9 h =>
vGeq t9 (.int .i64 1) h fun t65 h =>
vIf t65 (
s_slices_partialInsertionSortOrdered_intB12 cf fuel ih10 e9 t9 t0 h) (
e9 h)
noncomputable def s_slices_partialInsertionSortOrdered_intL10 (cf : CallK) (fuel : Nat) (e9 : Hp → Prop) (t0 : AV) (t1 : AV) (t2 : AV) (t7 : AV) (t8 : AV) (m : Nat) : AV → Hp → Prop := Nat.rec (motive := fun _ => AV → Hp → Prop) (fun _ _ => False) (fun _ ih => s_slices_partialInsertionSortOrdered_intL10B cf fuel e9 t0 t1 t2 t7 t8 ih) m
theorem s_slices_partialInsertionSortOrdered_intL10_succ (cf : CallK) (fuel : Nat) (e9 : Hp → Prop) (t0 : AV) (t1 : AV) (t2 : AV) (t7 : AV) (t8 : AV) (m : Nat) : s_slices_partialInsertionSortOrdered_intL10 cf fuel e9 t0 t1 t2 t7 t8 (m + 1) = s_slices_partialInsertionSortOrdered_intL10B cf fuel e9 t0 t1 t2 t7 t8 (s_slices_partialInsertionSortOrdered_intL10 cf fuel e9 t0 t1 t2 t7 t8 m) := rfl
noncomputable def s_slices_partialInsertionSortOrdered_intB13 (cf : CallK) (fuel : Nat) (ih1 : AV → AV → Hp → Prop) (t1 : AV) (t2 : AV) (t7 : AV) (t0 : AV) (t8 : AV) (h : Hp) : Prop :=
vArith Go.Am.subI t7 (.int .i64 1) h fun t46 h =>
vArith Go.Am.subI t7 (.int .i64 1) h fun t49 h =>
vIaddr 1 t0 t49 h fun t50 h =>
vLoad2 t50 h fun t51 h =>
vIaddr 1 t0 t7 h fun t54 h =>
vLoad2 t54 h fun t55 h =>
vIaddr 1 t0 t7 h fun t56 h =>
vStore 1 t56 t51 h fun _ h =>
vIaddr 1 t0 t46 h fun t57 h =>
vStore 1 t57 t55 h fun _ h =>
(fun (j4 : Hp → Prop) =>
vArith Go.Am.subI t7 t1 h fun t60 h =>
vGeq t60 (.int .i64 2) h fun t61 h =>
vIf t61 (
vArith Go.Am.subI t7 (.int .i64 1) h fun t63 h =>
(fun (e9 : Hp → Prop) =>
s_slices_partialInsertionSortOrdered_intL10 cf fuel (s_slices_partialInsertionSortOrdered_intE9 cf fuel (s_slices_partialInsertionSortOrdered_intJ4 cf fuel ih1 (s_slices_partialInsertionSortOrdered_intE2 cf fuel ih1 t0 t1 t2 t8) t0 t1 t2 t7 t8) t0 t1 t2 t7 t8) t0 t1 t2 t7 t8 fuel t63 h) (s_slices_partialInsertionSortOrdered_intE9 cf fuel (s_slices_partialInsertionSortOrdered_intJ4 cf fuel ih1 (s_slices_partialInsertionSortOrdered_intE2 cf fuel ih1 t0 t1 t2 t8) t0 t1 t2 t7 t8) t0 t1 t2 t7 t8)) (
j4 h)) (s_slices_partialInsertionSortOrdered_intJ4 cf fuel ih1 (s_slices_partialInsertionSortOrdered_intE2 cf fuel ih1 t0 t1 t2 t8) t0 t1 t2 t7 t8)
noncomputable def s_slices_partialInsertionSortOrdered_intE3 (cf : CallK) (fuel : Nat) (K : AV → Hp → Prop) (ih1 : AV → AV → Hp → Prop) (t0 : AV) (t1 : AV) (t2 : AV) (t8 : AV) : AV → Hp → Prop := fun t7 h =>
vEql t7 t2 h fun t37 h =>
vIf t37 (
K (.bool .true) h) (
vArith Go.Am.subI t2 t1 h fun t40 h =>
vLss t40 (.int .i64 50) h fun t41 h =>
vIf t41 (
K (.bool .false) h) (
s_slices_partialInsertionSortOrdered_intB13 cf fuel ih1 t1 t2 t7 t0 t8 h))
noncomputable def s_slices_partialInsertionSortOrdered_intL14B (cf : CallK) (fuel : Nat) (e3 : AV → Hp → Prop) (t0 : AV) (t1 : AV) (t2 : AV) (t8 : AV) (ih14 : AV → Hp → Prop) : AV → Hp → Prop := fun t7 h =>
vLss t7 t2 h fun t19 h =>
joinG (fun g27 => grdV t19 true (vMov t0 h g27) (g27 undefV h)) fun t21 h =>
joinG (fun g26 => grdV t19 true (vMov t7 h g26) (g26 undefV h)) fun t22 h =>
joinG (fun g25 => grdV t19 true (vIaddr 1 t21 t22 h g25) (g25 undefV h)) fun t23 h =>
joinG (fun g24 => grdV t19 true (vLoad2 t23 h g24) (g24 undefV h)) fun t24 h =>
joinG (fun g23 => grdV t19 true (vMov t0 h g23) (g23 undefV h)) fun t25 h =>
joinG (fun g22 => grdV t19 true (vMov t7 h g22) (g22 undefV h)) fun t26 h =>
joinG (fun g21 => grdV t19 true (vArith Go.Am.subI t26 (.int .i64 1) h g21) (g21 undefV h)) fun t27 h =>
joinG (fun g20 => grdV t19 true (vIaddr 1 t25 t27 h g20) (g20 undefV h)) fun t28 h =>
joinG (fun g19 => grdV t19 true (vLoad2 t28 h g19) (g19 undefV h)) fun t29 h =>
joinG (fun g18 => grdV t19 true (cf f_cmp_Less_int [t24, t29] h g18) (g18 undefV h)) fun t30 h =>
joinG (fun g17 => grdV t19 true (vNot t30 h g17) (g17 undefV h)) fun t31 h =>
vPick t19 t31 (.bool .false) h fun t32 h =>
vIf t32 (
(fun (e15 : AV → Hp → Prop) =>
vAdd t7 (.int .i64 1) h fun t34 h =>
e15 t34 h) fun t7_16 h =>
ih14 t7_16 h) (
e3 t7 h)
noncomputable def s_slices_partialInsertionSortOrdered_intL14 (cf : CallK) (fuel : Nat) (e3 : AV → Hp → Prop) (t0 : AV) (t1 : AV) (t2 : AV) (t8 : AV) (m : Nat) : AV → Hp → Prop := Nat.rec (motive := fun _ => AV → Hp → Prop) (fun _ _ => False) (fun _ ih => s_slices_partialInsertionSortOrdered_intL14B cf fuel e3 t0 t1 t2 t8 ih) m
theorem s_slices_partialInsertionSortOrdered_intL14_succ (cf : CallK) (fuel : Nat) (e3 : AV → Hp → Prop) (t0 : AV) (t1 : AV) (t2 : AV) (t8 : AV) (m : Nat) : s_slices_partialInsertionSortOrdered_intL14 cf fuel e3 t0 t1 t2 t8 (m + 1) = s_slices_partialInsertionSortOrdered_intL14B cf fuel e3 t0 t1 t2 t8 (s_slices_partialInsertionSortOrdered_intL14 cf fuel e3 t0 t1 t2 t8 m) := rfl
noncomputable def s_slices_partialInsertionSortOrdered_intL1B (cf : CallK) (fuel : Nat) (K : AV → Hp → Prop) (e0 : Hp → Prop) (t0 : AV) (t1 : AV) (t2 : AV) (ih1 : AV → AV → Hp → Prop) : AV → AV → Hp → Prop := fun t7 t8 h =>
vLss t8 (.int .i64 5) h fun t14 h =>
vIf t14 (
(fun (e2 : AV → Hp → Prop) =>
(fun (e3 : AV → Hp → Prop) =>
s_slices_partialInsertionSortOrdered_intL14 cf fuel (s_slices_partialInsertionSortOrdered_intE3 cf fuel K ih1 t0 t1 t2 t8) t0 t1 t2 t8 fuel t7 h) (s_slices_partialInsertionSortOrdered_intE3 cf fuel K ih1 t0 t1 t2 t8)) (s_slices_partialInsertionSortOrdered_intE2 cf fuel ih1 t0 t1 t2 t8)) (
e0 h)
noncomputable def s_slices_partialInsertionSortOrdered_intL1 (cf : CallK) (fuel : Nat) (K : AV → Hp → Prop) (e0 : Hp → Prop) (t0 : AV) (t1 : AV) (t2 : AV) (m : Nat) : AV → AV → Hp → Prop := Nat.rec (motive := fun _ => AV → AV → Hp → Prop) (fun _ _ _ => False) (fun _ ih => s_slices_partialInsertionSortOrdered_intL1B cf fuel K e0 t0 t1 t2 ih) m
theorem s_slices_partialInsertionSortOrdered_intL1_succ (cf : CallK) (fuel : Nat) (K : AV → Hp → Prop) (e0 : Hp → Prop) (t0 : AV) (t1 : AV) (t2 : AV) (m : Nat) : s_slices_partialInsertionSortOrdered_intL1 cf fuel K e0 t0 t1 t2 (m + 1) = s_slices_partialInsertionSortOrdered_intL1B cf fuel K e0 t0 t1 t2 (s_slices_partialInsertionSortOrdered_intL1 cf fuel K e0 t0 t1 t2 m) := rfl
noncomputable def s_slices_partialInsertionSortOrdered_int (cf : CallK) (fuel : Nat) (t0 : AV) (t1 : AV) (t2 : AV) (h : Hp) (K : AV → Hp → Prop) : Prop :=
vAdd t1 (.int .i64 1) h fun t12 h =>
(fun (e0 : Hp → Prop) =>
s_slices_partialInsertionSortOrdered_intL1 cf fuel K (s_slices_partialInsertionSortOrdered_intE0 cf fuel K) t0 t1 t2 fuel t12 (.int .i64 0) h) (s_slices_partialInsertionSortOrdered_intE0 cf fuel K)
theorem s_slices_partialInsertionSortOrdered_int_eq (cf : CallK) (fuel : Nat) (t0 : AV) (t1 : AV) (t2 : AV) (h : Hp) (K : AV → Hp → Prop) : s_slices_partialInsertionSortOrdered_int cf fuel t0 t1 t2 h K = deepT (tabOf Try.prog) f_slices_partialInsertionSortOrdered_int cf fuel [t0, t1, t2] h K :=
  Eq.trans (by kernel_rfl) (rFun (by kernel_rfl) (rSeq (by kernel_rfl) (rSeq (by kernel_rfl) (rSeq (by kernel_rfl) rExact (rSeq (by kernel_rfl) (rBlock (by kernel_rfl) (rLoop (by kernel_rfl) (fun m1 fr h => s_slices_partialInsertionSortOrdered_intL1 cf fuel K (s_slices_partialInsertionSortOrdered_intE0 cf fuel K) (getS fr (gpos 0)) (getS fr (gpos 1)) (getS fr (gpos 2)) m1 (getS fr (gpos 7)) (getS fr (gpos 8)) h) (funext fun fr => funext fun h => by kernel_rfl) fun m1 => rCast (funext fun fr => funext fun h => by kernel_rfl) (rSeq (by kernel_rfl) (rSeq (by kernel_rfl) rExact (rBlock (by kernel_rfl) (rSeq (by kernel_rfl) (rSeq (by kernel_rfl) (rSeq (by kernel_rfl) (rSeq (by kernel_rfl) (rSeq (by kernel_rfl) (rSeq (by kernel_rfl) (rCond (by kernel_rfl) (rSeq (by kernel_rfl) (rBlock (by kernel_rfl) (rLoop (by kernel_rfl) (fun m6 fr h => s_slices_partialInsertionSortOrdered_intL6 cf fuel (s_slices_partialInsertionSortOrdered_intE5 cf fuel (s_slices_partialInsertionSortOrdered_intE2 cf fuel (s_slices_partialInsertionSortOrdered_intL1 cf fuel K (s_slices_partialInsertionSortOrdered_intE0 cf fuel K) (getS fr (gpos 0)) (getS fr (gpos 1)) (getS fr (gpos 2)) m1) (getS fr (gpos 0)) (getS fr (gpos 1)) (getS fr (gpos 2)) (getS fr (gpos 8))) (getS fr (gpos 0)) (getS fr (gpos 1)) (getS fr (gpos 2)) (getS fr (gpos 7)) (getS fr (gpos 8))) (getS fr (gpos 0)) (getS fr (gpos 1)) (getS fr (gpos 2)) (getS fr (gpos 7)) (getS fr (gpos 8)) m6 (getS fr (gpos 10)) h) (funext fun fr => funext fun h => by kernel_rfl) fun m6 => rCast (funext fun fr => funext fun h => by kernel_rfl) rExact)) rExact) rExact) rExact) (rSeq (by kernel_rfl) (rCond (by kernel_rfl) (rSeq (by kernel_rfl) (rBlock (by kernel_rfl) (rLoop (by kernel_rfl) (fun m10 fr h => s_slices_partialInsertionSortOrdered_intL10 cf fuel (s_slices_partialInsertionSortOrdered_intE9 cf fuel (s_slices_partialInsertionSortOrdered_intJ4 cf fuel (s_slices_partialInsertionSortOrdered_intL1 cf fuel K (s_slices_partialInsertionSortOrdered_intE0 cf fuel K) (getS fr (gpos 0)) (getS fr (gpos 1)) (getS fr (gpos 2)) m1) (s_slices_partialInsertionSortOrdered_intE2 cf fuel (s_slices_partialInsertionSortOrdered_intL1 cf fuel K (s_slices_partialInsertionSortOrdered_intE0 cf fuel K) (getS fr (gpos 0)) (getS fr (gpos 1)) (getS fr (gpos 2)) m1) (getS fr (gpos 0)) (getS fr (gpos 1)) (getS fr (gpos 2)) (getS fr (gpos 8))) (getS fr (gpos 0)) (getS fr (gpos 1)) (getS fr (gpos 2)) (getS fr (gpos 7)) (getS fr (gpos 8))) (getS fr (gpos 0)) (getS fr (gpos 1)) (getS fr (gpos 2)) (getS fr (gpos 7)) (getS fr (gpos 8))) (getS fr (gpos 0)) (getS fr (gpos 1)) (getS fr (gpos 2)) (getS fr (gpos 7)) (getS fr (gpos 8)) m10 (getS fr (gpos 9)) h) (funext fun fr => funext fun h => by kernel_rfl) fun m10 => rCast (funext fun fr => funext fun h => by kernel_rfl) rExact)) rExact) rExact) rExact)) rExact) rExact) rExact) (rBlock (by kernel_rfl) (rLoop (by kernel_rfl) (fun m14 fr h => s_slices_partialInsertionSortOrdered_intL14 cf fuel (s_slices_partialInsertionSortOrdered_intE3 cf fuel K (s_slices_partialInsertionSortOrdered_intL1 cf fuel K (s_slices_partialInsertionSortOrdered_intE0 cf fuel K) (getS fr (gpos 0)) (getS fr (gpos 1)) (getS fr (gpos 2)) m1) (getS fr (gpos 0)) (getS fr (gpos 1)) (getS fr (gpos 2)) (getS fr (gpos 8))) (getS fr (gpos 0)) (getS fr (gpos 1)) (getS fr (gpos 2)) (getS fr (gpos 8)) m14 (getS fr (gpos 7)) h) (funext fun fr => funext fun h => by kernel_rfl) fun m14 => rCast (funext fun fr => funext fun h => by kernel_rfl) rExact))))) rExact))) rExact)) rExact) rExact))

noncomputable def s_cmp_Less_int (cf : CallK) (fuel : Nat) (t0 : AV) (t1 : AV) (h : Hp) (K : AV → Hp → Prop) : Prop :=
cf f_cmp_isNaN_int [t0] h fun t6 h =>
joinG (fun g5 => grdV t6 true (vMov t1 h g5) (g5 undefV h)) fun t8 h =>
joinG (fun g4 => grdV t6 true (cf f_cmp_isNaN_int [t8] h g4) (g4 undefV h)) fun t9 h =>
joinG (fun g3 => grdV t6 true (vNot t9 h g3) (g3 undefV h)) fun t10 h =>
vPick t6 t10 (.bool .false) h fun t11 h =>
joinG (fun g2 => grdV t11 false (vMov t0 h g2) (g2 undefV h)) fun t13 h =>
joinG (fun g1 => grdV t11 false (vMov t1 h g1) (g1 undefV h)) fun t14 h =>
joinG (fun g0 => grdV t11 false (vLss t13 t14 h g0) (g0 undefV h)) fun t15 h =>
vPick t11 (.bool .true) t15 h fun t16 h =>
K t16 h
theorem s_cmp_Less_int_eq (cf : CallK) (fuel : Nat) (t0 : AV) (t1 : AV) (h : Hp) (K : AV → Hp → Prop) : s_cmp_Less_int cf fuel t0 t1 h K = deepT (tabOf Try.prog) f_cmp_Less_int cf fuel [t0, t1] h K :=
  Eq.trans (by kernel_rfl) (rFun (by kernel_rfl) rExact)

noncomputable def s_slices_partitionEqualOrdered_intE0 (cf : CallK) (fuel : Nat) (K : AV → Hp → Prop) : AV → Hp → Prop := fun t9 h =>
K t9 h
noncomputable def s_slices_partitionEqualOrdered_intE2 (cf : CallK) (fuel : Nat) (ih1 : AV → AV → Hp → Prop) (t0 : AV) (t1 : AV) : AV → AV → Hp → Prop := fun t9 t10 h =>
ih1 t9 t10 h
noncomputable def s_slices_partitionEqualOrdered_intE4 (cf : CallK) (fuel : Nat) (e0 : AV → Hp → Prop) (e2 : AV → AV → Hp → Prop) (t0 : AV) (t1 : AV) (t9 : AV) : AV → Hp → Prop := fun t10 h =>
vGtr t9 t10 h fun t64 h =>
vIf t64 (
e0 t9 h) (
vIaddr 1 t0 t10 h fun t71 h =>
vLoad2 t71 h fun t72 h =>
vIaddr 1 t0 t9 h fun t75 h =>
vLoad2 t75 h fun t76 h =>
vIaddr 1 t0 t9 h fun t77 h =>
vStore 1 t77 t72 h fun _ h =>
vIaddr 1 t0 t10 h fun t78 h =>
vStore 1 t78 t76 h fun _ h =>
vAdd t9 (.int .i64 1) h fun t80 h =>
vArith Go.Am.subI t10 (.int .i64 1) h fun t82 h =>
e2 t80 t82 h)
noncomputable def s_slices_partitionEqualOrdered_intL5B (cf : CallK) (fuel : Nat) (e4 : AV → Hp → Prop) (t0 : AV) (t1 : AV) (t9 : AV) (ih5 : AV → Hp → Prop) : AV → Hp → Prop := fun t10 h =>
vLeq t9 t10 h fun t48 h =>
joinG (fun g16 => grdV t48 true (vMov t0 h g16) (g16 undefV h)) fun t50 h =>
joinG (fun g15 => grdV t48 true (vMov t1 h g15) (g15 undefV h)) fun t51 h =>
joinG (fun g14 => grdV t48 true (vIaddr 1 t50 t51 h g14) (g14 undefV h)) fun t52 h =>
joinG (fun g13 => grdV t48 true (vLoad2 t52 h g13) (g13 undefV h)) fun t53 h =>
joinG (fun g12 => grdV t48 true (vMov t0 h g12) (g12 undefV h)) fun t54 h =>
joinG (fun g11 => grdV t48 true (vMov t10 h g11) (g11 undefV h)) fun t55 h =>
joinG (fun g10 => grdV t48 true (vIaddr 1 t54 t55 h g10) (g10 undefV h)) fun t56 h =>
joinG (fun g9 => grdV t48 true (vLoad2 t56 h g9) (g9 undefV h)) fun t57 h =>
joinG (fun g8 => grdV t48 true (cf f_cmp_Less_int [t53, t57] h g8) (g8 undefV h)) fun t58 h =>
vPick t48 t58 (.bool .false) h fun t59 h =>
vIf t59 (
(fun (e6 : AV → Hp → Prop) =>
vArith Go.Am.subI t10 (.int .i64 1) h fun t61 h =>
e6 t61 h) fun t10_7 h =>
ih5 t10_7 h) (
e4 t10 h)
noncomputable def s_slices_partitionEqualOrdered_intL5 (cf : CallK) (fuel : Nat) (e4 : AV → Hp → Prop) (t0 : AV) (t1 : AV) (t9 : AV) (m : Nat) : AV → Hp → Prop := Nat.rec (motive := fun _ => AV → Hp → Prop) (fun _ _ => False) (fun _ ih => s_slices_partitionEqualOrdered_intL5B cf fuel e4 t0 t1 t9 ih) m
theorem s_slices_partitionEqualOrdered_intL5_succ (cf : CallK) (fuel : Nat) (e4 : AV → Hp → Prop) (t0 : AV) (t1 : AV) (t9 : AV) (m : Nat) : s_slices_partitionEqualOrdered_intL5 cf fuel e4 t0 t1 t9 (m + 1) = s_slices_partitionEqualOrdered_intL5B cf fuel e4 t0 t1 t9 (s_slices_partitionEqualOrdered_intL5 cf fuel e4 t0 t1 t9 m) := rfl
noncomputable def s_slices_partitionEqualOrdered_intE3 (cf : CallK) (fuel : Nat) (e0 : AV → Hp → Prop) (ih1 : AV → AV → Hp → Prop) (t0 : AV) (t1 : AV) (t10 : AV) : AV → Hp → Prop := fun t9 h =>
(fun (e4 : AV → Hp → Prop) =>
s_slices_partitionEqualOrdered_intL5 cf fuel (s_slices_partitionEqualOrdered_intE4 cf fuel e0 (s_slices_partitionEqualOrdered_intE2 cf fuel ih1 t0 t1) t0 t1 t9) t0 t1 t9 fuel t10 h) (s_slices_partitionEqualOrdered_intE4 cf fuel e0 (s_slices_partitionEqualOrdered_intE2 cf fuel ih1 t0 t1) t0 t1 t9)
noncomputable def s_slices_partitionEqualOrdered_intL17B (cf : CallK) (fuel : Nat) (e3 : AV → Hp → Prop) (t0 : AV) (t1 : AV) (t10 : AV) (ih17 : AV → Hp → Prop) : AV → Hp → Prop := fun t9 h =>
vLeq t9 t10 h fun t31 h =>
joinG (fun g29 => grdV t31 true (vMov t0 h g29) (g29 undefV h)) fun t33 h =>
joinG (fun g28 => grdV t31 true (vMov t1 h g28) (g28 undefV h)) fun t34 h =>
joinG (fun g27 => grdV t31 true (vIaddr 1 t33 t34 h g27) (g27 undefV h)) fun t35 h =>
joinG (fun g26 => grdV t31 true (vLoad2 t35 h g26) (g26 undefV h)) fun t36 h =>
joinG (fun g25 => grdV t31 true (vMov t0 h g25) (g25 undefV h)) fun t37 h =>
joinG (fun g24 => grdV t31 true (vMov t9 h g24) (g24 undefV h)) fun t38 h =>
joinG (fun g23 => grdV t31 true (vIaddr 1 t37 t38 h g23) (g23 undefV h)) fun t39 h =>
joinG (fun g22 => grdV t31 true (vLoad2 t39 h g22) (g22 undefV h)) fun t40 h =>
joinG (fun g21 => grdV t31 true (cf f_cmp_Less_int [t36, t40] h g21) (g21 undefV h)) fun t41 h =>
joinG (fun g20 => grdV t31 true (vNot t41 h g20) (g20 undefV h)) fun t42 h =>
vPick t31 t42 (.bool .false) h fun t43 h =>
vIf t43 (
(fun (e18 : AV → Hp → Prop) =>
vAdd t9 (.int .i64 1) h fun t45 h =>
e18 t45 h) fun t9_19 h =>
ih17 t9_19 h) (
e3 t9 h)
noncomputable def s_slices_partitionEqualOrdered_intL17 (cf : CallK) (fuel : Nat) (e3 : AV → Hp → Prop) (t0 : AV) (t1 : AV) (t10 : AV) (m : Nat) : AV → Hp → Prop := Nat.rec (motive := fun _ => AV → Hp → Prop) (fun _ _ => False) (fun _ ih => s_slices_partitionEqualOrdered_intL17B cf fuel e3 t0 t1 t10 ih) m
theorem s_slices_partitionEqualOrdered_intL17_succ (cf : CallK) (fuel : Nat) (e3 : AV → Hp → Prop) (t0 : AV) (t1 : AV) (t10 : AV) (m : Nat) : s_slices_partitionEqualOrdered_intL17 cf fuel e3 t0 t1 t10 (m + 1) = s_slices_partitionEqualOrdered_intL17B cf fuel e3 t0 t1 t10 (s_slices_partitionEqualOrdered_intL17 cf fuel e3 t0 t1 t10 m) := rfl
noncomputable def s_slices_partitionEqualOrdered_intL1B (cf : CallK) (fuel : Nat) (e0 : AV → Hp → Prop) (t0 : AV) (t1 : AV) (ih1 : AV → AV → Hp → Prop) : AV → AV → Hp → Prop := fun t9 t10 h =>
(fun (e2 : AV → AV → Hp → Prop) =>
(fun (e3 : AV → Hp → Prop) =>
s_slices_partitionEqualOrdered_intL17 cf fuel (s_slices_partitionEqualOrdered_intE3 cf fuel e0 ih1 t0 t1 t10) t0 t1 t10 fuel t9 h) (s_slices_partitionEqualOrdered_intE3 cf fuel e0 ih1 t0 t1 t10)) (s_slices_partitionEqualOrdered_intE2 cf fuel ih1 t0 t1)
noncomputable def s_slices_partitionEqualOrdered_intL1 (cf : CallK) (fuel : Nat) (e0 : AV → Hp → Prop) (t0 : AV) (t1 : AV) (m : Nat) : AV → AV → Hp → Prop := Nat.rec (motive := fun _ => AV → AV → Hp → Prop) (fun _ _ _ => False) (fun _ ih => s_slices_partitionEqualOrdered_intL1B cf fuel e0 t0 t1 ih) m
theorem s_slices_partitionEqualOrdered_intL1_succ (cf : CallK) (fuel : Nat) (e0 : AV → Hp → Prop) (t0 : AV) (t1 : AV) (m : Nat) : s_slices_partitionEqualOrdered_intL1 cf fuel e0 t0 t1 (m + 1) = s_slices_partitionEqualOrdered_intL1B cf fuel e0 t0 t1 (s_slices_partitionEqualOrdered_intL1 cf fuel e0 t0 t1 m) := rfl
noncomputable def s_slices_partitionEqualOrdered_int (cf : CallK) (fuel : Nat) (t0 : AV) (t1 : AV) (t2 : AV) (t3 : AV) (h : Hp) (K : AV → Hp → Prop) : Prop :=
vIaddr 1 t0 t3 h fun t17 h =>
vLoad2 t17 h fun t18 h =>
vIaddr 1 t0 t1 h fun t21 h =>
vLoad2 t21 h fun t22 h =>
vIaddr 1 t0 t1 h fun t23 h =>
vStore 1 t23 t18 h fun _ h =>
vIaddr 1 t0 t3 h fun t24 h =>
vStore 1 t24 t22 h fun _ h =>
vAdd t1 (.int .i64 1) h fun t26 h =>
vArith Go.Am.subI t2 (.int .i64 1) h fun t28 h =>
(fun (e0 : AV → Hp → Prop) =>
s_slices_partitionEqualOrdered_intL1 cf fuel (s_slices_partitionEqualOrdered_intE0 cf fuel K) t0 t1 fuel t26 t28 h) (s_slices_partitionEqualOrdered_intE0 cf fuel K)
theorem s_slices_partitionEqualOrdered_int_eq (cf : CallK) (fuel : Nat) (t0 : AV) (t1 : AV) (t2 : AV) (t3 : AV) (h : Hp) (K : AV → Hp → Prop) : s_slices_partitionEqualOrdered_int cf fuel t0 t1 t2 t3 h K = deepT (tabOf Try.prog) f_slices_partitionEqualOrdered_int cf fuel [t0, t1, t2, t3] h K :=
  Eq.trans (by kernel_rfl) (rFun (by kernel_rfl) (rSeq (by kernel_rfl) (rSeq (by kernel_rfl) (rSeq (by kernel_rfl) (rSeq (by kernel_rfl) rExact (rBlock (by kernel_rfl) (rLoop (by kernel_rfl) (fun m1 fr h => s_slices_partitionEqualOrdered_intL1 cf fuel (s_slices_partitionEqualOrdered_intE0 cf fuel K) (getS fr (gpos 0)) (getS fr (gpos 1)) m1 (getS fr (gpos 9)) (getS fr (gpos 10)) h) (funext fun fr => funext fun h => by kernel_rfl) fun m1 => rCast (funext fun fr => funext fun h => by kernel_rfl) (rBlock (by kernel_rfl) (rSeq (by kernel_rfl) (rSeq (by kernel_rfl) rExact (rBlock (by kernel_rfl) (rLoop (by kernel_rfl) (fun m5 fr h => s_slices_partitionEqualOrdered_intL5 cf fuel (s_slices_partitionEqualOrdered_intE4 cf fuel (s_slices_partitionEqualOrdered_intE0 cf fuel K) (s_slices_partitionEqualOrdered_intE2 cf fuel (s_slices_partitionEqualOrdered_intL1 cf fuel (s_slices_partitionEqualOrdered_intE0 cf fuel K) (getS fr (gpos 0)) (getS fr (gpos 1)) m1) (getS fr (gpos 0)) (getS fr (gpos 1))) (getS fr (gpos 0)) (getS fr (gpos 1)) (getS fr (gpos 9))) (getS fr (gpos 0)) (getS fr (gpos 1)) (getS fr (gpos 9)) m5 (getS fr (gpos 10)) h) (funext fun fr => funext fun h => by kernel_rfl) fun m5 => rCast (funext fun fr => funext fun h => by kernel_rfl) rExact))) (rBlock (by kernel_rfl) (rLoop (by kernel_rfl) (fun m17 fr h => s_slices_partitionEqualOrdered_intL17 cf fuel (s_slices_partitionEqualOrdered_intE3 cf fuel (s_slices_partitionEqualOrdered_intE0 cf fuel K) (s_slices_partitionEqualOrdered_intL1 cf fuel (s_slices_partitionEqualOrdered_intE0 cf fuel K) (getS fr (gpos 0)) (getS fr (gpos 1)) m1) (getS fr (gpos 0)) (getS fr (gpos 1)) (getS fr (gpos 10))) (getS fr (gpos 0)) (getS fr (gpos 1)) (getS fr (gpos 10)) m17 (getS fr (gpos 9)) h) (funext fun fr => funext fun h => by kernel_rfl) fun m17 => rCast (funext fun fr => funext fun h => by kernel_rfl) rExact))))))) rExact) rExact) rExact))


end Go.Proofs.Ytnegmbnkccngoaa.sh3
