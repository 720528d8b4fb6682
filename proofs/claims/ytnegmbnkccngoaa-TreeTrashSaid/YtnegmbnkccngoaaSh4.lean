/- The Go functions' code as the abstract machine's, over values; each is the code that the machine makes of the program's (theorems s_.._eq). No condition. -/
import Derived.Test.YtnegmbnkccngoaaAmC
import Derived.Test.YtnegmbnkccngoaaProg
import Derived.KernelRfl
namespace Go.Proofs.Ytnegmbnkccngoaa.sh4
open Go Go.Am Go.Proofs
set_option linter.unusedVariables false
set_option maxRecDepth 100000
abbrev f_clock_Cmp : Nat := 39
abbrev f_clock_Less : Nat := 105
abbrev f_clock_node : Nat := 102
abbrev f_cmp_Less_int : Nat := 97
abbrev f_cmp_isNaN_int : Nat := 107
abbrev f_cmp_isNaN_int64 : Nat := 106
abbrev f_container_heap_Init : Nat := 117
abbrev f_container_heap_Pop : Nat := 118
abbrev f_container_heap_down : Nat := 132
abbrev f_crc_New : Nat := 119
abbrev f_crc_Sum_Add : Nat := 121
abbrev f_crc_Sum_Value : Nat := 122
abbrev f_crc_each : Nat := 120
abbrev f_math_bits_Len32 : Nat := 100
abbrev f_math_bits_Len64 : Nat := 101
abbrev f_slices_Reverse_movetree_done_movetree_done : Nat := 41
abbrev f_slices_breakPatternsCmpFunc_api_ID : Nat := 111
abbrev f_slices_choosePivotCmpFunc_api_ID : Nat := 112
abbrev f_slices_heapSortCmpFunc_api_ID : Nat := 110
abbrev f_slices_insertionSortCmpFunc_api_ID : Nat := 109
abbrev f_slices_medianAdjacentCmpFunc_api_ID : Nat := 130
abbrev f_slices_medianCmpFunc_api_ID : Nat := 131
abbrev f_slices_nextPowerOfTwo : Nat := 124
abbrev f_slices_partialInsertionSortCmpFunc_api_ID : Nat := 114
abbrev f_slices_partitionCmpFunc_api_ID : Nat := 116
abbrev f_slices_partitionEqualCmpFunc_api_ID : Nat := 115
abbrev f_slices_partitionOrdered_int : Nat := 99
abbrev f_slices_reverseRangeCmpFunc_api_ID : Nat := 113
abbrev f_slices_rotateLeft_movetree_done : Nat := 108
abbrev f_slices_siftDownCmpFunc_api_ID : Nat := 129
abbrev f_slices_xorshift_Next : Nat := 125
abbrev f_strings_ContainsAny : Nat := 104
abbrev f_strings_IndexAny : Nat := 128
abbrev f_vector_At : Nat := 103

noncomputable def s_slices_partitionOrdered_intE2 (cf : CallK) (fuel : Nat) (K : AV → Hp → Prop) (t0 : AV) (t1 : AV) : AV → Hp → Prop := fun t11 h =>
vIaddr 1 t0 t1 h fun t159 h =>
vLoad2 t159 h fun t160 h =>
vIaddr 1 t0 t11 h fun t163 h =>
vLoad2 t163 h fun t164 h =>
vIaddr 1 t0 t11 h fun t165 h =>
vStore 1 t165 t160 h fun _ h =>
vIaddr 1 t0 t1 h fun t166 h =>
vStore 1 t166 t164 h fun _ h =>
K (.tup [t11, (.bool .false)]) h
noncomputable def s_slices_partitionOrdered_intE4 (cf : CallK) (fuel : Nat) (ih3 : AV → AV → Hp → Prop) (t0 : AV) (t1 : AV) : AV → AV → Hp → Prop := fun t10 t11 h =>
ih3 t10 t11 h
noncomputable def s_slices_partitionOrdered_intE6 (cf : CallK) (fuel : Nat) (e2 : AV → Hp → Prop) (e4 : AV → AV → Hp → Prop) (t0 : AV) (t1 : AV) (t10 : AV) : AV → Hp → Prop := fun t11 h =>
vGtr t10 t11 h fun t134 h =>
vIf t134 (
e2 t11 h) (
vIaddr 1 t0 t11 h fun t141 h =>
vLoad2 t141 h fun t142 h =>
vIaddr 1 t0 t10 h fun t145 h =>
vLoad2 t145 h fun t146 h =>
vIaddr 1 t0 t10 h fun t147 h =>
vStore 1 t147 t142 h fun _ h =>
vIaddr 1 t0 t11 h fun t148 h =>
vStore 1 t148 t146 h fun _ h =>
vAdd t10 (.int .i64 1) h fun t150 h =>
vArith Go.Am.subI t11 (.int .i64 1) h fun t152 h =>
e4 t150 t152 h)
noncomputable def s_slices_partitionOrdered_intL7B (cf : CallK) (fuel : Nat) (e6 : AV → Hp → Prop) (t0 : AV) (t1 : AV) (t10 : AV) (ih7 : AV → Hp → Prop) : AV → Hp → Prop := fun t11 h =>
vLeq t10 t11 h fun t117 h =>
joinG (fun g19 => grdV t117 true (vMov t0 h g19) (g19 undefV h)) fun t119 h =>
joinG (fun g18 => grdV t117 true (vMov t11 h g18) (g18 undefV h)) fun t120 h =>
joinG (fun g17 => grdV t117 true (vIaddr 1 t119 t120 h g17) (g17 undefV h)) fun t121 h =>
joinG (fun g16 => grdV t117 true (vLoad2 t121 h g16) (g16 undefV h)) fun t122 h =>
joinG (fun g15 => grdV t117 true (vMov t0 h g15) (g15 undefV h)) fun t123 h =>
joinG (fun g14 => grdV t117 true (vMov t1 h g14) (g14 undefV h)) fun t124 h =>
joinG (fun g13 => grdV t117 true (vIaddr 1 t123 t124 h g13) (g13 undefV h)) fun t125 h =>
joinG (fun g12 => grdV t117 true (vLoad2 t125 h g12) (g12 undefV h)) fun t126 h =>
joinG (fun g11 => grdV t117 true (cf f_cmp_Less_int [t122, t126] h g11) (g11 undefV h)) fun t127 h =>
joinG (fun g10 => grdV t117 true (vNot t127 h g10) (g10 undefV h)) fun t128 h =>
vPick t117 t128 (.bool .false) h fun t129 h =>
vIf t129 (
(fun (e8 : AV → Hp → Prop) =>
vArith Go.Am.subI t11 (.int .i64 1) h fun t131 h =>
e8 t131 h) fun t11_9 h =>
ih7 t11_9 h) (
e6 t11 h)
noncomputable def s_slices_partitionOrdered_intL7 (cf : CallK) (fuel : Nat) (e6 : AV → Hp → Prop) (t0 : AV) (t1 : AV) (t10 : AV) (m : Nat) : AV → Hp → Prop := Nat.rec (motive := fun _ => AV → Hp → Prop) (fun _ _ => False) (fun _ ih => s_slices_partitionOrdered_intL7B cf fuel e6 t0 t1 t10 ih) m
theorem s_slices_partitionOrdered_intL7_succ (cf : CallK) (fuel : Nat) (e6 : AV → Hp → Prop) (t0 : AV) (t1 : AV) (t10 : AV) (m : Nat) : s_slices_partitionOrdered_intL7 cf fuel e6 t0 t1 t10 (m + 1) = s_slices_partitionOrdered_intL7B cf fuel e6 t0 t1 t10 (s_slices_partitionOrdered_intL7 cf fuel e6 t0 t1 t10 m) := rfl
noncomputable def s_slices_partitionOrdered_intE5 (cf : CallK) (fuel : Nat) (e2 : AV → Hp → Prop) (ih3 : AV → AV → Hp → Prop) (t0 : AV) (t1 : AV) (t11 : AV) : AV → Hp → Prop := fun t10 h =>
(fun (e6 : AV → Hp → Prop) =>
s_slices_partitionOrdered_intL7 cf fuel (s_slices_partitionOrdered_intE6 cf fuel e2 (s_slices_partitionOrdered_intE4 cf fuel ih3 t0 t1) t0 t1 t10) t0 t1 t10 fuel t11 h) (s_slices_partitionOrdered_intE6 cf fuel e2 (s_slices_partitionOrdered_intE4 cf fuel ih3 t0 t1) t0 t1 t10)
noncomputable def s_slices_partitionOrdered_intL20B (cf : CallK) (fuel : Nat) (e5 : AV → Hp → Prop) (t0 : AV) (t1 : AV) (t11 : AV) (ih20 : AV → Hp → Prop) : AV → Hp → Prop := fun t10 h =>
vLeq t10 t11 h fun t101 h =>
joinG (fun g31 => grdV t101 true (vMov t0 h g31) (g31 undefV h)) fun t103 h =>
joinG (fun g30 => grdV t101 true (vMov t10 h g30) (g30 undefV h)) fun t104 h =>
joinG (fun g29 => grdV t101 true (vIaddr 1 t103 t104 h g29) (g29 undefV h)) fun t105 h =>
joinG (fun g28 => grdV t101 true (vLoad2 t105 h g28) (g28 undefV h)) fun t106 h =>
joinG (fun g27 => grdV t101 true (vMov t0 h g27) (g27 undefV h)) fun t107 h =>
joinG (fun g26 => grdV t101 true (vMov t1 h g26) (g26 undefV h)) fun t108 h =>
joinG (fun g25 => grdV t101 true (vIaddr 1 t107 t108 h g25) (g25 undefV h)) fun t109 h =>
joinG (fun g24 => grdV t101 true (vLoad2 t109 h g24) (g24 undefV h)) fun t110 h =>
joinG (fun g23 => grdV t101 true (cf f_cmp_Less_int [t106, t110] h g23) (g23 undefV h)) fun t111 h =>
vPick t101 t111 (.bool .false) h fun t112 h =>
vIf t112 (
(fun (e21 : AV → Hp → Prop) =>
vAdd t10 (.int .i64 1) h fun t114 h =>
e21 t114 h) fun t10_22 h =>
ih20 t10_22 h) (
e5 t10 h)
noncomputable def s_slices_partitionOrdered_intL20 (cf : CallK) (fuel : Nat) (e5 : AV → Hp → Prop) (t0 : AV) (t1 : AV) (t11 : AV) (m : Nat) : AV → Hp → Prop := Nat.rec (motive := fun _ => AV → Hp → Prop) (fun _ _ => False) (fun _ ih => s_slices_partitionOrdered_intL20B cf fuel e5 t0 t1 t11 ih) m
theorem s_slices_partitionOrdered_intL20_succ (cf : CallK) (fuel : Nat) (e5 : AV → Hp → Prop) (t0 : AV) (t1 : AV) (t11 : AV) (m : Nat) : s_slices_partitionOrdered_intL20 cf fuel e5 t0 t1 t11 (m + 1) = s_slices_partitionOrdered_intL20B cf fuel e5 t0 t1 t11 (s_slices_partitionOrdered_intL20 cf fuel e5 t0 t1 t11 m) := rfl
noncomputable def s_slices_partitionOrdered_intL3B (cf : CallK) (fuel : Nat) (e2 : AV → Hp → Prop) (t0 : AV) (t1 : AV) (ih3 : AV → AV → Hp → Prop) : AV → AV → Hp → Prop := fun t10 t11 h =>
(fun (e4 : AV → AV → Hp → Prop) =>
(fun (e5 : AV → Hp → Prop) =>
s_slices_partitionOrdered_intL20 cf fuel (s_slices_partitionOrdered_intE5 cf fuel e2 ih3 t0 t1 t11) t0 t1 t11 fuel t10 h) (s_slices_partitionOrdered_intE5 cf fuel e2 ih3 t0 t1 t11)) (s_slices_partitionOrdered_intE4 cf fuel ih3 t0 t1)
noncomputable def s_slices_partitionOrdered_intL3 (cf : CallK) (fuel : Nat) (e2 : AV → Hp → Prop) (t0 : AV) (t1 : AV) (m : Nat) : AV → AV → Hp → Prop := Nat.rec (motive := fun _ => AV → AV → Hp → Prop) (fun _ _ _ => False) (fun _ ih => s_slices_partitionOrdered_intL3B cf fuel e2 t0 t1 ih) m
theorem s_slices_partitionOrdered_intL3_succ (cf : CallK) (fuel : Nat) (e2 : AV → Hp → Prop) (t0 : AV) (t1 : AV) (m : Nat) : s_slices_partitionOrdered_intL3 cf fuel e2 t0 t1 (m + 1) = s_slices_partitionOrdered_intL3B cf fuel e2 t0 t1 (s_slices_partitionOrdered_intL3 cf fuel e2 t0 t1 m) := rfl
noncomputable def s_slices_partitionOrdered_intE1 (cf : CallK) (fuel : Nat) (K : AV → Hp → Prop) (t0 : AV) (t1 : AV) (t10 : AV) : AV → Hp → Prop := fun t11 h =>
vGtr t10 t11 h fun t65 h =>
vIf t65 (
vIaddr 1 t0 t1 h fun t72 h =>
vLoad2 t72 h fun t73 h =>
vIaddr 1 t0 t11 h fun t76 h =>
vLoad2 t76 h fun t77 h =>
vIaddr 1 t0 t11 h fun t78 h =>
vStore 1 t78 t73 h fun _ h =>
vIaddr 1 t0 t1 h fun t79 h =>
vStore 1 t79 t77 h fun _ h =>
K (.tup [t11, (.bool .true)]) h) (
vIaddr 1 t0 t11 h fun t87 h =>
vLoad2 t87 h fun t88 h =>
vIaddr 1 t0 t10 h fun t91 h =>
vLoad2 t91 h fun t92 h =>
vIaddr 1 t0 t10 h fun t93 h =>
vStore 1 t93 t88 h fun _ h =>
vIaddr 1 t0 t11 h fun t94 h =>
vStore 1 t94 t92 h fun _ h =>
vAdd t10 (.int .i64 1) h fun t96 h =>
vArith Go.Am.subI t11 (.int .i64 1) h fun t98 h =>
(fun (e2 : AV → Hp → Prop) =>
s_slices_partitionOrdered_intL3 cf fuel (s_slices_partitionOrdered_intE2 cf fuel K t0 t1) t0 t1 fuel t96 t98 h) (s_slices_partitionOrdered_intE2 cf fuel K t0 t1))
noncomputable def s_slices_partitionOrdered_intL32B (cf : CallK) (fuel : Nat) (e1 : AV → Hp → Prop) (t0 : AV) (t1 : AV) (t10 : AV) (ih32 : AV → Hp → Prop) : AV → Hp → Prop := fun t11 h =>
vLeq t10 t11 h fun t48 h =>
joinG (fun g44 => grdV t48 true (vMov t0 h g44) (g44 undefV h)) fun t50 h =>
joinG (fun g43 => grdV t48 true (vMov t11 h g43) (g43 undefV h)) fun t51 h =>
joinG (fun g42 => grdV t48 true (vIaddr 1 t50 t51 h g42) (g42 undefV h)) fun t52 h =>
joinG (fun g41 => grdV t48 true (vLoad2 t52 h g41) (g41 undefV h)) fun t53 h =>
joinG (fun g40 => grdV t48 true (vMov t0 h g40) (g40 undefV h)) fun t54 h =>
joinG (fun g39 => grdV t48 true (vMov t1 h g39) (g39 undefV h)) fun t55 h =>
joinG (fun g38 => grdV t48 true (vIaddr 1 t54 t55 h g38) (g38 undefV h)) fun t56 h =>
joinG (fun g37 => grdV t48 true (vLoad2 t56 h g37) (g37 undefV h)) fun t57 h =>
joinG (fun g36 => grdV t48 true (cf f_cmp_Less_int [t53, t57] h g36) (g36 undefV h)) fun t58 h =>
joinG (fun g35 => grdV t48 true (vNot t58 h g35) (g35 undefV h)) fun t59 h =>
vPick t48 t59 (.bool .false) h fun t60 h =>
vIf t60 (
(fun (e33 : AV → Hp → Prop) =>
vArith Go.Am.subI t11 (.int .i64 1) h fun t62 h =>
e33 t62 h) fun t11_34 h =>
ih32 t11_34 h) (
e1 t11 h)
noncomputable def s_slices_partitionOrdered_intL32 (cf : CallK) (fuel : Nat) (e1 : AV → Hp → Prop) (t0 : AV) (t1 : AV) (t10 : AV) (m : Nat) : AV → Hp → Prop := Nat.rec (motive := fun _ => AV → Hp → Prop) (fun _ _ => False) (fun _ ih => s_slices_partitionOrdered_intL32B cf fuel e1 t0 t1 t10 ih) m
theorem s_slices_partitionOrdered_intL32_succ (cf : CallK) (fuel : Nat) (e1 : AV → Hp → Prop) (t0 : AV) (t1 : AV) (t10 : AV) (m : Nat) : s_slices_partitionOrdered_intL32 cf fuel e1 t0 t1 t10 (m + 1) = s_slices_partitionOrdered_intL32B cf fuel e1 t0 t1 t10 (s_slices_partitionOrdered_intL32 cf fuel e1 t0 t1 t10 m) := rfl
noncomputable def s_slices_partitionOrdered_intE0 (cf : CallK) (fuel : Nat) (K : AV → Hp → Prop) (t0 : AV) (t1 : AV) (t11 : AV) : AV → Hp → Prop := fun t10 h =>
(fun (e1 : AV → Hp → Prop) =>
s_slices_partitionOrdered_intL32 cf fuel (s_slices_partitionOrdered_intE1 cf fuel K t0 t1 t10) t0 t1 t10 fuel t11 h) (s_slices_partitionOrdered_intE1 cf fuel K t0 t1 t10)
noncomputable def s_slices_partitionOrdered_intL45B (cf : CallK) (fuel : Nat) (e0 : AV → Hp → Prop) (t0 : AV) (t1 : AV) (t11 : AV) (ih45 : AV → Hp → Prop) : AV → Hp → Prop := fun t10 h =>
vLeq t10 t11 h fun t32 h =>
joinG (fun g56 => grdV t32 true (vMov t0 h g56) (g56 undefV h)) fun t34 h =>
joinG (fun g55 => grdV t32 true (vMov t10 h g55) (g55 undefV h)) fun t35 h =>
joinG (fun g54 => grdV t32 true (vIaddr 1 t34 t35 h g54) (g54 undefV h)) fun t36 h =>
joinG (fun g53 => grdV t32 true (vLoad2 t36 h g53) (g53 undefV h)) fun t37 h =>
joinG (fun g52 => grdV t32 true (vMov t0 h g52) (g52 undefV h)) fun t38 h =>
joinG (fun g51 => grdV t32 true (vMov t1 h g51) (g51 undefV h)) fun t39 h =>
joinG (fun g50 => grdV t32 true (vIaddr 1 t38 t39 h g50) (g50 undefV h)) fun t40 h =>
joinG (fun g49 => grdV t32 true (vLoad2 t40 h g49) (g49 undefV h)) fun t41 h =>
joinG (fun g48 => grdV t32 true (cf f_cmp_Less_int [t37, t41] h g48) (g48 undefV h)) fun t42 h =>
vPick t32 t42 (.bool .false) h fun t43 h =>
vIf t43 (
(fun (e46 : AV → Hp → Prop) =>
vAdd t10 (.int .i64 1) h fun t45 h =>
e46 t45 h) fun t10_47 h =>
ih45 t10_47 h) (
e0 t10 h)
noncomputable def s_slices_partitionOrdered_intL45 (cf : CallK) (fuel : Nat) (e0 : AV → Hp → Prop) (t0 : AV) (t1 : AV) (t11 : AV) (m : Nat) : AV → Hp → Prop := Nat.rec (motive := fun _ => AV → Hp → Prop) (fun _ _ => False) (fun _ ih => s_slices_partitionOrdered_intL45B cf fuel e0 t0 t1 t11 ih) m
theorem s_slices_partitionOrdered_intL45_succ (cf : CallK) (fuel : Nat) (e0 : AV → Hp → Prop) (t0 : AV) (t1 : AV) (t11 : AV) (m : Nat) : s_slices_partitionOrdered_intL45 cf fuel e0 t0 t1 t11 (m + 1) = s_slices_partitionOrdered_intL45B cf fuel e0 t0 t1 t11 (s_slices_partitionOrdered_intL45 cf fuel e0 t0 t1 t11 m) := rfl
noncomputable def s_slices_partitionOrdered_int (cf : CallK) (fuel : Nat) (t0 : AV) (t1 : AV) (t2 : AV) (t3 : AV) (h : Hp) (K : AV → Hp → Prop) : Prop :=
vIaddr 1 t0 t3 h fun t18 h =>
vLoad2 t18 h fun t19 h =>
vIaddr 1 t0 t1 h fun t22 h =>
vLoad2 t22 h fun t23 h =>
vIaddr 1 t0 t1 h fun t24 h =>
vStore 1 t24 t19 h fun _ h =>
vIaddr 1 t0 t3 h fun t25 h =>
vStore 1 t25 t23 h fun _ h =>
vAdd t1 (.int .i64 1) h fun t27 h =>
vArith Go.Am.subI t2 (.int .i64 1) h fun t29 h =>
(fun (e0 : AV → Hp → Prop) =>
s_slices_partitionOrdered_intL45 cf fuel (s_slices_partitionOrdered_intE0 cf fuel K t0 t1 t29) t0 t1 t29 fuel t27 h) (s_slices_partitionOrdered_intE0 cf fuel K t0 t1 t29)
theorem s_slices_partitionOrdered_int_eq (cf : CallK) (fuel : Nat) (t0 : AV) (t1 : AV) (t2 : AV) (t3 : AV) (h : Hp) (K : AV → Hp → Prop) : s_slices_partitionOrdered_int cf fuel t0 t1 t2 t3 h K = deepT (tabOf Try.prog) f_slices_partitionOrdered_int cf fuel [t0, t1, t2, t3] h K :=
  Eq.trans (by kernel_rfl) (rFun (by kernel_rfl) (rSeq (by kernel_rfl) (rSeq (by kernel_rfl) (rSeq (by kernel_rfl) (rSeq (by kernel_rfl) (rSeq (by kernel_rfl) (rSeq (by kernel_rfl) (rSeq (by kernel_rfl) (rSeq (by kernel_rfl) (rSeq (by kernel_rfl) (rSeq (by kernel_rfl) rExact (rBlock (by kernel_rfl) (rLoop (by kernel_rfl) (fun m3 fr h => s_slices_partitionOrdered_intL3 cf fuel (s_slices_partitionOrdered_intE2 cf fuel K (getS fr (gpos 0)) (getS fr (gpos 1))) (getS fr (gpos 0)) (getS fr (gpos 1)) m3 (getS fr (gpos 10)) (getS fr (gpos 11)) h) (funext fun fr => funext fun h => by kernel_rfl) fun m3 => rCast (funext fun fr => funext fun h => by kernel_rfl) (rBlock (by kernel_rfl) (rSeq (by kernel_rfl) (rSeq (by kernel_rfl) rExact (rBlock (by kernel_rfl) (rLoop (by kernel_rfl) (fun m7 fr h => s_slices_partitionOrdered_intL7 cf fuel (s_slices_partitionOrdered_intE6 cf fuel (s_slices_partitionOrdered_intE2 cf fuel K (getS fr (gpos 0)) (getS fr (gpos 1))) (s_slices_partitionOrdered_intE4 cf fuel (s_slices_partitionOrdered_intL3 cf fuel (s_slices_partitionOrdered_intE2 cf fuel K (getS fr (gpos 0)) (getS fr (gpos 1))) (getS fr (gpos 0)) (getS fr (gpos 1)) m3) (getS fr (gpos 0)) (getS fr (gpos 1))) (getS fr (gpos 0)) (getS fr (gpos 1)) (getS fr (gpos 10))) (getS fr (gpos 0)) (getS fr (gpos 1)) (getS fr (gpos 10)) m7 (getS fr (gpos 11)) h) (funext fun fr => funext fun h => by kernel_rfl) fun m7 => rCast (funext fun fr => funext fun h => by kernel_rfl) rExact))) (rBlock (by kernel_rfl) (rLoop (by kernel_rfl) (fun m20 fr h => s_slices_partitionOrdered_intL20 cf fuel (s_slices_partitionOrdered_intE5 cf fuel (s_slices_partitionOrdered_intE2 cf fuel K (getS fr (gpos 0)) (getS fr (gpos 1))) (s_slices_partitionOrdered_intL3 cf fuel (s_slices_partitionOrdered_intE2 cf fuel K (getS fr (gpos 0)) (getS fr (gpos 1))) (getS fr (gpos 0)) (getS fr (gpos 1)) m3) (getS fr (gpos 0)) (getS fr (gpos 1)) (getS fr (gpos 11))) (getS fr (gpos 0)) (getS fr (gpos 1)) (getS fr (gpos 11)) m20 (getS fr (gpos 10)) h) (funext fun fr => funext fun h => by kernel_rfl) fun m20 => rCast (funext fun fr => funext fun h => by kernel_rfl) rExact))))))) rExact) rExact) rExact) rExact) (rBlock (by kernel_rfl) (rLoop (by kernel_rfl) (fun m32 fr h => s_slices_partitionOrdered_intL32 cf fuel (s_slices_partitionOrdered_intE1 cf fuel K (getS fr (gpos 0)) (getS fr (gpos 1)) (getS fr (gpos 10))) (getS fr (gpos 0)) (getS fr (gpos 1)) (getS fr (gpos 10)) m32 (getS fr (gpos 11)) h) (funext fun fr => funext fun h => by kernel_rfl) fun m32 => rCast (funext fun fr => funext fun h => by kernel_rfl) rExact))) (rBlock (by kernel_rfl) (rLoop (by kernel_rfl) (fun m45 fr h => s_slices_partitionOrdered_intL45 cf fuel (s_slices_partitionOrdered_intE0 cf fuel K (getS fr (gpos 0)) (getS fr (gpos 1)) (getS fr (gpos 11))) (getS fr (gpos 0)) (getS fr (gpos 1)) (getS fr (gpos 11)) m45 (getS fr (gpos 10)) h) (funext fun fr => funext fun h => by kernel_rfl) fun m45 => rCast (funext fun fr => funext fun h => by kernel_rfl) rExact))) rExact) rExact) rExact))

noncomputable def s_math_bits_Len32 (cf : CallK) (fuel : Nat) (t0 : AV) (h : Hp) (K : AV → Hp → Prop) : Prop :=
(fun (j0 : AV → AV → Hp → Prop) =>
vGeq t0 (.int .u32 65536) h fun t4 h =>
vIf t4 (
vShr t0 (.int .u64 16) h fun t6 h =>
j0 t6 (.int .i64 16) h) (
j0 t0 (.int .i64 0) h)) fun t0 t2 h =>
(fun (j1 : AV → AV → Hp → Prop) =>
vGeq t0 (.int .u32 256) h fun t8 h =>
vIf t8 (
vShr t0 (.int .u64 8) h fun t10 h =>
vAdd t2 (.int .i64 8) h fun t12 h =>
j1 t10 t12 h) (
j1 t0 t2 h)) fun t0 t2 h =>
vToInt .u8 t0 h fun t15 h =>
vIdxS (.str 256 1013866857139168856493015739252390649739422828853819106890363778118420553376247557433637691341895324351018602695588957474325319502760499485336098898398377509666851054660423406800006203933793007272033180812049178612605246075062580585469430410618860250057463399279570354286669047577758927328864388992123306212451509403152394148136105363817402562688186708175358218852349079190158732807302672745370040257219644697201681238697346923541678507645485296520536209706771857694240900605172937619415410180424934769249448772944216470541052485265558808433676546390051204254346932932316488017972311616136051587427851453983453479168) t15 h fun t16 h =>
vToInt .i64 t16 h fun t17 h =>
vAdd t2 t17 h fun t18 h =>
K t18 h
theorem s_math_bits_Len32_eq (cf : CallK) (fuel : Nat) (t0 : AV) (h : Hp) (K : AV → Hp → Prop) : s_math_bits_Len32 cf fuel t0 h K = deepT (tabOf Try.prog) f_math_bits_Len32 cf fuel [t0] h K :=
  Eq.trans (by kernel_rfl) (rFun (by kernel_rfl) rExact)

noncomputable def s_math_bits_Len64 (cf : CallK) (fuel : Nat) (t0 : AV) (h : Hp) (K : AV → Hp → Prop) : Prop :=
(fun (j0 : AV → AV → Hp → Prop) =>
vGeq t0 (.int .u64 4294967296) h fun t4 h =>
vIf t4 (
vShr t0 (.int .u64 32) h fun t6 h =>
j0 t6 (.int .i64 32) h) (
j0 t0 (.int .i64 0) h)) fun t0 t2 h =>
(fun (j1 : AV → AV → Hp → Prop) =>
vGeq t0 (.int .u64 65536) h fun t8 h =>
vIf t8 (
vShr t0 (.int .u64 16) h fun t10 h =>
vAdd t2 (.int .i64 16) h fun t12 h =>
j1 t10 t12 h) (
j1 t0 t2 h)) fun t0 t2 h =>
(fun (j2 : AV → AV → Hp → Prop) =>
vGeq t0 (.int .u64 256) h fun t14 h =>
vIf t14 (
vShr t0 (.int .u64 8) h fun t16 h =>
vAdd t2 (.int .i64 8) h fun t18 h =>
j2 t16 t18 h) (
j2 t0 t2 h)) fun t0 t2 h =>
vToInt .u8 t0 h fun t21 h =>
vIdxS (.str 256 1013866857139168856493015739252390649739422828853819106890363778118420553376247557433637691341895324351018602695588957474325319502760499485336098898398377509666851054660423406800006203933793007272033180812049178612605246075062580585469430410618860250057463399279570354286669047577758927328864388992123306212451509403152394148136105363817402562688186708175358218852349079190158732807302672745370040257219644697201681238697346923541678507645485296520536209706771857694240900605172937619415410180424934769249448772944216470541052485265558808433676546390051204254346932932316488017972311616136051587427851453983453479168) t21 h fun t22 h =>
vToInt .i64 t22 h fun t23 h =>
vAdd t2 t23 h fun t24 h =>
K t24 h
theorem s_math_bits_Len64_eq (cf : CallK) (fuel : Nat) (t0 : AV) (h : Hp) (K : AV → Hp → Prop) : s_math_bits_Len64 cf fuel t0 h K = deepT (tabOf Try.prog) f_math_bits_Len64 cf fuel [t0] h K :=
  Eq.trans (by kernel_rfl) (rFun (by kernel_rfl) rExact)

noncomputable def s_clock_node (cf : CallK) (fuel : Nat) (t0 : AV) (h : Hp) (K : AV → Hp → Prop) : Prop :=
vGeq t0 (.int .i64 0) h fun t4 h =>
joinG (fun g1 => grdV t4 true (vMov t0 h g1) (g1 undefV h)) fun t6 h =>
joinG (fun g0 => grdV t4 true (vLss t6 (.int .i64 64) h g0) (g0 undefV h)) fun t7 h =>
vPick t4 t7 (.bool .false) h fun t8 h =>
K t8 h
theorem s_clock_node_eq (cf : CallK) (fuel : Nat) (t0 : AV) (h : Hp) (K : AV → Hp → Prop) : s_clock_node cf fuel t0 h K = deepT (tabOf Try.prog) f_clock_node cf fuel [t0] h K :=
  Eq.trans (by kernel_rfl) (rFun (by kernel_rfl) rExact)

noncomputable def s_vector_At (cf : CallK) (fuel : Nat) (t0 : AV) (t1 : AV) (h : Hp) (K : AV → Hp → Prop) : Prop :=
vLss t1 (.int .i64 0) h fun t6 h =>
joinG (fun g14 => grdV t6 false (vMov t1 h g14) (g14 undefV h)) fun t8 h =>
joinG (fun g13 => grdV t6 false (vMov t0 h g13) (g13 undefV h)) fun t9 h =>
joinG (fun g12 => grdV t6 false (vLenL2 t9 h g12) (g12 undefV h)) fun t10 h =>
joinG (fun g11 => grdV t6 false (vMin false t10 (.int .i64 64) h g11) (g11 undefV h)) fun t11 h =>
joinG (fun g10 => grdV t6 false (vGeq t8 t11 h g10) (g10 undefV h)) fun t12 h =>
vPick t6 (.bool .true) t12 h fun t13 h =>
joinG (fun g9 => grdV t13 false (vMov t0 h g9) (g9 undefV h)) fun t15 h =>
joinG (fun g8 => grdV t13 false (vMov t1 h g8) (g8 undefV h)) fun t16 h =>
joinG (fun g7 => grdV t13 false (vIaddr 1 t15 t16 h g7) (g7 undefV h)) fun t17 h =>
joinG (fun g6 => grdV t13 false (vLoad2 t17 h g6) (g6 undefV h)) fun t18 h =>
joinG (fun g5 => grdV t13 false (vLss t18 (.int .i64 0) h g5) (g5 undefV h)) fun t19 h =>
vPick t13 (.bool .true) t19 h fun t20 h =>
joinG (fun g4 => grdV t20 false (vMov t0 h g4) (g4 undefV h)) fun t22 h =>
joinG (fun g3 => grdV t20 false (vMov t1 h g3) (g3 undefV h)) fun t23 h =>
joinG (fun g2 => grdV t20 false (vIaddr 1 t22 t23 h g2) (g2 undefV h)) fun t24 h =>
joinG (fun g1 => grdV t20 false (vLoad2 t24 h g1) (g1 undefV h)) fun t25 h =>
joinG (fun g0 => grdV t20 false (vGtr t25 (.int .i64 1152921504606846976) h g0) (g0 undefV h)) fun t26 h =>
vPick t20 (.bool .true) t26 h fun t27 h =>
vIf t27 (
K (.int .i64 0) h) (
vIaddr 1 t0 t1 h fun t30 h =>
vLoad2 t30 h fun t31 h =>
K t31 h)
theorem s_vector_At_eq (cf : CallK) (fuel : Nat) (t0 : AV) (t1 : AV) (h : Hp) (K : AV → Hp → Prop) : s_vector_At cf fuel t0 t1 h K = deepT (tabOf Try.prog) f_vector_At cf fuel [t0, t1] h K :=
  Eq.trans (by kernel_rfl) (rFun (by kernel_rfl) rExact)

noncomputable def s_strings_ContainsAny (cf : CallK) (fuel : Nat) (t0 : AV) (t1 : AV) (h : Hp) (K : AV → Hp → Prop) : Prop :=
cf f_strings_IndexAny [t0, t1] h fun t7 h =>
vGeq t7 (.int .i64 0) h fun t8 h =>
K t8 h
theorem s_strings_ContainsAny_eq (cf : CallK) (fuel : Nat) (t0 : AV) (t1 : AV) (h : Hp) (K : AV → Hp → Prop) : s_strings_ContainsAny cf fuel t0 t1 h K = deepT (tabOf Try.prog) f_strings_ContainsAny cf fuel [t0, t1] h K :=
  Eq.trans (by kernel_rfl) (rFun (by kernel_rfl) rExact)

noncomputable def s_clock_Less (cf : CallK) (fuel : Nat) (t0 : AV) (t1 : AV) (h : Hp) (K : AV → Hp → Prop) : Prop :=
vBox 2 t0 h fun t2 h =>
vBox 2 t1 h fun t3 h =>
vLoadA 2 t2 h fun t5 h =>
vLoadA 2 t3 h fun t6 h =>
cf f_clock_Cmp [t5, t6] h fun t7 h =>
vLss t7 (.int .i64 0) h fun t8 h =>
K t8 h
theorem s_clock_Less_eq (cf : CallK) (fuel : Nat) (t0 : AV) (t1 : AV) (h : Hp) (K : AV → Hp → Prop) : s_clock_Less cf fuel t0 t1 h K = deepT (tabOf Try.prog) f_clock_Less cf fuel [t0, t1] h K :=
  Eq.trans (by kernel_rfl) (rFun (by kernel_rfl) rExact)

noncomputable def s_cmp_isNaN_int64 (cf : CallK) (fuel : Nat) (t0 : AV) (h : Hp) (K : AV → Hp → Prop) : Prop :=
vNeq t0 t0 h fun t5 h =>
K t5 h
theorem s_cmp_isNaN_int64_eq (cf : CallK) (fuel : Nat) (t0 : AV) (h : Hp) (K : AV → Hp → Prop) : s_cmp_isNaN_int64 cf fuel t0 h K = deepT (tabOf Try.prog) f_cmp_isNaN_int64 cf fuel [t0] h K :=
  Eq.trans (by kernel_rfl) (rFun (by kernel_rfl) rExact)

noncomputable def s_cmp_isNaN_int (cf : CallK) (fuel : Nat) (t0 : AV) (h : Hp) (K : AV → Hp → Prop) : Prop :=
vNeq t0 t0 h fun t5 h =>
K t5 h
theorem s_cmp_isNaN_int_eq (cf : CallK) (fuel : Nat) (t0 : AV) (h : Hp) (K : AV → Hp → Prop) : s_cmp_isNaN_int cf fuel t0 h K = deepT (tabOf Try.prog) f_cmp_isNaN_int cf fuel [t0] h K :=
  Eq.trans (by kernel_rfl) (rFun (by kernel_rfl) rExact)

noncomputable def s_slices_rotateLeft_movetree_done (cf : CallK) (fuel : Nat) (t0 : AV) (t1 : AV) (h : Hp) (K : AV → Hp → Prop) : Prop :=
vSlice2 17 t0 none (some t1) h fun t6 h =>
cf f_slices_Reverse_movetree_done_movetree_done [t6] h fun t7 h =>
vSlice2 17 t0 (some t1) none h fun t10 h =>
cf f_slices_Reverse_movetree_done_movetree_done [t10] h fun t11 h =>
cf f_slices_Reverse_movetree_done_movetree_done [t0] h fun t13 h =>
K (.tup []) h
theorem s_slices_rotateLeft_movetree_done_eq (cf : CallK) (fuel : Nat) (t0 : AV) (t1 : AV) (h : Hp) (K : AV → Hp → Prop) : s_slices_rotateLeft_movetree_done cf fuel t0 t1 h K = deepT (tabOf Try.prog) f_slices_rotateLeft_movetree_done cf fuel [t0, t1] h K :=
  Eq.trans (by kernel_rfl) (rFun (by kernel_rfl) rExact)

noncomputable def s_slices_insertionSortCmpFunc_api_IDE0 (cf : CallK) (fuel : Nat) (K : AV → Hp → Prop) : Hp → Prop := fun h =>
K (.tup []) h
noncomputable def s_slices_insertionSortCmpFunc_api_IDE2 (cf : CallK) (fuel : Nat) (ih1 : AV → Hp → Prop) (t0 : AV) (t1 : AV) (t2 : AV) (t3 : AV) (t8 : AV) : Hp → Prop := fun h =>
vAdd t8 (.int .i64 1) h fun t16 h =>
ih1 t16 h
noncomputable def s_slices_insertionSortCmpFunc_api_IDE3 (cf : CallK) (fuel : Nat) (e2 : Hp → Prop) (t0 : AV) (t1 : AV) (t2 : AV) (t3 : AV) (t8 : AV) : Hp → Prop := fun h =>
e2 h
noncomputable def s_slices_insertionSortCmpFunc_api_IDL4B (cf : CallK) (fuel : Nat) (e3 : Hp → Prop) (t0 : AV) (t1 : AV) (t2 : AV) (t3 : AV) (t8 : AV) (ih4 : AV → Hp → Prop) : AV → Hp → Prop := fun t9 h =>
vGtr t9 t1 h fun t20 h =>
joinG (fun g17 => grdV t20 true (vMov t3 h g17) (g17 undefV h)) fun t22 h =>
joinG (fun g16 => grdV t20 true (vMov t0 h g16) (g16 undefV h)) fun t23 h =>
joinG (fun g15 => grdV t20 true (vMov t9 h g15) (g15 undefV h)) fun t24 h =>
joinG (fun g14 => grdV t20 true (vIaddr 2 t23 t24 h g14) (g14 undefV h)) fun t25 h =>
joinG (fun g13 => grdV t20 true (vLoadA 2 t25 h g13) (g13 undefV h)) fun t26 h =>
joinG (fun g12 => grdV t20 true (vMov t0 h g12) (g12 undefV h)) fun t27 h =>
joinG (fun g11 => grdV t20 true (vMov t9 h g11) (g11 undefV h)) fun t28 h =>
joinG (fun g10 => grdV t20 true (vArith Go.Am.subI t28 (.int .i64 1) h g10) (g10 undefV h)) fun t29 h =>
joinG (fun g9 => grdV t20 true (vIaddr 2 t27 t29 h g9) (g9 undefV h)) fun t30 h =>
joinG (fun g8 => grdV t20 true (vLoadA 2 t30 h g8) (g8 undefV h)) fun t31 h =>
joinG (fun g7 => grdV t20 true (vCallV t22 [t26, t31] cf h g7) (g7 undefV h)) fun t32 h =>
joinG (fun g6 => grdV t20 true (vLss t32 (.int .i64 0) h g6) (g6 undefV h)) fun t33 h =>
vPick t20 t33 (.bool .false) h fun t34 h =>
vIf t34 (
(fun (e5 : Hp → Prop) =>
vArith Go.Am.subI t9 (.int .i64 1) h fun t41 h =>
vArith Go.Am.subI t9 (.int .i64 1) h fun t44 h =>
vIaddr 2 t0 t44 h fun t45 h =>
vLoadA 2 t45 h fun t46 h =>
vIaddr 2 t0 t9 h fun t49 h =>
vLoadA 2 t49 h fun t50 h =>
vIaddr 2 t0 t9 h fun t51 h =>
vStore 2 t51 t46 h fun _ h =>
vIaddr 2 t0 t41 h fun t52 h =>
vStore 2 t52 t50 h fun _ h =>
e5 h) fun h =>
vArith Go.Am.subI t9 (.int .i64 1) h fun t36 h =>
ih4 t36 h) (
e3 h)
noncomputable def s_slices_insertionSortCmpFunc_api_IDL4 (cf : CallK) (fuel : Nat) (e3 : Hp → Prop) (t0 : AV) (t1 : AV) (t2 : AV) (t3 : AV) (t8 : AV) (m : Nat) : AV → Hp → Prop := Nat.rec (motive := fun _ => AV → Hp → Prop) (fun _ _ => False) (fun _ ih => s_slices_insertionSortCmpFunc_api_IDL4B cf fuel e3 t0 t1 t2 t3 t8 ih) m
theorem s_slices_insertionSortCmpFunc_api_IDL4_succ (cf : CallK) (fuel : Nat) (e3 : Hp → Prop) (t0 : AV) (t1 : AV) (t2 : AV) (t3 : AV) (t8 : AV) (m : Nat) : s_slices_insertionSortCmpFunc_api_IDL4 cf fuel e3 t0 t1 t2 t3 t8 (m + 1) = s_slices_insertionSortCmpFunc_api_IDL4B cf fuel e3 t0 t1 t2 t3 t8 (s_slices_insertionSortCmpFunc_api_IDL4 cf fuel e3 t0 t1 t2 t3 t8 m) := rfl
noncomputable def s_slices_insertionSortCmpFunc_api_IDL1B (cf : CallK) (fuel : Nat) (e0 : Hp → Prop) (t0 : AV) (t1 : AV) (t2 : AV) (t3 : AV) (ih1 : AV → Hp → Prop) : AV → Hp → Prop := fun t8 h =>
vLss t8 t2 h fun t14 h =>
vIf t14 (
(fun (e2 : Hp → Prop) =>
(fun (e3 : Hp → Prop) =>
s_slices_insertionSortCmpFunc_api_IDL4 cf fuel (s_slices_insertionSortCmpFunc_api_IDE3 cf fuel (s_slices_insertionSortCmpFunc_api_IDE2 cf fuel ih1 t0 t1 t2 t3 t8) t0 t1 t2 t3 t8) t0 t1 t2 t3 t8 fuel t8 h) (s_slices_insertionSortCmpFunc_api_IDE3 cf fuel (s_slices_insertionSortCmpFunc_api_IDE2 cf fuel ih1 t0 t1 t2 t3 t8) t0 t1 t2 t3 t8)) (s_slices_insertionSortCmpFunc_api_IDE2 cf fuel ih1 t0 t1 t2 t3 t8)) (
e0 h)
noncomputable def s_slices_insertionSortCmpFunc_api_IDL1 (cf : CallK) (fuel : Nat) (e0 : Hp → Prop) (t0 : AV) (t1 : AV) (t2 : AV) (t3 : AV) (m : Nat) : AV → Hp → Prop := Nat.rec (motive := fun _ => AV → Hp → Prop) (fun _ _ => False) (fun _ ih => s_slices_insertionSortCmpFunc_api_IDL1B cf fuel e0 t0 t1 t2 t3 ih) m
theorem s_slices_insertionSortCmpFunc_api_IDL1_succ (cf : CallK) (fuel : Nat) (e0 : Hp → Prop) (t0 : AV) (t1 : AV) (t2 : AV) (t3 : AV) (m : Nat) : s_slices_insertionSortCmpFunc_api_IDL1 cf fuel e0 t0 t1 t2 t3 (m + 1) = s_slices_insertionSortCmpFunc_api_IDL1B cf fuel e0 t0 t1 t2 t3 (s_slices_insertionSortCmpFunc_api_IDL1 cf fuel e0 t0 t1 t2 t3 m) := rfl
noncomputable def s_slices_insertionSortCmpFunc_api_ID (cf : CallK) (fuel : Nat) (t0 : AV) (t1 : AV) (t2 : AV) (t3 : AV) (h : Hp) (K : AV → Hp → Prop) : Prop :=
vAdd t1 (.int .i64 1) h fun t11 h =>
(fun (e0 : Hp → Prop) =>
s_slices_insertionSortCmpFunc_api_IDL1 cf fuel (s_slices_insertionSortCmpFunc_api_IDE0 cf fuel K) t0 t1 t2 t3 fuel t11 h) (s_slices_insertionSortCmpFunc_api_IDE0 cf fuel K)
theorem s_slices_insertionSortCmpFunc_api_ID_eq (cf : CallK) (fuel : Nat) (t0 : AV) (t1 : AV) (t2 : AV) (t3 : AV) (h : Hp) (K : AV → Hp → Prop) : s_slices_insertionSortCmpFunc_api_ID cf fuel t0 t1 t2 t3 h K = deepT (tabOf Try.prog) f_slices_insertionSortCmpFunc_api_ID cf fuel [t0, t1, t2, t3] h K :=
  Eq.trans (by kernel_rfl) (rFun (by kernel_rfl) (rSeq (by kernel_rfl) (rBlock (by kernel_rfl) (rLoop (by kernel_rfl) (fun m1 fr h => s_slices_insertionSortCmpFunc_api_IDL1 cf fuel (s_slices_insertionSortCmpFunc_api_IDE0 cf fuel K) (getS fr (gpos 0)) (getS fr (gpos 1)) (getS fr (gpos 2)) (getS fr (gpos 3)) m1 (getS fr (gpos 8)) h) (funext fun fr => funext fun h => by kernel_rfl) fun m1 => rCast (funext fun fr => funext fun h => by kernel_rfl) (rSeq (by kernel_rfl) (rSeq (by kernel_rfl) rExact (rBlock (by kernel_rfl) (rSeq (by kernel_rfl) (rBlock (by kernel_rfl) (rLoop (by kernel_rfl) (fun m4 fr h => s_slices_insertionSortCmpFunc_api_IDL4 cf fuel (s_slices_insertionSortCmpFunc_api_IDE3 cf fuel (s_slices_insertionSortCmpFunc_api_IDE2 cf fuel (s_slices_insertionSortCmpFunc_api_IDL1 cf fuel (s_slices_insertionSortCmpFunc_api_IDE0 cf fuel K) (getS fr (gpos 0)) (getS fr (gpos 1)) (getS fr (gpos 2)) (getS fr (gpos 3)) m1) (getS fr (gpos 0)) (getS fr (gpos 1)) (getS fr (gpos 2)) (getS fr (gpos 3)) (getS fr (gpos 8))) (getS fr (gpos 0)) (getS fr (gpos 1)) (getS fr (gpos 2)) (getS fr (gpos 3)) (getS fr (gpos 8))) (getS fr (gpos 0)) (getS fr (gpos 1)) (getS fr (gpos 2)) (getS fr (gpos 3)) (getS fr (gpos 8)) m4 (getS fr (gpos 9)) h) (funext fun fr => funext fun h => by kernel_rfl) fun m4 => rCast (funext fun fr => funext fun h => by kernel_rfl) rExact)) rExact))) rExact))) rExact))

noncomputable def s_slices_heapSortCmpFunc_api_IDE1 (cf : CallK) (fuel : Nat) (K : AV → Hp → Prop) : Hp → Prop := fun h =>
K (.tup []) h
noncomputable def s_slices_heapSortCmpFunc_api_IDB4 (cf : CallK) (fuel : Nat) (ih2 : AV → Hp → Prop) (t12 : AV) (t0 : AV) (t3 : AV) (t8 : AV) (t9 : AV) (h : Hp) : Prop :=
(fun (e3 : Hp → Prop) =>
vAdd t8 t12 h fun t41 h =>
vAdd t8 t12 h fun t45 h =>
vIaddr 2 t0 t45 h fun t46 h =>
vLoadA 2 t46 h fun t47 h =>
vIaddr 2 t0 t8 h fun t50 h =>
vLoadA 2 t50 h fun t51 h =>
vIaddr 2 t0 t8 h fun t52 h =>
vStore 2 t52 t47 h fun _ h =>
vIaddr 2 t0 t41 h fun t53 h =>
vStore 2 t53 t51 h fun _ h =>
cf f_slices_siftDownCmpFunc_api_ID [t0, t9, t12, t8, t3] h fun t59 h =>
e3 h) fun h =>
vArith Go.Am.subI t12 (.int .i64 1) h fun t35 h =>
ih2 t35 h
noncomputable def s_slices_heapSortCmpFunc_api_IDL2B (cf : CallK) (fuel : Nat) (e1 : Hp → Prop) (t0 : AV) (t3 : AV) (t8 : AV) (t9 : AV) (ih2 : AV → Hp → Prop) : AV → Hp → Prop := fun t12 h =>
vGeq t12 (.int .i64 0) h fun t33 h =>
vIf t33 (
s_slices_heapSortCmpFunc_api_IDB4 cf fuel ih2 t12 t0 t3 t8 t9 h) (
e1 h)
noncomputable def s_slices_heapSortCmpFunc_api_IDL2 (cf : CallK) (fuel : Nat) (e1 : Hp → Prop) (t0 : AV) (t3 : AV) (t8 : AV) (t9 : AV) (m : Nat) : AV → Hp → Prop := Nat.rec (motive := fun _ => AV → Hp → Prop) (fun _ _ => False) (fun _ ih => s_slices_heapSortCmpFunc_api_IDL2B cf fuel e1 t0 t3 t8 t9 ih) m
theorem s_slices_heapSortCmpFunc_api_IDL2_succ (cf : CallK) (fuel : Nat) (e1 : Hp → Prop) (t0 : AV) (t3 : AV) (t8 : AV) (t9 : AV) (m : Nat) : s_slices_heapSortCmpFunc_api_IDL2 cf fuel e1 t0 t3 t8 t9 (m + 1) = s_slices_heapSortCmpFunc_api_IDL2B cf fuel e1 t0 t3 t8 t9 (s_slices_heapSortCmpFunc_api_IDL2 cf fuel e1 t0 t3 t8 t9 m) := rfl
noncomputable def s_slices_heapSortCmpFunc_api_IDE0 (cf : CallK) (fuel : Nat) (K : AV → Hp → Prop) (t0 : AV) (t3 : AV) (t8 : AV) (t9 : AV) (t10 : AV) : Hp → Prop := fun h =>
vArith Go.Am.subI t10 (.int .i64 1) h fun t31 h =>
(fun (e1 : Hp → Prop) =>
s_slices_heapSortCmpFunc_api_IDL2 cf fuel (s_slices_heapSortCmpFunc_api_IDE1 cf fuel K) t0 t3 t8 t9 fuel t31 h) (s_slices_heapSortCmpFunc_api_IDE1 cf fuel K)
noncomputable def s_slices_heapSortCmpFunc_api_IDL5B (cf : CallK) (fuel : Nat) (e0 : Hp → Prop) (t0 : AV) (t3 : AV) (t8 : AV) (t9 : AV) (t10 : AV) (ih5 : AV → Hp → Prop) : AV → Hp → Prop := fun t11 h =>
vGeq t11 (.int .i64 0) h fun t21 h =>
vIf t21 (
(fun (e6 : Hp → Prop) =>
cf f_slices_siftDownCmpFunc_api_ID [t0, t11, t10, t8, t3] h fun t29 h =>
e6 h) fun h =>
vArith Go.Am.subI t11 (.int .i64 1) h fun t23 h =>
ih5 t23 h) (
e0 h)
noncomputable def s_slices_heapSortCmpFunc_api_IDL5 (cf : CallK) (fuel : Nat) (e0 : Hp → Prop) (t0 : AV) (t3 : AV) (t8 : AV) (t9 : AV) (t10 : AV) (m : Nat) : AV → Hp → Prop := Nat.rec (motive := fun _ => AV → Hp → Prop) (fun _ _ => False) (fun _ ih => s_slices_heapSortCmpFunc_api_IDL5B cf fuel e0 t0 t3 t8 t9 t10 ih) m
theorem s_slices_heapSortCmpFunc_api_IDL5_succ (cf : CallK) (fuel : Nat) (e0 : Hp → Prop) (t0 : AV) (t3 : AV) (t8 : AV) (t9 : AV) (t10 : AV) (m : Nat) : s_slices_heapSortCmpFunc_api_IDL5 cf fuel e0 t0 t3 t8 t9 t10 (m + 1) = s_slices_heapSortCmpFunc_api_IDL5B cf fuel e0 t0 t3 t8 t9 t10 (s_slices_heapSortCmpFunc_api_IDL5 cf fuel e0 t0 t3 t8 t9 t10 m) := rfl
noncomputable def s_slices_heapSortCmpFunc_api_ID (cf : CallK) (fuel : Nat) (t0 : AV) (t1 : AV) (t2 : AV) (t3 : AV) (h : Hp) (K : AV → Hp → Prop) : Prop :=
vArith Go.Am.subI t2 t1 h fun t16 h =>
vArith Go.Am.subI t16 (.int .i64 1) h fun t18 h =>
vDiv false t18 (.int .i64 2) h fun t19 h =>
(fun (e0 : Hp → Prop) =>
s_slices_heapSortCmpFunc_api_IDL5 cf fuel (s_slices_heapSortCmpFunc_api_IDE0 cf fuel K t0 t3 t1 (.int .i64 0) t16) t0 t3 t1 (.int .i64 0) t16 fuel t19 h) (s_slices_heapSortCmpFunc_api_IDE0 cf fuel K t0 t3 t1 (.int .i64 0) t16)
theorem s_slices_heapSortCmpFunc_api_ID_eq (cf : CallK) (fuel : Nat) (t0 : AV) (t1 : AV) (t2 : AV) (t3 : AV) (h : Hp) (K : AV → Hp → Prop) : s_slices_heapSortCmpFunc_api_ID cf fuel t0 t1 t2 t3 h K = deepT (tabOf Try.prog) f_slices_heapSortCmpFunc_api_ID cf fuel [t0, t1, t2, t3] h K :=
  Eq.trans (by kernel_rfl) (rFun (by kernel_rfl) (rSeq (by kernel_rfl) (rSeq (by kernel_rfl) (rSeq (by kernel_rfl) (rSeq (by kernel_rfl) (rSeq (by kernel_rfl) (rBlock (by kernel_rfl) (rLoop (by kernel_rfl) (fun m2 fr h => s_slices_heapSortCmpFunc_api_IDL2 cf fuel (s_slices_heapSortCmpFunc_api_IDE1 cf fuel K) (getS fr (gpos 0)) (getS fr (gpos 3)) (getS fr (gpos 8)) (getS fr (gpos 9)) m2 (getS fr (gpos 12)) h) (funext fun fr => funext fun h => by kernel_rfl) fun m2 => rCast (funext fun fr => funext fun h => by kernel_rfl) rExact)) rExact) (rSeq (by kernel_rfl) (rBlock (by kernel_rfl) (rLoop (by kernel_rfl) (fun m5 fr h => s_slices_heapSortCmpFunc_api_IDL5 cf fuel (s_slices_heapSortCmpFunc_api_IDE0 cf fuel K (getS fr (gpos 0)) (getS fr (gpos 3)) (getS fr (gpos 8)) (getS fr (gpos 9)) (getS fr (gpos 10))) (getS fr (gpos 0)) (getS fr (gpos 3)) (getS fr (gpos 8)) (getS fr (gpos 9)) (getS fr (gpos 10)) m5 (getS fr (gpos 11)) h) (funext fun fr => funext fun h => by kernel_rfl) fun m5 => rCast (funext fun fr => funext fun h => by kernel_rfl) rExact)) rExact)) rExact) rExact) rExact))

noncomputable def s_slices_breakPatternsCmpFunc_api_IDE0 (cf : CallK) (fuel : Nat) (K : AV → Hp → Prop) : Hp → Prop := fun h =>
K (.tup []) h
noncomputable def s_slices_breakPatternsCmpFunc_api_IDB4 (cf : CallK) (fuel : Nat) (ih1 : AV → Hp → Prop) (t8 : AV) (t1 : AV) (t11 : AV) (t0 : AV) (t9 : AV) (t10 : AV) (h : Hp) : Prop :=
(fun (e2 : Hp → Prop) =>
cf f_slices_xorshift_Next [t9] h fun t38 h =>
vArith Go.Am.subI t10 (.int .u64 1) h fun t40 h =>
vBits Nat.land t38 t40 h fun t41 h =>
vToInt .i64 t41 h fun t42 h =>
(fun (j3 : AV → Hp → Prop) =>
vGeq t42 t8 h fun t45 h =>
vIf t45 (
vArith Go.Am.subI t42 t8 h fun t48 h =>
j3 t48 h) (
j3 t42 h)) fun t12 h =>
vAdd t1 t12 h fun t54 h =>
vAdd t1 t12 h fun t58 h =>
vIaddr 2 t0 t58 h fun t59 h =>
vLoadA 2 t59 h fun t60 h =>
vIaddr 2 t0 t11 h fun t63 h =>
vLoadA 2 t63 h fun t64 h =>
vIaddr 2 t0 t11 h fun t65 h =>
vStore 2 t65 t60 h fun _ h =>
vIaddr 2 t0 t54 h fun t66 h =>
vStore 2 t66 t64 h fun _ h =>
e2 h) fun h =>
vAdd t11 (.int .i64 1) h fun t37 h =>
ih1 t37 h
noncomputable def s_slices_breakPatternsCmpFunc_api_IDL1B (cf : CallK) (fuel : Nat) (e0 : Hp → Prop) (t0 : AV) (t1 : AV) (t8 : AV) (t9 : AV) (t10 : AV) (ih1 : AV → Hp → Prop) : AV → Hp → Prop := fun t11 h =>
vDiv false t8 (.int .i64 4) h fun t31 h =>
vArith Go.Am.mulI t31 (.int .i64 2) h fun t32 h =>
vAdd t1 t32 h fun t33 h =>
vAdd t33 (.int .i64 1) h fun t34 h =>
vLeq t11 t34 h fun t35 h =>
vIf t35 (
s_slices_breakPatternsCmpFunc_api_IDB4 cf fuel ih1 t8 t1 t11 t0 t9 t10 h) (
e0 h)
noncomputable def s_slices_breakPatternsCmpFunc_api_IDL1 (cf : CallK) (fuel : Nat) (e0 : Hp → Prop) (t0 : AV) (t1 : AV) (t8 : AV) (t9 : AV) (t10 : AV) (m : Nat) : AV → Hp → Prop := Nat.rec (motive := fun _ => AV → Hp → Prop) (fun _ _ => False) (fun _ ih => s_slices_breakPatternsCmpFunc_api_IDL1B cf fuel e0 t0 t1 t8 t9 t10 ih) m
theorem s_slices_breakPatternsCmpFunc_api_IDL1_succ (cf : CallK) (fuel : Nat) (e0 : Hp → Prop) (t0 : AV) (t1 : AV) (t8 : AV) (t9 : AV) (t10 : AV) (m : Nat) : s_slices_breakPatternsCmpFunc_api_IDL1 cf fuel e0 t0 t1 t8 t9 t10 (m + 1) = s_slices_breakPatternsCmpFunc_api_IDL1B cf fuel e0 t0 t1 t8 t9 t10 (s_slices_breakPatternsCmpFunc_api_IDL1 cf fuel e0 t0 t1 t8 t9 t10 m) := rfl
noncomputable def s_slices_breakPatternsCmpFunc_api_ID (cf : CallK) (fuel : Nat) (t0 : AV) (t1 : AV) (t2 : AV) (t3 : AV) (h : Hp) (K : AV → Hp → Prop) : Prop :=
vArith Go.Am.subI t2 t1 h fun t15 h =>
vGeq t15 (.int .i64 8) h fun t17 h =>
vIf t17 (
vToInt .u64 t15 h fun t19 h =>
vBox 1 (.int .u64 0) h fun t9 h =>
vStore 1 t9 t19 h fun _ h =>
cf f_slices_nextPowerOfTwo [t15] h fun t21 h =>
vDiv false t15 (.int .i64 4) h fun t24 h =>
vArith Go.Am.mulI t24 (.int .i64 2) h fun t25 h =>
vAdd t1 t25 h fun t26 h =>
vArith Go.Am.subI t26 (.int .i64 1) h fun t27 h =>
(fun (e0 : Hp → Prop) =>
s_slices_breakPatternsCmpFunc_api_IDL1 cf fuel (s_slices_breakPatternsCmpFunc_api_IDE0 cf fuel K) t0 t1 t15 t9 t21 fuel t27 h) (s_slices_breakPatternsCmpFunc_api_IDE0 cf fuel K)) (
K (.tup []) h)
theorem s_slices_breakPatternsCmpFunc_api_ID_eq (cf : CallK) (fuel : Nat) (t0 : AV) (t1 : AV) (t2 : AV) (t3 : AV) (h : Hp) (K : AV → Hp → Prop) : s_slices_breakPatternsCmpFunc_api_ID cf fuel t0 t1 t2 t3 h K = deepT (tabOf Try.prog) f_slices_breakPatternsCmpFunc_api_ID cf fuel [t0, t1, t2, t3] h K :=
  Eq.trans (by kernel_rfl) (rFun (by kernel_rfl) (rSeq (by kernel_rfl) (rSeq (by kernel_rfl) (rCond (by kernel_rfl) (rSeq (by kernel_rfl) (rSeq (by kernel_rfl) (rSeq (by kernel_rfl) (rBlock (by kernel_rfl) (rLoop (by kernel_rfl) (fun m1 fr h => s_slices_breakPatternsCmpFunc_api_IDL1 cf fuel (s_slices_breakPatternsCmpFunc_api_IDE0 cf fuel K) (getS fr (gpos 0)) (getS fr (gpos 1)) (getS fr (gpos 8)) (getS fr (gpos 9)) (getS fr (gpos 10)) m1 (getS fr (gpos 11)) h) (funext fun fr => funext fun h => by kernel_rfl) fun m1 => rCast (funext fun fr => funext fun h => by kernel_rfl) rExact)) rExact) rExact) rExact) rExact) rExact) rExact))

noncomputable def s_slices_choosePivotCmpFunc_api_ID (cf : CallK) (fuel : Nat) (t0 : AV) (t1 : AV) (t2 : AV) (t3 : AV) (h : Hp) (K : AV → Hp → Prop) : Prop :=
vArith Go.Am.subI t2 t1 h fun t17 h =>
vBox 1 (.int .i64 0) h fun t11 h =>
vDiv false t17 (.int .i64 4) h fun t20 h =>
vArith Go.Am.mulI t20 (.int .i64 1) h fun t21 h =>
vAdd t1 t21 h fun t22 h =>
vDiv false t17 (.int .i64 4) h fun t25 h =>
vArith Go.Am.mulI t25 (.int .i64 2) h fun t26 h =>
vAdd t1 t26 h fun t27 h =>
vDiv false t17 (.int .i64 4) h fun t30 h =>
vArith Go.Am.mulI t30 (.int .i64 3) h fun t31 h =>
vAdd t1 t31 h fun t32 h =>
(fun (j0 : AV → Hp → Prop) =>
vGeq t17 (.int .i64 8) h fun t34 h =>
vIf t34 (
(fun (j1 : AV → AV → AV → Hp → Prop) =>
vGeq t17 (.int .i64 50) h fun t36 h =>
vIf t36 (
cf f_slices_medianAdjacentCmpFunc_api_ID [t0, t22, t11, t3] h fun t40 h =>
cf f_slices_medianAdjacentCmpFunc_api_ID [t0, t27, t11, t3] h fun t44 h =>
cf f_slices_medianAdjacentCmpFunc_api_ID [t0, t32, t11, t3] h fun t48 h =>
j1 t40 t44 t48 h) (
j1 t22 t27 t32 h)) fun t12 t13 t14 h =>
cf f_slices_medianCmpFunc_api_ID [t0, t12, t13, t14, t11, t3] h fun t54 h =>
j0 t54 h) (
j0 t27 h)) fun t13 h =>
vLoad2 t11 h fun t55 h =>
(fun (e2 : Hp → Prop) =>
vEql t55 (.int .i64 0) h fun t58 h =>
vIf t58 (
K (.tup [t13, (.int .i64 1)]) h) (
vEql t55 (.int .i64 12) h fun t61 h =>
vIf t61 (
K (.tup [t13, (.int .i64 2)]) h) (
K (.tup [t13, (.int .i64 0)]) h))) fun h =>
K (.tup [(.int .i64 0), (.int .i64 0)]) h
theorem s_slices_choosePivotCmpFunc_api_ID_eq (cf : CallK) (fuel : Nat) (t0 : AV) (t1 : AV) (t2 : AV) (t3 : AV) (h : Hp) (K : AV → Hp → Prop) : s_slices_choosePivotCmpFunc_api_ID cf fuel t0 t1 t2 t3 h K = deepT (tabOf Try.prog) f_slices_choosePivotCmpFunc_api_ID cf fuel [t0, t1, t2, t3] h K :=
  Eq.trans (by kernel_rfl) (rFun (by kernel_rfl) rExact)

noncomputable def s_slices_reverseRangeCmpFunc_api_IDE0 (cf : CallK) (fuel : Nat) (K : AV → Hp → Prop) : Hp → Prop := fun h =>
K (.tup []) h
noncomputable def s_slices_reverseRangeCmpFunc_api_IDL1B (cf : CallK) (fuel : Nat) (e0 : Hp → Prop) (t0 : AV) (ih1 : AV → AV → Hp → Prop) : AV → AV → Hp → Prop := fun t8 t9 h =>
vLss t8 t9 h fun t15 h =>
vIf t15 (
(fun (e2 : AV → AV → Hp → Prop) =>
vIaddr 2 t0 t9 h fun t22 h =>
vLoadA 2 t22 h fun t23 h =>
vIaddr 2 t0 t8 h fun t26 h =>
vLoadA 2 t26 h fun t27 h =>
vIaddr 2 t0 t8 h fun t28 h =>
vStore 2 t28 t23 h fun _ h =>
vIaddr 2 t0 t9 h fun t29 h =>
vStore 2 t29 t27 h fun _ h =>
vAdd t8 (.int .i64 1) h fun t31 h =>
vArith Go.Am.subI t9 (.int .i64 1) h fun t33 h =>
e2 t31 t33 h) fun t8_3 t9_4 h =>
ih1 t8_3 t9_4 h) (
e0 h)
noncomputable def s_slices_reverseRangeCmpFunc_api_IDL1 (cf : CallK) (fuel : Nat) (e0 : Hp → Prop) (t0 : AV) (m : Nat) : AV → AV → Hp → Prop := Nat.rec (motive := fun _ => AV → AV → Hp → Prop) (fun _ _ _ => False) (fun _ ih => s_slices_reverseRangeCmpFunc_api_IDL1B cf fuel e0 t0 ih) m
theorem s_slices_reverseRangeCmpFunc_api_IDL1_succ (cf : CallK) (fuel : Nat) (e0 : Hp → Prop) (t0 : AV) (m : Nat) : s_slices_reverseRangeCmpFunc_api_IDL1 cf fuel e0 t0 (m + 1) = s_slices_reverseRangeCmpFunc_api_IDL1B cf fuel e0 t0 (s_slices_reverseRangeCmpFunc_api_IDL1 cf fuel e0 t0 m) := rfl
noncomputable def s_slices_reverseRangeCmpFunc_api_ID (cf : CallK) (fuel : Nat) (t0 : AV) (t1 : AV) (t2 : AV) (t3 : AV) (h : Hp) (K : AV → Hp → Prop) : Prop :=
vArith Go.Am.subI t2 (.int .i64 1) h fun t12 h =>
(fun (e0 : Hp → Prop) =>
s_slices_reverseRangeCmpFunc_api_IDL1 cf fuel (s_slices_reverseRangeCmpFunc_api_IDE0 cf fuel K) t0 fuel t1 t12 h) (s_slices_reverseRangeCmpFunc_api_IDE0 cf fuel K)
theorem s_slices_reverseRangeCmpFunc_api_ID_eq (cf : CallK) (fuel : Nat) (t0 : AV) (t1 : AV) (t2 : AV) (t3 : AV) (h : Hp) (K : AV → Hp → Prop) : s_slices_reverseRangeCmpFunc_api_ID cf fuel t0 t1 t2 t3 h K = deepT (tabOf Try.prog) f_slices_reverseRangeCmpFunc_api_ID cf fuel [t0, t1, t2, t3] h K :=
  Eq.trans (by kernel_rfl) (rFun (by kernel_rfl) (rSeq (by kernel_rfl) (rSeq (by kernel_rfl) (rBlock (by kernel_rfl) (rLoop (by kernel_rfl) (fun m1 fr h => s_slices_reverseRangeCmpFunc_api_IDL1 cf fuel (s_slices_reverseRangeCmpFunc_api_IDE0 cf fuel K) (getS fr (gpos 0)) m1 (getS fr (gpos 8)) (getS fr (gpos 9)) h) (funext fun fr => funext fun h => by kernel_rfl) fun m1 => rCast (funext fun fr => funext fun h => by kernel_rfl) rExact)) rExact) rExact))

noncomputable def s_slices_partialInsertionSortCmpFunc_api_IDE0 (cf : CallK) (fuel : Nat) (K : AV → Hp → Prop) : Hp → Prop := fun h =>
K (.bool .false) h
noncomputable def s_slices_partialInsertionSortCmpFunc_api_IDE2 (cf : CallK) (fuel : Nat) (ih1 : AV → AV → Hp → Prop) (t0 : AV) (t1 : AV) (t2 : AV) (t3 : AV) (t10 : AV) : AV → Hp → Prop := fun t9 h =>
vAdd t10 (.int .i64 1) h fun t18 h =>
ih1 t9 t18 h
noncomputable def s_slices_partialInsertionSortCmpFunc_api_IDE5 (cf : CallK) (fuel : Nat) (e2 : AV → Hp → Prop) (t0 : AV) (t1 : AV) (t2 : AV) (t3 : AV) (t9 : AV) (t10 : AV) : Hp → Prop := fun h =>
e2 t9 h
noncomputable def s_slices_partialInsertionSortCmpFunc_api_IDB8 (cf : CallK) (fuel : Nat) (ih6 : AV → Hp → Prop) (e5 : Hp → Prop) (t12 : AV) (t0 : AV) (t3 : AV) (h : Hp) : Prop :=
(fun (e7 : Hp → Prop) =>
vIaddr 2 t0 t12 h fun t115 h =>
vLoadA 2 t115 h fun t116 h =>
vArith Go.Am.subI t12 (.int .i64 1) h fun t119 h =>
vIaddr 2 t0 t119 h fun t120 h =>
vLoadA 2 t120 h fun t121 h =>
vCallV t3 [t116, t121] cf h fun t122 h =>
vLss t122 (.int .i64 0) h fun t123 h =>
vNot t123 h fun t124 h =>
vIf t124 (
e5 h) (
vArith Go.Am.subI t12 (.int .i64 1) h fun t129 h =>
vArith Go.Am.subI t12 (.int .i64 1) h fun t132 h =>
vIaddr 2 t0 t132 h fun t133 h =>
vLoadA 2 t133 h fun t134 h =>
vIaddr 2 t0 t12 h fun t137 h =>
vLoadA 2 t137 h fun t138 h =>
vIaddr 2 t0 t12 h fun t139 h =>
vStore 2 t139 t134 h fun _ h =>
vIaddr 2 t0 t129 h fun t140 h =>
vStore 2 t140 t138 h fun _ h =>
e7 h)) fun h =>
vAdd t12 (.int .i64 1) h fun t111 h =>
ih6 t111 h
noncomputable def s_slices_partialInsertionSortCmpFunc_api_IDL6B (cf : CallK) (fuel : Nat) (e5 : Hp → Prop) (t0 : AV) (t1 : AV) (t2 : AV) (t3 : AV) (t9 : AV) (t10 : AV) (ih6 : AV → Hp → Prop) : AV → Hp → Prop := fun t12 h =>
vLss t12 t2 h fun t109 h =>
vIf t109 (
s_slices_partialInsertionSortCmpFunc_api_IDB8 cf fuel ih6 e5 t12 t0 t3 h) (
e5 h)
noncomputable def s_slices_partialInsertionSortCmpFunc_api_IDL6 (cf : CallK) (fuel : Nat) (e5 : Hp → Prop) (t0 : AV) (t1 : AV) (t2 : AV) (t3 : AV) (t9 : AV) (t10 : AV) (m : Nat) : AV → Hp → Prop := Nat.rec (motive := fun _ => AV → Hp → Prop) (fun _ _ => False) (fun _ ih => s_slices_partialInsertionSortCmpFunc_api_IDL6B cf fuel e5 t0 t1 t2 t3 t9 t10 ih) m
theorem s_slices_partialInsertionSortCmpFunc_api_IDL6_succ (cf : CallK) (fuel : Nat) (e5 : Hp → Prop) (t0 : AV) (t1 : AV) (t2 : AV) (t3 : AV) (t9 : AV) (t10 : AV) (m : Nat) : s_slices_partialInsertionSortCmpFunc_api_IDL6 cf fuel e5 t0 t1 t2 t3 t9 t10 (m + 1) = s_slices_partialInsertionSortCmpFunc_api_IDL6B cf fuel e5 t0 t1 t2 t3 t9 t10 (s_slices_partialInsertionSortCmpFunc_api_IDL6 cf fuel e5 t0 t1 t2 t3 t9 t10 m) := rfl
noncomputable def s_slices_partialInsertionSortCmpFunc_api_IDJ4 (cf : CallK) (fuel : Nat) (ih1 : AV → AV → Hp → Prop) (e2 : AV → Hp → Prop) (t0 : AV) (t1 : AV) (t2 : AV) (t3 : AV) (t9 : AV) (t10 : AV) : Hp → Prop := fun h =>
vArith Go.Am.subI t2 t9 h fun t103 h =>
vGeq t103 (.int .i64 2) h fun t104 h =>
vIf t104 (
vAdd t9 (.int .i64 1) h fun t106 h =>
(fun (e5 : Hp → Prop) =>
s_slices_partialInsertionSortCmpFunc_api_IDL6 cf fuel (s_slices_partialInsertionSortCmpFunc_api_IDE5 cf fuel (s_slices_partialInsertionSortCmpFunc_api_IDE2 cf fuel ih1 t0 t1 t2 t3 t10) t0 t1 t2 t3 t9 t10) t0 t1 t2 t3 t9 t10 fuel t106 h) (s_slices_partialInsertionSortCmpFunc_api_IDE5 cf fuel (s_slices_partialInsertionSortCmpFunc_api_IDE2 cf fuel ih1 t0 t1 t2 t3 t10) t0 t1 t2 t3 t9 t10)) (
e2 t9 h)
noncomputable def s_slices_partialInsertionSortCmpFunc_api_IDE9 (cf : CallK) (fuel : Nat) (j4 : Hp → Prop) (t0 : AV) (t1 : AV) (t2 : AV) (t3 : AV) (t9 : AV) (t10 : AV) : Hp → Prop := fun h =>
j4 h
noncomputable def s_slices_partialInsertionSortCmpFunc_api_IDB12 (cf : CallK) (fuel : Nat) (ih10 : AV → Hp → Prop) (e9 : Hp → Prop) (t11 : AV) (t0 : AV) (t3 : AV) (h : Hp) : Prop :=
(fun (e11 : Hp → Prop) =>
vIaddr 2 t0 t11 h fun t75 h =>
vLoadA 2 t75 h fun t76 h =>
vArith Go.Am.subI t11 (.int .i64 1) h fun t79 h =>
vIaddr 2 t0 t79 h fun t80 h =>
vLoadA 2 t80 h fun t81 h =>
vCallV t3 [t76, t81] cf h fun t82 h =>
vLss t82 (.int .i64 0) h fun t83 h =>
vNot t83 h fun t84 h =>
vIf t84 (
e9 h) (
vArith Go.Am.subI t11 (.int .i64 1) h fun t89 h =>
vArith Go.Am.subI t11 (.int .i64 1) h fun t92 h =>
vIaddr 2 t0 t92 h fun t93 h =>
vLoadA 2 t93 h fun t94 h =>
vIaddr 2 t0 t11 h fun t97 h =>
vLoadA 2 t97 h fun t98 h =>
vIaddr 2 t0 t11 h fun t99 h =>
vStore 2 t99 t94 h fun _ h =>
vIaddr 2 t0 t89 h fun t100 h =>
vStore 2 t100 t98 h fun _ h =>
e11 h)) fun h =>
vArith Go.Am.subI t11 (.int .i64 1) h fun t71 h =>
ih10 t71 h
noncomputable def s_slices_partialInsertionSortCmpFunc_api_IDL10B (cf : CallK) (fuel : Nat) (e9 : Hp → Prop) (t0 : AV) (t1 : AV) (t2 : AV) (t3 : AV) (t9 : AV) (t10 : AV) (ih10 : AV → Hp → Prop) : AV → Hp → Prop := fun t11 h =>
vGeq t11 (.int .i64 1) h fun t69 h =>
vIf t69 (
s_slices_partialInsertionSortCmpFunc_api_IDB12 cf fuel ih10 e9 t11 t0 t3 h) (
e9 h)
noncomputable def s_slices_partialInsertionSortCmpFunc_api_IDL10 (cf : CallK) (fuel : Nat) (e9 : Hp → Prop) (t0 : AV) (t1 : AV) (t2 : AV) (t3 : AV) (t9 : AV) (t10 : AV) (m : Nat) : AV → Hp → Prop := Nat.rec (motive := fun _ => AV → Hp → Prop) (fun _ _ => False) (fun _ ih => s_slices_partialInsertionSortCmpFunc_api_IDL10B cf fuel e9 t0 t1 t2 t3 t9 t10 ih) m
theorem s_slices_partialInsertionSortCmpFunc_api_IDL10_succ (cf : CallK) (fuel : Nat) (e9 : Hp → Prop) (t0 : AV) (t1 : AV) (t2 : AV) (t3 : AV) (t9 : AV) (t10 : AV) (m : Nat) : s_slices_partialInsertionSortCmpFunc_api_IDL10 cf fuel e9 t0 t1 t2 t3 t9 t10 (m + 1) = s_slices_partialInsertionSortCmpFunc_api_IDL10B cf fuel e9 t0 t1 t2 t3 t9 t10 (s_slices_partialInsertionSortCmpFunc_api_IDL10 cf fuel e9 t0 t1 t2 t3 t9 t10 m) := rfl
noncomputable def s_slices_partialInsertionSortCmpFunc_api_IDB13 (cf : CallK) (fuel : Nat) (ih1 : AV → AV → Hp → Prop) (t1 : AV) (t2 : AV) (t9 : AV) (t0 : AV) (t3 : AV) (t10 : AV) (h : Hp) : Prop :=
vArith Go.Am.subI t9 (.int .i64 1) h fun t50 h =>
vArith Go.Am.subI t9 (.int .i64 1) h fun t53 h =>
vIaddr 2 t0 t53 h fun t54 h =>
vLoadA 2 t54 h fun t55 h =>
vIaddr 2 t0 t9 h fun t58 h =>
vLoadA 2 t58 h fun t59 h =>
vIaddr 2 t0 t9 h fun t60 h =>
vStore 2 t60 t55 h fun _ h =>
vIaddr 2 t0 t50 h fun t61 h =>
vStore 2 t61 t59 h fun _ h =>
(fun (j4 : Hp → Prop) =>
vArith Go.Am.subI t9 t1 h fun t64 h =>
vGeq t64 (.int .i64 2) h fun t65 h =>
vIf t65 (
vArith Go.Am.subI t9 (.int .i64 1) h fun t67 h =>
(fun (e9 : Hp → Prop) =>
s_slices_partialInsertionSortCmpFunc_api_IDL10 cf fuel (s_slices_partialInsertionSortCmpFunc_api_IDE9 cf fuel (s_slices_partialInsertionSortCmpFunc_api_IDJ4 cf fuel ih1 (s_slices_partialInsertionSortCmpFunc_api_IDE2 cf fuel ih1 t0 t1 t2 t3 t10) t0 t1 t2 t3 t9 t10) t0 t1 t2 t3 t9 t10) t0 t1 t2 t3 t9 t10 fuel t67 h) (s_slices_partialInsertionSortCmpFunc_api_IDE9 cf fuel (s_slices_partialInsertionSortCmpFunc_api_IDJ4 cf fuel ih1 (s_slices_partialInsertionSortCmpFunc_api_IDE2 cf fuel ih1 t0 t1 t2 t3 t10) t0 t1 t2 t3 t9 t10) t0 t1 t2 t3 t9 t10)) (
j4 h)) (s_slices_partialInsertionSortCmpFunc_api_IDJ4 cf fuel ih1 (s_slices_partialInsertionSortCmpFunc_api_IDE2 cf fuel ih1 t0 t1 t2 t3 t10) t0 t1 t2 t3 t9 t10)
noncomputable def s_slices_partialInsertionSortCmpFunc_api_IDE3 (cf : CallK) (fuel : Nat) (K : AV → Hp → Prop) (ih1 : AV → AV → Hp → Prop) (t0 : AV) (t1 : AV) (t2 : AV) (t3 : AV) (t10 : AV) : AV → Hp → Prop := fun t9 h =>
vEql t9 t2 h fun t41 h =>
vIf t41 (
K (.bool .true) h) (
vArith Go.Am.subI t2 t1 h fun t44 h =>
vLss t44 (.int .i64 50) h fun t45 h =>
vIf t45 (
K (.bool .false) h) (
s_slices_partialInsertionSortCmpFunc_api_IDB13 cf fuel ih1 t1 t2 t9 t0 t3 t10 h))
noncomputable def s_slices_partialInsertionSortCmpFunc_api_IDL14B (cf : CallK) (fuel : Nat) (e3 : AV → Hp → Prop) (t0 : AV) (t1 : AV) (t2 : AV) (t3 : AV) (t10 : AV) (ih14 : AV → Hp → Prop) : AV → Hp → Prop := fun t9 h =>
vLss t9 t2 h fun t21 h =>
joinG (fun g29 => grdV t21 true (vMov t3 h g29) (g29 undefV h)) fun t23 h =>
joinG (fun g28 => grdV t21 true (vMov t0 h g28) (g28 undefV h)) fun t24 h =>
joinG (fun g27 => grdV t21 true (vMov t9 h g27) (g27 undefV h)) fun t25 h =>
joinG (fun g26 => grdV t21 true (vIaddr 2 t24 t25 h g26) (g26 undefV h)) fun t26 h =>
joinG (fun g25 => grdV t21 true (vLoadA 2 t26 h g25) (g25 undefV h)) fun t27 h =>
joinG (fun g24 => grdV t21 true (vMov t0 h g24) (g24 undefV h)) fun t28 h =>
joinG (fun g23 => grdV t21 true (vMov t9 h g23) (g23 undefV h)) fun t29 h =>
joinG (fun g22 => grdV t21 true (vArith Go.Am.subI t29 (.int .i64 1) h g22) (g22 undefV h)) fun t30 h =>
joinG (fun g21 => grdV t21 true (vIaddr 2 t28 t30 h g21) (g21 undefV h)) fun t31 h =>
joinG (fun g20 => grdV t21 true (vLoadA 2 t31 h g20) (g20 undefV h)) fun t32 h =>
joinG (fun g19 => grdV t21 true (vCallV t23 [t27, t32] cf h g19) (g19 undefV h)) fun t33 h =>
joinG (fun g18 => grdV t21 true (vLss t33 (.int .i64 0) h g18) (g18 undefV h)) fun t34 h =>
joinG (fun g17 => grdV t21 true (vNot t34 h g17) (g17 undefV h)) fun t35 h =>
vPick t21 t35 (.bool .false) h fun t36 h =>
vIf t36 (
(fun (e15 : AV → Hp → Prop) =>
vAdd t9 (.int .i64 1) h fun t38 h =>
e15 t38 h) fun t9_16 h =>
ih14 t9_16 h) (
e3 t9 h)
noncomputable def s_slices_partialInsertionSortCmpFunc_api_IDL14 (cf : CallK) (fuel : Nat) (e3 : AV → Hp → Prop) (t0 : AV) (t1 : AV) (t2 : AV) (t3 : AV) (t10 : AV) (m : Nat) : AV → Hp → Prop := Nat.rec (motive := fun _ => AV → Hp → Prop) (fun _ _ => False) (fun _ ih => s_slices_partialInsertionSortCmpFunc_api_IDL14B cf fuel e3 t0 t1 t2 t3 t10 ih) m
theorem s_slices_partialInsertionSortCmpFunc_api_IDL14_succ (cf : CallK) (fuel : Nat) (e3 : AV → Hp → Prop) (t0 : AV) (t1 : AV) (t2 : AV) (t3 : AV) (t10 : AV) (m : Nat) : s_slices_partialInsertionSortCmpFunc_api_IDL14 cf fuel e3 t0 t1 t2 t3 t10 (m + 1) = s_slices_partialInsertionSortCmpFunc_api_IDL14B cf fuel e3 t0 t1 t2 t3 t10 (s_slices_partialInsertionSortCmpFunc_api_IDL14 cf fuel e3 t0 t1 t2 t3 t10 m) := rfl
noncomputable def s_slices_partialInsertionSortCmpFunc_api_IDL1B (cf : CallK) (fuel : Nat) (K : AV → Hp → Prop) (e0 : Hp → Prop) (t0 : AV) (t1 : AV) (t2 : AV) (t3 : AV) (ih1 : AV → AV → Hp → Prop) : AV → AV → Hp → Prop := fun t9 t10 h =>
vLss t10 (.int .i64 5) h fun t16 h =>
vIf t16 (
(fun (e2 : AV → Hp → Prop) =>
(fun (e3 : AV → Hp → Prop) =>
s_slices_partialInsertionSortCmpFunc_api_IDL14 cf fuel (s_slices_partialInsertionSortCmpFunc_api_IDE3 cf fuel K ih1 t0 t1 t2 t3 t10) t0 t1 t2 t3 t10 fuel t9 h) (s_slices_partialInsertionSortCmpFunc_api_IDE3 cf fuel K ih1 t0 t1 t2 t3 t10)) (s_slices_partialInsertionSortCmpFunc_api_IDE2 cf fuel ih1 t0 t1 t2 t3 t10)) (
e0 h)
noncomputable def s_slices_partialInsertionSortCmpFunc_api_IDL1 (cf : CallK) (fuel : Nat) (K : AV → Hp → Prop) (e0 : Hp → Prop) (t0 : AV) (t1 : AV) (t2 : AV) (t3 : AV) (m : Nat) : AV → AV → Hp → Prop := Nat.rec (motive := fun _ => AV → AV → Hp → Prop) (fun _ _ _ => False) (fun _ ih => s_slices_partialInsertionSortCmpFunc_api_IDL1B cf fuel K e0 t0 t1 t2 t3 ih) m
theorem s_slices_partialInsertionSortCmpFunc_api_IDL1_succ (cf : CallK) (fuel : Nat) (K : AV → Hp → Prop) (e0 : Hp → Prop) (t0 : AV) (t1 : AV) (t2 : AV) (t3 : AV) (m : Nat) : s_slices_partialInsertionSortCmpFunc_api_IDL1 cf fuel K e0 t0 t1 t2 t3 (m + 1) = s_slices_partialInsertionSortCmpFunc_api_IDL1B cf fuel K e0 t0 t1 t2 t3 (s_slices_partialInsertionSortCmpFunc_api_IDL1 cf fuel K e0 t0 t1 t2 t3 m) := rfl
noncomputable def s_slices_partialInsertionSortCmpFunc_api_ID (cf : CallK) (fuel : Nat) (t0 : AV) (t1 : AV) (t2 : AV) (t3 : AV) (h : Hp) (K : AV → Hp → Prop) : Prop :=
vAdd t1 (.int .i64 1) h fun t14 h =>
(fun (e0 : Hp → Prop) =>
s_slices_partialInsertionSortCmpFunc_api_IDL1 cf fuel K (s_slices_partialInsertionSortCmpFunc_api_IDE0 cf fuel K) t0 t1 t2 t3 fuel t14 (.int .i64 0) h) (s_slices_partialInsertionSortCmpFunc_api_IDE0 cf fuel K)
theorem s_slices_partialInsertionSortCmpFunc_api_ID_eq (cf : CallK) (fuel : Nat) (t0 : AV) (t1 : AV) (t2 : AV) (t3 : AV) (h : Hp) (K : AV → Hp → Prop) : s_slices_partialInsertionSortCmpFunc_api_ID cf fuel t0 t1 t2 t3 h K = deepT (tabOf Try.prog) f_slices_partialInsertionSortCmpFunc_api_ID cf fuel [t0, t1, t2, t3] h K :=
  Eq.trans (by kernel_rfl) (rFun (by kernel_rfl) (rSeq (by kernel_rfl) (rSeq (by kernel_rfl) (rSeq (by kernel_rfl) rExact (rSeq (by kernel_rfl) (rBlock (by kernel_rfl) (rLoop (by kernel_rfl) (fun m1 fr h => s_slices_partialInsertionSortCmpFunc_api_IDL1 cf fuel K (s_slices_partialInsertionSortCmpFunc_api_IDE0 cf fuel K) (getS fr (gpos 0)) (getS fr (gpos 1)) (getS fr (gpos 2)) (getS fr (gpos 3)) m1 (getS fr (gpos 9)) (getS fr (gpos 10)) h) (funext fun fr => funext fun h => by kernel_rfl) fun m1 => rCast (funext fun fr => funext fun h => by kernel_rfl) (rSeq (by kernel_rfl) (rSeq (by kernel_rfl) rExact (rBlock (by kernel_rfl) (rSeq (by kernel_rfl) (rSeq (by kernel_rfl) (rSeq (by kernel_rfl) (rSeq (by kernel_rfl) (rSeq (by kernel_rfl) (rSeq (by kernel_rfl) (rCond (by kernel_rfl) (rSeq (by kernel_rfl) (rBlock (by kernel_rfl) (rLoop (by kernel_rfl) (fun m6 fr h => s_slices_partialInsertionSortCmpFunc_api_IDL6 cf fuel (s_slices_partialInsertionSortCmpFunc_api_IDE5 cf fuel (s_slices_partialInsertionSortCmpFunc_api_IDE2 cf fuel (s_slices_partialInsertionSortCmpFunc_api_IDL1 cf fuel K (s_slices_partialInsertionSortCmpFunc_api_IDE0 cf fuel K) (getS fr (gpos 0)) (getS fr (gpos 1)) (getS fr (gpos 2)) (getS fr (gpos 3)) m1) (getS fr (gpos 0)) (getS fr (gpos 1)) (getS fr (gpos 2)) (getS fr (gpos 3)) (getS fr (gpos 10))) (getS fr (gpos 0)) (getS fr (gpos 1)) (getS fr (gpos 2)) (getS fr (gpos 3)) (getS fr (gpos 9)) (getS fr (gpos 10))) (getS fr (gpos 0)) (getS fr (gpos 1)) (getS fr (gpos 2)) (getS fr (gpos 3)) (getS fr (gpos 9)) (getS fr (gpos 10)) m6 (getS fr (gpos 12)) h) (funext fun fr => funext fun h => by kernel_rfl) fun m6 => rCast (funext fun fr => funext fun h => by kernel_rfl) rExact)) rExact) rExact) rExact) (rSeq (by kernel_rfl) (rCond (by kernel_rfl) (rSeq (by kernel_rfl) (rBlock (by kernel_rfl) (rLoop (by kernel_rfl) (fun m10 fr h => s_slices_partialInsertionSortCmpFunc_api_IDL10 cf fuel (s_slices_partialInsertionSortCmpFunc_api_IDE9 cf fuel (s_slices_partialInsertionSortCmpFunc_api_IDJ4 cf fuel (s_slices_partialInsertionSortCmpFunc_api_IDL1 cf fuel K (s_slices_partialInsertionSortCmpFunc_api_IDE0 cf fuel K) (getS fr (gpos 0)) (getS fr (gpos 1)) (getS fr (gpos 2)) (getS fr (gpos 3)) m1) (s_slices_partialInsertionSortCmpFunc_api_IDE2 cf fuel (s_slices_partialInsertionSortCmpFunc_api_IDL1 cf fuel K (s_slices_partialInsertionSortCmpFunc_api_IDE0 cf fuel K) (getS fr (gpos 0)) (getS fr (gpos 1)) (getS fr (gpos 2)) (getS fr (gpos 3)) m1) (getS fr (gpos 0)) (getS fr (gpos 1)) (getS fr (gpos 2)) (getS fr (gpos 3)) (getS fr (gpos 10))) (getS fr (gpos 0)) (getS fr (gpos 1)) (getS fr (gpos 2)) (getS fr (gpos 3)) (getS fr (gpos 9)) (getS fr (gpos 10))) (getS fr (gpos 0)) (getS fr (gpos 1)) (getS fr (gpos 2)) (getS fr (gpos 3)) (getS fr (gpos 9)) (getS fr (gpos 10))) (getS fr (gpos 0)) (getS fr (gpos 1)) (getS fr (gpos 2)) (getS fr (gpos 3)) (getS fr (gpos 9)) (getS fr (gpos 10)) m10 (getS fr (gpos 11)) h) (funext fun fr => funext fun h => by kernel_rfl) fun m10 => rCast (funext fun fr => funext fun h => by kernel_rfl) rExact)) rExact) rExact) rExact)) rExact) rExact) rExact) (rBlock (by kernel_rfl) (rLoop (by kernel_rfl) (fun m14 fr h => s_slices_partialInsertionSortCmpFunc_api_IDL14 cf fuel (s_slices_partialInsertionSortCmpFunc_api_IDE3 cf fuel K (s_slices_partialInsertionSortCmpFunc_api_IDL1 cf fuel K (s_slices_partialInsertionSortCmpFunc_api_IDE0 cf fuel K) (getS fr (gpos 0)) (getS fr (gpos 1)) (getS fr (gpos 2)) (getS fr (gpos 3)) m1) (getS fr (gpos 0)) (getS fr (gpos 1)) (getS fr (gpos 2)) (getS fr (gpos 3)) (getS fr (gpos 10))) (getS fr (gpos 0)) (getS fr (gpos 1)) (getS fr (gpos 2)) (getS fr (gpos 3)) (getS fr (gpos 10)) m14 (getS fr (gpos 9)) h) (funext fun fr => funext fun h => by kernel_rfl) fun m14 => rCast (funext fun fr => funext fun h => by kernel_rfl) rExact))))) rExact))) rExact)) rExact) rExact))

noncomputable def s_slices_partitionEqualCmpFunc_api_IDE0 (cf : CallK) (fuel : Nat) (K : AV → Hp → Prop) : AV → Hp → Prop := fun t11 h =>
K t11 h
noncomputable def s_slices_partitionEqualCmpFunc_api_IDE2 (cf : CallK) (fuel : Nat) (ih1 : AV → AV → Hp → Prop) (t0 : AV) (t1 : AV) (t4 : AV) : AV → AV → Hp → Prop := fun t11 t12 h =>
ih1 t11 t12 h
noncomputable def s_slices_partitionEqualCmpFunc_api_IDE4 (cf : CallK) (fuel : Nat) (e0 : AV → Hp → Prop) (e2 : AV → AV → Hp → Prop) (t0 : AV) (t1 : AV) (t4 : AV) (t11 : AV) : AV → Hp → Prop := fun t12 h =>
vGtr t11 t12 h fun t70 h =>
vIf t70 (
e0 t11 h) (
vIaddr 2 t0 t12 h fun t77 h =>
vLoadA 2 t77 h fun t78 h =>
vIaddr 2 t0 t11 h fun t81 h =>
vLoadA 2 t81 h fun t82 h =>
vIaddr 2 t0 t11 h fun t83 h =>
vStore 2 t83 t78 h fun _ h =>
vIaddr 2 t0 t12 h fun t84 h =>
vStore 2 t84 t82 h fun _ h =>
vAdd t11 (.int .i64 1) h fun t86 h =>
vArith Go.Am.subI t12 (.int .i64 1) h fun t88 h =>
e2 t86 t88 h)
noncomputable def s_slices_partitionEqualCmpFunc_api_IDL5B (cf : CallK) (fuel : Nat) (e4 : AV → Hp → Prop) (t0 : AV) (t1 : AV) (t4 : AV) (t11 : AV) (ih5 : AV → Hp → Prop) : AV → Hp → Prop := fun t12 h =>
vLeq t11 t12 h fun t52 h =>
joinG (fun g18 => grdV t52 true (vMov t4 h g18) (g18 undefV h)) fun t54 h =>
joinG (fun g17 => grdV t52 true (vMov t0 h g17) (g17 undefV h)) fun t55 h =>
joinG (fun g16 => grdV t52 true (vMov t1 h g16) (g16 undefV h)) fun t56 h =>
joinG (fun g15 => grdV t52 true (vIaddr 2 t55 t56 h g15) (g15 undefV h)) fun t57 h =>
joinG (fun g14 => grdV t52 true (vLoadA 2 t57 h g14) (g14 undefV h)) fun t58 h =>
joinG (fun g13 => grdV t52 true (vMov t0 h g13) (g13 undefV h)) fun t59 h =>
joinG (fun g12 => grdV t52 true (vMov t12 h g12) (g12 undefV h)) fun t60 h =>
joinG (fun g11 => grdV t52 true (vIaddr 2 t59 t60 h g11) (g11 undefV h)) fun t61 h =>
joinG (fun g10 => grdV t52 true (vLoadA 2 t61 h g10) (g10 undefV h)) fun t62 h =>
joinG (fun g9 => grdV t52 true (vCallV t54 [t58, t62] cf h g9) (g9 undefV h)) fun t63 h =>
joinG (fun g8 => grdV t52 true (vLss t63 (.int .i64 0) h g8) (g8 undefV h)) fun t64 h =>
vPick t52 t64 (.bool .false) h fun t65 h =>
vIf t65 (
(fun (e6 : AV → Hp → Prop) =>
vArith Go.Am.subI t12 (.int .i64 1) h fun t67 h =>
e6 t67 h) fun t12_7 h =>
ih5 t12_7 h) (
e4 t12 h)
noncomputable def s_slices_partitionEqualCmpFunc_api_IDL5 (cf : CallK) (fuel : Nat) (e4 : AV → Hp → Prop) (t0 : AV) (t1 : AV) (t4 : AV) (t11 : AV) (m : Nat) : AV → Hp → Prop := Nat.rec (motive := fun _ => AV → Hp → Prop) (fun _ _ => False) (fun _ ih => s_slices_partitionEqualCmpFunc_api_IDL5B cf fuel e4 t0 t1 t4 t11 ih) m
theorem s_slices_partitionEqualCmpFunc_api_IDL5_succ (cf : CallK) (fuel : Nat) (e4 : AV → Hp → Prop) (t0 : AV) (t1 : AV) (t4 : AV) (t11 : AV) (m : Nat) : s_slices_partitionEqualCmpFunc_api_IDL5 cf fuel e4 t0 t1 t4 t11 (m + 1) = s_slices_partitionEqualCmpFunc_api_IDL5B cf fuel e4 t0 t1 t4 t11 (s_slices_partitionEqualCmpFunc_api_IDL5 cf fuel e4 t0 t1 t4 t11 m) := rfl
noncomputable def s_slices_partitionEqualCmpFunc_api_IDE3 (cf : CallK) (fuel : Nat) (e0 : AV → Hp → Prop) (ih1 : AV → AV → Hp → Prop) (t0 : AV) (t1 : AV) (t4 : AV) (t12 : AV) : AV → Hp → Prop := fun t11 h =>
(fun (e4 : AV → Hp → Prop) =>
s_slices_partitionEqualCmpFunc_api_IDL5 cf fuel (s_slices_partitionEqualCmpFunc_api_IDE4 cf fuel e0 (s_slices_partitionEqualCmpFunc_api_IDE2 cf fuel ih1 t0 t1 t4) t0 t1 t4 t11) t0 t1 t4 t11 fuel t12 h) (s_slices_partitionEqualCmpFunc_api_IDE4 cf fuel e0 (s_slices_partitionEqualCmpFunc_api_IDE2 cf fuel ih1 t0 t1 t4) t0 t1 t4 t11)
noncomputable def s_slices_partitionEqualCmpFunc_api_IDL19B (cf : CallK) (fuel : Nat) (e3 : AV → Hp → Prop) (t0 : AV) (t1 : AV) (t4 : AV) (t12 : AV) (ih19 : AV → Hp → Prop) : AV → Hp → Prop := fun t11 h =>
vLeq t11 t12 h fun t33 h =>
joinG (fun g33 => grdV t33 true (vMov t4 h g33) (g33 undefV h)) fun t35 h =>
joinG (fun g32 => grdV t33 true (vMov t0 h g32) (g32 undefV h)) fun t36 h =>
joinG (fun g31 => grdV t33 true (vMov t1 h g31) (g31 undefV h)) fun t37 h =>
joinG (fun g30 => grdV t33 true (vIaddr 2 t36 t37 h g30) (g30 undefV h)) fun t38 h =>
joinG (fun g29 => grdV t33 true (vLoadA 2 t38 h g29) (g29 undefV h)) fun t39 h =>
joinG (fun g28 => grdV t33 true (vMov t0 h g28) (g28 undefV h)) fun t40 h =>
joinG (fun g27 => grdV t33 true (vMov t11 h g27) (g27 undefV h)) fun t41 h =>
joinG (fun g26 => grdV t33 true (vIaddr 2 t40 t41 h g26) (g26 undefV h)) fun t42 h =>
joinG (fun g25 => grdV t33 true (vLoadA 2 t42 h g25) (g25 undefV h)) fun t43 h =>
joinG (fun g24 => grdV t33 true (vCallV t35 [t39, t43] cf h g24) (g24 undefV h)) fun t44 h =>
joinG (fun g23 => grdV t33 true (vLss t44 (.int .i64 0) h g23) (g23 undefV h)) fun t45 h =>
joinG (fun g22 => grdV t33 true (vNot t45 h g22) (g22 undefV h)) fun t46 h =>
vPick t33 t46 (.bool .false) h fun t47 h =>
vIf t47 (
(fun (e20 : AV → Hp → Prop) =>
vAdd t11 (.int .i64 1) h fun t49 h =>
e20 t49 h) fun t11_21 h =>
ih19 t11_21 h) (
e3 t11 h)
noncomputable def s_slices_partitionEqualCmpFunc_api_IDL19 (cf : CallK) (fuel : Nat) (e3 : AV → Hp → Prop) (t0 : AV) (t1 : AV) (t4 : AV) (t12 : AV) (m : Nat) : AV → Hp → Prop := Nat.rec (motive := fun _ => AV → Hp → Prop) (fun _ _ => False) (fun _ ih => s_slices_partitionEqualCmpFunc_api_IDL19B cf fuel e3 t0 t1 t4 t12 ih) m
theorem s_slices_partitionEqualCmpFunc_api_IDL19_succ (cf : CallK) (fuel : Nat) (e3 : AV → Hp → Prop) (t0 : AV) (t1 : AV) (t4 : AV) (t12 : AV) (m : Nat) : s_slices_partitionEqualCmpFunc_api_IDL19 cf fuel e3 t0 t1 t4 t12 (m + 1) = s_slices_partitionEqualCmpFunc_api_IDL19B cf fuel e3 t0 t1 t4 t12 (s_slices_partitionEqualCmpFunc_api_IDL19 cf fuel e3 t0 t1 t4 t12 m) := rfl
noncomputable def s_slices_partitionEqualCmpFunc_api_IDL1B (cf : CallK) (fuel : Nat) (e0 : AV → Hp → Prop) (t0 : AV) (t1 : AV) (t4 : AV) (ih1 : AV → AV → Hp → Prop) : AV → AV → Hp → Prop := fun t11 t12 h =>
(fun (e2 : AV → AV → Hp → Prop) =>
(fun (e3 : AV → Hp → Prop) =>
s_slices_partitionEqualCmpFunc_api_IDL19 cf fuel (s_slices_partitionEqualCmpFunc_api_IDE3 cf fuel e0 ih1 t0 t1 t4 t12) t0 t1 t4 t12 fuel t11 h) (s_slices_partitionEqualCmpFunc_api_IDE3 cf fuel e0 ih1 t0 t1 t4 t12)) (s_slices_partitionEqualCmpFunc_api_IDE2 cf fuel ih1 t0 t1 t4)
noncomputable def s_slices_partitionEqualCmpFunc_api_IDL1 (cf : CallK) (fuel : Nat) (e0 : AV → Hp → Prop) (t0 : AV) (t1 : AV) (t4 : AV) (m : Nat) : AV → AV → Hp → Prop := Nat.rec (motive := fun _ => AV → AV → Hp → Prop) (fun _ _ _ => False) (fun _ ih => s_slices_partitionEqualCmpFunc_api_IDL1B cf fuel e0 t0 t1 t4 ih) m
theorem s_slices_partitionEqualCmpFunc_api_IDL1_succ (cf : CallK) (fuel : Nat) (e0 : AV → Hp → Prop) (t0 : AV) (t1 : AV) (t4 : AV) (m : Nat) : s_slices_partitionEqualCmpFunc_api_IDL1 cf fuel e0 t0 t1 t4 (m + 1) = s_slices_partitionEqualCmpFunc_api_IDL1B cf fuel e0 t0 t1 t4 (s_slices_partitionEqualCmpFunc_api_IDL1 cf fuel e0 t0 t1 t4 m) := rfl
noncomputable def s_slices_partitionEqualCmpFunc_api_ID (cf : CallK) (fuel : Nat) (t0 : AV) (t1 : AV) (t2 : AV) (t3 : AV) (t4 : AV) (h : Hp) (K : AV → Hp → Prop) : Prop :=
vIaddr 2 t0 t3 h fun t19 h =>
vLoadA 2 t19 h fun t20 h =>
vIaddr 2 t0 t1 h fun t23 h =>
vLoadA 2 t23 h fun t24 h =>
vIaddr 2 t0 t1 h fun t25 h =>
vStore 2 t25 t20 h fun _ h =>
vIaddr 2 t0 t3 h fun t26 h =>
vStore 2 t26 t24 h fun _ h =>
vAdd t1 (.int .i64 1) h fun t28 h =>
vArith Go.Am.subI t2 (.int .i64 1) h fun t30 h =>
(fun (e0 : AV → Hp → Prop) =>
s_slices_partitionEqualCmpFunc_api_IDL1 cf fuel (s_slices_partitionEqualCmpFunc_api_IDE0 cf fuel K) t0 t1 t4 fuel t28 t30 h) (s_slices_partitionEqualCmpFunc_api_IDE0 cf fuel K)
theorem s_slices_partitionEqualCmpFunc_api_ID_eq (cf : CallK) (fuel : Nat) (t0 : AV) (t1 : AV) (t2 : AV) (t3 : AV) (t4 : AV) (h : Hp) (K : AV → Hp → Prop) : s_slices_partitionEqualCmpFunc_api_ID cf fuel t0 t1 t2 t3 t4 h K = deepT (tabOf Try.prog) f_slices_partitionEqualCmpFunc_api_ID cf fuel [t0, t1, t2, t3, t4] h K :=
  Eq.trans (by kernel_rfl) (rFun (by kernel_rfl) (rSeq (by kernel_rfl) (rSeq (by kernel_rfl) (rSeq (by kernel_rfl) (rSeq (by kernel_rfl) rExact (rBlock (by kernel_rfl) (rLoop (by kernel_rfl) (fun m1 fr h => s_slices_partitionEqualCmpFunc_api_IDL1 cf fuel (s_slices_partitionEqualCmpFunc_api_IDE0 cf fuel K) (getS fr (gpos 0)) (getS fr (gpos 1)) (getS fr (gpos 4)) m1 (getS fr (gpos 11)) (getS fr (gpos 12)) h) (funext fun fr => funext fun h => by kernel_rfl) fun m1 => rCast (funext fun fr => funext fun h => by kernel_rfl) (rBlock (by kernel_rfl) (rSeq (by kernel_rfl) (rSeq (by kernel_rfl) rExact (rBlock (by kernel_rfl) (rLoop (by kernel_rfl) (fun m5 fr h => s_slices_partitionEqualCmpFunc_api_IDL5 cf fuel (s_slices_partitionEqualCmpFunc_api_IDE4 cf fuel (s_slices_partitionEqualCmpFunc_api_IDE0 cf fuel K) (s_slices_partitionEqualCmpFunc_api_IDE2 cf fuel (s_slices_partitionEqualCmpFunc_api_IDL1 cf fuel (s_slices_partitionEqualCmpFunc_api_IDE0 cf fuel K) (getS fr (gpos 0)) (getS fr (gpos 1)) (getS fr (gpos 4)) m1) (getS fr (gpos 0)) (getS fr (gpos 1)) (getS fr (gpos 4))) (getS fr (gpos 0)) (getS fr (gpos 1)) (getS fr (gpos 4)) (getS fr (gpos 11))) (getS fr (gpos 0)) (getS fr (gpos 1)) (getS fr (gpos 4)) (getS fr (gpos 11)) m5 (getS fr (gpos 12)) h) (funext fun fr => funext fun h => by kernel_rfl) fun m5 => rCast (funext fun fr => funext fun h => by kernel_rfl) rExact))) (rBlock (by kernel_rfl) (rLoop (by kernel_rfl) (fun m19 fr h => s_slices_partitionEqualCmpFunc_api_IDL19 cf fuel (s_slices_partitionEqualCmpFunc_api_IDE3 cf fuel (s_slices_partitionEqualCmpFunc_api_IDE0 cf fuel K) (s_slices_partitionEqualCmpFunc_api_IDL1 cf fuel (s_slices_partitionEqualCmpFunc_api_IDE0 cf fuel K) (getS fr (gpos 0)) (getS fr (gpos 1)) (getS fr (gpos 4)) m1) (getS fr (gpos 0)) (getS fr (gpos 1)) (getS fr (gpos 4)) (getS fr (gpos 12))) (getS fr (gpos 0)) (getS fr (gpos 1)) (getS fr (gpos 4)) (getS fr (gpos 12)) m19 (getS fr (gpos 11)) h) (funext fun fr => funext fun h => by kernel_rfl) fun m19 => rCast (funext fun fr => funext fun h => by kernel_rfl) rExact))))))) rExact) rExact) rExact))

noncomputable def s_slices_partitionCmpFunc_api_IDE2 (cf : CallK) (fuel : Nat) (K : AV → Hp → Prop) (t0 : AV) (t1 : AV) : AV → Hp → Prop := fun t13 h =>
vIaddr 2 t0 t1 h fun t169 h =>
vLoadA 2 t169 h fun t170 h =>
vIaddr 2 t0 t13 h fun t173 h =>
vLoadA 2 t173 h fun t174 h =>
vIaddr 2 t0 t13 h fun t175 h =>
vStore 2 t175 t170 h fun _ h =>
vIaddr 2 t0 t1 h fun t176 h =>
vStore 2 t176 t174 h fun _ h =>
K (.tup [t13, (.bool .false)]) h
noncomputable def s_slices_partitionCmpFunc_api_IDE4 (cf : CallK) (fuel : Nat) (ih3 : AV → AV → Hp → Prop) (t0 : AV) (t1 : AV) (t4 : AV) : AV → AV → Hp → Prop := fun t12 t13 h =>
ih3 t12 t13 h
noncomputable def s_slices_partitionCmpFunc_api_IDE6 (cf : CallK) (fuel : Nat) (e2 : AV → Hp → Prop) (e4 : AV → AV → Hp → Prop) (t0 : AV) (t1 : AV) (t4 : AV) (t12 : AV) : AV → Hp → Prop := fun t13 h =>
vGtr t12 t13 h fun t144 h =>
vIf t144 (
e2 t13 h) (
vIaddr 2 t0 t13 h fun t151 h =>
vLoadA 2 t151 h fun t152 h =>
vIaddr 2 t0 t12 h fun t155 h =>
vLoadA 2 t155 h fun t156 h =>
vIaddr 2 t0 t12 h fun t157 h =>
vStore 2 t157 t152 h fun _ h =>
vIaddr 2 t0 t13 h fun t158 h =>
vStore 2 t158 t156 h fun _ h =>
vAdd t12 (.int .i64 1) h fun t160 h =>
vArith Go.Am.subI t13 (.int .i64 1) h fun t162 h =>
e4 t160 t162 h)
noncomputable def s_slices_partitionCmpFunc_api_IDL7B (cf : CallK) (fuel : Nat) (e6 : AV → Hp → Prop) (t0 : AV) (t1 : AV) (t4 : AV) (t12 : AV) (ih7 : AV → Hp → Prop) : AV → Hp → Prop := fun t13 h =>
vLeq t12 t13 h fun t125 h =>
joinG (fun g21 => grdV t125 true (vMov t4 h g21) (g21 undefV h)) fun t127 h =>
joinG (fun g20 => grdV t125 true (vMov t0 h g20) (g20 undefV h)) fun t128 h =>
joinG (fun g19 => grdV t125 true (vMov t13 h g19) (g19 undefV h)) fun t129 h =>
joinG (fun g18 => grdV t125 true (vIaddr 2 t128 t129 h g18) (g18 undefV h)) fun t130 h =>
joinG (fun g17 => grdV t125 true (vLoadA 2 t130 h g17) (g17 undefV h)) fun t131 h =>
joinG (fun g16 => grdV t125 true (vMov t0 h g16) (g16 undefV h)) fun t132 h =>
joinG (fun g15 => grdV t125 true (vMov t1 h g15) (g15 undefV h)) fun t133 h =>
joinG (fun g14 => grdV t125 true (vIaddr 2 t132 t133 h g14) (g14 undefV h)) fun t134 h =>
joinG (fun g13 => grdV t125 true (vLoadA 2 t134 h g13) (g13 undefV h)) fun t135 h =>
joinG (fun g12 => grdV t125 true (vCallV t127 [t131, t135] cf h g12) (g12 undefV h)) fun t136 h =>
joinG (fun g11 => grdV t125 true (vLss t136 (.int .i64 0) h g11) (g11 undefV h)) fun t137 h =>
joinG (fun g10 => grdV t125 true (vNot t137 h g10) (g10 undefV h)) fun t138 h =>
vPick t125 t138 (.bool .false) h fun t139 h =>
vIf t139 (
(fun (e8 : AV → Hp → Prop) =>
vArith Go.Am.subI t13 (.int .i64 1) h fun t141 h =>
e8 t141 h) fun t13_9 h =>
ih7 t13_9 h) (
e6 t13 h)
noncomputable def s_slices_partitionCmpFunc_api_IDL7 (cf : CallK) (fuel : Nat) (e6 : AV → Hp → Prop) (t0 : AV) (t1 : AV) (t4 : AV) (t12 : AV) (m : Nat) : AV → Hp → Prop := Nat.rec (motive := fun _ => AV → Hp → Prop) (fun _ _ => False) (fun _ ih => s_slices_partitionCmpFunc_api_IDL7B cf fuel e6 t0 t1 t4 t12 ih) m
theorem s_slices_partitionCmpFunc_api_IDL7_succ (cf : CallK) (fuel : Nat) (e6 : AV → Hp → Prop) (t0 : AV) (t1 : AV) (t4 : AV) (t12 : AV) (m : Nat) : s_slices_partitionCmpFunc_api_IDL7 cf fuel e6 t0 t1 t4 t12 (m + 1) = s_slices_partitionCmpFunc_api_IDL7B cf fuel e6 t0 t1 t4 t12 (s_slices_partitionCmpFunc_api_IDL7 cf fuel e6 t0 t1 t4 t12 m) := rfl
noncomputable def s_slices_partitionCmpFunc_api_IDE5 (cf : CallK) (fuel : Nat) (e2 : AV → Hp → Prop) (ih3 : AV → AV → Hp → Prop) (t0 : AV) (t1 : AV) (t4 : AV) (t13 : AV) : AV → Hp → Prop := fun t12 h =>
(fun (e6 : AV → Hp → Prop) =>
s_slices_partitionCmpFunc_api_IDL7 cf fuel (s_slices_partitionCmpFunc_api_IDE6 cf fuel e2 (s_slices_partitionCmpFunc_api_IDE4 cf fuel ih3 t0 t1 t4) t0 t1 t4 t12) t0 t1 t4 t12 fuel t13 h) (s_slices_partitionCmpFunc_api_IDE6 cf fuel e2 (s_slices_partitionCmpFunc_api_IDE4 cf fuel ih3 t0 t1 t4) t0 t1 t4 t12)
noncomputable def s_slices_partitionCmpFunc_api_IDL22B (cf : CallK) (fuel : Nat) (e5 : AV → Hp → Prop) (t0 : AV) (t1 : AV) (t4 : AV) (t13 : AV) (ih22 : AV → Hp → Prop) : AV → Hp → Prop := fun t12 h =>
vLeq t12 t13 h fun t107 h =>
joinG (fun g35 => grdV t107 true (vMov t4 h g35) (g35 undefV h)) fun t109 h =>
joinG (fun g34 => grdV t107 true (vMov t0 h g34) (g34 undefV h)) fun t110 h =>
joinG (fun g33 => grdV t107 true (vMov t12 h g33) (g33 undefV h)) fun t111 h =>
joinG (fun g32 => grdV t107 true (vIaddr 2 t110 t111 h g32) (g32 undefV h)) fun t112 h =>
joinG (fun g31 => grdV t107 true (vLoadA 2 t112 h g31) (g31 undefV h)) fun t113 h =>
joinG (fun g30 => grdV t107 true (vMov t0 h g30) (g30 undefV h)) fun t114 h =>
joinG (fun g29 => grdV t107 true (vMov t1 h g29) (g29 undefV h)) fun t115 h =>
joinG (fun g28 => grdV t107 true (vIaddr 2 t114 t115 h g28) (g28 undefV h)) fun t116 h =>
joinG (fun g27 => grdV t107 true (vLoadA 2 t116 h g27) (g27 undefV h)) fun t117 h =>
joinG (fun g26 => grdV t107 true (vCallV t109 [t113, t117] cf h g26) (g26 undefV h)) fun t118 h =>
joinG (fun g25 => grdV t107 true (vLss t118 (.int .i64 0) h g25) (g25 undefV h)) fun t119 h =>
vPick t107 t119 (.bool .false) h fun t120 h =>
vIf t120 (
(fun (e23 : AV → Hp → Prop) =>
vAdd t12 (.int .i64 1) h fun t122 h =>
e23 t122 h) fun t12_24 h =>
ih22 t12_24 h) (
e5 t12 h)
noncomputable def s_slices_partitionCmpFunc_api_IDL22 (cf : CallK) (fuel : Nat) (e5 : AV → Hp → Prop) (t0 : AV) (t1 : AV) (t4 : AV) (t13 : AV) (m : Nat) : AV → Hp → Prop := Nat.rec (motive := fun _ => AV → Hp → Prop) (fun _ _ => False) (fun _ ih => s_slices_partitionCmpFunc_api_IDL22B cf fuel e5 t0 t1 t4 t13 ih) m
theorem s_slices_partitionCmpFunc_api_IDL22_succ (cf : CallK) (fuel : Nat) (e5 : AV → Hp → Prop) (t0 : AV) (t1 : AV) (t4 : AV) (t13 : AV) (m : Nat) : s_slices_partitionCmpFunc_api_IDL22 cf fuel e5 t0 t1 t4 t13 (m + 1) = s_slices_partitionCmpFunc_api_IDL22B cf fuel e5 t0 t1 t4 t13 (s_slices_partitionCmpFunc_api_IDL22 cf fuel e5 t0 t1 t4 t13 m) := rfl
noncomputable def s_slices_partitionCmpFunc_api_IDL3B (cf : CallK) (fuel : Nat) (e2 : AV → Hp → Prop) (t0 : AV) (t1 : AV) (t4 : AV) (ih3 : AV → AV → Hp → Prop) : AV → AV → Hp → Prop := fun t12 t13 h =>
(fun (e4 : AV → AV → Hp → Prop) =>
(fun (e5 : AV → Hp → Prop) =>
s_slices_partitionCmpFunc_api_IDL22 cf fuel (s_slices_partitionCmpFunc_api_IDE5 cf fuel e2 ih3 t0 t1 t4 t13) t0 t1 t4 t13 fuel t12 h) (s_slices_partitionCmpFunc_api_IDE5 cf fuel e2 ih3 t0 t1 t4 t13)) (s_slices_partitionCmpFunc_api_IDE4 cf fuel ih3 t0 t1 t4)
noncomputable def s_slices_partitionCmpFunc_api_IDL3 (cf : CallK) (fuel : Nat) (e2 : AV → Hp → Prop) (t0 : AV) (t1 : AV) (t4 : AV) (m : Nat) : AV → AV → Hp → Prop := Nat.rec (motive := fun _ => AV → AV → Hp → Prop) (fun _ _ _ => False) (fun _ ih => s_slices_partitionCmpFunc_api_IDL3B cf fuel e2 t0 t1 t4 ih) m
theorem s_slices_partitionCmpFunc_api_IDL3_succ (cf : CallK) (fuel : Nat) (e2 : AV → Hp → Prop) (t0 : AV) (t1 : AV) (t4 : AV) (m : Nat) : s_slices_partitionCmpFunc_api_IDL3 cf fuel e2 t0 t1 t4 (m + 1) = s_slices_partitionCmpFunc_api_IDL3B cf fuel e2 t0 t1 t4 (s_slices_partitionCmpFunc_api_IDL3 cf fuel e2 t0 t1 t4 m) := rfl
noncomputable def s_slices_partitionCmpFunc_api_IDE1 (cf : CallK) (fuel : Nat) (K : AV → Hp → Prop) (t0 : AV) (t1 : AV) (t4 : AV) (t12 : AV) : AV → Hp → Prop := fun t13 h =>
vGtr t12 t13 h fun t71 h =>
vIf t71 (
vIaddr 2 t0 t1 h fun t78 h =>
vLoadA 2 t78 h fun t79 h =>
vIaddr 2 t0 t13 h fun t82 h =>
vLoadA 2 t82 h fun t83 h =>
vIaddr 2 t0 t13 h fun t84 h =>
vStore 2 t84 t79 h fun _ h =>
vIaddr 2 t0 t1 h fun t85 h =>
vStore 2 t85 t83 h fun _ h =>
K (.tup [t13, (.bool .true)]) h) (
vIaddr 2 t0 t13 h fun t93 h =>
vLoadA 2 t93 h fun t94 h =>
vIaddr 2 t0 t12 h fun t97 h =>
vLoadA 2 t97 h fun t98 h =>
vIaddr 2 t0 t12 h fun t99 h =>
vStore 2 t99 t94 h fun _ h =>
vIaddr 2 t0 t13 h fun t100 h =>
vStore 2 t100 t98 h fun _ h =>
vAdd t12 (.int .i64 1) h fun t102 h =>
vArith Go.Am.subI t13 (.int .i64 1) h fun t104 h =>
(fun (e2 : AV → Hp → Prop) =>
s_slices_partitionCmpFunc_api_IDL3 cf fuel (s_slices_partitionCmpFunc_api_IDE2 cf fuel K t0 t1) t0 t1 t4 fuel t102 t104 h) (s_slices_partitionCmpFunc_api_IDE2 cf fuel K t0 t1))
noncomputable def s_slices_partitionCmpFunc_api_IDL36B (cf : CallK) (fuel : Nat) (e1 : AV → Hp → Prop) (t0 : AV) (t1 : AV) (t4 : AV) (t12 : AV) (ih36 : AV → Hp → Prop) : AV → Hp → Prop := fun t13 h =>
vLeq t12 t13 h fun t52 h =>
joinG (fun g50 => grdV t52 true (vMov t4 h g50) (g50 undefV h)) fun t54 h =>
joinG (fun g49 => grdV t52 true (vMov t0 h g49) (g49 undefV h)) fun t55 h =>
joinG (fun g48 => grdV t52 true (vMov t13 h g48) (g48 undefV h)) fun t56 h =>
joinG (fun g47 => grdV t52 true (vIaddr 2 t55 t56 h g47) (g47 undefV h)) fun t57 h =>
joinG (fun g46 => grdV t52 true (vLoadA 2 t57 h g46) (g46 undefV h)) fun t58 h =>
joinG (fun g45 => grdV t52 true (vMov t0 h g45) (g45 undefV h)) fun t59 h =>
joinG (fun g44 => grdV t52 true (vMov t1 h g44) (g44 undefV h)) fun t60 h =>
joinG (fun g43 => grdV t52 true (vIaddr 2 t59 t60 h g43) (g43 undefV h)) fun t61 h =>
joinG (fun g42 => grdV t52 true (vLoadA 2 t61 h g42) (g42 undefV h)) fun t62 h =>
joinG (fun g41 => grdV t52 true (vCallV t54 [t58, t62] cf h g41) (g41 undefV h)) fun t63 h =>
joinG (fun g40 => grdV t52 true (vLss t63 (.int .i64 0) h g40) (g40 undefV h)) fun t64 h =>
joinG (fun g39 => grdV t52 true (vNot t64 h g39) (g39 undefV h)) fun t65 h =>
vPick t52 t65 (.bool .false) h fun t66 h =>
vIf t66 (
(fun (e37 : AV → Hp → Prop) =>
vArith Go.Am.subI t13 (.int .i64 1) h fun t68 h =>
e37 t68 h) fun t13_38 h =>
ih36 t13_38 h) (
e1 t13 h)
noncomputable def s_slices_partitionCmpFunc_api_IDL36 (cf : CallK) (fuel : Nat) (e1 : AV → Hp → Prop) (t0 : AV) (t1 : AV) (t4 : AV) (t12 : AV) (m : Nat) : AV → Hp → Prop := Nat.rec (motive := fun _ => AV → Hp → Prop) (fun _ _ => False) (fun _ ih => s_slices_partitionCmpFunc_api_IDL36B cf fuel e1 t0 t1 t4 t12 ih) m
theorem s_slices_partitionCmpFunc_api_IDL36_succ (cf : CallK) (fuel : Nat) (e1 : AV → Hp → Prop) (t0 : AV) (t1 : AV) (t4 : AV) (t12 : AV) (m : Nat) : s_slices_partitionCmpFunc_api_IDL36 cf fuel e1 t0 t1 t4 t12 (m + 1) = s_slices_partitionCmpFunc_api_IDL36B cf fuel e1 t0 t1 t4 t12 (s_slices_partitionCmpFunc_api_IDL36 cf fuel e1 t0 t1 t4 t12 m) := rfl
noncomputable def s_slices_partitionCmpFunc_api_IDE0 (cf : CallK) (fuel : Nat) (K : AV → Hp → Prop) (t0 : AV) (t1 : AV) (t4 : AV) (t13 : AV) : AV → Hp → Prop := fun t12 h =>
(fun (e1 : AV → Hp → Prop) =>
s_slices_partitionCmpFunc_api_IDL36 cf fuel (s_slices_partitionCmpFunc_api_IDE1 cf fuel K t0 t1 t4 t12) t0 t1 t4 t12 fuel t13 h) (s_slices_partitionCmpFunc_api_IDE1 cf fuel K t0 t1 t4 t12)
noncomputable def s_slices_partitionCmpFunc_api_IDL51B (cf : CallK) (fuel : Nat) (e0 : AV → Hp → Prop) (t0 : AV) (t1 : AV) (t4 : AV) (t13 : AV) (ih51 : AV → Hp → Prop) : AV → Hp → Prop := fun t12 h =>
vLeq t12 t13 h fun t34 h =>
joinG (fun g64 => grdV t34 true (vMov t4 h g64) (g64 undefV h)) fun t36 h =>
joinG (fun g63 => grdV t34 true (vMov t0 h g63) (g63 undefV h)) fun t37 h =>
joinG (fun g62 => grdV t34 true (vMov t12 h g62) (g62 undefV h)) fun t38 h =>
joinG (fun g61 => grdV t34 true (vIaddr 2 t37 t38 h g61) (g61 undefV h)) fun t39 h =>
joinG (fun g60 => grdV t34 true (vLoadA 2 t39 h g60) (g60 undefV h)) fun t40 h =>
joinG (fun g59 => grdV t34 true (vMov t0 h g59) (g59 undefV h)) fun t41 h =>
joinG (fun g58 => grdV t34 true (vMov t1 h g58) (g58 undefV h)) fun t42 h =>
joinG (fun g57 => grdV t34 true (vIaddr 2 t41 t42 h g57) (g57 undefV h)) fun t43 h =>
joinG (fun g56 => grdV t34 true (vLoadA 2 t43 h g56) (g56 undefV h)) fun t44 h =>
joinG (fun g55 => grdV t34 true (vCallV t36 [t40, t44] cf h g55) (g55 undefV h)) fun t45 h =>
joinG (fun g54 => grdV t34 true (vLss t45 (.int .i64 0) h g54) (g54 undefV h)) fun t46 h =>
vPick t34 t46 (.bool .false) h fun t47 h =>
vIf t47 (
(fun (e52 : AV → Hp → Prop) =>
vAdd t12 (.int .i64 1) h fun t49 h =>
e52 t49 h) fun t12_53 h =>
ih51 t12_53 h) (
e0 t12 h)
noncomputable def s_slices_partitionCmpFunc_api_IDL51 (cf : CallK) (fuel : Nat) (e0 : AV → Hp → Prop) (t0 : AV) (t1 : AV) (t4 : AV) (t13 : AV) (m : Nat) : AV → Hp → Prop := Nat.rec (motive := fun _ => AV → Hp → Prop) (fun _ _ => False) (fun _ ih => s_slices_partitionCmpFunc_api_IDL51B cf fuel e0 t0 t1 t4 t13 ih) m
theorem s_slices_partitionCmpFunc_api_IDL51_succ (cf : CallK) (fuel : Nat) (e0 : AV → Hp → Prop) (t0 : AV) (t1 : AV) (t4 : AV) (t13 : AV) (m : Nat) : s_slices_partitionCmpFunc_api_IDL51 cf fuel e0 t0 t1 t4 t13 (m + 1) = s_slices_partitionCmpFunc_api_IDL51B cf fuel e0 t0 t1 t4 t13 (s_slices_partitionCmpFunc_api_IDL51 cf fuel e0 t0 t1 t4 t13 m) := rfl
noncomputable def s_slices_partitionCmpFunc_api_ID (cf : CallK) (fuel : Nat) (t0 : AV) (t1 : AV) (t2 : AV) (t3 : AV) (t4 : AV) (h : Hp) (K : AV → Hp → Prop) : Prop :=
vIaddr 2 t0 t3 h fun t20 h =>
vLoadA 2 t20 h fun t21 h =>
vIaddr 2 t0 t1 h fun t24 h =>
vLoadA 2 t24 h fun t25 h =>
vIaddr 2 t0 t1 h fun t26 h =>
vStore 2 t26 t21 h fun _ h =>
vIaddr 2 t0 t3 h fun t27 h =>
vStore 2 t27 t25 h fun _ h =>
vAdd t1 (.int .i64 1) h fun t29 h =>
vArith Go.Am.subI t2 (.int .i64 1) h fun t31 h =>
(fun (e0 : AV → Hp → Prop) =>
s_slices_partitionCmpFunc_api_IDL51 cf fuel (s_slices_partitionCmpFunc_api_IDE0 cf fuel K t0 t1 t4 t31) t0 t1 t4 t31 fuel t29 h) (s_slices_partitionCmpFunc_api_IDE0 cf fuel K t0 t1 t4 t31)
theorem s_slices_partitionCmpFunc_api_ID_eq (cf : CallK) (fuel : Nat) (t0 : AV) (t1 : AV) (t2 : AV) (t3 : AV) (t4 : AV) (h : Hp) (K : AV → Hp → Prop) : s_slices_partitionCmpFunc_api_ID cf fuel t0 t1 t2 t3 t4 h K = deepT (tabOf Try.prog) f_slices_partitionCmpFunc_api_ID cf fuel [t0, t1, t2, t3, t4] h K :=
  Eq.trans (by kernel_rfl) (rFun (by kernel_rfl) (rSeq (by kernel_rfl) (rSeq (by kernel_rfl) (rSeq (by kernel_rfl) (rSeq (by kernel_rfl) (rSeq (by kernel_rfl) (rSeq (by kernel_rfl) (rSeq (by kernel_rfl) (rSeq (by kernel_rfl) (rSeq (by kernel_rfl) (rSeq (by kernel_rfl) rExact (rBlock (by kernel_rfl) (rLoop (by kernel_rfl) (fun m3 fr h => s_slices_partitionCmpFunc_api_IDL3 cf fuel (s_slices_partitionCmpFunc_api_IDE2 cf fuel K (getS fr (gpos 0)) (getS fr (gpos 1))) (getS fr (gpos 0)) (getS fr (gpos 1)) (getS fr (gpos 4)) m3 (getS fr (gpos 12)) (getS fr (gpos 13)) h) (funext fun fr => funext fun h => by kernel_rfl) fun m3 => rCast (funext fun fr => funext fun h => by kernel_rfl) (rBlock (by kernel_rfl) (rSeq (by kernel_rfl) (rSeq (by kernel_rfl) rExact (rBlock (by kernel_rfl) (rLoop (by kernel_rfl) (fun m7 fr h => s_slices_partitionCmpFunc_api_IDL7 cf fuel (s_slices_partitionCmpFunc_api_IDE6 cf fuel (s_slices_partitionCmpFunc_api_IDE2 cf fuel K (getS fr (gpos 0)) (getS fr (gpos 1))) (s_slices_partitionCmpFunc_api_IDE4 cf fuel (s_slices_partitionCmpFunc_api_IDL3 cf fuel (s_slices_partitionCmpFunc_api_IDE2 cf fuel K (getS fr (gpos 0)) (getS fr (gpos 1))) (getS fr (gpos 0)) (getS fr (gpos 1)) (getS fr (gpos 4)) m3) (getS fr (gpos 0)) (getS fr (gpos 1)) (getS fr (gpos 4))) (getS fr (gpos 0)) (getS fr (gpos 1)) (getS fr (gpos 4)) (getS fr (gpos 12))) (getS fr (gpos 0)) (getS fr (gpos 1)) (getS fr (gpos 4)) (getS fr (gpos 12)) m7 (getS fr (gpos 13)) h) (funext fun fr => funext fun h => by kernel_rfl) fun m7 => rCast (funext fun fr => funext fun h => by kernel_rfl) rExact))) (rBlock (by kernel_rfl) (rLoop (by kernel_rfl) (fun m22 fr h => s_slices_partitionCmpFunc_api_IDL22 cf fuel (s_slices_partitionCmpFunc_api_IDE5 cf fuel (s_slices_partitionCmpFunc_api_IDE2 cf fuel K (getS fr (gpos 0)) (getS fr (gpos 1))) (s_slices_partitionCmpFunc_api_IDL3 cf fuel (s_slices_partitionCmpFunc_api_IDE2 cf fuel K (getS fr (gpos 0)) (getS fr (gpos 1))) (getS fr (gpos 0)) (getS fr (gpos 1)) (getS fr (gpos 4)) m3) (getS fr (gpos 0)) (getS fr (gpos 1)) (getS fr (gpos 4)) (getS fr (gpos 13))) (getS fr (gpos 0)) (getS fr (gpos 1)) (getS fr (gpos 4)) (getS fr (gpos 13)) m22 (getS fr (gpos 12)) h) (funext fun fr => funext fun h => by kernel_rfl) fun m22 => rCast (funext fun fr => funext fun h => by kernel_rfl) rExact))))))) rExact) rExact) rExact) rExact) (rBlock (by kernel_rfl) (rLoop (by kernel_rfl) (fun m36 fr h => s_slices_partitionCmpFunc_api_IDL36 cf fuel (s_slices_partitionCmpFunc_api_IDE1 cf fuel K (getS fr (gpos 0)) (getS fr (gpos 1)) (getS fr (gpos 4)) (getS fr (gpos 12))) (getS fr (gpos 0)) (getS fr (gpos 1)) (getS fr (gpos 4)) (getS fr (gpos 12)) m36 (getS fr (gpos 13)) h) (funext fun fr => funext fun h => by kernel_rfl) fun m36 => rCast (funext fun fr => funext fun h => by kernel_rfl) rExact))) (rBlock (by kernel_rfl) (rLoop (by kernel_rfl) (fun m51 fr h => s_slices_partitionCmpFunc_api_IDL51 cf fuel (s_slices_partitionCmpFunc_api_IDE0 cf fuel K (getS fr (gpos 0)) (getS fr (gpos 1)) (getS fr (gpos 4)) (getS fr (gpos 13))) (getS fr (gpos 0)) (getS fr (gpos 1)) (getS fr (gpos 4)) (getS fr (gpos 13)) m51 (getS fr (gpos 12)) h) (funext fun fr => funext fun h => by kernel_rfl) fun m51 => rCast (funext fun fr => funext fun h => by kernel_rfl) rExact))) rExact) rExact) rExact))

noncomputable def s_container_heap_InitE0 (cf : CallK) (fuel : Nat) (K : AV → Hp → Prop) : Hp → Prop := fun h =>
K (.tup []) h
noncomputable def s_container_heap_InitL1B (cf : CallK) (fuel : Nat) (e0 : Hp → Prop) (t0 : AV) (t2 : AV) (ih1 : AV → Hp → Prop) : AV → Hp → Prop := fun t3 h =>
vGeq t3 (.int .i64 0) h fun t10 h =>
vIf t10 (
(fun (e2 : Hp → Prop) =>
cf f_container_heap_down [t0, t3, t2] h fun t16 h =>
e2 h) fun h =>
vArith Go.Am.subI t3 (.int .i64 1) h fun t12 h =>
ih1 t12 h) (
e0 h)
noncomputable def s_container_heap_InitL1 (cf : CallK) (fuel : Nat) (e0 : Hp → Prop) (t0 : AV) (t2 : AV) (m : Nat) : AV → Hp → Prop := Nat.rec (motive := fun _ => AV → Hp → Prop) (fun _ _ => False) (fun _ ih => s_container_heap_InitL1B cf fuel e0 t0 t2 ih) m
theorem s_container_heap_InitL1_succ (cf : CallK) (fuel : Nat) (e0 : Hp → Prop) (t0 : AV) (t2 : AV) (m : Nat) : s_container_heap_InitL1 cf fuel e0 t0 t2 (m + 1) = s_container_heap_InitL1B cf fuel e0 t0 t2 (s_container_heap_InitL1 cf fuel e0 t0 t2 m) := rfl
noncomputable def s_container_heap_Init (cf : CallK) (fuel : Nat) (t0 : AV) (h : Hp) (K : AV → Hp → Prop) : Prop :=
vCallM t0 (selOf Try.prog "Len") [] cf h fun t5 h =>
vDiv false t5 (.int .i64 2) h fun t7 h =>
vArith Go.Am.subI t7 (.int .i64 1) h fun t8 h =>
(fun (e0 : Hp → Prop) =>
s_container_heap_InitL1 cf fuel (s_container_heap_InitE0 cf fuel K) t0 t5 fuel t8 h) (s_container_heap_InitE0 cf fuel K)
theorem s_container_heap_Init_eq (cf : CallK) (fuel : Nat) (t0 : AV) (h : Hp) (K : AV → Hp → Prop) : s_container_heap_Init cf fuel t0 h K = deepT (tabOf Try.prog) f_container_heap_Init cf fuel [t0] h K :=
  Eq.trans (by kernel_rfl) (rFun (by kernel_rfl) (rSeq (by kernel_rfl) (rSeq (by kernel_rfl) (rBlock (by kernel_rfl) (rLoop (by kernel_rfl) (fun m1 fr h => s_container_heap_InitL1 cf fuel (s_container_heap_InitE0 cf fuel K) (getS fr (gpos 0)) (getS fr (gpos 2)) m1 (getS fr (gpos 3)) h) (funext fun fr => funext fun h => by kernel_rfl) fun m1 => rCast (funext fun fr => funext fun h => by kernel_rfl) rExact)) rExact) rExact))

noncomputable def s_container_heap_Pop (cf : CallK) (fuel : Nat) (t0 : AV) (h : Hp) (K : AV → Hp → Prop) : Prop :=
vCallM t0 (selOf Try.prog "Len") [] cf h fun t5 h =>
vArith Go.Am.subI t5 (.int .i64 1) h fun t6 h =>
vCallM t0 (selOf Try.prog "Swap") [(.int .i64 0), t6] cf h fun t9 h =>
cf f_container_heap_down [t0, (.int .i64 0), t6] h fun t12 h =>
vCallM t0 (selOf Try.prog "Pop") [] cf h fun t14 h =>
K t14 h
theorem s_container_heap_Pop_eq (cf : CallK) (fuel : Nat) (t0 : AV) (h : Hp) (K : AV → Hp → Prop) : s_container_heap_Pop cf fuel t0 h K = deepT (tabOf Try.prog) f_container_heap_Pop cf fuel [t0] h K :=
  Eq.trans (by kernel_rfl) (rFun (by kernel_rfl) rExact)

noncomputable def s_crc_New (cf : CallK) (fuel : Nat) (h : Hp) (K : AV → Hp → Prop) : Prop :=
vBuild [(.int .u32 0)] [] h fun t1 h =>
vBox 1 t1 h fun t2 h =>
K t2 h
theorem s_crc_New_eq (cf : CallK) (fuel : Nat) (h : Hp) (K : AV → Hp → Prop) : s_crc_New cf fuel h K = deepT (tabOf Try.prog) f_crc_New cf fuel [] h K :=
  Eq.trans (by kernel_rfl) (rFun (by kernel_rfl) rExact)

noncomputable def s_crc_eachE0 (cf : CallK) (fuel : Nat) (K : AV → Hp → Prop) : Hp → Prop := fun h =>
K (.tup []) h
noncomputable def s_crc_eachL1B (cf : CallK) (fuel : Nat) (e0 : Hp → Prop) (t1 : AV) (t6 : AV) (t7 : AV) (ih1 : AV → Hp → Prop) : AV → Hp → Prop := fun t8 h =>
vLss t8 t7 h fun t9 h =>
vIf t9 (
(fun (e2 : Hp → Prop) =>
vIaddr 1 t6 t8 h fun t10 h =>
vLoad2 t10 h fun t11 h =>
vCallV t1 [t11] cf h fun t14 h =>
e2 h) fun h =>
vAdd t8 (.int .i64 1) h fun t15 h =>
ih1 t15 h) (
e0 h)
noncomputable def s_crc_eachL1 (cf : CallK) (fuel : Nat) (e0 : Hp → Prop) (t1 : AV) (t6 : AV) (t7 : AV) (m : Nat) : AV → Hp → Prop := Nat.rec (motive := fun _ => AV → Hp → Prop) (fun _ _ => False) (fun _ ih => s_crc_eachL1B cf fuel e0 t1 t6 t7 ih) m
theorem s_crc_eachL1_succ (cf : CallK) (fuel : Nat) (e0 : Hp → Prop) (t1 : AV) (t6 : AV) (t7 : AV) (m : Nat) : s_crc_eachL1 cf fuel e0 t1 t6 t7 (m + 1) = s_crc_eachL1B cf fuel e0 t1 t6 t7 (s_crc_eachL1 cf fuel e0 t1 t6 t7 m) := rfl
noncomputable def s_crc_each (cf : CallK) (fuel : Nat) (t0 : AV) (t1 : AV) (h : Hp) (K : AV → Hp → Prop) : Prop :=
vLenL2 t0 h fun t7 h =>
(fun (e0 : Hp → Prop) =>
s_crc_eachL1 cf fuel (s_crc_eachE0 cf fuel K) t1 t0 t7 fuel (.int .i64 0) h) (s_crc_eachE0 cf fuel K)
theorem s_crc_each_eq (cf : CallK) (fuel : Nat) (t0 : AV) (t1 : AV) (h : Hp) (K : AV → Hp → Prop) : s_crc_each cf fuel t0 t1 h K = deepT (tabOf Try.prog) f_crc_each cf fuel [t0, t1] h K :=
  Eq.trans (by kernel_rfl) (rFun (by kernel_rfl) (rSeq (by kernel_rfl) (rBlock (by kernel_rfl) (rLoop (by kernel_rfl) (fun m1 fr h => s_crc_eachL1 cf fuel (s_crc_eachE0 cf fuel K) (getS fr (gpos 1)) (getS fr (gpos 6)) (getS fr (gpos 7)) m1 (getS fr (gpos 8)) h) (funext fun fr => funext fun h => by kernel_rfl) fun m1 => rCast (funext fun fr => funext fun h => by kernel_rfl) rExact)) rExact))

noncomputable def s_crc_Sum_AddE1 (cf : CallK) (fuel : Nat) (K : AV → Hp → Prop) (t0 : AV) : AV → Hp → Prop := fun t7 h =>
vCom t7 h fun t64 h =>
vNilck t0 h fun t65 h =>
vFaddr 0 t65 h fun t66 h =>
vStore 1 t66 t64 h fun _ h =>
K (.tup []) h
noncomputable def s_crc_Sum_AddB4 (cf : CallK) (fuel : Nat) (ih2 : AV → AV → Hp → Prop) (t4 : AV) (t37 : AV) (t7 : AV) (t39 : AV) (h : Hp) : Prop :=
(fun (e3 : AV → Hp → Prop) =>
vIaddr 1 t37 t39 h fun t41 h =>
vLoad2 t41 h fun t42 h =>
vToInt .u32 t42 h fun t45 h =>
vBits Nat.xor t7 t45 h fun t46 h =>
vShr t46 (.int .u64 4) h fun t48 h =>
vBits Nat.land t46 (.int .u32 15) h fun t50 h =>
vIaddrA 1 16 t4 t50 h fun t51 h =>
vLoad2 t51 h fun t52 h =>
vBits Nat.xor t48 t52 h fun t53 h =>
vShr t53 (.int .u64 4) h fun t55 h =>
vBits Nat.land t53 (.int .u32 15) h fun t57 h =>
vIaddrA 1 16 t4 t57 h fun t58 h =>
vLoad2 t58 h fun t59 h =>
vBits Nat.xor t55 t59 h fun t60 h =>
e3 t60 h) fun t7 h =>
vAdd t39 (.int .i64 1) h fun t61 h =>
ih2 t7 t61 h
noncomputable def s_crc_Sum_AddL2B (cf : CallK) (fuel : Nat) (e1 : AV → Hp → Prop) (t0 : AV) (t4 : AV) (t37 : AV) (t38 : AV) (ih2 : AV → AV → Hp → Prop) : AV → AV → Hp → Prop := fun t7 t39 h =>
vLss t39 t38 h fun t40 h =>
vIf t40 (
s_crc_Sum_AddB4 cf fuel ih2 t4 t37 t7 t39 h) (
e1 t7 h)
noncomputable def s_crc_Sum_AddL2 (cf : CallK) (fuel : Nat) (e1 : AV → Hp → Prop) (t0 : AV) (t4 : AV) (t37 : AV) (t38 : AV) (m : Nat) : AV → AV → Hp → Prop := Nat.rec (motive := fun _ => AV → AV → Hp → Prop) (fun _ _ _ => False) (fun _ ih => s_crc_Sum_AddL2B cf fuel e1 t0 t4 t37 t38 ih) m
theorem s_crc_Sum_AddL2_succ (cf : CallK) (fuel : Nat) (e1 : AV → Hp → Prop) (t0 : AV) (t4 : AV) (t37 : AV) (t38 : AV) (m : Nat) : s_crc_Sum_AddL2 cf fuel e1 t0 t4 t37 t38 (m + 1) = s_crc_Sum_AddL2B cf fuel e1 t0 t4 t37 t38 (s_crc_Sum_AddL2 cf fuel e1 t0 t4 t37 t38 m) := rfl
noncomputable def s_crc_Sum_AddE0 (cf : CallK) (fuel : Nat) (K : AV → Hp → Prop) (t0 : AV) (t1 : AV) (t4 : AV) : Hp → Prop := fun h =>
vNilck t0 h fun t33 h =>
vFaddr 0 t33 h fun t34 h =>
vLoad2 t34 h fun t35 h =>
vCom t35 h fun t36 h =>
vLenL2 t1 h fun t38 h =>
(fun (e1 : AV → Hp → Prop) =>
s_crc_Sum_AddL2 cf fuel (s_crc_Sum_AddE1 cf fuel K t0) t0 t4 t1 t38 fuel t36 (.int .i64 0) h) (s_crc_Sum_AddE1 cf fuel K t0)
noncomputable def s_crc_Sum_AddE6 (cf : CallK) (fuel : Nat) (ih5 : AV → Hp → Prop) (t0 : AV) (t1 : AV) (t4 : AV) (t13 : AV) : Hp → Prop := fun h =>
vAdd t13 (.int .i64 1) h fun t31 h =>
ih5 t31 h
noncomputable def s_crc_Sum_AddE7 (cf : CallK) (fuel : Nat) (e6 : Hp → Prop) (t0 : AV) (t1 : AV) (t4 : AV) (t5 : AV) (t13 : AV) : AV → Hp → Prop := fun t6 h =>
vIaddrA 1 16 t4 t5 h fun t30 h =>
vStore 1 t30 t6 h fun _ h =>
e6 h
noncomputable def s_crc_Sum_AddL8B (cf : CallK) (fuel : Nat) (e7 : AV → Hp → Prop) (t0 : AV) (t1 : AV) (t4 : AV) (t5 : AV) (t13 : AV) (ih8 : AV → AV → Hp → Prop) : AV → AV → Hp → Prop := fun t6 t18 h =>
vLss t18 (.int .i64 4) h fun t19 h =>
vIf t19 (
(fun (e9 : AV → Hp → Prop) =>
vShr t6 (.int .u64 1) h fun t21 h =>
vBits Nat.land t6 (.int .u32 1) h fun t23 h =>
vNeg t23 h fun t24 h =>
vBits Nat.land (.int .u32 3988292384) t24 h fun t25 h =>
vBits Nat.xor t21 t25 h fun t26 h =>
e9 t26 h) fun t6 h =>
vAdd t18 (.int .i64 1) h fun t27 h =>
ih8 t6 t27 h) (
e7 t6 h)
noncomputable def s_crc_Sum_AddL8 (cf : CallK) (fuel : Nat) (e7 : AV → Hp → Prop) (t0 : AV) (t1 : AV) (t4 : AV) (t5 : AV) (t13 : AV) (m : Nat) : AV → AV → Hp → Prop := Nat.rec (motive := fun _ => AV → AV → Hp → Prop) (fun _ _ _ => False) (fun _ ih => s_crc_Sum_AddL8B cf fuel e7 t0 t1 t4 t5 t13 ih) m
theorem s_crc_Sum_AddL8_succ (cf : CallK) (fuel : Nat) (e7 : AV → Hp → Prop) (t0 : AV) (t1 : AV) (t4 : AV) (t5 : AV) (t13 : AV) (m : Nat) : s_crc_Sum_AddL8 cf fuel e7 t0 t1 t4 t5 t13 (m + 1) = s_crc_Sum_AddL8B cf fuel e7 t0 t1 t4 t5 t13 (s_crc_Sum_AddL8 cf fuel e7 t0 t1 t4 t5 t13 m) := rfl
noncomputable def s_crc_Sum_AddL5B (cf : CallK) (fuel : Nat) (e0 : Hp → Prop) (t0 : AV) (t1 : AV) (t4 : AV) (ih5 : AV → Hp → Prop) : AV → Hp → Prop := fun t13 h =>
vLss t13 (.int .i64 16) h fun t14 h =>
vIf t14 (
(fun (e6 : Hp → Prop) =>
vToInt .u32 t13 h fun t17 h =>
(fun (e7 : AV → Hp → Prop) =>
s_crc_Sum_AddL8 cf fuel (s_crc_Sum_AddE7 cf fuel (s_crc_Sum_AddE6 cf fuel ih5 t0 t1 t4 t13) t0 t1 t4 t13 t13) t0 t1 t4 t13 t13 fuel t17 (.int .i64 0) h) (s_crc_Sum_AddE7 cf fuel (s_crc_Sum_AddE6 cf fuel ih5 t0 t1 t4 t13) t0 t1 t4 t13 t13)) (s_crc_Sum_AddE6 cf fuel ih5 t0 t1 t4 t13)) (
e0 h)
noncomputable def s_crc_Sum_AddL5 (cf : CallK) (fuel : Nat) (e0 : Hp → Prop) (t0 : AV) (t1 : AV) (t4 : AV) (m : Nat) : AV → Hp → Prop := Nat.rec (motive := fun _ => AV → Hp → Prop) (fun _ _ => False) (fun _ ih => s_crc_Sum_AddL5B cf fuel e0 t0 t1 t4 ih) m
theorem s_crc_Sum_AddL5_succ (cf : CallK) (fuel : Nat) (e0 : Hp → Prop) (t0 : AV) (t1 : AV) (t4 : AV) (m : Nat) : s_crc_Sum_AddL5 cf fuel e0 t0 t1 t4 (m + 1) = s_crc_Sum_AddL5B cf fuel e0 t0 t1 t4 (s_crc_Sum_AddL5 cf fuel e0 t0 t1 t4 m) := rfl
noncomputable def s_crc_Sum_Add (cf : CallK) (fuel : Nat) (t0 : AV) (t1 : AV) (h : Hp) (K : AV → Hp → Prop) : Prop :=
vEq false eqP t0 .nilptr h fun t11 h =>
vIf t11 (
K (.tup []) h) (
vBuild [(.int .u32 0), (.int .u32 0), (.int .u32 0), (.int .u32 0), (.int .u32 0), (.int .u32 0), (.int .u32 0), (.int .u32 0), (.int .u32 0), (.int .u32 0), (.int .u32 0), (.int .u32 0), (.int .u32 0), (.int .u32 0), (.int .u32 0), (.int .u32 0)] [] h fun t12 h =>
vBox 16 (.agg [(.int .u32 0), (.int .u32 0), (.int .u32 0), (.int .u32 0), (.int .u32 0), (.int .u32 0), (.int .u32 0), (.int .u32 0), (.int .u32 0), (.int .u32 0), (.int .u32 0), (.int .u32 0), (.int .u32 0), (.int .u32 0), (.int .u32 0), (.int .u32 0)]) h fun t4 h =>
vStore 16 t4 t12 h fun _ h =>
(fun (e0 : Hp → Prop) =>
s_crc_Sum_AddL5 cf fuel (s_crc_Sum_AddE0 cf fuel K t0 t1 t4) t0 t1 t4 fuel (.int .i64 0) h) (s_crc_Sum_AddE0 cf fuel K t0 t1 t4))
theorem s_crc_Sum_Add_eq (cf : CallK) (fuel : Nat) (t0 : AV) (t1 : AV) (h : Hp) (K : AV → Hp → Prop) : s_crc_Sum_Add cf fuel t0 t1 h K = deepT (tabOf Try.prog) f_crc_Sum_Add cf fuel [t0, t1] h K :=
  Eq.trans (by kernel_rfl) (rFun (by kernel_rfl) (rSeq (by kernel_rfl) (rSeq (by kernel_rfl) (rSeq (by kernel_rfl) (rSeq (by kernel_rfl) (rSeq (by kernel_rfl) rExact (rSeq (by kernel_rfl) (rBlock (by kernel_rfl) (rLoop (by kernel_rfl) (fun m2 fr h => s_crc_Sum_AddL2 cf fuel (s_crc_Sum_AddE1 cf fuel K (getS fr (gpos 0))) (getS fr (gpos 0)) (getS fr (gpos 4)) (getS fr (gpos 37)) (getS fr (gpos 38)) m2 (getS fr (gpos 7)) (getS fr (gpos 39)) h) (funext fun fr => funext fun h => by kernel_rfl) fun m2 => rCast (funext fun fr => funext fun h => by kernel_rfl) rExact)) rExact)) rExact) (rSeq (by kernel_rfl) (rBlock (by kernel_rfl) (rLoop (by kernel_rfl) (fun m5 fr h => s_crc_Sum_AddL5 cf fuel (s_crc_Sum_AddE0 cf fuel K (getS fr (gpos 0)) (getS fr (gpos 1)) (getS fr (gpos 4))) (getS fr (gpos 0)) (getS fr (gpos 1)) (getS fr (gpos 4)) m5 (getS fr (gpos 13)) h) (funext fun fr => funext fun h => by kernel_rfl) fun m5 => rCast (funext fun fr => funext fun h => by kernel_rfl) (rSeq (by kernel_rfl) (rSeq (by kernel_rfl) (rSeq (by kernel_rfl) rExact (rBlock (by kernel_rfl) (rSeq (by kernel_rfl) (rSeq (by kernel_rfl) (rSeq (by kernel_rfl) rExact (rSeq (by kernel_rfl) (rBlock (by kernel_rfl) (rLoop (by kernel_rfl) (fun m8 fr h => s_crc_Sum_AddL8 cf fuel (s_crc_Sum_AddE7 cf fuel (s_crc_Sum_AddE6 cf fuel (s_crc_Sum_AddL5 cf fuel (s_crc_Sum_AddE0 cf fuel K (getS fr (gpos 0)) (getS fr (gpos 1)) (getS fr (gpos 4))) (getS fr (gpos 0)) (getS fr (gpos 1)) (getS fr (gpos 4)) m5) (getS fr (gpos 0)) (getS fr (gpos 1)) (getS fr (gpos 4)) (getS fr (gpos 13))) (getS fr (gpos 0)) (getS fr (gpos 1)) (getS fr (gpos 4)) (getS fr (gpos 5)) (getS fr (gpos 13))) (getS fr (gpos 0)) (getS fr (gpos 1)) (getS fr (gpos 4)) (getS fr (gpos 5)) (getS fr (gpos 13)) m8 (getS fr (gpos 6)) (getS fr (gpos 18)) h) (funext fun fr => funext fun h => by kernel_rfl) fun m8 => rCast (funext fun fr => funext fun h => by kernel_rfl) rExact)) rExact)) rExact) rExact))) rExact) rExact))) rExact)) rExact) rExact))

noncomputable def s_crc_Sum_Value (cf : CallK) (fuel : Nat) (t0 : AV) (h : Hp) (K : AV → Hp → Prop) : Prop :=
vEq false eqP t0 .nilptr h fun t4 h =>
vIf t4 (
K (.int .u32 0) h) (
vNilck t0 h fun t6 h =>
vFaddr 0 t6 h fun t7 h =>
vLoad2 t7 h fun t8 h =>
K t8 h)
theorem s_crc_Sum_Value_eq (cf : CallK) (fuel : Nat) (t0 : AV) (h : Hp) (K : AV → Hp → Prop) : s_crc_Sum_Value cf fuel t0 h K = deepT (tabOf Try.prog) f_crc_Sum_Value cf fuel [t0] h K :=
  Eq.trans (by kernel_rfl) (rFun (by kernel_rfl) rExact)


end Go.Proofs.Ytnegmbnkccngoaa.sh4
