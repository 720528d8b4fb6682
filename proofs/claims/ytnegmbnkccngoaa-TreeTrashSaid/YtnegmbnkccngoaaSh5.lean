/- The Go functions' code as the abstract machine's, over values; each is the code that the machine makes of the program's (theorems s_.._eq). No condition. -/
import Derived.Test.YtnegmbnkccngoaaAmC
import Derived.Test.YtnegmbnkccngoaaProg
import Derived.KernelRfl
namespace Go.Proofs.Ytnegmbnkccngoaa.sh5
open Go Go.Am Go.Proofs
set_option linter.unusedVariables false
set_option maxRecDepth 100000
abbrev f_cmp_Less_int : Nat := 97
abbrev f_container_heap_down : Nat := 132
abbrev f_int_bytealg_Cutover : Nat := 141
abbrev f_int_stringslite_IndexByte : Nat := 143
abbrev f_math_bits_Len : Nat := 66
abbrev f_slices_medianAdjacentCmpFunc_api_ID : Nat := 130
abbrev f_slices_medianAdjacentOrdered_int : Nat := 126
abbrev f_slices_medianCmpFunc_api_ID : Nat := 131
abbrev f_slices_medianOrdered_int : Nat := 127
abbrev f_slices_nextPowerOfTwo : Nat := 124
abbrev f_slices_order2CmpFunc_api_ID : Nat := 138
abbrev f_slices_order2Ordered_int : Nat := 133
abbrev f_slices_siftDownCmpFunc_api_ID : Nat := 129
abbrev f_slices_siftDownOrdered_int : Nat := 123
abbrev f_slices_xorshift_Next : Nat := 125
abbrev f_strings_IndexAny : Nat := 128
abbrev f_strings_IndexByte : Nat := 139
abbrev f_strings_IndexRune : Nat := 134
abbrev f_strings_asciiSet_contains : Nat := 137
abbrev f_strings_makeASCIISet : Nat := 136
abbrev f_strings_shouldUseASCIISet : Nat := 135
abbrev f_unicode_utf8_ValidRune : Nat := 140

noncomputable def s_slices_siftDownOrdered_intE0 (cf : CallK) (fuel : Nat) (K : AV → Hp → Prop) : Hp → Prop := fun h =>
K (.tup []) h
noncomputable def s_slices_siftDownOrdered_intB18 (cf : CallK) (fuel : Nat) (K : AV → Hp → Prop) (e2 : AV → Hp → Prop) (t2 : AV) (t13 : AV) (t8 : AV) (t0 : AV) (t3 : AV) (h : Hp) : Prop :=
(fun (j3 : AV → Hp → Prop) =>
vAdd t13 (.int .i64 1) h fun t18 h =>
vLss t18 t2 h fun t20 h =>
joinG (fun g17 => grdV t20 true (vMov t0 h g17) (g17 undefV h)) fun t22 h =>
joinG (fun g16 => grdV t20 true (vMov t3 h g16) (g16 undefV h)) fun t23 h =>
joinG (fun g15 => grdV t20 true (vMov t13 h g15) (g15 undefV h)) fun t24 h =>
joinG (fun g14 => grdV t20 true (vAdd t23 t24 h g14) (g14 undefV h)) fun t25 h =>
joinG (fun g13 => grdV t20 true (vIaddr 1 t22 t25 h g13) (g13 undefV h)) fun t26 h =>
joinG (fun g12 => grdV t20 true (vLoad2 t26 h g12) (g12 undefV h)) fun t27 h =>
joinG (fun g11 => grdV t20 true (vMov t0 h g11) (g11 undefV h)) fun t28 h =>
joinG (fun g10 => grdV t20 true (vMov t3 h g10) (g10 undefV h)) fun t29 h =>
joinG (fun g9 => grdV t20 true (vMov t13 h g9) (g9 undefV h)) fun t30 h =>
joinG (fun g8 => grdV t20 true (vAdd t29 t30 h g8) (g8 undefV h)) fun t31 h =>
joinG (fun g7 => grdV t20 true (vAdd t31 (.int .i64 1) h g7) (g7 undefV h)) fun t32 h =>
joinG (fun g6 => grdV t20 true (vIaddr 1 t28 t32 h g6) (g6 undefV h)) fun t33 h =>
joinG (fun g5 => grdV t20 true (vLoad2 t33 h g5) (g5 undefV h)) fun t34 h =>
joinG (fun g4 => grdV t20 true (cf f_cmp_Less_int [t27, t34] h g4) (g4 undefV h)) fun t35 h =>
vPick t20 t35 (.bool .false) h fun t36 h =>
vIf t36 (
vAdd t13 (.int .i64 1) h fun t38 h =>
j3 t38 h) (
j3 t13 h)) fun t9 h =>
vAdd t3 t8 h fun t42 h =>
vIaddr 1 t0 t42 h fun t43 h =>
vLoad2 t43 h fun t44 h =>
vAdd t3 t9 h fun t48 h =>
vIaddr 1 t0 t48 h fun t49 h =>
vLoad2 t49 h fun t50 h =>
cf f_cmp_Less_int [t44, t50] h fun t51 h =>
vNot t51 h fun t52 h =>
vIf t52 (
K (.tup []) h) (
vAdd t3 t8 h fun t56 h =>
vAdd t3 t9 h fun t60 h =>
vAdd t3 t9 h fun t64 h =>
vIaddr 1 t0 t64 h fun t65 h =>
vLoad2 t65 h fun t66 h =>
vAdd t3 t8 h fun t70 h =>
vIaddr 1 t0 t70 h fun t71 h =>
vLoad2 t71 h fun t72 h =>
vIaddr 1 t0 t56 h fun t73 h =>
vStore 1 t73 t66 h fun _ h =>
vIaddr 1 t0 t60 h fun t74 h =>
vStore 1 t74 t72 h fun _ h =>
e2 t9 h)
noncomputable def s_slices_siftDownOrdered_intL1B (cf : CallK) (fuel : Nat) (K : AV → Hp → Prop) (e0 : Hp → Prop) (t0 : AV) (t2 : AV) (t3 : AV) (ih1 : AV → Hp → Prop) : AV → Hp → Prop := fun t8 h =>
(fun (e2 : AV → Hp → Prop) =>
vArith Go.Am.mulI (.int .i64 2) t8 h fun t12 h =>
vAdd t12 (.int .i64 1) h fun t13 h =>
vGeq t13 t2 h fun t16 h =>
vIf t16 (
e0 h) (
s_slices_siftDownOrdered_intB18 cf fuel K e2 t2 t13 t8 t0 t3 h)) fun t8 h =>
ih1 t8 h
noncomputable def s_slices_siftDownOrdered_intL1 (cf : CallK) (fuel : Nat) (K : AV → Hp → Prop) (e0 : Hp → Prop) (t0 : AV) (t2 : AV) (t3 : AV) (m : Nat) : AV → Hp → Prop := Nat.rec (motive := fun _ => AV → Hp → Prop) (fun _ _ => False) (fun _ ih => s_slices_siftDownOrdered_intL1B cf fuel K e0 t0 t2 t3 ih) m
theorem s_slices_siftDownOrdered_intL1_succ (cf : CallK) (fuel : Nat) (K : AV → Hp → Prop) (e0 : Hp → Prop) (t0 : AV) (t2 : AV) (t3 : AV) (m : Nat) : s_slices_siftDownOrdered_intL1 cf fuel K e0 t0 t2 t3 (m + 1) = s_slices_siftDownOrdered_intL1B cf fuel K e0 t0 t2 t3 (s_slices_siftDownOrdered_intL1 cf fuel K e0 t0 t2 t3 m) := rfl
noncomputable def s_slices_siftDownOrdered_int (cf : CallK) (fuel : Nat) (t0 : AV) (t1 : AV) (t2 : AV) (t3 : AV) (h : Hp) (K : AV → Hp → Prop) : Prop :=
(fun (e0 : Hp → Prop) =>
s_slices_siftDownOrdered_intL1 cf fuel K (s_slices_siftDownOrdered_intE0 cf fuel K) t0 t2 t3 fuel t1 h) (s_slices_siftDownOrdered_intE0 cf fuel K)
theorem s_slices_siftDownOrdered_int_eq (cf : CallK) (fuel : Nat) (t0 : AV) (t1 : AV) (t2 : AV) (t3 : AV) (h : Hp) (K : AV → Hp → Prop) : s_slices_siftDownOrdered_int cf fuel t0 t1 t2 t3 h K = deepT (tabOf Try.prog) f_slices_siftDownOrdered_int cf fuel [t0, t1, t2, t3] h K :=
  Eq.trans (by kernel_rfl) (rFun (by kernel_rfl) (rSeq (by kernel_rfl) (rBlock (by kernel_rfl) (rLoop (by kernel_rfl) (fun m1 fr h => s_slices_siftDownOrdered_intL1 cf fuel K (s_slices_siftDownOrdered_intE0 cf fuel K) (getS fr (gpos 0)) (getS fr (gpos 2)) (getS fr (gpos 3)) m1 (getS fr (gpos 8)) h) (funext fun fr => funext fun h => by kernel_rfl) fun m1 => rCast (funext fun fr => funext fun h => by kernel_rfl) rExact)) rExact))

noncomputable def s_slices_nextPowerOfTwo (cf : CallK) (fuel : Nat) (t0 : AV) (h : Hp) (K : AV → Hp → Prop) : Prop :=
vToInt .u64 t0 h fun t4 h =>
cf f_math_bits_Len [t4] h fun t5 h =>
vShl (.int .u64 1) t5 h fun t6 h =>
K t6 h
theorem s_slices_nextPowerOfTwo_eq (cf : CallK) (fuel : Nat) (t0 : AV) (h : Hp) (K : AV → Hp → Prop) : s_slices_nextPowerOfTwo cf fuel t0 h K = deepT (tabOf Try.prog) f_slices_nextPowerOfTwo cf fuel [t0] h K :=
  Eq.trans (by kernel_rfl) (rFun (by kernel_rfl) rExact)

noncomputable def s_slices_xorshift_Next (cf : CallK) (fuel : Nat) (t0 : AV) (h : Hp) (K : AV → Hp → Prop) : Prop :=
vNilck t0 h fun t4 h =>
vLoad2 t4 h fun t5 h =>
vNilck t0 h fun t7 h =>
vLoad2 t7 h fun t8 h =>
vShl t8 (.int .u64 13) h fun t9 h =>
vBits Nat.xor t5 t9 h fun t10 h =>
vNilck t0 h fun t11 h =>
vStore 1 t11 t10 h fun _ h =>
vNilck t0 h fun t13 h =>
vLoad2 t13 h fun t14 h =>
vNilck t0 h fun t16 h =>
vLoad2 t16 h fun t17 h =>
vShr t17 (.int .u64 7) h fun t18 h =>
vBits Nat.xor t14 t18 h fun t19 h =>
vNilck t0 h fun t20 h =>
vStore 1 t20 t19 h fun _ h =>
vNilck t0 h fun t22 h =>
vLoad2 t22 h fun t23 h =>
vNilck t0 h fun t25 h =>
vLoad2 t25 h fun t26 h =>
vShl t26 (.int .u64 17) h fun t27 h =>
vBits Nat.xor t23 t27 h fun t28 h =>
vNilck t0 h fun t29 h =>
vStore 1 t29 t28 h fun _ h =>
vNilck t0 h fun t31 h =>
vLoad2 t31 h fun t32 h =>
K t32 h
theorem s_slices_xorshift_Next_eq (cf : CallK) (fuel : Nat) (t0 : AV) (h : Hp) (K : AV → Hp → Prop) : s_slices_xorshift_Next cf fuel t0 h K = deepT (tabOf Try.prog) f_slices_xorshift_Next cf fuel [t0] h K :=
  Eq.trans (by kernel_rfl) (rFun (by kernel_rfl) rExact)

noncomputable def s_slices_medianAdjacentOrdered_int (cf : CallK) (fuel : Nat) (t0 : AV) (t1 : AV) (t2 : AV) (h : Hp) (K : AV → Hp → Prop) : Prop :=
vArith Go.Am.subI t1 (.int .i64 1) h fun t9 h =>
vAdd t1 (.int .i64 1) h fun t12 h =>
cf f_slices_medianOrdered_int [t0, t9, t1, t12, t2] h fun t14 h =>
K t14 h
theorem s_slices_medianAdjacentOrdered_int_eq (cf : CallK) (fuel : Nat) (t0 : AV) (t1 : AV) (t2 : AV) (h : Hp) (K : AV → Hp → Prop) : s_slices_medianAdjacentOrdered_int cf fuel t0 t1 t2 h K = deepT (tabOf Try.prog) f_slices_medianAdjacentOrdered_int cf fuel [t0, t1, t2] h K :=
  Eq.trans (by kernel_rfl) (rFun (by kernel_rfl) rExact)

noncomputable def s_slices_medianOrdered_int (cf : CallK) (fuel : Nat) (t0 : AV) (t1 : AV) (t2 : AV) (t3 : AV) (t4 : AV) (h : Hp) (K : AV → Hp → Prop) : Prop :=
cf f_slices_order2Ordered_int [t0, t1, t2, t4] h fun t16 h =>
vExtract 0 t16 h fun t17 h =>
vExtract 1 t16 h fun t18 h =>
cf f_slices_order2Ordered_int [t0, t18, t3, t4] h fun t24 h =>
vExtract 0 t24 h fun t25 h =>
vExtract 1 t24 h fun t26 h =>
cf f_slices_order2Ordered_int [t0, t17, t25, t4] h fun t32 h =>
vExtract 0 t32 h fun t33 h =>
vExtract 1 t32 h fun t34 h =>
K t34 h
theorem s_slices_medianOrdered_int_eq (cf : CallK) (fuel : Nat) (t0 : AV) (t1 : AV) (t2 : AV) (t3 : AV) (t4 : AV) (h : Hp) (K : AV → Hp → Prop) : s_slices_medianOrdered_int cf fuel t0 t1 t2 t3 t4 h K = deepT (tabOf Try.prog) f_slices_medianOrdered_int cf fuel [t0, t1, t2, t3, t4] h K :=
  Eq.trans (by kernel_rfl) (rFun (by kernel_rfl) rExact)

noncomputable def s_strings_IndexAnyE2 (cf : CallK) (fuel : Nat) (K : AV → Hp → Prop) : Hp → Prop := fun h =>
K (.int .i64 (-1)) h
noncomputable def s_strings_IndexAnyL3B (cf : CallK) (fuel : Nat) (K : AV → Hp → Prop) (e2 : Hp → Prop) (t1 : AV) (t45 : AV) (ih3 : Hp → Prop) : Hp → Prop := fun h =>
vNextS t45 h fun t46 h =>
vExtract 0 t46 h fun t47 h =>
vIf t47 (
(fun (e4 : Hp → Prop) =>
vExtract 1 t46 h fun t48 h =>
vExtract 2 t46 h fun t49 h =>
cf f_strings_IndexRune [t1, t49] h fun t52 h =>
vGeq t52 (.int .i64 0) h fun t53 h =>
vIf t53 (
K t48 h) (
e4 h)) fun h =>
ih3 h) (
e2 h)
noncomputable def s_strings_IndexAnyL3 (cf : CallK) (fuel : Nat) (K : AV → Hp → Prop) (e2 : Hp → Prop) (t1 : AV) (t45 : AV) (m : Nat) : Hp → Prop := Nat.rec (motive := fun _ => Hp → Prop) (fun _ => False) (fun _ ih => s_strings_IndexAnyL3B cf fuel K e2 t1 t45 ih) m
theorem s_strings_IndexAnyL3_succ (cf : CallK) (fuel : Nat) (K : AV → Hp → Prop) (e2 : Hp → Prop) (t1 : AV) (t45 : AV) (m : Nat) : s_strings_IndexAnyL3 cf fuel K e2 t1 t45 (m + 1) = s_strings_IndexAnyL3B cf fuel K e2 t1 t45 (s_strings_IndexAnyL3 cf fuel K e2 t1 t45 m) := rfl
noncomputable def s_strings_IndexAnyJ1 (cf : CallK) (fuel : Nat) (K : AV → Hp → Prop) (t0 : AV) (t1 : AV) : Hp → Prop := fun h =>
vRangeS t0 h fun t45 h =>
(fun (e2 : Hp → Prop) =>
s_strings_IndexAnyL3 cf fuel K (s_strings_IndexAnyE2 cf fuel K) t1 t45 fuel h) (s_strings_IndexAnyE2 cf fuel K)
noncomputable def s_strings_IndexAnyE5 (cf : CallK) (fuel : Nat) (K : AV → Hp → Prop) : Hp → Prop := fun h =>
K (.int .i64 (-1)) h
noncomputable def s_strings_IndexAnyL6B (cf : CallK) (fuel : Nat) (K : AV → Hp → Prop) (e5 : Hp → Prop) (t0 : AV) (t6 : AV) (ih6 : AV → Hp → Prop) : AV → Hp → Prop := fun t8 h =>
vLenS t0 h fun t35 h =>
vLss t8 t35 h fun t36 h =>
vIf t36 (
(fun (e7 : Hp → Prop) =>
vIdxS t0 t8 h fun t41 h =>
cf f_strings_asciiSet_contains [t6, t41] h fun t42 h =>
vIf t42 (
K t8 h) (
e7 h)) fun h =>
vAdd t8 (.int .i64 1) h fun t38 h =>
ih6 t38 h) (
e5 h)
noncomputable def s_strings_IndexAnyL6 (cf : CallK) (fuel : Nat) (K : AV → Hp → Prop) (e5 : Hp → Prop) (t0 : AV) (t6 : AV) (m : Nat) : AV → Hp → Prop := Nat.rec (motive := fun _ => AV → Hp → Prop) (fun _ _ => False) (fun _ ih => s_strings_IndexAnyL6B cf fuel K e5 t0 t6 ih) m
theorem s_strings_IndexAnyL6_succ (cf : CallK) (fuel : Nat) (K : AV → Hp → Prop) (e5 : Hp → Prop) (t0 : AV) (t6 : AV) (m : Nat) : s_strings_IndexAnyL6 cf fuel K e5 t0 t6 (m + 1) = s_strings_IndexAnyL6B cf fuel K e5 t0 t6 (s_strings_IndexAnyL6 cf fuel K e5 t0 t6 m) := rfl
noncomputable def s_strings_IndexAnyB8 (cf : CallK) (fuel : Nat) (K : AV → Hp → Prop) (t1 : AV) (t0 : AV) (h : Hp) : Prop :=
vLenS t1 h fun t14 h =>
vEql t14 (.int .i64 1) h fun t15 h =>
vIf t15 (
vIdxS t1 (.int .i64 0) h fun t17 h =>
vToInt .i32 t17 h fun t18 h =>
(fun (j0 : AV → Hp → Prop) =>
vGeq t18 (.int .i32 128) h fun t20 h =>
vIf t20 (
j0 (.int .i32 65533) h) (
j0 t18 h)) fun t5 h =>
cf f_strings_IndexRune [t0, t5] h fun t23 h =>
K t23 h) (
(fun (j1 : Hp → Prop) =>
vLenS t0 h fun t25 h =>
cf f_strings_shouldUseASCIISet [t25] h fun t26 h =>
vIf t26 (
cf f_strings_makeASCIISet [t1] h fun t29 h =>
vExtract 0 t29 h fun t30 h =>
vExtract 1 t29 h fun t31 h =>
vBox 256 (.agg (List.replicate 256 (.bool .false))) h fun t6 h =>
vStore 256 t6 t30 h fun _ h =>
vIf t31 (
(fun (e5 : Hp → Prop) =>
s_strings_IndexAnyL6 cf fuel K (s_strings_IndexAnyE5 cf fuel K) t0 t6 fuel (.int .i64 0) h) (s_strings_IndexAnyE5 cf fuel K)) (
j1 h)) (
j1 h)) (s_strings_IndexAnyJ1 cf fuel K t0 t1))
noncomputable def s_strings_IndexAny (cf : CallK) (fuel : Nat) (t0 : AV) (t1 : AV) (h : Hp) (K : AV → Hp → Prop) : Prop :=
vEql t1 (.str 0 0) h fun t12 h =>
vIf t12 (
K (.int .i64 (-1)) h) (
s_strings_IndexAnyB8 cf fuel K t1 t0 h)
theorem s_strings_IndexAny_eq (cf : CallK) (fuel : Nat) (t0 : AV) (t1 : AV) (h : Hp) (K : AV → Hp → Prop) : s_strings_IndexAny cf fuel t0 t1 h K = deepT (tabOf Try.prog) f_strings_IndexAny cf fuel [t0, t1] h K :=
  Eq.trans (by kernel_rfl) (rFun (by kernel_rfl) (rSeq (by kernel_rfl) (rSeq (by kernel_rfl) (rSeq (by kernel_rfl) (rSeq (by kernel_rfl) (rSeq (by kernel_rfl) rExact (rSeq (by kernel_rfl) (rBlock (by kernel_rfl) (rLoop (by kernel_rfl) (fun m3 fr h => s_strings_IndexAnyL3 cf fuel K (s_strings_IndexAnyE2 cf fuel K) (getS fr (gpos 1)) (getS fr (gpos 45)) m3 h) (funext fun fr => funext fun h => by kernel_rfl) fun m3 => rCast (funext fun fr => funext fun h => by kernel_rfl) rExact)) rExact)) (rSeq (by kernel_rfl) (rCond (by kernel_rfl) (rSeq (by kernel_rfl) (rSeq (by kernel_rfl) (rCond (by kernel_rfl) (rSeq (by kernel_rfl) rExact (rSeq (by kernel_rfl) (rBlock (by kernel_rfl) (rLoop (by kernel_rfl) (fun m6 fr h => s_strings_IndexAnyL6 cf fuel K (s_strings_IndexAnyE5 cf fuel K) (getS fr (gpos 0)) (getS fr (gpos 6)) m6 (getS fr (gpos 8)) h) (funext fun fr => funext fun h => by kernel_rfl) fun m6 => rCast (funext fun fr => funext fun h => by kernel_rfl) rExact)) rExact)) rExact) rExact) rExact) rExact) rExact)) rExact) rExact) rExact))

noncomputable def s_slices_siftDownCmpFunc_api_IDE0 (cf : CallK) (fuel : Nat) (K : AV → Hp → Prop) : Hp → Prop := fun h =>
K (.tup []) h
noncomputable def s_slices_siftDownCmpFunc_api_IDB20 (cf : CallK) (fuel : Nat) (K : AV → Hp → Prop) (e2 : AV → Hp → Prop) (t2 : AV) (t15 : AV) (t10 : AV) (t0 : AV) (t3 : AV) (t4 : AV) (h : Hp) : Prop :=
(fun (j3 : AV → Hp → Prop) =>
vAdd t15 (.int .i64 1) h fun t20 h =>
vLss t20 t2 h fun t22 h =>
joinG (fun g19 => grdV t22 true (vMov t4 h g19) (g19 undefV h)) fun t24 h =>
joinG (fun g18 => grdV t22 true (vMov t0 h g18) (g18 undefV h)) fun t25 h =>
joinG (fun g17 => grdV t22 true (vMov t3 h g17) (g17 undefV h)) fun t26 h =>
joinG (fun g16 => grdV t22 true (vMov t15 h g16) (g16 undefV h)) fun t27 h =>
joinG (fun g15 => grdV t22 true (vAdd t26 t27 h g15) (g15 undefV h)) fun t28 h =>
joinG (fun g14 => grdV t22 true (vIaddr 2 t25 t28 h g14) (g14 undefV h)) fun t29 h =>
joinG (fun g13 => grdV t22 true (vLoadA 2 t29 h g13) (g13 undefV h)) fun t30 h =>
joinG (fun g12 => grdV t22 true (vMov t0 h g12) (g12 undefV h)) fun t31 h =>
joinG (fun g11 => grdV t22 true (vMov t3 h g11) (g11 undefV h)) fun t32 h =>
joinG (fun g10 => grdV t22 true (vMov t15 h g10) (g10 undefV h)) fun t33 h =>
joinG (fun g9 => grdV t22 true (vAdd t32 t33 h g9) (g9 undefV h)) fun t34 h =>
joinG (fun g8 => grdV t22 true (vAdd t34 (.int .i64 1) h g8) (g8 undefV h)) fun t35 h =>
joinG (fun g7 => grdV t22 true (vIaddr 2 t31 t35 h g7) (g7 undefV h)) fun t36 h =>
joinG (fun g6 => grdV t22 true (vLoadA 2 t36 h g6) (g6 undefV h)) fun t37 h =>
joinG (fun g5 => grdV t22 true (vCallV t24 [t30, t37] cf h g5) (g5 undefV h)) fun t38 h =>
joinG (fun g4 => grdV t22 true (vLss t38 (.int .i64 0) h g4) (g4 undefV h)) fun t39 h =>
vPick t22 t39 (.bool .false) h fun t40 h =>
vIf t40 (
vAdd t15 (.int .i64 1) h fun t42 h =>
j3 t42 h) (
j3 t15 h)) fun t11 h =>
vAdd t3 t10 h fun t47 h =>
vIaddr 2 t0 t47 h fun t48 h =>
vLoadA 2 t48 h fun t49 h =>
vAdd t3 t11 h fun t53 h =>
vIaddr 2 t0 t53 h fun t54 h =>
vLoadA 2 t54 h fun t55 h =>
vCallV t4 [t49, t55] cf h fun t56 h =>
vLss t56 (.int .i64 0) h fun t57 h =>
vNot t57 h fun t58 h =>
vIf t58 (
K (.tup []) h) (
vAdd t3 t10 h fun t62 h =>
vAdd t3 t11 h fun t66 h =>
vAdd t3 t11 h fun t70 h =>
vIaddr 2 t0 t70 h fun t71 h =>
vLoadA 2 t71 h fun t72 h =>
vAdd t3 t10 h fun t76 h =>
vIaddr 2 t0 t76 h fun t77 h =>
vLoadA 2 t77 h fun t78 h =>
vIaddr 2 t0 t62 h fun t79 h =>
vStore 2 t79 t72 h fun _ h =>
vIaddr 2 t0 t66 h fun t80 h =>
vStore 2 t80 t78 h fun _ h =>
e2 t11 h)
noncomputable def s_slices_siftDownCmpFunc_api_IDL1B (cf : CallK) (fuel : Nat) (K : AV → Hp → Prop) (e0 : Hp → Prop) (t0 : AV) (t2 : AV) (t3 : AV) (t4 : AV) (ih1 : AV → Hp → Prop) : AV → Hp → Prop := fun t10 h =>
(fun (e2 : AV → Hp → Prop) =>
vArith Go.Am.mulI (.int .i64 2) t10 h fun t14 h =>
vAdd t14 (.int .i64 1) h fun t15 h =>
vGeq t15 t2 h fun t18 h =>
vIf t18 (
e0 h) (
s_slices_siftDownCmpFunc_api_IDB20 cf fuel K e2 t2 t15 t10 t0 t3 t4 h)) fun t10 h =>
ih1 t10 h
noncomputable def s_slices_siftDownCmpFunc_api_IDL1 (cf : CallK) (fuel : Nat) (K : AV → Hp → Prop) (e0 : Hp → Prop) (t0 : AV) (t2 : AV) (t3 : AV) (t4 : AV) (m : Nat) : AV → Hp → Prop := Nat.rec (motive := fun _ => AV → Hp → Prop) (fun _ _ => False) (fun _ ih => s_slices_siftDownCmpFunc_api_IDL1B cf fuel K e0 t0 t2 t3 t4 ih) m
theorem s_slices_siftDownCmpFunc_api_IDL1_succ (cf : CallK) (fuel : Nat) (K : AV → Hp → Prop) (e0 : Hp → Prop) (t0 : AV) (t2 : AV) (t3 : AV) (t4 : AV) (m : Nat) : s_slices_siftDownCmpFunc_api_IDL1 cf fuel K e0 t0 t2 t3 t4 (m + 1) = s_slices_siftDownCmpFunc_api_IDL1B cf fuel K e0 t0 t2 t3 t4 (s_slices_siftDownCmpFunc_api_IDL1 cf fuel K e0 t0 t2 t3 t4 m) := rfl
noncomputable def s_slices_siftDownCmpFunc_api_ID (cf : CallK) (fuel : Nat) (t0 : AV) (t1 : AV) (t2 : AV) (t3 : AV) (t4 : AV) (h : Hp) (K : AV → Hp → Prop) : Prop :=
(fun (e0 : Hp → Prop) =>
s_slices_siftDownCmpFunc_api_IDL1 cf fuel K (s_slices_siftDownCmpFunc_api_IDE0 cf fuel K) t0 t2 t3 t4 fuel t1 h) (s_slices_siftDownCmpFunc_api_IDE0 cf fuel K)
theorem s_slices_siftDownCmpFunc_api_ID_eq (cf : CallK) (fuel : Nat) (t0 : AV) (t1 : AV) (t2 : AV) (t3 : AV) (t4 : AV) (h : Hp) (K : AV → Hp → Prop) : s_slices_siftDownCmpFunc_api_ID cf fuel t0 t1 t2 t3 t4 h K = deepT (tabOf Try.prog) f_slices_siftDownCmpFunc_api_ID cf fuel [t0, t1, t2, t3, t4] h K :=
  Eq.trans (by kernel_rfl) (rFun (by kernel_rfl) (rSeq (by kernel_rfl) (rBlock (by kernel_rfl) (rLoop (by kernel_rfl) (fun m1 fr h => s_slices_siftDownCmpFunc_api_IDL1 cf fuel K (s_slices_siftDownCmpFunc_api_IDE0 cf fuel K) (getS fr (gpos 0)) (getS fr (gpos 2)) (getS fr (gpos 3)) (getS fr (gpos 4)) m1 (getS fr (gpos 10)) h) (funext fun fr => funext fun h => by kernel_rfl) fun m1 => rCast (funext fun fr => funext fun h => by kernel_rfl) rExact)) rExact))

noncomputable def s_slices_medianAdjacentCmpFunc_api_ID (cf : CallK) (fuel : Nat) (t0 : AV) (t1 : AV) (t2 : AV) (t3 : AV) (h : Hp) (K : AV → Hp → Prop) : Prop :=
vArith Go.Am.subI t1 (.int .i64 1) h fun t11 h =>
vAdd t1 (.int .i64 1) h fun t14 h =>
cf f_slices_medianCmpFunc_api_ID [t0, t11, t1, t14, t2, t3] h fun t17 h =>
K t17 h
theorem s_slices_medianAdjacentCmpFunc_api_ID_eq (cf : CallK) (fuel : Nat) (t0 : AV) (t1 : AV) (t2 : AV) (t3 : AV) (h : Hp) (K : AV → Hp → Prop) : s_slices_medianAdjacentCmpFunc_api_ID cf fuel t0 t1 t2 t3 h K = deepT (tabOf Try.prog) f_slices_medianAdjacentCmpFunc_api_ID cf fuel [t0, t1, t2, t3] h K :=
  Eq.trans (by kernel_rfl) (rFun (by kernel_rfl) rExact)

noncomputable def s_slices_medianCmpFunc_api_ID (cf : CallK) (fuel : Nat) (t0 : AV) (t1 : AV) (t2 : AV) (t3 : AV) (t4 : AV) (t5 : AV) (h : Hp) (K : AV → Hp → Prop) : Prop :=
cf f_slices_order2CmpFunc_api_ID [t0, t1, t2, t4, t5] h fun t19 h =>
vExtract 0 t19 h fun t20 h =>
vExtract 1 t19 h fun t21 h =>
cf f_slices_order2CmpFunc_api_ID [t0, t21, t3, t4, t5] h fun t28 h =>
vExtract 0 t28 h fun t29 h =>
vExtract 1 t28 h fun t30 h =>
cf f_slices_order2CmpFunc_api_ID [t0, t20, t29, t4, t5] h fun t37 h =>
vExtract 0 t37 h fun t38 h =>
vExtract 1 t37 h fun t39 h =>
K t39 h
theorem s_slices_medianCmpFunc_api_ID_eq (cf : CallK) (fuel : Nat) (t0 : AV) (t1 : AV) (t2 : AV) (t3 : AV) (t4 : AV) (t5 : AV) (h : Hp) (K : AV → Hp → Prop) : s_slices_medianCmpFunc_api_ID cf fuel t0 t1 t2 t3 t4 t5 h K = deepT (tabOf Try.prog) f_slices_medianCmpFunc_api_ID cf fuel [t0, t1, t2, t3, t4, t5] h K :=
  Eq.trans (by kernel_rfl) (rFun (by kernel_rfl) rExact)

noncomputable def s_container_heap_downE0 (cf : CallK) (fuel : Nat) (K : AV → Hp → Prop) (t1 : AV) : AV → Hp → Prop := fun t7 h =>
vGtr t7 t1 h fun t47 h =>
K t47 h
noncomputable def s_container_heap_downB8 (cf : CallK) (fuel : Nat) (e0 : AV → Hp → Prop) (e2 : AV → Hp → Prop) (t2 : AV) (t14 : AV) (t7 : AV) (t0 : AV) (h : Hp) : Prop :=
(fun (j3 : AV → Hp → Prop) =>
vAdd t14 (.int .i64 1) h fun t24 h =>
vLss t24 t2 h fun t27 h =>
joinG (fun g7 => grdV t27 true (vMov t0 h g7) (g7 undefV h)) fun t29 h =>
joinG (fun g6 => grdV t27 true (vMov t24 h g6) (g6 undefV h)) fun t30 h =>
joinG (fun g5 => grdV t27 true (vMov t14 h g5) (g5 undefV h)) fun t31 h =>
joinG (fun g4 => grdV t27 true (vCallM t29 (selOf Try.prog "Less") [t30, t31] cf h g4) (g4 undefV h)) fun t32 h =>
vPick t27 t32 (.bool .false) h fun t33 h =>
vIf t33 (
j3 t24 h) (
j3 t14 h)) fun t9 h =>
vCallM t0 (selOf Try.prog "Less") [t9, t7] cf h fun t38 h =>
vNot t38 h fun t39 h =>
vIf t39 (
e0 t7 h) (
vCallM t0 (selOf Try.prog "Swap") [t7, t9] cf h fun t43 h =>
e2 t9 h)
noncomputable def s_container_heap_downL1B (cf : CallK) (fuel : Nat) (e0 : AV → Hp → Prop) (t0 : AV) (t1 : AV) (t2 : AV) (ih1 : AV → Hp → Prop) : AV → Hp → Prop := fun t7 h =>
(fun (e2 : AV → Hp → Prop) =>
vArith Go.Am.mulI (.int .i64 2) t7 h fun t13 h =>
vAdd t13 (.int .i64 1) h fun t14 h =>
vGeq t14 t2 h fun t17 h =>
joinG (fun g10 => grdV t17 false (vMov t14 h g10) (g10 undefV h)) fun t19 h =>
joinG (fun g9 => grdV t17 false (vLss t19 (.int .i64 0) h g9) (g9 undefV h)) fun t20 h =>
vPick t17 (.bool .true) t20 h fun t21 h =>
vIf t21 (
e0 t7 h) (
s_container_heap_downB8 cf fuel e0 e2 t2 t14 t7 t0 h)) fun t7 h =>
ih1 t7 h
noncomputable def s_container_heap_downL1 (cf : CallK) (fuel : Nat) (e0 : AV → Hp → Prop) (t0 : AV) (t1 : AV) (t2 : AV) (m : Nat) : AV → Hp → Prop := Nat.rec (motive := fun _ => AV → Hp → Prop) (fun _ _ => False) (fun _ ih => s_container_heap_downL1B cf fuel e0 t0 t1 t2 ih) m
theorem s_container_heap_downL1_succ (cf : CallK) (fuel : Nat) (e0 : AV → Hp → Prop) (t0 : AV) (t1 : AV) (t2 : AV) (m : Nat) : s_container_heap_downL1 cf fuel e0 t0 t1 t2 (m + 1) = s_container_heap_downL1B cf fuel e0 t0 t1 t2 (s_container_heap_downL1 cf fuel e0 t0 t1 t2 m) := rfl
noncomputable def s_container_heap_down (cf : CallK) (fuel : Nat) (t0 : AV) (t1 : AV) (t2 : AV) (h : Hp) (K : AV → Hp → Prop) : Prop :=
(fun (e0 : AV → Hp → Prop) =>
s_container_heap_downL1 cf fuel (s_container_heap_downE0 cf fuel K t1) t0 t1 t2 fuel t1 h) (s_container_heap_downE0 cf fuel K t1)
theorem s_container_heap_down_eq (cf : CallK) (fuel : Nat) (t0 : AV) (t1 : AV) (t2 : AV) (h : Hp) (K : AV → Hp → Prop) : s_container_heap_down cf fuel t0 t1 t2 h K = deepT (tabOf Try.prog) f_container_heap_down cf fuel [t0, t1, t2] h K :=
  Eq.trans (by kernel_rfl) (rFun (by kernel_rfl) (rSeq (by kernel_rfl) (rSeq (by kernel_rfl) (rSeq (by kernel_rfl) rExact (rBlock (by kernel_rfl) (rLoop (by kernel_rfl) (fun m1 fr h => s_container_heap_downL1 cf fuel (s_container_heap_downE0 cf fuel K (getS fr (gpos 1))) (getS fr (gpos 0)) (getS fr (gpos 1)) (getS fr (gpos 2)) m1 (getS fr (gpos 7)) h) (funext fun fr => funext fun h => by kernel_rfl) fun m1 => rCast (funext fun fr => funext fun h => by kernel_rfl) rExact))) rExact) rExact))

noncomputable def s_slices_order2Ordered_int (cf : CallK) (fuel : Nat) (t0 : AV) (t1 : AV) (t2 : AV) (t3 : AV) (h : Hp) (K : AV → Hp → Prop) : Prop :=
vIaddr 1 t0 t2 h fun t12 h =>
vLoad2 t12 h fun t13 h =>
vIaddr 1 t0 t1 h fun t16 h =>
vLoad2 t16 h fun t17 h =>
cf f_cmp_Less_int [t13, t17] h fun t18 h =>
vIf t18 (
vNilck t3 h fun t20 h =>
vLoad2 t20 h fun t21 h =>
vAdd t21 (.int .i64 1) h fun t22 h =>
vNilck t3 h fun t23 h =>
vStore 1 t23 t22 h fun _ h =>
K (.tup [t2, t1]) h) (
K (.tup [t1, t2]) h)
theorem s_slices_order2Ordered_int_eq (cf : CallK) (fuel : Nat) (t0 : AV) (t1 : AV) (t2 : AV) (t3 : AV) (h : Hp) (K : AV → Hp → Prop) : s_slices_order2Ordered_int cf fuel t0 t1 t2 t3 h K = deepT (tabOf Try.prog) f_slices_order2Ordered_int cf fuel [t0, t1, t2, t3] h K :=
  Eq.trans (by kernel_rfl) (rFun (by kernel_rfl) rExact)

noncomputable def s_strings_IndexRuneE0 (cf : CallK) (fuel : Nat) (K : AV → Hp → Prop) : Hp → Prop := fun h =>
K undefV h
noncomputable def s_strings_IndexRuneE1 (cf : CallK) (fuel : Nat) (K : AV → Hp → Prop) : Hp → Prop := fun h =>
K (.int .i64 (-1)) h
noncomputable def s_strings_IndexRuneL2B (cf : CallK) (fuel : Nat) (K : AV → Hp → Prop) (e1 : Hp → Prop) (t175 : AV) (ih2 : Hp → Prop) : Hp → Prop := fun h =>
vNextS t175 h fun t176 h =>
vExtract 0 t176 h fun t177 h =>
vIf t177 (
(fun (e3 : Hp → Prop) =>
vExtract 1 t176 h fun t178 h =>
vExtract 2 t176 h fun t179 h =>
vEql t179 (.int .i32 65533) h fun t181 h =>
vIf t181 (
K t178 h) (
e3 h)) fun h =>
ih2 h) (
e1 h)
noncomputable def s_strings_IndexRuneL2 (cf : CallK) (fuel : Nat) (K : AV → Hp → Prop) (e1 : Hp → Prop) (t175 : AV) (m : Nat) : Hp → Prop := Nat.rec (motive := fun _ => Hp → Prop) (fun _ => False) (fun _ ih => s_strings_IndexRuneL2B cf fuel K e1 t175 ih) m
theorem s_strings_IndexRuneL2_succ (cf : CallK) (fuel : Nat) (K : AV → Hp → Prop) (e1 : Hp → Prop) (t175 : AV) (m : Nat) : s_strings_IndexRuneL2 cf fuel K e1 t175 (m + 1) = s_strings_IndexRuneL2B cf fuel K e1 t175 (s_strings_IndexRuneL2 cf fuel K e1 t175 m) := rfl
noncomputable def s_strings_IndexRuneE4 (cf : CallK) (fuel : Nat) (K : AV → Hp → Prop) : Hp → Prop := fun h =>
K (.int .i64 (-1)) h
noncomputable def s_strings_IndexRuneE6 (cf : CallK) (fuel : Nat) (ih5 : AV → Hp → Prop) (t0 : AV) (t7 : AV) (t8 : AV) : AV → Hp → Prop := fun t9 h =>
ih5 t9 h
noncomputable def s_strings_IndexRuneE9 (cf : CallK) (fuel : Nat) (K : AV → Hp → Prop) (t8 : AV) (t9 : AV) : Hp → Prop := fun h =>
vArith Go.Am.subI t9 t8 h fun t67 h =>
K t67 h
noncomputable def s_strings_IndexRuneL10B (cf : CallK) (fuel : Nat) (e9 : Hp → Prop) (t0 : AV) (t7 : AV) (t8 : AV) (t9 : AV) (ih10 : AV → Hp → Prop) : AV → Hp → Prop := fun t12 h =>
vLenS t7 h fun t50 h =>
vLss t12 t50 h fun t51 h =>
vIf t51 (
(fun (e11 : Hp → Prop) =>
vArith Go.Am.subI t9 t12 h fun t57 h =>
vIdxS t0 t57 h fun t58 h =>
vArith Go.Am.subI t8 t12 h fun t62 h =>
vIdxS t7 t62 h fun t63 h =>
vNeq t58 t63 h fun t64 h =>
vIf t64 (
False) (
e11 h)) fun h =>
vAdd t12 (.int .i64 1) h fun t53 h =>
ih10 t53 h) (
e9 h)
noncomputable def s_strings_IndexRuneL10 (cf : CallK) (fuel : Nat) (e9 : Hp → Prop) (t0 : AV) (t7 : AV) (t8 : AV) (t9 : AV) (m : Nat) : AV → Hp → Prop := Nat.rec (motive := fun _ => AV → Hp → Prop) (fun _ _ => False) (fun _ ih => s_strings_IndexRuneL10B cf fuel e9 t0 t7 t8 t9 ih) m
theorem s_strings_IndexRuneL10_succ (cf : CallK) (fuel : Nat) (e9 : Hp → Prop) (t0 : AV) (t7 : AV) (t8 : AV) (t9 : AV) (m : Nat) : s_strings_IndexRuneL10 cf fuel e9 t0 t7 t8 t9 (m + 1) = s_strings_IndexRuneL10B cf fuel e9 t0 t7 t8 t9 (s_strings_IndexRuneL10 cf fuel e9 t0 t7 t8 t9 m) := rfl
noncomputable def s_strings_IndexRuneB12 (cf : CallK) (fuel : Nat) (K : AV → Hp → Prop) (ih5 : AV → Hp → Prop) (t0 : AV) (t9 : AV) (t7 : AV) (t8 : AV) (h : Hp) : Prop :=
(fun (e6 : AV → Hp → Prop) =>
(fun (j7 : AV → Hp → Prop) =>
vIdxS t0 t9 h fun t29 h =>
vIdxS t7 t8 h fun t32 h =>
vNeq t29 t32 h fun t33 h =>
vIf t33 (
vAdd t9 (.int .i64 1) h fun t36 h =>
vSliceS t0 (some t36) none h fun t37 h =>
vIdxS t7 t8 h fun t40 h =>
cf f_strings_IndexByte [t37, t40] h fun t41 h =>
vLss t41 (.int .i64 0) h fun t43 h =>
vIf t43 (
K (.int .i64 (-1)) h) (
vAdd t41 (.int .i64 1) h fun t46 h =>
vAdd t9 t46 h fun t47 h =>
j7 t47 h)) (
j7 t9 h)) fun t9_8 h =>
(fun (e9 : Hp → Prop) =>
s_strings_IndexRuneL10 cf fuel (s_strings_IndexRuneE9 cf fuel K t8 t9_8) t0 t7 t8 t9_8 fuel (.int .i64 1) h) (s_strings_IndexRuneE9 cf fuel K t8 t9_8)) (s_strings_IndexRuneE6 cf fuel ih5 t0 t7 t8)
noncomputable def s_strings_IndexRuneL5B (cf : CallK) (fuel : Nat) (K : AV → Hp → Prop) (e4 : Hp → Prop) (t0 : AV) (t7 : AV) (t8 : AV) (ih5 : AV → Hp → Prop) : AV → Hp → Prop := fun t9 h =>
vLenS t0 h fun t25 h =>
vLss t9 t25 h fun t26 h =>
vIf t26 (
s_strings_IndexRuneB12 cf fuel K ih5 t0 t9 t7 t8 h) (
e4 h)
noncomputable def s_strings_IndexRuneL5 (cf : CallK) (fuel : Nat) (K : AV → Hp → Prop) (e4 : Hp → Prop) (t0 : AV) (t7 : AV) (t8 : AV) (m : Nat) : AV → Hp → Prop := Nat.rec (motive := fun _ => AV → Hp → Prop) (fun _ _ => False) (fun _ ih => s_strings_IndexRuneL5B cf fuel K e4 t0 t7 t8 ih) m
theorem s_strings_IndexRuneL5_succ (cf : CallK) (fuel : Nat) (K : AV → Hp → Prop) (e4 : Hp → Prop) (t0 : AV) (t7 : AV) (t8 : AV) (m : Nat) : s_strings_IndexRuneL5 cf fuel K e4 t0 t7 t8 (m + 1) = s_strings_IndexRuneL5B cf fuel K e4 t0 t7 t8 (s_strings_IndexRuneL5 cf fuel K e4 t0 t7 t8 m) := rfl
noncomputable def s_strings_IndexRune (cf : CallK) (fuel : Nat) (t0 : AV) (t1 : AV) (h : Hp) (K : AV → Hp → Prop) : Prop :=
(fun (e0 : Hp → Prop) =>
vLeq (.int .i32 0) t1 h fun t162 h =>
joinG (fun g14 => grdV t162 true (vMov t1 h g14) (g14 undefV h)) fun t164 h =>
joinG (fun g13 => grdV t162 true (vLss t164 (.int .i32 128) h g13) (g13 undefV h)) fun t165 h =>
vPick t162 t165 (.bool .false) h fun t166 h =>
vIf t166 (
vToInt .u8 t1 h fun t169 h =>
cf f_strings_IndexByte [t0, t169] h fun t170 h =>
K t170 h) (
vEql t1 (.int .i32 65533) h fun t173 h =>
vIf t173 (
vRangeS t0 h fun t175 h =>
(fun (e1 : Hp → Prop) =>
s_strings_IndexRuneL2 cf fuel K (s_strings_IndexRuneE1 cf fuel K) t175 fuel h) (s_strings_IndexRuneE1 cf fuel K)) (
cf f_unicode_utf8_ValidRune [t1] h fun t185 h =>
vNot t185 h fun t186 h =>
vIf t186 (
K (.int .i64 (-1)) h) (
vRuneS t1 h fun t18 h =>
vLenS t18 h fun t20 h =>
vArith Go.Am.subI t20 (.int .i64 1) h fun t21 h =>
(fun (e4 : Hp → Prop) =>
s_strings_IndexRuneL5 cf fuel K (s_strings_IndexRuneE4 cf fuel K) t0 t18 t21 fuel t21 h) (s_strings_IndexRuneE4 cf fuel K))))) (s_strings_IndexRuneE0 cf fuel K)
theorem s_strings_IndexRune_eq (cf : CallK) (fuel : Nat) (t0 : AV) (t1 : AV) (h : Hp) (K : AV → Hp → Prop) : s_strings_IndexRune cf fuel t0 t1 h K = deepT (tabOf Try.prog) f_strings_IndexRune cf fuel [t0, t1] h K :=
  Eq.trans (by kernel_rfl) (rFun (by kernel_rfl) (rSeq (by kernel_rfl) (rBlock (by kernel_rfl) (rSeq (by kernel_rfl) (rCond (by kernel_rfl) rExact (rSeq (by kernel_rfl) (rCond (by kernel_rfl) (rSeq (by kernel_rfl) rExact (rSeq (by kernel_rfl) (rBlock (by kernel_rfl) (rLoop (by kernel_rfl) (fun m2 fr h => s_strings_IndexRuneL2 cf fuel K (s_strings_IndexRuneE1 cf fuel K) (getS fr (gpos 175)) m2 h) (funext fun fr => funext fun h => by kernel_rfl) fun m2 => rCast (funext fun fr => funext fun h => by kernel_rfl) rExact)) rExact)) (rSeq (by kernel_rfl) (rCond (by kernel_rfl) rExact (rScope (by kernel_rfl) (rSeq (by kernel_rfl) (rSeq (by kernel_rfl) (rSeq (by kernel_rfl) (rSeq (by kernel_rfl) (rSeq (by kernel_rfl) (rSeq (by kernel_rfl) (rSeq (by kernel_rfl) (rSeq (by kernel_rfl) rExact (rCond (by kernel_rfl) rExact (rScope (by kernel_rfl) (rSeq (by kernel_rfl) (rSeq (by kernel_rfl) (rSeq (by kernel_rfl) (rBlock (by kernel_rfl) rExact) rExact) rExact) rExact)))) rExact) rExact) (rBlock (by kernel_rfl) (rLoop (by kernel_rfl) (fun m5 fr h => s_strings_IndexRuneL5 cf fuel K (s_strings_IndexRuneE4 cf fuel K) (getS fr (gpos 0)) (getS fr (gpos 7)) (getS fr (gpos 8)) m5 (getS fr (gpos 9)) h) (funext fun fr => funext fun h => by kernel_rfl) fun m5 => rCast (funext fun fr => funext fun h => by kernel_rfl) (rSeq (by kernel_rfl) (rBlock (by kernel_rfl) (rScope (by kernel_rfl) (rSeq (by kernel_rfl) (rSeq (by kernel_rfl) rExact (rSeq (by kernel_rfl) (rBlock (by kernel_rfl) (rLoop (by kernel_rfl) (fun m10 fr h => s_strings_IndexRuneL10 cf fuel (s_strings_IndexRuneE9 cf fuel K (getS fr (gpos 8)) (getS fr (gpos 9))) (getS fr (gpos 0)) (getS fr (gpos 7)) (getS fr (gpos 8)) (getS fr (gpos 9)) m10 (getS fr (gpos 12)) h) (funext fun fr => funext fun h => by kernel_rfl) fun m10 => rCast (funext fun fr => funext fun h => by kernel_rfl) rExact)) rExact)) rExact))) rExact)))) rExact) rExact) rExact) rExact))) rExact)) rExact)) rExact)) rExact))

noncomputable def s_strings_shouldUseASCIISet (cf : CallK) (fuel : Nat) (t0 : AV) (h : Hp) (K : AV → Hp → Prop) : Prop :=
vGtr t0 (.int .i64 8) h fun t4 h =>
K t4 h
theorem s_strings_shouldUseASCIISet_eq (cf : CallK) (fuel : Nat) (t0 : AV) (h : Hp) (K : AV → Hp → Prop) : s_strings_shouldUseASCIISet cf fuel t0 h K = deepT (tabOf Try.prog) f_strings_shouldUseASCIISet cf fuel [t0] h K :=
  Eq.trans (by kernel_rfl) (rFun (by kernel_rfl) rExact)

noncomputable def s_strings_makeASCIISetE0 (cf : CallK) (fuel : Nat) (K : AV → Hp → Prop) (t2 : AV) : Hp → Prop := fun h =>
vLoadA 256 t2 h fun t20 h =>
vStore 256 t2 t20 h fun _ h =>
vLoadA 256 t2 h fun r0 _ => K (.tup [r0, (.bool .true)]) h
noncomputable def s_strings_makeASCIISetL1B (cf : CallK) (fuel : Nat) (K : AV → Hp → Prop) (e0 : Hp → Prop) (t0 : AV) (t2 : AV) (ih1 : AV → Hp → Prop) : AV → Hp → Prop := fun t4 h =>
vLenS t0 h fun t8 h =>
vLss t4 t8 h fun t9 h =>
vIf t9 (
(fun (e2 : Hp → Prop) =>
vIdxS t0 t4 h fun t14 h =>
vGeq t14 (.int .u8 128) h fun t16 h =>
vIf t16 (
vLoadA 256 t2 h fun t17 h =>
vStore 256 t2 t17 h fun _ h =>
vLoadA 256 t2 h fun r0 _ => K (.tup [r0, (.bool .false)]) h) (
vIaddrA 1 256 t2 t14 h fun t19 h =>
vStore 1 t19 (.bool .true) h fun _ h =>
e2 h)) fun h =>
vAdd t4 (.int .i64 1) h fun t11 h =>
ih1 t11 h) (
e0 h)
noncomputable def s_strings_makeASCIISetL1 (cf : CallK) (fuel : Nat) (K : AV → Hp → Prop) (e0 : Hp → Prop) (t0 : AV) (t2 : AV) (m : Nat) : AV → Hp → Prop := Nat.rec (motive := fun _ => AV → Hp → Prop) (fun _ _ => False) (fun _ ih => s_strings_makeASCIISetL1B cf fuel K e0 t0 t2 ih) m
theorem s_strings_makeASCIISetL1_succ (cf : CallK) (fuel : Nat) (K : AV → Hp → Prop) (e0 : Hp → Prop) (t0 : AV) (t2 : AV) (m : Nat) : s_strings_makeASCIISetL1 cf fuel K e0 t0 t2 (m + 1) = s_strings_makeASCIISetL1B cf fuel K e0 t0 t2 (s_strings_makeASCIISetL1 cf fuel K e0 t0 t2 m) := rfl
noncomputable def s_strings_makeASCIISet (cf : CallK) (fuel : Nat) (t0 : AV) (h : Hp) (K : AV → Hp → Prop) : Prop :=
vBox 256 (.agg (List.replicate 256 (.bool .false))) h fun t2 h =>
(fun (e0 : Hp → Prop) =>
s_strings_makeASCIISetL1 cf fuel K (s_strings_makeASCIISetE0 cf fuel K t2) t0 t2 fuel (.int .i64 0) h) (s_strings_makeASCIISetE0 cf fuel K t2)
theorem s_strings_makeASCIISet_eq (cf : CallK) (fuel : Nat) (t0 : AV) (h : Hp) (K : AV → Hp → Prop) : s_strings_makeASCIISet cf fuel t0 h K = deepT (tabOf Try.prog) f_strings_makeASCIISet cf fuel [t0] h K :=
  Eq.trans (by kernel_rfl) (rFun (by kernel_rfl) (rSeq (by kernel_rfl) (rSeq (by kernel_rfl) rExact (rSeq (by kernel_rfl) (rBlock (by kernel_rfl) (rLoop (by kernel_rfl) (fun m1 fr h => s_strings_makeASCIISetL1 cf fuel K (s_strings_makeASCIISetE0 cf fuel K (getS fr (gpos 2))) (getS fr (gpos 0)) (getS fr (gpos 2)) m1 (getS fr (gpos 4)) h) (funext fun fr => funext fun h => by kernel_rfl) fun m1 => rCast (funext fun fr => funext fun h => by kernel_rfl) rExact)) rExact)) rExact))

noncomputable def s_strings_asciiSet_contains (cf : CallK) (fuel : Nat) (t0 : AV) (t1 : AV) (h : Hp) (K : AV → Hp → Prop) : Prop :=
vNilck t0 h fun t7 h =>
vIaddrA 1 256 t7 t1 h fun t8 h =>
vLoad2 t8 h fun t9 h =>
K t9 h
theorem s_strings_asciiSet_contains_eq (cf : CallK) (fuel : Nat) (t0 : AV) (t1 : AV) (h : Hp) (K : AV → Hp → Prop) : s_strings_asciiSet_contains cf fuel t0 t1 h K = deepT (tabOf Try.prog) f_strings_asciiSet_contains cf fuel [t0, t1] h K :=
  Eq.trans (by kernel_rfl) (rFun (by kernel_rfl) rExact)

noncomputable def s_slices_order2CmpFunc_api_ID (cf : CallK) (fuel : Nat) (t0 : AV) (t1 : AV) (t2 : AV) (t3 : AV) (t4 : AV) (h : Hp) (K : AV → Hp → Prop) : Prop :=
vIaddr 2 t0 t2 h fun t15 h =>
vLoadA 2 t15 h fun t16 h =>
vIaddr 2 t0 t1 h fun t19 h =>
vLoadA 2 t19 h fun t20 h =>
vCallV t4 [t16, t20] cf h fun t21 h =>
vLss t21 (.int .i64 0) h fun t22 h =>
vIf t22 (
vNilck t3 h fun t24 h =>
vLoad2 t24 h fun t25 h =>
vAdd t25 (.int .i64 1) h fun t26 h =>
vNilck t3 h fun t27 h =>
vStore 1 t27 t26 h fun _ h =>
K (.tup [t2, t1]) h) (
K (.tup [t1, t2]) h)
theorem s_slices_order2CmpFunc_api_ID_eq (cf : CallK) (fuel : Nat) (t0 : AV) (t1 : AV) (t2 : AV) (t3 : AV) (t4 : AV) (h : Hp) (K : AV → Hp → Prop) : s_slices_order2CmpFunc_api_ID cf fuel t0 t1 t2 t3 t4 h K = deepT (tabOf Try.prog) f_slices_order2CmpFunc_api_ID cf fuel [t0, t1, t2, t3, t4] h K :=
  Eq.trans (by kernel_rfl) (rFun (by kernel_rfl) rExact)

noncomputable def s_strings_IndexByte (cf : CallK) (fuel : Nat) (t0 : AV) (t1 : AV) (h : Hp) (K : AV → Hp → Prop) : Prop :=
cf f_int_stringslite_IndexByte [t0, t1] h fun t7 h =>
K t7 h
theorem s_strings_IndexByte_eq (cf : CallK) (fuel : Nat) (t0 : AV) (t1 : AV) (h : Hp) (K : AV → Hp → Prop) : s_strings_IndexByte cf fuel t0 t1 h K = deepT (tabOf Try.prog) f_strings_IndexByte cf fuel [t0, t1] h K :=
  Eq.trans (by kernel_rfl) (rFun (by kernel_rfl) rExact)

noncomputable def s_unicode_utf8_ValidRune (cf : CallK) (fuel : Nat) (t0 : AV) (h : Hp) (K : AV → Hp → Prop) : Prop :=
(fun (e0 : Hp → Prop) =>
vLeq (.int .i32 0) t0 h fun t5 h =>
joinG (fun g4 => grdV t5 true (vMov t0 h g4) (g4 undefV h)) fun t7 h =>
joinG (fun g3 => grdV t5 true (vLss t7 (.int .i32 55296) h g3) (g3 undefV h)) fun t8 h =>
vPick t5 t8 (.bool .false) h fun t9 h =>
vIf t9 (
K (.bool .true) h) (
vLss (.int .i32 57343) t0 h fun t12 h =>
joinG (fun g2 => grdV t12 true (vMov t0 h g2) (g2 undefV h)) fun t14 h =>
joinG (fun g1 => grdV t12 true (vLeq t14 (.int .i32 1114111) h g1) (g1 undefV h)) fun t15 h =>
vPick t12 t15 (.bool .false) h fun t16 h =>
vIf t16 (
K (.bool .true) h) (
e0 h))) fun h =>
K (.bool .false) h
theorem s_unicode_utf8_ValidRune_eq (cf : CallK) (fuel : Nat) (t0 : AV) (h : Hp) (K : AV → Hp → Prop) : s_unicode_utf8_ValidRune cf fuel t0 h K = deepT (tabOf Try.prog) f_unicode_utf8_ValidRune cf fuel [t0] h K :=
  Eq.trans (by kernel_rfl) (rFun (by kernel_rfl) rExact)

noncomputable def s_int_bytealg_Cutover (cf : CallK) (fuel : Nat) (t0 : AV) (h : Hp) (K : AV → Hp → Prop) : Prop :=
vAdd t0 (.int .i64 16) h fun t4 h =>
vDiv false t4 (.int .i64 8) h fun t5 h =>
K t5 h
theorem s_int_bytealg_Cutover_eq (cf : CallK) (fuel : Nat) (t0 : AV) (h : Hp) (K : AV → Hp → Prop) : s_int_bytealg_Cutover cf fuel t0 h K = deepT (tabOf Try.prog) f_int_bytealg_Cutover cf fuel [t0] h K :=
  Eq.trans (by kernel_rfl) (rFun (by kernel_rfl) rExact)

-- 142 FAILS no body
noncomputable def s_int_stringslite_IndexByte (cf : CallK) (fuel : Nat) (t0 : AV) (t1 : AV) (h : Hp) (K : AV → Hp → Prop) : Prop :=
vIdxB t0 t1 h fun t7 h =>
K t7 h
theorem s_int_stringslite_IndexByte_eq (cf : CallK) (fuel : Nat) (t0 : AV) (t1 : AV) (h : Hp) (K : AV → Hp → Prop) : s_int_stringslite_IndexByte cf fuel t0 t1 h K = deepT (tabOf Try.prog) f_int_stringslite_IndexByte cf fuel [t0, t1] h K :=
  Eq.trans (by kernel_rfl) (rFun (by kernel_rfl) rExact)

-- 144 FAILS no body
-- 157 FAILS no body
-- 158 FAILS no body

end Go.Proofs.Ytnegmbnkccngoaa.sh5
