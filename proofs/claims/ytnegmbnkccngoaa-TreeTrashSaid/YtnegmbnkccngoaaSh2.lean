/- The Go functions' code as the abstract machine's, over values; each is the code that the machine makes of the program's (theorems s_.._eq). No condition. -/
import Derived.Test.YtnegmbnkccngoaaAmC
import Derived.Test.YtnegmbnkccngoaaProg
import Derived.KernelRfl
namespace Go.Proofs.Ytnegmbnkccngoaa.sh2
open Go Go.Am Go.Proofs
set_option linter.unusedVariables false
set_option maxRecDepth 100000
abbrev f_bcache_Cache_places : Nat := 78
abbrev f_bcache_Cache_use : Nat := 54
abbrev f_bytes_Clone : Nat := 30
abbrev f_bytes_Equal : Nat := 83
abbrev f_clock_Less : Nat := 105
abbrev f_clock_Valid : Nat := 67
abbrev f_clock_node : Nat := 102
abbrev f_cmp_Compare_int : Nat := 73
abbrev f_cmp_Compare_int64 : Nat := 72
abbrev f_cmp_Less_int : Nat := 97
abbrev f_cmp_isNaN_int : Nat := 107
abbrev f_cmp_isNaN_int64 : Nat := 106
abbrev f_crc_Of : Nat := 88
abbrev f_device_Device_Blocks : Nat := 81
abbrev f_device_Device_Dead : Nat := 84
abbrev f_device_Device_Flush : Nat := 58
abbrev f_device_Device_Read : Nat := 82
abbrev f_device_Device_Write : Nat := 59
abbrev f_device_Device_done : Nat := 85
abbrev f_math_bits_Len : Nat := 66
abbrev f_math_bits_Len32 : Nat := 100
abbrev f_math_bits_Len64 : Nat := 101
abbrev f_movetree_fixed : Nat := 51
abbrev f_ops_Name : Nat := 69
abbrev f_ops_Root : Nat := 50
abbrev f_ops_Trash : Nat := 71
abbrev f_ops_earlier : Nat := 70
abbrev f_ops_seen : Nat := 68
abbrev f_slices_SortFunc_api_ID_api_ID : Nat := 52
abbrev f_slices_breakPatternsOrdered_int : Nat := 93
abbrev f_slices_choosePivotOrdered_int : Nat := 94
abbrev f_slices_heapSortOrdered_int : Nat := 92
abbrev f_slices_insertionSortOrdered_int : Nat := 91
abbrev f_slices_partialInsertionSortOrdered_int : Nat := 96
abbrev f_slices_partitionEqualOrdered_int : Nat := 98
abbrev f_slices_partitionOrdered_int : Nat := 99
abbrev f_slices_pdqsortCmpFunc_api_ID : Nat := 77
abbrev f_slices_pdqsortOrdered_int : Nat := 65
abbrev f_slices_reverseRangeOrdered_int : Nat := 95
abbrev f_strings_ContainsAny : Nat := 104
abbrev f_vector_At : Nat := 103
abbrev f_wal_Volume_Blocks : Nat := 53
abbrev f_wal_Volume_Commit : Nat := 55
abbrev f_wal_Volume_alive : Nat := 62
abbrev f_wal_Volume_at : Nat := 90
abbrev f_wal_Volume_blocks : Nat := 64
abbrev f_wal_Volume_dead : Nat := 80
abbrev f_wal_Volume_heads : Nat := 63
abbrev f_wal_Volume_large : Nat := 61
abbrev f_wal_Volume_may : Nat := 79
abbrev f_wal_head : Nat := 60
abbrev f_wal_room : Nat := 56
abbrev f_wal_wrote : Nat := 57
abbrev f_zbyte_Append32 : Nat := 87
abbrev f_zbyte_Append64 : Nat := 86
abbrev f_zbyte_Get64 : Nat := 89

noncomputable def s_movetree_fixed (cf : CallK) (fuel : Nat) (t0 : AV) (h : Hp) (K : AV → Hp → Prop) : Prop :=
vBox 2 t0 h fun t1 h =>
vLoadA 2 t1 h fun t3 h =>
cf f_ops_Root [] h fun t4 h =>
vLoadA 2 t1 h fun c _ => gd (sameV c t3) (
vEq false eqPairS t3 t4 h fun t5 h =>
joinG (fun g3 => grdV t5 false (vLoadA 2 t1 h g3) (g3 undefV h)) fun t7 h =>
joinG (fun g2 => grdV t5 false (cf f_ops_Trash [] h g2) (g2 undefV h)) fun t8 h =>
joinP (fun g1 => grdV t5 false (vLoadA 2 t1 h fun c _ => gd (sameV c t7) g1) g1) (
joinG (fun g0 => grdV t5 false (vEq false eqPairS t7 t8 h g0) (g0 undefV h)) fun t9 h =>
vPick t5 (.bool .true) t9 h fun t10 h =>
K t10 h))
theorem s_movetree_fixed_eq (cf : CallK) (fuel : Nat) (t0 : AV) (h : Hp) (K : AV → Hp → Prop) : s_movetree_fixed cf fuel t0 h K = deepT (tabOf Try.prog) f_movetree_fixed cf fuel [t0] h K :=
  Eq.trans (by kernel_rfl) (rFun (by kernel_rfl) rExact)

noncomputable def s_slices_SortFunc_api_ID_api_ID (cf : CallK) (fuel : Nat) (t0 : AV) (t1 : AV) (h : Hp) (K : AV → Hp → Prop) : Prop :=
vLenL2 t0 h fun t6 h =>
vToInt .u64 t6 h fun t10 h =>
cf f_math_bits_Len [t10] h fun t11 h =>
cf f_slices_pdqsortCmpFunc_api_ID [t0, (.int .i64 0), t6, t11, t1] h fun t13 h =>
K (.tup []) h
theorem s_slices_SortFunc_api_ID_api_ID_eq (cf : CallK) (fuel : Nat) (t0 : AV) (t1 : AV) (h : Hp) (K : AV → Hp → Prop) : s_slices_SortFunc_api_ID_api_ID cf fuel t0 t1 h K = deepT (tabOf Try.prog) f_slices_SortFunc_api_ID_api_ID cf fuel [t0, t1] h K :=
  Eq.trans (by kernel_rfl) (rFun (by kernel_rfl) rExact)

noncomputable def s_wal_Volume_Blocks (cf : CallK) (fuel : Nat) (t0 : AV) (h : Hp) (K : AV → Hp → Prop) : Prop :=
vEq false eqP t0 .nilptr h fun t4 h =>
vIf t4 (
K (.int .i64 0) h) (
vNilck t0 h fun t6 h =>
vFaddr 1 t6 h fun t7 h =>
vLoad2 t7 h fun t8 h =>
vLenL2 t8 h fun t9 h =>
K t9 h)
theorem s_wal_Volume_Blocks_eq (cf : CallK) (fuel : Nat) (t0 : AV) (h : Hp) (K : AV → Hp → Prop) : s_wal_Volume_Blocks cf fuel t0 h K = deepT (tabOf Try.prog) f_wal_Volume_Blocks cf fuel [t0] h K :=
  Eq.trans (by kernel_rfl) (rFun (by kernel_rfl) rExact)

noncomputable def s_bcache_Cache_use (cf : CallK) (fuel : Nat) (t0 : AV) (t1 : AV) (t2 : AV) (h : Hp) (K : AV → Hp → Prop) : Prop :=
vNilck t0 h fun t11 h =>
vFaddr 2 t11 h fun t12 h =>
vLoad2 t12 h fun t13 h =>
vLookup Go.Am.eqKI false .nilptr t13 t1 h fun t15 h =>
(fun (j0 : AV → Hp → Prop) =>
vEq false eqP t15 .nilptr h fun t17 h =>
vIf t17 (
cf f_bcache_Cache_places [t0] h fun t19 h =>
vNeq t19 (.int .i64 0) h fun t21 h =>
vIf t21 (
K (.tup [.nilptr, t19]) h) (
vBuild [(.int .i64 0), .nilslice, (.int .i64 0), (.int .i64 0), (.bool .false)] [(0, 1, t1), (1, 1, t2)] h fun t25 h =>
vBox 5 t25 h fun t26 h =>
vNilck t0 h fun t28 h =>
vFaddr 2 t28 h fun t29 h =>
vLoad2 t29 h fun t30 h =>
vMapSet Go.Am.eqKI t30 t1 t26 h fun _ h =>
j0 t26 h)) (
j0 t15 h)) fun t8 h =>
vNilck t0 h fun t34 h =>
vFaddr 3 t34 h fun t35 h =>
vLoad2 t35 h fun t36 h =>
vAdd t36 (.int .i64 1) h fun t37 h =>
vNilck t0 h fun t38 h =>
vFaddr 3 t38 h fun t39 h =>
vStore 1 t39 t37 h fun _ h =>
vNilck t0 h fun t42 h =>
vFaddr 3 t42 h fun t43 h =>
vLoad2 t43 h fun t44 h =>
vNilck t8 h fun t45 h =>
vFaddr 2 t45 h fun t46 h =>
vStore 1 t46 t44 h fun _ h =>
K (.tup [t8, (.int .i64 0)]) h
theorem s_bcache_Cache_use_eq (cf : CallK) (fuel : Nat) (t0 : AV) (t1 : AV) (t2 : AV) (h : Hp) (K : AV → Hp → Prop) : s_bcache_Cache_use cf fuel t0 t1 t2 h K = deepT (tabOf Try.prog) f_bcache_Cache_use cf fuel [t0, t1, t2] h K :=
  Eq.trans (by kernel_rfl) (rFun (by kernel_rfl) rExact)

noncomputable def s_wal_Volume_CommitE1 (cf : CallK) (fuel : Nat) (K : AV → Hp → Prop) (t0 : AV) : Hp → Prop := fun h =>
vNilck t0 h fun t40 h =>
vFaddr 3 t40 h fun t41 h =>
vLoad2 t41 h fun t42 h =>
vAdd t42 (.int .i64 1) h fun t43 h =>
vNilck t0 h fun t44 h =>
vFaddr 3 t44 h fun t45 h =>
vStore 1 t45 t43 h fun _ h =>
vNilck t0 h fun t47 h =>
vFaddr 4 t47 h fun t48 h =>
vStore 1 t48 (.bool .true) h fun _ h =>
K (.int .i64 0) h
noncomputable def s_wal_Volume_CommitB4 (cf : CallK) (fuel : Nat) (ih2 : AV → Hp → Prop) (t0 : AV) (t22 : AV) (t24 : AV) (h : Hp) : Prop :=
(fun (e3 : Hp → Prop) =>
vIaddr 2 t22 t24 h fun t26 h =>
vLoadA 2 t26 h fun t27 h =>
vBox 2 (.agg [(.int .i64 0), .nilslice]) h fun t6 h =>
vStore 2 t6 t27 h fun _ h =>
vNilck t0 h fun t29 h =>
vFaddr 1 t29 h fun t30 h =>
vLoad2 t30 h fun t31 h =>
vFaddr 0 t6 h fun t32 h =>
vLoad2 t32 h fun t33 h =>
vFaddr 1 t6 h fun t34 h =>
vLoad2 t34 h fun t35 h =>
cf f_bytes_Clone [t35] h fun t36 h =>
vLoad2 t30 h fun c _ => gd (sameV c t31) (
vLoad2 t32 h fun c _ => gd (sameV c t33) (
vIaddr 1 t31 t33 h fun t37 h =>
vStore 1 t37 t36 h fun _ h =>
e3 h))) fun h =>
vAdd t24 (.int .i64 1) h fun t38 h =>
ih2 t38 h
noncomputable def s_wal_Volume_CommitL2B (cf : CallK) (fuel : Nat) (e1 : Hp → Prop) (t0 : AV) (t22 : AV) (t23 : AV) (ih2 : AV → Hp → Prop) : AV → Hp → Prop := fun t24 h =>
vLss t24 t23 h fun t25 h =>
vIf t25 (
s_wal_Volume_CommitB4 cf fuel ih2 t0 t22 t24 h) (
e1 h)
noncomputable def s_wal_Volume_CommitL2 (cf : CallK) (fuel : Nat) (e1 : Hp → Prop) (t0 : AV) (t22 : AV) (t23 : AV) (m : Nat) : AV → Hp → Prop := Nat.rec (motive := fun _ => AV → Hp → Prop) (fun _ _ => False) (fun _ ih => s_wal_Volume_CommitL2B cf fuel e1 t0 t22 t23 ih) m
theorem s_wal_Volume_CommitL2_succ (cf : CallK) (fuel : Nat) (e1 : Hp → Prop) (t0 : AV) (t22 : AV) (t23 : AV) (m : Nat) : s_wal_Volume_CommitL2 cf fuel e1 t0 t22 t23 (m + 1) = s_wal_Volume_CommitL2B cf fuel e1 t0 t22 t23 (s_wal_Volume_CommitL2 cf fuel e1 t0 t22 t23 m) := rfl
noncomputable def s_wal_Volume_Commit (cf : CallK) (fuel : Nat) (t0 : AV) (t1 : AV) (h : Hp) (K : AV → Hp → Prop) : Prop :=
(fun (e0 : Hp → Prop) =>
vEq false eqP t0 .nilptr h fun t9 h =>
vIf t9 (
K (.int .i64 5) h) (
cf f_wal_Volume_may [t0, t1] h fun t13 h =>
vNot t13 h fun t14 h =>
vIf t14 (
K (.int .i64 22) h) (
vLenL2 t1 h fun t17 h =>
vEql t17 (.int .i64 0) h fun t18 h =>
vIf t18 (
K (.int .i64 0) h) (
cf f_wal_Volume_dead [t0] h fun t21 h =>
vIf t21 (
K (.int .i64 5) h) (
e0 h))))) fun h =>
vLenL2 t1 h fun t23 h =>
(fun (e1 : Hp → Prop) =>
s_wal_Volume_CommitL2 cf fuel (s_wal_Volume_CommitE1 cf fuel K t0) t0 t1 t23 fuel (.int .i64 0) h) (s_wal_Volume_CommitE1 cf fuel K t0)
theorem s_wal_Volume_Commit_eq (cf : CallK) (fuel : Nat) (t0 : AV) (t1 : AV) (h : Hp) (K : AV → Hp → Prop) : s_wal_Volume_Commit cf fuel t0 t1 h K = deepT (tabOf Try.prog) f_wal_Volume_Commit cf fuel [t0, t1] h K :=
  Eq.trans (by kernel_rfl) (rFun (by kernel_rfl) (rSeq (by kernel_rfl) (rSeq (by kernel_rfl) (rSeq (by kernel_rfl) rExact (rSeq (by kernel_rfl) (rBlock (by kernel_rfl) (rLoop (by kernel_rfl) (fun m2 fr h => s_wal_Volume_CommitL2 cf fuel (s_wal_Volume_CommitE1 cf fuel K (getS fr (gpos 0))) (getS fr (gpos 0)) (getS fr (gpos 22)) (getS fr (gpos 23)) m2 (getS fr (gpos 24)) h) (funext fun fr => funext fun h => by kernel_rfl) fun m2 => rCast (funext fun fr => funext fun h => by kernel_rfl) rExact)) rExact)) rExact) rExact))

noncomputable def s_wal_room (cf : CallK) (fuel : Nat) (t0 : AV) (h : Hp) (K : AV → Hp → Prop) : Prop :=
cf f_device_Device_Blocks [t0] h fun t4 h =>
vLss t4 (.int .i64 16) h fun t5 h =>
vIf t5 (
K (.int .i64 0) h) (
cf f_device_Device_Blocks [t0] h fun t7 h =>
vArith Go.Am.subI t7 (.int .i64 8) h fun t8 h =>
vDiv false t8 (.int .i64 4) h fun t9 h =>
K t9 h)
theorem s_wal_room_eq (cf : CallK) (fuel : Nat) (t0 : AV) (h : Hp) (K : AV → Hp → Prop) : s_wal_room cf fuel t0 h K = deepT (tabOf Try.prog) f_wal_room cf fuel [t0] h K :=
  Eq.trans (by kernel_rfl) (rFun (by kernel_rfl) rExact)

noncomputable def s_wal_wrote (cf : CallK) (fuel : Nat) (t0 : AV) (t1 : AV) (t2 : AV) (h : Hp) (K : AV → Hp → Prop) : Prop :=
cf f_device_Device_Read [t0, t1] h fun t12 h =>
vExtract 0 t12 h fun t13 h =>
vExtract 1 t12 h fun t14 h =>
vEql t14 (.int .i64 0) h fun t16 h =>
joinG (fun g2 => grdV t16 true (vMov t13 h g2) (g2 undefV h)) fun t18 h =>
joinG (fun g1 => grdV t16 true (vMov t2 h g1) (g1 undefV h)) fun t19 h =>
joinG (fun g0 => grdV t16 true (cf f_bytes_Equal [t18, t19] h g0) (g0 undefV h)) fun t20 h =>
vPick t16 t20 (.bool .false) h fun t21 h =>
vIf t21 (
K (.int .i64 0) h) (
cf f_device_Device_Write [t0, t1, t2] h fun t25 h =>
K t25 h)
theorem s_wal_wrote_eq (cf : CallK) (fuel : Nat) (t0 : AV) (t1 : AV) (t2 : AV) (h : Hp) (K : AV → Hp → Prop) : s_wal_wrote cf fuel t0 t1 t2 h K = deepT (tabOf Try.prog) f_wal_wrote cf fuel [t0, t1, t2] h K :=
  Eq.trans (by kernel_rfl) (rFun (by kernel_rfl) rExact)

noncomputable def s_device_Device_FlushE0 (cf : CallK) (fuel : Nat) (K : AV → Hp → Prop) (t0 : AV) : Hp → Prop := fun h =>
cf f_device_Device_done [t0] h fun t38 h =>
K t38 h
noncomputable def s_device_Device_FlushB3 (cf : CallK) (fuel : Nat) (ih1 : AV → Hp → Prop) (t0 : AV) (t11 : AV) (h : Hp) : Prop :=
(fun (e2 : Hp → Prop) =>
vNilck t0 h fun t15 h =>
vFaddr 0 t15 h fun t16 h =>
vLoad2 t16 h fun t17 h =>
vNilck t0 h fun t20 h =>
vFaddr 0 t20 h fun t21 h =>
vLoad2 t21 h fun t22 h =>
vNilck t0 h fun t25 h =>
vFaddr 0 t25 h fun t26 h =>
vLoad2 t26 h fun t27 h =>
vIaddr 3 t27 t11 h fun t29 h =>
vFaddr 0 t29 h fun t30 h =>
vLoad2 t30 h fun t31 h =>
vIaddr 3 t17 t11 h fun t32 h =>
vFaddr 1 t32 h fun t33 h =>
vStore 1 t33 t31 h fun _ h =>
vIaddr 3 t22 t11 h fun t34 h =>
vFaddr 2 t34 h fun t35 h =>
vStore 1 t35 (.bool .false) h fun _ h =>
e2 h) fun h =>
vAdd t11 (.int .i64 1) h fun t36 h =>
ih1 t36 h
noncomputable def s_device_Device_FlushL1B (cf : CallK) (fuel : Nat) (e0 : Hp → Prop) (t0 : AV) (t10 : AV) (ih1 : AV → Hp → Prop) : AV → Hp → Prop := fun t11 h =>
vLss t11 t10 h fun t12 h =>
vIf t12 (
s_device_Device_FlushB3 cf fuel ih1 t0 t11 h) (
e0 h)
noncomputable def s_device_Device_FlushL1 (cf : CallK) (fuel : Nat) (e0 : Hp → Prop) (t0 : AV) (t10 : AV) (m : Nat) : AV → Hp → Prop := Nat.rec (motive := fun _ => AV → Hp → Prop) (fun _ _ => False) (fun _ ih => s_device_Device_FlushL1B cf fuel e0 t0 t10 ih) m
theorem s_device_Device_FlushL1_succ (cf : CallK) (fuel : Nat) (e0 : Hp → Prop) (t0 : AV) (t10 : AV) (m : Nat) : s_device_Device_FlushL1 cf fuel e0 t0 t10 (m + 1) = s_device_Device_FlushL1B cf fuel e0 t0 t10 (s_device_Device_FlushL1 cf fuel e0 t0 t10 m) := rfl
noncomputable def s_device_Device_Flush (cf : CallK) (fuel : Nat) (t0 : AV) (h : Hp) (K : AV → Hp → Prop) : Prop :=
cf f_device_Device_Dead [t0] h fun t5 h =>
vIf t5 (
K (.int .i64 5) h) (
vNilck t0 h fun t7 h =>
vFaddr 0 t7 h fun t8 h =>
vLoad2 t8 h fun t9 h =>
vLenL2 t9 h fun t10 h =>
(fun (e0 : Hp → Prop) =>
s_device_Device_FlushL1 cf fuel (s_device_Device_FlushE0 cf fuel K t0) t0 t10 fuel (.int .i64 0) h) (s_device_Device_FlushE0 cf fuel K t0))
theorem s_device_Device_Flush_eq (cf : CallK) (fuel : Nat) (t0 : AV) (h : Hp) (K : AV → Hp → Prop) : s_device_Device_Flush cf fuel t0 h K = deepT (tabOf Try.prog) f_device_Device_Flush cf fuel [t0] h K :=
  Eq.trans (by kernel_rfl) (rFun (by kernel_rfl) (rSeq (by kernel_rfl) (rSeq (by kernel_rfl) (rSeq (by kernel_rfl) rExact (rSeq (by kernel_rfl) (rBlock (by kernel_rfl) (rLoop (by kernel_rfl) (fun m1 fr h => s_device_Device_FlushL1 cf fuel (s_device_Device_FlushE0 cf fuel K (getS fr (gpos 0))) (getS fr (gpos 0)) (getS fr (gpos 10)) m1 (getS fr (gpos 11)) h) (funext fun fr => funext fun h => by kernel_rfl) fun m1 => rCast (funext fun fr => funext fun h => by kernel_rfl) rExact)) rExact)) rExact) rExact))

noncomputable def s_device_Device_WriteB11 (cf : CallK) (fuel : Nat) (K : AV → Hp → Prop) (e0 : Hp → Prop) (t0 : AV) (t1 : AV) (t2 : AV) (h : Hp) : Prop :=
vLss t1 (.int .i64 0) h fun t12 h =>
joinG (fun g10 => grdV t12 false (vMov t1 h g10) (g10 undefV h)) fun t14 h =>
joinG (fun g9 => grdV t12 false (vMov t0 h g9) (g9 undefV h)) fun t15 h =>
joinG (fun g8 => grdV t12 false (vNilck t15 h g8) (g8 undefV h)) fun t16 h =>
joinG (fun g7 => grdV t12 false (vFaddr 0 t16 h g7) (g7 undefV h)) fun t17 h =>
joinG (fun g6 => grdV t12 false (vLoad2 t17 h g6) (g6 undefV h)) fun t18 h =>
joinG (fun g5 => grdV t12 false (vLenL2 t18 h g5) (g5 undefV h)) fun t19 h =>
joinG (fun g4 => grdV t12 false (vGeq t14 t19 h g4) (g4 undefV h)) fun t20 h =>
vPick t12 (.bool .true) t20 h fun t21 h =>
joinG (fun g3 => grdV t21 false (vMov t2 h g3) (g3 undefV h)) fun t23 h =>
joinG (fun g2 => grdV t21 false (vLenL2 t23 h g2) (g2 undefV h)) fun t24 h =>
joinG (fun g1 => grdV t21 false (vNeq t24 (.int .i64 512) h g1) (g1 undefV h)) fun t25 h =>
vPick t21 (.bool .true) t25 h fun t26 h =>
vIf t26 (
K (.int .i64 22) h) (
e0 h)
noncomputable def s_device_Device_Write (cf : CallK) (fuel : Nat) (t0 : AV) (t1 : AV) (t2 : AV) (h : Hp) (K : AV → Hp → Prop) : Prop :=
(fun (e0 : Hp → Prop) =>
cf f_device_Device_Dead [t0] h fun t9 h =>
vIf t9 (
K (.int .i64 5) h) (
s_device_Device_WriteB11 cf fuel K e0 t0 t1 t2 h)) fun h =>
vNilck t0 h fun t28 h =>
vFaddr 0 t28 h fun t29 h =>
vLoad2 t29 h fun t30 h =>
vNilck t0 h fun t33 h =>
vFaddr 0 t33 h fun t34 h =>
vLoad2 t34 h fun t35 h =>
cf f_bytes_Clone [t2] h fun t38 h =>
vLoad2 t29 h fun c _ => gd (sameV c t30) (
vLoad2 t34 h fun c _ => gd (sameV c t35) (
vIaddr 3 t30 t1 h fun t39 h =>
vFaddr 0 t39 h fun t40 h =>
vStore 1 t40 t38 h fun _ h =>
vIaddr 3 t35 t1 h fun t41 h =>
vFaddr 2 t41 h fun t42 h =>
vStore 1 t42 (.bool .true) h fun _ h =>
cf f_device_Device_done [t0] h fun t44 h =>
K t44 h))
theorem s_device_Device_Write_eq (cf : CallK) (fuel : Nat) (t0 : AV) (t1 : AV) (t2 : AV) (h : Hp) (K : AV → Hp → Prop) : s_device_Device_Write cf fuel t0 t1 t2 h K = deepT (tabOf Try.prog) f_device_Device_Write cf fuel [t0, t1, t2] h K :=
  Eq.trans (by kernel_rfl) (rFun (by kernel_rfl) rExact)

noncomputable def s_wal_head (cf : CallK) (fuel : Nat) (t0 : AV) (t1 : AV) (h : Hp) (K : AV → Hp → Prop) : Prop :=
vBslice 1 16 true [(.int .u8 0)] [(0, 1, (.int .u8 108)), (1, 1, (.int .u8 97)), (2, 1, (.int .u8 103)), (3, 1, (.int .u8 111)), (4, 1, (.int .u8 111)), (5, 1, (.int .u8 110)), (6, 1, (.int .u8 39)), (7, 1, (.int .u8 115)), (8, 1, (.int .u8 32)), (9, 1, (.int .u8 118)), (10, 1, (.int .u8 111)), (11, 1, (.int .u8 108)), (12, 1, (.int .u8 117)), (13, 1, (.int .u8 109)), (14, 1, (.int .u8 101)), (15, 1, (.int .u8 10))] h fun t6 h =>
vStrish t6 h fun t7 h =>
vToInt .u64 t0 h fun t9 h =>
cf f_zbyte_Append64 [t7, t9] h fun t10 h =>
vToInt .u64 t1 h fun t13 h =>
cf f_zbyte_Append64 [t10, t13] h fun t14 h =>
vBslice 1 1 false [.nilslice] [(0, 1, t14)] h fun t17 h =>
cf f_crc_Of [t17] h fun t18 h =>
cf f_zbyte_Append32 [t14, t18] h fun t19 h =>
vLenL2 t19 h fun t22 h =>
vArith Go.Am.subI (.int .i64 512) t22 h fun t23 h =>
vAppendZ 1 1 true [(.int .u8 0)] t19 t23 h fun t24 h =>
K t24 h
theorem s_wal_head_eq (cf : CallK) (fuel : Nat) (t0 : AV) (t1 : AV) (h : Hp) (K : AV → Hp → Prop) : s_wal_head cf fuel t0 t1 h K = deepT (tabOf Try.prog) f_wal_head cf fuel [t0, t1] h K :=
  Eq.trans (by kernel_rfl) (rFun (by kernel_rfl) rExact)

noncomputable def s_wal_Volume_large (cf : CallK) (fuel : Nat) (t0 : AV) (h : Hp) (K : AV → Hp → Prop) : Prop :=
vNilck t0 h fun t4 h =>
vFaddr 0 t4 h fun t5 h =>
vLoad2 t5 h fun t6 h =>
cf f_wal_room [t6] h fun t7 h =>
vEql t7 (.int .i64 0) h fun t8 h =>
vIf t8 (
K (.int .i64 22) h) (
K (.int .i64 0) h)
theorem s_wal_Volume_large_eq (cf : CallK) (fuel : Nat) (t0 : AV) (h : Hp) (K : AV → Hp → Prop) : s_wal_Volume_large cf fuel t0 h K = deepT (tabOf Try.prog) f_wal_Volume_large cf fuel [t0] h K :=
  Eq.trans (by kernel_rfl) (rFun (by kernel_rfl) rExact)

noncomputable def s_wal_Volume_alive (cf : CallK) (fuel : Nat) (t0 : AV) (h : Hp) (K : AV → Hp → Prop) : Prop :=
vNilck t0 h fun t4 h =>
vFaddr 0 t4 h fun t5 h =>
vLoad2 t5 h fun t6 h =>
cf f_device_Device_Dead [t6] h fun t7 h =>
vIf t7 (
K (.int .i64 5) h) (
K (.int .i64 0) h)
theorem s_wal_Volume_alive_eq (cf : CallK) (fuel : Nat) (t0 : AV) (h : Hp) (K : AV → Hp → Prop) : s_wal_Volume_alive cf fuel t0 h K = deepT (tabOf Try.prog) f_wal_Volume_alive cf fuel [t0] h K :=
  Eq.trans (by kernel_rfl) (rFun (by kernel_rfl) rExact)

noncomputable def s_wal_Volume_headsE0 (cf : CallK) (fuel : Nat) (K : AV → Hp → Prop) (t0 : AV) : Hp → Prop := fun h =>
vNilck t0 h fun t60 h =>
vFaddr 2 t60 h fun t61 h =>
vLoad2 t61 h fun t62 h =>
vLss t62 (.int .i64 0) h fun t63 h =>
vIf t63 (
K (.int .i64 74) h) (
K (.int .i64 0) h)
noncomputable def s_wal_Volume_headsB12 (cf : CallK) (fuel : Nat) (ih1 : AV → Hp → Prop) (t0 : AV) (t11 : AV) (h : Hp) : Prop :=
(fun (e2 : Hp → Prop) =>
vNilck t0 h fun t16 h =>
vFaddr 0 t16 h fun t17 h =>
vLoad2 t17 h fun t18 h =>
cf f_device_Device_Read [t18, t11] h fun t20 h =>
vExtract 0 t20 h fun t21 h =>
vExtract 1 t20 h fun t22 h =>
vSlice2 1 t21 (some (.int .i64 16)) none h fun t24 h =>
vSlice2 1 t21 (some (.int .i64 24)) none h fun t28 h =>
cf f_zbyte_Get64 [t24] h fun t25 h =>
vToInt .i64 t25 h fun t26 h =>
cf f_zbyte_Get64 [t28] h fun t29 h =>
vToInt .i64 t29 h fun t30 h =>
vNilck t0 h fun t33 h =>
vFaddr 2 t33 h fun t34 h =>
vLoad2 t34 h fun t35 h =>
vGtr t26 t35 h fun t36 h =>
joinG (fun g11 => grdV t36 true (vMov t26 h g11) (g11 undefV h)) fun t38 h =>
joinG (fun g10 => grdV t36 true (vDiv true t38 (.int .i64 2) h g10) (g10 undefV h)) fun t39 h =>
joinG (fun g9 => grdV t36 true (vMov t11 h g9) (g9 undefV h)) fun t40 h =>
joinG (fun g8 => grdV t36 true (vEql t39 t40 h g8) (g8 undefV h)) fun t41 h =>
vPick t36 t41 (.bool .false) h fun t42 h =>
joinG (fun g7 => grdV t42 true (vMov t21 h g7) (g7 undefV h)) fun t44 h =>
joinG (fun g6 => grdV t42 true (vMov t26 h g6) (g6 undefV h)) fun t45 h =>
joinG (fun g5 => grdV t42 true (vMov t30 h g5) (g5 undefV h)) fun t46 h =>
joinG (fun g4 => grdV t42 true (cf f_wal_head [t45, t46] h g4) (g4 undefV h)) fun t47 h =>
joinG (fun g3 => grdV t42 true (cf f_bytes_Equal [t44, t47] h g3) (g3 undefV h)) fun t48 h =>
vPick t42 t48 (.bool .false) h fun t49 h =>
vIf t49 (
vNilck t0 h fun t54 h =>
vFaddr 2 t54 h fun t55 h =>
vStore 1 t55 t26 h fun _ h =>
vNilck t0 h fun t56 h =>
vFaddr 3 t56 h fun t57 h =>
vStore 1 t57 t30 h fun _ h =>
e2 h) (
e2 h)) fun h =>
vAdd t11 (.int .i64 1) h fun t58 h =>
ih1 t58 h
noncomputable def s_wal_Volume_headsL1B (cf : CallK) (fuel : Nat) (e0 : Hp → Prop) (t0 : AV) (ih1 : AV → Hp → Prop) : AV → Hp → Prop := fun t11 h =>
vLss t11 (.int .i64 2) h fun t12 h =>
vIf t12 (
s_wal_Volume_headsB12 cf fuel ih1 t0 t11 h) (
e0 h)
noncomputable def s_wal_Volume_headsL1 (cf : CallK) (fuel : Nat) (e0 : Hp → Prop) (t0 : AV) (m : Nat) : AV → Hp → Prop := Nat.rec (motive := fun _ => AV → Hp → Prop) (fun _ _ => False) (fun _ ih => s_wal_Volume_headsL1B cf fuel e0 t0 ih) m
theorem s_wal_Volume_headsL1_succ (cf : CallK) (fuel : Nat) (e0 : Hp → Prop) (t0 : AV) (m : Nat) : s_wal_Volume_headsL1 cf fuel e0 t0 (m + 1) = s_wal_Volume_headsL1B cf fuel e0 t0 (s_wal_Volume_headsL1 cf fuel e0 t0 m) := rfl
noncomputable def s_wal_Volume_heads (cf : CallK) (fuel : Nat) (t0 : AV) (h : Hp) (K : AV → Hp → Prop) : Prop :=
vNilck t0 h fun t9 h =>
vFaddr 2 t9 h fun t10 h =>
vStore 1 t10 (.int .i64 (-1)) h fun _ h =>
(fun (e0 : Hp → Prop) =>
s_wal_Volume_headsL1 cf fuel (s_wal_Volume_headsE0 cf fuel K t0) t0 fuel (.int .i64 0) h) (s_wal_Volume_headsE0 cf fuel K t0)
theorem s_wal_Volume_heads_eq (cf : CallK) (fuel : Nat) (t0 : AV) (h : Hp) (K : AV → Hp → Prop) : s_wal_Volume_heads cf fuel t0 h K = deepT (tabOf Try.prog) f_wal_Volume_heads cf fuel [t0] h K :=
  Eq.trans (by kernel_rfl) (rFun (by kernel_rfl) (rSeq (by kernel_rfl) (rSeq (by kernel_rfl) (rSeq (by kernel_rfl) rExact (rSeq (by kernel_rfl) (rBlock (by kernel_rfl) (rLoop (by kernel_rfl) (fun m1 fr h => s_wal_Volume_headsL1 cf fuel (s_wal_Volume_headsE0 cf fuel K (getS fr (gpos 0))) (getS fr (gpos 0)) m1 (getS fr (gpos 11)) h) (funext fun fr => funext fun h => by kernel_rfl) fun m1 => rCast (funext fun fr => funext fun h => by kernel_rfl) rExact)) rExact)) rExact) rExact))

noncomputable def s_wal_Volume_blocksE0 (cf : CallK) (fuel : Nat) (K : AV → Hp → Prop) : Hp → Prop := fun h =>
K (.int .i64 0) h
noncomputable def s_wal_Volume_blocksB3 (cf : CallK) (fuel : Nat) (ih1 : AV → Hp → Prop) (t0 : AV) (t18 : AV) (h : Hp) : Prop :=
(fun (e2 : Hp → Prop) =>
vNilck t0 h fun t23 h =>
vFaddr 1 t23 h fun t24 h =>
vLoad2 t24 h fun t25 h =>
vNilck t0 h fun t28 h =>
vFaddr 0 t28 h fun t29 h =>
vLoad2 t29 h fun t30 h =>
vNilck t0 h fun t33 h =>
vFaddr 2 t33 h fun t34 h =>
vLoad2 t34 h fun t35 h =>
cf f_wal_Volume_at [t0, t35, t18] h fun t37 h =>
vLoad2 t24 h fun c _ => gd (sameV c t25) (
vLoad2 t29 h fun c _ => gd (sameV c t30) (
cf f_device_Device_Read [t30, t37] h fun t38 h =>
vLoad2 t24 h fun c _ => gd (sameV c t25) (
vExtract 0 t38 h fun t39 h =>
vExtract 1 t38 h fun t40 h =>
vIaddr 1 t25 t18 h fun t41 h =>
vStore 1 t41 t39 h fun _ h =>
e2 h)))) fun h =>
vAdd t18 (.int .i64 1) h fun t42 h =>
ih1 t42 h
noncomputable def s_wal_Volume_blocksL1B (cf : CallK) (fuel : Nat) (e0 : Hp → Prop) (t0 : AV) (t17 : AV) (ih1 : AV → Hp → Prop) : AV → Hp → Prop := fun t18 h =>
vLss t18 t17 h fun t19 h =>
vIf t19 (
s_wal_Volume_blocksB3 cf fuel ih1 t0 t18 h) (
e0 h)
noncomputable def s_wal_Volume_blocksL1 (cf : CallK) (fuel : Nat) (e0 : Hp → Prop) (t0 : AV) (t17 : AV) (m : Nat) : AV → Hp → Prop := Nat.rec (motive := fun _ => AV → Hp → Prop) (fun _ _ => False) (fun _ ih => s_wal_Volume_blocksL1B cf fuel e0 t0 t17 ih) m
theorem s_wal_Volume_blocksL1_succ (cf : CallK) (fuel : Nat) (e0 : Hp → Prop) (t0 : AV) (t17 : AV) (m : Nat) : s_wal_Volume_blocksL1 cf fuel e0 t0 t17 (m + 1) = s_wal_Volume_blocksL1B cf fuel e0 t0 t17 (s_wal_Volume_blocksL1 cf fuel e0 t0 t17 m) := rfl
noncomputable def s_wal_Volume_blocks (cf : CallK) (fuel : Nat) (t0 : AV) (h : Hp) (K : AV → Hp → Prop) : Prop :=
vNilck t0 h fun t6 h =>
vFaddr 0 t6 h fun t7 h =>
vLoad2 t7 h fun t8 h =>
cf f_wal_room [t8] h fun t9 h =>
vMkSlice 1 24 false [.nilslice] t9 t9 h fun t10 h =>
vNilck t0 h fun t11 h =>
vFaddr 1 t11 h fun t12 h =>
vStore 1 t12 t10 h fun _ h =>
vNilck t0 h fun t14 h =>
vFaddr 1 t14 h fun t15 h =>
vLoad2 t15 h fun t16 h =>
vLenL2 t16 h fun t17 h =>
(fun (e0 : Hp → Prop) =>
s_wal_Volume_blocksL1 cf fuel (s_wal_Volume_blocksE0 cf fuel K) t0 t17 fuel (.int .i64 0) h) (s_wal_Volume_blocksE0 cf fuel K)
theorem s_wal_Volume_blocks_eq (cf : CallK) (fuel : Nat) (t0 : AV) (h : Hp) (K : AV → Hp → Prop) : s_wal_Volume_blocks cf fuel t0 h K = deepT (tabOf Try.prog) f_wal_Volume_blocks cf fuel [t0] h K :=
  Eq.trans (by kernel_rfl) (rFun (by kernel_rfl) (rSeq (by kernel_rfl) (rSeq (by kernel_rfl) (rSeq (by kernel_rfl) rExact (rSeq (by kernel_rfl) (rBlock (by kernel_rfl) (rLoop (by kernel_rfl) (fun m1 fr h => s_wal_Volume_blocksL1 cf fuel (s_wal_Volume_blocksE0 cf fuel K) (getS fr (gpos 0)) (getS fr (gpos 17)) m1 (getS fr (gpos 18)) h) (funext fun fr => funext fun h => by kernel_rfl) fun m1 => rCast (funext fun fr => funext fun h => by kernel_rfl) rExact)) rExact)) rExact) rExact))

noncomputable def s_slices_pdqsortOrdered_intE0 (cf : CallK) (fuel : Nat) (K : AV → Hp → Prop) : Hp → Prop := fun h =>
K (.tup []) h
noncomputable def s_slices_pdqsortOrdered_intB10 (cf : CallK) (fuel : Nat) (e2 : AV → AV → AV → AV → AV → Hp → Prop) (t1 : AV) (t11 : AV) (t2 : AV) (t0 : AV) (t3_4 : AV) (t21 : AV) (h : Hp) : Prop :=
cf f_slices_partitionOrdered_int [t0, t1, t2, t11] h fun t99 h =>
vExtract 0 t99 h fun t100 h =>
vExtract 1 t99 h fun t101 h =>
vArith Go.Am.subI t100 t1 h fun t105 h =>
vArith Go.Am.subI t2 t100 h fun t108 h =>
vDiv false t21 (.int .i64 8) h fun t110 h =>
vLss t105 t108 h fun t113 h =>
vIf t113 (
vGeq t105 t110 h fun t116 h =>
cf f_slices_pdqsortOrdered_int [t0, t1, t100, t3_4] h fun t121 h =>
vAdd t100 (.int .i64 1) h fun t123 h =>
e2 t123 t2 t3_4 t116 t101 h) (
vGeq t108 t110 h fun t126 h =>
vAdd t100 (.int .i64 1) h fun t129 h =>
cf f_slices_pdqsortOrdered_int [t0, t129, t2, t3_4] h fun t132 h =>
e2 t1 t100 t3_4 t126 t101 h)
noncomputable def s_slices_pdqsortOrdered_intB22 (cf : CallK) (fuel : Nat) (K : AV → Hp → Prop) (e2 : AV → AV → AV → AV → AV → Hp → Prop) (t3 : AV) (t21 : AV) (t1 : AV) (t2 : AV) (t0 : AV) (t8 : AV) (t9 : AV) (h : Hp) : Prop :=
(fun (j3 : AV → Hp → Prop) =>
vNot t8 h fun t35 h =>
vIf t35 (
cf f_slices_breakPatternsOrdered_int [t0, t1, t2] h fun t39 h =>
vArith Go.Am.subI t3 (.int .i64 1) h fun t41 h =>
j3 t41 h) (
j3 t3 h)) fun t3_4 h =>
cf f_slices_choosePivotOrdered_int [t0, t1, t2] h fun t46 h =>
vExtract 0 t46 h fun t47 h =>
vExtract 1 t46 h fun t48 h =>
(fun (j5 : AV → AV → Hp → Prop) =>
vEql t48 (.int .i64 2) h fun t50 h =>
vIf t50 (
cf f_slices_reverseRangeOrdered_int [t0, t1, t2] h fun t54 h =>
vArith Go.Am.subI t2 (.int .i64 1) h fun t56 h =>
vArith Go.Am.subI t47 t1 h fun t59 h =>
vArith Go.Am.subI t56 t59 h fun t60 h =>
j5 t60 (.int .i64 1) h) (
j5 t47 t48 h)) fun t11 t12 h =>
(fun (j6 : Hp → Prop) =>
joinG (fun g9 => grdV t8 true (vMov t9 h g9) (g9 undefV h)) fun t63 h =>
vPick t8 t63 (.bool .false) h fun t64 h =>
joinG (fun g8 => grdV t64 true (vMov t12 h g8) (g8 undefV h)) fun t66 h =>
joinG (fun g7 => grdV t64 true (vEql t66 (.int .i64 1) h g7) (g7 undefV h)) fun t67 h =>
vPick t64 t67 (.bool .false) h fun t68 h =>
vIf t68 (
cf f_slices_partialInsertionSortOrdered_int [t0, t1, t2] h fun t72 h =>
vIf t72 (
K (.tup []) h) (
j6 h)) (
j6 h)) fun h =>
vGtr t1 (.int .i64 0) h fun t74 h =>
joinG (fun g21 => grdV t74 true (vMov t0 h g21) (g21 undefV h)) fun t76 h =>
joinG (fun g20 => grdV t74 true (vMov t1 h g20) (g20 undefV h)) fun t77 h =>
joinG (fun g19 => grdV t74 true (vArith Go.Am.subI t77 (.int .i64 1) h g19) (g19 undefV h)) fun t78 h =>
joinG (fun g18 => grdV t74 true (vIaddr 1 t76 t78 h g18) (g18 undefV h)) fun t79 h =>
joinG (fun g17 => grdV t74 true (vLoad2 t79 h g17) (g17 undefV h)) fun t80 h =>
joinG (fun g16 => grdV t74 true (vMov t0 h g16) (g16 undefV h)) fun t81 h =>
joinG (fun g15 => grdV t74 true (vMov t11 h g15) (g15 undefV h)) fun t82 h =>
joinG (fun g14 => grdV t74 true (vIaddr 1 t81 t82 h g14) (g14 undefV h)) fun t83 h =>
joinG (fun g13 => grdV t74 true (vLoad2 t83 h g13) (g13 undefV h)) fun t84 h =>
joinG (fun g12 => grdV t74 true (cf f_cmp_Less_int [t80, t84] h g12) (g12 undefV h)) fun t85 h =>
joinG (fun g11 => grdV t74 true (vNot t85 h g11) (g11 undefV h)) fun t86 h =>
vPick t74 t86 (.bool .false) h fun t87 h =>
vIf t87 (
cf f_slices_partitionEqualOrdered_int [t0, t1, t2, t11] h fun t92 h =>
e2 t92 t2 t3_4 t8 t9 h) (
s_slices_pdqsortOrdered_intB10 cf fuel e2 t1 t11 t2 t0 t3_4 t21 h)
noncomputable def s_slices_pdqsortOrdered_intL1B (cf : CallK) (fuel : Nat) (K : AV → Hp → Prop) (t0 : AV) (ih1 : AV → AV → AV → AV → AV → Hp → Prop) : AV → AV → AV → AV → AV → Hp → Prop := fun t1 t2 t3 t8 t9 h =>
(fun (e2 : AV → AV → AV → AV → AV → Hp → Prop) =>
vArith Go.Am.subI t2 t1 h fun t21 h =>
vLeq t21 (.int .i64 12) h fun t23 h =>
vIf t23 (
cf f_slices_insertionSortOrdered_int [t0, t1, t2] h fun t27 h =>
K (.tup []) h) (
vEql t3 (.int .i64 0) h fun t29 h =>
vIf t29 (
cf f_slices_heapSortOrdered_int [t0, t1, t2] h fun t33 h =>
K (.tup []) h) (
s_slices_pdqsortOrdered_intB22 cf fuel K e2 t3 t21 t1 t2 t0 t8 t9 h))) fun t1 t2 t3 t8 t9 h =>
ih1 t1 t2 t3 t8 t9 h
noncomputable def s_slices_pdqsortOrdered_intL1 (cf : CallK) (fuel : Nat) (K : AV → Hp → Prop) (t0 : AV) (m : Nat) : AV → AV → AV → AV → AV → Hp → Prop := Nat.rec (motive := fun _ => AV → AV → AV → AV → AV → Hp → Prop) (fun _ _ _ _ _ _ => False) (fun _ ih => s_slices_pdqsortOrdered_intL1B cf fuel K t0 ih) m
theorem s_slices_pdqsortOrdered_intL1_succ (cf : CallK) (fuel : Nat) (K : AV → Hp → Prop) (t0 : AV) (m : Nat) : s_slices_pdqsortOrdered_intL1 cf fuel K t0 (m + 1) = s_slices_pdqsortOrdered_intL1B cf fuel K t0 (s_slices_pdqsortOrdered_intL1 cf fuel K t0 m) := rfl
noncomputable def s_slices_pdqsortOrdered_int (cf : CallK) (fuel : Nat) (t0 : AV) (t1 : AV) (t2 : AV) (t3 : AV) (h : Hp) (K : AV → Hp → Prop) : Prop :=
(fun (e0 : Hp → Prop) =>
s_slices_pdqsortOrdered_intL1 cf fuel K t0 fuel t1 t2 t3 (.bool .true) (.bool .true) h) (s_slices_pdqsortOrdered_intE0 cf fuel K)
theorem s_slices_pdqsortOrdered_int_eq (cf : CallK) (fuel : Nat) (t0 : AV) (t1 : AV) (t2 : AV) (t3 : AV) (h : Hp) (K : AV → Hp → Prop) : s_slices_pdqsortOrdered_int cf fuel t0 t1 t2 t3 h K = deepT (tabOf Try.prog) f_slices_pdqsortOrdered_int cf fuel [t0, t1, t2, t3] h K :=
  Eq.trans (by kernel_rfl) (rFun (by kernel_rfl) (rSeq (by kernel_rfl) (rSeq (by kernel_rfl) (rBlock (by kernel_rfl) (rLoop (by kernel_rfl) (fun m1 fr h => s_slices_pdqsortOrdered_intL1 cf fuel K (getS fr (gpos 0)) m1 (getS fr (gpos 1)) (getS fr (gpos 2)) (getS fr (gpos 3)) (getS fr (gpos 8)) (getS fr (gpos 9)) h) (funext fun fr => funext fun h => by kernel_rfl) fun m1 => rCast (funext fun fr => funext fun h => by kernel_rfl) rExact)) rExact) rExact))

noncomputable def s_math_bits_Len (cf : CallK) (fuel : Nat) (t0 : AV) (h : Hp) (K : AV → Hp → Prop) : Prop :=
vIf (.bool .false) (
vToInt .u32 t0 h fun t4 h =>
cf f_math_bits_Len32 [t4] h fun t5 h =>
K t5 h) (
cf f_math_bits_Len64 [t0] h fun t7 h =>
K t7 h)
theorem s_math_bits_Len_eq (cf : CallK) (fuel : Nat) (t0 : AV) (h : Hp) (K : AV → Hp → Prop) : s_math_bits_Len cf fuel t0 h K = deepT (tabOf Try.prog) f_math_bits_Len cf fuel [t0] h K :=
  Eq.trans (by kernel_rfl) (rFun (by kernel_rfl) rExact)

noncomputable def s_clock_Valid (cf : CallK) (fuel : Nat) (t0 : AV) (h : Hp) (K : AV → Hp → Prop) : Prop :=
vBox 2 t0 h fun t1 h =>
vFaddr 0 t1 h fun t3 h =>
vLoad2 t3 h fun t4 h =>
vGeq t4 (.int .i64 1) h fun t5 h =>
joinG (fun g5 => grdV t5 true (vFaddr 0 t1 h g5) (g5 undefV h)) fun t7 h =>
joinG (fun g4 => grdV t5 true (vLoad2 t7 h g4) (g4 undefV h)) fun t8 h =>
joinG (fun g3 => grdV t5 true (vLeq t8 (.int .i64 1152921504606846976) h g3) (g3 undefV h)) fun t9 h =>
vPick t5 t9 (.bool .false) h fun t10 h =>
joinG (fun g2 => grdV t10 true (vFaddr 1 t1 h g2) (g2 undefV h)) fun t12 h =>
joinG (fun g1 => grdV t10 true (vLoad2 t12 h g1) (g1 undefV h)) fun t13 h =>
joinG (fun g0 => grdV t10 true (cf f_clock_node [t13] h g0) (g0 undefV h)) fun t14 h =>
vPick t10 t14 (.bool .false) h fun t15 h =>
K t15 h
theorem s_clock_Valid_eq (cf : CallK) (fuel : Nat) (t0 : AV) (h : Hp) (K : AV → Hp → Prop) : s_clock_Valid cf fuel t0 h K = deepT (tabOf Try.prog) f_clock_Valid cf fuel [t0] h K :=
  Eq.trans (by kernel_rfl) (rFun (by kernel_rfl) rExact)

noncomputable def s_ops_seenE1 (cf : CallK) (fuel : Nat) (K : AV → Hp → Prop) (t1 : AV) : Hp → Prop := fun h =>
vFaddr 10 t1 h fun t40 h =>
vLoad2 t40 h fun t41 h =>
vFaddr 0 t1 h fun t42 h =>
vFaddr 1 t42 h fun t43 h =>
vLoad2 t43 h fun t44 h =>
vFaddr 2 t1 h fun t46 h =>
vLoad2 t46 h fun t47 h =>
vArith Go.Am.subI t47 (.int .i64 1) h fun t48 h =>
cf f_vector_At [t41, t44] h fun t45 h =>
vLoad2 t46 h fun c _ => gd (sameV c t47) (
vEql t45 t48 h fun t49 h =>
K t49 h)
noncomputable def s_ops_seenL2B (cf : CallK) (fuel : Nat) (K : AV → Hp → Prop) (e1 : Hp → Prop) (t1 : AV) (t27 : AV) (t28 : AV) (ih2 : AV → Hp → Prop) : AV → Hp → Prop := fun t29 h =>
vLss t29 t28 h fun t30 h =>
vIf t30 (
(fun (e3 : Hp → Prop) =>
vIaddr 1 t27 t29 h fun t31 h =>
vLoad2 t31 h fun t32 h =>
vLss t32 (.int .i64 0) h fun t34 h =>
joinG (fun g5 => grdV t34 false (vMov t32 h g5) (g5 undefV h)) fun t36 h =>
joinG (fun g4 => grdV t34 false (vGtr t36 (.int .i64 1152921504606846976) h g4) (g4 undefV h)) fun t37 h =>
vPick t34 (.bool .true) t37 h fun t38 h =>
vIf t38 (
K (.bool .false) h) (
e3 h)) fun h =>
vAdd t29 (.int .i64 1) h fun t39 h =>
ih2 t39 h) (
e1 h)
noncomputable def s_ops_seenL2 (cf : CallK) (fuel : Nat) (K : AV → Hp → Prop) (e1 : Hp → Prop) (t1 : AV) (t27 : AV) (t28 : AV) (m : Nat) : AV → Hp → Prop := Nat.rec (motive := fun _ => AV → Hp → Prop) (fun _ _ => False) (fun _ ih => s_ops_seenL2B cf fuel K e1 t1 t27 t28 ih) m
theorem s_ops_seenL2_succ (cf : CallK) (fuel : Nat) (K : AV → Hp → Prop) (e1 : Hp → Prop) (t1 : AV) (t27 : AV) (t28 : AV) (m : Nat) : s_ops_seenL2 cf fuel K e1 t1 t27 t28 (m + 1) = s_ops_seenL2B cf fuel K e1 t1 t27 t28 (s_ops_seenL2 cf fuel K e1 t1 t27 t28 m) := rfl
noncomputable def s_ops_seenE0 (cf : CallK) (fuel : Nat) (K : AV → Hp → Prop) (t1 : AV) : AV → Hp → Prop := fun t3 h =>
vGtr t3 (.int .i64 64) h fun t23 h =>
vIf t23 (
K (.bool .false) h) (
vFaddr 10 t1 h fun t24 h =>
vLoad2 t24 h fun t25 h =>
vSlice2 1 t25 none (some t3) h fun t27 h =>
vLenL2 t27 h fun t28 h =>
(fun (e1 : Hp → Prop) =>
s_ops_seenL2 cf fuel K (s_ops_seenE1 cf fuel K t1) t1 t27 t28 fuel (.int .i64 0) h) (s_ops_seenE1 cf fuel K t1))
noncomputable def s_ops_seenL6B (cf : CallK) (fuel : Nat) (e0 : AV → Hp → Prop) (t1 : AV) (ih6 : AV → Hp → Prop) : AV → Hp → Prop := fun t3 h =>
vGtr t3 (.int .i64 0) h fun t10 h =>
joinG (fun g15 => grdV t10 true (vFaddr 10 t1 h g15) (g15 undefV h)) fun t12 h =>
joinG (fun g14 => grdV t10 true (vLoad2 t12 h g14) (g14 undefV h)) fun t13 h =>
joinG (fun g13 => grdV t10 true (vMov t3 h g13) (g13 undefV h)) fun t14 h =>
joinG (fun g12 => grdV t10 true (vArith Go.Am.subI t14 (.int .i64 1) h g12) (g12 undefV h)) fun t15 h =>
joinG (fun g11 => grdV t10 true (vIaddr 1 t13 t15 h g11) (g11 undefV h)) fun t16 h =>
joinG (fun g10 => grdV t10 true (vLoad2 t16 h g10) (g10 undefV h)) fun t17 h =>
joinG (fun g9 => grdV t10 true (vEql t17 (.int .i64 0) h g9) (g9 undefV h)) fun t18 h =>
vPick t10 t18 (.bool .false) h fun t19 h =>
vIf t19 (
(fun (e7 : AV → Hp → Prop) =>
vArith Go.Am.subI t3 (.int .i64 1) h fun t21 h =>
e7 t21 h) fun t3_8 h =>
ih6 t3_8 h) (
e0 t3 h)
noncomputable def s_ops_seenL6 (cf : CallK) (fuel : Nat) (e0 : AV → Hp → Prop) (t1 : AV) (m : Nat) : AV → Hp → Prop := Nat.rec (motive := fun _ => AV → Hp → Prop) (fun _ _ => False) (fun _ ih => s_ops_seenL6B cf fuel e0 t1 ih) m
theorem s_ops_seenL6_succ (cf : CallK) (fuel : Nat) (e0 : AV → Hp → Prop) (t1 : AV) (m : Nat) : s_ops_seenL6 cf fuel e0 t1 (m + 1) = s_ops_seenL6B cf fuel e0 t1 (s_ops_seenL6 cf fuel e0 t1 m) := rfl
noncomputable def s_ops_seen (cf : CallK) (fuel : Nat) (t0 : AV) (h : Hp) (K : AV → Hp → Prop) : Prop :=
vBox 11 t0 h fun t1 h =>
vFaddr 10 t1 h fun t6 h =>
vLoad2 t6 h fun t7 h =>
vLenL2 t7 h fun t8 h =>
(fun (e0 : AV → Hp → Prop) =>
s_ops_seenL6 cf fuel (s_ops_seenE0 cf fuel K t1) t1 fuel t8 h) (s_ops_seenE0 cf fuel K t1)
theorem s_ops_seen_eq (cf : CallK) (fuel : Nat) (t0 : AV) (h : Hp) (K : AV → Hp → Prop) : s_ops_seen cf fuel t0 h K = deepT (tabOf Try.prog) f_ops_seen cf fuel [t0] h K :=
  Eq.trans (by kernel_rfl) (rFun (by kernel_rfl) (rSeq (by kernel_rfl) (rSeq (by kernel_rfl) (rSeq (by kernel_rfl) (rSeq (by kernel_rfl) (rSeq (by kernel_rfl) rExact (rSeq (by kernel_rfl) (rBlock (by kernel_rfl) (rLoop (by kernel_rfl) (fun m2 fr h => s_ops_seenL2 cf fuel K (s_ops_seenE1 cf fuel K (getS fr (gpos 1))) (getS fr (gpos 1)) (getS fr (gpos 27)) (getS fr (gpos 28)) m2 (getS fr (gpos 29)) h) (funext fun fr => funext fun h => by kernel_rfl) fun m2 => rCast (funext fun fr => funext fun h => by kernel_rfl) rExact)) rExact)) rExact) (rBlock (by kernel_rfl) (rLoop (by kernel_rfl) (fun m6 fr h => s_ops_seenL6 cf fuel (s_ops_seenE0 cf fuel K (getS fr (gpos 1))) (getS fr (gpos 1)) m6 (getS fr (gpos 3)) h) (funext fun fr => funext fun h => by kernel_rfl) fun m6 => rCast (funext fun fr => funext fun h => by kernel_rfl) rExact))) rExact) rExact))

noncomputable def s_ops_Name (cf : CallK) (fuel : Nat) (t0 : AV) (h : Hp) (K : AV → Hp → Prop) : Prop :=
(fun (e0 : Hp → Prop) =>
vEql t0 (.str 0 0) h fun t5 h =>
joinG (fun g6 => grdV t5 false (vMov t0 h g6) (g6 undefV h)) fun t7 h =>
joinG (fun g5 => grdV t5 false (vEql t7 (.str 1 46) h g5) (g5 undefV h)) fun t8 h =>
vPick t5 (.bool .true) t8 h fun t9 h =>
joinG (fun g4 => grdV t9 false (vMov t0 h g4) (g4 undefV h)) fun t11 h =>
joinG (fun g3 => grdV t9 false (vEql t11 (.str 2 11822) h g3) (g3 undefV h)) fun t12 h =>
vPick t9 (.bool .true) t12 h fun t13 h =>
joinG (fun g2 => grdV t13 false (vMov t0 h g2) (g2 undefV h)) fun t15 h =>
joinG (fun g1 => grdV t13 false (cf f_strings_ContainsAny [t15, (.str 3 3080448)] h g1) (g1 undefV h)) fun t16 h =>
vPick t13 (.bool .true) t16 h fun t17 h =>
vIf t17 (
K (.int .i64 22) h) (
vLenS t0 h fun t20 h =>
vGtr t20 (.int .i64 64) h fun t21 h =>
vIf t21 (
K (.int .i64 36) h) (
e0 h))) fun h =>
K (.int .i64 0) h
theorem s_ops_Name_eq (cf : CallK) (fuel : Nat) (t0 : AV) (h : Hp) (K : AV → Hp → Prop) : s_ops_Name cf fuel t0 h K = deepT (tabOf Try.prog) f_ops_Name cf fuel [t0] h K :=
  Eq.trans (by kernel_rfl) (rFun (by kernel_rfl) rExact)

noncomputable def s_ops_earlier (cf : CallK) (fuel : Nat) (t0 : AV) (t1 : AV) (h : Hp) (K : AV → Hp → Prop) : Prop :=
vBox 2 t0 h fun t2 h =>
vBox 11 t1 h fun t3 h =>
vLoadA 2 t2 h fun t5 h =>
cf f_clock_Valid [t5] h fun t6 h =>
joinG (fun g3 => grdV t6 true (vLoadA 2 t2 h g3) (g3 undefV h)) fun t8 h =>
joinG (fun g2 => grdV t6 true (vFaddr 0 t3 h g2) (g2 undefV h)) fun t9 h =>
joinG (fun g1 => grdV t6 true (vLoadA 2 t9 h g1) (g1 undefV h)) fun t10 h =>
joinG (fun g0 => grdV t6 true (cf f_clock_Less [t8, t10] h g0) (g0 undefV h)) fun t11 h =>
vPick t6 t11 (.bool .false) h fun t12 h =>
K t12 h
theorem s_ops_earlier_eq (cf : CallK) (fuel : Nat) (t0 : AV) (t1 : AV) (h : Hp) (K : AV → Hp → Prop) : s_ops_earlier cf fuel t0 t1 h K = deepT (tabOf Try.prog) f_ops_earlier cf fuel [t0, t1] h K :=
  Eq.trans (by kernel_rfl) (rFun (by kernel_rfl) rExact)

noncomputable def s_ops_Trash (cf : CallK) (fuel : Nat) (h : Hp) (K : AV → Hp → Prop) : Prop :=
vBox 2 (.agg [(.int .i64 0), (.int .i64 0)]) h fun t0 h =>
vBuild [(.int .i64 0), (.int .i64 0)] [(1, 1, (.int .i64 1))] h fun t1 h =>
vStore 2 t0 t1 h fun _ h =>
vLoadA 2 t0 h fun r0 _ => K r0 h
theorem s_ops_Trash_eq (cf : CallK) (fuel : Nat) (h : Hp) (K : AV → Hp → Prop) : s_ops_Trash cf fuel h K = deepT (tabOf Try.prog) f_ops_Trash cf fuel [] h K :=
  Eq.trans (by kernel_rfl) (rFun (by kernel_rfl) rExact)

noncomputable def s_cmp_Compare_int64 (cf : CallK) (fuel : Nat) (t0 : AV) (t1 : AV) (h : Hp) (K : AV → Hp → Prop) : Prop :=
cf f_cmp_isNaN_int64 [t0] h fun t8 h =>
cf f_cmp_isNaN_int64 [t1] h fun t10 h =>
vIf t8 (
vIf t10 (
K (.int .i64 0) h) (
K (.int .i64 (-1)) h)) (
vIf t10 (
K (.int .i64 1) h) (
vLss t0 t1 h fun t16 h =>
vIf t16 (
K (.int .i64 (-1)) h) (
vGtr t0 t1 h fun t19 h =>
vIf t19 (
K (.int .i64 1) h) (
K (.int .i64 0) h))))
theorem s_cmp_Compare_int64_eq (cf : CallK) (fuel : Nat) (t0 : AV) (t1 : AV) (h : Hp) (K : AV → Hp → Prop) : s_cmp_Compare_int64 cf fuel t0 t1 h K = deepT (tabOf Try.prog) f_cmp_Compare_int64 cf fuel [t0, t1] h K :=
  Eq.trans (by kernel_rfl) (rFun (by kernel_rfl) rExact)

noncomputable def s_cmp_Compare_int (cf : CallK) (fuel : Nat) (t0 : AV) (t1 : AV) (h : Hp) (K : AV → Hp → Prop) : Prop :=
cf f_cmp_isNaN_int [t0] h fun t8 h =>
cf f_cmp_isNaN_int [t1] h fun t10 h =>
vIf t8 (
vIf t10 (
K (.int .i64 0) h) (
K (.int .i64 (-1)) h)) (
vIf t10 (
K (.int .i64 1) h) (
vLss t0 t1 h fun t16 h =>
vIf t16 (
K (.int .i64 (-1)) h) (
vGtr t0 t1 h fun t19 h =>
vIf t19 (
K (.int .i64 1) h) (
K (.int .i64 0) h))))
theorem s_cmp_Compare_int_eq (cf : CallK) (fuel : Nat) (t0 : AV) (t1 : AV) (h : Hp) (K : AV → Hp → Prop) : s_cmp_Compare_int cf fuel t0 t1 h K = deepT (tabOf Try.prog) f_cmp_Compare_int cf fuel [t0, t1] h K :=
  Eq.trans (by kernel_rfl) (rFun (by kernel_rfl) rExact)

-- 74 FAILS no body

end Go.Proofs.Ytnegmbnkccngoaa.sh2
