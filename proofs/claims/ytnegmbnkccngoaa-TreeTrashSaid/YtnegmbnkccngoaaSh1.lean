/- The Go functions' code as the abstract machine's, over values; each is the code that the machine makes of the program's (theorems s_.._eq). No condition. -/
import Derived.Test.YtnegmbnkccngoaaAmC
import Derived.Test.YtnegmbnkccngoaaProg
import Derived.KernelRfl
namespace Go.Proofs.Ytnegmbnkccngoaa.sh1
open Go Go.Am Go.Proofs
set_option linter.unusedVariables false
set_option maxRecDepth 100000
abbrev f_bcache_Cache_Has : Nat := 25
abbrev f_bcache_Cache_got : Nat := 29
abbrev f_bcache_Cache_use : Nat := 54
abbrev f_bytes_Clone : Nat := 30
abbrev f_clock_Cmp : Nat := 39
abbrev f_clock_Valid : Nat := 67
abbrev f_cmp_Compare_int : Nat := 73
abbrev f_cmp_Compare_int64 : Nat := 72
abbrev f_device_Device_Flush : Nat := 58
abbrev f_device_Device_Write : Nat := 59
abbrev f_lagoonref4_At : Nat := 48
abbrev f_lagoonref4_Norm : Nat := 47
abbrev f_lagoonref4_Same : Nat := 33
abbrev f_lagoonref4_short : Nat := 49
abbrev f_math_bits_Len : Nat := 66
abbrev f_movetree_Tree_Apply_1 : Nat := 38
abbrev f_movetree_Tree_Dir : Nat := 34
abbrev f_movetree_Tree_Parent : Nat := 32
abbrev f_movetree_Tree_Skipped : Nat := 35
abbrev f_movetree_Tree_do : Nat := 46
abbrev f_movetree_Tree_may : Nat := 76
abbrev f_movetree_Tree_undo : Nat := 43
abbrev f_movetree_each : Nat := 42
abbrev f_movetree_fixed : Nat := 51
abbrev f_ops_Copy : Nat := 44
abbrev f_ops_May : Nat := 36
abbrev f_ops_Name : Nat := 69
abbrev f_ops_Root : Nat := 50
abbrev f_ops_Trash : Nat := 71
abbrev f_ops_earlier : Nat := 70
abbrev f_ops_seen : Nat := 68
abbrev f_slices_BinarySearchFunc_movetree_done_movetree_done_api_ID : Nat := 37
abbrev f_slices_Clone_movetree_done_movetree_done : Nat := 40
abbrev f_slices_Insert_movetree_done_movetree_done : Nat := 45
abbrev f_slices_Reverse_movetree_done_movetree_done : Nat := 41
abbrev f_slices_Sort_int_int : Nat := 31
abbrev f_slices_pdqsortOrdered_int : Nat := 65
abbrev f_wal_Format : Nat := 27
abbrev f_wal_Mount : Nat := 28
abbrev f_wal_Volume_Read : Nat := 24
abbrev f_wal_head : Nat := 60
abbrev f_wal_room : Nat := 56
abbrev f_wal_wrote : Nat := 57

noncomputable def s_wal_FormatE2 (cf : CallK) (fuel : Nat) (K : AV → Hp → Prop) : Hp → Prop := fun h =>
K (.int .i64 0) h
noncomputable def s_wal_FormatL3B (cf : CallK) (fuel : Nat) (K : AV → Hp → Prop) (e2 : Hp → Prop) (t52 : AV) (t53 : AV) (ih3 : AV → Hp → Prop) : AV → Hp → Prop := fun t54 h =>
vLss t54 t53 h fun t55 h =>
vIf t55 (
(fun (e4 : Hp → Prop) =>
vIaddr 1 t52 t54 h fun t56 h =>
vLoad2 t56 h fun t57 h =>
vNeq t57 (.int .i64 0) h fun t59 h =>
vIf t59 (
K t57 h) (
e4 h)) fun h =>
vAdd t54 (.int .i64 1) h fun t61 h =>
ih3 t61 h) (
e2 h)
noncomputable def s_wal_FormatL3 (cf : CallK) (fuel : Nat) (K : AV → Hp → Prop) (e2 : Hp → Prop) (t52 : AV) (t53 : AV) (m : Nat) : AV → Hp → Prop := Nat.rec (motive := fun _ => AV → Hp → Prop) (fun _ _ => False) (fun _ ih => s_wal_FormatL3B cf fuel K e2 t52 t53 ih) m
theorem s_wal_FormatL3_succ (cf : CallK) (fuel : Nat) (K : AV → Hp → Prop) (e2 : Hp → Prop) (t52 : AV) (t53 : AV) (m : Nat) : s_wal_FormatL3 cf fuel K e2 t52 t53 (m + 1) = s_wal_FormatL3B cf fuel K e2 t52 t53 (s_wal_FormatL3 cf fuel K e2 t52 t53 m) := rfl
noncomputable def s_wal_FormatE1 (cf : CallK) (fuel : Nat) (K : AV → Hp → Prop) (t0 : AV) : Hp → Prop := fun h =>
cf f_device_Device_Flush [t0] h fun t46 h =>
cf f_wal_head [(.int .i64 0), (.int .i64 0)] h fun t48 h =>
cf f_device_Device_Write [t0, (.int .i64 0), t48] h fun t49 h =>
cf f_device_Device_Flush [t0] h fun t51 h =>
vBslice 1 3 false [(.int .i64 0)] [(0, 1, t46), (1, 1, t49), (2, 1, t51)] h fun t52 h =>
vLenL2 t52 h fun t53 h =>
(fun (e2 : Hp → Prop) =>
s_wal_FormatL3 cf fuel K (s_wal_FormatE2 cf fuel K) t52 t53 fuel (.int .i64 0) h) (s_wal_FormatE2 cf fuel K)
noncomputable def s_wal_FormatL5B (cf : CallK) (fuel : Nat) (K : AV → Hp → Prop) (e1 : Hp → Prop) (t0 : AV) (t3 : AV) (t32 : AV) (ih5 : AV → Hp → Prop) : AV → Hp → Prop := fun t33 h =>
vLss t33 t32 h fun t34 h =>
vIf t34 (
(fun (e6 : Hp → Prop) =>
vAdd (.int .i64 8) t33 h fun t38 h =>
cf f_wal_wrote [t0, t38, t3] h fun t40 h =>
vNeq t40 (.int .i64 0) h fun t42 h =>
vIf t42 (
K t40 h) (
e6 h)) fun h =>
vAdd t33 (.int .i64 1) h fun t44 h =>
ih5 t44 h) (
e1 h)
noncomputable def s_wal_FormatL5 (cf : CallK) (fuel : Nat) (K : AV → Hp → Prop) (e1 : Hp → Prop) (t0 : AV) (t3 : AV) (t32 : AV) (m : Nat) : AV → Hp → Prop := Nat.rec (motive := fun _ => AV → Hp → Prop) (fun _ _ => False) (fun _ ih => s_wal_FormatL5B cf fuel K e1 t0 t3 t32 ih) m
theorem s_wal_FormatL5_succ (cf : CallK) (fuel : Nat) (K : AV → Hp → Prop) (e1 : Hp → Prop) (t0 : AV) (t3 : AV) (t32 : AV) (m : Nat) : s_wal_FormatL5 cf fuel K e1 t0 t3 t32 (m + 1) = s_wal_FormatL5B cf fuel K e1 t0 t3 t32 (s_wal_FormatL5 cf fuel K e1 t0 t3 t32 m) := rfl
noncomputable def s_wal_FormatE0 (cf : CallK) (fuel : Nat) (K : AV → Hp → Prop) (t0 : AV) (t3 : AV) : Hp → Prop := fun h =>
cf f_device_Device_Flush [t0] h fun t27 h =>
vNeq t27 (.int .i64 0) h fun t29 h =>
vIf t29 (
K t27 h) (
cf f_wal_room [t0] h fun t32 h =>
(fun (e1 : Hp → Prop) =>
s_wal_FormatL5 cf fuel K (s_wal_FormatE1 cf fuel K t0) t0 t3 t32 fuel (.int .i64 0) h) (s_wal_FormatE1 cf fuel K t0))
noncomputable def s_wal_FormatL7B (cf : CallK) (fuel : Nat) (K : AV → Hp → Prop) (e0 : Hp → Prop) (t0 : AV) (t3 : AV) (ih7 : AV → Hp → Prop) : AV → Hp → Prop := fun t15 h =>
vLss t15 (.int .i64 2) h fun t16 h =>
vIf t16 (
(fun (e8 : Hp → Prop) =>
cf f_wal_wrote [t0, t15, t3] h fun t21 h =>
vNeq t21 (.int .i64 0) h fun t23 h =>
vIf t23 (
K t21 h) (
e8 h)) fun h =>
vAdd t15 (.int .i64 1) h fun t25 h =>
ih7 t25 h) (
e0 h)
noncomputable def s_wal_FormatL7 (cf : CallK) (fuel : Nat) (K : AV → Hp → Prop) (e0 : Hp → Prop) (t0 : AV) (t3 : AV) (m : Nat) : AV → Hp → Prop := Nat.rec (motive := fun _ => AV → Hp → Prop) (fun _ _ => False) (fun _ ih => s_wal_FormatL7B cf fuel K e0 t0 t3 ih) m
theorem s_wal_FormatL7_succ (cf : CallK) (fuel : Nat) (K : AV → Hp → Prop) (e0 : Hp → Prop) (t0 : AV) (t3 : AV) (m : Nat) : s_wal_FormatL7 cf fuel K e0 t0 t3 (m + 1) = s_wal_FormatL7B cf fuel K e0 t0 t3 (s_wal_FormatL7 cf fuel K e0 t0 t3 m) := rfl
noncomputable def s_wal_Format (cf : CallK) (fuel : Nat) (t0 : AV) (h : Hp) (K : AV → Hp → Prop) : Prop :=
cf f_wal_room [t0] h fun t12 h =>
vEql t12 (.int .i64 0) h fun t13 h =>
vIf t13 (
K (.int .i64 22) h) (
vMkSlice 1 1 true [(.int .u8 0)] (.int .i64 512) (.int .i64 512) h fun t14 h =>
(fun (e0 : Hp → Prop) =>
s_wal_FormatL7 cf fuel K (s_wal_FormatE0 cf fuel K t0 t14) t0 t14 fuel (.int .i64 0) h) (s_wal_FormatE0 cf fuel K t0 t14))
theorem s_wal_Format_eq (cf : CallK) (fuel : Nat) (t0 : AV) (h : Hp) (K : AV → Hp → Prop) : s_wal_Format cf fuel t0 h K = deepT (tabOf Try.prog) f_wal_Format cf fuel [t0] h K :=
  Eq.trans (by kernel_rfl) (rFun (by kernel_rfl) (rSeq (by kernel_rfl) (rSeq (by kernel_rfl) (rSeq (by kernel_rfl) (rSeq (by kernel_rfl) (rSeq (by kernel_rfl) (rSeq (by kernel_rfl) (rSeq (by kernel_rfl) rExact (rSeq (by kernel_rfl) (rBlock (by kernel_rfl) (rLoop (by kernel_rfl) (fun m3 fr h => s_wal_FormatL3 cf fuel K (s_wal_FormatE2 cf fuel K) (getS fr (gpos 52)) (getS fr (gpos 53)) m3 (getS fr (gpos 54)) h) (funext fun fr => funext fun h => by kernel_rfl) fun m3 => rCast (funext fun fr => funext fun h => by kernel_rfl) rExact)) rExact)) (rSeq (by kernel_rfl) (rBlock (by kernel_rfl) (rLoop (by kernel_rfl) (fun m5 fr h => s_wal_FormatL5 cf fuel K (s_wal_FormatE1 cf fuel K (getS fr (gpos 0))) (getS fr (gpos 0)) (getS fr (gpos 3)) (getS fr (gpos 32)) m5 (getS fr (gpos 33)) h) (funext fun fr => funext fun h => by kernel_rfl) fun m5 => rCast (funext fun fr => funext fun h => by kernel_rfl) rExact)) rExact)) rExact) (rSeq (by kernel_rfl) (rBlock (by kernel_rfl) (rLoop (by kernel_rfl) (fun m7 fr h => s_wal_FormatL7 cf fuel K (s_wal_FormatE0 cf fuel K (getS fr (gpos 0)) (getS fr (gpos 3))) (getS fr (gpos 0)) (getS fr (gpos 3)) m7 (getS fr (gpos 15)) h) (funext fun fr => funext fun h => by kernel_rfl) fun m7 => rCast (funext fun fr => funext fun h => by kernel_rfl) rExact)) rExact)) rExact) rExact) rExact))

noncomputable def s_wal_MountE0 (cf : CallK) (fuel : Nat) (K : AV → Hp → Prop) (t4 : AV) : Hp → Prop := fun h =>
K (.tup [t4, (.int .i64 0)]) h
noncomputable def s_wal_MountL1B (cf : CallK) (fuel : Nat) (K : AV → Hp → Prop) (e0 : Hp → Prop) (t4 : AV) (t19 : AV) (t20 : AV) (ih1 : AV → Hp → Prop) : AV → Hp → Prop := fun t21 h =>
vLss t21 t20 h fun t22 h =>
vIf t22 (
(fun (e2 : Hp → Prop) =>
vIaddr 1 t19 t21 h fun t23 h =>
vLoad2 t23 h fun t24 h =>
vCallV t24 [] cf h fun t26 h =>
vNeq t26 (.int .i64 0) h fun t28 h =>
vIf t28 (
K (.tup [.nilptr, t26]) h) (
e2 h)) fun h =>
vAdd t21 (.int .i64 1) h fun t30 h =>
ih1 t30 h) (
e0 h)
noncomputable def s_wal_MountL1 (cf : CallK) (fuel : Nat) (K : AV → Hp → Prop) (e0 : Hp → Prop) (t4 : AV) (t19 : AV) (t20 : AV) (m : Nat) : AV → Hp → Prop := Nat.rec (motive := fun _ => AV → Hp → Prop) (fun _ _ => False) (fun _ ih => s_wal_MountL1B cf fuel K e0 t4 t19 t20 ih) m
theorem s_wal_MountL1_succ (cf : CallK) (fuel : Nat) (K : AV → Hp → Prop) (e0 : Hp → Prop) (t4 : AV) (t19 : AV) (t20 : AV) (m : Nat) : s_wal_MountL1 cf fuel K e0 t4 t19 t20 (m + 1) = s_wal_MountL1B cf fuel K e0 t4 t19 t20 (s_wal_MountL1 cf fuel K e0 t4 t19 t20 m) := rfl
noncomputable def s_wal_Mount (cf : CallK) (fuel : Nat) (t0 : AV) (h : Hp) (K : AV → Hp → Prop) : Prop :=
vBuild [.nilptr, .nilslice, (.int .i64 0), (.int .i64 0), (.bool .false), (.bool .false)] [(0, 1, t0)] h fun t9 h =>
vBox 6 t9 h fun t10 h =>
vFunc 61 [t10] [] h fun t12 h =>
vFunc 62 [t10] [] h fun t14 h =>
vFunc 63 [t10] [] h fun t16 h =>
vFunc 64 [t10] [] h fun t18 h =>
vBslice 1 4 false [.nilfunc] [(0, 1, t12), (1, 1, t14), (2, 1, t16), (3, 1, t18)] h fun t19 h =>
vLenL2 t19 h fun t20 h =>
(fun (e0 : Hp → Prop) =>
s_wal_MountL1 cf fuel K (s_wal_MountE0 cf fuel K t10) t10 t19 t20 fuel (.int .i64 0) h) (s_wal_MountE0 cf fuel K t10)
theorem s_wal_Mount_eq (cf : CallK) (fuel : Nat) (t0 : AV) (h : Hp) (K : AV → Hp → Prop) : s_wal_Mount cf fuel t0 h K = deepT (tabOf Try.prog) f_wal_Mount cf fuel [t0] h K :=
  Eq.trans (by kernel_rfl) (rFun (by kernel_rfl) (rSeq (by kernel_rfl) (rSeq (by kernel_rfl) (rSeq (by kernel_rfl) rExact (rSeq (by kernel_rfl) (rBlock (by kernel_rfl) (rLoop (by kernel_rfl) (fun m1 fr h => s_wal_MountL1 cf fuel K (s_wal_MountE0 cf fuel K (getS fr (gpos 4))) (getS fr (gpos 4)) (getS fr (gpos 19)) (getS fr (gpos 20)) m1 (getS fr (gpos 21)) h) (funext fun fr => funext fun h => by kernel_rfl) fun m1 => rCast (funext fun fr => funext fun h => by kernel_rfl) rExact)) rExact)) rExact) rExact))

noncomputable def s_bcache_Cache_gotB1 (cf : CallK) (fuel : Nat) (e0 : Hp → Prop) (t0 : AV) (t26 : AV) (h : Hp) : Prop :=
vIf t26 (
vNilck t0 h fun t47 h =>
vFaddr 4 t47 h fun t48 h =>
vLoad2 t48 h fun t49 h =>
vAdd t49 (.int .i64 1) h fun t50 h =>
vNilck t0 h fun t51 h =>
vFaddr 4 t51 h fun t52 h =>
vStore 1 t52 t50 h fun _ h =>
e0 h) (
vNilck t0 h fun t35 h =>
vFaddr 5 t35 h fun t36 h =>
vLoad2 t36 h fun t37 h =>
vAdd t37 (.int .i64 1) h fun t38 h =>
vNilck t0 h fun t39 h =>
vFaddr 5 t39 h fun t40 h =>
vStore 1 t40 t38 h fun _ h =>
e0 h)
noncomputable def s_bcache_Cache_gotB2 (cf : CallK) (fuel : Nat) (K : AV → Hp → Prop) (t0 : AV) (t1 : AV) (h : Hp) : Prop :=
vNilck t0 h fun t14 h =>
vFaddr 0 t14 h fun t15 h =>
vLoad2 t15 h fun t16 h =>
cf f_wal_Volume_Read [t16, t1] h fun t18 h =>
vExtract 0 t18 h fun t19 h =>
vExtract 1 t18 h fun t20 h =>
vNeq t20 (.int .i64 0) h fun t22 h =>
vIf t22 (
K (.tup [.nilptr, t20]) h) (
cf f_bcache_Cache_Has [t0, t1] h fun t26 h =>
cf f_bcache_Cache_use [t0, t1, t19] h fun t31 h =>
vExtract 0 t31 h fun t32 h =>
vExtract 1 t31 h fun t33 h =>
(fun (e0 : Hp → Prop) =>
vNeq t33 (.int .i64 0) h fun t43 h =>
vIf t43 (
e0 h) (
s_bcache_Cache_gotB1 cf fuel e0 t0 t26 h)) fun h =>
K (.tup [t32, t33]) h)
noncomputable def s_bcache_Cache_got (cf : CallK) (fuel : Nat) (t0 : AV) (t1 : AV) (h : Hp) (K : AV → Hp → Prop) : Prop :=
vEq false eqP t0 .nilptr h fun t11 h =>
vIf t11 (
K (.tup [.nilptr, (.int .i64 22)]) h) (
s_bcache_Cache_gotB2 cf fuel K t0 t1 h)
theorem s_bcache_Cache_got_eq (cf : CallK) (fuel : Nat) (t0 : AV) (t1 : AV) (h : Hp) (K : AV → Hp → Prop) : s_bcache_Cache_got cf fuel t0 t1 h K = deepT (tabOf Try.prog) f_bcache_Cache_got cf fuel [t0, t1] h K :=
  Eq.trans (by kernel_rfl) (rFun (by kernel_rfl) rExact)

noncomputable def s_bytes_Clone (cf : CallK) (fuel : Nat) (t0 : AV) (h : Hp) (K : AV → Hp → Prop) : Prop :=
vEq false eqNS t0 .nilslice h fun t4 h =>
vIf t4 (
K .nilslice h) (
vBslice 1 0 true [(.int .u8 0)] [] h fun t5 h =>
vAppend2 1 1 true t5 t0 h fun t7 h =>
K t7 h)
theorem s_bytes_Clone_eq (cf : CallK) (fuel : Nat) (t0 : AV) (h : Hp) (K : AV → Hp → Prop) : s_bytes_Clone cf fuel t0 h K = deepT (tabOf Try.prog) f_bytes_Clone cf fuel [t0] h K :=
  Eq.trans (by kernel_rfl) (rFun (by kernel_rfl) rExact)

noncomputable def s_slices_Sort_int_int (cf : CallK) (fuel : Nat) (t0 : AV) (h : Hp) (K : AV → Hp → Prop) : Prop :=
vLenL2 t0 h fun t4 h =>
vToInt .u64 t4 h fun t8 h =>
cf f_math_bits_Len [t8] h fun t9 h =>
cf f_slices_pdqsortOrdered_int [t0, (.int .i64 0), t4, t9] h fun t10 h =>
K (.tup []) h
theorem s_slices_Sort_int_int_eq (cf : CallK) (fuel : Nat) (t0 : AV) (h : Hp) (K : AV → Hp → Prop) : s_slices_Sort_int_int cf fuel t0 h K = deepT (tabOf Try.prog) f_slices_Sort_int_int cf fuel [t0] h K :=
  Eq.trans (by kernel_rfl) (rFun (by kernel_rfl) rExact)

noncomputable def s_movetree_Tree_ParentB0 (cf : CallK) (fuel : Nat) (K : AV → Hp → Prop) (t0 : AV) (t4 : AV) (t3 : AV) (h : Hp) : Prop :=
vNilck t0 h fun t14 h =>
vFaddr 0 t14 h fun t15 h =>
vLoad2 t15 h fun t16 h =>
vLoadA 2 t3 h fun t17 h =>
vLookup Go.Am.eqPair true (.agg [(.bool .false), (.int .i64 0), (.int .i64 0), (.str 0 0)]) t16 t17 h fun t18 h =>
vExtract 0 t18 h fun t19 h =>
vExtract 1 t18 h fun t20 h =>
vBox 4 (.agg [(.bool .false), (.int .i64 0), (.int .i64 0), (.str 0 0)]) h fun t7 h =>
vLoad2 t15 h fun c _ => gd (sameV c t16) (
vLoadA 2 t3 h fun c _ => gd (sameV c t17) (
vLookup Go.Am.eqPair true (.agg [(.bool .false), (.int .i64 0), (.int .i64 0), (.str 0 0)]) t16 t17 h fun c _ => gd (sameV c t18) (
vStore 4 t7 t19 h fun _ h =>
vFaddr 1 t7 h fun t21 h =>
vLoadA 2 t21 h fun t22 h =>
vFaddr 3 t7 h fun t23 h =>
vLoad2 t23 h fun t24 h =>
vStore 2 t4 t22 h fun _ h =>
vLoad2 t23 h fun c _ => gd (sameV c t24) (
vLoadA 2 t4 h fun r0 _ => K (.tup [r0, t24, t20]) h))))
noncomputable def s_movetree_Tree_Parent (cf : CallK) (fuel : Nat) (t0 : AV) (t1 : AV) (h : Hp) (K : AV → Hp → Prop) : Prop :=
vBox 2 t1 h fun t3 h =>
vBox 2 (.agg [(.int .i64 0), (.int .i64 0)]) h fun t4 h =>
vEq false eqP t0 .nilptr h fun t10 h =>
vIf t10 (
vBuild [(.int .i64 0), (.int .i64 0)] [] h fun t11 h =>
vStore 2 t4 t11 h fun _ h =>
vLoadA 2 t4 h fun r0 _ => K (.tup [r0, (.str 0 0), (.bool .false)]) h) (
s_movetree_Tree_ParentB0 cf fuel K t0 t4 t3 h)
theorem s_movetree_Tree_Parent_eq (cf : CallK) (fuel : Nat) (t0 : AV) (t1 : AV) (h : Hp) (K : AV → Hp → Prop) : s_movetree_Tree_Parent cf fuel t0 t1 h K = deepT (tabOf Try.prog) f_movetree_Tree_Parent cf fuel [t0, t1] h K :=
  Eq.trans (by kernel_rfl) (rFun (by kernel_rfl) rExact)

noncomputable def s_lagoonref4_Same (cf : CallK) (fuel : Nat) (t0 : AV) (t1 : AV) (h : Hp) (K : AV → Hp → Prop) : Prop :=
vBox 2 t0 h fun t2 h =>
vBox 2 t1 h fun t3 h =>
vFaddr 0 t2 h fun t5 h =>
vLoad2 t5 h fun t6 h =>
vFaddr 0 t3 h fun t7 h =>
vLoad2 t7 h fun t8 h =>
vEql t6 t8 h fun t9 h =>
joinG (fun g4 => grdV t9 true (vFaddr 1 t2 h g4) (g4 undefV h)) fun t11 h =>
joinG (fun g3 => grdV t9 true (vLoad2 t11 h g3) (g3 undefV h)) fun t12 h =>
joinG (fun g2 => grdV t9 true (vFaddr 1 t3 h g2) (g2 undefV h)) fun t13 h =>
joinG (fun g1 => grdV t9 true (vLoad2 t13 h g1) (g1 undefV h)) fun t14 h =>
joinG (fun g0 => grdV t9 true (vEql t12 t14 h g0) (g0 undefV h)) fun t15 h =>
vPick t9 t15 (.bool .false) h fun t16 h =>
K t16 h
theorem s_lagoonref4_Same_eq (cf : CallK) (fuel : Nat) (t0 : AV) (t1 : AV) (h : Hp) (K : AV → Hp → Prop) : s_lagoonref4_Same cf fuel t0 t1 h K = deepT (tabOf Try.prog) f_lagoonref4_Same cf fuel [t0, t1] h K :=
  Eq.trans (by kernel_rfl) (rFun (by kernel_rfl) rExact)

noncomputable def s_movetree_Tree_Dir (cf : CallK) (fuel : Nat) (t0 : AV) (t1 : AV) (h : Hp) (K : AV → Hp → Prop) : Prop :=
vBox 2 t1 h fun t3 h =>
vEq true eqP t0 .nilptr h fun t6 h =>
joinG (fun g10 => grdV t6 true (vLoadA 2 t3 h g10) (g10 undefV h)) fun t8 h =>
joinG (fun g9 => grdV t6 true (cf f_movetree_fixed [t8] h g9) (g9 undefV h)) fun t9 h =>
joinG (fun g8 => grdV t6 true (vMov t9 h g8) (g8 undefV h)) fun t10 h =>
joinG (fun g7 => grdV t10 false (vMov t0 h g7) (g7 undefV h)) fun t11 h =>
joinG (fun g6 => grdV t10 false (vNilck t11 h g6) (g6 undefV h)) fun t12 h =>
joinG (fun g5 => grdV t10 false (vFaddr 0 t12 h g5) (g5 undefV h)) fun t13 h =>
joinG (fun g4 => grdV t10 false (vLoad2 t13 h g4) (g4 undefV h)) fun t14 h =>
joinG (fun g3 => grdV t10 false (vLoadA 2 t3 h g3) (g3 undefV h)) fun t15 h =>
joinG (fun g2 => grdV t10 false (vLookup Go.Am.eqPair false (.agg [(.bool .false), (.int .i64 0), (.int .i64 0), (.str 0 0)]) t14 t15 h g2) (g2 undefV h)) fun t16 h =>
joinG (fun g1 => grdV t10 false (vField 0 t16 h g1) (g1 undefV h)) fun t17 h =>
joinG (fun g0 => grdV t6 true (vPick t10 (.bool .true) t17 h g0) (g0 undefV h)) fun t18 h =>
vPick t6 t18 (.bool .false) h fun t19 h =>
K t19 h
theorem s_movetree_Tree_Dir_eq (cf : CallK) (fuel : Nat) (t0 : AV) (t1 : AV) (h : Hp) (K : AV → Hp → Prop) : s_movetree_Tree_Dir cf fuel t0 t1 h K = deepT (tabOf Try.prog) f_movetree_Tree_Dir cf fuel [t0, t1] h K :=
  Eq.trans (by kernel_rfl) (rFun (by kernel_rfl) rExact)

noncomputable def s_movetree_Tree_SkippedJ0 (cf : CallK) (fuel : Nat) (K : AV → Hp → Prop) : AV → Hp → Prop := fun t3 h =>
K t3 h
noncomputable def s_movetree_Tree_SkippedE1 (cf : CallK) (fuel : Nat) (j0 : AV → Hp → Prop) : AV → Hp → Prop := fun t3 h =>
j0 t3 h
noncomputable def s_movetree_Tree_SkippedB7 (cf : CallK) (fuel : Nat) (ih2 : AV → AV → Hp → Prop) (t11 : AV) (t3 : AV) (t13 : AV) (h : Hp) : Prop :=
(fun (e3 : AV → Hp → Prop) =>
vIaddr 17 t11 t13 h fun t15 h =>
vLoadA 17 t15 h fun t16 h =>
vBox 17 (.agg [(.int .i64 0), (.int .i64 0), (.int .i64 0), (.int .i64 0), (.int .i64 0), (.int .i64 0), (.int .i64 0), (.int .i64 0), (.str 0 0), .nilslice, .nilslice, (.bool .false), (.int .i64 0), (.int .i64 0), (.str 0 0), (.bool .false), (.bool .false)]) h fun t5 h =>
vStore 17 t5 t16 h fun _ h =>
vFaddr 0 t5 h fun t17 h =>
vFaddr 3 t17 h fun t18 h =>
vLoad2 t18 h fun t19 h =>
vNeq t19 (.int .i64 4) h fun t20 h =>
joinG (fun g6 => grdV t20 true (vFaddr 16 t5 h g6) (g6 undefV h)) fun t22 h =>
joinG (fun g5 => grdV t20 true (vLoad2 t22 h g5) (g5 undefV h)) fun t23 h =>
joinG (fun g4 => grdV t20 true (vNot t23 h g4) (g4 undefV h)) fun t24 h =>
vPick t20 t24 (.bool .false) h fun t25 h =>
vIf t25 (
vAdd t3 (.int .i64 1) h fun t27 h =>
e3 t27 h) (
e3 t3 h)) fun t3 h =>
vAdd t13 (.int .i64 1) h fun t28 h =>
ih2 t3 t28 h
noncomputable def s_movetree_Tree_SkippedL2B (cf : CallK) (fuel : Nat) (e1 : AV → Hp → Prop) (t11 : AV) (t12 : AV) (ih2 : AV → AV → Hp → Prop) : AV → AV → Hp → Prop := fun t3 t13 h =>
vLss t13 t12 h fun t14 h =>
vIf t14 (
s_movetree_Tree_SkippedB7 cf fuel ih2 t11 t3 t13 h) (
e1 t3 h)
noncomputable def s_movetree_Tree_SkippedL2 (cf : CallK) (fuel : Nat) (e1 : AV → Hp → Prop) (t11 : AV) (t12 : AV) (m : Nat) : AV → AV → Hp → Prop := Nat.rec (motive := fun _ => AV → AV → Hp → Prop) (fun _ _ _ => False) (fun _ ih => s_movetree_Tree_SkippedL2B cf fuel e1 t11 t12 ih) m
theorem s_movetree_Tree_SkippedL2_succ (cf : CallK) (fuel : Nat) (e1 : AV → Hp → Prop) (t11 : AV) (t12 : AV) (m : Nat) : s_movetree_Tree_SkippedL2 cf fuel e1 t11 t12 (m + 1) = s_movetree_Tree_SkippedL2B cf fuel e1 t11 t12 (s_movetree_Tree_SkippedL2 cf fuel e1 t11 t12 m) := rfl
noncomputable def s_movetree_Tree_Skipped (cf : CallK) (fuel : Nat) (t0 : AV) (h : Hp) (K : AV → Hp → Prop) : Prop :=
(fun (j0 : AV → Hp → Prop) =>
vEq true eqP t0 .nilptr h fun t7 h =>
vIf t7 (
vNilck t0 h fun t9 h =>
vFaddr 1 t9 h fun t10 h =>
vLoad2 t10 h fun t11 h =>
vLenL2 t11 h fun t12 h =>
(fun (e1 : AV → Hp → Prop) =>
s_movetree_Tree_SkippedL2 cf fuel (s_movetree_Tree_SkippedE1 cf fuel (s_movetree_Tree_SkippedJ0 cf fuel K)) t11 t12 fuel (.int .i64 0) (.int .i64 0) h) (s_movetree_Tree_SkippedE1 cf fuel (s_movetree_Tree_SkippedJ0 cf fuel K))) (
j0 (.int .i64 0) h)) (s_movetree_Tree_SkippedJ0 cf fuel K)
theorem s_movetree_Tree_Skipped_eq (cf : CallK) (fuel : Nat) (t0 : AV) (h : Hp) (K : AV → Hp → Prop) : s_movetree_Tree_Skipped cf fuel t0 h K = deepT (tabOf Try.prog) f_movetree_Tree_Skipped cf fuel [t0] h K :=
  Eq.trans (by kernel_rfl) (rFun (by kernel_rfl) (rSeq (by kernel_rfl) (rSeq (by kernel_rfl) (rSeq (by kernel_rfl) rExact (rSeq (by kernel_rfl) (rCond (by kernel_rfl) (rSeq (by kernel_rfl) (rBlock (by kernel_rfl) (rLoop (by kernel_rfl) (fun m2 fr h => s_movetree_Tree_SkippedL2 cf fuel (s_movetree_Tree_SkippedE1 cf fuel (s_movetree_Tree_SkippedJ0 cf fuel K)) (getS fr (gpos 11)) (getS fr (gpos 12)) m2 (getS fr (gpos 3)) (getS fr (gpos 13)) h) (funext fun fr => funext fun h => by kernel_rfl) fun m2 => rCast (funext fun fr => funext fun h => by kernel_rfl) rExact)) rExact) rExact) rExact)) rExact) rExact))

noncomputable def s_ops_MayB24 (cf : CallK) (fuel : Nat) (K : AV → Hp → Prop) (t1 : AV) (h : Hp) : Prop :=
vFaddr 4 t1 h fun t80 h =>
vLoadA 2 t80 h fun t81 h =>
vLoadA 11 t1 h fun t82 h =>
cf f_ops_earlier [t81, t82] h fun t83 h =>
joinG (fun g23 => grdV t83 true (vFaddr 6 t1 h g23) (g23 undefV h)) fun t85 h =>
joinG (fun g22 => grdV t83 true (vLoadA 2 t85 h g22) (g22 undefV h)) fun t86 h =>
joinG (fun g21 => grdV t83 true (vBuild [(.int .i64 0), (.int .i64 0)] [] h g21) (g21 undefV h)) fun t87 h =>
joinG (fun g20 => grdV t83 true (vEq false eqPairS t86 t87 h g20) (g20 undefV h)) fun t88 h =>
vPick t83 t88 (.bool .false) h fun t89 h =>
joinG (fun g19 => grdV t89 true (vFaddr 8 t1 h g19) (g19 undefV h)) fun t91 h =>
joinG (fun g18 => grdV t89 true (vLoad2 t91 h g18) (g18 undefV h)) fun t92 h =>
joinG (fun g17 => grdV t89 true (vEql t92 (.str 0 0) h g17) (g17 undefV h)) fun t93 h =>
vPick t89 t93 (.bool .false) h fun t94 h =>
joinG (fun g16 => grdV t94 true (vFaddr 9 t1 h g16) (g16 undefV h)) fun t96 h =>
joinG (fun g15 => grdV t94 true (vLoad2 t96 h g15) (g15 undefV h)) fun t97 h =>
joinG (fun g14 => grdV t94 true (vLenL2 t97 h g14) (g14 undefV h)) fun t98 h =>
joinG (fun g13 => grdV t94 true (vLeq t98 (.int .i64 65536) h g13) (g13 undefV h)) fun t99 h =>
vPick t94 t99 (.bool .false) h fun t100 h =>
K t100 h
noncomputable def s_ops_MayB25 (cf : CallK) (fuel : Nat) (K : AV → Hp → Prop) (t43 : AV) (t33 : AV) (t1 : AV) (h : Hp) : Prop :=
vFaddr 4 t1 h fun t62 h =>
vLoadA 2 t62 h fun t63 h =>
vLoadA 11 t1 h fun t64 h =>
cf f_ops_earlier [t63, t64] h fun t65 h =>
joinG (fun g12 => grdV t65 true (vMov t43 h g12) (g12 undefV h)) fun t67 h =>
joinG (fun g11 => grdV t65 true (vMov t67 h g11) (g11 undefV h)) fun t68 h =>
joinG (fun g10 => grdV t68 false (vFaddr 6 t1 h g10) (g10 undefV h)) fun t69 h =>
joinG (fun g9 => grdV t68 false (vLoadA 2 t69 h g9) (g9 undefV h)) fun t70 h =>
joinG (fun g8 => grdV t68 false (cf f_ops_Trash [] h g8) (g8 undefV h)) fun t71 h =>
joinP (fun g7 => grdV t68 false (vLoadA 2 t69 h fun c _ => gd (sameV c t70) g7) g7) (
joinG (fun g6 => grdV t68 false (vEq false eqPairS t70 t71 h g6) (g6 undefV h)) fun t72 h =>
joinG (fun g5 => grdV t65 true (vPick t68 (.bool .true) t72 h g5) (g5 undefV h)) fun t73 h =>
vPick t65 t73 (.bool .false) h fun t74 h =>
joinG (fun g4 => grdV t74 true (vMov t33 h g4) (g4 undefV h)) fun t76 h =>
vPick t74 t76 (.bool .false) h fun t77 h =>
K t77 h)
noncomputable def s_ops_MayB34 (cf : CallK) (fuel : Nat) (K : AV → Hp → Prop) (t1 : AV) (h : Hp) : Prop :=
vFaddr 8 t1 h fun t24 h =>
vLoad2 t24 h fun t25 h =>
cf f_ops_Name [t25] h fun t26 h =>
vEql t26 (.int .i64 0) h fun t27 h =>
joinG (fun g33 => grdV t27 true (vFaddr 9 t1 h g33) (g33 undefV h)) fun t29 h =>
joinG (fun g32 => grdV t27 true (vLoad2 t29 h g32) (g32 undefV h)) fun t30 h =>
joinG (fun g31 => grdV t27 true (vLenL2 t30 h g31) (g31 undefV h)) fun t31 h =>
joinG (fun g30 => grdV t27 true (vEql t31 (.int .i64 0) h g30) (g30 undefV h)) fun t32 h =>
vPick t27 t32 (.bool .false) h fun t33 h =>
vFaddr 6 t1 h fun t34 h =>
vLoadA 2 t34 h fun t35 h =>
cf f_ops_Root [] h fun t36 h =>
vLoadA 2 t34 h fun c _ => gd (sameV c t35) (
vEq false eqPairS t35 t36 h fun t37 h =>
joinG (fun g29 => grdV t37 false (vFaddr 6 t1 h g29) (g29 undefV h)) fun t39 h =>
joinG (fun g28 => grdV t37 false (vLoadA 2 t39 h g28) (g28 undefV h)) fun t40 h =>
joinG (fun g27 => grdV t37 false (vLoadA 11 t1 h g27) (g27 undefV h)) fun t41 h =>
joinG (fun g26 => grdV t37 false (cf f_ops_earlier [t40, t41] h g26) (g26 undefV h)) fun t42 h =>
vPick t37 (.bool .true) t42 h fun t43 h =>
vFaddr 3 t1 h fun t44 h =>
vLoad2 t44 h fun t45 h =>
(fun (e0 : Hp → Prop) =>
(fun (j1 : AV → Hp → Prop) =>
vEql t45 (.int .i64 1) h fun t47 h =>
vIf t47 (
j1 t47 h) (
vEql t45 (.int .i64 2) h fun t48 h =>
j1 t48 h)) fun t46 h =>
vIf t46 (
vFaddr 4 t1 h fun t49 h =>
vLoadA 2 t49 h fun t50 h =>
vFaddr 0 t1 h fun t51 h =>
vLoadA 2 t51 h fun t52 h =>
vEq false eqPairS t50 t52 h fun t53 h =>
joinG (fun g3 => grdV t53 true (vMov t43 h g3) (g3 undefV h)) fun t55 h =>
vPick t53 t55 (.bool .false) h fun t56 h =>
joinG (fun g2 => grdV t56 true (vMov t33 h g2) (g2 undefV h)) fun t58 h =>
vPick t56 t58 (.bool .false) h fun t59 h =>
K t59 h) (
vEql t45 (.int .i64 3) h fun t61 h =>
vIf t61 (
s_ops_MayB25 cf fuel K t43 t33 t1 h) (
vEql t45 (.int .i64 4) h fun t79 h =>
vIf t79 (
s_ops_MayB24 cf fuel K t1 h) (
e0 h)))) fun h =>
K (.bool .false) h)
noncomputable def s_ops_May (cf : CallK) (fuel : Nat) (t0 : AV) (h : Hp) (K : AV → Hp → Prop) : Prop :=
vBox 11 t0 h fun t1 h =>
vFaddr 0 t1 h fun t5 h =>
vLoadA 2 t5 h fun t6 h =>
cf f_clock_Valid [t6] h fun t7 h =>
vNot t7 h fun t8 h =>
joinG (fun g43 => grdV t8 false (vFaddr 2 t1 h g43) (g43 undefV h)) fun t10 h =>
joinG (fun g42 => grdV t8 false (vLoad2 t10 h g42) (g42 undefV h)) fun t11 h =>
joinG (fun g41 => grdV t8 false (vLss t11 (.int .i64 1) h g41) (g41 undefV h)) fun t12 h =>
vPick t8 (.bool .true) t12 h fun t13 h =>
joinG (fun g40 => grdV t13 false (vFaddr 2 t1 h g40) (g40 undefV h)) fun t15 h =>
joinG (fun g39 => grdV t13 false (vLoad2 t15 h g39) (g39 undefV h)) fun t16 h =>
joinG (fun g38 => grdV t13 false (vGtr t16 (.int .i64 1152921504606846976) h g38) (g38 undefV h)) fun t17 h =>
vPick t13 (.bool .true) t17 h fun t18 h =>
joinG (fun g37 => grdV t18 false (vLoadA 11 t1 h g37) (g37 undefV h)) fun t20 h =>
joinG (fun g36 => grdV t18 false (cf f_ops_seen [t20] h g36) (g36 undefV h)) fun t21 h =>
joinG (fun g35 => grdV t18 false (vNot t21 h g35) (g35 undefV h)) fun t22 h =>
vPick t18 (.bool .true) t22 h fun t23 h =>
vIf t23 (
K (.bool .false) h) (
s_ops_MayB34 cf fuel K t1 h)
theorem s_ops_May_eq (cf : CallK) (fuel : Nat) (t0 : AV) (h : Hp) (K : AV → Hp → Prop) : s_ops_May cf fuel t0 h K = deepT (tabOf Try.prog) f_ops_May cf fuel [t0] h K :=
  Eq.trans (by kernel_rfl) (rFun (by kernel_rfl) rExact)

noncomputable def s_slices_BinarySearchFunc_movetree_done_movetree_done_api_IDE0 (cf : CallK) (fuel : Nat) (K : AV → Hp → Prop) (t0 : AV) (t2 : AV) (t4 : AV) (t8 : AV) : AV → Hp → Prop := fun t9 h =>
vLss t9 t8 h fun t38 h =>
joinG (fun g8 => grdV t38 true (vMov t2 h g8) (g8 undefV h)) fun t40 h =>
joinG (fun g7 => grdV t38 true (vMov t0 h g7) (g7 undefV h)) fun t41 h =>
joinG (fun g6 => grdV t38 true (vMov t9 h g6) (g6 undefV h)) fun t42 h =>
joinG (fun g5 => grdV t38 true (vIaddr 17 t41 t42 h g5) (g5 undefV h)) fun t43 h =>
joinG (fun g4 => grdV t38 true (vLoadA 17 t43 h g4) (g4 undefV h)) fun t44 h =>
joinG (fun g3 => grdV t38 true (vLoadA 2 t4 h g3) (g3 undefV h)) fun t45 h =>
joinG (fun g2 => grdV t38 true (vCallV t40 [t44, t45] cf h g2) (g2 undefV h)) fun t46 h =>
joinG (fun g1 => grdV t38 true (vEql t46 (.int .i64 0) h g1) (g1 undefV h)) fun t47 h =>
vPick t38 t47 (.bool .false) h fun t48 h =>
K (.tup [t9, t48]) h
noncomputable def s_slices_BinarySearchFunc_movetree_done_movetree_done_api_IDB13 (cf : CallK) (fuel : Nat) (ih9 : AV → AV → Hp → Prop) (t10 : AV) (t9 : AV) (t0 : AV) (t2 : AV) (t4 : AV) (h : Hp) : Prop :=
(fun (e10 : AV → AV → Hp → Prop) =>
vAdd t9 t10 h fun t20 h =>
vToInt .u64 t20 h fun t21 h =>
vShr t21 (.int .u64 1) h fun t22 h =>
vToInt .i64 t22 h fun t23 h =>
vIaddr 17 t0 t23 h fun t27 h =>
vLoadA 17 t27 h fun t28 h =>
vLoadA 2 t4 h fun t29 h =>
vCallV t2 [t28, t29] cf h fun t30 h =>
vLss t30 (.int .i64 0) h fun t31 h =>
vIf t31 (
vAdd t23 (.int .i64 1) h fun t33 h =>
e10 t33 t10 h) (
e10 t9 t23 h)) fun t9_11 t10_12 h =>
ih9 t9_11 t10_12 h
noncomputable def s_slices_BinarySearchFunc_movetree_done_movetree_done_api_IDL9B (cf : CallK) (fuel : Nat) (e0 : AV → Hp → Prop) (t0 : AV) (t2 : AV) (t4 : AV) (t8 : AV) (ih9 : AV → AV → Hp → Prop) : AV → AV → Hp → Prop := fun t9 t10 h =>
vLss t9 t10 h fun t17 h =>
vIf t17 (
s_slices_BinarySearchFunc_movetree_done_movetree_done_api_IDB13 cf fuel ih9 t10 t9 t0 t2 t4 h) (
e0 t9 h)
noncomputable def s_slices_BinarySearchFunc_movetree_done_movetree_done_api_IDL9 (cf : CallK) (fuel : Nat) (e0 : AV → Hp → Prop) (t0 : AV) (t2 : AV) (t4 : AV) (t8 : AV) (m : Nat) : AV → AV → Hp → Prop := Nat.rec (motive := fun _ => AV → AV → Hp → Prop) (fun _ _ _ => False) (fun _ ih => s_slices_BinarySearchFunc_movetree_done_movetree_done_api_IDL9B cf fuel e0 t0 t2 t4 t8 ih) m
theorem s_slices_BinarySearchFunc_movetree_done_movetree_done_api_IDL9_succ (cf : CallK) (fuel : Nat) (e0 : AV → Hp → Prop) (t0 : AV) (t2 : AV) (t4 : AV) (t8 : AV) (m : Nat) : s_slices_BinarySearchFunc_movetree_done_movetree_done_api_IDL9 cf fuel e0 t0 t2 t4 t8 (m + 1) = s_slices_BinarySearchFunc_movetree_done_movetree_done_api_IDL9B cf fuel e0 t0 t2 t4 t8 (s_slices_BinarySearchFunc_movetree_done_movetree_done_api_IDL9 cf fuel e0 t0 t2 t4 t8 m) := rfl
noncomputable def s_slices_BinarySearchFunc_movetree_done_movetree_done_api_ID (cf : CallK) (fuel : Nat) (t0 : AV) (t1 : AV) (t2 : AV) (h : Hp) (K : AV → Hp → Prop) : Prop :=
vBox 2 t1 h fun t4 h =>
vLenL2 t0 h fun t13 h =>
(fun (e0 : AV → Hp → Prop) =>
s_slices_BinarySearchFunc_movetree_done_movetree_done_api_IDL9 cf fuel (s_slices_BinarySearchFunc_movetree_done_movetree_done_api_IDE0 cf fuel K t0 t2 t4 t13) t0 t2 t4 t13 fuel (.int .i64 0) t13 h) (s_slices_BinarySearchFunc_movetree_done_movetree_done_api_IDE0 cf fuel K t0 t2 t4 t13)
theorem s_slices_BinarySearchFunc_movetree_done_movetree_done_api_ID_eq (cf : CallK) (fuel : Nat) (t0 : AV) (t1 : AV) (t2 : AV) (h : Hp) (K : AV → Hp → Prop) : s_slices_BinarySearchFunc_movetree_done_movetree_done_api_ID cf fuel t0 t1 t2 h K = deepT (tabOf Try.prog) f_slices_BinarySearchFunc_movetree_done_movetree_done_api_ID cf fuel [t0, t1, t2] h K :=
  Eq.trans (by kernel_rfl) (rFun (by kernel_rfl) (rSeq (by kernel_rfl) (rSeq (by kernel_rfl) (rSeq (by kernel_rfl) (rSeq (by kernel_rfl) rExact (rBlock (by kernel_rfl) (rLoop (by kernel_rfl) (fun m9 fr h => s_slices_BinarySearchFunc_movetree_done_movetree_done_api_IDL9 cf fuel (s_slices_BinarySearchFunc_movetree_done_movetree_done_api_IDE0 cf fuel K (getS fr (gpos 0)) (getS fr (gpos 2)) (getS fr (gpos 4)) (getS fr (gpos 8))) (getS fr (gpos 0)) (getS fr (gpos 2)) (getS fr (gpos 4)) (getS fr (gpos 8)) m9 (getS fr (gpos 9)) (getS fr (gpos 10)) h) (funext fun fr => funext fun h => by kernel_rfl) fun m9 => rCast (funext fun fr => funext fun h => by kernel_rfl) rExact))) rExact) rExact) rExact))

noncomputable def s_movetree_Tree_Apply_1 (cf : CallK) (fuel : Nat) (t0 : AV) (t1 : AV) (h : Hp) (K : AV → Hp → Prop) : Prop :=
vBox 17 t0 h fun t2 h =>
vBox 2 t1 h fun t3 h =>
vFaddr 0 t2 h fun t5 h =>
vFaddr 0 t5 h fun t6 h =>
vLoadA 2 t6 h fun t7 h =>
vLoadA 2 t3 h fun t8 h =>
cf f_clock_Cmp [t7, t8] h fun t9 h =>
K t9 h
theorem s_movetree_Tree_Apply_1_eq (cf : CallK) (fuel : Nat) (t0 : AV) (t1 : AV) (h : Hp) (K : AV → Hp → Prop) : s_movetree_Tree_Apply_1 cf fuel t0 t1 h K = deepT (tabOf Try.prog) f_movetree_Tree_Apply_1 cf fuel [t0, t1] h K :=
  Eq.trans (by kernel_rfl) (rFun (by kernel_rfl) rExact)

noncomputable def s_clock_Cmp (cf : CallK) (fuel : Nat) (t0 : AV) (t1 : AV) (h : Hp) (K : AV → Hp → Prop) : Prop :=
vBox 2 t0 h fun t2 h =>
vBox 2 t1 h fun t3 h =>
vFaddr 0 t2 h fun t6 h =>
vLoad2 t6 h fun t7 h =>
vFaddr 0 t3 h fun t8 h =>
vLoad2 t8 h fun t9 h =>
cf f_cmp_Compare_int64 [t7, t9] h fun t10 h =>
vNeq t10 (.int .i64 0) h fun t12 h =>
vIf t12 (
K t10 h) (
vFaddr 1 t2 h fun t14 h =>
vLoad2 t14 h fun t15 h =>
vFaddr 1 t3 h fun t16 h =>
vLoad2 t16 h fun t17 h =>
cf f_cmp_Compare_int [t15, t17] h fun t18 h =>
K t18 h)
theorem s_clock_Cmp_eq (cf : CallK) (fuel : Nat) (t0 : AV) (t1 : AV) (h : Hp) (K : AV → Hp → Prop) : s_clock_Cmp cf fuel t0 t1 h K = deepT (tabOf Try.prog) f_clock_Cmp cf fuel [t0, t1] h K :=
  Eq.trans (by kernel_rfl) (rFun (by kernel_rfl) rExact)

noncomputable def s_slices_Clone_movetree_done_movetree_done (cf : CallK) (fuel : Nat) (t0 : AV) (h : Hp) (K : AV → Hp → Prop) : Prop :=
vEq false eqNS t0 .nilslice h fun t4 h =>
vIf t4 (
K .nilslice h) (
vBslice 17 0 false [(.int .i64 0), (.int .i64 0), (.int .i64 0), (.int .i64 0), (.int .i64 0), (.int .i64 0), (.int .i64 0), (.int .i64 0), (.str 0 0), .nilslice, .nilslice, (.bool .false), (.int .i64 0), (.int .i64 0), (.str 0 0), (.bool .false), (.bool .false)] [] h fun t5 h =>
vAppend2 17 176 false t5 t0 h fun t7 h =>
K t7 h)
theorem s_slices_Clone_movetree_done_movetree_done_eq (cf : CallK) (fuel : Nat) (t0 : AV) (h : Hp) (K : AV → Hp → Prop) : s_slices_Clone_movetree_done_movetree_done cf fuel t0 h K = deepT (tabOf Try.prog) f_slices_Clone_movetree_done_movetree_done cf fuel [t0] h K :=
  Eq.trans (by kernel_rfl) (rFun (by kernel_rfl) rExact)

noncomputable def s_slices_Reverse_movetree_done_movetree_doneE0 (cf : CallK) (fuel : Nat) (K : AV → Hp → Prop) : Hp → Prop := fun h =>
K (.tup []) h
noncomputable def s_slices_Reverse_movetree_done_movetree_doneL1B (cf : CallK) (fuel : Nat) (e0 : Hp → Prop) (t0 : AV) (ih1 : AV → AV → Hp → Prop) : AV → AV → Hp → Prop := fun t2 t3 h =>
vLss t2 t3 h fun t9 h =>
vIf t9 (
(fun (e2 : Hp → Prop) =>
vIaddr 17 t0 t3 h fun t20 h =>
vLoadA 17 t20 h fun t21 h =>
vIaddr 17 t0 t2 h fun t24 h =>
vLoadA 17 t24 h fun t25 h =>
vIaddr 17 t0 t2 h fun t26 h =>
vStore 17 t26 t21 h fun _ h =>
vIaddr 17 t0 t3 h fun t27 h =>
vStore 17 t27 t25 h fun _ h =>
e2 h) fun h =>
vAdd t2 (.int .i64 1) h fun t11 h =>
vArith Go.Am.subI t3 (.int .i64 1) h fun t13 h =>
ih1 t11 t13 h) (
e0 h)
noncomputable def s_slices_Reverse_movetree_done_movetree_doneL1 (cf : CallK) (fuel : Nat) (e0 : Hp → Prop) (t0 : AV) (m : Nat) : AV → AV → Hp → Prop := Nat.rec (motive := fun _ => AV → AV → Hp → Prop) (fun _ _ _ => False) (fun _ ih => s_slices_Reverse_movetree_done_movetree_doneL1B cf fuel e0 t0 ih) m
theorem s_slices_Reverse_movetree_done_movetree_doneL1_succ (cf : CallK) (fuel : Nat) (e0 : Hp → Prop) (t0 : AV) (m : Nat) : s_slices_Reverse_movetree_done_movetree_doneL1 cf fuel e0 t0 (m + 1) = s_slices_Reverse_movetree_done_movetree_doneL1B cf fuel e0 t0 (s_slices_Reverse_movetree_done_movetree_doneL1 cf fuel e0 t0 m) := rfl
noncomputable def s_slices_Reverse_movetree_done_movetree_done (cf : CallK) (fuel : Nat) (t0 : AV) (h : Hp) (K : AV → Hp → Prop) : Prop :=
vLenL2 t0 h fun t5 h =>
vArith Go.Am.subI t5 (.int .i64 1) h fun t6 h =>
(fun (e0 : Hp → Prop) =>
s_slices_Reverse_movetree_done_movetree_doneL1 cf fuel (s_slices_Reverse_movetree_done_movetree_doneE0 cf fuel K) t0 fuel (.int .i64 0) t6 h) (s_slices_Reverse_movetree_done_movetree_doneE0 cf fuel K)
theorem s_slices_Reverse_movetree_done_movetree_done_eq (cf : CallK) (fuel : Nat) (t0 : AV) (h : Hp) (K : AV → Hp → Prop) : s_slices_Reverse_movetree_done_movetree_done cf fuel t0 h K = deepT (tabOf Try.prog) f_slices_Reverse_movetree_done_movetree_done cf fuel [t0] h K :=
  Eq.trans (by kernel_rfl) (rFun (by kernel_rfl) (rSeq (by kernel_rfl) (rBlock (by kernel_rfl) (rLoop (by kernel_rfl) (fun m1 fr h => s_slices_Reverse_movetree_done_movetree_doneL1 cf fuel (s_slices_Reverse_movetree_done_movetree_doneE0 cf fuel K) (getS fr (gpos 0)) m1 (getS fr (gpos 2)) (getS fr (gpos 3)) h) (funext fun fr => funext fun h => by kernel_rfl) fun m1 => rCast (funext fun fr => funext fun h => by kernel_rfl) rExact)) rExact))

noncomputable def s_movetree_eachE0 (cf : CallK) (fuel : Nat) (K : AV → Hp → Prop) : Hp → Prop := fun h =>
K (.tup []) h
noncomputable def s_movetree_eachL1B (cf : CallK) (fuel : Nat) (e0 : Hp → Prop) (t0 : AV) (t1 : AV) (t6 : AV) (ih1 : AV → Hp → Prop) : AV → Hp → Prop := fun t7 h =>
vLss t7 t6 h fun t8 h =>
vIf t8 (
(fun (e2 : Hp → Prop) =>
vIaddr 17 t0 t7 h fun t13 h =>
vCallV t1 [t13] cf h fun t14 h =>
e2 h) fun h =>
vAdd t7 (.int .i64 1) h fun t15 h =>
ih1 t15 h) (
e0 h)
noncomputable def s_movetree_eachL1 (cf : CallK) (fuel : Nat) (e0 : Hp → Prop) (t0 : AV) (t1 : AV) (t6 : AV) (m : Nat) : AV → Hp → Prop := Nat.rec (motive := fun _ => AV → Hp → Prop) (fun _ _ => False) (fun _ ih => s_movetree_eachL1B cf fuel e0 t0 t1 t6 ih) m
theorem s_movetree_eachL1_succ (cf : CallK) (fuel : Nat) (e0 : Hp → Prop) (t0 : AV) (t1 : AV) (t6 : AV) (m : Nat) : s_movetree_eachL1 cf fuel e0 t0 t1 t6 (m + 1) = s_movetree_eachL1B cf fuel e0 t0 t1 t6 (s_movetree_eachL1 cf fuel e0 t0 t1 t6 m) := rfl
noncomputable def s_movetree_each (cf : CallK) (fuel : Nat) (t0 : AV) (t1 : AV) (h : Hp) (K : AV → Hp → Prop) : Prop :=
vLenL2 t0 h fun t6 h =>
(fun (e0 : Hp → Prop) =>
s_movetree_eachL1 cf fuel (s_movetree_eachE0 cf fuel K) t0 t1 t6 fuel (.int .i64 0) h) (s_movetree_eachE0 cf fuel K)
theorem s_movetree_each_eq (cf : CallK) (fuel : Nat) (t0 : AV) (t1 : AV) (h : Hp) (K : AV → Hp → Prop) : s_movetree_each cf fuel t0 t1 h K = deepT (tabOf Try.prog) f_movetree_each cf fuel [t0, t1] h K :=
  Eq.trans (by kernel_rfl) (rFun (by kernel_rfl) (rSeq (by kernel_rfl) (rBlock (by kernel_rfl) (rLoop (by kernel_rfl) (fun m1 fr h => s_movetree_eachL1 cf fuel (s_movetree_eachE0 cf fuel K) (getS fr (gpos 0)) (getS fr (gpos 1)) (getS fr (gpos 6)) m1 (getS fr (gpos 7)) h) (funext fun fr => funext fun h => by kernel_rfl) fun m1 => rCast (funext fun fr => funext fun h => by kernel_rfl) rExact)) rExact))

noncomputable def s_movetree_Tree_undoB1 (cf : CallK) (fuel : Nat) (e0 : Hp → Prop) (t1 : AV) (t0 : AV) (h : Hp) : Prop :=
vNilck t1 h fun t21 h =>
vFaddr 15 t21 h fun t22 h =>
vLoad2 t22 h fun t23 h =>
vIf t23 (
vNilck t0 h fun t25 h =>
vFaddr 0 t25 h fun t26 h =>
vLoad2 t26 h fun t27 h =>
vNilck t1 h fun t29 h =>
vFaddr 0 t29 h fun t30 h =>
vFaddr 4 t30 h fun t31 h =>
vLoadA 2 t31 h fun t32 h =>
vNilck t1 h fun t34 h =>
vFaddr 11 t34 h fun t35 h =>
vLoadA 4 t35 h fun t36 h =>
vMapSet Go.Am.eqPair t27 t32 t36 h fun _ h =>
e0 h) (
vNilck t0 h fun t5 h =>
vFaddr 0 t5 h fun t6 h =>
vLoad2 t6 h fun t7 h =>
vNilck t1 h fun t9 h =>
vFaddr 0 t9 h fun t10 h =>
vFaddr 4 t10 h fun t11 h =>
vLoadA 2 t11 h fun t12 h =>
vMapDel Go.Am.eqPair t7 t12 h fun _ h =>
e0 h)
noncomputable def s_movetree_Tree_undo (cf : CallK) (fuel : Nat) (t0 : AV) (t1 : AV) (h : Hp) (K : AV → Hp → Prop) : Prop :=
(fun (e0 : Hp → Prop) =>
vNilck t1 h fun t15 h =>
vFaddr 16 t15 h fun t16 h =>
vLoad2 t16 h fun t17 h =>
vNot t17 h fun t18 h =>
vIf t18 (
e0 h) (
s_movetree_Tree_undoB1 cf fuel e0 t1 t0 h)) fun h =>
K (.tup []) h
theorem s_movetree_Tree_undo_eq (cf : CallK) (fuel : Nat) (t0 : AV) (t1 : AV) (h : Hp) (K : AV → Hp → Prop) : s_movetree_Tree_undo cf fuel t0 t1 h K = deepT (tabOf Try.prog) f_movetree_Tree_undo cf fuel [t0, t1] h K :=
  Eq.trans (by kernel_rfl) (rFun (by kernel_rfl) rExact)

noncomputable def s_ops_Copy (cf : CallK) (fuel : Nat) (t0 : AV) (h : Hp) (K : AV → Hp → Prop) : Prop :=
vBox 11 t0 h fun t1 h =>
vBox 11 (.agg [(.int .i64 0), (.int .i64 0), (.int .i64 0), (.int .i64 0), (.int .i64 0), (.int .i64 0), (.int .i64 0), (.int .i64 0), (.str 0 0), .nilslice, .nilslice]) h fun t2 h =>
vFaddr 9 t1 h fun t3 h =>
vLoad2 t3 h fun t4 h =>
vFaddr 10 t1 h fun t6 h =>
vLoad2 t6 h fun t7 h =>
cf f_bytes_Clone [t4] h fun t5 h =>
vLoad2 t6 h fun c _ => gd (sameV c t7) (
vFaddr 9 t1 h fun t9 h =>
vAppend2 1 8 false .nilslice t7 h fun t8 h =>
vStore 1 t9 t5 h fun _ h =>
vFaddr 10 t1 h fun t10 h =>
vStore 1 t10 t8 h fun _ h =>
vLoadA 11 t1 h fun t11 h =>
vStore 11 t2 t11 h fun _ h =>
vLoadA 11 t2 h fun r0 _ => K r0 h)
theorem s_ops_Copy_eq (cf : CallK) (fuel : Nat) (t0 : AV) (h : Hp) (K : AV → Hp → Prop) : s_ops_Copy cf fuel t0 h K = deepT (tabOf Try.prog) f_ops_Copy cf fuel [t0] h K :=
  Eq.trans (by kernel_rfl) (rFun (by kernel_rfl) rExact)

noncomputable def s_slices_Insert_movetree_done_movetree_done (cf : CallK) (fuel : Nat) (t0 : AV) (t1 : AV) (t2 : AV) (h : Hp) (K : AV → Hp → Prop) : Prop :=
vSlice2 17 t0 (some t1) none h fun t12 h =>
vLenL2 t2 h fun t14 h =>
vEql t14 (.int .i64 0) h fun t16 h =>
vIf t16 (
K t0 h) (
vLenL2 t0 h fun t19 h =>
vEql t1 t19 h fun t22 h =>
vIf t22 (
vAppend2 17 176 false t0 t2 h fun t25 h =>
K t25 h) (
False))
theorem s_slices_Insert_movetree_done_movetree_done_eq (cf : CallK) (fuel : Nat) (t0 : AV) (t1 : AV) (t2 : AV) (h : Hp) (K : AV → Hp → Prop) : s_slices_Insert_movetree_done_movetree_done cf fuel t0 t1 t2 h K = deepT (tabOf Try.prog) f_slices_Insert_movetree_done_movetree_done cf fuel [t0, t1, t2] h K :=
  Eq.trans (by kernel_rfl) (rFun (by kernel_rfl) rExact)

noncomputable def s_movetree_Tree_doB6 (cf : CallK) (fuel : Nat) (K : AV → Hp → Prop) (t1 : AV) (t0 : AV) (h : Hp) : Prop :=
vNilck t0 h fun t37 h =>
vFaddr 0 t37 h fun t38 h =>
vLoad2 t38 h fun t39 h =>
vNilck t1 h fun t41 h =>
vFaddr 0 t41 h fun t42 h =>
vFaddr 4 t42 h fun t43 h =>
vLoadA 2 t43 h fun t44 h =>
vNilck t1 h fun t46 h =>
vFaddr 11 t46 h fun t47 h =>
vFaddr 0 t47 h fun t48 h =>
vLoad2 t48 h fun t49 h =>
joinG (fun g5 => grdV t49 false (vMov t1 h g5) (g5 undefV h)) fun t51 h =>
joinG (fun g4 => grdV t49 false (vNilck t51 h g4) (g4 undefV h)) fun t52 h =>
joinG (fun g3 => grdV t49 false (vFaddr 0 t52 h g3) (g3 undefV h)) fun t53 h =>
joinG (fun g2 => grdV t49 false (vFaddr 3 t53 h g2) (g2 undefV h)) fun t54 h =>
joinG (fun g1 => grdV t49 false (vLoad2 t54 h g1) (g1 undefV h)) fun t55 h =>
joinG (fun g0 => grdV t49 false (vEql t55 (.int .i64 1) h g0) (g0 undefV h)) fun t56 h =>
vPick t49 (.bool .true) t56 h fun t57 h =>
vNilck t1 h fun t59 h =>
vFaddr 0 t59 h fun t60 h =>
vFaddr 6 t60 h fun t61 h =>
vLoadA 2 t61 h fun t62 h =>
vNilck t1 h fun t64 h =>
vFaddr 0 t64 h fun t65 h =>
vFaddr 8 t65 h fun t66 h =>
vLoad2 t66 h fun t67 h =>
vBuild [(.bool .false), (.int .i64 0), (.int .i64 0), (.str 0 0)] [(0, 1, t57), (1, 2, t62), (3, 1, t67)] h fun t68 h =>
vMapSet Go.Am.eqPair t39 t44 t68 h fun _ h =>
K (.tup []) h
noncomputable def s_movetree_Tree_do (cf : CallK) (fuel : Nat) (t0 : AV) (t1 : AV) (h : Hp) (K : AV → Hp → Prop) : Prop :=
vNilck t0 h fun t8 h =>
vFaddr 0 t8 h fun t9 h =>
vLoad2 t9 h fun t10 h =>
vNilck t1 h fun t12 h =>
vFaddr 0 t12 h fun t13 h =>
vFaddr 4 t13 h fun t14 h =>
vLoadA 2 t14 h fun t15 h =>
vLookup Go.Am.eqPair true (.agg [(.bool .false), (.int .i64 0), (.int .i64 0), (.str 0 0)]) t10 t15 h fun t16 h =>
vExtract 0 t16 h fun t17 h =>
vExtract 1 t16 h fun t18 h =>
vNilck t1 h fun t19 h =>
vFaddr 11 t19 h fun t20 h =>
vStore 4 t20 t17 h fun _ h =>
vNilck t1 h fun t21 h =>
vFaddr 15 t21 h fun t22 h =>
vStore 1 t22 t18 h fun _ h =>
vNilck t1 h fun t26 h =>
vFaddr 0 t26 h fun t27 h =>
vLoadA 11 t27 h fun t28 h =>
cf f_movetree_Tree_may [t0, t28] h fun t29 h =>
vNilck t1 h fun t30 h =>
vFaddr 16 t30 h fun t31 h =>
vStore 1 t31 t29 h fun _ h =>
vNilck t1 h fun t33 h =>
vFaddr 16 t33 h fun t34 h =>
vLoad2 t34 h fun t35 h =>
vIf t35 (
s_movetree_Tree_doB6 cf fuel K t1 t0 h) (
K (.tup []) h)
theorem s_movetree_Tree_do_eq (cf : CallK) (fuel : Nat) (t0 : AV) (t1 : AV) (h : Hp) (K : AV → Hp → Prop) : s_movetree_Tree_do cf fuel t0 t1 h K = deepT (tabOf Try.prog) f_movetree_Tree_do cf fuel [t0, t1] h K :=
  Eq.trans (by kernel_rfl) (rFun (by kernel_rfl) rExact)

noncomputable def s_lagoonref4_NormE0 (cf : CallK) (fuel : Nat) (K : AV → Hp → Prop) : AV → Hp → Prop := fun t3 h =>
cf f_lagoonref4_short [t3] h fun t16 h =>
K t16 h
noncomputable def s_lagoonref4_NormL1B (cf : CallK) (fuel : Nat) (e0 : AV → Hp → Prop) (t0 : AV) (ih1 : AV → AV → Hp → Prop) : AV → AV → Hp → Prop := fun t3 t4 h =>
vLss t4 (.int .i64 64) h fun t6 h =>
vIf t6 (
(fun (e2 : AV → Hp → Prop) =>
cf f_lagoonref4_At [t0, t4] h fun t12 h =>
vBslice 1 1 false [(.int .i64 0)] [(0, 1, t12)] h fun t13 h =>
vAppend2 1 8 false t3 t13 h fun t14 h =>
e2 t14 h) fun t3 h =>
vAdd t4 (.int .i64 1) h fun t8 h =>
ih1 t3 t8 h) (
e0 t3 h)
noncomputable def s_lagoonref4_NormL1 (cf : CallK) (fuel : Nat) (e0 : AV → Hp → Prop) (t0 : AV) (m : Nat) : AV → AV → Hp → Prop := Nat.rec (motive := fun _ => AV → AV → Hp → Prop) (fun _ _ _ => False) (fun _ ih => s_lagoonref4_NormL1B cf fuel e0 t0 ih) m
theorem s_lagoonref4_NormL1_succ (cf : CallK) (fuel : Nat) (e0 : AV → Hp → Prop) (t0 : AV) (m : Nat) : s_lagoonref4_NormL1 cf fuel e0 t0 (m + 1) = s_lagoonref4_NormL1B cf fuel e0 t0 (s_lagoonref4_NormL1 cf fuel e0 t0 m) := rfl
noncomputable def s_lagoonref4_Norm (cf : CallK) (fuel : Nat) (t0 : AV) (h : Hp) (K : AV → Hp → Prop) : Prop :=
(fun (e0 : AV → Hp → Prop) =>
s_lagoonref4_NormL1 cf fuel (s_lagoonref4_NormE0 cf fuel K) t0 fuel .nilslice (.int .i64 0) h) (s_lagoonref4_NormE0 cf fuel K)
theorem s_lagoonref4_Norm_eq (cf : CallK) (fuel : Nat) (t0 : AV) (h : Hp) (K : AV → Hp → Prop) : s_lagoonref4_Norm cf fuel t0 h K = deepT (tabOf Try.prog) f_lagoonref4_Norm cf fuel [t0] h K :=
  Eq.trans (by kernel_rfl) (rFun (by kernel_rfl) (rSeq (by kernel_rfl) (rSeq (by kernel_rfl) (rSeq (by kernel_rfl) rExact (rSeq (by kernel_rfl) (rBlock (by kernel_rfl) (rLoop (by kernel_rfl) (fun m1 fr h => s_lagoonref4_NormL1 cf fuel (s_lagoonref4_NormE0 cf fuel K) (getS fr (gpos 0)) m1 (getS fr (gpos 3)) (getS fr (gpos 4)) h) (funext fun fr => funext fun h => by kernel_rfl) fun m1 => rCast (funext fun fr => funext fun h => by kernel_rfl) rExact)) rExact)) rExact) rExact))

noncomputable def s_lagoonref4_At (cf : CallK) (fuel : Nat) (t0 : AV) (t1 : AV) (h : Hp) (K : AV → Hp → Prop) : Prop :=
vLss t1 (.int .i64 0) h fun t6 h =>
joinG (fun g15 => grdV t6 false (vMov t1 h g15) (g15 undefV h)) fun t8 h =>
joinG (fun g14 => grdV t6 false (vGeq t8 (.int .i64 64) h g14) (g14 undefV h)) fun t9 h =>
vPick t6 (.bool .true) t9 h fun t10 h =>
joinG (fun g13 => grdV t10 false (vMov t1 h g13) (g13 undefV h)) fun t12 h =>
joinG (fun g12 => grdV t10 false (vMov t0 h g12) (g12 undefV h)) fun t13 h =>
joinG (fun g11 => grdV t10 false (vLenL2 t13 h g11) (g11 undefV h)) fun t14 h =>
joinG (fun g10 => grdV t10 false (vGeq t12 t14 h g10) (g10 undefV h)) fun t15 h =>
vPick t10 (.bool .true) t15 h fun t16 h =>
joinG (fun g9 => grdV t16 false (vMov t0 h g9) (g9 undefV h)) fun t18 h =>
joinG (fun g8 => grdV t16 false (vMov t1 h g8) (g8 undefV h)) fun t19 h =>
joinG (fun g7 => grdV t16 false (vIaddr 1 t18 t19 h g7) (g7 undefV h)) fun t20 h =>
joinG (fun g6 => grdV t16 false (vLoad2 t20 h g6) (g6 undefV h)) fun t21 h =>
joinG (fun g5 => grdV t16 false (vLss t21 (.int .i64 0) h g5) (g5 undefV h)) fun t22 h =>
vPick t16 (.bool .true) t22 h fun t23 h =>
joinG (fun g4 => grdV t23 false (vMov t0 h g4) (g4 undefV h)) fun t25 h =>
joinG (fun g3 => grdV t23 false (vMov t1 h g3) (g3 undefV h)) fun t26 h =>
joinG (fun g2 => grdV t23 false (vIaddr 1 t25 t26 h g2) (g2 undefV h)) fun t27 h =>
joinG (fun g1 => grdV t23 false (vLoad2 t27 h g1) (g1 undefV h)) fun t28 h =>
joinG (fun g0 => grdV t23 false (vGtr t28 (.int .i64 1152921504606846976) h g0) (g0 undefV h)) fun t29 h =>
vPick t23 (.bool .true) t29 h fun t30 h =>
vIf t30 (
K (.int .i64 0) h) (
vIaddr 1 t0 t1 h fun t33 h =>
vLoad2 t33 h fun t34 h =>
K t34 h)
theorem s_lagoonref4_At_eq (cf : CallK) (fuel : Nat) (t0 : AV) (t1 : AV) (h : Hp) (K : AV → Hp → Prop) : s_lagoonref4_At cf fuel t0 t1 h K = deepT (tabOf Try.prog) f_lagoonref4_At cf fuel [t0, t1] h K :=
  Eq.trans (by kernel_rfl) (rFun (by kernel_rfl) rExact)

noncomputable def s_lagoonref4_shortE0 (cf : CallK) (fuel : Nat) (K : AV → Hp → Prop) (t0 : AV) : AV → Hp → Prop := fun t3 h =>
vSlice3 1 t0 none t3 t3 h fun t21 h =>
K t21 h
noncomputable def s_lagoonref4_shortL1B (cf : CallK) (fuel : Nat) (e0 : AV → Hp → Prop) (t0 : AV) (ih1 : AV → Hp → Prop) : AV → Hp → Prop := fun t3 h =>
vGtr t3 (.int .i64 0) h fun t7 h =>
joinG (fun g9 => grdV t7 true (vMov t0 h g9) (g9 undefV h)) fun t9 h =>
joinG (fun g8 => grdV t7 true (vMov t3 h g8) (g8 undefV h)) fun t10 h =>
joinG (fun g7 => grdV t7 true (vArith Go.Am.subI t10 (.int .i64 1) h g7) (g7 undefV h)) fun t11 h =>
joinG (fun g6 => grdV t7 true (vIaddr 1 t9 t11 h g6) (g6 undefV h)) fun t12 h =>
joinG (fun g5 => grdV t7 true (vLoad2 t12 h g5) (g5 undefV h)) fun t13 h =>
joinG (fun g4 => grdV t7 true (vEql t13 (.int .i64 0) h g4) (g4 undefV h)) fun t14 h =>
vPick t7 t14 (.bool .false) h fun t15 h =>
vIf t15 (
(fun (e2 : AV → Hp → Prop) =>
vArith Go.Am.subI t3 (.int .i64 1) h fun t17 h =>
e2 t17 h) fun t3_3 h =>
ih1 t3_3 h) (
e0 t3 h)
noncomputable def s_lagoonref4_shortL1 (cf : CallK) (fuel : Nat) (e0 : AV → Hp → Prop) (t0 : AV) (m : Nat) : AV → Hp → Prop := Nat.rec (motive := fun _ => AV → Hp → Prop) (fun _ _ => False) (fun _ ih => s_lagoonref4_shortL1B cf fuel e0 t0 ih) m
theorem s_lagoonref4_shortL1_succ (cf : CallK) (fuel : Nat) (e0 : AV → Hp → Prop) (t0 : AV) (m : Nat) : s_lagoonref4_shortL1 cf fuel e0 t0 (m + 1) = s_lagoonref4_shortL1B cf fuel e0 t0 (s_lagoonref4_shortL1 cf fuel e0 t0 m) := rfl
noncomputable def s_lagoonref4_short (cf : CallK) (fuel : Nat) (t0 : AV) (h : Hp) (K : AV → Hp → Prop) : Prop :=
vLenL2 t0 h fun t5 h =>
(fun (e0 : AV → Hp → Prop) =>
s_lagoonref4_shortL1 cf fuel (s_lagoonref4_shortE0 cf fuel K t0) t0 fuel t5 h) (s_lagoonref4_shortE0 cf fuel K t0)
theorem s_lagoonref4_short_eq (cf : CallK) (fuel : Nat) (t0 : AV) (h : Hp) (K : AV → Hp → Prop) : s_lagoonref4_short cf fuel t0 h K = deepT (tabOf Try.prog) f_lagoonref4_short cf fuel [t0] h K :=
  Eq.trans (by kernel_rfl) (rFun (by kernel_rfl) (rSeq (by kernel_rfl) (rSeq (by kernel_rfl) (rSeq (by kernel_rfl) rExact (rBlock (by kernel_rfl) (rLoop (by kernel_rfl) (fun m1 fr h => s_lagoonref4_shortL1 cf fuel (s_lagoonref4_shortE0 cf fuel K (getS fr (gpos 0))) (getS fr (gpos 0)) m1 (getS fr (gpos 3)) h) (funext fun fr => funext fun h => by kernel_rfl) fun m1 => rCast (funext fun fr => funext fun h => by kernel_rfl) rExact))) rExact) rExact))

noncomputable def s_ops_Root (cf : CallK) (fuel : Nat) (h : Hp) (K : AV → Hp → Prop) : Prop :=
vBox 2 (.agg [(.int .i64 0), (.int .i64 0)]) h fun t0 h =>
vBuild [(.int .i64 0), (.int .i64 0)] [] h fun t1 h =>
vStore 2 t0 t1 h fun _ h =>
vLoadA 2 t0 h fun r0 _ => K r0 h
theorem s_ops_Root_eq (cf : CallK) (fuel : Nat) (h : Hp) (K : AV → Hp → Prop) : s_ops_Root cf fuel h K = deepT (tabOf Try.prog) f_ops_Root cf fuel [] h K :=
  Eq.trans (by kernel_rfl) (rFun (by kernel_rfl) rExact)


end Go.Proofs.Ytnegmbnkccngoaa.sh1
