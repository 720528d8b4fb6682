/- The Go functions' code as the abstract machine's, over values; each is the code that the machine makes of the program's (theorems s_.._eq). No condition. -/
import Derived.Test.YtciipeallilmiaaGreatDoorAmC
import Derived.Test.YtciipeallilmiaaGreatDoorProg
import Derived.KernelRfl
namespace Go.Proofs.YtciipeallilmiaaGreatDoor.sh6
open Go Go.Am Go.Proofs
set_option linter.unusedVariables false
set_option maxRecDepth 100000
abbrev f_bytes_Clone : Nat := 145
abbrev f_bytes_Equal : Nat := 191
abbrev f_clash_Shown : Nat := 267
abbrev f_clash_Split : Nat := 259
abbrev f_clock_Clock_Next : Nat := 204
abbrev f_clock_Clock_to : Nat := 242
abbrev f_cmp_Less_int : Nat := 249
abbrev f_content_Behind : Nat := 264
abbrev f_content_File_Heads : Nat := 198
abbrev f_content_File_Size : Nat := 263
abbrev f_content_File_Value : Nat := 202
abbrev f_crc_Of : Nat := 161
abbrev f_device_Device_Blocks : Nat := 31
abbrev f_device_Device_Dead : Nat := 233
abbrev f_device_Device_Flush : Nat := 187
abbrev f_device_Device_Read : Nat := 234
abbrev f_device_Device_Write : Nat := 188
abbrev f_device_Device_done : Nat := 254
abbrev f_fds_Table_Len : Nat := 199
abbrev f_fds_Table_find : Nat := 200
abbrev f_int_bytealg_CompareString : Nat := 269
abbrev f_localfs_object_write : Nat := 190
abbrev f_math_bits_Len : Nat := 184
abbrev f_math_bits_Len32 : Nat := 252
abbrev f_math_bits_Len64 : Nat := 253
abbrev f_movetree_Tree_Below : Nat := 206
abbrev f_movetree_Tree_Dir : Nat := 196
abbrev f_movetree_Tree_Kids : Nat := 266
abbrev f_movetree_Tree_Live : Nat := 261
abbrev f_movetree_Tree_Parent : Nat := 207
abbrev f_movetree_fixed : Nat := 262
abbrev f_ops_Name : Nat := 203
abbrev f_ops_Root : Nat := 217
abbrev f_ops_Trash : Nat := 205
abbrev f_path_Parse : Nat := 193
abbrev f_slices_Index_string_string : Nat := 260
abbrev f_slices_SortFunc_api_Entry_api_Entry : Nat := 210
abbrev f_slices_breakPatternsOrdered_int : Nat := 245
abbrev f_slices_choosePivotOrdered_int : Nat := 246
abbrev f_slices_heapSortOrdered_int : Nat := 244
abbrev f_slices_insertionSortOrdered_int : Nat := 243
abbrev f_slices_partialInsertionSortOrdered_int : Nat := 248
abbrev f_slices_partitionEqualOrdered_int : Nat := 250
abbrev f_slices_partitionOrdered_int : Nat := 251
abbrev f_slices_pdqsortCmpFunc_api_Entry : Nat := 268
abbrev f_slices_pdqsortOrdered_int : Nat := 183
abbrev f_slices_reverseRangeOrdered_int : Nat := 247
abbrev f_strings_Compare : Nat := 212
abbrev f_strings_ContainsAny : Nat := 265
abbrev f_strings_HasPrefix : Nat := 257
abbrev f_strings_Split : Nat := 258
abbrev f_view_View_List_1 : Nat := 211
abbrev f_view_View_Live : Nat := 195
abbrev f_view_View_Walk : Nat := 194
abbrev f_view_View_entry : Nat := 209
abbrev f_view_View_file : Nat := 201
abbrev f_view_View_kids : Nat := 208
abbrev f_view_View_size : Nat := 197
abbrev f_wal_Volume_Commit : Nat := 192
abbrev f_wal_Volume_dead : Nat := 225
abbrev f_wal_Volume_may : Nat := 256
abbrev f_wal_head : Nat := 189
abbrev f_wal_room : Nat := 185
abbrev f_wal_wrote : Nat := 186
abbrev f_zbyte_Append32 : Nat := 228
abbrev f_zbyte_Append64 : Nat := 255

noncomputable def s_math_bits_Len (cf : CallK) (fuel : Nat) (t0 : AV) (h : Hp) (K : AV → Hp → Prop) : Prop :=
vIf (.bool .false) (
vToInt .u32 t0 h fun t4 h =>
cf f_math_bits_Len32 [t4] h fun t5 h =>
K t5 h) (
cf f_math_bits_Len64 [t0] h fun t7 h =>
K t7 h)
theorem s_math_bits_Len_eq (cf : CallK) (fuel : Nat) (t0 : AV) (h : Hp) (K : AV → Hp → Prop) : s_math_bits_Len cf fuel t0 h K = deepT (tabOf Tryz.prog) f_math_bits_Len cf fuel [t0] h K :=
  Eq.trans (by kernel_rfl) (rFun (by kernel_rfl) rExact)

noncomputable def s_wal_room (cf : CallK) (fuel : Nat) (t0 : AV) (h : Hp) (K : AV → Hp → Prop) : Prop :=
cf f_device_Device_Blocks [t0] h fun t4 h =>
vLss t4 (.int .i64 16) h fun t5 h =>
vIf t5 (
K (.int .i64 0) h) (
cf f_device_Device_Blocks [t0] h fun t7 h =>
vArith Go.Am.subI t7 (.int .i64 8) h fun t8 h =>
vDiv false t8 (.int .i64 4) h fun t9 h =>
K t9 h)
theorem s_wal_room_eq (cf : CallK) (fuel : Nat) (t0 : AV) (h : Hp) (K : AV → Hp → Prop) : s_wal_room cf fuel t0 h K = deepT (tabOf Tryz.prog) f_wal_room cf fuel [t0] h K :=
  Eq.trans (by kernel_rfl) (rFun (by kernel_rfl) rExact)

noncomputable def s_wal_wrote (cf : CallK) (fuel : Nat) (t0 : AV) (t1 : AV) (t2 : AV) (h : Hp) (K : AV → Hp → Prop) : Prop :=
cf f_device_Device_Read [t0, t1] h fun t12 h =>
vExtract 0 t12 h fun t13 h =>
vExtract 1 t12 h fun t14 h =>
vEql t14 (.int .i64 0) h fun t16 h =>
joinG (fun g2 => grdV t16 true (vMov t13 h g2) (g2 undefV h)) fun t18 h =>
joinG (fun g1 => grdV t16 true (vMov t2 h g1) (g1 undefV h)) fun t19 h =>
joinG (fun g0 => grdV t16 true (cf f_bytes_Equal [t18, t19] h g0) (g0 undefV h)) fun t20 h =>
vPick t16 t20 (.bool .false) h fun t21 h =>
vIf t21 (
K (.int .i64 0) h) (
cf f_device_Device_Write [t0, t1, t2] h fun t25 h =>
K t25 h)
theorem s_wal_wrote_eq (cf : CallK) (fuel : Nat) (t0 : AV) (t1 : AV) (t2 : AV) (h : Hp) (K : AV → Hp → Prop) : s_wal_wrote cf fuel t0 t1 t2 h K = deepT (tabOf Tryz.prog) f_wal_wrote cf fuel [t0, t1, t2] h K :=
  Eq.trans (by kernel_rfl) (rFun (by kernel_rfl) rExact)

noncomputable def s_device_Device_FlushE0 (cf : CallK) (fuel : Nat) (K : AV → Hp → Prop) (t0 : AV) : Hp → Prop := fun h =>
cf f_device_Device_done [t0] h fun t38 h =>
K t38 h
noncomputable def s_device_Device_FlushB3 (cf : CallK) (fuel : Nat) (ih1 : AV → Hp → Prop) (t0 : AV) (t11 : AV) (h : Hp) : Prop :=
(fun (e2 : Hp → Prop) =>
vNilck t0 h fun t15 h =>
vFaddr 0 t15 h fun t16 h =>
vLoad2 t16 h fun t17 h =>
vNilck t0 h fun t20 h =>
vFaddr 0 t20 h fun t21 h =>
vLoad2 t21 h fun t22 h =>
vNilck t0 h fun t25 h =>
vFaddr 0 t25 h fun t26 h =>
vLoad2 t26 h fun t27 h =>
vIaddr 3 t27 t11 h fun t29 h =>
vFaddr 0 t29 h fun t30 h =>
vLoad2 t30 h fun t31 h =>
vIaddr 3 t17 t11 h fun t32 h =>
vFaddr 1 t32 h fun t33 h =>
vStore 1 t33 t31 h fun _ h =>
vIaddr 3 t22 t11 h fun t34 h =>
vFaddr 2 t34 h fun t35 h =>
vStore 1 t35 (.bool .false) h fun _ h =>
e2 h) fun h =>
vAdd t11 (.int .i64 1) h fun t36 h =>
ih1 t36 h
noncomputable def s_device_Device_FlushL1B (cf : CallK) (fuel : Nat) (e0 : Hp → Prop) (t0 : AV) (t10 : AV) (ih1 : AV → Hp → Prop) : AV → Hp → Prop := fun t11 h =>
vLss t11 t10 h fun t12 h =>
vIf t12 (
s_device_Device_FlushB3 cf fuel ih1 t0 t11 h) (
e0 h)
noncomputable def s_device_Device_FlushL1 (cf : CallK) (fuel : Nat) (e0 : Hp → Prop) (t0 : AV) (t10 : AV) (m : Nat) : AV → Hp → Prop := Nat.rec (motive := fun _ => AV → Hp → Prop) (fun _ _ => False) (fun _ ih => s_device_Device_FlushL1B cf fuel e0 t0 t10 ih) m
theorem s_device_Device_FlushL1_succ (cf : CallK) (fuel : Nat) (e0 : Hp → Prop) (t0 : AV) (t10 : AV) (m : Nat) : s_device_Device_FlushL1 cf fuel e0 t0 t10 (m + 1) = s_device_Device_FlushL1B cf fuel e0 t0 t10 (s_device_Device_FlushL1 cf fuel e0 t0 t10 m) := rfl
noncomputable def s_device_Device_Flush (cf : CallK) (fuel : Nat) (t0 : AV) (h : Hp) (K : AV → Hp → Prop) : Prop :=
cf f_device_Device_Dead [t0] h fun t5 h =>
vIf t5 (
K (.int .i64 5) h) (
vNilck t0 h fun t7 h =>
vFaddr 0 t7 h fun t8 h =>
vLoad2 t8 h fun t9 h =>
vLenL2 t9 h fun t10 h =>
(fun (e0 : Hp → Prop) =>
s_device_Device_FlushL1 cf fuel (s_device_Device_FlushE0 cf fuel K t0) t0 t10 fuel (.int .i64 0) h) (s_device_Device_FlushE0 cf fuel K t0))
theorem s_device_Device_Flush_eq (cf : CallK) (fuel : Nat) (t0 : AV) (h : Hp) (K : AV → Hp → Prop) : s_device_Device_Flush cf fuel t0 h K = deepT (tabOf Tryz.prog) f_device_Device_Flush cf fuel [t0] h K :=
  Eq.trans (by kernel_rfl) (rFun (by kernel_rfl) (rSeq (by kernel_rfl) (rSeq (by kernel_rfl) (rSeq (by kernel_rfl) rExact (rSeq (by kernel_rfl) (rBlock (by kernel_rfl) (rLoop (by kernel_rfl) (fun m1 fr h => s_device_Device_FlushL1 cf fuel (s_device_Device_FlushE0 cf fuel K (getS fr (gpos 0))) (getS fr (gpos 0)) (getS fr (gpos 10)) m1 (getS fr (gpos 11)) h) (funext fun fr => funext fun h => by kernel_rfl) fun m1 => rCast (funext fun fr => funext fun h => by kernel_rfl) rExact)) rExact)) rExact) rExact))

noncomputable def s_device_Device_WriteB11 (cf : CallK) (fuel : Nat) (K : AV → Hp → Prop) (e0 : Hp → Prop) (t0 : AV) (t1 : AV) (t2 : AV) (h : Hp) : Prop :=
vLss t1 (.int .i64 0) h fun t12 h =>
joinG (fun g10 => grdV t12 false (vMov t1 h g10) (g10 undefV h)) fun t14 h =>
joinG (fun g9 => grdV t12 false (vMov t0 h g9) (g9 undefV h)) fun t15 h =>
joinG (fun g8 => grdV t12 false (vNilck t15 h g8) (g8 undefV h)) fun t16 h =>
joinG (fun g7 => grdV t12 false (vFaddr 0 t16 h g7) (g7 undefV h)) fun t17 h =>
joinG (fun g6 => grdV t12 false (vLoad2 t17 h g6) (g6 undefV h)) fun t18 h =>
joinG (fun g5 => grdV t12 false (vLenL2 t18 h g5) (g5 undefV h)) fun t19 h =>
joinG (fun g4 => grdV t12 false (vGeq t14 t19 h g4) (g4 undefV h)) fun t20 h =>
vPick t12 (.bool .true) t20 h fun t21 h =>
joinG (fun g3 => grdV t21 false (vMov t2 h g3) (g3 undefV h)) fun t23 h =>
joinG (fun g2 => grdV t21 false (vLenL2 t23 h g2) (g2 undefV h)) fun t24 h =>
joinG (fun g1 => grdV t21 false (vNeq t24 (.int .i64 512) h g1) (g1 undefV h)) fun t25 h =>
vPick t21 (.bool .true) t25 h fun t26 h =>
vIf t26 (
K (.int .i64 22) h) (
e0 h)
noncomputable def s_device_Device_Write (cf : CallK) (fuel : Nat) (t0 : AV) (t1 : AV) (t2 : AV) (h : Hp) (K : AV → Hp → Prop) : Prop :=
(fun (e0 : Hp → Prop) =>
cf f_device_Device_Dead [t0] h fun t9 h =>
vIf t9 (
K (.int .i64 5) h) (
s_device_Device_WriteB11 cf fuel K e0 t0 t1 t2 h)) fun h =>
vNilck t0 h fun t28 h =>
vFaddr 0 t28 h fun t29 h =>
vLoad2 t29 h fun t30 h =>
vNilck t0 h fun t33 h =>
vFaddr 0 t33 h fun t34 h =>
vLoad2 t34 h fun t35 h =>
cf f_bytes_Clone [t2] h fun t38 h =>
vLoad2 t29 h fun c _ => gd (sameV c t30) (
vLoad2 t34 h fun c _ => gd (sameV c t35) (
vIaddr 3 t30 t1 h fun t39 h =>
vFaddr 0 t39 h fun t40 h =>
vStore 1 t40 t38 h fun _ h =>
vIaddr 3 t35 t1 h fun t41 h =>
vFaddr 2 t41 h fun t42 h =>
vStore 1 t42 (.bool .true) h fun _ h =>
cf f_device_Device_done [t0] h fun t44 h =>
K t44 h))
theorem s_device_Device_Write_eq (cf : CallK) (fuel : Nat) (t0 : AV) (t1 : AV) (t2 : AV) (h : Hp) (K : AV → Hp → Prop) : s_device_Device_Write cf fuel t0 t1 t2 h K = deepT (tabOf Tryz.prog) f_device_Device_Write cf fuel [t0, t1, t2] h K :=
  Eq.trans (by kernel_rfl) (rFun (by kernel_rfl) rExact)

noncomputable def s_wal_head (cf : CallK) (fuel : Nat) (t0 : AV) (t1 : AV) (h : Hp) (K : AV → Hp → Prop) : Prop :=
vBslice 1 16 true [(.int .u8 0)] [(0, 1, (.int .u8 108)), (1, 1, (.int .u8 97)), (2, 1, (.int .u8 103)), (3, 1, (.int .u8 111)), (4, 1, (.int .u8 111)), (5, 1, (.int .u8 110)), (6, 1, (.int .u8 39)), (7, 1, (.int .u8 115)), (8, 1, (.int .u8 32)), (9, 1, (.int .u8 118)), (10, 1, (.int .u8 111)), (11, 1, (.int .u8 108)), (12, 1, (.int .u8 117)), (13, 1, (.int .u8 109)), (14, 1, (.int .u8 101)), (15, 1, (.int .u8 10))] h fun t6 h =>
vStrish t6 h fun t7 h =>
vToInt .u64 t0 h fun t9 h =>
cf f_zbyte_Append64 [t7, t9] h fun t10 h =>
vToInt .u64 t1 h fun t13 h =>
cf f_zbyte_Append64 [t10, t13] h fun t14 h =>
vBslice 1 1 false [.nilslice] [(0, 1, t14)] h fun t17 h =>
cf f_crc_Of [t17] h fun t18 h =>
cf f_zbyte_Append32 [t14, t18] h fun t19 h =>
vLenL2 t19 h fun t22 h =>
vArith Go.Am.subI (.int .i64 512) t22 h fun t23 h =>
vAppendZ 1 1 true [(.int .u8 0)] t19 t23 h fun t24 h =>
K t24 h
theorem s_wal_head_eq (cf : CallK) (fuel : Nat) (t0 : AV) (t1 : AV) (h : Hp) (K : AV → Hp → Prop) : s_wal_head cf fuel t0 t1 h K = deepT (tabOf Tryz.prog) f_wal_head cf fuel [t0, t1] h K :=
  Eq.trans (by kernel_rfl) (rFun (by kernel_rfl) rExact)

noncomputable def s_localfs_object_writeE0 (cf : CallK) (fuel : Nat) (K : AV → Hp → Prop) : AV → Hp → Prop := fun t1 h =>
K t1 h
noncomputable def s_localfs_object_writeB3 (cf : CallK) (fuel : Nat) (ih1 : AV → AV → Hp → Prop) (t0 : AV) (t41 : AV) (t1 : AV) (t43 : AV) (h : Hp) : Prop :=
(fun (e2 : AV → Hp → Prop) =>
vIaddr 1 t41 t43 h fun t46 h =>
vLoad2 t46 h fun t47 h =>
vLenS t47 h fun t50 h =>
vToInt .u8 t50 h fun t51 h =>
vBslice 1 1 true [(.int .u8 0)] [(0, 1, t51)] h fun t52 h =>
vAppend2 1 1 true t1 t52 h fun t53 h =>
vAppend2 1 1 true t53 t47 h fun t55 h =>
vNilck t0 h fun t57 h =>
vFaddr 3 t57 h fun t58 h =>
vLoad2 t58 h fun t59 h =>
vIaddr 1 t59 t43 h fun t61 h =>
vLoad2 t61 h fun t62 h =>
cf f_localfs_object_write [t62, t55] h fun t64 h =>
e2 t64 h) fun t1 h =>
vAdd t43 (.int .i64 1) h fun t65 h =>
ih1 t1 t65 h
noncomputable def s_localfs_object_writeL1B (cf : CallK) (fuel : Nat) (e0 : AV → Hp → Prop) (t0 : AV) (t41 : AV) (t42 : AV) (ih1 : AV → AV → Hp → Prop) : AV → AV → Hp → Prop := fun t1 t43 h =>
vLss t43 t42 h fun t44 h =>
vIf t44 (
s_localfs_object_writeB3 cf fuel ih1 t0 t41 t1 t43 h) (
e0 t1 h)
noncomputable def s_localfs_object_writeL1 (cf : CallK) (fuel : Nat) (e0 : AV → Hp → Prop) (t0 : AV) (t41 : AV) (t42 : AV) (m : Nat) : AV → AV → Hp → Prop := Nat.rec (motive := fun _ => AV → AV → Hp → Prop) (fun _ _ _ => False) (fun _ ih => s_localfs_object_writeL1B cf fuel e0 t0 t41 t42 ih) m
theorem s_localfs_object_writeL1_succ (cf : CallK) (fuel : Nat) (e0 : AV → Hp → Prop) (t0 : AV) (t41 : AV) (t42 : AV) (m : Nat) : s_localfs_object_writeL1 cf fuel e0 t0 t41 t42 (m + 1) = s_localfs_object_writeL1B cf fuel e0 t0 t41 t42 (s_localfs_object_writeL1 cf fuel e0 t0 t41 t42 m) := rfl
noncomputable def s_localfs_object_writeB4 (cf : CallK) (fuel : Nat) (K : AV → Hp → Prop) (t0 : AV) (t1 : AV) (h : Hp) : Prop :=
vNilck t0 h fun t16 h =>
vFaddr 1 t16 h fun t17 h =>
vLoad2 t17 h fun t18 h =>
vLenL2 t18 h fun t19 h =>
vToInt .u32 t19 h fun t20 h =>
vBslice 1 1 true [(.int .u8 0)] [(0, 1, (.int .u8 1))] h fun t13 h =>
vLoad2 t17 h fun c _ => gd (sameV c t18) (
vAppend2 1 1 true t1 t13 h fun t14 h =>
vLoad2 t17 h fun c _ => gd (sameV c t18) (
cf f_zbyte_Append32 [t14, t20] h fun t21 h =>
vNilck t0 h fun t24 h =>
vFaddr 1 t24 h fun t25 h =>
vLoad2 t25 h fun t26 h =>
vAppend2 1 1 true t21 t26 h fun t27 h =>
K t27 h))
noncomputable def s_localfs_object_writeB5 (cf : CallK) (fuel : Nat) (K : AV → Hp → Prop) (t0 : AV) (t1 : AV) (h : Hp) : Prop :=
vNilck t0 h fun t32 h =>
vFaddr 2 t32 h fun t33 h =>
vLoad2 t33 h fun t34 h =>
vLenL2 t34 h fun t35 h =>
vToInt .u32 t35 h fun t36 h =>
vBslice 1 1 true [(.int .u8 0)] [(0, 1, (.int .u8 2))] h fun t29 h =>
vLoad2 t33 h fun c _ => gd (sameV c t34) (
vAppend2 1 1 true t1 t29 h fun t30 h =>
vLoad2 t33 h fun c _ => gd (sameV c t34) (
cf f_zbyte_Append32 [t30, t36] h fun t37 h =>
vNilck t0 h fun t39 h =>
vFaddr 2 t39 h fun t40 h =>
vLoad2 t40 h fun t41 h =>
vLenL2 t41 h fun t42 h =>
(fun (e0 : AV → Hp → Prop) =>
s_localfs_object_writeL1 cf fuel (s_localfs_object_writeE0 cf fuel K) t0 t41 t42 fuel t37 (.int .i64 0) h) (s_localfs_object_writeE0 cf fuel K)))
noncomputable def s_localfs_object_write (cf : CallK) (fuel : Nat) (t0 : AV) (t1 : AV) (h : Hp) (K : AV → Hp → Prop) : Prop :=
vNilck t0 h fun t8 h =>
vFaddr 0 t8 h fun t9 h =>
vLoad2 t9 h fun t10 h =>
vNot t10 h fun t11 h =>
vIf t11 (
s_localfs_object_writeB4 cf fuel K t0 t1 h) (
s_localfs_object_writeB5 cf fuel K t0 t1 h)
theorem s_localfs_object_write_eq (cf : CallK) (fuel : Nat) (t0 : AV) (t1 : AV) (h : Hp) (K : AV → Hp → Prop) : s_localfs_object_write cf fuel t0 t1 h K = deepT (tabOf Tryz.prog) f_localfs_object_write cf fuel [t0, t1] h K :=
  Eq.trans (by kernel_rfl) (rFun (by kernel_rfl) (rSeq (by kernel_rfl) (rSeq (by kernel_rfl) (rSeq (by kernel_rfl) (rSeq (by kernel_rfl) rExact (rSeq (by kernel_rfl) (rBlock (by kernel_rfl) (rLoop (by kernel_rfl) (fun m1 fr h => s_localfs_object_writeL1 cf fuel (s_localfs_object_writeE0 cf fuel K) (getS fr (gpos 0)) (getS fr (gpos 41)) (getS fr (gpos 42)) m1 (getS fr (gpos 1)) (getS fr (gpos 43)) h) (funext fun fr => funext fun h => by kernel_rfl) fun m1 => rCast (funext fun fr => funext fun h => by kernel_rfl) rExact)) rExact)) rExact) rExact) rExact))

noncomputable def s_bytes_Equal (cf : CallK) (fuel : Nat) (t0 : AV) (t1 : AV) (h : Hp) (K : AV → Hp → Prop) : Prop :=
vToStr t0 h fun t6 h =>
vToStr t1 h fun t8 h =>
vEql t6 t8 h fun t9 h =>
K t9 h
theorem s_bytes_Equal_eq (cf : CallK) (fuel : Nat) (t0 : AV) (t1 : AV) (h : Hp) (K : AV → Hp → Prop) : s_bytes_Equal cf fuel t0 t1 h K = deepT (tabOf Tryz.prog) f_bytes_Equal cf fuel [t0, t1] h K :=
  Eq.trans (by kernel_rfl) (rFun (by kernel_rfl) rExact)

noncomputable def s_wal_Volume_CommitE1 (cf : CallK) (fuel : Nat) (K : AV → Hp → Prop) (t0 : AV) : Hp → Prop := fun h =>
vNilck t0 h fun t40 h =>
vFaddr 3 t40 h fun t41 h =>
vLoad2 t41 h fun t42 h =>
vAdd t42 (.int .i64 1) h fun t43 h =>
vNilck t0 h fun t44 h =>
vFaddr 3 t44 h fun t45 h =>
vStore 1 t45 t43 h fun _ h =>
vNilck t0 h fun t47 h =>
vFaddr 4 t47 h fun t48 h =>
vStore 1 t48 (.bool .true) h fun _ h =>
K (.int .i64 0) h
noncomputable def s_wal_Volume_CommitB4 (cf : CallK) (fuel : Nat) (ih2 : AV → Hp → Prop) (t0 : AV) (t22 : AV) (t24 : AV) (h : Hp) : Prop :=
(fun (e3 : Hp → Prop) =>
vIaddr 2 t22 t24 h fun t26 h =>
vLoadA 2 t26 h fun t27 h =>
vBox 2 (.agg [(.int .i64 0), .nilslice]) h fun t6 h =>
vStore 2 t6 t27 h fun _ h =>
vNilck t0 h fun t29 h =>
vFaddr 1 t29 h fun t30 h =>
vLoad2 t30 h fun t31 h =>
vFaddr 0 t6 h fun t32 h =>
vLoad2 t32 h fun t33 h =>
vFaddr 1 t6 h fun t34 h =>
vLoad2 t34 h fun t35 h =>
cf f_bytes_Clone [t35] h fun t36 h =>
vLoad2 t30 h fun c _ => gd (sameV c t31) (
vLoad2 t32 h fun c _ => gd (sameV c t33) (
vIaddr 1 t31 t33 h fun t37 h =>
vStore 1 t37 t36 h fun _ h =>
e3 h))) fun h =>
vAdd t24 (.int .i64 1) h fun t38 h =>
ih2 t38 h
noncomputable def s_wal_Volume_CommitL2B (cf : CallK) (fuel : Nat) (e1 : Hp → Prop) (t0 : AV) (t22 : AV) (t23 : AV) (ih2 : AV → Hp → Prop) : AV → Hp → Prop := fun t24 h =>
vLss t24 t23 h fun t25 h =>
vIf t25 (
s_wal_Volume_CommitB4 cf fuel ih2 t0 t22 t24 h) (
e1 h)
noncomputable def s_wal_Volume_CommitL2 (cf : CallK) (fuel : Nat) (e1 : Hp → Prop) (t0 : AV) (t22 : AV) (t23 : AV) (m : Nat) : AV → Hp → Prop := Nat.rec (motive := fun _ => AV → Hp → Prop) (fun _ _ => False) (fun _ ih => s_wal_Volume_CommitL2B cf fuel e1 t0 t22 t23 ih) m
theorem s_wal_Volume_CommitL2_succ (cf : CallK) (fuel : Nat) (e1 : Hp → Prop) (t0 : AV) (t22 : AV) (t23 : AV) (m : Nat) : s_wal_Volume_CommitL2 cf fuel e1 t0 t22 t23 (m + 1) = s_wal_Volume_CommitL2B cf fuel e1 t0 t22 t23 (s_wal_Volume_CommitL2 cf fuel e1 t0 t22 t23 m) := rfl
noncomputable def s_wal_Volume_Commit (cf : CallK) (fuel : Nat) (t0 : AV) (t1 : AV) (h : Hp) (K : AV → Hp → Prop) : Prop :=
(fun (e0 : Hp → Prop) =>
vEq false eqP t0 .nilptr h fun t9 h =>
vIf t9 (
K (.int .i64 5) h) (
cf f_wal_Volume_may [t0, t1] h fun t13 h =>
vNot t13 h fun t14 h =>
vIf t14 (
K (.int .i64 22) h) (
vLenL2 t1 h fun t17 h =>
vEql t17 (.int .i64 0) h fun t18 h =>
vIf t18 (
K (.int .i64 0) h) (
cf f_wal_Volume_dead [t0] h fun t21 h =>
vIf t21 (
K (.int .i64 5) h) (
e0 h))))) fun h =>
vLenL2 t1 h fun t23 h =>
(fun (e1 : Hp → Prop) =>
s_wal_Volume_CommitL2 cf fuel (s_wal_Volume_CommitE1 cf fuel K t0) t0 t1 t23 fuel (.int .i64 0) h) (s_wal_Volume_CommitE1 cf fuel K t0)
theorem s_wal_Volume_Commit_eq (cf : CallK) (fuel : Nat) (t0 : AV) (t1 : AV) (h : Hp) (K : AV → Hp → Prop) : s_wal_Volume_Commit cf fuel t0 t1 h K = deepT (tabOf Tryz.prog) f_wal_Volume_Commit cf fuel [t0, t1] h K :=
  Eq.trans (by kernel_rfl) (rFun (by kernel_rfl) (rSeq (by kernel_rfl) (rSeq (by kernel_rfl) (rSeq (by kernel_rfl) rExact (rSeq (by kernel_rfl) (rBlock (by kernel_rfl) (rLoop (by kernel_rfl) (fun m2 fr h => s_wal_Volume_CommitL2 cf fuel (s_wal_Volume_CommitE1 cf fuel K (getS fr (gpos 0))) (getS fr (gpos 0)) (getS fr (gpos 22)) (getS fr (gpos 23)) m2 (getS fr (gpos 24)) h) (funext fun fr => funext fun h => by kernel_rfl) fun m2 => rCast (funext fun fr => funext fun h => by kernel_rfl) rExact)) rExact)) rExact) rExact))

noncomputable def s_path_ParseE1 (cf : CallK) (fuel : Nat) (K : AV → Hp → Prop) (t4 : AV) : Hp → Prop := fun h =>
K (.tup [t4, (.int .i64 0)]) h
noncomputable def s_path_ParseB4 (cf : CallK) (fuel : Nat) (K : AV → Hp → Prop) (ih2 : AV → Hp → Prop) (t27 : AV) (t29 : AV) (h : Hp) : Prop :=
(fun (e3 : Hp → Prop) =>
vIaddr 1 t27 t29 h fun t31 h =>
vLoad2 t31 h fun t32 h =>
cf f_clash_Split [t32] h fun t35 h =>
vExtract 0 t35 h fun t36 h =>
vExtract 1 t35 h fun t37 h =>
vExtract 2 t35 h fun t38 h =>
vBox 2 (.agg [(.int .i64 0), (.int .i64 0)]) h fun t8 h =>
vStore 2 t8 t37 h fun _ h =>
vIf t38 (
e3 h) (
cf f_ops_Name [t32] h fun t41 h =>
vNeq t41 (.int .i64 0) h fun t43 h =>
vIf t43 (
K (.tup [.nilslice, t41]) h) (
e3 h))) fun h =>
vAdd t29 (.int .i64 1) h fun t45 h =>
ih2 t45 h
noncomputable def s_path_ParseL2B (cf : CallK) (fuel : Nat) (K : AV → Hp → Prop) (e1 : Hp → Prop) (t4 : AV) (t27 : AV) (t28 : AV) (ih2 : AV → Hp → Prop) : AV → Hp → Prop := fun t29 h =>
vLss t29 t28 h fun t30 h =>
vIf t30 (
s_path_ParseB4 cf fuel K ih2 t27 t29 h) (
e1 h)
noncomputable def s_path_ParseL2 (cf : CallK) (fuel : Nat) (K : AV → Hp → Prop) (e1 : Hp → Prop) (t4 : AV) (t27 : AV) (t28 : AV) (m : Nat) : AV → Hp → Prop := Nat.rec (motive := fun _ => AV → Hp → Prop) (fun _ _ => False) (fun _ ih => s_path_ParseL2B cf fuel K e1 t4 t27 t28 ih) m
theorem s_path_ParseL2_succ (cf : CallK) (fuel : Nat) (K : AV → Hp → Prop) (e1 : Hp → Prop) (t4 : AV) (t27 : AV) (t28 : AV) (m : Nat) : s_path_ParseL2 cf fuel K e1 t4 t27 t28 (m + 1) = s_path_ParseL2B cf fuel K e1 t4 t27 t28 (s_path_ParseL2 cf fuel K e1 t4 t27 t28 m) := rfl
noncomputable def s_path_ParseB8 (cf : CallK) (fuel : Nat) (K : AV → Hp → Prop) (t0 : AV) (h : Hp) : Prop :=
(fun (j0 : AV → Hp → Prop) =>
vNeq t0 (.str 1 47) h fun t15 h =>
vIf t15 (
vSliceS t0 (some (.int .i64 1)) none h fun t17 h =>
cf f_strings_Split [t17, (.str 1 47)] h fun t18 h =>
j0 t18 h) (
j0 .nilslice h)) fun t4 h =>
vLenS t0 h fun t20 h =>
vGtr t20 (.int .i64 1024) h fun t21 h =>
joinG (fun g7 => grdV t21 false (vMov t4 h g7) (g7 undefV h)) fun t23 h =>
joinG (fun g6 => grdV t21 false (vLenL2 t23 h g6) (g6 undefV h)) fun t24 h =>
joinG (fun g5 => grdV t21 false (vGtr t24 (.int .i64 64) h g5) (g5 undefV h)) fun t25 h =>
vPick t21 (.bool .true) t25 h fun t26 h =>
vIf t26 (
K (.tup [.nilslice, (.int .i64 36)]) h) (
vLenL2 t4 h fun t28 h =>
(fun (e1 : Hp → Prop) =>
s_path_ParseL2 cf fuel K (s_path_ParseE1 cf fuel K t4) t4 t4 t28 fuel (.int .i64 0) h) (s_path_ParseE1 cf fuel K t4))
noncomputable def s_path_Parse (cf : CallK) (fuel : Nat) (t0 : AV) (h : Hp) (K : AV → Hp → Prop) : Prop :=
cf f_strings_HasPrefix [t0, (.str 1 47)] h fun t12 h =>
vNot t12 h fun t13 h =>
vIf t13 (
K (.tup [.nilslice, (.int .i64 22)]) h) (
s_path_ParseB8 cf fuel K t0 h)
theorem s_path_Parse_eq (cf : CallK) (fuel : Nat) (t0 : AV) (h : Hp) (K : AV → Hp → Prop) : s_path_Parse cf fuel t0 h K = deepT (tabOf Tryz.prog) f_path_Parse cf fuel [t0] h K :=
  Eq.trans (by kernel_rfl) (rFun (by kernel_rfl) (rSeq (by kernel_rfl) (rSeq (by kernel_rfl) (rSeq (by kernel_rfl) (rSeq (by kernel_rfl) (rSeq (by kernel_rfl) (rSeq (by kernel_rfl) rExact (rSeq (by kernel_rfl) (rBlock (by kernel_rfl) (rLoop (by kernel_rfl) (fun m2 fr h => s_path_ParseL2 cf fuel K (s_path_ParseE1 cf fuel K (getS fr (gpos 4))) (getS fr (gpos 4)) (getS fr (gpos 27)) (getS fr (gpos 28)) m2 (getS fr (gpos 29)) h) (funext fun fr => funext fun h => by kernel_rfl) fun m2 => rCast (funext fun fr => funext fun h => by kernel_rfl) rExact)) rExact)) rExact) rExact) rExact) rExact) rExact))

noncomputable def s_view_View_WalkE0 (cf : CallK) (fuel : Nat) (K : AV → Hp → Prop) (t4 : AV) (t6 : AV) : Hp → Prop := fun h =>
vLoadA 2 t6 h fun t47 h =>
vStore 2 t4 t47 h fun _ h =>
vLoadA 2 t4 h fun r0 _ => K (.tup [r0, (.int .i64 0)]) h
noncomputable def s_view_View_WalkB3 (cf : CallK) (fuel : Nat) (K : AV → Hp → Prop) (ih1 : AV → Hp → Prop) (t0 : AV) (t4 : AV) (t6 : AV) (t16 : AV) (t18 : AV) (h : Hp) : Prop :=
(fun (e2 : Hp → Prop) =>
vIaddr 1 t16 t18 h fun t20 h =>
vLoad2 t20 h fun t21 h =>
vNilck t0 h fun t23 h =>
vFaddr 0 t23 h fun t24 h =>
vLoad2 t24 h fun t25 h =>
vLoadA 2 t6 h fun t26 h =>
cf f_movetree_Tree_Dir [t25, t26] h fun t27 h =>
vNot t27 h fun t28 h =>
vIf t28 (
vBuild [(.int .i64 0), (.int .i64 0)] [] h fun t29 h =>
vStore 2 t4 t29 h fun _ h =>
vLoadA 2 t4 h fun r0 _ => K (.tup [r0, (.int .i64 20)]) h) (
vLoadA 2 t6 h fun t32 h =>
cf f_view_View_kids [t0, t32] h fun t33 h =>
vExtract 0 t33 h fun t34 h =>
vExtract 1 t33 h fun t35 h =>
cf f_slices_Index_string_string [t35, t21] h fun t38 h =>
vLss t38 (.int .i64 0) h fun t40 h =>
vIf t40 (
vBuild [(.int .i64 0), (.int .i64 0)] [] h fun t41 h =>
vStore 2 t4 t41 h fun _ h =>
vLoadA 2 t4 h fun r0 _ => K (.tup [r0, (.int .i64 2)]) h) (
vIaddr 2 t34 t38 h fun t44 h =>
vLoadA 2 t44 h fun t45 h =>
vStore 2 t6 t45 h fun _ h =>
e2 h))) fun h =>
vAdd t18 (.int .i64 1) h fun t46 h =>
ih1 t46 h
noncomputable def s_view_View_WalkL1B (cf : CallK) (fuel : Nat) (K : AV → Hp → Prop) (e0 : Hp → Prop) (t0 : AV) (t4 : AV) (t6 : AV) (t16 : AV) (t17 : AV) (ih1 : AV → Hp → Prop) : AV → Hp → Prop := fun t18 h =>
vLss t18 t17 h fun t19 h =>
vIf t19 (
s_view_View_WalkB3 cf fuel K ih1 t0 t4 t6 t16 t18 h) (
e0 h)
noncomputable def s_view_View_WalkL1 (cf : CallK) (fuel : Nat) (K : AV → Hp → Prop) (e0 : Hp → Prop) (t0 : AV) (t4 : AV) (t6 : AV) (t16 : AV) (t17 : AV) (m : Nat) : AV → Hp → Prop := Nat.rec (motive := fun _ => AV → Hp → Prop) (fun _ _ => False) (fun _ ih => s_view_View_WalkL1B cf fuel K e0 t0 t4 t6 t16 t17 ih) m
theorem s_view_View_WalkL1_succ (cf : CallK) (fuel : Nat) (K : AV → Hp → Prop) (e0 : Hp → Prop) (t0 : AV) (t4 : AV) (t6 : AV) (t16 : AV) (t17 : AV) (m : Nat) : s_view_View_WalkL1 cf fuel K e0 t0 t4 t6 t16 t17 (m + 1) = s_view_View_WalkL1B cf fuel K e0 t0 t4 t6 t16 t17 (s_view_View_WalkL1 cf fuel K e0 t0 t4 t6 t16 t17 m) := rfl
noncomputable def s_view_View_Walk (cf : CallK) (fuel : Nat) (t0 : AV) (t1 : AV) (h : Hp) (K : AV → Hp → Prop) : Prop :=
vBox 2 (.agg [(.int .i64 0), (.int .i64 0)]) h fun t4 h =>
vEq false eqP t0 .nilptr h fun t13 h =>
vIf t13 (
vBuild [(.int .i64 0), (.int .i64 0)] [] h fun t14 h =>
vStore 2 t4 t14 h fun _ h =>
vLoadA 2 t4 h fun r0 _ => K (.tup [r0, (.int .i64 2)]) h) (
cf f_ops_Root [] h fun t15 h =>
vBox 2 (.agg [(.int .i64 0), (.int .i64 0)]) h fun t6 h =>
vStore 2 t6 t15 h fun _ h =>
vLenL2 t1 h fun t17 h =>
(fun (e0 : Hp → Prop) =>
s_view_View_WalkL1 cf fuel K (s_view_View_WalkE0 cf fuel K t4 t6) t0 t4 t6 t1 t17 fuel (.int .i64 0) h) (s_view_View_WalkE0 cf fuel K t4 t6))
theorem s_view_View_Walk_eq (cf : CallK) (fuel : Nat) (t0 : AV) (t1 : AV) (h : Hp) (K : AV → Hp → Prop) : s_view_View_Walk cf fuel t0 t1 h K = deepT (tabOf Tryz.prog) f_view_View_Walk cf fuel [t0, t1] h K :=
  Eq.trans (by kernel_rfl) (rFun (by kernel_rfl) (rSeq (by kernel_rfl) (rSeq (by kernel_rfl) (rSeq (by kernel_rfl) (rSeq (by kernel_rfl) rExact (rSeq (by kernel_rfl) (rBlock (by kernel_rfl) (rLoop (by kernel_rfl) (fun m1 fr h => s_view_View_WalkL1 cf fuel K (s_view_View_WalkE0 cf fuel K (getS fr (gpos 4)) (getS fr (gpos 6))) (getS fr (gpos 0)) (getS fr (gpos 4)) (getS fr (gpos 6)) (getS fr (gpos 16)) (getS fr (gpos 17)) m1 (getS fr (gpos 18)) h) (funext fun fr => funext fun h => by kernel_rfl) fun m1 => rCast (funext fun fr => funext fun h => by kernel_rfl) rExact)) rExact)) rExact) rExact) rExact))

noncomputable def s_view_View_Live (cf : CallK) (fuel : Nat) (t0 : AV) (t1 : AV) (h : Hp) (K : AV → Hp → Prop) : Prop :=
vBox 2 t1 h fun t3 h =>
vEq true eqP t0 .nilptr h fun t6 h =>
joinG (fun g5 => grdV t6 true (vMov t0 h g5) (g5 undefV h)) fun t8 h =>
joinG (fun g4 => grdV t6 true (vNilck t8 h g4) (g4 undefV h)) fun t9 h =>
joinG (fun g3 => grdV t6 true (vFaddr 0 t9 h g3) (g3 undefV h)) fun t10 h =>
joinG (fun g2 => grdV t6 true (vLoad2 t10 h g2) (g2 undefV h)) fun t11 h =>
joinG (fun g1 => grdV t6 true (vLoadA 2 t3 h g1) (g1 undefV h)) fun t12 h =>
joinG (fun g0 => grdV t6 true (cf f_movetree_Tree_Live [t11, t12] h g0) (g0 undefV h)) fun t13 h =>
vPick t6 t13 (.bool .false) h fun t14 h =>
K t14 h
theorem s_view_View_Live_eq (cf : CallK) (fuel : Nat) (t0 : AV) (t1 : AV) (h : Hp) (K : AV → Hp → Prop) : s_view_View_Live cf fuel t0 t1 h K = deepT (tabOf Tryz.prog) f_view_View_Live cf fuel [t0, t1] h K :=
  Eq.trans (by kernel_rfl) (rFun (by kernel_rfl) rExact)

noncomputable def s_movetree_Tree_Dir (cf : CallK) (fuel : Nat) (t0 : AV) (t1 : AV) (h : Hp) (K : AV → Hp → Prop) : Prop :=
vBox 2 t1 h fun t3 h =>
vEq true eqP t0 .nilptr h fun t6 h =>
joinG (fun g10 => grdV t6 true (vLoadA 2 t3 h g10) (g10 undefV h)) fun t8 h =>
joinG (fun g9 => grdV t6 true (cf f_movetree_fixed [t8] h g9) (g9 undefV h)) fun t9 h =>
joinG (fun g8 => grdV t6 true (vMov t9 h g8) (g8 undefV h)) fun t10 h =>
joinG (fun g7 => grdV t10 false (vMov t0 h g7) (g7 undefV h)) fun t11 h =>
joinG (fun g6 => grdV t10 false (vNilck t11 h g6) (g6 undefV h)) fun t12 h =>
joinG (fun g5 => grdV t10 false (vFaddr 0 t12 h g5) (g5 undefV h)) fun t13 h =>
joinG (fun g4 => grdV t10 false (vLoad2 t13 h g4) (g4 undefV h)) fun t14 h =>
joinG (fun g3 => grdV t10 false (vLoadA 2 t3 h g3) (g3 undefV h)) fun t15 h =>
joinG (fun g2 => grdV t10 false (vLookup Go.Am.eqPair false (.agg [(.bool .false), (.int .i64 0), (.int .i64 0), (.str 0 0)]) t14 t15 h g2) (g2 undefV h)) fun t16 h =>
joinG (fun g1 => grdV t10 false (vField 0 t16 h g1) (g1 undefV h)) fun t17 h =>
joinG (fun g0 => grdV t6 true (vPick t10 (.bool .true) t17 h g0) (g0 undefV h)) fun t18 h =>
vPick t6 t18 (.bool .false) h fun t19 h =>
K t19 h
theorem s_movetree_Tree_Dir_eq (cf : CallK) (fuel : Nat) (t0 : AV) (t1 : AV) (h : Hp) (K : AV → Hp → Prop) : s_movetree_Tree_Dir cf fuel t0 t1 h K = deepT (tabOf Tryz.prog) f_movetree_Tree_Dir cf fuel [t0, t1] h K :=
  Eq.trans (by kernel_rfl) (rFun (by kernel_rfl) rExact)

noncomputable def s_view_View_size (cf : CallK) (fuel : Nat) (t0 : AV) (t1 : AV) (h : Hp) (K : AV → Hp → Prop) : Prop :=
vBox 2 t1 h fun t3 h =>
vNilck t0 h fun t6 h =>
vFaddr 0 t6 h fun t7 h =>
vLoad2 t7 h fun t8 h =>
vLoadA 2 t3 h fun t9 h =>
cf f_movetree_Tree_Dir [t8, t9] h fun t10 h =>
vIf t10 (
K (.int .i64 0) h) (
vNilck t0 h fun t12 h =>
vFaddr 1 t12 h fun t13 h =>
vLoad2 t13 h fun t14 h =>
vLoadA 2 t3 h fun t15 h =>
vLookup Go.Am.eqPair false .nilptr t14 t15 h fun t16 h =>
cf f_content_File_Size [t16] h fun t17 h =>
K t17 h)
theorem s_view_View_size_eq (cf : CallK) (fuel : Nat) (t0 : AV) (t1 : AV) (h : Hp) (K : AV → Hp → Prop) : s_view_View_size cf fuel t0 t1 h K = deepT (tabOf Tryz.prog) f_view_View_size cf fuel [t0, t1] h K :=
  Eq.trans (by kernel_rfl) (rFun (by kernel_rfl) rExact)

noncomputable def s_fds_Table_Len (cf : CallK) (fuel : Nat) (t0 : AV) (h : Hp) (K : AV → Hp → Prop) : Prop :=
vEq false eqP t0 .nilptr h fun t4 h =>
vIf t4 (
K (.int .i64 0) h) (
vNilck t0 h fun t6 h =>
vFaddr 0 t6 h fun t7 h =>
vLoad2 t7 h fun t8 h =>
vLenL2 t8 h fun t9 h =>
vNilck t0 h fun t11 h =>
vFaddr 1 t11 h fun t12 h =>
vLoad2 t12 h fun t13 h =>
vLenL2 t13 h fun t14 h =>
vArith Go.Am.subI t9 t14 h fun t15 h =>
K t15 h)
theorem s_fds_Table_Len_eq (cf : CallK) (fuel : Nat) (t0 : AV) (h : Hp) (K : AV → Hp → Prop) : s_fds_Table_Len cf fuel t0 h K = deepT (tabOf Tryz.prog) f_fds_Table_Len cf fuel [t0] h K :=
  Eq.trans (by kernel_rfl) (rFun (by kernel_rfl) rExact)

noncomputable def s_fds_Table_find (cf : CallK) (fuel : Nat) (t0 : AV) (t1 : AV) (h : Hp) (K : AV → Hp → Prop) : Prop :=
vEq false eqP t0 .nilptr h fun t6 h =>
joinG (fun g17 => grdV t6 false (vMov t1 h g17) (g17 undefV h)) fun t8 h =>
joinG (fun g16 => grdV t6 false (vLss t8 (.int .i64 0) h g16) (g16 undefV h)) fun t9 h =>
vPick t6 (.bool .true) t9 h fun t10 h =>
joinG (fun g15 => grdV t10 false (vMov t1 h g15) (g15 undefV h)) fun t12 h =>
joinG (fun g14 => grdV t10 false (vMov t0 h g14) (g14 undefV h)) fun t13 h =>
joinG (fun g13 => grdV t10 false (vNilck t13 h g13) (g13 undefV h)) fun t14 h =>
joinG (fun g12 => grdV t10 false (vFaddr 0 t14 h g12) (g12 undefV h)) fun t15 h =>
joinG (fun g11 => grdV t10 false (vLoad2 t15 h g11) (g11 undefV h)) fun t16 h =>
joinG (fun g10 => grdV t10 false (vLenL2 t16 h g10) (g10 undefV h)) fun t17 h =>
joinG (fun g9 => grdV t10 false (vGeq t12 t17 h g9) (g9 undefV h)) fun t18 h =>
vPick t10 (.bool .true) t18 h fun t19 h =>
joinG (fun g8 => grdV t19 false (vMov t0 h g8) (g8 undefV h)) fun t21 h =>
joinG (fun g7 => grdV t19 false (vNilck t21 h g7) (g7 undefV h)) fun t22 h =>
joinG (fun g6 => grdV t19 false (vFaddr 0 t22 h g6) (g6 undefV h)) fun t23 h =>
joinG (fun g5 => grdV t19 false (vLoad2 t23 h g5) (g5 undefV h)) fun t24 h =>
joinG (fun g4 => grdV t19 false (vMov t1 h g4) (g4 undefV h)) fun t25 h =>
joinG (fun g3 => grdV t19 false (vIaddr 5 t24 t25 h g3) (g3 undefV h)) fun t26 h =>
joinG (fun g2 => grdV t19 false (vFaddr 4 t26 h g2) (g2 undefV h)) fun t27 h =>
joinG (fun g1 => grdV t19 false (vLoad2 t27 h g1) (g1 undefV h)) fun t28 h =>
joinG (fun g0 => grdV t19 false (vNot t28 h g0) (g0 undefV h)) fun t29 h =>
vPick t19 (.bool .true) t29 h fun t30 h =>
vIf t30 (
K .nilptr h) (
vNilck t0 h fun t32 h =>
vFaddr 0 t32 h fun t33 h =>
vLoad2 t33 h fun t34 h =>
vIaddr 5 t34 t1 h fun t36 h =>
K t36 h)
theorem s_fds_Table_find_eq (cf : CallK) (fuel : Nat) (t0 : AV) (t1 : AV) (h : Hp) (K : AV → Hp → Prop) : s_fds_Table_find cf fuel t0 t1 h K = deepT (tabOf Tryz.prog) f_fds_Table_find cf fuel [t0, t1] h K :=
  Eq.trans (by kernel_rfl) (rFun (by kernel_rfl) rExact)

noncomputable def s_view_View_file (cf : CallK) (fuel : Nat) (t0 : AV) (t1 : AV) (h : Hp) (K : AV → Hp → Prop) : Prop :=
vBox 2 t1 h fun t3 h =>
(fun (e0 : Hp → Prop) =>
vLoadA 2 t3 h fun t8 h =>
cf f_view_View_Live [t0, t8] h fun t9 h =>
vNot t9 h fun t10 h =>
vIf t10 (
K (.tup [.nilptr, (.int .i64 2)]) h) (
vNilck t0 h fun t13 h =>
vFaddr 0 t13 h fun t14 h =>
vLoad2 t14 h fun t15 h =>
vLoadA 2 t3 h fun t16 h =>
cf f_movetree_Tree_Dir [t15, t16] h fun t17 h =>
vIf t17 (
K (.tup [.nilptr, (.int .i64 21)]) h) (
e0 h))) fun h =>
vNilck t0 h fun t19 h =>
vFaddr 1 t19 h fun t20 h =>
vLoad2 t20 h fun t21 h =>
vLoadA 2 t3 h fun t22 h =>
vLookup Go.Am.eqPair false .nilptr t21 t22 h fun t23 h =>
K (.tup [t23, (.int .i64 0)]) h
theorem s_view_View_file_eq (cf : CallK) (fuel : Nat) (t0 : AV) (t1 : AV) (h : Hp) (K : AV → Hp → Prop) : s_view_View_file cf fuel t0 t1 h K = deepT (tabOf Tryz.prog) f_view_View_file cf fuel [t0, t1] h K :=
  Eq.trans (by kernel_rfl) (rFun (by kernel_rfl) rExact)

noncomputable def s_ops_Name (cf : CallK) (fuel : Nat) (t0 : AV) (h : Hp) (K : AV → Hp → Prop) : Prop :=
(fun (e0 : Hp → Prop) =>
vEql t0 (.str 0 0) h fun t5 h =>
joinG (fun g6 => grdV t5 false (vMov t0 h g6) (g6 undefV h)) fun t7 h =>
joinG (fun g5 => grdV t5 false (vEql t7 (.str 1 46) h g5) (g5 undefV h)) fun t8 h =>
vPick t5 (.bool .true) t8 h fun t9 h =>
joinG (fun g4 => grdV t9 false (vMov t0 h g4) (g4 undefV h)) fun t11 h =>
joinG (fun g3 => grdV t9 false (vEql t11 (.str 2 11822) h g3) (g3 undefV h)) fun t12 h =>
vPick t9 (.bool .true) t12 h fun t13 h =>
joinG (fun g2 => grdV t13 false (vMov t0 h g2) (g2 undefV h)) fun t15 h =>
joinG (fun g1 => grdV t13 false (cf f_strings_ContainsAny [t15, (.str 3 3080448)] h g1) (g1 undefV h)) fun t16 h =>
vPick t13 (.bool .true) t16 h fun t17 h =>
vIf t17 (
K (.int .i64 22) h) (
vLenS t0 h fun t20 h =>
vGtr t20 (.int .i64 64) h fun t21 h =>
vIf t21 (
K (.int .i64 36) h) (
e0 h))) fun h =>
K (.int .i64 0) h
theorem s_ops_Name_eq (cf : CallK) (fuel : Nat) (t0 : AV) (h : Hp) (K : AV → Hp → Prop) : s_ops_Name cf fuel t0 h K = deepT (tabOf Tryz.prog) f_ops_Name cf fuel [t0] h K :=
  Eq.trans (by kernel_rfl) (rFun (by kernel_rfl) rExact)

noncomputable def s_clock_Clock_Next (cf : CallK) (fuel : Nat) (t0 : AV) (h : Hp) (K : AV → Hp → Prop) : Prop :=
vBox 2 (.agg [(.int .i64 0), (.int .i64 0)]) h fun t2 h =>
vEq false eqP t0 .nilptr h fun t7 h =>
joinG (fun g4 => grdV t7 false (vMov t0 h g4) (g4 undefV h)) fun t9 h =>
joinG (fun g3 => grdV t7 false (vNilck t9 h g3) (g3 undefV h)) fun t10 h =>
joinG (fun g2 => grdV t7 false (vFaddr 1 t10 h g2) (g2 undefV h)) fun t11 h =>
joinG (fun g1 => grdV t7 false (vLoad2 t11 h g1) (g1 undefV h)) fun t12 h =>
joinG (fun g0 => grdV t7 false (vGeq t12 (.int .i64 1152921504606846976) h g0) (g0 undefV h)) fun t13 h =>
vPick t7 (.bool .true) t13 h fun t14 h =>
vIf t14 (
vBuild [(.int .i64 0), (.int .i64 0)] [] h fun t15 h =>
vStore 2 t2 t15 h fun _ h =>
vLoadA 2 t2 h fun r0 _ => K (.tup [r0, (.bool .false), (.int .i64 75)]) h) (
vNilck t0 h fun t18 h =>
vFaddr 1 t18 h fun t19 h =>
vLoad2 t19 h fun t20 h =>
vAdd t20 (.int .i64 1) h fun t21 h =>
cf f_clock_Clock_to [t0, t21] h fun t22 h =>
vNilck t0 h fun t24 h =>
vFaddr 1 t24 h fun t25 h =>
vLoad2 t25 h fun t26 h =>
vNilck t0 h fun t28 h =>
vFaddr 0 t28 h fun t29 h =>
vLoad2 t29 h fun t30 h =>
vBuild [(.int .i64 0), (.int .i64 0)] [(0, 1, t26), (1, 1, t30)] h fun t31 h =>
vStore 2 t2 t31 h fun _ h =>
vLoadA 2 t2 h fun r0 _ => K (.tup [r0, t22, (.int .i64 0)]) h)
theorem s_clock_Clock_Next_eq (cf : CallK) (fuel : Nat) (t0 : AV) (h : Hp) (K : AV → Hp → Prop) : s_clock_Clock_Next cf fuel t0 h K = deepT (tabOf Tryz.prog) f_clock_Clock_Next cf fuel [t0] h K :=
  Eq.trans (by kernel_rfl) (rFun (by kernel_rfl) rExact)

noncomputable def s_ops_Trash (cf : CallK) (fuel : Nat) (h : Hp) (K : AV → Hp → Prop) : Prop :=
vBox 2 (.agg [(.int .i64 0), (.int .i64 0)]) h fun t0 h =>
vBuild [(.int .i64 0), (.int .i64 0)] [(1, 1, (.int .i64 1))] h fun t1 h =>
vStore 2 t0 t1 h fun _ h =>
vLoadA 2 t0 h fun r0 _ => K r0 h
theorem s_ops_Trash_eq (cf : CallK) (fuel : Nat) (h : Hp) (K : AV → Hp → Prop) : s_ops_Trash cf fuel h K = deepT (tabOf Tryz.prog) f_ops_Trash cf fuel [] h K :=
  Eq.trans (by kernel_rfl) (rFun (by kernel_rfl) rExact)

noncomputable def s_movetree_Tree_BelowE0 (cf : CallK) (fuel : Nat) (K : AV → Hp → Prop) : Hp → Prop := fun h =>
K undefV h
noncomputable def s_movetree_Tree_BelowL1B (cf : CallK) (fuel : Nat) (K : AV → Hp → Prop) (t0 : AV) (t4 : AV) (t5 : AV) (ih1 : Hp → Prop) : Hp → Prop := fun h =>
(fun (e2 : Hp → Prop) =>
vLoadA 2 t4 h fun t12 h =>
cf f_movetree_Tree_Parent [t0, t12] h fun t13 h =>
vExtract 0 t13 h fun t14 h =>
vExtract 1 t13 h fun t15 h =>
vExtract 2 t13 h fun t16 h =>
vBox 2 (.agg [(.int .i64 0), (.int .i64 0)]) h fun t7 h =>
vStore 2 t7 t14 h fun _ h =>
vNot t16 h fun t18 h =>
vIf t18 (
K (.bool .false) h) (
vLoadA 2 t7 h fun t19 h =>
vLoadA 2 t5 h fun t20 h =>
vEq false eqPairS t19 t20 h fun t21 h =>
vIf t21 (
K (.bool .true) h) (
vLoadA 2 t7 h fun t22 h =>
vStore 2 t4 t22 h fun _ h =>
e2 h))) fun h =>
ih1 h
noncomputable def s_movetree_Tree_BelowL1 (cf : CallK) (fuel : Nat) (K : AV → Hp → Prop) (t0 : AV) (t4 : AV) (t5 : AV) (m : Nat) : Hp → Prop := Nat.rec (motive := fun _ => Hp → Prop) (fun _ => False) (fun _ ih => s_movetree_Tree_BelowL1B cf fuel K t0 t4 t5 ih) m
theorem s_movetree_Tree_BelowL1_succ (cf : CallK) (fuel : Nat) (K : AV → Hp → Prop) (t0 : AV) (t4 : AV) (t5 : AV) (m : Nat) : s_movetree_Tree_BelowL1 cf fuel K t0 t4 t5 (m + 1) = s_movetree_Tree_BelowL1B cf fuel K t0 t4 t5 (s_movetree_Tree_BelowL1 cf fuel K t0 t4 t5 m) := rfl
noncomputable def s_movetree_Tree_Below (cf : CallK) (fuel : Nat) (t0 : AV) (t1 : AV) (t2 : AV) (h : Hp) (K : AV → Hp → Prop) : Prop :=
vBox 2 t1 h fun t4 h =>
vBox 2 t2 h fun t5 h =>
(fun (e0 : Hp → Prop) =>
s_movetree_Tree_BelowL1 cf fuel K t0 t4 t5 fuel h) (s_movetree_Tree_BelowE0 cf fuel K)
theorem s_movetree_Tree_Below_eq (cf : CallK) (fuel : Nat) (t0 : AV) (t1 : AV) (t2 : AV) (h : Hp) (K : AV → Hp → Prop) : s_movetree_Tree_Below cf fuel t0 t1 t2 h K = deepT (tabOf Tryz.prog) f_movetree_Tree_Below cf fuel [t0, t1, t2] h K :=
  Eq.trans (by kernel_rfl) (rFun (by kernel_rfl) (rSeq (by kernel_rfl) (rBlock (by kernel_rfl) (rLoop (by kernel_rfl) (fun m1 fr h => s_movetree_Tree_BelowL1 cf fuel K (getS fr (gpos 0)) (getS fr (gpos 4)) (getS fr (gpos 5)) m1 h) (funext fun fr => funext fun h => by kernel_rfl) fun m1 => rCast (funext fun fr => funext fun h => by kernel_rfl) rExact)) rExact))

noncomputable def s_movetree_Tree_ParentB0 (cf : CallK) (fuel : Nat) (K : AV → Hp → Prop) (t0 : AV) (t4 : AV) (t3 : AV) (h : Hp) : Prop :=
vNilck t0 h fun t14 h =>
vFaddr 0 t14 h fun t15 h =>
vLoad2 t15 h fun t16 h =>
vLoadA 2 t3 h fun t17 h =>
vLookup Go.Am.eqPair true (.agg [(.bool .false), (.int .i64 0), (.int .i64 0), (.str 0 0)]) t16 t17 h fun t18 h =>
vExtract 0 t18 h fun t19 h =>
vExtract 1 t18 h fun t20 h =>
vBox 4 (.agg [(.bool .false), (.int .i64 0), (.int .i64 0), (.str 0 0)]) h fun t7 h =>
vLoad2 t15 h fun c _ => gd (sameV c t16) (
vLoadA 2 t3 h fun c _ => gd (sameV c t17) (
vLookup Go.Am.eqPair true (.agg [(.bool .false), (.int .i64 0), (.int .i64 0), (.str 0 0)]) t16 t17 h fun c _ => gd (sameV c t18) (
vStore 4 t7 t19 h fun _ h =>
vFaddr 1 t7 h fun t21 h =>
vLoadA 2 t21 h fun t22 h =>
vFaddr 3 t7 h fun t23 h =>
vLoad2 t23 h fun t24 h =>
vStore 2 t4 t22 h fun _ h =>
vLoad2 t23 h fun c _ => gd (sameV c t24) (
vLoadA 2 t4 h fun r0 _ => K (.tup [r0, t24, t20]) h))))
noncomputable def s_movetree_Tree_Parent (cf : CallK) (fuel : Nat) (t0 : AV) (t1 : AV) (h : Hp) (K : AV → Hp → Prop) : Prop :=
vBox 2 t1 h fun t3 h =>
vBox 2 (.agg [(.int .i64 0), (.int .i64 0)]) h fun t4 h =>
vEq false eqP t0 .nilptr h fun t10 h =>
vIf t10 (
vBuild [(.int .i64 0), (.int .i64 0)] [] h fun t11 h =>
vStore 2 t4 t11 h fun _ h =>
vLoadA 2 t4 h fun r0 _ => K (.tup [r0, (.str 0 0), (.bool .false)]) h) (
s_movetree_Tree_ParentB0 cf fuel K t0 t4 t3 h)
theorem s_movetree_Tree_Parent_eq (cf : CallK) (fuel : Nat) (t0 : AV) (t1 : AV) (h : Hp) (K : AV → Hp → Prop) : s_movetree_Tree_Parent cf fuel t0 t1 h K = deepT (tabOf Tryz.prog) f_movetree_Tree_Parent cf fuel [t0, t1] h K :=
  Eq.trans (by kernel_rfl) (rFun (by kernel_rfl) rExact)

noncomputable def s_view_View_kidsE0 (cf : CallK) (fuel : Nat) (K : AV → Hp → Prop) (t6 : AV) : AV → Hp → Prop := fun t7 h =>
cf f_clash_Shown [t6, t7] h fun t43 h =>
K (.tup [t6, t43]) h
noncomputable def s_view_View_kidsB3 (cf : CallK) (fuel : Nat) (ih1 : AV → AV → Hp → Prop) (t0 : AV) (t19 : AV) (t7 : AV) (t21 : AV) (h : Hp) : Prop :=
(fun (e2 : AV → Hp → Prop) =>
vIaddr 2 t19 t21 h fun t23 h =>
vLoadA 2 t23 h fun t24 h =>
vBox 2 (.agg [(.int .i64 0), (.int .i64 0)]) h fun t9 h =>
vStore 2 t9 t24 h fun _ h =>
vNilck t0 h fun t27 h =>
vFaddr 0 t27 h fun t28 h =>
vLoad2 t28 h fun t29 h =>
vLoadA 2 t9 h fun t30 h =>
cf f_movetree_Tree_Parent [t29, t30] h fun t31 h =>
vExtract 0 t31 h fun t32 h =>
vExtract 1 t31 h fun t33 h =>
vExtract 2 t31 h fun t34 h =>
vBox 2 (.agg [(.int .i64 0), (.int .i64 0)]) h fun t10 h =>
vLoad2 t28 h fun c _ => gd (sameV c t29) (
vLoadA 2 t9 h fun c _ => gd (sameV c t30) (
vStore 2 t10 t32 h fun _ h =>
vBslice 1 1 false [(.str 0 0)] [(0, 1, t33)] h fun t37 h =>
vAppend2 1 16 false t7 t37 h fun t38 h =>
e2 t38 h))) fun t7 h =>
vAdd t21 (.int .i64 1) h fun t39 h =>
ih1 t7 t39 h
noncomputable def s_view_View_kidsL1B (cf : CallK) (fuel : Nat) (e0 : AV → Hp → Prop) (t0 : AV) (t6 : AV) (t19 : AV) (t20 : AV) (ih1 : AV → AV → Hp → Prop) : AV → AV → Hp → Prop := fun t7 t21 h =>
vLss t21 t20 h fun t22 h =>
vIf t22 (
s_view_View_kidsB3 cf fuel ih1 t0 t19 t7 t21 h) (
e0 t7 h)
noncomputable def s_view_View_kidsL1 (cf : CallK) (fuel : Nat) (e0 : AV → Hp → Prop) (t0 : AV) (t6 : AV) (t19 : AV) (t20 : AV) (m : Nat) : AV → AV → Hp → Prop := Nat.rec (motive := fun _ => AV → AV → Hp → Prop) (fun _ _ _ => False) (fun _ ih => s_view_View_kidsL1B cf fuel e0 t0 t6 t19 t20 ih) m
theorem s_view_View_kidsL1_succ (cf : CallK) (fuel : Nat) (e0 : AV → Hp → Prop) (t0 : AV) (t6 : AV) (t19 : AV) (t20 : AV) (m : Nat) : s_view_View_kidsL1 cf fuel e0 t0 t6 t19 t20 (m + 1) = s_view_View_kidsL1B cf fuel e0 t0 t6 t19 t20 (s_view_View_kidsL1 cf fuel e0 t0 t6 t19 t20 m) := rfl
noncomputable def s_view_View_kids (cf : CallK) (fuel : Nat) (t0 : AV) (t1 : AV) (h : Hp) (K : AV → Hp → Prop) : Prop :=
vBox 2 t1 h fun t3 h =>
vNilck t0 h fun t14 h =>
vFaddr 0 t14 h fun t15 h =>
vLoad2 t15 h fun t16 h =>
vLoadA 2 t3 h fun t17 h =>
cf f_movetree_Tree_Kids [t16, t17] h fun t18 h =>
vLenL2 t18 h fun t20 h =>
(fun (e0 : AV → Hp → Prop) =>
s_view_View_kidsL1 cf fuel (s_view_View_kidsE0 cf fuel K t18) t0 t18 t18 t20 fuel .nilslice (.int .i64 0) h) (s_view_View_kidsE0 cf fuel K t18)
theorem s_view_View_kids_eq (cf : CallK) (fuel : Nat) (t0 : AV) (t1 : AV) (h : Hp) (K : AV → Hp → Prop) : s_view_View_kids cf fuel t0 t1 h K = deepT (tabOf Tryz.prog) f_view_View_kids cf fuel [t0, t1] h K :=
  Eq.trans (by kernel_rfl) (rFun (by kernel_rfl) (rSeq (by kernel_rfl) (rSeq (by kernel_rfl) (rSeq (by kernel_rfl) (rSeq (by kernel_rfl) rExact (rSeq (by kernel_rfl) (rBlock (by kernel_rfl) (rLoop (by kernel_rfl) (fun m1 fr h => s_view_View_kidsL1 cf fuel (s_view_View_kidsE0 cf fuel K (getS fr (gpos 6))) (getS fr (gpos 0)) (getS fr (gpos 6)) (getS fr (gpos 19)) (getS fr (gpos 20)) m1 (getS fr (gpos 7)) (getS fr (gpos 21)) h) (funext fun fr => funext fun h => by kernel_rfl) fun m1 => rCast (funext fun fr => funext fun h => by kernel_rfl) rExact)) rExact)) rExact) rExact) rExact))

noncomputable def s_view_View_entry (cf : CallK) (fuel : Nat) (t0 : AV) (t1 : AV) (t2 : AV) (h : Hp) (K : AV → Hp → Prop) : Prop :=
vBox 2 t1 h fun t4 h =>
vBox 5 (.agg [(.str 0 0), (.int .i64 0), (.int .i64 0), (.bool .false), (.int .i64 0)]) h fun t6 h =>
vLoadA 2 t4 h fun t8 h =>
vNilck t0 h fun t10 h =>
vFaddr 0 t10 h fun t11 h =>
vLoad2 t11 h fun t12 h =>
vLoadA 2 t4 h fun t13 h =>
vLoadA 2 t4 h fun t16 h =>
cf f_movetree_Tree_Dir [t12, t13] h fun t14 h =>
vLoadA 2 t4 h fun c _ => gd (sameV c t8) (
vLoadA 2 t4 h fun c _ => gd (sameV c t16) (
cf f_view_View_size [t0, t16] h fun t17 h =>
vLoadA 2 t4 h fun c _ => gd (sameV c t8) (
vBuild [(.str 0 0), (.int .i64 0), (.int .i64 0), (.bool .false), (.int .i64 0)] [(0, 1, t2), (1, 2, t8), (3, 1, t14), (4, 1, t17)] h fun t18 h =>
vStore 5 t6 t18 h fun _ h =>
vLoadA 5 t6 h fun r0 _ => K r0 h)))
theorem s_view_View_entry_eq (cf : CallK) (fuel : Nat) (t0 : AV) (t1 : AV) (t2 : AV) (h : Hp) (K : AV → Hp → Prop) : s_view_View_entry cf fuel t0 t1 t2 h K = deepT (tabOf Tryz.prog) f_view_View_entry cf fuel [t0, t1, t2] h K :=
  Eq.trans (by kernel_rfl) (rFun (by kernel_rfl) rExact)

noncomputable def s_slices_SortFunc_api_Entry_api_Entry (cf : CallK) (fuel : Nat) (t0 : AV) (t1 : AV) (h : Hp) (K : AV → Hp → Prop) : Prop :=
vLenL2 t0 h fun t6 h =>
vToInt .u64 t6 h fun t10 h =>
cf f_math_bits_Len [t10] h fun t11 h =>
cf f_slices_pdqsortCmpFunc_api_Entry [t0, (.int .i64 0), t6, t11, t1] h fun t13 h =>
K (.tup []) h
theorem s_slices_SortFunc_api_Entry_api_Entry_eq (cf : CallK) (fuel : Nat) (t0 : AV) (t1 : AV) (h : Hp) (K : AV → Hp → Prop) : s_slices_SortFunc_api_Entry_api_Entry cf fuel t0 t1 h K = deepT (tabOf Tryz.prog) f_slices_SortFunc_api_Entry_api_Entry cf fuel [t0, t1] h K :=
  Eq.trans (by kernel_rfl) (rFun (by kernel_rfl) rExact)

noncomputable def s_view_View_List_1 (cf : CallK) (fuel : Nat) (t0 : AV) (t1 : AV) (h : Hp) (K : AV → Hp → Prop) : Prop :=
vBox 5 t0 h fun t2 h =>
vBox 5 t1 h fun t3 h =>
vFaddr 0 t2 h fun t5 h =>
vLoad2 t5 h fun t6 h =>
vFaddr 0 t3 h fun t7 h =>
vLoad2 t7 h fun t8 h =>
cf f_strings_Compare [t6, t8] h fun t9 h =>
K t9 h
theorem s_view_View_List_1_eq (cf : CallK) (fuel : Nat) (t0 : AV) (t1 : AV) (h : Hp) (K : AV → Hp → Prop) : s_view_View_List_1 cf fuel t0 t1 h K = deepT (tabOf Tryz.prog) f_view_View_List_1 cf fuel [t0, t1] h K :=
  Eq.trans (by kernel_rfl) (rFun (by kernel_rfl) rExact)

noncomputable def s_strings_Compare (cf : CallK) (fuel : Nat) (t0 : AV) (t1 : AV) (h : Hp) (K : AV → Hp → Prop) : Prop :=
cf f_int_bytealg_CompareString [t0, t1] h fun t7 h =>
K t7 h
theorem s_strings_Compare_eq (cf : CallK) (fuel : Nat) (t0 : AV) (t1 : AV) (h : Hp) (K : AV → Hp → Prop) : s_strings_Compare cf fuel t0 t1 h K = deepT (tabOf Tryz.prog) f_strings_Compare cf fuel [t0, t1] h K :=
  Eq.trans (by kernel_rfl) (rFun (by kernel_rfl) rExact)


end Go.Proofs.YtciipeallilmiaaGreatDoor.sh6
