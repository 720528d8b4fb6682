/- The Go functions' code as the abstract machine's, over values; each is the code that the machine makes of the program's (theorems s_.._eq). No condition. -/
import Derived.Test.YtciipeallilmiaaGreatDoorAmC
import Derived.Test.YtciipeallilmiaaGreatDoorProg
import Derived.KernelRfl
namespace Go.Proofs.YtciipeallilmiaaGreatDoor.sh14
open Go Go.Am Go.Proofs
set_option linter.unusedVariables false
set_option maxRecDepth 100000
abbrev f_content_File_Len : Nat := 438
abbrev f_errors_New : Nat := 399
abbrev f_fds_free_Len : Nat := 435
abbrev f_fds_free_Less : Nat := 436
abbrev f_fds_free_Pop : Nat := 439
abbrev f_fds_free_Push : Nat := 440
abbrev f_fds_free_Swap : Nat := 437
abbrev f_gosem_cut_vars : Nat := 454

noncomputable def s_fds_free_Len (cf : CallK) (fuel : Nat) (t0 : AV) (h : Hp) (K : AV → Hp → Prop) : Prop :=
vLenL2 t0 h fun t4 h =>
K t4 h
theorem s_fds_free_Len_eq (cf : CallK) (fuel : Nat) (t0 : AV) (h : Hp) (K : AV → Hp → Prop) : s_fds_free_Len cf fuel t0 h K = deepT (tabOf Tryz.prog) f_fds_free_Len cf fuel [t0] h K :=
  Eq.trans (by kernel_rfl) (rFun (by kernel_rfl) rExact)

noncomputable def s_fds_free_Less (cf : CallK) (fuel : Nat) (t0 : AV) (t1 : AV) (t2 : AV) (h : Hp) (K : AV → Hp → Prop) : Prop :=
vIaddr 1 t0 t1 h fun t9 h =>
vLoad2 t9 h fun t10 h =>
vIaddr 1 t0 t2 h fun t13 h =>
vLoad2 t13 h fun t14 h =>
vLss t10 t14 h fun t15 h =>
K t15 h
theorem s_fds_free_Less_eq (cf : CallK) (fuel : Nat) (t0 : AV) (t1 : AV) (t2 : AV) (h : Hp) (K : AV → Hp → Prop) : s_fds_free_Less cf fuel t0 t1 t2 h K = deepT (tabOf Tryz.prog) f_fds_free_Less cf fuel [t0, t1, t2] h K :=
  Eq.trans (by kernel_rfl) (rFun (by kernel_rfl) rExact)

noncomputable def s_fds_free_Swap (cf : CallK) (fuel : Nat) (t0 : AV) (t1 : AV) (t2 : AV) (h : Hp) (K : AV → Hp → Prop) : Prop :=
vIaddr 1 t0 t2 h fun t12 h =>
vLoad2 t12 h fun t13 h =>
vIaddr 1 t0 t1 h fun t16 h =>
vLoad2 t16 h fun t17 h =>
vIaddr 1 t0 t1 h fun t18 h =>
vStore 1 t18 t13 h fun _ h =>
vIaddr 1 t0 t2 h fun t19 h =>
vStore 1 t19 t17 h fun _ h =>
K (.tup []) h
theorem s_fds_free_Swap_eq (cf : CallK) (fuel : Nat) (t0 : AV) (t1 : AV) (t2 : AV) (h : Hp) (K : AV → Hp → Prop) : s_fds_free_Swap cf fuel t0 t1 t2 h K = deepT (tabOf Tryz.prog) f_fds_free_Swap cf fuel [t0, t1, t2] h K :=
  Eq.trans (by kernel_rfl) (rFun (by kernel_rfl) rExact)

noncomputable def s_fds_free_Pop (cf : CallK) (fuel : Nat) (t0 : AV) (h : Hp) (K : AV → Hp → Prop) : Prop :=
vNilck t0 h fun t6 h =>
vLoad2 t6 h fun t7 h =>
vLenL2 t7 h fun t10 h =>
vArith Go.Am.subI t10 (.int .i64 1) h fun t11 h =>
vIaddr 1 t7 t11 h fun t12 h =>
vLoad2 t12 h fun t13 h =>
vLenL2 t7 h fun t17 h =>
vArith Go.Am.subI t17 (.int .i64 1) h fun t18 h =>
vSlice2 1 t7 none (some t18) h fun t19 h =>
vNilck t0 h fun t20 h =>
vStore 1 t20 t19 h fun _ h =>
vIface 3 t13 h fun t22 h =>
K t22 h
theorem s_fds_free_Pop_eq (cf : CallK) (fuel : Nat) (t0 : AV) (h : Hp) (K : AV → Hp → Prop) : s_fds_free_Pop cf fuel t0 h K = deepT (tabOf Tryz.prog) f_fds_free_Pop cf fuel [t0] h K :=
  Eq.trans (by kernel_rfl) (rFun (by kernel_rfl) rExact)

noncomputable def s_fds_free_Push (cf : CallK) (fuel : Nat) (t0 : AV) (t1 : AV) (h : Hp) (K : AV → Hp → Prop) : Prop :=
vNilck t0 h fun t6 h =>
vLoad2 t6 h fun t7 h =>
vAssert 3 false (.int .i64 0) t1 h fun t9 h =>
vBslice 1 1 false [(.int .i64 0)] [(0, 1, t9)] h fun t10 h =>
vLoad2 t6 h fun c _ => gd (sameV c t7) (
vAppend2 1 8 false t7 t10 h fun t11 h =>
vNilck t0 h fun t12 h =>
vStore 1 t12 t11 h fun _ h =>
K (.tup []) h)
theorem s_fds_free_Push_eq (cf : CallK) (fuel : Nat) (t0 : AV) (t1 : AV) (h : Hp) (K : AV → Hp → Prop) : s_fds_free_Push cf fuel t0 t1 h K = deepT (tabOf Tryz.prog) f_fds_free_Push cf fuel [t0, t1] h K :=
  Eq.trans (by kernel_rfl) (rFun (by kernel_rfl) rExact)


end Go.Proofs.YtciipeallilmiaaGreatDoor.sh14
