/- The Go functions' code as the abstract machine's, over values; each is the code that the machine makes of the program's (theorems s_.._eq). No condition. -/
import Derived.Test.YtnegmbnkccngoaaAmC
import Derived.Test.YtnegmbnkccngoaaProg
import Derived.KernelRfl
namespace Go.Proofs.Ytnegmbnkccngoaa.sh6
open Go Go.Am Go.Proofs
set_option linter.unusedVariables false
set_option maxRecDepth 100000
abbrev f_bcache_idle_Len : Nat := 162
abbrev f_bcache_idle_Less : Nat := 163
abbrev f_bcache_idle_Pop : Nat := 164
abbrev f_bcache_idle_Swap : Nat := 165

-- 159 FAILS no body
-- 160 FAILS no body
-- 161 FAILS no body
noncomputable def s_bcache_idle_Len (cf : CallK) (fuel : Nat) (t0 : AV) (h : Hp) (K : AV → Hp → Prop) : Prop :=
vLenL2 t0 h fun t4 h =>
K t4 h
theorem s_bcache_idle_Len_eq (cf : CallK) (fuel : Nat) (t0 : AV) (h : Hp) (K : AV → Hp → Prop) : s_bcache_idle_Len cf fuel t0 h K = deepT (tabOf Try.prog) f_bcache_idle_Len cf fuel [t0] h K :=
  Eq.trans (by kernel_rfl) (rFun (by kernel_rfl) rExact)

noncomputable def s_bcache_idle_Less (cf : CallK) (fuel : Nat) (t0 : AV) (t1 : AV) (t2 : AV) (h : Hp) (K : AV → Hp → Prop) : Prop :=
vIaddr 1 t0 t1 h fun t9 h =>
vLoad2 t9 h fun t10 h =>
vNilck t10 h fun t11 h =>
vFaddr 2 t11 h fun t12 h =>
vLoad2 t12 h fun t13 h =>
vIaddr 1 t0 t2 h fun t16 h =>
vLoad2 t16 h fun t17 h =>
vNilck t17 h fun t18 h =>
vFaddr 2 t18 h fun t19 h =>
vLoad2 t19 h fun t20 h =>
vLss t13 t20 h fun t21 h =>
K t21 h
theorem s_bcache_idle_Less_eq (cf : CallK) (fuel : Nat) (t0 : AV) (t1 : AV) (t2 : AV) (h : Hp) (K : AV → Hp → Prop) : s_bcache_idle_Less cf fuel t0 t1 t2 h K = deepT (tabOf Try.prog) f_bcache_idle_Less cf fuel [t0, t1, t2] h K :=
  Eq.trans (by kernel_rfl) (rFun (by kernel_rfl) rExact)

noncomputable def s_bcache_idle_Pop (cf : CallK) (fuel : Nat) (t0 : AV) (h : Hp) (K : AV → Hp → Prop) : Prop :=
vNilck t0 h fun t6 h =>
vLoad2 t6 h fun t7 h =>
vLenL2 t7 h fun t10 h =>
vArith Go.Am.subI t10 (.int .i64 1) h fun t11 h =>
vIaddr 1 t7 t11 h fun t12 h =>
vLoad2 t12 h fun t13 h =>
vLenL2 t7 h fun t17 h =>
vArith Go.Am.subI t17 (.int .i64 1) h fun t18 h =>
vSlice2 1 t7 none (some t18) h fun t19 h =>
vNilck t0 h fun t20 h =>
vStore 1 t20 t19 h fun _ h =>
vIface 66 t13 h fun t22 h =>
K t22 h
theorem s_bcache_idle_Pop_eq (cf : CallK) (fuel : Nat) (t0 : AV) (h : Hp) (K : AV → Hp → Prop) : s_bcache_idle_Pop cf fuel t0 h K = deepT (tabOf Try.prog) f_bcache_idle_Pop cf fuel [t0] h K :=
  Eq.trans (by kernel_rfl) (rFun (by kernel_rfl) rExact)

noncomputable def s_bcache_idle_Swap (cf : CallK) (fuel : Nat) (t0 : AV) (t1 : AV) (t2 : AV) (h : Hp) (K : AV → Hp → Prop) : Prop :=
vIaddr 1 t0 t2 h fun t12 h =>
vLoad2 t12 h fun t13 h =>
vIaddr 1 t0 t1 h fun t16 h =>
vLoad2 t16 h fun t17 h =>
vIaddr 1 t0 t1 h fun t18 h =>
vStore 1 t18 t13 h fun _ h =>
vIaddr 1 t0 t2 h fun t19 h =>
vStore 1 t19 t17 h fun _ h =>
K (.tup []) h
theorem s_bcache_idle_Swap_eq (cf : CallK) (fuel : Nat) (t0 : AV) (t1 : AV) (t2 : AV) (h : Hp) (K : AV → Hp → Prop) : s_bcache_idle_Swap cf fuel t0 t1 t2 h K = deepT (tabOf Try.prog) f_bcache_idle_Swap cf fuel [t0, t1, t2] h K :=
  Eq.trans (by kernel_rfl) (rFun (by kernel_rfl) rExact)

-- 166 FAILS no body
-- 167 FAILS no body

end Go.Proofs.Ytnegmbnkccngoaa.sh6
