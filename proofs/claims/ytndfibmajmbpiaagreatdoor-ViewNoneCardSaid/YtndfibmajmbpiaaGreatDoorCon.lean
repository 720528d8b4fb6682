/- The seat's instances of slices.Insert: they are the library's body at other numbers; so the machine's contract holds of them. No condition. -/
import Derived.Test.YtndfibmajmbpiaaGreatDoorProg
import Derived.Test.YtndfibmajmbpiaaGreatDoorAmIns2
import Derived.KernelRfl
namespace Go.Proofs.YtndfibmajmbpiaaGreatDoor.con
open Go Go.Am Go.Shelf Go.Proofs

noncomputable def ren84 : Ren := ⟨fun n => match n with | 22 => 84 | 29 => 140 | 30 => 141 | n => n, fun n => match n with | 9 => 128 | 24 => 110 | n => n, fun n => n⟩
noncomputable def zero84 : Value := ((Tryz.prog.info? 128).bind (·.zero)).getD (.tuple #[])
theorem lay84 : InsLay Tryz.prog ren84 Tryz.f84.name 17 176 zero84 where
  mixed := by kernel_rfl
  f22 := Tryz.func84.trans (by kernel_rfl)
  f29 := run_callFunc_extern Tryz.func140 (by kernel_rfl) (by kernel_rfl) (by kernel_rfl) (e := Extern.SlicesOverlaps.overlaps #[110, 110] #[4]) (by kernel_rfl)
  t0 := Tryz.underlying0
  a0 := Tryz.isAgg0
  z0 := Tryz.sizeOf0
  v0 := Tryz.zeroValue0
  t3 := Tryz.underlying3
  a3 := Tryz.isAgg3
  z3 := Tryz.sizeOf3
  v3 := Tryz.zeroValue3
  t4 := Tryz.underlying4
  a4 := Tryz.isAgg4
  z4 := Tryz.sizeOf4
  v4 := Tryz.zeroValue4
  z9 := Tryz.sizeOf128
  t24 := Tryz.underlying110
  a24 := Tryz.isAgg110
  z24 := Tryz.sizeOf110
  v24 := Tryz.zeroValue110
  i9 := by kernel_rfl
theorem cells84 : zero84.cells.size = 17 := by kernel_rfl

noncomputable def ren88 : Ren := ⟨fun n => match n with | 22 => 88 | 29 => 143 | 30 => 144 | n => n, fun n => match n with | 9 => 141 | 24 => 123 | n => n, fun n => n⟩
noncomputable def zero88 : Value := ((Tryz.prog.info? 141).bind (·.zero)).getD (.tuple #[])
theorem lay88 : InsLay Tryz.prog ren88 Tryz.f88.name 5 72 zero88 where
  mixed := by kernel_rfl
  f22 := Tryz.func88.trans (by kernel_rfl)
  f29 := run_callFunc_extern Tryz.func143 (by kernel_rfl) (by kernel_rfl) (by kernel_rfl) (e := Extern.SlicesOverlaps.overlaps #[123, 123] #[4]) (by kernel_rfl)
  t0 := Tryz.underlying0
  a0 := Tryz.isAgg0
  z0 := Tryz.sizeOf0
  v0 := Tryz.zeroValue0
  t3 := Tryz.underlying3
  a3 := Tryz.isAgg3
  z3 := Tryz.sizeOf3
  v3 := Tryz.zeroValue3
  t4 := Tryz.underlying4
  a4 := Tryz.isAgg4
  z4 := Tryz.sizeOf4
  v4 := Tryz.zeroValue4
  z9 := Tryz.sizeOf141
  t24 := Tryz.underlying123
  a24 := Tryz.isAgg123
  z24 := Tryz.sizeOf123
  v24 := Tryz.zeroValue123
  i9 := by kernel_rfl
theorem cells88 : zero88.cells.size = 5 := by kernel_rfl

noncomputable def con (f : FuncId) : Option ConD := (match Nat.beq f 84 with | true => some (insK 17 176) | false => (match Nat.beq f 88 with | true => some (insK 5 72) | false => none))
theorem con_ok : ConOK Tryz.prog con := by
  intro f c h B w0
  unfold con at h
  split at h
  · rename_i hb
    have hf : f = 84 := by simpa using hb
    subst hf
    simp only [Option.some.injEq] at h
    subst h
    exact ins_ok (by decide) lay84 cells84 (by omega) B w0
  split at h
  · rename_i hb
    have hf : f = 88 := by simpa using hb
    subst hf
    simp only [Option.some.injEq] at h
    subst h
    exact ins_ok (by decide) lay88 cells88 (by omega) B w0
  cases h
end Go.Proofs.YtndfibmajmbpiaaGreatDoor.con
