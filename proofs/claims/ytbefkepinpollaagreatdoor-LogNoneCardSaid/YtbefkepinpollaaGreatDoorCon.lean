/- The seat's instances of slices.Insert: they are the library's body at other numbers; so the machine's contract holds of them. No condition. -/
import Derived.Test.YtbefkepinpollaaGreatDoorProg
import Derived.Test.YtbefkepinpollaaGreatDoorAmIns2
import Derived.KernelRfl
namespace Go.Proofs.YtbefkepinpollaaGreatDoor.con
open Go Go.Am Go.Shelf Go.Proofs

noncomputable def ren189 : Ren := ⟨fun n => match n with | 22 => 189 | 29 => 195 | 30 => 196 | n => n, fun n => match n with | 9 => 9 | 24 => 55 | n => n, fun n => n⟩
noncomputable def zero189 : Value := ((Tryz.prog.info? 9).bind (·.zero)).getD (.tuple #[])
theorem lay189 : InsLay Tryz.prog ren189 Tryz.f189.name 1 16 zero189 where
  mixed := by kernel_rfl
  f22 := Tryz.func189.trans (by kernel_rfl)
  f29 := run_callFunc_extern Tryz.func195 (by kernel_rfl) (by kernel_rfl) (by kernel_rfl) (e := Extern.SlicesOverlaps.overlaps #[55, 55] #[4]) (by kernel_rfl)
  t0 := Tryz.underlying0
  a0 := Tryz.isAgg0
  z0 := Tryz.sizeOf0
  v0 := Tryz.zeroValue0
  t3 := Tryz.underlying3
  a3 := Tryz.isAgg3
  z3 := Tryz.sizeOf3
  v3 := Tryz.zeroValue3
  t4 := Tryz.underlying4
  a4 := Tryz.isAgg4
  z4 := Tryz.sizeOf4
  v4 := Tryz.zeroValue4
  z9 := Tryz.sizeOf9
  t24 := Tryz.underlying55
  a24 := Tryz.isAgg55
  z24 := Tryz.sizeOf55
  v24 := Tryz.zeroValue55
  i9 := by kernel_rfl
theorem cells189 : zero189.cells.size = 1 := by kernel_rfl

noncomputable def ren190 : Ren := ⟨fun n => match n with | 22 => 190 | 29 => 197 | 30 => 198 | n => n, fun n => match n with | 9 => 88 | 24 => 91 | n => n, fun n => n⟩
noncomputable def zero190 : Value := ((Tryz.prog.info? 88).bind (·.zero)).getD (.tuple #[])
theorem lay190 : InsLay Tryz.prog ren190 Tryz.f190.name 1 8 zero190 where
  mixed := by kernel_rfl
  f22 := Tryz.func190.trans (by kernel_rfl)
  f29 := run_callFunc_extern Tryz.func197 (by kernel_rfl) (by kernel_rfl) (by kernel_rfl) (e := Extern.SlicesOverlaps.overlaps #[91, 91] #[4]) (by kernel_rfl)
  t0 := Tryz.underlying0
  a0 := Tryz.isAgg0
  z0 := Tryz.sizeOf0
  v0 := Tryz.zeroValue0
  t3 := Tryz.underlying3
  a3 := Tryz.isAgg3
  z3 := Tryz.sizeOf3
  v3 := Tryz.zeroValue3
  t4 := Tryz.underlying4
  a4 := Tryz.isAgg4
  z4 := Tryz.sizeOf4
  v4 := Tryz.zeroValue4
  z9 := Tryz.sizeOf88
  t24 := Tryz.underlying91
  a24 := Tryz.isAgg91
  z24 := Tryz.sizeOf91
  v24 := Tryz.zeroValue91
  i9 := by kernel_rfl
theorem cells190 : zero190.cells.size = 1 := by kernel_rfl

noncomputable def con (f : FuncId) : Option ConD := (match Nat.beq f 189 with | true => some (insH 1 16) | false => (match Nat.beq f 190 with | true => some (insH 1 8) | false => none))
theorem con_ok : ConOK Tryz.prog con := by
  intro f c h B w0
  unfold con at h
  split at h
  · rename_i hb
    have hf : f = 189 := by simpa using hb
    subst hf
    simp only [Option.some.injEq] at h
    subst h
    exact ins_ok (by decide) lay189 cells189 (by omega) B w0
  split at h
  · rename_i hb
    have hf : f = 190 := by simpa using hb
    subst hf
    simp only [Option.some.injEq] at h
    subst h
    exact ins_ok (by decide) lay190 cells190 (by omega) B w0
  cases h
-- OV 189 insH 1 16 BY fun B w0 => ins_ok (by decide) con.lay189 con.cells189 (by omega) B w0
-- OV 190 insH 1 8 BY fun B w0 => ins_ok (by decide) con.lay190 con.cells190 (by omega) B w0
end Go.Proofs.YtbefkepinpollaaGreatDoor.con
