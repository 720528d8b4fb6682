/- The seat's instances of slices.Insert: they are the library's body at other numbers; so the machine's contract holds of them. No condition. -/
import Derived.Test.YteooebaecbanfaaGreatDoorProg
import Derived.Test.YteooebaecbanfaaGreatDoorAmIns2
import Derived.Test.YteooebaecbanfaaGreatDoorAmStr
import Derived.KernelRfl
namespace Go.Proofs.YteooebaecbanfaaGreatDoor.con
open Go Go.Am Go.Shelf Go.Proofs

noncomputable def ren160 : Ren := ⟨fun n => match n with | 22 => 160 | 29 => 211 | 30 => 212 | n => n, fun n => match n with | 9 => 232 | 24 => 228 | n => n, fun n => n⟩
noncomputable def zero160 : Value := ((Tryz.prog.info? 232).bind (·.zero)).getD (.tuple #[])
theorem lay160 : InsLay Tryz.prog ren160 Tryz.f160.name 17 176 zero160 where
  mixed := by kernel_rfl
  f22 := Tryz.func160.trans (by kernel_rfl)
  f29 := run_callFunc_extern Tryz.func211 (by kernel_rfl) (by kernel_rfl) (by kernel_rfl) (e := Extern.SlicesOverlaps.overlaps #[228, 228] #[4]) (by kernel_rfl)
  t0 := Tryz.underlying0
  a0 := Tryz.isAgg0
  z0 := Tryz.sizeOf0
  v0 := Tryz.zeroValue0
  t3 := Tryz.underlying3
  a3 := Tryz.isAgg3
  z3 := Tryz.sizeOf3
  v3 := Tryz.zeroValue3
  t4 := Tryz.underlying4
  a4 := Tryz.isAgg4
  z4 := Tryz.sizeOf4
  v4 := Tryz.zeroValue4
  z9 := Tryz.sizeOf232
  t24 := Tryz.underlying228
  a24 := Tryz.isAgg228
  z24 := Tryz.sizeOf228
  v24 := Tryz.zeroValue228
  i9 := by kernel_rfl
theorem cells160 : zero160.cells.size = 17 := by kernel_rfl

noncomputable def ren164 : Ren := ⟨fun n => match n with | 22 => 164 | 29 => 214 | 30 => 215 | n => n, fun n => match n with | 9 => 138 | 24 => 134 | n => n, fun n => n⟩
noncomputable def zero164 : Value := ((Tryz.prog.info? 138).bind (·.zero)).getD (.tuple #[])
theorem lay164 : InsLay Tryz.prog ren164 Tryz.f164.name 5 72 zero164 where
  mixed := by kernel_rfl
  f22 := Tryz.func164.trans (by kernel_rfl)
  f29 := run_callFunc_extern Tryz.func214 (by kernel_rfl) (by kernel_rfl) (by kernel_rfl) (e := Extern.SlicesOverlaps.overlaps #[134, 134] #[4]) (by kernel_rfl)
  t0 := Tryz.underlying0
  a0 := Tryz.isAgg0
  z0 := Tryz.sizeOf0
  v0 := Tryz.zeroValue0
  t3 := Tryz.underlying3
  a3 := Tryz.isAgg3
  z3 := Tryz.sizeOf3
  v3 := Tryz.zeroValue3
  t4 := Tryz.underlying4
  a4 := Tryz.isAgg4
  z4 := Tryz.sizeOf4
  v4 := Tryz.zeroValue4
  z9 := Tryz.sizeOf138
  t24 := Tryz.underlying134
  a24 := Tryz.isAgg134
  z24 := Tryz.sizeOf134
  v24 := Tryz.zeroValue134
  i9 := by kernel_rfl
theorem cells164 : zero164.cells.size = 5 := by kernel_rfl

def laysM316_ren : Go.Shelf.Ren := ⟨fun | 316 => 367 | n => n, fun | 9 => 9 | 3 => 3 | 4 => 4 | 37 => 24 | 0 => 0 | 127 => 426 | 5 => 5 | n => n, fun | n => n⟩
theorem laysM316 : Go.Proofs.LaysM.n316 Tryz.prog laysM316_ren := {
  mixed := by kernel_rfl
  f316 := Tryz.func367.trans (congrArg some (by kernel_rfl))
  t0 := Tryz.underlying0
  a0 := Tryz.isAgg0
  z0 := Tryz.sizeOf0
  v0 := Tryz.zeroValue0
  t3 := Tryz.underlying3
  a3 := Tryz.isAgg3
  z3 := Tryz.sizeOf3
  v3 := Tryz.zeroValue3
  t4 := Tryz.underlying4
  a4 := Tryz.isAgg4
  z4 := Tryz.sizeOf4
  v4 := Tryz.zeroValue4
  t9 := Tryz.underlying9
  a9 := Tryz.isAgg9
  z9 := Tryz.sizeOf9
  v9 := Tryz.zeroValue9
  t37 := Tryz.underlying24
  a37 := Tryz.isAgg24
  z37 := Tryz.sizeOf24
  v37 := Tryz.zeroValue24
  t127 := Tryz.underlying426
  a127 := Tryz.isAgg426
  z127 := Tryz.sizeOf426
  v127 := Tryz.zeroValue426
  t5 := Tryz.underlying5
  a5 := Tryz.isAgg5
  z5 := Tryz.sizeOf5
  v5 := Tryz.zeroValue5
  i0 := by kernel_rfl
  i3 := by kernel_rfl
  i4 := by kernel_rfl
  i5 := by kernel_rfl
  i9 := by kernel_rfl
  i37 := by kernel_rfl
  i127 := by kernel_rfl }

noncomputable def con (f : FuncId) : Option ConD := (match Nat.beq f 367 with | true => some strCloneK | false => (match Nat.beq f 160 with | true => some (insK 17 176) | false => (match Nat.beq f 164 with | true => some (insK 5 72) | false => none)))
theorem con_ok : ConOK Tryz.prog con := by
  intro f c h B w0
  unfold con at h
  split at h
  · rename_i hb
    have hf : f = 367 := by simpa using hb
    subst hf
    simp only [Option.some.injEq] at h
    subst h
    exact strClone_ok laysM316 B w0
  split at h
  · rename_i hb
    have hf : f = 160 := by simpa using hb
    subst hf
    simp only [Option.some.injEq] at h
    subst h
    exact ins_ok (by decide) lay160 cells160 (by omega) B w0
  split at h
  · rename_i hb
    have hf : f = 164 := by simpa using hb
    subst hf
    simp only [Option.some.injEq] at h
    subst h
    exact ins_ok (by decide) lay164 cells164 (by omega) B w0
  cases h
end Go.Proofs.YteooebaecbanfaaGreatDoor.con
