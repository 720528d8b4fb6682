/- The seat's instances of slices.Insert: they are the library's body at other numbers; so the machine's contract holds of them. No condition. -/
import Derived.Test.YtciipeallilmiaaGreatDoorProg
import Derived.Test.YtciipeallilmiaaGreatDoorAmI
import Derived.Test.YtciipeallilmiaaGreatDoorLgK
import Derived.KernelRfl
namespace Go.Proofs.YtciipeallilmiaaGreatDoor.con
open Go Go.Am Go.Shelf Go.Proofs

noncomputable def ren284 : Ren := ⟨fun n => match n with | 22 => 284 | 29 => 319 | 30 => 320 | n => n, fun n => match n with | 9 => 370 | 24 => 327 | n => n, fun n => n⟩
noncomputable def zero284 : Value := ((Tryz.prog.info? 370).bind (·.zero)).getD (.tuple #[])
theorem lay284 : InsLay Tryz.prog ren284 Tryz.f284.name 17 176 zero284 where
  mixed := by kernel_rfl
  f22 := Tryz.func284.trans (by kernel_rfl)
  f29 := run_callFunc_extern Tryz.func319 (by kernel_rfl) (by kernel_rfl) (by kernel_rfl) (e := Extern.SlicesOverlaps.overlaps #[327, 327] #[4]) (by kernel_rfl)
  t0 := Tryz.underlying0
  a0 := Tryz.isAgg0
  z0 := Tryz.sizeOf0
  v0 := Tryz.zeroValue0
  t3 := Tryz.underlying3
  a3 := Tryz.isAgg3
  z3 := Tryz.sizeOf3
  v3 := Tryz.zeroValue3
  t4 := Tryz.underlying4
  a4 := Tryz.isAgg4
  z4 := Tryz.sizeOf4
  v4 := Tryz.zeroValue4
  z9 := Tryz.sizeOf370
  t24 := Tryz.underlying327
  a24 := Tryz.isAgg327
  z24 := Tryz.sizeOf327
  v24 := Tryz.zeroValue327
  i9 := by kernel_rfl
theorem cells284 : zero284.cells.size = 17 := by kernel_rfl

noncomputable def ren288 : Ren := ⟨fun n => match n with | 22 => 288 | 29 => 322 | 30 => 323 | n => n, fun n => match n with | 9 => 219 | 24 => 215 | n => n, fun n => n⟩
noncomputable def zero288 : Value := ((Tryz.prog.info? 219).bind (·.zero)).getD (.tuple #[])
theorem lay288 : InsLay Tryz.prog ren288 Tryz.f288.name 5 72 zero288 where
  mixed := by kernel_rfl
  f22 := Tryz.func288.trans (by kernel_rfl)
  f29 := run_callFunc_extern Tryz.func322 (by kernel_rfl) (by kernel_rfl) (by kernel_rfl) (e := Extern.SlicesOverlaps.overlaps #[215, 215] #[4]) (by kernel_rfl)
  t0 := Tryz.underlying0
  a0 := Tryz.isAgg0
  z0 := Tryz.sizeOf0
  v0 := Tryz.zeroValue0
  t3 := Tryz.underlying3
  a3 := Tryz.isAgg3
  z3 := Tryz.sizeOf3
  v3 := Tryz.zeroValue3
  t4 := Tryz.underlying4
  a4 := Tryz.isAgg4
  z4 := Tryz.sizeOf4
  v4 := Tryz.zeroValue4
  z9 := Tryz.sizeOf219
  t24 := Tryz.underlying215
  a24 := Tryz.isAgg215
  z24 := Tryz.sizeOf215
  v24 := Tryz.zeroValue215
  i9 := by kernel_rfl
theorem cells288 : zero288.cells.size = 5 := by kernel_rfl

noncomputable def ren373 : Ren := ⟨fun n => match n with | 22 => 373 | 29 => 390 | 30 => 391 | n => n, fun n => match n with | 9 => 9 | 24 => 149 | n => n, fun n => n⟩
noncomputable def zero373 : Value := ((Tryz.prog.info? 9).bind (·.zero)).getD (.tuple #[])
theorem lay373 : InsLay Tryz.prog ren373 Tryz.f373.name 1 16 zero373 where
  mixed := by kernel_rfl
  f22 := Tryz.func373.trans (by kernel_rfl)
  f29 := run_callFunc_extern Tryz.func390 (by kernel_rfl) (by kernel_rfl) (by kernel_rfl) (e := Extern.SlicesOverlaps.overlaps #[149, 149] #[4]) (by kernel_rfl)
  t0 := Tryz.underlying0
  a0 := Tryz.isAgg0
  z0 := Tryz.sizeOf0
  v0 := Tryz.zeroValue0
  t3 := Tryz.underlying3
  a3 := Tryz.isAgg3
  z3 := Tryz.sizeOf3
  v3 := Tryz.zeroValue3
  t4 := Tryz.underlying4
  a4 := Tryz.isAgg4
  z4 := Tryz.sizeOf4
  v4 := Tryz.zeroValue4
  z9 := Tryz.sizeOf9
  t24 := Tryz.underlying149
  a24 := Tryz.isAgg149
  z24 := Tryz.sizeOf149
  v24 := Tryz.zeroValue149
  i9 := by kernel_rfl
theorem cells373 : zero373.cells.size = 1 := by kernel_rfl

noncomputable def ren374 : Ren := ⟨fun n => match n with | 22 => 374 | 29 => 392 | 30 => 393 | n => n, fun n => match n with | 9 => 141 | 24 => 150 | n => n, fun n => n⟩
noncomputable def zero374 : Value := ((Tryz.prog.info? 141).bind (·.zero)).getD (.tuple #[])
theorem lay374 : InsLay Tryz.prog ren374 Tryz.f374.name 1 8 zero374 where
  mixed := by kernel_rfl
  f22 := Tryz.func374.trans (by kernel_rfl)
  f29 := run_callFunc_extern Tryz.func392 (by kernel_rfl) (by kernel_rfl) (by kernel_rfl) (e := Extern.SlicesOverlaps.overlaps #[150, 150] #[4]) (by kernel_rfl)
  t0 := Tryz.underlying0
  a0 := Tryz.isAgg0
  z0 := Tryz.sizeOf0
  v0 := Tryz.zeroValue0
  t3 := Tryz.underlying3
  a3 := Tryz.isAgg3
  z3 := Tryz.sizeOf3
  v3 := Tryz.zeroValue3
  t4 := Tryz.underlying4
  a4 := Tryz.isAgg4
  z4 := Tryz.sizeOf4
  v4 := Tryz.zeroValue4
  z9 := Tryz.sizeOf141
  t24 := Tryz.underlying150
  a24 := Tryz.isAgg150
  z24 := Tryz.sizeOf150
  v24 := Tryz.zeroValue150
  i9 := by kernel_rfl
theorem cells374 : zero374.cells.size = 1 := by kernel_rfl

def clonePu_ren : Go.Shelf.Ren := ⟨fun | 25 => 398 | n => n, fun | 9 => 9 | 3 => 3 | 4 => 4 | 37 => 24 | 0 => 0 | 47 => 480 | 5 => 5 | n => n, fun | n => n⟩
theorem clonePu : Go.Proofs.LaysPu.n25 Tryz.prog clonePu_ren := {
  mixed := by kernel_rfl
  f25 := Tryz.func398.trans (congrArg some (by kernel_rfl))
  t0 := Tryz.underlying0
  a0 := Tryz.isAgg0
  z0 := Tryz.sizeOf0
  v0 := Tryz.zeroValue0
  i0 := by kernel_rfl
  t3 := Tryz.underlying3
  a3 := Tryz.isAgg3
  z3 := Tryz.sizeOf3
  v3 := Tryz.zeroValue3
  i3 := by kernel_rfl
  t4 := Tryz.underlying4
  a4 := Tryz.isAgg4
  z4 := Tryz.sizeOf4
  v4 := Tryz.zeroValue4
  i4 := by kernel_rfl
  t5 := Tryz.underlying5
  a5 := Tryz.isAgg5
  z5 := Tryz.sizeOf5
  v5 := Tryz.zeroValue5
  i5 := by kernel_rfl
  t9 := Tryz.underlying9
  a9 := Tryz.isAgg9
  z9 := Tryz.sizeOf9
  v9 := Tryz.zeroValue9
  i9 := by kernel_rfl
  t37 := Tryz.underlying24
  a37 := Tryz.isAgg24
  z37 := Tryz.sizeOf24
  v37 := Tryz.zeroValue24
  i37 := by kernel_rfl
  t47 := Tryz.underlying480
  a47 := Tryz.isAgg480
  z47 := Tryz.sizeOf480
  v47 := Tryz.zeroValue480
  i47 := by kernel_rfl }

noncomputable def con (f : FuncId) : Option ConD := (match Nat.beq f 284 with | true => some (insH 17 176) | false => (match Nat.beq f 288 with | true => some (insH 5 72) | false => (match Nat.beq f 373 with | true => some (insH 1 16) | false => (match Nat.beq f 374 with | true => some (insH 1 8) | false => none))))
theorem con_ok : ConOK Tryz.prog con := by
  intro f c h B w0
  unfold con at h
  split at h
  · rename_i hb
    have hf : f = 284 := by simpa using hb
    subst hf
    simp only [Option.some.injEq] at h
    subst h
    exact ins_ok (by decide) lay284 cells284 (by omega) B w0
  split at h
  · rename_i hb
    have hf : f = 288 := by simpa using hb
    subst hf
    simp only [Option.some.injEq] at h
    subst h
    exact ins_ok (by decide) lay288 cells288 (by omega) B w0
  split at h
  · rename_i hb
    have hf : f = 373 := by simpa using hb
    subst hf
    simp only [Option.some.injEq] at h
    subst h
    exact ins_ok (by decide) lay373 cells373 (by omega) B w0
  split at h
  · rename_i hb
    have hf : f = 374 := by simpa using hb
    subst hf
    simp only [Option.some.injEq] at h
    subst h
    exact ins_ok (by decide) lay374 cells374 (by omega) B w0
  cases h
-- OV 284 insH 17 176 BY fun B w0 => ins_ok (by decide) con.lay284 con.cells284 (by omega) B w0
-- OV 288 insH 5 72 BY fun B w0 => ins_ok (by decide) con.lay288 con.cells288 (by omega) B w0
-- OV 373 insH 1 16 BY fun B w0 => ins_ok (by decide) con.lay373 con.cells373 (by omega) B w0
-- OV 374 insH 1 8 BY fun B w0 => ins_ok (by decide) con.lay374 con.cells374 (by omega) B w0
-- OV 398 strCloneK BY fun B w0 => strClone_ok con.clonePu B w0
-- OV 266 Lg.kidsK BY Lg.kids_ok
end Go.Proofs.YtciipeallilmiaaGreatDoor.con
