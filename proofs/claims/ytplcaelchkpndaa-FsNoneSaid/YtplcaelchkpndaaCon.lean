/- The seat's instances of slices.Insert: they are the library's body at other numbers; so the machine's contract holds of them. No condition. -/
import Derived.Test.YtplcaelchkpndaaProg
import Derived.Test.YtplcaelchkpndaaAmIns2
import Derived.KernelRfl
namespace Go.Proofs.Ytplcaelchkpndaa.con
open Go Go.Am Go.Shelf Go.Proofs

noncomputable def ren70 : Ren := ⟨fun n => match n with | 22 => 70 | 29 => 127 | 30 => 128 | n => n, fun n => match n with | 9 => 43 | 24 => 38 | n => n, fun n => n⟩
noncomputable def zero70 : Value := ((Try.prog.info? 43).bind (·.zero)).getD (.tuple #[])
theorem lay70 : InsLay Try.prog ren70 Try.f70.name 5 72 zero70 where
  mixed := by kernel_rfl
  f22 := Try.func70.trans (by kernel_rfl)
  f29 := run_callFunc_extern Try.func127 (by kernel_rfl) (by kernel_rfl) (by kernel_rfl) (e := Extern.SlicesOverlaps.overlaps #[38, 38] #[4]) (by kernel_rfl)
  t0 := Try.underlying0
  a0 := Try.isAgg0
  z0 := Try.sizeOf0
  v0 := Try.zeroValue0
  t3 := Try.underlying3
  a3 := Try.isAgg3
  z3 := Try.sizeOf3
  v3 := Try.zeroValue3
  t4 := Try.underlying4
  a4 := Try.isAgg4
  z4 := Try.sizeOf4
  v4 := Try.zeroValue4
  z9 := Try.sizeOf43
  t24 := Try.underlying38
  a24 := Try.isAgg38
  z24 := Try.sizeOf38
  v24 := Try.zeroValue38
  i9 := by kernel_rfl
theorem cells70 : zero70.cells.size = 5 := by kernel_rfl

noncomputable def ren93 : Ren := ⟨fun n => match n with | 22 => 93 | 29 => 144 | 30 => 145 | n => n, fun n => match n with | 9 => 127 | 24 => 123 | n => n, fun n => n⟩
noncomputable def zero93 : Value := ((Try.prog.info? 127).bind (·.zero)).getD (.tuple #[])
theorem lay93 : InsLay Try.prog ren93 Try.f93.name 17 176 zero93 where
  mixed := by kernel_rfl
  f22 := Try.func93.trans (by kernel_rfl)
  f29 := run_callFunc_extern Try.func144 (by kernel_rfl) (by kernel_rfl) (by kernel_rfl) (e := Extern.SlicesOverlaps.overlaps #[123, 123] #[4]) (by kernel_rfl)
  t0 := Try.underlying0
  a0 := Try.isAgg0
  z0 := Try.sizeOf0
  v0 := Try.zeroValue0
  t3 := Try.underlying3
  a3 := Try.isAgg3
  z3 := Try.sizeOf3
  v3 := Try.zeroValue3
  t4 := Try.underlying4
  a4 := Try.isAgg4
  z4 := Try.sizeOf4
  v4 := Try.zeroValue4
  z9 := Try.sizeOf127
  t24 := Try.underlying123
  a24 := Try.isAgg123
  z24 := Try.sizeOf123
  v24 := Try.zeroValue123
  i9 := by kernel_rfl
theorem cells93 : zero93.cells.size = 17 := by kernel_rfl

noncomputable def con (f : FuncId) : Option ConD := (match Nat.beq f 70 with | true => some (insK 5 72) | false => (match Nat.beq f 93 with | true => some (insK 17 176) | false => none))
theorem con_ok : ConOK Try.prog con := by
  intro f c h B w0
  unfold con at h
  split at h
  · rename_i hb
    have hf : f = 70 := by simpa using hb
    subst hf
    simp only [Option.some.injEq] at h
    subst h
    exact ins_ok (by decide) lay70 cells70 (by omega) B w0
  split at h
  · rename_i hb
    have hf : f = 93 := by simpa using hb
    subst hf
    simp only [Option.some.injEq] at h
    subst h
    exact ins_ok (by decide) lay93 cells93 (by omega) B w0
  cases h
end Go.Proofs.Ytplcaelchkpndaa.con
