/- The seat's instances of slices.Insert: they are the library's body at other numbers; so the machine's contract holds of them. No condition. -/
import Derived.Test.YtnegmbnkccngoaaProg
import Derived.Test.YtnegmbnkccngoaaAmI
import Derived.Test.YtnegmbnkccngoaaLgK
import Derived.KernelRfl
namespace Go.Proofs.Ytnegmbnkccngoaa.con
open Go Go.Am Go.Shelf Go.Proofs

noncomputable def ren45 : Ren := ⟨fun n => match n with | 22 => 45 | 29 => 74 | 30 => 75 | n => n, fun n => match n with | 9 => 85 | 24 => 76 | n => n, fun n => n⟩
noncomputable def zero45 : Value := ((Try.prog.info? 85).bind (·.zero)).getD (.tuple #[])
theorem lay45 : InsLay Try.prog ren45 Try.f45.name 17 176 zero45 where
  mixed := by kernel_rfl
  f22 := Try.func45.trans (by kernel_rfl)
  f29 := run_callFunc_extern Try.func74 (by kernel_rfl) (by kernel_rfl) (by kernel_rfl) (e := Extern.SlicesOverlaps.overlaps #[76, 76] #[4]) (by kernel_rfl)
  t0 := Try.underlying0
  a0 := Try.isAgg0
  z0 := Try.sizeOf0
  v0 := Try.zeroValue0
  t3 := Try.underlying3
  a3 := Try.isAgg3
  z3 := Try.sizeOf3
  v3 := Try.zeroValue3
  t4 := Try.underlying4
  a4 := Try.isAgg4
  z4 := Try.sizeOf4
  v4 := Try.zeroValue4
  z9 := Try.sizeOf85
  t24 := Try.underlying76
  a24 := Try.isAgg76
  z24 := Try.sizeOf76
  v24 := Try.zeroValue76
  i9 := by kernel_rfl
theorem cells45 : zero45.cells.size = 17 := by kernel_rfl

noncomputable def con (f : FuncId) : Option ConD := (match Nat.beq f 45 with | true => some (insH 17 176) | false => none)
theorem con_ok : ConOK Try.prog con := by
  intro f c h B w0
  unfold con at h
  split at h
  · rename_i hb
    have hf : f = 45 := by simpa using hb
    subst hf
    simp only [Option.some.injEq] at h
    subst h
    exact ins_ok (by decide) lay45 cells45 (by omega) B w0
  cases h
-- OV 45 insH 17 176 BY fun B w0 => ins_ok (by decide) con.lay45 con.cells45 (by omega) B w0
-- OV 19 Lg.kidsK BY Lg.kids_ok
end Go.Proofs.Ytnegmbnkccngoaa.con
