/-
  DERIVED: THE SHELF's CONTRACTS AT THIS DUMP, IN PLAIN WORDS (tools/lay-plain.mjs out of 'TryzSortShelf.lean', which tools/lay-shelf.mjs wrote): THE SAME DECLARATIONS UNDER THE SAME NAMES: 'import', 'namespace', 'open', 'def', 'theorem' AND NOTHING ELSE: no command of the shelf's: FOR A HAND-IN. Each laying: the table of numbers ('.._ren') and one theorem, a field a fact of the dump's own or the kernel's comparison; each contract: ONE APPLICATION.
-/
import Derived.Shelf.SlGeneric
import Derived.Shelf.SlSortCmp.NoneTotal
import Derived.Test.YtciipeallilmiaaGreatDoorProg
namespace Go.Proofs
open Go.Shelf
def Tryz.sortId_ren : Go.Shelf.Ren := ⟨fun | 6 => 302 | 15 => 184 | 14 => 335 | 28 => 252 | 29 => 253 | 20 => 360 | 21 => 361 | 22 => 362 | 23 => 363 | 24 => 364 | 25 => 365 | 26 => 366 | 27 => 367 | 46 => 387 | 47 => 291 | 48 => 292 | 49 => 388 | 50 => 389 | 57 => 400 | n => n, fun | 22 => 299 | 24 => 27 | 25 => 309 | 3 => 3 | 39 => 224 | 0 => 0 | 53 => 235 | 55 => 270 | 4 => 4 | 46 => 336 | 45 => 335 | 50 => 340 | 5 => 5 | 9 => 9 | 66 => 381 | 70 => 385 | 76 => 412 | 77 => 413 | n => n, fun | n => n⟩
theorem Tryz.sortId : Go.Proofs.SlLaysF0.n6 Tryz.prog Tryz.sortId_ren := {
  mixed := by kernel_rfl
  f6 := ⟨Tryz.f302.name, by decide, Tryz.func302.trans (congrArg some (by kernel_rfl))⟩
  f14 := ⟨Tryz.f335.name, by decide, Tryz.func335.trans (congrArg some (by kernel_rfl))⟩
  f15 := Tryz.func184.trans (congrArg some (by kernel_rfl))
  f20 := ⟨Tryz.f360.name, by decide, Tryz.func360.trans (congrArg some (by kernel_rfl))⟩
  f21 := ⟨Tryz.f361.name, by decide, Tryz.func361.trans (congrArg some (by kernel_rfl))⟩
  f22 := ⟨Tryz.f362.name, by decide, Tryz.func362.trans (congrArg some (by kernel_rfl))⟩
  f23 := ⟨Tryz.f363.name, by decide, Tryz.func363.trans (congrArg some (by kernel_rfl))⟩
  f24 := ⟨Tryz.f364.name, by decide, Tryz.func364.trans (congrArg some (by kernel_rfl))⟩
  f25 := ⟨Tryz.f365.name, by decide, Tryz.func365.trans (congrArg some (by kernel_rfl))⟩
  f26 := ⟨Tryz.f366.name, by decide, Tryz.func366.trans (congrArg some (by kernel_rfl))⟩
  f27 := ⟨Tryz.f367.name, by decide, Tryz.func367.trans (congrArg some (by kernel_rfl))⟩
  f28 := Tryz.func252.trans (congrArg some (by kernel_rfl))
  f29 := Tryz.func253.trans (congrArg some (by kernel_rfl))
  f46 := ⟨Tryz.f387.name, by decide, Tryz.func387.trans (congrArg some (by kernel_rfl))⟩
  f47 := Tryz.func291.trans (congrArg some (by kernel_rfl))
  f48 := Tryz.func292.trans (congrArg some (by kernel_rfl))
  f49 := ⟨Tryz.f388.name, by decide, Tryz.func388.trans (congrArg some (by kernel_rfl))⟩
  f50 := ⟨Tryz.f389.name, by decide, Tryz.func389.trans (congrArg some (by kernel_rfl))⟩
  f57 := ⟨Tryz.f400.name, by decide, Tryz.func400.trans (congrArg some (by kernel_rfl))⟩
  t0 := Tryz.underlying0
  a0 := Tryz.isAgg0
  z0 := Tryz.sizeOf0
  v0 := Tryz.zeroValue0
  t3 := Tryz.underlying3
  a3 := Tryz.isAgg3
  z3 := Tryz.sizeOf3
  v3 := Tryz.zeroValue3
  t4 := Tryz.underlying4
  a4 := Tryz.isAgg4
  z4 := Tryz.sizeOf4
  v4 := Tryz.zeroValue4
  t5 := Tryz.underlying5
  a5 := Tryz.isAgg5
  z5 := Tryz.sizeOf5
  v5 := Tryz.zeroValue5
  t9 := Tryz.underlying9
  a9 := Tryz.isAgg9
  z9 := Tryz.sizeOf9
  v9 := Tryz.zeroValue9
  t22 := Tryz.underlying299
  a22 := Tryz.isAgg299
  z22 := Tryz.sizeOf299
  v22 := Tryz.zeroValue299
  t25 := Tryz.underlying309
  a25 := Tryz.isAgg309
  z25 := Tryz.sizeOf309
  v25 := Tryz.zeroValue309
  t39 := Tryz.underlying224
  a39 := Tryz.isAgg224
  z39 := Tryz.sizeOf224
  v39 := Tryz.zeroValue224
  t45 := Tryz.underlying335
  a45 := Tryz.isAgg335
  z45 := Tryz.sizeOf335
  v45 := Tryz.zeroValue335
  t46 := Tryz.underlying336
  a46 := Tryz.isAgg336
  z46 := Tryz.sizeOf336
  v46 := Tryz.zeroValue336
  t50 := Tryz.underlying340
  a50 := Tryz.isAgg340
  z50 := Tryz.sizeOf340
  v50 := Tryz.zeroValue340
  t53 := Tryz.underlying235
  a53 := Tryz.isAgg235
  z53 := Tryz.sizeOf235
  v53 := Tryz.zeroValue235
  t55 := Tryz.underlying270
  a55 := Tryz.isAgg270
  z55 := Tryz.sizeOf270
  v55 := Tryz.zeroValue270
  t66 := Tryz.underlying381
  a66 := Tryz.isAgg381
  z66 := Tryz.sizeOf381
  v66 := Tryz.zeroValue381
  t70 := Tryz.underlying385
  a70 := Tryz.isAgg385
  z70 := Tryz.sizeOf385
  v70 := Tryz.zeroValue385
  t76 := Tryz.underlying412
  a76 := Tryz.isAgg412
  z76 := Tryz.sizeOf412
  v76 := Tryz.zeroValue412
  t77 := Tryz.underlying413
  a77 := Tryz.isAgg413
  z77 := Tryz.sizeOf413
  v77 := Tryz.zeroValue413 }
end Go.Proofs
