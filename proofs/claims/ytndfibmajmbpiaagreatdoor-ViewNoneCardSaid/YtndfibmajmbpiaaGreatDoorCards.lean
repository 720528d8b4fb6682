/-
  DERIVED. GIVEN WITH THE SEED: THE CARDS: each row of YtndfibmajmbpiaaGreatDoorRows.lean that lists a variable, with what it lists TIED to the program's text (the seventh form; the later family's looks); each row that meets fmt, with fmt's text TOLD by the authors' own Lean function (tested against real Go, not proved from fmt's source: count such statements apart). THE CARD IS WHAT COUNTS. Prove the row's statement (the work); the ties are given (YtndfibmajmbpiaaGreatDoorTie.lean); close each card by the builder's one call (the guide's Derived/Test/ToyasCard.lean, 'card_holds'). Laid BY PROGRAM, IN A SANDBOX (cutbox-door.mjs). By AI agents, Wed Nov 11 2026. No macro, syntax, notation, axiom, sorry.
-/
import Derived.Test.YtndfibmajmbpiaaGreatDoorRows
import GoSem.ClaimSeven
namespace Go.Proofs.YtndfibmajmbpiaaGreatDoor
namespace Rows

/-- THE TIED CARD OF 'lagoonlaw18.ViewNone'. -/
def viewNoneCard : Claim7 := { stood := { row := viewNoneRow, standIns := [], harness := (true, "ee86994cee9cb1386923b0d540bffad1cf3b9cc609fc206456088b5d0a7d8fb8"), looks := true }, kinds := [], alts := [], laidByText := true, laidKinds := [.data, .data, .data], laidTests := true, laidLooks := .later }
def ViewNoneCardSaid : Prop := Claim7.holds Tryz.pinned (.plain (OpenSpec.ofChange viewNoneSpec)) viewNoneCard

/-- THE TIED CARD OF 'lagoonlaw21.VfsNone'. -/
def vfsNoneCard : Claim7 := { stood := { row := vfsNoneRow, standIns := [], harness := (true, "ee86994cee9cb1386923b0d540bffad1cf3b9cc609fc206456088b5d0a7d8fb8"), looks := true }, kinds := [], alts := [], laidByText := true, laidKinds := [.data, .data, .data, .data, .sentinel, .sentinel, .pinned], laidTests := true, laidLooks := .later }
def VfsNoneCardSaid : Prop := Claim7.holds Tryz.pinned (.plain (OpenSpec.ofChange vfsNoneSpec)) vfsNoneCard

/-- THE SECOND FORM's CARD OF 'lagoonlaw18.ViewNone'. -/
def viewNoneUptoCard : Claim7 := { stood := { row := viewNoneUptoRow, standIns := [], harness := (true, "ee86994cee9cb1386923b0d540bffad1cf3b9cc609fc206456088b5d0a7d8fb8"), looks := true }, kinds := [], alts := [], laidByText := true, laidKinds := [.data, .data, .data], laidTests := true, laidLooks := .later }
def ViewNoneUptoCardSaid : Prop := Claim7.holds Tryz.pinned (.plain (OpenSpec.upto viewNoneSpec)) viewNoneUptoCard

/-- THE SECOND FORM's CARD OF 'lagoonlaw21.VfsNone'. -/
def vfsNoneUptoCard : Claim7 := { stood := { row := vfsNoneUptoRow, standIns := [], harness := (true, "ee86994cee9cb1386923b0d540bffad1cf3b9cc609fc206456088b5d0a7d8fb8"), looks := true }, kinds := [], alts := [], laidByText := true, laidKinds := [.data, .data, .data, .data, .sentinel, .sentinel, .pinned], laidTests := true, laidLooks := .later }
def VfsNoneUptoCardSaid : Prop := Claim7.holds Tryz.pinned (.plain (OpenSpec.upto vfsNoneSpec)) vfsNoneUptoCard
end Rows
end Go.Proofs.YtndfibmajmbpiaaGreatDoor
