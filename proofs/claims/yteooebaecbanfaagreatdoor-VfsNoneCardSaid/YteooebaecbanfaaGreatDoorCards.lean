/-
  DERIVED. GIVEN WITH THE SEED: THE CARDS: each row of YteooebaecbanfaaGreatDoorRows.lean that lists a variable, with what it lists TIED to the program's text (the seventh form; the later family's looks); each row that meets fmt, with fmt's text TOLD by the authors' own Lean function (tested against real Go, not proved from fmt's source: count such statements apart). THE CARD IS WHAT COUNTS. Prove the row's statement (the work); the ties are given (YteooebaecbanfaaGreatDoorTie.lean); close each card by the builder's one call (the guide's Derived/Test/ToyasCard.lean, 'card_holds'). Laid BY PROGRAM, IN A SANDBOX (cutbox-door.mjs). By AI agents, Wed Nov 11 2026. No macro, syntax, notation, axiom, sorry.
-/
import Derived.Test.YteooebaecbanfaaGreatDoorRows
import GoSem.ClaimSeven
namespace Go.Proofs.YteooebaecbanfaaGreatDoor
namespace Rows

/-- THE TIED CARD OF 'lagoonlaw21.VfsNone'. -/
def vfsNoneCard : Claim7 := { stood := { row := vfsNoneRow, standIns := [], harness := (true, "76e66362f46156da34f31ebe2dbaf1c3f6cea188e6594f2063c0a6704d697d17"), looks := true }, kinds := [], alts := [], laidByText := true, laidKinds := [.data, .data, .data, .data, .sentinel, .sentinel, .pinned], laidTests := true, laidLooks := .later }
def VfsNoneCardSaid : Prop := Claim7.holds Tryz.pinned (.plain (OpenSpec.ofChange vfsNoneSpec)) vfsNoneCard

/-- THE TIED CARD OF 'lagoonlaw13.LogNone'. -/
def logNoneCard : Claim7 := { stood := { row := logNoneRow, standIns := [], harness := (true, "76e66362f46156da34f31ebe2dbaf1c3f6cea188e6594f2063c0a6704d697d17"), looks := true }, kinds := [], alts := [], laidByText := true, laidKinds := [.data, .data, .data], laidTests := true, laidLooks := .later }
def LogNoneCardSaid : Prop := Claim7.holds Tryz.pinned (.plain (OpenSpec.ofChange logNoneSpec)) logNoneCard

/-- THE SECOND FORM's CARD OF 'lagoonlaw21.VfsNone'. -/
def vfsNoneUptoCard : Claim7 := { stood := { row := vfsNoneUptoRow, standIns := [], harness := (true, "76e66362f46156da34f31ebe2dbaf1c3f6cea188e6594f2063c0a6704d697d17"), looks := true }, kinds := [], alts := [], laidByText := true, laidKinds := [.data, .data, .data, .data, .sentinel, .sentinel, .pinned], laidTests := true, laidLooks := .later }
def VfsNoneUptoCardSaid : Prop := Claim7.holds Tryz.pinned (.plain (OpenSpec.upto vfsNoneSpec)) vfsNoneUptoCard

/-- THE SECOND FORM's CARD OF 'lagoonlaw13.LogNone'. -/
def logNoneUptoCard : Claim7 := { stood := { row := logNoneUptoRow, standIns := [], harness := (true, "76e66362f46156da34f31ebe2dbaf1c3f6cea188e6594f2063c0a6704d697d17"), looks := true }, kinds := [], alts := [], laidByText := true, laidKinds := [.data, .data, .data], laidTests := true, laidLooks := .later }
def LogNoneUptoCardSaid : Prop := Claim7.holds Tryz.pinned (.plain (OpenSpec.upto logNoneSpec)) logNoneUptoCard
end Rows
end Go.Proofs.YteooebaecbanfaaGreatDoor
