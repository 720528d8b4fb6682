/-
  DERIVED. GIVEN WITH THE SEED: THE CARDS: each row of YtbefkepinpollaaGreatDoorRows.lean that lists a variable, with what it lists TIED to the program's text (the seventh form; the later family's looks); each row that meets fmt, with fmt's text TOLD by the authors' own Lean function (tested against real Go, not proved from fmt's source: count such statements apart). THE CARD IS WHAT COUNTS. Prove the row's statement (the work); the ties are given (YtbefkepinpollaaGreatDoorTie.lean); close each card by the builder's one call (the guide's Derived/Test/ToyasCard.lean, 'card_holds'). Laid BY PROGRAM, IN A SANDBOX (cutbox-door.mjs). By AI agents, Wed Nov 11 2026. No macro, syntax, notation, axiom, sorry.
-/
import Derived.Test.YtbefkepinpollaaGreatDoorRows
import GoSem.ClaimSeven
namespace Go.Proofs.YtbefkepinpollaaGreatDoor
namespace Rows

/-- THE TIED CARD OF 'lagoonlaw13.LogNone'. -/
def logNoneCard : Claim7 := { stood := { row := logNoneRow, standIns := [], harness := (true, "f9d0f4f16815346eb4b37d9f025f67e4693222cdccfccd0a74814fadf01af0fd"), looks := true }, kinds := [], alts := [], laidByText := true, laidKinds := [.data, .data, .data], laidTests := true, laidLooks := .later }
def LogNoneCardSaid : Prop := Claim7.holds Tryz.pinned (.plain (OpenSpec.ofChange logNoneSpec)) logNoneCard

/-- THE SECOND FORM's CARD OF 'lagoonlaw13.LogNone'. -/
def logNoneUptoCard : Claim7 := { stood := { row := logNoneUptoRow, standIns := [], harness := (true, "f9d0f4f16815346eb4b37d9f025f67e4693222cdccfccd0a74814fadf01af0fd"), looks := true }, kinds := [], alts := [], laidByText := true, laidKinds := [.data, .data, .data], laidTests := true, laidLooks := .later }
def LogNoneUptoCardSaid : Prop := Claim7.holds Tryz.pinned (.plain (OpenSpec.upto logNoneSpec)) logNoneUptoCard
end Rows
end Go.Proofs.YtbefkepinpollaaGreatDoor
