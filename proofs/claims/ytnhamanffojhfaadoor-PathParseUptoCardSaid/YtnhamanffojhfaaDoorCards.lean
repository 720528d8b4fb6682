/-
  DERIVED. GIVEN WITH THE SEED: THE CARDS: each row of YtnhamanffojhfaaDoorRows.lean that lists a variable, with what it lists TIED to the program's text (the seventh form; the later family's looks); each row that meets fmt, with fmt's text TOLD by the authors' own Lean function (tested against real Go, not proved from fmt's source: count such statements apart). THE CARD IS WHAT COUNTS. Prove the row's statement (the work); the ties are given (YtnhamanffojhfaaDoorTie.lean); close each card by the builder's one call (the guide's Derived/Test/ToyasCard.lean, 'card_holds'). Laid BY PROGRAM, IN A SANDBOX (cutbox-door.mjs). By AI agents, Wed Nov 11 2026. No macro, syntax, notation, axiom, sorry.
-/
import Derived.Test.YtnhamanffojhfaaDoorRows
import GoSem.ClaimSeven
namespace Go.Proofs.YtnhamanffojhfaaDoor
namespace Rows

/-- THE TIED CARD OF 'lagoonlaw16.ClashShown'. -/
def clashShownCard : Claim7 := { stood := { row := clashShownRow, standIns := [], harness := (true, "3f71e5a48b55df71bcdfa39708385a25512babbbd173318b3c6aa7cc5648e218"), looks := true }, kinds := [], alts := [], laidByText := true, laidKinds := [.data, .data, .data, .sentinel, .sentinel], laidTests := true, laidLooks := .later }
def ClashShownCardSaid : Prop := Claim7.holds Tryd.pinned (.plain (OpenSpec.ofChange clashShownSpec)) clashShownCard

/-- THE TIED CARD OF 'lagoonlaw16.ClashApart'. -/
def clashApartCard : Claim7 := { stood := { row := clashApartRow, standIns := [], harness := (true, "3f71e5a48b55df71bcdfa39708385a25512babbbd173318b3c6aa7cc5648e218"), looks := true }, kinds := [], alts := [], laidByText := true, laidKinds := [.data, .data, .data, .sentinel, .sentinel], laidTests := true, laidLooks := .later }
def ClashApartCardSaid : Prop := Claim7.holds Tryd.pinned (.plain (OpenSpec.ofChange clashApartSpec)) clashApartCard

/-- THE TIED CARD OF 'lagoonlaw16.ClashSplit'. -/
def clashSplitCard : Claim7 := { stood := { row := clashSplitRow, standIns := [], harness := (true, "3f71e5a48b55df71bcdfa39708385a25512babbbd173318b3c6aa7cc5648e218"), looks := true }, kinds := [], alts := [], laidByText := true, laidKinds := [.data, .data, .data, .sentinel, .sentinel], laidTests := true, laidLooks := .later }
def ClashSplitCardSaid : Prop := Claim7.holds Tryd.pinned (.plain (OpenSpec.ofChange clashSplitSpec)) clashSplitCard

/-- THE TIED CARD OF 'lagoonlaw19.PathParse'. -/
def pathParseCard : Claim7 := { stood := { row := pathParseRow, standIns := [], harness := (true, "3f71e5a48b55df71bcdfa39708385a25512babbbd173318b3c6aa7cc5648e218"), looks := true }, kinds := [], alts := [], laidByText := true, laidKinds := [.data, .data, .data, .data, .sentinel, .sentinel, .pinned], laidTests := true, laidLooks := .later }
def PathParseCardSaid : Prop := Claim7.holds Tryd.pinned (.plain (OpenSpec.ofChange pathParseSpec)) pathParseCard

/-- THE SECOND FORM's CARD OF 'lagoonlaw16.ClashShown'. -/
def clashShownUptoCard : Claim7 := { stood := { row := clashShownUptoRow, standIns := [], harness := (true, "3f71e5a48b55df71bcdfa39708385a25512babbbd173318b3c6aa7cc5648e218"), looks := true }, kinds := [], alts := [], laidByText := true, laidKinds := [.data, .data, .data, .sentinel, .sentinel], laidTests := true, laidLooks := .later }
def ClashShownUptoCardSaid : Prop := Claim7.holds Tryd.pinned (.plain (OpenSpec.upto clashShownSpec)) clashShownUptoCard

/-- THE SECOND FORM's CARD OF 'lagoonlaw16.ClashApart'. -/
def clashApartUptoCard : Claim7 := { stood := { row := clashApartUptoRow, standIns := [], harness := (true, "3f71e5a48b55df71bcdfa39708385a25512babbbd173318b3c6aa7cc5648e218"), looks := true }, kinds := [], alts := [], laidByText := true, laidKinds := [.data, .data, .data, .sentinel, .sentinel], laidTests := true, laidLooks := .later }
def ClashApartUptoCardSaid : Prop := Claim7.holds Tryd.pinned (.plain (OpenSpec.upto clashApartSpec)) clashApartUptoCard

/-- THE SECOND FORM's CARD OF 'lagoonlaw16.ClashSplit'. -/
def clashSplitUptoCard : Claim7 := { stood := { row := clashSplitUptoRow, standIns := [], harness := (true, "3f71e5a48b55df71bcdfa39708385a25512babbbd173318b3c6aa7cc5648e218"), looks := true }, kinds := [], alts := [], laidByText := true, laidKinds := [.data, .data, .data, .sentinel, .sentinel], laidTests := true, laidLooks := .later }
def ClashSplitUptoCardSaid : Prop := Claim7.holds Tryd.pinned (.plain (OpenSpec.upto clashSplitSpec)) clashSplitUptoCard

/-- THE SECOND FORM's CARD OF 'lagoonlaw19.PathParse'. -/
def pathParseUptoCard : Claim7 := { stood := { row := pathParseUptoRow, standIns := [], harness := (true, "3f71e5a48b55df71bcdfa39708385a25512babbbd173318b3c6aa7cc5648e218"), looks := true }, kinds := [], alts := [], laidByText := true, laidKinds := [.data, .data, .data, .data, .sentinel, .sentinel, .pinned], laidTests := true, laidLooks := .later }
def PathParseUptoCardSaid : Prop := Claim7.holds Tryd.pinned (.plain (OpenSpec.upto pathParseSpec)) pathParseUptoCard
end Rows
end Go.Proofs.YtnhamanffojhfaaDoor
