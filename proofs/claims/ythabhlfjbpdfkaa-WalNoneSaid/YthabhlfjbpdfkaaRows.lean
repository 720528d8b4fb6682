/-
  No cell of these rows narrows 'for every input' (looked for: loops, veiled, ifaces, maps, wideKeys, modest, calm, conditions, laid).
  DERIVED. THE GIVEN ROWS OF THIS SEAT. 4 by the template 'for every input the law returns true; each argument reads behind the call as it read before'; 0 by the template 'total and deterministic' (their statements: YthabhlfjbpdfkaaTotals.lean).
  GIVEN WITH THE SEED: the statements are not yours to turn. If you find one false, say at which input.
  Laid BY PROGRAM, IN A SANDBOX (cutbox-rows.mjs): the forced cells as the released guide's own fill.sh prints them over the translation fb90dec798715abd… (all of the seat's roots in one cut). By AI agents, Wed Nov 11 2026. No macro, syntax, notation, axiom, sorry.
-/
import Derived.Test.YthabhlfjbpdfkaaChecked
import GoSem.Claim
import GoSem.ClaimJoined
import GoSem.ClaimMapViews
import Derived.JoinedTies
import Derived.KernelRfl
namespace Go.Proofs.Ythabhlfjbpdfkaa
/- THE CELL 'sum', in the pinned program and in every row, IS THE sha256 OF THE DUMP (.gsa) THAT YthabhlfjbpdfkaaProg.lean LOADS. Nothing in Lean hashes anything: it is a label: what it is worth is what the hold of that sum in a sandbox is worth. -/
noncomputable def Try.pinned : Pinned := { name := "ythabhlfjbpdfkaa", sum := "fb90dec798715abdd8eec826775ef1986613e79ee85529e6c39b4b29760dbb5a", checked := Try.checked }
namespace Rows
def none {H : Type} : Left H := { results := [], args := [] }

/-- 'lagoonlaw6.WalCommits': WHATEVER THE INPUT: true; the input reads as it did. -/
def walCommitsSpec : ChangeSpec := { name := "walCommits", fn := fun _ => fun
  | [d1, d2] => { results := [.lit (.bool true)], args := [d1, d2] }
  | _ => none }
def walCommitsRow : OpenClaim := { program := "ythabhlfjbpdfkaa", sum := "fb90dec798715abdd8eec826775ef1986613e79ee85529e6c39b4b29760dbb5a", func := "lagoon/lagoonlaw6.WalCommits", spec := "walCommits", unfollowed := true, recurses := true, apart := false }
def WalCommitsSaid : Prop := walCommitsRow.holds Try.pinned (OpenSpec.ofChange walCommitsSpec)

/-- ITS FALSE NEIGHBOUR: 'it returns false'. Refute it at one input. -/
def walCommitsWrong : ChangeSpec := { name := "walCommits", fn := fun _ => fun
  | [d1, d2] => { results := [.lit (.bool false)], args := [d1, d2] }
  | _ => none }
def WalCommitsWrongFalsely : Prop := walCommitsRow.holds Try.pinned (OpenSpec.ofChange walCommitsWrong)

/-- 'lagoonlaw6.WalNone': WHATEVER THE INPUT: true; the input reads as it did. -/
def walNoneSpec : ChangeSpec := { name := "walNone", fn := fun _ => fun
  | [] => { results := [.lit (.bool true)], args := [] }
  | _ => none }
def walNoneRow : OpenClaim := { program := "ythabhlfjbpdfkaa", sum := "fb90dec798715abdd8eec826775ef1986613e79ee85529e6c39b4b29760dbb5a", func := "lagoon/lagoonlaw6.WalNone", spec := "walNone", unfollowed := true, recurses := true, apart := false }
def WalNoneSaid : Prop := walNoneRow.holds Try.pinned (OpenSpec.ofChange walNoneSpec)

/-- ITS FALSE NEIGHBOUR: 'it returns false'. Refute it at one input. -/
def walNoneWrong : ChangeSpec := { name := "walNone", fn := fun _ => fun
  | [] => { results := [.lit (.bool false)], args := [] }
  | _ => none }
def WalNoneWrongFalsely : Prop := walNoneRow.holds Try.pinned (OpenSpec.ofChange walNoneWrong)

/-- 'lagoonlaw6.WalWhole': WHATEVER THE INPUT: true; the input reads as it did. -/
def walWholeSpec : ChangeSpec := { name := "walWhole", fn := fun _ => fun
  | [d1, d2, d3] => { results := [.lit (.bool true)], args := [d1, d2, d3] }
  | _ => none }
def walWholeRow : OpenClaim := { program := "ythabhlfjbpdfkaa", sum := "fb90dec798715abdd8eec826775ef1986613e79ee85529e6c39b4b29760dbb5a", func := "lagoon/lagoonlaw6.WalWhole", spec := "walWhole", unfollowed := true, recurses := true, apart := false }
def WalWholeSaid : Prop := walWholeRow.holds Try.pinned (OpenSpec.ofChange walWholeSpec)

/-- ITS FALSE NEIGHBOUR: 'it returns false'. Refute it at one input. -/
def walWholeWrong : ChangeSpec := { name := "walWhole", fn := fun _ => fun
  | [d1, d2, d3] => { results := [.lit (.bool false)], args := [d1, d2, d3] }
  | _ => none }
def WalWholeWrongFalsely : Prop := walWholeRow.holds Try.pinned (OpenSpec.ofChange walWholeWrong)

/-- 'lagoonlaw6.WalFormat': WHATEVER THE INPUT: true; the input reads as it did. -/
def walFormatSpec : ChangeSpec := { name := "walFormat", fn := fun _ => fun
  | [d1, d2, d3] => { results := [.lit (.bool true)], args := [d1, d2, d3] }
  | _ => none }
def walFormatRow : OpenClaim := { program := "ythabhlfjbpdfkaa", sum := "fb90dec798715abdd8eec826775ef1986613e79ee85529e6c39b4b29760dbb5a", func := "lagoon/lagoonlaw6.WalFormat", spec := "walFormat", unfollowed := true, recurses := true, apart := false }
def WalFormatSaid : Prop := walFormatRow.holds Try.pinned (OpenSpec.ofChange walFormatSpec)

/-- ITS FALSE NEIGHBOUR: 'it returns false'. Refute it at one input. -/
def walFormatWrong : ChangeSpec := { name := "walFormat", fn := fun _ => fun
  | [d1, d2, d3] => { results := [.lit (.bool false)], args := [d1, d2, d3] }
  | _ => none }
def WalFormatWrongFalsely : Prop := walFormatRow.holds Try.pinned (OpenSpec.ofChange walFormatWrong)

/- THE SECOND FORM. 'bulk': how many values and letters a reading holds, each counted each time it is reached (what is shared counts as often as it is met; a slice's spare places count too). A statement '..UptoSaid' is the law's where the arguments, and the package variables that the reading takes, are together of bulk at most 1048576: NARROWER than '..Said'. Prove '..Said' where nothing that the law and all that it calls make is longer than what came in: it says more and counts as full. Else prove '..UptoSaid'. A law counts once. -/
mutual
def uptoBulk {H : Type} : DataW H → Nat
  | .lit (.string bytes) => bytes.length + 1
  | .lit _ => 1
  | .nil => 1
  | .ptr d => uptoBulk d + 1
  | .slice elems spare => uptoBulkAll elems + uptoBulkAll spare + 1
  | .agg parts => uptoBulkAll parts + 1
  | .iface _ d => uptoBulk d + 1
  | .map entries => uptoBulkEntries entries + 1
  | .held _ => 1
def uptoBulkAll {H : Type} : List (DataW H) → Nat
  | [] => 0
  | d :: r => uptoBulk d + uptoBulkAll r
def uptoBulkEntries {H : Type} : List (Lit × DataW H) → Nat
  | [] => 0
  | x :: r => uptoBulkEntry x + uptoBulkEntries r
def uptoBulkEntry {H : Type} : Lit × DataW H → Nat
  | (.string bytes, d) => bytes.length + uptoBulk d + 1
  | (_, d) => uptoBulk d + 1
 end
def uptoSmall : (H : Type) → List (DataW H) → Bool := fun _ ds => decide (uptoBulkAll ds ≤ 1048576)
def OpenSpec.upto (s : _root_.Go.ChangeSpec) : _root_.Go.OpenSpec := { _root_.Go.OpenSpec.ofChange s with cond := some uptoSmall }

/-- 'lagoonlaw6.WalCommits', WHERE WHAT IT READS IS OF BULK AT MOST 1048576: true; the input reads as it did. -/
def walCommitsUptoRow : OpenClaim := { program := "ythabhlfjbpdfkaa", sum := "fb90dec798715abdd8eec826775ef1986613e79ee85529e6c39b4b29760dbb5a", func := "lagoon/lagoonlaw6.WalCommits", spec := "walCommits", unfollowed := true, recurses := true, apart := false, narrowed := true }
def WalCommitsUptoSaid : Prop := walCommitsUptoRow.holds Try.pinned (OpenSpec.upto walCommitsSpec)

/-- 'lagoonlaw6.WalNone', WHERE WHAT IT READS IS OF BULK AT MOST 1048576: true; the input reads as it did. -/
def walNoneUptoRow : OpenClaim := { program := "ythabhlfjbpdfkaa", sum := "fb90dec798715abdd8eec826775ef1986613e79ee85529e6c39b4b29760dbb5a", func := "lagoon/lagoonlaw6.WalNone", spec := "walNone", unfollowed := true, recurses := true, apart := false, narrowed := true }
def WalNoneUptoSaid : Prop := walNoneUptoRow.holds Try.pinned (OpenSpec.upto walNoneSpec)

/-- 'lagoonlaw6.WalWhole', WHERE WHAT IT READS IS OF BULK AT MOST 1048576: true; the input reads as it did. -/
def walWholeUptoRow : OpenClaim := { program := "ythabhlfjbpdfkaa", sum := "fb90dec798715abdd8eec826775ef1986613e79ee85529e6c39b4b29760dbb5a", func := "lagoon/lagoonlaw6.WalWhole", spec := "walWhole", unfollowed := true, recurses := true, apart := false, narrowed := true }
def WalWholeUptoSaid : Prop := walWholeUptoRow.holds Try.pinned (OpenSpec.upto walWholeSpec)

/-- 'lagoonlaw6.WalFormat', WHERE WHAT IT READS IS OF BULK AT MOST 1048576: true; the input reads as it did. -/
def walFormatUptoRow : OpenClaim := { program := "ythabhlfjbpdfkaa", sum := "fb90dec798715abdd8eec826775ef1986613e79ee85529e6c39b4b29760dbb5a", func := "lagoon/lagoonlaw6.WalFormat", spec := "walFormat", unfollowed := true, recurses := true, apart := false, narrowed := true }
def WalFormatUptoSaid : Prop := walFormatUptoRow.holds Try.pinned (OpenSpec.upto walFormatSpec)

end Rows
end Go.Proofs.Ythabhlfjbpdfkaa
