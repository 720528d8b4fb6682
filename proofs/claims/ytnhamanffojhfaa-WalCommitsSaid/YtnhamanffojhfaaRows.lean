/-
  No cell of these rows narrows 'for every input' (looked for: loops, veiled, ifaces, maps, wideKeys, modest, calm, conditions, laid).
  DERIVED. THE GIVEN ROWS OF THIS SEAT. 8 by the template 'for every input the law returns true; each argument reads behind the call as it read before'; 0 by the template 'total and deterministic' (their statements: YtnhamanffojhfaaTotals.lean).
  GIVEN WITH THE SEED: the statements are not yours to turn. If you find one false, say at which input.
  Laid BY PROGRAM, IN A SANDBOX (cutbox-rows.mjs): the forced cells as the released guide's own fill.sh prints them over the translation 14f9f204a2c419fc… (all of the seat's roots in one cut). By AI agents, Wed Nov 11 2026. No macro, syntax, notation, axiom, sorry.
-/
import Derived.Test.YtnhamanffojhfaaChecked
import GoSem.Claim
import GoSem.ClaimJoined
import GoSem.ClaimMapViews
import Derived.JoinedTies
import Derived.KernelRfl
namespace Go.Proofs.Ytnhamanffojhfaa
/- THE CELL 'sum', in the pinned program and in every row, IS THE sha256 OF THE DUMP (.gsa) THAT YtnhamanffojhfaaProg.lean LOADS. Nothing in Lean hashes anything: it is a label: what it is worth is what the hold of that sum in a sandbox is worth. -/
noncomputable def Try.pinned : Pinned := { name := "ytnhamanffojhfaa", sum := "14f9f204a2c419fc26a9eae7167931a05463d650c97892e98fd4c3ad6e4f9b71", checked := Try.checked }
namespace Rows
def none {H : Type} : Left H := { results := [], args := [] }

/-- 'lagoonlaw17.ContentAll': WHATEVER THE INPUT: true; the input reads as it did. -/
def contentAllSpec : ChangeSpec := { name := "contentAll", fn := fun _ => fun
  | [d] => { results := [.lit (.bool true)], args := [d] }
  | _ => none }
def contentAllRow : OpenClaim := { program := "ytnhamanffojhfaa", sum := "14f9f204a2c419fc26a9eae7167931a05463d650c97892e98fd4c3ad6e4f9b71", func := "lagoon/lagoonlaw17.ContentAll", spec := "contentAll", inPlace := ["internal/bytealg.IndexByteString", "internal/bytealg.IndexString", "slices.overlaps[lagoon/api.Version]"], unfollowed := true, recurses := true, named := ["internal/bytealg.MaxLen"], plainKeys := false, apart := false }
def ContentAllSaid : Prop := contentAllRow.holds Try.pinned (OpenSpec.ofChange contentAllSpec)

/-- ITS FALSE NEIGHBOUR: 'it returns false'. Refute it at one input. -/
def contentAllWrong : ChangeSpec := { name := "contentAll", fn := fun _ => fun
  | [d] => { results := [.lit (.bool false)], args := [d] }
  | _ => none }
def ContentAllWrongFalsely : Prop := contentAllRow.holds Try.pinned (OpenSpec.ofChange contentAllWrong)

/-- 'lagoonlaw17.ContentOrders': WHATEVER THE INPUT: true; the input reads as it did. -/
def contentOrdersSpec : ChangeSpec := { name := "contentOrders", fn := fun _ => fun
  | [d] => { results := [.lit (.bool true)], args := [d] }
  | _ => none }
def contentOrdersRow : OpenClaim := { program := "ytnhamanffojhfaa", sum := "14f9f204a2c419fc26a9eae7167931a05463d650c97892e98fd4c3ad6e4f9b71", func := "lagoon/lagoonlaw17.ContentOrders", spec := "contentOrders", inPlace := ["internal/bytealg.IndexByteString", "internal/bytealg.IndexString", "slices.overlaps[lagoon/api.Version]"], unfollowed := true, recurses := true, named := ["internal/bytealg.MaxLen"], plainKeys := false, apart := false }
def ContentOrdersSaid : Prop := contentOrdersRow.holds Try.pinned (OpenSpec.ofChange contentOrdersSpec)

/-- ITS FALSE NEIGHBOUR: 'it returns false'. Refute it at one input. -/
def contentOrdersWrong : ChangeSpec := { name := "contentOrders", fn := fun _ => fun
  | [d] => { results := [.lit (.bool false)], args := [d] }
  | _ => none }
def ContentOrdersWrongFalsely : Prop := contentOrdersRow.holds Try.pinned (OpenSpec.ofChange contentOrdersWrong)

/-- 'lagoonlaw17.ContentMerge': WHATEVER THE INPUT: true; the input reads as it did. -/
def contentMergeSpec : ChangeSpec := { name := "contentMerge", fn := fun _ => fun
  | [d1, d2, d3] => { results := [.lit (.bool true)], args := [d1, d2, d3] }
  | _ => none }
def contentMergeRow : OpenClaim := { program := "ytnhamanffojhfaa", sum := "14f9f204a2c419fc26a9eae7167931a05463d650c97892e98fd4c3ad6e4f9b71", func := "lagoon/lagoonlaw17.ContentMerge", spec := "contentMerge", inPlace := ["internal/bytealg.IndexByteString", "internal/bytealg.IndexString", "slices.overlaps[lagoon/api.Version]"], unfollowed := true, recurses := true, named := ["internal/bytealg.MaxLen"], plainKeys := false, apart := false }
def ContentMergeSaid : Prop := contentMergeRow.holds Try.pinned (OpenSpec.ofChange contentMergeSpec)

/-- ITS FALSE NEIGHBOUR: 'it returns false'. Refute it at one input. -/
def contentMergeWrong : ChangeSpec := { name := "contentMerge", fn := fun _ => fun
  | [d1, d2, d3] => { results := [.lit (.bool false)], args := [d1, d2, d3] }
  | _ => none }
def ContentMergeWrongFalsely : Prop := contentMergeRow.holds Try.pinned (OpenSpec.ofChange contentMergeWrong)

/-- 'lagoonlaw15.TreeAll': WHATEVER THE INPUT: true; the input reads as it did. -/
def treeAllSpec : ChangeSpec := { name := "treeAll", fn := fun _ => fun
  | [d] => { results := [.lit (.bool true)], args := [d] }
  | _ => none }
def treeAllRow : OpenClaim := { program := "ytnhamanffojhfaa", sum := "14f9f204a2c419fc26a9eae7167931a05463d650c97892e98fd4c3ad6e4f9b71", func := "lagoon/lagoonlaw15.TreeAll", spec := "treeAll", inPlace := ["internal/bytealg.IndexByteString", "internal/bytealg.IndexString", "slices.overlaps[lagoon/movetree.done]"], unfollowed := true, recurses := true, named := ["internal/bytealg.MaxLen"], plainKeys := false, apart := false }
def TreeAllSaid : Prop := treeAllRow.holds Try.pinned (OpenSpec.ofChange treeAllSpec)

/-- ITS FALSE NEIGHBOUR: 'it returns false'. Refute it at one input. -/
def treeAllWrong : ChangeSpec := { name := "treeAll", fn := fun _ => fun
  | [d] => { results := [.lit (.bool false)], args := [d] }
  | _ => none }
def TreeAllWrongFalsely : Prop := treeAllRow.holds Try.pinned (OpenSpec.ofChange treeAllWrong)

/-- 'lagoonlaw15.TreeOrders': WHATEVER THE INPUT: true; the input reads as it did. -/
def treeOrdersSpec : ChangeSpec := { name := "treeOrders", fn := fun _ => fun
  | [d1, d2] => { results := [.lit (.bool true)], args := [d1, d2] }
  | _ => none }
def treeOrdersRow : OpenClaim := { program := "ytnhamanffojhfaa", sum := "14f9f204a2c419fc26a9eae7167931a05463d650c97892e98fd4c3ad6e4f9b71", func := "lagoon/lagoonlaw15.TreeOrders", spec := "treeOrders", inPlace := ["internal/bytealg.IndexByteString", "internal/bytealg.IndexString", "slices.overlaps[lagoon/movetree.done]"], unfollowed := true, recurses := true, named := ["internal/bytealg.MaxLen"], plainKeys := false, apart := false }
def TreeOrdersSaid : Prop := treeOrdersRow.holds Try.pinned (OpenSpec.ofChange treeOrdersSpec)

/-- ITS FALSE NEIGHBOUR: 'it returns false'. Refute it at one input. -/
def treeOrdersWrong : ChangeSpec := { name := "treeOrders", fn := fun _ => fun
  | [d1, d2] => { results := [.lit (.bool false)], args := [d1, d2] }
  | _ => none }
def TreeOrdersWrongFalsely : Prop := treeOrdersRow.holds Try.pinned (OpenSpec.ofChange treeOrdersWrong)

/-- 'lagoonlaw15.TreeSound': WHATEVER THE INPUT: true; the input reads as it did. -/
def treeSoundSpec : ChangeSpec := { name := "treeSound", fn := fun _ => fun
  | [d] => { results := [.lit (.bool true)], args := [d] }
  | _ => none }
def treeSoundRow : OpenClaim := { program := "ytnhamanffojhfaa", sum := "14f9f204a2c419fc26a9eae7167931a05463d650c97892e98fd4c3ad6e4f9b71", func := "lagoon/lagoonlaw15.TreeSound", spec := "treeSound", inPlace := ["internal/bytealg.IndexByteString", "internal/bytealg.IndexString", "slices.overlaps[lagoon/movetree.done]"], unfollowed := true, recurses := true, named := ["internal/bytealg.MaxLen"], plainKeys := false, apart := false }
def TreeSoundSaid : Prop := treeSoundRow.holds Try.pinned (OpenSpec.ofChange treeSoundSpec)

/-- ITS FALSE NEIGHBOUR: 'it returns false'. Refute it at one input. -/
def treeSoundWrong : ChangeSpec := { name := "treeSound", fn := fun _ => fun
  | [d] => { results := [.lit (.bool false)], args := [d] }
  | _ => none }
def TreeSoundWrongFalsely : Prop := treeSoundRow.holds Try.pinned (OpenSpec.ofChange treeSoundWrong)

/-- 'lagoonlaw6.WalCommits': WHATEVER THE INPUT: true; the input reads as it did. -/
def walCommitsSpec : ChangeSpec := { name := "walCommits", fn := fun _ => fun
  | [d1, d2] => { results := [.lit (.bool true)], args := [d1, d2] }
  | _ => none }
def walCommitsRow : OpenClaim := { program := "ytnhamanffojhfaa", sum := "14f9f204a2c419fc26a9eae7167931a05463d650c97892e98fd4c3ad6e4f9b71", func := "lagoon/lagoonlaw6.WalCommits", spec := "walCommits", unfollowed := true, recurses := true, plainKeys := false, apart := false }
def WalCommitsSaid : Prop := walCommitsRow.holds Try.pinned (OpenSpec.ofChange walCommitsSpec)

/-- ITS FALSE NEIGHBOUR: 'it returns false'. Refute it at one input. -/
def walCommitsWrong : ChangeSpec := { name := "walCommits", fn := fun _ => fun
  | [d1, d2] => { results := [.lit (.bool false)], args := [d1, d2] }
  | _ => none }
def WalCommitsWrongFalsely : Prop := walCommitsRow.holds Try.pinned (OpenSpec.ofChange walCommitsWrong)

/-- 'lagoonlaw6.WalWhole': WHATEVER THE INPUT: true; the input reads as it did. -/
def walWholeSpec : ChangeSpec := { name := "walWhole", fn := fun _ => fun
  | [d1, d2, d3] => { results := [.lit (.bool true)], args := [d1, d2, d3] }
  | _ => none }
def walWholeRow : OpenClaim := { program := "ytnhamanffojhfaa", sum := "14f9f204a2c419fc26a9eae7167931a05463d650c97892e98fd4c3ad6e4f9b71", func := "lagoon/lagoonlaw6.WalWhole", spec := "walWhole", unfollowed := true, recurses := true, plainKeys := false, apart := false }
def WalWholeSaid : Prop := walWholeRow.holds Try.pinned (OpenSpec.ofChange walWholeSpec)

/-- ITS FALSE NEIGHBOUR: 'it returns false'. Refute it at one input. -/
def walWholeWrong : ChangeSpec := { name := "walWhole", fn := fun _ => fun
  | [d1, d2, d3] => { results := [.lit (.bool false)], args := [d1, d2, d3] }
  | _ => none }
def WalWholeWrongFalsely : Prop := walWholeRow.holds Try.pinned (OpenSpec.ofChange walWholeWrong)

/- THE SECOND FORM. 'bulk': how many values and letters a reading holds, each counted each time it is reached (what is shared counts as often as it is met; a slice's spare places count too). A statement '..UptoSaid' is the law's where the arguments, and the package variables that the reading takes, are together of bulk at most 1048576: NARROWER than '..Said'. Prove '..Said' where nothing that the law and all that it calls make is longer than what came in: it says more and counts as full. Else prove '..UptoSaid'. A law counts once. -/
mutual
def uptoBulk {H : Type} : DataW H → Nat
  | .lit (.string bytes) => bytes.length + 1
  | .lit _ => 1
  | .nil => 1
  | .ptr d => uptoBulk d + 1
  | .slice elems spare => uptoBulkAll elems + uptoBulkAll spare + 1
  | .agg parts => uptoBulkAll parts + 1
  | .iface _ d => uptoBulk d + 1
  | .map entries => uptoBulkEntries entries + 1
  | .held _ => 1
def uptoBulkAll {H : Type} : List (DataW H) → Nat
  | [] => 0
  | d :: r => uptoBulk d + uptoBulkAll r
def uptoBulkEntries {H : Type} : List (Lit × DataW H) → Nat
  | [] => 0
  | x :: r => uptoBulkEntry x + uptoBulkEntries r
def uptoBulkEntry {H : Type} : Lit × DataW H → Nat
  | (.string bytes, d) => bytes.length + uptoBulk d + 1
  | (_, d) => uptoBulk d + 1
 end
def uptoSmall : (H : Type) → List (DataW H) → Bool := fun _ ds => decide (uptoBulkAll ds ≤ 1048576)
def OpenSpec.upto (s : _root_.Go.ChangeSpec) : _root_.Go.OpenSpec := { _root_.Go.OpenSpec.ofChange s with cond := some uptoSmall }

/-- 'lagoonlaw17.ContentAll', WHERE WHAT IT READS IS OF BULK AT MOST 1048576: true; the input reads as it did. -/
def contentAllUptoRow : OpenClaim := { program := "ytnhamanffojhfaa", sum := "14f9f204a2c419fc26a9eae7167931a05463d650c97892e98fd4c3ad6e4f9b71", func := "lagoon/lagoonlaw17.ContentAll", spec := "contentAll", inPlace := ["internal/bytealg.IndexByteString", "internal/bytealg.IndexString", "slices.overlaps[lagoon/api.Version]"], unfollowed := true, recurses := true, named := ["internal/bytealg.MaxLen"], plainKeys := false, apart := false, narrowed := true }
def ContentAllUptoSaid : Prop := contentAllUptoRow.holds Try.pinned (OpenSpec.upto contentAllSpec)

/-- 'lagoonlaw17.ContentOrders', WHERE WHAT IT READS IS OF BULK AT MOST 1048576: true; the input reads as it did. -/
def contentOrdersUptoRow : OpenClaim := { program := "ytnhamanffojhfaa", sum := "14f9f204a2c419fc26a9eae7167931a05463d650c97892e98fd4c3ad6e4f9b71", func := "lagoon/lagoonlaw17.ContentOrders", spec := "contentOrders", inPlace := ["internal/bytealg.IndexByteString", "internal/bytealg.IndexString", "slices.overlaps[lagoon/api.Version]"], unfollowed := true, recurses := true, named := ["internal/bytealg.MaxLen"], plainKeys := false, apart := false, narrowed := true }
def ContentOrdersUptoSaid : Prop := contentOrdersUptoRow.holds Try.pinned (OpenSpec.upto contentOrdersSpec)

/-- 'lagoonlaw17.ContentMerge', WHERE WHAT IT READS IS OF BULK AT MOST 1048576: true; the input reads as it did. -/
def contentMergeUptoRow : OpenClaim := { program := "ytnhamanffojhfaa", sum := "14f9f204a2c419fc26a9eae7167931a05463d650c97892e98fd4c3ad6e4f9b71", func := "lagoon/lagoonlaw17.ContentMerge", spec := "contentMerge", inPlace := ["internal/bytealg.IndexByteString", "internal/bytealg.IndexString", "slices.overlaps[lagoon/api.Version]"], unfollowed := true, recurses := true, named := ["internal/bytealg.MaxLen"], plainKeys := false, apart := false, narrowed := true }
def ContentMergeUptoSaid : Prop := contentMergeUptoRow.holds Try.pinned (OpenSpec.upto contentMergeSpec)

/-- 'lagoonlaw15.TreeAll', WHERE WHAT IT READS IS OF BULK AT MOST 1048576: true; the input reads as it did. -/
def treeAllUptoRow : OpenClaim := { program := "ytnhamanffojhfaa", sum := "14f9f204a2c419fc26a9eae7167931a05463d650c97892e98fd4c3ad6e4f9b71", func := "lagoon/lagoonlaw15.TreeAll", spec := "treeAll", inPlace := ["internal/bytealg.IndexByteString", "internal/bytealg.IndexString", "slices.overlaps[lagoon/movetree.done]"], unfollowed := true, recurses := true, named := ["internal/bytealg.MaxLen"], plainKeys := false, apart := false, narrowed := true }
def TreeAllUptoSaid : Prop := treeAllUptoRow.holds Try.pinned (OpenSpec.upto treeAllSpec)

/-- 'lagoonlaw15.TreeOrders', WHERE WHAT IT READS IS OF BULK AT MOST 1048576: true; the input reads as it did. -/
def treeOrdersUptoRow : OpenClaim := { program := "ytnhamanffojhfaa", sum := "14f9f204a2c419fc26a9eae7167931a05463d650c97892e98fd4c3ad6e4f9b71", func := "lagoon/lagoonlaw15.TreeOrders", spec := "treeOrders", inPlace := ["internal/bytealg.IndexByteString", "internal/bytealg.IndexString", "slices.overlaps[lagoon/movetree.done]"], unfollowed := true, recurses := true, named := ["internal/bytealg.MaxLen"], plainKeys := false, apart := false, narrowed := true }
def TreeOrdersUptoSaid : Prop := treeOrdersUptoRow.holds Try.pinned (OpenSpec.upto treeOrdersSpec)

/-- 'lagoonlaw15.TreeSound', WHERE WHAT IT READS IS OF BULK AT MOST 1048576: true; the input reads as it did. -/
def treeSoundUptoRow : OpenClaim := { program := "ytnhamanffojhfaa", sum := "14f9f204a2c419fc26a9eae7167931a05463d650c97892e98fd4c3ad6e4f9b71", func := "lagoon/lagoonlaw15.TreeSound", spec := "treeSound", inPlace := ["internal/bytealg.IndexByteString", "internal/bytealg.IndexString", "slices.overlaps[lagoon/movetree.done]"], unfollowed := true, recurses := true, named := ["internal/bytealg.MaxLen"], plainKeys := false, apart := false, narrowed := true }
def TreeSoundUptoSaid : Prop := treeSoundUptoRow.holds Try.pinned (OpenSpec.upto treeSoundSpec)

/-- 'lagoonlaw6.WalCommits', WHERE WHAT IT READS IS OF BULK AT MOST 1048576: true; the input reads as it did. -/
def walCommitsUptoRow : OpenClaim := { program := "ytnhamanffojhfaa", sum := "14f9f204a2c419fc26a9eae7167931a05463d650c97892e98fd4c3ad6e4f9b71", func := "lagoon/lagoonlaw6.WalCommits", spec := "walCommits", unfollowed := true, recurses := true, plainKeys := false, apart := false, narrowed := true }
def WalCommitsUptoSaid : Prop := walCommitsUptoRow.holds Try.pinned (OpenSpec.upto walCommitsSpec)

/-- 'lagoonlaw6.WalWhole', WHERE WHAT IT READS IS OF BULK AT MOST 1048576: true; the input reads as it did. -/
def walWholeUptoRow : OpenClaim := { program := "ytnhamanffojhfaa", sum := "14f9f204a2c419fc26a9eae7167931a05463d650c97892e98fd4c3ad6e4f9b71", func := "lagoon/lagoonlaw6.WalWhole", spec := "walWhole", unfollowed := true, recurses := true, plainKeys := false, apart := false, narrowed := true }
def WalWholeUptoSaid : Prop := walWholeUptoRow.holds Try.pinned (OpenSpec.upto walWholeSpec)

end Rows
end Go.Proofs.Ytnhamanffojhfaa
