/-
  No cell of these rows narrows 'for every input' (looked for: loops, veiled, ifaces, maps, wideKeys, modest, calm, conditions, laid).
  DERIVED. THE GIVEN ROWS OF THIS SEAT. 10 by the template 'for every input the law returns true; each argument reads behind the call as it read before'; 0 by the template 'total and deterministic' (their statements: YtplcaelchkpndaaTotals.lean).
  GIVEN WITH THE SEED: the statements are not yours to turn. If you find one false, say at which input.
  Laid BY PROGRAM, IN A SANDBOX (cutbox-rows.mjs): the forced cells as the released guide's own fill.sh prints them over the translation 883d860f00e0738e… (all of the seat's roots in one cut). By AI agents, Wed Nov 11 2026. No macro, syntax, notation, axiom, sorry.
-/
import Derived.Test.YtplcaelchkpndaaChecked
import GoSem.Claim
import GoSem.ClaimJoined
import GoSem.ClaimMapViews
import Derived.JoinedTies
import Derived.KernelRfl
namespace Go.Proofs.Ytplcaelchkpndaa
/- THE CELL 'sum', in the pinned program and in every row, IS THE sha256 OF THE DUMP (.gsa) THAT YtplcaelchkpndaaProg.lean LOADS. Nothing in Lean hashes anything: it is a label: what it is worth is what the hold of that sum in a sandbox is worth. -/
noncomputable def Try.pinned : Pinned := { name := "ytplcaelchkpndaa", sum := "883d860f00e0738ecc87855d4f73b0afd92c5950dff051ac1b3aa7961ccd3e24", checked := Try.checked }
namespace Rows
def none {H : Type} : Left H := { results := [], args := [] }

/-- 'lagoonlaw17.ContentAll': WHATEVER THE INPUT: true; the input reads as it did. -/
def contentAllSpec : ChangeSpec := { name := "contentAll", fn := fun _ => fun
  | [d] => { results := [.lit (.bool true)], args := [d] }
  | _ => none }
def contentAllRow : OpenClaim := { program := "ytplcaelchkpndaa", sum := "883d860f00e0738ecc87855d4f73b0afd92c5950dff051ac1b3aa7961ccd3e24", func := "lagoon/lagoonlaw17.ContentAll", spec := "contentAll", inPlace := ["internal/bytealg.IndexByteString", "internal/bytealg.IndexString", "slices.overlaps[lagoon/api.Version]"], unfollowed := true, recurses := true, named := ["internal/bytealg.MaxLen"], plainKeys := false, apart := false }
def ContentAllSaid : Prop := contentAllRow.holds Try.pinned (OpenSpec.ofChange contentAllSpec)

/-- ITS FALSE NEIGHBOUR: 'it returns false'. Refute it at one input. -/
def contentAllWrong : ChangeSpec := { name := "contentAll", fn := fun _ => fun
  | [d] => { results := [.lit (.bool false)], args := [d] }
  | _ => none }
def ContentAllWrongFalsely : Prop := contentAllRow.holds Try.pinned (OpenSpec.ofChange contentAllWrong)

/-- 'lagoonlaw17.ContentOrders': WHATEVER THE INPUT: true; the input reads as it did. -/
def contentOrdersSpec : ChangeSpec := { name := "contentOrders", fn := fun _ => fun
  | [d] => { results := [.lit (.bool true)], args := [d] }
  | _ => none }
def contentOrdersRow : OpenClaim := { program := "ytplcaelchkpndaa", sum := "883d860f00e0738ecc87855d4f73b0afd92c5950dff051ac1b3aa7961ccd3e24", func := "lagoon/lagoonlaw17.ContentOrders", spec := "contentOrders", inPlace := ["internal/bytealg.IndexByteString", "internal/bytealg.IndexString", "slices.overlaps[lagoon/api.Version]"], unfollowed := true, recurses := true, named := ["internal/bytealg.MaxLen"], plainKeys := false, apart := false }
def ContentOrdersSaid : Prop := contentOrdersRow.holds Try.pinned (OpenSpec.ofChange contentOrdersSpec)

/-- ITS FALSE NEIGHBOUR: 'it returns false'. Refute it at one input. -/
def contentOrdersWrong : ChangeSpec := { name := "contentOrders", fn := fun _ => fun
  | [d] => { results := [.lit (.bool false)], args := [d] }
  | _ => none }
def ContentOrdersWrongFalsely : Prop := contentOrdersRow.holds Try.pinned (OpenSpec.ofChange contentOrdersWrong)

/-- 'lagoonlaw17.ContentNone': WHATEVER THE INPUT: true; the input reads as it did. -/
def contentNoneSpec : ChangeSpec := { name := "contentNone", fn := fun _ => fun
  | [] => { results := [.lit (.bool true)], args := [] }
  | _ => none }
def contentNoneRow : OpenClaim := { program := "ytplcaelchkpndaa", sum := "883d860f00e0738ecc87855d4f73b0afd92c5950dff051ac1b3aa7961ccd3e24", func := "lagoon/lagoonlaw17.ContentNone", spec := "contentNone", inPlace := ["internal/bytealg.IndexByteString", "internal/bytealg.IndexString", "slices.overlaps[lagoon/api.Version]"], unfollowed := true, recurses := true, named := ["internal/bytealg.MaxLen"], plainKeys := false, apart := false }
def ContentNoneSaid : Prop := contentNoneRow.holds Try.pinned (OpenSpec.ofChange contentNoneSpec)

/-- ITS FALSE NEIGHBOUR: 'it returns false'. Refute it at one input. -/
def contentNoneWrong : ChangeSpec := { name := "contentNone", fn := fun _ => fun
  | [] => { results := [.lit (.bool false)], args := [] }
  | _ => none }
def ContentNoneWrongFalsely : Prop := contentNoneRow.holds Try.pinned (OpenSpec.ofChange contentNoneWrong)

/-- 'lagoonlaw17.ContentMerge': WHATEVER THE INPUT: true; the input reads as it did. -/
def contentMergeSpec : ChangeSpec := { name := "contentMerge", fn := fun _ => fun
  | [d1, d2, d3] => { results := [.lit (.bool true)], args := [d1, d2, d3] }
  | _ => none }
def contentMergeRow : OpenClaim := { program := "ytplcaelchkpndaa", sum := "883d860f00e0738ecc87855d4f73b0afd92c5950dff051ac1b3aa7961ccd3e24", func := "lagoon/lagoonlaw17.ContentMerge", spec := "contentMerge", inPlace := ["internal/bytealg.IndexByteString", "internal/bytealg.IndexString", "slices.overlaps[lagoon/api.Version]"], unfollowed := true, recurses := true, named := ["internal/bytealg.MaxLen"], plainKeys := false, apart := false }
def ContentMergeSaid : Prop := contentMergeRow.holds Try.pinned (OpenSpec.ofChange contentMergeSpec)

/-- ITS FALSE NEIGHBOUR: 'it returns false'. Refute it at one input. -/
def contentMergeWrong : ChangeSpec := { name := "contentMerge", fn := fun _ => fun
  | [d1, d2, d3] => { results := [.lit (.bool false)], args := [d1, d2, d3] }
  | _ => none }
def ContentMergeWrongFalsely : Prop := contentMergeRow.holds Try.pinned (OpenSpec.ofChange contentMergeWrong)

/-- 'lagoonlaw7.CacheScan': WHATEVER THE INPUT: true; the input reads as it did. -/
def cacheScanSpec : ChangeSpec := { name := "cacheScan", fn := fun _ => fun
  | [d1, d2, d3] => { results := [.lit (.bool true)], args := [d1, d2, d3] }
  | _ => none }
def cacheScanRow : OpenClaim := { program := "ytplcaelchkpndaa", sum := "883d860f00e0738ecc87855d4f73b0afd92c5950dff051ac1b3aa7961ccd3e24", func := "lagoon/lagoonlaw7.CacheScan", spec := "cacheScan", unfollowed := true, recurses := true, plainKeys := false, apart := false }
def CacheScanSaid : Prop := cacheScanRow.holds Try.pinned (OpenSpec.ofChange cacheScanSpec)

/-- ITS FALSE NEIGHBOUR: 'it returns false'. Refute it at one input. -/
def cacheScanWrong : ChangeSpec := { name := "cacheScan", fn := fun _ => fun
  | [d1, d2, d3] => { results := [.lit (.bool false)], args := [d1, d2, d3] }
  | _ => none }
def CacheScanWrongFalsely : Prop := cacheScanRow.holds Try.pinned (OpenSpec.ofChange cacheScanWrong)

/-- 'lagoonlaw7.CacheNone': WHATEVER THE INPUT: true; the input reads as it did. -/
def cacheNoneSpec : ChangeSpec := { name := "cacheNone", fn := fun _ => fun
  | [] => { results := [.lit (.bool true)], args := [] }
  | _ => none }
def cacheNoneRow : OpenClaim := { program := "ytplcaelchkpndaa", sum := "883d860f00e0738ecc87855d4f73b0afd92c5950dff051ac1b3aa7961ccd3e24", func := "lagoon/lagoonlaw7.CacheNone", spec := "cacheNone", unfollowed := true, recurses := true, plainKeys := false, apart := false }
def CacheNoneSaid : Prop := cacheNoneRow.holds Try.pinned (OpenSpec.ofChange cacheNoneSpec)

/-- ITS FALSE NEIGHBOUR: 'it returns false'. Refute it at one input. -/
def cacheNoneWrong : ChangeSpec := { name := "cacheNone", fn := fun _ => fun
  | [] => { results := [.lit (.bool false)], args := [] }
  | _ => none }
def CacheNoneWrongFalsely : Prop := cacheNoneRow.holds Try.pinned (OpenSpec.ofChange cacheNoneWrong)

/-- 'lagoonlaw15.TreeNone': WHATEVER THE INPUT: true; the input reads as it did. -/
def treeNoneSpec : ChangeSpec := { name := "treeNone", fn := fun _ => fun
  | [] => { results := [.lit (.bool true)], args := [] }
  | _ => none }
def treeNoneRow : OpenClaim := { program := "ytplcaelchkpndaa", sum := "883d860f00e0738ecc87855d4f73b0afd92c5950dff051ac1b3aa7961ccd3e24", func := "lagoon/lagoonlaw15.TreeNone", spec := "treeNone", inPlace := ["internal/bytealg.IndexByteString", "internal/bytealg.IndexString", "slices.overlaps[lagoon/movetree.done]"], unfollowed := true, recurses := true, named := ["internal/bytealg.MaxLen"], plainKeys := false, apart := false }
def TreeNoneSaid : Prop := treeNoneRow.holds Try.pinned (OpenSpec.ofChange treeNoneSpec)

/-- ITS FALSE NEIGHBOUR: 'it returns false'. Refute it at one input. -/
def treeNoneWrong : ChangeSpec := { name := "treeNone", fn := fun _ => fun
  | [] => { results := [.lit (.bool false)], args := [] }
  | _ => none }
def TreeNoneWrongFalsely : Prop := treeNoneRow.holds Try.pinned (OpenSpec.ofChange treeNoneWrong)

/-- 'lagoonlaw15.TreeCross': WHATEVER THE INPUT: true; the input reads as it did. -/
def treeCrossSpec : ChangeSpec := { name := "treeCross", fn := fun _ => fun
  | [d1, d2, d3, d4, d5] => { results := [.lit (.bool true)], args := [d1, d2, d3, d4, d5] }
  | _ => none }
def treeCrossRow : OpenClaim := { program := "ytplcaelchkpndaa", sum := "883d860f00e0738ecc87855d4f73b0afd92c5950dff051ac1b3aa7961ccd3e24", func := "lagoon/lagoonlaw15.TreeCross", spec := "treeCross", inPlace := ["internal/bytealg.IndexByteString", "internal/bytealg.IndexString", "slices.overlaps[lagoon/movetree.done]"], unfollowed := true, recurses := true, named := ["internal/bytealg.MaxLen"], plainKeys := false, apart := false }
def TreeCrossSaid : Prop := treeCrossRow.holds Try.pinned (OpenSpec.ofChange treeCrossSpec)

/-- ITS FALSE NEIGHBOUR: 'it returns false'. Refute it at one input. -/
def treeCrossWrong : ChangeSpec := { name := "treeCross", fn := fun _ => fun
  | [d1, d2, d3, d4, d5] => { results := [.lit (.bool false)], args := [d1, d2, d3, d4, d5] }
  | _ => none }
def TreeCrossWrongFalsely : Prop := treeCrossRow.holds Try.pinned (OpenSpec.ofChange treeCrossWrong)

/-- 'lagoonlaw15.TreeTrash': WHATEVER THE INPUT: true; the input reads as it did. -/
def treeTrashSpec : ChangeSpec := { name := "treeTrash", fn := fun _ => fun
  | [d1, d2] => { results := [.lit (.bool true)], args := [d1, d2] }
  | _ => none }
def treeTrashRow : OpenClaim := { program := "ytplcaelchkpndaa", sum := "883d860f00e0738ecc87855d4f73b0afd92c5950dff051ac1b3aa7961ccd3e24", func := "lagoon/lagoonlaw15.TreeTrash", spec := "treeTrash", inPlace := ["internal/bytealg.IndexByteString", "internal/bytealg.IndexString", "slices.overlaps[lagoon/movetree.done]"], unfollowed := true, recurses := true, named := ["internal/bytealg.MaxLen"], plainKeys := false, apart := false }
def TreeTrashSaid : Prop := treeTrashRow.holds Try.pinned (OpenSpec.ofChange treeTrashSpec)

/-- ITS FALSE NEIGHBOUR: 'it returns false'. Refute it at one input. -/
def treeTrashWrong : ChangeSpec := { name := "treeTrash", fn := fun _ => fun
  | [d1, d2] => { results := [.lit (.bool false)], args := [d1, d2] }
  | _ => none }
def TreeTrashWrongFalsely : Prop := treeTrashRow.holds Try.pinned (OpenSpec.ofChange treeTrashWrong)

/-- 'lagoonlaw11.FsNone': WHATEVER THE INPUT: true; the input reads as it did. -/
def fsNoneSpec : ChangeSpec := { name := "fsNone", fn := fun _ => fun
  | [] => { results := [.lit (.bool true)], args := [] }
  | _ => none }
def fsNoneRow : OpenClaim := { program := "ytplcaelchkpndaa", sum := "883d860f00e0738ecc87855d4f73b0afd92c5950dff051ac1b3aa7961ccd3e24", func := "lagoon/lagoonlaw11.FsNone", spec := "fsNone", inPlace := ["internal/bytealg.IndexByteString", "internal/bytealg.IndexString", "slices.overlaps[string]", "slices.overlaps[*lagoon/localfs.object]"], unfollowed := true, recurses := true, named := ["internal/bytealg.MaxLen"], plainKeys := false, apart := false }
def FsNoneSaid : Prop := fsNoneRow.holds Try.pinned (OpenSpec.ofChange fsNoneSpec)

/-- ITS FALSE NEIGHBOUR: 'it returns false'. Refute it at one input. -/
def fsNoneWrong : ChangeSpec := { name := "fsNone", fn := fun _ => fun
  | [] => { results := [.lit (.bool false)], args := [] }
  | _ => none }
def FsNoneWrongFalsely : Prop := fsNoneRow.holds Try.pinned (OpenSpec.ofChange fsNoneWrong)

/- THE SECOND FORM. 'bulk': how many values and letters a reading holds, each counted each time it is reached (what is shared counts as often as it is met; a slice's spare places count too). A statement '..UptoSaid' is the law's where the arguments, and the package variables that the reading takes, are together of bulk at most 1048576: NARROWER than '..Said'. Prove '..Said' where nothing that the law and all that it calls make is longer than what came in: it says more and counts as full. Else prove '..UptoSaid'. A law counts once. -/
mutual
def uptoBulk {H : Type} : DataW H → Nat
  | .lit (.string bytes) => bytes.length + 1
  | .lit _ => 1
  | .nil => 1
  | .ptr d => uptoBulk d + 1
  | .slice elems spare => uptoBulkAll elems + uptoBulkAll spare + 1
  | .agg parts => uptoBulkAll parts + 1
  | .iface _ d => uptoBulk d + 1
  | .map entries => uptoBulkEntries entries + 1
  | .held _ => 1
def uptoBulkAll {H : Type} : List (DataW H) → Nat
  | [] => 0
  | d :: r => uptoBulk d + uptoBulkAll r
def uptoBulkEntries {H : Type} : List (Lit × DataW H) → Nat
  | [] => 0
  | x :: r => uptoBulkEntry x + uptoBulkEntries r
def uptoBulkEntry {H : Type} : Lit × DataW H → Nat
  | (.string bytes, d) => bytes.length + uptoBulk d + 1
  | (_, d) => uptoBulk d + 1
 end
def uptoSmall : (H : Type) → List (DataW H) → Bool := fun _ ds => decide (uptoBulkAll ds ≤ 1048576)
def OpenSpec.upto (s : _root_.Go.ChangeSpec) : _root_.Go.OpenSpec := { _root_.Go.OpenSpec.ofChange s with cond := some uptoSmall }

/-- 'lagoonlaw17.ContentAll', WHERE WHAT IT READS IS OF BULK AT MOST 1048576: true; the input reads as it did. -/
def contentAllUptoRow : OpenClaim := { program := "ytplcaelchkpndaa", sum := "883d860f00e0738ecc87855d4f73b0afd92c5950dff051ac1b3aa7961ccd3e24", func := "lagoon/lagoonlaw17.ContentAll", spec := "contentAll", inPlace := ["internal/bytealg.IndexByteString", "internal/bytealg.IndexString", "slices.overlaps[lagoon/api.Version]"], unfollowed := true, recurses := true, named := ["internal/bytealg.MaxLen"], plainKeys := false, apart := false, narrowed := true }
def ContentAllUptoSaid : Prop := contentAllUptoRow.holds Try.pinned (OpenSpec.upto contentAllSpec)

/-- 'lagoonlaw17.ContentOrders', WHERE WHAT IT READS IS OF BULK AT MOST 1048576: true; the input reads as it did. -/
def contentOrdersUptoRow : OpenClaim := { program := "ytplcaelchkpndaa", sum := "883d860f00e0738ecc87855d4f73b0afd92c5950dff051ac1b3aa7961ccd3e24", func := "lagoon/lagoonlaw17.ContentOrders", spec := "contentOrders", inPlace := ["internal/bytealg.IndexByteString", "internal/bytealg.IndexString", "slices.overlaps[lagoon/api.Version]"], unfollowed := true, recurses := true, named := ["internal/bytealg.MaxLen"], plainKeys := false, apart := false, narrowed := true }
def ContentOrdersUptoSaid : Prop := contentOrdersUptoRow.holds Try.pinned (OpenSpec.upto contentOrdersSpec)

/-- 'lagoonlaw17.ContentNone', WHERE WHAT IT READS IS OF BULK AT MOST 1048576: true; the input reads as it did. -/
def contentNoneUptoRow : OpenClaim := { program := "ytplcaelchkpndaa", sum := "883d860f00e0738ecc87855d4f73b0afd92c5950dff051ac1b3aa7961ccd3e24", func := "lagoon/lagoonlaw17.ContentNone", spec := "contentNone", inPlace := ["internal/bytealg.IndexByteString", "internal/bytealg.IndexString", "slices.overlaps[lagoon/api.Version]"], unfollowed := true, recurses := true, named := ["internal/bytealg.MaxLen"], plainKeys := false, apart := false, narrowed := true }
def ContentNoneUptoSaid : Prop := contentNoneUptoRow.holds Try.pinned (OpenSpec.upto contentNoneSpec)

/-- 'lagoonlaw17.ContentMerge', WHERE WHAT IT READS IS OF BULK AT MOST 1048576: true; the input reads as it did. -/
def contentMergeUptoRow : OpenClaim := { program := "ytplcaelchkpndaa", sum := "883d860f00e0738ecc87855d4f73b0afd92c5950dff051ac1b3aa7961ccd3e24", func := "lagoon/lagoonlaw17.ContentMerge", spec := "contentMerge", inPlace := ["internal/bytealg.IndexByteString", "internal/bytealg.IndexString", "slices.overlaps[lagoon/api.Version]"], unfollowed := true, recurses := true, named := ["internal/bytealg.MaxLen"], plainKeys := false, apart := false, narrowed := true }
def ContentMergeUptoSaid : Prop := contentMergeUptoRow.holds Try.pinned (OpenSpec.upto contentMergeSpec)

/-- 'lagoonlaw7.CacheScan', WHERE WHAT IT READS IS OF BULK AT MOST 1048576: true; the input reads as it did. -/
def cacheScanUptoRow : OpenClaim := { program := "ytplcaelchkpndaa", sum := "883d860f00e0738ecc87855d4f73b0afd92c5950dff051ac1b3aa7961ccd3e24", func := "lagoon/lagoonlaw7.CacheScan", spec := "cacheScan", unfollowed := true, recurses := true, plainKeys := false, apart := false, narrowed := true }
def CacheScanUptoSaid : Prop := cacheScanUptoRow.holds Try.pinned (OpenSpec.upto cacheScanSpec)

/-- 'lagoonlaw7.CacheNone', WHERE WHAT IT READS IS OF BULK AT MOST 1048576: true; the input reads as it did. -/
def cacheNoneUptoRow : OpenClaim := { program := "ytplcaelchkpndaa", sum := "883d860f00e0738ecc87855d4f73b0afd92c5950dff051ac1b3aa7961ccd3e24", func := "lagoon/lagoonlaw7.CacheNone", spec := "cacheNone", unfollowed := true, recurses := true, plainKeys := false, apart := false, narrowed := true }
def CacheNoneUptoSaid : Prop := cacheNoneUptoRow.holds Try.pinned (OpenSpec.upto cacheNoneSpec)

/-- 'lagoonlaw15.TreeNone', WHERE WHAT IT READS IS OF BULK AT MOST 1048576: true; the input reads as it did. -/
def treeNoneUptoRow : OpenClaim := { program := "ytplcaelchkpndaa", sum := "883d860f00e0738ecc87855d4f73b0afd92c5950dff051ac1b3aa7961ccd3e24", func := "lagoon/lagoonlaw15.TreeNone", spec := "treeNone", inPlace := ["internal/bytealg.IndexByteString", "internal/bytealg.IndexString", "slices.overlaps[lagoon/movetree.done]"], unfollowed := true, recurses := true, named := ["internal/bytealg.MaxLen"], plainKeys := false, apart := false, narrowed := true }
def TreeNoneUptoSaid : Prop := treeNoneUptoRow.holds Try.pinned (OpenSpec.upto treeNoneSpec)

/-- 'lagoonlaw15.TreeCross', WHERE WHAT IT READS IS OF BULK AT MOST 1048576: true; the input reads as it did. -/
def treeCrossUptoRow : OpenClaim := { program := "ytplcaelchkpndaa", sum := "883d860f00e0738ecc87855d4f73b0afd92c5950dff051ac1b3aa7961ccd3e24", func := "lagoon/lagoonlaw15.TreeCross", spec := "treeCross", inPlace := ["internal/bytealg.IndexByteString", "internal/bytealg.IndexString", "slices.overlaps[lagoon/movetree.done]"], unfollowed := true, recurses := true, named := ["internal/bytealg.MaxLen"], plainKeys := false, apart := false, narrowed := true }
def TreeCrossUptoSaid : Prop := treeCrossUptoRow.holds Try.pinned (OpenSpec.upto treeCrossSpec)

/-- 'lagoonlaw15.TreeTrash', WHERE WHAT IT READS IS OF BULK AT MOST 1048576: true; the input reads as it did. -/
def treeTrashUptoRow : OpenClaim := { program := "ytplcaelchkpndaa", sum := "883d860f00e0738ecc87855d4f73b0afd92c5950dff051ac1b3aa7961ccd3e24", func := "lagoon/lagoonlaw15.TreeTrash", spec := "treeTrash", inPlace := ["internal/bytealg.IndexByteString", "internal/bytealg.IndexString", "slices.overlaps[lagoon/movetree.done]"], unfollowed := true, recurses := true, named := ["internal/bytealg.MaxLen"], plainKeys := false, apart := false, narrowed := true }
def TreeTrashUptoSaid : Prop := treeTrashUptoRow.holds Try.pinned (OpenSpec.upto treeTrashSpec)

/-- 'lagoonlaw11.FsNone', WHERE WHAT IT READS IS OF BULK AT MOST 1048576: true; the input reads as it did. -/
def fsNoneUptoRow : OpenClaim := { program := "ytplcaelchkpndaa", sum := "883d860f00e0738ecc87855d4f73b0afd92c5950dff051ac1b3aa7961ccd3e24", func := "lagoon/lagoonlaw11.FsNone", spec := "fsNone", inPlace := ["internal/bytealg.IndexByteString", "internal/bytealg.IndexString", "slices.overlaps[string]", "slices.overlaps[*lagoon/localfs.object]"], unfollowed := true, recurses := true, named := ["internal/bytealg.MaxLen"], plainKeys := false, apart := false, narrowed := true }
def FsNoneUptoSaid : Prop := fsNoneUptoRow.holds Try.pinned (OpenSpec.upto fsNoneSpec)

end Rows
end Go.Proofs.Ytplcaelchkpndaa
