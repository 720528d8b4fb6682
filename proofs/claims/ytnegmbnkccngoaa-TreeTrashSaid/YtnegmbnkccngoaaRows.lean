/-
  No cell of these rows narrows 'for every input' (looked for: loops, veiled, ifaces, maps, wideKeys, modest, calm, conditions, laid).
  DERIVED. THE GIVEN ROWS OF THIS SEAT. 2 by the template 'for every input the law returns true; each argument reads behind the call as it read before'; 0 by the template 'total and deterministic' (their statements: YtnegmbnkccngoaaTotals.lean).
  GIVEN WITH THE SEED: the statements are not yours to turn. If you find one false, say at which input.
  Laid BY PROGRAM, IN A SANDBOX (cutbox-rows.mjs): the forced cells as the released guide's own fill.sh prints them over the translation 8e3c4443584d0613… (all of the seat's roots in one cut). By AI agents, Wed Nov 11 2026. No macro, syntax, notation, axiom, sorry.
-/
import Derived.Test.YtnegmbnkccngoaaChecked
import GoSem.Claim
import GoSem.ClaimJoined
import GoSem.ClaimMapViews
import Derived.JoinedTies
import Derived.KernelRfl
namespace Go.Proofs.Ytnegmbnkccngoaa
/- THE CELL 'sum', in the pinned program and in every row, IS THE sha256 OF THE DUMP (.gsa) THAT YtnegmbnkccngoaaProg.lean LOADS. Nothing in Lean hashes anything: it is a label: what it is worth is what the hold of that sum in a sandbox is worth. -/
noncomputable def Try.pinned : Pinned := { name := "ytnegmbnkccngoaa", sum := "8e3c4443584d0613985cb2feb244581d4d7ade617482e2540bb8473a87aaf6d9", checked := Try.checked }
namespace Rows
def none {H : Type} : Left H := { results := [], args := [] }

/-- 'lagoonlaw7.CacheScan': WHATEVER THE INPUT: true; the input reads as it did. -/
def cacheScanSpec : ChangeSpec := { name := "cacheScan", fn := fun _ => fun
  | [d1, d2, d3] => { results := [.lit (.bool true)], args := [d1, d2, d3] }
  | _ => none }
def cacheScanRow : OpenClaim := { program := "ytnegmbnkccngoaa", sum := "8e3c4443584d0613985cb2feb244581d4d7ade617482e2540bb8473a87aaf6d9", func := "lagoon/lagoonlaw7.CacheScan", spec := "cacheScan", unfollowed := true, recurses := true, plainKeys := false, apart := false }
def CacheScanSaid : Prop := cacheScanRow.holds Try.pinned (OpenSpec.ofChange cacheScanSpec)

/-- ITS FALSE NEIGHBOUR: 'it returns false'. Refute it at one input. -/
def cacheScanWrong : ChangeSpec := { name := "cacheScan", fn := fun _ => fun
  | [d1, d2, d3] => { results := [.lit (.bool false)], args := [d1, d2, d3] }
  | _ => none }
def CacheScanWrongFalsely : Prop := cacheScanRow.holds Try.pinned (OpenSpec.ofChange cacheScanWrong)

/-- 'lagoonlaw15.TreeTrash': WHATEVER THE INPUT: true; the input reads as it did. -/
def treeTrashSpec : ChangeSpec := { name := "treeTrash", fn := fun _ => fun
  | [d1, d2] => { results := [.lit (.bool true)], args := [d1, d2] }
  | _ => none }
def treeTrashRow : OpenClaim := { program := "ytnegmbnkccngoaa", sum := "8e3c4443584d0613985cb2feb244581d4d7ade617482e2540bb8473a87aaf6d9", func := "lagoon/lagoonlaw15.TreeTrash", spec := "treeTrash", inPlace := ["internal/bytealg.IndexByteString", "internal/bytealg.IndexString", "slices.overlaps[lagoon/movetree.done]"], unfollowed := true, recurses := true, named := ["internal/bytealg.MaxLen"], plainKeys := false, apart := false }
def TreeTrashSaid : Prop := treeTrashRow.holds Try.pinned (OpenSpec.ofChange treeTrashSpec)

/-- ITS FALSE NEIGHBOUR: 'it returns false'. Refute it at one input. -/
def treeTrashWrong : ChangeSpec := { name := "treeTrash", fn := fun _ => fun
  | [d1, d2] => { results := [.lit (.bool false)], args := [d1, d2] }
  | _ => none }
def TreeTrashWrongFalsely : Prop := treeTrashRow.holds Try.pinned (OpenSpec.ofChange treeTrashWrong)

/- THE SECOND FORM. 'bulk': how many values and letters a reading holds, each counted each time it is reached (what is shared counts as often as it is met; a slice's spare places count too). A statement '..UptoSaid' is the law's where the arguments, and the package variables that the reading takes, are together of bulk at most 1048576: NARROWER than '..Said'. Prove '..Said' where nothing that the law and all that it calls make is longer than what came in: it says more and counts as full. Else prove '..UptoSaid'. A law counts once. -/
mutual
def uptoBulk {H : Type} : DataW H → Nat
  | .lit (.string bytes) => bytes.length + 1
  | .lit _ => 1
  | .nil => 1
  | .ptr d => uptoBulk d + 1
  | .slice elems spare => uptoBulkAll elems + uptoBulkAll spare + 1
  | .agg parts => uptoBulkAll parts + 1
  | .iface _ d => uptoBulk d + 1
  | .map entries => uptoBulkEntries entries + 1
  | .held _ => 1
def uptoBulkAll {H : Type} : List (DataW H) → Nat
  | [] => 0
  | d :: r => uptoBulk d + uptoBulkAll r
def uptoBulkEntries {H : Type} : List (Lit × DataW H) → Nat
  | [] => 0
  | x :: r => uptoBulkEntry x + uptoBulkEntries r
def uptoBulkEntry {H : Type} : Lit × DataW H → Nat
  | (.string bytes, d) => bytes.length + uptoBulk d + 1
  | (_, d) => uptoBulk d + 1
 end
def uptoSmall : (H : Type) → List (DataW H) → Bool := fun _ ds => decide (uptoBulkAll ds ≤ 1048576)
def OpenSpec.upto (s : _root_.Go.ChangeSpec) : _root_.Go.OpenSpec := { _root_.Go.OpenSpec.ofChange s with cond := some uptoSmall }

/-- 'lagoonlaw7.CacheScan', WHERE WHAT IT READS IS OF BULK AT MOST 1048576: true; the input reads as it did. -/
def cacheScanUptoRow : OpenClaim := { program := "ytnegmbnkccngoaa", sum := "8e3c4443584d0613985cb2feb244581d4d7ade617482e2540bb8473a87aaf6d9", func := "lagoon/lagoonlaw7.CacheScan", spec := "cacheScan", unfollowed := true, recurses := true, plainKeys := false, apart := false, narrowed := true }
def CacheScanUptoSaid : Prop := cacheScanUptoRow.holds Try.pinned (OpenSpec.upto cacheScanSpec)

/-- 'lagoonlaw15.TreeTrash', WHERE WHAT IT READS IS OF BULK AT MOST 1048576: true; the input reads as it did. -/
def treeTrashUptoRow : OpenClaim := { program := "ytnegmbnkccngoaa", sum := "8e3c4443584d0613985cb2feb244581d4d7ade617482e2540bb8473a87aaf6d9", func := "lagoon/lagoonlaw15.TreeTrash", spec := "treeTrash", inPlace := ["internal/bytealg.IndexByteString", "internal/bytealg.IndexString", "slices.overlaps[lagoon/movetree.done]"], unfollowed := true, recurses := true, named := ["internal/bytealg.MaxLen"], plainKeys := false, apart := false, narrowed := true }
def TreeTrashUptoSaid : Prop := treeTrashUptoRow.holds Try.pinned (OpenSpec.upto treeTrashSpec)

end Rows
end Go.Proofs.Ytnegmbnkccngoaa
