/-
  The abstract machine's values, objects and heap, and what each stands for in the model's world.
-/
import Derived.Test.YteooebaecbanfaaGreatDoorAmBase
namespace Go.Am
set_option linter.unusedSimpArgs false
set_option linter.unusedVariables false
open Go Go.RowKit
noncomputable section

/-- What is known of some numbers: bounds; which is less, which are equal. -/
structure Fx where
  bnd : List (Nat × Int × Int)
  ord : List (Nat × Nat × Bool)
  deriving Inhabited

inductive AV where
  | bool (b : Bool)
  | int (k : IntKind) (n : Int)
  | str (n x : Nat)
  | ptr (o off : Nat)
  | nilptr
  | slice (o off len : Nat) (known : Bool) (cap : Nat)
  | nilslice
  | sliceE (o off off' c : Nat)
  | map (o : Nat)
  | nilmap
  | func (f : FuncId) (first captured : List AV)
  | nilfunc
  | iface (t : TypeId) (v : AV)
  | niliface
  | agg (cs : List AV)
  | tup (vs : List AV)
  | sym (k : IntKind) (F : Fx) (i : Nat)
  | gptr (g : Nat)
  deriving Inhabited

inductive AObj where
  | row (cs : List AV)
  | big (n : Nat) (t : T AV) (d : List AV)
  | byts (n x : Nat)
  | map (es : List (AV × AV × Nat)) (clock : Nat)
  | sit (n x pos : Nat)
  | mit (m : Option Nat) (since : Nat) (seen : List Nat) (stepped : Nat)

structure Ent where
  own : Bool
  esz : Nat
  obj : AObj

structure Hp where
  objs : T Ent
  next : Nat

abbrev Fr := T AV

/-! ### bytes in a number, the first one lowest -/
def byteAt (x j : Nat) : Nat := (x >>> (8 * j)) % 256
def bytesL (n x : Nat) : List UInt8 := (List.range n).map fun j => UInt8.ofNat (byteAt x j)
def strOf (n x : Nat) : ByteArray := ⟨(bytesL n x).toArray⟩
/-- The number of some bytes. -/
def packL : List UInt8 → Nat
  | [] => 0
  | b :: l => b.toNat + 256 * packL l

/-! ### a row's cells -/
def cellAt : AObj → Nat → Option AV
  | .row cs, j => getL cs j
  | .big n t d, j => match Nat.blt j n with
    | true => (match t.get (npos j) with | some v => some v | none => getL d (j % d.length))
    | false => none
  | .byts n x, j => match Nat.blt j n with
    | true => some (.int .u8 (Int.ofNat (byteAt x j)))
    | false => none
  | _, _ => none

def sizeOfObj : AObj → Nat
  | .row cs => cs.length
  | .big n _ _ => n
  | .byts n _ => n
  | _ => 0

/-- Some cells in a row, worked out. -/
def cellsK (ob : AObj) : (n off : Nat) → (List AV → Prop) → Prop
  | 0, _, k => k []
  | n + 1, off, k => match cellAt ob off with
    | some v => cellsK ob n (off + 1) fun l => k (v :: l)
    | none => False

def setCellK (ob : AObj) (j : Nat) (v : AV) (k : AObj → Prop) : Prop :=
  match ob with
  | .row cs => setLK cs j v fun cs => k (.row cs)
  | .big n t d => T.updK (some v) (npos j) t fun t => k (.big n t d)
  | .byts n x => match v with
    | .int .u8 (.ofNat m) => match Nat.blt m 256 with
      | true => forceN (x - (byteAt x j) <<< (8 * j) + m <<< (8 * j)) fun x => k (.byts n x)
      | false => False
    | _ => False
  | _ => False

def setCellsK : (l : List AV) → (ob : AObj) → (off : Nat) → (AObj → Prop) → Prop
  | [], ob, _, k => k ob
  | v :: l, ob, off, k => match Nat.blt off (sizeOfObj ob) with
    | true => setCellK ob off v fun ob => setCellsK l ob (off + 1) k
    | false => False

/-! ### the heap -/
def newK (h : Hp) (e : Ent) (k : Nat → Hp → Prop) : Prop :=
  T.updK (some e) (npos h.next) h.objs fun t => forceN (h.next + 1) fun n => k h.next ⟨t, n⟩
def putK (h : Hp) (o : Nat) (e : Option Ent) (k : Hp → Prop) : Prop :=
  T.updK e (npos o) h.objs fun t => k ⟨t, h.next⟩

/-- A trie of a list's elements from place i on. -/
def trieK : (l : List AV) → (i : Nat) → T AV → (T AV → Prop) → Prop
  | [], _, t, k => k t
  | v :: l, i, t, k => T.updK (some v) (npos i) t fun t => trieK l (i + 1) t k

end
end Go.Am
