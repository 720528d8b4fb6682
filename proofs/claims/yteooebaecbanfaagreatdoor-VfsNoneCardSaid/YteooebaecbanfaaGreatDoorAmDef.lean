/-
  The abstract machine: its operations as functions, and what a region, a piece of code, a call does.
-/
import Derived.Test.YteooebaecbanfaaGreatDoorAmVal
namespace Go.Am
set_option linter.unusedSimpArgs false
set_option linter.unusedVariables false
open Go Go.RowKit
noncomputable section

/-! ### taking a value apart -/
def gd (b : Bool) (A : Prop) : Prop := Bool.rec (motive := fun _ => Prop) False A b
def br (b : Bool) (A B : Prop) : Prop := Bool.rec (motive := fun _ => Prop) B A b
def asOpt {α : Type} (o : Option α) (k : α → Prop) : Prop := Option.rec (motive := fun _ => Prop) False k o
def asBool (v : AV) (k : Bool → Prop) : Prop := match v with | .bool b => k b | _ => False
def asInt (v : AV) (k : IntKind → Int → Prop) : Prop := match v with | .int a n => k a n | _ => False
def natOf (n : Int) (k : Nat → Prop) : Prop := Int.rec (motive := fun _ => Prop) k (fun _ => False) n
def asNat (v : AV) (k : Nat → Prop) : Prop := asInt v fun _ n => natOf n k
def asStr (v : AV) (k : Nat → Nat → Prop) : Prop := match v with | .str n x => k n x | _ => False
def asPtr (v : AV) (k : Nat → Nat → Prop) : Prop := match v with | .ptr o f => k o f | _ => False
def asSl (v : AV) (kn : Prop) (k : Nat → Nat → Nat → Bool → Nat → Prop) : Prop := match v with | .nilslice => kn | .slice o f n b c => k o f n b c | _ => False
/-- No element, of open capacity, at one of two places. -/
def asSlE (v : AV) (k : Nat → Nat → Nat → Nat → Prop) (other : Prop) : Prop := match v with | .sliceE o a b c => k o a b c | _ => other
def asAgg (v : AV) (k : List AV → Prop) : Prop := match v with | .agg l => k l | _ => False
def asTup (v : AV) (k : List AV → Prop) : Prop := match v with | .tup l => k l | _ => False
def asIf (v : AV) (k : TypeId → AV → Prop) : Prop := match v with | .iface t v => k t v | _ => False
def asFn (v : AV) (k : FuncId → List AV → List AV → Prop) : Prop := match v with | .func f a c => k f a c | _ => False

abbrev Opd := Fr → AV
abbrev CallK := FuncId → List AV → Hp → (AV → Hp → Prop) → Prop
/-- What an operation does. -/
abbrev OpD := Fr → Hp → (AV → Hp → Prop) → Prop

def undefV : AV := .tup []
def getS (fr : Fr) (p : Pos) : AV := Option.rec (motive := fun _ => AV) undefV (fun v => v) (fr.get p)
def slot (p : Pos) : Opd := fun fr => getS fr p
def konst (v : AV) : Opd := fun _ => v
def evs (fr : Fr) : List Opd → List AV
  | [] => []
  | x :: l => x fr :: evs fr l

/-! ### whole numbers -/
def top (k : IntKind) : Nat := match k with
  | .i8 => 127 | .i16 => 32767 | .i32 => 2147483647 | .i64 => 9223372036854775807
  | .u8 => 255 | .u16 => 65535 | .u32 => 4294967295 | .u64 => 18446744073709551615
def wrapF (k : IntKind) (n : Int) : Int := Int.rec (motive := fun _ => Int)
  (fun m => Bool.rec (motive := fun _ => Int) (k.wrap (.ofNat m)) (.ofNat m) (Nat.ble m (top k)))
  (fun m => k.wrap (.negSucc m)) n
def mkI (k : IntKind) (n : Int) (K : AV → Prop) : Prop := forceI n fun n => K (.int k n)
def kindEq (a b : IntKind) : Bool := match a, b with
  | .i8, .i8 | .i16, .i16 | .i32, .i32 | .i64, .i64 | .u8, .u8 | .u16, .u16 | .u32, .u32 | .u64, .u64 => true
  | _, _ => false
def mkB (b : Bool) (K : AV → Prop) : Prop := Bool.rec (motive := fun _ => Prop) (K (.bool false)) (K (.bool true)) b
def bitsI (k : IntKind) (n : Int) : Nat := match n with
  | .ofNat m => m % 2 ^ k.bits
  | .negSucc m => (2 ^ k.bits - 1) - m % 2 ^ k.bits
def leI (a b : Int) : Bool := match a, b with
  | .ofNat x, .ofNat y => Nat.ble x y
  | .negSucc _, .ofNat _ => true
  | .ofNat _, .negSucc _ => false
  | .negSucc x, .negSucc y => Nat.ble y x
def eqI (a b : Int) : Bool := match a, b with
  | .ofNat x, .ofNat y => Nat.beq x y
  | .negSucc x, .negSucc y => Nat.beq x y
  | _, _ => false

/-- Two whole numbers of one kind, or two strings. -/
def two (x y : AV) (ki : IntKind → Int → Int → Prop) (ks : Nat → Nat → Nat → Nat → Prop) : Prop := match x with
  | .int k a => asInt y fun k' b => gd (kindEq k k') (ki k a b)
  | .str n a => asStr y fun m b => ks n a m b
  | _ => False
def twoI (x y : AV) (ki : IntKind → Int → Int → Prop) : Prop := asInt x fun k a => asInt y fun k' b => gd (kindEq k k') (ki k a b)

/-- Is the first string ahead of the second: byte by byte. -/
def ltS : (fuel : Nat) → (n x m y : Nat) → Bool
  | 0, _, _, _, _ => false
  | f + 1, n, x, m, y => match m with
    | 0 => false
    | m + 1 => match n with
      | 0 => true
      | n + 1 => match Nat.blt (x % 256) (y % 256) with
        | true => true
        | false => (match Nat.beq (x % 256) (y % 256) with | true => ltS f n (x / 256) m (y / 256) | false => false)
def eqS (n x m y : Nat) : Bool := Nat.beq n m && Nat.beq x y

def oAdd (x y : Opd) : OpD := fun fr h K => two (x fr) (y fr)
  (fun k a b => mkI k (wrapF k (a + b)) fun v => K v h)
  (fun n a m b => gd (Nat.ble (n + m) 9223372036854775807) (forceN (n + m) fun l => forceN (a + b <<< (8 * n)) fun z => K (.str l z) h))
def oArith (f : Int → Int → Int) (x y : Opd) : OpD := fun fr h K => twoI (x fr) (y fr) fun k a b => mkI k (wrapF k (f a b)) fun v => K v h
def oDiv (rem : Bool) (x y : Opd) : OpD := fun fr h K => twoI (x fr) (y fr) fun k a b => gd (!(eqI b 0))
  (Bool.rec (motive := fun _ => Prop) (mkI k (wrapF k (a.tdiv b)) fun v => K v h) (mkI k (a.tmod b) fun v => K v h) rem)
def oBits (f : Nat → Nat → Nat) (x y : Opd) : OpD := fun fr h K => twoI (x fr) (y fr) fun k a b => mkI k (wrapF k (.ofNat (f (bitsI k a) (bitsI k b)))) fun v => K v h
def andNotN (a b : Nat) : Nat := Nat.xor a (Nat.land a b)
def oCmp (fi : Int → Int → Bool) (fs : Nat → Nat → Nat → Nat → Bool) (x y : Opd) : OpD := fun fr h K => two (x fr) (y fr)
  (fun _ a b => mkB (fi a b) fun v => K v h) (fun n a m b => mkB (fs n a m b) fun v => K v h)
def oShl (x y : Opd) : OpD := fun fr h K => asInt (x fr) fun k a => asNat (y fr) fun b => mkI k (wrapF k (a * 2 ^ (Nat.min b k.bits))) fun v => K v h
def shrI (k : IntKind) (a : Int) (b : Nat) : Int := match a with | .ofNat m => .ofNat (m >>> (Nat.min b k.bits)) | .negSucc m => Int.fdiv (.negSucc m) (2 ^ (Nat.min b k.bits))
def oShr (x y : Opd) : OpD := fun fr h K => asInt (x fr) fun k a => asNat (y fr) fun b => mkI k (shrI k a b) fun v => K v h

/-! ### numbers that stand for themselves -/
inductive Od where
  | lt | eq | gt
/-- Which of less, equal, greater may be. -/
structure Po where
  l : Bool
  e : Bool
  g : Bool
def Od.po (o : Od) : Po := match o with | .lt => ⟨true, false, false⟩ | .eq => ⟨false, true, false⟩ | .gt => ⟨false, false, true⟩
def Po.flip (p : Po) : Po := ⟨p.g, p.e, p.l⟩
def ordII (a b : Int) : Od := match eqI a b with | true => .eq | false => (match leI a b with | true => .lt | false => .gt)
def bndOf (i : Nat) : List (Nat × Int × Int) → Option (Int × Int)
  | [] => none
  | x :: l => (match Nat.beq x.1 i with | true => some x.2 | false => bndOf i l)
def ordIn (i j : Nat) : List (Nat × Nat × Bool) → Option Od
  | [] => none
  | x :: l => (match Nat.beq x.1 i && Nat.beq x.2.1 j with | true => some (match x.2.2 with | true => .eq | false => .lt) | false => ordIn i j l)
def orO (a b : Option Po) : Option Po := match a with | some o => some o | none => b
def ordBN (lo hi n : Int) : Po := ⟨!(leI n lo), leI lo n && leI n hi, !(leI hi n)⟩
/-- How two numbers lie to one another. -/
def ordS (x y : AV) : Option Po := match x, y with
  | .int k a, .int l b => (match kindEq k l with | true => some (ordII a b).po | false => none)
  | .sym k F i, .int l n => (match kindEq k l with | true => (bndOf i F.bnd).map fun p => ordBN p.1 p.2 n | false => none)
  | .int k n, .sym l F i => (match kindEq k l with | true => (bndOf i F.bnd).map fun p => (ordBN p.1 p.2 n).flip | false => none)
  | .sym k F i, .sym l _ j => (match kindEq k l with
    | true => (match Nat.beq i j with | true => some (Od.po .eq) | false => orO ((ordIn i j F.ord).map Od.po) ((ordIn j i F.ord).map fun o => o.po.flip))
    | false => none)
  | _, _ => none
def both (a b : Bool) : Option Bool := match a, b with | true, true => some true | false, false => some false | _, _ => none
/-- What holds of all that may be. -/
def dec3 (ro : Od → Bool) (p : Po) : Option Bool := match p.l, p.e, p.g with
  | true, false, false => some (ro .lt)
  | false, true, false => some (ro .eq)
  | false, false, true => some (ro .gt)
  | true, true, false => both (ro .lt) (ro .eq)
  | false, true, true => both (ro .eq) (ro .gt)
  | true, false, true => both (ro .lt) (ro .gt)
  | _, _, _ => none
def roLss (o : Od) : Bool := match o with | .lt => true | .eq => false | .gt => false
def roGtr (o : Od) : Bool := match o with | .lt => false | .eq => false | .gt => true
def roLeq (o : Od) : Bool := match o with | .lt => true | .eq => true | .gt => false
def roGeq (o : Od) : Bool := match o with | .lt => false | .eq => true | .gt => true
def roEql (o : Od) : Bool := match o with | .lt => false | .eq => true | .gt => false
def roNeq (o : Od) : Bool := match o with | .lt => true | .eq => false | .gt => true
def isSym (x y : AV) : Bool := match x with | .sym _ _ _ => true | _ => (match y with | .sym _ _ _ => true | _ => false)
def oCmp2 (ro : Od → Bool) (fi : Int → Int → Bool) (fs : Nat → Nat → Nat → Nat → Bool) (x y : Opd) : OpD := fun fr h K => Bool.rec (motive := fun _ => Prop) (oCmp fi fs x y fr h K)
  (asOpt (ordS (x fr) (y fr)) fun p => asOpt (dec3 ro p) fun r => mkB r fun v => K v h) (isSym (x fr) (y fr))
def isI (x : AV) : Bool := match x with | .int .i64 _ => true | .sym .i64 _ _ => true | _ => false
def isEq (o : Od) : Bool := match o with | .eq => true | _ => false
def eqC (x y : AV) : Option Bool := match isI x && isI y with | true => (ordS x y).bind fun p => dec3 isEq p | false => none
def eqPairS (x y : AV) : Option Bool := match x, y with
  | .agg [a, b], .agg [c, d] => (match isI b && isI d with | true => (eqC a c).bind fun p => (match p with | true => eqC b d | false => some false) | false => none)
  | _, _ => none

/-! ### operations that leave the heap alone -/
def oMov (x : Opd) : OpD := fun fr h K => K (x fr) h
def oStrId (x : Opd) : OpD := fun fr h K => asStr (x fr) fun n z => K (.str n z) h
def oPick (c a b : Opd) : OpD := fun fr h K => asBool (c fr) fun t => Bool.rec (motive := fun _ => Prop) (K (b fr) h) (K (a fr) h) t
def oNot (x : Opd) : OpD := fun fr h K => asBool (x fr) fun b => mkB (!b) fun v => K v h
def oNeg (x : Opd) : OpD := fun fr h K => asInt (x fr) fun k n => mkI k (wrapF k (0 - n)) fun v => K v h
def oCom (x : Opd) : OpD := fun fr h K => asInt (x fr) fun k n => mkI k (wrapF k (.ofNat (Nat.xor (2 ^ k.bits - 1) (bitsI k n)))) fun v => K v h
def oToInt (k : IntKind) (x : Opd) : OpD := fun fr h K => asInt (x fr) fun _ n => mkI k (wrapF k n) fun v => K v h
def eqB (x y : AV) : Option Bool := match x, y with | .bool a, .bool b => some (a == b) | _, _ => none
def eqP (x y : AV) : Option Bool := match x, y with
  | .nilptr, .nilptr => some true
  | .nilptr, .ptr _ _ => some false
  | .ptr _ _, .nilptr => some false
  | .ptr o a, .ptr p b => (match Nat.beq o p with | true => some (Nat.beq a b) | false => none)
  | _, _ => none
def eqNS (x y : AV) : Option Bool := match x, y with
  | .nilslice, .nilslice => some true
  | .nilslice, .slice .. => some false
  | .slice .., .nilslice => some false
  | .nilslice, .sliceE .. => some false
  | .sliceE .., .nilslice => some false
  | _, _ => none
def eqNM (x y : AV) : Option Bool := match x, y with
  | .nilmap, .nilmap => some true
  | .nilmap, .map _ => some false
  | .map _, .nilmap => some false
  | _, _ => none
def eqNF (x y : AV) : Option Bool := match x, y with
  | .nilfunc, .nilfunc => some true
  | .nilfunc, .func .. => some false
  | .func .., .nilfunc => some false
  | _, _ => none
def eqPair (x y : AV) : Option Bool := match x, y with
  | .agg [.int .i64 a, .int .i64 b], .agg [.int .i64 c, .int .i64 d] => some (eqI a c && eqI b d)
  | _, _ => none
def oEq (neg : Bool) (f : AV → AV → Option Bool) (x y : Opd) : OpD := fun fr h K => asOpt (f (x fr) (y fr)) fun b => mkB (Bool.rec (motive := fun _ => Bool) b (!b) neg) fun v => K v h

def asCells (v : AV) (k : List AV → Prop) : Prop := match v with | .agg cs => k cs | .tup _ => False | v => k [v]
/-- A part laid over the cells of a whole. -/
def layAt {α : Type} : (l : List α) → (off : Nat) → (ps : List α) → List α
  | [], _, _ => []
  | x :: l, 0, [] => x :: l
  | _ :: l, 0, p :: ps => p :: layAt l 0 ps
  | x :: l, off + 1, ps => x :: layAt l off ps
def fillK (fr : Fr) : (parts : List (Nat × Nat × Opd)) → List AV → (List AV → Prop) → Prop
  | [], cs, k => k cs
  | (off, n, x) :: rest, cs, k => asCells (x fr) fun l => gd (Nat.beq l.length n && Nat.ble (off + n) cs.length) (fillK fr rest (layAt cs off l) k)
def oBuild (zero : List AV) (parts : List (Nat × Nat × Opd)) : OpD := fun fr h K => fillK fr parts zero fun cs => K (.agg cs) h

def objAt (h : Hp) (o : Nat) (k : Ent → Prop) : Prop := asOpt (h.objs.get (npos o)) k
def oLoad (x : Opd) : OpD := fun fr h K => asPtr (x fr) fun o off => objAt h o fun e => asOpt (cellAt e.obj off) fun v => K v h
def oLoadA (n : Nat) (x : Opd) : OpD := fun fr h K => asPtr (x fr) fun o off => objAt h o fun e => cellsK e.obj n off fun l => K (.agg l) h
/-- .. of a variable of the program's, too. -/
def oLoad2 (x : Opd) : OpD := fun fr h K => match x fr with
  | .gptr g => objAt h g fun e => gd (!e.own) (asOpt (cellAt e.obj 0) fun v => K v h)
  | _ => oLoad x fr h K
def oNilck (x : Opd) : OpD := fun fr h K => match x fr with
  | .ptr o off => K (.ptr o off) h
  | .slice o f l kn c => K (.slice o f l kn c) h
  | .func f a c => K (.func f a c) h
  | _ => False
/-- Bytes l to l + n. -/
def cutB (z l n : Nat) : Nat := (z >>> (8 * l)) % 2 ^ (8 * n)
def asByts (ob : AObj) (k : Nat → Nat → Prop) : Prop := match ob with | .byts n x => k n x | _ => False
def oToStr (x : Opd) : OpD := fun fr h K => asSl (x fr) (K (.str 0 0) h) fun o off n _ _ => objAt h o fun e => asByts e.obj fun m z =>
  gd (Nat.ble (off + n) m) (forceN n fun n => forceN (cutB z off n) fun z => K (.str n z) h)
def oFunc (f : FuncId) (a c : List Opd) : OpD := fun fr h K => K (.func f (evs fr a) (evs fr c)) h
def bnd (fr : Fr) (x : Option Opd) (dflt most : Nat) (k : Nat → Prop) : Prop := match x with
  | none => k dflt
  | some x => asNat (x fr) fun m => gd (Nat.ble m most) (forceN m k)
def oSlice (esz : Nat) (x : Opd) (lo hi : Option Opd) : OpD := fun fr h K => asSl (x fr)
  (bnd fr hi 0 0 fun hi => bnd fr lo 0 hi fun _ => K .nilslice h)
  fun o off n kn c => Bool.rec (motive := fun _ => Prop)
    (bnd fr hi n n fun hi => bnd fr lo 0 hi fun lo => Bool.rec (motive := fun _ => Prop)
      (forceN (off + lo * esz) fun off' => forceN (c + lo) fun c => K (.sliceE o off off' c) h)
      (forceN (off + lo * esz) fun off => forceN (hi - lo) fun n => forceN (c + lo) fun c => K (.slice o off n false c) h) (Nat.blt lo n || Nat.beq lo 0))
    (bnd fr hi n c fun hi => bnd fr lo 0 hi fun lo => forceN (Bool.rec (motive := fun _ => Nat) (off + lo * esz) off (Nat.beq c lo)) fun off => forceN (hi - lo) fun n => forceN (c - lo) fun c => K (.slice o off n true c) h)
    kn
def oSlice2 (esz : Nat) (x : Opd) (lo hi : Option Opd) : OpD := fun fr h K => asSlE (x fr) (fun o a b c => bnd fr hi 0 0 fun hi => bnd fr lo 0 hi fun _ => K (.sliceE o a b c) h) (oSlice esz x lo hi fr h K)
def oSlice3 (esz : Nat) (x : Opd) (lo : Option Opd) (hi mx : Opd) : OpD := fun fr h K => asSl (x fr)
  (bnd fr (some mx) 0 0 fun m => bnd fr (some hi) 0 m fun hi => bnd fr lo 0 hi fun _ => K .nilslice h)
  fun o off n kn c => bnd fr (some mx) 0 (Bool.rec (motive := fun _ => Nat) n c kn) fun m => bnd fr (some hi) 0 m fun hi => bnd fr lo 0 hi fun lo =>
    forceN (Bool.rec (motive := fun _ => Nat) (off + lo * esz) off (Nat.beq m lo)) fun off => forceN (hi - lo) fun n => forceN (m - lo) fun c => K (.slice o off n true c) h
def oSliceS (x : Opd) (lo hi : Option Opd) : OpD := fun fr h K => asStr (x fr) fun n z => bnd fr hi n n fun hi => bnd fr lo 0 hi fun lo =>
  forceN (hi - lo) fun n => forceN (cutB z lo n) fun z => K (.str n z) h
def oSliceA (esz n : Nat) (x : Opd) (lo hi : Option Opd) : OpD := fun fr h K => asPtr (x fr) fun o off => bnd fr hi n n fun hi => bnd fr lo 0 hi fun lo =>
  forceN (Bool.rec (motive := fun _ => Nat) (off + lo * esz) off (Nat.beq n lo)) fun off => forceN (hi - lo) fun l => forceN (n - lo) fun c => K (.slice o off l true c) h
def oFaddr (f : Nat) (x : Opd) : OpD := fun fr h K => asPtr (x fr) fun o off => forceN (off + f) fun off => K (.ptr o off) h
def oField (off : Nat) (x : Opd) : OpD := fun fr h K => asAgg (x fr) fun cs => asOpt (getL cs off) fun v => K v h
def oFieldA (off n : Nat) (x : Opd) : OpD := fun fr h K => asAgg (x fr) fun cs => cellsK (.row cs) n off fun l => K (.agg l) h
def oIaddr (esz : Nat) (x i : Opd) : OpD := fun fr h K => asSl (x fr) False fun o off n _ _ => asNat (i fr) fun i => gd (Nat.blt i n) (forceN (off + i * esz) fun off => K (.ptr o off) h)
def oIaddrA (esz n : Nat) (x i : Opd) : OpD := fun fr h K => asPtr (x fr) fun o off => asNat (i fr) fun i => gd (Nat.blt i n) (forceN (off + i * esz) fun off => K (.ptr o off) h)
def oIdxS (x i : Opd) : OpD := fun fr h K => asStr (x fr) fun n z => asNat (i fr) fun i => gd (Nat.blt i n) (forceN (byteAt z i) fun b => K (.int .u8 (.ofNat b)) h)
def oIdx (n : Nat) (x i : Opd) : OpD := fun fr h K => asAgg (x fr) fun cs => asNat (i fr) fun i => gd (Nat.blt i n) (asOpt (getL cs i) fun v => K v h)
def oIdxA (n esz : Nat) (x i : Opd) : OpD := fun fr h K => asAgg (x fr) fun cs => asNat (i fr) fun i => gd (Nat.blt i n) (cellsK (.row cs) esz (i * esz) fun l => K (.agg l) h)
def oExtract (i : Nat) (x : Opd) : OpD := fun fr h K => asTup (x fr) fun vs => asOpt (getL vs i) fun v => K v h
def oLenS (x : Opd) : OpD := fun fr h K => asStr (x fr) fun n _ => K (.int .i64 (.ofNat n)) h
def oMin (mx : Bool) (x y : Opd) : OpD := fun fr h K => asInt (x fr) fun k a => asInt (y fr) fun _ b =>
  Bool.rec (motive := fun _ => Prop) (K (.int k b) h) (K (.int k a) h) (Bool.rec (leI a b) (leI b a) mx)
def oLenL (x : Opd) : OpD := fun fr h K => asSl (x fr) (K (.int .i64 (.ofNat 0)) h) fun _ _ n _ _ => K (.int .i64 (.ofNat n)) h
def oLenL2 (x : Opd) : OpD := fun fr h K => asSlE (x fr) (fun _ _ _ _ => K (.int .i64 (.ofNat 0)) h) (oLenL x fr h K)
def oLenM (x : Opd) : OpD := fun fr h K => match x fr with
  | .nilmap => K (.int .i64 (.ofNat 0)) h
  | .map o => objAt h o fun e => (match e.obj with | .map es _ => forceN es.length fun n => K (.int .i64 (.ofNat n)) h | _ => False)
  | _ => False

/-! ### functions without a body -/
/-- The first place of a byte. -/
def idxB : Nat → Nat → Nat → Nat → Option Nat
  | 0, _, _, _ => none
  | n + 1, z, c, i => (match Nat.beq (z % 256) c with | true => some i | false => idxB n (z / 256) c (Nat.succ i))
/-- How often a byte stands there. -/
def cntB : Nat → Nat → Nat → Nat → Nat
  | 0, _, _, a => a
  | n + 1, z, c, a => (match Nat.beq (z % 256) c with | true => cntB n (z / 256) c (Nat.succ a) | false => cntB n (z / 256) c a)
def oCntB (s c : Opd) : OpD := fun fr h K => asStr (s fr) fun n z => asInt (c fr) fun k c => gd (kindEq k .u8) (natOf c fun c => gd (Nat.blt c 256) (forceN (cntB n z c 0) fun i => K (.int .i64 (.ofNat i)) h))
def oIdxB (s c : Opd) : OpD := fun fr h K => asStr (s fr) fun n z => asInt (c fr) fun k c => gd (kindEq k .u8) (natOf c fun c => gd (Nat.blt c 256)
  (Option.rec (motive := fun _ => Prop) (K (.int .i64 (.negSucc 0)) h) (fun i => forceN i fun i => K (.int .i64 (.ofNat i)) h) (idxB n z c 0)))

/-! ### maps -/
def eqKI (x y : AV) : Option Bool := match x, y with
  | .int j a, .int k b => (match kindEq j k with | true => some (eqI a b) | false => none)
  | _, _ => none
def eqKS (x y : AV) : Option Bool := match x, y with
  | .str n a, .str m b => some (eqS n a m b)
  | _, _ => none
/-- The first entry of a key. -/
def findA (kf : AV → AV → Option Bool) (x : AV) : List (AV × AV × Nat) → Nat → Option (Option (Nat × AV))
  | [], _ => some none
  | e :: l, i => match kf x e.1 with
    | some true => some (some (i, e.2.1))
    | some false => findA kf x l (Nat.succ i)
    | none => none
def asMap (ob : AObj) (k : List (AV × AV × Nat) → Nat → Prop) : Prop := match ob with | .map es c => k es c | _ => False
def finLook (ok : Bool) (zero : AV) (h : Hp) (K : AV → Hp → Prop) (r : Option (Nat × AV)) : Prop :=
  Option.rec (motive := fun _ => Prop) (Bool.rec (motive := fun _ => Prop) (K zero h) (K (.tup [zero, .bool false]) h) ok)
    (fun p => Bool.rec (motive := fun _ => Prop) (K p.2 h) (K (.tup [p.2, .bool true]) h) ok) r
def oLookup (kf : AV → AV → Option Bool) (ok : Bool) (zero : AV) (m x : Opd) : OpD := fun fr h K => asOpt (kf (x fr) (x fr)) fun b => gd b (match m fr with
  | .nilmap => finLook ok zero h K none
  | .map o => objAt h o fun e => asMap e.obj fun es _ => asOpt (findA kf (x fr) es 0) fun r => finLook ok zero h K r
  | _ => False)

/-! ### operations that act on the heap -/
def packAV : List AV → Option Nat
  | [] => some 0
  | v :: l => match v with
    | .int .u8 (.ofNat b) => (match Nat.blt b 256 with | true => (packAV l).map fun x => b + 256 * x | false => none)
    | _ => none
def rowK (u8 : Bool) (cs : List AV) (k : AObj → Prop) : Prop := Bool.rec (motive := fun _ => Prop)
  (Bool.rec (motive := fun _ => Prop) (trieK cs 0 .lf fun t => forceN cs.length fun n => k (.big n t [])) (k (.row cs)) (Nat.ble cs.length 24))
  (asOpt (packAV cs) fun x => forceN x fun x => forceN cs.length fun n => k (.byts n x)) u8
def repL (d : List AV) : Nat → List AV
  | 0 => []
  | n + 1 => d ++ repL d n
/-- A new row of n times some cells. -/
def zerosK (u8 : Bool) (n : Nat) (d : List AV) (k : AObj → Prop) : Prop := Bool.rec (motive := fun _ => Prop)
  (Bool.rec (motive := fun _ => Prop) (forceN (n * d.length) fun n => k (.big n .lf d)) (k (.row (repL d n))) (Nat.ble (n * d.length) 24))
  (k (.byts n 0)) u8
/-- The row of m cells from 'off' on, then some more. -/
def growK (ob : AObj) (off m : Nat) (new : List AV) (k : AObj → Prop) : Prop := match ob with
  | .row cs => gd (Nat.ble (off + m) cs.length) (rowK false ((cs.drop off).take m ++ new) k)
  | .big n t d => gd (Nat.ble (off + m) n) (Bool.rec (motive := fun _ => Prop)
    (cellsK (.big n t d) m off fun l => rowK false (l ++ new) k)
    (trieK new m t fun t => forceN (m + new.length) fun n => k (.big n t d)) (Nat.beq off 0))
  | .byts n x => gd (Nat.ble (off + m) n) (asOpt (packAV new) fun y => forceN (cutB x off m + y <<< (8 * m)) fun x => forceN (m + new.length) fun n => k (.byts n x))
  | _ => False
/-- Bytes behind bytes. -/
def growBK (ob : AObj) (off m : Nat) (l y : Nat) (k : AObj → Prop) : Prop := asByts ob fun n x =>
  gd (Nat.ble (off + m) n) (forceN (cutB x off m + y <<< (8 * m)) fun x => forceN (m + l) fun n => k (.byts n x))

/-- Bytes over bytes. -/
def overBK (ob : AObj) (at_ m z : Nat) (k : AObj → Prop) : Prop := asByts ob fun n x =>
  gd (Nat.ble (at_ + m) n) (forceN (cutB x 0 at_ + (cutB z 0 m + (x >>> (8 * (at_ + m))) <<< (8 * m)) <<< (8 * at_)) fun x => k (.byts n x))

/-- What is appended: m elements. 'kl': as cells; 'kb': as bytes. -/
def srcK (h : Hp) (esz : Nat) (u8 : Bool) (x : AV) (k0 : Prop) (kl : Nat → List AV → Prop) (kb : Nat → Nat → Prop) : Prop := match x with
  | .nilslice => k0
  | .sliceE _ _ _ _ => k0
  | .slice o off m _ _ => Bool.rec (motive := fun _ => Prop)
    (objAt h o fun e => Bool.rec (motive := fun _ => Prop)
      (cellsK e.obj (m * esz) off fun l => kl m l)
      (asByts e.obj fun n z => gd (Nat.ble (off + m) n) (forceN (cutB z off m) fun z => kb m z)) u8)
    k0 (Nat.beq m 0)
  | .str m z => gd (Nat.beq esz 1) (Bool.rec (motive := fun _ => Prop) (forceN (cutB z 0 m) fun z => kb m z) k0 (Nat.beq m 0))
  | _ => False
def finK (esz n : Nat) (h : Hp) (ob : AObj) (K : AV → Hp → Prop) : Prop := newK h ⟨true, esz, ob⟩ fun o h => K (.slice o 0 n false 0) h
/-- The old row's cells and some new ones, wherever they come to lie. -/
def joinK (h : Hp) (o off len m : Nat) (known : Bool) (cap : Nat) (esz bytes : Nat) (grow : AObj → (AObj → Prop) → Prop) (over : AObj → (AObj → Prop) → Prop) (K : AV → Hp → Prop) : Prop :=
  gd (Nat.ble ((len + m) * bytes) 140737488355328) (objAt h o fun e => gd (Nat.beq e.esz esz) (Bool.rec (motive := fun _ => Prop)
    (gd (e.own && Nat.ble off (cap * esz)) (grow e.obj fun ob => putK h o none fun h => forceN (len + m) fun n => finK esz n h ob K))
    (Bool.rec (motive := fun _ => Prop)
      (grow e.obj fun ob => forceN (len + m) fun n => finK esz n h ob K)
      (gd e.own (over e.obj fun ob => putK h o (some ⟨true, e.esz, ob⟩) fun h => forceN (len + m) fun n => K (.slice o off n true cap) h))
      (Nat.ble (len + m) cap))
    known))
def appendK (esz bytes : Nat) (u8 : Bool) (h : Hp) (s x : AV) (K : AV → Hp → Prop) : Prop := asSl s
  (srcK h esz u8 x (K .nilslice h)
    (fun m l => gd (Nat.ble (m * bytes) 140737488355328) (rowK false l fun ob => finK esz m h ob K))
    (fun m z => gd (Nat.ble (m * bytes) 140737488355328) (finK esz m h (.byts m z) K)))
  fun o off len kn cap => srcK h esz u8 x (K (.slice o off len kn cap) h)
    (fun m l => joinK h o off len m kn cap esz bytes (fun ob => growK ob off (len * esz) l) (fun ob => setCellsK l ob (off + len * esz)) K)
    (fun m z => joinK h o off len m kn cap esz bytes (fun ob => growBK ob off len m z) (fun ob => overBK ob (off + len) m z) K)
def appendZK (esz bytes : Nat) (u8 : Bool) (zero : List AV) (h : Hp) (s : AV) (m : Nat) (K : AV → Hp → Prop) : Prop := asSl s
  (Bool.rec (motive := fun _ => Prop) (gd (Nat.ble (m * bytes) 140737488355328) (zerosK u8 m zero fun ob => finK esz m h ob K)) (K .nilslice h) (Nat.beq m 0))
  fun o off len kn cap => Bool.rec (motive := fun _ => Prop)
    (joinK h o off len m kn cap esz bytes (fun ob => Bool.rec (motive := fun _ => (AObj → Prop) → Prop) (growK ob off (len * esz) (repL zero m)) (growBK ob off len m 0) u8) (fun _ _ => False) K)
    (K (.slice o off len kn cap) h) (Nat.beq m 0)

def oBox (n : Nat) (x : Opd) : OpD := fun fr h K => asCells (x fr) fun l => gd (Nat.beq l.length n) (rowK false l fun ob => newK h ⟨true, n, ob⟩ fun o h => K (.ptr o 0) h)
def oBslice (esz len : Nat) (u8 : Bool) (zero : List AV) (parts : List (Nat × Nat × Opd)) : OpD := fun fr h K =>
  fillK fr parts (repL zero len) fun cs => rowK u8 cs fun ob => newK h ⟨true, esz, ob⟩ fun o h => K (.slice o 0 len true len) h
def oStore (n : Nat) (a x : Opd) : OpD := fun fr h K => asPtr (a fr) fun o off => objAt h o fun e => asCells (x fr) fun l => gd (e.own && Nat.beq l.length n)
  (setCellsK l e.obj off fun ob => putK h o (some ⟨true, e.esz, ob⟩) fun h => K undefV h)
def modE (v : AV) : List (AV × AV × Nat) → Nat → List (AV × AV × Nat)
  | [], _ => []
  | e :: l, 0 => (e.1, v, e.2.2) :: l
  | e :: l, i + 1 => e :: modE v l i
def delE : List (AV × AV × Nat) → Nat → List (AV × AV × Nat)
  | [], _ => []
  | _ :: l, 0 => l
  | e :: l, i + 1 => e :: delE l i
def onMap (h : Hp) (m : AV) (k : Nat → Ent → List (AV × AV × Nat) → Nat → Prop) : Prop := match m with
  | .map o => objAt h o fun e => gd e.own (asMap e.obj fun es c => k o e es c)
  | _ => False
def oMapSet (kf : AV → AV → Option Bool) (m x v : Opd) : OpD := fun fr h K => asOpt (kf (x fr) (x fr)) fun b => gd b (onMap h (m fr) fun o e es c => asOpt (findA kf (x fr) es 0) fun r =>
  Option.rec (motive := fun _ => Prop) (putK h o (some ⟨true, e.esz, .map (es ++ [(x fr, v fr, c)]) (Nat.succ c)⟩) fun h => K undefV h)
    (fun p => putK h o (some ⟨true, e.esz, .map (modE (v fr) es p.1) c⟩) fun h => K undefV h) r)
def oMapDel (kf : AV → AV → Option Bool) (m x : Opd) : OpD := fun fr h K => asOpt (kf (x fr) (x fr)) fun b => gd b (onMap h (m fr) fun o e es c => asOpt (findA kf (x fr) es 0) fun r =>
  Option.rec (motive := fun _ => Prop) (putK h o (some ⟨true, e.esz, .map es c⟩) fun h => K undefV h)
    (fun p => putK h o (some ⟨true, e.esz, .map (delE es p.1) c⟩) fun h => K undefV h) r)
def oMkMap : OpD := fun _ h K => newK h ⟨true, 0, .map [] 0⟩ fun o h => K (.map o) h
def oRangeS (x : Opd) : OpD := fun fr h K => asStr (x fr) fun n z => newK h ⟨true, 0, .sit n z 0⟩ fun o h => K (.ptr o 0) h
def asSit (ob : AObj) (k : Nat → Nat → Nat → Prop) : Prop := match ob with | .sit n z p => k n z p | _ => False
/-- The next sign of a string, where it is of one byte. -/
def oNextS (x : Opd) : OpD := fun fr h K => asPtr (x fr) fun o off => gd (Nat.beq off 0) (objAt h o fun e => gd e.own (asSit e.obj fun n z pos =>
  Bool.rec (motive := fun _ => Prop) (K (.tup [.bool false]) h)
    (forceN (byteAt z pos) fun b => gd (Nat.blt b 128) (forceN (Nat.succ pos) fun p => putK h o (some ⟨true, e.esz, .sit n z p⟩) fun h => K (.tup [.bool true, .int .i64 (.ofNat pos), .int .i32 (.ofNat b)]) h))
    (Nat.blt pos n)))
/-! ### maps ranged over, interfaces -/
def oRangeM (x : Opd) : OpD := fun fr h K => match x fr with
  | .nilmap => newK h ⟨true, 0, .mit none 0 [] 0⟩ fun o h => K (.ptr o 0) h
  | .map p => objAt h p fun e => asMap e.obj fun _ c => newK h ⟨true, 0, .mit (some p) c [] c⟩ fun o h => K (.ptr o 0) h
  | _ => False
def asMit (ob : AObj) (k : Option Nat → Nat → List Nat → Nat → Prop) : Prop := match ob with | .mit m s l c => k m s l c | _ => False
def memN (x : Nat) : List Nat → Bool
  | [] => false
  | y :: l => (match Nat.beq x y with | true => true | false => memN x l)
def filtE (p : Nat → Bool) : List (AV × AV × Nat) → List (AV × AV × Nat)
  | [] => []
  | e :: l => (match p e.2.2 with | true => e :: filtE p l | false => filtE p l)
/-- For each of some. -/
def eachK {α : Type} (f : α → Prop) : List α → Prop
  | [] => True
  | x :: l => (match l with | [] => f x | _ :: _ => f x ∧ eachK f l)
def isNilL {α : Type} : List α → Bool | [] => true | _ :: _ => false
/-- The next entry of a map: whichever the model draws. -/
def oNextM (x : Opd) : OpD := fun fr h K => asPtr (x fr) fun o off => gd (Nat.beq off 0) (objAt h o fun e => gd e.own (asMit e.obj fun m since seen st => match m with
  | none => K (.tup [.bool false]) h
  | some p => objAt h p fun em => asMap em.obj fun es clock =>
    gd (isNilL seen || (isNilL es || !(isNilL (filtE (fun b => Nat.blt b st) es)))) (
      let left := filtE (fun b => !(memN b seen)) es
      let old := filtE (fun b => Nat.blt b since) left
      let f := fun en : AV × AV × Nat => putK h o (some ⟨true, e.esz, .mit (some p) since (seen ++ [en.2.2]) clock⟩) fun h => K (.tup [.bool true, en.1, en.2.1]) h
      match old with
      | [] => (match filtE (fun b => !(Nat.blt b since)) left with
        | [] => K (.tup [.bool false]) h
        | n :: new => K (.tup [.bool false]) h ∧ eachK f (n :: new))
      | d :: old => eachK f ((d :: old) ++ filtE (fun b => !(Nat.blt b since)) left))))
def findE (b : Nat) : List (AV × AV × Nat) → Option (AV × AV × Nat)
  | [] => none
  | e :: l => (match Nat.beq e.2.2 b with | true => some e | false => findE b l)
/-- The entry that the iterator stands at. -/
def oEntry (x : Opd) : OpD := fun fr h K => asPtr (x fr) fun o off => gd (Nat.beq off 0) (objAt h o fun e => asMit e.obj fun m _ seen st => asOpt m fun p => asOpt seen.getLast? fun b =>
  objAt h p fun em => asMap em.obj fun es clock => gd (Nat.beq clock st) (asOpt (findE b es) fun en => K (.tup [en.1, en.2.1]) h))
def oIface (t : TypeId) (x : Opd) : OpD := fun fr h K => K (.iface t (x fr)) h
def oAssert (t : TypeId) (ok : Bool) (zero : AV) (x : Opd) : OpD := fun fr h K => match x fr with
  | .iface t' v => Bool.rec (motive := fun _ => Prop) (Bool.rec (motive := fun _ => Prop) False (K (.tup [zero, .bool false]) h) ok) (Bool.rec (motive := fun _ => Prop) (K v h) (K (.tup [v, .bool true]) h) ok) (Nat.beq t' t)
  | .niliface => Bool.rec (motive := fun _ => Prop) False (K (.tup [zero, .bool false]) h) ok
  | _ => False
def oToBytes (x : Opd) : OpD := fun fr h K => asStr (x fr) fun n z => newK h ⟨true, 1, .byts n z⟩ fun o h => K (.slice o 0 n false 0) h
def oStrish (x : Opd) : OpD := fun fr h K => asSl (x fr) False fun o off n kn c => objAt h o fun e => gd (e.own && Nat.beq e.esz 1) (asByts e.obj fun _ _ => K (.slice o off n kn c) h)
def oMkSlice (esz bytes : Nat) (u8 : Bool) (zero : List AV) (l c : Opd) : OpD := fun fr h K => asNat (l fr) fun l => asNat (c fr) fun c =>
  gd (Nat.ble l c && (Nat.ble (c * bytes) 140737488355328 && Nat.ble c 9223372036854775807)) (forceN l fun l => forceN c fun c => zerosK u8 c zero fun ob => newK h ⟨true, esz, ob⟩ fun o h => K (.slice o 0 l true c) h)
def oAppend (esz bytes : Nat) (u8 : Bool) (s x : Opd) : OpD := fun fr h K => appendK esz bytes u8 h (s fr) (x fr) K
def oAppend2 (esz bytes : Nat) (u8 : Bool) (s x : Opd) : OpD := fun fr h K => asSlE (s fr)
  (fun o a b c => srcK h esz u8 (x fr) (K (.sliceE o a b c) h)
    (fun m l => joinK h o b 0 m false c esz bytes (fun ob => growK ob b (0 * esz) l) (fun _ _ => False) K)
    (fun m z => joinK h o b 0 m false c esz bytes (fun ob => growBK ob b 0 m z) (fun _ _ => False) K))
  (oAppend esz bytes u8 s x fr h K)
def oAppendZ (esz bytes : Nat) (u8 : Bool) (zero : List AV) (s n : Opd) : OpD := fun fr h K => asNat (n fr) fun m => forceN m fun m => appendZK esz bytes u8 zero h (s fr) m K

def lenA (x : AV) (k : Nat → Prop) : Prop := match x with
  | .nilslice => k 0
  | .slice _ _ m _ _ => k m
  | .sliceE _ _ _ _ => k 0
  | .str m _ => k m
  | _ => False
/-- The first k elements; of a string all. -/
def shortA (x : AV) (k : Nat) : AV := match x with
  | .slice o off _ kn c => .slice o off k kn c
  | .str m z => (match Nat.beq k m with | true => .str m z | false => undefV)
  | x => x
def oCopy (esz : Nat) (u8 : Bool) (x y : Opd) : OpD := fun fr h K => lenA (y fr) fun m => asSl (x fr) (K (.int .i64 (.ofNat 0)) h) fun o off n _ _ => forceN (Nat.min m n) fun k =>
  srcK h esz u8 (shortA (y fr) k) (K (.int .i64 (.ofNat 0)) h)
    (fun k l => objAt h o fun e => gd e.own (setCellsK l e.obj off fun ob => putK h o (some ⟨true, e.esz, ob⟩) fun h => K (.int .i64 (.ofNat k)) h))
    (fun k z => objAt h o fun e => gd e.own (overBK e.obj off k z fun ob => putK h o (some ⟨true, e.esz, ob⟩) fun h => K (.int .i64 (.ofNat k)) h))

/-! ### regions, code, calls -/
/-- An operation, and what it may do: 'acts': turn the heap; 'reads': hang on it. -/
inductive AOp where
  | op (d : OpD) (acts reads : Bool)
  | call (f : FuncId) (args : List Opd)
  | callv (x : Opd) (args : List Opd)
  | callm (x : Opd) (sel : TypeId → Option (FuncId × Option (Bool × Nat))) (args : List Opd)
  | brop (d : OpD)

structure AOper where
  dst : Option Pos
  op : AOp
  guard : Option (Pos × Bool)

abbrev RegD := CallK → Fr → Hp → (Fr → Hp → Prop) → Prop

def runOp (o : AOp) (cf : CallK) : OpD := AOp.rec (motive := fun _ => OpD) (fun d _ _ => d)
  (fun f args fr h K => cf f (evs fr args) h K)
  (fun x args fr h K => asFn (x fr) fun f a c => cf f (a ++ evs fr args ++ c) h K)
  (fun x sel args fr h K => asIf (x fr) fun t v => asOpt (sel t) fun p => Option.rec (motive := fun _ => Prop) (cf p.1 (v :: evs fr args) h K)
    (fun q => Bool.rec (motive := fun _ => Prop) (oLoad (konst v) fr h fun v _ => cf p.1 (v :: evs fr args) h K) (oLoadA q.2 (konst v) fr h fun v _ => cf p.1 (v :: evs fr args) h K) q.1) p.2)
  (fun d => d) o
def putD (d : Option Pos) (v : AV) (fr : Fr) (k : Fr → Prop) : Prop := Option.rec (motive := fun _ => Prop) (k fr) (fun d => T.updK (some v) d fr k) d
def isUndef (v : AV) : Bool := match v with | .tup [] => true | _ => false
/-- Is the guard met? A slot that was itself skipped meets none. -/
def grdK (g : Option (Pos × Bool)) (fr : Fr) (A B : Prop) : Prop := Option.rec (motive := fun _ => Prop) A
  (fun g => Bool.rec (motive := fun _ => Prop) (asBool (getS fr g.1) fun b => Bool.rec (motive := fun _ => Prop) B A (b == g.2)) B (isUndef (getS fr g.1))) g
def stepD (o : AOper) (rest : RegD) : RegD := fun cf fr h K =>
  grdK o.guard fr (runOp o.op cf fr h fun v h => putD o.dst v fr fun fr => rest cf fr h K) (putD o.dst undefV fr fun fr => rest cf fr h K)
def endD : RegD := fun _ fr h K => K fr h
def regD (l : List AOper) : RegD := List.rec (motive := fun _ => RegD) endD (fun o _ ih => stepD o ih) l

def sameB : List (Nat × Int × Int) → List (Nat × Int × Int) → Bool
  | [], [] => true
  | x :: l, y :: m => Nat.beq x.1 y.1 && (eqI x.2.1 y.2.1 && (eqI x.2.2 y.2.2 && sameB l m))
  | _, _ => false
def sameO : List (Nat × Nat × Bool) → List (Nat × Nat × Bool) → Bool
  | [], [] => true
  | x :: l, y :: m => Nat.beq x.1 y.1 && (Nat.beq x.2.1 y.2.1 && ((x.2.2 == y.2.2) && sameO l m))
  | _, _ => false
/-- Equal for sure. -/
def sameC0 : AV → AV → Bool
  | .bool a, .bool b => a == b
  | .int j a, .int k b => kindEq j k && eqI a b
  | .str n a, .str m b => Nat.beq n m && Nat.beq a b
  | .ptr o a, .ptr p b => Nat.beq o p && Nat.beq a b
  | .nilptr, .nilptr => true
  | .slice o a n kn c, .slice p b m km d => Nat.beq o p && (Nat.beq a b && (Nat.beq n m && (kn == km && Nat.beq c d)))
  | .nilslice, .nilslice => true
  | .sliceE o a b c, .sliceE p a' b' c' => Nat.beq o p && (Nat.beq a a' && (Nat.beq b b' && Nat.beq c c'))
  | .map a, .map b => Nat.beq a b
  | .nilmap, .nilmap => true
  | .nilfunc, .nilfunc => true
  | .niliface, .niliface => true
  | .func f [] [], .func g [] [] => Nat.beq f g
  | .sym k F i, .sym l G j => kindEq k l && (Nat.beq i j && (sameB F.bnd G.bnd && sameO F.ord G.ord))
  | _, _ => false
def sameC (x y : AV) : Bool := match x, y with
  | .iface t v, .iface u w => Nat.beq t u && sameC0 v w
  | x, y => sameC0 x y
def sameL : List AV → List AV → Bool
  | [], [] => true
  | x :: l, y :: m => sameC x y && sameL l m
  | _, _ => false
def sameA (x y : AV) : Bool := match x with
  | .agg l => (match y with | .agg m => sameL l m | _ => false)
  | x => sameC x y
def sameAs : List AV → List AV → Bool
  | [], [] => true
  | x :: l, y :: m => sameA x y && sameAs l m
  | _, _ => false
def sameV (x y : AV) : Bool := match x with
  | .tup l => (match y with | .tup m => sameAs l m | _ => false)
  | x => sameA x y

/-- A region that draws its order, in one order: its operations, and the reading ones held once more against the heap behind each acting one that may come ahead of them. -/
inductive Item where
  | ex (i : Nat) (o : AOper)
  | chk (i : Nat) (d : Pos) (op : OpD) (guard : Option (Pos × Bool))

def chkD (d : Pos) (op : OpD) (g : Option (Pos × Bool)) (rest : RegD) : RegD := fun cf fr h K =>
  grdK g fr (op fr h fun v _ => gd (sameV v (getS fr d)) (rest cf fr h K)) (rest cf fr h K)
def itemD (x : Item) (rest : RegD) : RegD := Item.rec (motive := fun _ => RegD) (fun _ o => stepD o rest) (fun _ d op g => chkD d op g rest) x
def itemsD (l : List Item) : RegD := List.rec (motive := fun _ => RegD) endD (fun x _ ih => itemD x ih) l

inductive Ex where
  | normal | exit (id : Nat) | ret
abbrev CodeD := CallK → Nat → (Ex → Fr → Hp → Prop) → Fr → Hp → Prop

def thenE (A : Fr → Hp → Prop) (K : Ex → Fr → Hp → Prop) (e : Ex) : Fr → Hp → Prop := Ex.rec (motive := fun _ => Fr → Hp → Prop) A (fun id => K (.exit id)) (K .ret) e
def blkE (id : Nat) (K : Ex → Fr → Hp → Prop) (e : Ex) : Fr → Hp → Prop := Ex.rec (motive := fun _ => Fr → Hp → Prop) (K .normal)
  (fun i => Bool.rec (motive := fun _ => Fr → Hp → Prop) (K (.exit i)) (K .normal) (Nat.beq i id)) (K .ret) e
def cSkip : CodeD := fun _ _ K fr h => K .normal fr h
def cRegion (r : RegD) : CodeD := fun cf _ K fr h => r cf fr h (K .normal)
def cSeq (a b : CodeD) : CodeD := fun cf fuel K fr h => a cf fuel (thenE (b cf fuel K) K) fr h
def cCond (c : Opd) (a b : CodeD) : CodeD := fun cf fuel K fr h => asBool (c fr) fun t => Bool.rec (motive := fun _ => Prop) (b cf fuel K fr h) (a cf fuel K fr h) t
def cBlock (id : Nat) (b : CodeD) : CodeD := fun cf fuel K fr h => b cf fuel (blkE id K) fr h
def cLoop (b : CodeD) : CodeD := fun cf fuel K fr h => Nat.rec (motive := fun _ => Fr → Hp → Prop) (fun _ _ => False) (fun _ ih => b cf fuel (thenE ih K)) fuel fr h
def cExit (id : Nat) : CodeD := fun _ _ K fr h => K (.exit id) fr h
def cRet : CodeD := fun _ _ K fr h => K .ret fr h

inductive ARes where
  | tmp (p : Pos)
  | cell (p : Pos) (agg : Bool) (n : Nat)
structure AFunc where
  body : CodeD
  res : List ARes

def resK (fr : Fr) (h : Hp) : ARes → (AV → Prop) → Prop
  | .tmp p, k => k (getS fr p)
  | .cell p agg n, k => Bool.rec (motive := fun _ => Prop) (oLoad (slot p) fr h fun v _ => k v) (oLoadA n (slot p) fr h fun v _ => k v) agg
def ressK (fr : Fr) (h : Hp) : List ARes → (List AV → Prop) → Prop
  | [], k => k []
  | r :: l, k => resK fr h r fun v => ressK fr h l fun vs => k (v :: vs)
def tupOf : List AV → AV
  | [v] => v
  | l => .tup l
def endK (res : List ARes) (K : AV → Hp → Prop) (e : Ex) (fr : Fr) (h : Hp) : Prop := Ex.rec (motive := fun _ => Prop)
  (ressK fr h res fun vs => K (tupOf vs) h) (fun _ => False) (ressK fr h res fun vs => K (tupOf vs) h) e

/-- A contract: what a call comes to, said without its code. -/
abbrev ConD := List AV → Hp → (AV → Hp → Prop) → Prop
def callN (con : FuncId → Option ConD) (tab : FuncId → Option AFunc) (fuel : Nat) (n : Nat) : CallK := Nat.rec (motive := fun _ => CallK) (fun _ _ _ _ => False)
  (fun _ ih f args h K => Option.rec (motive := fun _ => Prop) (asOpt (tab f) fun af => trieK args 0 .lf fun fr => af.body ih fuel (endK af.res K) fr h) (fun c => c args h K) (con f)) n

/-- slices.Insert at elements of k cells and bs bytes, onto nil or onto a slice of open capacity. -/
def insK (k bs : Nat) : ConD := fun l h K => match l with
  | [s, i, v] => asInt i fun kd i => gd (kindEq kd .i64) (natOf i fun i => asSl v False fun vo voff m _ _ => gd (Nat.blt 0 m) (objAt h vo fun ev => gd (Nat.beq ev.esz k) (cellsK ev.obj (m * k) voff fun new => asSl s
      (gd (Nat.beq i 0 && (Nat.ble (m * bs) 140737488355328 && Nat.ble m 140737488355328)) (rowK false new fun ob => finK k m h ob K))
      fun o off n kn c => gd ((!kn) && ((Nat.ble i n && (Nat.blt 0 n && !(Nat.beq vo o))) && (Nat.ble ((n + m) * bs) 140737488355328 && Nat.ble (n + m) 140737488355328))) (objAt h o fun e => gd (e.own && (Nat.beq e.esz k && Nat.ble off (c * k)))
        (cellsK e.obj (n * k) off fun old => putK h o none fun h => forceN (n + m) fun N => rowK false (old.take (i * k) ++ (new ++ old.drop (i * k))) fun ob => finK k N h ob K)))))
  | _ => False

end
end Go.Am
