/-
  From the model's code to the abstract machine's.
-/
import Derived.Test.YtbefkepinpollaaGreatDoorAmDef
namespace Go.Am
set_option linter.unusedSimpArgs false
set_option linter.unusedVariables false
open Go Go.RowKit
noncomputable section

def avsOf (f : Value → Option AV) : List Value → Option (List AV)
  | [] => some []
  | v :: l => (f v).bind fun x => (avsOf f l).map fun xs => x :: xs
def avOf : Nat → Value → Option AV
  | 0, _ => none
  | n + 1, v => match v with
    | .bool b => some (.bool b)
    | .int k i => some (.int k i)
    | .string s => some (.str s.data.toList.length (packL s.data.toList))
    | .pointer none => some .nilptr
    | .slice none 0 0 => some .nilslice
    | .map none => some .nilmap
    | .nilFunc => some .nilfunc
    | .nilIface => some .niliface
    | .func (.func f) a c => (match a.toList, c.toList with | [], [] => some (.func f [] []) | _, _ => none)
    | .agg cs => (match cs.toList.all Value.oneCell' with | true => (avsOf (avOf n) cs.toList).map .agg | false => none)
    | .tuple cs => (avsOf (avOf n) cs.toList).map .tup
    | _ => none

def opd : Operand → Option Opd
  | .tmp t => some (slot (gpos t))
  | .const v => (avOf 4 v).map konst
  | .func f => some (konst (.func f [] []))
  | .global g => some (konst (.gptr g))

def opds : List Operand → Option (List Opd)
  | [] => some []
  | x :: l => do pure ((← opd x) :: (← opds l))
def opdO : Option Operand → Option (Option Opd)
  | none => some none
  | some x => (opd x).map some

section
variable (P : Program)
def zeroV (t : TypeId) : Option AV := do avOf 4 (← (← P.info? t).zero)
def zeroL (t : TypeId) : Option (List AV) := do match ← zeroV P t with | .agg cs => pure cs | .tup _ => none | v => pure [v]
def isU8 (t : TypeId) : Option Bool := do
  match ← P.underlying t with
  | .int .u8 => pure true
  | _ => pure false
def aggOf (t : TypeId) : Option Bool := do
  match ← P.underlying t with
  | .struct _ | .array _ _ => pure true
  | _ => pure false
def szOf (t : TypeId) : Option Nat := (P.info? t).map (·.size)
def byOf (t : TypeId) : Option Nat := (P.info? t).map (·.bytes)
/-- An element type: its cells, its bytes, is it a byte, its zero's cells. -/
def elemOf (e : TypeId) : Option (Nat × Nat × Bool × List AV) := do
  let n ← szOf P e
  let z ← zeroL P e
  match Nat.beq n z.length, ← isU8 P e with
  | true, false => pure (n, ← byOf P e, false, z)
  | true, true => (match n, z with | 1, [.int .u8 (.ofNat 0)] => do pure (1, ← byOf P e, true, [.int .u8 (.ofNat 0)]) | _, _ => none)
  | _, _ => none
def partsOf (place : Nat → Option (Nat × Nat)) : List (Nat × Operand) → Option (List (Nat × Nat × Opd))
  | [] => some []
  | (i, x) :: l => (place i).bind fun p => (opd x).bind fun d => (partsOf place l).map fun r => (p.1, p.2, d) :: r
def placesOf (fs : List Field) : Option (List (Nat × Nat)) := fs.mapM (fun f => (P.info? f.type).map fun i => (f.offset, i.size))

def pureO (d : OpD) : Option AOp := some (.op d false false)
def readO (d : OpD) : Option AOp := some (.op d false true)
def actsO (d : OpD) : Option AOp := some (.op d true true)

/-- A struct of two integers, which the model compares cell by cell. -/
def isPair (t : TypeId) (fs : Array Field) : Option Bool := match fs.toList with
  | [f, g] => (P.underlying f.type).bind fun a => (P.underlying g.type).bind fun b => match a, b with
    | .int _, .int _ => some (Nat.beq f.offset 0 && (Nat.beq g.offset 1 && (!(f.name == "_") && (!(g.name == "_") && (!(P.stoodInHeld t) && !(P.eqGuardType P.depth t))))))
    | _, _ => none
  | _ => none

def keyFn (t : TypeId) : Option (AV → AV → Option Bool) := (P.underlying t).bind fun d => match d with
  | .int _ => some eqKI
  | .string => some eqKS
  | .bool => some eqB
  | .struct fs => (isPair P t fs).bind fun b => (match b with | true => some eqPair | false => none)
  | _ => none

def compBin (op : BinOp) (xt : TypeId) (x y : Opd) : Option AOp := match op with
  | .add => pureO (oAdd x y)
  | .sub => pureO (oArith subI x y)
  | .mul => pureO (oArith mulI x y)
  | .quo => pureO (oDiv false x y)
  | .rem => pureO (oDiv true x y)
  | .and => pureO (oBits Nat.land x y)
  | .or => pureO (oBits Nat.lor x y)
  | .xor => pureO (oBits Nat.xor x y)
  | .andNot => pureO (oBits andNotN x y)
  | .shl => pureO (oShl x y)
  | .shr => pureO (oShr x y)
  | .lss => pureO (oCmp2 roLss (fun a b => !(leI b a)) (fun n a m b => ltS (n + m) n a m b) x y)
  | .gtr => pureO (oCmp2 roGtr (fun a b => !(leI a b)) (fun n a m b => ltS (n + m) m b n a) x y)
  | .leq => pureO (oCmp2 roLeq leI (fun n a m b => !(ltS (n + m) m b n a)) x y)
  | .geq => pureO (oCmp2 roGeq (fun a b => leI b a) (fun n a m b => !(ltS (n + m) n a m b)) x y)
  | .eql => do
    match ← P.underlying xt with
    | .int _ | .string => pureO (oCmp2 roEql eqI eqS x y)
    | .bool => pureO (oEq false eqB x y)
    | .pointer e => do match ← szOf P e with | 0 => none | _ + 1 => pureO (oEq false eqP x y)
    | .slice _ => pureO (oEq false eqNS x y)
    | .map _ _ => pureO (oEq false eqNM x y)
    | .func _ _ _ => pureO (oEq false eqNF x y)
    | .struct fs => do match ← isPair P xt fs with | true => pureO (oEq false eqPairS x y) | false => none
    | _ => none
  | .neq => do
    match ← P.underlying xt with
    | .int _ | .string => pureO (oCmp2 roNeq (fun a b => !(eqI a b)) (fun n a m b => !(eqS n a m b)) x y)
    | .bool => pureO (oEq true eqB x y)
    | .pointer e => do match ← szOf P e with | 0 => none | _ + 1 => pureO (oEq true eqP x y)
    | .slice _ => pureO (oEq true eqNS x y)
    | .map _ _ => pureO (oEq true eqNM x y)
    | .func _ _ _ => pureO (oEq true eqNF x y)
    | .struct fs => do match ← isPair P xt fs with | true => pureO (oEq true eqPairS x y) | false => none
    | _ => none

def isConstO (x : Operand) : Bool := match x with | .const _ => true | _ => false
def isIfc (t : TypeId) : Bool := match P.underlying t with | some (.interface _) => true | _ => false
/-- Equality of interfaces: of a constant nil; of two basic values. -/
def eqIf (c : Bool) (x y : AV) : Option Bool := match x, y with
  | .niliface, .niliface => (match c with | true => some true | false => none)
  | .niliface, .iface _ _ => some false
  | .iface _ _, .niliface => some false
  | .iface t v, .iface u w => (match Nat.beq t u with
    | false => some false
    | true => (P.info? t).bind fun i => (match i.comparable with
      | true => (P.underlying t).bind fun d => (match d with
        | .int _ => eqKI v w
        | _ => none)
      | false => none))
  | _, _ => none
/-- Which function a method's name is at a dynamic type: itself on the value; or on what the value points to. -/
def selOf (name : String) (t : TypeId) : Option (FuncId × Option (Bool × Nat)) := (P.info? t).bind fun i => (i.methods.find? (·.name == name)).bind fun m => match m.path.toList, m.func with
  | [], some p => (P.underlying t).bind fun d => (match d, p.2 with
    | .pointer _, true => some (p.1, none)
    | .pointer e, false => (aggOf P e).bind fun g => (szOf P e).map fun n => (p.1, some (g, n))
    | _, false => some (p.1, none)
    | _, true => none)
  | _, _ => none
/-- Is it the function that looks for a byte in a string? -/
def isExt (name : String) (f : FuncId) : Bool := match P.funcs[f]? with
  | some fn => fn.body.isNone && (fn.name == name && fn.origin == "")
  | none => false
def isIdx (f : FuncId) : Bool := match P.funcs[f]? with
  | some fn => fn.body.isNone && (fn.name == "internal/bytealg.IndexByteString" && fn.origin == "")
  | none => false

def compOp (o : Oper) : Option AOp := match o.op with
  | .move x | .assign x => do pureO (oMov (← opd x))
  | .pick c a b => do pureO (oPick (← opd c) (← opd a) (← opd b))
  | .alloc t => do actsO (oBox (← szOf P t) (konst (← zeroV P t)))
  | .box t x => do actsO (oBox (← szOf P t) (← opd x))
  | .build t parts => do
    let z ← zeroL P t
    match ← P.underlying t with
    | .struct fs => do
      let places ← placesOf P fs.toList
      pureO (oBuild z (← partsOf (places.toArray[·]?) parts.toList))
    | .array _ e => do
      let n ← szOf P e
      pureO (oBuild z (← partsOf (fun i => some (i * n, n)) parts.toList))
    | _ => none
  | .buildSlice t len parts => do
    match ← P.underlying t with
    | .slice e => do
      let (n, _, u8, z) ← elemOf P e
      match Nat.ble (len * n) (2 ^ 24) with
      | false => none
      | true => actsO (oBslice n len u8 z (← partsOf (fun i => some (i * n, n)) parts.toList))
    | _ => none
  | .load t x => do
    match ← aggOf P t with
    | true => readO (oLoadA (← szOf P t) (← opd x))
    | false => readO (oLoad2 (← opd x))
  | .store t a x => do
    match ← szOf P t with
    | 0 => none
    | n + 1 => actsO (oStore (n + 1) (← opd a) (← opd x))
  | .nilCheck x => do pureO (oNilck (← opd x))
  | .binOp op xt x y _ => (match isIfc P xt, op with
    | true, .eql => do pureO (oEq false (eqIf P (isConstO x || isConstO y)) (← opd x) (← opd y))
    | true, .neq => do pureO (oEq true (eqIf P (isConstO x || isConstO y)) (← opd x) (← opd y))
    | _, _ => do compBin P op xt (← opd x) (← opd y))
  | .unOp .not _ x => do pureO (oNot (← opd x))
  | .unOp .neg _ x => do pureO (oNeg (← opd x))
  | .unOp .xor _ x => do pureO (oCom (← opd x))
  | .convert s d x => do
    match ← P.underlying s, ← P.underlying d with
    | .int _, .int k => pureO (oToInt k (← opd x))
    | .slice e, .slice _ => do
      match ← P.underlying e with
      | .int .u8 => (match Nat.beq s d with | true => do actsO (oStrish (← opd x)) | false => none)
      | _ => none
    | .string, .string => pureO (oStrId (← opd x))
    | .string, .slice e => do match ← P.underlying e with | .int .u8 => actsO (oToBytes (← opd x)) | _ => none
    | .slice e, .string => do match ← P.underlying e with | .int .u8 => readO (oToStr (← opd x)) | _ => none
    | .int _, .string => pureO (oRuneS (← opd x))
    | _, _ => none
  | .makeFunc (.func f) a c => do pureO (oFunc f (← opds a.toList) (← opds c.toList))
  | .makeSlice t l c => do
    match ← P.underlying t with
    | .slice e => do
      let (n, b, u8, z) ← elemOf P e
      actsO (oMkSlice n b u8 z (← opd l) (← opd c))
    | _ => none
  | .makeMap _ none => actsO oMkMap
  | .lookup t m x ok => do
    match ← P.underlying t with
    | .map k e => readO (oLookup (← keyFn P k) ok (← zeroV P e) (← opd m) (← opd x))
    | _ => none
  | .mapUpdate t m x v => do
    match ← P.underlying t with
    | .map k _ => actsO (oMapSet (← keyFn P k) (← opd m) (← opd x) (← opd v))
    | _ => none
  | .range t x => do
    match ← P.underlying t with
    | .string => actsO (oRangeS (← opd x))
    | .map _ _ => actsO (oRangeM (← opd x))
    | _ => none
  | .next x true => do actsO (oNextS (← opd x))
  | .next x false => do pure (.brop (oNextM (← opd x)))
  | .entry x => do readO (oEntry (← opd x))
  | .makeInterface t x => do
    match ← P.underlying t with
    | .interface _ => none
    | _ => pureO (oIface t (← opd x))
  | .typeAssert x _ t ok => do
    match ← P.underlying t with
    | .interface _ => none
    | _ => pureO (oAssert t ok (← zeroV P t) (← opd x))
  | .slice t x lo hi none => do
    match ← P.underlying t with
    | .slice e => pureO (oSlice2 (← szOf P e) (← opd x) (← opdO lo) (← opdO hi))
    | .string => pureO (oSliceS (← opd x) (← opdO lo) (← opdO hi))
    | .array n e => pureO (oSliceA (← szOf P e) n (← opd x) (← opdO lo) (← opdO hi))
    | _ => none
  | .slice t x lo (some hi) (some mx) => do
    match ← P.underlying t with
    | .slice e => pureO (oSlice3 (← szOf P e) (← opd x) (← opdO lo) (← opd hi) (← opd mx))
    | _ => none
  | .fieldAddr t x f => do
    match ← P.underlying t with
    | .struct fs => do
      let f ← fs[f]?
      match ← szOf P f.type with
      | 0 => none
      | _ + 1 => pureO (oFaddr f.offset (← opd x))
    | _ => none
  | .field t x f => do
    match ← P.underlying t with
    | .struct fs => do
      let f ← fs[f]?
      match ← aggOf P f.type with
      | true => pureO (oFieldA f.offset (← szOf P f.type) (← opd x))
      | false => pureO (oField f.offset (← opd x))
    | _ => none
  | .indexAddr t x i => do
    match ← P.underlying t with
    | .slice e => pureO (oIaddr (← szOf P e) (← opd x) (← opd i))
    | .array n e => pureO (oIaddrA (← szOf P e) n (← opd x) (← opd i))
    | _ => none
  | .index t x i => do
    match ← P.underlying t with
    | .string => pureO (oIdxS (← opd x) (← opd i))
    | .array n e => do
      match ← aggOf P e with
      | true => pureO (oIdxA n (← szOf P e) (← opd x) (← opd i))
      | false => do match ← szOf P e with | 1 => pureO (oIdx n (← opd x) (← opd i)) | _ => none
    | _ => none
  | .extract x i => do pureO (oExtract i (← opd x))
  | .call c => match c.callee with
    | .builtin .len => (match c.args.toList, c.argTypes.toList with
      | [x], [t] => do
        match ← P.underlying t with
        | .string => pureO (oLenS (← opd x))
        | .slice _ => pureO (oLenL2 (← opd x))
        | .map _ _ => readO (oLenM (← opd x))
        | _ => none
      | _, _ => none)
    | .builtin .min => (match c.args.toList with
      | [x, y] => do pureO (oMin false (← opd x) (← opd y))
      | _ => none)
    | .builtin .max => (match c.args.toList with
      | [x, y] => do pureO (oMin true (← opd x) (← opd y))
      | _ => none)
    | .builtin .delete => (match c.args.toList, c.argTypes.toList with
      | [m, x], t :: _ => do
        match ← P.underlying t with
        | .map k _ => actsO (oMapDel (← keyFn P k) (← opd m) (← opd x))
        | _ => none
      | _, _ => none)
    | .builtin .append => (match c.args.toList, c.argTypes.toList with
      | [s, x], [t, xt] => do
        match ← P.underlying t, ← P.underlying xt with
        | .slice e, .int _ => do
          let (n, b, u8, z) ← elemOf P e
          match n, b with
          | n + 1, b + 1 => actsO (oAppendZ (n + 1) (b + 1) u8 z (← opd s) (← opd x))
          | _, _ => none
        | .slice e, .slice _ => do
          let (n, b, u8, _) ← elemOf P e
          match n, b with
          | n + 1, b + 1 => actsO (oAppend2 (n + 1) (b + 1) u8 (← opd s) (← opd x))
          | _, _ => none
        | .slice e, .string => do
          let (n, b, u8, _) ← elemOf P e
          match n, b, u8 with
          | 1, 1, true => actsO (oAppend2 1 1 true (← opd s) (← opd x))
          | _, _, _ => none
        | _, _ => none
      | _, _ => none)
    | .builtin .copy => (match c.args.toList, c.argTypes.toList with
      | [s, x], t :: _ => do
        match ← P.underlying t with
        | .slice e => do
          let (n, _, u8, _) ← elemOf P e
          match n with
          | n + 1 => actsO (oCopy (n + 1) u8 (← opd s) (← opd x))
          | _ => none
        | _ => none
      | _, _ => none)
    | .value (.func f) => (match isIdx P f with
      | true => (match c.args.toList with
        | [s, x] => do pureO (oIdxB (← opd s) (← opd x))
        | _ => none)
      | false => (match isExt P "internal/bytealg.CountString" f with
        | true => (match c.args.toList with
          | [s, x] => do pureO (oCntB (← opd s) (← opd x))
          | _ => none)
        | false => do pure (.call f (← opds c.args.toList))))
    | .value x => do pure (.callv (← opd x) (← opds c.args.toList))
    | .invoke recv name => do pure (.callm (← opd recv) (selOf P name) (← opds c.args.toList))
    | _ => none
  | _ => none

def guardOf (ops : Array Oper) (g : Option (Nat × Bool)) : Option (Option (GPos × Bool)) := match g with
  | none => some none
  | some (j, want) => (ops[j]?).bind fun o => o.dst.map fun d => some (gpos d, want)
def dstOf (n : Nat) (d : Option Tmp) : Option (Option GPos) := match d with
  | none => some none
  | some d => (match Nat.blt d n with | true => some (some (gpos d)) | false => none)
def compOper (n : Nat) (ops : Array Oper) (o : Oper) : Option AOper :=
  (dstOf n o.dst).bind fun d => (compOp P o).bind fun a => (guardOf ops o.guard).map fun g => ⟨d, a, g⟩
def compOps (n : Nat) (ops : Array Oper) : List Oper → Option (List AOper)
  | [] => some []
  | o :: l => (compOper P n ops o).bind fun x => (compOps n ops l).map fun r => x :: r

/-! ### a region that draws its order -/
def actsB (o : AOp) : Bool := match o with | .op _ a _ => a | _ => true
def readsB (o : AOp) : Bool := match o with | .op _ a r => !a && r | _ => false
/-- Of each operation, as bits: those that come ahead of it for sure. -/
def masks : List Oper → List Nat → List Nat
  | [], acc => acc
  | o :: l, acc => forceN ((o.after.toList.filter (Region.binds .any)).foldl (fun s e => Nat.lor s (Nat.lor (2 ^ e.on) (acc.getD e.on 0))) 0) fun m => masks l (acc ++ [m])
/-- The slots that an operation looks at. -/
def looks (ops : Array Oper) (o : Oper) : List Tmp := Oper.looksAt ops o
/-- May the two not be exchanged, as to slots? -/
def clash (ops : Array Oper) (x y : Oper) : Bool := !(Oper.apart ops x y)
structure DOp where
  i : Nat
  o : Oper
  a : AOper
def chksFor (ms : List Nat) (s : Nat) : List DOp → List Item
  | [] => []
  | x :: l => (match readsB x.a.op && !((ms.getD s 0).testBit x.i), x.a.dst, x.a.op with
    | true, some d, .op d' _ _ => [.chk x.i d d' x.a.guard]
    | _, _, _ => []) ++ chksFor ms s l
/-- The order: at each step what no acting operation that is still to come need be ahead of, then the next acting one and the checks behind it. -/
def layOut (ms : List Nat) : (fuel : Nat) → (todo : List DOp) → (done : List DOp) → List Item
  | 0, _, _ => []
  | f + 1, todo, done =>
    let sp := todo.filter fun x => actsB x.a.op
    let now := todo.filter fun x => !(actsB x.a.op) && sp.all fun s => !((ms.getD x.i 0).testBit s.i)
    let later := todo.filter fun x => !(!(actsB x.a.op) && sp.all fun s => !((ms.getD x.i 0).testBit s.i))
    let done := done ++ now
    now.map (fun x => Item.ex x.i x.a) ++ match later.filter fun x => actsB x.a.op with
      | [] => []
      | s :: _ => Item.ex s.i s.a :: chksFor ms s.i done ++ layOut ms f (later.filter fun x => !(Nat.beq x.i s.i)) (done ++ [s])
def dops : Nat → List Oper → List AOper → List DOp
  | i, o :: l, a :: m => ⟨i, o, a⟩ :: dops (i + 1) l m
  | _, _, _ => []
def ordOf : List Item → List Nat
  | [] => []
  | .ex i _ :: l => i :: ordOf l
  | .chk _ _ _ _ :: l => ordOf l
def noDup : List Nat → Bool
  | [] => true
  | x :: l => !(l.any (Nat.beq x)) && noDup l
def actAt (l : List AOper) (i : Nat) : Bool := match l[i]? with | some x => actsB x.op | none => true
def readAt (l : List AOper) (i : Nat) : Bool := match l[i]? with | some x => readsB x.op | none => true
def dstAt (ops : Array Oper) (i : Nat) : Option Tmp := (ops[i]?).bind (·.dst)
def looksA (ops : Array Oper) (i : Nat) : List Tmp := match ops[i]? with | some o => Oper.looksAt ops o | none => []
/-- Does y write what x looks at or writes? -/
def wrecks (ops : Array Oper) (x y : Nat) : Bool := match dstAt ops y with
  | some d => (looksA ops x).contains d || dstAt ops x == some d
  | none => false
/-- An operation that makes a new variable: it may be done at any time. -/
def floatAt (ops : Array Oper) (i : Nat) : Bool := match ops[i]? with
  | some o => (match o.op, o.guard with | .alloc _, none => true | _, _ => false)
  | none => false
/-- The first such one that stands in no order to another acting operation. -/
def floatOf (ops : Array Oper) (l : List AOper) (ms : List Nat) : Option Nat :=
  (List.range ops.size).find? fun i => floatAt ops i && (List.range ops.size).any fun j => actAt l j && (!(Nat.beq i j) && (!((ms.getD i 0).testBit j) && !((ms.getD j 0).testBit i)))
def isFl (fl : Option Nat) (y : Nat) : Bool := match fl with | some A => Nat.beq A y | none => false
/-- x stands ahead of y. -/
def pairOK (ops : Array Oper) (l : List AOper) (ms : List Nat) (fl : Option Nat) (x y : Nat) : Bool :=
  (ms.getD y 0).testBit x || (!(wrecks ops x y || wrecks ops y x) && (!(actAt l x) || isFl fl y))
def pairsOK (ops : Array Oper) (l : List AOper) (ms : List Nat) (fl : Option Nat) : List Nat → Bool
  | [] => true
  | x :: r => r.all (pairOK ops l ms fl x) && pairsOK ops l ms fl r
def chkRun : List Item → List Nat
  | .chk i _ _ _ :: l => i :: chkRun l
  | _ => []
/-- Behind each acting operation stand the checks that are wanted; what is checked is not overwritten. -/
def chksOK (ops : Array Oper) (l : List AOper) (ms : List Nat) : (done : List Nat) → List Item → Bool
  | _, [] => true
  | done, .ex s _ :: r => (!(actAt l s) || done.all fun i => !(readAt l i) || (ms.getD s 0).testBit i || (chkRun r).contains i) && chksOK ops l ms (done ++ [s]) r
  | done, .chk i _ _ _ :: r => done.contains i && !((looksA ops i).any fun t => dstAt ops i == some t) && chksOK ops l ms done r
def chkd : List Item → List Nat
  | [] => []
  | .chk i _ _ _ :: l => i :: chkd l
  | .ex _ _ :: l => chkd l
def keepsOK (ops : Array Oper) (cs : List Nat) : List Nat → Bool
  | [] => true
  | x :: r => (!(cs.contains x) || r.all fun y => !(wrecks ops x y)) && keepsOK ops cs r
def edgesOK : Nat → List Oper → Bool
  | _, [] => true
  | i, o :: l => (o.after.toList.all fun e => !(Region.binds .any e) || Nat.blt e.on i) && edgesOK (i + 1) l
def drawOK0 (ops : Array Oper) (l : List AOper) (items : List Item) : Bool :=
  let ms := masks ops.toList []
  let ord := ordOf items
  let fl := floatOf ops l ms
  (List.range ops.size).all (fun i => ord.contains i) && ord.all (fun i => Nat.blt i ops.size) && noDup ord && pairsOK ops l ms fl ord && chksOK ops l ms [] items && keepsOK ops (chkd items) ord && (match fl with | some A => floatAt ops A | none => true)
def drawOK (ops : Array Oper) (l : List AOper) (items : List Item) : Bool := drawOK0 ops l items && edgesOK 0 ops.toList
def drawItems (ops : Array Oper) (l : List AOper) : List Item :=
  layOut (masks ops.toList []) (l.length + 1) (dops 0 ops.toList l) []
def cFail : CodeD := fun _ _ _ _ _ => False
def orFail : Option CodeD → CodeD
  | some d => d
  | none => cFail
/-! ### a region whose acting operations may come in more than one order: each of them -/
/-- The orders in which some operations may come. -/
def extsF (acts ms : List Nat) : Nat → List Nat → List (List Nat)
  | 0, _ => [[]]
  | f + 1, done => match acts.filter (fun i => !(done.contains i) && acts.all fun j => !((ms.getD i 0).testBit j) || (done.contains j || Nat.beq j i)) with
    | [] => [[]]
    | i :: r => (i :: r).flatMap fun i => (extsF acts ms f (done ++ [i])).map fun l => i :: l
/-- What stands ahead of i. -/
def headOf (i : Nat) : List Nat → List Nat
  | [] => []
  | x :: l => (match Nat.beq x i with | true => [] | false => x :: headOf i l)
/-- An operation with further ones ahead of it. -/
def moreE (σ : List Nat) (i : Nat) (o : Oper) : Oper := { o with after := (o.after.toList ++ (match σ.contains i with | true => (headOf i σ).map fun p => ⟨p, .chain⟩ | false => [])).toArray }
def seqL (σ : List Nat) : Nat → List Oper → List Oper
  | _, [] => []
  | i, o :: l => moreE σ i o :: seqL σ (i + 1) l
/-- The operations, with one order of some of them laid upon them. -/
def seqE (σ : List Nat) (ops : Array Oper) : Array Oper := (seqL σ 0 ops.toList).toArray
def sortD (σ : List Nat) (ds : List DOp) : List DOp := (σ.filterMap fun i => ds[i]?) ++ ds.filter fun x => !(actsB x.a.op)
def drawItemsS (σ : List Nat) (ops : Array Oper) (l : List AOper) : List Item := layOut (masks ops.toList []) (l.length + 1) (sortD σ (dops 0 ops.toList l)) []
def actsOf (l : List AOper) : List Nat := (List.range l.length).filter (actAt l)
def altOrds (ops : Array Oper) (l : List AOper) : List (List Nat) := extsF (actsOf l) (masks ops.toList []) (actsOf l).length []
def altsOK (ops : Array Oper) (l : List AOper) : Bool := Nat.ble (actsOf l).length 5 && (edgesOK 0 ops.toList && (altOrds ops l).all fun σ => drawOK0 (seqE σ ops) l (drawItemsS σ (seqE σ ops) l))
abbrev allD (ds : List RegD) : RegD := fun cf fr h K => List.rec (motive := fun _ => Prop) True (fun d ds ih => List.rec (motive := fun _ => Prop) (d cf fr h K) (fun _ _ _ => d cf fr h K ∧ ih) ds) ds
def altsD (ops : Array Oper) (l : List AOper) : RegD := allD ((altOrds ops l).map fun σ => itemsD (drawItemsS σ (seqE σ ops) l))
def compReg (n : Nat) (ops : Array Oper) (d : Bool) : Option CodeD := (compOps P n ops ops.toList).bind fun l => match d with
    | true => (match drawOK ops l (drawItems ops l) with
      | true => some (cRegion (itemsD (drawItems ops l)))
      | false => (match altsOK ops l with | true => some (cRegion (altsD ops l)) | false => none))
    | false => some (cRegion (regD l))
def comp (n : Nat) : Code → Option CodeD
  | .skip => some cSkip
  | .region _ ops d => some (orFail (compReg P n ops d))
  | .seq a b => (comp n a).bind fun x => (comp n b).map fun y => cSeq x y
  | .cond c a b => (comp n a).bind fun x => (comp n b).map fun y => match opd c with | some t => cCond t x y | none => cFail
  | .block id b => (comp n b).map fun x => cBlock id x
  | .loop b => (comp n b).map fun x => cLoop x
  | .exit id => some (cExit id)
  | .ret => some cRet
  | .scope b => comp n b
  | .label _ => some cSkip
  | _ => some cFail
def compRes : List ResultVar → Option (List ARes)
  | [] => some []
  | .tmp t :: l => (compRes l).map fun r => .tmp (gpos t) :: r
  | .cell a t :: l => (aggOf P t).bind fun g => (szOf P t).bind fun n => (compRes l).map fun r => .cell (gpos a) g n :: r
def compF (f : Func) : Option AFunc := match f.name == "runtime.NumGoroutine", f.body with
  | false, some c => (comp P f.ntmps c).bind fun d => (compRes P f.results.toList).map fun r => ⟨d, r⟩
  | _, _ => none
def tabOf (f : FuncId) : Option AFunc := (P.funcs[f]?).bind (compF P)
end

end
end Go.Am
