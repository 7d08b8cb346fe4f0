/- The abstract machine. -/
import Derived.Orders
import Derived.Tactics
import Derived.Below
import Derived.ChangeKeysEq
import Derived.Laws.BytesString
import Derived.Laws.AppendOwn
import Derived.Great.FillDense
import Derived.Laws.Panics
import Derived.Laws.StructEq
import Derived.Laws.Cover3
import Derived.Laws.IdiomCopy
import Derived.IntWalk
set_option linter.unusedSimpArgs false
set_option linter.unusedVariables false
/- The abstract machine: what a function of the loaded program comes to, over a heap without addresses of the real one, without capacities that Go leaves open and without the order in which a statement's parts are carried out. Definitions alone. -/
namespace Go.Den

/- ### A heap: a tree by numbers -/
inductive Tr (α : Type) where
  | leaf
  | node (l : Tr α) (v : Option α) (r : Tr α)

namespace Tr
variable {α : Type}
def get : Tr α → Nat → Option α
  | leaf, _ => none
  | node l v r, i =>
    match Nat.beq i 0 with
    | true => v
    | false => match Nat.beq (i % 2) 1 with
      | true => l.get (i / 2)
      | false => r.get (i / 2 - 1)
def setF : Nat → Tr α → Nat → α → Tr α
  | 0, t, _, _ => t
  | f + 1, t, i, a =>
    match t with
    | leaf =>
      match Nat.beq i 0 with
      | true => node leaf (some a) leaf
      | false => match Nat.beq (i % 2) 1 with
        | true => node (setF f leaf (i / 2) a) none leaf
        | false => node leaf none (setF f leaf (i / 2 - 1) a)
    | node l v r =>
      match Nat.beq i 0 with
      | true => node l (some a) r
      | false => match Nat.beq (i % 2) 1 with
        | true => node (setF f l (i / 2) a) v r
        | false => node l v (setF f r (i / 2 - 1) a)
def set (t : Tr α) (i : Nat) (a : α) : Tr α := setF (i + 1) t i a
end Tr

/- ### Values -/
inductive Cap where
  | known (c : Nat)
  | more (lb sz : Nat)

/-- What an operation with a known number comes to. -/
inductive FV where
  | b (x : Bool)
  | i (n : Int)

inductive AV where
  | bool (b : Bool)
  | int (k : IntKind) (n : Int)
  | str (s : List UInt8)
  | ptr (a : Option (Nat × Nat))
  | glob (g : Nat)
  | sl (a : Option (Nat × Nat)) (len : Nat) (cap : Cap)
  | fn (f : Fn) (first captured : List AV)
  | nilFn
  | lit (v : Value)
  | agg (cs : List AV)
  | tup (vs : List AV)
  | fact (k : IntKind) (fs : List (List (BinOp × Int) × FV))   -- some number of which this is known: what it comes to by such operations, one by one
instance : Inhabited AV := ⟨.nilFn⟩

def undefA : AV := .tup []

def AV.cells : AV → List AV
  | .agg cs => cs
  | v => [v]

mutual
def ofVal : Value → Option AV
  | .bool b => some (.bool b)
  | .int k n => some (.int k n)
  | .string s => some (.str s.data.toList)
  | .pointer none => some (.ptr none)
  | .slice none 0 0 => some (.sl none 0 (.known 0))
  | .nilFunc => some .nilFn
  | .nilIface => some (.lit .nilIface)
  | .map none => some (.lit (.map none))
  | .func (.func f) ⟨[]⟩ ⟨[]⟩ => some (.fn (.func f) [] [])
  | .agg ⟨cs⟩ => match ofVals cs with
    | some l => some (.agg l)
    | none => none
  | .tuple ⟨[]⟩ => some (.tup [])
  | _ => none
def ofVals : List Value → Option (List AV)
  | [] => some []
  | v :: vs => match ofVal v with
    | none => none
    | some a => match ofVals vs with
      | none => none
      | some l => some (a :: l)
end

inductive Ent where
  | cells (ro : Bool) (fam : Option (Nat × Nat)) (cs : List AV)
  | fam (ms : List Nat)
  | dead

structure St where
  h : Tr Ent
  n : Nat

def St.get (s : St) (i : Nat) : Option Ent := s.h.get i

/- ### Memory -/
def readL (cs : List AV) (off n : Nat) : Option (List AV) :=
  match Nat.ble (off + n) cs.length with
  | true => some ((cs.drop off).take n)
  | false => none
def writeL (cs : List AV) (off : Nat) (vs : List AV) : List AV := cs.take off ++ (vs ++ cs.drop (off + vs.length))

def St.read (s : St) (b off n : Nat) : Option (List AV) :=
  match Nat.blt b s.n with
  | false => none
  | true => match s.get b with
    | some (.cells _ _ cs) => readL cs off n
    | _ => none

/-- The members of a family that do not reach into [lo, hi) stay; the others are dead. -/
def poison (b lo hi : Nat) : List Nat → Tr Ent → List Nat × Tr Ent
  | [], h => ([], h)
  | m :: ms, h =>
    match Nat.beq m b with
    | true => match poison b lo hi ms h with
      | (l, h') => (m :: l, h')
    | false =>
      match h.get m with
      | some (.cells _ (some (_, base)) cs) =>
        match Nat.ble hi base || Nat.ble (base + cs.length) lo with
        | true => match poison b lo hi ms h with
          | (l, h') => (m :: l, h')
        | false => poison b lo hi ms (h.set m .dead)
      | _ => poison b lo hi ms h

def scalarV : AV → Bool
  | .agg _ | .tup _ => false
  | _ => true
def scalars : List AV → Bool
  | [] => true
  | v :: vs => scalarV v && scalars vs

def St.write (s : St) (b off : Nat) (vs : List AV) : Option St :=
  match s.get b with
  | some (.cells false fam cs) =>
    match Nat.ble (off + vs.length) cs.length && scalars vs with
    | false => none
    | true =>
      match fam with
      | none => some { s with h := s.h.set b (.cells false none (writeL cs off vs)) }
      | some (r, base) =>
        match s.get r with
        | some (.fam ms) =>
          match poison b (base + off) (base + off + vs.length) ms s.h with
          | (ms', h') => some { s with h := (h'.set r (.fam ms')).set b (.cells false (some (r, base)) (writeL cs off vs)) }
        | _ => none
  | _ => none

/-- A new block that has all its cells. -/
def St.new (s : St) (cs : List AV) : St := { h := s.h.set s.n (.cells false none cs), n := s.n + 1 }
/-- A new block with room behind it, of a family of its own. -/
def St.newOpen (s : St) (cs : List AV) : St := { h := (s.h.set s.n (.cells false (some (s.n + 1, 0)) cs)).set (s.n + 1) (.fam [s.n]), n := s.n + 2 }

/- ### Types -/
def isAggA (P : Program) (t : TypeId) : Option Bool :=
  match P.underlying t with
  | some (.struct _) | some (.array _ _) => some true
  | some _ => some false
  | none => none
def sizeA (P : Program) (t : TypeId) : Option Nat := match P.info? t with | some i => some i.size | none => none
def bytesA (P : Program) (t : TypeId) : Option Nat := match P.info? t with | some i => some i.bytes | none => none
def zeroA (P : Program) (t : TypeId) : Option AV :=
  match P.info? t with
  | some i => match i.zero with
    | some z => ofVal z
    | none => none
  | none => none
def partA (P : Program) (t : TypeId) (cs : List AV) (off : Nat) : Option AV :=
  match isAggA P t with
  | some true => match sizeA P t with
    | some n => match readL cs off n with
      | some l => some (.agg l)
      | none => none
    | none => none
  | some false => cs[off]?
  | none => none

/- ### Operations that touch no memory -/
def intOp (op : BinOp) (k : IntKind) (x y : Int) : Option AV :=
  match op with
  | .add => some (.int k (k.wrap (x + y)))
  | .sub => some (.int k (k.wrap (x - y)))
  | .mul => some (.int k (k.wrap (x * y)))
  | .quo => match decide (y = 0) with | true => none | false => some (.int k (k.wrap (x.tdiv y)))
  | .rem => match decide (y = 0) with | true => none | false => some (.int k (x.tmod y))
  | .and => some (.int k (k.wrap (BitVec.ofInt k.bits x &&& BitVec.ofInt k.bits y).toNat))
  | .or => some (.int k (k.wrap (BitVec.ofInt k.bits x ||| BitVec.ofInt k.bits y).toNat))
  | .xor => some (.int k (k.wrap (BitVec.ofInt k.bits x ^^^ BitVec.ofInt k.bits y).toNat))
  | .andNot => some (.int k (k.wrap (BitVec.ofInt k.bits x &&& ~~~(BitVec.ofInt k.bits y)).toNat))
  | .eql => some (.bool (x == y))
  | .neq => some (.bool (x != y))
  | .lss => some (.bool (decide (x < y)))
  | .leq => some (.bool (decide (x ≤ y)))
  | .gtr => some (.bool (decide (x > y)))
  | .geq => some (.bool (decide (x ≥ y)))
  | _ => none
def shiftOp (op : BinOp) (k : IntKind) (x y : Int) : Option AV :=
  match decide (y < 0) with
  | true => none
  | false =>
    match op with
    | .shl => some (.int k (k.wrap (x * 2 ^ (min y.toNat k.bits))))
    | .shr => some (.int k (x.fdiv (2 ^ (min y.toNat k.bits))))
    | _ => none
def eqBytes : List UInt8 → List UInt8 → Bool
  | [], [] => true
  | a :: x, b :: y => Nat.beq a.toNat b.toNat && eqBytes x y
  | _, _ => false
def ltBytes : List UInt8 → List UInt8 → Bool
  | _, [] => false
  | [], _ :: _ => true
  | a :: x, b :: y => Nat.blt a.toNat b.toNat || (Nat.beq a.toNat b.toNat && ltBytes x y)
def strOp (op : BinOp) (x y : List UInt8) : Option AV :=
  match op with
  | .add => match Nat.ble (x.length + y.length) 9223372036854775807 with | true => some (.str (x ++ y)) | false => none
  | .eql => some (.bool (eqBytes x y))
  | .neq => some (.bool (!eqBytes x y))
  | .lss => some (.bool (ltBytes x y))
  | .leq => some (.bool (ltBytes x y || eqBytes x y))
  | .gtr => some (.bool (!(ltBytes x y || eqBytes x y)))
  | .geq => some (.bool (!ltBytes x y))
  | _ => none

mutual
/-- Equality of values that hold numbers, bools and texts alone, by their type. -/
def eqA (P : Program) : Nat → TypeId → AV → AV → Option Bool
  | 0, _, _, _ => none
  | d + 1, t, x, y =>
    match P.underlying t with
    | some .bool => match x, y with
      | .bool a, .bool b => some (a == b)
      | _, _ => none
    | some (.int _) => match x, y with
      | .int k a, .int k' b => match decide (k = k') with
        | true => some (a == b)
        | false => none
      | _, _ => none
    | some .string => match x, y with
      | .str a, .str b => some (eqBytes a b)
      | _, _ => none
    | some (.pointer _) => match x, y with
      | .ptr none, .ptr b => some b.isNone
      | .ptr (some _), .ptr none => some false
      | _, _ => none
    | some (.slice _) => match x, y with
      | .sl none _ _, .sl b _ _ => some b.isNone
      | .sl (some _) _ _, .sl none _ _ => some false
      | _, _ => none
    | some (.func _ _ _) => match x, y with
      | .nilFn, .nilFn => some true
      | .nilFn, .fn _ _ _ => some false
      | .fn _ _ _, .nilFn => some false
      | _, _ => none
    | some (.struct fs) => match x, y with
      | .agg xs, .agg ys => match P.stoodInHeld t with
        | true => none
        | false => eqFieldsA P d fs.toList xs ys
      | _, _ => none
    | some (.array len e) => match x, y with
      | .agg xs, .agg ys => match sizeA P e with
        | some n => eqElemsA P d e n xs ys len 0
        | none => none
      | _, _ => none
    | _ => none
def eqFieldsA (P : Program) : Nat → List Field → List AV → List AV → Option Bool
  | 0, _, _, _ => none
  | _ + 1, [], _, _ => some true
  | d + 1, f :: fs, xs, ys =>
    match f.name != "_" with
    | false => eqFieldsA P d fs xs ys
    | true =>
      match partA P f.type xs f.offset with
      | none => none
      | some x => match partA P f.type ys f.offset with
        | none => none
        | some y => match eqA P d f.type x y with
          | none => none
          | some false => some false
          | some true => eqFieldsA P d fs xs ys
def eqElemsA (P : Program) : Nat → TypeId → Nat → List AV → List AV → Nat → Nat → Option Bool
  | 0, _, _, _, _, _, _ => none
  | _ + 1, _, _, _, _, 0, _ => some true
  | d + 1, e, n, xs, ys, k + 1, i =>
    match partA P e xs (i * n) with
    | none => none
    | some x => match partA P e ys (i * n) with
      | none => none
      | some y => match eqA P d e x y with
        | none => none
        | some false => some false
        | some true => eqElemsA P d e n xs ys k (i + 1)
end

def isAggV : AV → Bool
  | .agg _ => true
  | _ => false
/-- '==' of values at a type: of a struct or an array only where no interface is in it. -/
def equalA (P : Program) (t : TypeId) (x y : AV) : Option Bool :=
  match isAggV x && P.eqGuardType P.depth t with
  | true => none
  | false => eqA P 200 t x y

def FV.av (k : IntKind) : FV → AV
  | .b x => .bool x
  | .i n => .int k n
/-- What these operations come to, one by one. -/
def chainA (k : IntKind) : Int → List (BinOp × Int) → Option AV
  | n, [] => some (.int k n)
  | n, (op, c) :: rest => match intOp op k n c with
    | some (.int k' m) => match decide (k' = k) with
      | true => chainA k m rest
      | false => none
    | some (.bool b) => match rest with
      | [] => some (.bool b)
      | _ :: _ => none
    | _ => none
def hitA (op : BinOp) (c : Int) : List (List (BinOp × Int) × FV) → Option FV
  | [] => none
  | ([(o, d)], r) :: fs => match decide (o = op) && decide (d = c) with
    | true => some r
    | false => hitA op c fs
  | _ :: fs => hitA op c fs
def tailsA (op : BinOp) (c : Int) : List (List (BinOp × Int) × FV) → List (List (BinOp × Int) × FV)
  | [] => []
  | ((o, d) :: y :: ys, r) :: fs => match decide (o = op) && decide (d = c) with
    | true => (y :: ys, r) :: tailsA op c fs
    | false => tailsA op c fs
  | _ :: fs => tailsA op c fs
def factA (op : BinOp) (k : IntKind) (c : Int) (fs : List (List (BinOp × Int) × FV)) : Option AV :=
  match hitA op c fs with
  | some r => some (r.av k)
  | none => match tailsA op c fs with
    | [] => none
    | x :: xs => some (.fact k (x :: xs))
def binA (P : Program) (op : BinOp) (t : TypeId) (x y : AV) : Option AV :=
  match x, y with
  | .fact k fs, .int k' c => match decide (k = k') with
    | true => factA op k c fs
    | false => none
  | .int k a, .int k' b =>
    match op with
    | .shl => shiftOp .shl k a b
    | .shr => shiftOp .shr k a b
    | _ => match decide (k = k') with
      | true => intOp op k a b
      | false => none
  | .str a, .str b => strOp op a b
  | _, _ =>
    match op with
    | .eql => match equalA P t x y with
      | some r => some (.bool r)
      | none => none
    | .neq => match equalA P t x y with
      | some r => some (.bool (!r))
      | none => none
    | _ => none

def unA (op : UnOp) (x : AV) : Option AV :=
  match op, x with
  | .neg, .int k n => some (.int k (k.wrap (0 - n)))
  | .xor, .int k n => intOp .xor k (if k.signed then -1 else k.max) n
  | .not, .bool b => some (.bool (!b))
  | _, _ => none

/-- Where the parts of a literal go. -/
def fillA (place : Nat → Option (Nat × Nat)) (cells : List AV) : List (Nat × AV) → Option (List AV)
  | [] => some cells
  | (i, v) :: rest =>
    match place i with
    | none => none
    | some (off, size) =>
      match Nat.beq v.cells.length size && Nat.ble (off + v.cells.length) cells.length with
      | true => fillA place (writeL cells off v.cells) rest
      | false => none
def placesA (P : Program) : List Field → Option (List (Nat × Nat))
  | [] => some []
  | f :: fs => match sizeA P f.type with
    | none => none
    | some n => match placesA P fs with
      | none => none
      | some l => some ((f.offset, n) :: l)
def buildA (P : Program) (t : TypeId) (parts : List (Nat × AV)) : Option AV :=
  match zeroA P t with
  | none => none
  | some z =>
    match P.underlying t with
    | some (.struct fields) => match placesA P fields.toList with
      | none => none
      | some pl => match fillA (fun i => pl[i]?) z.cells parts with
        | some cs => some (.agg cs)
        | none => none
    | some (.array _ e) => match sizeA P e with
      | none => none
      | some n => match fillA (fun i => some (i * n, n)) z.cells parts with
        | some cs => some (.agg cs)
        | none => none
    | _ => none
/-- So many times these cells. -/
def timesL : Nat → List AV → List AV
  | 0, _ => []
  | n + 1, z => z ++ timesL n z
def boundA (x : AV) (y : Nat) : Option Nat :=
  match x with
  | .int _ i => match decide (0 ≤ i) && decide (i ≤ (y : Int)) with
    | true => some i.toNat
    | false => none
  | _ => none
def boundOr (x : Option AV) (y d : Nat) : Option Nat :=
  match x with
  | none => some d
  | some v => boundA v y
/-- x[lo:hi:mx] of a text. -/
def sliceStr (s : List UInt8) (lo hi mx : Option AV) : Option AV :=
  match mx with
  | some _ => none
  | none => match boundOr hi s.length s.length with
    | none => none
    | some h => match boundOr lo h 0 with
      | none => none
      | some l => some (.str ((s.take h).drop l))
/-- x[lo:hi:mx] of a slice of elements of sz cells; len, and how many are sure to be there. -/
def sliceSl (a : Option (Nat × Nat)) (len : Nat) (cap : Cap) (sz : Nat) (lo hi mx : Option AV) : Option AV :=
  match cap with
  | .known c =>
    match mx.isSome && hi.isNone with
    | true => none
    | false =>
    match boundOr mx c c with
    | none => none
    | some m => match boundOr hi m len with
      | none => none
      | some h => match boundOr lo h 0 with
        | none => none
        | some l => match a with
          | none => some (.sl none (h - l) (.known (m - l)))
          | some (b, off) => match Nat.beq m l with
            | true => some (.sl (some (b, off)) (h - l) (.known (m - l)))
            | false => some (.sl (some (b, off + l * sz)) (h - l) (.known (m - l)))
  | .more lb s =>
    match Nat.beq s sz with
    | false => none
    | true => match a with
      | none => none
      | some (b, off) =>
        match mx with
        | none => match boundOr hi lb len with
          | none => none
          | some h => match boundOr lo h 0 with
            | none => none
            | some l => some (.sl (some (b, off + l * sz)) (h - l) (.more (lb - l) sz))
        | some mv => match boundA mv lb with
          | none => none
          | some m => match hi with
            | none => none
            | some hv => match boundA hv m with
              | none => none
              | some h => match boundOr lo h 0 with
                | none => none
                | some l => match Nat.ble m l with
                  | true => none
                  | false => some (.sl (some (b, off + l * sz)) (h - l) (.known (m - l)))
def indexAddrA (P : Program) (t : TypeId) (x ix : AV) : Option AV :=
  match ix with
  | .int _ i =>
    match P.underlying t with
    | some (.array len e) => match x, sizeA P e with
      | .ptr (some (b, off)), some n => match decide (0 ≤ i) && decide (i < (len : Int)) with
        | true => some (.ptr (some (b, off + i.toNat * n)))
        | false => none
      | _, _ => none
    | some (.slice e) => match x, sizeA P e with
      | .sl (some (b, off)) len _, some n => match decide (0 ≤ i) && decide (i < (len : Int)) with
        | true => some (.ptr (some (b, off + i.toNat * n)))
        | false => none
      | _, _ => none
    | _ => none
  | _ => none
def indexA (P : Program) (t : TypeId) (x ix : AV) : Option AV :=
  match ix with
  | .int _ i =>
    match P.underlying t, x with
    | some (.array len e), .agg cs => match decide (0 ≤ i) && decide (i < (len : Int)), sizeA P e with
      | true, some n => partA P e cs (i.toNat * n)
      | _, _ => none
    | some .string, .str s => match decide (0 ≤ i) with
      | true => match s[i.toNat]? with
        | some b => some (.int .u8 b.toNat)
        | none => none
      | false => none
    | _, _ => none
  | _ => none
def fieldAddrA (P : Program) (t : TypeId) (x : AV) (f : Nat) : Option AV :=
  match P.underlying t, x with
  | some (.struct fs), .ptr (some (b, off)) => match fs[f]? with
    | none => none
    | some fd => match sizeA P fd.type with
      | none => none
      | some n => match Nat.beq n 0 with
        | true => none
        | false => some (.ptr (some (b, off + fd.offset)))
  | _, _ => none
def fieldA (P : Program) (t : TypeId) (x : AV) (f : Nat) : Option AV :=
  match P.underlying t, x with
  | some (.struct fs), .agg cs => match fs[f]? with
    | none => none
    | some fd => partA P fd.type cs fd.offset
  | _, _ => none
def sliceA (P : Program) (t : TypeId) (x : AV) (lo hi mx : Option AV) : Option AV :=
  match P.underlying t with
  | some .string => match x with
    | .str s => sliceStr s lo hi mx
    | _ => none
  | some (.slice e) => match x, sizeA P e with
    | .sl a len cap, some n => sliceSl a len cap n lo hi mx
    | _, _ => none
  | some (.array k e) => match x, sizeA P e with
    | .ptr (some (b, off)), some n => sliceSl (some (b, off)) k (.known k) n lo hi mx
    | _, _ => none
  | _ => none
def convA (P : Program) (src dst : TypeId) (x : AV) : Option AV :=
  match P.underlying src, P.underlying dst, x with
  | some _, some (.int k), .int _ n => some (.int k (k.wrap n))
  | some _, some .string, .str s => some (.str s)
  | _, _, _ => none
def minmaxA (mx : Bool) : List AV → Option AV
  | [.int k x, .int _ y] => some (.int k (if (if mx then y > x else y < x) then y else x))
  | [.int k x, .int _ y, .int _ z] =>
    let m := if (if mx then y > x else y < x) then y else x
    some (.int k (if (if mx then z > m else z < m) then z else m))
  | _ => none

/- ### Operands -/
def evA (tmps : List AV) : Operand → Option AV
  | .tmp t => some (tmps.getD t undefA)
  | .const v => ofVal v
  | .global g => some (.glob g)
  | .func f => some (.fn (.func f) [] [])
def evsA (tmps : List AV) : List Operand → Option (List AV)
  | [] => some []
  | x :: xs => match evA tmps x with
    | none => none
    | some v => match evsA tmps xs with
      | none => none
      | some l => some (v :: l)
def evOptA (tmps : List AV) : Option Operand → Option (Option AV)
  | none => some none
  | some x => match evA tmps x with
    | none => none
    | some v => some (some v)
def evPartsA (tmps : List AV) : List (Nat × Operand) → Option (List (Nat × AV))
  | [] => some []
  | (i, x) :: xs => match evA tmps x with
    | none => none
    | some v => match evPartsA tmps xs with
      | none => none
      | some l => some ((i, v) :: l)

/-- An operation that neither reads nor makes nor writes memory. -/
def pureA (P : Program) (tmps : List AV) : Op → Option AV
  | .move x | .assign x => evA tmps x
  | .pick c a b => match evA tmps c with
    | some (.bool true) => evA tmps a
    | some (.bool false) => evA tmps b
    | _ => none
  | .build t parts => match evPartsA tmps parts.toList with
    | some l => buildA P t l
    | none => none
  | .nilCheck x => match evA tmps x with
    | some (.ptr (some a)) => some (.ptr (some a))
    | some (.fn (.func f) first caps) => some (.fn (.func f) first caps)
    | _ => none
  | .binOp op t x y _ => match evA tmps x, evA tmps y with
    | some a, some b => binA P op t a b
    | _, _ => none
  | .unOp op _ x => match evA tmps x with
    | some a => unA op a
    | none => none
  | .convert src dst x => match evA tmps x with
    | some a => convA P src dst a
    | none => none
  | .makeFunc (.func f) first captured => match evsA tmps first.toList, evsA tmps captured.toList with
    | some l, some c => some (.fn (.func f) l c)
    | _, _ => none
  | .slice t x lo hi mx => match evA tmps x, evOptA tmps lo, evOptA tmps hi, evOptA tmps mx with
    | some a, some l, some h, some m => sliceA P t a l h m
    | _, _, _, _ => none
  | .fieldAddr t x f => match evA tmps x with
    | some a => fieldAddrA P t a f
    | none => none
  | .field t x f => match evA tmps x with
    | some a => fieldA P t a f
    | none => none
  | .indexAddr t x ix => match evA tmps x, evA tmps ix with
    | some a, some i => indexAddrA P t a i
    | _, _ => none
  | .index t x ix => match evA tmps x, evA tmps ix with
    | some a, some i => indexA P t a i
    | _, _ => none
  | .extract x i => match evA tmps x with
    | some (.tup vs) => vs[i]?
    | _ => none
  | .call { callee := .builtin .len, args := ⟨[x]⟩, argTypes := ⟨[t]⟩ } => match evA tmps x, P.underlying t with
    | some (.str s), some .string => some (.int .i64 s.length)
    | some (.sl _ n _), some (.slice _) => some (.int .i64 n)
    | some _, some (.array n _) => some (.int .i64 n)
    | _, _ => none
  | .call { callee := .builtin .cap, args := ⟨[x]⟩, argTypes := ⟨[t]⟩ } => match evA tmps x, P.underlying t with
    | some (.sl _ _ (.known c)), some (.slice _) => some (.int .i64 c)
    | _, _ => none
  | .call { callee := .builtin .max, args := args, .. } => match evsA tmps args.toList with
    | some l => minmaxA true l
    | none => none
  | .call { callee := .builtin .min, args := args, .. } => match evsA tmps args.toList with
    | some l => minmaxA false l
    | none => none
  | _ => none

/-- An operation that makes one block and does nothing else: its value, and the block's cells. -/
def allocA (P : Program) (tmps : List AV) (n : Nat) : Op → Option (AV × List AV)
  | .alloc t => match zeroA P t with
    | some z => some (.ptr (some (n, 0)), z.cells)
    | none => none
  | .box _ x => match evA tmps x with
    | some v => some (.ptr (some (n, 0)), v.cells)
    | none => none
  | .buildSlice t len parts => match P.underlying t, evPartsA tmps parts.toList with
    | some (.slice e), some l => match sizeA P e with
      | some sz => match Nat.ble (len * sz) 16777216 with
        | false => none
        | true =>
          match (match Nat.beq (len * sz) 0 with | true => some [] | false => match zeroA P e with | some z => (match Nat.beq z.cells.length sz with | true => some (timesL len z.cells) | false => none) | none => none : Option (List AV)) with
          | none => none
          | some z => match fillA (fun i => some (i * sz, sz)) z l with
            | some cs => some (.sl (some (n, 0)) len (.known len), cs)
            | none => none
      | none => none
    | _, _ => none
  | .makeSlice t l c => match P.underlying t, evA tmps l, evA tmps c with
    | some (.slice e), some (.int _ l), some (.int _ c) => match sizeA P e, bytesA P e with
      | some sz, some by_ =>
        match decide (0 ≤ l) && decide (l ≤ c) && decide (c ≤ 9223372036854775807) && decide ((by_ : Int) * c ≤ 140737488355328) with
        | false => none
        | true => match (match Nat.beq (c.toNat * sz) 0 with | true => some [] | false => match zeroA P e with | some z => (match Nat.beq z.cells.length sz with | true => some (timesL c.toNat z.cells) | false => none) | none => none : Option (List AV)) with
          | none => none
          | some z => some (.sl (some (n, 0)) l.toNat (.known c.toNat), z)
      | _, _ => none
    | _, _, _ => none
  | _ => none

/-- A read: where, how many cells, what is made of them. -/
inductive Made where
  | one | agg | bytes
def madeB : List AV → List UInt8 → Option AV
  | [], acc => some (.str acc.reverse)
  | .int .u8 n :: r, acc => madeB r (UInt8.ofNat n.toNat :: acc)
  | _ :: _, _ => none
def madeA : Made → List AV → Option AV
  | .one, [v] => some v
  | .one, _ => none
  | .agg, l => some (.agg l)
  | .bytes, l => madeB l []
def readA (P : Program) (tmps : List AV) : Op → Option (Nat × Nat × Nat × Made)
  | .load t x => match evA tmps x with
    | some (.ptr (some (b, off))) => match isAggA P t, sizeA P t with
      | some true, some n => some (b, off, n, .agg)
      | some false, some _ => some (b, off, 1, .one)
      | _, _ => none
    | _ => none
  | .convert src dst x => match P.underlying src, P.underlying dst with
    | some (.slice e), some .string => match P.underlying e, evA tmps x with
      | some (.int .u8), some (.sl (some (b, off)) len _) => some (b, off, len, .bytes)
      | _, _ => none
    | _, _ => none
  | _ => none

/-- The cells that append and copy take over. -/
def sourceA (st : St) (sz n : Nat) : AV → Option (List AV)
  | .sl (some (b, off)) len _ => match Nat.ble n len with
    | true => st.read b off (n * sz)
    | false => none
  | .sl none _ _ => match n with
    | 0 => some []
    | _ => none
  | .str s => match Nat.ble n s.length with
    | true => some ((s.take n).map fun b => .int .u8 b.toNat)
    | false => none
  | _ => none
def lenA : AV → Option Nat
  | .sl _ n _ => some n
  | .str s => some s.length
  | _ => none
def dropRef (ms : List Nat) (b : Nat) : List Nat := ms.filter fun m => !Nat.beq m b
def appendA (P : Program) (st : St) (e : TypeId) (s x : AV) : Option (AV × St) :=
  match s, sizeA P e, bytesA P e, lenA x with
  | .sl a len cap, some sz, some by_, some m =>
    match Nat.blt 0 by_ && Nat.ble ((3 * (len + m) + 2000) * by_) 281474976710656 with
    | false => none
    | true =>
    match sourceA st sz m x with
    | none => none
    | some new =>
      match Nat.beq new.length (m * sz) && scalars new with
      | false => none
      | true =>
      match (match cap with | .known c => Nat.ble (len + m) c | .more lb s' => Nat.beq s' sz && Nat.ble (len + m) lb) with
      | true =>   -- there is room, surely
        match a with
        | none => some (.sl none (len + m) cap, st)
        | some (b, off) => match new with
          | [] => some (.sl (some (b, off)) (len + m) cap, st)
          | _ => match st.write b (off + len * sz) new with
            | some st' => some (.sl (some (b, off)) (len + m) cap, st')
            | none => none
      | false =>
        match cap with
        | .known _ =>   -- there is none
          match sourceA st sz len s with
          | none => none
          | some old => match zeroA P e with
            | none => none
            | some z => match Nat.beq z.cells.length sz && Nat.beq old.length (len * sz) with
              | true => some (.sl (some (st.n, 0)) (len + m) (.more (len + m) sz), st.newOpen (old ++ new))
              | false => none
        | .more _ s' =>   -- there may be
          match Nat.beq s' sz, a with
          | true, some (b, off) =>
            match st.get b with
            | some (.cells false (some (r, base)) cs) =>
              match st.get r, readL cs off (len * sz), zeroA P e with
              | some (.fam ms), some old, some z =>
                match Nat.beq z.cells.length sz with
                | false => none
                | true =>
                match poison st.n (base + off + len * sz) (base + off + len * sz + m * sz) ms st.h with
                | (ms', h') => some (.sl (some (st.n, 0)) (len + m) (.more (len + m) sz),
                    { h := (h'.set r (.fam (st.n :: ms'))).set st.n (.cells false (some (r, base + off)) (old ++ new)), n := st.n + 1 })
              | _, _, _ => none
            | _ => none
          | _, _ => none
  | _, _, _, _ => none
def copyA (P : Program) (st : St) (e : TypeId) (d s : AV) : Option (AV × St) :=
  match d, sizeA P e, lenA s with
  | .sl a len _, some sz, some m =>
    match sourceA st sz (Nat.min m len) s with
    | none => none
    | some cs => match a with
      | none => some (.int .i64 (Nat.min m len), st)
      | some (b, off) => match cs with
        | [] => some (.int .i64 (Nat.min m len), st)
        | _ => match st.write b off cs with
          | some st' => some (.int .i64 (Nat.min m len), st')
          | none => none
  | _, _, _ => none
def clearA (P : Program) (st : St) (e : TypeId) (x : AV) : Option (AV × St) :=
  match x, zeroA P e, sizeA P e with
  | .sl _ 0 _, _, _ => some (.tup [], st)
  | .sl (some (b, off)) len _, some z, some sz => match Nat.beq z.cells.length sz && Nat.blt 0 sz with
    | true => match st.write b off (timesL len z.cells) with
      | some st' => some (.tup [], st')
      | none => none
    | false => none
  | _, _, _ => none

/-- What is called: a function of the program; the round of a loop over a function. -/
abbrev CallA := FuncId → List AV → St → Option (AV × St)

/-- math/bits' two that have no text. -/
def externA (name : String) (args : List AV) : Option AV :=
  match args with
  | [.int .u64 x, .int .u64 y, .int .u64 c] =>
    match decide (0 ≤ c) && decide (c ≤ 1) with
    | false => none
    | true =>
      match name == "math/bits.Add64" with
      | true => some (.tup [.int .u64 (((x.toNat + y.toNat + c.toNat) % 18446744073709551616 : Nat) : Int), .int .u64 (((x.toNat + y.toNat + c.toNat) / 18446744073709551616 : Nat) : Int)])
      | false => match name == "math/bits.Sub64" with
        | true => some (.tup [.int .u64 (((x.toNat + 18446744073709551616 - y.toNat - c.toNat) % 18446744073709551616 : Nat) : Int), .int .u64 (if x.toNat < y.toNat + c.toNat then 1 else 0)])
        | false => none
  | _ => none

/-- An operation that may write: stores, calls, append, copy, clear. -/
def effA (P : Program) (call : CallA) (tmps : List AV) (st : St) : Op → Option (AV × St)
  | .store t a x => match evA tmps a, evA tmps x, sizeA P t with
    | some (.ptr (some (b, off))), some v, some n => match Nat.beq v.cells.length n with
      | true => match st.write b off v.cells with
        | some st' => some (undefA, st')
        | none => none
      | false => none
    | _, _, _ => none
  | .call { callee := .builtin .append, args := ⟨[s, x]⟩, argTypes := ⟨[t, u]⟩ } =>
    match P.underlying t, P.underlying u, evA tmps s, evA tmps x with
    | some (.slice e), some (.slice _), some s, some x => appendA P st e s x
    | some (.slice e), some .string, some s, some x => appendA P st e s x
    | _, _, _, _ => none
  | .call { callee := .builtin .copy, args := ⟨[d, s]⟩, argTypes := ⟨[t, _]⟩ } =>
    match P.underlying t, evA tmps d, evA tmps s with
    | some (.slice e), some d, some s => copyA P st e d s
    | _, _, _ => none
  | .call { callee := .builtin .clear, args := ⟨[x]⟩, argTypes := ⟨[t]⟩ } =>
    match P.underlying t, evA tmps x with
    | some (.slice e), some x => clearA P st e x
    | _, _ => none
  | .call { callee := .value f, args := args, .. } =>
    match evA tmps f, evsA tmps args.toList with
    | some (.fn (.func g) first caps), some l =>
      match P.funcs[g]? with
      | some fn => match fn.body with
        | some _ => call g (first ++ l ++ caps) st
        | none => match externA fn.name (first ++ l ++ caps) with
          | some v => some (v, st)
          | none => none
      | none => none
    | _, _ => none
  | _ => none

/- ### Regions -/
def guardA (ops : Array Oper) (tmps : List AV) (o : Oper) : Bool :=
  match o.guard with
  | none => true
  | some (j, want) => match ops[j]? with
    | some g => match g.dst with
      | some d => match tmps[d]? with
        | some (.bool b) => b == want
        | _ => false
      | none => false
    | none => false
def putA (tmps : List AV) : Option Tmp → AV → List AV
  | none, _ => tmps
  | some d, v => tmps.set d v

inductive Cls where
  | pure | alloc | read | eff
def clsOf (P : Program) : Op → Cls
  | .alloc _ | .box _ _ | .buildSlice _ _ _ | .makeSlice _ _ _ => .alloc
  | .load _ _ => .read
  | .store _ _ _ => .eff
  | .call { callee := .value _, .. } => .eff
  | .call { callee := .builtin .append, .. } | .call { callee := .builtin .copy, .. } | .call { callee := .builtin .clear, .. } => .eff
  | .convert src dst _ => match P.underlying src, P.underlying dst with
    | some (.slice _), some .string => .read
    | some .string, some (.slice _) => .eff
    | _, _ => .pure
  | _ => .pure

def opA (P : Program) (call : CallA) (tmps : List AV) (st : St) (o : Op) : Option (AV × St) :=
  match clsOf P o with
  | .pure => match pureA P tmps o with
    | some v => some (v, st)
    | none => none
  | .alloc => match allocA P tmps st.n o with
    | some (v, cs) => some (v, st.new cs)
    | none => none
  | .read => match readA P tmps o with
    | some (b, off, n, mk) => match st.read b off n with
      | some l => match madeA mk l with
        | some v => some (v, st)
        | none => none
      | none => none
    | none => none
  | .eff => effA P call tmps st o

/-- One operation, in its place. -/
def stepA (P : Program) (call : CallA) (ops : Array Oper) (o : Oper) (tmps : List AV) (st : St) : Option (List AV × St) :=
  match guardA ops tmps o with
  | false => some (putA tmps o.dst undefA, st)
  | true => match opA P call tmps st o.op with
    | some (v, st') => some (putA tmps o.dst v, st')
    | none => none
def opsA (P : Program) (call : CallA) (ops : Array Oper) : List Oper → List AV → St → Option (List AV × St)
  | [], tmps, st => some (tmps, st)
  | o :: os, tmps, st => match stepA P call ops o tmps st with
    | some (tmps', st') => opsA P call ops os tmps' st'
    | none => none

/- ### Regions that may be carried out in more than one order -/
def sameO : Option (Nat × Nat) → Option (Nat × Nat) → Bool
  | none, none => true
  | some (a, i), some (b, j) => Nat.beq a b && Nat.beq i j
  | _, _ => false
def sameC : Cap → Cap → Bool
  | .known a, .known b => Nat.beq a b
  | .more a s, .more b t => Nat.beq a b && Nat.beq s t
  | _, _ => false
mutual
def sameV : AV → AV → Bool
  | .bool a, .bool b => a == b
  | .int k a, .int k' b => decide (k = k') && decide (a = b)
  | .str a, .str b => eqBytes a b
  | .ptr a, .ptr b => sameO a b
  | .glob a, .glob b => Nat.beq a b
  | .sl a n c, .sl b m d => sameO a b && Nat.beq n m && sameC c d
  | .fn f x y, .fn g x' y' => decide (f = g) && sameVs x x' && sameVs y y'
  | .nilFn, .nilFn => true
  | .agg x, .agg y => sameVs x y
  | .tup x, .tup y => sameVs x y
  | _, _ => false
def sameVs : List AV → List AV → Bool
  | [], [] => true
  | a :: x, b :: y => sameV a b && sameVs x y
  | _, _ => false
end
def sameR : Option (List AV) → Option (List AV) → Bool
  | some a, some b => sameVs a b
  | _, _ => false

/-- Of each operation those that must be carried out before it, a bit each. -/
def bitsA (acc : List Nat) : List Edge → Nat
  | [] => 0
  | e :: es => match Region.binds .any e with
    | true => (bitsA acc es ||| 2 ^ e.on) ||| acc.getD e.on 0
    | false => bitsA acc es
def befA (acc : List Nat) : List Oper → List Nat
  | [] => acc
  | o :: os => befA (acc ++ [bitsA acc o.after.toList]) os
def ordA (bef : List Nat) (i j : Nat) : Bool := (bef.getD j 0).testBit i

def isEff (P : Program) (o : Op) : Bool := match clsOf P o with | .eff => true | _ => false
def isRead (P : Program) (o : Op) : Bool := match clsOf P o with | .read => true | _ => false

/-- The states that the text's order comes through: the last one first. -/
def traceA (P : Program) (call : CallA) (ops : Array Oper) : List Oper → List (List AV × St) → List AV → St → Option (List (List AV × St))
  | [], acc, tmps, st => some ((tmps, st) :: acc)
  | o :: os, acc, tmps, st => match stepA P call ops o tmps st with
    | some (tmps', st') => traceA P call ops os ((tmps, st) :: acc) tmps' st'
    | none => none

/-- Does an effect (between two states) leave what a read reads? -/
def leavesA (b off n : Nat) (want : Option (List AV)) (s s' : St) : Bool := sameR (s.read b off n) want && sameR (s'.read b off n) want
/-- One read, against all effects that may be carried out on either side of it. -/
def readOkA (P : Program) (ops : Array Oper) (bef : List Nat) (i b off n : Nat) (want : Option (List AV)) : Nat → List Oper → List (List AV × St) → Bool
  | e, o :: os, (t, s) :: (t', s') :: tr =>
    (!isEff P o.op || !guardA ops t o || ordA bef i e || ordA bef e i || leavesA b off n want s s') && readOkA P ops bef i b off n want (e + 1) os ((t', s') :: tr)
  | _, _, _ => true
def stableA (P : Program) (ops : Array Oper) (bef : List Nat) (all : List Oper) (alltr : List (List AV × St)) : Nat → List Oper → List (List AV × St) → Bool
  | i, o :: os, (t, s) :: tr =>
    (!isRead P o.op || !guardA ops t o || (match readA P t o.op with
      | some (b, off, n, _) => readOkA P ops bef i b off n (s.read b off n) 0 all alltr
      | none => false)) && stableA P ops bef all alltr (i + 1) os tr
  | _, _, _ => true

/-- Once and for all, of a region that draws its order: what is not in order touches no slot of the other's, and effects are in order. -/
def pairOk (P : Program) (ops : Array Oper) (bef : List Nat) (i j : Nat) : Bool :=
  match ops[i]?, ops[j]? with
  | some x, some y => ordA bef i j || (x.apart ops y && !(isEff P x.op && isEff P y.op))
  | _, _ => true
def edgesOk (ops : Array Oper) (j : Nat) : Bool :=
  match ops[j]? with
  | some o => o.after.all fun e => !Region.binds .any e || Nat.blt e.on j
  | none => true
def drawOkA (P : Program) (ops : Array Oper) : Bool :=
  let bef := befA [] ops.toList
  (List.range ops.size).all fun j => edgesOk ops j && (List.range j).all fun i => pairOk P ops bef i j
def drawsOkA (P : Program) : Code → Bool
  | .region _ ops true => drawOkA P ops
  | .seq a b => drawsOkA P a && drawsOkA P b
  | .cond _ a b => drawsOkA P a && drawsOkA P b
  | .block _ a => drawsOkA P a
  | .loop a => drawsOkA P a
  | .scope a => drawsOkA P a
  | .rangeFunc _ _ a b => drawsOkA P a && drawsOkA P b
  | _ => true

/-- Is each read in order with each effect? -/
def quietA (P : Program) (ops : Array Oper) (bef : List Nat) : Bool :=
  (List.range ops.size).all fun i => match ops[i]? with
    | some o => !isRead P o.op || (List.range ops.size).all fun e => match ops[e]? with
      | some oe => !isEff P oe.op || ordA bef i e || ordA bef e i
      | none => true
    | none => true
def drawsA (P : Program) (ops : Array Oper) (draw : Bool) : Bool := draw && !quietA P ops (befA [] ops.toList)
def regionA (P : Program) (call : CallA) (ops : Array Oper) (draw : Bool) (tmps : List AV) (st : St) : Option (List AV × St) :=
  match drawsA P ops draw with
  | false => opsA P call ops ops.toList tmps st
  | true => match traceA P call ops ops.toList [] tmps st with
    | some (last :: tr) => match stableA P ops (befA [] ops.toList) ops.toList (last :: tr).reverse 0 ops.toList (last :: tr).reverse with
      | true => some last
      | false => none
    | _ => none

/- ### Code, calls -/
inductive Ex where
  | normal
  | exit (id : Nat)
  | ret

abbrev OutA := Option (Ex × List AV × St)
def loopA (f : List AV → St → OutA) : Nat → List AV → St → OutA
  | 0, _, _ => none
  | n + 1, t, s => match f t s with
    | some (.normal, t', s') => loopA f n t' s'
    | r => r
def codeA (P : Program) (call : CallA) (L : Nat) : Code → List AV → St → OutA
  | .skip, t, s => some (.normal, t, s)
  | .label _, t, s => some (.normal, t, s)
  | .region _ ops draw, t, s => match regionA P call ops draw t s with
    | some (t', s') => some (.normal, t', s')
    | none => none
  | .seq a b, t, s => match codeA P call L a t s with
    | some (.normal, t', s') => codeA P call L b t' s'
    | r => r
  | .cond c a b, t, s => match evA t c with
    | some (.bool true) => codeA P call L a t s
    | some (.bool false) => codeA P call L b t s
    | _ => none
  | .block id c, t, s => match codeA P call L c t s with
    | some (.exit j, t', s') => match Nat.beq j id with
      | true => some (.normal, t', s')
      | false => some (.exit j, t', s')
    | r => r
  | .loop c, t, s => loopA (codeA P call L c) L t s
  | .exit id, t, s => some (.exit id, t, s)
  | .ret, t, s => some (.ret, t, s)
  | _, _, _ => none

def resA (P : Program) (st : St) (tmps : List AV) : List ResultVar → Option (List AV)
  | [] => some []
  | .tmp t :: rs => match resA P st tmps rs with
    | some l => some (tmps.getD t undefA :: l)
    | none => none
  | .cell a t :: rs => match readA P tmps (.load t (.tmp a)) with
    | some (b, off, n, mk) => match st.read b off n with
      | some l => match madeA mk l with
        | some v => match resA P st tmps rs with
          | some l => some (v :: l)
          | none => none
        | none => none
      | none => none
    | none => none
def resultA (P : Program) (st : St) (tmps : List AV) (rs : List ResultVar) : Option AV :=
  match resA P st tmps rs with
  | some [v] => some v
  | some l => some (.tup l)
  | none => none

def padA : Nat → List AV
  | 0 => []
  | n + 1 => undefA :: padA n

/-- A call: n deep at most, L rounds at most a loop; 'pr': functions whose answer is told without their text. -/
def callA (P : Program) (pr : FuncId → Option (List AV → St → Option (AV × St))) (L : Nat) : Nat → FuncId → List AV → St → Option (AV × St)
  | 0, _, _, _ => none
  | n + 1, g, args, st =>
    match pr g with
    | some f => f args st
    | none => match P.funcs[g]? with
      | none => none
      | some fn => match fn.body with
        | none => none
        | some c => match codeA P (callA P pr L n) L c (args ++ padA (fn.ntmps - args.length)) st with
          | some (.normal, t, s) => match resultA P s t fn.results.toList with
            | some v => some (v, s)
            | none => none
          | some (.ret, t, s) => match resultA P s t fn.results.toList with
            | some v => some (v, s)
            | none => none
          | _ => none

def noPrim : FuncId → Option (List AV → St → Option (AV × St)) := fun _ => none
def empty : St := { h := .leaf, n := 0 }
/-- Does a call without arguments, of nothing, come to true? -/
def saysTrue (P : Program) (pr : FuncId → Option (List AV → St → Option (AV × St))) (L n : Nat) (g : FuncId) : Bool :=
  match callA P pr L n g [] empty with
  | some (.bool b, _) => b
  | _ => false

end Go.Den

/- The relation between the abstract machine's values and heap and the model's: first laws. -/
namespace Go.Den
open Go

/- ### The tree -/
namespace Tr
variable {α : Type}
theorem get_leaf (i : Nat) : (leaf : Tr α).get i = none := rfl
theorem get_setF_same : ∀ (f : Nat) (t : Tr α) (i : Nat) (a : α), i < f → (setF f t i a).get i = some a := by
  intro f
  induction f with
  | zero => intro t i a h; omega
  | succ f ih =>
    intro t i a h
    by_cases h0 : i = 0
    · subst h0; cases t <;> rfl
    · have e0 : Nat.beq i 0 = false := by rw [Bool.eq_false_iff]; intro e; exact h0 (Nat.eq_of_beq_eq_true e)
      by_cases h1 : i % 2 = 1
      · have e1 : Nat.beq (i % 2) 1 = true := by rw [h1]; rfl
        cases t <;> simp only [setF, e0, e1, get] <;> exact ih _ _ _ (by omega)
      · have e1 : Nat.beq (i % 2) 1 = false := by rw [Bool.eq_false_iff]; intro e; exact h1 (Nat.eq_of_beq_eq_true e)
        cases t <;> simp only [setF, e0, e1, get] <;> exact ih _ _ _ (by omega)
theorem get_setF_ne : ∀ (f : Nat) (t : Tr α) (i j : Nat) (a : α), i ≠ j → (setF f t i a).get j = t.get j := by
  intro f
  induction f with
  | zero => intro t i j a h; rfl
  | succ f ih =>
    intro t i j a h
    by_cases h0 : i = 0
    · subst h0
      have ej : Nat.beq j 0 = false := by rw [Bool.eq_false_iff]; intro e; exact h (Nat.eq_of_beq_eq_true e).symm
      cases t with
      | leaf =>
        show Tr.get (node leaf (some a) leaf) j = none
        simp only [get, ej]
        split <;> rfl
      | node l v r =>
        show Tr.get (node l (some a) r) j = Tr.get (node l v r) j
        simp only [get, ej]
    · have e0 : Nat.beq i 0 = false := by rw [Bool.eq_false_iff]; intro e; exact h0 (Nat.eq_of_beq_eq_true e)
      by_cases h1 : i % 2 = 1
      · have e1 : Nat.beq (i % 2) 1 = true := by rw [h1]; rfl
        cases t with
        | leaf =>
          simp only [setF, e0, e1, get]
          cases ej : Nat.beq j 0 <;> simp only []
          have hj : j ≠ 0 := fun e => by subst e; cases ej
          cases ej1 : Nat.beq (j % 2) 1 with
          | false => rfl
          | true =>
            have : j % 2 = 1 := Nat.eq_of_beq_eq_true ej1
            simp only []
            rw [ih _ _ _ _ (by omega)]; rfl
        | node l v r =>
          simp only [setF, e0, e1, get]
          cases ej : Nat.beq j 0 <;> simp only []
          cases ej1 : Nat.beq (j % 2) 1 <;> simp only []
          have : j % 2 = 1 := Nat.eq_of_beq_eq_true ej1
          exact ih _ _ _ _ (by omega)
      · have e1 : Nat.beq (i % 2) 1 = false := by rw [Bool.eq_false_iff]; intro e; exact h1 (Nat.eq_of_beq_eq_true e)
        have hi2 : i % 2 = 0 := by omega
        cases t with
        | leaf =>
          simp only [setF, e0, e1, get]
          cases ej : Nat.beq j 0 <;> simp only []
          have hj : j ≠ 0 := fun e => by subst e; cases ej
          cases ej1 : Nat.beq (j % 2) 1 with
          | true => rfl
          | false =>
            have hj2 : ¬ j % 2 = 1 := fun e => by rw [e] at ej1; cases ej1
            simp only []
            rw [ih _ _ _ _ (by omega)]; rfl
        | node l v r =>
          simp only [setF, e0, e1, get]
          cases ej : Nat.beq j 0 <;> simp only []
          have hj : j ≠ 0 := fun e => by subst e; cases ej
          cases ej1 : Nat.beq (j % 2) 1 <;> simp only []
          have hj2 : ¬ j % 2 = 1 := fun e => by rw [e] at ej1; cases ej1
          exact ih _ _ _ _ (by omega)
theorem get_set (t : Tr α) (i j : Nat) (a : α) : (t.set i a).get j = if i = j then some a else t.get j := by
  unfold set
  split
  · rename_i h; subst h; exact get_setF_same _ _ _ _ (by omega)
  · rename_i h; exact get_setF_ne _ _ _ _ _ h
end Tr

/- ### Values -/
abbrev Rho := Nat → Option (Nat × Nat × Nat)
def Rho.le (ρ ρ' : Rho) : Prop := ∀ i x, ρ i = some x → ρ' i = some x
def litOk : Value → Bool
  | .nilIface | .map none => true
  | _ => false

mutual
def Rel (ρ : Rho) : AV → Value → Prop
  | .bool b, v => v = .bool b
  | .int k n, v => v = .int k n
  | .str s, v => v = .string ⟨s.toArray⟩
  | .ptr none, v => v = .pointer none
  | .ptr (some (b, off)), v => ∃ B o r, ρ b = some (B, o, r) ∧ v = .pointer (some ⟨B, o + off, none⟩)
  | .glob g, v => v = .pointer (some ⟨g, 0, none⟩)
  | .sl none len cap, v => len = 0 ∧ cap = .known 0 ∧ v = .slice none 0 0
  | .sl (some (b, off)) len (.known c), v => ∃ B o r, ρ b = some (B, o, r) ∧ len ≤ c ∧ v = .slice (some ⟨B, o + off, none⟩) len c
  | .sl (some (b, off)) len (.more lb sz), v => ∃ B o r cap, ρ b = some (B, o, r) ∧ len ≤ lb ∧ lb ≤ cap ∧ off + cap * sz ≤ r ∧
      (v = .slice (some ⟨B, o + off, none⟩) len cap ∨ (cap = 0 ∧ ∃ x, v = .slice (some ⟨B, x, none⟩) 0 0))
  | .fn f first caps, v => ∃ x y, v = .func f x.toArray y.toArray ∧ Rels ρ first x ∧ Rels ρ caps y
  | .nilFn, v => v = .nilFunc
  | .lit u, v => v = u ∧ litOk u = true
  | .agg cs, v => ∃ l, v = .agg l.toArray ∧ Rels ρ cs l
  | .tup vs, v => ∃ l, v = .tuple l.toArray ∧ Rels ρ vs l
  | .fact k fs, v => ∃ n, v = .int k n ∧ ∀ x ∈ fs, chainA k n x.1 = some (x.2.av k)
def Rels (ρ : Rho) : List AV → List Value → Prop
  | [], l => l = []
  | a :: as, l => ∃ v vs, l = v :: vs ∧ Rel ρ a v ∧ Rels ρ as vs
end

theorem Rels.nil {ρ : Rho} : Rels ρ [] [] := by simp [Rels]
theorem Rels.cons {ρ : Rho} {a : AV} {v : Value} {as : List AV} {vs : List Value} (h : Rel ρ a v) (hs : Rels ρ as vs) : Rels ρ (a :: as) (v :: vs) := by
  simp only [Rels]; exact ⟨v, vs, rfl, h, hs⟩
theorem Rels.length {ρ : Rho} : ∀ {as : List AV} {vs : List Value}, Rels ρ as vs → vs.length = as.length
  | [], vs, h => by simp [Rels] at h; simp [h]
  | a :: as, vs, h => by
    simp only [Rels] at h
    obtain ⟨v, vs', rfl, _, h'⟩ := h
    simp [Rels.length h']
theorem Rels.get {ρ : Rho} : ∀ {as : List AV} {vs : List Value}, Rels ρ as vs → ∀ (i : Nat) (a : AV), as[i]? = some a → ∃ v, vs[i]? = some v ∧ Rel ρ a v
  | [], vs, h, i, a, e => by simp at e
  | x :: as, vs, h, i, a, e => by
    simp only [Rels] at h
    obtain ⟨v, vs', rfl, h1, h'⟩ := h
    cases i with
    | zero => simp at e; subst e; exact ⟨v, by simp, h1⟩
    | succ i => simp at e; simpa using Rels.get h' i a e
theorem Rels.of_get {ρ : Rho} : ∀ {as : List AV} {vs : List Value}, vs.length = as.length → (∀ (i : Nat) (a : AV) (v : Value), as[i]? = some a → vs[i]? = some v → Rel ρ a v) → Rels ρ as vs
  | [], vs, hl, h => by simp at hl; subst hl; exact Rels.nil
  | x :: as, [], hl, h => by simp at hl
  | x :: as, v :: vs, hl, h => by
    refine Rels.cons (h 0 x v (by simp) (by simp)) (Rels.of_get (by simpa using hl) (fun i a u e1 e2 => h (i + 1) a u (by simpa using e1) (by simpa using e2)))
theorem Rels.append {ρ : Rho} {as bs : List AV} {vs us : List Value} (h : Rels ρ as vs) (k : Rels ρ bs us) : Rels ρ (as ++ bs) (vs ++ us) := by
  induction as generalizing vs with
  | nil => simp [Rels] at h; subst h; simpa using k
  | cons a as ih =>
    simp only [Rels] at h
    obtain ⟨v, vs', rfl, h1, h'⟩ := h
    exact Rels.cons h1 (ih h')
theorem Rels.take {ρ : Rho} {as : List AV} {vs : List Value} (h : Rels ρ as vs) (n : Nat) : Rels ρ (as.take n) (vs.take n) := by
  induction as generalizing vs n with
  | nil => simp [Rels] at h; subst h; simpa using Rels.nil
  | cons a as ih =>
    simp only [Rels] at h
    obtain ⟨v, vs', rfl, h1, h'⟩ := h
    cases n with
    | zero => simpa using Rels.nil
    | succ n => simpa using Rels.cons h1 (ih h' n)
theorem Rels.drop {ρ : Rho} {as : List AV} {vs : List Value} (h : Rels ρ as vs) (n : Nat) : Rels ρ (as.drop n) (vs.drop n) := by
  induction as generalizing vs n with
  | nil => simp [Rels] at h; subst h; simpa using Rels.nil
  | cons a as ih =>
    simp only [Rels] at h
    obtain ⟨v, vs', rfl, h1, h'⟩ := h
    cases n with
    | zero => simpa using Rels.cons h1 h'
    | succ n => simpa using ih h' n

mutual
theorem Rel.mono {ρ ρ' : Rho} (hle : ρ.le ρ') : ∀ (a : AV) (v : Value), Rel ρ a v → Rel ρ' a v
  | .bool _, _, h => by simpa [Rel] using h
  | .int _ _, _, h => by simpa [Rel] using h
  | .str _, _, h => by simpa [Rel] using h
  | .ptr none, _, h => by simpa [Rel] using h
  | .ptr (some (b, off)), _, h => by
    simp only [Rel] at h ⊢
    obtain ⟨B, o, r, h1, h2⟩ := h
    exact ⟨B, o, r, hle _ _ h1, h2⟩
  | .glob _, _, h => by simpa [Rel] using h
  | .sl none _ _, _, h => by simpa [Rel] using h
  | .sl (some (b, off)) _ (.known c), _, h => by
    simp only [Rel] at h ⊢
    obtain ⟨B, o, r, h1, h2⟩ := h
    exact ⟨B, o, r, hle _ _ h1, h2⟩
  | .sl (some (b, off)) _ (.more _ _), _, h => by
    simp only [Rel] at h ⊢
    obtain ⟨B, o, r, cap, h1, h2⟩ := h
    exact ⟨B, o, r, cap, hle _ _ h1, h2⟩
  | .fn f first caps, _, h => by
    simp only [Rel] at h ⊢
    obtain ⟨x, y, h1, h2, h3⟩ := h
    exact ⟨x, y, h1, Rels.mono hle _ _ h2, Rels.mono hle _ _ h3⟩
  | .nilFn, _, h => by simpa [Rel] using h
  | .lit _, _, h => by simpa [Rel] using h
  | .fact _ _, _, h => by simpa only [Rel] using h
  | .agg cs, _, h => by
    simp only [Rel] at h ⊢
    obtain ⟨l, h1, h2⟩ := h
    exact ⟨l, h1, Rels.mono hle _ _ h2⟩
  | .tup cs, _, h => by
    simp only [Rel] at h ⊢
    obtain ⟨l, h1, h2⟩ := h
    exact ⟨l, h1, Rels.mono hle _ _ h2⟩
theorem Rels.mono {ρ ρ' : Rho} (hle : ρ.le ρ') : ∀ (as : List AV) (vs : List Value), Rels ρ as vs → Rels ρ' as vs
  | [], _, h => by simpa [Rels] using h
  | a :: as, _, h => by
    simp only [Rels] at h ⊢
    obtain ⟨v, vs, h1, h2, h3⟩ := h
    exact ⟨v, vs, h1, Rel.mono hle _ _ h2, Rels.mono hle _ _ h3⟩
end

theorem rel_undef (ρ : Rho) : Rel ρ undefA undef := by simp [undefA, undef, Rel, Rels]
theorem Rel.bool_inv {ρ : Rho} {a : AV} {b : Bool} (h : Rel ρ a (.bool b)) : a = .bool b := by
  cases a with
  | bool => simp [Rel] at h; simp [h]
  | ptr p => rcases p with _ | ⟨_, _⟩ <;> simp [Rel] at h
  | sl p n c => rcases p with _ | ⟨_, _⟩ <;> cases c <;> simp [Rel] at h
  | lit u => simp only [Rel] at h; obtain ⟨rfl, h⟩ := h; simp [litOk] at h
  | _ => simp [Rel] at h

mutual
theorem rel_ofVal {ρ : Rho} : ∀ (v : Value) (a : AV), ofVal v = some a → Rel ρ a v
  | .bool b, a, h => by simp [ofVal] at h; subst h; simp [Rel]
  | .int k n, a, h => by simp [ofVal] at h; subst h; simp [Rel]
  | .string s, a, h => by simp [ofVal] at h; subst h; simp [Rel]
  | .pointer none, a, h => by simp [ofVal] at h; subst h; simp [Rel]
  | .pointer (some _), a, h => by simp [ofVal] at h
  | .slice none 0 0, a, h => by simp [ofVal] at h; subst h; simp [Rel]
  | .slice none (n + 1) _, a, h => by simp [ofVal] at h
  | .slice none 0 (n + 1), a, h => by simp [ofVal] at h
  | .slice (some _) _ _, a, h => by simp [ofVal] at h
  | .nilFunc, a, h => by simp [ofVal] at h; subst h; simp [Rel]
  | .nilIface, a, h => by simp [ofVal] at h; subst h; simp [Rel, litOk]
  | .map none, a, h => by simp [ofVal] at h; subst h; simp [Rel, litOk]
  | .map (some _), a, h => by simp [ofVal] at h
  | .func (.func f) ⟨[]⟩ ⟨[]⟩, a, h => by simp [ofVal] at h; subst h; simp [Rel, Rels]
  | .func (.func f) ⟨_ :: _⟩ _, a, h => by simp [ofVal] at h
  | .func (.func f) ⟨[]⟩ ⟨_ :: _⟩, a, h => by simp [ofVal] at h
  | .func (.method _) _ _, a, h => by simp [ofVal] at h
  | .func (.methodOf _ _) _ _, a, h => by simp [ofVal] at h
  | .func (.via _ _ _ _) _ _, a, h => by simp [ofVal] at h
  | .func (.yield _) _ _, a, h => by simp [ofVal] at h
  | .agg ⟨cs⟩, a, h => by
    simp only [ofVal] at h
    split at h
    · rename_i l hl
      cases h
      simp only [Rel]
      exact ⟨cs, rfl, rels_ofVals cs l hl⟩
    · cases h
  | .tuple ⟨[]⟩, a, h => by simp [ofVal] at h; subst h; simp [Rel, Rels]
  | .tuple ⟨_ :: _⟩, a, h => by simp [ofVal] at h
  | .float _ _, a, h => by simp [ofVal] at h
  | .complex _ _ _, a, h => by simp [ofVal] at h
  | .chan _, a, h => by simp [ofVal] at h
  | .iface _ _, a, h => by simp [ofVal] at h
theorem rels_ofVals {ρ : Rho} : ∀ (vs : List Value) (as : List AV), ofVals vs = some as → Rels ρ as vs
  | [], as, h => by simp [ofVals] at h; subst h; simp [Rels]
  | v :: vs, as, h => by
    simp only [ofVals] at h
    split at h
    · cases h
    · rename_i a ha
      split at h
      · cases h
      · rename_i l hl
        cases h
        exact Rels.cons (rel_ofVal v a ha) (rels_ofVals vs l hl)
end

theorem Rel.cells {ρ : Rho} {a : AV} {v : Value} (h : Rel ρ a v) : Rels ρ a.cells v.cells.toList := by
  cases a with
  | agg cs =>
    simp only [Rel] at h
    obtain ⟨l, rfl, h2⟩ := h
    simpa [AV.cells, Value.cells] using h2
  | bool => simp only [Rel] at h; subst h; exact Rels.cons (by simp [Rel]) Rels.nil
  | int => simp only [Rel] at h; subst h; exact Rels.cons (by simp [Rel]) Rels.nil
  | str => simp only [Rel] at h; subst h; exact Rels.cons (by simp [Rel]) Rels.nil
  | nilFn => simp only [Rel] at h; subst h; exact Rels.cons (by simp [Rel]) Rels.nil
  | glob => simp only [Rel] at h; subst h; exact Rels.cons (by simp [Rel]) Rels.nil
  | tup =>
    have h' := h
    simp only [Rel] at h
    obtain ⟨l, rfl, _⟩ := h
    exact Rels.cons h' Rels.nil
  | fact =>
    have h' := h
    simp only [Rel] at h
    obtain ⟨l, rfl, _⟩ := h
    exact Rels.cons h' Rels.nil
  | fn =>
    have h' := h
    simp only [Rel] at h
    obtain ⟨x, y, rfl, _⟩ := h
    exact Rels.cons h' Rels.nil
  | lit u =>
    have h' := h
    simp only [Rel] at h
    obtain ⟨rfl, h2⟩ := h
    have : v.cells = #[v] := by cases v <;> simp [litOk] at h2 <;> rfl
    rw [this]
    exact Rels.cons h' Rels.nil
  | ptr p =>
    have h' := h
    have : v.cells = #[v] := by
      rcases p with _ | ⟨_, _⟩ <;> simp only [Rel] at h
      · subst h; rfl
      · obtain ⟨B, o, r, _, rfl⟩ := h; rfl
    rw [this]
    exact Rels.cons h' Rels.nil
  | sl p n c =>
    have h' := h
    have : v.cells = #[v] := by
      rcases p with _ | ⟨_, _⟩ <;> cases c <;> simp only [Rel] at h
      · obtain ⟨_, _, rfl⟩ := h; rfl
      · obtain ⟨_, _, rfl⟩ := h; rfl
      · obtain ⟨B, o, r, _, _, rfl⟩ := h; rfl
      · obtain ⟨B, o, r, cap, _, _, _, _, rfl | ⟨_, x, rfl⟩⟩ := h <;> rfl
    rw [this]
    exact Rels.cons h' Rels.nil

theorem Rel.oneCell {ρ : Rho} {a : AV} {v : Value} (h : Rel ρ a v) (hs : scalarV a = true) : v.oneCell' = true := by
  cases a with
  | agg => simp [scalarV] at hs
  | tup => simp [scalarV] at hs
  | ptr p =>
    rcases p with _ | ⟨_, _⟩ <;> simp only [Rel] at h
    · subst h; rfl
    · obtain ⟨B, o, r, _, rfl⟩ := h; rfl
  | sl p n c =>
    rcases p with _ | ⟨_, _⟩ <;> cases c <;> simp only [Rel] at h
    · obtain ⟨_, _, rfl⟩ := h; rfl
    · obtain ⟨_, _, rfl⟩ := h; rfl
    · obtain ⟨B, o, r, _, _, rfl⟩ := h; rfl
    · obtain ⟨B, o, r, cap, _, _, _, _, rfl | ⟨_, x, rfl⟩⟩ := h <;> rfl
  | fn =>
    simp only [Rel] at h
    obtain ⟨x, y, rfl, _⟩ := h
    rfl
  | fact =>
    simp only [Rel] at h
    obtain ⟨x, rfl, _⟩ := h
    rfl
  | lit u =>
    simp only [Rel] at h
    obtain ⟨rfl, h2⟩ := h
    cases v <;> simp [litOk] at h2 <;> rfl
  | _ => simp only [Rel] at h; subst h; rfl
theorem Rels.oneCell {ρ : Rho} : ∀ {as : List AV} {vs : List Value}, Rels ρ as vs → scalars as = true → ∀ v ∈ vs, v.oneCell' = true
  | [], vs, h, _, v, hv => by simp [Rels] at h; subst h; simp at hv
  | a :: as, vs, h, hs, v, hv => by
    simp only [Rels] at h
    obtain ⟨u, us, rfl, h1, h2⟩ := h
    simp only [scalars, Bool.and_eq_true] at hs
    rcases List.mem_cons.1 hv with rfl | hv
    · exact h1.oneCell hs.1
    · exact Rels.oneCell h2 hs.2 v hv

end Go.Den

/- Operations that touch no memory: the model carries them out as the abstract machine says. -/
namespace Go.Den
open Go

theorem run_underlying' {P : Program} {t : TypeId} {d : TypeDesc} (h : P.underlying t = some d) (w : World) : (underlying t).run P w = .ok d w := run_underlying h w
theorem run_sizeA {P : Program} {t : TypeId} {n : Nat} (h : sizeA P t = some n) (w : World) : (sizeOf t).run P w = .ok n w := by
  unfold sizeA at h
  split at h
  · rename_i i hi; cases h; simp [sizeOf, typeInfo, hi]
  · cases h
theorem run_bytesA {P : Program} {t : TypeId} {n : Nat} (h : bytesA P t = some n) : ∃ i, P.info? t = some i ∧ i.bytes = n := by
  unfold bytesA at h
  split at h
  · rename_i i hi; cases h; exact ⟨i, hi, rfl⟩
  · cases h
theorem run_zeroA {P : Program} {t : TypeId} {z : AV} (h : zeroA P t = some z) (ρ : Rho) : ∃ v, (∀ w, (zeroValue t).run P w = .ok v w) ∧ Rel ρ z v := by
  unfold zeroA at h
  split at h
  · rename_i i hi
    split at h
    · rename_i u hu
      exact ⟨u, fun w => by simp [zeroValue, typeInfo, hi, hu], rel_ofVal _ _ h⟩
    · cases h
  · cases h
theorem run_isAggA {P : Program} {t : TypeId} {b : Bool} (h : isAggA P t = some b) (w : World) : (isAgg t).run P w = .ok b w := by
  unfold isAggA at h
  split at h <;> rename_i hu
  · cases h; simp [isAgg, run_underlying hu]
  · cases h; simp [isAgg, run_underlying hu]
  · rename_i d hn1 hn2 
    cases h
    rename_i d
    cases d <;> first | (simp [isAgg, run_underlying hu]; done) | (exfalso; first | exact hn1 _ rfl | exact hn2 _ _ rfl)
  · cases h
theorem readL_some {cs : List AV} {off n : Nat} {l : List AV} (h : readL cs off n = some l) : off + n ≤ cs.length ∧ l = (cs.drop off).take n := by
  unfold readL at h
  split at h
  · rename_i hb; cases h; exact ⟨Nat.le_of_ble_eq_true hb, rfl⟩
  · cases h
theorem readL_length {cs : List AV} {off n : Nat} {l : List AV} (h : readL cs off n = some l) : l.length = n := by
  obtain ⟨h1, rfl⟩ := readL_some h
  simp; omega

theorem run_part {P : Program} {t : TypeId} {ρ : Rho} {cs : List AV} {vs : List Value} {off : Nat} {a : AV} (h : partA P t cs off = some a) (hr : Rels ρ cs vs) (w : World) :
    ∃ v, (part t vs.toArray off).run P w = .ok v w ∧ Rel ρ a v := by
  unfold partA at h
  cases hg : isAggA P t with
  | none => rw [hg] at h; cases h
  | some b =>
    rw [hg] at h
    cases b with
    | true =>
      simp only at h
      cases hs : sizeA P t with
      | none => rw [hs] at h; cases h
      | some n =>
        rw [hs] at h
        simp only at h
        cases hl : readL cs off n with
        | none => rw [hl] at h; cases h
        | some l =>
          rw [hl] at h
          cases h
          obtain ⟨hle, rfl⟩ := readL_some hl
          refine ⟨.agg (vs.toArray.extract off (off + n)), by simp [part, run_isAggA hg, run_sizeA hs], ?_⟩
          simp only [Rel]
          refine ⟨(vs.drop off).take n, ?_, (hr.drop off).take n⟩
          simp [List.take_drop]
    | false =>
      simp only at h
      obtain ⟨v, hv, hrel⟩ := hr.get off a h
      exact ⟨v, by simp [part, run_isAggA hg, hv], hrel⟩

/- ### texts -/
theorem eqBytes_eq : ∀ (x y : List UInt8), eqBytes x y = (x == y)
  | [], [] => rfl
  | [], _ :: _ => rfl
  | _ :: _, [] => rfl
  | a :: x, b :: y => by
    simp only [eqBytes, eqBytes_eq x y, List.cons_beq_cons]
    congr 1
    rw [Bool.eq_iff_iff]
    constructor
    · intro h; have := Nat.eq_of_beq_eq_true h; simp [UInt8.toNat_inj.1 this]
    · intro h; simp at h; subst h; simp
theorem ltBytes_eq : ∀ (x y : List UInt8), ltBytes x y = Op.bytesLess x y
  | [], [] => rfl
  | [], _ :: _ => rfl
  | _ :: _, [] => rfl
  | a :: x, b :: y => by
    simp only [ltBytes, Op.bytesLess, ltBytes_eq x y]
    have h1 : Nat.blt a.toNat b.toNat = decide (a < b) := by
      rw [Bool.eq_iff_iff]; simp [Nat.blt_eq, UInt8.lt_iff_toNat_lt]
    have h2 : Nat.beq a.toNat b.toNat = (a == b) := by
      rw [Bool.eq_iff_iff]
      constructor
      · intro h; have := Nat.eq_of_beq_eq_true h; simp [UInt8.toNat_inj.1 this]
      · intro h; simp at h; subst h; simp
    rw [h1, h2]
theorem toList_mk (l : List UInt8) : (ByteArray.mk l.toArray).toList = l := by rw [ByteArray.toList_eq]

/- ### numbers -/
theorem run_intOp {P : Program} {op : BinOp} {k : IntKind} {x y : Int} {a : AV} (h : intOp op k x y = some a) (t : TypeId) (w : World) (ρ : Rho) :
    ∃ v, (binOp op t (.int k x) (.int k y)).run P w = .ok v w ∧ Rel ρ a v := by
  cases op <;> simp only [intOp] at h
  case quo =>
    split at h
    · cases h
    · rename_i hy
      simp at hy
      cases h
      exact ⟨.int k (k.wrap (x.tdiv y)), by simp [binOp, Op.intDiv, hy], by simp [Rel]⟩
  case rem =>
    split at h
    · cases h
    · rename_i hy
      simp at hy
      cases h
      exact ⟨.int k (x.tmod y), by simp [binOp, Op.intDiv, hy], by simp [Rel]⟩
  case shl => cases h
  case shr => cases h
  all_goals
    cases h
    first
      | exact ⟨_, by simp [binOp, Op.intArith]; rfl, by simp [Rel]⟩
      | exact ⟨_, by simp [binOp, Op.intBits]; rfl, by simp [Rel]⟩
      | exact ⟨_, by simp [binOp, Op.intCmp]; rfl, by simp [Rel]⟩
theorem run_shiftOp {P : Program} {op : BinOp} {k k' : IntKind} {x y : Int} {a : AV} (ho : op = .shl ∨ op = .shr) (h : shiftOp op k x y = some a) (t : TypeId) (w : World) (ρ : Rho) :
    ∃ v, (binOp op t (.int k x) (.int k' y)).run P w = .ok v w ∧ Rel ρ a v := by
  unfold shiftOp at h
  split at h
  · cases h
  · rename_i hy
    simp at hy
    have hy' : ¬ y < 0 := by omega
    rcases ho with rfl | rfl <;> simp only [Option.some.injEq] at h <;> subst h <;> exact ⟨_, by simp [binOp, Op.shift, hy']; rfl, by simp [Rel]⟩
theorem run_strOp {P : Program} {op : BinOp} {x y : List UInt8} {a : AV} (h : strOp op x y = some a) (t : TypeId) (w : World) (ρ : Rho) :
    ∃ v, (binOp op t (.string ⟨x.toArray⟩) (.string ⟨y.toArray⟩)).run P w = .ok v w ∧ Rel ρ a v := by
  cases op <;> simp only [strOp] at h
  case add =>
    split at h
    · rename_i hb
      cases h
      have hle := Nat.le_of_ble_eq_true hb
      refine ⟨.string (⟨x.toArray⟩ ++ ⟨y.toArray⟩), ?_, ?_⟩
      · have hs : ¬ (((ByteArray.mk x.toArray).size + (ByteArray.mk y.toArray).size : Nat) : Int) > IntKind.i64.max := by
          have e1 : (ByteArray.mk x.toArray).size = x.length := by simp [ByteArray.size]
          have e2 : (ByteArray.mk y.toArray).size = y.length := by simp [ByteArray.size]
          rw [e1, e2]
          have e3 : IntKind.i64.max = 9223372036854775807 := by decide
          rw [e3]
          omega
        simp only [binOp, Op.stringOp]
        rw [Sem.run_ite, if_neg hs]
        rfl
      · simp only [Rel, Value.string.injEq]
        apply ByteArray.ext
        simp [ByteArray.data_append]
    · cases h
  case eql => cases h; exact ⟨_, rfl, by simp [Rel, eqBytes_eq, toList_mk]⟩
  case neq => cases h; exact ⟨_, rfl, by simp [Rel, eqBytes_eq, toList_mk]⟩
  case lss => cases h; exact ⟨_, rfl, by simp [Rel, ltBytes_eq, toList_mk]⟩
  case leq => cases h; exact ⟨_, rfl, by simp [Rel, eqBytes_eq, ltBytes_eq, toList_mk]⟩
  case gtr => cases h; exact ⟨_, rfl, by simp [Rel, eqBytes_eq, ltBytes_eq, toList_mk]⟩
  case geq => cases h; exact ⟨_, rfl, by simp [Rel, ltBytes_eq, toList_mk]⟩
  all_goals cases h

/- ### equality -/
theorem Rel.str_inv {ρ : Rho} {s : List UInt8} {v : Value} (h : Rel ρ (.str s) v) : v = .string ⟨s.toArray⟩ := by simpa [Rel] using h

theorem fieldsOf_eq {P : Program} {t : TypeId} {fs : Array Field} (h : P.underlying t = some (.struct fs)) : P.fieldsOf t = fs := by simp [Program.fieldsOf, h]

section
variable {P : Program} (w : World) (D : Nat) (t : TypeId)
theorem eqIn_ptr_nil {e : TypeId} (h : P.underlying t = some (.pointer e)) (b : Option Addr) : (Op.equalIn (D + 1) t (.pointer none) (.pointer b)).run P w = .ok b.isNone w := by
  simp [Op.equalIn, run_underlying h]
theorem eqIn_ptr_some {e : TypeId} (h : P.underlying t = some (.pointer e)) (b : Addr) : (Op.equalIn (D + 1) t (.pointer (some b)) (.pointer none)).run P w = .ok false w := by
  simp [Op.equalIn, run_underlying h]
theorem eqIn_sl_nil {e : TypeId} (h : P.underlying t = some (.slice e)) (n c : Nat) (b : Option Addr) (n' c' : Nat) : (Op.equalIn (D + 1) t (.slice none n c) (.slice b n' c')).run P w = .ok b.isNone w := by
  simp [Op.equalIn, run_underlying h]
theorem eqIn_sl_some {e : TypeId} (h : P.underlying t = some (.slice e)) (n c : Nat) (b : Addr) (n' c' : Nat) : (Op.equalIn (D + 1) t (.slice (some b) n c) (.slice none n' c')).run P w = .ok false w := by
  simp [Op.equalIn, run_underlying h]
theorem eqIn_fn_nil {p r : Array TypeId} {v : Bool} (h : P.underlying t = some (.func p r v)) : (Op.equalIn (D + 1) t .nilFunc .nilFunc).run P w = .ok true w := by
  simp [Op.equalIn, run_underlying h]
theorem eqIn_fn_some {p r : Array TypeId} {v : Bool} (h : P.underlying t = some (.func p r v)) (f : Fn) (a b : Array Value) : (Op.equalIn (D + 1) t (.func f a b) .nilFunc).run P w = .ok false w := by
  simp [Op.equalIn, run_underlying h]
theorem eqIn_nil_fn {p r : Array TypeId} {v : Bool} (h : P.underlying t = some (.func p r v)) (f : Fn) (a b : Array Value) : (Op.equalIn (D + 1) t .nilFunc (.func f a b)).run P w = .ok false w := by
  simp [Op.equalIn, run_underlying h]
end

mutual
theorem run_eqA {P : Program} {ρ : Rho} : ∀ (d D : Nat) (t : TypeId) (x y : AV) (r : Bool) (u v : Value) (w : World), d ≤ D → eqA P d t x y = some r → Rel ρ x u → Rel ρ y v →
    (Op.equalIn D t u v).run P w = .ok r w
  | 0, _, _, _, _, _, _, _, _, _, h, _, _ => by simp [eqA] at h
  | d + 1, 0, _, _, _, _, _, _, _, hd, _, _, _ => by omega
  | d + 1, D + 1, t, x, y, r, u, v, w, hd, h, hu, hv => by
    simp only [eqA] at h
    split at h
    · rename_i ht
      split at h
      · cases h; simp only [Rel] at hu hv; subst hu; subst hv; exact run_equalIn_bool' w D t _ _ ht
      · cases h
    · rename_i k0 ht
      split at h
      · rename_i k a k' b
        split at h
        · rename_i hk
          have hk' : k = k' := of_decide_eq_true hk
          cases h; simp only [Rel] at hu hv; subst hu; subst hv; subst hk'; exact run_equalIn_int w D t k k0 _ _ ht
        · cases h
      · cases h
    · rename_i ht
      split at h
      · cases h; have e1 := hu.str_inv; have e2 := hv.str_inv; subst e1; subst e2
        rw [run_equalIn_string w D t _ _ ht, toList_mk, toList_mk, eqBytes_eq]
      · cases h
    · rename_i e0 ht
      split at h
      · rename_i b
        cases h
        simp only [Rel] at hu; subst hu
        rcases b with _ | ⟨b, off⟩ <;> simp only [Rel] at hv
        · subst hv; exact eqIn_ptr_nil w D t ht _
        · obtain ⟨B, o, q, _, rfl⟩ := hv; exact eqIn_ptr_nil w D t ht _
      · rename_i a
        obtain ⟨b, off⟩ := a
        cases h
        simp only [Rel] at hu hv
        obtain ⟨B, o, q, _, rfl⟩ := hu; subst hv; exact eqIn_ptr_some w D t ht _
      · cases h
    · rename_i e0 ht
      split at h
      · rename_i b n c
        cases h
        simp only [Rel] at hu
        obtain ⟨_, _, rfl⟩ := hu
        rcases b with _ | ⟨b, off⟩
        · simp only [Rel] at hv; obtain ⟨_, _, rfl⟩ := hv; exact eqIn_sl_nil w D t ht _ _ _ _ _
        · cases c <;> simp only [Rel] at hv
          · obtain ⟨B, o, q, _, _, rfl⟩ := hv; exact eqIn_sl_nil w D t ht _ _ _ _ _
          · obtain ⟨B, o, q, cap, _, _, _, _, rfl | ⟨_, x, rfl⟩⟩ := hv <;> exact eqIn_sl_nil w D t ht _ _ _ _ _
      · rename_i a n c n' c'
        obtain ⟨b, off⟩ := a
        cases h
        simp only [Rel] at hv
        obtain ⟨_, _, rfl⟩ := hv
        cases c <;> simp only [Rel] at hu
        · obtain ⟨B, o, q, _, _, rfl⟩ := hu; exact eqIn_sl_some w D t ht _ _ _ _ _
        · obtain ⟨B, o, q, cap, _, _, _, _, rfl | ⟨_, x, rfl⟩⟩ := hu <;> exact eqIn_sl_some w D t ht _ _ _ _ _
      · cases h
    · rename_i p0 r0 v0 ht
      split at h
      · cases h; simp only [Rel] at hu hv; subst hu; subst hv; exact eqIn_fn_nil w D t ht
      · cases h; simp only [Rel] at hu hv; subst hu; obtain ⟨_, _, rfl, _⟩ := hv; exact eqIn_nil_fn w D t ht _ _ _
      · cases h; simp only [Rel] at hu hv; subst hv; obtain ⟨_, _, rfl, _⟩ := hu; exact eqIn_fn_some w D t ht _ _ _
      · cases h
    · rename_i fs ht
      split at h
      · rename_i xs ys
        split at h
        · cases h
        · rename_i hp
          simp only [Rel] at hu hv
          obtain ⟨l, rfl, hl⟩ := hu
          obtain ⟨m, rfl, hm⟩ := hv
          rw [run_equalIn_struct w D t _ _ (by rw [fieldsOf_eq ht]; exact ht) hp, fieldsOf_eq ht]
          exact run_eqFieldsA d D fs.toList xs ys r l m w (by omega) h hl hm
      · cases h
    · rename_i len e ht
      split at h
      · rename_i xs ys
        split at h
        · rename_i n hn
          simp only [Rel] at hu hv
          obtain ⟨l, rfl, hl⟩ := hu
          obtain ⟨m, rfl, hm⟩ := hv
          have hi : ∃ i, P.info? e = some i ∧ P.cellsOf e = n := by
            unfold sizeA at hn
            split at hn
            · rename_i i hi; cases hn; exact ⟨i, hi, by simp [Program.cellsOf, hi]⟩
            · cases hn
          obtain ⟨i, hi, hc⟩ := hi
          rw [run_equalIn_array w D _ _ ht hi, hc, List.range_eq_range']
          exact run_eqElemsA d D e n xs ys len 0 r l m w (by omega) h hl hm
        · cases h
      · cases h
    · cases h
theorem run_eqFieldsA {P : Program} {ρ : Rho} : ∀ (d D : Nat) (fs : List Field) (xs ys : List AV) (r : Bool) (us vs : List Value) (w : World), d ≤ D → eqFieldsA P d fs xs ys = some r → Rels ρ xs us → Rels ρ ys vs →
    (Op.eqFields D us.toArray vs.toArray fs).run P w = .ok r w
  | 0, _, _, _, _, _, _, _, _, _, h, _, _ => by simp [eqFieldsA] at h
  | d + 1, 0, _, _, _, _, _, _, _, hd, _, _, _ => by omega
  | d + 1, D + 1, [], xs, ys, r, us, vs, w, hd, h, hx, hy => by
    simp only [eqFieldsA] at h; cases h; simp [Op.eqFields]
  | d + 1, D + 1, f :: fs, xs, ys, r, us, vs, w, hd, h, hx, hy => by
    simp only [eqFieldsA] at h
    split at h
    · rename_i hn
      have hn' : f.name = "_" := by simpa using hn
      simp only [Op.eqFields, hn', ne_eq, not_true_eq_false, if_false]
      exact run_eqFieldsA d (D + 1) fs xs ys r us vs w (by omega) h hx hy
    · rename_i hn
      have hn' : ¬ f.name = "_" := by simpa using hn
      split at h
      · cases h
      · rename_i a ha
        split at h
        · cases h
        · rename_i b hb
          obtain ⟨u, hu, ru⟩ := run_part ha hx w
          obtain ⟨v, hv, rv⟩ := run_part hb hy w
          split at h
          · cases h
          · rename_i he
            cases h
            have := run_eqA d (D + 1) f.type a b false u v w (by omega) he ru rv
            simp [Op.eqFields, hn', hu, hv, this]
          · rename_i he
            have := run_eqA d (D + 1) f.type a b true u v w (by omega) he ru rv
            simp only [Op.eqFields, hn', ne_eq, not_false_eq_true, if_true, Sem.run_bind, hu, hv, this, Result.andThen_ok]
            simpa using run_eqFieldsA d (D + 1) fs xs ys r us vs w (by omega) h hx hy
theorem run_eqElemsA {P : Program} {ρ : Rho} : ∀ (d D : Nat) (e : TypeId) (n : Nat) (xs ys : List AV) (k i : Nat) (r : Bool) (us vs : List Value) (w : World), d ≤ D → eqElemsA P d e n xs ys k i = some r → Rels ρ xs us → Rels ρ ys vs →
    (Op.eqItems D e n us.toArray vs.toArray (List.range' i k)).run P w = .ok r w
  | 0, _, _, _, _, _, _, _, _, _, _, _, _, h, _, _ => by simp [eqElemsA] at h
  | d + 1, 0, _, _, _, _, _, _, _, _, _, _, hd, _, _, _ => by omega
  | d + 1, D + 1, e, n, xs, ys, 0, i, r, us, vs, w, hd, h, hx, hy => by
    simp only [eqElemsA] at h; cases h; simp [Op.eqItems]
  | d + 1, D + 1, e, n, xs, ys, k + 1, i, r, us, vs, w, hd, h, hx, hy => by
    simp only [eqElemsA] at h
    split at h
    · cases h
    · rename_i a ha
      split at h
      · cases h
      · rename_i b hb
        obtain ⟨u, hu, ru⟩ := run_part ha hx w
        obtain ⟨v, hv, rv⟩ := run_part hb hy w
        split at h
        · cases h
        · rename_i he
          cases h
          have := run_eqA d (D + 1) e a b false u v w (by omega) he ru rv
          simp [List.range'_succ, Op.eqItems, hu, hv, this]
        · rename_i he
          have := run_eqA d (D + 1) e a b true u v w (by omega) he ru rv
          simp only [List.range'_succ, Op.eqItems, Sem.run_bind, hu, hv, this, Result.andThen_ok]
          simpa using run_eqElemsA d (D + 1) e n xs ys k (i + 1) r us vs w (by omega) h hx hy
end

end Go.Den

/- The pure operations, one and all. -/
namespace Go.Den
open Go

section
variable {P : Program} {ρ : Rho} (w : World)

/- ### '==' -/
theorem run_equalA {t : TypeId} {x y : AV} {r : Bool} {u v : Value} (h : equalA P t x y = some r) (hu : Rel ρ x u) (hv : Rel ρ y v) :
    (Op.equal t u v).run P w = .ok r w ∧ ∀ (op : BinOp) (a b : Operand), (eqGuard op t a b u v).run P w = .ok () w := by
  unfold equalA at h
  split at h
  · cases h
  · rename_i hg
    refine ⟨run_eqA 200 10000 t x y r u v w (by omega) h hu hv, fun op a b => ?_⟩
    cases x with
    | agg cs =>
      have hg' : P.eqGuardType P.depth t = false := by simpa [isAggV] using hg
      simp only [Rel] at hu
      obtain ⟨l, rfl, _⟩ := hu
      by_cases hv' : ∃ m, v = .agg m
      · obtain ⟨m, rfl⟩ := hv'; exact run_eqGuard_agg w op t a b _ _ hg'
      · have : eqGuard op t a b (.agg l.toArray) v = pure () := by
          cases op <;> cases v <;> first | rfl | exact absurd ⟨_, rfl⟩ hv'
        rw [this]; rfl
    | lit x' => simp only [eqA] at h; revert h; split <;> (intro h; first | cases h | (split at h <;> cases h))
    | tup x' => simp only [eqA] at h; revert h; split <;> (intro h; first | cases h | (split at h <;> cases h))
    | fact k' fs' => simp only [eqA] at h; revert h; split <;> (intro h; first | cases h | (split at h <;> cases h))
    | glob x' => simp only [eqA] at h; revert h; split <;> (intro h; first | cases h | (split at h <;> cases h))
    | bool b' => simp only [Rel] at hu; subst hu; rw [eqGuard_at_bool]; rfl
    | int k n => simp only [Rel] at hu; subst hu; rw [eqGuard_at_int]; rfl
    | str s => simp only [Rel] at hu; subst hu; rw [eqGuard_at_string]; rfl
    | nilFn => simp only [Rel] at hu; subst hu; cases op <;> rfl
    | fn f x y =>
      simp only [Rel] at hu
      obtain ⟨a1, a2, rfl, _⟩ := hu
      rw [eqGuard_at_func]; rfl
    | ptr p =>
      rcases p with _ | ⟨_, _⟩ <;> simp only [Rel] at hu
      · subst hu; rw [eqGuard_at_pointer]; rfl
      · obtain ⟨B, o, q, _, rfl⟩ := hu; rw [eqGuard_at_pointer]; rfl
    | sl p n c =>
      rcases p with _ | ⟨_, _⟩ <;> cases c <;> simp only [Rel] at hu
      · obtain ⟨_, _, rfl⟩ := hu; rw [eqGuard_at_slice]; rfl
      · obtain ⟨_, _, rfl⟩ := hu; rw [eqGuard_at_slice]; rfl
      · obtain ⟨B, o, q, _, _, rfl⟩ := hu; rw [eqGuard_at_slice]; rfl
      · obtain ⟨B, o, q, cap, _, _, _, _, rfl | ⟨_, x, rfl⟩⟩ := hu <;> rw [eqGuard_at_slice] <;> rfl

/-- Two real values that '==' of the abstract machine tells of, beside numbers and texts. -/
def pairV : Value → Value → Bool
  | .bool _, .bool _ => true
  | .pointer _, .pointer _ => true
  | .slice _ _ _, .slice _ _ _ => true
  | .nilFunc, .nilFunc => true
  | .nilFunc, .func _ _ _ => true
  | .func _ _ _, .nilFunc => true
  | .agg _, .agg _ => true
  | _, _ => false
theorem Rel.ptr_form {a : Option (Nat × Nat)} {u : Value} (h : Rel ρ (.ptr a) u) : ∃ p, u = .pointer p := by
  rcases a with _ | ⟨_, _⟩ <;> simp only [Rel] at h
  · exact ⟨_, h⟩
  · obtain ⟨B, o, q, _, e⟩ := h; exact ⟨_, e⟩
theorem Rel.sl_form {a : Option (Nat × Nat)} {n : Nat} {c : Cap} {u : Value} (h : Rel ρ (.sl a n c) u) : ∃ p c', u = .slice p n c' := by
  rcases a with _ | ⟨_, _⟩ <;> cases c <;> simp only [Rel] at h
  · obtain ⟨rfl, _, e⟩ := h; exact ⟨_, _, e⟩
  · obtain ⟨rfl, _, e⟩ := h; exact ⟨_, _, e⟩
  · obtain ⟨B, o, q, _, _, e⟩ := h; exact ⟨_, _, e⟩
  · obtain ⟨B, o, q, cap, _, h1, h2, _, e | ⟨h3, x, e⟩⟩ := h
    · exact ⟨_, _, e⟩
    · obtain rfl : n = 0 := by omega
      exact ⟨_, _, e⟩
theorem eqA_shape {d : Nat} {t : TypeId} {x y : AV} {r : Bool} {u v : Value} (h : eqA P d t x y = some r) (hu : Rel ρ x u) (hv : Rel ρ y v) :
    (∃ k n k' m, x = .int k n ∧ y = .int k' m) ∨ (∃ a b, x = .str a ∧ y = .str b) ∨ pairV u v = true := by
  cases d with
  | zero => simp [eqA] at h
  | succ d =>
    simp only [eqA] at h
    split at h
    · split at h
      · simp only [Rel] at hu hv; subst hu; subst hv; exact .inr (.inr rfl)
      · cases h
    · split at h
      · exact .inl ⟨_, _, _, _, rfl, rfl⟩
      · cases h
    · split at h
      · exact .inr (.inl ⟨_, _, rfl, rfl⟩)
      · cases h
    · split at h
      · obtain ⟨p, rfl⟩ := hu.ptr_form; obtain ⟨q, rfl⟩ := hv.ptr_form; exact .inr (.inr rfl)
      · obtain ⟨p, rfl⟩ := hu.ptr_form; obtain ⟨q, rfl⟩ := hv.ptr_form; exact .inr (.inr rfl)
      · cases h
    · split at h
      · obtain ⟨p, c, rfl⟩ := hu.sl_form; obtain ⟨q, c', rfl⟩ := hv.sl_form; exact .inr (.inr rfl)
      · obtain ⟨p, c, rfl⟩ := hu.sl_form; obtain ⟨q, c', rfl⟩ := hv.sl_form; exact .inr (.inr rfl)
      · cases h
    · split at h
      · simp only [Rel] at hu hv; subst hu; subst hv; exact .inr (.inr rfl)
      · simp only [Rel] at hu hv; subst hu; obtain ⟨_, _, rfl, _⟩ := hv; exact .inr (.inr rfl)
      · simp only [Rel] at hu hv; subst hv; obtain ⟨_, _, rfl, _⟩ := hu; exact .inr (.inr rfl)
      · cases h
    · split at h
      · simp only [Rel] at hu hv; obtain ⟨_, rfl, _⟩ := hu; obtain ⟨_, rfl, _⟩ := hv; exact .inr (.inr rfl)
      · cases h
    · split at h
      · simp only [Rel] at hu hv; obtain ⟨_, rfl, _⟩ := hu; obtain ⟨_, rfl, _⟩ := hv; exact .inr (.inr rfl)
      · cases h
    · cases h
theorem binOp_eql_eq {t : TypeId} {u v : Value} (hp : pairV u v = true) : binOp .eql t u v = (do pure (.bool (← Op.equal t u v))) := by
  cases u <;> cases v <;> first | rfl | (simp [pairV] at hp)
theorem binOp_neq_eq {t : TypeId} {u v : Value} (hp : pairV u v = true) : binOp .neq t u v = (do pure (.bool (!(← Op.equal t u v)))) := by
  cases u <;> cases v <;> first | rfl | (simp [pairV] at hp)

theorem hitA_some {op : BinOp} {c : Int} {r : FV} : ∀ {fs : List (List (BinOp × Int) × FV)}, hitA op c fs = some r → ([(op, c)], r) ∈ fs
  | [], h => by simp [hitA] at h
  | ([(o, d)], r') :: fs, h => by
    simp only [hitA] at h
    split at h
    · rename_i e
      simp only [Bool.and_eq_true, decide_eq_true_eq] at e
      cases h
      rw [e.1, e.2]
      exact List.mem_cons_self
    · exact List.mem_cons_of_mem _ (hitA_some h)
  | ([], r') :: fs, h => by
    simp only [hitA] at h
    exact List.mem_cons_of_mem _ (hitA_some h)
  | (_ :: _ :: _, r') :: fs, h => by
    simp only [hitA] at h
    exact List.mem_cons_of_mem _ (hitA_some h)
theorem tailsA_mem {op : BinOp} {c : Int} {x : List (BinOp × Int) × FV} : ∀ {fs : List (List (BinOp × Int) × FV)}, x ∈ tailsA op c fs → x.1 ≠ [] ∧ ((op, c) :: x.1, x.2) ∈ fs
  | [], h => by simp [tailsA] at h
  | ((o, d) :: y :: ys, r') :: fs, h => by
    simp only [tailsA] at h
    split at h
    · rename_i e
      simp only [Bool.and_eq_true, decide_eq_true_eq] at e
      rcases List.mem_cons.1 h with rfl | h'
      · rw [e.1, e.2]
        exact ⟨by simp, List.mem_cons_self⟩
      · exact ⟨(tailsA_mem h').1, List.mem_cons_of_mem _ (tailsA_mem h').2⟩
    · exact ⟨(tailsA_mem h).1, List.mem_cons_of_mem _ (tailsA_mem h).2⟩
  | ([], r') :: fs, h => by
    simp only [tailsA] at h
    exact ⟨(tailsA_mem h).1, List.mem_cons_of_mem _ (tailsA_mem h).2⟩
  | ([_], r') :: fs, h => by
    simp only [tailsA] at h
    exact ⟨(tailsA_mem h).1, List.mem_cons_of_mem _ (tailsA_mem h).2⟩
theorem chainA_one {k : IntKind} {n c : Int} {op : BinOp} {r : AV} (h : chainA k n [(op, c)] = some r) : intOp op k n c = some r := by
  simp only [chainA] at h
  split at h
  · rename_i k' m e
    split at h
    · rename_i hk
      have := of_decide_eq_true hk
      subst this
      cases h
      exact e
    · cases h
  · rename_i b e
    cases h
    exact e
  · cases h
theorem chainA_more {k : IntKind} {n c : Int} {op : BinOp} {r : AV} {t : List (BinOp × Int)} (ht : t ≠ []) (h : chainA k n ((op, c) :: t) = some r) : ∃ m, intOp op k n c = some (.int k m) ∧ chainA k m t = some r := by
  simp only [chainA] at h
  split at h
  · rename_i k' m e
    split at h
    · rename_i hk
      have := of_decide_eq_true hk
      subst this
      exact ⟨m, e, h⟩
    · cases h
  · split at h
    · exact absurd rfl ht
    · cases h
  · cases h
theorem factA_some {ρ : Rho} {op : BinOp} {k : IntKind} {n c : Int} {fs : List (List (BinOp × Int) × FV)} {a : AV} (h : factA op k c fs = some a) (hfs : ∀ x ∈ fs, chainA k n x.1 = some (x.2.av k)) :
    ∃ b, intOp op k n c = some b ∧ ∀ r, Rel ρ b r → Rel ρ a r := by
  unfold factA at h
  split at h
  · rename_i r hr
    cases h
    exact ⟨_, chainA_one (hfs _ (hitA_some hr)), fun _ h => h⟩
  · split at h
    · cases h
    · rename_i x xs hx
      cases h
      have h0 := tailsA_mem (op := op) (c := c) (x := x) (fs := fs) (by rw [hx]; exact List.mem_cons_self)
      obtain ⟨m, hm, _⟩ := chainA_more h0.1 (hfs _ h0.2)
      refine ⟨.int k m, hm, fun r hr => ?_⟩
      simp only [Rel] at hr ⊢
      refine ⟨m, hr, fun y hy => ?_⟩
      have h1 := tailsA_mem (op := op) (c := c) (x := y) (fs := fs) (by rw [hx]; exact hy)
      obtain ⟨m', hm', h2⟩ := chainA_more h1.1 (hfs _ h1.2)
      rw [hm] at hm'
      cases hm'
      exact h2
theorem run_binA {op : BinOp} {t : TypeId} {x y a : AV} {u v : Value} (h : binA P op t x y = some a) (hu : Rel ρ x u) (hv : Rel ρ y v) (p q : Operand) :
    ∃ r, (do eqGuard op t p q u v; binOp op t u v : Sem Value).run P w = .ok r w ∧ Rel ρ a r := by
  unfold binA at h
  split at h
  · rename_i k fs k' m
    simp only [Rel] at hu hv
    subst hv
    obtain ⟨n, rfl, hfs⟩ := hu
    split at h
    · rename_i hk
      have hk' : k = k' := of_decide_eq_true hk
      subst hk'
      obtain ⟨b, hb, hab⟩ := factA_some (ρ := ρ) h hfs
      rw [eqGuard_at_int]
      simp only [Sem.run_bind, Sem.run_pure, Result.andThen_ok]
      obtain ⟨r, h1, h2⟩ := run_intOp hb t w ρ
      exact ⟨r, h1, hab r h2⟩
    · cases h
  · rename_i k n k' m
    simp only [Rel] at hu hv; subst hu; subst hv
    rw [eqGuard_at_int]
    simp only [Sem.run_bind, Sem.run_pure, Result.andThen_ok]
    split at h
    · exact run_shiftOp (.inl rfl) h t w ρ
    · exact run_shiftOp (.inr rfl) h t w ρ
    · split at h
      · rename_i hk
        have hk' : k = k' := of_decide_eq_true hk
        subst hk'
        exact run_intOp h t w ρ
      · cases h
  · rename_i s1 s2
    have e1 := hu.str_inv
    have e2 := hv.str_inv
    subst e1; subst e2
    rw [eqGuard_at_string]
    simp only [Sem.run_bind, Sem.run_pure, Result.andThen_ok]
    exact run_strOp h t w ρ
  · rename_i hi hs
    split at h
    · split at h
      · rename_i r hr
        cases h
        obtain ⟨h1, h2⟩ := run_equalA w hr hu hv
        have he : eqA P 200 t x y = some r := by unfold equalA at hr; split at hr <;> first | cases hr | exact hr
        rcases eqA_shape he hu hv with ⟨k, n, k', m, rfl, rfl⟩ | ⟨s1, s2, rfl, rfl⟩ | hp
        · exact absurd rfl (hi _ _ _ _ rfl)
        · exact absurd rfl (hs _ _ rfl)
        · refine ⟨.bool r, ?_, by simp [Rel]⟩
          rw [binOp_eql_eq hp]
          simp [h2, h1]
      · cases h
    · split at h
      · rename_i r hr
        cases h
        obtain ⟨h1, h2⟩ := run_equalA w hr hu hv
        have he : eqA P 200 t x y = some r := by unfold equalA at hr; split at hr <;> first | cases hr | exact hr
        rcases eqA_shape he hu hv with ⟨k, n, k', m, rfl, rfl⟩ | ⟨s1, s2, rfl, rfl⟩ | hp
        · exact absurd rfl (hi _ _ _ _ rfl)
        · exact absurd rfl (hs _ _ rfl)
        · refine ⟨.bool (!r), ?_, by simp [Rel]⟩
          rw [binOp_neq_eq hp]
          simp [h2, h1]
      · cases h
    · cases h

theorem run_unA {op : UnOp} {x a : AV} {u : Value} (h : unA op x = some a) (hu : Rel ρ x u) : ∃ r, (Op.unary op u).run P w = .ok r w ∧ Rel ρ a r := by
  unfold unA at h
  split at h
  · cases h; simp only [Rel] at hu; subst hu; exact ⟨_, by simp [Op.unary, Op.intArith]; rfl, by simp [Rel]⟩
  · rename_i k n
    simp only [Rel] at hu; subst hu
    simp only [intOp] at h
    cases h
    exact ⟨_, by simp [Op.unary, Op.intBits]; rfl, by simp [Rel]⟩
  · cases h; simp only [Rel] at hu; subst hu; exact ⟨_, by simp [Op.unary]; rfl, by simp [Rel]⟩
  · cases h

/- ### literals -/
theorem writeL_length (cs : List AV) (off : Nat) (vs : List AV) (h : off + vs.length ≤ cs.length) : (writeL cs off vs).length = cs.length := by
  simp [writeL]; omega
def writeV (cs : List Value) (off : Nat) (vs : List Value) : List Value := cs.take off ++ (vs ++ cs.drop (off + vs.length))
theorem Rels.write {cs vs : List AV} {cs' vs' : List Value} {off : Nat} (h : Rels ρ cs cs') (k : Rels ρ vs vs') : Rels ρ (writeL cs off vs) (writeV cs' off vs') := by
  unfold writeL writeV
  rw [k.length]
  exact (h.take _).append (k.append (h.drop _))
theorem foldl_write (off : Nat) (l : List Value) (cs : Array Value) (h : off + l.length ≤ cs.size) :
    (l.zipIdx 0).foldl (fun cs (x : Value × Nat) => cs.setIfInBounds (off + x.2) x.1) cs = (writeV cs.toList off l).toArray := by
  obtain ⟨h1, h2⟩ := Great.foldl_set off l 0 cs
  apply Array.ext'
  apply List.ext_getElem?
  intro k
  have h3 := h2 k
  simp only [Nat.add_zero] at h3
  rw [Array.getElem?_toList, h3]
  simp only [writeV]
  by_cases hk : off ≤ k ∧ k < off + l.length ∧ k < cs.size
  · rw [if_pos hk]
    rw [List.getElem?_append_right (by simp; omega), List.getElem?_append_left (by simp; omega)]
    simp [Nat.min_eq_left (show off ≤ cs.size by omega)]
  · rw [if_neg hk]
    by_cases h4 : k < off
    · rw [List.getElem?_append_left (by simp; omega)]
      simp [h4]
    · by_cases h5 : k < cs.size
      · rw [List.getElem?_append_right (by simp; omega), List.getElem?_append_right (by simp; omega)]
        simp [Nat.min_eq_left (show off ≤ cs.size by omega)]
        congr 1; omega
      · rw [List.getElem?_eq_none (by simp; omega), Array.getElem?_eq_none (by omega)]
def RelParts (ρ : Rho) : List (Nat × AV) → List (Nat × Value) → Prop
  | [], l => l = []
  | (i, a) :: as, l => ∃ v vs, l = (i, v) :: vs ∧ Rel ρ a v ∧ RelParts ρ as vs
theorem fill_fillA {place placeV : Nat → Option (Nat × Nat)} (hp : ∀ i x, place i = some x → placeV i = some x) : ∀ (ps : List (Nat × AV)) (qs : List (Nat × Value)) (cs : List AV) (cs' : List Value) (r : List AV),
    fillA place cs ps = some r → RelParts ρ ps qs → Rels ρ cs cs' → ∃ r', Instr.fill placeV cs'.toArray qs = some r'.toArray ∧ Rels ρ r r'
  | [], qs, cs, cs', r, h, hq, hc => by
    simp only [RelParts] at hq; subst hq
    simp only [fillA] at h; cases h
    exact ⟨cs', rfl, hc⟩
  | (i, a) :: ps, qs, cs, cs', r, h, hq, hc => by
    simp only [RelParts] at hq
    obtain ⟨v, vs, rfl, hv, hq'⟩ := hq
    simp only [fillA] at h
    split at h
    · cases h
    · rename_i off size hpl
      split at h
      · rename_i hb
        simp only [Bool.and_eq_true] at hb
        have e1 := Nat.eq_of_beq_eq_true hb.1
        have e2 := Nat.le_of_ble_eq_true hb.2
        have hl := hv.cells.length
        have hcl := hc.length
        simp only [Array.length_toList] at hl
        obtain ⟨r', hr', hrel⟩ := fill_fillA hp ps vs (writeL cs off a.cells) (writeV cs' off v.cells.toList) r h hq' (hc.write hv.cells)
        refine ⟨r', ?_, hrel⟩
        rw [← hr']
        conv => lhs; unfold Instr.fill
        simp only [hp _ _ hpl]
        rw [if_neg (by simp; omega)]
        congr 1
        rw [← Array.foldl_toList, Array.toList_zipIdx]
        exact foldl_write off v.cells.toList cs'.toArray (by simp; omega)
      · cases h

theorem run_placesA : ∀ (fs : List Field) (l : List (Nat × Nat)) (w : World), placesA P fs = some l → (fs.mapM fun f => (do pure (f.offset, ← sizeOf f.type) : Sem (Nat × Nat))).run P w = .ok l w
  | [], l, w, h => by simp only [placesA] at h; cases h; simp
  | f :: fs, l, w, h => by
    simp only [placesA] at h
    split at h
    · cases h
    · rename_i n hn
      split at h
      · cases h
      · rename_i l' hl'
        cases h
        have ih := run_placesA fs l' w hl'
        rw [List.mapM_cons]
        simp only [Sem.run_bind, run_sizeA hn, Result.andThen_ok, Sem.run_pure, ih]
theorem run_buildA {t : TypeId} {ps : List (Nat × AV)} {qs : List (Nat × Value)} {a : AV} (h : buildA P t ps = some a) (hq : RelParts ρ ps qs) :
    ∃ v, (Instr.build t qs.toArray).run P w = .ok v w ∧ Rel ρ a v := by
  unfold buildA at h
  split at h
  · cases h
  · rename_i z hz
    obtain ⟨zv, hzr, hzrel⟩ := run_zeroA hz ρ
    split at h
    · rename_i fields hu
      split at h
      · cases h
      · rename_i pl hpl
        split at h
        · rename_i cs hf
          cases h
          obtain ⟨r', hr', hrel⟩ := fill_fillA (placeV := fun i => pl.toArray[i]?) (by intro i x hx; simpa using hx) ps qs z.cells zv.cells.toList cs hf hq hzrel.cells
          refine ⟨.agg r'.toArray, ?_, by simp only [Rel]; exact ⟨r', rfl, hrel⟩⟩
          have hm : (fields.mapM fun f => (do pure (f.offset, ← sizeOf f.type) : Sem (Nat × Nat))).run P w = .ok pl.toArray w := by
            rw [Array.mapM_eq_mapM_toList, Sem.run_map, run_placesA fields.toList pl w hpl]
            rfl
          simp only [Array.toArray_toList] at hr'
          simp only [Instr.build, Sem.run_bind, hzr, Result.andThen_ok, run_underlying hu, hm, hr', Sem.run_pure]
        · cases h
    · rename_i k e hu
      split at h
      · cases h
      · rename_i n hn
        split at h
        · rename_i cs hf
          cases h
          obtain ⟨r', hr', hrel⟩ := fill_fillA (placeV := fun i => some (i * n, n)) (by intro i x hx; exact hx) ps qs z.cells zv.cells.toList cs hf hq hzrel.cells
          refine ⟨.agg r'.toArray, ?_, by simp only [Rel]; exact ⟨r', rfl, hrel⟩⟩
          simp only [Array.toArray_toList] at hr'
          simp only [Instr.build, Sem.run_bind, hzr, Result.andThen_ok, run_underlying hu, run_sizeA hn, hr', Sem.run_pure]
        · cases h
    · cases h
/- ### slices, indexes, fields -/
theorem run_boundA' {x : AV} {y y' n : Nat} {u : Value} (h : boundA x y = some n) (hy : y ≤ y') (hu : Rel ρ x u) (code : BoundsCode) : (Instr.sliceBound u y' code).run P w = .ok n w ∧ n ≤ y := by
  unfold boundA at h
  split at h
  · rename_i k i
    simp only [Rel] at hu; subst hu
    split at h
    · rename_i hb
      cases h
      simp only [Bool.and_eq_true, decide_eq_true_eq] at hb
      refine ⟨?_, by omega⟩
      have hb' : 0 ≤ i ∧ i ≤ (y' : Int) := ⟨hb.1, by omega⟩
      simp [Instr.sliceBound, asIntOf, hb']
    · cases h
  · cases h
theorem run_boundA {x : AV} {y n : Nat} {u : Value} (h : boundA x y = some n) (hu : Rel ρ x u) (code : BoundsCode) : (Instr.sliceBound u y code).run P w = .ok n w ∧ n ≤ y := run_boundA' w h (Nat.le_refl _) hu code
def RelO (ρ : Rho) : Option AV → Option Value → Prop
  | none, v => v = none
  | some a, v => ∃ u, v = some u ∧ Rel ρ a u
theorem run_boundOr {x : Option AV} {y d n : Nat} {u : Option Value} (h : boundOr x y d = some n) (hu : RelO ρ x u) (code : BoundsCode) :
    (match u with | some v => Instr.sliceBound v y code | none => pure d : Sem Nat).run P w = .ok n w ∧ (n ≤ y ∨ n = d) := by
  unfold boundOr at h
  split at h
  · simp only [RelO] at hu; subst hu; cases h; exact ⟨rfl, .inr rfl⟩
  · simp only [RelO] at hu
    obtain ⟨v, rfl, hv⟩ := hu
    obtain ⟨h1, h2⟩ := run_boundA w h hv code
    exact ⟨h1, .inl h2⟩
theorem run_sliceBounds {isSl : Bool} {len cap l h m : Nat} {lo hi mx : Option AV} {lo' hi' mx' : Option Value}
    (hm : boundOr mx cap cap = some m) (hh : boundOr hi m len = some h) (hl : boundOr lo h 0 = some l) (hmh : mx.isSome = true → hi.isSome = true)
    (rl : RelO ρ lo lo') (rh : RelO ρ hi hi') (rm : RelO ρ mx mx') :
    (Instr.sliceBounds isSl len cap lo' hi' mx').run P w = .ok (l, h, m) w ∧ l ≤ h ∧ (len ≤ cap → h ≤ m) ∧ m ≤ cap := by
  cases mx with
  | none =>
    simp only [RelO] at rm; subst rm
    simp only [boundOr] at hm; cases hm
    cases hi with
    | none =>
      simp only [RelO] at rh; subst rh
      simp only [boundOr] at hh; cases hh
      cases lo with
      | none =>
        simp only [RelO] at rl; subst rl
        simp only [boundOr] at hl; cases hl
        exact ⟨by simp [Instr.sliceBounds], by omega, fun e => e, Nat.le_refl _⟩
      | some lv =>
        simp only [RelO] at rl; obtain ⟨lu, rfl, rl⟩ := rl
        obtain ⟨b1, b2⟩ := run_boundA (P := P) w (show boundA lv len = some l from hl) rl .sliceB
        exact ⟨by simp [Instr.sliceBounds, b1], b2, fun e => e, Nat.le_refl _⟩
    | some hv =>
      simp only [RelO] at rh; obtain ⟨hu, rfl, rh⟩ := rh
      obtain ⟨c1, c2⟩ := run_boundA (P := P) w (show boundA hv cap = some h from hh) rh (if isSl then .sliceAcap else .sliceAlen)
      cases lo with
      | none =>
        simp only [RelO] at rl; subst rl
        simp only [boundOr] at hl; cases hl
        exact ⟨by simp [Instr.sliceBounds, c1], by omega, fun _ => c2, Nat.le_refl _⟩
      | some lv =>
        simp only [RelO] at rl; obtain ⟨lu, rfl, rl⟩ := rl
        obtain ⟨b1, b2⟩ := run_boundA (P := P) w (show boundA lv h = some l from hl) rl .sliceB
        exact ⟨by simp [Instr.sliceBounds, c1, b1], b2, fun _ => c2, Nat.le_refl _⟩
  | some mv =>
    simp only [RelO] at rm; obtain ⟨mu, rfl, rm⟩ := rm
    obtain ⟨a1, a2⟩ := run_boundA (P := P) w (show boundA mv cap = some m from hm) rm (if isSl then .slice3Acap else .slice3Alen)
    cases hi with
    | none => simp at hmh
    | some hv =>
      simp only [RelO] at rh; obtain ⟨hu, rfl, rh⟩ := rh
      obtain ⟨c1, c2⟩ := run_boundA (P := P) w (show boundA hv m = some h from hh) rh .slice3B
      cases lo with
      | none =>
        simp only [RelO] at rl; subst rl
        simp only [boundOr] at hl; cases hl
        exact ⟨by simp [Instr.sliceBounds, a1, c1], by omega, fun _ => c2, a2⟩
      | some lv =>
        simp only [RelO] at rl; obtain ⟨lu, rfl, rl⟩ := rl
        obtain ⟨b1, b2⟩ := run_boundA (P := P) w (show boundA lv h = some l from hl) rl .slice3C
        exact ⟨by simp [Instr.sliceBounds, a1, c1, b1], b2, fun _ => c2, a2⟩
theorem run_sliceStr {s : List UInt8} {lo hi mx : Option AV} {lo' hi' mx' : Option Value} {a : AV} {t : TypeId} (ht : P.underlying t = some .string) (h : sliceStr s lo hi mx = some a)
    (rl : RelO ρ lo lo') (rh : RelO ρ hi hi') (rm : RelO ρ mx mx') :
    ∃ v, (Instr.slice t (.string ⟨s.toArray⟩) lo' hi' mx').run P w = .ok v w ∧ Rel ρ a v := by
  unfold sliceStr at h
  split at h
  · cases h
  · simp only [RelO] at rm; subst rm
    split at h
    · cases h
    · rename_i hn hh
      split at h
      · cases h
      · rename_i l hl
        cases h
        have e0 : (ByteArray.mk s.toArray).size = s.length := by simp [ByteArray.size]
        obtain ⟨h1, h2, h3, h4⟩ := run_sliceBounds (P := P) w (isSl := false) (len := s.length) (cap := s.length) (mx := none) (mx' := none) rfl hh hl (by simp) rl rh (by simp [RelO])
        refine ⟨.string ((ByteArray.mk s.toArray).extract l hn), by simp [Instr.slice, run_underlying ht, e0, h1], ?_⟩
        simp only [Rel, Value.string.injEq]
        apply ByteArray.ext
        simp [ByteArray.data_extract]
        rw [List.drop_take]
theorem RelO.isSome {x : Option AV} {v : Option Value} (h : RelO ρ x v) : v.isSome = x.isSome := by
  cases x <;> simp only [RelO] at h
  · subst h; rfl
  · obtain ⟨u, rfl, _⟩ := h; rfl
theorem run_sliceSl {x : Option (Nat × Nat)} {len sz : Nat} {cap : Cap} {lo hi mx : Option AV} {lo' hi' mx' : Option Value} {a : AV} {t e : TypeId} {u : Value}
    (ht : P.underlying t = some (.slice e)) (hs : sizeA P e = some sz) (h : sliceSl x len cap sz lo hi mx = some a) (hx : Rel ρ (.sl x len cap) u)
    (rl : RelO ρ lo lo') (rh : RelO ρ hi hi') (rm : RelO ρ mx mx') :
    ∃ v, (Instr.slice t u lo' hi' mx').run P w = .ok v w ∧ Rel ρ a v := by
  unfold sliceSl at h
  split at h
  · rename_i c
    split at h
    · cases h
    · rename_i hmx
      have hmx' : mx.isSome = true → hi.isSome = true := by
        intro e; rw [e] at hmx; cases hi <;> simp at hmx ⊢
      split at h
      · cases h
      · rename_i m hm
        split at h
        · cases h
        · rename_i hn hh
          split at h
          · cases h
          · rename_i l hl
            obtain ⟨h1, h2, h3, h4⟩ := run_sliceBounds (P := P) w (isSl := true) hm hh hl hmx' rl rh rm
            split at h
            · cases h
              simp only [Rel] at hx
              obtain ⟨rfl, e2, rfl⟩ := hx
              cases e2
              obtain rfl : m = 0 := by omega
              obtain rfl : hn = 0 := by omega
              obtain rfl : l = 0 := by omega
              exact ⟨.slice none 0 0, by simp [Instr.slice, run_underlying ht, h1, run_sizeA hs], by simp [Rel]⟩
            · rename_i b off
              simp only [Rel] at hx
              obtain ⟨B, o, r, hρ, hlc, rfl⟩ := hx
              have hle : hn - l ≤ m - l := by have := h3 hlc; omega
              split at h
              · rename_i hml
                cases h
                have hml' := Nat.eq_of_beq_eq_true hml
                refine ⟨.slice (some ⟨B, o + off, none⟩) (hn - l) (m - l), ?_, ?_⟩
                · simp [Instr.slice, run_underlying ht, h1, run_sizeA hs, hml']
                · simp only [Rel]; exact ⟨B, o, r, hρ, hle, rfl⟩
              · rename_i hml
                cases h
                have hml' : ¬ m = l := fun e => by subst e; simp at hml
                refine ⟨.slice (some ⟨B, o + (off + l * sz), none⟩) (hn - l) (m - l), ?_, ?_⟩
                · simp [Instr.slice, run_underlying ht, h1, run_sizeA hs, hml', Addr.add_lit, Nat.add_assoc]
                · simp only [Rel]; exact ⟨B, o, r, hρ, hle, rfl⟩
  · rename_i lb s
    split at h
    · cases h
    · rename_i hsz
      have hsz' := Nat.eq_of_beq_eq_true hsz
      subst hsz'
      split at h
      · cases h
      · rename_i b off
        simp only [Rel] at hx
        obtain ⟨B, o, r, cap, hρ, hll, hlc, hfit, hx⟩ := hx
        split at h
        · simp only [RelO] at rm; subst rm
          split at h
          · cases h
          · rename_i hn hh
            split at h
            · cases h
            · rename_i l hl
              cases h
              have hh2 : hn ≤ lb := by
                cases hi with
                | none => simp only [boundOr] at hh; cases hh; exact hll
                | some hv => exact (run_boundA (P := P) w (show boundA hv lb = some hn from hh) (by simp only [RelO] at rh; exact (Classical.choose_spec rh).2) .sliceB).2
              have hl2 : l ≤ hn := by
                cases lo with
                | none => simp only [boundOr] at hl; cases hl; omega
                | some lv => exact (run_boundA (P := P) w (show boundA lv hn = some l from hl) (by simp only [RelO] at rl; exact (Classical.choose_spec rl).2) .sliceB).2
              have hrun : (Instr.sliceBounds true len cap lo' hi' none).run P w = .ok (l, hn, cap) w := by
                cases hi with
                | none =>
                  simp only [RelO] at rh; subst rh
                  simp only [boundOr] at hh; cases hh
                  cases lo with
                  | none => simp only [RelO] at rl; subst rl; simp only [boundOr] at hl; cases hl; simp [Instr.sliceBounds]
                  | some lv =>
                    simp only [RelO] at rl; obtain ⟨lu, rfl, rl⟩ := rl
                    obtain ⟨b1, b2⟩ := run_boundA (P := P) w (show boundA lv len = some l from hl) rl .sliceB
                    simp [Instr.sliceBounds, b1]
                | some hv =>
                  simp only [RelO] at rh; obtain ⟨hu, rfl, rh⟩ := rh
                  obtain ⟨c1, c2⟩ := run_boundA' (P := P) w (show boundA hv lb = some hn from hh) hlc rh .sliceAcap
                  cases lo with
                  | none => simp only [RelO] at rl; subst rl; simp only [boundOr] at hl; cases hl; simp [Instr.sliceBounds, c1]
                  | some lv =>
                    simp only [RelO] at rl; obtain ⟨lu, rfl, rl⟩ := rl
                    obtain ⟨b1, b2⟩ := run_boundA (P := P) w (show boundA lv hn = some l from hl) rl .sliceB
                    simp [Instr.sliceBounds, c1, b1]
              rcases hx with rfl | ⟨hc0, x, rfl⟩
              · by_cases hcl : cap = l
                · subst hcl
                  refine ⟨.slice (some ⟨B, o + off, none⟩) (hn - cap) (cap - cap), by simp [Instr.slice, run_underlying ht, hrun, run_sizeA hs], ?_⟩
                  simp only [Rel]
                  refine ⟨B, o, r, 0, hρ, by omega, by omega, by omega, .inr ⟨rfl, o + off, ?_⟩⟩
                  have : hn - cap = 0 := by omega
                  rw [this, Nat.sub_self]
                · refine ⟨.slice (some ⟨B, o + (off + l * s), none⟩) (hn - l) (cap - l), by simp [Instr.slice, run_underlying ht, hrun, run_sizeA hs, hcl, Addr.add_lit, Nat.add_assoc], ?_⟩
                  simp only [Rel]
                  refine ⟨B, o, r, cap - l, hρ, by omega, by omega, ?_, .inl rfl⟩
                  have : l * s + (cap - l) * s = cap * s := by rw [← Nat.add_mul]; congr 1; omega
                  omega
              · subst hc0
                obtain rfl : lb = 0 := by omega
                obtain rfl : hn = 0 := by omega
                obtain rfl : l = 0 := by omega
                obtain rfl : len = 0 := by omega
                refine ⟨.slice (some ⟨B, x, none⟩) 0 0, by simp [Instr.slice, run_underlying ht, hrun, run_sizeA hs], ?_⟩
                simp only [Rel]
                exact ⟨B, o, r, 0, hρ, by omega, by omega, by omega, .inr ⟨rfl, x, rfl⟩⟩
        · rename_i mv
          simp only [RelO] at rm; obtain ⟨mu, rfl, rm⟩ := rm
          split at h
          · cases h
          · rename_i m hm
            obtain ⟨a1, a2⟩ := run_boundA' (P := P) w hm hlc rm .slice3Acap
            split at h
            · cases h
            · rename_i hv
              simp only [RelO] at rh; obtain ⟨hu, rfl, rh⟩ := rh
              split at h
              · cases h
              · rename_i hn hh
                obtain ⟨c1, c2⟩ := run_boundA (P := P) w hh rh .slice3B
                split at h
                · cases h
                · rename_i l hl
                  split at h
                  · cases h
                  · rename_i hml
                    have hml' : l < m := by
                      have : ¬ m ≤ l := fun e => by rw [Nat.ble_eq_true_of_le e] at hml; cases hml
                      omega
                    cases h
                    have hrun : (Instr.sliceBounds true len cap lo' (some hu) (some mu)).run P w = .ok (l, hn, m) w ∧ l ≤ hn := by
                      cases lo with
                      | none => simp only [RelO] at rl; subst rl; simp only [boundOr] at hl; cases hl; exact ⟨by simp [Instr.sliceBounds, a1, c1], by omega⟩
                      | some lv =>
                        simp only [RelO] at rl; obtain ⟨lu, rfl, rl⟩ := rl
                        obtain ⟨b1, b2⟩ := run_boundA (P := P) w (show boundA lv hn = some l from hl) rl .slice3C
                        exact ⟨by simp [Instr.sliceBounds, a1, c1, b1], b2⟩
                    rcases hx with rfl | ⟨hc0, x, rfl⟩
                    · refine ⟨.slice (some ⟨B, o + (off + l * s), none⟩) (hn - l) (m - l), by simp [Instr.slice, run_underlying ht, hrun.1, run_sizeA hs, show ¬ m = l by omega, Addr.add_lit, Nat.add_assoc], ?_⟩
                      simp only [Rel]
                      exact ⟨B, o, r, hρ, by omega, rfl⟩
                    · omega
end

end Go.Den

/- The pure operations: one law for all. -/
namespace Go.Den
open Go

section
variable {P : Program} {ρ : Rho} (w : World)

theorem size_mk (l : List UInt8) : (ByteArray.mk l.toArray).size = l.length := by simp [ByteArray.size]
theorem asInt_int (k : IntKind) (i : Int) : (asIntOf (.int k i)).run P w = .ok (k, i) w := rfl
theorem run_indexAddrA {t : TypeId} {x ix a : AV} {u v : Value} (h : indexAddrA P t x ix = some a) (hu : Rel ρ x u) (hv : Rel ρ ix v) :
    ∃ r, (Instr.indexAt t u v).run P w = .ok r w ∧ Rel ρ a r := by
  unfold indexAddrA at h
  split at h
  · rename_i k i
    simp only [Rel] at hv; subst hv
    split at h
    · rename_i len e ht
      split at h
      · rename_i b off n hn
        split at h
        · rename_i hb
          simp only [Bool.and_eq_true, decide_eq_true_eq] at hb
          cases h
          simp only [Rel] at hu
          obtain ⟨B, o, r, hρ, rfl⟩ := hu
          refine ⟨.pointer (some ⟨B, o + (off + i.toNat * n), none⟩), ?_, by simp only [Rel]; exact ⟨B, o, r, hρ, rfl⟩⟩
          simp [Instr.indexAt, asIntOf, run_underlying ht, Instr.sureAddr, hb, run_sizeA hn, Addr.add_lit, Nat.add_assoc]
        · cases h
      · cases h
    · rename_i e ht
      split at h
      · rename_i b off len cap n hn
        split at h
        · rename_i hb
          simp only [Bool.and_eq_true, decide_eq_true_eq] at hb
          cases h
          have : ∃ B o r c, ρ b = some (B, o, r) ∧ u = .slice (some ⟨B, o + off, none⟩) len c := by
            cases cap with
            | known c => simp only [Rel] at hu; obtain ⟨B, o, r, hρ, _, e⟩ := hu; exact ⟨B, o, r, c, hρ, e⟩
            | more lb sz =>
              simp only [Rel] at hu; obtain ⟨B, o, r, cap, hρ, h1, h2, _, e | ⟨h3, x, e⟩⟩ := hu
              · exact ⟨B, o, r, cap, hρ, e⟩
              · omega
          obtain ⟨B, o, r, c, hρ, rfl⟩ := this
          refine ⟨.pointer (some ⟨B, o + (off + i.toNat * n), none⟩), ?_, by simp only [Rel]; exact ⟨B, o, r, hρ, rfl⟩⟩
          simp [Instr.indexAt, asIntOf, run_underlying ht, hb, run_sizeA hn, Addr.add_lit, Nat.add_assoc]
        · cases h
      · cases h
    · cases h
  · cases h
theorem run_indexA {t : TypeId} {x ix a : AV} {u v : Value} (h : indexA P t x ix = some a) (hu : Rel ρ x u) (hv : Rel ρ ix v) :
    ∃ r, (Instr.index t u v).run P w = .ok r w ∧ Rel ρ a r := by
  unfold indexA at h
  split at h
  · rename_i k i
    simp only [Rel] at hv; subst hv
    split at h
    · rename_i len e cs ht
      split at h
      · rename_i n hb hn
        simp only [Bool.and_eq_true, decide_eq_true_eq] at hb
        simp only [Rel] at hu
        obtain ⟨l, rfl, hl⟩ := hu
        obtain ⟨r, hr, hrel⟩ := run_part h hl w
        exact ⟨r, by simp [Instr.index, asIntOf, run_underlying ht, hb, run_sizeA hn, hr], hrel⟩
      · cases h
    · rename_i s ht
      split at h
      · rename_i hi
        have hi' : 0 ≤ i := of_decide_eq_true hi
        split at h
        · rename_i b hb
          cases h
          have e := hu.str_inv
          subst e
          refine ⟨.int .u8 b.toNat, ?_, by simp [Rel]⟩
          have hg : (ByteArray.mk s.toArray)[i.toNat]? = some b := by
            have hlt : i.toNat < s.length := (List.getElem?_eq_some_iff.1 hb).1
            have hs : i.toNat < (ByteArray.mk s.toArray).size := by simpa [ByteArray.size] using hlt
            rw [getElem?_pos (ByteArray.mk s.toArray) i.toNat hs]
            have := (List.getElem?_eq_some_iff.1 hb).2
            simpa [ByteArray.getElem_eq_getElem_data] using this
          simp [Instr.index, asIntOf, run_underlying ht, hi', hg]
        · cases h
      · cases h
    · cases h
  · cases h
theorem run_fieldAddrA {t : TypeId} {x a : AV} {f : Nat} {u : Value} (h : fieldAddrA P t x f = some a) (hu : Rel ρ x u) :
    ∃ r, (Instr.fieldAt t u f).run P w = .ok r w ∧ Rel ρ a r := by
  unfold fieldAddrA at h
  split at h
  · rename_i fs b off ht
    split at h
    · cases h
    · rename_i fd hfd
      split at h
      · cases h
      · rename_i n hn
        split at h
        · cases h
        · rename_i h0
          cases h
          have h0' : ¬ n = 0 := fun e => by subst e; cases h0
          simp only [Rel] at hu
          obtain ⟨B, o, r, hρ, rfl⟩ := hu
          refine ⟨.pointer (some ⟨B, o + (off + fd.offset), none⟩), ?_, by simp only [Rel]; exact ⟨B, o, r, hρ, rfl⟩⟩
          simp [Instr.fieldAt, run_underlying ht, hfd, Instr.sureAddr, fieldPlace, run_sizeA hn, h0', Addr.add_lit, Nat.add_assoc]
  · cases h
theorem run_fieldA {t : TypeId} {x a : AV} {f : Nat} {u : Value} (h : fieldA P t x f = some a) (hu : Rel ρ x u) :
    ∃ r, (Instr.field t u f).run P w = .ok r w ∧ Rel ρ a r := by
  unfold fieldA at h
  split at h
  · rename_i fs cs ht
    split at h
    · cases h
    · rename_i fd hfd
      simp only [Rel] at hu
      obtain ⟨l, rfl, hl⟩ := hu
      obtain ⟨r, hr, hrel⟩ := run_part h hl w
      exact ⟨r, by simp [Instr.field, run_underlying ht, hfd, asAgg, hr], hrel⟩
  · cases h
theorem run_sliceA {t : TypeId} {x a : AV} {lo hi mx : Option AV} {lo' hi' mx' : Option Value} {u : Value} (h : sliceA P t x lo hi mx = some a) (hu : Rel ρ x u)
    (rl : RelO ρ lo lo') (rh : RelO ρ hi hi') (rm : RelO ρ mx mx') :
    ∃ r, (Instr.sliceAt t u lo' hi' mx').run P w = .ok r w ∧ Rel ρ a r := by
  unfold sliceA at h
  split at h
  · rename_i ht
    split at h
    · rename_i s
      have e := hu.str_inv
      subst e
      obtain ⟨r, hr, hrel⟩ := run_sliceStr w ht h rl rh rm
      exact ⟨r, by simp [Instr.sliceAt, run_underlying ht, hr], hrel⟩
    · cases h
  · rename_i e ht
    split at h
    · rename_i y len cap n hn
      obtain ⟨r, hr, hrel⟩ := run_sliceSl w ht hn h hu rl rh rm
      exact ⟨r, by simp [Instr.sliceAt, run_underlying ht, hr], hrel⟩
    · cases h
  · rename_i k e ht
    split at h
    · rename_i b off n hn
      simp only [Rel] at hu
      obtain ⟨B, o, r, hρ, rfl⟩ := hu
      unfold sliceSl at h
      simp only at h
      split at h
      · cases h
      · rename_i hmx
        have hmx' : mx.isSome = true → hi.isSome = true := by
          intro e; rw [e] at hmx; cases hi <;> simp at hmx ⊢
        split at h
        · cases h
        · rename_i m hm
          split at h
          · cases h
          · rename_i hn2 hh
            split at h
            · cases h
            · rename_i l hl
              obtain ⟨h1, h2, h3, h4⟩ := run_sliceBounds (P := P) w (isSl := false) hm hh hl hmx' rl rh rm
              have hle : hn2 - l ≤ m - l := by have := h3 (Nat.le_refl _); omega
              split at h
              · rename_i hml
                cases h
                have hml' := Nat.eq_of_beq_eq_true hml
                refine ⟨.slice (some ⟨B, o + off, none⟩) (hn2 - l) (m - l), ?_, by simp only [Rel]; exact ⟨B, o, r, hρ, hle, rfl⟩⟩
                simp [Instr.sliceAt, run_underlying ht, Instr.sureAddr, h1, run_sizeA hn, hml']
              · rename_i hml
                cases h
                have hml' : ¬ m = l := fun e => by subst e; simp at hml
                refine ⟨.slice (some ⟨B, o + (off + l * n), none⟩) (hn2 - l) (m - l), ?_, by simp only [Rel]; exact ⟨B, o, r, hρ, hle, rfl⟩⟩
                simp [Instr.sliceAt, run_underlying ht, Instr.sureAddr, h1, run_sizeA hn, hml', Addr.add_lit, Nat.add_assoc]
    · cases h
  · cases h
theorem run_convA {src dst : TypeId} {x a : AV} {u : Value} (h : convA P src dst x = some a) (hu : Rel ρ x u) :
    ∃ r, (convert src dst u).run P w = .ok r w ∧ Rel ρ a r := by
  unfold convA at h
  split at h
  · rename_i d k k' n hs hd
    cases h
    simp only [Rel] at hu; subst hu
    exact ⟨_, by simp [convert, run_underlying hs, run_underlying hd, Conv.intToInt]; rfl, by simp [Rel]⟩
  · rename_i d s hs hd
    cases h
    have e := hu.str_inv
    subst e
    refine ⟨_, ?_, by simp [Rel]; rfl⟩
    cases d <;> simp [convert, run_underlying hs, run_underlying hd]
  · cases h
theorem run_minmaxA {b : Bool} {l : List AV} {a : AV} {vs : List Value} (h : minmaxA b l = some a) (hu : Rels ρ l vs) (ts : Array TypeId) (t : TypeId) :
    ∃ r, (if b then Builtin.max_ ts t vs.toArray else Builtin.min_ ts t vs.toArray).run P w = .ok r w ∧ Rel ρ a r := by
  unfold minmaxA at h
  split at h
  · cases h
    simp only [Rels, Rel] at hu
    obtain ⟨_, _, rfl, rfl, _, _, rfl, rfl, rfl⟩ := hu
    cases b
    · exact ⟨_, by simp [Builtin.min_, Builtin.min2, List.foldlM]; rfl, by simp [Rel]⟩
    · exact ⟨_, by simp [Builtin.max_, Builtin.max2, List.foldlM]; rfl, by simp [Rel]⟩
  · cases h
    simp only [Rels, Rel] at hu
    obtain ⟨_, _, rfl, rfl, _, _, rfl, rfl, _, _, rfl, rfl, rfl⟩ := hu
    cases b
    · exact ⟨_, by simp [Builtin.min_, Builtin.min2, List.foldlM]; rfl, by simp [Rel]⟩
    · exact ⟨_, by simp [Builtin.max_, Builtin.max2, List.foldlM]; rfl, by simp [Rel]⟩
  · cases h

/- ### operands -/
/-- The slots. -/
def TR (ρ : Rho) (tmps : List AV) (arr : Array Value) : Prop := tmps.length = arr.size ∧ ∀ t : Nat, Rel ρ (tmps.getD t undefA) (arr.getD t undef)
theorem TR.mono {ρ ρ' : Rho} {tmps : List AV} {arr : Array Value} (h : TR ρ tmps arr) (hle : ρ.le ρ') : TR ρ' tmps arr := ⟨h.1, fun t => (h.2 t).mono hle⟩
variable {tmps : List AV} {a : Act}
theorem ev_sound (h : TR ρ tmps a.tmps) {x : Operand} {v : AV} (e : evA tmps x = some v) : Rel ρ v (a.eval x) := by
  cases x with
  | tmp t => simp only [evA] at e; cases e; exact h.2 t
  | const c => exact rel_ofVal _ _ e
  | global g => simp only [evA] at e; cases e; simp [Rel, Act.eval]
  | func f => simp only [evA] at e; cases e; simp [Rel, Rels, Act.eval]
theorem evs_sound (h : TR ρ tmps a.tmps) : ∀ {xs : List Operand} {vs : List AV}, evsA tmps xs = some vs → Rels ρ vs (xs.map a.eval)
  | [], vs, e => by simp only [evsA] at e; cases e; exact Rels.nil
  | x :: xs, vs, e => by
    simp only [evsA] at e
    split at e
    · cases e
    · rename_i v hv
      split at e
      · cases e
      · rename_i l hl
        cases e
        exact Rels.cons (ev_sound h hv) (evs_sound h hl)
theorem evOpt_sound (h : TR ρ tmps a.tmps) {x : Option Operand} {v : Option AV} (e : evOptA tmps x = some v) : RelO ρ v (x.map a.eval) := by
  cases x with
  | none => simp only [evOptA] at e; cases e; rfl
  | some x =>
    simp only [evOptA] at e
    split at e
    · cases e
    · rename_i u hu
      cases e
      exact ⟨_, rfl, ev_sound h hu⟩
theorem evParts_sound (h : TR ρ tmps a.tmps) : ∀ {xs : List (Nat × Operand)} {vs : List (Nat × AV)}, evPartsA tmps xs = some vs → RelParts ρ vs (xs.map fun (i, x) => (i, a.eval x))
  | [], vs, e => by simp only [evPartsA] at e; cases e; rfl
  | (i, x) :: xs, vs, e => by
    simp only [evPartsA] at e
    split at e
    · cases e
    · rename_i v hv
      split at e
      · cases e
      · rename_i l hl
        cases e
        exact ⟨_, _, rfl, ev_sound h hv, evParts_sound h hl⟩
theorem parts_toArray (xs : Array (Nat × Operand)) (f : Operand → Value) : (xs.map fun (i, x) => (i, f x)) = (xs.toList.map fun (i, x) => (i, f x)).toArray := by
  apply Array.ext'; simp

theorem pure_sound (h : TR ρ tmps a.tmps) {o : Oper} {v : AV} (e : pureA P tmps o.op = some v) : ∃ u, (execOp a.eval o).run P w = .ok (.value u) w ∧ Rel ρ v u := by
  obtain ⟨dst, op, type, pos, after, guard⟩ := o
  simp only at e
  unfold pureA at e
  split at e
  · exact ⟨_, rfl, ev_sound h e⟩
  · exact ⟨_, rfl, ev_sound h e⟩
  · rename_i c x y
    split at e
    · rename_i hc
      have := ev_sound h hc
      simp only [Rel] at this
      exact ⟨_, by simp [execOp, this, asBool], ev_sound h e⟩
    · rename_i hc
      have := ev_sound h hc
      simp only [Rel] at this
      exact ⟨_, by simp [execOp, this, asBool], ev_sound h e⟩
    · cases e
  · rename_i t parts
    split at e
    · rename_i l hl
      obtain ⟨r, hr, hrel⟩ := run_buildA w e (evParts_sound h hl)
      refine ⟨r, ?_, hrel⟩
      simp only [execOp, parts_toArray, Sem.run_bind, hr, Result.andThen_ok, Sem.run_pure]
    · cases e
  · rename_i x
    split at e
    · rename_i p hp
      obtain ⟨b, off⟩ := p
      cases e
      have := ev_sound h hp
      have h' := this
      simp only [Rel] at this
      obtain ⟨B, o, r, hρ, hx⟩ := this
      exact ⟨a.eval x, by simp [execOp, hx], h'⟩
    · rename_i f first caps hp
      cases e
      have := ev_sound h hp
      have h' := this
      simp only [Rel] at this
      obtain ⟨y, z, hx, _, _⟩ := this
      exact ⟨a.eval x, by simp [execOp, hx], h'⟩
    · cases e
  · rename_i op t x y yt
    split at e
    · rename_i u v' hu hv
      obtain ⟨r, hr, hrel⟩ := run_binA w e (ev_sound h hu) (ev_sound h hv) x y
      refine ⟨r, ?_, hrel⟩
      simp only [execOp]
      rw [Sem.run_bind, hr]
      rfl
    · cases e
  · rename_i op t x
    split at e
    · rename_i u hu
      obtain ⟨r, hr, hrel⟩ := run_unA (P := P) w e (ev_sound h hu)
      exact ⟨r, by simp [execOp, hr], hrel⟩
    · cases e
  · rename_i src dst' x
    split at e
    · rename_i u hu
      obtain ⟨r, hr, hrel⟩ := run_convA w e (ev_sound h hu)
      exact ⟨r, by simp [execOp, hr], hrel⟩
    · cases e
  · rename_i f first captured
    split at e
    · rename_i l c hl hc
      cases e
      refine ⟨_, by simp [execOp, Instr.makeFunc]; rfl, ?_⟩
      simp only [Rel]
      exact ⟨first.toList.map a.eval, captured.toList.map a.eval, by congr 1 <;> (apply Array.ext'; simp), evs_sound h hl, evs_sound h hc⟩
    · cases e
  · rename_i t x lo hi mx
    split at e
    · rename_i u l h' m hu hl hh hm
      obtain ⟨r, hr, hrel⟩ := run_sliceA w e (ev_sound h hu) (evOpt_sound h hl) (evOpt_sound h hh) (evOpt_sound h hm)
      exact ⟨r, by simp [execOp, hr], hrel⟩
    · cases e
  · rename_i t x f
    split at e
    · rename_i u hu
      obtain ⟨r, hr, hrel⟩ := run_fieldAddrA w e (ev_sound h hu)
      exact ⟨r, by simp [execOp, hr], hrel⟩
    · cases e
  · rename_i t x f
    split at e
    · rename_i u hu
      obtain ⟨r, hr, hrel⟩ := run_fieldA w e (ev_sound h hu)
      exact ⟨r, by simp [execOp, hr], hrel⟩
    · cases e
  · rename_i t x ix
    split at e
    · rename_i u i hu hi
      obtain ⟨r, hr, hrel⟩ := run_indexAddrA w e (ev_sound h hu) (ev_sound h hi)
      exact ⟨r, by simp [execOp, hr], hrel⟩
    · cases e
  · rename_i t x ix
    split at e
    · rename_i u i hu hi
      obtain ⟨r, hr, hrel⟩ := run_indexA w e (ev_sound h hu) (ev_sound h hi)
      exact ⟨r, by simp [execOp, hr], hrel⟩
    · cases e
  · rename_i x i
    split at e
    · rename_i vs hx
      have := ev_sound h hx
      simp only [Rel] at this
      obtain ⟨l, hl, hrel⟩ := this
      obtain ⟨r, hr, hrr⟩ := hrel.get i v e
      exact ⟨r, by simp [execOp, Instr.extract, hl, hr], hrr⟩
    · cases e
  · rename_i x t
    have hlen : ∀ (n : Nat), (Builtin.len_ #[t] type #[a.eval x]).run P w = .ok (goInt n) w →
        (execOp a.eval { dst := dst, op := .call { callee := .builtin .len, args := #[x], argTypes := #[t] }, type := type, pos := pos, after := after, guard := guard }).run P w = .ok (.value (.int .i64 n)) w := by
      intro n hn
      simp [execOp, resolve, invoke, builtin, hn, goInt]
    split at e
    · rename_i s hx ht
      cases e
      have := ev_sound h hx
      have hx' := this.str_inv
      refine ⟨.int .i64 s.length, hlen _ ?_, by simp [Rel]⟩
      rw [hx']
      simp [Builtin.len_, run_underlying ht, size_mk]
    · rename_i p n c e0 hx ht
      cases e
      obtain ⟨q, c', hx'⟩ := (ev_sound h hx).sl_form
      refine ⟨.int .i64 n, hlen _ ?_, by simp [Rel]⟩
      rw [hx']
      simp [Builtin.len_, run_underlying ht]
    · rename_i av n e0 hx ht
      cases e
      refine ⟨.int .i64 n, hlen _ ?_, by simp [Rel]⟩
      simp [Builtin.len_, run_underlying ht]
    · cases e
  · rename_i x t
    split at e
    · rename_i p n c e0 hx ht
      cases e
      have := ev_sound h hx
      have hx' : ∃ q, a.eval x = .slice q n c := by
        rcases p with _ | ⟨_, _⟩ <;> simp only [Rel] at this
        · obtain ⟨rfl, e2, e3⟩ := this; cases e2; exact ⟨_, e3⟩
        · obtain ⟨B, o, r, _, _, e3⟩ := this; exact ⟨_, e3⟩
      obtain ⟨q, hx'⟩ := hx'
      refine ⟨.int .i64 c, ?_, by simp [Rel]⟩
      simp [execOp, resolve, invoke, builtin, hx', Builtin.cap_, run_underlying ht, goInt]
    · cases e
  · rename_i args ats
    split at e
    · rename_i l hl
      obtain ⟨r, hr, hrel⟩ := run_minmaxA w e (evs_sound h hl) ats type
      refine ⟨r, ?_, hrel⟩
      simp only [if_true] at hr
      simp only [execOp, resolve, Sem.run_bind, Sem.run_pure, Result.andThen_ok, invoke, builtin]
      rw [show args.map a.eval = (args.toList.map a.eval).toArray by apply Array.ext'; simp]
      rw [hr]; rfl
    · cases e
  · rename_i args ats
    split at e
    · rename_i l hl
      obtain ⟨r, hr, hrel⟩ := run_minmaxA w e (evs_sound h hl) ats type
      refine ⟨r, ?_, hrel⟩
      simp only [Bool.false_eq_true, if_false] at hr
      simp only [execOp, resolve, Sem.run_bind, Sem.run_pure, Result.andThen_ok, invoke, builtin]
      rw [show args.map a.eval = (args.toList.map a.eval).toArray by apply Array.ext'; simp]
      rw [hr]; rfl
    · cases e
  · cases e
end

end Go.Den

/- The heap's relation, and what reads, makes and writes memory. -/
namespace Go.Den
open Go

structure Holds (ρ : Rho) (w : World) (B o r : Nat) (ro : Bool) (cs : List AV) : Prop where
  fit : cs.length ≤ r
  lt : B < w.heap.size
  vals : ∃ vs, Rels ρ cs vs ∧ ∀ (i : Nat) (v : Value), vs[i]? = some v → w.cell? ⟨B, o + i, none⟩ = some v
  there : ∀ j, j < r → (w.cell? ⟨B, o + j, none⟩).isSome = true
  free : ro = false → ∀ j, j < r → w.frozen? ⟨B, o + j, none⟩ = false

abbrev Hp := Nat → Option Ent
structure HR (ρ : Rho) (h : Hp) (w : World) : Prop where
  cell : ∀ (id B o r : Nat) (ro : Bool) (fam : Option (Nat × Nat)) (cs : List AV), ρ id = some (B, o, r) → h id = some (.cells ro fam cs) → Holds ρ w B o r ro cs
  apart : ∀ (i j B o r o' r' : Nat) (ro ro' : Bool) (fam fam' : Option (Nat × Nat)) (cs cs' : List AV), i ≠ j → ρ i = some (B, o, r) → ρ j = some (B, o', r') →
    h i = some (.cells ro fam cs) → h j = some (.cells ro' fam' cs') → (ro = false ∨ ro' = false) → ∃ rt b b', fam = some (rt, b) ∧ fam' = some (rt, b') ∧ o + b' = o' + b
  fam : ∀ (i rt b : Nat) (x : Nat × Nat × Nat) (ro : Bool) (cs : List AV), ρ i = some x → h i = some (.cells ro (some (rt, b)) cs) →
    ro = false ∧ ∃ ms, h rt = some (.fam ms) ∧ i ∈ ms ∧ ∀ m, m ∈ ms → ρ m ≠ none
  ent : ∀ (i : Nat), ρ i ≠ none → h i ≠ none ∧ ∀ ms, h i ≠ some (.fam ms)

/-- The abstract heap behind a step: where the step's own numbers end, what was there stays. -/
def upd (st : St) (h : Hp) : Hp := fun id => if id < st.n then st.get id else h id
structure Agree (st : St) (h : Hp) : Prop where
  eq : ∀ id, id < st.n → h id = st.get id
  wf : ∀ id, st.n ≤ id → st.get id = none
  ref : ∀ (i : Nat) (ro : Bool) (rt b : Nat) (cs : List AV), st.get i = some (.cells ro (some (rt, b)) cs) → rt < st.n
  mem : ∀ (rt : Nat) (ms : List Nat), st.get rt = some (.fam ms) → ∀ m, m ∈ ms → m < st.n

def Free (ρ : Rho) (h : Hp) (B : Nat) : Prop := ∀ id o r, ρ id = some (B, o, r) → ∃ fam cs, h id = some (.cells true fam cs)

structure Post (ρ : Rho) (h : Hp) (w : World) (st : St) (ρ' : Rho) (h' : Hp) (w' : World) (st' : St) : Prop where
  ext : ρ.le ρ'
  new : ∀ id, ρ' id ≠ ρ id → st.n ≤ id ∧ id < st'.n
  heap : h' = upd st' h
  hr : HR ρ' h' w'
  agree : Agree st' h'
  le : st.n ≤ st'.n
  os : w'.os = w.os
  tape : w'.tape = w.tape
  output : w'.output = w.output
  size : w.heap.size ≤ w'.heap.size
  frame : ∀ B, B < w.heap.size → Free ρ h B → w'.heap[B]? = w.heap[B]? ∧ Free ρ' h' B
  idle : ∀ id, id < st.n → ρ id = none → (∀ ms, st.get id ≠ some (.fam ms)) → st'.get id = st.get id

theorem upd_self {st : St} {h : Hp} (ha : Agree st h) : upd st h = h := by
  funext id
  unfold upd
  split
  · rename_i hl; exact (ha.eq id hl).symm
  · rfl
theorem Post.refl {ρ : Rho} {h : Hp} {w : World} {st : St} (hr : HR ρ h w) (ha : Agree st h) : Post ρ h w st ρ h w st where
  ext := fun _ _ e => e
  new := fun id e => absurd rfl e
  heap := (upd_self ha).symm
  hr := hr
  agree := ha
  le := Nat.le_refl _
  os := rfl
  tape := rfl
  output := rfl
  size := Nat.le_refl _
  frame := fun B _ hf => ⟨rfl, hf⟩
  idle := fun _ _ _ _ => rfl
theorem Post.trans {ρ ρ1 ρ2 : Rho} {h h1 h2 : Hp} {w w1 w2 : World} {st st1 st2 : St} (p : Post ρ h w st ρ1 h1 w1 st1) (q : Post ρ1 h1 w1 st1 ρ2 h2 w2 st2) : Post ρ h w st ρ2 h2 w2 st2 where
  ext := fun i x e => q.ext i x (p.ext i x e)
  new := fun id e => by
    by_cases h1 : ρ1 id = ρ id
    · have := q.new id (by rw [h1]; exact e); have := p.le; omega
    · have := p.new id h1; have := q.le; omega
  heap := by
    rw [q.heap, p.heap]
    funext id
    unfold upd
    have := q.le
    split
    · rfl
    · rw [if_neg (by omega)]
  hr := q.hr
  agree := q.agree
  le := Nat.le_trans p.le q.le
  os := q.os.trans p.os
  tape := q.tape.trans p.tape
  output := q.output.trans p.output
  size := Nat.le_trans p.size q.size
  frame := fun B hB hf => by
    obtain ⟨e1, f1⟩ := p.frame B hB hf
    obtain ⟨e2, f2⟩ := q.frame B (Nat.lt_of_lt_of_le hB p.size) f1
    exact ⟨e2.trans e1, f2⟩
  idle := fun id hid hρ hf => by
    have e1 := p.idle id hid hρ hf
    have hρ1 : ρ1 id = none := by
      by_cases e : ρ1 id = ρ id
      · rw [e]; exact hρ
      · have := p.new id e; omega
    rw [← e1]
    exact q.idle id (Nat.lt_of_lt_of_le hid p.le) hρ1 (fun ms => by rw [e1]; exact hf ms)
/-- The step's own numbers are not taken; what has a later number is of no family. -/
structure Fresh (ρ : Rho) (h : Hp) (st st' : St) : Prop where
  none : ∀ id, st.n ≤ id → id < st'.n → ρ id = Option.none
  far : ∀ id, st'.n ≤ id → ρ id ≠ Option.none → ∀ ro x cs, h id ≠ some (.cells ro (some x) cs)
theorem Fresh.next {ρ ρ1 : Rho} {h h1 : Hp} {w w1 : World} {st st1 st2 : St} (p : Post ρ h w st ρ1 h1 w1 st1) (f : Fresh ρ h st st2) (hle : st1.n ≤ st2.n) : Fresh ρ1 h1 st1 st2 where
  none := fun id h1 h2 => by
    have hρ : ρ id = Option.none := f.none id (Nat.le_trans p.le h1) h2
    by_cases e : ρ1 id = ρ id
    · rw [e]; exact hρ
    · have := p.new id e; omega
  far := fun id h2 h3 ro x cs => by
    have e : ρ1 id = ρ id := by
      by_cases e : ρ1 id = ρ id
      · exact e
      · have := p.new id e; omega
    rw [p.heap]
    unfold upd
    rw [if_neg (by omega)]
    exact f.far id h2 (by rw [← e]; exact h3) ro x cs
theorem Fresh.first {ρ : Rho} {h : Hp} {st st1 st2 : St} (f : Fresh ρ h st st2) (h0 : st.n ≤ st1.n) (h1 : st1.n ≤ st2.n) : Fresh ρ h st st1 where
  none := fun id h1 h2 => f.none id h1 (by omega)
  far := fun id h2 h3 => by
    rcases Nat.lt_or_ge id st2.n with h4 | h4
    · exact absurd (f.none id (by omega) h4) h3
    · exact f.far id h4 h3

theorem HR.drew {ρ : Rho} {h : Hp} {w : World} (hr : HR ρ h w) (n : Nat) : HR ρ h { w with drawn := n } where
  cell := fun id B o r ro fam cs h1 h2 => by
    obtain ⟨a, b, c, d, e⟩ := hr.cell id B o r ro fam cs h1 h2
    exact ⟨a, b, c, d, e⟩
  apart := hr.apart
  fam := hr.fam
  ent := hr.ent
theorem Post.drew {ρ ρ' : Rho} {h h' : Hp} {w w' : World} {st st' : St} (p : Post ρ h w st ρ' h' w' st') (n : Nat) : Post ρ h w st ρ' h' { w' with drawn := n } st' where
  ext := p.ext
  new := p.new
  heap := p.heap
  hr := p.hr.drew n
  agree := p.agree
  le := p.le
  os := p.os
  tape := p.tape
  output := p.output
  size := p.size
  frame := p.frame
  idle := p.idle
theorem Post.from_drew {ρ ρ' : Rho} {h h' : Hp} {w w' : World} {st st' : St} {n : Nat} (p : Post ρ h { w with drawn := n } st ρ' h' w' st') : Post ρ h w st ρ' h' w' st' where
  ext := p.ext
  new := p.new
  heap := p.heap
  hr := p.hr
  agree := p.agree
  le := p.le
  os := p.os
  tape := p.tape
  output := p.output
  size := p.size
  frame := p.frame
  idle := p.idle

/- ### reading -/
theorem Holds.read {ρ : Rho} {w : World} {B o r : Nat} {ro : Bool} {cs l : List AV} {off n : Nat} (h : Holds ρ w B o r ro cs) (e : readL cs off n = some l) :
    ∃ vs, Rels ρ l vs ∧ vs.length = n ∧ ∀ (P : Program), (loadCells ⟨B, o + off, none⟩ n).run P w = .ok vs.toArray w := by
  obtain ⟨hle, rfl⟩ := readL_some e
  obtain ⟨vs, hr, hc⟩ := h.vals
  have hl := hr.length
  refine ⟨(vs.drop off).take n, (hr.drop off).take n, by simp; omega, fun P => ?_⟩
  have := run_loadCells_list (P := P) w ⟨B, o + off, none⟩ ((vs.drop off).take n) (fun j v hj => by
    rw [Addr.add_lit, Nat.add_assoc]
    apply hc
    rw [List.getElem?_take] at hj
    split at hj
    · rwa [List.getElem?_drop] at hj
    · cases hj)
  rw [show ((vs.drop off).take n).length = n by simp; omega] at this
  exact this
theorem read_sound {ρ : Rho} {h : Hp} {w : World} (hr : HR ρ h w) {b off n B o r : Nat} {ro : Bool} {fam : Option (Nat × Nat)} {cs l : List AV} (hb : h b = some (.cells ro fam cs)) (hρ : ρ b = some (B, o, r))
    (e : readL cs off n = some l) : ∃ vs, Rels ρ l vs ∧ vs.length = n ∧ ∀ (P : Program), (loadCells ⟨B, o + off, none⟩ n).run P w = .ok vs.toArray w :=
  (hr.cell b B o r ro fam cs hρ hb).read e
theorem St.read_some {st : St} {b off n : Nat} {l : List AV} (e : st.read b off n = some l) : ∃ ro fam cs, st.get b = some (.cells ro fam cs) ∧ readL cs off n = some l := by
  unfold St.read at e
  split at e
  · cases e
  · split at e
    · rename_i ro fam cs hb; exact ⟨ro, fam, cs, hb, e⟩
    · cases e
theorem St.read_lt {st : St} {b off n : Nat} {l : List AV} (e : st.read b off n = some l) : b < st.n := by
  unfold St.read at e
  split at e
  · cases e
  · rename_i h; simpa [Nat.blt_eq] using h
theorem St.read_of {st : St} {b off n : Nat} {ro : Bool} {fam : Option (Nat × Nat)} {cs : List AV} (h : b < st.n) (hb : st.get b = some (.cells ro fam cs)) : st.read b off n = readL cs off n := by
  unfold St.read
  rw [show Nat.blt b st.n = true by simpa [Nat.blt_eq] using h, hb]

/- ### a new block -/
theorem rel_of_le {ρ ρ' : Rho} (hle : ρ.le ρ') {w w' : World} {B o r : Nat} {ro : Bool} {cs : List AV} (h : Holds ρ w B o r ro cs) (hsz : w.heap.size ≤ w'.heap.size) (hb : w'.heap[B]? = w.heap[B]?) : Holds ρ' w' B o r ro cs where
  fit := h.fit
  lt := Nat.lt_of_lt_of_le h.lt hsz
  vals := by
    obtain ⟨vs, h1, h2⟩ := h.vals
    exact ⟨vs, Rels.mono hle _ _ h1, fun i v e => by rw [World.cell?_of_block (w := w) (by exact hb)]; exact h2 i v e⟩
  there := fun j hj => by rw [World.cell?_of_block (w := w) (by exact hb)]; exact h.there j hj
  free := fun e j hj => by rw [World.frozen?_of_block (w := w) (by exact hb)]; exact h.free e j hj

/-- A new real block that a new number (or one that has waited for it) stands for. -/
theorem alloc_HR {ρ : Rho} {h : Hp} {w : World} (hr : HR ρ h w) {id : Nat} {cs : List AV} {vs rest : List Value} {e : TypeId} {fam : Option (Nat × Nat)} (hid : ρ id = none) (hh : h id = some (.cells false fam cs)) (hrel : Rels ρ cs vs)
    (hfam : ∀ rt b, fam = some (rt, b) → ∃ ms, h rt = some (.fam ms) ∧ ms = [id]) :
    HR (fun i => if i = id then some (w.heap.size, 0, vs.length + rest.length) else ρ i) h (w.alloc (.cells (vs ++ rest).toArray e)) := by
  obtain ⟨ρ', hρ'⟩ : ∃ ρ' : Rho, ρ' = fun i => if i = id then some (w.heap.size, 0, vs.length + rest.length) else ρ i := ⟨_, rfl⟩
  rw [← hρ']
  have hle : ρ.le ρ' := fun i x ex => by
    rw [hρ']; simp only; rw [if_neg (fun ei => by rw [ei, hid] at ex; cases ex)]; exact ex
  have hnew : ρ' id = some (w.heap.size, 0, vs.length + rest.length) := by rw [hρ']; simp
  have hold : ∀ i, i ≠ id → ρ' i = ρ i := fun i hi => by rw [hρ']; simp [hi]
  have hlt : ∀ i B o r ro f c, ρ i = some (B, o, r) → h i = some (.cells ro f c) → B < w.heap.size := fun i B o r ro f c h1 h2 => (hr.cell i B o r ro f c h1 h2).lt
  refine ⟨?_, ?_, ?_, ?_⟩
  · intro i B o r ro f c h1 h2
    by_cases hi : i = id
    · subst hi
      rw [hnew] at h1; cases h1
      rw [hh] at h2; cases h2
      refine ⟨by rw [hrel.length]; omega, by simp, ⟨vs, Rels.mono hle _ _ hrel, fun i v ev => ?_⟩, fun j hj => ?_, fun _ j hj => ?_⟩
      · rw [World.cell?_alloc_new]
        simp only [Nat.zero_add, List.getElem?_toArray]
        rw [List.getElem?_append_left (List.getElem?_eq_some_iff.1 ev).1]
        exact ev
      · rw [World.cell?_alloc_new]
        simp only [Nat.zero_add, List.getElem?_toArray]
        rw [List.getElem?_eq_getElem (by simp; omega)]
        rfl
      · exact World.frozen?_alloc_new _ _ _ _
    · rw [hold i hi] at h1
      have hc := hr.cell i B o r ro f c h1 h2
      exact rel_of_le hle hc (by simp) (heap_alloc_old w _ _ hc.lt)
  · intro i j B o r o' r' ro ro' f f' c c' hij h1 h2 h3 h4 h5
    by_cases hi : i = id
    · subst hi
      rw [hnew] at h1; cases h1
      rw [hold j (fun e => hij e.symm)] at h2
      have := hlt _ _ _ _ _ _ _ h2 h4
      omega
    · rw [hold i hi] at h1
      by_cases hj : j = id
      · subst hj
        rw [hnew] at h2; cases h2
        have := hlt _ _ _ _ _ _ _ h1 h3
        omega
      · rw [hold j hj] at h2
        exact hr.apart i j B o r o' r' ro ro' f f' c c' hij h1 h2 h3 h4 h5
  · intro i rt b x ro c h1 h2
    by_cases hi : i = id
    · subst hi
      rw [hh] at h2; cases h2
      obtain ⟨ms, hm, rfl⟩ := hfam rt b rfl
      exact ⟨rfl, [i], hm, by simp, fun m hm' => by simp at hm'; subst hm'; rw [hnew]; simp⟩
    · rw [hold i hi] at h1
      obtain ⟨a1, ms, a2, a3, a4⟩ := hr.fam i rt b x ro c h1 h2
      exact ⟨a1, ms, a2, a3, fun m hm => by
        by_cases hmi : m = id
        · rw [hmi, hnew]; simp
        · rw [hold m hmi]; exact a4 m hm⟩
  · intro i hi
    by_cases hii : i = id
    · subst hii; rw [hh]; simp
    · rw [hold i hii] at hi; exact hr.ent i hi

/-- What is alive elsewhere does not hang on entries that no realized number has to do with. -/
theorem HR.congr {ρ : Rho} {h h' : Hp} {w : World} (hr : HR ρ h w) (e1 : ∀ i, ρ i ≠ none → h' i = h i) (e2 : ∀ i ro rt b cs, ρ i ≠ none → h i = some (.cells ro (some (rt, b)) cs) → h' rt = h rt) : HR ρ h' w where
  cell := fun id B o r ro fam cs h1 h2 => hr.cell id B o r ro fam cs h1 (by rw [← e1 id (by rw [h1]; simp)]; exact h2)
  apart := fun i j B o r o' r' ro ro' fam fam' cs cs' hij h1 h2 h3 h4 h5 => hr.apart i j B o r o' r' ro ro' fam fam' cs cs' hij h1 h2 (by rw [← e1 i (by rw [h1]; simp)]; exact h3) (by rw [← e1 j (by rw [h2]; simp)]; exact h4) h5
  fam := fun i rt b x ro cs h1 h2 => by
    have hi : ρ i ≠ none := by rw [h1]; simp
    have h3 : h i = some (.cells ro (some (rt, b)) cs) := by rw [← e1 i hi]; exact h2
    obtain ⟨a1, ms, a2, a3, a4⟩ := hr.fam i rt b x ro cs h1 h3
    exact ⟨a1, ms, by rw [e2 i ro rt b cs hi h3]; exact a2, a3, a4⟩
  ent := fun i hi => by rw [e1 i hi]; exact hr.ent i hi
/-- New numbers are laid: what is realized stays as it is. -/
theorem HR.grow {ρ : Rho} {h : Hp} {w : World} {st st' : St} (hr : HR ρ h w) (ha : Agree st h) (hf : Fresh ρ h st st') (hle : st.n ≤ st'.n) (hold : ∀ id, id < st.n → st'.get id = st.get id) : HR ρ (upd st' h) w := by
  refine hr.congr (fun i hi => ?_) (fun i ro rt b cs hi hc => ?_)
  · unfold upd
    split
    · rename_i hlt
      by_cases h1 : i < st.n
      · rw [hold i h1, ha.eq i h1]
      · exact absurd (hf.none i (by omega) hlt) hi
    · rfl
  · have hin : i < st.n := by
      rcases Nat.lt_or_ge i st.n with h1 | h1
      · exact h1
      · rcases Nat.lt_or_ge i st'.n with h2 | h2
        · exact absurd (hf.none i h1 h2) hi
        · exact absurd hc (hf.far i h2 hi ro (rt, b) cs)
    rw [ha.eq i hin] at hc
    have hrt := ha.ref i ro rt b cs hc
    unfold upd
    rw [if_pos (by omega), hold rt hrt, ha.eq rt hrt]

end Go.Den

/- What writes memory. -/
namespace Go.Den
open Go

theorem beq_false_ne {a b : Nat} (h : Nat.beq a b = false) : a ≠ b := fun e => by subst e; simp at h
theorem beq_true_eq {a b : Nat} (h : Nat.beq a b = true) : a = b := Nat.eq_of_beq_eq_true h

structure Poisoned (b lo hi : Nat) (ms : List Nat) (h : Tr Ent) (ms' : List Nat) (h' : Tr Ent) : Prop where
  sub : ∀ m, m ∈ ms' → m ∈ ms
  same : ∀ i, h'.get i = h.get i ∨ (h'.get i = some .dead ∧ i ∈ ms ∧ i ≠ b ∧ ∃ ro x cs, h.get i = some (.cells ro (some x) cs))
  keep : ∀ m, m ∈ ms → m ≠ b → ∀ ro rt base cs, h'.get m = some (.cells ro (some (rt, base)) cs) → m ∈ ms' ∧ (hi ≤ base ∨ base + cs.length ≤ lo)
  self : b ∈ ms → b ∈ ms'
theorem poison_spec (b lo hi : Nat) : ∀ (ms : List Nat) (h : Tr Ent) (ms' : List Nat) (h' : Tr Ent), poison b lo hi ms h = (ms', h') → Poisoned b lo hi ms h ms' h'
  | [], h, ms', h', e => by
    simp only [poison, Prod.mk.injEq] at e
    obtain ⟨rfl, rfl⟩ := e
    exact ⟨fun m hm => hm, fun i => .inl rfl, fun m hm => (by cases hm), fun hm => hm⟩
  | m :: ms, h, ms', h', e => by
    simp only [poison] at e
    split at e
    · rename_i hm
      have hm' := beq_true_eq hm
      subst hm'
      generalize hp : poison m lo hi ms h = r at e
      obtain ⟨l, g⟩ := r
      simp only [Prod.mk.injEq] at e
      obtain ⟨rfl, rfl⟩ := e
      have ih := poison_spec m lo hi ms h l g hp
      refine ⟨fun x hx => ?_, fun i => ?_, fun x hx hne => ?_, fun _ => by simp⟩
      · rcases List.mem_cons.1 hx with rfl | hx
        · simp
        · exact List.mem_cons_of_mem _ (ih.sub x hx)
      · rcases ih.same i with h1 | ⟨h1, h2, h3, h4⟩
        · exact .inl h1
        · exact .inr ⟨h1, List.mem_cons_of_mem _ h2, h3, h4⟩
      · rcases List.mem_cons.1 hx with rfl | hx
        · exact absurd rfl hne
        · intro ro rt base cs hg
          obtain ⟨k1, k2⟩ := ih.keep x hx hne ro rt base cs hg
          exact ⟨List.mem_cons_of_mem _ k1, k2⟩
    · rename_i hm
      have hm' := beq_false_ne hm
      split at e
      · rename_i ro0 rt0 base0 cs0 hg0
        split at e
        · rename_i hk
          generalize hp : poison b lo hi ms h = r at e
          obtain ⟨l, g⟩ := r
          simp only [Prod.mk.injEq] at e
          obtain ⟨rfl, rfl⟩ := e
          have ih := poison_spec b lo hi ms h l g hp
          refine ⟨fun x hx => ?_, fun i => ?_, fun x hx hne => ?_, fun hb => ?_⟩
          · rcases List.mem_cons.1 hx with rfl | hx
            · simp
            · exact List.mem_cons_of_mem _ (ih.sub x hx)
          · rcases ih.same i with h1 | ⟨h1, h2, h3, h4⟩
            · exact .inl h1
            · exact .inr ⟨h1, List.mem_cons_of_mem _ h2, h3, h4⟩
          · intro ro rt base cs hg
            rcases List.mem_cons.1 hx with rfl | hx
            · rcases ih.same x with h1 | ⟨h1, _⟩
              · rw [h1, hg0] at hg
                simp only [Option.some.injEq, Ent.cells.injEq, Prod.mk.injEq] at hg
                obtain ⟨_, ⟨_, rfl⟩, rfl⟩ := hg
                refine ⟨by simp, ?_⟩
                simp only [Bool.or_eq_true] at hk
                exact hk.imp Nat.le_of_ble_eq_true Nat.le_of_ble_eq_true
              · rw [h1] at hg; cases hg
            · obtain ⟨k1, k2⟩ := ih.keep x hx hne ro rt base cs hg
              exact ⟨List.mem_cons_of_mem _ k1, k2⟩
          · rcases List.mem_cons.1 hb with rfl | hb
            · exact absurd rfl hm'
            · exact List.mem_cons_of_mem _ (ih.self hb)
        · rename_i hk
          have ih := poison_spec b lo hi ms (h.set m .dead) ms' h' e
          refine ⟨fun x hx => List.mem_cons_of_mem _ (ih.sub x hx), fun i => ?_, fun x hx hne => ?_, fun hb => ?_⟩
          · by_cases him : i = m
            · subst him
              right
              refine ⟨?_, by simp, hm', _, _, _, hg0⟩
              rcases ih.same i with h1 | ⟨h1, _⟩
              · rw [h1, Tr.get_set, if_pos rfl]
              · exact h1
            · rcases ih.same i with h1 | ⟨h1, h2, h3, h4⟩
              · left; rw [h1, Tr.get_set, if_neg (fun e => him e.symm)]
              · right; refine ⟨h1, List.mem_cons_of_mem _ h2, h3, ?_⟩; rwa [Tr.get_set, if_neg (fun e => him e.symm)] at h4
          · intro ro rt base cs hg
            by_cases hxm : x = m
            · subst hxm
              exfalso
              rcases ih.same x with h1 | ⟨h1, _⟩
              · rw [h1, Tr.get_set, if_pos rfl] at hg; cases hg
              · rw [h1] at hg; cases hg
            · rcases List.mem_cons.1 hx with rfl | hx
              · exact absurd rfl hxm
              · exact ih.keep x hx hne ro rt base cs hg
          · rcases List.mem_cons.1 hb with rfl | hb
            · exact absurd rfl hm'
            · exact ih.self hb
      · rename_i hnot
        have ih := poison_spec b lo hi ms h ms' h' e
        refine ⟨fun x hx => List.mem_cons_of_mem _ (ih.sub x hx), fun i => ?_, fun x hx hne => ?_, fun hb => ?_⟩
        · rcases ih.same i with h1 | ⟨h1, h2, h3, h4⟩
          · exact .inl h1
          · exact .inr ⟨h1, List.mem_cons_of_mem _ h2, h3, h4⟩
        · intro ro rt base cs hg
          by_cases hxm : x = m
          · subst hxm
            exfalso
            rcases ih.same x with h1 | ⟨h1, _⟩
            · exact hnot ro rt base cs (by rw [← h1]; exact hg)
            · rw [h1] at hg; cases hg
          · rcases List.mem_cons.1 hx with rfl | hx
            · exact absurd rfl hxm
            · exact ih.keep x hx hne ro rt base cs hg
        · rcases List.mem_cons.1 hb with rfl | hb
          · exact absurd rfl hm'
          · exact ih.self hb

/- ### the real side of a write -/
theorem setCells_heap_other (b : Nat) : ∀ (vs : List Value) (o : Nat) (w : World) (k : Nat), k ≠ b → (w.setCells b o vs).heap[k]? = w.heap[k]?
  | [], _, _, _, _ => rfl
  | v :: r, o, w, k, h => by
    rw [World.setCells, setCells_heap_other b r _ _ _ h]
    simp only [World.setCell, Array.getElem?_modify]
    rw [if_neg (fun e => h e.symm)]
theorem setCells_size (b : Nat) : ∀ (vs : List Value) (o : Nat) (w : World), (w.setCells b o vs).heap.size = w.heap.size
  | [], _, _ => rfl
  | v :: r, o, w => by rw [World.setCells, setCells_size b r]; simp
theorem setCells_env (b : Nat) : ∀ (vs : List Value) (o : Nat) (w : World), (w.setCells b o vs).os = w.os ∧ (w.setCells b o vs).tape = w.tape ∧ (w.setCells b o vs).output = w.output
  | [], _, _ => ⟨rfl, rfl, rfl⟩
  | v :: r, o, w => by rw [World.setCells]; exact setCells_env b r _ _
theorem setCells_isSome (b : Nat) : ∀ (vs : List Value) (o : Nat) (w : World) (x : Addr), (w.cell? x).isSome = true → ((w.setCells b o vs).cell? x).isSome = true
  | [], _, _, _, h => h
  | v :: r, o, w, x, h => by
    rw [World.setCells]
    refine setCells_isSome b r _ _ _ ?_
    by_cases e : (⟨b, o, none⟩ : Addr) = x
    · subst e
      obtain ⟨u, hu⟩ := Option.isSome_iff_exists.1 h
      rw [World.cell?_setCell_same _ _ _ hu]; rfl
    · rw [World.cell?_setCell_other _ _ _ _ e]; exact h

/-- The part of a block's cells that is written anew. -/
theorem Holds.written {ρ : Rho} {w : World} {B o r : Nat} {cs as : List AV} {vs : List Value} {off : Nat} (h : Holds ρ w B o r false cs) (hv : Rels ρ as vs) (hfit : off + as.length ≤ cs.length) :
    Holds ρ (w.setCells B (o + off) vs) B o r false (writeL cs off as) where
  fit := by rw [writeL_length _ _ _ hfit]; exact h.fit
  lt := by rw [setCells_size]; exact h.lt
  vals := by
    obtain ⟨us, h1, h2⟩ := h.vals
    have hl := h1.length
    have hl2 := hv.length
    have hfr := h.fit
    refine ⟨writeV us off vs, h1.write hv, fun i v e => ?_⟩
    unfold writeV at e
    by_cases hi1 : i < off
    · rw [List.getElem?_append_left (by simp; omega), List.getElem?_take, if_pos hi1] at e
      rw [World.cell?_setCells_out _ _ _ _ _ (fun _ _ => by left; simp; omega)]
      exact h2 i v e
    · rw [List.getElem?_append_right (by simp; omega)] at e
      by_cases hi2 : i < off + vs.length
      · rw [List.getElem?_append_left (by simp; omega)] at e
        have hidx : i - (List.take off us).length = i - off := by simp; omega
        rw [hidx] at e
        have hj : i - off < vs.length := by omega
        have := World.cell?_setCells_in B vs (o + off) w (fun j hj' => by rw [show o + off + j = o + (off + j) by omega]; exact h.there (off + j) (by omega)) (i - off) hj
        rw [show o + off + (i - off) = o + i by omega] at this
        rw [this]
        rw [List.getElem?_eq_getElem hj] at e
        exact e
      · rw [List.getElem?_append_right (by simp; omega), List.getElem?_drop] at e
        rw [World.cell?_setCells_out _ _ _ _ _ (fun _ _ => by right; simp; omega)]
        refine h2 i v ?_
        rw [← e]; congr 1; simp; omega
  there := fun j hj => setCells_isSome _ _ _ _ _ (h.there j hj)
  free := fun e j hj => by rw [World.frozen?_setCells]; exact h.free e j hj
/-- What does not reach into the part that is written. -/
theorem Holds.beside {ρ : Rho} {w : World} {B o r B' o' : Nat} {ro : Bool} {cs : List AV} {vs : List Value} (h : Holds ρ w B o r ro cs) (hd : B' = B → o + cs.length ≤ o' ∨ o' + vs.length ≤ o) :
    Holds ρ (w.setCells B' o' vs) B o r ro cs where
  fit := h.fit
  lt := by rw [setCells_size]; exact h.lt
  vals := by
    obtain ⟨us, h1, h2⟩ := h.vals
    refine ⟨us, h1, fun i v e => ?_⟩
    have hi := (List.getElem?_eq_some_iff.1 e).1
    have hl := h1.length
    rw [World.cell?_setCells_out _ _ _ _ _ (fun eB _ => by
      have := hd eB.symm
      simp only
      omega)]
    exact h2 i v e
  there := fun j hj => setCells_isSome _ _ _ _ _ (h.there j hj)
  free := fun e j hj => by rw [World.frozen?_setCells]; exact h.free e j hj

theorem St.get_lt {st : St} {h : Hp} (ha : Agree st h) {id : Nat} {e : Ent} (he : st.get id = some e) : id < st.n := by
  rcases Nat.lt_or_ge id st.n with h1 | h1
  · exact h1
  · rw [ha.wf id h1] at he; cases he

theorem write_sound {P : Program} {ρ : Rho} {h : Hp} {w : World} {st st' : St} {b off B o r : Nat} {as : List AV} {vs : List Value} (hr : HR ρ h w) (ha : Agree st h) (hρ : ρ b = some (B, o, r))
    (hw : st.write b off as = some st') (hv : Rels ρ as vs) :
    (storeCells ⟨B, o + off, none⟩ vs).run P w = .ok () (w.setCells B (o + off) vs) ∧ Post ρ h w st ρ (upd st' h) (w.setCells B (o + off) vs) st' ∧ st'.n = st.n := by
  unfold St.write at hw
  split at hw
  · rename_i fam cs hb
    split at hw
    · cases hw
    · rename_i hchk
      simp only [Bool.and_eq_true] at hchk
      have hfit := Nat.le_of_ble_eq_true hchk.1
      have hsc := hchk.2
      have hbn := St.get_lt ha hb
      have hhb : h b = some (.cells false fam cs) := by rw [ha.eq b hbn]; exact hb
      have H := hr.cell b B o r false fam cs hρ hhb
      have hvl := hv.length
      have hHf := H.fit
      have hstore : (storeCells ⟨B, o + off, none⟩ vs).run P w = .ok () (w.setCells B (o + off) vs) := by
        have := run_storeCells_cells (P := P) B (o + off) vs 0 w
          (fun j hj => by rw [show o + off + 0 + j = o + (off + j) by omega]; exact H.there _ (by omega))
          (fun j hj => by rw [show o + off + 0 + j = o + (off + j) by omega]; exact H.free rfl _ (by omega))
          (hv.oneCell hsc)
        simpa using this
      -- what the new abstract heap is
      have key : ∃ (g : Tr Ent), st' = { st with h := g } ∧ g.get b = some (.cells false fam (writeL cs off as)) ∧
          (∀ i, i ≠ b → (g.get i = st.get i) ∨ (∃ rt base ms ms', fam = some (rt, base) ∧ st.get rt = some (.fam ms) ∧ i = rt ∧ g.get i = some (.fam ms')) ∨
             (∃ rt base ms, fam = some (rt, base) ∧ st.get rt = some (.fam ms) ∧ i ∈ ms ∧ g.get i = some .dead ∧ ∃ ro x c, st.get i = some (.cells ro (some x) c))) ∧
          (∀ rt base, fam = some (rt, base) → ∃ ms ms', st.get rt = some (.fam ms) ∧ g.get rt = some (.fam ms') ∧ (∀ m, m ∈ ms' → m ∈ ms) ∧ (b ∈ ms → b ∈ ms') ∧
             ∀ m, m ∈ ms → m ≠ b → ∀ ro rt' base' c, g.get m = some (.cells ro (some (rt', base')) c) → m ∈ ms' ∧ (base + off + as.length ≤ base' ∨ base' + c.length ≤ base + off)) := by
        cases fam with
        | none =>
          simp only [Option.some.injEq] at hw
          refine ⟨_, hw.symm, by rw [Tr.get_set, if_pos rfl], fun i hi => .inl (by rw [Tr.get_set, if_neg (fun e => hi e.symm)]; rfl), fun rt base e => by cases e⟩
        | some p =>
          obtain ⟨rt, base⟩ := p
          simp only at hw
          split at hw
          · rename_i ms hms
            generalize hp : poison b (base + off) (base + off + as.length) ms st.h = q at hw
            obtain ⟨ms', g⟩ := q
            simp only [Option.some.injEq] at hw
            have PS := poison_spec _ _ _ _ _ _ _ hp
            have hne : rt ≠ b := fun e => by rw [e, hb] at hms; cases hms
            have hrt : g.get rt = some (.fam ms) := by
              rcases PS.same rt with e | ⟨_, _, _, ro, x, c, e⟩
              · rw [e]; exact hms
              · have : st.get rt = some (.cells ro (some x) c) := e
                rw [hms] at this; cases this
            refine ⟨_, hw.symm, by rw [Tr.get_set, if_pos rfl], fun i hi => ?_, fun rt' base' e => ?_⟩
            · rw [Tr.get_set, if_neg (fun e => hi e.symm), Tr.get_set]
              by_cases hir : i = rt
              · subst hir
                rw [if_pos rfl]
                exact .inr (.inl ⟨i, base, ms, ms', rfl, hms, rfl, rfl⟩)
              · rw [if_neg (fun e => hir e.symm)]
                rcases PS.same i with e | ⟨e1, e2, e3, e4⟩
                · exact .inl e
                · exact .inr (.inr ⟨rt, base, ms, rfl, hms, e2, e1, e4⟩)
            · cases e
              refine ⟨ms, ms', hms, by rw [Tr.get_set, if_neg (fun e => hne e.symm), Tr.get_set, if_pos rfl], PS.sub, PS.self, fun m hm hmb ro rt' base' c hg => ?_⟩
              rw [Tr.get_set, if_neg (fun e => hmb e.symm), Tr.get_set] at hg
              split at hg
              · cases hg
              · exact PS.keep m hm hmb ro rt' base' c hg
          · cases hw
      obtain ⟨g, rfl, kb, kother, kfam⟩ := key
      have hupd : ∀ i, i < st.n → upd { st with h := g } h i = g.get i := fun i hi => by unfold upd; rw [if_pos hi]; rfl
      have hupd2 : ∀ i, ¬ i < st.n → upd { st with h := g } h i = h i := fun i hi => by unfold upd; rw [if_neg hi]
      -- an entry of cells other than b's is an old one
      have old : ∀ i ro f c, i ≠ b → upd { st with h := g } h i = some (.cells ro f c) → h i = some (.cells ro f c) := fun i ro f c hi e => by
        by_cases hn : i < st.n
        · rw [hupd i hn] at e
          rcases kother i hi with k | ⟨_, _, _, _, _, _, _, k⟩ | ⟨_, _, _, _, _, _, k, _⟩
          · rw [ha.eq i hn, ← k]; exact e
          · rw [k] at e; cases e
          · rw [k] at e; cases e
        · rw [hupd2 i hn] at e; exact e
      have hub : upd { st with h := g } h b = some (.cells false fam (writeL cs off as)) := by rw [hupd b hbn]; exact kb
      have hmem : ∀ i B' o' r' ro f c, i ≠ b → ρ i = some (B', o', r') → upd { st with h := g } h i = some (.cells ro f c) → B' = B →
          ∃ rt base base', fam = some (rt, base) ∧ f = some (rt, base') ∧ o' + base = o + base' ∧ (base + off + as.length ≤ base' ∨ base' + c.length ≤ base + off) := fun i B' o' r' ro f c hi h1 h2 hB => by
        subst hB
        obtain ⟨rt, b1, b2, e1, e2, e3⟩ := hr.apart i b B' o' r' o r ro false f fam c cs hi h1 hρ (old i ro f c hi h2) hhb (.inr rfl)
        subst e1 e2
        obtain ⟨ms, ms', k1, k2, k3, k4, k5⟩ := kfam rt b2 rfl
        obtain ⟨_, ms0, f1, f2, f3⟩ := hr.fam i rt b1 _ ro c h1 (old i ro _ c hi h2)
        have hrtn := St.get_lt ha k1
        have : ms0 = ms := by rw [ha.eq rt hrtn, k1] at f1; cases f1; rfl
        subst this
        have hin : i < st.n := ha.mem rt ms0 k1 i f2
        rw [hupd i hin] at h2
        exact ⟨rt, b2, b1, rfl, rfl, e3, (k5 i f2 hi ro rt b1 c h2).2⟩
      have hlive : ∀ i, ρ i ≠ none → upd { st with h := g } h i ≠ none ∧ ∀ ms, upd { st with h := g } h i ≠ some (.fam ms) := fun i hi => by
        by_cases hib : i = b
        · subst hib; rw [hub]; simp
        · by_cases hn : i < st.n
          · rw [hupd i hn]
            rcases kother i hib with k | ⟨rt, base, ms, ms', _, k1, rfl, _⟩ | ⟨_, _, _, _, _, _, k, _⟩
            · rw [k, ← ha.eq i hn]; exact hr.ent i hi
            · exact absurd (by rw [ha.eq i hn]; exact k1) ((hr.ent i hi).2 ms)
            · rw [k]; simp
          · rw [hupd2 i hn]; exact hr.ent i hi
      have hHR : HR ρ (upd { st with h := g } h) (w.setCells B (o + off) vs) := by
        refine ⟨?_, ?_, ?_, hlive⟩
        · intro i B' o' r' ro f c h1 h2
          by_cases hib : i = b
          · subst hib
            rw [hρ] at h1; cases h1
            rw [hub] at h2; cases h2
            exact H.written hv hfit
          · refine (hr.cell i B' o' r' ro f c h1 (old i ro f c hib h2)).beside (fun hB => ?_)
            obtain ⟨rt, base, base', _, _, e3, e4⟩ := hmem i B' o' r' ro f c hib h1 h2 hB.symm
            omega
        · intro i j B' o1 r1 o2 r2 ro1 ro2 f1 f2 c1 c2 hij h1 h2 h3 h4 h5
          by_cases hib : i = b
          · subst hib
            rw [hρ] at h1; cases h1
            rw [hub] at h3; cases h3
            exact hr.apart i j B o r o2 r2 false ro2 fam f2 cs c2 hij hρ h2 hhb (old j ro2 f2 c2 (fun e => hij e.symm) h4) (.inl rfl)
          · by_cases hjb : j = b
            · subst hjb
              rw [hρ] at h2; cases h2
              rw [hub] at h4; cases h4
              exact hr.apart i j B o1 r1 o r ro1 false f1 fam c1 cs hij h1 hρ (old i ro1 f1 c1 hib h3) hhb (.inr rfl)
            · exact hr.apart i j B' o1 r1 o2 r2 ro1 ro2 f1 f2 c1 c2 hij h1 h2 (old i ro1 f1 c1 hib h3) (old j ro2 f2 c2 hjb h4) h5
        · intro i rt b1 x ro c h1 h2
          have hold : h i = some (.cells ro (some (rt, b1)) (if i = b then cs else c)) := by
            by_cases hib : i = b
            · subst hib
              rw [if_pos rfl]
              rw [hub] at h2
              simp only [Option.some.injEq, Ent.cells.injEq] at h2
              obtain ⟨rfl, rfl, _⟩ := h2
              exact hhb
            · rw [if_neg hib]; exact old i ro _ c hib h2
          obtain ⟨e1, ms0, f1, f2, f3⟩ := hr.fam i rt b1 x ro _ h1 hold
          refine ⟨e1, ?_⟩
          by_cases hrn : rt < st.n
          · rw [ha.eq rt hrn] at f1
            have hrb : rt ≠ b := fun e => by rw [e, hb] at f1; cases f1
            rcases kother rt hrb with k | ⟨rt', base, ms, ms', k0, k1, rfl, k2⟩ | ⟨_, _, _, _, _, _, _, ro', x', c', k⟩
            · exact ⟨ms0, by rw [hupd rt hrn, k]; exact f1, f2, f3⟩
            · obtain ⟨ms1, ms1', j1, j2, j3, j4, j5⟩ := kfam rt base k0
              rw [j1] at f1; cases f1
              refine ⟨ms1', by rw [hupd rt hrn]; exact j2, ?_, fun m hm => f3 m (j3 m hm)⟩
              by_cases hib : i = b
              · rw [hib]; exact j4 (by rw [← hib]; exact f2)
              · have hin : i < st.n := ha.mem rt ms0 j1 i f2
                rw [hupd i hin] at h2
                exact (j5 i f2 hib ro rt b1 c h2).1
            · rw [f1] at k; cases k
          · exact ⟨ms0, by rw [hupd2 rt hrn]; exact f1, f2, f3⟩
      have henv := setCells_env B vs (o + off) w
      refine ⟨hstore, ⟨fun _ _ e => e, fun id e => absurd rfl e, rfl, hHR, ⟨fun id hid => by rw [hupd id hid]; rfl, fun id hid => ?_, fun i ro rt b1 c hc => ?_, fun rt ms hms m hm => ?_⟩, Nat.le_refl _, henv.1, henv.2.1, henv.2.2, by rw [setCells_size]; exact Nat.le_refl _, fun B' hB' hf => ?_, fun id hid hρi hnf => ?_⟩, rfl⟩
      · show g.get id = none
        have hib : id ≠ b := fun e => by subst e; simp only at hid; omega
        rcases kother id hib with k | ⟨rt, base, ms, ms', _, k1, rfl, _⟩ | ⟨_, _, ms, _, k1, k2, _, _⟩
        · rw [k]; exact ha.wf id hid
        · have := St.get_lt ha k1; simp only at hid; omega
        · have := ha.mem _ ms k1 id k2; simp only at hid; omega
      · show rt < st.n
        have hc' : g.get i = some (.cells ro (some (rt, b1)) c) := hc
        by_cases hib : i = b
        · subst hib
          rw [kb] at hc'
          simp only [Option.some.injEq, Ent.cells.injEq] at hc'
          obtain ⟨_, rfl, _⟩ := hc'
          exact ha.ref _ _ _ _ _ hb
        · rcases kother i hib with k | ⟨_, _, _, _, _, _, _, k⟩ | ⟨_, _, _, _, _, _, k, _⟩
          · rw [k] at hc'; exact ha.ref i ro rt b1 c hc'
          · rw [k] at hc'; cases hc'
          · rw [k] at hc'; cases hc'
      · show m < st.n
        have hms' : g.get rt = some (.fam ms) := hms
        by_cases hrb : rt = b
        · rw [hrb, kb] at hms'; cases hms'
        · rcases kother rt hrb with k | ⟨rt', base, ms1, ms1', k0, k1, rfl, k2⟩ | ⟨_, _, _, _, _, _, k, _⟩
          · rw [k] at hms'; exact ha.mem rt ms hms' m hm
          · obtain ⟨ms2, ms2', j1, j2, j3, _⟩ := kfam rt base k0
            rw [hms'] at j2; cases j2
            exact ha.mem rt ms2 j1 m (j3 m hm)
          · rw [k] at hms'; cases hms'
      · have hBB : B' ≠ B := fun e => by
          subst e
          obtain ⟨f', c', e'⟩ := hf b o r hρ
          rw [hhb] at e'; cases e'
        refine ⟨setCells_heap_other _ _ _ _ _ hBB, fun id o' r' h1 => ?_⟩
        obtain ⟨f', c', e'⟩ := hf id o' r' h1
        have hib : id ≠ b := fun e => by subst e; rw [hhb] at e'; cases e'
        refine ⟨f', c', ?_⟩
        by_cases hn : id < st.n
        · rw [hupd id hn]
          rw [ha.eq id hn] at e'
          rcases kother id hib with k | ⟨rt, base, ms, ms', _, k1, rfl, _⟩ | ⟨rt, base, ms, k0, k1, k2, k3, ro, x, c, k4⟩
          · rw [k]; exact e'
          · rw [k1] at e'; cases e'
          · exfalso
            rw [k4] at e'
            simp only [Option.some.injEq, Ent.cells.injEq] at e'
            obtain ⟨rfl, _, _⟩ := e'
            have := hr.fam id x.1 x.2 _ true c h1 (by rw [ha.eq id hn]; exact k4)
            cases this.1
        · rw [hupd2 id hn]; exact e'
      · show g.get id = st.get id
        have hib : id ≠ b := fun e => by subst e; rw [hρ] at hρi; cases hρi
        rcases kother id hib with k | ⟨rt, base, ms, ms', _, k1, rfl, _⟩ | ⟨rt, base, ms, k0, k1, k2, _, _⟩
        · exact k
        · exact absurd k1 (hnf ms)
        · exfalso
          subst k0
          obtain ⟨_, ms0, f1, f2, f3⟩ := hr.fam b rt base _ false cs hρ hhb
          have hrtn := St.get_lt ha k1
          rw [ha.eq rt hrtn, k1] at f1; cases f1
          exact f3 id k2 hρi
  · cases hw

end Go.Den

/- New blocks; append, copy, clear. -/
namespace Go.Den
open Go

/- ### so many times some cells -/
def timesV : Nat → List Value → List Value
  | 0, _ => []
  | n + 1, z => z ++ timesV n z
theorem Rels.times {ρ : Rho} {z : List AV} {zv : List Value} (h : Rels ρ z zv) : ∀ n, Rels ρ (timesL n z) (timesV n zv)
  | 0 => Rels.nil
  | n + 1 => h.append (Rels.times h n)
theorem timesV_length (z : List Value) : ∀ n, (timesV n z).length = n * z.length
  | 0 => by simp [timesV]
  | n + 1 => by simp [timesV, timesV_length z n, Nat.add_mul]; omega
theorem timesV_get (z : List Value) (hz : 0 < z.length) : ∀ (n i : Nat), i < n * z.length → (timesV n z)[i]? = z[i % z.length]?
  | 0, i, h => by omega
  | n + 1, i, h => by
    simp only [timesV]
    by_cases hi : i < z.length
    · rw [List.getElem?_append_left hi, Nat.mod_eq_of_lt hi]
    · rw [List.getElem?_append_right (by omega), timesV_get z hz n (i - z.length) (by rw [Nat.add_mul] at h; omega)]
      congr 1
      exact (Nat.mod_eq_sub_mod (by omega)).symm
theorem range_times (z : Array Value) (n : Nat) (hz : 0 < z.size ∨ n = 0) : ((Array.range (n * z.size)).map (fun i => z[i % z.size]!)) = (timesV n z.toList).toArray := by
  apply Array.ext'
  apply List.ext_getElem?
  intro i
  by_cases hi : i < n * z.size
  · have hz' : 0 < z.size := by
      rcases hz with h | h
      · exact h
      · subst h; simp at hi
    rw [timesV_get _ (by simpa using hz') n i (by simpa using hi)]
    have hm : i % z.size < z.size := Nat.mod_lt _ hz'
    simp [hi, getElem!_pos z (i % z.size) hm, Array.getElem?_eq_getElem hm]
  · rw [List.getElem?_eq_none (by simp; omega), List.getElem?_eq_none (by rw [timesV_length]; simp; omega)]
theorem zeroCells_times (z : Array Value) (n : Nat) (hz : 0 < z.size ∨ n = 0) : Builtin.zeroCells z n = (timesV n z.toList).toArray := range_times z n hz

section
variable {P : Program} {ρ : Rho} {h : Hp} (w : World) {tmps : List AV} {a : Act}

theorem sizeA_cells {t : TypeId} {n : Nat} (hn : sizeA P t = some n) : ∃ i, P.info? t = some i ∧ i.size = n := by
  unfold sizeA at hn
  split at hn
  · rename_i i hi; cases hn; exact ⟨i, hi, rfl⟩
  · cases hn

/-- The cells of a literal, or of make, ahead of the parts. -/
theorem zeros_sound {e : TypeId} {len sz : Nat} {z : List AV}
    (hz : (match Nat.beq (len * sz) 0 with | true => some [] | false => match zeroA P e with | some z => (match Nat.beq z.cells.length sz with | true => some (timesL len z.cells) | false => none) | none => none : Option (List AV)) = some z) (ρ : Rho) :
    ∃ zs : List Value, Rels ρ z zs ∧ zs.length = len * sz ∧ ((len * sz = 0 ∧ zs = []) ∨
      (¬ len * sz = 0 ∧ ∃ zv : Value, (∀ w, (zeroValue e).run P w = .ok zv w) ∧ (Array.range (len * sz)).map (zv.cells[· % zv.cells.size]!) = zs.toArray)) := by
  split at hz
  · rename_i h0
    have h0' := beq_true_eq h0
    cases hz
    exact ⟨[], Rels.nil, by simp [h0'], .inl ⟨h0', rfl⟩⟩
  · rename_i h0
    have h0' := beq_false_ne h0
    split at hz
    · rename_i z0 hz0
      split at hz
      · rename_i hb
        cases hz
        have hl := beq_true_eq hb
        obtain ⟨zv, hzr, hrel⟩ := run_zeroA hz0 ρ
        have hlen := hrel.cells.length
        simp only [Array.length_toList] at hlen
        have hsz : zv.cells.size = sz := by rw [hlen, hl]
        have hpos : 0 < sz := by
          rcases Nat.eq_zero_or_pos sz with e | e
          · subst e; simp at h0'
          · exact e
        refine ⟨timesV len zv.cells.toList, hrel.cells.times len, by rw [timesV_length]; simp; rw [hlen, hl], .inr ⟨h0', zv, hzr, ?_⟩⟩
        have := range_times zv.cells len (by left; omega)
        rw [hsz] at this
        rw [← this, hsz]
      · cases hz
    · cases hz

/-- An operation that makes a block: on the model's side. -/
theorem alloc_real (htr : TR ρ tmps a.tmps) {o : Oper} {n : Nat} {v : AV} {cs : List AV} (e : allocA P tmps n o.op = some (v, cs)) :
    ∃ u vs ty, (execOp a.eval o).run P w = .ok (.value u) (w.alloc (.cells vs.toArray ty)) ∧ Rels ρ cs vs ∧ ∀ ρ' : Rho, ρ' n = some (w.heap.size, 0, vs.length) → Rel ρ' v u := by
  obtain ⟨dst, op, type, pos, after, guard⟩ := o
  simp only at e
  unfold allocA at e
  split at e
  · rename_i t
    split at e
    · rename_i z hz
      cases e
      obtain ⟨zv, hzr, hrel⟩ := run_zeroA hz ρ
      refine ⟨.pointer (some ⟨w.heap.size, 0, none⟩), zv.cells.toList, t, ?_, hrel.cells, fun ρ' hρ' => by simp only [Rel]; exact ⟨_, _, _, hρ', rfl⟩⟩
      simp [execOp, Instr.alloc, hzr, newVar, newRow]
    · cases e
  · rename_i t x
    split at e
    · rename_i v0 hv
      cases e
      have hrel := ev_sound htr hv
      refine ⟨.pointer (some ⟨w.heap.size, 0, none⟩), (a.eval x).cells.toList, t, ?_, hrel.cells, fun ρ' hρ' => by simp only [Rel]; exact ⟨_, _, _, hρ', rfl⟩⟩
      simp [execOp, Instr.box, newVar, newRow]
    · cases e
  · rename_i t len parts
    split at e
    · rename_i e0 l ht hl
      split at e
      · rename_i sz hs
        split at e
        · cases e
        · rename_i hsm
          have hsm' := Nat.le_of_ble_eq_true hsm
          split at e
          · cases e
          · rename_i z hz
            split at e
            · rename_i cs0 hf
              cases e
              obtain ⟨zs, hzrel, hzl, hcase⟩ := zeros_sound hz ρ
              obtain ⟨r', hr', hrel⟩ := fill_fillA (ρ := ρ) (placeV := fun i => some (i * sz, sz)) (by intro i x hx; exact hx) l _ z zs _ hf (evParts_sound htr hl) hzrel
              refine ⟨.slice (some ⟨w.heap.size, 0, none⟩) len len, r', e0, ?_, hrel, fun ρ' hρ' => by simp only [Rel]; exact ⟨_, _, _, hρ', Nat.le_refl _, rfl⟩⟩
              have hnot : ¬ len * sz > 2 ^ 24 := by omega
              have hq := parts_toArray parts a.eval
              generalize (parts.toList.map fun (i, x) => (i, a.eval x)) = qs at hq hr'
              simp only [execOp]
              rw [hq]
              rcases hcase with ⟨h0, rfl⟩ | ⟨h0, zv, hzr, hmap⟩
              · have hm0 : (Array.range (len * sz)).map (fun i => (#[] : Array Value)[i % (#[] : Array Value).size]!) = (#[] : Array Value) := by apply Array.ext'; simp [h0]
                simp only [Instr.buildSlice, Sem.run_bind, run_underlying ht, run_sizeA hs, Result.andThen_ok, Sem.run_ite, hnot, if_false, if_pos h0, Sem.run_pure, hm0, hr', newRow, run_newObj]
                rfl
              · simp only [Instr.buildSlice, Sem.run_bind, run_underlying ht, run_sizeA hs, Result.andThen_ok, Sem.run_ite, hnot, if_false, if_neg h0, Sem.run_pure, hzr, hmap, hr', newRow, run_newObj]
                rfl
            · cases e
      · cases e
    · cases e
  · rename_i t l c
    split at e
    · rename_i e0 k1 l0 k2 c0 ht hl hc
      split at e
      · rename_i sz by_ hs hby
        split at e
        · cases e
        · rename_i hb
          simp only [Bool.and_eq_true, decide_eq_true_eq] at hb
          obtain ⟨⟨⟨h0, hlc⟩, hmax⟩, hbytes⟩ := hb
          split at e
          · cases e
          · rename_i z hz
            cases e
            obtain ⟨zs, hzrel, hzl, hcase⟩ := zeros_sound hz ρ
            have r1 := ev_sound htr hl
            have r2 := ev_sound htr hc
            simp only [Rel] at r1 r2
            obtain ⟨i, hi, hib⟩ := run_bytesA hby
            refine ⟨.slice (some ⟨w.heap.size, 0, none⟩) l0.toNat c0.toNat, zs, e0, ?_, hzrel, fun ρ' hρ' => by simp only [Rel]; exact ⟨_, _, _, hρ', by omega, rfl⟩⟩
            have hw1 : IntKind.i64.wrap l0 = l0 := IntWalk.i64_in _ (by omega)
            have hw2 : IntKind.i64.wrap c0 = c0 := IntWalk.i64_in _ (by omega)
            have hti : ∀ w, (typeInfo e0).run P w = .ok i w := fun w => by simp [typeInfo, hi]
            have hcond : (((decide (c0 < 0) || decide ((i.bytes : Int) * c0 > 2 ^ 48)) || decide (l0 < 0)) || decide (l0 > c0)) = false := by
              rw [hib]; simp only [Bool.or_eq_false_iff, decide_eq_false_iff_not]; omega
            simp only [execOp]
            rw [r1, r2]
            rcases hcase with ⟨h0, rfl⟩ | ⟨h0, zv, hzr, hmap⟩
            · have hm0 : (Array.range (c0.toNat * sz)).map (fun i => (#[] : Array Value)[i % (#[] : Array Value).size]!) = (#[] : Array Value) := by apply Array.ext'; simp [h0]
              simp only [Instr.makeSlice, Sem.run_bind, run_underlying ht, Result.andThen_ok, asInt, asIntOf, Sem.run_pure, hti, hw1, hw2, hcond, Bool.false_eq_true, if_false, run_askRoom, run_sizeA hs, Sem.run_ite, if_pos h0, hm0, newRow, run_newObj]
              rfl
            · simp only [Instr.makeSlice, Sem.run_bind, run_underlying ht, Result.andThen_ok, asInt, asIntOf, Sem.run_pure, hti, hw1, hw2, hcond, Bool.false_eq_true, if_false, run_askRoom, run_sizeA hs, Sem.run_ite, if_neg h0, hzr, hmap, newRow, run_newObj]
              rfl
      · cases e
    · cases e
  · cases e
end

end Go.Den

/- append, copy, clear; stores. -/
namespace Go.Den
open Go

section
variable {P : Program} {ρ : Rho} {h : Hp} {w : World} {st : St}

/-- A new number for a new block with all its cells. -/
theorem new_Post (hr : HR ρ h w) (ha : Agree st h) {cs : List AV} {vs : List Value} {ty : TypeId} (hf : Fresh ρ h st (st.new cs)) (hrel : Rels ρ cs vs) :
    Post ρ h w st (fun i => if i = st.n then some (w.heap.size, 0, vs.length) else ρ i) (upd (st.new cs) h) (w.alloc (.cells vs.toArray ty)) (st.new cs) := by
  have hget : ∀ id, (st.new cs).get id = if st.n = id then some (.cells false none cs) else st.get id := fun id => Tr.get_set _ _ _ _
  have hρn : ρ st.n = none := hf.none st.n (Nat.le_refl _) (by simp [St.new])
  have hg := hr.grow ha hf (by simp [St.new]) (fun id hid => by rw [hget, if_neg (by omega)])
  have hA := alloc_HR hg (id := st.n) (cs := cs) (vs := vs) (rest := []) (e := ty) (fam := none) hρn (by unfold upd; rw [if_pos (by simp [St.new]), hget, if_pos rfl]) hrel (fun _ _ e => by cases e)
  simp only [List.append_nil, List.length_nil, Nat.add_zero] at hA
  refine ⟨fun i x e => ?_, fun id e => ?_, rfl, hA, ⟨fun id hid => by unfold upd; rw [if_pos hid], fun id hid => ?_, fun i ro rt b c hc => ?_, fun rt ms hms m hm => ?_⟩, by simp [St.new], rfl, rfl, rfl, by simp, fun B hB hf' => ⟨heap_alloc_old w _ _ hB, fun id o r e => ?_⟩, fun id hid _ _ => by rw [hget, if_neg (by omega)]⟩
  · rw [if_neg (fun e' => by rw [e', hρn] at e; cases e)]; exact e
  · split at e
    · rename_i hi; subst hi; exact ⟨Nat.le_refl _, by simp [St.new]⟩
    · exact absurd rfl e
  · simp only [St.new] at hid
    rw [hget, if_neg (by omega)]
    exact ha.wf id (by omega)
  · rw [hget] at hc
    split at hc
    · cases hc
    · have := ha.ref i ro rt b c hc; simp [St.new]; omega
  · rw [hget] at hms
    split at hms
    · cases hms
    · have := ha.mem rt ms hms m hm; simp [St.new]; omega
  · simp only at e
    split at e
    · simp only [Option.some.injEq, Prod.mk.injEq] at e; omega
    · rename_i hne
      obtain ⟨f, c, hc⟩ := hf' id o r e
      refine ⟨f, c, ?_⟩
      unfold upd
      split
      · rename_i hlt
        simp only [St.new] at hlt
        rw [hget, if_neg (by omega), ← ha.eq id (by omega)]
        exact hc
      · exact hc

theorem Rel.sl_addr {b off len : Nat} {cap : Cap} {u : Value} (hx : Rel ρ (.sl (some (b, off)) len cap) u) : ∃ B o r c, ρ b = some (B, o, r) ∧ (u = .slice (some ⟨B, o + off, none⟩) len c ∨ (len = 0 ∧ c = 0 ∧ ∃ x, u = .slice (some ⟨B, x, none⟩) 0 0)) := by
  cases cap with
  | known c => simp only [Rel] at hx; obtain ⟨B, o, r, h1, _, e⟩ := hx; exact ⟨B, o, r, c, h1, .inl e⟩
  | more lb sz =>
    simp only [Rel] at hx
    obtain ⟨B, o, r, c, h1, h2, h3, _, e | ⟨h4, x, e⟩⟩ := hx
    · exact ⟨B, o, r, c, h1, .inl e⟩
    · exact ⟨B, o, r, c, h1, .inr ⟨by omega, h4, x, e⟩⟩

theorem lenOf_sound {x : AV} {n : Nat} {u : Value} (e : lenA x = some n) (hx : Rel ρ x u) : ∀ w, (Builtin.lenOf u).run P w = .ok n w := by
  intro w
  unfold lenA at e
  split at e
  · cases e
    obtain ⟨p, c, rfl⟩ := hx.sl_form
    rfl
  · cases e
    have := hx.str_inv
    subst this
    simp [Builtin.lenOf, size_mk]
  · cases e

theorem source_sound (hr : HR ρ h w) (ha : Agree st h) {sz n : Nat} {x : AV} {u : Value} {l : List AV} (e : sourceA st sz n x = some l) (hx : Rel ρ x u) :
    ∃ vs, Rels ρ l vs ∧ (Builtin.firstCells sz n u).run P w = .ok vs.toArray w := by
  unfold sourceA at e
  split at e
  · rename_i b off len cap
    split at e
    · rename_i hle
      have hle' := Nat.le_of_ble_eq_true hle
      obtain ⟨ro, fam, cs, hb, hread⟩ := St.read_some e
      obtain ⟨B, o, r, c, hρ, hu⟩ := hx.sl_addr
      have hbn := St.get_lt ha hb
      obtain ⟨vs, hrel, hlen, hrun⟩ := read_sound hr (by rw [ha.eq b hbn]; exact hb) hρ hread
      rcases hu with rfl | ⟨h0, _, x, rfl⟩
      · exact ⟨vs, hrel, by simp [Builtin.firstCells, hrun]⟩
      · obtain rfl : n = 0 := by omega
        have : vs = [] := by simpa using hlen
        subst this
        exact ⟨[], hrel, by simp [Builtin.firstCells, loadCells, loadCellsFrom]⟩
    · cases e
  · rename_i len cap
    split at e
    · cases e
      simp only [Rel] at hx
      obtain ⟨_, _, rfl⟩ := hx
      exact ⟨[], Rels.nil, by simp [Builtin.firstCells]⟩
    · cases e
  · rename_i s
    split at e
    · rename_i hle
      cases e
      have := hx.str_inv
      subst this
      refine ⟨(s.take n).map fun b => .int .u8 b.toNat, ?_, ?_⟩
      · generalize s.take n = q
        induction q with
        | nil => exact Rels.nil
        | cons c q ih => exact Rels.cons (by simp [Rel]) ih
      · simp only [Builtin.firstCells, Sem.run_pure]
        congr 1
        apply Array.ext'
        simp [ByteArray.data_extract]
    · cases e
  · cases e

theorem copy_sound (hr : HR ρ h w) (ha : Agree st h) {e0 t u0 ty : TypeId} {d s v : AV} {du su : Value} {st' : St} (ht : P.underlying t = some (.slice e0)) (e : copyA P st e0 d s = some (v, st')) (hd : Rel ρ d du) (hs : Rel ρ s su) :
    ∃ x w', (Builtin.copy_ #[t, u0] ty #[du, su]).run P w = .ok x w' ∧ Post ρ h w st ρ (upd st' h) w' st' ∧ Rel ρ v x := by
  unfold copyA at e
  split at e
  · rename_i a len cap sz m hsz hm
    have hlen := lenOf_sound (P := P) hm hs
    split at e
    · cases e
    · rename_i cs hcs
      obtain ⟨vs, hrel, hrun⟩ := source_sound (P := P) hr ha hcs hs
      cases a with
      | none =>
        cases e
        simp only [Rel] at hd
        obtain ⟨rfl, _, rfl⟩ := hd
        refine ⟨.int .i64 (Nat.min m 0), w, ?_, by rw [upd_self ha]; exact Post.refl hr ha, by simp [Rel]⟩
        rw [show Nat.min m 0 = 0 from Nat.min_zero m] at hrun
        simp [Builtin.copy_, run_underlying ht, hlen, run_sizeA hsz, hrun, goInt]
      | some p =>
        obtain ⟨b, off⟩ := p
        simp only at e
        obtain ⟨B, o, r, c, hρ, hu⟩ := hd.sl_addr
        split at e
        · cases e
          have : vs = [] := by simpa using hrel.length
          subst this
          refine ⟨.int .i64 (Nat.min m len), w, ?_, by rw [upd_self ha]; exact Post.refl hr ha, by simp [Rel]⟩
          rcases hu with rfl | ⟨rfl, _, x, rfl⟩
          · simp [Builtin.copy_, run_underlying ht, hlen, run_sizeA hsz, hrun, goInt, storeCells]
          · rw [show Nat.min m 0 = 0 from Nat.min_zero m] at hrun
            simp [Builtin.copy_, run_underlying ht, hlen, run_sizeA hsz, hrun, goInt, storeCells]
        · rename_i hne
          split at e
          · rename_i st1 hw
            cases e
            obtain ⟨h1, h2, h3⟩ := write_sound (P := P) hr ha hρ hw hrel
            refine ⟨.int .i64 (Nat.min m len), _, ?_, h2, by simp [Rel]⟩
            rcases hu with rfl | ⟨rfl, _, x, rfl⟩
            · simp [Builtin.copy_, run_underlying ht, hlen, run_sizeA hsz, hrun, goInt, h1]
            · exfalso
              unfold sourceA at hcs
              rw [show Nat.min m 0 = 0 from Nat.min_zero m] at hcs
              split at hcs
              · split at hcs
                · obtain ⟨ro, fam, cs', hb, hread⟩ := St.read_some hcs
                  have := readL_length hread
                  rw [Nat.zero_mul] at this
                  exact hne (List.eq_nil_of_length_eq_zero this)
                · cases hcs
              · cases hcs; exact hne rfl
              · split at hcs
                · cases hcs; exact hne rfl
                · cases hcs
              · cases hcs
          · cases e
  · cases e

theorem clear_sound (hr : HR ρ h w) (ha : Agree st h) {e0 t ty : TypeId} {d v : AV} {du : Value} {st' : St} (ht : P.underlying t = some (.slice e0)) (e : clearA P st e0 d = some (v, st')) (hd : Rel ρ d du) :
    ∃ x w', (Builtin.clear_ #[t] ty #[du]).run P w = .ok x w' ∧ Post ρ h w st ρ (upd st' h) w' st' ∧ Rel ρ v x := by
  unfold clearA at e
  split at e
  · cases e
    obtain ⟨p, c, rfl⟩ := hd.sl_form
    refine ⟨.tuple #[], w, ?_, by rw [upd_self ha]; exact Post.refl hr ha, by simp [Rel, Rels]⟩
    cases p <;> simp [Builtin.clear_, run_underlying ht]
  · rename_i b off len cap z sz hne hz hs
    split at e
    · rename_i hb
      simp only [Bool.and_eq_true] at hb
      have hl := beq_true_eq hb.1
      have hpos : 0 < sz := by simpa [Nat.blt_eq] using hb.2
      split at e
      · rename_i st1 hw
        cases e
        obtain ⟨B, o, r, c, hρ, hu⟩ := hd.sl_addr
        obtain ⟨zv, hzr, hrel⟩ := run_zeroA hz ρ
        obtain ⟨h1, h2, h3⟩ := write_sound (P := P) hr ha hρ hw (hrel.cells.times len)
        refine ⟨.tuple #[], _, ?_, h2, by simp [Rel, Rels]⟩
        have hne0 : len ≠ 0 := fun e => by subst e; first | exact hne rfl | exact hne _ rfl | exact hne _ _ rfl | exact hne _ _ _ rfl
        rcases hu with rfl | ⟨rfl, _, x, rfl⟩
        · obtain ⟨k, rfl⟩ : ∃ k, len = k + 1 := ⟨len - 1, by omega⟩
          have hzl := hrel.cells.length
          simp only [Array.length_toList] at hzl
          simp [Builtin.clear_, run_underlying ht, hzr, zeroCells_times _ _ (show 0 < zv.cells.size ∨ k + 1 = 0 by left; omega), h1]
        · exact absurd rfl hne0
      · cases e
    · cases e
  · cases e

theorem store_sound (hr : HR ρ h w) (ha : Agree st h) {t : TypeId} {b off n : Nat} {v : AV} {pu vu : Value} {st' : St} (hn : sizeA P t = some n) (hl : Nat.beq v.cells.length n = true) (e : st.write b off v.cells = some st')
    (hp : Rel ρ (.ptr (some (b, off))) pu) (hv : Rel ρ v vu) :
    ∃ w', (Instr.storeAt t pu vu).run P w = .ok () w' ∧ Post ρ h w st ρ (upd st' h) w' st' := by
  simp only [Rel] at hp
  obtain ⟨B, o, r, hρ, rfl⟩ := hp
  obtain ⟨h1, h2, h3⟩ := write_sound (P := P) hr ha hρ e hv.cells
  have hlen := hv.cells.length
  simp only [Array.length_toList] at hlen
  have hl' := beq_true_eq hl
  refine ⟨_, ?_, h2⟩
  simp [Instr.storeAt, Instr.sureAddr, storeVar, run_sizeA hn, hlen, hl', h1]
end

end Go.Den

/- append. -/
namespace Go.Den
open Go

section
variable {P : Program} {ρ : Rho} {h : Hp} {w : World} {st : St}

/-- A new number for a new block with room behind it. -/
theorem newOpen_Post (hr : HR ρ h w) (ha : Agree st h) {cs : List AV} {vs rest : List Value} {ty : TypeId} (hf : Fresh ρ h st (st.newOpen cs)) (hrel : Rels ρ cs vs) :
    Post ρ h w st (fun i => if i = st.n then some (w.heap.size, 0, vs.length + rest.length) else ρ i) (upd (st.newOpen cs) h) (w.alloc (.cells (vs ++ rest).toArray ty)) (st.newOpen cs) := by
  have hget : ∀ id, (st.newOpen cs).get id = if st.n + 1 = id then some (.fam [st.n]) else if st.n = id then some (.cells false (some (st.n + 1, 0)) cs) else st.get id := fun id => by
    show ((st.h.set st.n _).set (st.n + 1) _).get id = _
    rw [Tr.get_set, Tr.get_set]; rfl
  have hρn : ρ st.n = none := hf.none st.n (Nat.le_refl _) (by simp [St.newOpen])
  have hg := hr.grow ha hf (by simp [St.newOpen]) (fun id hid => by rw [hget, if_neg (by omega), if_neg (by omega)])
  have hA := alloc_HR hg (id := st.n) (cs := cs) (vs := vs) (rest := rest) (e := ty) (fam := some (st.n + 1, 0)) hρn (by unfold upd; rw [if_pos (by simp [St.newOpen]), hget, if_neg (by omega), if_pos rfl]) hrel
    (fun rt b e => by cases e; exact ⟨[st.n], by unfold upd; rw [if_pos (by simp [St.newOpen]), hget, if_pos rfl], rfl⟩)
  refine ⟨fun i x e => ?_, fun id e => ?_, rfl, hA, ⟨fun id hid => by unfold upd; rw [if_pos hid], fun id hid => ?_, fun i ro rt b c hc => ?_, fun rt ms hms m hm => ?_⟩, by simp [St.newOpen], rfl, rfl, rfl, by simp, fun B hB hf' => ⟨heap_alloc_old w _ _ hB, fun id o r e => ?_⟩, fun id hid _ _ => by rw [hget, if_neg (by omega), if_neg (by omega)]⟩
  · rw [if_neg (fun e' => by rw [e', hρn] at e; cases e)]; exact e
  · split at e
    · rename_i hi; subst hi; exact ⟨Nat.le_refl _, by simp [St.newOpen]⟩
    · exact absurd rfl e
  · simp only [St.newOpen] at hid
    rw [hget, if_neg (by omega), if_neg (by omega)]
    exact ha.wf id (by omega)
  · rw [hget] at hc
    split at hc
    · cases hc
    · split at hc
      · cases hc; simp [St.newOpen]
      · have := ha.ref i ro rt b c hc; simp [St.newOpen]; omega
  · rw [hget] at hms
    split at hms
    · cases hms; simp at hm; subst hm; simp [St.newOpen]
    · split at hms
      · cases hms
      · have := ha.mem rt ms hms m hm; simp [St.newOpen]; omega
  · simp only at e
    split at e
    · simp only [Option.some.injEq, Prod.mk.injEq] at e; omega
    · rename_i hne
      obtain ⟨f, c, hc⟩ := hf' id o r e
      refine ⟨f, c, ?_⟩
      have hn1 : ¬ st.n + 1 = id := fun ei => by
        have := hf.none id (by omega) (by simp [St.newOpen]; omega)
        rw [this] at e; cases e
      unfold upd
      split
      · rename_i hlt
        simp only [St.newOpen] at hlt
        rw [hget, if_neg hn1, if_neg (fun e => hne e.symm), ← ha.eq id (by omega)]
        exact hc
      · exact hc

/-- append on a slice that may have room: what the abstract machine lays. -/
structure Forked (st : St) (b r base off k m sz : Nat) (new : List AV) (st' : St) : Prop where
  n : st'.n = st.n + 1
  mine : st'.get st.n = some (.cells false (some (r, base + off)) new)
  other : ∀ i, i ≠ st.n → (st'.get i = st.get i) ∨ (∃ ms ms', st.get r = some (.fam ms) ∧ i = r ∧ st'.get i = some (.fam ms')) ∨
    (∃ ms, st.get r = some (.fam ms) ∧ i ∈ ms ∧ st'.get i = some .dead ∧ ∃ ro x c, st.get i = some (.cells ro (some x) c))
  fam : ∃ ms ms', st.get r = some (.fam ms) ∧ st'.get r = some (.fam (st.n :: ms')) ∧ (∀ m, m ∈ ms' → m ∈ ms) ∧
    ∀ x, x ∈ ms → ∀ ro rt' base' c, st'.get x = some (.cells ro (some (rt', base')) c) → x ∈ ms' ∧ (base + off + k * sz + m * sz ≤ base' ∨ base' + c.length ≤ base + off + k * sz)

theorem forked_of {h : Hp} (ha : Agree st h) {b r base off k m sz : Nat} {cs new : List AV} {ms ms' : List Nat} {g : Tr Ent} (hb : st.get b = some (.cells false (some (r, base)) cs)) (hms : st.get r = some (.fam ms))
    (hp : poison st.n (base + off + k * sz) (base + off + k * sz + m * sz) ms st.h = (ms', g)) :
    Forked st b r base off k m sz new { h := (g.set r (.fam (st.n :: ms'))).set st.n (.cells false (some (r, base + off)) new), n := st.n + 1 } := by
  have PS := poison_spec _ _ _ _ _ _ _ hp
  have hrn := St.get_lt ha hms
  have hne : r ≠ st.n := by omega
  have hnot : ∀ x, x ∈ ms → x ≠ st.n := fun x hx => by have := ha.mem r ms hms x hx; omega
  refine ⟨rfl, by show Tr.get _ _ = _; rw [Tr.get_set, if_pos rfl], fun i hi => ?_, ms, ms', hms, ?_, PS.sub, fun x hx ro rt' base' c hg => ?_⟩
  · show (Tr.get _ i = _) ∨ (∃ _ _, _ ∧ _ ∧ Tr.get _ i = _) ∨ (∃ _, _ ∧ _ ∧ Tr.get _ i = _ ∧ _)
    rw [Tr.get_set, if_neg (fun e => hi e.symm), Tr.get_set]
    by_cases hir : i = r
    · subst hir
      rw [if_pos rfl]
      exact .inr (.inl ⟨ms, _, hms, rfl, rfl⟩)
    · rw [if_neg (fun e => hir e.symm)]
      rcases PS.same i with e | ⟨e1, e2, e3, e4⟩
      · exact .inl e
      · exact .inr (.inr ⟨ms, hms, e2, e1, e4⟩)
  · show Tr.get _ r = _
    rw [Tr.get_set, if_neg (fun e => hne e.symm), Tr.get_set, if_pos rfl]
  · have hg' : Tr.get _ x = _ := hg
    rw [Tr.get_set, if_neg (fun e => hnot x hx e.symm), Tr.get_set] at hg'
    split at hg'
    · cases hg'
    · exact PS.keep x hx (hnot x hx) ro rt' base' c hg'

/-- All that 'Post' asks of the abstract side of such an append, and of the blocks that were there. -/
theorem forked_Post {st' : St} {b r base off k m sz B o room : Nat} {cs new : List AV} {w' : World} {x : Nat × Nat × Nat} (hr : HR ρ h w) (ha : Agree st h) (hf : Fresh ρ h st st') (F : Forked st b r base off k m sz new st')
    (hb : st.get b = some (.cells false (some (r, base)) cs)) (hρ : ρ b = some (B, o, room))
    (hos : w'.os = w.os) (htape : w'.tape = w.tape) (hout : w'.output = w.output) (hsize : w.heap.size ≤ w'.heap.size)
    (hblocks : ∀ k, k < w.heap.size → k ≠ B → w'.heap[k]? = w.heap[k]?)
    (hnew : ∀ ρ', ρ.le ρ' → Holds ρ' w' x.1 x.2.1 x.2.2 false new)
    (hplace : w.heap.size ≤ x.1 ∨ (x.1 = B ∧ x.2.1 = o + off))
    (hold : ∀ i B' o' r' ro f c, ρ i = some (B', o', r') → st'.get i = some (.cells ro f c) → i < st.n → (B' = B → ∃ b', f = some (r, b') ∧ o' + base = o + b' ∧ (base + off + k * sz + m * sz ≤ b' ∨ b' + c.length ≤ base + off + k * sz)) → Holds ρ w B' o' r' ro c → Holds ρ w' B' o' r' ro c) :
    Post ρ h w st (fun i => if i = st.n then some x else ρ i) (upd st' h) w' st' := by
  have hn := F.n
  have hρn : ρ st.n = none := hf.none st.n (Nat.le_refl _) (by omega)
  have hbn := St.get_lt ha hb
  obtain ⟨ms, ms', f1, f2, f3, f4⟩ := F.fam
  have hrn := St.get_lt ha f1
  have hhb : h b = some (.cells false (some (r, base)) cs) := by rw [ha.eq b hbn]; exact hb
  obtain ⟨ρ', hρ'⟩ : ∃ ρ' : Rho, ρ' = fun i => if i = st.n then some x else ρ i := ⟨_, rfl⟩
  rw [← hρ']
  have hnewρ : ρ' st.n = some x := by rw [hρ']; simp
  have holdρ : ∀ i, i ≠ st.n → ρ' i = ρ i := fun i hi => by rw [hρ']; simp [hi]
  have hle : ρ.le ρ' := fun i y e => by rw [holdρ i (fun ei => by rw [ei, hρn] at e; cases e)]; exact e
  have hupd : ∀ i, i < st'.n → upd st' h i = st'.get i := fun i hi => by unfold upd; rw [if_pos hi]
  have hupd2 : ∀ i, ¬ i < st'.n → upd st' h i = h i := fun i hi => by unfold upd; rw [if_neg hi]
  have old : ∀ i ro f c, i ≠ st.n → upd st' h i = some (.cells ro f c) → h i = some (.cells ro f c) := fun i ro f c hi e => by
    by_cases hin : i < st'.n
    · rw [hupd i hin] at e
      have hin' : i < st.n := by omega
      rcases F.other i hi with q | ⟨_, _, _, _, q⟩ | ⟨_, _, _, q, _⟩
      · rw [ha.eq i hin', ← q]; exact e
      · rw [q] at e; cases e
      · rw [q] at e; cases e
    · rw [hupd2 i hin] at e; exact e
  have far : ∀ i, ρ i ≠ none → ¬ i < st.n → ∀ ro y c, h i ≠ some (.cells ro (some y) c) := fun i hi hnl => by
    rcases Nat.lt_or_ge i st'.n with q | q
    · exact absurd (hf.none i (by omega) q) hi
    · exact hf.far i q hi
  -- of the old ones: which lie in that block
  have hshare : ∀ i B' o' r' ro f c, ρ i = some (B', o', r') → h i = some (.cells ro f c) → B' = B → ∃ b', f = some (r, b') ∧ o' + base = o + b' := fun i B' o' r' ro f c h1 h2 hB => by
    by_cases hib : i = b
    · subst hib
      rw [hρ] at h1; cases h1
      rw [hhb] at h2; cases h2
      exact ⟨base, rfl, rfl⟩
    · subst hB
      obtain ⟨rt, b1, b2, e1, e2, e3⟩ := hr.apart i b B' o' r' o room ro false f _ c cs hib h1 hρ h2 hhb (.inr rfl)
      simp only [Option.some.injEq, Prod.mk.injEq] at e2
      obtain ⟨rfl, rfl⟩ := e2
      exact ⟨b1, e1, e3⟩
  have hfams : ∀ i B' o' r' ro b' c, ρ i = some (B', o', r') → h i = some (.cells ro (some (r, b')) c) → i ∈ ms := fun i B' o' r' ro b' c h1 h2 => by
    obtain ⟨_, ms0, q1, q2, q3⟩ := hr.fam i r b' _ ro c h1 h2
    rw [ha.eq r hrn, f1] at q1; cases q1
    exact q2
  refine ⟨hle, fun id e => ?_, rfl, ⟨?_, ?_, ?_, ?_⟩, ⟨fun id hid => hupd id hid, fun id hid => ?_, fun i ro rt b1 c hc => ?_, fun rt ms1 hms m1 hm => ?_⟩, by omega, hos, htape, hout, hsize, fun B1 hB1 hfree => ?_, fun id hid hρi hnf => ?_⟩
  · by_cases hid : id = st.n
    · subst hid; exact ⟨Nat.le_refl _, by omega⟩
    · exact absurd (holdρ id hid) e
  · intro i B' o' r' ro f c h1 h2
    by_cases hi : i = st.n
    · subst hi
      rw [hnewρ] at h1
      simp only [Option.some.injEq] at h1
      subst h1
      rw [hupd _ (by omega), F.mine] at h2
      cases h2
      exact hnew ρ' hle
    · rw [holdρ i hi] at h1
      have h3 := old i ro f c hi h2
      have H := hr.cell i B' o' r' ro f c h1 h3
      by_cases hin : i < st.n
      · rw [hupd i (by omega)] at h2
        have := hold i B' o' r' ro f c h1 h2 hin (fun hB => by
          obtain ⟨b', rfl, e2⟩ := hshare i B' o' r' ro f c h1 h3 hB
          have hm := hfams i B' o' r' ro b' c h1 h3
          exact ⟨b', rfl, e2, (f4 i hm ro r b' c h2).2⟩) H
        exact ⟨this.fit, this.lt, (let ⟨vs, a1, a2⟩ := this.vals; ⟨vs, Rels.mono hle _ _ a1, a2⟩), this.there, this.free⟩
      · have hB : B' ≠ B := fun hB => by
          obtain ⟨b', rfl, _⟩ := hshare i B' o' r' ro f c h1 h3 hB
          exact far i (by rw [h1]; simp) hin ro _ c h3
        exact rel_of_le hle H hsize (hblocks B' H.lt hB)
  · intro i j B' o1 r1 o2 r2 ro1 ro2 g1 g2 c1 c2 hij h1 h2 h3 h4 h5
    have one : ∀ j o2 r2 ro2 g2 c2 (B' o1 r1 : Nat), j ≠ st.n → ρ' st.n = some (B', o1, r1) → ρ j = some (B', o2, r2) → h j = some (.cells ro2 g2 c2) → ∃ b', g2 = some (r, b') ∧ o1 + b' = o2 + (base + off) := fun j o2 r2 ro2 g2 c2 B' o1 r1 hj q1 q2 q3 => by
      rw [hnewρ] at q1
      simp only [Option.some.injEq] at q1
      subst q1
      rcases hplace with q | ⟨q, q'⟩
      · have := (hr.cell j _ o2 r2 ro2 g2 c2 q2 q3).lt
        simp only at q this
        omega
      · simp only at q q'
        obtain ⟨b', e1, e2⟩ := hshare j _ o2 r2 ro2 g2 c2 q2 q3 q
        exact ⟨b', e1, by omega⟩
    by_cases hi : i = st.n
    · subst hi
      have hj : j ≠ st.n := fun e => hij e.symm
      rw [holdρ j hj] at h2
      have h6 := old j ro2 g2 c2 hj h4
      rw [hupd _ (by omega), F.mine] at h3
      cases h3
      obtain ⟨b', e1, e2⟩ := one j o2 r2 ro2 g2 c2 B' o1 r1 hj h1 h2 h6
      exact ⟨r, base + off, b', rfl, e1, e2⟩
    · by_cases hj : j = st.n
      · subst hj
        rw [holdρ i hi] at h1
        have h6 := old i ro1 g1 c1 hi h3
        rw [hupd _ (by omega), F.mine] at h4
        cases h4
        obtain ⟨b', e1, e2⟩ := one i o1 r1 ro1 g1 c1 B' o2 r2 hi h2 h1 h6
        exact ⟨r, b', base + off, e1, rfl, by omega⟩
      · rw [holdρ i hi] at h1
        rw [holdρ j hj] at h2
        exact hr.apart i j B' o1 r1 o2 r2 ro1 ro2 g1 g2 c1 c2 hij h1 h2 (old i ro1 g1 c1 hi h3) (old j ro2 g2 c2 hj h4) h5
  · intro i rt b1 y ro c h1 h2
    have hmsOk : ∀ m, m ∈ st.n :: ms' → ρ' m ≠ none := fun m1 hm => by
      rcases List.mem_cons.1 hm with rfl | hm
      · rw [hnewρ]; simp
      · obtain ⟨_, ms0, q1, q2, q3⟩ := hr.fam b r base _ false cs hρ hhb
        rw [ha.eq r hrn, f1] at q1; cases q1
        have := q3 m1 (f3 m1 hm)
        have hlt := ha.mem r ms f1 m1 (f3 m1 hm)
        rw [holdρ m1 (by omega)]; exact this
    by_cases hi : i = st.n
    · subst hi
      rw [hupd _ (by omega), F.mine] at h2
      cases h2
      exact ⟨rfl, st.n :: ms', by rw [hupd r (by omega)]; exact f2, by simp, hmsOk⟩
    · rw [holdρ i hi] at h1
      have h3 := old i ro _ c hi h2
      obtain ⟨e1, ms0, q1, q2, q3⟩ := hr.fam i rt b1 y ro c h1 h3
      refine ⟨e1, ?_⟩
      by_cases hin : i < st.n
      · have hrt : rt < st.n := ha.ref i ro rt b1 c (by rw [← ha.eq i hin]; exact h3)
        rw [ha.eq rt hrt] at q1
        rcases F.other rt (by omega) with q | ⟨_, _, _, rfl, _⟩ | ⟨_, _, _, _, ro', x', c', q⟩
        · refine ⟨ms0, by rw [hupd rt (by omega), q]; exact q1, q2, fun m1 hm => ?_⟩
          have := ha.mem rt ms0 q1 m1 hm
          rw [holdρ m1 (by omega)]; exact q3 m1 hm
        · rw [f1] at q1; cases q1
          rw [hupd i (by omega)] at h2
          exact ⟨st.n :: ms', by rw [hupd rt (by omega)]; exact f2, List.mem_cons_of_mem _ (f4 i q2 ro rt b1 c h2).1, hmsOk⟩
        · rw [q] at q1; cases q1
      · exact absurd h3 (far i (by rw [h1]; simp) hin ro _ c)
  · intro i hi
    by_cases hin : i = st.n
    · subst hin; rw [hupd _ (by omega), F.mine]; simp
    · rw [holdρ i hin] at hi
      by_cases hlt : i < st.n
      · rw [hupd i (by omega)]
        rcases F.other i hin with q | ⟨ms1, _, q1, rfl, _⟩ | ⟨_, _, _, q, _⟩
        · rw [q, ← ha.eq i hlt]; exact hr.ent i hi
        · exact absurd (by rw [ha.eq i hlt]; exact q1) ((hr.ent i hi).2 ms1)
        · rw [q]; simp
      · rcases Nat.lt_or_ge i st'.n with q | q
        · exact absurd (hf.none i (by omega) q) hi
        · rw [hupd2 i (by omega)]; exact hr.ent i hi
  · have hne : id ≠ st.n := by omega
    rcases F.other id hne with q | ⟨ms1, _, q1, rfl, _⟩ | ⟨ms1, q1, q2, _, _⟩
    · rw [q]; exact ha.wf id (by omega)
    · have := St.get_lt ha q1; omega
    · have := ha.mem r ms1 q1 id q2; omega
  · by_cases hi : i = st.n
    · subst hi; rw [F.mine] at hc; cases hc; omega
    · rcases F.other i hi with q | ⟨_, _, _, _, q⟩ | ⟨_, _, _, q, _⟩
      · rw [q] at hc; have := ha.ref i ro rt b1 c hc; omega
      · rw [q] at hc; cases hc
      · rw [q] at hc; cases hc
  · by_cases hi : rt = st.n
    · subst hi; rw [F.mine] at hms; cases hms
    · rcases F.other rt hi with q | ⟨_, _, _, rfl, q⟩ | ⟨_, _, _, q, _⟩
      · rw [q] at hms; have := ha.mem rt ms1 hms m1 hm; omega
      · rw [f2] at hms; cases hms
        rcases List.mem_cons.1 hm with rfl | hm
        · omega
        · have := ha.mem rt ms f1 m1 (f3 m1 hm); omega
      · rw [q] at hms; cases hms
  · have hBB : B1 ≠ B := fun e => by
      subst e
      obtain ⟨f', c', e'⟩ := hfree b o room hρ
      rw [hhb] at e'; cases e'
    refine ⟨hblocks B1 hB1 hBB, fun id o' r' h1 => ?_⟩
    by_cases hi : id = st.n
    · subst hi
      rw [hnewρ] at h1
      simp only [Option.some.injEq] at h1
      subst h1
      rcases hplace with q | ⟨q, _⟩
      · simp only at q; omega
      · simp only at q; exact absurd q hBB
    · rw [holdρ id hi] at h1
      obtain ⟨f', c', e'⟩ := hfree id o' r' h1
      refine ⟨f', c', ?_⟩
      by_cases hlt : id < st.n
      · rw [hupd id (by omega)]
        rw [ha.eq id hlt] at e'
        rcases F.other id hi with q | ⟨ms1, _, q1, rfl, _⟩ | ⟨ms1, q1, q2, _, ro, y, c, q4⟩
        · rw [q]; exact e'
        · rw [q1] at e'; cases e'
        · exfalso
          rw [q4] at e'
          simp only [Option.some.injEq, Ent.cells.injEq] at e'
          obtain ⟨rfl, _, _⟩ := e'
          have := hr.fam id y.1 y.2 _ true c h1 (by rw [ha.eq id hlt]; exact q4)
          cases this.1
      · rcases Nat.lt_or_ge id st'.n with q | q
        · have := hf.none id (by omega) q; rw [this] at h1; cases h1
        · rw [hupd2 id (by omega)]; exact e'
  · have hne : id ≠ st.n := by omega
    rcases F.other id hne with q | ⟨ms1, _, q1, rfl, _⟩ | ⟨ms1, q1, q2, _, _⟩
    · exact q
    · exact absurd q1 (hnf ms1)
    · exfalso
      obtain ⟨_, ms0, k1, k2, k3⟩ := hr.fam b r base _ false cs hρ hhb
      rw [ha.eq r hrn, q1] at k1; cases k1
      exact k3 id q2 hρi
end

end Go.Den

/- append: the model's operation. -/
namespace Go.Den
open Go

section
variable {P : Program} {ρ : Rho} {h : Hp} {w : World} {st : St}

/-- Where there is room. -/
theorem run_append_in {t u0 ty e0 : TypeId} {d : TypeDesc} {base : Option Addr} {sLen sCap m sz : Nat} {xu : Value} {news : List Value}
    (ht : P.underlying t = some (.slice e0)) (hu : P.underlying u0 = some d) (hd : ∀ k, d ≠ .int k) (hs : sizeA P e0 = some sz) (hl : ∀ w, (Builtin.lenOf xu).run P w = .ok m w)
    (hf : (Builtin.firstCells sz m xu).run P w = .ok news.toArray w) (hroom : sLen + m ≤ sCap) {w' : World}
    (hst : (match base with | some a => storeCells (a.add (sLen * sz)) news | none => pure () : Sem Unit).run P w = .ok () w') :
    (Builtin.append_ #[t, u0] ty #[.slice base sLen sCap, xu]).run P w = .ok (.slice base (sLen + m) sCap) w' := by
  have hz : (match d with | .int _ => true | _ => false) = false := by cases d <;> first | rfl | exact absurd rfl (hd _)
  cases base with
  | none =>
    simp only [Sem.run_pure, Result.ok.injEq, true_and] at hst
    subst hst
    simp [Builtin.append_, run_underlying ht, run_underlying hu, run_sizeA hs, hz, hl, hroom, hf]
  | some a =>
    simp only at hst
    simp [Builtin.append_, run_underlying ht, run_underlying hu, run_sizeA hs, hz, hl, hroom, hf, hst]

/-- Where there is none: a new array. -/
theorem run_append_out {t u0 ty e0 : TypeId} {d : TypeDesc} {base : Option Addr} {sLen sCap m sz by_ : Nat} {xu : Value} {olds news : List Value} {z : AV}
    (ht : P.underlying t = some (.slice e0)) (hu : P.underlying u0 = some d) (hd : ∀ k, d ≠ .int k) (hs : sizeA P e0 = some sz) (hby : bytesA P e0 = some by_) (hz0 : zeroA P e0 = some z) (hzl : z.cells.length = sz)
    (hl : ∀ w, (Builtin.lenOf xu).run P w = .ok m w)
    (ho' : (Builtin.firstCells sz sLen (.slice base sLen sCap)).run P w.drew = .ok olds.toArray w.drew)
    (hf' : (Builtin.firstCells sz m xu).run P w.drew = .ok news.toArray w.drew)
    (hno : ¬ sLen + m ≤ sCap) (hb0 : 0 < by_) (hbytes : (3 * (sLen + m) + 2000) * by_ ≤ 281474976710656) :
    ∃ newCap rest, sLen + m ≤ newCap ∧ rest.length = (newCap - (sLen + m)) * sz ∧
      (Builtin.append_ #[t, u0] ty #[.slice base sLen sCap, xu]).run P w = .ok (.slice (some ⟨w.heap.size, 0, none⟩) (sLen + m) newCap) (w.drew.alloc (.cells (olds ++ news ++ rest).toArray e0)) := by
  have hz : (match d with | .int _ => true | _ => false) = false := by cases d <;> first | rfl | exact absurd rfl (hd _)
  obtain ⟨zv, hzr, hrel⟩ := run_zeroA hz0 (fun _ => none)
  have hzs := hrel.cells.length
  simp only [Array.length_toList] at hzs
  obtain ⟨i, hi, hib⟩ := run_bytesA hby
  have hti : ∀ w, (typeInfo e0).run P w = .ok i w := fun w => by simp [typeInfo, hi]
  have hcapge : sLen + m ≤ grownCap w (sLen + m) sCap e0 := grownCap_ge w _ _ _
  have hnx : ¬ Builtin.nextslicecap (sLen + m) sCap * i.bytes > 2 ^ 48 := by
    have h1 := nextslicecap_le (need := sLen + m) (old := sCap) (by omega)
    have h2 : Builtin.nextslicecap (sLen + m) sCap * i.bytes ≤ (3 * (sLen + m) + 2000) * by_ := by
      rw [hib]; exact Nat.mul_le_mul_right _ (by omega)
    omega
  have hcond : ¬ (((sLen + m : Nat) : Int) > IntKind.i64.max ∧ (false = true ∨ i.bytes = 0)) := fun hc => by
    rcases hc.2 with q | q
    · cases q
    · omega
  have hb00 : ¬ i.bytes = 0 := by omega
  have hrest : ∃ rest : List Value, Builtin.zeroCells zv.cells (grownCap w (sLen + m) sCap e0 - (sLen + m)) = rest.toArray ∧ rest.length = (grownCap w (sLen + m) sCap e0 - (sLen + m)) * sz := by
    refine ⟨(Builtin.zeroCells zv.cells (grownCap w (sLen + m) sCap e0 - (sLen + m))).toList, by simp, ?_⟩
    rw [Array.length_toList, size_zeroCells, hzs, hzl]
  obtain ⟨rest, hr1, hr2⟩ := hrest
  refine ⟨grownCap w (sLen + m) sCap e0, rest, hcapge, hr2, ?_⟩
  have hforced : (Question.appendCap (sLen + m) sCap e0).forced = false := rfl
  simp only [Builtin.append_, List.getElem?_toArray, List.getElem?_cons_zero, List.getElem?_cons_succ, Sem.run_bind, run_underlying ht, run_underlying hu, Result.andThen_ok, run_sizeA hs, Sem.run_pure, hz, Bool.false_eq_true, if_false, hl, if_neg hno, hti]
  simp only [Bool.not_false, if_true, Sem.run_ite, if_neg hcond, if_neg hnx, Sem.run_bind, run_choose, hforced, Bool.false_eq_true, if_false, Result.andThen_ok, run_askRoom, hti, World.drew_eq]
  rw [show ((Question.appendCap (sLen + m) sCap e0).cut (w.tape w.drawn (.appendCap (sLen + m) sCap e0))) = grownCap w (sLen + m) sCap e0 from rfl]
  simp only [ho', hf', Result.andThen_ok, hzr, hr1, newRow, Sem.run_bind, run_newObj, Sem.run_pure, World.size_drew]
  simp [World.alloc_eq, hb00]
  rfl

theorem append_sound (hr : HR ρ h w) (ha : Agree st h) {e0 t u0 ty : TypeId} {d : TypeDesc} {s x v : AV} {su xu : Value} {st' : St} (ht : P.underlying t = some (.slice e0)) (hu : P.underlying u0 = some d) (hd : ∀ k, d ≠ .int k)
    (e : appendA P st e0 s x = some (v, st')) (hs : Rel ρ s su) (hx : Rel ρ x xu) (hf : Fresh ρ h st st') :
    ∃ r w' ρ', (Builtin.append_ #[t, u0] ty #[su, xu]).run P w = .ok r w' ∧ Post ρ h w st ρ' (upd st' h) w' st' ∧ Rel ρ' v r := by
  unfold appendA at e
  split at e
  · rename_i a len cap sz by_ m hsz hby hm
    have hlen := lenOf_sound (P := P) hm hx
    split at e
    · cases e
    · rename_i hchk
      simp only [Bool.and_eq_true] at hchk
      have hb0 : 0 < by_ := by simpa [Nat.blt_eq] using hchk.1
      have hbytes := Nat.le_of_ble_eq_true hchk.2
      split at e
      · cases e
      · rename_i new hnew
        split at e
        · cases e
        · rename_i hnl
          simp only [Bool.and_eq_true] at hnl
          have hnl' := beq_true_eq hnl.1
          have hnsc := hnl.2
          obtain ⟨news, hnrel, hnrun⟩ := source_sound (P := P) hr ha hnew hx
          have hnlen := hnrel.length
          split at e
          · rename_i hroom
            -- there is room
            cases a with
            | none =>
              cases e
              have hs' := hs
              simp only [Rel] at hs
              obtain ⟨rfl, rfl, rfl⟩ := hs
              have hm0 : m = 0 := by
                have := Nat.le_of_ble_eq_true hroom
                omega
              subst hm0
              refine ⟨.slice none 0 0, w, ρ, ?_, by rw [upd_self ha]; exact Post.refl hr ha, by simp [Rel]⟩
              exact run_append_in ht hu hd hsz hlen hnrun (Nat.le_refl 0) rfl
            | some p =>
              obtain ⟨b, off⟩ := p
              simp only at e
              -- the real slice
              have hreal : ∃ B o r c, ρ b = some (B, o, r) ∧ len + m ≤ c ∧ ((su = .slice (some ⟨B, o + off, none⟩) len c ∧ Rel ρ (.sl (some (b, off)) (len + m) cap) (.slice (some ⟨B, o + off, none⟩) (len + m) c)) ∨
                  (c = 0 ∧ len = 0 ∧ ∃ y, su = .slice (some ⟨B, y, none⟩) 0 0 ∧ Rel ρ (.sl (some (b, off)) (len + m) cap) (.slice (some ⟨B, y, none⟩) 0 0))) := by
                cases cap with
                | known c =>
                  simp only [Rel] at hs
                  obtain ⟨B, o, r, h1, h2, rfl⟩ := hs
                  have hle := Nat.le_of_ble_eq_true hroom
                  exact ⟨B, o, r, c, h1, hle, .inl ⟨rfl, by simp only [Rel]; exact ⟨B, o, r, h1, hle, rfl⟩⟩⟩
                | more lb s' =>
                  simp only [Rel] at hs
                  obtain ⟨B, o, r, c, h1, h2, h3, h4, h5⟩ := hs
                  simp only [Bool.and_eq_true] at hroom
                  have hle := Nat.le_of_ble_eq_true hroom.2
                  refine ⟨B, o, r, c, h1, by omega, ?_⟩
                  rcases h5 with rfl | ⟨rfl, y, rfl⟩
                  · exact .inl ⟨rfl, by simp only [Rel]; exact ⟨B, o, r, c, h1, hle, h3, h4, .inl rfl⟩⟩
                  · refine .inr ⟨rfl, by omega, y, rfl, ?_⟩
                    simp only [Rel]
                    exact ⟨B, o, r, 0, h1, hle, h3, h4, .inr ⟨rfl, y, rfl⟩⟩
              obtain ⟨B, o, r, c, hρ, hle, hreal⟩ := hreal
              split at e
              · cases e
                have hn0 : news = [] := by simpa using hnlen
                subst hn0
                rcases hreal with ⟨rfl, hq⟩ | ⟨rfl, rfl, y, rfl, hq⟩
                · refine ⟨_, w, ρ, ?_, by rw [upd_self ha]; exact Post.refl hr ha, hq⟩
                  exact run_append_in ht hu hd hsz hlen hnrun hle (by simp [storeCells])
                · obtain rfl : m = 0 := by omega
                  refine ⟨_, w, ρ, ?_, by rw [upd_self ha]; exact Post.refl hr ha, hq⟩
                  exact run_append_in ht hu hd hsz hlen hnrun (Nat.le_refl 0) (by simp [storeCells])
              · rename_i hne
                split at e
                · rename_i st1 hw
                  cases e
                  obtain ⟨h1, h2, h3⟩ := write_sound (P := P) hr ha hρ hw hnrel
                  rcases hreal with ⟨rfl, hq⟩ | ⟨rfl, rfl, y, rfl, hq⟩
                  · refine ⟨_, _, ρ, run_append_in ht hu hd hsz hlen hnrun hle (w' := w.setCells B (o + (off + len * sz)) news) ?_, h2, hq⟩
                    simp only [Addr.add_lit]
                    rw [show o + off + len * sz = o + (off + len * sz) by omega]
                    exact h1
                  · exfalso
                    obtain rfl : m = 0 := by omega
                    rw [Nat.zero_mul] at hnl'
                    exact hne (List.eq_nil_of_length_eq_zero hnl')
                · cases e
          · rename_i hroom
            split at e
            · -- a new array, surely
              rename_i c
              split at e
              · cases e
              · rename_i old hold
                split at e
                · cases e
                · rename_i z hz
                  split at e
                  · rename_i hzb
                    simp only [Bool.and_eq_true] at hzb
                    have hzl := beq_true_eq hzb.1
                    have hol := beq_true_eq hzb.2
                    cases e
                    have hno : ¬ len + m ≤ c := fun e => by
                      have hroom' : Nat.ble (len + m) c = false := hroom
                      rw [Nat.ble_eq_true_of_le e] at hroom'; cases hroom'
                    have hsu : ∃ base, su = .slice base len c := by
                      rcases a with _ | ⟨_, _⟩ <;> simp only [Rel] at hs
                      · obtain ⟨rfl, e2, e3⟩ := hs; cases e2; exact ⟨_, e3⟩
                      · obtain ⟨B, o, r, _, _, e3⟩ := hs; exact ⟨_, e3⟩
                    obtain ⟨base, rfl⟩ := hsu
                    obtain ⟨olds, horel, horun⟩ := source_sound (P := P) (w := w.drew) (hr.drew (w.drawn + 1)) ha hold hs
                    obtain ⟨news, hnrel, hnrun⟩ := source_sound (P := P) (w := w.drew) (hr.drew (w.drawn + 1)) ha hnew hx
                    have holen := horel.length
                    have hnlen := hnrel.length
                    obtain ⟨newCap, rest, hc1, hc2, hrun⟩ := run_append_out (ty := ty) (w := w) (olds := olds) (news := news) ht hu hd hsz hby hz hzl hlen horun hnrun hno hb0 hbytes
                    have hP := newOpen_Post (ty := e0) (rest := rest) (hr.drew (w.drawn + 1)) ha hf (horel.append hnrel)
                    refine ⟨_, _, _, hrun, hP.from_drew, ?_⟩
                    simp only [Rel]
                    refine ⟨w.heap.size, 0, _, newCap, by simp; rfl, Nat.le_refl _, hc1, ?_, .inl rfl⟩
                    simp only [List.length_append, holen, hol, hnlen, hnl', hc2]
                    have : (len + m) * sz + (newCap - (len + m)) * sz = newCap * sz := by rw [← Nat.add_mul]; congr 1; omega
                    rw [Nat.add_mul] at this
                    omega
                  · cases e
            · -- there may be room
              rename_i lb s'
              split at e
              · rename_i b off hsb
                have hsb' := beq_true_eq hsb
                subst hsb'
                split at e
                · rename_i r0 base cs hb
                  split at e
                  · rename_i ms old z hms hold hz
                    split at e
                    · cases e
                    · rename_i hzb
                      have hzl := beq_true_eq hzb
                      generalize hp : poison st.n (base + off + len * s') (base + off + len * s' + m * s') ms st.h = q at e
                      obtain ⟨ms', g⟩ := q
                      simp only [Option.some.injEq, Prod.mk.injEq] at e
                      obtain ⟨rfl, rfl⟩ := e
                      have F := forked_of (new := old ++ new) ha hb hms hp
                      have hbn := St.get_lt ha hb
                      have hhb : h b = some (.cells false (some (r0, base)) cs) := by rw [ha.eq b hbn]; exact hb
                      have hsl := hs
                      simp only [Rel] at hs
                      obtain ⟨B, o, room, c, hρ, h2, h3, h4, h5⟩ := hs
                      have H := hr.cell b B o room false _ cs hρ hhb
                      obtain ⟨hle0, hol⟩ := readL_some hold
                      have hol' := readL_length hold
                      have hnot : ¬ len + m ≤ lb := fun e => by
                        have hroom' : (Nat.beq s' s' && Nat.ble (len + m) lb) = false := hroom
                        rw [Nat.ble_eq_true_of_le e, hsb] at hroom'
                        cases hroom'
                      by_cases hin : len + m ≤ c
                      · -- in place
                        rcases h5 with rfl | ⟨rfl, y, rfl⟩
                        · obtain ⟨us, hus1, hus2⟩ := H.vals
                          have husl := hus1.length
                          have hHf := H.fit
                          have hspace : off + len * s' + m * s' ≤ room := by
                            have : (len + m) * s' ≤ c * s' := Nat.mul_le_mul_right _ hin
                            rw [Nat.add_mul] at this
                            omega
                          have hvl : news.length = m * s' := by omega
                          have hone : ∀ v ∈ news, v.oneCell' = true := hnrel.oneCell hnsc
                          have hstore : (storeCells ⟨B, o + (off + len * s'), none⟩ news).run P w = .ok () (w.setCells B (o + (off + len * s')) news) := by
                            have := run_storeCells_cells (P := P) B (o + (off + len * s')) news 0 w
                              (fun j hj => by rw [show o + (off + len * s') + 0 + j = o + (off + len * s' + j) by omega]; exact H.there _ (by omega))
                              (fun j hj => by rw [show o + (off + len * s') + 0 + j = o + (off + len * s' + j) by omega]; exact H.free rfl _ (by omega)) hone
                            simpa using this
                          have henv := setCells_env B news (o + (off + len * s')) w
                          have hP := forked_Post (w' := w.setCells B (o + (off + len * s')) news) (x := (B, o + off, room - off)) hr ha hf F hb hρ henv.1 henv.2.1 henv.2.2 (by rw [setCells_size]; exact Nat.le_refl _)
                            (fun k hk hkB => setCells_heap_other _ _ _ _ _ hkB)
                            (fun ρ' hle => by
                              refine ⟨by simp [hol', hnl']; omega, by rw [setCells_size]; exact H.lt, ⟨(us.drop off).take (len * s') ++ news, ?_, ?_⟩, ?_, ?_⟩
                              · rw [hol]
                                exact Rels.mono hle _ _ (((hus1.drop off).take _).append hnrel)
                              · intro i v hi
                                have hlt := (List.getElem?_eq_some_iff.1 hi).1
                                have htl : ((us.drop off).take (len * s')).length = len * s' := by simp; omega
                                by_cases hil : i < len * s'
                                · rw [List.getElem?_append_left (by omega), List.getElem?_take, if_pos hil, List.getElem?_drop] at hi
                                  rw [World.cell?_setCells_out _ _ _ _ _ (fun _ _ => by left; simp only; omega)]
                                  have := hus2 (off + i) v hi
                                  rw [show o + off + i = o + (off + i) by omega]; exact this
                                · rw [List.getElem?_append_right (by omega), htl] at hi
                                  have hj := (List.getElem?_eq_some_iff.1 hi).1
                                  have := World.cell?_setCells_in B news (o + (off + len * s')) w (fun j hj' => by rw [show o + (off + len * s') + j = o + (off + len * s' + j) by omega]; exact H.there _ (by omega)) (i - len * s') hj
                                  rw [show o + (off + len * s') + (i - len * s') = o + off + i by omega] at this
                                  simp only
                                  rw [this]
                                  rw [List.getElem?_eq_getElem hj] at hi
                                  exact hi
                              · intro j hj
                                simp only at hj ⊢
                                refine setCells_isSome _ _ _ _ _ ?_
                                rw [show o + off + j = o + (off + j) by omega]
                                exact H.there _ (by omega)
                              · intro _ j hj
                                simp only at hj ⊢
                                rw [World.frozen?_setCells, show o + off + j = o + (off + j) by omega]
                                exact H.free rfl _ (by omega))
                            (.inr ⟨rfl, rfl⟩)
                            (fun i B' o' r' ro f c' h1 h6 hi hd H' => H'.beside (fun hB => by
                              obtain ⟨b', _, e2, e3⟩ := hd hB.symm
                              omega))
                          refine ⟨_, _, _, run_append_in ht hu hd hsz hlen hnrun hin (by simp only [Addr.add_lit]; rw [show o + off + len * s' = o + (off + len * s') by omega]; exact hstore), hP, ?_⟩
                          simp only [Rel]
                          refine ⟨B, o + off, room - off, c, by simp, Nat.le_refl _, hin, ?_, .inl (by simp)⟩
                          have : off + c * s' ≤ room := h4
                          omega
                        · omega
                      · -- a new array
                        have hsu : ∃ bs, su = .slice bs len c := by
                          rcases h5 with rfl | ⟨rfl, y, rfl⟩
                          · exact ⟨_, rfl⟩
                          · obtain rfl : len = 0 := by omega
                            exact ⟨_, rfl⟩
                        obtain ⟨bs, rfl⟩ := hsu
                        have hsrc : sourceA st s' len (.sl (some (b, off)) len (.more lb s')) = some old := by
                          unfold sourceA
                          simp only [Nat.ble_eq_true_of_le (Nat.le_refl len)]
                          rw [St.read_of hbn hb]
                          exact hold
                        obtain ⟨olds, horel, horun⟩ := source_sound (P := P) (w := w.drew) (hr.drew (w.drawn + 1)) ha hsrc hsl
                        obtain ⟨news, hnrel, hnrun⟩ := source_sound (P := P) (w := w.drew) (hr.drew (w.drawn + 1)) ha hnew hx
                        have holen := horel.length
                        have hnlen := hnrel.length
                        obtain ⟨newCap, rest, hc1, hc2, hrun⟩ := run_append_out (ty := ty) (w := w) (olds := olds) (news := news) ht hu hd hsz hby hz hzl hlen horun hnrun hin hb0 hbytes
                        have hP := forked_Post (w := w.drew) (w' := w.drew.alloc (.cells (olds ++ news ++ rest).toArray e0)) (x := (w.heap.size, 0, (olds ++ news).length + rest.length)) (hr.drew (w.drawn + 1)) ha hf F hb hρ rfl rfl rfl (by simp)
                          (fun k hk _ => heap_alloc_old _ _ _ hk)
                          (fun ρ' hle => by
                            refine ⟨by show (old ++ new).length ≤ (olds ++ news).length + rest.length; rw [(horel.append hnrel).length]; omega, by simp, ⟨olds ++ news, Rels.mono hle _ _ (horel.append hnrel), fun i v hi => ?_⟩, fun j hj => ?_, fun _ j hj => ?_⟩
                            · simp only
                              have := World.cell?_alloc_new w.drew (olds ++ news ++ rest).toArray e0 (0 + i)
                              rw [show w.drew.heap.size = w.heap.size from rfl] at this
                              rw [this]
                              simp only [Nat.zero_add, List.getElem?_toArray]
                              rw [List.getElem?_append_left (List.getElem?_eq_some_iff.1 hi).1]
                              exact hi
                            · simp only at hj ⊢
                              have := World.cell?_alloc_new w.drew (olds ++ news ++ rest).toArray e0 (0 + j)
                              rw [show w.drew.heap.size = w.heap.size from rfl] at this
                              rw [this]
                              simp only [Nat.zero_add, List.getElem?_toArray]
                              rw [List.getElem?_eq_getElem (by rw [List.length_append]; omega)]
                              rfl
                            · exact World.frozen?_alloc_new w.drew _ _ _)
                          (.inl (Nat.le_refl _))
                          (fun i B' o' r' ro f c' h1 h6 hi hd H' => rel_of_le (fun _ _ e => e) H' (by simp) (heap_alloc_old _ _ _ H'.lt))
                        refine ⟨_, _, _, hrun, hP.from_drew, ?_⟩
                        simp only [Rel]
                        refine ⟨w.heap.size, 0, _, newCap, by simp; rfl, Nat.le_refl _, hc1, ?_, .inl rfl⟩
                        simp only [List.length_append, holen, hol', hnlen, hnl', hc2]
                        have : (len + m) * s' + (newCap - (len + m)) * s' = newCap * s' := by rw [← Nat.add_mul]; congr 1; omega
                        rw [Nat.add_mul] at this
                        omega
                  · cases e
                · cases e
              · cases e
  · cases e
end

end Go.Den
