/- The abstract machine: what a function of the loaded program comes to, over a heap without addresses of the real one, without capacities that Go leaves open and without the order in which a statement's parts are carried out. Definitions alone. -/
import Derived.Orders
namespace Go.Den

/- ### A heap: a tree by numbers -/
inductive Tr (α : Type) where
  | leaf
  | node (l : Tr α) (v : Option α) (r : Tr α)

namespace Tr
variable {α : Type}
def get : Tr α → Nat → Option α
  | leaf, _ => none
  | node l v r, i =>
    match Nat.beq i 0 with
    | true => v
    | false => match Nat.beq (i % 2) 1 with
      | true => l.get (i / 2)
      | false => r.get (i / 2 - 1)
def setF : Nat → Tr α → Nat → α → Tr α
  | 0, t, _, _ => t
  | f + 1, t, i, a =>
    match t with
    | leaf =>
      match Nat.beq i 0 with
      | true => node leaf (some a) leaf
      | false => match Nat.beq (i % 2) 1 with
        | true => node (setF f leaf (i / 2) a) none leaf
        | false => node leaf none (setF f leaf (i / 2 - 1) a)
    | node l v r =>
      match Nat.beq i 0 with
      | true => node l (some a) r
      | false => match Nat.beq (i % 2) 1 with
        | true => node (setF f l (i / 2) a) v r
        | false => node l v (setF f r (i / 2 - 1) a)
def set (t : Tr α) (i : Nat) (a : α) : Tr α := setF (i + 1) t i a
end Tr

/- ### Values -/
inductive Cap where
  | known (c : Nat)
  | more (lb sz : Nat)

/-- What an operation with a known number comes to. -/
inductive FV where
  | b (x : Bool)
  | i (n : Int)

inductive AV where
  | bool (b : Bool)
  | int (k : IntKind) (n : Int)
  | str (s : List UInt8)
  | ptr (a : Option (Nat × Nat))
  | glob (g : Nat)
  | sl (a : Option (Nat × Nat)) (len : Nat) (cap : Cap)
  | fn (f : Fn) (first captured : List AV)
  | nilFn
  | lit (v : Value)
  | agg (cs : List AV)
  | tup (vs : List AV)
  | fact (k : IntKind) (fs : List (List (BinOp × Int) × FV))   -- some number of which this is known: what it comes to by such operations, one by one
instance : Inhabited AV := ⟨.nilFn⟩

def undefA : AV := .tup []

def AV.cells : AV → List AV
  | .agg cs => cs
  | v => [v]

mutual
def ofVal : Value → Option AV
  | .bool b => some (.bool b)
  | .int k n => some (.int k n)
  | .string s => some (.str s.data.toList)
  | .pointer none => some (.ptr none)
  | .slice none 0 0 => some (.sl none 0 (.known 0))
  | .nilFunc => some .nilFn
  | .nilIface => some (.lit .nilIface)
  | .map none => some (.lit (.map none))
  | .func (.func f) ⟨[]⟩ ⟨[]⟩ => some (.fn (.func f) [] [])
  | .agg ⟨cs⟩ => match ofVals cs with
    | some l => some (.agg l)
    | none => none
  | .tuple ⟨[]⟩ => some (.tup [])
  | _ => none
def ofVals : List Value → Option (List AV)
  | [] => some []
  | v :: vs => match ofVal v with
    | none => none
    | some a => match ofVals vs with
      | none => none
      | some l => some (a :: l)
end

inductive Ent where
  | cells (ro : Bool) (fam : Option (Nat × Nat)) (cs : List AV)
  | fam (ms : List Nat)
  | dead

structure St where
  h : Tr Ent
  n : Nat

def St.get (s : St) (i : Nat) : Option Ent := s.h.get i

/- ### Memory -/
def readL (cs : List AV) (off n : Nat) : Option (List AV) :=
  match Nat.ble (off + n) cs.length with
  | true => some ((cs.drop off).take n)
  | false => none
def writeL (cs : List AV) (off : Nat) (vs : List AV) : List AV := cs.take off ++ (vs ++ cs.drop (off + vs.length))

def St.read (s : St) (b off n : Nat) : Option (List AV) :=
  match Nat.blt b s.n with
  | false => none
  | true => match s.get b with
    | some (.cells _ _ cs) => readL cs off n
    | _ => none

/-- The members of a family that do not reach into [lo, hi) stay; the others are dead. -/
def poison (b lo hi : Nat) : List Nat → Tr Ent → List Nat × Tr Ent
  | [], h => ([], h)
  | m :: ms, h =>
    match Nat.beq m b with
    | true => match poison b lo hi ms h with
      | (l, h') => (m :: l, h')
    | false =>
      match h.get m with
      | some (.cells _ (some (_, base)) cs) =>
        match Nat.ble hi base || Nat.ble (base + cs.length) lo with
        | true => match poison b lo hi ms h with
          | (l, h') => (m :: l, h')
        | false => poison b lo hi ms (h.set m .dead)
      | _ => poison b lo hi ms h

def scalarV : AV → Bool
  | .agg _ | .tup _ => false
  | _ => true
def scalars : List AV → Bool
  | [] => true
  | v :: vs => scalarV v && scalars vs

def St.write (s : St) (b off : Nat) (vs : List AV) : Option St :=
  match s.get b with
  | some (.cells false fam cs) =>
    match Nat.ble (off + vs.length) cs.length && scalars vs with
    | false => none
    | true =>
      match fam with
      | none => some { s with h := s.h.set b (.cells false none (writeL cs off vs)) }
      | some (r, base) =>
        match s.get r with
        | some (.fam ms) =>
          match poison b (base + off) (base + off + vs.length) ms s.h with
          | (ms', h') => some { s with h := (h'.set r (.fam ms')).set b (.cells false (some (r, base)) (writeL cs off vs)) }
        | _ => none
  | _ => none

/-- A new block that has all its cells. -/
def St.new (s : St) (cs : List AV) : St := { h := s.h.set s.n (.cells false none cs), n := s.n + 1 }
/-- A new block with room behind it, of a family of its own. -/
def St.newOpen (s : St) (cs : List AV) : St := { h := (s.h.set s.n (.cells false (some (s.n + 1, 0)) cs)).set (s.n + 1) (.fam [s.n]), n := s.n + 2 }

/- ### Types -/
def isAggA (P : Program) (t : TypeId) : Option Bool :=
  match P.underlying t with
  | some (.struct _) | some (.array _ _) => some true
  | some _ => some false
  | none => none
def sizeA (P : Program) (t : TypeId) : Option Nat := match P.info? t with | some i => some i.size | none => none
def bytesA (P : Program) (t : TypeId) : Option Nat := match P.info? t with | some i => some i.bytes | none => none
def zeroA (P : Program) (t : TypeId) : Option AV :=
  match P.info? t with
  | some i => match i.zero with
    | some z => ofVal z
    | none => none
  | none => none
def partA (P : Program) (t : TypeId) (cs : List AV) (off : Nat) : Option AV :=
  match isAggA P t with
  | some true => match sizeA P t with
    | some n => match readL cs off n with
      | some l => some (.agg l)
      | none => none
    | none => none
  | some false => cs[off]?
  | none => none

/- ### Operations that touch no memory -/
def intOp (op : BinOp) (k : IntKind) (x y : Int) : Option AV :=
  match op with
  | .add => some (.int k (k.wrap (x + y)))
  | .sub => some (.int k (k.wrap (x - y)))
  | .mul => some (.int k (k.wrap (x * y)))
  | .quo => match decide (y = 0) with | true => none | false => some (.int k (k.wrap (x.tdiv y)))
  | .rem => match decide (y = 0) with | true => none | false => some (.int k (x.tmod y))
  | .and => some (.int k (k.wrap (BitVec.ofInt k.bits x &&& BitVec.ofInt k.bits y).toNat))
  | .or => some (.int k (k.wrap (BitVec.ofInt k.bits x ||| BitVec.ofInt k.bits y).toNat))
  | .xor => some (.int k (k.wrap (BitVec.ofInt k.bits x ^^^ BitVec.ofInt k.bits y).toNat))
  | .andNot => some (.int k (k.wrap (BitVec.ofInt k.bits x &&& ~~~(BitVec.ofInt k.bits y)).toNat))
  | .eql => some (.bool (x == y))
  | .neq => some (.bool (x != y))
  | .lss => some (.bool (decide (x < y)))
  | .leq => some (.bool (decide (x ≤ y)))
  | .gtr => some (.bool (decide (x > y)))
  | .geq => some (.bool (decide (x ≥ y)))
  | _ => none
def shiftOp (op : BinOp) (k : IntKind) (x y : Int) : Option AV :=
  match decide (y < 0) with
  | true => none
  | false =>
    match op with
    | .shl => some (.int k (k.wrap (x * 2 ^ (min y.toNat k.bits))))
    | .shr => some (.int k (x.fdiv (2 ^ (min y.toNat k.bits))))
    | _ => none
def eqBytes : List UInt8 → List UInt8 → Bool
  | [], [] => true
  | a :: x, b :: y => Nat.beq a.toNat b.toNat && eqBytes x y
  | _, _ => false
def ltBytes : List UInt8 → List UInt8 → Bool
  | _, [] => false
  | [], _ :: _ => true
  | a :: x, b :: y => Nat.blt a.toNat b.toNat || (Nat.beq a.toNat b.toNat && ltBytes x y)
def strOp (op : BinOp) (x y : List UInt8) : Option AV :=
  match op with
  | .add => match Nat.ble (x.length + y.length) 9223372036854775807 with | true => some (.str (x ++ y)) | false => none
  | .eql => some (.bool (eqBytes x y))
  | .neq => some (.bool (!eqBytes x y))
  | .lss => some (.bool (ltBytes x y))
  | .leq => some (.bool (ltBytes x y || eqBytes x y))
  | .gtr => some (.bool (!(ltBytes x y || eqBytes x y)))
  | .geq => some (.bool (!ltBytes x y))
  | _ => none

mutual
/-- Equality of values that hold numbers, bools and texts alone, by their type. -/
def eqA (P : Program) : Nat → TypeId → AV → AV → Option Bool
  | 0, _, _, _ => none
  | d + 1, t, x, y =>
    match P.underlying t with
    | some .bool => match x, y with
      | .bool a, .bool b => some (a == b)
      | _, _ => none
    | some (.int _) => match x, y with
      | .int k a, .int k' b => match decide (k = k') with
        | true => some (a == b)
        | false => none
      | _, _ => none
    | some .string => match x, y with
      | .str a, .str b => some (eqBytes a b)
      | _, _ => none
    | some (.pointer _) => match x, y with
      | .ptr none, .ptr b => some b.isNone
      | .ptr (some _), .ptr none => some false
      | _, _ => none
    | some (.slice _) => match x, y with
      | .sl none _ _, .sl b _ _ => some b.isNone
      | .sl (some _) _ _, .sl none _ _ => some false
      | _, _ => none
    | some (.func _ _ _) => match x, y with
      | .nilFn, .nilFn => some true
      | .nilFn, .fn _ _ _ => some false
      | .fn _ _ _, .nilFn => some false
      | _, _ => none
    | some (.struct fs) => match x, y with
      | .agg xs, .agg ys => match P.stoodInHeld t with
        | true => none
        | false => eqFieldsA P d fs.toList xs ys
      | _, _ => none
    | some (.array len e) => match x, y with
      | .agg xs, .agg ys => match sizeA P e with
        | some n => eqElemsA P d e n xs ys len 0
        | none => none
      | _, _ => none
    | _ => none
def eqFieldsA (P : Program) : Nat → List Field → List AV → List AV → Option Bool
  | 0, _, _, _ => none
  | _ + 1, [], _, _ => some true
  | d + 1, f :: fs, xs, ys =>
    match f.name != "_" with
    | false => eqFieldsA P d fs xs ys
    | true =>
      match partA P f.type xs f.offset with
      | none => none
      | some x => match partA P f.type ys f.offset with
        | none => none
        | some y => match eqA P d f.type x y with
          | none => none
          | some false => some false
          | some true => eqFieldsA P d fs xs ys
def eqElemsA (P : Program) : Nat → TypeId → Nat → List AV → List AV → Nat → Nat → Option Bool
  | 0, _, _, _, _, _, _ => none
  | _ + 1, _, _, _, _, 0, _ => some true
  | d + 1, e, n, xs, ys, k + 1, i =>
    match partA P e xs (i * n) with
    | none => none
    | some x => match partA P e ys (i * n) with
      | none => none
      | some y => match eqA P d e x y with
        | none => none
        | some false => some false
        | some true => eqElemsA P d e n xs ys k (i + 1)
end

def isAggV : AV → Bool
  | .agg _ => true
  | _ => false
/-- '==' of values at a type: of a struct or an array only where no interface is in it. -/
def equalA (P : Program) (t : TypeId) (x y : AV) : Option Bool :=
  match isAggV x && P.eqGuardType P.depth t with
  | true => none
  | false => eqA P 200 t x y

def FV.av (k : IntKind) : FV → AV
  | .b x => .bool x
  | .i n => .int k n
/-- What these operations come to, one by one. -/
def chainA (k : IntKind) : Int → List (BinOp × Int) → Option AV
  | n, [] => some (.int k n)
  | n, (op, c) :: rest => match intOp op k n c with
    | some (.int k' m) => match decide (k' = k) with
      | true => chainA k m rest
      | false => none
    | some (.bool b) => match rest with
      | [] => some (.bool b)
      | _ :: _ => none
    | _ => none
def hitA (op : BinOp) (c : Int) : List (List (BinOp × Int) × FV) → Option FV
  | [] => none
  | ([(o, d)], r) :: fs => match decide (o = op) && decide (d = c) with
    | true => some r
    | false => hitA op c fs
  | _ :: fs => hitA op c fs
def tailsA (op : BinOp) (c : Int) : List (List (BinOp × Int) × FV) → List (List (BinOp × Int) × FV)
  | [] => []
  | ((o, d) :: y :: ys, r) :: fs => match decide (o = op) && decide (d = c) with
    | true => (y :: ys, r) :: tailsA op c fs
    | false => tailsA op c fs
  | _ :: fs => tailsA op c fs
def factA (op : BinOp) (k : IntKind) (c : Int) (fs : List (List (BinOp × Int) × FV)) : Option AV :=
  match hitA op c fs with
  | some r => some (r.av k)
  | none => match tailsA op c fs with
    | [] => none
    | x :: xs => some (.fact k (x :: xs))
def binA (P : Program) (op : BinOp) (t : TypeId) (x y : AV) : Option AV :=
  match x, y with
  | .fact k fs, .int k' c => match decide (k = k') with
    | true => factA op k c fs
    | false => none
  | .int k a, .int k' b =>
    match op with
    | .shl => shiftOp .shl k a b
    | .shr => shiftOp .shr k a b
    | _ => match decide (k = k') with
      | true => intOp op k a b
      | false => none
  | .str a, .str b => strOp op a b
  | _, _ =>
    match op with
    | .eql => match equalA P t x y with
      | some r => some (.bool r)
      | none => none
    | .neq => match equalA P t x y with
      | some r => some (.bool (!r))
      | none => none
    | _ => none

def unA (op : UnOp) (x : AV) : Option AV :=
  match op, x with
  | .neg, .int k n => some (.int k (k.wrap (0 - n)))
  | .xor, .int k n => intOp .xor k (if k.signed then -1 else k.max) n
  | .not, .bool b => some (.bool (!b))
  | _, _ => none

/-- Where the parts of a literal go. -/
def fillA (place : Nat → Option (Nat × Nat)) (cells : List AV) : List (Nat × AV) → Option (List AV)
  | [] => some cells
  | (i, v) :: rest =>
    match place i with
    | none => none
    | some (off, size) =>
      match Nat.beq v.cells.length size && Nat.ble (off + v.cells.length) cells.length with
      | true => fillA place (writeL cells off v.cells) rest
      | false => none
def placesA (P : Program) : List Field → Option (List (Nat × Nat))
  | [] => some []
  | f :: fs => match sizeA P f.type with
    | none => none
    | some n => match placesA P fs with
      | none => none
      | some l => some ((f.offset, n) :: l)
def buildA (P : Program) (t : TypeId) (parts : List (Nat × AV)) : Option AV :=
  match zeroA P t with
  | none => none
  | some z =>
    match P.underlying t with
    | some (.struct fields) => match placesA P fields.toList with
      | none => none
      | some pl => match fillA (fun i => pl[i]?) z.cells parts with
        | some cs => some (.agg cs)
        | none => none
    | some (.array _ e) => match sizeA P e with
      | none => none
      | some n => match fillA (fun i => some (i * n, n)) z.cells parts with
        | some cs => some (.agg cs)
        | none => none
    | _ => none
/-- So many times these cells. -/
def timesL : Nat → List AV → List AV
  | 0, _ => []
  | n + 1, z => z ++ timesL n z
def boundA (x : AV) (y : Nat) : Option Nat :=
  match x with
  | .int _ i => match decide (0 ≤ i) && decide (i ≤ (y : Int)) with
    | true => some i.toNat
    | false => none
  | _ => none
def boundOr (x : Option AV) (y d : Nat) : Option Nat :=
  match x with
  | none => some d
  | some v => boundA v y
/-- x[lo:hi:mx] of a text. -/
def sliceStr (s : List UInt8) (lo hi mx : Option AV) : Option AV :=
  match mx with
  | some _ => none
  | none => match boundOr hi s.length s.length with
    | none => none
    | some h => match boundOr lo h 0 with
      | none => none
      | some l => some (.str ((s.take h).drop l))
/-- x[lo:hi:mx] of a slice of elements of sz cells; len, and how many are sure to be there. -/
def sliceSl (a : Option (Nat × Nat)) (len : Nat) (cap : Cap) (sz : Nat) (lo hi mx : Option AV) : Option AV :=
  match cap with
  | .known c =>
    match mx.isSome && hi.isNone with
    | true => none
    | false =>
    match boundOr mx c c with
    | none => none
    | some m => match boundOr hi m len with
      | none => none
      | some h => match boundOr lo h 0 with
        | none => none
        | some l => match a with
          | none => some (.sl none (h - l) (.known (m - l)))
          | some (b, off) => match Nat.beq m l with
            | true => some (.sl (some (b, off)) (h - l) (.known (m - l)))
            | false => some (.sl (some (b, off + l * sz)) (h - l) (.known (m - l)))
  | .more lb s =>
    match Nat.beq s sz with
    | false => none
    | true => match a with
      | none => none
      | some (b, off) =>
        match mx with
        | none => match boundOr hi lb len with
          | none => none
          | some h => match boundOr lo h 0 with
            | none => none
            | some l => some (.sl (some (b, off + l * sz)) (h - l) (.more (lb - l) sz))
        | some mv => match boundA mv lb with
          | none => none
          | some m => match hi with
            | none => none
            | some hv => match boundA hv m with
              | none => none
              | some h => match boundOr lo h 0 with
                | none => none
                | some l => match Nat.ble m l with
                  | true => none
                  | false => some (.sl (some (b, off + l * sz)) (h - l) (.known (m - l)))
def indexAddrA (P : Program) (t : TypeId) (x ix : AV) : Option AV :=
  match ix with
  | .int _ i =>
    match P.underlying t with
    | some (.array len e) => match x, sizeA P e with
      | .ptr (some (b, off)), some n => match decide (0 ≤ i) && decide (i < (len : Int)) with
        | true => some (.ptr (some (b, off + i.toNat * n)))
        | false => none
      | _, _ => none
    | some (.slice e) => match x, sizeA P e with
      | .sl (some (b, off)) len _, some n => match decide (0 ≤ i) && decide (i < (len : Int)) with
        | true => some (.ptr (some (b, off + i.toNat * n)))
        | false => none
      | _, _ => none
    | _ => none
  | _ => none
def indexA (P : Program) (t : TypeId) (x ix : AV) : Option AV :=
  match ix with
  | .int _ i =>
    match P.underlying t, x with
    | some (.array len e), .agg cs => match decide (0 ≤ i) && decide (i < (len : Int)), sizeA P e with
      | true, some n => partA P e cs (i.toNat * n)
      | _, _ => none
    | some .string, .str s => match decide (0 ≤ i) with
      | true => match s[i.toNat]? with
        | some b => some (.int .u8 b.toNat)
        | none => none
      | false => none
    | _, _ => none
  | _ => none
def fieldAddrA (P : Program) (t : TypeId) (x : AV) (f : Nat) : Option AV :=
  match P.underlying t, x with
  | some (.struct fs), .ptr (some (b, off)) => match fs[f]? with
    | none => none
    | some fd => match sizeA P fd.type with
      | none => none
      | some n => match Nat.beq n 0 with
        | true => none
        | false => some (.ptr (some (b, off + fd.offset)))
  | _, _ => none
def fieldA (P : Program) (t : TypeId) (x : AV) (f : Nat) : Option AV :=
  match P.underlying t, x with
  | some (.struct fs), .agg cs => match fs[f]? with
    | none => none
    | some fd => partA P fd.type cs fd.offset
  | _, _ => none
def sliceA (P : Program) (t : TypeId) (x : AV) (lo hi mx : Option AV) : Option AV :=
  match P.underlying t with
  | some .string => match x with
    | .str s => sliceStr s lo hi mx
    | _ => none
  | some (.slice e) => match x, sizeA P e with
    | .sl a len cap, some n => sliceSl a len cap n lo hi mx
    | _, _ => none
  | some (.array k e) => match x, sizeA P e with
    | .ptr (some (b, off)), some n => sliceSl (some (b, off)) k (.known k) n lo hi mx
    | _, _ => none
  | _ => none
def convA (P : Program) (src dst : TypeId) (x : AV) : Option AV :=
  match P.underlying src, P.underlying dst, x with
  | some _, some (.int k), .int _ n => some (.int k (k.wrap n))
  | some _, some .string, .str s => some (.str s)
  | _, _, _ => none
def minmaxA (mx : Bool) : List AV → Option AV
  | [.int k x, .int _ y] => some (.int k (if (if mx then y > x else y < x) then y else x))
  | [.int k x, .int _ y, .int _ z] =>
    let m := if (if mx then y > x else y < x) then y else x
    some (.int k (if (if mx then z > m else z < m) then z else m))
  | _ => none

/- ### Operands -/
def evA (tmps : List AV) : Operand → Option AV
  | .tmp t => some (tmps.getD t undefA)
  | .const v => ofVal v
  | .global g => some (.glob g)
  | .func f => some (.fn (.func f) [] [])
def evsA (tmps : List AV) : List Operand → Option (List AV)
  | [] => some []
  | x :: xs => match evA tmps x with
    | none => none
    | some v => match evsA tmps xs with
      | none => none
      | some l => some (v :: l)
def evOptA (tmps : List AV) : Option Operand → Option (Option AV)
  | none => some none
  | some x => match evA tmps x with
    | none => none
    | some v => some (some v)
def evPartsA (tmps : List AV) : List (Nat × Operand) → Option (List (Nat × AV))
  | [] => some []
  | (i, x) :: xs => match evA tmps x with
    | none => none
    | some v => match evPartsA tmps xs with
      | none => none
      | some l => some ((i, v) :: l)

/-- An operation that neither reads nor makes nor writes memory. -/
def pureA (P : Program) (tmps : List AV) : Op → Option AV
  | .move x | .assign x => evA tmps x
  | .pick c a b => match evA tmps c with
    | some (.bool true) => evA tmps a
    | some (.bool false) => evA tmps b
    | _ => none
  | .build t parts => match evPartsA tmps parts.toList with
    | some l => buildA P t l
    | none => none
  | .nilCheck x => match evA tmps x with
    | some (.ptr (some a)) => some (.ptr (some a))
    | some (.fn (.func f) first caps) => some (.fn (.func f) first caps)
    | _ => none
  | .binOp op t x y _ => match evA tmps x, evA tmps y with
    | some a, some b => binA P op t a b
    | _, _ => none
  | .unOp op _ x => match evA tmps x with
    | some a => unA op a
    | none => none
  | .convert src dst x => match evA tmps x with
    | some a => convA P src dst a
    | none => none
  | .makeFunc (.func f) first captured => match evsA tmps first.toList, evsA tmps captured.toList with
    | some l, some c => some (.fn (.func f) l c)
    | _, _ => none
  | .slice t x lo hi mx => match evA tmps x, evOptA tmps lo, evOptA tmps hi, evOptA tmps mx with
    | some a, some l, some h, some m => sliceA P t a l h m
    | _, _, _, _ => none
  | .fieldAddr t x f => match evA tmps x with
    | some a => fieldAddrA P t a f
    | none => none
  | .field t x f => match evA tmps x with
    | some a => fieldA P t a f
    | none => none
  | .indexAddr t x ix => match evA tmps x, evA tmps ix with
    | some a, some i => indexAddrA P t a i
    | _, _ => none
  | .index t x ix => match evA tmps x, evA tmps ix with
    | some a, some i => indexA P t a i
    | _, _ => none
  | .extract x i => match evA tmps x with
    | some (.tup vs) => vs[i]?
    | _ => none
  | .call { callee := .builtin .len, args := ⟨[x]⟩, argTypes := ⟨[t]⟩ } => match evA tmps x, P.underlying t with
    | some (.str s), some .string => some (.int .i64 s.length)
    | some (.sl _ n _), some (.slice _) => some (.int .i64 n)
    | some _, some (.array n _) => some (.int .i64 n)
    | _, _ => none
  | .call { callee := .builtin .cap, args := ⟨[x]⟩, argTypes := ⟨[t]⟩ } => match evA tmps x, P.underlying t with
    | some (.sl _ _ (.known c)), some (.slice _) => some (.int .i64 c)
    | _, _ => none
  | .call { callee := .builtin .max, args := args, .. } => match evsA tmps args.toList with
    | some l => minmaxA true l
    | none => none
  | .call { callee := .builtin .min, args := args, .. } => match evsA tmps args.toList with
    | some l => minmaxA false l
    | none => none
  | _ => none

/-- An operation that makes one block and does nothing else: its value, and the block's cells. -/
def allocA (P : Program) (tmps : List AV) (n : Nat) : Op → Option (AV × List AV)
  | .alloc t => match zeroA P t with
    | some z => some (.ptr (some (n, 0)), z.cells)
    | none => none
  | .box _ x => match evA tmps x with
    | some v => some (.ptr (some (n, 0)), v.cells)
    | none => none
  | .buildSlice t len parts => match P.underlying t, evPartsA tmps parts.toList with
    | some (.slice e), some l => match sizeA P e with
      | some sz => match Nat.ble (len * sz) 16777216 with
        | false => none
        | true =>
          match (match Nat.beq (len * sz) 0 with | true => some [] | false => match zeroA P e with | some z => (match Nat.beq z.cells.length sz with | true => some (timesL len z.cells) | false => none) | none => none : Option (List AV)) with
          | none => none
          | some z => match fillA (fun i => some (i * sz, sz)) z l with
            | some cs => some (.sl (some (n, 0)) len (.known len), cs)
            | none => none
      | none => none
    | _, _ => none
  | .makeSlice t l c => match P.underlying t, evA tmps l, evA tmps c with
    | some (.slice e), some (.int _ l), some (.int _ c) => match sizeA P e, bytesA P e with
      | some sz, some by_ =>
        match decide (0 ≤ l) && decide (l ≤ c) && decide (c ≤ 9223372036854775807) && decide ((by_ : Int) * c ≤ 140737488355328) with
        | false => none
        | true => match (match Nat.beq (c.toNat * sz) 0 with | true => some [] | false => match zeroA P e with | some z => (match Nat.beq z.cells.length sz with | true => some (timesL c.toNat z.cells) | false => none) | none => none : Option (List AV)) with
          | none => none
          | some z => some (.sl (some (n, 0)) l.toNat (.known c.toNat), z)
      | _, _ => none
    | _, _, _ => none
  | _ => none

/-- A read: where, how many cells, what is made of them. -/
inductive Made where
  | one | agg | bytes
def madeB : List AV → List UInt8 → Option AV
  | [], acc => some (.str acc.reverse)
  | .int .u8 n :: r, acc => madeB r (UInt8.ofNat n.toNat :: acc)
  | _ :: _, _ => none
def madeA : Made → List AV → Option AV
  | .one, [v] => some v
  | .one, _ => none
  | .agg, l => some (.agg l)
  | .bytes, l => madeB l []
def readA (P : Program) (tmps : List AV) : Op → Option (Nat × Nat × Nat × Made)
  | .load t x => match evA tmps x with
    | some (.ptr (some (b, off))) => match isAggA P t, sizeA P t with
      | some true, some n => some (b, off, n, .agg)
      | some false, some _ => some (b, off, 1, .one)
      | _, _ => none
    | _ => none
  | .convert src dst x => match P.underlying src, P.underlying dst with
    | some (.slice e), some .string => match P.underlying e, evA tmps x with
      | some (.int .u8), some (.sl (some (b, off)) len _) => some (b, off, len, .bytes)
      | _, _ => none
    | _, _ => none
  | _ => none

/-- The cells that append and copy take over. -/
def sourceA (st : St) (sz n : Nat) : AV → Option (List AV)
  | .sl (some (b, off)) len _ => match Nat.ble n len with
    | true => st.read b off (n * sz)
    | false => none
  | .sl none _ _ => match n with
    | 0 => some []
    | _ => none
  | .str s => match Nat.ble n s.length with
    | true => some ((s.take n).map fun b => .int .u8 b.toNat)
    | false => none
  | _ => none
def lenA : AV → Option Nat
  | .sl _ n _ => some n
  | .str s => some s.length
  | _ => none
def dropRef (ms : List Nat) (b : Nat) : List Nat := ms.filter fun m => !Nat.beq m b
def appendA (P : Program) (st : St) (e : TypeId) (s x : AV) : Option (AV × St) :=
  match s, sizeA P e, bytesA P e, lenA x with
  | .sl a len cap, some sz, some by_, some m =>
    match Nat.blt 0 by_ && Nat.ble ((3 * (len + m) + 2000) * by_) 281474976710656 with
    | false => none
    | true =>
    match sourceA st sz m x with
    | none => none
    | some new =>
      match Nat.beq new.length (m * sz) && scalars new with
      | false => none
      | true =>
      match (match cap with | .known c => Nat.ble (len + m) c | .more lb s' => Nat.beq s' sz && Nat.ble (len + m) lb) with
      | true =>   -- there is room, surely
        match a with
        | none => some (.sl none (len + m) cap, st)
        | some (b, off) => match new with
          | [] => some (.sl (some (b, off)) (len + m) cap, st)
          | _ => match st.write b (off + len * sz) new with
            | some st' => some (.sl (some (b, off)) (len + m) cap, st')
            | none => none
      | false =>
        match cap with
        | .known _ =>   -- there is none
          match sourceA st sz len s with
          | none => none
          | some old => match zeroA P e with
            | none => none
            | some z => match Nat.beq z.cells.length sz && Nat.beq old.length (len * sz) with
              | true => some (.sl (some (st.n, 0)) (len + m) (.more (len + m) sz), st.newOpen (old ++ new))
              | false => none
        | .more _ s' =>   -- there may be
          match Nat.beq s' sz, a with
          | true, some (b, off) =>
            match st.get b with
            | some (.cells false (some (r, base)) cs) =>
              match st.get r, readL cs off (len * sz), zeroA P e with
              | some (.fam ms), some old, some z =>
                match Nat.beq z.cells.length sz with
                | false => none
                | true =>
                match poison st.n (base + off + len * sz) (base + off + len * sz + m * sz) ms st.h with
                | (ms', h') => some (.sl (some (st.n, 0)) (len + m) (.more (len + m) sz),
                    { h := (h'.set r (.fam (st.n :: ms'))).set st.n (.cells false (some (r, base + off)) (old ++ new)), n := st.n + 1 })
              | _, _, _ => none
            | _ => none
          | _, _ => none
  | _, _, _, _ => none
def copyA (P : Program) (st : St) (e : TypeId) (d s : AV) : Option (AV × St) :=
  match d, sizeA P e, lenA s with
  | .sl a len _, some sz, some m =>
    match sourceA st sz (Nat.min m len) s with
    | none => none
    | some cs => match a with
      | none => some (.int .i64 (Nat.min m len), st)
      | some (b, off) => match cs with
        | [] => some (.int .i64 (Nat.min m len), st)
        | _ => match st.write b off cs with
          | some st' => some (.int .i64 (Nat.min m len), st')
          | none => none
  | _, _, _ => none
def clearA (P : Program) (st : St) (e : TypeId) (x : AV) : Option (AV × St) :=
  match x, zeroA P e, sizeA P e with
  | .sl _ 0 _, _, _ => some (.tup [], st)
  | .sl (some (b, off)) len _, some z, some sz => match Nat.beq z.cells.length sz && Nat.blt 0 sz with
    | true => match st.write b off (timesL len z.cells) with
      | some st' => some (.tup [], st')
      | none => none
    | false => none
  | _, _, _ => none

/-- What is called: a function of the program; the round of a loop over a function. -/
abbrev CallA := FuncId → List AV → St → Option (AV × St)

/-- math/bits' two that have no text. -/
def externA (name : String) (args : List AV) : Option AV :=
  match args with
  | [.int .u64 x, .int .u64 y, .int .u64 c] =>
    match decide (0 ≤ c) && decide (c ≤ 1) with
    | false => none
    | true =>
      match name == "math/bits.Add64" with
      | true => some (.tup [.int .u64 (((x.toNat + y.toNat + c.toNat) % 18446744073709551616 : Nat) : Int), .int .u64 (((x.toNat + y.toNat + c.toNat) / 18446744073709551616 : Nat) : Int)])
      | false => match name == "math/bits.Sub64" with
        | true => some (.tup [.int .u64 (((x.toNat + 18446744073709551616 - y.toNat - c.toNat) % 18446744073709551616 : Nat) : Int), .int .u64 (if x.toNat < y.toNat + c.toNat then 1 else 0)])
        | false => none
  | _ => none

/-- An operation that may write: stores, calls, append, copy, clear. -/
def effA (P : Program) (call : CallA) (tmps : List AV) (st : St) : Op → Option (AV × St)
  | .store t a x => match evA tmps a, evA tmps x, sizeA P t with
    | some (.ptr (some (b, off))), some v, some n => match Nat.beq v.cells.length n with
      | true => match st.write b off v.cells with
        | some st' => some (undefA, st')
        | none => none
      | false => none
    | _, _, _ => none
  | .call { callee := .builtin .append, args := ⟨[s, x]⟩, argTypes := ⟨[t, u]⟩ } =>
    match P.underlying t, P.underlying u, evA tmps s, evA tmps x with
    | some (.slice e), some (.slice _), some s, some x => appendA P st e s x
    | some (.slice e), some .string, some s, some x => appendA P st e s x
    | _, _, _, _ => none
  | .call { callee := .builtin .copy, args := ⟨[d, s]⟩, argTypes := ⟨[t, _]⟩ } =>
    match P.underlying t, evA tmps d, evA tmps s with
    | some (.slice e), some d, some s => copyA P st e d s
    | _, _, _ => none
  | .call { callee := .builtin .clear, args := ⟨[x]⟩, argTypes := ⟨[t]⟩ } =>
    match P.underlying t, evA tmps x with
    | some (.slice e), some x => clearA P st e x
    | _, _ => none
  | .call { callee := .value f, args := args, .. } =>
    match evA tmps f, evsA tmps args.toList with
    | some (.fn (.func g) first caps), some l =>
      match P.funcs[g]? with
      | some fn => match fn.body with
        | some _ => call g (first ++ l ++ caps) st
        | none => match externA fn.name (first ++ l ++ caps) with
          | some v => some (v, st)
          | none => none
      | none => none
    | _, _ => none
  | _ => none

/- ### Regions -/
def guardA (ops : Array Oper) (tmps : List AV) (o : Oper) : Bool :=
  match o.guard with
  | none => true
  | some (j, want) => match ops[j]? with
    | some g => match g.dst with
      | some d => match tmps[d]? with
        | some (.bool b) => b == want
        | _ => false
      | none => false
    | none => false
def putA (tmps : List AV) : Option Tmp → AV → List AV
  | none, _ => tmps
  | some d, v => tmps.set d v

inductive Cls where
  | pure | alloc | read | eff
def clsOf (P : Program) : Op → Cls
  | .alloc _ | .box _ _ | .buildSlice _ _ _ | .makeSlice _ _ _ => .alloc
  | .load _ _ => .read
  | .store _ _ _ => .eff
  | .call { callee := .value _, .. } => .eff
  | .call { callee := .builtin .append, .. } | .call { callee := .builtin .copy, .. } | .call { callee := .builtin .clear, .. } => .eff
  | .convert src dst _ => match P.underlying src, P.underlying dst with
    | some (.slice _), some .string => .read
    | some .string, some (.slice _) => .eff
    | _, _ => .pure
  | _ => .pure

def opA (P : Program) (call : CallA) (tmps : List AV) (st : St) (o : Op) : Option (AV × St) :=
  match clsOf P o with
  | .pure => match pureA P tmps o with
    | some v => some (v, st)
    | none => none
  | .alloc => match allocA P tmps st.n o with
    | some (v, cs) => some (v, st.new cs)
    | none => none
  | .read => match readA P tmps o with
    | some (b, off, n, mk) => match st.read b off n with
      | some l => match madeA mk l with
        | some v => some (v, st)
        | none => none
      | none => none
    | none => none
  | .eff => effA P call tmps st o

/-- One operation, in its place. -/
def stepA (P : Program) (call : CallA) (ops : Array Oper) (o : Oper) (tmps : List AV) (st : St) : Option (List AV × St) :=
  match guardA ops tmps o with
  | false => some (putA tmps o.dst undefA, st)
  | true => match opA P call tmps st o.op with
    | some (v, st') => some (putA tmps o.dst v, st')
    | none => none
def opsA (P : Program) (call : CallA) (ops : Array Oper) : List Oper → List AV → St → Option (List AV × St)
  | [], tmps, st => some (tmps, st)
  | o :: os, tmps, st => match stepA P call ops o tmps st with
    | some (tmps', st') => opsA P call ops os tmps' st'
    | none => none

/- ### Regions that may be carried out in more than one order -/
def sameO : Option (Nat × Nat) → Option (Nat × Nat) → Bool
  | none, none => true
  | some (a, i), some (b, j) => Nat.beq a b && Nat.beq i j
  | _, _ => false
def sameC : Cap → Cap → Bool
  | .known a, .known b => Nat.beq a b
  | .more a s, .more b t => Nat.beq a b && Nat.beq s t
  | _, _ => false
mutual
def sameV : AV → AV → Bool
  | .bool a, .bool b => a == b
  | .int k a, .int k' b => decide (k = k') && decide (a = b)
  | .str a, .str b => eqBytes a b
  | .ptr a, .ptr b => sameO a b
  | .glob a, .glob b => Nat.beq a b
  | .sl a n c, .sl b m d => sameO a b && Nat.beq n m && sameC c d
  | .fn f x y, .fn g x' y' => decide (f = g) && sameVs x x' && sameVs y y'
  | .nilFn, .nilFn => true
  | .agg x, .agg y => sameVs x y
  | .tup x, .tup y => sameVs x y
  | _, _ => false
def sameVs : List AV → List AV → Bool
  | [], [] => true
  | a :: x, b :: y => sameV a b && sameVs x y
  | _, _ => false
end
def sameR : Option (List AV) → Option (List AV) → Bool
  | some a, some b => sameVs a b
  | _, _ => false

/-- Of each operation those that must be carried out before it, a bit each. -/
def bitsA (acc : List Nat) : List Edge → Nat
  | [] => 0
  | e :: es => match Region.binds .any e with
    | true => (bitsA acc es ||| 2 ^ e.on) ||| acc.getD e.on 0
    | false => bitsA acc es
def befA (acc : List Nat) : List Oper → List Nat
  | [] => acc
  | o :: os => befA (acc ++ [bitsA acc o.after.toList]) os
def ordA (bef : List Nat) (i j : Nat) : Bool := (bef.getD j 0).testBit i

def isEff (P : Program) (o : Op) : Bool := match clsOf P o with | .eff => true | _ => false
def isRead (P : Program) (o : Op) : Bool := match clsOf P o with | .read => true | _ => false

/-- The states that the text's order comes through: the last one first. -/
def traceA (P : Program) (call : CallA) (ops : Array Oper) : List Oper → List (List AV × St) → List AV → St → Option (List (List AV × St))
  | [], acc, tmps, st => some ((tmps, st) :: acc)
  | o :: os, acc, tmps, st => match stepA P call ops o tmps st with
    | some (tmps', st') => traceA P call ops os ((tmps, st) :: acc) tmps' st'
    | none => none

/-- Does an effect (between two states) leave what a read reads? -/
def leavesA (b off n : Nat) (want : Option (List AV)) (s s' : St) : Bool := sameR (s.read b off n) want && sameR (s'.read b off n) want
/-- One read, against all effects that may be carried out on either side of it. -/
def readOkA (P : Program) (ops : Array Oper) (bef : List Nat) (i b off n : Nat) (want : Option (List AV)) : Nat → List Oper → List (List AV × St) → Bool
  | e, o :: os, (t, s) :: (t', s') :: tr =>
    (!isEff P o.op || !guardA ops t o || ordA bef i e || ordA bef e i || leavesA b off n want s s') && readOkA P ops bef i b off n want (e + 1) os ((t', s') :: tr)
  | _, _, _ => true
def stableA (P : Program) (ops : Array Oper) (bef : List Nat) (all : List Oper) (alltr : List (List AV × St)) : Nat → List Oper → List (List AV × St) → Bool
  | i, o :: os, (t, s) :: tr =>
    (!isRead P o.op || !guardA ops t o || (match readA P t o.op with
      | some (b, off, n, _) => readOkA P ops bef i b off n (s.read b off n) 0 all alltr
      | none => false)) && stableA P ops bef all alltr (i + 1) os tr
  | _, _, _ => true

/-- Once and for all, of a region that draws its order: what is not in order touches no slot of the other's, and effects are in order. -/
def pairOk (P : Program) (ops : Array Oper) (bef : List Nat) (i j : Nat) : Bool :=
  match ops[i]?, ops[j]? with
  | some x, some y => ordA bef i j || (x.apart ops y && !(isEff P x.op && isEff P y.op))
  | _, _ => true
def edgesOk (ops : Array Oper) (j : Nat) : Bool :=
  match ops[j]? with
  | some o => o.after.all fun e => !Region.binds .any e || Nat.blt e.on j
  | none => true
def drawOkA (P : Program) (ops : Array Oper) : Bool :=
  let bef := befA [] ops.toList
  (List.range ops.size).all fun j => edgesOk ops j && (List.range j).all fun i => pairOk P ops bef i j
def drawsOkA (P : Program) : Code → Bool
  | .region _ ops true => drawOkA P ops
  | .seq a b => drawsOkA P a && drawsOkA P b
  | .cond _ a b => drawsOkA P a && drawsOkA P b
  | .block _ a => drawsOkA P a
  | .loop a => drawsOkA P a
  | .scope a => drawsOkA P a
  | .rangeFunc _ _ a b => drawsOkA P a && drawsOkA P b
  | _ => true

/-- Is each read in order with each effect? -/
def quietA (P : Program) (ops : Array Oper) (bef : List Nat) : Bool :=
  (List.range ops.size).all fun i => match ops[i]? with
    | some o => !isRead P o.op || (List.range ops.size).all fun e => match ops[e]? with
      | some oe => !isEff P oe.op || ordA bef i e || ordA bef e i
      | none => true
    | none => true
def drawsA (P : Program) (ops : Array Oper) (draw : Bool) : Bool := draw && !quietA P ops (befA [] ops.toList)
def regionA (P : Program) (call : CallA) (ops : Array Oper) (draw : Bool) (tmps : List AV) (st : St) : Option (List AV × St) :=
  match drawsA P ops draw with
  | false => opsA P call ops ops.toList tmps st
  | true => match traceA P call ops ops.toList [] tmps st with
    | some (last :: tr) => match stableA P ops (befA [] ops.toList) ops.toList (last :: tr).reverse 0 ops.toList (last :: tr).reverse with
      | true => some last
      | false => none
    | _ => none

/- ### Code, calls -/
inductive Ex where
  | normal
  | exit (id : Nat)
  | ret

abbrev OutA := Option (Ex × List AV × St)
def loopA (f : List AV → St → OutA) : Nat → List AV → St → OutA
  | 0, _, _ => none
  | n + 1, t, s => match f t s with
    | some (.normal, t', s') => loopA f n t' s'
    | r => r
def codeA (P : Program) (call : CallA) (L : Nat) : Code → List AV → St → OutA
  | .skip, t, s => some (.normal, t, s)
  | .label _, t, s => some (.normal, t, s)
  | .region _ ops draw, t, s => match regionA P call ops draw t s with
    | some (t', s') => some (.normal, t', s')
    | none => none
  | .seq a b, t, s => match codeA P call L a t s with
    | some (.normal, t', s') => codeA P call L b t' s'
    | r => r
  | .cond c a b, t, s => match evA t c with
    | some (.bool true) => codeA P call L a t s
    | some (.bool false) => codeA P call L b t s
    | _ => none
  | .block id c, t, s => match codeA P call L c t s with
    | some (.exit j, t', s') => match Nat.beq j id with
      | true => some (.normal, t', s')
      | false => some (.exit j, t', s')
    | r => r
  | .loop c, t, s => loopA (codeA P call L c) L t s
  | .exit id, t, s => some (.exit id, t, s)
  | .ret, t, s => some (.ret, t, s)
  | _, _, _ => none

def resA (P : Program) (st : St) (tmps : List AV) : List ResultVar → Option (List AV)
  | [] => some []
  | .tmp t :: rs => match resA P st tmps rs with
    | some l => some (tmps.getD t undefA :: l)
    | none => none
  | .cell a t :: rs => match readA P tmps (.load t (.tmp a)) with
    | some (b, off, n, mk) => match st.read b off n with
      | some l => match madeA mk l with
        | some v => match resA P st tmps rs with
          | some l => some (v :: l)
          | none => none
        | none => none
      | none => none
    | none => none
def resultA (P : Program) (st : St) (tmps : List AV) (rs : List ResultVar) : Option AV :=
  match resA P st tmps rs with
  | some [v] => some v
  | some l => some (.tup l)
  | none => none

def padA : Nat → List AV
  | 0 => []
  | n + 1 => undefA :: padA n

/-- A call: n deep at most, L rounds at most a loop; 'pr': functions whose answer is told without their text. -/
def callA (P : Program) (pr : FuncId → Option (List AV → St → Option (AV × St))) (L : Nat) : Nat → FuncId → List AV → St → Option (AV × St)
  | 0, _, _, _ => none
  | n + 1, g, args, st =>
    match pr g with
    | some f => f args st
    | none => match P.funcs[g]? with
      | none => none
      | some fn => match fn.body with
        | none => none
        | some c => match codeA P (callA P pr L n) L c (args ++ padA (fn.ntmps - args.length)) st with
          | some (.normal, t, s) => match resultA P s t fn.results.toList with
            | some v => some (v, s)
            | none => none
          | some (.ret, t, s) => match resultA P s t fn.results.toList with
            | some v => some (v, s)
            | none => none
          | _ => none

def noPrim : FuncId → Option (List AV → St → Option (AV × St)) := fun _ => none
def empty : St := { h := .leaf, n := 0 }
/-- Does a call without arguments, of nothing, come to true? -/
def saysTrue (P : Program) (pr : FuncId → Option (List AV → St → Option (AV × St))) (L n : Nat) (g : FuncId) : Bool :=
  match callA P pr L n g [] empty with
  | some (.bool b, _) => b
  | _ => false

end Go.Den
