/- Words in order, plainly: what the functions answer. -/
import Derived.Test.YtkfdfenaaidkkaaPvJ
set_option linter.unusedSimpArgs false
set_option linter.unusedVariables false
namespace Go.Sy
/- ### Words -/
def a0S : St := [.cells [.ptr none]]
def a1S (g : Nat) (l : List D) (nn : Bool) (n : Nat) : St := [.cells [.ptr (some (1, 0))], .cells [.fn (.func g) [] [], .tsl nn shP 2 0 n .tight], .tbl false shP l]
def wordsF (cmp : Nat) : Spec := ⟨[], fun args s => match args, s with
  | [.ptr (some (0, 0))], [.cells [.ptr none]] => .ok true (.ptr (some (1, 0))) (a1S cmp [] false 0) [0]
  | [.ptr (some (0, 0))], [.cells [.ptr (some (1, 0))], .cells [.fn (.func g) [] [], .tsl nn e 2 0 n .tight], .tbl false sh l] => .ok (Nat.beq g cmp && okM e sh l n) (.ptr (some (1, 0))) (a1S cmp l nn n) []
  | _, _ => .fail⟩
def addW (l : List D) (k : List UInt8) : List D := match hasB l k with
  | true => setK l (bs l k) (IntKind.i64.wrap (getK l k + 1))
  | false => insK l (bs l k) k 1
def takeW (l : List D) (k : List UInt8) : List D := match hasB l k with
  | true => match decide (getK l k > 1) with
    | true => setK l (bs l k) (IntKind.i64.wrap (getK l k - 1))
    | false => delK l (bs l k)
  | false => l
/-- A pointer to words: none yet; some. -/
def addF (cmp : Nat) : Spec := ⟨[], fun args s => match args, s with
  | [.ptr (some (0, 0)), .str k], [.cells [.ptr none]] => .ok true (.bool true) (a1S cmp (insK [] 0 k 1) true 1) [0]
  | [.ptr (some (0, 0)), .str k], [.cells [.ptr (some (1, 0))], .cells [.fn (.func g) [] [], .tsl nn e 2 0 n .tight], .tbl false sh l] => .br (hasB l k)
    (.ok (Nat.beq g cmp && okM e sh l n) (.bool false) (a1S cmp (setK l (bs l k) (IntKind.i64.wrap (getK l k + 1))) nn n) [0, 1, 2])
    (.ok (Nat.beq g cmp && okM e sh l n) (.bool true) [.cells [.ptr (some (1, 0))], .cells [.fn (.func cmp) [] [], .tsl true shP 3 0 (n + 1) .tight], .dead, .tbl false shP (insK l (bs l k) k 1)] [0, 1, 2])
  | _, _ => .fail⟩
def takeF (cmp : Nat) : Spec := ⟨[], fun args s => match args, s with
  | [.ptr (some (0, 0)), .str k], [.cells [.ptr none]] => .ok true (.bool false) (a1S cmp [] false 0) [0]
  | [.ptr (some (0, 0)), .str k], [.cells [.ptr (some (1, 0))], .cells [.fn (.func g) [] [], .tsl nn e 2 0 n .tight], .tbl false sh l] => .br (hasB l k)
    (.br (decide (getK l k > 1))
      (.ok (Nat.beq g cmp && okM e sh l n) (.bool true) (a1S cmp (setK l (bs l k) (IntKind.i64.wrap (getK l k - 1))) nn n) [0, 1, 2])
      (.ok (Nat.beq g cmp && okM e sh l n) (.bool true) [.cells [.ptr (some (1, 0))], .cells [.fn (.func cmp) [] [], .tsl true shP 3 0 (n - 1) .tight], .dead, .tbl false shP (delK l (bs l k))] [0, 1, 2]))
    (.ok (Nat.beq g cmp && okM e sh l n) (.bool false) (a1S cmp l nn n) [])
  | _, _ => .fail⟩
def rankL (l : List D) (k : List UInt8) : Int := match hasB l k with
  | true => (bs l k : Int)
  | false => 0
def rankF (cmp : Nat) : Spec := ⟨[], fun args s => match args, s with
  | [.ptr (some (0, 0)), .str k], [.cells [.ptr none]] => .ok true (.tup [.int .i64 0, .bool false]) (a1S cmp [] false 0) [0]
  | [.ptr (some (0, 0)), .str k], [.cells [.ptr (some (1, 0))], .cells [.fn (.func g) [] [], .tsl nn e 2 0 n .tight], .tbl false sh l] =>
    .ok (Nat.beq g cmp && okM e sh l n) (.tup [.int .i64 (rankL l k), .bool (hasB l k)]) (a1S cmp l nn n) []
  | _, _ => .fail⟩
def inL (l : List D) (i : Int) : Bool := decide (0 ≤ i) && decide (i < (l.length : Int))
def atK (l : List D) (i : Int) : List UInt8 := match inL l i with
  | true => keyD (l.getD i.toNat .nul)
  | false => []
def atF (cmp : Nat) : Spec := ⟨[], fun args s => match args, s with
  | [.ptr (some (0, 0)), .int .i64 i], [.cells [.ptr none]] => .ok true (.tup [.str [], .bool false]) (a1S cmp [] false 0) [0]
  | [.ptr (some (0, 0)), .int .i64 i], [.cells [.ptr (some (1, 0))], .cells [.fn (.func g) [] [], .tsl nn e 2 0 n .tight], .tbl false sh l] =>
    .ok (Nat.beq g cmp && okM e sh l n) (.tup [.str (atK l i), .bool (inL l i)]) (a1S cmp l nn n) []
  | _, _ => .fail⟩
def lenDF (cmp : Nat) : Spec := ⟨[], fun args s => match args, s with
  | [.ptr (some (0, 0))], [.cells [.ptr none]] => .ok true (.int .i64 0) (a1S cmp [] false 0) [0]
  | [.ptr (some (0, 0))], [.cells [.ptr (some (1, 0))], .cells [.fn (.func g) [] [], .tsl nn e 2 0 n .tight], .tbl false sh l] =>
    .ok (Nat.beq g cmp && okM e sh l n) (.int .i64 n) (a1S cmp l nn n) []
  | _, _ => .fail⟩
/-- From, to, is there such a test. -/
def spanP (op : Int) (at_ to all : Int) : Option (Int × Int) :=
  if op = 1 then some (at_, to) else if op = 3 then some (0, at_) else if op = 4 then some (0, to) else if op = 5 then some (to, all) else if op = 6 then some (at_, all) else none
def spanT (l : List D) (k : List UInt8) : Int := match hasB l k with
  | true => (bs l k : Int) + 1
  | false => (bs l k : Int)
def spanQ (op : Int) (l : List D) (k : List UInt8) : Option (Int × Int) := match spanP op (bs l k) (spanT l k) l.length with
  | some (a, b) => if a ≥ b then some (0, 0) else some (a, b)
  | none => none
def spanA (op : Int) (l : List D) (k : List UInt8) : Int := match spanQ op l k with | some (a, _) => a | none => 0
def spanB (op : Int) (l : List D) (k : List UInt8) : Int := match spanQ op l k with | some (_, b) => b | none => 0
def spanC (op : Int) (l : List D) (k : List UInt8) : Bool := match spanQ op l k with | some _ => true | none => false
def spanF (cmp : Nat) : Spec := ⟨[], fun args s => match args, s with
  | [.ptr (some (0, 0)), .int .i64 op, .str k], [.cells [.ptr none]] => .ok true (.tup [.int .i64 (spanA op [] k), .int .i64 (spanB op [] k), .bool (spanC op [] k)]) (a1S cmp [] false 0) [0]
  | [.ptr (some (0, 0)), .int .i64 op, .str k], [.cells [.ptr (some (1, 0))], .cells [.fn (.func g) [] [], .tsl nn e 2 0 n .tight], .tbl false sh l] =>
    .ok (Nat.beq g cmp && okM e sh l n) (.tup [.int .i64 (spanA op l k), .int .i64 (spanB op l k), .bool (spanC op l k)]) (a1S cmp l nn n) []
  | _, _ => .fail⟩
end Go.Sy
