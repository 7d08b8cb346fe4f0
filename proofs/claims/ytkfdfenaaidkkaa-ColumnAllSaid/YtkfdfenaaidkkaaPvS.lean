/- Plain: columns: may, count. -/
import Derived.Test.YtkfdfenaaidkkaaPvR
set_option linter.unusedSimpArgs false
set_option linter.unusedVariables false
namespace Go.Sy
open Go
def mayC (k a b : Int) (c : List UInt8) : Bool := (decide (a = 0) || decide (a = k)) && mayV a b c
/-- Of a column: its number of words yet. -/
def mayCF (cmp : Nat) : Spec := ⟨[], fun args s => match args, s with
  | [.ptr none, .agg [.int .i64 a, .int .i64 b, .str c]], [] => .ok true (.bool false) [] []
  | [.ptr (some (0, 0)), .agg [.int .i64 a, .int .i64 b, .str c]], [.cells [.int .i64 k, .tsl q e1 1 0 z .tight, .ptr none, .int .i64 u], .tbl false e2 vl] => .ok (okC e1 e2 vl z && decide (c.length < 1000)) (.bool (mayC k a b c)) (c0S k q z vl u) []
  | [.ptr (some (0, 0)), .agg [.int .i64 a, .int .i64 b, .str c]], [.cells [.int .i64 k, .tsl q e1 1 0 z .tight, .ptr (some (2, 0)), .int .i64 u], .tbl false e2 vl, .cells [.fn (.func g) [] [], .tsl nn e 3 0 n .tight], .tbl false sh l] =>
    .ok (okC e1 e2 vl z && (Nat.beq g cmp && okM e sh l n) && decide (c.length < 1000)) (.bool (mayC k a b c)) (c1S cmp k q z vl u nn n l) []
  | _, _ => .fail⟩
def countCF (cmp : Nat) : Spec := ⟨[], fun args s => match args, s with
  | [.ptr (some (0, 0)), .agg [.int .i64 a, .int .i64 b, .str c]], [.cells [.int .i64 k, .tsl q e1 1 0 z .tight, .ptr none, .int .i64 u], .tbl false e2 vl] =>
    .br (decide (a = 0)) (.ok (okC e1 e2 vl z) (.tup []) (c0S k q z vl (IntKind.i64.wrap (u + 1))) [0])
    (.br (decide (a = 2)) (.ok (okC e1 e2 vl z) (.tup []) (c1S cmp k q z vl u true 1 (insK [] 0 c 1)) [0]) (.ok (okC e1 e2 vl z) (.tup []) (c0S k q z vl u) []))
  | [.ptr (some (0, 0)), .agg [.int .i64 a, .int .i64 b, .str c]], [.cells [.int .i64 k, .tsl q e1 1 0 z .tight, .ptr (some (2, 0)), .int .i64 u], .tbl false e2 vl, .cells [.fn (.func g) [] [], .tsl nn e 3 0 n .tight], .tbl false sh l] =>
    .br (decide (a = 0)) (.ok (okC e1 e2 vl z && (Nat.beq g cmp && okM e sh l n)) (.tup []) (c1S cmp k q z vl (IntKind.i64.wrap (u + 1)) nn n l) [0])
    (.br (decide (a = 2)) (.br (hasB l c)
      (.ok (okC e1 e2 vl z && (Nat.beq g cmp && okM e sh l n)) (.tup []) (c1S cmp k q z vl u nn n (setK l (bs l c) (IntKind.i64.wrap (getK l c + 1)))) [0, 2, 3])
      (.ok (okC e1 e2 vl z && (Nat.beq g cmp && okM e sh l n)) (.tup []) [.cells [.int .i64 k, .tsl q shV 1 0 z .tight, .ptr (some (2, 0)), .int .i64 u], .tbl false shV vl, .cells [.fn (.func cmp) [] [], .tsl true shP 4 0 (n + 1) .tight], .dead, .tbl false shP (insK l (bs l c) c 1)] [0, 2, 3]))
      (.ok (okC e1 e2 vl z && (Nat.beq g cmp && okM e sh l n)) (.tup []) (c1S cmp k q z vl u nn n l) []))
  | _, _ => .fail⟩
end Go.Sy
namespace Go.Sy
def okT (v : AV) (s : St) : RT := .ok true v s []
theorem K_of_run {v : AV} {s : St} {tch : List Nat} : ∀ {t : RT}, t.run = some (v, s, tch) → t.K (fun v1 s1 _ => v1 = v ∧ s1 = s)
  | .fail, h => by cases h
  | .ok g v' s' _, h => by
    cases g
    · cases h
    · cases h; exact ⟨rfl, rfl⟩
  | .br b x y, h => by
    cases b
    · exact K_of_run (t := y) h
    · exact K_of_run (t := x) h
/-- A tree, under a condition. -/
def ifT (g : Bool) (t : RT) : RT := .br g t .fail
theorem ifT_run {g : Bool} {t : RT} {r : AV × St × List Nat} (h : (ifT g t).run = some r) : g = true ∧ t.run = some r := by
  cases g
  · cases h
  · exact ⟨rfl, h⟩
end Go.Sy
