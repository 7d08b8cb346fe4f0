/- Plain: columns: what the functions answer. -/
import Derived.Test.YtkfdfenaaidkkaaPvQ
import Derived.Test.YtkfdfenaaidkkaaPvL
set_option linter.unusedSimpArgs false
set_option linter.unusedVariables false
namespace Go.Sy
open Go
/-- The first, or else the second. -/
def altO (F G : Spec) : Spec := ⟨[], fun args s => match F.f args s with
  | .fail => G.f args s
  | r => r⟩
theorem altO_ok {P : Program} {g : FuncId} {F G : Spec} (h1 : SpecOk P g F.f) (h2 : SpecOk P g G.f) : SpecOk P g (altO F G).f where
  len := fun args s v s' tch e => by
    simp only [altO] at e
    split at e
    · exact h2.len _ _ _ _ _ e
    · exact h1.len _ _ _ _ _ e
  calls := fun args s v s' tch e => by
    simp only [altO] at e
    split at e
    · exact h2.calls _ _ _ _ _ e
    · exact h1.calls _ _ _ _ _ e
/-- A column: no words yet; words. -/
def c0S (k : Int) (q : Bool) (z : Nat) (vl : List D) (u : Int) : St := [.cells [.int .i64 k, .tsl q shV 1 0 z .tight, .ptr none, .int .i64 u], .tbl false shV vl]
def c1S (g : Nat) (k : Int) (q : Bool) (z : Nat) (vl : List D) (u : Int) (nn : Bool) (n : Nat) (l : List D) : St :=
  [.cells [.int .i64 k, .tsl q shV 1 0 z .tight, .ptr (some (2, 0)), .int .i64 u], .tbl false shV vl, .cells [.fn (.func g) [] [], .tsl nn shP 3 0 n .tight], .tbl false shP l]
def wordsCF (cmp : Nat) : Spec := ⟨[], fun args s => match args, s with
  | [.ptr (some (0, 2))], [.cells [.int .i64 k, .tsl q e1 1 0 z .tight, .ptr none, .int .i64 u], .tbl false e2 vl] => .ok (Sh.beq e1 shV && Sh.beq e2 shV) (.ptr (some (2, 0))) (c1S cmp k q z vl u false 0 []) [0]
  | [.ptr (some (0, 2))], [.cells [.int .i64 k, .tsl q e1 1 0 z .tight, .ptr (some (2, 0)), .int .i64 u], .tbl false e2 vl, .cells [.fn (.func g) [] [], .tsl nn e 3 0 n .tight], .tbl false sh l] =>
    .ok (Sh.beq e1 shV && (Sh.beq e2 shV && (Nat.beq g cmp && okM e sh l n))) (.ptr (some (2, 0))) (c1S cmp k q z vl u nn n l) []
  | _, _ => .fail⟩
end Go.Sy
namespace Go.Sy
def okC (e1 e2 : Sh) (vl : List D) (z : Nat) : Bool := Sh.beq e1 shV && (Sh.beq e2 shV && (Nat.beq vl.length z && Nat.blt z 1000000))
theorem okC_iff {e1 e2 : Sh} {vl : List D} {z : Nat} : okC e1 e2 vl z = true ↔ e1 = shV ∧ e2 = shV ∧ vl.length = z ∧ z < 1000000 := by
  unfold okC
  simp only [Bool.and_eq_true, Nat.blt_eq, Nat.beq_eq]
  constructor
  · rintro ⟨h1, h2, h3, h4⟩; exact ⟨Sh.beq_eq _ _ h1, Sh.beq_eq _ _ h2, h3, h4⟩
  · rintro ⟨rfl, rfl, h3, h4⟩; exact ⟨by decide, by decide, h3, h4⟩
theorem okC_mk {l : List D} {n : Nat} (h : l.length = n) (hn : n < 1000000) : okC shV shV l n = true := okC_iff.2 ⟨rfl, rfl, h, hn⟩
def addCF (cmp : Nat) : Spec := ⟨[], fun args s => match args, s with
  | [.ptr (some (0, 2)), .str x], [.cells [.int .i64 k, .tsl q e1 1 0 z .tight, .ptr none, .int .i64 u], .tbl false e2 vl] => .ok (okC e1 e2 vl z) (.bool true) (c1S cmp k q z vl u true 1 (insK [] 0 x 1)) [0]
  | [.ptr (some (0, 2)), .str x], [.cells [.int .i64 k, .tsl q e1 1 0 z .tight, .ptr (some (2, 0)), .int .i64 u], .tbl false e2 vl, .cells [.fn (.func g) [] [], .tsl nn e 3 0 n .tight], .tbl false sh l] => .br (hasB l x)
    (.ok (okC e1 e2 vl z && (Nat.beq g cmp && okM e sh l n)) (.bool false) (c1S cmp k q z vl u nn n (setK l (bs l x) (IntKind.i64.wrap (getK l x + 1)))) [0, 2, 3])
    (.ok (okC e1 e2 vl z && (Nat.beq g cmp && okM e sh l n)) (.bool true) [.cells [.int .i64 k, .tsl q shV 1 0 z .tight, .ptr (some (2, 0)), .int .i64 u], .tbl false shV vl, .cells [.fn (.func cmp) [] [], .tsl true shP 4 0 (n + 1) .tight], .dead, .tbl false shP (insK l (bs l x) x 1)] [0, 2, 3])
  | _, _ => .fail⟩
def takeCF (cmp : Nat) : Spec := ⟨[], fun args s => match args, s with
  | [.ptr (some (0, 2)), .str x], [.cells [.int .i64 k, .tsl q e1 1 0 z .tight, .ptr none, .int .i64 u], .tbl false e2 vl] => .ok (okC e1 e2 vl z) (.bool false) (c1S cmp k q z vl u false 0 []) [0]
  | [.ptr (some (0, 2)), .str x], [.cells [.int .i64 k, .tsl q e1 1 0 z .tight, .ptr (some (2, 0)), .int .i64 u], .tbl false e2 vl, .cells [.fn (.func g) [] [], .tsl nn e 3 0 n .tight], .tbl false sh l] => .br (hasB l x)
    (.br (decide (getK l x > 1))
      (.ok (okC e1 e2 vl z && (Nat.beq g cmp && okM e sh l n)) (.bool true) (c1S cmp k q z vl u nn n (setK l (bs l x) (IntKind.i64.wrap (getK l x - 1)))) [0, 2, 3])
      (.ok (okC e1 e2 vl z && (Nat.beq g cmp && okM e sh l n)) (.bool true) [.cells [.int .i64 k, .tsl q shV 1 0 z .tight, .ptr (some (2, 0)), .int .i64 u], .tbl false shV vl, .cells [.fn (.func cmp) [] [], .tsl true shP 4 0 (n - 1) .tight], .dead, .tbl false shP (delK l (bs l x))] [0, 2, 3]))
    (.ok (okC e1 e2 vl z && (Nat.beq g cmp && okM e sh l n)) (.bool false) (c1S cmp k q z vl u nn n l) [])
  | _, _ => .fail⟩
def lenCF (cmp : Nat) : Spec := ⟨[], fun args s => match args, s with
  | [.ptr (some (0, 2))], [.cells [.int .i64 k, .tsl q e1 1 0 z .tight, .ptr none, .int .i64 u], .tbl false e2 vl] => .ok (okC e1 e2 vl z) (.int .i64 0) (c1S cmp k q z vl u false 0 []) [0]
  | [.ptr (some (0, 2))], [.cells [.int .i64 k, .tsl q e1 1 0 z .tight, .ptr (some (2, 0)), .int .i64 u], .tbl false e2 vl, .cells [.fn (.func g) [] [], .tsl nn e 3 0 n .tight], .tbl false sh l] =>
    .ok (okC e1 e2 vl z && (Nat.beq g cmp && okM e sh l n)) (.int .i64 n) (c1S cmp k q z vl u nn n l) []
  | _, _ => .fail⟩
end Go.Sy
