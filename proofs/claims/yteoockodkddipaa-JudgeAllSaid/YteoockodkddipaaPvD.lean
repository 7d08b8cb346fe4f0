/- Plain: great numbers. -/
import Derived.Test.YteoockodkddipaaSyX
import Derived.Lib.Mul64
import Derived.Laws.Bits64
import Derived.Laws.BitsLemmas
import Derived.Laws.BitsAllLaws
set_option linter.unusedSimpArgs false
set_option linter.unusedVariables false
namespace Go.Sy
open Go
def avW (h l : Int) : AV := .agg [.int .i64 h, .int .u64 l]
def w128 (x : Int) : Int := (x + 170141183460469231731687303715884105728) % 340282366920938463463374607431768211456 - 170141183460469231731687303715884105728
def wH (x : Int) : Int := w128 x / 18446744073709551616
def wL (x : Int) : Int := w128 x % 18446744073709551616
def wV (h l : Int) : Int := h * 18446744073709551616 + l
def inW (h l : Int) : Bool := (decide (-9223372036854775808 ≤ h) && decide (h ≤ 9223372036854775807)) && (decide (0 ≤ l) && decide (l < 18446744073709551616))
def inI (n : Int) : Bool := decide (-9223372036854775808 ≤ n) && decide (n ≤ 9223372036854775807)
def inU (n : Int) : Bool := decide (0 ≤ n) && decide (n < 18446744073709551616)
theorem inW_iff {h l : Int} : inW h l = true ↔ (-9223372036854775808 ≤ h ∧ h ≤ 9223372036854775807) ∧ (0 ≤ l ∧ l < 18446744073709551616) := by simp [inW]
theorem inI_iff {n : Int} : inI n = true ↔ (-9223372036854775808 ≤ n ∧ n ≤ 9223372036854775807) := by simp [inI]
theorem inU_iff {n : Int} : inU n = true ↔ (0 ≤ n ∧ n < 18446744073709551616) := by simp [inU]
theorem wV_HL (x : Int) : wV (wH x) (wL x) = w128 x := by simp only [wV, wH, wL]; omega
theorem inW_HL (x : Int) : inW (wH x) (wL x) = true := by rw [inW_iff]; simp only [wH, wL, w128]; omega
theorem w128_id {x : Int} (h1 : -170141183460469231731687303715884105728 ≤ x) (h2 : x < 170141183460469231731687303715884105728) : w128 x = x := by simp only [w128]; omega
def numOf (x : Int) : Int := if inI x then x else 0
def sgn (a b : Int) : Int := if a < b then -1 else if a > b then 1 else 0

def ofF : Spec := ⟨[], fun args s => match args, s with
  | [.int .i64 n], [] => .ok (inI n) (avW (wH n) (wL n)) [] []
  | _, _ => .fail⟩
def addF : Spec := ⟨[], fun args s => match args, s with
  | [.agg [.int .i64 h, .int .u64 l], .agg [.int .i64 h', .int .u64 l']], [] => .ok (inW h l && inW h' l') (avW (wH (wV h l + wV h' l')) (wL (wV h l + wV h' l'))) [] []
  | _, _ => .fail⟩
def negF : Spec := ⟨[], fun args s => match args, s with
  | [.agg [.int .i64 h, .int .u64 l]], [] => .ok (inW h l) (avW (wH (-(wV h l))) (wL (-(wV h l)))) [] []
  | _, _ => .fail⟩
def mulF : Spec := ⟨[], fun args s => match args, s with
  | [.int .u64 x, .int .u64 y], [] => .ok (inU x && inU y) (.tup [.int .u64 (x * y / 18446744073709551616), .int .u64 (x * y % 18446744073709551616)]) [] []
  | _, _ => .fail⟩
def timesF : Spec := ⟨[], fun args s => match args, s with
  | [.agg [.int .i64 h, .int .u64 l], .int .i64 n], [] => .ok (inW h l && inI n) (avW (wH (wV h l * n)) (wL (wV h l * n))) [] []
  | _, _ => .fail⟩
def numF : Spec := ⟨[], fun args s => match args, s with
  | [.agg [.int .i64 h, .int .u64 l]], [] => .ok (inW h l) (.tup [.int .i64 (numOf (wV h l)), .bool (inI (wV h l))]) [] []
  | _, _ => .fail⟩
def partsF : Spec := ⟨[], fun args s => match args, s with
  | [.agg [.int .i64 h, .int .u64 l]], [] => .ok true (.tup [.int .i64 h, .int .u64 l]) [] []
  | _, _ => .fail⟩
def nanF : Spec := ⟨[], fun args s => match args, s with
  | [.int .i64 a], [] => .ok true (.bool false) [] []
  | [.int .u64 a], [] => .ok true (.bool false) [] []
  | _, _ => .fail⟩
def sgnF : Spec := ⟨[], fun args s => match args, s with
  | [.int .i64 a, .int .i64 b], [] => .ok true (.int .i64 (sgn a b)) [] []
  | _, _ => .fail⟩
def sgnuF : Spec := ⟨[], fun args s => match args, s with
  | [.int .u64 a, .int .u64 b], [] => .ok true (.int .i64 (sgn a b)) [] []
  | _, _ => .fail⟩
def or2F : Spec := ⟨[.data (.slice (.int .i64))], fun args s => match args, s with
  | [.fz nn (.int .i64) [a, b]], [] => .ok true (.int .i64 (if a.asInt = 0 then b.asInt else a.asInt)) [] []
  | _, _ => .fail⟩
def wcmpF : Spec := ⟨[], fun args s => match args, s with
  | [.agg [.int .i64 h, .int .u64 l], .agg [.int .i64 h', .int .u64 l']], [] => .ok (inW h l && inW h' l') (.int .i64 (sgn (wV h l) (wV h' l'))) [] []
  | _, _ => .fail⟩
/-- Of 64 bits alone. -/
def div0F : Spec := ⟨[], fun args s => match args, s with
  | [.int .u64 h, .int .u64 l, .int .u64 y], [] => .ok (decide (h = 0) && (inU l && (inU y && decide (0 < y)))) (.tup [.int .u64 (l / y), .int .u64 (l % y)]) [] []
  | _, _ => .fail⟩
def quo0 (x n : Int) : Int := if x < 0 then -((-x) / n) else x / n
def quo0F : Spec := ⟨[], fun args s => match args, s with
  | [.agg [.int .i64 h, .int .u64 l], .int .i64 n], [] => .ok (inW h l && (inI n && (decide (1 ≤ n) && (decide (-18446744073709551616 < wV h l) && decide (wV h l < 18446744073709551616))))) (.tup [.int .i64 (numOf (quo0 (wV h l) n)), .bool (inI (quo0 (wV h l) n))]) [] []
  | _, _ => .fail⟩

/- ### laws -/
theorem add_hi {h l h' l' : Int} (h1 : inW h l = true) (h2 : inW h' l' = true) :
    IntKind.i64.wrap (((((IntKind.u64.wrap h).toNat + (IntKind.u64.wrap h').toNat + (((l.toNat + l'.toNat + (0 : Int).toNat) / 18446744073709551616 : Nat) : Int).toNat) % 18446744073709551616 : Nat)) : Int) = wH (wV h l + wV h' l') := by
  rw [inW_iff] at h1 h2
  rw [IntKind.wrap_i64, IntKind.wrap_u64, IntKind.wrap_u64]
  simp only [wH, w128, wV]
  omega
theorem add_lo {h l h' l' : Int} (h1 : inW h l = true) (h2 : inW h' l' = true) :
    (((l.toNat + l'.toNat + (0 : Int).toNat) % 18446744073709551616 : Nat) : Int) = wL (wV h l + wV h' l') := by
  rw [inW_iff] at h1 h2
  simp only [wL, w128, wV]
  omega
end Go.Sy
