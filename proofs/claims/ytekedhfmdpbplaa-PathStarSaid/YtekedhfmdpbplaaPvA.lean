/- Plain: values, rows of values. -/
import Derived.Test.YtekedhfmdpbplaaSyX
set_option linter.unusedSimpArgs false
set_option linter.unusedVariables false
namespace Go.Sy
open Go
def shV : Sh := .struct [.int .i64, .int .i64, .str]
def cutS (c : List UInt8) (n : Int) : List UInt8 := if (c.length : Int) > n then c.take n.toNat else c
def mkV (a b : Int) (c : List UInt8) : D := .agg [.int a, .int b, .str c]
def vK (d : D) : Int := (d.fld 0).asInt
def vN (d : D) : Int := (d.fld 1).asInt
def vS (d : D) : List UInt8 := (d.fld 2).asStr
def avV (a b : Int) (c : List UInt8) : AV := .agg [.int .i64 a, .int .i64 b, .str c]
def valD (d : D) : D := mkV (vK d) (vN d) (cutS (vS d) 20)
def valsD (l : List D) (n : Int) : List D := (l.take n.toNat).map valD
def cmp3 (a b : Int) (c : List UInt8) (a' b' : Int) (c' : List UInt8) : Int :=
  if a < a' then -1 else if a = a' then (if b < b' then -1 else if b = b' then (if ltBytes c c' then -1 else if eqBytes c c' then 0 else 1) else 1) else 1
def cmpD (x y : D) : Int := cmp3 (vK x) (vN x) (vS x) (vK y) (vN y) (vS y)
/-- The first unlike ones, as far as both have some. -/
def rowL : List D → List D → Option Int
  | a :: l, b :: m => if cmpD a b = 0 then rowL l m else some (cmpD a b)
  | _, _ => none
def rowD (l m : List D) : Int := match rowL l m with
  | some c => c
  | none => if l.length < m.length then -1 else if l.length > m.length then 1 else 0

theorem drop_one {l : List D} {i : Nat} (h : i < l.length) : l.drop i = l.getD i .nul :: l.drop (i + 1) := by
  rw [List.drop_eq_getElem_cons h]; congr 1; simp [List.getD, List.getElem?_eq_getElem h]
/- ### what functions answer -/
def cutF : Spec := ⟨[], fun args s => match args, s with
  | [.str c, .int .i64 n], [] => .ok (decide (0 ≤ n)) (.str (cutS c n)) [] []
  | _, _ => .fail⟩
def valF : Spec := ⟨[], fun args s => match args, s with
  | [.agg [.int .i64 a, .int .i64 b, .str c]], [] => .ok true (avV a b (cutS c 20)) [] []
  | _, _ => .fail⟩
def valsF : Spec := ⟨[.data (.slice shV)], fun args s => match args, s with
  | [.fz false e l, .int .i64 n], [] => .ok (Sh.beq e shV && (decide (0 ≤ n) && decide (n ≤ 1000))) (.fz false shV (valsD l n)) [] []
  | _, _ => .fail⟩
def cmpF : Spec := ⟨[], fun args s => match args, s with
  | [.agg [.int .i64 a, .int .i64 b, .str c], .agg [.int .i64 a', .int .i64 b', .str c']], [] => .ok true (.int .i64 (cmp3 a b c a' b' c')) [] []
  | _, _ => .fail⟩
def rowF : Spec := ⟨[.data (.slice shV), .data (.slice shV)], fun args s => match args, s with
  | [.fz false e l, .fz false e' m], [] => .ok (Sh.beq e shV && Sh.beq e' shV && decide (l.length < 2 ^ 62)) (.int .i64 (rowD l m)) [] []
  | _, _ => .fail⟩
end Go.Sy
