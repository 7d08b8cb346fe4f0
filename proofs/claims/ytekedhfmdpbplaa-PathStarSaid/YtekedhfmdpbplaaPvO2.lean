/- Plain: the first of two or three numbers that is not nought. -/
import Derived.Test.YtekedhfmdpbplaaPvG
namespace Go.Sy
open Go
def or2 (a b : Int) : Int := if a ≠ 0 then a else b
def or23F : Spec := ⟨[.data (.slice (.int .i64))], fun args s => match args, s with
  | [.fz false (.int .i64) [.int a, .int b, .int c]], [] => .ok true (.int .i64 (or3 a b c)) [] []
  | [.fz false (.int .i64) [.int a, .int b]], [] => .ok true (.int .i64 (or2 a b)) [] []
  | _, _ => .fail⟩
end Go.Sy
