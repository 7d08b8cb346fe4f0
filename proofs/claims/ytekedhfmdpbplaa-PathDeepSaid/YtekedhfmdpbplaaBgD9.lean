/- The beginning of the statements on ways comes to true. -/
import Derived.Test.YtekedhfmdpbplaaOk
import Derived.Test.YtekedhfmdpbplaaDenZ
import Derived.Test.YtekedhfmdpbplaaLayJ
namespace Go.Proofs.Ytekedhfmdpbplaa
open Go Go.Den
def prJ := joinPrim 53
theorem prJ_ok : PrimOk Try.prog prJ := joinPrim_ok (r := joinRen) joinLays joinExtra
theorem beg9 : saysF Try.prog exs prJ 1000 30 24 [] = true := by kernel_rfl
def pr9 : FuncId → Option (List AV → St → Option (AV × St)) := orPrim (truePrim [24]) prJ
theorem pr9_ok : PrimOk Try.prog pr9 := orPrim_ok (truePrimF_ok ok quiet fun g hg => by
  simp only [List.mem_cons, List.not_mem_nil, or_false] at hg
  subst hg
  exact ⟨prJ, 1000, 30, prJ_ok, beg9⟩) prJ_ok
end Go.Proofs.Ytekedhfmdpbplaa
