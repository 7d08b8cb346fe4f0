/- The beginning of the statements on ways comes to true. -/
import Derived.Test.YtekedhfmdpbplaaProg
import Derived.Test.YtekedhfmdpbplaaDnD
import Derived.Test.YtekedhfmdpbplaaLayJ
namespace Go.Proofs.Ytekedhfmdpbplaa.Dn
open Go Go.Den
theorem d1 : Try.prog.follows .mixedOrders = true := by kernel_rfl
theorem d2 : namesOkA Try.prog = true := by kernel_rfl
theorem d3 : drawsAllA Try.prog = true := by kernel_rfl
theorem d4 : extsOkA Try.prog = true := by kernel_rfl
theorem ok : ProgOk Try.prog := progOk_of d1 d2 d3 d4
/-- The functions that have regions which are not quiet. -/
def exs : List Nat := [7, 15, 20, 41, 46, 47, 63, 84, 96]
theorem quiet : quietAllA Try.prog exs = true := by kernel_rfl
def prJ := joinPrim 53
theorem prJ_ok : PrimOk Try.prog prJ := joinPrim_ok (r := joinRen) joinLays joinExtra
theorem beg9 : saysF Try.prog exs prJ 1000 30 24 [] = true := by kernel_rfl
theorem beg9_calls (w : World) : Calls Try.prog 24 #[] w fun e w' => e = .returned (.bool true) ∧ Go.RowKit.Below w.heap.size w w' := saysF_sound ok quiet prJ_ok beg9 Rels.nil w
end Go.Proofs.Ytekedhfmdpbplaa.Dn
