/- What the abstract machine asks of this seat's program: closed facts. -/
import Derived.Test.YtekedhfmdpbplaaProg
import Derived.Test.YtekedhfmdpbplaaDenX
namespace Go.Proofs.Ytekedhfmdpbplaa
open Go.Den
theorem d1 : Try.prog.follows .mixedOrders = true := by kernel_rfl
theorem d2 : namesOkA Try.prog = true := by kernel_rfl
theorem d3 : drawsAllA Try.prog = true := by kernel_rfl
theorem d4 : extsOkA Try.prog = true := by kernel_rfl
theorem ok : ProgOk Try.prog := progOk_of d1 d2 d3 d4
/-- The functions that have regions which are not quiet. -/
def exs : List Nat := [7, 15, 20, 41, 46, 47, 63, 84, 96]
theorem quiet : quietAllA Try.prog exs = true := by kernel_rfl
end Go.Proofs.Ytekedhfmdpbplaa
