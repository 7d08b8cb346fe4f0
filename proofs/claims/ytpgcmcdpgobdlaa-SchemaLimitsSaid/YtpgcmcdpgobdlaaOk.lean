/- What the abstract machine asks of this seat's program: closed facts. -/
import Derived.Test.YtpgcmcdpgobdlaaProg
import Derived.Test.YtpgcmcdpgobdlaaDenX
namespace Go.Proofs.Ytpgcmcdpgobdlaa
open Go.Den
theorem d1 : Try.prog.follows .mixedOrders = true := by kernel_rfl
theorem d2 : namesOkA Try.prog = true := by kernel_rfl
theorem d3 : drawsAllA Try.prog = true := by kernel_rfl
theorem d4 : extsOkA Try.prog = true := by kernel_rfl
theorem ok : ProgOk Try.prog := progOk_of d1 d2 d3 d4
/-- The functions that have regions which are not quiet. -/
def exs : List Nat := [3, 4, 8, 20, 21, 27, 32, 45, 48, 50, 55, 56, 62]
theorem quiet : quietAllA Try.prog exs = true := by kernel_rfl
end Go.Proofs.Ytpgcmcdpgobdlaa
