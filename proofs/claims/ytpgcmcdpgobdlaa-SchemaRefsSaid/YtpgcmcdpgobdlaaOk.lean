/- What the abstract machine asks of this seat's program: closed facts. -/
import Derived.Test.YtpgcmcdpgobdlaaProg
import Derived.Test.YtpgcmcdpgobdlaaDenT
namespace Go.Proofs.Ytpgcmcdpgobdlaa
open Go.Den
theorem d1 : Try.prog.follows .mixedOrders = true := by kernel_rfl
theorem d2 : namesOkA Try.prog = true := by kernel_rfl
theorem d3 : drawsAllA Try.prog = true := by kernel_rfl
theorem d4 : extsOkA Try.prog = true := by kernel_rfl
theorem ok : ProgOk Try.prog := progOk_of d1 d2 d3 d4
end Go.Proofs.Ytpgcmcdpgobdlaa
