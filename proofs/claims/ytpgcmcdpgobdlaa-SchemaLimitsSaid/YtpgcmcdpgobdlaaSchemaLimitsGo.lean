/- The law SchemaLimits returns true, whatever its arguments; no condition. Its arguments are taken case by case; in each the abstract machine comes to true, by the kernel's own reckoning. -/
import Derived.Test.YtpgcmcdpgobdlaaRows
import Derived.Test.YtpgcmcdpgobdlaaOk
import Derived.Test.YtpgcmcdpgobdlaaDenY
import Derived.WalkKit
import Derived.ProofKit
import Derived.OpenShut
import Derived.ChangeOld
import Derived.Below
import Derived.SizedLaws
namespace Go.Proofs.Ytpgcmcdpgobdlaa.schemaLimits
open Go.ChangeShapes Go.WideShapes Go.ChangeAt Go.RowKit Go.Den
set_option linter.unusedVariables false
theorem own : ownKnob Try.prog.godebug = none := by kernel_rfl
theorem beg0 : saysF Try.prog exs noPrim 1000 20 23 [] = true := by kernel_rfl
def pr := truePrim [23]
theorem pr_ok : PrimOk Try.prog pr := truePrimF_ok ok quiet fun g hg => by
  simp only [List.mem_cons, List.not_mem_nil, or_false] at hg
  rcases hg with rfl
  · exact ⟨noPrim, 1000, 20, noPrim_ok, beg0⟩
noncomputable def go (args : List AV) : Bool := saysF Try.prog exs pr 1000 20 8 args
end Go.Proofs.Ytpgcmcdpgobdlaa.schemaLimits
