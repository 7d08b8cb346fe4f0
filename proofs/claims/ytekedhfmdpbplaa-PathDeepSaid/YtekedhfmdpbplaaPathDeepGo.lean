/- The law PathDeep returns true, whatever its arguments; no condition. Its arguments are taken case by case; in each the abstract machine comes to true, by the kernel's own reckoning. -/
import Derived.Test.YtekedhfmdpbplaaRows
import Derived.Test.YtekedhfmdpbplaaBgD9
import Derived.Test.YtekedhfmdpbplaaOk
import Derived.Test.YtekedhfmdpbplaaDenY
import Derived.WalkKit
import Derived.ProofKit
import Derived.OpenShut
import Derived.ChangeOld
import Derived.Below
import Derived.SizedLaws
namespace Go.Proofs.Ytekedhfmdpbplaa.pathDeep
open Go.ChangeShapes Go.WideShapes Go.ChangeAt Go.RowKit Go.Den
set_option linter.unusedVariables false
theorem own : ownKnob Try.prog.godebug = none := by kernel_rfl
abbrev pr := pr9
theorem pr_ok : PrimOk Try.prog pr := pr9_ok
noncomputable def go (args : List AV) : Bool := saysF Try.prog exs pr 1000 30 7 args
end Go.Proofs.Ytekedhfmdpbplaa.pathDeep
