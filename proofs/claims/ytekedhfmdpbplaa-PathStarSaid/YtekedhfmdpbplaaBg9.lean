/- Walks: begun of the statements on ways. -/
import Derived.Test.YtekedhfmdpbplaaBgT
import Derived.Test.YtekedhfmdpbplaaPaB
import Derived.Test.YtekedhfmdpbplaaBg
import Derived.Test.YtekedhfmdpbplaaLayJ
import Derived.Test.YtekedhfmdpbplaaSyJo
import Derived.KernelRfl
set_option linter.unusedSimpArgs false
set_option linter.unusedVariables false
set_option maxRecDepth 100000
namespace Go.Proofs.Ytekedhfmdpbplaa
open Go Go.Sy
attribute [local irreducible] bodyK roundK cutK
theorem joinS_ok : SpecOk Try.prog 53 joinF.f := join_ok (r := joinRen) joinLays joinExtra
noncomputable def prB9 : FuncId → Option Sy.Spec := addP 11 begF (addP 26 bothG (addP 19 findG (addP 22 scolX (addP 53 joinF (addP 36 starP noP)))))
theorem prB9_ok : PrOk Try.prog prB9 := prOk_add beg8_ok (prOk_add bothG_ok (prOk_add findG_ok (prOk_add (scolX_ok scolG_ok scolN_ok) (prOk_add joinS_ok (prOk_add starP_ok prOk_none)))))
def fs9 : List FuncId := [97, 79, 54, 31, 98, 107, 106, 81, 80, 56, 55, 55, 55, 55, 55, 34, 29, 27, 52]
noncomputable def prS9 : FuncId → Option Sy.Spec := selfs Try.prog 1000 fs9 prB9
theorem prS9_ok : PrOk Try.prog prS9 := selfs_ok ok _ _ prB9_ok (by kernel_rfl)
theorem b9 (K : AV → St → Prop) : bodyK Try.prog prS9 noL 1000 24 [] [] [] K =
  K (AV.bool true) [] := by kernel_rfl
theorem beg9_ok : SpecOk Try.prog 24 begF.f := begF_of (comes_of ok prS9_ok (L := 1000) (ms := []) (by kernel_rfl) loops_none (Eq.mpr (b9 ..) ⟨rfl, rfl⟩))
end Go.Proofs.Ytekedhfmdpbplaa
