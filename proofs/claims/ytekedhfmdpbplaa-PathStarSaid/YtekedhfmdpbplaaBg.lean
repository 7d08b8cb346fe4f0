/- Walks: begun of the statements on tables' forms. -/
import Derived.Test.YtekedhfmdpbplaaSp
import Derived.KernelRfl
set_option linter.unusedSimpArgs false
set_option linter.unusedVariables false
set_option maxRecDepth 100000
namespace Go.Proofs.Ytekedhfmdpbplaa
open Go Go.Sy
attribute [local irreducible] bodyK roundK cutK
noncomputable def prCl : FuncId → Option Sy.Spec := addP 72 (orS (cloneDF shCol) (selfF Try.prog noP 100 72)) (addP 73 (orS (cloneDF shDep) (selfF Try.prog noP 100 73)) (addP 74 (orS (cloneDF .str) (selfF Try.prog noP 100 74)) (addP 109 (orS (cloneDF .str) (selfF Try.prog noP 100 109)) noP)))
theorem prCl_ok : PrOk Try.prog prCl := prOk_add (orS_ok clCol_ok (self_ok ok prOk_none (by kernel_rfl))) (prOk_add (orS_ok clDep_ok (self_ok ok prOk_none (by kernel_rfl))) (prOk_add (orS_ok clStr_ok (self_ok ok prOk_none (by kernel_rfl))) (prOk_add (orS_ok clPth_ok (self_ok ok prOk_none (by kernel_rfl))) prOk_none)))
def fs8 : List FuncId := [91, 89, 90, 66, 50, 49, 47, 75, 45, 71, 110, 92, 67, 48, 94, 108, 83, 70, 69, 93, 68, 44, 19, 22, 18, 43, 46, 16, 14]
noncomputable def prS8 : FuncId → Option Sy.Spec := selfs Try.prog 1000 fs8 prCl
theorem prS8_ok : PrOk Try.prog prS8 := selfs_ok ok _ _ prCl_ok (by kernel_rfl)
theorem b8 (K : AV → St → Prop) : bodyK Try.prog prS8 noL 1000 11 [] [] [] K =
  K (AV.bool true) [] := by kernel_rfl
/-- A beginning that comes to true. -/
noncomputable def begF : Sy.Spec := ⟨[], fun args s => match args, s with
  | [], [] => okL (.bool true) []
  | _, _ => .fail⟩
theorem begF_of {f : FuncId} (h : Sy.Comes Try.prog f [] [] (.bool true) []) : SpecOk Try.prog f begF.f := specOk_comes fun args s v s' tch e => by
  simp only [begF] at e
  split at e
  · cases e; exact h
  · cases e
theorem beg8_ok : SpecOk Try.prog 11 begF.f := begF_of (comes_of ok prS8_ok (L := 1000) (ms := []) (by kernel_rfl) loops_none (Eq.mpr (b8 ..) ⟨rfl, rfl⟩))
end Go.Proofs.Ytekedhfmdpbplaa
