/- The beginning of the statements on ways, as a function that is told. -/
import Derived.Test.YtekedhfmdpbplaaBgE
import Derived.Test.YtekedhfmdpbplaaSyJo
import Derived.Test.YtekedhfmdpbplaaSr
set_option linter.unusedVariables false
namespace Go.Proofs.Ytekedhfmdpbplaa
open Go Go.Sy
/-- A beginning that comes to true. -/
def begG : Sy.Spec := ⟨[], fun args s => match args, s with
  | [], [] => okL (.bool true) []
  | _, _ => .fail⟩
theorem beg9_ok : SpecOk Try.prog 24 begG.f := specOk_comes fun args s v s' tch e => by
  simp only [begG] at e
  split at e
  · cases e
    refine ⟨Nat.le_refl _, fun ρ w vargs hi hr => ?_⟩
    simp only [Rels] at hr
    subst hr
    refine (Dn.beg9_calls w).mono ?_
    rintro e w' ⟨rfl, hb⟩
    exact ⟨_, ρ, rfl, postC_below hi (Nat.le_refl _) hb, by simp [Rel]⟩
  · cases e
end Go.Proofs.Ytekedhfmdpbplaa
