/- The names of package api stand for the document's numbers: the law Names returns true; no condition. -/
import Derived.Test.YtgmddliidplooaaPNamesx1
namespace Go.Proofs.Ytgmddliidplooaa.Pure
open Go.RowKit Go.Proofs.Ytgmddliidplooaa.PNames Go.Proofs.YtgmddliidplooaaW.PrintWords Go.Proofs.YtgmddliidplooaaW.PrintLast

/-- YOURS: ∃ k, asterismlaw0_Names.f k  = some true
What it reaches (each with k first where it has rounds; `.mono`: more rounds tell the same; `.l0`, ..: its loops, with `.mono_l`): asterismlaw0_Names.f -/
theorem Names : asterismlaw0_Names.Pure := by
  exact ⟨100, by decide +kernel⟩

end Go.Proofs.Ytgmddliidplooaa.Pure
