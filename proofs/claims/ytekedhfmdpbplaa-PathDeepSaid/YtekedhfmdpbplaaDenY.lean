/- Cases of numbers by what is left over. -/
import Derived.Test.YtekedhfmdpbplaaDenX
set_option linter.unusedSimpArgs false
set_option linter.unusedVariables false
namespace Go.Den
open Go

def left5 (r : Int) : AV := .fact .i64 [([(.rem, 5), (.add, 5), (.rem, 5)], .i r)]
theorem left5_chain (m r : Int) (h : (m.tmod 5 + 5).tmod 5 = r) : chainA .i64 m [(.rem, 5), (.add, 5), (.rem, 5)] = some (.int .i64 r) := by
  have h1 : -5 < m.tmod 5 := by
    have := Int.lt_tmod_of_pos m (show (0 : Int) < 5 by decide)
    omega
  have h2 : m.tmod 5 < 5 := Int.tmod_lt_of_pos m (by decide)
  have hw : IntKind.i64.wrap (m.tmod 5 + 5) = m.tmod 5 + 5 := wrap64_in _ (by omega) (by omega)
  simp [chainA, intOp, hw, h]
theorem left5_cov (m : Int) : Covers [left5 0, left5 1, left5 2, left5 3, left5 4] (.int .i64 m) := by
  have h1 : -5 < m.tmod 5 := by
    have := Int.lt_tmod_of_pos m (show (0 : Int) < 5 by decide)
    omega
  have h2 : m.tmod 5 < 5 := Int.tmod_lt_of_pos m (by decide)
  have h3 : (m.tmod 5 + 5).tmod 5 = (m.tmod 5 + 5) % 5 := Int.tmod_eq_emod_of_nonneg (by omega)
  have hrel : ∀ r, (m.tmod 5 + 5) % 5 = r → Rel nowhere (left5 r) (.int .i64 m) := fun r h => by
    simp only [left5, Rel]
    refine ⟨m, rfl, fun x hx => ?_⟩
    simp only [List.mem_singleton] at hx
    subst hx
    exact left5_chain m r (by rw [h3, h])
  have h4 : (m.tmod 5 + 5) % 5 = 0 ∨ (m.tmod 5 + 5) % 5 = 1 ∨ (m.tmod 5 + 5) % 5 = 2 ∨ (m.tmod 5 + 5) % 5 = 3 ∨ (m.tmod 5 + 5) % 5 = 4 := by omega
  rcases h4 with h | h | h | h | h
  · exact ⟨left5 0, by simp, hrel _ h⟩
  · exact ⟨left5 1, by simp, hrel _ h⟩
  · exact ⟨left5 2, by simp, hrel _ h⟩
  · exact ⟨left5 3, by simp, hrel _ h⟩
  · exact ⟨left5 4, by simp, hrel _ h⟩
end Go.Den
