/- Less is told of a block. -/
import Derived.Test.YtekedhfmdpbplaaSyX
set_option linter.unusedSimpArgs false
set_option linter.unusedVariables false
namespace Go.Sy
open Go
/-- Nil in a block, in place of an empty slice of its own. -/
theorem comes_nil_in {P : Program} {g : FuncId} {e : Sh} {args : List AV} {s s' : St} {v : AV} {i : Nat} {pre post : List AV} (hi : s'[i]? = some (.cells (pre ++ .nilSl :: post))) (h : Comes P g args s v s') :
    Comes P g args s v (List.set (s' ++ [Ent.tbl false e []]) i (Ent.cells (pre ++ AV.tsl false e s'.length 0 0 .tight :: post))) := by
  refine ⟨by have := h.1; simp; omega, fun ρ w vargs hv hr => (h.2 ρ w vargs hv hr).mono ?_⟩
  rintro x w' ⟨u, ρ', rfl, hp, hu⟩
  have hq := fork_nil (x := .tbl false e []) hp.inv.hr (hpS_agree s') Kept.self hp.inv.fresh (by simp [Ent.view, flat])
  have hle := hq.ext
  have hz := hp.trans (hq.toC hp.inv h.1)
  refine ⟨u, _, rfl, hz.weak (i := i) (cs := pre ++ .nilSl :: post) ?_ ?_ ?_, Rel.mono hle _ _ hu⟩
  · rw [List.getElem?_append_left (List.getElem?_eq_some_iff.1 hi).1]; exact hi
  · simp
  · clear hi
    induction pre with
    | nil =>
      intro vs hvs
      simp only [List.nil_append, Rels, Rel] at hvs ⊢
      obtain ⟨a, as, rfl, ha, has⟩ := hvs
      refine ⟨a, as, rfl, ⟨0, 0, 0, Rho.put_same _ _ _, .inl ⟨trivial, by simp [Cap.top], rfl, rfl, ha⟩⟩, has⟩
    | cons c pre ih =>
      intro vs hvs
      simp only [List.cons_append, Rels] at hvs ⊢
      obtain ⟨a, as, rfl, ha, has⟩ := hvs
      exact ⟨a, as, rfl, ha, ih as has⟩
end Go.Sy
