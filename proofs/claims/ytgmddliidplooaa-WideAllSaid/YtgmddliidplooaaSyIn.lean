/- A slice of numbers that is handed in: its numbers are in range. -/
import Derived.Test.YtgmddliidplooaaSyY
set_option linter.unusedSimpArgs false
set_option linter.unusedVariables false
namespace Go.Sy
open Go Go.Deep Go.RowKit
section
variable {H : Type} {enc : TypeId × Value → H} {P : Program} {w : World} {base : Nat} {spare : Nat → Bool} {held : Bool}
theorem open_fzI {r : Reach} {b0 : Nat} {t te : TypeId} {k : IntKind} {v : Value} {dw : DataW H} {ps : List MemPlace} (hu : P.underlying t = some (.slice te)) (he : P.underlying te = some (.int k)) (hc1 : P.cellsOf te = 1) (hv : Value.okWide P w r b0 t v) (h : DataW.Trod enc P w base spare held t v dw ps) :
    ∃ l : List D, FzR (memF w) (Sh.size (.int k)) (fun d vs => RelSh (memF w) (.int k) d vs) false l v ∧ ∀ d ∈ l, (Lit.int k d.asInt).wf = true := by
  obtain ⟨fuel, h⟩ := h
  obtain ⟨a0, len0, cap0, rfl⟩ := WideShapes.okWide_slice hu hv
  simp only [Value.okWide, hu, Cell.okWide] at hv
  rcases open_slice hu h with ⟨hc, _⟩ | ⟨a, len, cap, m, n, DD, Pl, hc, hb, hl, hm, hmm, hx, hel⟩
  · simp only [Value.cells, List.cons.injEq, and_true] at hc
    exact ⟨[], .inl ⟨rfl, rfl, hc⟩, fun d hd => by simp at hd⟩
  · simp only [Value.cells, List.cons.injEq, and_true] at hc
    rw [hc] at hv ⊢
    simp only [Cell.ok, hu] at hv
    have hsp : a.spot = none := hv.2.2.2.1
    have hml : len ≤ m := by rw [hmm]; split <;> omega
    obtain ⟨Y, hY⟩ := choose_lt (α := D) (n := len) (p := fun i y => ∃ cs', w.cells? base (a.add (i * P.cellsOf te)) (P.cellsOf te) = some cs' ∧ RelSh (memF w) (.int k) y cs' ∧ (Lit.int k y.asInt).wf = true) (fun i hi => by
      obtain ⟨cs', h1, h2⟩ := hel i (by omega)
      obtain ⟨z, rfl, _, hz⟩ := DataW.trod_int he h2
      exact ⟨.int z, [.int k z], h1, by simp [RelSh, D.asInt], hz⟩)
    refine ⟨(List.range len).map Y, .inr ⟨a.block, a.off, cap, ?_, by simpa using hl, fun i y hi => ?_⟩, fun d hd => ?_⟩
    · have : a = ⟨a.block, a.off, none⟩ := by cases a; simp at hsp; simp [hsp]
      simp only [List.length_map, List.length_range]
      rw [← this]
    · have hil : i < len := by
        have := (List.getElem?_eq_some_iff.1 hi).1
        simpa using this
      have hy : y = Y i := by simpa [hil] using hi.symm
      subst hy
      obtain ⟨cs', h1, h2, _⟩ := hY i hil
      obtain ⟨_, hlen, hc⟩ := World.cells?_some h1
      refine ⟨cs', h2, fun j u hj => ?_⟩
      have hjl := (List.getElem?_eq_some_iff.1 hj).1
      have := hc j (by omega)
      rw [hj] at this
      have he : (a.add (i * P.cellsOf te)).add j = ⟨a.block, a.off + i * Sh.size (.int k) + j, none⟩ := by
        rw [add_none hsp, add_none rfl, hc1]
        simp [Sh.size]
      rw [he] at this
      exact this
    · obtain ⟨i, hi, rfl⟩ := List.mem_map.1 hd
      obtain ⟨_, _, _, h3⟩ := hY i (List.mem_range.1 hi)
      exact h3
end
end Go.Sy
