/- A struct of data that is handed in, each field one cell. -/
import Derived.Test.YteoockodkddipaaSyY
set_option linter.unusedSimpArgs false
set_option linter.unusedVariables false
namespace Go.Sy
open Go Go.Deep Go.RowKit
def avF : Sh → D → AV
  | .bool, d => .bool d.asBool
  | .int k, d => .int k d.asInt
  | .str, d => .str d.asStr
  | .slice e, d => .fz false e d.els
  | .struct _, _ => .any
def avFs : List Sh → D → Nat → List AV
  | [], _, _ => []
  | f :: fs, d, i => avF f (d.fld i) :: avFs fs d (i + 1)
def flatS : List Sh → Bool
  | [] => true
  | .struct _ :: _ => false
  | _ :: fs => flatS fs
theorem rels_avFs {ρ : Rho} : ∀ (fs : List Sh) (d : D) (i : Nat) (vs : List Value), flatS fs = true → RelShs ρ.fz fs d i vs → Rels ρ (avFs fs d i) vs
  | [], d, i, vs, hf, h => by
    simp only [RelShs] at h
    subst h
    exact Rels.nil
  | f :: fs, d, i, vs, hf, h => by
    simp only [RelShs] at h
    obtain ⟨a, b, rfl, h1, h2⟩ := h
    cases f with
    | bool =>
      simp only [RelSh] at h1
      subst h1
      exact Rels.cons (by simp only [avF, Rel]) (rels_avFs fs d (i + 1) b (by simpa only [flatS] using hf) h2)
    | int k =>
      simp only [RelSh] at h1
      subst h1
      exact Rels.cons (by simp only [avF, Rel]) (rels_avFs fs d (i + 1) b (by simpa only [flatS] using hf) h2)
    | str =>
      simp only [RelSh] at h1
      subst h1
      exact Rels.cons (by simp only [avF, Rel]) (rels_avFs fs d (i + 1) b (by simpa only [flatS] using hf) h2)
    | slice e =>
      simp only [RelSh] at h1
      obtain ⟨v, rfl, h1⟩ := h1
      exact Rels.cons (by simp only [avF, Rel]; exact h1) (rels_avFs fs d (i + 1) b (by simpa only [flatS] using hf) h2)
    | struct l => simp [flatS] at hf
section
variable {H : Type} {enc : TypeId × Value → H} {P : Program} {w : World} {base : Nat} {spare : Nat → Bool} {held : Bool}
theorem open_aggS {r : Reach} {b0 : Nat} {d : Nat} {t : TypeId} {l : Array Field} {fs : List Sh} {v : Value} {dw : DataW H} {ps : List MemPlace} (hu : P.underlying t = some (.struct l)) (hd : datT P d t (.struct fs) = true) (hf : flatS fs = true) (hv : Value.okWide P w r b0 t v) (h : DataW.Trod enc P w base spare held t v dw ps) :
    ∃ (y : D) (vs : List Value), v = .agg vs.toArray ∧ Rels (rho0 w) (avFs fs y 0) vs ∧ okD (.struct fs) y := by
  obtain ⟨fuel, h⟩ := h
  obtain ⟨cs, rfl, _⟩ := WideShapes.okWide_struct hu hv
  obtain ⟨y, hy, hw⟩ := trod_sh d t (.struct fs) fuel _ _ hd h
  simp only [RelSh] at hy
  refine ⟨y, cs.toList, by simp, ?_, hw⟩
  have hc : RelShs (memF w) fs y 0 cs.toList := by simpa [Value.cells] using hy
  exact rels_avFs (ρ := rho0 w) fs y 0 _ hf hc
end
end Go.Sy
