/- The library's strings.Join, of which the kit's shelf tells what it comes to. -/
import Derived.Test.YtekedhfmdpbplaaSyZ
import Derived.Room.Shelf.Join48
set_option linter.unusedSimpArgs false
set_option linter.unusedVariables false
namespace Go.Sy
open Go Go.Shelf Go.RowKit
theorem postC_below {n : Nat} {ρ : Rho} {s : St} {w w' : World} (hi : InvC ρ s w) (hn : n ≤ s.length) (b : Below w.heap.size w w') : PostC n ρ s w ρ s w' := by
  obtain ⟨b1, b2, b3, b4, b5⟩ := b
  exact ⟨⟨hi.hr.more b4 b5, hi.dom⟩, fun _ _ => rfl, fun _ _ _ e => e, hn, b1, b2, b3, b4, fun B hB hF => ⟨b5 B hB, hF⟩, fun _ _ h => h, fun _ _ _ e => .inl e⟩
/-- Texts put together, another one between each two. -/
def joinL_V (l : List D) (c : List UInt8) : List UInt8 := Go.Lib.join (l.map D.asStr) c
def joinF : Spec := ⟨[.data (.slice .str), .keep], fun args s => match args, s with
  | [.fz false e l, .str c], s => .ok (Sh.beq e .str && (decide (l.length ≤ 1000000) && decide ((joinL_V l c).length ≤ 281474976710656))) (.str (joinL_V l c)) s []
  | _, _ => .fail⟩
theorem join_ok {P : Program} {r : Ren} (L : Go.Proofs.Lays.n156 P r) (X : Go.Proofs.Builder.Extra P r) : SpecOk P (r.f 156) joinF.f := specOk_comes fun args s v s' tch e => by
  simp only [joinF] at e
  split at e
  · rename_i sh l c
    obtain ⟨hg, rfl, rfl, rfl⟩ := run_ok e
    simp only [Bool.and_eq_true, decide_eq_true_eq] at hg
    obtain ⟨hsh, hl, hj⟩ := hg
    obtain rfl := Sh.beq_eq _ _ hsh
    refine ⟨Nat.le_refl _, fun ρ w vargs hi hr => ?_⟩
    simp only [Rels, Rel] at hr
    obtain ⟨v1, vs, rfl, h1, v2, vs, rfl, rfl, rfl⟩ := hr
    have none : ∀ a c0, l = [] → Calls P (r.f 156) #[.slice a 0 c0, .string ⟨c.toArray⟩] w fun e w' => ∃ u ρ', e = .returned u ∧ PostC s'.length ρ s' w ρ' s' w' ∧ Rel ρ' (.str (joinL_V l c)) u := fun a c0 hl0 => by
      refine (Go.Proofs.Any.strings_Join_none L X a c0 ⟨c.toArray⟩ w).mono ?_
      rintro e w' ⟨rfl, rfl⟩
      refine ⟨_, ρ, rfl, postC_below hi (Nat.le_refl _) (Below.refl _ _), ?_⟩
      subst hl0
      simp [Rel, joinL_V, Go.Lib.join]
    rcases h1 with ⟨_, rfl, rfl⟩ | ⟨B, o, cap, rfl, hc, hx⟩ | ⟨rfl, a, c0, rfl⟩
    · exact none _ _ rfl
    · by_cases hl0 : l = []
      · subst hl0; exact none _ _ rfl
      · have cells : ∀ (j : Nat) (d : D), l[j]? = some d → w.cell? ⟨B, o + j, Option.none⟩ = some (.string ⟨d.asStr.toArray⟩) := fun j d hd => by
          obtain ⟨vs, k1, k2⟩ := hx j d hd
          simp only [RelSh] at k1
          subst k1
          have := hi.hr.fzh _ _ _ (k2 0 _ rfl)
          simpa [Sh.size] using this
        have hbk : B < w.heap.size := by
          cases l with
          | nil => exact absurd rfl hl0
          | cons d l => exact cell_lt (cells 0 d rfl)
        have e1 : ((l.map fun d => (⟨d.asStr.toArray⟩ : ByteArray)).map (·.data.toList)) = l.map D.asStr := by simp
        have h := Go.Proofs.Any.strings_Join_48 L X B o cap (l.map fun d => ⟨d.asStr.toArray⟩) ⟨c.toArray⟩ w (fun j x hx => by
          rw [List.getElem?_map, Option.map_eq_some_iff] at hx
          obtain ⟨d, hd, rfl⟩ := hx
          exact cells j d hd) hbk (by simp; omega) (by simpa using hc) (by rw [e1]; exact hj)
        rw [e1, List.length_map] at h
        refine h.mono ?_
        rintro e w' ⟨rfl, hb⟩
        exact ⟨_, ρ, rfl, postC_below hi (Nat.le_refl _) hb, by simp only [Rel]; rfl⟩
    · exact none _ _ rfl
  · cases e
end Go.Sy
