/- Less is told of a block. -/
import Derived.Test.YtkfdfenaaidkkaaSyX
set_option linter.unusedSimpArgs false
set_option linter.unusedVariables false
namespace Go.Sy
open Go
/-- Of a block of cells less is told. -/
theorem HR.weak {ρ : Rho} {s : St} {w : World} {i : Nat} {cs cs' : List AV} (hr : HR ρ (hpS s) w) (hi : s[i]? = some (.cells cs)) (hl : cs'.length = cs.length) (h : ∀ vs, Rels ρ cs vs → Rels ρ cs' vs) : HR ρ (hpS (s.set i (.cells cs'))) w := by
  have hil : i < s.length := (List.getElem?_eq_some_iff.1 hi).1
  have key : ∀ j x ro as, hpS (s.set i (.cells cs')) j = some x → x.view = some (ro, as) → ∃ y bs, hpS s j = some y ∧ y.view = some (ro, bs) ∧ (j = i → bs = cs ∧ as = cs') ∧ (j ≠ i → bs = as) := by
    intro j x ro as hx hv
    unfold hpS at hx ⊢
    by_cases e : i = j
    · subst e
      rw [List.getElem?_set_self hil] at hx
      cases hx
      cases hv
      exact ⟨_, cs, hi, rfl, fun _ => ⟨rfl, rfl⟩, fun h => absurd rfl h⟩
    · rw [List.getElem?_set_ne e] at hx
      exact ⟨x, as, hx, hv, fun h => absurd h.symm e, fun _ => rfl⟩
  constructor
  · intro id B o r x ro as h1 h2 h3
    obtain ⟨y, bs, g1, g2, g3, g4⟩ := key _ _ _ _ h2 h3
    have H := hr.cell id B o r y ro bs h1 g1 g2
    by_cases e : id = i
    · obtain ⟨rfl, rfl⟩ := g3 e
      obtain ⟨vs, k1, k2, k3⟩ := H.vals
      exact ⟨by rw [hl]; exact H.fit, H.lt, ⟨vs, h vs k1, k2, k3⟩, H.there, H.free⟩
    · rw [g4 e] at H
      exact H
  · intro a b B o r o' r' x y ro ro' as as' hne h1 h2 h3 h4 h5 h6 h7 h8 h9
    obtain ⟨x', bs, g1, g2, _⟩ := key _ _ _ _ h5 h7
    obtain ⟨y', bs', k1, k2, _⟩ := key _ _ _ _ h6 h8
    exact hr.apart a b B o r o' r' x' y' ro ro' bs bs' hne h1 h2 h3 h4 g1 k1 g2 k2 h9
  · exact hr.fzh
  · intro B o v hv id o' r x as h1 h2 h3 h4
    obtain ⟨y, bs, g1, g2, _⟩ := key _ _ _ _ h3 h4
    exact hr.fza B o v hv id o' r y bs h1 h2 g1 g2
  · intro j hj
    have := hr.ent j hj
    unfold hpS at this ⊢
    by_cases e : i = j
    · subst e; rw [List.getElem?_set_self hil]; simp
    · rw [List.getElem?_set_ne e]; exact this
  · intro x hx
    obtain ⟨h1, h2⟩ := hr.glob x hx
    refine ⟨h1, fun id o r y as k1 k2 k3 k4 => ?_⟩
    obtain ⟨y', bs, g1, g2, _⟩ := key _ _ _ _ k3 k4
    exact h2 id o r y' bs k1 k2 g1 g2
theorem PostC.weak {n : Nat} {ρ ρ' : Rho} {s s' : St} {w w' : World} {i : Nat} {cs cs' : List AV} (hp : PostC n ρ s w ρ' s' w') (hi : s'[i]? = some (.cells cs)) (hl : cs'.length = cs.length) (h : ∀ vs, Rels ρ' cs vs → Rels ρ' cs' vs) : PostC n ρ s w ρ' (s'.set i (.cells cs')) w' := by
  have hil : i < s'.length := (List.getElem?_eq_some_iff.1 hi).1
  have key : ∀ j x ro as, hpS (s'.set i (.cells cs')) j = some x → x.view = some (ro, as) → ∃ y bs, hpS s' j = some y ∧ y.view = some (ro, bs) := by
    intro j x ro as hx hv
    unfold hpS at hx ⊢
    by_cases e : i = j
    · subst e
      rw [List.getElem?_set_self hil] at hx
      cases hx
      cases hv
      exact ⟨_, cs, hi, rfl⟩
    · rw [List.getElem?_set_ne e] at hx
      exact ⟨x, as, hx, hv⟩
  refine ⟨⟨hp.inv.hr.weak hi hl h, fun j hj => hp.inv.dom j (by rwa [List.length_set] at hj)⟩, hp.base, hp.fz, by rw [List.length_set]; exact hp.len, hp.os, hp.tape, hp.output, hp.size, fun B hB hF => ?_, fun B hB hO => ?_, hp.fzn⟩
  · obtain ⟨h1, h2⟩ := hp.frame B hB hF
    refine ⟨h1, fun id o r x as k1 k2 k3 k4 => ?_⟩
    obtain ⟨y, bs, g1, g2⟩ := key _ _ _ _ k3 k4
    exact h2 id o r y bs k1 k2 g1 g2
  · intro id o r x v k1 k2 k3 k4
    obtain ⟨y, bs, g1, g2⟩ := key _ _ v.1 v.2 k3 k4
    exact hp.out B hB hO id o r y _ k1 k2 g1 g2
/-- Nil in a block, in place of an empty slice of its own. -/
theorem comes_nil_in {P : Program} {g : FuncId} {e : Sh} {args : List AV} {s s' : St} {v : AV} {i : Nat} {pre post : List AV} (hi : s'[i]? = some (.cells (pre ++ .nilSl :: post))) (h : Comes P g args s v s') :
    Comes P g args s v (List.set (s' ++ [Ent.tbl false e []]) i (Ent.cells (pre ++ AV.tsl false e s'.length 0 0 .tight :: post))) := by
  refine ⟨by have := h.1; simp; omega, fun ρ w vargs hv hr => (h.2 ρ w vargs hv hr).mono ?_⟩
  rintro x w' ⟨u, ρ', rfl, hp, hu⟩
  have hq := fork_nil (x := .tbl false e []) hp.inv.hr (hpS_agree s') Kept.self hp.inv.fresh (by simp [Ent.view, flat])
  have hle := hq.ext
  have hz := hp.trans (hq.toC hp.inv h.1)
  refine ⟨u, _, rfl, hz.weak (i := i) (cs := pre ++ .nilSl :: post) ?_ ?_ ?_, Rel.mono hle _ _ hu⟩
  · rw [List.getElem?_append_left (List.getElem?_eq_some_iff.1 hi).1]; exact hi
  · simp
  · clear hi
    induction pre with
    | nil =>
      intro vs hvs
      simp only [List.nil_append, Rels, Rel] at hvs ⊢
      obtain ⟨a, as, rfl, ha, has⟩ := hvs
      refine ⟨a, as, rfl, ⟨0, 0, 0, Rho.put_same _ _ _, .inl ⟨trivial, by simp [Cap.top], rfl, rfl, ha⟩⟩, has⟩
    | cons c pre ih =>
      intro vs hvs
      simp only [List.cons_append, Rels] at hvs ⊢
      obtain ⟨a, as, rfl, ha, has⟩ := hvs
      exact ⟨a, as, rfl, ha, ih as has⟩
end Go.Sy
