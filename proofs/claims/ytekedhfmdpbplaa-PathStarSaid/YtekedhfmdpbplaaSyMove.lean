/- A table of data gets another number; less is told of whether its slice is nil. -/
import Derived.Test.YtekedhfmdpbplaaSyNil
set_option linter.unusedSimpArgs false
set_option linter.unusedVariables false
namespace Go.Sy
open Go
def moved (s : St) (i b : Nat) (cs : List AV) (sh : Sh) (l : List D) : St := (kill s b ++ [Ent.tbl false sh l]).set i (.cells cs)
theorem comes_move {P : Program} {g : FuncId} {e : Sh} {args rest : List AV} {s s' : St} {v : AV} {i b off n a0 : Nat} {nn : Bool} {c : Cap} {sh : Sh} {l : List D} {pre post : List AV} {L : List Nat}
    (hb : s'[b]? = some (.tbl false sh l)) (hi : s'[i]? = some (.cells (pre ++ .tsl nn e b off n c :: post))) (h0 : args = .ptr (some (0, a0)) :: rest) (hs : 0 < s.length) (hg : groundL s' [0] L = true) (hbL : b ∈ L)
    (h : Comes P g args s v s') : Comes P g args s v (moved s' i b (pre ++ .tsl false e s'.length off n c :: post) sh l) := by
  have hbl : b < s'.length := (List.getElem?_eq_some_iff.1 hb).1
  have hil : i < s'.length := (List.getElem?_eq_some_iff.1 hi).1
  have hne : i ≠ b := fun e => by subst e; rw [hi] at hb; cases hb
  refine ⟨by have := h.1; simp [moved, kill]; omega, fun ρ w vargs hv hr => (h.2 ρ w vargs hv hr).mono ?_⟩
  rintro x w' ⟨u, ρ', rfl, hp, hu⟩
  have hr0 : ρ 0 ≠ none := by
    subst h0
    simp only [Rels, Rel] at hr
    obtain ⟨_, _, _, ⟨B, o, r, h1, _⟩, _⟩ := hr
    rw [h1]; simp
  have hρ0 : ρ' 0 ≠ none := by rw [hp.base 0 hs]; exact hr0
  have hρb : ρ' b ≠ none := ground_real hp.inv.hr (hpS_agree s') L [0] hg (fun c hc => by simp at hc; subst hc; exact hρ0) b hbL
  obtain ⟨⟨B, o, r⟩, hB⟩ : ∃ y, ρ' b = some y := Option.ne_none_iff_exists'.1 hρb
  have H := hp.inv.hr.cell b B o r (.tbl false sh l) false (flat sh l) hB hb rfl
  have hq := (fork_in (P := P) (k := 0) (q := (flat sh l).length) (x := .tbl false sh l) (as := flat sh l) (vs := []) hp.inv.hr (hpS_agree s') hb rfl hB hp.inv.fresh rfl (by simp)
    (fun us hus => by simpa [List.take_of_length_le (Nat.le_of_eq hus.length)] using hus) (fun v hv => by simp at hv) (by simp) (by simpa using H.fit)).2
  have hle := hq.ext
  have hz := hp.trans (hq.toC hp.inv h.1)
  refine ⟨u, _, rfl, hz.weak (i := i) (cs := pre ++ .tsl nn e b off n c :: post) ?_ ?_ ?_, Rel.mono hle _ _ hu⟩
  · rw [List.getElem?_append_left (by simp [kill]; exact hil)]
    unfold kill
    rw [List.getElem?_set_ne (Ne.symm hne)]
    exact hi
  · simp
  · clear hi
    induction pre with
    | nil =>
      intro vs hvs
      simp only [List.nil_append, Rels, Rel] at hvs ⊢
      obtain ⟨a, as, rfl, ⟨B', o', r', k1, k2⟩, has⟩ := hvs
      rw [Rho.put_other _ _ (by omega), hB] at k1
      cases k1
      refine ⟨a, as, rfl, ⟨B, o + 0, r - 0, Rho.put_same _ _ _, ?_⟩, has⟩
      rcases k2 with ⟨_, k2⟩ | k2
      · exact .inl ⟨trivial, by simpa using k2⟩
      · exact .inr (by simpa using k2)
    | cons c pre ih =>
      intro vs hvs
      simp only [List.cons_append, Rels] at hvs ⊢
      obtain ⟨a, as, rfl, ha, has⟩ := hvs
      exact ⟨a, as, rfl, ha, ih as has⟩
/-- Less is told of whether a slice in a block is nil. -/
theorem comes_weak_in {P : Program} {g : FuncId} {e : Sh} {args : List AV} {s s' : St} {v : AV} {i b off n : Nat} {nn : Bool} {c : Cap} {pre post : List AV}
    (hi : s'[i]? = some (.cells (pre ++ .tsl nn e b off n c :: post))) (h : Comes P g args s v s') : Comes P g args s v (s'.set i (.cells (pre ++ .tsl false e b off n c :: post))) := by
  refine ⟨by simpa using h.1, fun ρ w vargs hv hr => (h.2 ρ w vargs hv hr).mono ?_⟩
  rintro x w' ⟨u, ρ', rfl, hp, hu⟩
  refine ⟨u, _, rfl, hp.weak hi (by simp) ?_, hu⟩
  clear hi
  induction pre with
  | nil =>
    intro vs hvs
    simp only [List.nil_append, Rels, Rel] at hvs ⊢
    obtain ⟨a, as, rfl, ⟨B', o', r', k1, k2⟩, has⟩ := hvs
    refine ⟨a, as, rfl, ⟨B', o', r', k1, ?_⟩, has⟩
    rcases k2 with ⟨_, k2⟩ | k2
    · exact .inl ⟨trivial, k2⟩
    · exact .inr k2
  | cons c pre ih =>
    intro vs hvs
    simp only [List.cons_append, Rels] at hvs ⊢
    obtain ⟨a, as, rfl, ha, has⟩ := hvs
    exact ⟨a, as, rfl, ha, ih as has⟩
end Go.Sy
