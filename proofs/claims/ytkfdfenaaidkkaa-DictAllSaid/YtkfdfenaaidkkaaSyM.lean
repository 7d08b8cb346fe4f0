/- Operations in the text's order; told onward. -/
import Derived.Test.YtkfdfenaaidkkaaSyL
set_option linter.unusedSimpArgs false
set_option linter.unusedVariables false
namespace Go.Sy
open Go

section
variable {P : Program} {call : CallS} {ρ : Rho} {h : Hp} {w : World} {s : St} {tmps : List AV} {a : Act}

theorem TR.put (htr : TR ρ tmps a.tmps) {dst : Option Tmp} {v : AV} {u : Value} (hv : Rel ρ v u) : TR ρ (putA tmps dst v) (a.put dst u).tmps := by
  cases dst with
  | none => exact htr
  | some d =>
    refine ⟨by simp [putA, Act.put, htr.1], fun t => ?_⟩
    simp only [putA, Act.put]
    by_cases htd : t = d
    · subst htd
      by_cases hlt : t < tmps.length
      · have hlt' : t < a.tmps.size := by rw [← htr.1]; exact hlt
        refine .inr ?_
        simp [List.getD, Array.getD, hlt, hlt', hv]
      · have hlt' : ¬ t < a.tmps.size := by rw [← htr.1]; exact hlt
        refine .inr ?_
        simp [List.getD, Array.getD, hlt, hlt', rel_undef]
    · have h2 := htr.2 t
      have e1 : (tmps.set d v).getD t undefA = tmps.getD t undefA := by
        simp only [List.getD, List.getElem?_set_ne (fun e => htd e.symm)]
      have e2 : (a.tmps.setIfInBounds d u).getD t undef = a.tmps.getD t undef := by
        rw [Array.getD_eq_getD_getElem?, Array.getD_eq_getD_getElem?, Array.getElem?_setIfInBounds_ne (fun e => htd e.symm)]
      rw [e1, e2]
      exact h2


/-- Whether an operation is carried out, is told by the slots alone. -/
theorem guard_eq (htr : TR ρ tmps a.tmps) {ops : Array Oper} {o : Oper} {q : Gd} (e : guardS ops tmps o = some q) : Region.wanted o (yielded ops a.tmps) = q.goes := by
  unfold Region.wanted
  unfold guardS at e
  cases hgd : o.guard with
  | none => rw [hgd] at e; cases e; rfl
  | some p =>
    obtain ⟨j, want⟩ := p
    rw [hgd] at e
    simp only at e ⊢
    unfold yielded
    cases hj : ops[j]? with
    | none => rw [hj] at e; cases e; simp [Gd.goes]
    | some g =>
      rw [hj] at e
      simp only [Option.bind_some] at e ⊢
      cases hd : g.dst with
      | none => rw [hd] at e; cases e; simp [Gd.goes]
      | some d =>
        rw [hd] at e
        simp only [Option.bind_some] at e ⊢
        have h2 := htr.2 d
        by_cases hlt : d < tmps.length
        · have hlt' : d < a.tmps.size := by rw [← htr.1]; exact hlt
          have e1 : tmps[d]? = some (tmps[d]) := List.getElem?_eq_getElem hlt
          have e2 : a.tmps[d]? = some (a.tmps[d]) := Array.getElem?_eq_getElem hlt'
          have e3 : tmps.getD d undefA = tmps[d] := by simp [List.getD, e1]
          have e4 : a.tmps.getD d undef = a.tmps[d] := by simp [Array.getD, hlt']
          rw [e3, e4] at h2
          rw [e1] at e
          rw [e2]
          generalize tmps[d] = x at h2 e
          generalize a.tmps[d] = y at h2
          rcases h2 with rfl | h2
          · cases e
          · by_cases hx : ∃ b, x = .bool b
            · obtain ⟨b, rfl⟩ := hx
              simp only [Rel] at h2
              subst h2
              cases e
              simp [Gd.goes]
            · have hy : ∀ b, y ≠ .bool b := fun b e => by subst e; exact hx ⟨b, h2.bool_inv⟩
              clear e1 e2 e3 e4
              have hq : q = .never := by
                cases x <;> first | exact absurd ⟨_, rfl⟩ hx | (cases e; rfl) | cases e
              subst hq
              cases y <;> first | rfl | exact absurd rfl (hy _)
        · have hlt' : ¬ d < a.tmps.size := by rw [← htr.1]; exact hlt
          rw [List.getElem?_eq_none (Nat.le_of_not_lt hlt)] at e
          cases e
          rw [Array.getElem?_eq_none (Nat.le_of_not_lt hlt')]
          rfl

/-- What a step of the text's order does. -/
theorem step_put {ops : Array Oper} {i : Nat} {o : Oper} {t t1 : List AV} {s s1 : St} {l : List Note} (e : stepS P call ops i o t s = some (t1, s1, l)) :
    ∃ q, guardS ops t o = some q ∧ ((q.goes = false ∧ t1 = putA t o.dst undefA ∧ s1 = s ∧ l = []) ∨
      (q.goes = true ∧ ∃ v tch, (opS P call t s o.op).run = some (v, s1, tch) ∧ t1 = putA t o.dst v ∧ l = [⟨i, rdOf P t o.op, tch⟩])) := by
  unfold stepS at e
  split at e
  · cases e
  · rename_i q hq
    refine ⟨q, hq, ?_⟩
    split at e
    · rename_i hg; cases e; exact .inl ⟨hg, rfl, rfl, rfl⟩
    · rename_i hg
      split at e
      · rename_i v s2 tch hop; cases e; exact .inr ⟨hg, v, tch, hop, rfl, rfl⟩
      · cases e
theorem step_n (hc : CallOk P call) {ops : Array Oper} {i : Nat} {o : Oper} {t t1 : List AV} {s s1 : St} {l : List Note} (e : stepS P call ops i o t s = some (t1, s1, l)) : s.length ≤ s1.length := by
  obtain ⟨q, _, ⟨_, _, rfl, _⟩ | ⟨_, v, tch, hop, _, _⟩⟩ := step_put e
  · exact Nat.le_refl _
  · exact (op_keeps hc hop).1
theorem ops_n (hc : CallOk P call) {ops : Array Oper} : ∀ (l : List Oper) (i : Nat) (t : List AV) (s : St) (acc : List Note) (t' : List AV) (s' : St) (acc' : List Note), opsF P call ops i l t s acc = some (t', s', acc') → s.length ≤ s'.length
  | [], i, t, s, acc, t', s', acc', e => by simp only [opsF] at e; cases e; exact Nat.le_refl _
  | o :: l, i, t, s, acc, t', s', acc', e => by
    simp only [opsF] at e
    split at e
    · rename_i t1 s1 l1 h1
      exact Nat.le_trans (step_n hc h1) (ops_n hc l _ _ _ _ _ _ _ e)
    · cases e

theorem ops_sound (ok : ProgOk P) (hc : CallOk P call) {ops : Array Oper} {Q : Exit → Act → World → Prop} : ∀ (l : List Oper) (i : Nat) (ρ : Rho) (h : Hp) (w : World) (s : St) (t : List AV) (acc : List Note) (a : Act) (t' : List AV) (s' : St) (acc' : List Note),
    opsF P call ops i l t s acc = some (t', s', acc') → HR ρ h w → Agree s h → TR ρ t a.tmps → Fresh ρ s s' →
    (∀ ρ' w' a', Post ρ h w s ρ' (upd s' h) w' s' → TR ρ' t' a'.tmps → a'.defers = a.defers → Q .normal a' w') → wpList P ops Q l a w
  | [], i, ρ, h, w, s, t, acc, a, t', s', acc', e, hr, ha, htr, hf, hk => by
    simp only [opsF] at e; cases e
    exact hk ρ w a (Post.refl hr ha) htr rfl
  | o :: l, i, ρ, h, w, s, t, acc, a, t', s', acc', e, hr, ha, htr, hf, hk => by
    simp only [opsF] at e
    split at e
    · rename_i t1 s1 l1 h1
      have n2 := ops_n hc l _ _ _ _ _ _ _ e
      obtain ⟨q, hq, hcase⟩ := step_put h1
      refine wpList_step fun K hK => ?_
      rw [guard_eq htr hq]
      rcases hcase with ⟨hg, rfl, rfl, _⟩ | ⟨hg, v, tch, hop, rfl, _⟩
      · rw [hg]
        simp only [Bool.false_eq_true, if_false]
        refine hK _ _ (ops_sound ok hc l _ ρ h w s1 _ _ (a.put o.dst undef) t' s' acc' e hr ha (htr.put (rel_undef ρ)) hf (fun ρ' w' a' hp ht hd => hk ρ' w' a' hp ht ?_))
        rw [hd]; cases o.dst <;> rfl
      · rw [hg]
        simp only [if_true]
        refine op_sound ok hc hr ha htr hop (hf.first n2) (fun ρ1 w1 u hp hv => hK _ _ ?_)
        refine ops_sound ok hc l _ ρ1 (upd s1 h) w1 s1 _ _ (a.put o.dst u) t' s' acc' e hp.hr hp.agree ((htr.mono hp.ext).put hv) (hf.next hp n2) (fun ρ' w' a' hp' ht hd => hk ρ' w' a' ?_ ht ?_)
        · have := hp.trans hp'
          rwa [upd_upd n2] at this
        · rw [hd]; cases o.dst <;> rfl
    · cases e

/- ### told onward -/
theorem RT.K_run {k : AV → St → List Nat → Prop} : ∀ {T : RT}, T.K k → ∃ v s tch, T.run = some (v, s, tch) ∧ k v s tch
  | .fail, h => by simp [RT.K] at h
  | .ok gd v s tch, h => by
    simp only [RT.K] at h
    split at h
    · exact ⟨v, s, tch, rfl, h⟩
    · exact h.elim
  | .br b x y, h => by
    simp only [RT.K] at h
    split at h
    · exact RT.K_run (T := x) h
    · exact RT.K_run (T := y) h
theorem set_slot {t : List AV} {d : Nat} {v : AV} (h : t[d]? = some v) : t.set d v = t := set_same t d v h
theorem guard_slot {ops : Array Oper} {t : List AV} {o : Oper} {d : Tmp} {want b : Bool} (e : guardS ops t o = some (.on d want b)) : t[d]? = some (.bool b) := by
  unfold guardS at e
  split at e
  · cases e
  · split at e
    · split at e
      · split at e
        · rename_i h; cases e; exact h
        · cases e
        · cases e
      · cases e
    · cases e
theorem opsK_run {ops : Array Oper} {k : List AV → St → List Note → Prop} : ∀ (l : List Oper) (i : Nat) (t : List AV) (s : St) (acc : List Note), opsK P call ops i l t s acc k → ∃ t' s' acc', opsF P call ops i l t s acc = some (t', s', acc') ∧ k t' s' acc'
  | [], i, t, s, acc, h => ⟨t, s, acc, rfl, h⟩
  | o :: l, i, t, s, acc, h => by
    simp only [opsK] at h
    have go : ∀ q, guardS ops t o = some q → q.goes = true → (opS P call t s o.op).K (fun v s' tch => opsK P call ops (i + 1) l (putA t o.dst v) s' (⟨i, rdOf P t o.op, tch⟩ :: acc) k) →
        ∃ t' s' acc', opsF P call ops i (o :: l) t s acc = some (t', s', acc') ∧ k t' s' acc' := fun q hq hg hK => by
      obtain ⟨v, s1, tch, hrun, h2⟩ := RT.K_run hK
      obtain ⟨t', s', acc', h3, h4⟩ := opsK_run l _ _ _ _ h2
      refine ⟨t', s', acc', ?_, h4⟩
      simp only [opsF, stepS, hq, hg, hrun]
      exact h3
    have no : ∀ q, guardS ops t o = some q → q.goes = false → opsK P call ops (i + 1) l (putA t o.dst undefA) s acc k →
        ∃ t' s' acc', opsF P call ops i (o :: l) t s acc = some (t', s', acc') ∧ k t' s' acc' := fun q hq hg hK => by
      obtain ⟨t', s', acc', h3, h4⟩ := opsK_run l _ _ _ _ hK
      refine ⟨t', s', acc', ?_, h4⟩
      simp only [opsF, stepS, hq, hg]
      exact h3
    split at h
    · exact h.elim
    · rename_i hq; exact go _ hq rfl h
    · rename_i hq; exact no _ hq rfl h
    · rename_i d want b hq
      have hsl := guard_slot hq
      split at h
      · rw [set_slot hsl] at h
        split at h
        · exact go _ hq rfl h
        · exact no _ hq rfl h
      · rw [set_slot hsl] at h
        split at h
        · exact no _ hq rfl h
        · exact go _ hq rfl h
theorem regionK_run {ops : Array Oper} {draw : Bool} {k : List AV → St → Prop} {t : List AV} (h : regionK P call ops draw t s k) : ∃ t' s', regionF P call ops draw t s = some (t', s') ∧ k t' s' := by
  unfold regionK at h
  obtain ⟨t', s', acc', h1, h2⟩ := opsK_run _ _ _ _ _ h
  refine ⟨t', s', ?_⟩
  unfold regionF
  rw [h1]
  simp only
  split at h2
  · exact ⟨rfl, h2⟩
  · exact h2.elim
end
end Go.Sy
