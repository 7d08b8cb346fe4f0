/- Operations in the text's order. -/
import Derived.Test.YtekedhfmdpbplaaDenL
set_option linter.unusedSimpArgs false
set_option linter.unusedVariables false
namespace Go.Den
open Go

section
variable {P : Program} {call : CallA} {ρ : Rho} {h : Hp} {w : World} {st : St} {tmps : List AV} {a : Act}

theorem TR.put (htr : TR ρ tmps a.tmps) {dst : Option Tmp} {v : AV} {u : Value} (hv : Rel ρ v u) : TR ρ (putA tmps dst v) (a.put dst u).tmps := by
  cases dst with
  | none => exact htr
  | some d =>
    refine ⟨by simp [putA, Act.put, htr.1], fun t => ?_⟩
    simp only [putA, Act.put]
    by_cases htd : t = d
    · subst htd
      by_cases hlt : t < tmps.length
      · have hlt' : t < a.tmps.size := by rw [← htr.1]; exact hlt
        simp [List.getD, Array.getD, hlt, hlt', hv]
      · have hlt' : ¬ t < a.tmps.size := by rw [← htr.1]; exact hlt
        simp [List.getD, Array.getD, hlt, hlt', rel_undef]
    · have h2 := htr.2 t
      have e1 : (tmps.set d v).getD t undefA = tmps.getD t undefA := by
        simp only [List.getD, List.getElem?_set_ne (fun e => htd e.symm)]
      have e2 : (a.tmps.setIfInBounds d u).getD t undef = a.tmps.getD t undef := by
        rw [Array.getD_eq_getD_getElem?, Array.getD_eq_getD_getElem?, Array.getElem?_setIfInBounds_ne (fun e => htd e.symm)]
      rw [e1, e2]
      exact h2

/-- Whether an operation is carried out, is told by the slots alone. -/
theorem guard_eq (htr : TR ρ tmps a.tmps) (ops : Array Oper) (o : Oper) : Region.wanted o (yielded ops a.tmps) = guardA ops tmps o := by
  unfold Region.wanted guardA
  cases hgd : o.guard with
  | none => rfl
  | some p =>
    obtain ⟨j, want⟩ := p
    simp only
    unfold yielded
    cases hj : ops[j]? with
    | none => simp
    | some g =>
      simp only [Option.bind_some]
      cases hd : g.dst with
      | none => simp
      | some d =>
        simp only [Option.bind_some]
        have h2 := htr.2 d
        by_cases hlt : d < tmps.length
        · have hlt' : d < a.tmps.size := by rw [← htr.1]; exact hlt
          have e1 : tmps[d]? = some (tmps[d]) := List.getElem?_eq_getElem hlt
          have e2 : a.tmps[d]? = some (a.tmps[d]) := Array.getElem?_eq_getElem hlt'
          have e3 : tmps.getD d undefA = tmps[d] := by simp [List.getD, e1]
          have e4 : a.tmps.getD d undef = a.tmps[d] := by simp [Array.getD, hlt']
          rw [e3, e4] at h2
          rw [e1, e2]
          generalize tmps[d] = x at h2
          generalize a.tmps[d] = y at h2
          by_cases hx : ∃ b, x = .bool b
          · obtain ⟨b, rfl⟩ := hx
            simp only [Rel] at h2
            subst h2
            simp
          · have hy : ∀ b, y ≠ .bool b := fun b e => by subst e; exact hx ⟨b, h2.bool_inv⟩
            clear h2 e1 e2 e3 e4
            cases x <;> first | exact absurd ⟨_, rfl⟩ hx | (cases y <;> first | rfl | exact absurd rfl (hy _))
        · have hlt' : ¬ d < a.tmps.size := by rw [← htr.1]; exact hlt
          rw [List.getElem?_eq_none (Nat.le_of_not_lt hlt), Array.getElem?_eq_none (Nat.le_of_not_lt hlt')]
          rfl

theorem step_n (hc : CallOk P call) {ops : Array Oper} {o : Oper} {tmps' : List AV} {st' : St} (e : stepA P call ops o tmps st = some (tmps', st')) : st.n ≤ st'.n := by
  unfold stepA at e
  split at e
  · cases e; exact Nat.le_refl _
  · split at e
    · rename_i v st1 hop
      cases e
      exact op_n hc hop
    · cases e
theorem ops_n (hc : CallOk P call) {ops : Array Oper} : ∀ (l : List Oper) (tmps : List AV) (st : St) (tmps' : List AV) (st' : St), opsA P call ops l tmps st = some (tmps', st') → st.n ≤ st'.n
  | [], tmps, st, tmps', st', e => by simp only [opsA] at e; cases e; exact Nat.le_refl _
  | o :: l, tmps, st, tmps', st', e => by
    simp only [opsA] at e
    split at e
    · rename_i t1 s1 h1
      exact Nat.le_trans (step_n hc h1) (ops_n hc l _ _ _ _ e)
    · cases e

theorem ops_sound (ok : ProgOk P) (hc : CallOk P call) {ops : Array Oper} {Q : Exit → Act → World → Prop} : ∀ (l : List Oper) (ρ : Rho) (h : Hp) (w : World) (st : St) (tmps : List AV) (a : Act) (tmps' : List AV) (st' : St),
    opsA P call ops l tmps st = some (tmps', st') → HR ρ h w → Agree st h → TR ρ tmps a.tmps → Fresh ρ h st st' →
    (∀ ρ' w' a', Post ρ h w st ρ' (upd st' h) w' st' → TR ρ' tmps' a'.tmps → a'.defers = a.defers → Q .normal a' w') → wpList P ops Q l a w
  | [], ρ, h, w, st, tmps, a, tmps', st', e, hr, ha, htr, hf, hk => by
    simp only [opsA] at e; cases e
    exact hk ρ w a (by rw [upd_self ha]; exact Post.refl hr ha) htr rfl
  | o :: l, ρ, h, w, st, tmps, a, tmps', st', e, hr, ha, htr, hf, hk => by
    simp only [opsA] at e
    split at e
    · rename_i t1 s1 h1
      have n1 := step_n hc h1
      have n2 := ops_n hc l _ _ _ _ e
      unfold stepA at h1
      refine wpList_step fun K hK => ?_
      rw [guard_eq htr ops o]
      split at h1
      · rename_i hg
        cases h1
        rw [hg]
        simp only [Bool.false_eq_true, if_false]
        refine hK _ _ (ops_sound ok hc l ρ h w st _ (a.put o.dst undef) tmps' st' e hr ha (htr.put (rel_undef ρ)) hf (fun ρ' w' a' hp ht hd => hk ρ' w' a' hp ht ?_))
        rw [hd]; cases o.dst <;> rfl
      · rename_i hg
        rw [hg]
        simp only [if_true]
        split at h1
        · rename_i v st2 hop
          cases h1
          refine op_sound ok hc hr ha htr hop (hf.first n1 n2) (fun ρ1 w1 u hp hv => hK _ _ ?_)
          refine ops_sound ok hc l ρ1 (upd s1 h) w1 s1 _ (a.put o.dst u) tmps' st' e hp.hr hp.agree ((htr.mono hp.ext).put hv) (hf.next hp n2) (fun ρ' w' a' hp' ht hd => hk ρ' w' a' ?_ ht ?_)
          · have := hp.trans hp'
            rwa [show upd st' (upd s1 h) = upd st' h from by
              funext id; unfold upd; split
              · rfl
              · rw [if_neg (by omega)]] at this
          · rw [hd]; cases o.dst <;> rfl
        · cases h1
    · cases e
end

end Go.Den
