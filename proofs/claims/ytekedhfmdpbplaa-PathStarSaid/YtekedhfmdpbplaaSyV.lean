/- An operation of any kind, on the model's side. -/
import Derived.Test.YtekedhfmdpbplaaSyK
import Derived.LoopN
set_option linter.unusedSimpArgs false
set_option linter.unusedVariables false
namespace Go.Sy
open Go

/-- What is asked of the program, once and for all. -/
structure ProgOk (P : Program) : Prop where
  orders : P.follows .mixedOrders = true
  names : ∀ (g : Nat) (fn : Func), P.funcs[g]? = some fn → fn.body ≠ none → (fn.name == "runtime.NumGoroutine") = false
  draws : ∀ (g : Nat) (fn : Func) (c : Code), P.funcs[g]? = some fn → fn.body = some c → drawsOkA P c = true
  ext : ∀ (g : Nat) (fn : Func) (ρ : Rho) (args : List AV) (vargs : List Value) (v : AV), P.funcs[g]? = some fn → fn.body = none → externA fn.name args = some v → externG args = true → Rels ρ args vargs →
    ∀ w, ∃ u, (callFunc g vargs.toArray).run P w = .ok (.value u) w ∧ Rel ρ v u


def Answers (P : Program) (ρ : Rho) (h : Hp) (w : World) (s : St) (v : AV) (s' : St) : Ending → World → Prop :=
  fun e w' => ∃ u ρ', e = .returned u ∧ Post ρ h w s ρ' (upd s' h) w' s' ∧ Rel ρ' v u
structure CallOk (P : Program) (call : CallS) : Prop where
  mono : ∀ g args s v s' tch, (call g args s).run = some (v, s', tch) → s.length ≤ s'.length ∧ ∀ b, b < s.length → b ∉ tch → s'[b]? = s[b]?
  calls : ∀ g args s v s' tch, (call g args s).run = some (v, s', tch) → ∀ (ρ : Rho) (h : Hp) (w : World) (vargs : List Value), HR ρ h w → Agree s h → Fresh ρ s s' → Rels ρ args vargs →
    Calls P g vargs.toArray w (Answers P ρ h w s v s')

section
variable {P : Program} {call : CallS} {ρ : Rho} {h : Hp} {w : World} {s : St} {tmps : List AV} {a : Act}

/- ### what stays -/
theorem freeze_other {b : Nat} : ∀ (fr : List Nat) (s : St), b ∉ fr → (freeze s fr)[b]? = s[b]?
  | [], s, h => rfl
  | c :: cs, s, h => by
    simp only [List.mem_cons, not_or] at h
    simp only [freeze]
    split
    · rw [freeze_other cs _ h.2, List.getElem?_set_ne (fun e => h.1 e.symm)]
    · exact freeze_other cs _ h.2
/-- A step keeps what it doesn't touch. -/
def Keeps (s s' : St) (tch : List Nat) : Prop := s.length ≤ s'.length ∧ ∀ b, b < s.length → b ∉ tch → s'[b]? = s[b]?
theorem Keeps.self {tch : List Nat} : Keeps s s tch := ⟨Nat.le_refl _, fun _ _ _ => rfl⟩
theorem Keeps.app {s0 : St} {x : Ent} {tch : List Nat} (h : Keeps s s0 tch) : Keeps s (s0 ++ [x]) tch := ⟨by rw [List.length_append]; have := h.1; omega, fun b hb ht => by rw [List.getElem?_append_left (by have := h.1; omega)]; exact h.2 b hb ht⟩
theorem Keeps.set {s0 : St} {c : Nat} {x : Ent} {tch : List Nat} (h : Keeps s s0 tch) (hc : c ∈ tch) : Keeps s (s0.set c x) tch := ⟨by rw [List.length_set]; exact h.1, fun b hb ht => by rw [List.getElem?_set_ne (fun e => ht (by rw [← e]; exact hc))]; exact h.2 b hb ht⟩
theorem Keeps.frz {fr tch : List Nat} (h : ∀ b ∈ fr, b ∈ tch) : Keeps s (freeze s fr) tch := ⟨by rw [freeze_length]; exact Nat.le_refl _, fun b _ ht => freeze_other fr s (fun hb => ht (h b hb))⟩
theorem Keeps.frz2 {fr fr' tch : List Nat} (h : ∀ b ∈ fr, b ∈ tch) (h' : ∀ b ∈ fr', b ∈ tch) : Keeps s (freeze (freeze s fr) fr') tch := by
  rw [freeze_append]
  exact Keeps.frz fun b hb => (List.mem_append.1 hb).elim (h b) (h' b)

theorem run_br {b : Bool} {x y : RT} {r : AV × St × List Nat} (e : (RT.br b x y).run = some r) : (b = true ∧ x.run = some r) ∨ (b = false ∧ y.run = some r) := by
  cases b
  · exact .inr ⟨rfl, e⟩
  · exact .inl ⟨rfl, e⟩
theorem store_keeps {t : TypeId} {p v x : AV} {s' : St} {tch : List Nat} (e : (storeS P s t p v).run = some (x, s', tch)) : Keeps s s' tch := by
  unfold storeS at e
  repeat' split at e
  all_goals first
    | (cases e; done)
    | (obtain ⟨_, _, rfl, rfl⟩ := run_ok e; first | exact Keeps.self.set (by simp) | exact (Keeps.frz (fun b hb => by simp [hb])).set (by simp))
theorem append_keeps {t : TypeId} {d x v : AV} {s' : St} {tch : List Nat} (e : (appendS P s t d x).run = some (v, s', tch)) : Keeps s s' tch := by
  unfold appendS at e
  simp only at e
  repeat' split at e
  all_goals first
    | (cases e; done)
    | (obtain ⟨_, _, rfl, rfl⟩ := run_ok e; first
        | exact (Keeps.frz (fun b hb => hb)).app
        | exact ((Keeps.frz (fun b hb => by simp [hb])).set (by simp)).app
        | exact ((Keeps.frz2 (fun b hb => by simp [hb]) (fun b hb => by simp [hb])).set (by simp)).app
        | exact (Keeps.frz (fun b hb => by simp [hb])).set (by simp))
    | skip
  all_goals
    rcases run_br e with ⟨_, e⟩ | ⟨_, e⟩
    · first
        | (cases e; done)
        | (obtain ⟨_, _, rfl, rfl⟩ := run_ok e
           exact (Keeps.frz (fun b hb => by simp [hb])).set (by simp))
    · obtain ⟨_, _, rfl, rfl⟩ := run_ok e
      exact (Keeps.frz (fun b hb => hb)).app
theorem copy_keeps {t : TypeId} {d x v : AV} {s' : St} {tch : List Nat} (e : (copyS P s t d x).run = some (v, s', tch)) : Keeps s s' tch := by
  unfold copyS at e
  repeat' split at e
  all_goals first
    | (cases e; done)
    | (obtain ⟨_, _, rfl, rfl⟩ := run_ok e; first | exact Keeps.self | exact Keeps.self.set (by simp))
theorem clear_keeps {t : TypeId} {x v : AV} {s' : St} {tch : List Nat} (e : (clearS P s t x).run = some (v, s', tch)) : Keeps s s' tch := by
  unfold clearS at e
  repeat' split at e
  all_goals first
    | (cases e; done)
    | (obtain ⟨_, _, rfl, rfl⟩ := run_ok e; first | exact Keeps.self | exact Keeps.self.set (by simp))
theorem eff_keeps (hc : CallOk P call) {o : Op} {v : AV} {s' : St} {tch : List Nat} (e : (effA P call tmps s o).run = some (v, s', tch)) : Keeps s s' tch := by
  unfold effA at e
  split at e
  · split at e
    · exact store_keeps e
    · cases e
  · split at e
    · exact append_keeps e
    · exact append_keeps e
    · cases e
  · split at e
    · exact copy_keeps e
    · cases e
  · split at e
    · exact clear_keeps e
    · cases e
  · split at e
    · split at e
      · split at e
        · exact hc.mono _ _ _ _ _ _ e
        · split at e
          · obtain ⟨_, _, rfl, rfl⟩ := run_ok e; exact Keeps.self
          · cases e
      · cases e
    · cases e
  · cases e
theorem op_keeps (hc : CallOk P call) {o : Op} {v : AV} {s' : St} {tch : List Nat} (e : (opS P call tmps s o).run = some (v, s', tch)) : Keeps s s' tch := by
  unfold opS at e
  split at e
  · split at e
    · obtain ⟨_, _, rfl, rfl⟩ := run_ok e; exact Keeps.self
    · cases e
  · split at e
    · obtain ⟨_, _, rfl, rfl⟩ := run_ok e; exact Keeps.self.app
    · cases e
  · split at e
    · obtain ⟨_, _, rfl, rfl⟩ := run_ok e; exact Keeps.self
    · split at e
      · split at e
        · obtain ⟨_, _, rfl, rfl⟩ := run_ok e; exact Keeps.self
        · cases e
      · cases e
    · cases e
  · exact eff_keeps hc e

theorem eff_sound (ok : ProgOk P) (hc : CallOk P call) (hr : HR ρ h w) (ha : Agree s h) (htr : TR ρ tmps a.tmps) {o : Oper} {v : AV} {s' : St} {tch : List Nat} (e : (effA P call tmps s o.op).run = some (v, s', tch)) (hf : Fresh ρ s s')
    {next : Act → World → Prop} {Q : Exit → Act → World → Prop} (hk : ∀ ρ' w' u, Post ρ h w s ρ' (upd s' h) w' s' → Rel ρ' v u → next (a.put o.dst u) w') : o.wp P a w next Q := by
  obtain ⟨dst, op, type, pos, after, guard⟩ := o
  simp only at e hk
  unfold Oper.wp
  unfold effA at e
  split at e
  · rename_i t p x
    split at e
    · rename_i pv xv hp hx
      obtain ⟨w', ρ', h1, h2, rfl⟩ := store_sound (P := P) hr ha e (ev_sound htr hp) (ev_sound htr hx)
      have : (execOp a.eval { dst := dst, op := .store t p x, type := type, pos := pos, after := after, guard := guard }).run P w = .ok .skip w' := by
        simp [execOp, h1]
      rw [this, Oper.upon_skip]
      exact hk _ _ _ h2 (rel_undef _)
    · cases e
  · rename_i d x t u0
    have key : ∀ (e0 : TypeId) (td : TypeDesc) (sv xv : AV), P.underlying t = some (.slice e0) → P.underlying u0 = some td → (∀ k, td ≠ .int k) → evA tmps d = some sv → evA tmps x = some xv → (appendS P s e0 sv xv).run = some (v, s', tch) →
        Oper.upon P { dst := dst, op := .call { callee := .builtin .append, args := #[d, x], argTypes := #[t, u0] }, type := type, pos := pos, after := after, guard := guard } a next Q
          ((execOp a.eval { dst := dst, op := .call { callee := .builtin .append, args := #[d, x], argTypes := #[t, u0] }, type := type, pos := pos, after := after, guard := guard }).run P w) := by
      intro e0 td sv xv ht hu hd hs hx he
      obtain ⟨r, w', ρ', h1, h2, h3⟩ := append_sound (P := P) (ty := type) hr ha ht hu hd he (ev_sound htr hs) (ev_sound htr hx) hf
      have : (execOp a.eval { dst := dst, op := .call { callee := .builtin .append, args := #[d, x], argTypes := #[t, u0] }, type := type, pos := pos, after := after, guard := guard }).run P w = .ok (.value r) w' := by
        simp [execOp, resolve, invoke, builtin, h1]
      rw [this, Oper.upon_value]
      exact hk _ _ _ h2 h3
    split at e
    · rename_i e0 e1 sv xv ht hu hs hx
      exact key e0 _ sv xv ht hu (fun k => by simp) hs hx e
    · rename_i e0 sv xv ht hu hs hx
      exact key e0 _ sv xv ht hu (fun k => by simp) hs hx e
    · cases e
  · rename_i d x t u0
    split at e
    · rename_i e0 dv sv ht hd hs
      obtain ⟨r, w', h1, h2, h3⟩ := copy_sound (P := P) (u0 := u0) (ty := type) hr ha ht e (ev_sound htr hd) (ev_sound htr hs)
      have : (execOp a.eval { dst := dst, op := .call { callee := .builtin .copy, args := #[d, x], argTypes := #[t, u0] }, type := type, pos := pos, after := after, guard := guard }).run P w = .ok (.value r) w' := by
        simp [execOp, resolve, invoke, builtin, h1]
      rw [this, Oper.upon_value]
      exact hk _ _ _ h2 h3
    · cases e
  · rename_i x t
    split at e
    · rename_i e0 xv ht hx
      obtain ⟨r, w', h1, h2, h3⟩ := clear_sound (P := P) (ty := type) hr ha ht e (ev_sound htr hx)
      have : (execOp a.eval { dst := dst, op := .call { callee := .builtin .clear, args := #[x], argTypes := #[t] }, type := type, pos := pos, after := after, guard := guard }).run P w = .ok (.value r) w' := by
        simp [execOp, resolve, invoke, builtin, h1]
      rw [this, Oper.upon_value]
      exact hk _ _ _ h2 h3
    · cases e
  · rename_i f args ats
    split at e
    · rename_i g first caps l hfv hl
      have hfr := ev_sound htr hfv
      simp only [Rel] at hfr
      obtain ⟨fx, fy, hfe, hr1, hr2⟩ := hfr
      have hargs := evs_sound htr hl
      have hrels : Rels ρ (first ++ l ++ caps) (fx ++ args.toList.map a.eval ++ fy) := (hr1.append hargs).append hr2
      have hres : (execOp a.eval { dst := dst, op := .call { callee := .value f, args := args, argTypes := ats }, type := type, pos := pos, after := after, guard := guard }).run P w =
          (callFunc g (fx ++ args.toList.map a.eval ++ fy).toArray).run P w := by
        have e1 : args.map a.eval = (args.toList.map a.eval).toArray := by apply Array.ext'; simp
        simp only [execOp, resolve, hfe, e1, Deferred.ofValue, Sem.run_bind, Sem.run_pure, Result.andThen_ok, invoke]
        simp
      rw [hres]
      split at e
      · rename_i fn hfn
        split at e
        · rename_i c hbody
          have hname := ok.names g fn hfn (by rw [hbody]; simp)
          have hcf : (callFunc g (fx ++ args.toList.map a.eval ++ fy).toArray).run P w = .ok (.enter g (fx ++ args.toList.map a.eval ++ fy).toArray) w := by
            have hname' : ¬ fn.name = "runtime.NumGoroutine" := by simpa using hname
            simp [callFunc, hfn, hname', hbody]
          rw [hcf, Oper.upon_enter]
          refine (hc.calls g _ s v s' tch e ρ h w _ hr ha hf hrels).mono ?_
          rintro e' w' ⟨u, ρ', rfl, hp, hv⟩
          exact hk ρ' w' u hp hv
        · rename_i hbody
          split at e
          · rename_i v0 hx
            obtain ⟨hg, rfl, rfl, rfl⟩ := run_ok e
            obtain ⟨u, h1, h2⟩ := ok.ext g fn ρ _ _ _ hfn hbody hx hg hrels w
            rw [h1, Oper.upon_value]
            exact hk ρ w u (Post.refl hr ha) h2
          · cases e
      · cases e
    · cases e
  · cases e


theorem op_sound (ok : ProgOk P) (hc : CallOk P call) (hr : HR ρ h w) (ha : Agree s h) (htr : TR ρ tmps a.tmps) {o : Oper} {v : AV} {s' : St} {tch : List Nat} (e : (opS P call tmps s o.op).run = some (v, s', tch)) (hf : Fresh ρ s s')
    {next : Act → World → Prop} {Q : Exit → Act → World → Prop} (hk : ∀ ρ' w' u, Post ρ h w s ρ' (upd s' h) w' s' → Rel ρ' v u → next (a.put o.dst u) w') : o.wp P a w next Q := by
  unfold opS at e
  split at e
  · split at e
    · rename_i g v0 hv
      obtain ⟨rfl, rfl, rfl, rfl⟩ := run_ok e
      obtain ⟨u, h1, h2⟩ := pure_sound (P := P) w htr hv
      unfold Oper.wp
      rw [h1, Oper.upon_value]
      exact hk ρ w u (Post.refl hr ha) h2
    · cases e
  · split at e
    · rename_i g v0 x hv
      obtain ⟨rfl, rfl, rfl, rfl⟩ := run_ok e
      obtain ⟨u, vs, ty, cs, h1, hx, h2, h3⟩ := alloc_real (P := P) w htr hv
      have hP := new_post (ty := ty) (rest := []) hr ha hf hx h2
      simp only [List.append_nil, List.length_nil, Nat.add_zero] at hP
      unfold Oper.wp
      rw [h1, Oper.upon_value]
      exact hk _ _ u hP (h3 _ (Rho.put_same _ _ _))
    · cases e
  · split at e
    · rename_i v0 hv
      obtain ⟨_, rfl, rfl, rfl⟩ := run_ok e
      obtain ⟨u, h1, h2⟩ := rd_val_sound (P := P) hr htr hv
      unfold Oper.wp
      rw [h1, Oper.upon_value]
      exact hk ρ w u (Post.refl hr ha) h2
    · rename_i l mk hv
      split at e
      · rename_i x hx
        split at e
        · rename_i g v0 hrd
          obtain ⟨rfl, rfl, rfl, rfl⟩ := run_ok e
          have hbl := (List.getElem?_eq_some_iff.1 hx).1
          obtain ⟨u, h1, h2⟩ := rd_at_sound (P := P) hr htr hv (by rw [ha _ hbl]; exact hx) hrd
          unfold Oper.wp
          rw [h1, Oper.upon_value]
          exact hk ρ w u (Post.refl hr ha) h2
        · cases e
      · cases e
    · cases e
  · exact eff_sound ok hc hr ha htr e hf hk
end
end Go.Sy

/- Operations in the text's order; told onward. -/
set_option linter.unusedSimpArgs false
set_option linter.unusedVariables false
namespace Go.Sy
open Go

section
variable {P : Program} {call : CallS} {ρ : Rho} {h : Hp} {w : World} {s : St} {tmps : List AV} {a : Act}

theorem TR.put (htr : TR ρ tmps a.tmps) {dst : Option Tmp} {v : AV} {u : Value} (hv : Rel ρ v u) : TR ρ (putA tmps dst v) (a.put dst u).tmps := by
  cases dst with
  | none => exact htr
  | some d =>
    refine ⟨by simp [putA, Act.put, htr.1], fun t => ?_⟩
    simp only [putA, Act.put]
    by_cases htd : t = d
    · subst htd
      by_cases hlt : t < tmps.length
      · have hlt' : t < a.tmps.size := by rw [← htr.1]; exact hlt
        refine .inr ?_
        simp [List.getD, Array.getD, hlt, hlt', hv]
      · have hlt' : ¬ t < a.tmps.size := by rw [← htr.1]; exact hlt
        refine .inr ?_
        simp [List.getD, Array.getD, hlt, hlt', rel_undef]
    · have h2 := htr.2 t
      have e1 : (tmps.set d v).getD t undefA = tmps.getD t undefA := by
        simp only [List.getD, List.getElem?_set_ne (fun e => htd e.symm)]
      have e2 : (a.tmps.setIfInBounds d u).getD t undef = a.tmps.getD t undef := by
        rw [Array.getD_eq_getD_getElem?, Array.getD_eq_getD_getElem?, Array.getElem?_setIfInBounds_ne (fun e => htd e.symm)]
      rw [e1, e2]
      exact h2


/-- Whether an operation is carried out, is told by the slots alone. -/
theorem guard_eq (htr : TR ρ tmps a.tmps) {ops : Array Oper} {o : Oper} {q : Gd} (e : guardS ops tmps o = some q) : Region.wanted o (yielded ops a.tmps) = q.goes := by
  unfold Region.wanted
  unfold guardS at e
  cases hgd : o.guard with
  | none => rw [hgd] at e; cases e; rfl
  | some p =>
    obtain ⟨j, want⟩ := p
    rw [hgd] at e
    simp only at e ⊢
    unfold yielded
    cases hj : ops[j]? with
    | none => rw [hj] at e; cases e; simp [Gd.goes]
    | some g =>
      rw [hj] at e
      simp only [Option.bind_some] at e ⊢
      cases hd : g.dst with
      | none => rw [hd] at e; cases e; simp [Gd.goes]
      | some d =>
        rw [hd] at e
        simp only [Option.bind_some] at e ⊢
        have h2 := htr.2 d
        by_cases hlt : d < tmps.length
        · have hlt' : d < a.tmps.size := by rw [← htr.1]; exact hlt
          have e1 : tmps[d]? = some (tmps[d]) := List.getElem?_eq_getElem hlt
          have e2 : a.tmps[d]? = some (a.tmps[d]) := Array.getElem?_eq_getElem hlt'
          have e3 : tmps.getD d undefA = tmps[d] := by simp [List.getD, e1]
          have e4 : a.tmps.getD d undef = a.tmps[d] := by simp [Array.getD, hlt']
          rw [e3, e4] at h2
          rw [e1] at e
          rw [e2]
          generalize tmps[d] = x at h2 e
          generalize a.tmps[d] = y at h2
          rcases h2 with rfl | h2
          · cases e
          · by_cases hx : ∃ b, x = .bool b
            · obtain ⟨b, rfl⟩ := hx
              simp only [Rel] at h2
              subst h2
              cases e
              simp [Gd.goes]
            · have hy : ∀ b, y ≠ .bool b := fun b e => by subst e; exact hx ⟨b, h2.bool_inv⟩
              clear e1 e2 e3 e4
              have hq : q = .never := by
                cases x <;> first | exact absurd ⟨_, rfl⟩ hx | (cases e; rfl) | cases e
              subst hq
              cases y <;> first | rfl | exact absurd rfl (hy _)
        · have hlt' : ¬ d < a.tmps.size := by rw [← htr.1]; exact hlt
          rw [List.getElem?_eq_none (Nat.le_of_not_lt hlt)] at e
          cases e
          rw [Array.getElem?_eq_none (Nat.le_of_not_lt hlt')]
          rfl

/-- What a step of the text's order does. -/
theorem step_put {ops : Array Oper} {i : Nat} {o : Oper} {t t1 : List AV} {s s1 : St} {l : List Note} (e : stepS P call ops i o t s = some (t1, s1, l)) :
    ∃ q, guardS ops t o = some q ∧ ((q.goes = false ∧ t1 = putA t o.dst undefA ∧ s1 = s ∧ l = []) ∨
      (q.goes = true ∧ ∃ v tch, (opS P call t s o.op).run = some (v, s1, tch) ∧ t1 = putA t o.dst v ∧ l = [⟨i, rdOf P t o.op, tch⟩])) := by
  unfold stepS at e
  split at e
  · cases e
  · rename_i q hq
    refine ⟨q, hq, ?_⟩
    split at e
    · rename_i hg; cases e; exact .inl ⟨hg, rfl, rfl, rfl⟩
    · rename_i hg
      split at e
      · rename_i v s2 tch hop; cases e; exact .inr ⟨hg, v, tch, hop, rfl, rfl⟩
      · cases e
theorem step_n (hc : CallOk P call) {ops : Array Oper} {i : Nat} {o : Oper} {t t1 : List AV} {s s1 : St} {l : List Note} (e : stepS P call ops i o t s = some (t1, s1, l)) : s.length ≤ s1.length := by
  obtain ⟨q, _, ⟨_, _, rfl, _⟩ | ⟨_, v, tch, hop, _, _⟩⟩ := step_put e
  · exact Nat.le_refl _
  · exact (op_keeps hc hop).1
theorem ops_n (hc : CallOk P call) {ops : Array Oper} : ∀ (l : List Oper) (i : Nat) (t : List AV) (s : St) (acc : List Note) (t' : List AV) (s' : St) (acc' : List Note), opsF P call ops i l t s acc = some (t', s', acc') → s.length ≤ s'.length
  | [], i, t, s, acc, t', s', acc', e => by simp only [opsF] at e; cases e; exact Nat.le_refl _
  | o :: l, i, t, s, acc, t', s', acc', e => by
    simp only [opsF] at e
    split at e
    · rename_i t1 s1 l1 h1
      exact Nat.le_trans (step_n hc h1) (ops_n hc l _ _ _ _ _ _ _ e)
    · cases e

theorem ops_sound (ok : ProgOk P) (hc : CallOk P call) {ops : Array Oper} {Q : Exit → Act → World → Prop} : ∀ (l : List Oper) (i : Nat) (ρ : Rho) (h : Hp) (w : World) (s : St) (t : List AV) (acc : List Note) (a : Act) (t' : List AV) (s' : St) (acc' : List Note),
    opsF P call ops i l t s acc = some (t', s', acc') → HR ρ h w → Agree s h → TR ρ t a.tmps → Fresh ρ s s' →
    (∀ ρ' w' a', Post ρ h w s ρ' (upd s' h) w' s' → TR ρ' t' a'.tmps → a'.defers = a.defers → Q .normal a' w') → wpList P ops Q l a w
  | [], i, ρ, h, w, s, t, acc, a, t', s', acc', e, hr, ha, htr, hf, hk => by
    simp only [opsF] at e; cases e
    exact hk ρ w a (Post.refl hr ha) htr rfl
  | o :: l, i, ρ, h, w, s, t, acc, a, t', s', acc', e, hr, ha, htr, hf, hk => by
    simp only [opsF] at e
    split at e
    · rename_i t1 s1 l1 h1
      have n2 := ops_n hc l _ _ _ _ _ _ _ e
      obtain ⟨q, hq, hcase⟩ := step_put h1
      refine wpList_step fun K hK => ?_
      rw [guard_eq htr hq]
      rcases hcase with ⟨hg, rfl, rfl, _⟩ | ⟨hg, v, tch, hop, rfl, _⟩
      · rw [hg]
        simp only [Bool.false_eq_true, if_false]
        refine hK _ _ (ops_sound ok hc l _ ρ h w s1 _ _ (a.put o.dst undef) t' s' acc' e hr ha (htr.put (rel_undef ρ)) hf (fun ρ' w' a' hp ht hd => hk ρ' w' a' hp ht ?_))
        rw [hd]; cases o.dst <;> rfl
      · rw [hg]
        simp only [if_true]
        refine op_sound ok hc hr ha htr hop (hf.first n2) (fun ρ1 w1 u hp hv => hK _ _ ?_)
        refine ops_sound ok hc l _ ρ1 (upd s1 h) w1 s1 _ _ (a.put o.dst u) t' s' acc' e hp.hr hp.agree ((htr.mono hp.ext).put hv) (hf.next hp n2) (fun ρ' w' a' hp' ht hd => hk ρ' w' a' ?_ ht ?_)
        · have := hp.trans hp'
          rwa [upd_upd n2] at this
        · rw [hd]; cases o.dst <;> rfl
    · cases e

/- ### told onward -/
theorem RT.K_run {k : AV → St → List Nat → Prop} : ∀ {T : RT}, T.K k → ∃ v s tch, T.run = some (v, s, tch) ∧ k v s tch
  | .fail, h => by simp [RT.K] at h
  | .ok gd v s tch, h => by
    simp only [RT.K] at h
    split at h
    · exact ⟨v, s, tch, rfl, h⟩
    · exact h.elim
  | .br b x y, h => by
    simp only [RT.K] at h
    split at h
    · exact RT.K_run (T := x) h
    · exact RT.K_run (T := y) h
theorem set_slot {t : List AV} {d : Nat} {v : AV} (h : t[d]? = some v) : t.set d v = t := set_same t d v h
theorem guard_slot {ops : Array Oper} {t : List AV} {o : Oper} {d : Tmp} {want b : Bool} (e : guardS ops t o = some (.on d want b)) : t[d]? = some (.bool b) := by
  unfold guardS at e
  split at e
  · cases e
  · split at e
    · split at e
      · split at e
        · rename_i h; cases e; exact h
        · cases e
        · cases e
      · cases e
    · cases e
theorem opsK_run {ops : Array Oper} {k : List AV → St → List Note → Prop} : ∀ (l : List Oper) (i : Nat) (t : List AV) (s : St) (acc : List Note), opsK P call ops i l t s acc k → ∃ t' s' acc', opsF P call ops i l t s acc = some (t', s', acc') ∧ k t' s' acc'
  | [], i, t, s, acc, h => ⟨t, s, acc, rfl, h⟩
  | o :: l, i, t, s, acc, h => by
    simp only [opsK, fAV1_eq, fEff_eq] at h
    have go : ∀ q, guardS ops t o = some q → q.goes = true → (opS P call t s o.op).K (fun v s' tch => opsK P call ops (i + 1) l (putA t o.dst v) s' (⟨i, rdOf P t o.op, tch⟩ :: acc) k) →
        ∃ t' s' acc', opsF P call ops i (o :: l) t s acc = some (t', s', acc') ∧ k t' s' acc' := fun q hq hg hK => by
      obtain ⟨v, s1, tch, hrun, h2⟩ := RT.K_run hK
      obtain ⟨t', s', acc', h3, h4⟩ := opsK_run l _ _ _ _ h2
      refine ⟨t', s', acc', ?_, h4⟩
      simp only [opsF, stepS, hq, hg, hrun]
      exact h3
    have no : ∀ q, guardS ops t o = some q → q.goes = false → opsK P call ops (i + 1) l (putA t o.dst undefA) s acc k →
        ∃ t' s' acc', opsF P call ops i (o :: l) t s acc = some (t', s', acc') ∧ k t' s' acc' := fun q hq hg hK => by
      obtain ⟨t', s', acc', h3, h4⟩ := opsK_run l _ _ _ _ hK
      refine ⟨t', s', acc', ?_, h4⟩
      simp only [opsF, stepS, hq, hg]
      exact h3
    split at h
    · exact h.elim
    · rename_i hq; exact go _ hq rfl h
    · rename_i hq; exact no _ hq rfl h
    · rename_i d want b hq
      have hsl := guard_slot hq
      split at h
      · rw [set_slot hsl] at h
        split at h
        · exact go _ hq rfl h
        · exact no _ hq rfl h
      · rw [set_slot hsl] at h
        split at h
        · exact no _ hq rfl h
        · exact go _ hq rfl h
theorem regionK_run {ops : Array Oper} {draw : Bool} {k : List AV → St → Prop} {t : List AV} (h : regionK P call ops draw t s k) : ∃ t' s', regionF P call ops draw t s = some (t', s') ∧ k t' s' := by
  unfold regionK at h
  simp only [fTm_eq, fSt_eq] at h
  obtain ⟨t', s', acc', h1, h2⟩ := opsK_run _ _ _ _ _ h
  refine ⟨t', s', ?_⟩
  unfold regionF
  rw [h1]
  simp only
  split at h2
  · exact ⟨rfl, h2⟩
  · exact h2.elim
end
end Go.Sy

/- An operation hangs on its operands alone. The text's order, state by state. -/
set_option linter.unusedSimpArgs false
set_option linter.unusedVariables false
namespace Go.Sy
open Go

section
variable {P : Program} {call : CallS}

theorem evs_congr {t t' : List AV} : ∀ (xs : List Operand), (∀ x ∈ xs, evA t x = evA t' x) → evsA t xs = evsA t' xs
  | [], _ => rfl
  | x :: xs, h => by
    simp only [evsA]
    rw [h x (by simp), evs_congr xs (fun y hy => h y (by simp [hy]))]
theorem evOpt_congr {t t' : List AV} (x : Option Operand) (h : ∀ y, x = some y → evA t y = evA t' y) : evOptA t x = evOptA t' x := by
  cases x with
  | none => rfl
  | some y => simp only [evOptA, h y rfl]
theorem evParts_congr {t t' : List AV} : ∀ (xs : List (Nat × Operand)), (∀ x ∈ xs, evA t x.2 = evA t' x.2) → evPartsA t xs = evPartsA t' xs
  | [], _ => rfl
  | (i, x) :: xs, h => by
    simp only [evPartsA]
    rw [h (i, x) (by simp), evParts_congr xs (fun y hy => h y (by simp [hy]))]

theorem pure_congr {t t' : List AV} {o : Op} (h : ∀ x ∈ o.operands, evA t x = evA t' x) : pureA P t o = pureA P t' o := by
  unfold pureA
  split <;> simp only [Op.operands, Call.operands] at h
  · rw [h _ (by simp)]
  · rw [h _ (by simp)]
  · rw [h _ (by simp : _ ∈ #[_, _, _])]; rename_i c x y; rw [h x (by simp), h y (by simp)]
  · rename_i ty parts; rw [evParts_congr parts.toList (fun x hx => h x.2 (by simp; exact ⟨x.1, by simpa using hx⟩))]
  · rw [h _ (by simp)]
  · rename_i op ty x y yt; rw [h x (by simp), h y (by simp)]
  · rw [h _ (by simp)]
  · rw [h _ (by simp)]
  · rename_i f first captured; rw [evs_congr first.toList (fun x hx => h x (by simp at hx ⊢; exact .inl hx)), evs_congr captured.toList (fun x hx => h x (by simp at hx ⊢; exact .inr hx))]
  · rename_i ty x lo hi
    rw [h x (by simp), evOpt_congr lo (fun y e => h y (by subst e; simp)), evOpt_congr hi (fun y e => h y (by subst e; simp))]
  · rename_i ty x lo hi mx
    rw [h x (by simp), evOpt_congr lo (fun y e => h y (by subst e; simp)), h hi (by simp), h mx (by simp)]
  · rw [h _ (by simp)]
  · rw [h _ (by simp)]
  · rename_i ty x ix; rw [h x (by simp), h ix (by simp)]
  · rename_i ty x ix; rw [h x (by simp), h ix (by simp)]
  · rw [h _ (by simp)]
  · rw [h _ (by simp)]
  · rw [h _ (by simp)]
  · rename_i args _; rw [evs_congr args.toList (fun x hx => h x (by simpa using hx))]
  · rename_i args _; rw [evs_congr args.toList (fun x hx => h x (by simpa using hx))]
  · rfl
theorem alloc_congr {t t' : List AV} {n : Nat} {o : Op} (h : ∀ x ∈ o.operands, evA t x = evA t' x) : allocA P t n o = allocA P t' n o := by
  unfold allocA
  split <;> simp only [Op.operands, Call.operands] at h
  · rfl
  · rw [h _ (by simp)]
  · rename_i ty len parts; rw [evParts_congr parts.toList (fun x hx => h x.2 (by simp; exact ⟨x.1, by simpa using hx⟩))]
  · rename_i ty l c; rw [h l (by simp), h c (by simp)]
  · rfl
theorem read_congr {t t' : List AV} {o : Op} (h : ∀ x ∈ o.operands, evA t x = evA t' x) : readA P t o = readA P t' o := by
  unfold readA
  split <;> simp only [Op.operands, Call.operands] at h
  · rw [h _ (by simp)]
  · rw [h _ (by simp)]
  · rfl
theorem eff_congr {t t' : List AV} {s : St} {o : Op} (h : ∀ x ∈ o.operands, evA t x = evA t' x) : effA P call t s o = effA P call t' s o := by
  unfold effA
  split <;> simp only [Op.operands, Call.operands] at h
  · rename_i ty p x; rw [h p (by simp), h x (by simp)]
  · rename_i s x ty u; rw [h s (by simp), h x (by simp)]
  · rename_i s x ty u; rw [h s (by simp), h x (by simp)]
  · rw [h _ (by simp)]
  · rename_i f args ats; rw [h f (by simp), evs_congr args.toList (fun x hx => h x (by simp at hx ⊢; exact .inr hx))]
  · rfl
theorem op_congr {t t' : List AV} {s : St} {o : Op} (h : ∀ x ∈ o.operands, evA t x = evA t' x) : opS P call t s o = opS P call t' s o := by
  unfold opS
  rw [pure_congr h, alloc_congr h, read_congr h, eff_congr h]

theorem rd_congr {t t' : List AV} {o : Op} (h : ∀ x ∈ o.operands, evA t x = evA t' x) : rdOf P t o = rdOf P t' o := by
  unfold rdOf
  rw [read_congr h]

theorem putA_length (t : List AV) (d : Option Tmp) (v : AV) : (putA t d v).length = t.length := by cases d <;> simp [putA]
theorem putA_other (t : List AV) (d : Option Tmp) (v : AV) (s : Nat) (h : d ≠ some s) : (putA t d v).getD s undefA = t.getD s undefA := by
  cases d with
  | none => rfl
  | some d => simp only [putA, List.getD]; rw [List.getElem?_set_ne (fun e => h (by rw [e]))]
theorem putA_same (t t' : List AV) (d : Tmp) (v : AV) (h : t.length = t'.length) : (putA t (some d) v).getD d undefA = (putA t' (some d) v).getD d undefA := by
  simp only [putA, List.getD]
  by_cases hd : d < t.length
  · have hd' : d < t'.length := by rw [← h]; exact hd
    simp [hd, hd']
  · have hd' : ¬ d < t'.length := by rw [← h]; exact hd
    simp [hd, hd']


/-- What is known of the text's order. -/
structure Text (P : Program) (call : CallS) (ops : Array Oper) (bef : List Nat) (T : Nat → List AV) (S : Nat → St) : Prop where
  step : ∀ (p : Nat) (o : Oper), ops[p]? = some o → ∃ l, stepS P call ops p o (T p) (S p) = some (T (p + 1), S (p + 1), l)
  stable : ∀ (p : Nat) (o : Oper) (q : Gd) (l : Loc) (mk : Made), ops[p]? = some o → isRead P o.op = true → guardS ops (T p) o = some q → q.goes = true → readA P (T p) o.op = some (.at l mk) →
    ∀ (e : Nat) (oe : Oper) (qe : Gd), ops[e]? = some oe → isEff P oe.op = true → guardS ops (T e) oe = some qe → qe.goes = true → ordA bef p e = false → ordA bef e p = false → l.blk < (S e).length → (S (e + 1))[l.blk]? = (S e)[l.blk]?
  pair : ∀ (i j : Nat) (x y : Oper), i < j → ops[i]? = some x → ops[j]? = some y → ordA bef i j = true ∨ (x.apart ops y = true ∧ ¬ (isEff P x.op = true ∧ isEff P y.op = true))
  edges : ∀ (j : Nat) (o : Oper) (e : Edge), ops[j]? = some o → e ∈ o.after.toList → Region.binds .any e = true → e.on < j
  closed : ∀ (L : Nat → Prop), (∀ (j : Nat) (o : Oper) (e : Edge), ops[j]? = some o → L j → e ∈ o.after.toList → Region.binds .any e = true → L e.on) → ∀ i j o, ops[j]? = some o → L j → ordA bef i j = true → L i

variable {ops : Array Oper} {bef : List Nat} {T : Nat → List AV} {S : Nat → St}

theorem Text.does (X : Text P call ops bef T S) {p : Nat} {o : Oper} (ho : ops[p]? = some o) : ∃ q, guardS ops (T p) o = some q ∧ ((q.goes = false ∧ T (p + 1) = putA (T p) o.dst undefA ∧ S (p + 1) = S p) ∨
    (q.goes = true ∧ ∃ v tch, (opS P call (T p) (S p) o.op).run = some (v, S (p + 1), tch) ∧ T (p + 1) = putA (T p) o.dst v)) := by
  obtain ⟨l, e⟩ := X.step p o ho
  obtain ⟨q, hq, ⟨h1, h2, h3, _⟩ | ⟨h1, v, tch, h2, h3, _⟩⟩ := step_put e
  · exact ⟨q, hq, .inl ⟨h1, h2, h3⟩⟩
  · exact ⟨q, hq, .inr ⟨h1, v, tch, h2, h3⟩⟩
theorem Text.n_step (hc : CallOk P call) (X : Text P call ops bef T S) {p : Nat} (hp : p < ops.size) : (S p).length ≤ (S (p + 1)).length := by
  obtain ⟨l, e⟩ := X.step p ops[p] (Array.getElem?_eq_getElem hp)
  exact step_n hc e
theorem Text.n_mono (hc : CallOk P call) (X : Text P call ops bef T S) {p : Nat} : ∀ (q : Nat), q ≤ ops.size → p ≤ q → (S p).length ≤ (S q).length := by
  intro q
  induction q with
  | zero => intro _ h; have : p = 0 := by omega
            subst this; exact Nat.le_refl _
  | succ q ih =>
    intro hq h
    by_cases e : p = q + 1
    · subst e; exact Nat.le_refl _
    · exact Nat.le_trans (ih (by omega) (by omega)) (X.n_step hc (by omega))
theorem Text.length (X : Text P call ops bef T S) : ∀ (q : Nat), q ≤ ops.size → (T q).length = (T 0).length := by
  intro q
  induction q with
  | zero => intro _; rfl
  | succ q ih =>
    intro hq
    obtain ⟨_, _, ⟨_, e1, _⟩ | ⟨_, v, _, _, e1⟩⟩ := X.does (Array.getElem?_eq_getElem (show q < ops.size by omega)) <;> rw [e1, putA_length] <;> exact ih (by omega)
/-- A slot stays as it is where nobody writes it. -/
theorem Text.same (X : Text P call ops bef T S) {t i : Nat} : ∀ (q : Nat), q ≤ ops.size → i ≤ q → (∀ k o, i ≤ k → k < q → ops[k]? = some o → o.dst ≠ some t) → (T q).getD t undefA = (T i).getD t undefA := by
  intro q
  induction q with
  | zero => intro _ h _; have : i = 0 := by omega
            subst this; rfl
  | succ q ih =>
    intro hq h hw
    by_cases e : i = q + 1
    · subst e; rfl
    · have hd := hw q ops[q] (by omega) (by omega) (Array.getElem?_eq_getElem (by omega))
      have h2 := ih (by omega) (by omega) (fun k o h1 h2 => hw k o h1 (by omega))
      obtain ⟨_, _, ⟨_, e1, _⟩ | ⟨_, v, _, _, e1⟩⟩ := X.does (Array.getElem?_eq_getElem (show q < ops.size by omega)) <;> rw [e1, putA_other _ _ _ _ hd] <;> exact h2

/-- Not an effect that is carried out: what is there stays. -/
def Idle (P : Program) (ops : Array Oper) (T : Nat → List AV) (p : Nat) : Prop := ∀ o q, ops[p]? = some o → isEff P o.op = true → guardS ops (T p) o = some q → q.goes = false
theorem clsOf_read {o : Op} (h : clsOf P o = .read) : isRead P o = true ∧ isEff P o = false := by simp [isRead, isEff, h]
theorem Text.idle_step (X : Text P call ops bef T S) {p : Nat} (hp : p < ops.size) (hi : Idle P ops T p) : ∀ id, id < (S p).length → (S (p + 1))[id]? = (S p)[id]? := by
  obtain ⟨q, hq, ⟨_, _, e1⟩ | ⟨hg, v, tch, hop, e1⟩⟩ := X.does (Array.getElem?_eq_getElem hp)
  · rw [e1]; exact fun _ _ => rfl
  · have hne : isEff P ops[p].op ≠ true := fun he => by rw [hi _ q (Array.getElem?_eq_getElem hp) he hq] at hg; cases hg
    unfold opS at hop
    split at hop
    · split at hop
      · obtain ⟨_, _, h, _⟩ := run_ok hop; rw [h]; exact fun _ _ => rfl
      · cases hop
    · split at hop
      · obtain ⟨_, _, h, _⟩ := run_ok hop; rw [h]; exact fun id hid => by rw [List.getElem?_append_left hid]
      · cases hop
    · split at hop
      · obtain ⟨_, _, h, _⟩ := run_ok hop; rw [h]; exact fun _ _ => rfl
      · split at hop
        · split at hop
          · obtain ⟨_, _, h, _⟩ := run_ok hop; rw [h]; exact fun _ _ => rfl
          · cases hop
        · cases hop
      · cases hop
    · rename_i hcls
      exact absurd (by simp [isEff, hcls]) hne
end

end Go.Sy

/- A region in whatever order: the invariant, and one operation of it. -/
set_option linter.unusedSimpArgs false
set_option linter.unusedVariables false
namespace Go.Sy
open Go

/-- The entry that a number is born with. -/
def birth (S : Nat → St) (n : Nat) (h0 : Hp) : Hp := fun id => match (List.range n).find? (fun p => decide (id < (S (p + 1)).length)) with
  | some p => (S (p + 1))[id]?
  | none => h0 id
def hS (S : Nat → St) (n : Nat) (h0 : Hp) (c : Nat) : Hp := fun id => if id < (S c).length then (S c)[id]? else birth S n h0 id

section
variable {P : Program} {call : CallS} {ops : Array Oper} {bef : List Nat} {T : Nat → List AV} {S : Nat → St} {ρ0 : Rho} {h0 : Hp} {w0 : World} {d0 : List Deferred}

theorem birth_eq (hc : CallOk P call) (X : Text P call ops bef T S) {p id : Nat} (hp : p < ops.size) (h1 : (S p).length ≤ id) (h2 : id < (S (p + 1)).length) : birth S ops.size h0 id = (S (p + 1))[id]? := by
  unfold birth
  have hf : (List.range ops.size).find? (fun p => decide (id < (S (p + 1)).length)) = some p := by
    rw [List.find?_range_eq_some]
    refine ⟨by simpa using h2, by simpa using hp, fun j hj => ?_⟩
    have := X.n_mono hc (p := j + 1) p (by omega) (by omega)
    simp; omega
  rw [hf]
theorem birth_far (hc : CallOk P call) (X : Text P call ops bef T S) {id : Nat} (h1 : (S ops.size).length ≤ id) : birth S ops.size h0 id = h0 id := by
  unfold birth
  have hf : (List.range ops.size).find? (fun p => decide (id < (S (p + 1)).length)) = none := by
    rw [List.find?_eq_none]
    intro p hp
    simp at hp
    have := X.n_mono hc (p := p + 1) ops.size (Nat.le_refl _) (by omega)
    simp; omega
  rw [hf]
/-- The operation that a number comes from. -/
theorem owner (hc : CallOk P call) (X : Text P call ops bef T S) {id : Nat} : ∀ q, q ≤ ops.size → (S 0).length ≤ id → id < (S q).length → ∃ p, p < q ∧ (S p).length ≤ id ∧ id < (S (p + 1)).length
  | 0, _, h1, h2 => by omega
  | q + 1, hq, h1, h2 => by
    by_cases h : id < (S q).length
    · obtain ⟨p, a, b, c⟩ := owner hc X q (by omega) h1 h
      exact ⟨p, by omega, b, c⟩
    · exact ⟨q, by omega, by omega, h2⟩
theorem owner_unique (hc : CallOk P call) (X : Text P call ops bef T S) {id p q : Nat} (hp : p < ops.size) (hq : q < ops.size) (h1 : (S p).length ≤ id) (h2 : id < (S (p + 1)).length) (h3 : (S q).length ≤ id) (h4 : id < (S (q + 1)).length) : p = q := by
  rcases Nat.lt_trichotomy p q with h | h | h
  · have := X.n_mono hc (p := p + 1) q (by omega) (by omega); omega
  · exact h
  · have := X.n_mono hc (p := q + 1) p (by omega) (by omega); omega
theorem hS_step (hc : CallOk P call) (X : Text P call ops bef T S) {p : Nat} (hp : p < ops.size) (hi : Idle P ops T p) : hS S ops.size h0 (p + 1) = hS S ops.size h0 p := by
  funext id
  have hm := X.n_step hc hp
  unfold hS
  by_cases h1 : id < (S p).length
  · rw [if_pos h1, if_pos (by omega)]; exact X.idle_step hp hi id h1
  · rw [if_neg h1]
    by_cases h2 : id < (S (p + 1)).length
    · rw [if_pos h2]; exact (birth_eq hc X hp (by omega) h2).symm
    · rw [if_neg h2]

/-- How things stand when the operations in L have been carried out. -/
structure Inv (P : Program) (call : CallS) (ops : Array Oper) (bef : List Nat) (T : Nat → List AV) (S : Nat → St) (ρ0 : Rho) (h0 : Hp) (w0 : World) (d0 : List Deferred)
    (L : Nat → Prop) (ρ : Rho) (c : Nat) (C : List AV) (a : Act) (w : World) : Prop where
  closed : ∀ (j : Nat) (o : Oper) (e : Edge), ops[j]? = some o → L j → e ∈ o.after.toList → Region.binds .any e = true → L e.on
  lt : ∀ j, L j → j < ops.size
  tr : TR ρ C a.tmps
  clen : C.length = (T 0).length
  time : ∀ t : Nat, ∃ i, i ≤ ops.size ∧ C.getD t undefA = (T i).getD t undefA ∧ (i = 0 ∨ ∃ (k : Nat) (o : Oper), i = k + 1 ∧ L k ∧ ops[k]? = some o ∧ o.dst = some t) ∧ ∀ (k : Nat) (o : Oper), L k → ops[k]? = some o → o.dst = some t → k < i
  cn : c ≤ ops.size
  cut : ∀ (e : Nat) (o : Oper), ops[e]? = some o → isEff P o.op = true → (L e ↔ e < c)
  hr : HR ρ (hS S ops.size h0 c) w
  ag : Agree (S c) (hS S ops.size h0 c)
  le : ρ0.le ρ
  dom : ∀ id, ρ id ≠ ρ0 id → ∃ p, L p ∧ (S p).length ≤ id ∧ id < (S (p + 1)).length
  unl : ∀ p, p < c → ¬ L p → ∀ id, (S p).length ≤ id → id < (S (p + 1)).length → (S c)[id]? = (S (p + 1))[id]?
  os : w.os = w0.os
  tape : w.tape = w0.tape
  output : w.output = w0.output
  size : w0.heap.size ≤ w.heap.size
  frame : ∀ B, B < w0.heap.size → Free ρ0 h0 B → w.heap[B]? = w0.heap[B]? ∧ Free ρ (hS S ops.size h0 c) B
  out : ∀ B, B < w0.heap.size → Out ρ0 h0 B → Out ρ (hS S ops.size h0 c) B
  fzn : ∀ B o v, ρ.fz B o = some v → ρ0.fz B o = some v ∨ w0.heap.size ≤ B ∨ ¬ Out ρ0 h0 B
  idle : ∀ id, id < (S 0).length → ρ0 id = none → (S c)[id]? = (S 0)[id]?
  defers : a.defers = d0

variable {L : Nat → Prop} {ρ : Rho} {c : Nat} {C : List AV} {a : Act} {w : World}

theorem Inv.adv (hc : CallOk P call) (X : Text P call ops bef T S) (I : Inv P call ops bef T S ρ0 h0 w0 d0 L ρ c C a w) (hn : c < ops.size) (hE : ∀ o, ops[c]? = some o → isEff P o.op = false) :
    Inv P call ops bef T S ρ0 h0 w0 d0 L ρ (c + 1) C a w := by
  have hi : Idle P ops T c := fun o q ho he _ => by rw [hE o ho] at he; cases he
  have i1 := X.idle_step hn hi
  have hst := hS_step (h0 := h0) hc X hn hi
  have hm := X.n_step hc hn
  have hm0 := X.n_mono hc (p := 0) c (by omega) (by omega)
  refine { I with cn := hn, cut := fun e o ho he => ?_, hr := by rw [hst]; exact I.hr, ag := ?_, unl := fun p hp hL id h1 h2 => ?_, frame := by rw [hst]; exact I.frame, out := by rw [hst]; exact I.out, idle := fun id hid h1 => ?_ }
  · have := I.cut e o ho he
    rw [this]
    constructor
    · intro h; omega
    · intro h
      rcases Nat.lt_or_ge e c with h3 | h3
      · exact h3
      · have : e = c := by omega
        subst this
        rw [hE o ho] at he; cases he
  · intro id hid
    unfold hS
    rw [if_pos hid]
  · by_cases hpc : p = c
    · subst hpc; rfl
    · have hpl := X.n_mono hc (p := p + 1) c (by omega) (by omega)
      rw [i1 id (by omega)]
      exact I.unl p (by omega) hL id h1 h2
  · rw [i1 id (by omega)]
    exact I.idle id hid h1
theorem Inv.advTo (hc : CallOk P call) (X : Text P call ops bef T S) (I : Inv P call ops bef T S ρ0 h0 w0 d0 L ρ c C a w) : ∀ p, c ≤ p → p ≤ ops.size → (∀ (k : Nat) (o : Oper), c ≤ k → k < p → ops[k]? = some o → isEff P o.op = false) →
    Inv P call ops bef T S ρ0 h0 w0 d0 L ρ p C a w := by
  intro p
  induction p with
  | zero => intro h _ _; have : c = 0 := by omega
            subst this; exact I
  | succ p ih =>
    intro h hp hE
    by_cases e : c = p + 1
    · subst e; exact I
    · exact (ih (by omega) (by omega) (fun k o h1 h2 => hE k o h1 (by omega))).adv hc X (by omega) (fun o ho => hE p o (by omega) (by omega) ho)

/-- An operation whose turn has come sees what it sees in the text's order. -/
theorem Inv.sees (X : Text P call ops bef T S) (I : Inv P call ops bef T S ρ0 h0 w0 d0 L ρ c C a w) {p : Nat} {o : Oper} (ho : ops[p]? = some o) (hL : ¬ L p) (hpre : ∀ e, e ∈ o.after.toList → Region.binds .any e = true → L e.on)
    {t : Nat} (ht : t ∈ o.looksAt ops) : C.getD t undefA = (T p).getD t undefA := by
  have hp : p < ops.size := (Array.getElem?_eq_some_iff.1 ho).1
  obtain ⟨i, hi, e1, e2, e3⟩ := I.time t
  have hreach : ∀ k, k < p → ordA bef k p = true → L k := fun k hkp hk => by
    refine X.closed (fun j => L j ∨ j = p) ?_ k p o ho (.inr rfl) hk |>.resolve_right ?_
    · intro j oj e hoj hj he hb
      rcases hj with hj | rfl
      · exact .inl (I.closed j oj e hoj hj he hb)
      · rw [ho] at hoj; cases hoj
        exact .inl (hpre e he hb)
    · omega
  have hlist : ∀ k, L k → ordA bef p k = true → L p := fun k hk hord => by
    have hkn := I.lt k hk
    exact X.closed L I.closed p k ops[k] (Array.getElem?_eq_getElem hkn) hk hord
  rw [e1]
  by_cases hip : i ≤ p
  · refine (X.same p (by omega) hip (fun k ok h1 h2 hok hd => ?_)).symm
    rcases X.pair k p ok o h2 hok ho with h | ⟨h, _⟩
    · have := e3 k ok (hreach k h2 h) hok hd
      omega
    · exact (Oper.apart_spec h).1 t hd ht
  · exfalso
    rcases e2 with h | ⟨k, ok, rfl, hk, hok, hd⟩
    · omega
    · have hkp : k ≠ p := fun e => hL (e ▸ hk)
      rcases X.pair p k o ok (by omega) ho hok with h | ⟨h, _⟩
      · exact hL (hlist k hk h)
      · exact (Oper.apart_spec h).2.2 t hd ht
/-- The invariant's slots behind an operation. -/
theorem Inv.slots (X : Text P call ops bef T S) (I : Inv P call ops bef T S ρ0 h0 w0 d0 L ρ c C a w) {p : Nat} {o : Oper} (ho : ops[p]? = some o) (hL : ¬ L p) {v : AV} (hT : T (p + 1) = putA (T p) o.dst v) :
    ∀ t : Nat, ∃ i, i ≤ ops.size ∧ (putA C o.dst v).getD t undefA = (T i).getD t undefA ∧ (i = 0 ∨ ∃ (k : Nat) (o' : Oper), i = k + 1 ∧ (L k ∨ k = p) ∧ ops[k]? = some o' ∧ o'.dst = some t) ∧
      ∀ (k : Nat) (o' : Oper), (L k ∨ k = p) → ops[k]? = some o' → o'.dst = some t → k < i := by
  intro t
  have hp : p < ops.size := (Array.getElem?_eq_some_iff.1 ho).1
  by_cases hd : o.dst = some t
  · refine ⟨p + 1, hp, ?_, .inr ⟨p, o, rfl, .inr rfl, ho, hd⟩, fun k ok hk hok hdk => ?_⟩
    · rw [hT, hd]
      exact putA_same _ _ _ _ (by rw [I.clen, X.length p (by omega)])
    · rcases hk with hk | rfl
      · rcases Nat.lt_or_ge p k with h | h
        · exfalso
          rcases X.pair p k o ok h ho hok with h1 | ⟨h1, _⟩
          · exact hL (X.closed L I.closed p k ok hok hk h1)
          · exact (Oper.apart_spec h1).2.1 t hd hdk
        · omega
      · omega
  · obtain ⟨i, hi, e1, e2, e3⟩ := I.time t
    refine ⟨i, hi, by rw [putA_other _ _ _ _ hd]; exact e1, e2.imp id (fun ⟨k, ok, a1, a2, a3, a4⟩ => ⟨k, ok, a1, .inl a2, a3, a4⟩), fun k ok hk hok hdk => ?_⟩
    rcases hk with hk | rfl
    · exact e3 k ok hk hok hdk
    · rw [ho] at hok; cases hok; exact absurd hdk hd

theorem Inv.newClosed (I : Inv P call ops bef T S ρ0 h0 w0 d0 L ρ c C a w) {p : Nat} {o : Oper} (ho : ops[p]? = some o) (hpre : ∀ e, e ∈ o.after.toList → Region.binds .any e = true → L e.on) :
    ∀ (j : Nat) (o : Oper) (e : Edge), ops[j]? = some o → (L j ∨ j = p) → e ∈ o.after.toList → Region.binds .any e = true → (L e.on ∨ e.on = p) := by
  intro j oj e hoj hj he hb
  rcases hj with hj | rfl
  · exact .inl (I.closed j oj e hoj hj he hb)
  · rw [ho] at hoj; cases hoj
    exact .inl (hpre e he hb)

/-- Behind an operation that is no effect (or one that is left out): the heap's abstract side is as it was. -/
theorem Inv.quiet (X : Text P call ops bef T S) (I : Inv P call ops bef T S ρ0 h0 w0 d0 L ρ c C a w) {p : Nat} {o : Oper} (ho : ops[p]? = some o) (hL : ¬ L p) (hpre : ∀ e, e ∈ o.after.toList → Region.binds .any e = true → L e.on)
    {v : AV} {u : Value} (hT : T (p + 1) = putA (T p) o.dst v) (hE : isEff P o.op = false) (hv : Rel ρ v u) :
    Inv P call ops bef T S ρ0 h0 w0 d0 (fun k => L k ∨ k = p) ρ c (putA C o.dst v) (a.put o.dst u) w := by
  have hp : p < ops.size := (Array.getElem?_eq_some_iff.1 ho).1
  refine { I with closed := I.newClosed ho hpre, lt := fun j hj => ?_, tr := I.tr.put hv, clen := by rw [putA_length]; exact I.clen, time := I.slots X ho hL hT, cut := fun e oe hoe hee => ?_, dom := fun id hid => ?_, unl := fun q hq hLq id h1 h2 => I.unl q hq (fun h => hLq (.inl h)) id h1 h2, defers := ?_ }
  · rcases hj with hj | rfl
    · exact I.lt j hj
    · exact hp
  · rw [← I.cut e oe hoe hee]
    constructor
    · rintro (h | rfl)
      · exact h
      · rw [ho] at hoe; cases hoe; rw [hE] at hee; cases hee
    · exact .inl
  · obtain ⟨q, h1, h2⟩ := I.dom id hid
    exact ⟨q, .inl h1, h2⟩
  · rw [← I.defers]; cases o.dst <;> rfl
end

end Go.Sy

/- A region in whatever order: effects, new blocks, reads; the law. -/
set_option linter.unusedSimpArgs false
set_option linter.unusedVariables false
namespace Go.Sy
open Go

section
variable {P : Program} {call : CallS} {ops : Array Oper} {bef : List Nat} {T : Nat → List AV} {S : Nat → St} {ρ0 : Rho} {h0 : Hp} {w0 : World} {d0 : List Deferred}
variable {L : Nat → Prop} {ρ : Rho} {c : Nat} {C : List AV} {a : Act} {w : World}

/-- No effect stands between what has been done and an effect whose turn has come. -/
theorem Inv.toEff (hc : CallOk P call) (X : Text P call ops bef T S) (I : Inv P call ops bef T S ρ0 h0 w0 d0 L ρ c C a w) {p : Nat} {o : Oper} (ho : ops[p]? = some o) (hL : ¬ L p) (hpre : ∀ e, e ∈ o.after.toList → Region.binds .any e = true → L e.on)
    (hE : isEff P o.op = true) : Inv P call ops bef T S ρ0 h0 w0 d0 L ρ p C a w := by
  have hp : p < ops.size := (Array.getElem?_eq_some_iff.1 ho).1
  have hcp : c ≤ p := by
    rcases Nat.lt_or_ge p c with h | h
    · exact absurd ((I.cut p o ho hE).2 h) hL
    · exact h
  refine I.advTo hc X p hcp (by omega) (fun k ok h1 h2 hok => ?_)
  cases hk : isEff P ok.op with
  | false => rfl
  | true =>
    exfalso
    rcases X.pair k p ok o h2 hok ho with h | ⟨_, h⟩
    · have hLk : L k := by
        refine X.closed (fun j => L j ∨ j = p) ?_ k p o ho (.inr rfl) h |>.resolve_right (by omega)
        intro j oj e hoj hj he hb
        rcases hj with hj | rfl
        · exact .inl (I.closed j oj e hoj hj he hb)
        · rw [ho] at hoj; cases hoj
          exact .inl (hpre e he hb)
      have := (I.cut k ok hok hk).1 hLk
      omega
    · exact h ⟨hk, hE⟩

/-- Behind an effect. -/
theorem Inv.done (hc : CallOk P call) (X : Text P call ops bef T S) {p : Nat} (I : Inv P call ops bef T S ρ0 h0 w0 d0 L ρ p C a w) {o : Oper} (ho : ops[p]? = some o) (hL : ¬ L p) (hpre : ∀ e, e ∈ o.after.toList → Region.binds .any e = true → L e.on)
    {v : AV} {u : Value} (hT : T (p + 1) = putA (T p) o.dst v) {ρ' : Rho} {w' : World} (hp : Post ρ (hS S ops.size h0 p) w (S p) ρ' (upd (S (p + 1)) (hS S ops.size h0 p)) w' (S (p + 1))) (hv : Rel ρ' v u) (hf : Fresh ρ0 (S 0) (S ops.size)) :
    Inv P call ops bef T S ρ0 h0 w0 d0 (fun k => L k ∨ k = p) ρ' (p + 1) (putA C o.dst v) (a.put o.dst u) w' := by
  have hpn : p < ops.size := (Array.getElem?_eq_some_iff.1 ho).1
  have hm := X.n_step hc hpn
  have hm0 := X.n_mono hc (p := 0) p (by omega) (by omega)
  have hupd : upd (S (p + 1)) (hS S ops.size h0 p) = hS S ops.size h0 (p + 1) := by
    funext id
    unfold upd hS
    by_cases h1 : id < (S (p + 1)).length
    · rw [if_pos h1, if_pos h1]
    · rw [if_neg h1, if_neg h1, if_neg (by omega)]
  have hq := hp
  rw [hupd] at hq
  refine ⟨I.newClosed ho hpre, fun j hj => ?_, (I.tr.mono hp.ext).put hv, by rw [putA_length]; exact I.clen, I.slots X ho hL hT, hpn, fun e oe hoe hee => ?_, hq.hr, hq.agree, I.le.trans hp.ext, fun id hid => ?_, fun q hq' hLq id h1 h2 => ?_,
    hp.os.trans I.os, hp.tape.trans I.tape, hp.output.trans I.output, Nat.le_trans I.size hp.size, fun B hB hfr => ?_, fun B hB hfr => hq.out B (Nat.lt_of_lt_of_le hB I.size) (I.out B hB hfr), fun B o v e => ?_, fun id hid h1 => ?_, ?_⟩
  · rcases hj with hj | rfl
    · exact I.lt j hj
    · exact hpn
  · have := I.cut e oe hoe hee
    constructor
    · rintro (h | rfl)
      · have := this.1 h; omega
      · omega
    · intro h
      rcases Nat.lt_or_ge e p with h1 | h1
      · exact .inl (this.2 h1)
      · exact .inr (by omega)
  · by_cases e : ρ' id = ρ id
    · obtain ⟨q, h1, h2⟩ := I.dom id (by rw [← e]; exact hid)
      exact ⟨q, .inl h1, h2⟩
    · exact ⟨p, .inr rfl, hp.new id e⟩
  · have hqp : q < p := by
      rcases Nat.lt_or_ge q p with h | h
      · exact h
      · exact absurd (.inr (by omega)) hLq
    have hLq' : ¬ L q := fun h => hLq (.inl h)
    have hqm := X.n_mono hc (p := q + 1) p (by omega) (by omega)
    have hq0 := X.n_mono hc (p := 0) q (by omega) (by omega)
    have hqe := X.n_mono hc (p := q + 1) ops.size (Nat.le_refl _) (by omega)
    have hu := I.unl q hqp hLq' id h1 h2
    have hρid : ρ id = none := by
      have hρ0 : ρ0 id = none := hf id (by omega) (by omega)
      by_cases e : ρ id = ρ0 id
      · rw [e]; exact hρ0
      · exfalso
        obtain ⟨q', a1, a2, a3⟩ := I.dom id e
        have := owner_unique hc X (I.lt q' a1) (by omega) a2 a3 h1 h2
        subst this
        exact hLq' a1
    rw [← hu]
    exact hp.idle id (by omega) hρid
  · obtain ⟨e1, f1⟩ := I.frame B hB hfr
    obtain ⟨e2, f2⟩ := hq.frame B (Nat.lt_of_lt_of_le hB I.size) f1
    exact ⟨e2.trans e1, f2⟩
  · rcases hp.fzn B o v e with e | e | e
    · exact I.fzn B o v e
    · exact .inr (.inl (Nat.le_trans I.size e))
    · rcases Nat.lt_or_ge B w0.heap.size with hB | hB
      · exact .inr (.inr (fun hf' => e (I.out B hB hf')))
      · exact .inr (.inl hB)
  · have e1 := I.idle id hid h1
    have hρid : ρ id = none := by
      by_cases e : ρ id = ρ0 id
      · rw [e]; exact h1
      · exfalso
        obtain ⟨q', a1, a2, a3⟩ := I.dom id e
        have := X.n_mono hc (p := 0) q' (by have := I.lt q' a1; omega) (by omega)
        omega
    rw [← e1]
    exact hp.idle id (by omega) hρid
  · rw [← I.defers]; cases o.dst <;> rfl

/-- Of an effect that is left out. -/
theorem Inv.left (hc : CallOk P call) (X : Text P call ops bef T S) {p : Nat} (I : Inv P call ops bef T S ρ0 h0 w0 d0 L ρ p C a w) {o : Oper} (ho : ops[p]? = some o) (hL : ¬ L p) (hpre : ∀ e, e ∈ o.after.toList → Region.binds .any e = true → L e.on)
    (hT : T (p + 1) = putA (T p) o.dst undefA) (hS' : S (p + 1) = S p) (hf : Fresh ρ0 (S 0) (S ops.size)) :
    Inv P call ops bef T S ρ0 h0 w0 d0 (fun k => L k ∨ k = p) ρ (p + 1) (putA C o.dst undefA) (a.put o.dst undef) w := by
  refine I.done hc X ho hL hpre hT ?_ (rel_undef ρ) hf
  rw [hS']
  exact Post.refl I.hr I.ag

/-- A new real block that a new number (or one that has waited for it) stands for. -/
theorem alloc_HR {ρ : Rho} {h : Hp} {w : World} (hr : HR ρ h w) {id : Nat} {x : Ent} {cs : List AV} {vs : List Value} {e : TypeId} (hid : ρ id = none) (hh : h id = some x) (hx : x.view = some (false, cs)) (hrel : Rels ρ cs vs) :
    HR (ρ.put id (w.heap.size, 0, vs.length)) h (w.alloc (.cells vs.toArray e)) := by
  have hle : ρ.le (ρ.put id (w.heap.size, 0, vs.length)) := Rho.put_le (.inl hid)
  have hfzh : ∀ (B o : Nat) (v : Value), (ρ.put id (w.heap.size, 0, vs.length)).fz B o = some v → (w.alloc (.cells vs.toArray e)).cell? ⟨B, o, none⟩ = some v := fun B o v ev => by
    have hc := hr.fzh B o v ev
    rw [World.cell?_of_block (w := w)]
    · exact hc
    · exact heap_alloc_old w _ _ (cell_lt hc)
  have H0 : Holds (ρ.put id (w.heap.size, 0, vs.length)) (w.alloc (.cells vs.toArray e)) w.heap.size 0 vs.length false cs := by
    have := Holds.fresh (w := w) (rest := []) (e := e) (Rels.mono hle _ _ hrel)
    simpa using this
  refine ⟨?_, ?_, hfzh, ?_, ?_, hr.globs fun B hB hF => ⟨heap_alloc_old w _ _ hB, fun i o r y c h1 h2 h3 h4 => ?_⟩⟩
  · intro i B o r y ro c h1 h2 h3
    by_cases hi : i = id
    · subst hi
      rw [Rho.put_same] at h1; cases h1
      rw [hh] at h2; cases h2
      rw [hx] at h3; cases h3
      exact H0
    · rw [Rho.put_other _ _ hi] at h1
      have hc := hr.cell i B o r y ro c h1 h2 h3
      refine hc.move hle (by simp) ?_ hfzh
      by_cases h0 : r = 0
      · exact .inl h0
      · exact .inr (heap_alloc_old w _ _ (hc.lt h0))
  · intro i j B o r o' r' y z ro ro' c c' hij h1 h2 h3 h4 h5 h6 h7 h8 h9
    by_cases hi : i = id
    · subst hi
      rw [Rho.put_same] at h1; cases h1
      rw [Rho.put_other _ _ (fun e => hij e.symm)] at h2
      have := (hr.cell j _ _ _ _ _ _ h2 h6 h8).lt h4
      omega
    · rw [Rho.put_other _ _ hi] at h1
      by_cases hj : j = id
      · subst hj
        rw [Rho.put_same] at h2; cases h2
        have := (hr.cell i _ _ _ _ _ _ h1 h5 h7).lt h3
        omega
      · rw [Rho.put_other _ _ hj] at h2
        exact hr.apart i j B o r o' r' y z ro ro' c c' hij h1 h2 h3 h4 h5 h6 h7 h8 h9
  · intro B o v ev i o' r y c h1 h2 h3 h4
    have ev' : ρ.fz B o = some v := ev
    by_cases hi : i = id
    · subst hi
      rw [Rho.put_same] at h1; cases h1
      have := cell_lt (hr.fzh _ _ _ ev')
      omega
    · rw [Rho.put_other _ _ hi] at h1
      exact hr.fza B o v ev' i o' r y c h1 h2 h3 h4
  · intro i hi
    by_cases hii : i = id
    · subst hii; rw [hh]; simp
    · rw [Rho.put_other _ _ hii] at hi; exact hr.ent i hi
  · by_cases hi : i = id
    · subst hi
      rw [Rho.put_same] at h1; cases h1
      omega
    · rw [Rho.put_other _ _ hi] at h1
      exact hF i o r y c h1 h2 h3 h4

/-- A new block, early or late. -/
theorem Inv.made (hc : CallOk P call) (X : Text P call ops bef T S) (I : Inv P call ops bef T S ρ0 h0 w0 d0 L ρ c C a w) {p : Nat} {o : Oper} (ho : ops[p]? = some o) (hL : ¬ L p) (hpre : ∀ e, e ∈ o.after.toList → Region.binds .any e = true → L e.on)
    {v : AV} {x : Ent} {cs : List AV} {u : Value} {vs : List Value} {ty : TypeId} (hT : T (p + 1) = putA (T p) o.dst v) (hSp : S (p + 1) = S p ++ [x]) (hx : x.view = some (false, cs)) (hE : isEff P o.op = false) (hrel : Rels ρ cs vs) (hf : Fresh ρ0 (S 0) (S ops.size))
    (hv : ∀ ρ' : Rho, ρ' (S p).length = some (w.heap.size, 0, vs.length) → Rel ρ' v u) :
    ∃ ρ', Inv P call ops bef T S ρ0 h0 w0 d0 (fun k => L k ∨ k = p) ρ' c (putA C o.dst v) (a.put o.dst u) (w.alloc (.cells vs.toArray ty)) := by
  have hp : p < ops.size := (Array.getElem?_eq_some_iff.1 ho).1
  have hn1 : (S (p + 1)).length = (S p).length + 1 := by rw [hSp]; simp
  have hget : (S (p + 1))[(S p).length]? = some x := by rw [hSp]; simp
  have hm0 := X.n_mono hc (p := 0) p (by omega) (by omega)
  have hme := X.n_mono hc (p := p + 1) ops.size (Nat.le_refl _) (by omega)
  have hρ0 : ρ0 (S p).length = none := hf _ hm0 (by omega)
  have hρn : ρ (S p).length = none := by
    by_cases e : ρ (S p).length = ρ0 (S p).length
    · rw [e]; exact hρ0
    · exfalso
      obtain ⟨q, a1, a2, a3⟩ := I.dom _ e
      have := owner_unique hc X (I.lt q a1) hp a2 a3 (Nat.le_refl _) (by omega)
      subst this
      exact hL a1
  have hhS : hS S ops.size h0 c (S p).length = some x := by
    unfold hS
    split
    · rename_i hlt
      have hpc : p < c := by
        rcases Nat.lt_or_ge p c with h | h
        · exact h
        · have := X.n_mono hc (p := c) p (by omega) h; omega
      rw [I.unl p hpc hL _ (Nat.le_refl _) (by omega), hget]
    · rw [birth_eq hc X hp (Nat.le_refl _) (by omega), hget]
  have hA := alloc_HR I.hr (id := (S p).length) (e := ty) hρn hhS hx hrel
  obtain ⟨ρ', hρ'⟩ : ∃ ρ' : Rho, ρ' = ρ.put (S p).length (w.heap.size, 0, vs.length) := ⟨_, rfl⟩
  rw [← hρ'] at hA
  have hnew : ρ' (S p).length = some (w.heap.size, 0, vs.length) := by rw [hρ']; exact Rho.put_same _ _ _
  have hold : ∀ i, i ≠ (S p).length → ρ' i = ρ i := fun i hi => by rw [hρ']; exact Rho.put_other _ _ hi
  have hle : ρ.le ρ' := by rw [hρ']; exact Rho.put_le (.inl hρn)
  refine ⟨ρ', { I with closed := I.newClosed ho hpre, lt := fun j hj => ?_, tr := (I.tr.mono hle).put (hv ρ' hnew), clen := by rw [putA_length]; exact I.clen, time := I.slots X ho hL hT, cut := fun e oe hoe hee => ?_, hr := hA, le := I.le.trans hle, dom := fun id hid => ?_, unl := fun q hq hLq id h1 h2 => I.unl q hq (fun h => hLq (.inl h)) id h1 h2, os := I.os, tape := I.tape, output := I.output, size := Nat.le_trans I.size (by simp), frame := ?_, out := ?_, fzn := fun B o v e => I.fzn B o v (by rw [hρ'] at e; exact e), defers := ?_ }⟩
  · rcases hj with hj | rfl
    · exact I.lt j hj
    · exact hp
  · rw [← I.cut e oe hoe hee]
    constructor
    · rintro (h | rfl)
      · exact h
      · rw [ho] at hoe; cases hoe; rw [hE] at hee; cases hee
    · exact .inl
  · by_cases hi : id = (S p).length
    · exact ⟨p, .inr rfl, by omega, by omega⟩
    · obtain ⟨q, h1, h2⟩ := I.dom id (by rw [← hold id hi]; exact hid)
      exact ⟨q, .inl h1, h2⟩
  · intro B hB hfr
    obtain ⟨e1, f1⟩ := I.frame B hB hfr
    have hBw : B < w.heap.size := Nat.lt_of_lt_of_le hB I.size
    refine ⟨(heap_alloc_old w _ _ hBw).trans e1, fun id o' r' y c' e h1 h2 h3 => ?_⟩
    by_cases hi : id = (S p).length
    · subst hi
      rw [hnew] at e
      simp only [Option.some.injEq, Prod.mk.injEq] at e
      omega
    · rw [hold id hi] at e
      exact f1 id o' r' y c' e h1 h2 h3
  · intro B hB hfr id o' r' y v' e h1 h2 h3
    have hBw : B < w.heap.size := Nat.lt_of_lt_of_le hB I.size
    by_cases hi : id = (S p).length
    · subst hi
      rw [hnew] at e
      simp only [Option.some.injEq, Prod.mk.injEq] at e
      omega
    · rw [hold id hi] at e
      exact I.out B hB hfr id o' r' y v' e h1 h2 h3
  · rw [← I.defers]; cases o.dst <;> rfl

/-- What is ordered before, stands before. -/
theorem Text.ord_lt (X : Text P call ops bef T S) {i j : Nat} {o : Oper} (ho : ops[j]? = some o) (h : ordA bef i j = true) : i ≤ j :=
  X.closed (fun k => k ≤ j) (fun k ok e hok hk he hb => by have := X.edges k ok e hok he hb; omega) i j o ho (Nat.le_refl _) h

/-- What a read reads, whenever it is carried out. -/
theorem Inv.reads (hc : CallOk P call) (X : Text P call ops bef T S) (I : Inv P call ops bef T S ρ0 h0 w0 d0 L ρ c C a w) {p : Nat} {o : Oper} {q : Gd} {l : Loc} {mk : Made} {x : Ent} (ho : ops[p]? = some o) (hL : ¬ L p) (hpre : ∀ e, e ∈ o.after.toList → Region.binds .any e = true → L e.on)
    (hR : isRead P o.op = true) (hq : guardS ops (T p) o = some q) (hg : q.goes = true) (hread : readA P (T p) o.op = some (.at l mk)) (hl : (S p)[l.blk]? = some x) : hS S ops.size h0 c l.blk = some x := by
  have hp : p < ops.size := (Array.getElem?_eq_some_iff.1 ho).1
  have hE : isEff P o.op = false := by
    unfold isRead at hR; unfold isEff
    split at hR <;> rename_i hcl
    · rw [hcl]
    · cases hR
  have hst := X.stable p o q l mk ho hR hq hg hread
  have hlt : l.blk < (S p).length := (List.getElem?_eq_some_iff.1 hl).1
  have hpreL : ∀ e, e < p → ordA bef e p = true → L e := fun e hlt hord => by
    refine X.closed (fun j => L j ∨ j = p) ?_ e p o ho (.inr rfl) hord |>.resolve_right (by omega)
    intro j oj ed hoj hj he hb
    rcases hj with hj | rfl
    · exact .inl (I.closed j oj ed hoj hj he hb)
    · rw [ho] at hoj; cases hoj
      exact .inl (hpre ed he hb)
  -- a step that is not in order with it
  have one : ∀ k, k < ops.size → k ≠ p → (p < k → L k) → (k < p → ¬ L k) → l.blk < (S k).length → (∀ ok qk, ops[k]? = some ok → isEff P ok.op = true → guardS ops (T k) ok = some qk → qk.goes = true → (p < k → L k) ∧ (k < p → ¬ L k)) → (S (k + 1))[l.blk]? = (S k)[l.blk]? := by
    intro k hk hkp h1 h2 hb _
    by_cases hi : Idle P ops T k
    · exact X.idle_step hk hi _ hb
    · have : ∃ ok qk, ops[k]? = some ok ∧ isEff P ok.op = true ∧ guardS ops (T k) ok = some qk ∧ qk.goes = true := by
        unfold Idle at hi
        rw [Classical.not_forall] at hi
        obtain ⟨ok, hi⟩ := hi
        rw [Classical.not_forall] at hi
        obtain ⟨qk, hi⟩ := hi
        rw [Classical.not_imp] at hi
        obtain ⟨a1, hi⟩ := hi
        rw [Classical.not_imp] at hi
        obtain ⟨a2, hi⟩ := hi
        rw [Classical.not_imp] at hi
        obtain ⟨a3, hi⟩ := hi
        exact ⟨ok, qk, a1, a2, a3, by simpa using hi⟩
      obtain ⟨ok, qk, a1, a2, a3, a4⟩ := this
      refine hst k ok qk a1 a2 a3 a4 ?_ ?_ hb
      · cases hh : ordA bef p k with
        | false => rfl
        | true =>
          have := X.ord_lt a1 hh
          have hLk := h1 (by omega)
          exact absurd (X.closed L I.closed p k ok a1 hLk hh) hL
      · cases hh : ordA bef k p with
        | false => rfl
        | true =>
          have := X.ord_lt ho hh
          exact absurd (hpreL k (by omega) hh) (h2 (by omega))
  rcases Nat.lt_or_ge p c with hpc | hpc
  · -- effects behind it in the text have been carried out
    have walk : ∀ k, p ≤ k → k ≤ c → (S k)[l.blk]? = some x := by
      intro k
      induction k with
      | zero => intro h _; have : p = 0 := by omega
                subst this; exact hl
      | succ k ih =>
        intro h hk
        by_cases e : p = k + 1
        · rw [← e]; exact hl
        · have hprev := ih (by omega) (by omega)
          have hkn : k < ops.size := by have := I.cn; omega
          have hb : l.blk < (S k).length := (List.getElem?_eq_some_iff.1 hprev).1
          by_cases hkp : k = p
          · subst hkp
            have hidle : Idle P ops T k := fun o' q' ho' he _ => by rw [ho] at ho'; cases ho'; rw [hE] at he; cases he
            rw [X.idle_step hkn hidle _ hb]; exact hprev
          · by_cases hi : Idle P ops T k
            · rw [X.idle_step hkn hi _ hb]; exact hprev
            · have hLk : L k := by
                unfold Idle at hi
                rw [Classical.not_forall] at hi
                obtain ⟨ok, hi⟩ := hi
                rw [Classical.not_forall] at hi
                obtain ⟨qk, hi⟩ := hi
                rw [Classical.not_imp] at hi
                obtain ⟨a1, hi⟩ := hi
                rw [Classical.not_imp] at hi
                exact (I.cut k ok a1 hi.1).2 (by omega)
              rw [one k hkn hkp (fun _ => hLk) (fun hlt => by omega) hb (fun _ _ _ _ _ _ => ⟨fun _ => hLk, fun hlt => by omega⟩)]
              exact hprev
    have := walk c (by omega) (Nat.le_refl _)
    unfold hS
    rw [if_pos (List.getElem?_eq_some_iff.1 this).1]
    exact this
  · -- effects ahead of it in the text have not
    have hnL : ∀ k, c ≤ k → k < p → ¬ Idle P ops T k → ¬ L k := fun k h1 h2 hi hLk => by
      unfold Idle at hi
      rw [Classical.not_forall] at hi
      obtain ⟨ok, hi⟩ := hi
      rw [Classical.not_forall] at hi
      obtain ⟨qk, hi⟩ := hi
      rw [Classical.not_imp] at hi
      obtain ⟨a1, hi⟩ := hi
      rw [Classical.not_imp] at hi
      have := (I.cut k ok a1 hi.1).1 hLk
      omega
    have walk : ∀ d k, k + d = p → c ≤ k → l.blk < (S k).length → (S k)[l.blk]? = some x := by
      intro d
      induction d with
      | zero => intro k h1 _ _; have : k = p := by omega
                subst this; exact hl
      | succ d ih =>
        intro k h1 h2 hb
        have hkn : k < ops.size := by omega
        have hm := X.n_step hc hkn
        have hnext := ih (k + 1) (by omega) (by omega) (by omega)
        rw [← hnext]
        by_cases hi : Idle P ops T k
        · exact (X.idle_step hkn hi _ hb).symm
        · exact (one k hkn (by omega) (fun h => by omega) (fun _ => hnL k h2 (by omega) hi) hb (fun _ _ _ _ _ _ => ⟨fun h => by omega, fun _ => hnL k h2 (by omega) hi⟩)).symm
    rcases Nat.lt_or_ge l.blk (S c).length with hb | hb
    · unfold hS
      rw [if_pos hb]
      exact walk (p - c) c (by omega) (Nat.le_refl _) hb
    · -- born in between
      unfold hS
      rw [if_neg (by omega)]
      have hm0 := X.n_mono hc (p := 0) c I.cn (by omega)
      obtain ⟨r, r1, r2, r3⟩ := owner hc X p (by omega) (by omega) hlt
      have hcr : c ≤ r := by
        rcases Nat.lt_or_ge r c with h | h
        · have := X.n_mono hc (p := r + 1) c I.cn (by omega); omega
        · exact h
      rw [birth_eq hc X (by omega) r2 r3]
      exact walk (p - (r + 1)) (r + 1) (by omega) (by omega) r3
end

end Go.Sy

/- A region in whatever order: the law. -/
set_option linter.unusedSimpArgs false
set_option linter.unusedVariables false
namespace Go.Sy
open Go

theorem countP_less {p q : Nat → Bool} (h : ∀ k, q k = true → p k = true) {a : Nat} (hp : p a = true) (hq : q a = false) : ∀ (l : List Nat), a ∈ l → l.countP q < l.countP p
  | [], ha => by cases ha
  | x :: l, ha => by
    have hle : ∀ (l : List Nat), l.countP q ≤ l.countP p := fun l => by
      induction l with
      | nil => exact Nat.le_refl _
      | cons y l ih =>
        rw [List.countP_cons, List.countP_cons]
        cases hqy : q y with
        | false => simp; omega
        | true => rw [h y hqy]; simp; omega
    rw [List.countP_cons, List.countP_cons]
    rcases List.mem_cons.1 ha with rfl | ha
    · have := hle l
      rw [hp, hq]; simp; omega
    · have := countP_less h hp hq l ha
      cases hqx : q x with
      | false => simp; omega
      | true => rw [h x hqx]; simp; omega

section
variable {P : Program} {call : CallS} {ops : Array Oper} {bef : List Nat} {T : Nat → List AV} {S : Nat → St} {ρ0 : Rho} {h0 : Hp} {w0 : World} {d0 : List Deferred}
variable {L : Nat → Prop} {ρ : Rho} {c : Nat} {C : List AV} {a : Act} {w : World}

theorem mem_looks {o : Oper} {t : Tmp} (h : .tmp t ∈ o.op.operands) : t ∈ o.looksAt ops := by
  unfold Oper.looksAt
  refine List.mem_append_left _ ?_
  rw [List.mem_filterMap]
  exact ⟨.tmp t, Array.mem_toList_iff.2 h, rfl⟩
theorem Inv.evs (X : Text P call ops bef T S) (I : Inv P call ops bef T S ρ0 h0 w0 d0 L ρ c C a w) {p : Nat} {o : Oper} (ho : ops[p]? = some o) (hL : ¬ L p) (hpre : ∀ e, e ∈ o.after.toList → Region.binds .any e = true → L e.on) :
    ∀ x, x ∈ o.op.operands → evA C x = evA (T p) x := fun x hx => by
  cases x with
  | tmp t => simp only [evA]; rw [I.sees X ho hL hpre (mem_looks hx)]
  | _ => rfl
theorem Inv.guards (X : Text P call ops bef T S) (I : Inv P call ops bef T S ρ0 h0 w0 d0 L ρ c C a w) {p : Nat} {o : Oper} (ho : ops[p]? = some o) (hL : ¬ L p) (hpre : ∀ e, e ∈ o.after.toList → Region.binds .any e = true → L e.on) :
    guardS ops C o = guardS ops (T p) o := by
  have hp : p < ops.size := (Array.getElem?_eq_some_iff.1 ho).1
  unfold guardS
  cases hgd : o.guard with
  | none => rfl
  | some q =>
    obtain ⟨j, want⟩ := q
    simp only
    cases hj : ops[j]? with
    | none => rfl
    | some g =>
      simp only
      cases hd : g.dst with
      | none => rfl
      | some d =>
        simp only
        have ht : d ∈ o.looksAt ops := by
          unfold Oper.looksAt
          refine List.mem_append_right _ ?_
          simp [hgd, hj, hd]
        have h1 := I.sees X ho hL hpre ht
        have hlen : C.length = (T p).length := by rw [I.clen, X.length p (by omega)]
        simp only [List.getD] at h1
        by_cases hlt : d < C.length
        · have hlt' : d < (T p).length := by rw [← hlen]; exact hlt
          rw [List.getElem?_eq_getElem hlt, List.getElem?_eq_getElem hlt'] at h1 ⊢
          simp only [Option.getD_some] at h1
          rw [h1]
        · have hlt' : ¬ d < (T p).length := by rw [← hlen]; exact hlt
          rw [List.getElem?_eq_none (Nat.le_of_not_lt hlt), List.getElem?_eq_none (Nat.le_of_not_lt hlt')]

/-- One operation whose turn has come. -/
theorem Inv.exec (ok : ProgOk P) (hc : CallOk P call) (X : Text P call ops bef T S) (hf : Fresh ρ0 (S 0) (S ops.size)) (I : Inv P call ops bef T S ρ0 h0 w0 d0 L ρ c C a w) {p : Nat} {o : Oper} (ho : ops[p]? = some o) (hL : ¬ L p)
    (hpre : ∀ e, e ∈ o.after.toList → Region.binds .any e = true → L e.on) {K : Act → World → Prop} {Q : Exit → Act → World → Prop}
    (hK : ∀ ρ' c' C' a' w', Inv P call ops bef T S ρ0 h0 w0 d0 (fun k => L k ∨ k = p) ρ' c' C' a' w' → K a' w') : wpOp P ops Q p K a w := by
  have hp : p < ops.size := (Array.getElem?_eq_some_iff.1 ho).1
  have hgs := I.guards X ho hL hpre
  have hev := I.evs X ho hL hpre
  obtain ⟨q, hq, hcase⟩ := X.does ho
  unfold wpOp
  simp only [ho]
  rw [guard_eq I.tr (hgs.trans hq)]
  rcases hcase with ⟨e0, e1, e2⟩ | ⟨e0, v, tch, hop, e1⟩
  · rw [e0]
    simp only [Bool.false_eq_true, if_false]
    cases hE : isEff P o.op with
    | false => exact hK _ _ _ _ _ (I.quiet X ho hL hpre e1 hE (rel_undef ρ))
    | true => exact hK _ _ _ _ _ ((I.toEff hc X ho hL hpre hE).left hc X ho hL hpre e1 e2 hf)
  · rw [e0]
    simp only [if_true]
    refine .inl ?_
    cases hE : isEff P o.op with
    | true =>
      have I' := I.toEff hc X ho hL hpre hE
      rw [← op_congr hev] at hop
      have hfp : Fresh ρ (S p) (S (p + 1)) := by
        have hm0 := X.n_mono hc (p := 0) p (by omega) (by omega)
        have hme := X.n_mono hc (p := p + 1) ops.size (Nat.le_refl _) (by omega)
        intro id h1 h2
        have hρ0 : ρ0 id = none := hf id (by omega) (by omega)
        by_cases e : ρ id = ρ0 id
        · rw [e]; exact hρ0
        · exfalso
          obtain ⟨q, a1, a2, a3⟩ := I'.dom id e
          have := owner_unique hc X (I'.lt q a1) hp a2 a3 h1 h2
          subst this
          exact hL a1
      refine op_sound ok hc I'.hr I'.ag I'.tr hop hfp (fun ρ' w' u hpst hv => hK _ _ _ _ _ (I'.done hc X ho hL hpre e1 hpst hv hf))
    | false =>
      have hop' := hop
      unfold opS at hop
      split at hop
      · rename_i hcl
        split at hop
        · rename_i g v0 hv
          obtain ⟨rfl, rfl, hS', _⟩ := run_ok hop
          rw [← pure_congr hev] at hv
          obtain ⟨u, h1, h2⟩ := pure_sound (P := P) w I.tr hv
          unfold Oper.wp
          rw [h1, Oper.upon_value]
          exact hK _ _ _ _ _ (I.quiet X ho hL hpre e1 hE h2)
        · cases hop
      · rename_i hcl
        split at hop
        · rename_i g v0 x hv
          obtain ⟨rfl, rfl, hS', _⟩ := run_ok hop
          rw [← alloc_congr hev] at hv
          obtain ⟨u, vs, ty, cs, h1, hx, h2, h3⟩ := alloc_real (P := P) w I.tr hv
          unfold Oper.wp
          rw [h1, Oper.upon_value]
          obtain ⟨ρ', I'⟩ := I.made hc X ho hL hpre (ty := ty) e1 hS' hx hE h2 hf h3
          exact hK _ _ _ _ _ I'
        · cases hop
      · rename_i hcl
        have hR : isRead P o.op = true := by simp [isRead, hcl]
        split at hop
        · rename_i v0 hv
          obtain ⟨_, rfl, hS', _⟩ := run_ok hop
          rw [← read_congr hev] at hv
          obtain ⟨u, h1, h2⟩ := rd_val_sound (P := P) I.hr I.tr hv
          unfold Oper.wp
          rw [h1, Oper.upon_value]
          exact hK _ _ _ _ _ (I.quiet X ho hL hpre e1 hE h2)
        · rename_i l mk hv
          split at hop
          · rename_i x hx
            split at hop
            · rename_i g v0 hm
              obtain ⟨rfl, rfl, hS', _⟩ := run_ok hop
              have hb := I.reads hc X ho hL hpre hR hq e0 hv hx
              rw [← read_congr hev] at hv
              obtain ⟨u, h1, h2⟩ := rd_at_sound (P := P) I.hr I.tr hv hb hm
              unfold Oper.wp
              rw [h1, Oper.upon_value]
              exact hK _ _ _ _ _ (I.quiet X ho hL hpre e1 hE h2)
            · cases hop
          · cases hop
        · cases hop
      · rename_i hcl
        simp [isEff, hcl] at hE

theorem Inv.congr {L' : Nat → Prop} (I : Inv P call ops bef T S ρ0 h0 w0 d0 L ρ c C a w) (h : ∀ k, L k ↔ L' k) : Inv P call ops bef T S ρ0 h0 w0 d0 L' ρ c C a w := by
  have : L = L' := funext fun k => propext (h k)
  subst this; exact I

/-- All of them. -/
theorem any_sound (ok : ProgOk P) (hc : CallOk P call) (X : Text P call ops bef T S) (hf : Fresh ρ0 (S 0) (S ops.size)) {Q : Exit → Act → World → Prop}
    (hQ : ∀ (L : Nat → Prop) ρ c C a w, (∀ k, k < ops.size → L k) → Inv P call ops bef T S ρ0 h0 w0 d0 L ρ c C a w → Q .normal a w) :
    ∀ (fuel : Nat) (listed : Array Bool) (ρ : Rho) (c : Nat) (C : List AV) (a : Act) (w : World), listed.size = ops.size → Inv P call ops bef T S ρ0 h0 w0 d0 (fun k => listed.getD k false = true) ρ c C a w →
      (List.range ops.size).countP (fun k => !listed.getD k false) ≤ fuel → wpAny P .any ops Q fuel listed a w := by
  have hdone : ∀ (listed : Array Bool), listed.size = ops.size → (∀ (j : Nat) (o : Oper) (e : Edge), ops[j]? = some o → e ∈ o.after.toList → Region.binds .any e = true → e.on < j) → Region.ready .any ops listed = [] → ∀ k, k < ops.size → listed.getD k false = true := by
    intro listed hsz hedge hr k
    induction k using Nat.strongRecOn with
    | _ k ih =>
      intro hk
      cases hl : listed.getD k false with
      | true => rfl
      | false =>
        exfalso
        have hm : k ∈ Region.ready .any ops listed := by
          unfold Region.ready
          rw [List.mem_filter]
          refine ⟨by simpa using hk, ?_⟩
          have h1 : listed.getD k true = false := by
            rw [Array.getD_eq_getD_getElem?] at hl ⊢
            rw [Array.getElem?_eq_getElem (by omega)] at hl ⊢
            simpa using hl
          have h2 : ops[k]? = some ops[k] := Array.getElem?_eq_getElem hk
          rw [h1, h2]
          simp only [Bool.not_false, Bool.true_and, Option.map_some, Option.getD_some]
          rw [Array.all_eq_true_iff_forall_mem]
          intro e he
          simp only [Bool.or_eq_true, Bool.not_eq_true']
          cases hb : Region.binds .any e with
          | false => exact .inl rfl
          | true =>
            have := hedge k ops[k] e h2 (Array.mem_toList_iff.2 he) hb
            exact .inr (ih e.on this (by omega))
        rw [hr] at hm
        cases hm
  intro fuel
  induction fuel with
  | zero =>
    intro listed ρ c C a w hsz I hcount
    have hall : ∀ k, k < ops.size → listed.getD k false = true := fun k hk => by
      have : (List.range ops.size).countP (fun k => !listed.getD k false) = 0 := by omega
      rw [List.countP_eq_zero] at this
      have := this k (by simpa using hk)
      simpa using this
    refine ⟨?_, hQ _ ρ c C a w hall I⟩
    unfold Region.ready
    rw [List.filter_eq_nil_iff]
    intro k hk
    simp at hk
    have h := hall k hk
    have h1 : listed.getD k true = true := by
      rw [Array.getD_eq_getD_getElem?] at h ⊢
      rw [Array.getElem?_eq_getElem (by omega)] at h ⊢
      simpa using h
    simp [h1]
  | succ fuel ih =>
    intro listed ρ c C a w hsz I hcount
    refine ⟨fun hr => hQ _ ρ c C a w (hdone listed hsz X.edges hr) I, fun i hi => ?_⟩
    unfold Region.ready at hi
    rw [List.mem_filter] at hi
    obtain ⟨hin, hi⟩ := hi
    simp at hin
    rw [Bool.and_eq_true] at hi
    obtain ⟨h1, h2⟩ := hi
    have hlt : i < listed.size := by omega
    have hLi : ¬ listed.getD i false = true := by
      rw [Array.getD_eq_getD_getElem?] at h1 ⊢
      rw [Array.getElem?_eq_getElem hlt] at h1 ⊢
      simpa using h1
    have ho : ops[i]? = some ops[i] := Array.getElem?_eq_getElem hin
    rw [ho] at h2
    simp only [Option.map_some, Option.getD_some] at h2
    rw [Array.all_eq_true_iff_forall_mem] at h2
    refine I.exec ok hc X hf ho hLi (fun e he hb => ?_) (fun ρ' c' C' a' w' I' => ?_)
    · have := h2 e (Array.mem_toList_iff.1 he)
      rw [hb] at this
      simpa using this
    · have hset : ∀ k, (listed.setIfInBounds i true).getD k false = true ↔ (listed.getD k false = true ∨ k = i) := fun k => by
        rw [Array.getD_eq_getD_getElem?, Array.getD_eq_getD_getElem?]
        by_cases hk : k = i
        · subst hk; simp [hlt]
        · rw [Array.getElem?_setIfInBounds_ne (fun e => hk e.symm)]
          simp [hk]
      refine ih _ ρ' c' C' a' w' (by simpa using hsz) (I'.congr (fun k => (hset k).symm)) ?_
      have hless : (List.range ops.size).countP (fun k => !(listed.setIfInBounds i true).getD k false) < (List.range ops.size).countP (fun k => !listed.getD k false) := by
        refine countP_less (fun k hk => ?_) (a := i) (by simpa using hLi) (by rw [(hset i).2 (.inr rfl)]; rfl) _ (by simpa using hin)
        simp only [Bool.not_eq_true'] at hk ⊢
        cases hh : listed.getD k false with
        | false => rfl
        | true => rw [(hset k).2 (.inl hh)] at hk; cases hk
      omega
end

end Go.Sy

/- Regions: the symbolic machine is right. -/
set_option linter.unusedSimpArgs false
set_option linter.unusedVariables false
namespace Go.Sy
open Go

theorem HR.congr {ρ : Rho} {h h' : Hp} {w : World} (hr : HR ρ h w) (e1 : ∀ i, ρ i ≠ none → h' i = h i) : HR ρ h' w where
  cell := fun id B o r x ro cs h1 h2 => hr.cell id B o r x ro cs h1 (by rw [← e1 id (by rw [h1]; simp)]; exact h2)
  apart := fun i j B o r o' r' x y ro ro' cs cs' hij h1 h2 h3 h4 h5 h6 => hr.apart i j B o r o' r' x y ro ro' cs cs' hij h1 h2 h3 h4 (by rw [← e1 i (by rw [h1]; simp)]; exact h5) (by rw [← e1 j (by rw [h2]; simp)]; exact h6)
  fzh := hr.fzh
  fza := fun B o v e id o' r x cs h1 h2 h3 => hr.fza B o v e id o' r x cs h1 h2 (by rw [← e1 id (by rw [h1]; simp)]; exact h3)
  ent := fun i hi => by rw [e1 i hi]; exact hr.ent i hi
  glob := hr.globs fun B _ hF => ⟨rfl, fun id o r x cs h1 h2 h3 => hF id o r x cs h1 h2 (by rw [← e1 id (by rw [h1]; simp)]; exact h3)⟩

section
variable {P : Program} {call : CallS}

/-- A sequence of operations, as a trace, with what is noted. -/
theorem ops_trace {ops : Array Oper} : ∀ (os : List Oper) (i0 : Nat) (t : List AV) (s : St) (acc : List Note) (t' : List AV) (s' : St) (acc' : List Note), opsF P call ops i0 os t s acc = some (t', s', acc') →
    (∀ x ∈ acc, x ∈ acc') ∧ ∃ (f : Nat → List AV × St) (ns : Nat → List Note), f 0 = (t, s) ∧ (∀ (p : Nat) (o : Oper), os[p]? = some o → stepS P call ops (i0 + p) o (f p).1 (f p).2 = some ((f (p + 1)).1, (f (p + 1)).2, ns p) ∧ ∀ x ∈ ns p, x ∈ acc') ∧ f os.length = (t', s')
  | [], i0, t, s, acc, t', s', acc', e => by
    simp only [opsF] at e; cases e
    exact ⟨fun x hx => hx, fun _ => (t, s), fun _ => [], rfl, fun p o h => by simp at h, rfl⟩
  | o :: os, i0, t, s, acc, t', s', acc', e => by
    simp only [opsF] at e
    split at e
    · rename_i t1 s1 l hst
      obtain ⟨g0, f, ns, f0, f1, f2⟩ := ops_trace os _ t1 s1 _ t' s' acc' e
      refine ⟨fun x hx => g0 x (List.mem_append_right _ hx), fun p => match p with | 0 => (t, s) | p + 1 => f p, fun p => match p with | 0 => l | p + 1 => ns p, rfl, fun p o' h => ?_, by simpa using f2⟩
      cases p with
      | zero => simp at h; subst h; simp only [Nat.add_zero]; rw [hst, f0]; exact ⟨rfl, fun x hx => g0 x (List.mem_append_left _ hx)⟩
      | succ p =>
        simp at h
        have := f1 p o' h
        rwa [show i0 + 1 + p = i0 + (p + 1) by omega] at this
    · cases e

theorem bits_spec (acc : List Nat) (i : Nat) : ∀ (es : List Edge), (bitsA acc es).testBit i = true → ∃ e, e ∈ es ∧ Region.binds .any e = true ∧ (i = e.on ∨ (acc.getD e.on 0).testBit i = true)
  | [], h => by simp [bitsA] at h
  | e :: es, h => by
    simp only [bitsA] at h
    split at h
    · rename_i hb
      rw [Nat.testBit_or, Nat.testBit_or, Nat.testBit_two_pow, Bool.or_eq_true, Bool.or_eq_true] at h
      rcases h with (h | h) | h
      · obtain ⟨e', h1, h2, h3⟩ := bits_spec acc i es h
        exact ⟨e', List.mem_cons_of_mem _ h1, h2, h3⟩
      · exact ⟨e, by simp, hb, .inl (by simp at h; exact h.symm)⟩
      · exact ⟨e, by simp, hb, .inr h⟩
    · obtain ⟨e', h1, h2, h3⟩ := bits_spec acc i es h
      exact ⟨e', List.mem_cons_of_mem _ h1, h2, h3⟩
theorem bef_spec : ∀ (os : List Oper) (acc : List Nat), ∃ rest, befA acc os = acc ++ rest ∧ rest.length = os.length ∧ ∀ (p : Nat) (o : Oper), os[p]? = some o → rest[p]? = some (bitsA (acc ++ rest.take p) o.after.toList)
  | [], acc => ⟨[], by simp [befA], rfl, fun p o h => by simp at h⟩
  | o :: os, acc => by
    obtain ⟨rest, h1, h2, h3⟩ := bef_spec os (acc ++ [bitsA acc o.after.toList])
    refine ⟨bitsA acc o.after.toList :: rest, by simp [befA, h1], by simp [h2], fun p o' h => ?_⟩
    cases p with
    | zero => simp at h; subst h; simp
    | succ p =>
      simp at h
      have := h3 p o' h
      simpa using this
theorem bef_closed {ops : Array Oper} (L : Nat → Prop) (hL : ∀ (j : Nat) (o : Oper) (e : Edge), ops[j]? = some o → L j → e ∈ o.after.toList → Region.binds .any e = true → L e.on) :
    ∀ i j o, ops[j]? = some o → L j → ordA (befA [] ops.toList) i j = true → L i := by
  intro i j
  obtain ⟨rest, h1, h2, h3⟩ := bef_spec ops.toList []
  rw [h1]
  simp only [List.nil_append] at h3 ⊢
  have key : ∀ j, (∃ o, ops[j]? = some o) → L j → ∀ i, (rest.getD j 0).testBit i = true → L i := by
    intro j
    induction j using Nat.strongRecOn with
    | _ j ih =>
      rintro ⟨o, ho⟩ hj i hi
      have ho' : ops.toList[j]? = some o := by simpa using ho
      have hr := h3 j o ho'
      simp only [List.getD, hr, Option.getD_some] at hi
      obtain ⟨e, he1, he2, he3⟩ := bits_spec _ i _ hi
      have hLe := hL j o e ho hj he1 he2
      rcases he3 with rfl | he3
      · exact hLe
      · have hlt : e.on < j := by
          rcases Nat.lt_or_ge e.on j with h | h
          · exact h
          · rw [List.getD, List.getElem?_eq_none (by simp; omega)] at he3
            simp at he3
        refine ih e.on hlt ?_ hLe i ?_
        · have hj' : j < ops.size := (Array.getElem?_eq_some_iff.1 ho).1
          exact ⟨ops[e.on]'(by omega), Array.getElem?_eq_getElem (by omega)⟩
        · rw [List.getD, List.getElem?_take, if_pos hlt] at he3
          exact he3
  intro o ho hj hi
  exact key j ⟨o, ho⟩ hj i hi

theorem drawOk_spec {ops : Array Oper} (h : drawOkA P ops = true) :
    (∀ (i j : Nat) (x y : Oper), i < j → ops[i]? = some x → ops[j]? = some y → ordA (befA [] ops.toList) i j = true ∨ (x.apart ops y = true ∧ ¬ (isEff P x.op = true ∧ isEff P y.op = true))) ∧
    (∀ (j : Nat) (o : Oper) (e : Edge), ops[j]? = some o → e ∈ o.after.toList → Region.binds .any e = true → e.on < j) := by
  unfold drawOkA at h
  simp only [List.all_eq_true, List.mem_range, Bool.and_eq_true] at h
  refine ⟨fun i j x y hij hx hy => ?_, fun j o e ho he hb => ?_⟩
  · have hj : j < ops.size := (Array.getElem?_eq_some_iff.1 hy).1
    have := (h j hj).2 i hij
    unfold pairOk at this
    rw [hx, hy] at this
    simp only [Bool.or_eq_true, Bool.and_eq_true, Bool.not_eq_true'] at this
    refine this.imp id (fun ⟨a, b⟩ => ⟨a, fun ⟨c, d⟩ => ?_⟩)
    rw [c, d] at b; cases b
  · have hj : j < ops.size := (Array.getElem?_eq_some_iff.1 ho).1
    have := (h j hj).1
    unfold edgesOk at this
    rw [ho] at this
    simp only at this
    rw [Array.all_eq_true_iff_forall_mem] at this
    have := this e (Array.mem_toList_iff.1 he)
    rw [hb] at this
    simpa [Nat.blt_eq] using this


variable {ρ : Rho} {h : Hp} {w : World} {s : St} {tmps : List AV} {a : Act}

theorem region_n (hc : CallOk P call) {ops : Array Oper} {draw : Bool} {tmps' : List AV} {s' : St} (e : regionF P call ops draw tmps s = some (tmps', s')) : s.length ≤ s'.length := by
  unfold regionF at e
  split at e
  · rename_i t1 s1 acc h1
    split at e
    · cases e; exact ops_n hc _ _ _ _ _ _ _ _ h1
    · cases e
  · cases e

theorem region_any (ok : ProgOk P) (hc : CallOk P call) {id : Nat} {ops : Array Oper} {tmps' : List AV} {s' : St} (f : Nat → List AV × St) (f0 : f 0 = (tmps, s)) (f3 : (tmps', s') = f ops.size)
    (X : Text P call ops (befA [] ops.toList) (fun p => (f p).1) (fun p => (f p).2))
    (hr : HR ρ h w) (ha : Agree s h) (htr : TR ρ tmps a.tmps) (hf : Fresh ρ s s') {Q : Exit → Act → World → Prop}
    (hk : ∀ ρ' w' a', Post ρ h w s ρ' (upd s' h) w' s' → TR ρ' tmps' a'.tmps → a'.defers = a.defers → Q .normal a' w') : (Code.region id ops true).wp P Q a w := by
  have hS0 : (f 0).2 = s := by rw [f0]
  have hT0 : (f 0).1 = tmps := by rw [f0]
  have hfin : f ops.size = (tmps', s') := f3.symm
  have hSn : (f ops.size).2 = s' := by rw [hfin]
  have hf' : Fresh ρ ((fun p => (f p).2) 0) ((fun p => (f p).2) ops.size) := by simp only [hS0, hSn]; exact hf
  -- where the heap stands at the beginning
  have hbeg : ∀ i, ρ i ≠ none → hS (fun p => (f p).2) ops.size h 0 i = h i := fun i hi => by
    unfold hS
    simp only [hS0]
    split
    · rename_i hlt; exact (ha i hlt).symm
    · rename_i hlt
      rcases Nat.lt_or_ge i s'.length with h3 | h3
      · exact absurd (hf i (by omega) h3) hi
      · exact birth_far hc X (by simp only [hSn]; exact h3)
  have hHR0 : HR ρ (hS (fun p => (f p).2) ops.size h 0) w := hr.congr hbeg
  refine wp_region_any ok.orders ?_
  refine any_sound (ρ0 := ρ) (h0 := h) (w0 := w) (d0 := a.defers) ok hc X hf' ?_ ops.size (Array.replicate ops.size false) ρ 0 tmps a { w with drawn := w.drawn + 1 } (by simp) ?_ ?_
  · -- the end
    intro L ρ' c C a' w' hall I
    have hE : ∀ (k : Nat) (o : Oper), c ≤ k → k < ops.size → ops[k]? = some o → isEff P o.op = false := fun k o h1 h2 ho => by
      cases hh : isEff P o.op with
      | false => rfl
      | true => have := (I.cut k o ho hh).1 (hall k h2); omega
    have I' := I.advTo hc X ops.size I.cn (Nat.le_refl _) hE
    have hSend : hS (fun p => (f p).2) ops.size h ops.size = upd s' h := by
      funext i
      unfold hS upd
      simp only [hSn]
      split
      · rfl
      · rename_i hlt
        exact birth_far hc X (by simp only [hSn]; omega)
    have hn0 : ∀ q, q ≤ ops.size → s.length ≤ (f q).2.length := fun q hq => by have := X.n_mono hc (p := 0) q hq (by omega); simpa only [hS0] using this
    have hne : ∀ q, q ≤ ops.size → (f q).2.length ≤ s'.length := fun q hq => by have := X.n_mono hc (p := q) ops.size (Nat.le_refl _) hq; simpa only [hSn] using this
    refine hk ρ' w' a' ⟨I'.le, fun i hi => ?_, rfl, ?_, ?_, by have := hn0 ops.size (Nat.le_refl _); rw [hSn] at this; exact this, I'.os, I'.tape, I'.output, I'.size, fun B hB hfr => ?_, fun B hB hfr => ?_, I'.fzn, fun i hi h1 => ?_⟩ ⟨?_, fun t => ?_⟩ I'.defers
    · obtain ⟨q, h1, h2, h3⟩ := I'.dom i hi
      have hq := I'.lt q h1
      have := hn0 q (by omega)
      have := hne (q + 1) (by omega)
      have h2' : (f q).2.length ≤ i := h2
      have h3' : i < (f (q + 1)).2.length := h3
      omega
    · rw [← hSend]; exact I'.hr
    · have := I'.ag
      rw [hSend] at this
      simpa only [hSn] using this
    · have := I'.frame B hB hfr
      rw [hSend] at this
      exact this
    · have := I'.out B hB hfr
      rw [hSend] at this
      exact this
    · have := I'.idle i (by simp only [hS0]; exact hi) h1
      simpa only [hS0, hSn] using this
    · have h1 := X.length ops.size (Nat.le_refl _)
      simp only [hfin, hT0] at h1
      have h2 := I'.tr.1
      have h3 := I'.clen
      simp only [hT0] at h3
      omega
    · obtain ⟨i, hi, e1, e2, e3⟩ := I'.time t
      have h1 := X.same (t := t) (i := i) ops.size (Nat.le_refl _) hi (fun k o q1 q2 ho hd' => by have := e3 k o (hall k q2) ho hd'; omega)
      simp only [hfin] at h1
      have h2 := I'.tr.2 t
      have e1' : C.getD t undefA = (f i).1.getD t undefA := e1
      rw [e1', ← h1] at h2
      exact h2
  · -- the beginning
    have hno : ∀ k, (Array.replicate ops.size false).getD k false = false := fun k => by
      rw [Array.getD_eq_getD_getElem?, Array.getElem?_replicate]
      split <;> rfl
    refine ⟨fun j o e _ hj => (by rw [hno] at hj; cases hj), fun j hj => (by rw [hno] at hj; cases hj), htr, by simp only [hT0], fun t => ⟨0, Nat.zero_le _, by simp only [hT0], .inl rfl, fun k o hk => (by rw [hno] at hk; cases hk)⟩, Nat.zero_le _, fun e o _ _ => ?_, hHR0.drew _, ?_, Rho.le.rfl, fun i hi => absurd rfl hi, fun p hp => by omega, rfl, rfl, rfl, Nat.le_refl _, fun B hB hfr => ⟨rfl, fun i o r x cs hi h1 h2 h3 => ?_⟩, fun B hB hfr i o r x v hi h1 h2 h3 => ?_, fun B o v e => .inl e, fun i _ _ => rfl, rfl⟩
    · rw [hno]
      constructor
      · intro hh; cases hh
      · intro hh; omega
    · simp only [hS0]
      exact fun i hi => by unfold hS; simp only [hS0]; rw [if_pos hi]
    · rw [hbeg i (by rw [hi]; simp)] at h2
      exact hfr i o r x cs hi h1 h2 h3
    · rw [hbeg i (by rw [hi]; simp)] at h2
      exact hfr i o r x v hi h1 h2 h3
  · exact Nat.le_trans List.countP_le_length (by simp)


theorem region_sound (ok : ProgOk P) (hc : CallOk P call) {id : Nat} {ops : Array Oper} {draw : Bool} (hd : draw = true → drawOkA P ops = true) {tmps' : List AV} {s' : St} (e : regionF P call ops draw tmps s = some (tmps', s'))
    (hr : HR ρ h w) (ha : Agree s h) (htr : TR ρ tmps a.tmps) (hf : Fresh ρ s s') {Q : Exit → Act → World → Prop}
    (hk : ∀ ρ' w' a', Post ρ h w s ρ' (upd s' h) w' s' → TR ρ' tmps' a'.tmps → a'.defers = a.defers → Q .normal a' w') : (Code.region id ops draw).wp P Q a w := by
  unfold regionF at e
  have hto : ∀ (p : Nat) (o : Oper), ops[p]? = some o → ops.toList[p]? = some o := fun p o ho => by simpa using ho
  have hlen : ops.toList.length = ops.size := by simp
  split at e
  · rename_i t1 s1 acc h1
    split at e
    · rename_i hdr
      cases e
      cases draw with
      | false =>
        refine wp_region_list ?_
        exact ops_sound ok hc ops.toList 0 ρ h w s tmps [] a tmps' s' acc h1 hr ha htr hf hk
      | true =>
        have hn : notesOk (befA [] ops.toList) acc = true := hdr
        obtain ⟨_, f, ns, f0, f1, f3⟩ := ops_trace _ _ _ _ _ _ _ _ h1
        rw [hlen] at f3
        obtain ⟨hpair, hedge⟩ := drawOk_spec (hd rfl)
        have hst : ∀ (p : Nat) (o : Oper), ops[p]? = some o → stepS P call ops p o (f p).1 (f p).2 = some ((f (p + 1)).1, (f (p + 1)).2, ns p) ∧ ∀ x ∈ ns p, x ∈ acc := fun p o ho => by
          have := f1 p o (hto p o ho)
          rwa [Nat.zero_add] at this
        refine region_any ok hc f f0 f3.symm ⟨fun p o ho => ⟨ns p, (hst p o ho).1⟩, fun p o q l mk ho hR hq hg hrd e oe qe hoe hee hqe hge q1 q2 hlt => ?_, hpair, hedge, fun L hL => bef_closed L hL⟩ hr ha htr hf hk
        -- the two notes
        obtain ⟨k1, k2⟩ := hst p o ho
        obtain ⟨m1, m2⟩ := hst e oe hoe
        obtain ⟨q', hq', ⟨g1, _⟩ | ⟨_, v, tch, hop, _, hns⟩⟩ := step_put k1
        · rw [hq] at hq'; cases hq'; rw [hg] at g1; cases g1
        · obtain ⟨qe', hqe', ⟨g1, _⟩ | ⟨_, ve, tche, hope, _, hnse⟩⟩ := step_put m1
          · rw [hqe] at hqe'; cases hqe'; rw [hge] at g1; cases g1
          · have hx := k2 _ (by rw [hns]; exact List.mem_singleton.2 rfl)
            have hy := m2 _ (by rw [hnse]; exact List.mem_singleton.2 rfl)
            have h2 := List.all_eq_true.1 (List.all_eq_true.1 hn _ hx) _ hy
            have hrdo : rdOf P (f p).1 o.op = some l.blk := by
              unfold isRead at hR
              split at hR
              · rename_i hcl
                unfold rdOf
                rw [hcl, hrd]
              · cases hR
            unfold noteOk at h2
            rw [hrdo] at h2
            simp only [q1, q2, Bool.false_or, Bool.not_eq_true', List.contains_eq_mem, decide_eq_false_iff_not] at h2
            exact (op_keeps hc hope).2 _ hlt h2
    · cases e
  · cases e
end

end Go.Sy

/- Code: what the symbolic machine tells of it, it does. -/
set_option linter.unusedSimpArgs false
set_option linter.unusedVariables false
namespace Go.Sy
open Go

abbrev hpS (s : St) : Hp := fun i => s[i]?
structure InvC (ρ : Rho) (s : St) (w : World) : Prop where
  hr : HR ρ (hpS s) w
  dom : ∀ i, s.length ≤ i → ρ i = none
/-- Behind a piece of code: the first n blocks are where they were. -/
structure PostC (n : Nat) (ρ : Rho) (s : St) (w : World) (ρ' : Rho) (s' : St) (w' : World) : Prop where
  inv : InvC ρ' s' w'
  base : ∀ i, i < n → ρ' i = ρ i
  fz : ∀ B o v, ρ.fz B o = some v → ρ'.fz B o = some v
  len : n ≤ s'.length
  os : w'.os = w.os
  tape : w'.tape = w.tape
  output : w'.output = w.output
  size : w.heap.size ≤ w'.heap.size
  frame : ∀ B, B < w.heap.size → Free ρ (hpS s) B → w'.heap[B]? = w.heap[B]? ∧ Free ρ' (hpS s') B
  out : ∀ B, B < w.heap.size → Out ρ (hpS s) B → Out ρ' (hpS s') B
  fzn : ∀ B o v, ρ'.fz B o = some v → ρ.fz B o = some v ∨ w.heap.size ≤ B ∨ ¬ Out ρ (hpS s) B
theorem hpS_agree (s : St) : Agree s (hpS s) := fun _ _ => rfl
theorem upd_hpS {s s' : St} (h : s.length ≤ s'.length) : upd s' (hpS s) = hpS s' := by
  funext i
  unfold upd
  split
  · rfl
  · rename_i hi
    show s[i]? = s'[i]?
    rw [List.getElem?_eq_none (by omega), List.getElem?_eq_none (by omega)]
theorem InvC.fresh {ρ : Rho} {s s' : St} {w : World} (k : InvC ρ s w) : Fresh ρ s s' := fun id h _ => k.dom id h
theorem Post.toC {ρ ρ' : Rho} {s s' : St} {w w' : World} {n : Nat} (k : InvC ρ s w) (hn : n ≤ s.length) (p : Post ρ (hpS s) w s ρ' (upd s' (hpS s)) w' s') : PostC n ρ s w ρ' s' w' := by
  have e := upd_hpS p.le
  have hr := p.hr
  have hfr := p.frame
  have ho := p.out
  rw [e] at hr hfr ho
  refine ⟨⟨hr, fun i hi => ?_⟩, fun i hi => ?_, p.ext.2, Nat.le_trans hn p.le, p.os, p.tape, p.output, p.size, hfr, ho, p.fzn⟩
  · by_cases h1 : ρ' i = ρ i
    · rw [h1]; exact k.dom i (Nat.le_trans p.le hi)
    · have := p.new i h1; omega
  · by_cases h1 : ρ' i = ρ i
    · exact h1
    · have := p.new i h1; omega
theorem PostC.refl {n : Nat} {ρ : Rho} {s : St} {w : World} (k : InvC ρ s w) (hn : n ≤ s.length) : PostC n ρ s w ρ s w :=
  ⟨k, fun _ _ => rfl, fun _ _ _ e => e, hn, rfl, rfl, rfl, Nat.le_refl _, fun _ _ h => ⟨rfl, h⟩, fun _ _ h => h, fun _ _ _ e => .inl e⟩
theorem PostC.trans {n : Nat} {ρ ρ1 ρ2 : Rho} {s s1 s2 : St} {w w1 w2 : World} (p : PostC n ρ s w ρ1 s1 w1) (q : PostC n ρ1 s1 w1 ρ2 s2 w2) : PostC n ρ s w ρ2 s2 w2 where
  inv := q.inv
  base := fun i hi => (q.base i hi).trans (p.base i hi)
  fz := fun B o v e => q.fz B o v (p.fz B o v e)
  len := q.len
  os := q.os.trans p.os
  tape := q.tape.trans p.tape
  output := q.output.trans p.output
  size := Nat.le_trans p.size q.size
  frame := fun B hB hf => by
    obtain ⟨e1, f1⟩ := p.frame B hB hf
    obtain ⟨e2, f2⟩ := q.frame B (Nat.lt_of_lt_of_le hB p.size) f1
    exact ⟨e2.trans e1, f2⟩
  out := fun B hB hf => q.out B (Nat.lt_of_lt_of_le hB p.size) (p.out B hB hf)
  fzn := fun B o v e => by
    rcases q.fzn B o v e with e | e | e
    · exact p.fzn B o v e
    · exact .inr (.inl (Nat.le_trans p.size e))
    · rcases Nat.lt_or_ge B w.heap.size with hB | hB
      · exact .inr (.inr (fun hf => e (p.out B hB hf)))
      · exact .inr (.inl hB)

def Ex.to : Ex → Exit
  | .normal => .normal
  | .exit id => .exit id
  | .ret => .ret

section
variable {P : Program} {call : CallS} {n : Nat}
/-- From these slots and blocks a piece of code (as 'wp' has it) comes to those. -/
def RW (n : Nat) (wp : (Exit → Act → World → Prop) → Act → World → Prop) (t : List AV) (s : St) (e : Ex) (t' : List AV) (s' : St) : Prop :=
  ∀ (ρ : Rho) (w : World) (a : Act) (Q : Exit → Act → World → Prop), InvC ρ s w → TR ρ t a.tmps →
    (∀ ρ' w' a', PostC n ρ s w ρ' s' w' → TR ρ' t' a'.tmps → a'.defers = a.defers → Q e.to a' w') → wp Q a w
/-- It comes to what is asked for. -/
def RK (n : Nat) (wp : (Exit → Act → World → Prop) → Act → World → Prop) (t : List AV) (s : St) (k : KS) : Prop :=
  ∃ e t' s', n ≤ s'.length ∧ RW n wp t s e t' s' ∧ k e t' s'
theorem RK.mono {wp : (Exit → Act → World → Prop) → Act → World → Prop} {t : List AV} {s : St} {k k' : KS} (h : RK n wp t s k) (hk : ∀ e t' s', k e t' s' → k' e t' s') : RK n wp t s k' := by
  obtain ⟨e, t', s', h1, h2, h3⟩ := h
  exact ⟨e, t', s', h1, h2, hk _ _ _ h3⟩
theorem RK.seq {x y : Code} {t : List AV} {s : St} {k : KS} (h : RK n (fun Q => x.wp P Q) t s (fun e t' s' => match e with | .normal => RK n (fun Q => y.wp P Q) t' s' k | e => k e t' s')) : RK n (fun Q => (Code.seq x y).wp P Q) t s k := by
  obtain ⟨e, t1, s1, h1, h2, h3⟩ := h
  cases e with
  | normal =>
    obtain ⟨e2, t2, s2, k1, k2, k3⟩ := h3
    refine ⟨e2, t2, s2, k1, fun ρ w a Q hi htr hk => wp_seq (h2 ρ w a _ hi htr fun ρ1 w1 a1 hp ht hd => ?_), k3⟩
    exact k2 ρ1 w1 a1 Q hp.inv ht fun ρ2 w2 a2 hp2 ht2 hd2 => hk ρ2 w2 a2 (hp.trans hp2) ht2 (hd2.trans hd)
  | exit id => exact ⟨.exit id, t1, s1, h1, fun ρ w a Q hi htr hk => wp_seq (h2 ρ w a _ hi htr hk), h3⟩
  | ret => exact ⟨.ret, t1, s1, h1, fun ρ w a Q hi htr hk => wp_seq (h2 ρ w a _ hi htr hk), h3⟩
theorem RK.block {id : Nat} {x : Code} {t : List AV} {s : St} {k : KS} (h : RK n (fun Q => x.wp P Q) t s (fun e t' s' => match e with
      | .exit j => match Nat.beq j id with
        | true => k .normal t' s'
        | false => k (.exit j) t' s'
      | e => k e t' s')) : RK n (fun Q => (Code.block id x).wp P Q) t s k := by
  obtain ⟨e, t1, s1, h1, h2, h3⟩ := h
  cases e with
  | normal => exact ⟨.normal, t1, s1, h1, fun ρ w a Q hi htr hk => wp_block (h2 ρ w a _ hi htr hk), h3⟩
  | ret => exact ⟨.ret, t1, s1, h1, fun ρ w a Q hi htr hk => wp_block (h2 ρ w a _ hi htr hk), h3⟩
  | exit j =>
    simp only at h3
    split at h3
    · rename_i hj
      have hj' := beq_true_eq hj
      subst hj'
      refine ⟨.normal, t1, s1, h1, fun ρ w a Q hi htr hk => wp_block (h2 ρ w a _ hi htr fun ρ' w' a' hp ht hd => ?_), h3⟩
      show Exit.inBlock j Q (.exit j) a' w'
      simp only [Exit.inBlock, if_true]
      exact hk ρ' w' a' hp ht hd
    · rename_i hj
      have hj' := beq_false_ne hj
      refine ⟨.exit j, t1, s1, h1, fun ρ w a Q hi htr hk => wp_block (h2 ρ w a _ hi htr fun ρ' w' a' hp ht hd => ?_), h3⟩
      show Exit.inBlock id Q (.exit j) a' w'
      simp only [Exit.inBlock, if_neg hj']
      exact hk ρ' w' a' hp ht hd
theorem RK.rounds {c : Code} {L : Nat} {t : List AV} {s : St} {k : KS} (h : RK n (fun Q => c.wp P Q) t s (fun e t' s' => match e with
      | .normal => RK n (fun Q => Code.rounds P c Q L) t' s' k
      | e => k e t' s')) : RK n (fun Q => Code.rounds P c Q (L + 1)) t s k := by
  obtain ⟨e, t1, s1, h1, h2, h3⟩ := h
  cases e with
  | normal =>
    obtain ⟨e2, t2, s2, k1, k2, k3⟩ := h3
    refine ⟨e2, t2, s2, k1, fun ρ w a Q hi htr hk => ?_, k3⟩
    show Code.rounds P c Q (L + 1) a w
    rw [rounds_succ]
    refine h2 ρ w a _ hi htr fun ρ1 w1 a1 hp ht hd => ?_
    exact k2 ρ1 w1 a1 Q hp.inv ht fun ρ2 w2 a2 hp2 ht2 hd2 => hk ρ2 w2 a2 (hp.trans hp2) ht2 (hd2.trans hd)
  | exit id =>
    refine ⟨.exit id, t1, s1, h1, fun ρ w a Q hi htr hk => ?_, h3⟩
    show Code.rounds P c Q (L + 1) a w
    rw [rounds_succ]
    exact h2 ρ w a _ hi htr hk
  | ret =>
    refine ⟨.ret, t1, s1, h1, fun ρ w a Q hi htr hk => ?_, h3⟩
    show Code.rounds P c Q (L + 1) a w
    rw [rounds_succ]
    exact h2 ρ w a _ hi htr hk
theorem RK.loop {c : Code} {L : Nat} {t : List AV} {s : St} {k : KS} (h : RK n (fun Q => Code.rounds P c Q L) t s k) : RK n (fun Q => (Code.loop c).wp P Q) t s k := by
  obtain ⟨e, t', s', h1, h2, h3⟩ := h
  exact ⟨e, t', s', h1, fun ρ w a Q hi htr hk => wp_loop_rounds L (h2 ρ w a Q hi htr hk), h3⟩
/-- Ahead of it the slots and blocks may be looked at otherwise. -/
theorem RK.pre {wp : (Exit → Act → World → Prop) → Act → World → Prop} {t t1 : List AV} {s s1 : St} {k : KS} (hl : n ≤ s1.length)
    (hpre : ∀ (ρ : Rho) (w : World) (arr : Array Value), InvC ρ s w → TR ρ t arr → ∃ ρ1, PostC n ρ s w ρ1 s1 w ∧ TR ρ1 t1 arr) (h : RK n wp t1 s1 k) : RK n wp t s k := by
  obtain ⟨e, t', s', h1, h2, h3⟩ := h
  refine ⟨e, t', s', h1, fun ρ w a Q hi htr hk => ?_, h3⟩
  obtain ⟨ρ1, hp, ht1⟩ := hpre ρ w a.tmps hi htr
  exact h2 ρ1 w a Q hp.inv ht1 fun ρ' w' a' hp' ht' hd' => hk ρ' w' a' (hp.trans hp') ht' hd'
/-- Behind it likewise. -/
theorem RK.post {wp : (Exit → Act → World → Prop) → Act → World → Prop} {t : List AV} {s : St} {k k' : KS} (h : RK n wp t s k)
    (hpost : ∀ e t' s', n ≤ s'.length → k e t' s' → ∃ t1 s1, n ≤ s1.length ∧ (∀ (ρ : Rho) (w : World) (arr : Array Value), InvC ρ s' w → TR ρ t' arr → ∃ ρ1, PostC n ρ s' w ρ1 s1 w ∧ TR ρ1 t1 arr) ∧ k' e t1 s1) : RK n wp t s k' := by
  obtain ⟨e, t', s', h1, h2, h3⟩ := h
  obtain ⟨t1, s1, l1, hp, hk'⟩ := hpost e t' s' h1 h3
  refine ⟨e, t1, s1, l1, fun ρ w a Q hi htr hk => h2 ρ w a Q hi htr fun ρ' w' a' hp' ht' hd' => ?_, hk'⟩
  obtain ⟨ρ1, hp1, ht1⟩ := hp ρ' w' a'.tmps hp'.inv ht'
  exact hk ρ1 w' a' (hp'.trans hp1) ht1 hd'

/-- Of the loops whose outcome is told without their text. -/
def LoopsOk (P : Program) (n : Nat) (lp : Nat → Option LoopS) (l : List (Nat × Code)) : Prop :=
  ∀ p ∈ l, ∀ F, lp p.1 = some F → ∀ t s k, n ≤ s.length → F t s k → RK n (fun Q => p.2.wp P Q) t s k

theorem loopK_mono : ∀ {m : Nat} {f : List AV → St → KS → Prop} {R : List AV → St → KS → Prop} {c : Code}, (∀ t s k, n ≤ s.length → f t s k → RK n (fun Q => c.wp P Q) t s k) → ∀ t s k, n ≤ s.length → loopK f m t s k → RK n (fun Q => Code.rounds P c Q m) t s k
  | 0, f, R, c, hf, t, s, k, hn, h => by simp [loopK] at h
  | m + 1, f, R, c, hf, t, s, k, hn, h => by
    simp only [loopK] at h
    refine RK.rounds ?_
    obtain ⟨e, t', s', h1, h2, h3⟩ := hf t s _ hn h
    refine ⟨e, t', s', h1, h2, ?_⟩
    cases e with
    | normal => exact loopK_mono (R := R) hf t' s' k h1 h3
    | exit id => exact h3
    | ret => exact h3

theorem codeK_sound (ok : ProgOk P) (hc : CallOk P call) {lp : Nat → Option LoopS} (L : Nat) : ∀ (c : Code), drawsOkA P c = true → LoopsOk P n lp (blocksC c) → ∀ t s k, n ≤ s.length → codeK P call lp L c t s k → RK n (fun Q => c.wp P Q) t s k
  | .skip, _, _, t, s, k, hn, h => ⟨.normal, t, s, hn, fun ρ w a Q hi htr hk => wp_skip (hk ρ w a (PostC.refl hi hn) htr rfl), h⟩
  | .label l, _, _, t, s, k, hn, h => ⟨.normal, t, s, hn, fun ρ w a Q hi htr hk => wp_label (hk ρ w a (PostC.refl hi hn) htr rfl), h⟩
  | .exit id, _, _, t, s, k, hn, h => ⟨.exit id, t, s, hn, fun ρ w a Q hi htr hk => wp_exit (hk ρ w a (PostC.refl hi hn) htr rfl), h⟩
  | .ret, _, _, t, s, k, hn, h => ⟨.ret, t, s, hn, fun ρ w a Q hi htr hk => wp_ret (hk ρ w a (PostC.refl hi hn) htr rfl), h⟩
  | .region id ops draw, hd, hl, t, s, k, hn, h => by
    simp only [codeK] at h
    split at h
    · rename_i F hF
      exact hl (2 * id + 1, .region id ops draw) (by simp [blocksC]) F hF t s k hn h
    · obtain ⟨t', s', h1, h2⟩ := regionK_run h
      refine ⟨.normal, t', s', Nat.le_trans hn (region_n hc h1), fun ρ w a Q hi htr hk => ?_, h2⟩
      exact region_sound ok hc (fun e => by subst e; exact hd) h1 hi.hr (hpS_agree s) htr hi.fresh fun ρ' w' a' hp ht hd' => hk ρ' w' a' (hp.toC hi hn) ht hd'
  | .seq x y, hd, hl, t, s, k, hn, h => by
    simp only [drawsOkA, Bool.and_eq_true] at hd
    simp only [codeK] at h
    refine RK.seq ?_
    obtain ⟨e, t', s', h1, h2, h3⟩ := codeK_sound ok hc L x hd.1 (fun p hp => hl p (by simp [blocksC, hp])) t s _ hn h
    refine ⟨e, t', s', h1, h2, ?_⟩
    cases e with
    | normal => exact codeK_sound ok hc L y hd.2 (fun p hp => hl p (by simp [blocksC, hp])) t' s' k h1 h3
    | exit id => exact h3
    | ret => exact h3
  | .cond c x y, hd, hl, t, s, k, hn, h => by
    simp only [drawsOkA, Bool.and_eq_true] at hd
    simp only [codeK] at h
    split at h
    · rename_i b hcv
      split at h
      · obtain ⟨e, t', s', h1, h2, h3⟩ := codeK_sound ok hc L x hd.1 (fun p hp => hl p (by simp [blocksC, hp])) t s _ hn h
        refine ⟨e, t', s', h1, fun ρ w a Q hi htr hk => wp_cond_true ?_ (h2 ρ w a Q hi htr hk), h3⟩
        have := ev_sound htr hcv
        simpa [Rel] using this
      · obtain ⟨e, t', s', h1, h2, h3⟩ := codeK_sound ok hc L y hd.2 (fun p hp => hl p (by simp [blocksC, hp])) t s _ hn h
        refine ⟨e, t', s', h1, fun ρ w a Q hi htr hk => wp_cond_false ?_ (h2 ρ w a Q hi htr hk), h3⟩
        have := ev_sound htr hcv
        simpa [Rel] using this
    · exact h.elim
  | .block id x, hd, hl, t, s, k, hn, h => by
    simp only [drawsOkA] at hd
    simp only [codeK] at h
    split at h
    · rename_i F hF
      exact hl (2 * id, .block id x) (by simp [blocksC]) F hF t s k hn h
    · refine RK.block ?_
      obtain ⟨e, t', s', h1, h2, h3⟩ := codeK_sound ok hc L x hd (fun p hp => hl p (by simp [blocksC, hp])) t s _ hn h
      exact ⟨e, t', s', h1, h2, h3⟩
  | .loop x, hd, hl, t, s, k, hn, h => by
    simp only [drawsOkA] at hd
    simp only [codeK] at h
    exact RK.loop (loopK_mono (R := fun _ _ _ => True) (fun t s k hn h => codeK_sound ok hc L x hd (fun p hp => hl p (by simp [blocksC, hp])) t s k hn h) t s k hn h)
  | .rangeFunc _ _ _ _, _, _, t, s, k, hn, h => by simp [codeK] at h
  | .scope _, _, _, t, s, k, hn, h => by simp [codeK] at h
  | .goto _, _, _, t, s, k, hn, h => by simp [codeK] at h
  | .refuse _, _, _, t, s, k, hn, h => by simp [codeK] at h

theorem lookC_mem : ∀ {l : List (Nat × Code)} {id : Nat} {c : Code}, distinctC l = true → (id, c) ∈ l → lookC id l = some c
  | [], id, c, hd, h => by simp at h
  | (j, d) :: l, id, c, hd, h => by
    simp only [distinctC, Bool.and_eq_true] at hd
    simp only [lookC]
    rcases List.mem_cons.1 h with e | h
    · cases e
      rw [show Nat.beq j j = true by simp]
    · have h1 := lookC_mem hd.2 h
      cases hj : Nat.beq j id with
      | true =>
        have := beq_true_eq hj
        subst this
        rw [h1] at hd
        simp at hd
      | false => exact h1
end
end Go.Sy

/- Blocks with other numbers; what cannot be come to is forgotten. -/
set_option linter.unusedSimpArgs false
set_option linter.unusedVariables false
namespace Go.Sy
open Go

/- ### lists of numbers -/
theorem mem_iff {b : Nat} : ∀ {l : List Nat}, mem b l = true ↔ b ∈ l
  | [] => by simp [mem]
  | x :: l => by
    simp only [mem, List.mem_cons]
    cases hx : Nat.beq x b with
    | true => have := beq_true_eq hx; subst this; simp
    | false =>
      have := beq_false_ne hx
      simp only [mem_iff (l := l)]
      constructor
      · exact .inr
      · rintro (rfl | h)
        · exact absurd rfl this
        · exact h
theorem allMem_iff {l : List Nat} : ∀ {bs : List Nat}, allMem l bs = true ↔ ∀ b ∈ bs, b ∈ l
  | [] => by simp [allMem]
  | b :: bs => by simp [allMem, mem_iff, allMem_iff (bs := bs)]
theorem entsMem_spec {s : St} {l : List Nat} : ∀ {bs : List Nat}, entsMem s l bs = true → ∀ b ∈ bs, ∃ x, s[b]? = some x ∧ ∀ c ∈ idsE x, c ∈ l
  | [], h, b, hb => by simp at hb
  | d :: bs, h, b, hb => by
    simp only [entsMem] at h
    split at h
    · rename_i x hx
      simp only [Bool.and_eq_true] at h
      rcases List.mem_cons.1 hb with rfl | hb
      · exact ⟨x, hx, allMem_iff.1 h.1⟩
      · exact entsMem_spec h.2 b hb
    · cases h
theorem nodupL_iff : ∀ {l : List Nat}, nodupL l = true → l.Nodup
  | [], h => List.nodup_nil
  | b :: l, h => by
    simp only [nodupL, Bool.and_eq_true, Bool.not_eq_true'] at h
    refine List.nodup_cons.2 ⟨fun hb => ?_, nodupL_iff h.2⟩
    rw [mem_iff.2 hb] at h; cases h.1
theorem liveL_spec {s : St} : ∀ {bs : List Nat}, liveL s bs = true → ∀ b ∈ bs, ∃ x v, s[b]? = some x ∧ x.view = some v
  | [], h, b, hb => by simp at hb
  | d :: bs, h, b, hb => by
    simp only [liveL] at h
    split at h
    · cases h
    · rename_i x hne hx
      rcases List.mem_cons.1 hb with rfl | hb
      · cases x with
        | cells cs => exact ⟨_, _, hx, rfl⟩
        | tbl ro e l => exact ⟨_, _, hx, rfl⟩
        | dead => exact (hne rfl).elim
      · exact liveL_spec h b hb
    · cases h
theorem pos_get : ∀ {l : List Nat} {b : Nat}, b ∈ l → l[pos l b]? = some b
  | [], b, h => by simp at h
  | x :: l, b, h => by
    simp only [pos]
    split
    · rename_i hx; have := beq_true_eq hx; subst this; rfl
    · rename_i hx
      have := beq_false_ne hx
      rcases List.mem_cons.1 h with e | h
      · exact absurd e.symm this
      · simpa using pos_get h
theorem pos_lt {l : List Nat} {b : Nat} (h : b ∈ l) : pos l b < l.length := (List.getElem?_eq_some_iff.1 (pos_get h)).1
theorem pos_of {l : List Nat} (hn : l.Nodup) {j b : Nat} (h : l[j]? = some b) : pos l b = j := by
  have hb := List.mem_of_getElem? h
  have h1 := pos_get hb
  have hj := (List.getElem?_eq_some_iff.1 h).1
  exact (List.getElem?_inj (pos_lt hb) hn).1 (h1.trans h.symm)
theorem eqNats_eq : ∀ {a b : List Nat}, eqNats a b = true → a = b
  | [], [], _ => rfl
  | [], _ :: _, h => by simp [eqNats] at h
  | _ :: _, [], h => by simp [eqNats] at h
  | a :: x, b :: y, h => by
    simp only [eqNats, Bool.and_eq_true] at h
    rw [beq_true_eq h.1, eqNats_eq h.2]
theorem upto_get : ∀ (n i : Nat), i < n → (upto n)[i]? = some i
  | 0, i, h => by omega
  | n + 1, i, h => by
    have hl : ∀ n, (upto n).length = n := fun n => by induction n with
      | zero => rfl
      | succ n ih => simp [upto, ih]
    simp only [upto]
    by_cases hi : i < n
    · rw [List.getElem?_append_left (by rw [hl]; exact hi)]; exact upto_get n i hi
    · have : i = n := by omega
      subst this
      rw [List.getElem?_append_right (by rw [hl]; exact Nat.le_refl _), hl]; simp
theorem picks_get {s : St} {f : Nat → Nat} : ∀ (l : List Nat) (j : Nat), (picks s f l)[j]? = (l[j]?).map fun b => match s[b]? with | some x => renE f x | none => .dead
  | [], j => by simp [picks]
  | b :: l, j => by
    simp only [picks]
    split
    · rename_i x hx
      cases j with
      | zero => simp [hx]
      | succ j => simpa using picks_get l j
    · rename_i hx
      cases j with
      | zero => simp [hx]
      | succ j => simpa using picks_get l j
theorem picks_length {s : St} {f : Nat → Nat} : ∀ (l : List Nat), (picks s f l).length = l.length
  | [] => rfl
  | b :: l => by simp only [picks]; split <;> simp [picks_length l]

/- ### other numbers -/
mutual
theorem Rel.ren {ρ ρ' : Rho} {f : Nat → Nat} (hfz : ∀ B o v, ρ.fz B o = some v → ρ'.fz B o = some v) : ∀ (a : AV) (v : Value), (∀ b ∈ idsV a, ∀ x, ρ b = some x → ρ' (f b) = some x) → Rel ρ a v → Rel ρ' (renV f a) v
  | .any, _, _, h => by simp [Rel] at h
  | .bool _, _, _, h => by simpa [Rel, renV] using h
  | .int _ _, _, _, h => by simpa [Rel, renV] using h
  | .str _, _, _, h => by simpa [Rel, renV] using h
  | .ptr none, _, _, h => by simpa [Rel, renV] using h
  | .ptr (some (b, off)), _, hm, h => by
    simp only [Rel, renV] at h ⊢
    obtain ⟨B, o, r, h1, h2⟩ := h
    exact ⟨B, o, r, hm b (by simp [idsV]) _ h1, h2⟩
  | .nilSl, _, _, h => by simpa [Rel, renV] using h
  | .sl b off len cap, _, hm, h => by
    simp only [Rel, renV] at h ⊢
    obtain ⟨B, o, r, h1, h2⟩ := h
    exact ⟨B, o, r, hm b (by simp [idsV]) _ h1, h2⟩
  | .fn g first caps, _, hm, h => by
    simp only [Rel, renV] at h ⊢
    obtain ⟨x, y, h1, h2, h3⟩ := h
    exact ⟨x, y, h1, Rels.ren hfz _ _ (fun b hb => hm b (by simp [idsV, hb])) h2, Rels.ren hfz _ _ (fun b hb => hm b (by simp [idsV, hb])) h3⟩
  | .nilFn, _, _, h => by simpa [Rel, renV] using h
  | .lit _, _, _, h => by simpa [Rel, renV] using h
  | .agg cs, _, hm, h => by
    simp only [Rel, renV] at h ⊢
    obtain ⟨l, h1, h2⟩ := h
    exact ⟨l, h1, Rels.ren hfz _ _ (fun b hb => hm b (by simpa [idsV] using hb)) h2⟩
  | .tup cs, _, hm, h => by
    simp only [Rel, renV] at h ⊢
    obtain ⟨l, h1, h2⟩ := h
    exact ⟨l, h1, Rels.ren hfz _ _ (fun b hb => hm b (by simpa [idsV] using hb)) h2⟩
  | .fz nn e l, _, _, h => by
    simp only [Rel, renV] at h ⊢
    exact h.mono hfz (fun d vs => RelSh.mono hfz e d vs)
  | .fref sh d, _, _, h => by
    simp only [Rel, renV] at h ⊢
    obtain ⟨B, o, vs, h1, h2, h3⟩ := h
    exact ⟨B, o, vs, h1, RelSh.mono hfz _ _ _ h2, fun j u hu => hfz _ _ _ (h3 j u hu)⟩
  | .tsl nn e b off len cap, _, hm, h => by
    simp only [Rel, renV] at h ⊢
    obtain ⟨B, o, r, h1, h2⟩ := h
    exact ⟨B, o, r, hm b (by simp [idsV]) _ h1, h2⟩
  | .eptr e b i fo, _, hm, h => by
    simp only [Rel, renV] at h ⊢
    obtain ⟨B, o, r, h1, h2⟩ := h
    exact ⟨B, o, r, hm b (by simp [idsV]) _ h1, h2⟩
theorem Rels.ren {ρ ρ' : Rho} {f : Nat → Nat} (hfz : ∀ B o v, ρ.fz B o = some v → ρ'.fz B o = some v) : ∀ (as : List AV) (vs : List Value), (∀ b ∈ idsVs as, ∀ x, ρ b = some x → ρ' (f b) = some x) → Rels ρ as vs → Rels ρ' (renVs f as) vs
  | [], _, _, h => by simpa [Rels, renVs] using h
  | a :: as, _, hm, h => by
    simp only [Rels, renVs] at h ⊢
    obtain ⟨v, vs, h1, h2, h3⟩ := h
    exact ⟨v, vs, h1, Rel.ren hfz _ _ (fun b hb => hm b (by simp [idsVs, hb])) h2, Rels.ren hfz _ _ (fun b hb => hm b (by simp [idsVs, hb])) h3⟩
end
theorem renVs_length {f : Nat → Nat} : ∀ (as : List AV), (renVs f as).length = as.length
  | [] => rfl
  | a :: as => by simp [renVs, renVs_length as]
theorem renVs_getD {f : Nat → Nat} : ∀ (as : List AV) (t : Nat), (renVs f as).getD t undefA = renV f (as.getD t undefA)
  | [], t => by simp [renVs, undefA, renV]
  | a :: as, 0 => by simp [renVs]
  | a :: as, t + 1 => by simpa [renVs] using renVs_getD as t
theorem idsVs_getD : ∀ (as : List AV) (t : Nat) (b : Nat), b ∈ idsV (as.getD t undefA) → b ∈ idsVs as
  | [], t, b, h => by simp [undefA, idsV, idsVs] at h
  | a :: as, 0, b, h => by simp at h; simp [idsVs, h]
  | a :: as, t + 1, b, h => by simp at h; simp [idsVs, idsVs_getD as t b (by simpa using h)]
theorem TR.ren {ρ ρ' : Rho} {f : Nat → Nat} (hfz : ∀ B o v, ρ.fz B o = some v → ρ'.fz B o = some v) {t : List AV} {arr : Array Value} (hm : ∀ b ∈ idsVs t, ∀ x, ρ b = some x → ρ' (f b) = some x) (h : TR ρ t arr) : TR ρ' (renVs f t) arr := by
  refine ⟨by rw [renVs_length]; exact h.1, fun i => ?_⟩
  rw [renVs_getD]
  rcases h.2 i with h1 | h1
  · left; rw [h1]; rfl
  · exact .inr (Rel.ren hfz _ _ (fun b hb => hm b (idsVs_getD t i b hb)) h1)
theorem view_ren {f : Nat → Nat} {x : Ent} {v : Bool × List AV} (h : (renE f x).view = some v) : ∃ cs, x.view = some (v.1, cs) ∧ ((x = .cells cs ∧ v.2 = renVs f cs) ∨ ((∃ ro e l, x = .tbl ro e l) ∧ v.2 = cs)) := by
  cases x with
  | cells cs => simp only [renE, Ent.view, Option.some.injEq] at h; subst h; exact ⟨cs, rfl, .inl ⟨rfl, rfl⟩⟩
  | tbl ro e l => simp only [renE, Ent.view, Option.some.injEq] at h; subst h; exact ⟨_, rfl, .inr ⟨⟨_, _, _, rfl⟩, rfl⟩⟩
  | dead => simp [renE, Ent.view] at h
theorem Holds.ren {ρ ρ' : Rho} {w : World} {B o r : Nat} {ro : Bool} {cs cs' : List AV} (hfz : ∀ B o v, ρ.fz B o = some v → ρ'.fz B o = some v) (hl : cs'.length = cs.length) (hc : ∀ vs, Rels ρ cs vs → Rels ρ' cs' vs) (h : Holds ρ w B o r ro cs) : Holds ρ' w B o r ro cs' where
  fit := by rw [hl]; exact h.fit
  lt := h.lt
  vals := by
    obtain ⟨vs, h1, h2, h3⟩ := h.vals
    exact ⟨vs, hc vs h1, h2, fun e i v hv => hfz _ _ _ (h3 e i v hv)⟩
  there := h.there
  free := h.free
theorem Holds.renE {ρ ρ' : Rho} {w : World} {B o r : Nat} {f : Nat → Nat} {x : Ent} {v : Bool × List AV} (hfz : ∀ B o v, ρ.fz B o = some v → ρ'.fz B o = some v) (hm : ∀ b ∈ idsE x, ∀ y, ρ b = some y → ρ' (f b) = some y) (hv : (renE f x).view = some v)
    (h : ∀ ro cs, x.view = some (ro, cs) → Holds ρ w B o r ro cs) : Holds ρ' w B o r v.1 v.2 := by
  obtain ⟨cs, h1, ⟨rfl, h2⟩ | ⟨⟨ro, e, l, rfl⟩, h2⟩⟩ := view_ren hv
  · rw [h2]
    exact (h _ _ h1).ren hfz (renVs_length cs) (fun vs hvs => Rels.ren hfz cs vs (fun b hb => hm b (by simpa [idsE] using hb)) hvs)
  · rw [h2]
    simp only [Ent.view, Option.some.injEq, Prod.mk.injEq] at h1
    obtain ⟨hro, rfl⟩ := h1
    refine (h v.1 (flat e l) (by simp [Ent.view, hro])).ren hfz rfl (fun vs hvs => ?_)
    clear h hv h2
    have key : ∀ (l : List D) vs, Rels ρ (flat e l) vs → Rels ρ' (flat e l) vs := by
      intro l
      induction l with
      | nil => intro vs h; simpa [flat, Rels] using h
      | cons d l ih =>
        intro vs h
        simp only [flat] at h ⊢
        have hl := h.length
        rw [List.length_append, expand_length] at hl
        have h1 := h.take e.size
        have h2 := h.drop e.size
        rw [List.take_left' (expand_length e d)] at h1
        rw [List.drop_left' (expand_length e d)] at h2
        rw [← List.take_append_drop e.size vs]
        exact Rels.append ((rels_expand _ _ _).1 (RelSh.mono hfz _ _ _ ((rels_expand _ _ _).2 h1))) (ih _ h2)
    exact key l vs hvs

/-- Only some of the blocks, with other numbers. -/
theorem pick_inv {ρ : Rho} {s : St} {w : World} {h : Hp} {l : List Nat} {vs : List AV} (hr : HR ρ h w) (hh : ∀ b ∈ l, h b = s[b]?) (hc : closedL s vs l = true) :
    ∃ ρ0 : Rho, InvC ρ0 (picks s (pos l) l) w ∧ (∀ b ∈ l, ρ0 (pos l b) = ρ b) ∧ (∀ j b, l[j]? = some b → ρ0 j = ρ b) ∧ ρ0.fz = ρ.fz ∧ (∀ j, l.length ≤ j → ρ0 j = none) := by
  simp only [closedL, Bool.and_eq_true] at hc
  obtain ⟨hc1, hc2, hc3⟩ := hc
  have hnd := nodupL_iff hc3
  have hents := entsMem_spec hc2
  obtain ⟨ρ0, hρ0⟩ : ∃ ρ0 : Rho, ρ0 = { at_ := fun j => match l[j]? with | some b => ρ b | none => none, fz := ρ.fz } := ⟨_, rfl⟩
  have hat : ∀ j b, l[j]? = some b → ρ0 j = ρ b := fun j b e => by rw [hρ0]; simp only [e]
  have hatn : ∀ j, l.length ≤ j → ρ0 j = none := fun j hj => by rw [hρ0]; simp only [List.getElem?_eq_none hj]
  have hpos : ∀ b ∈ l, ρ0 (pos l b) = ρ b := fun b hb => hat _ _ (pos_get hb)
  have hfz : ρ0.fz = ρ.fz := by rw [hρ0]
  have hfz' : ∀ B o v, ρ.fz B o = some v → ρ0.fz B o = some v := fun B o v e => by rw [hfz]; exact e
  have hget : ∀ j x, hpS (picks s (pos l) l) j = some x → ∃ b y, l[j]? = some b ∧ b ∈ l ∧ s[b]? = some y ∧ x = renE (pos l) y := fun j x e => by
    have e : (picks s (pos l) l)[j]? = some x := e
    rw [picks_get] at e
    cases hj : l[j]? with
    | none => rw [hj] at e; cases e
    | some b =>
      have hb := List.mem_of_getElem? hj
      obtain ⟨y, hy, _⟩ := hents b hb
      rw [hj] at e
      simp only [Option.map_some, hy, Option.some.injEq] at e
      exact ⟨b, y, rfl, hb, hy, e.symm⟩
  have hsome : ∀ j X, ρ0 j = some X → ∃ b, l[j]? = some b ∧ b ∈ l ∧ ρ b = some X := fun j X e => by
    cases hj : l[j]? with
    | none =>
      have : l.length ≤ j := List.getElem?_eq_none_iff.1 hj
      rw [hatn j this] at e; cases e
    | some b => exact ⟨b, rfl, List.mem_of_getElem? hj, by rw [← hat j b hj]; exact e⟩
  refine ⟨ρ0, ⟨⟨?_, ?_, ?_, ?_, ?_, hr.globs fun B _ hF => ⟨rfl, fun id o' r x cs h1 h2 h3 h4 => ?_⟩⟩, fun j hj => hatn j (by rwa [picks_length] at hj)⟩, hpos, hat, hfz, hatn⟩
  · intro j B o r x ro cs h1 h2 h3
    obtain ⟨b, y, hj, hb, hy, rfl⟩ := hget j x h2
    have h1' : ρ b = some (B, o, r) := by rw [← hat j b hj]; exact h1
    obtain ⟨y', hy', hids⟩ := hents b hb
    rw [hy] at hy'; cases hy'
    exact Holds.renE hfz' (fun c hc z hz => by rw [hpos c (hids c hc)]; exact hz) h3 (fun ro' cs' e => hr.cell b B o r y ro' cs' h1' (by rw [hh b hb]; exact hy) e)
  · intro i j B o r o' r' x y ro ro' cs cs' hij h1 h2 h3 h4 h5 h6 h7 h8 h9
    obtain ⟨b, xb, hi, hb, hxb, rfl⟩ := hget i x h5
    obtain ⟨c, yc, hj, hc, hyc, rfl⟩ := hget j y h6
    obtain ⟨cs1, v1, _⟩ := view_ren h7
    obtain ⟨cs2, v2, _⟩ := view_ren h8
    refine hr.apart b c B o r o' r' xb yc ro ro' cs1 cs2 (fun e => hij ?_) (by rw [← hat i b hi]; exact h1) (by rw [← hat j c hj]; exact h2) h3 h4 (by rw [hh b hb]; exact hxb) (by rw [hh c hc]; exact hyc) v1 v2 h9
    subst e
    rw [← pos_of hnd hi, ← pos_of hnd hj]
  · intro B o v e
    rw [hfz] at e
    exact hr.fzh B o v e
  · intro B o v e id o' r x cs h1 h2 h3 h4
    rw [hfz] at e
    obtain ⟨b, xb, hi, hb, hxb, rfl⟩ := hget id x h3
    obtain ⟨cs1, v1, _⟩ := view_ren h4
    exact hr.fza B o v e b o' r xb cs1 (by rw [← hat id b hi]; exact h1) h2 (by rw [hh b hb]; exact hxb) v1
  · intro j hj
    obtain ⟨X, hX⟩ := Option.ne_none_iff_exists'.1 hj
    obtain ⟨b, hb1, hb2, _⟩ := hsome j X hX
    show (picks s (pos l) l)[j]? ≠ none
    rw [picks_get, hb1]
    simp
  · obtain ⟨b, xb, hi, hb, hxb, rfl⟩ := hget id x h3
    obtain ⟨cs1, v1, _⟩ := view_ren h4
    exact hF b o' r xb cs1 (by rw [← hat id b hi]; exact h1) h2 (by rw [hh b hb]; exact hxb) v1

theorem compact_sound {ρ : Rho} {s : St} {w : World} {n : Nat} {vs vs' : List AV} {s' : St} (k : InvC ρ s w) (hn : n ≤ s.length) (e : compact n vs s = some (vs', s')) :
    n ≤ s'.length ∧ ∃ ρ', PostC n ρ s w ρ' s' w ∧ (∀ us, Rels ρ vs us → Rels ρ' vs' us) ∧ (∀ arr, TR ρ vs arr → TR ρ' vs' arr) := by
  unfold compact at e
  simp only at e
  generalize hl : reach s (s.length * s.length + 100) (idsEs (s.take n) ++ idsVs vs) (upto n) = l at e
  split at e
  · rename_i hchk
    cases e
    simp only [Bool.and_eq_true] at hchk
    obtain ⟨hc, hpre⟩ := hchk
    have hpre := eqNats_eq hpre
    have hgetn : ∀ i, i < n → l[i]? = some i := fun i hi => by
      have h1 := upto_get n i hi
      rw [← hpre, List.getElem?_take, if_pos hi] at h1
      exact h1
    have hln : n ≤ l.length := by
      rcases Nat.lt_or_ge l.length n with h | h
      · have := hgetn l.length h
        rw [List.getElem?_eq_none (Nat.le_refl _)] at this; cases this
      · exact h
    obtain ⟨ρ0, hinv, hpos, hat, hfz, hatn⟩ := pick_inv (vs := vs) k.hr (fun b hb => rfl) hc
    have hc' := hc
    simp only [closedL, Bool.and_eq_true] at hc'
    have hmem := allMem_iff.1 hc'.1
    have hents := entsMem_spec hc'.2.1
    have hfz' : ∀ B o v, ρ.fz B o = some v → ρ0.fz B o = some v := fun B o v e => by rw [hfz]; exact e
    have hm : ∀ b ∈ idsVs vs, ∀ x, ρ b = some x → ρ0 (pos l b) = some x := fun b hb x hx => by rw [hpos b (hmem b hb)]; exact hx
    have back : ∀ j x v o r B, ρ0 j = some (B, o, r) → hpS (picks s (pos l) l) j = some x → x.view = some v → ∃ b y cs, ρ b = some (B, o, r) ∧ s[b]? = some y ∧ y.view = some (v.1, cs) := fun j x v o r B h1 h2 h3 => by
      have h2 : (picks s (pos l) l)[j]? = some x := h2
      rw [picks_get] at h2
      cases hj : l[j]? with
      | none => rw [hj] at h2; cases h2
      | some b =>
        obtain ⟨y, hy, _⟩ := hents b (List.mem_of_getElem? hj)
        rw [hj] at h2
        simp only [Option.map_some, hy, Option.some.injEq] at h2
        subst h2
        obtain ⟨cs, v1, _⟩ := view_ren h3
        exact ⟨b, y, cs, by rw [← hat j b hj]; exact h1, hy, v1⟩
    refine ⟨by rw [picks_length]; exact hln, ρ0, ⟨hinv, fun i hi => hat i i (hgetn i hi), hfz', by rw [picks_length]; exact hln, rfl, rfl, rfl, Nat.le_refl _, fun B hB hF => ⟨rfl, fun j o r x cs h1 h2 h3 h4 => ?_⟩, fun B hB hF j o r x v h1 h2 h3 h4 => ?_, fun B o v e => .inl (by rw [hfz] at e; exact e)⟩, fun us hus => Rels.ren hfz' vs us hm hus, fun arr harr => TR.ren hfz' hm harr⟩
    · obtain ⟨b, y, cs', k1, k2, k3⟩ := back j x _ o r B h1 h3 h4
      exact hF b o r y cs' k1 h2 k2 k3
    · obtain ⟨b, y, cs', k1, k2, k3⟩ := back j x _ o r B h1 h3 h4
      exact hF b o r y _ k1 h2 k2 k3
  · cases e
end Go.Sy

/- Calls of just the blocks that they can come to. -/
set_option linter.unusedSimpArgs false
set_option linter.unusedVariables false
namespace Go.Sy
open Go

/- ### what is named is there -/
mutual
theorem ids_real {ρ : Rho} : ∀ (a : AV) (v : Value), Rel ρ a v → ∀ b ∈ idsV a, ρ b ≠ none
  | .any, _, h, b, hb => by simp [idsV] at hb
  | .bool _, _, h, b, hb => by simp [idsV] at hb
  | .int _ _, _, h, b, hb => by simp [idsV] at hb
  | .str _, _, h, b, hb => by simp [idsV] at hb
  | .ptr none, _, h, b, hb => by simp [idsV] at hb
  | .ptr (some (c, off)), _, h, b, hb => by
    simp only [Rel] at h
    obtain ⟨B, o, r, h1, _⟩ := h
    simp [idsV] at hb; subst hb; rw [h1]; simp
  | .nilSl, _, h, b, hb => by simp [idsV] at hb
  | .sl c off len cap, _, h, b, hb => by
    simp only [Rel] at h
    obtain ⟨B, o, r, h1, _⟩ := h
    simp [idsV] at hb; subst hb; rw [h1]; simp
  | .fn g first caps, _, h, b, hb => by
    simp only [Rel] at h
    obtain ⟨x, y, _, h2, h3⟩ := h
    simp only [idsV, List.mem_append] at hb
    rcases hb with hb | hb
    · exact ids_reals first x h2 b hb
    · exact ids_reals caps y h3 b hb
  | .nilFn, _, h, b, hb => by simp [idsV] at hb
  | .lit _, _, h, b, hb => by simp [idsV] at hb
  | .agg cs, _, h, b, hb => by
    simp only [Rel] at h
    obtain ⟨l, _, h2⟩ := h
    exact ids_reals cs l h2 b (by simpa [idsV] using hb)
  | .tup cs, _, h, b, hb => by
    simp only [Rel] at h
    obtain ⟨l, _, h2⟩ := h
    exact ids_reals cs l h2 b (by simpa [idsV] using hb)
  | .fz _ _ _, _, h, b, hb => by simp [idsV] at hb
  | .fref _ _, _, h, b, hb => by simp [idsV] at hb
  | .tsl nn e c off len cap, _, h, b, hb => by
    simp only [Rel] at h
    obtain ⟨B, o, r, h1, _⟩ := h
    simp [idsV] at hb; subst hb; rw [h1]; simp
  | .eptr e c i fo, _, h, b, hb => by
    simp only [Rel] at h
    obtain ⟨B, o, r, h1, _⟩ := h
    simp [idsV] at hb; subst hb; rw [h1]; simp
theorem ids_reals {ρ : Rho} : ∀ (as : List AV) (vs : List Value), Rels ρ as vs → ∀ b ∈ idsVs as, ρ b ≠ none
  | [], _, h, b, hb => by simp [idsVs] at hb
  | a :: as, _, h, b, hb => by
    simp only [Rels] at h
    obtain ⟨v, vs, rfl, h1, h2⟩ := h
    simp only [idsVs, List.mem_append] at hb
    rcases hb with hb | hb
    · exact ids_real a v h1 b hb
    · exact ids_reals as vs h2 b hb
end
theorem ground_real {ρ : Rho} {h : Hp} {w : World} {s : St} (hr : HR ρ h w) (ha : Agree s h) : ∀ (l known : List Nat), groundL s known l = true → (∀ b ∈ known, ρ b ≠ none) → ∀ b ∈ l, ρ b ≠ none
  | [], known, hg, hk, b, hb => by simp at hb
  | c :: l, known, hg, hk, b, hb => by
    simp only [groundL] at hg
    split at hg
    · rename_i x hx
      simp only [Bool.and_eq_true] at hg
      have hc := hk c (mem_iff.1 hg.1)
      rcases List.mem_cons.1 hb with rfl | hb
      · exact hc
      · refine ground_real hr ha l _ hg.2 (fun d hd => ?_) b hb
        rcases List.mem_append.1 hd with hd | hd
        · cases x with
          | cells cs =>
            obtain ⟨vs, hvs⟩ := hr.cellsOf ha c cs hx hc
            exact ids_reals cs vs hvs d (by simpa [idsE] using hd)
          | tbl ro e l => simp [idsE] at hd
          | dead => simp [idsE] at hd
        · exact hk d hd
    · cases hg

/- ### blocks laid back -/
theorem backs_nil {f : Nat → Nat} : ∀ (xs s : St), backs f s [] xs = s ++ xs.map (renE f)
  | [], s => by simp [backs]
  | x :: xs, s => by simp [backs, backs_nil xs]
theorem backs_spec {f : Nat → Nat} : ∀ (l : List Nat) (xs s : St), l.Nodup → (∀ b ∈ l, b < s.length) → l.length ≤ xs.length →
    (backs f s l xs).length = s.length + (xs.length - l.length) ∧ (∀ (j b : Nat), l[j]? = some b → (backs f s l xs)[b]? = (xs[j]?).map (renE f)) ∧
      (∀ (i : Nat), i < s.length → i ∉ l → (backs f s l xs)[i]? = s[i]?) ∧ (∀ (i : Nat), s.length ≤ i → (backs f s l xs)[i]? = (xs[l.length + (i - s.length)]?).map (renE f))
  | [], xs, s, hn, hb, hl => by
    rw [backs_nil]
    refine ⟨by simp, fun j b h => by simp at h, fun i hi _ => by rw [List.getElem?_append_left hi], fun i hi => ?_⟩
    rw [List.getElem?_append_right hi, List.getElem?_map]
    simp
  | b :: l, [], s, hn, hb, hl => by simp at hl
  | b :: l, x :: xs, s, hn, hb, hl => by
    have hn' := List.nodup_cons.1 hn
    have hbl := hb b (by simp)
    simp only [backs]
    obtain ⟨h1, h2, h3, h4⟩ := backs_spec (f := f) l xs (s.set b (renE f x)) hn'.2 (fun c hc => by rw [List.length_set]; exact hb c (List.mem_cons_of_mem _ hc)) (by simpa using hl)
    rw [List.length_set] at h1 h3 h4
    refine ⟨by rw [h1]; simp, fun j c hj => ?_, fun i hi hil => ?_, fun i hi => ?_⟩
    · cases j with
      | zero =>
        simp at hj; subst hj
        rw [h3 b hbl hn'.1, List.getElem?_set_self hbl]; rfl
      | succ j => simpa using h2 j c (by simpa using hj)
    · simp only [List.mem_cons, not_or] at hil
      rw [h3 i hi hil.2, List.getElem?_set_ne (fun e => hil.1 e.symm)]
    · rw [h4 i hi, List.length_cons, show l.length + 1 + (i - s.length) = (l.length + (i - s.length)) + 1 by omega, List.getElem?_cons_succ]
theorem back_run {s : St} {l fr : List Nat} {v : AV} {s' : St} {tch : List Nat} : ∀ {T : RT}, (T.back s l fr).run = some (v, s', tch) → ∃ v0 s0 tch0, T.run = some (v0, s0, tch0) ∧ v = renV (fwd s l) v0 ∧ s' = backs (fwd s l) s l s0 ∧ tch = l ++ fr
  | .fail, e => by cases e
  | .ok g v0 s0 tch0, e => by
    simp only [RT.back] at e
    obtain ⟨h1, h2, h3, h4⟩ := run_ok e
    exact ⟨v0, s0, tch0, by simp [RT.run, h1], h2, h3, h4⟩
  | .br b x y, e => by
    simp only [RT.back] at e
    rcases run_br e with ⟨hb, e⟩ | ⟨hb, e⟩
    · obtain ⟨v0, s0, t0, h1, h2⟩ := back_run e
      exact ⟨v0, s0, t0, by simp [RT.run, hb, h1], h2⟩
    · obtain ⟨v0, s0, t0, h1, h2⟩ := back_run e
      exact ⟨v0, s0, t0, by simp [RT.run, hb, h1], h2⟩

/- ### functions whose answer is told -/
structure SpecOk (P : Program) (g : FuncId) (f : List AV → St → RT) : Prop where
  len : ∀ args s v s' tch, (f args s).run = some (v, s', tch) → s.length ≤ s'.length
  calls : ∀ args s v s' tch, (f args s).run = some (v, s', tch) → ∀ ρ w vargs, InvC ρ s w → Rels ρ args vargs →
    Calls P g vargs.toArray w fun e w' => ∃ u ρ', e = .returned u ∧ PostC s.length ρ s w ρ' s' w' ∧ Rel ρ' v u
def PrOk (P : Program) (pr : FuncId → Option Spec) : Prop := ∀ g sp, pr g = some sp → SpecOk P g sp.f

theorem callS_ok {P : Program} {pr : FuncId → Option Spec} (hpr : PrOk P pr) : CallOk P (callS pr) := by
  have key : ∀ g args s v s' tch, (callS pr g args s).run = some (v, s', tch) → (s.length ≤ s'.length ∧ ∀ b, b < s.length → b ∉ tch → s'[b]? = s[b]?) ∧
      ∀ (ρ : Rho) (h : Hp) (w : World) (vargs : List Value), HR ρ h w → Agree s h → Fresh ρ s s' → Rels ρ args vargs → Calls P g vargs.toArray w (Answers P ρ h w s v s') := by
    intro g args s v s' tch e
    unfold callS at e
    split at e
    · cases e
    · rename_i sp hsp
      split at e
      · cases e
      · rename_i gd args' fr hm
        simp only at e
        generalize hl : reach (freeze s fr) ((freeze s fr).length * (freeze s fr).length + 100) (idsVs args') [] = l at e
        split at e
        · rename_i hchk
          simp only [Bool.and_eq_true] at hchk
          obtain ⟨hcl, hlive, hground⟩ := hchk
          rcases run_br e with ⟨hgd, e⟩ | ⟨_, e⟩
          · obtain ⟨v0, s0, tch0, hrun, rfl, rfl, rfl⟩ := back_run e
            have hSp := hpr g sp hsp
            have hlen0 := hSp.len _ _ _ _ _ hrun
            rw [picks_length] at hlen0
            have hcl' := hcl
            simp only [closedL, Bool.and_eq_true] at hcl'
            have hnd := nodupL_iff hcl'.2.2
            have hents := entsMem_spec hcl'.2.1
            have hlt : ∀ b ∈ l, b < (freeze s fr).length := fun b hb => by
              obtain ⟨x, hx, _⟩ := hents b hb
              exact (List.getElem?_eq_some_iff.1 hx).1
            have hfl := freeze_length fr s
            obtain ⟨b1, b2, b3, b4⟩ := backs_spec (f := fwd (freeze s fr) l) l s0 (freeze s fr) hnd hlt hlen0
            refine ⟨⟨by omega, fun b hb ht => ?_⟩, fun ρ h w vargs hr ha hf hrel => ?_⟩
            · simp only [List.mem_append, not_or] at ht
              rw [b3 b (by omega) ht.1]
              exact freeze_other fr s ht.2
            · subst hgd
              -- freeze, pick
              obtain ⟨ρ1, hp1, hat1, hF⟩ := freeze_post fr hr ha (modes_ids (hr.cellsOf ha) hm hrel)
              have hargs := modes_sound hm (Rels.mono hp1.ext _ _ hrel) hF
              have hh1 : ∀ b ∈ l, upd (freeze s fr) h b = (freeze s fr)[b]? := fun b hb => upd_lt (hlt b hb)
              obtain ⟨ρ0, hinv, hpos, hat, hfz, hatn⟩ := pick_inv (vs := args') hp1.hr hh1 hcl
              have hreal := ground_real hp1.hr hp1.agree l _ hground (ids_reals args' vargs hargs)
              have hfz0 : ∀ B o v, ρ1.fz B o = some v → ρ0.fz B o = some v := fun B o v e => by rw [hfz]; exact e
              have hargs0 : Rels ρ0 (renVs (pos l) args') vargs := Rels.ren hfz0 args' vargs (fun b hb x hx => by rw [hpos b (allMem_iff.1 hcl'.1 b hb)]; exact hx) hargs
              refine (hSp.calls _ _ _ _ _ hrun ρ0 w vargs hinv hargs0).mono ?_
              rintro e' w' ⟨u, ρ0', rfl, hpc, hv⟩
              rw [picks_length] at hpc
              -- where things are now
              generalize hs1 : freeze s fr = s1 at *
              generalize hk : l.length = k at *
              generalize hsn : backs (fwd s1 l) s1 l s0 = s' at *
              obtain ⟨ρ', hρ'⟩ : ∃ ρ' : Rho, ρ' = { at_ := fun i => if i < s1.length ∨ s'.length ≤ i then ρ1 i else ρ0' (k + (i - s1.length)), fz := ρ0'.fz } := ⟨_, rfl⟩
              have hatO : ∀ i, (i < s1.length ∨ s'.length ≤ i) → ρ' i = ρ1 i := fun i hi => by rw [hρ']; simp only; rw [if_pos hi]
              have hatN : ∀ i, s1.length ≤ i → i < s'.length → ρ' i = ρ0' (k + (i - s1.length)) := fun i h1 h2 => by rw [hρ']; simp only; rw [if_neg (by omega)]
              have hfzE : ρ'.fz = ρ0'.fz := by rw [hρ']
              have hfzle : ∀ B o v, ρ1.fz B o = some v → ρ'.fz B o = some v := fun B o v e => by rw [hfzE]; exact hpc.fz B o v (hfz0 B o v e)
              have hfzle0 : ∀ B o v, ρ0'.fz B o = some v → ρ'.fz B o = some v := fun B o v e => by rw [hfzE]; exact e
              have hfwd : ∀ j X, ρ0' j = some X → ρ' (fwd s1 l j) = some X := fun j X hj => by
                unfold fwd
                cases hlj : l[j]? with
                | some b =>
                  have hjk : j < k := by rw [← hk]; exact (List.getElem?_eq_some_iff.1 hlj).1
                  have hb := List.mem_of_getElem? hlj
                  simp only
                  rw [hatO b (.inl (hlt b hb)), ← hat j b hlj, ← hpc.base j hjk]; exact hj
                | none =>
                  have hjk : k ≤ j := by rw [← hk]; exact List.getElem?_eq_none_iff.1 hlj
                  have hj0 : j < s0.length := by
                    rcases Nat.lt_or_ge j s0.length with h1 | h1
                    · exact h1
                    · rw [hpc.inv.dom j h1] at hj; cases hj
                  simp only
                  rw [hk, hatN _ (by omega) (by omega), show k + (s1.length + (j - k) - s1.length) = j by omega]
                  exact hj
              -- an entry of the callee's, or another one
              have hcls : ∀ i X x, ρ' i = some X → upd s' (upd s1 h) i = some x →
                  (∃ j x0, ρ0' j = some X ∧ s0[j]? = some x0 ∧ x = renE (fwd s1 l) x0 ∧ fwd s1 l j = i) ∨ (i ∉ l ∧ ρ1 i = some X ∧ upd s1 h i = some x) := fun i X x h1 h2 => by
                by_cases hil : i ∈ l
                · left
                  have hjl := pos_get hil
                  have hil' := hlt i hil
                  rw [upd_lt (by omega), b2 _ i hjl] at h2
                  cases hx0 : s0[pos l i]? with
                  | none => rw [hx0] at h2; cases h2
                  | some x0 =>
                    rw [hx0] at h2
                    simp only [Option.map_some, Option.some.injEq] at h2
                    refine ⟨pos l i, x0, ?_, hx0, h2.symm, by unfold fwd; rw [hjl]⟩
                    rw [hpc.base _ (by rw [← hk]; exact pos_lt hil), hpos i hil, ← hatO i (.inl hil')]; exact h1
                · by_cases hN : s1.length ≤ i ∧ i < s'.length
                  · left
                    rw [hatN i hN.1 hN.2] at h1
                    rw [upd_lt hN.2, b4 i hN.1] at h2
                    cases hx0 : s0[k + (i - s1.length)]? with
                    | none => rw [hx0] at h2; cases h2
                    | some x0 =>
                      rw [hx0] at h2
                      simp only [Option.map_some, Option.some.injEq] at h2
                      refine ⟨_, x0, h1, hx0, h2.symm, ?_⟩
                      unfold fwd
                      rw [List.getElem?_eq_none (by rw [hk]; omega), hk]
                      simp only
                      omega
                  · right
                    have hO : i < s1.length ∨ s'.length ≤ i := by omega
                    rw [hatO i hO] at h1
                    refine ⟨hil, h1, ?_⟩
                    rcases hO with hO | hO
                    · rw [upd_lt (by omega), b3 i hO hil] at h2
                      rw [upd_lt hO]; exact h2
                    · rw [upd_ge hO] at h2; exact h2
              -- the callee's blocks ahead of the call, seen from here
              have hback : ∀ j x v o r B, ρ0 j = some (B, o, r) → hpS (picks s1 (pos l) l) j = some x → x.view = some v → ∃ b y cs, b ∈ l ∧ ρ1 b = some (B, o, r) ∧ upd s1 h b = some y ∧ y.view = some (v.1, cs) := fun j x v o r B h1 h2 h3 => by
                have h2 : (picks s1 (pos l) l)[j]? = some x := h2
                rw [picks_get] at h2
                cases hj : l[j]? with
                | none => rw [hj] at h2; cases h2
                | some b =>
                  have hb := List.mem_of_getElem? hj
                  obtain ⟨y, hy, _⟩ := hents b hb
                  rw [hj] at h2
                  simp only [Option.map_some, hy, Option.some.injEq] at h2
                  subst h2
                  obtain ⟨cs, v1, _⟩ := view_ren h3
                  exact ⟨b, y, cs, hb, by rw [← hat j b hj]; exact h1, by rw [hh1 b hb]; exact hy, v1⟩
              have hOutC : ∀ i B o r x cs, i ∉ l → ρ1 i = some (B, o, r) → r ≠ 0 → upd s1 h i = some x → x.view = some (false, cs) → Out ρ0 (hpS (picks s1 (pos l) l)) B := fun i B o r x cs hi h1 h2 h3 h4 j o' r' y v k1 k2 k3 k4 => by
                obtain ⟨b, z, cs', hb, q1, q2, q3⟩ := hback j y v o' r' B k1 k3 k4
                exact hp1.hr.apart i b B o r o' r' x z false v.1 cs cs' (fun e => hi (e ▸ hb)) h1 q1 h2 k2 h3 q2 h4 q3 (.inl rfl)
              have hFreeC : ∀ i B o r x v, i ∉ l → ρ1 i = some (B, o, r) → r ≠ 0 → upd s1 h i = some x → x.view = some v → Free ρ0 (hpS (picks s1 (pos l) l)) B := fun i B o r x v hi h1 h2 h3 h4 j o' r' y cs k1 k2 k3 k4 => by
                obtain ⟨b, z, cs', hb, q1, q2, q3⟩ := hback j y _ o' r' B k1 k3 k4
                exact hp1.hr.apart i b B o r o' r' x z v.1 false v.2 cs' (fun e => hi (e ▸ hb)) h1 q1 h2 k2 h3 q2 h4 q3 (.inr rfl)
              have hlt1 : ∀ i B o r x v, ρ1 i = some (B, o, r) → r ≠ 0 → upd s1 h i = some x → x.view = some v → B < w.heap.size := fun i B o r x v h1 h2 h3 h4 => (hp1.hr.cell i B o r x v.1 v.2 h1 h3 h4).lt h2
              have hFree0 : ∀ B, Free ρ1 (upd s1 h) B → Free ρ0 (hpS (picks s1 (pos l) l)) B := fun B hF j o' r' y cs k1 k2 k3 k4 => by
                obtain ⟨b, z, cs', hb, q1, q2, q3⟩ := hback j y _ o' r' B k1 k3 k4
                exact hF b o' r' z cs' q1 k2 q2 q3
              have hOut0 : ∀ B, Out ρ1 (upd s1 h) B → Out ρ0 (hpS (picks s1 (pos l) l)) B := fun B hF j o' r' y v k1 k2 k3 k4 => by
                obtain ⟨b, z, cs', hb, q1, q2, q3⟩ := hback j y _ o' r' B k1 k3 k4
                exact hF b o' r' z _ q1 k2 q2 q3
              have hls : s1.length ≤ s'.length := by omega
              have hfzh' : ∀ (B o : Nat) (v : Value), ρ'.fz B o = some v → w'.cell? ⟨B, o, none⟩ = some v := fun B o v e => hpc.inv.hr.fzh B o v (by rw [hfzE] at e; exact e)
              have hle1 : ρ1.le ρ' := by
                refine ⟨fun i x e => ?_, hfzle⟩
                by_cases hO : i < s1.length ∨ s'.length ≤ i
                · rw [hatO i hO]; exact e
                · exfalso
                  have := hf i (by omega) (by omega)
                  rw [hat1, this] at e
                  cases e
              have hframe : ∀ B, B < w.heap.size → Free ρ h B → w'.heap[B]? = w.heap[B]? ∧ Free ρ' (upd s' (upd s1 h)) B := fun B hB hF => by
                have f1 := (hp1.frame B hB hF).2
                obtain ⟨g1, g2⟩ := hpc.frame B hB (hFree0 B f1)
                refine ⟨g1, fun i o r x cs h1 h2 h3 h4 => ?_⟩
                rcases hcls i _ x h1 h3 with ⟨j, x0, k1, k2, rfl, k4⟩ | ⟨hil, k1, k2⟩
                · obtain ⟨c1, v1, _⟩ := view_ren h4
                  exact g2 j o r x0 c1 k1 h2 k2 v1
                · exact f1 i o r x cs k1 h2 k2 h4
              have HRn : HR ρ' (upd s' (upd s1 h)) w' := by
                refine ⟨?_, ?_, hfzh', ?_, ?_, hr.globs hframe⟩
                · intro i B o r x ro cs h1 h2 h3
                  rcases hcls i _ x h1 h2 with ⟨j, x0, k1, k2, rfl, k4⟩ | ⟨hil, k1, k2⟩
                  · exact Holds.renE (v := (ro, cs)) hfzle0 (fun c _ y hy => hfwd c y hy) h3 (fun ro' cs' e => hpc.inv.hr.cell j B o r x0 ro' cs' k1 k2 e)
                  · have H := hp1.hr.cell i B o r x ro cs k1 k2 h3
                    refine H.move hle1 hpc.size ?_ hfzh'
                    by_cases h0 : r = 0
                    · exact .inl h0
                    · exact .inr (hpc.frame B (H.lt h0) (hFreeC i B o r x _ hil k1 h0 k2 h3)).1
                · intro i i' B o r o' r' x y ro ro' cs cs' hii h1 h2 h3 h4 h5 h6 h7 h8 h9
                  rcases hcls i _ x h1 h5 with ⟨j, x0, k1, k2, rfl, k4⟩ | ⟨hil, k1, k2⟩
                  · obtain ⟨c1, v1, _⟩ := view_ren h7
                    rcases hcls i' _ y h2 h6 with ⟨j', y0, m1, m2, rfl, m4⟩ | ⟨hil', m1, m2⟩
                    · obtain ⟨c2, v2, _⟩ := view_ren h8
                      exact hpc.inv.hr.apart j j' B o r o' r' x0 y0 ro ro' c1 c2 (fun e => hii (by rw [← k4, ← m4, e])) k1 m1 h3 h4 k2 m2 v1 v2 h9
                    · have hB := hlt1 i' B o' r' y _ m1 h4 m2 h8
                      rcases h9 with rfl | rfl
                      · exact (hpc.frame B hB (hFreeC i' B o' r' y _ hil' m1 h4 m2 h8)).2 j o r x0 c1 k1 h3 k2 v1
                      · exact hpc.out B hB (hOutC i' B o' r' y cs' hil' m1 h4 m2 h8) j o r x0 _ k1 h3 k2 v1
                  · rcases hcls i' _ y h2 h6 with ⟨j', y0, m1, m2, rfl, m4⟩ | ⟨hil', m1, m2⟩
                    · obtain ⟨c2, v2, _⟩ := view_ren h8
                      have hB := hlt1 i B o r x _ k1 h3 k2 h7
                      rcases h9 with rfl | rfl
                      · exact hpc.out B hB (hOutC i B o r x cs hil k1 h3 k2 h7) j' o' r' y0 _ m1 h4 m2 v2
                      · exact (hpc.frame B hB (hFreeC i B o r x _ hil k1 h3 k2 h7)).2 j' o' r' y0 c2 m1 h4 m2 v2
                    · exact hp1.hr.apart i i' B o r o' r' x y ro ro' cs cs' hii k1 m1 h3 h4 k2 m2 h7 h8 h9
                · intro B o v e i o' r x cs h1 h2 h3 h4
                  rw [hfzE] at e
                  rcases hcls i _ x h1 h3 with ⟨j, x0, k1, k2, rfl, k4⟩ | ⟨hil, k1, k2⟩
                  · obtain ⟨c1, v1, _⟩ := view_ren h4
                    exact hpc.inv.hr.fza B o v e j o' r x0 c1 k1 h2 k2 v1
                  · have hB := hlt1 i B o' r x _ k1 h2 k2 h4
                    rcases hpc.fzn B o v e with e | e | e
                    · rw [hfz] at e
                      exact hp1.hr.fza B o v e i o' r x cs k1 h2 k2 h4
                    · omega
                    · exact e (hOutC i B o' r x cs hil k1 h2 k2 h4)
                · intro i hi
                  unfold upd
                  split
                  · rename_i hlt'
                    rw [List.getElem?_eq_getElem hlt']; simp
                  · rename_i hge
                    rw [if_neg (by omega)]
                    rw [hatO i (by omega)] at hi
                    have := hp1.hr.ent i hi
                    rwa [upd_ge (by omega)] at this
              refine ⟨u, ρ', rfl, ?_, Rel.ren hfzle0 v0 u (fun c _ x hx => hfwd c x hx) hv⟩
              have hHH : upd s' (upd s1 h) = upd s' h := upd_upd hls
              rw [hHH] at HRn hcls
              refine ⟨hp1.ext.trans hle1, fun i hi => ?_, rfl, HRn, upd_agree _ _, by omega, hpc.os, hpc.tape, hpc.output, hpc.size, fun B hB hF => ?_, fun B hB hF => ?_, fun B o v e => ?_, fun i hi hρ => ?_⟩
              · rcases Nat.lt_or_ge i s1.length with h1 | h1
                · rw [hatO i (.inl h1), hat1] at hi; exact absurd rfl hi
                · rcases Nat.lt_or_ge i s'.length with h2 | h2
                  · exact ⟨by omega, h2⟩
                  · rw [hatO i (.inr h2), hat1] at hi; exact absurd rfl hi
              · have f1 := (hp1.frame B hB hF).2
                obtain ⟨g1, g2⟩ := hpc.frame B hB (hFree0 B f1)
                refine ⟨g1, fun i o r x cs h1 h2 h3 h4 => ?_⟩
                rcases hcls i _ x h1 h3 with ⟨j, x0, k1, k2, rfl, k4⟩ | ⟨hil, k1, k2⟩
                · obtain ⟨c1, v1, _⟩ := view_ren h4
                  exact g2 j o r x0 c1 k1 h2 k2 v1
                · exact f1 i o r x cs k1 h2 k2 h4
              · have f1 := hp1.out B hB hF
                have g2 := hpc.out B hB (hOut0 B f1)
                intro i o r x v h1 h2 h3 h4
                rcases hcls i _ x h1 h3 with ⟨j, x0, k1, k2, rfl, k4⟩ | ⟨hil, k1, k2⟩
                · obtain ⟨c1, v1, _⟩ := view_ren h4
                  exact g2 j o r x0 _ k1 h2 k2 v1
                · exact f1 i o r x v k1 h2 k2 h4
              · rw [hfzE] at e
                rcases hpc.fzn B o v e with e | e | e
                · rw [hfz] at e
                  exact hp1.fzn B o v e
                · exact .inr (.inl e)
                · rcases Nat.lt_or_ge B w.heap.size with hB | hB
                  · exact .inr (.inr (fun hF => e (hOut0 B (hp1.out B hB hF))))
                  · exact .inr (.inl hB)
              · have hil : i ∉ l := fun hil => by
                  have := hreal i hil
                  rw [hat1] at this
                  exact this hρ
                rw [b3 i (by omega) hil]
                have := hp1.idle i hi hρ
                exact this
          · cases e
        · cases e
  exact ⟨fun g args s v s' tch e => (key g args s v s' tch e).1, fun g args s v s' tch e => (key g args s v s' tch e).2⟩
end Go.Sy

/- Slots at a loop's head; a call's end; functions and loops by their text. -/
set_option linter.unusedSimpArgs false
set_option linter.unusedVariables false
namespace Go.Sy
open Go

/- ### slots that are kept -/
def RelTs (ρ : Rho) : List AV → List Value → Prop
  | [], us => us = []
  | a :: as, us => ∃ u us', us = u :: us' ∧ RelT ρ a u ∧ RelTs ρ as us'
theorem RelTs.mono {ρ ρ' : Rho} (hle : ρ.le ρ') : ∀ {as : List AV} {us : List Value}, RelTs ρ as us → RelTs ρ' as us
  | [], us, h => h
  | a :: as, us, h => by
    obtain ⟨u, us', h1, h2, h3⟩ := h
    exact ⟨u, us', h1, h2.mono hle, RelTs.mono hle h3⟩
theorem RelTs.of_get {ρ : Rho} : ∀ {as : List AV} {us : List Value}, as.length = us.length → (∀ t : Nat, RelT ρ (as.getD t undefA) (us.getD t undef)) → RelTs ρ as us
  | [], us, hl, h => by simp at hl; exact List.eq_nil_of_length_eq_zero hl.symm
  | a :: as, [], hl, h => by simp at hl
  | a :: as, u :: us, hl, h => ⟨u, us, rfl, by simpa using h 0, RelTs.of_get (by simpa using hl) (fun t => by simpa using h (t + 1))⟩
theorem RelTs.get {ρ : Rho} : ∀ {as : List AV} {us : List Value}, RelTs ρ as us → as.length = us.length ∧ ∀ t : Nat, RelT ρ (as.getD t undefA) (us.getD t undef)
  | [], us, h => by
    simp only [RelTs] at h
    subst h
    exact ⟨rfl, fun t => .inr (by simpa using rel_undef ρ)⟩
  | a :: as, us, h => by
    obtain ⟨u, us', rfl, h2, h3⟩ := h
    obtain ⟨k1, k2⟩ := RelTs.get h3
    refine ⟨by simp [k1], fun t => ?_⟩
    cases t with
    | zero => simpa using h2
    | succ t => simpa using k2 t
theorem TR.list {ρ : Rho} {t : List AV} {arr : Array Value} (h : TR ρ t arr) : RelTs ρ t arr.toList :=
  RelTs.of_get (by rw [h.1]; simp) (fun i => by
    have := h.2 i
    rwa [show arr.getD i undef = arr.toList.getD i undef by rw [Array.getD_eq_getD_getElem?, List.getD]; simp] at this)
theorem RelTs.tr {ρ : Rho} {t : List AV} {arr : Array Value} (h : RelTs ρ t arr.toList) : TR ρ t arr := by
  obtain ⟨h1, h2⟩ := h.get
  refine ⟨by simpa using h1, fun i => ?_⟩
  have := h2 i
  rwa [show arr.toList.getD i undef = arr.getD i undef by rw [Array.getD_eq_getD_getElem?, List.getD]; simp] at this
theorem keepV_sound {m : Nat} {ρ : Rho} {s : St} {w : World} {k : Keep} {v v' : AV} {x : List Ent} {u : Value} (e : keepV s.length k v = some (v', x)) (hi : InvC ρ s w) (hn : m ≤ s.length) (hr : RelT ρ v u) :
    ∃ ρ', PostC m ρ s w ρ' (s ++ x) w ∧ ρ.le ρ' ∧ RelT ρ' v' u := by
  unfold keepV at e
  split at e
  · cases e
    exact ⟨ρ, by rw [List.append_nil]; exact PostC.refl hi hn, Rho.le.rfl, .inl rfl⟩
  · cases e
    exact ⟨ρ, by rw [List.append_nil]; exact PostC.refl hi hn, Rho.le.rfl, hr⟩
  · rename_i sh
    cases e
    rcases hr with hr | hr
    · cases hr
    · simp only [Rel] at hr
      subst hr
      have hp := fork_nil (x := .tbl false sh []) hi.hr (hpS_agree s) Kept.self hi.fresh (by simp [Ent.view, flat])
      refine ⟨_, hp.toC hi hn, hp.ext, .inr ?_⟩
      simp only [Rel]
      exact ⟨0, 0, 0, Rho.put_same _ _ _, .inl (by simp [Cap.top])⟩
  · rename_i sh nn e' b off len cap
    split at e
    · rename_i hb ho
      cases e
      have := Sh.beq_eq _ _ hb
      subst this
      have ho := beq_true_eq ho
      subst ho
      refine ⟨ρ, by rw [List.append_nil]; exact PostC.refl hi hn, Rho.le.rfl, .inr ?_⟩
      rcases hr with hr | hr
      · cases hr
      · simp only [Rel] at hr ⊢
        obtain ⟨B, o, r, h1, ⟨_, h2⟩ | h2⟩ := hr
        · exact ⟨B, o, r, h1, .inl ⟨trivial, h2⟩⟩
        · exact ⟨B, o, r, h1, .inr h2⟩
    · rename_i k hb ho
      cases e
      have := Sh.beq_eq _ _ hb
      subst this
      have ho := beq_true_eq ho
      subst ho
      refine ⟨ρ, by rw [List.append_nil]; exact PostC.refl hi hn, Rho.le.rfl, .inr ?_⟩
      rcases hr with hr | hr
      · cases hr
      · simp only [Rel] at hr ⊢
        obtain ⟨B, o, r, h1, ⟨_, h2, h3, h4, h5⟩ | ⟨c, h2, h3, h4, h5, h6⟩⟩ := hr
        · exact ⟨B, o, r, h1, .inl ⟨trivial, h2, by simp [Cap.top, h2], h4, h5⟩⟩
        · refine ⟨B, o, r, h1, .inr ⟨c, by simp [Cap.top], ?_, trivial, h5, h6⟩⟩
          simp only [Cap.top] at h2 h3 ⊢
          omega
    · cases e
  · cases e
  · cases e
theorem keepVs_sound {m : Nat} {w : World} : ∀ (vs : List AV) (ks : List Keep) (s : St) (ρ : Rho) (vs' : List AV) (x : List Ent) (us : List Value), keepVs s.length ks vs = some (vs', x) → InvC ρ s w → m ≤ s.length → RelTs ρ vs us →
    ∃ ρ', PostC m ρ s w ρ' (s ++ x) w ∧ ρ.le ρ' ∧ RelTs ρ' vs' us
  | [], ks, s, ρ, vs', x, us, e, hi, hn, hr => by
    have : keepVs s.length ks [] = some ([], []) := by cases ks <;> rfl
    rw [this] at e; cases e
    exact ⟨ρ, by rw [List.append_nil]; exact PostC.refl hi hn, Rho.le.rfl, hr⟩
  | v :: vs, [], s, ρ, vs', x, us, e, hi, hn, hr => by
    simp only [keepVs] at e
    split at e
    · cases e
    · rename_i l y hl
      cases e
      obtain ⟨u, us', rfl, h1, h2⟩ := hr
      obtain ⟨ρ', k1, k2, k3⟩ := keepVs_sound vs [] s ρ l x us' hl hi hn h2
      exact ⟨ρ', k1, k2, u, us', rfl, .inl rfl, k3⟩
  | v :: vs, k :: ks, s, ρ, vs', x, us, e, hi, hn, hr => by
    simp only [keepVs] at e
    split at e
    · cases e
    · rename_i v' x1 hv
      split at e
      · cases e
      · rename_i l y hl
        cases e
        obtain ⟨u, us', rfl, h1, h2⟩ := hr
        obtain ⟨ρ1, k1, k2, k3⟩ := keepV_sound (m := m) hv hi hn h1
        rw [← List.length_append] at hl
        obtain ⟨ρ2, m1, m2, m3⟩ := keepVs_sound (m := m) vs ks (s ++ x1) ρ1 l y us' hl k1.inv (by rw [List.length_append]; omega) (h2.mono k2)
        rw [List.append_assoc] at m1
        exact ⟨ρ2, k1.trans m1, k2.trans m2, u, us', rfl, k3.mono m2, m3⟩
theorem compact_len {n : Nat} {vs vs' : List AV} {s s' : St} (e : compact n vs s = some (vs', s')) : n ≤ s'.length := by
  unfold compact at e
  simp only at e
  split at e
  · rename_i hchk
    cases e
    simp only [Bool.and_eq_true] at hchk
    have hpre := eqNats_eq hchk.2
    have hl : ∀ n, (upto n).length = n := fun n => by induction n with
      | zero => rfl
      | succ n ih => simp [upto, ih]
    have := congrArg List.length hpre
    rw [hl, List.length_take] at this
    rw [picks_length]
    omega
  · cases e
/-- Of a block of cells less is told. -/
theorem HR.weak {ρ : Rho} {s : St} {w : World} {i : Nat} {cs cs' : List AV} (hr : HR ρ (hpS s) w) (hi : s[i]? = some (.cells cs)) (hl : cs'.length = cs.length) (h : ∀ vs, Rels ρ cs vs → Rels ρ cs' vs) : HR ρ (hpS (s.set i (.cells cs'))) w := by
  have hil : i < s.length := (List.getElem?_eq_some_iff.1 hi).1
  have key : ∀ j x ro as, hpS (s.set i (.cells cs')) j = some x → x.view = some (ro, as) → ∃ y bs, hpS s j = some y ∧ y.view = some (ro, bs) ∧ (j = i → bs = cs ∧ as = cs') ∧ (j ≠ i → bs = as) := by
    intro j x ro as hx hv
    unfold hpS at hx ⊢
    by_cases e : i = j
    · subst e
      rw [List.getElem?_set_self hil] at hx
      cases hx
      cases hv
      exact ⟨_, cs, hi, rfl, fun _ => ⟨rfl, rfl⟩, fun h => absurd rfl h⟩
    · rw [List.getElem?_set_ne e] at hx
      exact ⟨x, as, hx, hv, fun h => absurd h.symm e, fun _ => rfl⟩
  constructor
  · intro id B o r x ro as h1 h2 h3
    obtain ⟨y, bs, g1, g2, g3, g4⟩ := key _ _ _ _ h2 h3
    have H := hr.cell id B o r y ro bs h1 g1 g2
    by_cases e : id = i
    · obtain ⟨rfl, rfl⟩ := g3 e
      obtain ⟨vs, k1, k2, k3⟩ := H.vals
      exact ⟨by rw [hl]; exact H.fit, H.lt, ⟨vs, h vs k1, k2, k3⟩, H.there, H.free⟩
    · rw [g4 e] at H
      exact H
  · intro a b B o r o' r' x y ro ro' as as' hne h1 h2 h3 h4 h5 h6 h7 h8 h9
    obtain ⟨x', bs, g1, g2, _⟩ := key _ _ _ _ h5 h7
    obtain ⟨y', bs', k1, k2, _⟩ := key _ _ _ _ h6 h8
    exact hr.apart a b B o r o' r' x' y' ro ro' bs bs' hne h1 h2 h3 h4 g1 k1 g2 k2 h9
  · exact hr.fzh
  · intro B o v hv id o' r x as h1 h2 h3 h4
    obtain ⟨y, bs, g1, g2, _⟩ := key _ _ _ _ h3 h4
    exact hr.fza B o v hv id o' r y bs h1 h2 g1 g2
  · intro j hj
    have := hr.ent j hj
    unfold hpS at this ⊢
    by_cases e : i = j
    · subst e; rw [List.getElem?_set_self hil]; simp
    · rw [List.getElem?_set_ne e]; exact this
  · intro x hx
    obtain ⟨h1, h2⟩ := hr.glob x hx
    refine ⟨h1, fun id o r y as k1 k2 k3 k4 => ?_⟩
    obtain ⟨y', bs, g1, g2, _⟩ := key _ _ _ _ k3 k4
    exact h2 id o r y' bs k1 k2 g1 g2
theorem PostC.weak {n : Nat} {ρ ρ' : Rho} {s s' : St} {w w' : World} {i : Nat} {cs cs' : List AV} (hp : PostC n ρ s w ρ' s' w') (hi : s'[i]? = some (.cells cs)) (hl : cs'.length = cs.length) (h : ∀ vs, Rels ρ' cs vs → Rels ρ' cs' vs) : PostC n ρ s w ρ' (s'.set i (.cells cs')) w' := by
  have hil : i < s'.length := (List.getElem?_eq_some_iff.1 hi).1
  have key : ∀ j x ro as, hpS (s'.set i (.cells cs')) j = some x → x.view = some (ro, as) → ∃ y bs, hpS s' j = some y ∧ y.view = some (ro, bs) := by
    intro j x ro as hx hv
    unfold hpS at hx ⊢
    by_cases e : i = j
    · subst e
      rw [List.getElem?_set_self hil] at hx
      cases hx
      cases hv
      exact ⟨_, cs, hi, rfl⟩
    · rw [List.getElem?_set_ne e] at hx
      exact ⟨x, as, hx, hv⟩
  refine ⟨⟨hp.inv.hr.weak hi hl h, fun j hj => hp.inv.dom j (by rwa [List.length_set] at hj)⟩, hp.base, hp.fz, by rw [List.length_set]; exact hp.len, hp.os, hp.tape, hp.output, hp.size, fun B hB hF => ?_, fun B hB hO => ?_, hp.fzn⟩
  · obtain ⟨h1, h2⟩ := hp.frame B hB hF
    refine ⟨h1, fun id o r x as k1 k2 k3 k4 => ?_⟩
    obtain ⟨y, bs, g1, g2⟩ := key _ _ _ _ k3 k4
    exact h2 id o r y bs k1 k2 g1 g2
  · intro id o r x v k1 k2 k3 k4
    obtain ⟨y, bs, g1, g2⟩ := key _ _ v.1 v.2 k3 k4
    exact hp.out B hB hO id o r y _ k1 k2 g1 g2
theorem Rels.set_weak {ρ : Rho} : ∀ {cs : List AV} {j : Nat} {v v' : AV} {vs : List Value}, cs[j]? = some v → (∀ u, Rel ρ v u → Rel ρ v' u) → Rels ρ cs vs → Rels ρ (cs.set j v') vs
  | [], j, v, v', vs, h, _, _ => by simp at h
  | c :: cs, 0, v, v', vs, h, hv, hr => by
    simp only [List.getElem?_cons_zero, Option.some.injEq] at h
    subst h
    simp only [List.set_cons_zero, Rels] at hr ⊢
    obtain ⟨a, as, rfl, ha, has⟩ := hr
    exact ⟨a, as, rfl, hv a ha, has⟩
  | c :: cs, j + 1, v, v', vs, h, hv, hr => by
    simp only [List.getElem?_cons_succ] at h
    simp only [List.set_cons_succ, Rels] at hr ⊢
    obtain ⟨a, as, rfl, ha, has⟩ := hr
    exact ⟨a, as, rfl, ha, Rels.set_weak h hv has⟩
theorem tsl_weak {ρ : Rho} {e : Sh} {nn : Bool} {b len : Nat} {cap : Cap} (hc : cap = .tight ∨ ∃ c, cap = .known c) {u : Value} (hr : Rel ρ (.tsl nn e b 0 len cap) u) : Rel ρ (.tsl false e b 0 len .tight) u := by
  rcases hc with rfl | ⟨k, rfl⟩
  · simp only [Rel] at hr ⊢
    obtain ⟨B, o, r, h1, ⟨_, h2⟩ | h2⟩ := hr
    · exact ⟨B, o, r, h1, .inl ⟨trivial, h2⟩⟩
    · exact ⟨B, o, r, h1, .inr h2⟩
  · simp only [Rel] at hr ⊢
    obtain ⟨B, o, r, h1, ⟨_, h2, h3, h4, h5⟩ | ⟨c, h2, h3, h4, h5, h6⟩⟩ := hr
    · exact ⟨B, o, r, h1, .inl ⟨trivial, h2, by simp [Cap.top, h2], h4, h5⟩⟩
    · refine ⟨B, o, r, h1, .inr ⟨c, by simp [Cap.top], ?_, trivial, h5, h6⟩⟩
      simp only [Cap.top] at h2 h3 ⊢
      omega
theorem blkV_sound {m : Nat} {ρ : Rho} {s s' : St} {w : World} {t : List AV} {k j : Nat} {e : Sh} (h : blkV k j e t s = some s') (hi : InvC ρ s w) (hn : m ≤ s.length) : ∃ ρ', PostC m ρ s w ρ' s' w ∧ ρ.le ρ' := by
  unfold blkV at h
  split at h
  · rename_i b off hk
    split at h
    · rename_i cs hb
      split at h
      · rename_i hj
        cases h
        have hq := fork_nil (x := .tbl false e []) hi.hr (hpS_agree s) Kept.self hi.fresh (by simp [Ent.view, flat])
        refine ⟨_, (hq.toC hi hn).weak (i := b) (cs := cs) ?_ (by simp) fun vs hvs => Rels.set_weak hj (fun u hu => ?_) hvs, hq.ext⟩
        · rw [List.getElem?_append_left (List.getElem?_eq_some_iff.1 hb).1]; exact hb
        · simp only [Rel] at hu ⊢
          exact ⟨0, 0, 0, Rho.put_same _ _ _, .inl ⟨trivial, by simp [Cap.top], rfl, rfl, hu⟩⟩
      · rename_i nn e' b' off' len cap hj
        have go : Sh.beq e e' = true → Nat.beq off' 0 = true → (cap = .tight ∨ ∃ c, cap = .known c) → s' = s.set b (.cells (cs.set j (.tsl false e b' 0 len .tight))) → ∃ ρ', PostC m ρ s w ρ' s' w ∧ ρ.le ρ' := by
          intro h1 h2 h3 h4
          have h1 := Sh.beq_eq _ _ h1
          have h2 := beq_true_eq h2
          subst h1 h2 h4
          exact ⟨ρ, (PostC.refl hi hn).weak (i := b) hb (by simp) fun vs hvs => Rels.set_weak hj (fun u hu => tsl_weak h3 hu) hvs, Rho.le.rfl⟩
        split at h
        · rename_i h1 h2
          cases h
          exact go h1 h2 (.inl rfl) rfl
        · rename_i c h1 h2
          cases h
          exact go h1 h2 (.inr ⟨_, rfl⟩) rfl
        · cases h
      · cases h
    · cases h
  · cases h
theorem blkVs_sound {m : Nat} {w : World} {t : List AV} : ∀ (ks : List Keep) (s s' : St) (ρ : Rho), blkVs t ks s = some s' → InvC ρ s w → m ≤ s.length → ∃ ρ', PostC m ρ s w ρ' s' w ∧ ρ.le ρ'
  | [], s, s', ρ, h, hi, hn => by cases h; exact ⟨ρ, PostC.refl hi hn, Rho.le.rfl⟩
  | .blk k j e :: ks, s, s', ρ, h, hi, hn => by
    simp only [blkVs] at h
    split at h
    · rename_i s1 h1
      obtain ⟨ρ1, k1, k2⟩ := blkV_sound (m := m) h1 hi hn
      obtain ⟨ρ2, m1, m2⟩ := blkVs_sound ks s1 s' ρ1 h k1.inv k1.len
      exact ⟨ρ2, k1.trans m1, k2.trans m2⟩
    · cases h
  | .no :: ks, s, s', ρ, h, hi, hn => blkVs_sound ks s s' ρ h hi hn
  | .yes :: ks, s, s', ρ, h, hi, hn => blkVs_sound ks s s' ρ h hi hn
  | .bld _ :: ks, s, s', ρ, h, hi, hn => blkVs_sound ks s s' ρ h hi hn
theorem head_sound {n : Nat} {ks : List Keep} {t t' : List AV} {s s' : St} (e : headS n ks t s = some (t', s')) (hn : n ≤ s.length) : n ≤ s'.length ∧
    ∀ (ρ : Rho) (w : World) (arr : Array Value), InvC ρ s w → TR ρ t arr → ∃ ρ1, PostC n ρ s w ρ1 s' w ∧ TR ρ1 t' arr := by
  unfold headS at e
  split at e
  · cases e
  · rename_i s0 h0
    split at e
    · cases e
    · rename_i t1 x h1
      refine ⟨compact_len e, fun ρ w arr hi htr => ?_⟩
      obtain ⟨ρ0, p1, p2⟩ := blkVs_sound (m := n) ks s s0 ρ h0 hi hn
      obtain ⟨ρ1, k1, k2, k3⟩ := keepVs_sound (m := n) (w := w) t ks s0 ρ0 t1 x arr.toList h1 p1.inv p1.len (htr.mono p2).list
      obtain ⟨_, ρ2, m1, _, m2⟩ := compact_sound k1.inv (by rw [List.length_append]; have := p1.len; omega) e
      exact ⟨ρ2, (p1.trans k1).trans m1, m2 arr k3.tr⟩
theorem headK_some {n : Nat} {ks : List Keep} {k : List AV → St → Prop} {t : List AV} {s : St} (h : headK n ks k t s) : ∃ t' s', headS n ks t s = some (t', s') ∧ k t' s' := by
  unfold headK at h
  simp only [fTm_eq, fSt_eq] at h
  split at h
  · rename_i t' s' e; exact ⟨t', s', e, h⟩
  · exact h.elim

/- ### a call's end -/
theorem finish_sound {n : Nat} {ms : List Mode} {v v' : AV} {s s' : St} (e : finishS n ms v s = some (true, v', s')) (hn : n ≤ s.length) : n ≤ s'.length ∧
    ∀ (ρ : Rho) (w : World) (u : Value), InvC ρ s w → Rel ρ v u → ∃ ρ1, PostC n ρ s w ρ1 s' w ∧ Rel ρ1 v' u := by
  have go : ∀ (vs vs' : List AV) (fr : List Nat) (l : List AV) (s2 : St), modesS s ms vs = some (true, vs', fr) → compact n vs' (freeze s fr) = some (l, s2) → n ≤ s2.length ∧
      ∀ (ρ : Rho) (w : World) (us : List Value), InvC ρ s w → Rels ρ vs us → ∃ ρ1, PostC n ρ s w ρ1 s2 w ∧ Rels ρ1 l us := by
    intro vs vs' fr l s2 h1 h2
    refine ⟨compact_len h2, fun ρ w us hi hr => ?_⟩
    obtain ⟨ρ1, hp1, _, hF⟩ := freeze_post fr hi.hr (hpS_agree s) (modes_ids (hi.hr.cellsOf (hpS_agree s)) h1 hr)
    have hpc := hp1.toC hi hn
    have hargs := modes_sound h1 (Rels.mono hp1.ext _ _ hr) hF
    obtain ⟨_, ρ2, m1, m2, _⟩ := compact_sound hpc.inv (by rw [freeze_length]; exact hn) h2
    exact ⟨ρ2, hpc.trans m1, m2 us hargs⟩
  unfold finishS at e
  split at e
  · rename_i vs
    split at e
    · cases e
    · rename_i g vs' fr h1
      split at e
      · rename_i l s2 h2
        simp only [Option.some.injEq, Prod.mk.injEq] at e
        obtain ⟨rfl, rfl, rfl⟩ := e
        obtain ⟨k1, k2⟩ := go vs vs' fr l s2 h1 h2
        refine ⟨k1, fun ρ w u hi hr => ?_⟩
        simp only [Rel] at hr
        obtain ⟨us, rfl, hr⟩ := hr
        obtain ⟨ρ1, m1, m2⟩ := k2 ρ w us hi hr
        exact ⟨ρ1, m1, by simp only [Rel]; exact ⟨us, rfl, m2⟩⟩
      · cases e
  · split at e
    · cases e
    · rename_i g vs' fr h1
      split at e
      · rename_i v2 s2 h2
        simp only [Option.some.injEq, Prod.mk.injEq] at e
        obtain ⟨rfl, rfl, rfl⟩ := e
        obtain ⟨k1, k2⟩ := go [v] vs' fr [v2] s2 h1 h2
        refine ⟨k1, fun ρ w u hi hr => ?_⟩
        obtain ⟨ρ1, m1, m2⟩ := k2 ρ w [u] hi (Rels.cons hr Rels.nil)
        simp only [Rels] at m2
        obtain ⟨u', us', e', m3, rfl⟩ := m2
        cases e'
        exact ⟨ρ1, m1, m3⟩
      · cases e

section
variable {P : Program}
def resF (arr : Array Value) : ResultVar → Sem Value
  | .tmp t => pure (arr.getD t undef)
  | .cell a t => do loadVar t (← asAddr (arr.getD a undef))
theorem results_eq (fn : Func) (arr : Array Value) : results fn arr = (do let vs ← fn.results.mapM (resF arr); pure (if h : vs.size = 1 then vs[0] else .tuple vs)) := by
  rfl
theorem res_sound {ρ : Rho} {w : World} {s : St} {tmps : List AV} {arr : Array Value} (hr : HR ρ (hpS s) w) (htr : TR ρ tmps arr) : ∀ (rs : List ResultVar) (l : List AV), resS P s tmps rs = some l →
    ∃ vs, Rels ρ l vs ∧ (rs.mapM (resF arr)).run P w = .ok vs w
  | [], l, e => by simp only [resS] at e; cases e; exact ⟨[], Rels.nil, rfl⟩
  | .tmp t :: rs, l, e => by
    simp only [resS] at e
    split at e
    · rename_i v l' hv hl'
      cases e
      obtain ⟨vs, h1, h2⟩ := res_sound hr htr rs l' hl'
      obtain ⟨rfl, hne⟩ := known_some hv
      have hrel : Rel ρ (tmps.getD t undefA) (arr.getD t undef) := (htr.2 t).resolve_left hne
      refine ⟨arr.getD t undef :: vs, Rels.cons hrel h1, ?_⟩
      rw [List.mapM_cons]
      simp only [Sem.run_bind, resF, Sem.run_pure, Result.andThen_ok]
      rw [h2]
      rfl
    · cases e
  | .cell c t :: rs, l, e => by
    simp only [resS] at e
    split at e
    · rename_i b off n mk hrd
      split at e
      · rename_i x hx
        split at e
        · rename_i v hm
          split at e
          · rename_i l' hl'
            cases e
            obtain ⟨vs, h1, h2⟩ := res_sound hr htr rs l' hl'
            obtain ⟨u, h3, h4⟩ := rd_at_sound (P := P) (h := hpS s) (a := { tmps := arr, defers := [] }) (o := { dst := none, op := .load t (.tmp c), type := 0, pos := "", after := #[], guard := none }) hr htr hrd hx hm
            have hp : ∃ p, arr.getD c undef = .pointer (some p) := by
              have htc := htr.2 c
              simp only [readA, evA] at hrd
              split at hrd
              · rename_i b' off' hx'
                obtain ⟨e1, hne⟩ := known_some hx'
                rw [← e1] at htc hne
                have := htc.resolve_left hne
                simp only [Rel] at this
                obtain ⟨B, o, r, _, e⟩ := this
                exact ⟨_, e⟩
              · rename_i e' b' i' fo' hx'
                obtain ⟨e1, hne⟩ := known_some hx'
                rw [← e1] at htc hne
                exact (htc.resolve_left hne).eptr_form
              · rename_i sh' d' hx'
                obtain ⟨e1, hne⟩ := known_some hx'
                rw [← e1] at htc hne
                exact (htc.resolve_left hne).fref_form
              · cases hrd
            obtain ⟨p, hp⟩ := hp
            have h5 : (loadVar t p).run P w = .ok u w := by
              simp only [execOp, Instr.loadAt, Act.eval, hp, Instr.sureAddr, Sem.run_bind, Sem.run_pure, Result.andThen_ok] at h3
              revert h3
              cases (loadVar t p).run P w <;> simp [Result.andThen]
            refine ⟨u :: vs, Rels.cons h4 h1, ?_⟩
            rw [List.mapM_cons]
            have h6 : (resF arr (.cell c t)).run P w = .ok u w := by simp only [resF, Sem.run_bind, hp, asAddr, Sem.run_pure, Result.andThen_ok, h5]
            rw [Sem.run_bind, h6]
            simp only [Result.andThen_ok, Sem.run_bind, h2, Sem.run_pure]
          · cases e
        · cases e
      · cases e
    · cases e
theorem result_sound {ρ : Rho} {w : World} {s : St} {tmps : List AV} {arr : Array Value} {fn : Func} {v : AV} (hr : HR ρ (hpS s) w) (htr : TR ρ tmps arr) (e : resultS P s tmps fn.results.toList = some v) :
    ∃ u, (results fn arr).run P w = .ok u w ∧ Rel ρ v u := by
  unfold resultS at e
  have key : ∀ vs, (fn.results.toList.mapM (resF arr)).run P w = .ok vs w → (results fn arr).run P w = .ok (if h : vs.toArray.size = 1 then vs.toArray[0] else .tuple vs.toArray) w := by
    intro vs h2
    rw [results_eq, Array.mapM_eq_mapM_toList]
    simp only [Sem.run_bind, Sem.run_map, h2, Result.andThen_ok]
    rfl
  split at e
  · rename_i x hx
    cases e
    obtain ⟨vs, h1, h2⟩ := res_sound (P := P) hr htr _ _ hx
    have h3 := key _ h2
    simp only [Rels] at h1
    obtain ⟨u, us, rfl, h4, rfl⟩ := h1
    exact ⟨u, by rw [h3]; rfl, h4⟩
  · rename_i l hne hx
    cases e
    obtain ⟨vs, h1, h2⟩ := res_sound (P := P) hr htr _ _ hx
    have h3 := key _ h2
    have hl := h1.length
    have hne1 : ¬ vs.toArray.size = 1 := fun e1 => by
      simp at e1
      have : l.length = 1 := by omega
      obtain ⟨x, rfl⟩ := List.length_eq_one_iff.1 this
      exact hne x rfl
    exact ⟨.tuple vs.toArray, by rw [h3, dif_neg hne1], by simp only [Rel]; exact ⟨vs, rfl, h1⟩⟩
  · cases e
theorem pad_rel (ρ : Rho) : ∀ n, Rels ρ (padA n) (List.replicate n undef)
  | 0 => Rels.nil
  | n + 1 => Rels.cons (rel_undef ρ) (pad_rel ρ n)
theorem Rels.tr {ρ : Rho} {l : List AV} {vs : List Value} (h : Rels ρ l vs) : TR ρ l vs.toArray := by
  refine ⟨by simp [h.length], fun t => .inr ?_⟩
  have hl := h.length
  simp only [List.getD, Array.getD_eq_getD_getElem?, List.getElem?_toArray]
  by_cases ht : t < l.length
  · obtain ⟨v, hv, hr⟩ := h.get t l[t] (List.getElem?_eq_getElem ht)
    rw [List.getElem?_eq_getElem ht, hv]
    exact hr
  · rw [List.getElem?_eq_none (by omega), List.getElem?_eq_none (by omega)]
    exact rel_undef ρ

/- ### loops, functions -/
def blockOf (P : Program) (g : FuncId) (id : Nat) : Option Code :=
  match P.funcs[g]? with
  | some fn => match fn.body with
    | some c => lookC id (blocksC c)
    | none => none
  | none => none
/-- Of a function's loops whose outcome is told. -/
def LoopsFor (P : Program) (g : FuncId) (n : Nat) (lp : Nat → Option LoopS) : Prop :=
  ∀ id F, lp id = some F → ∀ c, blockOf P g id = some c → ∀ t s k, n ≤ s.length → F t s k → RK n (fun Q => c.wp P Q) t s k
def distinctOk (P : Program) (g : FuncId) : Bool :=
  match P.funcs[g]? with
  | some fn => match fn.body with
    | some c => distinctC (blocksC c)
    | none => true
  | none => true
theorem noLoops {g : FuncId} {n : Nat} : LoopsFor P g n (fun _ => none) := fun id F h => by cases h
theorem blocks_draws : ∀ (c : Code), drawsOkA P c = true → ∀ p ∈ blocksC c, drawsOkA P p.2 = true ∧ ∀ q ∈ blocksC p.2, q ∈ blocksC c
  | .seq a b, hd, p, hp => by
    simp only [drawsOkA, Bool.and_eq_true] at hd
    simp only [blocksC, List.mem_append] at hp
    rcases hp with hp | hp
    · exact ⟨(blocks_draws a hd.1 p hp).1, fun q hq => by simp [blocksC, (blocks_draws a hd.1 p hp).2 q hq]⟩
    · exact ⟨(blocks_draws b hd.2 p hp).1, fun q hq => by simp [blocksC, (blocks_draws b hd.2 p hp).2 q hq]⟩
  | .cond _ a b, hd, p, hp => by
    simp only [drawsOkA, Bool.and_eq_true] at hd
    simp only [blocksC, List.mem_append] at hp
    rcases hp with hp | hp
    · exact ⟨(blocks_draws a hd.1 p hp).1, fun q hq => by simp [blocksC, (blocks_draws a hd.1 p hp).2 q hq]⟩
    · exact ⟨(blocks_draws b hd.2 p hp).1, fun q hq => by simp [blocksC, (blocks_draws b hd.2 p hp).2 q hq]⟩
  | .block id a, hd, p, hp => by
    simp only [drawsOkA] at hd
    simp only [blocksC, List.mem_cons] at hp
    rcases hp with rfl | hp
    · exact ⟨by simpa only [drawsOkA] using hd, fun q hq => hq⟩
    · exact ⟨(blocks_draws a hd p hp).1, fun q hq => by simp [blocksC, (blocks_draws a hd p hp).2 q hq]⟩
  | .loop a, hd, p, hp => by
    simp only [drawsOkA] at hd
    simp only [blocksC] at hp ⊢
    exact blocks_draws a hd p hp
  | .skip, _, p, hp => by simp [blocksC] at hp
  | .label _, _, p, hp => by simp [blocksC] at hp
  | .region id ops draw, hd, p, hp => by
    simp only [blocksC, List.mem_singleton] at hp
    subst hp
    exact ⟨hd, fun q hq => hq⟩
  | .exit _, _, p, hp => by simp [blocksC] at hp
  | .ret, _, p, hp => by simp [blocksC] at hp
  | .rangeFunc _ _ _ _, _, p, hp => by simp [blocksC] at hp
  | .scope _, _, p, hp => by simp [blocksC] at hp
  | .goto _, _, p, hp => by simp [blocksC] at hp
  | .refuse _, _, p, hp => by simp [blocksC] at hp
theorem lookC_in : ∀ {l : List (Nat × Code)} {id : Nat} {c : Code}, lookC id l = some c → (id, c) ∈ l
  | [], id, c, h => by simp [lookC] at h
  | (j, d) :: l, id, c, h => by
    simp only [lookC] at h
    split at h
    · rename_i hj; have := beq_true_eq hj; subst this; cases h; simp
    · exact List.mem_cons_of_mem _ (lookC_in h)
theorem LoopsFor.ok {g : FuncId} {n : Nat} {lp : Nat → Option LoopS} (h : LoopsFor P g n lp) {fn : Func} {c : Code} (hfn : P.funcs[g]? = some fn) (hb : fn.body = some c) (hd : distinctC (blocksC c) = true) {l : List (Nat × Code)} (hl : ∀ p ∈ l, p ∈ blocksC c) : LoopsOk P n lp l :=
  fun p hp F hF => h p.1 F hF p.2 (by simp only [blockOf, hfn, hb]; exact lookC_mem hd (hl p hp))

theorem region_in : ∀ {c0 : Code} {key id : Nat} {ops : Array Oper} {draw : Bool}, (key, Code.region id ops draw) ∈ blocksC c0 → key = 2 * id + 1
  | .seq a b, key, id, ops, draw, h => by
    simp only [blocksC, List.mem_append] at h
    rcases h with h | h
    · exact region_in h
    · exact region_in h
  | .cond _ a b, key, id, ops, draw, h => by
    simp only [blocksC, List.mem_append] at h
    rcases h with h | h
    · exact region_in h
    · exact region_in h
  | .block _ a, key, id, ops, draw, h => by
    simp only [blocksC, List.mem_cons] at h
    rcases h with h | h
    · cases h
    · exact region_in h
  | .region _ _ _, key, id, ops, draw, h => by
    simp only [blocksC, List.mem_singleton] at h
    cases h; rfl
  | .loop a, key, id, ops, draw, h => region_in (c0 := a) (by simpa only [blocksC] using h)
  | .skip, _, _, _, _, h => by simp [blocksC] at h
  | .label _, _, _, _, _, h => by simp [blocksC] at h
  | .exit _, _, _, _, _, h => by simp [blocksC] at h
  | .ret, _, _, _, _, h => by simp [blocksC] at h
  | .rangeFunc _ _ _ _, _, _, _, _, h => by simp [blocksC] at h
  | .scope _, _, _, _, _, h => by simp [blocksC] at h
  | .goto _, _, _, _, _, h => by simp [blocksC] at h
  | .refuse _, _, _, _, _, h => by simp [blocksC] at h
theorem block_in : ∀ {c0 : Code} {key id : Nat} {d : Code}, (key, Code.block id d) ∈ blocksC c0 → key = 2 * id
  | .seq a b, key, id, d, h => by
    simp only [blocksC, List.mem_append] at h
    rcases h with h | h
    · exact block_in h
    · exact block_in h
  | .cond _ a b, key, id, d, h => by
    simp only [blocksC, List.mem_append] at h
    rcases h with h | h
    · exact block_in h
    · exact block_in h
  | .block _ a, key, id, d, h => by
    simp only [blocksC, List.mem_cons] at h
    rcases h with h | h
    · cases h; rfl
    · exact block_in h
  | .region _ _ _, key, id, d, h => by
    simp only [blocksC, List.mem_singleton] at h
    cases h
  | .loop a, key, id, d, h => block_in (c0 := a) (by simpa only [blocksC] using h)
  | .skip, _, _, _, h => by simp [blocksC] at h
  | .label _, _, _, _, h => by simp [blocksC] at h
  | .exit _, _, _, _, h => by simp [blocksC] at h
  | .ret, _, _, _, h => by simp [blocksC] at h
  | .rangeFunc _ _ _ _, _, _, _, h => by simp [blocksC] at h
  | .scope _, _, _, _, h => by simp [blocksC] at h
  | .goto _, _, _, _, h => by simp [blocksC] at h
  | .refuse _, _, _, _, h => by simp [blocksC] at h
/-- A region whose outcome is told of a relation. -/
theorem cut_RK (ok : ProgOk P) {pr : FuncId → Option Spec} (hpr : PrOk P pr) {g : FuncId} {id n : Nat} {ks : List Keep} {M : List AV → St → KS → Prop}
    (step : ∀ t s k, M t s k → cutK P pr g id t s (headK n ks (k .normal))) :
    ∀ c t s k, blockOf P g (2 * id + 1) = some c → n ≤ s.length → M t s k → RK n (fun Q => c.wp P Q) t s k := by
  intro c t s k hc hn hM
  have h0 := step t s k hM
  unfold cutK at h0
  unfold blockOf at hc
  split at hc
  · rename_i fn hfn
    split at hc
    · rename_i c0 hb
      rw [hfn] at h0
      simp only [hb, hc] at h0
      cases c with
      | region id' ops draw =>
        simp only at h0
        have hin := lookC_in hc
        obtain ⟨hd1, _⟩ := blocks_draws c0 (ok.draws g fn c0 hfn hb) _ hin
        let kk : KS := fun e t s => match e with
          | .normal => headK n ks (k .normal) t s
          | _ => False
        obtain ⟨e, t1, s1, h1, h2, h3⟩ := codeK_sound (lp := fun _ => none) (n := n) ok (callS_ok hpr) 0 (.region id' ops draw) hd1 (fun p _ F hF => by cases hF) t s kk hn (by simpa only [codeK] using h0)
        cases e with
        | normal =>
          obtain ⟨t2, s2, hh, hk⟩ := headK_some h3
          obtain ⟨hl2, hs2⟩ := head_sound hh h1
          refine ⟨.normal, t2, s2, hl2, fun ρ w a Q hi htr hk' => h2 ρ w a Q hi htr fun ρ' w' a' hp ht hd => ?_, hk⟩
          obtain ⟨ρ1, hp1, ht1⟩ := hs2 ρ' w' a'.tmps hp.inv ht
          exact hk' ρ1 w' a' (hp.trans hp1) ht1 hd
        | exit j => exact h3.elim
        | ret => exact h3.elim
      | _ => exact h0.elim
    · cases hc
  · cases hc

theorem loop_RK (ok : ProgOk P) {pr : FuncId → Option Spec} (hpr : PrOk P pr) {g : FuncId} {id n L : Nat} {lp : Nat → Option LoopS} (hdist : distinctOk P g = true) (hlp : LoopsFor P g n lp) {ks kx : List Keep} {M : Nat → List AV → St → KS → Prop}
    (step : ∀ m t s k, M m t s k → roundK P pr lp L g id t s (againK n id ks kx (fun t' s' => ∃ m', m' < m ∧ M m' t' s' k) k)) :
    ∀ m c t s k, blockOf P g (2 * id) = some c → n ≤ s.length → M m t s k → RK n (fun Q => c.wp P Q) t s k := by
  intro m c t s k hc hn hM
  have hstep := step
  -- the body
  have hbody : ∃ d fn c0, c = .block id (.loop d) ∧ P.funcs[g]? = some fn ∧ fn.body = some c0 ∧ (2 * id, Code.block id (.loop d)) ∈ blocksC c0 ∧ loopOf P g id = some d := by
    have h0 := step m t s k hM
    unfold roundK at h0
    unfold blockOf at hc
    unfold loopOf at h0 ⊢
    split at hc
    · rename_i fn hfn
      split at hc
      · rename_i c0 hb
        rw [hfn] at h0 ⊢
        simp only [hb, hc] at h0 ⊢
        cases c with
        | block id' x =>
          have hin := lookC_in hc
          have hid : id = id' := by have := block_in hin; omega
          subst hid
          cases x with
          | loop d => exact ⟨d, fn, c0, rfl, rfl, hb, hin, rfl⟩
          | _ => exact h0.elim
        | _ => exact h0.elim
      · cases hc
    · cases hc
  obtain ⟨d, fn, c0, rfl, hfn, hb, hin, hloop⟩ := hbody
  have hdist' : distinctC (blocksC c0) = true := by simpa only [distinctOk, hfn, hb] using hdist
  have hdraw := ok.draws g fn c0 hfn hb
  obtain ⟨hd1', hsub⟩ := blocks_draws c0 hdraw _ hin
  have hd1 : drawsOkA P d = true := by simpa only [drawsOkA] using hd1'
  have hl : LoopsOk P n lp (blocksC d) := hlp.ok hfn hb hdist' (fun p hp => hsub p (by simp [blocksC, hp]))
  let kk : KS := fun e t s => match e with
    | .normal => False
    | .exit j => match Nat.beq j id with
      | true => k .normal t s
      | false => k (.exit j) t s
    | .ret => k .ret t s
  have main : ∀ m t s, n ≤ s.length → M m t s k → ∃ R, RK n (fun Q => Code.rounds P d Q R) t s kk := by
    intro m
    induction m using Nat.strongRecOn with
    | _ m ih =>
      intro t s hn hM
      have h0 := step m t s k hM
      unfold roundK at h0
      rw [hloop] at h0
      simp only at h0
      obtain ⟨e, t1, s1, h1, h2, h3⟩ := codeK_sound ok (callS_ok hpr) L d hd1 hl t s _ hn h0
      cases e with
      | normal =>
        obtain ⟨t2, s2, hh, m', hm', hM'⟩ := headK_some h3
        obtain ⟨hl2, hs2⟩ := head_sound hh h1
        obtain ⟨R, hR⟩ := ih m' hm' t2 s2 hl2 hM'
        exact ⟨R + 1, RK.rounds ⟨.normal, t1, s1, h1, h2, RK.pre hl2 hs2 hR⟩⟩
      | exit j =>
        simp only [againK] at h3
        refine ⟨1, ?_⟩
        have hex : headK n kx (kk (.exit j)) t1 s1 := by
          split at h3
          · rename_i hj
            obtain ⟨t2, s2, hh, hk⟩ := headK_some h3
            unfold headK; rw [hh]; simp only [kk, hj, fTm_eq, fSt_eq]; exact hk
          · rename_i hj
            obtain ⟨t2, s2, hh, hk⟩ := headK_some h3
            unfold headK; rw [hh]; simp only [kk, hj, fTm_eq, fSt_eq]; exact hk
        obtain ⟨t2, s2, hh, hk⟩ := headK_some hex
        obtain ⟨hl2, hs2⟩ := head_sound hh h1
        refine RK.rounds (L := 0) ⟨.exit j, t2, s2, hl2, fun ρ w a Q hi htr hk' => h2 ρ w a Q hi htr fun ρ' w' a' hp ht hd => ?_, hk⟩
        obtain ⟨ρ1, hp1, ht1⟩ := hs2 ρ' w' a'.tmps hp.inv ht
        exact hk' ρ1 w' a' (hp.trans hp1) ht1 hd
      | ret =>
        obtain ⟨t2, s2, hh, hk⟩ := headK_some h3
        obtain ⟨hl2, hs2⟩ := head_sound hh h1
        refine ⟨1, RK.rounds (L := 0) ⟨.ret, t2, s2, hl2, fun ρ w a Q hi htr hk' => h2 ρ w a Q hi htr fun ρ' w' a' hp ht hd => ?_, hk⟩⟩
        obtain ⟨ρ1, hp1, ht1⟩ := hs2 ρ' w' a'.tmps hp.inv ht
        exact hk' ρ1 w' a' (hp.trans hp1) ht1 hd
  obtain ⟨R, hR⟩ := main m t s hn hM
  refine RK.block (RK.mono (RK.loop hR) fun e t' s' hk => ?_)
  cases e with
  | normal => exact hk.elim
  | exit j => exact hk
  | ret => exact hk

theorem body_calls (ok : ProgOk P) {pr : FuncId → Option Spec} (hpr : PrOk P pr) {g : FuncId} {lp : Nat → Option LoopS} {L : Nat} {ms : List Mode} {args : List AV} {s : St} {k : AV → St → Prop} (hdist : distinctOk P g = true) (hlp : LoopsFor P g s.length lp)
    (h : bodyK P pr lp L g ms args s k) : ∃ v s', s.length ≤ s'.length ∧ k v s' ∧ ∀ ρ w vargs, InvC ρ s w → Rels ρ args vargs →
      Calls P g vargs.toArray w fun e w' => ∃ u ρ', e = .returned u ∧ PostC s.length ρ s w ρ' s' w' ∧ Rel ρ' v u := by
  unfold bodyK at h
  simp only [fAV2_eq, fSt_eq] at h
  split at h
  · exact h.elim
  · rename_i fn hfn
    split at h
    · exact h.elim
    · rename_i c hb
      have hdist' : distinctC (blocksC c) = true := by simpa only [distinctOk, hfn, hb] using hdist
      obtain ⟨e, t1, s1, h1, h2, h3⟩ := codeK_sound (n := s.length) ok (callS_ok hpr) L c (ok.draws g fn c hfn hb) (hlp.ok hfn hb hdist' (fun p hp => hp)) _ s _ (Nat.le_refl _) h
      have go : (e = .normal ∨ e = .ret) → (match resultS P s1 t1 fn.results.toList with
          | some v => match finishS s.length ms v s1 with
            | some (g, v', s'') => match g with
              | true => k v' s''
              | false => False
            | none => False
          | none => False) → ∃ v s', s.length ≤ s'.length ∧ k v s' ∧ ∀ ρ w vargs, InvC ρ s w → Rels ρ args vargs →
            Calls P g vargs.toArray w fun e w' => ∃ u ρ', e = .returned u ∧ PostC s.length ρ s w ρ' s' w' ∧ Rel ρ' v u := by
        intro he h3
        split at h3
        · rename_i v hres
          split at h3
          · rename_i gd v' s2 hfin
            split at h3
            · obtain ⟨f1, f2⟩ := finish_sound hfin h1
              refine ⟨v', s2, f1, h3, fun ρ w vargs hi hrel => ?_⟩
              have hlen := hrel.length
              refine calls_of_wp hfn hb ?_
              have htr : TR ρ (args ++ padA (fn.ntmps - args.length)) (vargs.toArray ++ Array.replicate (fn.ntmps - vargs.toArray.size) undef) := by
                have := (hrel.append (pad_rel ρ (fn.ntmps - args.length))).tr
                rw [show (vargs ++ List.replicate (fn.ntmps - args.length) undef).toArray = vargs.toArray ++ Array.replicate (fn.ntmps - vargs.toArray.size) undef by
                  rw [← hlen]; apply Array.ext'; simp] at this
                exact this
              refine h2 ρ w { tmps := vargs.toArray ++ Array.replicate (fn.ntmps - vargs.toArray.size) undef, defers := [] } _ hi htr fun ρ' w' a' hp ht hd => ?_
              obtain ⟨u, hu1, hu2⟩ := result_sound (P := P) (fn := fn) hp.inv.hr ht hres
              obtain ⟨ρ2, hp2, hv2⟩ := f2 ρ' w' u hp.inv hu2
              rcases he with rfl | rfl
              · exact ⟨hd, u, hu1, u, ρ2, rfl, hp.trans hp2, hv2⟩
              · exact ⟨hd, u, hu1, u, ρ2, rfl, hp.trans hp2, hv2⟩
            · exact h3.elim
          · exact h3.elim
        · exact h3.elim
      cases e with
      | normal => exact go (.inl rfl) h3
      | ret => exact go (.inr rfl) h3
      | exit j => exact h3.elim
/-- A function's answer, by its text. -/
theorem specOk_of (ok : ProgOk P) {pr : FuncId → Option Spec} (hpr : PrOk P pr) {g : FuncId} (hdist : distinctOk P g = true) {f : List AV → St → RT}
    (h : ∀ args s v s' tch, (f args s).run = some (v, s', tch) → ∃ lp L ms, LoopsFor P g s.length lp ∧ bodyK P pr lp L g ms args s (fun v1 s1 => v1 = v ∧ s1 = s')) : SpecOk P g f where
  len := fun args s v s' tch e => by
    obtain ⟨lp, L, ms, hlp, hb⟩ := h args s v s' tch e
    obtain ⟨v1, s1, h1, ⟨rfl, rfl⟩, _⟩ := body_calls ok hpr hdist hlp hb
    exact h1
  calls := fun args s v s' tch e => by
    obtain ⟨lp, L, ms, hlp, hb⟩ := h args s v s' tch e
    obtain ⟨v1, s1, h1, ⟨rfl, rfl⟩, h2⟩ := body_calls ok hpr hdist hlp hb
    exact h2
end
end Go.Sy
