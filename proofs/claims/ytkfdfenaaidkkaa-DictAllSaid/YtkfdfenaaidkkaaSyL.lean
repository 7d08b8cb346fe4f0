/- An operation of any kind, on the model's side. -/
import Derived.Test.YtkfdfenaaidkkaaSyK
set_option linter.unusedSimpArgs false
set_option linter.unusedVariables false
namespace Go.Sy
open Go

/-- What is asked of the program, once and for all. -/
structure ProgOk (P : Program) : Prop where
  orders : P.follows .mixedOrders = true
  names : ∀ (g : Nat) (fn : Func), P.funcs[g]? = some fn → fn.body ≠ none → (fn.name == "runtime.NumGoroutine") = false
  draws : ∀ (g : Nat) (fn : Func) (c : Code), P.funcs[g]? = some fn → fn.body = some c → drawsOkA P c = true
  ext : ∀ (g : Nat) (fn : Func) (ρ : Rho) (args : List AV) (vargs : List Value) (v : AV), P.funcs[g]? = some fn → fn.body = none → externA fn.name args = some v → externG args = true → Rels ρ args vargs →
    ∀ w, ∃ u, (callFunc g vargs.toArray).run P w = .ok (.value u) w ∧ Rel ρ v u


def Answers (P : Program) (ρ : Rho) (h : Hp) (w : World) (s : St) (v : AV) (s' : St) : Ending → World → Prop :=
  fun e w' => ∃ u ρ', e = .returned u ∧ Post ρ h w s ρ' (upd s' h) w' s' ∧ Rel ρ' v u
structure CallOk (P : Program) (call : CallS) : Prop where
  mono : ∀ g args s v s' tch, (call g args s).run = some (v, s', tch) → s.length ≤ s'.length ∧ ∀ b, b < s.length → b ∉ tch → s'[b]? = s[b]?
  calls : ∀ g args s v s' tch, (call g args s).run = some (v, s', tch) → ∀ (ρ : Rho) (h : Hp) (w : World) (vargs : List Value), HR ρ h w → Agree s h → Fresh ρ s s' → Rels ρ args vargs →
    Calls P g vargs.toArray w (Answers P ρ h w s v s')

section
variable {P : Program} {call : CallS} {ρ : Rho} {h : Hp} {w : World} {s : St} {tmps : List AV} {a : Act}

/- ### what stays -/
theorem freeze_other {b : Nat} : ∀ (fr : List Nat) (s : St), b ∉ fr → (freeze s fr)[b]? = s[b]?
  | [], s, h => rfl
  | c :: cs, s, h => by
    simp only [List.mem_cons, not_or] at h
    simp only [freeze]
    split
    · rw [freeze_other cs _ h.2, List.getElem?_set_ne (fun e => h.1 e.symm)]
    · exact freeze_other cs _ h.2
/-- A step keeps what it doesn't touch. -/
def Keeps (s s' : St) (tch : List Nat) : Prop := s.length ≤ s'.length ∧ ∀ b, b < s.length → b ∉ tch → s'[b]? = s[b]?
theorem Keeps.self {tch : List Nat} : Keeps s s tch := ⟨Nat.le_refl _, fun _ _ _ => rfl⟩
theorem Keeps.app {s0 : St} {x : Ent} {tch : List Nat} (h : Keeps s s0 tch) : Keeps s (s0 ++ [x]) tch := ⟨by rw [List.length_append]; have := h.1; omega, fun b hb ht => by rw [List.getElem?_append_left (by have := h.1; omega)]; exact h.2 b hb ht⟩
theorem Keeps.set {s0 : St} {c : Nat} {x : Ent} {tch : List Nat} (h : Keeps s s0 tch) (hc : c ∈ tch) : Keeps s (s0.set c x) tch := ⟨by rw [List.length_set]; exact h.1, fun b hb ht => by rw [List.getElem?_set_ne (fun e => ht (by rw [← e]; exact hc))]; exact h.2 b hb ht⟩
theorem Keeps.frz {fr tch : List Nat} (h : ∀ b ∈ fr, b ∈ tch) : Keeps s (freeze s fr) tch := ⟨by rw [freeze_length]; exact Nat.le_refl _, fun b _ ht => freeze_other fr s (fun hb => ht (h b hb))⟩
theorem Keeps.frz2 {fr fr' tch : List Nat} (h : ∀ b ∈ fr, b ∈ tch) (h' : ∀ b ∈ fr', b ∈ tch) : Keeps s (freeze (freeze s fr) fr') tch := by
  rw [freeze_append]
  exact Keeps.frz fun b hb => (List.mem_append.1 hb).elim (h b) (h' b)

theorem run_br {b : Bool} {x y : RT} {r : AV × St × List Nat} (e : (RT.br b x y).run = some r) : (b = true ∧ x.run = some r) ∨ (b = false ∧ y.run = some r) := by
  cases b
  · exact .inr ⟨rfl, e⟩
  · exact .inl ⟨rfl, e⟩
theorem store_keeps {t : TypeId} {p v x : AV} {s' : St} {tch : List Nat} (e : (storeS P s t p v).run = some (x, s', tch)) : Keeps s s' tch := by
  unfold storeS at e
  repeat' split at e
  all_goals first
    | (cases e; done)
    | (obtain ⟨_, _, rfl, rfl⟩ := run_ok e; first | exact Keeps.self.set (by simp) | exact (Keeps.frz (fun b hb => by simp [hb])).set (by simp))
theorem append_keeps {t : TypeId} {d x v : AV} {s' : St} {tch : List Nat} (e : (appendS P s t d x).run = some (v, s', tch)) : Keeps s s' tch := by
  unfold appendS at e
  simp only at e
  repeat' split at e
  all_goals first
    | (cases e; done)
    | (obtain ⟨_, _, rfl, rfl⟩ := run_ok e; first
        | exact (Keeps.frz (fun b hb => hb)).app
        | exact ((Keeps.frz (fun b hb => by simp [hb])).set (by simp)).app
        | exact ((Keeps.frz2 (fun b hb => by simp [hb]) (fun b hb => by simp [hb])).set (by simp)).app
        | exact (Keeps.frz (fun b hb => by simp [hb])).set (by simp))
    | skip
  all_goals
    rcases run_br e with ⟨_, e⟩ | ⟨_, e⟩
    · first
        | (cases e; done)
        | (obtain ⟨_, _, rfl, rfl⟩ := run_ok e
           exact (Keeps.frz (fun b hb => by simp [hb])).set (by simp))
    · obtain ⟨_, _, rfl, rfl⟩ := run_ok e
      exact (Keeps.frz (fun b hb => hb)).app
theorem copy_keeps {t : TypeId} {d x v : AV} {s' : St} {tch : List Nat} (e : (copyS P s t d x).run = some (v, s', tch)) : Keeps s s' tch := by
  unfold copyS at e
  repeat' split at e
  all_goals first
    | (cases e; done)
    | (obtain ⟨_, _, rfl, rfl⟩ := run_ok e; first | exact Keeps.self | exact Keeps.self.set (by simp))
theorem clear_keeps {t : TypeId} {x v : AV} {s' : St} {tch : List Nat} (e : (clearS P s t x).run = some (v, s', tch)) : Keeps s s' tch := by
  unfold clearS at e
  repeat' split at e
  all_goals first
    | (cases e; done)
    | (obtain ⟨_, _, rfl, rfl⟩ := run_ok e; first | exact Keeps.self | exact Keeps.self.set (by simp))
theorem eff_keeps (hc : CallOk P call) {o : Op} {v : AV} {s' : St} {tch : List Nat} (e : (effA P call tmps s o).run = some (v, s', tch)) : Keeps s s' tch := by
  unfold effA at e
  split at e
  · split at e
    · exact store_keeps e
    · cases e
  · split at e
    · exact append_keeps e
    · exact append_keeps e
    · cases e
  · split at e
    · exact copy_keeps e
    · cases e
  · split at e
    · exact clear_keeps e
    · cases e
  · split at e
    · split at e
      · split at e
        · exact hc.mono _ _ _ _ _ _ e
        · split at e
          · obtain ⟨_, _, rfl, rfl⟩ := run_ok e; exact Keeps.self
          · cases e
      · cases e
    · cases e
  · cases e
theorem op_keeps (hc : CallOk P call) {o : Op} {v : AV} {s' : St} {tch : List Nat} (e : (opS P call tmps s o).run = some (v, s', tch)) : Keeps s s' tch := by
  unfold opS at e
  split at e
  · split at e
    · obtain ⟨_, _, rfl, rfl⟩ := run_ok e; exact Keeps.self
    · cases e
  · split at e
    · obtain ⟨_, _, rfl, rfl⟩ := run_ok e; exact Keeps.self.app
    · cases e
  · split at e
    · obtain ⟨_, _, rfl, rfl⟩ := run_ok e; exact Keeps.self
    · split at e
      · split at e
        · obtain ⟨_, _, rfl, rfl⟩ := run_ok e; exact Keeps.self
        · cases e
      · cases e
    · cases e
  · exact eff_keeps hc e

theorem eff_sound (ok : ProgOk P) (hc : CallOk P call) (hr : HR ρ h w) (ha : Agree s h) (htr : TR ρ tmps a.tmps) {o : Oper} {v : AV} {s' : St} {tch : List Nat} (e : (effA P call tmps s o.op).run = some (v, s', tch)) (hf : Fresh ρ s s')
    {next : Act → World → Prop} {Q : Exit → Act → World → Prop} (hk : ∀ ρ' w' u, Post ρ h w s ρ' (upd s' h) w' s' → Rel ρ' v u → next (a.put o.dst u) w') : o.wp P a w next Q := by
  obtain ⟨dst, op, type, pos, after, guard⟩ := o
  simp only at e hk
  unfold Oper.wp
  unfold effA at e
  split at e
  · rename_i t p x
    split at e
    · rename_i pv xv hp hx
      obtain ⟨w', ρ', h1, h2, rfl⟩ := store_sound (P := P) hr ha e (ev_sound htr hp) (ev_sound htr hx)
      have : (execOp a.eval { dst := dst, op := .store t p x, type := type, pos := pos, after := after, guard := guard }).run P w = .ok .skip w' := by
        simp [execOp, h1]
      rw [this, Oper.upon_skip]
      exact hk _ _ _ h2 (rel_undef _)
    · cases e
  · rename_i d x t u0
    have key : ∀ (e0 : TypeId) (td : TypeDesc) (sv xv : AV), P.underlying t = some (.slice e0) → P.underlying u0 = some td → (∀ k, td ≠ .int k) → evA tmps d = some sv → evA tmps x = some xv → (appendS P s e0 sv xv).run = some (v, s', tch) →
        Oper.upon P { dst := dst, op := .call { callee := .builtin .append, args := #[d, x], argTypes := #[t, u0] }, type := type, pos := pos, after := after, guard := guard } a next Q
          ((execOp a.eval { dst := dst, op := .call { callee := .builtin .append, args := #[d, x], argTypes := #[t, u0] }, type := type, pos := pos, after := after, guard := guard }).run P w) := by
      intro e0 td sv xv ht hu hd hs hx he
      obtain ⟨r, w', ρ', h1, h2, h3⟩ := append_sound (P := P) (ty := type) hr ha ht hu hd he (ev_sound htr hs) (ev_sound htr hx) hf
      have : (execOp a.eval { dst := dst, op := .call { callee := .builtin .append, args := #[d, x], argTypes := #[t, u0] }, type := type, pos := pos, after := after, guard := guard }).run P w = .ok (.value r) w' := by
        simp [execOp, resolve, invoke, builtin, h1]
      rw [this, Oper.upon_value]
      exact hk _ _ _ h2 h3
    split at e
    · rename_i e0 e1 sv xv ht hu hs hx
      exact key e0 _ sv xv ht hu (fun k => by simp) hs hx e
    · rename_i e0 sv xv ht hu hs hx
      exact key e0 _ sv xv ht hu (fun k => by simp) hs hx e
    · cases e
  · rename_i d x t u0
    split at e
    · rename_i e0 dv sv ht hd hs
      obtain ⟨r, w', h1, h2, h3⟩ := copy_sound (P := P) (u0 := u0) (ty := type) hr ha ht e (ev_sound htr hd) (ev_sound htr hs)
      have : (execOp a.eval { dst := dst, op := .call { callee := .builtin .copy, args := #[d, x], argTypes := #[t, u0] }, type := type, pos := pos, after := after, guard := guard }).run P w = .ok (.value r) w' := by
        simp [execOp, resolve, invoke, builtin, h1]
      rw [this, Oper.upon_value]
      exact hk _ _ _ h2 h3
    · cases e
  · rename_i x t
    split at e
    · rename_i e0 xv ht hx
      obtain ⟨r, w', h1, h2, h3⟩ := clear_sound (P := P) (ty := type) hr ha ht e (ev_sound htr hx)
      have : (execOp a.eval { dst := dst, op := .call { callee := .builtin .clear, args := #[x], argTypes := #[t] }, type := type, pos := pos, after := after, guard := guard }).run P w = .ok (.value r) w' := by
        simp [execOp, resolve, invoke, builtin, h1]
      rw [this, Oper.upon_value]
      exact hk _ _ _ h2 h3
    · cases e
  · rename_i f args ats
    split at e
    · rename_i g first caps l hfv hl
      have hfr := ev_sound htr hfv
      simp only [Rel] at hfr
      obtain ⟨fx, fy, hfe, hr1, hr2⟩ := hfr
      have hargs := evs_sound htr hl
      have hrels : Rels ρ (first ++ l ++ caps) (fx ++ args.toList.map a.eval ++ fy) := (hr1.append hargs).append hr2
      have hres : (execOp a.eval { dst := dst, op := .call { callee := .value f, args := args, argTypes := ats }, type := type, pos := pos, after := after, guard := guard }).run P w =
          (callFunc g (fx ++ args.toList.map a.eval ++ fy).toArray).run P w := by
        have e1 : args.map a.eval = (args.toList.map a.eval).toArray := by apply Array.ext'; simp
        simp only [execOp, resolve, hfe, e1, Deferred.ofValue, Sem.run_bind, Sem.run_pure, Result.andThen_ok, invoke]
        simp
      rw [hres]
      split at e
      · rename_i fn hfn
        split at e
        · rename_i c hbody
          have hname := ok.names g fn hfn (by rw [hbody]; simp)
          have hcf : (callFunc g (fx ++ args.toList.map a.eval ++ fy).toArray).run P w = .ok (.enter g (fx ++ args.toList.map a.eval ++ fy).toArray) w := by
            have hname' : ¬ fn.name = "runtime.NumGoroutine" := by simpa using hname
            simp [callFunc, hfn, hname', hbody]
          rw [hcf, Oper.upon_enter]
          refine (hc.calls g _ s v s' tch e ρ h w _ hr ha hf hrels).mono ?_
          rintro e' w' ⟨u, ρ', rfl, hp, hv⟩
          exact hk ρ' w' u hp hv
        · rename_i hbody
          split at e
          · rename_i v0 hx
            obtain ⟨hg, rfl, rfl, rfl⟩ := run_ok e
            obtain ⟨u, h1, h2⟩ := ok.ext g fn ρ _ _ _ hfn hbody hx hg hrels w
            rw [h1, Oper.upon_value]
            exact hk ρ w u (Post.refl hr ha) h2
          · cases e
      · cases e
    · cases e
  · cases e


theorem op_sound (ok : ProgOk P) (hc : CallOk P call) (hr : HR ρ h w) (ha : Agree s h) (htr : TR ρ tmps a.tmps) {o : Oper} {v : AV} {s' : St} {tch : List Nat} (e : (opS P call tmps s o.op).run = some (v, s', tch)) (hf : Fresh ρ s s')
    {next : Act → World → Prop} {Q : Exit → Act → World → Prop} (hk : ∀ ρ' w' u, Post ρ h w s ρ' (upd s' h) w' s' → Rel ρ' v u → next (a.put o.dst u) w') : o.wp P a w next Q := by
  unfold opS at e
  split at e
  · split at e
    · rename_i g v0 hv
      obtain ⟨rfl, rfl, rfl, rfl⟩ := run_ok e
      obtain ⟨u, h1, h2⟩ := pure_sound (P := P) w htr hv
      unfold Oper.wp
      rw [h1, Oper.upon_value]
      exact hk ρ w u (Post.refl hr ha) h2
    · cases e
  · split at e
    · rename_i g v0 x hv
      obtain ⟨rfl, rfl, rfl, rfl⟩ := run_ok e
      obtain ⟨u, vs, ty, cs, h1, hx, h2, h3⟩ := alloc_real (P := P) w htr hv
      have hP := new_post (ty := ty) (rest := []) hr ha hf hx h2
      simp only [List.append_nil, List.length_nil, Nat.add_zero] at hP
      unfold Oper.wp
      rw [h1, Oper.upon_value]
      exact hk _ _ u hP (h3 _ (Rho.put_same _ _ _))
    · cases e
  · split at e
    · rename_i v0 hv
      obtain ⟨_, rfl, rfl, rfl⟩ := run_ok e
      obtain ⟨u, h1, h2⟩ := rd_val_sound (P := P) hr htr hv
      unfold Oper.wp
      rw [h1, Oper.upon_value]
      exact hk ρ w u (Post.refl hr ha) h2
    · rename_i l mk hv
      split at e
      · rename_i x hx
        split at e
        · rename_i g v0 hrd
          obtain ⟨rfl, rfl, rfl, rfl⟩ := run_ok e
          have hbl := (List.getElem?_eq_some_iff.1 hx).1
          obtain ⟨u, h1, h2⟩ := rd_at_sound (P := P) hr htr hv (by rw [ha _ hbl]; exact hx) hrd
          unfold Oper.wp
          rw [h1, Oper.upon_value]
          exact hk ρ w u (Post.refl hr ha) h2
        · cases e
      · cases e
    · cases e
  · exact eff_sound ok hc hr ha htr e hf hk
end
end Go.Sy
