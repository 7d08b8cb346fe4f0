/- Code: what the symbolic machine tells of it, it does. -/
import Derived.Test.YtkfdfenaaidkkaaSyR
import Derived.LoopN
set_option linter.unusedSimpArgs false
set_option linter.unusedVariables false
namespace Go.Sy
open Go

abbrev hpS (s : St) : Hp := fun i => s[i]?
structure InvC (ρ : Rho) (s : St) (w : World) : Prop where
  hr : HR ρ (hpS s) w
  dom : ∀ i, s.length ≤ i → ρ i = none
/-- Behind a piece of code: the first n blocks are where they were. -/
structure PostC (n : Nat) (ρ : Rho) (s : St) (w : World) (ρ' : Rho) (s' : St) (w' : World) : Prop where
  inv : InvC ρ' s' w'
  base : ∀ i, i < n → ρ' i = ρ i
  fz : ∀ B o v, ρ.fz B o = some v → ρ'.fz B o = some v
  len : n ≤ s'.length
  os : w'.os = w.os
  tape : w'.tape = w.tape
  output : w'.output = w.output
  size : w.heap.size ≤ w'.heap.size
  frame : ∀ B, B < w.heap.size → Free ρ (hpS s) B → w'.heap[B]? = w.heap[B]? ∧ Free ρ' (hpS s') B
  out : ∀ B, B < w.heap.size → Out ρ (hpS s) B → Out ρ' (hpS s') B
  fzn : ∀ B o v, ρ'.fz B o = some v → ρ.fz B o = some v ∨ w.heap.size ≤ B ∨ ¬ Out ρ (hpS s) B
theorem hpS_agree (s : St) : Agree s (hpS s) := fun _ _ => rfl
theorem upd_hpS {s s' : St} (h : s.length ≤ s'.length) : upd s' (hpS s) = hpS s' := by
  funext i
  unfold upd
  split
  · rfl
  · rename_i hi
    show s[i]? = s'[i]?
    rw [List.getElem?_eq_none (by omega), List.getElem?_eq_none (by omega)]
theorem InvC.fresh {ρ : Rho} {s s' : St} {w : World} (k : InvC ρ s w) : Fresh ρ s s' := fun id h _ => k.dom id h
theorem Post.toC {ρ ρ' : Rho} {s s' : St} {w w' : World} {n : Nat} (k : InvC ρ s w) (hn : n ≤ s.length) (p : Post ρ (hpS s) w s ρ' (upd s' (hpS s)) w' s') : PostC n ρ s w ρ' s' w' := by
  have e := upd_hpS p.le
  have hr := p.hr
  have hfr := p.frame
  have ho := p.out
  rw [e] at hr hfr ho
  refine ⟨⟨hr, fun i hi => ?_⟩, fun i hi => ?_, p.ext.2, Nat.le_trans hn p.le, p.os, p.tape, p.output, p.size, hfr, ho, p.fzn⟩
  · by_cases h1 : ρ' i = ρ i
    · rw [h1]; exact k.dom i (Nat.le_trans p.le hi)
    · have := p.new i h1; omega
  · by_cases h1 : ρ' i = ρ i
    · exact h1
    · have := p.new i h1; omega
theorem PostC.refl {n : Nat} {ρ : Rho} {s : St} {w : World} (k : InvC ρ s w) (hn : n ≤ s.length) : PostC n ρ s w ρ s w :=
  ⟨k, fun _ _ => rfl, fun _ _ _ e => e, hn, rfl, rfl, rfl, Nat.le_refl _, fun _ _ h => ⟨rfl, h⟩, fun _ _ h => h, fun _ _ _ e => .inl e⟩
theorem PostC.trans {n : Nat} {ρ ρ1 ρ2 : Rho} {s s1 s2 : St} {w w1 w2 : World} (p : PostC n ρ s w ρ1 s1 w1) (q : PostC n ρ1 s1 w1 ρ2 s2 w2) : PostC n ρ s w ρ2 s2 w2 where
  inv := q.inv
  base := fun i hi => (q.base i hi).trans (p.base i hi)
  fz := fun B o v e => q.fz B o v (p.fz B o v e)
  len := q.len
  os := q.os.trans p.os
  tape := q.tape.trans p.tape
  output := q.output.trans p.output
  size := Nat.le_trans p.size q.size
  frame := fun B hB hf => by
    obtain ⟨e1, f1⟩ := p.frame B hB hf
    obtain ⟨e2, f2⟩ := q.frame B (Nat.lt_of_lt_of_le hB p.size) f1
    exact ⟨e2.trans e1, f2⟩
  out := fun B hB hf => q.out B (Nat.lt_of_lt_of_le hB p.size) (p.out B hB hf)
  fzn := fun B o v e => by
    rcases q.fzn B o v e with e | e | e
    · exact p.fzn B o v e
    · exact .inr (.inl (Nat.le_trans p.size e))
    · rcases Nat.lt_or_ge B w.heap.size with hB | hB
      · exact .inr (.inr (fun hf => e (p.out B hB hf)))
      · exact .inr (.inl hB)

def Ex.to : Ex → Exit
  | .normal => .normal
  | .exit id => .exit id
  | .ret => .ret

section
variable {P : Program} {call : CallS} {n : Nat}
/-- From these slots and blocks a piece of code (as 'wp' has it) comes to those. -/
def RW (n : Nat) (wp : (Exit → Act → World → Prop) → Act → World → Prop) (t : List AV) (s : St) (e : Ex) (t' : List AV) (s' : St) : Prop :=
  ∀ (ρ : Rho) (w : World) (a : Act) (Q : Exit → Act → World → Prop), InvC ρ s w → TR ρ t a.tmps →
    (∀ ρ' w' a', PostC n ρ s w ρ' s' w' → TR ρ' t' a'.tmps → a'.defers = a.defers → Q e.to a' w') → wp Q a w
/-- It comes to what is asked for. -/
def RK (n : Nat) (wp : (Exit → Act → World → Prop) → Act → World → Prop) (t : List AV) (s : St) (k : KS) : Prop :=
  ∃ e t' s', n ≤ s'.length ∧ RW n wp t s e t' s' ∧ k e t' s'
theorem RK.mono {wp : (Exit → Act → World → Prop) → Act → World → Prop} {t : List AV} {s : St} {k k' : KS} (h : RK n wp t s k) (hk : ∀ e t' s', k e t' s' → k' e t' s') : RK n wp t s k' := by
  obtain ⟨e, t', s', h1, h2, h3⟩ := h
  exact ⟨e, t', s', h1, h2, hk _ _ _ h3⟩
theorem RK.seq {x y : Code} {t : List AV} {s : St} {k : KS} (h : RK n (fun Q => x.wp P Q) t s (fun e t' s' => match e with | .normal => RK n (fun Q => y.wp P Q) t' s' k | e => k e t' s')) : RK n (fun Q => (Code.seq x y).wp P Q) t s k := by
  obtain ⟨e, t1, s1, h1, h2, h3⟩ := h
  cases e with
  | normal =>
    obtain ⟨e2, t2, s2, k1, k2, k3⟩ := h3
    refine ⟨e2, t2, s2, k1, fun ρ w a Q hi htr hk => wp_seq (h2 ρ w a _ hi htr fun ρ1 w1 a1 hp ht hd => ?_), k3⟩
    exact k2 ρ1 w1 a1 Q hp.inv ht fun ρ2 w2 a2 hp2 ht2 hd2 => hk ρ2 w2 a2 (hp.trans hp2) ht2 (hd2.trans hd)
  | exit id => exact ⟨.exit id, t1, s1, h1, fun ρ w a Q hi htr hk => wp_seq (h2 ρ w a _ hi htr hk), h3⟩
  | ret => exact ⟨.ret, t1, s1, h1, fun ρ w a Q hi htr hk => wp_seq (h2 ρ w a _ hi htr hk), h3⟩
theorem RK.block {id : Nat} {x : Code} {t : List AV} {s : St} {k : KS} (h : RK n (fun Q => x.wp P Q) t s (fun e t' s' => match e with
      | .exit j => match Nat.beq j id with
        | true => k .normal t' s'
        | false => k (.exit j) t' s'
      | e => k e t' s')) : RK n (fun Q => (Code.block id x).wp P Q) t s k := by
  obtain ⟨e, t1, s1, h1, h2, h3⟩ := h
  cases e with
  | normal => exact ⟨.normal, t1, s1, h1, fun ρ w a Q hi htr hk => wp_block (h2 ρ w a _ hi htr hk), h3⟩
  | ret => exact ⟨.ret, t1, s1, h1, fun ρ w a Q hi htr hk => wp_block (h2 ρ w a _ hi htr hk), h3⟩
  | exit j =>
    simp only at h3
    split at h3
    · rename_i hj
      have hj' := beq_true_eq hj
      subst hj'
      refine ⟨.normal, t1, s1, h1, fun ρ w a Q hi htr hk => wp_block (h2 ρ w a _ hi htr fun ρ' w' a' hp ht hd => ?_), h3⟩
      show Exit.inBlock j Q (.exit j) a' w'
      simp only [Exit.inBlock, if_true]
      exact hk ρ' w' a' hp ht hd
    · rename_i hj
      have hj' := beq_false_ne hj
      refine ⟨.exit j, t1, s1, h1, fun ρ w a Q hi htr hk => wp_block (h2 ρ w a _ hi htr fun ρ' w' a' hp ht hd => ?_), h3⟩
      show Exit.inBlock id Q (.exit j) a' w'
      simp only [Exit.inBlock, if_neg hj']
      exact hk ρ' w' a' hp ht hd
theorem RK.rounds {c : Code} {L : Nat} {t : List AV} {s : St} {k : KS} (h : RK n (fun Q => c.wp P Q) t s (fun e t' s' => match e with
      | .normal => RK n (fun Q => Code.rounds P c Q L) t' s' k
      | e => k e t' s')) : RK n (fun Q => Code.rounds P c Q (L + 1)) t s k := by
  obtain ⟨e, t1, s1, h1, h2, h3⟩ := h
  cases e with
  | normal =>
    obtain ⟨e2, t2, s2, k1, k2, k3⟩ := h3
    refine ⟨e2, t2, s2, k1, fun ρ w a Q hi htr hk => ?_, k3⟩
    show Code.rounds P c Q (L + 1) a w
    rw [rounds_succ]
    refine h2 ρ w a _ hi htr fun ρ1 w1 a1 hp ht hd => ?_
    exact k2 ρ1 w1 a1 Q hp.inv ht fun ρ2 w2 a2 hp2 ht2 hd2 => hk ρ2 w2 a2 (hp.trans hp2) ht2 (hd2.trans hd)
  | exit id =>
    refine ⟨.exit id, t1, s1, h1, fun ρ w a Q hi htr hk => ?_, h3⟩
    show Code.rounds P c Q (L + 1) a w
    rw [rounds_succ]
    exact h2 ρ w a _ hi htr hk
  | ret =>
    refine ⟨.ret, t1, s1, h1, fun ρ w a Q hi htr hk => ?_, h3⟩
    show Code.rounds P c Q (L + 1) a w
    rw [rounds_succ]
    exact h2 ρ w a _ hi htr hk
theorem RK.loop {c : Code} {L : Nat} {t : List AV} {s : St} {k : KS} (h : RK n (fun Q => Code.rounds P c Q L) t s k) : RK n (fun Q => (Code.loop c).wp P Q) t s k := by
  obtain ⟨e, t', s', h1, h2, h3⟩ := h
  exact ⟨e, t', s', h1, fun ρ w a Q hi htr hk => wp_loop_rounds L (h2 ρ w a Q hi htr hk), h3⟩
/-- Ahead of it the slots and blocks may be looked at otherwise. -/
theorem RK.pre {wp : (Exit → Act → World → Prop) → Act → World → Prop} {t t1 : List AV} {s s1 : St} {k : KS} (hl : n ≤ s1.length)
    (hpre : ∀ (ρ : Rho) (w : World) (arr : Array Value), InvC ρ s w → TR ρ t arr → ∃ ρ1, PostC n ρ s w ρ1 s1 w ∧ TR ρ1 t1 arr) (h : RK n wp t1 s1 k) : RK n wp t s k := by
  obtain ⟨e, t', s', h1, h2, h3⟩ := h
  refine ⟨e, t', s', h1, fun ρ w a Q hi htr hk => ?_, h3⟩
  obtain ⟨ρ1, hp, ht1⟩ := hpre ρ w a.tmps hi htr
  exact h2 ρ1 w a Q hp.inv ht1 fun ρ' w' a' hp' ht' hd' => hk ρ' w' a' (hp.trans hp') ht' hd'
/-- Behind it likewise. -/
theorem RK.post {wp : (Exit → Act → World → Prop) → Act → World → Prop} {t : List AV} {s : St} {k k' : KS} (h : RK n wp t s k)
    (hpost : ∀ e t' s', n ≤ s'.length → k e t' s' → ∃ t1 s1, n ≤ s1.length ∧ (∀ (ρ : Rho) (w : World) (arr : Array Value), InvC ρ s' w → TR ρ t' arr → ∃ ρ1, PostC n ρ s' w ρ1 s1 w ∧ TR ρ1 t1 arr) ∧ k' e t1 s1) : RK n wp t s k' := by
  obtain ⟨e, t', s', h1, h2, h3⟩ := h
  obtain ⟨t1, s1, l1, hp, hk'⟩ := hpost e t' s' h1 h3
  refine ⟨e, t1, s1, l1, fun ρ w a Q hi htr hk => h2 ρ w a Q hi htr fun ρ' w' a' hp' ht' hd' => ?_, hk'⟩
  obtain ⟨ρ1, hp1, ht1⟩ := hp ρ' w' a'.tmps hp'.inv ht'
  exact hk ρ1 w' a' (hp'.trans hp1) ht1 hd'

/-- Of the loops whose outcome is told without their text. -/
def LoopsOk (P : Program) (n : Nat) (lp : Nat → Option LoopS) (l : List (Nat × Code)) : Prop :=
  ∀ p ∈ l, ∀ F, lp p.1 = some F → ∀ t s k, n ≤ s.length → F t s k → RK n (fun Q => (Code.block p.1 p.2).wp P Q) t s k

theorem loopK_mono : ∀ {m : Nat} {f : List AV → St → KS → Prop} {R : List AV → St → KS → Prop} {c : Code}, (∀ t s k, n ≤ s.length → f t s k → RK n (fun Q => c.wp P Q) t s k) → ∀ t s k, n ≤ s.length → loopK f m t s k → RK n (fun Q => Code.rounds P c Q m) t s k
  | 0, f, R, c, hf, t, s, k, hn, h => by simp [loopK] at h
  | m + 1, f, R, c, hf, t, s, k, hn, h => by
    simp only [loopK] at h
    refine RK.rounds ?_
    obtain ⟨e, t', s', h1, h2, h3⟩ := hf t s _ hn h
    refine ⟨e, t', s', h1, h2, ?_⟩
    cases e with
    | normal => exact loopK_mono (R := R) hf t' s' k h1 h3
    | exit id => exact h3
    | ret => exact h3

theorem codeK_sound (ok : ProgOk P) (hc : CallOk P call) {lp : Nat → Option LoopS} (L : Nat) : ∀ (c : Code), drawsOkA P c = true → LoopsOk P n lp (blocksC c) → ∀ t s k, n ≤ s.length → codeK P call lp L c t s k → RK n (fun Q => c.wp P Q) t s k
  | .skip, _, _, t, s, k, hn, h => ⟨.normal, t, s, hn, fun ρ w a Q hi htr hk => wp_skip (hk ρ w a (PostC.refl hi hn) htr rfl), h⟩
  | .label l, _, _, t, s, k, hn, h => ⟨.normal, t, s, hn, fun ρ w a Q hi htr hk => wp_label (hk ρ w a (PostC.refl hi hn) htr rfl), h⟩
  | .exit id, _, _, t, s, k, hn, h => ⟨.exit id, t, s, hn, fun ρ w a Q hi htr hk => wp_exit (hk ρ w a (PostC.refl hi hn) htr rfl), h⟩
  | .ret, _, _, t, s, k, hn, h => ⟨.ret, t, s, hn, fun ρ w a Q hi htr hk => wp_ret (hk ρ w a (PostC.refl hi hn) htr rfl), h⟩
  | .region id ops draw, hd, _, t, s, k, hn, h => by
    simp only [codeK] at h
    obtain ⟨t', s', h1, h2⟩ := regionK_run h
    refine ⟨.normal, t', s', Nat.le_trans hn (region_n hc h1), fun ρ w a Q hi htr hk => ?_, h2⟩
    exact region_sound ok hc (fun e => by subst e; exact hd) h1 hi.hr (hpS_agree s) htr hi.fresh fun ρ' w' a' hp ht hd' => hk ρ' w' a' (hp.toC hi hn) ht hd'
  | .seq x y, hd, hl, t, s, k, hn, h => by
    simp only [drawsOkA, Bool.and_eq_true] at hd
    simp only [codeK] at h
    refine RK.seq ?_
    obtain ⟨e, t', s', h1, h2, h3⟩ := codeK_sound ok hc L x hd.1 (fun p hp => hl p (by simp [blocksC, hp])) t s _ hn h
    refine ⟨e, t', s', h1, h2, ?_⟩
    cases e with
    | normal => exact codeK_sound ok hc L y hd.2 (fun p hp => hl p (by simp [blocksC, hp])) t' s' k h1 h3
    | exit id => exact h3
    | ret => exact h3
  | .cond c x y, hd, hl, t, s, k, hn, h => by
    simp only [drawsOkA, Bool.and_eq_true] at hd
    simp only [codeK] at h
    split at h
    · rename_i b hcv
      split at h
      · obtain ⟨e, t', s', h1, h2, h3⟩ := codeK_sound ok hc L x hd.1 (fun p hp => hl p (by simp [blocksC, hp])) t s _ hn h
        refine ⟨e, t', s', h1, fun ρ w a Q hi htr hk => wp_cond_true ?_ (h2 ρ w a Q hi htr hk), h3⟩
        have := ev_sound htr hcv
        simpa [Rel] using this
      · obtain ⟨e, t', s', h1, h2, h3⟩ := codeK_sound ok hc L y hd.2 (fun p hp => hl p (by simp [blocksC, hp])) t s _ hn h
        refine ⟨e, t', s', h1, fun ρ w a Q hi htr hk => wp_cond_false ?_ (h2 ρ w a Q hi htr hk), h3⟩
        have := ev_sound htr hcv
        simpa [Rel] using this
    · exact h.elim
  | .block id x, hd, hl, t, s, k, hn, h => by
    simp only [drawsOkA] at hd
    simp only [codeK] at h
    split at h
    · rename_i F hF
      exact hl (id, x) (by simp [blocksC]) F hF t s k hn h
    · refine RK.block ?_
      obtain ⟨e, t', s', h1, h2, h3⟩ := codeK_sound ok hc L x hd (fun p hp => hl p (by simp [blocksC, hp])) t s _ hn h
      exact ⟨e, t', s', h1, h2, h3⟩
  | .loop x, hd, hl, t, s, k, hn, h => by
    simp only [drawsOkA] at hd
    simp only [codeK] at h
    exact RK.loop (loopK_mono (R := fun _ _ _ => True) (fun t s k hn h => codeK_sound ok hc L x hd (fun p hp => hl p (by simp [blocksC, hp])) t s k hn h) t s k hn h)
  | .rangeFunc _ _ _ _, _, _, t, s, k, hn, h => by simp [codeK] at h
  | .scope _, _, _, t, s, k, hn, h => by simp [codeK] at h
  | .goto _, _, _, t, s, k, hn, h => by simp [codeK] at h
  | .refuse _, _, _, t, s, k, hn, h => by simp [codeK] at h

theorem lookC_mem : ∀ {l : List (Nat × Code)} {id : Nat} {c : Code}, distinctC l = true → (id, c) ∈ l → lookC id l = some c
  | [], id, c, hd, h => by simp at h
  | (j, d) :: l, id, c, hd, h => by
    simp only [distinctC, Bool.and_eq_true] at hd
    simp only [lookC]
    rcases List.mem_cons.1 h with e | h
    · cases e
      rw [show Nat.beq j j = true by simp]
    · have h1 := lookC_mem hd.2 h
      cases hj : Nat.beq j id with
      | true =>
        have := beq_true_eq hj
        subst this
        rw [h1] at hd
        simp at hd
      | false => exact h1
end
end Go.Sy
