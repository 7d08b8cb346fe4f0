/- Regions: the symbolic machine is right. -/
import Derived.Test.YtkfdfenaaidkkaaSyQ
set_option linter.unusedSimpArgs false
set_option linter.unusedVariables false
namespace Go.Sy
open Go

theorem HR.congr {ρ : Rho} {h h' : Hp} {w : World} (hr : HR ρ h w) (e1 : ∀ i, ρ i ≠ none → h' i = h i) : HR ρ h' w where
  cell := fun id B o r x ro cs h1 h2 => hr.cell id B o r x ro cs h1 (by rw [← e1 id (by rw [h1]; simp)]; exact h2)
  apart := fun i j B o r o' r' x y ro ro' cs cs' hij h1 h2 h3 h4 h5 h6 => hr.apart i j B o r o' r' x y ro ro' cs cs' hij h1 h2 h3 h4 (by rw [← e1 i (by rw [h1]; simp)]; exact h5) (by rw [← e1 j (by rw [h2]; simp)]; exact h6)
  fzh := hr.fzh
  fza := fun B o v e id o' r x cs h1 h2 h3 => hr.fza B o v e id o' r x cs h1 h2 (by rw [← e1 id (by rw [h1]; simp)]; exact h3)
  ent := fun i hi => by rw [e1 i hi]; exact hr.ent i hi
  glob := hr.globs fun B _ hF => ⟨rfl, fun id o r x cs h1 h2 h3 => hF id o r x cs h1 h2 (by rw [← e1 id (by rw [h1]; simp)]; exact h3)⟩

section
variable {P : Program} {call : CallS}

/-- A sequence of operations, as a trace, with what is noted. -/
theorem ops_trace {ops : Array Oper} : ∀ (os : List Oper) (i0 : Nat) (t : List AV) (s : St) (acc : List Note) (t' : List AV) (s' : St) (acc' : List Note), opsF P call ops i0 os t s acc = some (t', s', acc') →
    (∀ x ∈ acc, x ∈ acc') ∧ ∃ (f : Nat → List AV × St) (ns : Nat → List Note), f 0 = (t, s) ∧ (∀ (p : Nat) (o : Oper), os[p]? = some o → stepS P call ops (i0 + p) o (f p).1 (f p).2 = some ((f (p + 1)).1, (f (p + 1)).2, ns p) ∧ ∀ x ∈ ns p, x ∈ acc') ∧ f os.length = (t', s')
  | [], i0, t, s, acc, t', s', acc', e => by
    simp only [opsF] at e; cases e
    exact ⟨fun x hx => hx, fun _ => (t, s), fun _ => [], rfl, fun p o h => by simp at h, rfl⟩
  | o :: os, i0, t, s, acc, t', s', acc', e => by
    simp only [opsF] at e
    split at e
    · rename_i t1 s1 l hst
      obtain ⟨g0, f, ns, f0, f1, f2⟩ := ops_trace os _ t1 s1 _ t' s' acc' e
      refine ⟨fun x hx => g0 x (List.mem_append_right _ hx), fun p => match p with | 0 => (t, s) | p + 1 => f p, fun p => match p with | 0 => l | p + 1 => ns p, rfl, fun p o' h => ?_, by simpa using f2⟩
      cases p with
      | zero => simp at h; subst h; simp only [Nat.add_zero]; rw [hst, f0]; exact ⟨rfl, fun x hx => g0 x (List.mem_append_left _ hx)⟩
      | succ p =>
        simp at h
        have := f1 p o' h
        rwa [show i0 + 1 + p = i0 + (p + 1) by omega] at this
    · cases e

theorem bits_spec (acc : List Nat) (i : Nat) : ∀ (es : List Edge), (bitsA acc es).testBit i = true → ∃ e, e ∈ es ∧ Region.binds .any e = true ∧ (i = e.on ∨ (acc.getD e.on 0).testBit i = true)
  | [], h => by simp [bitsA] at h
  | e :: es, h => by
    simp only [bitsA] at h
    split at h
    · rename_i hb
      rw [Nat.testBit_or, Nat.testBit_or, Nat.testBit_two_pow, Bool.or_eq_true, Bool.or_eq_true] at h
      rcases h with (h | h) | h
      · obtain ⟨e', h1, h2, h3⟩ := bits_spec acc i es h
        exact ⟨e', List.mem_cons_of_mem _ h1, h2, h3⟩
      · exact ⟨e, by simp, hb, .inl (by simp at h; exact h.symm)⟩
      · exact ⟨e, by simp, hb, .inr h⟩
    · obtain ⟨e', h1, h2, h3⟩ := bits_spec acc i es h
      exact ⟨e', List.mem_cons_of_mem _ h1, h2, h3⟩
theorem bef_spec : ∀ (os : List Oper) (acc : List Nat), ∃ rest, befA acc os = acc ++ rest ∧ rest.length = os.length ∧ ∀ (p : Nat) (o : Oper), os[p]? = some o → rest[p]? = some (bitsA (acc ++ rest.take p) o.after.toList)
  | [], acc => ⟨[], by simp [befA], rfl, fun p o h => by simp at h⟩
  | o :: os, acc => by
    obtain ⟨rest, h1, h2, h3⟩ := bef_spec os (acc ++ [bitsA acc o.after.toList])
    refine ⟨bitsA acc o.after.toList :: rest, by simp [befA, h1], by simp [h2], fun p o' h => ?_⟩
    cases p with
    | zero => simp at h; subst h; simp
    | succ p =>
      simp at h
      have := h3 p o' h
      simpa using this
theorem bef_closed {ops : Array Oper} (L : Nat → Prop) (hL : ∀ (j : Nat) (o : Oper) (e : Edge), ops[j]? = some o → L j → e ∈ o.after.toList → Region.binds .any e = true → L e.on) :
    ∀ i j o, ops[j]? = some o → L j → ordA (befA [] ops.toList) i j = true → L i := by
  intro i j
  obtain ⟨rest, h1, h2, h3⟩ := bef_spec ops.toList []
  rw [h1]
  simp only [List.nil_append] at h3 ⊢
  have key : ∀ j, (∃ o, ops[j]? = some o) → L j → ∀ i, (rest.getD j 0).testBit i = true → L i := by
    intro j
    induction j using Nat.strongRecOn with
    | _ j ih =>
      rintro ⟨o, ho⟩ hj i hi
      have ho' : ops.toList[j]? = some o := by simpa using ho
      have hr := h3 j o ho'
      simp only [List.getD, hr, Option.getD_some] at hi
      obtain ⟨e, he1, he2, he3⟩ := bits_spec _ i _ hi
      have hLe := hL j o e ho hj he1 he2
      rcases he3 with rfl | he3
      · exact hLe
      · have hlt : e.on < j := by
          rcases Nat.lt_or_ge e.on j with h | h
          · exact h
          · rw [List.getD, List.getElem?_eq_none (by simp; omega)] at he3
            simp at he3
        refine ih e.on hlt ?_ hLe i ?_
        · have hj' : j < ops.size := (Array.getElem?_eq_some_iff.1 ho).1
          exact ⟨ops[e.on]'(by omega), Array.getElem?_eq_getElem (by omega)⟩
        · rw [List.getD, List.getElem?_take, if_pos hlt] at he3
          exact he3
  intro o ho hj hi
  exact key j ⟨o, ho⟩ hj i hi

theorem drawOk_spec {ops : Array Oper} (h : drawOkA P ops = true) :
    (∀ (i j : Nat) (x y : Oper), i < j → ops[i]? = some x → ops[j]? = some y → ordA (befA [] ops.toList) i j = true ∨ (x.apart ops y = true ∧ ¬ (isEff P x.op = true ∧ isEff P y.op = true))) ∧
    (∀ (j : Nat) (o : Oper) (e : Edge), ops[j]? = some o → e ∈ o.after.toList → Region.binds .any e = true → e.on < j) := by
  unfold drawOkA at h
  simp only [List.all_eq_true, List.mem_range, Bool.and_eq_true] at h
  refine ⟨fun i j x y hij hx hy => ?_, fun j o e ho he hb => ?_⟩
  · have hj : j < ops.size := (Array.getElem?_eq_some_iff.1 hy).1
    have := (h j hj).2 i hij
    unfold pairOk at this
    rw [hx, hy] at this
    simp only [Bool.or_eq_true, Bool.and_eq_true, Bool.not_eq_true'] at this
    refine this.imp id (fun ⟨a, b⟩ => ⟨a, fun ⟨c, d⟩ => ?_⟩)
    rw [c, d] at b; cases b
  · have hj : j < ops.size := (Array.getElem?_eq_some_iff.1 ho).1
    have := (h j hj).1
    unfold edgesOk at this
    rw [ho] at this
    simp only at this
    rw [Array.all_eq_true_iff_forall_mem] at this
    have := this e (Array.mem_toList_iff.1 he)
    rw [hb] at this
    simpa [Nat.blt_eq] using this


variable {ρ : Rho} {h : Hp} {w : World} {s : St} {tmps : List AV} {a : Act}

theorem region_n (hc : CallOk P call) {ops : Array Oper} {draw : Bool} {tmps' : List AV} {s' : St} (e : regionF P call ops draw tmps s = some (tmps', s')) : s.length ≤ s'.length := by
  unfold regionF at e
  split at e
  · rename_i t1 s1 acc h1
    split at e
    · cases e; exact ops_n hc _ _ _ _ _ _ _ _ h1
    · cases e
  · cases e

theorem region_any (ok : ProgOk P) (hc : CallOk P call) {id : Nat} {ops : Array Oper} {tmps' : List AV} {s' : St} (f : Nat → List AV × St) (f0 : f 0 = (tmps, s)) (f3 : (tmps', s') = f ops.size)
    (X : Text P call ops (befA [] ops.toList) (fun p => (f p).1) (fun p => (f p).2))
    (hr : HR ρ h w) (ha : Agree s h) (htr : TR ρ tmps a.tmps) (hf : Fresh ρ s s') {Q : Exit → Act → World → Prop}
    (hk : ∀ ρ' w' a', Post ρ h w s ρ' (upd s' h) w' s' → TR ρ' tmps' a'.tmps → a'.defers = a.defers → Q .normal a' w') : (Code.region id ops true).wp P Q a w := by
  have hS0 : (f 0).2 = s := by rw [f0]
  have hT0 : (f 0).1 = tmps := by rw [f0]
  have hfin : f ops.size = (tmps', s') := f3.symm
  have hSn : (f ops.size).2 = s' := by rw [hfin]
  have hf' : Fresh ρ ((fun p => (f p).2) 0) ((fun p => (f p).2) ops.size) := by simp only [hS0, hSn]; exact hf
  -- where the heap stands at the beginning
  have hbeg : ∀ i, ρ i ≠ none → hS (fun p => (f p).2) ops.size h 0 i = h i := fun i hi => by
    unfold hS
    simp only [hS0]
    split
    · rename_i hlt; exact (ha i hlt).symm
    · rename_i hlt
      rcases Nat.lt_or_ge i s'.length with h3 | h3
      · exact absurd (hf i (by omega) h3) hi
      · exact birth_far hc X (by simp only [hSn]; exact h3)
  have hHR0 : HR ρ (hS (fun p => (f p).2) ops.size h 0) w := hr.congr hbeg
  refine wp_region_any ok.orders ?_
  refine any_sound (ρ0 := ρ) (h0 := h) (w0 := w) (d0 := a.defers) ok hc X hf' ?_ ops.size (Array.replicate ops.size false) ρ 0 tmps a { w with drawn := w.drawn + 1 } (by simp) ?_ ?_
  · -- the end
    intro L ρ' c C a' w' hall I
    have hE : ∀ (k : Nat) (o : Oper), c ≤ k → k < ops.size → ops[k]? = some o → isEff P o.op = false := fun k o h1 h2 ho => by
      cases hh : isEff P o.op with
      | false => rfl
      | true => have := (I.cut k o ho hh).1 (hall k h2); omega
    have I' := I.advTo hc X ops.size I.cn (Nat.le_refl _) hE
    have hSend : hS (fun p => (f p).2) ops.size h ops.size = upd s' h := by
      funext i
      unfold hS upd
      simp only [hSn]
      split
      · rfl
      · rename_i hlt
        exact birth_far hc X (by simp only [hSn]; omega)
    have hn0 : ∀ q, q ≤ ops.size → s.length ≤ (f q).2.length := fun q hq => by have := X.n_mono hc (p := 0) q hq (by omega); simpa only [hS0] using this
    have hne : ∀ q, q ≤ ops.size → (f q).2.length ≤ s'.length := fun q hq => by have := X.n_mono hc (p := q) ops.size (Nat.le_refl _) hq; simpa only [hSn] using this
    refine hk ρ' w' a' ⟨I'.le, fun i hi => ?_, rfl, ?_, ?_, by have := hn0 ops.size (Nat.le_refl _); rw [hSn] at this; exact this, I'.os, I'.tape, I'.output, I'.size, fun B hB hfr => ?_, fun B hB hfr => ?_, I'.fzn, fun i hi h1 => ?_⟩ ⟨?_, fun t => ?_⟩ I'.defers
    · obtain ⟨q, h1, h2, h3⟩ := I'.dom i hi
      have hq := I'.lt q h1
      have := hn0 q (by omega)
      have := hne (q + 1) (by omega)
      have h2' : (f q).2.length ≤ i := h2
      have h3' : i < (f (q + 1)).2.length := h3
      omega
    · rw [← hSend]; exact I'.hr
    · have := I'.ag
      rw [hSend] at this
      simpa only [hSn] using this
    · have := I'.frame B hB hfr
      rw [hSend] at this
      exact this
    · have := I'.out B hB hfr
      rw [hSend] at this
      exact this
    · have := I'.idle i (by simp only [hS0]; exact hi) h1
      simpa only [hS0, hSn] using this
    · have h1 := X.length ops.size (Nat.le_refl _)
      simp only [hfin, hT0] at h1
      have h2 := I'.tr.1
      have h3 := I'.clen
      simp only [hT0] at h3
      omega
    · obtain ⟨i, hi, e1, e2, e3⟩ := I'.time t
      have h1 := X.same (t := t) (i := i) ops.size (Nat.le_refl _) hi (fun k o q1 q2 ho hd' => by have := e3 k o (hall k q2) ho hd'; omega)
      simp only [hfin] at h1
      have h2 := I'.tr.2 t
      have e1' : C.getD t undefA = (f i).1.getD t undefA := e1
      rw [e1', ← h1] at h2
      exact h2
  · -- the beginning
    have hno : ∀ k, (Array.replicate ops.size false).getD k false = false := fun k => by
      rw [Array.getD_eq_getD_getElem?, Array.getElem?_replicate]
      split <;> rfl
    refine ⟨fun j o e _ hj => (by rw [hno] at hj; cases hj), fun j hj => (by rw [hno] at hj; cases hj), htr, by simp only [hT0], fun t => ⟨0, Nat.zero_le _, by simp only [hT0], .inl rfl, fun k o hk => (by rw [hno] at hk; cases hk)⟩, Nat.zero_le _, fun e o _ _ => ?_, hHR0.drew _, ?_, Rho.le.rfl, fun i hi => absurd rfl hi, fun p hp => by omega, rfl, rfl, rfl, Nat.le_refl _, fun B hB hfr => ⟨rfl, fun i o r x cs hi h1 h2 h3 => ?_⟩, fun B hB hfr i o r x v hi h1 h2 h3 => ?_, fun B o v e => .inl e, fun i _ _ => rfl, rfl⟩
    · rw [hno]
      constructor
      · intro hh; cases hh
      · intro hh; omega
    · simp only [hS0]
      exact fun i hi => by unfold hS; simp only [hS0]; rw [if_pos hi]
    · rw [hbeg i (by rw [hi]; simp)] at h2
      exact hfr i o r x cs hi h1 h2 h3
    · rw [hbeg i (by rw [hi]; simp)] at h2
      exact hfr i o r x v hi h1 h2 h3
  · exact Nat.le_trans List.countP_le_length (by simp)


theorem region_sound (ok : ProgOk P) (hc : CallOk P call) {id : Nat} {ops : Array Oper} {draw : Bool} (hd : draw = true → drawOkA P ops = true) {tmps' : List AV} {s' : St} (e : regionF P call ops draw tmps s = some (tmps', s'))
    (hr : HR ρ h w) (ha : Agree s h) (htr : TR ρ tmps a.tmps) (hf : Fresh ρ s s') {Q : Exit → Act → World → Prop}
    (hk : ∀ ρ' w' a', Post ρ h w s ρ' (upd s' h) w' s' → TR ρ' tmps' a'.tmps → a'.defers = a.defers → Q .normal a' w') : (Code.region id ops draw).wp P Q a w := by
  unfold regionF at e
  have hto : ∀ (p : Nat) (o : Oper), ops[p]? = some o → ops.toList[p]? = some o := fun p o ho => by simpa using ho
  have hlen : ops.toList.length = ops.size := by simp
  split at e
  · rename_i t1 s1 acc h1
    split at e
    · rename_i hdr
      cases e
      cases draw with
      | false =>
        refine wp_region_list ?_
        exact ops_sound ok hc ops.toList 0 ρ h w s tmps [] a tmps' s' acc h1 hr ha htr hf hk
      | true =>
        have hn : notesOk (befA [] ops.toList) acc = true := hdr
        obtain ⟨_, f, ns, f0, f1, f3⟩ := ops_trace _ _ _ _ _ _ _ _ h1
        rw [hlen] at f3
        obtain ⟨hpair, hedge⟩ := drawOk_spec (hd rfl)
        have hst : ∀ (p : Nat) (o : Oper), ops[p]? = some o → stepS P call ops p o (f p).1 (f p).2 = some ((f (p + 1)).1, (f (p + 1)).2, ns p) ∧ ∀ x ∈ ns p, x ∈ acc := fun p o ho => by
          have := f1 p o (hto p o ho)
          rwa [Nat.zero_add] at this
        refine region_any ok hc f f0 f3.symm ⟨fun p o ho => ⟨ns p, (hst p o ho).1⟩, fun p o q l mk ho hR hq hg hrd e oe qe hoe hee hqe hge q1 q2 hlt => ?_, hpair, hedge, fun L hL => bef_closed L hL⟩ hr ha htr hf hk
        -- the two notes
        obtain ⟨k1, k2⟩ := hst p o ho
        obtain ⟨m1, m2⟩ := hst e oe hoe
        obtain ⟨q', hq', ⟨g1, _⟩ | ⟨_, v, tch, hop, _, hns⟩⟩ := step_put k1
        · rw [hq] at hq'; cases hq'; rw [hg] at g1; cases g1
        · obtain ⟨qe', hqe', ⟨g1, _⟩ | ⟨_, ve, tche, hope, _, hnse⟩⟩ := step_put m1
          · rw [hqe] at hqe'; cases hqe'; rw [hge] at g1; cases g1
          · have hx := k2 _ (by rw [hns]; exact List.mem_singleton.2 rfl)
            have hy := m2 _ (by rw [hnse]; exact List.mem_singleton.2 rfl)
            have h2 := List.all_eq_true.1 (List.all_eq_true.1 hn _ hx) _ hy
            have hrdo : rdOf P (f p).1 o.op = some l.blk := by
              unfold isRead at hR
              split at hR
              · rename_i hcl
                unfold rdOf
                rw [hcl, hrd]
              · cases hR
            unfold noteOk at h2
            rw [hrdo] at h2
            simp only [q1, q2, Bool.false_or, Bool.not_eq_true', List.contains_eq_mem, decide_eq_false_iff_not] at h2
            exact (op_keeps hc hope).2 _ hlt h2
    · cases e
  · cases e
end

end Go.Sy
