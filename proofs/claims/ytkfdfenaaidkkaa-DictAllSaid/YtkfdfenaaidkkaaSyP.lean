/- A region in whatever order: effects, new blocks, reads; the law. -/
import Derived.Test.YtkfdfenaaidkkaaSyO
set_option linter.unusedSimpArgs false
set_option linter.unusedVariables false
namespace Go.Sy
open Go

section
variable {P : Program} {call : CallS} {ops : Array Oper} {bef : List Nat} {T : Nat → List AV} {S : Nat → St} {ρ0 : Rho} {h0 : Hp} {w0 : World} {d0 : List Deferred}
variable {L : Nat → Prop} {ρ : Rho} {c : Nat} {C : List AV} {a : Act} {w : World}

/-- No effect stands between what has been done and an effect whose turn has come. -/
theorem Inv.toEff (hc : CallOk P call) (X : Text P call ops bef T S) (I : Inv P call ops bef T S ρ0 h0 w0 d0 L ρ c C a w) {p : Nat} {o : Oper} (ho : ops[p]? = some o) (hL : ¬ L p) (hpre : ∀ e, e ∈ o.after.toList → Region.binds .any e = true → L e.on)
    (hE : isEff P o.op = true) : Inv P call ops bef T S ρ0 h0 w0 d0 L ρ p C a w := by
  have hp : p < ops.size := (Array.getElem?_eq_some_iff.1 ho).1
  have hcp : c ≤ p := by
    rcases Nat.lt_or_ge p c with h | h
    · exact absurd ((I.cut p o ho hE).2 h) hL
    · exact h
  refine I.advTo hc X p hcp (by omega) (fun k ok h1 h2 hok => ?_)
  cases hk : isEff P ok.op with
  | false => rfl
  | true =>
    exfalso
    rcases X.pair k p ok o h2 hok ho with h | ⟨_, h⟩
    · have hLk : L k := by
        refine X.closed (fun j => L j ∨ j = p) ?_ k p o ho (.inr rfl) h |>.resolve_right (by omega)
        intro j oj e hoj hj he hb
        rcases hj with hj | rfl
        · exact .inl (I.closed j oj e hoj hj he hb)
        · rw [ho] at hoj; cases hoj
          exact .inl (hpre e he hb)
      have := (I.cut k ok hok hk).1 hLk
      omega
    · exact h ⟨hk, hE⟩

/-- Behind an effect. -/
theorem Inv.done (hc : CallOk P call) (X : Text P call ops bef T S) {p : Nat} (I : Inv P call ops bef T S ρ0 h0 w0 d0 L ρ p C a w) {o : Oper} (ho : ops[p]? = some o) (hL : ¬ L p) (hpre : ∀ e, e ∈ o.after.toList → Region.binds .any e = true → L e.on)
    {v : AV} {u : Value} (hT : T (p + 1) = putA (T p) o.dst v) {ρ' : Rho} {w' : World} (hp : Post ρ (hS S ops.size h0 p) w (S p) ρ' (upd (S (p + 1)) (hS S ops.size h0 p)) w' (S (p + 1))) (hv : Rel ρ' v u) (hf : Fresh ρ0 (S 0) (S ops.size)) :
    Inv P call ops bef T S ρ0 h0 w0 d0 (fun k => L k ∨ k = p) ρ' (p + 1) (putA C o.dst v) (a.put o.dst u) w' := by
  have hpn : p < ops.size := (Array.getElem?_eq_some_iff.1 ho).1
  have hm := X.n_step hc hpn
  have hm0 := X.n_mono hc (p := 0) p (by omega) (by omega)
  have hupd : upd (S (p + 1)) (hS S ops.size h0 p) = hS S ops.size h0 (p + 1) := by
    funext id
    unfold upd hS
    by_cases h1 : id < (S (p + 1)).length
    · rw [if_pos h1, if_pos h1]
    · rw [if_neg h1, if_neg h1, if_neg (by omega)]
  have hq := hp
  rw [hupd] at hq
  refine ⟨I.newClosed ho hpre, fun j hj => ?_, (I.tr.mono hp.ext).put hv, by rw [putA_length]; exact I.clen, I.slots X ho hL hT, hpn, fun e oe hoe hee => ?_, hq.hr, hq.agree, I.le.trans hp.ext, fun id hid => ?_, fun q hq' hLq id h1 h2 => ?_,
    hp.os.trans I.os, hp.tape.trans I.tape, hp.output.trans I.output, Nat.le_trans I.size hp.size, fun B hB hfr => ?_, fun B hB hfr => hq.out B (Nat.lt_of_lt_of_le hB I.size) (I.out B hB hfr), fun B o v e => ?_, fun id hid h1 => ?_, ?_⟩
  · rcases hj with hj | rfl
    · exact I.lt j hj
    · exact hpn
  · have := I.cut e oe hoe hee
    constructor
    · rintro (h | rfl)
      · have := this.1 h; omega
      · omega
    · intro h
      rcases Nat.lt_or_ge e p with h1 | h1
      · exact .inl (this.2 h1)
      · exact .inr (by omega)
  · by_cases e : ρ' id = ρ id
    · obtain ⟨q, h1, h2⟩ := I.dom id (by rw [← e]; exact hid)
      exact ⟨q, .inl h1, h2⟩
    · exact ⟨p, .inr rfl, hp.new id e⟩
  · have hqp : q < p := by
      rcases Nat.lt_or_ge q p with h | h
      · exact h
      · exact absurd (.inr (by omega)) hLq
    have hLq' : ¬ L q := fun h => hLq (.inl h)
    have hqm := X.n_mono hc (p := q + 1) p (by omega) (by omega)
    have hq0 := X.n_mono hc (p := 0) q (by omega) (by omega)
    have hqe := X.n_mono hc (p := q + 1) ops.size (Nat.le_refl _) (by omega)
    have hu := I.unl q hqp hLq' id h1 h2
    have hρid : ρ id = none := by
      have hρ0 : ρ0 id = none := hf id (by omega) (by omega)
      by_cases e : ρ id = ρ0 id
      · rw [e]; exact hρ0
      · exfalso
        obtain ⟨q', a1, a2, a3⟩ := I.dom id e
        have := owner_unique hc X (I.lt q' a1) (by omega) a2 a3 h1 h2
        subst this
        exact hLq' a1
    rw [← hu]
    exact hp.idle id (by omega) hρid
  · obtain ⟨e1, f1⟩ := I.frame B hB hfr
    obtain ⟨e2, f2⟩ := hq.frame B (Nat.lt_of_lt_of_le hB I.size) f1
    exact ⟨e2.trans e1, f2⟩
  · rcases hp.fzn B o v e with e | e | e
    · exact I.fzn B o v e
    · exact .inr (.inl (Nat.le_trans I.size e))
    · rcases Nat.lt_or_ge B w0.heap.size with hB | hB
      · exact .inr (.inr (fun hf' => e (I.out B hB hf')))
      · exact .inr (.inl hB)
  · have e1 := I.idle id hid h1
    have hρid : ρ id = none := by
      by_cases e : ρ id = ρ0 id
      · rw [e]; exact h1
      · exfalso
        obtain ⟨q', a1, a2, a3⟩ := I.dom id e
        have := X.n_mono hc (p := 0) q' (by have := I.lt q' a1; omega) (by omega)
        omega
    rw [← e1]
    exact hp.idle id (by omega) hρid
  · rw [← I.defers]; cases o.dst <;> rfl

/-- Of an effect that is left out. -/
theorem Inv.left (hc : CallOk P call) (X : Text P call ops bef T S) {p : Nat} (I : Inv P call ops bef T S ρ0 h0 w0 d0 L ρ p C a w) {o : Oper} (ho : ops[p]? = some o) (hL : ¬ L p) (hpre : ∀ e, e ∈ o.after.toList → Region.binds .any e = true → L e.on)
    (hT : T (p + 1) = putA (T p) o.dst undefA) (hS' : S (p + 1) = S p) (hf : Fresh ρ0 (S 0) (S ops.size)) :
    Inv P call ops bef T S ρ0 h0 w0 d0 (fun k => L k ∨ k = p) ρ (p + 1) (putA C o.dst undefA) (a.put o.dst undef) w := by
  refine I.done hc X ho hL hpre hT ?_ (rel_undef ρ) hf
  rw [hS']
  exact Post.refl I.hr I.ag

/-- A new real block that a new number (or one that has waited for it) stands for. -/
theorem alloc_HR {ρ : Rho} {h : Hp} {w : World} (hr : HR ρ h w) {id : Nat} {x : Ent} {cs : List AV} {vs : List Value} {e : TypeId} (hid : ρ id = none) (hh : h id = some x) (hx : x.view = some (false, cs)) (hrel : Rels ρ cs vs) :
    HR (ρ.put id (w.heap.size, 0, vs.length)) h (w.alloc (.cells vs.toArray e)) := by
  have hle : ρ.le (ρ.put id (w.heap.size, 0, vs.length)) := Rho.put_le (.inl hid)
  have hfzh : ∀ (B o : Nat) (v : Value), (ρ.put id (w.heap.size, 0, vs.length)).fz B o = some v → (w.alloc (.cells vs.toArray e)).cell? ⟨B, o, none⟩ = some v := fun B o v ev => by
    have hc := hr.fzh B o v ev
    rw [World.cell?_of_block (w := w)]
    · exact hc
    · exact heap_alloc_old w _ _ (cell_lt hc)
  have H0 : Holds (ρ.put id (w.heap.size, 0, vs.length)) (w.alloc (.cells vs.toArray e)) w.heap.size 0 vs.length false cs := by
    have := Holds.fresh (w := w) (rest := []) (e := e) (Rels.mono hle _ _ hrel)
    simpa using this
  refine ⟨?_, ?_, hfzh, ?_, ?_, hr.globs fun B hB hF => ⟨heap_alloc_old w _ _ hB, fun i o r y c h1 h2 h3 h4 => ?_⟩⟩
  · intro i B o r y ro c h1 h2 h3
    by_cases hi : i = id
    · subst hi
      rw [Rho.put_same] at h1; cases h1
      rw [hh] at h2; cases h2
      rw [hx] at h3; cases h3
      exact H0
    · rw [Rho.put_other _ _ hi] at h1
      have hc := hr.cell i B o r y ro c h1 h2 h3
      refine hc.move hle (by simp) ?_ hfzh
      by_cases h0 : r = 0
      · exact .inl h0
      · exact .inr (heap_alloc_old w _ _ (hc.lt h0))
  · intro i j B o r o' r' y z ro ro' c c' hij h1 h2 h3 h4 h5 h6 h7 h8 h9
    by_cases hi : i = id
    · subst hi
      rw [Rho.put_same] at h1; cases h1
      rw [Rho.put_other _ _ (fun e => hij e.symm)] at h2
      have := (hr.cell j _ _ _ _ _ _ h2 h6 h8).lt h4
      omega
    · rw [Rho.put_other _ _ hi] at h1
      by_cases hj : j = id
      · subst hj
        rw [Rho.put_same] at h2; cases h2
        have := (hr.cell i _ _ _ _ _ _ h1 h5 h7).lt h3
        omega
      · rw [Rho.put_other _ _ hj] at h2
        exact hr.apart i j B o r o' r' y z ro ro' c c' hij h1 h2 h3 h4 h5 h6 h7 h8 h9
  · intro B o v ev i o' r y c h1 h2 h3 h4
    have ev' : ρ.fz B o = some v := ev
    by_cases hi : i = id
    · subst hi
      rw [Rho.put_same] at h1; cases h1
      have := cell_lt (hr.fzh _ _ _ ev')
      omega
    · rw [Rho.put_other _ _ hi] at h1
      exact hr.fza B o v ev' i o' r y c h1 h2 h3 h4
  · intro i hi
    by_cases hii : i = id
    · subst hii; rw [hh]; simp
    · rw [Rho.put_other _ _ hii] at hi; exact hr.ent i hi
  · by_cases hi : i = id
    · subst hi
      rw [Rho.put_same] at h1; cases h1
      omega
    · rw [Rho.put_other _ _ hi] at h1
      exact hF i o r y c h1 h2 h3 h4

/-- A new block, early or late. -/
theorem Inv.made (hc : CallOk P call) (X : Text P call ops bef T S) (I : Inv P call ops bef T S ρ0 h0 w0 d0 L ρ c C a w) {p : Nat} {o : Oper} (ho : ops[p]? = some o) (hL : ¬ L p) (hpre : ∀ e, e ∈ o.after.toList → Region.binds .any e = true → L e.on)
    {v : AV} {x : Ent} {cs : List AV} {u : Value} {vs : List Value} {ty : TypeId} (hT : T (p + 1) = putA (T p) o.dst v) (hSp : S (p + 1) = S p ++ [x]) (hx : x.view = some (false, cs)) (hE : isEff P o.op = false) (hrel : Rels ρ cs vs) (hf : Fresh ρ0 (S 0) (S ops.size))
    (hv : ∀ ρ' : Rho, ρ' (S p).length = some (w.heap.size, 0, vs.length) → Rel ρ' v u) :
    ∃ ρ', Inv P call ops bef T S ρ0 h0 w0 d0 (fun k => L k ∨ k = p) ρ' c (putA C o.dst v) (a.put o.dst u) (w.alloc (.cells vs.toArray ty)) := by
  have hp : p < ops.size := (Array.getElem?_eq_some_iff.1 ho).1
  have hn1 : (S (p + 1)).length = (S p).length + 1 := by rw [hSp]; simp
  have hget : (S (p + 1))[(S p).length]? = some x := by rw [hSp]; simp
  have hm0 := X.n_mono hc (p := 0) p (by omega) (by omega)
  have hme := X.n_mono hc (p := p + 1) ops.size (Nat.le_refl _) (by omega)
  have hρ0 : ρ0 (S p).length = none := hf _ hm0 (by omega)
  have hρn : ρ (S p).length = none := by
    by_cases e : ρ (S p).length = ρ0 (S p).length
    · rw [e]; exact hρ0
    · exfalso
      obtain ⟨q, a1, a2, a3⟩ := I.dom _ e
      have := owner_unique hc X (I.lt q a1) hp a2 a3 (Nat.le_refl _) (by omega)
      subst this
      exact hL a1
  have hhS : hS S ops.size h0 c (S p).length = some x := by
    unfold hS
    split
    · rename_i hlt
      have hpc : p < c := by
        rcases Nat.lt_or_ge p c with h | h
        · exact h
        · have := X.n_mono hc (p := c) p (by omega) h; omega
      rw [I.unl p hpc hL _ (Nat.le_refl _) (by omega), hget]
    · rw [birth_eq hc X hp (Nat.le_refl _) (by omega), hget]
  have hA := alloc_HR I.hr (id := (S p).length) (e := ty) hρn hhS hx hrel
  obtain ⟨ρ', hρ'⟩ : ∃ ρ' : Rho, ρ' = ρ.put (S p).length (w.heap.size, 0, vs.length) := ⟨_, rfl⟩
  rw [← hρ'] at hA
  have hnew : ρ' (S p).length = some (w.heap.size, 0, vs.length) := by rw [hρ']; exact Rho.put_same _ _ _
  have hold : ∀ i, i ≠ (S p).length → ρ' i = ρ i := fun i hi => by rw [hρ']; exact Rho.put_other _ _ hi
  have hle : ρ.le ρ' := by rw [hρ']; exact Rho.put_le (.inl hρn)
  refine ⟨ρ', { I with closed := I.newClosed ho hpre, lt := fun j hj => ?_, tr := (I.tr.mono hle).put (hv ρ' hnew), clen := by rw [putA_length]; exact I.clen, time := I.slots X ho hL hT, cut := fun e oe hoe hee => ?_, hr := hA, le := I.le.trans hle, dom := fun id hid => ?_, unl := fun q hq hLq id h1 h2 => I.unl q hq (fun h => hLq (.inl h)) id h1 h2, os := I.os, tape := I.tape, output := I.output, size := Nat.le_trans I.size (by simp), frame := ?_, out := ?_, fzn := fun B o v e => I.fzn B o v (by rw [hρ'] at e; exact e), defers := ?_ }⟩
  · rcases hj with hj | rfl
    · exact I.lt j hj
    · exact hp
  · rw [← I.cut e oe hoe hee]
    constructor
    · rintro (h | rfl)
      · exact h
      · rw [ho] at hoe; cases hoe; rw [hE] at hee; cases hee
    · exact .inl
  · by_cases hi : id = (S p).length
    · exact ⟨p, .inr rfl, by omega, by omega⟩
    · obtain ⟨q, h1, h2⟩ := I.dom id (by rw [← hold id hi]; exact hid)
      exact ⟨q, .inl h1, h2⟩
  · intro B hB hfr
    obtain ⟨e1, f1⟩ := I.frame B hB hfr
    have hBw : B < w.heap.size := Nat.lt_of_lt_of_le hB I.size
    refine ⟨(heap_alloc_old w _ _ hBw).trans e1, fun id o' r' y c' e h1 h2 h3 => ?_⟩
    by_cases hi : id = (S p).length
    · subst hi
      rw [hnew] at e
      simp only [Option.some.injEq, Prod.mk.injEq] at e
      omega
    · rw [hold id hi] at e
      exact f1 id o' r' y c' e h1 h2 h3
  · intro B hB hfr id o' r' y v' e h1 h2 h3
    have hBw : B < w.heap.size := Nat.lt_of_lt_of_le hB I.size
    by_cases hi : id = (S p).length
    · subst hi
      rw [hnew] at e
      simp only [Option.some.injEq, Prod.mk.injEq] at e
      omega
    · rw [hold id hi] at e
      exact I.out B hB hfr id o' r' y v' e h1 h2 h3
  · rw [← I.defers]; cases o.dst <;> rfl

/-- What is ordered before, stands before. -/
theorem Text.ord_lt (X : Text P call ops bef T S) {i j : Nat} {o : Oper} (ho : ops[j]? = some o) (h : ordA bef i j = true) : i ≤ j :=
  X.closed (fun k => k ≤ j) (fun k ok e hok hk he hb => by have := X.edges k ok e hok he hb; omega) i j o ho (Nat.le_refl _) h

/-- What a read reads, whenever it is carried out. -/
theorem Inv.reads (hc : CallOk P call) (X : Text P call ops bef T S) (I : Inv P call ops bef T S ρ0 h0 w0 d0 L ρ c C a w) {p : Nat} {o : Oper} {q : Gd} {l : Loc} {mk : Made} {x : Ent} (ho : ops[p]? = some o) (hL : ¬ L p) (hpre : ∀ e, e ∈ o.after.toList → Region.binds .any e = true → L e.on)
    (hR : isRead P o.op = true) (hq : guardS ops (T p) o = some q) (hg : q.goes = true) (hread : readA P (T p) o.op = some (.at l mk)) (hl : (S p)[l.blk]? = some x) : hS S ops.size h0 c l.blk = some x := by
  have hp : p < ops.size := (Array.getElem?_eq_some_iff.1 ho).1
  have hE : isEff P o.op = false := by
    unfold isRead at hR; unfold isEff
    split at hR <;> rename_i hcl
    · rw [hcl]
    · cases hR
  have hst := X.stable p o q l mk ho hR hq hg hread
  have hlt : l.blk < (S p).length := (List.getElem?_eq_some_iff.1 hl).1
  have hpreL : ∀ e, e < p → ordA bef e p = true → L e := fun e hlt hord => by
    refine X.closed (fun j => L j ∨ j = p) ?_ e p o ho (.inr rfl) hord |>.resolve_right (by omega)
    intro j oj ed hoj hj he hb
    rcases hj with hj | rfl
    · exact .inl (I.closed j oj ed hoj hj he hb)
    · rw [ho] at hoj; cases hoj
      exact .inl (hpre ed he hb)
  -- a step that is not in order with it
  have one : ∀ k, k < ops.size → k ≠ p → (p < k → L k) → (k < p → ¬ L k) → l.blk < (S k).length → (∀ ok qk, ops[k]? = some ok → isEff P ok.op = true → guardS ops (T k) ok = some qk → qk.goes = true → (p < k → L k) ∧ (k < p → ¬ L k)) → (S (k + 1))[l.blk]? = (S k)[l.blk]? := by
    intro k hk hkp h1 h2 hb _
    by_cases hi : Idle P ops T k
    · exact X.idle_step hk hi _ hb
    · have : ∃ ok qk, ops[k]? = some ok ∧ isEff P ok.op = true ∧ guardS ops (T k) ok = some qk ∧ qk.goes = true := by
        unfold Idle at hi
        rw [Classical.not_forall] at hi
        obtain ⟨ok, hi⟩ := hi
        rw [Classical.not_forall] at hi
        obtain ⟨qk, hi⟩ := hi
        rw [Classical.not_imp] at hi
        obtain ⟨a1, hi⟩ := hi
        rw [Classical.not_imp] at hi
        obtain ⟨a2, hi⟩ := hi
        rw [Classical.not_imp] at hi
        obtain ⟨a3, hi⟩ := hi
        exact ⟨ok, qk, a1, a2, a3, by simpa using hi⟩
      obtain ⟨ok, qk, a1, a2, a3, a4⟩ := this
      refine hst k ok qk a1 a2 a3 a4 ?_ ?_ hb
      · cases hh : ordA bef p k with
        | false => rfl
        | true =>
          have := X.ord_lt a1 hh
          have hLk := h1 (by omega)
          exact absurd (X.closed L I.closed p k ok a1 hLk hh) hL
      · cases hh : ordA bef k p with
        | false => rfl
        | true =>
          have := X.ord_lt ho hh
          exact absurd (hpreL k (by omega) hh) (h2 (by omega))
  rcases Nat.lt_or_ge p c with hpc | hpc
  · -- effects behind it in the text have been carried out
    have walk : ∀ k, p ≤ k → k ≤ c → (S k)[l.blk]? = some x := by
      intro k
      induction k with
      | zero => intro h _; have : p = 0 := by omega
                subst this; exact hl
      | succ k ih =>
        intro h hk
        by_cases e : p = k + 1
        · rw [← e]; exact hl
        · have hprev := ih (by omega) (by omega)
          have hkn : k < ops.size := by have := I.cn; omega
          have hb : l.blk < (S k).length := (List.getElem?_eq_some_iff.1 hprev).1
          by_cases hkp : k = p
          · subst hkp
            have hidle : Idle P ops T k := fun o' q' ho' he _ => by rw [ho] at ho'; cases ho'; rw [hE] at he; cases he
            rw [X.idle_step hkn hidle _ hb]; exact hprev
          · by_cases hi : Idle P ops T k
            · rw [X.idle_step hkn hi _ hb]; exact hprev
            · have hLk : L k := by
                unfold Idle at hi
                rw [Classical.not_forall] at hi
                obtain ⟨ok, hi⟩ := hi
                rw [Classical.not_forall] at hi
                obtain ⟨qk, hi⟩ := hi
                rw [Classical.not_imp] at hi
                obtain ⟨a1, hi⟩ := hi
                rw [Classical.not_imp] at hi
                exact (I.cut k ok a1 hi.1).2 (by omega)
              rw [one k hkn hkp (fun _ => hLk) (fun hlt => by omega) hb (fun _ _ _ _ _ _ => ⟨fun _ => hLk, fun hlt => by omega⟩)]
              exact hprev
    have := walk c (by omega) (Nat.le_refl _)
    unfold hS
    rw [if_pos (List.getElem?_eq_some_iff.1 this).1]
    exact this
  · -- effects ahead of it in the text have not
    have hnL : ∀ k, c ≤ k → k < p → ¬ Idle P ops T k → ¬ L k := fun k h1 h2 hi hLk => by
      unfold Idle at hi
      rw [Classical.not_forall] at hi
      obtain ⟨ok, hi⟩ := hi
      rw [Classical.not_forall] at hi
      obtain ⟨qk, hi⟩ := hi
      rw [Classical.not_imp] at hi
      obtain ⟨a1, hi⟩ := hi
      rw [Classical.not_imp] at hi
      have := (I.cut k ok a1 hi.1).1 hLk
      omega
    have walk : ∀ d k, k + d = p → c ≤ k → l.blk < (S k).length → (S k)[l.blk]? = some x := by
      intro d
      induction d with
      | zero => intro k h1 _ _; have : k = p := by omega
                subst this; exact hl
      | succ d ih =>
        intro k h1 h2 hb
        have hkn : k < ops.size := by omega
        have hm := X.n_step hc hkn
        have hnext := ih (k + 1) (by omega) (by omega) (by omega)
        rw [← hnext]
        by_cases hi : Idle P ops T k
        · exact (X.idle_step hkn hi _ hb).symm
        · exact (one k hkn (by omega) (fun h => by omega) (fun _ => hnL k h2 (by omega) hi) hb (fun _ _ _ _ _ _ => ⟨fun h => by omega, fun _ => hnL k h2 (by omega) hi⟩)).symm
    rcases Nat.lt_or_ge l.blk (S c).length with hb | hb
    · unfold hS
      rw [if_pos hb]
      exact walk (p - c) c (by omega) (Nat.le_refl _) hb
    · -- born in between
      unfold hS
      rw [if_neg (by omega)]
      have hm0 := X.n_mono hc (p := 0) c I.cn (by omega)
      obtain ⟨r, r1, r2, r3⟩ := owner hc X p (by omega) (by omega) hlt
      have hcr : c ≤ r := by
        rcases Nat.lt_or_ge r c with h | h
        · have := X.n_mono hc (p := r + 1) c I.cn (by omega); omega
        · exact h
      rw [birth_eq hc X (by omega) r2 r3]
      exact walk (p - (r + 1)) (r + 1) (by omega) (by omega) r3
end

end Go.Sy
