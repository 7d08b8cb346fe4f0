/- A region in whatever order: effects, new blocks, reads; the law. -/
import Derived.Test.YtekedhfmdpbplaaDenO
set_option linter.unusedSimpArgs false
set_option linter.unusedVariables false
namespace Go.Den
open Go

section
variable {P : Program} {call : CallA} {ops : Array Oper} {bef : List Nat} {T : Nat → List AV} {S : Nat → St} {ρ0 : Rho} {h0 : Hp} {w0 : World} {d0 : List Deferred}
variable {L : Nat → Prop} {ρ : Rho} {c : Nat} {C : List AV} {a : Act} {w : World}

/-- No effect stands between what has been done and an effect whose turn has come. -/
theorem Inv.toEff (hc : CallOk P call) (X : Text P call ops bef T S) (I : Inv P call ops bef T S ρ0 h0 w0 d0 L ρ c C a w) {p : Nat} {o : Oper} (ho : ops[p]? = some o) (hL : ¬ L p) (hpre : ∀ e, e ∈ o.after.toList → Region.binds .any e = true → L e.on)
    (hE : isEff P o.op = true) : Inv P call ops bef T S ρ0 h0 w0 d0 L ρ p C a w := by
  have hp : p < ops.size := (Array.getElem?_eq_some_iff.1 ho).1
  have hcp : c ≤ p := by
    rcases Nat.lt_or_ge p c with h | h
    · exact absurd ((I.cut p o ho hE).2 h) hL
    · exact h
  refine I.advTo hc X p hcp (by omega) (fun k ok h1 h2 hok => ?_)
  cases hk : isEff P ok.op with
  | false => rfl
  | true =>
    exfalso
    rcases X.pair k p ok o h2 hok ho with h | ⟨_, h⟩
    · have hLk : L k := by
        refine X.closed (fun j => L j ∨ j = p) ?_ k p o ho (.inr rfl) h |>.resolve_right (by omega)
        intro j oj e hoj hj he hb
        rcases hj with hj | rfl
        · exact .inl (I.closed j oj e hoj hj he hb)
        · rw [ho] at hoj; cases hoj
          exact .inl (hpre e he hb)
      have := (I.cut k ok hok hk).1 hLk
      omega
    · exact h ⟨hk, hE⟩

/-- Behind an effect. -/
theorem Inv.done (hc : CallOk P call) (X : Text P call ops bef T S) {p : Nat} (I : Inv P call ops bef T S ρ0 h0 w0 d0 L ρ p C a w) {o : Oper} (ho : ops[p]? = some o) (hL : ¬ L p) (hpre : ∀ e, e ∈ o.after.toList → Region.binds .any e = true → L e.on)
    {v : AV} {u : Value} (hT : T (p + 1) = putA (T p) o.dst v) {ρ' : Rho} {w' : World} (hp : Post ρ (hS S ops.size h0 p) w (S p) ρ' (upd (S (p + 1)) (hS S ops.size h0 p)) w' (S (p + 1))) (hv : Rel ρ' v u) (hf : Fresh ρ0 h0 (S 0) (S ops.size)) :
    Inv P call ops bef T S ρ0 h0 w0 d0 (fun k => L k ∨ k = p) ρ' (p + 1) (putA C o.dst v) (a.put o.dst u) w' := by
  have hpn : p < ops.size := (Array.getElem?_eq_some_iff.1 ho).1
  have hm := X.n_step hc hpn
  have hm0 := X.n_mono hc (p := 0) p (by omega) (by omega)
  have hupd : upd (S (p + 1)) (hS S ops.size h0 p) = hS S ops.size h0 (p + 1) := by
    funext id
    unfold upd hS
    by_cases h1 : id < (S (p + 1)).n
    · rw [if_pos h1, if_pos h1]
    · rw [if_neg h1, if_neg h1, if_neg (by omega)]
  have hq := hp
  rw [hupd] at hq
  refine ⟨I.newClosed ho hpre, fun j hj => ?_, (I.tr.mono hp.ext).put hv, by rw [putA_length]; exact I.clen, I.slots X ho hL hT, hpn, fun e oe hoe hee => ?_, hq.hr, hq.agree, fun i x e => hp.ext i x (I.le i x e), fun id hid => ?_, fun q hq' hLq id h1 h2 => ?_,
    hp.os.trans I.os, hp.tape.trans I.tape, hp.output.trans I.output, Nat.le_trans I.size hp.size, fun B hB hfr => ?_, fun id hid h1 h2 => ?_, ?_⟩
  · rcases hj with hj | rfl
    · exact I.lt j hj
    · exact hpn
  · have := I.cut e oe hoe hee
    constructor
    · rintro (h | rfl)
      · have := this.1 h; omega
      · omega
    · intro h
      rcases Nat.lt_or_ge e p with h1 | h1
      · exact .inl (this.2 h1)
      · exact .inr (by omega)
  · by_cases e : ρ' id = ρ id
    · obtain ⟨q, h1, h2⟩ := I.dom id (by rw [← e]; exact hid)
      exact ⟨q, .inl h1, h2⟩
    · exact ⟨p, .inr rfl, hp.new id e⟩
  · have hqp : q < p := by
      rcases Nat.lt_or_ge q p with h | h
      · exact h
      · exact absurd (.inr (by omega)) hLq
    have hLq' : ¬ L q := fun h => hLq (.inl h)
    have hqm := X.n_mono hc (p := q + 1) p (by omega) (by omega)
    have hq0 := X.n_mono hc (p := 0) q (by omega) (by omega)
    have hqe := X.n_mono hc (p := q + 1) ops.size (Nat.le_refl _) (by omega)
    have hu := I.unl q hqp hLq' id h1 h2
    have hidle : Idle P ops T q := fun oq hoq heq => absurd ((I.cut q oq hoq heq).2 hqp) hLq'
    obtain ⟨cs, hcs⟩ := (X.idle_step (by omega) hidle).2.1 id h1 h2
    have hρid : ρ id = none := by
      have hρ0 : ρ0 id = none := hf.none id (by omega) (by omega)
      by_cases e : ρ id = ρ0 id
      · rw [e]; exact hρ0
      · exfalso
        obtain ⟨q', a1, a2, a3⟩ := I.dom id e
        have := owner_unique hc X (I.lt q' a1) (by omega) a2 a3 h1 h2
        subst this
        exact hLq' a1
    rw [← hu]
    exact hp.idle id (by omega) hρid (fun ms => by rw [hu, hcs]; simp)
  · obtain ⟨e1, f1⟩ := I.frame B hB hfr
    obtain ⟨e2, f2⟩ := hq.frame B (Nat.lt_of_lt_of_le hB I.size) f1
    exact ⟨e2.trans e1, f2⟩
  · have e1 := I.idle id hid h1 h2
    have hρid : ρ id = none := by
      by_cases e : ρ id = ρ0 id
      · rw [e]; exact h1
      · exfalso
        obtain ⟨q', a1, a2, a3⟩ := I.dom id e
        have := X.n_mono hc (p := 0) q' (by have := I.lt q' a1; omega) (by omega)
        omega
    rw [← e1]
    exact hp.idle id (by omega) hρid (fun ms => by rw [e1]; exact h2 ms)
  · rw [← I.defers]; cases o.dst <;> rfl

/-- Of an effect that is left out. -/
theorem Inv.left (hc : CallOk P call) (X : Text P call ops bef T S) {p : Nat} (I : Inv P call ops bef T S ρ0 h0 w0 d0 L ρ p C a w) {o : Oper} (ho : ops[p]? = some o) (hL : ¬ L p) (hpre : ∀ e, e ∈ o.after.toList → Region.binds .any e = true → L e.on)
    (hT : T (p + 1) = putA (T p) o.dst undefA) (hS' : S (p + 1) = S p) (hf : Fresh ρ0 h0 (S 0) (S ops.size)) :
    Inv P call ops bef T S ρ0 h0 w0 d0 (fun k => L k ∨ k = p) ρ (p + 1) (putA C o.dst undefA) (a.put o.dst undef) w := by
  refine I.done hc X ho hL hpre hT ?_ (rel_undef ρ) hf
  rw [hS', upd_self I.ag]
  exact Post.refl I.hr I.ag

/-- A new block, early or late. -/
theorem Inv.made (hc : CallOk P call) (X : Text P call ops bef T S) (I : Inv P call ops bef T S ρ0 h0 w0 d0 L ρ c C a w) {p : Nat} {o : Oper} (ho : ops[p]? = some o) (hL : ¬ L p) (hpre : ∀ e, e ∈ o.after.toList → Region.binds .any e = true → L e.on)
    {v : AV} {cs : List AV} {u : Value} {vs : List Value} {ty : TypeId} (hT : T (p + 1) = putA (T p) o.dst v) (hSp : S (p + 1) = (S p).new cs) (hE : isEff P o.op = false) (hrel : Rels ρ cs vs) (hf : Fresh ρ0 h0 (S 0) (S ops.size))
    (hv : ∀ ρ' : Rho, ρ' (S p).n = some (w.heap.size, 0, vs.length) → Rel ρ' v u) :
    ∃ ρ', Inv P call ops bef T S ρ0 h0 w0 d0 (fun k => L k ∨ k = p) ρ' c (putA C o.dst v) (a.put o.dst u) (w.alloc (.cells vs.toArray ty)) := by
  have hp : p < ops.size := (Array.getElem?_eq_some_iff.1 ho).1
  have hn1 : (S (p + 1)).n = (S p).n + 1 := by rw [hSp]; rfl
  have hget : ∀ id, (S (p + 1)).get id = if (S p).n = id then some (.cells false none cs) else (S p).get id := fun id => by rw [hSp]; exact Tr.get_set _ _ _ _
  have hm0 := X.n_mono hc (p := 0) p (by omega) (by omega)
  have hme := X.n_mono hc (p := p + 1) ops.size (Nat.le_refl _) (by omega)
  have hρ0 : ρ0 (S p).n = none := hf.none _ hm0 (by omega)
  have hρn : ρ (S p).n = none := by
    by_cases e : ρ (S p).n = ρ0 (S p).n
    · rw [e]; exact hρ0
    · exfalso
      obtain ⟨q, a1, a2, a3⟩ := I.dom _ e
      have := owner_unique hc X (I.lt q a1) hp a2 a3 (Nat.le_refl _) (by omega)
      subst this
      exact hL a1
  have hhS : hS S ops.size h0 c (S p).n = some (.cells false none cs) := by
    unfold hS
    split
    · rename_i hlt
      have hpc : p < c := by
        rcases Nat.lt_or_ge p c with h | h
        · exact h
        · have := X.n_mono hc (p := c) p (by omega) h; omega
      rw [I.unl p hpc hL _ (Nat.le_refl _) (by omega), hget, if_pos rfl]
    · rw [birth_eq hc X hp (Nat.le_refl _) (by omega), hget, if_pos rfl]
  have hA := alloc_HR I.hr (id := (S p).n) (cs := cs) (vs := vs) (rest := []) (e := ty) (fam := none) hρn hhS hrel (fun _ _ e => by cases e)
  simp only [List.append_nil, List.length_nil, Nat.add_zero] at hA
  obtain ⟨ρ', hρ'⟩ : ∃ ρ' : Rho, ρ' = fun i => if i = (S p).n then some (w.heap.size, 0, vs.length) else ρ i := ⟨_, rfl⟩
  rw [← hρ'] at hA
  have hnew : ρ' (S p).n = some (w.heap.size, 0, vs.length) := by rw [hρ']; simp
  have hold : ∀ i, i ≠ (S p).n → ρ' i = ρ i := fun i hi => by rw [hρ']; simp [hi]
  have hle : ρ.le ρ' := fun i x e => by rw [hold i (fun ei => by rw [ei, hρn] at e; cases e)]; exact e
  refine ⟨ρ', { I with closed := I.newClosed ho hpre, lt := fun j hj => ?_, tr := (I.tr.mono hle).put (hv ρ' hnew), clen := by rw [putA_length]; exact I.clen, time := I.slots X ho hL hT, cut := fun e oe hoe hee => ?_, hr := hA, le := fun i x e => hle i x (I.le i x e), dom := fun id hid => ?_, unl := fun q hq hLq id h1 h2 => I.unl q hq (fun h => hLq (.inl h)) id h1 h2, os := I.os, tape := I.tape, output := I.output, size := by simp; have := I.size; omega, frame := fun B hB hfr => ?_, defers := ?_ }⟩
  · rcases hj with hj | rfl
    · exact I.lt j hj
    · exact hp
  · rw [← I.cut e oe hoe hee]
    constructor
    · rintro (h | rfl)
      · exact h
      · rw [ho] at hoe; cases hoe; rw [hE] at hee; cases hee
    · exact .inl
  · by_cases hi : id = (S p).n
    · exact ⟨p, .inr rfl, by omega, by omega⟩
    · obtain ⟨q, h1, h2⟩ := I.dom id (by rw [← hold id hi]; exact hid)
      exact ⟨q, .inl h1, h2⟩
  · obtain ⟨e1, f1⟩ := I.frame B hB hfr
    have hBw : B < w.heap.size := Nat.lt_of_lt_of_le hB I.size
    refine ⟨(heap_alloc_old w _ _ hBw).trans e1, fun id o' r' e => ?_⟩
    by_cases hi : id = (S p).n
    · subst hi
      rw [hnew] at e
      simp only [Option.some.injEq, Prod.mk.injEq] at e
      omega
    · rw [hold id hi] at e
      exact f1 id o' r' e
  · rw [← I.defers]; cases o.dst <;> rfl

theorem sameO_eq : ∀ (x y : Option (Nat × Nat)), sameO x y = true → x = y
  | none, none, _ => rfl
  | none, some _, h => by simp [sameO] at h
  | some _, none, h => by simp [sameO] at h
  | some (a, i), some (b, j), h => by
    simp only [sameO, Bool.and_eq_true] at h
    rw [beq_true_eq h.1, beq_true_eq h.2]
theorem sameC_eq : ∀ (x y : Cap), sameC x y = true → x = y
  | .known a, .known b, h => by simp only [sameC] at h; rw [beq_true_eq h]
  | .known _, .more _ _, h => by simp [sameC] at h
  | .more _ _, .known _, h => by simp [sameC] at h
  | .more a s, .more b t, h => by
    simp only [sameC, Bool.and_eq_true] at h
    rw [beq_true_eq h.1, beq_true_eq h.2]
mutual
theorem sameV_eq : ∀ (x y : AV), sameV x y = true → x = y
  | .bool a, y, h => by cases y <;> simp [sameV] at h; rw [h]
  | .int k a, y, h => by cases y <;> simp [sameV] at h; rw [h.1, h.2]
  | .str a, y, h => by cases y <;> simp [sameV, eqBytes_eq] at h; rw [h]
  | .ptr a, y, h => by cases y <;> simp [sameV] at h; rw [sameO_eq a _ h]
  | .glob a, y, h => by
    cases y <;> simp [sameV] at h
    rw [h]
  | .sl a n c, y, h => by
    cases y <;> simp [sameV] at h
    rw [sameO_eq a _ h.1.1, h.1.2, sameC_eq c _ h.2]
  | .fn f x y, z, h => by
    cases z <;> simp [sameV] at h
    rw [h.1.1, sameVs_eq x _ h.1.2, sameVs_eq y _ h.2]
  | .nilFn, y, h => by cases y <;> simp [sameV] at h; rfl
  | .lit _, y, h => by cases y <;> simp [sameV] at h
  | .fact _ _, y, h => by cases y <;> simp [sameV] at h
  | .agg x, y, h => by cases y <;> simp [sameV] at h; rw [sameVs_eq x _ h]
  | .tup x, y, h => by cases y <;> simp [sameV] at h; rw [sameVs_eq x _ h]
theorem sameVs_eq : ∀ (x y : List AV), sameVs x y = true → x = y
  | [], [], _ => rfl
  | [], _ :: _, h => by simp [sameVs] at h
  | _ :: _, [], h => by simp [sameVs] at h
  | a :: x, b :: y, h => by
    simp only [sameVs, Bool.and_eq_true] at h
    rw [sameV_eq a b h.1, sameVs_eq x y h.2]
end
theorem sameR_eq {x y : Option (List AV)} (h : sameR x y = true) : x = y := by
  unfold sameR at h
  split at h
  · rw [sameVs_eq _ _ h]
  · cases h

/-- What is ordered before, stands before. -/
theorem Text.ord_lt (X : Text P call ops bef T S) {i j : Nat} {o : Oper} (ho : ops[j]? = some o) (h : ordA bef i j = true) : i ≤ j :=
  X.closed (fun k => k ≤ j) (fun k ok e hok hk he hb => by have := X.edges k ok e hok he hb; omega) i j o ho (Nat.le_refl _) h
theorem hS_idle (hc : CallOk P call) (X : Text P call ops bef T S) {i : Nat} : ∀ q, i ≤ q → q ≤ ops.size → (∀ k, i ≤ k → k < q → Idle P ops T k) → hS S ops.size h0 q = hS S ops.size h0 i := by
  intro q
  induction q with
  | zero => intro h _ _; have : i = 0 := by omega
            subst this; rfl
  | succ q ih =>
    intro h hq hi
    by_cases e : i = q + 1
    · subst e; rfl
    · rw [hS_step hc X (by omega) (hi q (by omega) (by omega))]
      exact ih (by omega) (by omega) (fun k h1 h2 => hi k h1 (by omega))

/-- What a read reads, whenever it is carried out. -/
theorem Inv.reads (hc : CallOk P call) (X : Text P call ops bef T S) (I : Inv P call ops bef T S ρ0 h0 w0 d0 L ρ c C a w) {p : Nat} {o : Oper} (ho : ops[p]? = some o) (hL : ¬ L p) (hpre : ∀ e, e ∈ o.after.toList → Region.binds .any e = true → L e.on)
    (hR : isRead P o.op = true) (hg : guardA ops (T p) o = true) {b off k : Nat} {mk : Made} {l : List AV} (hread : readA P (T p) o.op = some (b, off, k, mk)) (hl : (S p).read b off k = some l) :
    ∃ ro fam cs, hS S ops.size h0 c b = some (.cells ro fam cs) ∧ readL cs off k = some l := by
  have hp : p < ops.size := (Array.getElem?_eq_some_iff.1 ho).1
  have hE : isEff P o.op = false := by
    unfold isRead at hR; unfold isEff
    split at hR <;> rename_i hcl
    · rw [hcl]
    · cases hR
  obtain ⟨b', off', k', mk', hread', hst⟩ := X.stable p o ho hR hg
  rw [hread] at hread'
  simp only [Option.some.injEq, Prod.mk.injEq] at hread'
  obtain ⟨rfl, rfl, rfl, rfl⟩ := hread'
  rw [hl] at hst
  have fin : ∀ q, hS S ops.size h0 q = hS S ops.size h0 c → (S q).read b off k = some l → ∃ ro fam cs, hS S ops.size h0 c b = some (.cells ro fam cs) ∧ readL cs off k = some l := fun q hq hr => by
    obtain ⟨ro, fam, cs, hb, hrd⟩ := St.read_some hr
    have hlt := St.read_lt hr
    refine ⟨ro, fam, cs, ?_, hrd⟩
    rw [← hq]
    unfold hS
    rw [if_pos hlt]; exact hb
  have hpreL : ∀ e, e < p → ordA bef e p = true → L e := fun e hlt hord => by
    refine X.closed (fun j => L j ∨ j = p) ?_ e p o ho (.inr rfl) hord |>.resolve_right (by omega)
    intro j oj ed hoj hj he hb
    rcases hj with hj | rfl
    · exact .inl (I.closed j oj ed hoj hj he hb)
    · rw [ho] at hoj; cases hoj
      exact .inl (hpre ed he hb)
  have idleP : Idle P ops T p := fun o' ho' he => by rw [ho] at ho'; cases ho'; rw [hE] at he; cases he
  rcases Nat.lt_or_ge p c with hpc | hpc
  · -- effects behind it in the text have been carried out
    have walk : ∀ q, p ≤ q → q ≤ c → (S q).read b off k = some l := by
      intro q
      induction q with
      | zero => intro h _; have : p = 0 := by omega
                subst this; exact hl
      | succ q ih =>
        intro h hq
        by_cases e : p = q + 1
        · rw [← e]; exact hl
        · have hprev := ih (by omega) (by omega)
          have hqn : q < ops.size := by have := I.cn; omega
          by_cases hi : Idle P ops T q
          · obtain ⟨ro, fam, cs, hb, hrd⟩ := St.read_some hprev
            have hlt := St.read_lt hprev
            have hm := X.n_step hc hqn
            rw [St.read_of (by omega) (by rw [(X.idle_step hqn hi).1 b hlt]; exact hb)]
            exact hrd
          · have : ∃ oe, ops[q]? = some oe ∧ isEff P oe.op = true ∧ guardA ops (T q) oe = true := by
              refine ⟨ops[q], Array.getElem?_eq_getElem hqn, ?_⟩
              cases he : isEff P ops[q].op with
              | false => exact absurd (fun o' ho' he' => by rw [Array.getElem?_eq_getElem hqn] at ho'; cases ho'; rw [he] at he'; cases he') hi
              | true =>
                cases hgq : guardA ops (T q) ops[q] with
                | false => exact absurd (fun o' ho' he' => by rw [Array.getElem?_eq_getElem hqn] at ho'; cases ho'; exact hgq) hi
                | true => exact ⟨rfl, rfl⟩
            obtain ⟨oe, hoe, hee, hge⟩ := this
            have hqp : q ≠ p := fun e => by subst e; exact hi idleP
            have hLq : L q := (I.cut q oe hoe hee).2 (by omega)
            have h1 : ordA bef p q = false := by
              cases hh : ordA bef p q with
              | false => rfl
              | true => exact absurd (X.closed L I.closed p q oe hoe hLq hh) hL
            have h2 : ordA bef q p = false := by
              cases hh : ordA bef q p with
              | false => rfl
              | true => have := X.ord_lt ho hh; omega
            have := hst q oe hoe hee hge h1 h2
            simp only [leavesA, Bool.and_eq_true] at this
            exact sameR_eq this.2
    exact fin c rfl (walk c (by omega) (Nat.le_refl _))
  · -- effects ahead of it in the text have not
    by_cases hall : ∀ k, c ≤ k → k < p → Idle P ops T k
    · exact fin p (hS_idle hc X p hpc (by omega) hall) hl
    · have : ∃ e, c ≤ e ∧ e < p ∧ ¬ Idle P ops T e ∧ ∀ k, c ≤ k → k < e → Idle P ops T k := by
        have hex : ∃ e, c ≤ e ∧ e < p ∧ ¬ Idle P ops T e := by
          rw [Classical.not_forall] at hall
          obtain ⟨k, hk⟩ := hall
          rw [Classical.not_imp] at hk
          obtain ⟨h1, hk⟩ := hk
          rw [Classical.not_imp] at hk
          exact ⟨k, h1, hk.1, hk.2⟩
        obtain ⟨e0, he0⟩ := hex
        induction e0 using Nat.strongRecOn with
        | _ e0 ih =>
          by_cases hh : ∀ k, c ≤ k → k < e0 → Idle P ops T k
          · exact ⟨e0, he0.1, he0.2.1, he0.2.2, hh⟩
          · rw [Classical.not_forall] at hh
            obtain ⟨k, hk⟩ := hh
            rw [Classical.not_imp] at hk
            obtain ⟨h1, hk⟩ := hk
            rw [Classical.not_imp] at hk
            exact ih k hk.1 ⟨h1, by omega, hk.2⟩
      obtain ⟨e, h1, h2, h3, h4⟩ := this
      have hen : e < ops.size := by omega
      have : ∃ oe, ops[e]? = some oe ∧ isEff P oe.op = true ∧ guardA ops (T e) oe = true := by
        refine ⟨ops[e], Array.getElem?_eq_getElem hen, ?_⟩
        cases he : isEff P ops[e].op with
        | false => exact absurd (fun o' ho' he' => by rw [Array.getElem?_eq_getElem hen] at ho'; cases ho'; rw [he] at he'; cases he') h3
        | true =>
          cases hgq : guardA ops (T e) ops[e] with
          | false => exact absurd (fun o' ho' he' => by rw [Array.getElem?_eq_getElem hen] at ho'; cases ho'; exact hgq) h3
          | true => exact ⟨rfl, rfl⟩
      obtain ⟨oe, hoe, hee, hge⟩ := this
      have hLe : ¬ L e := fun h => by have := (I.cut e oe hoe hee).1 h; omega
      have q1 : ordA bef p e = false := by
        cases hh : ordA bef p e with
        | false => rfl
        | true => have := X.ord_lt hoe hh; omega
      have q2 : ordA bef e p = false := by
        cases hh : ordA bef e p with
        | false => rfl
        | true => exact absurd (hpreL e h2 hh) hLe
      have := hst e oe hoe hee hge q1 q2
      simp only [leavesA, Bool.and_eq_true] at this
      exact fin e (hS_idle hc X e h1 (by omega) h4) (sameR_eq this.1)
end

end Go.Den
