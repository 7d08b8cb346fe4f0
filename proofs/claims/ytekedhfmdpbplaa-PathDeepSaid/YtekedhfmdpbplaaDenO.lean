/- A region in whatever order: the invariant, and one operation of it. -/
import Derived.Test.YtekedhfmdpbplaaDenN
set_option linter.unusedSimpArgs false
set_option linter.unusedVariables false
namespace Go.Den
open Go

/-- The entry that a number is born with. -/
def birth (S : Nat → St) (n : Nat) (h0 : Hp) : Hp := fun id => match (List.range n).find? (fun p => decide (id < (S (p + 1)).n)) with
  | some p => (S (p + 1)).get id
  | none => h0 id
def hS (S : Nat → St) (n : Nat) (h0 : Hp) (c : Nat) : Hp := fun id => if id < (S c).n then (S c).get id else birth S n h0 id

section
variable {P : Program} {call : CallA} {ops : Array Oper} {bef : List Nat} {T : Nat → List AV} {S : Nat → St} {ρ0 : Rho} {h0 : Hp} {w0 : World} {d0 : List Deferred}

theorem birth_eq (hc : CallOk P call) (X : Text P call ops bef T S) {p id : Nat} (hp : p < ops.size) (h1 : (S p).n ≤ id) (h2 : id < (S (p + 1)).n) : birth S ops.size h0 id = (S (p + 1)).get id := by
  unfold birth
  have hf : (List.range ops.size).find? (fun p => decide (id < (S (p + 1)).n)) = some p := by
    rw [List.find?_range_eq_some]
    refine ⟨by simpa using h2, by simpa using hp, fun j hj => ?_⟩
    have := X.n_mono hc (p := j + 1) p (by omega) (by omega)
    simp; omega
  rw [hf]
theorem birth_far (hc : CallOk P call) (X : Text P call ops bef T S) {id : Nat} (h1 : (S ops.size).n ≤ id) : birth S ops.size h0 id = h0 id := by
  unfold birth
  have hf : (List.range ops.size).find? (fun p => decide (id < (S (p + 1)).n)) = none := by
    rw [List.find?_eq_none]
    intro p hp
    simp at hp
    have := X.n_mono hc (p := p + 1) ops.size (Nat.le_refl _) (by omega)
    simp; omega
  rw [hf]
/-- The operation that a number comes from. -/
theorem owner (hc : CallOk P call) (X : Text P call ops bef T S) {id : Nat} : ∀ q, q ≤ ops.size → (S 0).n ≤ id → id < (S q).n → ∃ p, p < q ∧ (S p).n ≤ id ∧ id < (S (p + 1)).n
  | 0, _, h1, h2 => by omega
  | q + 1, hq, h1, h2 => by
    by_cases h : id < (S q).n
    · obtain ⟨p, a, b, c⟩ := owner hc X q (by omega) h1 h
      exact ⟨p, by omega, b, c⟩
    · exact ⟨q, by omega, by omega, h2⟩
theorem owner_unique (hc : CallOk P call) (X : Text P call ops bef T S) {id p q : Nat} (hp : p < ops.size) (hq : q < ops.size) (h1 : (S p).n ≤ id) (h2 : id < (S (p + 1)).n) (h3 : (S q).n ≤ id) (h4 : id < (S (q + 1)).n) : p = q := by
  rcases Nat.lt_trichotomy p q with h | h | h
  · have := X.n_mono hc (p := p + 1) q (by omega) (by omega); omega
  · exact h
  · have := X.n_mono hc (p := q + 1) p (by omega) (by omega); omega
theorem hS_step (hc : CallOk P call) (X : Text P call ops bef T S) {p : Nat} (hp : p < ops.size) (hi : Idle P ops T p) : hS S ops.size h0 (p + 1) = hS S ops.size h0 p := by
  funext id
  have hm := X.n_step hc hp
  unfold hS
  by_cases h1 : id < (S p).n
  · rw [if_pos h1, if_pos (by omega)]; exact (X.idle_step hp hi).1 id h1
  · rw [if_neg h1]
    by_cases h2 : id < (S (p + 1)).n
    · rw [if_pos h2]; exact (birth_eq hc X hp (by omega) h2).symm
    · rw [if_neg h2]

/-- How things stand when the operations in L have been carried out. -/
structure Inv (P : Program) (call : CallA) (ops : Array Oper) (bef : List Nat) (T : Nat → List AV) (S : Nat → St) (ρ0 : Rho) (h0 : Hp) (w0 : World) (d0 : List Deferred)
    (L : Nat → Prop) (ρ : Rho) (c : Nat) (C : List AV) (a : Act) (w : World) : Prop where
  closed : ∀ (j : Nat) (o : Oper) (e : Edge), ops[j]? = some o → L j → e ∈ o.after.toList → Region.binds .any e = true → L e.on
  lt : ∀ j, L j → j < ops.size
  tr : TR ρ C a.tmps
  clen : C.length = (T 0).length
  time : ∀ t : Nat, ∃ i, i ≤ ops.size ∧ C.getD t undefA = (T i).getD t undefA ∧ (i = 0 ∨ ∃ (k : Nat) (o : Oper), i = k + 1 ∧ L k ∧ ops[k]? = some o ∧ o.dst = some t) ∧ ∀ (k : Nat) (o : Oper), L k → ops[k]? = some o → o.dst = some t → k < i
  cn : c ≤ ops.size
  cut : ∀ (e : Nat) (o : Oper), ops[e]? = some o → isEff P o.op = true → (L e ↔ e < c)
  hr : HR ρ (hS S ops.size h0 c) w
  ag : Agree (S c) (hS S ops.size h0 c)
  le : ρ0.le ρ
  dom : ∀ id, ρ id ≠ ρ0 id → ∃ p, L p ∧ (S p).n ≤ id ∧ id < (S (p + 1)).n
  unl : ∀ p, p < c → ¬ L p → ∀ id, (S p).n ≤ id → id < (S (p + 1)).n → (S c).get id = (S (p + 1)).get id
  os : w.os = w0.os
  tape : w.tape = w0.tape
  output : w.output = w0.output
  size : w0.heap.size ≤ w.heap.size
  frame : ∀ B, B < w0.heap.size → Free ρ0 h0 B → w.heap[B]? = w0.heap[B]? ∧ Free ρ (hS S ops.size h0 c) B
  idle : ∀ id, id < (S 0).n → ρ0 id = none → (∀ ms, (S 0).get id ≠ some (.fam ms)) → (S c).get id = (S 0).get id
  defers : a.defers = d0

variable {L : Nat → Prop} {ρ : Rho} {c : Nat} {C : List AV} {a : Act} {w : World}

theorem Inv.adv (hc : CallOk P call) (X : Text P call ops bef T S) (I : Inv P call ops bef T S ρ0 h0 w0 d0 L ρ c C a w) (hn : c < ops.size) (hE : ∀ o, ops[c]? = some o → isEff P o.op = false) :
    Inv P call ops bef T S ρ0 h0 w0 d0 L ρ (c + 1) C a w := by
  have hi : Idle P ops T c := fun o ho he => by rw [hE o ho] at he; cases he
  obtain ⟨i1, i2, i3⟩ := X.idle_step hn hi
  have hst := hS_step (h0 := h0) hc X hn hi
  have hm := X.n_step hc hn
  have hm0 := X.n_mono hc (p := 0) c (by omega) (by omega)
  refine { I with cn := hn, cut := fun e o ho he => ?_, hr := by rw [hst]; exact I.hr, ag := ?_, unl := fun p hp hL id h1 h2 => ?_, frame := by rw [hst]; exact I.frame, idle := fun id hid h1 h2 => ?_ }
  · have := I.cut e o ho he
    rw [this]
    constructor
    · intro h; omega
    · intro h
      rcases Nat.lt_or_ge e c with h3 | h3
      · exact h3
      · have : e = c := by omega
        subst this
        rw [hE o ho] at he; cases he
  · rw [hst]
    refine i3 _ I.ag _ (fun id hid => ?_)
    rw [← hst]
    unfold hS
    rw [if_pos hid]
  · by_cases hpc : p = c
    · subst hpc; rfl
    · have hpl := X.n_mono hc (p := p + 1) c (by omega) (by omega)
      rw [i1 id (by omega)]
      exact I.unl p (by omega) hL id h1 h2
  · rw [i1 id (by omega)]
    exact I.idle id hid h1 h2
theorem Inv.advTo (hc : CallOk P call) (X : Text P call ops bef T S) (I : Inv P call ops bef T S ρ0 h0 w0 d0 L ρ c C a w) : ∀ p, c ≤ p → p ≤ ops.size → (∀ (k : Nat) (o : Oper), c ≤ k → k < p → ops[k]? = some o → isEff P o.op = false) →
    Inv P call ops bef T S ρ0 h0 w0 d0 L ρ p C a w := by
  intro p
  induction p with
  | zero => intro h _ _; have : c = 0 := by omega
            subst this; exact I
  | succ p ih =>
    intro h hp hE
    by_cases e : c = p + 1
    · subst e; exact I
    · exact (ih (by omega) (by omega) (fun k o h1 h2 => hE k o h1 (by omega))).adv hc X (by omega) (fun o ho => hE p o (by omega) (by omega) ho)

/-- An operation whose turn has come sees what it sees in the text's order. -/
theorem Inv.sees (X : Text P call ops bef T S) (I : Inv P call ops bef T S ρ0 h0 w0 d0 L ρ c C a w) {p : Nat} {o : Oper} (ho : ops[p]? = some o) (hL : ¬ L p) (hpre : ∀ e, e ∈ o.after.toList → Region.binds .any e = true → L e.on)
    {t : Nat} (ht : t ∈ o.looksAt ops) : C.getD t undefA = (T p).getD t undefA := by
  have hp : p < ops.size := (Array.getElem?_eq_some_iff.1 ho).1
  obtain ⟨i, hi, e1, e2, e3⟩ := I.time t
  have hreach : ∀ k, k < p → ordA bef k p = true → L k := fun k hkp hk => by
    refine X.closed (fun j => L j ∨ j = p) ?_ k p o ho (.inr rfl) hk |>.resolve_right ?_
    · intro j oj e hoj hj he hb
      rcases hj with hj | rfl
      · exact .inl (I.closed j oj e hoj hj he hb)
      · rw [ho] at hoj; cases hoj
        exact .inl (hpre e he hb)
    · omega
  have hlist : ∀ k, L k → ordA bef p k = true → L p := fun k hk hord => by
    have hkn := I.lt k hk
    exact X.closed L I.closed p k ops[k] (Array.getElem?_eq_getElem hkn) hk hord
  rw [e1]
  by_cases hip : i ≤ p
  · refine (X.same p (by omega) hip (fun k ok h1 h2 hok hd => ?_)).symm
    rcases X.pair k p ok o h2 hok ho with h | ⟨h, _⟩
    · have := e3 k ok (hreach k h2 h) hok hd
      omega
    · exact (Oper.apart_spec h).1 t hd ht
  · exfalso
    rcases e2 with h | ⟨k, ok, rfl, hk, hok, hd⟩
    · omega
    · have hkp : k ≠ p := fun e => hL (e ▸ hk)
      rcases X.pair p k o ok (by omega) ho hok with h | ⟨h, _⟩
      · exact hL (hlist k hk h)
      · exact (Oper.apart_spec h).2.2 t hd ht
/-- The invariant's slots behind an operation. -/
theorem Inv.slots (X : Text P call ops bef T S) (I : Inv P call ops bef T S ρ0 h0 w0 d0 L ρ c C a w) {p : Nat} {o : Oper} (ho : ops[p]? = some o) (hL : ¬ L p) {v : AV} (hT : T (p + 1) = putA (T p) o.dst v) :
    ∀ t : Nat, ∃ i, i ≤ ops.size ∧ (putA C o.dst v).getD t undefA = (T i).getD t undefA ∧ (i = 0 ∨ ∃ (k : Nat) (o' : Oper), i = k + 1 ∧ (L k ∨ k = p) ∧ ops[k]? = some o' ∧ o'.dst = some t) ∧
      ∀ (k : Nat) (o' : Oper), (L k ∨ k = p) → ops[k]? = some o' → o'.dst = some t → k < i := by
  intro t
  have hp : p < ops.size := (Array.getElem?_eq_some_iff.1 ho).1
  by_cases hd : o.dst = some t
  · refine ⟨p + 1, hp, ?_, .inr ⟨p, o, rfl, .inr rfl, ho, hd⟩, fun k ok hk hok hdk => ?_⟩
    · rw [hT, hd]
      exact putA_same _ _ _ _ (by rw [I.clen, X.length p (by omega)])
    · rcases hk with hk | rfl
      · rcases Nat.lt_or_ge p k with h | h
        · exfalso
          rcases X.pair p k o ok h ho hok with h1 | ⟨h1, _⟩
          · exact hL (X.closed L I.closed p k ok hok hk h1)
          · exact (Oper.apart_spec h1).2.1 t hd hdk
        · omega
      · omega
  · obtain ⟨i, hi, e1, e2, e3⟩ := I.time t
    refine ⟨i, hi, by rw [putA_other _ _ _ _ hd]; exact e1, e2.imp id (fun ⟨k, ok, a1, a2, a3, a4⟩ => ⟨k, ok, a1, .inl a2, a3, a4⟩), fun k ok hk hok hdk => ?_⟩
    rcases hk with hk | rfl
    · exact e3 k ok hk hok hdk
    · rw [ho] at hok; cases hok; exact absurd hdk hd

theorem Inv.newClosed (I : Inv P call ops bef T S ρ0 h0 w0 d0 L ρ c C a w) {p : Nat} {o : Oper} (ho : ops[p]? = some o) (hpre : ∀ e, e ∈ o.after.toList → Region.binds .any e = true → L e.on) :
    ∀ (j : Nat) (o : Oper) (e : Edge), ops[j]? = some o → (L j ∨ j = p) → e ∈ o.after.toList → Region.binds .any e = true → (L e.on ∨ e.on = p) := by
  intro j oj e hoj hj he hb
  rcases hj with hj | rfl
  · exact .inl (I.closed j oj e hoj hj he hb)
  · rw [ho] at hoj; cases hoj
    exact .inl (hpre e he hb)

/-- Behind an operation that is no effect (or one that is left out): the heap's abstract side is as it was. -/
theorem Inv.quiet (X : Text P call ops bef T S) (I : Inv P call ops bef T S ρ0 h0 w0 d0 L ρ c C a w) {p : Nat} {o : Oper} (ho : ops[p]? = some o) (hL : ¬ L p) (hpre : ∀ e, e ∈ o.after.toList → Region.binds .any e = true → L e.on)
    {v : AV} {u : Value} (hT : T (p + 1) = putA (T p) o.dst v) (hE : isEff P o.op = false) (hv : Rel ρ v u) :
    Inv P call ops bef T S ρ0 h0 w0 d0 (fun k => L k ∨ k = p) ρ c (putA C o.dst v) (a.put o.dst u) w := by
  have hp : p < ops.size := (Array.getElem?_eq_some_iff.1 ho).1
  refine { I with closed := I.newClosed ho hpre, lt := fun j hj => ?_, tr := I.tr.put hv, clen := by rw [putA_length]; exact I.clen, time := I.slots X ho hL hT, cut := fun e oe hoe hee => ?_, dom := fun id hid => ?_, unl := fun q hq hLq id h1 h2 => I.unl q hq (fun h => hLq (.inl h)) id h1 h2, defers := ?_ }
  · rcases hj with hj | rfl
    · exact I.lt j hj
    · exact hp
  · rw [← I.cut e oe hoe hee]
    constructor
    · rintro (h | rfl)
      · exact h
      · rw [ho] at hoe; cases hoe; rw [hE] at hee; cases hee
    · exact .inl
  · obtain ⟨q, h1, h2⟩ := I.dom id hid
    exact ⟨q, .inl h1, h2⟩
  · rw [← I.defers]; cases o.dst <;> rfl
end

end Go.Den
