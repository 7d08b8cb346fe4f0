/- The heap's relation; reads; one block changed or made; blocks that are not written any more. -/
import Derived.Test.YtkfdfenaaidkkaaSyD
import Derived.Test.YtkfdfenaaidkkaaSyGl
import Derived.Laws.IdiomCopy
set_option linter.unusedSimpArgs false
set_option linter.unusedVariables false
namespace Go.Sy
open Go

def Ent.view : Ent → Option (Bool × List AV)
  | .cells cs => some (false, cs)
  | .tbl ro e l => some (ro, flat e l)
  | .dead => none

structure Holds (ρ : Rho) (w : World) (B o r : Nat) (ro : Bool) (cs : List AV) : Prop where
  fit : cs.length ≤ r
  lt : r ≠ 0 → B < w.heap.size
  vals : ∃ vs, Rels ρ cs vs ∧ (∀ (i : Nat) (v : Value), vs[i]? = some v → w.cell? ⟨B, o + i, none⟩ = some v) ∧ (ro = true → ∀ (i : Nat) (v : Value), vs[i]? = some v → ρ.fz B (o + i) = some v)
  there : ∀ j, j < r → (w.cell? ⟨B, o + j, none⟩).isSome = true
  free : ro = false → r ≠ 0 → ∀ j, w.frozen? ⟨B, j, none⟩ = false

abbrev Hp := Nat → Option Ent
def Free (ρ : Rho) (h : Hp) (B : Nat) : Prop := ∀ id o r x cs, ρ id = some (B, o, r) → r ≠ 0 → h id = some x → x.view = some (false, cs) → False

/-- Nothing that is alive stands in this block. -/
def Out (ρ : Rho) (h : Hp) (B : Nat) : Prop := ∀ id o r x v, ρ id = some (B, o, r) → r ≠ 0 → h id = some x → x.view = some v → False
theorem Out.free {ρ : Rho} {h : Hp} {B : Nat} (k : Out ρ h B) : Free ρ h B := fun id o r x cs h1 h2 h3 h4 => k id o r x _ h1 h2 h3 h4

structure HR (ρ : Rho) (h : Hp) (w : World) : Prop where
  cell : ∀ (id B o r : Nat) (x : Ent) (ro : Bool) (cs : List AV), ρ id = some (B, o, r) → h id = some x → x.view = some (ro, cs) → Holds ρ w B o r ro cs
  apart : ∀ (i j B o r o' r' : Nat) (x y : Ent) (ro ro' : Bool) (cs cs' : List AV), i ≠ j → ρ i = some (B, o, r) → ρ j = some (B, o', r') → r ≠ 0 → r' ≠ 0 →
    h i = some x → h j = some y → x.view = some (ro, cs) → y.view = some (ro', cs') → (ro = false ∨ ro' = false) → False
  fzh : ∀ (B o : Nat) (v : Value), ρ.fz B o = some v → w.cell? ⟨B, o, none⟩ = some v
  fza : ∀ (B o : Nat) (v : Value), ρ.fz B o = some v → Free ρ h B
  ent : ∀ (i : Nat), ρ i ≠ none → h i ≠ none
  glob : ∀ x ∈ Glob.facts, (∃ c t, w.heap[x.1]? = some (.cells x.2.toArray c t)) ∧ Free ρ h x.1
/-- What a step leaves of the tables. -/
theorem HR.globs {ρ ρ' : Rho} {h h' : Hp} {w w' : World} (hr : HR ρ h w) (fr : ∀ B, B < w.heap.size → Free ρ h B → w'.heap[B]? = w.heap[B]? ∧ Free ρ' h' B) :
    ∀ x ∈ Glob.facts, (∃ c t, w'.heap[x.1]? = some (.cells x.2.toArray c t)) ∧ Free ρ' h' x.1 := fun x hx => by
  obtain ⟨⟨c, t, hc⟩, hF⟩ := hr.glob x hx
  obtain ⟨e, hF'⟩ := fr x.1 (Array.getElem?_eq_some_iff.1 hc).1 hF
  exact ⟨⟨c, t, e.trans hc⟩, hF'⟩

/-- The abstract heap behind a step: where the step's own numbers end, what was there stays. -/
def upd (st : St) (h : Hp) : Hp := fun id => if id < st.length then st[id]? else h id
def Agree (st : St) (h : Hp) : Prop := ∀ id, id < st.length → h id = st[id]?

structure Post (ρ : Rho) (h : Hp) (w : World) (st : St) (ρ' : Rho) (h' : Hp) (w' : World) (st' : St) : Prop where
  ext : ρ.le ρ'
  new : ∀ id, ρ' id ≠ ρ id → st.length ≤ id ∧ id < st'.length
  heap : h' = upd st' h
  hr : HR ρ' h' w'
  agree : Agree st' h'
  le : st.length ≤ st'.length
  os : w'.os = w.os
  tape : w'.tape = w.tape
  output : w'.output = w.output
  size : w.heap.size ≤ w'.heap.size
  frame : ∀ B, B < w.heap.size → Free ρ h B → w'.heap[B]? = w.heap[B]? ∧ Free ρ' h' B
  out : ∀ B, B < w.heap.size → Out ρ h B → Out ρ' h' B
  fzn : ∀ B o v, ρ'.fz B o = some v → ρ.fz B o = some v ∨ w.heap.size ≤ B ∨ ¬ Out ρ h B
  idle : ∀ id, id < st.length → ρ id = none → st'[id]? = st[id]?

theorem upd_self {st : St} {h : Hp} (ha : Agree st h) : upd st h = h := by
  funext id
  unfold upd
  split
  · rename_i hl; exact (ha id hl).symm
  · rfl
theorem upd_lt {st : St} {h : Hp} {id : Nat} (hl : id < st.length) : upd st h id = st[id]? := by unfold upd; rw [if_pos hl]
theorem upd_ge {st : St} {h : Hp} {id : Nat} (hl : st.length ≤ id) : upd st h id = h id := by unfold upd; rw [if_neg (by omega)]
theorem upd_agree (st : St) (h : Hp) : Agree st (upd st h) := fun id hl => upd_lt hl
theorem upd_upd {s1 s2 : St} {h : Hp} (hle : s1.length ≤ s2.length) : upd s2 (upd s1 h) = upd s2 h := by
  funext id
  unfold upd
  split
  · rfl
  · rw [if_neg (by omega)]
theorem Post.refl {ρ : Rho} {h : Hp} {w : World} {st : St} (hr : HR ρ h w) (ha : Agree st h) : Post ρ h w st ρ (upd st h) w st := by
  rw [upd_self ha]
  exact ⟨Rho.le.rfl, fun id e => absurd rfl e, (upd_self ha).symm, hr, ha, Nat.le_refl _, rfl, rfl, rfl, Nat.le_refl _, fun B _ hf => ⟨rfl, hf⟩, fun B _ hf => hf, fun B o v e => .inl e, fun _ _ _ => rfl⟩
theorem Post.trans {ρ ρ1 ρ2 : Rho} {h h1 h2 : Hp} {w w1 w2 : World} {st st1 st2 : St} (p : Post ρ h w st ρ1 h1 w1 st1) (q : Post ρ1 h1 w1 st1 ρ2 h2 w2 st2) : Post ρ h w st ρ2 h2 w2 st2 where
  ext := p.ext.trans q.ext
  new := fun id e => by
    by_cases h1 : ρ1 id = ρ id
    · have := q.new id (by rw [h1]; exact e); have := p.le; omega
    · have := p.new id h1; have := q.le; omega
  heap := by rw [q.heap, p.heap, upd_upd q.le]
  hr := q.hr
  agree := q.agree
  le := Nat.le_trans p.le q.le
  os := q.os.trans p.os
  tape := q.tape.trans p.tape
  output := q.output.trans p.output
  size := Nat.le_trans p.size q.size
  frame := fun B hB hf => by
    obtain ⟨e1, f1⟩ := p.frame B hB hf
    obtain ⟨e2, f2⟩ := q.frame B (Nat.lt_of_lt_of_le hB p.size) f1
    exact ⟨e2.trans e1, f2⟩
  out := fun B hB hf => q.out B (Nat.lt_of_lt_of_le hB p.size) (p.out B hB hf)
  fzn := fun B o v e => by
    rcases q.fzn B o v e with e | e | e
    · exact p.fzn B o v e
    · exact .inr (.inl (Nat.le_trans p.size e))
    · rcases Nat.lt_or_ge B w.heap.size with hB | hB
      · exact .inr (.inr (fun hf => e (p.out B hB hf)))
      · exact .inr (.inl hB)
  idle := fun id hid hρ => by
    have e1 := p.idle id hid hρ
    have hρ1 : ρ1 id = none := by
      by_cases e : ρ1 id = ρ id
      · rw [e]; exact hρ
      · have := p.new id e; omega
    rw [← e1]
    exact q.idle id (Nat.lt_of_lt_of_le hid p.le) hρ1
/-- The step's own numbers are not taken. -/
def Fresh (ρ : Rho) (st st' : St) : Prop := ∀ id, st.length ≤ id → id < st'.length → ρ id = Option.none
theorem Fresh.next {ρ ρ1 : Rho} {h h1 : Hp} {w w1 : World} {st st1 st2 : St} (p : Post ρ h w st ρ1 h1 w1 st1) (f : Fresh ρ st st2) (hle : st1.length ≤ st2.length) : Fresh ρ1 st1 st2 := fun id h1 h2 => by
  have hρ : ρ id = Option.none := f id (Nat.le_trans p.le h1) h2
  by_cases e : ρ1 id = ρ id
  · rw [e]; exact hρ
  · have := p.new id e; omega
theorem Fresh.first {ρ : Rho} {st st1 st2 : St} (f : Fresh ρ st st2) (h1 : st1.length ≤ st2.length) : Fresh ρ st st1 := fun id h2 h3 => f id h2 (by omega)
theorem Fresh.self {ρ : Rho} {st : St} : Fresh ρ st st := fun id h1 h2 => by omega

theorem HR.drew {ρ : Rho} {h : Hp} {w : World} (hr : HR ρ h w) (n : Nat) : HR ρ h { w with drawn := n } where
  cell := fun id B o r x ro cs h1 h2 h3 => by
    obtain ⟨a, b, c, d, e⟩ := hr.cell id B o r x ro cs h1 h2 h3
    exact ⟨a, b, c, d, e⟩
  apart := hr.apart
  fzh := hr.fzh
  fza := hr.fza
  ent := hr.ent
  glob := hr.glob
theorem Post.from_drew {ρ ρ' : Rho} {h h' : Hp} {w w' : World} {st st' : St} {n : Nat} (p : Post ρ h { w with drawn := n } st ρ' h' w' st') : Post ρ h w st ρ' h' w' st' :=
  ⟨p.ext, p.new, p.heap, p.hr, p.agree, p.le, p.os, p.tape, p.output, p.size, p.frame, p.out, p.fzn, p.idle⟩

/- ### reading -/
theorem Holds.read {ρ : Rho} {w : World} {B o r : Nat} {ro : Bool} {cs l : List AV} {off n : Nat} (h : Holds ρ w B o r ro cs) (e : readL cs off n = some l) :
    ∃ vs, Rels ρ l vs ∧ vs.length = n ∧ ∀ (P : Program), (loadCells ⟨B, o + off, none⟩ n).run P w = .ok vs.toArray w := by
  obtain ⟨hle, rfl⟩ := readL_some e
  obtain ⟨vs, hr, hc, _⟩ := h.vals
  have hl := hr.length
  refine ⟨(vs.drop off).take n, (hr.drop off).take n, by simp; omega, fun P => ?_⟩
  have := run_loadCells_list (P := P) w ⟨B, o + off, none⟩ ((vs.drop off).take n) (fun j v hj => by
    rw [Addr.add_lit, Nat.add_assoc]
    apply hc
    rw [List.getElem?_take] at hj
    split at hj
    · rwa [List.getElem?_drop] at hj
    · cases hj)
  rw [show ((vs.drop off).take n).length = n by simp; omega] at this
  exact this
theorem Holds.cellAt {ρ : Rho} {w : World} {B o r : Nat} {ro : Bool} {cs : List AV} {i : Nat} {a : AV} (h : Holds ρ w B o r ro cs) (e : cs[i]? = some a) : ∃ v, w.cell? ⟨B, o + i, none⟩ = some v ∧ Rel ρ a v := by
  obtain ⟨vs, hr, hc, _⟩ := h.vals
  obtain ⟨v, h1, h2⟩ := hr.get i a e
  exact ⟨v, hc i v h1, h2⟩
/-- Memory that nobody writes. -/
theorem HR.frozen_read {ρ : Rho} {h : Hp} {w : World} (hr : HR ρ h w) {B o : Nat} {vs : List Value} (hf : ∀ (j : Nat) (u : Value), vs[j]? = some u → ρ.fz B (o + j) = some u) (P : Program) : (loadCells ⟨B, o, none⟩ vs.length).run P w = .ok vs.toArray w :=
  run_loadCells_list (P := P) w ⟨B, o, none⟩ vs (fun j v hj => by rw [Addr.add_lit]; exact hr.fzh _ _ _ (hf j v hj))

/- ### one block changed or made -/
theorem Holds.move {ρ ρ' : Rho} (hle : ρ.le ρ') {w w' : World} {B o r : Nat} {ro : Bool} {cs : List AV} (h : Holds ρ w B o r ro cs) (hsz : w.heap.size ≤ w'.heap.size) (hb : r = 0 ∨ w'.heap[B]? = w.heap[B]?) (hfz : ∀ (B o : Nat) (v : Value), ρ'.fz B o = some v → w'.cell? ⟨B, o, none⟩ = some v) : Holds ρ' w' B o r ro cs where
  fit := h.fit
  lt := fun hr => Nat.lt_of_lt_of_le (h.lt hr) hsz
  vals := by
    obtain ⟨vs, h1, h2, h3⟩ := h.vals
    refine ⟨vs, Rels.mono hle _ _ h1, fun i v e => ?_, fun hro i v e => hle.2 _ _ _ (h3 hro i v e)⟩
    rcases hb with rfl | hb
    · have := h1.length
      have hf := h.fit
      have : vs = [] := by apply List.eq_nil_of_length_eq_zero; omega
      subst this; simp at e
    · rw [World.cell?_of_block (w := w) (by exact hb)]; exact h2 i v e
  there := fun j hj => by
    rcases hb with rfl | hb
    · omega
    · rw [World.cell?_of_block (w := w) (by exact hb)]; exact h.there j hj
  free := fun e h0 j => by
    rcases hb with rfl | hb
    · exact absurd rfl h0
    · rw [World.frozen?_of_block (w := w) (by exact hb)]; exact h.free e h0 j
theorem cell_lt {w : World} {B o : Nat} {v : Value} (h : w.cell? ⟨B, o, none⟩ = some v) : B < w.heap.size := by
  rcases Nat.lt_or_ge B w.heap.size with h1 | h1
  · exact h1
  · have hn : w.heap[B]? = none := Array.getElem?_eq_none h1
    exfalso
    simp [World.cell?, hn] at h

def Rho.put (ρ : Rho) (n : Nat) (x : Nat × Nat × Nat) : Rho := { at_ := fun i => if i = n then some x else ρ i, fz := ρ.fz }
theorem Rho.put_same (ρ : Rho) (n : Nat) (x : Nat × Nat × Nat) : (ρ.put n x) n = some x := by simp [Rho.put]
theorem Rho.put_other (ρ : Rho) {n i : Nat} (x : Nat × Nat × Nat) (h : i ≠ n) : (ρ.put n x) i = ρ i := by simp [Rho.put, h]
theorem Rho.put_le {ρ : Rho} {n : Nat} {x : Nat × Nat × Nat} (h : ρ n = none ∨ ρ n = some x) : ρ.le (ρ.put n x) := by
  refine ⟨fun i y e => ?_, fun B o v e => e⟩
  by_cases hi : i = n
  · subst hi
    rw [Rho.put_same]
    rcases h with h | h <;> rw [h] at e <;> cases e
    rfl
  · rw [Rho.put_other _ _ hi]; exact e

/-- One number stands for what is there now; other ones stay, or are given up. -/
theorem post1 {ρ : Rho} {h : Hp} {w w' : World} {st st' : St} (hr : HR ρ h w) (ha : Agree st h) (hf : Fresh ρ st st') {n B0 o0 r0 : Nat} {x0 : Ent}
    (hn : (ρ n = none ∧ st.length ≤ n) ∨ ρ n = some (B0, o0, r0)) (hnl : n < st'.length) (hx : st'[n]? = some x0) (hle : st.length ≤ st'.length)
    (hold : ∀ i, i < st.length → i ≠ n → st'[i]? = st[i]? ∨ (st'[i]? = some .dead ∧ ρ i ≠ none))
    (hH : ∀ ro cs, x0.view = some (ro, cs) → Holds (ρ.put n (B0, o0, r0)) w' B0 o0 r0 ro cs)
    (hex : r0 ≠ 0 → ∀ i o r y v, i ≠ n → ρ i = some (B0, o, r) → r ≠ 0 → upd st' h i = some y → y.view = some v → False)
    (hfz : r0 ≠ 0 → ∀ o, ρ.fz B0 o = none)
    (hw : ∀ B, B < w.heap.size → (B ≠ B0 ∨ r0 = 0) → w'.heap[B]? = w.heap[B]?) (hsz : w.heap.size ≤ w'.heap.size)
    (hos : w'.os = w.os) (htape : w'.tape = w.tape) (hout : w'.output = w.output)
    (hfree : r0 ≠ 0 → ∀ B, B < w.heap.size → Free ρ h B → B ≠ B0) : Post ρ h w st (ρ.put n (B0, o0, r0)) (upd st' h) w' st' := by
  have hρle : ρ.le (ρ.put n (B0, o0, r0)) := Rho.put_le (hn.imp (fun h => h.1) id)
  have hfz' : ∀ (B o : Nat) (v : Value), (ρ.put n (B0, o0, r0)).fz B o = some v → w'.cell? ⟨B, o, none⟩ = some v := fun B o v e => by
    have e' : ρ.fz B o = some v := e
    have hc := hr.fzh B o v e'
    rw [World.cell?_of_block (w := w)]
    · exact hc
    · refine hw B (cell_lt hc) ?_
      by_cases h0 : r0 = 0
      · exact .inr h0
      · refine .inl (fun eB => ?_)
        subst eB
        rw [hfz h0 o] at e'; cases e'
  -- what stands behind a number that is not n
  have hother : ∀ i x, i ≠ n → ρ i ≠ none → upd st' h i = some x → x = .dead ∨ h i = some x := fun i x hi hρ hx' => by
    unfold upd at hx'
    split at hx'
    · rename_i hlt
      rcases Nat.lt_or_ge i st.length with h1 | h1
      · rcases hold i h1 hi with h2 | ⟨h2, _⟩
        · right; rw [ha i h1, ← h2]; exact hx'
        · left; rw [h2] at hx'; cases hx'; rfl
      · exact absurd (hf i h1 hlt) hρ
    · exact .inr hx'
  have hupd : upd st' h n = some x0 := by rw [upd_lt hnl]; exact hx
  have hframe : ∀ B, B < w.heap.size → Free ρ h B → w'.heap[B]? = w.heap[B]? ∧ Free (ρ.put n (B0, o0, r0)) (upd st' h) B := fun B hB hF => by
    refine ⟨?_, ?_⟩
    · refine hw B hB ?_
      by_cases h0 : r0 = 0
      · exact .inr h0
      · exact .inl (hfree h0 B hB hF)
    intro id o r x cs h1 h2 h3 h4
    by_cases hi : id = n
    · subst hi
      rw [Rho.put_same] at h1; cases h1
      exact hfree h2 _ hB hF rfl
    · rw [Rho.put_other _ _ hi] at h1
      rcases hother id x hi (by rw [h1]; simp) h3 with rfl | h3'
      · simp [Ent.view] at h4
      · exact hF id o r x cs h1 h2 h3' h4
  refine ⟨hρle, fun id e => ?_, rfl, ⟨?_, ?_, hfz', ?_, ?_, hr.globs hframe⟩, upd_agree _ _, hle, hos, htape, hout, hsz, ?_, ?_, fun B o v e => .inl e, fun id hid hρ => ?_⟩
  · by_cases hi : id = n
    · subst hi
      rcases hn with ⟨h1, h2⟩ | h1
      · exact ⟨h2, hnl⟩
      · rw [Rho.put_same, h1] at e; exact absurd rfl e
    · rw [Rho.put_other _ _ hi] at e; exact absurd rfl e
  · intro id B o r x ro cs h1 h2 h3
    by_cases hi : id = n
    · subst hi
      rw [Rho.put_same] at h1; cases h1
      rw [hupd] at h2; cases h2
      exact hH ro cs h3
    · rw [Rho.put_other _ _ hi] at h1
      rcases hother id x hi (by rw [h1]; simp) h2 with rfl | h2'
      · simp [Ent.view] at h3
      · have H := hr.cell id B o r x ro cs h1 h2' h3
        refine H.move hρle hsz ?_ hfz'
        by_cases hr0 : r = 0
        · exact .inl hr0
        · refine .inr (hw B (H.lt hr0) ?_)
          by_cases h0 : r0 = 0
          · exact .inr h0
          · refine .inl (fun eB => ?_)
            subst eB
            exact hex h0 id o r x _ hi h1 hr0 h2 h3
  · intro i j B o r o' r' x y ro ro' cs cs' hij h1 h2 h3 h4 h5 h6 h7 h8 h9
    by_cases hi : i = n
    · subst hi
      rw [Rho.put_same] at h1; cases h1
      rw [Rho.put_other _ _ (fun e => hij e.symm)] at h2
      exact hex h3 j o' r' y _ (fun e => hij e.symm) h2 h4 h6 h8
    · rw [Rho.put_other _ _ hi] at h1
      by_cases hj : j = n
      · subst hj
        rw [Rho.put_same] at h2; cases h2
        exact hex h4 i o r x _ hi h1 h3 h5 h7
      · rw [Rho.put_other _ _ hj] at h2
        rcases hother i x hi (by rw [h1]; simp) h5 with rfl | h5'
        · simp [Ent.view] at h7
        · rcases hother j y hj (by rw [h2]; simp) h6 with rfl | h6'
          · simp [Ent.view] at h8
          · exact hr.apart i j B o r o' r' x y ro ro' cs cs' hij h1 h2 h3 h4 h5' h6' h7 h8 h9
  · intro B o v e id o' r' x cs h1 h2 h3 h4
    have e' : ρ.fz B o = some v := e
    by_cases hi : id = n
    · subst hi
      rw [Rho.put_same] at h1; cases h1
      rw [hfz h2 o] at e'; cases e'
    · rw [Rho.put_other _ _ hi] at h1
      rcases hother id x hi (by rw [h1]; simp) h3 with rfl | h3'
      · simp [Ent.view] at h4
      · exact hr.fza B o v e' id o' r' x cs h1 h2 h3' h4
  · intro i hi
    by_cases hin : i = n
    · subst hin; rw [hupd]; simp
    · rw [Rho.put_other _ _ hin] at hi
      unfold upd
      split
      · rename_i hlt
        rw [List.getElem?_eq_getElem hlt]; simp
      · exact hr.ent i hi
  · exact hframe
  · intro B hB hF id o r x v h1 h2 h3 h4
    by_cases hi : id = n
    · subst hi
      rw [Rho.put_same] at h1; cases h1
      exact hfree h2 _ hB hF.free rfl
    · rw [Rho.put_other _ _ hi] at h1
      rcases hother id x hi (by rw [h1]; simp) h3 with rfl | h3'
      · simp [Ent.view] at h4
      · exact hF id o r x v h1 h2 h3' h4
  · by_cases hi : id = n
    · subst hi
      rcases hn with ⟨h1, h2⟩ | h1
      · omega
      · rw [h1] at hρ; cases hρ
    · rcases hold id hid hi with h2 | ⟨h2, h3⟩
      · exact h2
      · exact absurd hρ h3

/- ### blocks that are not written any more -/
theorem freezeE_view (x : Ent) {ro : Bool} {cs : List AV} (h : (freezeE x).view = some (ro, cs)) : ro = true ∧ ∃ ro', x.view = some (ro', cs) := by
  cases x with
  | cells => simp [freezeE, Ent.view] at h
  | dead => simp [freezeE, Ent.view] at h
  | tbl r e l => simp [freezeE, Ent.view] at h; exact ⟨h.1.symm ▸ rfl, r, by simp [Ent.view, h.2]⟩

theorem freeze1_post {ρ : Rho} {h : Hp} {w : World} {st : St} (hr : HR ρ h w) (ha : Agree st h) {b B o r : Nat} {x : Ent} {ro : Bool} {cs : List AV}
    (hb : st[b]? = some x) (hρ : ρ b = some (B, o, r)) (hv : x.view = some (ro, cs)) :
    ∃ ρ', Post ρ h w st ρ' (upd (st.set b (freezeE x)) h) w (st.set b (freezeE x)) ∧ ∃ vs, Rels ρ' cs vs ∧ ∀ (i : Nat) (v : Value), vs[i]? = some v → ρ'.fz B (o + i) = some v := by
  have hbl : b < st.length := (List.getElem?_eq_some_iff.1 hb).1
  have hhb : h b = some x := by rw [ha b hbl]; exact hb
  have H := hr.cell b B o r x ro cs hρ hhb hv
  obtain ⟨vs, hv1, hv2, hv3⟩ := H.vals
  have hlen := hv1.length
  have hfit := H.fit
  -- what is frozen now
  obtain ⟨ρ', hρ'⟩ : ∃ ρ' : Rho, ρ' = { at_ := ρ.at_, fz := fun B' o' => if B' = B ∧ o ≤ o' ∧ o' - o < vs.length then vs[o' - o]? else ρ.fz B' o' } := ⟨_, rfl⟩
  have hat : ∀ i, ρ' i = ρ i := fun i => by rw [hρ']
  have hfzin : ∀ (i : Nat) (v : Value), vs[i]? = some v → ρ'.fz B (o + i) = some v := fun i v e => by
    rw [hρ']
    simp only [Nat.add_sub_cancel_left, Nat.le_add_right, true_and]
    rw [if_pos (List.getElem?_eq_some_iff.1 e).1]
    exact e
  have hfzcase : ∀ (B' o' : Nat) (v : Value), ρ'.fz B' o' = some v → (B' = B ∧ ∃ i, o' = o + i ∧ vs[i]? = some v) ∨ ρ.fz B' o' = some v := fun B' o' v e => by
    rw [hρ'] at e
    simp only at e
    split at e
    · rename_i hc
      exact .inl ⟨hc.1, o' - o, by omega, e⟩
    · exact .inr e
  have hle : ρ.le ρ' := ⟨fun i y e => by rw [hat]; exact e, fun B' o' v e => by
    rw [hρ']
    simp only
    split
    · rename_i hc
      obtain ⟨rfl, h1, h2⟩ := hc
      have hc1 := hr.fzh _ _ _ e
      have hg : vs[o' - o]? = some vs[o' - o] := List.getElem?_eq_getElem h2
      have hc2 := hv2 (o' - o) _ hg
      rw [show o + (o' - o) = o' by omega, hc1] at hc2
      rw [hg, Option.some.injEq]
      exact (Option.some.inj hc2).symm
    · exact e⟩
  have hfzh : ∀ (B' o' : Nat) (v : Value), ρ'.fz B' o' = some v → w.cell? ⟨B', o', none⟩ = some v := fun B' o' v e => by
    rcases hfzcase B' o' v e with ⟨rfl, i, rfl, hi⟩ | e
    · exact hv2 i v hi
    · exact hr.fzh _ _ _ e
  have hget : ∀ id, upd (st.set b (freezeE x)) h id = if id = b then some (freezeE x) else h id := fun id => by
    unfold upd
    rw [List.length_set]
    split
    · rename_i hlt
      rw [List.getElem?_set]
      by_cases e : b = id
      · subst e; simp [hlt]
      · rw [if_neg e, if_neg (fun e' => e e'.symm)]; exact (ha id hlt).symm
    · rename_i hge
      rw [if_neg (by omega)]
  have hviews : ∀ id y ro' cs', upd (st.set b (freezeE x)) h id = some y → y.view = some (ro', cs') → (id = b ∧ ro' = true) ∨ (id ≠ b ∧ h id = some y) := fun id y ro' cs' e1 e2 => by
    rw [hget] at e1
    split at e1
    · rename_i hid
      cases e1
      exact .inl ⟨hid, (freezeE_view x e2).1⟩
    · rename_i hid
      exact .inr ⟨hid, e1⟩
  have hframe : ∀ B', B' < w.heap.size → Free ρ h B' → w.heap[B']? = w.heap[B']? ∧ Free ρ' (upd (st.set b (freezeE x)) h) B' := fun B' hB' hF => ⟨rfl, by
    intro id o1 r1 y cs1 h1 h2 h3 h4
    rw [hat] at h1
    rcases hviews id y _ _ h3 h4 with ⟨rfl, h5⟩ | ⟨hid, h3'⟩
    · cases h5
    · exact hF id o1 r1 y cs1 h1 h2 h3' h4⟩
  refine ⟨ρ', ⟨hle, fun id e => absurd (hat id) e, rfl, ⟨?_, ?_, hfzh, ?_, ?_, hr.globs hframe⟩, upd_agree _ _, by simp, rfl, rfl, rfl, Nat.le_refl _, hframe, ?_, ?_, fun id hid hρ0 => ?_⟩, vs, Rels.mono hle _ _ hv1, hfzin⟩
  · intro id B' o' r' y ro' cs' h1 h2 h3
    rw [hat] at h1
    rw [hget] at h2
    split at h2
    · rename_i hid
      subst hid
      cases h2
      rw [hρ] at h1; cases h1
      obtain ⟨rfl, ro1, hv'⟩ := freezeE_view x h3
      rw [hv] at hv'; cases hv'
      exact ⟨H.fit, H.lt, ⟨vs, Rels.mono hle _ _ hv1, hv2, fun _ i v e => hfzin i v e⟩, H.there, fun e => by cases e⟩
    · exact (hr.cell id B' o' r' y ro' cs' h1 h2 h3).move hle (Nat.le_refl _) (.inr rfl) hfzh
  · intro i j B' o1 r1 o2 r2 y z ro1 ro2 cs1 cs2 hij h1 h2 h3 h4 h5 h6 h7 h8 h9
    rw [hat] at h1 h2
    rcases hviews i y _ _ h5 h7 with ⟨rfl, rfl⟩ | ⟨hi, h5'⟩
    · rcases hviews j z _ _ h6 h8 with ⟨rfl, rfl⟩ | ⟨hj, h6'⟩
      · exact hij rfl
      · rcases h9 with h9 | h9
        · cases h9
        · exact hr.apart i j B' o1 r1 o2 r2 x z ro ro2 cs cs2 hij h1 h2 h3 h4 hhb h6' hv h8 (.inr h9)
    · rcases hviews j z _ _ h6 h8 with ⟨rfl, rfl⟩ | ⟨hj, h6'⟩
      · rcases h9 with h9 | h9
        · exact hr.apart i j B' o1 r1 o2 r2 y x ro1 ro cs1 cs hij h1 h2 h3 h4 h5' hhb h7 hv (.inl h9)
        · cases h9
      · exact hr.apart i j B' o1 r1 o2 r2 y z ro1 ro2 cs1 cs2 hij h1 h2 h3 h4 h5' h6' h7 h8 h9
  · intro B' o' v e id o1 r1 y cs1 h1 h2 h3 h4
    rw [hat] at h1
    rcases hviews id y _ _ h3 h4 with ⟨rfl, h5⟩ | ⟨hid, h3'⟩
    · cases h5
    · rcases hfzcase B' o' v e with ⟨rfl, i, rfl, hi⟩ | e
      · have hr0 : r ≠ 0 := fun e => by
          have := (List.getElem?_eq_some_iff.1 hi).1
          omega
        exact hr.apart id b B' o1 r1 o r y x false ro cs1 cs hid h1 hρ h2 hr0 h3' hhb h4 hv (.inl rfl)
      · exact hr.fza _ _ _ e id o1 r1 y cs1 h1 h2 h3' h4
  · intro i hi
    rw [hget]
    split
    · simp
    · exact hr.ent i (by rw [← hat]; exact hi)
  · intro B' hB' hF id o1 r1 y v h1 h2 h3 h4
    rw [hat] at h1
    obtain ⟨ro1, cs1⟩ := v
    rcases hviews id y _ _ h3 h4 with ⟨rfl, h5⟩ | ⟨hid, h3'⟩
    · exact hF id o1 r1 x _ h1 h2 hhb hv
    · exact hF id o1 r1 y _ h1 h2 h3' h4
  · intro B' o' v e
    rcases hfzcase B' o' v e with ⟨rfl, i, rfl, hi⟩ | e
    · refine .inr (.inr (fun hF => ?_))
      have hr0 : r ≠ 0 := fun e => by
        have := (List.getElem?_eq_some_iff.1 hi).1
        omega
      exact hF b o r x _ hρ hr0 hhb hv
    · exact .inl e
  · rw [List.getElem?_set]
    split
    · rename_i e; subst e; rw [hρ] at hρ0; cases hρ0
    · rfl
end Go.Sy
