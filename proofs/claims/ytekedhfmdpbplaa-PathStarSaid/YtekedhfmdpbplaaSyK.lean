/- The heap's relation; reads; one block changed or made; blocks that are not written any more. -/
import Derived.Test.YtekedhfmdpbplaaSyD
import Derived.Test.YtekedhfmdpbplaaSyGl
import Derived.Laws.IdiomCopy
import Derived.IntWalk
set_option linter.unusedSimpArgs false
set_option linter.unusedVariables false
namespace Go.Sy
open Go

def Ent.view : Ent → Option (Bool × List AV)
  | .cells cs => some (false, cs)
  | .tbl ro e l => some (ro, flat e l)
  | .dead => none

structure Holds (ρ : Rho) (w : World) (B o r : Nat) (ro : Bool) (cs : List AV) : Prop where
  fit : cs.length ≤ r
  lt : r ≠ 0 → B < w.heap.size
  vals : ∃ vs, Rels ρ cs vs ∧ (∀ (i : Nat) (v : Value), vs[i]? = some v → w.cell? ⟨B, o + i, none⟩ = some v) ∧ (ro = true → ∀ (i : Nat) (v : Value), vs[i]? = some v → ρ.fz B (o + i) = some v)
  there : ∀ j, j < r → (w.cell? ⟨B, o + j, none⟩).isSome = true
  free : ro = false → r ≠ 0 → ∀ j, w.frozen? ⟨B, j, none⟩ = false

abbrev Hp := Nat → Option Ent
def Free (ρ : Rho) (h : Hp) (B : Nat) : Prop := ∀ id o r x cs, ρ id = some (B, o, r) → r ≠ 0 → h id = some x → x.view = some (false, cs) → False

/-- Nothing that is alive stands in this block. -/
def Out (ρ : Rho) (h : Hp) (B : Nat) : Prop := ∀ id o r x v, ρ id = some (B, o, r) → r ≠ 0 → h id = some x → x.view = some v → False
theorem Out.free {ρ : Rho} {h : Hp} {B : Nat} (k : Out ρ h B) : Free ρ h B := fun id o r x cs h1 h2 h3 h4 => k id o r x _ h1 h2 h3 h4

structure HR (ρ : Rho) (h : Hp) (w : World) : Prop where
  cell : ∀ (id B o r : Nat) (x : Ent) (ro : Bool) (cs : List AV), ρ id = some (B, o, r) → h id = some x → x.view = some (ro, cs) → Holds ρ w B o r ro cs
  apart : ∀ (i j B o r o' r' : Nat) (x y : Ent) (ro ro' : Bool) (cs cs' : List AV), i ≠ j → ρ i = some (B, o, r) → ρ j = some (B, o', r') → r ≠ 0 → r' ≠ 0 →
    h i = some x → h j = some y → x.view = some (ro, cs) → y.view = some (ro', cs') → (ro = false ∨ ro' = false) → False
  fzh : ∀ (B o : Nat) (v : Value), ρ.fz B o = some v → w.cell? ⟨B, o, none⟩ = some v
  fza : ∀ (B o : Nat) (v : Value), ρ.fz B o = some v → Free ρ h B
  ent : ∀ (i : Nat), ρ i ≠ none → h i ≠ none
  glob : ∀ x ∈ Glob.facts, (∃ c t, w.heap[x.1]? = some (.cells x.2.toArray c t)) ∧ Free ρ h x.1
/-- What a step leaves of the tables. -/
theorem HR.globs {ρ ρ' : Rho} {h h' : Hp} {w w' : World} (hr : HR ρ h w) (fr : ∀ B, B < w.heap.size → Free ρ h B → w'.heap[B]? = w.heap[B]? ∧ Free ρ' h' B) :
    ∀ x ∈ Glob.facts, (∃ c t, w'.heap[x.1]? = some (.cells x.2.toArray c t)) ∧ Free ρ' h' x.1 := fun x hx => by
  obtain ⟨⟨c, t, hc⟩, hF⟩ := hr.glob x hx
  obtain ⟨e, hF'⟩ := fr x.1 (Array.getElem?_eq_some_iff.1 hc).1 hF
  exact ⟨⟨c, t, e.trans hc⟩, hF'⟩

/-- The abstract heap behind a step: where the step's own numbers end, what was there stays. -/
def upd (st : St) (h : Hp) : Hp := fun id => if id < st.length then st[id]? else h id
def Agree (st : St) (h : Hp) : Prop := ∀ id, id < st.length → h id = st[id]?

structure Post (ρ : Rho) (h : Hp) (w : World) (st : St) (ρ' : Rho) (h' : Hp) (w' : World) (st' : St) : Prop where
  ext : ρ.le ρ'
  new : ∀ id, ρ' id ≠ ρ id → st.length ≤ id ∧ id < st'.length
  heap : h' = upd st' h
  hr : HR ρ' h' w'
  agree : Agree st' h'
  le : st.length ≤ st'.length
  os : w'.os = w.os
  tape : w'.tape = w.tape
  output : w'.output = w.output
  size : w.heap.size ≤ w'.heap.size
  frame : ∀ B, B < w.heap.size → Free ρ h B → w'.heap[B]? = w.heap[B]? ∧ Free ρ' h' B
  out : ∀ B, B < w.heap.size → Out ρ h B → Out ρ' h' B
  fzn : ∀ B o v, ρ'.fz B o = some v → ρ.fz B o = some v ∨ w.heap.size ≤ B ∨ ¬ Out ρ h B
  idle : ∀ id, id < st.length → ρ id = none → st'[id]? = st[id]?

theorem upd_self {st : St} {h : Hp} (ha : Agree st h) : upd st h = h := by
  funext id
  unfold upd
  split
  · rename_i hl; exact (ha id hl).symm
  · rfl
theorem upd_lt {st : St} {h : Hp} {id : Nat} (hl : id < st.length) : upd st h id = st[id]? := by unfold upd; rw [if_pos hl]
theorem upd_ge {st : St} {h : Hp} {id : Nat} (hl : st.length ≤ id) : upd st h id = h id := by unfold upd; rw [if_neg (by omega)]
theorem upd_agree (st : St) (h : Hp) : Agree st (upd st h) := fun id hl => upd_lt hl
theorem upd_upd {s1 s2 : St} {h : Hp} (hle : s1.length ≤ s2.length) : upd s2 (upd s1 h) = upd s2 h := by
  funext id
  unfold upd
  split
  · rfl
  · rw [if_neg (by omega)]
theorem Post.refl {ρ : Rho} {h : Hp} {w : World} {st : St} (hr : HR ρ h w) (ha : Agree st h) : Post ρ h w st ρ (upd st h) w st := by
  rw [upd_self ha]
  exact ⟨Rho.le.rfl, fun id e => absurd rfl e, (upd_self ha).symm, hr, ha, Nat.le_refl _, rfl, rfl, rfl, Nat.le_refl _, fun B _ hf => ⟨rfl, hf⟩, fun B _ hf => hf, fun B o v e => .inl e, fun _ _ _ => rfl⟩
theorem Post.trans {ρ ρ1 ρ2 : Rho} {h h1 h2 : Hp} {w w1 w2 : World} {st st1 st2 : St} (p : Post ρ h w st ρ1 h1 w1 st1) (q : Post ρ1 h1 w1 st1 ρ2 h2 w2 st2) : Post ρ h w st ρ2 h2 w2 st2 where
  ext := p.ext.trans q.ext
  new := fun id e => by
    by_cases h1 : ρ1 id = ρ id
    · have := q.new id (by rw [h1]; exact e); have := p.le; omega
    · have := p.new id h1; have := q.le; omega
  heap := by rw [q.heap, p.heap, upd_upd q.le]
  hr := q.hr
  agree := q.agree
  le := Nat.le_trans p.le q.le
  os := q.os.trans p.os
  tape := q.tape.trans p.tape
  output := q.output.trans p.output
  size := Nat.le_trans p.size q.size
  frame := fun B hB hf => by
    obtain ⟨e1, f1⟩ := p.frame B hB hf
    obtain ⟨e2, f2⟩ := q.frame B (Nat.lt_of_lt_of_le hB p.size) f1
    exact ⟨e2.trans e1, f2⟩
  out := fun B hB hf => q.out B (Nat.lt_of_lt_of_le hB p.size) (p.out B hB hf)
  fzn := fun B o v e => by
    rcases q.fzn B o v e with e | e | e
    · exact p.fzn B o v e
    · exact .inr (.inl (Nat.le_trans p.size e))
    · rcases Nat.lt_or_ge B w.heap.size with hB | hB
      · exact .inr (.inr (fun hf => e (p.out B hB hf)))
      · exact .inr (.inl hB)
  idle := fun id hid hρ => by
    have e1 := p.idle id hid hρ
    have hρ1 : ρ1 id = none := by
      by_cases e : ρ1 id = ρ id
      · rw [e]; exact hρ
      · have := p.new id e; omega
    rw [← e1]
    exact q.idle id (Nat.lt_of_lt_of_le hid p.le) hρ1
/-- The step's own numbers are not taken. -/
def Fresh (ρ : Rho) (st st' : St) : Prop := ∀ id, st.length ≤ id → id < st'.length → ρ id = Option.none
theorem Fresh.next {ρ ρ1 : Rho} {h h1 : Hp} {w w1 : World} {st st1 st2 : St} (p : Post ρ h w st ρ1 h1 w1 st1) (f : Fresh ρ st st2) (hle : st1.length ≤ st2.length) : Fresh ρ1 st1 st2 := fun id h1 h2 => by
  have hρ : ρ id = Option.none := f id (Nat.le_trans p.le h1) h2
  by_cases e : ρ1 id = ρ id
  · rw [e]; exact hρ
  · have := p.new id e; omega
theorem Fresh.first {ρ : Rho} {st st1 st2 : St} (f : Fresh ρ st st2) (h1 : st1.length ≤ st2.length) : Fresh ρ st st1 := fun id h2 h3 => f id h2 (by omega)
theorem Fresh.self {ρ : Rho} {st : St} : Fresh ρ st st := fun id h1 h2 => by omega

theorem HR.drew {ρ : Rho} {h : Hp} {w : World} (hr : HR ρ h w) (n : Nat) : HR ρ h { w with drawn := n } where
  cell := fun id B o r x ro cs h1 h2 h3 => by
    obtain ⟨a, b, c, d, e⟩ := hr.cell id B o r x ro cs h1 h2 h3
    exact ⟨a, b, c, d, e⟩
  apart := hr.apart
  fzh := hr.fzh
  fza := hr.fza
  ent := hr.ent
  glob := hr.glob
theorem Post.from_drew {ρ ρ' : Rho} {h h' : Hp} {w w' : World} {st st' : St} {n : Nat} (p : Post ρ h { w with drawn := n } st ρ' h' w' st') : Post ρ h w st ρ' h' w' st' :=
  ⟨p.ext, p.new, p.heap, p.hr, p.agree, p.le, p.os, p.tape, p.output, p.size, p.frame, p.out, p.fzn, p.idle⟩

/- ### reading -/
theorem Holds.read {ρ : Rho} {w : World} {B o r : Nat} {ro : Bool} {cs l : List AV} {off n : Nat} (h : Holds ρ w B o r ro cs) (e : readL cs off n = some l) :
    ∃ vs, Rels ρ l vs ∧ vs.length = n ∧ ∀ (P : Program), (loadCells ⟨B, o + off, none⟩ n).run P w = .ok vs.toArray w := by
  obtain ⟨hle, rfl⟩ := readL_some e
  obtain ⟨vs, hr, hc, _⟩ := h.vals
  have hl := hr.length
  refine ⟨(vs.drop off).take n, (hr.drop off).take n, by simp; omega, fun P => ?_⟩
  have := run_loadCells_list (P := P) w ⟨B, o + off, none⟩ ((vs.drop off).take n) (fun j v hj => by
    rw [Addr.add_lit, Nat.add_assoc]
    apply hc
    rw [List.getElem?_take] at hj
    split at hj
    · rwa [List.getElem?_drop] at hj
    · cases hj)
  rw [show ((vs.drop off).take n).length = n by simp; omega] at this
  exact this
theorem Holds.cellAt {ρ : Rho} {w : World} {B o r : Nat} {ro : Bool} {cs : List AV} {i : Nat} {a : AV} (h : Holds ρ w B o r ro cs) (e : cs[i]? = some a) : ∃ v, w.cell? ⟨B, o + i, none⟩ = some v ∧ Rel ρ a v := by
  obtain ⟨vs, hr, hc, _⟩ := h.vals
  obtain ⟨v, h1, h2⟩ := hr.get i a e
  exact ⟨v, hc i v h1, h2⟩
/-- Memory that nobody writes. -/
theorem HR.frozen_read {ρ : Rho} {h : Hp} {w : World} (hr : HR ρ h w) {B o : Nat} {vs : List Value} (hf : ∀ (j : Nat) (u : Value), vs[j]? = some u → ρ.fz B (o + j) = some u) (P : Program) : (loadCells ⟨B, o, none⟩ vs.length).run P w = .ok vs.toArray w :=
  run_loadCells_list (P := P) w ⟨B, o, none⟩ vs (fun j v hj => by rw [Addr.add_lit]; exact hr.fzh _ _ _ (hf j v hj))

/- ### one block changed or made -/
theorem Holds.move {ρ ρ' : Rho} (hle : ρ.le ρ') {w w' : World} {B o r : Nat} {ro : Bool} {cs : List AV} (h : Holds ρ w B o r ro cs) (hsz : w.heap.size ≤ w'.heap.size) (hb : r = 0 ∨ w'.heap[B]? = w.heap[B]?) (hfz : ∀ (B o : Nat) (v : Value), ρ'.fz B o = some v → w'.cell? ⟨B, o, none⟩ = some v) : Holds ρ' w' B o r ro cs where
  fit := h.fit
  lt := fun hr => Nat.lt_of_lt_of_le (h.lt hr) hsz
  vals := by
    obtain ⟨vs, h1, h2, h3⟩ := h.vals
    refine ⟨vs, Rels.mono hle _ _ h1, fun i v e => ?_, fun hro i v e => hle.2 _ _ _ (h3 hro i v e)⟩
    rcases hb with rfl | hb
    · have := h1.length
      have hf := h.fit
      have : vs = [] := by apply List.eq_nil_of_length_eq_zero; omega
      subst this; simp at e
    · rw [World.cell?_of_block (w := w) (by exact hb)]; exact h2 i v e
  there := fun j hj => by
    rcases hb with rfl | hb
    · omega
    · rw [World.cell?_of_block (w := w) (by exact hb)]; exact h.there j hj
  free := fun e h0 j => by
    rcases hb with rfl | hb
    · exact absurd rfl h0
    · rw [World.frozen?_of_block (w := w) (by exact hb)]; exact h.free e h0 j
theorem cell_lt {w : World} {B o : Nat} {v : Value} (h : w.cell? ⟨B, o, none⟩ = some v) : B < w.heap.size := by
  rcases Nat.lt_or_ge B w.heap.size with h1 | h1
  · exact h1
  · have hn : w.heap[B]? = none := Array.getElem?_eq_none h1
    exfalso
    simp [World.cell?, hn] at h

def Rho.put (ρ : Rho) (n : Nat) (x : Nat × Nat × Nat) : Rho := { at_ := fun i => if i = n then some x else ρ i, fz := ρ.fz }
theorem Rho.put_same (ρ : Rho) (n : Nat) (x : Nat × Nat × Nat) : (ρ.put n x) n = some x := by simp [Rho.put]
theorem Rho.put_other (ρ : Rho) {n i : Nat} (x : Nat × Nat × Nat) (h : i ≠ n) : (ρ.put n x) i = ρ i := by simp [Rho.put, h]
theorem Rho.put_le {ρ : Rho} {n : Nat} {x : Nat × Nat × Nat} (h : ρ n = none ∨ ρ n = some x) : ρ.le (ρ.put n x) := by
  refine ⟨fun i y e => ?_, fun B o v e => e⟩
  by_cases hi : i = n
  · subst hi
    rw [Rho.put_same]
    rcases h with h | h <;> rw [h] at e <;> cases e
    rfl
  · rw [Rho.put_other _ _ hi]; exact e

/-- One number stands for what is there now; other ones stay, or are given up. -/
theorem post1 {ρ : Rho} {h : Hp} {w w' : World} {st st' : St} (hr : HR ρ h w) (ha : Agree st h) (hf : Fresh ρ st st') {n B0 o0 r0 : Nat} {x0 : Ent}
    (hn : (ρ n = none ∧ st.length ≤ n) ∨ ρ n = some (B0, o0, r0)) (hnl : n < st'.length) (hx : st'[n]? = some x0) (hle : st.length ≤ st'.length)
    (hold : ∀ i, i < st.length → i ≠ n → st'[i]? = st[i]? ∨ (st'[i]? = some .dead ∧ ρ i ≠ none))
    (hH : ∀ ro cs, x0.view = some (ro, cs) → Holds (ρ.put n (B0, o0, r0)) w' B0 o0 r0 ro cs)
    (hex : r0 ≠ 0 → ∀ i o r y v, i ≠ n → ρ i = some (B0, o, r) → r ≠ 0 → upd st' h i = some y → y.view = some v → False)
    (hfz : r0 ≠ 0 → ∀ o, ρ.fz B0 o = none)
    (hw : ∀ B, B < w.heap.size → (B ≠ B0 ∨ r0 = 0) → w'.heap[B]? = w.heap[B]?) (hsz : w.heap.size ≤ w'.heap.size)
    (hos : w'.os = w.os) (htape : w'.tape = w.tape) (hout : w'.output = w.output)
    (hfree : r0 ≠ 0 → ∀ B, B < w.heap.size → Free ρ h B → B ≠ B0) : Post ρ h w st (ρ.put n (B0, o0, r0)) (upd st' h) w' st' := by
  have hρle : ρ.le (ρ.put n (B0, o0, r0)) := Rho.put_le (hn.imp (fun h => h.1) id)
  have hfz' : ∀ (B o : Nat) (v : Value), (ρ.put n (B0, o0, r0)).fz B o = some v → w'.cell? ⟨B, o, none⟩ = some v := fun B o v e => by
    have e' : ρ.fz B o = some v := e
    have hc := hr.fzh B o v e'
    rw [World.cell?_of_block (w := w)]
    · exact hc
    · refine hw B (cell_lt hc) ?_
      by_cases h0 : r0 = 0
      · exact .inr h0
      · refine .inl (fun eB => ?_)
        subst eB
        rw [hfz h0 o] at e'; cases e'
  -- what stands behind a number that is not n
  have hother : ∀ i x, i ≠ n → ρ i ≠ none → upd st' h i = some x → x = .dead ∨ h i = some x := fun i x hi hρ hx' => by
    unfold upd at hx'
    split at hx'
    · rename_i hlt
      rcases Nat.lt_or_ge i st.length with h1 | h1
      · rcases hold i h1 hi with h2 | ⟨h2, _⟩
        · right; rw [ha i h1, ← h2]; exact hx'
        · left; rw [h2] at hx'; cases hx'; rfl
      · exact absurd (hf i h1 hlt) hρ
    · exact .inr hx'
  have hupd : upd st' h n = some x0 := by rw [upd_lt hnl]; exact hx
  have hframe : ∀ B, B < w.heap.size → Free ρ h B → w'.heap[B]? = w.heap[B]? ∧ Free (ρ.put n (B0, o0, r0)) (upd st' h) B := fun B hB hF => by
    refine ⟨?_, ?_⟩
    · refine hw B hB ?_
      by_cases h0 : r0 = 0
      · exact .inr h0
      · exact .inl (hfree h0 B hB hF)
    intro id o r x cs h1 h2 h3 h4
    by_cases hi : id = n
    · subst hi
      rw [Rho.put_same] at h1; cases h1
      exact hfree h2 _ hB hF rfl
    · rw [Rho.put_other _ _ hi] at h1
      rcases hother id x hi (by rw [h1]; simp) h3 with rfl | h3'
      · simp [Ent.view] at h4
      · exact hF id o r x cs h1 h2 h3' h4
  refine ⟨hρle, fun id e => ?_, rfl, ⟨?_, ?_, hfz', ?_, ?_, hr.globs hframe⟩, upd_agree _ _, hle, hos, htape, hout, hsz, ?_, ?_, fun B o v e => .inl e, fun id hid hρ => ?_⟩
  · by_cases hi : id = n
    · subst hi
      rcases hn with ⟨h1, h2⟩ | h1
      · exact ⟨h2, hnl⟩
      · rw [Rho.put_same, h1] at e; exact absurd rfl e
    · rw [Rho.put_other _ _ hi] at e; exact absurd rfl e
  · intro id B o r x ro cs h1 h2 h3
    by_cases hi : id = n
    · subst hi
      rw [Rho.put_same] at h1; cases h1
      rw [hupd] at h2; cases h2
      exact hH ro cs h3
    · rw [Rho.put_other _ _ hi] at h1
      rcases hother id x hi (by rw [h1]; simp) h2 with rfl | h2'
      · simp [Ent.view] at h3
      · have H := hr.cell id B o r x ro cs h1 h2' h3
        refine H.move hρle hsz ?_ hfz'
        by_cases hr0 : r = 0
        · exact .inl hr0
        · refine .inr (hw B (H.lt hr0) ?_)
          by_cases h0 : r0 = 0
          · exact .inr h0
          · refine .inl (fun eB => ?_)
            subst eB
            exact hex h0 id o r x _ hi h1 hr0 h2 h3
  · intro i j B o r o' r' x y ro ro' cs cs' hij h1 h2 h3 h4 h5 h6 h7 h8 h9
    by_cases hi : i = n
    · subst hi
      rw [Rho.put_same] at h1; cases h1
      rw [Rho.put_other _ _ (fun e => hij e.symm)] at h2
      exact hex h3 j o' r' y _ (fun e => hij e.symm) h2 h4 h6 h8
    · rw [Rho.put_other _ _ hi] at h1
      by_cases hj : j = n
      · subst hj
        rw [Rho.put_same] at h2; cases h2
        exact hex h4 i o r x _ hi h1 h3 h5 h7
      · rw [Rho.put_other _ _ hj] at h2
        rcases hother i x hi (by rw [h1]; simp) h5 with rfl | h5'
        · simp [Ent.view] at h7
        · rcases hother j y hj (by rw [h2]; simp) h6 with rfl | h6'
          · simp [Ent.view] at h8
          · exact hr.apart i j B o r o' r' x y ro ro' cs cs' hij h1 h2 h3 h4 h5' h6' h7 h8 h9
  · intro B o v e id o' r' x cs h1 h2 h3 h4
    have e' : ρ.fz B o = some v := e
    by_cases hi : id = n
    · subst hi
      rw [Rho.put_same] at h1; cases h1
      rw [hfz h2 o] at e'; cases e'
    · rw [Rho.put_other _ _ hi] at h1
      rcases hother id x hi (by rw [h1]; simp) h3 with rfl | h3'
      · simp [Ent.view] at h4
      · exact hr.fza B o v e' id o' r' x cs h1 h2 h3' h4
  · intro i hi
    by_cases hin : i = n
    · subst hin; rw [hupd]; simp
    · rw [Rho.put_other _ _ hin] at hi
      unfold upd
      split
      · rename_i hlt
        rw [List.getElem?_eq_getElem hlt]; simp
      · exact hr.ent i hi
  · exact hframe
  · intro B hB hF id o r x v h1 h2 h3 h4
    by_cases hi : id = n
    · subst hi
      rw [Rho.put_same] at h1; cases h1
      exact hfree h2 _ hB hF.free rfl
    · rw [Rho.put_other _ _ hi] at h1
      rcases hother id x hi (by rw [h1]; simp) h3 with rfl | h3'
      · simp [Ent.view] at h4
      · exact hF id o r x v h1 h2 h3' h4
  · by_cases hi : id = n
    · subst hi
      rcases hn with ⟨h1, h2⟩ | h1
      · omega
      · rw [h1] at hρ; cases hρ
    · rcases hold id hid hi with h2 | ⟨h2, h3⟩
      · exact h2
      · exact absurd hρ h3

/- ### blocks that are not written any more -/
theorem freezeE_view (x : Ent) {ro : Bool} {cs : List AV} (h : (freezeE x).view = some (ro, cs)) : ro = true ∧ ∃ ro', x.view = some (ro', cs) := by
  cases x with
  | cells => simp [freezeE, Ent.view] at h
  | dead => simp [freezeE, Ent.view] at h
  | tbl r e l => simp [freezeE, Ent.view] at h; exact ⟨h.1.symm ▸ rfl, r, by simp [Ent.view, h.2]⟩

theorem freeze1_post {ρ : Rho} {h : Hp} {w : World} {st : St} (hr : HR ρ h w) (ha : Agree st h) {b B o r : Nat} {x : Ent} {ro : Bool} {cs : List AV}
    (hb : st[b]? = some x) (hρ : ρ b = some (B, o, r)) (hv : x.view = some (ro, cs)) :
    ∃ ρ', Post ρ h w st ρ' (upd (st.set b (freezeE x)) h) w (st.set b (freezeE x)) ∧ ∃ vs, Rels ρ' cs vs ∧ ∀ (i : Nat) (v : Value), vs[i]? = some v → ρ'.fz B (o + i) = some v := by
  have hbl : b < st.length := (List.getElem?_eq_some_iff.1 hb).1
  have hhb : h b = some x := by rw [ha b hbl]; exact hb
  have H := hr.cell b B o r x ro cs hρ hhb hv
  obtain ⟨vs, hv1, hv2, hv3⟩ := H.vals
  have hlen := hv1.length
  have hfit := H.fit
  -- what is frozen now
  obtain ⟨ρ', hρ'⟩ : ∃ ρ' : Rho, ρ' = { at_ := ρ.at_, fz := fun B' o' => if B' = B ∧ o ≤ o' ∧ o' - o < vs.length then vs[o' - o]? else ρ.fz B' o' } := ⟨_, rfl⟩
  have hat : ∀ i, ρ' i = ρ i := fun i => by rw [hρ']
  have hfzin : ∀ (i : Nat) (v : Value), vs[i]? = some v → ρ'.fz B (o + i) = some v := fun i v e => by
    rw [hρ']
    simp only [Nat.add_sub_cancel_left, Nat.le_add_right, true_and]
    rw [if_pos (List.getElem?_eq_some_iff.1 e).1]
    exact e
  have hfzcase : ∀ (B' o' : Nat) (v : Value), ρ'.fz B' o' = some v → (B' = B ∧ ∃ i, o' = o + i ∧ vs[i]? = some v) ∨ ρ.fz B' o' = some v := fun B' o' v e => by
    rw [hρ'] at e
    simp only at e
    split at e
    · rename_i hc
      exact .inl ⟨hc.1, o' - o, by omega, e⟩
    · exact .inr e
  have hle : ρ.le ρ' := ⟨fun i y e => by rw [hat]; exact e, fun B' o' v e => by
    rw [hρ']
    simp only
    split
    · rename_i hc
      obtain ⟨rfl, h1, h2⟩ := hc
      have hc1 := hr.fzh _ _ _ e
      have hg : vs[o' - o]? = some vs[o' - o] := List.getElem?_eq_getElem h2
      have hc2 := hv2 (o' - o) _ hg
      rw [show o + (o' - o) = o' by omega, hc1] at hc2
      rw [hg, Option.some.injEq]
      exact (Option.some.inj hc2).symm
    · exact e⟩
  have hfzh : ∀ (B' o' : Nat) (v : Value), ρ'.fz B' o' = some v → w.cell? ⟨B', o', none⟩ = some v := fun B' o' v e => by
    rcases hfzcase B' o' v e with ⟨rfl, i, rfl, hi⟩ | e
    · exact hv2 i v hi
    · exact hr.fzh _ _ _ e
  have hget : ∀ id, upd (st.set b (freezeE x)) h id = if id = b then some (freezeE x) else h id := fun id => by
    unfold upd
    rw [List.length_set]
    split
    · rename_i hlt
      rw [List.getElem?_set]
      by_cases e : b = id
      · subst e; simp [hlt]
      · rw [if_neg e, if_neg (fun e' => e e'.symm)]; exact (ha id hlt).symm
    · rename_i hge
      rw [if_neg (by omega)]
  have hviews : ∀ id y ro' cs', upd (st.set b (freezeE x)) h id = some y → y.view = some (ro', cs') → (id = b ∧ ro' = true) ∨ (id ≠ b ∧ h id = some y) := fun id y ro' cs' e1 e2 => by
    rw [hget] at e1
    split at e1
    · rename_i hid
      cases e1
      exact .inl ⟨hid, (freezeE_view x e2).1⟩
    · rename_i hid
      exact .inr ⟨hid, e1⟩
  have hframe : ∀ B', B' < w.heap.size → Free ρ h B' → w.heap[B']? = w.heap[B']? ∧ Free ρ' (upd (st.set b (freezeE x)) h) B' := fun B' hB' hF => ⟨rfl, by
    intro id o1 r1 y cs1 h1 h2 h3 h4
    rw [hat] at h1
    rcases hviews id y _ _ h3 h4 with ⟨rfl, h5⟩ | ⟨hid, h3'⟩
    · cases h5
    · exact hF id o1 r1 y cs1 h1 h2 h3' h4⟩
  refine ⟨ρ', ⟨hle, fun id e => absurd (hat id) e, rfl, ⟨?_, ?_, hfzh, ?_, ?_, hr.globs hframe⟩, upd_agree _ _, by simp, rfl, rfl, rfl, Nat.le_refl _, hframe, ?_, ?_, fun id hid hρ0 => ?_⟩, vs, Rels.mono hle _ _ hv1, hfzin⟩
  · intro id B' o' r' y ro' cs' h1 h2 h3
    rw [hat] at h1
    rw [hget] at h2
    split at h2
    · rename_i hid
      subst hid
      cases h2
      rw [hρ] at h1; cases h1
      obtain ⟨rfl, ro1, hv'⟩ := freezeE_view x h3
      rw [hv] at hv'; cases hv'
      exact ⟨H.fit, H.lt, ⟨vs, Rels.mono hle _ _ hv1, hv2, fun _ i v e => hfzin i v e⟩, H.there, fun e => by cases e⟩
    · exact (hr.cell id B' o' r' y ro' cs' h1 h2 h3).move hle (Nat.le_refl _) (.inr rfl) hfzh
  · intro i j B' o1 r1 o2 r2 y z ro1 ro2 cs1 cs2 hij h1 h2 h3 h4 h5 h6 h7 h8 h9
    rw [hat] at h1 h2
    rcases hviews i y _ _ h5 h7 with ⟨rfl, rfl⟩ | ⟨hi, h5'⟩
    · rcases hviews j z _ _ h6 h8 with ⟨rfl, rfl⟩ | ⟨hj, h6'⟩
      · exact hij rfl
      · rcases h9 with h9 | h9
        · cases h9
        · exact hr.apart i j B' o1 r1 o2 r2 x z ro ro2 cs cs2 hij h1 h2 h3 h4 hhb h6' hv h8 (.inr h9)
    · rcases hviews j z _ _ h6 h8 with ⟨rfl, rfl⟩ | ⟨hj, h6'⟩
      · rcases h9 with h9 | h9
        · exact hr.apart i j B' o1 r1 o2 r2 y x ro1 ro cs1 cs hij h1 h2 h3 h4 h5' hhb h7 hv (.inl h9)
        · cases h9
      · exact hr.apart i j B' o1 r1 o2 r2 y z ro1 ro2 cs1 cs2 hij h1 h2 h3 h4 h5' h6' h7 h8 h9
  · intro B' o' v e id o1 r1 y cs1 h1 h2 h3 h4
    rw [hat] at h1
    rcases hviews id y _ _ h3 h4 with ⟨rfl, h5⟩ | ⟨hid, h3'⟩
    · cases h5
    · rcases hfzcase B' o' v e with ⟨rfl, i, rfl, hi⟩ | e
      · have hr0 : r ≠ 0 := fun e => by
          have := (List.getElem?_eq_some_iff.1 hi).1
          omega
        exact hr.apart id b B' o1 r1 o r y x false ro cs1 cs hid h1 hρ h2 hr0 h3' hhb h4 hv (.inl rfl)
      · exact hr.fza _ _ _ e id o1 r1 y cs1 h1 h2 h3' h4
  · intro i hi
    rw [hget]
    split
    · simp
    · exact hr.ent i (by rw [← hat]; exact hi)
  · intro B' hB' hF id o1 r1 y v h1 h2 h3 h4
    rw [hat] at h1
    obtain ⟨ro1, cs1⟩ := v
    rcases hviews id y _ _ h3 h4 with ⟨rfl, h5⟩ | ⟨hid, h3'⟩
    · exact hF id o1 r1 x _ h1 h2 hhb hv
    · exact hF id o1 r1 y _ h1 h2 h3' h4
  · intro B' o' v e
    rcases hfzcase B' o' v e with ⟨rfl, i, rfl, hi⟩ | e
    · refine .inr (.inr (fun hF => ?_))
      have hr0 : r ≠ 0 := fun e => by
        have := (List.getElem?_eq_some_iff.1 hi).1
        omega
      exact hF b o r x _ hρ hr0 hhb hv
    · exact .inl e
  · rw [List.getElem?_set]
    split
    · rename_i e; subst e; rw [hρ] at hρ0; cases hρ0
    · rfl
end Go.Sy

/- Writes and new blocks; reads. -/
set_option linter.unusedSimpArgs false
set_option linter.unusedVariables false
namespace Go.Sy
open Go

/- ### the real side of a write -/
theorem setCells_heap_other (b : Nat) : ∀ (vs : List Value) (o : Nat) (w : World) (k : Nat), k ≠ b → (w.setCells b o vs).heap[k]? = w.heap[k]?
  | [], _, _, _, _ => rfl
  | v :: r, o, w, k, h => by
    rw [World.setCells, setCells_heap_other b r _ _ _ h]
    simp only [World.setCell, Array.getElem?_modify]
    rw [if_neg (fun e => h e.symm)]
theorem setCells_size (b : Nat) : ∀ (vs : List Value) (o : Nat) (w : World), (w.setCells b o vs).heap.size = w.heap.size
  | [], _, _ => rfl
  | v :: r, o, w => by rw [World.setCells, setCells_size b r]; simp
theorem setCells_env (b : Nat) : ∀ (vs : List Value) (o : Nat) (w : World), (w.setCells b o vs).os = w.os ∧ (w.setCells b o vs).tape = w.tape ∧ (w.setCells b o vs).output = w.output
  | [], _, _ => ⟨rfl, rfl, rfl⟩
  | v :: r, o, w => by rw [World.setCells]; exact setCells_env b r _ _
theorem setCells_isSome (b : Nat) : ∀ (vs : List Value) (o : Nat) (w : World) (x : Addr), (w.cell? x).isSome = true → ((w.setCells b o vs).cell? x).isSome = true
  | [], _, _, _, h => h
  | v :: r, o, w, x, h => by
    rw [World.setCells]
    refine setCells_isSome b r _ _ _ ?_
    by_cases e : (⟨b, o, none⟩ : Addr) = x
    · subst e
      obtain ⟨u, hu⟩ := Option.isSome_iff_exists.1 h
      rw [World.cell?_setCell_same _ _ _ hu]; rfl
    · rw [World.cell?_setCell_other _ _ _ _ e]; exact h


theorem writeV_length (us vs : List Value) (off : Nat) (h : off + vs.length ≤ us.length) : (writeV us off vs).length = us.length := by
  simp [writeV]; omega
/-- Some of a block's cells are written anew. -/
theorem Holds.written {ρ : Rho} {w : World} {B o r : Nat} {cs cs' : List AV} {vs : List Value} {off : Nat} (h : Holds ρ w B o r false cs) (hfit : off + vs.length ≤ cs.length) (hlen : cs'.length = cs.length) (hv : ∀ us, Rels ρ cs us → Rels ρ cs' (writeV us off vs)) :
    Holds ρ (w.setCells B (o + off) vs) B o r false cs' where
  fit := by rw [hlen]; exact h.fit
  lt := by rw [setCells_size]; exact h.lt
  vals := by
    obtain ⟨us, h1, h2, _⟩ := h.vals
    have hl := h1.length
    have hfr := h.fit
    refine ⟨writeV us off vs, hv us h1, fun i v e => ?_, fun e => by cases e⟩
    unfold writeV at e
    by_cases hi1 : i < off
    · rw [List.getElem?_append_left (by simp; omega), List.getElem?_take, if_pos hi1] at e
      rw [World.cell?_setCells_out _ _ _ _ _ (fun _ _ => by left; simp; omega)]
      exact h2 i v e
    · rw [List.getElem?_append_right (by simp; omega)] at e
      by_cases hi2 : i < off + vs.length
      · rw [List.getElem?_append_left (by simp; omega)] at e
        have hidx : i - (List.take off us).length = i - off := by simp; omega
        rw [hidx] at e
        have hj : i - off < vs.length := by omega
        have := World.cell?_setCells_in B vs (o + off) w (fun j hj' => by rw [show o + off + j = o + (off + j) by omega]; exact h.there (off + j) (by omega)) (i - off) hj
        rw [show o + off + (i - off) = o + i by omega] at this
        rw [this]
        rw [List.getElem?_eq_getElem hj] at e
        exact e
      · rw [List.getElem?_append_right (by simp; omega), List.getElem?_drop] at e
        rw [World.cell?_setCells_out _ _ _ _ _ (fun _ _ => by right; simp; omega)]
        refine h2 i v ?_
        rw [← e]; congr 1; simp; omega
  there := fun j hj => setCells_isSome _ _ _ _ _ (h.there j hj)
  free := fun e h0 j => by rw [World.frozen?_setCells]; exact h.free e h0 j
/-- Behind the cells of a block others are written: they belong to it now; the first ones are left off. -/
theorem Holds.extended {ρ : Rho} {w : World} {B o r : Nat} {ro : Bool} {cs as : List AV} {vs : List Value} {off n : Nat} (h : Holds ρ w B o r ro cs) (hro : ro = false) (hlen : as.length = n + vs.length) (hv : ∀ us, Rels ρ cs us → Rels ρ as ((us.drop off).take n ++ vs)) (hn : off + n ≤ cs.length) (hfit : off + n + vs.length ≤ r) :
    Holds ρ (w.setCells B (o + (off + n)) vs) B (o + off) (r - off) false as where
  fit := by omega
  lt := fun hr => by rw [setCells_size]; exact h.lt (by omega)
  vals := by
    obtain ⟨us, h1, h2, _⟩ := h.vals
    have hl := h1.length
    refine ⟨(us.drop off).take n ++ vs, hv us h1, fun i v e => ?_, fun e => by cases e⟩
    by_cases hi1 : i < n
    · rw [List.getElem?_append_left (by simp; omega), List.getElem?_take, if_pos hi1, List.getElem?_drop] at e
      rw [World.cell?_setCells_out _ _ _ _ _ (fun _ _ => by left; simp; omega)]
      rw [Nat.add_assoc]
      exact h2 _ v e
    · rw [List.getElem?_append_right (by simp; omega)] at e
      have hlen : ((us.drop off).take n).length = n := by simp; omega
      rw [hlen] at e
      have hj : i - n < vs.length := (List.getElem?_eq_some_iff.1 e).1
      have := World.cell?_setCells_in B vs (o + (off + n)) w (fun j hj' => by rw [show o + (off + n) + j = o + (off + n + j) by omega]; exact h.there _ (by omega)) (i - n) hj
      rw [show o + (off + n) + (i - n) = o + off + i by omega] at this
      rw [this]
      rw [List.getElem?_eq_getElem hj] at e
      exact e
  there := fun j hj => setCells_isSome _ _ _ _ _ (by rw [Nat.add_assoc]; exact h.there _ (by omega))
  free := fun e h0 j => by rw [World.frozen?_setCells]; exact h.free hro (by omega) j
/-- A new block. -/
theorem Holds.fresh {ρ : Rho} {w : World} {cs : List AV} {vs rest : List Value} {e : TypeId} (hrel : Rels ρ cs vs) : Holds ρ (w.alloc (.cells (vs ++ rest).toArray e)) w.heap.size 0 (vs.length + rest.length) false cs where
  fit := by rw [hrel.length]; omega
  lt := fun _ => by simp
  vals := ⟨vs, hrel, fun i v ev => by
    rw [World.cell?_alloc_new]
    simp only [Nat.zero_add, List.getElem?_toArray]
    rw [List.getElem?_append_left (List.getElem?_eq_some_iff.1 ev).1]
    exact ev, fun e => by cases e⟩
  there := fun j hj => by
    rw [World.cell?_alloc_new]
    simp only [Nat.zero_add, List.getElem?_toArray]
    rw [List.getElem?_eq_getElem (by simp; omega)]
    rfl
  free := fun _ _ j => World.frozen?_alloc_new _ _ _ _
theorem Holds.nothing {ρ : Rho} {w : World} {B o : Nat} : Holds ρ w B o 0 false [] where
  fit := Nat.le_refl _
  lt := fun h => absurd rfl h
  vals := ⟨[], Rels.nil, fun i v e => by simp at e, fun e => by cases e⟩
  there := fun j hj => by omega
  free := fun _ h0 j => absurd rfl h0
theorem Holds.mono {ρ ρ' : Rho} (hle : ρ.le ρ') {w : World} {B o r : Nat} {cs : List AV} (h : Holds ρ w B o r false cs) : Holds ρ' w B o r false cs where
  fit := h.fit
  lt := h.lt
  vals := by
    obtain ⟨vs, h1, h2, _⟩ := h.vals
    exact ⟨vs, Rels.mono hle _ _ h1, h2, fun e => by cases e⟩
  there := h.there
  free := h.free

theorem Rho.put_self {ρ : Rho} {n : Nat} {x : Nat × Nat × Nat} (h : ρ n = some x) : ρ.put n x = ρ := by
  unfold Rho.put
  have : (fun i => if i = n then some x else ρ i) = ρ.at_ := by
    funext i
    split
    · rename_i e; subst e; exact h.symm
    · rfl
  rw [this]

section
variable {P : Program} {ρ : Rho} {h : Hp} {w : World} {st : St}
/-- What else stands in a block that may be written. -/
theorem HR.alone (hr : HR ρ h w) {b B o r : Nat} {x : Ent} {cs : List AV} (hρ : ρ b = some (B, o, r)) (hb : h b = some x) (hv : x.view = some (false, cs)) (h0 : r ≠ 0) :
    (∀ i o' r' y v, i ≠ b → ρ i = some (B, o', r') → r' ≠ 0 → h i = some y → y.view = some v → False) ∧ (∀ o', ρ.fz B o' = none) ∧ ∀ B', Free ρ h B' → B' ≠ B := by
  refine ⟨fun i o' r' y v hi h1 h2 h3 h4 => ?_, fun o' => ?_, fun B' hF e => ?_⟩
  · obtain ⟨ro, cs'⟩ := v
    exact hr.apart i b B o' r' o r y x ro false cs' cs hi h1 hρ h2 h0 h3 hb h4 hv (.inr rfl)
  · cases e : ρ.fz B o' with
    | none => rfl
    | some v => exact (hr.fza B o' v e b o r x cs hρ h0 hb hv).elim
  · subst e; exact hF b o r x cs hρ h0 hb hv

theorem write_post (hr : HR ρ h w) (ha : Agree st h) {b off B o r : Nat} {x x' : Ent} {cs cs' : List AV} {vs : List Value} (hb : st[b]? = some x) (hv : x.view = some (false, cs)) (hρ : ρ b = some (B, o, r))
    (hfit : off + vs.length ≤ cs.length) (hone : ∀ v ∈ vs, v.oneCell' = true) (hlen : cs'.length = cs.length) (hrel : ∀ us, Rels ρ cs us → Rels ρ cs' (writeV us off vs)) (hx' : x'.view = some (false, cs')) :
    (storeCells ⟨B, o + off, none⟩ vs).run P w = .ok () (w.setCells B (o + off) vs) ∧ Post ρ h w st ρ (upd (st.set b x') h) (w.setCells B (o + off) vs) (st.set b x') := by
  have hbl : b < st.length := (List.getElem?_eq_some_iff.1 hb).1
  have hhb : h b = some x := by rw [ha b hbl]; exact hb
  have H := hr.cell b B o r x false cs hρ hhb hv
  have hHf := H.fit
  have henv := setCells_env B vs (o + off) w
  constructor
  · have := run_storeCells_cells (P := P) B (o + off) vs 0 w
      (fun j hj => by rw [show o + off + 0 + j = o + (off + j) by omega]; exact H.there _ (by omega))
      (fun j hj => by rw [show o + off + 0 + j = o + (off + j) by omega]; exact H.free rfl (by have := H.fit; omega) _)
      hone
    simpa using this
  · have hp := post1 (st' := st.set b x') (w' := w.setCells B (o + off) vs) (n := b) (B0 := B) (o0 := o) (r0 := r) (x0 := x') hr ha (fun id h1 h2 => by rw [List.length_set] at h2; omega) (.inr hρ) (by simpa using hbl) (by rw [List.getElem?_set_self hbl]) (by simp)
      (fun i hi hib => .inl (by rw [List.getElem?_set_ne (fun e => hib e.symm)]))
      (fun ro cs' e => by rw [hx'] at e; cases e; rw [Rho.put_self hρ]; exact H.written hfit hlen hrel)
      (fun h0 i o' r' y v hi h1 h2 h3 h4 => by
        have hy : h i = some y := by
          unfold upd at h3
          rw [List.length_set] at h3
          split at h3
          · rename_i hlt
            rw [List.getElem?_set_ne (fun e => hi e.symm)] at h3
            rw [ha i hlt]; exact h3
          · exact h3
        exact (hr.alone hρ hhb hv h0).1 i o' r' y v hi h1 h2 hy h4)
      (fun h0 => (hr.alone hρ hhb hv h0).2.1)
      (fun B' hB hne => by
        rcases hne with hne | h0
        · exact setCells_heap_other _ _ _ _ _ hne
        · have : vs = [] := by apply List.eq_nil_of_length_eq_zero; omega
          subst this; rfl)
      (by rw [setCells_size]; exact Nat.le_refl _) henv.1 henv.2.1 henv.2.2
      (fun h0 B' hB hF => (hr.alone hρ hhb hv h0).2.2 B' hF)
    rw [Rho.put_self hρ] at hp
    exact hp

/-- A new block. -/
theorem new_post (hr : HR ρ h w) (ha : Agree st h) {x : Ent} {cs : List AV} {vs rest : List Value} {ty : TypeId} (hf : Fresh ρ st (st ++ [x])) (hx : x.view = some (false, cs)) (hrel : Rels ρ cs vs) :
    Post ρ h w st (ρ.put st.length (w.heap.size, 0, vs.length + rest.length)) (upd (st ++ [x]) h) (w.alloc (.cells (vs ++ rest).toArray ty)) (st ++ [x]) := by
  have hρn : ρ st.length = none := hf _ (Nat.le_refl _) (by simp)
  have hle : ρ.le (ρ.put st.length (w.heap.size, 0, vs.length + rest.length)) := Rho.put_le (.inl hρn)
  have hcell : ∀ o, w.cell? ⟨w.heap.size, o, none⟩ = none := fun o => by
    cases e : w.cell? ⟨w.heap.size, o, none⟩ with
    | none => rfl
    | some v => have := cell_lt e; omega
  refine post1 (x0 := x) hr ha hf (.inl ⟨hρn, Nat.le_refl _⟩) (by simp) (by simp) (by simp) (fun i hi hne => .inl (by rw [List.getElem?_append_left hi]))
    (fun ro cs' e => by rw [hx] at e; cases e; exact Holds.fresh (Rels.mono hle _ _ hrel))
    (fun h0 i o r y v hi h1 h2 h3 h4 => ?_) (fun _ o => ?_) (fun B hB _ => heap_alloc_old w _ _ hB) (by simp) rfl rfl rfl (fun _ B hB _ => by omega)
  · have hy : h i = some y := by
      unfold upd at h3
      split at h3
      · rename_i hlt
        simp only [List.length_append, List.length_cons, List.length_nil] at hlt
        have hil : i < st.length := by omega
        rw [List.getElem?_append_left hil] at h3
        rw [ha i hil]; exact h3
      · exact h3
    obtain ⟨ro, cs'⟩ := v
    have := (hr.cell i _ o r y ro cs' h1 hy h4).lt h2
    omega
  · cases e : ρ.fz w.heap.size o with
    | none => rfl
    | some v => have := hr.fzh _ _ _ e; rw [hcell] at this; cases this

/- ### reads -/
theorem made_bytes : ∀ (l : List AV) (acc : List UInt8) (v : AV), madeB l acc = some v → ∃ ns : List Int, l = ns.map (AV.int .u8) ∧ v = .str (acc.reverse ++ ns.map fun n => UInt8.ofNat n.toNat)
  | [], acc, v, e => by simp only [madeB] at e; cases e; exact ⟨[], rfl, by simp⟩
  | x :: r, acc, v, e => by
    cases x with
    | int k n =>
      cases k <;> simp only [madeB] at e <;> first | cases e | skip
      obtain ⟨ns, h1, h2⟩ := made_bytes r _ v e
      exact ⟨n :: ns, by simp [h1], by simp [h2]⟩
    | _ => simp only [madeB] at e; cases e
theorem rels_ints {ns : List Int} {vs : List Value} (h : Rels ρ (ns.map (AV.int .u8)) vs) : vs = ns.map (Value.int .u8) := by
  induction ns generalizing vs with
  | nil => simpa [Rels] using h
  | cons n ns ih =>
    simp only [List.map_cons, Rels, Rel] at h
    obtain ⟨v, vs', rfl, rfl, h2⟩ := h
    rw [ih h2]; rfl
theorem foldl_push (ns : List Int) : ∀ (b : ByteArray), ns.foldl (fun r n => r.push (UInt8.ofNat n.toNat)) b = ⟨(b.data.toList ++ ns.map fun n => UInt8.ofNat n.toNat).toArray⟩ := by
  induction ns with
  | nil => intro b; simp
  | cons n ns ih =>
    intro b
    rw [List.foldl_cons, ih]
    simp [ByteArray.push]
theorem flat_bytes : ∀ (l : List D), flat (.int .u8) l = (l.map D.asInt).map (AV.int .u8)
  | [] => rfl
  | d :: l => by simp only [flat, expand, flat_bytes l, List.map_cons, List.singleton_append]
theorem bytesD_eq (l : List D) : bytesD l = (l.map D.asInt).map fun n => UInt8.ofNat n.toNat := by simp [bytesD]

/-- A run of bytes as a text. -/
theorem run_conv_bytes {o : Oper} {src dst : TypeId} {x : Operand} {a : Act} {e0 : TypeId} (ho : o.op = .convert src dst x) (hs : P.underlying src = some (.slice e0)) (hd : P.underlying dst = some .string) (he : P.underlying e0 = some (.int .u8))
    {bs : Option Addr} {n c : Nat} {ns : List Int} (hx : a.eval x = .slice bs n c) (hl : match bs with | some p => (loadCells p n).run P w = .ok (ns.map (Value.int .u8)).toArray w | none => n = 0 ∧ ns = []) :
    (execOp a.eval o).run P w = .ok (.value (.string ⟨(ns.map fun n => UInt8.ofNat n.toNat).toArray⟩)) w := by
  obtain ⟨ds, op, type, pos, after, guard⟩ := o
  simp only at ho
  subst ho
  have hrun : (Conv.bytesToString (.slice bs n c)).run P w = .ok (.string ⟨(ns.map fun n => UInt8.ofNat n.toNat).toArray⟩) w := by
    cases bs with
    | none =>
      obtain ⟨rfl, rfl⟩ := hl
      rfl
    | some p =>
      rw [run_bytesToString w _ _ _ ns hl, foldl_push]
      simp
  simp only [execOp, Sem.run_bind, hx, run_convert_bytes_string w src dst e0 bs n c hs he hd, hrun, Result.andThen_ok, Sem.run_pure]
end
end Go.Sy

/- Reads: the model carries them out as the symbolic machine says. -/
set_option linter.unusedSimpArgs false
set_option linter.unusedVariables false
namespace Go.Sy
open Go

theorem readL_elem {e : Sh} {l : List D} {i fo n : Nat} {cs : List AV} (hi : i < l.length) (h : readL (expand e (l.getD i .nul)) fo n = some cs) : readL (flat e l) (i * e.size + fo) n = some cs := by
  obtain ⟨hle, rfl⟩ := readL_some h
  rw [expand_length] at hle
  unfold readL
  have hfl := flat_length e l
  have hb : i * e.size + fo + n ≤ (flat e l).length := by
    rw [hfl]
    have : (i + 1) * e.size ≤ l.length * e.size := Nat.mul_le_mul_right _ hi
    rw [Nat.add_mul] at this
    omega
  rw [Nat.ble_eq_true_of_le hb]
  simp only [Option.some.injEq]
  rw [← flat_getD e l i hi, List.drop_take, List.drop_drop, List.take_take, Nat.min_eq_left (by omega)]

section
variable {P : Program} {ρ : Rho} {h : Hp} {w : World} {tmps : List AV} {a : Act}

/-- Of memory that nobody writes. -/
theorem rd_val_sound (hr : HR ρ h w) (htr : TR ρ tmps a.tmps) {o : Oper} {v : AV} (e : readA P tmps o.op = some (.val v)) : ∃ u, (execOp a.eval o).run P w = .ok (.value u) w ∧ Rel ρ v u := by
  obtain ⟨dst, op, type, pos, after, guard⟩ := o
  simp only at e
  unfold readA at e
  split at e
  · rename_i t x
    split at e
    · split at e <;> cases e
    · split at e <;> cases e
    · rename_i sh d hx
      have hrel := ev_sound htr hx
      simp only [Rel] at hrel
      obtain ⟨B, o, vs, hxv, hsh, hfz⟩ := hrel
      have hlen := hsh.length
      have hread := hr.frozen_read hfz P
      split at e
      · rename_i n hg hs
        split at e
        · rename_i hb
          cases e
          have hn := Nat.eq_of_beq_eq_true hb
          rw [hlen, hn] at hread
          refine ⟨.agg vs.toArray, ?_, by simp only [Rel]; exact ⟨vs, rfl, (rels_expand _ _ _).1 hsh⟩⟩
          simp [execOp, Instr.loadAt, hxv, Instr.sureAddr, loadVar, run_isAggA hg, run_sizeA hs, hread]
        · cases e
      · rename_i n hg hs
        split at e
        · rename_i v' hv
          cases e
          have hr1 := (rels_expand _ _ _).1 hsh
          rw [hv] at hr1
          simp only [Rels] at hr1
          obtain ⟨u, us, rfl, hu, rfl⟩ := hr1
          have hc := hr.fzh _ _ _ (hfz 0 u rfl)
          rw [Nat.add_zero] at hc
          refine ⟨u, ?_, hu⟩
          simp [execOp, Instr.loadAt, hxv, Instr.sureAddr, loadVar, run_isAggA hg, hc]
        · cases e
      · cases e
    · cases e
  · rename_i src dst' x
    split at e
    · rename_i e0 hs hd
      split at e
      · cases e
      · rename_i nn l he hx
        cases e
        have hrel := ev_sound htr hx
        simp only [Rel] at hrel
        refine ⟨.string ⟨((l.map D.asInt).map fun n => UInt8.ofNat n.toNat).toArray⟩, ?_, by simp only [Rel, bytesD_eq]⟩
        rcases hrel with ⟨_, rfl, hxv⟩ | ⟨B, o, cap, hxv, hc, hel⟩ | ⟨rfl, ad, c, hxv⟩
        · exact run_conv_bytes (src := src) (dst := dst') (x := x) rfl hs hd he hxv ⟨rfl, rfl⟩
        rotate_left
        · exact run_conv_bytes (src := src) (dst := dst') (x := x) rfl hs hd he hxv (run_loadCells_list (P := P) w ad [] (fun j v hj => by simp at hj))
        · refine run_conv_bytes (src := src) (dst := dst') (x := x) rfl hs hd he hxv ?_
          have := hr.frozen_read (B := B) (o := o) (vs := (l.map D.asInt).map (Value.int .u8)) (fun j u hj => by
            rw [List.getElem?_map, List.getElem?_map, Option.map_map] at hj
            cases hlj : l[j]? with
            | none => rw [hlj] at hj; cases hj
            | some d =>
              rw [hlj] at hj
              simp only [Option.map_some, Function.comp, Option.some.injEq] at hj
              subst hj
              obtain ⟨vs, h1, h2⟩ := hel j d hlj
              simp only [RelSh] at h1
              subst h1
              have := h2 0 _ rfl
              simpa [Sh.size] using this) P
          simpa using this
      · cases e
      · cases e
    · cases e
  · cases e

theorem strsAll_at : ∀ {cs : List AV} {ss : List (List UInt8)}, strsAll cs = some ss → cs = ss.map AV.str
  | [], ss, e => by cases e; rfl
  | a :: r, ss, e => by
    cases a <;> simp only [strsAll] at e <;> try cases e
    split at e
    · rename_i l hl
      cases e
      rw [strsAll_at hl]
      rfl
    · cases e
theorem strsOf_at {cs : List AV} {ss : List (List UInt8)} (e : strsOf cs = some ss) : cs = ss.map AV.str := by
  unfold strsOf at e
  split at e
  · exact strsAll_at e
  · cases e
/-- Of a block. -/
theorem rd_at_sound (hr : HR ρ h w) (htr : TR ρ tmps a.tmps) {o : Oper} {l : Loc} {mk : Made} {x : Ent} {v : AV} (e : readA P tmps o.op = some (.at l mk)) (hb : h l.blk = some x) (hx : entRead x l mk = some (true, v)) :
    ∃ u, (execOp a.eval o).run P w = .ok (.value u) w ∧ Rel ρ v u := by
  obtain ⟨dst, op, type, pos, after, guard⟩ := o
  simp only at e
  -- cells that are read, and what is made of them
  have key : ∀ (B o r off n : Nat) (cs l0 : List AV) (ro : Bool) (t : TypeId) (y : Operand) , ρ l.blk = some (B, o, r) → x.view = some (ro, cs) → readL cs off n = some l0 → madeA mk l0 = some v →
      a.eval y = .pointer (some ⟨B, o + off, none⟩) → ((mk = .agg ∧ isAggA P t = some true ∧ sizeA P t = some n) ∨ (mk = .one ∧ isAggA P t = some false ∧ n = 1)) → op = .load t y →
      ∃ u, (execOp a.eval { dst := dst, op := op, type := type, pos := pos, after := after, guard := guard }).run P w = .ok (.value u) w ∧ Rel ρ v u := by
    intro B o r off n cs l0 ro t y hρ hv hl hm hxv hk hop
    subst hop
    have H := hr.cell _ B o r x ro cs hρ hb hv
    rcases hk with ⟨rfl, hg, hs⟩ | ⟨rfl, hg, rfl⟩
    · obtain ⟨vs, h1, h2, h3⟩ := H.read hl
      simp only [madeA] at hm; cases hm
      refine ⟨.agg vs.toArray, ?_, by simp only [Rel]; exact ⟨vs, rfl, h1⟩⟩
      simp [execOp, Instr.loadAt, hxv, Instr.sureAddr, loadVar, run_isAggA hg, run_sizeA hs, h3]
    · obtain ⟨hle, rfl⟩ := readL_some hl
      obtain ⟨y, hy⟩ : ∃ y, cs[off]? = some y := ⟨cs[off]'(by omega), List.getElem?_eq_getElem (by omega)⟩
      have htake : (cs.drop off).take 1 = [y] := by
        rw [List.drop_eq_getElem_cons (show off < cs.length by omega)]
        simp only [List.take_succ_cons, List.take_zero]
        rw [List.getElem?_eq_getElem (by omega)] at hy
        cases hy; rfl
      rw [htake] at hm
      simp only [madeA] at hm; cases hm
      obtain ⟨u, hc, hrel⟩ := H.cellAt hy
      refine ⟨u, ?_, hrel⟩
      simp [execOp, Instr.loadAt, hxv, Instr.sureAddr, loadVar, run_isAggA hg, hc]
  unfold readA at e
  split at e
  · rename_i t y
    split at e
    · rename_i b off hy
      have hrel := ev_sound htr hy
      simp only [Rel] at hrel
      obtain ⟨B, o, r, hρ, hyv⟩ := hrel
      split at e
      · rename_i n hg hs
        cases e
        cases x with
        | cells cs =>
          simp only [entRead, cellRead] at hx
          split at hx
          · rename_i l0 hl
            split at hx
            · rename_i v0 hm
              cases hx
              exact key B o r off n cs l0 false t y hρ rfl hl hm hyv (.inl ⟨rfl, hg, hs⟩) rfl
            · cases hx
          · cases hx
        | tbl ro e1 l1 => simp [entRead] at hx
        | dead => simp [entRead] at hx
      · rename_i n hg hs
        cases e
        cases x with
        | cells cs =>
          simp only [entRead, cellRead] at hx
          split at hx
          · rename_i ss hss
            simp only [Option.some.injEq, Prod.mk.injEq, Bool.and_eq_true, decide_eq_true_eq] at hx
            obtain ⟨⟨_, hlt⟩, rfl⟩ := hx
            have hcs := strsOf_at hss
            have hl : readL cs off 1 = some [.str (ss.getD off [])] := by
              unfold readL
              have h1 : Nat.ble (off + 1) cs.length = true := by rw [hcs, List.length_map]; exact Nat.ble_eq_true_of_le hlt
              rw [h1, hcs]
              simp only [← List.map_drop, ← List.map_take]
              rw [List.drop_eq_getElem_cons hlt]
              simp only [List.take_succ_cons, List.take_zero, List.map_cons, List.map_nil]
              rw [List.getD, List.getElem?_eq_getElem hlt]
              rfl
            exact key B o r off 1 cs _ false t y hρ rfl hl rfl hyv (.inr ⟨rfl, hg, rfl⟩) rfl
          · split at hx
            · rename_i l0 hl
              split at hx
              · rename_i v0 hm
                cases hx
                exact key B o r off 1 cs l0 false t y hρ rfl hl hm hyv (.inr ⟨rfl, hg, rfl⟩) rfl
              · cases hx
            · cases hx
        | tbl ro e1 l1 => simp [entRead] at hx
        | dead => simp [entRead] at hx
      · cases e
    · rename_i e0 b i fo hy
      have hrel := ev_sound htr hy
      simp only [Rel] at hrel
      obtain ⟨B, o, r, hρ, hyv⟩ := hrel
      have fin : ∀ n mk', Rd.at (.elem e0 b i fo n) mk' = Rd.at l mk → ((mk' = .agg ∧ isAggA P t = some true ∧ sizeA P t = some n) ∨ (mk' = .one ∧ isAggA P t = some false ∧ n = 1)) →
          ∃ u, (execOp a.eval { dst := dst, op := .load t y, type := type, pos := pos, after := after, guard := guard }).run P w = .ok (.value u) w ∧ Rel ρ v u := by
        intro n mk' he hk
        cases he
        cases x with
        | cells cs => cases mk <;> simp [entRead] at hx
        | dead => simp [entRead] at hx
        | tbl ro e1 l1 =>
          simp only [entRead] at hx
          split at hx
          · rename_i cs hbeq hl
            split at hx
            · rename_i v0 hm
              simp only [Option.some.injEq, Prod.mk.injEq, decide_eq_true_eq] at hx
              obtain ⟨hi, rfl⟩ := hx
              have he := Sh.beq_eq _ _ hbeq
              subst he
              exact key B o r (i * e0.size + fo) n (flat e0 l1) cs ro t y hρ rfl (readL_elem hi hl) hm hyv hk rfl
            · cases hx
          · cases hx
      split at e
      · rename_i n hg hs
        cases e
        exact fin n .agg rfl (.inl ⟨rfl, hg, hs⟩)
      · rename_i n hg hs
        cases e
        exact fin 1 .one rfl (.inr ⟨rfl, hg, rfl⟩)
      · cases e
    · split at e
      · split at e <;> cases e
      · split at e <;> cases e
      · cases e
    · cases e
  · rename_i src dst' y
    split at e
    · rename_i e0 hs hd
      split at e
      · rename_i b off len cap he hy
        cases e
        have hrel := ev_sound htr hy
        simp only [Rel] at hrel
        obtain ⟨B, o, r, hρ, _, hyv⟩ := hrel
        cases x with
        | cells cs =>
          simp only [entRead, cellRead] at hx
          split at hx
          · rename_i l0 hl
            split at hx
            · rename_i v0 hm
              cases hx
              have H := hr.cell _ B o r (.cells cs) false cs hρ hb rfl
              obtain ⟨vs, h1, h2, h3⟩ := H.read hl
              simp only [madeA] at hm
              obtain ⟨ns, e1, e2⟩ := made_bytes _ [] v hm
              subst e1 e2
              have e3 := rels_ints h1
              subst e3
              exact ⟨_, run_conv_bytes (src := src) (dst := dst') (x := y) rfl hs hd he hyv (h3 P), by simp [Rel]⟩
            · cases hx
          · cases hx
        | tbl ro e1 l1 => simp [entRead] at hx
        | dead => simp [entRead] at hx
      · cases e
      · rename_i nn b off len cap he hy
        cases e
        have hrel := ev_sound htr hy
        cases x with
        | cells cs => simp [entRead] at hx
        | dead => simp [entRead] at hx
        | tbl ro e1 l1 =>
          simp only [entRead] at hx
          split at hx
          · rename_i hbeq _
            simp only [Option.some.injEq, Prod.mk.injEq] at hx
            obtain ⟨hle, rfl⟩ := hx
            have hle := Nat.le_of_ble_eq_true hle
            have he1 := Sh.beq_eq _ _ hbeq
            subst he1
            refine ⟨.string ⟨((((l1.drop off).take len).map D.asInt).map fun n => UInt8.ofNat n.toNat).toArray⟩, ?_, by simp only [Rel, bytesD_eq]⟩
            simp only [Rel] at hrel
            obtain ⟨B, o, r, hρ, hrel⟩ := hrel
            rcases hrel with ⟨_, hlen0, _, _, hyv⟩ | ⟨c, _, _, _, hfit, hyv | ⟨hc0, z, hyv⟩⟩
            · subst hlen0
              exact run_conv_bytes (src := src) (dst := dst') (x := y) rfl hs hd he hyv ⟨rfl, by simp⟩
            · refine run_conv_bytes (src := src) (dst := dst') (x := y) rfl hs hd he hyv ?_
              have H := hr.cell _ B o r _ ro _ hρ hb rfl
              have hl : readL (flat (.int .u8) l1) off len = some (flat (.int .u8) ((l1.drop off).take len)) := by
                unfold readL
                have : off + len ≤ (flat (.int .u8) l1).length := by rw [flat_length]; simpa [Sh.size] using hle
                rw [Nat.ble_eq_true_of_le this, flat_take, flat_drop]
                simp [Sh.size]
              obtain ⟨vs, h1, h2, h3⟩ := H.read hl
              rw [flat_bytes] at h1
              have e3 := rels_ints h1
              subst e3
              have := h3 P
              simpa [Sh.size] using this
            · have hlen0 : len = 0 := by simp only [Cap.top] at *; omega
              subst hlen0
              refine run_conv_bytes (src := src) (dst := dst') (x := y) rfl hs hd he hyv ?_
              simp [loadCells, loadCellsFrom]
          · cases hx
      · cases e
    · cases e
  · cases e
end
end Go.Sy

/- Data out of cells; blocks that are not written any more; how arguments are handed on. -/
set_option linter.unusedSimpArgs false
set_option linter.unusedVariables false
namespace Go.Sy
open Go

section
variable {ρ : Rho} {s : St}

/-- These blocks are in memory that nobody writes. -/
def FrzAll (ρ : Rho) (s : St) (fr : List Nat) : Prop := ∀ b, b ∈ fr → ∀ x ro cs B o r, s[b]? = some x → x.view = some (ro, cs) → ρ b = some (B, o, r) →
  ∃ vs, Rels ρ cs vs ∧ ∀ (i : Nat) (v : Value), vs[i]? = some v → ρ.fz B (o + i) = some v
theorem FrzAll.left {fr fr' : List Nat} (h : FrzAll ρ s (fr ++ fr')) : FrzAll ρ s fr := fun b hb => h b (List.mem_append_left _ hb)
theorem FrzAll.right {fr fr' : List Nat} (h : FrzAll ρ s (fr ++ fr')) : FrzAll ρ s fr' := fun b hb => h b (List.mem_append_right _ hb)

theorem els_sound {f : List AV → Option (Bool × D × List AV × List Nat)} {R : D → List Value → Prop} {sz : Nat}
    (hf : ∀ cells vs d rest fr, f cells = some (true, d, rest, fr) → Rels ρ cells vs → FrzAll ρ s fr → R d (vs.take sz) ∧ Rels ρ rest (vs.drop sz)) :
    ∀ (n : Nat) (cells : List AV) (vs : List Value) (ds : List D) (rest : List AV) (fr : List Nat), collEls f n cells = some (true, ds, rest, fr) → Rels ρ cells vs → FrzAll ρ s fr →
      ds.length = n ∧ (∀ i d, ds[i]? = some d → R d ((vs.drop (i * sz)).take sz)) ∧ Rels ρ rest (vs.drop (n * sz))
  | 0, cells, vs, ds, rest, fr, e, hr, hF => by
    simp only [collEls] at e; cases e
    exact ⟨rfl, fun i d h => by simp at h, by simpa using hr⟩
  | n + 1, cells, vs, ds, rest, fr, e, hr, hF => by
    simp only [collEls] at e
    split at e
    · cases e
    · rename_i g d r fr1 h1
      split at e
      · cases e
      · rename_i g' ds' r' fr2 h2
        simp only [Option.some.injEq, Prod.mk.injEq, Bool.and_eq_true] at e
        obtain ⟨⟨rfl, rfl⟩, rfl, rfl, rfl⟩ := e
        obtain ⟨k1, k2⟩ := hf _ _ _ _ _ h1 hr hF.left
        obtain ⟨m1, m2, m3⟩ := els_sound hf n r _ ds' r' fr2 h2 k2 hF.right
        refine ⟨by simp [m1], fun i d' hd => ?_, ?_⟩
        · cases i with
          | zero => simp at hd; subst hd; simpa using k1
          | succ i =>
            simp at hd
            have := m2 i d' hd
            rw [List.drop_drop] at this
            rwa [show (i + 1) * sz = sz + i * sz by rw [Nat.add_mul]; omega]
        · rw [List.drop_drop] at m3
          rwa [show (n + 1) * sz = sz + n * sz by rw [Nat.add_mul]; omega]

theorem tsl_fzr {nn : Bool} {e : Sh} {b off len : Nat} {cap : Cap} {v : Value} {ro : Bool} {l : List D} {fr : List Nat} (h : Rel ρ (.tsl nn e b off len cap) v) (hb : s[b]? = some (.tbl ro e l)) (hF : FrzAll ρ s [b]) (hle : off + len ≤ l.length) :
    FzR ρ.fz e.size (RelSh ρ.fz e) false ((l.drop off).take len) v := by
  have hll : ((l.drop off).take len).length = len := by simp; omega
  simp only [Rel] at h
  obtain ⟨B, o, r, hρ, h⟩ := h
  rcases h with ⟨rfl, rfl, _, _, rfl⟩ | ⟨c, hlt, htop, _, hfit, rfl | ⟨rfl, x, rfl⟩⟩
  · exact .inl ⟨rfl, by simp, rfl⟩
  · obtain ⟨vs, h1, h2⟩ := hF b (by simp) _ _ _ _ _ _ hb rfl hρ
    refine .inr (.inl ⟨B, o + off * e.size, c, by rw [hll], by rw [hll]; omega, fun i d hd => ?_⟩)
    rw [List.getElem?_take] at hd
    split at hd
    · rename_i hi
      rw [List.getElem?_drop] at hd
      have hil : off + i < l.length := by omega
      have hg : l.getD (off + i) .nul = d := by simp [List.getD, hd]
      have h3 := ((h1.drop ((off + i) * e.size)).take e.size)
      rw [flat_getD e l (off + i) hil, hg] at h3
      refine ⟨_, (rels_expand _ _ _).2 h3, fun j u hu => ?_⟩
      rw [List.getElem?_take] at hu
      split at hu
      · rw [List.getElem?_drop] at hu
        have := h2 _ u hu
        rwa [show o + ((off + i) * e.size + j) = o + off * e.size + i * e.size + j by rw [Nat.add_mul]; omega] at this
      · cases hu
    · cases hd
  · have hlen0 : len = 0 := by omega
    subst hlen0
    exact .inr (.inl ⟨B, x, 0, by simp, by simp, fun i d hd => by simp at hd⟩)

mutual
theorem coll_sound : ∀ (sh : Sh) (cells : List AV) (vs : List Value) (d : D) (rest : List AV) (fr : List Nat), collS s sh cells = some (true, d, rest, fr) → Rels ρ cells vs → FrzAll ρ s fr →
    RelSh ρ.fz sh d (vs.take sh.size) ∧ Rels ρ rest (vs.drop sh.size)
  | .bool, cells, vs, d, rest, fr, e, hr, hF => by
    cases cells with
    | nil => simp [collS] at e
    | cons a cells =>
      cases a <;> simp only [collS, reduceCtorEq] at e
      cases e
      simp only [Rels, Rel] at hr
      obtain ⟨v, us, rfl, rfl, hr⟩ := hr
      exact ⟨by simp [RelSh, Sh.size, D.asBool], by simpa [Sh.size] using hr⟩
  | .int k, cells, vs, d, rest, fr, e, hr, hF => by
    cases cells with
    | nil => simp [collS] at e
    | cons a cells =>
      cases a <;> simp only [collS, reduceCtorEq] at e
      split at e
      · rename_i hk
        have hk' := of_decide_eq_true hk
        cases e
        simp only [Rels, Rel] at hr
        obtain ⟨v, us, rfl, rfl, hr⟩ := hr
        exact ⟨by simp [RelSh, Sh.size, D.asInt, hk'], by simpa [Sh.size] using hr⟩
      · cases e
  | .str, cells, vs, d, rest, fr, e, hr, hF => by
    cases cells with
    | nil => simp [collS] at e
    | cons a cells =>
      cases a <;> simp only [collS, reduceCtorEq] at e
      cases e
      simp only [Rels, Rel] at hr
      obtain ⟨v, us, rfl, rfl, hr⟩ := hr
      exact ⟨by simp [RelSh, Sh.size, D.asStr], by simpa [Sh.size] using hr⟩
  | .slice sh, cells, vs, d, rest, fr, e, hr, hF => by
    cases cells with
    | nil => simp [collS] at e
    | cons a cells =>
      simp only [Rels] at hr
      obtain ⟨v, us, rfl, hv, hr⟩ := hr
      have hdrop : (v :: us).drop (Sh.slice sh).size = us := by simp [Sh.size]
      have htake : (v :: us).take (Sh.slice sh).size = [v] := by simp [Sh.size]
      rw [hdrop, htake]
      cases a <;> simp only [collS, reduceCtorEq] at e
      · cases e
        simp only [Rel] at hv
        subst hv
        exact ⟨by simp [RelSh, D.els, FzR], hr⟩
      · rename_i b off len cap
        split at e
        · rename_i cs hb
          split at e
          · rename_i l0 hl
            split at e
            · rename_i g ds fr1 hc
              simp only [Option.some.injEq, Prod.mk.injEq] at e
              obtain ⟨rfl, rfl, rfl, rfl⟩ := e
              simp only [Rel] at hv
              obtain ⟨B, o, r, hρ, hlc, rfl⟩ := hv
              obtain ⟨vs0, h1, h2⟩ := hF b (by simp) _ _ _ _ _ _ hb rfl hρ
              obtain ⟨hle, rfl⟩ := readL_some hl
              have hF1 : FrzAll ρ s fr1 := fun b' hb' => hF b' (List.mem_cons_of_mem _ hb')
              obtain ⟨k1, k2, k3⟩ := els_sound (R := fun d vs => RelSh ρ.fz sh d vs) (sz := sh.size) (fun cells vs d rest fr => coll_sound sh cells vs d rest fr) len _ _ ds [] fr1 hc ((h1.drop off).take (len * sh.size)) hF1
              refine ⟨?_, hr⟩
              simp only [RelSh, D.els]
              refine ⟨_, rfl, .inr (.inl ⟨B, o + off, cap, by rw [k1], by rw [k1]; exact hlc, fun i d hd => ?_⟩)⟩
              have hi : i < len := by have := (List.getElem?_eq_some_iff.1 hd).1; omega
              refine ⟨_, k2 i d hd, fun j u hu => ?_⟩
              rw [List.getElem?_take] at hu
              split at hu
              · rw [List.getElem?_drop, List.getElem?_take] at hu
                split at hu
                · rw [List.getElem?_drop] at hu
                  have := h2 _ u hu
                  rwa [show o + (off + (i * sh.size + j)) = o + off + i * sh.size + j by omega] at this
                · cases hu
              · cases hu
            · cases e
          · cases e
        · cases e
      · rename_i nn sh' l
        split at e
        · rename_i hb
          have := Sh.beq_eq _ _ hb
          subst this
          cases e
          simp only [Rel] at hv
          refine ⟨?_, hr⟩
          simp only [RelSh, D.els]
          refine ⟨v, rfl, ?_⟩
          rcases hv with ⟨_, h1, h2⟩ | h
          · exact .inl ⟨rfl, h1, h2⟩
          · exact .inr h
        · cases e
      · rename_i nn sh' b off len cap
        split at e
        · rename_i ro sh'' l hb
          split at e
          · rename_i hbe
            simp only [Bool.and_eq_true] at hbe
            have e1 := Sh.beq_eq _ _ hbe.1
            have e2 := Sh.beq_eq _ _ hbe.2
            subst e1; subst e2
            simp only [Option.some.injEq, Prod.mk.injEq] at e
            obtain ⟨hle, rfl, rfl, rfl⟩ := e
            have hle := Nat.le_of_ble_eq_true hle
            refine ⟨?_, hr⟩
            simp only [RelSh, D.els]
            exact ⟨v, rfl, tsl_fzr (fr := []) hv hb hF hle⟩
          · cases e
        · cases e
  | .struct fs, cells, vs, d, rest, fr, e, hr, hF => by
    simp only [collS] at e
    split at e
    · rename_i g ds r fr1 hc
      simp only [Option.some.injEq, Prod.mk.injEq] at e
      obtain ⟨rfl, rfl, rfl, rfl⟩ := e
      have := colls_sound fs cells vs ds r fr1 hc hr hF
      simp only [RelSh, Sh.size]
      refine ⟨this.1 (.agg ds) 0 (fun i hi => ?_), this.2⟩
      simp [D.fld]
    · cases e
theorem colls_sound : ∀ (fs : List Sh) (cells : List AV) (vs : List Value) (ds : List D) (rest : List AV) (fr : List Nat), collFs s fs cells = some (true, ds, rest, fr) → Rels ρ cells vs → FrzAll ρ s fr →
    (∀ (d : D) (i : Nat), (∀ k, k < fs.length → d.fld (i + k) = ds.getD k .nul) → RelShs ρ.fz fs d i (vs.take (Sh.sizes fs))) ∧ Rels ρ rest (vs.drop (Sh.sizes fs))
  | [], cells, vs, ds, rest, fr, e, hr, hF => by
    simp only [collFs] at e; cases e
    exact ⟨fun d i _ => by simp [RelShs, Sh.sizes], by simpa [Sh.sizes] using hr⟩
  | f :: fs, cells, vs, ds, rest, fr, e, hr, hF => by
    simp only [collFs] at e
    split at e
    · cases e
    · rename_i g d0 r fr1 h1
      split at e
      · cases e
      · rename_i g' ds' r' fr2 h2
        simp only [Option.some.injEq, Prod.mk.injEq, Bool.and_eq_true] at e
        obtain ⟨⟨rfl, rfl⟩, rfl, rfl, rfl⟩ := e
        obtain ⟨k1, k2⟩ := coll_sound f cells vs d0 r fr1 h1 hr hF.left
        obtain ⟨m1, m2⟩ := colls_sound fs r _ ds' r' fr2 h2 k2 hF.right
        refine ⟨fun d i hd => ?_, ?_⟩
        · simp only [RelShs, Sh.sizes]
          refine ⟨vs.take f.size, (vs.drop f.size).take (Sh.sizes fs), ?_, ?_, ?_⟩
          · rw [List.take_add]
          · have := hd 0 (by simp)
            rw [Nat.add_zero] at this
            rw [this]
            simpa using k1
          · refine m1 d (i + 1) (fun k hk => ?_)
            have := hd (k + 1) (by simpa using hk)
            rw [show i + (k + 1) = i + 1 + k by omega] at this
            simpa using this
        · simp only [Sh.sizes]
          rwa [List.drop_drop] at m2
end

/- ### which blocks -/
theorem els_ids {f : List AV → Option (Bool × D × List AV × List Nat)} (hf : ∀ cells vs g d rest fr, f cells = some (g, d, rest, fr) → Rels ρ cells vs → (∀ b ∈ fr, ρ b ≠ none) ∧ ∃ us, Rels ρ rest us) :
    ∀ (n : Nat) (cells : List AV) (vs : List Value) (g : Bool) (ds : List D) (rest : List AV) (fr : List Nat), collEls f n cells = some (g, ds, rest, fr) → Rels ρ cells vs → (∀ b ∈ fr, ρ b ≠ none) ∧ ∃ us, Rels ρ rest us
  | 0, cells, vs, g, ds, rest, fr, e, hr => by simp only [collEls] at e; cases e; exact ⟨fun b hb => by simp at hb, vs, hr⟩
  | n + 1, cells, vs, g, ds, rest, fr, e, hr => by
    simp only [collEls] at e
    split at e
    · cases e
    · rename_i g1 d r fr1 h1
      split at e
      · cases e
      · rename_i g' ds' r' fr2 h2
        cases e
        obtain ⟨k1, us, k2⟩ := hf _ _ _ _ _ _ h1 hr
        obtain ⟨m1, m2⟩ := els_ids hf n r us _ _ _ _ h2 k2
        refine ⟨fun b hb => ?_, m2⟩
        rcases List.mem_append.1 hb with hb | hb
        · exact k1 b hb
        · exact m1 b hb
mutual
theorem coll_ids (hC : ∀ b cs, s[b]? = some (.cells cs) → ρ b ≠ none → ∃ vs, Rels ρ cs vs) : ∀ (sh : Sh) (cells : List AV) (vs : List Value) (g : Bool) (d : D) (rest : List AV) (fr : List Nat), collS s sh cells = some (g, d, rest, fr) → Rels ρ cells vs →
    (∀ b ∈ fr, ρ b ≠ none) ∧ ∃ us, Rels ρ rest us
  | .bool, cells, vs, g, d, rest, fr, e, hr => by
    cases cells with
    | nil => simp [collS] at e
    | cons a cells =>
      cases a <;> simp only [collS, reduceCtorEq] at e
      cases e
      simp only [Rels] at hr
      obtain ⟨v, us, rfl, _, hr⟩ := hr
      exact ⟨fun b hb => by simp at hb, us, hr⟩
  | .int k, cells, vs, g, d, rest, fr, e, hr => by
    cases cells with
    | nil => simp [collS] at e
    | cons a cells =>
      cases a <;> simp only [collS, reduceCtorEq] at e
      split at e
      · cases e
        simp only [Rels] at hr
        obtain ⟨v, us, rfl, _, hr⟩ := hr
        exact ⟨fun b hb => by simp at hb, us, hr⟩
      · cases e
  | .str, cells, vs, g, d, rest, fr, e, hr => by
    cases cells with
    | nil => simp [collS] at e
    | cons a cells =>
      cases a <;> simp only [collS, reduceCtorEq] at e
      cases e
      simp only [Rels] at hr
      obtain ⟨v, us, rfl, _, hr⟩ := hr
      exact ⟨fun b hb => by simp at hb, us, hr⟩
  | .slice sh, cells, vs, g, d, rest, fr, e, hr => by
    cases cells with
    | nil => simp [collS] at e
    | cons a cells =>
      simp only [Rels] at hr
      obtain ⟨v, us, rfl, hv, hr⟩ := hr
      cases a <;> simp only [collS, reduceCtorEq] at e
      · cases e
        exact ⟨fun b hb => by simp at hb, us, hr⟩
      · rename_i b off len cap
        split at e
        · rename_i cs hb
          split at e
          · rename_i l0 hl
            split at e
            · rename_i g ds fr1 hc
              cases e
              simp only [Rel] at hv
              obtain ⟨B, o, r, hρ, hlc, rfl⟩ := hv
              have hρ' : ρ b ≠ none := by rw [hρ]; simp
              obtain ⟨vs0, h1⟩ := hC b cs hb hρ'
              obtain ⟨hle, rfl⟩ := readL_some hl
              obtain ⟨k1, _⟩ := els_ids (fun cells vs g d rest fr => coll_ids hC sh cells vs g d rest fr) len _ _ _ ds [] fr1 hc ((h1.drop off).take (len * sh.size))
              refine ⟨fun b' hb' => ?_, us, hr⟩
              rcases List.mem_cons.1 hb' with rfl | hb'
              · exact hρ'
              · exact k1 b' hb'
            · cases e
          · cases e
        · cases e
      · split at e
        · cases e
          exact ⟨fun b hb => by simp at hb, us, hr⟩
        · cases e
      · rename_i nn sh' b off len cap
        split at e
        · split at e
          · cases e
            simp only [Rel] at hv
            obtain ⟨B, o, r, hρ, _⟩ := hv
            refine ⟨fun b' hb' => ?_, us, hr⟩
            simp at hb'
            subst hb'
            rw [hρ]; simp
          · cases e
        · cases e
  | .struct fs, cells, vs, g, d, rest, fr, e, hr => by
    simp only [collS] at e
    split at e
    · rename_i g ds r fr1 hc
      cases e
      exact colls_ids hC fs cells vs g ds rest fr hc hr
    · cases e
theorem colls_ids (hC : ∀ b cs, s[b]? = some (.cells cs) → ρ b ≠ none → ∃ vs, Rels ρ cs vs) : ∀ (fs : List Sh) (cells : List AV) (vs : List Value) (g : Bool) (ds : List D) (rest : List AV) (fr : List Nat), collFs s fs cells = some (g, ds, rest, fr) → Rels ρ cells vs →
    (∀ b ∈ fr, ρ b ≠ none) ∧ ∃ us, Rels ρ rest us
  | [], cells, vs, g, ds, rest, fr, e, hr => by simp only [collFs] at e; cases e; exact ⟨fun b hb => by simp at hb, vs, hr⟩
  | f :: fs, cells, vs, g, ds, rest, fr, e, hr => by
    simp only [collFs] at e
    split at e
    · cases e
    · rename_i g1 d0 r fr1 h1
      split at e
      · cases e
      · rename_i g' ds' r' fr2 h2
        cases e
        obtain ⟨k1, us, k2⟩ := coll_ids hC f cells vs g1 d0 r fr1 h1 hr
        obtain ⟨m1, m2⟩ := colls_ids hC fs r us g' ds' rest fr2 h2 k2
        refine ⟨fun b hb => ?_, m2⟩
        rcases List.mem_append.1 hb with hb | hb
        · exact k1 b hb
        · exact m1 b hb
end
theorem HR.cellsOf {h : Hp} {w : World} (hr : HR ρ h w) (ha : Agree s h) : ∀ b cs, s[b]? = some (.cells cs) → ρ b ≠ none → ∃ vs, Rels ρ cs vs := fun b cs hb hρ => by
  obtain ⟨⟨B, o, r⟩, hρ⟩ := Option.ne_none_iff_exists'.1 hρ
  have hbl : b < s.length := (List.getElem?_eq_some_iff.1 hb).1
  obtain ⟨vs, h1, _⟩ := (hr.cell b B o r _ false cs hρ (by rw [ha b hbl]; exact hb) rfl).vals
  exact ⟨vs, h1⟩

/- ### freezing one by one -/
theorem freeze_length : ∀ (fr : List Nat) (s : St), (freeze s fr).length = s.length
  | [], s => rfl
  | b :: bs, s => by
    simp only [freeze]
    split
    · rw [freeze_length bs, List.length_set]
    · exact freeze_length bs s
theorem set_same {α : Type} : ∀ (l : List α) (i : Nat) (x : α), l[i]? = some x → l.set i x = l
  | [], i, x, h => by simp at h
  | y :: l, 0, x, h => by simp at h; subst h; rfl
  | y :: l, i + 1, x, h => by simp at h; simp [set_same l i x h]
theorem freeze_post : ∀ (fr : List Nat) {ρ : Rho} {h : Hp} {w : World} {s : St}, HR ρ h w → Agree s h → (∀ b ∈ fr, ρ b ≠ none) →
    ∃ ρ', Post ρ h w s ρ' (upd (freeze s fr) h) w (freeze s fr) ∧ (∀ i, ρ' i = ρ i) ∧ FrzAll ρ' s fr
  | [], ρ, h, w, s, hr, ha, hid => ⟨ρ, Post.refl hr ha, fun _ => rfl, fun b hb => by simp at hb⟩
  | b :: bs, ρ, h, w, s, hr, ha, hid => by
    simp only [freeze]
    split
    · rename_i x hb
      obtain ⟨⟨B, o, r⟩, hρ⟩ := Option.ne_none_iff_exists'.1 (hid b (by simp))
      -- the first one
      have step : ∃ ρ1, Post ρ h w s ρ1 (upd (s.set b (freezeE x)) h) w (s.set b (freezeE x)) ∧ (∀ i, ρ1 i = ρ i) ∧ ∀ ro cs, x.view = some (ro, cs) → ∃ vs, Rels ρ1 cs vs ∧ ∀ (i : Nat) (v : Value), vs[i]? = some v → ρ1.fz B (o + i) = some v := by
        cases hv : x.view with
        | none =>
          have hd : x = .dead := by cases x <;> simp [Ent.view] at hv; rfl
          subst hd
          rw [show freezeE Ent.dead = Ent.dead from rfl, set_same s b _ hb]
          exact ⟨ρ, Post.refl hr ha, fun _ => rfl, fun ro cs e => by cases e⟩
        | some q =>
          obtain ⟨ro, cs⟩ := q
          obtain ⟨ρ1, hp, vs, k1, k2⟩ := freeze1_post hr ha hb hρ hv
          refine ⟨ρ1, hp, fun i => ?_, fun ro' cs' e => by cases e; exact ⟨vs, k1, k2⟩⟩
          by_cases e : ρ1 i = ρ i
          · exact e
          · have := hp.new i e; simp at this; omega
      obtain ⟨ρ1, hp, hat, hfz⟩ := step
      obtain ⟨ρ2, hp2, hat2, hF2⟩ := freeze_post bs hp.hr hp.agree (fun b' hb' => by rw [hat]; exact hid b' (List.mem_cons_of_mem _ hb'))
      have hp3 := hp.trans hp2
      rw [upd_upd (by rw [freeze_length]; exact Nat.le_refl _)] at hp3
      refine ⟨ρ2, hp3, fun i => by rw [hat2, hat], fun b' hb' y ro cs B' o' r' h1 h2 h3 => ?_⟩
      by_cases hbb : b' = b
      · subst hbb
        rw [hb] at h1; cases h1
        rw [hat2, hat, hρ] at h3; cases h3
        obtain ⟨vs, k1, k2⟩ := hfz ro cs h2
        exact ⟨vs, Rels.mono hp2.ext _ _ k1, fun i v e => hp2.ext.2 _ _ _ (k2 i v e)⟩
      · rcases List.mem_cons.1 hb' with e | hb'
        · exact absurd e hbb
        · exact hF2 b' hb' y ro cs B' o' r' (by rw [List.getElem?_set_ne (fun e => hbb e.symm)]; exact h1) h2 h3
    · obtain ⟨ρ', hp, hat, hF⟩ := freeze_post bs hr ha (fun b' hb' => hid b' (List.mem_cons_of_mem _ hb'))
      rename_i hb
      refine ⟨ρ', hp, hat, fun b' hb' y ro cs B' o' r' h1 h2 h3 => ?_⟩
      rcases List.mem_cons.1 hb' with rfl | hb'
      · rw [hb] at h1; cases h1
      · exact hF b' hb' y ro cs B' o' r' h1 h2 h3

/- ### modes -/
theorem ofD_rel {sh : Sh} {d : D} {v : Value} (h : RelSh ρ.fz sh d v.cells.toList) (hv : isStruct sh = true → ∃ l, v = .agg l) (hv' : isStruct sh = false → v.cells = #[v]) : Rel ρ (ofD sh d) v := by
  have h1 := (rels_expand _ _ _).1 h
  unfold ofD
  cases hs : isStruct sh with
  | true =>
    obtain ⟨l, rfl⟩ := hv hs
    simp only [Rel]
    exact ⟨l.toList, by simp, by simpa [Value.cells] using h1⟩
  | false =>
    rw [hv' hs] at h1
    simp only [Rels] at h1
    have hlen := h1.length
    cases he : expand sh d with
    | nil => rw [he] at hlen; simp at hlen
    | cons a l =>
      rw [he] at h1 hlen
      simp only [Rels] at h1
      obtain ⟨u, us, e, h2, h3⟩ := h1
      cases e
      cases l with
      | nil => exact h2
      | cons => simp at hlen
theorem mode_sound {m : Mode} {a a' : AV} {v : Value} {fr : List Nat} (e : modeS s m a = some (true, a', fr)) (hr : Rel ρ a v) (hF : FrzAll ρ s fr) : Rel ρ a' v := by
  cases m with
  | keep => simp only [modeS] at e; cases e; exact hr
  | data sh =>
    simp only [modeS] at e
    split at e
    · rename_i hag
      have hag : isAggV a = isStruct sh := by simpa using hag
      split at e
      · rename_i g d fr1 hc
        simp only [Option.some.injEq, Prod.mk.injEq] at e
        obtain ⟨rfl, rfl, rfl⟩ := e
        obtain ⟨h1, h2⟩ := coll_sound (ρ := ρ) sh _ _ d [] fr1 hc hr.cells hF
        have hl := h1.length
        have hnil := h2.length
        have htake : v.cells.toList.take sh.size = v.cells.toList := by
          apply List.take_of_length_le
          simp only [List.length_drop, List.length_nil] at hnil
          omega
        rw [htake] at h1
        refine ofD_rel h1 (fun hs => ?_) (fun hs => ?_)
        · rw [hs] at hag
          cases a with
          | agg cs => simp only [Rel] at hr; obtain ⟨l, rfl, _⟩ := hr; exact ⟨_, rfl⟩
          | _ => simp [isAggV] at hag
        · rw [hs] at hag
          have hsc : scalarV a = true ∨ (∃ vs, a = .tup vs) ∨ a = .any ∨ ∃ cs, a = .agg cs := by cases a <;> simp [scalarV]
          rcases hsc with hsc | ⟨vs, rfl⟩ | rfl | ⟨cs, rfl⟩
          · exact oneCell_cells (hr.oneCell hsc)
          · simp only [Rel] at hr; obtain ⟨l, rfl, _⟩ := hr; rfl
          · simp [Rel] at hr
          · simp [isAggV] at hag
      · cases e
    · cases e
theorem mode_ids (hC : ∀ b cs, s[b]? = some (.cells cs) → ρ b ≠ none → ∃ vs, Rels ρ cs vs) {m : Mode} {a a' : AV} {v : Value} {g : Bool} {fr : List Nat} (e : modeS s m a = some (g, a', fr)) (hr : Rel ρ a v) : ∀ b ∈ fr, ρ b ≠ none := by
  cases m with
  | keep => simp only [modeS] at e; cases e; exact fun b hb => by simp at hb
  | data sh =>
    simp only [modeS] at e
    split at e
    · split at e
      · rename_i g1 d fr1 hc
        cases e
        exact (coll_ids hC sh _ _ _ d [] fr hc hr.cells).1
      · cases e
    · cases e
theorem modes_sound : ∀ {ms : List Mode} {as as' : List AV} {vs : List Value} {fr : List Nat}, modesS s ms as = some (true, as', fr) → Rels ρ as vs → FrzAll ρ s fr → Rels ρ as' vs
  | [], as, as', vs, fr, e, hr, hF => by simp only [modesS] at e; cases e; exact hr
  | m :: ms, [], as', vs, fr, e, hr, hF => by simp only [modesS] at e; cases e; exact hr
  | m :: ms, a :: as, as', vs, fr, e, hr, hF => by
    simp only [modesS] at e
    split at e
    · cases e
    · rename_i g a1 fr1 h1
      split at e
      · cases e
      · rename_i g' as1 fr2 h2
        simp only [Option.some.injEq, Prod.mk.injEq, Bool.and_eq_true] at e
        obtain ⟨⟨rfl, rfl⟩, rfl, rfl⟩ := e
        simp only [Rels] at hr
        obtain ⟨v, us, rfl, hv, hr⟩ := hr
        exact Rels.cons (mode_sound h1 hv hF.left) (modes_sound h2 hr hF.right)
theorem modes_ids (hC : ∀ b cs, s[b]? = some (.cells cs) → ρ b ≠ none → ∃ vs, Rels ρ cs vs) : ∀ {ms : List Mode} {as as' : List AV} {vs : List Value} {g : Bool} {fr : List Nat}, modesS s ms as = some (g, as', fr) → Rels ρ as vs → ∀ b ∈ fr, ρ b ≠ none
  | [], as, as', vs, g, fr, e, hr => by simp only [modesS] at e; cases e; exact fun b hb => by simp at hb
  | m :: ms, [], as', vs, g, fr, e, hr => by simp only [modesS] at e; cases e; exact fun b hb => by simp at hb
  | m :: ms, a :: as, as', vs, g, fr, e, hr => by
    simp only [modesS] at e
    split at e
    · cases e
    · rename_i g1 a1 fr1 h1
      split at e
      · cases e
      · rename_i g' as1 fr2 h2
        cases e
        simp only [Rels] at hr
        obtain ⟨v, us, rfl, hv, hr⟩ := hr
        intro b hb
        rcases List.mem_append.1 hb with hb | hb
        · exact mode_ids hC h1 hv b hb
        · exact modes_ids hC h2 hr b hb
end
end Go.Sy

/- New blocks, stores; what append and copy take over. -/
set_option linter.unusedSimpArgs false
set_option linter.unusedVariables false
namespace Go.Sy
open Go

theorem beq_false_ne {a b : Nat} (h : Nat.beq a b = false) : a ≠ b := fun e => by subst e; simp at h
theorem beq_true_eq {a b : Nat} (h : Nat.beq a b = true) : a = b := Nat.eq_of_beq_eq_true h
section
variable {P : Program} {ρ : Rho} {tmps : List AV} {a : Act} (w : World)
def timesV : Nat → List Value → List Value
  | 0, _ => []
  | n + 1, z => z ++ timesV n z
theorem Rels.times {ρ : Rho} {z : List AV} {zv : List Value} (h : Rels ρ z zv) : ∀ n, Rels ρ (timesL n z) (timesV n zv)
  | 0 => Rels.nil
  | n + 1 => h.append (Rels.times h n)
theorem timesV_length (z : List Value) : ∀ n, (timesV n z).length = n * z.length
  | 0 => by simp [timesV]
  | n + 1 => by simp [timesV, timesV_length z n, Nat.add_mul]; omega
theorem timesV_get (z : List Value) (hz : 0 < z.length) : ∀ (n i : Nat), i < n * z.length → (timesV n z)[i]? = z[i % z.length]?
  | 0, i, h => by omega
  | n + 1, i, h => by
    simp only [timesV]
    by_cases hi : i < z.length
    · rw [List.getElem?_append_left hi, Nat.mod_eq_of_lt hi]
    · rw [List.getElem?_append_right (by omega), timesV_get z hz n (i - z.length) (by rw [Nat.add_mul] at h; omega)]
      congr 1
      exact (Nat.mod_eq_sub_mod (by omega)).symm
theorem range_times (z : Array Value) (n : Nat) (hz : 0 < z.size ∨ n = 0) : ((Array.range (n * z.size)).map (fun i => z[i % z.size]!)) = (timesV n z.toList).toArray := by
  apply Array.ext'
  apply List.ext_getElem?
  intro i
  by_cases hi : i < n * z.size
  · have hz' : 0 < z.size := by
      rcases hz with h | h
      · exact h
      · subst h; simp at hi
    rw [timesV_get _ (by simpa using hz') n i (by simpa using hi)]
    have hm : i % z.size < z.size := Nat.mod_lt _ hz'
    simp [hi, getElem!_pos z (i % z.size) hm, Array.getElem?_eq_getElem hm]
  · rw [List.getElem?_eq_none (by simp; omega), List.getElem?_eq_none (by rw [timesV_length]; simp; omega)]
theorem zeroCells_times (z : Array Value) (n : Nat) (hz : 0 < z.size ∨ n = 0) : Builtin.zeroCells z n = (timesV n z.toList).toArray := range_times z n hz



/-- The cells of a literal, or of make, ahead of the parts. -/
theorem zeros_sound {e : TypeId} {len sz : Nat} {z : List AV}
    (hz : (match Nat.beq (len * sz) 0 with | true => some [] | false => match zeroA P e with | some z => (match Nat.beq z.cells.length sz with | true => some (timesL len z.cells) | false => none) | none => none : Option (List AV)) = some z) (ρ : Rho) :
    ∃ zs : List Value, Rels ρ z zs ∧ zs.length = len * sz ∧ ((len * sz = 0 ∧ zs = []) ∨
      (¬ len * sz = 0 ∧ ∃ zv : Value, (∀ w, (zeroValue e).run P w = .ok zv w) ∧ (Array.range (len * sz)).map (zv.cells[· % zv.cells.size]!) = zs.toArray)) := by
  split at hz
  · rename_i h0
    have h0' := beq_true_eq h0
    cases hz
    exact ⟨[], Rels.nil, by simp [h0'], .inl ⟨h0', rfl⟩⟩
  · rename_i h0
    have h0' := beq_false_ne h0
    split at hz
    · rename_i z0 hz0
      split at hz
      · rename_i hb
        cases hz
        have hl := beq_true_eq hb
        obtain ⟨zv, hzr, hrel⟩ := run_zeroA hz0 ρ
        have hlen := hrel.cells.length
        simp only [Array.length_toList] at hlen
        have hsz : zv.cells.size = sz := by rw [hlen, hl]
        have hpos : 0 < sz := by
          rcases Nat.eq_zero_or_pos sz with e | e
          · subst e; simp at h0'
          · exact e
        refine ⟨timesV len zv.cells.toList, hrel.cells.times len, by rw [timesV_length]; simp; rw [hlen, hl], .inr ⟨h0', zv, hzr, ?_⟩⟩
        have := range_times zv.cells len (by left; omega)
        rw [hsz] at this
        rw [← this, hsz]
      · cases hz
    · cases hz


/- ### nought of a shape -/
mutual
theorem zeroSh_sound : ∀ (sh : Sh) (cells : List AV) (vs : List Value) (rest : List AV), zeroSh sh cells = some rest → Rels ρ cells vs → RelSh ρ.fz sh .nul (vs.take sh.size) ∧ Rels ρ rest (vs.drop sh.size)
  | .bool, cells, vs, rest, e, hr => by
    cases cells with
    | nil => simp [zeroSh] at e
    | cons x cells =>
      cases x <;> simp only [zeroSh, reduceCtorEq] at e
      split at e
      · cases e
        simp only [Rels, Rel] at hr
        obtain ⟨v, us, rfl, rfl, hr⟩ := hr
        exact ⟨by simp [RelSh, Sh.size, D.asBool], by simpa [Sh.size] using hr⟩
      · cases e
  | .int k, cells, vs, rest, e, hr => by
    cases cells with
    | nil => simp [zeroSh] at e
    | cons x cells =>
      cases x <;> simp only [zeroSh, reduceCtorEq] at e
      split at e
      · rename_i hk
        simp only [Bool.and_eq_true, decide_eq_true_eq] at hk
        cases e
        simp only [Rels, Rel] at hr
        obtain ⟨v, us, rfl, rfl, hr⟩ := hr
        exact ⟨by simp [RelSh, Sh.size, D.asInt, hk.1, hk.2], by simpa [Sh.size] using hr⟩
      · cases e
  | .str, cells, vs, rest, e, hr => by
    cases cells with
    | nil => simp [zeroSh] at e
    | cons x cells =>
      cases x <;> simp only [zeroSh, reduceCtorEq] at e
      split at e
      · cases e
        simp only [Rels, Rel] at hr
        obtain ⟨v, us, rfl, rfl, hr⟩ := hr
        exact ⟨by simp [RelSh, Sh.size, D.asStr], by simpa [Sh.size] using hr⟩
      · cases e
  | .slice sh, cells, vs, rest, e, hr => by
    cases cells with
    | nil => simp [zeroSh] at e
    | cons x cells =>
      cases x <;> simp only [zeroSh, reduceCtorEq] at e
      cases e
      simp only [Rels, Rel] at hr
      obtain ⟨v, us, rfl, rfl, hr⟩ := hr
      exact ⟨by simp [RelSh, Sh.size, D.els, FzR], by simpa [Sh.size] using hr⟩
  | .struct fs, cells, vs, rest, e, hr => by
    simp only [zeroSh] at e
    simp only [RelSh, Sh.size]
    exact zeroShs_sound fs cells vs rest 0 e hr
theorem zeroShs_sound : ∀ (fs : List Sh) (cells : List AV) (vs : List Value) (rest : List AV) (i : Nat), zeroShs fs cells = some rest → Rels ρ cells vs → RelShs ρ.fz fs .nul i (vs.take (Sh.sizes fs)) ∧ Rels ρ rest (vs.drop (Sh.sizes fs))
  | [], cells, vs, rest, i, e, hr => by
    simp only [zeroShs] at e; cases e
    exact ⟨by simp [RelShs, Sh.sizes], by simpa [Sh.sizes] using hr⟩
  | f :: fs, cells, vs, rest, i, e, hr => by
    simp only [zeroShs] at e
    split at e
    · rename_i r h1
      obtain ⟨k1, k2⟩ := zeroSh_sound f cells vs r h1 hr
      obtain ⟨m1, m2⟩ := zeroShs_sound fs r _ rest (i + 1) e k2
      refine ⟨?_, ?_⟩
      · simp only [RelShs, Sh.sizes]
        exact ⟨vs.take f.size, (vs.drop f.size).take (Sh.sizes fs), by rw [List.take_add], by simpa [D.fld] using k1, m1⟩
      · simp only [Sh.sizes]
        rwa [List.drop_drop] at m2
    · cases e
end
theorem shT_some {t : TypeId} {sh : Sh} (h : shT P t = some sh) : sizeA P t = some sh.size ∧ ∃ z, zeroA P t = some z ∧ z.cells.length = sh.size ∧ ∀ (ρ : Rho) vs, Rels ρ z.cells vs → Rels ρ (expand sh .nul) vs := by
  unfold shT at h
  split at h
  · rename_i s n z h1 h2 h3
    split at h
    · rename_i hb hz
      cases h
      have hn := Nat.eq_of_beq_eq_true hb
      have key : ∀ (ρ : Rho) vs, Rels ρ z.cells vs → RelSh ρ.fz sh .nul vs ∧ vs.length = sh.size := fun ρ vs hr => by
        obtain ⟨k1, k2⟩ := zeroSh_sound sh _ _ _ hz hr
        have hl := k1.length
        have hnil := k2.length
        have : vs.take sh.size = vs := by
          apply List.take_of_length_le
          simp only [List.length_drop, List.length_nil] at hnil
          omega
        rw [this] at k1 hl
        exact ⟨k1, hl⟩
      refine ⟨by rw [hn]; exact h2, z, h3, ?_, fun ρ vs hr => (rels_expand _ _ _).1 (key ρ vs hr).1⟩
      obtain ⟨v, _, hrel⟩ := run_zeroA h3 ⟨fun _ => none, fun _ _ => none⟩
      have := (key _ _ hrel.cells).2
      rw [hrel.cells.length] at this
      exact this
    · cases h
  · cases h
theorem flat_replicate (e : Sh) (d : D) : ∀ n, flat e (List.replicate n d) = timesL n (expand e d)
  | 0 => rfl
  | n + 1 => by simp only [List.replicate_succ, flat, timesL, flat_replicate e d n]

/-- An operation that makes a block: on the model's side. -/
theorem alloc_real (htr : TR ρ tmps a.tmps) {o : Oper} {n : Nat} {v : AV} {x : Ent} (e : allocA P tmps n o.op = some (true, v, x)) :
    ∃ u vs ty cs, (execOp a.eval o).run P w = .ok (.value u) (w.alloc (.cells vs.toArray ty)) ∧ x.view = some (false, cs) ∧ Rels ρ cs vs ∧ ∀ ρ' : Rho, ρ' n = some (w.heap.size, 0, vs.length) → Rel ρ' v u := by
  obtain ⟨dst, op, type, pos, after, guard⟩ := o
  simp only at e
  unfold allocA at e
  split at e
  · rename_i t
    split at e
    · rename_i z hz
      cases e
      obtain ⟨zv, hzr, hrel⟩ := run_zeroA hz ρ
      refine ⟨.pointer (some ⟨w.heap.size, 0, none⟩), zv.cells.toList, t, _, ?_, rfl, hrel.cells, fun ρ' hρ' => by simp only [Rel]; exact ⟨_, _, _, hρ', rfl⟩⟩
      simp [execOp, Instr.alloc, hzr, newVar, newRow]
    · cases e
  · rename_i t x
    split at e
    · rename_i v0 hv
      cases e
      have hrel := ev_sound htr hv
      refine ⟨.pointer (some ⟨w.heap.size, 0, none⟩), (a.eval x).cells.toList, t, _, ?_, rfl, hrel.cells, fun ρ' hρ' => by simp only [Rel]; exact ⟨_, _, _, hρ', rfl⟩⟩
      simp [execOp, Instr.box, newVar, newRow]
    · cases e
  · rename_i t len parts
    split at e
    · rename_i e0 l ht hl
      split at e
      · rename_i sz hs
        split at e
        · cases e
        · rename_i hsm
          have hsm' := Nat.le_of_ble_eq_true hsm
          split at e
          · cases e
          · rename_i z hz
            split at e
            · rename_i cs0 hf
              cases e
              obtain ⟨zs, hzrel, hzl, hcase⟩ := zeros_sound hz ρ
              obtain ⟨r', hr', hrel⟩ := fill_fillA (ρ := ρ) (placeV := fun i => some (i * sz, sz)) (by intro i x hx; exact hx) l _ z zs _ hf (evParts_sound htr hl) hzrel
              refine ⟨.slice (some ⟨w.heap.size, 0, none⟩) len len, r', e0, _, ?_, rfl, hrel, fun ρ' hρ' => by simp only [Rel]; exact ⟨_, _, _, hρ', Nat.le_refl _, rfl⟩⟩
              have hnot : ¬ len * sz > 2 ^ 24 := by omega
              have hq := parts_toArray parts a.eval
              generalize (parts.toList.map fun (i, x) => (i, a.eval x)) = qs at hq hr'
              simp only [execOp]
              rw [hq]
              rcases hcase with ⟨h0, rfl⟩ | ⟨h0, zv, hzr, hmap⟩
              · have hm0 : (Array.range (len * sz)).map (fun i => (#[] : Array Value)[i % (#[] : Array Value).size]!) = (#[] : Array Value) := by apply Array.ext'; simp [h0]
                simp only [Instr.buildSlice, Sem.run_bind, run_underlying ht, run_sizeA hs, Result.andThen_ok, Sem.run_ite, hnot, if_false, if_pos h0, Sem.run_pure, hm0, hr', newRow, run_newObj]
                rfl
              · simp only [Instr.buildSlice, Sem.run_bind, run_underlying ht, run_sizeA hs, Result.andThen_ok, Sem.run_ite, hnot, if_false, if_neg h0, Sem.run_pure, hzr, hmap, hr', newRow, run_newObj]
                rfl
            · cases e
      · cases e
    · cases e
  · rename_i t l c
    split at e
    · rename_i e0 k1 l0 k2 c0 ht hl hc
      split at e
      · rename_i sh by_ hsh hby
        simp only [Option.some.injEq, Prod.mk.injEq, Bool.and_eq_true, decide_eq_true_eq] at e
        obtain ⟨⟨⟨⟨h0, hlc⟩, hmax⟩, hbytes⟩, rfl, rfl⟩ := e
        obtain ⟨hs, z, hz, hzl, hznul⟩ := shT_some hsh
        obtain ⟨zv, hzr, hrel⟩ := run_zeroA hz ρ
        have hlen := hrel.cells.length
        simp only [Array.length_toList] at hlen
        have hzs : zv.cells.size = sh.size := by rw [hlen, hzl]
        have r1 := ev_sound htr hl
        have r2 := ev_sound htr hc
        simp only [Rel] at r1 r2
        obtain ⟨i, hi, hib⟩ := run_bytesA hby
        have hflat : Rels ρ (flat sh (List.replicate c0.toNat .nul)) (timesV c0.toNat zv.cells.toList) := by
          rw [flat_replicate]
          exact Rels.times (hznul ρ _ hrel.cells) _
        have hvl := hflat.length
        refine ⟨.slice (some ⟨w.heap.size, 0, none⟩) l0.toNat c0.toNat, timesV c0.toNat zv.cells.toList, e0, _, ?_, rfl, hflat, fun ρ' hρ' => ?_⟩
        · have hw1 : IntKind.i64.wrap l0 = l0 := IntWalk.i64_in _ (by omega)
          have hw2 : IntKind.i64.wrap c0 = c0 := IntWalk.i64_in _ (by omega)
          have hti : ∀ w, (typeInfo e0).run P w = .ok i w := fun w => by simp [typeInfo, hi]
          have hcond : (((decide (c0 < 0) || decide ((i.bytes : Int) * c0 > 2 ^ 48)) || decide (l0 < 0)) || decide (l0 > c0)) = false := by
            rw [hib]; simp only [Bool.or_eq_false_iff, decide_eq_false_iff_not]; omega
          simp only [execOp]
          rw [r1, r2]
          by_cases hz0 : c0.toNat * sh.size = 0
          · have hm0 : (Array.range (c0.toNat * sh.size)).map (fun i => (#[] : Array Value)[i % (#[] : Array Value).size]!) = (timesV c0.toNat zv.cells.toList).toArray := by
              apply Array.ext'
              have : timesV c0.toNat zv.cells.toList = [] := by
                apply List.eq_nil_of_length_eq_zero
                rw [timesV_length, Array.length_toList, hzs]; exact hz0
              rw [this]
              simp [hz0]
            simp only [Instr.makeSlice, Sem.run_bind, run_underlying ht, Result.andThen_ok, asInt, asIntOf, Sem.run_pure, hti, hw1, hw2, hcond, Bool.false_eq_true, if_false, run_askRoom, run_sizeA hs, Sem.run_ite, if_pos hz0, hm0, newRow, run_newObj]
            rfl
          · have hpos : 0 < sh.size := by
              rcases Nat.eq_zero_or_pos sh.size with e | e
              · rw [e] at hz0; simp at hz0
              · exact e
            have hmap : (Array.range (c0.toNat * sh.size)).map (zv.cells[· % zv.cells.size]!) = (timesV c0.toNat zv.cells.toList).toArray := by
              have := range_times zv.cells c0.toNat (by left; omega)
              rw [hzs] at this
              rw [← this, hzs]
            simp only [Instr.makeSlice, Sem.run_bind, run_underlying ht, Result.andThen_ok, asInt, asIntOf, Sem.run_pure, hti, hw1, hw2, hcond, Bool.false_eq_true, if_false, run_askRoom, run_sizeA hs, Sem.run_ite, if_neg hz0, hzr, hmap, newRow, run_newObj]
            rfl
        · simp only [Rel]
          refine ⟨_, _, _, hρ', .inr ⟨c0.toNat, by simp only [Cap.top]; omega, by simp [Cap.top], rfl, ?_, .inl (by simp)⟩⟩
          rw [hvl, flat_length]
          simp
      · cases e
    · cases e
  · cases e

/- ### what is taken over -/
variable {h : Hp} {s : St}
theorem lenOf_slice {u : Value} {p : Option Addr} {n c : Nat} (hu : u = .slice p n c) : ∀ w, (Builtin.lenOf u).run P w = .ok n w := fun w => by subst hu; rfl
theorem readL_flat {e : Sh} {l : List D} {off len : Nat} (hle : off + len ≤ l.length) : readL (flat e l) (off * e.size) (len * e.size) = some (flat e ((l.drop off).take len)) := by
  unfold readL
  have : off * e.size + len * e.size ≤ (flat e l).length := by rw [flat_length, ← Nat.add_mul]; exact Nat.mul_le_mul_right _ hle
  rw [Nat.ble_eq_true_of_le this, flat_take, flat_drop]
theorem flat_of_els {sh : Sh} : ∀ (ds : List D) (vs : List Value), vs.length = ds.length * sh.size → (∀ (i : Nat) (d : D), ds[i]? = some d → RelSh ρ.fz sh d ((vs.drop (i * sh.size)).take sh.size)) → Rels ρ (flat sh ds) vs
  | [], vs, hl, hr => by
    have : vs = [] := by apply List.eq_nil_of_length_eq_zero; simpa using hl
    subst this; exact Rels.nil
  | d :: ds, vs, hl, hr => by
    simp only [List.length_cons, Nat.add_mul, Nat.one_mul] at hl
    have h0 := hr 0 d rfl
    simp only [Nat.zero_mul, List.drop_zero] at h0
    rw [show vs = vs.take sh.size ++ vs.drop sh.size from (List.take_append_drop _ _).symm]
    refine Rels.append ((rels_expand _ _ _).1 h0) (flat_of_els ds _ (by simp; omega) (fun i d' hd => ?_))
    have := hr (i + 1) d' (by simpa using hd)
    rw [List.drop_drop]
    rwa [show (i + 1) * sh.size = sh.size + i * sh.size by rw [Nat.add_mul]; omega] at this
/-- The cells of a slice of memory that nobody writes. -/
theorem fz_cells {sh : Sh} {B : Nat} : ∀ (l : List D) (o : Nat), (∀ (i : Nat) (d : D), l[i]? = some d → ∃ vs, RelSh ρ.fz sh d vs ∧ ∀ (j : Nat) (u : Value), vs[j]? = some u → ρ.fz B (o + i * sh.size + j) = some u) →
    ∃ vs, Rels ρ (flat sh l) vs ∧ vs.length = l.length * sh.size ∧ ∀ (j : Nat) (u : Value), vs[j]? = some u → ρ.fz B (o + j) = some u
  | [], o, hx => ⟨[], Rels.nil, by simp, fun j u hu => by simp at hu⟩
  | d :: l, o, hx => by
    obtain ⟨vs0, h1, h2⟩ := hx 0 d rfl
    obtain ⟨vs, k1, k2, k3⟩ := fz_cells l (o + sh.size) (fun i d' hd => by
      obtain ⟨vs', m1, m2⟩ := hx (i + 1) d' (by simpa using hd)
      refine ⟨vs', m1, fun j u hu => ?_⟩
      have := m2 j u hu
      rwa [show o + (i + 1) * sh.size + j = o + sh.size + i * sh.size + j by rw [Nat.add_mul]; omega] at this)
    have hl := h1.length
    refine ⟨vs0 ++ vs, Rels.append ((rels_expand _ _ _).1 h1) k1, by simp only [List.length_append, List.length_cons, Nat.add_mul, Nat.one_mul]; omega, fun j u hu => ?_⟩
    by_cases hj : j < vs0.length
    · rw [List.getElem?_append_left hj] at hu
      have := h2 j u hu
      rwa [show o + 0 * sh.size + j = o + j by omega] at this
    · rw [List.getElem?_append_right (by omega)] at hu
      have := k3 _ u hu
      rwa [show o + sh.size + (j - vs0.length) = o + j by omega] at this

/-- What append and copy take over, in the model. -/
structure SrcOk (P : Program) (ρ : Rho) (w : World) (sh : Sh) (u : Value) (new : List D) (vs : List Value) : Prop where
  len : ∀ w, (Builtin.lenOf u).run P w = .ok new.length w
  rel : Rels ρ (flat sh new) vs
  run : ∀ m n, n ≤ new.length → (Builtin.firstCells sh.size n u).run P { w with drawn := m } = .ok (vs.take (n * sh.size)).toArray { w with drawn := m }
theorem src_sound (hr : HR ρ h w) (ha : Agree s h) {sh : Sh} {x : AV} {u : Value} {new : List D} {fr : List Nat} {sure : Bool} (e : srcS s sh x = some (true, new, fr, sure)) (hx : Rel ρ x u) {ρ' : Rho} (hle : ρ.le ρ') (hfzh : ∀ (B o : Nat) (v : Value), ρ'.fz B o = some v → w.cell? ⟨B, o, none⟩ = some v) (hF : FrzAll ρ' s fr) :
    (∃ vs, SrcOk P ρ' w sh u new vs) ∧ (sure = true → 0 < new.length) := by
  have readV : ∀ (m B o : Nat) (vs : List Value) (n : Nat), (∀ (j : Nat) (v : Value), vs[j]? = some v → w.cell? ⟨B, o + j, none⟩ = some v) → n ≤ vs.length → (loadCells ⟨B, o, none⟩ n).run P { w with drawn := m } = .ok (vs.take n).toArray { w with drawn := m } := fun m B o vs n hc hn => by
    have := run_loadCells_list (P := P) { w with drawn := m } ⟨B, o, none⟩ (vs.take n) (fun j v hj => by
      rw [Addr.add_lit]
      show w.cell? _ = _
      apply hc
      rw [List.getElem?_take] at hj
      split at hj
      · exact hj
      · cases hj)
    rwa [show (vs.take n).length = n by simp; omega] at this
  unfold srcS at e
  split at e
  · cases e
    simp only [Rel] at hx
    subst hx
    exact ⟨⟨[], fun w => rfl, Rels.nil, fun m n hn => by simp at hn; subst hn; simp [Builtin.firstCells]⟩, fun e => by cases e⟩
  · rename_i nn e' l
    split at e
    · rename_i hb
      have := Sh.beq_eq _ _ hb
      subst this
      cases e
      have hx' := Rel.mono hle _ _ hx
      simp only [Rel] at hx'
      refine ⟨?_, fun e => by cases e⟩
      rcases hx' with ⟨_, rfl, rfl⟩ | ⟨B, o, cap, rfl, hc, hel⟩ | ⟨rfl, ad, c, rfl⟩
      · exact ⟨[], fun w => rfl, Rels.nil, fun m n hn => by simp at hn; subst hn; simp [Builtin.firstCells]⟩
      rotate_left
      · refine ⟨[], fun w => rfl, Rels.nil, fun m n hn => ?_⟩
        simp at hn
        subst hn
        have := run_loadCells_list (P := P) { heap := w.heap, tape := w.tape, drawn := m, os := w.os, output := w.output } ad [] (fun j v hj => by simp at hj)
        simp only [Builtin.firstCells, Nat.zero_mul]
        exact this
      · obtain ⟨vs, h1, h2, h3⟩ := fz_cells new o hel
        refine ⟨vs, fun w => rfl, h1, fun m n hn => ?_⟩
        simp only [Builtin.firstCells]
        exact readV m B o vs _ (fun j v hj => hfzh _ _ _ (h3 j v hj)) (by rw [h2]; exact Nat.mul_le_mul_right _ hn)
    · cases e
  · rename_i nn e' b off len cap
    split at e
    · rename_i ro e'' l hb
      split at e
      · rename_i hbe
        simp only [Bool.and_eq_true] at hbe
        have e1 := Sh.beq_eq _ _ hbe.1
        have e2 := Sh.beq_eq _ _ hbe.2
        subst e1; subst e2
        simp only [Option.some.injEq, Prod.mk.injEq] at e
        obtain ⟨hle', rfl, rfl, rfl⟩ := e
        have hle' := Nat.le_of_ble_eq_true hle'
        have hll : ((l.drop off).take len).length = len := by simp; omega
        refine ⟨?_, fun e => by cases e⟩
        have hbl : b < s.length := (List.getElem?_eq_some_iff.1 hb).1
        simp only [Rel] at hx
        obtain ⟨B, o, r, hρ, hx⟩ := hx
        have H := hr.cell b B o r _ ro _ hρ (by rw [ha b hbl]; exact hb) rfl
        rcases hx with ⟨_, rfl, _, _, rfl⟩ | ⟨c, _, _, _, _, rfl | ⟨rfl, y, rfl⟩⟩
        · refine ⟨[], fun w => by simp [Builtin.lenOf], by simp [flat, Rels], fun m n hn => ?_⟩
          rw [hll] at hn
          obtain rfl : n = 0 := by omega
          simp [Builtin.firstCells]
        · obtain ⟨us, u1, u2, _⟩ := H.vals
          have hul := u1.length
          rw [flat_length] at hul
          refine ⟨(us.drop (off * sh.size)).take (len * sh.size), fun w => by rw [hll]; rfl, ?_, fun m n hn => ?_⟩
          · rw [flat_take, flat_drop]
            exact Rels.mono hle _ _ ((u1.drop _).take _)
          · rw [hll] at hn
            simp only [Builtin.firstCells]
            refine readV m B (o + off * sh.size) _ _ (fun j v hj => ?_) ?_
            · rw [List.getElem?_take] at hj
              split at hj
              · rw [List.getElem?_drop] at hj
                rw [Nat.add_assoc]
                exact u2 _ v hj
              · cases hj
            · have h1 : n * sh.size ≤ len * sh.size := Nat.mul_le_mul_right _ hn
              have h2 : (off + len) * sh.size ≤ l.length * sh.size := Nat.mul_le_mul_right _ hle'
              rw [Nat.add_mul] at h2
              simp
              omega
        · have hlen0 : len = 0 := by simp only [Cap.top] at *; omega
          subst hlen0
          refine ⟨[], fun w => by simp [Builtin.lenOf], by simp [flat, Rels], fun m n hn => ?_⟩
          rw [hll] at hn
          obtain rfl : n = 0 := by omega
          simp [Builtin.firstCells, loadCells, loadCellsFrom]
      · cases e
    · cases e
  · rename_i b off len cap
    split at e
    · rename_i cs hb
      split at e
      · rename_i l0 hl
        split at e
        · rename_i g ds fr1 hc
          simp only [Option.some.injEq, Prod.mk.injEq] at e
          obtain ⟨rfl, rfl, rfl, rfl⟩ := e
          have hbl : b < s.length := (List.getElem?_eq_some_iff.1 hb).1
          simp only [Rel] at hx
          obtain ⟨B, o, r, hρ, hlc, rfl⟩ := hx
          have H := hr.cell b B o r _ false _ hρ (by rw [ha b hbl]; exact hb) rfl
          obtain ⟨us, u1, u2, _⟩ := H.vals
          have hul := u1.length
          obtain ⟨hle0, rfl⟩ := readL_some hl
          obtain ⟨k1, k2, k3⟩ := els_sound (ρ := ρ') (s := s) (R := fun d vs => RelSh ρ'.fz sh d vs) (sz := sh.size) (fun cells vs d rest fr => coll_sound sh cells vs d rest fr) len _ _ _ [] _ hc (Rels.mono hle _ _ ((u1.drop off).take (len * sh.size))) hF
          refine ⟨⟨(us.drop off).take (len * sh.size), fun w => by rw [k1]; rfl, flat_of_els _ _ (by rw [k1]; simp; omega) k2, fun m n hn => ?_⟩, fun e => by rw [k1]; simpa [Nat.blt_eq] using e⟩
          rw [k1] at hn
          have hnl : n * sh.size ≤ len * sh.size := Nat.mul_le_mul_right _ hn
          simp only [Builtin.firstCells]
          refine readV m B (o + off) _ _ (fun j v hj => ?_) (by simp; omega)
          rw [List.getElem?_take] at hj
          split at hj
          · rw [List.getElem?_drop] at hj
            rw [Nat.add_assoc]
            exact u2 _ v hj
          · cases hj
        · cases e
      · cases e
    · cases e
  · rename_i y
    split at e
    · cases e
      have := hx.str_inv
      subst this
      refine ⟨⟨y.map fun b => .int .u8 b.toNat, fun w => by simp [Builtin.lenOf, size_mk], ?_, fun m n hn => ?_⟩, fun e => by cases e⟩
      · clear hx hF
        induction y with
        | nil => exact Rels.nil
        | cons c y ih => simp only [List.map_cons, flat, expand, List.singleton_append]; exact Rels.cons (by simp [Rel, D.asInt]) ih
      · simp only [Builtin.firstCells, Sem.run_pure, Sh.size, Nat.mul_one]
        congr 1
        apply Array.ext'
        simp [ByteArray.data_extract, List.map_take]
    · cases e
  · cases e
theorem src_ids (hC : ∀ b cs, s[b]? = some (.cells cs) → ρ b ≠ none → ∃ vs, Rels ρ cs vs) {sh : Sh} {x : AV} {u : Value} {g : Bool} {new : List D} {fr : List Nat} {sure : Bool} (e : srcS s sh x = some (g, new, fr, sure)) (hx : Rel ρ x u) : ∀ b ∈ fr, ρ b ≠ none := by
  unfold srcS at e
  split at e
  · cases e; exact fun b hb => by simp at hb
  · split at e
    · cases e; exact fun b hb => by simp at hb
    · cases e
  · split at e
    · split at e
      · cases e; exact fun b hb => by simp at hb
      · cases e
    · cases e
  · split at e
    · rename_i cs hb
      split at e
      · rename_i l0 hl
        split at e
        · rename_i g ds fr1 hc
          cases e
          simp only [Rel] at hx
          obtain ⟨B, o, r, hρ, hlc, rfl⟩ := hx
          obtain ⟨vs0, h1⟩ := hC _ cs hb (by rw [hρ]; simp)
          obtain ⟨hle, rfl⟩ := readL_some hl
          exact (els_ids (fun cells vs g d rest fr => coll_ids hC sh cells vs g d rest fr) _ _ _ _ _ [] fr hc ((h1.drop _).take _)).1
        · cases e
      · cases e
    · cases e
  · split at e
    · cases e; exact fun b hb => by simp at hb
    · cases e
  · cases e
end
end Go.Sy

/- append, copy, clear; stores. -/
set_option linter.unusedSimpArgs false
set_option linter.unusedVariables false
namespace Go.Sy
open Go

theorem freeze_get {b : Nat} {e : Sh} {l : List D} : ∀ (fr : List Nat) (s : St), (freeze s fr)[b]? = some (.tbl false e l) → s[b]? = some (.tbl false e l)
  | [], s, h => h
  | c :: cs, s, h => by
    simp only [freeze] at h
    split at h
    · rename_i x hx
      have := freeze_get cs _ h
      rw [List.getElem?_set] at this
      split at this
      · split at this
        · cases x <;> simp [freezeE] at this
        · cases this
      · exact this
    · exact freeze_get cs s h
theorem freeze_get' {b : Nat} {ro : Bool} {e : Sh} {l : List D} : ∀ (fr : List Nat) (s : St), (freeze s fr)[b]? = some (.tbl ro e l) → ∃ ro', s[b]? = some (.tbl ro' e l)
  | [], s, h => ⟨ro, h⟩
  | c :: cs, s, h => by
    simp only [freeze] at h
    split at h
    · rename_i x hx
      obtain ⟨ro', this⟩ := freeze_get' cs _ h
      rw [List.getElem?_set] at this
      split at this
      · split at this
        · rename_i hcb _
          subst hcb
          cases x <;> simp [freezeE] at this
          obtain ⟨_, rfl, rfl⟩ := this
          exact ⟨_, hx⟩
        · cases this
      · exact ⟨ro', this⟩
    · exact freeze_get' cs s h

theorem writeV_seg (us vs : List Value) (k sz fo : Nat) (hfo : fo + vs.length ≤ sz) :
    writeV us (k + fo) vs = us.take k ++ (writeV ((us.drop k).take sz) fo vs ++ us.drop (k + sz)) := by
  unfold writeV
  have h1 : us.take (k + fo) = us.take k ++ ((us.drop k).take sz).take fo := by
    rw [List.take_take, Nat.min_eq_left (by omega), List.take_add]
  have key : ∀ (X : List Value) (n : Nat), n ≤ sz → X.drop n = (X.take sz).drop n ++ X.drop sz := fun X n hn => by
    rw [List.drop_take, show X.drop sz = (X.drop n).drop (sz - n) by rw [List.drop_drop]; congr 1; omega, List.take_append_drop]
  have h2 : us.drop (k + fo + vs.length) = ((us.drop k).take sz).drop (fo + vs.length) ++ us.drop (k + sz) := by
    rw [show k + fo + vs.length = k + (fo + vs.length) by omega, ← List.drop_drop (i := fo + vs.length), ← List.drop_drop (i := sz)]
    exact key _ _ hfo
  rw [h1, h2]
  simp only [List.append_assoc]

section
variable {P : Program} {ρ : Rho} {h : Hp} {w : World} {s : St}

/-- Where there is room. -/
theorem run_append_in {t u0 ty e0 : TypeId} {d : TypeDesc} {base : Option Addr} {sLen sCap m sz : Nat} {xu : Value} {news : List Value}
    (ht : P.underlying t = some (.slice e0)) (hu : P.underlying u0 = some d) (hd : ∀ k, d ≠ .int k) (hs : sizeA P e0 = some sz) (hl : ∀ w, (Builtin.lenOf xu).run P w = .ok m w)
    (hf : (Builtin.firstCells sz m xu).run P w = .ok news.toArray w) (hroom : sLen + m ≤ sCap) {w' : World}
    (hst : (match base with | some a => storeCells (a.add (sLen * sz)) news | none => pure () : Sem Unit).run P w = .ok () w') :
    (Builtin.append_ #[t, u0] ty #[.slice base sLen sCap, xu]).run P w = .ok (.slice base (sLen + m) sCap) w' := by
  have hz : (match d with | .int _ => true | _ => false) = false := by cases d <;> first | rfl | exact absurd rfl (hd _)
  cases base with
  | none =>
    simp only [Sem.run_pure, Result.ok.injEq, true_and] at hst
    subst hst
    simp [Builtin.append_, run_underlying ht, run_underlying hu, run_sizeA hs, hz, hl, hroom, hf]
  | some a =>
    simp only at hst
    simp [Builtin.append_, run_underlying ht, run_underlying hu, run_sizeA hs, hz, hl, hroom, hf, hst]

/-- Where there is none: a new array. -/
theorem run_append_out {t u0 ty e0 : TypeId} {d : TypeDesc} {base : Option Addr} {sLen sCap m sz by_ : Nat} {xu : Value} {olds news : List Value} {z : AV}
    (ht : P.underlying t = some (.slice e0)) (hu : P.underlying u0 = some d) (hd : ∀ k, d ≠ .int k) (hs : sizeA P e0 = some sz) (hby : bytesA P e0 = some by_) (hz0 : zeroA P e0 = some z) (hzl : z.cells.length = sz)
    (hl : ∀ w, (Builtin.lenOf xu).run P w = .ok m w)
    (ho' : (Builtin.firstCells sz sLen (.slice base sLen sCap)).run P w.drew = .ok olds.toArray w.drew)
    (hf' : (Builtin.firstCells sz m xu).run P w.drew = .ok news.toArray w.drew)
    (hno : ¬ sLen + m ≤ sCap) (hb0 : 0 < by_) (hbytes : (3 * (sLen + m) + 2000) * by_ ≤ 281474976710656) :
    ∃ newCap rest, sLen + m ≤ newCap ∧ rest.length = (newCap - (sLen + m)) * sz ∧
      (Builtin.append_ #[t, u0] ty #[.slice base sLen sCap, xu]).run P w = .ok (.slice (some ⟨w.heap.size, 0, none⟩) (sLen + m) newCap) (w.drew.alloc (.cells (olds ++ news ++ rest).toArray e0)) := by
  have hz : (match d with | .int _ => true | _ => false) = false := by cases d <;> first | rfl | exact absurd rfl (hd _)
  obtain ⟨zv, hzr, hrel⟩ := run_zeroA hz0 ⟨fun _ => none, fun _ _ => none⟩
  have hzs := hrel.cells.length
  simp only [Array.length_toList] at hzs
  obtain ⟨i, hi, hib⟩ := run_bytesA hby
  have hti : ∀ w, (typeInfo e0).run P w = .ok i w := fun w => by simp [typeInfo, hi]
  have hcapge : sLen + m ≤ grownCap w (sLen + m) sCap e0 := grownCap_ge w _ _ _
  have hnx : ¬ Builtin.nextslicecap (sLen + m) sCap * i.bytes > 2 ^ 48 := by
    have h1 := nextslicecap_le (need := sLen + m) (old := sCap) (by omega)
    have h2 : Builtin.nextslicecap (sLen + m) sCap * i.bytes ≤ (3 * (sLen + m) + 2000) * by_ := by
      rw [hib]; exact Nat.mul_le_mul_right _ (by omega)
    omega
  have hcond : ¬ (((sLen + m : Nat) : Int) > IntKind.i64.max ∧ (false = true ∨ i.bytes = 0)) := fun hc => by
    rcases hc.2 with q | q
    · cases q
    · omega
  have hb00 : ¬ i.bytes = 0 := by omega
  have hrest : ∃ rest : List Value, Builtin.zeroCells zv.cells (grownCap w (sLen + m) sCap e0 - (sLen + m)) = rest.toArray ∧ rest.length = (grownCap w (sLen + m) sCap e0 - (sLen + m)) * sz := by
    refine ⟨(Builtin.zeroCells zv.cells (grownCap w (sLen + m) sCap e0 - (sLen + m))).toList, by simp, ?_⟩
    rw [Array.length_toList, size_zeroCells, hzs, hzl]
  obtain ⟨rest, hr1, hr2⟩ := hrest
  refine ⟨grownCap w (sLen + m) sCap e0, rest, hcapge, hr2, ?_⟩
  have hforced : (Question.appendCap (sLen + m) sCap e0).forced = false := rfl
  simp only [Builtin.append_, List.getElem?_toArray, List.getElem?_cons_zero, List.getElem?_cons_succ, Sem.run_bind, run_underlying ht, run_underlying hu, Result.andThen_ok, run_sizeA hs, Sem.run_pure, hz, Bool.false_eq_true, if_false, hl, if_neg hno, hti]
  simp only [Bool.not_false, if_true, Sem.run_ite, if_neg hcond, if_neg hnx, Sem.run_bind, run_choose, hforced, Bool.false_eq_true, if_false, Result.andThen_ok, run_askRoom, hti, World.drew_eq]
  rw [show ((Question.appendCap (sLen + m) sCap e0).cut (w.tape w.drawn (.appendCap (sLen + m) sCap e0))) = grownCap w (sLen + m) sCap e0 from rfl]
  simp only [ho', hf', Result.andThen_ok, hzr, hr1, newRow, Sem.run_bind, run_newObj, Sem.run_pure, World.size_drew]
  simp [World.alloc_eq, hb00]
  rfl


theorem run_ok {g : Bool} {v v' : AV} {s s' : St} {tch tch' : List Nat} (e : (RT.ok g v s tch).run = some (v', s', tch')) : g = true ∧ v' = v ∧ s' = s ∧ tch' = tch := by
  simp only [RT.run] at e
  split at e
  · cases e; exact ⟨rfl, rfl, rfl, rfl⟩
  · cases e

/- ### stores -/
theorem store_sound (hr : HR ρ h w) (ha : Agree s h) {t : TypeId} {p v x : AV} {pu vu : Value} {s' : St} {tch : List Nat} (e : (storeS P s t p v).run = some (x, s', tch)) (hp : Rel ρ p pu) (hv : Rel ρ v vu) :
    ∃ w' ρ', (Instr.storeAt t pu vu).run P w = .ok () w' ∧ Post ρ h w s ρ' (upd s' h) w' s' ∧ x = undefA := by
  unfold storeS at e
  split at e
  · cases e
  · rename_i n hn
    split at e
    · cases e
    · rename_i hchk
      simp only [Bool.and_eq_true] at hchk
      have hlen := hv.cells.length
      simp only [Array.length_toList] at hlen
      have hl' := beq_true_eq hchk.1
      have hone := hv.cells.oneCell hchk.2
      split at e
      · rename_i b off
        split at e
        · rename_i cs hb
          split at e
          · rename_i hfit
            have hfit := Nat.le_of_ble_eq_true hfit
            obtain ⟨_, rfl, rfl, rfl⟩ := run_ok e
            simp only [Rel] at hp
            obtain ⟨B, o, r, hρ, rfl⟩ := hp
            obtain ⟨h1, h2⟩ := write_post (P := P) (off := off) (x' := .cells (writeL cs off v.cells)) (cs' := writeL cs off v.cells) (vs := vu.cells.toList) hr ha hb rfl hρ (by simp; omega) hone (by rw [writeL_length _ _ _ hfit]) (fun us hus => hus.write hv.cells) rfl
            refine ⟨_, ρ, ?_, h2, rfl⟩
            simp [Instr.storeAt, Instr.sureAddr, storeVar, run_sizeA hn, hlen, hl', h1]
          · cases e
        · cases e
      · rename_i sh b i fo
        split at e
        · rename_i e' l hb
          split at e
          · cases e
          · rename_i hbe
            simp only [Bool.and_eq_true] at hbe
            have he := Sh.beq_eq _ _ hbe.1
            subst he
            have hfo := Nat.le_of_ble_eq_true hbe.2
            split at e
            · rename_i g d fr hc
              split at e
              · rename_i e1 l1 hfb
                obtain ⟨hg, rfl, rfl, rfl⟩ := run_ok e
                simp only [Bool.and_eq_true, decide_eq_true_eq] at hg
                obtain ⟨rfl, hi⟩ := hg
                simp only [Rel] at hp
                obtain ⟨B, o, r, hρ, rfl⟩ := hp
                have hbl : b < s.length := (List.getElem?_eq_some_iff.1 hb).1
                have H := hr.cell b B o r _ false _ hρ (by rw [ha b hbl]; exact hb) rfl
                obtain ⟨us0, u1, _, _⟩ := H.vals
                -- the blocks that must not be written any more
                have hsegR : ∀ (ρ1 : Rho) us, Rels ρ1 (flat sh l) us → Rels ρ1 (expand sh (l.getD i .nul)) ((us.drop (i * sh.size)).take sh.size) := fun ρ1 us hus => by
                  rw [← flat_getD sh l i hi]
                  exact (hus.drop _).take _
                have hids := (coll_ids (hr.cellsOf ha) sh _ _ true d [] fr hc ((hsegR ρ us0 u1).write hv.cells)).1
                obtain ⟨ρ1, hp1, hat, hF⟩ := freeze_post fr hr ha hids
                have hfb' := freeze_get fr s hfb
                rw [hb] at hfb'; cases hfb'
                have hseg : ∀ us, Rels ρ1 (flat sh l) us → Rels ρ1 (flat sh (l.set i d)) (writeV us (i * sh.size + fo) vu.cells.toList) := fun us hus => by
                  have hw1 := (hsegR ρ1 us hus).write (off := fo) (Rels.mono hp1.ext _ _ hv.cells)
                  obtain ⟨c1, c2⟩ := coll_sound (ρ := ρ1) (s := s) sh _ _ d [] fr hc hw1 hF
                  have hul := hus.length
                  rw [flat_length] at hul
                  have hnil := c2.length
                  have htake : (writeV ((us.drop (i * sh.size)).take sh.size) fo vu.cells.toList).take sh.size = writeV ((us.drop (i * sh.size)).take sh.size) fo vu.cells.toList := by
                    apply List.take_of_length_le
                    simp only [List.length_drop, List.length_nil] at hnil
                    omega
                  rw [htake] at c1
                  rw [flat_set sh l i d hi, writeV_seg _ _ _ sh.size _ (by simp; omega), show i * sh.size + sh.size = (i + 1) * sh.size by rw [Nat.add_mul]; omega]
                  exact (hus.take _).append (((rels_expand _ _ _).1 c1).append (hus.drop _))
                have hpos : i * sh.size + fo + vu.cells.toList.length ≤ (flat sh l).length := by
                  rw [flat_length]
                  have : (i + 1) * sh.size ≤ l.length * sh.size := Nat.mul_le_mul_right _ hi
                  rw [Nat.add_mul] at this
                  simp
                  omega
                obtain ⟨h1, h2⟩ := write_post (P := P) (off := i * sh.size + fo) (x' := .tbl false sh (l.set i d)) (cs' := flat sh (l.set i d)) (vs := vu.cells.toList) hp1.hr hp1.agree hfb rfl (by rw [hat]; exact hρ) hpos hone (by rw [flat_length, flat_length, List.length_set]) hseg rfl
                have h3 := hp1.trans h2
                rw [upd_upd (by rw [List.length_set]; exact Nat.le_refl _)] at h3
                refine ⟨_, ρ1, ?_, h3, rfl⟩
                simp [Instr.storeAt, Instr.sureAddr, storeVar, run_sizeA hn, hlen, hl', h1]
              · cases e
            · cases e
        · cases e
      · cases e

/- ### copy, clear -/
theorem Rel.tsl_addr {nn : Bool} {e : Sh} {b off len : Nat} {cap : Cap} {u : Value} (hx : Rel ρ (.tsl nn e b off len cap) u) : ∃ B o r, ρ b = some (B, o, r) ∧ ((∃ c, u = .slice (some ⟨B, o + off * e.size, none⟩) len c ∧ off * e.size + len * e.size ≤ r) ∨ (len = 0 ∧ ∃ p, u = .slice p 0 0)) := by
  simp only [Rel] at hx
  obtain ⟨B, o, r, hρ, ⟨_, rfl, _, _, rfl⟩ | ⟨c, h1, h2, _, h4, rfl | ⟨rfl, x, rfl⟩⟩⟩ := hx
  · exact ⟨B, o, r, hρ, .inr ⟨rfl, _, rfl⟩⟩
  · refine ⟨B, o, r, hρ, .inl ⟨c, rfl, ?_⟩⟩
    have : len * e.size ≤ c * e.size := Nat.mul_le_mul_right _ (by omega)
    omega
  · have hlen0 : len = 0 := by omega
    subst hlen0
    exact ⟨B, o, r, hρ, .inr ⟨rfl, _, rfl⟩⟩
theorem flat_mid {e : Sh} {l new : List D} {off : Nat} {us vs : List Value} (hu : Rels ρ (flat e l) us) (hv : Rels ρ (flat e new) vs) : Rels ρ (flat e (l.take off ++ (new ++ l.drop (off + new.length)))) (writeV us (off * e.size) vs) := by
  have hl := hv.length
  rw [flat_length] at hl
  unfold writeV
  rw [flat_append, flat_append, flat_take, flat_drop, Nat.add_mul, hl]
  exact (hu.take _).append (hv.append (hu.drop _))
theorem copy_sound (hr : HR ρ h w) (ha : Agree s h) {e0 t u0 ty : TypeId} {d x v : AV} {du xu : Value} {s' : St} {tch : List Nat} (ht : P.underlying t = some (.slice e0)) (e : (copyS P s e0 d x).run = some (v, s', tch)) (hd : Rel ρ d du) (hx : Rel ρ x xu) :
    ∃ r w', (Builtin.copy_ #[t, u0] ty #[du, xu]).run P w = .ok r w' ∧ Post ρ h w s ρ (upd s' h) w' s' ∧ Rel ρ v r := by
  unfold copyS at e
  split at e
  · rename_i sh hsh
    obtain ⟨hsz, _⟩ := shT_some hsh
    split at e
    · rename_i g new sure hsrc
      split at e
      · rename_i nn e' b off len cap
        split at e
        · rename_i e'' l hb
          split at e
          · rename_i hbe
            simp only [Bool.and_eq_true] at hbe
            have e1 := Sh.beq_eq _ _ hbe.1
            have e2 := Sh.beq_eq _ _ hbe.2
            subst e1; subst e2
            obtain ⟨hg, rfl, rfl, rfl⟩ := run_ok e
            simp only [Bool.and_eq_true] at hg
            obtain ⟨rfl, hle⟩ := hg
            have hle := Nat.le_of_ble_eq_true hle
            obtain ⟨⟨vs, hS⟩, _⟩ := src_sound (P := P) w hr ha hsrc hx Rho.le.rfl hr.fzh (fun b hb => by simp at hb)
            obtain ⟨B, o, r, hρ, hu⟩ := hd.tsl_addr
            have hmin : Nat.min new.length len ≤ new.length := Nat.min_le_left _ _
            have hrun : (Builtin.firstCells sh.size (Nat.min new.length len) xu).run P w = .ok (vs.take (Nat.min new.length len * sh.size)).toArray w := hS.run w.drawn _ hmin
            have htk : (new.take len).length = Nat.min new.length len := by rw [List.length_take, Nat.min_comm]
            have hrel : Rels ρ (flat sh (new.take len)) (vs.take (Nat.min new.length len * sh.size)) := by
              have : new.take len = new.take (Nat.min new.length len) := by
                rw [show Nat.min new.length len = min len new.length from Nat.min_comm _ _, List.take_eq_take_min]
              rw [this, flat_take]
              exact hS.rel.take _
            have hvl := hrel.length
            rw [flat_length, htk] at hvl
            obtain ⟨h1, h2⟩ := write_post (P := P) (off := off * sh.size) (x' := .tbl false sh (l.take off ++ (new.take len ++ l.drop (off + Nat.min new.length len)))) (cs' := flat sh (l.take off ++ (new.take len ++ l.drop (off + Nat.min new.length len)))) (vs := vs.take (Nat.min new.length len * sh.size)) hr ha hb rfl hρ
              (by
                rw [hvl, flat_length, ← Nat.add_mul]
                have : Nat.min new.length len ≤ len := Nat.min_le_right _ _
                exact Nat.mul_le_mul_right _ (by omega))
              (hrel.oneCell (scalars_flat _ _))
              (by
                rw [flat_length, flat_length]
                congr 1
                have : Nat.min new.length len ≤ len := Nat.min_le_right _ _
                simp only [List.length_append, List.length_take, List.length_drop, htk]
                rw [← htk, List.length_take] at this ⊢
                omega)
              (fun us hus => by
                have := flat_mid (off := off) hus hrel
                rwa [htk] at this) rfl
            refine ⟨.int .i64 (Nat.min new.length len), _, ?_, h2, by simp [Rel]⟩
            rcases hu with ⟨c, rfl, _⟩ | ⟨rfl, p, rfl⟩
            · simp [Builtin.copy_, run_underlying ht, hS.len, run_sizeA hsz, hrun, goInt, h1]
            · rw [show Nat.min new.length 0 = 0 from Nat.min_zero _] at hrun h1 ⊢
              simp only [Nat.zero_mul, List.take_zero] at hrun h1 ⊢
              cases p <;> simp [Builtin.copy_, run_underlying ht, hS.len, run_sizeA hsz, hrun, goInt, storeCells, World.setCells]
          · cases e
        · cases e
      · obtain ⟨hg, rfl, rfl, rfl⟩ := run_ok e
        subst hg
        simp only [Rel] at hd
        subst hd
        obtain ⟨⟨vs, hS⟩, _⟩ := src_sound (P := P) w hr ha hsrc hx Rho.le.rfl hr.fzh (fun b hb => by simp at hb)
        have hrun : (Builtin.firstCells sh.size 0 xu).run P w = .ok (vs.take (0 * sh.size)).toArray w := hS.run w.drawn 0 (Nat.zero_le _)
        refine ⟨.int .i64 0, w, ?_, Post.refl hr ha, by simp [Rel]⟩
        simp at hrun
        simp [Builtin.copy_, run_underlying ht, hS.len, run_sizeA hsz, hrun, goInt]
      · cases e
    · cases e
  · cases e
theorem clear_sound (hr : HR ρ h w) (ha : Agree s h) {e0 t ty : TypeId} {d v : AV} {du : Value} {s' : St} {tch : List Nat} (ht : P.underlying t = some (.slice e0)) (e : (clearS P s e0 d).run = some (v, s', tch)) (hd : Rel ρ d du) :
    ∃ r w', (Builtin.clear_ #[t] ty #[du]).run P w = .ok r w' ∧ Post ρ h w s ρ (upd s' h) w' s' ∧ Rel ρ v r := by
  unfold clearS at e
  split at e
  · rename_i sh hsh
    obtain ⟨hsz, z, hz, hzl, hznul⟩ := shT_some hsh
    split at e
    · rename_i nn e' b off len cap
      split at e
      · rename_i e'' l hb
        split at e
        · rename_i hbe
          simp only [Bool.and_eq_true] at hbe
          have e1 := Sh.beq_eq _ _ hbe.1
          have e2 := Sh.beq_eq _ _ hbe.2
          subst e1; subst e2
          obtain ⟨hg, rfl, rfl, rfl⟩ := run_ok e
          simp only [Bool.and_eq_true] at hg
          have hpos := hg.1
          simp only [Nat.blt_eq] at hpos
          have hle := Nat.le_of_ble_eq_true hg.2
          obtain ⟨B, o, r, hρ, hu⟩ := hd.tsl_addr
          obtain ⟨zv, hzr, hrel⟩ := run_zeroA hz ρ
          have hzs : zv.cells.size = sh.size := by have := hrel.cells.length; simp only [Array.length_toList] at this; omega
          have hflat : Rels ρ (flat sh (List.replicate len .nul)) (timesV len zv.cells.toList) := by
            rw [flat_replicate]
            exact Rels.times (hznul ρ _ hrel.cells) _
          have hvl := hflat.length
          rw [flat_length, List.length_replicate] at hvl
          obtain ⟨h1, h2⟩ := write_post (P := P) (off := off * sh.size) (x' := .tbl false sh (l.take off ++ (List.replicate len .nul ++ l.drop (off + len)))) (cs' := flat sh (l.take off ++ (List.replicate len .nul ++ l.drop (off + len)))) (vs := timesV len zv.cells.toList) hr ha hb rfl hρ
            (by rw [hvl, flat_length, ← Nat.add_mul]; exact Nat.mul_le_mul_right _ hle)
            (hflat.oneCell (scalars_flat _ _))
            (by rw [flat_length, flat_length]; congr 1; simp; omega)
            (fun us hus => by
              have := flat_mid (off := off) hus hflat
              rwa [List.length_replicate] at this) rfl
          refine ⟨.tuple #[], _, ?_, h2, by simp [Rel, Rels]⟩
          rcases hu with ⟨c, rfl, _⟩ | ⟨rfl, p, rfl⟩
          · rcases Nat.eq_zero_or_pos len with rfl | hlpos
            · have : timesV 0 zv.cells.toList = [] := rfl
              rw [this]
              simp [Builtin.clear_, run_underlying ht, World.setCells]
            · obtain ⟨k, rfl⟩ : ∃ k, len = k + 1 := ⟨len - 1, by omega⟩
              simp [Builtin.clear_, run_underlying ht, hzr, zeroCells_times _ _ (show 0 < zv.cells.size ∨ k + 1 = 0 by left; omega), h1]
          · have : timesV 0 zv.cells.toList = [] := rfl
            rw [this]
            cases p <;> simp [Builtin.clear_, run_underlying ht, World.setCells]
        · cases e
      · cases e
    · obtain ⟨_, rfl, rfl, rfl⟩ := run_ok e
      simp only [Rel] at hd
      subst hd
      refine ⟨.tuple #[], w, ?_, Post.refl hr ha, by simp [Rel, Rels]⟩
      simp [Builtin.clear_, run_underlying ht]
    · cases e
  · cases e
end
end Go.Sy

/- append: the model carries it out as the symbolic machine says. -/
set_option linter.unusedSimpArgs false
set_option linter.unusedVariables false
namespace Go.Sy
open Go

section
variable {P : Program} {ρ : Rho} {h : Hp} {w : World} {s : St}

/-- An entry that may be given up. -/
def Kept (ρ : Rho) (s s0 : St) : Prop := s0.length = s.length ∧ ∀ i, i < s.length → s0[i]? = s[i]? ∨ (s0[i]? = some .dead ∧ ρ i ≠ none)
theorem Kept.self : Kept ρ s s := ⟨rfl, fun i _ => .inl rfl⟩
theorem Kept.kill {b : Nat} (hb : ρ b ≠ none) : Kept ρ s (kill s b) := ⟨by simp [Sy.kill], fun i hi => by
  unfold Sy.kill
  by_cases e : b = i
  · subst e; exact .inr ⟨by rw [List.getElem?_set_self hi], hb⟩
  · exact .inl (by rw [List.getElem?_set_ne e])⟩
theorem Kept.upd {s0 : St} (k : Kept ρ s s0) (ha : Agree s h) {x : Ent} {i : Nat} {y : Ent} {v : Bool × List AV} (h3 : Sy.upd (s0 ++ [x]) h i = some y) (hi : i ≠ s.length) (hv : y.view = some v) : h i = some y := by
  unfold Sy.upd at h3
  split at h3
  · rename_i hlt
    simp only [List.length_append, List.length_cons, List.length_nil, k.1] at hlt
    have hil : i < s.length := by omega
    rw [List.getElem?_append_left (by rw [k.1]; exact hil)] at h3
    rcases k.2 i hil with e | ⟨e, _⟩
    · rw [ha i hil, ← e]; exact h3
    · rw [e] at h3; cases h3; simp [Ent.view] at hv
  · exact h3

theorem fork_new (hr : HR ρ h w) (ha : Agree s h) {s0 : St} (k : Kept ρ s s0) {x : Ent} {cs : List AV} {vs rest : List Value} {ty : TypeId} (hf : Fresh ρ s (s0 ++ [x])) (hx : x.view = some (false, cs)) (hrel : Rels ρ cs vs) :
    Post ρ h w s (ρ.put s.length (w.heap.size, 0, vs.length + rest.length)) (upd (s0 ++ [x]) h) (w.alloc (.cells (vs ++ rest).toArray ty)) (s0 ++ [x]) := by
  have hρn : ρ s.length = none := hf _ (Nat.le_refl _) (by simp [k.1])
  have hle : ρ.le (ρ.put s.length (w.heap.size, 0, vs.length + rest.length)) := Rho.put_le (.inl hρn)
  have hcell : ∀ o, w.cell? ⟨w.heap.size, o, none⟩ = none := fun o => by
    cases e : w.cell? ⟨w.heap.size, o, none⟩ with
    | none => rfl
    | some v => have := cell_lt e; omega
  refine post1 (x0 := x) hr ha hf (.inl ⟨hρn, Nat.le_refl _⟩) (by simp [k.1]) (by rw [← k.1]; simp) (by simp [k.1]) (fun i hi hne => by rw [List.getElem?_append_left (by rw [k.1]; exact hi)]; exact k.2 i hi)
    (fun ro cs' e => by rw [hx] at e; cases e; exact Holds.fresh (Rels.mono hle _ _ hrel))
    (fun h0 i o r y v hi h1 h2 h3 h4 => ?_) (fun _ o => ?_) (fun B hB _ => heap_alloc_old w _ _ hB) (by simp) rfl rfl rfl (fun _ B hB _ => by omega)
  · have hy := k.upd ha h3 hi h4
    obtain ⟨ro, cs'⟩ := v
    have := (hr.cell i _ o r y ro cs' h1 hy h4).lt h2
    omega
  · cases e : ρ.fz w.heap.size o with
    | none => rfl
    | some v => have := hr.fzh _ _ _ e; rw [hcell] at this; cases this

theorem fork_nil (hr : HR ρ h w) (ha : Agree s h) {s0 : St} (k : Kept ρ s s0) {x : Ent} (hf : Fresh ρ s (s0 ++ [x])) (hx : x.view = some (false, [])) :
    Post ρ h w s (ρ.put s.length (0, 0, 0)) (upd (s0 ++ [x]) h) w (s0 ++ [x]) := by
  have hρn : ρ s.length = none := hf _ (Nat.le_refl _) (by simp [k.1])
  exact post1 (x0 := x) hr ha hf (.inl ⟨hρn, Nat.le_refl _⟩) (by simp [k.1]) (by rw [← k.1]; simp) (by simp [k.1]) (fun i hi hne => by rw [List.getElem?_append_left (by rw [k.1]; exact hi)]; exact k.2 i hi)
    (fun ro cs' e => by rw [hx] at e; cases e; exact Holds.nothing)
    (fun h0 => absurd rfl h0) (fun h0 => absurd rfl h0) (fun B hB _ => rfl) (Nat.le_refl _) rfl rfl rfl (fun h0 => absurd rfl h0)

theorem fork_in (hr : HR ρ h w) (ha : Agree s h) {b B o r k q : Nat} {x0 x : Ent} {cs as : List AV} {vs : List Value} (hb : s[b]? = some x0) (hv : x0.view = some (false, cs)) (hρ : ρ b = some (B, o, r))
    (hf : Fresh ρ s (kill s b ++ [x])) (hx : x.view = some (false, as)) (hlen : as.length = q + vs.length) (hrel : ∀ us, Rels ρ cs us → Rels ρ as ((us.drop k).take q ++ vs)) (hone : ∀ v ∈ vs, v.oneCell' = true) (hkq : k + q ≤ cs.length) (hfit : k + q + vs.length ≤ r) :
    (storeCells ⟨B, o + (k + q), none⟩ vs).run P w = .ok () (w.setCells B (o + (k + q)) vs) ∧
      Post ρ h w s (ρ.put s.length (B, o + k, r - k)) (upd (kill s b ++ [x]) h) (w.setCells B (o + (k + q)) vs) (kill s b ++ [x]) := by
  have hρb : ρ b ≠ none := by rw [hρ]; simp
  have kp : Kept ρ s (kill s b) := Kept.kill hρb
  have hρn : ρ s.length = none := hf _ (Nat.le_refl _) (by simp [kp.1])
  have hle : ρ.le (ρ.put s.length (B, o + k, r - k)) := Rho.put_le (.inl hρn)
  have hbl : b < s.length := (List.getElem?_eq_some_iff.1 hb).1
  have hhb : h b = some x0 := by rw [ha b hbl]; exact hb
  have H := hr.cell b B o r x0 false cs hρ hhb hv
  have henv := setCells_env B vs (o + (k + q)) w
  constructor
  · have := run_storeCells_cells (P := P) B (o + (k + q)) vs 0 w
      (fun j hj => by rw [show o + (k + q) + 0 + j = o + (k + q + j) by omega]; exact H.there _ (by omega))
      (fun j hj => by rw [show o + (k + q) + 0 + j = o + (k + q + j) by omega]; exact H.free rfl (by omega) _)
      hone
    simpa using this
  · have hr0 : r - k ≠ 0 → r ≠ 0 := fun e => by omega
    refine post1 (x0 := x) hr ha hf (.inl ⟨hρn, Nat.le_refl _⟩) (by simp [kp.1]) (by rw [← kp.1]; simp) (by simp [kp.1]) (fun i hi hne => by rw [List.getElem?_append_left (by rw [kp.1]; exact hi)]; exact kp.2 i hi)
      (fun ro cs' e => by rw [hx] at e; cases e; exact (H.extended rfl hlen hrel hkq hfit).mono hle)
      (fun h0 i o' r' y v hi h1 h2 h3 h4 => ?_) (fun h0 => (hr.alone hρ hhb hv (hr0 h0)).2.1) (fun B' hB hne => ?_) (by rw [setCells_size]; exact Nat.le_refl _) henv.1 henv.2.1 henv.2.2
      (fun h0 B' hB hF => (hr.alone hρ hhb hv (hr0 h0)).2.2 B' hF)
    · have hy := kp.upd ha h3 hi h4
      by_cases hib : i = b
      · subst hib
        rw [upd_lt (by simp [kp.1]; omega), List.getElem?_append_left (by rw [kp.1]; exact hbl)] at h3
        unfold kill at h3
        rw [List.getElem?_set_self hbl] at h3
        cases h3
        simp [Ent.view] at h4
      · exact (hr.alone hρ hhb hv (hr0 h0)).1 i o' r' y v hib h1 h2 hy h4
    · rcases hne with hne | h0
      · exact setCells_heap_other _ _ _ _ _ hne
      · have : vs = [] := by apply List.eq_nil_of_length_eq_zero; omega
        subst this; rfl

/-- Behind a slice of which nothing else is known than its length. -/
theorem append_tight (hr : HR ρ h w) (ha : Agree s h) {t u0 ty e0 : TypeId} {d : TypeDesc} (ht : P.underlying t = some (.slice e0)) (hu : P.underlying u0 = some d) (hd : ∀ k, d ≠ .int k) {sh : Sh} {by_ : Nat} (hsh : shT P e0 = some sh) (hby : bytesA P e0 = some by_)
    {xu su : Value} {new old : List D} {vs : List Value} (hS : SrcOk P ρ w sh xu new vs) (hb0 : 0 < by_) (hbytes : (3 * (old.length + new.length) + 2000) * by_ ≤ 281474976710656)
    {s0 : St} (kp : Kept ρ s s0) (hf : Fresh ρ s (s0 ++ [.tbl false sh (old ++ new)])) {nn : Bool} (hnn : nn = true → su ≠ .slice none 0 0 ∨ 0 < new.length)
    (hcase : (old = [] ∧ su = .slice none 0 0) ∨
      (∃ b B o r k x0 cs c, s[b]? = some x0 ∧ x0.view = some (false, cs) ∧ ρ b = some (B, o, r) ∧ s0 = kill s b ∧ k + old.length * sh.size ≤ cs.length ∧ (∀ us, Rels ρ cs us → Rels ρ (flat sh old) ((us.drop k).take (old.length * sh.size))) ∧ k + c * sh.size ≤ r ∧ old.length ≤ c ∧ su = .slice (some ⟨B, o + k, none⟩) old.length c) ∨
      (∃ b B o r x0 cs y, old = [] ∧ s[b]? = some x0 ∧ x0.view = some (false, cs) ∧ ρ b = some (B, o, r) ∧ s0 = kill s b ∧ su = .slice (some ⟨B, y, none⟩) 0 0) ∨
      (∃ p c, su = .slice p old.length c ∧ ¬ old.length + new.length ≤ c ∧ ∃ us, Rels ρ (flat sh old) us ∧ (Builtin.firstCells sh.size old.length su).run P w.drew = .ok us.toArray w.drew)) :
    ∃ r w' ρ', (Builtin.append_ #[t, u0] ty #[su, xu]).run P w = .ok r w' ∧ Post ρ h w s ρ' (upd (s0 ++ [.tbl false sh (old ++ new)]) h) w' (s0 ++ [.tbl false sh (old ++ new)]) ∧ Rel ρ' (.tsl nn sh s.length 0 (old.length + new.length) .tight) r := by
  obtain ⟨hsz, z, hz, hzl, _⟩ := shT_some hsh
  have hvl := hS.rel.length
  rw [flat_length] at hvl
  have hnews : (Builtin.firstCells sh.size new.length xu).run P w = .ok vs.toArray w := by
    have : (Builtin.firstCells sh.size new.length xu).run P w = .ok (vs.take (new.length * sh.size)).toArray w := hS.run w.drawn _ (Nat.le_refl _)
    rwa [List.take_of_length_le (by omega)] at this
  have hnews' : (Builtin.firstCells sh.size new.length xu).run P w.drew = .ok vs.toArray w.drew := by
    have : (Builtin.firstCells sh.size new.length xu).run P w.drew = .ok (vs.take (new.length * sh.size)).toArray w.drew := hS.run (w.drawn + 1) _ (Nat.le_refl _)
    rwa [List.take_of_length_le (by omega)] at this
  -- a new array
  have out : ∀ (p : Option Addr) (c : Nat) (us : List Value), su = .slice p old.length c → ¬ old.length + new.length ≤ c → Rels ρ (flat sh old) us → (Builtin.firstCells sh.size old.length su).run P w.drew = .ok us.toArray w.drew →
      ∃ r w' ρ', (Builtin.append_ #[t, u0] ty #[su, xu]).run P w = .ok r w' ∧ Post ρ h w s ρ' (upd (s0 ++ [.tbl false sh (old ++ new)]) h) w' (s0 ++ [.tbl false sh (old ++ new)]) ∧ Rel ρ' (.tsl nn sh s.length 0 (old.length + new.length) .tight) r := by
    intro p c us hsu hno hus hold
    subst hsu
    have hul := hus.length
    rw [flat_length] at hul
    obtain ⟨newCap, rest, hc1, hc2, hrun⟩ := run_append_out (ty := ty) (w := w) (olds := us) (news := vs) ht hu hd hsz hby hz hzl hS.len hold hnews' hno hb0 hbytes
    have hP := fork_new (ty := e0) (rest := rest) (hr.drew (w.drawn + 1)) ha kp hf rfl (by rw [flat_append]; exact hus.append hS.rel)
    refine ⟨_, _, _, hrun, hP.from_drew, ?_⟩
    simp only [Rel]
    refine ⟨_, _, _, Rho.put_same _ _ _, .inr ⟨newCap, by simp [Cap.top], by simpa [Cap.top] using hc1, trivial, ?_, .inl (by simp)⟩⟩
    simp only [List.length_append, hul, hvl, hc2]
    rw [Nat.zero_mul, Nat.zero_add, ← Nat.add_mul, ← Nat.add_mul]
    exact Nat.mul_le_mul_right _ (by omega)
  have nothing : ∀ v, (v = Value.slice none 0 0 ∨ ∃ B y, v = Value.slice (some ⟨B, y, none⟩) 0 0 ∧ False) → old = [] → new.length = 0 → True := fun _ _ _ _ => trivial
  rcases hcase with ⟨rfl, rfl⟩ | ⟨b, B, o, r, k, x0, cs, c, hb, hv, hρ, rfl, hk, hcs, hfit, hoc, rfl⟩ | ⟨b, B, o, r, x0, cs, y, rfl, hb, hv, hρ, rfl, rfl⟩ | ⟨p, c, hsu, hno, us, hus, hold⟩
  · rcases Nat.eq_zero_or_pos new.length with h0 | h0
    · have hnil : new = [] := List.eq_nil_of_length_eq_zero h0
      subst hnil
      have hvn : vs = [] := by apply List.eq_nil_of_length_eq_zero; simpa using hvl
      subst hvn
      have hrun := run_append_in (P := P) (ty := ty) (base := none) (sLen := 0) (sCap := 0) (w' := w) ht hu hd hsz hS.len hnews (Nat.le_refl 0) rfl
      refine ⟨_, _, _, hrun, fork_nil hr ha kp hf (by simp [Ent.view, flat]), ?_⟩
      simp only [Rel]
      refine ⟨0, 0, 0, Rho.put_same _ _ _, .inl ⟨?_, rfl, rfl, rfl, rfl⟩⟩
      cases nn with
      | false => rfl
      | true => rcases hnn rfl with e | e
                · exact absurd rfl e
                · simp at e
    · exact out none 0 [] rfl (by simp only [List.length_nil]; omega) Rels.nil (by simp [Builtin.firstCells])
  · by_cases hin : old.length + new.length ≤ c
    · have hmul : (old.length + new.length) * sh.size ≤ c * sh.size := Nat.mul_le_mul_right _ hin
      rw [Nat.add_mul] at hmul
      obtain ⟨h1, h2⟩ := fork_in (P := P) (k := k) (q := old.length * sh.size) hr ha hb hv hρ hf rfl (by rw [flat_length, List.length_append, Nat.add_mul]; omega) (fun us hus => by rw [flat_append]; exact (hcs us hus).append hS.rel) (hS.rel.oneCell (scalars_flat _ _)) hk (by omega)
      refine ⟨_, _, _, run_append_in (ty := ty) (w' := w.setCells B (o + (k + old.length * sh.size)) vs) ht hu hd hsz hS.len hnews hin ?_, h2, ?_⟩
      · simp only [Addr.add_lit]
        rw [show o + k + old.length * sh.size = o + (k + old.length * sh.size) by omega]
        exact h1
      · simp only [Rel]
        refine ⟨_, _, _, Rho.put_same _ _ _, .inr ⟨c, by simp [Cap.top], by simpa [Cap.top] using hin, trivial, by omega, .inl (by simp)⟩⟩
    · have hbl : b < s.length := (List.getElem?_eq_some_iff.1 hb).1
      have H := (hr.drew (w.drawn + 1)).cell b B o r x0 false cs hρ (by rw [ha b hbl]; exact hb) hv
      obtain ⟨us, u1, u2, _⟩ := H.vals
      have hul := u1.length
      refine out _ c ((us.drop k).take (old.length * sh.size)) rfl hin (hcs us u1) ?_
      simp only [Builtin.firstCells]
      have := run_loadCells_list (P := P) w.drew ⟨B, o + k, none⟩ ((us.drop k).take (old.length * sh.size)) (fun j v hj => by
        rw [Addr.add_lit, Nat.add_assoc]
        apply u2
        rw [List.getElem?_take] at hj
        split at hj
        · rwa [List.getElem?_drop] at hj
        · cases hj)
      rw [show ((us.drop k).take (old.length * sh.size)).length = old.length * sh.size by simp; omega] at this
      exact this
  · rcases Nat.eq_zero_or_pos new.length with h0 | h0
    · have hnil : new = [] := List.eq_nil_of_length_eq_zero h0
      subst hnil
      have hvn : vs = [] := by apply List.eq_nil_of_length_eq_zero; simpa using hvl
      subst hvn
      have hrun := run_append_in (P := P) (ty := ty) (base := some ⟨B, y, none⟩) (sLen := 0) (sCap := 0) (w' := w) ht hu hd hsz hS.len hnews (Nat.le_refl 0) (by simp [storeCells])
      have hbl : b < s.length := (List.getElem?_eq_some_iff.1 hb).1
      have H := hr.cell b B o r x0 false cs hρ (by rw [ha b hbl]; exact hb) hv
      obtain ⟨_, h2⟩ := fork_in (P := P) (k := 0) (q := 0) (as := flat sh []) (vs := []) hr ha hb hv hρ hf (by simp [Ent.view, flat]) (by simp [flat]) (fun us hus => by simpa [flat] using Rels.nil) (fun v hv => by simp at hv) (by omega) (by simp)
      refine ⟨_, _, _, hrun, h2, ?_⟩
      simp only [Rel]
      exact ⟨_, _, _, Rho.put_same _ _ _, .inr ⟨0, by simp [Cap.top], by simp [Cap.top], trivial, by omega, .inr ⟨rfl, y, rfl⟩⟩⟩
    · exact out _ 0 [] rfl (by simp only [List.length_nil]; omega) Rels.nil (by simp [Builtin.firstCells, loadCells, loadCellsFrom])
  · exact out p c us hsu hno hus hold

theorem freeze_cells {b : Nat} {cs : List AV} : ∀ (fr : List Nat) (s : St), (freeze s fr)[b]? = some (.cells cs) → s[b]? = some (.cells cs)
  | [], s, h => h
  | c :: l, s, h => by
    simp only [freeze] at h
    split at h
    · rename_i x hx
      have := freeze_cells l _ h
      rw [List.getElem?_set] at this
      split at this
      · split at this
        · cases x <;> simp [freezeE] at this
        · cases this
      · exact this
    · exact freeze_cells l s h

theorem freeze_append : ∀ (fr fr' : List Nat) (s : St), freeze (freeze s fr) fr' = freeze s (fr ++ fr')
  | [], fr', s => rfl
  | b :: bs, fr', s => by
    simp only [freeze, List.cons_append]
    split
    · exact freeze_append bs fr' _
    · exact freeze_append bs fr' s

/-- Where there is room, surely. -/
theorem append_room (hr : HR ρ h w) (ha : Agree s h) {t u0 ty e0 : TypeId} {td : TypeDesc} (ht : P.underlying t = some (.slice e0)) (hu : P.underlying u0 = some td) (hd : ∀ k, td ≠ .int k) {sh : Sh} (hsh : shT P e0 = some sh)
    {xu su : Value} {new l : List D} {vs : List Value} (hS : SrcOk P ρ w sh xu new vs) {nn : Bool} {b off len : Nat} {cap : Cap} (hb : s[b]? = some (.tbl false sh l)) (hs : Rel ρ (.tsl nn sh b off len cap) su) (hroom : len + new.length ≤ cap.top len) (hcap : cap.top (len + new.length) = cap.top len) (hfit : off + len + new.length ≤ l.length) :
    ∃ r w', (Builtin.append_ #[t, u0] ty #[su, xu]).run P w = .ok r w' ∧ Post ρ h w s ρ (upd (s.set b (.tbl false sh (l.take (off + len) ++ (new ++ l.drop (off + len + new.length))))) h) w' (s.set b (.tbl false sh (l.take (off + len) ++ (new ++ l.drop (off + len + new.length))))) ∧
      Rel ρ (.tsl nn sh b off (len + new.length) cap) r := by
  obtain ⟨hsz, _⟩ := shT_some hsh
  have hvl := hS.rel.length
  rw [flat_length] at hvl
  have hnews : (Builtin.firstCells sh.size new.length xu).run P w = .ok vs.toArray w := by
    have : (Builtin.firstCells sh.size new.length xu).run P w = .ok (vs.take (new.length * sh.size)).toArray w := hS.run w.drawn _ (Nat.le_refl _)
    rwa [List.take_of_length_le (by omega)] at this
  simp only [Rel] at hs
  obtain ⟨B, o, r, hρ, hs⟩ := hs
  obtain ⟨h1, h2⟩ := write_post (P := P) (off := (off + len) * sh.size) (x' := .tbl false sh (l.take (off + len) ++ (new ++ l.drop (off + len + new.length)))) (cs' := flat sh (l.take (off + len) ++ (new ++ l.drop (off + len + new.length)))) (vs := vs) hr ha hb rfl hρ
    (by rw [hvl, flat_length, ← Nat.add_mul]; exact Nat.mul_le_mul_right _ hfit)
    (hS.rel.oneCell (scalars_flat _ _))
    (by rw [flat_length, flat_length]; congr 1; simp; omega)
    (fun us hus => flat_mid hus hS.rel) rfl
  rcases hs with ⟨rfl, rfl, ht0, hr0, rfl⟩ | ⟨c, hlt, htop, hex, hfc, hs⟩
  · have hm0 : new.length = 0 := by omega
    have hnil : new = [] := List.eq_nil_of_length_eq_zero hm0
    subst hnil
    have hvn : vs = [] := by apply List.eq_nil_of_length_eq_zero; simpa using hvl
    subst hvn
    refine ⟨_, _, run_append_in (ty := ty) (base := none) (sLen := 0) (sCap := 0) (w' := w) ht hu hd hsz hS.len hnews (Nat.le_refl 0) rfl, h2, ?_⟩
    simp only [Rel]
    exact ⟨B, o, r, hρ, .inl ⟨trivial, rfl, ht0, hr0, rfl⟩⟩
  · rcases hs with rfl | ⟨rfl, y, rfl⟩
    · refine ⟨_, _, run_append_in (ty := ty) (w' := w.setCells B (o + (off + len) * sh.size) vs) ht hu hd hsz hS.len hnews (by omega) ?_, h2, ?_⟩
      · simp only [Addr.add_lit]
        rw [show o + off * sh.size + len * sh.size = o + (off + len) * sh.size by rw [Nat.add_mul]; omega]
        exact h1
      · simp only [Rel]
        exact ⟨B, o, r, hρ, .inr ⟨c, by rw [hcap]; exact hroom, by rw [hcap]; exact htop, hex, hfc, .inl rfl⟩⟩
    · have hm0 : new.length = 0 := by omega
      have hlen0 : len = 0 := by omega
      have hnil : new = [] := List.eq_nil_of_length_eq_zero hm0
      subst hnil
      subst hlen0
      have hvn : vs = [] := by apply List.eq_nil_of_length_eq_zero; simpa using hvl
      subst hvn
      refine ⟨_, _, run_append_in (ty := ty) (base := some ⟨B, y, none⟩) (sLen := 0) (sCap := 0) (w' := w) ht hu hd hsz hS.len hnews (Nat.le_refl 0) (by simp [storeCells]), h2, ?_⟩
      simp only [Rel]
      exact ⟨B, o, r, hρ, .inr ⟨0, hlt, htop, hex, hfc, .inr ⟨rfl, y, rfl⟩⟩⟩

theorem append_sound (hr : HR ρ h w) (ha : Agree s h) {t u0 ty e0 : TypeId} {td : TypeDesc} {d x v : AV} {su xu : Value} {s' : St} {tch : List Nat} (ht : P.underlying t = some (.slice e0)) (hu : P.underlying u0 = some td) (hd : ∀ k, td ≠ .int k)
    (e : (appendS P s e0 d x).run = some (v, s', tch)) (hs : Rel ρ d su) (hx : Rel ρ x xu) (hf : Fresh ρ s s') :
    ∃ r w' ρ', (Builtin.append_ #[t, u0] ty #[su, xu]).run P w = .ok r w' ∧ Post ρ h w s ρ' (upd s' h) w' s' ∧ Rel ρ' v r := by
  unfold appendS at e
  split at e
  · rename_i sh by_ hsh hby
    split at e
    · cases e
    · rename_i g new fr sure hsrc
      have hids := src_ids (hr.cellsOf ha) hsrc hx
      obtain ⟨ρ1, hp1, hat, hF⟩ := freeze_post fr hr ha hids
      have hfl : (freeze s fr).length = s.length := freeze_length fr s
      have hs1 := Rel.mono hp1.ext _ _ hs
      have hx1 := Rel.mono hp1.ext _ _ hx
      have src : g = true → ∃ vs, SrcOk P ρ1 w sh xu new vs := fun hg => by
        subst hg
        exact (src_sound (P := P) w hr ha hsrc hx hp1.ext hp1.hr.fzh hF).1
      have surel : sure = true → g = true → 0 < new.length := fun h1 hg => by
        subst hg
        exact (src_sound (P := P) w hr ha hsrc hx hp1.ext hp1.hr.fzh hF).2 h1
      simp only at e
      split at e
      · -- onto nothing
        obtain ⟨hg, rfl, rfl, rfl⟩ := run_ok e
        simp only [Bool.and_eq_true] at hg
        obtain ⟨hg0, hby0, hbytes⟩ := hg
        have hb0 : 0 < by_ := by simpa [Nat.blt_eq] using hby0
        have hbytes := Nat.le_of_ble_eq_true hbytes
        obtain ⟨vs, hS⟩ := src hg0
        simp only [Rel] at hs
        subst hs
        obtain ⟨r, w', ρ', h1, h2, h3⟩ := append_tight (P := P) (ty := ty) (old := []) (nn := sure) hp1.hr hp1.agree ht hu hd hsh hby hS hb0 (by simpa using hbytes) Kept.self (Fresh.next hp1 (by simpa using hf) (by simp)) (fun h => .inr (surel h hg0)) (.inl ⟨rfl, rfl⟩)
        have h4 := hp1.trans h2
        rw [upd_upd (by simp)] at h4
        exact ⟨r, w', ρ', h1, by simpa using h4, by simpa using h3⟩
      · -- onto a literal
        rename_i b off len cap
        split at e
        · rename_i cs hlc hb
          have hlc := beq_true_eq hlc
          subst hlc
          split at e
          · rename_i l0 hl
            split at e
            · rename_i g1 old fr' hc
              split at e
              · rename_i cs2 hb2
                obtain ⟨hg, rfl, rfl, rfl⟩ := run_ok e
                simp only [Bool.and_eq_true] at hg
                obtain ⟨⟨hg0, hg1⟩, hby0, hbytes⟩ := hg
                subst hg1
                have hb0 : 0 < by_ := by simpa [Nat.blt_eq] using hby0
                have hbytes := Nat.le_of_ble_eq_true hbytes
                subst hg0
                simp only [Rel] at hs
                obtain ⟨B, o, r, hρ, _, rfl⟩ := hs
                have hbl : b < s.length := (List.getElem?_eq_some_iff.1 hb).1
                have H := hr.cell b B o r _ false _ hρ (by rw [ha b hbl]; exact hb) rfl
                obtain ⟨us0, u1, _, _⟩ := H.vals
                obtain ⟨hle0, rfl⟩ := readL_some hl
                have hids' := (els_ids (fun cells vs g d rest fr => coll_ids (hr.cellsOf ha) sh cells vs g d rest fr) _ _ _ _ _ [] fr' hc ((u1.drop off).take _)).1
                obtain ⟨ρ2, hp2, hat2, hF2⟩ := freeze_post (fr ++ fr') hr ha (fun b' hb' => (List.mem_append.1 hb').elim (hids b') (hids' b'))
                obtain ⟨⟨vs, hS⟩, _⟩ := src_sound (P := P) w hr ha hsrc hx hp2.ext hp2.hr.fzh hF2.left
                rw [freeze_append] at hb2 hf ⊢
                have hfl2 : (freeze s (fr ++ fr')).length = s.length := freeze_length _ s
                have hcs := freeze_cells _ s hb2
                rw [hb] at hcs
                cases hcs
                have elen : ∀ us, Rels ρ2 cs us → old.length = len ∧ Rels ρ2 (flat sh old) ((us.drop off).take (len * sh.size)) := fun us hus => by
                  obtain ⟨k1, k2, _⟩ := els_sound (ρ := ρ2) (s := s) (R := fun d vs => RelSh ρ2.fz sh d vs) (sz := sh.size) (fun cells vs d rest fr => coll_sound sh cells vs d rest fr) len _ _ old [] fr' hc ((hus.drop off).take (len * sh.size)) hF2.right
                  have hul := hus.length
                  exact ⟨k1, flat_of_els old _ (by rw [k1]; simp; omega) k2⟩
                have hol := (elen us0 (Rels.mono hp2.ext _ _ u1)).1
                have hfitH := H.fit
                obtain ⟨r', w', ρ', h1, h2, h3⟩ := append_tight (P := P) (ty := ty) (old := old) (nn := true) (s0 := kill (freeze s (fr ++ fr')) b) hp2.hr hp2.agree ht hu hd hsh hby hS hb0 hbytes (Kept.kill (by rw [hat2, hρ]; simp)) (su := .slice (some ⟨B, o + off, none⟩) len len) (Fresh.next hp2 hf (by simp [kill])) (fun _ => .inl (by simp))
                  (.inr (.inl ⟨b, B, o, r, off, _, cs, len, hb2, rfl, by rw [hat2]; exact hρ, rfl, by rw [hol]; exact hle0, fun us hus => by rw [hol]; exact (elen us hus).2, by omega, by omega, by rw [hol]⟩))
                have h4 := hp2.trans h2
                rw [upd_upd (by simp [kill])] at h4
                exact ⟨r', w', ρ', h1, h4, h3⟩
              · cases e
            · cases e
          · cases e
        · cases e
      · rename_i nn e' b off len cap
        split at e
        · rename_i ro e'' l hb
          split at e
          · cases e
          · rename_i hbe
            simp only [Bool.and_eq_true] at hbe
            have e1 := Sh.beq_eq _ _ hbe.1
            have e2 := Sh.beq_eq _ _ hbe.2
            subst e1; subst e2
            have hρ1 : ρ1 b ≠ none := by
              have := hs1
              simp only [Rel] at this
              obtain ⟨B, o, r, hρ, _⟩ := this
              rw [hρ]; simp
            split at e
            · -- nothing is known of its room
              split at e
              · cases e
              · obtain ⟨hg, rfl, rfl, rfl⟩ := run_ok e
                simp only [Bool.and_eq_true] at hg
                obtain ⟨⟨hg0, hby0, hbytes⟩, hle⟩ := hg
                have hb0 : 0 < by_ := by simpa [Nat.blt_eq] using hby0
                have hbytes := Nat.le_of_ble_eq_true hbytes
                have hle := Nat.le_of_ble_eq_true hle
                obtain ⟨vs, hS⟩ := src hg0
                have hol : ((l.drop off).take len).length = len := by simp; omega
                have hnn : (nn || sure) = true → su ≠ .slice none 0 0 ∨ 0 < new.length := fun h => by
                  rcases Bool.or_eq_true _ _ ▸ h with h | h
                  · obtain ⟨p, c, rfl⟩ := hs1.tsl_some (.inl h)
                    exact .inl (by simp)
                  · exact .inr (surel h hg0)
                have hs2 := hs1
                simp only [Rel] at hs2
                obtain ⟨B, o, r, hρ, hs2⟩ := hs2
                obtain ⟨r', w', ρ', h1, h2, h3⟩ := append_tight (P := P) (ty := ty) (su := su) (old := (l.drop off).take len) (nn := nn || sure) (s0 := kill (freeze s fr) b) hp1.hr hp1.agree ht hu hd hsh hby hS hb0 (by rw [hol]; exact hbytes) (Kept.kill hρ1) (Fresh.next hp1 hf (by simp [kill])) hnn
                  (by
                    rcases hs2 with ⟨_, rfl, _, _, rfl⟩ | ⟨c, h1, h2, _, hfc, rfl | ⟨rfl, y, rfl⟩⟩
                    · exact .inl ⟨by simp, rfl⟩
                    · refine .inr (.inl ⟨b, B, o, r, off * sh.size, _, flat sh l, c, hb, rfl, hρ, rfl, ?_, fun us hus => ?_, hfc, by rw [hol]; simp only [Cap.top] at *; omega, by rw [hol]⟩)
                      · rw [hol, flat_length, ← Nat.add_mul]; exact Nat.mul_le_mul_right _ hle
                      · rw [hol, flat_take, flat_drop]
                        exact (hus.drop _).take _
                    · have hlen0 : len = 0 := by simp only [Cap.top] at *; omega
                      subst hlen0
                      exact .inr (.inr (.inl ⟨b, B, o, r, _, flat sh l, y, by simp, hb, rfl, hρ, rfl, rfl⟩)))
                have h4 := hp1.trans h2
                rw [upd_upd (by simp [kill])] at h4
                rw [hol] at h3
                exact ⟨r', w', ρ', h1, h4, h3⟩
            · -- room
              rename_i lb
              split at e
              · cases e
              · obtain ⟨hg, rfl, rfl, rfl⟩ := run_ok e
                simp only [Bool.and_eq_true] at hg
                obtain ⟨⟨hg0, hby0, hbytes⟩, hroom, hfit⟩ := hg
                have hroom := Nat.le_of_ble_eq_true hroom
                have hfit := Nat.le_of_ble_eq_true hfit
                obtain ⟨vs, hS⟩ := src hg0
                obtain ⟨r', w', h1, h2, h3⟩ := append_room (P := P) (ty := ty) hp1.hr hp1.agree ht hu hd hsh hS hb hs1 hroom rfl hfit
                have h4 := hp1.trans h2
                rw [upd_upd (by simp)] at h4
                exact ⟨r', w', ρ1, h1, h4, h3⟩
            · rename_i c
              simp only [RT.run] at e
              split at e
              · rename_i hroom
                have hroom := Nat.le_of_ble_eq_true hroom
                split at e
                · cases e
                · obtain ⟨hg, rfl, rfl, rfl⟩ := run_ok e
                  simp only [Bool.and_eq_true] at hg
                  obtain ⟨⟨hg0, hby0, hbytes⟩, hfit⟩ := hg
                  have hfit := Nat.le_of_ble_eq_true hfit
                  obtain ⟨vs, hS⟩ := src hg0
                  obtain ⟨r', w', h1, h2, h3⟩ := append_room (P := P) (ty := ty) hp1.hr hp1.agree ht hu hd hsh hS hb hs1 hroom rfl hfit
                  have h4 := hp1.trans h2
                  rw [upd_upd (by simp)] at h4
                  exact ⟨r', w', ρ1, h1, h4, h3⟩
              · rename_i hroom
                have hno : ¬ len + new.length ≤ c := fun e => by rw [Nat.ble_eq_true_of_le e] at hroom; cases hroom
                obtain ⟨hg, rfl, rfl, rfl⟩ := run_ok e
                simp only [Bool.and_eq_true] at hg
                obtain ⟨⟨hg0, hby0, hbytes⟩, hle⟩ := hg
                have hb0 : 0 < by_ := by simpa [Nat.blt_eq] using hby0
                have hbytes := Nat.le_of_ble_eq_true hbytes
                have hle := Nat.le_of_ble_eq_true hle
                obtain ⟨vs, hS⟩ := src hg0
                have hol : ((l.drop off).take len).length = len := by simp; omega
                have hs2 := hs1
                simp only [Rel] at hs2
                obtain ⟨B, o, r, hρ, hs2⟩ := hs2
                have hbl := (List.getElem?_eq_some_iff.1 hb).1
                have H := (hp1.hr.drew (w.drawn + 1)).cell b B o r (.tbl ro sh l) ro _ hρ (by rw [hp1.agree b hbl]; exact hb) rfl
                obtain ⟨us, u1, u2, u3⟩ := H.read (readL_flat (e := sh) (l := l) hle)
                obtain ⟨r', w', ρ', h1, h2, h3⟩ := append_tight (P := P) (ty := ty) (su := su) (old := (l.drop off).take len) (nn := true) (s0 := freeze s _) hp1.hr hp1.agree ht hu hd hsh hby hS hb0 (by rw [hol]; exact hbytes) Kept.self (Fresh.next hp1 hf (by simp))
                  (fun _ => by
                    rcases hs2 with ⟨_, rfl, h0, _, rfl⟩ | ⟨c', h1, h2, hex, hfc, rfl | ⟨rfl, y, rfl⟩⟩
                    · simp only [Cap.top] at h0; exact .inr (by omega)
                    · exact .inl (by simp)
                    · exact .inl (by simp))
                  (by
                    rcases hs2 with ⟨_, rfl, _, _, rfl⟩ | ⟨c', h1, h2, hex, hfc, rfl | ⟨rfl, y, rfl⟩⟩
                    · exact .inl ⟨by simp, rfl⟩
                    · simp only [Cap.exact] at hex
                      subst hex
                      exact .inr (.inr (.inr ⟨_, c', by rw [hol], by rw [hol]; exact hno, us, u1, by rw [hol]; simp only [Builtin.firstCells]; exact u3 P⟩))
                    · simp only [Cap.exact] at hex
                      subst hex
                      have hlen0 : len = 0 := by simp only [Cap.top] at *; omega
                      subst hlen0
                      refine .inr (.inr (.inr ⟨some ⟨B, y, none⟩, 0, by simp, by simpa using hno, [], by simpa [flat] using Rels.nil, by simp [Builtin.firstCells, loadCells, loadCellsFrom]⟩)))
                have h4 := hp1.trans h2
                rw [upd_upd (by simp)] at h4
                rw [hol] at h3
                exact ⟨r', w', ρ', h1, h4, h3⟩
        · cases e
      · cases e
  · cases e
end
end Go.Sy
