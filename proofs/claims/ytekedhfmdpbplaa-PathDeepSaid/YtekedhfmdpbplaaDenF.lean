/- The heap's relation, and what reads, makes and writes memory. -/
import Derived.Test.YtekedhfmdpbplaaDenE
import Derived.Laws.IdiomCopy
set_option linter.unusedSimpArgs false
set_option linter.unusedVariables false
namespace Go.Den
open Go

structure Holds (ρ : Rho) (w : World) (B o r : Nat) (ro : Bool) (cs : List AV) : Prop where
  fit : cs.length ≤ r
  lt : B < w.heap.size
  vals : ∃ vs, Rels ρ cs vs ∧ ∀ (i : Nat) (v : Value), vs[i]? = some v → w.cell? ⟨B, o + i, none⟩ = some v
  there : ∀ j, j < r → (w.cell? ⟨B, o + j, none⟩).isSome = true
  free : ro = false → ∀ j, j < r → w.frozen? ⟨B, o + j, none⟩ = false

abbrev Hp := Nat → Option Ent
structure HR (ρ : Rho) (h : Hp) (w : World) : Prop where
  cell : ∀ (id B o r : Nat) (ro : Bool) (fam : Option (Nat × Nat)) (cs : List AV), ρ id = some (B, o, r) → h id = some (.cells ro fam cs) → Holds ρ w B o r ro cs
  apart : ∀ (i j B o r o' r' : Nat) (ro ro' : Bool) (fam fam' : Option (Nat × Nat)) (cs cs' : List AV), i ≠ j → ρ i = some (B, o, r) → ρ j = some (B, o', r') →
    h i = some (.cells ro fam cs) → h j = some (.cells ro' fam' cs') → (ro = false ∨ ro' = false) → ∃ rt b b', fam = some (rt, b) ∧ fam' = some (rt, b') ∧ o + b' = o' + b
  fam : ∀ (i rt b : Nat) (x : Nat × Nat × Nat) (ro : Bool) (cs : List AV), ρ i = some x → h i = some (.cells ro (some (rt, b)) cs) →
    ro = false ∧ ∃ ms, h rt = some (.fam ms) ∧ i ∈ ms ∧ ∀ m, m ∈ ms → ρ m ≠ none
  ent : ∀ (i : Nat), ρ i ≠ none → h i ≠ none ∧ ∀ ms, h i ≠ some (.fam ms)

/-- The abstract heap behind a step: where the step's own numbers end, what was there stays. -/
def upd (st : St) (h : Hp) : Hp := fun id => if id < st.n then st.get id else h id
structure Agree (st : St) (h : Hp) : Prop where
  eq : ∀ id, id < st.n → h id = st.get id
  wf : ∀ id, st.n ≤ id → st.get id = none
  ref : ∀ (i : Nat) (ro : Bool) (rt b : Nat) (cs : List AV), st.get i = some (.cells ro (some (rt, b)) cs) → rt < st.n
  mem : ∀ (rt : Nat) (ms : List Nat), st.get rt = some (.fam ms) → ∀ m, m ∈ ms → m < st.n

def Free (ρ : Rho) (h : Hp) (B : Nat) : Prop := ∀ id o r, ρ id = some (B, o, r) → ∃ fam cs, h id = some (.cells true fam cs)

structure Post (ρ : Rho) (h : Hp) (w : World) (st : St) (ρ' : Rho) (h' : Hp) (w' : World) (st' : St) : Prop where
  ext : ρ.le ρ'
  new : ∀ id, ρ' id ≠ ρ id → st.n ≤ id ∧ id < st'.n
  heap : h' = upd st' h
  hr : HR ρ' h' w'
  agree : Agree st' h'
  le : st.n ≤ st'.n
  os : w'.os = w.os
  tape : w'.tape = w.tape
  output : w'.output = w.output
  size : w.heap.size ≤ w'.heap.size
  frame : ∀ B, B < w.heap.size → Free ρ h B → w'.heap[B]? = w.heap[B]? ∧ Free ρ' h' B
  idle : ∀ id, id < st.n → ρ id = none → (∀ ms, st.get id ≠ some (.fam ms)) → st'.get id = st.get id

theorem upd_self {st : St} {h : Hp} (ha : Agree st h) : upd st h = h := by
  funext id
  unfold upd
  split
  · rename_i hl; exact (ha.eq id hl).symm
  · rfl
theorem Post.refl {ρ : Rho} {h : Hp} {w : World} {st : St} (hr : HR ρ h w) (ha : Agree st h) : Post ρ h w st ρ h w st where
  ext := fun _ _ e => e
  new := fun id e => absurd rfl e
  heap := (upd_self ha).symm
  hr := hr
  agree := ha
  le := Nat.le_refl _
  os := rfl
  tape := rfl
  output := rfl
  size := Nat.le_refl _
  frame := fun B _ hf => ⟨rfl, hf⟩
  idle := fun _ _ _ _ => rfl
theorem Post.trans {ρ ρ1 ρ2 : Rho} {h h1 h2 : Hp} {w w1 w2 : World} {st st1 st2 : St} (p : Post ρ h w st ρ1 h1 w1 st1) (q : Post ρ1 h1 w1 st1 ρ2 h2 w2 st2) : Post ρ h w st ρ2 h2 w2 st2 where
  ext := fun i x e => q.ext i x (p.ext i x e)
  new := fun id e => by
    by_cases h1 : ρ1 id = ρ id
    · have := q.new id (by rw [h1]; exact e); have := p.le; omega
    · have := p.new id h1; have := q.le; omega
  heap := by
    rw [q.heap, p.heap]
    funext id
    unfold upd
    have := q.le
    split
    · rfl
    · rw [if_neg (by omega)]
  hr := q.hr
  agree := q.agree
  le := Nat.le_trans p.le q.le
  os := q.os.trans p.os
  tape := q.tape.trans p.tape
  output := q.output.trans p.output
  size := Nat.le_trans p.size q.size
  frame := fun B hB hf => by
    obtain ⟨e1, f1⟩ := p.frame B hB hf
    obtain ⟨e2, f2⟩ := q.frame B (Nat.lt_of_lt_of_le hB p.size) f1
    exact ⟨e2.trans e1, f2⟩
  idle := fun id hid hρ hf => by
    have e1 := p.idle id hid hρ hf
    have hρ1 : ρ1 id = none := by
      by_cases e : ρ1 id = ρ id
      · rw [e]; exact hρ
      · have := p.new id e; omega
    rw [← e1]
    exact q.idle id (Nat.lt_of_lt_of_le hid p.le) hρ1 (fun ms => by rw [e1]; exact hf ms)
/-- The step's own numbers are not taken; what has a later number is of no family. -/
structure Fresh (ρ : Rho) (h : Hp) (st st' : St) : Prop where
  none : ∀ id, st.n ≤ id → id < st'.n → ρ id = Option.none
  far : ∀ id, st'.n ≤ id → ρ id ≠ Option.none → ∀ ro x cs, h id ≠ some (.cells ro (some x) cs)
theorem Fresh.next {ρ ρ1 : Rho} {h h1 : Hp} {w w1 : World} {st st1 st2 : St} (p : Post ρ h w st ρ1 h1 w1 st1) (f : Fresh ρ h st st2) (hle : st1.n ≤ st2.n) : Fresh ρ1 h1 st1 st2 where
  none := fun id h1 h2 => by
    have hρ : ρ id = Option.none := f.none id (Nat.le_trans p.le h1) h2
    by_cases e : ρ1 id = ρ id
    · rw [e]; exact hρ
    · have := p.new id e; omega
  far := fun id h2 h3 ro x cs => by
    have e : ρ1 id = ρ id := by
      by_cases e : ρ1 id = ρ id
      · exact e
      · have := p.new id e; omega
    rw [p.heap]
    unfold upd
    rw [if_neg (by omega)]
    exact f.far id h2 (by rw [← e]; exact h3) ro x cs
theorem Fresh.first {ρ : Rho} {h : Hp} {st st1 st2 : St} (f : Fresh ρ h st st2) (h0 : st.n ≤ st1.n) (h1 : st1.n ≤ st2.n) : Fresh ρ h st st1 where
  none := fun id h1 h2 => f.none id h1 (by omega)
  far := fun id h2 h3 => by
    rcases Nat.lt_or_ge id st2.n with h4 | h4
    · exact absurd (f.none id (by omega) h4) h3
    · exact f.far id h4 h3

theorem HR.drew {ρ : Rho} {h : Hp} {w : World} (hr : HR ρ h w) (n : Nat) : HR ρ h { w with drawn := n } where
  cell := fun id B o r ro fam cs h1 h2 => by
    obtain ⟨a, b, c, d, e⟩ := hr.cell id B o r ro fam cs h1 h2
    exact ⟨a, b, c, d, e⟩
  apart := hr.apart
  fam := hr.fam
  ent := hr.ent
theorem Post.drew {ρ ρ' : Rho} {h h' : Hp} {w w' : World} {st st' : St} (p : Post ρ h w st ρ' h' w' st') (n : Nat) : Post ρ h w st ρ' h' { w' with drawn := n } st' where
  ext := p.ext
  new := p.new
  heap := p.heap
  hr := p.hr.drew n
  agree := p.agree
  le := p.le
  os := p.os
  tape := p.tape
  output := p.output
  size := p.size
  frame := p.frame
  idle := p.idle
theorem Post.from_drew {ρ ρ' : Rho} {h h' : Hp} {w w' : World} {st st' : St} {n : Nat} (p : Post ρ h { w with drawn := n } st ρ' h' w' st') : Post ρ h w st ρ' h' w' st' where
  ext := p.ext
  new := p.new
  heap := p.heap
  hr := p.hr
  agree := p.agree
  le := p.le
  os := p.os
  tape := p.tape
  output := p.output
  size := p.size
  frame := p.frame
  idle := p.idle

/- ### reading -/
theorem Holds.read {ρ : Rho} {w : World} {B o r : Nat} {ro : Bool} {cs l : List AV} {off n : Nat} (h : Holds ρ w B o r ro cs) (e : readL cs off n = some l) :
    ∃ vs, Rels ρ l vs ∧ vs.length = n ∧ ∀ (P : Program), (loadCells ⟨B, o + off, none⟩ n).run P w = .ok vs.toArray w := by
  obtain ⟨hle, rfl⟩ := readL_some e
  obtain ⟨vs, hr, hc⟩ := h.vals
  have hl := hr.length
  refine ⟨(vs.drop off).take n, (hr.drop off).take n, by simp; omega, fun P => ?_⟩
  have := run_loadCells_list (P := P) w ⟨B, o + off, none⟩ ((vs.drop off).take n) (fun j v hj => by
    rw [Addr.add_lit, Nat.add_assoc]
    apply hc
    rw [List.getElem?_take] at hj
    split at hj
    · rwa [List.getElem?_drop] at hj
    · cases hj)
  rw [show ((vs.drop off).take n).length = n by simp; omega] at this
  exact this
theorem read_sound {ρ : Rho} {h : Hp} {w : World} (hr : HR ρ h w) {b off n B o r : Nat} {ro : Bool} {fam : Option (Nat × Nat)} {cs l : List AV} (hb : h b = some (.cells ro fam cs)) (hρ : ρ b = some (B, o, r))
    (e : readL cs off n = some l) : ∃ vs, Rels ρ l vs ∧ vs.length = n ∧ ∀ (P : Program), (loadCells ⟨B, o + off, none⟩ n).run P w = .ok vs.toArray w :=
  (hr.cell b B o r ro fam cs hρ hb).read e
theorem St.read_some {st : St} {b off n : Nat} {l : List AV} (e : st.read b off n = some l) : ∃ ro fam cs, st.get b = some (.cells ro fam cs) ∧ readL cs off n = some l := by
  unfold St.read at e
  split at e
  · cases e
  · split at e
    · rename_i ro fam cs hb; exact ⟨ro, fam, cs, hb, e⟩
    · cases e
theorem St.read_lt {st : St} {b off n : Nat} {l : List AV} (e : st.read b off n = some l) : b < st.n := by
  unfold St.read at e
  split at e
  · cases e
  · rename_i h; simpa [Nat.blt_eq] using h
theorem St.read_of {st : St} {b off n : Nat} {ro : Bool} {fam : Option (Nat × Nat)} {cs : List AV} (h : b < st.n) (hb : st.get b = some (.cells ro fam cs)) : st.read b off n = readL cs off n := by
  unfold St.read
  rw [show Nat.blt b st.n = true by simpa [Nat.blt_eq] using h, hb]

/- ### a new block -/
theorem rel_of_le {ρ ρ' : Rho} (hle : ρ.le ρ') {w w' : World} {B o r : Nat} {ro : Bool} {cs : List AV} (h : Holds ρ w B o r ro cs) (hsz : w.heap.size ≤ w'.heap.size) (hb : w'.heap[B]? = w.heap[B]?) : Holds ρ' w' B o r ro cs where
  fit := h.fit
  lt := Nat.lt_of_lt_of_le h.lt hsz
  vals := by
    obtain ⟨vs, h1, h2⟩ := h.vals
    exact ⟨vs, Rels.mono hle _ _ h1, fun i v e => by rw [World.cell?_of_block (w := w) (by exact hb)]; exact h2 i v e⟩
  there := fun j hj => by rw [World.cell?_of_block (w := w) (by exact hb)]; exact h.there j hj
  free := fun e j hj => by rw [World.frozen?_of_block (w := w) (by exact hb)]; exact h.free e j hj

/-- A new real block that a new number (or one that has waited for it) stands for. -/
theorem alloc_HR {ρ : Rho} {h : Hp} {w : World} (hr : HR ρ h w) {id : Nat} {cs : List AV} {vs rest : List Value} {e : TypeId} {fam : Option (Nat × Nat)} (hid : ρ id = none) (hh : h id = some (.cells false fam cs)) (hrel : Rels ρ cs vs)
    (hfam : ∀ rt b, fam = some (rt, b) → ∃ ms, h rt = some (.fam ms) ∧ ms = [id]) :
    HR (fun i => if i = id then some (w.heap.size, 0, vs.length + rest.length) else ρ i) h (w.alloc (.cells (vs ++ rest).toArray e)) := by
  obtain ⟨ρ', hρ'⟩ : ∃ ρ' : Rho, ρ' = fun i => if i = id then some (w.heap.size, 0, vs.length + rest.length) else ρ i := ⟨_, rfl⟩
  rw [← hρ']
  have hle : ρ.le ρ' := fun i x ex => by
    rw [hρ']; simp only; rw [if_neg (fun ei => by rw [ei, hid] at ex; cases ex)]; exact ex
  have hnew : ρ' id = some (w.heap.size, 0, vs.length + rest.length) := by rw [hρ']; simp
  have hold : ∀ i, i ≠ id → ρ' i = ρ i := fun i hi => by rw [hρ']; simp [hi]
  have hlt : ∀ i B o r ro f c, ρ i = some (B, o, r) → h i = some (.cells ro f c) → B < w.heap.size := fun i B o r ro f c h1 h2 => (hr.cell i B o r ro f c h1 h2).lt
  refine ⟨?_, ?_, ?_, ?_⟩
  · intro i B o r ro f c h1 h2
    by_cases hi : i = id
    · subst hi
      rw [hnew] at h1; cases h1
      rw [hh] at h2; cases h2
      refine ⟨by rw [hrel.length]; omega, by simp, ⟨vs, Rels.mono hle _ _ hrel, fun i v ev => ?_⟩, fun j hj => ?_, fun _ j hj => ?_⟩
      · rw [World.cell?_alloc_new]
        simp only [Nat.zero_add, List.getElem?_toArray]
        rw [List.getElem?_append_left (List.getElem?_eq_some_iff.1 ev).1]
        exact ev
      · rw [World.cell?_alloc_new]
        simp only [Nat.zero_add, List.getElem?_toArray]
        rw [List.getElem?_eq_getElem (by simp; omega)]
        rfl
      · exact World.frozen?_alloc_new _ _ _ _
    · rw [hold i hi] at h1
      have hc := hr.cell i B o r ro f c h1 h2
      exact rel_of_le hle hc (by simp) (heap_alloc_old w _ _ hc.lt)
  · intro i j B o r o' r' ro ro' f f' c c' hij h1 h2 h3 h4 h5
    by_cases hi : i = id
    · subst hi
      rw [hnew] at h1; cases h1
      rw [hold j (fun e => hij e.symm)] at h2
      have := hlt _ _ _ _ _ _ _ h2 h4
      omega
    · rw [hold i hi] at h1
      by_cases hj : j = id
      · subst hj
        rw [hnew] at h2; cases h2
        have := hlt _ _ _ _ _ _ _ h1 h3
        omega
      · rw [hold j hj] at h2
        exact hr.apart i j B o r o' r' ro ro' f f' c c' hij h1 h2 h3 h4 h5
  · intro i rt b x ro c h1 h2
    by_cases hi : i = id
    · subst hi
      rw [hh] at h2; cases h2
      obtain ⟨ms, hm, rfl⟩ := hfam rt b rfl
      exact ⟨rfl, [i], hm, by simp, fun m hm' => by simp at hm'; subst hm'; rw [hnew]; simp⟩
    · rw [hold i hi] at h1
      obtain ⟨a1, ms, a2, a3, a4⟩ := hr.fam i rt b x ro c h1 h2
      exact ⟨a1, ms, a2, a3, fun m hm => by
        by_cases hmi : m = id
        · rw [hmi, hnew]; simp
        · rw [hold m hmi]; exact a4 m hm⟩
  · intro i hi
    by_cases hii : i = id
    · subst hii; rw [hh]; simp
    · rw [hold i hii] at hi; exact hr.ent i hi

/-- What is alive elsewhere does not hang on entries that no realized number has to do with. -/
theorem HR.congr {ρ : Rho} {h h' : Hp} {w : World} (hr : HR ρ h w) (e1 : ∀ i, ρ i ≠ none → h' i = h i) (e2 : ∀ i ro rt b cs, ρ i ≠ none → h i = some (.cells ro (some (rt, b)) cs) → h' rt = h rt) : HR ρ h' w where
  cell := fun id B o r ro fam cs h1 h2 => hr.cell id B o r ro fam cs h1 (by rw [← e1 id (by rw [h1]; simp)]; exact h2)
  apart := fun i j B o r o' r' ro ro' fam fam' cs cs' hij h1 h2 h3 h4 h5 => hr.apart i j B o r o' r' ro ro' fam fam' cs cs' hij h1 h2 (by rw [← e1 i (by rw [h1]; simp)]; exact h3) (by rw [← e1 j (by rw [h2]; simp)]; exact h4) h5
  fam := fun i rt b x ro cs h1 h2 => by
    have hi : ρ i ≠ none := by rw [h1]; simp
    have h3 : h i = some (.cells ro (some (rt, b)) cs) := by rw [← e1 i hi]; exact h2
    obtain ⟨a1, ms, a2, a3, a4⟩ := hr.fam i rt b x ro cs h1 h3
    exact ⟨a1, ms, by rw [e2 i ro rt b cs hi h3]; exact a2, a3, a4⟩
  ent := fun i hi => by rw [e1 i hi]; exact hr.ent i hi
/-- New numbers are laid: what is realized stays as it is. -/
theorem HR.grow {ρ : Rho} {h : Hp} {w : World} {st st' : St} (hr : HR ρ h w) (ha : Agree st h) (hf : Fresh ρ h st st') (hle : st.n ≤ st'.n) (hold : ∀ id, id < st.n → st'.get id = st.get id) : HR ρ (upd st' h) w := by
  refine hr.congr (fun i hi => ?_) (fun i ro rt b cs hi hc => ?_)
  · unfold upd
    split
    · rename_i hlt
      by_cases h1 : i < st.n
      · rw [hold i h1, ha.eq i h1]
      · exact absurd (hf.none i (by omega) hlt) hi
    · rfl
  · have hin : i < st.n := by
      rcases Nat.lt_or_ge i st.n with h1 | h1
      · exact h1
      · rcases Nat.lt_or_ge i st'.n with h2 | h2
        · exact absurd (hf.none i h1 h2) hi
        · exact absurd hc (hf.far i h2 hi ro (rt, b) cs)
    rw [ha.eq i hin] at hc
    have hrt := ha.ref i ro rt b cs hc
    unfold upd
    rw [if_pos (by omega), hold rt hrt, ha.eq rt hrt]

end Go.Den
