/- The relation between the abstract machine's values and heap and the model's: first laws. -/
import Derived.Test.YtekedhfmdpbplaaDenA
import Derived.Tactics
import Derived.Below
import Derived.ChangeKeysEq
import Derived.Laws.BytesString
import Derived.Laws.AppendOwn
namespace Go.Den
open Go

/- ### The tree -/
namespace Tr
variable {α : Type}
theorem get_leaf (i : Nat) : (leaf : Tr α).get i = none := rfl
theorem get_setF_same : ∀ (f : Nat) (t : Tr α) (i : Nat) (a : α), i < f → (setF f t i a).get i = some a := by
  intro f
  induction f with
  | zero => intro t i a h; omega
  | succ f ih =>
    intro t i a h
    by_cases h0 : i = 0
    · subst h0; cases t <;> rfl
    · have e0 : Nat.beq i 0 = false := by rw [Bool.eq_false_iff]; intro e; exact h0 (Nat.eq_of_beq_eq_true e)
      by_cases h1 : i % 2 = 1
      · have e1 : Nat.beq (i % 2) 1 = true := by rw [h1]; rfl
        cases t <;> simp only [setF, e0, e1, get] <;> exact ih _ _ _ (by omega)
      · have e1 : Nat.beq (i % 2) 1 = false := by rw [Bool.eq_false_iff]; intro e; exact h1 (Nat.eq_of_beq_eq_true e)
        cases t <;> simp only [setF, e0, e1, get] <;> exact ih _ _ _ (by omega)
theorem get_setF_ne : ∀ (f : Nat) (t : Tr α) (i j : Nat) (a : α), i ≠ j → (setF f t i a).get j = t.get j := by
  intro f
  induction f with
  | zero => intro t i j a h; rfl
  | succ f ih =>
    intro t i j a h
    by_cases h0 : i = 0
    · subst h0
      have ej : Nat.beq j 0 = false := by rw [Bool.eq_false_iff]; intro e; exact h (Nat.eq_of_beq_eq_true e).symm
      cases t with
      | leaf =>
        show Tr.get (node leaf (some a) leaf) j = none
        simp only [get, ej]
        split <;> rfl
      | node l v r =>
        show Tr.get (node l (some a) r) j = Tr.get (node l v r) j
        simp only [get, ej]
    · have e0 : Nat.beq i 0 = false := by rw [Bool.eq_false_iff]; intro e; exact h0 (Nat.eq_of_beq_eq_true e)
      by_cases h1 : i % 2 = 1
      · have e1 : Nat.beq (i % 2) 1 = true := by rw [h1]; rfl
        cases t with
        | leaf =>
          simp only [setF, e0, e1, get]
          cases ej : Nat.beq j 0 <;> simp only []
          have hj : j ≠ 0 := fun e => by subst e; cases ej
          cases ej1 : Nat.beq (j % 2) 1 with
          | false => rfl
          | true =>
            have : j % 2 = 1 := Nat.eq_of_beq_eq_true ej1
            simp only []
            rw [ih _ _ _ _ (by omega)]; rfl
        | node l v r =>
          simp only [setF, e0, e1, get]
          cases ej : Nat.beq j 0 <;> simp only []
          cases ej1 : Nat.beq (j % 2) 1 <;> simp only []
          have : j % 2 = 1 := Nat.eq_of_beq_eq_true ej1
          exact ih _ _ _ _ (by omega)
      · have e1 : Nat.beq (i % 2) 1 = false := by rw [Bool.eq_false_iff]; intro e; exact h1 (Nat.eq_of_beq_eq_true e)
        have hi2 : i % 2 = 0 := by omega
        cases t with
        | leaf =>
          simp only [setF, e0, e1, get]
          cases ej : Nat.beq j 0 <;> simp only []
          have hj : j ≠ 0 := fun e => by subst e; cases ej
          cases ej1 : Nat.beq (j % 2) 1 with
          | true => rfl
          | false =>
            have hj2 : ¬ j % 2 = 1 := fun e => by rw [e] at ej1; cases ej1
            simp only []
            rw [ih _ _ _ _ (by omega)]; rfl
        | node l v r =>
          simp only [setF, e0, e1, get]
          cases ej : Nat.beq j 0 <;> simp only []
          have hj : j ≠ 0 := fun e => by subst e; cases ej
          cases ej1 : Nat.beq (j % 2) 1 <;> simp only []
          have hj2 : ¬ j % 2 = 1 := fun e => by rw [e] at ej1; cases ej1
          exact ih _ _ _ _ (by omega)
theorem get_set (t : Tr α) (i j : Nat) (a : α) : (t.set i a).get j = if i = j then some a else t.get j := by
  unfold set
  split
  · rename_i h; subst h; exact get_setF_same _ _ _ _ (by omega)
  · rename_i h; exact get_setF_ne _ _ _ _ _ h
end Tr

/- ### Values -/
abbrev Rho := Nat → Option (Nat × Nat × Nat)
def Rho.le (ρ ρ' : Rho) : Prop := ∀ i x, ρ i = some x → ρ' i = some x
def litOk : Value → Bool
  | .nilIface | .map none => true
  | _ => false

mutual
def Rel (ρ : Rho) : AV → Value → Prop
  | .bool b, v => v = .bool b
  | .int k n, v => v = .int k n
  | .str s, v => v = .string ⟨s.toArray⟩
  | .ptr none, v => v = .pointer none
  | .ptr (some (b, off)), v => ∃ B o r, ρ b = some (B, o, r) ∧ v = .pointer (some ⟨B, o + off, none⟩)
  | .glob g, v => v = .pointer (some ⟨g, 0, none⟩)
  | .sl none len cap, v => len = 0 ∧ cap = .known 0 ∧ v = .slice none 0 0
  | .sl (some (b, off)) len (.known c), v => ∃ B o r, ρ b = some (B, o, r) ∧ len ≤ c ∧ v = .slice (some ⟨B, o + off, none⟩) len c
  | .sl (some (b, off)) len (.more lb sz), v => ∃ B o r cap, ρ b = some (B, o, r) ∧ len ≤ lb ∧ lb ≤ cap ∧ off + cap * sz ≤ r ∧
      (v = .slice (some ⟨B, o + off, none⟩) len cap ∨ (cap = 0 ∧ ∃ x, v = .slice (some ⟨B, x, none⟩) 0 0))
  | .fn f first caps, v => ∃ x y, v = .func f x.toArray y.toArray ∧ Rels ρ first x ∧ Rels ρ caps y
  | .nilFn, v => v = .nilFunc
  | .lit u, v => v = u ∧ litOk u = true
  | .agg cs, v => ∃ l, v = .agg l.toArray ∧ Rels ρ cs l
  | .tup vs, v => ∃ l, v = .tuple l.toArray ∧ Rels ρ vs l
  | .fact k fs, v => ∃ n, v = .int k n ∧ ∀ x ∈ fs, chainA k n x.1 = some (x.2.av k)
def Rels (ρ : Rho) : List AV → List Value → Prop
  | [], l => l = []
  | a :: as, l => ∃ v vs, l = v :: vs ∧ Rel ρ a v ∧ Rels ρ as vs
end

theorem Rels.nil {ρ : Rho} : Rels ρ [] [] := by simp [Rels]
theorem Rels.cons {ρ : Rho} {a : AV} {v : Value} {as : List AV} {vs : List Value} (h : Rel ρ a v) (hs : Rels ρ as vs) : Rels ρ (a :: as) (v :: vs) := by
  simp only [Rels]; exact ⟨v, vs, rfl, h, hs⟩
theorem Rels.length {ρ : Rho} : ∀ {as : List AV} {vs : List Value}, Rels ρ as vs → vs.length = as.length
  | [], vs, h => by simp [Rels] at h; simp [h]
  | a :: as, vs, h => by
    simp only [Rels] at h
    obtain ⟨v, vs', rfl, _, h'⟩ := h
    simp [Rels.length h']
theorem Rels.get {ρ : Rho} : ∀ {as : List AV} {vs : List Value}, Rels ρ as vs → ∀ (i : Nat) (a : AV), as[i]? = some a → ∃ v, vs[i]? = some v ∧ Rel ρ a v
  | [], vs, h, i, a, e => by simp at e
  | x :: as, vs, h, i, a, e => by
    simp only [Rels] at h
    obtain ⟨v, vs', rfl, h1, h'⟩ := h
    cases i with
    | zero => simp at e; subst e; exact ⟨v, by simp, h1⟩
    | succ i => simp at e; simpa using Rels.get h' i a e
theorem Rels.of_get {ρ : Rho} : ∀ {as : List AV} {vs : List Value}, vs.length = as.length → (∀ (i : Nat) (a : AV) (v : Value), as[i]? = some a → vs[i]? = some v → Rel ρ a v) → Rels ρ as vs
  | [], vs, hl, h => by simp at hl; subst hl; exact Rels.nil
  | x :: as, [], hl, h => by simp at hl
  | x :: as, v :: vs, hl, h => by
    refine Rels.cons (h 0 x v (by simp) (by simp)) (Rels.of_get (by simpa using hl) (fun i a u e1 e2 => h (i + 1) a u (by simpa using e1) (by simpa using e2)))
theorem Rels.append {ρ : Rho} {as bs : List AV} {vs us : List Value} (h : Rels ρ as vs) (k : Rels ρ bs us) : Rels ρ (as ++ bs) (vs ++ us) := by
  induction as generalizing vs with
  | nil => simp [Rels] at h; subst h; simpa using k
  | cons a as ih =>
    simp only [Rels] at h
    obtain ⟨v, vs', rfl, h1, h'⟩ := h
    exact Rels.cons h1 (ih h')
theorem Rels.take {ρ : Rho} {as : List AV} {vs : List Value} (h : Rels ρ as vs) (n : Nat) : Rels ρ (as.take n) (vs.take n) := by
  induction as generalizing vs n with
  | nil => simp [Rels] at h; subst h; simpa using Rels.nil
  | cons a as ih =>
    simp only [Rels] at h
    obtain ⟨v, vs', rfl, h1, h'⟩ := h
    cases n with
    | zero => simpa using Rels.nil
    | succ n => simpa using Rels.cons h1 (ih h' n)
theorem Rels.drop {ρ : Rho} {as : List AV} {vs : List Value} (h : Rels ρ as vs) (n : Nat) : Rels ρ (as.drop n) (vs.drop n) := by
  induction as generalizing vs n with
  | nil => simp [Rels] at h; subst h; simpa using Rels.nil
  | cons a as ih =>
    simp only [Rels] at h
    obtain ⟨v, vs', rfl, h1, h'⟩ := h
    cases n with
    | zero => simpa using Rels.cons h1 h'
    | succ n => simpa using ih h' n

mutual
theorem Rel.mono {ρ ρ' : Rho} (hle : ρ.le ρ') : ∀ (a : AV) (v : Value), Rel ρ a v → Rel ρ' a v
  | .bool _, _, h => by simpa [Rel] using h
  | .int _ _, _, h => by simpa [Rel] using h
  | .str _, _, h => by simpa [Rel] using h
  | .ptr none, _, h => by simpa [Rel] using h
  | .ptr (some (b, off)), _, h => by
    simp only [Rel] at h ⊢
    obtain ⟨B, o, r, h1, h2⟩ := h
    exact ⟨B, o, r, hle _ _ h1, h2⟩
  | .glob _, _, h => by simpa [Rel] using h
  | .sl none _ _, _, h => by simpa [Rel] using h
  | .sl (some (b, off)) _ (.known c), _, h => by
    simp only [Rel] at h ⊢
    obtain ⟨B, o, r, h1, h2⟩ := h
    exact ⟨B, o, r, hle _ _ h1, h2⟩
  | .sl (some (b, off)) _ (.more _ _), _, h => by
    simp only [Rel] at h ⊢
    obtain ⟨B, o, r, cap, h1, h2⟩ := h
    exact ⟨B, o, r, cap, hle _ _ h1, h2⟩
  | .fn f first caps, _, h => by
    simp only [Rel] at h ⊢
    obtain ⟨x, y, h1, h2, h3⟩ := h
    exact ⟨x, y, h1, Rels.mono hle _ _ h2, Rels.mono hle _ _ h3⟩
  | .nilFn, _, h => by simpa [Rel] using h
  | .lit _, _, h => by simpa [Rel] using h
  | .fact _ _, _, h => by simpa only [Rel] using h
  | .agg cs, _, h => by
    simp only [Rel] at h ⊢
    obtain ⟨l, h1, h2⟩ := h
    exact ⟨l, h1, Rels.mono hle _ _ h2⟩
  | .tup cs, _, h => by
    simp only [Rel] at h ⊢
    obtain ⟨l, h1, h2⟩ := h
    exact ⟨l, h1, Rels.mono hle _ _ h2⟩
theorem Rels.mono {ρ ρ' : Rho} (hle : ρ.le ρ') : ∀ (as : List AV) (vs : List Value), Rels ρ as vs → Rels ρ' as vs
  | [], _, h => by simpa [Rels] using h
  | a :: as, _, h => by
    simp only [Rels] at h ⊢
    obtain ⟨v, vs, h1, h2, h3⟩ := h
    exact ⟨v, vs, h1, Rel.mono hle _ _ h2, Rels.mono hle _ _ h3⟩
end

theorem rel_undef (ρ : Rho) : Rel ρ undefA undef := by simp [undefA, undef, Rel, Rels]
theorem Rel.bool_inv {ρ : Rho} {a : AV} {b : Bool} (h : Rel ρ a (.bool b)) : a = .bool b := by
  cases a with
  | bool => simp [Rel] at h; simp [h]
  | ptr p => rcases p with _ | ⟨_, _⟩ <;> simp [Rel] at h
  | sl p n c => rcases p with _ | ⟨_, _⟩ <;> cases c <;> simp [Rel] at h
  | lit u => simp only [Rel] at h; obtain ⟨rfl, h⟩ := h; simp [litOk] at h
  | _ => simp [Rel] at h

mutual
theorem rel_ofVal {ρ : Rho} : ∀ (v : Value) (a : AV), ofVal v = some a → Rel ρ a v
  | .bool b, a, h => by simp [ofVal] at h; subst h; simp [Rel]
  | .int k n, a, h => by simp [ofVal] at h; subst h; simp [Rel]
  | .string s, a, h => by simp [ofVal] at h; subst h; simp [Rel]
  | .pointer none, a, h => by simp [ofVal] at h; subst h; simp [Rel]
  | .pointer (some _), a, h => by simp [ofVal] at h
  | .slice none 0 0, a, h => by simp [ofVal] at h; subst h; simp [Rel]
  | .slice none (n + 1) _, a, h => by simp [ofVal] at h
  | .slice none 0 (n + 1), a, h => by simp [ofVal] at h
  | .slice (some _) _ _, a, h => by simp [ofVal] at h
  | .nilFunc, a, h => by simp [ofVal] at h; subst h; simp [Rel]
  | .nilIface, a, h => by simp [ofVal] at h; subst h; simp [Rel, litOk]
  | .map none, a, h => by simp [ofVal] at h; subst h; simp [Rel, litOk]
  | .map (some _), a, h => by simp [ofVal] at h
  | .func (.func f) ⟨[]⟩ ⟨[]⟩, a, h => by simp [ofVal] at h; subst h; simp [Rel, Rels]
  | .func (.func f) ⟨_ :: _⟩ _, a, h => by simp [ofVal] at h
  | .func (.func f) ⟨[]⟩ ⟨_ :: _⟩, a, h => by simp [ofVal] at h
  | .func (.method _) _ _, a, h => by simp [ofVal] at h
  | .func (.methodOf _ _) _ _, a, h => by simp [ofVal] at h
  | .func (.via _ _ _ _) _ _, a, h => by simp [ofVal] at h
  | .func (.yield _) _ _, a, h => by simp [ofVal] at h
  | .agg ⟨cs⟩, a, h => by
    simp only [ofVal] at h
    split at h
    · rename_i l hl
      cases h
      simp only [Rel]
      exact ⟨cs, rfl, rels_ofVals cs l hl⟩
    · cases h
  | .tuple ⟨[]⟩, a, h => by simp [ofVal] at h; subst h; simp [Rel, Rels]
  | .tuple ⟨_ :: _⟩, a, h => by simp [ofVal] at h
  | .float _ _, a, h => by simp [ofVal] at h
  | .complex _ _ _, a, h => by simp [ofVal] at h
  | .chan _, a, h => by simp [ofVal] at h
  | .iface _ _, a, h => by simp [ofVal] at h
theorem rels_ofVals {ρ : Rho} : ∀ (vs : List Value) (as : List AV), ofVals vs = some as → Rels ρ as vs
  | [], as, h => by simp [ofVals] at h; subst h; simp [Rels]
  | v :: vs, as, h => by
    simp only [ofVals] at h
    split at h
    · cases h
    · rename_i a ha
      split at h
      · cases h
      · rename_i l hl
        cases h
        exact Rels.cons (rel_ofVal v a ha) (rels_ofVals vs l hl)
end

theorem Rel.cells {ρ : Rho} {a : AV} {v : Value} (h : Rel ρ a v) : Rels ρ a.cells v.cells.toList := by
  cases a with
  | agg cs =>
    simp only [Rel] at h
    obtain ⟨l, rfl, h2⟩ := h
    simpa [AV.cells, Value.cells] using h2
  | bool => simp only [Rel] at h; subst h; exact Rels.cons (by simp [Rel]) Rels.nil
  | int => simp only [Rel] at h; subst h; exact Rels.cons (by simp [Rel]) Rels.nil
  | str => simp only [Rel] at h; subst h; exact Rels.cons (by simp [Rel]) Rels.nil
  | nilFn => simp only [Rel] at h; subst h; exact Rels.cons (by simp [Rel]) Rels.nil
  | glob => simp only [Rel] at h; subst h; exact Rels.cons (by simp [Rel]) Rels.nil
  | tup =>
    have h' := h
    simp only [Rel] at h
    obtain ⟨l, rfl, _⟩ := h
    exact Rels.cons h' Rels.nil
  | fact =>
    have h' := h
    simp only [Rel] at h
    obtain ⟨l, rfl, _⟩ := h
    exact Rels.cons h' Rels.nil
  | fn =>
    have h' := h
    simp only [Rel] at h
    obtain ⟨x, y, rfl, _⟩ := h
    exact Rels.cons h' Rels.nil
  | lit u =>
    have h' := h
    simp only [Rel] at h
    obtain ⟨rfl, h2⟩ := h
    have : v.cells = #[v] := by cases v <;> simp [litOk] at h2 <;> rfl
    rw [this]
    exact Rels.cons h' Rels.nil
  | ptr p =>
    have h' := h
    have : v.cells = #[v] := by
      rcases p with _ | ⟨_, _⟩ <;> simp only [Rel] at h
      · subst h; rfl
      · obtain ⟨B, o, r, _, rfl⟩ := h; rfl
    rw [this]
    exact Rels.cons h' Rels.nil
  | sl p n c =>
    have h' := h
    have : v.cells = #[v] := by
      rcases p with _ | ⟨_, _⟩ <;> cases c <;> simp only [Rel] at h
      · obtain ⟨_, _, rfl⟩ := h; rfl
      · obtain ⟨_, _, rfl⟩ := h; rfl
      · obtain ⟨B, o, r, _, _, rfl⟩ := h; rfl
      · obtain ⟨B, o, r, cap, _, _, _, _, rfl | ⟨_, x, rfl⟩⟩ := h <;> rfl
    rw [this]
    exact Rels.cons h' Rels.nil

theorem Rel.oneCell {ρ : Rho} {a : AV} {v : Value} (h : Rel ρ a v) (hs : scalarV a = true) : v.oneCell' = true := by
  cases a with
  | agg => simp [scalarV] at hs
  | tup => simp [scalarV] at hs
  | ptr p =>
    rcases p with _ | ⟨_, _⟩ <;> simp only [Rel] at h
    · subst h; rfl
    · obtain ⟨B, o, r, _, rfl⟩ := h; rfl
  | sl p n c =>
    rcases p with _ | ⟨_, _⟩ <;> cases c <;> simp only [Rel] at h
    · obtain ⟨_, _, rfl⟩ := h; rfl
    · obtain ⟨_, _, rfl⟩ := h; rfl
    · obtain ⟨B, o, r, _, _, rfl⟩ := h; rfl
    · obtain ⟨B, o, r, cap, _, _, _, _, rfl | ⟨_, x, rfl⟩⟩ := h <;> rfl
  | fn =>
    simp only [Rel] at h
    obtain ⟨x, y, rfl, _⟩ := h
    rfl
  | fact =>
    simp only [Rel] at h
    obtain ⟨x, rfl, _⟩ := h
    rfl
  | lit u =>
    simp only [Rel] at h
    obtain ⟨rfl, h2⟩ := h
    cases v <;> simp [litOk] at h2 <;> rfl
  | _ => simp only [Rel] at h; subst h; rfl
theorem Rels.oneCell {ρ : Rho} : ∀ {as : List AV} {vs : List Value}, Rels ρ as vs → scalars as = true → ∀ v ∈ vs, v.oneCell' = true
  | [], vs, h, _, v, hv => by simp [Rels] at h; subst h; simp at hv
  | a :: as, vs, h, hs, v, hv => by
    simp only [Rels] at h
    obtain ⟨u, us, rfl, h1, h2⟩ := h
    simp only [scalars, Bool.and_eq_true] at hs
    rcases List.mem_cons.1 hv with rfl | hv
    · exact h1.oneCell hs.1
    · exact Rels.oneCell h2 hs.2 v hv

end Go.Den
