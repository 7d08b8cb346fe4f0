/- Plain: loops that count up. -/
import Derived.Test.YtekedhfmdpbplaaSyMg
import Derived.Test.YtekedhfmdpbplaaPvX
import Derived.Test.YtekedhfmdpbplaaPvG
set_option linter.unusedSimpArgs false
set_option linter.unusedVariables false
namespace Go.Sy
open Go
/-- What is left of a loop from its k-th round on. -/
def runQ {A Y : Type} (q : Nat → A → Sum A Y) (yE : A → Y) : Nat → Nat → A → Y
  | 0, _, a => yE a
  | f + 1, k, a => match q k a with
    | .inl a' => runQ q yE f (k + 1) a'
    | .inr y => y
theorem loop_gen {X Y A : Type} {stp : X → NT X Y} (e : Nat → A → X) (q : Nat → A → Sum A Y) (yE : A → Y) (inv : Nat → A → Prop) (n : Nat)
    (h : ∀ k a, k < n → inv k a → match q k a with
      | .inl a' => (stp (e k a)).run = .more (e (k + 1) a') ∧ inv (k + 1) a'
      | .inr y => (stp (e k a)).run = .done y)
    (hE : ∀ a, inv n a → (stp (e n a)).run = .done (yE a)) : ∀ f k a, k + f = n → inv k a → loopR stp (e k a) = some (runQ q yE f k a)
  | 0, k, a, hk, hi => by
    obtain rfl : k = n := by omega
    rw [loopR_eq, hE a hi]; rfl
  | f + 1, k, a, hk, hi => by
    have h1 := h k a (by omega) hi
    rw [loopR_eq]
    simp only [runQ]
    cases hq : q k a with
    | inl a' =>
      rw [hq] at h1
      simp only at h1
      rw [h1.1]
      exact loop_gen e q yE inv n h hE f (k + 1) a' (by omega) h1.2
    | inr y =>
      rw [hq] at h1
      simp only at h1
      rw [h1]
/-- The first of a list's elements that has an answer. -/
def scanL {Y : Type} (q : Nat → D → Option Y) (yE : Y) : Nat → List D → Y
  | _, [] => yE
  | k, d :: l => match q k d with
    | some y => y
    | none => scanL q yE (k + 1) l
theorem runQ_scan {Y : Type} {q : Nat → D → Option Y} {yE : Y} {l : List D} : ∀ f k, k + f = l.length →
    runQ (fun k (_ : Unit) => match q k (l.getD k .nul) with | some y => .inr y | none => .inl ()) (fun _ => yE) f k () = scanL q yE k (l.drop k)
  | 0, k, h => by rw [List.drop_eq_nil_of_le (by omega)]; rfl
  | f + 1, k, h => by
    rw [drop_get (d := .nul) (show k < l.length by omega)]
    simp only [runQ, scanL]
    cases q k (l.getD k .nul) with
    | some y => rfl
    | none => exact runQ_scan f (k + 1) (by omega)
/-- A loop over a list that is left at the first element that has an answer. -/
theorem loop_scan {Y : Type} {stp : Int → NT Int Y} (l : List D) (q : Nat → D → Option Y) (yE : Y)
    (h : ∀ k, k < l.length → (stp (k : Int)).run = match q k (l.getD k .nul) with
      | some y => .done y
      | none => .more ((k + 1 : Nat) : Int))
    (hE : (stp (l.length : Int)).run = .done yE) : loopR stp 0 = some (scanL q yE 0 l) := by
  have := loop_gen (stp := stp) (fun k (_ : Unit) => (k : Int)) (fun k (_ : Unit) => match q k (l.getD k .nul) with | some y => .inr y | none => .inl ()) (fun _ => yE) (fun _ _ => True) l.length
    (fun k a hk _ => by
      have := h k hk
      cases hq : q k (l.getD k .nul) with
      | some y => rw [hq] at this; exact this
      | none => rw [hq] at this; exact ⟨this, trivial⟩) (fun a _ => hE) l.length 0 () (by omega) trivial
  rw [runQ_scan _ _ (by omega)] at this
  exact this
theorem nrun_br {X Y : Type} {b : Bool} {l r : NT X Y} : (NT.br b l r).run = if b then l.run else r.run := by cases b <;> rfl
theorem nrun_more {X Y : Type} {x : X} : (NT.more x : NT X Y).run = .more x := rfl
theorem nrun_done {X Y : Type} {y : Y} : (NT.done y : NT X Y).run = .done y := rfl
theorem nrun_fail {X Y : Type} : (NT.fail : NT X Y).run = .fail := rfl
theorem lt_cast {k n : Nat} (h : k < n) : decide ((k : Int) < (n : Int)) = true := by simp; omega
theorem lt_self (n : Nat) : decide ((n : Int) < (n : Int)) = false := by simp
theorem ge0 (k : Nat) : decide ((0 : Int) ≤ (k : Int)) = true := by simp
theorem wrap1 {k : Nat} (h : k < 1000000) : IntKind.i64.wrap ((k : Int) + (1 : Int)) = ((k + 1 : Nat) : Int) := by rw [wrap64 (by omega) (by omega)]; rfl
/-- A loop that counts up: left at the first number that has an answer. -/
theorem loop_first {Y : Type} {stp : Int → NT Int Y} (n : Nat) (q : Nat → Option Y) (yE : Y)
    (h : ∀ k, k < n → (∀ j, j < k → q j = none) → (stp (k : Int)).run = match q k with
      | some y => .done y
      | none => .more ((k + 1 : Nat) : Int))
    (hE : (∀ j, j < n → q j = none) → (stp (n : Int)).run = .done yE) :
    (∃ k y, k < n ∧ (∀ j, j < k → q j = none) ∧ q k = some y ∧ loopR stp 0 = some y) ∨ ((∀ j, j < n → q j = none) ∧ loopR stp 0 = some yE) := by
  have go : ∀ f k, k + f = n → (∀ j, j < k → q j = none) → (∃ k' y, k' < n ∧ (∀ j, j < k' → q j = none) ∧ q k' = some y ∧ loopR stp (k : Int) = some y) ∨ ((∀ j, j < n → q j = none) ∧ loopR stp (k : Int) = some yE) := by
    intro f
    induction f with
    | zero =>
      intro k hk hj
      obtain rfl : k = n := by omega
      right
      exact ⟨hj, by rw [loopR_eq, hE hj]⟩
    | succ f ih =>
      intro k hk hj
      have h1 := h k (by omega) hj
      cases hq : q k with
      | some y =>
        rw [hq] at h1
        left
        exact ⟨k, y, by omega, hj, hq, by rw [loopR_eq, h1]⟩
      | none =>
        rw [hq] at h1
        have h2 := ih (k + 1) (by omega) (fun j hj' => by
          rcases Nat.lt_succ_iff_lt_or_eq.1 hj' with h | h
          · exact hj j h
          · rw [h]; exact hq)
        rw [loopR_eq, h1]
        exact h2
  exact go n 0 (by omega) (fun j hj => absurd hj (by omega))
/-- The place of the first that is so; -1. -/
def ixI (p : D → Bool) : List D → Int
  | [] => -1
  | d :: l => if p d then 0 else if ixI p l < 0 then -1 else ixI p l + 1
theorem ixI_cases (p : D → Bool) : ∀ l : List D, (∃ k, k < l.length ∧ (∀ j, j < k → p (l.getD j .nul) = false) ∧ p (l.getD k .nul) = true ∧ ixI p l = (k : Int)) ∨ ((∀ j, j < l.length → p (l.getD j .nul) = false) ∧ ixI p l = -1)
  | [] => .inr ⟨fun j h => absurd h (by simp), rfl⟩
  | d :: l => by
    cases hp : p d with
    | true => exact .inl ⟨0, by simp, fun j h => absurd h (by omega), by simpa using hp, by simp [ixI, hp]⟩
    | false =>
      rcases ixI_cases p l with ⟨k, h1, h2, h3, h4⟩ | ⟨h1, h2⟩
      · refine .inl ⟨k + 1, by simp; omega, fun j h => ?_, by simpa using h3, ?_⟩
        · cases j with
          | zero => simpa using hp
          | succ j => simpa using h2 j (by omega)
        · simp only [ixI, hp]
          rw [if_neg (by simp), if_neg (by omega), h4]
          rfl
      · refine .inr ⟨fun j h => ?_, ?_⟩
        · cases j with
          | zero => simpa using hp
          | succ j => simpa using h1 j (by simpa using h)
        · simp only [ixI, hp]
          rw [if_neg (by simp), if_pos (by omega)]
theorem ixI_uniq {p : D → Bool} {l : List D} {k : Nat} (h1 : k < l.length) (h2 : ∀ j, j < k → p (l.getD j .nul) = false) (h3 : p (l.getD k .nul) = true) : ixI p l = (k : Int) := by
  rcases ixI_cases p l with ⟨k', g1, g2, g3, g4⟩ | ⟨g1, g2⟩
  · rcases Nat.lt_trichotomy k k' with h | h | h
    · rw [g2 k h] at h3; cases h3
    · rw [g4, h]
    · rw [h2 k' h] at g3; cases g3
  · rw [g1 k h1] at h3; cases h3
theorem ixI_none {p : D → Bool} {l : List D} (h : ∀ j, j < l.length → p (l.getD j .nul) = false) : ixI p l = -1 := by
  rcases ixI_cases p l with ⟨k', g1, g2, g3, g4⟩ | ⟨g1, g2⟩
  · rw [h k' g1] at g3; cases g3
  · exact g2
/-- What a loop that looks for an element comes to. -/
theorem loop_ix {Y : Type} {stp : Int → NT Int Y} (l : List D) (p : D → Bool) (y : Nat → Y) (yE : Y)
    (h : ∀ k, k < l.length → (stp (k : Int)).run = if p (l.getD k .nul) then .done (y k) else .more ((k + 1 : Nat) : Int))
    (hE : (stp (l.length : Int)).run = .done yE) : loopR stp 0 = some (if ixI p l < 0 then yE else y (ixI p l).toNat) := by
  rcases loop_first (stp := stp) l.length (fun k => if p (l.getD k .nul) then some (y k) else none) yE (fun k hk _ => by
    rw [h k hk]
    cases p (l.getD k .nul) <;> rfl) (fun _ => hE) with ⟨k, y', h1, h2, h3, h4⟩ | ⟨h1, h2⟩
  · have e : ixI p l = (k : Int) := ixI_uniq h1 (fun j hj => by
      have := h2 j hj
      cases hp : p (l.getD j .nul) with
      | true => rw [hp] at this; cases this
      | false => rfl) (by
      cases hp : p (l.getD k .nul) with
      | true => rfl
      | false => rw [hp] at h3; cases h3)
    rw [h4, e, if_neg (by omega)]
    cases hp : p (l.getD k .nul) with
    | true => rw [hp] at h3; cases h3; rfl
    | false => rw [hp] at h3; cases h3
  · have e : ixI p l = -1 := ixI_none fun j hj => by
      have := h1 j hj
      cases hp : p (l.getD j .nul) with
      | true => rw [hp] at this; cases this
      | false => rfl
    rw [h2, e, if_pos (by omega)]
/-- A loop that is left at the first that is so, and tells just whether there is one. -/
theorem loop_any {stp : Int → NT Int Nat} (n : Nat) (bad : Nat → Bool)
    (h : ∀ k, k < n → (∀ j, j < k → bad j = false) → (stp (k : Int)).run = if bad k then .done 0 else .more ((k + 1 : Nat) : Int))
    (hE : (stp (n : Int)).run = .done 1) : (∃ k, k < n ∧ bad k = true ∧ loopR stp 0 = some 0) ∨ ((∀ k, k < n → bad k = false) ∧ loopR stp 0 = some 1) := by
  have hb : ∀ j, (if bad j then some 0 else none : Option Nat) = none ↔ bad j = false := fun j => by cases bad j <;> simp
  rcases loop_first (stp := stp) n (fun k => if bad k then some 0 else none) 1 (fun k hk hj => by
    rw [h k hk (fun j hj' => (hb j).1 (hj j hj'))]
    cases bad k <;> rfl) (fun _ => hE) with ⟨k, y', h1, h2, h3, h4⟩ | ⟨h1, h2⟩
  · cases hp : bad k with
    | true => rw [hp] at h3; cases h3; exact .inl ⟨k, h1, hp, h4⟩
    | false => rw [hp] at h3; cases h3
  · exact .inr ⟨fun k hk => (hb k).1 (h1 k hk), h2⟩
end Go.Sy
