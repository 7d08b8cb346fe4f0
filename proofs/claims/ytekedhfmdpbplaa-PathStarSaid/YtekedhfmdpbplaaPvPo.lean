/- Plain: orders of ways: name by name, a beginning ahead. -/
import Derived.Test.YtekedhfmdpbplaaPvJu
import Derived.Test.YtekedhfmdpbplaaPvLp
set_option linter.unusedSimpArgs false
set_option linter.unusedVariables false
namespace Go.Sy
open Go
theorem c3_swap (x y : List UInt8) : c3 y x = - c3 x y := by
  rcases c3_cases x y with ⟨h, h1, h2, h3⟩ | ⟨h, rfl⟩ | ⟨h, h1, h2, h3⟩
  · rw [h]
    rcases c3_cases y x with ⟨k, k1, k2, k3⟩ | ⟨k, rfl⟩ | ⟨k, k1, k2, k3⟩
    · rw [k1] at h2; cases h2
    · exact absurd rfl h3
    · rw [k]; rfl
  · rw [h]; rfl
  · rw [h]
    rcases c3_cases y x with ⟨k, k1, k2, k3⟩ | ⟨k, rfl⟩ | ⟨k, k1, k2, k3⟩
    · rw [k]
    · exact absurd rfl h3
    · rw [k1] at h2; cases h2
theorem c3_le {x y : List UInt8} (h : c3 x y ≤ 0) : x = y ∨ ltBytes x y = true := by
  rcases c3_cases x y with ⟨k, h1, _, _⟩ | ⟨_, h1⟩ | ⟨k, _⟩
  · exact .inr h1
  · exact .inl h1
  · omega
theorem c3_self (x : List UInt8) : c3 x x = 0 := by simp [c3, ltBytes_irrefl, eqBytes_refl]
theorem c3_ltb {x y : List UInt8} (h : ltBytes x y = true) : c3 x y = -1 := by simp [c3, h]
theorem c3_ord : Ord3 c3 where
  swap := c3_swap
  trans a b c h1 h2 := by
    rcases c3_le h1 with rfl | h1
    · exact h2
    · rcases c3_le h2 with rfl | h2
      · rw [c3_ltb h1]; decide
      · rw [c3_ltb (ltBytes_trans h1 h2)]; decide
theorem c3_zero {x y : List UInt8} : c3 x y = 0 ↔ x = y := by
  rcases c3_cases x y with ⟨k, h1, _, h3⟩ | ⟨k, rfl⟩ | ⟨k, h1, _, h3⟩
  · rw [k]; simp [h3]
  · rw [k]; simp
  · rw [k]; simp [h3]
theorem c3_range (x y : List UInt8) : c3 x y = -1 ∨ c3 x y = 0 ∨ c3 x y = 1 := by
  rcases c3_cases x y with ⟨k, h1, _, h3⟩ | ⟨k, rfl⟩ | ⟨k, h1, _, h3⟩ <;> simp [k]
/-- Two lists of texts, text by text, a beginning ahead. -/
def rowT : List D → List D → Int
  | [], [] => 0
  | [], _ :: _ => -1
  | _ :: _, [] => 1
  | x :: a, y :: b => or2 (c3 x.asStr y.asStr) (rowT a b)
theorem rowT_swap : ∀ a b : List D, rowT b a = - rowT a b
  | [], [] => rfl
  | [], _ :: _ => rfl
  | _ :: _, [] => rfl
  | x :: a, y :: b => by rw [rowT, rowT, c3_swap x.asStr, rowT_swap a b, or2_neg]
theorem rowT_trans : ∀ a b c : List D, rowT a b ≤ 0 → rowT b c ≤ 0 → rowT a c ≤ 0
  | [], b, c, _, _ => by cases c <;> simp [rowT]
  | x :: a, [], c, h, _ => by simp [rowT] at h
  | x :: a, y :: b, [], _, h => by simp [rowT] at h
  | x :: a, y :: b, z :: c, h1, h2 => by
    rw [rowT] at h1 h2 ⊢
    rcases or2_le h1 with h1 | ⟨h1, k1⟩ <;> rcases or2_le h2 with h2 | ⟨h2, k2⟩
    · exact or2_mk (.inl (c3_ord.lt1 h1 (by omega)))
    · exact or2_mk (.inl (c3_ord.lt1 h1 (by omega)))
    · exact or2_mk (.inl (c3_ord.lt2 (by omega) h2))
    · exact or2_mk (.inr ⟨c3_ord.zero h1 h2, rowT_trans a b c k1 k2⟩)
theorem rowT_ord : Ord3 rowT := ⟨rowT_swap, rowT_trans⟩
theorem rowT_self (a : List D) : rowT a a = 0 := by have := rowT_swap a a; omega
theorem rowT_app : ∀ (a : List D) (x : D), rowT a (a ++ [x]) = -1
  | [], x => rfl
  | y :: a, x => by rw [List.cons_append, rowT, c3_self, rowT_app a x]; rfl
theorem rowT_cases : ∀ a b : List D, (∃ k, k < a.length ∧ k < b.length ∧ (∀ j, j < k → c3 (a.getD j .nul).asStr (b.getD j .nul).asStr = 0) ∧ c3 (a.getD k .nul).asStr (b.getD k .nul).asStr ≠ 0 ∧ rowT a b = c3 (a.getD k .nul).asStr (b.getD k .nul).asStr) ∨
    ((∀ j, j < a.length → j < b.length → c3 (a.getD j .nul).asStr (b.getD j .nul).asStr = 0) ∧ rowT a b = if a.length < b.length then -1 else if a.length > b.length then 1 else 0)
  | [], [] => .inr ⟨fun j h => by simp at h, rfl⟩
  | [], y :: b => .inr ⟨fun j h => by simp at h, by simp [rowT]⟩
  | x :: a, [] => .inr ⟨fun j _ h => by simp at h, by simp [rowT]⟩
  | x :: a, y :: b => by
    by_cases h : c3 x.asStr y.asStr = 0
    · have e : rowT (x :: a) (y :: b) = rowT a b := by rw [rowT]; simp [or2, h]
      rw [e]
      rcases rowT_cases a b with ⟨k, k1, k2, k3, k4, k5⟩ | ⟨k1, k2⟩
      · refine .inl ⟨k + 1, by simpa using k1, by simpa using k2, fun j hj => ?_, by simpa using k4, by simpa using k5⟩
        cases j with
        | zero => simpa using h
        | succ j => simpa using k3 j (by omega)
      · refine .inr ⟨fun j hj hj' => ?_, ?_⟩
        · cases j with
          | zero => simpa using h
          | succ j => simpa using k1 j (by simpa using hj) (by simpa using hj')
        · rw [k2]
          simp only [List.length_cons, Nat.add_lt_add_iff_right, gt_iff_lt]
    · refine .inl ⟨0, by simp, by simp, fun j hj => by omega, by simpa using h, ?_⟩
      rw [rowT]
      simp [or2, h]
theorem rowT_first {l m : List D} {k : Nat} (k1 : k < l.length) (k2 : k < m.length) (h : ∀ j, j < k → c3 (l.getD j .nul).asStr (m.getD j .nul).asStr = 0) (hk : c3 (l.getD k .nul).asStr (m.getD k .nul).asStr ≠ 0) : rowT l m = c3 (l.getD k .nul).asStr (m.getD k .nul).asStr := by
  rcases rowT_cases l m with ⟨i, i1, i2, i3, i4, i5⟩ | ⟨i3, _⟩
  · have : i = k := by
      rcases Nat.lt_trichotomy i k with g | g | g
      · exact absurd (h i g) i4
      · exact g
      · exact absurd (i3 k g) hk
    rw [i5, this]
  · exact absurd (i3 k k1 k2) hk
theorem rowT_even {l m : List D} (h : ∀ j, j < l.length → j < m.length → c3 (l.getD j .nul).asStr (m.getD j .nul).asStr = 0) : rowT l m = if l.length < m.length then -1 else if l.length > m.length then 1 else 0 := by
  rcases rowT_cases l m with ⟨i, i1, i2, i3, i4, i5⟩ | ⟨_, i3⟩
  · exact absurd (h i i1 i2) i4
  · exact i3
theorem rowT_range : ∀ a b : List D, rowT a b = -1 ∨ rowT a b = 0 ∨ rowT a b = 1 := fun a b => by
  rcases rowT_cases a b with ⟨k, _, _, _, _, h⟩ | ⟨_, h⟩
  · rw [h]; exact c3_range _ _
  · rw [h]
    split
    · exact .inl rfl
    · split
      · exact .inr (.inr rfl)
      · exact .inr (.inl rfl)
end Go.Sy
