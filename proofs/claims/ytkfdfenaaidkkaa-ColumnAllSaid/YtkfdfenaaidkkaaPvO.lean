/- Plain: words added one by one. -/
import Derived.Test.YtkfdfenaaidkkaaPvN
set_option linter.unusedSimpArgs false
set_option linter.unusedVariables false
namespace Go.Sy
open Go
def accW (f : Nat → List UInt8) : Nat → List D
  | 0 => []
  | i + 1 => addW (accW f i) (f i)
theorem addW_t {l : List D} {k : List UInt8} (h : hasB l k = true) : addW l k = setK l (bs l k) (IntKind.i64.wrap (getK l k + 1)) := by simp only [addW, h]
theorem addW_f {l : List D} {k : List UInt8} (h : hasB l k = false) : addW l k = insK l (bs l k) k 1 := by simp only [addW, h]
theorem addW_len' (l : List D) (k : List UInt8) : (addW l k).length ≤ l.length + 1 := by rw [addW_len]; split <;> omega
theorem accW_len (f : Nat → List UInt8) : ∀ i, (accW f i).length ≤ i
  | 0 => Nat.le_refl _
  | i + 1 => by have := accW_len f i; have := addW_len' (accW f i) (f i); rw [accW]; omega
theorem accW_law (f : Nat → List UInt8) : ∀ i, SS (keysD (accW f i)) ∧ ∀ x, x ∈ keysD (accW f i) ↔ ∃ j, j < i ∧ f j = x
  | 0 => ⟨by simp [accW, SS, keysD], fun x => by simp [accW, keysD]⟩
  | i + 1 => by
    obtain ⟨h1, h2⟩ := accW_law f i
    refine ⟨SS_addW h1 (f i), fun x => ?_⟩
    rw [accW, mem_addW h1, h2]
    constructor
    · rintro (rfl | ⟨j, hj, rfl⟩)
      · exact ⟨i, by omega, rfl⟩
      · exact ⟨j, by omega, rfl⟩
    · rintro ⟨j, hj, rfl⟩
      rcases Nat.lt_or_ge j i with h | h
      · exact .inr ⟨j, h, rfl⟩
      · exact .inl (by rw [show j = i by omega])
theorem mem_strs {l : List D} {x : List UInt8} : x ∈ strsD l ↔ ∃ j, j < l.length ∧ (l.getD j .nul).asStr = x := by
  unfold strsD
  rw [List.mem_map]
  constructor
  · rintro ⟨d, hd, rfl⟩
    obtain ⟨i, hi, rfl⟩ := List.getElem_of_mem hd
    exact ⟨i, hi, by simp [List.getD, List.getElem?_eq_getElem hi]⟩
  · rintro ⟨i, hi, rfl⟩
    exact ⟨l[i], List.getElem_mem hi, by simp [List.getD, List.getElem?_eq_getElem hi]⟩
theorem acc_words (l : List D) : keysD (accW (fun j => (l.getD j .nul).asStr) l.length) = strsD (wordsD l) := by
  obtain ⟨h1, h2⟩ := accW_law (fun j => (l.getD j .nul).asStr) l.length
  obtain ⟨k1, k2⟩ := wordsD_law l
  exact SS_uniq h1 k1 fun x => by rw [h2, k2, mem_strs]
theorem acc_turn (l : List D) (r : Nat) (hr : r < l.length) : keysD (accW (fun j => (l.getD ((j + r) % l.length) .nul).asStr) l.length) = strsD (wordsD l) := by
  obtain ⟨h1, h2⟩ := accW_law (fun j => (l.getD ((j + r) % l.length) .nul).asStr) l.length
  obtain ⟨k1, k2⟩ := wordsD_law l
  refine SS_uniq h1 k1 fun x => ?_
  rw [h2, k2, mem_strs]
  have hn : 0 < l.length := by omega
  constructor
  · rintro ⟨j, hj, rfl⟩
    exact ⟨_, Nat.mod_lt _ hn, rfl⟩
  · rintro ⟨j, hj, rfl⟩
    refine ⟨(j + (l.length - r)) % l.length, Nat.mod_lt _ hn, ?_⟩
    congr 2
    rcases Nat.lt_or_ge j r with g | g
    · rw [Nat.mod_eq_of_lt (show j + (l.length - r) < l.length by omega), show j + (l.length - r) + r = j + l.length by omega, Nat.add_mod_right, Nat.mod_eq_of_lt hj]
    · rw [show j + (l.length - r) = (j - r) + l.length by omega, Nat.add_mod_right, Nat.mod_eq_of_lt (show j - r < l.length by omega), Nat.sub_add_cancel g, Nat.mod_eq_of_lt hj]
theorem keysD_len (l : List D) : (keysD l).length = l.length := by simp [keysD]
theorem strsD_len (l : List D) : (strsD l).length = l.length := by simp [strsD]
theorem atK_get {l : List D} {i : Nat} (h : i < l.length) : inL l (i : Int) = true ∧ atK l (i : Int) = (keysD l).getD i [] := by
  have h1 : inL l (i : Int) = true := by unfold inL; simp; omega
  refine ⟨h1, ?_⟩
  unfold atK
  rw [h1, Int.toNat_natCast]
  simp [keysD, List.getD, List.getElem?_eq_getElem h]
theorem SS_get {ks : List (List UInt8)} (h : SS ks) {i j : Nat} (hij : i < j) (hj : j < ks.length) : ltB (ks.getD i []) (ks.getD j []) := by
  have := List.pairwise_iff_getElem.1 h i j (by omega) hj hij
  rwa [List.getD, List.getElem?_eq_getElem (by omega), List.getD, List.getElem?_eq_getElem hj]
theorem turn_ix {i n : Nat} {u : Int} (hu : 0 ≤ u) (hn : 0 < n) (hi : i < n) (hn2 : n ≤ 1000000) : (IntKind.i64.wrap ((i : Int) + u.tmod (n : Int))).tmod (n : Int) = (((i + (u.tmod (n : Int)).toNat) % n : Nat) : Int) ∧ (u.tmod (n : Int)).toNat < n := by
  have h1 : 0 ≤ u.tmod (n : Int) := Int.tmod_nonneg _ hu
  have h2 : u.tmod (n : Int) < (n : Int) := Int.tmod_lt_of_pos _ (by omega)
  refine ⟨?_, by omega⟩
  rw [wrap64 (by omega) (by omega), Int.tmod_eq_emod_of_nonneg (by omega)]
  rw [Int.natCast_emod, Int.natCast_add, Int.toNat_of_nonneg h1]
end Go.Sy
