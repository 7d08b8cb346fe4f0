/- Plain: lists of pairs in the order of their keys. -/
import Derived.Test.YtkfdfenaaidkkaaPvK
set_option linter.unusedSimpArgs false
set_option linter.unusedVariables false
namespace Go.Sy
open Go
def ltB (a b : List UInt8) : Prop := ltBytes a b = true
/-- In order, none twice. -/
def SS (ks : List (List UInt8)) : Prop := ks.Pairwise ltB
def keysD (l : List D) : List (List UInt8) := l.map keyD
theorem ltB_irrefl (a : List UInt8) : ¬ ltB a a := fun h => by unfold ltB at h; rw [ltBytes_irrefl] at h; cases h
theorem ltB_trans {a b c : List UInt8} (h : ltB a b) (k : ltB b c) : ltB a c := ltBytes_trans h k
theorem c3_lt {a b : List UInt8} : c3 a b < 0 ↔ ltB a b := by
  unfold ltB
  rcases c3_cases a b with ⟨h, h1, h2, h3⟩ | ⟨h, h1⟩ | ⟨h, h1, h2, h3⟩
  · rw [h, h1]; simp
  · rw [h]; subst h1; simp [ltBytes_irrefl]
  · rw [h, h2]; simp
theorem c3_eq {a b : List UInt8} : c3 a b = 0 ↔ a = b := by
  rcases c3_cases a b with ⟨h, h1, h2, h3⟩ | ⟨h, h1⟩ | ⟨h, h1, h2, h3⟩
  · rw [h]; simp [h3]
  · rw [h]; simp [h1]
  · rw [h]; simp [h3]
theorem ltB_tri (a b : List UInt8) : ltB a b ∨ a = b ∨ ltB b a := ltBytes_tri a b
theorem keysD_get {l : List D} {i : Nat} (h : i < l.length) : (keysD l)[i]? = some (keyD (l.getD i .nul)) := by
  rw [keysD, List.getElem?_map, List.getElem?_eq_getElem h]
  simp [List.getD, List.getElem?_eq_getElem h]
theorem SS.get {l : List D} (h : SS (keysD l)) {i j : Nat} (hij : i < j) (hj : j < l.length) : ltB (keyD (l.getD i .nul)) (keyD (l.getD j .nul)) := by
  have := List.pairwise_iff_getElem.1 h i j (by simp [keysD]; omega) (by simp [keysD]; omega) hij
  simp only [keysD, List.getElem_map] at this
  rwa [List.getD, List.getElem?_eq_getElem (by omega), List.getD, List.getElem?_eq_getElem hj]
theorem bsGo_law {l : List D} (hs : SS (keysD l)) (k : List UInt8) : ∀ f i j, j - i ≤ f → i ≤ j → j ≤ l.length → (∀ a, a < i → ltB (keyD (l.getD a .nul)) k) → (∀ b, j ≤ b → b < l.length → ¬ ltB (keyD (l.getD b .nul)) k) →
    (∀ a, a < bsGo l k f i j → ltB (keyD (l.getD a .nul)) k) ∧ (∀ b, bsGo l k f i j ≤ b → b < l.length → ¬ ltB (keyD (l.getD b .nul)) k) := by
  intro f
  induction f with
  | zero =>
    intro i j h1 h2 h3 h4 h5
    have : i = j := by omega
    subst this
    exact ⟨h4, h5⟩
  | succ f ih =>
    intro i j h1 h2 h3 h4 h5
    by_cases hij : i < j
    · rw [bsGo_step hij h1]
      split
      · rename_i hc
        have hc := c3_lt.1 hc
        refine ih _ _ (by omega) (by omega) h3 (fun a ha => ?_) h5
        by_cases e : a = (i + j) / 2
        · rw [e]; exact hc
        · exact ltB_trans (hs.get (show a < (i + j) / 2 by omega) (by omega)) hc
      · rename_i hc
        have hc := fun h => hc (c3_lt.2 h)
        refine ih _ _ (by omega) (by omega) (by omega) h4 (fun b hb hl hlt => ?_)
        by_cases e : b = (i + j) / 2
        · exact hc (by rw [← e]; exact hlt)
        · exact hc (ltB_trans (hs.get (show (i + j) / 2 < b by omega) hl) hlt)
    · rw [bsGo_end hij]
      have : i = j := by omega
      subst this
      exact ⟨h4, h5⟩
theorem bs_below {l : List D} (hs : SS (keysD l)) (k : List UInt8) {a : Nat} (h : a < bs l k) : ltB (keyD (l.getD a .nul)) k :=
  (bsGo_law hs k _ _ _ (Nat.le_refl _) (Nat.zero_le _) (Nat.le_refl _) (fun a h => by omega) (fun b h h2 => by omega)).1 a h
theorem bs_above {l : List D} (hs : SS (keysD l)) (k : List UInt8) {b : Nat} (h : bs l k ≤ b) (hl : b < l.length) : ¬ ltB (keyD (l.getD b .nul)) k :=
  (bsGo_law hs k _ _ _ (Nat.le_refl _) (Nat.zero_le _) (Nat.le_refl _) (fun a h => by omega) (fun b h h2 => by omega)).2 b h hl
theorem hasB_key {l : List D} {k : List UInt8} (h : hasB l k = true) : keyD (l.getD (bs l k) .nul) = k := by
  unfold hasB at h
  simp only [Bool.and_eq_true, decide_eq_true_eq] at h
  exact c3_eq.1 h.2
theorem mem_keys {l : List D} {k : List UInt8} : k ∈ keysD l ↔ ∃ i, i < l.length ∧ keyD (l.getD i .nul) = k := by
  unfold keysD
  rw [List.mem_map]
  constructor
  · rintro ⟨d, hd, rfl⟩
    obtain ⟨i, hi, rfl⟩ := List.getElem_of_mem hd
    exact ⟨i, hi, by simp [List.getD, List.getElem?_eq_getElem hi]⟩
  · rintro ⟨i, hi, rfl⟩
    exact ⟨l[i], List.getElem_mem hi, by simp [List.getD, List.getElem?_eq_getElem hi]⟩
theorem bs_at {l : List D} (hs : SS (keysD l)) {i : Nat} (hi : i < l.length) : bs l (keyD (l.getD i .nul)) = i := by
  have h1 := @bs_below l hs (keyD (l.getD i .nul))
  have h2 := @bs_above l hs (keyD (l.getD i .nul))
  rcases Nat.lt_trichotomy (bs l (keyD (l.getD i .nul))) i with h | h | h
  · exact absurd (hs.get h hi) (h2 (Nat.le_refl _) (by omega))
  · exact h
  · exact absurd (h1 h) (ltB_irrefl _)
theorem hasB_at {l : List D} (hs : SS (keysD l)) {i : Nat} (hi : i < l.length) : hasB l (keyD (l.getD i .nul)) = true := by
  unfold hasB
  rw [bs_at hs hi]
  simp only [Bool.and_eq_true, decide_eq_true_eq]
  exact ⟨blt_lt.2 hi, c3_eq.2 rfl⟩
theorem hasB_iff {l : List D} (hs : SS (keysD l)) {k : List UInt8} : hasB l k = true ↔ k ∈ keysD l := by
  rw [mem_keys]
  constructor
  · intro h; exact ⟨bs l k, hasB_lt h, hasB_key h⟩
  · rintro ⟨i, hi, rfl⟩; exact hasB_at hs hi
theorem keys_set (l : List D) (i : Nat) (v : Int) : keysD (setK l i v) = keysD l := by
  unfold setK keysD
  rw [List.map_set]
  apply List.ext_getElem (by simp)
  intro j h1 h2
  rw [List.getElem_set]
  split
  · rename_i e
    subst e
    have hj : i < l.length := by simpa using h2
    simp [pairD, keyD, D.fld, D.asStr, List.getD, List.getElem?_eq_getElem hj]
  · rfl
theorem keys_ins (l : List D) (i : Nat) (k : List UInt8) (v : Int) : keysD (insK l i k v) = (keysD l).take i ++ k :: (keysD l).drop i := by
  unfold insK keysD
  rw [List.map_append, List.map_take, List.map_cons, List.map_drop]
  rfl
theorem keys_del (l : List D) (i : Nat) : keysD (delK l i) = (keysD l).take i ++ (keysD l).drop (i + 1) := by
  unfold delK keysD
  rw [List.map_append, List.map_take, List.map_drop]
theorem bs_take {l : List D} (hs : SS (keysD l)) (k : List UInt8) {x : List UInt8} (h : x ∈ (keysD l).take (bs l k)) : ltB x k := by
  obtain ⟨i, hi, rfl⟩ := List.getElem_of_mem h
  have h1 : i < bs l k := by simp [keysD] at hi; omega
  have := bs_below hs k h1
  simp only [List.getElem_take, keysD, List.getElem_map]
  rwa [List.getD, List.getElem?_eq_getElem (by have := bs_le l k; omega)] at this
theorem bs_drop {l : List D} (hs : SS (keysD l)) {k : List UInt8} (hh : hasB l k = false) {x : List UInt8} (h : x ∈ (keysD l).drop (bs l k)) : ltB k x := by
  have hm : x ≠ k := by
    rintro rfl
    have := (hasB_iff hs).2 (List.mem_of_mem_drop h)
    rw [hh] at this; cases this
  obtain ⟨i, hi, rfl⟩ := List.getElem_of_mem h
  have h1 : bs l k + i < l.length := by simp [keysD] at hi; omega
  have := bs_above hs k (Nat.le_add_right (bs l k) i) h1
  rw [List.getD, List.getElem?_eq_getElem h1] at this
  simp only [List.getElem_drop, keysD, List.getElem_map] at hm ⊢
  rcases ltB_tri k (keyD l[bs l k + i]) with g | g | g
  · exact g
  · exact absurd g.symm hm
  · exact absurd g this
theorem SS_ins {l : List D} (hs : SS (keysD l)) {k : List UInt8} (hh : hasB l k = false) (v : Int) : SS (keysD (insK l (bs l k) k v)) := by
  rw [keys_ins]
  unfold SS at hs ⊢
  rw [List.pairwise_append, List.pairwise_cons]
  refine ⟨hs.take, ⟨fun x hx => bs_drop hs hh hx, hs.drop⟩, fun a ha b hb => ?_⟩
  have h1 := bs_take hs k ha
  rcases List.mem_cons.1 hb with rfl | hb
  · exact h1
  · exact ltB_trans h1 (bs_drop hs hh hb)
theorem SS_del {l : List D} (hs : SS (keysD l)) (i : Nat) : SS (keysD (delK l i)) := by
  rw [keys_del, ← List.eraseIdx_eq_take_drop_succ]
  exact hs.sublist (List.eraseIdx_sublist ..)
theorem mem_ins {l : List D} (i : Nat) (k : List UInt8) (v : Int) {x : List UInt8} : x ∈ keysD (insK l i k v) ↔ x = k ∨ x ∈ keysD l := by
  rw [keys_ins]
  rw [List.mem_append, List.mem_cons]
  have : x ∈ keysD l ↔ x ∈ (keysD l).take i ∨ x ∈ (keysD l).drop i := by rw [← List.mem_append, List.take_append_drop]
  rw [this]
  constructor
  · rintro (h | h | h)
    · exact .inr (.inl h)
    · exact .inl h
    · exact .inr (.inr h)
  · rintro (h | h | h)
    · exact .inr (.inl h)
    · exact .inl h
    · exact .inr (.inr h)
/-- Just one list is in order and has just these. -/
theorem SS_uniq : ∀ {a b : List (List UInt8)}, SS a → SS b → (∀ x, x ∈ a ↔ x ∈ b) → a = b
  | [], [], _, _, _ => rfl
  | [], y :: b, _, _, h => absurd ((h y).2 (List.mem_cons_self)) (by simp)
  | x :: a, [], _, _, h => absurd ((h x).1 (List.mem_cons_self)) (by simp)
  | x :: a, y :: b, ha, hb, h => by
    unfold SS at ha hb
    rw [List.pairwise_cons] at ha hb
    have hxy : x = y := by
      rcases List.mem_cons.1 ((h x).1 List.mem_cons_self) with e | e
      · exact e
      · rcases List.mem_cons.1 ((h y).2 List.mem_cons_self) with e2 | e2
        · exact e2.symm
        · exact absurd (ltB_trans (hb.1 x e) (ha.1 y e2)) (ltB_irrefl _)
    subst hxy
    rw [SS_uniq ha.2 hb.2 fun z => ?_]
    constructor
    · intro hz
      rcases List.mem_cons.1 ((h z).1 (List.mem_cons_of_mem _ hz)) with e | e
      · subst e; exact absurd (ha.1 z hz) (ltB_irrefl _)
      · exact e
    · intro hz
      rcases List.mem_cons.1 ((h z).2 (List.mem_cons_of_mem _ hz)) with e | e
      · subst e; exact absurd (hb.1 z hz) (ltB_irrefl _)
      · exact e
theorem SS_addW {l : List D} (hs : SS (keysD l)) (k : List UInt8) : SS (keysD (addW l k)) := by
  unfold addW
  cases h : hasB l k
  · exact SS_ins hs h 1
  · simp only [keys_set]; exact hs
theorem mem_addW {l : List D} (hs : SS (keysD l)) (k : List UInt8) {x : List UInt8} : x ∈ keysD (addW l k) ↔ x = k ∨ x ∈ keysD l := by
  unfold addW
  cases h : hasB l k
  · exact mem_ins _ _ _
  · simp only [keys_set]
    constructor
    · exact .inr
    · rintro (rfl | h2)
      · exact (hasB_iff hs).1 h
      · exact h2
theorem addW_len (l : List D) (k : List UInt8) : (addW l k).length = if hasB l k = true then l.length else l.length + 1 := by
  unfold addW
  cases h : hasB l k
  · simp only [insK_len l k 1 (bs_le l k)]; rfl
  · simp only [setK_len]; rfl
end Go.Sy
