/- Plain: the words of a list, each once, in order, as the statements of dict reckon them. -/
import Derived.Test.YtkfdfenaaidkkaaPvM
set_option linter.unusedSimpArgs false
set_option linter.unusedVariables false
namespace Go.Sy
open Go
def strsD (l : List D) : List (List UInt8) := l.map D.asStr
def atGo (o : List D) (w : List UInt8) : Nat → Nat
  | 0 => 0
  | a + 1 => match !(ltBytes (o.getD a .nul).asStr w || eqBytes (o.getD a .nul).asStr w) with
    | true => atGo o w a
    | false => a + 1
def insA (o : List D) (a : Nat) (w : List UInt8) : List D := o.take a ++ .str w :: o.drop a
def insW (o : List D) (w : List UInt8) : List D := match decide (0 < atGo o w o.length) && eqBytes (o.getD (atGo o w o.length - 1) .nul).asStr w with
  | true => o
  | false => insA o (atGo o w o.length) w
def wordsD (l : List D) : List D := l.foldl (fun o d => insW o d.asStr) []
def wordsLF : Spec := ⟨[.data (.slice .str)], fun args s => match args, s with
  | [.fz nn sh l], [] => .ok (Sh.beq sh .str && Nat.blt l.length 1000000) (.fz false .str (wordsD l)) [] []
  | _, _ => .fail⟩
theorem atGo_le (o : List D) (w : List UInt8) : ∀ a, atGo o w a ≤ a
  | 0 => Nat.le_refl _
  | a + 1 => by
    unfold atGo
    split
    · exact Nat.le_trans (atGo_le o w a) (by omega)
    · exact Nat.le_refl _
theorem ins_tbl (o : List D) (x y : D) {a n : Nat} (hn : o.length = n) (h : a ≤ n) :
    ((List.take (0 + (a + 1)) (List.take n (List.drop 0 o) ++ [y]) ++ (List.take (n + 1 - (a + 1)) (List.take (n + 1 - a) (List.drop (0 + a) (List.take n (List.drop 0 o) ++ [y]))) ++ List.drop (0 + (a + 1) + (List.take (n + 1 - a) (List.drop (0 + a) (List.take n (List.drop 0 o) ++ [y]))).length.min (n + 1 - (a + 1))) (List.take n (List.drop 0 o) ++ [y]))).set (0 + a) x)
      = o.take a ++ x :: o.drop a := by
  subst hn
  have e0 : List.take o.length (List.drop 0 o) = o := by simp
  rw [e0]
  simp only [Nat.zero_add]
  have e1 : List.drop a (o ++ [y]) = o.drop a ++ [y] := by rw [List.drop_append_of_le_length h]
  rw [e1]
  have e2 : List.take (o.length + 1 - a) (o.drop a ++ [y]) = o.drop a ++ [y] := List.take_of_length_le (by simp; omega)
  rw [e2]
  have e3 : List.take (o.length + 1 - (a + 1)) (o.drop a ++ [y]) = o.drop a := by
    rw [show o.length + 1 - (a + 1) = (o.drop a).length by simp, List.take_left]
  rw [e3]
  have e4 : List.drop (a + 1 + (o.drop a ++ [y]).length.min (o.length + 1 - (a + 1))) (o ++ [y]) = [] := by
    apply List.drop_of_length_le
    simp only [List.length_append, List.length_drop, List.length_singleton]
    have : Nat.min (o.length - a + 1) (o.length + 1 - (a + 1)) = o.length - a := by rw [show o.length + 1 - (a + 1) = o.length - a by omega]; exact Nat.min_eq_right (by omega)
    rw [this]
    omega
  rw [e4, List.append_nil]
  have hl : a < (o ++ [y]).length := by simp; omega
  have e5 : List.take (a + 1) (o ++ [y]) = o.take a ++ [(o ++ [y])[a]] := by
    rw [List.take_add_one, List.getElem?_eq_getElem hl]
    rw [List.take_append_of_le_length h]; rfl
  rw [e5, List.append_assoc, List.set_append_right a x (by simp; omega)]
  simp [Nat.min_eq_left h]
theorem insA_len (o : List D) {a : Nat} (w : List UInt8) (h : a ≤ o.length) : (insA o a w).length = o.length + 1 := by simp [insA]; omega
theorem insW_len (o : List D) (w : List UInt8) : (insW o w).length ≤ o.length + 1 := by
  unfold insW
  split
  · omega
  · exact Nat.le_of_eq (insA_len o w (atGo_le ..))
theorem wordsD_snoc (l : List D) (d : D) : wordsD (l ++ [d]) = insW (wordsD l) d.asStr := by simp [wordsD]
theorem wordsD_len (l : List D) : (wordsD l).length ≤ l.length := by
  have : ∀ (l o : List D), (l.foldl (fun o d => insW o d.asStr) o).length ≤ o.length + l.length := by
    intro l
    induction l with
    | nil => intro o; simp
    | cons d l ih =>
      intro o
      rw [List.foldl_cons]
      have h1 := ih (insW o d.asStr)
      have h2 := insW_len o d.asStr
      simp only [List.length_cons]
      omega
  have := this l []
  simpa [wordsD] using this
theorem strs_get {l : List D} (h : SS (strsD l)) {i j : Nat} (hij : i < j) (hj : j < l.length) : ltB (l.getD i .nul).asStr (l.getD j .nul).asStr := by
  have := List.pairwise_iff_getElem.1 h i j (by simp [strsD]; omega) (by simp [strsD]; omega) hij
  simp only [strsD, List.getElem_map] at this
  rwa [List.getD, List.getElem?_eq_getElem (by omega), List.getD, List.getElem?_eq_getElem hj]
theorem cmp_not {a b : List UInt8} : (!(ltBytes a b || eqBytes a b)) = true ↔ ltB b a := by
  rw [Bool.not_eq_true', Bool.or_eq_false_iff]
  constructor
  · rintro ⟨h1, h2⟩
    rcases ltB_tri b a with h | h | h
    · exact h
    · subst h; rw [eqBytes_refl] at h2; cases h2
    · unfold ltB at h; rw [h1] at h; cases h
  · intro h
    exact ⟨ltBytes_asymm h, eqBytes_ne fun e => ltB_irrefl _ (e ▸ h)⟩
theorem atGo_law {o : List D} (hs : SS (strsD o)) (w : List UInt8) : ∀ a, a ≤ o.length → (∀ b, a ≤ b → b < o.length → ltB w (o.getD b .nul).asStr) →
    (∀ i, i < atGo o w a → ¬ ltB w (o.getD i .nul).asStr) ∧ (∀ b, atGo o w a ≤ b → b < o.length → ltB w (o.getD b .nul).asStr) := by
  intro a
  induction a with
  | zero => intro _ h; exact ⟨fun i hi => by simp [atGo] at hi, h⟩
  | succ a ih =>
    intro ha h
    unfold atGo
    split
    · rename_i hc
      have hc := cmp_not.1 hc
      refine ih (by omega) fun b hb hl => ?_
      rcases Nat.lt_or_ge a b with g | g
      · exact h b (by omega) hl
      · rw [show b = a by omega]; exact hc
    · rename_i hc
      have hc : ¬ ltB w (o.getD a .nul).asStr := fun k => by rw [cmp_not.2 k] at hc; cases hc
      refine ⟨fun i hi k => ?_, h⟩
      rcases Nat.lt_or_ge i a with g | g
      · exact hc (ltB_trans k (strs_get hs g (by omega)))
      · rw [show i = a by omega] at k; exact hc k
theorem insW_law {o : List D} (hs : SS (strsD o)) (w : List UInt8) : SS (strsD (insW o w)) ∧ ∀ x, x ∈ strsD (insW o w) ↔ x = w ∨ x ∈ strsD o := by
  have hl := atGo_le o w o.length
  obtain ⟨h1, h2⟩ := atGo_law hs w o.length (Nat.le_refl _) (fun b h h' => by omega)
  unfold insW
  cases hc : decide (0 < atGo o w o.length) && eqBytes (o.getD (atGo o w o.length - 1) .nul).asStr w
  · have hne : ∀ i, i < atGo o w o.length → ltB (o.getD i .nul).asStr w := by
      intro i hi
      have hlast : ltB (o.getD (atGo o w o.length - 1) .nul).asStr w := by
        rcases ltB_tri (o.getD (atGo o w o.length - 1) .nul).asStr w with g | g | g
        · exact g
        · rw [g, eqBytes_refl] at hc
          simp at hc; omega
        · exact absurd g (h1 _ (by omega))
      rcases Nat.lt_or_ge i (atGo o w o.length - 1) with g | g
      · exact ltB_trans (strs_get hs g (by omega)) hlast
      · rw [show i = atGo o w o.length - 1 by omega]; exact hlast
    have es : strsD (insA o (atGo o w o.length) w) = (strsD o).take (atGo o w o.length) ++ w :: (strsD o).drop (atGo o w o.length) := by
      unfold insA strsD
      rw [List.map_append, List.map_take, List.map_cons, List.map_drop]
      rfl
    have t1 : ∀ x ∈ (strsD o).take (atGo o w o.length), ltB x w := by
      intro x hx
      obtain ⟨i, hi, rfl⟩ := List.getElem_of_mem hx
      have hi' : i < atGo o w o.length := by simp [strsD] at hi; omega
      have := hne i hi'
      rw [List.getD, List.getElem?_eq_getElem (by omega)] at this
      simpa [strsD] using this
    have t2 : ∀ x ∈ (strsD o).drop (atGo o w o.length), ltB w x := by
      intro x hx
      obtain ⟨i, hi, rfl⟩ := List.getElem_of_mem hx
      have hi' : atGo o w o.length + i < o.length := by simp [strsD] at hi; omega
      have := h2 _ (Nat.le_add_right _ i) hi'
      rw [List.getD, List.getElem?_eq_getElem hi'] at this
      simpa [strsD] using this
    constructor
    · simp only [es]
      unfold SS at hs ⊢
      rw [List.pairwise_append, List.pairwise_cons]
      refine ⟨hs.take, ⟨t2, hs.drop⟩, fun a ha b hb => ?_⟩
      rcases List.mem_cons.1 hb with rfl | hb
      · exact t1 a ha
      · exact ltB_trans (t1 a ha) (t2 b hb)
    · intro x
      simp only [es]
      have : x ∈ strsD o ↔ x ∈ (strsD o).take (atGo o w o.length) ∨ x ∈ (strsD o).drop (atGo o w o.length) := by rw [← List.mem_append, List.take_append_drop]
      rw [this, List.mem_append, List.mem_cons]
      constructor
      · rintro (h | h | h)
        · exact .inr (.inl h)
        · exact .inl h
        · exact .inr (.inr h)
      · rintro (h | h | h)
        · exact .inr (.inl h)
        · exact .inl h
        · exact .inr (.inr h)
  · simp only [Bool.and_eq_true, decide_eq_true_eq] at hc
    obtain ⟨hc1, hc2⟩ := hc
    have hm : w ∈ strsD o := by
      rw [← eqBytes_iff.1 hc2]
      unfold strsD
      rw [List.mem_map]
      exact ⟨o[atGo o w o.length - 1]'(by omega), List.getElem_mem _, by rw [List.getD, List.getElem?_eq_getElem (show atGo o w o.length - 1 < o.length by omega)]; rfl⟩
    refine ⟨hs, fun x => ⟨.inr, ?_⟩⟩
    rintro (rfl | h)
    · exact hm
    · exact h
theorem wordsD_law (l : List D) : SS (strsD (wordsD l)) ∧ ∀ x, x ∈ strsD (wordsD l) ↔ x ∈ strsD l := by
  have : ∀ (l o : List D), SS (strsD o) → SS (strsD (l.foldl (fun o d => insW o d.asStr) o)) ∧ ∀ x, x ∈ strsD (l.foldl (fun o d => insW o d.asStr) o) ↔ x ∈ strsD l ∨ x ∈ strsD o := by
    intro l
    induction l with
    | nil => intro o h; exact ⟨h, fun x => by simp [strsD]⟩
    | cons d l ih =>
      intro o h
      obtain ⟨k1, k2⟩ := insW_law h d.asStr
      obtain ⟨g1, g2⟩ := ih _ k1
      refine ⟨g1, fun x => ?_⟩
      rw [List.foldl_cons, g2, k2]
      simp only [strsD, List.map_cons, List.mem_cons]
      constructor
      · rintro (h | h | h)
        · exact .inl (.inr h)
        · exact .inl (.inl h)
        · exact .inr h
      · rintro ((h | h) | h)
        · exact .inr (.inl h)
        · exact .inl h
        · exact .inr (.inr h)
  obtain ⟨h1, h2⟩ := this l [] (by simp [SS, strsD])
  exact ⟨h1, fun x => by rw [wordsD, h2]; simp [strsD]⟩
end Go.Sy
