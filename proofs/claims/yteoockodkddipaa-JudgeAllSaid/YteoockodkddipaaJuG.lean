/- Plain: the loops of JudgeAll. -/
import Derived.Test.YteoockodkddipaaJuF
import Derived.Test.YteoockodkddipaaJuD
set_option linter.unusedSimpArgs false
set_option linter.unusedVariables false
set_option maxRecDepth 100000
namespace Go.Proofs.Yteoockodkddipaa
open Go Go.Sy
theorem ja_L0 (rs rb : List D) (i j : Int) (vs : List D) (c : List UInt8) (w : List D) (m : Int) (b s v l : List D) (k2 : Int) (u : List UInt8) : ∀ (f k : Nat) (S : List D), k + f = 4 → S.length ≤ k → colIn 3 S →
    ∃ T, T.length ≤ 4 ∧ colIn 3 T ∧ loopR (jall_t0_L0 (rs, rb, i, j, vs, c, w, m, b, s, v, l, k2, u)) (S.length, (k : Int), S) = some (T.length, T) := by
  intro f
  induction f with
  | zero =>
    intro k S hk hS hc
    obtain rfl : k = 4 := by omega
    refine ⟨S, hS, hc, ?_⟩
    rw [loopR_eq]
    have e4 : decide (((4 : Nat) : Int) < (4 : Int)) = false := by decide
    simp only [jall_t0_L0, jall_t0_L0_stp, nrun_br, nrun_more, nrun_done, nrun_fail, e4, Bool.false_eq_true, if_false]
    rcases Bool.eq_false_or_eq_true (decide (((4 : Nat) : Int) < (l.length : Int))) with p | p <;> simp only [p, if_true, if_false, Bool.false_eq_true]
  | succ f ih =>
    intro k S hk hS hc
    by_cases hlt : k < l.length
    · have e4 : decide ((k : Int) < (4 : Int)) = true := decide_eq_true (by omega)
      by_cases h0 : ((l.getD k .nul).fld 0).asInt ≥ 0
      · by_cases h1 : ((l.getD k .nul).fld 0).asInt < 3
        · obtain ⟨T, t1, t2, t3⟩ := ih (k + 1) (S ++ [D.agg [D.int ((l.getD k .nul).fld 0).asInt, D.bool ((l.getD k .nul).fld 1).asBool]]) (by omega) (by rw [List.length_append, List.length_singleton]; omega) (colIn_add hc h0 h1)
          refine ⟨T, t1, t2, ?_⟩
          rw [loopR_eq]
          simp only [jall_t0_L0, jall_t0_L0_stp, nrun_br, nrun_more, nrun_done, nrun_fail, lt_cast hlt, ge0, e4, wrap1 (show k < 1000000 by omega), Int.toNat_natCast, Nat.zero_add, decide_eq_true h0, decide_eq_true h1, app_take (n := S.length) (acc := S) rfl, grow_ok (n := S.length) (k := 0) (b := 16) (by omega) (by omega), Nat.ble_self_eq_true, Bool.and_self, if_true]
          rw [List.length_append, List.length_singleton] at t3
          exact t3
        · obtain ⟨T, t1, t2, t3⟩ := ih (k + 1) S (by omega) (by omega) hc
          refine ⟨T, t1, t2, ?_⟩
          rw [loopR_eq]
          simp only [jall_t0_L0, jall_t0_L0_stp, nrun_br, nrun_more, nrun_done, nrun_fail, lt_cast hlt, ge0, e4, wrap1 (show k < 1000000 by omega), Int.toNat_natCast, decide_eq_true h0, decide_eq_false h1, Bool.and_self, if_true, Bool.false_eq_true, if_false]
          exact t3
      · obtain ⟨T, t1, t2, t3⟩ := ih (k + 1) S (by omega) (by omega) hc
        refine ⟨T, t1, t2, ?_⟩
        rw [loopR_eq]
        simp only [jall_t0_L0, jall_t0_L0_stp, nrun_br, nrun_more, nrun_done, nrun_fail, lt_cast hlt, ge0, e4, wrap1 (show k < 1000000 by omega), Int.toNat_natCast, decide_eq_false h0, Bool.and_self, if_true, Bool.false_eq_true, if_false]
        exact t3
    · refine ⟨S, by omega, hc, ?_⟩
      rw [loopR_eq]
      simp only [jall_t0_L0, jall_t0_L0_stp, nrun_br, nrun_more, nrun_done, nrun_fail, decide_eq_false (show ¬ (k : Int) < (l.length : Int) by omega), Bool.false_eq_true, if_false]
/-- The i-th isn't ahead of the j-th. -/
def gP (T a : List D) (i j : Nat) : Bool := !decide (cmpQ T (a.getD i .nul) (a.getD j .nul) < 0)
theorem ja_L4 (a rb : List D) (x y : Int) (vs T : List D) (hT : T.length < 1000000) (hc : colIn 3 T) (ha : ∀ r ∈ a, RowIn 3 r) (hal : a.length ≤ 15) (i : Nat) (hi : i < a.length) : ∀ (f k : Nat) (b c : Bool), k + f = i →
    ∃ r c', loopR (jall_t0_L4 (a, rb, x, y, vs, T.length, T, (i : Int))) (b, (k : Int), c) = some (r, c') ∧ (r = true ↔ (b = true ∧ ∀ j, k ≤ j → j < i → gP T a i j = true)) := by
  intro f
  induction f with
  | zero =>
    intro k b c hk
    obtain rfl : k = i := by omega
    refine ⟨b, c, ?_, ⟨fun h => ⟨h, fun j h1 h2 => by omega⟩, fun h => h.1⟩⟩
    rw [loopR_eq]
    simp only [jall_t0_L4, jall_t0_L4_stp, nrun_br, nrun_more, nrun_done, nrun_fail, lt_self, Bool.false_eq_true, if_false]
  | succ f ih =>
    intro k b c hk
    have hki : k < i := by omega
    have hm1 : a.getD i .nul ∈ a := by rw [getD_at hi]; exact List.getElem_mem hi
    have hm2 : a.getD k .nul ∈ a := by rw [getD_at (by omega)]; exact List.getElem_mem _
    obtain ⟨ri, rl, e, el⟩ := ha _ hm1
    obtain ⟨si, sl, e', el'⟩ := ha _ hm2
    have hb := bef_is [] [] 0 [] [] [] T hT 0 [] ri si rl sl 3 hc el el' (by omega)
    have eT : List.take T.length (List.drop 0 T) = T := by rw [List.drop_zero, List.take_of_length_le (Nat.le_refl _)]
    have g0 : ((0 : Nat) + T.length).ble T.length = true := by rw [Nat.zero_add, Nat.ble_self_eq_true]
    rw [loopR_eq]
    cases b with
    | true =>
      obtain ⟨r, c', h1, h2⟩ := ih (k + 1) (gP T a i k) true (by omega)
      refine ⟨r, c', ?_, ?_⟩
      · have hg : gP T a i k = !decide (cmpQ T (mkR ri rl) (mkR si sl) < 0) := by unfold gP; rw [e, e']
        rw [hg] at h1
        simp only [jall_t0_L4, jall_t0_L4_stp, nrun_br, nrun_more, nrun_done, nrun_fail, lt_cast hki, lt_cast hi, lt_cast (show k < a.length by omega), ge0, wrap1 (show k < 1000000 by omega), Int.toNat_natCast, eT, g0, Bool.and_true, if_true]
        rw [e, e']
        simp only [show ((mkR ri rl).fld 0).asInt = ri from rfl, show ((mkR ri rl).fld 1).els = rl from rfl, show ((mkR si sl).fld 0).asInt = si from rfl, show ((mkR si sl).fld 1).els = sl from rfl, hb.1, hb.2, if_true]
        exact h1
      · rw [h2]
        refine ⟨fun h => ⟨rfl, fun j h3 h4 => ?_⟩, fun h => ⟨h.2 k (Nat.le_refl _) hki, fun j h3 h4 => h.2 j (by omega) h4⟩⟩
        by_cases hj : j = k
        · rw [hj]; exact h.1
        · exact h.2 j (by omega) h4
    | false =>
      obtain ⟨r, c', h1, h2⟩ := ih (k + 1) false c (by omega)
      refine ⟨r, c', ?_, ?_⟩
      · simp only [jall_t0_L4, jall_t0_L4_stp, nrun_br, nrun_more, nrun_done, nrun_fail, lt_cast hki, wrap1 (show k < 1000000 by omega), Bool.false_eq_true, if_true, if_false]
        exact h1
      · rw [h2]
        exact ⟨fun h => absurd h.1 (by simp), fun h => absurd h.1 (by simp)⟩
theorem ja_L2 (a rb : List D) (x y : Int) (vs T : List D) (hT : T.length < 1000000) (hc : colIn 3 T) (ha : ∀ r ∈ a, RowIn 3 r) (hal : a.length ≤ 15) : ∀ (f i : Nat) (b c : Bool), i + f = a.length →
    ∃ r c', loopR (jall_t0_L2 (a, rb, x, y, vs, T.length, T)) ((i : Int), b, c) = some (r, c') ∧ (r = true ↔ (b = true ∧ ∀ k, i ≤ k → k < a.length → ∀ j, j < k → gP T a k j = true)) := by
  intro f
  induction f with
  | zero =>
    intro i b c hi
    obtain rfl : i = a.length := by omega
    refine ⟨b, c, ?_, ⟨fun h => ⟨h, fun k h1 h2 => by omega⟩, fun h => h.1⟩⟩
    rw [loopR_eq]
    simp only [jall_t0_L2, jall_t0_L2_stp, nrun_br, nrun_more, nrun_done, nrun_fail, lt_self, Bool.false_eq_true, if_false]
  | succ f ih =>
    intro i b c hi
    have hlt : i < a.length := by omega
    obtain ⟨r0, c0, h1, h2⟩ := ja_L4 a rb x y vs T hT hc ha hal i hlt i 0 b c (by omega)
    have h1 : loopR (jall_t0_L4 (a, rb, x, y, vs, T.length, T, (i : Int))) (b, (0 : Int), c) = some (r0, c0) := h1
    obtain ⟨r, c', h3, h4⟩ := ih (i + 1) r0 c0 (by omega)
    refine ⟨r, c', ?_, ?_⟩
    · rw [loopR_eq]
      simp only [jall_t0_L2, jall_t0_L2_stp, nrun_br, nrun_more, nrun_done, nrun_fail, lt_cast hlt, wrap1 (show i < 1000000 by omega), loopOk_of h1, loopV_of h1, if_true]
      exact h3
    · rw [h4, h2]
      refine ⟨fun h => ⟨h.1.1, fun k h5 h6 j h7 => ?_⟩, fun h => ⟨⟨h.1, fun j _ h6 => h.2 i (Nat.le_refl _) hlt j h6⟩, fun k h5 h6 j h7 => h.2 k (by omega) h6 j h7⟩⟩
      by_cases hk : k = i
      · subst hk; exact h.1.2 j (by omega) h7
      · exact h.2 k (by omega) h6 j h7
/-- The last found, from the end on. -/
def fstG (p : D → Bool) (a : List D) : Nat → Int → Int
  | 0, x => x
  | k + 1, x => fstG p a k (if p (a.getD k .nul) then (k : Int) else x)
theorem fstG_none (p : D → Bool) (a : List D) : ∀ (k : Nat) (x : Int), (∀ j, j < k → p (a.getD j .nul) = false) → fstG p a k x = x
  | 0, x, _ => rfl
  | k + 1, x, h => by
    simp only [fstG, h k (by omega), Bool.false_eq_true, if_false]
    exact fstG_none p a k x (fun j hj => h j (by omega))
theorem fstG_some (p : D → Bool) (a : List D) (m : Nat) (hm : p (a.getD m .nul) = true) (h0 : ∀ j, j < m → p (a.getD j .nul) = false) : ∀ (k : Nat) (x : Int), m < k → fstG p a k x = (m : Int)
  | 0, x, h => by omega
  | k + 1, x, h => by
    simp only [fstG]
    by_cases hk : k = m
    · subst hk
      rw [hm, if_pos rfl]
      exact fstG_none p a k _ h0
    · exact fstG_some p a m hm h0 k _ (by omega)
theorem fstG_ix (p : D → Bool) (a : List D) : fstG p a a.length (-1) = ixI p a := by
  rcases ixI_cases p a with ⟨k, h1, h2, h3, h4⟩ | ⟨h1, h2⟩
  · rw [h4, fstG_some p a k h3 h2 _ _ h1]
  · rw [h2, fstG_none p a _ _ h1]
theorem ja_L6 (a rb : List D) (set y : Int) (vs : List D) (b : Bool) (n : Nat) (c : Bool) (T : List D) (ha : ∀ r ∈ a, RowIn 3 r) (hal : a.length ≤ 15) (hv : vs.length ≤ 3) : ∀ (k : Nat) (x : Int), k ≤ a.length →
    loopR (jall_t0_L6 (a, rb, set, y, vs, b, n, c, T)) ((k : Int) - 1, x) = some (fstG (isG set vs) a k x) := by
  intro k
  induction k with
  | zero =>
    intro x _
    rw [loopR_eq]
    have e : decide (((0 : Nat) : Int) - 1 ≥ 0) = false := by decide
    simp only [jall_t0_L6, jall_t0_L6_stp, nrun_br, nrun_more, nrun_done, nrun_fail, e, Bool.false_eq_true, if_false, fstG]
  | succ k ih =>
    intro x hk
    have hlt : k < a.length := by omega
    have hm : a.getD k .nul ∈ a := by rw [getD_at hlt]; exact List.getElem_mem hlt
    obtain ⟨ri, rl, e, el⟩ := ha _ hm
    have e1 : ((a.getD k .nul).fld 1).els = rl := by rw [e]; rfl
    have ek : ((k + 1 : Nat) : Int) - 1 = (k : Int) := by omega
    have ew : IntKind.i64.wrap ((k : Int) - (1 : Int)) = (k : Int) - 1 := by rw [wrap64 (by omega) (by omega)]
    have g0 : decide ((k : Int) ≥ 0) = true := decide_eq_true (by omega)
    have g2 : decide ((vs.length : Int) ≤ (rl.length : Int)) = true := decide_eq_true (by omega)
    have g3 : decide ((List.take vs.length rl).length < (4611686018427387904 : Nat)) = true := decide_eq_true (by rw [List.length_take]; omega)
    have ih1 := ih (k : Int) (by omega)
    have ih2 := ih x (by omega)
    rw [loopR_eq, ek]
    simp only [jall_t0_L6, jall_t0_L6_stp, nrun_br, nrun_more, nrun_done, nrun_fail, g0, lt_cast hlt, ge0, ew, Int.toNat_natCast, e1, g2, g3, List.drop_zero, Bool.and_true, if_true, fstG, isG]
    rcases Bool.eq_false_or_eq_true (decide (((a.getD k .nul).fld 0).asInt = set)) with p | p <;> rcases Bool.eq_false_or_eq_true (decide (rowD (rl.take vs.length) vs = 0)) with q | q <;> simp only [p, q, Bool.and_true, Bool.and_false, Bool.and_self, Bool.false_eq_true, if_true, if_false] <;> first | exact ih1 | exact ih2
end Go.Proofs.Yteoockodkddipaa
