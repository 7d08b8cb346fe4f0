/- Plain: what the functions on tables' forms come to: names, places. -/
import Derived.Test.YtekedhfmdpbplaaPvY
import Derived.Test.YtekedhfmdpbplaaSr
import Derived.Test.YtekedhfmdpbplaaSp
import Derived.Test.YtekedhfmdpbplaaSw
set_option linter.unusedSimpArgs false
set_option linter.unusedVariables false
set_option maxRecDepth 100000
namespace Go.Proofs.Ytekedhfmdpbplaa
open Go Go.Sy
/- ### places -/
theorem findR_is (l : List D) (c : List UInt8) (hl : l.length < 1000000) : findR_t0_V0 l c = true ∧ findR_t0_V1 l c = ixI (nmIs c) l := by
  have h := loop_ix (stp := findR_t0_L0 (l, c)) l (nmIs c) (fun k => (0, (k : Int))) (1, 0) (fun k hk => by
    simp only [findR_t0_L0, findR_t0_L0_stp, nrun_br, nrun_more, nrun_done, nrun_fail, lt_cast hk, ge0, wrap1 (show k < 1000000 by omega), Int.toNat_natCast, Nat.zero_add, Bool.and_true, if_true, nmIs]
    rfl) (by
    simp only [findR_t0_L0, findR_t0_L0_stp, nrun_br, nrun_more, nrun_done, nrun_fail, lt_self, ge0]; rfl)
  unfold findR_t0_V0 findR_t0_V1
  rw [loopOk_of h, loopV_of h]
  simp only [Bool.true_and]
  exact tag_ix
theorem findW_is (l : List D) (c : List UInt8) (hl : l.length < 1000000) : findW_t0_V0 l.length l c = true ∧ findW_t0_V1 l.length l c = ixI (nmIs c) l := by
  have h := loop_ix (stp := findW_t0_L0 (l.length, c, l)) l (nmIs c) (fun k => (0, (k : Int))) (1, 0) (fun k hk => by
    simp only [findW_t0_L0, findW_t0_L0_stp, nrun_br, nrun_more, nrun_done, nrun_fail, lt_cast hk, ge0, wrap1 (show k < 1000000 by omega), Int.toNat_natCast, Nat.zero_add, decide_eq_true hk, Bool.and_true, if_true, nmIs]
    rfl) (by
    simp only [findW_t0_L0, findW_t0_L0_stp, nrun_br, nrun_more, nrun_done, nrun_fail, lt_self, ge0]; rfl)
  unfold findW_t0_V0 findW_t0_V1
  rw [loopOk_of h, loopV_of h]
  simp only [Bool.true_and]
  exact tag_ix
theorem colofR_is (a : List UInt8) (l : List D) (k : List UInt8) (d : List D) (c : List UInt8) (hl : l.length < 1000000) : colofR_t0_V0 a l k d c = true ∧ colofR_t0_V1 a l k d c = ixI (nmIs c) l := by
  have h := loop_ix (stp := colofR_t0_L0 (c, a, l, k, d)) l (nmIs c) (fun k => (0, (k : Int))) (1, 0) (fun k hk => by
    simp only [colofR_t0_L0, colofR_t0_L0_stp, nrun_br, nrun_more, nrun_done, nrun_fail, lt_cast hk, ge0, wrap1 (show k < 1000000 by omega), Int.toNat_natCast, Nat.zero_add, Bool.and_true, if_true, nmIs]
    rfl) (by
    simp only [colofR_t0_L0, colofR_t0_L0_stp, nrun_br, nrun_more, nrun_done, nrun_fail, lt_self, ge0]; rfl)
  unfold colofR_t0_V0 colofR_t0_V1
  rw [loopOk_of h, loopV_of h]
  simp only [Bool.true_and]
  exact tag_ix
theorem ixTP_is (l : List D) (c : List UInt8) (hl : l.length < 1000000) : ixTP_t0_V0 l.length l c = true ∧ ixTP_t0_V1 l.length l c = ixI (nmIs c) l := by
  have h := loop_ix (stp := ixTP_t0_L0 (l.length, (l.length : Int), l, c)) l (nmIs c) (fun k => (0, (k : Int))) (1, 0) (fun k hk => by
    simp only [ixTP_t0_L0, ixTP_t0_L0_stp, nrun_br, nrun_more, nrun_done, nrun_fail, lt_cast hk, ge0, wrap1 (show k < 1000000 by omega), Int.toNat_natCast, Nat.zero_add, decide_eq_true hk, Bool.and_true, if_true, nmIs]
    rfl) (by
    simp only [ixTP_t0_L0, ixTP_t0_L0_stp, nrun_br, nrun_more, nrun_done, nrun_fail, lt_self, ge0]; rfl)
  unfold ixTP_t0_V0 ixTP_t0_V1
  rw [loopOk_of h, loopV_of h]
  simp only [Bool.true_and]
  exact tag_ix
theorem ixCP0_is (l : List D) (c : List UInt8) (hl : l.length < 1000000) : ixCP_t0_V0 l c = true ∧ ixCP_t0_V1 l c = ixI (nmIs c) l := by
  have h := loop_ix (stp := ixCP_t0_L0 (l, (l.length : Int), c)) l (nmIs c) (fun k => (0, (k : Int))) (1, 0) (fun k hk => by
    simp only [ixCP_t0_L0, ixCP_t0_L0_stp, nrun_br, nrun_more, nrun_done, nrun_fail, lt_cast hk, ge0, wrap1 (show k < 1000000 by omega), Int.toNat_natCast, Nat.zero_add, decide_eq_true hk, Bool.and_true, if_true, nmIs]
    rfl) (by
    simp only [ixCP_t0_L0, ixCP_t0_L0_stp, nrun_br, nrun_more, nrun_done, nrun_fail, lt_self, ge0]; rfl)
  unfold ixCP_t0_V0 ixCP_t0_V1
  rw [loopOk_of h, loopV_of h]
  simp only [Bool.true_and]
  exact tag_ix
theorem ixCP1_is (l : List D) (c : List UInt8) (hl : l.length < 1000000) : ixCP_t1_V0 l.length l c = true ∧ ixCP_t1_V1 l.length l c = ixI (nmIs c) l := by
  have h := loop_ix (stp := ixCP_t1_L0 (l.length, (l.length : Int), l, c)) l (nmIs c) (fun k => (0, (k : Int))) (1, 0) (fun k hk => by
    simp only [ixCP_t1_L0, ixCP_t1_L0_stp, nrun_br, nrun_more, nrun_done, nrun_fail, lt_cast hk, ge0, wrap1 (show k < 1000000 by omega), Int.toNat_natCast, Nat.zero_add, decide_eq_true hk, Bool.and_true, if_true, nmIs]
    rfl) (by
    simp only [ixCP_t1_L0, ixCP_t1_L0_stp, nrun_br, nrun_more, nrun_done, nrun_fail, lt_self, ge0]; rfl)
  unfold ixCP_t1_V0 ixCP_t1_V1
  rw [loopOk_of h, loopV_of h]
  simp only [Bool.true_and]
  exact tag_ix
theorem add1P_is (a : List UInt8) (i : Int) (b : Bool) (k : List UInt8) : add1P_t0_V0 a i b k = true ∧ add1P_t0_V1 a i b k = (!decide (i = 1) && !decide (i = 2)) := by
  unfold add1P_t0_V0 add1P_t0_V1
  by_cases h1 : i = 1 <;> by_cases h2 : i = 2 <;> simp [h1, h2]
theorem ixCP2_is (l : List D) (hl : l.length < 1000000) : ixCP_t2_V0 l = true ∧ ixCP_t2_V1 l = ixI kindBad l := by
  have h := loop_ix (stp := ixCP_t2_L0 (l, (l.length : Int))) l kindBad (fun k => (0, (k : Int))) (1, 0) (fun k hk => by
    simp only [ixCP_t2_L0, ixCP_t2_L0_stp, nrun_br, nrun_more, nrun_done, nrun_fail, lt_cast hk, ge0, wrap1 (show k < 1000000 by omega), Int.toNat_natCast, Nat.zero_add, (add1P_is ..).1, (add1P_is ..).2, decide_eq_true hk, Bool.and_true, if_true, kindBad]
    rfl) (by
    simp only [ixCP_t2_L0, ixCP_t2_L0_stp, nrun_br, nrun_more, nrun_done, nrun_fail, lt_self, ge0]; rfl)
  unfold ixCP_t2_V0 ixCP_t2_V1
  rw [loopOk_of h, loopV_of h]
  simp only [Bool.true_and]
  exact tag_ix
/- ### names -/
theorem digR_is (x : Int) : digR_t0_V0 x = true ∧ digR_t0_V1 x = digI x := by
  unfold digR_t0_V0 digR_t0_V1 digI
  by_cases h1 : 48 ≤ x <;> by_cases h2 : x ≤ 57 <;> simp [h1, h2]
theorem letR_is (x : Int) : letR_t0_V0 x = true ∧ letR_t0_V1 x = ltrI x := by
  unfold letR_t0_V0 letR_t0_V1 ltrI
  by_cases h1 : 97 ≤ x <;> by_cases h2 : x ≤ 122 <;> by_cases h3 : x = 95 <;> simp [h1, h2, h3] <;> omega
theorem digP_is (x : Int) : digP_t0_V0 x = true ∧ digP_t0_V1 x = digI x := by
  unfold digP_t0_V0 digP_t0_V1 digI
  by_cases h1 : 48 ≤ x <;> by_cases h2 : x ≤ 57 <;> simp [h1, h2]
theorem letP_is (x : Int) : letP_t0_V0 x = true ∧ letP_t0_V1 x = ltrI x := by
  unfold letP_t0_V0 letP_t0_V1 ltrI
  by_cases h1 : 97 ≤ x <;> by_cases h2 : x ≤ 122 <;> by_cases h3 : x = 95 <;> simp [h1, h2, h3] <;> omega
theorem wordR_is (c : List UInt8) : wordR_t0_V0 c = true ∧ wordR_t0_V1 c = isKey c := by
  rw [← isWord_eq]
  unfold wordR_t0_V0 wordR_t0_V1 isWord
  simp only [ct, cs, Bool.or_true, Bool.or_false, and_self, and_true]
theorem keyP_is (c : List UInt8) : keyP_t0_V0 c = true ∧ keyP_t0_V1 c = isKey c := by
  unfold keyP_t0_V0 keyP_t0_V1 isKey
  simp only [ce, ct, cs, Bool.or_true, Bool.or_false, and_self, and_true]
theorem lettersOk_iff : ∀ c : List UInt8, lettersOk c = true ↔ ∀ k, k < c.length → (letB (c.getD k 0) || digB (c.getD k 0)) = true
  | [] => by simp [lettersOk]
  | x :: c => by
    rw [lettersOk, Bool.and_eq_true, lettersOk_iff c]
    constructor
    · rintro ⟨h1, h2⟩ k hk
      cases k with
      | zero => simpa using h1
      | succ k => simpa using h2 k (by simpa using hk)
    · intro h
      exact ⟨by simpa using h 0 (by simp), fun k hk => by simpa using h (k + 1) (by simpa using hk)⟩
theorem nameR_is (c : List UInt8) : nameR_t0_V0 c = true ∧ nameR_t0_V1 c = nameV c := by
  by_cases h0 : c.length < 1
  · have : c = [] := List.length_eq_zero_iff.1 (by omega)
    subst this
    exact ⟨rfl, rfl⟩
  rw [nameV_some (by omega)]
  by_cases h1 : c.length > 12
  · unfold nameR_t0_V0 nameR_t0_V1
    rw [decide_eq_false (show ¬ ((c.length : Int) < 1) by omega), decide_eq_true (show (c.length : Int) > 12 by omega), decide_eq_false (show ¬ c.length ≤ 12 by omega)]
    exact ⟨rfl, rfl⟩
  have h := loop_any (stp := nameR_t0_L0 c) c.length (fun k => !(letB (c.getD k 0) || digB (c.getD k 0))) (fun k hk _ => by
    simp only [nameR_t0_L0, nameR_t0_L0_stp, nrun_br, nrun_more, nrun_done, nrun_fail, lt_cast hk, ge0, wrap1 (show k < 1000000 by omega), Int.toNat_natCast, Nat.zero_add, (letR_is _).1, (letR_is _).2, (digR_is _).1, (digR_is _).2, decide_eq_true hk, Bool.and_true, if_true, letB, digB]
    rcases Bool.eq_false_or_eq_true (ltrI ((c.getD k 0).toNat : Int)) with p1 | p1 <;> rcases Bool.eq_false_or_eq_true (digI ((c.getD k 0).toNat : Int)) with p2 | p2 <;> simp only [p1, p2] <;> rfl) (by
    simp only [nameR_t0_L0, nameR_t0_L0_stp, nrun_br, nrun_more, nrun_done, nrun_fail, lt_self, ge0]; rfl)
  unfold nameR_t0_V0 nameR_t0_V1
  rw [decide_eq_false (show ¬ ((c.length : Int) < 1) by omega), decide_eq_false (show ¬ (c.length : Int) > 12 by omega), decide_eq_true (show c.length ≤ 12 by omega), decide_eq_true (show (0 : Int) < c.length by omega), (digR_is _).1, (digR_is _).2, (wordR_is _).1, (wordR_is _).2]
  rcases h with ⟨k, h2, h3, h4⟩ | ⟨h2, h4⟩
  · rw [loopOk_of h4, loopV_of h4]
    have : lettersOk c = false := by
      cases hl : lettersOk c with
      | false => rfl
      | true => have := (lettersOk_iff c).1 hl k h2; rw [this] at h3; cases h3
    rw [this]
    cases digI ((c.getD 0 0).toNat : Int) <;> cases isKey c <;> exact ⟨rfl, rfl⟩
  · rw [loopOk_of h4, loopV_of h4]
    have : lettersOk c = true := (lettersOk_iff c).2 fun k hk => by have := h2 k hk; revert this; cases (letB (c.getD k 0) || digB (c.getD k 0)) <;> simp
    rw [this]
    cases digI ((c.getD 0 0).toNat : Int) <;> cases isKey c <;> exact ⟨rfl, rfl⟩
theorem nameP_is (c : List UInt8) : nameP_t0_V0 c = true ∧ nameP_t0_V1 c = nameV c := by
  by_cases h0 : c.length < 1
  · have : c = [] := List.length_eq_zero_iff.1 (by omega)
    subst this
    exact ⟨rfl, rfl⟩
  rw [nameV_some (by omega)]
  have hne : eqBytes c [] = false := eqBytes_ne (fun h => by subst h; simp at h0)
  by_cases h1 : c.length > 12
  · unfold nameP_t0_V0 nameP_t0_V1
    rw [hne, decide_eq_true (show (c.length : Int) > 12 by omega), decide_eq_false (show ¬ c.length ≤ 12 by omega)]
    exact ⟨rfl, rfl⟩
  have h := loop_any (stp := nameP_t0_L0 (c, (c.length : Int))) c.length (fun k => !(letB (c.getD k 0) || digB (c.getD k 0))) (fun k hk _ => by
    simp only [nameP_t0_L0, nameP_t0_L0_stp, nrun_br, nrun_more, nrun_done, nrun_fail, lt_cast hk, ge0, wrap1 (show k < 1000000 by omega), Int.toNat_natCast, Nat.zero_add, (letP_is _).1, (letP_is _).2, (digP_is _).1, (digP_is _).2, decide_eq_true hk, Bool.and_true, if_true, letB, digB]
    rcases Bool.eq_false_or_eq_true (ltrI ((c.getD k 0).toNat : Int)) with p1 | p1 <;> rcases Bool.eq_false_or_eq_true (digI ((c.getD k 0).toNat : Int)) with p2 | p2 <;> simp only [p1, p2] <;> rfl) (by
    simp only [nameP_t0_L0, nameP_t0_L0_stp, nrun_br, nrun_more, nrun_done, nrun_fail, lt_self, ge0]; rfl)
  unfold nameP_t0_V0 nameP_t0_V1
  rw [hne, decide_eq_false (show ¬ (c.length : Int) > 12 by omega), decide_eq_true (show c.length ≤ 12 by omega), decide_eq_true (show (0 : Int) < c.length by omega), (digP_is _).1, (digP_is _).2, (keyP_is _).1, (keyP_is _).2]
  rcases h with ⟨k, h2, h3, h4⟩ | ⟨h2, h4⟩
  · rw [loopOk_of h4, loopV_of h4]
    have : lettersOk c = false := by
      cases hl : lettersOk c with
      | false => rfl
      | true => have := (lettersOk_iff c).1 hl k h2; rw [this] at h3; cases h3
    rw [this]
    cases digI ((c.getD 0 0).toNat : Int) <;> cases isKey c <;> exact ⟨rfl, rfl⟩
  · rw [loopOk_of h4, loopV_of h4]
    have : lettersOk c = true := (lettersOk_iff c).2 fun k hk => by have := h2 k hk; revert this; cases (letB (c.getD k 0) || digB (c.getD k 0)) <;> simp
    rw [this]
    cases digI ((c.getD 0 0).toNat : Int) <;> cases isKey c <;> exact ⟨rfl, rfl⟩
end Go.Proofs.Ytekedhfmdpbplaa
