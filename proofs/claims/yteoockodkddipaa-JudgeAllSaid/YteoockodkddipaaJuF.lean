/- Plain: sums of a column. -/
import Derived.Test.YteoockodkddipaaJuE
import Derived.Test.YteoockodkddipaaJt
import Derived.Test.YteoockodkddipaaPvI
set_option linter.unusedSimpArgs false
set_option linter.unusedVariables false
set_option maxRecDepth 100000
namespace Go.Proofs.Yteoockodkddipaa
open Go Go.Sy
def kOf (c : Int) (r : D) : Int := (((r.fld 1).els.getD c.toNat .nul).fld 0).asInt
def nOf (c : Int) (r : D) : Int := (((r.fld 1).els.getD c.toNat .nul).fld 1).asInt
def colV (c : Int) (r : D) : Int := if kOf c r = 1 then nOf c r else 0
def sumK (f : Nat → Int) : Nat → Int
  | 0 => 0
  | k + 1 => sumK f k + f k
theorem sumK_bound (f : Nat → Int) : ∀ k : Nat, (∀ j, j < k → -9223372036854775808 ≤ f j ∧ f j ≤ 9223372036854775807) → -9223372036854775808 * (k : Int) ≤ sumK f k ∧ sumK f k ≤ 9223372036854775808 * (k : Int)
  | 0, _ => by simp [sumK]
  | k + 1, h => by
    have ih := sumK_bound f k (fun j hj => h j (by omega))
    have := h k (by omega)
    simp only [sumK]
    omega
theorem wV_wHL (x : Int) : wV (wH x) (wL x) = w128 x := by simp only [wV, wH, wL]; omega
theorem inW_wHL (x : Int) : inW (wH x) (wL x) = true := by
  rw [inW_iff]
  simp only [wH, wL, w128]
  omega
theorem w128_idJ {x : Int} (h0 : -170141183460469231731687303715884105728 ≤ x) (h1 : x < 170141183460469231731687303715884105728) : w128 x = x := by
  simp only [w128]
  omega
/-- Numbers of a column are in range. -/
def NumIn (c : Int) (l : List D) : Prop := ∀ k, k < l.length → inI (nOf c (l.getD k .nul)) = true
theorem colV_in {c : Int} {l : List D} (h : NumIn c l) : ∀ j, j < l.length → -9223372036854775808 ≤ colV c (l.getD j .nul) ∧ colV c (l.getD j .nul) ≤ 9223372036854775807 := fun j hj => by
  have := inI_iff.1 (h j hj)
  unfold colV
  split
  · exact this
  · omega
def sumC (c : Int) (l : List D) (k : Nat) : Int := sumK (fun j => colV c (l.getD j .nul)) k
theorem sumC_in {c : Int} {l : List D} (h : NumIn c l) (hl : l.length ≤ 15) {k : Nat} (hk : k ≤ l.length) : -170141183460469231731687303715884105728 ≤ sumC c l k ∧ sumC c l k < 170141183460469231731687303715884105728 := by
  have := sumK_bound (fun j => colV c (l.getD j .nul)) k (fun j hj => colV_in h j (by omega))
  unfold sumC
  omega
theorem tot_loop (c : Int) (l : List D) (h0 : 0 ≤ c) (h3 : c < 3) (hl : ∀ r ∈ l, RowIn 3 r) (hn : NumIn c l) (hll : l.length ≤ 15) : ∀ (f k : Nat), k + f = l.length →
    loopR (totP_t0_L0 (c, l, (l.length : Int))) ((k : Int), wH (sumC c l k), wL (sumC c l k)) = some (wH (sumC c l l.length), wL (sumC c l l.length)) := by
  intro f
  induction f with
  | zero =>
    intro k hk
    obtain rfl : k = l.length := by omega
    rw [loopR_eq]
    simp only [totP_t0_L0, totP_t0_L0_stp, nrun_br, nrun_more, nrun_done, nrun_fail, lt_self, Bool.false_eq_true, if_false]
  | succ f ih =>
    intro k hk
    have hlt : k < l.length := by omega
    have hm : l.getD k .nul ∈ l := by rw [getD_at hlt]; exact List.getElem_mem hlt
    obtain ⟨ri, rl, e, el⟩ := hl _ hm
    have e1 : ((l.getD k .nul).fld 1).els.length = 3 := by rw [e]; exact el
    have ih := ih (k + 1) (by omega)
    have hs := sumC_in hn hll (show k ≤ l.length by omega)
    have hnk := hn k hlt
    have hnr := inI_iff.1 hnk
    have eS : sumC c l (k + 1) = sumC c l k + colV c (l.getD k .nul) := rfl
    have g0 : decide (c ≥ 0) = true := decide_eq_true h0
    have g0' : decide (0 ≤ c) = true := decide_eq_true h0
    have g1 : decide (c < (((l.getD k .nul).fld 1).els.length : Int)) = true := decide_eq_true (by omega)
    rw [loopR_eq]
    by_cases hk1 : kOf c (l.getD k .nul) = 1
    · have hc : colV c (l.getD k .nul) = nOf c (l.getD k .nul) := by unfold colV; rw [if_pos hk1]
      have hk1' : decide (((((l.getD k .nul).fld 1).els.getD c.toNat .nul).fld 0).asInt = 1) = true := decide_eq_true hk1
      have hnk' : inI ((((l.getD k .nul).fld 1).els.getD c.toNat .nul).fld 1).asInt = true := hnk
      simp only [totP_t0_L0, totP_t0_L0_stp, nrun_br, nrun_more, nrun_done, nrun_fail, lt_cast hlt, ge0, g0, g0', g1, wrap1 (show k < 1000000 by omega), Int.toNat_natCast, Bool.and_true, if_true, hk1', hnk', inW_wHL, wV_wHL, w128_idJ hs.1 hs.2]
      have hN : w128 ((((l.getD k .nul).fld 1).els.getD c.toNat .nul).fld 1).asInt = nOf c (l.getD k .nul) := w128_idJ (x := nOf c (l.getD k .nul)) (by omega) (by omega)
      rw [hN, ← hc, ← eS]
      exact ih
    · have hc : colV c (l.getD k .nul) = 0 := by unfold colV; rw [if_neg hk1]
      have hk1' : decide (((((l.getD k .nul).fld 1).els.getD c.toNat .nul).fld 0).asInt = 1) = false := decide_eq_false hk1
      simp only [totP_t0_L0, totP_t0_L0_stp, nrun_br, nrun_more, nrun_done, nrun_fail, lt_cast hlt, ge0, g0, g0', g1, wrap1 (show k < 1000000 by omega), Int.toNat_natCast, Bool.and_true, if_true, hk1', Bool.false_eq_true, if_false]
      rw [hc, Int.add_zero] at eS
      rw [← eS]
      exact ih
theorem tot_is (c : Int) (l : List D) (h0 : 0 ≤ c) (h3 : c < 3) (hl : ∀ r ∈ l, RowIn 3 r) (hn : NumIn c l) (hll : l.length ≤ 15) :
    totP_t0_V0 l c = true ∧ totP_t0_V1 l c = numOf (sumC c l l.length) ∧ totP_t0_V2 l c = inI (sumC c l l.length) := by
  have hL := tot_loop c l h0 h3 hl hn hll l.length 0 (by omega)
  have hL : loopR (totP_t0_L0 (c, l, (l.length : Int))) ((0 : Int), (0 : Int), (0 : Int)) = some (wH (sumC c l l.length), wL (sumC c l l.length)) := hL
  have hs := sumC_in hn hll (Nat.le_refl l.length)
  unfold totP_t0_V0 totP_t0_V1 totP_t0_V2
  simp only [loopOk_of hL, loopV_of hL, inW_wHL, wV_wHL, w128_idJ hs.1 hs.2]
  refine ⟨?_, ?_, ?_⟩ <;> first | trivial | rfl
theorem big_loop (c : Int) (l : List D) (h0 : 0 ≤ c) (h3 : c < 3) (hl : ∀ r ∈ l, RowIn 3 r) (hn : NumIn c l) (hll : l.length ≤ 15) : ∀ (f k : Nat) (X : Int), k + f = l.length → X % M128 = sumC c l k % M128 →
    ∃ Y : Int, Y % M128 = sumC c l l.length % M128 ∧ loopR (jall_t0_L8 (l, c)) ((k : Int), bD 0 X, bD 1 X, bD 2 X, bD 3 X, bD 4 X, bD 5 X, bD 6 X, bD 7 X) = some (bD 0 Y, bD 1 Y, bD 2 Y, bD 3 Y, bD 4 Y, bD 5 Y, bD 6 Y, bD 7 Y) := by
  intro f
  induction f with
  | zero =>
    intro k X hk hX
    obtain rfl : k = l.length := by omega
    refine ⟨X, hX, ?_⟩
    rw [loopR_eq]
    simp only [jall_t0_L8, jall_t0_L8_stp, nrun_br, nrun_more, nrun_done, nrun_fail, lt_self, Bool.false_eq_true, if_false]
  | succ f ih =>
    intro k X hk hX
    have hlt : k < l.length := by omega
    have hm : l.getD k .nul ∈ l := by rw [getD_at hlt]; exact List.getElem_mem hlt
    obtain ⟨ri, rl, e, el⟩ := hl _ hm
    have e1 : ((l.getD k .nul).fld 1).els.length = 3 := by rw [e]; exact el
    have hnk := hn k hlt
    have eS : sumC c l (k + 1) = sumC c l k + colV c (l.getD k .nul) := rfl
    have g0' : decide (0 ≤ c) = true := decide_eq_true h0
    have g1 : decide (c < (((l.getD k .nul).fld 1).els.length : Int)) = true := decide_eq_true (by omega)
    by_cases hk1 : kOf c (l.getD k .nul) = 1
    · have hc : colV c (l.getD k .nul) = nOf c (l.getD k .nul) := by unfold colV; rw [if_pos hk1]
      have hk1' : decide (((((l.getD k .nul).fld 1).els.getD c.toNat .nul).fld 0).asInt = 1) = true := decide_eq_true hk1
      have hnk' : inI ((((l.getD k .nul).fld 1).els.getD c.toNat .nul).fld 1).asInt = true := hnk
      obtain ⟨Y, y1, y2⟩ := ih (k + 1) (nrm X + nrm (nOf c (l.getD k .nul))) (by omega) (by
        rw [eS, hc, nrm_eq, nrm_eq]
        simp only [M128] at hX ⊢
        omega)
      refine ⟨Y, y1, ?_⟩
      have hB : inB (bD 0 X) (bD 1 X) (bD 2 X) (bD 3 X) (bD 4 X) (bD 5 X) (bD 6 X) (bD 7 X) = true := inBn_t X
      rw [loopR_eq]
      simp only [jall_t0_L8, jall_t0_L8_stp, nrun_br, nrun_more, nrun_done, nrun_fail, lt_cast hlt, ge0, g0', g1, wrap1 (show k < 1000000 by omega), Int.toNat_natCast, Bool.and_true, if_true, hk1', hnk', hB, inBn_t]
      exact y2
    · have hc : colV c (l.getD k .nul) = 0 := by unfold colV; rw [if_neg hk1]
      have hk1' : decide (((((l.getD k .nul).fld 1).els.getD c.toNat .nul).fld 0).asInt = 1) = false := decide_eq_false hk1
      rw [hc, Int.add_zero] at eS
      obtain ⟨Y, y1, y2⟩ := ih (k + 1) X (by omega) (by rw [eS]; exact hX)
      refine ⟨Y, y1, ?_⟩
      rw [loopR_eq]
      simp only [jall_t0_L8, jall_t0_L8_stp, nrun_br, nrun_more, nrun_done, nrun_fail, lt_cast hlt, ge0, g0', g1, wrap1 (show k < 1000000 by omega), Int.toNat_natCast, Bool.and_true, if_true, hk1', Bool.false_eq_true, if_false]
      exact y2
theorem big_is {Y S : Int} (h : Y % M128 = S % M128) (h0 : -170141183460469231731687303715884105728 ≤ S) (h1 : S < 170141183460469231731687303715884105728) : w128 (bV (bD 0 Y) (bD 1 Y) (bD 2 Y) (bD 3 Y) (bD 4 Y) (bD 5 Y) (bD 6 Y) (bD 7 Y)) = S := by
  show w128 (nrm Y) = S
  rw [nrm_eq, w128_mod, w128_congr h, w128_idJ h0 h1]
end Go.Proofs.Yteoockodkddipaa
