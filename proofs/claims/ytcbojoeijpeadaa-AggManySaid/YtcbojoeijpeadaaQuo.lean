/- Walks: Quo in full. -/
import Derived.Test.YtcbojoeijpeadaaPvF
import Derived.Test.YtcbojoeijpeadaaDiv
import Derived.KernelRfl
set_option linter.unusedSimpArgs false
set_option linter.unusedVariables false
set_option maxRecDepth 100000
namespace Go.Proofs.Ytcbojoeijpeadaa.W
open Go Go.Sy
attribute [local irreducible] bodyK roundK
def prQ2 : FuncId → Option Sy.Spec := addP 72 negF (addP 73 divF (addP 53 numF noP))
theorem prQ2_ok : PrOk Try.prog prQ2 := prOk_add neg_ok (prOk_add div64_ok (prOk_add num_ok prOk_none))
theorem quo2_body (h l n : Int) (k : AV → St → Prop) : bodyK Try.prog prQ2 noL 100 54 [] [.agg [.int .i64 h, .int .u64 l], .int .i64 n] [] k =
  br (decide (n < (1 : Int)))
    (k (AV.tup [AV.int IntKind.i64 (0 : Int), AV.bool false]) [])
    (br (decide (h < (0 : Int)))
      (br (inW h l)
        (br (decide (IntKind.u64.wrap (wH (-wV h l)) ≥ IntKind.u64.wrap n))
          (k (AV.tup [AV.int IntKind.i64 (0 : Int), AV.bool false]) [])
          (br (inU (IntKind.u64.wrap (wH (-wV h l))) && (inU (wL (-wV h l)) && (inU (IntKind.u64.wrap n) && decide (IntKind.u64.wrap (wH (-wV h l)) < IntKind.u64.wrap n))))
            (br (decide (h < (0 : Int)))
              (br (inW (0 : Int) ((IntKind.u64.wrap (wH (-wV h l)) * (18446744073709551616 : Int) + wL (-wV h l)) / IntKind.u64.wrap n))
                (br (inW (wH (-wV (0 : Int) ((IntKind.u64.wrap (wH (-wV h l)) * (18446744073709551616 : Int) + wL (-wV h l)) / IntKind.u64.wrap n))) (wL (-wV (0 : Int) ((IntKind.u64.wrap (wH (-wV h l)) * (18446744073709551616 : Int) + wL (-wV h l)) / IntKind.u64.wrap n))))
                  (k (AV.tup [AV.int IntKind.i64 (numOf (wV (wH (-wV (0 : Int) ((IntKind.u64.wrap (wH (-wV h l)) * (18446744073709551616 : Int) + wL (-wV h l)) / IntKind.u64.wrap n))) (wL (-wV (0 : Int) ((IntKind.u64.wrap (wH (-wV h l)) * (18446744073709551616 : Int) + wL (-wV h l)) / IntKind.u64.wrap n))))), AV.bool (inI (wV (wH (-wV (0 : Int) ((IntKind.u64.wrap (wH (-wV h l)) * (18446744073709551616 : Int) + wL (-wV h l)) / IntKind.u64.wrap n))) (wL (-wV (0 : Int) ((IntKind.u64.wrap (wH (-wV h l)) * (18446744073709551616 : Int) + wL (-wV h l)) / IntKind.u64.wrap n)))))]) [])
                  (False))
                (False))
              (br (inW (0 : Int) ((IntKind.u64.wrap (wH (-wV h l)) * (18446744073709551616 : Int) + wL (-wV h l)) / IntKind.u64.wrap n))
                (k (AV.tup [AV.int IntKind.i64 (numOf (wV (0 : Int) ((IntKind.u64.wrap (wH (-wV h l)) * (18446744073709551616 : Int) + wL (-wV h l)) / IntKind.u64.wrap n))), AV.bool (inI (wV (0 : Int) ((IntKind.u64.wrap (wH (-wV h l)) * (18446744073709551616 : Int) + wL (-wV h l)) / IntKind.u64.wrap n)))]) [])
                (False)))
            (False)))
        (False))
      (br (decide (IntKind.u64.wrap h ≥ IntKind.u64.wrap n))
        (k (AV.tup [AV.int IntKind.i64 (0 : Int), AV.bool false]) [])
        (br (inU (IntKind.u64.wrap h) && (inU l && (inU (IntKind.u64.wrap n) && decide (IntKind.u64.wrap h < IntKind.u64.wrap n))))
          (br (decide (h < (0 : Int)))
            (br (inW (0 : Int) ((IntKind.u64.wrap h * (18446744073709551616 : Int) + l) / IntKind.u64.wrap n))
              (br (inW (wH (-wV (0 : Int) ((IntKind.u64.wrap h * (18446744073709551616 : Int) + l) / IntKind.u64.wrap n))) (wL (-wV (0 : Int) ((IntKind.u64.wrap h * (18446744073709551616 : Int) + l) / IntKind.u64.wrap n))))
                (k (AV.tup [AV.int IntKind.i64 (numOf (wV (wH (-wV (0 : Int) ((IntKind.u64.wrap h * (18446744073709551616 : Int) + l) / IntKind.u64.wrap n))) (wL (-wV (0 : Int) ((IntKind.u64.wrap h * (18446744073709551616 : Int) + l) / IntKind.u64.wrap n))))), AV.bool (inI (wV (wH (-wV (0 : Int) ((IntKind.u64.wrap h * (18446744073709551616 : Int) + l) / IntKind.u64.wrap n))) (wL (-wV (0 : Int) ((IntKind.u64.wrap h * (18446744073709551616 : Int) + l) / IntKind.u64.wrap n)))))]) [])
                (False))
              (False))
            (br (inW (0 : Int) ((IntKind.u64.wrap h * (18446744073709551616 : Int) + l) / IntKind.u64.wrap n))
              (k (AV.tup [AV.int IntKind.i64 (numOf (wV (0 : Int) ((IntKind.u64.wrap h * (18446744073709551616 : Int) + l) / IntKind.u64.wrap n))), AV.bool (inI (wV (0 : Int) ((IntKind.u64.wrap h * (18446744073709551616 : Int) + l) / IntKind.u64.wrap n)))]) [])
              (False)))
          (False)))) := by kernel_rfl
theorem quo_ok : SpecOk Try.prog 54 quoF.f := specOk_comes fun args s v s' tch e => by
  simp only [quoF] at e
  split at e
  · rename_i h l n
    obtain ⟨hg, rfl, rfl, rfl⟩ := run_ok e
    simp only [Bool.and_eq_true] at hg
    have g1 := inW_iff.1 hg.1
    have g2 := inI_iff.1 hg.2
    refine comes_of ok prQ2_ok (L := 100) (ms := []) (by kernel_rfl) loops_none ?_
    rw [quo2_body]
    refine br_iff.2 ⟨fun h1 => ⟨by rw [quoW, if_pos h1, quoB, if_pos h1], rfl⟩, fun h1 => ?_⟩
    have hn : IntKind.u64.wrap n = n := wrapI (by omega)
    simp only [hn]
    have big : ∀ X : Int, X ≥ n * 18446744073709551616 → X / n ≥ 18446744073709551616 := fun X hX => Int.le_ediv_of_mul_le (by omega) (by omega)
    have small : ∀ X : Int, 0 ≤ X → X < n * 18446744073709551616 → 0 ≤ X / n ∧ X / n < 18446744073709551616 := fun X h0 hX => ⟨Int.ediv_nonneg h0 (by omega), Int.ediv_lt_of_lt_mul (by omega) (by omega)⟩
    have none : ∀ z : Int, (z ≥ 18446744073709551616 ∨ z ≤ -18446744073709551616) → inI z = false := fun z hz => by
      cases hi : inI z
      · rfl
      · have := inI_iff.1 hi; omega
    refine br_iff.2 ⟨fun h2 => ?_, fun h2 => ?_⟩
    · have hx : wV h l < 0 := by simp only [wV]; omega
      have hX : 0 < -wV h l ∧ -wV h l ≤ 170141183460469231731687303715884105728 := by simp only [wV]; omega
      have hq : quoT (wV h l) n = -((-wV h l) / n) := by rw [quoT, if_pos hx]
      simp only [quoW, quoB, if_neg h1, hq]
      generalize -wV h l = X at *
      have hU : IntKind.u64.wrap (wH X) * 18446744073709551616 + wL X = X := by rw [IntKind.wrap_u64]; simp only [wH, wL, w128]; omega
      have hr : 0 ≤ IntKind.u64.wrap (wH X) ∧ IntKind.u64.wrap (wH X) < 18446744073709551616 := by rw [IntKind.wrap_u64]; omega
      have hl := inW_iff.1 (inW_HL X)
      refine br_t hg.1 (br_iff.2 ⟨fun h3 => ?_, fun h3 => ?_⟩)
      · have hb := big X (by omega)
        have hf := none (-(X / n)) (.inr (by omega))
        rw [numOf, if_neg (by rw [hf]; simp), hf]
        exact ⟨rfl, trivial⟩
      · obtain ⟨k1, k2⟩ := small X (by omega) (by omega)
        refine br_t (by simp only [Bool.and_eq_true, inU_iff, decide_eq_true_eq]; omega) ?_
        rw [hU, br_iff]
        refine ⟨fun _ => br_t (inW_iff.2 (by omega)) (br_t (inW_HL _) ⟨?_, trivial⟩), fun h4 => absurd h2 h4⟩
        have e : wV 0 (X / n) = X / n := by simp only [wV]; omega
        rw [e, wV_HL, w128_id (by omega) (by omega)]
    · have hx : ¬ wV h l < 0 := by simp only [wV]; omega
      have hX : 0 ≤ wV h l := by simp only [wV]; omega
      have hh : IntKind.u64.wrap h = h := wrapI (by omega)
      have hU : h * 18446744073709551616 + l = wV h l := rfl
      have hq : quoT (wV h l) n = wV h l / n := by rw [quoT, if_neg hx]
      simp only [quoW, quoB, if_neg h1, hq, hh, hU]
      refine br_iff.2 ⟨fun h3 => ?_, fun h3 => ?_⟩
      · have hb := big (wV h l) (by simp only [wV]; omega)
        have hf := none (wV h l / n) (.inl (by omega))
        rw [numOf, if_neg (by rw [hf]; simp), hf]
        exact ⟨rfl, trivial⟩
      · obtain ⟨k1, k2⟩ := small (wV h l) hX (by simp only [wV]; omega)
        refine br_t (by simp only [Bool.and_eq_true, inU_iff, decide_eq_true_eq]; omega) ?_
        rw [br_iff]
        refine ⟨fun h4 => absurd h4 h2, fun _ => br_t (inW_iff.2 (by omega)) ⟨?_, trivial⟩⟩
        have e : wV 0 (wV h l / n) = wV h l / n := by
          generalize wV h l / n = q
          simp only [wV]; omega
        rw [e]
  · cases e
end Go.Proofs.Ytcbojoeijpeadaa.W
