/- Walks: WideBack. -/
import Derived.Test.YtgmddliidplooabPvF
import Derived.Test.YtgmddliidplooabQuo
import Derived.Test.YtgmddliidplooabWideB
import Derived.KernelRfl
set_option linter.unusedSimpArgs false
set_option linter.unusedVariables false
set_option maxRecDepth 100000
namespace Go.Proofs.Ytgmddliidplooab.W
open Go Go.Sy
attribute [local irreducible] bodyK roundK
def prK : FuncId → Option Sy.Spec := addP 16 quoF prS
theorem prK_ok : PrOk Try.prog prK := prOk_add quo_ok prS_ok
theorem wback_body (a n r : Int) (k : AV → St → Prop) : bodyK Try.prog prK noL 100 5 [] [.int .i64 a, .int .i64 n, .int .i64 r] [] k =
  br (decide (n < (1 : Int)))
    (k (AV.bool true) [])
    (br (decide (r < (0 : Int)))
      (k (AV.bool true) [])
      (br (decide (r ≥ n))
        (k (AV.bool true) [])
        (br (inI a)
          (br (inW (wH a) (wL a) && inI n)
            (br (inW (wH (wV (wH a) (wL a) * n)) (wL (wV (wH a) (wL a) * n)) && inI n)
              (br (!quoB (wV (wH (wV (wH a) (wL a) * n)) (wL (wV (wH a) (wL a) * n))) n)
                (k (AV.bool false) [])
                (br (!decide (quoW (wV (wH (wV (wH a) (wL a) * n)) (wL (wV (wH a) (wL a) * n))) n = a))
                  (k (AV.bool false) [])
                  (br (decide (a < (0 : Int)))
                    (br (inI a)
                      (br (inW (wH a) (wL a) && inI n)
                        (br (inI (IntKind.i64.wrap ((0 : Int) - r)))
                          (br (inW (wH (wV (wH a) (wL a) * n)) (wL (wV (wH a) (wL a) * n)) && inW (wH (IntKind.i64.wrap ((0 : Int) - r))) (wL (IntKind.i64.wrap ((0 : Int) - r))))
                            (br (inW (wH (wV (wH (wV (wH a) (wL a) * n)) (wL (wV (wH a) (wL a) * n)) + wV (wH (IntKind.i64.wrap ((0 : Int) - r))) (wL (IntKind.i64.wrap ((0 : Int) - r))))) (wL (wV (wH (wV (wH a) (wL a) * n)) (wL (wV (wH a) (wL a) * n)) + wV (wH (IntKind.i64.wrap ((0 : Int) - r))) (wL (IntKind.i64.wrap ((0 : Int) - r))))) && inI n)
                              (br (quoB (wV (wH (wV (wH (wV (wH a) (wL a) * n)) (wL (wV (wH a) (wL a) * n)) + wV (wH (IntKind.i64.wrap ((0 : Int) - r))) (wL (IntKind.i64.wrap ((0 : Int) - r))))) (wL (wV (wH (wV (wH a) (wL a) * n)) (wL (wV (wH a) (wL a) * n)) + wV (wH (IntKind.i64.wrap ((0 : Int) - r))) (wL (IntKind.i64.wrap ((0 : Int) - r)))))) n)
                                (k (AV.bool (decide (quoW (wV (wH (wV (wH (wV (wH a) (wL a) * n)) (wL (wV (wH a) (wL a) * n)) + wV (wH (IntKind.i64.wrap ((0 : Int) - r))) (wL (IntKind.i64.wrap ((0 : Int) - r))))) (wL (wV (wH (wV (wH a) (wL a) * n)) (wL (wV (wH a) (wL a) * n)) + wV (wH (IntKind.i64.wrap ((0 : Int) - r))) (wL (IntKind.i64.wrap ((0 : Int) - r)))))) n = a))) [])
                                (k (AV.bool false) []))
                              (False))
                            (False))
                          (False))
                        (False))
                      (False))
                    (br (inI a)
                      (br (inW (wH a) (wL a) && inI n)
                        (br (inI r)
                          (br (inW (wH (wV (wH a) (wL a) * n)) (wL (wV (wH a) (wL a) * n)) && inW (wH r) (wL r))
                            (br (inW (wH (wV (wH (wV (wH a) (wL a) * n)) (wL (wV (wH a) (wL a) * n)) + wV (wH r) (wL r))) (wL (wV (wH (wV (wH a) (wL a) * n)) (wL (wV (wH a) (wL a) * n)) + wV (wH r) (wL r))) && inI n)
                              (br (quoB (wV (wH (wV (wH (wV (wH a) (wL a) * n)) (wL (wV (wH a) (wL a) * n)) + wV (wH r) (wL r))) (wL (wV (wH (wV (wH a) (wL a) * n)) (wL (wV (wH a) (wL a) * n)) + wV (wH r) (wL r)))) n)
                                (k (AV.bool (decide (quoW (wV (wH (wV (wH (wV (wH a) (wL a) * n)) (wL (wV (wH a) (wL a) * n)) + wV (wH r) (wL r))) (wL (wV (wH (wV (wH a) (wL a) * n)) (wL (wV (wH a) (wL a) * n)) + wV (wH r) (wL r)))) n = a))) [])
                                (k (AV.bool false) []))
                              (False))
                            (False))
                          (False))
                        (False))
                      (False)))))
              (False))
            (False))
          (False)))) := by kernel_rfl
theorem quoT_back {a n r : Int} (hn : 1 ≤ n) (hr : 0 ≤ r ∧ r < n) : (a < 0 → quoT (a * n + -r) n = a) ∧ (¬ a < 0 → quoT (a * n + r) n = a) := by
  have h0 : r / n = 0 := Int.ediv_eq_zero_of_lt hr.1 hr.2
  constructor
  · intro h
    have h1 : a * n ≤ (-1) * n := Int.mul_le_mul_of_nonneg_right (by omega) (by omega)
    have e : -(a * n + -r) = r + (-a) * n := by rw [Int.neg_mul]; omega
    rw [quoT, if_pos (by omega), e, Int.add_mul_ediv_right _ _ (by omega), h0]
    omega
  · intro h
    have h1 : 0 ≤ a * n := Int.mul_nonneg (by omega) (by omega)
    rw [quoT, if_neg (by omega), show a * n + r = r + a * n by omega, Int.add_mul_ediv_right _ _ (by omega), h0]
    omega
theorem wback_comes (a n r : Int) (ha : inI a = true) (hn : inI n = true) (hr : inI r = true) : Sy.Comes Try.prog 5 [.int .i64 a, .int .i64 n, .int .i64 r] [] (.bool true) [] := by
  refine comes_of ok prK_ok (L := 100) (ms := []) (by kernel_rfl) loops_none ?_
  rw [wback_body]
  refine br_iff.2 ⟨fun _ => ⟨rfl, rfl⟩, fun h1 => br_iff.2 ⟨fun _ => ⟨rfl, rfl⟩, fun h2 => br_iff.2 ⟨fun _ => ⟨rfl, rfl⟩, fun h3 => ?_⟩⟩⟩
  have ia := inI_iff.1 ha
  have i_n := inI_iff.1 hn
  have b1 : a * n ≤ 9223372036854775807 * n := Int.mul_le_mul_of_nonneg_right ia.2 (by omega)
  have b2 : -9223372036854775808 * n ≤ a * n := Int.mul_le_mul_of_nonneg_right ia.1 (by omega)
  have hw : IntKind.i64.wrap (0 - r) = -r := by rw [wrap64 (by omega) (by omega)]; omega
  have hr' : inI (-r) = true := inI_iff.2 (by omega)
  have e1 : w128 (a * n) = a * n := w128_id (by omega) (by omega)
  have e2 : w128 (a * n + -r) = a * n + -r := w128_id (by omega) (by omega)
  have e3 : w128 (a * n + r) = a * n + r := w128_id (by omega) (by omega)
  obtain ⟨q1, q2⟩ := quoT_back (a := a) (n := n) (r := r) (by omega) (by omega)
  obtain ⟨p1, p2⟩ := quoT_back (a := a) (n := n) (r := 0) (by omega) (by omega)
  simp only [Int.neg_zero, Int.add_zero] at p1 p2
  have q0 : quoT (a * n) n = a := by
    by_cases h : a < 0
    · exact p1 h
    · exact p2 h
  have hnum : numOf a = a := if_pos ha
  simp only [hw, wV_id ha, wV_id hr, wV_id hr', inW_HL, ha, hn, hr, hr', wV_HL, e1, e2, e3, Bool.and_self, br_true, quoB, quoW, if_neg h1, q0, hnum, Bool.not_true, br_false, decide_true]
  refine br_iff.2 ⟨fun h => ?_, fun h => ?_⟩
  · rw [q1 h, ha, hnum]
    exact ⟨by simp, trivial⟩
  · rw [q2 h, ha, hnum]
    exact ⟨by simp, trivial⟩
end Go.Proofs.Ytgmddliidplooab.W
