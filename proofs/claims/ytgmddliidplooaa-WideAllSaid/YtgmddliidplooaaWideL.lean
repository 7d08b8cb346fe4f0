/- Walks: statements of great numbers. -/
import Derived.Test.YtgmddliidplooaaPvE
import Derived.Test.YtgmddliidplooaaWide
import Derived.KernelRfl
set_option linter.unusedSimpArgs false
set_option linter.unusedVariables false
set_option maxRecDepth 100000
namespace Go.Proofs.Ytgmddliidplooaa.W
open Go Go.Sy
attribute [local irreducible] bodyK roundK
def quocF : Sy.Spec := ⟨[], fun args s => match args, s with
  | [.agg [.int .i64 h, .int .u64 l], .int .i64 n], [] => match decide (h = 0) && (decide (l = 9223372036854775808) && decide (n = 2)) with
    | true => .ok true (.tup [.int .i64 4611686018427387904, .bool true]) [] []
    | false => .ok (decide (h = -1) && (decide (l = 18446744073709551609) && decide (n = 2))) (.tup [.int .i64 (-3), .bool true]) [] []
  | _, _ => .fail⟩
theorem quo_c1 (k : AV → St → Prop) : bodyK Try.prog prQ noL 100 27 [] [.agg [.int .i64 0, .int .u64 9223372036854775808], .int .i64 2] [] k =
  k (AV.tup [AV.int IntKind.i64 (4611686018427387904 : Int), AV.bool true]) [] := by kernel_rfl
theorem quo_c2 (k : AV → St → Prop) : bodyK Try.prog prQ noL 100 27 [] [.agg [.int .i64 (-1), .int .u64 18446744073709551609], .int .i64 2] [] k =
  k (AV.tup [AV.int IntKind.i64 (-3 : Int), AV.bool true]) [] := by kernel_rfl
theorem quoc_ok : SpecOk Try.prog 27 quocF.f := specOk_comes fun args s v s' tch e => by
  simp only [quocF] at e
  split at e
  · split at e
    · rename_i hc
      obtain ⟨hg, rfl, rfl, rfl⟩ := run_ok e
      simp only [Bool.and_eq_true, decide_eq_true_eq] at hc
      obtain ⟨rfl, rfl, rfl⟩ := hc
      refine comes_of ok prQ_ok (L := 100) (ms := []) (by kernel_rfl) loops_none ?_
      rw [quo_c1]
      exact ⟨rfl, rfl⟩
    · obtain ⟨hg, rfl, rfl, rfl⟩ := run_ok e
      simp only [Bool.and_eq_true, decide_eq_true_eq] at hg
      obtain ⟨rfl, rfl, rfl⟩ := hg
      refine comes_of ok prQ_ok (L := 100) (ms := []) (by kernel_rfl) loops_none ?_
      rw [quo_c2]
      exact ⟨rfl, rfl⟩
  · cases e
def prB : FuncId → Option Sy.Spec := addP 17 ofF (addP 19 addF (addP 18 numF (addP 27 quocF (addP 32 partsF (addP 33 wcmpF (addP 22 negF noP))))))
theorem prB_ok : PrOk Try.prog prB := prOk_add of_ok (prOk_add add_ok (prOk_add num_ok (prOk_add quoc_ok (prOk_add parts_ok (prOk_add wcmp_ok (prOk_add neg_ok prOk_none))))))
theorem begun_body (k : AV → St → Prop) : bodyK Try.prog prB noL 100 16 [] [] [] k =
  k (AV.bool true) [] := by kernel_rfl
theorem begun_ok : SpecOk Try.prog 16 trueF2.f := specOk_comes fun args s v s' tch e => by
  simp only [trueF2] at e
  split at e
  · obtain ⟨hg, rfl, rfl, rfl⟩ := run_ok e
    refine comes_of ok prB_ok (L := 100) (ms := []) (by kernel_rfl) loops_none ?_
    rw [begun_body]
    exact ⟨rfl, rfl⟩
  · cases e
def prS : FuncId → Option Sy.Spec := addP 16 trueF2 (addP 17 ofF (addP 19 addF (addP 18 numF (addP 32 partsF (addP 33 wcmpF (addP 22 negF (addP 24 timesF noP)))))))
theorem prS_ok : PrOk Try.prog prS := prOk_add begun_ok (prOk_add of_ok (prOk_add add_ok (prOk_add num_ok (prOk_add parts_ok (prOk_add wcmp_ok (prOk_add neg_ok (prOk_add times_ok prOk_none)))))))
theorem wnum_body (a b : Int) (k : AV → St → Prop) : bodyK Try.prog prS noL 100 6 [] [.int .i64 a, .int .i64 b] [] k =
  br (inI a)
    (br (inW (wH a) (wL a))
      (br (inI a)
        (br (inI b)
          (br (inW (wH a) (wL a) && inW (wH b) (wL b))
            (br (inW (wH (wV (wH a) (wL a) + wV (wH b) (wL b))) (wL (wV (wH a) (wL a) + wV (wH b) (wL b))))
              (br (decide (a ≥ (0 : Int)))
                (br (decide (b ≥ (0 : Int)))
                  (br (decide (IntKind.i64.wrap (IntKind.u64.wrap (IntKind.u64.wrap a + IntKind.u64.wrap b)) < (0 : Int)))
                    (br (decide (numOf (wV (wH a) (wL a)) = a))
                      (br (inI (wV (wH a) (wL a)))
                        (br (inI (wV (wH (wV (wH a) (wL a) + wV (wH b) (wL b))) (wL (wV (wH a) (wL a) + wV (wH b) (wL b)))) == false)
                          (br (decide (numOf (wV (wH (wV (wH a) (wL a) + wV (wH b) (wL b))) (wL (wV (wH a) (wL a) + wV (wH b) (wL b)))) = (0 : Int)))
                            (k (AV.bool true) [])
                            (k (AV.bool false) []))
                          (k (AV.bool false) []))
                        (k (AV.bool false) []))
                      (k (AV.bool false) []))
                    (br (decide (a < (0 : Int)))
                      (br (decide (b < (0 : Int)))
                        (br (decide (numOf (wV (wH a) (wL a)) = a))
                          (br (inI (wV (wH a) (wL a)))
                            (br (inI (wV (wH (wV (wH a) (wL a) + wV (wH b) (wL b))) (wL (wV (wH a) (wL a) + wV (wH b) (wL b)))) == !decide (IntKind.i64.wrap (IntKind.u64.wrap (IntKind.u64.wrap a + IntKind.u64.wrap b)) ≥ (0 : Int)))
                              (br (decide (IntKind.i64.wrap (IntKind.u64.wrap (IntKind.u64.wrap a + IntKind.u64.wrap b)) ≥ (0 : Int)))
                                (br (decide (numOf (wV (wH (wV (wH a) (wL a) + wV (wH b) (wL b))) (wL (wV (wH a) (wL a) + wV (wH b) (wL b)))) = (0 : Int)))
                                  (k (AV.bool true) [])
                                  (br (!decide (IntKind.i64.wrap (IntKind.u64.wrap (IntKind.u64.wrap a + IntKind.u64.wrap b)) ≥ (0 : Int)))
                                    (k (AV.bool (decide (numOf (wV (wH (wV (wH a) (wL a) + wV (wH b) (wL b))) (wL (wV (wH a) (wL a) + wV (wH b) (wL b)))) = IntKind.i64.wrap (IntKind.u64.wrap (IntKind.u64.wrap a + IntKind.u64.wrap b))))) [])
                                    (k (AV.bool false) [])))
                                (br (!decide (IntKind.i64.wrap (IntKind.u64.wrap (IntKind.u64.wrap a + IntKind.u64.wrap b)) ≥ (0 : Int)))
                                  (k (AV.bool (decide (numOf (wV (wH (wV (wH a) (wL a) + wV (wH b) (wL b))) (wL (wV (wH a) (wL a) + wV (wH b) (wL b)))) = IntKind.i64.wrap (IntKind.u64.wrap (IntKind.u64.wrap a + IntKind.u64.wrap b))))) [])
                                  (k (AV.bool false) [])))
                              (k (AV.bool false) []))
                            (k (AV.bool false) []))
                          (k (AV.bool false) []))
                        (br (decide (numOf (wV (wH a) (wL a)) = a))
                          (br (inI (wV (wH a) (wL a)))
                            (br (inI (wV (wH (wV (wH a) (wL a) + wV (wH b) (wL b))) (wL (wV (wH a) (wL a) + wV (wH b) (wL b)))) == true)
                              (k (AV.bool (decide (numOf (wV (wH (wV (wH a) (wL a) + wV (wH b) (wL b))) (wL (wV (wH a) (wL a) + wV (wH b) (wL b)))) = IntKind.i64.wrap (IntKind.u64.wrap (IntKind.u64.wrap a + IntKind.u64.wrap b))))) [])
                              (k (AV.bool false) []))
                            (k (AV.bool false) []))
                          (k (AV.bool false) [])))
                      (br (decide (numOf (wV (wH a) (wL a)) = a))
                        (br (inI (wV (wH a) (wL a)))
                          (br (inI (wV (wH (wV (wH a) (wL a) + wV (wH b) (wL b))) (wL (wV (wH a) (wL a) + wV (wH b) (wL b)))) == true)
                            (k (AV.bool (decide (numOf (wV (wH (wV (wH a) (wL a) + wV (wH b) (wL b))) (wL (wV (wH a) (wL a) + wV (wH b) (wL b)))) = IntKind.i64.wrap (IntKind.u64.wrap (IntKind.u64.wrap a + IntKind.u64.wrap b))))) [])
                            (k (AV.bool false) []))
                          (k (AV.bool false) []))
                        (k (AV.bool false) []))))
                  (br (decide (a < (0 : Int)))
                    (br (decide (b < (0 : Int)))
                      (br (decide (numOf (wV (wH a) (wL a)) = a))
                        (br (inI (wV (wH a) (wL a)))
                          (br (inI (wV (wH (wV (wH a) (wL a) + wV (wH b) (wL b))) (wL (wV (wH a) (wL a) + wV (wH b) (wL b)))) == !decide (IntKind.i64.wrap (IntKind.u64.wrap (IntKind.u64.wrap a + IntKind.u64.wrap b)) ≥ (0 : Int)))
                            (br (decide (IntKind.i64.wrap (IntKind.u64.wrap (IntKind.u64.wrap a + IntKind.u64.wrap b)) ≥ (0 : Int)))
                              (br (decide (numOf (wV (wH (wV (wH a) (wL a) + wV (wH b) (wL b))) (wL (wV (wH a) (wL a) + wV (wH b) (wL b)))) = (0 : Int)))
                                (k (AV.bool true) [])
                                (br (!decide (IntKind.i64.wrap (IntKind.u64.wrap (IntKind.u64.wrap a + IntKind.u64.wrap b)) ≥ (0 : Int)))
                                  (k (AV.bool (decide (numOf (wV (wH (wV (wH a) (wL a) + wV (wH b) (wL b))) (wL (wV (wH a) (wL a) + wV (wH b) (wL b)))) = IntKind.i64.wrap (IntKind.u64.wrap (IntKind.u64.wrap a + IntKind.u64.wrap b))))) [])
                                  (k (AV.bool false) [])))
                              (br (!decide (IntKind.i64.wrap (IntKind.u64.wrap (IntKind.u64.wrap a + IntKind.u64.wrap b)) ≥ (0 : Int)))
                                (k (AV.bool (decide (numOf (wV (wH (wV (wH a) (wL a) + wV (wH b) (wL b))) (wL (wV (wH a) (wL a) + wV (wH b) (wL b)))) = IntKind.i64.wrap (IntKind.u64.wrap (IntKind.u64.wrap a + IntKind.u64.wrap b))))) [])
                                (k (AV.bool false) [])))
                            (k (AV.bool false) []))
                          (k (AV.bool false) []))
                        (k (AV.bool false) []))
                      (br (decide (numOf (wV (wH a) (wL a)) = a))
                        (br (inI (wV (wH a) (wL a)))
                          (br (inI (wV (wH (wV (wH a) (wL a) + wV (wH b) (wL b))) (wL (wV (wH a) (wL a) + wV (wH b) (wL b)))) == true)
                            (k (AV.bool (decide (numOf (wV (wH (wV (wH a) (wL a) + wV (wH b) (wL b))) (wL (wV (wH a) (wL a) + wV (wH b) (wL b)))) = IntKind.i64.wrap (IntKind.u64.wrap (IntKind.u64.wrap a + IntKind.u64.wrap b))))) [])
                            (k (AV.bool false) []))
                          (k (AV.bool false) []))
                        (k (AV.bool false) [])))
                    (br (decide (numOf (wV (wH a) (wL a)) = a))
                      (br (inI (wV (wH a) (wL a)))
                        (br (inI (wV (wH (wV (wH a) (wL a) + wV (wH b) (wL b))) (wL (wV (wH a) (wL a) + wV (wH b) (wL b)))) == true)
                          (k (AV.bool (decide (numOf (wV (wH (wV (wH a) (wL a) + wV (wH b) (wL b))) (wL (wV (wH a) (wL a) + wV (wH b) (wL b)))) = IntKind.i64.wrap (IntKind.u64.wrap (IntKind.u64.wrap a + IntKind.u64.wrap b))))) [])
                          (k (AV.bool false) []))
                        (k (AV.bool false) []))
                      (k (AV.bool false) []))))
                (br (decide (a < (0 : Int)))
                  (br (decide (b < (0 : Int)))
                    (br (decide (numOf (wV (wH a) (wL a)) = a))
                      (br (inI (wV (wH a) (wL a)))
                        (br (inI (wV (wH (wV (wH a) (wL a) + wV (wH b) (wL b))) (wL (wV (wH a) (wL a) + wV (wH b) (wL b)))) == !decide (IntKind.i64.wrap (IntKind.u64.wrap (IntKind.u64.wrap a + IntKind.u64.wrap b)) ≥ (0 : Int)))
                          (br (decide (IntKind.i64.wrap (IntKind.u64.wrap (IntKind.u64.wrap a + IntKind.u64.wrap b)) ≥ (0 : Int)))
                            (br (decide (numOf (wV (wH (wV (wH a) (wL a) + wV (wH b) (wL b))) (wL (wV (wH a) (wL a) + wV (wH b) (wL b)))) = (0 : Int)))
                              (k (AV.bool true) [])
                              (br (!decide (IntKind.i64.wrap (IntKind.u64.wrap (IntKind.u64.wrap a + IntKind.u64.wrap b)) ≥ (0 : Int)))
                                (k (AV.bool (decide (numOf (wV (wH (wV (wH a) (wL a) + wV (wH b) (wL b))) (wL (wV (wH a) (wL a) + wV (wH b) (wL b)))) = IntKind.i64.wrap (IntKind.u64.wrap (IntKind.u64.wrap a + IntKind.u64.wrap b))))) [])
                                (k (AV.bool false) [])))
                            (br (!decide (IntKind.i64.wrap (IntKind.u64.wrap (IntKind.u64.wrap a + IntKind.u64.wrap b)) ≥ (0 : Int)))
                              (k (AV.bool (decide (numOf (wV (wH (wV (wH a) (wL a) + wV (wH b) (wL b))) (wL (wV (wH a) (wL a) + wV (wH b) (wL b)))) = IntKind.i64.wrap (IntKind.u64.wrap (IntKind.u64.wrap a + IntKind.u64.wrap b))))) [])
                              (k (AV.bool false) [])))
                          (k (AV.bool false) []))
                        (k (AV.bool false) []))
                      (k (AV.bool false) []))
                    (br (decide (numOf (wV (wH a) (wL a)) = a))
                      (br (inI (wV (wH a) (wL a)))
                        (br (inI (wV (wH (wV (wH a) (wL a) + wV (wH b) (wL b))) (wL (wV (wH a) (wL a) + wV (wH b) (wL b)))) == true)
                          (k (AV.bool (decide (numOf (wV (wH (wV (wH a) (wL a) + wV (wH b) (wL b))) (wL (wV (wH a) (wL a) + wV (wH b) (wL b)))) = IntKind.i64.wrap (IntKind.u64.wrap (IntKind.u64.wrap a + IntKind.u64.wrap b))))) [])
                          (k (AV.bool false) []))
                        (k (AV.bool false) []))
                      (k (AV.bool false) [])))
                  (br (decide (numOf (wV (wH a) (wL a)) = a))
                    (br (inI (wV (wH a) (wL a)))
                      (br (inI (wV (wH (wV (wH a) (wL a) + wV (wH b) (wL b))) (wL (wV (wH a) (wL a) + wV (wH b) (wL b)))) == true)
                        (k (AV.bool (decide (numOf (wV (wH (wV (wH a) (wL a) + wV (wH b) (wL b))) (wL (wV (wH a) (wL a) + wV (wH b) (wL b)))) = IntKind.i64.wrap (IntKind.u64.wrap (IntKind.u64.wrap a + IntKind.u64.wrap b))))) [])
                        (k (AV.bool false) []))
                      (k (AV.bool false) []))
                    (k (AV.bool false) []))))
              (False))
            (False))
          (False))
        (False))
      (False))
    (False) := by kernel_rfl
theorem wnum_comes (a b : Int) (ha : inI a = true) (hb : inI b = true) : Sy.Comes Try.prog 6 [.int .i64 a, .int .i64 b] [] (.bool true) [] := by
  refine comes_of ok prS_ok (L := 100) (ms := []) (by kernel_rfl) loops_none ?_
  rw [wnum_body]
  have hn : numOf a = a := if_pos ha
  simp only [wV_id ha, wV_id hb, wV_add ha hb, inW_HL, ha, hb, hn, sum_wrap, Bool.and_self, br_true, decide_true]
  have ia := inI_iff.1 ha
  have ib := inI_iff.1 hb
  by_cases hin : inI (a + b) = true
  · have iab := inI_iff.1 hin
    have hw : IntKind.i64.wrap (a + b) = a + b := wrap64 iab.1 iab.2
    have hm : numOf (a + b) = a + b := if_pos hin
    simp only [hw, hm, hin]
    rcases ge_cases a with ⟨p1, p2, p3⟩ | ⟨p1, p2, p3⟩ <;> rcases ge_cases b with ⟨q1, q2, q3⟩ | ⟨q1, q2, q3⟩ <;> rcases ge_cases (a + b) with ⟨r1, r2, r3⟩ | ⟨r1, r2, r3⟩ <;> first | (exfalso; omega) | simp [p1, p2, q1, q2, r1, r2, br_true, br_false]
  · have hin' : inI (a + b) = false := by simpa using hin
    have iab : ¬ (-9223372036854775808 ≤ a + b ∧ a + b ≤ 9223372036854775807) := fun h => hin (inI_iff.2 h)
    have hm : numOf (a + b) = 0 := if_neg hin
    have hw : (a + b > 0 → IntKind.i64.wrap (a + b) < 0) ∧ (a + b < 0 → IntKind.i64.wrap (a + b) ≥ 0) := by rw [IntKind.wrap_i64]; omega
    simp only [hm, hin']
    generalize IntKind.i64.wrap (a + b) = c at *
    rcases ge_cases a with ⟨p1, p2, p3⟩ | ⟨p1, p2, p3⟩ <;> rcases ge_cases b with ⟨q1, q2, q3⟩ | ⟨q1, q2, q3⟩ <;> rcases ge_cases c with ⟨r1, r2, r3⟩ | ⟨r1, r2, r3⟩ <;> first | (exfalso; omega) | simp [p1, p2, q1, q2, r1, r2, br_true, br_false]
end Go.Proofs.Ytgmddliidplooaa.W
