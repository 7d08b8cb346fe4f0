/- Walks: WideOrder. -/
import Derived.Test.YtgmddliidplooabPvI
import Derived.Test.YtgmddliidplooabBigT
import Derived.Test.YtgmddliidplooabWideB
set_option linter.unusedSimpArgs false
set_option linter.unusedVariables false
set_option maxRecDepth 100000
namespace Go.Proofs.Ytgmddliidplooab.W
open Go Go.Sy
attribute [local irreducible] bodyK roundK
def prLs : FuncId → Option Sy.Spec := addP 10 bofF (addP 11 btimesF (addP 12 blessF prS))
theorem prLs_ok : PrOk Try.prog prLs := prOk_add bof_ok (prOk_add btimes_ok (prOk_add bless_ok prS_ok))
theorem word_body (a t b u : Int) (k : AV → St → Prop) : bodyK Try.prog prLs noL 100 3 [] [.int .i64 a, .int .i64 t, .int .i64 b, .int .i64 u] [] k =
  br (inI a)
    (br (inW (wH a) (wL a) && inI t)
      (br (inI b)
        (br (inW (wH b) (wL b) && inI u)
          (br (inI a)
            (br (inBn a && inI t)
              (br (inI b)
                (br (inBn b && inI u)
                  (br (inBn (nrm a * t) && inBn (nrm b * u))
                    (br (decide (w128 (nrm (nrm a * t)) < w128 (nrm (nrm b * u))))
                      (br (inBn (nrm b * u) && inBn (nrm a * t))
                        (br (decide (w128 (nrm (nrm b * u)) < w128 (nrm (nrm a * t))))
                          (br (inW (wH (wV (wH a) (wL a) * t)) (wL (wV (wH a) (wL a) * t)) && inW (wH (wV (wH b) (wL b) * u)) (wL (wV (wH b) (wL b) * u)))
                            (br (decide (sgn (wV (wH (wV (wH a) (wL a) * t)) (wL (wV (wH a) (wL a) * t))) (wV (wH (wV (wH b) (wL b) * u)) (wL (wV (wH b) (wL b) * u))) = (1 : Int)))
                              (br (inW (wH (wV (wH b) (wL b) * u)) (wL (wV (wH b) (wL b) * u)) && inW (wH (wV (wH a) (wL a) * t)) (wL (wV (wH a) (wL a) * t)))
                                (br (decide (sgn (wV (wH (wV (wH b) (wL b) * u)) (wL (wV (wH b) (wL b) * u))) (wV (wH (wV (wH a) (wL a) * t)) (wL (wV (wH a) (wL a) * t))) = (-1 : Int)))
                                  (br (inW (wH (wV (wH a) (wL a) * t)) (wL (wV (wH a) (wL a) * t)) && inW (wH (wV (wH a) (wL a) * t)) (wL (wV (wH a) (wL a) * t)))
                                    (k (AV.bool (decide (sgn (wV (wH (wV (wH a) (wL a) * t)) (wL (wV (wH a) (wL a) * t))) (wV (wH (wV (wH a) (wL a) * t)) (wL (wV (wH a) (wL a) * t))) = (0 : Int)))) [])
                                    (False))
                                  (k (AV.bool false) []))
                                (False))
                              (k (AV.bool false) []))
                            (False))
                          (br (inW (wH (wV (wH a) (wL a) * t)) (wL (wV (wH a) (wL a) * t)) && inW (wH (wV (wH b) (wL b) * u)) (wL (wV (wH b) (wL b) * u)))
                            (br (decide (sgn (wV (wH (wV (wH a) (wL a) * t)) (wL (wV (wH a) (wL a) * t))) (wV (wH (wV (wH b) (wL b) * u)) (wL (wV (wH b) (wL b) * u))) = (-1 : Int)))
                              (br (inW (wH (wV (wH b) (wL b) * u)) (wL (wV (wH b) (wL b) * u)) && inW (wH (wV (wH a) (wL a) * t)) (wL (wV (wH a) (wL a) * t)))
                                (br (decide (sgn (wV (wH (wV (wH b) (wL b) * u)) (wL (wV (wH b) (wL b) * u))) (wV (wH (wV (wH a) (wL a) * t)) (wL (wV (wH a) (wL a) * t))) = (1 : Int)))
                                  (br (inW (wH (wV (wH a) (wL a) * t)) (wL (wV (wH a) (wL a) * t)) && inW (wH (wV (wH a) (wL a) * t)) (wL (wV (wH a) (wL a) * t)))
                                    (k (AV.bool (decide (sgn (wV (wH (wV (wH a) (wL a) * t)) (wL (wV (wH a) (wL a) * t))) (wV (wH (wV (wH a) (wL a) * t)) (wL (wV (wH a) (wL a) * t))) = (0 : Int)))) [])
                                    (False))
                                  (k (AV.bool false) []))
                                (False))
                              (k (AV.bool false) []))
                            (False)))
                        (False))
                      (br (inBn (nrm b * u) && inBn (nrm a * t))
                        (br (decide (w128 (nrm (nrm b * u)) < w128 (nrm (nrm a * t))))
                          (br (inW (wH (wV (wH a) (wL a) * t)) (wL (wV (wH a) (wL a) * t)) && inW (wH (wV (wH b) (wL b) * u)) (wL (wV (wH b) (wL b) * u)))
                            (br (decide (sgn (wV (wH (wV (wH a) (wL a) * t)) (wL (wV (wH a) (wL a) * t))) (wV (wH (wV (wH b) (wL b) * u)) (wL (wV (wH b) (wL b) * u))) = (1 : Int)))
                              (br (inW (wH (wV (wH b) (wL b) * u)) (wL (wV (wH b) (wL b) * u)) && inW (wH (wV (wH a) (wL a) * t)) (wL (wV (wH a) (wL a) * t)))
                                (br (decide (sgn (wV (wH (wV (wH b) (wL b) * u)) (wL (wV (wH b) (wL b) * u))) (wV (wH (wV (wH a) (wL a) * t)) (wL (wV (wH a) (wL a) * t))) = (-1 : Int)))
                                  (br (inW (wH (wV (wH a) (wL a) * t)) (wL (wV (wH a) (wL a) * t)) && inW (wH (wV (wH a) (wL a) * t)) (wL (wV (wH a) (wL a) * t)))
                                    (k (AV.bool (decide (sgn (wV (wH (wV (wH a) (wL a) * t)) (wL (wV (wH a) (wL a) * t))) (wV (wH (wV (wH a) (wL a) * t)) (wL (wV (wH a) (wL a) * t))) = (0 : Int)))) [])
                                    (False))
                                  (k (AV.bool false) []))
                                (False))
                              (k (AV.bool false) []))
                            (False))
                          (br (inW (wH (wV (wH a) (wL a) * t)) (wL (wV (wH a) (wL a) * t)) && inW (wH (wV (wH b) (wL b) * u)) (wL (wV (wH b) (wL b) * u)))
                            (br (decide (sgn (wV (wH (wV (wH a) (wL a) * t)) (wL (wV (wH a) (wL a) * t))) (wV (wH (wV (wH b) (wL b) * u)) (wL (wV (wH b) (wL b) * u))) = (0 : Int)))
                              (br (inW (wH (wV (wH b) (wL b) * u)) (wL (wV (wH b) (wL b) * u)) && inW (wH (wV (wH a) (wL a) * t)) (wL (wV (wH a) (wL a) * t)))
                                (br (decide (sgn (wV (wH (wV (wH b) (wL b) * u)) (wL (wV (wH b) (wL b) * u))) (wV (wH (wV (wH a) (wL a) * t)) (wL (wV (wH a) (wL a) * t))) = (0 : Int)))
                                  (br (inW (wH (wV (wH a) (wL a) * t)) (wL (wV (wH a) (wL a) * t)) && inW (wH (wV (wH a) (wL a) * t)) (wL (wV (wH a) (wL a) * t)))
                                    (k (AV.bool (decide (sgn (wV (wH (wV (wH a) (wL a) * t)) (wL (wV (wH a) (wL a) * t))) (wV (wH (wV (wH a) (wL a) * t)) (wL (wV (wH a) (wL a) * t))) = (0 : Int)))) [])
                                    (False))
                                  (k (AV.bool false) []))
                                (False))
                              (k (AV.bool false) []))
                            (False)))
                        (False)))
                    (False))
                  (False))
                (False))
              (False))
            (False))
          (False))
        (False))
      (False))
    (False) := by kernel_rfl
theorem word_comes (a t b u : Int) (ha : inI a = true) (ht : inI t = true) (hb : inI b = true) (hu : inI u = true) : Sy.Comes Try.prog 3 [.int .i64 a, .int .i64 t, .int .i64 b, .int .i64 u] [] (.bool true) [] := by
  refine comes_of ok prLs_ok (L := 100) (ms := []) (by kernel_rfl) loops_none ?_
  refine Eq.mpr (word_body a t b u _) ?_
  have e1 : ∀ a t : Int, w128 (nrm (nrm a * t)) = w128 (w128 a * t) := fun a t => by rw [w128_congr (cg_n _)]; exact (w128_congr (cg_mul t rfl)).symm
  simp only [ha, ht, hb, hu, inW_HL, inBn_t, wV_HL, Bool.and_self, br_true, e1]
  generalize w128 (w128 a * t) = X
  generalize w128 (w128 b * u) = Y
  rcases Int.lt_trichotomy X Y with h | h | h
  · have h' : ¬ Y < X := by omega
    simp [br, sgn, h, h']
  · subst h
    simp [br, sgn]
  · have h' : ¬ X < Y := by omega
    simp [br, sgn, h, h']
end Go.Proofs.Ytgmddliidplooab.W
