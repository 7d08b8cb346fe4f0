/- Walks: the statements of layer 1: tests, numbers. -/
import Derived.Test.YthcekejmeoaelaaDoorValC
set_option linter.unusedSimpArgs false
set_option linter.unusedVariables false
set_option maxRecDepth 100000
namespace Go.Proofs.YthcekejmeoaelaaDoor
open Go Go.Sy
attribute [local irreducible] bodyK roundK
theorem tests_body (a b : Int) (c : List UInt8) (a' b' : Int) (c' : List UInt8) (k : AV → St → Prop) : bodyK Tryd.prog prL noL 100 6 [] [avV a b c, avV a' b' c'] [] k =
  br (testV (3 : Int) a b (cutS c (20 : Int)) a' b' (cutS c' (20 : Int)))
    (br (testV (1 : Int) a b (cutS c (20 : Int)) a' b' (cutS c' (20 : Int)))
      (br (testV (5 : Int) a b (cutS c (20 : Int)) a' b' (cutS c' (20 : Int)))
        (br (decide (a = (0 : Int)))
          (k (AV.bool false) [])
          (br (decide (a' = (0 : Int)))
            (k (AV.bool false) [])
            (br (!decide (a = a'))
              (k (AV.bool false) [])
              (k (AV.bool false) []))))
        (br (decide (a = (0 : Int)))
          (k (AV.bool false) [])
          (br (decide (a' = (0 : Int)))
            (k (AV.bool false) [])
            (br (!decide (a = a'))
              (k (AV.bool false) [])
              (k (AV.bool false) [])))))
      (br (testV (5 : Int) a b (cutS c (20 : Int)) a' b' (cutS c' (20 : Int)))
        (br (decide (a = (0 : Int)))
          (k (AV.bool false) [])
          (br (decide (a' = (0 : Int)))
            (k (AV.bool false) [])
            (br (!decide (a = a'))
              (k (AV.bool false) [])
              (k (AV.bool false) []))))
        (br (decide (a = (0 : Int)))
          (k (AV.bool false) [])
          (br (decide (a' = (0 : Int)))
            (k (AV.bool false) [])
            (br (!decide (a = a'))
              (k (AV.bool false) [])
              (br (testV (2 : Int) a b (cutS c (20 : Int)) a' b' (cutS c' (20 : Int)) == !testV (1 : Int) a b (cutS c (20 : Int)) a' b' (cutS c' (20 : Int)))
                (br (testV (4 : Int) a b (cutS c (20 : Int)) a' b' (cutS c' (20 : Int)) == !testV (5 : Int) a b (cutS c (20 : Int)) a' b' (cutS c' (20 : Int)))
                  (br (testV (6 : Int) a b (cutS c (20 : Int)) a' b' (cutS c' (20 : Int)) == !testV (3 : Int) a b (cutS c (20 : Int)) a' b' (cutS c' (20 : Int)))
                    (k (AV.bool (testV (8 : Int) a b (cutS c (20 : Int)) a' b' (cutS c' (20 : Int)))) [])
                    (k (AV.bool false) []))
                  (k (AV.bool false) []))
                (k (AV.bool false) [])))))))
    (br (testV (1 : Int) a b (cutS c (20 : Int)) a' b' (cutS c' (20 : Int)))
      (br (testV (5 : Int) a b (cutS c (20 : Int)) a' b' (cutS c' (20 : Int)))
        (br (decide (a = (0 : Int)))
          (k (AV.bool false) [])
          (br (decide (a' = (0 : Int)))
            (k (AV.bool false) [])
            (br (!decide (a = a'))
              (k (AV.bool false) [])
              (k (AV.bool false) []))))
        (br (decide (a = (0 : Int)))
          (k (AV.bool false) [])
          (br (decide (a' = (0 : Int)))
            (k (AV.bool false) [])
            (br (!decide (a = a'))
              (k (AV.bool false) [])
              (br (testV (2 : Int) a b (cutS c (20 : Int)) a' b' (cutS c' (20 : Int)) == !testV (1 : Int) a b (cutS c (20 : Int)) a' b' (cutS c' (20 : Int)))
                (br (testV (4 : Int) a b (cutS c (20 : Int)) a' b' (cutS c' (20 : Int)) == !testV (5 : Int) a b (cutS c (20 : Int)) a' b' (cutS c' (20 : Int)))
                  (br (testV (6 : Int) a b (cutS c (20 : Int)) a' b' (cutS c' (20 : Int)) == !testV (3 : Int) a b (cutS c (20 : Int)) a' b' (cutS c' (20 : Int)))
                    (k (AV.bool (testV (8 : Int) a b (cutS c (20 : Int)) a' b' (cutS c' (20 : Int)))) [])
                    (k (AV.bool false) []))
                  (k (AV.bool false) []))
                (k (AV.bool false) []))))))
      (br (testV (5 : Int) a b (cutS c (20 : Int)) a' b' (cutS c' (20 : Int)))
        (br (decide (a = (0 : Int)))
          (k (AV.bool false) [])
          (br (decide (a' = (0 : Int)))
            (k (AV.bool false) [])
            (br (!decide (a = a'))
              (k (AV.bool false) [])
              (br (testV (2 : Int) a b (cutS c (20 : Int)) a' b' (cutS c' (20 : Int)) == !testV (1 : Int) a b (cutS c (20 : Int)) a' b' (cutS c' (20 : Int)))
                (br (testV (4 : Int) a b (cutS c (20 : Int)) a' b' (cutS c' (20 : Int)) == !testV (5 : Int) a b (cutS c (20 : Int)) a' b' (cutS c' (20 : Int)))
                  (br (testV (6 : Int) a b (cutS c (20 : Int)) a' b' (cutS c' (20 : Int)) == !testV (3 : Int) a b (cutS c (20 : Int)) a' b' (cutS c' (20 : Int)))
                    (k (AV.bool (testV (8 : Int) a b (cutS c (20 : Int)) a' b' (cutS c' (20 : Int)))) [])
                    (k (AV.bool false) []))
                  (k (AV.bool false) []))
                (k (AV.bool false) [])))))
        (br (decide (a = (0 : Int)))
          (br (!testV (2 : Int) a b (cutS c (20 : Int)) a' b' (cutS c' (20 : Int)))
            (br (!testV (4 : Int) a b (cutS c (20 : Int)) a' b' (cutS c' (20 : Int)))
              (br (!testV (6 : Int) a b (cutS c (20 : Int)) a' b' (cutS c' (20 : Int)))
                (k (AV.bool (testV (7 : Int) a b (cutS c (20 : Int)) a' b' (cutS c' (20 : Int)) == decide (a = (0 : Int)))) [])
                (k (AV.bool false) []))
              (k (AV.bool false) []))
            (k (AV.bool false) []))
          (br (decide (a' = (0 : Int)))
            (br (!testV (2 : Int) a b (cutS c (20 : Int)) a' b' (cutS c' (20 : Int)))
              (br (!testV (4 : Int) a b (cutS c (20 : Int)) a' b' (cutS c' (20 : Int)))
                (br (!testV (6 : Int) a b (cutS c (20 : Int)) a' b' (cutS c' (20 : Int)))
                  (k (AV.bool (testV (7 : Int) a b (cutS c (20 : Int)) a' b' (cutS c' (20 : Int)) == decide (a = (0 : Int)))) [])
                  (k (AV.bool false) []))
                (k (AV.bool false) []))
              (k (AV.bool false) []))
            (br (!decide (a = a'))
              (br (!testV (2 : Int) a b (cutS c (20 : Int)) a' b' (cutS c' (20 : Int)))
                (br (!testV (4 : Int) a b (cutS c (20 : Int)) a' b' (cutS c' (20 : Int)))
                  (br (!testV (6 : Int) a b (cutS c (20 : Int)) a' b' (cutS c' (20 : Int)))
                    (k (AV.bool (testV (7 : Int) a b (cutS c (20 : Int)) a' b' (cutS c' (20 : Int)) == decide (a = (0 : Int)))) [])
                    (k (AV.bool false) []))
                  (k (AV.bool false) []))
                (k (AV.bool false) []))
              (k (AV.bool false) [])))))) := by kernel_rfl
theorem tests_comes (a b : Int) (c : List UInt8) (a' b' : Int) (c' : List UInt8) : Sy.Comes Tryd.prog 6 [avV a b c, avV a' b' c'] [] (.bool true) [] := by
  refine comes_of ok prL_ok (L := 100) (ms := []) (by kernel_rfl) loops_none ?_
  refine Eq.mpr (tests_body a b c a' b' c' _) ?_
  by_cases h0 : a = 0
  · simp [br, testV, h0]
  by_cases h0' : a' = 0
  · have : a ≠ a' := fun e => h0 (e.trans h0')
    have h2 : ¬ a = 0 := h0
    subst h0'
    simp [br, testV, h0]
  by_cases ha : a = a'
  · subst ha
    have hr := cmp3_range a b (cutS c 20) a b' (cutS c' 20)
    generalize hx : cmp3 a b (cutS c 20) a b' (cutS c' 20) = x at hr ⊢
    rcases hr with rfl | rfl | rfl <;> simp [br, testV, h0, hx]
  · simp [br, testV, h0, h0', ha]
theorem ints_body (a b : Int) (s t : List UInt8) (k : AV → St → Prop) : bodyK Tryd.prog prL noL 100 9 [] [.int .i64 a, .int .i64 b, .str s, .str t] [] k =
  br (decide (a < b))
    (br (decide (a > b))
      (br (ltBytes (cutS s (12 : Int)) (cutS t (12 : Int)))
        (br (!(ltBytes (cutS s (12 : Int)) (cutS t (12 : Int)) || eqBytes (cutS s (12 : Int)) (cutS t (12 : Int))))
          (br (decide (cmp3 (1 : Int) a [] (1 : Int) b [] = (1 : Int)))
            (br (decide (cmp3 (2 : Int) (0 : Int) (cutS s (12 : Int)) (2 : Int) (0 : Int) (cutS t (12 : Int)) = (1 : Int)))
              (br (testV (4 : Int) (1 : Int) a [] (1 : Int) b [] == decide (a ≤ b))
                (k (AV.bool (testV (5 : Int) (2 : Int) (0 : Int) (cutS s (12 : Int)) (2 : Int) (0 : Int) (cutS t (12 : Int)) == !(ltBytes (cutS s (12 : Int)) (cutS t (12 : Int)) || eqBytes (cutS s (12 : Int)) (cutS t (12 : Int))))) [])
                (k (AV.bool false) []))
              (k (AV.bool false) []))
            (k (AV.bool false) []))
          (br (decide (cmp3 (1 : Int) a [] (1 : Int) b [] = (1 : Int)))
            (br (decide (cmp3 (2 : Int) (0 : Int) (cutS s (12 : Int)) (2 : Int) (0 : Int) (cutS t (12 : Int)) = (-1 : Int)))
              (br (testV (4 : Int) (1 : Int) a [] (1 : Int) b [] == decide (a ≤ b))
                (k (AV.bool (testV (5 : Int) (2 : Int) (0 : Int) (cutS s (12 : Int)) (2 : Int) (0 : Int) (cutS t (12 : Int)) == !(ltBytes (cutS s (12 : Int)) (cutS t (12 : Int)) || eqBytes (cutS s (12 : Int)) (cutS t (12 : Int))))) [])
                (k (AV.bool false) []))
              (k (AV.bool false) []))
            (k (AV.bool false) [])))
        (br (!(ltBytes (cutS s (12 : Int)) (cutS t (12 : Int)) || eqBytes (cutS s (12 : Int)) (cutS t (12 : Int))))
          (br (decide (cmp3 (1 : Int) a [] (1 : Int) b [] = (1 : Int)))
            (br (decide (cmp3 (2 : Int) (0 : Int) (cutS s (12 : Int)) (2 : Int) (0 : Int) (cutS t (12 : Int)) = (1 : Int)))
              (br (testV (4 : Int) (1 : Int) a [] (1 : Int) b [] == decide (a ≤ b))
                (k (AV.bool (testV (5 : Int) (2 : Int) (0 : Int) (cutS s (12 : Int)) (2 : Int) (0 : Int) (cutS t (12 : Int)) == !(ltBytes (cutS s (12 : Int)) (cutS t (12 : Int)) || eqBytes (cutS s (12 : Int)) (cutS t (12 : Int))))) [])
                (k (AV.bool false) []))
              (k (AV.bool false) []))
            (k (AV.bool false) []))
          (br (decide (cmp3 (1 : Int) a [] (1 : Int) b [] = (1 : Int)))
            (br (decide (cmp3 (2 : Int) (0 : Int) (cutS s (12 : Int)) (2 : Int) (0 : Int) (cutS t (12 : Int)) = (0 : Int)))
              (br (testV (4 : Int) (1 : Int) a [] (1 : Int) b [] == decide (a ≤ b))
                (k (AV.bool (testV (5 : Int) (2 : Int) (0 : Int) (cutS s (12 : Int)) (2 : Int) (0 : Int) (cutS t (12 : Int)) == !(ltBytes (cutS s (12 : Int)) (cutS t (12 : Int)) || eqBytes (cutS s (12 : Int)) (cutS t (12 : Int))))) [])
                (k (AV.bool false) []))
              (k (AV.bool false) []))
            (k (AV.bool false) []))))
      (br (ltBytes (cutS s (12 : Int)) (cutS t (12 : Int)))
        (br (!(ltBytes (cutS s (12 : Int)) (cutS t (12 : Int)) || eqBytes (cutS s (12 : Int)) (cutS t (12 : Int))))
          (br (decide (cmp3 (1 : Int) a [] (1 : Int) b [] = (-1 : Int)))
            (br (decide (cmp3 (2 : Int) (0 : Int) (cutS s (12 : Int)) (2 : Int) (0 : Int) (cutS t (12 : Int)) = (1 : Int)))
              (br (testV (4 : Int) (1 : Int) a [] (1 : Int) b [] == decide (a ≤ b))
                (k (AV.bool (testV (5 : Int) (2 : Int) (0 : Int) (cutS s (12 : Int)) (2 : Int) (0 : Int) (cutS t (12 : Int)) == !(ltBytes (cutS s (12 : Int)) (cutS t (12 : Int)) || eqBytes (cutS s (12 : Int)) (cutS t (12 : Int))))) [])
                (k (AV.bool false) []))
              (k (AV.bool false) []))
            (k (AV.bool false) []))
          (br (decide (cmp3 (1 : Int) a [] (1 : Int) b [] = (-1 : Int)))
            (br (decide (cmp3 (2 : Int) (0 : Int) (cutS s (12 : Int)) (2 : Int) (0 : Int) (cutS t (12 : Int)) = (-1 : Int)))
              (br (testV (4 : Int) (1 : Int) a [] (1 : Int) b [] == decide (a ≤ b))
                (k (AV.bool (testV (5 : Int) (2 : Int) (0 : Int) (cutS s (12 : Int)) (2 : Int) (0 : Int) (cutS t (12 : Int)) == !(ltBytes (cutS s (12 : Int)) (cutS t (12 : Int)) || eqBytes (cutS s (12 : Int)) (cutS t (12 : Int))))) [])
                (k (AV.bool false) []))
              (k (AV.bool false) []))
            (k (AV.bool false) [])))
        (br (!(ltBytes (cutS s (12 : Int)) (cutS t (12 : Int)) || eqBytes (cutS s (12 : Int)) (cutS t (12 : Int))))
          (br (decide (cmp3 (1 : Int) a [] (1 : Int) b [] = (-1 : Int)))
            (br (decide (cmp3 (2 : Int) (0 : Int) (cutS s (12 : Int)) (2 : Int) (0 : Int) (cutS t (12 : Int)) = (1 : Int)))
              (br (testV (4 : Int) (1 : Int) a [] (1 : Int) b [] == decide (a ≤ b))
                (k (AV.bool (testV (5 : Int) (2 : Int) (0 : Int) (cutS s (12 : Int)) (2 : Int) (0 : Int) (cutS t (12 : Int)) == !(ltBytes (cutS s (12 : Int)) (cutS t (12 : Int)) || eqBytes (cutS s (12 : Int)) (cutS t (12 : Int))))) [])
                (k (AV.bool false) []))
              (k (AV.bool false) []))
            (k (AV.bool false) []))
          (br (decide (cmp3 (1 : Int) a [] (1 : Int) b [] = (-1 : Int)))
            (br (decide (cmp3 (2 : Int) (0 : Int) (cutS s (12 : Int)) (2 : Int) (0 : Int) (cutS t (12 : Int)) = (0 : Int)))
              (br (testV (4 : Int) (1 : Int) a [] (1 : Int) b [] == decide (a ≤ b))
                (k (AV.bool (testV (5 : Int) (2 : Int) (0 : Int) (cutS s (12 : Int)) (2 : Int) (0 : Int) (cutS t (12 : Int)) == !(ltBytes (cutS s (12 : Int)) (cutS t (12 : Int)) || eqBytes (cutS s (12 : Int)) (cutS t (12 : Int))))) [])
                (k (AV.bool false) []))
              (k (AV.bool false) []))
            (k (AV.bool false) [])))))
    (br (decide (a > b))
      (br (ltBytes (cutS s (12 : Int)) (cutS t (12 : Int)))
        (br (!(ltBytes (cutS s (12 : Int)) (cutS t (12 : Int)) || eqBytes (cutS s (12 : Int)) (cutS t (12 : Int))))
          (br (decide (cmp3 (1 : Int) a [] (1 : Int) b [] = (1 : Int)))
            (br (decide (cmp3 (2 : Int) (0 : Int) (cutS s (12 : Int)) (2 : Int) (0 : Int) (cutS t (12 : Int)) = (1 : Int)))
              (br (testV (4 : Int) (1 : Int) a [] (1 : Int) b [] == decide (a ≤ b))
                (k (AV.bool (testV (5 : Int) (2 : Int) (0 : Int) (cutS s (12 : Int)) (2 : Int) (0 : Int) (cutS t (12 : Int)) == !(ltBytes (cutS s (12 : Int)) (cutS t (12 : Int)) || eqBytes (cutS s (12 : Int)) (cutS t (12 : Int))))) [])
                (k (AV.bool false) []))
              (k (AV.bool false) []))
            (k (AV.bool false) []))
          (br (decide (cmp3 (1 : Int) a [] (1 : Int) b [] = (1 : Int)))
            (br (decide (cmp3 (2 : Int) (0 : Int) (cutS s (12 : Int)) (2 : Int) (0 : Int) (cutS t (12 : Int)) = (-1 : Int)))
              (br (testV (4 : Int) (1 : Int) a [] (1 : Int) b [] == decide (a ≤ b))
                (k (AV.bool (testV (5 : Int) (2 : Int) (0 : Int) (cutS s (12 : Int)) (2 : Int) (0 : Int) (cutS t (12 : Int)) == !(ltBytes (cutS s (12 : Int)) (cutS t (12 : Int)) || eqBytes (cutS s (12 : Int)) (cutS t (12 : Int))))) [])
                (k (AV.bool false) []))
              (k (AV.bool false) []))
            (k (AV.bool false) [])))
        (br (!(ltBytes (cutS s (12 : Int)) (cutS t (12 : Int)) || eqBytes (cutS s (12 : Int)) (cutS t (12 : Int))))
          (br (decide (cmp3 (1 : Int) a [] (1 : Int) b [] = (1 : Int)))
            (br (decide (cmp3 (2 : Int) (0 : Int) (cutS s (12 : Int)) (2 : Int) (0 : Int) (cutS t (12 : Int)) = (1 : Int)))
              (br (testV (4 : Int) (1 : Int) a [] (1 : Int) b [] == decide (a ≤ b))
                (k (AV.bool (testV (5 : Int) (2 : Int) (0 : Int) (cutS s (12 : Int)) (2 : Int) (0 : Int) (cutS t (12 : Int)) == !(ltBytes (cutS s (12 : Int)) (cutS t (12 : Int)) || eqBytes (cutS s (12 : Int)) (cutS t (12 : Int))))) [])
                (k (AV.bool false) []))
              (k (AV.bool false) []))
            (k (AV.bool false) []))
          (br (decide (cmp3 (1 : Int) a [] (1 : Int) b [] = (1 : Int)))
            (br (decide (cmp3 (2 : Int) (0 : Int) (cutS s (12 : Int)) (2 : Int) (0 : Int) (cutS t (12 : Int)) = (0 : Int)))
              (br (testV (4 : Int) (1 : Int) a [] (1 : Int) b [] == decide (a ≤ b))
                (k (AV.bool (testV (5 : Int) (2 : Int) (0 : Int) (cutS s (12 : Int)) (2 : Int) (0 : Int) (cutS t (12 : Int)) == !(ltBytes (cutS s (12 : Int)) (cutS t (12 : Int)) || eqBytes (cutS s (12 : Int)) (cutS t (12 : Int))))) [])
                (k (AV.bool false) []))
              (k (AV.bool false) []))
            (k (AV.bool false) []))))
      (br (ltBytes (cutS s (12 : Int)) (cutS t (12 : Int)))
        (br (!(ltBytes (cutS s (12 : Int)) (cutS t (12 : Int)) || eqBytes (cutS s (12 : Int)) (cutS t (12 : Int))))
          (br (decide (cmp3 (1 : Int) a [] (1 : Int) b [] = (0 : Int)))
            (br (decide (cmp3 (2 : Int) (0 : Int) (cutS s (12 : Int)) (2 : Int) (0 : Int) (cutS t (12 : Int)) = (1 : Int)))
              (br (testV (4 : Int) (1 : Int) a [] (1 : Int) b [] == decide (a ≤ b))
                (k (AV.bool (testV (5 : Int) (2 : Int) (0 : Int) (cutS s (12 : Int)) (2 : Int) (0 : Int) (cutS t (12 : Int)) == !(ltBytes (cutS s (12 : Int)) (cutS t (12 : Int)) || eqBytes (cutS s (12 : Int)) (cutS t (12 : Int))))) [])
                (k (AV.bool false) []))
              (k (AV.bool false) []))
            (k (AV.bool false) []))
          (br (decide (cmp3 (1 : Int) a [] (1 : Int) b [] = (0 : Int)))
            (br (decide (cmp3 (2 : Int) (0 : Int) (cutS s (12 : Int)) (2 : Int) (0 : Int) (cutS t (12 : Int)) = (-1 : Int)))
              (br (testV (4 : Int) (1 : Int) a [] (1 : Int) b [] == decide (a ≤ b))
                (k (AV.bool (testV (5 : Int) (2 : Int) (0 : Int) (cutS s (12 : Int)) (2 : Int) (0 : Int) (cutS t (12 : Int)) == !(ltBytes (cutS s (12 : Int)) (cutS t (12 : Int)) || eqBytes (cutS s (12 : Int)) (cutS t (12 : Int))))) [])
                (k (AV.bool false) []))
              (k (AV.bool false) []))
            (k (AV.bool false) [])))
        (br (!(ltBytes (cutS s (12 : Int)) (cutS t (12 : Int)) || eqBytes (cutS s (12 : Int)) (cutS t (12 : Int))))
          (br (decide (cmp3 (1 : Int) a [] (1 : Int) b [] = (0 : Int)))
            (br (decide (cmp3 (2 : Int) (0 : Int) (cutS s (12 : Int)) (2 : Int) (0 : Int) (cutS t (12 : Int)) = (1 : Int)))
              (br (testV (4 : Int) (1 : Int) a [] (1 : Int) b [] == decide (a ≤ b))
                (k (AV.bool (testV (5 : Int) (2 : Int) (0 : Int) (cutS s (12 : Int)) (2 : Int) (0 : Int) (cutS t (12 : Int)) == !(ltBytes (cutS s (12 : Int)) (cutS t (12 : Int)) || eqBytes (cutS s (12 : Int)) (cutS t (12 : Int))))) [])
                (k (AV.bool false) []))
              (k (AV.bool false) []))
            (k (AV.bool false) []))
          (br (decide (cmp3 (1 : Int) a [] (1 : Int) b [] = (0 : Int)))
            (br (decide (cmp3 (2 : Int) (0 : Int) (cutS s (12 : Int)) (2 : Int) (0 : Int) (cutS t (12 : Int)) = (0 : Int)))
              (br (testV (4 : Int) (1 : Int) a [] (1 : Int) b [] == decide (a ≤ b))
                (k (AV.bool (testV (5 : Int) (2 : Int) (0 : Int) (cutS s (12 : Int)) (2 : Int) (0 : Int) (cutS t (12 : Int)) == !(ltBytes (cutS s (12 : Int)) (cutS t (12 : Int)) || eqBytes (cutS s (12 : Int)) (cutS t (12 : Int))))) [])
                (k (AV.bool false) []))
              (k (AV.bool false) []))
            (k (AV.bool false) []))))) := by kernel_rfl
theorem ints_comes (a b : Int) (s t : List UInt8) : Sy.Comes Tryd.prog 9 [.int .i64 a, .int .i64 b, .str s, .str t] [] (.bool true) [] := by
  refine comes_of ok prL_ok (L := 100) (ms := []) (by kernel_rfl) loops_none ?_
  refine Eq.mpr (ints_body a b s t _) ?_
  have e2 : cmp3 2 0 (cutS s 12) 2 0 (cutS t 12) = c3 (cutS s 12) (cutS t 12) := by simp [cmp3_c3]
  have e1 : cmp3 1 a [] 1 b [] = cmpI a b := by
    rw [cmp3_c3, cmpI]
    have : c3 [] [] = 0 := rfl
    by_cases h1 : a < b
    · simp [h1]
    · by_cases h2 : a = b
      · simp [h2, this]
      · simp [h1, h2]; omega
  have hT : ∀ op a0 b0 c0 b1 c1, op = 4 ∨ op = 5 → a0 ≠ 0 → testV op a0 b0 c0 a0 b1 c1 = if op = 4 then decide (cmp3 a0 b0 c0 a0 b1 c1 ≤ 0) else decide (cmp3 a0 b0 c0 a0 b1 c1 > 0) := by
    intro op a0 b0 c0 b1 c1 h h0
    rcases h with rfl | rfl <;> simp [testV, h0]
  rw [hT 4 1 a [] b [] (.inl rfl) (by decide), hT 5 2 0 (cutS s 12) 0 (cutS t 12) (.inr rfl) (by decide), e1, e2]
  generalize cutS s 12 = S
  generalize cutS t 12 = T
  have hc := c3_cases S T
  have hab : (a < b ∧ cmpI a b = -1) ∨ (a = b ∧ cmpI a b = 0) ∨ (a > b ∧ cmpI a b = 1) := by
    unfold cmpI
    by_cases h1 : a < b
    · exact .inl ⟨h1, by rw [if_pos h1]⟩
    · by_cases h2 : b < a
      · exact .inr (.inr ⟨h2, by rw [if_neg h1, if_pos h2]⟩)
      · exact .inr (.inl ⟨by omega, by rw [if_neg h1, if_neg h2]⟩)
  rcases hc with ⟨k, k1, k2, k3⟩ | ⟨k, k1⟩ | ⟨k, k1, k2, k3⟩
  · rcases hab with ⟨p, q⟩ | ⟨p, q⟩ | ⟨p, q⟩
    · have p1 : ¬ a > b := by omega
      have p2 : a ≤ b := by omega
      simp [br, k, k1, k2, q, p, p1, p2]
    · subst p
      simp [br, k, k1, k2, q]
    · have p1 : ¬ a < b := by omega
      have p2 : ¬ a ≤ b := by omega
      simp [br, k, k1, k2, q, p, p1, p2]
  · subst k1
    rcases hab with ⟨p, q⟩ | ⟨p, q⟩ | ⟨p, q⟩
    · have p1 : ¬ a > b := by omega
      have p2 : a ≤ b := by omega
      simp [br, k, q, p, p1, p2, ltBytes_irrefl, eqBytes_refl]
    · subst p
      simp [br, k, q, ltBytes_irrefl, eqBytes_refl]
    · have p1 : ¬ a < b := by omega
      have p2 : ¬ a ≤ b := by omega
      simp [br, k, q, p, p1, p2, ltBytes_irrefl, eqBytes_refl]
  · have k4 := eqBytes_ne k3
    rcases hab with ⟨p, q⟩ | ⟨p, q⟩ | ⟨p, q⟩
    · have p1 : ¬ a > b := by omega
      have p2 : a ≤ b := by omega
      simp [br, k, k2, k4, q, p, p1, p2]
    · subst p
      simp [br, k, k2, k4, q]
    · have p1 : ¬ a < b := by omega
      have p2 : ¬ a ≤ b := by omega
      simp [br, k, k2, k4, q, p, p1, p2]
end Go.Proofs.YthcekejmeoaelaaDoor
