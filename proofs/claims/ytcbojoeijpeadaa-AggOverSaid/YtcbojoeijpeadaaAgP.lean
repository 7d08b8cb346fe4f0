/- Walks: AggOver. -/
import Derived.Test.YtcbojoeijpeadaaAg
import Derived.KernelRfl
set_option linter.unusedSimpArgs false
set_option linter.unusedVariables false
set_option maxRecDepth 100000
namespace Go.Proofs.Ytcbojoeijpeadaa
open Go Go.Sy
attribute [local irreducible] bodyK roundK cutK br inW wH wL
def aS (r c m h l a b : Int) (s : List UInt8) (a' b' : Int) (s' : List UInt8) : St := [.cells [.int .i64 3, .int .i64 r, .int .i64 c, .int .i64 m, .int .i64 h, .int .u64 l, .int .i64 a, .int .i64 b, .str s, .int .i64 a', .int .i64 b', .str s', .ptr none]]
def kO : List Keep := [.yes, .yes, .no, .no, .no, .no, .yes, .yes]
def tO (u d : Int) (i : Nat) : List AV := [.int .i64 u, .int .i64 d, .any, .any, .any, .any, .ptr (some (0, 0)), .int .i64 (i : Int)] ++ padAny 69
theorem over_b (u d : Int) (G : LoopS) (K : AV → St → Prop) : bodyK Try.prog prQ2 (addL 0 (headG 0 kO G) noL) 100 7 [] [.int .i64 u, .int .i64 d] [] K  =
  br (decide (u < (0 : Int)))
    (K (AV.bool true) [])
    (br (decide (u > (30 : Int)))
      (K (AV.bool true) [])
      (br (decide (d < (0 : Int)))
        (K (AV.bool true) [])
        (br (decide (d > (30 : Int)))
          (K (AV.bool true) [])
          (G (([AV.int IntKind.i64 u, AV.int IntKind.i64 d, .any, .any, .any, .any, AV.ptr (some ((0 : Nat), (0 : Nat))), AV.int IntKind.i64 (0 : Int)] ++ padAny 69)) ([Ent.cells [AV.int IntKind.i64 (3 : Int), AV.int IntKind.i64 (0 : Int), AV.int IntKind.i64 (0 : Int), AV.int IntKind.i64 (0 : Int), AV.int IntKind.i64 (0 : Int), AV.int IntKind.u64 (0 : Int), AV.int IntKind.i64 (0 : Int), AV.int IntKind.i64 (0 : Int), AV.str [], AV.int IntKind.i64 (0 : Int), AV.int IntKind.i64 (0 : Int), AV.str [], AV.ptr none]]) (contB Try.prog prQ2 (addL 0 (headG 0 kO G) noL) 100 7 [] [] 0 K))))) := by kernel_rfl
def bS (i : Int) (h l : Int) : St := aS i i i h l 1 9223372036854775807 [] 1 9223372036854775807 []
theorem over_r0 (u d : Int) (more : List AV → St → Prop) (kk : KS) : roundK Try.prog prQ2 noL 100 7 0 (tO u d 0) (aS 0 0 0 0 0 0 0 [] 0 0 []) (againK 0 0 kO kO more kk) =
  br (decide ((0 : Int) < u))
    (more ([AV.int IntKind.i64 u, AV.int IntKind.i64 d, .any, .any, .any, .any, AV.ptr (some ((0 : Nat), (0 : Nat))), AV.int IntKind.i64 (1 : Int)] ++ padAny 69) [Ent.cells [AV.int IntKind.i64 (3 : Int), AV.int IntKind.i64 (1 : Int), AV.int IntKind.i64 (1 : Int), AV.int IntKind.i64 (1 : Int), AV.int IntKind.i64 (0 : Int), AV.int IntKind.u64 (9223372036854775807 : Int), AV.int IntKind.i64 (1 : Int), AV.int IntKind.i64 (9223372036854775807 : Int), AV.str [], AV.int IntKind.i64 (1 : Int), AV.int IntKind.i64 (9223372036854775807 : Int), AV.str [], AV.ptr none]])
    (kk Ex.normal ([AV.int IntKind.i64 u, AV.int IntKind.i64 d, .any, .any, .any, .any, AV.ptr (some ((0 : Nat), (0 : Nat))), AV.int IntKind.i64 (0 : Int)] ++ padAny 69) [Ent.cells [AV.int IntKind.i64 (3 : Int), AV.int IntKind.i64 (0 : Int), AV.int IntKind.i64 (0 : Int), AV.int IntKind.i64 (0 : Int), AV.int IntKind.i64 (0 : Int), AV.int IntKind.u64 (0 : Int), AV.int IntKind.i64 (0 : Int), AV.int IntKind.i64 (0 : Int), AV.str [], AV.int IntKind.i64 (0 : Int), AV.int IntKind.i64 (0 : Int), AV.str [], AV.ptr none]]) := by kernel_rfl
theorem over_r1 (u d : Int) (i : Nat) (c h l : Int) (more : List AV → St → Prop) (kk : KS) : roundK Try.prog prQ2 noL 100 7 0 (tO u d i) (bS c h l) (againK 0 0 kO kO more kk) =
  br (decide ((↑i : Int) < u))
    (br (decide (c = (0 : Int)))
      (br (decide (c = (0 : Int)))
        (br (inW h l && true)
          (more ([AV.int IntKind.i64 u, AV.int IntKind.i64 d, .any, .any, .any, .any, AV.ptr (some ((0 : Nat), (0 : Nat))), AV.int IntKind.i64 (IntKind.i64.wrap ((↑i : Int) + (1 : Int)))] ++ padAny 69) [Ent.cells [AV.int IntKind.i64 (3 : Int), AV.int IntKind.i64 (IntKind.i64.wrap (c + (1 : Int))), AV.int IntKind.i64 (IntKind.i64.wrap (c + (1 : Int))), AV.int IntKind.i64 (IntKind.i64.wrap (c + (1 : Int))), AV.int IntKind.i64 (wH (wV h l + (9223372036854775807 : Int))), AV.int IntKind.u64 (wL (wV h l + (9223372036854775807 : Int))), AV.int IntKind.i64 (1 : Int), AV.int IntKind.i64 (9223372036854775807 : Int), AV.str [], AV.int IntKind.i64 (1 : Int), AV.int IntKind.i64 (9223372036854775807 : Int), AV.str [], AV.ptr none]])
          (False))
        (br (inW h l && true)
          (more ([AV.int IntKind.i64 u, AV.int IntKind.i64 d, .any, .any, .any, .any, AV.ptr (some ((0 : Nat), (0 : Nat))), AV.int IntKind.i64 (IntKind.i64.wrap ((↑i : Int) + (1 : Int)))] ++ padAny 69) [Ent.cells [AV.int IntKind.i64 (3 : Int), AV.int IntKind.i64 (IntKind.i64.wrap (c + (1 : Int))), AV.int IntKind.i64 (IntKind.i64.wrap (c + (1 : Int))), AV.int IntKind.i64 (IntKind.i64.wrap (c + (1 : Int))), AV.int IntKind.i64 (wH (wV h l + (9223372036854775807 : Int))), AV.int IntKind.u64 (wL (wV h l + (9223372036854775807 : Int))), AV.int IntKind.i64 (1 : Int), AV.int IntKind.i64 (9223372036854775807 : Int), AV.str [], AV.int IntKind.i64 (1 : Int), AV.int IntKind.i64 (9223372036854775807 : Int), AV.str [], AV.ptr none]])
          (False)))
      (br (decide (c = (0 : Int)))
        (br (inW h l && true)
          (more ([AV.int IntKind.i64 u, AV.int IntKind.i64 d, .any, .any, .any, .any, AV.ptr (some ((0 : Nat), (0 : Nat))), AV.int IntKind.i64 (IntKind.i64.wrap ((↑i : Int) + (1 : Int)))] ++ padAny 69) [Ent.cells [AV.int IntKind.i64 (3 : Int), AV.int IntKind.i64 (IntKind.i64.wrap (c + (1 : Int))), AV.int IntKind.i64 (IntKind.i64.wrap (c + (1 : Int))), AV.int IntKind.i64 (IntKind.i64.wrap (c + (1 : Int))), AV.int IntKind.i64 (wH (wV h l + (9223372036854775807 : Int))), AV.int IntKind.u64 (wL (wV h l + (9223372036854775807 : Int))), AV.int IntKind.i64 (1 : Int), AV.int IntKind.i64 (9223372036854775807 : Int), AV.str [], AV.int IntKind.i64 (1 : Int), AV.int IntKind.i64 (9223372036854775807 : Int), AV.str [], AV.ptr none]])
          (False))
        (br (inW h l && true)
          (more ([AV.int IntKind.i64 u, AV.int IntKind.i64 d, .any, .any, .any, .any, AV.ptr (some ((0 : Nat), (0 : Nat))), AV.int IntKind.i64 (IntKind.i64.wrap ((↑i : Int) + (1 : Int)))] ++ padAny 69) [Ent.cells [AV.int IntKind.i64 (3 : Int), AV.int IntKind.i64 (IntKind.i64.wrap (c + (1 : Int))), AV.int IntKind.i64 (IntKind.i64.wrap (c + (1 : Int))), AV.int IntKind.i64 (IntKind.i64.wrap (c + (1 : Int))), AV.int IntKind.i64 (wH (wV h l + (9223372036854775807 : Int))), AV.int IntKind.u64 (wL (wV h l + (9223372036854775807 : Int))), AV.int IntKind.i64 (1 : Int), AV.int IntKind.i64 (9223372036854775807 : Int), AV.str [], AV.int IntKind.i64 (1 : Int), AV.int IntKind.i64 (9223372036854775807 : Int), AV.str [], AV.ptr none]])
          (False))))
    (kk Ex.normal ([AV.int IntKind.i64 u, AV.int IntKind.i64 d, .any, .any, .any, .any, AV.ptr (some ((0 : Nat), (0 : Nat))), AV.int IntKind.i64 (↑i : Int)] ++ padAny 69) [Ent.cells [AV.int IntKind.i64 (3 : Int), AV.int IntKind.i64 c, AV.int IntKind.i64 c, AV.int IntKind.i64 c, AV.int IntKind.i64 h, AV.int IntKind.u64 l, AV.int IntKind.i64 (1 : Int), AV.int IntKind.i64 (9223372036854775807 : Int), AV.str [], AV.int IntKind.i64 (1 : Int), AV.int IntKind.i64 (9223372036854775807 : Int), AV.str [], AV.ptr none]]) := by kernel_rfl
theorem over_e0 (u d : Int) (G : LoopS) (K : AV → St → Prop) : contB Try.prog prQ2 (addL 0 (headG 0 kO G) noL) 100 7 [] [] 0 K .normal (tO u d 0) (aS 0 0 0 0 0 0 0 [] 0 0 []) =
  br (decide (d < (1 : Int)))
    (br (decide (IntKind.i64.wrap (u - d) < (-1 : Int)))
      (K (AV.bool false) [])
      (br (decide (IntKind.i64.wrap (u - d) > (1 : Int)))
        (K (AV.bool false) [])
        (br (decide (IntKind.i64.wrap (u + d) = (0 : Int)))
          (K (AV.bool true) [])
          (K (AV.bool (decide ((0 : Int) = IntKind.i64.wrap (IntKind.i64.wrap (u - d) * (9223372036854775807 : Int))))) []))))
    (br (inI d)
      (br (inW (wH ((-9223372036854775807 : Int) * d)) (wL ((-9223372036854775807 : Int) * d)))
        (br (decide (IntKind.i64.wrap ((0 : Int) + d) = (0 : Int)))
          (br (decide (IntKind.i64.wrap (u - d) < (-1 : Int)))
            (K (AV.bool false) [])
            (br (decide (IntKind.i64.wrap (u - d) > (1 : Int)))
              (K (AV.bool false) [])
              (br (decide (IntKind.i64.wrap (u + d) = (0 : Int)))
                (K (AV.bool true) [])
                (K (AV.bool (decide ((0 : Int) = IntKind.i64.wrap (IntKind.i64.wrap (u - d) * (9223372036854775807 : Int))))) []))))
          (br (inW (wH ((0 : Int) + wV (wH ((-9223372036854775807 : Int) * d)) (wL ((-9223372036854775807 : Int) * d)))) (wL ((0 : Int) + wV (wH ((-9223372036854775807 : Int) * d)) (wL ((-9223372036854775807 : Int) * d)))))
            (br (!inI (wV (wH ((0 : Int) + wV (wH ((-9223372036854775807 : Int) * d)) (wL ((-9223372036854775807 : Int) * d)))) (wL ((0 : Int) + wV (wH ((-9223372036854775807 : Int) * d)) (wL ((-9223372036854775807 : Int) * d))))))
              (br (decide (IntKind.i64.wrap (u - d) < (-1 : Int)))
                (K (AV.bool true) [])
                (br (decide (IntKind.i64.wrap (u - d) > (1 : Int)))
                  (K (AV.bool true) [])
                  (br (decide (IntKind.i64.wrap (u + d) = (0 : Int)))
                    (K (AV.bool false) [])
                    (K (AV.bool false) []))))
              (br (decide (IntKind.i64.wrap (u - d) < (-1 : Int)))
                (K (AV.bool false) [])
                (br (decide (IntKind.i64.wrap (u - d) > (1 : Int)))
                  (K (AV.bool false) [])
                  (br (decide (IntKind.i64.wrap (u + d) = (0 : Int)))
                    (K (AV.bool false) [])
                    (K (AV.bool (decide (numOf (wV (wH ((0 : Int) + wV (wH ((-9223372036854775807 : Int) * d)) (wL ((-9223372036854775807 : Int) * d)))) (wL ((0 : Int) + wV (wH ((-9223372036854775807 : Int) * d)) (wL ((-9223372036854775807 : Int) * d))))) = IntKind.i64.wrap (IntKind.i64.wrap (u - d) * (9223372036854775807 : Int))))) [])))))
            (False)))
        (False))
      (False)) := by kernel_rfl
theorem over_e1 (u d : Int) (i : Nat) (c h l : Int) (G : LoopS) (K : AV → St → Prop) : contB Try.prog prQ2 (addL 0 (headG 0 kO G) noL) 100 7 [] [] 0 K .normal (tO u d i) (bS c h l) =
  br (decide (d < (1 : Int)))
    (br (decide (c = (0 : Int)))
      (br (decide (IntKind.i64.wrap (u - d) < (-1 : Int)))
        (K (AV.bool false) [])
        (br (decide (IntKind.i64.wrap (u - d) > (1 : Int)))
          (K (AV.bool false) [])
          (br (decide (IntKind.i64.wrap (u + d) = (0 : Int)))
            (K (AV.bool true) [])
            (K (AV.bool (decide ((0 : Int) = IntKind.i64.wrap (IntKind.i64.wrap (u - d) * (9223372036854775807 : Int))))) []))))
      (br (inW h l)
        (br (!inI (wV h l))
          (br (decide (IntKind.i64.wrap (u - d) < (-1 : Int)))
            (K (AV.bool true) [])
            (br (decide (IntKind.i64.wrap (u - d) > (1 : Int)))
              (K (AV.bool true) [])
              (br (decide (IntKind.i64.wrap (u + d) = (0 : Int)))
                (K (AV.bool false) [])
                (K (AV.bool false) []))))
          (br (decide (IntKind.i64.wrap (u - d) < (-1 : Int)))
            (K (AV.bool false) [])
            (br (decide (IntKind.i64.wrap (u - d) > (1 : Int)))
              (K (AV.bool false) [])
              (br (decide (IntKind.i64.wrap (u + d) = (0 : Int)))
                (K (AV.bool false) [])
                (K (AV.bool (decide (numOf (wV h l) = IntKind.i64.wrap (IntKind.i64.wrap (u - d) * (9223372036854775807 : Int))))) [])))))
        (False)))
    (br (decide (c = (0 : Int)))
      (br (decide (c = (0 : Int)))
        (br (inI d)
          (br (inW h l && inW (wH ((-9223372036854775807 : Int) * d)) (wL ((-9223372036854775807 : Int) * d)))
            (br (decide (IntKind.i64.wrap (c + d) = (0 : Int)))
              (br (decide (IntKind.i64.wrap (u - d) < (-1 : Int)))
                (K (AV.bool false) [])
                (br (decide (IntKind.i64.wrap (u - d) > (1 : Int)))
                  (K (AV.bool false) [])
                  (br (decide (IntKind.i64.wrap (u + d) = (0 : Int)))
                    (K (AV.bool true) [])
                    (K (AV.bool (decide ((0 : Int) = IntKind.i64.wrap (IntKind.i64.wrap (u - d) * (9223372036854775807 : Int))))) []))))
              (br (inW (wH (wV h l + wV (wH ((-9223372036854775807 : Int) * d)) (wL ((-9223372036854775807 : Int) * d)))) (wL (wV h l + wV (wH ((-9223372036854775807 : Int) * d)) (wL ((-9223372036854775807 : Int) * d)))))
                (br (!inI (wV (wH (wV h l + wV (wH ((-9223372036854775807 : Int) * d)) (wL ((-9223372036854775807 : Int) * d)))) (wL (wV h l + wV (wH ((-9223372036854775807 : Int) * d)) (wL ((-9223372036854775807 : Int) * d))))))
                  (br (decide (IntKind.i64.wrap (u - d) < (-1 : Int)))
                    (K (AV.bool true) [])
                    (br (decide (IntKind.i64.wrap (u - d) > (1 : Int)))
                      (K (AV.bool true) [])
                      (br (decide (IntKind.i64.wrap (u + d) = (0 : Int)))
                        (K (AV.bool false) [])
                        (K (AV.bool false) []))))
                  (br (decide (IntKind.i64.wrap (u - d) < (-1 : Int)))
                    (K (AV.bool false) [])
                    (br (decide (IntKind.i64.wrap (u - d) > (1 : Int)))
                      (K (AV.bool false) [])
                      (br (decide (IntKind.i64.wrap (u + d) = (0 : Int)))
                        (K (AV.bool false) [])
                        (K (AV.bool (decide (numOf (wV (wH (wV h l + wV (wH ((-9223372036854775807 : Int) * d)) (wL ((-9223372036854775807 : Int) * d)))) (wL (wV h l + wV (wH ((-9223372036854775807 : Int) * d)) (wL ((-9223372036854775807 : Int) * d))))) = IntKind.i64.wrap (IntKind.i64.wrap (u - d) * (9223372036854775807 : Int))))) [])))))
                (False)))
            (False))
          (False))
        (br (inI d)
          (br (inW h l && inW (wH ((-9223372036854775807 : Int) * d)) (wL ((-9223372036854775807 : Int) * d)))
            (br (decide (IntKind.i64.wrap (c + d) = (0 : Int)))
              (br (decide (IntKind.i64.wrap (u - d) < (-1 : Int)))
                (K (AV.bool false) [])
                (br (decide (IntKind.i64.wrap (u - d) > (1 : Int)))
                  (K (AV.bool false) [])
                  (br (decide (IntKind.i64.wrap (u + d) = (0 : Int)))
                    (K (AV.bool true) [])
                    (K (AV.bool (decide ((0 : Int) = IntKind.i64.wrap (IntKind.i64.wrap (u - d) * (9223372036854775807 : Int))))) []))))
              (br (inW (wH (wV h l + wV (wH ((-9223372036854775807 : Int) * d)) (wL ((-9223372036854775807 : Int) * d)))) (wL (wV h l + wV (wH ((-9223372036854775807 : Int) * d)) (wL ((-9223372036854775807 : Int) * d)))))
                (br (!inI (wV (wH (wV h l + wV (wH ((-9223372036854775807 : Int) * d)) (wL ((-9223372036854775807 : Int) * d)))) (wL (wV h l + wV (wH ((-9223372036854775807 : Int) * d)) (wL ((-9223372036854775807 : Int) * d))))))
                  (br (decide (IntKind.i64.wrap (u - d) < (-1 : Int)))
                    (K (AV.bool true) [])
                    (br (decide (IntKind.i64.wrap (u - d) > (1 : Int)))
                      (K (AV.bool true) [])
                      (br (decide (IntKind.i64.wrap (u + d) = (0 : Int)))
                        (K (AV.bool false) [])
                        (K (AV.bool false) []))))
                  (br (decide (IntKind.i64.wrap (u - d) < (-1 : Int)))
                    (K (AV.bool false) [])
                    (br (decide (IntKind.i64.wrap (u - d) > (1 : Int)))
                      (K (AV.bool false) [])
                      (br (decide (IntKind.i64.wrap (u + d) = (0 : Int)))
                        (K (AV.bool false) [])
                        (K (AV.bool (decide (numOf (wV (wH (wV h l + wV (wH ((-9223372036854775807 : Int) * d)) (wL ((-9223372036854775807 : Int) * d)))) (wL (wV h l + wV (wH ((-9223372036854775807 : Int) * d)) (wL ((-9223372036854775807 : Int) * d))))) = IntKind.i64.wrap (IntKind.i64.wrap (u - d) * (9223372036854775807 : Int))))) [])))))
                (False)))
            (False))
          (False)))
      (br (decide (c = (0 : Int)))
        (br (inI d)
          (br (inW h l && inW (wH ((-9223372036854775807 : Int) * d)) (wL ((-9223372036854775807 : Int) * d)))
            (br (decide (IntKind.i64.wrap (c + d) = (0 : Int)))
              (br (decide (IntKind.i64.wrap (u - d) < (-1 : Int)))
                (K (AV.bool false) [])
                (br (decide (IntKind.i64.wrap (u - d) > (1 : Int)))
                  (K (AV.bool false) [])
                  (br (decide (IntKind.i64.wrap (u + d) = (0 : Int)))
                    (K (AV.bool true) [])
                    (K (AV.bool (decide ((0 : Int) = IntKind.i64.wrap (IntKind.i64.wrap (u - d) * (9223372036854775807 : Int))))) []))))
              (br (inW (wH (wV h l + wV (wH ((-9223372036854775807 : Int) * d)) (wL ((-9223372036854775807 : Int) * d)))) (wL (wV h l + wV (wH ((-9223372036854775807 : Int) * d)) (wL ((-9223372036854775807 : Int) * d)))))
                (br (!inI (wV (wH (wV h l + wV (wH ((-9223372036854775807 : Int) * d)) (wL ((-9223372036854775807 : Int) * d)))) (wL (wV h l + wV (wH ((-9223372036854775807 : Int) * d)) (wL ((-9223372036854775807 : Int) * d))))))
                  (br (decide (IntKind.i64.wrap (u - d) < (-1 : Int)))
                    (K (AV.bool true) [])
                    (br (decide (IntKind.i64.wrap (u - d) > (1 : Int)))
                      (K (AV.bool true) [])
                      (br (decide (IntKind.i64.wrap (u + d) = (0 : Int)))
                        (K (AV.bool false) [])
                        (K (AV.bool false) []))))
                  (br (decide (IntKind.i64.wrap (u - d) < (-1 : Int)))
                    (K (AV.bool false) [])
                    (br (decide (IntKind.i64.wrap (u - d) > (1 : Int)))
                      (K (AV.bool false) [])
                      (br (decide (IntKind.i64.wrap (u + d) = (0 : Int)))
                        (K (AV.bool false) [])
                        (K (AV.bool (decide (numOf (wV (wH (wV h l + wV (wH ((-9223372036854775807 : Int) * d)) (wL ((-9223372036854775807 : Int) * d)))) (wL (wV h l + wV (wH ((-9223372036854775807 : Int) * d)) (wL ((-9223372036854775807 : Int) * d))))) = IntKind.i64.wrap (IntKind.i64.wrap (u - d) * (9223372036854775807 : Int))))) [])))))
                (False)))
            (False))
          (False))
        (br (inI d)
          (br (inW h l && inW (wH ((-9223372036854775807 : Int) * d)) (wL ((-9223372036854775807 : Int) * d)))
            (br (decide (IntKind.i64.wrap (c + d) = (0 : Int)))
              (br (decide (IntKind.i64.wrap (u - d) < (-1 : Int)))
                (K (AV.bool false) [])
                (br (decide (IntKind.i64.wrap (u - d) > (1 : Int)))
                  (K (AV.bool false) [])
                  (br (decide (IntKind.i64.wrap (u + d) = (0 : Int)))
                    (K (AV.bool true) [])
                    (K (AV.bool (decide ((0 : Int) = IntKind.i64.wrap (IntKind.i64.wrap (u - d) * (9223372036854775807 : Int))))) []))))
              (br (inW (wH (wV h l + wV (wH ((-9223372036854775807 : Int) * d)) (wL ((-9223372036854775807 : Int) * d)))) (wL (wV h l + wV (wH ((-9223372036854775807 : Int) * d)) (wL ((-9223372036854775807 : Int) * d)))))
                (br (!inI (wV (wH (wV h l + wV (wH ((-9223372036854775807 : Int) * d)) (wL ((-9223372036854775807 : Int) * d)))) (wL (wV h l + wV (wH ((-9223372036854775807 : Int) * d)) (wL ((-9223372036854775807 : Int) * d))))))
                  (br (decide (IntKind.i64.wrap (u - d) < (-1 : Int)))
                    (K (AV.bool true) [])
                    (br (decide (IntKind.i64.wrap (u - d) > (1 : Int)))
                      (K (AV.bool true) [])
                      (br (decide (IntKind.i64.wrap (u + d) = (0 : Int)))
                        (K (AV.bool false) [])
                        (K (AV.bool false) []))))
                  (br (decide (IntKind.i64.wrap (u - d) < (-1 : Int)))
                    (K (AV.bool false) [])
                    (br (decide (IntKind.i64.wrap (u - d) > (1 : Int)))
                      (K (AV.bool false) [])
                      (br (decide (IntKind.i64.wrap (u + d) = (0 : Int)))
                        (K (AV.bool false) [])
                        (K (AV.bool (decide (numOf (wV (wH (wV h l + wV (wH ((-9223372036854775807 : Int) * d)) (wL ((-9223372036854775807 : Int) * d)))) (wL (wV h l + wV (wH ((-9223372036854775807 : Int) * d)) (wL ((-9223372036854775807 : Int) * d))))) = IntKind.i64.wrap (IntKind.i64.wrap (u - d) * (9223372036854775807 : Int))))) [])))))
                (False)))
            (False))
          (False)))) := by kernel_rfl
theorem hS {x : Int} (h1 : -1000000000000000000000 ≤ x) (h2 : x ≤ 1000000000000000000000) : wV (wH x) (wL x) = x := by rw [wV_HL, w128_id (by omega) (by omega)]
theorem tail1 {K : AV → St → Prop} (hK : K (.bool true) []) {u d x : Int} (hx : x = (u - d) * 9223372036854775807) (hu : 0 ≤ u ∧ u ≤ 30) (hd : 0 ≤ d ∧ d ≤ 30) (hz : 0 < u + d) :
    br (!inI x)
      (br (decide (IntKind.i64.wrap (u - d) < (-1 : Int))) (K (.bool true) []) (br (decide (IntKind.i64.wrap (u - d) > (1 : Int))) (K (.bool true) []) (br (decide (IntKind.i64.wrap (u + d) = (0 : Int))) (K (.bool false) []) (K (.bool false) []))))
      (br (decide (IntKind.i64.wrap (u - d) < (-1 : Int))) (K (.bool false) []) (br (decide (IntKind.i64.wrap (u - d) > (1 : Int))) (K (.bool false) []) (br (decide (IntKind.i64.wrap (u + d) = (0 : Int))) (K (.bool false) [])
        (K (.bool (decide (numOf x = IntKind.i64.wrap (IntKind.i64.wrap (u - d) * (9223372036854775807 : Int))))) [])))) := by
  rw [wrap64 (x := u - d) (by omega) (by omega), wrap64 (x := u + d) (by omega) (by omega)]
  refine br_mk (fun h => ?_) (fun h => ?_)
  · rw [Bool.not_eq_true'] at h
    have h' : ¬ (-9223372036854775808 ≤ x ∧ x ≤ 9223372036854775807) := fun k => by rw [inI_iff.2 k] at h; cases h
    refine br_iff.2 ⟨fun _ => hK, fun h1 => br_iff.2 ⟨fun _ => hK, fun h2 => ?_⟩⟩
    omega
  · rw [Bool.not_eq_false'] at h
    have h' := inI_iff.1 h
    refine br_iff.2 ⟨fun h1 => ?_, fun h1 => br_iff.2 ⟨fun h2 => ?_, fun h2 => br_iff.2 ⟨fun h3 => ?_, fun h3 => ?_⟩⟩⟩
    · omega
    · omega
    · omega
    · rw [wrap64 (by omega) (by omega)]
      have : numOf x = x := by unfold numOf; rw [if_pos h]
      rw [this, decide_eq_true hx]
      exact hK
def MO (u d : Int) (z : Nat) (t : List AV) (s : St) (kk : KS) : Prop := ∃ i : Nat, (z : Int) + i = u ∧ t = tO u d i ∧
  ((i = 0 ∧ s = aS 0 0 0 0 0 0 0 [] 0 0 []) ∨ (0 < i ∧ s = bS i (wH ((i : Int) * 9223372036854775807)) (wL ((i : Int) * 9223372036854775807)))) ∧
  (u = 0 → kk .normal (tO u d 0) (aS 0 0 0 0 0 0 0 [] 0 0 [])) ∧ (0 < u → kk .normal (tO u d u.toNat) (bS u (wH (u * 9223372036854775807)) (wL (u * 9223372036854775807))))
theorem over_step (u d : Int) (hu : 0 ≤ u ∧ u ≤ 30) : ∀ z t s kk, MO u d z t s kk → roundK Try.prog prQ2 noL 100 7 0 t s (againK 0 0 kO kO (fun t' s' => ∃ z', z' < z ∧ MO u d z' t' s' kk) kk) := by
  rintro z t s kk ⟨i, hz, rfl, ⟨rfl, rfl⟩ | ⟨hi, rfl⟩, hk0, hk1⟩
  · rw [over_r0]
    have e1 : wH (((1 : Nat) : Int) * 9223372036854775807) = 0 := by simp only [wH, w128]; omega
    have e2 : wL (((1 : Nat) : Int) * 9223372036854775807) = 9223372036854775807 := by simp only [wL, w128]; omega
    refine br_iff.2 ⟨fun h1 => ⟨z - 1, by omega, 1, by omega, rfl, .inr ⟨by omega, by rw [e1, e2]; simp [bS, aS]⟩, hk0, hk1⟩, fun h1 => hk0 (by omega)⟩
  · rw [over_r1]
    have hi0 : ¬ ((i : Int) = 0) := by omega
    refine br_iff.2 ⟨fun h1 => br_iff.2 ⟨fun h => absurd h hi0, fun _ => br_iff.2 ⟨fun h => absurd h hi0, fun _ => br_t (by rw [Bool.and_true]; exact inW_HL _) ?_⟩⟩, fun h1 => ?_⟩
    · rw [wrap64 (by omega) (by omega), hS (by omega) (by omega)]
      refine ⟨z - 1, by omega, i + 1, by omega, rfl, .inr ⟨by omega, ?_⟩, hk0, hk1⟩
      rw [show (((i + 1 : Nat) : Int) * 9223372036854775807) = (i : Int) * 9223372036854775807 + 9223372036854775807 by omega]
      rfl
    · have e : u = i := by omega
      subst e
      exact hk1 (by omega)
theorem aggOver_comes (u d : Int) : Sy.Comes Try.prog 7 [.int .i64 u, .int .i64 d] [] (.bool true) [] := by
  have hd : distinctOk Try.prog 7 = true := by kernel_rfl
  have go : ∀ G : LoopS, (¬ u < 0 → ¬ u > 30 → ¬ d < 0 → ¬ d > 30 → G (tO u d 0) (aS 0 0 0 0 0 0 0 [] 0 0 []) (contB Try.prog prQ2 (addL 0 (headG 0 kO G) noL) 100 7 [] [] 0 fun v1 s1 => v1 = .bool true ∧ s1 = [])) →
      bodyK Try.prog prQ2 (addL 0 (headG 0 kO G) noL) 100 7 [] [.int .i64 u, .int .i64 d] [] fun v1 s1 => v1 = .bool true ∧ s1 = [] := fun G h => by
    refine Eq.mpr (over_b u d G _) ?_
    exact br_iff.2 ⟨fun _ => ⟨rfl, rfl⟩, fun h1 => br_iff.2 ⟨fun _ => ⟨rfl, rfl⟩, fun h2 => br_iff.2 ⟨fun _ => ⟨rfl, rfl⟩, fun h3 => br_iff.2 ⟨fun _ => ⟨rfl, rfl⟩, fun h4 => h h1 h2 h3 h4⟩⟩⟩⟩
  by_cases hg : (0 ≤ u ∧ u ≤ 30) ∧ (0 ≤ d ∧ d ≤ 30)
  · obtain ⟨g1, g2⟩ := hg
    refine comes_of ok prQ2_ok (L := 100) (ms := []) hd (loops_add (L := 100) (kh := kO) ok prQ2_ok hd loops_none (over_step u d g1)) ?_
    refine go _ fun _ _ _ _ => ⟨u.toNat, 0, by omega, rfl, .inl ⟨rfl, rfl⟩, fun hu => ?_, fun hu => ?_⟩
    · subst hu
      rw [over_e0]
      refine br_iff.2 ⟨fun h => ?_, fun h => ?_⟩
      · have e : d = 0 := by omega
        subst e
        exact br_iff.2 ⟨fun h => absurd h (by decide), fun _ => br_iff.2 ⟨fun h => absurd h (by decide), fun _ => br_iff.2 ⟨fun _ => ⟨rfl, rfl⟩, fun h => absurd rfl h⟩⟩⟩
      · refine br_t (inI_iff.2 (by omega)) (br_t (inW_HL _) ?_)
        rw [hS (x := -9223372036854775807 * d) (by omega) (by omega)]
        rw [wrap64 (x := 0 + d) (by omega) (by omega)]
        refine br_iff.2 ⟨fun h => by omega, fun _ => br_t (inW_HL _) ?_⟩
        rw [hS (x := 0 + -9223372036854775807 * d) (by omega) (by omega)]
        have := tail1 (K := fun v1 s1 => v1 = .bool true ∧ s1 = []) ⟨rfl, rfl⟩ (u := 0) (d := d) (x := 0 + -9223372036854775807 * d) (by omega) g1 g2 (by omega)
        rw [wrap64 (x := 0 + d) (by omega) (by omega)] at this
        exact this
    · rw [over_e1]
      have hu0 : ¬ (u = 0) := by omega
      refine br_iff.2 ⟨fun h => ?_, fun h => ?_⟩
      · have e : d = 0 := by omega
        subst e
        refine br_iff.2 ⟨fun h => absurd h hu0, fun _ => br_t (inW_HL _) ?_⟩
        rw [hS (by omega) (by omega)]
        exact tail1 (K := fun v1 s1 => v1 = .bool true ∧ s1 = []) ⟨rfl, rfl⟩ (x := u * 9223372036854775807) (by omega) g1 g2 (by omega)
      · refine br_iff.2 ⟨fun h => absurd h hu0, fun _ => br_iff.2 ⟨fun h => absurd h hu0, fun _ => ?_⟩⟩
        refine br_t (inI_iff.2 (by omega)) (br_t (by rw [Bool.and_eq_true]; exact ⟨inW_HL _, inW_HL _⟩) ?_)
        rw [hS (x := -9223372036854775807 * d) (by omega) (by omega), hS (x := u * 9223372036854775807) (by omega) (by omega)]
        rw [wrap64 (x := u + d) (by omega) (by omega)]
        refine br_iff.2 ⟨fun h => by omega, fun _ => br_t (inW_HL _) ?_⟩
        rw [hS (by omega) (by omega)]
        have := tail1 (K := fun v1 s1 => v1 = .bool true ∧ s1 = []) ⟨rfl, rfl⟩ (x := u * 9223372036854775807 + -9223372036854775807 * d) (by omega) g1 g2 (by omega)
        rw [wrap64 (x := u + d) (by omega) (by omega)] at this
        exact this
  · refine comes_of ok prQ2_ok (L := 100) (ms := []) hd (loops_add (id := 0) (L := 100) (kh := kO) (kx := kO) (ks := kO) (M := fun _ _ _ _ => False) ok prQ2_ok hd loops_none (fun _ _ _ _ h => h.elim)) ?_
    exact go _ fun h1 h2 h3 h4 => absurd ⟨by omega, by omega⟩ hg
end Go.Proofs.Ytcbojoeijpeadaa
