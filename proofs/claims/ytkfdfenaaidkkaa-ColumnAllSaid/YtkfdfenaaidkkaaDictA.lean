/- Walks: values, in part; DictAll. -/
import Derived.Test.YtkfdfenaaidkkaaDictV
import Derived.Test.YtkfdfenaaidkkaaPvQ
import Derived.KernelRfl
set_option linter.unusedSimpArgs false
set_option linter.unusedVariables false
set_option maxRecDepth 100000
namespace Go.Proofs.Ytkfdfenaaidkkaa
open Go Go.Sy
attribute [local irreducible] bodyK roundK
/- ### Cut -/
theorem cut_body (c : List UInt8) (n : Int) (k : AV → St → Prop) : bodyK Try.prog noP noL 100 11 [] [.str c, .int .i64 n] [] k =
  br (decide ((↑c.length : Int) > n))
    (br (decide ((0 : Int) ≤ n) && decide (n ≤ (↑c.length : Int)) && true)
      (k (AV.str (List.drop (0 : Nat) (List.take n.toNat c))) [])
      (False))
    (k (AV.str c) []) := by kernel_rfl
theorem cut_ok : SpecOk Try.prog 11 cutF.f := specOk_comes fun args s v s' tch e => by
  simp only [cutF] at e
  split at e
  · rename_i c n
    obtain ⟨hg, rfl, rfl, rfl⟩ := run_ok e
    have hg := of_decide_eq_true hg
    refine comes_of ok prOk_none (L := 100) (ms := []) (by kernel_rfl) loops_none ?_
    rw [cut_body]
    refine br_iff.2 ⟨fun h => br_t (by simp; omega) ⟨by simp [cutS, h], rfl⟩, fun h => ⟨by simp [cutS, h], rfl⟩⟩
  · cases e

/- ### Compare -/
theorem rcmp_body (a b : Int) (c : List UInt8) (a' b' : Int) (c' : List UInt8) (k : AV → St → Prop) : bodyK Try.prog noP noL 100 47 [] [.agg [.int .i64 a, .int .i64 b, .str c], .agg [.int .i64 a', .int .i64 b', .str c']] [] k =
  br (decide (a < a'))
    (br (decide (a < a'))
      (k (AV.int IntKind.i64 (-1 : Int)) [])
      (br (decide (a = a'))
        (br (decide (b = b'))
          (br (eqBytes c c')
            (k (AV.int IntKind.i64 (0 : Int)) [])
            (k (AV.int IntKind.i64 (1 : Int)) []))
          (k (AV.int IntKind.i64 (1 : Int)) []))
        (k (AV.int IntKind.i64 (1 : Int)) [])))
    (br (decide (a = a'))
      (br (decide (b < b'))
        (br (decide (b < b'))
          (k (AV.int IntKind.i64 (-1 : Int)) [])
          (br (decide (a = a'))
            (br (decide (b = b'))
              (br (eqBytes c c')
                (k (AV.int IntKind.i64 (0 : Int)) [])
                (k (AV.int IntKind.i64 (1 : Int)) []))
              (k (AV.int IntKind.i64 (1 : Int)) []))
            (k (AV.int IntKind.i64 (1 : Int)) [])))
        (br (decide (a = a'))
          (br (decide (b = b'))
            (br (ltBytes c c')
              (k (AV.int IntKind.i64 (-1 : Int)) [])
              (br (decide (a = a'))
                (br (decide (b = b'))
                  (br (eqBytes c c')
                    (k (AV.int IntKind.i64 (0 : Int)) [])
                    (k (AV.int IntKind.i64 (1 : Int)) []))
                  (k (AV.int IntKind.i64 (1 : Int)) []))
                (k (AV.int IntKind.i64 (1 : Int)) [])))
            (br (decide (a = a'))
              (br (decide (b = b'))
                (br (eqBytes c c')
                  (k (AV.int IntKind.i64 (0 : Int)) [])
                  (k (AV.int IntKind.i64 (1 : Int)) []))
                (k (AV.int IntKind.i64 (1 : Int)) []))
              (k (AV.int IntKind.i64 (1 : Int)) [])))
          (br (decide (a = a'))
            (br (decide (b = b'))
              (br (eqBytes c c')
                (k (AV.int IntKind.i64 (0 : Int)) [])
                (k (AV.int IntKind.i64 (1 : Int)) []))
              (k (AV.int IntKind.i64 (1 : Int)) []))
            (k (AV.int IntKind.i64 (1 : Int)) []))))
      (br (decide (a = a'))
        (br (decide (b = b'))
          (br (ltBytes c c')
            (k (AV.int IntKind.i64 (-1 : Int)) [])
            (br (decide (a = a'))
              (br (decide (b = b'))
                (br (eqBytes c c')
                  (k (AV.int IntKind.i64 (0 : Int)) [])
                  (k (AV.int IntKind.i64 (1 : Int)) []))
                (k (AV.int IntKind.i64 (1 : Int)) []))
              (k (AV.int IntKind.i64 (1 : Int)) [])))
          (br (decide (a = a'))
            (br (decide (b = b'))
              (br (eqBytes c c')
                (k (AV.int IntKind.i64 (0 : Int)) [])
                (k (AV.int IntKind.i64 (1 : Int)) []))
              (k (AV.int IntKind.i64 (1 : Int)) []))
            (k (AV.int IntKind.i64 (1 : Int)) [])))
        (br (decide (a = a'))
          (br (decide (b = b'))
            (br (eqBytes c c')
              (k (AV.int IntKind.i64 (0 : Int)) [])
              (k (AV.int IntKind.i64 (1 : Int)) []))
            (k (AV.int IntKind.i64 (1 : Int)) []))
          (k (AV.int IntKind.i64 (1 : Int)) [])))) := by kernel_rfl
theorem rcmp_ok : SpecOk Try.prog 47 cmpF.f := specOk_comes fun args s v s' tch e => by
  simp only [cmpF] at e
  split at e
  · rename_i a b c a' b' c'
    obtain ⟨hg, rfl, rfl, rfl⟩ := run_ok e
    refine comes_of ok prOk_none (L := 100) (ms := []) (by kernel_rfl) loops_none ?_
    rw [rcmp_body]
    simp only [br_iff]
    simp only [cmp3]
    by_cases h1 : a < a' <;> by_cases h2 : a = a' <;> by_cases h3 : b < b' <;> by_cases h4 : b = b' <;> cases h5 : ltBytes c c' <;> cases h6 : eqBytes c c' <;> simp [h1, h2, h3, h4, h5, h6, br]
  · cases e

def prRT : FuncId → Option Sy.Spec := addP 47 cmpF noP
theorem rtest_body (op a b : Int) (c : List UInt8) (a' b' : Int) (c' : List UInt8) (k : AV → St → Prop) : bodyK Try.prog prRT noL 100 39 [] [.int .i64 op, avV a b c, avV a' b' c'] [] k =
  br (decide (op = (7 : Int)))
    (k (AV.bool (decide (a = (0 : Int)) == decide (op = (7 : Int)))) [])
    (br (decide (op = (8 : Int)))
      (k (AV.bool (decide (a = (0 : Int)) == decide (op = (7 : Int)))) [])
      (br (decide (a = (0 : Int)))
        (k (AV.bool false) [])
        (br (!decide (a = a'))
          (k (AV.bool false) [])
          (br (decide (op = (1 : Int)))
            (k (AV.bool (decide (cmp3 a b c a' b' c' = (0 : Int)))) [])
            (br (decide (op = (2 : Int)))
              (k (AV.bool !decide (cmp3 a b c a' b' c' = (0 : Int))) [])
              (br (decide (op = (3 : Int)))
                (k (AV.bool (decide (cmp3 a b c a' b' c' < (0 : Int)))) [])
                (br (decide (op = (4 : Int)))
                  (k (AV.bool (decide (cmp3 a b c a' b' c' ≤ (0 : Int)))) [])
                  (br (decide (op = (5 : Int)))
                    (k (AV.bool (decide (cmp3 a b c a' b' c' > (0 : Int)))) [])
                    (br (decide (op = (6 : Int)))
                      (k (AV.bool (decide (cmp3 a b c a' b' c' ≥ (0 : Int)))) [])
                      (k (AV.bool false) [])))))))))) := by kernel_rfl
theorem rtest_ok : SpecOk Try.prog 39 testF.f := specOk_comes fun args s v s' tch e => by
  simp only [testF] at e
  split at e
  · rename_i op a b c a' b' c'
    obtain ⟨hg, rfl, rfl, rfl⟩ := run_ok e
    refine comes_of ok (prOk_add rcmp_ok prOk_none) (L := 100) (ms := []) (by kernel_rfl) loops_none ?_
    refine Eq.mpr (rtest_body op a b c a' b' c' _) ?_
    by_cases h7 : op = 7
    · simp [testV, br, h7]
    by_cases h8 : op = 8
    · simp [testV, br, h8]
    by_cases h0 : a = 0
    · simp [testV, br, h7, h8, h0]
    by_cases ha : a = a'
    · subst ha
      by_cases h1 : op = 1
      · simp [testV, br, h0, h1]
      by_cases h2 : op = 2
      · simp [testV, br, h0, h2]
      by_cases h3 : op = 3
      · simp [testV, br, h0, h3]
      by_cases h4 : op = 4
      · simp [testV, br, h0, h4]
      by_cases h5 : op = 5
      · simp [testV, br, h0, h5]
      by_cases h6 : op = 6
      · simp [testV, br, h0, h6]
      simp [testV, br, h0, h1, h2, h3, h4, h5, h6, h7, h8]
    · simp [testV, br, h7, h8, h0, ha]
  · cases e
/- ### span -/
def prSp : FuncId → Option Sy.Spec := addP 39 testF prG
theorem prSp_ok : PrOk Try.prog prSp := prOk_add rtest_ok prG_ok
def kSp : List Keep := [.yes, .yes, .yes, .yes, .no, .no, .no, .no, .no, .yes, .yes, .yes, .yes, .yes]
def tSp (fn : Bool) (w : List D) (op : Int) (x : List UInt8) (a b : Int) (c : Bool) (n : Int) (i : Nat) : List AV := [.ptr (some (0, 0)), .fz fn .str w, .int .i64 op, .str x, .any, .any, .any, .any, .any, .int .i64 a, .int .i64 b, .bool c, .int .i64 n, .int .i64 (i : Int)] ++ padAny 89
theorem span_r (fn : Bool) (w : List D) (op : Int) (x : List UInt8) (a b : Int) (c : Bool) (n : Int) (i : Nat) (l : List D) (nn : Bool) (z : Nat) (more : List AV → St → Prop) (kk : KS) : roundK Try.prog prSp noL 100 18 0 (tSp fn w op x a b c n i) (a1S 43 l nn z) (againK 3 0 kSp kSp more kk) =
  br (decide ((↑i : Int) < (↑w.length : Int)))
    (br (decide ((0 : Int) ≤ (↑i : Int)) && decide ((↑i : Int) < (↑w.length : Int)))
      (br (decide ((↑i : Int) ≥ a))
        (br (!testV op (2 : Int) (0 : Int) (w.getD (↑i : Int).toNat D.nul).asStr (2 : Int) (0 : Int) x == decide ((↑i : Int) < b))
          (kk Ex.ret ([AV.ptr (some ((0 : Nat), (0 : Nat))), AV.fz fn Sh.str w, AV.int IntKind.i64 op, AV.str x, .any, .any, .any, .any, .any, AV.int IntKind.i64 a, AV.int IntKind.i64 b, AV.bool c, AV.int IntKind.i64 n, AV.int IntKind.i64 (↑i : Int)] ++ padAny 89) [Ent.cells [AV.ptr (some ((1 : Nat), (0 : Nat)))], Ent.cells [AV.fn (Fn.func (43 : Nat)) [] [], AV.tsl nn (Sh.struct [Sh.str, Sh.int IntKind.i64]) (2 : Nat) (0 : Nat) z Cap.tight], Ent.tbl false (Sh.struct [Sh.str, Sh.int IntKind.i64]) l])
          (br (testV op (2 : Int) (0 : Int) (w.getD (↑i : Int).toNat D.nul).asStr (2 : Int) (0 : Int) x)
            (more ([AV.ptr (some ((0 : Nat), (0 : Nat))), AV.fz fn Sh.str w, AV.int IntKind.i64 op, AV.str x, .any, .any, .any, .any, .any, AV.int IntKind.i64 a, AV.int IntKind.i64 b, AV.bool c, AV.int IntKind.i64 (IntKind.i64.wrap (n + (1 : Int))), AV.int IntKind.i64 (IntKind.i64.wrap ((↑i : Int) + (1 : Int)))] ++ padAny 89) [Ent.cells [AV.ptr (some ((1 : Nat), (0 : Nat)))], Ent.cells [AV.fn (Fn.func (43 : Nat)) [] [], AV.tsl nn (Sh.struct [Sh.str, Sh.int IntKind.i64]) (2 : Nat) (0 : Nat) z Cap.tight], Ent.tbl false (Sh.struct [Sh.str, Sh.int IntKind.i64]) l])
            (more ([AV.ptr (some ((0 : Nat), (0 : Nat))), AV.fz fn Sh.str w, AV.int IntKind.i64 op, AV.str x, .any, .any, .any, .any, .any, AV.int IntKind.i64 a, AV.int IntKind.i64 b, AV.bool c, AV.int IntKind.i64 n, AV.int IntKind.i64 (IntKind.i64.wrap ((↑i : Int) + (1 : Int)))] ++ padAny 89) [Ent.cells [AV.ptr (some ((1 : Nat), (0 : Nat)))], Ent.cells [AV.fn (Fn.func (43 : Nat)) [] [], AV.tsl nn (Sh.struct [Sh.str, Sh.int IntKind.i64]) (2 : Nat) (0 : Nat) z Cap.tight], Ent.tbl false (Sh.struct [Sh.str, Sh.int IntKind.i64]) l])))
        (br (!testV op (2 : Int) (0 : Int) (w.getD (↑i : Int).toNat D.nul).asStr (2 : Int) (0 : Int) x == false)
          (kk Ex.ret ([AV.ptr (some ((0 : Nat), (0 : Nat))), AV.fz fn Sh.str w, AV.int IntKind.i64 op, AV.str x, .any, .any, .any, .any, .any, AV.int IntKind.i64 a, AV.int IntKind.i64 b, AV.bool c, AV.int IntKind.i64 n, AV.int IntKind.i64 (↑i : Int)] ++ padAny 89) [Ent.cells [AV.ptr (some ((1 : Nat), (0 : Nat)))], Ent.cells [AV.fn (Fn.func (43 : Nat)) [] [], AV.tsl nn (Sh.struct [Sh.str, Sh.int IntKind.i64]) (2 : Nat) (0 : Nat) z Cap.tight], Ent.tbl false (Sh.struct [Sh.str, Sh.int IntKind.i64]) l])
          (br (testV op (2 : Int) (0 : Int) (w.getD (↑i : Int).toNat D.nul).asStr (2 : Int) (0 : Int) x)
            (more ([AV.ptr (some ((0 : Nat), (0 : Nat))), AV.fz fn Sh.str w, AV.int IntKind.i64 op, AV.str x, .any, .any, .any, .any, .any, AV.int IntKind.i64 a, AV.int IntKind.i64 b, AV.bool c, AV.int IntKind.i64 (IntKind.i64.wrap (n + (1 : Int))), AV.int IntKind.i64 (IntKind.i64.wrap ((↑i : Int) + (1 : Int)))] ++ padAny 89) [Ent.cells [AV.ptr (some ((1 : Nat), (0 : Nat)))], Ent.cells [AV.fn (Fn.func (43 : Nat)) [] [], AV.tsl nn (Sh.struct [Sh.str, Sh.int IntKind.i64]) (2 : Nat) (0 : Nat) z Cap.tight], Ent.tbl false (Sh.struct [Sh.str, Sh.int IntKind.i64]) l])
            (more ([AV.ptr (some ((0 : Nat), (0 : Nat))), AV.fz fn Sh.str w, AV.int IntKind.i64 op, AV.str x, .any, .any, .any, .any, .any, AV.int IntKind.i64 a, AV.int IntKind.i64 b, AV.bool c, AV.int IntKind.i64 n, AV.int IntKind.i64 (IntKind.i64.wrap ((↑i : Int) + (1 : Int)))] ++ padAny 89) [Ent.cells [AV.ptr (some ((1 : Nat), (0 : Nat)))], Ent.cells [AV.fn (Fn.func (43 : Nat)) [] [], AV.tsl nn (Sh.struct [Sh.str, Sh.int IntKind.i64]) (2 : Nat) (0 : Nat) z Cap.tight], Ent.tbl false (Sh.struct [Sh.str, Sh.int IntKind.i64]) l]))))
      (False))
    (kk Ex.normal ([AV.ptr (some ((0 : Nat), (0 : Nat))), AV.fz fn Sh.str w, AV.int IntKind.i64 op, AV.str x, .any, .any, .any, .any, .any, AV.int IntKind.i64 a, AV.int IntKind.i64 b, AV.bool c, AV.int IntKind.i64 n, AV.int IntKind.i64 (↑i : Int)] ++ padAny 89) [Ent.cells [AV.ptr (some ((1 : Nat), (0 : Nat)))], Ent.cells [AV.fn (Fn.func (43 : Nat)) [] [], AV.tsl nn (Sh.struct [Sh.str, Sh.int IntKind.i64]) (2 : Nat) (0 : Nat) z Cap.tight], Ent.tbl false (Sh.struct [Sh.str, Sh.int IntKind.i64]) l]) := by kernel_rfl
theorem span_b (fn : Bool) (w : List D) (op : Int) (x : List UInt8) (l : List D) (nn : Bool) (z : Nat) (G : LoopS) (K : AV → St → Prop) : bodyK Try.prog prSp (addL 0 (headG 3 kSp G) noL) 100 18 [] [.ptr (some (0, 0)), .fz fn .str w, .int .i64 op, .str x] (a1S 43 l nn z) K  =
  br (okM (Sh.struct [Sh.str, Sh.int IntKind.i64]) (Sh.struct [Sh.str, Sh.int IntKind.i64]) l z)
    (br (!decide (op = (1 : Int)))
      (br (!decide (op = (3 : Int)))
        (br (!decide (op = (4 : Int)))
          (br (!decide (op = (5 : Int)))
            (br (!decide (op = (6 : Int)))
              (br (!spanC op l x)
                (br (decide (spanA op l x = (0 : Int)))
                  (K (AV.bool (decide (spanB op l x = (0 : Int)))) [Ent.cells [AV.ptr (some ((0 : Nat) + (1 : Nat), (0 : Nat)))], Ent.cells [AV.fn (Fn.func (43 : Nat)) [] [], AV.tsl nn (Sh.struct [Sh.str, Sh.int IntKind.i64]) ((0 : Nat) + (1 : Nat) + (1 : Nat)) (0 : Nat) z Cap.tight], Ent.tbl false (Sh.struct [Sh.str, Sh.int IntKind.i64]) l])
                  (K (AV.bool false) [Ent.cells [AV.ptr (some ((0 : Nat) + (1 : Nat), (0 : Nat)))], Ent.cells [AV.fn (Fn.func (43 : Nat)) [] [], AV.tsl nn (Sh.struct [Sh.str, Sh.int IntKind.i64]) ((0 : Nat) + (1 : Nat) + (1 : Nat)) (0 : Nat) z Cap.tight], Ent.tbl false (Sh.struct [Sh.str, Sh.int IntKind.i64]) l]))
                (K (AV.bool false) [Ent.cells [AV.ptr (some ((0 : Nat) + (1 : Nat), (0 : Nat)))], Ent.cells [AV.fn (Fn.func (43 : Nat)) [] [], AV.tsl nn (Sh.struct [Sh.str, Sh.int IntKind.i64]) ((0 : Nat) + (1 : Nat) + (1 : Nat)) (0 : Nat) z Cap.tight], Ent.tbl false (Sh.struct [Sh.str, Sh.int IntKind.i64]) l]))
              (G (([AV.ptr (some ((0 : Nat), (0 : Nat))), AV.fz fn Sh.str w, AV.int IntKind.i64 op, AV.str x, .any, .any, .any, .any, .any, AV.int IntKind.i64 (spanA op l x), AV.int IntKind.i64 (spanB op l x), AV.bool (spanC op l x), AV.int IntKind.i64 (0 : Int), AV.int IntKind.i64 (0 : Int)] ++ padAny 89)) ([Ent.cells [AV.ptr (some ((0 : Nat) + (1 : Nat), (0 : Nat)))], Ent.cells [AV.fn (Fn.func (43 : Nat)) [] [], AV.tsl nn (Sh.struct [Sh.str, Sh.int IntKind.i64]) ((0 : Nat) + (1 : Nat) + (1 : Nat)) (0 : Nat) z Cap.tight], Ent.tbl false (Sh.struct [Sh.str, Sh.int IntKind.i64]) l]) (contB Try.prog prSp (addL 0 (headG 3 kSp G) noL) 100 18 [] (a1S 43 l nn z) 0 K)))
            (G (([AV.ptr (some ((0 : Nat), (0 : Nat))), AV.fz fn Sh.str w, AV.int IntKind.i64 op, AV.str x, .any, .any, .any, .any, .any, AV.int IntKind.i64 (spanA op l x), AV.int IntKind.i64 (spanB op l x), AV.bool (spanC op l x), AV.int IntKind.i64 (0 : Int), AV.int IntKind.i64 (0 : Int)] ++ padAny 89)) ([Ent.cells [AV.ptr (some ((0 : Nat) + (1 : Nat), (0 : Nat)))], Ent.cells [AV.fn (Fn.func (43 : Nat)) [] [], AV.tsl nn (Sh.struct [Sh.str, Sh.int IntKind.i64]) ((0 : Nat) + (1 : Nat) + (1 : Nat)) (0 : Nat) z Cap.tight], Ent.tbl false (Sh.struct [Sh.str, Sh.int IntKind.i64]) l]) (contB Try.prog prSp (addL 0 (headG 3 kSp G) noL) 100 18 [] (a1S 43 l nn z) 0 K)))
          (G (([AV.ptr (some ((0 : Nat), (0 : Nat))), AV.fz fn Sh.str w, AV.int IntKind.i64 op, AV.str x, .any, .any, .any, .any, .any, AV.int IntKind.i64 (spanA op l x), AV.int IntKind.i64 (spanB op l x), AV.bool (spanC op l x), AV.int IntKind.i64 (0 : Int), AV.int IntKind.i64 (0 : Int)] ++ padAny 89)) ([Ent.cells [AV.ptr (some ((0 : Nat) + (1 : Nat), (0 : Nat)))], Ent.cells [AV.fn (Fn.func (43 : Nat)) [] [], AV.tsl nn (Sh.struct [Sh.str, Sh.int IntKind.i64]) ((0 : Nat) + (1 : Nat) + (1 : Nat)) (0 : Nat) z Cap.tight], Ent.tbl false (Sh.struct [Sh.str, Sh.int IntKind.i64]) l]) (contB Try.prog prSp (addL 0 (headG 3 kSp G) noL) 100 18 [] (a1S 43 l nn z) 0 K)))
        (G (([AV.ptr (some ((0 : Nat), (0 : Nat))), AV.fz fn Sh.str w, AV.int IntKind.i64 op, AV.str x, .any, .any, .any, .any, .any, AV.int IntKind.i64 (spanA op l x), AV.int IntKind.i64 (spanB op l x), AV.bool (spanC op l x), AV.int IntKind.i64 (0 : Int), AV.int IntKind.i64 (0 : Int)] ++ padAny 89)) ([Ent.cells [AV.ptr (some ((0 : Nat) + (1 : Nat), (0 : Nat)))], Ent.cells [AV.fn (Fn.func (43 : Nat)) [] [], AV.tsl nn (Sh.struct [Sh.str, Sh.int IntKind.i64]) ((0 : Nat) + (1 : Nat) + (1 : Nat)) (0 : Nat) z Cap.tight], Ent.tbl false (Sh.struct [Sh.str, Sh.int IntKind.i64]) l]) (contB Try.prog prSp (addL 0 (headG 3 kSp G) noL) 100 18 [] (a1S 43 l nn z) 0 K)))
      (G (([AV.ptr (some ((0 : Nat), (0 : Nat))), AV.fz fn Sh.str w, AV.int IntKind.i64 op, AV.str x, .any, .any, .any, .any, .any, AV.int IntKind.i64 (spanA op l x), AV.int IntKind.i64 (spanB op l x), AV.bool (spanC op l x), AV.int IntKind.i64 (0 : Int), AV.int IntKind.i64 (0 : Int)] ++ padAny 89)) ([Ent.cells [AV.ptr (some ((0 : Nat) + (1 : Nat), (0 : Nat)))], Ent.cells [AV.fn (Fn.func (43 : Nat)) [] [], AV.tsl nn (Sh.struct [Sh.str, Sh.int IntKind.i64]) ((0 : Nat) + (1 : Nat) + (1 : Nat)) (0 : Nat) z Cap.tight], Ent.tbl false (Sh.struct [Sh.str, Sh.int IntKind.i64]) l]) (contB Try.prog prSp (addL 0 (headG 3 kSp G) noL) 100 18 [] (a1S 43 l nn z) 0 K)))
    (False) := by kernel_rfl
theorem span_e (fn : Bool) (w : List D) (op : Int) (x : List UInt8) (a b : Int) (c : Bool) (n : Int) (i : Nat) (l : List D) (nn : Bool) (z : Nat) (G : LoopS) (K : AV → St → Prop) : contB Try.prog prSp (addL 0 (headG 3 kSp G) noL) 100 18 [] (a1S 43 l nn z) 0 K .normal (tSp fn w op x a b c n i) (a1S 43 l nn z) =
  br (c)
    (br (decide (n > (0 : Int)))
      (br (decide (IntKind.i64.wrap (b - a) = n))
        (K (AV.bool true) [Ent.cells [AV.ptr (some ((1 : Nat), (0 : Nat)))], Ent.cells [AV.fn (Fn.func (43 : Nat)) [] [], AV.tsl nn (Sh.struct [Sh.str, Sh.int IntKind.i64]) (2 : Nat) (0 : Nat) z Cap.tight], Ent.tbl false (Sh.struct [Sh.str, Sh.int IntKind.i64]) l])
        (br (decide (n = (0 : Int)))
          (br (decide (a = (0 : Int)))
            (K (AV.bool (decide (b = (0 : Int)))) [Ent.cells [AV.ptr (some ((1 : Nat), (0 : Nat)))], Ent.cells [AV.fn (Fn.func (43 : Nat)) [] [], AV.tsl nn (Sh.struct [Sh.str, Sh.int IntKind.i64]) (2 : Nat) (0 : Nat) z Cap.tight], Ent.tbl false (Sh.struct [Sh.str, Sh.int IntKind.i64]) l])
            (K (AV.bool false) [Ent.cells [AV.ptr (some ((1 : Nat), (0 : Nat)))], Ent.cells [AV.fn (Fn.func (43 : Nat)) [] [], AV.tsl nn (Sh.struct [Sh.str, Sh.int IntKind.i64]) (2 : Nat) (0 : Nat) z Cap.tight], Ent.tbl false (Sh.struct [Sh.str, Sh.int IntKind.i64]) l]))
          (K (AV.bool false) [Ent.cells [AV.ptr (some ((1 : Nat), (0 : Nat)))], Ent.cells [AV.fn (Fn.func (43 : Nat)) [] [], AV.tsl nn (Sh.struct [Sh.str, Sh.int IntKind.i64]) (2 : Nat) (0 : Nat) z Cap.tight], Ent.tbl false (Sh.struct [Sh.str, Sh.int IntKind.i64]) l])))
      (br (decide (n = (0 : Int)))
        (br (decide (a = (0 : Int)))
          (K (AV.bool (decide (b = (0 : Int)))) [Ent.cells [AV.ptr (some ((1 : Nat), (0 : Nat)))], Ent.cells [AV.fn (Fn.func (43 : Nat)) [] [], AV.tsl nn (Sh.struct [Sh.str, Sh.int IntKind.i64]) (2 : Nat) (0 : Nat) z Cap.tight], Ent.tbl false (Sh.struct [Sh.str, Sh.int IntKind.i64]) l])
          (K (AV.bool false) [Ent.cells [AV.ptr (some ((1 : Nat), (0 : Nat)))], Ent.cells [AV.fn (Fn.func (43 : Nat)) [] [], AV.tsl nn (Sh.struct [Sh.str, Sh.int IntKind.i64]) (2 : Nat) (0 : Nat) z Cap.tight], Ent.tbl false (Sh.struct [Sh.str, Sh.int IntKind.i64]) l]))
        (K (AV.bool false) [Ent.cells [AV.ptr (some ((1 : Nat), (0 : Nat)))], Ent.cells [AV.fn (Fn.func (43 : Nat)) [] [], AV.tsl nn (Sh.struct [Sh.str, Sh.int IntKind.i64]) (2 : Nat) (0 : Nat) z Cap.tight], Ent.tbl false (Sh.struct [Sh.str, Sh.int IntKind.i64]) l])))
    (K (AV.bool false) [Ent.cells [AV.ptr (some ((1 : Nat), (0 : Nat)))], Ent.cells [AV.fn (Fn.func (43 : Nat)) [] [], AV.tsl nn (Sh.struct [Sh.str, Sh.int IntKind.i64]) (2 : Nat) (0 : Nat) z Cap.tight], Ent.tbl false (Sh.struct [Sh.str, Sh.int IntKind.i64]) l]) := by kernel_rfl

def cntI (a b i : Int) : Int := if i ≤ a then 0 else if i ≤ b then i - a else b - a
def MSp (fn : Bool) (w : List D) (op : Int) (x : List UInt8) (l : List D) (nn : Bool) (m : Nat) (t : List AV) (s : St) (kk : KS) : Prop := ∃ i : Nat, m + i = w.length ∧ t = tSp fn w op x (spanA op l x) (spanB op l x) true (cntI (spanA op l x) (spanB op l x) i) i ∧ s = a1S 43 l nn l.length ∧
  kk .normal (tSp fn w op x (spanA op l x) (spanB op l x) true (cntI (spanA op l x) (spanB op l x) w.length) w.length) (a1S 43 l nn l.length)
theorem same_get {w l : List D} (h : strsD w = keysD l) {i : Nat} (hi : i < w.length) : (w.getD i .nul).asStr = keyD (l.getD i .nul) := by
  have hl : w.length = l.length := by rw [← strsD_len, h, keysD_len]
  have h1 : (strsD w)[i]? = some (w.getD i .nul).asStr := by simp [strsD, List.getD, List.getElem?_eq_getElem hi]
  have h2 := keysD_get (l := l) (i := i) (by omega)
  rw [h, h2] at h1
  exact (Option.some.inj h1).symm
theorem span_step (fn : Bool) (w : List D) (op : Int) (x : List UInt8) (l : List D) (nn : Bool) (ho : opOk op) (hs : SS (keysD l)) (he : strsD w = keysD l) (hl : l.length < 1000000) : ∀ m t s kk, MSp fn w op x l nn m t s kk → roundK Try.prog prSp noL 100 18 0 t s (againK 3 0 kSp kSp (fun t' s' => ∃ m', m' < m ∧ MSp fn w op x l nn m' t' s' kk) kk) := by
  rintro m t s kk ⟨i, hm, rfl, rfl, hk⟩
  have hwl : w.length = l.length := by rw [← strsD_len, he, keysD_len]
  obtain ⟨k1, k2, k3, k4, k5, k6⟩ := span_ok_law hs ho x
  rw [span_r]
  refine br_iff.2 ⟨fun h1 => ?_, fun h1 => ?_⟩
  · have hi : i < w.length := by omega
    have k := k6 i (by omega)
    rw [← same_get he hi] at k
    have again : ∀ n' : Int, n' = cntI (spanA op l x) (spanB op l x) (i + 1 : Nat) → ∃ m', m' < m ∧ MSp fn w op x l nn m' ([AV.ptr (some ((0 : Nat), (0 : Nat))), AV.fz fn Sh.str w, AV.int IntKind.i64 op, AV.str x, .any, .any, .any, .any, .any, AV.int IntKind.i64 (spanA op l x), AV.int IntKind.i64 (spanB op l x), AV.bool true, AV.int IntKind.i64 n', AV.int IntKind.i64 (IntKind.i64.wrap ((i : Int) + (1 : Int)))] ++ padAny 89) (a1S 43 l nn l.length) kk := by
      rintro n' rfl
      refine ⟨m - 1, by omega, i + 1, by omega, ?_, rfl, hk⟩
      rw [wrap64 (by omega) (by omega)]
      rfl
    have hc0 : 0 ≤ cntI (spanA op l x) (spanB op l x) i ∧ cntI (spanA op l x) (spanB op l x) i ≤ i := by unfold cntI; split <;> (try split) <;> omega
    refine br_t (by (simp only [Bool.and_eq_true, decide_eq_true_eq, and_true]; omega)) ?_
    rw [Int.toNat_natCast]
    generalize testV op 2 0 (w.getD i .nul).asStr 2 0 x = tv at *
    refine br_iff.2 ⟨fun h2 => ?_, fun h2 => ?_⟩
    · have e1 : decide ((i : Int) ≥ spanA op l x) = true := decide_eq_true h2
      rw [e1, Bool.true_and] at k
      subst k
      refine br_mk (fun h => by simp at h) (fun _ => br_iff.2 ⟨fun h3 => again _ ?_, fun h3 => again _ ?_⟩)
      · rw [wrap64 (by omega) (by omega)]
        unfold cntI
        split <;> (try split) <;> (try split) <;> (try split) <;> omega
      · unfold cntI
        split <;> (try split) <;> (try split) <;> (try split) <;> omega
    · have e1 : decide ((i : Int) ≥ spanA op l x) = false := decide_eq_false h2
      rw [e1, Bool.false_and] at k
      subst k
      refine br_mk (fun h => by simp at h) (fun _ => br_mk (fun h => by cases h) (fun _ => again _ ?_))
      unfold cntI
      split <;> (try split) <;> (try split) <;> (try split) <;> omega
  · have hi : i = w.length := by omega
    subst hi
    exact hk
theorem span_ok2 : SpecOk Try.prog 18 (spanLF 43).f := specOk_comes fun args s v s' tch e => by
  simp only [spanLF] at e
  split at e
  · rename_i fn shw w op x g nn e0 n sh l
    obtain ⟨hg, rfl, rfl, rfl⟩ := run_ok (g := _) e
    simp only [Bool.and_eq_true, okM_iff, sameK, sortB, decide_eq_true_eq] at hg
    obtain ⟨h1, ⟨h2, h3, hl, hn⟩, h4, he, hs⟩ := hg
    have h1 := Nat.eq_of_beq_eq_true h1
    have h4 := Sh.beq_eq _ _ h4
    subst h1 h2 h3 h4 hl
    have hs : SS (keysD l) := hs
    have hd : distinctOk Try.prog 18 = true := by kernel_rfl
    have hwl : w.length = l.length := by rw [← strsD_len, he, keysD_len]
    by_cases ho : opOk op
    · obtain ⟨k1, k2, k3, k4, k5, k6⟩ := span_ok_law hs ho x
      refine comes_of ok prSp_ok (L := 100) (ms := []) hd (loops_add (L := 100) (kh := kSp) ok prSp_ok hd loops_none (span_step fn w op x l nn ho hs he hn)) ?_
      refine Eq.mpr (span_b fn w op x l nn l.length _ _) ?_
      have start : MSp fn w op x l nn w.length (tSp fn w op x (spanA op l x) (spanB op l x) (spanC op l x) 0 0) (a1S 43 l nn l.length) (contB Try.prog prSp (addL 0 (headG 3 kSp (byM (MSp fn w op x l nn))) noL) 100 18 [] (a1S 43 l nn l.length) 0 fun v1 s1 => v1 = .bool true ∧ s1 = a1S 43 l nn l.length) := by
        rw [k1]
        refine ⟨0, by omega, by rw [show cntI (spanA op l x) (spanB op l x) ((0 : Nat) : Int) = 0 by unfold cntI; rw [if_pos (by omega)]], rfl, ?_⟩
        rw [span_e]
        have hc : cntI (spanA op l x) (spanB op l x) w.length = spanB op l x - spanA op l x := by unfold cntI; split <;> (try split) <;> omega
        rw [hc, wrap64 (by omega) (by omega)]
        refine br_t rfl (br_iff.2 ⟨fun h => br_t (by simp) ⟨rfl, rfl⟩, fun h => br_t (by (simp only [Bool.and_eq_true, decide_eq_true_eq, and_true]; omega)) (br_t (by (simp only [Bool.and_eq_true, decide_eq_true_eq, and_true]; omega)) ⟨by congr 1; simp only [decide_eq_true_eq]; omega, rfl⟩)⟩)
      have fin : byM (MSp fn w op x l nn) (tSp fn w op x (spanA op l x) (spanB op l x) (spanC op l x) 0 0) (a1S 43 l nn l.length) (contB Try.prog prSp (addL 0 (headG 3 kSp (byM (MSp fn w op x l nn))) noL) 100 18 [] (a1S 43 l nn l.length) 0 fun v1 s1 => v1 = .bool true ∧ s1 = a1S 43 l nn l.length) := ⟨_, start⟩
      refine br_t (okM_mk rfl hn) (br_mk (fun h1 => br_mk (fun h3 => br_mk (fun h4 => br_mk (fun h5 => br_mk (fun h6 => ?_) (fun _ => fin)) (fun _ => fin)) (fun _ => fin)) (fun _ => fin)) (fun _ => fin))
      exfalso
      unfold opOk at ho
      simp only [Bool.not_eq_true', decide_eq_false_iff_not] at h1 h3 h4 h5 h6
      omega
    · obtain ⟨k1, k2, k3⟩ := span_no_law l ho x
      refine comes_of ok prSp_ok (L := 100) (ms := []) hd (loops_add (id := 0) (L := 100) (kh := kSp) (kx := kSp) (ks := kSp) (M := fun _ _ _ _ => False) ok prSp_ok hd loops_none (fun _ _ _ _ h => h.elim)) ?_
      refine Eq.mpr (span_b fn w op x l nn l.length _ _) ?_
      unfold opOk at ho
      have g1 : (!decide (op = 1)) = true := by rw [Bool.not_eq_true', decide_eq_false_iff_not]; omega
      have g3 : (!decide (op = 3)) = true := by rw [Bool.not_eq_true', decide_eq_false_iff_not]; omega
      have g4 : (!decide (op = 4)) = true := by rw [Bool.not_eq_true', decide_eq_false_iff_not]; omega
      have g5 : (!decide (op = 5)) = true := by rw [Bool.not_eq_true', decide_eq_false_iff_not]; omega
      have g6 : (!decide (op = 6)) = true := by rw [Bool.not_eq_true', decide_eq_false_iff_not]; omega
      rw [k1, k2, k3]
      exact br_t (okM_mk rfl hn) (br_t g1 (br_t g3 (br_t g4 (br_t g5 (br_t g6 (br_t rfl (br_t rfl ⟨rfl, rfl⟩)))))))
  · cases e

/- ### DictAll -/
def prAl : FuncId → Option Sy.Spec := addP 11 cutF (addP 14 wordsLF (addP 18 (spanLF 43) prG))
def e0S (t : List D) : St := [.cells [.ptr none], .tbl false .str t]
def e1S (l : List D) (nn : Bool) (z : Nat) (t : List D) : St := [.cells [.ptr (some (1, 0))], .cells [.fn (.func 43) [] [], .tsl nn shP 2 0 z .tight], .tbl false shP l, .tbl false .str t]
def kD : List Keep := [.yes, .yes, .yes, .no, .no, .no, .no, .no, .yes, .bld .str, .yes]
def tD (fo : Bool) (o : List D) (x : List UInt8) (op : Int) (b n i : Nat) : List AV := [.fz fo shOp o, .str x, .int .i64 op, .any, .any, .any, .any, .any, .ptr (some (0, 0)), .tsl false .str b 0 n .tight, .int .i64 (i : Int)] ++ padAny 180
def kDi : List Keep := [.yes, .yes, .yes, .no, .no, .no, .no, .no, .yes, .bld .str, .yes, .yes, .yes, .yes]
def tDi (fo : Bool) (o : List D) (x : List UInt8) (op : Int) (b n i : Nat) (s : List UInt8) (a : Int) (k : Nat) : List AV := [.fz fo shOp o, .str x, .int .i64 op, .any, .any, .any, .any, .any, .ptr (some (0, 0)), .tsl false .str b 0 n .tight, .int .i64 (i : Int), .str s, .int .i64 a, .int .i64 (k : Int)] ++ padAny 177
theorem all_i0 (fo : Bool) (o : List D) (x : List UInt8) (op : Int) (n i : Nat) (s : List UInt8) (a : Int) (k : Nat) (t : List D) (more : List AV → St → Prop) (kk : KS) : roundK Try.prog prAl noL 100 3 2 (tDi fo o x op 1 n i s a k) (e0S t) (againK 0 2 kDi kDi more kk) =
  br (decide ((↑k : Int) < (↑n : Int)))
    (br (decide ((0 : Int) ≤ (↑k : Int)) && decide ((↑k : Int) < (↑n : Int)))
      (br (decide ((0 : Nat) + (↑k : Int).toNat < t.length))
        (br (eqBytes (t.getD ((0 : Nat) + (↑k : Int).toNat) D.nul).asStr s)
          (more ([AV.fz fo (Sh.struct [Sh.int IntKind.i64, Sh.str]) o, AV.str x, AV.int IntKind.i64 op, .any, .any, .any, .any, .any, AV.ptr (some ((0 : Nat), (0 : Nat))), AV.tsl false Sh.str (1 : Nat) (0 : Nat) n Cap.tight, AV.int IntKind.i64 (↑i : Int), AV.str s, AV.int IntKind.i64 (↑k : Int), AV.int IntKind.i64 (IntKind.i64.wrap ((↑k : Int) + (1 : Int)))] ++ padAny 177) [Ent.cells [AV.ptr none], Ent.tbl false Sh.str t])
          (more ([AV.fz fo (Sh.struct [Sh.int IntKind.i64, Sh.str]) o, AV.str x, AV.int IntKind.i64 op, .any, .any, .any, .any, .any, AV.ptr (some ((0 : Nat), (0 : Nat))), AV.tsl false Sh.str (1 : Nat) (0 : Nat) n Cap.tight, AV.int IntKind.i64 (↑i : Int), AV.str s, AV.int IntKind.i64 a, AV.int IntKind.i64 (IntKind.i64.wrap ((↑k : Int) + (1 : Int)))] ++ padAny 177) [Ent.cells [AV.ptr none], Ent.tbl false Sh.str t]))
        (False))
      (False))
    (kk Ex.normal ([AV.fz fo (Sh.struct [Sh.int IntKind.i64, Sh.str]) o, AV.str x, AV.int IntKind.i64 op, .any, .any, .any, .any, .any, AV.ptr (some ((0 : Nat), (0 : Nat))), AV.tsl false Sh.str (1 : Nat) (0 : Nat) n Cap.tight, AV.int IntKind.i64 (↑i : Int), AV.str s, AV.int IntKind.i64 a, AV.int IntKind.i64 (↑k : Int)] ++ padAny 177) [Ent.cells [AV.ptr none], Ent.tbl false Sh.str t]) := by kernel_rfl
theorem all_i1 (fo : Bool) (o : List D) (x : List UInt8) (op : Int) (n i : Nat) (s : List UInt8) (a : Int) (k : Nat) (l : List D) (nn : Bool) (z : Nat) (t : List D) (more : List AV → St → Prop) (kk : KS) : roundK Try.prog prAl noL 100 3 2 (tDi fo o x op 3 n i s a k) (e1S l nn z t) (againK 0 2 kDi kDi more kk) =
  br (decide ((↑k : Int) < (↑n : Int)))
    (br (decide ((0 : Int) ≤ (↑k : Int)) && decide ((↑k : Int) < (↑n : Int)))
      (br (decide ((0 : Nat) + (↑k : Int).toNat < t.length))
        (br (eqBytes (t.getD ((0 : Nat) + (↑k : Int).toNat) D.nul).asStr s)
          (more ([AV.fz fo (Sh.struct [Sh.int IntKind.i64, Sh.str]) o, AV.str x, AV.int IntKind.i64 op, .any, .any, .any, .any, .any, AV.ptr (some ((0 : Nat), (0 : Nat))), AV.tsl false Sh.str (3 : Nat) (0 : Nat) n Cap.tight, AV.int IntKind.i64 (↑i : Int), AV.str s, AV.int IntKind.i64 (↑k : Int), AV.int IntKind.i64 (IntKind.i64.wrap ((↑k : Int) + (1 : Int)))] ++ padAny 177) [Ent.cells [AV.ptr (some ((1 : Nat), (0 : Nat)))], Ent.cells [AV.fn (Fn.func (43 : Nat)) [] [], AV.tsl nn (Sh.struct [Sh.str, Sh.int IntKind.i64]) (2 : Nat) (0 : Nat) z Cap.tight], Ent.tbl false (Sh.struct [Sh.str, Sh.int IntKind.i64]) l, Ent.tbl false Sh.str t])
          (more ([AV.fz fo (Sh.struct [Sh.int IntKind.i64, Sh.str]) o, AV.str x, AV.int IntKind.i64 op, .any, .any, .any, .any, .any, AV.ptr (some ((0 : Nat), (0 : Nat))), AV.tsl false Sh.str (3 : Nat) (0 : Nat) n Cap.tight, AV.int IntKind.i64 (↑i : Int), AV.str s, AV.int IntKind.i64 a, AV.int IntKind.i64 (IntKind.i64.wrap ((↑k : Int) + (1 : Int)))] ++ padAny 177) [Ent.cells [AV.ptr (some ((1 : Nat), (0 : Nat)))], Ent.cells [AV.fn (Fn.func (43 : Nat)) [] [], AV.tsl nn (Sh.struct [Sh.str, Sh.int IntKind.i64]) (2 : Nat) (0 : Nat) z Cap.tight], Ent.tbl false (Sh.struct [Sh.str, Sh.int IntKind.i64]) l, Ent.tbl false Sh.str t]))
        (False))
      (False))
    (kk Ex.normal ([AV.fz fo (Sh.struct [Sh.int IntKind.i64, Sh.str]) o, AV.str x, AV.int IntKind.i64 op, .any, .any, .any, .any, .any, AV.ptr (some ((0 : Nat), (0 : Nat))), AV.tsl false Sh.str (3 : Nat) (0 : Nat) n Cap.tight, AV.int IntKind.i64 (↑i : Int), AV.str s, AV.int IntKind.i64 a, AV.int IntKind.i64 (↑k : Int)] ++ padAny 177) [Ent.cells [AV.ptr (some ((1 : Nat), (0 : Nat)))], Ent.cells [AV.fn (Fn.func (43 : Nat)) [] [], AV.tsl nn (Sh.struct [Sh.str, Sh.int IntKind.i64]) (2 : Nat) (0 : Nat) z Cap.tight], Ent.tbl false (Sh.struct [Sh.str, Sh.int IntKind.i64]) l, Ent.tbl false Sh.str t]) := by kernel_rfl
theorem all_r0 (fo : Bool) (o : List D) (x : List UInt8) (op : Int) (n i : Nat) (t : List D) (G : LoopS) (more : List AV → St → Prop) (kk : KS) : roundK Try.prog prAl (addL 2 (headG 0 kDi G) noL) 100 3 0 (tD fo o x op 1 n i) (e0S t) (againK 0 0 kD kD more kk)  =
  br (decide ((↑i : Int) < (↑o.length : Int)))
    (br (decide ((↑i : Int) < (50 : Int)))
      (br (decide ((0 : Int) ≤ (↑i : Int)) && decide ((↑i : Int) < (↑o.length : Int)))
        (G (([AV.fz fo (Sh.struct [Sh.int IntKind.i64, Sh.str]) o, AV.str x, AV.int IntKind.i64 op, .any, .any, .any, .any, .any, AV.ptr (some ((0 : Nat), (0 : Nat))), AV.tsl false Sh.str (1 : Nat) (0 : Nat) n Cap.tight, AV.int IntKind.i64 (↑i : Int), AV.str (cutS ((o.getD (↑i : Int).toNat D.nul).fld (1 : Nat)).asStr (10 : Int)), AV.int IntKind.i64 (-1 : Int), AV.int IntKind.i64 (0 : Int)] ++ padAny 177)) ([Ent.cells [AV.ptr none], Ent.tbl false Sh.str t]) (contR Try.prog prAl (addL 2 (headG 0 kDi G) noL) 100 3 0 2 (againK 0 0 kD kD more kk)))
        (False))
      (kk Ex.normal ([AV.fz fo (Sh.struct [Sh.int IntKind.i64, Sh.str]) o, AV.str x, AV.int IntKind.i64 op, .any, .any, .any, .any, .any, AV.ptr (some ((0 : Nat), (0 : Nat))), AV.tsl false Sh.str (1 : Nat) (0 : Nat) n Cap.tight, AV.int IntKind.i64 (↑i : Int)] ++ padAny 180) [Ent.cells [AV.ptr none], Ent.tbl false Sh.str t]))
    (kk Ex.normal ([AV.fz fo (Sh.struct [Sh.int IntKind.i64, Sh.str]) o, AV.str x, AV.int IntKind.i64 op, .any, .any, .any, .any, .any, AV.ptr (some ((0 : Nat), (0 : Nat))), AV.tsl false Sh.str (1 : Nat) (0 : Nat) n Cap.tight, AV.int IntKind.i64 (↑i : Int)] ++ padAny 180) [Ent.cells [AV.ptr none], Ent.tbl false Sh.str t]) := by kernel_rfl
theorem all_r1 (fo : Bool) (o : List D) (x : List UInt8) (op : Int) (n i : Nat) (l : List D) (nn : Bool) (z : Nat) (t : List D) (G : LoopS) (more : List AV → St → Prop) (kk : KS) : roundK Try.prog prAl (addL 2 (headG 0 kDi G) noL) 100 3 0 (tD fo o x op 3 n i) (e1S l nn z t) (againK 0 0 kD kD more kk)  =
  br (decide ((↑i : Int) < (↑o.length : Int)))
    (br (decide ((↑i : Int) < (50 : Int)))
      (br (decide ((0 : Int) ≤ (↑i : Int)) && decide ((↑i : Int) < (↑o.length : Int)))
        (G (([AV.fz fo (Sh.struct [Sh.int IntKind.i64, Sh.str]) o, AV.str x, AV.int IntKind.i64 op, .any, .any, .any, .any, .any, AV.ptr (some ((0 : Nat), (0 : Nat))), AV.tsl false Sh.str (3 : Nat) (0 : Nat) n Cap.tight, AV.int IntKind.i64 (↑i : Int), AV.str (cutS ((o.getD (↑i : Int).toNat D.nul).fld (1 : Nat)).asStr (10 : Int)), AV.int IntKind.i64 (-1 : Int), AV.int IntKind.i64 (0 : Int)] ++ padAny 177)) ([Ent.cells [AV.ptr (some ((1 : Nat), (0 : Nat)))], Ent.cells [AV.fn (Fn.func (43 : Nat)) [] [], AV.tsl nn (Sh.struct [Sh.str, Sh.int IntKind.i64]) (2 : Nat) (0 : Nat) z Cap.tight], Ent.tbl false (Sh.struct [Sh.str, Sh.int IntKind.i64]) l, Ent.tbl false Sh.str t]) (contR Try.prog prAl (addL 2 (headG 0 kDi G) noL) 100 3 0 2 (againK 0 0 kD kD more kk)))
        (False))
      (kk Ex.normal ([AV.fz fo (Sh.struct [Sh.int IntKind.i64, Sh.str]) o, AV.str x, AV.int IntKind.i64 op, .any, .any, .any, .any, .any, AV.ptr (some ((0 : Nat), (0 : Nat))), AV.tsl false Sh.str (3 : Nat) (0 : Nat) n Cap.tight, AV.int IntKind.i64 (↑i : Int)] ++ padAny 180) [Ent.cells [AV.ptr (some ((1 : Nat), (0 : Nat)))], Ent.cells [AV.fn (Fn.func (43 : Nat)) [] [], AV.tsl nn (Sh.struct [Sh.str, Sh.int IntKind.i64]) (2 : Nat) (0 : Nat) z Cap.tight], Ent.tbl false (Sh.struct [Sh.str, Sh.int IntKind.i64]) l, Ent.tbl false Sh.str t]))
    (kk Ex.normal ([AV.fz fo (Sh.struct [Sh.int IntKind.i64, Sh.str]) o, AV.str x, AV.int IntKind.i64 op, .any, .any, .any, .any, .any, AV.ptr (some ((0 : Nat), (0 : Nat))), AV.tsl false Sh.str (3 : Nat) (0 : Nat) n Cap.tight, AV.int IntKind.i64 (↑i : Int)] ++ padAny 180) [Ent.cells [AV.ptr (some ((1 : Nat), (0 : Nat)))], Ent.cells [AV.fn (Fn.func (43 : Nat)) [] [], AV.tsl nn (Sh.struct [Sh.str, Sh.int IntKind.i64]) (2 : Nat) (0 : Nat) z Cap.tight], Ent.tbl false (Sh.struct [Sh.str, Sh.int IntKind.i64]) l, Ent.tbl false Sh.str t]) := by kernel_rfl
theorem all_c0 (fo : Bool) (o : List D) (x : List UInt8) (op : Int) (n i : Nat) (s : List UInt8) (a : Int) (k : Nat) (t : List D) (G : LoopS) (more : List AV → St → Prop) (kk : KS) : contR Try.prog prAl (addL 2 (headG 0 kDi G) noL) 100 3 0 2 (againK 0 0 kD kD more kk) .normal (tDi fo o x op 1 n i s a k) (e0S t) =
  br (decide ((0 : Int) ≤ (↑i : Int)) && decide ((↑i : Int) < (↑o.length : Int)))
    (br (decide (((o.getD (↑i : Int).toNat D.nul).fld (0 : Nat)).asInt = (0 : Int)))
      (br (!true == decide (a < (0 : Int)))
        (kk Ex.ret ([AV.fz fo (Sh.struct [Sh.int IntKind.i64, Sh.str]) o, AV.str x, AV.int IntKind.i64 op, .any, .any, .any, .any, .any, AV.ptr (some ((0 : Nat), (0 : Nat))), AV.tsl false Sh.str ((1 : Nat) + (1 : Nat) + (1 : Nat)) (0 : Nat) n Cap.tight, AV.int IntKind.i64 (↑i : Int)] ++ padAny 180) [Ent.cells [AV.ptr (some ((0 : Nat) + (1 : Nat), (0 : Nat)))], Ent.cells [AV.fn (Fn.func (43 : Nat)) [] [], AV.tsl true (Sh.struct [Sh.str, Sh.int IntKind.i64]) ((0 : Nat) + (1 : Nat) + (1 : Nat)) (0 : Nat) (1 : Nat) Cap.tight], Ent.tbl false (Sh.struct [Sh.str, Sh.int IntKind.i64]) (insK [] (0 : Nat) s (1 : Int)), Ent.tbl false Sh.str t])
        (br ((((3 : Nat) * (n + (1 : Nat)) + (2000 : Nat)) * (16 : Nat)).ble (281474976710656 : Nat) && ((0 : Nat) + n).ble t.length)
          (more ([AV.fz fo (Sh.struct [Sh.int IntKind.i64, Sh.str]) o, AV.str x, AV.int IntKind.i64 op, .any, .any, .any, .any, .any, AV.ptr (some ((0 : Nat), (0 : Nat))), AV.tsl false Sh.str ((0 : Nat) + (1 : Nat) + (1 : Nat) + (1 : Nat)) (0 : Nat) (n + (1 : Nat)) Cap.tight, AV.int IntKind.i64 (IntKind.i64.wrap ((↑i : Int) + (1 : Int)))] ++ padAny 180) [Ent.cells [AV.ptr (some ((0 : Nat) + (1 : Nat), (0 : Nat)))], Ent.cells [AV.fn (Fn.func (43 : Nat)) [] [], AV.tsl true (Sh.struct [Sh.str, Sh.int IntKind.i64]) ((0 : Nat) + (1 : Nat) + (1 : Nat)) (0 : Nat) (1 : Nat) Cap.tight], Ent.tbl false (Sh.struct [Sh.str, Sh.int IntKind.i64]) (insK [] (0 : Nat) s (1 : Int)), Ent.tbl false Sh.str (List.take n (List.drop (0 : Nat) t) ++ [D.str s])])
          (False)))
      (br (!false == decide (a ≥ (0 : Int)))
        (kk Ex.ret ([AV.fz fo (Sh.struct [Sh.int IntKind.i64, Sh.str]) o, AV.str x, AV.int IntKind.i64 op, .any, .any, .any, .any, .any, AV.ptr (some ((0 : Nat), (0 : Nat))), AV.tsl false Sh.str ((1 : Nat) + (1 : Nat) + (1 : Nat)) (0 : Nat) n Cap.tight, AV.int IntKind.i64 (↑i : Int)] ++ padAny 180) [Ent.cells [AV.ptr (some ((0 : Nat) + (1 : Nat), (0 : Nat)))], Ent.cells [AV.fn (Fn.func (43 : Nat)) [] [], AV.tsl false (Sh.struct [Sh.str, Sh.int IntKind.i64]) ((0 : Nat) + (1 : Nat) + (1 : Nat)) (0 : Nat) (0 : Nat) Cap.tight], Ent.tbl false (Sh.struct [Sh.str, Sh.int IntKind.i64]) [], Ent.tbl false Sh.str t])
        (br (decide (a ≥ (0 : Int)))
          (br (decide ((0 : Int) ≤ a) && decide (a ≤ (↑n : Int)) && (decide ((0 : Int) ≤ a) && decide (a ≤ (↑a.toNat : Int)) && true))
            (br (decide ((0 : Int) ≤ IntKind.i64.wrap (a + (1 : Int))) && decide (IntKind.i64.wrap (a + (1 : Int)) ≤ (↑n : Int)))
              (br ((a.toNat - (0 : Nat) + (List.take (n - (IntKind.i64.wrap (a + (1 : Int))).toNat) (List.drop ((0 : Nat) + (IntKind.i64.wrap (a + (1 : Int))).toNat) t)).length).ble (a.toNat - (0 : Nat)))
                (br (((0 : Nat) + (IntKind.i64.wrap (a + (1 : Int))).toNat + (n - (IntKind.i64.wrap (a + (1 : Int))).toNat)).ble t.length && (((3 : Nat) * (a.toNat - (0 : Nat) + (List.take (n - (IntKind.i64.wrap (a + (1 : Int))).toNat) (List.drop ((0 : Nat) + (IntKind.i64.wrap (a + (1 : Int))).toNat) t)).length) + (2000 : Nat)) * (16 : Nat)).ble (281474976710656 : Nat) && ((0 : Nat) + (a.toNat - (0 : Nat)) + (List.take (n - (IntKind.i64.wrap (a + (1 : Int))).toNat) (List.drop ((0 : Nat) + (IntKind.i64.wrap (a + (1 : Int))).toNat) t)).length).ble t.length)
                  (more ([AV.fz fo (Sh.struct [Sh.int IntKind.i64, Sh.str]) o, AV.str x, AV.int IntKind.i64 op, .any, .any, .any, .any, .any, AV.ptr (some ((0 : Nat), (0 : Nat))), AV.tsl false Sh.str ((1 : Nat) + (1 : Nat) + (1 : Nat)) (0 : Nat) (a.toNat - (0 : Nat) + (List.take (n - (IntKind.i64.wrap (a + (1 : Int))).toNat) (List.drop ((0 : Nat) + (IntKind.i64.wrap (a + (1 : Int))).toNat) t)).length) Cap.tight, AV.int IntKind.i64 (IntKind.i64.wrap ((↑i : Int) + (1 : Int)))] ++ padAny 180) [Ent.cells [AV.ptr (some ((0 : Nat) + (1 : Nat), (0 : Nat)))], Ent.cells [AV.fn (Fn.func (43 : Nat)) [] [], AV.tsl false (Sh.struct [Sh.str, Sh.int IntKind.i64]) ((0 : Nat) + (1 : Nat) + (1 : Nat)) (0 : Nat) (0 : Nat) Cap.tight], Ent.tbl false (Sh.struct [Sh.str, Sh.int IntKind.i64]) [], Ent.tbl false Sh.str (List.take ((0 : Nat) + (a.toNat - (0 : Nat))) t ++ (List.take (n - (IntKind.i64.wrap (a + (1 : Int))).toNat) (List.drop ((0 : Nat) + (IntKind.i64.wrap (a + (1 : Int))).toNat) t) ++ List.drop ((0 : Nat) + (a.toNat - (0 : Nat)) + (List.take (n - (IntKind.i64.wrap (a + (1 : Int))).toNat) (List.drop ((0 : Nat) + (IntKind.i64.wrap (a + (1 : Int))).toNat) t)).length) t))])
                  (False))
                (br (((0 : Nat) + (IntKind.i64.wrap (a + (1 : Int))).toNat + (n - (IntKind.i64.wrap (a + (1 : Int))).toNat)).ble t.length && (((3 : Nat) * (a.toNat - (0 : Nat) + (List.take (n - (IntKind.i64.wrap (a + (1 : Int))).toNat) (List.drop ((0 : Nat) + (IntKind.i64.wrap (a + (1 : Int))).toNat) t)).length) + (2000 : Nat)) * (16 : Nat)).ble (281474976710656 : Nat) && ((0 : Nat) + (a.toNat - (0 : Nat))).ble t.length)
                  (more ([AV.fz fo (Sh.struct [Sh.int IntKind.i64, Sh.str]) o, AV.str x, AV.int IntKind.i64 op, .any, .any, .any, .any, .any, AV.ptr (some ((0 : Nat), (0 : Nat))), AV.tsl false Sh.str ((0 : Nat) + (1 : Nat) + (1 : Nat) + (1 : Nat)) (0 : Nat) (a.toNat - (0 : Nat) + (List.take (n - (IntKind.i64.wrap (a + (1 : Int))).toNat) (List.drop ((0 : Nat) + (IntKind.i64.wrap (a + (1 : Int))).toNat) t)).length) Cap.tight, AV.int IntKind.i64 (IntKind.i64.wrap ((↑i : Int) + (1 : Int)))] ++ padAny 180) [Ent.cells [AV.ptr (some ((0 : Nat) + (1 : Nat), (0 : Nat)))], Ent.cells [AV.fn (Fn.func (43 : Nat)) [] [], AV.tsl false (Sh.struct [Sh.str, Sh.int IntKind.i64]) ((0 : Nat) + (1 : Nat) + (1 : Nat)) (0 : Nat) (0 : Nat) Cap.tight], Ent.tbl false (Sh.struct [Sh.str, Sh.int IntKind.i64]) [], Ent.tbl false Sh.str (List.take (a.toNat - (0 : Nat)) (List.drop (0 : Nat) t) ++ List.take (n - (IntKind.i64.wrap (a + (1 : Int))).toNat) (List.drop ((0 : Nat) + (IntKind.i64.wrap (a + (1 : Int))).toNat) t))])
                  (False)))
              (False))
            (False))
          (more ([AV.fz fo (Sh.struct [Sh.int IntKind.i64, Sh.str]) o, AV.str x, AV.int IntKind.i64 op, .any, .any, .any, .any, .any, AV.ptr (some ((0 : Nat), (0 : Nat))), AV.tsl false Sh.str ((1 : Nat) + (1 : Nat) + (1 : Nat)) (0 : Nat) n Cap.tight, AV.int IntKind.i64 (IntKind.i64.wrap ((↑i : Int) + (1 : Int)))] ++ padAny 180) [Ent.cells [AV.ptr (some ((0 : Nat) + (1 : Nat), (0 : Nat)))], Ent.cells [AV.fn (Fn.func (43 : Nat)) [] [], AV.tsl false (Sh.struct [Sh.str, Sh.int IntKind.i64]) ((0 : Nat) + (1 : Nat) + (1 : Nat)) (0 : Nat) (0 : Nat) Cap.tight], Ent.tbl false (Sh.struct [Sh.str, Sh.int IntKind.i64]) [], Ent.tbl false Sh.str t]))))
    (False) := by kernel_rfl
theorem all_c1 (fo : Bool) (o : List D) (x : List UInt8) (op : Int) (n i : Nat) (s : List UInt8) (a : Int) (k : Nat) (l : List D) (nn : Bool) (z : Nat) (t : List D) (G : LoopS) (more : List AV → St → Prop) (kk : KS) : contR Try.prog prAl (addL 2 (headG 0 kDi G) noL) 100 3 0 2 (againK 0 0 kD kD more kk) .normal (tDi fo o x op 3 n i s a k) (e1S l nn z t) =
  br (decide ((0 : Int) ≤ (↑i : Int)) && decide ((↑i : Int) < (↑o.length : Int)))
    (br (decide (((o.getD (↑i : Int).toNat D.nul).fld (0 : Nat)).asInt = (0 : Int)))
      (br (hasB l s)
        (br (okM (Sh.struct [Sh.str, Sh.int IntKind.i64]) (Sh.struct [Sh.str, Sh.int IntKind.i64]) l z)
          (br (!false == decide (a < (0 : Int)))
            (kk Ex.ret ([AV.fz fo (Sh.struct [Sh.int IntKind.i64, Sh.str]) o, AV.str x, AV.int IntKind.i64 op, .any, .any, .any, .any, .any, AV.ptr (some ((0 : Nat), (0 : Nat))), AV.tsl false Sh.str ((1 : Nat) + (1 : Nat) + (1 : Nat)) (0 : Nat) n Cap.tight, AV.int IntKind.i64 (↑i : Int)] ++ padAny 180) [Ent.cells [AV.ptr (some ((0 : Nat) + (1 : Nat), (0 : Nat)))], Ent.cells [AV.fn (Fn.func (43 : Nat)) [] [], AV.tsl nn (Sh.struct [Sh.str, Sh.int IntKind.i64]) ((0 : Nat) + (1 : Nat) + (1 : Nat)) (0 : Nat) z Cap.tight], Ent.tbl false (Sh.struct [Sh.str, Sh.int IntKind.i64]) (setK l (bs l s) (IntKind.i64.wrap (getK l s + (1 : Int)))), Ent.tbl false Sh.str t])
            (br ((((3 : Nat) * (n + (1 : Nat)) + (2000 : Nat)) * (16 : Nat)).ble (281474976710656 : Nat) && ((0 : Nat) + n).ble t.length)
              (more ([AV.fz fo (Sh.struct [Sh.int IntKind.i64, Sh.str]) o, AV.str x, AV.int IntKind.i64 op, .any, .any, .any, .any, .any, AV.ptr (some ((0 : Nat), (0 : Nat))), AV.tsl false Sh.str ((0 : Nat) + (1 : Nat) + (1 : Nat) + (1 : Nat)) (0 : Nat) (n + (1 : Nat)) Cap.tight, AV.int IntKind.i64 (IntKind.i64.wrap ((↑i : Int) + (1 : Int)))] ++ padAny 180) [Ent.cells [AV.ptr (some ((0 : Nat) + (1 : Nat), (0 : Nat)))], Ent.cells [AV.fn (Fn.func (43 : Nat)) [] [], AV.tsl nn (Sh.struct [Sh.str, Sh.int IntKind.i64]) ((0 : Nat) + (1 : Nat) + (1 : Nat)) (0 : Nat) z Cap.tight], Ent.tbl false (Sh.struct [Sh.str, Sh.int IntKind.i64]) (setK l (bs l s) (IntKind.i64.wrap (getK l s + (1 : Int)))), Ent.tbl false Sh.str (List.take n (List.drop (0 : Nat) t) ++ [D.str s])])
              (False)))
          (False))
        (br (okM (Sh.struct [Sh.str, Sh.int IntKind.i64]) (Sh.struct [Sh.str, Sh.int IntKind.i64]) l z)
          (br (!true == decide (a < (0 : Int)))
            (kk Ex.ret ([AV.fz fo (Sh.struct [Sh.int IntKind.i64, Sh.str]) o, AV.str x, AV.int IntKind.i64 op, .any, .any, .any, .any, .any, AV.ptr (some ((0 : Nat), (0 : Nat))), AV.tsl false Sh.str ((1 : Nat) + (1 : Nat) + (1 : Nat)) (0 : Nat) n Cap.tight, AV.int IntKind.i64 (↑i : Int)] ++ padAny 180) [Ent.cells [AV.ptr (some ((0 : Nat) + (1 : Nat), (0 : Nat)))], Ent.cells [AV.fn (Fn.func (43 : Nat)) [] [], AV.tsl true (Sh.struct [Sh.str, Sh.int IntKind.i64]) ((0 : Nat) + (1 : Nat) + (1 : Nat)) (0 : Nat) (z + (1 : Nat)) Cap.tight], Ent.tbl false (Sh.struct [Sh.str, Sh.int IntKind.i64]) (insK l (bs l s) s (1 : Int)), Ent.tbl false Sh.str t])
            (br ((((3 : Nat) * (n + (1 : Nat)) + (2000 : Nat)) * (16 : Nat)).ble (281474976710656 : Nat) && ((0 : Nat) + n).ble t.length)
              (more ([AV.fz fo (Sh.struct [Sh.int IntKind.i64, Sh.str]) o, AV.str x, AV.int IntKind.i64 op, .any, .any, .any, .any, .any, AV.ptr (some ((0 : Nat), (0 : Nat))), AV.tsl false Sh.str ((0 : Nat) + (1 : Nat) + (1 : Nat) + (1 : Nat)) (0 : Nat) (n + (1 : Nat)) Cap.tight, AV.int IntKind.i64 (IntKind.i64.wrap ((↑i : Int) + (1 : Int)))] ++ padAny 180) [Ent.cells [AV.ptr (some ((0 : Nat) + (1 : Nat), (0 : Nat)))], Ent.cells [AV.fn (Fn.func (43 : Nat)) [] [], AV.tsl true (Sh.struct [Sh.str, Sh.int IntKind.i64]) ((0 : Nat) + (1 : Nat) + (1 : Nat)) (0 : Nat) (z + (1 : Nat)) Cap.tight], Ent.tbl false (Sh.struct [Sh.str, Sh.int IntKind.i64]) (insK l (bs l s) s (1 : Int)), Ent.tbl false Sh.str (List.take n (List.drop (0 : Nat) t) ++ [D.str s])])
              (False)))
          (False)))
      (br (hasB l s)
        (br (decide (getK l s > (1 : Int)))
          (br (okM (Sh.struct [Sh.str, Sh.int IntKind.i64]) (Sh.struct [Sh.str, Sh.int IntKind.i64]) l z)
            (br (!true == decide (a ≥ (0 : Int)))
              (kk Ex.ret ([AV.fz fo (Sh.struct [Sh.int IntKind.i64, Sh.str]) o, AV.str x, AV.int IntKind.i64 op, .any, .any, .any, .any, .any, AV.ptr (some ((0 : Nat), (0 : Nat))), AV.tsl false Sh.str ((1 : Nat) + (1 : Nat) + (1 : Nat)) (0 : Nat) n Cap.tight, AV.int IntKind.i64 (↑i : Int)] ++ padAny 180) [Ent.cells [AV.ptr (some ((0 : Nat) + (1 : Nat), (0 : Nat)))], Ent.cells [AV.fn (Fn.func (43 : Nat)) [] [], AV.tsl nn (Sh.struct [Sh.str, Sh.int IntKind.i64]) ((0 : Nat) + (1 : Nat) + (1 : Nat)) (0 : Nat) z Cap.tight], Ent.tbl false (Sh.struct [Sh.str, Sh.int IntKind.i64]) (setK l (bs l s) (IntKind.i64.wrap (getK l s - (1 : Int)))), Ent.tbl false Sh.str t])
              (br (decide (a ≥ (0 : Int)))
                (br (decide ((0 : Int) ≤ a) && decide (a ≤ (↑n : Int)) && (decide ((0 : Int) ≤ a) && decide (a ≤ (↑a.toNat : Int)) && true))
                  (br (decide ((0 : Int) ≤ IntKind.i64.wrap (a + (1 : Int))) && decide (IntKind.i64.wrap (a + (1 : Int)) ≤ (↑n : Int)))
                    (br ((a.toNat - (0 : Nat) + (List.take (n - (IntKind.i64.wrap (a + (1 : Int))).toNat) (List.drop ((0 : Nat) + (IntKind.i64.wrap (a + (1 : Int))).toNat) t)).length).ble (a.toNat - (0 : Nat)))
                      (br (((0 : Nat) + (IntKind.i64.wrap (a + (1 : Int))).toNat + (n - (IntKind.i64.wrap (a + (1 : Int))).toNat)).ble t.length && (((3 : Nat) * (a.toNat - (0 : Nat) + (List.take (n - (IntKind.i64.wrap (a + (1 : Int))).toNat) (List.drop ((0 : Nat) + (IntKind.i64.wrap (a + (1 : Int))).toNat) t)).length) + (2000 : Nat)) * (16 : Nat)).ble (281474976710656 : Nat) && ((0 : Nat) + (a.toNat - (0 : Nat)) + (List.take (n - (IntKind.i64.wrap (a + (1 : Int))).toNat) (List.drop ((0 : Nat) + (IntKind.i64.wrap (a + (1 : Int))).toNat) t)).length).ble t.length)
                        (more ([AV.fz fo (Sh.struct [Sh.int IntKind.i64, Sh.str]) o, AV.str x, AV.int IntKind.i64 op, .any, .any, .any, .any, .any, AV.ptr (some ((0 : Nat), (0 : Nat))), AV.tsl false Sh.str ((1 : Nat) + (1 : Nat) + (1 : Nat)) (0 : Nat) (a.toNat - (0 : Nat) + (List.take (n - (IntKind.i64.wrap (a + (1 : Int))).toNat) (List.drop ((0 : Nat) + (IntKind.i64.wrap (a + (1 : Int))).toNat) t)).length) Cap.tight, AV.int IntKind.i64 (IntKind.i64.wrap ((↑i : Int) + (1 : Int)))] ++ padAny 180) [Ent.cells [AV.ptr (some ((0 : Nat) + (1 : Nat), (0 : Nat)))], Ent.cells [AV.fn (Fn.func (43 : Nat)) [] [], AV.tsl nn (Sh.struct [Sh.str, Sh.int IntKind.i64]) ((0 : Nat) + (1 : Nat) + (1 : Nat)) (0 : Nat) z Cap.tight], Ent.tbl false (Sh.struct [Sh.str, Sh.int IntKind.i64]) (setK l (bs l s) (IntKind.i64.wrap (getK l s - (1 : Int)))), Ent.tbl false Sh.str (List.take ((0 : Nat) + (a.toNat - (0 : Nat))) t ++ (List.take (n - (IntKind.i64.wrap (a + (1 : Int))).toNat) (List.drop ((0 : Nat) + (IntKind.i64.wrap (a + (1 : Int))).toNat) t) ++ List.drop ((0 : Nat) + (a.toNat - (0 : Nat)) + (List.take (n - (IntKind.i64.wrap (a + (1 : Int))).toNat) (List.drop ((0 : Nat) + (IntKind.i64.wrap (a + (1 : Int))).toNat) t)).length) t))])
                        (False))
                      (br (((0 : Nat) + (IntKind.i64.wrap (a + (1 : Int))).toNat + (n - (IntKind.i64.wrap (a + (1 : Int))).toNat)).ble t.length && (((3 : Nat) * (a.toNat - (0 : Nat) + (List.take (n - (IntKind.i64.wrap (a + (1 : Int))).toNat) (List.drop ((0 : Nat) + (IntKind.i64.wrap (a + (1 : Int))).toNat) t)).length) + (2000 : Nat)) * (16 : Nat)).ble (281474976710656 : Nat) && ((0 : Nat) + (a.toNat - (0 : Nat))).ble t.length)
                        (more ([AV.fz fo (Sh.struct [Sh.int IntKind.i64, Sh.str]) o, AV.str x, AV.int IntKind.i64 op, .any, .any, .any, .any, .any, AV.ptr (some ((0 : Nat), (0 : Nat))), AV.tsl false Sh.str ((0 : Nat) + (1 : Nat) + (1 : Nat) + (1 : Nat)) (0 : Nat) (a.toNat - (0 : Nat) + (List.take (n - (IntKind.i64.wrap (a + (1 : Int))).toNat) (List.drop ((0 : Nat) + (IntKind.i64.wrap (a + (1 : Int))).toNat) t)).length) Cap.tight, AV.int IntKind.i64 (IntKind.i64.wrap ((↑i : Int) + (1 : Int)))] ++ padAny 180) [Ent.cells [AV.ptr (some ((0 : Nat) + (1 : Nat), (0 : Nat)))], Ent.cells [AV.fn (Fn.func (43 : Nat)) [] [], AV.tsl nn (Sh.struct [Sh.str, Sh.int IntKind.i64]) ((0 : Nat) + (1 : Nat) + (1 : Nat)) (0 : Nat) z Cap.tight], Ent.tbl false (Sh.struct [Sh.str, Sh.int IntKind.i64]) (setK l (bs l s) (IntKind.i64.wrap (getK l s - (1 : Int)))), Ent.tbl false Sh.str (List.take (a.toNat - (0 : Nat)) (List.drop (0 : Nat) t) ++ List.take (n - (IntKind.i64.wrap (a + (1 : Int))).toNat) (List.drop ((0 : Nat) + (IntKind.i64.wrap (a + (1 : Int))).toNat) t))])
                        (False)))
                    (False))
                  (False))
                (more ([AV.fz fo (Sh.struct [Sh.int IntKind.i64, Sh.str]) o, AV.str x, AV.int IntKind.i64 op, .any, .any, .any, .any, .any, AV.ptr (some ((0 : Nat), (0 : Nat))), AV.tsl false Sh.str ((1 : Nat) + (1 : Nat) + (1 : Nat)) (0 : Nat) n Cap.tight, AV.int IntKind.i64 (IntKind.i64.wrap ((↑i : Int) + (1 : Int)))] ++ padAny 180) [Ent.cells [AV.ptr (some ((0 : Nat) + (1 : Nat), (0 : Nat)))], Ent.cells [AV.fn (Fn.func (43 : Nat)) [] [], AV.tsl nn (Sh.struct [Sh.str, Sh.int IntKind.i64]) ((0 : Nat) + (1 : Nat) + (1 : Nat)) (0 : Nat) z Cap.tight], Ent.tbl false (Sh.struct [Sh.str, Sh.int IntKind.i64]) (setK l (bs l s) (IntKind.i64.wrap (getK l s - (1 : Int)))), Ent.tbl false Sh.str t])))
            (False))
          (br (okM (Sh.struct [Sh.str, Sh.int IntKind.i64]) (Sh.struct [Sh.str, Sh.int IntKind.i64]) l z)
            (br (!true == decide (a ≥ (0 : Int)))
              (kk Ex.ret ([AV.fz fo (Sh.struct [Sh.int IntKind.i64, Sh.str]) o, AV.str x, AV.int IntKind.i64 op, .any, .any, .any, .any, .any, AV.ptr (some ((0 : Nat), (0 : Nat))), AV.tsl false Sh.str ((1 : Nat) + (1 : Nat) + (1 : Nat)) (0 : Nat) n Cap.tight, AV.int IntKind.i64 (↑i : Int)] ++ padAny 180) [Ent.cells [AV.ptr (some ((0 : Nat) + (1 : Nat), (0 : Nat)))], Ent.cells [AV.fn (Fn.func (43 : Nat)) [] [], AV.tsl true (Sh.struct [Sh.str, Sh.int IntKind.i64]) ((0 : Nat) + (1 : Nat) + (1 : Nat)) (0 : Nat) (z - (1 : Nat)) Cap.tight], Ent.tbl false (Sh.struct [Sh.str, Sh.int IntKind.i64]) (delK l (bs l s)), Ent.tbl false Sh.str t])
              (br (decide (a ≥ (0 : Int)))
                (br (decide ((0 : Int) ≤ a) && decide (a ≤ (↑n : Int)) && (decide ((0 : Int) ≤ a) && decide (a ≤ (↑a.toNat : Int)) && true))
                  (br (decide ((0 : Int) ≤ IntKind.i64.wrap (a + (1 : Int))) && decide (IntKind.i64.wrap (a + (1 : Int)) ≤ (↑n : Int)))
                    (br ((a.toNat - (0 : Nat) + (List.take (n - (IntKind.i64.wrap (a + (1 : Int))).toNat) (List.drop ((0 : Nat) + (IntKind.i64.wrap (a + (1 : Int))).toNat) t)).length).ble (a.toNat - (0 : Nat)))
                      (br (((0 : Nat) + (IntKind.i64.wrap (a + (1 : Int))).toNat + (n - (IntKind.i64.wrap (a + (1 : Int))).toNat)).ble t.length && (((3 : Nat) * (a.toNat - (0 : Nat) + (List.take (n - (IntKind.i64.wrap (a + (1 : Int))).toNat) (List.drop ((0 : Nat) + (IntKind.i64.wrap (a + (1 : Int))).toNat) t)).length) + (2000 : Nat)) * (16 : Nat)).ble (281474976710656 : Nat) && ((0 : Nat) + (a.toNat - (0 : Nat)) + (List.take (n - (IntKind.i64.wrap (a + (1 : Int))).toNat) (List.drop ((0 : Nat) + (IntKind.i64.wrap (a + (1 : Int))).toNat) t)).length).ble t.length)
                        (more ([AV.fz fo (Sh.struct [Sh.int IntKind.i64, Sh.str]) o, AV.str x, AV.int IntKind.i64 op, .any, .any, .any, .any, .any, AV.ptr (some ((0 : Nat), (0 : Nat))), AV.tsl false Sh.str ((1 : Nat) + (1 : Nat) + (1 : Nat)) (0 : Nat) (a.toNat - (0 : Nat) + (List.take (n - (IntKind.i64.wrap (a + (1 : Int))).toNat) (List.drop ((0 : Nat) + (IntKind.i64.wrap (a + (1 : Int))).toNat) t)).length) Cap.tight, AV.int IntKind.i64 (IntKind.i64.wrap ((↑i : Int) + (1 : Int)))] ++ padAny 180) [Ent.cells [AV.ptr (some ((0 : Nat) + (1 : Nat), (0 : Nat)))], Ent.cells [AV.fn (Fn.func (43 : Nat)) [] [], AV.tsl true (Sh.struct [Sh.str, Sh.int IntKind.i64]) ((0 : Nat) + (1 : Nat) + (1 : Nat)) (0 : Nat) (z - (1 : Nat)) Cap.tight], Ent.tbl false (Sh.struct [Sh.str, Sh.int IntKind.i64]) (delK l (bs l s)), Ent.tbl false Sh.str (List.take ((0 : Nat) + (a.toNat - (0 : Nat))) t ++ (List.take (n - (IntKind.i64.wrap (a + (1 : Int))).toNat) (List.drop ((0 : Nat) + (IntKind.i64.wrap (a + (1 : Int))).toNat) t) ++ List.drop ((0 : Nat) + (a.toNat - (0 : Nat)) + (List.take (n - (IntKind.i64.wrap (a + (1 : Int))).toNat) (List.drop ((0 : Nat) + (IntKind.i64.wrap (a + (1 : Int))).toNat) t)).length) t))])
                        (False))
                      (br (((0 : Nat) + (IntKind.i64.wrap (a + (1 : Int))).toNat + (n - (IntKind.i64.wrap (a + (1 : Int))).toNat)).ble t.length && (((3 : Nat) * (a.toNat - (0 : Nat) + (List.take (n - (IntKind.i64.wrap (a + (1 : Int))).toNat) (List.drop ((0 : Nat) + (IntKind.i64.wrap (a + (1 : Int))).toNat) t)).length) + (2000 : Nat)) * (16 : Nat)).ble (281474976710656 : Nat) && ((0 : Nat) + (a.toNat - (0 : Nat))).ble t.length)
                        (more ([AV.fz fo (Sh.struct [Sh.int IntKind.i64, Sh.str]) o, AV.str x, AV.int IntKind.i64 op, .any, .any, .any, .any, .any, AV.ptr (some ((0 : Nat), (0 : Nat))), AV.tsl false Sh.str ((0 : Nat) + (1 : Nat) + (1 : Nat) + (1 : Nat)) (0 : Nat) (a.toNat - (0 : Nat) + (List.take (n - (IntKind.i64.wrap (a + (1 : Int))).toNat) (List.drop ((0 : Nat) + (IntKind.i64.wrap (a + (1 : Int))).toNat) t)).length) Cap.tight, AV.int IntKind.i64 (IntKind.i64.wrap ((↑i : Int) + (1 : Int)))] ++ padAny 180) [Ent.cells [AV.ptr (some ((0 : Nat) + (1 : Nat), (0 : Nat)))], Ent.cells [AV.fn (Fn.func (43 : Nat)) [] [], AV.tsl true (Sh.struct [Sh.str, Sh.int IntKind.i64]) ((0 : Nat) + (1 : Nat) + (1 : Nat)) (0 : Nat) (z - (1 : Nat)) Cap.tight], Ent.tbl false (Sh.struct [Sh.str, Sh.int IntKind.i64]) (delK l (bs l s)), Ent.tbl false Sh.str (List.take (a.toNat - (0 : Nat)) (List.drop (0 : Nat) t) ++ List.take (n - (IntKind.i64.wrap (a + (1 : Int))).toNat) (List.drop ((0 : Nat) + (IntKind.i64.wrap (a + (1 : Int))).toNat) t))])
                        (False)))
                    (False))
                  (False))
                (more ([AV.fz fo (Sh.struct [Sh.int IntKind.i64, Sh.str]) o, AV.str x, AV.int IntKind.i64 op, .any, .any, .any, .any, .any, AV.ptr (some ((0 : Nat), (0 : Nat))), AV.tsl false Sh.str ((1 : Nat) + (1 : Nat) + (1 : Nat)) (0 : Nat) n Cap.tight, AV.int IntKind.i64 (IntKind.i64.wrap ((↑i : Int) + (1 : Int)))] ++ padAny 180) [Ent.cells [AV.ptr (some ((0 : Nat) + (1 : Nat), (0 : Nat)))], Ent.cells [AV.fn (Fn.func (43 : Nat)) [] [], AV.tsl true (Sh.struct [Sh.str, Sh.int IntKind.i64]) ((0 : Nat) + (1 : Nat) + (1 : Nat)) (0 : Nat) (z - (1 : Nat)) Cap.tight], Ent.tbl false (Sh.struct [Sh.str, Sh.int IntKind.i64]) (delK l (bs l s)), Ent.tbl false Sh.str t])))
            (False)))
        (br (okM (Sh.struct [Sh.str, Sh.int IntKind.i64]) (Sh.struct [Sh.str, Sh.int IntKind.i64]) l z)
          (br (!false == decide (a ≥ (0 : Int)))
            (kk Ex.ret ([AV.fz fo (Sh.struct [Sh.int IntKind.i64, Sh.str]) o, AV.str x, AV.int IntKind.i64 op, .any, .any, .any, .any, .any, AV.ptr (some ((0 : Nat), (0 : Nat))), AV.tsl false Sh.str ((1 : Nat) + (1 : Nat) + (1 : Nat)) (0 : Nat) n Cap.tight, AV.int IntKind.i64 (↑i : Int)] ++ padAny 180) [Ent.cells [AV.ptr (some ((0 : Nat) + (1 : Nat), (0 : Nat)))], Ent.cells [AV.fn (Fn.func (43 : Nat)) [] [], AV.tsl nn (Sh.struct [Sh.str, Sh.int IntKind.i64]) ((0 : Nat) + (1 : Nat) + (1 : Nat)) (0 : Nat) z Cap.tight], Ent.tbl false (Sh.struct [Sh.str, Sh.int IntKind.i64]) l, Ent.tbl false Sh.str t])
            (br (decide (a ≥ (0 : Int)))
              (br (decide ((0 : Int) ≤ a) && decide (a ≤ (↑n : Int)) && (decide ((0 : Int) ≤ a) && decide (a ≤ (↑a.toNat : Int)) && true))
                (br (decide ((0 : Int) ≤ IntKind.i64.wrap (a + (1 : Int))) && decide (IntKind.i64.wrap (a + (1 : Int)) ≤ (↑n : Int)))
                  (br ((a.toNat - (0 : Nat) + (List.take (n - (IntKind.i64.wrap (a + (1 : Int))).toNat) (List.drop ((0 : Nat) + (IntKind.i64.wrap (a + (1 : Int))).toNat) t)).length).ble (a.toNat - (0 : Nat)))
                    (br (((0 : Nat) + (IntKind.i64.wrap (a + (1 : Int))).toNat + (n - (IntKind.i64.wrap (a + (1 : Int))).toNat)).ble t.length && (((3 : Nat) * (a.toNat - (0 : Nat) + (List.take (n - (IntKind.i64.wrap (a + (1 : Int))).toNat) (List.drop ((0 : Nat) + (IntKind.i64.wrap (a + (1 : Int))).toNat) t)).length) + (2000 : Nat)) * (16 : Nat)).ble (281474976710656 : Nat) && ((0 : Nat) + (a.toNat - (0 : Nat)) + (List.take (n - (IntKind.i64.wrap (a + (1 : Int))).toNat) (List.drop ((0 : Nat) + (IntKind.i64.wrap (a + (1 : Int))).toNat) t)).length).ble t.length)
                      (more ([AV.fz fo (Sh.struct [Sh.int IntKind.i64, Sh.str]) o, AV.str x, AV.int IntKind.i64 op, .any, .any, .any, .any, .any, AV.ptr (some ((0 : Nat), (0 : Nat))), AV.tsl false Sh.str ((1 : Nat) + (1 : Nat) + (1 : Nat)) (0 : Nat) (a.toNat - (0 : Nat) + (List.take (n - (IntKind.i64.wrap (a + (1 : Int))).toNat) (List.drop ((0 : Nat) + (IntKind.i64.wrap (a + (1 : Int))).toNat) t)).length) Cap.tight, AV.int IntKind.i64 (IntKind.i64.wrap ((↑i : Int) + (1 : Int)))] ++ padAny 180) [Ent.cells [AV.ptr (some ((0 : Nat) + (1 : Nat), (0 : Nat)))], Ent.cells [AV.fn (Fn.func (43 : Nat)) [] [], AV.tsl nn (Sh.struct [Sh.str, Sh.int IntKind.i64]) ((0 : Nat) + (1 : Nat) + (1 : Nat)) (0 : Nat) z Cap.tight], Ent.tbl false (Sh.struct [Sh.str, Sh.int IntKind.i64]) l, Ent.tbl false Sh.str (List.take ((0 : Nat) + (a.toNat - (0 : Nat))) t ++ (List.take (n - (IntKind.i64.wrap (a + (1 : Int))).toNat) (List.drop ((0 : Nat) + (IntKind.i64.wrap (a + (1 : Int))).toNat) t) ++ List.drop ((0 : Nat) + (a.toNat - (0 : Nat)) + (List.take (n - (IntKind.i64.wrap (a + (1 : Int))).toNat) (List.drop ((0 : Nat) + (IntKind.i64.wrap (a + (1 : Int))).toNat) t)).length) t))])
                      (False))
                    (br (((0 : Nat) + (IntKind.i64.wrap (a + (1 : Int))).toNat + (n - (IntKind.i64.wrap (a + (1 : Int))).toNat)).ble t.length && (((3 : Nat) * (a.toNat - (0 : Nat) + (List.take (n - (IntKind.i64.wrap (a + (1 : Int))).toNat) (List.drop ((0 : Nat) + (IntKind.i64.wrap (a + (1 : Int))).toNat) t)).length) + (2000 : Nat)) * (16 : Nat)).ble (281474976710656 : Nat) && ((0 : Nat) + (a.toNat - (0 : Nat))).ble t.length)
                      (more ([AV.fz fo (Sh.struct [Sh.int IntKind.i64, Sh.str]) o, AV.str x, AV.int IntKind.i64 op, .any, .any, .any, .any, .any, AV.ptr (some ((0 : Nat), (0 : Nat))), AV.tsl false Sh.str ((0 : Nat) + (1 : Nat) + (1 : Nat) + (1 : Nat)) (0 : Nat) (a.toNat - (0 : Nat) + (List.take (n - (IntKind.i64.wrap (a + (1 : Int))).toNat) (List.drop ((0 : Nat) + (IntKind.i64.wrap (a + (1 : Int))).toNat) t)).length) Cap.tight, AV.int IntKind.i64 (IntKind.i64.wrap ((↑i : Int) + (1 : Int)))] ++ padAny 180) [Ent.cells [AV.ptr (some ((0 : Nat) + (1 : Nat), (0 : Nat)))], Ent.cells [AV.fn (Fn.func (43 : Nat)) [] [], AV.tsl nn (Sh.struct [Sh.str, Sh.int IntKind.i64]) ((0 : Nat) + (1 : Nat) + (1 : Nat)) (0 : Nat) z Cap.tight], Ent.tbl false (Sh.struct [Sh.str, Sh.int IntKind.i64]) l, Ent.tbl false Sh.str (List.take (a.toNat - (0 : Nat)) (List.drop (0 : Nat) t) ++ List.take (n - (IntKind.i64.wrap (a + (1 : Int))).toNat) (List.drop ((0 : Nat) + (IntKind.i64.wrap (a + (1 : Int))).toNat) t))])
                      (False)))
                  (False))
                (False))
              (more ([AV.fz fo (Sh.struct [Sh.int IntKind.i64, Sh.str]) o, AV.str x, AV.int IntKind.i64 op, .any, .any, .any, .any, .any, AV.ptr (some ((0 : Nat), (0 : Nat))), AV.tsl false Sh.str ((1 : Nat) + (1 : Nat) + (1 : Nat)) (0 : Nat) n Cap.tight, AV.int IntKind.i64 (IntKind.i64.wrap ((↑i : Int) + (1 : Int)))] ++ padAny 180) [Ent.cells [AV.ptr (some ((0 : Nat) + (1 : Nat), (0 : Nat)))], Ent.cells [AV.fn (Fn.func (43 : Nat)) [] [], AV.tsl nn (Sh.struct [Sh.str, Sh.int IntKind.i64]) ((0 : Nat) + (1 : Nat) + (1 : Nat)) (0 : Nat) z Cap.tight], Ent.tbl false (Sh.struct [Sh.str, Sh.int IntKind.i64]) l, Ent.tbl false Sh.str t])))
          (False))))
    (False) := by kernel_rfl
def kDw : List Keep := [.no, .yes, .yes, .no, .no, .no, .no, .no, .yes, .no, .no, .no, .no, .no, .yes, .yes, .yes, .yes]
def tDw (fw : Bool) (w : List D) (x : List UInt8) (op : Int) (r : Int) (h : Bool) (i : Nat) : List AV := [.any, .str x, .int .i64 op, .any, .any, .any, .any, .any, .ptr (some (0, 0)), .any, .any, .any, .any, .any, .fz fw .str w, .int .i64 r, .bool h, .int .i64 (i : Int)] ++ padAny 173
theorem all_w (F1 F2 : LoopS) (fw : Bool) (w : List D) (x : List UInt8) (op : Int) (r : Int) (h : Bool) (i : Nat) (l : List D) (nn : Bool) (z : Nat) (more : List AV → St → Prop) (kk : KS) : roundK Try.prog prAl (addL 0 F1 (addL 2 F2 noL)) 100 3 4 (tDw fw w x op r h i) (a1S 43 l nn z) (againK 0 4 kDw kDw more kk) =
  br (decide ((↑i : Int) < (↑w.length : Int)))
    (br (decide ((0 : Int) ≤ (↑i : Int)) && decide ((↑i : Int) < (↑w.length : Int)))
      (br (okM (Sh.struct [Sh.str, Sh.int IntKind.i64]) (Sh.struct [Sh.str, Sh.int IntKind.i64]) l z)
        (br (okM (Sh.struct [Sh.str, Sh.int IntKind.i64]) (Sh.struct [Sh.str, Sh.int IntKind.i64]) l z)
          (br (!hasB l (w.getD (↑i : Int).toNat D.nul).asStr)
            (kk Ex.ret ([.any, AV.str x, AV.int IntKind.i64 op, .any, .any, .any, .any, .any, AV.ptr (some ((0 : Nat), (0 : Nat))), .any, .any, .any, .any, .any, AV.fz fw Sh.str w, AV.int IntKind.i64 r, AV.bool h, AV.int IntKind.i64 (↑i : Int)] ++ padAny 173) [Ent.cells [AV.ptr (some ((0 : Nat) + (1 : Nat), (0 : Nat)))], Ent.cells [AV.fn (Fn.func (43 : Nat)) [] [], AV.tsl nn (Sh.struct [Sh.str, Sh.int IntKind.i64]) ((0 : Nat) + (1 : Nat) + (1 : Nat)) (0 : Nat) z Cap.tight], Ent.tbl false (Sh.struct [Sh.str, Sh.int IntKind.i64]) l])
            (br (!decide (rankL l (w.getD (↑i : Int).toNat D.nul).asStr = (↑i : Int)))
              (kk Ex.ret ([.any, AV.str x, AV.int IntKind.i64 op, .any, .any, .any, .any, .any, AV.ptr (some ((0 : Nat), (0 : Nat))), .any, .any, .any, .any, .any, AV.fz fw Sh.str w, AV.int IntKind.i64 r, AV.bool h, AV.int IntKind.i64 (↑i : Int)] ++ padAny 173) [Ent.cells [AV.ptr (some ((0 : Nat) + (1 : Nat), (0 : Nat)))], Ent.cells [AV.fn (Fn.func (43 : Nat)) [] [], AV.tsl nn (Sh.struct [Sh.str, Sh.int IntKind.i64]) ((0 : Nat) + (1 : Nat) + (1 : Nat)) (0 : Nat) z Cap.tight], Ent.tbl false (Sh.struct [Sh.str, Sh.int IntKind.i64]) l])
              (br (!inL l (↑i : Int))
                (kk Ex.ret ([.any, AV.str x, AV.int IntKind.i64 op, .any, .any, .any, .any, .any, AV.ptr (some ((0 : Nat), (0 : Nat))), .any, .any, .any, .any, .any, AV.fz fw Sh.str w, AV.int IntKind.i64 r, AV.bool h, AV.int IntKind.i64 (↑i : Int)] ++ padAny 173) [Ent.cells [AV.ptr (some ((0 : Nat) + (1 : Nat), (0 : Nat)))], Ent.cells [AV.fn (Fn.func (43 : Nat)) [] [], AV.tsl nn (Sh.struct [Sh.str, Sh.int IntKind.i64]) ((0 : Nat) + (1 : Nat) + (1 : Nat)) (0 : Nat) z Cap.tight], Ent.tbl false (Sh.struct [Sh.str, Sh.int IntKind.i64]) l])
                (br (decide ((0 : Int) ≤ (↑i : Int)) && decide ((↑i : Int) < (↑w.length : Int)))
                  (br (!eqBytes (atK l (↑i : Int)) (w.getD (↑i : Int).toNat D.nul).asStr)
                    (kk Ex.ret ([.any, AV.str x, AV.int IntKind.i64 op, .any, .any, .any, .any, .any, AV.ptr (some ((0 : Nat), (0 : Nat))), .any, .any, .any, .any, .any, AV.fz fw Sh.str w, AV.int IntKind.i64 r, AV.bool h, AV.int IntKind.i64 (↑i : Int)] ++ padAny 173) [Ent.cells [AV.ptr (some ((0 : Nat) + (1 : Nat), (0 : Nat)))], Ent.cells [AV.fn (Fn.func (43 : Nat)) [] [], AV.tsl nn (Sh.struct [Sh.str, Sh.int IntKind.i64]) ((0 : Nat) + (1 : Nat) + (1 : Nat)) (0 : Nat) z Cap.tight], Ent.tbl false (Sh.struct [Sh.str, Sh.int IntKind.i64]) l])
                    (br (decide ((0 : Int) ≤ (↑i : Int)) && decide ((↑i : Int) < (↑w.length : Int)))
                      (br (eqBytes (w.getD (↑i : Int).toNat D.nul).asStr x)
                        (more ([.any, AV.str x, AV.int IntKind.i64 op, .any, .any, .any, .any, .any, AV.ptr (some ((0 : Nat), (0 : Nat))), .any, .any, .any, .any, .any, AV.fz fw Sh.str w, AV.int IntKind.i64 (↑i : Int), AV.bool true, AV.int IntKind.i64 (IntKind.i64.wrap ((↑i : Int) + (1 : Int)))] ++ padAny 173) [Ent.cells [AV.ptr (some ((0 : Nat) + (1 : Nat), (0 : Nat)))], Ent.cells [AV.fn (Fn.func (43 : Nat)) [] [], AV.tsl nn (Sh.struct [Sh.str, Sh.int IntKind.i64]) ((0 : Nat) + (1 : Nat) + (1 : Nat)) (0 : Nat) z Cap.tight], Ent.tbl false (Sh.struct [Sh.str, Sh.int IntKind.i64]) l])
                        (more ([.any, AV.str x, AV.int IntKind.i64 op, .any, .any, .any, .any, .any, AV.ptr (some ((0 : Nat), (0 : Nat))), .any, .any, .any, .any, .any, AV.fz fw Sh.str w, AV.int IntKind.i64 r, AV.bool h, AV.int IntKind.i64 (IntKind.i64.wrap ((↑i : Int) + (1 : Int)))] ++ padAny 173) [Ent.cells [AV.ptr (some ((0 : Nat) + (1 : Nat), (0 : Nat)))], Ent.cells [AV.fn (Fn.func (43 : Nat)) [] [], AV.tsl nn (Sh.struct [Sh.str, Sh.int IntKind.i64]) ((0 : Nat) + (1 : Nat) + (1 : Nat)) (0 : Nat) z Cap.tight], Ent.tbl false (Sh.struct [Sh.str, Sh.int IntKind.i64]) l]))
                      (False)))
                  (False)))))
          (False))
        (False))
      (False))
    (kk Ex.normal ([.any, AV.str x, AV.int IntKind.i64 op, .any, .any, .any, .any, .any, AV.ptr (some ((0 : Nat), (0 : Nat))), .any, .any, .any, .any, .any, AV.fz fw Sh.str w, AV.int IntKind.i64 r, AV.bool h, AV.int IntKind.i64 (↑i : Int)] ++ padAny 173) [Ent.cells [AV.ptr (some ((1 : Nat), (0 : Nat)))], Ent.cells [AV.fn (Fn.func (43 : Nat)) [] [], AV.tsl nn (Sh.struct [Sh.str, Sh.int IntKind.i64]) (2 : Nat) (0 : Nat) z Cap.tight], Ent.tbl false (Sh.struct [Sh.str, Sh.int IntKind.i64]) l]) := by kernel_rfl
theorem all_b (fo : Bool) (o : List D) (x : List UInt8) (op : Int) (G H I : LoopS) (K : AV → St → Prop) : bodyK Try.prog prAl (addL 4 (headG 0 kDw I) (addL 0 (headG 0 kD H) (addL 2 (headG 0 kDi G) noL))) 100 3 [] [.fz fo shOp o, .str x, .int .i64 op] [] K  =
  H (([AV.fz fo (Sh.struct [Sh.int IntKind.i64, Sh.str]) o, AV.str (cutS x (10 : Int)), AV.int IntKind.i64 op, .any, .any, .any, .any, .any, AV.ptr (some ((0 : Nat), (0 : Nat))), AV.tsl false Sh.str ((0 : Nat) + (1 : Nat)) (0 : Nat) (0 : Nat) Cap.tight, AV.int IntKind.i64 (0 : Int)] ++ padAny 180)) ([Ent.cells [AV.ptr none], Ent.tbl false Sh.str []]) (contB Try.prog prAl (addL 4 (headG 0 kDw I) (addL 0 (headG 0 kD H) (addL 2 (headG 0 kDi G) noL))) 100 3 [] [] 0 K) := by kernel_rfl
theorem all_m0 (fo : Bool) (o : List D) (x : List UInt8) (op : Int) (n i : Nat) (t : List D) (G H I : LoopS) (K : AV → St → Prop) : contB Try.prog prAl (addL 4 (headG 0 kDw I) (addL 0 (headG 0 kD H) (addL 2 (headG 0 kDi G) noL))) 100 3 [] [] 0 K .normal (tD fo o x op 1 n i) (e0S t)  =
  br (((0 : Nat) + n).ble t.length && true)
    (br ((List.take n (List.drop (0 : Nat) t)).length.blt (1000000 : Nat))
      (br (!decide ((0 : Int) = (↑(wordsD (List.take n (List.drop (0 : Nat) t))).length : Int)))
        (K (AV.bool false) [])
        (I (([.any, AV.str x, AV.int IntKind.i64 op, .any, .any, .any, .any, .any, AV.ptr (some ((0 : Nat), (0 : Nat))), .any, .any, .any, .any, .any, AV.fz false Sh.str (wordsD (List.take n (List.drop (0 : Nat) t))), AV.int IntKind.i64 (0 : Int), AV.bool false, AV.int IntKind.i64 (0 : Int)] ++ padAny 173)) ([Ent.cells [AV.ptr (some ((0 : Nat) + (1 : Nat), (0 : Nat)))], Ent.cells [AV.fn (Fn.func (43 : Nat)) [] [], AV.tsl false (Sh.struct [Sh.str, Sh.int IntKind.i64]) ((0 : Nat) + (1 : Nat) + (1 : Nat)) (0 : Nat) (0 : Nat) Cap.tight], Ent.tbl false (Sh.struct [Sh.str, Sh.int IntKind.i64]) []]) (contB Try.prog prAl (addL 4 (headG 0 kDw I) (addL 0 (headG 0 kD H) (addL 2 (headG 0 kDi G) noL))) 100 3 [] [] 4 K)))
      (False))
    (False) := by kernel_rfl
theorem all_m1 (fo : Bool) (o : List D) (x : List UInt8) (op : Int) (n i : Nat) (l : List D) (nn : Bool) (z : Nat) (t : List D) (G H I : LoopS) (K : AV → St → Prop) : contB Try.prog prAl (addL 4 (headG 0 kDw I) (addL 0 (headG 0 kD H) (addL 2 (headG 0 kDi G) noL))) 100 3 [] [] 0 K .normal (tD fo o x op 3 n i) (e1S l nn z t)  =
  br (((0 : Nat) + n).ble t.length && true)
    (br ((List.take n (List.drop (0 : Nat) t)).length.blt (1000000 : Nat))
      (br (okM (Sh.struct [Sh.str, Sh.int IntKind.i64]) (Sh.struct [Sh.str, Sh.int IntKind.i64]) l z)
        (br (!decide ((↑z : Int) = (↑(wordsD (List.take n (List.drop (0 : Nat) t))).length : Int)))
          (K (AV.bool false) [])
          (I (([.any, AV.str x, AV.int IntKind.i64 op, .any, .any, .any, .any, .any, AV.ptr (some ((0 : Nat), (0 : Nat))), .any, .any, .any, .any, .any, AV.fz false Sh.str (wordsD (List.take n (List.drop (0 : Nat) t))), AV.int IntKind.i64 (0 : Int), AV.bool false, AV.int IntKind.i64 (0 : Int)] ++ padAny 173)) ([Ent.cells [AV.ptr (some ((0 : Nat) + (1 : Nat), (0 : Nat)))], Ent.cells [AV.fn (Fn.func (43 : Nat)) [] [], AV.tsl nn (Sh.struct [Sh.str, Sh.int IntKind.i64]) ((0 : Nat) + (1 : Nat) + (1 : Nat)) (0 : Nat) z Cap.tight], Ent.tbl false (Sh.struct [Sh.str, Sh.int IntKind.i64]) l]) (contB Try.prog prAl (addL 4 (headG 0 kDw I) (addL 0 (headG 0 kD H) (addL 2 (headG 0 kDi G) noL))) 100 3 [] [] 4 K)))
        (False))
      (False))
    (False) := by kernel_rfl
theorem all_e (fw : Bool) (w : List D) (x : List UInt8) (op : Int) (r : Int) (h : Bool) (i : Nat) (l : List D) (nn : Bool) (z : Nat) (G H I : LoopS) (K : AV → St → Prop) : contB Try.prog prAl (addL 4 (headG 0 kDw I) (addL 0 (headG 0 kD H) (addL 2 (headG 0 kDi G) noL))) 100 3 [] [] 4 K .normal (tDw fw w x op r h i) (a1S 43 l nn z) =
  br (okM (Sh.struct [Sh.str, Sh.int IntKind.i64]) (Sh.struct [Sh.str, Sh.int IntKind.i64]) l z)
    (br (okM (Sh.struct [Sh.str, Sh.int IntKind.i64]) (Sh.struct [Sh.str, Sh.int IntKind.i64]) l z)
      (br (okM (Sh.struct [Sh.str, Sh.int IntKind.i64]) (Sh.struct [Sh.str, Sh.int IntKind.i64]) l z)
        (br (decide (rankL l x = r))
          (br (hasB l x == h)
            (br (!inL l (↑w.length : Int))
              (br (okM (Sh.struct [Sh.str, Sh.int IntKind.i64]) (Sh.struct [Sh.str, Sh.int IntKind.i64]) l z && (sameK w l && sortB l))
                (K (AV.bool true) [])
                (False))
              (K (AV.bool false) []))
            (K (AV.bool false) []))
          (K (AV.bool false) []))
        (False))
      (False))
    (False) := by kernel_rfl
theorem prAl_ok : PrOk Try.prog prAl := prOk_add cut_ok (prOk_add wordsL_ok (prOk_add span_ok2 prG_ok))
/-- The inner loop. -/
def MDi (fo : Bool) (o : List D) (x : List UInt8) (op : Int) (m : Nat) (tt : List AV) (st : St) (kk : KS) : Prop := ∃ (b n i : Nat) (s : List UInt8) (k : Nat) (t : List D) (st0 : St), ((b = 1 ∧ st0 = e0S t) ∨ (b = 3 ∧ ∃ l nn z, st0 = e1S l nn z t)) ∧ m + k = n ∧ n ≤ t.length ∧ n ≤ 50 ∧
  tt = tDi fo o x op b n i s (lastUp t s k) k ∧ st = st0 ∧ kk .normal (tDi fo o x op b n i s (lastUp t s n) n) st0
theorem all_step2 (fo : Bool) (o : List D) (x : List UInt8) (op : Int) : ∀ m t s kk, MDi fo o x op m t s kk → roundK Try.prog prAl noL 100 3 2 t s (againK 0 2 kDi kDi (fun t' s' => ∃ m', m' < m ∧ MDi fo o x op m' t' s' kk) kk) := by
  rintro m tt st kk ⟨b, n, i, s, k, t, st0, hf, hm, hn, h50, rfl, rfl, hk⟩
  have upd : ∀ a : Int, k < n → a = lastUp t s (k + 1) → ∃ m', m' < m ∧ MDi fo o x op m' (tDi fo o x op b n i s a (k + 1)) st kk := by
    rintro a h rfl
    exact ⟨m - 1, by omega, b, n, i, s, k + 1, t, st, hf, by omega, hn, h50, rfl, rfl, hk⟩
  have hend : ¬ (k : Int) < n → kk .normal (tDi fo o x op b n i s (lastUp t s k) k) st := by
    intro h
    have : k = n := by omega
    subst this
    exact hk
  have go : ∀ R : (Int → Nat → Prop), (∀ a : Int, k < n → a = lastUp t s (k + 1) → R a (k + 1)) → (k < n → br (decide ((0 : Int) ≤ (k : Int)) && decide ((k : Int) < (n : Int))) (br (decide ((0 : Nat) + (k : Int).toNat < t.length)) (br (eqBytes (t.getD ((0 : Nat) + (k : Int).toNat) D.nul).asStr s) (R (k : Int) (k + 1)) (R (lastUp t s k) (k + 1))) False) False) := by
    intro R hR h
    refine br_t (by (simp only [Bool.and_eq_true, decide_eq_true_eq, and_true]; omega)) (br_t (by (simp only [Bool.and_eq_true, decide_eq_true_eq, and_true]; omega)) ?_)
    rw [Int.toNat_natCast, Nat.zero_add]
    refine br_mk (fun h2 => hR _ h ?_) (fun h2 => hR _ h ?_)
    · rw [lastUp, h2]
    · rw [lastUp, h2]
  have hw : k < n → IntKind.i64.wrap ((k : Int) + 1) = ((k + 1 : Nat) : Int) := fun h => by rw [wrap64 (by omega) (by omega)]; rfl
  rcases hf with ⟨rfl, rfl⟩ | ⟨rfl, l, nn, z, rfl⟩
  · rw [all_i0]
    refine br_iff.2 ⟨fun h1 => ?_, fun h1 => hend h1⟩
    have h : k < n := by omega
    rw [hw h]
    exact go (fun a k' => ∃ m', m' < m ∧ MDi fo o x op m' (tDi fo o x op 1 n i s a k') (e0S t) kk) upd h
  · rw [all_i1]
    refine br_iff.2 ⟨fun h1 => ?_, fun h1 => hend h1⟩
    have h : k < n := by omega
    rw [hw h]
    exact go (fun a k' => ∃ m', m' < m ∧ MDi fo o x op m' (tDi fo o x op 3 n i s a k') (e1S l nn z t) kk) upd h
def MDa (fo : Bool) (o : List D) (x : List UInt8) (op : Int) (m : Nat) (tt : List AV) (st : St) (kk : KS) : Prop := ∃ (n i : Nat) (t : List D), m + i = o.length ∧ n ≤ t.length ∧ n ≤ i ∧ i ≤ 50 ∧
  ((n = 0 ∧ tt = tD fo o x op 1 n i ∧ st = e0S t) ∨ (∃ l nn, l.length ≤ i ∧ InvD l (t.take n) ∧ tt = tD fo o x op 3 n i ∧ st = e1S l nn l.length t)) ∧
  (∀ (i : Nat) (t : List D), kk .normal (tD fo o x op 1 0 i) (e0S t)) ∧ (∀ (n i : Nat) (l : List D) (nn : Bool) (t : List D), n ≤ t.length → n ≤ 50 → l.length ≤ 50 → InvD l (t.take n) → kk .normal (tD fo o x op 3 n i) (e1S l nn l.length t))
theorem takeW_len (l : List D) (k : List UInt8) : (takeW l k).length ≤ l.length := by
  unfold takeW
  cases h : hasB l k
  · simp
  · cases h2 : decide (getK l k > 1)
    · simp only [delK_len l (hasB_lt h)]; omega
    · simp only [setK_len]; omega
theorem all_step (fo : Bool) (o : List D) (x : List UInt8) (op : Int) : ∀ m t s kk, MDa fo o x op m t s kk → roundK Try.prog prAl (addL 2 (headG 0 kDi (byM (MDi fo o x op))) noL) 100 3 0 t s (againK 0 0 kD kD (fun t' s' => ∃ m', m' < m ∧ MDa fo o x op m' t' s' kk) kk) := by
  rintro m tt st kk ⟨n, i, t, hm, hn, hni, hi50, hf, hk0, hk1⟩
  have nextA : ∀ (l : List D) (nn : Bool) (n' z : Nat) (t' : List D), (i : Int) < o.length → (i : Int) < 50 → z = l.length → n' ≤ t'.length → n' ≤ i + 1 → l.length ≤ i + 1 → InvD l (t'.take n') → ∃ m', m' < m ∧ MDa fo o x op m' (tD fo o x op 3 n' (i + 1)) (e1S l nn z t') kk := by
    rintro l nn n' z t' g1 g2 rfl h1 h2 h3 h4
    exact ⟨m - 1, by omega, n', i + 1, t', by omega, h1, h2, by omega, .inr ⟨l, nn, h3, h4, rfl, rfl⟩, hk0, hk1⟩
  rcases hf with ⟨rfl, rfl, rfl⟩ | ⟨l, nn, hli, hinv, rfl, rfl⟩
  · refine Eq.mpr (all_r0 ..) ?_
    refine br_iff.2 ⟨fun h1 => br_iff.2 ⟨fun h2 => br_t (by (simp only [Bool.and_eq_true, decide_eq_true_eq, and_true]; omega)) ?_, fun h2 => hk0 i t⟩, fun h1 => hk0 i t⟩
    refine ⟨0, 1, 0, i, _, 0, t, _, .inl ⟨rfl, rfl⟩, rfl, hn, by omega, rfl, rfl, ?_⟩
    rw [all_c0]
    have hw : IntKind.i64.wrap ((i : Int) + 1) = ((i + 1 : Nat) : Int) := by rw [wrap64 (by omega) (by omega)]; rfl
    rw [hw]
    have ha : lastUp t (cutS ((o.getD (i : Int).toNat D.nul).fld 1).asStr 10) 0 = -1 := rfl
    rw [ha]
    generalize cutS ((o.getD (i : Int).toNat D.nul).fld 1).asStr 10 = s
    refine br_t (by (simp only [Bool.and_eq_true, decide_eq_true_eq, and_true]; omega)) (br_mk (fun _ => br_mk (fun h => by cases h) (fun _ => br_t (by simp) ?_)) (fun _ => br_mk (fun h => by cases h) (fun _ => br_mk (fun h => by cases h) (fun _ => ?_))))
    · have hi := (InvD.nil).add (by simp) s
      exact nextA (insK [] 0 s 1) true 1 1 _ h1 h2 rfl (by simp) (by omega) (by simp [insK]) hi
    · exact nextA [] false 0 0 t h1 h2 rfl (by omega) (by omega) (by simp) InvD.nil
  · refine Eq.mpr (all_r1 ..) ?_
    refine br_iff.2 ⟨fun h1 => br_iff.2 ⟨fun h2 => br_t (by (simp only [Bool.and_eq_true, decide_eq_true_eq, and_true]; omega)) ?_, fun h2 => hk1 n i l nn t hn (by omega) (by omega) hinv⟩, fun h1 => hk1 n i l nn t hn (by omega) (by omega) hinv⟩
    refine ⟨n, 3, n, i, _, 0, t, _, .inr ⟨rfl, l, nn, _, rfl⟩, rfl, hn, by omega, rfl, rfl, ?_⟩
    rw [all_c1]
    have hw : IntKind.i64.wrap ((i : Int) + 1) = ((i + 1 : Nat) : Int) := by rw [wrap64 (by omega) (by omega)]; rfl
    rw [hw]
    generalize cutS ((o.getD (i : Int).toNat D.nul).fld 1).asStr 10 = s
    have hlen : (t.take n).length = n := by simp; omega
    have okl := okM_mk (l := l) rfl (by omega)
    have hup := lastUp_law t s n
    have hcap : ((((3 : Nat) * (n + (1 : Nat)) + (2000 : Nat)) * (16 : Nat)).ble (281474976710656 : Nat) && ((0 : Nat) + n).ble t.length) = true := by simp; omega
    have hmemw : (∃ j : Nat, j < n ∧ (t.getD j .nul).asStr = s) ↔ s ∈ strsD (t.take n) := by
      rw [mem_strs, hlen]
      constructor
      · rintro ⟨j, hj, e⟩; exact ⟨j, hj, by rw [getD_take hj]; exact e⟩
      · rintro ⟨j, hj, e⟩; exact ⟨j, hj, by rw [getD_take hj] at e; exact e⟩
    have hadd := hinv.add (by omega) s
    have hsnoc : (t.take n ++ [D.str s]).take (n + 1) = t.take n ++ [D.str s] := List.take_of_length_le (by simp; omega)
    refine br_t (by (simp only [Bool.and_eq_true, decide_eq_true_eq, and_true]; omega)) (br_mk (fun _ => br_mk (fun hh => br_t okl ?_) (fun hh => br_t okl ?_)) (fun _ => br_mk (fun hh => br_mk (fun hg => br_t okl ?_) (fun hg => br_t okl ?_)) (fun hh => br_t okl ?_)))
    · rcases hup with ⟨ha, hno⟩ | ⟨j, hj, ha, hs⟩
      · exfalso
        obtain ⟨j, hj, e⟩ := hmemw.2 ((hinv.has s).1 hh)
        exact hno j hj e
      · rw [ha]
        refine br_mk (fun h => by simp at h; omega) (fun _ => br_t hcap ?_)
        rw [addW_t hh] at hadd
        exact nextA _ nn (n + 1) _ _ h1 h2 (setK_len ..).symm (by simp; omega) (by omega) (by rw [setK_len]; omega) (by rw [List.drop_zero, hsnoc]; exact hadd)
    · rcases hup with ⟨ha, hno⟩ | ⟨j, hj, ha, hs⟩
      · rw [ha]
        refine br_mk (fun h => by cases h) (fun _ => br_t hcap ?_)
        rw [addW_f hh] at hadd
        exact nextA _ true (n + 1) _ _ h1 h2 (insK_len _ _ _ (bs_le ..)).symm (by simp; omega) (by omega) (by rw [insK_len _ _ _ (bs_le ..)]; omega) (by rw [List.drop_zero, hsnoc]; exact hadd)
      · exfalso
        rw [(hinv.has s).2 (hmemw.1 ⟨j, hj, hs⟩)] at hh
        cases hh
    · rcases hup with ⟨ha, hno⟩ | ⟨j, hj, ha, hs⟩
      · exfalso
        obtain ⟨j, hj, e⟩ := hmemw.2 ((hinv.has s).1 hh)
        exact hno j hj e
      · rw [ha]
        have htk := (hinv.take (by omega) (i := j) (k := s) (by omega) (by rw [getD_take hj]; exact hs)).1
        have htl := takeW_len l s
        unfold takeW at htk htl
        rw [hh] at htk htl
        simp only [hg] at htk htl
        refine br_mk (fun h => by simp at h) (fun _ => br_t (by (simp only [Bool.and_eq_true, decide_eq_true_eq, and_true]; omega)) (del_tail t n j hj hn (by omega) (fun n' t' => ∃ m', m' < m ∧ MDa fo o x op m' (tD fo o x op 3 n' (i + 1)) (e1S (setK l (bs l s) (IntKind.i64.wrap (getK l s - 1))) nn l.length t') kk) fun n' t' e1 e2 e3 => ?_))
        exact nextA _ nn n' _ t' h1 h2 (setK_len ..).symm e2 (by omega) (by omega) (by rw [e3]; exact htk)
    · rcases hup with ⟨ha, hno⟩ | ⟨j, hj, ha, hs⟩
      · exfalso
        obtain ⟨j, hj, e⟩ := hmemw.2 ((hinv.has s).1 hh)
        exact hno j hj e
      · rw [ha]
        have htk := (hinv.take (by omega) (i := j) (k := s) (by omega) (by rw [getD_take hj]; exact hs)).1
        have htl := takeW_len l s
        unfold takeW at htk htl
        rw [hh] at htk htl
        simp only [hg] at htk htl
        refine br_mk (fun h => by simp at h) (fun _ => br_t (by (simp only [Bool.and_eq_true, decide_eq_true_eq, and_true]; omega)) (del_tail t n j hj hn (by omega) (fun n' t' => ∃ m', m' < m ∧ MDa fo o x op m' (tD fo o x op 3 n' (i + 1)) (e1S (delK l (bs l s)) true (l.length - 1) t') kk) fun n' t' e1 e2 e3 => ?_))
        exact nextA _ true n' _ t' h1 h2 (delK_len _ (hasB_lt hh)).symm e2 (by omega) (by omega) (by rw [e3]; exact htk)
    · rcases hup with ⟨ha, hno⟩ | ⟨j, hj, ha, hs⟩
      · rw [ha]
        refine br_mk (fun h => by cases h) (fun _ => br_mk (fun h => by cases h) (fun _ => ?_))
        exact nextA l nn n _ t h1 h2 rfl hn (by omega) (by omega) hinv
      · exfalso
        rw [(hinv.has s).2 (hmemw.1 ⟨j, hj, hs⟩)] at hh
        cases hh
end Go.Proofs.Ytkfdfenaaidkkaa
