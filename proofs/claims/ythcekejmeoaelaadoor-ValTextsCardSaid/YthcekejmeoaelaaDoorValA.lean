/- Walks: values: the program's and the reference's functions. -/
import Derived.Test.YthcekejmeoaelaaDoorPvG
import Derived.Test.YthcekejmeoaelaaDoorVal
import Derived.Test.YthcekejmeoaelaaDoorLay
import Derived.Test.YthcekejmeoaelaaDoorSyZ
set_option linter.unusedSimpArgs false
set_option linter.unusedVariables false
set_option maxRecDepth 100000
namespace Go.Proofs.YthcekejmeoaelaaDoor
open Go Go.Sy Go.Shelf
attribute [local irreducible] bodyK roundK
theorem nanI_body (a : Int) (k : AV → St → Prop) : bodyK Tryd.prog noP noL 100 45 [] [.int .i64 a] [] k =
  k (AV.bool !decide (a = a)) [] := by kernel_rfl
theorem nanI_ok : SpecOk Tryd.prog 45 nanIF.f := specOk_comes fun args s v s' tch e => by
  simp only [nanIF] at e
  split at e
  · rename_i a
    obtain ⟨hg, rfl, rfl, rfl⟩ := run_ok e
    refine comes_of ok prOk_none (L := 100) (ms := []) (by kernel_rfl) loops_none ?_
    rw [nanI_body]
    exact ⟨by simp, rfl⟩
  · cases e
theorem nanJ_body (a : Int) (k : AV → St → Prop) : bodyK Tryd.prog noP noL 100 46 [] [.int .i64 a] [] k =
  k (AV.bool !decide (a = a)) [] := by kernel_rfl
theorem nanJ_ok : SpecOk Tryd.prog 46 nanIF.f := specOk_comes fun args s v s' tch e => by
  simp only [nanIF] at e
  split at e
  · rename_i a
    obtain ⟨hg, rfl, rfl, rfl⟩ := run_ok e
    refine comes_of ok prOk_none (L := 100) (ms := []) (by kernel_rfl) loops_none ?_
    rw [nanJ_body]
    exact ⟨by simp, rfl⟩
  · cases e
theorem nanS_body (a : List UInt8) (k : AV → St → Prop) : bodyK Tryd.prog noP noL 100 47 [] [.str a] [] k =
  k (AV.bool !eqBytes a a) [] := by kernel_rfl
theorem nanS_ok : SpecOk Tryd.prog 47 nanSF.f := specOk_comes fun args s v s' tch e => by
  simp only [nanSF] at e
  split at e
  · rename_i a
    obtain ⟨hg, rfl, rfl, rfl⟩ := run_ok e
    refine comes_of ok prOk_none (L := 100) (ms := []) (by kernel_rfl) loops_none ?_
    rw [nanS_body]
    exact ⟨by rw [eqBytes_refl]; rfl, rfl⟩
  · cases e
def prNI : FuncId → Option Sy.Spec := addP 45 nanIF noP
theorem cmpI_body (a b : Int) (k : AV → St → Prop) : bodyK Tryd.prog prNI noL 100 33 [] [.int .i64 a, .int .i64 b] [] k =
  br (decide (a < b))
    (k (AV.int IntKind.i64 (-1 : Int)) [])
    (br (decide (a > b))
      (k (AV.int IntKind.i64 (1 : Int)) [])
      (k (AV.int IntKind.i64 (0 : Int)) [])) := by kernel_rfl
theorem cmpI_ok : SpecOk Tryd.prog 33 cmpIF.f := specOk_comes fun args s v s' tch e => by
  simp only [cmpIF] at e
  split at e
  · rename_i a b
    obtain ⟨hg, rfl, rfl, rfl⟩ := run_ok e
    refine comes_of ok (prOk_add nanI_ok prOk_none) (L := 100) (ms := []) (by kernel_rfl) loops_none ?_
    refine Eq.mpr (cmpI_body a b _) ?_
    simp only [br_iff]
    refine ⟨fun h => ⟨by rw [cmpI, if_pos h], trivial⟩, fun h => ⟨fun h' => ⟨by rw [cmpI, if_neg h, if_pos h'], trivial⟩, fun h' => ⟨by rw [cmpI, if_neg h, if_neg h'], trivial⟩⟩⟩
  · cases e
def prNJ : FuncId → Option Sy.Spec := addP 46 nanIF noP
theorem cmpJ_body (a b : Int) (k : AV → St → Prop) : bodyK Tryd.prog prNJ noL 100 34 [] [.int .i64 a, .int .i64 b] [] k =
  br (decide (a < b))
    (k (AV.int IntKind.i64 (-1 : Int)) [])
    (br (decide (a > b))
      (k (AV.int IntKind.i64 (1 : Int)) [])
      (k (AV.int IntKind.i64 (0 : Int)) [])) := by kernel_rfl
theorem cmpJ_ok : SpecOk Tryd.prog 34 cmpIF.f := specOk_comes fun args s v s' tch e => by
  simp only [cmpIF] at e
  split at e
  · rename_i a b
    obtain ⟨hg, rfl, rfl, rfl⟩ := run_ok e
    refine comes_of ok (prOk_add nanJ_ok prOk_none) (L := 100) (ms := []) (by kernel_rfl) loops_none ?_
    refine Eq.mpr (cmpJ_body a b _) ?_
    simp only [br_iff]
    refine ⟨fun h => ⟨by rw [cmpI, if_pos h], trivial⟩, fun h => ⟨fun h' => ⟨by rw [cmpI, if_neg h, if_pos h'], trivial⟩, fun h' => ⟨by rw [cmpI, if_neg h, if_neg h'], trivial⟩⟩⟩
  · cases e
def prNS : FuncId → Option Sy.Spec := addP 47 nanSF noP
theorem cmpS_body (a b : List UInt8) (k : AV → St → Prop) : bodyK Tryd.prog prNS noL 100 35 [] [.str a, .str b] [] k =
  br (ltBytes a b)
    (k (AV.int IntKind.i64 (-1 : Int)) [])
    (br (!(ltBytes a b || eqBytes a b))
      (k (AV.int IntKind.i64 (1 : Int)) [])
      (k (AV.int IntKind.i64 (0 : Int)) [])) := by kernel_rfl
theorem cmpS_ok : SpecOk Tryd.prog 35 cmpSF.f := specOk_comes fun args s v s' tch e => by
  simp only [cmpSF] at e
  split at e
  · rename_i a b
    obtain ⟨hg, rfl, rfl, rfl⟩ := run_ok e
    refine comes_of ok (prOk_add nanS_ok prOk_none) (L := 100) (ms := []) (by kernel_rfl) loops_none ?_
    refine Eq.mpr (cmpS_body a b _) ?_
    cases h1 : ltBytes a b <;> cases h2 : eqBytes a b <;> simp [c3, h1, h2, br]
  · cases e
theorem or_body (a b c : Int) (k : AV → St → Prop) : bodyK Tryd.prog noP noL 100 32 [] [.fz false (.int .i64) [.int a, .int b, .int c]] [] k =
  br (!decide (([D.int a, D.int b, D.int c].getD (Int.toNat (0 : Int)) D.nul).asInt = (0 : Int)))
    (k (AV.int IntKind.i64 ([D.int a, D.int b, D.int c].getD (0 : Nat) D.nul).asInt) [])
    (br (!decide (([D.int a, D.int b, D.int c].getD (IntKind.i64.wrap ((0 : Int) + (1 : Int))).toNat D.nul).asInt = (0 : Int)))
      (k (AV.int IntKind.i64 ([D.int a, D.int b, D.int c].getD (1 : Nat) D.nul).asInt) [])
      (br (!decide (([D.int a, D.int b, D.int c].getD (IntKind.i64.wrap (IntKind.i64.wrap ((0 : Int) + (1 : Int)) + (1 : Int))).toNat D.nul).asInt = (0 : Int)))
        (k (AV.int IntKind.i64 ([D.int a, D.int b, D.int c].getD (2 : Nat) D.nul).asInt) [])
        (k (AV.int IntKind.i64 (0 : Int)) []))) := by kernel_rfl
theorem or_ok : SpecOk Tryd.prog 32 orF.f := specOk_comes fun args s v s' tch e => by
  simp only [orF] at e
  split at e
  · rename_i a b c
    obtain ⟨hg, rfl, rfl, rfl⟩ := run_ok e
    refine comes_of ok prOk_none (L := 100) (ms := []) (by kernel_rfl) loops_none ?_
    rw [or_body]
    have e1 : (IntKind.i64.wrap ((0 : Int) + (1 : Int))).toNat = 1 := by decide
    have e2 : (IntKind.i64.wrap (IntKind.i64.wrap ((0 : Int) + (1 : Int)) + (1 : Int))).toNat = 2 := by decide
    rw [e1, e2]
    by_cases h1 : a = 0 <;> by_cases h2 : b = 0 <;> by_cases h3 : c = 0 <;> simp [or3, h1, h2, h3, br, D.asInt]
  · cases e
def prCm : FuncId → Option Sy.Spec := addP 32 orF (addP 33 cmpIF (addP 34 cmpIF (addP 35 cmpSF noP)))
theorem pcmp_body (a b : Int) (c : List UInt8) (a' b' : Int) (c' : List UInt8) (k : AV → St → Prop) : bodyK Tryd.prog prCm noL 100 15 [] [avV a b c, avV a' b' c'] [] k =
  k (AV.int IntKind.i64 (or3 (cmpI a a') (cmpI b b') (c3 c c'))) [] := by kernel_rfl
theorem pcmp_ok : SpecOk Tryd.prog 15 cmpF.f := specOk_comes fun args s v s' tch e => by
  simp only [cmpF] at e
  split at e
  · rename_i a b c a' b' c'
    obtain ⟨hg, rfl, rfl, rfl⟩ := run_ok e
    refine comes_of ok (prOk_add or_ok (prOk_add cmpI_ok (prOk_add cmpJ_ok (prOk_add cmpS_ok prOk_none)))) (L := 100) (ms := []) (by kernel_rfl) loops_none ?_
    refine Eq.mpr (pcmp_body a b c a' b' c' _) ?_
    exact ⟨by rw [cmp3_or], rfl⟩
  · cases e
def prEq : FuncId → Option Sy.Spec := addP 15 cmpF noP
theorem peq_body (a b : Int) (c : List UInt8) (a' b' : Int) (c' : List UInt8) (k : AV → St → Prop) : bodyK Tryd.prog prEq noL 100 17 [] [avV a b c, avV a' b' c'] [] k =
  k (AV.bool (decide (cmp3 a b c a' b' c' = (0 : Int)))) [] := by kernel_rfl
theorem peq_ok : SpecOk Tryd.prog 17 eqVF.f := specOk_comes fun args s v s' tch e => by
  simp only [eqVF] at e
  split at e
  · rename_i a b c a' b' c'
    obtain ⟨hg, rfl, rfl, rfl⟩ := run_ok e
    refine comes_of ok (prOk_add pcmp_ok prOk_none) (L := 100) (ms := []) (by kernel_rfl) loops_none ?_
    refine Eq.mpr (peq_body a b c a' b' c' _) ?_
    exact ⟨rfl, rfl⟩
  · cases e
theorem req_body (a b : Int) (c : List UInt8) (a' b' : Int) (c' : List UInt8) (k : AV → St → Prop) : bodyK Tryd.prog noP noL 100 18 [] [avV a b c, avV a' b' c'] [] k =
  br (decide (a = a'))
    (br (decide (b = b'))
      (k (AV.bool (eqBytes c c')) [])
      (k (AV.bool false) []))
    (k (AV.bool false) []) := by kernel_rfl
theorem req_ok : SpecOk Tryd.prog 18 eqVF.f := specOk_comes fun args s v s' tch e => by
  simp only [eqVF] at e
  split at e
  · rename_i a b c a' b' c'
    obtain ⟨hg, rfl, rfl, rfl⟩ := run_ok e
    refine comes_of ok prOk_none (L := 100) (ms := []) (by kernel_rfl) loops_none ?_
    refine Eq.mpr (req_body a b c a' b' c' _) ?_
    have hz : ∀ p : Bool, (p = true ↔ a = a' ∧ b = b' ∧ c = c') → AV.bool p = AV.bool (decide (cmp3 a b c a' b' c' = 0)) := fun p hp => by
      congr 1; rw [Bool.eq_iff_iff, hp, decide_eq_true_eq, cmp3_zero]
    simp only [br_iff]
    exact ⟨fun h1 => ⟨fun h2 => ⟨hz _ (by rw [eqBytes_iff]; simp [h1, h2]), trivial⟩, fun h2 => ⟨hz _ (by simp [h2]), trivial⟩⟩, fun h1 => ⟨hz _ (by simp [h1]), trivial⟩⟩
  · cases e
theorem ptest_body (op a b : Int) (c : List UInt8) (a' b' : Int) (c' : List UInt8) (k : AV → St → Prop) : bodyK Tryd.prog prEq noL 100 19 [] [.int .i64 op, avV a b c, avV a' b' c'] [] k =
  br (decide (op = (7 : Int)))
    (k (AV.bool (decide (a = (0 : Int)))) [])
    (br (decide (op = (8 : Int)))
      (k (AV.bool !decide (a = (0 : Int))) [])
      (br (decide (a = (0 : Int)))
        (k (AV.bool false) [])
        (br (!decide (a = a'))
          (k (AV.bool false) [])
          (br (decide (op = (1 : Int)))
            (k (AV.bool (decide (cmp3 a b c a' b' c' = (0 : Int)))) [])
            (br (decide (op = (2 : Int)))
              (k (AV.bool !decide (cmp3 a b c a' b' c' = (0 : Int))) [])
              (br (decide (op = (3 : Int)))
                (k (AV.bool (decide (cmp3 a b c a' b' c' < (0 : Int)))) [])
                (br (decide (op = (4 : Int)))
                  (k (AV.bool (decide (cmp3 a b c a' b' c' ≤ (0 : Int)))) [])
                  (br (decide (op = (5 : Int)))
                    (k (AV.bool (decide (cmp3 a b c a' b' c' > (0 : Int)))) [])
                    (br (decide (op = (6 : Int)))
                      (k (AV.bool (decide (cmp3 a b c a' b' c' ≥ (0 : Int)))) [])
                      (k (AV.bool false) [])))))))))) := by kernel_rfl
theorem ptest_ok : SpecOk Tryd.prog 19 testF.f := specOk_comes fun args s v s' tch e => by
  simp only [testF] at e
  split at e
  · rename_i op a b c a' b' c'
    obtain ⟨hg, rfl, rfl, rfl⟩ := run_ok e
    refine comes_of ok (prOk_add pcmp_ok prOk_none) (L := 100) (ms := []) (by kernel_rfl) loops_none ?_
    refine Eq.mpr (ptest_body op a b c a' b' c' _) ?_
    by_cases h7 : op = 7
    · simp [testV, br, h7]
    by_cases h8 : op = 8
    · simp [testV, br, h8]
    by_cases h0 : a = 0
    · simp [testV, br, h7, h8, h0]
    by_cases ha : a = a'
    · subst ha
      by_cases h1 : op = 1
      · simp [testV, br, h0, h1]
      by_cases h2 : op = 2
      · simp [testV, br, h0, h2]
      by_cases h3 : op = 3
      · simp [testV, br, h0, h3]
      by_cases h4 : op = 4
      · simp [testV, br, h0, h4]
      by_cases h5 : op = 5
      · simp [testV, br, h0, h5]
      by_cases h6 : op = 6
      · simp [testV, br, h0, h6]
      simp [testV, br, h0, h1, h2, h3, h4, h5, h6, h7, h8]
    · simp [testV, br, h7, h8, h0, ha]
  · cases e
def prRT : FuncId → Option Sy.Spec := addP 16 cmpF noP
theorem rtest_body (op a b : Int) (c : List UInt8) (a' b' : Int) (c' : List UInt8) (k : AV → St → Prop) : bodyK Tryd.prog prRT noL 100 20 [] [.int .i64 op, avV a b c, avV a' b' c'] [] k =
  br (decide (op = (7 : Int)))
    (k (AV.bool (decide (a = (0 : Int)) == decide (op = (7 : Int)))) [])
    (br (decide (op = (8 : Int)))
      (k (AV.bool (decide (a = (0 : Int)) == decide (op = (7 : Int)))) [])
      (br (decide (a = (0 : Int)))
        (k (AV.bool false) [])
        (br (!decide (a = a'))
          (k (AV.bool false) [])
          (br (decide (op = (1 : Int)))
            (k (AV.bool (decide (cmp3 a b c a' b' c' = (0 : Int)))) [])
            (br (decide (op = (2 : Int)))
              (k (AV.bool !decide (cmp3 a b c a' b' c' = (0 : Int))) [])
              (br (decide (op = (3 : Int)))
                (k (AV.bool (decide (cmp3 a b c a' b' c' < (0 : Int)))) [])
                (br (decide (op = (4 : Int)))
                  (k (AV.bool (decide (cmp3 a b c a' b' c' ≤ (0 : Int)))) [])
                  (br (decide (op = (5 : Int)))
                    (k (AV.bool (decide (cmp3 a b c a' b' c' > (0 : Int)))) [])
                    (br (decide (op = (6 : Int)))
                      (k (AV.bool (decide (cmp3 a b c a' b' c' ≥ (0 : Int)))) [])
                      (k (AV.bool false) [])))))))))) := by kernel_rfl
theorem rtest_ok : SpecOk Tryd.prog 20 testF.f := specOk_comes fun args s v s' tch e => by
  simp only [testF] at e
  split at e
  · rename_i op a b c a' b' c'
    obtain ⟨hg, rfl, rfl, rfl⟩ := run_ok e
    refine comes_of ok (prOk_add cmp_ok prOk_none) (L := 100) (ms := []) (by kernel_rfl) loops_none ?_
    refine Eq.mpr (rtest_body op a b c a' b' c' _) ?_
    by_cases h7 : op = 7
    · simp [testV, br, h7]
    by_cases h8 : op = 8
    · simp [testV, br, h8]
    by_cases h0 : a = 0
    · simp [testV, br, h7, h8, h0]
    by_cases ha : a = a'
    · subst ha
      by_cases h1 : op = 1
      · simp [testV, br, h0, h1]
      by_cases h2 : op = 2
      · simp [testV, br, h0, h2]
      by_cases h3 : op = 3
      · simp [testV, br, h0, h3]
      by_cases h4 : op = 4
      · simp [testV, br, h0, h4]
      by_cases h5 : op = 5
      · simp [testV, br, h0, h5]
      by_cases h6 : op = 6
      · simp [testV, br, h0, h6]
      simp [testV, br, h0, h1, h2, h3, h4, h5, h6, h7, h8]
    · simp [testV, br, h7, h8, h0, ha]
  · cases e
theorem num_body (n : Int) (k : AV → St → Prop) : bodyK Tryd.prog noP noL 100 29 [] [.int .i64 n] [] k =
  k (AV.agg [AV.int IntKind.i64 (1 : Int), AV.int IntKind.i64 n, AV.str []]) [] := by kernel_rfl
theorem num_ok : SpecOk Tryd.prog 29 numVF.f := specOk_comes fun args s v s' tch e => by
  simp only [numVF] at e
  split at e
  · rename_i n
    obtain ⟨hg, rfl, rfl, rfl⟩ := run_ok e
    refine comes_of ok prOk_none (L := 100) (ms := []) (by kernel_rfl) loops_none ?_
    rw [num_body]
    exact ⟨rfl, rfl⟩
  · cases e
theorem text_body (c : List UInt8) (k : AV → St → Prop) : bodyK Tryd.prog noP noL 100 30 [] [.str c] [] k =
  k (AV.agg [AV.int IntKind.i64 (2 : Int), AV.int IntKind.i64 (0 : Int), AV.str c]) [] := by kernel_rfl
theorem text_ok : SpecOk Tryd.prog 30 txtVF.f := specOk_comes fun args s v s' tch e => by
  simp only [txtVF] at e
  split at e
  · rename_i c
    obtain ⟨hg, rfl, rfl, rfl⟩ := run_ok e
    refine comes_of ok prOk_none (L := 100) (ms := []) (by kernel_rfl) loops_none ?_
    rw [text_body]
    exact ⟨rfl, rfl⟩
  · cases e
/- ### texts -/
def kTx : List Keep := [.yes, .no, .yes, .no, .no, .yes, .yes]
def tTx (c : List UInt8) (b : Bool) (i : Nat) : List AV := [.str c, .any, .bool b, .any, .any, .int .i64 c.length, .int .i64 i] ++ padAny 22
theorem vtxt_round (c : List UInt8) (i : Nat) (more : List AV → St → Prop) (kk : KS) : roundK Tryd.prog noP noL 100 31 0 (tTx c false i) [] (againK 0 0 kTx kTx more kk) =
  br (decide ((↑i : Int) < (↑c.length : Int)))
    (br (decide ((0 : Int) ≤ (↑i : Int)) && decide ((↑i : Int) < (↑c.length : Int)))
      (br (decide ((↑(c.getD (↑i : Int).toNat (0 : UInt8)).toNat : Int) < (32 : Int)))
        (kk Ex.ret ([AV.str c, .any, AV.bool false, .any, .any, AV.int IntKind.i64 (↑c.length : Int), AV.int IntKind.i64 (↑i : Int)] ++ padAny 22) [])
        (br (decide ((0 : Int) ≤ (↑i : Int)) && decide ((↑i : Int) < (↑c.length : Int)))
          (br (decide ((↑(c.getD (↑i : Int).toNat (0 : UInt8)).toNat : Int) > (126 : Int)))
            (kk Ex.ret ([AV.str c, .any, AV.bool false, .any, .any, AV.int IntKind.i64 (↑c.length : Int), AV.int IntKind.i64 (↑i : Int)] ++ padAny 22) [])
            (br (decide ((0 : Int) ≤ (↑i : Int)) && decide ((↑i : Int) < (↑c.length : Int)))
              (br (decide ((↑(c.getD (↑i : Int).toNat (0 : UInt8)).toNat : Int) = (39 : Int)))
                (kk Ex.ret ([AV.str c, .any, AV.bool false, .any, .any, AV.int IntKind.i64 (↑c.length : Int), AV.int IntKind.i64 (↑i : Int)] ++ padAny 22) [])
                (more ([AV.str c, .any, AV.bool false, .any, .any, AV.int IntKind.i64 (↑c.length : Int), AV.int IntKind.i64 (IntKind.i64.wrap ((↑i : Int) + (1 : Int)))] ++ padAny 22) []))
              (False)))
          (False)))
      (False))
    (kk Ex.normal ([AV.str c, .any, AV.bool false, .any, .any, AV.int IntKind.i64 (↑c.length : Int), AV.int IntKind.i64 (↑i : Int)] ++ padAny 22) []) := by kernel_rfl
theorem vtxt_body (c : List UInt8) (G : LoopS) (k : AV → St → Prop) : bodyK Tryd.prog noP (addL 0 (headG 0 kTx G) noL) 100 31 [] [.str c] [] k  =
  G (([AV.str c, .any, AV.bool false, .any, .any, AV.int IntKind.i64 (↑c.length : Int), AV.int IntKind.i64 (0 : Int)] ++ padAny 22)) ([]) (contB Tryd.prog noP (addL 0 (headG 0 kTx G) noL) 100 31 [] [] 0 k) := by kernel_rfl
theorem vtxt_end (c : List UInt8) (i : Nat) (F : LoopS) (k : AV → St → Prop) : contB Tryd.prog noP (addL 0 F noL) 100 31 [] [] 0 k .normal (tTx c false i) [] =
  k (AV.bool (decide ((↑c.length : Int) ≤ (12 : Int)))) [] := by kernel_rfl
theorem vtxt_ret (c : List UInt8) (b : Bool) (i : Nat) (F : LoopS) (k : AV → St → Prop) : contB Tryd.prog noP (addL 0 F noL) 100 31 [] [] 0 k .ret (tTx c b i) [] =
  k (AV.bool b) [] := by kernel_rfl
def MTx (c : List UInt8) (z : Nat) (t : List AV) (s : St) (k : KS) : Prop := ∃ i : Nat, z + i = c.length ∧ t = tTx c false i ∧ s = [] ∧
  match txtOk (c.drop i) with
  | true => ∀ j : Nat, k .normal (tTx c false j) []
  | false => ∀ j : Nat, k .ret (tTx c false j) []
theorem vtxt_step (c : List UInt8) (hc : c.length < 1000) : ∀ z t s k, MTx c z t s k → roundK Tryd.prog noP noL 100 31 0 t s (againK 0 0 kTx kTx (fun t' s' => ∃ z', z' < z ∧ MTx c z' t' s' k) k) := by
  rintro z t s k ⟨i, hz, rfl, rfl, hk⟩
  rw [vtxt_round]
  refine br_iff.2 ⟨fun h1 => ?_, fun h1 => ?_⟩
  · have hin : (decide ((0 : Int) ≤ (↑i : Int)) && decide ((↑i : Int) < (↑c.length : Int))) = true := by simp; omega
    rw [drop_get (d := 0) (show i < c.length by omega)] at hk
    simp only [Int.toNat_natCast]
    by_cases p1 : ((c.getD i 0).toNat : Int) < 32
    · simp only [txtOk, p1, decide_true, Bool.true_or, Bool.not_true, Bool.false_and] at hk
      exact br_t hin (br_t (decide_eq_true p1) (hk i))
    by_cases p2 : ((c.getD i 0).toNat : Int) > 126
    · simp only [txtOk, p2, decide_true, Bool.true_or, Bool.or_true, Bool.not_true, Bool.false_and] at hk
      exact br_t hin (br_iff.2 ⟨fun h => absurd h p1, fun _ => br_t hin (br_t (decide_eq_true p2) (hk i))⟩)
    by_cases p3 : ((c.getD i 0).toNat : Int) = 39
    · simp only [txtOk, p3, decide_true, Bool.true_or, Bool.or_true, Bool.not_true, Bool.false_and] at hk
      exact br_t hin (br_iff.2 ⟨fun h => absurd h p1, fun _ => br_t hin (br_iff.2 ⟨fun h => absurd h p2, fun _ => br_t hin (br_t (decide_eq_true p3) (hk i))⟩)⟩)
    · simp only [txtOk, p1, p2, p3, decide_false, Bool.or_false, Bool.not_false, Bool.true_and] at hk
      refine br_t hin (br_iff.2 ⟨fun h => absurd h p1, fun _ => br_t hin (br_iff.2 ⟨fun h => absurd h p2, fun _ => br_t hin (br_iff.2 ⟨fun h => absurd h p3, fun _ => ?_⟩)⟩)⟩)
      refine ⟨c.length - (i + 1), by omega, i + 1, by omega, ?_, rfl, hk⟩
      simp only [tTx, wrap64 (x := (i : Int) + 1) (by omega) (by omega)]
      simp
  · rw [List.drop_eq_nil_of_le (by omega)] at hk
    exact hk i
theorem vtxt_ok : SpecOk Tryd.prog 31 txtF.f := specOk_comes fun args s v s' tch e => by
  simp only [txtF] at e
  split at e
  · rename_i c
    obtain ⟨hg, rfl, rfl, rfl⟩ := run_ok e
    have hg := of_decide_eq_true hg
    have hd : distinctOk Tryd.prog 31 = true := by kernel_rfl
    refine comes_of ok prOk_none (L := 100) (ms := []) hd (loops_add (L := 100) (kh := kTx) ok prOk_none hd loops_none (vtxt_step c hg)) ?_
    refine Eq.mpr (vtxt_body c _ _) ?_
    refine ⟨c.length, 0, by omega, rfl, rfl, ?_⟩
    rw [List.drop_zero]
    cases h : txtOk c with
    | true => intro j; rw [vtxt_end]; exact ⟨by simp, rfl⟩
    | false => intro j; rw [vtxt_ret]; exact ⟨by simp, rfl⟩
  · cases e
def prMay : FuncId → Option Sy.Spec := addP 31 txtF noP
theorem pmay_body (a b : Int) (c : List UInt8) (k : AV → St → Prop) : bodyK Tryd.prog prMay noL 100 13 [] [avV a b c] [] k =
  br (decide (a = (0 : Int)))
    (br (decide (b = (0 : Int)))
      (k (AV.bool (eqBytes c [])) [])
      (k (AV.bool false) []))
    (br (decide (a = (1 : Int)))
      (k (AV.bool (eqBytes c [])) [])
      (br (decide (a = (2 : Int)))
        (br (decide (b = (0 : Int)))
          (br (decide (c.length < (1000 : Nat)))
            (k (AV.bool (txtOk c && decide ((↑c.length : Int) ≤ (12 : Int)))) [])
            (False))
          (k (AV.bool false) []))
        (k (AV.bool false) []))) := by kernel_rfl
theorem pmay_ok : SpecOk Tryd.prog 13 mayF.f := specOk_comes fun args s v s' tch e => by
  simp only [mayF] at e
  split at e
  · rename_i a b c
    obtain ⟨hg, rfl, rfl, rfl⟩ := run_ok e
    refine comes_of ok (prOk_add vtxt_ok prOk_none) (L := 100) (ms := []) (by kernel_rfl) loops_none ?_
    have hg := of_decide_eq_true hg
    refine Eq.mpr (pmay_body a b c _) ?_
    by_cases h0 : a = 0
    · by_cases hb : b = 0 <;> simp [mayV, br, h0, hb]
    by_cases h1 : a = 1
    · simp [mayV, br, h1]
    by_cases h2 : a = 2
    · by_cases hb : b = 0 <;> simp [mayV, br, h2, hb, hg]
    simp [mayV, br, h0, h1, h2]
  · cases e
theorem letP_body (x : Int) (k : AV → St → Prop) : bodyK Tryd.prog noP noL 100 41 [] [.int .u8 x] [] k =
  br (decide (x ≥ (97 : Int)))
    (br (decide (x ≤ (122 : Int)))
      (k (AV.bool true) [])
      (k (AV.bool (decide (x = (95 : Int)))) []))
    (k (AV.bool (decide (x = (95 : Int)))) []) := by kernel_rfl
theorem letP_ok : SpecOk Tryd.prog 41 letF.f := specOk_comes fun args s v s' tch e => by
  simp only [letF] at e
  split at e
  · rename_i x
    obtain ⟨hg, rfl, rfl, rfl⟩ := run_ok e
    refine comes_of ok prOk_none (L := 100) (ms := []) (by kernel_rfl) loops_none ?_
    rw [letP_body]
    by_cases h1 : 97 ≤ x <;> by_cases h2 : x ≤ 122 <;> by_cases h3 : x = 95 <;> simp [br, ltrI, h1, h2, h3]
  · cases e
theorem digP_body (x : Int) (k : AV → St → Prop) : bodyK Tryd.prog noP noL 100 39 [] [.int .u8 x] [] k =
  br (decide (x ≥ (48 : Int)))
    (k (AV.bool (decide (x ≤ (57 : Int)))) [])
    (k (AV.bool false) []) := by kernel_rfl
theorem digP_ok : SpecOk Tryd.prog 39 digF.f := specOk_comes fun args s v s' tch e => by
  simp only [digF] at e
  split at e
  · rename_i x
    obtain ⟨hg, rfl, rfl, rfl⟩ := run_ok e
    refine comes_of ok prOk_none (L := 100) (ms := []) (by kernel_rfl) loops_none ?_
    rw [digP_body]
    by_cases h1 : 48 ≤ x <;> by_cases h2 : x ≤ 57 <;> simp [br, digI, h1, h2]
  · cases e
theorem letR_body (x : Int) (k : AV → St → Prop) : bodyK Tryd.prog noP noL 100 44 [] [.int .u8 x] [] k =
  br (decide (x = (95 : Int)))
    (k (AV.bool true) [])
    (br (decide (x ≥ (97 : Int)))
      (k (AV.bool (decide (x ≤ (122 : Int)))) [])
      (k (AV.bool false) [])) := by kernel_rfl
theorem letR_ok : SpecOk Tryd.prog 44 letF.f := specOk_comes fun args s v s' tch e => by
  simp only [letF] at e
  split at e
  · rename_i x
    obtain ⟨hg, rfl, rfl, rfl⟩ := run_ok e
    refine comes_of ok prOk_none (L := 100) (ms := []) (by kernel_rfl) loops_none ?_
    rw [letR_body]
    by_cases h1 : 97 ≤ x <;> by_cases h2 : x ≤ 122 <;> by_cases h3 : x = 95 <;> simp [br, ltrI, h1, h2, h3]
  · cases e
theorem digR_body (x : Int) (k : AV → St → Prop) : bodyK Tryd.prog noP noL 100 42 [] [.int .u8 x] [] k =
  br (decide (x ≥ (48 : Int)))
    (k (AV.bool (decide (x ≤ (57 : Int)))) [])
    (k (AV.bool false) []) := by kernel_rfl
theorem digR_ok : SpecOk Tryd.prog 42 digF.f := specOk_comes fun args s v s' tch e => by
  simp only [digF] at e
  split at e
  · rename_i x
    obtain ⟨hg, rfl, rfl, rfl⟩ := run_ok e
    refine comes_of ok prOk_none (L := 100) (ms := []) (by kernel_rfl) loops_none ?_
    rw [digR_body]
    by_cases h1 : 48 ≤ x <;> by_cases h2 : x ≤ 57 <;> simp [br, digI, h1, h2]
  · cases e
theorem key_body (c : List UInt8) (k : AV → St → Prop) : bodyK Tryd.prog noP noL 100 40 [] [.str c] [] k =
  br (eqBytes c [(116 : UInt8), (97 : UInt8), (98 : UInt8), (108 : UInt8), (101 : UInt8)])
    (br (eqBytes c [(116 : UInt8), (97 : UInt8), (98 : UInt8), (108 : UInt8), (101 : UInt8)])
      (k (AV.bool true) [])
      (k (AV.bool false) []))
    (br (eqBytes c [(107 : UInt8), (101 : UInt8), (121 : UInt8)])
      (br (eqBytes c [(107 : UInt8), (101 : UInt8), (121 : UInt8)])
        (k (AV.bool true) [])
        (k (AV.bool false) []))
      (br (eqBytes c [(102 : UInt8), (100 : UInt8)])
        (br (eqBytes c [(102 : UInt8), (100 : UInt8)])
          (k (AV.bool true) [])
          (k (AV.bool false) []))
        (br (eqBytes c [(105 : UInt8), (110 : UInt8), (116 : UInt8)])
          (br (eqBytes c [(105 : UInt8), (110 : UInt8), (116 : UInt8)])
            (k (AV.bool true) [])
            (k (AV.bool false) []))
          (br (eqBytes c [(116 : UInt8), (101 : UInt8), (120 : UInt8), (116 : UInt8)])
            (br (eqBytes c [(116 : UInt8), (101 : UInt8), (120 : UInt8), (116 : UInt8)])
              (k (AV.bool true) [])
              (k (AV.bool false) []))
            (br (eqBytes c [(109 : UInt8), (117 : UInt8), (115 : UInt8), (116 : UInt8)])
              (br (eqBytes c [(109 : UInt8), (117 : UInt8), (115 : UInt8), (116 : UInt8)])
                (k (AV.bool true) [])
                (k (AV.bool false) []))
              (br (eqBytes c [(116 : UInt8), (111 : UInt8)])
                (br (eqBytes c [(116 : UInt8), (111 : UInt8)])
                  (k (AV.bool true) [])
                  (k (AV.bool false) []))
                (br (eqBytes c [(108 : UInt8), (111 : UInt8), (97 : UInt8), (100 : UInt8)])
                  (br (eqBytes c [(108 : UInt8), (111 : UInt8), (97 : UInt8), (100 : UInt8)])
                    (k (AV.bool true) [])
                    (k (AV.bool false) []))
                  (br (eqBytes c [(105 : UInt8), (110 : UInt8), (115 : UInt8), (101 : UInt8), (114 : UInt8), (116 : UInt8)])
                    (br (eqBytes c [(105 : UInt8), (110 : UInt8), (115 : UInt8), (101 : UInt8), (114 : UInt8), (116 : UInt8)])
                      (k (AV.bool true) [])
                      (k (AV.bool false) []))
                    (br (eqBytes c [(100 : UInt8), (101 : UInt8), (108 : UInt8), (101 : UInt8), (116 : UInt8), (101 : UInt8)])
                      (br (eqBytes c [(100 : UInt8), (101 : UInt8), (108 : UInt8), (101 : UInt8), (116 : UInt8), (101 : UInt8)])
                        (k (AV.bool true) [])
                        (k (AV.bool false) []))
                      (br (eqBytes c [(117 : UInt8), (112 : UInt8), (100 : UInt8), (97 : UInt8), (116 : UInt8), (101 : UInt8)])
                        (br (eqBytes c [(117 : UInt8), (112 : UInt8), (100 : UInt8), (97 : UInt8), (116 : UInt8), (101 : UInt8)])
                          (k (AV.bool true) [])
                          (k (AV.bool false) []))
                        (br (eqBytes c [(115 : UInt8), (117 : UInt8), (109 : UInt8), (109 : UInt8), (97 : UInt8), (114 : UInt8), (121 : UInt8)])
                          (br (eqBytes c [(115 : UInt8), (117 : UInt8), (109 : UInt8), (109 : UInt8), (97 : UInt8), (114 : UInt8), (121 : UInt8)])
                            (k (AV.bool true) [])
                            (k (AV.bool false) []))
                          (br (eqBytes c [(111 : UInt8), (110 : UInt8)])
                            (br (eqBytes c [(111 : UInt8), (110 : UInt8)])
                              (k (AV.bool true) [])
                              (k (AV.bool false) []))
                            (br (eqBytes c [(98 : UInt8), (121 : UInt8)])
                              (br (eqBytes c [(98 : UInt8), (121 : UInt8)])
                                (k (AV.bool true) [])
                                (k (AV.bool false) []))
                              (br (eqBytes c [(107 : UInt8), (101 : UInt8), (101 : UInt8), (112 : UInt8)])
                                (br (eqBytes c [(107 : UInt8), (101 : UInt8), (101 : UInt8), (112 : UInt8)])
                                  (k (AV.bool true) [])
                                  (k (AV.bool false) []))
                                (br (eqBytes c [(100 : UInt8), (114 : UInt8), (111 : UInt8), (112 : UInt8)])
                                  (br (eqBytes c [(100 : UInt8), (114 : UInt8), (111 : UInt8), (112 : UInt8)])
                                    (k (AV.bool true) [])
                                    (k (AV.bool false) []))
                                  (br (eqBytes c [(102 : UInt8), (114 : UInt8), (111 : UInt8), (109 : UInt8)])
                                    (br (eqBytes c [(102 : UInt8), (114 : UInt8), (111 : UInt8), (109 : UInt8)])
                                      (k (AV.bool true) [])
                                      (k (AV.bool false) []))
                                    (br (eqBytes c [(119 : UInt8), (104 : UInt8), (101 : UInt8), (114 : UInt8), (101 : UInt8)])
                                      (br (eqBytes c [(119 : UInt8), (104 : UInt8), (101 : UInt8), (114 : UInt8), (101 : UInt8)])
                                        (k (AV.bool true) [])
                                        (k (AV.bool false) []))
                                      (br (eqBytes c [(97 : UInt8), (110 : UInt8), (100 : UInt8)])
                                        (br (eqBytes c [(97 : UInt8), (110 : UInt8), (100 : UInt8)])
                                          (k (AV.bool true) [])
                                          (k (AV.bool false) []))
                                        (br (eqBytes c [(105 : UInt8), (115 : UInt8)])
                                          (br (eqBytes c [(105 : UInt8), (115 : UInt8)])
                                            (k (AV.bool true) [])
                                            (k (AV.bool false) []))
                                          (br (eqBytes c [(110 : UInt8), (111 : UInt8), (116 : UInt8)])
                                            (br (eqBytes c [(110 : UInt8), (111 : UInt8), (116 : UInt8)])
                                              (k (AV.bool true) [])
                                              (k (AV.bool false) []))
                                            (br (eqBytes c [(110 : UInt8), (117 : UInt8), (108 : UInt8), (108 : UInt8)])
                                              (br (eqBytes c [(110 : UInt8), (117 : UInt8), (108 : UInt8), (108 : UInt8)])
                                                (k (AV.bool true) [])
                                                (k (AV.bool false) []))
                                              (br (eqBytes c [(114 : UInt8), (111 : UInt8), (108 : UInt8), (108 : UInt8), (117 : UInt8), (112 : UInt8)])
                                                (br (eqBytes c [(114 : UInt8), (111 : UInt8), (108 : UInt8), (108 : UInt8), (117 : UInt8), (112 : UInt8)])
                                                  (k (AV.bool true) [])
                                                  (k (AV.bool false) []))
                                                (br (eqBytes c [(99 : UInt8), (117 : UInt8), (98 : UInt8), (101 : UInt8)])
                                                  (br (eqBytes c [(99 : UInt8), (117 : UInt8), (98 : UInt8), (101 : UInt8)])
                                                    (k (AV.bool true) [])
                                                    (k (AV.bool false) []))
                                                  (br (eqBytes c [(115 : UInt8), (104 : UInt8), (111 : UInt8), (119 : UInt8)])
                                                    (br (eqBytes c [(115 : UInt8), (104 : UInt8), (111 : UInt8), (119 : UInt8)])
                                                      (k (AV.bool true) [])
                                                      (k (AV.bool false) []))
                                                    (br (eqBytes c [(104 : UInt8), (97 : UInt8), (118 : UInt8), (105 : UInt8), (110 : UInt8), (103 : UInt8)])
                                                      (br (eqBytes c [(104 : UInt8), (97 : UInt8), (118 : UInt8), (105 : UInt8), (110 : UInt8), (103 : UInt8)])
                                                        (k (AV.bool true) [])
                                                        (k (AV.bool false) []))
                                                      (br (eqBytes c [(111 : UInt8), (114 : UInt8), (100 : UInt8), (101 : UInt8), (114 : UInt8)])
                                                        (br (eqBytes c [(111 : UInt8), (114 : UInt8), (100 : UInt8), (101 : UInt8), (114 : UInt8)])
                                                          (k (AV.bool true) [])
                                                          (k (AV.bool false) []))
                                                        (br (eqBytes c [(100 : UInt8), (101 : UInt8), (115 : UInt8), (99 : UInt8)])
                                                          (br (eqBytes c [(100 : UInt8), (101 : UInt8), (115 : UInt8), (99 : UInt8)])
                                                            (k (AV.bool true) [])
                                                            (k (AV.bool false) []))
                                                          (br (eqBytes c [(108 : UInt8), (105 : UInt8), (109 : UInt8), (105 : UInt8), (116 : UInt8)])
                                                            (br (eqBytes c [(108 : UInt8), (105 : UInt8), (109 : UInt8), (105 : UInt8), (116 : UInt8)])
                                                              (k (AV.bool true) [])
                                                              (k (AV.bool false) []))
                                                            (br (eqBytes c [(117 : UInt8), (115 : UInt8), (105 : UInt8), (110 : UInt8), (103 : UInt8)])
                                                              (br (eqBytes c [(117 : UInt8), (115 : UInt8), (105 : UInt8), (110 : UInt8), (103 : UInt8)])
                                                                (k (AV.bool true) [])
                                                                (k (AV.bool false) []))
                                                              (br (eqBytes c [(98 : UInt8), (97 : UInt8), (115 : UInt8), (101 : UInt8)])
                                                                (br (eqBytes c [(98 : UInt8), (97 : UInt8), (115 : UInt8), (101 : UInt8)])
                                                                  (k (AV.bool true) [])
                                                                  (k (AV.bool false) []))
                                                                (br (eqBytes c [(99 : UInt8), (111 : UInt8), (117 : UInt8), (110 : UInt8), (116 : UInt8)])
                                                                  (br (eqBytes c [(99 : UInt8), (111 : UInt8), (117 : UInt8), (110 : UInt8), (116 : UInt8)])
                                                                    (k (AV.bool true) [])
                                                                    (k (AV.bool false) []))
                                                                  (br (eqBytes c [(115 : UInt8), (117 : UInt8), (109 : UInt8)])
                                                                    (br (eqBytes c [(115 : UInt8), (117 : UInt8), (109 : UInt8)])
                                                                      (k (AV.bool true) [])
                                                                      (k (AV.bool false) []))
                                                                    (br (eqBytes c [(109 : UInt8), (105 : UInt8), (110 : UInt8)])
                                                                      (br (eqBytes c [(109 : UInt8), (105 : UInt8), (110 : UInt8)])
                                                                        (k (AV.bool true) [])
                                                                        (k (AV.bool false) []))
                                                                      (br (eqBytes c [(109 : UInt8), (97 : UInt8), (120 : UInt8)])
                                                                        (br (eqBytes c [(109 : UInt8), (97 : UInt8), (120 : UInt8)])
                                                                          (k (AV.bool true) [])
                                                                          (k (AV.bool false) []))
                                                                        (br (eqBytes c [(97 : UInt8), (118 : UInt8), (103 : UInt8)])
                                                                          (br (eqBytes c [(97 : UInt8), (118 : UInt8), (103 : UInt8)])
                                                                            (k (AV.bool true) [])
                                                                            (k (AV.bool false) []))
                                                                          (br (eqBytes c [(100 : UInt8), (105 : UInt8), (115 : UInt8), (116 : UInt8), (105 : UInt8), (110 : UInt8), (99 : UInt8), (116 : UInt8)])
                                                                            (br (eqBytes c [(100 : UInt8), (105 : UInt8), (115 : UInt8), (116 : UInt8), (105 : UInt8), (110 : UInt8), (99 : UInt8), (116 : UInt8)])
                                                                              (k (AV.bool true) [])
                                                                              (k (AV.bool false) []))
                                                                            (br (eqBytes c [(114 : UInt8), (111 : UInt8), (119 : UInt8), (115 : UInt8)])
                                                                              (k (AV.bool true) [])
                                                                              (k (AV.bool false) [])))))))))))))))))))))))))))))))))))))) := by kernel_rfl
theorem key_ok : SpecOk Tryd.prog 40 keyF.f := specOk_comes fun args s v s' tch e => by
  simp only [keyF] at e
  split at e
  · rename_i c
    obtain ⟨hg, rfl, rfl, rfl⟩ := run_ok e
    refine comes_of ok prOk_none (L := 100) (ms := []) (by kernel_rfl) loops_none ?_
    refine Eq.mpr (key_body c _) ?_
    unfold isKey
    rcases Bool.eq_false_or_eq_true (eqBytes c [(116 : UInt8), (97 : UInt8), (98 : UInt8), (108 : UInt8), (101 : UInt8)]) with h | h
    · rw [h]; exact ⟨rfl, rfl⟩
    rw [h]; clear h
    rcases Bool.eq_false_or_eq_true (eqBytes c [(107 : UInt8), (101 : UInt8), (121 : UInt8)]) with h | h
    · rw [h]; exact ⟨rfl, rfl⟩
    rw [h]; clear h
    rcases Bool.eq_false_or_eq_true (eqBytes c [(102 : UInt8), (100 : UInt8)]) with h | h
    · rw [h]; exact ⟨rfl, rfl⟩
    rw [h]; clear h
    rcases Bool.eq_false_or_eq_true (eqBytes c [(105 : UInt8), (110 : UInt8), (116 : UInt8)]) with h | h
    · rw [h]; exact ⟨rfl, rfl⟩
    rw [h]; clear h
    rcases Bool.eq_false_or_eq_true (eqBytes c [(116 : UInt8), (101 : UInt8), (120 : UInt8), (116 : UInt8)]) with h | h
    · rw [h]; exact ⟨rfl, rfl⟩
    rw [h]; clear h
    rcases Bool.eq_false_or_eq_true (eqBytes c [(109 : UInt8), (117 : UInt8), (115 : UInt8), (116 : UInt8)]) with h | h
    · rw [h]; exact ⟨rfl, rfl⟩
    rw [h]; clear h
    rcases Bool.eq_false_or_eq_true (eqBytes c [(116 : UInt8), (111 : UInt8)]) with h | h
    · rw [h]; exact ⟨rfl, rfl⟩
    rw [h]; clear h
    rcases Bool.eq_false_or_eq_true (eqBytes c [(108 : UInt8), (111 : UInt8), (97 : UInt8), (100 : UInt8)]) with h | h
    · rw [h]; exact ⟨rfl, rfl⟩
    rw [h]; clear h
    rcases Bool.eq_false_or_eq_true (eqBytes c [(105 : UInt8), (110 : UInt8), (115 : UInt8), (101 : UInt8), (114 : UInt8), (116 : UInt8)]) with h | h
    · rw [h]; exact ⟨rfl, rfl⟩
    rw [h]; clear h
    rcases Bool.eq_false_or_eq_true (eqBytes c [(100 : UInt8), (101 : UInt8), (108 : UInt8), (101 : UInt8), (116 : UInt8), (101 : UInt8)]) with h | h
    · rw [h]; exact ⟨rfl, rfl⟩
    rw [h]; clear h
    rcases Bool.eq_false_or_eq_true (eqBytes c [(117 : UInt8), (112 : UInt8), (100 : UInt8), (97 : UInt8), (116 : UInt8), (101 : UInt8)]) with h | h
    · rw [h]; exact ⟨rfl, rfl⟩
    rw [h]; clear h
    rcases Bool.eq_false_or_eq_true (eqBytes c [(115 : UInt8), (117 : UInt8), (109 : UInt8), (109 : UInt8), (97 : UInt8), (114 : UInt8), (121 : UInt8)]) with h | h
    · rw [h]; exact ⟨rfl, rfl⟩
    rw [h]; clear h
    rcases Bool.eq_false_or_eq_true (eqBytes c [(111 : UInt8), (110 : UInt8)]) with h | h
    · rw [h]; exact ⟨rfl, rfl⟩
    rw [h]; clear h
    rcases Bool.eq_false_or_eq_true (eqBytes c [(98 : UInt8), (121 : UInt8)]) with h | h
    · rw [h]; exact ⟨rfl, rfl⟩
    rw [h]; clear h
    rcases Bool.eq_false_or_eq_true (eqBytes c [(107 : UInt8), (101 : UInt8), (101 : UInt8), (112 : UInt8)]) with h | h
    · rw [h]; exact ⟨rfl, rfl⟩
    rw [h]; clear h
    rcases Bool.eq_false_or_eq_true (eqBytes c [(100 : UInt8), (114 : UInt8), (111 : UInt8), (112 : UInt8)]) with h | h
    · rw [h]; exact ⟨rfl, rfl⟩
    rw [h]; clear h
    rcases Bool.eq_false_or_eq_true (eqBytes c [(102 : UInt8), (114 : UInt8), (111 : UInt8), (109 : UInt8)]) with h | h
    · rw [h]; exact ⟨rfl, rfl⟩
    rw [h]; clear h
    rcases Bool.eq_false_or_eq_true (eqBytes c [(119 : UInt8), (104 : UInt8), (101 : UInt8), (114 : UInt8), (101 : UInt8)]) with h | h
    · rw [h]; exact ⟨rfl, rfl⟩
    rw [h]; clear h
    rcases Bool.eq_false_or_eq_true (eqBytes c [(97 : UInt8), (110 : UInt8), (100 : UInt8)]) with h | h
    · rw [h]; exact ⟨rfl, rfl⟩
    rw [h]; clear h
    rcases Bool.eq_false_or_eq_true (eqBytes c [(105 : UInt8), (115 : UInt8)]) with h | h
    · rw [h]; exact ⟨rfl, rfl⟩
    rw [h]; clear h
    rcases Bool.eq_false_or_eq_true (eqBytes c [(110 : UInt8), (111 : UInt8), (116 : UInt8)]) with h | h
    · rw [h]; exact ⟨rfl, rfl⟩
    rw [h]; clear h
    rcases Bool.eq_false_or_eq_true (eqBytes c [(110 : UInt8), (117 : UInt8), (108 : UInt8), (108 : UInt8)]) with h | h
    · rw [h]; exact ⟨rfl, rfl⟩
    rw [h]; clear h
    rcases Bool.eq_false_or_eq_true (eqBytes c [(114 : UInt8), (111 : UInt8), (108 : UInt8), (108 : UInt8), (117 : UInt8), (112 : UInt8)]) with h | h
    · rw [h]; exact ⟨rfl, rfl⟩
    rw [h]; clear h
    rcases Bool.eq_false_or_eq_true (eqBytes c [(99 : UInt8), (117 : UInt8), (98 : UInt8), (101 : UInt8)]) with h | h
    · rw [h]; exact ⟨rfl, rfl⟩
    rw [h]; clear h
    rcases Bool.eq_false_or_eq_true (eqBytes c [(115 : UInt8), (104 : UInt8), (111 : UInt8), (119 : UInt8)]) with h | h
    · rw [h]; exact ⟨rfl, rfl⟩
    rw [h]; clear h
    rcases Bool.eq_false_or_eq_true (eqBytes c [(104 : UInt8), (97 : UInt8), (118 : UInt8), (105 : UInt8), (110 : UInt8), (103 : UInt8)]) with h | h
    · rw [h]; exact ⟨rfl, rfl⟩
    rw [h]; clear h
    rcases Bool.eq_false_or_eq_true (eqBytes c [(111 : UInt8), (114 : UInt8), (100 : UInt8), (101 : UInt8), (114 : UInt8)]) with h | h
    · rw [h]; exact ⟨rfl, rfl⟩
    rw [h]; clear h
    rcases Bool.eq_false_or_eq_true (eqBytes c [(100 : UInt8), (101 : UInt8), (115 : UInt8), (99 : UInt8)]) with h | h
    · rw [h]; exact ⟨rfl, rfl⟩
    rw [h]; clear h
    rcases Bool.eq_false_or_eq_true (eqBytes c [(108 : UInt8), (105 : UInt8), (109 : UInt8), (105 : UInt8), (116 : UInt8)]) with h | h
    · rw [h]; exact ⟨rfl, rfl⟩
    rw [h]; clear h
    rcases Bool.eq_false_or_eq_true (eqBytes c [(117 : UInt8), (115 : UInt8), (105 : UInt8), (110 : UInt8), (103 : UInt8)]) with h | h
    · rw [h]; exact ⟨rfl, rfl⟩
    rw [h]; clear h
    rcases Bool.eq_false_or_eq_true (eqBytes c [(98 : UInt8), (97 : UInt8), (115 : UInt8), (101 : UInt8)]) with h | h
    · rw [h]; exact ⟨rfl, rfl⟩
    rw [h]; clear h
    rcases Bool.eq_false_or_eq_true (eqBytes c [(99 : UInt8), (111 : UInt8), (117 : UInt8), (110 : UInt8), (116 : UInt8)]) with h | h
    · rw [h]; exact ⟨rfl, rfl⟩
    rw [h]; clear h
    rcases Bool.eq_false_or_eq_true (eqBytes c [(115 : UInt8), (117 : UInt8), (109 : UInt8)]) with h | h
    · rw [h]; exact ⟨rfl, rfl⟩
    rw [h]; clear h
    rcases Bool.eq_false_or_eq_true (eqBytes c [(109 : UInt8), (105 : UInt8), (110 : UInt8)]) with h | h
    · rw [h]; exact ⟨rfl, rfl⟩
    rw [h]; clear h
    rcases Bool.eq_false_or_eq_true (eqBytes c [(109 : UInt8), (97 : UInt8), (120 : UInt8)]) with h | h
    · rw [h]; exact ⟨rfl, rfl⟩
    rw [h]; clear h
    rcases Bool.eq_false_or_eq_true (eqBytes c [(97 : UInt8), (118 : UInt8), (103 : UInt8)]) with h | h
    · rw [h]; exact ⟨rfl, rfl⟩
    rw [h]; clear h
    rcases Bool.eq_false_or_eq_true (eqBytes c [(100 : UInt8), (105 : UInt8), (115 : UInt8), (116 : UInt8), (105 : UInt8), (110 : UInt8), (99 : UInt8), (116 : UInt8)]) with h | h
    · rw [h]; exact ⟨rfl, rfl⟩
    rw [h]; clear h
    rcases Bool.eq_false_or_eq_true (eqBytes c [(114 : UInt8), (111 : UInt8), (119 : UInt8), (115 : UInt8)]) with h | h
    · rw [h]; exact ⟨rfl, rfl⟩
    rw [h]; clear h
    exact ⟨rfl, rfl⟩
  · cases e
theorem word_body (c : List UInt8) (k : AV → St → Prop) : bodyK Tryd.prog noP noL 100 43 [] [.str c] [] k =
  br (eqBytes [(116 : UInt8), (97 : UInt8), (98 : UInt8), (108 : UInt8), (101 : UInt8)] c)
    (k (AV.bool true) [])
    (br (eqBytes [(107 : UInt8), (101 : UInt8), (121 : UInt8)] c)
      (k (AV.bool true) [])
      (br (eqBytes [(102 : UInt8), (100 : UInt8)] c)
        (k (AV.bool true) [])
        (br (eqBytes [(105 : UInt8), (110 : UInt8), (116 : UInt8)] c)
          (k (AV.bool true) [])
          (br (eqBytes [(116 : UInt8), (101 : UInt8), (120 : UInt8), (116 : UInt8)] c)
            (k (AV.bool true) [])
            (br (eqBytes [(109 : UInt8), (117 : UInt8), (115 : UInt8), (116 : UInt8)] c)
              (k (AV.bool true) [])
              (br (eqBytes [(116 : UInt8), (111 : UInt8)] c)
                (k (AV.bool true) [])
                (br (eqBytes [(108 : UInt8), (111 : UInt8), (97 : UInt8), (100 : UInt8)] c)
                  (k (AV.bool true) [])
                  (br (eqBytes [(105 : UInt8), (110 : UInt8), (115 : UInt8), (101 : UInt8), (114 : UInt8), (116 : UInt8)] c)
                    (k (AV.bool true) [])
                    (br (eqBytes [(100 : UInt8), (101 : UInt8), (108 : UInt8), (101 : UInt8), (116 : UInt8), (101 : UInt8)] c)
                      (k (AV.bool true) [])
                      (br (eqBytes [(117 : UInt8), (112 : UInt8), (100 : UInt8), (97 : UInt8), (116 : UInt8), (101 : UInt8)] c)
                        (k (AV.bool true) [])
                        (br (eqBytes [(115 : UInt8), (117 : UInt8), (109 : UInt8), (109 : UInt8), (97 : UInt8), (114 : UInt8), (121 : UInt8)] c)
                          (k (AV.bool true) [])
                          (br (eqBytes [(111 : UInt8), (110 : UInt8)] c)
                            (k (AV.bool true) [])
                            (br (eqBytes [(98 : UInt8), (121 : UInt8)] c)
                              (k (AV.bool true) [])
                              (br (eqBytes [(107 : UInt8), (101 : UInt8), (101 : UInt8), (112 : UInt8)] c)
                                (k (AV.bool true) [])
                                (br (eqBytes [(100 : UInt8), (114 : UInt8), (111 : UInt8), (112 : UInt8)] c)
                                  (k (AV.bool true) [])
                                  (br (eqBytes [(102 : UInt8), (114 : UInt8), (111 : UInt8), (109 : UInt8)] c)
                                    (k (AV.bool true) [])
                                    (br (eqBytes [(119 : UInt8), (104 : UInt8), (101 : UInt8), (114 : UInt8), (101 : UInt8)] c)
                                      (k (AV.bool true) [])
                                      (br (eqBytes [(97 : UInt8), (110 : UInt8), (100 : UInt8)] c)
                                        (k (AV.bool true) [])
                                        (br (eqBytes [(105 : UInt8), (115 : UInt8)] c)
                                          (k (AV.bool true) [])
                                          (br (eqBytes [(110 : UInt8), (111 : UInt8), (116 : UInt8)] c)
                                            (k (AV.bool true) [])
                                            (br (eqBytes [(110 : UInt8), (117 : UInt8), (108 : UInt8), (108 : UInt8)] c)
                                              (k (AV.bool true) [])
                                              (br (eqBytes [(114 : UInt8), (111 : UInt8), (108 : UInt8), (108 : UInt8), (117 : UInt8), (112 : UInt8)] c)
                                                (k (AV.bool true) [])
                                                (br (eqBytes [(99 : UInt8), (117 : UInt8), (98 : UInt8), (101 : UInt8)] c)
                                                  (k (AV.bool true) [])
                                                  (br (eqBytes [(115 : UInt8), (104 : UInt8), (111 : UInt8), (119 : UInt8)] c)
                                                    (k (AV.bool true) [])
                                                    (br (eqBytes [(104 : UInt8), (97 : UInt8), (118 : UInt8), (105 : UInt8), (110 : UInt8), (103 : UInt8)] c)
                                                      (k (AV.bool true) [])
                                                      (br (eqBytes [(111 : UInt8), (114 : UInt8), (100 : UInt8), (101 : UInt8), (114 : UInt8)] c)
                                                        (k (AV.bool true) [])
                                                        (br (eqBytes [(100 : UInt8), (101 : UInt8), (115 : UInt8), (99 : UInt8)] c)
                                                          (k (AV.bool true) [])
                                                          (br (eqBytes [(108 : UInt8), (105 : UInt8), (109 : UInt8), (105 : UInt8), (116 : UInt8)] c)
                                                            (k (AV.bool true) [])
                                                            (br (eqBytes [(117 : UInt8), (115 : UInt8), (105 : UInt8), (110 : UInt8), (103 : UInt8)] c)
                                                              (k (AV.bool true) [])
                                                              (br (eqBytes [(98 : UInt8), (97 : UInt8), (115 : UInt8), (101 : UInt8)] c)
                                                                (k (AV.bool true) [])
                                                                (br (eqBytes [(99 : UInt8), (111 : UInt8), (117 : UInt8), (110 : UInt8), (116 : UInt8)] c)
                                                                  (k (AV.bool true) [])
                                                                  (br (eqBytes [(115 : UInt8), (117 : UInt8), (109 : UInt8)] c)
                                                                    (k (AV.bool true) [])
                                                                    (br (eqBytes [(109 : UInt8), (105 : UInt8), (110 : UInt8)] c)
                                                                      (k (AV.bool true) [])
                                                                      (br (eqBytes [(109 : UInt8), (97 : UInt8), (120 : UInt8)] c)
                                                                        (k (AV.bool true) [])
                                                                        (br (eqBytes [(97 : UInt8), (118 : UInt8), (103 : UInt8)] c)
                                                                          (k (AV.bool true) [])
                                                                          (br (eqBytes [(100 : UInt8), (105 : UInt8), (115 : UInt8), (116 : UInt8), (105 : UInt8), (110 : UInt8), (99 : UInt8), (116 : UInt8)] c)
                                                                            (k (AV.bool true) [])
                                                                            (br (eqBytes [(114 : UInt8), (111 : UInt8), (119 : UInt8), (115 : UInt8)] c)
                                                                              (k (AV.bool true) [])
                                                                              (k (AV.bool false) [])))))))))))))))))))))))))))))))))))))) := by kernel_rfl
theorem word_ok : SpecOk Tryd.prog 43 keyF.f := specOk_comes fun args s v s' tch e => by
  simp only [keyF] at e
  split at e
  · rename_i c
    obtain ⟨hg, rfl, rfl, rfl⟩ := run_ok e
    refine comes_of ok prOk_none (L := 100) (ms := []) (by kernel_rfl) loops_none ?_
    refine Eq.mpr (word_body c _) ?_
    rw [← isWord_eq]
    unfold isWord
    rcases Bool.eq_false_or_eq_true (eqBytes [(116 : UInt8), (97 : UInt8), (98 : UInt8), (108 : UInt8), (101 : UInt8)] c) with h | h
    · rw [h]; exact ⟨rfl, rfl⟩
    rw [h]; clear h
    rcases Bool.eq_false_or_eq_true (eqBytes [(107 : UInt8), (101 : UInt8), (121 : UInt8)] c) with h | h
    · rw [h]; exact ⟨rfl, rfl⟩
    rw [h]; clear h
    rcases Bool.eq_false_or_eq_true (eqBytes [(102 : UInt8), (100 : UInt8)] c) with h | h
    · rw [h]; exact ⟨rfl, rfl⟩
    rw [h]; clear h
    rcases Bool.eq_false_or_eq_true (eqBytes [(105 : UInt8), (110 : UInt8), (116 : UInt8)] c) with h | h
    · rw [h]; exact ⟨rfl, rfl⟩
    rw [h]; clear h
    rcases Bool.eq_false_or_eq_true (eqBytes [(116 : UInt8), (101 : UInt8), (120 : UInt8), (116 : UInt8)] c) with h | h
    · rw [h]; exact ⟨rfl, rfl⟩
    rw [h]; clear h
    rcases Bool.eq_false_or_eq_true (eqBytes [(109 : UInt8), (117 : UInt8), (115 : UInt8), (116 : UInt8)] c) with h | h
    · rw [h]; exact ⟨rfl, rfl⟩
    rw [h]; clear h
    rcases Bool.eq_false_or_eq_true (eqBytes [(116 : UInt8), (111 : UInt8)] c) with h | h
    · rw [h]; exact ⟨rfl, rfl⟩
    rw [h]; clear h
    rcases Bool.eq_false_or_eq_true (eqBytes [(108 : UInt8), (111 : UInt8), (97 : UInt8), (100 : UInt8)] c) with h | h
    · rw [h]; exact ⟨rfl, rfl⟩
    rw [h]; clear h
    rcases Bool.eq_false_or_eq_true (eqBytes [(105 : UInt8), (110 : UInt8), (115 : UInt8), (101 : UInt8), (114 : UInt8), (116 : UInt8)] c) with h | h
    · rw [h]; exact ⟨rfl, rfl⟩
    rw [h]; clear h
    rcases Bool.eq_false_or_eq_true (eqBytes [(100 : UInt8), (101 : UInt8), (108 : UInt8), (101 : UInt8), (116 : UInt8), (101 : UInt8)] c) with h | h
    · rw [h]; exact ⟨rfl, rfl⟩
    rw [h]; clear h
    rcases Bool.eq_false_or_eq_true (eqBytes [(117 : UInt8), (112 : UInt8), (100 : UInt8), (97 : UInt8), (116 : UInt8), (101 : UInt8)] c) with h | h
    · rw [h]; exact ⟨rfl, rfl⟩
    rw [h]; clear h
    rcases Bool.eq_false_or_eq_true (eqBytes [(115 : UInt8), (117 : UInt8), (109 : UInt8), (109 : UInt8), (97 : UInt8), (114 : UInt8), (121 : UInt8)] c) with h | h
    · rw [h]; exact ⟨rfl, rfl⟩
    rw [h]; clear h
    rcases Bool.eq_false_or_eq_true (eqBytes [(111 : UInt8), (110 : UInt8)] c) with h | h
    · rw [h]; exact ⟨rfl, rfl⟩
    rw [h]; clear h
    rcases Bool.eq_false_or_eq_true (eqBytes [(98 : UInt8), (121 : UInt8)] c) with h | h
    · rw [h]; exact ⟨rfl, rfl⟩
    rw [h]; clear h
    rcases Bool.eq_false_or_eq_true (eqBytes [(107 : UInt8), (101 : UInt8), (101 : UInt8), (112 : UInt8)] c) with h | h
    · rw [h]; exact ⟨rfl, rfl⟩
    rw [h]; clear h
    rcases Bool.eq_false_or_eq_true (eqBytes [(100 : UInt8), (114 : UInt8), (111 : UInt8), (112 : UInt8)] c) with h | h
    · rw [h]; exact ⟨rfl, rfl⟩
    rw [h]; clear h
    rcases Bool.eq_false_or_eq_true (eqBytes [(102 : UInt8), (114 : UInt8), (111 : UInt8), (109 : UInt8)] c) with h | h
    · rw [h]; exact ⟨rfl, rfl⟩
    rw [h]; clear h
    rcases Bool.eq_false_or_eq_true (eqBytes [(119 : UInt8), (104 : UInt8), (101 : UInt8), (114 : UInt8), (101 : UInt8)] c) with h | h
    · rw [h]; exact ⟨rfl, rfl⟩
    rw [h]; clear h
    rcases Bool.eq_false_or_eq_true (eqBytes [(97 : UInt8), (110 : UInt8), (100 : UInt8)] c) with h | h
    · rw [h]; exact ⟨rfl, rfl⟩
    rw [h]; clear h
    rcases Bool.eq_false_or_eq_true (eqBytes [(105 : UInt8), (115 : UInt8)] c) with h | h
    · rw [h]; exact ⟨rfl, rfl⟩
    rw [h]; clear h
    rcases Bool.eq_false_or_eq_true (eqBytes [(110 : UInt8), (111 : UInt8), (116 : UInt8)] c) with h | h
    · rw [h]; exact ⟨rfl, rfl⟩
    rw [h]; clear h
    rcases Bool.eq_false_or_eq_true (eqBytes [(110 : UInt8), (117 : UInt8), (108 : UInt8), (108 : UInt8)] c) with h | h
    · rw [h]; exact ⟨rfl, rfl⟩
    rw [h]; clear h
    rcases Bool.eq_false_or_eq_true (eqBytes [(114 : UInt8), (111 : UInt8), (108 : UInt8), (108 : UInt8), (117 : UInt8), (112 : UInt8)] c) with h | h
    · rw [h]; exact ⟨rfl, rfl⟩
    rw [h]; clear h
    rcases Bool.eq_false_or_eq_true (eqBytes [(99 : UInt8), (117 : UInt8), (98 : UInt8), (101 : UInt8)] c) with h | h
    · rw [h]; exact ⟨rfl, rfl⟩
    rw [h]; clear h
    rcases Bool.eq_false_or_eq_true (eqBytes [(115 : UInt8), (104 : UInt8), (111 : UInt8), (119 : UInt8)] c) with h | h
    · rw [h]; exact ⟨rfl, rfl⟩
    rw [h]; clear h
    rcases Bool.eq_false_or_eq_true (eqBytes [(104 : UInt8), (97 : UInt8), (118 : UInt8), (105 : UInt8), (110 : UInt8), (103 : UInt8)] c) with h | h
    · rw [h]; exact ⟨rfl, rfl⟩
    rw [h]; clear h
    rcases Bool.eq_false_or_eq_true (eqBytes [(111 : UInt8), (114 : UInt8), (100 : UInt8), (101 : UInt8), (114 : UInt8)] c) with h | h
    · rw [h]; exact ⟨rfl, rfl⟩
    rw [h]; clear h
    rcases Bool.eq_false_or_eq_true (eqBytes [(100 : UInt8), (101 : UInt8), (115 : UInt8), (99 : UInt8)] c) with h | h
    · rw [h]; exact ⟨rfl, rfl⟩
    rw [h]; clear h
    rcases Bool.eq_false_or_eq_true (eqBytes [(108 : UInt8), (105 : UInt8), (109 : UInt8), (105 : UInt8), (116 : UInt8)] c) with h | h
    · rw [h]; exact ⟨rfl, rfl⟩
    rw [h]; clear h
    rcases Bool.eq_false_or_eq_true (eqBytes [(117 : UInt8), (115 : UInt8), (105 : UInt8), (110 : UInt8), (103 : UInt8)] c) with h | h
    · rw [h]; exact ⟨rfl, rfl⟩
    rw [h]; clear h
    rcases Bool.eq_false_or_eq_true (eqBytes [(98 : UInt8), (97 : UInt8), (115 : UInt8), (101 : UInt8)] c) with h | h
    · rw [h]; exact ⟨rfl, rfl⟩
    rw [h]; clear h
    rcases Bool.eq_false_or_eq_true (eqBytes [(99 : UInt8), (111 : UInt8), (117 : UInt8), (110 : UInt8), (116 : UInt8)] c) with h | h
    · rw [h]; exact ⟨rfl, rfl⟩
    rw [h]; clear h
    rcases Bool.eq_false_or_eq_true (eqBytes [(115 : UInt8), (117 : UInt8), (109 : UInt8)] c) with h | h
    · rw [h]; exact ⟨rfl, rfl⟩
    rw [h]; clear h
    rcases Bool.eq_false_or_eq_true (eqBytes [(109 : UInt8), (105 : UInt8), (110 : UInt8)] c) with h | h
    · rw [h]; exact ⟨rfl, rfl⟩
    rw [h]; clear h
    rcases Bool.eq_false_or_eq_true (eqBytes [(109 : UInt8), (97 : UInt8), (120 : UInt8)] c) with h | h
    · rw [h]; exact ⟨rfl, rfl⟩
    rw [h]; clear h
    rcases Bool.eq_false_or_eq_true (eqBytes [(97 : UInt8), (118 : UInt8), (103 : UInt8)] c) with h | h
    · rw [h]; exact ⟨rfl, rfl⟩
    rw [h]; clear h
    rcases Bool.eq_false_or_eq_true (eqBytes [(100 : UInt8), (105 : UInt8), (115 : UInt8), (116 : UInt8), (105 : UInt8), (110 : UInt8), (99 : UInt8), (116 : UInt8)] c) with h | h
    · rw [h]; exact ⟨rfl, rfl⟩
    rw [h]; clear h
    rcases Bool.eq_false_or_eq_true (eqBytes [(114 : UInt8), (111 : UInt8), (119 : UInt8), (115 : UInt8)] c) with h | h
    · rw [h]; exact ⟨rfl, rfl⟩
    rw [h]; clear h
    exact ⟨rfl, rfl⟩
  · cases e
theorem fmt_ok : SpecOk Tryd.prog 36 fmtF.f := specOk_comes fun args s v s' tch e => by
  simp only [fmtF] at e
  split at e
  · rename_i n
    obtain ⟨hg, rfl, rfl, rfl⟩ := run_ok e
    simp only [in64, Bool.and_eq_true, decide_eq_true_eq] at hg
    refine ⟨Nat.le_refl _, fun ρ w vargs hi hr => ?_⟩
    simp only [Rels, Rel] at hr
    obtain ⟨v1, vs, rfl, rfl, v2, vs, rfl, rfl, rfl⟩ := hr
    refine (Any.strconv_FormatInt_10 fmtLays n hg.1 hg.2 w (tabIs_of_hr (g := 0) (k := .u64) (zs := Lib.pow10Tab) hi.hr (by kernel_rfl) (by simp [Glob.facts]))).mono ?_
    rintro e w' ⟨rfl, k, os, rfl⟩
    exact ⟨_, ρ, rfl, postC_grow hi (Nat.le_refl _) k os, by simp only [Rel, itoaB]⟩
  · cases e
def prTe : FuncId → Option Sy.Spec := addP 36 fmtF noP
theorem ptext_body (a b : Int) (c : List UInt8) (k : AV → St → Prop) : bodyK Tryd.prog prTe noL 100 21 [] [avV a b c] [] k =
  br (decide (a = (1 : Int)))
    (br (in64 b)
      (k (AV.str (itoaB b)) [])
      (False))
    (br (decide (a = (2 : Int)))
      (br (((1 : Nat) + c.length).ble (9223372036854775807 : Nat))
        (br ((([(39 : UInt8)] ++ c).length + (1 : Nat)).ble (9223372036854775807 : Nat))
          (k (AV.str ([(39 : UInt8)] ++ c ++ [(39 : UInt8)])) [])
          (False))
        (False))
      (k (AV.str [(110 : UInt8), (117 : UInt8), (108 : UInt8), (108 : UInt8)]) [])) := by kernel_rfl
theorem ptext_ok : SpecOk Tryd.prog 21 textF.f := specOk_comes fun args s v s' tch e => by
  simp only [textF] at e
  split at e
  · rename_i a b c
    obtain ⟨hg, rfl, rfl, rfl⟩ := run_ok e
    refine comes_of ok (prOk_add fmt_ok prOk_none) (L := 100) (ms := []) (by kernel_rfl) loops_none ?_
    simp only [in64, Bool.and_eq_true, decide_eq_true_eq] at hg
    refine Eq.mpr (ptext_body a b c _) ?_
    by_cases h1 : a = 1
    · simp [textV, br, h1, in64, hg]
    by_cases h2 : a = 2
    · have e1 : (1 + c.length).ble 9223372036854775807 = true := Nat.ble_eq_true_of_le (by omega)
      have e2 : (c.length + 1 + 1).ble 9223372036854775807 = true := Nat.ble_eq_true_of_le (by omega)
      have e3 : (1 + c.length + 1).ble 9223372036854775807 = true := Nat.ble_eq_true_of_le (by omega)
      simp [textV, br, h2, e1, e2, e3]
    simp [textV, br, h1, h2]
  · cases e
end Go.Proofs.YthcekejmeoaelaaDoor
