/- Walks: values' order; what is made of many. -/
import Derived.Test.YtcbojoeijpeadaaAgO
import Derived.Test.YtcbojoeijpeadaaQuo
import Derived.Test.YtcbojoeijpeadaaSyMap
import Derived.KernelRfl
set_option linter.unusedSimpArgs false
set_option linter.unusedVariables false
set_option maxRecDepth 100000
namespace Go.Proofs.Ytcbojoeijpeadaa
open Go Go.Sy
attribute [local irreducible] bodyK roundK cutK
theorem d1 : Try.prog.follows .mixedOrders = true := by kernel_rfl
theorem d2 : namesOkA Try.prog = true := by kernel_rfl
theorem d3 : drawsAllA Try.prog = true := by kernel_rfl
theorem d4 : extsOkA Try.prog = true := by kernel_rfl
theorem ok : ProgOk Try.prog := progOk_of d1 d2 d3 d4
theorem nanI_body (a : Int) (k : AV → St → Prop) : bodyK Try.prog noP noL 100 80 [] [.int .i64 a] [] k =
  k (AV.bool !decide (a = a)) [] := by kernel_rfl
theorem nanI_ok : SpecOk Try.prog 80 nanIF.f := specOk_comes fun args s v s' tch e => by
  simp only [nanIF] at e
  split at e
  · rename_i a
    obtain ⟨hg, rfl, rfl, rfl⟩ := run_ok e
    refine comes_of ok prOk_none (L := 100) (ms := []) (by kernel_rfl) loops_none ?_
    rw [nanI_body]
    exact ⟨by simp, rfl⟩
  · cases e
theorem nanJ_body (a : Int) (k : AV → St → Prop) : bodyK Try.prog noP noL 100 81 [] [.int .i64 a] [] k =
  k (AV.bool !decide (a = a)) [] := by kernel_rfl
theorem nanJ_ok : SpecOk Try.prog 81 nanIF.f := specOk_comes fun args s v s' tch e => by
  simp only [nanIF] at e
  split at e
  · rename_i a
    obtain ⟨hg, rfl, rfl, rfl⟩ := run_ok e
    refine comes_of ok prOk_none (L := 100) (ms := []) (by kernel_rfl) loops_none ?_
    rw [nanJ_body]
    exact ⟨by simp, rfl⟩
  · cases e
theorem nanS_body (a : List UInt8) (k : AV → St → Prop) : bodyK Try.prog noP noL 100 82 [] [.str a] [] k =
  k (AV.bool !eqBytes a a) [] := by kernel_rfl
theorem nanS_ok : SpecOk Try.prog 82 nanSF.f := specOk_comes fun args s v s' tch e => by
  simp only [nanSF] at e
  split at e
  · rename_i a
    obtain ⟨hg, rfl, rfl, rfl⟩ := run_ok e
    refine comes_of ok prOk_none (L := 100) (ms := []) (by kernel_rfl) loops_none ?_
    rw [nanS_body]
    exact ⟨by rw [eqBytes_refl]; rfl, rfl⟩
  · cases e
def prNI : FuncId → Option Sy.Spec := addP 80 nanIF noP
theorem cmpI_body (a b : Int) (k : AV → St → Prop) : bodyK Try.prog prNI noL 100 65 [] [.int .i64 a, .int .i64 b] [] k =
  br (decide (a < b))
    (k (AV.int IntKind.i64 (-1 : Int)) [])
    (br (decide (a > b))
      (k (AV.int IntKind.i64 (1 : Int)) [])
      (k (AV.int IntKind.i64 (0 : Int)) [])) := by kernel_rfl
theorem cmpI_ok : SpecOk Try.prog 65 cmpIF.f := specOk_comes fun args s v s' tch e => by
  simp only [cmpIF] at e
  split at e
  · rename_i a b
    obtain ⟨hg, rfl, rfl, rfl⟩ := run_ok e
    refine comes_of ok (prOk_add nanI_ok prOk_none) (L := 100) (ms := []) (by kernel_rfl) loops_none ?_
    refine Eq.mpr (cmpI_body a b _) ?_
    simp only [br_iff]
    refine ⟨fun h => ⟨by rw [cmpI, if_pos h], trivial⟩, fun h => ⟨fun h' => ⟨by rw [cmpI, if_neg h, if_pos h'], trivial⟩, fun h' => ⟨by rw [cmpI, if_neg h, if_neg h'], trivial⟩⟩⟩
  · cases e
def prNJ : FuncId → Option Sy.Spec := addP 81 nanIF noP
theorem cmpJ_body (a b : Int) (k : AV → St → Prop) : bodyK Try.prog prNJ noL 100 66 [] [.int .i64 a, .int .i64 b] [] k =
  br (decide (a < b))
    (k (AV.int IntKind.i64 (-1 : Int)) [])
    (br (decide (a > b))
      (k (AV.int IntKind.i64 (1 : Int)) [])
      (k (AV.int IntKind.i64 (0 : Int)) [])) := by kernel_rfl
theorem cmpJ_ok : SpecOk Try.prog 66 cmpIF.f := specOk_comes fun args s v s' tch e => by
  simp only [cmpIF] at e
  split at e
  · rename_i a b
    obtain ⟨hg, rfl, rfl, rfl⟩ := run_ok e
    refine comes_of ok (prOk_add nanJ_ok prOk_none) (L := 100) (ms := []) (by kernel_rfl) loops_none ?_
    refine Eq.mpr (cmpJ_body a b _) ?_
    simp only [br_iff]
    refine ⟨fun h => ⟨by rw [cmpI, if_pos h], trivial⟩, fun h => ⟨fun h' => ⟨by rw [cmpI, if_neg h, if_pos h'], trivial⟩, fun h' => ⟨by rw [cmpI, if_neg h, if_neg h'], trivial⟩⟩⟩
  · cases e
def prNS : FuncId → Option Sy.Spec := addP 82 nanSF noP
theorem cmpS_body (a b : List UInt8) (k : AV → St → Prop) : bodyK Try.prog prNS noL 100 67 [] [.str a, .str b] [] k =
  br (ltBytes a b)
    (k (AV.int IntKind.i64 (-1 : Int)) [])
    (br (!(ltBytes a b || eqBytes a b))
      (k (AV.int IntKind.i64 (1 : Int)) [])
      (k (AV.int IntKind.i64 (0 : Int)) [])) := by kernel_rfl
theorem cmpS_ok : SpecOk Try.prog 67 cmpSF.f := specOk_comes fun args s v s' tch e => by
  simp only [cmpSF] at e
  split at e
  · rename_i a b
    obtain ⟨hg, rfl, rfl, rfl⟩ := run_ok e
    refine comes_of ok (prOk_add nanS_ok prOk_none) (L := 100) (ms := []) (by kernel_rfl) loops_none ?_
    refine Eq.mpr (cmpS_body a b _) ?_
    cases h1 : ltBytes a b <;> cases h2 : eqBytes a b <;> simp [c3, h1, h2, br]
  · cases e
theorem or_body (a b c : Int) (k : AV → St → Prop) : bodyK Try.prog noP noL 100 64 [] [.fz false (.int .i64) [.int a, .int b, .int c]] [] k =
  br (!decide (([D.int a, D.int b, D.int c].getD (0 : Nat) D.nul).asInt = (0 : Int)))
    (k (AV.int IntKind.i64 ([D.int a, D.int b, D.int c].getD (0 : Nat) D.nul).asInt) [])
    (br (!decide (([D.int a, D.int b, D.int c].getD (1 : Nat) D.nul).asInt = (0 : Int)))
      (k (AV.int IntKind.i64 ([D.int a, D.int b, D.int c].getD (1 : Nat) D.nul).asInt) [])
      (br (!decide (([D.int a, D.int b, D.int c].getD (2 : Nat) D.nul).asInt = (0 : Int)))
        (k (AV.int IntKind.i64 ([D.int a, D.int b, D.int c].getD (2 : Nat) D.nul).asInt) [])
        (k (AV.int IntKind.i64 (0 : Int)) []))) := by kernel_rfl
theorem or_ok : SpecOk Try.prog 64 orF.f := specOk_comes fun args s v s' tch e => by
  simp only [orF] at e
  split at e
  · rename_i a b c
    obtain ⟨hg, rfl, rfl, rfl⟩ := run_ok e
    refine comes_of ok prOk_none (L := 100) (ms := []) (by kernel_rfl) loops_none ?_
    rw [or_body]
    by_cases h1 : a = 0 <;> by_cases h2 : b = 0 <;> by_cases h3 : c = 0 <;> simp [or3, h1, h2, h3, br, D.asInt]
  · cases e
def prCm : FuncId → Option Sy.Spec := addP 64 orF (addP 65 cmpIF (addP 66 cmpIF (addP 67 cmpSF noP)))
theorem pcmp_body (a b : Int) (c : List UInt8) (a' b' : Int) (c' : List UInt8) (k : AV → St → Prop) : bodyK Try.prog prCm noL 100 45 [] [avV a b c, avV a' b' c'] [] k =
  k (AV.int IntKind.i64 (or3 (cmpI a a') (cmpI b b') (c3 c c'))) [] := by kernel_rfl
theorem pcmp_ok : SpecOk Try.prog 45 cmpF.f := specOk_comes fun args s v s' tch e => by
  simp only [cmpF] at e
  split at e
  · rename_i a b c a' b' c'
    obtain ⟨hg, rfl, rfl, rfl⟩ := run_ok e
    refine comes_of ok (prOk_add or_ok (prOk_add cmpI_ok (prOk_add cmpJ_ok (prOk_add cmpS_ok prOk_none)))) (L := 100) (ms := []) (by kernel_rfl) loops_none ?_
    refine Eq.mpr (pcmp_body a b c a' b' c' _) ?_
    exact ⟨by rw [cmp3_or], rfl⟩
  · cases e
theorem prCm_ok : PrOk Try.prog prCm := prOk_add or_ok (prOk_add cmpI_ok (prOk_add cmpJ_ok (prOk_add cmpS_ok prOk_none)))
/- ### the map of what there is -/
noncomputable def newQF : Sy.Spec := mapF (mNil 0 1 shQ) (selfF Try.prog noP 100 44)
theorem newQ_ok : SpecOk Try.prog 44 newQF.f := mapF_ok (mNil_ok _ _ _) (self_ok ok prOk_none (by kernel_rfl))
noncomputable def prQ0 : FuncId → Option Sy.Spec := addP 71 (insF shQ) (addP 44 newQF (addP 45 cmpF (addP 48 ofF (addP 47 addF (addP 49 timesF (addP 53 numF (addP 54 quoF noP)))))))
theorem prQ0_ok : PrOk Try.prog prQ0 := prOk_add pins_ok (prOk_add newQ_ok (prOk_add pcmp_ok (prOk_add W.of_ok (prOk_add W.add_ok (prOk_add W.times_ok (prOk_add W.num_ok (prOk_add W.quo_ok prOk_none)))))))
def fsQ : List FuncId := [84, 83, 70, 50, 52, 27, 51, 23, 46, 24, 25]
noncomputable def prQ1 : FuncId → Option Sy.Spec := selfs Try.prog 100 fsQ prQ0
theorem prQ1_ok : PrOk Try.prog prQ1 := selfs_ok ok fsQ prQ0 prQ0_ok (by kernel_rfl)
theorem abeg_body (K : AV → St → Prop) : bodyK Try.prog prQ1 noL 100 21 [] [] [] K =
  K (AV.bool true) [] := by kernel_rfl
theorem abeg_ok : SpecOk Try.prog 21 trueF7.f := specOk_comes fun args s v s' tch e => by
  simp only [trueF7] at e
  split at e
  · obtain ⟨hg, rfl, rfl, rfl⟩ := run_ok e
    refine comes_of ok prQ1_ok (L := 100) (ms := []) (by kernel_rfl) loops_none ?_
    rw [abeg_body]
    exact ⟨rfl, rfl⟩
  · cases e
noncomputable def prQM : FuncId → Option Sy.Spec := addP 29 (selfF Try.prog noP 100 29) prQ1
theorem prQM_ok : PrOk Try.prog prQM := prOk_add (self_ok ok prOk_none (by kernel_rfl)) prQ1_ok
noncomputable def prQ2 : FuncId → Option Sy.Spec := addP 21 trueF7 prQM
theorem prQ2_ok : PrOk Try.prog prQ2 := prOk_add abeg_ok prQM_ok
theorem anone_body (K : AV → St → Prop) : bodyK Try.prog prQ2 noL 100 9 [] [] [] K =
  K (AV.bool true) [] := by kernel_rfl
theorem aggNone_comes : Sy.Comes Try.prog 9 [] [] (.bool true) [] := by
  refine comes_of ok prQ2_ok (L := 100) (ms := []) (by kernel_rfl) loops_none ?_
  rw [anone_body]
  exact ⟨rfl, rfl⟩
end Go.Proofs.Ytcbojoeijpeadaa
