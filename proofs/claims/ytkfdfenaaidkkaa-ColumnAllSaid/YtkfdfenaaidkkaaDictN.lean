/- Walks: no map, no words; two words. -/
import Derived.Test.YtkfdfenaaidkkaaDict
import Derived.Test.YtkfdfenaaidkkaaPvL
import Derived.KernelRfl
set_option linter.unusedSimpArgs false
set_option linter.unusedVariables false
set_option maxRecDepth 100000
namespace Go.Proofs.Ytkfdfenaaidkkaa
open Go Go.Sy
attribute [local irreducible] bodyK roundK
theorem findN_body (k : List UInt8) (K : AV → St → Prop) : bodyK Try.prog noP noL 100 44 [] [.ptr none, .str k] [] K =
  K (AV.tup [AV.int IntKind.i64 (0 : Int), AV.bool false]) [] := by kernel_rfl
theorem findN_ok : SpecOk Try.prog 44 (nilKF (.tup [.int .i64 0, .bool false])).f := specOk_comes fun args s v s' tch e => by
  simp only [nilKF] at e
  split at e
  · obtain ⟨hg, rfl, rfl, rfl⟩ := run_ok e
    refine comes_of ok prOk_none (L := 100) (ms := []) (by kernel_rfl) loops_none ?_
    refine Eq.mpr (findN_body ..) ?_
    exact ⟨rfl, rfl⟩
  · cases e
def prN1 : FuncId → Option Sy.Spec := addP 44 (nilKF (.tup [.int .i64 0, .bool false])) noP
theorem prN1_ok : PrOk Try.prog prN1 := prOk_add findN_ok prOk_none
theorem getN_body (k : List UInt8) (K : AV → St → Prop) : bodyK Try.prog prN1 noL 100 33 [] [.ptr none, .str k] [] K =
  K (AV.tup [AV.int IntKind.i64 (0 : Int), AV.bool false]) [] := by kernel_rfl
theorem getN_ok : SpecOk Try.prog 33 (nilKF (.tup [.int .i64 0, .bool false])).f := specOk_comes fun args s v s' tch e => by
  simp only [nilKF] at e
  split at e
  · obtain ⟨hg, rfl, rfl, rfl⟩ := run_ok e
    refine comes_of ok prN1_ok (L := 100) (ms := []) (by kernel_rfl) loops_none ?_
    refine Eq.mpr (getN_body ..) ?_
    exact ⟨rfl, rfl⟩
  · cases e
theorem putN_body (k : List UInt8) (n : Int) (K : AV → St → Prop) : bodyK Try.prog prN1 noL 100 34 [] [.ptr none, .str k, .int .i64 n] [] K =
  K (AV.bool false) [] := by kernel_rfl
theorem putN_ok : SpecOk Try.prog 34 (nilKVF (.bool false)).f := specOk_comes fun args s v s' tch e => by
  simp only [nilKVF] at e
  split at e
  · obtain ⟨hg, rfl, rfl, rfl⟩ := run_ok e
    refine comes_of ok prN1_ok (L := 100) (ms := []) (by kernel_rfl) loops_none ?_
    refine Eq.mpr (putN_body ..) ?_
    exact ⟨rfl, rfl⟩
  · cases e
theorem delN_body (k : List UInt8) (K : AV → St → Prop) : bodyK Try.prog prN1 noL 100 35 [] [.ptr none, .str k] [] K =
  K (AV.bool false) [] := by kernel_rfl
theorem delN_ok : SpecOk Try.prog 35 (nilKF (.bool false)).f := specOk_comes fun args s v s' tch e => by
  simp only [nilKF] at e
  split at e
  · obtain ⟨hg, rfl, rfl, rfl⟩ := run_ok e
    refine comes_of ok prN1_ok (L := 100) (ms := []) (by kernel_rfl) loops_none ?_
    refine Eq.mpr (delN_body ..) ?_
    exact ⟨rfl, rfl⟩
  · cases e
theorem mrankN_body (k : List UInt8) (K : AV → St → Prop) : bodyK Try.prog prN1 noL 100 37 [] [.ptr none, .str k] [] K =
  K (AV.int IntKind.i64 (0 : Int)) [] := by kernel_rfl
theorem mrankN_ok : SpecOk Try.prog 37 (nilKF (.int .i64 0)).f := specOk_comes fun args s v s' tch e => by
  simp only [nilKF] at e
  split at e
  · obtain ⟨hg, rfl, rfl, rfl⟩ := run_ok e
    refine comes_of ok prN1_ok (L := 100) (ms := []) (by kernel_rfl) loops_none ?_
    refine Eq.mpr (mrankN_body ..) ?_
    exact ⟨rfl, rfl⟩
  · cases e
theorem mlenN_body (K : AV → St → Prop) : bodyK Try.prog noP noL 100 36 [] [.ptr none] [] K =
  K (AV.int IntKind.i64 (0 : Int)) [] := by kernel_rfl
theorem mlenN_ok : SpecOk Try.prog 36 (nilF (.int .i64 0)).f := specOk_comes fun args s v s' tch e => by
  simp only [nilF] at e
  split at e
  · obtain ⟨hg, rfl, rfl, rfl⟩ := run_ok e
    refine comes_of ok prOk_none (L := 100) (ms := []) (by kernel_rfl) loops_none ?_
    refine Eq.mpr (mlenN_body ..) ?_
    exact ⟨rfl, rfl⟩
  · cases e
def prN2 : FuncId → Option Sy.Spec := addP 36 (nilF (.int .i64 0)) noP
theorem prN2_ok : PrOk Try.prog prN2 := prOk_add mlenN_ok prOk_none
theorem matN_body (n : Int) (K : AV → St → Prop) : bodyK Try.prog prN2 noL 100 38 [] [.ptr none, .int .i64 n] [] K =
  br (decide (n < (0 : Int)))
    (K (AV.tup [AV.str [], AV.int IntKind.i64 (0 : Int), AV.bool false]) [])
    (br (decide (n ≥ (0 : Int)))
      (K (AV.tup [AV.str [], AV.int IntKind.i64 (0 : Int), AV.bool false]) [])
      (False)) := by kernel_rfl
theorem matN_ok : SpecOk Try.prog 38 (nilIF (.tup [.str [], .int .i64 0, .bool false])).f := specOk_comes fun args s v s' tch e => by
  simp only [nilIF] at e
  split at e
  · rename_i n
    obtain ⟨hg, rfl, rfl, rfl⟩ := run_ok e
    refine comes_of ok prN2_ok (L := 100) (ms := []) (by kernel_rfl) loops_none ?_
    refine Eq.mpr (matN_body ..) ?_
    exact br_iff.2 ⟨fun _ => ⟨rfl, rfl⟩, fun h => br_iff.2 ⟨fun _ => ⟨rfl, rfl⟩, fun h2 => by omega⟩⟩
  · cases e
theorem wordsN_body (K : AV → St → Prop) : bodyK Try.prog noP noL 100 32 [] [.ptr none] [] K =
  K (AV.ptr none) [] := by kernel_rfl
theorem wordsN_ok : SpecOk Try.prog 32 (nilF (.ptr none)).f := specOk_comes fun args s v s' tch e => by
  simp only [nilF] at e
  split at e
  · obtain ⟨hg, rfl, rfl, rfl⟩ := run_ok e
    refine comes_of ok prOk_none (L := 100) (ms := []) (by kernel_rfl) loops_none ?_
    refine Eq.mpr (wordsN_body ..) ?_
    exact ⟨rfl, rfl⟩
  · cases e
def prN3 : FuncId → Option Sy.Spec := addP 32 (nilF (.ptr none)) (addP 33 (nilKF (.tup [.int .i64 0, .bool false])) (addP 34 (nilKVF (.bool false)) (addP 35 (nilKF (.bool false)) (addP 37 (nilKF (.int .i64 0)) (addP 36 (nilF (.int .i64 0)) (addP 38 (nilIF (.tup [.str [], .int .i64 0, .bool false])) noP))))))
theorem prN3_ok : PrOk Try.prog prN3 := prOk_add wordsN_ok (prOk_add getN_ok (prOk_add putN_ok (prOk_add delN_ok (prOk_add mrankN_ok (prOk_add mlenN_ok (prOk_add matN_ok prOk_none))))))
theorem addN_body (k : List UInt8) (K : AV → St → Prop) : bodyK Try.prog prN3 noL 100 12 [] [.ptr none, .str k] [] K =
  K (AV.bool false) [] := by kernel_rfl
theorem addN_ok : SpecOk Try.prog 12 (nilKF (.bool false)).f := specOk_comes fun args s v s' tch e => by
  simp only [nilKF] at e
  split at e
  · obtain ⟨hg, rfl, rfl, rfl⟩ := run_ok e
    refine comes_of ok prN3_ok (L := 100) (ms := []) (by kernel_rfl) loops_none ?_
    refine Eq.mpr (addN_body ..) ?_
    exact ⟨rfl, rfl⟩
  · cases e
theorem takeN_body (k : List UInt8) (K : AV → St → Prop) : bodyK Try.prog prN3 noL 100 13 [] [.ptr none, .str k] [] K =
  K (AV.bool false) [] := by kernel_rfl
theorem takeN_ok : SpecOk Try.prog 13 (nilKF (.bool false)).f := specOk_comes fun args s v s' tch e => by
  simp only [nilKF] at e
  split at e
  · obtain ⟨hg, rfl, rfl, rfl⟩ := run_ok e
    refine comes_of ok prN3_ok (L := 100) (ms := []) (by kernel_rfl) loops_none ?_
    refine Eq.mpr (takeN_body ..) ?_
    exact ⟨rfl, rfl⟩
  · cases e
theorem rankN_body (k : List UInt8) (K : AV → St → Prop) : bodyK Try.prog prN3 noL 100 16 [] [.ptr none, .str k] [] K =
  K (AV.tup [AV.int IntKind.i64 (0 : Int), AV.bool false]) [] := by kernel_rfl
theorem rankN_ok : SpecOk Try.prog 16 (nilKF (.tup [.int .i64 0, .bool false])).f := specOk_comes fun args s v s' tch e => by
  simp only [nilKF] at e
  split at e
  · obtain ⟨hg, rfl, rfl, rfl⟩ := run_ok e
    refine comes_of ok prN3_ok (L := 100) (ms := []) (by kernel_rfl) loops_none ?_
    refine Eq.mpr (rankN_body ..) ?_
    exact ⟨rfl, rfl⟩
  · cases e
theorem atN_body (n : Int) (K : AV → St → Prop) : bodyK Try.prog prN3 noL 100 17 [] [.ptr none, .int .i64 n] [] K =
  K (AV.tup [AV.str [], AV.bool false]) [] := by kernel_rfl
theorem atN_ok : SpecOk Try.prog 17 (nilIF (.tup [.str [], .bool false])).f := specOk_comes fun args s v s' tch e => by
  simp only [nilIF] at e
  split at e
  · obtain ⟨hg, rfl, rfl, rfl⟩ := run_ok e
    refine comes_of ok prN3_ok (L := 100) (ms := []) (by kernel_rfl) loops_none ?_
    refine Eq.mpr (atN_body ..) ?_
    exact ⟨rfl, rfl⟩
  · cases e
theorem lenN_body (K : AV → St → Prop) : bodyK Try.prog prN3 noL 100 15 [] [.ptr none] [] K =
  K (AV.int IntKind.i64 (0 : Int)) [] := by kernel_rfl
theorem lenN_ok : SpecOk Try.prog 15 (nilF (.int .i64 0)).f := specOk_comes fun args s v s' tch e => by
  simp only [nilF] at e
  split at e
  · obtain ⟨hg, rfl, rfl, rfl⟩ := run_ok e
    refine comes_of ok prN3_ok (L := 100) (ms := []) (by kernel_rfl) loops_none ?_
    refine Eq.mpr (lenN_body ..) ?_
    exact ⟨rfl, rfl⟩
  · cases e
theorem spanN_body (n : Int) (k : List UInt8) (K : AV → St → Prop) : bodyK Try.prog prN3 noL 100 19 [] [.ptr none, .int .i64 n, .str k] [] K =
  br (decide (n = (1 : Int)))
    (K (AV.tup [AV.int IntKind.i64 (0 : Int), AV.int IntKind.i64 (0 : Int), AV.bool false]) [])
    (br (decide (n = (3 : Int)))
      (K (AV.tup [AV.int IntKind.i64 (0 : Int), AV.int IntKind.i64 (0 : Int), AV.bool false]) [])
      (br (decide (n = (4 : Int)))
        (K (AV.tup [AV.int IntKind.i64 (0 : Int), AV.int IntKind.i64 (0 : Int), AV.bool false]) [])
        (br (decide (n = (5 : Int)))
          (K (AV.tup [AV.int IntKind.i64 (0 : Int), AV.int IntKind.i64 (0 : Int), AV.bool false]) [])
          (br (decide (n = (6 : Int)))
            (K (AV.tup [AV.int IntKind.i64 (0 : Int), AV.int IntKind.i64 (0 : Int), AV.bool false]) [])
            (K (AV.tup [AV.int IntKind.i64 (0 : Int), AV.int IntKind.i64 (0 : Int), AV.bool false]) []))))) := by kernel_rfl
theorem spanN_ok : SpecOk Try.prog 19 (nilVKF (.tup [.int .i64 0, .int .i64 0, .bool false])).f := specOk_comes fun args s v s' tch e => by
  simp only [nilVKF] at e
  split at e
  · rename_i n k
    obtain ⟨hg, rfl, rfl, rfl⟩ := run_ok e
    refine comes_of ok prN3_ok (L := 100) (ms := []) (by kernel_rfl) loops_none ?_
    refine Eq.mpr (spanN_body ..) ?_
    by_cases h1 : n = 1
    · subst h1; exact ⟨rfl, rfl⟩
    · by_cases h3 : n = 3
      · subst h3; exact ⟨rfl, rfl⟩
      · by_cases h4 : n = 4
        · subst h4; exact ⟨rfl, rfl⟩
        · by_cases h5 : n = 5
          · subst h5; exact ⟨rfl, rfl⟩
          · by_cases h6 : n = 6
            · subst h6; exact ⟨rfl, rfl⟩
            · simp [br, h1, h3, h4, h5, h6]
  · cases e
def prD : FuncId → Option Sy.Spec := addP 12 (altF (nilKF (.bool false)) (addF 43)) (addP 13 (altF (nilKF (.bool false)) (takeF 43)) (addP 16 (altF (nilKF (.tup [.int .i64 0, .bool false])) (rankF 43)) (addP 17 (altF (nilIF (.tup [.str [], .bool false])) (atF 43)) (addP 15 (altF (nilF (.int .i64 0)) (lenDF 43)) (addP 19 (altF (nilVKF (.tup [.int .i64 0, .int .i64 0, .bool false])) (spanF 43)) noP)))))
theorem prD_ok : PrOk Try.prog prD := prOk_add (alt_ok addN_ok add_ok) (prOk_add (alt_ok takeN_ok take_ok) (prOk_add (alt_ok rankN_ok rank_ok) (prOk_add (alt_ok atN_ok at_ok) (prOk_add (alt_ok lenN_ok len_ok) (prOk_add (alt_ok spanN_ok span_ok) prOk_none)))))
theorem begun5_body (K : AV → St → Prop) : bodyK Try.prog prD noL 100 10 [] [] [] K = K (.bool true) [] := by kernel_rfl
theorem begun5_ok : SpecOk Try.prog 10 trueF0.f := specOk_comes fun args s v s' tch e => by
  simp only [trueF0] at e
  split at e
  · obtain ⟨hg, rfl, rfl, rfl⟩ := run_ok e
    refine comes_of ok prD_ok (L := 100) (ms := []) (by kernel_rfl) loops_none ?_
    rw [begun5_body]
    exact ⟨rfl, rfl⟩
  · cases e
def prG : FuncId → Option Sy.Spec := addP 10 trueF0 prD
theorem prG_ok : PrOk Try.prog prG := prOk_add begun5_ok prD_ok
theorem none_body (K : AV → St → Prop) : bodyK Try.prog prG noL 100 5 [] [] [] K = K (.bool true) [] := by kernel_rfl
theorem none_comes : Sy.Comes Try.prog 5 [] [] (.bool true) [] := by
  refine comes_of ok prG_ok (L := 100) (ms := []) (by kernel_rfl) loops_none ?_
  rw [none_body]
  exact ⟨rfl, rfl⟩
end Go.Proofs.Ytkfdfenaaidkkaa
