/- Walks: great numbers, the beginning. -/
import Derived.Test.YtgmddliidplooabPvE
import Derived.Test.YtgmddliidplooabWide
import Derived.KernelRfl
set_option linter.unusedSimpArgs false
set_option linter.unusedVariables false
set_option maxRecDepth 100000
namespace Go.Proofs.Ytgmddliidplooab.W
open Go Go.Sy
attribute [local irreducible] bodyK roundK
def quocF : Sy.Spec := ⟨[], fun args s => match args, s with
  | [.agg [.int .i64 h, .int .u64 l], .int .i64 n], [] => match decide (h = 0) && (decide (l = 9223372036854775808) && decide (n = 2)) with
    | true => .ok true (.tup [.int .i64 4611686018427387904, .bool true]) [] []
    | false => .ok (decide (h = -1) && (decide (l = 18446744073709551609) && decide (n = 2))) (.tup [.int .i64 (-3), .bool true]) [] []
  | _, _ => .fail⟩
theorem quo_c1 (k : AV → St → Prop) : bodyK Try.prog prQ noL 100 16 [] [.agg [.int .i64 0, .int .u64 9223372036854775808], .int .i64 2] [] k =
  k (AV.tup [AV.int IntKind.i64 (4611686018427387904 : Int), AV.bool true]) [] := by kernel_rfl
theorem quo_c2 (k : AV → St → Prop) : bodyK Try.prog prQ noL 100 16 [] [.agg [.int .i64 (-1), .int .u64 18446744073709551609], .int .i64 2] [] k =
  k (AV.tup [AV.int IntKind.i64 (-3 : Int), AV.bool true]) [] := by kernel_rfl
theorem quoc_ok : SpecOk Try.prog 16 quocF.f := specOk_comes fun args s v s' tch e => by
  simp only [quocF] at e
  split at e
  · split at e
    · rename_i hc
      obtain ⟨hg, rfl, rfl, rfl⟩ := run_ok e
      simp only [Bool.and_eq_true, decide_eq_true_eq] at hc
      obtain ⟨rfl, rfl, rfl⟩ := hc
      refine comes_of ok prQ_ok (L := 100) (ms := []) (by kernel_rfl) loops_none ?_
      rw [quo_c1]
      exact ⟨rfl, rfl⟩
    · obtain ⟨hg, rfl, rfl, rfl⟩ := run_ok e
      simp only [Bool.and_eq_true, decide_eq_true_eq] at hg
      obtain ⟨rfl, rfl, rfl⟩ := hg
      refine comes_of ok prQ_ok (L := 100) (ms := []) (by kernel_rfl) loops_none ?_
      rw [quo_c2]
      exact ⟨rfl, rfl⟩
  · cases e
def prB : FuncId → Option Sy.Spec := addP 8 ofF (addP 14 addF (addP 18 numF (addP 16 quocF (addP 17 partsF (addP 13 wcmpF (addP 15 negF noP))))))
theorem prB_ok : PrOk Try.prog prB := prOk_add of_ok (prOk_add add_ok (prOk_add num_ok (prOk_add quoc_ok (prOk_add parts_ok (prOk_add wcmp_ok (prOk_add neg_ok prOk_none))))))
theorem begun_body (k : AV → St → Prop) : bodyK Try.prog prB noL 100 7 [] [] [] k =
  k (AV.bool true) [] := by kernel_rfl
theorem begun_ok : SpecOk Try.prog 7 trueF2.f := specOk_comes fun args s v s' tch e => by
  simp only [trueF2] at e
  split at e
  · obtain ⟨hg, rfl, rfl, rfl⟩ := run_ok e
    refine comes_of ok prB_ok (L := 100) (ms := []) (by kernel_rfl) loops_none ?_
    rw [begun_body]
    exact ⟨rfl, rfl⟩
  · cases e
def prS : FuncId → Option Sy.Spec := addP 7 trueF2 (addP 8 ofF (addP 14 addF (addP 18 numF (addP 17 partsF (addP 13 wcmpF (addP 15 negF (addP 9 timesF noP)))))))
theorem prS_ok : PrOk Try.prog prS := prOk_add begun_ok (prOk_add of_ok (prOk_add add_ok (prOk_add num_ok (prOk_add parts_ok (prOk_add wcmp_ok (prOk_add neg_ok (prOk_add times_ok prOk_none)))))))
end Go.Proofs.Ytgmddliidplooab.W
