/- DepChain comes to true. -/
import Derived.Test.YtekedhfmdpbplaaFcC
import Derived.KernelRfl
set_option linter.unusedSimpArgs false
set_option linter.unusedVariables false
set_option maxRecDepth 100000
namespace Go.Proofs.Ytekedhfmdpbplaa
open Go Go.Sy
attribute [local irreducible] bodyK roundK cutK
noncomputable def prO : FuncId → Option Sy.Spec := addP 38 begF noP
theorem dcx (n a b : Int) (K : AV → St → Prop) : bodyK Try.prog prO noL 1 10 [] [.int .i64 n, .int .i64 a, .int .i64 b] [] K =
  br (decide (n < (2 : Int)))
    (K (AV.bool true) [])
    (br (decide (n > (4 : Int)))
      (K (AV.bool true) [])
      (br (decide (a < (0 : Int)))
        (K (AV.bool true) [])
        (br (decide (a ≥ n))
          (K (AV.bool true) [])
          (br (decide (b < (0 : Int)))
            (K (AV.bool true) [])
            (br (decide (b ≥ n))
              (K (AV.bool true) [])
              (br (decide ((0 : Int) < n))
                (False)
                (False))))))) := by kernel_rfl
theorem prO_ok : PrOk Try.prog prO := prOk_add beg10_ok prOk_none
theorem depChain_in (n a b : Int) (h1 : 2 ≤ n) (h2 : n ≤ 4) (h3 : 0 ≤ a) (h4 : a < n) (h5 : 0 ≤ b) (h6 : b < n) : Sy.Comes Try.prog 10 [.int .i64 n, .int .i64 a, .int .i64 b] [] (.bool true) [] := by
  have hn : n = 2 ∨ n = 3 ∨ n = 4 := by omega
  rcases hn with rfl | rfl | rfl
  · have ha : a = 0 ∨ a = 1 := by omega
    have hb : b = 0 ∨ b = 1 := by omega
    rcases ha with rfl | rfl <;> rcases hb with rfl | rfl
    · exact dc_2_0_0
    · exact dc_2_0_1
    · exact dc_2_1_0
    · exact dc_2_1_1
  · have ha : a = 0 ∨ a = 1 ∨ a = 2 := by omega
    have hb : b = 0 ∨ b = 1 ∨ b = 2 := by omega
    rcases ha with rfl | rfl | rfl <;> rcases hb with rfl | rfl | rfl
    · exact dc_3_0_0
    · exact dc_3_0_1
    · exact dc_3_0_2
    · exact dc_3_1_0
    · exact dc_3_1_1
    · exact dc_3_1_2
    · exact dc_3_2_0
    · exact dc_3_2_1
    · exact dc_3_2_2
  · have ha : a = 0 ∨ a = 1 ∨ a = 2 ∨ a = 3 := by omega
    have hb : b = 0 ∨ b = 1 ∨ b = 2 ∨ b = 3 := by omega
    rcases ha with rfl | rfl | rfl | rfl <;> rcases hb with rfl | rfl | rfl | rfl
    · exact dc_4_0_0
    · exact dc_4_0_1
    · exact dc_4_0_2
    · exact dc_4_0_3
    · exact dc_4_1_0
    · exact dc_4_1_1
    · exact dc_4_1_2
    · exact dc_4_1_3
    · exact dc_4_2_0
    · exact dc_4_2_1
    · exact dc_4_2_2
    · exact dc_4_2_3
    · exact dc_4_3_0
    · exact dc_4_3_1
    · exact dc_4_3_2
    · exact dc_4_3_3
theorem depChain_comes (n a b : Int) : Sy.Comes Try.prog 10 [.int .i64 n, .int .i64 a, .int .i64 b] [] (.bool true) [] := by
  by_cases h : 2 ≤ n ∧ n ≤ 4 ∧ 0 ≤ a ∧ a < n ∧ 0 ≤ b ∧ b < n
  · obtain ⟨h1, h2, h3, h4, h5, h6⟩ := h
    exact depChain_in n a b h1 h2 h3 h4 h5 h6
  · refine comes_of ok prO_ok (L := 1) (ms := []) (by kernel_rfl) loops_none (Eq.mpr (dcx n a b _) ?_)
    refine br_iff.2 ⟨fun _ => ⟨rfl, rfl⟩, fun h1 => br_iff.2 ⟨fun _ => ⟨rfl, rfl⟩, fun h2 => br_iff.2 ⟨fun _ => ⟨rfl, rfl⟩, fun h3 => br_iff.2 ⟨fun _ => ⟨rfl, rfl⟩, fun h4 => br_iff.2 ⟨fun _ => ⟨rfl, rfl⟩, fun h5 => br_iff.2 ⟨fun _ => ⟨rfl, rfl⟩, fun h6 => ?_⟩⟩⟩⟩⟩⟩
    exact absurd ⟨by omega, by omega, by omega, by omega, by omega, by omega⟩ h
end Go.Proofs.Ytekedhfmdpbplaa
