/- Walks: great numbers, as far as sums want them. -/
import Derived.Test.YteoockodkddipaaPvH
import Derived.Test.YteoockodkddipaaVal
import Derived.KernelRfl
set_option linter.unusedSimpArgs false
set_option linter.unusedVariables false
set_option maxRecDepth 100000
namespace Go.Proofs.Yteoockodkddipaa.W
open Go Go.Sy
attribute [local irreducible] bodyK roundK
theorem of_body (n : Int) (k : AV → St → Prop) : bodyK Try.prog noP noL 100 42 [] [.int .i64 n] [] k =
  k (AV.agg [AV.int IntKind.i64 (n.fdiv (9223372036854775808 : Int)), AV.int IntKind.u64 (IntKind.u64.wrap n)]) [] := by kernel_rfl
theorem of_ok : SpecOk Try.prog 42 ofF.f := specOk_comes fun args s v s' tch e => by
  simp only [ofF] at e
  split at e
  · obtain ⟨hg, rfl, rfl, rfl⟩ := run_ok e
    refine comes_of ok prOk_none (L := 100) (ms := []) (by kernel_rfl) loops_none ?_
    rw [of_body]
    exact ⟨by rw [of_hi hg, of_lo hg]; rfl, rfl⟩
  · cases e
theorem add_body (h l h' l' : Int) (k : AV → St → Prop) : bodyK Try.prog noP noL 100 41 [] [.agg [.int .i64 h, .int .u64 l], .agg [.int .i64 h', .int .u64 l']] [] k =
  br (decide ((0 : Int) ≤ (↑((l.toNat + l'.toNat + (0 : Nat)) / (18446744073709551616 : Nat)) : Int)) && decide ((↑((l.toNat + l'.toNat + (0 : Nat)) / (18446744073709551616 : Nat)) : Int) ≤ (1 : Int)))
    (k (AV.agg [AV.int IntKind.i64 (IntKind.i64.wrap (↑(((IntKind.u64.wrap h).toNat + (IntKind.u64.wrap h').toNat + (↑((l.toNat + l'.toNat + (0 : Nat)) / (18446744073709551616 : Nat)) : Int).toNat) % (18446744073709551616 : Nat)) : Int)), AV.int IntKind.u64 (↑((l.toNat + l'.toNat + (0 : Nat)) % (18446744073709551616 : Nat)) : Int)]) [])
    (False) := by kernel_rfl
theorem add_ok : SpecOk Try.prog 41 addF.f := specOk_comes fun args s v s' tch e => by
  simp only [addF] at e
  split at e
  · obtain ⟨hg, rfl, rfl, rfl⟩ := run_ok e
    simp only [Bool.and_eq_true] at hg
    refine comes_of ok prOk_none (L := 100) (ms := []) (by kernel_rfl) loops_none ?_
    rw [add_body]
    have g1 := inW_iff.1 hg.1
    have g2 := inW_iff.1 hg.2
    refine br_t (by simp only [Bool.and_eq_true, decide_eq_true_eq]; omega) ⟨?_, rfl⟩
    exact avW_congr (add_hi hg.1 hg.2) (add_lo hg.1 hg.2)
  · cases e
def prO : FuncId → Option Sy.Spec := addP 42 ofF noP
theorem prO_ok : PrOk Try.prog prO := prOk_add of_ok prOk_none
theorem num_body (h l : Int) (k : AV → St → Prop) : bodyK Try.prog prO noL 100 43 [] [.agg [.int .i64 h, .int .u64 l]] [] k =
  br (inI (IntKind.i64.wrap l))
    (br (decide (wH (IntKind.i64.wrap l) = h) && (decide (wL (IntKind.i64.wrap l) = l) && true))
      (k (AV.tup [AV.int IntKind.i64 (IntKind.i64.wrap l), AV.bool true]) [])
      (k (AV.tup [AV.int IntKind.i64 (0 : Int), AV.bool false]) []))
    (False) := by kernel_rfl
theorem num_ok : SpecOk Try.prog 43 numF.f := specOk_comes fun args s v s' tch e => by
  simp only [numF] at e
  split at e
  · rename_i h l
    obtain ⟨hg, rfl, rfl, rfl⟩ := run_ok e
    refine comes_of ok prO_ok (L := 100) (ms := []) (by kernel_rfl) loops_none ?_
    rw [num_body]
    refine br_t (inI_wrap _) ?_
    rw [num_law hg]
    refine br_mk (fun h1 => ⟨?_, rfl⟩) (fun h1 => ⟨?_, rfl⟩)
    · rw [num_val hg h1, numOf, if_pos h1, h1]
    · rw [numOf, if_neg (by rw [h1]; simp), h1]
  · cases e
theorem bof_body (n : Int) (k : AV → St → Prop) : bodyK Try.prog noP noL 100 16 [] [.int .i64 n] [] k =
  br (decide (n < (0 : Int)))
    (br (decide (n < (0 : Int)))
      (br (decide (n < (0 : Int)))
        (br (decide (n < (0 : Int)))
          (k (AV.agg [AV.int IntKind.u32 (IntKind.u32.wrap (IntKind.u64.wrap (↑(BitVec.ofInt (64 : Nat) ((IntKind.u64.wrap n).fdiv (1 : Int)) &&& BitVec.ofInt (64 : Nat) (65535 : Int)).toNat : Int))), AV.int IntKind.u32 (IntKind.u32.wrap (IntKind.u64.wrap (↑(BitVec.ofInt (64 : Nat) ((IntKind.u64.wrap n).fdiv (65536 : Int)) &&& BitVec.ofInt (64 : Nat) (65535 : Int)).toNat : Int))), AV.int IntKind.u32 (IntKind.u32.wrap (IntKind.u64.wrap (↑(BitVec.ofInt (64 : Nat) ((IntKind.u64.wrap n).fdiv (4294967296 : Int)) &&& BitVec.ofInt (64 : Nat) (65535 : Int)).toNat : Int))), AV.int IntKind.u32 (IntKind.u32.wrap (IntKind.u64.wrap (↑(BitVec.ofInt (64 : Nat) ((IntKind.u64.wrap n).fdiv (281474976710656 : Int)) &&& BitVec.ofInt (64 : Nat) (65535 : Int)).toNat : Int))), AV.int IntKind.u32 (65535 : Int), AV.int IntKind.u32 (65535 : Int), AV.int IntKind.u32 (65535 : Int), AV.int IntKind.u32 (65535 : Int)]) [])
          (k (AV.agg [AV.int IntKind.u32 (IntKind.u32.wrap (IntKind.u64.wrap (↑(BitVec.ofInt (64 : Nat) ((IntKind.u64.wrap n).fdiv (1 : Int)) &&& BitVec.ofInt (64 : Nat) (65535 : Int)).toNat : Int))), AV.int IntKind.u32 (IntKind.u32.wrap (IntKind.u64.wrap (↑(BitVec.ofInt (64 : Nat) ((IntKind.u64.wrap n).fdiv (65536 : Int)) &&& BitVec.ofInt (64 : Nat) (65535 : Int)).toNat : Int))), AV.int IntKind.u32 (IntKind.u32.wrap (IntKind.u64.wrap (↑(BitVec.ofInt (64 : Nat) ((IntKind.u64.wrap n).fdiv (4294967296 : Int)) &&& BitVec.ofInt (64 : Nat) (65535 : Int)).toNat : Int))), AV.int IntKind.u32 (IntKind.u32.wrap (IntKind.u64.wrap (↑(BitVec.ofInt (64 : Nat) ((IntKind.u64.wrap n).fdiv (281474976710656 : Int)) &&& BitVec.ofInt (64 : Nat) (65535 : Int)).toNat : Int))), AV.int IntKind.u32 (65535 : Int), AV.int IntKind.u32 (65535 : Int), AV.int IntKind.u32 (65535 : Int), AV.int IntKind.u32 (0 : Int)]) []))
        (br (decide (n < (0 : Int)))
          (k (AV.agg [AV.int IntKind.u32 (IntKind.u32.wrap (IntKind.u64.wrap (↑(BitVec.ofInt (64 : Nat) ((IntKind.u64.wrap n).fdiv (1 : Int)) &&& BitVec.ofInt (64 : Nat) (65535 : Int)).toNat : Int))), AV.int IntKind.u32 (IntKind.u32.wrap (IntKind.u64.wrap (↑(BitVec.ofInt (64 : Nat) ((IntKind.u64.wrap n).fdiv (65536 : Int)) &&& BitVec.ofInt (64 : Nat) (65535 : Int)).toNat : Int))), AV.int IntKind.u32 (IntKind.u32.wrap (IntKind.u64.wrap (↑(BitVec.ofInt (64 : Nat) ((IntKind.u64.wrap n).fdiv (4294967296 : Int)) &&& BitVec.ofInt (64 : Nat) (65535 : Int)).toNat : Int))), AV.int IntKind.u32 (IntKind.u32.wrap (IntKind.u64.wrap (↑(BitVec.ofInt (64 : Nat) ((IntKind.u64.wrap n).fdiv (281474976710656 : Int)) &&& BitVec.ofInt (64 : Nat) (65535 : Int)).toNat : Int))), AV.int IntKind.u32 (65535 : Int), AV.int IntKind.u32 (65535 : Int), AV.int IntKind.u32 (0 : Int), AV.int IntKind.u32 (65535 : Int)]) [])
          (k (AV.agg [AV.int IntKind.u32 (IntKind.u32.wrap (IntKind.u64.wrap (↑(BitVec.ofInt (64 : Nat) ((IntKind.u64.wrap n).fdiv (1 : Int)) &&& BitVec.ofInt (64 : Nat) (65535 : Int)).toNat : Int))), AV.int IntKind.u32 (IntKind.u32.wrap (IntKind.u64.wrap (↑(BitVec.ofInt (64 : Nat) ((IntKind.u64.wrap n).fdiv (65536 : Int)) &&& BitVec.ofInt (64 : Nat) (65535 : Int)).toNat : Int))), AV.int IntKind.u32 (IntKind.u32.wrap (IntKind.u64.wrap (↑(BitVec.ofInt (64 : Nat) ((IntKind.u64.wrap n).fdiv (4294967296 : Int)) &&& BitVec.ofInt (64 : Nat) (65535 : Int)).toNat : Int))), AV.int IntKind.u32 (IntKind.u32.wrap (IntKind.u64.wrap (↑(BitVec.ofInt (64 : Nat) ((IntKind.u64.wrap n).fdiv (281474976710656 : Int)) &&& BitVec.ofInt (64 : Nat) (65535 : Int)).toNat : Int))), AV.int IntKind.u32 (65535 : Int), AV.int IntKind.u32 (65535 : Int), AV.int IntKind.u32 (0 : Int), AV.int IntKind.u32 (0 : Int)]) [])))
      (br (decide (n < (0 : Int)))
        (br (decide (n < (0 : Int)))
          (k (AV.agg [AV.int IntKind.u32 (IntKind.u32.wrap (IntKind.u64.wrap (↑(BitVec.ofInt (64 : Nat) ((IntKind.u64.wrap n).fdiv (1 : Int)) &&& BitVec.ofInt (64 : Nat) (65535 : Int)).toNat : Int))), AV.int IntKind.u32 (IntKind.u32.wrap (IntKind.u64.wrap (↑(BitVec.ofInt (64 : Nat) ((IntKind.u64.wrap n).fdiv (65536 : Int)) &&& BitVec.ofInt (64 : Nat) (65535 : Int)).toNat : Int))), AV.int IntKind.u32 (IntKind.u32.wrap (IntKind.u64.wrap (↑(BitVec.ofInt (64 : Nat) ((IntKind.u64.wrap n).fdiv (4294967296 : Int)) &&& BitVec.ofInt (64 : Nat) (65535 : Int)).toNat : Int))), AV.int IntKind.u32 (IntKind.u32.wrap (IntKind.u64.wrap (↑(BitVec.ofInt (64 : Nat) ((IntKind.u64.wrap n).fdiv (281474976710656 : Int)) &&& BitVec.ofInt (64 : Nat) (65535 : Int)).toNat : Int))), AV.int IntKind.u32 (65535 : Int), AV.int IntKind.u32 (0 : Int), AV.int IntKind.u32 (65535 : Int), AV.int IntKind.u32 (65535 : Int)]) [])
          (k (AV.agg [AV.int IntKind.u32 (IntKind.u32.wrap (IntKind.u64.wrap (↑(BitVec.ofInt (64 : Nat) ((IntKind.u64.wrap n).fdiv (1 : Int)) &&& BitVec.ofInt (64 : Nat) (65535 : Int)).toNat : Int))), AV.int IntKind.u32 (IntKind.u32.wrap (IntKind.u64.wrap (↑(BitVec.ofInt (64 : Nat) ((IntKind.u64.wrap n).fdiv (65536 : Int)) &&& BitVec.ofInt (64 : Nat) (65535 : Int)).toNat : Int))), AV.int IntKind.u32 (IntKind.u32.wrap (IntKind.u64.wrap (↑(BitVec.ofInt (64 : Nat) ((IntKind.u64.wrap n).fdiv (4294967296 : Int)) &&& BitVec.ofInt (64 : Nat) (65535 : Int)).toNat : Int))), AV.int IntKind.u32 (IntKind.u32.wrap (IntKind.u64.wrap (↑(BitVec.ofInt (64 : Nat) ((IntKind.u64.wrap n).fdiv (281474976710656 : Int)) &&& BitVec.ofInt (64 : Nat) (65535 : Int)).toNat : Int))), AV.int IntKind.u32 (65535 : Int), AV.int IntKind.u32 (0 : Int), AV.int IntKind.u32 (65535 : Int), AV.int IntKind.u32 (0 : Int)]) []))
        (br (decide (n < (0 : Int)))
          (k (AV.agg [AV.int IntKind.u32 (IntKind.u32.wrap (IntKind.u64.wrap (↑(BitVec.ofInt (64 : Nat) ((IntKind.u64.wrap n).fdiv (1 : Int)) &&& BitVec.ofInt (64 : Nat) (65535 : Int)).toNat : Int))), AV.int IntKind.u32 (IntKind.u32.wrap (IntKind.u64.wrap (↑(BitVec.ofInt (64 : Nat) ((IntKind.u64.wrap n).fdiv (65536 : Int)) &&& BitVec.ofInt (64 : Nat) (65535 : Int)).toNat : Int))), AV.int IntKind.u32 (IntKind.u32.wrap (IntKind.u64.wrap (↑(BitVec.ofInt (64 : Nat) ((IntKind.u64.wrap n).fdiv (4294967296 : Int)) &&& BitVec.ofInt (64 : Nat) (65535 : Int)).toNat : Int))), AV.int IntKind.u32 (IntKind.u32.wrap (IntKind.u64.wrap (↑(BitVec.ofInt (64 : Nat) ((IntKind.u64.wrap n).fdiv (281474976710656 : Int)) &&& BitVec.ofInt (64 : Nat) (65535 : Int)).toNat : Int))), AV.int IntKind.u32 (65535 : Int), AV.int IntKind.u32 (0 : Int), AV.int IntKind.u32 (0 : Int), AV.int IntKind.u32 (65535 : Int)]) [])
          (k (AV.agg [AV.int IntKind.u32 (IntKind.u32.wrap (IntKind.u64.wrap (↑(BitVec.ofInt (64 : Nat) ((IntKind.u64.wrap n).fdiv (1 : Int)) &&& BitVec.ofInt (64 : Nat) (65535 : Int)).toNat : Int))), AV.int IntKind.u32 (IntKind.u32.wrap (IntKind.u64.wrap (↑(BitVec.ofInt (64 : Nat) ((IntKind.u64.wrap n).fdiv (65536 : Int)) &&& BitVec.ofInt (64 : Nat) (65535 : Int)).toNat : Int))), AV.int IntKind.u32 (IntKind.u32.wrap (IntKind.u64.wrap (↑(BitVec.ofInt (64 : Nat) ((IntKind.u64.wrap n).fdiv (4294967296 : Int)) &&& BitVec.ofInt (64 : Nat) (65535 : Int)).toNat : Int))), AV.int IntKind.u32 (IntKind.u32.wrap (IntKind.u64.wrap (↑(BitVec.ofInt (64 : Nat) ((IntKind.u64.wrap n).fdiv (281474976710656 : Int)) &&& BitVec.ofInt (64 : Nat) (65535 : Int)).toNat : Int))), AV.int IntKind.u32 (65535 : Int), AV.int IntKind.u32 (0 : Int), AV.int IntKind.u32 (0 : Int), AV.int IntKind.u32 (0 : Int)]) []))))
    (br (decide (n < (0 : Int)))
      (br (decide (n < (0 : Int)))
        (br (decide (n < (0 : Int)))
          (k (AV.agg [AV.int IntKind.u32 (IntKind.u32.wrap (IntKind.u64.wrap (↑(BitVec.ofInt (64 : Nat) ((IntKind.u64.wrap n).fdiv (1 : Int)) &&& BitVec.ofInt (64 : Nat) (65535 : Int)).toNat : Int))), AV.int IntKind.u32 (IntKind.u32.wrap (IntKind.u64.wrap (↑(BitVec.ofInt (64 : Nat) ((IntKind.u64.wrap n).fdiv (65536 : Int)) &&& BitVec.ofInt (64 : Nat) (65535 : Int)).toNat : Int))), AV.int IntKind.u32 (IntKind.u32.wrap (IntKind.u64.wrap (↑(BitVec.ofInt (64 : Nat) ((IntKind.u64.wrap n).fdiv (4294967296 : Int)) &&& BitVec.ofInt (64 : Nat) (65535 : Int)).toNat : Int))), AV.int IntKind.u32 (IntKind.u32.wrap (IntKind.u64.wrap (↑(BitVec.ofInt (64 : Nat) ((IntKind.u64.wrap n).fdiv (281474976710656 : Int)) &&& BitVec.ofInt (64 : Nat) (65535 : Int)).toNat : Int))), AV.int IntKind.u32 (0 : Int), AV.int IntKind.u32 (65535 : Int), AV.int IntKind.u32 (65535 : Int), AV.int IntKind.u32 (65535 : Int)]) [])
          (k (AV.agg [AV.int IntKind.u32 (IntKind.u32.wrap (IntKind.u64.wrap (↑(BitVec.ofInt (64 : Nat) ((IntKind.u64.wrap n).fdiv (1 : Int)) &&& BitVec.ofInt (64 : Nat) (65535 : Int)).toNat : Int))), AV.int IntKind.u32 (IntKind.u32.wrap (IntKind.u64.wrap (↑(BitVec.ofInt (64 : Nat) ((IntKind.u64.wrap n).fdiv (65536 : Int)) &&& BitVec.ofInt (64 : Nat) (65535 : Int)).toNat : Int))), AV.int IntKind.u32 (IntKind.u32.wrap (IntKind.u64.wrap (↑(BitVec.ofInt (64 : Nat) ((IntKind.u64.wrap n).fdiv (4294967296 : Int)) &&& BitVec.ofInt (64 : Nat) (65535 : Int)).toNat : Int))), AV.int IntKind.u32 (IntKind.u32.wrap (IntKind.u64.wrap (↑(BitVec.ofInt (64 : Nat) ((IntKind.u64.wrap n).fdiv (281474976710656 : Int)) &&& BitVec.ofInt (64 : Nat) (65535 : Int)).toNat : Int))), AV.int IntKind.u32 (0 : Int), AV.int IntKind.u32 (65535 : Int), AV.int IntKind.u32 (65535 : Int), AV.int IntKind.u32 (0 : Int)]) []))
        (br (decide (n < (0 : Int)))
          (k (AV.agg [AV.int IntKind.u32 (IntKind.u32.wrap (IntKind.u64.wrap (↑(BitVec.ofInt (64 : Nat) ((IntKind.u64.wrap n).fdiv (1 : Int)) &&& BitVec.ofInt (64 : Nat) (65535 : Int)).toNat : Int))), AV.int IntKind.u32 (IntKind.u32.wrap (IntKind.u64.wrap (↑(BitVec.ofInt (64 : Nat) ((IntKind.u64.wrap n).fdiv (65536 : Int)) &&& BitVec.ofInt (64 : Nat) (65535 : Int)).toNat : Int))), AV.int IntKind.u32 (IntKind.u32.wrap (IntKind.u64.wrap (↑(BitVec.ofInt (64 : Nat) ((IntKind.u64.wrap n).fdiv (4294967296 : Int)) &&& BitVec.ofInt (64 : Nat) (65535 : Int)).toNat : Int))), AV.int IntKind.u32 (IntKind.u32.wrap (IntKind.u64.wrap (↑(BitVec.ofInt (64 : Nat) ((IntKind.u64.wrap n).fdiv (281474976710656 : Int)) &&& BitVec.ofInt (64 : Nat) (65535 : Int)).toNat : Int))), AV.int IntKind.u32 (0 : Int), AV.int IntKind.u32 (65535 : Int), AV.int IntKind.u32 (0 : Int), AV.int IntKind.u32 (65535 : Int)]) [])
          (k (AV.agg [AV.int IntKind.u32 (IntKind.u32.wrap (IntKind.u64.wrap (↑(BitVec.ofInt (64 : Nat) ((IntKind.u64.wrap n).fdiv (1 : Int)) &&& BitVec.ofInt (64 : Nat) (65535 : Int)).toNat : Int))), AV.int IntKind.u32 (IntKind.u32.wrap (IntKind.u64.wrap (↑(BitVec.ofInt (64 : Nat) ((IntKind.u64.wrap n).fdiv (65536 : Int)) &&& BitVec.ofInt (64 : Nat) (65535 : Int)).toNat : Int))), AV.int IntKind.u32 (IntKind.u32.wrap (IntKind.u64.wrap (↑(BitVec.ofInt (64 : Nat) ((IntKind.u64.wrap n).fdiv (4294967296 : Int)) &&& BitVec.ofInt (64 : Nat) (65535 : Int)).toNat : Int))), AV.int IntKind.u32 (IntKind.u32.wrap (IntKind.u64.wrap (↑(BitVec.ofInt (64 : Nat) ((IntKind.u64.wrap n).fdiv (281474976710656 : Int)) &&& BitVec.ofInt (64 : Nat) (65535 : Int)).toNat : Int))), AV.int IntKind.u32 (0 : Int), AV.int IntKind.u32 (65535 : Int), AV.int IntKind.u32 (0 : Int), AV.int IntKind.u32 (0 : Int)]) [])))
      (br (decide (n < (0 : Int)))
        (br (decide (n < (0 : Int)))
          (k (AV.agg [AV.int IntKind.u32 (IntKind.u32.wrap (IntKind.u64.wrap (↑(BitVec.ofInt (64 : Nat) ((IntKind.u64.wrap n).fdiv (1 : Int)) &&& BitVec.ofInt (64 : Nat) (65535 : Int)).toNat : Int))), AV.int IntKind.u32 (IntKind.u32.wrap (IntKind.u64.wrap (↑(BitVec.ofInt (64 : Nat) ((IntKind.u64.wrap n).fdiv (65536 : Int)) &&& BitVec.ofInt (64 : Nat) (65535 : Int)).toNat : Int))), AV.int IntKind.u32 (IntKind.u32.wrap (IntKind.u64.wrap (↑(BitVec.ofInt (64 : Nat) ((IntKind.u64.wrap n).fdiv (4294967296 : Int)) &&& BitVec.ofInt (64 : Nat) (65535 : Int)).toNat : Int))), AV.int IntKind.u32 (IntKind.u32.wrap (IntKind.u64.wrap (↑(BitVec.ofInt (64 : Nat) ((IntKind.u64.wrap n).fdiv (281474976710656 : Int)) &&& BitVec.ofInt (64 : Nat) (65535 : Int)).toNat : Int))), AV.int IntKind.u32 (0 : Int), AV.int IntKind.u32 (0 : Int), AV.int IntKind.u32 (65535 : Int), AV.int IntKind.u32 (65535 : Int)]) [])
          (k (AV.agg [AV.int IntKind.u32 (IntKind.u32.wrap (IntKind.u64.wrap (↑(BitVec.ofInt (64 : Nat) ((IntKind.u64.wrap n).fdiv (1 : Int)) &&& BitVec.ofInt (64 : Nat) (65535 : Int)).toNat : Int))), AV.int IntKind.u32 (IntKind.u32.wrap (IntKind.u64.wrap (↑(BitVec.ofInt (64 : Nat) ((IntKind.u64.wrap n).fdiv (65536 : Int)) &&& BitVec.ofInt (64 : Nat) (65535 : Int)).toNat : Int))), AV.int IntKind.u32 (IntKind.u32.wrap (IntKind.u64.wrap (↑(BitVec.ofInt (64 : Nat) ((IntKind.u64.wrap n).fdiv (4294967296 : Int)) &&& BitVec.ofInt (64 : Nat) (65535 : Int)).toNat : Int))), AV.int IntKind.u32 (IntKind.u32.wrap (IntKind.u64.wrap (↑(BitVec.ofInt (64 : Nat) ((IntKind.u64.wrap n).fdiv (281474976710656 : Int)) &&& BitVec.ofInt (64 : Nat) (65535 : Int)).toNat : Int))), AV.int IntKind.u32 (0 : Int), AV.int IntKind.u32 (0 : Int), AV.int IntKind.u32 (65535 : Int), AV.int IntKind.u32 (0 : Int)]) []))
        (br (decide (n < (0 : Int)))
          (k (AV.agg [AV.int IntKind.u32 (IntKind.u32.wrap (IntKind.u64.wrap (↑(BitVec.ofInt (64 : Nat) ((IntKind.u64.wrap n).fdiv (1 : Int)) &&& BitVec.ofInt (64 : Nat) (65535 : Int)).toNat : Int))), AV.int IntKind.u32 (IntKind.u32.wrap (IntKind.u64.wrap (↑(BitVec.ofInt (64 : Nat) ((IntKind.u64.wrap n).fdiv (65536 : Int)) &&& BitVec.ofInt (64 : Nat) (65535 : Int)).toNat : Int))), AV.int IntKind.u32 (IntKind.u32.wrap (IntKind.u64.wrap (↑(BitVec.ofInt (64 : Nat) ((IntKind.u64.wrap n).fdiv (4294967296 : Int)) &&& BitVec.ofInt (64 : Nat) (65535 : Int)).toNat : Int))), AV.int IntKind.u32 (IntKind.u32.wrap (IntKind.u64.wrap (↑(BitVec.ofInt (64 : Nat) ((IntKind.u64.wrap n).fdiv (281474976710656 : Int)) &&& BitVec.ofInt (64 : Nat) (65535 : Int)).toNat : Int))), AV.int IntKind.u32 (0 : Int), AV.int IntKind.u32 (0 : Int), AV.int IntKind.u32 (0 : Int), AV.int IntKind.u32 (65535 : Int)]) [])
          (k (AV.agg [AV.int IntKind.u32 (IntKind.u32.wrap (IntKind.u64.wrap (↑(BitVec.ofInt (64 : Nat) ((IntKind.u64.wrap n).fdiv (1 : Int)) &&& BitVec.ofInt (64 : Nat) (65535 : Int)).toNat : Int))), AV.int IntKind.u32 (IntKind.u32.wrap (IntKind.u64.wrap (↑(BitVec.ofInt (64 : Nat) ((IntKind.u64.wrap n).fdiv (65536 : Int)) &&& BitVec.ofInt (64 : Nat) (65535 : Int)).toNat : Int))), AV.int IntKind.u32 (IntKind.u32.wrap (IntKind.u64.wrap (↑(BitVec.ofInt (64 : Nat) ((IntKind.u64.wrap n).fdiv (4294967296 : Int)) &&& BitVec.ofInt (64 : Nat) (65535 : Int)).toNat : Int))), AV.int IntKind.u32 (IntKind.u32.wrap (IntKind.u64.wrap (↑(BitVec.ofInt (64 : Nat) ((IntKind.u64.wrap n).fdiv (281474976710656 : Int)) &&& BitVec.ofInt (64 : Nat) (65535 : Int)).toNat : Int))), AV.int IntKind.u32 (0 : Int), AV.int IntKind.u32 (0 : Int), AV.int IntKind.u32 (0 : Int), AV.int IntKind.u32 (0 : Int)]) [])))) := by kernel_rfl
theorem bof_ok : SpecOk Try.prog 16 bofF.f := specOk_comes fun args s v s' tch eR => by
  simp only [bofF] at eR
  split at eR
  · rename_i n
    obtain ⟨hg, rfl, rfl, rfl⟩ := run_ok eR
    refine comes_of ok prOk_none (L := 100) (ms := []) (by kernel_rfl) loops_none ?_
    have hn := inI_iff.1 hg
    refine Eq.mpr (bof_body n _) ?_
    have fd : ∀ (x y : Int), 0 ≤ y → x.fdiv y = x / y := fun x y h => Int.fdiv_eq_ediv_of_nonneg x h
    by_cases h0 : n < 0
    · simp only [br, h0, decide_true]
      refine ⟨?_, trivial⟩
      refine av8_congr ?_ ?_ ?_ ?_ ?_ ?_ ?_ ?_ <;> simp only [and64, bD] <;> (try rw [fd _ _ (by omega), IntKind.wrap_u64]) <;> omega
    · simp only [br, h0, decide_false]
      refine ⟨?_, trivial⟩
      refine av8_congr ?_ ?_ ?_ ?_ ?_ ?_ ?_ ?_ <;> simp only [and64, bD] <;> (try rw [fd _ _ (by omega), IntKind.wrap_u64]) <;> omega
  · cases eR
theorem badd_body (a b c d e f g h a' b' c' d' e' f' g' h' : Int) (k : AV → St → Prop) : bodyK Try.prog noP noL 100 15 [] [av8 a b c d e f g h, av8 a' b' c' d' e' f' g' h'] [] k =
  k (AV.agg [AV.int IntKind.u32 (IntKind.u32.wrap (↑(BitVec.ofInt (32 : Nat) (IntKind.u32.wrap ((0 : Int) + IntKind.u32.wrap (a + a'))) &&& BitVec.ofInt (32 : Nat) (65535 : Int)).toNat : Int)), AV.int IntKind.u32 (IntKind.u32.wrap (↑(BitVec.ofInt (32 : Nat) (IntKind.u32.wrap ((IntKind.u32.wrap ((0 : Int) + IntKind.u32.wrap (a + a'))).fdiv (65536 : Int) + IntKind.u32.wrap (b + b'))) &&& BitVec.ofInt (32 : Nat) (65535 : Int)).toNat : Int)), AV.int IntKind.u32 (IntKind.u32.wrap (↑(BitVec.ofInt (32 : Nat) (IntKind.u32.wrap ((IntKind.u32.wrap ((IntKind.u32.wrap ((0 : Int) + IntKind.u32.wrap (a + a'))).fdiv (65536 : Int) + IntKind.u32.wrap (b + b'))).fdiv (65536 : Int) + IntKind.u32.wrap (c + c'))) &&& BitVec.ofInt (32 : Nat) (65535 : Int)).toNat : Int)), AV.int IntKind.u32 (IntKind.u32.wrap (↑(BitVec.ofInt (32 : Nat) (IntKind.u32.wrap ((IntKind.u32.wrap ((IntKind.u32.wrap ((IntKind.u32.wrap ((0 : Int) + IntKind.u32.wrap (a + a'))).fdiv (65536 : Int) + IntKind.u32.wrap (b + b'))).fdiv (65536 : Int) + IntKind.u32.wrap (c + c'))).fdiv (65536 : Int) + IntKind.u32.wrap (d + d'))) &&& BitVec.ofInt (32 : Nat) (65535 : Int)).toNat : Int)), AV.int IntKind.u32 (IntKind.u32.wrap (↑(BitVec.ofInt (32 : Nat) (IntKind.u32.wrap ((IntKind.u32.wrap ((IntKind.u32.wrap ((IntKind.u32.wrap ((IntKind.u32.wrap ((0 : Int) + IntKind.u32.wrap (a + a'))).fdiv (65536 : Int) + IntKind.u32.wrap (b + b'))).fdiv (65536 : Int) + IntKind.u32.wrap (c + c'))).fdiv (65536 : Int) + IntKind.u32.wrap (d + d'))).fdiv (65536 : Int) + IntKind.u32.wrap (e + e'))) &&& BitVec.ofInt (32 : Nat) (65535 : Int)).toNat : Int)), AV.int IntKind.u32 (IntKind.u32.wrap (↑(BitVec.ofInt (32 : Nat) (IntKind.u32.wrap ((IntKind.u32.wrap ((IntKind.u32.wrap ((IntKind.u32.wrap ((IntKind.u32.wrap ((IntKind.u32.wrap ((0 : Int) + IntKind.u32.wrap (a + a'))).fdiv (65536 : Int) + IntKind.u32.wrap (b + b'))).fdiv (65536 : Int) + IntKind.u32.wrap (c + c'))).fdiv (65536 : Int) + IntKind.u32.wrap (d + d'))).fdiv (65536 : Int) + IntKind.u32.wrap (e + e'))).fdiv (65536 : Int) + IntKind.u32.wrap (f + f'))) &&& BitVec.ofInt (32 : Nat) (65535 : Int)).toNat : Int)), AV.int IntKind.u32 (IntKind.u32.wrap (↑(BitVec.ofInt (32 : Nat) (IntKind.u32.wrap ((IntKind.u32.wrap ((IntKind.u32.wrap ((IntKind.u32.wrap ((IntKind.u32.wrap ((IntKind.u32.wrap ((IntKind.u32.wrap ((0 : Int) + IntKind.u32.wrap (a + a'))).fdiv (65536 : Int) + IntKind.u32.wrap (b + b'))).fdiv (65536 : Int) + IntKind.u32.wrap (c + c'))).fdiv (65536 : Int) + IntKind.u32.wrap (d + d'))).fdiv (65536 : Int) + IntKind.u32.wrap (e + e'))).fdiv (65536 : Int) + IntKind.u32.wrap (f + f'))).fdiv (65536 : Int) + IntKind.u32.wrap (g + g'))) &&& BitVec.ofInt (32 : Nat) (65535 : Int)).toNat : Int)), AV.int IntKind.u32 (IntKind.u32.wrap (↑(BitVec.ofInt (32 : Nat) (IntKind.u32.wrap ((IntKind.u32.wrap ((IntKind.u32.wrap ((IntKind.u32.wrap ((IntKind.u32.wrap ((IntKind.u32.wrap ((IntKind.u32.wrap ((IntKind.u32.wrap ((0 : Int) + IntKind.u32.wrap (a + a'))).fdiv (65536 : Int) + IntKind.u32.wrap (b + b'))).fdiv (65536 : Int) + IntKind.u32.wrap (c + c'))).fdiv (65536 : Int) + IntKind.u32.wrap (d + d'))).fdiv (65536 : Int) + IntKind.u32.wrap (e + e'))).fdiv (65536 : Int) + IntKind.u32.wrap (f + f'))).fdiv (65536 : Int) + IntKind.u32.wrap (g + g'))).fdiv (65536 : Int) + IntKind.u32.wrap (h + h'))) &&& BitVec.ofInt (32 : Nat) (65535 : Int)).toNat : Int))]) [] := by kernel_rfl
theorem badd_ok : SpecOk Try.prog 15 baddF.f := specOk_comes fun args s v s' tch eR => by
  simp only [baddF] at eR
  split at eR
  · rename_i a b c d e f g h a' b' c' d' e' f' g' h'
    obtain ⟨hg, rfl, rfl, rfl⟩ := run_ok eR
    refine comes_of ok prOk_none (L := 100) (ms := []) (by kernel_rfl) loops_none ?_
    simp only [Bool.and_eq_true, inB_iff] at hg
    obtain ⟨⟨ha, hb, hc, hd, he, hf, hgg, hh⟩, ⟨ha', hb', hc', hd', he', hf', hgg', hh'⟩⟩ := hg
    refine Eq.mpr (badd_body a b c d e f g h a' b' c' d' e' f' g' h' _) ?_
    refine ⟨?_, by trivial⟩
    have fd : ∀ (x : Int), x.fdiv 65536 = x / 65536 := fun x => Int.fdiv_eq_ediv_of_nonneg x (by omega)
    simp only [and32, fd]
    have st : ∀ x y s : Int, 0 ≤ s ∧ s < 131072 → 0 ≤ x ∧ x < 65536 → 0 ≤ y ∧ y < 65536 → IntKind.u32.wrap (s / 65536 + IntKind.u32.wrap (x + y)) = s / 65536 + (x + y) := fun x y s hs hx hy => by rw [u32_wrap (x := x + y) (by omega) (by omega), u32_wrap (by omega) (by omega)]
    have e0 : IntKind.u32.wrap ((0 : Int) + IntKind.u32.wrap (a + a')) = a + a' := by rw [u32_wrap (x := a + a') (by omega) (by omega), u32_wrap (by omega) (by omega)]; omega
    rw [e0, st b b' _ (by omega) hb hb']
    obtain ⟨s1, e1⟩ : ∃ s1, s1 = (a + a') / 65536 + (b + b') := ⟨_, rfl⟩
    rw [← e1, st c c' s1 (by omega) hc hc']
    obtain ⟨s2, e2⟩ : ∃ s2, s2 = s1 / 65536 + (c + c') := ⟨_, rfl⟩
    rw [← e2, st d d' s2 (by omega) hd hd']
    obtain ⟨s3, e3⟩ : ∃ s3, s3 = s2 / 65536 + (d + d') := ⟨_, rfl⟩
    rw [← e3, st e e' s3 (by omega) he he']
    obtain ⟨s4, e4⟩ : ∃ s4, s4 = s3 / 65536 + (e + e') := ⟨_, rfl⟩
    rw [← e4, st f f' s4 (by omega) hf hf']
    obtain ⟨s5, e5⟩ : ∃ s5, s5 = s4 / 65536 + (f + f') := ⟨_, rfl⟩
    rw [← e5, st g g' s5 (by omega) hgg hgg']
    obtain ⟨s6, e6⟩ : ∃ s6, s6 = s5 / 65536 + (g + g') := ⟨_, rfl⟩
    rw [← e6, st h h' s6 (by omega) hh hh']
    exact (bD_sum e1 e2 e3 e4 e5 e6 rfl).symm
  · cases eR
def prBM : FuncId → Option Sy.Spec := addP 16 bofF noP
theorem bnum_body (a b c d e f g h : Int) (k : AV → St → Prop) : bodyK Try.prog prBM noL 100 17 [] [av8 a b c d e f g h] [] k =
  br (inI (IntKind.i64.wrap (IntKind.u64.wrap (↑(BitVec.ofInt (64 : Nat) (IntKind.u64.wrap (IntKind.u64.wrap (↑(BitVec.ofInt (64 : Nat) (IntKind.u64.wrap (IntKind.u64.wrap (↑(BitVec.ofInt (64 : Nat) (IntKind.u64.wrap (IntKind.u64.wrap (↑(BitVec.ofInt (64 : Nat) (0 : Int) ||| BitVec.ofInt (64 : Nat) (IntKind.u64.wrap d)).toNat : Int) * (65536 : Int))) ||| BitVec.ofInt (64 : Nat) (IntKind.u64.wrap c)).toNat : Int) * (65536 : Int))) ||| BitVec.ofInt (64 : Nat) (IntKind.u64.wrap b)).toNat : Int) * (65536 : Int))) ||| BitVec.ofInt (64 : Nat) (IntKind.u64.wrap a)).toNat : Int))))
    (br (!(decide (bD (0 : Nat) (IntKind.i64.wrap (IntKind.u64.wrap (↑(BitVec.ofInt (64 : Nat) (IntKind.u64.wrap (IntKind.u64.wrap (↑(BitVec.ofInt (64 : Nat) (IntKind.u64.wrap (IntKind.u64.wrap (↑(BitVec.ofInt (64 : Nat) (IntKind.u64.wrap (IntKind.u64.wrap (↑(BitVec.ofInt (64 : Nat) (0 : Int) ||| BitVec.ofInt (64 : Nat) (IntKind.u64.wrap d)).toNat : Int) * (65536 : Int))) ||| BitVec.ofInt (64 : Nat) (IntKind.u64.wrap c)).toNat : Int) * (65536 : Int))) ||| BitVec.ofInt (64 : Nat) (IntKind.u64.wrap b)).toNat : Int) * (65536 : Int))) ||| BitVec.ofInt (64 : Nat) (IntKind.u64.wrap a)).toNat : Int))) = a) && (decide (bD (1 : Nat) (IntKind.i64.wrap (IntKind.u64.wrap (↑(BitVec.ofInt (64 : Nat) (IntKind.u64.wrap (IntKind.u64.wrap (↑(BitVec.ofInt (64 : Nat) (IntKind.u64.wrap (IntKind.u64.wrap (↑(BitVec.ofInt (64 : Nat) (IntKind.u64.wrap (IntKind.u64.wrap (↑(BitVec.ofInt (64 : Nat) (0 : Int) ||| BitVec.ofInt (64 : Nat) (IntKind.u64.wrap d)).toNat : Int) * (65536 : Int))) ||| BitVec.ofInt (64 : Nat) (IntKind.u64.wrap c)).toNat : Int) * (65536 : Int))) ||| BitVec.ofInt (64 : Nat) (IntKind.u64.wrap b)).toNat : Int) * (65536 : Int))) ||| BitVec.ofInt (64 : Nat) (IntKind.u64.wrap a)).toNat : Int))) = b) && (decide (bD (2 : Nat) (IntKind.i64.wrap (IntKind.u64.wrap (↑(BitVec.ofInt (64 : Nat) (IntKind.u64.wrap (IntKind.u64.wrap (↑(BitVec.ofInt (64 : Nat) (IntKind.u64.wrap (IntKind.u64.wrap (↑(BitVec.ofInt (64 : Nat) (IntKind.u64.wrap (IntKind.u64.wrap (↑(BitVec.ofInt (64 : Nat) (0 : Int) ||| BitVec.ofInt (64 : Nat) (IntKind.u64.wrap d)).toNat : Int) * (65536 : Int))) ||| BitVec.ofInt (64 : Nat) (IntKind.u64.wrap c)).toNat : Int) * (65536 : Int))) ||| BitVec.ofInt (64 : Nat) (IntKind.u64.wrap b)).toNat : Int) * (65536 : Int))) ||| BitVec.ofInt (64 : Nat) (IntKind.u64.wrap a)).toNat : Int))) = c) && (decide (bD (3 : Nat) (IntKind.i64.wrap (IntKind.u64.wrap (↑(BitVec.ofInt (64 : Nat) (IntKind.u64.wrap (IntKind.u64.wrap (↑(BitVec.ofInt (64 : Nat) (IntKind.u64.wrap (IntKind.u64.wrap (↑(BitVec.ofInt (64 : Nat) (IntKind.u64.wrap (IntKind.u64.wrap (↑(BitVec.ofInt (64 : Nat) (0 : Int) ||| BitVec.ofInt (64 : Nat) (IntKind.u64.wrap d)).toNat : Int) * (65536 : Int))) ||| BitVec.ofInt (64 : Nat) (IntKind.u64.wrap c)).toNat : Int) * (65536 : Int))) ||| BitVec.ofInt (64 : Nat) (IntKind.u64.wrap b)).toNat : Int) * (65536 : Int))) ||| BitVec.ofInt (64 : Nat) (IntKind.u64.wrap a)).toNat : Int))) = d) && (decide (bD (4 : Nat) (IntKind.i64.wrap (IntKind.u64.wrap (↑(BitVec.ofInt (64 : Nat) (IntKind.u64.wrap (IntKind.u64.wrap (↑(BitVec.ofInt (64 : Nat) (IntKind.u64.wrap (IntKind.u64.wrap (↑(BitVec.ofInt (64 : Nat) (IntKind.u64.wrap (IntKind.u64.wrap (↑(BitVec.ofInt (64 : Nat) (0 : Int) ||| BitVec.ofInt (64 : Nat) (IntKind.u64.wrap d)).toNat : Int) * (65536 : Int))) ||| BitVec.ofInt (64 : Nat) (IntKind.u64.wrap c)).toNat : Int) * (65536 : Int))) ||| BitVec.ofInt (64 : Nat) (IntKind.u64.wrap b)).toNat : Int) * (65536 : Int))) ||| BitVec.ofInt (64 : Nat) (IntKind.u64.wrap a)).toNat : Int))) = e) && (decide (bD (5 : Nat) (IntKind.i64.wrap (IntKind.u64.wrap (↑(BitVec.ofInt (64 : Nat) (IntKind.u64.wrap (IntKind.u64.wrap (↑(BitVec.ofInt (64 : Nat) (IntKind.u64.wrap (IntKind.u64.wrap (↑(BitVec.ofInt (64 : Nat) (IntKind.u64.wrap (IntKind.u64.wrap (↑(BitVec.ofInt (64 : Nat) (0 : Int) ||| BitVec.ofInt (64 : Nat) (IntKind.u64.wrap d)).toNat : Int) * (65536 : Int))) ||| BitVec.ofInt (64 : Nat) (IntKind.u64.wrap c)).toNat : Int) * (65536 : Int))) ||| BitVec.ofInt (64 : Nat) (IntKind.u64.wrap b)).toNat : Int) * (65536 : Int))) ||| BitVec.ofInt (64 : Nat) (IntKind.u64.wrap a)).toNat : Int))) = f) && (decide (bD (6 : Nat) (IntKind.i64.wrap (IntKind.u64.wrap (↑(BitVec.ofInt (64 : Nat) (IntKind.u64.wrap (IntKind.u64.wrap (↑(BitVec.ofInt (64 : Nat) (IntKind.u64.wrap (IntKind.u64.wrap (↑(BitVec.ofInt (64 : Nat) (IntKind.u64.wrap (IntKind.u64.wrap (↑(BitVec.ofInt (64 : Nat) (0 : Int) ||| BitVec.ofInt (64 : Nat) (IntKind.u64.wrap d)).toNat : Int) * (65536 : Int))) ||| BitVec.ofInt (64 : Nat) (IntKind.u64.wrap c)).toNat : Int) * (65536 : Int))) ||| BitVec.ofInt (64 : Nat) (IntKind.u64.wrap b)).toNat : Int) * (65536 : Int))) ||| BitVec.ofInt (64 : Nat) (IntKind.u64.wrap a)).toNat : Int))) = g) && (decide (bD (7 : Nat) (IntKind.i64.wrap (IntKind.u64.wrap (↑(BitVec.ofInt (64 : Nat) (IntKind.u64.wrap (IntKind.u64.wrap (↑(BitVec.ofInt (64 : Nat) (IntKind.u64.wrap (IntKind.u64.wrap (↑(BitVec.ofInt (64 : Nat) (IntKind.u64.wrap (IntKind.u64.wrap (↑(BitVec.ofInt (64 : Nat) (0 : Int) ||| BitVec.ofInt (64 : Nat) (IntKind.u64.wrap d)).toNat : Int) * (65536 : Int))) ||| BitVec.ofInt (64 : Nat) (IntKind.u64.wrap c)).toNat : Int) * (65536 : Int))) ||| BitVec.ofInt (64 : Nat) (IntKind.u64.wrap b)).toNat : Int) * (65536 : Int))) ||| BitVec.ofInt (64 : Nat) (IntKind.u64.wrap a)).toNat : Int))) = h) && true)))))))))
      (k (AV.tup [AV.int IntKind.i64 (0 : Int), AV.bool false]) [])
      (k (AV.tup [AV.int IntKind.i64 (IntKind.i64.wrap (IntKind.u64.wrap (↑(BitVec.ofInt (64 : Nat) (IntKind.u64.wrap (IntKind.u64.wrap (↑(BitVec.ofInt (64 : Nat) (IntKind.u64.wrap (IntKind.u64.wrap (↑(BitVec.ofInt (64 : Nat) (IntKind.u64.wrap (IntKind.u64.wrap (↑(BitVec.ofInt (64 : Nat) (0 : Int) ||| BitVec.ofInt (64 : Nat) (IntKind.u64.wrap d)).toNat : Int) * (65536 : Int))) ||| BitVec.ofInt (64 : Nat) (IntKind.u64.wrap c)).toNat : Int) * (65536 : Int))) ||| BitVec.ofInt (64 : Nat) (IntKind.u64.wrap b)).toNat : Int) * (65536 : Int))) ||| BitVec.ofInt (64 : Nat) (IntKind.u64.wrap a)).toNat : Int))), AV.bool true]) []))
    (False) := by kernel_rfl
theorem bnum_ok : SpecOk Try.prog 17 bnumF.f := specOk_comes fun args s v s' tch eR => by
  simp only [bnumF] at eR
  split at eR
  · rename_i a b c d e f g h
    obtain ⟨hg, rfl, rfl, rfl⟩ := run_ok eR
    refine comes_of ok (prOk_add bof_ok prOk_none) (L := 100) (ms := []) (by kernel_rfl) loops_none ?_
    have hgB := hg
    simp only [inB_iff] at hg
    obtain ⟨ha, hb, hc, hd, he, hf, hgg, hh⟩ := hg
    refine Eq.mpr (bnum_body a b c d e f g h _) ?_
    have U : ∀ x y z u : Int, 0 ≤ x ∧ x < 65536 → 0 ≤ y ∧ y < 65536 → 0 ≤ z ∧ z < 65536 → 0 ≤ u ∧ u < 65536 → (((u * 65536 + z) % 18446744073709551616 * 65536 + y) % 18446744073709551616 * 65536 + x) % 18446744073709551616 = x + 65536 * (y + 65536 * (z + 65536 * u)) := fun x y z u h1 h2 h3 h4 => by omega
    simp only [or64_0 hd, or64 hc, or64 hb, or64 ha, U a b c d ha hb hc hd]
    obtain ⟨N, hN⟩ : ∃ N, N = IntKind.i64.wrap (a + 65536 * (b + 65536 * (c + 65536 * d))) := ⟨_, rfl⟩
    rw [← hN]
    have hN' := hN
    rw [IntKind.wrap_i64] at hN'
    have hNi : inI N = true := by rw [inI_iff]; omega
    have hD := bD_bV hgB
    have key : (bD 0 N = a ∧ bD 1 N = b ∧ bD 2 N = c ∧ bD 3 N = d ∧ bD 4 N = e ∧ bD 5 N = f ∧ bD 6 N = g ∧ bD 7 N = h) ↔ w128 (bV a b c d e f g h) = N := by
      constructor
      · rintro ⟨h1, h2, h3, h4, h5, h6, h7, h8⟩
        have : nrm N = bV a b c d e f g h := by rw [nrm, h1, h2, h3, h4, h5, h6, h7, h8]
        rw [← this, nrm_eq, w128_mod]
        rw [inI_iff] at hNi
        exact w128_id (by omega) (by omega)
      · intro h1
        have : N % M128 = bV a b c d e f g h := by
          rw [← h1, w128_mod']
          have := bV_range hgB
          exact Int.emod_eq_of_lt this.1 this.2
        have h2 := avB_of hgB this
        simp only [avB, av8, AV.agg.injEq, List.cons.injEq, AV.int.injEq, true_and, and_true] at h2
        exact h2
    have key2 : inI (w128 (bV a b c d e f g h)) = true ↔ w128 (bV a b c d e f g h) = N := by
      constructor
      · intro h1
        rw [inI_iff] at h1
        simp only [w128, bV] at h1 ⊢
        omega
      · intro h1; rw [h1]; exact hNi
    refine br_t hNi (br_mk (fun hc => ⟨?_, by trivial⟩) (fun hc => ⟨?_, by trivial⟩))
    · have hne : ¬ w128 (bV a b c d e f g h) = N := fun h1 => by
        obtain ⟨p1, p2, p3, p4, p5, p6, p7, p8⟩ := key.2 h1
        simp [p1, p2, p3, p4, p5, p6, p7, p8] at hc
      have hI : inI (w128 (bV a b c d e f g h)) = false := by
        cases hI : inI (w128 (bV a b c d e f g h))
        · rfl
        · exact absurd (key2.1 hI) hne
      simp [numOf, hI]
    · have heq : w128 (bV a b c d e f g h) = N := key.1 (by simpa [and_assoc] using hc)
      rw [heq]
      simp [numOf, hNi]
  · cases eR
end Go.Proofs.Yteoockodkddipaa.W
