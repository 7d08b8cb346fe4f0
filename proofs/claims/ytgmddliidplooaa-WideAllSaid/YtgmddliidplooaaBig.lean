/- Walks: the reference's great numbers. -/
import Derived.Test.YtgmddliidplooaaPvH
import Derived.Test.YtgmddliidplooaaWide
set_option linter.unusedSimpArgs false
set_option linter.unusedVariables false
set_option maxRecDepth 100000
namespace Go.Proofs.Ytgmddliidplooaa.W
open Go Go.Sy
attribute [local irreducible] bodyK roundK
theorem bof_body (n : Int) (k : AV → St → Prop) : bodyK Try.prog noP noL 100 21 [] [.int .i64 n] [] k =
  br (decide (n < (0 : Int)))
    (br (decide (n < (0 : Int)))
      (br (decide (n < (0 : Int)))
        (br (decide (n < (0 : Int)))
          (k (AV.agg [AV.int IntKind.u32 (IntKind.u32.wrap (IntKind.u64.wrap (↑(BitVec.ofInt (64 : Nat) ((IntKind.u64.wrap n).fdiv (1 : Int)) &&& BitVec.ofInt (64 : Nat) (65535 : Int)).toNat : Int))), AV.int IntKind.u32 (IntKind.u32.wrap (IntKind.u64.wrap (↑(BitVec.ofInt (64 : Nat) ((IntKind.u64.wrap n).fdiv (65536 : Int)) &&& BitVec.ofInt (64 : Nat) (65535 : Int)).toNat : Int))), AV.int IntKind.u32 (IntKind.u32.wrap (IntKind.u64.wrap (↑(BitVec.ofInt (64 : Nat) ((IntKind.u64.wrap n).fdiv (4294967296 : Int)) &&& BitVec.ofInt (64 : Nat) (65535 : Int)).toNat : Int))), AV.int IntKind.u32 (IntKind.u32.wrap (IntKind.u64.wrap (↑(BitVec.ofInt (64 : Nat) ((IntKind.u64.wrap n).fdiv (281474976710656 : Int)) &&& BitVec.ofInt (64 : Nat) (65535 : Int)).toNat : Int))), AV.int IntKind.u32 (65535 : Int), AV.int IntKind.u32 (65535 : Int), AV.int IntKind.u32 (65535 : Int), AV.int IntKind.u32 (65535 : Int)]) [])
          (k (AV.agg [AV.int IntKind.u32 (IntKind.u32.wrap (IntKind.u64.wrap (↑(BitVec.ofInt (64 : Nat) ((IntKind.u64.wrap n).fdiv (1 : Int)) &&& BitVec.ofInt (64 : Nat) (65535 : Int)).toNat : Int))), AV.int IntKind.u32 (IntKind.u32.wrap (IntKind.u64.wrap (↑(BitVec.ofInt (64 : Nat) ((IntKind.u64.wrap n).fdiv (65536 : Int)) &&& BitVec.ofInt (64 : Nat) (65535 : Int)).toNat : Int))), AV.int IntKind.u32 (IntKind.u32.wrap (IntKind.u64.wrap (↑(BitVec.ofInt (64 : Nat) ((IntKind.u64.wrap n).fdiv (4294967296 : Int)) &&& BitVec.ofInt (64 : Nat) (65535 : Int)).toNat : Int))), AV.int IntKind.u32 (IntKind.u32.wrap (IntKind.u64.wrap (↑(BitVec.ofInt (64 : Nat) ((IntKind.u64.wrap n).fdiv (281474976710656 : Int)) &&& BitVec.ofInt (64 : Nat) (65535 : Int)).toNat : Int))), AV.int IntKind.u32 (65535 : Int), AV.int IntKind.u32 (65535 : Int), AV.int IntKind.u32 (65535 : Int), AV.int IntKind.u32 (0 : Int)]) []))
        (br (decide (n < (0 : Int)))
          (k (AV.agg [AV.int IntKind.u32 (IntKind.u32.wrap (IntKind.u64.wrap (↑(BitVec.ofInt (64 : Nat) ((IntKind.u64.wrap n).fdiv (1 : Int)) &&& BitVec.ofInt (64 : Nat) (65535 : Int)).toNat : Int))), AV.int IntKind.u32 (IntKind.u32.wrap (IntKind.u64.wrap (↑(BitVec.ofInt (64 : Nat) ((IntKind.u64.wrap n).fdiv (65536 : Int)) &&& BitVec.ofInt (64 : Nat) (65535 : Int)).toNat : Int))), AV.int IntKind.u32 (IntKind.u32.wrap (IntKind.u64.wrap (↑(BitVec.ofInt (64 : Nat) ((IntKind.u64.wrap n).fdiv (4294967296 : Int)) &&& BitVec.ofInt (64 : Nat) (65535 : Int)).toNat : Int))), AV.int IntKind.u32 (IntKind.u32.wrap (IntKind.u64.wrap (↑(BitVec.ofInt (64 : Nat) ((IntKind.u64.wrap n).fdiv (281474976710656 : Int)) &&& BitVec.ofInt (64 : Nat) (65535 : Int)).toNat : Int))), AV.int IntKind.u32 (65535 : Int), AV.int IntKind.u32 (65535 : Int), AV.int IntKind.u32 (0 : Int), AV.int IntKind.u32 (65535 : Int)]) [])
          (k (AV.agg [AV.int IntKind.u32 (IntKind.u32.wrap (IntKind.u64.wrap (↑(BitVec.ofInt (64 : Nat) ((IntKind.u64.wrap n).fdiv (1 : Int)) &&& BitVec.ofInt (64 : Nat) (65535 : Int)).toNat : Int))), AV.int IntKind.u32 (IntKind.u32.wrap (IntKind.u64.wrap (↑(BitVec.ofInt (64 : Nat) ((IntKind.u64.wrap n).fdiv (65536 : Int)) &&& BitVec.ofInt (64 : Nat) (65535 : Int)).toNat : Int))), AV.int IntKind.u32 (IntKind.u32.wrap (IntKind.u64.wrap (↑(BitVec.ofInt (64 : Nat) ((IntKind.u64.wrap n).fdiv (4294967296 : Int)) &&& BitVec.ofInt (64 : Nat) (65535 : Int)).toNat : Int))), AV.int IntKind.u32 (IntKind.u32.wrap (IntKind.u64.wrap (↑(BitVec.ofInt (64 : Nat) ((IntKind.u64.wrap n).fdiv (281474976710656 : Int)) &&& BitVec.ofInt (64 : Nat) (65535 : Int)).toNat : Int))), AV.int IntKind.u32 (65535 : Int), AV.int IntKind.u32 (65535 : Int), AV.int IntKind.u32 (0 : Int), AV.int IntKind.u32 (0 : Int)]) [])))
      (br (decide (n < (0 : Int)))
        (br (decide (n < (0 : Int)))
          (k (AV.agg [AV.int IntKind.u32 (IntKind.u32.wrap (IntKind.u64.wrap (↑(BitVec.ofInt (64 : Nat) ((IntKind.u64.wrap n).fdiv (1 : Int)) &&& BitVec.ofInt (64 : Nat) (65535 : Int)).toNat : Int))), AV.int IntKind.u32 (IntKind.u32.wrap (IntKind.u64.wrap (↑(BitVec.ofInt (64 : Nat) ((IntKind.u64.wrap n).fdiv (65536 : Int)) &&& BitVec.ofInt (64 : Nat) (65535 : Int)).toNat : Int))), AV.int IntKind.u32 (IntKind.u32.wrap (IntKind.u64.wrap (↑(BitVec.ofInt (64 : Nat) ((IntKind.u64.wrap n).fdiv (4294967296 : Int)) &&& BitVec.ofInt (64 : Nat) (65535 : Int)).toNat : Int))), AV.int IntKind.u32 (IntKind.u32.wrap (IntKind.u64.wrap (↑(BitVec.ofInt (64 : Nat) ((IntKind.u64.wrap n).fdiv (281474976710656 : Int)) &&& BitVec.ofInt (64 : Nat) (65535 : Int)).toNat : Int))), AV.int IntKind.u32 (65535 : Int), AV.int IntKind.u32 (0 : Int), AV.int IntKind.u32 (65535 : Int), AV.int IntKind.u32 (65535 : Int)]) [])
          (k (AV.agg [AV.int IntKind.u32 (IntKind.u32.wrap (IntKind.u64.wrap (↑(BitVec.ofInt (64 : Nat) ((IntKind.u64.wrap n).fdiv (1 : Int)) &&& BitVec.ofInt (64 : Nat) (65535 : Int)).toNat : Int))), AV.int IntKind.u32 (IntKind.u32.wrap (IntKind.u64.wrap (↑(BitVec.ofInt (64 : Nat) ((IntKind.u64.wrap n).fdiv (65536 : Int)) &&& BitVec.ofInt (64 : Nat) (65535 : Int)).toNat : Int))), AV.int IntKind.u32 (IntKind.u32.wrap (IntKind.u64.wrap (↑(BitVec.ofInt (64 : Nat) ((IntKind.u64.wrap n).fdiv (4294967296 : Int)) &&& BitVec.ofInt (64 : Nat) (65535 : Int)).toNat : Int))), AV.int IntKind.u32 (IntKind.u32.wrap (IntKind.u64.wrap (↑(BitVec.ofInt (64 : Nat) ((IntKind.u64.wrap n).fdiv (281474976710656 : Int)) &&& BitVec.ofInt (64 : Nat) (65535 : Int)).toNat : Int))), AV.int IntKind.u32 (65535 : Int), AV.int IntKind.u32 (0 : Int), AV.int IntKind.u32 (65535 : Int), AV.int IntKind.u32 (0 : Int)]) []))
        (br (decide (n < (0 : Int)))
          (k (AV.agg [AV.int IntKind.u32 (IntKind.u32.wrap (IntKind.u64.wrap (↑(BitVec.ofInt (64 : Nat) ((IntKind.u64.wrap n).fdiv (1 : Int)) &&& BitVec.ofInt (64 : Nat) (65535 : Int)).toNat : Int))), AV.int IntKind.u32 (IntKind.u32.wrap (IntKind.u64.wrap (↑(BitVec.ofInt (64 : Nat) ((IntKind.u64.wrap n).fdiv (65536 : Int)) &&& BitVec.ofInt (64 : Nat) (65535 : Int)).toNat : Int))), AV.int IntKind.u32 (IntKind.u32.wrap (IntKind.u64.wrap (↑(BitVec.ofInt (64 : Nat) ((IntKind.u64.wrap n).fdiv (4294967296 : Int)) &&& BitVec.ofInt (64 : Nat) (65535 : Int)).toNat : Int))), AV.int IntKind.u32 (IntKind.u32.wrap (IntKind.u64.wrap (↑(BitVec.ofInt (64 : Nat) ((IntKind.u64.wrap n).fdiv (281474976710656 : Int)) &&& BitVec.ofInt (64 : Nat) (65535 : Int)).toNat : Int))), AV.int IntKind.u32 (65535 : Int), AV.int IntKind.u32 (0 : Int), AV.int IntKind.u32 (0 : Int), AV.int IntKind.u32 (65535 : Int)]) [])
          (k (AV.agg [AV.int IntKind.u32 (IntKind.u32.wrap (IntKind.u64.wrap (↑(BitVec.ofInt (64 : Nat) ((IntKind.u64.wrap n).fdiv (1 : Int)) &&& BitVec.ofInt (64 : Nat) (65535 : Int)).toNat : Int))), AV.int IntKind.u32 (IntKind.u32.wrap (IntKind.u64.wrap (↑(BitVec.ofInt (64 : Nat) ((IntKind.u64.wrap n).fdiv (65536 : Int)) &&& BitVec.ofInt (64 : Nat) (65535 : Int)).toNat : Int))), AV.int IntKind.u32 (IntKind.u32.wrap (IntKind.u64.wrap (↑(BitVec.ofInt (64 : Nat) ((IntKind.u64.wrap n).fdiv (4294967296 : Int)) &&& BitVec.ofInt (64 : Nat) (65535 : Int)).toNat : Int))), AV.int IntKind.u32 (IntKind.u32.wrap (IntKind.u64.wrap (↑(BitVec.ofInt (64 : Nat) ((IntKind.u64.wrap n).fdiv (281474976710656 : Int)) &&& BitVec.ofInt (64 : Nat) (65535 : Int)).toNat : Int))), AV.int IntKind.u32 (65535 : Int), AV.int IntKind.u32 (0 : Int), AV.int IntKind.u32 (0 : Int), AV.int IntKind.u32 (0 : Int)]) []))))
    (br (decide (n < (0 : Int)))
      (br (decide (n < (0 : Int)))
        (br (decide (n < (0 : Int)))
          (k (AV.agg [AV.int IntKind.u32 (IntKind.u32.wrap (IntKind.u64.wrap (↑(BitVec.ofInt (64 : Nat) ((IntKind.u64.wrap n).fdiv (1 : Int)) &&& BitVec.ofInt (64 : Nat) (65535 : Int)).toNat : Int))), AV.int IntKind.u32 (IntKind.u32.wrap (IntKind.u64.wrap (↑(BitVec.ofInt (64 : Nat) ((IntKind.u64.wrap n).fdiv (65536 : Int)) &&& BitVec.ofInt (64 : Nat) (65535 : Int)).toNat : Int))), AV.int IntKind.u32 (IntKind.u32.wrap (IntKind.u64.wrap (↑(BitVec.ofInt (64 : Nat) ((IntKind.u64.wrap n).fdiv (4294967296 : Int)) &&& BitVec.ofInt (64 : Nat) (65535 : Int)).toNat : Int))), AV.int IntKind.u32 (IntKind.u32.wrap (IntKind.u64.wrap (↑(BitVec.ofInt (64 : Nat) ((IntKind.u64.wrap n).fdiv (281474976710656 : Int)) &&& BitVec.ofInt (64 : Nat) (65535 : Int)).toNat : Int))), AV.int IntKind.u32 (0 : Int), AV.int IntKind.u32 (65535 : Int), AV.int IntKind.u32 (65535 : Int), AV.int IntKind.u32 (65535 : Int)]) [])
          (k (AV.agg [AV.int IntKind.u32 (IntKind.u32.wrap (IntKind.u64.wrap (↑(BitVec.ofInt (64 : Nat) ((IntKind.u64.wrap n).fdiv (1 : Int)) &&& BitVec.ofInt (64 : Nat) (65535 : Int)).toNat : Int))), AV.int IntKind.u32 (IntKind.u32.wrap (IntKind.u64.wrap (↑(BitVec.ofInt (64 : Nat) ((IntKind.u64.wrap n).fdiv (65536 : Int)) &&& BitVec.ofInt (64 : Nat) (65535 : Int)).toNat : Int))), AV.int IntKind.u32 (IntKind.u32.wrap (IntKind.u64.wrap (↑(BitVec.ofInt (64 : Nat) ((IntKind.u64.wrap n).fdiv (4294967296 : Int)) &&& BitVec.ofInt (64 : Nat) (65535 : Int)).toNat : Int))), AV.int IntKind.u32 (IntKind.u32.wrap (IntKind.u64.wrap (↑(BitVec.ofInt (64 : Nat) ((IntKind.u64.wrap n).fdiv (281474976710656 : Int)) &&& BitVec.ofInt (64 : Nat) (65535 : Int)).toNat : Int))), AV.int IntKind.u32 (0 : Int), AV.int IntKind.u32 (65535 : Int), AV.int IntKind.u32 (65535 : Int), AV.int IntKind.u32 (0 : Int)]) []))
        (br (decide (n < (0 : Int)))
          (k (AV.agg [AV.int IntKind.u32 (IntKind.u32.wrap (IntKind.u64.wrap (↑(BitVec.ofInt (64 : Nat) ((IntKind.u64.wrap n).fdiv (1 : Int)) &&& BitVec.ofInt (64 : Nat) (65535 : Int)).toNat : Int))), AV.int IntKind.u32 (IntKind.u32.wrap (IntKind.u64.wrap (↑(BitVec.ofInt (64 : Nat) ((IntKind.u64.wrap n).fdiv (65536 : Int)) &&& BitVec.ofInt (64 : Nat) (65535 : Int)).toNat : Int))), AV.int IntKind.u32 (IntKind.u32.wrap (IntKind.u64.wrap (↑(BitVec.ofInt (64 : Nat) ((IntKind.u64.wrap n).fdiv (4294967296 : Int)) &&& BitVec.ofInt (64 : Nat) (65535 : Int)).toNat : Int))), AV.int IntKind.u32 (IntKind.u32.wrap (IntKind.u64.wrap (↑(BitVec.ofInt (64 : Nat) ((IntKind.u64.wrap n).fdiv (281474976710656 : Int)) &&& BitVec.ofInt (64 : Nat) (65535 : Int)).toNat : Int))), AV.int IntKind.u32 (0 : Int), AV.int IntKind.u32 (65535 : Int), AV.int IntKind.u32 (0 : Int), AV.int IntKind.u32 (65535 : Int)]) [])
          (k (AV.agg [AV.int IntKind.u32 (IntKind.u32.wrap (IntKind.u64.wrap (↑(BitVec.ofInt (64 : Nat) ((IntKind.u64.wrap n).fdiv (1 : Int)) &&& BitVec.ofInt (64 : Nat) (65535 : Int)).toNat : Int))), AV.int IntKind.u32 (IntKind.u32.wrap (IntKind.u64.wrap (↑(BitVec.ofInt (64 : Nat) ((IntKind.u64.wrap n).fdiv (65536 : Int)) &&& BitVec.ofInt (64 : Nat) (65535 : Int)).toNat : Int))), AV.int IntKind.u32 (IntKind.u32.wrap (IntKind.u64.wrap (↑(BitVec.ofInt (64 : Nat) ((IntKind.u64.wrap n).fdiv (4294967296 : Int)) &&& BitVec.ofInt (64 : Nat) (65535 : Int)).toNat : Int))), AV.int IntKind.u32 (IntKind.u32.wrap (IntKind.u64.wrap (↑(BitVec.ofInt (64 : Nat) ((IntKind.u64.wrap n).fdiv (281474976710656 : Int)) &&& BitVec.ofInt (64 : Nat) (65535 : Int)).toNat : Int))), AV.int IntKind.u32 (0 : Int), AV.int IntKind.u32 (65535 : Int), AV.int IntKind.u32 (0 : Int), AV.int IntKind.u32 (0 : Int)]) [])))
      (br (decide (n < (0 : Int)))
        (br (decide (n < (0 : Int)))
          (k (AV.agg [AV.int IntKind.u32 (IntKind.u32.wrap (IntKind.u64.wrap (↑(BitVec.ofInt (64 : Nat) ((IntKind.u64.wrap n).fdiv (1 : Int)) &&& BitVec.ofInt (64 : Nat) (65535 : Int)).toNat : Int))), AV.int IntKind.u32 (IntKind.u32.wrap (IntKind.u64.wrap (↑(BitVec.ofInt (64 : Nat) ((IntKind.u64.wrap n).fdiv (65536 : Int)) &&& BitVec.ofInt (64 : Nat) (65535 : Int)).toNat : Int))), AV.int IntKind.u32 (IntKind.u32.wrap (IntKind.u64.wrap (↑(BitVec.ofInt (64 : Nat) ((IntKind.u64.wrap n).fdiv (4294967296 : Int)) &&& BitVec.ofInt (64 : Nat) (65535 : Int)).toNat : Int))), AV.int IntKind.u32 (IntKind.u32.wrap (IntKind.u64.wrap (↑(BitVec.ofInt (64 : Nat) ((IntKind.u64.wrap n).fdiv (281474976710656 : Int)) &&& BitVec.ofInt (64 : Nat) (65535 : Int)).toNat : Int))), AV.int IntKind.u32 (0 : Int), AV.int IntKind.u32 (0 : Int), AV.int IntKind.u32 (65535 : Int), AV.int IntKind.u32 (65535 : Int)]) [])
          (k (AV.agg [AV.int IntKind.u32 (IntKind.u32.wrap (IntKind.u64.wrap (↑(BitVec.ofInt (64 : Nat) ((IntKind.u64.wrap n).fdiv (1 : Int)) &&& BitVec.ofInt (64 : Nat) (65535 : Int)).toNat : Int))), AV.int IntKind.u32 (IntKind.u32.wrap (IntKind.u64.wrap (↑(BitVec.ofInt (64 : Nat) ((IntKind.u64.wrap n).fdiv (65536 : Int)) &&& BitVec.ofInt (64 : Nat) (65535 : Int)).toNat : Int))), AV.int IntKind.u32 (IntKind.u32.wrap (IntKind.u64.wrap (↑(BitVec.ofInt (64 : Nat) ((IntKind.u64.wrap n).fdiv (4294967296 : Int)) &&& BitVec.ofInt (64 : Nat) (65535 : Int)).toNat : Int))), AV.int IntKind.u32 (IntKind.u32.wrap (IntKind.u64.wrap (↑(BitVec.ofInt (64 : Nat) ((IntKind.u64.wrap n).fdiv (281474976710656 : Int)) &&& BitVec.ofInt (64 : Nat) (65535 : Int)).toNat : Int))), AV.int IntKind.u32 (0 : Int), AV.int IntKind.u32 (0 : Int), AV.int IntKind.u32 (65535 : Int), AV.int IntKind.u32 (0 : Int)]) []))
        (br (decide (n < (0 : Int)))
          (k (AV.agg [AV.int IntKind.u32 (IntKind.u32.wrap (IntKind.u64.wrap (↑(BitVec.ofInt (64 : Nat) ((IntKind.u64.wrap n).fdiv (1 : Int)) &&& BitVec.ofInt (64 : Nat) (65535 : Int)).toNat : Int))), AV.int IntKind.u32 (IntKind.u32.wrap (IntKind.u64.wrap (↑(BitVec.ofInt (64 : Nat) ((IntKind.u64.wrap n).fdiv (65536 : Int)) &&& BitVec.ofInt (64 : Nat) (65535 : Int)).toNat : Int))), AV.int IntKind.u32 (IntKind.u32.wrap (IntKind.u64.wrap (↑(BitVec.ofInt (64 : Nat) ((IntKind.u64.wrap n).fdiv (4294967296 : Int)) &&& BitVec.ofInt (64 : Nat) (65535 : Int)).toNat : Int))), AV.int IntKind.u32 (IntKind.u32.wrap (IntKind.u64.wrap (↑(BitVec.ofInt (64 : Nat) ((IntKind.u64.wrap n).fdiv (281474976710656 : Int)) &&& BitVec.ofInt (64 : Nat) (65535 : Int)).toNat : Int))), AV.int IntKind.u32 (0 : Int), AV.int IntKind.u32 (0 : Int), AV.int IntKind.u32 (0 : Int), AV.int IntKind.u32 (65535 : Int)]) [])
          (k (AV.agg [AV.int IntKind.u32 (IntKind.u32.wrap (IntKind.u64.wrap (↑(BitVec.ofInt (64 : Nat) ((IntKind.u64.wrap n).fdiv (1 : Int)) &&& BitVec.ofInt (64 : Nat) (65535 : Int)).toNat : Int))), AV.int IntKind.u32 (IntKind.u32.wrap (IntKind.u64.wrap (↑(BitVec.ofInt (64 : Nat) ((IntKind.u64.wrap n).fdiv (65536 : Int)) &&& BitVec.ofInt (64 : Nat) (65535 : Int)).toNat : Int))), AV.int IntKind.u32 (IntKind.u32.wrap (IntKind.u64.wrap (↑(BitVec.ofInt (64 : Nat) ((IntKind.u64.wrap n).fdiv (4294967296 : Int)) &&& BitVec.ofInt (64 : Nat) (65535 : Int)).toNat : Int))), AV.int IntKind.u32 (IntKind.u32.wrap (IntKind.u64.wrap (↑(BitVec.ofInt (64 : Nat) ((IntKind.u64.wrap n).fdiv (281474976710656 : Int)) &&& BitVec.ofInt (64 : Nat) (65535 : Int)).toNat : Int))), AV.int IntKind.u32 (0 : Int), AV.int IntKind.u32 (0 : Int), AV.int IntKind.u32 (0 : Int), AV.int IntKind.u32 (0 : Int)]) [])))) := by kernel_rfl
theorem bof_ok : SpecOk Try.prog 21 bofF.f := specOk_comes fun args s v s' tch eR => by
  simp only [bofF] at eR
  split at eR
  · rename_i n
    obtain ⟨hg, rfl, rfl, rfl⟩ := run_ok eR
    refine comes_of ok prOk_none (L := 100) (ms := []) (by kernel_rfl) loops_none ?_
    have hn := inI_iff.1 hg
    refine Eq.mpr (bof_body n _) ?_
    have fd : ∀ (x y : Int), 0 ≤ y → x.fdiv y = x / y := fun x y h => Int.fdiv_eq_ediv_of_nonneg x h
    by_cases h0 : n < 0
    · simp only [br, h0, decide_true]
      refine ⟨?_, trivial⟩
      refine av8_congr ?_ ?_ ?_ ?_ ?_ ?_ ?_ ?_ <;> simp only [and64, bD] <;> (try rw [fd _ _ (by omega), IntKind.wrap_u64]) <;> omega
    · simp only [br, h0, decide_false]
      refine ⟨?_, trivial⟩
      refine av8_congr ?_ ?_ ?_ ?_ ?_ ?_ ?_ ?_ <;> simp only [and64, bD] <;> (try rw [fd _ _ (by omega), IntKind.wrap_u64]) <;> omega
  · cases eR
theorem badd_body (a b c d e f g h a' b' c' d' e' f' g' h' : Int) (k : AV → St → Prop) : bodyK Try.prog noP noL 100 20 [] [av8 a b c d e f g h, av8 a' b' c' d' e' f' g' h'] [] k =
  k (AV.agg [AV.int IntKind.u32 (IntKind.u32.wrap (↑(BitVec.ofInt (32 : Nat) (IntKind.u32.wrap ((0 : Int) + IntKind.u32.wrap (a + a'))) &&& BitVec.ofInt (32 : Nat) (65535 : Int)).toNat : Int)), AV.int IntKind.u32 (IntKind.u32.wrap (↑(BitVec.ofInt (32 : Nat) (IntKind.u32.wrap ((IntKind.u32.wrap ((0 : Int) + IntKind.u32.wrap (a + a'))).fdiv (65536 : Int) + IntKind.u32.wrap (b + b'))) &&& BitVec.ofInt (32 : Nat) (65535 : Int)).toNat : Int)), AV.int IntKind.u32 (IntKind.u32.wrap (↑(BitVec.ofInt (32 : Nat) (IntKind.u32.wrap ((IntKind.u32.wrap ((IntKind.u32.wrap ((0 : Int) + IntKind.u32.wrap (a + a'))).fdiv (65536 : Int) + IntKind.u32.wrap (b + b'))).fdiv (65536 : Int) + IntKind.u32.wrap (c + c'))) &&& BitVec.ofInt (32 : Nat) (65535 : Int)).toNat : Int)), AV.int IntKind.u32 (IntKind.u32.wrap (↑(BitVec.ofInt (32 : Nat) (IntKind.u32.wrap ((IntKind.u32.wrap ((IntKind.u32.wrap ((IntKind.u32.wrap ((0 : Int) + IntKind.u32.wrap (a + a'))).fdiv (65536 : Int) + IntKind.u32.wrap (b + b'))).fdiv (65536 : Int) + IntKind.u32.wrap (c + c'))).fdiv (65536 : Int) + IntKind.u32.wrap (d + d'))) &&& BitVec.ofInt (32 : Nat) (65535 : Int)).toNat : Int)), AV.int IntKind.u32 (IntKind.u32.wrap (↑(BitVec.ofInt (32 : Nat) (IntKind.u32.wrap ((IntKind.u32.wrap ((IntKind.u32.wrap ((IntKind.u32.wrap ((IntKind.u32.wrap ((0 : Int) + IntKind.u32.wrap (a + a'))).fdiv (65536 : Int) + IntKind.u32.wrap (b + b'))).fdiv (65536 : Int) + IntKind.u32.wrap (c + c'))).fdiv (65536 : Int) + IntKind.u32.wrap (d + d'))).fdiv (65536 : Int) + IntKind.u32.wrap (e + e'))) &&& BitVec.ofInt (32 : Nat) (65535 : Int)).toNat : Int)), AV.int IntKind.u32 (IntKind.u32.wrap (↑(BitVec.ofInt (32 : Nat) (IntKind.u32.wrap ((IntKind.u32.wrap ((IntKind.u32.wrap ((IntKind.u32.wrap ((IntKind.u32.wrap ((IntKind.u32.wrap ((0 : Int) + IntKind.u32.wrap (a + a'))).fdiv (65536 : Int) + IntKind.u32.wrap (b + b'))).fdiv (65536 : Int) + IntKind.u32.wrap (c + c'))).fdiv (65536 : Int) + IntKind.u32.wrap (d + d'))).fdiv (65536 : Int) + IntKind.u32.wrap (e + e'))).fdiv (65536 : Int) + IntKind.u32.wrap (f + f'))) &&& BitVec.ofInt (32 : Nat) (65535 : Int)).toNat : Int)), AV.int IntKind.u32 (IntKind.u32.wrap (↑(BitVec.ofInt (32 : Nat) (IntKind.u32.wrap ((IntKind.u32.wrap ((IntKind.u32.wrap ((IntKind.u32.wrap ((IntKind.u32.wrap ((IntKind.u32.wrap ((IntKind.u32.wrap ((0 : Int) + IntKind.u32.wrap (a + a'))).fdiv (65536 : Int) + IntKind.u32.wrap (b + b'))).fdiv (65536 : Int) + IntKind.u32.wrap (c + c'))).fdiv (65536 : Int) + IntKind.u32.wrap (d + d'))).fdiv (65536 : Int) + IntKind.u32.wrap (e + e'))).fdiv (65536 : Int) + IntKind.u32.wrap (f + f'))).fdiv (65536 : Int) + IntKind.u32.wrap (g + g'))) &&& BitVec.ofInt (32 : Nat) (65535 : Int)).toNat : Int)), AV.int IntKind.u32 (IntKind.u32.wrap (↑(BitVec.ofInt (32 : Nat) (IntKind.u32.wrap ((IntKind.u32.wrap ((IntKind.u32.wrap ((IntKind.u32.wrap ((IntKind.u32.wrap ((IntKind.u32.wrap ((IntKind.u32.wrap ((IntKind.u32.wrap ((0 : Int) + IntKind.u32.wrap (a + a'))).fdiv (65536 : Int) + IntKind.u32.wrap (b + b'))).fdiv (65536 : Int) + IntKind.u32.wrap (c + c'))).fdiv (65536 : Int) + IntKind.u32.wrap (d + d'))).fdiv (65536 : Int) + IntKind.u32.wrap (e + e'))).fdiv (65536 : Int) + IntKind.u32.wrap (f + f'))).fdiv (65536 : Int) + IntKind.u32.wrap (g + g'))).fdiv (65536 : Int) + IntKind.u32.wrap (h + h'))) &&& BitVec.ofInt (32 : Nat) (65535 : Int)).toNat : Int))]) [] := by kernel_rfl
theorem badd_ok : SpecOk Try.prog 20 baddF.f := specOk_comes fun args s v s' tch eR => by
  simp only [baddF] at eR
  split at eR
  · rename_i a b c d e f g h a' b' c' d' e' f' g' h'
    obtain ⟨hg, rfl, rfl, rfl⟩ := run_ok eR
    refine comes_of ok prOk_none (L := 100) (ms := []) (by kernel_rfl) loops_none ?_
    simp only [Bool.and_eq_true, inB_iff] at hg
    obtain ⟨⟨ha, hb, hc, hd, he, hf, hgg, hh⟩, ⟨ha', hb', hc', hd', he', hf', hgg', hh'⟩⟩ := hg
    refine Eq.mpr (badd_body a b c d e f g h a' b' c' d' e' f' g' h' _) ?_
    refine ⟨?_, by trivial⟩
    have fd : ∀ (x : Int), x.fdiv 65536 = x / 65536 := fun x => Int.fdiv_eq_ediv_of_nonneg x (by omega)
    simp only [and32, fd]
    have st : ∀ x y s : Int, 0 ≤ s ∧ s < 131072 → 0 ≤ x ∧ x < 65536 → 0 ≤ y ∧ y < 65536 → IntKind.u32.wrap (s / 65536 + IntKind.u32.wrap (x + y)) = s / 65536 + (x + y) := fun x y s hs hx hy => by rw [u32_wrap (x := x + y) (by omega) (by omega), u32_wrap (by omega) (by omega)]
    have e0 : IntKind.u32.wrap ((0 : Int) + IntKind.u32.wrap (a + a')) = a + a' := by rw [u32_wrap (x := a + a') (by omega) (by omega), u32_wrap (by omega) (by omega)]; omega
    rw [e0, st b b' _ (by omega) hb hb']
    obtain ⟨s1, e1⟩ : ∃ s1, s1 = (a + a') / 65536 + (b + b') := ⟨_, rfl⟩
    rw [← e1, st c c' s1 (by omega) hc hc']
    obtain ⟨s2, e2⟩ : ∃ s2, s2 = s1 / 65536 + (c + c') := ⟨_, rfl⟩
    rw [← e2, st d d' s2 (by omega) hd hd']
    obtain ⟨s3, e3⟩ : ∃ s3, s3 = s2 / 65536 + (d + d') := ⟨_, rfl⟩
    rw [← e3, st e e' s3 (by omega) he he']
    obtain ⟨s4, e4⟩ : ∃ s4, s4 = s3 / 65536 + (e + e') := ⟨_, rfl⟩
    rw [← e4, st f f' s4 (by omega) hf hf']
    obtain ⟨s5, e5⟩ : ∃ s5, s5 = s4 / 65536 + (f + f') := ⟨_, rfl⟩
    rw [← e5, st g g' s5 (by omega) hgg hgg']
    obtain ⟨s6, e6⟩ : ∃ s6, s6 = s5 / 65536 + (g + g') := ⟨_, rfl⟩
    rw [← e6, st h h' s6 (by omega) hh hh']
    exact (bD_sum e1 e2 e3 e4 e5 e6 rfl).symm
  · cases eR
def prBN : FuncId → Option Sy.Spec := addP 21 bofF (addP 20 baddF noP)
theorem bneg_body (a b c d e f g h : Int) (k : AV → St → Prop) : bodyK Try.prog prBN noL 100 23 [] [av8 a b c d e f g h] [] k =
  br (inB (IntKind.u32.wrap (↑(BitVec.ofInt (32 : Nat) (IntKind.u32.wrap (↑(BitVec.ofInt (32 : Nat) (4294967295 : Int) ^^^ BitVec.ofInt (32 : Nat) a).toNat : Int)) &&& BitVec.ofInt (32 : Nat) (65535 : Int)).toNat : Int)) (IntKind.u32.wrap (↑(BitVec.ofInt (32 : Nat) (IntKind.u32.wrap (↑(BitVec.ofInt (32 : Nat) (4294967295 : Int) ^^^ BitVec.ofInt (32 : Nat) b).toNat : Int)) &&& BitVec.ofInt (32 : Nat) (65535 : Int)).toNat : Int)) (IntKind.u32.wrap (↑(BitVec.ofInt (32 : Nat) (IntKind.u32.wrap (↑(BitVec.ofInt (32 : Nat) (4294967295 : Int) ^^^ BitVec.ofInt (32 : Nat) c).toNat : Int)) &&& BitVec.ofInt (32 : Nat) (65535 : Int)).toNat : Int)) (IntKind.u32.wrap (↑(BitVec.ofInt (32 : Nat) (IntKind.u32.wrap (↑(BitVec.ofInt (32 : Nat) (4294967295 : Int) ^^^ BitVec.ofInt (32 : Nat) d).toNat : Int)) &&& BitVec.ofInt (32 : Nat) (65535 : Int)).toNat : Int)) (IntKind.u32.wrap (↑(BitVec.ofInt (32 : Nat) (IntKind.u32.wrap (↑(BitVec.ofInt (32 : Nat) (4294967295 : Int) ^^^ BitVec.ofInt (32 : Nat) e).toNat : Int)) &&& BitVec.ofInt (32 : Nat) (65535 : Int)).toNat : Int)) (IntKind.u32.wrap (↑(BitVec.ofInt (32 : Nat) (IntKind.u32.wrap (↑(BitVec.ofInt (32 : Nat) (4294967295 : Int) ^^^ BitVec.ofInt (32 : Nat) f).toNat : Int)) &&& BitVec.ofInt (32 : Nat) (65535 : Int)).toNat : Int)) (IntKind.u32.wrap (↑(BitVec.ofInt (32 : Nat) (IntKind.u32.wrap (↑(BitVec.ofInt (32 : Nat) (4294967295 : Int) ^^^ BitVec.ofInt (32 : Nat) g).toNat : Int)) &&& BitVec.ofInt (32 : Nat) (65535 : Int)).toNat : Int)) (IntKind.u32.wrap (↑(BitVec.ofInt (32 : Nat) (IntKind.u32.wrap (↑(BitVec.ofInt (32 : Nat) (4294967295 : Int) ^^^ BitVec.ofInt (32 : Nat) h).toNat : Int)) &&& BitVec.ofInt (32 : Nat) (65535 : Int)).toNat : Int)) && true)
    (k (AV.agg [AV.int IntKind.u32 (bD (0 : Nat) (bV (IntKind.u32.wrap (↑(BitVec.ofInt (32 : Nat) (IntKind.u32.wrap (↑(BitVec.ofInt (32 : Nat) (4294967295 : Int) ^^^ BitVec.ofInt (32 : Nat) a).toNat : Int)) &&& BitVec.ofInt (32 : Nat) (65535 : Int)).toNat : Int)) (IntKind.u32.wrap (↑(BitVec.ofInt (32 : Nat) (IntKind.u32.wrap (↑(BitVec.ofInt (32 : Nat) (4294967295 : Int) ^^^ BitVec.ofInt (32 : Nat) b).toNat : Int)) &&& BitVec.ofInt (32 : Nat) (65535 : Int)).toNat : Int)) (IntKind.u32.wrap (↑(BitVec.ofInt (32 : Nat) (IntKind.u32.wrap (↑(BitVec.ofInt (32 : Nat) (4294967295 : Int) ^^^ BitVec.ofInt (32 : Nat) c).toNat : Int)) &&& BitVec.ofInt (32 : Nat) (65535 : Int)).toNat : Int)) (IntKind.u32.wrap (↑(BitVec.ofInt (32 : Nat) (IntKind.u32.wrap (↑(BitVec.ofInt (32 : Nat) (4294967295 : Int) ^^^ BitVec.ofInt (32 : Nat) d).toNat : Int)) &&& BitVec.ofInt (32 : Nat) (65535 : Int)).toNat : Int)) (IntKind.u32.wrap (↑(BitVec.ofInt (32 : Nat) (IntKind.u32.wrap (↑(BitVec.ofInt (32 : Nat) (4294967295 : Int) ^^^ BitVec.ofInt (32 : Nat) e).toNat : Int)) &&& BitVec.ofInt (32 : Nat) (65535 : Int)).toNat : Int)) (IntKind.u32.wrap (↑(BitVec.ofInt (32 : Nat) (IntKind.u32.wrap (↑(BitVec.ofInt (32 : Nat) (4294967295 : Int) ^^^ BitVec.ofInt (32 : Nat) f).toNat : Int)) &&& BitVec.ofInt (32 : Nat) (65535 : Int)).toNat : Int)) (IntKind.u32.wrap (↑(BitVec.ofInt (32 : Nat) (IntKind.u32.wrap (↑(BitVec.ofInt (32 : Nat) (4294967295 : Int) ^^^ BitVec.ofInt (32 : Nat) g).toNat : Int)) &&& BitVec.ofInt (32 : Nat) (65535 : Int)).toNat : Int)) (IntKind.u32.wrap (↑(BitVec.ofInt (32 : Nat) (IntKind.u32.wrap (↑(BitVec.ofInt (32 : Nat) (4294967295 : Int) ^^^ BitVec.ofInt (32 : Nat) h).toNat : Int)) &&& BitVec.ofInt (32 : Nat) (65535 : Int)).toNat : Int)) + (1 : Int))), AV.int IntKind.u32 (bD (1 : Nat) (bV (IntKind.u32.wrap (↑(BitVec.ofInt (32 : Nat) (IntKind.u32.wrap (↑(BitVec.ofInt (32 : Nat) (4294967295 : Int) ^^^ BitVec.ofInt (32 : Nat) a).toNat : Int)) &&& BitVec.ofInt (32 : Nat) (65535 : Int)).toNat : Int)) (IntKind.u32.wrap (↑(BitVec.ofInt (32 : Nat) (IntKind.u32.wrap (↑(BitVec.ofInt (32 : Nat) (4294967295 : Int) ^^^ BitVec.ofInt (32 : Nat) b).toNat : Int)) &&& BitVec.ofInt (32 : Nat) (65535 : Int)).toNat : Int)) (IntKind.u32.wrap (↑(BitVec.ofInt (32 : Nat) (IntKind.u32.wrap (↑(BitVec.ofInt (32 : Nat) (4294967295 : Int) ^^^ BitVec.ofInt (32 : Nat) c).toNat : Int)) &&& BitVec.ofInt (32 : Nat) (65535 : Int)).toNat : Int)) (IntKind.u32.wrap (↑(BitVec.ofInt (32 : Nat) (IntKind.u32.wrap (↑(BitVec.ofInt (32 : Nat) (4294967295 : Int) ^^^ BitVec.ofInt (32 : Nat) d).toNat : Int)) &&& BitVec.ofInt (32 : Nat) (65535 : Int)).toNat : Int)) (IntKind.u32.wrap (↑(BitVec.ofInt (32 : Nat) (IntKind.u32.wrap (↑(BitVec.ofInt (32 : Nat) (4294967295 : Int) ^^^ BitVec.ofInt (32 : Nat) e).toNat : Int)) &&& BitVec.ofInt (32 : Nat) (65535 : Int)).toNat : Int)) (IntKind.u32.wrap (↑(BitVec.ofInt (32 : Nat) (IntKind.u32.wrap (↑(BitVec.ofInt (32 : Nat) (4294967295 : Int) ^^^ BitVec.ofInt (32 : Nat) f).toNat : Int)) &&& BitVec.ofInt (32 : Nat) (65535 : Int)).toNat : Int)) (IntKind.u32.wrap (↑(BitVec.ofInt (32 : Nat) (IntKind.u32.wrap (↑(BitVec.ofInt (32 : Nat) (4294967295 : Int) ^^^ BitVec.ofInt (32 : Nat) g).toNat : Int)) &&& BitVec.ofInt (32 : Nat) (65535 : Int)).toNat : Int)) (IntKind.u32.wrap (↑(BitVec.ofInt (32 : Nat) (IntKind.u32.wrap (↑(BitVec.ofInt (32 : Nat) (4294967295 : Int) ^^^ BitVec.ofInt (32 : Nat) h).toNat : Int)) &&& BitVec.ofInt (32 : Nat) (65535 : Int)).toNat : Int)) + (1 : Int))), AV.int IntKind.u32 (bD (2 : Nat) (bV (IntKind.u32.wrap (↑(BitVec.ofInt (32 : Nat) (IntKind.u32.wrap (↑(BitVec.ofInt (32 : Nat) (4294967295 : Int) ^^^ BitVec.ofInt (32 : Nat) a).toNat : Int)) &&& BitVec.ofInt (32 : Nat) (65535 : Int)).toNat : Int)) (IntKind.u32.wrap (↑(BitVec.ofInt (32 : Nat) (IntKind.u32.wrap (↑(BitVec.ofInt (32 : Nat) (4294967295 : Int) ^^^ BitVec.ofInt (32 : Nat) b).toNat : Int)) &&& BitVec.ofInt (32 : Nat) (65535 : Int)).toNat : Int)) (IntKind.u32.wrap (↑(BitVec.ofInt (32 : Nat) (IntKind.u32.wrap (↑(BitVec.ofInt (32 : Nat) (4294967295 : Int) ^^^ BitVec.ofInt (32 : Nat) c).toNat : Int)) &&& BitVec.ofInt (32 : Nat) (65535 : Int)).toNat : Int)) (IntKind.u32.wrap (↑(BitVec.ofInt (32 : Nat) (IntKind.u32.wrap (↑(BitVec.ofInt (32 : Nat) (4294967295 : Int) ^^^ BitVec.ofInt (32 : Nat) d).toNat : Int)) &&& BitVec.ofInt (32 : Nat) (65535 : Int)).toNat : Int)) (IntKind.u32.wrap (↑(BitVec.ofInt (32 : Nat) (IntKind.u32.wrap (↑(BitVec.ofInt (32 : Nat) (4294967295 : Int) ^^^ BitVec.ofInt (32 : Nat) e).toNat : Int)) &&& BitVec.ofInt (32 : Nat) (65535 : Int)).toNat : Int)) (IntKind.u32.wrap (↑(BitVec.ofInt (32 : Nat) (IntKind.u32.wrap (↑(BitVec.ofInt (32 : Nat) (4294967295 : Int) ^^^ BitVec.ofInt (32 : Nat) f).toNat : Int)) &&& BitVec.ofInt (32 : Nat) (65535 : Int)).toNat : Int)) (IntKind.u32.wrap (↑(BitVec.ofInt (32 : Nat) (IntKind.u32.wrap (↑(BitVec.ofInt (32 : Nat) (4294967295 : Int) ^^^ BitVec.ofInt (32 : Nat) g).toNat : Int)) &&& BitVec.ofInt (32 : Nat) (65535 : Int)).toNat : Int)) (IntKind.u32.wrap (↑(BitVec.ofInt (32 : Nat) (IntKind.u32.wrap (↑(BitVec.ofInt (32 : Nat) (4294967295 : Int) ^^^ BitVec.ofInt (32 : Nat) h).toNat : Int)) &&& BitVec.ofInt (32 : Nat) (65535 : Int)).toNat : Int)) + (1 : Int))), AV.int IntKind.u32 (bD (3 : Nat) (bV (IntKind.u32.wrap (↑(BitVec.ofInt (32 : Nat) (IntKind.u32.wrap (↑(BitVec.ofInt (32 : Nat) (4294967295 : Int) ^^^ BitVec.ofInt (32 : Nat) a).toNat : Int)) &&& BitVec.ofInt (32 : Nat) (65535 : Int)).toNat : Int)) (IntKind.u32.wrap (↑(BitVec.ofInt (32 : Nat) (IntKind.u32.wrap (↑(BitVec.ofInt (32 : Nat) (4294967295 : Int) ^^^ BitVec.ofInt (32 : Nat) b).toNat : Int)) &&& BitVec.ofInt (32 : Nat) (65535 : Int)).toNat : Int)) (IntKind.u32.wrap (↑(BitVec.ofInt (32 : Nat) (IntKind.u32.wrap (↑(BitVec.ofInt (32 : Nat) (4294967295 : Int) ^^^ BitVec.ofInt (32 : Nat) c).toNat : Int)) &&& BitVec.ofInt (32 : Nat) (65535 : Int)).toNat : Int)) (IntKind.u32.wrap (↑(BitVec.ofInt (32 : Nat) (IntKind.u32.wrap (↑(BitVec.ofInt (32 : Nat) (4294967295 : Int) ^^^ BitVec.ofInt (32 : Nat) d).toNat : Int)) &&& BitVec.ofInt (32 : Nat) (65535 : Int)).toNat : Int)) (IntKind.u32.wrap (↑(BitVec.ofInt (32 : Nat) (IntKind.u32.wrap (↑(BitVec.ofInt (32 : Nat) (4294967295 : Int) ^^^ BitVec.ofInt (32 : Nat) e).toNat : Int)) &&& BitVec.ofInt (32 : Nat) (65535 : Int)).toNat : Int)) (IntKind.u32.wrap (↑(BitVec.ofInt (32 : Nat) (IntKind.u32.wrap (↑(BitVec.ofInt (32 : Nat) (4294967295 : Int) ^^^ BitVec.ofInt (32 : Nat) f).toNat : Int)) &&& BitVec.ofInt (32 : Nat) (65535 : Int)).toNat : Int)) (IntKind.u32.wrap (↑(BitVec.ofInt (32 : Nat) (IntKind.u32.wrap (↑(BitVec.ofInt (32 : Nat) (4294967295 : Int) ^^^ BitVec.ofInt (32 : Nat) g).toNat : Int)) &&& BitVec.ofInt (32 : Nat) (65535 : Int)).toNat : Int)) (IntKind.u32.wrap (↑(BitVec.ofInt (32 : Nat) (IntKind.u32.wrap (↑(BitVec.ofInt (32 : Nat) (4294967295 : Int) ^^^ BitVec.ofInt (32 : Nat) h).toNat : Int)) &&& BitVec.ofInt (32 : Nat) (65535 : Int)).toNat : Int)) + (1 : Int))), AV.int IntKind.u32 (bD (4 : Nat) (bV (IntKind.u32.wrap (↑(BitVec.ofInt (32 : Nat) (IntKind.u32.wrap (↑(BitVec.ofInt (32 : Nat) (4294967295 : Int) ^^^ BitVec.ofInt (32 : Nat) a).toNat : Int)) &&& BitVec.ofInt (32 : Nat) (65535 : Int)).toNat : Int)) (IntKind.u32.wrap (↑(BitVec.ofInt (32 : Nat) (IntKind.u32.wrap (↑(BitVec.ofInt (32 : Nat) (4294967295 : Int) ^^^ BitVec.ofInt (32 : Nat) b).toNat : Int)) &&& BitVec.ofInt (32 : Nat) (65535 : Int)).toNat : Int)) (IntKind.u32.wrap (↑(BitVec.ofInt (32 : Nat) (IntKind.u32.wrap (↑(BitVec.ofInt (32 : Nat) (4294967295 : Int) ^^^ BitVec.ofInt (32 : Nat) c).toNat : Int)) &&& BitVec.ofInt (32 : Nat) (65535 : Int)).toNat : Int)) (IntKind.u32.wrap (↑(BitVec.ofInt (32 : Nat) (IntKind.u32.wrap (↑(BitVec.ofInt (32 : Nat) (4294967295 : Int) ^^^ BitVec.ofInt (32 : Nat) d).toNat : Int)) &&& BitVec.ofInt (32 : Nat) (65535 : Int)).toNat : Int)) (IntKind.u32.wrap (↑(BitVec.ofInt (32 : Nat) (IntKind.u32.wrap (↑(BitVec.ofInt (32 : Nat) (4294967295 : Int) ^^^ BitVec.ofInt (32 : Nat) e).toNat : Int)) &&& BitVec.ofInt (32 : Nat) (65535 : Int)).toNat : Int)) (IntKind.u32.wrap (↑(BitVec.ofInt (32 : Nat) (IntKind.u32.wrap (↑(BitVec.ofInt (32 : Nat) (4294967295 : Int) ^^^ BitVec.ofInt (32 : Nat) f).toNat : Int)) &&& BitVec.ofInt (32 : Nat) (65535 : Int)).toNat : Int)) (IntKind.u32.wrap (↑(BitVec.ofInt (32 : Nat) (IntKind.u32.wrap (↑(BitVec.ofInt (32 : Nat) (4294967295 : Int) ^^^ BitVec.ofInt (32 : Nat) g).toNat : Int)) &&& BitVec.ofInt (32 : Nat) (65535 : Int)).toNat : Int)) (IntKind.u32.wrap (↑(BitVec.ofInt (32 : Nat) (IntKind.u32.wrap (↑(BitVec.ofInt (32 : Nat) (4294967295 : Int) ^^^ BitVec.ofInt (32 : Nat) h).toNat : Int)) &&& BitVec.ofInt (32 : Nat) (65535 : Int)).toNat : Int)) + (1 : Int))), AV.int IntKind.u32 (bD (5 : Nat) (bV (IntKind.u32.wrap (↑(BitVec.ofInt (32 : Nat) (IntKind.u32.wrap (↑(BitVec.ofInt (32 : Nat) (4294967295 : Int) ^^^ BitVec.ofInt (32 : Nat) a).toNat : Int)) &&& BitVec.ofInt (32 : Nat) (65535 : Int)).toNat : Int)) (IntKind.u32.wrap (↑(BitVec.ofInt (32 : Nat) (IntKind.u32.wrap (↑(BitVec.ofInt (32 : Nat) (4294967295 : Int) ^^^ BitVec.ofInt (32 : Nat) b).toNat : Int)) &&& BitVec.ofInt (32 : Nat) (65535 : Int)).toNat : Int)) (IntKind.u32.wrap (↑(BitVec.ofInt (32 : Nat) (IntKind.u32.wrap (↑(BitVec.ofInt (32 : Nat) (4294967295 : Int) ^^^ BitVec.ofInt (32 : Nat) c).toNat : Int)) &&& BitVec.ofInt (32 : Nat) (65535 : Int)).toNat : Int)) (IntKind.u32.wrap (↑(BitVec.ofInt (32 : Nat) (IntKind.u32.wrap (↑(BitVec.ofInt (32 : Nat) (4294967295 : Int) ^^^ BitVec.ofInt (32 : Nat) d).toNat : Int)) &&& BitVec.ofInt (32 : Nat) (65535 : Int)).toNat : Int)) (IntKind.u32.wrap (↑(BitVec.ofInt (32 : Nat) (IntKind.u32.wrap (↑(BitVec.ofInt (32 : Nat) (4294967295 : Int) ^^^ BitVec.ofInt (32 : Nat) e).toNat : Int)) &&& BitVec.ofInt (32 : Nat) (65535 : Int)).toNat : Int)) (IntKind.u32.wrap (↑(BitVec.ofInt (32 : Nat) (IntKind.u32.wrap (↑(BitVec.ofInt (32 : Nat) (4294967295 : Int) ^^^ BitVec.ofInt (32 : Nat) f).toNat : Int)) &&& BitVec.ofInt (32 : Nat) (65535 : Int)).toNat : Int)) (IntKind.u32.wrap (↑(BitVec.ofInt (32 : Nat) (IntKind.u32.wrap (↑(BitVec.ofInt (32 : Nat) (4294967295 : Int) ^^^ BitVec.ofInt (32 : Nat) g).toNat : Int)) &&& BitVec.ofInt (32 : Nat) (65535 : Int)).toNat : Int)) (IntKind.u32.wrap (↑(BitVec.ofInt (32 : Nat) (IntKind.u32.wrap (↑(BitVec.ofInt (32 : Nat) (4294967295 : Int) ^^^ BitVec.ofInt (32 : Nat) h).toNat : Int)) &&& BitVec.ofInt (32 : Nat) (65535 : Int)).toNat : Int)) + (1 : Int))), AV.int IntKind.u32 (bD (6 : Nat) (bV (IntKind.u32.wrap (↑(BitVec.ofInt (32 : Nat) (IntKind.u32.wrap (↑(BitVec.ofInt (32 : Nat) (4294967295 : Int) ^^^ BitVec.ofInt (32 : Nat) a).toNat : Int)) &&& BitVec.ofInt (32 : Nat) (65535 : Int)).toNat : Int)) (IntKind.u32.wrap (↑(BitVec.ofInt (32 : Nat) (IntKind.u32.wrap (↑(BitVec.ofInt (32 : Nat) (4294967295 : Int) ^^^ BitVec.ofInt (32 : Nat) b).toNat : Int)) &&& BitVec.ofInt (32 : Nat) (65535 : Int)).toNat : Int)) (IntKind.u32.wrap (↑(BitVec.ofInt (32 : Nat) (IntKind.u32.wrap (↑(BitVec.ofInt (32 : Nat) (4294967295 : Int) ^^^ BitVec.ofInt (32 : Nat) c).toNat : Int)) &&& BitVec.ofInt (32 : Nat) (65535 : Int)).toNat : Int)) (IntKind.u32.wrap (↑(BitVec.ofInt (32 : Nat) (IntKind.u32.wrap (↑(BitVec.ofInt (32 : Nat) (4294967295 : Int) ^^^ BitVec.ofInt (32 : Nat) d).toNat : Int)) &&& BitVec.ofInt (32 : Nat) (65535 : Int)).toNat : Int)) (IntKind.u32.wrap (↑(BitVec.ofInt (32 : Nat) (IntKind.u32.wrap (↑(BitVec.ofInt (32 : Nat) (4294967295 : Int) ^^^ BitVec.ofInt (32 : Nat) e).toNat : Int)) &&& BitVec.ofInt (32 : Nat) (65535 : Int)).toNat : Int)) (IntKind.u32.wrap (↑(BitVec.ofInt (32 : Nat) (IntKind.u32.wrap (↑(BitVec.ofInt (32 : Nat) (4294967295 : Int) ^^^ BitVec.ofInt (32 : Nat) f).toNat : Int)) &&& BitVec.ofInt (32 : Nat) (65535 : Int)).toNat : Int)) (IntKind.u32.wrap (↑(BitVec.ofInt (32 : Nat) (IntKind.u32.wrap (↑(BitVec.ofInt (32 : Nat) (4294967295 : Int) ^^^ BitVec.ofInt (32 : Nat) g).toNat : Int)) &&& BitVec.ofInt (32 : Nat) (65535 : Int)).toNat : Int)) (IntKind.u32.wrap (↑(BitVec.ofInt (32 : Nat) (IntKind.u32.wrap (↑(BitVec.ofInt (32 : Nat) (4294967295 : Int) ^^^ BitVec.ofInt (32 : Nat) h).toNat : Int)) &&& BitVec.ofInt (32 : Nat) (65535 : Int)).toNat : Int)) + (1 : Int))), AV.int IntKind.u32 (bD (7 : Nat) (bV (IntKind.u32.wrap (↑(BitVec.ofInt (32 : Nat) (IntKind.u32.wrap (↑(BitVec.ofInt (32 : Nat) (4294967295 : Int) ^^^ BitVec.ofInt (32 : Nat) a).toNat : Int)) &&& BitVec.ofInt (32 : Nat) (65535 : Int)).toNat : Int)) (IntKind.u32.wrap (↑(BitVec.ofInt (32 : Nat) (IntKind.u32.wrap (↑(BitVec.ofInt (32 : Nat) (4294967295 : Int) ^^^ BitVec.ofInt (32 : Nat) b).toNat : Int)) &&& BitVec.ofInt (32 : Nat) (65535 : Int)).toNat : Int)) (IntKind.u32.wrap (↑(BitVec.ofInt (32 : Nat) (IntKind.u32.wrap (↑(BitVec.ofInt (32 : Nat) (4294967295 : Int) ^^^ BitVec.ofInt (32 : Nat) c).toNat : Int)) &&& BitVec.ofInt (32 : Nat) (65535 : Int)).toNat : Int)) (IntKind.u32.wrap (↑(BitVec.ofInt (32 : Nat) (IntKind.u32.wrap (↑(BitVec.ofInt (32 : Nat) (4294967295 : Int) ^^^ BitVec.ofInt (32 : Nat) d).toNat : Int)) &&& BitVec.ofInt (32 : Nat) (65535 : Int)).toNat : Int)) (IntKind.u32.wrap (↑(BitVec.ofInt (32 : Nat) (IntKind.u32.wrap (↑(BitVec.ofInt (32 : Nat) (4294967295 : Int) ^^^ BitVec.ofInt (32 : Nat) e).toNat : Int)) &&& BitVec.ofInt (32 : Nat) (65535 : Int)).toNat : Int)) (IntKind.u32.wrap (↑(BitVec.ofInt (32 : Nat) (IntKind.u32.wrap (↑(BitVec.ofInt (32 : Nat) (4294967295 : Int) ^^^ BitVec.ofInt (32 : Nat) f).toNat : Int)) &&& BitVec.ofInt (32 : Nat) (65535 : Int)).toNat : Int)) (IntKind.u32.wrap (↑(BitVec.ofInt (32 : Nat) (IntKind.u32.wrap (↑(BitVec.ofInt (32 : Nat) (4294967295 : Int) ^^^ BitVec.ofInt (32 : Nat) g).toNat : Int)) &&& BitVec.ofInt (32 : Nat) (65535 : Int)).toNat : Int)) (IntKind.u32.wrap (↑(BitVec.ofInt (32 : Nat) (IntKind.u32.wrap (↑(BitVec.ofInt (32 : Nat) (4294967295 : Int) ^^^ BitVec.ofInt (32 : Nat) h).toNat : Int)) &&& BitVec.ofInt (32 : Nat) (65535 : Int)).toNat : Int)) + (1 : Int)))]) [])
    (False) := by kernel_rfl
theorem bneg_ok : SpecOk Try.prog 23 bnegF.f := specOk_comes fun args s v s' tch eR => by
  simp only [bnegF] at eR
  split at eR
  · rename_i a b c d e f g h
    obtain ⟨hg, rfl, rfl, rfl⟩ := run_ok eR
    refine comes_of ok (prOk_add bof_ok (prOk_add badd_ok prOk_none)) (L := 100) (ms := []) (by kernel_rfl) loops_none ?_
    simp only [inB_iff] at hg
    obtain ⟨ha, hb, hc, hd, he, hf, hgg, hh⟩ := hg
    refine Eq.mpr (bneg_body a b c d e f g h _) ?_
    have hx : ∀ x : Int, 0 ≤ x ∧ x < 65536 → (4294967295 - x % 4294967296) % 65536 = 65535 - x := fun x h => by omega
    simp only [xor32, and32]
    rw [hx a ha, hx b hb, hx c hc, hx d hd, hx e he, hx f hf, hx g hgg, hx h hh, bV_neg]
    refine br_t (by rw [Bool.and_true, inB_iff]; omega) ⟨?_, by trivial⟩
    exact avB_congr (by rw [Int.add_emod_left])
  · cases eR
theorem bminus_body (a b c d e f g h : Int) (k : AV → St → Prop) : bodyK Try.prog noP noL 100 40 [] [av8 a b c d e f g h] [] k =
  k (AV.bool (decide (h.fdiv (32768 : Int) = (1 : Int)))) [] := by kernel_rfl
theorem bminus_ok : SpecOk Try.prog 40 bminusF.f := specOk_comes fun args s v s' tch eR => by
  simp only [bminusF] at eR
  split at eR
  · rename_i a b c d e f g h
    obtain ⟨hg, rfl, rfl, rfl⟩ := run_ok eR
    refine comes_of ok prOk_none (L := 100) (ms := []) (by kernel_rfl) loops_none ?_
    simp only [inB_iff] at hg
    obtain ⟨ha, hb, hc, hd, he, hf, hgg, hh⟩ := hg
    refine Eq.mpr (bminus_body a b c d e f g h _) ?_
    refine ⟨?_, by trivial⟩
    congr 1
    rw [decide_eq_decide]
    rw [Int.fdiv_eq_ediv_of_nonneg h (by omega)]
    simp only [w128, bV]
    omega
  · cases eR
def prBM : FuncId → Option Sy.Spec := addP 21 bofF noP
theorem bnum_body (a b c d e f g h : Int) (k : AV → St → Prop) : bodyK Try.prog prBM noL 100 38 [] [av8 a b c d e f g h] [] k =
  br (inI (IntKind.i64.wrap (IntKind.u64.wrap (↑(BitVec.ofInt (64 : Nat) (IntKind.u64.wrap (IntKind.u64.wrap (↑(BitVec.ofInt (64 : Nat) (IntKind.u64.wrap (IntKind.u64.wrap (↑(BitVec.ofInt (64 : Nat) (IntKind.u64.wrap (IntKind.u64.wrap (↑(BitVec.ofInt (64 : Nat) (0 : Int) ||| BitVec.ofInt (64 : Nat) (IntKind.u64.wrap d)).toNat : Int) * (65536 : Int))) ||| BitVec.ofInt (64 : Nat) (IntKind.u64.wrap c)).toNat : Int) * (65536 : Int))) ||| BitVec.ofInt (64 : Nat) (IntKind.u64.wrap b)).toNat : Int) * (65536 : Int))) ||| BitVec.ofInt (64 : Nat) (IntKind.u64.wrap a)).toNat : Int))))
    (br (!(decide (bD (0 : Nat) (IntKind.i64.wrap (IntKind.u64.wrap (↑(BitVec.ofInt (64 : Nat) (IntKind.u64.wrap (IntKind.u64.wrap (↑(BitVec.ofInt (64 : Nat) (IntKind.u64.wrap (IntKind.u64.wrap (↑(BitVec.ofInt (64 : Nat) (IntKind.u64.wrap (IntKind.u64.wrap (↑(BitVec.ofInt (64 : Nat) (0 : Int) ||| BitVec.ofInt (64 : Nat) (IntKind.u64.wrap d)).toNat : Int) * (65536 : Int))) ||| BitVec.ofInt (64 : Nat) (IntKind.u64.wrap c)).toNat : Int) * (65536 : Int))) ||| BitVec.ofInt (64 : Nat) (IntKind.u64.wrap b)).toNat : Int) * (65536 : Int))) ||| BitVec.ofInt (64 : Nat) (IntKind.u64.wrap a)).toNat : Int))) = a) && (decide (bD (1 : Nat) (IntKind.i64.wrap (IntKind.u64.wrap (↑(BitVec.ofInt (64 : Nat) (IntKind.u64.wrap (IntKind.u64.wrap (↑(BitVec.ofInt (64 : Nat) (IntKind.u64.wrap (IntKind.u64.wrap (↑(BitVec.ofInt (64 : Nat) (IntKind.u64.wrap (IntKind.u64.wrap (↑(BitVec.ofInt (64 : Nat) (0 : Int) ||| BitVec.ofInt (64 : Nat) (IntKind.u64.wrap d)).toNat : Int) * (65536 : Int))) ||| BitVec.ofInt (64 : Nat) (IntKind.u64.wrap c)).toNat : Int) * (65536 : Int))) ||| BitVec.ofInt (64 : Nat) (IntKind.u64.wrap b)).toNat : Int) * (65536 : Int))) ||| BitVec.ofInt (64 : Nat) (IntKind.u64.wrap a)).toNat : Int))) = b) && (decide (bD (2 : Nat) (IntKind.i64.wrap (IntKind.u64.wrap (↑(BitVec.ofInt (64 : Nat) (IntKind.u64.wrap (IntKind.u64.wrap (↑(BitVec.ofInt (64 : Nat) (IntKind.u64.wrap (IntKind.u64.wrap (↑(BitVec.ofInt (64 : Nat) (IntKind.u64.wrap (IntKind.u64.wrap (↑(BitVec.ofInt (64 : Nat) (0 : Int) ||| BitVec.ofInt (64 : Nat) (IntKind.u64.wrap d)).toNat : Int) * (65536 : Int))) ||| BitVec.ofInt (64 : Nat) (IntKind.u64.wrap c)).toNat : Int) * (65536 : Int))) ||| BitVec.ofInt (64 : Nat) (IntKind.u64.wrap b)).toNat : Int) * (65536 : Int))) ||| BitVec.ofInt (64 : Nat) (IntKind.u64.wrap a)).toNat : Int))) = c) && (decide (bD (3 : Nat) (IntKind.i64.wrap (IntKind.u64.wrap (↑(BitVec.ofInt (64 : Nat) (IntKind.u64.wrap (IntKind.u64.wrap (↑(BitVec.ofInt (64 : Nat) (IntKind.u64.wrap (IntKind.u64.wrap (↑(BitVec.ofInt (64 : Nat) (IntKind.u64.wrap (IntKind.u64.wrap (↑(BitVec.ofInt (64 : Nat) (0 : Int) ||| BitVec.ofInt (64 : Nat) (IntKind.u64.wrap d)).toNat : Int) * (65536 : Int))) ||| BitVec.ofInt (64 : Nat) (IntKind.u64.wrap c)).toNat : Int) * (65536 : Int))) ||| BitVec.ofInt (64 : Nat) (IntKind.u64.wrap b)).toNat : Int) * (65536 : Int))) ||| BitVec.ofInt (64 : Nat) (IntKind.u64.wrap a)).toNat : Int))) = d) && (decide (bD (4 : Nat) (IntKind.i64.wrap (IntKind.u64.wrap (↑(BitVec.ofInt (64 : Nat) (IntKind.u64.wrap (IntKind.u64.wrap (↑(BitVec.ofInt (64 : Nat) (IntKind.u64.wrap (IntKind.u64.wrap (↑(BitVec.ofInt (64 : Nat) (IntKind.u64.wrap (IntKind.u64.wrap (↑(BitVec.ofInt (64 : Nat) (0 : Int) ||| BitVec.ofInt (64 : Nat) (IntKind.u64.wrap d)).toNat : Int) * (65536 : Int))) ||| BitVec.ofInt (64 : Nat) (IntKind.u64.wrap c)).toNat : Int) * (65536 : Int))) ||| BitVec.ofInt (64 : Nat) (IntKind.u64.wrap b)).toNat : Int) * (65536 : Int))) ||| BitVec.ofInt (64 : Nat) (IntKind.u64.wrap a)).toNat : Int))) = e) && (decide (bD (5 : Nat) (IntKind.i64.wrap (IntKind.u64.wrap (↑(BitVec.ofInt (64 : Nat) (IntKind.u64.wrap (IntKind.u64.wrap (↑(BitVec.ofInt (64 : Nat) (IntKind.u64.wrap (IntKind.u64.wrap (↑(BitVec.ofInt (64 : Nat) (IntKind.u64.wrap (IntKind.u64.wrap (↑(BitVec.ofInt (64 : Nat) (0 : Int) ||| BitVec.ofInt (64 : Nat) (IntKind.u64.wrap d)).toNat : Int) * (65536 : Int))) ||| BitVec.ofInt (64 : Nat) (IntKind.u64.wrap c)).toNat : Int) * (65536 : Int))) ||| BitVec.ofInt (64 : Nat) (IntKind.u64.wrap b)).toNat : Int) * (65536 : Int))) ||| BitVec.ofInt (64 : Nat) (IntKind.u64.wrap a)).toNat : Int))) = f) && (decide (bD (6 : Nat) (IntKind.i64.wrap (IntKind.u64.wrap (↑(BitVec.ofInt (64 : Nat) (IntKind.u64.wrap (IntKind.u64.wrap (↑(BitVec.ofInt (64 : Nat) (IntKind.u64.wrap (IntKind.u64.wrap (↑(BitVec.ofInt (64 : Nat) (IntKind.u64.wrap (IntKind.u64.wrap (↑(BitVec.ofInt (64 : Nat) (0 : Int) ||| BitVec.ofInt (64 : Nat) (IntKind.u64.wrap d)).toNat : Int) * (65536 : Int))) ||| BitVec.ofInt (64 : Nat) (IntKind.u64.wrap c)).toNat : Int) * (65536 : Int))) ||| BitVec.ofInt (64 : Nat) (IntKind.u64.wrap b)).toNat : Int) * (65536 : Int))) ||| BitVec.ofInt (64 : Nat) (IntKind.u64.wrap a)).toNat : Int))) = g) && (decide (bD (7 : Nat) (IntKind.i64.wrap (IntKind.u64.wrap (↑(BitVec.ofInt (64 : Nat) (IntKind.u64.wrap (IntKind.u64.wrap (↑(BitVec.ofInt (64 : Nat) (IntKind.u64.wrap (IntKind.u64.wrap (↑(BitVec.ofInt (64 : Nat) (IntKind.u64.wrap (IntKind.u64.wrap (↑(BitVec.ofInt (64 : Nat) (0 : Int) ||| BitVec.ofInt (64 : Nat) (IntKind.u64.wrap d)).toNat : Int) * (65536 : Int))) ||| BitVec.ofInt (64 : Nat) (IntKind.u64.wrap c)).toNat : Int) * (65536 : Int))) ||| BitVec.ofInt (64 : Nat) (IntKind.u64.wrap b)).toNat : Int) * (65536 : Int))) ||| BitVec.ofInt (64 : Nat) (IntKind.u64.wrap a)).toNat : Int))) = h) && true)))))))))
      (k (AV.tup [AV.int IntKind.i64 (0 : Int), AV.bool false]) [])
      (k (AV.tup [AV.int IntKind.i64 (IntKind.i64.wrap (IntKind.u64.wrap (↑(BitVec.ofInt (64 : Nat) (IntKind.u64.wrap (IntKind.u64.wrap (↑(BitVec.ofInt (64 : Nat) (IntKind.u64.wrap (IntKind.u64.wrap (↑(BitVec.ofInt (64 : Nat) (IntKind.u64.wrap (IntKind.u64.wrap (↑(BitVec.ofInt (64 : Nat) (0 : Int) ||| BitVec.ofInt (64 : Nat) (IntKind.u64.wrap d)).toNat : Int) * (65536 : Int))) ||| BitVec.ofInt (64 : Nat) (IntKind.u64.wrap c)).toNat : Int) * (65536 : Int))) ||| BitVec.ofInt (64 : Nat) (IntKind.u64.wrap b)).toNat : Int) * (65536 : Int))) ||| BitVec.ofInt (64 : Nat) (IntKind.u64.wrap a)).toNat : Int))), AV.bool true]) []))
    (False) := by kernel_rfl
theorem bnum_ok : SpecOk Try.prog 38 bnumF.f := specOk_comes fun args s v s' tch eR => by
  simp only [bnumF] at eR
  split at eR
  · rename_i a b c d e f g h
    obtain ⟨hg, rfl, rfl, rfl⟩ := run_ok eR
    refine comes_of ok (prOk_add bof_ok prOk_none) (L := 100) (ms := []) (by kernel_rfl) loops_none ?_
    have hgB := hg
    simp only [inB_iff] at hg
    obtain ⟨ha, hb, hc, hd, he, hf, hgg, hh⟩ := hg
    refine Eq.mpr (bnum_body a b c d e f g h _) ?_
    have U : ∀ x y z u : Int, 0 ≤ x ∧ x < 65536 → 0 ≤ y ∧ y < 65536 → 0 ≤ z ∧ z < 65536 → 0 ≤ u ∧ u < 65536 → (((u * 65536 + z) % 18446744073709551616 * 65536 + y) % 18446744073709551616 * 65536 + x) % 18446744073709551616 = x + 65536 * (y + 65536 * (z + 65536 * u)) := fun x y z u h1 h2 h3 h4 => by omega
    simp only [or64_0 hd, or64 hc, or64 hb, or64 ha, U a b c d ha hb hc hd]
    obtain ⟨N, hN⟩ : ∃ N, N = IntKind.i64.wrap (a + 65536 * (b + 65536 * (c + 65536 * d))) := ⟨_, rfl⟩
    rw [← hN]
    have hN' := hN
    rw [IntKind.wrap_i64] at hN'
    have hNi : inI N = true := by rw [inI_iff]; omega
    have hD := bD_bV hgB
    have key : (bD 0 N = a ∧ bD 1 N = b ∧ bD 2 N = c ∧ bD 3 N = d ∧ bD 4 N = e ∧ bD 5 N = f ∧ bD 6 N = g ∧ bD 7 N = h) ↔ w128 (bV a b c d e f g h) = N := by
      constructor
      · rintro ⟨h1, h2, h3, h4, h5, h6, h7, h8⟩
        have : nrm N = bV a b c d e f g h := by rw [nrm, h1, h2, h3, h4, h5, h6, h7, h8]
        rw [← this, nrm_eq, w128_mod]
        rw [inI_iff] at hNi
        exact w128_id (by omega) (by omega)
      · intro h1
        have : N % M128 = bV a b c d e f g h := by
          rw [← h1, w128_mod']
          have := bV_range hgB
          exact Int.emod_eq_of_lt this.1 this.2
        have h2 := avB_of hgB this
        simp only [avB, av8, AV.agg.injEq, List.cons.injEq, AV.int.injEq, true_and, and_true] at h2
        exact h2
    have key2 : inI (w128 (bV a b c d e f g h)) = true ↔ w128 (bV a b c d e f g h) = N := by
      constructor
      · intro h1
        rw [inI_iff] at h1
        simp only [w128, bV] at h1 ⊢
        omega
      · intro h1; rw [h1]; exact hNi
    refine br_t hNi (br_mk (fun hc => ⟨?_, by trivial⟩) (fun hc => ⟨?_, by trivial⟩))
    · have hne : ¬ w128 (bV a b c d e f g h) = N := fun h1 => by
        obtain ⟨p1, p2, p3, p4, p5, p6, p7, p8⟩ := key.2 h1
        simp [p1, p2, p3, p4, p5, p6, p7, p8] at hc
      have hI : inI (w128 (bV a b c d e f g h)) = false := by
        cases hI : inI (w128 (bV a b c d e f g h))
        · rfl
        · exact absurd (key2.1 hI) hne
      simp [numOf, hI]
    · have heq : w128 (bV a b c d e f g h) = N := key.1 (by simpa [and_assoc] using hc)
      rw [heq]
      simp [numOf, hNi]
  · cases eR
theorem bparts_body (a b c d e f g h : Int) (k : AV → St → Prop) : bodyK Try.prog noP noL 100 37 [] [av8 a b c d e f g h] [] k =
  k (AV.tup [AV.int IntKind.i64 (IntKind.i64.wrap (IntKind.u64.wrap (↑(BitVec.ofInt (64 : Nat) (IntKind.u64.wrap (IntKind.u64.wrap (↑(BitVec.ofInt (64 : Nat) (IntKind.u64.wrap (IntKind.u64.wrap (↑(BitVec.ofInt (64 : Nat) (IntKind.u64.wrap (IntKind.u64.wrap (↑(BitVec.ofInt (64 : Nat) (0 : Int) ||| BitVec.ofInt (64 : Nat) (IntKind.u64.wrap h)).toNat : Int) * (65536 : Int))) ||| BitVec.ofInt (64 : Nat) (IntKind.u64.wrap g)).toNat : Int) * (65536 : Int))) ||| BitVec.ofInt (64 : Nat) (IntKind.u64.wrap f)).toNat : Int) * (65536 : Int))) ||| BitVec.ofInt (64 : Nat) (IntKind.u64.wrap e)).toNat : Int))), AV.int IntKind.u64 (IntKind.u64.wrap (↑(BitVec.ofInt (64 : Nat) (IntKind.u64.wrap (IntKind.u64.wrap (↑(BitVec.ofInt (64 : Nat) (IntKind.u64.wrap (IntKind.u64.wrap (↑(BitVec.ofInt (64 : Nat) (IntKind.u64.wrap (IntKind.u64.wrap (↑(BitVec.ofInt (64 : Nat) (0 : Int) ||| BitVec.ofInt (64 : Nat) (IntKind.u64.wrap d)).toNat : Int) * (65536 : Int))) ||| BitVec.ofInt (64 : Nat) (IntKind.u64.wrap c)).toNat : Int) * (65536 : Int))) ||| BitVec.ofInt (64 : Nat) (IntKind.u64.wrap b)).toNat : Int) * (65536 : Int))) ||| BitVec.ofInt (64 : Nat) (IntKind.u64.wrap a)).toNat : Int))]) [] := by kernel_rfl
theorem bparts_ok : SpecOk Try.prog 37 bpartsF.f := specOk_comes fun args s v s' tch eR => by
  simp only [bpartsF] at eR
  split at eR
  · rename_i a b c d e f g h
    obtain ⟨hg, rfl, rfl, rfl⟩ := run_ok eR
    refine comes_of ok prOk_none (L := 100) (ms := []) (by kernel_rfl) loops_none ?_
    simp only [inB_iff] at hg
    obtain ⟨ha, hb, hc, hd, he, hf, hgg, hh⟩ := hg
    refine Eq.mpr (bparts_body a b c d e f g h _) ?_
    have U : ∀ x y z u : Int, 0 ≤ x ∧ x < 65536 → 0 ≤ y ∧ y < 65536 → 0 ≤ z ∧ z < 65536 → 0 ≤ u ∧ u < 65536 → (((u * 65536 + z) % 18446744073709551616 * 65536 + y) % 18446744073709551616 * 65536 + x) % 18446744073709551616 = x + 65536 * (y + 65536 * (z + 65536 * u)) := fun x y z u h1 h2 h3 h4 => by omega
    simp only [or64_0 hd, or64 hc, or64 hb, or64 ha, or64_0 hh, or64 hgg, or64 hf, or64 he, U a b c d ha hb hc hd, U e f g h he hf hgg hh]
    refine ⟨?_, by trivial⟩
    have e1 : IntKind.i64.wrap (e + 65536 * (f + 65536 * (g + 65536 * h))) = wH (bV a b c d e f g h) := by
      rw [IntKind.wrap_i64]; simp only [wH, w128, bV]; omega
    have e2 : a + 65536 * (b + 65536 * (c + 65536 * d)) = wL (bV a b c d e f g h) := by
      simp only [wL, w128, bV]; omega
    rw [e1, e2]
  · cases eR
def prBL : FuncId → Option Sy.Spec := addP 40 bminusF noP
theorem bless_body (a b c d e f g h a' b' c' d' e' f' g' h' : Int) (k : AV → St → Prop) : bodyK Try.prog prBL noL 100 41 [] [av8 a b c d e f g h, av8 a' b' c' d' e' f' g' h'] [] k =
  br (inB a b c d e f g h)
    (br (inB a' b' c' d' e' f' g' h')
      (br (!decide (w128 (bV a b c d e f g h) < (0 : Int)) == decide (w128 (bV a' b' c' d' e' f' g' h') < (0 : Int)))
        (br (inB a b c d e f g h)
          (k (AV.bool (decide (w128 (bV a b c d e f g h) < (0 : Int)))) [])
          (False))
        (br (!decide (h = h'))
          (k (AV.bool (decide (h < h'))) [])
          (br (!decide (g = g'))
            (k (AV.bool (decide (g < g'))) [])
            (br (!decide (f = f'))
              (k (AV.bool (decide (f < f'))) [])
              (br (!decide (e = e'))
                (k (AV.bool (decide (e < e'))) [])
                (br (!decide (d = d'))
                  (k (AV.bool (decide (d < d'))) [])
                  (br (!decide (c = c'))
                    (k (AV.bool (decide (c < c'))) [])
                    (br (!decide (b = b'))
                      (k (AV.bool (decide (b < b'))) [])
                      (br (!decide (a = a'))
                        (k (AV.bool (decide (a < a'))) [])
                        (k (AV.bool false) []))))))))))
      (False))
    (False) := by kernel_rfl
theorem bless_ok : SpecOk Try.prog 41 blessF.f := specOk_comes fun args s v s' tch eR => by
  simp only [blessF] at eR
  split at eR
  · rename_i a b c d e f g h a' b' c' d' e' f' g' h'
    obtain ⟨hg, rfl, rfl, rfl⟩ := run_ok eR
    refine comes_of ok (prOk_add bminus_ok prOk_none) (L := 100) (ms := []) (by kernel_rfl) loops_none ?_
    simp only [Bool.and_eq_true] at hg
    obtain ⟨g1, g2⟩ := hg
    refine Eq.mpr (bless_body a b c d e f g h a' b' c' d' e' f' g' h' _) ?_
    refine br_t g1 (br_t g2 ?_)
    have r1 := bV_range g1
    have r2 := bV_range g2
    rw [inB_iff] at g1 g2
    have gg := g1
    refine br_mk (fun hs => br_t (inB_iff.2 gg) ⟨?_, by trivial⟩) (fun hs => ?_)
    · congr 1
      rw [decide_eq_decide]
      have hs : ¬ (w128 (bV a b c d e f g h) < 0 ↔ w128 (bV a' b' c' d' e' f' g' h') < 0) := by simpa using hs
      by_cases p : w128 (bV a b c d e f g h) < 0 <;> by_cases q : w128 (bV a' b' c' d' e' f' g' h') < 0
      · exact absurd (by simp [p, q]) hs
      · exact ⟨fun _ => by omega, fun _ => p⟩
      · exact ⟨fun h => absurd h p, fun h => by omega⟩
      · exact absurd (by simp [p, q]) hs
    · have hs : (w128 (bV a b c d e f g h) < 0 ↔ w128 (bV a' b' c' d' e' f' g' h') < 0) := by simpa using hs
      have hlt : (w128 (bV a b c d e f g h) < w128 (bV a' b' c' d' e' f' g' h')) ↔ bV a b c d e f g h < bV a' b' c' d' e' f' g' h' := by
        generalize bV a b c d e f g h = X at *
        generalize bV a' b' c' d' e' f' g' h' = Y at *
        simp only [w128, M128] at *
        omega
      simp only [hlt]
      have fin : ∀ p : Prop, [Decidable p] → (p ↔ bV a b c d e f g h < bV a' b' c' d' e' f' g' h') → AV.bool (decide p) = AV.bool (decide (bV a b c d e f g h < bV a' b' c' d' e' f' g' h')) := fun p _ hp => by congr 1; rw [decide_eq_decide]; exact hp
      clear hlt hs r1 r2 gg
      simp only [bV] at fin ⊢
      refine br_mk (fun q0 => ⟨fin _ ?_, by trivial⟩) (fun q0 => ?_)
      · simp at q0; omega
      refine br_mk (fun q1 => ⟨fin _ ?_, by trivial⟩) (fun q1 => ?_)
      · simp at q1 q0; omega
      refine br_mk (fun q2 => ⟨fin _ ?_, by trivial⟩) (fun q2 => ?_)
      · simp at q2 q0 q1; omega
      refine br_mk (fun q3 => ⟨fin _ ?_, by trivial⟩) (fun q3 => ?_)
      · simp at q3 q0 q1 q2; omega
      refine br_mk (fun q4 => ⟨fin _ ?_, by trivial⟩) (fun q4 => ?_)
      · simp at q4 q0 q1 q2 q3; omega
      refine br_mk (fun q5 => ⟨fin _ ?_, by trivial⟩) (fun q5 => ?_)
      · simp at q5 q0 q1 q2 q3 q4; omega
      refine br_mk (fun q6 => ⟨fin _ ?_, by trivial⟩) (fun q6 => ?_)
      · simp at q6 q0 q1 q2 q3 q4 q5; omega
      refine br_mk (fun q7 => ⟨fin _ ?_, by trivial⟩) (fun q7 => ?_)
      · simp at q7 q0 q1 q2 q3 q4 q5 q6; omega
      refine ⟨?_, by trivial⟩
      have := fin False ⟨fun h => h.elim, fun hX => by simp at q0 q1 q2 q3 q4 q5 q6 q7; omega⟩
      simpa using this
  · cases eR
end Go.Proofs.Ytgmddliidplooaa.W
