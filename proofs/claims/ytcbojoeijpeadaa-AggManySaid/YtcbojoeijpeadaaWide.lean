/- Walks: great numbers. -/
import Derived.Test.YtcbojoeijpeadaaPvE
import Derived.Test.YtcbojoeijpeadaaProg
import Derived.KernelRfl
set_option linter.unusedSimpArgs false
set_option linter.unusedVariables false
set_option maxRecDepth 100000
namespace Go.Proofs.Ytcbojoeijpeadaa.W
open Go Go.Sy
attribute [local irreducible] bodyK roundK
theorem d1 : Try.prog.follows .mixedOrders = true := by kernel_rfl
theorem d2 : namesOkA Try.prog = true := by kernel_rfl
theorem d3 : drawsAllA Try.prog = true := by kernel_rfl
theorem d4 : extsOkA Try.prog = true := by kernel_rfl
theorem ok : ProgOk Try.prog := progOk_of d1 d2 d3 d4

theorem of_body (n : Int) (k : AV → St → Prop) : bodyK Try.prog noP noL 100 48 [] [.int .i64 n] [] k =
  k (AV.agg [AV.int IntKind.i64 (n.fdiv (9223372036854775808 : Int)), AV.int IntKind.u64 (IntKind.u64.wrap n)]) [] := by kernel_rfl
theorem of_ok : SpecOk Try.prog 48 ofF.f := specOk_comes fun args s v s' tch e => by
  simp only [ofF] at e
  split at e
  · obtain ⟨hg, rfl, rfl, rfl⟩ := run_ok e
    refine comes_of ok prOk_none (L := 100) (ms := []) (by kernel_rfl) loops_none ?_
    rw [of_body]
    exact ⟨by rw [of_hi hg, of_lo hg]; rfl, rfl⟩
  · cases e
theorem add_body (h l h' l' : Int) (k : AV → St → Prop) : bodyK Try.prog noP noL 100 47 [] [.agg [.int .i64 h, .int .u64 l], .agg [.int .i64 h', .int .u64 l']] [] k =
  br (decide ((0 : Int) ≤ (↑((l.toNat + l'.toNat + (0 : Nat)) / (18446744073709551616 : Nat)) : Int)) && decide ((↑((l.toNat + l'.toNat + (0 : Nat)) / (18446744073709551616 : Nat)) : Int) ≤ (1 : Int)))
    (k (AV.agg [AV.int IntKind.i64 (IntKind.i64.wrap (↑(((IntKind.u64.wrap h).toNat + (IntKind.u64.wrap h').toNat + (↑((l.toNat + l'.toNat + (0 : Nat)) / (18446744073709551616 : Nat)) : Int).toNat) % (18446744073709551616 : Nat)) : Int)), AV.int IntKind.u64 (↑((l.toNat + l'.toNat + (0 : Nat)) % (18446744073709551616 : Nat)) : Int)]) [])
    (False) := by kernel_rfl
theorem add_ok : SpecOk Try.prog 47 addF.f := specOk_comes fun args s v s' tch e => by
  simp only [addF] at e
  split at e
  · obtain ⟨hg, rfl, rfl, rfl⟩ := run_ok e
    simp only [Bool.and_eq_true] at hg
    refine comes_of ok prOk_none (L := 100) (ms := []) (by kernel_rfl) loops_none ?_
    rw [add_body]
    have g1 := inW_iff.1 hg.1
    have g2 := inW_iff.1 hg.2
    refine br_t (by simp only [Bool.and_eq_true, decide_eq_true_eq]; omega) ⟨?_, rfl⟩
    exact avW_congr (add_hi hg.1 hg.2) (add_lo hg.1 hg.2)
  · cases e
theorem neg_body (h l : Int) (k : AV → St → Prop) : bodyK Try.prog noP noL 100 72 [] [.agg [.int .i64 h, .int .u64 l]] [] k =
  br (decide ((0 : Int) ≤ bif Nat.blt (0 : Nat) (l.toNat + (0 : Nat)) then (1 : Int) else (0 : Int)) && decide ((bif Nat.blt (0 : Nat) (l.toNat + (0 : Nat)) then (1 : Int) else (0 : Int)) ≤ (1 : Int)))
    (k (AV.agg [AV.int IntKind.i64 (IntKind.i64.wrap (↑(((18446744073709551616 : Nat) - (IntKind.u64.wrap h).toNat - (bif Nat.blt (0 : Nat) (l.toNat + (0 : Nat)) then (1 : Int) else (0 : Int)).toNat) % (18446744073709551616 : Nat)) : Int)), AV.int IntKind.u64 (↑(((18446744073709551616 : Nat) - l.toNat - (0 : Nat)) % (18446744073709551616 : Nat)) : Int)]) [])
    (False) := by kernel_rfl
theorem neg_ok : SpecOk Try.prog 72 negF.f := specOk_comes fun args s v s' tch e => by
  simp only [negF] at e
  split at e
  · obtain ⟨hg, rfl, rfl, rfl⟩ := run_ok e
    refine comes_of ok prOk_none (L := 100) (ms := []) (by kernel_rfl) loops_none ?_
    rw [neg_body]
    refine br_t (by cases Nat.blt 0 _ <;> rfl) ⟨?_, rfl⟩
    exact avW_congr (neg_hi hg) (neg_lo hg)
  · cases e
theorem mul_body (x y : Int) (k : AV → St → Prop) : bodyK Try.prog noP noL 100 69 [] [.int .u64 x, .int .u64 y] [] k =
  k (AV.tup [AV.int IntKind.u64 (IntKind.u64.wrap (IntKind.u64.wrap (IntKind.u64.wrap (x.fdiv (4294967296 : Int) * y.fdiv (4294967296 : Int)) + (IntKind.u64.wrap (IntKind.u64.wrap (x.fdiv (4294967296 : Int) * IntKind.u64.wrap (↑(BitVec.ofInt (64 : Nat) y &&& BitVec.ofInt (64 : Nat) (4294967295 : Int)).toNat : Int)) + (IntKind.u64.wrap (IntKind.u64.wrap (↑(BitVec.ofInt (64 : Nat) x &&& BitVec.ofInt (64 : Nat) (4294967295 : Int)).toNat : Int) * IntKind.u64.wrap (↑(BitVec.ofInt (64 : Nat) y &&& BitVec.ofInt (64 : Nat) (4294967295 : Int)).toNat : Int))).fdiv (4294967296 : Int))).fdiv (4294967296 : Int)) + (IntKind.u64.wrap (IntKind.u64.wrap (↑(BitVec.ofInt (64 : Nat) (IntKind.u64.wrap (IntKind.u64.wrap (x.fdiv (4294967296 : Int) * IntKind.u64.wrap (↑(BitVec.ofInt (64 : Nat) y &&& BitVec.ofInt (64 : Nat) (4294967295 : Int)).toNat : Int)) + (IntKind.u64.wrap (IntKind.u64.wrap (↑(BitVec.ofInt (64 : Nat) x &&& BitVec.ofInt (64 : Nat) (4294967295 : Int)).toNat : Int) * IntKind.u64.wrap (↑(BitVec.ofInt (64 : Nat) y &&& BitVec.ofInt (64 : Nat) (4294967295 : Int)).toNat : Int))).fdiv (4294967296 : Int))) &&& BitVec.ofInt (64 : Nat) (4294967295 : Int)).toNat : Int) + IntKind.u64.wrap (IntKind.u64.wrap (↑(BitVec.ofInt (64 : Nat) x &&& BitVec.ofInt (64 : Nat) (4294967295 : Int)).toNat : Int) * y.fdiv (4294967296 : Int)))).fdiv (4294967296 : Int))), AV.int IntKind.u64 (IntKind.u64.wrap (x * y))]) [] := by kernel_rfl
theorem mul_ok : SpecOk Try.prog 69 mulF.f := specOk_comes fun args s v s' tch e => by
  simp only [mulF] at e
  split at e
  · obtain ⟨hg, rfl, rfl, rfl⟩ := run_ok e
    simp only [Bool.and_eq_true] at hg
    refine comes_of ok prOk_none (L := 100) (ms := []) (by kernel_rfl) loops_none ?_
    rw [mul_body]
    refine ⟨?_, rfl⟩
    rw [mul_hi _ _ hg.1 hg.2, mul_lo]
  · cases e
def prT : FuncId → Option Sy.Spec := addP 69 mulF (addP 48 ofF noP)
theorem prT_ok : PrOk Try.prog prT := prOk_add mul_ok (prOk_add of_ok prOk_none)
theorem times_body (h l n : Int) (k : AV → St → Prop) : bodyK Try.prog prT noL 100 49 [] [.agg [.int .i64 h, .int .u64 l], .int .i64 n] [] k =
  br (inI n)
    (br (inU l && inU (wL n))
      (k (AV.agg [AV.int IntKind.i64 (IntKind.i64.wrap (IntKind.u64.wrap (l * wL n / (18446744073709551616 : Int) + IntKind.u64.wrap (IntKind.u64.wrap (IntKind.u64.wrap h * wL n) + IntKind.u64.wrap (l * IntKind.u64.wrap (wH n)))))), AV.int IntKind.u64 (l * wL n % (18446744073709551616 : Int))]) [])
      (False))
    (False) := by kernel_rfl
theorem times_ok : SpecOk Try.prog 49 timesF.f := specOk_comes fun args s v s' tch e => by
  simp only [timesF] at e
  split at e
  · rename_i h l n
    obtain ⟨hg, rfl, rfl, rfl⟩ := run_ok e
    simp only [Bool.and_eq_true] at hg
    refine comes_of ok prT_ok (L := 100) (ms := []) (by kernel_rfl) loops_none ?_
    rw [times_body]
    have g1 := inW_iff.1 hg.1
    have g2 := inW_iff.1 (inW_HL n)
    refine br_t hg.2 (br_t (by simp only [Bool.and_eq_true, inU_iff]; exact ⟨g1.2, g2.2⟩) ⟨?_, rfl⟩)
    obtain ⟨k1, k2⟩ := times_law hg.1 hg.2
    exact avW_congr k1 k2
  · cases e
def prO : FuncId → Option Sy.Spec := addP 48 ofF noP
theorem prO_ok : PrOk Try.prog prO := prOk_add of_ok prOk_none
theorem num_body (h l : Int) (k : AV → St → Prop) : bodyK Try.prog prO noL 100 53 [] [.agg [.int .i64 h, .int .u64 l]] [] k =
  br (inI (IntKind.i64.wrap l))
    (br (decide (wH (IntKind.i64.wrap l) = h) && (decide (wL (IntKind.i64.wrap l) = l) && true))
      (k (AV.tup [AV.int IntKind.i64 (IntKind.i64.wrap l), AV.bool true]) [])
      (k (AV.tup [AV.int IntKind.i64 (0 : Int), AV.bool false]) []))
    (False) := by kernel_rfl

theorem num_ok : SpecOk Try.prog 53 numF.f := specOk_comes fun args s v s' tch e => by
  simp only [numF] at e
  split at e
  · rename_i h l
    obtain ⟨hg, rfl, rfl, rfl⟩ := run_ok e
    refine comes_of ok prO_ok (L := 100) (ms := []) (by kernel_rfl) loops_none ?_
    rw [num_body]
    refine br_t (inI_wrap _) ?_
    rw [num_law hg]
    refine br_mk (fun h1 => ⟨?_, rfl⟩) (fun h1 => ⟨?_, rfl⟩)
    · rw [num_val hg h1, numOf, if_pos h1, h1]
    · rw [numOf, if_neg (by rw [h1]; simp), h1]
  · cases e
end Go.Proofs.Ytcbojoeijpeadaa.W
