/- Walks: great numbers. -/
import Derived.Test.YtgmddliidplooabPvE
import Derived.Test.YtgmddliidplooabProg
import Derived.KernelRfl
set_option linter.unusedSimpArgs false
set_option linter.unusedVariables false
set_option maxRecDepth 100000
namespace Go.Proofs.Ytgmddliidplooab.W
open Go Go.Sy
attribute [local irreducible] bodyK roundK
theorem d1 : Try.prog.follows .mixedOrders = true := by kernel_rfl
theorem d2 : namesOkA Try.prog = true := by kernel_rfl
theorem d3 : drawsAllA Try.prog = true := by kernel_rfl
theorem d4 : extsOkA Try.prog = true := by kernel_rfl
theorem ok : ProgOk Try.prog := progOk_of d1 d2 d3 d4

theorem of_body (n : Int) (k : AV → St → Prop) : bodyK Try.prog noP noL 100 8 [] [.int .i64 n] [] k =
  k (AV.agg [AV.int IntKind.i64 (n.fdiv (9223372036854775808 : Int)), AV.int IntKind.u64 (IntKind.u64.wrap n)]) [] := by kernel_rfl
theorem of_ok : SpecOk Try.prog 8 ofF.f := specOk_comes fun args s v s' tch e => by
  simp only [ofF] at e
  split at e
  · obtain ⟨hg, rfl, rfl, rfl⟩ := run_ok e
    refine comes_of ok prOk_none (L := 100) (ms := []) (by kernel_rfl) loops_none ?_
    rw [of_body]
    exact ⟨by rw [of_hi hg, of_lo hg]; rfl, rfl⟩
  · cases e
theorem add_body (h l h' l' : Int) (k : AV → St → Prop) : bodyK Try.prog noP noL 100 14 [] [.agg [.int .i64 h, .int .u64 l], .agg [.int .i64 h', .int .u64 l']] [] k =
  br (decide ((0 : Int) ≤ (↑((l.toNat + l'.toNat + Int.toNat (0 : Int)) / (18446744073709551616 : Nat)) : Int)) && decide ((↑((l.toNat + l'.toNat + Int.toNat (0 : Int)) / (18446744073709551616 : Nat)) : Int) ≤ (1 : Int)))
    (k (AV.agg [AV.int IntKind.i64 (IntKind.i64.wrap (↑(((IntKind.u64.wrap h).toNat + (IntKind.u64.wrap h').toNat + (↑((l.toNat + l'.toNat + (0 : Nat)) / (18446744073709551616 : Nat)) : Int).toNat) % (18446744073709551616 : Nat)) : Int)), AV.int IntKind.u64 (↑((l.toNat + l'.toNat + (0 : Nat)) % (18446744073709551616 : Nat)) : Int)]) [])
    (False) := by kernel_rfl
theorem add_ok : SpecOk Try.prog 14 addF.f := specOk_comes fun args s v s' tch e => by
  simp only [addF] at e
  split at e
  · obtain ⟨hg, rfl, rfl, rfl⟩ := run_ok e
    simp only [Bool.and_eq_true] at hg
    refine comes_of ok prOk_none (L := 100) (ms := []) (by kernel_rfl) loops_none ?_
    rw [add_body]
    have g1 := inW_iff.1 hg.1
    have g2 := inW_iff.1 hg.2
    refine br_t (by simp only [Bool.and_eq_true, decide_eq_true_eq]; omega) ⟨?_, rfl⟩
    exact avW_congr (add_hi hg.1 hg.2) (add_lo hg.1 hg.2)
  · cases e
theorem neg_body (h l : Int) (k : AV → St → Prop) : bodyK Try.prog noP noL 100 15 [] [.agg [.int .i64 h, .int .u64 l]] [] k =
  br (decide ((0 : Int) ≤ bif (Int.toNat (0 : Int)).blt (l.toNat + Int.toNat (0 : Int)) then (1 : Int) else (0 : Int)) && decide ((bif (Int.toNat (0 : Int)).blt (l.toNat + Int.toNat (0 : Int)) then (1 : Int) else (0 : Int)) ≤ (1 : Int)))
    (k (AV.agg [AV.int IntKind.i64 (IntKind.i64.wrap (↑(((18446744073709551616 : Nat) - (IntKind.u64.wrap h).toNat - (bif Nat.blt (0 : Nat) (l.toNat + (0 : Nat)) then (1 : Int) else (0 : Int)).toNat) % (18446744073709551616 : Nat)) : Int)), AV.int IntKind.u64 (↑(((18446744073709551616 : Nat) - l.toNat - (0 : Nat)) % (18446744073709551616 : Nat)) : Int)]) [])
    (False) := by kernel_rfl
theorem neg_ok : SpecOk Try.prog 15 negF.f := specOk_comes fun args s v s' tch e => by
  simp only [negF] at e
  split at e
  · obtain ⟨hg, rfl, rfl, rfl⟩ := run_ok e
    refine comes_of ok prOk_none (L := 100) (ms := []) (by kernel_rfl) loops_none ?_
    rw [neg_body]
    refine br_t (by cases Nat.blt (Int.toNat 0) _ <;> rfl) ⟨?_, rfl⟩
    exact avW_congr (neg_hi hg) (neg_lo hg)
  · cases e
theorem mul_body (x y : Int) (k : AV → St → Prop) : bodyK Try.prog noP noL 100 19 [] [.int .u64 x, .int .u64 y] [] k =
  k (AV.tup [AV.int IntKind.u64 (IntKind.u64.wrap (IntKind.u64.wrap (IntKind.u64.wrap (x.fdiv (4294967296 : Int) * y.fdiv (4294967296 : Int)) + (IntKind.u64.wrap (IntKind.u64.wrap (x.fdiv (4294967296 : Int) * IntKind.u64.wrap (↑(BitVec.ofInt (64 : Nat) y &&& BitVec.ofInt (64 : Nat) (4294967295 : Int)).toNat : Int)) + (IntKind.u64.wrap (IntKind.u64.wrap (↑(BitVec.ofInt (64 : Nat) x &&& BitVec.ofInt (64 : Nat) (4294967295 : Int)).toNat : Int) * IntKind.u64.wrap (↑(BitVec.ofInt (64 : Nat) y &&& BitVec.ofInt (64 : Nat) (4294967295 : Int)).toNat : Int))).fdiv (4294967296 : Int))).fdiv (4294967296 : Int)) + (IntKind.u64.wrap (IntKind.u64.wrap (↑(BitVec.ofInt (64 : Nat) (IntKind.u64.wrap (IntKind.u64.wrap (x.fdiv (4294967296 : Int) * IntKind.u64.wrap (↑(BitVec.ofInt (64 : Nat) y &&& BitVec.ofInt (64 : Nat) (4294967295 : Int)).toNat : Int)) + (IntKind.u64.wrap (IntKind.u64.wrap (↑(BitVec.ofInt (64 : Nat) x &&& BitVec.ofInt (64 : Nat) (4294967295 : Int)).toNat : Int) * IntKind.u64.wrap (↑(BitVec.ofInt (64 : Nat) y &&& BitVec.ofInt (64 : Nat) (4294967295 : Int)).toNat : Int))).fdiv (4294967296 : Int))) &&& BitVec.ofInt (64 : Nat) (4294967295 : Int)).toNat : Int) + IntKind.u64.wrap (IntKind.u64.wrap (↑(BitVec.ofInt (64 : Nat) x &&& BitVec.ofInt (64 : Nat) (4294967295 : Int)).toNat : Int) * y.fdiv (4294967296 : Int)))).fdiv (4294967296 : Int))), AV.int IntKind.u64 (IntKind.u64.wrap (x * y))]) [] := by kernel_rfl
theorem mul_ok : SpecOk Try.prog 19 mulF.f := specOk_comes fun args s v s' tch e => by
  simp only [mulF] at e
  split at e
  · obtain ⟨hg, rfl, rfl, rfl⟩ := run_ok e
    simp only [Bool.and_eq_true] at hg
    refine comes_of ok prOk_none (L := 100) (ms := []) (by kernel_rfl) loops_none ?_
    rw [mul_body]
    refine ⟨?_, rfl⟩
    rw [mul_hi _ _ hg.1 hg.2, mul_lo]
  · cases e
def prT : FuncId → Option Sy.Spec := addP 19 mulF (addP 8 ofF noP)
theorem prT_ok : PrOk Try.prog prT := prOk_add mul_ok (prOk_add of_ok prOk_none)
theorem times_body (h l n : Int) (k : AV → St → Prop) : bodyK Try.prog prT noL 100 9 [] [.agg [.int .i64 h, .int .u64 l], .int .i64 n] [] k =
  br (inI n)
    (br (inU l && inU (wL n))
      (k (AV.agg [AV.int IntKind.i64 (IntKind.i64.wrap (IntKind.u64.wrap (l * wL n / (18446744073709551616 : Int) + IntKind.u64.wrap (IntKind.u64.wrap (IntKind.u64.wrap h * wL n) + IntKind.u64.wrap (l * IntKind.u64.wrap (wH n)))))), AV.int IntKind.u64 (l * wL n % (18446744073709551616 : Int))]) [])
      (False))
    (False) := by kernel_rfl
theorem times_ok : SpecOk Try.prog 9 timesF.f := specOk_comes fun args s v s' tch e => by
  simp only [timesF] at e
  split at e
  · rename_i h l n
    obtain ⟨hg, rfl, rfl, rfl⟩ := run_ok e
    simp only [Bool.and_eq_true] at hg
    refine comes_of ok prT_ok (L := 100) (ms := []) (by kernel_rfl) loops_none ?_
    rw [times_body]
    have g1 := inW_iff.1 hg.1
    have g2 := inW_iff.1 (inW_HL n)
    refine br_t hg.2 (br_t (by simp only [Bool.and_eq_true, inU_iff]; exact ⟨g1.2, g2.2⟩) ⟨?_, rfl⟩)
    obtain ⟨k1, k2⟩ := times_law hg.1 hg.2
    exact avW_congr k1 k2
  · cases e
def prO : FuncId → Option Sy.Spec := addP 8 ofF noP
theorem prO_ok : PrOk Try.prog prO := prOk_add of_ok prOk_none
theorem num_body (h l : Int) (k : AV → St → Prop) : bodyK Try.prog prO noL 100 18 [] [.agg [.int .i64 h, .int .u64 l]] [] k =
  br (inI (IntKind.i64.wrap l))
    (br (decide (wH (IntKind.i64.wrap l) = h) && (decide (wL (IntKind.i64.wrap l) = l) && true))
      (k (AV.tup [AV.int IntKind.i64 (IntKind.i64.wrap l), AV.bool true]) [])
      (k (AV.tup [AV.int IntKind.i64 (0 : Int), AV.bool false]) []))
    (False) := by kernel_rfl
theorem parts_body (h l : Int) (k : AV → St → Prop) : bodyK Try.prog noP noL 100 17 [] [.agg [.int .i64 h, .int .u64 l]] [] k =
  k (AV.tup [AV.int IntKind.i64 h, AV.int IntKind.u64 l]) [] := by kernel_rfl
theorem parts_ok : SpecOk Try.prog 17 partsF.f := specOk_comes fun args s v s' tch e => by
  simp only [partsF] at e
  split at e
  · obtain ⟨hg, rfl, rfl, rfl⟩ := run_ok e
    refine comes_of ok prOk_none (L := 100) (ms := []) (by kernel_rfl) loops_none ?_
    rw [parts_body]
    exact ⟨rfl, rfl⟩
  · cases e
theorem num_ok : SpecOk Try.prog 18 numF.f := specOk_comes fun args s v s' tch e => by
  simp only [numF] at e
  split at e
  · rename_i h l
    obtain ⟨hg, rfl, rfl, rfl⟩ := run_ok e
    refine comes_of ok prO_ok (L := 100) (ms := []) (by kernel_rfl) loops_none ?_
    rw [num_body]
    refine br_t (inI_wrap _) ?_
    rw [num_law hg]
    refine br_mk (fun h1 => ⟨?_, rfl⟩) (fun h1 => ⟨?_, rfl⟩)
    · rw [num_val hg h1, numOf, if_pos h1, h1]
    · rw [numOf, if_neg (by rw [h1]; simp), h1]
  · cases e
theorem or_body (a b : D) (nn : Bool) (k : AV → St → Prop) : bodyK Try.prog noP noL 100 23 [] [.fz nn (.int .i64) [a, b]] [] k =
  br (!decide (([a, b].getD (Int.toNat (0 : Int)) D.nul).asInt = (0 : Int)))
    (k (AV.int IntKind.i64 ([a, b].getD (0 : Nat) D.nul).asInt) [])
    (br (!decide (([a, b].getD (IntKind.i64.wrap ((0 : Int) + (1 : Int))).toNat D.nul).asInt = (0 : Int)))
      (k (AV.int IntKind.i64 ([a, b].getD (1 : Nat) D.nul).asInt) [])
      (k (AV.int IntKind.i64 (0 : Int)) [])) := by kernel_rfl
theorem or_ok : SpecOk Try.prog 23 orF.f := specOk_comes fun args s v s' tch e => by
  simp only [orF] at e
  split at e
  · rename_i nn a b
    obtain ⟨hg, rfl, rfl, rfl⟩ := run_ok e
    refine comes_of ok prOk_none (L := 100) (ms := []) (by kernel_rfl) loops_none ?_
    rw [or_body]
    refine br_mk (fun h => ⟨?_, rfl⟩) (fun h => br_mk (fun h' => ⟨?_, rfl⟩) (fun h' => ⟨?_, rfl⟩))
    · have h : ¬ a.asInt = 0 := by simpa using h
      rw [if_neg h]; rfl
    · have h : a.asInt = 0 := by simpa using h
      rw [if_pos h]; rfl
    · have h : a.asInt = 0 := by simpa using h
      have h' : b.asInt = 0 := by
        have : ([a, b].getD (IntKind.i64.wrap (0 + 1)).toNat D.nul).asInt = b.asInt := rfl
        rw [this] at h'
        simpa using h'
      rw [if_pos h, h']
  · cases e
theorem nani_body (a : Int) (k : AV → St → Prop) : bodyK Try.prog noP noL 100 29 [] [.int .i64 a] [] k =
  k (AV.bool !decide (a = a)) [] := by kernel_rfl
theorem nanu_body (a : Int) (k : AV → St → Prop) : bodyK Try.prog noP noL 100 30 [] [.int .u64 a] [] k =
  k (AV.bool !decide (a = a)) [] := by kernel_rfl
def naniF : Sy.Spec := ⟨[], fun args s => match args, s with
  | [.int .i64 a], [] => .ok true (.bool false) [] []
  | _, _ => .fail⟩
def nanuF : Sy.Spec := ⟨[], fun args s => match args, s with
  | [.int .u64 a], [] => .ok true (.bool false) [] []
  | _, _ => .fail⟩
theorem nani_ok : SpecOk Try.prog 29 naniF.f := specOk_comes fun args s v s' tch e => by
  simp only [naniF] at e
  split at e
  · obtain ⟨hg, rfl, rfl, rfl⟩ := run_ok e
    refine comes_of ok prOk_none (L := 100) (ms := []) (by kernel_rfl) loops_none ?_
    rw [nani_body]
    exact ⟨by simp, rfl⟩
  · cases e
theorem nanu_ok : SpecOk Try.prog 30 nanuF.f := specOk_comes fun args s v s' tch e => by
  simp only [nanuF] at e
  split at e
  · obtain ⟨hg, rfl, rfl, rfl⟩ := run_ok e
    refine comes_of ok prOk_none (L := 100) (ms := []) (by kernel_rfl) loops_none ?_
    rw [nanu_body]
    exact ⟨by simp, rfl⟩
  · cases e
def prN : FuncId → Option Sy.Spec := addP 29 naniF (addP 30 nanuF noP)
theorem prN_ok : PrOk Try.prog prN := prOk_add nani_ok (prOk_add nanu_ok prOk_none)
theorem cmpi_body (a b : Int) (k : AV → St → Prop) : bodyK Try.prog prN noL 100 24 [] [.int .i64 a, .int .i64 b] [] k =
  br (decide (a < b))
    (k (AV.int IntKind.i64 (-1 : Int)) [])
    (br (decide (a > b))
      (k (AV.int IntKind.i64 (1 : Int)) [])
      (k (AV.int IntKind.i64 (0 : Int)) [])) := by kernel_rfl
theorem cmpu_body (a b : Int) (k : AV → St → Prop) : bodyK Try.prog prN noL 100 25 [] [.int .u64 a, .int .u64 b] [] k =
  br (decide (a < b))
    (k (AV.int IntKind.i64 (-1 : Int)) [])
    (br (decide (a > b))
      (k (AV.int IntKind.i64 (1 : Int)) [])
      (k (AV.int IntKind.i64 (0 : Int)) [])) := by kernel_rfl
theorem cmpi_ok : SpecOk Try.prog 24 sgnF.f := specOk_comes fun args s v s' tch e => by
  simp only [sgnF] at e
  split at e
  · obtain ⟨hg, rfl, rfl, rfl⟩ := run_ok e
    refine comes_of ok prN_ok (L := 100) (ms := []) (by kernel_rfl) loops_none ?_
    rw [cmpi_body]
    refine br_iff.2 ⟨fun h => ⟨by rw [sgn_lt h], rfl⟩, fun h => br_iff.2 ⟨fun h' => ⟨by rw [sgn_gt h'], rfl⟩, fun h' => ⟨by rw [sgn_eq (by omega)], rfl⟩⟩⟩
  · cases e
theorem cmpu_ok : SpecOk Try.prog 25 sgnuF.f := specOk_comes fun args s v s' tch e => by
  simp only [sgnuF] at e
  split at e
  · obtain ⟨hg, rfl, rfl, rfl⟩ := run_ok e
    refine comes_of ok prN_ok (L := 100) (ms := []) (by kernel_rfl) loops_none ?_
    rw [cmpu_body]
    refine br_iff.2 ⟨fun h => ⟨by rw [sgn_lt h], rfl⟩, fun h => br_iff.2 ⟨fun h' => ⟨by rw [sgn_gt h'], rfl⟩, fun h' => ⟨by rw [sgn_eq (by omega)], rfl⟩⟩⟩
  · cases e
def prC : FuncId → Option Sy.Spec := addP 24 sgnF (addP 25 sgnuF (addP 23 orF noP))
theorem prC_ok : PrOk Try.prog prC := prOk_add cmpi_ok (prOk_add cmpu_ok (prOk_add or_ok prOk_none))
theorem wcmp_body (h l h' l' : Int) (k : AV → St → Prop) : bodyK Try.prog prC noL 100 13 [] [.agg [.int .i64 h, .int .u64 l], .agg [.int .i64 h', .int .u64 l']] [] k =
  k (AV.int IntKind.i64 (if (D.int (sgn h h')).asInt = (0 : Int) then sgn l l' else sgn h h')) [] := by kernel_rfl
theorem wcmp_ok : SpecOk Try.prog 13 wcmpF.f := specOk_comes fun args s v s' tch e => by
  simp only [wcmpF] at e
  split at e
  · obtain ⟨hg, rfl, rfl, rfl⟩ := run_ok e
    simp only [Bool.and_eq_true] at hg
    refine comes_of ok prC_ok (L := 100) (ms := []) (by kernel_rfl) loops_none ?_
    rw [wcmp_body]
    refine ⟨?_, rfl⟩
    rw [← sgn_law hg.1 hg.2]
    rfl
  · cases e
theorem div0_body (l y : Int) (k : AV → St → Prop) : bodyK Try.prog noP (addL 0 noF (addL 2 noF noL)) 100 28 [] [.int .u64 0, .int .u64 l, .int .u64 y] [] k =
  br (decide (y = (0 : Int)))
    (False)
    (br (decide (y ≤ (0 : Int)))
      (False)
      (br (!decide (y = (0 : Int)))
        (br (!decide (y = (0 : Int)))
          (k (AV.tup [AV.int IntKind.u64 (IntKind.u64.wrap (l.tdiv y)), AV.int IntKind.u64 (l.tmod y)]) [])
          (False))
        (False))) := by kernel_rfl
theorem div0_ok : SpecOk Try.prog 28 div0F.f := specOk_comes fun args s v s' tch e => by
  simp only [div0F] at e
  split at e
  · rename_i h l y
    obtain ⟨hg, rfl, rfl, rfl⟩ := run_ok e
    simp only [Bool.and_eq_true, decide_eq_true_eq, inU_iff] at hg
    obtain ⟨rfl, hl, hy, hy0⟩ := hg
    refine comes_of ok prOk_none (L := 100) (ms := []) (by kernel_rfl) (loops_false (id := 0) (loops_false (id := 2) loops_none)) ?_
    rw [div0_body]
    refine br_iff.2 ⟨fun h => by omega, fun h => br_iff.2 ⟨fun h => by omega, fun h => br_t (by simp; omega) (br_t (by simp; omega) ⟨?_, rfl⟩)⟩⟩
    rw [Int.tdiv_eq_ediv_of_nonneg hl.1, Int.tmod_eq_emod_of_nonneg hl.1, IntKind.wrap_u64, Int.emod_eq_of_lt (Int.ediv_nonneg hl.1 hy.1) (by have := Int.ediv_le_self y hl.1; omega)]
  · cases e
def prQ : FuncId → Option Sy.Spec := addP 15 negF (addP 28 div0F (addP 18 numF noP))
theorem prQ_ok : PrOk Try.prog prQ := prOk_add neg_ok (prOk_add div0_ok (prOk_add num_ok prOk_none))
theorem quo_body (h l n : Int) (k : AV → St → Prop) : bodyK Try.prog prQ noL 100 16 [] [.agg [.int .i64 h, .int .u64 l], .int .i64 n] [] k =
  br (decide (n < (1 : Int)))
    (k (AV.tup [AV.int IntKind.i64 (0 : Int), AV.bool false]) [])
    (br (decide (h < (0 : Int)))
      (br (inW h l)
        (br (decide (IntKind.u64.wrap (wH (-wV h l)) ≥ IntKind.u64.wrap n))
          (k (AV.tup [AV.int IntKind.i64 (0 : Int), AV.bool false]) [])
          (br (decide (IntKind.u64.wrap (wH (-wV h l)) = (0 : Int)) && (inU (wL (-wV h l)) && (inU (IntKind.u64.wrap n) && decide ((0 : Int) < IntKind.u64.wrap n))))
            (br (decide (h < (0 : Int)))
              (br (inW (0 : Int) (wL (-wV h l) / IntKind.u64.wrap n))
                (br (inW (wH (-wV (0 : Int) (wL (-wV h l) / IntKind.u64.wrap n))) (wL (-wV (0 : Int) (wL (-wV h l) / IntKind.u64.wrap n))))
                  (k (AV.tup [AV.int IntKind.i64 (numOf (wV (wH (-wV (0 : Int) (wL (-wV h l) / IntKind.u64.wrap n))) (wL (-wV (0 : Int) (wL (-wV h l) / IntKind.u64.wrap n))))), AV.bool (inI (wV (wH (-wV (0 : Int) (wL (-wV h l) / IntKind.u64.wrap n))) (wL (-wV (0 : Int) (wL (-wV h l) / IntKind.u64.wrap n)))))]) [])
                  (False))
                (False))
              (br (inW (0 : Int) (wL (-wV h l) / IntKind.u64.wrap n))
                (k (AV.tup [AV.int IntKind.i64 (numOf (wV (0 : Int) (wL (-wV h l) / IntKind.u64.wrap n))), AV.bool (inI (wV (0 : Int) (wL (-wV h l) / IntKind.u64.wrap n)))]) [])
                (False)))
            (False)))
        (False))
      (br (decide (IntKind.u64.wrap h ≥ IntKind.u64.wrap n))
        (k (AV.tup [AV.int IntKind.i64 (0 : Int), AV.bool false]) [])
        (br (decide (IntKind.u64.wrap h = (0 : Int)) && (inU l && (inU (IntKind.u64.wrap n) && decide ((0 : Int) < IntKind.u64.wrap n))))
          (br (decide (h < (0 : Int)))
            (br (inW (0 : Int) (l / IntKind.u64.wrap n))
              (br (inW (wH (-wV (0 : Int) (l / IntKind.u64.wrap n))) (wL (-wV (0 : Int) (l / IntKind.u64.wrap n))))
                (k (AV.tup [AV.int IntKind.i64 (numOf (wV (wH (-wV (0 : Int) (l / IntKind.u64.wrap n))) (wL (-wV (0 : Int) (l / IntKind.u64.wrap n))))), AV.bool (inI (wV (wH (-wV (0 : Int) (l / IntKind.u64.wrap n))) (wL (-wV (0 : Int) (l / IntKind.u64.wrap n)))))]) [])
                (False))
              (False))
            (br (inW (0 : Int) (l / IntKind.u64.wrap n))
              (k (AV.tup [AV.int IntKind.i64 (numOf (wV (0 : Int) (l / IntKind.u64.wrap n))), AV.bool (inI (wV (0 : Int) (l / IntKind.u64.wrap n)))]) [])
              (False)))
          (False)))) := by kernel_rfl
end Go.Proofs.Ytgmddliidplooab.W
