/- Walks: columns. -/
import Derived.Test.YtkfdfenaaidkkaaCol
import Derived.Test.YtkfdfenaaidkkaaPvT
import Derived.Test.YtkfdfenaaidkkaaSyMap
import Derived.KernelRfl
set_option linter.unusedSimpArgs false
set_option linter.unusedVariables false
set_option maxRecDepth 100000
namespace Go.Proofs.Ytkfdfenaaidkkaa
open Go Go.Sy
attribute [local irreducible] bodyK roundK
def prCM : FuncId → Option Sy.Spec := addP 48 mayF noP
theorem cmayN_body (a b : Int) (c : List UInt8) (K : AV → St → Prop) : bodyK Try.prog prCM noL 100 40 [] [.ptr none, .agg [.int .i64 a, .int .i64 b, .str c]] [] K =
  K (AV.bool false) [] := by kernel_rfl
theorem cmay0_body (a b : Int) (c : List UInt8) (k : Int) (q : Bool) (z : Nat) (vl : List D) (u : Int) (K : AV → St → Prop) : bodyK Try.prog prCM noL 100 40 [] [.ptr (some (0, 0)), .agg [.int .i64 a, .int .i64 b, .str c]] (c0S k q z vl u) K =
  br (decide (a = (0 : Int)))
    (br (decide (c.length < (1000 : Nat)))
      (K (AV.bool (mayV a b c)) [Ent.cells [AV.int IntKind.i64 k, AV.tsl q (shV) (1 : Nat) (0 : Nat) z Cap.tight, AV.ptr none, AV.int IntKind.i64 u], Ent.tbl false (shV) vl])
      (False))
    (br (decide (a = k))
      (br (decide (c.length < (1000 : Nat)))
        (K (AV.bool (mayV a b c)) [Ent.cells [AV.int IntKind.i64 k, AV.tsl q (shV) (1 : Nat) (0 : Nat) z Cap.tight, AV.ptr none, AV.int IntKind.i64 u], Ent.tbl false (shV) vl])
        (False))
      (K (AV.bool false) [Ent.cells [AV.int IntKind.i64 k, AV.tsl q (shV) (1 : Nat) (0 : Nat) z Cap.tight, AV.ptr none, AV.int IntKind.i64 u], Ent.tbl false (shV) vl])) := by kernel_rfl
theorem cmay1_body (a b : Int) (c : List UInt8) (k : Int) (q : Bool) (z : Nat) (vl : List D) (u : Int) (nn : Bool) (n : Nat) (l : List D) (K : AV → St → Prop) : bodyK Try.prog prCM noL 100 40 [] [.ptr (some (0, 0)), .agg [.int .i64 a, .int .i64 b, .str c]] (c1S 43 k q z vl u nn n l) K =
  br (decide (a = (0 : Int)))
    (br (decide (c.length < (1000 : Nat)))
      (K (AV.bool (mayV a b c)) [Ent.cells [AV.int IntKind.i64 k, AV.tsl q (shV) (1 : Nat) (0 : Nat) z Cap.tight, AV.ptr (some ((2 : Nat), (0 : Nat))), AV.int IntKind.i64 u], Ent.tbl false (shV) vl, Ent.cells [AV.fn (Fn.func (43 : Nat)) [] [], AV.tsl nn (Sh.struct [Sh.str, Sh.int IntKind.i64]) (3 : Nat) (0 : Nat) n Cap.tight], Ent.tbl false (Sh.struct [Sh.str, Sh.int IntKind.i64]) l])
      (False))
    (br (decide (a = k))
      (br (decide (c.length < (1000 : Nat)))
        (K (AV.bool (mayV a b c)) [Ent.cells [AV.int IntKind.i64 k, AV.tsl q (shV) (1 : Nat) (0 : Nat) z Cap.tight, AV.ptr (some ((2 : Nat), (0 : Nat))), AV.int IntKind.i64 u], Ent.tbl false (shV) vl, Ent.cells [AV.fn (Fn.func (43 : Nat)) [] [], AV.tsl nn (Sh.struct [Sh.str, Sh.int IntKind.i64]) (3 : Nat) (0 : Nat) n Cap.tight], Ent.tbl false (Sh.struct [Sh.str, Sh.int IntKind.i64]) l])
        (False))
      (K (AV.bool false) [Ent.cells [AV.int IntKind.i64 k, AV.tsl q (shV) (1 : Nat) (0 : Nat) z Cap.tight, AV.ptr (some ((2 : Nat), (0 : Nat))), AV.int IntKind.i64 u], Ent.tbl false (shV) vl, Ent.cells [AV.fn (Fn.func (43 : Nat)) [] [], AV.tsl nn (Sh.struct [Sh.str, Sh.int IntKind.i64]) (3 : Nat) (0 : Nat) n Cap.tight], Ent.tbl false (Sh.struct [Sh.str, Sh.int IntKind.i64]) l])) := by kernel_rfl
theorem prCM_ok : PrOk Try.prog prCM := prOk_add pmay_ok prOk_none
theorem cmay_ok : SpecOk Try.prog 40 (mayCF 43).f := specOk_comes fun args s v s' tch e => by
  simp only [mayCF] at e
  split at e
  · obtain ⟨hg, rfl, rfl, rfl⟩ := run_ok e
    refine comes_of ok prCM_ok (L := 100) (ms := []) (by kernel_rfl) loops_none ?_
    refine Eq.mpr (cmayN_body ..) ?_
    exact ⟨rfl, rfl⟩
  · rename_i a b c k q e1 z u e2 vl
    obtain ⟨hg, rfl, rfl, rfl⟩ := run_ok (g := _) e
    simp only [okC_iff, Bool.and_eq_true, decide_eq_true_eq] at hg
    obtain ⟨⟨rfl, rfl, hz, hzn⟩, hc⟩ := hg
    refine comes_of ok prCM_ok (L := 100) (ms := []) (by kernel_rfl) loops_none ?_
    refine Eq.mpr (cmay0_body ..) ?_
    by_cases g0 : a = 0
    · subst g0
      exact br_t rfl (br_t (decide_eq_true hc) ⟨by simp [mayC], rfl⟩)
    · refine br_iff.2 ⟨fun h => absurd h g0, fun _ => br_iff.2 ⟨fun h => br_t (decide_eq_true hc) ⟨by simp [mayC, h], rfl⟩, fun h => ⟨by simp [mayC, g0, h], rfl⟩⟩⟩
  · rename_i a b c k q e1 z u e2 vl g nn e0 n sh l
    obtain ⟨hg, rfl, rfl, rfl⟩ := run_ok (g := _) e
    simp only [Bool.and_eq_true, okM_iff, okC_iff, decide_eq_true_eq] at hg
    obtain ⟨⟨⟨rfl, rfl, hz, hzn⟩, h1, rfl, rfl, hl, hn⟩, hc⟩ := hg
    have h1 := Nat.eq_of_beq_eq_true h1
    subst h1
    refine comes_of ok prCM_ok (L := 100) (ms := []) (by kernel_rfl) loops_none ?_
    refine Eq.mpr (cmay1_body ..) ?_
    by_cases g0 : a = 0
    · subst g0
      exact br_t rfl (br_t (decide_eq_true hc) ⟨by simp [mayC], rfl⟩)
    · refine br_iff.2 ⟨fun h => absurd h g0, fun _ => br_iff.2 ⟨fun h => br_t (decide_eq_true hc) ⟨by simp [mayC, h], rfl⟩, fun h => ⟨by simp [mayC, g0, h], rfl⟩⟩⟩
  · cases e
def prCD : FuncId → Option Sy.Spec := addP 12 (addCM 43) (addP 13 (takeCM 43) (addP 15 (lenCF 43) (addP 40 (mayCF 43) noP)))
theorem prCD_ok : PrOk Try.prog prCD := prOk_add (addCM_ok cadd_ok) (prOk_add (takeCM_ok ctake_ok) (prOk_add clen_ok (prOk_add cmay_ok prOk_none)))
noncomputable def newCF : Sy.Spec := mapF (mNil 0 1 shV) (selfF Try.prog noP 100 21)
theorem cnew_ok : SpecOk Try.prog 21 newCF.f := mapF_ok (mNil_ok _ _ _) (self_ok ok prOk_none (by kernel_rfl))
noncomputable def prCN : FuncId → Option Sy.Spec := addP 21 newCF prCD
theorem prCN_ok : PrOk Try.prog prCN := prOk_add cnew_ok prCD_ok
def fsC : List FuncId := [41, 24, 25, 28, 26, 29, 30]
noncomputable def prCE : FuncId → Option Sy.Spec := selfs Try.prog 100 fsC prCN
theorem prCE_ok : PrOk Try.prog prCE := selfs_ok ok fsC prCN prCN_ok (by kernel_rfl)
theorem cbeg_body (K : AV → St → Prop) : bodyK Try.prog prCE noL 100 20 [] [] [] K =
  K (AV.bool true) [] := by kernel_rfl
theorem cbeg_ok : SpecOk Try.prog 20 trueF0.f := specOk_comes fun args s v s' tch e => by
  simp only [trueF0] at e
  split at e
  · obtain ⟨hg, rfl, rfl, rfl⟩ := run_ok e
    refine comes_of ok prCE_ok (L := 100) (ms := []) (by kernel_rfl) loops_none ?_
    rw [cbeg_body]
    exact ⟨rfl, rfl⟩
  · cases e
noncomputable def prCG : FuncId → Option Sy.Spec := addP 20 trueF0 prCE
theorem prCG_ok : PrOk Try.prog prCG := prOk_add cbeg_ok prCE_ok
theorem cnone_body (K : AV → St → Prop) : bodyK Try.prog prCG noL 100 8 [] [] [] K =
  K (AV.bool true) [] := by kernel_rfl
theorem columnNone_comes : Sy.Comes Try.prog 8 [] [] (.bool true) [] := by
  refine comes_of ok prCG_ok (L := 100) (ms := []) (by kernel_rfl) loops_none ?_
  rw [cnone_body]
  exact ⟨rfl, rfl⟩
end Go.Proofs.Ytkfdfenaaidkkaa
