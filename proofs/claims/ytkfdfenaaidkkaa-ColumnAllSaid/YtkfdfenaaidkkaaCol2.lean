/- Walks: columns. -/
import Derived.Test.YtkfdfenaaidkkaaCol
import Derived.Test.YtkfdfenaaidkkaaPvT
import Derived.Test.YtkfdfenaaidkkaaSyMap
import Derived.KernelRfl
set_option linter.unusedSimpArgs false
set_option linter.unusedVariables false
set_option maxRecDepth 100000
namespace Go.Proofs.Ytkfdfenaaidkkaa
open Go Go.Sy
attribute [local irreducible] bodyK roundK
def prCM : FuncId → Option Sy.Spec := addP 48 mayF noP
theorem cmayN_body (a b : Int) (c : List UInt8) (K : AV → St → Prop) : bodyK Try.prog prCM noL 100 40 [] [.ptr none, .agg [.int .i64 a, .int .i64 b, .str c]] [] K =
  K (AV.bool false) [] := by kernel_rfl
theorem cmay0_body (a b : Int) (c : List UInt8) (k : Int) (q : Bool) (z : Nat) (vl : List D) (u : Int) (K : AV → St → Prop) : bodyK Try.prog prCM noL 100 40 [] [.ptr (some (0, 0)), .agg [.int .i64 a, .int .i64 b, .str c]] (c0S k q z vl u) K =
  br (decide (a = (0 : Int)))
    (br (decide (c.length < (1000 : Nat)))
      (K (AV.bool (mayV a b c)) [Ent.cells [AV.int IntKind.i64 k, AV.tsl q (shV) (1 : Nat) (0 : Nat) z Cap.tight, AV.ptr none, AV.int IntKind.i64 u], Ent.tbl false (shV) vl])
      (False))
    (br (decide (a = k))
      (br (decide (c.length < (1000 : Nat)))
        (K (AV.bool (mayV a b c)) [Ent.cells [AV.int IntKind.i64 k, AV.tsl q (shV) (1 : Nat) (0 : Nat) z Cap.tight, AV.ptr none, AV.int IntKind.i64 u], Ent.tbl false (shV) vl])
        (False))
      (K (AV.bool false) [Ent.cells [AV.int IntKind.i64 k, AV.tsl q (shV) (1 : Nat) (0 : Nat) z Cap.tight, AV.ptr none, AV.int IntKind.i64 u], Ent.tbl false (shV) vl])) := by kernel_rfl
theorem cmay1_body (a b : Int) (c : List UInt8) (k : Int) (q : Bool) (z : Nat) (vl : List D) (u : Int) (nn : Bool) (n : Nat) (l : List D) (K : AV → St → Prop) : bodyK Try.prog prCM noL 100 40 [] [.ptr (some (0, 0)), .agg [.int .i64 a, .int .i64 b, .str c]] (c1S 43 k q z vl u nn n l) K =
  br (decide (a = (0 : Int)))
    (br (decide (c.length < (1000 : Nat)))
      (K (AV.bool (mayV a b c)) [Ent.cells [AV.int IntKind.i64 k, AV.tsl q (shV) (1 : Nat) (0 : Nat) z Cap.tight, AV.ptr (some ((2 : Nat), (0 : Nat))), AV.int IntKind.i64 u], Ent.tbl false (shV) vl, Ent.cells [AV.fn (Fn.func (43 : Nat)) [] [], AV.tsl nn (Sh.struct [Sh.str, Sh.int IntKind.i64]) (3 : Nat) (0 : Nat) n Cap.tight], Ent.tbl false (Sh.struct [Sh.str, Sh.int IntKind.i64]) l])
      (False))
    (br (decide (a = k))
      (br (decide (c.length < (1000 : Nat)))
        (K (AV.bool (mayV a b c)) [Ent.cells [AV.int IntKind.i64 k, AV.tsl q (shV) (1 : Nat) (0 : Nat) z Cap.tight, AV.ptr (some ((2 : Nat), (0 : Nat))), AV.int IntKind.i64 u], Ent.tbl false (shV) vl, Ent.cells [AV.fn (Fn.func (43 : Nat)) [] [], AV.tsl nn (Sh.struct [Sh.str, Sh.int IntKind.i64]) (3 : Nat) (0 : Nat) n Cap.tight], Ent.tbl false (Sh.struct [Sh.str, Sh.int IntKind.i64]) l])
        (False))
      (K (AV.bool false) [Ent.cells [AV.int IntKind.i64 k, AV.tsl q (shV) (1 : Nat) (0 : Nat) z Cap.tight, AV.ptr (some ((2 : Nat), (0 : Nat))), AV.int IntKind.i64 u], Ent.tbl false (shV) vl, Ent.cells [AV.fn (Fn.func (43 : Nat)) [] [], AV.tsl nn (Sh.struct [Sh.str, Sh.int IntKind.i64]) (3 : Nat) (0 : Nat) n Cap.tight], Ent.tbl false (Sh.struct [Sh.str, Sh.int IntKind.i64]) l])) := by kernel_rfl
theorem prCM_ok : PrOk Try.prog prCM := prOk_add pmay_ok prOk_none
theorem cmay_ok : SpecOk Try.prog 40 (mayCF 43).f := specOk_comes fun args s v s' tch e => by
  simp only [mayCF] at e
  split at e
  · obtain ⟨hg, rfl, rfl, rfl⟩ := run_ok e
    refine comes_of ok prCM_ok (L := 100) (ms := []) (by kernel_rfl) loops_none ?_
    refine Eq.mpr (cmayN_body ..) ?_
    exact ⟨rfl, rfl⟩
  · rename_i a b c k q e1 z u e2 vl
    obtain ⟨hg, rfl, rfl, rfl⟩ := run_ok (g := _) e
    simp only [okC_iff, Bool.and_eq_true, decide_eq_true_eq] at hg
    obtain ⟨⟨rfl, rfl, hz, hzn⟩, hc⟩ := hg
    refine comes_of ok prCM_ok (L := 100) (ms := []) (by kernel_rfl) loops_none ?_
    refine Eq.mpr (cmay0_body ..) ?_
    by_cases g0 : a = 0
    · subst g0
      exact br_t rfl (br_t (decide_eq_true hc) ⟨by simp [mayC], rfl⟩)
    · refine br_iff.2 ⟨fun h => absurd h g0, fun _ => br_iff.2 ⟨fun h => br_t (decide_eq_true hc) ⟨by simp [mayC, h], rfl⟩, fun h => ⟨by simp [mayC, g0, h], rfl⟩⟩⟩
  · rename_i a b c k q e1 z u e2 vl g nn e0 n sh l
    obtain ⟨hg, rfl, rfl, rfl⟩ := run_ok (g := _) e
    simp only [Bool.and_eq_true, okM_iff, okC_iff, decide_eq_true_eq] at hg
    obtain ⟨⟨⟨rfl, rfl, hz, hzn⟩, h1, rfl, rfl, hl, hn⟩, hc⟩ := hg
    have h1 := Nat.eq_of_beq_eq_true h1
    subst h1
    refine comes_of ok prCM_ok (L := 100) (ms := []) (by kernel_rfl) loops_none ?_
    refine Eq.mpr (cmay1_body ..) ?_
    by_cases g0 : a = 0
    · subst g0
      exact br_t rfl (br_t (decide_eq_true hc) ⟨by simp [mayC], rfl⟩)
    · refine br_iff.2 ⟨fun h => absurd h g0, fun _ => br_iff.2 ⟨fun h => br_t (decide_eq_true hc) ⟨by simp [mayC, h], rfl⟩, fun h => ⟨by simp [mayC, g0, h], rfl⟩⟩⟩
  · cases e
def prCD : FuncId → Option Sy.Spec := addP 12 (addCM 43) (addP 13 (takeCM 43) (addP 15 (lenCF 43) (addP 40 (mayCF 43) noP)))
theorem prCD_ok : PrOk Try.prog prCD := prOk_add (addCM_ok cadd_ok) (prOk_add (takeCM_ok ctake_ok) (prOk_add clen_ok (prOk_add cmay_ok prOk_none)))
noncomputable def newCF : Sy.Spec := mapF (mNil 0 1 shV) (selfF Try.prog noP 100 21)
theorem cnew_ok : SpecOk Try.prog 21 newCF.f := mapF_ok (mNil_ok _ _ _) (self_ok ok prOk_none (by kernel_rfl))
noncomputable def prCN : FuncId → Option Sy.Spec := addP 21 newCF prCD
theorem prCN_ok : PrOk Try.prog prCN := prOk_add cnew_ok prCD_ok
def countF_t0 (a b : Int) (c : List UInt8) (k : Int) (q : Bool) (z : Nat) (vl : List D) (u : Int) : RT :=
  RT.br (decide (a = (0 : Int)))
    (okL (AV.tup []) ([Ent.cells [AV.int IntKind.i64 k, AV.tsl q (shV) (1 : Nat) (0 : Nat) z Cap.tight, AV.ptr none, AV.int IntKind.i64 (IntKind.i64.wrap (u + (1 : Int)))], Ent.tbl false (shV) vl]))
    (RT.br (decide (a = (2 : Int)))
      (RT.br (okC (shV) (shV) vl z)
        (okL (AV.tup []) ([Ent.cells [AV.int IntKind.i64 k, AV.tsl q (shV) (1 : Nat) (0 : Nat) z Cap.tight, AV.ptr (some ((2 : Nat), (0 : Nat))), AV.int IntKind.i64 u], Ent.tbl false (shV) vl, Ent.cells [AV.fn (Fn.func (43 : Nat)) [] [], AV.tsl false (Sh.struct [Sh.str, Sh.int IntKind.i64]) (3 : Nat) (0 : Nat) (addW [] c).length Cap.tight], Ent.tbl false (Sh.struct [Sh.str, Sh.int IntKind.i64]) (addW [] c)]))
        (RT.fail))
      (okL (AV.tup []) ([Ent.cells [AV.int IntKind.i64 k, AV.tsl q (shV) (1 : Nat) (0 : Nat) z Cap.tight, AV.ptr none, AV.int IntKind.i64 u], Ent.tbl false (shV) vl])))
theorem countF_t0_b (a b : Int) (c : List UInt8) (k : Int) (q : Bool) (z : Nat) (vl : List D) (u : Int) (K : AV → St → Prop) : bodyK Try.prog prCN noL 100 41 [] [.ptr (some (0, 0)), .agg [.int .i64 a, .int .i64 b, .str c]] [.cells [.int .i64 k, .tsl q shV 1 0 z .tight, .ptr none, .int .i64 u], .tbl false shV vl] K = RT.K (fun v s _ => K v s) (countF_t0 a b c k q z vl u) := by kernel_rfl
def countF_t1 (a b : Int) (c : List UInt8) (k : Int) (q : Bool) (z : Nat) (vl : List D) (u : Int) (n : Nat) (l : List D) : RT :=
  RT.br (decide (a = (0 : Int)))
    (okL (AV.tup []) ([Ent.cells [AV.int IntKind.i64 k, AV.tsl q (shV) (1 : Nat) (0 : Nat) z Cap.tight, AV.ptr (some ((2 : Nat), (0 : Nat))), AV.int IntKind.i64 (IntKind.i64.wrap (u + (1 : Int)))], Ent.tbl false (shV) vl, Ent.cells [AV.fn (Fn.func (43 : Nat)) [] [], AV.tsl false (Sh.struct [Sh.str, Sh.int IntKind.i64]) (3 : Nat) (0 : Nat) n Cap.tight], Ent.tbl false (Sh.struct [Sh.str, Sh.int IntKind.i64]) l]))
    (RT.br (decide (a = (2 : Int)))
      (RT.br (okC (shV) (shV) vl z && okM (Sh.struct [Sh.str, Sh.int IntKind.i64]) (Sh.struct [Sh.str, Sh.int IntKind.i64]) l n)
        (okL (AV.tup []) ([Ent.cells [AV.int IntKind.i64 k, AV.tsl q (shV) (1 : Nat) (0 : Nat) z Cap.tight, AV.ptr (some ((2 : Nat), (0 : Nat))), AV.int IntKind.i64 u], Ent.tbl false (shV) vl, Ent.cells [AV.fn (Fn.func (43 : Nat)) [] [], AV.tsl false (Sh.struct [Sh.str, Sh.int IntKind.i64]) (4 : Nat) (0 : Nat) (addW l c).length Cap.tight], Ent.dead, Ent.tbl false (Sh.struct [Sh.str, Sh.int IntKind.i64]) (addW l c)]))
        (RT.fail))
      (okL (AV.tup []) ([Ent.cells [AV.int IntKind.i64 k, AV.tsl q (shV) (1 : Nat) (0 : Nat) z Cap.tight, AV.ptr (some ((2 : Nat), (0 : Nat))), AV.int IntKind.i64 u], Ent.tbl false (shV) vl, Ent.cells [AV.fn (Fn.func (43 : Nat)) [] [], AV.tsl false (Sh.struct [Sh.str, Sh.int IntKind.i64]) (3 : Nat) (0 : Nat) n Cap.tight], Ent.tbl false (Sh.struct [Sh.str, Sh.int IntKind.i64]) l])))
theorem countF_t1_b (a b : Int) (c : List UInt8) (k : Int) (q : Bool) (z : Nat) (vl : List D) (u : Int) (n : Nat) (l : List D) (K : AV → St → Prop) : bodyK Try.prog prCN noL 100 41 [] [.ptr (some (0, 0)), .agg [.int .i64 a, .int .i64 b, .str c]] [.cells [.int .i64 k, .tsl q shV 1 0 z .tight, .ptr (some (2, 0)), .int .i64 u], .tbl false shV vl, .cells [.fn (.func 43) [] [], .tsl false shP 3 0 n .tight], .tbl false shP l] K = RT.K (fun v s _ => K v s) (countF_t1 a b c k q z vl u n l) := by kernel_rfl
def countF : Sy.Spec := ⟨[], fun args s => match args, s with
  | [.ptr (some (0, 0)), .agg [.int .i64 a, .int .i64 b, .str c]], [.cells [.int .i64 k, .tsl q e0 1 0 z .tight, .ptr none, .int .i64 u], .tbl false e1 vl] => .br (Sh.beq e0 shV && (Sh.beq e1 shV && (true))) (countF_t0 a b c k q z vl u) .fail
  | [.ptr (some (0, 0)), .agg [.int .i64 a, .int .i64 b, .str c]], [.cells [.int .i64 k, .tsl q e0 1 0 z .tight, .ptr (some (2, 0)), .int .i64 u], .tbl false e1 vl, .cells [.fn (.func g2) [] [], .tsl false e3 3 0 n .tight], .tbl false e4 l] => .br (Sh.beq e0 shV && (Sh.beq e1 shV && (Nat.beq g2 43 && (Sh.beq e3 shP && (Sh.beq e4 shP && (true)))))) (countF_t1 a b c k q z vl u n l) .fail
  | _, _ => .fail⟩
theorem countF_ok : SpecOk Try.prog 41 countF.f := specOk_comes fun args s v s' tch e => by
  simp only [countF] at e
  split at e
  · obtain ⟨hg, e⟩ := if_run e
    simp only [Bool.and_eq_true] at hg
    obtain ⟨h0, h1, _⟩ := hg
    obtain rfl := Sh.beq_eq _ _ h0
    obtain rfl := Sh.beq_eq _ _ h1
    refine comes_of ok prCN_ok (L := 100) (ms := []) (by kernel_rfl) loops_none ?_
    refine Eq.mpr (countF_t0_b ..) ?_
    exact K_run e
  · obtain ⟨hg, e⟩ := if_run e
    simp only [Bool.and_eq_true] at hg
    obtain ⟨h0, h1, h2, h3, h4, _⟩ := hg
    obtain rfl := Sh.beq_eq _ _ h0
    obtain rfl := Sh.beq_eq _ _ h1
    obtain rfl := Nat.eq_of_beq_eq_true h2
    obtain rfl := Sh.beq_eq _ _ h3
    obtain rfl := Sh.beq_eq _ _ h4
    refine comes_of ok prCN_ok (L := 100) (ms := []) (by kernel_rfl) loops_none ?_
    refine Eq.mpr (countF_t1_b ..) ?_
    exact K_run e
  · cases e
noncomputable def prC1 : FuncId → Option Sy.Spec := addP 41 countF prCN
theorem prC1_ok : PrOk Try.prog prC1 := prOk_add countF_ok prCN_ok
def cappF_t0 (a b : Int) (c : List UInt8) : RT :=
  okL (AV.bool false) ([])
theorem cappF_t0_b (a b : Int) (c : List UInt8) (K : AV → St → Prop) : bodyK Try.prog prC1 noL 100 24 [] [.ptr none, .agg [.int .i64 a, .int .i64 b, .str c]] [] K = RT.K (fun v s _ => K v s) (cappF_t0 a b c) := by kernel_rfl
def cappF_t1 (a b : Int) (c : List UInt8) (k : Int) (q : Bool) (z : Nat) (vl : List D) (u : Int) : RT :=
  RT.br (okC (shV) (shV) vl z && decide (c.length < (1000 : Nat)))
    (RT.br (!mayC k a b c)
      (okL (AV.bool false) ([Ent.cells [AV.int IntKind.i64 k, AV.tsl q (shV) (1 : Nat) (0 : Nat) z Cap.tight, AV.ptr none, AV.int IntKind.i64 u], Ent.tbl false (shV) vl]))
      (RT.br ((((3 : Nat) * (z + (1 : Nat)) + (2000 : Nat)) * (32 : Nat)).ble (281474976710656 : Nat) && ((0 : Nat) + z).ble vl.length)
        (RT.br (decide (a = (0 : Int)))
          (okL (AV.bool true) ([Ent.cells [AV.int IntKind.i64 k, AV.tsl (q || true) (shV) (2 : Nat) (0 : Nat) (z + (1 : Nat)) Cap.tight, AV.ptr none, AV.int IntKind.i64 (IntKind.i64.wrap (u + (1 : Int)))], Ent.dead, Ent.tbl false (shV) (List.take z (List.drop (0 : Nat) vl) ++ [D.agg [D.int a, D.int b, D.str c]])]))
          (RT.br (decide (a = (2 : Int)))
            (RT.br (okC (shV) (shV) (List.take z (List.drop (0 : Nat) vl) ++ [D.agg [D.int a, D.int b, D.str c]]) (z + (1 : Nat)))
              (okL (AV.bool true) ([Ent.cells [AV.int IntKind.i64 k, AV.tsl (q || true) (shV) (2 : Nat) (0 : Nat) (z + (1 : Nat)) Cap.tight, AV.ptr (some ((3 : Nat), (0 : Nat))), AV.int IntKind.i64 u], Ent.dead, Ent.tbl false (shV) (List.take z (List.drop (0 : Nat) vl) ++ [D.agg [D.int a, D.int b, D.str c]]), Ent.cells [AV.fn (Fn.func (43 : Nat)) [] [], AV.tsl false (Sh.struct [Sh.str, Sh.int IntKind.i64]) (4 : Nat) (0 : Nat) (addW [] c).length Cap.tight], Ent.tbl false (Sh.struct [Sh.str, Sh.int IntKind.i64]) (addW [] c)]))
              (RT.fail))
            (okL (AV.bool true) ([Ent.cells [AV.int IntKind.i64 k, AV.tsl (q || true) (shV) (2 : Nat) (0 : Nat) (z + (1 : Nat)) Cap.tight, AV.ptr none, AV.int IntKind.i64 u], Ent.dead, Ent.tbl false (shV) (List.take z (List.drop (0 : Nat) vl) ++ [D.agg [D.int a, D.int b, D.str c]])]))))
        (RT.fail)))
    (RT.fail)
theorem cappF_t1_b (a b : Int) (c : List UInt8) (k : Int) (q : Bool) (z : Nat) (vl : List D) (u : Int) (K : AV → St → Prop) : bodyK Try.prog prC1 noL 100 24 [] [.ptr (some (0, 0)), .agg [.int .i64 a, .int .i64 b, .str c]] [.cells [.int .i64 k, .tsl q shV 1 0 z .tight, .ptr none, .int .i64 u], .tbl false shV vl] K = RT.K (fun v s _ => K v s) (cappF_t1 a b c k q z vl u) := by kernel_rfl
def cappF_t2 (a b : Int) (c : List UInt8) (k : Int) (q : Bool) (z : Nat) (vl : List D) (u : Int) (n : Nat) (l : List D) : RT :=
  RT.br (okC (shV) (shV) vl z && okM (Sh.struct [Sh.str, Sh.int IntKind.i64]) (Sh.struct [Sh.str, Sh.int IntKind.i64]) l n && decide (c.length < (1000 : Nat)))
    (RT.br (!mayC k a b c)
      (okL (AV.bool false) ([Ent.cells [AV.int IntKind.i64 k, AV.tsl q (shV) (1 : Nat) (0 : Nat) z Cap.tight, AV.ptr (some ((2 : Nat), (0 : Nat))), AV.int IntKind.i64 u], Ent.tbl false (shV) vl, Ent.cells [AV.fn (Fn.func (43 : Nat)) [] [], AV.tsl false (Sh.struct [Sh.str, Sh.int IntKind.i64]) (3 : Nat) (0 : Nat) n Cap.tight], Ent.tbl false (Sh.struct [Sh.str, Sh.int IntKind.i64]) l]))
      (RT.br ((((3 : Nat) * (z + (1 : Nat)) + (2000 : Nat)) * (32 : Nat)).ble (281474976710656 : Nat) && ((0 : Nat) + z).ble vl.length)
        (RT.br (decide (a = (0 : Int)))
          (okL (AV.bool true) ([Ent.cells [AV.int IntKind.i64 k, AV.tsl (q || true) (shV) (4 : Nat) (0 : Nat) (z + (1 : Nat)) Cap.tight, AV.ptr (some ((2 : Nat), (0 : Nat))), AV.int IntKind.i64 (IntKind.i64.wrap (u + (1 : Int)))], Ent.dead, Ent.cells [AV.fn (Fn.func (43 : Nat)) [] [], AV.tsl false (Sh.struct [Sh.str, Sh.int IntKind.i64]) (3 : Nat) (0 : Nat) n Cap.tight], Ent.tbl false (Sh.struct [Sh.str, Sh.int IntKind.i64]) l, Ent.tbl false (shV) (List.take z (List.drop (0 : Nat) vl) ++ [D.agg [D.int a, D.int b, D.str c]])]))
          (RT.br (decide (a = (2 : Int)))
            (RT.br (okC (shV) (shV) (List.take z (List.drop (0 : Nat) vl) ++ [D.agg [D.int a, D.int b, D.str c]]) (z + (1 : Nat)) && okM (Sh.struct [Sh.str, Sh.int IntKind.i64]) (Sh.struct [Sh.str, Sh.int IntKind.i64]) l n)
              (okL (AV.bool true) ([Ent.cells [AV.int IntKind.i64 k, AV.tsl (q || true) (shV) (4 : Nat) (0 : Nat) (z + (1 : Nat)) Cap.tight, AV.ptr (some ((2 : Nat), (0 : Nat))), AV.int IntKind.i64 u], Ent.dead, Ent.cells [AV.fn (Fn.func (43 : Nat)) [] [], AV.tsl false (Sh.struct [Sh.str, Sh.int IntKind.i64]) (5 : Nat) (0 : Nat) (addW l c).length Cap.tight], Ent.dead, Ent.tbl false (shV) (List.take z (List.drop (0 : Nat) vl) ++ [D.agg [D.int a, D.int b, D.str c]]), Ent.tbl false (Sh.struct [Sh.str, Sh.int IntKind.i64]) (addW l c)]))
              (RT.fail))
            (okL (AV.bool true) ([Ent.cells [AV.int IntKind.i64 k, AV.tsl (q || true) (shV) (4 : Nat) (0 : Nat) (z + (1 : Nat)) Cap.tight, AV.ptr (some ((2 : Nat), (0 : Nat))), AV.int IntKind.i64 u], Ent.dead, Ent.cells [AV.fn (Fn.func (43 : Nat)) [] [], AV.tsl false (Sh.struct [Sh.str, Sh.int IntKind.i64]) (3 : Nat) (0 : Nat) n Cap.tight], Ent.tbl false (Sh.struct [Sh.str, Sh.int IntKind.i64]) l, Ent.tbl false (shV) (List.take z (List.drop (0 : Nat) vl) ++ [D.agg [D.int a, D.int b, D.str c]])]))))
        (RT.fail)))
    (RT.fail)
theorem cappF_t2_b (a b : Int) (c : List UInt8) (k : Int) (q : Bool) (z : Nat) (vl : List D) (u : Int) (n : Nat) (l : List D) (K : AV → St → Prop) : bodyK Try.prog prC1 noL 100 24 [] [.ptr (some (0, 0)), .agg [.int .i64 a, .int .i64 b, .str c]] [.cells [.int .i64 k, .tsl q shV 1 0 z .tight, .ptr (some (2, 0)), .int .i64 u], .tbl false shV vl, .cells [.fn (.func 43) [] [], .tsl false shP 3 0 n .tight], .tbl false shP l] K = RT.K (fun v s _ => K v s) (cappF_t2 a b c k q z vl u n l) := by kernel_rfl
def cappF : Sy.Spec := ⟨[], fun args s => match args, s with
  | [.ptr none, .agg [.int .i64 a, .int .i64 b, .str c]], [] => .br (true) (cappF_t0 a b c) .fail
  | [.ptr (some (0, 0)), .agg [.int .i64 a, .int .i64 b, .str c]], [.cells [.int .i64 k, .tsl q e0 1 0 z .tight, .ptr none, .int .i64 u], .tbl false e1 vl] => .br (Sh.beq e0 shV && (Sh.beq e1 shV && (true))) (cappF_t1 a b c k q z vl u) .fail
  | [.ptr (some (0, 0)), .agg [.int .i64 a, .int .i64 b, .str c]], [.cells [.int .i64 k, .tsl q e0 1 0 z .tight, .ptr (some (2, 0)), .int .i64 u], .tbl false e1 vl, .cells [.fn (.func g2) [] [], .tsl false e3 3 0 n .tight], .tbl false e4 l] => .br (Sh.beq e0 shV && (Sh.beq e1 shV && (Nat.beq g2 43 && (Sh.beq e3 shP && (Sh.beq e4 shP && (true)))))) (cappF_t2 a b c k q z vl u n l) .fail
  | _, _ => .fail⟩
theorem cappF_ok : SpecOk Try.prog 24 cappF.f := specOk_comes fun args s v s' tch e => by
  simp only [cappF] at e
  split at e
  · obtain ⟨hg, e⟩ := if_run e
    refine comes_of ok prC1_ok (L := 100) (ms := []) (by kernel_rfl) loops_none ?_
    refine Eq.mpr (cappF_t0_b ..) ?_
    exact K_run e
  · obtain ⟨hg, e⟩ := if_run e
    simp only [Bool.and_eq_true] at hg
    obtain ⟨h0, h1, _⟩ := hg
    obtain rfl := Sh.beq_eq _ _ h0
    obtain rfl := Sh.beq_eq _ _ h1
    refine comes_of ok prC1_ok (L := 100) (ms := []) (by kernel_rfl) loops_none ?_
    refine Eq.mpr (cappF_t1_b ..) ?_
    exact K_run e
  · obtain ⟨hg, e⟩ := if_run e
    simp only [Bool.and_eq_true] at hg
    obtain ⟨h0, h1, h2, h3, h4, _⟩ := hg
    obtain rfl := Sh.beq_eq _ _ h0
    obtain rfl := Sh.beq_eq _ _ h1
    obtain rfl := Nat.eq_of_beq_eq_true h2
    obtain rfl := Sh.beq_eq _ _ h3
    obtain rfl := Sh.beq_eq _ _ h4
    refine comes_of ok prC1_ok (L := 100) (ms := []) (by kernel_rfl) loops_none ?_
    refine Eq.mpr (cappF_t2_b ..) ?_
    exact K_run e
  · cases e
def csetF_t0 (i : Int) (a b : Int) (c : List UInt8) : RT :=
  okL (AV.bool false) ([])
theorem csetF_t0_b (i : Int) (a b : Int) (c : List UInt8) (K : AV → St → Prop) : bodyK Try.prog prC1 noL 100 25 [] [.ptr none, .int .i64 i, .agg [.int .i64 a, .int .i64 b, .str c]] [] K = RT.K (fun v s _ => K v s) (csetF_t0 i a b c) := by kernel_rfl
def csetF_t1 (i : Int) (a b : Int) (c : List UInt8) (k : Int) (q : Bool) (z : Nat) (vl : List D) (u : Int) : RT :=
  RT.br (okC (shV) (shV) vl z && decide (c.length < (1000 : Nat)))
    (RT.br (!mayC k a b c)
      (okL (AV.bool false) ([Ent.cells [AV.int IntKind.i64 k, AV.tsl q (shV) (1 : Nat) (0 : Nat) z Cap.tight, AV.ptr none, AV.int IntKind.i64 u], Ent.tbl false (shV) vl]))
      (RT.br (decide (i < (0 : Int)))
        (okL (AV.bool false) ([Ent.cells [AV.int IntKind.i64 k, AV.tsl q (shV) (1 : Nat) (0 : Nat) z Cap.tight, AV.ptr none, AV.int IntKind.i64 u], Ent.tbl false (shV) vl]))
        (RT.br (decide (i ≥ (↑z : Int)))
          (okL (AV.bool false) ([Ent.cells [AV.int IntKind.i64 k, AV.tsl q (shV) (1 : Nat) (0 : Nat) z Cap.tight, AV.ptr none, AV.int IntKind.i64 u], Ent.tbl false (shV) vl]))
          (RT.br (decide ((0 : Int) ≤ i) && decide (i < (↑z : Int)))
            (RT.br (decide ((0 : Nat) + i.toNat < vl.length))
              (RT.br (decide (((vl.getD ((0 : Nat) + i.toNat) D.nul).fld (0 : Nat)).asInt = (0 : Int)))
                (RT.br (decide ((0 : Int) ≤ i) && decide (i < (↑z : Int)))
                  (RT.br (decide ((0 : Nat) + i.toNat < vl.length))
                    (RT.br (decide (a = (0 : Int)))
                      (okL (AV.bool true) ([Ent.cells [AV.int IntKind.i64 k, AV.tsl q (shV) (1 : Nat) (0 : Nat) z Cap.tight, AV.ptr none, AV.int IntKind.i64 (IntKind.i64.wrap (IntKind.i64.wrap (u - (1 : Int)) + (1 : Int)))], Ent.tbl false (shV) (vl.set ((0 : Nat) + i.toNat) (D.agg [D.int a, D.int b, D.str c]))]))
                      (RT.br (decide (a = (2 : Int)))
                        (RT.br (okC (shV) (shV) (vl.set ((0 : Nat) + i.toNat) (D.agg [D.int a, D.int b, D.str c])) z)
                          (okL (AV.bool true) ([Ent.cells [AV.int IntKind.i64 k, AV.tsl q (shV) (1 : Nat) (0 : Nat) z Cap.tight, AV.ptr (some ((2 : Nat), (0 : Nat))), AV.int IntKind.i64 (IntKind.i64.wrap (u - (1 : Int)))], Ent.tbl false (shV) (vl.set ((0 : Nat) + i.toNat) (D.agg [D.int a, D.int b, D.str c])), Ent.cells [AV.fn (Fn.func (43 : Nat)) [] [], AV.tsl false (Sh.struct [Sh.str, Sh.int IntKind.i64]) (3 : Nat) (0 : Nat) (addW [] c).length Cap.tight], Ent.tbl false (Sh.struct [Sh.str, Sh.int IntKind.i64]) (addW [] c)]))
                          (RT.fail))
                        (okL (AV.bool true) ([Ent.cells [AV.int IntKind.i64 k, AV.tsl q (shV) (1 : Nat) (0 : Nat) z Cap.tight, AV.ptr none, AV.int IntKind.i64 (IntKind.i64.wrap (u - (1 : Int)))], Ent.tbl false (shV) (vl.set ((0 : Nat) + i.toNat) (D.agg [D.int a, D.int b, D.str c]))]))))
                    (RT.fail))
                  (RT.fail))
                (RT.br (decide (((vl.getD ((0 : Nat) + i.toNat) D.nul).fld (0 : Nat)).asInt = (2 : Int)))
                  (RT.br (okC (shV) (shV) vl z)
                    (RT.br (decide ((0 : Int) ≤ i) && decide (i < (↑z : Int)))
                      (RT.br (decide ((0 : Nat) + i.toNat < vl.length))
                        (RT.br (decide (a = (0 : Int)))
                          (okL (AV.bool true) ([Ent.cells [AV.int IntKind.i64 k, AV.tsl q (shV) (1 : Nat) (0 : Nat) z Cap.tight, AV.ptr (some ((2 : Nat), (0 : Nat))), AV.int IntKind.i64 (IntKind.i64.wrap (u + (1 : Int)))], Ent.tbl false (shV) (vl.set ((0 : Nat) + i.toNat) (D.agg [D.int a, D.int b, D.str c])), Ent.cells [AV.fn (Fn.func (43 : Nat)) [] [], AV.tsl false (Sh.struct [Sh.str, Sh.int IntKind.i64]) (3 : Nat) (0 : Nat) (0 : Nat) Cap.tight], Ent.tbl false (Sh.struct [Sh.str, Sh.int IntKind.i64]) []]))
                          (RT.br (decide (a = (2 : Int)))
                            (RT.br (okC (shV) (shV) (vl.set ((0 : Nat) + i.toNat) (D.agg [D.int a, D.int b, D.str c])) z && true)
                              (okL (AV.bool true) ([Ent.cells [AV.int IntKind.i64 k, AV.tsl q (shV) (1 : Nat) (0 : Nat) z Cap.tight, AV.ptr (some ((2 : Nat), (0 : Nat))), AV.int IntKind.i64 u], Ent.tbl false (shV) (vl.set ((0 : Nat) + i.toNat) (D.agg [D.int a, D.int b, D.str c])), Ent.cells [AV.fn (Fn.func (43 : Nat)) [] [], AV.tsl false (Sh.struct [Sh.str, Sh.int IntKind.i64]) (3 : Nat) (0 : Nat) (addW [] c).length Cap.tight], Ent.tbl false (Sh.struct [Sh.str, Sh.int IntKind.i64]) (addW [] c)]))
                              (RT.fail))
                            (okL (AV.bool true) ([Ent.cells [AV.int IntKind.i64 k, AV.tsl q (shV) (1 : Nat) (0 : Nat) z Cap.tight, AV.ptr (some ((2 : Nat), (0 : Nat))), AV.int IntKind.i64 u], Ent.tbl false (shV) (vl.set ((0 : Nat) + i.toNat) (D.agg [D.int a, D.int b, D.str c])), Ent.cells [AV.fn (Fn.func (43 : Nat)) [] [], AV.tsl false (Sh.struct [Sh.str, Sh.int IntKind.i64]) (3 : Nat) (0 : Nat) (0 : Nat) Cap.tight], Ent.tbl false (Sh.struct [Sh.str, Sh.int IntKind.i64]) []]))))
                        (RT.fail))
                      (RT.fail))
                    (RT.fail))
                  (RT.br (decide ((0 : Int) ≤ i) && decide (i < (↑z : Int)))
                    (RT.br (decide ((0 : Nat) + i.toNat < vl.length))
                      (RT.br (decide (a = (0 : Int)))
                        (okL (AV.bool true) ([Ent.cells [AV.int IntKind.i64 k, AV.tsl q (shV) (1 : Nat) (0 : Nat) z Cap.tight, AV.ptr none, AV.int IntKind.i64 (IntKind.i64.wrap (u + (1 : Int)))], Ent.tbl false (shV) (vl.set ((0 : Nat) + i.toNat) (D.agg [D.int a, D.int b, D.str c]))]))
                        (RT.br (decide (a = (2 : Int)))
                          (RT.br (okC (shV) (shV) (vl.set ((0 : Nat) + i.toNat) (D.agg [D.int a, D.int b, D.str c])) z)
                            (okL (AV.bool true) ([Ent.cells [AV.int IntKind.i64 k, AV.tsl q (shV) (1 : Nat) (0 : Nat) z Cap.tight, AV.ptr (some ((2 : Nat), (0 : Nat))), AV.int IntKind.i64 u], Ent.tbl false (shV) (vl.set ((0 : Nat) + i.toNat) (D.agg [D.int a, D.int b, D.str c])), Ent.cells [AV.fn (Fn.func (43 : Nat)) [] [], AV.tsl false (Sh.struct [Sh.str, Sh.int IntKind.i64]) (3 : Nat) (0 : Nat) (addW [] c).length Cap.tight], Ent.tbl false (Sh.struct [Sh.str, Sh.int IntKind.i64]) (addW [] c)]))
                            (RT.fail))
                          (okL (AV.bool true) ([Ent.cells [AV.int IntKind.i64 k, AV.tsl q (shV) (1 : Nat) (0 : Nat) z Cap.tight, AV.ptr none, AV.int IntKind.i64 u], Ent.tbl false (shV) (vl.set ((0 : Nat) + i.toNat) (D.agg [D.int a, D.int b, D.str c]))]))))
                      (RT.fail))
                    (RT.fail))))
              (RT.fail))
            (RT.fail)))))
    (RT.fail)
theorem csetF_t1_b (i : Int) (a b : Int) (c : List UInt8) (k : Int) (q : Bool) (z : Nat) (vl : List D) (u : Int) (K : AV → St → Prop) : bodyK Try.prog prC1 noL 100 25 [] [.ptr (some (0, 0)), .int .i64 i, .agg [.int .i64 a, .int .i64 b, .str c]] [.cells [.int .i64 k, .tsl q shV 1 0 z .tight, .ptr none, .int .i64 u], .tbl false shV vl] K = RT.K (fun v s _ => K v s) (csetF_t1 i a b c k q z vl u) := by kernel_rfl
def csetF_t2 (i : Int) (a b : Int) (c : List UInt8) (k : Int) (q : Bool) (z : Nat) (vl : List D) (u : Int) (n : Nat) (l : List D) : RT :=
  RT.br (okC (shV) (shV) vl z && okM (Sh.struct [Sh.str, Sh.int IntKind.i64]) (Sh.struct [Sh.str, Sh.int IntKind.i64]) l n && decide (c.length < (1000 : Nat)))
    (RT.br (!mayC k a b c)
      (okL (AV.bool false) ([Ent.cells [AV.int IntKind.i64 k, AV.tsl q (shV) (1 : Nat) (0 : Nat) z Cap.tight, AV.ptr (some ((2 : Nat), (0 : Nat))), AV.int IntKind.i64 u], Ent.tbl false (shV) vl, Ent.cells [AV.fn (Fn.func (43 : Nat)) [] [], AV.tsl false (Sh.struct [Sh.str, Sh.int IntKind.i64]) (3 : Nat) (0 : Nat) n Cap.tight], Ent.tbl false (Sh.struct [Sh.str, Sh.int IntKind.i64]) l]))
      (RT.br (decide (i < (0 : Int)))
        (okL (AV.bool false) ([Ent.cells [AV.int IntKind.i64 k, AV.tsl q (shV) (1 : Nat) (0 : Nat) z Cap.tight, AV.ptr (some ((2 : Nat), (0 : Nat))), AV.int IntKind.i64 u], Ent.tbl false (shV) vl, Ent.cells [AV.fn (Fn.func (43 : Nat)) [] [], AV.tsl false (Sh.struct [Sh.str, Sh.int IntKind.i64]) (3 : Nat) (0 : Nat) n Cap.tight], Ent.tbl false (Sh.struct [Sh.str, Sh.int IntKind.i64]) l]))
        (RT.br (decide (i ≥ (↑z : Int)))
          (okL (AV.bool false) ([Ent.cells [AV.int IntKind.i64 k, AV.tsl q (shV) (1 : Nat) (0 : Nat) z Cap.tight, AV.ptr (some ((2 : Nat), (0 : Nat))), AV.int IntKind.i64 u], Ent.tbl false (shV) vl, Ent.cells [AV.fn (Fn.func (43 : Nat)) [] [], AV.tsl false (Sh.struct [Sh.str, Sh.int IntKind.i64]) (3 : Nat) (0 : Nat) n Cap.tight], Ent.tbl false (Sh.struct [Sh.str, Sh.int IntKind.i64]) l]))
          (RT.br (decide ((0 : Int) ≤ i) && decide (i < (↑z : Int)))
            (RT.br (decide ((0 : Nat) + i.toNat < vl.length))
              (RT.br (decide (((vl.getD ((0 : Nat) + i.toNat) D.nul).fld (0 : Nat)).asInt = (0 : Int)))
                (RT.br (decide ((0 : Int) ≤ i) && decide (i < (↑z : Int)))
                  (RT.br (decide ((0 : Nat) + i.toNat < vl.length))
                    (RT.br (decide (a = (0 : Int)))
                      (okL (AV.bool true) ([Ent.cells [AV.int IntKind.i64 k, AV.tsl q (shV) (1 : Nat) (0 : Nat) z Cap.tight, AV.ptr (some ((2 : Nat), (0 : Nat))), AV.int IntKind.i64 (IntKind.i64.wrap (IntKind.i64.wrap (u - (1 : Int)) + (1 : Int)))], Ent.tbl false (shV) (vl.set ((0 : Nat) + i.toNat) (D.agg [D.int a, D.int b, D.str c])), Ent.cells [AV.fn (Fn.func (43 : Nat)) [] [], AV.tsl false (Sh.struct [Sh.str, Sh.int IntKind.i64]) (3 : Nat) (0 : Nat) n Cap.tight], Ent.tbl false (Sh.struct [Sh.str, Sh.int IntKind.i64]) l]))
                      (RT.br (decide (a = (2 : Int)))
                        (RT.br (okC (shV) (shV) (vl.set ((0 : Nat) + i.toNat) (D.agg [D.int a, D.int b, D.str c])) z && okM (Sh.struct [Sh.str, Sh.int IntKind.i64]) (Sh.struct [Sh.str, Sh.int IntKind.i64]) l n)
                          (okL (AV.bool true) ([Ent.cells [AV.int IntKind.i64 k, AV.tsl q (shV) (1 : Nat) (0 : Nat) z Cap.tight, AV.ptr (some ((2 : Nat), (0 : Nat))), AV.int IntKind.i64 (IntKind.i64.wrap (u - (1 : Int)))], Ent.tbl false (shV) (vl.set ((0 : Nat) + i.toNat) (D.agg [D.int a, D.int b, D.str c])), Ent.cells [AV.fn (Fn.func (43 : Nat)) [] [], AV.tsl false (Sh.struct [Sh.str, Sh.int IntKind.i64]) (4 : Nat) (0 : Nat) (addW l c).length Cap.tight], Ent.dead, Ent.tbl false (Sh.struct [Sh.str, Sh.int IntKind.i64]) (addW l c)]))
                          (RT.fail))
                        (okL (AV.bool true) ([Ent.cells [AV.int IntKind.i64 k, AV.tsl q (shV) (1 : Nat) (0 : Nat) z Cap.tight, AV.ptr (some ((2 : Nat), (0 : Nat))), AV.int IntKind.i64 (IntKind.i64.wrap (u - (1 : Int)))], Ent.tbl false (shV) (vl.set ((0 : Nat) + i.toNat) (D.agg [D.int a, D.int b, D.str c])), Ent.cells [AV.fn (Fn.func (43 : Nat)) [] [], AV.tsl false (Sh.struct [Sh.str, Sh.int IntKind.i64]) (3 : Nat) (0 : Nat) n Cap.tight], Ent.tbl false (Sh.struct [Sh.str, Sh.int IntKind.i64]) l]))))
                    (RT.fail))
                  (RT.fail))
                (RT.br (decide (((vl.getD ((0 : Nat) + i.toNat) D.nul).fld (0 : Nat)).asInt = (2 : Int)))
                  (RT.br (okC (shV) (shV) vl z && okM (Sh.struct [Sh.str, Sh.int IntKind.i64]) (Sh.struct [Sh.str, Sh.int IntKind.i64]) l n)
                    (RT.br (decide ((0 : Int) ≤ i) && decide (i < (↑z : Int)))
                      (RT.br (decide ((0 : Nat) + i.toNat < vl.length))
                        (RT.br (decide (a = (0 : Int)))
                          (okL (AV.bool true) ([Ent.cells [AV.int IntKind.i64 k, AV.tsl q (shV) (1 : Nat) (0 : Nat) z Cap.tight, AV.ptr (some ((2 : Nat), (0 : Nat))), AV.int IntKind.i64 (IntKind.i64.wrap (u + (1 : Int)))], Ent.tbl false (shV) (vl.set ((0 : Nat) + i.toNat) (D.agg [D.int a, D.int b, D.str c])), Ent.cells [AV.fn (Fn.func (43 : Nat)) [] [], AV.tsl false (Sh.struct [Sh.str, Sh.int IntKind.i64]) (4 : Nat) (0 : Nat) (takeW l ((vl.getD ((0 : Nat) + i.toNat) D.nul).fld (2 : Nat)).asStr).length Cap.tight], Ent.dead, Ent.tbl false (Sh.struct [Sh.str, Sh.int IntKind.i64]) (takeW l ((vl.getD ((0 : Nat) + i.toNat) D.nul).fld (2 : Nat)).asStr)]))
                          (RT.br (decide (a = (2 : Int)))
                            (RT.br (okC (shV) (shV) (vl.set ((0 : Nat) + i.toNat) (D.agg [D.int a, D.int b, D.str c])) z && okM (Sh.struct [Sh.str, Sh.int IntKind.i64]) (Sh.struct [Sh.str, Sh.int IntKind.i64]) (takeW l ((vl.getD ((0 : Nat) + i.toNat) D.nul).fld (2 : Nat)).asStr) (takeW l ((vl.getD ((0 : Nat) + i.toNat) D.nul).fld (2 : Nat)).asStr).length)
                              (okL (AV.bool true) ([Ent.cells [AV.int IntKind.i64 k, AV.tsl q (shV) (1 : Nat) (0 : Nat) z Cap.tight, AV.ptr (some ((2 : Nat), (0 : Nat))), AV.int IntKind.i64 u], Ent.tbl false (shV) (vl.set ((0 : Nat) + i.toNat) (D.agg [D.int a, D.int b, D.str c])), Ent.cells [AV.fn (Fn.func (43 : Nat)) [] [], AV.tsl false (Sh.struct [Sh.str, Sh.int IntKind.i64]) (4 : Nat) (0 : Nat) (addW (takeW l ((vl.getD ((0 : Nat) + i.toNat) D.nul).fld (2 : Nat)).asStr) c).length Cap.tight], Ent.dead, Ent.tbl false (Sh.struct [Sh.str, Sh.int IntKind.i64]) (addW (takeW l ((vl.getD ((0 : Nat) + i.toNat) D.nul).fld (2 : Nat)).asStr) c)]))
                              (RT.fail))
                            (okL (AV.bool true) ([Ent.cells [AV.int IntKind.i64 k, AV.tsl q (shV) (1 : Nat) (0 : Nat) z Cap.tight, AV.ptr (some ((2 : Nat), (0 : Nat))), AV.int IntKind.i64 u], Ent.tbl false (shV) (vl.set ((0 : Nat) + i.toNat) (D.agg [D.int a, D.int b, D.str c])), Ent.cells [AV.fn (Fn.func (43 : Nat)) [] [], AV.tsl false (Sh.struct [Sh.str, Sh.int IntKind.i64]) (4 : Nat) (0 : Nat) (takeW l ((vl.getD ((0 : Nat) + i.toNat) D.nul).fld (2 : Nat)).asStr).length Cap.tight], Ent.dead, Ent.tbl false (Sh.struct [Sh.str, Sh.int IntKind.i64]) (takeW l ((vl.getD ((0 : Nat) + i.toNat) D.nul).fld (2 : Nat)).asStr)]))))
                        (RT.fail))
                      (RT.fail))
                    (RT.fail))
                  (RT.br (decide ((0 : Int) ≤ i) && decide (i < (↑z : Int)))
                    (RT.br (decide ((0 : Nat) + i.toNat < vl.length))
                      (RT.br (decide (a = (0 : Int)))
                        (okL (AV.bool true) ([Ent.cells [AV.int IntKind.i64 k, AV.tsl q (shV) (1 : Nat) (0 : Nat) z Cap.tight, AV.ptr (some ((2 : Nat), (0 : Nat))), AV.int IntKind.i64 (IntKind.i64.wrap (u + (1 : Int)))], Ent.tbl false (shV) (vl.set ((0 : Nat) + i.toNat) (D.agg [D.int a, D.int b, D.str c])), Ent.cells [AV.fn (Fn.func (43 : Nat)) [] [], AV.tsl false (Sh.struct [Sh.str, Sh.int IntKind.i64]) (3 : Nat) (0 : Nat) n Cap.tight], Ent.tbl false (Sh.struct [Sh.str, Sh.int IntKind.i64]) l]))
                        (RT.br (decide (a = (2 : Int)))
                          (RT.br (okC (shV) (shV) (vl.set ((0 : Nat) + i.toNat) (D.agg [D.int a, D.int b, D.str c])) z && okM (Sh.struct [Sh.str, Sh.int IntKind.i64]) (Sh.struct [Sh.str, Sh.int IntKind.i64]) l n)
                            (okL (AV.bool true) ([Ent.cells [AV.int IntKind.i64 k, AV.tsl q (shV) (1 : Nat) (0 : Nat) z Cap.tight, AV.ptr (some ((2 : Nat), (0 : Nat))), AV.int IntKind.i64 u], Ent.tbl false (shV) (vl.set ((0 : Nat) + i.toNat) (D.agg [D.int a, D.int b, D.str c])), Ent.cells [AV.fn (Fn.func (43 : Nat)) [] [], AV.tsl false (Sh.struct [Sh.str, Sh.int IntKind.i64]) (4 : Nat) (0 : Nat) (addW l c).length Cap.tight], Ent.dead, Ent.tbl false (Sh.struct [Sh.str, Sh.int IntKind.i64]) (addW l c)]))
                            (RT.fail))
                          (okL (AV.bool true) ([Ent.cells [AV.int IntKind.i64 k, AV.tsl q (shV) (1 : Nat) (0 : Nat) z Cap.tight, AV.ptr (some ((2 : Nat), (0 : Nat))), AV.int IntKind.i64 u], Ent.tbl false (shV) (vl.set ((0 : Nat) + i.toNat) (D.agg [D.int a, D.int b, D.str c])), Ent.cells [AV.fn (Fn.func (43 : Nat)) [] [], AV.tsl false (Sh.struct [Sh.str, Sh.int IntKind.i64]) (3 : Nat) (0 : Nat) n Cap.tight], Ent.tbl false (Sh.struct [Sh.str, Sh.int IntKind.i64]) l]))))
                      (RT.fail))
                    (RT.fail))))
              (RT.fail))
            (RT.fail)))))
    (RT.fail)
theorem csetF_t2_b (i : Int) (a b : Int) (c : List UInt8) (k : Int) (q : Bool) (z : Nat) (vl : List D) (u : Int) (n : Nat) (l : List D) (K : AV → St → Prop) : bodyK Try.prog prC1 noL 100 25 [] [.ptr (some (0, 0)), .int .i64 i, .agg [.int .i64 a, .int .i64 b, .str c]] [.cells [.int .i64 k, .tsl q shV 1 0 z .tight, .ptr (some (2, 0)), .int .i64 u], .tbl false shV vl, .cells [.fn (.func 43) [] [], .tsl false shP 3 0 n .tight], .tbl false shP l] K = RT.K (fun v s _ => K v s) (csetF_t2 i a b c k q z vl u n l) := by kernel_rfl
def csetF : Sy.Spec := ⟨[], fun args s => match args, s with
  | [.ptr none, .int .i64 i, .agg [.int .i64 a, .int .i64 b, .str c]], [] => .br (true) (csetF_t0 i a b c) .fail
  | [.ptr (some (0, 0)), .int .i64 i, .agg [.int .i64 a, .int .i64 b, .str c]], [.cells [.int .i64 k, .tsl q e0 1 0 z .tight, .ptr none, .int .i64 u], .tbl false e1 vl] => .br (Sh.beq e0 shV && (Sh.beq e1 shV && (true))) (csetF_t1 i a b c k q z vl u) .fail
  | [.ptr (some (0, 0)), .int .i64 i, .agg [.int .i64 a, .int .i64 b, .str c]], [.cells [.int .i64 k, .tsl q e0 1 0 z .tight, .ptr (some (2, 0)), .int .i64 u], .tbl false e1 vl, .cells [.fn (.func g2) [] [], .tsl false e3 3 0 n .tight], .tbl false e4 l] => .br (Sh.beq e0 shV && (Sh.beq e1 shV && (Nat.beq g2 43 && (Sh.beq e3 shP && (Sh.beq e4 shP && (true)))))) (csetF_t2 i a b c k q z vl u n l) .fail
  | _, _ => .fail⟩
theorem csetF_ok : SpecOk Try.prog 25 csetF.f := specOk_comes fun args s v s' tch e => by
  simp only [csetF] at e
  split at e
  · obtain ⟨hg, e⟩ := if_run e
    refine comes_of ok prC1_ok (L := 100) (ms := []) (by kernel_rfl) loops_none ?_
    refine Eq.mpr (csetF_t0_b ..) ?_
    exact K_run e
  · obtain ⟨hg, e⟩ := if_run e
    simp only [Bool.and_eq_true] at hg
    obtain ⟨h0, h1, _⟩ := hg
    obtain rfl := Sh.beq_eq _ _ h0
    obtain rfl := Sh.beq_eq _ _ h1
    refine comes_of ok prC1_ok (L := 100) (ms := []) (by kernel_rfl) loops_none ?_
    refine Eq.mpr (csetF_t1_b ..) ?_
    exact K_run e
  · obtain ⟨hg, e⟩ := if_run e
    simp only [Bool.and_eq_true] at hg
    obtain ⟨h0, h1, h2, h3, h4, _⟩ := hg
    obtain rfl := Sh.beq_eq _ _ h0
    obtain rfl := Sh.beq_eq _ _ h1
    obtain rfl := Nat.eq_of_beq_eq_true h2
    obtain rfl := Sh.beq_eq _ _ h3
    obtain rfl := Sh.beq_eq _ _ h4
    refine comes_of ok prC1_ok (L := 100) (ms := []) (by kernel_rfl) loops_none ?_
    refine Eq.mpr (csetF_t2_b ..) ?_
    exact K_run e
  · cases e
def clenF_t0  : RT :=
  okL (AV.int IntKind.i64 (0 : Int)) ([])
theorem clenF_t0_b  (K : AV → St → Prop) : bodyK Try.prog noP noL 100 28 [] [.ptr none] [] K = RT.K (fun v s _ => K v s) (clenF_t0 ) := by kernel_rfl
def clenF_t1 (k : Int) (q : Bool) (z : Nat) (vl : List D) (u : Int) : RT :=
  okL (AV.int IntKind.i64 (↑z : Int)) ([Ent.cells [AV.int IntKind.i64 k, AV.tsl q (shV) (1 : Nat) (0 : Nat) z Cap.tight, AV.ptr none, AV.int IntKind.i64 u], Ent.tbl false (shV) vl])
theorem clenF_t1_b (k : Int) (q : Bool) (z : Nat) (vl : List D) (u : Int) (K : AV → St → Prop) : bodyK Try.prog noP noL 100 28 [] [.ptr (some (0, 0))] [.cells [.int .i64 k, .tsl q shV 1 0 z .tight, .ptr none, .int .i64 u], .tbl false shV vl] K = RT.K (fun v s _ => K v s) (clenF_t1 k q z vl u) := by kernel_rfl
def clenF_t2 (k : Int) (q : Bool) (z : Nat) (vl : List D) (u : Int) (n : Nat) (l : List D) : RT :=
  okL (AV.int IntKind.i64 (↑z : Int)) ([Ent.cells [AV.int IntKind.i64 k, AV.tsl q (shV) (1 : Nat) (0 : Nat) z Cap.tight, AV.ptr (some ((2 : Nat), (0 : Nat))), AV.int IntKind.i64 u], Ent.tbl false (shV) vl, Ent.cells [AV.fn (Fn.func (43 : Nat)) [] [], AV.tsl false (Sh.struct [Sh.str, Sh.int IntKind.i64]) (3 : Nat) (0 : Nat) n Cap.tight], Ent.tbl false (Sh.struct [Sh.str, Sh.int IntKind.i64]) l])
theorem clenF_t2_b (k : Int) (q : Bool) (z : Nat) (vl : List D) (u : Int) (n : Nat) (l : List D) (K : AV → St → Prop) : bodyK Try.prog noP noL 100 28 [] [.ptr (some (0, 0))] [.cells [.int .i64 k, .tsl q shV 1 0 z .tight, .ptr (some (2, 0)), .int .i64 u], .tbl false shV vl, .cells [.fn (.func 43) [] [], .tsl false shP 3 0 n .tight], .tbl false shP l] K = RT.K (fun v s _ => K v s) (clenF_t2 k q z vl u n l) := by kernel_rfl
def clenF : Sy.Spec := ⟨[], fun args s => match args, s with
  | [.ptr none], [] => .br (true) (clenF_t0 ) .fail
  | [.ptr (some (0, 0))], [.cells [.int .i64 k, .tsl q e0 1 0 z .tight, .ptr none, .int .i64 u], .tbl false e1 vl] => .br (Sh.beq e0 shV && (Sh.beq e1 shV && (true))) (clenF_t1 k q z vl u) .fail
  | [.ptr (some (0, 0))], [.cells [.int .i64 k, .tsl q e0 1 0 z .tight, .ptr (some (2, 0)), .int .i64 u], .tbl false e1 vl, .cells [.fn (.func g2) [] [], .tsl false e3 3 0 n .tight], .tbl false e4 l] => .br (Sh.beq e0 shV && (Sh.beq e1 shV && (Nat.beq g2 43 && (Sh.beq e3 shP && (Sh.beq e4 shP && (true)))))) (clenF_t2 k q z vl u n l) .fail
  | _, _ => .fail⟩
theorem clenF_ok : SpecOk Try.prog 28 clenF.f := specOk_comes fun args s v s' tch e => by
  simp only [clenF] at e
  split at e
  · obtain ⟨hg, e⟩ := if_run e
    refine comes_of ok prOk_none (L := 100) (ms := []) (by kernel_rfl) loops_none ?_
    refine Eq.mpr (clenF_t0_b ..) ?_
    exact K_run e
  · obtain ⟨hg, e⟩ := if_run e
    simp only [Bool.and_eq_true] at hg
    obtain ⟨h0, h1, _⟩ := hg
    obtain rfl := Sh.beq_eq _ _ h0
    obtain rfl := Sh.beq_eq _ _ h1
    refine comes_of ok prOk_none (L := 100) (ms := []) (by kernel_rfl) loops_none ?_
    refine Eq.mpr (clenF_t1_b ..) ?_
    exact K_run e
  · obtain ⟨hg, e⟩ := if_run e
    simp only [Bool.and_eq_true] at hg
    obtain ⟨h0, h1, h2, h3, h4, _⟩ := hg
    obtain rfl := Sh.beq_eq _ _ h0
    obtain rfl := Sh.beq_eq _ _ h1
    obtain rfl := Nat.eq_of_beq_eq_true h2
    obtain rfl := Sh.beq_eq _ _ h3
    obtain rfl := Sh.beq_eq _ _ h4
    refine comes_of ok prOk_none (L := 100) (ms := []) (by kernel_rfl) loops_none ?_
    refine Eq.mpr (clenF_t2_b ..) ?_
    exact K_run e
  · cases e
def prC2 : FuncId → Option Sy.Spec := addP 28 clenF noP
theorem prC2_ok : PrOk Try.prog prC2 := prOk_add clenF_ok prOk_none
def catF_t0 (i : Int) : RT :=
  RT.br (decide (i < (0 : Int)))
    (okL (AV.tup [AV.agg [AV.int IntKind.i64 (0 : Int), AV.int IntKind.i64 (0 : Int), AV.str []], AV.bool false]) ([]))
    (RT.br (decide (i ≥ (0 : Int)))
      (okL (AV.tup [AV.agg [AV.int IntKind.i64 (0 : Int), AV.int IntKind.i64 (0 : Int), AV.str []], AV.bool false]) ([]))
      (RT.fail))
theorem catF_t0_b (i : Int) (K : AV → St → Prop) : bodyK Try.prog prC2 noL 100 26 [] [.ptr none, .int .i64 i] [] K = RT.K (fun v s _ => K v s) (catF_t0 i) := by kernel_rfl
def catF_t1 (i : Int) (k : Int) (q : Bool) (z : Nat) (vl : List D) (u : Int) : RT :=
  RT.br (decide (i < (0 : Int)))
    (okL (AV.tup [AV.agg [AV.int IntKind.i64 (0 : Int), AV.int IntKind.i64 (0 : Int), AV.str []], AV.bool false]) ([Ent.cells [AV.int IntKind.i64 k, AV.tsl q (shV) (1 : Nat) (0 : Nat) z Cap.tight, AV.ptr none, AV.int IntKind.i64 u], Ent.tbl false (shV) vl]))
    (RT.br (decide (i ≥ (↑z : Int)))
      (okL (AV.tup [AV.agg [AV.int IntKind.i64 (0 : Int), AV.int IntKind.i64 (0 : Int), AV.str []], AV.bool false]) ([Ent.cells [AV.int IntKind.i64 k, AV.tsl q (shV) (1 : Nat) (0 : Nat) z Cap.tight, AV.ptr none, AV.int IntKind.i64 u], Ent.tbl false (shV) vl]))
      (RT.br (decide ((0 : Int) ≤ i) && decide (i < (↑z : Int)))
        (RT.br (decide ((0 : Nat) + i.toNat < vl.length))
          (okL (AV.tup [AV.agg [AV.int IntKind.i64 ((vl.getD ((0 : Nat) + i.toNat) D.nul).fld (0 : Nat)).asInt, AV.int IntKind.i64 ((vl.getD ((0 : Nat) + i.toNat) D.nul).fld (1 : Nat)).asInt, AV.str ((vl.getD ((0 : Nat) + i.toNat) D.nul).fld (2 : Nat)).asStr], AV.bool true]) ([Ent.cells [AV.int IntKind.i64 k, AV.tsl q (shV) (1 : Nat) (0 : Nat) z Cap.tight, AV.ptr none, AV.int IntKind.i64 u], Ent.tbl false (shV) vl]))
          (RT.fail))
        (RT.fail)))
theorem catF_t1_b (i : Int) (k : Int) (q : Bool) (z : Nat) (vl : List D) (u : Int) (K : AV → St → Prop) : bodyK Try.prog prC2 noL 100 26 [] [.ptr (some (0, 0)), .int .i64 i] [.cells [.int .i64 k, .tsl q shV 1 0 z .tight, .ptr none, .int .i64 u], .tbl false shV vl] K = RT.K (fun v s _ => K v s) (catF_t1 i k q z vl u) := by kernel_rfl
def catF_t2 (i : Int) (k : Int) (q : Bool) (z : Nat) (vl : List D) (u : Int) (n : Nat) (l : List D) : RT :=
  RT.br (decide (i < (0 : Int)))
    (okL (AV.tup [AV.agg [AV.int IntKind.i64 (0 : Int), AV.int IntKind.i64 (0 : Int), AV.str []], AV.bool false]) ([Ent.cells [AV.int IntKind.i64 k, AV.tsl q (shV) (1 : Nat) (0 : Nat) z Cap.tight, AV.ptr (some ((2 : Nat), (0 : Nat))), AV.int IntKind.i64 u], Ent.tbl false (shV) vl, Ent.cells [AV.fn (Fn.func (43 : Nat)) [] [], AV.tsl false (Sh.struct [Sh.str, Sh.int IntKind.i64]) (3 : Nat) (0 : Nat) n Cap.tight], Ent.tbl false (Sh.struct [Sh.str, Sh.int IntKind.i64]) l]))
    (RT.br (decide (i ≥ (↑z : Int)))
      (okL (AV.tup [AV.agg [AV.int IntKind.i64 (0 : Int), AV.int IntKind.i64 (0 : Int), AV.str []], AV.bool false]) ([Ent.cells [AV.int IntKind.i64 k, AV.tsl q (shV) (1 : Nat) (0 : Nat) z Cap.tight, AV.ptr (some ((2 : Nat), (0 : Nat))), AV.int IntKind.i64 u], Ent.tbl false (shV) vl, Ent.cells [AV.fn (Fn.func (43 : Nat)) [] [], AV.tsl false (Sh.struct [Sh.str, Sh.int IntKind.i64]) (3 : Nat) (0 : Nat) n Cap.tight], Ent.tbl false (Sh.struct [Sh.str, Sh.int IntKind.i64]) l]))
      (RT.br (decide ((0 : Int) ≤ i) && decide (i < (↑z : Int)))
        (RT.br (decide ((0 : Nat) + i.toNat < vl.length))
          (okL (AV.tup [AV.agg [AV.int IntKind.i64 ((vl.getD ((0 : Nat) + i.toNat) D.nul).fld (0 : Nat)).asInt, AV.int IntKind.i64 ((vl.getD ((0 : Nat) + i.toNat) D.nul).fld (1 : Nat)).asInt, AV.str ((vl.getD ((0 : Nat) + i.toNat) D.nul).fld (2 : Nat)).asStr], AV.bool true]) ([Ent.cells [AV.int IntKind.i64 k, AV.tsl q (shV) (1 : Nat) (0 : Nat) z Cap.tight, AV.ptr (some ((2 : Nat), (0 : Nat))), AV.int IntKind.i64 u], Ent.tbl false (shV) vl, Ent.cells [AV.fn (Fn.func (43 : Nat)) [] [], AV.tsl false (Sh.struct [Sh.str, Sh.int IntKind.i64]) (3 : Nat) (0 : Nat) n Cap.tight], Ent.tbl false (Sh.struct [Sh.str, Sh.int IntKind.i64]) l]))
          (RT.fail))
        (RT.fail)))
theorem catF_t2_b (i : Int) (k : Int) (q : Bool) (z : Nat) (vl : List D) (u : Int) (n : Nat) (l : List D) (K : AV → St → Prop) : bodyK Try.prog prC2 noL 100 26 [] [.ptr (some (0, 0)), .int .i64 i] [.cells [.int .i64 k, .tsl q shV 1 0 z .tight, .ptr (some (2, 0)), .int .i64 u], .tbl false shV vl, .cells [.fn (.func 43) [] [], .tsl false shP 3 0 n .tight], .tbl false shP l] K = RT.K (fun v s _ => K v s) (catF_t2 i k q z vl u n l) := by kernel_rfl
def catF : Sy.Spec := ⟨[], fun args s => match args, s with
  | [.ptr none, .int .i64 i], [] => .br (true) (catF_t0 i) .fail
  | [.ptr (some (0, 0)), .int .i64 i], [.cells [.int .i64 k, .tsl q e0 1 0 z .tight, .ptr none, .int .i64 u], .tbl false e1 vl] => .br (Sh.beq e0 shV && (Sh.beq e1 shV && (true))) (catF_t1 i k q z vl u) .fail
  | [.ptr (some (0, 0)), .int .i64 i], [.cells [.int .i64 k, .tsl q e0 1 0 z .tight, .ptr (some (2, 0)), .int .i64 u], .tbl false e1 vl, .cells [.fn (.func g2) [] [], .tsl false e3 3 0 n .tight], .tbl false e4 l] => .br (Sh.beq e0 shV && (Sh.beq e1 shV && (Nat.beq g2 43 && (Sh.beq e3 shP && (Sh.beq e4 shP && (true)))))) (catF_t2 i k q z vl u n l) .fail
  | _, _ => .fail⟩
theorem catF_ok : SpecOk Try.prog 26 catF.f := specOk_comes fun args s v s' tch e => by
  simp only [catF] at e
  split at e
  · obtain ⟨hg, e⟩ := if_run e
    refine comes_of ok prC2_ok (L := 100) (ms := []) (by kernel_rfl) loops_none ?_
    refine Eq.mpr (catF_t0_b ..) ?_
    exact K_run e
  · obtain ⟨hg, e⟩ := if_run e
    simp only [Bool.and_eq_true] at hg
    obtain ⟨h0, h1, _⟩ := hg
    obtain rfl := Sh.beq_eq _ _ h0
    obtain rfl := Sh.beq_eq _ _ h1
    refine comes_of ok prC2_ok (L := 100) (ms := []) (by kernel_rfl) loops_none ?_
    refine Eq.mpr (catF_t1_b ..) ?_
    exact K_run e
  · obtain ⟨hg, e⟩ := if_run e
    simp only [Bool.and_eq_true] at hg
    obtain ⟨h0, h1, h2, h3, h4, _⟩ := hg
    obtain rfl := Sh.beq_eq _ _ h0
    obtain rfl := Sh.beq_eq _ _ h1
    obtain rfl := Nat.eq_of_beq_eq_true h2
    obtain rfl := Sh.beq_eq _ _ h3
    obtain rfl := Sh.beq_eq _ _ h4
    refine comes_of ok prC2_ok (L := 100) (ms := []) (by kernel_rfl) loops_none ?_
    refine Eq.mpr (catF_t2_b ..) ?_
    exact K_run e
  · cases e
def cwordsF_t0  : RT :=
  okL (AV.int IntKind.i64 (0 : Int)) ([])
theorem cwordsF_t0_b  (K : AV → St → Prop) : bodyK Try.prog prCD noL 100 29 [] [.ptr none] [] K = RT.K (fun v s _ => K v s) (cwordsF_t0 ) := by kernel_rfl
def cwordsF_t1 (k : Int) (q : Bool) (z : Nat) (vl : List D) (u : Int) : RT :=
  RT.br (okC (shV) (shV) vl z)
    (okL (AV.int IntKind.i64 (0 : Int)) ([Ent.cells [AV.int IntKind.i64 k, AV.tsl q (shV) (1 : Nat) (0 : Nat) z Cap.tight, AV.ptr (some ((2 : Nat), (0 : Nat))), AV.int IntKind.i64 u], Ent.tbl false (shV) vl, Ent.cells [AV.fn (Fn.func (43 : Nat)) [] [], AV.tsl false (Sh.struct [Sh.str, Sh.int IntKind.i64]) (3 : Nat) (0 : Nat) (0 : Nat) Cap.tight], Ent.tbl false (Sh.struct [Sh.str, Sh.int IntKind.i64]) []]))
    (RT.fail)
theorem cwordsF_t1_b (k : Int) (q : Bool) (z : Nat) (vl : List D) (u : Int) (K : AV → St → Prop) : bodyK Try.prog prCD noL 100 29 [] [.ptr (some (0, 0))] [.cells [.int .i64 k, .tsl q shV 1 0 z .tight, .ptr none, .int .i64 u], .tbl false shV vl] K = RT.K (fun v s _ => K v s) (cwordsF_t1 k q z vl u) := by kernel_rfl
def cwordsF_t2 (k : Int) (q : Bool) (z : Nat) (vl : List D) (u : Int) (n : Nat) (l : List D) : RT :=
  RT.br (okC (shV) (shV) vl z && okM (Sh.struct [Sh.str, Sh.int IntKind.i64]) (Sh.struct [Sh.str, Sh.int IntKind.i64]) l n)
    (okL (AV.int IntKind.i64 (↑n : Int)) ([Ent.cells [AV.int IntKind.i64 k, AV.tsl q (shV) (1 : Nat) (0 : Nat) z Cap.tight, AV.ptr (some ((2 : Nat), (0 : Nat))), AV.int IntKind.i64 u], Ent.tbl false (shV) vl, Ent.cells [AV.fn (Fn.func (43 : Nat)) [] [], AV.tsl false (Sh.struct [Sh.str, Sh.int IntKind.i64]) (3 : Nat) (0 : Nat) n Cap.tight], Ent.tbl false (Sh.struct [Sh.str, Sh.int IntKind.i64]) l]))
    (RT.fail)
theorem cwordsF_t2_b (k : Int) (q : Bool) (z : Nat) (vl : List D) (u : Int) (n : Nat) (l : List D) (K : AV → St → Prop) : bodyK Try.prog prCD noL 100 29 [] [.ptr (some (0, 0))] [.cells [.int .i64 k, .tsl q shV 1 0 z .tight, .ptr (some (2, 0)), .int .i64 u], .tbl false shV vl, .cells [.fn (.func 43) [] [], .tsl false shP 3 0 n .tight], .tbl false shP l] K = RT.K (fun v s _ => K v s) (cwordsF_t2 k q z vl u n l) := by kernel_rfl
def cwordsF : Sy.Spec := ⟨[], fun args s => match args, s with
  | [.ptr none], [] => .br (true) (cwordsF_t0 ) .fail
  | [.ptr (some (0, 0))], [.cells [.int .i64 k, .tsl q e0 1 0 z .tight, .ptr none, .int .i64 u], .tbl false e1 vl] => .br (Sh.beq e0 shV && (Sh.beq e1 shV && (true))) (cwordsF_t1 k q z vl u) .fail
  | [.ptr (some (0, 0))], [.cells [.int .i64 k, .tsl q e0 1 0 z .tight, .ptr (some (2, 0)), .int .i64 u], .tbl false e1 vl, .cells [.fn (.func g2) [] [], .tsl false e3 3 0 n .tight], .tbl false e4 l] => .br (Sh.beq e0 shV && (Sh.beq e1 shV && (Nat.beq g2 43 && (Sh.beq e3 shP && (Sh.beq e4 shP && (true)))))) (cwordsF_t2 k q z vl u n l) .fail
  | _, _ => .fail⟩
theorem cwordsF_ok : SpecOk Try.prog 29 cwordsF.f := specOk_comes fun args s v s' tch e => by
  simp only [cwordsF] at e
  split at e
  · obtain ⟨hg, e⟩ := if_run e
    refine comes_of ok prCD_ok (L := 100) (ms := []) (by kernel_rfl) loops_none ?_
    refine Eq.mpr (cwordsF_t0_b ..) ?_
    exact K_run e
  · obtain ⟨hg, e⟩ := if_run e
    simp only [Bool.and_eq_true] at hg
    obtain ⟨h0, h1, _⟩ := hg
    obtain rfl := Sh.beq_eq _ _ h0
    obtain rfl := Sh.beq_eq _ _ h1
    refine comes_of ok prCD_ok (L := 100) (ms := []) (by kernel_rfl) loops_none ?_
    refine Eq.mpr (cwordsF_t1_b ..) ?_
    exact K_run e
  · obtain ⟨hg, e⟩ := if_run e
    simp only [Bool.and_eq_true] at hg
    obtain ⟨h0, h1, h2, h3, h4, _⟩ := hg
    obtain rfl := Sh.beq_eq _ _ h0
    obtain rfl := Sh.beq_eq _ _ h1
    obtain rfl := Nat.eq_of_beq_eq_true h2
    obtain rfl := Sh.beq_eq _ _ h3
    obtain rfl := Sh.beq_eq _ _ h4
    refine comes_of ok prCD_ok (L := 100) (ms := []) (by kernel_rfl) loops_none ?_
    refine Eq.mpr (cwordsF_t2_b ..) ?_
    exact K_run e
  · cases e
def cnullsF_t0  : RT :=
  okL (AV.int IntKind.i64 (0 : Int)) ([])
theorem cnullsF_t0_b  (K : AV → St → Prop) : bodyK Try.prog noP noL 100 30 [] [.ptr none] [] K = RT.K (fun v s _ => K v s) (cnullsF_t0 ) := by kernel_rfl
def cnullsF_t1 (k : Int) (q : Bool) (z : Nat) (vl : List D) (u : Int) : RT :=
  okL (AV.int IntKind.i64 u) ([Ent.cells [AV.int IntKind.i64 k, AV.tsl q (shV) (1 : Nat) (0 : Nat) z Cap.tight, AV.ptr none, AV.int IntKind.i64 u], Ent.tbl false (shV) vl])
theorem cnullsF_t1_b (k : Int) (q : Bool) (z : Nat) (vl : List D) (u : Int) (K : AV → St → Prop) : bodyK Try.prog noP noL 100 30 [] [.ptr (some (0, 0))] [.cells [.int .i64 k, .tsl q shV 1 0 z .tight, .ptr none, .int .i64 u], .tbl false shV vl] K = RT.K (fun v s _ => K v s) (cnullsF_t1 k q z vl u) := by kernel_rfl
def cnullsF_t2 (k : Int) (q : Bool) (z : Nat) (vl : List D) (u : Int) (n : Nat) (l : List D) : RT :=
  okL (AV.int IntKind.i64 u) ([Ent.cells [AV.int IntKind.i64 k, AV.tsl q (shV) (1 : Nat) (0 : Nat) z Cap.tight, AV.ptr (some ((2 : Nat), (0 : Nat))), AV.int IntKind.i64 u], Ent.tbl false (shV) vl, Ent.cells [AV.fn (Fn.func (43 : Nat)) [] [], AV.tsl false (Sh.struct [Sh.str, Sh.int IntKind.i64]) (3 : Nat) (0 : Nat) n Cap.tight], Ent.tbl false (Sh.struct [Sh.str, Sh.int IntKind.i64]) l])
theorem cnullsF_t2_b (k : Int) (q : Bool) (z : Nat) (vl : List D) (u : Int) (n : Nat) (l : List D) (K : AV → St → Prop) : bodyK Try.prog noP noL 100 30 [] [.ptr (some (0, 0))] [.cells [.int .i64 k, .tsl q shV 1 0 z .tight, .ptr (some (2, 0)), .int .i64 u], .tbl false shV vl, .cells [.fn (.func 43) [] [], .tsl false shP 3 0 n .tight], .tbl false shP l] K = RT.K (fun v s _ => K v s) (cnullsF_t2 k q z vl u n l) := by kernel_rfl
def cnullsF : Sy.Spec := ⟨[], fun args s => match args, s with
  | [.ptr none], [] => .br (true) (cnullsF_t0 ) .fail
  | [.ptr (some (0, 0))], [.cells [.int .i64 k, .tsl q e0 1 0 z .tight, .ptr none, .int .i64 u], .tbl false e1 vl] => .br (Sh.beq e0 shV && (Sh.beq e1 shV && (true))) (cnullsF_t1 k q z vl u) .fail
  | [.ptr (some (0, 0))], [.cells [.int .i64 k, .tsl q e0 1 0 z .tight, .ptr (some (2, 0)), .int .i64 u], .tbl false e1 vl, .cells [.fn (.func g2) [] [], .tsl false e3 3 0 n .tight], .tbl false e4 l] => .br (Sh.beq e0 shV && (Sh.beq e1 shV && (Nat.beq g2 43 && (Sh.beq e3 shP && (Sh.beq e4 shP && (true)))))) (cnullsF_t2 k q z vl u n l) .fail
  | _, _ => .fail⟩
theorem cnullsF_ok : SpecOk Try.prog 30 cnullsF.f := specOk_comes fun args s v s' tch e => by
  simp only [cnullsF] at e
  split at e
  · obtain ⟨hg, e⟩ := if_run e
    refine comes_of ok prOk_none (L := 100) (ms := []) (by kernel_rfl) loops_none ?_
    refine Eq.mpr (cnullsF_t0_b ..) ?_
    exact K_run e
  · obtain ⟨hg, e⟩ := if_run e
    simp only [Bool.and_eq_true] at hg
    obtain ⟨h0, h1, _⟩ := hg
    obtain rfl := Sh.beq_eq _ _ h0
    obtain rfl := Sh.beq_eq _ _ h1
    refine comes_of ok prOk_none (L := 100) (ms := []) (by kernel_rfl) loops_none ?_
    refine Eq.mpr (cnullsF_t1_b ..) ?_
    exact K_run e
  · obtain ⟨hg, e⟩ := if_run e
    simp only [Bool.and_eq_true] at hg
    obtain ⟨h0, h1, h2, h3, h4, _⟩ := hg
    obtain rfl := Sh.beq_eq _ _ h0
    obtain rfl := Sh.beq_eq _ _ h1
    obtain rfl := Nat.eq_of_beq_eq_true h2
    obtain rfl := Sh.beq_eq _ _ h3
    obtain rfl := Sh.beq_eq _ _ h4
    refine comes_of ok prOk_none (L := 100) (ms := []) (by kernel_rfl) loops_none ?_
    refine Eq.mpr (cnullsF_t2_b ..) ?_
    exact K_run e
  · cases e
noncomputable def prCE : FuncId → Option Sy.Spec := addP 21 newCF (addP 24 cappF (addP 25 csetF (addP 28 clenF (addP 26 catF (addP 29 cwordsF (addP 30 cnullsF noP))))))
theorem prCE_ok : PrOk Try.prog prCE := prOk_add cnew_ok (prOk_add cappF_ok (prOk_add csetF_ok (prOk_add clenF_ok (prOk_add catF_ok (prOk_add cwordsF_ok (prOk_add cnullsF_ok prOk_none))))))
theorem cbeg_body (K : AV → St → Prop) : bodyK Try.prog prCE noL 100 20 [] [] [] K =
  K (AV.bool true) [] := by kernel_rfl
theorem cbeg_ok : SpecOk Try.prog 20 trueF0.f := specOk_comes fun args s v s' tch e => by
  simp only [trueF0] at e
  split at e
  · obtain ⟨hg, rfl, rfl, rfl⟩ := run_ok e
    refine comes_of ok prCE_ok (L := 100) (ms := []) (by kernel_rfl) loops_none ?_
    rw [cbeg_body]
    exact ⟨rfl, rfl⟩
  · cases e
noncomputable def prCG : FuncId → Option Sy.Spec := addP 20 trueF0 prCE
theorem prCG_ok : PrOk Try.prog prCG := prOk_add cbeg_ok prCE_ok
theorem cnone_body (K : AV → St → Prop) : bodyK Try.prog prCG noL 100 8 [] [] [] K =
  K (AV.bool true) [] := by kernel_rfl
theorem columnNone_comes : Sy.Comes Try.prog 8 [] [] (.bool true) [] := by
  refine comes_of ok prCG_ok (L := 100) (ms := []) (by kernel_rfl) loops_none ?_
  rw [cnone_body]
  exact ⟨rfl, rfl⟩
end Go.Proofs.Ytkfdfenaaidkkaa
