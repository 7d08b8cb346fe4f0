/- Walks: words in a column. -/
import Derived.Test.YtkfdfenaaidkkaaColV
import Derived.Test.YtkfdfenaaidkkaaPvR
import Derived.KernelRfl
set_option linter.unusedSimpArgs false
set_option linter.unusedVariables false
set_option maxRecDepth 100000
namespace Go.Proofs.Ytkfdfenaaidkkaa
open Go Go.Sy
attribute [local irreducible] bodyK roundK
theorem cwords0_body (k : Int) (q : Bool) (z : Nat) (vl : List D) (u : Int) (K : AV → St → Prop) : bodyK Try.prog prW noL 100 32 [] [.ptr (some (0, 2))] (c0S k q z vl u) K =
  K (AV.ptr (some ((0 : Nat) + (1 : Nat) + (1 : Nat), (0 : Nat)))) [Ent.cells [AV.int IntKind.i64 k, AV.tsl q (shV) ((0 : Nat) + (1 : Nat)) (0 : Nat) z Cap.tight, AV.ptr (some ((0 : Nat) + (1 : Nat) + (1 : Nat), (0 : Nat))), AV.int IntKind.i64 u], Ent.tbl false (shV) vl, Ent.cells [AV.fn (Fn.func (43 : Nat)) [] [], AV.tsl false (Sh.struct [Sh.str, Sh.int IntKind.i64]) ((0 : Nat) + (1 : Nat) + (1 : Nat) + (1 : Nat)) (0 : Nat) (0 : Nat) Cap.tight], Ent.tbl false (Sh.struct [Sh.str, Sh.int IntKind.i64]) []] := by kernel_rfl
theorem cwords1_body (k : Int) (q : Bool) (z : Nat) (vl : List D) (u : Int) (nn : Bool) (n : Nat) (l : List D) (K : AV → St → Prop) : bodyK Try.prog prW noL 100 32 [] [.ptr (some (0, 2))] (c1S 43 k q z vl u nn n l) K =
  K (AV.ptr (some ((2 : Nat), (0 : Nat)))) [Ent.cells [AV.int IntKind.i64 k, AV.tsl q (shV) (1 : Nat) (0 : Nat) z Cap.tight, AV.ptr (some ((2 : Nat), (0 : Nat))), AV.int IntKind.i64 u], Ent.tbl false (shV) vl, Ent.cells [AV.fn (Fn.func (43 : Nat)) [] [], AV.tsl nn (Sh.struct [Sh.str, Sh.int IntKind.i64]) (3 : Nat) (0 : Nat) n Cap.tight], Ent.tbl false (Sh.struct [Sh.str, Sh.int IntKind.i64]) l] := by kernel_rfl
theorem cwords_ok : SpecOk Try.prog 32 (wordsCF 43).f := specOk_comes fun args s v s' tch e => by
  simp only [wordsCF] at e
  split at e
  · obtain ⟨hg, rfl, rfl, rfl⟩ := run_ok (g := _) e
    simp only [Bool.and_eq_true] at hg
    obtain ⟨h1, h2⟩ := hg
    have h1 := Sh.beq_eq _ _ h1
    have h2 := Sh.beq_eq _ _ h2
    subst h1 h2
    refine comes_of ok prW_ok (L := 100) (ms := []) (by kernel_rfl) loops_none ?_
    refine Eq.mpr (cwords0_body ..) ?_
    exact ⟨rfl, rfl⟩
  · obtain ⟨hg, rfl, rfl, rfl⟩ := run_ok (g := _) e
    simp only [Bool.and_eq_true, okM_iff] at hg
    obtain ⟨h1, h2, h3, rfl, rfl, hl, hn⟩ := hg
    have h1 := Sh.beq_eq _ _ h1
    have h2 := Sh.beq_eq _ _ h2
    have h3 := Nat.eq_of_beq_eq_true h3
    subst h1 h2 h3
    refine comes_of ok prW_ok (L := 100) (ms := []) (by kernel_rfl) loops_none ?_
    refine Eq.mpr (cwords1_body ..) ?_
    exact ⟨rfl, rfl⟩
  · cases e
def prCA : FuncId → Option Sy.Spec := addP 32 (wordsCF 43) (addP 33 (getMF 43) (addP 34 (putMF 43) (addP 35 (delMF 43) (addP 36 (lenMF 43) noP))))
theorem prCA_ok : PrOk Try.prog prCA := prOk_add cwords_ok (prOk_add getM_ok (prOk_add putM_ok (prOk_add delM_ok (prOk_add lenM_ok prOk_none))))
theorem cadd0_body (x : List UInt8) (k : Int) (q : Bool) (z : Nat) (vl : List D) (u : Int) (K : AV → St → Prop) : bodyK Try.prog prCA noL 100 12 [] [.ptr (some (0, 2)), .str x] (c0S k q z vl u) K =
  K (AV.bool true) [Ent.cells [AV.int IntKind.i64 k, AV.tsl q (shV) ((0 : Nat) + (1 : Nat)) (0 : Nat) z Cap.tight, AV.ptr (some ((0 : Nat) + (1 : Nat) + (1 : Nat), (0 : Nat))), AV.int IntKind.i64 u], Ent.tbl false (shV) vl, Ent.cells [AV.fn (Fn.func (43 : Nat)) [] [], AV.tsl true (Sh.struct [Sh.str, Sh.int IntKind.i64]) ((0 : Nat) + (1 : Nat) + (1 : Nat) + (1 : Nat)) (0 : Nat) (1 : Nat) Cap.tight], Ent.tbl false (Sh.struct [Sh.str, Sh.int IntKind.i64]) (insK [] (bs [] x) x (IntKind.i64.wrap (getK [] x + (1 : Int))))] := by kernel_rfl
theorem cadd1_body (x : List UInt8) (k : Int) (q : Bool) (z : Nat) (vl : List D) (u : Int) (nn : Bool) (n : Nat) (l : List D) (K : AV → St → Prop) : bodyK Try.prog prCA noL 100 12 [] [.ptr (some (0, 2)), .str x] (c1S 43 k q z vl u nn n l) K =
  br (okM (Sh.struct [Sh.str, Sh.int IntKind.i64]) (Sh.struct [Sh.str, Sh.int IntKind.i64]) l n)
    (br (okM (Sh.struct [Sh.str, Sh.int IntKind.i64]) (Sh.struct [Sh.str, Sh.int IntKind.i64]) l n)
      (br (hasB l x)
        (br (okM (Sh.struct [Sh.str, Sh.int IntKind.i64]) (Sh.struct [Sh.str, Sh.int IntKind.i64]) l n)
          (K (AV.bool false) [Ent.cells [AV.int IntKind.i64 k, AV.tsl q (shV) ((0 : Nat) + (1 : Nat)) (0 : Nat) z Cap.tight, AV.ptr (some ((0 : Nat) + (1 : Nat) + (1 : Nat), (0 : Nat))), AV.int IntKind.i64 u], Ent.tbl false (shV) vl, Ent.cells [AV.fn (Fn.func (43 : Nat)) [] [], AV.tsl nn (Sh.struct [Sh.str, Sh.int IntKind.i64]) ((0 : Nat) + (1 : Nat) + (1 : Nat) + (1 : Nat)) (0 : Nat) n Cap.tight], Ent.tbl false (Sh.struct [Sh.str, Sh.int IntKind.i64]) (setK l (bs l x) (IntKind.i64.wrap (getK l x + (1 : Int))))])
          (False))
        (br (okM (Sh.struct [Sh.str, Sh.int IntKind.i64]) (Sh.struct [Sh.str, Sh.int IntKind.i64]) l n)
          (K (AV.bool true) [Ent.cells [AV.int IntKind.i64 k, AV.tsl q (shV) ((0 : Nat) + (1 : Nat)) (0 : Nat) z Cap.tight, AV.ptr (some ((0 : Nat) + (1 : Nat) + (1 : Nat), (0 : Nat))), AV.int IntKind.i64 u], Ent.tbl false (shV) vl, Ent.cells [AV.fn (Fn.func (43 : Nat)) [] [], AV.tsl true (Sh.struct [Sh.str, Sh.int IntKind.i64]) ((0 : Nat) + (1 : Nat) + (1 : Nat) + (1 : Nat) + (1 : Nat)) (0 : Nat) (n + (1 : Nat)) Cap.tight], Ent.dead, Ent.tbl false (Sh.struct [Sh.str, Sh.int IntKind.i64]) (insK l (bs l x) x (IntKind.i64.wrap (getK l x + (1 : Int))))])
          (False)))
      (False))
    (False) := by kernel_rfl
theorem cadd_ok : SpecOk Try.prog 12 (addCF 43).f := specOk_comes fun args s v s' tch e => by
  simp only [addCF] at e
  split at e
  · obtain ⟨hg, rfl, rfl, rfl⟩ := run_ok (g := _) e
    simp only [okC_iff] at hg
    obtain ⟨rfl, rfl, hz, hzn⟩ := hg
    refine comes_of ok prCA_ok (L := 100) (ms := []) (by kernel_rfl) loops_none ?_
    refine Eq.mpr (cadd0_body ..) ?_
    exact ⟨rfl, rfl⟩
  · rename_i x k q e1 z u e2 vl g nn e0 n sh l
    simp only [RT.run] at e
    split at e
    · rename_i hh
      obtain ⟨hg, rfl, rfl, rfl⟩ := run_ok (g := _) e
      simp only [Bool.and_eq_true, okM_iff, okC_iff] at hg
      obtain ⟨⟨rfl, rfl, hz, hzn⟩, h1, rfl, rfl, hl, hn⟩ := hg
      have h1 := Nat.eq_of_beq_eq_true h1
      subst h1
      refine comes_of ok prCA_ok (L := 100) (ms := []) (by kernel_rfl) loops_none ?_
      refine Eq.mpr (cadd1_body ..) ?_
      exact br_t (okM_mk hl hn) (br_t (okM_mk hl hn) (br_t hh (br_t (okM_mk hl hn) ⟨rfl, rfl⟩)))
    · rename_i hh
      obtain ⟨hg, rfl, rfl, rfl⟩ := run_ok (g := _) e
      simp only [Bool.and_eq_true, okM_iff, okC_iff] at hg
      obtain ⟨⟨rfl, rfl, hz, hzn⟩, h1, rfl, rfl, hl, hn⟩ := hg
      have h1 := Nat.eq_of_beq_eq_true h1
      subst h1
      refine comes_of ok prCA_ok (L := 100) (ms := []) (by kernel_rfl) loops_none ?_
      refine Eq.mpr (cadd1_body ..) ?_
      refine br_t (okM_mk hl hn) (br_t (okM_mk hl hn) (br_mk (fun h => by rw [hh] at h; cases h) (fun _ => br_t (okM_mk hl hn) ⟨rfl, ?_⟩)))
      simp only [getK, hh]
      rfl
  · cases e
theorem ctake0_body (x : List UInt8) (k : Int) (q : Bool) (z : Nat) (vl : List D) (u : Int) (K : AV → St → Prop) : bodyK Try.prog prCA noL 100 13 [] [.ptr (some (0, 2)), .str x] (c0S k q z vl u) K =
  K (AV.bool (hasB [] x)) [Ent.cells [AV.int IntKind.i64 k, AV.tsl q (shV) ((0 : Nat) + (1 : Nat)) (0 : Nat) z Cap.tight, AV.ptr (some ((0 : Nat) + (1 : Nat) + (1 : Nat), (0 : Nat))), AV.int IntKind.i64 u], Ent.tbl false (shV) vl, Ent.cells [AV.fn (Fn.func (43 : Nat)) [] [], AV.tsl false (Sh.struct [Sh.str, Sh.int IntKind.i64]) ((0 : Nat) + (1 : Nat) + (1 : Nat) + (1 : Nat)) (0 : Nat) (0 : Nat) Cap.tight], Ent.tbl false (Sh.struct [Sh.str, Sh.int IntKind.i64]) []] := by kernel_rfl
theorem ctake1_body (x : List UInt8) (k : Int) (q : Bool) (z : Nat) (vl : List D) (u : Int) (nn : Bool) (n : Nat) (l : List D) (K : AV → St → Prop) : bodyK Try.prog prCA noL 100 13 [] [.ptr (some (0, 2)), .str x] (c1S 43 k q z vl u nn n l) K =
  br (okM (Sh.struct [Sh.str, Sh.int IntKind.i64]) (Sh.struct [Sh.str, Sh.int IntKind.i64]) l n)
    (br (okM (Sh.struct [Sh.str, Sh.int IntKind.i64]) (Sh.struct [Sh.str, Sh.int IntKind.i64]) l n)
      (br (decide (getK l x > (1 : Int)))
        (br (hasB l x)
          (br (okM (Sh.struct [Sh.str, Sh.int IntKind.i64]) (Sh.struct [Sh.str, Sh.int IntKind.i64]) l n)
            (K (AV.bool (hasB l x)) [Ent.cells [AV.int IntKind.i64 k, AV.tsl q (shV) ((0 : Nat) + (1 : Nat)) (0 : Nat) z Cap.tight, AV.ptr (some ((0 : Nat) + (1 : Nat) + (1 : Nat), (0 : Nat))), AV.int IntKind.i64 u], Ent.tbl false (shV) vl, Ent.cells [AV.fn (Fn.func (43 : Nat)) [] [], AV.tsl nn (Sh.struct [Sh.str, Sh.int IntKind.i64]) ((0 : Nat) + (1 : Nat) + (1 : Nat) + (1 : Nat)) (0 : Nat) n Cap.tight], Ent.tbl false (Sh.struct [Sh.str, Sh.int IntKind.i64]) (setK l (bs l x) (IntKind.i64.wrap (getK l x - (1 : Int))))])
            (False))
          (br (okM (Sh.struct [Sh.str, Sh.int IntKind.i64]) (Sh.struct [Sh.str, Sh.int IntKind.i64]) l n)
            (K (AV.bool (hasB l x)) [Ent.cells [AV.int IntKind.i64 k, AV.tsl q (shV) ((0 : Nat) + (1 : Nat)) (0 : Nat) z Cap.tight, AV.ptr (some ((0 : Nat) + (1 : Nat) + (1 : Nat), (0 : Nat))), AV.int IntKind.i64 u], Ent.tbl false (shV) vl, Ent.cells [AV.fn (Fn.func (43 : Nat)) [] [], AV.tsl true (Sh.struct [Sh.str, Sh.int IntKind.i64]) ((0 : Nat) + (1 : Nat) + (1 : Nat) + (1 : Nat) + (1 : Nat)) (0 : Nat) (n + (1 : Nat)) Cap.tight], Ent.dead, Ent.tbl false (Sh.struct [Sh.str, Sh.int IntKind.i64]) (insK l (bs l x) x (IntKind.i64.wrap (getK l x - (1 : Int))))])
            (False)))
        (br (hasB l x)
          (br (hasB l x)
            (br (okM (Sh.struct [Sh.str, Sh.int IntKind.i64]) (Sh.struct [Sh.str, Sh.int IntKind.i64]) l n)
              (K (AV.bool (hasB l x)) [Ent.cells [AV.int IntKind.i64 k, AV.tsl q (shV) ((0 : Nat) + (1 : Nat)) (0 : Nat) z Cap.tight, AV.ptr (some ((0 : Nat) + (1 : Nat) + (1 : Nat), (0 : Nat))), AV.int IntKind.i64 u], Ent.tbl false (shV) vl, Ent.cells [AV.fn (Fn.func (43 : Nat)) [] [], AV.tsl true (Sh.struct [Sh.str, Sh.int IntKind.i64]) ((0 : Nat) + (1 : Nat) + (1 : Nat) + (1 : Nat) + (1 : Nat)) (0 : Nat) (n - (1 : Nat)) Cap.tight], Ent.dead, Ent.tbl false (Sh.struct [Sh.str, Sh.int IntKind.i64]) (delK l (bs l x))])
              (False))
            (br (okM (Sh.struct [Sh.str, Sh.int IntKind.i64]) (Sh.struct [Sh.str, Sh.int IntKind.i64]) l n)
              (K (AV.bool (hasB l x)) [Ent.cells [AV.int IntKind.i64 k, AV.tsl q (shV) ((0 : Nat) + (1 : Nat)) (0 : Nat) z Cap.tight, AV.ptr (some ((0 : Nat) + (1 : Nat) + (1 : Nat), (0 : Nat))), AV.int IntKind.i64 u], Ent.tbl false (shV) vl, Ent.cells [AV.fn (Fn.func (43 : Nat)) [] [], AV.tsl nn (Sh.struct [Sh.str, Sh.int IntKind.i64]) ((0 : Nat) + (1 : Nat) + (1 : Nat) + (1 : Nat)) (0 : Nat) n Cap.tight], Ent.tbl false (Sh.struct [Sh.str, Sh.int IntKind.i64]) l])
              (False)))
          (K (AV.bool (hasB l x)) [Ent.cells [AV.int IntKind.i64 k, AV.tsl q (shV) ((0 : Nat) + (1 : Nat)) (0 : Nat) z Cap.tight, AV.ptr (some ((0 : Nat) + (1 : Nat) + (1 : Nat), (0 : Nat))), AV.int IntKind.i64 u], Ent.tbl false (shV) vl, Ent.cells [AV.fn (Fn.func (43 : Nat)) [] [], AV.tsl nn (Sh.struct [Sh.str, Sh.int IntKind.i64]) ((0 : Nat) + (1 : Nat) + (1 : Nat) + (1 : Nat)) (0 : Nat) n Cap.tight], Ent.tbl false (Sh.struct [Sh.str, Sh.int IntKind.i64]) l])))
      (False))
    (False) := by kernel_rfl
theorem ctake_ok : SpecOk Try.prog 13 (takeCF 43).f := specOk_comes fun args s v s' tch e => by
  simp only [takeCF] at e
  split at e
  · obtain ⟨hg, rfl, rfl, rfl⟩ := run_ok (g := _) e
    simp only [okC_iff] at hg
    obtain ⟨rfl, rfl, hz, hzn⟩ := hg
    refine comes_of ok prCA_ok (L := 100) (ms := []) (by kernel_rfl) loops_none ?_
    refine Eq.mpr (ctake0_body ..) ?_
    exact ⟨rfl, rfl⟩
  · rename_i x k q e1 z u e2 vl g nn e0 n sh l
    simp only [RT.run] at e
    split at e
    · rename_i hh
      split at e
      · rename_i h2
        obtain ⟨hg, rfl, rfl, rfl⟩ := run_ok (g := _) e
        simp only [Bool.and_eq_true, okM_iff, okC_iff] at hg
        obtain ⟨⟨rfl, rfl, hz, hzn⟩, h1, rfl, rfl, hl, hn⟩ := hg
        have h1 := Nat.eq_of_beq_eq_true h1
        subst h1
        refine comes_of ok prCA_ok (L := 100) (ms := []) (by kernel_rfl) loops_none ?_
        refine Eq.mpr (ctake1_body ..) ?_
        exact br_t (okM_mk hl hn) (br_t (okM_mk hl hn) (br_t h2 (br_t hh (br_t (okM_mk hl hn) ⟨by rw [hh], rfl⟩))))
      · rename_i h2
        obtain ⟨hg, rfl, rfl, rfl⟩ := run_ok (g := _) e
        simp only [Bool.and_eq_true, okM_iff, okC_iff] at hg
        obtain ⟨⟨rfl, rfl, hz, hzn⟩, h1, rfl, rfl, hl, hn⟩ := hg
        have h1 := Nat.eq_of_beq_eq_true h1
        subst h1
        refine comes_of ok prCA_ok (L := 100) (ms := []) (by kernel_rfl) loops_none ?_
        refine Eq.mpr (ctake1_body ..) ?_
        exact br_t (okM_mk hl hn) (br_t (okM_mk hl hn) (br_mk (fun h => by rw [h2] at h; cases h) (fun _ => br_t hh (br_t hh (br_t (okM_mk hl hn) ⟨by rw [hh], rfl⟩)))))
    · rename_i hh
      obtain ⟨hg, rfl, rfl, rfl⟩ := run_ok (g := _) e
      simp only [Bool.and_eq_true, okM_iff, okC_iff] at hg
      obtain ⟨⟨rfl, rfl, hz, hzn⟩, h1, rfl, rfl, hl, hn⟩ := hg
      have h1 := Nat.eq_of_beq_eq_true h1
      subst h1
      refine comes_of ok prCA_ok (L := 100) (ms := []) (by kernel_rfl) loops_none ?_
      refine Eq.mpr (ctake1_body ..) ?_
      refine br_t (okM_mk hl hn) (br_t (okM_mk hl hn) (br_iff.2 ⟨fun h => ?_, fun _ => br_mk (fun h => by rw [hh] at h; cases h) (fun _ => ⟨by rw [hh], rfl⟩)⟩))
      simp only [getK, hh] at h
      omega
  · cases e
theorem clen0_body (k : Int) (q : Bool) (z : Nat) (vl : List D) (u : Int) (K : AV → St → Prop) : bodyK Try.prog prCA noL 100 15 [] [.ptr (some (0, 2))] (c0S k q z vl u) K =
  K (AV.int IntKind.i64 (0 : Int)) [Ent.cells [AV.int IntKind.i64 k, AV.tsl q (shV) ((0 : Nat) + (1 : Nat)) (0 : Nat) z Cap.tight, AV.ptr (some ((0 : Nat) + (1 : Nat) + (1 : Nat), (0 : Nat))), AV.int IntKind.i64 u], Ent.tbl false (shV) vl, Ent.cells [AV.fn (Fn.func (43 : Nat)) [] [], AV.tsl false (Sh.struct [Sh.str, Sh.int IntKind.i64]) ((0 : Nat) + (1 : Nat) + (1 : Nat) + (1 : Nat)) (0 : Nat) (0 : Nat) Cap.tight], Ent.tbl false (Sh.struct [Sh.str, Sh.int IntKind.i64]) []] := by kernel_rfl
theorem clen1_body (k : Int) (q : Bool) (z : Nat) (vl : List D) (u : Int) (nn : Bool) (n : Nat) (l : List D) (K : AV → St → Prop) : bodyK Try.prog prCA noL 100 15 [] [.ptr (some (0, 2))] (c1S 43 k q z vl u nn n l) K =
  br (okM (Sh.struct [Sh.str, Sh.int IntKind.i64]) (Sh.struct [Sh.str, Sh.int IntKind.i64]) l n)
    (br (okM (Sh.struct [Sh.str, Sh.int IntKind.i64]) (Sh.struct [Sh.str, Sh.int IntKind.i64]) l n)
      (K (AV.int IntKind.i64 (↑n : Int)) [Ent.cells [AV.int IntKind.i64 k, AV.tsl q (shV) ((0 : Nat) + (1 : Nat)) (0 : Nat) z Cap.tight, AV.ptr (some ((0 : Nat) + (1 : Nat) + (1 : Nat), (0 : Nat))), AV.int IntKind.i64 u], Ent.tbl false (shV) vl, Ent.cells [AV.fn (Fn.func (43 : Nat)) [] [], AV.tsl nn (Sh.struct [Sh.str, Sh.int IntKind.i64]) ((0 : Nat) + (1 : Nat) + (1 : Nat) + (1 : Nat)) (0 : Nat) n Cap.tight], Ent.tbl false (Sh.struct [Sh.str, Sh.int IntKind.i64]) l])
      (False))
    (False) := by kernel_rfl
theorem clen_ok : SpecOk Try.prog 15 (lenCF 43).f := specOk_comes fun args s v s' tch e => by
  simp only [lenCF] at e
  split at e
  · obtain ⟨hg, rfl, rfl, rfl⟩ := run_ok (g := _) e
    simp only [okC_iff] at hg
    obtain ⟨rfl, rfl, hz, hzn⟩ := hg
    refine comes_of ok prCA_ok (L := 100) (ms := []) (by kernel_rfl) loops_none ?_
    refine Eq.mpr (clen0_body ..) ?_
    exact ⟨rfl, rfl⟩
  · obtain ⟨hg, rfl, rfl, rfl⟩ := run_ok (g := _) e
    simp only [Bool.and_eq_true, okM_iff, okC_iff] at hg
    obtain ⟨⟨rfl, rfl, hz, hzn⟩, h1, rfl, rfl, hl, hn⟩ := hg
    have h1 := Nat.eq_of_beq_eq_true h1
    subst h1
    refine comes_of ok prCA_ok (L := 100) (ms := []) (by kernel_rfl) loops_none ?_
    refine Eq.mpr (clen1_body ..) ?_
    exact br_t (okM_mk hl hn) (br_t (okM_mk hl hn) ⟨rfl, rfl⟩)
  · cases e
end Go.Proofs.Ytkfdfenaaidkkaa
