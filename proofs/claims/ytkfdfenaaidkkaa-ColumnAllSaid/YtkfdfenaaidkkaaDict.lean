/- Walks: words in order. -/
import Derived.Test.YtkfdfenaaidkkaaOmap
import Derived.Test.YtkfdfenaaidkkaaPvK
import Derived.KernelRfl
set_option linter.unusedSimpArgs false
set_option linter.unusedVariables false
set_option maxRecDepth 100000
namespace Go.Proofs.Ytkfdfenaaidkkaa
open Go Go.Sy
attribute [local irreducible] bodyK roundK
def prW : FuncId → Option Sy.Spec := addP 42 (newMF 43) noP
theorem words0_body (K : AV → St → Prop) : bodyK Try.prog prW noL 100 32 [] [.ptr (some (0, 0))] a0S K =
  K (AV.ptr (some ((1 : Nat), (0 : Nat)))) [Ent.cells [AV.ptr (some ((1 : Nat), (0 : Nat)))], Ent.cells [AV.fn (Fn.func (43 : Nat)) [] [], AV.tsl false (Sh.struct [Sh.str, Sh.int IntKind.i64]) (2 : Nat) (0 : Nat) (0 : Nat) Cap.tight], Ent.tbl false (Sh.struct [Sh.str, Sh.int IntKind.i64]) []] := by kernel_rfl
theorem words1_body (nn : Bool) (n : Nat) (l : List D) (K : AV → St → Prop) : bodyK Try.prog prW noL 100 32 [] [.ptr (some (0, 0))] (a1S 43 l nn n) K =
  K (AV.ptr (some ((1 : Nat), (0 : Nat)))) [Ent.cells [AV.ptr (some ((1 : Nat), (0 : Nat)))], Ent.cells [AV.fn (Fn.func (43 : Nat)) [] [], AV.tsl nn (Sh.struct [Sh.str, Sh.int IntKind.i64]) (2 : Nat) (0 : Nat) n Cap.tight], Ent.tbl false (Sh.struct [Sh.str, Sh.int IntKind.i64]) l] := by kernel_rfl
theorem prW_ok : PrOk Try.prog prW := prOk_add newM_ok prOk_none
theorem words_ok : SpecOk Try.prog 32 (wordsF 43).f := specOk_comes fun args s v s' tch e => by
  simp only [wordsF] at e
  split at e
  · obtain ⟨hg, rfl, rfl, rfl⟩ := run_ok e
    refine comes_of ok prW_ok (L := 100) (ms := []) (by kernel_rfl) loops_none ?_
    refine Eq.mpr (words0_body ..) ?_
    exact ⟨rfl, rfl⟩
  · rename_i g nn e0 n sh l
    obtain ⟨hg, rfl, rfl, rfl⟩ := run_ok (g := _) e
    simp only [Bool.and_eq_true, okM_iff] at hg
    obtain ⟨h1, h2, h3, hl, hn⟩ := hg
    have h1 := Nat.eq_of_beq_eq_true h1
    subst h1 h2 h3
    refine comes_of ok prW_ok (L := 100) (ms := []) (by kernel_rfl) loops_none ?_
    refine Eq.mpr (words1_body ..) ?_
    exact ⟨rfl, rfl⟩
  · cases e
def prA : FuncId → Option Sy.Spec := addP 32 (wordsF 43) (addP 33 (getMF 43) (addP 34 (putMF 43) (addP 35 (delMF 43) (addP 37 (rankMF 43) (addP 36 (lenMF 43) (addP 38 (atMF 43) noP))))))
theorem prA_ok : PrOk Try.prog prA := prOk_add words_ok (prOk_add getM_ok (prOk_add putM_ok (prOk_add delM_ok (prOk_add rankM_ok (prOk_add lenM_ok (prOk_add atM_ok prOk_none))))))
theorem add0_body (k : List UInt8) (K : AV → St → Prop) : bodyK Try.prog prA noL 100 12 [] [.ptr (some (0, 0)), .str k] a0S K =
  K (AV.bool true) [Ent.cells [AV.ptr (some ((0 : Nat) + (1 : Nat), (0 : Nat)))], Ent.cells [AV.fn (Fn.func (43 : Nat)) [] [], AV.tsl true (Sh.struct [Sh.str, Sh.int IntKind.i64]) ((0 : Nat) + (1 : Nat) + (1 : Nat)) (0 : Nat) (1 : Nat) Cap.tight], Ent.tbl false (Sh.struct [Sh.str, Sh.int IntKind.i64]) (insK [] (bs [] k) k (IntKind.i64.wrap (getK [] k + (1 : Int))))] := by kernel_rfl
theorem add1_body (k : List UInt8) (nn : Bool) (n : Nat) (l : List D) (K : AV → St → Prop) : bodyK Try.prog prA noL 100 12 [] [.ptr (some (0, 0)), .str k] (a1S 43 l nn n) K =
  br (okM (Sh.struct [Sh.str, Sh.int IntKind.i64]) (Sh.struct [Sh.str, Sh.int IntKind.i64]) l n)
    (br (okM (Sh.struct [Sh.str, Sh.int IntKind.i64]) (Sh.struct [Sh.str, Sh.int IntKind.i64]) l n)
      (br (hasB l k)
        (br (okM (Sh.struct [Sh.str, Sh.int IntKind.i64]) (Sh.struct [Sh.str, Sh.int IntKind.i64]) l n)
          (K (AV.bool false) [Ent.cells [AV.ptr (some ((0 : Nat) + (1 : Nat), (0 : Nat)))], Ent.cells [AV.fn (Fn.func (43 : Nat)) [] [], AV.tsl nn (Sh.struct [Sh.str, Sh.int IntKind.i64]) ((0 : Nat) + (1 : Nat) + (1 : Nat)) (0 : Nat) n Cap.tight], Ent.tbl false (Sh.struct [Sh.str, Sh.int IntKind.i64]) (setK l (bs l k) (IntKind.i64.wrap (getK l k + (1 : Int))))])
          (False))
        (br (okM (Sh.struct [Sh.str, Sh.int IntKind.i64]) (Sh.struct [Sh.str, Sh.int IntKind.i64]) l n)
          (K (AV.bool true) [Ent.cells [AV.ptr (some ((0 : Nat) + (1 : Nat), (0 : Nat)))], Ent.cells [AV.fn (Fn.func (43 : Nat)) [] [], AV.tsl true (Sh.struct [Sh.str, Sh.int IntKind.i64]) ((0 : Nat) + (1 : Nat) + (1 : Nat) + (1 : Nat)) (0 : Nat) (n + (1 : Nat)) Cap.tight], Ent.dead, Ent.tbl false (Sh.struct [Sh.str, Sh.int IntKind.i64]) (insK l (bs l k) k (IntKind.i64.wrap (getK l k + (1 : Int))))])
          (False)))
      (False))
    (False) := by kernel_rfl
theorem add_ok : SpecOk Try.prog 12 (addF 43).f := specOk_comes fun args s v s' tch e => by
  simp only [addF] at e
  split at e
  · obtain ⟨hg, rfl, rfl, rfl⟩ := run_ok e
    refine comes_of ok prA_ok (L := 100) (ms := []) (by kernel_rfl) loops_none ?_
    refine Eq.mpr (add0_body ..) ?_
    exact ⟨rfl, rfl⟩
  · rename_i k g nn e0 n sh l
    simp only [RT.run] at e
    split at e
    · rename_i hh
      obtain ⟨hg, rfl, rfl, rfl⟩ := run_ok (g := _) e
      simp only [Bool.and_eq_true, okM_iff] at hg
      obtain ⟨h1, h2, h3, hl, hn⟩ := hg
      have h1 := Nat.eq_of_beq_eq_true h1
      subst h1 h2 h3
      refine comes_of ok prA_ok (L := 100) (ms := []) (by kernel_rfl) loops_none ?_
      refine Eq.mpr (add1_body ..) ?_
      exact br_t (okM_mk hl hn) (br_t (okM_mk hl hn) (br_t hh (br_t (okM_mk hl hn) ⟨rfl, rfl⟩)))
    · rename_i hh
      obtain ⟨hg, rfl, rfl, rfl⟩ := run_ok (g := _) e
      simp only [Bool.and_eq_true, okM_iff] at hg
      obtain ⟨h1, h2, h3, hl, hn⟩ := hg
      have h1 := Nat.eq_of_beq_eq_true h1
      subst h1 h2 h3
      refine comes_of ok prA_ok (L := 100) (ms := []) (by kernel_rfl) loops_none ?_
      refine Eq.mpr (add1_body ..) ?_
      refine br_t (okM_mk hl hn) (br_t (okM_mk hl hn) (br_mk (fun h => by rw [hh] at h; cases h) (fun _ => br_t (okM_mk hl hn) ⟨rfl, ?_⟩)))
      simp only [getK, hh]
      rfl
  · cases e
theorem take0_body (k : List UInt8) (K : AV → St → Prop) : bodyK Try.prog prA noL 100 13 [] [.ptr (some (0, 0)), .str k] a0S K =
  K (AV.bool (hasB [] k)) [Ent.cells [AV.ptr (some ((0 : Nat) + (1 : Nat), (0 : Nat)))], Ent.cells [AV.fn (Fn.func (43 : Nat)) [] [], AV.tsl false (Sh.struct [Sh.str, Sh.int IntKind.i64]) ((0 : Nat) + (1 : Nat) + (1 : Nat)) (0 : Nat) (0 : Nat) Cap.tight], Ent.tbl false (Sh.struct [Sh.str, Sh.int IntKind.i64]) []] := by kernel_rfl
theorem take1_body (k : List UInt8) (nn : Bool) (n : Nat) (l : List D) (K : AV → St → Prop) : bodyK Try.prog prA noL 100 13 [] [.ptr (some (0, 0)), .str k] (a1S 43 l nn n) K =
  br (okM (Sh.struct [Sh.str, Sh.int IntKind.i64]) (Sh.struct [Sh.str, Sh.int IntKind.i64]) l n)
    (br (okM (Sh.struct [Sh.str, Sh.int IntKind.i64]) (Sh.struct [Sh.str, Sh.int IntKind.i64]) l n)
      (br (decide (getK l k > (1 : Int)))
        (br (hasB l k)
          (br (okM (Sh.struct [Sh.str, Sh.int IntKind.i64]) (Sh.struct [Sh.str, Sh.int IntKind.i64]) l n)
            (K (AV.bool (hasB l k)) [Ent.cells [AV.ptr (some ((0 : Nat) + (1 : Nat), (0 : Nat)))], Ent.cells [AV.fn (Fn.func (43 : Nat)) [] [], AV.tsl nn (Sh.struct [Sh.str, Sh.int IntKind.i64]) ((0 : Nat) + (1 : Nat) + (1 : Nat)) (0 : Nat) n Cap.tight], Ent.tbl false (Sh.struct [Sh.str, Sh.int IntKind.i64]) (setK l (bs l k) (IntKind.i64.wrap (getK l k - (1 : Int))))])
            (False))
          (br (okM (Sh.struct [Sh.str, Sh.int IntKind.i64]) (Sh.struct [Sh.str, Sh.int IntKind.i64]) l n)
            (K (AV.bool (hasB l k)) [Ent.cells [AV.ptr (some ((0 : Nat) + (1 : Nat), (0 : Nat)))], Ent.cells [AV.fn (Fn.func (43 : Nat)) [] [], AV.tsl true (Sh.struct [Sh.str, Sh.int IntKind.i64]) ((0 : Nat) + (1 : Nat) + (1 : Nat) + (1 : Nat)) (0 : Nat) (n + (1 : Nat)) Cap.tight], Ent.dead, Ent.tbl false (Sh.struct [Sh.str, Sh.int IntKind.i64]) (insK l (bs l k) k (IntKind.i64.wrap (getK l k - (1 : Int))))])
            (False)))
        (br (hasB l k)
          (br (hasB l k)
            (br (okM (Sh.struct [Sh.str, Sh.int IntKind.i64]) (Sh.struct [Sh.str, Sh.int IntKind.i64]) l n)
              (K (AV.bool (hasB l k)) [Ent.cells [AV.ptr (some ((0 : Nat) + (1 : Nat), (0 : Nat)))], Ent.cells [AV.fn (Fn.func (43 : Nat)) [] [], AV.tsl true (Sh.struct [Sh.str, Sh.int IntKind.i64]) ((0 : Nat) + (1 : Nat) + (1 : Nat) + (1 : Nat)) (0 : Nat) (n - (1 : Nat)) Cap.tight], Ent.dead, Ent.tbl false (Sh.struct [Sh.str, Sh.int IntKind.i64]) (delK l (bs l k))])
              (False))
            (br (okM (Sh.struct [Sh.str, Sh.int IntKind.i64]) (Sh.struct [Sh.str, Sh.int IntKind.i64]) l n)
              (K (AV.bool (hasB l k)) [Ent.cells [AV.ptr (some ((0 : Nat) + (1 : Nat), (0 : Nat)))], Ent.cells [AV.fn (Fn.func (43 : Nat)) [] [], AV.tsl nn (Sh.struct [Sh.str, Sh.int IntKind.i64]) ((0 : Nat) + (1 : Nat) + (1 : Nat)) (0 : Nat) n Cap.tight], Ent.tbl false (Sh.struct [Sh.str, Sh.int IntKind.i64]) l])
              (False)))
          (K (AV.bool (hasB l k)) [Ent.cells [AV.ptr (some ((0 : Nat) + (1 : Nat), (0 : Nat)))], Ent.cells [AV.fn (Fn.func (43 : Nat)) [] [], AV.tsl nn (Sh.struct [Sh.str, Sh.int IntKind.i64]) ((0 : Nat) + (1 : Nat) + (1 : Nat)) (0 : Nat) n Cap.tight], Ent.tbl false (Sh.struct [Sh.str, Sh.int IntKind.i64]) l])))
      (False))
    (False) := by kernel_rfl
theorem take_ok : SpecOk Try.prog 13 (takeF 43).f := specOk_comes fun args s v s' tch e => by
  simp only [takeF] at e
  split at e
  · obtain ⟨hg, rfl, rfl, rfl⟩ := run_ok e
    refine comes_of ok prA_ok (L := 100) (ms := []) (by kernel_rfl) loops_none ?_
    refine Eq.mpr (take0_body ..) ?_
    exact ⟨rfl, rfl⟩
  · rename_i k g nn e0 n sh l
    simp only [RT.run] at e
    split at e
    · rename_i hh
      split at e
      · rename_i h2
        obtain ⟨hg, rfl, rfl, rfl⟩ := run_ok (g := _) e
        simp only [Bool.and_eq_true, okM_iff] at hg
        obtain ⟨h1, h2, h3, hl, hn⟩ := hg
        have h1 := Nat.eq_of_beq_eq_true h1
        subst h1 h2 h3
        refine comes_of ok prA_ok (L := 100) (ms := []) (by kernel_rfl) loops_none ?_
        refine Eq.mpr (take1_body ..) ?_
        exact br_t (okM_mk hl hn) (br_t (okM_mk hl hn) (br_t h2 (br_t hh (br_t (okM_mk hl hn) ⟨by rw [hh], rfl⟩))))
      · rename_i h2
        obtain ⟨hg, rfl, rfl, rfl⟩ := run_ok (g := _) e
        simp only [Bool.and_eq_true, okM_iff] at hg
        obtain ⟨h1, h2, h3, hl, hn⟩ := hg
        have h1 := Nat.eq_of_beq_eq_true h1
        subst h1 h2 h3
        refine comes_of ok prA_ok (L := 100) (ms := []) (by kernel_rfl) loops_none ?_
        refine Eq.mpr (take1_body ..) ?_
        exact br_t (okM_mk hl hn) (br_t (okM_mk hl hn) (br_mk (fun h => by rw [h2] at h; cases h) (fun _ => br_t hh (br_t hh (br_t (okM_mk hl hn) ⟨by rw [hh], rfl⟩)))))
    · rename_i hh
      obtain ⟨hg, rfl, rfl, rfl⟩ := run_ok (g := _) e
      simp only [Bool.and_eq_true, okM_iff] at hg
      obtain ⟨h1, h2, h3, hl, hn⟩ := hg
      have h1 := Nat.eq_of_beq_eq_true h1
      subst h1 h2 h3
      refine comes_of ok prA_ok (L := 100) (ms := []) (by kernel_rfl) loops_none ?_
      refine Eq.mpr (take1_body ..) ?_
      refine br_t (okM_mk hl hn) (br_t (okM_mk hl hn) (br_iff.2 ⟨fun h => ?_, fun _ => br_mk (fun h => by rw [hh] at h; cases h) (fun _ => ⟨by rw [hh], rfl⟩)⟩))
      simp only [getK, hh] at h
      omega
  · cases e
theorem rank0_body (k : List UInt8) (K : AV → St → Prop) : bodyK Try.prog prA noL 100 16 [] [.ptr (some (0, 0)), .str k] a0S K =
  K (AV.tup [AV.int IntKind.i64 (0 : Int), AV.bool false]) [Ent.cells [AV.ptr (some ((0 : Nat) + (1 : Nat), (0 : Nat)))], Ent.cells [AV.fn (Fn.func (43 : Nat)) [] [], AV.tsl false (Sh.struct [Sh.str, Sh.int IntKind.i64]) ((0 : Nat) + (1 : Nat) + (1 : Nat)) (0 : Nat) (0 : Nat) Cap.tight], Ent.tbl false (Sh.struct [Sh.str, Sh.int IntKind.i64]) []] := by kernel_rfl
theorem drank_body (k : List UInt8) (nn : Bool) (n : Nat) (l : List D) (K : AV → St → Prop) : bodyK Try.prog prA noL 100 16 [] [.ptr (some (0, 0)), .str k] (a1S 43 l nn n) K =
  br (okM (Sh.struct [Sh.str, Sh.int IntKind.i64]) (Sh.struct [Sh.str, Sh.int IntKind.i64]) l n)
    (br (okM (Sh.struct [Sh.str, Sh.int IntKind.i64]) (Sh.struct [Sh.str, Sh.int IntKind.i64]) l n)
      (br (!hasB l k)
        (K (AV.tup [AV.int IntKind.i64 (0 : Int), AV.bool false]) [Ent.cells [AV.ptr (some ((0 : Nat) + (1 : Nat), (0 : Nat)))], Ent.cells [AV.fn (Fn.func (43 : Nat)) [] [], AV.tsl nn (Sh.struct [Sh.str, Sh.int IntKind.i64]) ((0 : Nat) + (1 : Nat) + (1 : Nat)) (0 : Nat) n Cap.tight], Ent.tbl false (Sh.struct [Sh.str, Sh.int IntKind.i64]) l])
        (br (okM (Sh.struct [Sh.str, Sh.int IntKind.i64]) (Sh.struct [Sh.str, Sh.int IntKind.i64]) l n)
          (K (AV.tup [AV.int IntKind.i64 (↑(bs l k) : Int), AV.bool true]) [Ent.cells [AV.ptr (some ((0 : Nat) + (1 : Nat), (0 : Nat)))], Ent.cells [AV.fn (Fn.func (43 : Nat)) [] [], AV.tsl nn (Sh.struct [Sh.str, Sh.int IntKind.i64]) ((0 : Nat) + (1 : Nat) + (1 : Nat)) (0 : Nat) n Cap.tight], Ent.tbl false (Sh.struct [Sh.str, Sh.int IntKind.i64]) l])
          (False)))
      (False))
    (False) := by kernel_rfl
theorem rank_ok : SpecOk Try.prog 16 (rankF 43).f := specOk_comes fun args s v s' tch e => by
  simp only [rankF] at e
  split at e
  · obtain ⟨hg, rfl, rfl, rfl⟩ := run_ok e
    refine comes_of ok prA_ok (L := 100) (ms := []) (by kernel_rfl) loops_none ?_
    refine Eq.mpr (rank0_body ..) ?_
    exact ⟨rfl, rfl⟩
  · rename_i k g nn e0 n sh l
    obtain ⟨hg, rfl, rfl, rfl⟩ := run_ok (g := _) e
    simp only [Bool.and_eq_true, okM_iff] at hg
    obtain ⟨h1, h2, h3, hl, hn⟩ := hg
    have h1 := Nat.eq_of_beq_eq_true h1
    subst h1 h2 h3
    refine comes_of ok prA_ok (L := 100) (ms := []) (by kernel_rfl) loops_none ?_
    refine Eq.mpr (drank_body ..) ?_
    refine br_t (okM_mk hl hn) (br_t (okM_mk hl hn) (br_mk (fun h => ?_) (fun h => br_t (okM_mk hl hn) ?_)))
    · rw [Bool.not_eq_true'] at h
      exact ⟨by simp only [rankL, h], rfl⟩
    · rw [Bool.not_eq_false'] at h
      exact ⟨by simp only [rankL, h], rfl⟩
  · cases e
theorem dat0_body (i : Int) (K : AV → St → Prop) : bodyK Try.prog prA noL 100 17 [] [.ptr (some (0, 0)), .int .i64 i] a0S K =
  br (decide ((0 : Int) ≤ i) && decide (i < (0 : Int)))
    (K (AV.tup [AV.str (keyD ([].getD i.toNat D.nul)), AV.bool true]) [Ent.cells [AV.ptr (some ((0 : Nat) + (1 : Nat), (0 : Nat)))], Ent.cells [AV.fn (Fn.func (43 : Nat)) [] [], AV.tsl false (Sh.struct [Sh.str, Sh.int IntKind.i64]) ((0 : Nat) + (1 : Nat) + (1 : Nat)) (0 : Nat) (0 : Nat) Cap.tight], Ent.tbl false (Sh.struct [Sh.str, Sh.int IntKind.i64]) []])
    (K (AV.tup [AV.str [], AV.bool false]) [Ent.cells [AV.ptr (some ((0 : Nat) + (1 : Nat), (0 : Nat)))], Ent.cells [AV.fn (Fn.func (43 : Nat)) [] [], AV.tsl false (Sh.struct [Sh.str, Sh.int IntKind.i64]) ((0 : Nat) + (1 : Nat) + (1 : Nat)) (0 : Nat) (0 : Nat) Cap.tight], Ent.tbl false (Sh.struct [Sh.str, Sh.int IntKind.i64]) []]) := by kernel_rfl
theorem dat_body (i : Int) (nn : Bool) (n : Nat) (l : List D) (K : AV → St → Prop) : bodyK Try.prog prA noL 100 17 [] [.ptr (some (0, 0)), .int .i64 i] (a1S 43 l nn n) K =
  br (okM (Sh.struct [Sh.str, Sh.int IntKind.i64]) (Sh.struct [Sh.str, Sh.int IntKind.i64]) l n)
    (br (decide ((0 : Int) ≤ i) && decide (i < (↑n : Int)))
      (br (okM (Sh.struct [Sh.str, Sh.int IntKind.i64]) (Sh.struct [Sh.str, Sh.int IntKind.i64]) l n)
        (K (AV.tup [AV.str (keyD (l.getD i.toNat D.nul)), AV.bool true]) [Ent.cells [AV.ptr (some ((0 : Nat) + (1 : Nat), (0 : Nat)))], Ent.cells [AV.fn (Fn.func (43 : Nat)) [] [], AV.tsl nn (Sh.struct [Sh.str, Sh.int IntKind.i64]) ((0 : Nat) + (1 : Nat) + (1 : Nat)) (0 : Nat) n Cap.tight], Ent.tbl false (Sh.struct [Sh.str, Sh.int IntKind.i64]) l])
        (False))
      (br (okM (Sh.struct [Sh.str, Sh.int IntKind.i64]) (Sh.struct [Sh.str, Sh.int IntKind.i64]) l n)
        (K (AV.tup [AV.str [], AV.bool false]) [Ent.cells [AV.ptr (some ((0 : Nat) + (1 : Nat), (0 : Nat)))], Ent.cells [AV.fn (Fn.func (43 : Nat)) [] [], AV.tsl nn (Sh.struct [Sh.str, Sh.int IntKind.i64]) ((0 : Nat) + (1 : Nat) + (1 : Nat)) (0 : Nat) n Cap.tight], Ent.tbl false (Sh.struct [Sh.str, Sh.int IntKind.i64]) l])
        (False)))
    (False) := by kernel_rfl
theorem at_ok : SpecOk Try.prog 17 (atF 43).f := specOk_comes fun args s v s' tch e => by
  simp only [atF] at e
  split at e
  · obtain ⟨hg, rfl, rfl, rfl⟩ := run_ok e
    refine comes_of ok prA_ok (L := 100) (ms := []) (by kernel_rfl) loops_none ?_
    refine Eq.mpr (dat0_body ..) (br_mk (fun h => ?_) (fun _ => ⟨rfl, rfl⟩))
    simp only [Bool.and_eq_true, decide_eq_true_eq] at h
    omega
  · rename_i i g nn e0 n sh l
    obtain ⟨hg, rfl, rfl, rfl⟩ := run_ok (g := _) e
    simp only [Bool.and_eq_true, okM_iff] at hg
    obtain ⟨h1, h2, h3, hl, hn⟩ := hg
    have h1 := Nat.eq_of_beq_eq_true h1
    subst h1 h2 h3
    refine comes_of ok prA_ok (L := 100) (ms := []) (by kernel_rfl) loops_none ?_
    refine Eq.mpr (dat_body ..) ?_
    subst hl
    refine br_t (okM_mk rfl hn) (br_mk (fun h => br_t (okM_mk rfl hn) ?_) (fun h => br_t (okM_mk rfl hn) ?_))
    · have h : inL l i = true := h
      exact ⟨by simp only [atK, h], rfl⟩
    · have h : inL l i = false := h
      exact ⟨by simp only [atK, h], rfl⟩
  · cases e
theorem dlen0_body (K : AV → St → Prop) : bodyK Try.prog prA noL 100 15 [] [.ptr (some (0, 0))] a0S K =
  K (AV.int IntKind.i64 (0 : Int)) [Ent.cells [AV.ptr (some ((1 : Nat), (0 : Nat)))], Ent.cells [AV.fn (Fn.func (43 : Nat)) [] [], AV.tsl false (Sh.struct [Sh.str, Sh.int IntKind.i64]) (2 : Nat) (0 : Nat) (0 : Nat) Cap.tight], Ent.tbl false (Sh.struct [Sh.str, Sh.int IntKind.i64]) []] := by kernel_rfl
theorem dlen_body (nn : Bool) (n : Nat) (l : List D) (K : AV → St → Prop) : bodyK Try.prog prA noL 100 15 [] [.ptr (some (0, 0))] (a1S 43 l nn n) K =
  br (okM (Sh.struct [Sh.str, Sh.int IntKind.i64]) (Sh.struct [Sh.str, Sh.int IntKind.i64]) l n)
    (br (okM (Sh.struct [Sh.str, Sh.int IntKind.i64]) (Sh.struct [Sh.str, Sh.int IntKind.i64]) l n)
      (K (AV.int IntKind.i64 (↑n : Int)) [Ent.cells [AV.ptr (some ((0 : Nat) + (1 : Nat), (0 : Nat)))], Ent.cells [AV.fn (Fn.func (43 : Nat)) [] [], AV.tsl nn (Sh.struct [Sh.str, Sh.int IntKind.i64]) ((0 : Nat) + (1 : Nat) + (1 : Nat)) (0 : Nat) n Cap.tight], Ent.tbl false (Sh.struct [Sh.str, Sh.int IntKind.i64]) l])
      (False))
    (False) := by kernel_rfl
theorem len_ok : SpecOk Try.prog 15 (lenDF 43).f := specOk_comes fun args s v s' tch e => by
  simp only [lenDF] at e
  split at e
  · obtain ⟨hg, rfl, rfl, rfl⟩ := run_ok e
    refine comes_of ok prA_ok (L := 100) (ms := []) (by kernel_rfl) loops_none ?_
    refine Eq.mpr (dlen0_body ..) ?_
    exact ⟨rfl, rfl⟩
  · rename_i g nn e0 n sh l
    obtain ⟨hg, rfl, rfl, rfl⟩ := run_ok (g := _) e
    simp only [Bool.and_eq_true, okM_iff] at hg
    obtain ⟨h1, h2, h3, hl, hn⟩ := hg
    have h1 := Nat.eq_of_beq_eq_true h1
    subst h1 h2 h3
    refine comes_of ok prA_ok (L := 100) (ms := []) (by kernel_rfl) loops_none ?_
    refine Eq.mpr (dlen_body ..) ?_
    exact br_t (okM_mk hl hn) (br_t (okM_mk hl hn) ⟨rfl, rfl⟩)
  · cases e
theorem span0_body (op : Int) (k : List UInt8) (K : AV → St → Prop) : bodyK Try.prog prA noL 100 19 [] [.ptr (some (0, 0)), .int .i64 op, .str k] a0S K =
  br (decide (op = (1 : Int)))
    (K (AV.tup [AV.int IntKind.i64 (0 : Int), AV.int IntKind.i64 (0 : Int), AV.bool true]) [Ent.cells [AV.ptr (some ((0 : Nat) + (1 : Nat), (0 : Nat)))], Ent.cells [AV.fn (Fn.func (43 : Nat)) [] [], AV.tsl false (Sh.struct [Sh.str, Sh.int IntKind.i64]) ((0 : Nat) + (1 : Nat) + (1 : Nat)) (0 : Nat) (0 : Nat) Cap.tight], Ent.tbl false (Sh.struct [Sh.str, Sh.int IntKind.i64]) []])
    (br (decide (op = (3 : Int)))
      (K (AV.tup [AV.int IntKind.i64 (0 : Int), AV.int IntKind.i64 (0 : Int), AV.bool true]) [Ent.cells [AV.ptr (some ((0 : Nat) + (1 : Nat), (0 : Nat)))], Ent.cells [AV.fn (Fn.func (43 : Nat)) [] [], AV.tsl false (Sh.struct [Sh.str, Sh.int IntKind.i64]) ((0 : Nat) + (1 : Nat) + (1 : Nat)) (0 : Nat) (0 : Nat) Cap.tight], Ent.tbl false (Sh.struct [Sh.str, Sh.int IntKind.i64]) []])
      (br (decide (op = (4 : Int)))
        (K (AV.tup [AV.int IntKind.i64 (0 : Int), AV.int IntKind.i64 (0 : Int), AV.bool true]) [Ent.cells [AV.ptr (some ((0 : Nat) + (1 : Nat), (0 : Nat)))], Ent.cells [AV.fn (Fn.func (43 : Nat)) [] [], AV.tsl false (Sh.struct [Sh.str, Sh.int IntKind.i64]) ((0 : Nat) + (1 : Nat) + (1 : Nat)) (0 : Nat) (0 : Nat) Cap.tight], Ent.tbl false (Sh.struct [Sh.str, Sh.int IntKind.i64]) []])
        (br (decide (op = (5 : Int)))
          (K (AV.tup [AV.int IntKind.i64 (0 : Int), AV.int IntKind.i64 (0 : Int), AV.bool true]) [Ent.cells [AV.ptr (some ((0 : Nat) + (1 : Nat), (0 : Nat)))], Ent.cells [AV.fn (Fn.func (43 : Nat)) [] [], AV.tsl false (Sh.struct [Sh.str, Sh.int IntKind.i64]) ((0 : Nat) + (1 : Nat) + (1 : Nat)) (0 : Nat) (0 : Nat) Cap.tight], Ent.tbl false (Sh.struct [Sh.str, Sh.int IntKind.i64]) []])
          (br (decide (op = (6 : Int)))
            (K (AV.tup [AV.int IntKind.i64 (0 : Int), AV.int IntKind.i64 (0 : Int), AV.bool true]) [Ent.cells [AV.ptr (some ((0 : Nat) + (1 : Nat), (0 : Nat)))], Ent.cells [AV.fn (Fn.func (43 : Nat)) [] [], AV.tsl false (Sh.struct [Sh.str, Sh.int IntKind.i64]) ((0 : Nat) + (1 : Nat) + (1 : Nat)) (0 : Nat) (0 : Nat) Cap.tight], Ent.tbl false (Sh.struct [Sh.str, Sh.int IntKind.i64]) []])
            (K (AV.tup [AV.int IntKind.i64 (0 : Int), AV.int IntKind.i64 (0 : Int), AV.bool false]) [Ent.cells [AV.ptr (some ((0 : Nat) + (1 : Nat), (0 : Nat)))], Ent.cells [AV.fn (Fn.func (43 : Nat)) [] [], AV.tsl false (Sh.struct [Sh.str, Sh.int IntKind.i64]) ((0 : Nat) + (1 : Nat) + (1 : Nat)) (0 : Nat) (0 : Nat) Cap.tight], Ent.tbl false (Sh.struct [Sh.str, Sh.int IntKind.i64]) []]))))) := by kernel_rfl
theorem span_body (op : Int) (k : List UInt8) (nn : Bool) (n : Nat) (l : List D) (K : AV → St → Prop) : bodyK Try.prog prA noL 100 19 [] [.ptr (some (0, 0)), .int .i64 op, .str k] (a1S 43 l nn n) K =
  br (okM (Sh.struct [Sh.str, Sh.int IntKind.i64]) (Sh.struct [Sh.str, Sh.int IntKind.i64]) l n)
    (br (okM (Sh.struct [Sh.str, Sh.int IntKind.i64]) (Sh.struct [Sh.str, Sh.int IntKind.i64]) l n)
      (br (okM (Sh.struct [Sh.str, Sh.int IntKind.i64]) (Sh.struct [Sh.str, Sh.int IntKind.i64]) l n)
        (br (okM (Sh.struct [Sh.str, Sh.int IntKind.i64]) (Sh.struct [Sh.str, Sh.int IntKind.i64]) l n)
          (br (okM (Sh.struct [Sh.str, Sh.int IntKind.i64]) (Sh.struct [Sh.str, Sh.int IntKind.i64]) l n)
            (br (hasB l k)
              (br (decide (op = (1 : Int)))
                (br (decide ((↑(bs l k) : Int) ≥ IntKind.i64.wrap ((↑(bs l k) : Int) + (1 : Int))))
                  (K (AV.tup [AV.int IntKind.i64 (0 : Int), AV.int IntKind.i64 (0 : Int), AV.bool true]) [Ent.cells [AV.ptr (some ((0 : Nat) + (1 : Nat), (0 : Nat)))], Ent.cells [AV.fn (Fn.func (43 : Nat)) [] [], AV.tsl nn (Sh.struct [Sh.str, Sh.int IntKind.i64]) ((0 : Nat) + (1 : Nat) + (1 : Nat)) (0 : Nat) n Cap.tight], Ent.tbl false (Sh.struct [Sh.str, Sh.int IntKind.i64]) l])
                  (K (AV.tup [AV.int IntKind.i64 (↑(bs l k) : Int), AV.int IntKind.i64 (IntKind.i64.wrap ((↑(bs l k) : Int) + (1 : Int))), AV.bool true]) [Ent.cells [AV.ptr (some ((0 : Nat) + (1 : Nat), (0 : Nat)))], Ent.cells [AV.fn (Fn.func (43 : Nat)) [] [], AV.tsl nn (Sh.struct [Sh.str, Sh.int IntKind.i64]) ((0 : Nat) + (1 : Nat) + (1 : Nat)) (0 : Nat) n Cap.tight], Ent.tbl false (Sh.struct [Sh.str, Sh.int IntKind.i64]) l]))
                (br (decide (op = (3 : Int)))
                  (br (decide ((0 : Int) ≥ (↑(bs l k) : Int)))
                    (K (AV.tup [AV.int IntKind.i64 (0 : Int), AV.int IntKind.i64 (0 : Int), AV.bool true]) [Ent.cells [AV.ptr (some ((0 : Nat) + (1 : Nat), (0 : Nat)))], Ent.cells [AV.fn (Fn.func (43 : Nat)) [] [], AV.tsl nn (Sh.struct [Sh.str, Sh.int IntKind.i64]) ((0 : Nat) + (1 : Nat) + (1 : Nat)) (0 : Nat) n Cap.tight], Ent.tbl false (Sh.struct [Sh.str, Sh.int IntKind.i64]) l])
                    (K (AV.tup [AV.int IntKind.i64 (0 : Int), AV.int IntKind.i64 (↑(bs l k) : Int), AV.bool true]) [Ent.cells [AV.ptr (some ((0 : Nat) + (1 : Nat), (0 : Nat)))], Ent.cells [AV.fn (Fn.func (43 : Nat)) [] [], AV.tsl nn (Sh.struct [Sh.str, Sh.int IntKind.i64]) ((0 : Nat) + (1 : Nat) + (1 : Nat)) (0 : Nat) n Cap.tight], Ent.tbl false (Sh.struct [Sh.str, Sh.int IntKind.i64]) l]))
                  (br (decide (op = (4 : Int)))
                    (br (decide ((0 : Int) ≥ IntKind.i64.wrap ((↑(bs l k) : Int) + (1 : Int))))
                      (K (AV.tup [AV.int IntKind.i64 (0 : Int), AV.int IntKind.i64 (0 : Int), AV.bool true]) [Ent.cells [AV.ptr (some ((0 : Nat) + (1 : Nat), (0 : Nat)))], Ent.cells [AV.fn (Fn.func (43 : Nat)) [] [], AV.tsl nn (Sh.struct [Sh.str, Sh.int IntKind.i64]) ((0 : Nat) + (1 : Nat) + (1 : Nat)) (0 : Nat) n Cap.tight], Ent.tbl false (Sh.struct [Sh.str, Sh.int IntKind.i64]) l])
                      (K (AV.tup [AV.int IntKind.i64 (0 : Int), AV.int IntKind.i64 (IntKind.i64.wrap ((↑(bs l k) : Int) + (1 : Int))), AV.bool true]) [Ent.cells [AV.ptr (some ((0 : Nat) + (1 : Nat), (0 : Nat)))], Ent.cells [AV.fn (Fn.func (43 : Nat)) [] [], AV.tsl nn (Sh.struct [Sh.str, Sh.int IntKind.i64]) ((0 : Nat) + (1 : Nat) + (1 : Nat)) (0 : Nat) n Cap.tight], Ent.tbl false (Sh.struct [Sh.str, Sh.int IntKind.i64]) l]))
                    (br (decide (op = (5 : Int)))
                      (br (decide (IntKind.i64.wrap ((↑(bs l k) : Int) + (1 : Int)) ≥ (↑n : Int)))
                        (K (AV.tup [AV.int IntKind.i64 (0 : Int), AV.int IntKind.i64 (0 : Int), AV.bool true]) [Ent.cells [AV.ptr (some ((0 : Nat) + (1 : Nat), (0 : Nat)))], Ent.cells [AV.fn (Fn.func (43 : Nat)) [] [], AV.tsl nn (Sh.struct [Sh.str, Sh.int IntKind.i64]) ((0 : Nat) + (1 : Nat) + (1 : Nat)) (0 : Nat) n Cap.tight], Ent.tbl false (Sh.struct [Sh.str, Sh.int IntKind.i64]) l])
                        (K (AV.tup [AV.int IntKind.i64 (IntKind.i64.wrap ((↑(bs l k) : Int) + (1 : Int))), AV.int IntKind.i64 (↑n : Int), AV.bool true]) [Ent.cells [AV.ptr (some ((0 : Nat) + (1 : Nat), (0 : Nat)))], Ent.cells [AV.fn (Fn.func (43 : Nat)) [] [], AV.tsl nn (Sh.struct [Sh.str, Sh.int IntKind.i64]) ((0 : Nat) + (1 : Nat) + (1 : Nat)) (0 : Nat) n Cap.tight], Ent.tbl false (Sh.struct [Sh.str, Sh.int IntKind.i64]) l]))
                      (br (decide (op = (6 : Int)))
                        (br (decide ((↑(bs l k) : Int) ≥ (↑n : Int)))
                          (K (AV.tup [AV.int IntKind.i64 (0 : Int), AV.int IntKind.i64 (0 : Int), AV.bool true]) [Ent.cells [AV.ptr (some ((0 : Nat) + (1 : Nat), (0 : Nat)))], Ent.cells [AV.fn (Fn.func (43 : Nat)) [] [], AV.tsl nn (Sh.struct [Sh.str, Sh.int IntKind.i64]) ((0 : Nat) + (1 : Nat) + (1 : Nat)) (0 : Nat) n Cap.tight], Ent.tbl false (Sh.struct [Sh.str, Sh.int IntKind.i64]) l])
                          (K (AV.tup [AV.int IntKind.i64 (↑(bs l k) : Int), AV.int IntKind.i64 (↑n : Int), AV.bool true]) [Ent.cells [AV.ptr (some ((0 : Nat) + (1 : Nat), (0 : Nat)))], Ent.cells [AV.fn (Fn.func (43 : Nat)) [] [], AV.tsl nn (Sh.struct [Sh.str, Sh.int IntKind.i64]) ((0 : Nat) + (1 : Nat) + (1 : Nat)) (0 : Nat) n Cap.tight], Ent.tbl false (Sh.struct [Sh.str, Sh.int IntKind.i64]) l]))
                        (K (AV.tup [AV.int IntKind.i64 (0 : Int), AV.int IntKind.i64 (0 : Int), AV.bool false]) [Ent.cells [AV.ptr (some ((0 : Nat) + (1 : Nat), (0 : Nat)))], Ent.cells [AV.fn (Fn.func (43 : Nat)) [] [], AV.tsl nn (Sh.struct [Sh.str, Sh.int IntKind.i64]) ((0 : Nat) + (1 : Nat) + (1 : Nat)) (0 : Nat) n Cap.tight], Ent.tbl false (Sh.struct [Sh.str, Sh.int IntKind.i64]) l]))))))
              (br (decide (op = (1 : Int)))
                (br (decide ((↑(bs l k) : Int) ≥ (↑(bs l k) : Int)))
                  (K (AV.tup [AV.int IntKind.i64 (0 : Int), AV.int IntKind.i64 (0 : Int), AV.bool true]) [Ent.cells [AV.ptr (some ((0 : Nat) + (1 : Nat), (0 : Nat)))], Ent.cells [AV.fn (Fn.func (43 : Nat)) [] [], AV.tsl nn (Sh.struct [Sh.str, Sh.int IntKind.i64]) ((0 : Nat) + (1 : Nat) + (1 : Nat)) (0 : Nat) n Cap.tight], Ent.tbl false (Sh.struct [Sh.str, Sh.int IntKind.i64]) l])
                  (K (AV.tup [AV.int IntKind.i64 (↑(bs l k) : Int), AV.int IntKind.i64 (↑(bs l k) : Int), AV.bool true]) [Ent.cells [AV.ptr (some ((0 : Nat) + (1 : Nat), (0 : Nat)))], Ent.cells [AV.fn (Fn.func (43 : Nat)) [] [], AV.tsl nn (Sh.struct [Sh.str, Sh.int IntKind.i64]) ((0 : Nat) + (1 : Nat) + (1 : Nat)) (0 : Nat) n Cap.tight], Ent.tbl false (Sh.struct [Sh.str, Sh.int IntKind.i64]) l]))
                (br (decide (op = (3 : Int)))
                  (br (decide ((0 : Int) ≥ (↑(bs l k) : Int)))
                    (K (AV.tup [AV.int IntKind.i64 (0 : Int), AV.int IntKind.i64 (0 : Int), AV.bool true]) [Ent.cells [AV.ptr (some ((0 : Nat) + (1 : Nat), (0 : Nat)))], Ent.cells [AV.fn (Fn.func (43 : Nat)) [] [], AV.tsl nn (Sh.struct [Sh.str, Sh.int IntKind.i64]) ((0 : Nat) + (1 : Nat) + (1 : Nat)) (0 : Nat) n Cap.tight], Ent.tbl false (Sh.struct [Sh.str, Sh.int IntKind.i64]) l])
                    (K (AV.tup [AV.int IntKind.i64 (0 : Int), AV.int IntKind.i64 (↑(bs l k) : Int), AV.bool true]) [Ent.cells [AV.ptr (some ((0 : Nat) + (1 : Nat), (0 : Nat)))], Ent.cells [AV.fn (Fn.func (43 : Nat)) [] [], AV.tsl nn (Sh.struct [Sh.str, Sh.int IntKind.i64]) ((0 : Nat) + (1 : Nat) + (1 : Nat)) (0 : Nat) n Cap.tight], Ent.tbl false (Sh.struct [Sh.str, Sh.int IntKind.i64]) l]))
                  (br (decide (op = (4 : Int)))
                    (br (decide ((0 : Int) ≥ (↑(bs l k) : Int)))
                      (K (AV.tup [AV.int IntKind.i64 (0 : Int), AV.int IntKind.i64 (0 : Int), AV.bool true]) [Ent.cells [AV.ptr (some ((0 : Nat) + (1 : Nat), (0 : Nat)))], Ent.cells [AV.fn (Fn.func (43 : Nat)) [] [], AV.tsl nn (Sh.struct [Sh.str, Sh.int IntKind.i64]) ((0 : Nat) + (1 : Nat) + (1 : Nat)) (0 : Nat) n Cap.tight], Ent.tbl false (Sh.struct [Sh.str, Sh.int IntKind.i64]) l])
                      (K (AV.tup [AV.int IntKind.i64 (0 : Int), AV.int IntKind.i64 (↑(bs l k) : Int), AV.bool true]) [Ent.cells [AV.ptr (some ((0 : Nat) + (1 : Nat), (0 : Nat)))], Ent.cells [AV.fn (Fn.func (43 : Nat)) [] [], AV.tsl nn (Sh.struct [Sh.str, Sh.int IntKind.i64]) ((0 : Nat) + (1 : Nat) + (1 : Nat)) (0 : Nat) n Cap.tight], Ent.tbl false (Sh.struct [Sh.str, Sh.int IntKind.i64]) l]))
                    (br (decide (op = (5 : Int)))
                      (br (decide ((↑(bs l k) : Int) ≥ (↑n : Int)))
                        (K (AV.tup [AV.int IntKind.i64 (0 : Int), AV.int IntKind.i64 (0 : Int), AV.bool true]) [Ent.cells [AV.ptr (some ((0 : Nat) + (1 : Nat), (0 : Nat)))], Ent.cells [AV.fn (Fn.func (43 : Nat)) [] [], AV.tsl nn (Sh.struct [Sh.str, Sh.int IntKind.i64]) ((0 : Nat) + (1 : Nat) + (1 : Nat)) (0 : Nat) n Cap.tight], Ent.tbl false (Sh.struct [Sh.str, Sh.int IntKind.i64]) l])
                        (K (AV.tup [AV.int IntKind.i64 (↑(bs l k) : Int), AV.int IntKind.i64 (↑n : Int), AV.bool true]) [Ent.cells [AV.ptr (some ((0 : Nat) + (1 : Nat), (0 : Nat)))], Ent.cells [AV.fn (Fn.func (43 : Nat)) [] [], AV.tsl nn (Sh.struct [Sh.str, Sh.int IntKind.i64]) ((0 : Nat) + (1 : Nat) + (1 : Nat)) (0 : Nat) n Cap.tight], Ent.tbl false (Sh.struct [Sh.str, Sh.int IntKind.i64]) l]))
                      (br (decide (op = (6 : Int)))
                        (br (decide ((↑(bs l k) : Int) ≥ (↑n : Int)))
                          (K (AV.tup [AV.int IntKind.i64 (0 : Int), AV.int IntKind.i64 (0 : Int), AV.bool true]) [Ent.cells [AV.ptr (some ((0 : Nat) + (1 : Nat), (0 : Nat)))], Ent.cells [AV.fn (Fn.func (43 : Nat)) [] [], AV.tsl nn (Sh.struct [Sh.str, Sh.int IntKind.i64]) ((0 : Nat) + (1 : Nat) + (1 : Nat)) (0 : Nat) n Cap.tight], Ent.tbl false (Sh.struct [Sh.str, Sh.int IntKind.i64]) l])
                          (K (AV.tup [AV.int IntKind.i64 (↑(bs l k) : Int), AV.int IntKind.i64 (↑n : Int), AV.bool true]) [Ent.cells [AV.ptr (some ((0 : Nat) + (1 : Nat), (0 : Nat)))], Ent.cells [AV.fn (Fn.func (43 : Nat)) [] [], AV.tsl nn (Sh.struct [Sh.str, Sh.int IntKind.i64]) ((0 : Nat) + (1 : Nat) + (1 : Nat)) (0 : Nat) n Cap.tight], Ent.tbl false (Sh.struct [Sh.str, Sh.int IntKind.i64]) l]))
                        (K (AV.tup [AV.int IntKind.i64 (0 : Int), AV.int IntKind.i64 (0 : Int), AV.bool false]) [Ent.cells [AV.ptr (some ((0 : Nat) + (1 : Nat), (0 : Nat)))], Ent.cells [AV.fn (Fn.func (43 : Nat)) [] [], AV.tsl nn (Sh.struct [Sh.str, Sh.int IntKind.i64]) ((0 : Nat) + (1 : Nat) + (1 : Nat)) (0 : Nat) n Cap.tight], Ent.tbl false (Sh.struct [Sh.str, Sh.int IntKind.i64]) l])))))))
            (False))
          (False))
        (False))
      (False))
    (False) := by kernel_rfl
theorem span_ok : SpecOk Try.prog 19 (spanF 43).f := specOk_comes fun args s v s' tch e => by
  simp only [spanF] at e
  split at e
  · rename_i op k
    obtain ⟨hg, rfl, rfl, rfl⟩ := run_ok e
    refine comes_of ok prA_ok (L := 100) (ms := []) (by kernel_rfl) loops_none ?_
    refine Eq.mpr (span0_body ..) ?_
    have e0 : bs [] k = 0 := rfl
    have e1 : hasB [] k = false := rfl
    unfold spanA spanB spanC spanQ spanP spanT
    rw [e0, e1]
    by_cases h1 : op = 1
    · subst h1; simp [br, a1S, shP]
    · by_cases h3 : op = 3
      · subst h3; simp [br, a1S, shP]
      · by_cases h4 : op = 4
        · subst h4; simp [br, a1S, shP]
        · by_cases h5 : op = 5
          · subst h5; simp [br, a1S, shP]
          · by_cases h6 : op = 6
            · subst h6; simp [br, a1S, shP]
            · simp [br, a1S, shP, h1, h3, h4, h5, h6]
  · rename_i op k g nn e0 n sh l
    obtain ⟨hg, rfl, rfl, rfl⟩ := run_ok (g := _) e
    simp only [Bool.and_eq_true, okM_iff] at hg
    obtain ⟨h1, h2, h3, hl, hn⟩ := hg
    have h1 := Nat.eq_of_beq_eq_true h1
    subst h1 h2 h3
    refine comes_of ok prA_ok (L := 100) (ms := []) (by kernel_rfl) loops_none ?_
    refine Eq.mpr (span_body ..) ?_
    subst hl
    have hb := bs_le l k
    have m := okM_mk (l := l) rfl hn
    rw [wrap64 (x := (bs l k : Int) + 1) (by omega) (by omega)]
    refine br_t m (br_t m (br_t m (br_t m (br_t m ?_))))
    unfold spanA spanB spanC spanQ spanP spanT
    cases hB : hasB l k
    all_goals
      by_cases h1 : op = 1
      · subst h1; have hc : ¬ ((bs l k : Int) ≥ bs l k + 1) := by omega
        simp [br, a1S, shP, *]
      · by_cases h3 : op = 3
        · subst h3; by_cases hc : bs l k = 0 <;> simp [br, a1S, shP, *]
        · by_cases h4 : op = 4
          · subst h4
            have hc2 : ¬ ((bs l k : Int) + 1 ≤ 0) := by omega
            by_cases hc : bs l k = 0 <;> simp [br, a1S, shP, *]
          · by_cases h5 : op = 5
            · subst h5; by_cases hc : (bs l k : Int) ≥ l.length <;> by_cases hc2 : (bs l k : Int) + 1 ≥ l.length <;> simp [br, a1S, shP, *]
            · by_cases h6 : op = 6
              · subst h6; by_cases hc : (bs l k : Int) ≥ l.length <;> simp [br, a1S, shP, *]
              · simp [br, a1S, shP, *]
  · cases e
end Go.Proofs.Ytkfdfenaaidkkaa
