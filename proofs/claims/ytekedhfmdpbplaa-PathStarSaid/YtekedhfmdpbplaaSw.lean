/- Walks: the reference's functions on a schema that is being built. -/
import Derived.Test.YtekedhfmdpbplaaSr
import Derived.KernelRfl
set_option linter.unusedSimpArgs false
set_option linter.unusedVariables false
set_option maxRecDepth 100000
namespace Go.Proofs.Ytekedhfmdpbplaa
open Go Go.Sy
attribute [local irreducible] bodyK roundK cutK
noncomputable def pr_aaSw1 : FuncId → Option Sy.Spec := addP 65 nameR noP
theorem pr_aaSw1_k : PrOk Try.prog pr_aaSw1 := prOk_add nameR_ok prOk_none
noncomputable def pr_aaSw2 : FuncId → Option Sy.Spec := addP 23 colofR pr_aaSw1
theorem pr_aaSw2_k : PrOk Try.prog pr_aaSw2 := prOk_add colofR_ok pr_aaSw1_k
noncomputable def findW_t0_L0_T (n0 : Nat) (c1 : List UInt8) (l2 : List D) (i3 : Int) : List AV := ([AV.tsl false shTab (0 : Nat) (0 : Nat) n0 Cap.tight, AV.str c1, .any, .any, .any, AV.int IntKind.i64 i3] ++ padAny 14)
noncomputable def findW_t0_L0_S (n0 : Nat) (c1 : List UInt8) (l2 : List D) (i3 : Int) : St := [Ent.tbl false shTab l2]
noncomputable def findW_t0_L0_of : List AV → St → Option ((Nat × (List UInt8) × (List D)) × (Int)) := fun t s => match t, s with
  | (.tsl false e_0 e_1 e_2 n0 .tight) :: (.str c1) :: .any :: .any :: .any :: (.int .i64 i3) :: t_0, [(.tbl false e_3 l2)] => (match dropAny 14 t_0 with
    | some ([]) => (match Sh.beq e_0 shTab && (Nat.beq e_1 (0 : Nat) && (Nat.beq e_2 (0 : Nat) && (Sh.beq e_3 shTab && (true)))) with | true => some ((n0, c1, l2), (i3)) | false => none)
    | _ => none)
  | _, _ => none
noncomputable def findW_t0_L0_ex (i : Nat × (List UInt8) × (List D)) (y : Nat × Int) (k : KS) : Prop := let n0 := i.1; let c1 := i.2.1; let l2 := i.2.2; let tag := y.1; let iy5 := y.2; br (Nat.beq tag 0) (k (Ex.ret) ([.any, .any, .any, .any, AV.int IntKind.i64 iy5] ++ padAny 15) [Ent.tbl false shTab l2]) (br (Nat.beq tag 1) (k (Ex.normal) ([.any] ++ padAny 19) [Ent.tbl false shTab l2]) (False))
theorem findW_t0_L0_of_ok : ∀ t s (i : Nat × (List UInt8) × (List D)) (x : Int), findW_t0_L0_of t s = some (i, x) → t = findW_t0_L0_T i.1 i.2.1 i.2.2 x ∧ s = findW_t0_L0_S i.1 i.2.1 i.2.2 x := by
  intro t s i x h
  unfold findW_t0_L0_of at h
  split at h
  · split at h
    · rename_i ha
      obtain rfl := dropAny_eq ha
      split at h
      · rename_i hg
        cases h
        simp only [Bool.and_eq_true] at hg
        obtain ⟨h_0, h_1, h_2, h_3, _⟩ := hg
        obtain rfl := Sh.beq_eq _ _ h_0
        obtain rfl := Nat.eq_of_beq_eq_true h_1
        obtain rfl := Nat.eq_of_beq_eq_true h_2
        obtain rfl := Sh.beq_eq _ _ h_3
        exact ⟨rfl, rfl⟩
      · cases h
    · cases h
  · cases h
noncomputable def findW_t0_L0_stp (n0 : Nat) (c1 : List UInt8) (l2 : List D) (i3 : Int) : NT (Int) (Nat × Int) :=
  NT.br (decide (i3 < (↑n0 : Int)))
    (NT.br (decide ((0 : Int) ≤ i3) && decide (i3 < (↑n0 : Int)))
     (NT.br (decide ((0 : Nat) + i3.toNat < l2.length))
      (NT.br (eqBytes ((l2.getD ((0 : Nat) + i3.toNat) D.nul).fld (0 : Nat)).asStr c1)
       (NT.done (0, i3))
       (NT.more (IntKind.i64.wrap (i3 + (1 : Int)))))
      (NT.fail))
     (NT.fail))
    (NT.done (1, 0))
noncomputable def findW_t0_L0 (i : Nat × (List UInt8) × (List D)) (x : Int) := findW_t0_L0_stp i.1 i.2.1 i.2.2 x
theorem findW_t0_L0_rd (n0 : Nat) (c1 : List UInt8) (l2 : List D) (i3 : Int) (more : List AV → St → Prop) (kk : KS) : roundK Try.prog pr_aaSw2 noL 100 21 0 (findW_t0_L0_T n0 c1 l2 i3) (findW_t0_L0_S n0 c1 l2 i3) (againK 1 0 [.yes, .yes, .no, .no, .no, .yes] [.no, .no, .no, .no, .yes] more kk) = (findW_t0_L0_stp n0 c1 l2 i3).K (fun x' => more (findW_t0_L0_T n0 c1 l2 x') (findW_t0_L0_S n0 c1 l2 x')) (fun y => findW_t0_L0_ex (n0, c1, l2) y kk) := by kernel_rfl
noncomputable def findW_t0_L0_LP : Nat → Option LoopS := addL 0 (headG 1 [.yes, .yes, .no, .no, .no, .yes] (outL findW_t0_L0 findW_t0_L0_of findW_t0_L0_ex)) noL
theorem findW_t0_L0_lp (hpr : PrOk Try.prog pr_aaSw2) : LoopsFor Try.prog 21 1 findW_t0_L0_LP := loops_lp (L := 100) (T := fun i x => findW_t0_L0_T i.1 i.2.1 i.2.2 x) (S := fun i x => findW_t0_L0_S i.1 i.2.1 i.2.2 x) ok hpr (by kernel_rfl) loops_none findW_t0_L0_of_ok (fun i x more kk => findW_t0_L0_rd i.1 i.2.1 i.2.2 x more kk)
noncomputable def findW_t0r (n : Nat) (w : List D) (c : List UInt8) : RT :=
  RT.br (loopOk (findW_t0_L0 (n, c, w)) (0 : Int))
    (RT.br ((loopV (findW_t0_L0 (n, c, w)) (0 : Int)).fst.beq (0 : Nat))
     (okL (AV.int IntKind.i64 (loopV (findW_t0_L0 (n, c, w)) (0 : Int)).snd) ([Ent.tbl false shTab w]))
     (RT.br ((loopV (findW_t0_L0 (n, c, w)) (0 : Int)).fst.beq (1 : Nat))
      (okL (AV.int IntKind.i64 (-1 : Int)) ([Ent.tbl false shTab w]))
      (RT.fail)))
    (RT.fail)
theorem findW_t0r_b (n : Nat) (w : List D) (c : List UInt8) (K : AV → St → Prop) : bodyK Try.prog pr_aaSw2 findW_t0_L0_LP 100 21 [] [.tsl false shTab 0 0 n .tight, .str c] [.tbl false shTab w] K = RT.K (fun v s _ => K v s) (findW_t0r n w c) := by kernel_rfl
noncomputable def findW_t0_V0 (n : Nat) (w : List D) (c : List UInt8) : Bool :=
  loopOk (findW_t0_L0 (n, c, w)) (0 : Int) && bif (loopV (findW_t0_L0 (n, c, w)) (0 : Int)).fst.beq (0 : Nat) then true else (loopV (findW_t0_L0 (n, c, w)) (0 : Int)).fst.beq (1 : Nat) && true
noncomputable def findW_t0_V1 (n : Nat) (w : List D) (c : List UInt8) : Int :=
  bif (loopV (findW_t0_L0 (n, c, w)) (0 : Int)).fst.beq (0 : Nat) then (loopV (findW_t0_L0 (n, c, w)) (0 : Int)).snd else (-1 : Int)
noncomputable def findW_t0 (n : Nat) (w : List D) (c : List UInt8) : RT :=
  RT.br (findW_t0_V0 n w c)
    (okL (Go.Sy.AV.int (IntKind.i64) (findW_t0_V1 n w c)) [(Go.Sy.Ent.tbl (false) shTab w)])
    (RT.fail)
theorem findW_t0_m (n : Nat) (w : List D) (c : List UInt8) (K : AV → St → Prop) : RT.K (fun v s _ => K v s) (RT.mergeW ([Ent.tbl false shTab w]) (findW_t0r n w c)) = RT.K (fun v s _ => K v s) (findW_t0 n w c) := by kernel_rfl
theorem findW_t0_b (n : Nat) (w : List D) (c : List UInt8) (K : AV → St → Prop) (h : RT.K (fun v s _ => K v s) (findW_t0 n w c)) : bodyK Try.prog pr_aaSw2 findW_t0_L0_LP 100 21 [] [.tsl false shTab 0 0 n .tight, .str c] [.tbl false shTab w] K := Eq.mpr (findW_t0r_b ..) (mergeW_K (S := [Ent.tbl false shTab w]) _ ⟨⟨rfl, ⟨rfl, trivial⟩⟩, trivial⟩ (Eq.mpr (findW_t0_m ..) h))
theorem findW_t0_lp (hpr : PrOk Try.prog pr_aaSw2) : LoopsFor Try.prog 21 1 findW_t0_L0_LP := (findW_t0_L0_lp hpr)
noncomputable def findW : Sy.Spec := ⟨[], fun args s => match args, s with
  | [(.tsl false e_0 e_1 e_2 n .tight), (.str c)], [(.tbl false e_3 w)] => .br (Sh.beq e_0 shTab && (Nat.beq e_1 (0 : Nat) && (Nat.beq e_2 (0 : Nat) && (Sh.beq e_3 shTab && (true))))) (findW_t0 n w c) .fail
  | _, _ => .fail⟩
theorem findW_ok : SpecOk Try.prog 21 findW.f := specOk_comes fun args s v s' tch e => by
  simp only [findW] at e
  split at e
  · obtain ⟨hg, e⟩ := if_run e
    simp only [Bool.and_eq_true] at hg
    obtain ⟨h_0, h_1, h_2, h_3, _⟩ := hg
    obtain rfl := Sh.beq_eq _ _ h_0
    obtain rfl := Nat.eq_of_beq_eq_true h_1
    obtain rfl := Nat.eq_of_beq_eq_true h_2
    obtain rfl := Sh.beq_eq _ _ h_3
    refine comes_of ok pr_aaSw2_k (L := 100) (ms := []) (by kernel_rfl) (findW_t0_lp pr_aaSw2_k) ?_
    exact findW_t0_b (h := K_run e) ..
  · cases e
noncomputable def findW_pr : FuncId → Option Sy.Spec := addP 21 findW pr_aaSw2
theorem findW_pr_k : PrOk Try.prog findW_pr := prOk_add findW_ok pr_aaSw2_k
noncomputable def namesW_t0_L0_T (l0 : List D) (c1 : List UInt8) (l2 : List D) (c3 : List UInt8) (l4 : List D) (i5 : Int) : List AV := ([.any, .any, .any, AV.ptr (some ((1 : Nat), (0 : Nat))), .any, AV.int IntKind.i64 i5] ++ padAny 122)
noncomputable def namesW_t0_L0_S (l0 : List D) (c1 : List UInt8) (l2 : List D) (c3 : List UInt8) (l4 : List D) (i5 : Int) : St := [Ent.tbl false shTab l0, Ent.cells [AV.str c1, AV.fz false shCol l2, AV.str c3, AV.fz false shDep l4]]
noncomputable def namesW_t0_L0_of : List AV → St → Option (((List D) × (List UInt8) × (List D) × (List UInt8) × (List D)) × (Int)) := fun t s => match t, s with
  | .any :: .any :: .any :: (.ptr (.some (e_0, e_1))) :: .any :: (.int .i64 i5) :: t_0, [(.tbl false e_2 l0), (.cells [(.str c1), (.fz false e_3 l2), (.str c3), (.fz false e_4 l4)])] => (match dropAny 122 t_0 with
    | some ([]) => (match Nat.beq e_0 (1 : Nat) && (Nat.beq e_1 (0 : Nat) && (Sh.beq e_2 shTab && (Sh.beq e_3 shCol && (Sh.beq e_4 shDep && (true))))) with | true => some ((l0, c1, l2, c3, l4), (i5)) | false => none)
    | _ => none)
  | _, _ => none
noncomputable def namesW_t0_L0_ex (i : (List D) × (List UInt8) × (List D) × (List UInt8) × (List D)) (y : Nat) (k : KS) : Prop := let l0 := i.1; let c1 := i.2.1; let l2 := i.2.2.1; let c3 := i.2.2.2.1; let l4 := i.2.2.2.2; let tag := y; br (Nat.beq tag 0) (k (Ex.ret) ([.any, .any, .any, AV.ptr (some ((1 : Nat), (0 : Nat))), AV.bool false] ++ padAny 123) [Ent.tbl false shTab l0, Ent.cells [AV.str c1, AV.fz false shCol l2, AV.str c3, AV.fz false shDep l4]]) (br (Nat.beq tag 1) (k (Ex.normal) ([.any, .any, .any, AV.ptr (some ((1 : Nat), (0 : Nat)))] ++ padAny 124) [Ent.tbl false shTab l0, Ent.cells [AV.str c1, AV.fz false shCol l2, AV.str c3, AV.fz false shDep l4]]) (False))
theorem namesW_t0_L0_of_ok : ∀ t s (i : (List D) × (List UInt8) × (List D) × (List UInt8) × (List D)) (x : Int), namesW_t0_L0_of t s = some (i, x) → t = namesW_t0_L0_T i.1 i.2.1 i.2.2.1 i.2.2.2.1 i.2.2.2.2 x ∧ s = namesW_t0_L0_S i.1 i.2.1 i.2.2.1 i.2.2.2.1 i.2.2.2.2 x := by
  intro t s i x h
  unfold namesW_t0_L0_of at h
  split at h
  · split at h
    · rename_i ha
      obtain rfl := dropAny_eq ha
      split at h
      · rename_i hg
        cases h
        simp only [Bool.and_eq_true] at hg
        obtain ⟨h_0, h_1, h_2, h_3, h_4, _⟩ := hg
        obtain rfl := Nat.eq_of_beq_eq_true h_0
        obtain rfl := Nat.eq_of_beq_eq_true h_1
        obtain rfl := Sh.beq_eq _ _ h_2
        obtain rfl := Sh.beq_eq _ _ h_3
        obtain rfl := Sh.beq_eq _ _ h_4
        exact ⟨rfl, rfl⟩
      · cases h
    · cases h
  · cases h
noncomputable def namesW_t0_L0_stp (l0 : List D) (c1 : List UInt8) (l2 : List D) (c3 : List UInt8) (l4 : List D) (i5 : Int) : NT (Int) (Nat) :=
  NT.br (decide (i5 < (↑l2.length : Int)))
    (NT.br (decide ((0 : Int) ≤ i5) && decide (i5 < (↑l2.length : Int)))
     (NT.br (nameR_t0_V0 ((l2.getD i5.toNat D.nul).fld (0 : Nat)).asStr)
      (NT.br (!nameR_t0_V1 ((l2.getD i5.toNat D.nul).fld (0 : Nat)).asStr)
       (NT.done (0))
       (NT.br (decide ((0 : Int) ≤ i5) && decide (i5 < (↑l2.length : Int)))
        (NT.br (colofR_t0_V0 c1 l2 c3 l4 ((l2.getD i5.toNat D.nul).fld (0 : Nat)).asStr)
         (NT.br (!decide (colofR_t0_V1 c1 l2 c3 l4 ((l2.getD i5.toNat D.nul).fld (0 : Nat)).asStr = i5))
          (NT.done (0))
          (NT.more (IntKind.i64.wrap (i5 + (1 : Int)))))
         (NT.fail))
        (NT.fail)))
      (NT.fail))
     (NT.fail))
    (NT.done (1))
noncomputable def namesW_t0_L0 (i : (List D) × (List UInt8) × (List D) × (List UInt8) × (List D)) (x : Int) := namesW_t0_L0_stp i.1 i.2.1 i.2.2.1 i.2.2.2.1 i.2.2.2.2 x
theorem namesW_t0_L0_rd (l0 : List D) (c1 : List UInt8) (l2 : List D) (c3 : List UInt8) (l4 : List D) (i5 : Int) (more : List AV → St → Prop) (kk : KS) : roundK Try.prog findW_pr noL 100 42 0 (namesW_t0_L0_T l0 c1 l2 c3 l4 i5) (namesW_t0_L0_S l0 c1 l2 c3 l4 i5) (againK 1 0 [.no, .no, .no, .yes, .no, .yes] [.no, .no, .no, .yes, .yes] more kk) = (namesW_t0_L0_stp l0 c1 l2 c3 l4 i5).K (fun x' => more (namesW_t0_L0_T l0 c1 l2 c3 l4 x') (namesW_t0_L0_S l0 c1 l2 c3 l4 x')) (fun y => namesW_t0_L0_ex (l0, c1, l2, c3, l4) y kk) := by kernel_rfl
noncomputable def namesW_t0_L0_LP : Nat → Option LoopS := addL 0 (headG 1 [.no, .no, .no, .yes, .no, .yes] (outL namesW_t0_L0 namesW_t0_L0_of namesW_t0_L0_ex)) noL
theorem namesW_t0_L0_lp (hpr : PrOk Try.prog findW_pr) : LoopsFor Try.prog 42 1 namesW_t0_L0_LP := loops_lp (L := 100) (T := fun i x => namesW_t0_L0_T i.1 i.2.1 i.2.2.1 i.2.2.2.1 i.2.2.2.2 x) (S := fun i x => namesW_t0_L0_S i.1 i.2.1 i.2.2.1 i.2.2.2.1 i.2.2.2.2 x) ok hpr (by kernel_rfl) loops_none namesW_t0_L0_of_ok (fun i x more kk => namesW_t0_L0_rd i.1 i.2.1 i.2.2.1 i.2.2.2.1 i.2.2.2.2 x more kk)
noncomputable def namesW_t0_L6_T (l18 : List D) (c19 : List UInt8) (l20 : List D) (c21 : List UInt8) (l22 : List D) (l23 : List D) (c24 : List UInt8) (i26 : Int) (i30 : Int) (i27 : Int) : List AV := ([.any, .any, .any, AV.ptr (some ((1 : Nat), (0 : Nat))), .any, .any, AV.int IntKind.i64 i30, AV.ptr (some ((2 : Nat), (0 : Nat))), AV.int IntKind.i64 i26, AV.int IntKind.i64 i27] ++ padAny 118)
noncomputable def namesW_t0_L6_S (l18 : List D) (c19 : List UInt8) (l20 : List D) (c21 : List UInt8) (l22 : List D) (l23 : List D) (c24 : List UInt8) (i26 : Int) (i30 : Int) (i27 : Int) : St := [Ent.tbl false shTab l18, Ent.cells [AV.str c19, AV.fz false shCol l20, AV.str c21, AV.fz false shDep l22], Ent.cells [AV.fz false Sh.str l23, AV.str c24]]
noncomputable def namesW_t0_L6_of : List AV → St → Option (((List D) × (List UInt8) × (List D) × (List UInt8) × (List D) × (List D) × (List UInt8) × Int × Int) × (Int)) := fun t s => match t, s with
  | .any :: .any :: .any :: (.ptr (.some (e_0, e_1))) :: .any :: .any :: (.int .i64 i30) :: (.ptr (.some (e_2, e_3))) :: (.int .i64 i26) :: (.int .i64 i27) :: t_0, [(.tbl false e_4 l18), (.cells [(.str c19), (.fz false e_5 l20), (.str c21), (.fz false e_6 l22)]), (.cells [(.fz false e_7 l23), (.str c24)])] => (match dropAny 118 t_0 with
    | some ([]) => (match Nat.beq e_0 (1 : Nat) && (Nat.beq e_1 (0 : Nat) && (Nat.beq e_2 (2 : Nat) && (Nat.beq e_3 (0 : Nat) && (Sh.beq e_4 shTab && (Sh.beq e_5 shCol && (Sh.beq e_6 shDep && (Sh.beq e_7 (Sh.str) && (true)))))))) with | true => some ((l18, c19, l20, c21, l22, l23, c24, i26, i30), (i27)) | false => none)
    | _ => none)
  | _, _ => none
noncomputable def namesW_t0_L6_ex (i : (List D) × (List UInt8) × (List D) × (List UInt8) × (List D) × (List D) × (List UInt8) × Int × Int) (y : Nat) (k : KS) : Prop := let l18 := i.1; let c19 := i.2.1; let l20 := i.2.2.1; let c21 := i.2.2.2.1; let l22 := i.2.2.2.2.1; let l23 := i.2.2.2.2.2.1; let c24 := i.2.2.2.2.2.2.1; let i26 := i.2.2.2.2.2.2.2.1; let i30 := i.2.2.2.2.2.2.2.2; let tag := y; br (Nat.beq tag 0) (k (Ex.ret) ([.any, .any, .any, AV.ptr (some ((1 : Nat), (0 : Nat))), AV.bool false, .any, AV.int IntKind.i64 i30, AV.ptr (some ((2 : Nat), (0 : Nat))), AV.int IntKind.i64 i26] ++ padAny 119) [Ent.tbl false shTab l18, Ent.cells [AV.str c19, AV.fz false shCol l20, AV.str c21, AV.fz false shDep l22], Ent.cells [AV.fz false Sh.str l23, AV.str c24]]) (br (Nat.beq tag 1) (k (Ex.normal) ([.any, .any, .any, AV.ptr (some ((1 : Nat), (0 : Nat))), .any, .any, AV.int IntKind.i64 i30, AV.ptr (some ((2 : Nat), (0 : Nat))), AV.int IntKind.i64 i26] ++ padAny 119) [Ent.tbl false shTab l18, Ent.cells [AV.str c19, AV.fz false shCol l20, AV.str c21, AV.fz false shDep l22], Ent.cells [AV.fz false Sh.str l23, AV.str c24]]) (False))
theorem namesW_t0_L6_of_ok : ∀ t s (i : (List D) × (List UInt8) × (List D) × (List UInt8) × (List D) × (List D) × (List UInt8) × Int × Int) (x : Int), namesW_t0_L6_of t s = some (i, x) → t = namesW_t0_L6_T i.1 i.2.1 i.2.2.1 i.2.2.2.1 i.2.2.2.2.1 i.2.2.2.2.2.1 i.2.2.2.2.2.2.1 i.2.2.2.2.2.2.2.1 i.2.2.2.2.2.2.2.2 x ∧ s = namesW_t0_L6_S i.1 i.2.1 i.2.2.1 i.2.2.2.1 i.2.2.2.2.1 i.2.2.2.2.2.1 i.2.2.2.2.2.2.1 i.2.2.2.2.2.2.2.1 i.2.2.2.2.2.2.2.2 x := by
  intro t s i x h
  unfold namesW_t0_L6_of at h
  split at h
  · split at h
    · rename_i ha
      obtain rfl := dropAny_eq ha
      split at h
      · rename_i hg
        cases h
        simp only [Bool.and_eq_true] at hg
        obtain ⟨h_0, h_1, h_2, h_3, h_4, h_5, h_6, h_7, _⟩ := hg
        obtain rfl := Nat.eq_of_beq_eq_true h_0
        obtain rfl := Nat.eq_of_beq_eq_true h_1
        obtain rfl := Nat.eq_of_beq_eq_true h_2
        obtain rfl := Nat.eq_of_beq_eq_true h_3
        obtain rfl := Sh.beq_eq _ _ h_4
        obtain rfl := Sh.beq_eq _ _ h_5
        obtain rfl := Sh.beq_eq _ _ h_6
        obtain rfl := Sh.beq_eq _ _ h_7
        exact ⟨rfl, rfl⟩
      · cases h
    · cases h
  · cases h
noncomputable def namesW_t0_L6_stp (l18 : List D) (c19 : List UInt8) (l20 : List D) (c21 : List UInt8) (l22 : List D) (l23 : List D) (c24 : List UInt8) (i26 : Int) (i30 : Int) (i27 : Int) : NT (Int) (Nat) :=
  NT.br (decide (i27 < i26))
    (NT.br (decide ((0 : Int) ≤ i27) && decide (i27 < (↑l23.length : Int)))
     (NT.br (decide ((0 : Int) ≤ i26) && decide (i26 < (↑l23.length : Int)))
      (NT.br (eqBytes (l23.getD i27.toNat D.nul).asStr (l23.getD i26.toNat D.nul).asStr)
       (NT.done (0))
       (NT.more (IntKind.i64.wrap (i27 + (1 : Int)))))
      (NT.fail))
     (NT.fail))
    (NT.done (1))
noncomputable def namesW_t0_L6 (i : (List D) × (List UInt8) × (List D) × (List UInt8) × (List D) × (List D) × (List UInt8) × Int × Int) (x : Int) := namesW_t0_L6_stp i.1 i.2.1 i.2.2.1 i.2.2.2.1 i.2.2.2.2.1 i.2.2.2.2.2.1 i.2.2.2.2.2.2.1 i.2.2.2.2.2.2.2.1 i.2.2.2.2.2.2.2.2 x
theorem namesW_t0_L6_rd (l18 : List D) (c19 : List UInt8) (l20 : List D) (c21 : List UInt8) (l22 : List D) (l23 : List D) (c24 : List UInt8) (i26 : Int) (i30 : Int) (i27 : Int) (more : List AV → St → Prop) (kk : KS) : roundK Try.prog findW_pr namesW_t0_L0_LP 100 42 6 (namesW_t0_L6_T l18 c19 l20 c21 l22 l23 c24 i26 i30 i27) (namesW_t0_L6_S l18 c19 l20 c21 l22 l23 c24 i26 i30 i27) (againK 1 6 [.no, .no, .no, .yes, .no, .no, .yes, .yes, .yes, .yes] [.no, .no, .no, .yes, .yes, .no, .yes, .yes, .yes] more kk) = (namesW_t0_L6_stp l18 c19 l20 c21 l22 l23 c24 i26 i30 i27).K (fun x' => more (namesW_t0_L6_T l18 c19 l20 c21 l22 l23 c24 i26 i30 x') (namesW_t0_L6_S l18 c19 l20 c21 l22 l23 c24 i26 i30 x')) (fun y => namesW_t0_L6_ex (l18, c19, l20, c21, l22, l23, c24, i26, i30) y kk) := by kernel_rfl
noncomputable def namesW_t0_L6_LP : Nat → Option LoopS := addL 6 (headG 1 [.no, .no, .no, .yes, .no, .no, .yes, .yes, .yes, .yes] (outL namesW_t0_L6 namesW_t0_L6_of namesW_t0_L6_ex)) namesW_t0_L0_LP
theorem namesW_t0_L6_lp (hpr : PrOk Try.prog findW_pr) : LoopsFor Try.prog 42 1 namesW_t0_L6_LP := loops_lp (L := 100) (T := fun i x => namesW_t0_L6_T i.1 i.2.1 i.2.2.1 i.2.2.2.1 i.2.2.2.2.1 i.2.2.2.2.2.1 i.2.2.2.2.2.2.1 i.2.2.2.2.2.2.2.1 i.2.2.2.2.2.2.2.2 x) (S := fun i x => namesW_t0_L6_S i.1 i.2.1 i.2.2.1 i.2.2.2.1 i.2.2.2.2.1 i.2.2.2.2.2.1 i.2.2.2.2.2.2.1 i.2.2.2.2.2.2.2.1 i.2.2.2.2.2.2.2.2 x) ok hpr (by kernel_rfl) (namesW_t0_L0_lp hpr) namesW_t0_L6_of_ok (fun i x more kk => namesW_t0_L6_rd i.1 i.2.1 i.2.2.1 i.2.2.2.1 i.2.2.2.2.1 i.2.2.2.2.2.1 i.2.2.2.2.2.2.1 i.2.2.2.2.2.2.2.1 i.2.2.2.2.2.2.2.2 x more kk)
noncomputable def namesW_t0_L4_T (l11 : List D) (c12 : List UInt8) (l13 : List D) (c14 : List UInt8) (l15 : List D) (l16 : List D) (c17 : List UInt8) (i29 : Int) (i25 : Int) : List AV := ([.any, .any, .any, AV.ptr (some ((1 : Nat), (0 : Nat))), .any, .any, AV.int IntKind.i64 i29, AV.ptr (some ((2 : Nat), (0 : Nat))), AV.int IntKind.i64 i25] ++ padAny 119)
noncomputable def namesW_t0_L4_S (l11 : List D) (c12 : List UInt8) (l13 : List D) (c14 : List UInt8) (l15 : List D) (l16 : List D) (c17 : List UInt8) (i29 : Int) (i25 : Int) : St := [Ent.tbl false shTab l11, Ent.cells [AV.str c12, AV.fz false shCol l13, AV.str c14, AV.fz false shDep l15], Ent.cells [AV.fz false Sh.str l16, AV.str c17]]
noncomputable def namesW_t0_L4_of : List AV → St → Option (((List D) × (List UInt8) × (List D) × (List UInt8) × (List D) × (List D) × (List UInt8) × Int) × (Int)) := fun t s => match t, s with
  | .any :: .any :: .any :: (.ptr (.some (e_0, e_1))) :: .any :: .any :: (.int .i64 i29) :: (.ptr (.some (e_2, e_3))) :: (.int .i64 i25) :: t_0, [(.tbl false e_4 l11), (.cells [(.str c12), (.fz false e_5 l13), (.str c14), (.fz false e_6 l15)]), (.cells [(.fz false e_7 l16), (.str c17)])] => (match dropAny 119 t_0 with
    | some ([]) => (match Nat.beq e_0 (1 : Nat) && (Nat.beq e_1 (0 : Nat) && (Nat.beq e_2 (2 : Nat) && (Nat.beq e_3 (0 : Nat) && (Sh.beq e_4 shTab && (Sh.beq e_5 shCol && (Sh.beq e_6 shDep && (Sh.beq e_7 (Sh.str) && (true)))))))) with | true => some ((l11, c12, l13, c14, l15, l16, c17, i29), (i25)) | false => none)
    | _ => none)
  | _, _ => none
noncomputable def namesW_t0_L4_ex (i : (List D) × (List UInt8) × (List D) × (List UInt8) × (List D) × (List D) × (List UInt8) × Int) (y : Nat) (k : KS) : Prop := let l11 := i.1; let c12 := i.2.1; let l13 := i.2.2.1; let c14 := i.2.2.2.1; let l15 := i.2.2.2.2.1; let l16 := i.2.2.2.2.2.1; let c17 := i.2.2.2.2.2.2.1; let i29 := i.2.2.2.2.2.2.2; let tag := y; br (Nat.beq tag 0) (k (Ex.ret) ([.any, .any, .any, AV.ptr (some ((1 : Nat), (0 : Nat))), AV.bool false, .any, AV.int IntKind.i64 i29] ++ padAny 121) [Ent.tbl false shTab l11, Ent.cells [AV.str c12, AV.fz false shCol l13, AV.str c14, AV.fz false shDep l15]]) (br (Nat.beq tag 1) (k (Ex.normal) ([.any, .any, .any, AV.ptr (some ((1 : Nat), (0 : Nat))), .any, .any, AV.int IntKind.i64 i29] ++ padAny 121) [Ent.tbl false shTab l11, Ent.cells [AV.str c12, AV.fz false shCol l13, AV.str c14, AV.fz false shDep l15]]) (False))
theorem namesW_t0_L4_of_ok : ∀ t s (i : (List D) × (List UInt8) × (List D) × (List UInt8) × (List D) × (List D) × (List UInt8) × Int) (x : Int), namesW_t0_L4_of t s = some (i, x) → t = namesW_t0_L4_T i.1 i.2.1 i.2.2.1 i.2.2.2.1 i.2.2.2.2.1 i.2.2.2.2.2.1 i.2.2.2.2.2.2.1 i.2.2.2.2.2.2.2 x ∧ s = namesW_t0_L4_S i.1 i.2.1 i.2.2.1 i.2.2.2.1 i.2.2.2.2.1 i.2.2.2.2.2.1 i.2.2.2.2.2.2.1 i.2.2.2.2.2.2.2 x := by
  intro t s i x h
  unfold namesW_t0_L4_of at h
  split at h
  · split at h
    · rename_i ha
      obtain rfl := dropAny_eq ha
      split at h
      · rename_i hg
        cases h
        simp only [Bool.and_eq_true] at hg
        obtain ⟨h_0, h_1, h_2, h_3, h_4, h_5, h_6, h_7, _⟩ := hg
        obtain rfl := Nat.eq_of_beq_eq_true h_0
        obtain rfl := Nat.eq_of_beq_eq_true h_1
        obtain rfl := Nat.eq_of_beq_eq_true h_2
        obtain rfl := Nat.eq_of_beq_eq_true h_3
        obtain rfl := Sh.beq_eq _ _ h_4
        obtain rfl := Sh.beq_eq _ _ h_5
        obtain rfl := Sh.beq_eq _ _ h_6
        obtain rfl := Sh.beq_eq _ _ h_7
        exact ⟨rfl, rfl⟩
      · cases h
    · cases h
  · cases h
noncomputable def namesW_t0_L4_stp (l11 : List D) (c12 : List UInt8) (l13 : List D) (c14 : List UInt8) (l15 : List D) (l16 : List D) (c17 : List UInt8) (i29 : Int) (i25 : Int) : NT (Int) (Nat) :=
  NT.br (decide (i25 < (↑l16.length : Int)))
    (NT.br (decide ((0 : Int) ≤ i25) && decide (i25 < (↑l16.length : Int)))
     (NT.br (colofR_t0_V0 c12 l13 c14 l15 (l16.getD i25.toNat D.nul).asStr)
      (NT.br (decide (colofR_t0_V1 c12 l13 c14 l15 (l16.getD i25.toNat D.nul).asStr < (0 : Int)))
       (NT.done (0))
       (NT.br (decide ((0 : Int) ≤ i25) && decide (i25 < (↑l16.length : Int)))
        (NT.br (eqBytes (l16.getD i25.toNat D.nul).asStr c17)
         (NT.done (0))
         (NT.br (loopOk (namesW_t0_L6 (l11, c12, l13, c14, l15, l16, c17, i25, i29)) (0 : Int))
          (NT.br ((loopV (namesW_t0_L6 (l11, c12, l13, c14, l15, l16, c17, i25, i29)) (0 : Int)).beq (0 : Nat))
           (NT.done (0))
           (NT.br ((loopV (namesW_t0_L6 (l11, c12, l13, c14, l15, l16, c17, i25, i29)) (0 : Int)).beq (1 : Nat))
            (NT.more (IntKind.i64.wrap (i25 + (1 : Int))))
            (NT.fail)))
          (NT.fail)))
        (NT.fail)))
      (NT.fail))
     (NT.fail))
    (NT.done (1))
noncomputable def namesW_t0_L4 (i : (List D) × (List UInt8) × (List D) × (List UInt8) × (List D) × (List D) × (List UInt8) × Int) (x : Int) := namesW_t0_L4_stp i.1 i.2.1 i.2.2.1 i.2.2.2.1 i.2.2.2.2.1 i.2.2.2.2.2.1 i.2.2.2.2.2.2.1 i.2.2.2.2.2.2.2 x
theorem namesW_t0_L4_rd (l11 : List D) (c12 : List UInt8) (l13 : List D) (c14 : List UInt8) (l15 : List D) (l16 : List D) (c17 : List UInt8) (i29 : Int) (i25 : Int) (more : List AV → St → Prop) (kk : KS) : roundK Try.prog findW_pr namesW_t0_L6_LP 100 42 4 (namesW_t0_L4_T l11 c12 l13 c14 l15 l16 c17 i29 i25) (namesW_t0_L4_S l11 c12 l13 c14 l15 l16 c17 i29 i25) (againK 1 4 [.no, .no, .no, .yes, .no, .no, .yes, .yes, .yes] [.no, .no, .no, .yes, .yes, .no, .yes] more kk) = (namesW_t0_L4_stp l11 c12 l13 c14 l15 l16 c17 i29 i25).K (fun x' => more (namesW_t0_L4_T l11 c12 l13 c14 l15 l16 c17 i29 x') (namesW_t0_L4_S l11 c12 l13 c14 l15 l16 c17 i29 x')) (fun y => namesW_t0_L4_ex (l11, c12, l13, c14, l15, l16, c17, i29) y kk) := by kernel_rfl
noncomputable def namesW_t0_L4_LP : Nat → Option LoopS := addL 4 (headG 1 [.no, .no, .no, .yes, .no, .no, .yes, .yes, .yes] (outL namesW_t0_L4 namesW_t0_L4_of namesW_t0_L4_ex)) namesW_t0_L6_LP
theorem namesW_t0_L4_lp (hpr : PrOk Try.prog findW_pr) : LoopsFor Try.prog 42 1 namesW_t0_L4_LP := loops_lp (L := 100) (T := fun i x => namesW_t0_L4_T i.1 i.2.1 i.2.2.1 i.2.2.2.1 i.2.2.2.2.1 i.2.2.2.2.2.1 i.2.2.2.2.2.2.1 i.2.2.2.2.2.2.2 x) (S := fun i x => namesW_t0_L4_S i.1 i.2.1 i.2.2.1 i.2.2.2.1 i.2.2.2.2.1 i.2.2.2.2.2.1 i.2.2.2.2.2.2.1 i.2.2.2.2.2.2.2 x) ok hpr (by kernel_rfl) (namesW_t0_L6_lp hpr) namesW_t0_L4_of_ok (fun i x more kk => namesW_t0_L4_rd i.1 i.2.1 i.2.2.1 i.2.2.2.1 i.2.2.2.2.1 i.2.2.2.2.2.1 i.2.2.2.2.2.2.1 i.2.2.2.2.2.2.2 x more kk)
noncomputable def namesW_t0_L2_T (l6 : List D) (c7 : List UInt8) (l8 : List D) (c9 : List UInt8) (l10 : List D) (i28 : Int) : List AV := ([.any, .any, .any, AV.ptr (some ((1 : Nat), (0 : Nat))), .any, .any, AV.int IntKind.i64 i28] ++ padAny 121)
noncomputable def namesW_t0_L2_S (l6 : List D) (c7 : List UInt8) (l8 : List D) (c9 : List UInt8) (l10 : List D) (i28 : Int) : St := [Ent.tbl false shTab l6, Ent.cells [AV.str c7, AV.fz false shCol l8, AV.str c9, AV.fz false shDep l10]]
noncomputable def namesW_t0_L2_of : List AV → St → Option (((List D) × (List UInt8) × (List D) × (List UInt8) × (List D)) × (Int)) := fun t s => match t, s with
  | .any :: .any :: .any :: (.ptr (.some (e_0, e_1))) :: .any :: .any :: (.int .i64 i28) :: t_0, [(.tbl false e_2 l6), (.cells [(.str c7), (.fz false e_3 l8), (.str c9), (.fz false e_4 l10)])] => (match dropAny 121 t_0 with
    | some ([]) => (match Nat.beq e_0 (1 : Nat) && (Nat.beq e_1 (0 : Nat) && (Sh.beq e_2 shTab && (Sh.beq e_3 shCol && (Sh.beq e_4 shDep && (true))))) with | true => some ((l6, c7, l8, c9, l10), (i28)) | false => none)
    | _ => none)
  | _, _ => none
noncomputable def namesW_t0_L2_ex (i : (List D) × (List UInt8) × (List D) × (List UInt8) × (List D)) (y : Nat) (k : KS) : Prop := let l6 := i.1; let c7 := i.2.1; let l8 := i.2.2.1; let c9 := i.2.2.2.1; let l10 := i.2.2.2.2; let tag := y; br (Nat.beq tag 0) (k (Ex.ret) ([.any, .any, .any, .any, AV.bool false] ++ padAny 123) [Ent.tbl false shTab l6]) (br (Nat.beq tag 1) (k (Ex.normal) ([.any] ++ padAny 127) [Ent.tbl false shTab l6]) (False))
theorem namesW_t0_L2_of_ok : ∀ t s (i : (List D) × (List UInt8) × (List D) × (List UInt8) × (List D)) (x : Int), namesW_t0_L2_of t s = some (i, x) → t = namesW_t0_L2_T i.1 i.2.1 i.2.2.1 i.2.2.2.1 i.2.2.2.2 x ∧ s = namesW_t0_L2_S i.1 i.2.1 i.2.2.1 i.2.2.2.1 i.2.2.2.2 x := by
  intro t s i x h
  unfold namesW_t0_L2_of at h
  split at h
  · split at h
    · rename_i ha
      obtain rfl := dropAny_eq ha
      split at h
      · rename_i hg
        cases h
        simp only [Bool.and_eq_true] at hg
        obtain ⟨h_0, h_1, h_2, h_3, h_4, _⟩ := hg
        obtain rfl := Nat.eq_of_beq_eq_true h_0
        obtain rfl := Nat.eq_of_beq_eq_true h_1
        obtain rfl := Sh.beq_eq _ _ h_2
        obtain rfl := Sh.beq_eq _ _ h_3
        obtain rfl := Sh.beq_eq _ _ h_4
        exact ⟨rfl, rfl⟩
      · cases h
    · cases h
  · cases h
noncomputable def namesW_t0_L2_stp (l6 : List D) (c7 : List UInt8) (l8 : List D) (c9 : List UInt8) (l10 : List D) (i28 : Int) : NT (Int) (Nat) :=
  NT.br (decide (i28 < (↑l10.length : Int)))
    (NT.br (decide ((0 : Int) ≤ i28) && decide (i28 < (↑l10.length : Int)))
     (NT.br (decide ((↑((l10.getD i28.toNat D.nul).fld (0 : Nat)).els.length : Int) < (1 : Int)))
      (NT.done (0))
      (NT.br (decide ((↑((l10.getD i28.toNat D.nul).fld (0 : Nat)).els.length : Int) > (3 : Int)))
       (NT.done (0))
       (NT.br (colofR_t0_V0 c7 l8 c9 l10 ((l10.getD i28.toNat D.nul).fld (1 : Nat)).asStr)
        (NT.br (decide (colofR_t0_V1 c7 l8 c9 l10 ((l10.getD i28.toNat D.nul).fld (1 : Nat)).asStr < (0 : Int)))
         (NT.done (0))
         (NT.br (loopOk (namesW_t0_L4 (l6, c7, l8, c9, l10, ((l10.getD i28.toNat D.nul).fld (0 : Nat)).els, ((l10.getD i28.toNat D.nul).fld (1 : Nat)).asStr, i28)) (0 : Int))
          (NT.br ((loopV (namesW_t0_L4 (l6, c7, l8, c9, l10, ((l10.getD i28.toNat D.nul).fld (0 : Nat)).els, ((l10.getD i28.toNat D.nul).fld (1 : Nat)).asStr, i28)) (0 : Int)).beq (0 : Nat))
           (NT.done (0))
           (NT.br ((loopV (namesW_t0_L4 (l6, c7, l8, c9, l10, ((l10.getD i28.toNat D.nul).fld (0 : Nat)).els, ((l10.getD i28.toNat D.nul).fld (1 : Nat)).asStr, i28)) (0 : Int)).beq (1 : Nat))
            (NT.more (IntKind.i64.wrap (i28 + (1 : Int))))
            (NT.fail)))
          (NT.fail)))
        (NT.fail))))
     (NT.fail))
    (NT.done (1))
noncomputable def namesW_t0_L2 (i : (List D) × (List UInt8) × (List D) × (List UInt8) × (List D)) (x : Int) := namesW_t0_L2_stp i.1 i.2.1 i.2.2.1 i.2.2.2.1 i.2.2.2.2 x
theorem namesW_t0_L2_rd (l6 : List D) (c7 : List UInt8) (l8 : List D) (c9 : List UInt8) (l10 : List D) (i28 : Int) (more : List AV → St → Prop) (kk : KS) : roundK Try.prog findW_pr namesW_t0_L4_LP 100 42 2 (namesW_t0_L2_T l6 c7 l8 c9 l10 i28) (namesW_t0_L2_S l6 c7 l8 c9 l10 i28) (againK 1 2 [.no, .no, .no, .yes, .no, .no, .yes] [.no, .no, .no, .no, .yes] more kk) = (namesW_t0_L2_stp l6 c7 l8 c9 l10 i28).K (fun x' => more (namesW_t0_L2_T l6 c7 l8 c9 l10 x') (namesW_t0_L2_S l6 c7 l8 c9 l10 x')) (fun y => namesW_t0_L2_ex (l6, c7, l8, c9, l10) y kk) := by kernel_rfl
noncomputable def namesW_t0_L2_LP : Nat → Option LoopS := addL 2 (headG 1 [.no, .no, .no, .yes, .no, .no, .yes] (outL namesW_t0_L2 namesW_t0_L2_of namesW_t0_L2_ex)) namesW_t0_L4_LP
theorem namesW_t0_L2_lp (hpr : PrOk Try.prog findW_pr) : LoopsFor Try.prog 42 1 namesW_t0_L2_LP := loops_lp (L := 100) (T := fun i x => namesW_t0_L2_T i.1 i.2.1 i.2.2.1 i.2.2.2.1 i.2.2.2.2 x) (S := fun i x => namesW_t0_L2_S i.1 i.2.1 i.2.2.1 i.2.2.2.1 i.2.2.2.2 x) ok hpr (by kernel_rfl) (namesW_t0_L4_lp hpr) namesW_t0_L2_of_ok (fun i x more kk => namesW_t0_L2_rd i.1 i.2.1 i.2.2.1 i.2.2.2.1 i.2.2.2.2 x more kk)
noncomputable def namesW_t0r (n : Nat) (w : List D) (a : List UInt8) (l : List D) (k : List UInt8) (d : List D) : RT :=
  RT.br (nameR_t0_V0 a)
    (RT.br (!nameR_t0_V1 a)
     (okL (AV.bool false) ([Ent.tbl false shTab w]))
     (RT.br (findW_t0_V0 n w a)
      (RT.br (decide (findW_t0_V1 n w a ≥ (0 : Int)))
       (okL (AV.bool false) ([Ent.tbl false shTab w]))
       (RT.br (loopOk (namesW_t0_L0 (w, a, l, k, d)) (0 : Int))
        (RT.br ((loopV (namesW_t0_L0 (w, a, l, k, d)) (0 : Int)).beq (0 : Nat))
         (okL (AV.bool false) ([Ent.tbl false shTab w]))
         (RT.br ((loopV (namesW_t0_L0 (w, a, l, k, d)) (0 : Int)).beq (1 : Nat))
          (RT.br (!eqBytes k [])
           (RT.br (colofR_t0_V0 a l k d k)
            (RT.br (decide (colofR_t0_V1 a l k d k < (0 : Int)))
             (okL (AV.bool false) ([Ent.tbl false shTab w]))
             (RT.br (loopOk (namesW_t0_L2 (w, a, l, k, d)) (0 : Int))
              (RT.br ((loopV (namesW_t0_L2 (w, a, l, k, d)) (0 : Int)).beq (0 : Nat))
               (okL (AV.bool false) ([Ent.tbl false shTab w]))
               (RT.br ((loopV (namesW_t0_L2 (w, a, l, k, d)) (0 : Int)).beq (1 : Nat))
                (okL (AV.bool true) ([Ent.tbl false shTab w]))
                (RT.fail)))
              (RT.fail)))
            (RT.fail))
           (RT.br (loopOk (namesW_t0_L2 (w, a, l, k, d)) (0 : Int))
            (RT.br ((loopV (namesW_t0_L2 (w, a, l, k, d)) (0 : Int)).beq (0 : Nat))
             (okL (AV.bool false) ([Ent.tbl false shTab w]))
             (RT.br ((loopV (namesW_t0_L2 (w, a, l, k, d)) (0 : Int)).beq (1 : Nat))
              (okL (AV.bool true) ([Ent.tbl false shTab w]))
              (RT.fail)))
            (RT.fail)))
          (RT.fail)))
        (RT.fail)))
      (RT.fail)))
    (RT.fail)
theorem namesW_t0r_b (n : Nat) (w : List D) (a : List UInt8) (l : List D) (k : List UInt8) (d : List D) (K : AV → St → Prop) : bodyK Try.prog findW_pr namesW_t0_L2_LP 100 42 [] [.tsl false shTab 0 0 n .tight, .agg [.str a, .fz false shCol l, .str k, .fz false shDep d]] [.tbl false shTab w] K = RT.K (fun v s _ => K v s) (namesW_t0r n w a l k d) := by kernel_rfl
noncomputable def namesW_t0_V0 (n : Nat) (w : List D) (a : List UInt8) (l : List D) (k : List UInt8) (d : List D) : Bool :=
  nameR_t0_V0 a && bif !nameR_t0_V1 a then true else findW_t0_V0 n w a && bif decide (findW_t0_V1 n w a ≥ (0 : Int)) then true else loopOk (namesW_t0_L0 (w, a, l, k, d)) (0 : Int) && bif (loopV (namesW_t0_L0 (w, a, l, k, d)) (0 : Int)).beq (0 : Nat) then true else (loopV (namesW_t0_L0 (w, a, l, k, d)) (0 : Int)).beq (1 : Nat) && bif !eqBytes k [] then colofR_t0_V0 a l k d k && bif decide (colofR_t0_V1 a l k d k < (0 : Int)) then true else loopOk (namesW_t0_L2 (w, a, l, k, d)) (0 : Int) && bif (loopV (namesW_t0_L2 (w, a, l, k, d)) (0 : Int)).beq (0 : Nat) then true else (loopV (namesW_t0_L2 (w, a, l, k, d)) (0 : Int)).beq (1 : Nat) && true else loopOk (namesW_t0_L2 (w, a, l, k, d)) (0 : Int) && bif (loopV (namesW_t0_L2 (w, a, l, k, d)) (0 : Int)).beq (0 : Nat) then true else (loopV (namesW_t0_L2 (w, a, l, k, d)) (0 : Int)).beq (1 : Nat) && true
noncomputable def namesW_t0_V1 (n : Nat) (w : List D) (a : List UInt8) (l : List D) (k : List UInt8) (d : List D) : Bool :=
  bif !nameR_t0_V1 a then false else bif decide (findW_t0_V1 n w a ≥ (0 : Int)) then false else bif (loopV (namesW_t0_L0 (w, a, l, k, d)) (0 : Int)).beq (0 : Nat) then false else bif !eqBytes k [] then bif decide (colofR_t0_V1 a l k d k < (0 : Int)) then false else bif (loopV (namesW_t0_L2 (w, a, l, k, d)) (0 : Int)).beq (0 : Nat) then false else true else bif (loopV (namesW_t0_L2 (w, a, l, k, d)) (0 : Int)).beq (0 : Nat) then false else true
noncomputable def namesW_t0 (n : Nat) (w : List D) (a : List UInt8) (l : List D) (k : List UInt8) (d : List D) : RT :=
  RT.br (namesW_t0_V0 n w a l k d)
    (okL (Go.Sy.AV.bool (namesW_t0_V1 n w a l k d)) [(Go.Sy.Ent.tbl (false) shTab w)])
    (RT.fail)
theorem namesW_t0_m (n : Nat) (w : List D) (a : List UInt8) (l : List D) (k : List UInt8) (d : List D) (K : AV → St → Prop) : RT.K (fun v s _ => K v s) (RT.mergeW ([Ent.tbl false shTab w]) (namesW_t0r n w a l k d)) = RT.K (fun v s _ => K v s) (namesW_t0 n w a l k d) := by kernel_rfl
theorem namesW_t0_b (n : Nat) (w : List D) (a : List UInt8) (l : List D) (k : List UInt8) (d : List D) (K : AV → St → Prop) (h : RT.K (fun v s _ => K v s) (namesW_t0 n w a l k d)) : bodyK Try.prog findW_pr namesW_t0_L2_LP 100 42 [] [.tsl false shTab 0 0 n .tight, .agg [.str a, .fz false shCol l, .str k, .fz false shDep d]] [.tbl false shTab w] K := Eq.mpr (namesW_t0r_b ..) (mergeW_K (S := [Ent.tbl false shTab w]) _ ⟨⟨rfl, ⟨⟨rfl, ⟨⟨rfl, ⟨⟨⟨⟨rfl, ⟨⟨rfl, ⟨rfl, trivial⟩⟩, trivial⟩⟩, trivial⟩, ⟨⟨rfl, ⟨rfl, trivial⟩⟩, trivial⟩⟩, trivial⟩⟩, trivial⟩⟩, trivial⟩⟩, trivial⟩ (Eq.mpr (namesW_t0_m ..) h))
theorem namesW_t0_lp (hpr : PrOk Try.prog findW_pr) : LoopsFor Try.prog 42 1 namesW_t0_L2_LP := (namesW_t0_L2_lp hpr)
noncomputable def namesW : Sy.Spec := ⟨[], fun args s => match args, s with
  | [(.tsl false e_0 e_1 e_2 n .tight), (.agg [(.str a), (.fz false e_3 l), (.str k), (.fz false e_4 d)])], [(.tbl false e_5 w)] => .br (Sh.beq e_0 shTab && (Nat.beq e_1 (0 : Nat) && (Nat.beq e_2 (0 : Nat) && (Sh.beq e_3 shCol && (Sh.beq e_4 shDep && (Sh.beq e_5 shTab && (true))))))) (namesW_t0 n w a l k d) .fail
  | _, _ => .fail⟩
theorem namesW_ok : SpecOk Try.prog 42 namesW.f := specOk_comes fun args s v s' tch e => by
  simp only [namesW] at e
  split at e
  · obtain ⟨hg, e⟩ := if_run e
    simp only [Bool.and_eq_true] at hg
    obtain ⟨h_0, h_1, h_2, h_3, h_4, h_5, _⟩ := hg
    obtain rfl := Sh.beq_eq _ _ h_0
    obtain rfl := Nat.eq_of_beq_eq_true h_1
    obtain rfl := Nat.eq_of_beq_eq_true h_2
    obtain rfl := Sh.beq_eq _ _ h_3
    obtain rfl := Sh.beq_eq _ _ h_4
    obtain rfl := Sh.beq_eq _ _ h_5
    refine comes_of ok findW_pr_k (L := 100) (ms := []) (by kernel_rfl) (namesW_t0_lp findW_pr_k) ?_
    exact namesW_t0_b (h := K_run e) ..
  · cases e
noncomputable def namesW_pr : FuncId → Option Sy.Spec := addP 42 namesW findW_pr
theorem namesW_pr_k : PrOk Try.prog namesW_pr := prOk_add namesW_ok findW_pr_k
noncomputable def mayW_t0_L0_T (n0 : Nat) (l1 : List D) (c2 : List UInt8) (l3 : List D) (c4 : List UInt8) (l5 : List D) (i6 : Int) : List AV := ([AV.tsl false shTab (0 : Nat) (0 : Nat) n0 Cap.tight, .any, .any, AV.ptr (some ((1 : Nat), (0 : Nat))), .any, AV.int IntKind.i64 i6] ++ padAny 105)
noncomputable def mayW_t0_L0_S (n0 : Nat) (l1 : List D) (c2 : List UInt8) (l3 : List D) (c4 : List UInt8) (l5 : List D) (i6 : Int) : St := [Ent.tbl false shTab l1, Ent.cells [AV.str c2, AV.fz false shCol l3, AV.str c4, AV.fz false shDep l5]]
noncomputable def mayW_t0_L0_of : List AV → St → Option ((Nat × (List D) × (List UInt8) × (List D) × (List UInt8) × (List D)) × (Int)) := fun t s => match t, s with
  | (.tsl false e_0 e_1 e_2 n0 .tight) :: .any :: .any :: (.ptr (.some (e_3, e_4))) :: .any :: (.int .i64 i6) :: t_0, [(.tbl false e_5 l1), (.cells [(.str c2), (.fz false e_6 l3), (.str c4), (.fz false e_7 l5)])] => (match dropAny 105 t_0 with
    | some ([]) => (match Sh.beq e_0 shTab && (Nat.beq e_1 (0 : Nat) && (Nat.beq e_2 (0 : Nat) && (Nat.beq e_3 (1 : Nat) && (Nat.beq e_4 (0 : Nat) && (Sh.beq e_5 shTab && (Sh.beq e_6 shCol && (Sh.beq e_7 shDep && (true)))))))) with | true => some ((n0, l1, c2, l3, c4, l5), (i6)) | false => none)
    | _ => none)
  | _, _ => none
noncomputable def mayW_t0_L0_ex (i : Nat × (List D) × (List UInt8) × (List D) × (List UInt8) × (List D)) (y : Nat) (k : KS) : Prop := let n0 := i.1; let l1 := i.2.1; let c2 := i.2.2.1; let l3 := i.2.2.2.1; let c4 := i.2.2.2.2.1; let l5 := i.2.2.2.2.2; let tag := y; br (Nat.beq tag 0) (k (Ex.ret) ([AV.tsl false shTab (0 : Nat) (0 : Nat) n0 Cap.tight, .any, .any, AV.ptr (some ((1 : Nat), (0 : Nat))), AV.int IntKind.i64 (4 : Int)] ++ padAny 106) [Ent.tbl false shTab l1, Ent.cells [AV.str c2, AV.fz false shCol l3, AV.str c4, AV.fz false shDep l5]]) (br (Nat.beq tag 1) (k (Ex.normal) ([AV.tsl false shTab (0 : Nat) (0 : Nat) n0 Cap.tight, .any, .any, AV.ptr (some ((1 : Nat), (0 : Nat)))] ++ padAny 107) [Ent.tbl false shTab l1, Ent.cells [AV.str c2, AV.fz false shCol l3, AV.str c4, AV.fz false shDep l5]]) (False))
theorem mayW_t0_L0_of_ok : ∀ t s (i : Nat × (List D) × (List UInt8) × (List D) × (List UInt8) × (List D)) (x : Int), mayW_t0_L0_of t s = some (i, x) → t = mayW_t0_L0_T i.1 i.2.1 i.2.2.1 i.2.2.2.1 i.2.2.2.2.1 i.2.2.2.2.2 x ∧ s = mayW_t0_L0_S i.1 i.2.1 i.2.2.1 i.2.2.2.1 i.2.2.2.2.1 i.2.2.2.2.2 x := by
  intro t s i x h
  unfold mayW_t0_L0_of at h
  split at h
  · split at h
    · rename_i ha
      obtain rfl := dropAny_eq ha
      split at h
      · rename_i hg
        cases h
        simp only [Bool.and_eq_true] at hg
        obtain ⟨h_0, h_1, h_2, h_3, h_4, h_5, h_6, h_7, _⟩ := hg
        obtain rfl := Sh.beq_eq _ _ h_0
        obtain rfl := Nat.eq_of_beq_eq_true h_1
        obtain rfl := Nat.eq_of_beq_eq_true h_2
        obtain rfl := Nat.eq_of_beq_eq_true h_3
        obtain rfl := Nat.eq_of_beq_eq_true h_4
        obtain rfl := Sh.beq_eq _ _ h_5
        obtain rfl := Sh.beq_eq _ _ h_6
        obtain rfl := Sh.beq_eq _ _ h_7
        exact ⟨rfl, rfl⟩
      · cases h
    · cases h
  · cases h
noncomputable def mayW_t0_L0_stp (n0 : Nat) (l1 : List D) (c2 : List UInt8) (l3 : List D) (c4 : List UInt8) (l5 : List D) (i6 : Int) : NT (Int) (Nat) :=
  NT.br (decide (i6 < (↑l3.length : Int)))
    (NT.br (decide ((0 : Int) ≤ i6) && decide (i6 < (↑l3.length : Int)))
     (NT.br (!decide (((l3.getD i6.toNat D.nul).fld (1 : Nat)).asInt = (1 : Int)))
      (NT.br (decide ((0 : Int) ≤ i6) && decide (i6 < (↑l3.length : Int)))
       (NT.br (!decide (((l3.getD i6.toNat D.nul).fld (1 : Nat)).asInt = (2 : Int)))
        (NT.done (0))
        (NT.more (IntKind.i64.wrap (i6 + (1 : Int)))))
       (NT.fail))
      (NT.more (IntKind.i64.wrap (i6 + (1 : Int)))))
     (NT.fail))
    (NT.done (1))
noncomputable def mayW_t0_L0 (i : Nat × (List D) × (List UInt8) × (List D) × (List UInt8) × (List D)) (x : Int) := mayW_t0_L0_stp i.1 i.2.1 i.2.2.1 i.2.2.2.1 i.2.2.2.2.1 i.2.2.2.2.2 x
theorem mayW_t0_L0_rd (n0 : Nat) (l1 : List D) (c2 : List UInt8) (l3 : List D) (c4 : List UInt8) (l5 : List D) (i6 : Int) (more : List AV → St → Prop) (kk : KS) : roundK Try.prog namesW_pr noL 100 15 0 (mayW_t0_L0_T n0 l1 c2 l3 c4 l5 i6) (mayW_t0_L0_S n0 l1 c2 l3 c4 l5 i6) (againK 1 0 [.yes, .no, .no, .yes, .no, .yes] [.yes, .no, .no, .yes, .yes] more kk) = (mayW_t0_L0_stp n0 l1 c2 l3 c4 l5 i6).K (fun x' => more (mayW_t0_L0_T n0 l1 c2 l3 c4 l5 x') (mayW_t0_L0_S n0 l1 c2 l3 c4 l5 x')) (fun y => mayW_t0_L0_ex (n0, l1, c2, l3, c4, l5) y kk) := by kernel_rfl
noncomputable def mayW_t0_L0_LP : Nat → Option LoopS := addL 0 (headG 1 [.yes, .no, .no, .yes, .no, .yes] (outL mayW_t0_L0 mayW_t0_L0_of mayW_t0_L0_ex)) noL
theorem mayW_t0_L0_lp (hpr : PrOk Try.prog namesW_pr) : LoopsFor Try.prog 15 1 mayW_t0_L0_LP := loops_lp (L := 100) (T := fun i x => mayW_t0_L0_T i.1 i.2.1 i.2.2.1 i.2.2.2.1 i.2.2.2.2.1 i.2.2.2.2.2 x) (S := fun i x => mayW_t0_L0_S i.1 i.2.1 i.2.2.1 i.2.2.2.1 i.2.2.2.2.1 i.2.2.2.2.2 x) ok hpr (by kernel_rfl) loops_none mayW_t0_L0_of_ok (fun i x more kk => mayW_t0_L0_rd i.1 i.2.1 i.2.2.1 i.2.2.2.1 i.2.2.2.2.1 i.2.2.2.2.2 x more kk)
noncomputable def mayW_t0_L2_T (n7 : Nat) (l8 : List D) (c9 : List UInt8) (l10 : List D) (c11 : List UInt8) (l12 : List D) (i13 : Int) : List AV := ([AV.tsl false shTab (0 : Nat) (0 : Nat) n7 Cap.tight, .any, .any, AV.ptr (some ((1 : Nat), (0 : Nat))), .any, .any, AV.int IntKind.i64 i13] ++ padAny 104)
noncomputable def mayW_t0_L2_S (n7 : Nat) (l8 : List D) (c9 : List UInt8) (l10 : List D) (c11 : List UInt8) (l12 : List D) (i13 : Int) : St := [Ent.tbl false shTab l8, Ent.cells [AV.str c9, AV.fz false shCol l10, AV.str c11, AV.fz false shDep l12]]
noncomputable def mayW_t0_L2_of : List AV → St → Option ((Nat × (List D) × (List UInt8) × (List D) × (List UInt8) × (List D)) × (Int)) := fun t s => match t, s with
  | (.tsl false e_0 e_1 e_2 n7 .tight) :: .any :: .any :: (.ptr (.some (e_3, e_4))) :: .any :: .any :: (.int .i64 i13) :: t_0, [(.tbl false e_5 l8), (.cells [(.str c9), (.fz false e_6 l10), (.str c11), (.fz false e_7 l12)])] => (match dropAny 104 t_0 with
    | some ([]) => (match Sh.beq e_0 shTab && (Nat.beq e_1 (0 : Nat) && (Nat.beq e_2 (0 : Nat) && (Nat.beq e_3 (1 : Nat) && (Nat.beq e_4 (0 : Nat) && (Sh.beq e_5 shTab && (Sh.beq e_6 shCol && (Sh.beq e_7 shDep && (true)))))))) with | true => some ((n7, l8, c9, l10, c11, l12), (i13)) | false => none)
    | _ => none)
  | _, _ => none
noncomputable def mayW_t0_L2_ex (i : Nat × (List D) × (List UInt8) × (List D) × (List UInt8) × (List D)) (y : Nat × Int) (k : KS) : Prop := let n7 := i.1; let l8 := i.2.1; let c9 := i.2.2.1; let l10 := i.2.2.2.1; let c11 := i.2.2.2.2.1; let l12 := i.2.2.2.2.2; let tag := y.1; let iy15 := y.2; br (Nat.beq tag 0) (k (Ex.ret) ([.any, .any, .any, .any, AV.int IntKind.i64 iy15] ++ padAny 106) [Ent.tbl false shTab l8]) (br (Nat.beq tag 1) (k (Ex.normal) ([.any] ++ padAny 110) [Ent.tbl false shTab l8]) (False))
theorem mayW_t0_L2_of_ok : ∀ t s (i : Nat × (List D) × (List UInt8) × (List D) × (List UInt8) × (List D)) (x : Int), mayW_t0_L2_of t s = some (i, x) → t = mayW_t0_L2_T i.1 i.2.1 i.2.2.1 i.2.2.2.1 i.2.2.2.2.1 i.2.2.2.2.2 x ∧ s = mayW_t0_L2_S i.1 i.2.1 i.2.2.1 i.2.2.2.1 i.2.2.2.2.1 i.2.2.2.2.2 x := by
  intro t s i x h
  unfold mayW_t0_L2_of at h
  split at h
  · split at h
    · rename_i ha
      obtain rfl := dropAny_eq ha
      split at h
      · rename_i hg
        cases h
        simp only [Bool.and_eq_true] at hg
        obtain ⟨h_0, h_1, h_2, h_3, h_4, h_5, h_6, h_7, _⟩ := hg
        obtain rfl := Sh.beq_eq _ _ h_0
        obtain rfl := Nat.eq_of_beq_eq_true h_1
        obtain rfl := Nat.eq_of_beq_eq_true h_2
        obtain rfl := Nat.eq_of_beq_eq_true h_3
        obtain rfl := Nat.eq_of_beq_eq_true h_4
        obtain rfl := Sh.beq_eq _ _ h_5
        obtain rfl := Sh.beq_eq _ _ h_6
        obtain rfl := Sh.beq_eq _ _ h_7
        exact ⟨rfl, rfl⟩
      · cases h
    · cases h
  · cases h
noncomputable def mayW_t0_L2_stp (n7 : Nat) (l8 : List D) (c9 : List UInt8) (l10 : List D) (c11 : List UInt8) (l12 : List D) (i13 : Int) : NT (Int) (Nat × Int) :=
  NT.br (decide (i13 < (↑l10.length : Int)))
    (NT.br (decide ((0 : Int) ≤ i13) && decide (i13 < (↑l10.length : Int)))
     (NT.br (eqBytes ((l10.getD i13.toNat D.nul).fld (3 : Nat)).asStr [])
      (NT.more (IntKind.i64.wrap (i13 + (1 : Int))))
      (NT.br (decide ((0 : Int) ≤ i13) && decide (i13 < (↑l10.length : Int)))
       (NT.br (findW_t0_V0 n7 l8 ((l10.getD i13.toNat D.nul).fld (3 : Nat)).asStr)
        (NT.br (decide (findW_t0_V1 n7 l8 ((l10.getD i13.toNat D.nul).fld (3 : Nat)).asStr < (0 : Int)))
         (NT.done (0, (3 : Int)))
         (NT.br (decide ((0 : Int) ≤ findW_t0_V1 n7 l8 ((l10.getD i13.toNat D.nul).fld (3 : Nat)).asStr) && decide (findW_t0_V1 n7 l8 ((l10.getD i13.toNat D.nul).fld (3 : Nat)).asStr < (↑n7 : Int)))
          (NT.br (decide ((0 : Nat) + (findW_t0_V1 n7 l8 ((l10.getD i13.toNat D.nul).fld (3 : Nat)).asStr).toNat < l8.length))
           (NT.br (eqBytes ((l8.getD ((0 : Nat) + (findW_t0_V1 n7 l8 ((l10.getD i13.toNat D.nul).fld (3 : Nat)).asStr).toNat) D.nul).fld (2 : Nat)).asStr [])
            (NT.done (0, (9 : Int)))
            (NT.br (decide ((0 : Int) ≤ findW_t0_V1 n7 l8 ((l10.getD i13.toNat D.nul).fld (3 : Nat)).asStr) && decide (findW_t0_V1 n7 l8 ((l10.getD i13.toNat D.nul).fld (3 : Nat)).asStr < (↑n7 : Int)))
             (NT.br (decide ((0 : Nat) + (findW_t0_V1 n7 l8 ((l10.getD i13.toNat D.nul).fld (3 : Nat)).asStr).toNat < l8.length))
              (NT.br (decide ((0 : Int) ≤ findW_t0_V1 n7 l8 ((l10.getD i13.toNat D.nul).fld (3 : Nat)).asStr) && decide (findW_t0_V1 n7 l8 ((l10.getD i13.toNat D.nul).fld (3 : Nat)).asStr < (↑n7 : Int)))
               (NT.br (decide ((0 : Nat) + (findW_t0_V1 n7 l8 ((l10.getD i13.toNat D.nul).fld (3 : Nat)).asStr).toNat < l8.length))
                (NT.br (decide ((0 : Int) ≤ findW_t0_V1 n7 l8 ((l10.getD i13.toNat D.nul).fld (3 : Nat)).asStr) && decide (findW_t0_V1 n7 l8 ((l10.getD i13.toNat D.nul).fld (3 : Nat)).asStr < (↑n7 : Int)))
                 (NT.br (decide ((0 : Nat) + (findW_t0_V1 n7 l8 ((l10.getD i13.toNat D.nul).fld (3 : Nat)).asStr).toNat < l8.length))
                  (NT.br (colofR_t0_V0 ((l8.getD ((0 : Nat) + (findW_t0_V1 n7 l8 ((l10.getD i13.toNat D.nul).fld (3 : Nat)).asStr).toNat) D.nul).fld (0 : Nat)).asStr ((l8.getD ((0 : Nat) + (findW_t0_V1 n7 l8 ((l10.getD i13.toNat D.nul).fld (3 : Nat)).asStr).toNat) D.nul).fld (1 : Nat)).els ((l8.getD ((0 : Nat) + (findW_t0_V1 n7 l8 ((l10.getD i13.toNat D.nul).fld (3 : Nat)).asStr).toNat) D.nul).fld (2 : Nat)).asStr ((l8.getD ((0 : Nat) + (findW_t0_V1 n7 l8 ((l10.getD i13.toNat D.nul).fld (3 : Nat)).asStr).toNat) D.nul).fld (3 : Nat)).els ((l8.getD ((0 : Nat) + (findW_t0_V1 n7 l8 ((l10.getD i13.toNat D.nul).fld (3 : Nat)).asStr).toNat) D.nul).fld (2 : Nat)).asStr)
                   (NT.br (decide ((0 : Int) ≤ colofR_t0_V1 ((l8.getD ((0 : Nat) + (findW_t0_V1 n7 l8 ((l10.getD i13.toNat D.nul).fld (3 : Nat)).asStr).toNat) D.nul).fld (0 : Nat)).asStr ((l8.getD ((0 : Nat) + (findW_t0_V1 n7 l8 ((l10.getD i13.toNat D.nul).fld (3 : Nat)).asStr).toNat) D.nul).fld (1 : Nat)).els ((l8.getD ((0 : Nat) + (findW_t0_V1 n7 l8 ((l10.getD i13.toNat D.nul).fld (3 : Nat)).asStr).toNat) D.nul).fld (2 : Nat)).asStr ((l8.getD ((0 : Nat) + (findW_t0_V1 n7 l8 ((l10.getD i13.toNat D.nul).fld (3 : Nat)).asStr).toNat) D.nul).fld (3 : Nat)).els ((l8.getD ((0 : Nat) + (findW_t0_V1 n7 l8 ((l10.getD i13.toNat D.nul).fld (3 : Nat)).asStr).toNat) D.nul).fld (2 : Nat)).asStr) && decide (colofR_t0_V1 ((l8.getD ((0 : Nat) + (findW_t0_V1 n7 l8 ((l10.getD i13.toNat D.nul).fld (3 : Nat)).asStr).toNat) D.nul).fld (0 : Nat)).asStr ((l8.getD ((0 : Nat) + (findW_t0_V1 n7 l8 ((l10.getD i13.toNat D.nul).fld (3 : Nat)).asStr).toNat) D.nul).fld (1 : Nat)).els ((l8.getD ((0 : Nat) + (findW_t0_V1 n7 l8 ((l10.getD i13.toNat D.nul).fld (3 : Nat)).asStr).toNat) D.nul).fld (2 : Nat)).asStr ((l8.getD ((0 : Nat) + (findW_t0_V1 n7 l8 ((l10.getD i13.toNat D.nul).fld (3 : Nat)).asStr).toNat) D.nul).fld (3 : Nat)).els ((l8.getD ((0 : Nat) + (findW_t0_V1 n7 l8 ((l10.getD i13.toNat D.nul).fld (3 : Nat)).asStr).toNat) D.nul).fld (2 : Nat)).asStr < (↑((l8.getD ((0 : Nat) + (findW_t0_V1 n7 l8 ((l10.getD i13.toNat D.nul).fld (3 : Nat)).asStr).toNat) D.nul).fld (1 : Nat)).els.length : Int)))
                    (NT.br (decide ((0 : Int) ≤ i13) && decide (i13 < (↑l10.length : Int)))
                     (NT.br (!decide (((((l8.getD ((0 : Nat) + (findW_t0_V1 n7 l8 ((l10.getD i13.toNat D.nul).fld (3 : Nat)).asStr).toNat) D.nul).fld (1 : Nat)).els.getD (colofR_t0_V1 ((l8.getD ((0 : Nat) + (findW_t0_V1 n7 l8 ((l10.getD i13.toNat D.nul).fld (3 : Nat)).asStr).toNat) D.nul).fld (0 : Nat)).asStr ((l8.getD ((0 : Nat) + (findW_t0_V1 n7 l8 ((l10.getD i13.toNat D.nul).fld (3 : Nat)).asStr).toNat) D.nul).fld (1 : Nat)).els ((l8.getD ((0 : Nat) + (findW_t0_V1 n7 l8 ((l10.getD i13.toNat D.nul).fld (3 : Nat)).asStr).toNat) D.nul).fld (2 : Nat)).asStr ((l8.getD ((0 : Nat) + (findW_t0_V1 n7 l8 ((l10.getD i13.toNat D.nul).fld (3 : Nat)).asStr).toNat) D.nul).fld (3 : Nat)).els ((l8.getD ((0 : Nat) + (findW_t0_V1 n7 l8 ((l10.getD i13.toNat D.nul).fld (3 : Nat)).asStr).toNat) D.nul).fld (2 : Nat)).asStr).toNat D.nul).fld (1 : Nat)).asInt = ((l10.getD i13.toNat D.nul).fld (1 : Nat)).asInt))
                      (NT.done (0, (4 : Int)))
                      (NT.more (IntKind.i64.wrap (i13 + (1 : Int)))))
                     (NT.fail))
                    (NT.fail))
                   (NT.fail))
                  (NT.fail))
                 (NT.fail))
                (NT.fail))
               (NT.fail))
              (NT.fail))
             (NT.fail)))
           (NT.fail))
          (NT.fail)))
        (NT.fail))
       (NT.fail)))
     (NT.fail))
    (NT.done (1, 0))
noncomputable def mayW_t0_L2 (i : Nat × (List D) × (List UInt8) × (List D) × (List UInt8) × (List D)) (x : Int) := mayW_t0_L2_stp i.1 i.2.1 i.2.2.1 i.2.2.2.1 i.2.2.2.2.1 i.2.2.2.2.2 x
theorem mayW_t0_L2_rd (n7 : Nat) (l8 : List D) (c9 : List UInt8) (l10 : List D) (c11 : List UInt8) (l12 : List D) (i13 : Int) (more : List AV → St → Prop) (kk : KS) : roundK Try.prog namesW_pr mayW_t0_L0_LP 100 15 2 (mayW_t0_L2_T n7 l8 c9 l10 c11 l12 i13) (mayW_t0_L2_S n7 l8 c9 l10 c11 l12 i13) (againK 1 2 [.yes, .no, .no, .yes, .no, .no, .yes] [.no, .no, .no, .no, .yes] more kk) = (mayW_t0_L2_stp n7 l8 c9 l10 c11 l12 i13).K (fun x' => more (mayW_t0_L2_T n7 l8 c9 l10 c11 l12 x') (mayW_t0_L2_S n7 l8 c9 l10 c11 l12 x')) (fun y => mayW_t0_L2_ex (n7, l8, c9, l10, c11, l12) y kk) := by kernel_rfl
noncomputable def mayW_t0_L2_LP : Nat → Option LoopS := addL 2 (headG 1 [.yes, .no, .no, .yes, .no, .no, .yes] (outL mayW_t0_L2 mayW_t0_L2_of mayW_t0_L2_ex)) mayW_t0_L0_LP
theorem mayW_t0_L2_lp (hpr : PrOk Try.prog namesW_pr) : LoopsFor Try.prog 15 1 mayW_t0_L2_LP := loops_lp (L := 100) (T := fun i x => mayW_t0_L2_T i.1 i.2.1 i.2.2.1 i.2.2.2.1 i.2.2.2.2.1 i.2.2.2.2.2 x) (S := fun i x => mayW_t0_L2_S i.1 i.2.1 i.2.2.1 i.2.2.2.1 i.2.2.2.2.1 i.2.2.2.2.2 x) ok hpr (by kernel_rfl) (mayW_t0_L0_lp hpr) mayW_t0_L2_of_ok (fun i x more kk => mayW_t0_L2_rd i.1 i.2.1 i.2.2.1 i.2.2.2.1 i.2.2.2.2.1 i.2.2.2.2.2 x more kk)
noncomputable def mayW_t0r (n : Nat) (w : List D) (a : List UInt8) (l : List D) (k : List UInt8) (d : List D) : RT :=
  RT.br (decide ((↑n : Int) ≥ (8 : Int)))
    (okL (AV.int IntKind.i64 (5 : Int)) ([Ent.tbl false shTab w]))
    (RT.br (decide ((↑l.length : Int) < (1 : Int)))
     (okL (AV.int IntKind.i64 (5 : Int)) ([Ent.tbl false shTab w]))
     (RT.br (decide ((↑l.length : Int) > (6 : Int)))
      (okL (AV.int IntKind.i64 (5 : Int)) ([Ent.tbl false shTab w]))
      (RT.br (decide ((↑d.length : Int) > (3 : Int)))
       (okL (AV.int IntKind.i64 (5 : Int)) ([Ent.tbl false shTab w]))
       (RT.br (namesW_t0_V0 n w a l k d)
        (RT.br (!namesW_t0_V1 n w a l k d)
         (okL (AV.int IntKind.i64 (3 : Int)) ([Ent.tbl false shTab w]))
         (RT.br (loopOk (mayW_t0_L0 (n, w, a, l, k, d)) (0 : Int))
          (RT.br ((loopV (mayW_t0_L0 (n, w, a, l, k, d)) (0 : Int)).beq (0 : Nat))
           (okL (AV.int IntKind.i64 (4 : Int)) ([Ent.tbl false shTab w]))
           (RT.br ((loopV (mayW_t0_L0 (n, w, a, l, k, d)) (0 : Int)).beq (1 : Nat))
            (RT.br (loopOk (mayW_t0_L2 (n, w, a, l, k, d)) (0 : Int))
             (RT.br ((loopV (mayW_t0_L2 (n, w, a, l, k, d)) (0 : Int)).fst.beq (0 : Nat))
              (okL (AV.int IntKind.i64 (loopV (mayW_t0_L2 (n, w, a, l, k, d)) (0 : Int)).snd) ([Ent.tbl false shTab w]))
              (RT.br ((loopV (mayW_t0_L2 (n, w, a, l, k, d)) (0 : Int)).fst.beq (1 : Nat))
               (okL (AV.int IntKind.i64 (0 : Int)) ([Ent.tbl false shTab w]))
               (RT.fail)))
             (RT.fail))
            (RT.fail)))
          (RT.fail)))
        (RT.fail)))))
theorem mayW_t0r_b (n : Nat) (w : List D) (a : List UInt8) (l : List D) (k : List UInt8) (d : List D) (K : AV → St → Prop) : bodyK Try.prog namesW_pr mayW_t0_L2_LP 100 15 [] [.tsl false shTab 0 0 n .tight, .agg [.str a, .fz false shCol l, .str k, .fz false shDep d]] [.tbl false shTab w] K = RT.K (fun v s _ => K v s) (mayW_t0r n w a l k d) := by kernel_rfl
noncomputable def mayW_t0_V0 (n : Nat) (w : List D) (a : List UInt8) (l : List D) (k : List UInt8) (d : List D) : Bool :=
  bif decide ((↑n : Int) ≥ (8 : Int)) then true else bif decide ((↑l.length : Int) < (1 : Int)) then true else bif decide ((↑l.length : Int) > (6 : Int)) then true else bif decide ((↑d.length : Int) > (3 : Int)) then true else namesW_t0_V0 n w a l k d && bif !namesW_t0_V1 n w a l k d then true else loopOk (mayW_t0_L0 (n, w, a, l, k, d)) (0 : Int) && bif (loopV (mayW_t0_L0 (n, w, a, l, k, d)) (0 : Int)).beq (0 : Nat) then true else (loopV (mayW_t0_L0 (n, w, a, l, k, d)) (0 : Int)).beq (1 : Nat) && (loopOk (mayW_t0_L2 (n, w, a, l, k, d)) (0 : Int) && bif (loopV (mayW_t0_L2 (n, w, a, l, k, d)) (0 : Int)).fst.beq (0 : Nat) then true else (loopV (mayW_t0_L2 (n, w, a, l, k, d)) (0 : Int)).fst.beq (1 : Nat) && true)
noncomputable def mayW_t0_V1 (n : Nat) (w : List D) (a : List UInt8) (l : List D) (k : List UInt8) (d : List D) : Int :=
  bif decide ((↑n : Int) ≥ (8 : Int)) then (5 : Int) else bif decide ((↑l.length : Int) < (1 : Int)) then (5 : Int) else bif decide ((↑l.length : Int) > (6 : Int)) then (5 : Int) else bif decide ((↑d.length : Int) > (3 : Int)) then (5 : Int) else bif !namesW_t0_V1 n w a l k d then (3 : Int) else bif (loopV (mayW_t0_L0 (n, w, a, l, k, d)) (0 : Int)).beq (0 : Nat) then (4 : Int) else bif (loopV (mayW_t0_L2 (n, w, a, l, k, d)) (0 : Int)).fst.beq (0 : Nat) then (loopV (mayW_t0_L2 (n, w, a, l, k, d)) (0 : Int)).snd else (0 : Int)
noncomputable def mayW_t0 (n : Nat) (w : List D) (a : List UInt8) (l : List D) (k : List UInt8) (d : List D) : RT :=
  RT.br (mayW_t0_V0 n w a l k d)
    (okL (Go.Sy.AV.int (IntKind.i64) (mayW_t0_V1 n w a l k d)) [(Go.Sy.Ent.tbl (false) shTab w)])
    (RT.fail)
theorem mayW_t0_m (n : Nat) (w : List D) (a : List UInt8) (l : List D) (k : List UInt8) (d : List D) (K : AV → St → Prop) : RT.K (fun v s _ => K v s) (RT.mergeW ([Ent.tbl false shTab w]) (mayW_t0r n w a l k d)) = RT.K (fun v s _ => K v s) (mayW_t0 n w a l k d) := by kernel_rfl
theorem mayW_t0_b (n : Nat) (w : List D) (a : List UInt8) (l : List D) (k : List UInt8) (d : List D) (K : AV → St → Prop) (h : RT.K (fun v s _ => K v s) (mayW_t0 n w a l k d)) : bodyK Try.prog namesW_pr mayW_t0_L2_LP 100 15 [] [.tsl false shTab 0 0 n .tight, .agg [.str a, .fz false shCol l, .str k, .fz false shDep d]] [.tbl false shTab w] K := Eq.mpr (mayW_t0r_b ..) (mergeW_K (S := [Ent.tbl false shTab w]) _ ⟨rfl, ⟨rfl, ⟨rfl, ⟨rfl, ⟨⟨rfl, ⟨⟨rfl, ⟨⟨⟨rfl, ⟨rfl, trivial⟩⟩, trivial⟩, trivial⟩⟩, trivial⟩⟩, trivial⟩⟩⟩⟩⟩ (Eq.mpr (mayW_t0_m ..) h))
theorem mayW_t0_lp (hpr : PrOk Try.prog namesW_pr) : LoopsFor Try.prog 15 1 mayW_t0_L2_LP := (mayW_t0_L2_lp hpr)
noncomputable def mayW : Sy.Spec := ⟨[], fun args s => match args, s with
  | [(.tsl false e_0 e_1 e_2 n .tight), (.agg [(.str a), (.fz false e_3 l), (.str k), (.fz false e_4 d)])], [(.tbl false e_5 w)] => .br (Sh.beq e_0 shTab && (Nat.beq e_1 (0 : Nat) && (Nat.beq e_2 (0 : Nat) && (Sh.beq e_3 shCol && (Sh.beq e_4 shDep && (Sh.beq e_5 shTab && (true))))))) (mayW_t0 n w a l k d) .fail
  | _, _ => .fail⟩
theorem mayW_ok : SpecOk Try.prog 15 mayW.f := specOk_comes fun args s v s' tch e => by
  simp only [mayW] at e
  split at e
  · obtain ⟨hg, e⟩ := if_run e
    simp only [Bool.and_eq_true] at hg
    obtain ⟨h_0, h_1, h_2, h_3, h_4, h_5, _⟩ := hg
    obtain rfl := Sh.beq_eq _ _ h_0
    obtain rfl := Nat.eq_of_beq_eq_true h_1
    obtain rfl := Nat.eq_of_beq_eq_true h_2
    obtain rfl := Sh.beq_eq _ _ h_3
    obtain rfl := Sh.beq_eq _ _ h_4
    obtain rfl := Sh.beq_eq _ _ h_5
    refine comes_of ok namesW_pr_k (L := 100) (ms := []) (by kernel_rfl) (mayW_t0_lp namesW_pr_k) ?_
    exact mayW_t0_b (h := K_run e) ..
  · cases e
noncomputable def mayW_pr : FuncId → Option Sy.Spec := addP 15 mayW namesW_pr
theorem mayW_pr_k : PrOk Try.prog mayW_pr := prOk_add mayW_ok namesW_pr_k
end Go.Proofs.Ytekedhfmdpbplaa
