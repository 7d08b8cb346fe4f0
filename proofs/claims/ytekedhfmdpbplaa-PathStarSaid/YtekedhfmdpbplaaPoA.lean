/- Walks: orders of ways. -/
import Derived.Test.YtekedhfmdpbplaaSl
import Derived.KernelRfl
set_option linter.unusedSimpArgs false
set_option linter.unusedVariables false
set_option maxRecDepth 100000
namespace Go.Proofs.Ytekedhfmdpbplaa
open Go Go.Sy
attribute [local irreducible] bodyK roundK cutK
noncomputable def pr_aaPoA1 : FuncId → Option Sy.Spec := addP 13 cutX noP
theorem pr_aaPoA1_k : PrOk Try.prog pr_aaPoA1 := prOk_add cutX_ok prOk_none
noncomputable def pathX_t0_L0_T (l0 : List D) (n1 : Nat) (i2 : Int) (l3 : List D) : List AV := ([AV.fz false Sh.str l0, .any, .any, AV.tsl false Sh.str (0 : Nat) (0 : Nat) n1 Cap.tight, AV.int IntKind.i64 i2] ++ padAny 19)
noncomputable def pathX_t0_L0_S (l0 : List D) (n1 : Nat) (i2 : Int) (l3 : List D) : St := [Ent.tbl false Sh.str l3]
noncomputable def pathX_t0_L0_of : List AV → St → Option (((List D)) × (Nat × Int × (List D))) := fun t s => match t, s with
  | (.fz false e_0 l0) :: .any :: .any :: (.tsl false e_1 e_2 e_3 n1 .tight) :: (.int .i64 i2) :: t_0, [(.tbl false e_4 l3)] => (match dropAny 19 t_0 with
    | some ([]) => (match Sh.beq e_0 (Sh.str) && (Sh.beq e_1 (Sh.str) && (Nat.beq e_2 (0 : Nat) && (Nat.beq e_3 (0 : Nat) && (Sh.beq e_4 (Sh.str) && (true))))) with | true => some ((l0), (n1, i2, l3)) | false => none)
    | _ => none)
  | _, _ => none
noncomputable def pathX_t0_L0_ex (i : (List D)) (y : Nat × (List D)) (k : KS) : Prop := let l0 := i; let ny6 := y.1; let ly7 := y.2; k (Ex.normal) ([.any, .any, .any, AV.tsl false Sh.str (0 : Nat) (0 : Nat) ny6 Cap.tight] ++ padAny 20) [Ent.tbl false Sh.str ly7]
theorem pathX_t0_L0_of_ok : ∀ t s (i : (List D)) (x : Nat × Int × (List D)), pathX_t0_L0_of t s = some (i, x) → t = pathX_t0_L0_T i x.1 x.2.1 x.2.2 ∧ s = pathX_t0_L0_S i x.1 x.2.1 x.2.2 := by
  intro t s i x h
  unfold pathX_t0_L0_of at h
  split at h
  · split at h
    · rename_i ha
      obtain rfl := dropAny_eq ha
      split at h
      · rename_i hg
        cases h
        simp only [Bool.and_eq_true] at hg
        obtain ⟨h_0, h_1, h_2, h_3, h_4, _⟩ := hg
        obtain rfl := Sh.beq_eq _ _ h_0
        obtain rfl := Sh.beq_eq _ _ h_1
        obtain rfl := Nat.eq_of_beq_eq_true h_2
        obtain rfl := Nat.eq_of_beq_eq_true h_3
        obtain rfl := Sh.beq_eq _ _ h_4
        exact ⟨rfl, rfl⟩
      · cases h
    · cases h
  · cases h
noncomputable def pathX_t0_L0_stp (l0 : List D) (n1 : Nat) (i2 : Int) (l3 : List D) : NT (Nat × Int × (List D)) (Nat × (List D)) :=
  NT.br (decide (i2 < (↑l0.length : Int)))
    (NT.br (decide (i2 < (6 : Int)))
     (NT.br (decide ((0 : Int) ≤ i2) && decide (i2 < (↑l0.length : Int)))
      (NT.br (cutX_t0_V0 (l0.getD i2.toNat D.nul).asStr (20 : Int))
       (NT.br ((((3 : Nat) * (n1 + (1 : Nat)) + (2000 : Nat)) * (16 : Nat)).ble (281474976710656 : Nat) && ((0 : Nat) + n1).ble l3.length)
        (NT.more (n1 + (1 : Nat), IntKind.i64.wrap (i2 + (1 : Int)), List.take n1 (List.drop (0 : Nat) l3) ++ [D.str (cutX_t0_V1 (l0.getD i2.toNat D.nul).asStr (20 : Int))]))
        (NT.fail))
       (NT.fail))
      (NT.fail))
     (NT.done (n1, l3)))
    (NT.done (n1, l3))
noncomputable def pathX_t0_L0 (i : (List D)) (x : Nat × Int × (List D)) := pathX_t0_L0_stp i x.1 x.2.1 x.2.2
theorem pathX_t0_L0_rd (l0 : List D) (n1 : Nat) (i2 : Int) (l3 : List D) (more : List AV → St → Prop) (kk : KS) : roundK Try.prog pr_aaPoA1 noL 100 25 0 (pathX_t0_L0_T l0 n1 i2 l3) (pathX_t0_L0_S l0 n1 i2 l3) (againK 0 0 [.yes, .no, .no, .bld (Sh.str), .yes] [.no, .no, .yes, .bld (Sh.str)] more kk) = (pathX_t0_L0_stp l0 n1 i2 l3).K (fun x' => more (pathX_t0_L0_T l0 x'.1 x'.2.1 x'.2.2) (pathX_t0_L0_S l0 x'.1 x'.2.1 x'.2.2)) (fun y => pathX_t0_L0_ex (l0) y kk) := by kernel_rfl
noncomputable def pathX_t0_L0_LP : Nat → Option LoopS := addL 0 (headG 0 [.yes, .no, .no, .bld (Sh.str), .yes] (outL pathX_t0_L0 pathX_t0_L0_of pathX_t0_L0_ex)) noL
theorem pathX_t0_L0_lp (hpr : PrOk Try.prog pr_aaPoA1) : LoopsFor Try.prog 25 0 pathX_t0_L0_LP := loops_lp (L := 100) (T := fun i x => pathX_t0_L0_T i x.1 x.2.1 x.2.2) (S := fun i x => pathX_t0_L0_S i x.1 x.2.1 x.2.2) ok hpr (by kernel_rfl) loops_none pathX_t0_L0_of_ok (fun i x more kk => pathX_t0_L0_rd i x.1 x.2.1 x.2.2 more kk)
noncomputable def pathX_t0r (l0 : List D) : RT :=
  RT.br (loopOk (pathX_t0_L0 l0) ((0 : Nat), (0 : Int), []))
    (RT.br (((0 : Nat) + (loopV (pathX_t0_L0 l0) ((0 : Nat), (0 : Int), [])).fst).ble (loopV (pathX_t0_L0 l0) ((0 : Nat), (0 : Int), [])).snd.length && true)
     (okL (AV.fz false Sh.str (List.take (loopV (pathX_t0_L0 l0) ((0 : Nat), (0 : Int), [])).fst (List.drop (0 : Nat) (loopV (pathX_t0_L0 l0) ((0 : Nat), (0 : Int), [])).snd))) ([]))
     (RT.fail))
    (RT.fail)
theorem pathX_t0r_b (l0 : List D) (K : AV → St → Prop) : bodyK Try.prog pr_aaPoA1 pathX_t0_L0_LP 100 25 [.data (.slice .str)] [.fz false .str l0] [] K = RT.K (fun v s _ => K v s) (pathX_t0r l0) := by kernel_rfl
noncomputable def pathX_t0_V0 (l0 : List D) : Bool :=
  loopOk (pathX_t0_L0 l0) ((0 : Nat), (0 : Int), []) && (((0 : Nat) + (loopV (pathX_t0_L0 l0) ((0 : Nat), (0 : Int), [])).fst).ble (loopV (pathX_t0_L0 l0) ((0 : Nat), (0 : Int), [])).snd.length && true && true)
noncomputable def pathX_t0_V1 (l0 : List D) : List D :=
  List.take (loopV (pathX_t0_L0 l0) ((0 : Nat), (0 : Int), [])).fst (List.drop (0 : Nat) (loopV (pathX_t0_L0 l0) ((0 : Nat), (0 : Int), [])).snd)
noncomputable def pathX_t0 (l0 : List D) : RT :=
  RT.br (pathX_t0_V0 l0)
    (okL (Go.Sy.AV.fz (false) (Sh.str) (pathX_t0_V1 l0)) [])
    (RT.fail)
theorem pathX_t0_m (l0 : List D) (K : AV → St → Prop) : RT.K (fun v s _ => K v s) (RT.mergeW ([]) (pathX_t0r l0)) = RT.K (fun v s _ => K v s) (pathX_t0 l0) := by kernel_rfl
theorem pathX_t0_b (l0 : List D) (K : AV → St → Prop) (h : RT.K (fun v s _ => K v s) (pathX_t0 l0)) : bodyK Try.prog pr_aaPoA1 pathX_t0_L0_LP 100 25 [.data (.slice .str)] [.fz false .str l0] [] K := Eq.mpr (pathX_t0r_b ..) (mergeW_K (S := []) _ ⟨⟨rfl, trivial⟩, trivial⟩ (Eq.mpr (pathX_t0_m ..) h))
theorem pathX_t0_lp (hpr : PrOk Try.prog pr_aaPoA1) : LoopsFor Try.prog 25 0 pathX_t0_L0_LP := (pathX_t0_L0_lp hpr)
noncomputable def pathX : Sy.Spec := ⟨[.data (.slice .str)], fun args s => match args, s with
  | [(.fz false e_0 l0)], [] => .br (Sh.beq e_0 (Sh.str) && (true)) (pathX_t0 l0) .fail
  | _, _ => .fail⟩
theorem pathX_ok : SpecOk Try.prog 25 pathX.f := specOk_comes fun args s v s' tch e => by
  simp only [pathX] at e
  split at e
  · obtain ⟨hg, e⟩ := if_run e
    simp only [Bool.and_eq_true] at hg
    obtain ⟨h_0, _⟩ := hg
    obtain rfl := Sh.beq_eq _ _ h_0
    refine comes_of ok pr_aaPoA1_k (L := 100) (ms := [.data (.slice .str)]) (by kernel_rfl) (pathX_t0_lp pr_aaPoA1_k) ?_
    exact pathX_t0_b (h := K_run e) ..
  · cases e
noncomputable def pathX_pr : FuncId → Option Sy.Spec := addP 25 pathX pr_aaPoA1
theorem pathX_pr_k : PrOk Try.prog pathX_pr := prOk_add pathX_ok pr_aaPoA1_k
noncomputable def nanS_t0r (c0 : List UInt8) : RT :=
  okL (AV.bool !eqBytes c0 c0) ([])
theorem nanS_t0r_b (c0 : List UInt8) (K : AV → St → Prop) : bodyK Try.prog pathX_pr noL 100 97 [] [.str c0] [] K = RT.K (fun v s _ => K v s) (nanS_t0r c0) := by kernel_rfl
noncomputable def nanS_t0 (c0 : List UInt8) : RT :=
  okL (Go.Sy.AV.bool (!eqBytes c0 c0)) []
theorem nanS_t0_m (c0 : List UInt8) (K : AV → St → Prop) : RT.K (fun v s _ => K v s) (RT.mergeW ([]) (nanS_t0r c0)) = RT.K (fun v s _ => K v s) (nanS_t0 c0) := by kernel_rfl
theorem nanS_t0_b (c0 : List UInt8) (K : AV → St → Prop) (h : RT.K (fun v s _ => K v s) (nanS_t0 c0)) : bodyK Try.prog pathX_pr noL 100 97 [] [.str c0] [] K := Eq.mpr (nanS_t0r_b ..) (mergeW_K (S := []) _ rfl (Eq.mpr (nanS_t0_m ..) h))
theorem nanS_t0_lp (hpr : PrOk Try.prog pathX_pr) : LoopsFor Try.prog 97 0 noL := loops_none
noncomputable def nanS : Sy.Spec := ⟨[], fun args s => match args, s with
  | [(.str c0)], [] => .br (true) (nanS_t0 c0) .fail
  | _, _ => .fail⟩
theorem nanS_ok : SpecOk Try.prog 97 nanS.f := specOk_comes fun args s v s' tch e => by
  simp only [nanS] at e
  split at e
  · obtain ⟨hg, e⟩ := if_run e
    refine comes_of ok pathX_pr_k (L := 100) (ms := []) (by kernel_rfl) (nanS_t0_lp pathX_pr_k) ?_
    exact nanS_t0_b (h := K_run e) ..
  · cases e
noncomputable def nanS_pr : FuncId → Option Sy.Spec := addP 97 nanS pathX_pr
theorem nanS_pr_k : PrOk Try.prog nanS_pr := prOk_add nanS_ok pathX_pr_k
noncomputable def cmpS_t0r (c0 : List UInt8) (c1 : List UInt8) : RT :=
  RT.br (!eqBytes c0 c0)
    (RT.br (!eqBytes c1 c1)
     (okL (AV.int IntKind.i64 (0 : Int)) ([]))
     (okL (AV.int IntKind.i64 (-1 : Int)) ([])))
    (RT.br (!eqBytes c1 c1)
     (okL (AV.int IntKind.i64 (1 : Int)) ([]))
     (RT.br (ltBytes c0 c1)
      (okL (AV.int IntKind.i64 (-1 : Int)) ([]))
      (RT.br (!(ltBytes c0 c1 || eqBytes c0 c1))
       (okL (AV.int IntKind.i64 (1 : Int)) ([]))
       (okL (AV.int IntKind.i64 (0 : Int)) ([])))))
theorem cmpS_t0r_b (c0 : List UInt8) (c1 : List UInt8) (K : AV → St → Prop) : bodyK Try.prog nanS_pr noL 100 79 [] [.str c0, .str c1] [] K = RT.K (fun v s _ => K v s) (cmpS_t0r c0 c1) := by kernel_rfl
noncomputable def cmpS_t0_V0 (c0 : List UInt8) (c1 : List UInt8) : Bool :=
  bif !eqBytes c0 c0 then bif !eqBytes c1 c1 then true else true else bif !eqBytes c1 c1 then true else bif ltBytes c0 c1 then true else bif !(ltBytes c0 c1 || eqBytes c0 c1) then true else true
noncomputable def cmpS_t0_V1 (c0 : List UInt8) (c1 : List UInt8) : Int :=
  bif !eqBytes c0 c0 then bif !eqBytes c1 c1 then (0 : Int) else (-1 : Int) else bif !eqBytes c1 c1 then (1 : Int) else bif ltBytes c0 c1 then (-1 : Int) else bif !(ltBytes c0 c1 || eqBytes c0 c1) then (1 : Int) else (0 : Int)
noncomputable def cmpS_t0 (c0 : List UInt8) (c1 : List UInt8) : RT :=
  RT.br (cmpS_t0_V0 c0 c1)
    (okL (Go.Sy.AV.int (IntKind.i64) (cmpS_t0_V1 c0 c1)) [])
    (RT.fail)
theorem cmpS_t0_m (c0 : List UInt8) (c1 : List UInt8) (K : AV → St → Prop) : RT.K (fun v s _ => K v s) (RT.mergeW ([]) (cmpS_t0r c0 c1)) = RT.K (fun v s _ => K v s) (cmpS_t0 c0 c1) := by kernel_rfl
theorem cmpS_t0_b (c0 : List UInt8) (c1 : List UInt8) (K : AV → St → Prop) (h : RT.K (fun v s _ => K v s) (cmpS_t0 c0 c1)) : bodyK Try.prog nanS_pr noL 100 79 [] [.str c0, .str c1] [] K := Eq.mpr (cmpS_t0r_b ..) (mergeW_K (S := []) _ ⟨⟨rfl, rfl⟩, ⟨rfl, ⟨rfl, ⟨rfl, rfl⟩⟩⟩⟩ (Eq.mpr (cmpS_t0_m ..) h))
theorem cmpS_t0_lp (hpr : PrOk Try.prog nanS_pr) : LoopsFor Try.prog 79 0 noL := loops_none
noncomputable def cmpS : Sy.Spec := ⟨[], fun args s => match args, s with
  | [(.str c0), (.str c1)], [] => .br (true) (cmpS_t0 c0 c1) .fail
  | _, _ => .fail⟩
theorem cmpS_ok : SpecOk Try.prog 79 cmpS.f := specOk_comes fun args s v s' tch e => by
  simp only [cmpS] at e
  split at e
  · obtain ⟨hg, e⟩ := if_run e
    refine comes_of ok nanS_pr_k (L := 100) (ms := []) (by kernel_rfl) (cmpS_t0_lp nanS_pr_k) ?_
    exact cmpS_t0_b (h := K_run e) ..
  · cases e
noncomputable def cmpS_pr : FuncId → Option Sy.Spec := addP 79 cmpS nanS_pr
theorem cmpS_pr_k : PrOk Try.prog cmpS_pr := prOk_add cmpS_ok nanS_pr_k
noncomputable def scmpP_t0_L0_T (l0 : List D) (l1 : List D) (l2 : List D) (i3 : Int) (i4 : Int) : List AV := ([AV.fz false Sh.str l0, AV.fz false Sh.str l1, .any, .any, .any, .any, .any, .any, .any, AV.fz false Sh.str l2, AV.int IntKind.i64 i3, AV.int IntKind.i64 i4] ++ padAny 24)
noncomputable def scmpP_t0_L0_S (l0 : List D) (l1 : List D) (l2 : List D) (i3 : Int) (i4 : Int) : St := []
noncomputable def scmpP_t0_L0_of : List AV → St → Option (((List D) × (List D) × (List D) × Int) × (Int)) := fun t s => match t, s with
  | (.fz false e_0 l0) :: (.fz false e_1 l1) :: t_0, [] => (match dropAny 7 t_0 with
    | some ((.fz false e_2 l2) :: (.int .i64 i3) :: (.int .i64 i4) :: t_1) => (match dropAny 24 t_1 with
    | some ([]) => (match Sh.beq e_0 (Sh.str) && (Sh.beq e_1 (Sh.str) && (Sh.beq e_2 (Sh.str) && (true))) with | true => some ((l0, l1, l2, i3), (i4)) | false => none)
    | _ => none)
    | _ => none)
  | _, _ => none
noncomputable def scmpP_t0_L0_ex (i : (List D) × (List D) × (List D) × Int) (y : Nat × Int) (k : KS) : Prop := let l0 := i.1; let l1 := i.2.1; let l2 := i.2.2.1; let i3 := i.2.2.2; let tag := y.1; let iy6 := y.2; br (Nat.beq tag 0) (k (Ex.ret) ([AV.fz false Sh.str l0, AV.fz false Sh.str l1, .any, .any, AV.int IntKind.i64 iy6] ++ padAny 31) []) (br (Nat.beq tag 1) (k (Ex.normal) ([AV.fz false Sh.str l0, AV.fz false Sh.str l1] ++ padAny 34) []) (False))
theorem scmpP_t0_L0_of_ok : ∀ t s (i : (List D) × (List D) × (List D) × Int) (x : Int), scmpP_t0_L0_of t s = some (i, x) → t = scmpP_t0_L0_T i.1 i.2.1 i.2.2.1 i.2.2.2 x ∧ s = scmpP_t0_L0_S i.1 i.2.1 i.2.2.1 i.2.2.2 x := by
  intro t s i x h
  unfold scmpP_t0_L0_of at h
  split at h
  · split at h
    · rename_i ha
      obtain rfl := dropAny_eq ha
      split at h
      · rename_i ha
        obtain rfl := dropAny_eq ha
        split at h
        · rename_i hg
          cases h
          simp only [Bool.and_eq_true] at hg
          obtain ⟨h_0, h_1, h_2, _⟩ := hg
          obtain rfl := Sh.beq_eq _ _ h_0
          obtain rfl := Sh.beq_eq _ _ h_1
          obtain rfl := Sh.beq_eq _ _ h_2
          exact ⟨rfl, rfl⟩
        · cases h
      · cases h
    · cases h
  · cases h
noncomputable def scmpP_t0_L0_stp (l0 : List D) (l1 : List D) (l2 : List D) (i3 : Int) (i4 : Int) : NT (Int) (Nat × Int) :=
  NT.br (decide (i4 < i3))
    (NT.br (decide ((0 : Int) ≤ i4) && decide (i4 < (↑l2.length : Int)))
     (NT.br (decide (i4 ≥ (↑l1.length : Int)))
      (NT.done (0, (1 : Int)))
      (NT.br (decide ((0 : Int) ≤ i4) && decide (i4 < (↑l1.length : Int)))
       (NT.br (cmpS_t0_V0 (l2.getD i4.toNat D.nul).asStr (l1.getD i4.toNat D.nul).asStr)
        (NT.br (!decide (cmpS_t0_V1 (l2.getD i4.toNat D.nul).asStr (l1.getD i4.toNat D.nul).asStr = (0 : Int)))
         (NT.done (0, cmpS_t0_V1 (l2.getD i4.toNat D.nul).asStr (l1.getD i4.toNat D.nul).asStr))
         (NT.more (IntKind.i64.wrap (i4 + (1 : Int)))))
        (NT.fail))
       (NT.fail)))
     (NT.fail))
    (NT.done (1, 0))
noncomputable def scmpP_t0_L0 (i : (List D) × (List D) × (List D) × Int) (x : Int) := scmpP_t0_L0_stp i.1 i.2.1 i.2.2.1 i.2.2.2 x
theorem scmpP_t0_L0_rd (l0 : List D) (l1 : List D) (l2 : List D) (i3 : Int) (i4 : Int) (more : List AV → St → Prop) (kk : KS) : roundK Try.prog cmpS_pr noL 100 54 0 (scmpP_t0_L0_T l0 l1 l2 i3 i4) (scmpP_t0_L0_S l0 l1 l2 i3 i4) (againK 0 0 [.yes, .yes, .no, .no, .no, .no, .no, .no, .no, .yes, .yes, .yes] [.yes, .yes, .no, .no, .yes] more kk) = (scmpP_t0_L0_stp l0 l1 l2 i3 i4).K (fun x' => more (scmpP_t0_L0_T l0 l1 l2 i3 x') (scmpP_t0_L0_S l0 l1 l2 i3 x')) (fun y => scmpP_t0_L0_ex (l0, l1, l2, i3) y kk) := by kernel_rfl
noncomputable def scmpP_t0_L0_LP : Nat → Option LoopS := addL 0 (headG 0 [.yes, .yes, .no, .no, .no, .no, .no, .no, .no, .yes, .yes, .yes] (outL scmpP_t0_L0 scmpP_t0_L0_of scmpP_t0_L0_ex)) noL
theorem scmpP_t0_L0_lp (hpr : PrOk Try.prog cmpS_pr) : LoopsFor Try.prog 54 0 scmpP_t0_L0_LP := loops_lp (L := 100) (T := fun i x => scmpP_t0_L0_T i.1 i.2.1 i.2.2.1 i.2.2.2 x) (S := fun i x => scmpP_t0_L0_S i.1 i.2.1 i.2.2.1 i.2.2.2 x) ok hpr (by kernel_rfl) loops_none scmpP_t0_L0_of_ok (fun i x more kk => scmpP_t0_L0_rd i.1 i.2.1 i.2.2.1 i.2.2.2 x more kk)
noncomputable def scmpP_t0r (l0 : List D) (l1 : List D) : RT :=
  RT.br (loopOk (scmpP_t0_L0 (l0, l1, l0, (↑l0.length : Int))) (0 : Int))
    (RT.br ((loopV (scmpP_t0_L0 (l0, l1, l0, (↑l0.length : Int))) (0 : Int)).fst.beq (0 : Nat))
     (okL (AV.int IntKind.i64 (loopV (scmpP_t0_L0 (l0, l1, l0, (↑l0.length : Int))) (0 : Int)).snd) ([]))
     (RT.br ((loopV (scmpP_t0_L0 (l0, l1, l0, (↑l0.length : Int))) (0 : Int)).fst.beq (1 : Nat))
      (RT.br (decide ((↑l0.length : Int) < (↑l1.length : Int)))
       (okL (AV.int IntKind.i64 (-1 : Int)) ([]))
       (okL (AV.int IntKind.i64 (0 : Int)) ([])))
      (RT.fail)))
    (RT.fail)
theorem scmpP_t0r_b (l0 : List D) (l1 : List D) (K : AV → St → Prop) : bodyK Try.prog cmpS_pr scmpP_t0_L0_LP 100 54 [] [.fz false .str l0, .fz false .str l1] [] K = RT.K (fun v s _ => K v s) (scmpP_t0r l0 l1) := by kernel_rfl
noncomputable def scmpP_t0_V0 (l0 : List D) (l1 : List D) : Bool :=
  loopOk (scmpP_t0_L0 (l0, l1, l0, (↑l0.length : Int))) (0 : Int) && bif (loopV (scmpP_t0_L0 (l0, l1, l0, (↑l0.length : Int))) (0 : Int)).fst.beq (0 : Nat) then true else (loopV (scmpP_t0_L0 (l0, l1, l0, (↑l0.length : Int))) (0 : Int)).fst.beq (1 : Nat) && bif decide ((↑l0.length : Int) < (↑l1.length : Int)) then true else true
noncomputable def scmpP_t0_V1 (l0 : List D) (l1 : List D) : Int :=
  bif (loopV (scmpP_t0_L0 (l0, l1, l0, (↑l0.length : Int))) (0 : Int)).fst.beq (0 : Nat) then (loopV (scmpP_t0_L0 (l0, l1, l0, (↑l0.length : Int))) (0 : Int)).snd else bif decide ((↑l0.length : Int) < (↑l1.length : Int)) then (-1 : Int) else (0 : Int)
noncomputable def scmpP_t0 (l0 : List D) (l1 : List D) : RT :=
  RT.br (scmpP_t0_V0 l0 l1)
    (okL (Go.Sy.AV.int (IntKind.i64) (scmpP_t0_V1 l0 l1)) [])
    (RT.fail)
theorem scmpP_t0_m (l0 : List D) (l1 : List D) (K : AV → St → Prop) : RT.K (fun v s _ => K v s) (RT.mergeW ([]) (scmpP_t0r l0 l1)) = RT.K (fun v s _ => K v s) (scmpP_t0 l0 l1) := by kernel_rfl
theorem scmpP_t0_b (l0 : List D) (l1 : List D) (K : AV → St → Prop) (h : RT.K (fun v s _ => K v s) (scmpP_t0 l0 l1)) : bodyK Try.prog cmpS_pr scmpP_t0_L0_LP 100 54 [] [.fz false .str l0, .fz false .str l1] [] K := Eq.mpr (scmpP_t0r_b ..) (mergeW_K (S := []) _ ⟨⟨rfl, ⟨⟨rfl, rfl⟩, trivial⟩⟩, trivial⟩ (Eq.mpr (scmpP_t0_m ..) h))
theorem scmpP_t0_lp (hpr : PrOk Try.prog cmpS_pr) : LoopsFor Try.prog 54 0 scmpP_t0_L0_LP := (scmpP_t0_L0_lp hpr)
noncomputable def scmpP : Sy.Spec := ⟨[.data (.slice .str), .data (.slice .str)], fun args s => match args, s with
  | [(.fz false e_0 l0), (.fz false e_1 l1)], [] => .br (Sh.beq e_0 (Sh.str) && (Sh.beq e_1 (Sh.str) && (true))) (scmpP_t0 l0 l1) .fail
  | _, _ => .fail⟩
theorem scmpP_ok : SpecOk Try.prog 54 scmpP.f := specOk_comes fun args s v s' tch e => by
  simp only [scmpP] at e
  split at e
  · obtain ⟨hg, e⟩ := if_run e
    simp only [Bool.and_eq_true] at hg
    obtain ⟨h_0, h_1, _⟩ := hg
    obtain rfl := Sh.beq_eq _ _ h_0
    obtain rfl := Sh.beq_eq _ _ h_1
    refine comes_of ok cmpS_pr_k (L := 100) (ms := []) (by kernel_rfl) (scmpP_t0_lp cmpS_pr_k) ?_
    exact scmpP_t0_b (h := K_run e) ..
  · cases e
noncomputable def scmpP_pr : FuncId → Option Sy.Spec := addP 54 scmpP cmpS_pr
theorem scmpP_pr_k : PrOk Try.prog scmpP_pr := prOk_add scmpP_ok cmpS_pr_k
noncomputable def pcmpP_t0r (l0 : List D) (l1 : List D) : RT :=
  RT.br (scmpP_t0_V0 l0 l1)
    (okL (AV.int IntKind.i64 (scmpP_t0_V1 l0 l1)) ([]))
    (RT.fail)
theorem pcmpP_t0r_b (l0 : List D) (l1 : List D) (K : AV → St → Prop) : bodyK Try.prog scmpP_pr noL 100 31 [] [.fz false .str l0, .fz false .str l1] [] K = RT.K (fun v s _ => K v s) (pcmpP_t0r l0 l1) := by kernel_rfl
noncomputable def pcmpP_t0_V0 (l0 : List D) (l1 : List D) : Bool :=
  scmpP_t0_V0 l0 l1 && true
noncomputable def pcmpP_t0 (l0 : List D) (l1 : List D) : RT :=
  RT.br (pcmpP_t0_V0 l0 l1)
    (okL (Go.Sy.AV.int (IntKind.i64) (scmpP_t0_V1 l0 l1)) [])
    (RT.fail)
theorem pcmpP_t0_m (l0 : List D) (l1 : List D) (K : AV → St → Prop) : RT.K (fun v s _ => K v s) (RT.mergeW ([]) (pcmpP_t0r l0 l1)) = RT.K (fun v s _ => K v s) (pcmpP_t0 l0 l1) := by kernel_rfl
theorem pcmpP_t0_b (l0 : List D) (l1 : List D) (K : AV → St → Prop) (h : RT.K (fun v s _ => K v s) (pcmpP_t0 l0 l1)) : bodyK Try.prog scmpP_pr noL 100 31 [] [.fz false .str l0, .fz false .str l1] [] K := Eq.mpr (pcmpP_t0r_b ..) (mergeW_K (S := []) _ ⟨rfl, trivial⟩ (Eq.mpr (pcmpP_t0_m ..) h))
theorem pcmpP_t0_lp (hpr : PrOk Try.prog scmpP_pr) : LoopsFor Try.prog 31 0 noL := loops_none
noncomputable def pcmpP : Sy.Spec := ⟨[.data (.slice .str), .data (.slice .str)], fun args s => match args, s with
  | [(.fz false e_0 l0), (.fz false e_1 l1)], [] => .br (Sh.beq e_0 (Sh.str) && (Sh.beq e_1 (Sh.str) && (true))) (pcmpP_t0 l0 l1) .fail
  | _, _ => .fail⟩
theorem pcmpP_ok : SpecOk Try.prog 31 pcmpP.f := specOk_comes fun args s v s' tch e => by
  simp only [pcmpP] at e
  split at e
  · obtain ⟨hg, e⟩ := if_run e
    simp only [Bool.and_eq_true] at hg
    obtain ⟨h_0, h_1, _⟩ := hg
    obtain rfl := Sh.beq_eq _ _ h_0
    obtain rfl := Sh.beq_eq _ _ h_1
    refine comes_of ok scmpP_pr_k (L := 100) (ms := []) (by kernel_rfl) (pcmpP_t0_lp scmpP_pr_k) ?_
    exact pcmpP_t0_b (h := K_run e) ..
  · cases e
noncomputable def pcmpP_pr : FuncId → Option Sy.Spec := addP 31 pcmpP scmpP_pr
theorem pcmpP_pr_k : PrOk Try.prog pcmpP_pr := prOk_add pcmpP_ok scmpP_pr_k
end Go.Proofs.Ytekedhfmdpbplaa
