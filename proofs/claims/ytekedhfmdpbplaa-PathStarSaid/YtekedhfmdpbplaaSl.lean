/- Walks: the statements' own cuts of tables, ways. -/
import Derived.Test.YtekedhfmdpbplaaSr
import Derived.KernelRfl
set_option linter.unusedSimpArgs false
set_option linter.unusedVariables false
set_option maxRecDepth 100000
namespace Go.Proofs.Ytekedhfmdpbplaa
open Go Go.Sy
attribute [local irreducible] bodyK roundK cutK
noncomputable def pr_aaSl1 : FuncId → Option Sy.Spec := addP 13 cutX noP
theorem pr_aaSl1_k : PrOk Try.prog pr_aaSl1 := prOk_add cutX_ok prOk_none
noncomputable def pathL_t0_L0_T (l0 : List D) (n1 : Nat) (i2 : Int) (l3 : List D) : List AV := ([AV.fz false Sh.str l0, .any, .any, AV.tsl false Sh.str (0 : Nat) (0 : Nat) n1 Cap.tight, AV.int IntKind.i64 i2] ++ padAny 19)
noncomputable def pathL_t0_L0_S (l0 : List D) (n1 : Nat) (i2 : Int) (l3 : List D) : St := [Ent.tbl false Sh.str l3]
noncomputable def pathL_t0_L0_of : List AV → St → Option (((List D)) × (Nat × Int × (List D))) := fun t s => match t, s with
  | (.fz false e_0 l0) :: .any :: .any :: (.tsl false e_1 e_2 e_3 n1 .tight) :: (.int .i64 i2) :: t_0, [(.tbl false e_4 l3)] => (match dropAny 19 t_0 with
    | some ([]) => (match Sh.beq e_0 (Sh.str) && (Sh.beq e_1 (Sh.str) && (Nat.beq e_2 (0 : Nat) && (Nat.beq e_3 (0 : Nat) && (Sh.beq e_4 (Sh.str) && (true))))) with | true => some ((l0), (n1, i2, l3)) | false => none)
    | _ => none)
  | _, _ => none
noncomputable def pathL_t0_L0_ex (i : (List D)) (y : Nat × (List D)) (k : KS) : Prop := let l0 := i; let ny6 := y.1; let ly7 := y.2; k (Ex.normal) ([.any, .any, .any, AV.tsl false Sh.str (0 : Nat) (0 : Nat) ny6 Cap.tight] ++ padAny 20) [Ent.tbl false Sh.str ly7]
theorem pathL_t0_L0_of_ok : ∀ t s (i : (List D)) (x : Nat × Int × (List D)), pathL_t0_L0_of t s = some (i, x) → t = pathL_t0_L0_T i x.1 x.2.1 x.2.2 ∧ s = pathL_t0_L0_S i x.1 x.2.1 x.2.2 := by
  intro t s i x h
  unfold pathL_t0_L0_of at h
  split at h
  · split at h
    · rename_i ha
      obtain rfl := dropAny_eq ha
      split at h
      · rename_i hg
        cases h
        simp only [Bool.and_eq_true] at hg
        obtain ⟨h_0, h_1, h_2, h_3, h_4, _⟩ := hg
        obtain rfl := Sh.beq_eq _ _ h_0
        obtain rfl := Sh.beq_eq _ _ h_1
        obtain rfl := Nat.eq_of_beq_eq_true h_2
        obtain rfl := Nat.eq_of_beq_eq_true h_3
        obtain rfl := Sh.beq_eq _ _ h_4
        exact ⟨rfl, rfl⟩
      · cases h
    · cases h
  · cases h
noncomputable def pathL_t0_L0_stp (l0 : List D) (n1 : Nat) (i2 : Int) (l3 : List D) : NT (Nat × Int × (List D)) (Nat × (List D)) :=
  NT.br (decide (i2 < (↑l0.length : Int)))
    (NT.br (decide (i2 < (6 : Int)))
     (NT.br (decide ((0 : Int) ≤ i2) && decide (i2 < (↑l0.length : Int)))
      (NT.br (cutX_t0_V0 (l0.getD i2.toNat D.nul).asStr (20 : Int))
       (NT.br ((((3 : Nat) * (n1 + (1 : Nat)) + (2000 : Nat)) * (16 : Nat)).ble (281474976710656 : Nat) && ((0 : Nat) + n1).ble l3.length)
        (NT.more (n1 + (1 : Nat), IntKind.i64.wrap (i2 + (1 : Int)), List.take n1 (List.drop (0 : Nat) l3) ++ [D.str (cutX_t0_V1 (l0.getD i2.toNat D.nul).asStr (20 : Int))]))
        (NT.fail))
       (NT.fail))
      (NT.fail))
     (NT.done (n1, l3)))
    (NT.done (n1, l3))
noncomputable def pathL_t0_L0 (i : (List D)) (x : Nat × Int × (List D)) := pathL_t0_L0_stp i x.1 x.2.1 x.2.2
theorem pathL_t0_L0_rd (l0 : List D) (n1 : Nat) (i2 : Int) (l3 : List D) (more : List AV → St → Prop) (kk : KS) : roundK Try.prog pr_aaSl1 noL 100 25 0 (pathL_t0_L0_T l0 n1 i2 l3) (pathL_t0_L0_S l0 n1 i2 l3) (againK 0 0 [.yes, .no, .no, .bld (Sh.str), .yes] [.no, .no, .yes, .bld (Sh.str)] more kk) = (pathL_t0_L0_stp l0 n1 i2 l3).K (fun x' => more (pathL_t0_L0_T l0 x'.1 x'.2.1 x'.2.2) (pathL_t0_L0_S l0 x'.1 x'.2.1 x'.2.2)) (fun y => pathL_t0_L0_ex (l0) y kk) := by kernel_rfl
noncomputable def pathL_t0_L0_LP : Nat → Option LoopS := addL 0 (headG 0 [.yes, .no, .no, .bld (Sh.str), .yes] (outL pathL_t0_L0 pathL_t0_L0_of pathL_t0_L0_ex)) noL
theorem pathL_t0_L0_lp (hpr : PrOk Try.prog pr_aaSl1) : LoopsFor Try.prog 25 0 pathL_t0_L0_LP := loops_lp (L := 100) (T := fun i x => pathL_t0_L0_T i x.1 x.2.1 x.2.2) (S := fun i x => pathL_t0_L0_S i x.1 x.2.1 x.2.2) ok hpr (by kernel_rfl) loops_none pathL_t0_L0_of_ok (fun i x more kk => pathL_t0_L0_rd i x.1 x.2.1 x.2.2 more kk)
noncomputable def pathL_t0r (l0 : List D) : RT :=
  RT.br (loopOk (pathL_t0_L0 l0) ((0 : Nat), (0 : Int), []))
    (RT.br (((0 : Nat) + (loopV (pathL_t0_L0 l0) ((0 : Nat), (0 : Int), [])).fst).ble (loopV (pathL_t0_L0 l0) ((0 : Nat), (0 : Int), [])).snd.length && true)
     (okL (AV.fz false Sh.str (List.take (loopV (pathL_t0_L0 l0) ((0 : Nat), (0 : Int), [])).fst (List.drop (0 : Nat) (loopV (pathL_t0_L0 l0) ((0 : Nat), (0 : Int), [])).snd))) ([]))
     (RT.fail))
    (RT.fail)
theorem pathL_t0r_b (l0 : List D) (K : AV → St → Prop) : bodyK Try.prog pr_aaSl1 pathL_t0_L0_LP 100 25 [.data (.slice .str)] [.fz false .str l0] [] K = RT.K (fun v s _ => K v s) (pathL_t0r l0) := by kernel_rfl
noncomputable def pathL_t0_V0 (l0 : List D) : Bool :=
  loopOk (pathL_t0_L0 l0) ((0 : Nat), (0 : Int), []) && (((0 : Nat) + (loopV (pathL_t0_L0 l0) ((0 : Nat), (0 : Int), [])).fst).ble (loopV (pathL_t0_L0 l0) ((0 : Nat), (0 : Int), [])).snd.length && true && true)
noncomputable def pathL_t0_V1 (l0 : List D) : List D :=
  List.take (loopV (pathL_t0_L0 l0) ((0 : Nat), (0 : Int), [])).fst (List.drop (0 : Nat) (loopV (pathL_t0_L0 l0) ((0 : Nat), (0 : Int), [])).snd)
noncomputable def pathL_t0 (l0 : List D) : RT :=
  RT.br (pathL_t0_V0 l0)
    (okL (Go.Sy.AV.fz (false) (Sh.str) (pathL_t0_V1 l0)) [])
    (RT.fail)
theorem pathL_t0_m (l0 : List D) (K : AV → St → Prop) : RT.K (fun v s _ => K v s) (RT.mergeW ([]) (pathL_t0r l0)) = RT.K (fun v s _ => K v s) (pathL_t0 l0) := by kernel_rfl
theorem pathL_t0_b (l0 : List D) (K : AV → St → Prop) (h : RT.K (fun v s _ => K v s) (pathL_t0 l0)) : bodyK Try.prog pr_aaSl1 pathL_t0_L0_LP 100 25 [.data (.slice .str)] [.fz false .str l0] [] K := Eq.mpr (pathL_t0r_b ..) (mergeW_K (S := []) _ ⟨⟨rfl, trivial⟩, trivial⟩ (Eq.mpr (pathL_t0_m ..) h))
theorem pathL_t0_lp (hpr : PrOk Try.prog pr_aaSl1) : LoopsFor Try.prog 25 0 pathL_t0_L0_LP := (pathL_t0_L0_lp hpr)
noncomputable def pathL : Sy.Spec := ⟨[.data (.slice .str)], fun args s => match args, s with
  | [(.fz false e_0 l0)], [] => .br (Sh.beq e_0 (Sh.str) && (true)) (pathL_t0 l0) .fail
  | _, _ => .fail⟩
theorem pathL_ok : SpecOk Try.prog 25 pathL.f := specOk_comes fun args s v s' tch e => by
  simp only [pathL] at e
  split at e
  · obtain ⟨hg, e⟩ := if_run e
    simp only [Bool.and_eq_true] at hg
    obtain ⟨h_0, _⟩ := hg
    obtain rfl := Sh.beq_eq _ _ h_0
    refine comes_of ok pr_aaSl1_k (L := 100) (ms := [.data (.slice .str)]) (by kernel_rfl) (pathL_t0_lp pr_aaSl1_k) ?_
    exact pathL_t0_b (h := K_run e) ..
  · cases e
noncomputable def pathL_pr : FuncId → Option Sy.Spec := addP 25 pathL pr_aaSl1
theorem pathL_pr_k : PrOk Try.prog pathL_pr := prOk_add pathL_ok pr_aaSl1_k
noncomputable def tabL_t0_L0_T (c0 : List UInt8) (l1 : List D) (c2 : List UInt8) (l3 : List D) (c4 : List UInt8) (c5 : List UInt8) (i6 : Int) (n7 : Nat) (l8 : List D) : List AV := ([.any, AV.ptr (some ((0 : Nat), (0 : Nat))), AV.ptr (some ((1 : Nat), (0 : Nat))), AV.ptr (some ((2 : Nat), (0 : Nat))), AV.int IntKind.i64 i6] ++ padAny 73)
noncomputable def tabL_t0_L0_S (c0 : List UInt8) (l1 : List D) (c2 : List UInt8) (l3 : List D) (c4 : List UInt8) (c5 : List UInt8) (i6 : Int) (n7 : Nat) (l8 : List D) : St := [Ent.cells [AV.str c0, AV.fz false shCol l1, AV.str c2, AV.fz false shDep l3], Ent.cells [AV.str [], AV.nilSl, AV.str [], AV.nilSl], Ent.cells [AV.str c4, AV.tsl false shCol (3 : Nat) (0 : Nat) n7 Cap.tight, AV.str c5, AV.nilSl], Ent.tbl false shCol l8]
noncomputable def tabL_t0_L0_of : List AV → St → Option (((List UInt8) × (List D) × (List UInt8) × (List D) × (List UInt8) × (List UInt8)) × (Int × Nat × (List D))) := fun t s => match t, s with
  | .any :: (.ptr (.some (e_0, e_1))) :: (.ptr (.some (e_2, e_3))) :: (.ptr (.some (e_4, e_5))) :: (.int .i64 i6) :: t_0, [(.cells [(.str c0), (.fz false e_6 l1), (.str c2), (.fz false e_7 l3)]), (.cells [(.str e_8), .nilSl, (.str e_9), .nilSl]), (.cells [(.str c4), (.tsl false e_10 e_11 e_12 n7 .tight), (.str c5), .nilSl]), (.tbl false e_13 l8)] => (match dropAny 73 t_0 with
    | some ([]) => (match Nat.beq e_0 (0 : Nat) && (Nat.beq e_1 (0 : Nat) && (Nat.beq e_2 (1 : Nat) && (Nat.beq e_3 (0 : Nat) && (Nat.beq e_4 (2 : Nat) && (Nat.beq e_5 (0 : Nat) && (Sh.beq e_6 shCol && (Sh.beq e_7 shDep && (decide (e_8 = ([])) && (decide (e_9 = ([])) && (Sh.beq e_10 shCol && (Nat.beq e_11 (3 : Nat) && (Nat.beq e_12 (0 : Nat) && (Sh.beq e_13 shCol && (true)))))))))))))) with | true => some ((c0, l1, c2, l3, c4, c5), (i6, n7, l8)) | false => none)
    | _ => none)
  | _, _ => none
noncomputable def tabL_t0_L0_ex (i : (List UInt8) × (List D) × (List UInt8) × (List D) × (List UInt8) × (List UInt8)) (y : Nat × (List D)) (k : KS) : Prop := let c0 := i.1; let l1 := i.2.1; let c2 := i.2.2.1; let l3 := i.2.2.2.1; let c4 := i.2.2.2.2.1; let c5 := i.2.2.2.2.2; let ny24 := y.1; let ly25 := y.2; k (Ex.normal) ([.any, AV.ptr (some ((0 : Nat), (0 : Nat))), AV.ptr (some ((1 : Nat), (0 : Nat))), AV.ptr (some ((2 : Nat), (0 : Nat)))] ++ padAny 74) [Ent.cells [AV.str c0, AV.fz false shCol l1, AV.str c2, AV.fz false shDep l3], Ent.cells [AV.str [], AV.nilSl, AV.str [], AV.nilSl], Ent.cells [AV.str c4, AV.tsl false shCol (3 : Nat) (0 : Nat) ny24 Cap.tight, AV.str c5, AV.nilSl], Ent.tbl false shCol ly25]
theorem tabL_t0_L0_of_ok : ∀ t s (i : (List UInt8) × (List D) × (List UInt8) × (List D) × (List UInt8) × (List UInt8)) (x : Int × Nat × (List D)), tabL_t0_L0_of t s = some (i, x) → t = tabL_t0_L0_T i.1 i.2.1 i.2.2.1 i.2.2.2.1 i.2.2.2.2.1 i.2.2.2.2.2 x.1 x.2.1 x.2.2 ∧ s = tabL_t0_L0_S i.1 i.2.1 i.2.2.1 i.2.2.2.1 i.2.2.2.2.1 i.2.2.2.2.2 x.1 x.2.1 x.2.2 := by
  intro t s i x h
  unfold tabL_t0_L0_of at h
  split at h
  · split at h
    · rename_i ha
      obtain rfl := dropAny_eq ha
      split at h
      · rename_i hg
        cases h
        simp only [Bool.and_eq_true] at hg
        obtain ⟨h_0, h_1, h_2, h_3, h_4, h_5, h_6, h_7, h_8, h_9, h_10, h_11, h_12, h_13, _⟩ := hg
        obtain rfl := Nat.eq_of_beq_eq_true h_0
        obtain rfl := Nat.eq_of_beq_eq_true h_1
        obtain rfl := Nat.eq_of_beq_eq_true h_2
        obtain rfl := Nat.eq_of_beq_eq_true h_3
        obtain rfl := Nat.eq_of_beq_eq_true h_4
        obtain rfl := Nat.eq_of_beq_eq_true h_5
        obtain rfl := Sh.beq_eq _ _ h_6
        obtain rfl := Sh.beq_eq _ _ h_7
        have h_8 := of_decide_eq_true h_8
        subst h_8
        have h_9 := of_decide_eq_true h_9
        subst h_9
        obtain rfl := Sh.beq_eq _ _ h_10
        obtain rfl := Nat.eq_of_beq_eq_true h_11
        obtain rfl := Nat.eq_of_beq_eq_true h_12
        obtain rfl := Sh.beq_eq _ _ h_13
        exact ⟨rfl, rfl⟩
      · cases h
    · cases h
  · cases h
noncomputable def tabL_t0_L0_stp (c0 : List UInt8) (l1 : List D) (c2 : List UInt8) (l3 : List D) (c4 : List UInt8) (c5 : List UInt8) (i6 : Int) (n7 : Nat) (l8 : List D) : NT (Int × Nat × (List D)) (Nat × (List D)) :=
  NT.br (decide (i6 < (↑l1.length : Int)))
    (NT.br (decide (i6 < (8 : Int)))
     (NT.br (decide ((0 : Int) ≤ i6) && decide (i6 < (↑l1.length : Int)))
      (NT.br (cutX_t0_V0 ((l1.getD i6.toNat D.nul).fld (0 : Nat)).asStr (20 : Int))
       (NT.br (cutX_t0_V0 ((l1.getD i6.toNat D.nul).fld (3 : Nat)).asStr (20 : Int))
        (NT.br ((((3 : Nat) * (n7 + (1 : Nat)) + (2000 : Nat)) * (48 : Nat)).ble (281474976710656 : Nat) && ((0 : Nat) + n7).ble l8.length)
         (NT.more (IntKind.i64.wrap (i6 + (1 : Int)), n7 + (1 : Nat), List.take n7 (List.drop (0 : Nat) l8) ++ [D.agg [D.str (cutX_t0_V1 ((l1.getD i6.toNat D.nul).fld (0 : Nat)).asStr (20 : Int)), D.int ((l1.getD i6.toNat D.nul).fld (1 : Nat)).asInt, D.bool ((l1.getD i6.toNat D.nul).fld (2 : Nat)).asBool, D.str (cutX_t0_V1 ((l1.getD i6.toNat D.nul).fld (3 : Nat)).asStr (20 : Int))]]))
         (NT.fail))
        (NT.fail))
       (NT.fail))
      (NT.fail))
     (NT.done (n7, l8)))
    (NT.done (n7, l8))
noncomputable def tabL_t0_L0 (i : (List UInt8) × (List D) × (List UInt8) × (List D) × (List UInt8) × (List UInt8)) (x : Int × Nat × (List D)) := tabL_t0_L0_stp i.1 i.2.1 i.2.2.1 i.2.2.2.1 i.2.2.2.2.1 i.2.2.2.2.2 x.1 x.2.1 x.2.2
theorem tabL_t0_L0_rd (c0 : List UInt8) (l1 : List D) (c2 : List UInt8) (l3 : List D) (c4 : List UInt8) (c5 : List UInt8) (i6 : Int) (n7 : Nat) (l8 : List D) (more : List AV → St → Prop) (kk : KS) : roundK Try.prog pathL_pr noL 100 41 0 (tabL_t0_L0_T c0 l1 c2 l3 c4 c5 i6 n7 l8) (tabL_t0_L0_S c0 l1 c2 l3 c4 c5 i6 n7 l8) (againK 0 0 [.no, .yes, .yes, .yes, .yes, .no, .no, .no, .no, .no, .no, .no, .no, .no, .no, .no, .no, .no, .no, .no, .no, .no, .no, .no, .no, .no, .no, .no, .no, .no, .no, .no, .no, .no, .no, .no, .no, .no, .no, .no, .no, .no, .no, .no, .no, .no, .no, .no, .no, .no, .no, .no, .no, .no, .no, .no, .no, .no, .no, .no, .no, .no, .no, .no, .no, .no, .no, .no, .no, .no, .no, .no, .no, .no, .no, .no, .no, .no, .blk 3 1 shCol] [.no, .yes, .yes, .yes, .no, .no, .no, .no, .no, .no, .no, .no, .no, .no, .no, .no, .no, .no, .no, .no, .no, .no, .no, .no, .no, .no, .no, .no, .no, .no, .no, .no, .no, .no, .no, .no, .no, .no, .no, .no, .no, .no, .no, .no, .no, .no, .no, .no, .no, .no, .no, .no, .no, .no, .no, .no, .no, .no, .no, .no, .no, .no, .no, .no, .no, .no, .no, .no, .no, .no, .no, .no, .no, .no, .no, .no, .no, .no, .blk 3 1 shCol] more kk) = (tabL_t0_L0_stp c0 l1 c2 l3 c4 c5 i6 n7 l8).K (fun x' => more (tabL_t0_L0_T c0 l1 c2 l3 c4 c5 x'.1 x'.2.1 x'.2.2) (tabL_t0_L0_S c0 l1 c2 l3 c4 c5 x'.1 x'.2.1 x'.2.2)) (fun y => tabL_t0_L0_ex (c0, l1, c2, l3, c4, c5) y kk) := by kernel_rfl
noncomputable def tabL_t0_L0_LP : Nat → Option LoopS := addL 0 (headG 0 [.no, .yes, .yes, .yes, .yes, .no, .no, .no, .no, .no, .no, .no, .no, .no, .no, .no, .no, .no, .no, .no, .no, .no, .no, .no, .no, .no, .no, .no, .no, .no, .no, .no, .no, .no, .no, .no, .no, .no, .no, .no, .no, .no, .no, .no, .no, .no, .no, .no, .no, .no, .no, .no, .no, .no, .no, .no, .no, .no, .no, .no, .no, .no, .no, .no, .no, .no, .no, .no, .no, .no, .no, .no, .no, .no, .no, .no, .no, .no, .blk 3 1 shCol] (outL tabL_t0_L0 tabL_t0_L0_of tabL_t0_L0_ex)) noL
theorem tabL_t0_L0_lp (hpr : PrOk Try.prog pathL_pr) : LoopsFor Try.prog 41 0 tabL_t0_L0_LP := loops_lp (L := 100) (T := fun i x => tabL_t0_L0_T i.1 i.2.1 i.2.2.1 i.2.2.2.1 i.2.2.2.2.1 i.2.2.2.2.2 x.1 x.2.1 x.2.2) (S := fun i x => tabL_t0_L0_S i.1 i.2.1 i.2.2.1 i.2.2.2.1 i.2.2.2.2.1 i.2.2.2.2.2 x.1 x.2.1 x.2.2) ok hpr (by kernel_rfl) loops_none tabL_t0_L0_of_ok (fun i x more kk => tabL_t0_L0_rd i.1 i.2.1 i.2.2.1 i.2.2.2.1 i.2.2.2.2.1 i.2.2.2.2.2 x.1 x.2.1 x.2.2 more kk)
noncomputable def tabL_t0_L2_T (c11 : List UInt8) (l12 : List D) (c13 : List UInt8) (l14 : List D) (c15 : List UInt8) (n16 : Nat) (c17 : List UInt8) (l18 : List D) (i19 : Int) (n20 : Nat) (l21 : List D) : List AV := ([.any, AV.ptr (some ((0 : Nat), (0 : Nat))), AV.ptr (some ((1 : Nat), (0 : Nat))), AV.ptr (some ((2 : Nat), (0 : Nat))), .any, .any, AV.int IntKind.i64 i19] ++ padAny 71)
noncomputable def tabL_t0_L2_S (c11 : List UInt8) (l12 : List D) (c13 : List UInt8) (l14 : List D) (c15 : List UInt8) (n16 : Nat) (c17 : List UInt8) (l18 : List D) (i19 : Int) (n20 : Nat) (l21 : List D) : St := [Ent.cells [AV.str c11, AV.fz false shCol l12, AV.str c13, AV.fz false shDep l14], Ent.cells [AV.str [], AV.nilSl, AV.str [], AV.nilSl], Ent.cells [AV.str c15, AV.tsl false shCol (3 : Nat) (0 : Nat) n16 Cap.tight, AV.str c17, AV.tsl false shDep (4 : Nat) (0 : Nat) n20 Cap.tight], Ent.tbl false shCol l18, Ent.tbl false shDep l21]
noncomputable def tabL_t0_L2_of : List AV → St → Option (((List UInt8) × (List D) × (List UInt8) × (List D) × (List UInt8) × Nat × (List UInt8) × (List D)) × (Int × Nat × (List D))) := fun t s => match t, s with
  | .any :: (.ptr (.some (e_0, e_1))) :: (.ptr (.some (e_2, e_3))) :: (.ptr (.some (e_4, e_5))) :: .any :: .any :: (.int .i64 i19) :: t_0, [(.cells [(.str c11), (.fz false e_6 l12), (.str c13), (.fz false e_7 l14)]), (.cells [(.str e_8), .nilSl, (.str e_9), .nilSl]), (.cells [(.str c15), (.tsl false e_10 e_11 e_12 n16 .tight), (.str c17), (.tsl false e_13 e_14 e_15 n20 .tight)]), (.tbl false e_16 l18), (.tbl false e_17 l21)] => (match dropAny 71 t_0 with
    | some ([]) => (match Nat.beq e_0 (0 : Nat) && (Nat.beq e_1 (0 : Nat) && (Nat.beq e_2 (1 : Nat) && (Nat.beq e_3 (0 : Nat) && (Nat.beq e_4 (2 : Nat) && (Nat.beq e_5 (0 : Nat) && (Sh.beq e_6 shCol && (Sh.beq e_7 shDep && (decide (e_8 = ([])) && (decide (e_9 = ([])) && (Sh.beq e_10 shCol && (Nat.beq e_11 (3 : Nat) && (Nat.beq e_12 (0 : Nat) && (Sh.beq e_13 shDep && (Nat.beq e_14 (4 : Nat) && (Nat.beq e_15 (0 : Nat) && (Sh.beq e_16 shCol && (Sh.beq e_17 shDep && (true)))))))))))))))))) with | true => some ((c11, l12, c13, l14, c15, n16, c17, l18), (i19, n20, l21)) | false => none)
    | _ => none)
  | _, _ => none
noncomputable def tabL_t0_L2_ex (i : (List UInt8) × (List D) × (List UInt8) × (List D) × (List UInt8) × Nat × (List UInt8) × (List D)) (y : Nat × (List D)) (k : KS) : Prop := let c11 := i.1; let l12 := i.2.1; let c13 := i.2.2.1; let l14 := i.2.2.2.1; let c15 := i.2.2.2.2.1; let n16 := i.2.2.2.2.2.1; let c17 := i.2.2.2.2.2.2.1; let l18 := i.2.2.2.2.2.2.2; let ny26 := y.1; let ly27 := y.2; k (Ex.normal) ([.any, .any, AV.ptr (some ((0 : Nat), (0 : Nat))), AV.ptr (some ((1 : Nat), (0 : Nat)))] ++ padAny 74) [Ent.cells [AV.str [], AV.nilSl, AV.str [], AV.nilSl], Ent.cells [AV.str c15, AV.tsl false shCol (2 : Nat) (0 : Nat) n16 Cap.tight, AV.str c17, AV.tsl false shDep (3 : Nat) (0 : Nat) ny26 Cap.tight], Ent.tbl false shCol l18, Ent.tbl false shDep ly27]
theorem tabL_t0_L2_of_ok : ∀ t s (i : (List UInt8) × (List D) × (List UInt8) × (List D) × (List UInt8) × Nat × (List UInt8) × (List D)) (x : Int × Nat × (List D)), tabL_t0_L2_of t s = some (i, x) → t = tabL_t0_L2_T i.1 i.2.1 i.2.2.1 i.2.2.2.1 i.2.2.2.2.1 i.2.2.2.2.2.1 i.2.2.2.2.2.2.1 i.2.2.2.2.2.2.2 x.1 x.2.1 x.2.2 ∧ s = tabL_t0_L2_S i.1 i.2.1 i.2.2.1 i.2.2.2.1 i.2.2.2.2.1 i.2.2.2.2.2.1 i.2.2.2.2.2.2.1 i.2.2.2.2.2.2.2 x.1 x.2.1 x.2.2 := by
  intro t s i x h
  unfold tabL_t0_L2_of at h
  split at h
  · split at h
    · rename_i ha
      obtain rfl := dropAny_eq ha
      split at h
      · rename_i hg
        cases h
        simp only [Bool.and_eq_true] at hg
        obtain ⟨h_0, h_1, h_2, h_3, h_4, h_5, h_6, h_7, h_8, h_9, h_10, h_11, h_12, h_13, h_14, h_15, h_16, h_17, _⟩ := hg
        obtain rfl := Nat.eq_of_beq_eq_true h_0
        obtain rfl := Nat.eq_of_beq_eq_true h_1
        obtain rfl := Nat.eq_of_beq_eq_true h_2
        obtain rfl := Nat.eq_of_beq_eq_true h_3
        obtain rfl := Nat.eq_of_beq_eq_true h_4
        obtain rfl := Nat.eq_of_beq_eq_true h_5
        obtain rfl := Sh.beq_eq _ _ h_6
        obtain rfl := Sh.beq_eq _ _ h_7
        have h_8 := of_decide_eq_true h_8
        subst h_8
        have h_9 := of_decide_eq_true h_9
        subst h_9
        obtain rfl := Sh.beq_eq _ _ h_10
        obtain rfl := Nat.eq_of_beq_eq_true h_11
        obtain rfl := Nat.eq_of_beq_eq_true h_12
        obtain rfl := Sh.beq_eq _ _ h_13
        obtain rfl := Nat.eq_of_beq_eq_true h_14
        obtain rfl := Nat.eq_of_beq_eq_true h_15
        obtain rfl := Sh.beq_eq _ _ h_16
        obtain rfl := Sh.beq_eq _ _ h_17
        exact ⟨rfl, rfl⟩
      · cases h
    · cases h
  · cases h
noncomputable def tabL_t0_L2_stp (c11 : List UInt8) (l12 : List D) (c13 : List UInt8) (l14 : List D) (c15 : List UInt8) (n16 : Nat) (c17 : List UInt8) (l18 : List D) (i19 : Int) (n20 : Nat) (l21 : List D) : NT (Int × Nat × (List D)) (Nat × (List D)) :=
  NT.br (decide (i19 < (↑l14.length : Int)))
    (NT.br (decide (i19 < (5 : Int)))
     (NT.br (decide ((0 : Int) ≤ i19) && decide (i19 < (↑l14.length : Int)))
      (NT.br (pathL_t0_V0 ((l14.getD i19.toNat D.nul).fld (0 : Nat)).els)
       (NT.br (decide ((0 : Int) ≤ i19) && decide (i19 < (↑l14.length : Int)))
        (NT.br (cutX_t0_V0 ((l14.getD i19.toNat D.nul).fld (1 : Nat)).asStr (20 : Int))
         (NT.br ((((3 : Nat) * (n20 + (1 : Nat)) + (2000 : Nat)) * (40 : Nat)).ble (281474976710656 : Nat) && ((0 : Nat) + n20).ble l21.length)
          (NT.more (IntKind.i64.wrap (i19 + (1 : Int)), n20 + (1 : Nat), List.take n20 (List.drop (0 : Nat) l21) ++ [D.agg [D.list (pathL_t0_V1 ((l14.getD i19.toNat D.nul).fld (0 : Nat)).els), D.str (cutX_t0_V1 ((l14.getD i19.toNat D.nul).fld (1 : Nat)).asStr (20 : Int))]]))
          (NT.fail))
         (NT.fail))
        (NT.fail))
       (NT.fail))
      (NT.fail))
     (NT.done (n20, l21)))
    (NT.done (n20, l21))
noncomputable def tabL_t0_L2 (i : (List UInt8) × (List D) × (List UInt8) × (List D) × (List UInt8) × Nat × (List UInt8) × (List D)) (x : Int × Nat × (List D)) := tabL_t0_L2_stp i.1 i.2.1 i.2.2.1 i.2.2.2.1 i.2.2.2.2.1 i.2.2.2.2.2.1 i.2.2.2.2.2.2.1 i.2.2.2.2.2.2.2 x.1 x.2.1 x.2.2
theorem tabL_t0_L2_rd (c11 : List UInt8) (l12 : List D) (c13 : List UInt8) (l14 : List D) (c15 : List UInt8) (n16 : Nat) (c17 : List UInt8) (l18 : List D) (i19 : Int) (n20 : Nat) (l21 : List D) (more : List AV → St → Prop) (kk : KS) : roundK Try.prog pathL_pr tabL_t0_L0_LP 100 41 2 (tabL_t0_L2_T c11 l12 c13 l14 c15 n16 c17 l18 i19 n20 l21) (tabL_t0_L2_S c11 l12 c13 l14 c15 n16 c17 l18 i19 n20 l21) (againK 0 2 [.no, .yes, .yes, .yes, .no, .no, .yes, .no, .no, .no, .no, .no, .no, .no, .no, .no, .no, .no, .no, .no, .no, .no, .no, .no, .no, .no, .no, .no, .no, .no, .no, .no, .no, .no, .no, .no, .no, .no, .no, .no, .no, .no, .no, .no, .no, .no, .no, .no, .no, .no, .no, .no, .no, .no, .no, .no, .no, .no, .no, .no, .no, .no, .no, .no, .no, .no, .no, .no, .no, .no, .no, .no, .no, .no, .no, .no, .no, .no, .blk 3 3 shDep] [.no, .no, .yes, .yes, .no, .no, .no, .no, .no, .no, .no, .no, .no, .no, .no, .no, .no, .no, .no, .no, .no, .no, .no, .no, .no, .no, .no, .no, .no, .no, .no, .no, .no, .no, .no, .no, .no, .no, .no, .no, .no, .no, .no, .no, .no, .no, .no, .no, .no, .no, .no, .no, .no, .no, .no, .no, .no, .no, .no, .no, .no, .no, .no, .no, .no, .no, .no, .no, .no, .no, .no, .no, .no, .no, .no, .no, .no, .no, .blk 3 3 shDep] more kk) = (tabL_t0_L2_stp c11 l12 c13 l14 c15 n16 c17 l18 i19 n20 l21).K (fun x' => more (tabL_t0_L2_T c11 l12 c13 l14 c15 n16 c17 l18 x'.1 x'.2.1 x'.2.2) (tabL_t0_L2_S c11 l12 c13 l14 c15 n16 c17 l18 x'.1 x'.2.1 x'.2.2)) (fun y => tabL_t0_L2_ex (c11, l12, c13, l14, c15, n16, c17, l18) y kk) := by kernel_rfl
noncomputable def tabL_t0_L2_LP : Nat → Option LoopS := addL 2 (headG 0 [.no, .yes, .yes, .yes, .no, .no, .yes, .no, .no, .no, .no, .no, .no, .no, .no, .no, .no, .no, .no, .no, .no, .no, .no, .no, .no, .no, .no, .no, .no, .no, .no, .no, .no, .no, .no, .no, .no, .no, .no, .no, .no, .no, .no, .no, .no, .no, .no, .no, .no, .no, .no, .no, .no, .no, .no, .no, .no, .no, .no, .no, .no, .no, .no, .no, .no, .no, .no, .no, .no, .no, .no, .no, .no, .no, .no, .no, .no, .no, .blk 3 3 shDep] (outL tabL_t0_L2 tabL_t0_L2_of tabL_t0_L2_ex)) tabL_t0_L0_LP
theorem tabL_t0_L2_lp (hpr : PrOk Try.prog pathL_pr) : LoopsFor Try.prog 41 0 tabL_t0_L2_LP := loops_lp (L := 100) (T := fun i x => tabL_t0_L2_T i.1 i.2.1 i.2.2.1 i.2.2.2.1 i.2.2.2.2.1 i.2.2.2.2.2.1 i.2.2.2.2.2.2.1 i.2.2.2.2.2.2.2 x.1 x.2.1 x.2.2) (S := fun i x => tabL_t0_L2_S i.1 i.2.1 i.2.2.1 i.2.2.2.1 i.2.2.2.2.1 i.2.2.2.2.2.1 i.2.2.2.2.2.2.1 i.2.2.2.2.2.2.2 x.1 x.2.1 x.2.2) ok hpr (by kernel_rfl) (tabL_t0_L0_lp hpr) tabL_t0_L2_of_ok (fun i x more kk => tabL_t0_L2_rd i.1 i.2.1 i.2.2.1 i.2.2.2.1 i.2.2.2.2.1 i.2.2.2.2.2.1 i.2.2.2.2.2.2.1 i.2.2.2.2.2.2.2 x.1 x.2.1 x.2.2 more kk)
noncomputable def tabL_t0r (c0_0 : List UInt8) (l0_1 : List D) (c0_2 : List UInt8) (l0_3 : List D) : RT :=
  RT.br (cutX_t0_V0 c0_0 (20 : Int))
    (RT.br (cutX_t0_V0 c0_2 (20 : Int))
     (RT.br (loopOk (tabL_t0_L0 (c0_0, l0_1, c0_2, l0_3, cutX_t0_V1 c0_0 (20 : Int), cutX_t0_V1 c0_2 (20 : Int))) ((0 : Int), (0 : Nat), []))
      (RT.br (loopOk (tabL_t0_L2 (c0_0, l0_1, c0_2, l0_3, cutX_t0_V1 c0_0 (20 : Int), (loopV (tabL_t0_L0 (c0_0, l0_1, c0_2, l0_3, cutX_t0_V1 c0_0 (20 : Int), cutX_t0_V1 c0_2 (20 : Int))) ((0 : Int), (0 : Nat), [])).fst, cutX_t0_V1 c0_2 (20 : Int), (loopV (tabL_t0_L0 (c0_0, l0_1, c0_2, l0_3, cutX_t0_V1 c0_0 (20 : Int), cutX_t0_V1 c0_2 (20 : Int))) ((0 : Int), (0 : Nat), [])).snd)) ((0 : Int), (0 : Nat), []))
       (RT.br (((0 : Nat) + (loopV (tabL_t0_L0 (c0_0, l0_1, c0_2, l0_3, cutX_t0_V1 c0_0 (20 : Int), cutX_t0_V1 c0_2 (20 : Int))) ((0 : Int), (0 : Nat), [])).fst).ble (loopV (tabL_t0_L0 (c0_0, l0_1, c0_2, l0_3, cutX_t0_V1 c0_0 (20 : Int), cutX_t0_V1 c0_2 (20 : Int))) ((0 : Int), (0 : Nat), [])).snd.length && (((0 : Nat) + (loopV (tabL_t0_L2 (c0_0, l0_1, c0_2, l0_3, cutX_t0_V1 c0_0 (20 : Int), (loopV (tabL_t0_L0 (c0_0, l0_1, c0_2, l0_3, cutX_t0_V1 c0_0 (20 : Int), cutX_t0_V1 c0_2 (20 : Int))) ((0 : Int), (0 : Nat), [])).fst, cutX_t0_V1 c0_2 (20 : Int), (loopV (tabL_t0_L0 (c0_0, l0_1, c0_2, l0_3, cutX_t0_V1 c0_0 (20 : Int), cutX_t0_V1 c0_2 (20 : Int))) ((0 : Int), (0 : Nat), [])).snd)) ((0 : Int), (0 : Nat), [])).fst).ble (loopV (tabL_t0_L2 (c0_0, l0_1, c0_2, l0_3, cutX_t0_V1 c0_0 (20 : Int), (loopV (tabL_t0_L0 (c0_0, l0_1, c0_2, l0_3, cutX_t0_V1 c0_0 (20 : Int), cutX_t0_V1 c0_2 (20 : Int))) ((0 : Int), (0 : Nat), [])).fst, cutX_t0_V1 c0_2 (20 : Int), (loopV (tabL_t0_L0 (c0_0, l0_1, c0_2, l0_3, cutX_t0_V1 c0_0 (20 : Int), cutX_t0_V1 c0_2 (20 : Int))) ((0 : Int), (0 : Nat), [])).snd)) ((0 : Int), (0 : Nat), [])).snd.length && true) && true)
        (okL (AV.agg [AV.str (cutX_t0_V1 c0_0 (20 : Int)), AV.fz false shCol (List.take (loopV (tabL_t0_L0 (c0_0, l0_1, c0_2, l0_3, cutX_t0_V1 c0_0 (20 : Int), cutX_t0_V1 c0_2 (20 : Int))) ((0 : Int), (0 : Nat), [])).fst (List.drop (0 : Nat) (loopV (tabL_t0_L0 (c0_0, l0_1, c0_2, l0_3, cutX_t0_V1 c0_0 (20 : Int), cutX_t0_V1 c0_2 (20 : Int))) ((0 : Int), (0 : Nat), [])).snd)), AV.str (cutX_t0_V1 c0_2 (20 : Int)), AV.fz false shDep (List.take (loopV (tabL_t0_L2 (c0_0, l0_1, c0_2, l0_3, cutX_t0_V1 c0_0 (20 : Int), (loopV (tabL_t0_L0 (c0_0, l0_1, c0_2, l0_3, cutX_t0_V1 c0_0 (20 : Int), cutX_t0_V1 c0_2 (20 : Int))) ((0 : Int), (0 : Nat), [])).fst, cutX_t0_V1 c0_2 (20 : Int), (loopV (tabL_t0_L0 (c0_0, l0_1, c0_2, l0_3, cutX_t0_V1 c0_0 (20 : Int), cutX_t0_V1 c0_2 (20 : Int))) ((0 : Int), (0 : Nat), [])).snd)) ((0 : Int), (0 : Nat), [])).fst (List.drop (0 : Nat) (loopV (tabL_t0_L2 (c0_0, l0_1, c0_2, l0_3, cutX_t0_V1 c0_0 (20 : Int), (loopV (tabL_t0_L0 (c0_0, l0_1, c0_2, l0_3, cutX_t0_V1 c0_0 (20 : Int), cutX_t0_V1 c0_2 (20 : Int))) ((0 : Int), (0 : Nat), [])).fst, cutX_t0_V1 c0_2 (20 : Int), (loopV (tabL_t0_L0 (c0_0, l0_1, c0_2, l0_3, cutX_t0_V1 c0_0 (20 : Int), cutX_t0_V1 c0_2 (20 : Int))) ((0 : Int), (0 : Nat), [])).snd)) ((0 : Int), (0 : Nat), [])).snd))]) ([]))
        (RT.fail))
       (RT.fail))
      (RT.fail))
     (RT.fail))
    (RT.fail)
theorem tabL_t0r_b (c0_0 : List UInt8) (l0_1 : List D) (c0_2 : List UInt8) (l0_3 : List D) (K : AV → St → Prop) : bodyK Try.prog pathL_pr tabL_t0_L2_LP 100 41 [.data (.struct [.str, (.slice (.struct [.str, (.int .i64), .bool, .str])), .str, (.slice (.struct [(.slice .str), .str]))])] [(.agg [.str c0_0, .fz false (.struct [.str, (.int .i64), .bool, .str]) l0_1, .str c0_2, .fz false (.struct [(.slice .str), .str]) l0_3])] [] K = RT.K (fun v s _ => K v s) (tabL_t0r c0_0 l0_1 c0_2 l0_3) := by kernel_rfl
noncomputable def tabL_t0_V0 (c0_0 : List UInt8) (l0_1 : List D) (c0_2 : List UInt8) (l0_3 : List D) : Bool :=
  cutX_t0_V0 c0_0 (20 : Int) && (cutX_t0_V0 c0_2 (20 : Int) && (loopOk (tabL_t0_L0 (c0_0, l0_1, c0_2, l0_3, cutX_t0_V1 c0_0 (20 : Int), cutX_t0_V1 c0_2 (20 : Int))) ((0 : Int), (0 : Nat), []) && (loopOk (tabL_t0_L2 (c0_0, l0_1, c0_2, l0_3, cutX_t0_V1 c0_0 (20 : Int), (loopV (tabL_t0_L0 (c0_0, l0_1, c0_2, l0_3, cutX_t0_V1 c0_0 (20 : Int), cutX_t0_V1 c0_2 (20 : Int))) ((0 : Int), (0 : Nat), [])).fst, cutX_t0_V1 c0_2 (20 : Int), (loopV (tabL_t0_L0 (c0_0, l0_1, c0_2, l0_3, cutX_t0_V1 c0_0 (20 : Int), cutX_t0_V1 c0_2 (20 : Int))) ((0 : Int), (0 : Nat), [])).snd)) ((0 : Int), (0 : Nat), []) && (((0 : Nat) + (loopV (tabL_t0_L0 (c0_0, l0_1, c0_2, l0_3, cutX_t0_V1 c0_0 (20 : Int), cutX_t0_V1 c0_2 (20 : Int))) ((0 : Int), (0 : Nat), [])).fst).ble (loopV (tabL_t0_L0 (c0_0, l0_1, c0_2, l0_3, cutX_t0_V1 c0_0 (20 : Int), cutX_t0_V1 c0_2 (20 : Int))) ((0 : Int), (0 : Nat), [])).snd.length && (((0 : Nat) + (loopV (tabL_t0_L2 (c0_0, l0_1, c0_2, l0_3, cutX_t0_V1 c0_0 (20 : Int), (loopV (tabL_t0_L0 (c0_0, l0_1, c0_2, l0_3, cutX_t0_V1 c0_0 (20 : Int), cutX_t0_V1 c0_2 (20 : Int))) ((0 : Int), (0 : Nat), [])).fst, cutX_t0_V1 c0_2 (20 : Int), (loopV (tabL_t0_L0 (c0_0, l0_1, c0_2, l0_3, cutX_t0_V1 c0_0 (20 : Int), cutX_t0_V1 c0_2 (20 : Int))) ((0 : Int), (0 : Nat), [])).snd)) ((0 : Int), (0 : Nat), [])).fst).ble (loopV (tabL_t0_L2 (c0_0, l0_1, c0_2, l0_3, cutX_t0_V1 c0_0 (20 : Int), (loopV (tabL_t0_L0 (c0_0, l0_1, c0_2, l0_3, cutX_t0_V1 c0_0 (20 : Int), cutX_t0_V1 c0_2 (20 : Int))) ((0 : Int), (0 : Nat), [])).fst, cutX_t0_V1 c0_2 (20 : Int), (loopV (tabL_t0_L0 (c0_0, l0_1, c0_2, l0_3, cutX_t0_V1 c0_0 (20 : Int), cutX_t0_V1 c0_2 (20 : Int))) ((0 : Int), (0 : Nat), [])).snd)) ((0 : Int), (0 : Nat), [])).snd.length && true) && true && true))))
noncomputable def tabL_t0_V1 (c0_0 : List UInt8) (l0_1 : List D) (c0_2 : List UInt8) (l0_3 : List D) : List D :=
  List.take (loopV (tabL_t0_L0 (c0_0, l0_1, c0_2, l0_3, cutX_t0_V1 c0_0 (20 : Int), cutX_t0_V1 c0_2 (20 : Int))) ((0 : Int), (0 : Nat), [])).fst (List.drop (0 : Nat) (loopV (tabL_t0_L0 (c0_0, l0_1, c0_2, l0_3, cutX_t0_V1 c0_0 (20 : Int), cutX_t0_V1 c0_2 (20 : Int))) ((0 : Int), (0 : Nat), [])).snd)
noncomputable def tabL_t0_V2 (c0_0 : List UInt8) (l0_1 : List D) (c0_2 : List UInt8) (l0_3 : List D) : List D :=
  List.take (loopV (tabL_t0_L2 (c0_0, l0_1, c0_2, l0_3, cutX_t0_V1 c0_0 (20 : Int), (loopV (tabL_t0_L0 (c0_0, l0_1, c0_2, l0_3, cutX_t0_V1 c0_0 (20 : Int), cutX_t0_V1 c0_2 (20 : Int))) ((0 : Int), (0 : Nat), [])).fst, cutX_t0_V1 c0_2 (20 : Int), (loopV (tabL_t0_L0 (c0_0, l0_1, c0_2, l0_3, cutX_t0_V1 c0_0 (20 : Int), cutX_t0_V1 c0_2 (20 : Int))) ((0 : Int), (0 : Nat), [])).snd)) ((0 : Int), (0 : Nat), [])).fst (List.drop (0 : Nat) (loopV (tabL_t0_L2 (c0_0, l0_1, c0_2, l0_3, cutX_t0_V1 c0_0 (20 : Int), (loopV (tabL_t0_L0 (c0_0, l0_1, c0_2, l0_3, cutX_t0_V1 c0_0 (20 : Int), cutX_t0_V1 c0_2 (20 : Int))) ((0 : Int), (0 : Nat), [])).fst, cutX_t0_V1 c0_2 (20 : Int), (loopV (tabL_t0_L0 (c0_0, l0_1, c0_2, l0_3, cutX_t0_V1 c0_0 (20 : Int), cutX_t0_V1 c0_2 (20 : Int))) ((0 : Int), (0 : Nat), [])).snd)) ((0 : Int), (0 : Nat), [])).snd)
noncomputable def tabL_t0 (c0_0 : List UInt8) (l0_1 : List D) (c0_2 : List UInt8) (l0_3 : List D) : RT :=
  RT.br (tabL_t0_V0 c0_0 l0_1 c0_2 l0_3)
    (okL (Go.Sy.AV.agg [(Go.Sy.AV.str (cutX_t0_V1 c0_0 (20 : Int))), (Go.Sy.AV.fz (false) shCol (tabL_t0_V1 c0_0 l0_1 c0_2 l0_3)), (Go.Sy.AV.str (cutX_t0_V1 c0_2 (20 : Int))), (Go.Sy.AV.fz (false) shDep (tabL_t0_V2 c0_0 l0_1 c0_2 l0_3))]) [])
    (RT.fail)
theorem tabL_t0_m (c0_0 : List UInt8) (l0_1 : List D) (c0_2 : List UInt8) (l0_3 : List D) (K : AV → St → Prop) : RT.K (fun v s _ => K v s) (RT.mergeW ([]) (tabL_t0r c0_0 l0_1 c0_2 l0_3)) = RT.K (fun v s _ => K v s) (tabL_t0 c0_0 l0_1 c0_2 l0_3) := by kernel_rfl
theorem tabL_t0_b (c0_0 : List UInt8) (l0_1 : List D) (c0_2 : List UInt8) (l0_3 : List D) (K : AV → St → Prop) (h : RT.K (fun v s _ => K v s) (tabL_t0 c0_0 l0_1 c0_2 l0_3)) : bodyK Try.prog pathL_pr tabL_t0_L2_LP 100 41 [.data (.struct [.str, (.slice (.struct [.str, (.int .i64), .bool, .str])), .str, (.slice (.struct [(.slice .str), .str]))])] [(.agg [.str c0_0, .fz false (.struct [.str, (.int .i64), .bool, .str]) l0_1, .str c0_2, .fz false (.struct [(.slice .str), .str]) l0_3])] [] K := Eq.mpr (tabL_t0r_b ..) (mergeW_K (S := []) _ ⟨⟨⟨⟨⟨rfl, trivial⟩, trivial⟩, trivial⟩, trivial⟩, trivial⟩ (Eq.mpr (tabL_t0_m ..) h))
theorem tabL_t0_lp (hpr : PrOk Try.prog pathL_pr) : LoopsFor Try.prog 41 0 tabL_t0_L2_LP := (tabL_t0_L2_lp hpr)
noncomputable def tabL : Sy.Spec := ⟨[.data (.struct [.str, (.slice (.struct [.str, (.int .i64), .bool, .str])), .str, (.slice (.struct [(.slice .str), .str]))])], fun args s => match args, s with
  | [(.agg [(.str c0_0), (.fz false e_0 l0_1), (.str c0_2), (.fz false e_1 l0_3)])], [] => .br (Sh.beq e_0 shCol && (Sh.beq e_1 shDep && (true))) (tabL_t0 c0_0 l0_1 c0_2 l0_3) .fail
  | _, _ => .fail⟩
theorem tabL_ok : SpecOk Try.prog 41 tabL.f := specOk_comes fun args s v s' tch e => by
  simp only [tabL] at e
  split at e
  · obtain ⟨hg, e⟩ := if_run e
    simp only [Bool.and_eq_true] at hg
    obtain ⟨h_0, h_1, _⟩ := hg
    obtain rfl := Sh.beq_eq _ _ h_0
    obtain rfl := Sh.beq_eq _ _ h_1
    refine comes_of ok pathL_pr_k (L := 100) (ms := [.data (.struct [.str, (.slice (.struct [.str, (.int .i64), .bool, .str])), .str, (.slice (.struct [(.slice .str), .str]))])]) (by kernel_rfl) (tabL_t0_lp pathL_pr_k) ?_
    exact tabL_t0_b (h := K_run e) ..
  · cases e
noncomputable def tabL_pr : FuncId → Option Sy.Spec := addP 41 tabL pathL_pr
theorem tabL_pr_k : PrOk Try.prog tabL_pr := prOk_add tabL_ok pathL_pr_k
noncomputable def tabsL_t0_L0_T (l0 : List D) (n1 : Nat) (i2 : Int) (l3 : List D) : List AV := ([AV.fz false shTab l0, .any, .any, AV.tsl false shTab (0 : Nat) (0 : Nat) n1 Cap.tight, AV.int IntKind.i64 i2] ++ padAny 19)
noncomputable def tabsL_t0_L0_S (l0 : List D) (n1 : Nat) (i2 : Int) (l3 : List D) : St := [Ent.tbl false shTab l3]
noncomputable def tabsL_t0_L0_of : List AV → St → Option (((List D)) × (Nat × Int × (List D))) := fun t s => match t, s with
  | (.fz false e_0 l0) :: .any :: .any :: (.tsl false e_1 e_2 e_3 n1 .tight) :: (.int .i64 i2) :: t_0, [(.tbl false e_4 l3)] => (match dropAny 19 t_0 with
    | some ([]) => (match Sh.beq e_0 shTab && (Sh.beq e_1 shTab && (Nat.beq e_2 (0 : Nat) && (Nat.beq e_3 (0 : Nat) && (Sh.beq e_4 shTab && (true))))) with | true => some ((l0), (n1, i2, l3)) | false => none)
    | _ => none)
  | _, _ => none
noncomputable def tabsL_t0_L0_ex (i : (List D)) (y : Nat × (List D)) (k : KS) : Prop := let l0 := i; let ny6 := y.1; let ly7 := y.2; k (Ex.normal) ([.any, .any, .any, AV.tsl false shTab (0 : Nat) (0 : Nat) ny6 Cap.tight] ++ padAny 20) [Ent.tbl false shTab ly7]
theorem tabsL_t0_L0_of_ok : ∀ t s (i : (List D)) (x : Nat × Int × (List D)), tabsL_t0_L0_of t s = some (i, x) → t = tabsL_t0_L0_T i x.1 x.2.1 x.2.2 ∧ s = tabsL_t0_L0_S i x.1 x.2.1 x.2.2 := by
  intro t s i x h
  unfold tabsL_t0_L0_of at h
  split at h
  · split at h
    · rename_i ha
      obtain rfl := dropAny_eq ha
      split at h
      · rename_i hg
        cases h
        simp only [Bool.and_eq_true] at hg
        obtain ⟨h_0, h_1, h_2, h_3, h_4, _⟩ := hg
        obtain rfl := Sh.beq_eq _ _ h_0
        obtain rfl := Sh.beq_eq _ _ h_1
        obtain rfl := Nat.eq_of_beq_eq_true h_2
        obtain rfl := Nat.eq_of_beq_eq_true h_3
        obtain rfl := Sh.beq_eq _ _ h_4
        exact ⟨rfl, rfl⟩
      · cases h
    · cases h
  · cases h
noncomputable def tabsL_t0_L0_stp (l0 : List D) (n1 : Nat) (i2 : Int) (l3 : List D) : NT (Nat × Int × (List D)) (Nat × (List D)) :=
  NT.br (decide (i2 < (↑l0.length : Int)))
    (NT.br (decide (i2 < (12 : Int)))
     (NT.br (decide ((0 : Int) ≤ i2) && decide (i2 < (↑l0.length : Int)))
      (NT.br (tabL_t0_V0 ((l0.getD i2.toNat D.nul).fld (0 : Nat)).asStr ((l0.getD i2.toNat D.nul).fld (1 : Nat)).els ((l0.getD i2.toNat D.nul).fld (2 : Nat)).asStr ((l0.getD i2.toNat D.nul).fld (3 : Nat)).els)
       (NT.br ((((3 : Nat) * (n1 + (1 : Nat)) + (2000 : Nat)) * (80 : Nat)).ble (281474976710656 : Nat) && ((0 : Nat) + n1).ble l3.length)
        (NT.more (n1 + (1 : Nat), IntKind.i64.wrap (i2 + (1 : Int)), List.take n1 (List.drop (0 : Nat) l3) ++ [D.agg [D.str (cutX_t0_V1 ((l0.getD i2.toNat D.nul).fld (0 : Nat)).asStr (20 : Int)), D.list (tabL_t0_V1 ((l0.getD i2.toNat D.nul).fld (0 : Nat)).asStr ((l0.getD i2.toNat D.nul).fld (1 : Nat)).els ((l0.getD i2.toNat D.nul).fld (2 : Nat)).asStr ((l0.getD i2.toNat D.nul).fld (3 : Nat)).els), D.str (cutX_t0_V1 ((l0.getD i2.toNat D.nul).fld (2 : Nat)).asStr (20 : Int)), D.list (tabL_t0_V2 ((l0.getD i2.toNat D.nul).fld (0 : Nat)).asStr ((l0.getD i2.toNat D.nul).fld (1 : Nat)).els ((l0.getD i2.toNat D.nul).fld (2 : Nat)).asStr ((l0.getD i2.toNat D.nul).fld (3 : Nat)).els)]]))
        (NT.fail))
       (NT.fail))
      (NT.fail))
     (NT.done (n1, l3)))
    (NT.done (n1, l3))
noncomputable def tabsL_t0_L0 (i : (List D)) (x : Nat × Int × (List D)) := tabsL_t0_L0_stp i x.1 x.2.1 x.2.2
theorem tabsL_t0_L0_rd (l0 : List D) (n1 : Nat) (i2 : Int) (l3 : List D) (more : List AV → St → Prop) (kk : KS) : roundK Try.prog tabL_pr noL 100 12 0 (tabsL_t0_L0_T l0 n1 i2 l3) (tabsL_t0_L0_S l0 n1 i2 l3) (againK 0 0 [.yes, .no, .no, .bld shTab, .yes] [.no, .no, .yes, .bld shTab] more kk) = (tabsL_t0_L0_stp l0 n1 i2 l3).K (fun x' => more (tabsL_t0_L0_T l0 x'.1 x'.2.1 x'.2.2) (tabsL_t0_L0_S l0 x'.1 x'.2.1 x'.2.2)) (fun y => tabsL_t0_L0_ex (l0) y kk) := by kernel_rfl
noncomputable def tabsL_t0_L0_LP : Nat → Option LoopS := addL 0 (headG 0 [.yes, .no, .no, .bld shTab, .yes] (outL tabsL_t0_L0 tabsL_t0_L0_of tabsL_t0_L0_ex)) noL
theorem tabsL_t0_L0_lp (hpr : PrOk Try.prog tabL_pr) : LoopsFor Try.prog 12 0 tabsL_t0_L0_LP := loops_lp (L := 100) (T := fun i x => tabsL_t0_L0_T i x.1 x.2.1 x.2.2) (S := fun i x => tabsL_t0_L0_S i x.1 x.2.1 x.2.2) ok hpr (by kernel_rfl) loops_none tabsL_t0_L0_of_ok (fun i x more kk => tabsL_t0_L0_rd i x.1 x.2.1 x.2.2 more kk)
noncomputable def tabsL_t0r (l0 : List D) : RT :=
  RT.br (loopOk (tabsL_t0_L0 l0) ((0 : Nat), (0 : Int), []))
    (RT.br (((0 : Nat) + (loopV (tabsL_t0_L0 l0) ((0 : Nat), (0 : Int), [])).fst).ble (loopV (tabsL_t0_L0 l0) ((0 : Nat), (0 : Int), [])).snd.length && true)
     (okL (AV.fz false shTab (List.take (loopV (tabsL_t0_L0 l0) ((0 : Nat), (0 : Int), [])).fst (List.drop (0 : Nat) (loopV (tabsL_t0_L0 l0) ((0 : Nat), (0 : Int), [])).snd))) ([]))
     (RT.fail))
    (RT.fail)
theorem tabsL_t0r_b (l0 : List D) (K : AV → St → Prop) : bodyK Try.prog tabL_pr tabsL_t0_L0_LP 100 12 [.data (.slice (.struct [.str, (.slice (.struct [.str, (.int .i64), .bool, .str])), .str, (.slice (.struct [(.slice .str), .str]))]))] [.fz false (.struct [.str, (.slice (.struct [.str, (.int .i64), .bool, .str])), .str, (.slice (.struct [(.slice .str), .str]))]) l0] [] K = RT.K (fun v s _ => K v s) (tabsL_t0r l0) := by kernel_rfl
noncomputable def tabsL_t0_V0 (l0 : List D) : Bool :=
  loopOk (tabsL_t0_L0 l0) ((0 : Nat), (0 : Int), []) && (((0 : Nat) + (loopV (tabsL_t0_L0 l0) ((0 : Nat), (0 : Int), [])).fst).ble (loopV (tabsL_t0_L0 l0) ((0 : Nat), (0 : Int), [])).snd.length && true && true)
noncomputable def tabsL_t0_V1 (l0 : List D) : List D :=
  List.take (loopV (tabsL_t0_L0 l0) ((0 : Nat), (0 : Int), [])).fst (List.drop (0 : Nat) (loopV (tabsL_t0_L0 l0) ((0 : Nat), (0 : Int), [])).snd)
noncomputable def tabsL_t0 (l0 : List D) : RT :=
  RT.br (tabsL_t0_V0 l0)
    (okL (Go.Sy.AV.fz (false) shTab (tabsL_t0_V1 l0)) [])
    (RT.fail)
theorem tabsL_t0_m (l0 : List D) (K : AV → St → Prop) : RT.K (fun v s _ => K v s) (RT.mergeW ([]) (tabsL_t0r l0)) = RT.K (fun v s _ => K v s) (tabsL_t0 l0) := by kernel_rfl
theorem tabsL_t0_b (l0 : List D) (K : AV → St → Prop) (h : RT.K (fun v s _ => K v s) (tabsL_t0 l0)) : bodyK Try.prog tabL_pr tabsL_t0_L0_LP 100 12 [.data (.slice (.struct [.str, (.slice (.struct [.str, (.int .i64), .bool, .str])), .str, (.slice (.struct [(.slice .str), .str]))]))] [.fz false (.struct [.str, (.slice (.struct [.str, (.int .i64), .bool, .str])), .str, (.slice (.struct [(.slice .str), .str]))]) l0] [] K := Eq.mpr (tabsL_t0r_b ..) (mergeW_K (S := []) _ ⟨⟨rfl, trivial⟩, trivial⟩ (Eq.mpr (tabsL_t0_m ..) h))
theorem tabsL_t0_lp (hpr : PrOk Try.prog tabL_pr) : LoopsFor Try.prog 12 0 tabsL_t0_L0_LP := (tabsL_t0_L0_lp hpr)
noncomputable def tabsL : Sy.Spec := ⟨[.data (.slice (.struct [.str, (.slice (.struct [.str, (.int .i64), .bool, .str])), .str, (.slice (.struct [(.slice .str), .str]))]))], fun args s => match args, s with
  | [(.fz false e_0 l0)], [] => .br (Sh.beq e_0 shTab && (true)) (tabsL_t0 l0) .fail
  | _, _ => .fail⟩
theorem tabsL_ok : SpecOk Try.prog 12 tabsL.f := specOk_comes fun args s v s' tch e => by
  simp only [tabsL] at e
  split at e
  · obtain ⟨hg, e⟩ := if_run e
    simp only [Bool.and_eq_true] at hg
    obtain ⟨h_0, _⟩ := hg
    obtain rfl := Sh.beq_eq _ _ h_0
    refine comes_of ok tabL_pr_k (L := 100) (ms := [.data (.slice (.struct [.str, (.slice (.struct [.str, (.int .i64), .bool, .str])), .str, (.slice (.struct [(.slice .str), .str]))]))]) (by kernel_rfl) (tabsL_t0_lp tabL_pr_k) ?_
    exact tabsL_t0_b (h := K_run e) ..
  · cases e
noncomputable def tabsL_pr : FuncId → Option Sy.Spec := addP 12 tabsL tabL_pr
theorem tabsL_pr_k : PrOk Try.prog tabsL_pr := prOk_add tabsL_ok tabL_pr_k

end Go.Proofs.Ytekedhfmdpbplaa
