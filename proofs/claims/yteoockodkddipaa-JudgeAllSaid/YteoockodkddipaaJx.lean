/- Walks: rows of answers: the reference's, the program's own. -/
import Derived.Test.YteoockodkddipaaSyMg
import Derived.Test.YteoockodkddipaaJv
import Derived.KernelRfl
set_option linter.unusedSimpArgs false
set_option linter.unusedVariables false
set_option maxRecDepth 100000
namespace Go.Proofs.Yteoockodkddipaa
open Go Go.Sy
attribute [local irreducible] bodyK roundK cutK
noncomputable def pr_aaJx1 : FuncId → Option Sy.Spec := addP 33 valF noP
theorem pr_aaJx1_k : PrOk Try.prog pr_aaJx1 := prOk_add val_ok prOk_none
noncomputable def valsX_t0_L0_T (l0 : List D) (i1 : Int) (n2 : Nat) (i3 : Int) (l4 : List D) : List AV := ([AV.fz false shV l0, AV.int IntKind.i64 i1, .any, .any, .any, AV.tsl false shV (0 : Nat) (0 : Nat) n2 Cap.tight, AV.int IntKind.i64 i3] ++ padAny 20)
noncomputable def valsX_t0_L0_S (l0 : List D) (i1 : Int) (n2 : Nat) (i3 : Int) (l4 : List D) : St := [Ent.tbl false shV l4]
noncomputable def valsX_t0_L0_of : List AV → St → Option (((List D) × Int) × (Nat × Int × (List D))) := fun t s => match t, s with
  | (.fz false e_0 l0) :: (.int .i64 i1) :: .any :: .any :: .any :: (.tsl false e_1 e_2 e_3 n2 .tight) :: (.int .i64 i3) :: t_0, [(.tbl false e_4 l4)] => (match dropAny 20 t_0 with
    | some ([]) => (match Sh.beq e_0 shV && (Sh.beq e_1 shV && (Nat.beq e_2 (0 : Nat) && (Nat.beq e_3 (0 : Nat) && (Sh.beq e_4 shV && (true))))) with | true => some ((l0, i1), (n2, i3, l4)) | false => none)
    | _ => none)
  | _, _ => none
noncomputable def valsX_t0_L0_ex (i : (List D) × Int) (y : Nat × (List D)) (k : KS) : Prop := let l0 := i.1; let i1 := i.2; let ny7 := y.1; let ly8 := y.2; k (Ex.normal) ([.any, .any, .any, .any, .any, AV.tsl false shV (0 : Nat) (0 : Nat) ny7 Cap.tight] ++ padAny 21) [Ent.tbl false shV ly8]
theorem valsX_t0_L0_of_ok : ∀ t s (i : (List D) × Int) (x : Nat × Int × (List D)), valsX_t0_L0_of t s = some (i, x) → t = valsX_t0_L0_T i.1 i.2 x.1 x.2.1 x.2.2 ∧ s = valsX_t0_L0_S i.1 i.2 x.1 x.2.1 x.2.2 := by
  intro t s i x h
  unfold valsX_t0_L0_of at h
  split at h
  · split at h
    · rename_i ha
      obtain rfl := dropAny_eq ha
      split at h
      · rename_i hg
        cases h
        simp only [Bool.and_eq_true] at hg
        obtain ⟨h_0, h_1, h_2, h_3, h_4, _⟩ := hg
        obtain rfl := Sh.beq_eq _ _ h_0
        obtain rfl := Sh.beq_eq _ _ h_1
        obtain rfl := Nat.eq_of_beq_eq_true h_2
        obtain rfl := Nat.eq_of_beq_eq_true h_3
        obtain rfl := Sh.beq_eq _ _ h_4
        exact ⟨rfl, rfl⟩
      · cases h
    · cases h
  · cases h
noncomputable def valsX_t0_L0_stp (l0 : List D) (i1 : Int) (n2 : Nat) (i3 : Int) (l4 : List D) : NT (Nat × Int × (List D)) (Nat × (List D)) :=
  NT.br (decide (i3 < (↑l0.length : Int)))
    (NT.br (decide (i3 < i1))
     (NT.br (decide ((0 : Int) ≤ i3) && decide (i3 < (↑l0.length : Int)))
      (NT.br ((((3 : Nat) * (n2 + (1 : Nat)) + (2000 : Nat)) * (32 : Nat)).ble (281474976710656 : Nat) && ((0 : Nat) + n2).ble l4.length)
       (NT.more (n2 + (1 : Nat), IntKind.i64.wrap (i3 + (1 : Int)), List.take n2 (List.drop (0 : Nat) l4) ++ [D.agg [D.int ((l0.getD i3.toNat D.nul).fld (0 : Nat)).asInt, D.int ((l0.getD i3.toNat D.nul).fld (1 : Nat)).asInt, D.str (cutS ((l0.getD i3.toNat D.nul).fld (2 : Nat)).asStr (20 : Int))]]))
       (NT.fail))
      (NT.fail))
     (NT.done (n2, l4)))
    (NT.done (n2, l4))
noncomputable def valsX_t0_L0 (i : (List D) × Int) (x : Nat × Int × (List D)) := valsX_t0_L0_stp i.1 i.2 x.1 x.2.1 x.2.2
theorem valsX_t0_L0_rd (l0 : List D) (i1 : Int) (n2 : Nat) (i3 : Int) (l4 : List D) (more : List AV → St → Prop) (kk : KS) : roundK Try.prog pr_aaJx1 noL 100 8 0 (valsX_t0_L0_T l0 i1 n2 i3 l4) (valsX_t0_L0_S l0 i1 n2 i3 l4) (againK 0 0 [.yes, .yes, .no, .no, .no, .bld shV, .yes] [.no, .no, .no, .no, .yes, .bld shV] more kk) = (valsX_t0_L0_stp l0 i1 n2 i3 l4).K (fun x' => more (valsX_t0_L0_T l0 i1 x'.1 x'.2.1 x'.2.2) (valsX_t0_L0_S l0 i1 x'.1 x'.2.1 x'.2.2)) (fun y => valsX_t0_L0_ex (l0, i1) y kk) := by kernel_rfl
noncomputable def valsX_t0_L0_LP : Nat → Option LoopS := addL 0 (headG 0 [.yes, .yes, .no, .no, .no, .bld shV, .yes] (outL valsX_t0_L0 valsX_t0_L0_of valsX_t0_L0_ex)) noL
theorem valsX_t0_L0_lp (hpr : PrOk Try.prog pr_aaJx1) : LoopsFor Try.prog 8 0 valsX_t0_L0_LP := loops_lp (L := 100) (T := fun i x => valsX_t0_L0_T i.1 i.2 x.1 x.2.1 x.2.2) (S := fun i x => valsX_t0_L0_S i.1 i.2 x.1 x.2.1 x.2.2) ok hpr (by kernel_rfl) loops_none valsX_t0_L0_of_ok (fun i x more kk => valsX_t0_L0_rd i.1 i.2 x.1 x.2.1 x.2.2 more kk)
noncomputable def valsX_t0r (l : List D) (n : Int) : RT :=
  RT.br (loopOk (valsX_t0_L0 (l, n)) ((0 : Nat), (0 : Int), []))
    (okL (AV.tsl false shV (0 : Nat) (0 : Nat) (loopV (valsX_t0_L0 (l, n)) ((0 : Nat), (0 : Int), [])).fst Cap.tight) ([Ent.tbl false shV (loopV (valsX_t0_L0 (l, n)) ((0 : Nat), (0 : Int), [])).snd]))
    (RT.fail)
theorem valsX_t0r_b (l : List D) (n : Int) (K : AV → St → Prop) : bodyK Try.prog pr_aaJx1 valsX_t0_L0_LP 100 8 [.keep] [.fz false shV l, .int .i64 n] [] K = RT.K (fun v s _ => K v s) (valsX_t0r l n) := by kernel_rfl
noncomputable def valsX_t0_V0 (l : List D) (n : Int) : Bool :=
  loopOk (valsX_t0_L0 (l, n)) ((0 : Nat), (0 : Int), []) && true
noncomputable def valsX_t0_V1 (l : List D) (n : Int) : Nat :=
  (loopV (valsX_t0_L0 (l, n)) ((0 : Nat), (0 : Int), [])).fst
noncomputable def valsX_t0_V2 (l : List D) (n : Int) : List D :=
  (loopV (valsX_t0_L0 (l, n)) ((0 : Nat), (0 : Int), [])).snd
noncomputable def valsX_t0 (l : List D) (n : Int) : RT :=
  RT.br (valsX_t0_V0 l n)
    (okL (Go.Sy.AV.tsl (false) shV ((0 : Nat)) ((0 : Nat)) (valsX_t0_V1 l n) Go.Sy.Cap.tight) [(Go.Sy.Ent.tbl (false) shV (valsX_t0_V2 l n))])
    (RT.fail)
theorem valsX_t0_m (l : List D) (n : Int) (K : AV → St → Prop) : RT.K (fun v s _ => K v s) (RT.mergeW ([Ent.tbl false shV (loopV (valsX_t0_L0 (l, n)) ((0 : Nat), (0 : Int), [])).snd]) (valsX_t0r l n)) = RT.K (fun v s _ => K v s) (valsX_t0 l n) := by kernel_rfl
theorem valsX_t0_b (l : List D) (n : Int) (K : AV → St → Prop) (h : RT.K (fun v s _ => K v s) (valsX_t0 l n)) : bodyK Try.prog pr_aaJx1 valsX_t0_L0_LP 100 8 [.keep] [.fz false shV l, .int .i64 n] [] K := Eq.mpr (valsX_t0r_b ..) (mergeW_K (S := [Ent.tbl false shV (loopV (valsX_t0_L0 (l, n)) ((0 : Nat), (0 : Int), [])).snd]) _ ⟨rfl, trivial⟩ (Eq.mpr (valsX_t0_m ..) h))
theorem valsX_t0_lp (hpr : PrOk Try.prog pr_aaJx1) : LoopsFor Try.prog 8 0 valsX_t0_L0_LP := (valsX_t0_L0_lp hpr)
noncomputable def valsX : Sy.Spec := ⟨[.data (.slice shV), .keep], fun args s => match args, s with
  | [(.fz false e_0 l), (.int .i64 n)], [] => .br (Sh.beq e_0 shV && (true)) (valsX_t0 l n) .fail
  | _, _ => .fail⟩
theorem valsX_ok : SpecOk Try.prog 8 valsX.f := specOk_comes fun args s v s' tch e => by
  simp only [valsX] at e
  split at e
  · obtain ⟨hg, e⟩ := if_run e
    simp only [Bool.and_eq_true] at hg
    obtain ⟨h_0, _⟩ := hg
    obtain rfl := Sh.beq_eq _ _ h_0
    refine comes_of ok pr_aaJx1_k (L := 100) (ms := [.keep]) (by kernel_rfl) (valsX_t0_lp pr_aaJx1_k) ?_
    exact valsX_t0_b (h := K_run e) ..
  · cases e
noncomputable def valsX_pr : FuncId → Option Sy.Spec := addP 8 valsX pr_aaJx1
theorem valsX_pr_k : PrOk Try.prog valsX_pr := prOk_add valsX_ok pr_aaJx1_k
noncomputable def pr_aaJx2 : FuncId → Option Sy.Spec := addP 34 cmpF valsX_pr
theorem pr_aaJx2_k : PrOk Try.prog pr_aaJx2 := prOk_add cmp_ok valsX_pr_k
noncomputable def pr_aaJx3 : FuncId → Option Sy.Spec := addP 10 rowF pr_aaJx2
theorem pr_aaJx3_k : PrOk Try.prog pr_aaJx3 := prOk_add row_ok pr_aaJx2_k
noncomputable def pr_aaJx4 : FuncId → Option Sy.Spec := addP 60 cmpIF pr_aaJx3
theorem pr_aaJx4_k : PrOk Try.prog pr_aaJx4 := prOk_add cmpI_ok pr_aaJx3_k
noncomputable def pr_aaJx5 : FuncId → Option Sy.Spec := addP 59 or23F pr_aaJx4
theorem pr_aaJx5_k : PrOk Try.prog pr_aaJx5 := prOk_add or_ok pr_aaJx4_k
noncomputable def pr_aaJx6 : FuncId → Option Sy.Spec := addP 57 cmpF pr_aaJx5
theorem pr_aaJx6_k : PrOk Try.prog pr_aaJx6 := prOk_add pcmp_ok pr_aaJx5_k
noncomputable def pr_aaJx7 : FuncId → Option Sy.Spec := addP 35 rowF pr_aaJx6
theorem pr_aaJx7_k : PrOk Try.prog pr_aaJx7 := prOk_add prow_ok pr_aaJx6_k
noncomputable def rowsL_t0_L2_T (l2 : List D) (i3 : Int) (n13 : Nat) (i14 : Int) (l15 : List D) (n4 : Nat) (l5 : List D) (b6 : Bool) : List AV := ([AV.fz false (Sh.struct [Sh.int IntKind.i64, shV.slice]) l2, AV.int IntKind.i64 i3, .any, .any, .any, AV.tsl false (Sh.struct [Sh.int IntKind.i64, shV.slice]) (0 : Nat) (0 : Nat) n13 Cap.tight, AV.int IntKind.i64 i14, AV.tsl b6 shV (1 : Nat) (0 : Nat) n4 Cap.tight] ++ padAny 36)
noncomputable def rowsL_t0_L2_S (l2 : List D) (i3 : Int) (n13 : Nat) (i14 : Int) (l15 : List D) (n4 : Nat) (l5 : List D) (b6 : Bool) : St := [Ent.tbl false (Sh.struct [Sh.int IntKind.i64, shV.slice]) l15, Ent.tbl false shV l5]
noncomputable def rowsL_t0_L2_of : List AV → St → Option (((List D) × Int × Nat × Int × (List D)) × (Nat × (List D) × Bool)) := fun t s => match t, s with
  | (.fz false e_0 l2) :: (.int .i64 i3) :: .any :: .any :: .any :: (.tsl false e_1 e_2 e_3 n13 .tight) :: (.int .i64 i14) :: (.tsl b6 e_4 e_5 e_6 n4 .tight) :: t_0, [(.tbl false e_7 l15), (.tbl false e_8 l5)] => (match dropAny 36 t_0 with
    | some ([]) => (match Sh.beq e_0 (Sh.struct [Sh.int IntKind.i64, shV.slice]) && (Sh.beq e_1 (Sh.struct [Sh.int IntKind.i64, shV.slice]) && (Nat.beq e_2 (0 : Nat) && (Nat.beq e_3 (0 : Nat) && (Sh.beq e_4 shV && (Nat.beq e_5 (1 : Nat) && (Nat.beq e_6 (0 : Nat) && (Sh.beq e_7 (Sh.struct [Sh.int IntKind.i64, shV.slice]) && (Sh.beq e_8 shV && (true))))))))) with | true => some ((l2, i3, n13, i14, l15), (n4, l5, b6)) | false => none)
    | _ => none)
  | _, _ => none
noncomputable def rowsL_t0_L2_ex (i : (List D) × Int × Nat × Int × (List D)) (y : Bool × Nat × (List D)) (k : KS) : Prop := let l2 := i.1; let i3 := i.2.1; let n13 := i.2.2.1; let i14 := i.2.2.2.1; let l15 := i.2.2.2.2; let by21 := y.1; let ny22 := y.2.1; let ly23 := y.2.2; k (Ex.normal) ([AV.fz false (Sh.struct [Sh.int IntKind.i64, shV.slice]) l2, AV.int IntKind.i64 i3, .any, .any, .any, AV.tsl false (Sh.struct [Sh.int IntKind.i64, shV.slice]) (0 : Nat) (0 : Nat) n13 Cap.tight, AV.int IntKind.i64 i14, AV.tsl by21 shV (1 : Nat) (0 : Nat) ny22 Cap.tight] ++ padAny 36) [Ent.tbl false (Sh.struct [Sh.int IntKind.i64, shV.slice]) l15, Ent.tbl false shV ly23]
theorem rowsL_t0_L2_of_ok : ∀ t s (i : (List D) × Int × Nat × Int × (List D)) (x : Nat × (List D) × Bool), rowsL_t0_L2_of t s = some (i, x) → t = rowsL_t0_L2_T i.1 i.2.1 i.2.2.1 i.2.2.2.1 i.2.2.2.2 x.1 x.2.1 x.2.2 ∧ s = rowsL_t0_L2_S i.1 i.2.1 i.2.2.1 i.2.2.2.1 i.2.2.2.2 x.1 x.2.1 x.2.2 := by
  intro t s i x h
  unfold rowsL_t0_L2_of at h
  split at h
  · split at h
    · rename_i ha
      obtain rfl := dropAny_eq ha
      split at h
      · rename_i hg
        cases h
        simp only [Bool.and_eq_true] at hg
        obtain ⟨h_0, h_1, h_2, h_3, h_4, h_5, h_6, h_7, h_8, _⟩ := hg
        obtain rfl := Sh.beq_eq _ _ h_0
        obtain rfl := Sh.beq_eq _ _ h_1
        obtain rfl := Nat.eq_of_beq_eq_true h_2
        obtain rfl := Nat.eq_of_beq_eq_true h_3
        obtain rfl := Sh.beq_eq _ _ h_4
        obtain rfl := Nat.eq_of_beq_eq_true h_5
        obtain rfl := Nat.eq_of_beq_eq_true h_6
        obtain rfl := Sh.beq_eq _ _ h_7
        obtain rfl := Sh.beq_eq _ _ h_8
        exact ⟨rfl, rfl⟩
      · cases h
    · cases h
  · cases h
noncomputable def rowsL_t0_L2_stp (l2 : List D) (i3 : Int) (n13 : Nat) (i14 : Int) (l15 : List D) (n4 : Nat) (l5 : List D) (b6 : Bool) : NT (Nat × (List D) × Bool) (Bool × Nat × (List D)) :=
  NT.br (decide ((↑n4 : Int) < i3))
    (NT.br ((((3 : Nat) * (n4 + (1 : Nat)) + (2000 : Nat)) * (32 : Nat)).ble (281474976710656 : Nat) && ((0 : Nat) + n4).ble l5.length)
     (NT.more (n4 + (1 : Nat), List.take n4 (List.drop (0 : Nat) l5) ++ [D.agg [D.int (0 : Int), D.int (0 : Int), D.str []]], b6 || true))
     (NT.fail))
    (NT.done (b6, n4, l5))
noncomputable def rowsL_t0_L2 (i : (List D) × Int × Nat × Int × (List D)) (x : Nat × (List D) × Bool) := rowsL_t0_L2_stp i.1 i.2.1 i.2.2.1 i.2.2.2.1 i.2.2.2.2 x.1 x.2.1 x.2.2
theorem rowsL_t0_L2_rd (l2 : List D) (i3 : Int) (n13 : Nat) (i14 : Int) (l15 : List D) (n4 : Nat) (l5 : List D) (b6 : Bool) (more : List AV → St → Prop) (kk : KS) : roundK Try.prog pr_aaJx7 noL 100 7 2 (rowsL_t0_L2_T l2 i3 n13 i14 l15 n4 l5 b6) (rowsL_t0_L2_S l2 i3 n13 i14 l15 n4 l5 b6) (againK 0 2 [.yes, .yes, .no, .no, .no, .yes, .yes, .yes] [.yes, .yes, .no, .no, .yes, .yes, .yes, .yes] more kk) = (rowsL_t0_L2_stp l2 i3 n13 i14 l15 n4 l5 b6).K (fun x' => more (rowsL_t0_L2_T l2 i3 n13 i14 l15 x'.1 x'.2.1 x'.2.2) (rowsL_t0_L2_S l2 i3 n13 i14 l15 x'.1 x'.2.1 x'.2.2)) (fun y => rowsL_t0_L2_ex (l2, i3, n13, i14, l15) y kk) := by kernel_rfl
noncomputable def rowsL_t0_L2_LP : Nat → Option LoopS := addL 2 (headG 0 [.yes, .yes, .no, .no, .no, .yes, .yes, .yes] (outL rowsL_t0_L2 rowsL_t0_L2_of rowsL_t0_L2_ex)) noL
theorem rowsL_t0_L2_lp (hpr : PrOk Try.prog pr_aaJx7) : LoopsFor Try.prog 7 0 rowsL_t0_L2_LP := loops_lp (L := 100) (T := fun i x => rowsL_t0_L2_T i.1 i.2.1 i.2.2.1 i.2.2.2.1 i.2.2.2.2 x.1 x.2.1 x.2.2) (S := fun i x => rowsL_t0_L2_S i.1 i.2.1 i.2.2.1 i.2.2.2.1 i.2.2.2.2 x.1 x.2.1 x.2.2) ok hpr (by kernel_rfl) loops_none rowsL_t0_L2_of_ok (fun i x more kk => rowsL_t0_L2_rd i.1 i.2.1 i.2.2.1 i.2.2.2.1 i.2.2.2.2 x.1 x.2.1 x.2.2 more kk)
noncomputable def rowsL_t0_L0_T (l0 : List D) (i1 : Int) (n10 : Nat) (i11 : Int) (l12 : List D) : List AV := ([AV.fz false (Sh.struct [Sh.int IntKind.i64, shV.slice]) l0, AV.int IntKind.i64 i1, .any, .any, .any, AV.tsl false (Sh.struct [Sh.int IntKind.i64, shV.slice]) (0 : Nat) (0 : Nat) n10 Cap.tight, AV.int IntKind.i64 i11] ++ padAny 37)
noncomputable def rowsL_t0_L0_S (l0 : List D) (i1 : Int) (n10 : Nat) (i11 : Int) (l12 : List D) : St := [Ent.tbl false (Sh.struct [Sh.int IntKind.i64, shV.slice]) l12]
noncomputable def rowsL_t0_L0_of : List AV → St → Option (((List D) × Int) × (Nat × Int × (List D))) := fun t s => match t, s with
  | (.fz false e_0 l0) :: (.int .i64 i1) :: .any :: .any :: .any :: (.tsl false e_1 e_2 e_3 n10 .tight) :: (.int .i64 i11) :: t_0, [(.tbl false e_4 l12)] => (match dropAny 37 t_0 with
    | some ([]) => (match Sh.beq e_0 (Sh.struct [Sh.int IntKind.i64, shV.slice]) && (Sh.beq e_1 (Sh.struct [Sh.int IntKind.i64, shV.slice]) && (Nat.beq e_2 (0 : Nat) && (Nat.beq e_3 (0 : Nat) && (Sh.beq e_4 (Sh.struct [Sh.int IntKind.i64, shV.slice]) && (true))))) with | true => some ((l0, i1), (n10, i11, l12)) | false => none)
    | _ => none)
  | _, _ => none
noncomputable def rowsL_t0_L0_ex (i : (List D) × Int) (y : Nat × (List D)) (k : KS) : Prop := let l0 := i.1; let i1 := i.2; let ny24 := y.1; let ly25 := y.2; k (Ex.normal) ([.any, .any, .any, .any, .any, AV.tsl false (Sh.struct [Sh.int IntKind.i64, shV.slice]) (0 : Nat) (0 : Nat) ny24 Cap.tight] ++ padAny 38) [Ent.tbl false (Sh.struct [Sh.int IntKind.i64, shV.slice]) ly25]
theorem rowsL_t0_L0_of_ok : ∀ t s (i : (List D) × Int) (x : Nat × Int × (List D)), rowsL_t0_L0_of t s = some (i, x) → t = rowsL_t0_L0_T i.1 i.2 x.1 x.2.1 x.2.2 ∧ s = rowsL_t0_L0_S i.1 i.2 x.1 x.2.1 x.2.2 := by
  intro t s i x h
  unfold rowsL_t0_L0_of at h
  split at h
  · split at h
    · rename_i ha
      obtain rfl := dropAny_eq ha
      split at h
      · rename_i hg
        cases h
        simp only [Bool.and_eq_true] at hg
        obtain ⟨h_0, h_1, h_2, h_3, h_4, _⟩ := hg
        obtain rfl := Sh.beq_eq _ _ h_0
        obtain rfl := Sh.beq_eq _ _ h_1
        obtain rfl := Nat.eq_of_beq_eq_true h_2
        obtain rfl := Nat.eq_of_beq_eq_true h_3
        obtain rfl := Sh.beq_eq _ _ h_4
        exact ⟨rfl, rfl⟩
      · cases h
    · cases h
  · cases h
noncomputable def rowsL_t0_L0_stp (l0 : List D) (i1 : Int) (n10 : Nat) (i11 : Int) (l12 : List D) : NT (Nat × Int × (List D)) (Nat × (List D)) :=
  NT.br (decide (i11 < (↑l0.length : Int)))
    (NT.br (decide (i11 < (15 : Int)))
     (NT.br (decide ((0 : Int) ≤ i11) && decide (i11 < (↑l0.length : Int)))
      (NT.br (valsX_t0_V0 ((l0.getD i11.toNat D.nul).fld (1 : Nat)).els i1)
       (NT.br (loopOk (rowsL_t0_L2 (l0, i1, n10, i11, l12)) (valsX_t0_V1 ((l0.getD i11.toNat D.nul).fld (1 : Nat)).els i1, valsX_t0_V2 ((l0.getD i11.toNat D.nul).fld (1 : Nat)).els i1, false))
        (NT.br (decide ((0 : Int) ≤ i11) && decide (i11 < (↑l0.length : Int)))
         (NT.br (((0 : Nat) + (loopV (rowsL_t0_L2 (l0, i1, n10, i11, l12)) (valsX_t0_V1 ((l0.getD i11.toNat D.nul).fld (1 : Nat)).els i1, valsX_t0_V2 ((l0.getD i11.toNat D.nul).fld (1 : Nat)).els i1, false)).snd.fst).ble (loopV (rowsL_t0_L2 (l0, i1, n10, i11, l12)) (valsX_t0_V1 ((l0.getD i11.toNat D.nul).fld (1 : Nat)).els i1, valsX_t0_V2 ((l0.getD i11.toNat D.nul).fld (1 : Nat)).els i1, false)).snd.snd.length && true && true && (((3 : Nat) * (n10 + (1 : Nat)) + (2000 : Nat)) * (32 : Nat)).ble (281474976710656 : Nat) && ((0 : Nat) + n10).ble l12.length)
          (NT.more (n10 + (1 : Nat), IntKind.i64.wrap (i11 + (1 : Int)), List.take n10 (List.drop (0 : Nat) l12) ++ [D.agg [D.int ((l0.getD i11.toNat D.nul).fld (0 : Nat)).asInt, D.list (List.take (loopV (rowsL_t0_L2 (l0, i1, n10, i11, l12)) (valsX_t0_V1 ((l0.getD i11.toNat D.nul).fld (1 : Nat)).els i1, valsX_t0_V2 ((l0.getD i11.toNat D.nul).fld (1 : Nat)).els i1, false)).snd.fst (List.drop (0 : Nat) (loopV (rowsL_t0_L2 (l0, i1, n10, i11, l12)) (valsX_t0_V1 ((l0.getD i11.toNat D.nul).fld (1 : Nat)).els i1, valsX_t0_V2 ((l0.getD i11.toNat D.nul).fld (1 : Nat)).els i1, false)).snd.snd))]]))
          (NT.fail))
         (NT.fail))
        (NT.fail))
       (NT.fail))
      (NT.fail))
     (NT.done (n10, l12)))
    (NT.done (n10, l12))
noncomputable def rowsL_t0_L0 (i : (List D) × Int) (x : Nat × Int × (List D)) := rowsL_t0_L0_stp i.1 i.2 x.1 x.2.1 x.2.2
theorem rowsL_t0_L0_rd (l0 : List D) (i1 : Int) (n10 : Nat) (i11 : Int) (l12 : List D) (more : List AV → St → Prop) (kk : KS) : roundK Try.prog pr_aaJx7 rowsL_t0_L2_LP 100 7 0 (rowsL_t0_L0_T l0 i1 n10 i11 l12) (rowsL_t0_L0_S l0 i1 n10 i11 l12) (againK 0 0 [.yes, .yes, .no, .no, .no, .bld (Sh.struct [Sh.int IntKind.i64, shV.slice]), .yes] [.no, .no, .no, .no, .yes, .bld (Sh.struct [Sh.int IntKind.i64, shV.slice])] more kk) = (rowsL_t0_L0_stp l0 i1 n10 i11 l12).K (fun x' => more (rowsL_t0_L0_T l0 i1 x'.1 x'.2.1 x'.2.2) (rowsL_t0_L0_S l0 i1 x'.1 x'.2.1 x'.2.2)) (fun y => rowsL_t0_L0_ex (l0, i1) y kk) := by kernel_rfl
noncomputable def rowsL_t0_L0_LP : Nat → Option LoopS := addL 0 (headG 0 [.yes, .yes, .no, .no, .no, .bld (Sh.struct [Sh.int IntKind.i64, shV.slice]), .yes] (outL rowsL_t0_L0 rowsL_t0_L0_of rowsL_t0_L0_ex)) rowsL_t0_L2_LP
theorem rowsL_t0_L0_lp (hpr : PrOk Try.prog pr_aaJx7) : LoopsFor Try.prog 7 0 rowsL_t0_L0_LP := loops_lp (L := 100) (T := fun i x => rowsL_t0_L0_T i.1 i.2 x.1 x.2.1 x.2.2) (S := fun i x => rowsL_t0_L0_S i.1 i.2 x.1 x.2.1 x.2.2) ok hpr (by kernel_rfl) (rowsL_t0_L2_lp hpr) rowsL_t0_L0_of_ok (fun i x more kk => rowsL_t0_L0_rd i.1 i.2 x.1 x.2.1 x.2.2 more kk)
noncomputable def rowsL_t0r (l0 : List D) (i1 : Int) : RT :=
  RT.br (loopOk (rowsL_t0_L0 (l0, i1)) ((0 : Nat), (0 : Int), []))
    (RT.br (((0 : Nat) + (loopV (rowsL_t0_L0 (l0, i1)) ((0 : Nat), (0 : Int), [])).fst).ble (loopV (rowsL_t0_L0 (l0, i1)) ((0 : Nat), (0 : Int), [])).snd.length && true)
     (okL (AV.fz false (Sh.struct [Sh.int IntKind.i64, shV.slice]) (List.take (loopV (rowsL_t0_L0 (l0, i1)) ((0 : Nat), (0 : Int), [])).fst (List.drop (0 : Nat) (loopV (rowsL_t0_L0 (l0, i1)) ((0 : Nat), (0 : Int), [])).snd))) ([]))
     (RT.fail))
    (RT.fail)
theorem rowsL_t0r_b (l0 : List D) (i1 : Int) (K : AV → St → Prop) : bodyK Try.prog pr_aaJx7 rowsL_t0_L0_LP 100 7 [.data (.slice (.struct [(.int .i64), (.slice (.struct [(.int .i64), (.int .i64), .str]))]))] [.fz false (.struct [(.int .i64), (.slice (.struct [(.int .i64), (.int .i64), .str]))]) l0, .int .i64 i1] [] K = RT.K (fun v s _ => K v s) (rowsL_t0r l0 i1) := by kernel_rfl
noncomputable def rowsL_t0_V0 (l0 : List D) (i1 : Int) : Bool :=
  loopOk (rowsL_t0_L0 (l0, i1)) ((0 : Nat), (0 : Int), []) && (((0 : Nat) + (loopV (rowsL_t0_L0 (l0, i1)) ((0 : Nat), (0 : Int), [])).fst).ble (loopV (rowsL_t0_L0 (l0, i1)) ((0 : Nat), (0 : Int), [])).snd.length && true && true)
noncomputable def rowsL_t0_V1 (l0 : List D) (i1 : Int) : List D :=
  List.take (loopV (rowsL_t0_L0 (l0, i1)) ((0 : Nat), (0 : Int), [])).fst (List.drop (0 : Nat) (loopV (rowsL_t0_L0 (l0, i1)) ((0 : Nat), (0 : Int), [])).snd)
noncomputable def rowsL_t0 (l0 : List D) (i1 : Int) : RT :=
  RT.br (rowsL_t0_V0 l0 i1)
    (okL (Go.Sy.AV.fz (false) (Sh.struct [Sh.int IntKind.i64, shV.slice]) (rowsL_t0_V1 l0 i1)) [])
    (RT.fail)
theorem rowsL_t0_m (l0 : List D) (i1 : Int) (K : AV → St → Prop) : RT.K (fun v s _ => K v s) (RT.mergeW ([]) (rowsL_t0r l0 i1)) = RT.K (fun v s _ => K v s) (rowsL_t0 l0 i1) := by kernel_rfl
theorem rowsL_t0_b (l0 : List D) (i1 : Int) (K : AV → St → Prop) (h : RT.K (fun v s _ => K v s) (rowsL_t0 l0 i1)) : bodyK Try.prog pr_aaJx7 rowsL_t0_L0_LP 100 7 [.data (.slice (.struct [(.int .i64), (.slice (.struct [(.int .i64), (.int .i64), .str]))]))] [.fz false (.struct [(.int .i64), (.slice (.struct [(.int .i64), (.int .i64), .str]))]) l0, .int .i64 i1] [] K := Eq.mpr (rowsL_t0r_b ..) (mergeW_K (S := []) _ ⟨⟨rfl, trivial⟩, trivial⟩ (Eq.mpr (rowsL_t0_m ..) h))
theorem rowsL_t0_lp (hpr : PrOk Try.prog pr_aaJx7) : LoopsFor Try.prog 7 0 rowsL_t0_L0_LP := (rowsL_t0_L0_lp hpr)
noncomputable def rowsL : Sy.Spec := ⟨[.data (.slice (.struct [(.int .i64), (.slice (.struct [(.int .i64), (.int .i64), .str]))])), .keep], fun args s => match args, s with
  | [(.fz false e_0 l0), (.int .i64 i1)], [] => .br (Sh.beq e_0 (Sh.struct [Sh.int IntKind.i64, shV.slice]) && (true)) (rowsL_t0 l0 i1) .fail
  | _, _ => .fail⟩
theorem rowsL_ok : SpecOk Try.prog 7 rowsL.f := specOk_comes fun args s v s' tch e => by
  simp only [rowsL] at e
  split at e
  · obtain ⟨hg, e⟩ := if_run e
    simp only [Bool.and_eq_true] at hg
    obtain ⟨h_0, _⟩ := hg
    obtain rfl := Sh.beq_eq _ _ h_0
    refine comes_of ok pr_aaJx7_k (L := 100) (ms := [.data (.slice (.struct [(.int .i64), (.slice (.struct [(.int .i64), (.int .i64), .str]))]))]) (by kernel_rfl) (rowsL_t0_lp pr_aaJx7_k) ?_
    exact rowsL_t0_b (h := K_run e) ..
  · cases e
noncomputable def rowsL_pr : FuncId → Option Sy.Spec := addP 7 rowsL pr_aaJx7
theorem rowsL_pr_k : PrOk Try.prog rowsL_pr := prOk_add rowsL_ok pr_aaJx7_k
noncomputable def eqrR_t0_L0_T (l0 : List D) (l1 : List D) (i2 : Int) : List AV := ([AV.fz false (Sh.struct [Sh.int IntKind.i64, shV.slice]) l0, AV.fz false (Sh.struct [Sh.int IntKind.i64, shV.slice]) l1, .any, .any, .any, AV.int IntKind.i64 i2] ++ padAny 36)
noncomputable def eqrR_t0_L0_S (l0 : List D) (l1 : List D) (i2 : Int) : St := []
noncomputable def eqrR_t0_L0_of : List AV → St → Option (((List D) × (List D)) × (Int)) := fun t s => match t, s with
  | (.fz false e_0 l0) :: (.fz false e_1 l1) :: .any :: .any :: .any :: (.int .i64 i2) :: t_0, [] => (match dropAny 36 t_0 with
    | some ([]) => (match Sh.beq e_0 (Sh.struct [Sh.int IntKind.i64, shV.slice]) && (Sh.beq e_1 (Sh.struct [Sh.int IntKind.i64, shV.slice]) && (true)) with | true => some ((l0, l1), (i2)) | false => none)
    | _ => none)
  | _, _ => none
noncomputable def eqrR_t0_L0_ex (i : (List D) × (List D)) (y : Nat) (k : KS) : Prop := let l0 := i.1; let l1 := i.2; let tag := y; br (Nat.beq tag 0) (k (Ex.ret) ([.any, .any, .any, .any, AV.bool false] ++ padAny 37) []) (br (Nat.beq tag 1) (k (Ex.normal) ([.any] ++ padAny 41) []) (False))
theorem eqrR_t0_L0_of_ok : ∀ t s (i : (List D) × (List D)) (x : Int), eqrR_t0_L0_of t s = some (i, x) → t = eqrR_t0_L0_T i.1 i.2 x ∧ s = eqrR_t0_L0_S i.1 i.2 x := by
  intro t s i x h
  unfold eqrR_t0_L0_of at h
  split at h
  · split at h
    · rename_i ha
      obtain rfl := dropAny_eq ha
      split at h
      · rename_i hg
        cases h
        simp only [Bool.and_eq_true] at hg
        obtain ⟨h_0, h_1, _⟩ := hg
        obtain rfl := Sh.beq_eq _ _ h_0
        obtain rfl := Sh.beq_eq _ _ h_1
        exact ⟨rfl, rfl⟩
      · cases h
    · cases h
  · cases h
noncomputable def eqrR_t0_L0_stp (l0 : List D) (l1 : List D) (i2 : Int) : NT (Int) (Nat) :=
  NT.br (decide (i2 < (↑l0.length : Int)))
    (NT.br (decide ((0 : Int) ≤ i2) && decide (i2 < (↑l0.length : Int)))
     (NT.br (decide ((0 : Int) ≤ i2) && decide (i2 < (↑l1.length : Int)))
      (NT.br (!decide (((l0.getD i2.toNat D.nul).fld (0 : Nat)).asInt = ((l1.getD i2.toNat D.nul).fld (0 : Nat)).asInt))
       (NT.done (0))
       (NT.br (decide ((0 : Int) ≤ i2) && decide (i2 < (↑l0.length : Int)))
        (NT.br (decide ((0 : Int) ≤ i2) && decide (i2 < (↑l1.length : Int)))
         (NT.br (decide (((l0.getD i2.toNat D.nul).fld (1 : Nat)).els.length < (4611686018427387904 : Nat)))
          (NT.br (!decide (rowD ((l0.getD i2.toNat D.nul).fld (1 : Nat)).els ((l1.getD i2.toNat D.nul).fld (1 : Nat)).els = (0 : Int)))
           (NT.done (0))
           (NT.more (IntKind.i64.wrap (i2 + (1 : Int)))))
          (NT.fail))
         (NT.fail))
        (NT.fail)))
      (NT.fail))
     (NT.fail))
    (NT.done (1))
noncomputable def eqrR_t0_L0 (i : (List D) × (List D)) (x : Int) := eqrR_t0_L0_stp i.1 i.2 x
theorem eqrR_t0_L0_rd (l0 : List D) (l1 : List D) (i2 : Int) (more : List AV → St → Prop) (kk : KS) : roundK Try.prog rowsL_pr noL 100 13 0 (eqrR_t0_L0_T l0 l1 i2) (eqrR_t0_L0_S l0 l1 i2) (againK 0 0 [.yes, .yes, .no, .no, .no, .yes] [.no, .no, .no, .no, .yes] more kk) = (eqrR_t0_L0_stp l0 l1 i2).K (fun x' => more (eqrR_t0_L0_T l0 l1 x') (eqrR_t0_L0_S l0 l1 x')) (fun y => eqrR_t0_L0_ex (l0, l1) y kk) := by kernel_rfl
noncomputable def eqrR_t0_L0_LP : Nat → Option LoopS := addL 0 (headG 0 [.yes, .yes, .no, .no, .no, .yes] (outL eqrR_t0_L0 eqrR_t0_L0_of eqrR_t0_L0_ex)) noL
theorem eqrR_t0_L0_lp (hpr : PrOk Try.prog rowsL_pr) : LoopsFor Try.prog 13 0 eqrR_t0_L0_LP := loops_lp (L := 100) (T := fun i x => eqrR_t0_L0_T i.1 i.2 x) (S := fun i x => eqrR_t0_L0_S i.1 i.2 x) ok hpr (by kernel_rfl) loops_none eqrR_t0_L0_of_ok (fun i x more kk => eqrR_t0_L0_rd i.1 i.2 x more kk)
noncomputable def eqrR_t0r (l0 : List D) (l1 : List D) : RT :=
  RT.br (!decide ((↑l0.length : Int) = (↑l1.length : Int)))
    (okL (AV.bool false) ([]))
    (RT.br (loopOk (eqrR_t0_L0 (l0, l1)) (0 : Int))
     (RT.br ((loopV (eqrR_t0_L0 (l0, l1)) (0 : Int)).beq (0 : Nat))
      (okL (AV.bool false) ([]))
      (RT.br ((loopV (eqrR_t0_L0 (l0, l1)) (0 : Int)).beq (1 : Nat))
       (okL (AV.bool true) ([]))
       (RT.fail)))
     (RT.fail))
theorem eqrR_t0r_b (l0 : List D) (l1 : List D) (K : AV → St → Prop) : bodyK Try.prog rowsL_pr eqrR_t0_L0_LP 100 13 [] [.fz false (.struct [(.int .i64), (.slice (.struct [(.int .i64), (.int .i64), .str]))]) l0, .fz false (.struct [(.int .i64), (.slice (.struct [(.int .i64), (.int .i64), .str]))]) l1] [] K = RT.K (fun v s _ => K v s) (eqrR_t0r l0 l1) := by kernel_rfl
noncomputable def eqrR_t0_V0 (l0 : List D) (l1 : List D) : Bool :=
  bif !decide ((↑l0.length : Int) = (↑l1.length : Int)) then true else loopOk (eqrR_t0_L0 (l0, l1)) (0 : Int) && bif (loopV (eqrR_t0_L0 (l0, l1)) (0 : Int)).beq (0 : Nat) then true else (loopV (eqrR_t0_L0 (l0, l1)) (0 : Int)).beq (1 : Nat) && true
noncomputable def eqrR_t0_V1 (l0 : List D) (l1 : List D) : Bool :=
  bif !decide ((↑l0.length : Int) = (↑l1.length : Int)) then false else bif (loopV (eqrR_t0_L0 (l0, l1)) (0 : Int)).beq (0 : Nat) then false else true
noncomputable def eqrR_t0 (l0 : List D) (l1 : List D) : RT :=
  RT.br (eqrR_t0_V0 l0 l1)
    (okL (Go.Sy.AV.bool (eqrR_t0_V1 l0 l1)) [])
    (RT.fail)
theorem eqrR_t0_m (l0 : List D) (l1 : List D) (K : AV → St → Prop) : RT.K (fun v s _ => K v s) (RT.mergeW ([]) (eqrR_t0r l0 l1)) = RT.K (fun v s _ => K v s) (eqrR_t0 l0 l1) := by kernel_rfl
theorem eqrR_t0_b (l0 : List D) (l1 : List D) (K : AV → St → Prop) (h : RT.K (fun v s _ => K v s) (eqrR_t0 l0 l1)) : bodyK Try.prog rowsL_pr eqrR_t0_L0_LP 100 13 [] [.fz false (.struct [(.int .i64), (.slice (.struct [(.int .i64), (.int .i64), .str]))]) l0, .fz false (.struct [(.int .i64), (.slice (.struct [(.int .i64), (.int .i64), .str]))]) l1] [] K := Eq.mpr (eqrR_t0r_b ..) (mergeW_K (S := []) _ ⟨rfl, ⟨⟨rfl, ⟨rfl, trivial⟩⟩, trivial⟩⟩ (Eq.mpr (eqrR_t0_m ..) h))
theorem eqrR_t0_lp (hpr : PrOk Try.prog rowsL_pr) : LoopsFor Try.prog 13 0 eqrR_t0_L0_LP := (eqrR_t0_L0_lp hpr)
noncomputable def eqrR : Sy.Spec := ⟨[.data (.slice (.struct [(.int .i64), (.slice (.struct [(.int .i64), (.int .i64), .str]))])), .data (.slice (.struct [(.int .i64), (.slice (.struct [(.int .i64), (.int .i64), .str]))]))], fun args s => match args, s with
  | [(.fz false e_0 l0), (.fz false e_1 l1)], [] => .br (Sh.beq e_0 (Sh.struct [Sh.int IntKind.i64, shV.slice]) && (Sh.beq e_1 (Sh.struct [Sh.int IntKind.i64, shV.slice]) && (true))) (eqrR_t0 l0 l1) .fail
  | _, _ => .fail⟩
theorem eqrR_ok : SpecOk Try.prog 13 eqrR.f := specOk_comes fun args s v s' tch e => by
  simp only [eqrR] at e
  split at e
  · obtain ⟨hg, e⟩ := if_run e
    simp only [Bool.and_eq_true] at hg
    obtain ⟨h_0, h_1, _⟩ := hg
    obtain rfl := Sh.beq_eq _ _ h_0
    obtain rfl := Sh.beq_eq _ _ h_1
    refine comes_of ok rowsL_pr_k (L := 100) (ms := []) (by kernel_rfl) (eqrR_t0_lp rowsL_pr_k) ?_
    exact eqrR_t0_b (h := K_run e) ..
  · cases e
noncomputable def eqrR_pr : FuncId → Option Sy.Spec := addP 13 eqrR rowsL_pr
theorem eqrR_pr_k : PrOk Try.prog eqrR_pr := prOk_add eqrR_ok rowsL_pr_k
noncomputable def befR_t0_L0_T (c0 : List UInt8) (l1 : List D) (i2 : Int) (l3 : List D) (l4 : List D) (l5 : List D) (l6 : List D) (i7 : Int) (c8 : List UInt8) (i9 : Int) (l10 : List D) (i11 : Int) (l12 : List D) (i13 : Int) : List AV := ([.any, .any, .any, AV.ptr (some ((0 : Nat), (0 : Nat))), AV.ptr (some ((1 : Nat), (0 : Nat))), AV.ptr (some ((2 : Nat), (0 : Nat))), .any, AV.int IntKind.i64 i13] ++ padAny 54)
noncomputable def befR_t0_L0_S (c0 : List UInt8) (l1 : List D) (i2 : Int) (l3 : List D) (l4 : List D) (l5 : List D) (l6 : List D) (i7 : Int) (c8 : List UInt8) (i9 : Int) (l10 : List D) (i11 : Int) (l12 : List D) (i13 : Int) : St := [Ent.cells [AV.str c0, AV.fz false (Sh.struct [Sh.str.slice, Sh.int IntKind.i64, Sh.struct [Sh.int IntKind.i64, Sh.int IntKind.i64, Sh.str]]) l1, AV.int IntKind.i64 i2, AV.fz false Sh.str.slice l3, AV.fz false (Sh.struct [Sh.int IntKind.i64, Sh.str.slice]) l4, AV.fz false (Sh.struct [Sh.int IntKind.i64, Sh.int IntKind.i64, Sh.struct [Sh.int IntKind.i64, Sh.int IntKind.i64, Sh.str]]) l5, AV.fz false (Sh.struct [Sh.int IntKind.i64, Sh.bool]) l6, AV.int IntKind.i64 i7, AV.str c8], Ent.cells [AV.int IntKind.i64 i9, AV.fz false shV l10], Ent.cells [AV.int IntKind.i64 i11, AV.fz false shV l12]]
noncomputable def befR_t0_L0_of : List AV → St → Option (((List UInt8) × (List D) × Int × (List D) × (List D) × (List D) × (List D) × Int × (List UInt8) × Int × (List D) × Int × (List D)) × (Int)) := fun t s => match t, s with
  | .any :: .any :: .any :: (.ptr (.some (e_0, e_1))) :: (.ptr (.some (e_2, e_3))) :: (.ptr (.some (e_4, e_5))) :: .any :: (.int .i64 i13) :: t_0, [(.cells [(.str c0), (.fz false e_6 l1), (.int .i64 i2), (.fz false e_7 l3), (.fz false e_8 l4), (.fz false e_9 l5), (.fz false e_10 l6), (.int .i64 i7), (.str c8)]), (.cells [(.int .i64 i9), (.fz false e_11 l10)]), (.cells [(.int .i64 i11), (.fz false e_12 l12)])] => (match dropAny 54 t_0 with
    | some ([]) => (match Nat.beq e_0 (0 : Nat) && (Nat.beq e_1 (0 : Nat) && (Nat.beq e_2 (1 : Nat) && (Nat.beq e_3 (0 : Nat) && (Nat.beq e_4 (2 : Nat) && (Nat.beq e_5 (0 : Nat) && (Sh.beq e_6 (Sh.struct [Sh.str.slice, Sh.int IntKind.i64, Sh.struct [Sh.int IntKind.i64, Sh.int IntKind.i64, Sh.str]]) && (Sh.beq e_7 (Sh.str.slice) && (Sh.beq e_8 (Sh.struct [Sh.int IntKind.i64, Sh.str.slice]) && (Sh.beq e_9 (Sh.struct [Sh.int IntKind.i64, Sh.int IntKind.i64, Sh.struct [Sh.int IntKind.i64, Sh.int IntKind.i64, Sh.str]]) && (Sh.beq e_10 (Sh.struct [Sh.int IntKind.i64, Sh.bool]) && (Sh.beq e_11 shV && (Sh.beq e_12 shV && (true))))))))))))) with | true => some ((c0, l1, i2, l3, l4, l5, l6, i7, c8, i9, l10, i11, l12), (i13)) | false => none)
    | _ => none)
  | _, _ => none
noncomputable def befR_t0_L0_ex (i : (List UInt8) × (List D) × Int × (List D) × (List D) × (List D) × (List D) × Int × (List UInt8) × Int × (List D) × Int × (List D)) (y : Nat × Bool) (k : KS) : Prop := let c0 := i.1; let l1 := i.2.1; let i2 := i.2.2.1; let l3 := i.2.2.2.1; let l4 := i.2.2.2.2.1; let l5 := i.2.2.2.2.2.1; let l6 := i.2.2.2.2.2.2.1; let i7 := i.2.2.2.2.2.2.2.1; let c8 := i.2.2.2.2.2.2.2.2.1; let i9 := i.2.2.2.2.2.2.2.2.2.1; let l10 := i.2.2.2.2.2.2.2.2.2.2.1; let i11 := i.2.2.2.2.2.2.2.2.2.2.2.1; let l12 := i.2.2.2.2.2.2.2.2.2.2.2.2; let tag := y.1; let by15 := y.2; br (Nat.beq tag 0) (k (Ex.ret) ([.any, .any, .any, .any, AV.ptr (some ((0 : Nat), (0 : Nat))), AV.ptr (some ((1 : Nat), (0 : Nat))), AV.bool by15] ++ padAny 55) [Ent.cells [AV.int IntKind.i64 i9, AV.fz false shV l10], Ent.cells [AV.int IntKind.i64 i11, AV.fz false shV l12]]) (br (Nat.beq tag 1) (k (Ex.normal) ([.any, .any, .any, .any, AV.ptr (some ((0 : Nat), (0 : Nat))), AV.ptr (some ((1 : Nat), (0 : Nat)))] ++ padAny 56) [Ent.cells [AV.int IntKind.i64 i9, AV.fz false shV l10], Ent.cells [AV.int IntKind.i64 i11, AV.fz false shV l12]]) (False))
theorem befR_t0_L0_of_ok : ∀ t s (i : (List UInt8) × (List D) × Int × (List D) × (List D) × (List D) × (List D) × Int × (List UInt8) × Int × (List D) × Int × (List D)) (x : Int), befR_t0_L0_of t s = some (i, x) → t = befR_t0_L0_T i.1 i.2.1 i.2.2.1 i.2.2.2.1 i.2.2.2.2.1 i.2.2.2.2.2.1 i.2.2.2.2.2.2.1 i.2.2.2.2.2.2.2.1 i.2.2.2.2.2.2.2.2.1 i.2.2.2.2.2.2.2.2.2.1 i.2.2.2.2.2.2.2.2.2.2.1 i.2.2.2.2.2.2.2.2.2.2.2.1 i.2.2.2.2.2.2.2.2.2.2.2.2 x ∧ s = befR_t0_L0_S i.1 i.2.1 i.2.2.1 i.2.2.2.1 i.2.2.2.2.1 i.2.2.2.2.2.1 i.2.2.2.2.2.2.1 i.2.2.2.2.2.2.2.1 i.2.2.2.2.2.2.2.2.1 i.2.2.2.2.2.2.2.2.2.1 i.2.2.2.2.2.2.2.2.2.2.1 i.2.2.2.2.2.2.2.2.2.2.2.1 i.2.2.2.2.2.2.2.2.2.2.2.2 x := by
  intro t s i x h
  unfold befR_t0_L0_of at h
  split at h
  · split at h
    · rename_i ha
      obtain rfl := dropAny_eq ha
      split at h
      · rename_i hg
        cases h
        simp only [Bool.and_eq_true] at hg
        obtain ⟨h_0, h_1, h_2, h_3, h_4, h_5, h_6, h_7, h_8, h_9, h_10, h_11, h_12, _⟩ := hg
        obtain rfl := Nat.eq_of_beq_eq_true h_0
        obtain rfl := Nat.eq_of_beq_eq_true h_1
        obtain rfl := Nat.eq_of_beq_eq_true h_2
        obtain rfl := Nat.eq_of_beq_eq_true h_3
        obtain rfl := Nat.eq_of_beq_eq_true h_4
        obtain rfl := Nat.eq_of_beq_eq_true h_5
        obtain rfl := Sh.beq_eq _ _ h_6
        obtain rfl := Sh.beq_eq _ _ h_7
        obtain rfl := Sh.beq_eq _ _ h_8
        obtain rfl := Sh.beq_eq _ _ h_9
        obtain rfl := Sh.beq_eq _ _ h_10
        obtain rfl := Sh.beq_eq _ _ h_11
        obtain rfl := Sh.beq_eq _ _ h_12
        exact ⟨rfl, rfl⟩
      · cases h
    · cases h
  · cases h
noncomputable def befR_t0_L0_stp (c0 : List UInt8) (l1 : List D) (i2 : Int) (l3 : List D) (l4 : List D) (l5 : List D) (l6 : List D) (i7 : Int) (c8 : List UInt8) (i9 : Int) (l10 : List D) (i11 : Int) (l12 : List D) (i13 : Int) : NT (Int) (Nat × Bool) :=
  NT.br (decide (i13 < (↑l6.length : Int)))
    (NT.br (decide ((0 : Int) ≤ i13) && decide (i13 < (↑l6.length : Int)))
     (NT.br (decide ((0 : Int) ≤ ((l6.getD i13.toNat D.nul).fld (0 : Nat)).asInt) && decide (((l6.getD i13.toNat D.nul).fld (0 : Nat)).asInt < (↑l10.length : Int)))
      (NT.br (decide ((0 : Int) ≤ ((l6.getD i13.toNat D.nul).fld (0 : Nat)).asInt) && decide (((l6.getD i13.toNat D.nul).fld (0 : Nat)).asInt < (↑l12.length : Int)))
       (NT.br (decide ((0 : Int) ≤ i13) && decide (i13 < (↑l6.length : Int)))
        (NT.br (((l6.getD i13.toNat D.nul).fld (1 : Nat)).asBool)
         (NT.br (!decide (IntKind.i64.wrap ((0 : Int) - cmp3 ((l10.getD ((l6.getD i13.toNat D.nul).fld (0 : Nat)).asInt.toNat D.nul).fld (0 : Nat)).asInt ((l10.getD ((l6.getD i13.toNat D.nul).fld (0 : Nat)).asInt.toNat D.nul).fld (1 : Nat)).asInt ((l10.getD ((l6.getD i13.toNat D.nul).fld (0 : Nat)).asInt.toNat D.nul).fld (2 : Nat)).asStr ((l12.getD ((l6.getD i13.toNat D.nul).fld (0 : Nat)).asInt.toNat D.nul).fld (0 : Nat)).asInt ((l12.getD ((l6.getD i13.toNat D.nul).fld (0 : Nat)).asInt.toNat D.nul).fld (1 : Nat)).asInt ((l12.getD ((l6.getD i13.toNat D.nul).fld (0 : Nat)).asInt.toNat D.nul).fld (2 : Nat)).asStr) = (0 : Int)))
          (NT.done (0, decide (IntKind.i64.wrap ((0 : Int) - cmp3 ((l10.getD ((l6.getD i13.toNat D.nul).fld (0 : Nat)).asInt.toNat D.nul).fld (0 : Nat)).asInt ((l10.getD ((l6.getD i13.toNat D.nul).fld (0 : Nat)).asInt.toNat D.nul).fld (1 : Nat)).asInt ((l10.getD ((l6.getD i13.toNat D.nul).fld (0 : Nat)).asInt.toNat D.nul).fld (2 : Nat)).asStr ((l12.getD ((l6.getD i13.toNat D.nul).fld (0 : Nat)).asInt.toNat D.nul).fld (0 : Nat)).asInt ((l12.getD ((l6.getD i13.toNat D.nul).fld (0 : Nat)).asInt.toNat D.nul).fld (1 : Nat)).asInt ((l12.getD ((l6.getD i13.toNat D.nul).fld (0 : Nat)).asInt.toNat D.nul).fld (2 : Nat)).asStr) < (0 : Int))))
          (NT.more (IntKind.i64.wrap (i13 + (1 : Int)))))
         (NT.br (!decide (cmp3 ((l10.getD ((l6.getD i13.toNat D.nul).fld (0 : Nat)).asInt.toNat D.nul).fld (0 : Nat)).asInt ((l10.getD ((l6.getD i13.toNat D.nul).fld (0 : Nat)).asInt.toNat D.nul).fld (1 : Nat)).asInt ((l10.getD ((l6.getD i13.toNat D.nul).fld (0 : Nat)).asInt.toNat D.nul).fld (2 : Nat)).asStr ((l12.getD ((l6.getD i13.toNat D.nul).fld (0 : Nat)).asInt.toNat D.nul).fld (0 : Nat)).asInt ((l12.getD ((l6.getD i13.toNat D.nul).fld (0 : Nat)).asInt.toNat D.nul).fld (1 : Nat)).asInt ((l12.getD ((l6.getD i13.toNat D.nul).fld (0 : Nat)).asInt.toNat D.nul).fld (2 : Nat)).asStr = (0 : Int)))
          (NT.done (0, decide (cmp3 ((l10.getD ((l6.getD i13.toNat D.nul).fld (0 : Nat)).asInt.toNat D.nul).fld (0 : Nat)).asInt ((l10.getD ((l6.getD i13.toNat D.nul).fld (0 : Nat)).asInt.toNat D.nul).fld (1 : Nat)).asInt ((l10.getD ((l6.getD i13.toNat D.nul).fld (0 : Nat)).asInt.toNat D.nul).fld (2 : Nat)).asStr ((l12.getD ((l6.getD i13.toNat D.nul).fld (0 : Nat)).asInt.toNat D.nul).fld (0 : Nat)).asInt ((l12.getD ((l6.getD i13.toNat D.nul).fld (0 : Nat)).asInt.toNat D.nul).fld (1 : Nat)).asInt ((l12.getD ((l6.getD i13.toNat D.nul).fld (0 : Nat)).asInt.toNat D.nul).fld (2 : Nat)).asStr < (0 : Int))))
          (NT.more (IntKind.i64.wrap (i13 + (1 : Int))))))
        (NT.fail))
       (NT.fail))
      (NT.fail))
     (NT.fail))
    (NT.done (1, false))
noncomputable def befR_t0_L0 (i : (List UInt8) × (List D) × Int × (List D) × (List D) × (List D) × (List D) × Int × (List UInt8) × Int × (List D) × Int × (List D)) (x : Int) := befR_t0_L0_stp i.1 i.2.1 i.2.2.1 i.2.2.2.1 i.2.2.2.2.1 i.2.2.2.2.2.1 i.2.2.2.2.2.2.1 i.2.2.2.2.2.2.2.1 i.2.2.2.2.2.2.2.2.1 i.2.2.2.2.2.2.2.2.2.1 i.2.2.2.2.2.2.2.2.2.2.1 i.2.2.2.2.2.2.2.2.2.2.2.1 i.2.2.2.2.2.2.2.2.2.2.2.2 x
theorem befR_t0_L0_rd (c0 : List UInt8) (l1 : List D) (i2 : Int) (l3 : List D) (l4 : List D) (l5 : List D) (l6 : List D) (i7 : Int) (c8 : List UInt8) (i9 : Int) (l10 : List D) (i11 : Int) (l12 : List D) (i13 : Int) (more : List AV → St → Prop) (kk : KS) : roundK Try.prog eqrR_pr noL 100 9 0 (befR_t0_L0_T c0 l1 i2 l3 l4 l5 l6 i7 c8 i9 l10 i11 l12 i13) (befR_t0_L0_S c0 l1 i2 l3 l4 l5 l6 i7 c8 i9 l10 i11 l12 i13) (againK 0 0 [.no, .no, .no, .yes, .yes, .yes, .no, .yes] [.no, .no, .no, .no, .yes, .yes, .yes] more kk) = (befR_t0_L0_stp c0 l1 i2 l3 l4 l5 l6 i7 c8 i9 l10 i11 l12 i13).K (fun x' => more (befR_t0_L0_T c0 l1 i2 l3 l4 l5 l6 i7 c8 i9 l10 i11 l12 x') (befR_t0_L0_S c0 l1 i2 l3 l4 l5 l6 i7 c8 i9 l10 i11 l12 x')) (fun y => befR_t0_L0_ex (c0, l1, i2, l3, l4, l5, l6, i7, c8, i9, l10, i11, l12) y kk) := by kernel_rfl
noncomputable def befR_t0_L0_LP : Nat → Option LoopS := addL 0 (headG 0 [.no, .no, .no, .yes, .yes, .yes, .no, .yes] (outL befR_t0_L0 befR_t0_L0_of befR_t0_L0_ex)) noL
theorem befR_t0_L0_lp (hpr : PrOk Try.prog eqrR_pr) : LoopsFor Try.prog 9 0 befR_t0_L0_LP := loops_lp (L := 100) (T := fun i x => befR_t0_L0_T i.1 i.2.1 i.2.2.1 i.2.2.2.1 i.2.2.2.2.1 i.2.2.2.2.2.1 i.2.2.2.2.2.2.1 i.2.2.2.2.2.2.2.1 i.2.2.2.2.2.2.2.2.1 i.2.2.2.2.2.2.2.2.2.1 i.2.2.2.2.2.2.2.2.2.2.1 i.2.2.2.2.2.2.2.2.2.2.2.1 i.2.2.2.2.2.2.2.2.2.2.2.2 x) (S := fun i x => befR_t0_L0_S i.1 i.2.1 i.2.2.1 i.2.2.2.1 i.2.2.2.2.1 i.2.2.2.2.2.1 i.2.2.2.2.2.2.1 i.2.2.2.2.2.2.2.1 i.2.2.2.2.2.2.2.2.1 i.2.2.2.2.2.2.2.2.2.1 i.2.2.2.2.2.2.2.2.2.2.1 i.2.2.2.2.2.2.2.2.2.2.2.1 i.2.2.2.2.2.2.2.2.2.2.2.2 x) ok hpr (by kernel_rfl) loops_none befR_t0_L0_of_ok (fun i x more kk => befR_t0_L0_rd i.1 i.2.1 i.2.2.1 i.2.2.2.1 i.2.2.2.2.1 i.2.2.2.2.2.1 i.2.2.2.2.2.2.1 i.2.2.2.2.2.2.2.1 i.2.2.2.2.2.2.2.2.1 i.2.2.2.2.2.2.2.2.2.1 i.2.2.2.2.2.2.2.2.2.2.1 i.2.2.2.2.2.2.2.2.2.2.2.1 i.2.2.2.2.2.2.2.2.2.2.2.2 x more kk)
noncomputable def befR_t0r (c0_0 : List UInt8) (l0_1 : List D) (i0_2 : Int) (l0_3 : List D) (l0_4 : List D) (l0_5 : List D) (l0_6 : List D) (i0_7 : Int) (c0_8 : List UInt8) (i1_0 : Int) (l1_1 : List D) (i2_0 : Int) (l2_1 : List D) : RT :=
  RT.br (loopOk (befR_t0_L0 (c0_0, l0_1, i0_2, l0_3, l0_4, l0_5, l0_6, i0_7, c0_8, i1_0, l1_1, i2_0, l2_1)) (0 : Int))
    (RT.br ((loopV (befR_t0_L0 (c0_0, l0_1, i0_2, l0_3, l0_4, l0_5, l0_6, i0_7, c0_8, i1_0, l1_1, i2_0, l2_1)) (0 : Int)).fst.beq (0 : Nat))
     (okL (AV.bool (loopV (befR_t0_L0 (c0_0, l0_1, i0_2, l0_3, l0_4, l0_5, l0_6, i0_7, c0_8, i1_0, l1_1, i2_0, l2_1)) (0 : Int)).snd) ([]))
     (RT.br ((loopV (befR_t0_L0 (c0_0, l0_1, i0_2, l0_3, l0_4, l0_5, l0_6, i0_7, c0_8, i1_0, l1_1, i2_0, l2_1)) (0 : Int)).fst.beq (1 : Nat))
      (RT.br (!decide (i1_0 = i2_0))
       (okL (AV.bool (decide (i1_0 > i2_0))) ([]))
       (RT.br (decide (l1_1.length < (4611686018427387904 : Nat)))
        (okL (AV.bool (decide (rowD l1_1 l2_1 < (0 : Int)))) ([]))
        (RT.fail)))
      (RT.fail)))
    (RT.fail)
theorem befR_t0r_b (c0_0 : List UInt8) (l0_1 : List D) (i0_2 : Int) (l0_3 : List D) (l0_4 : List D) (l0_5 : List D) (l0_6 : List D) (i0_7 : Int) (c0_8 : List UInt8) (i1_0 : Int) (l1_1 : List D) (i2_0 : Int) (l2_1 : List D) (K : AV → St → Prop) : bodyK Try.prog eqrR_pr befR_t0_L0_LP 100 9 [] [(.agg [.str c0_0, .fz false (.struct [(.slice .str), (.int .i64), (.struct [(.int .i64), (.int .i64), .str])]) l0_1, .int .i64 i0_2, .fz false (.slice .str) l0_3, .fz false (.struct [(.int .i64), (.slice .str)]) l0_4, .fz false (.struct [(.int .i64), (.int .i64), (.struct [(.int .i64), (.int .i64), .str])]) l0_5, .fz false (.struct [(.int .i64), .bool]) l0_6, .int .i64 i0_7, .str c0_8]), (.agg [.int .i64 i1_0, .fz false (.struct [(.int .i64), (.int .i64), .str]) l1_1]), (.agg [.int .i64 i2_0, .fz false (.struct [(.int .i64), (.int .i64), .str]) l2_1])] [] K = RT.K (fun v s _ => K v s) (befR_t0r c0_0 l0_1 i0_2 l0_3 l0_4 l0_5 l0_6 i0_7 c0_8 i1_0 l1_1 i2_0 l2_1) := by kernel_rfl
noncomputable def befR_t0_V0 (c0_0 : List UInt8) (l0_1 : List D) (i0_2 : Int) (l0_3 : List D) (l0_4 : List D) (l0_5 : List D) (l0_6 : List D) (i0_7 : Int) (c0_8 : List UInt8) (i1_0 : Int) (l1_1 : List D) (i2_0 : Int) (l2_1 : List D) : Bool :=
  loopOk (befR_t0_L0 (c0_0, l0_1, i0_2, l0_3, l0_4, l0_5, l0_6, i0_7, c0_8, i1_0, l1_1, i2_0, l2_1)) (0 : Int) && bif (loopV (befR_t0_L0 (c0_0, l0_1, i0_2, l0_3, l0_4, l0_5, l0_6, i0_7, c0_8, i1_0, l1_1, i2_0, l2_1)) (0 : Int)).fst.beq (0 : Nat) then true else (loopV (befR_t0_L0 (c0_0, l0_1, i0_2, l0_3, l0_4, l0_5, l0_6, i0_7, c0_8, i1_0, l1_1, i2_0, l2_1)) (0 : Int)).fst.beq (1 : Nat) && bif !decide (i1_0 = i2_0) then true else decide (l1_1.length < (4611686018427387904 : Nat)) && true
noncomputable def befR_t0_V1 (c0_0 : List UInt8) (l0_1 : List D) (i0_2 : Int) (l0_3 : List D) (l0_4 : List D) (l0_5 : List D) (l0_6 : List D) (i0_7 : Int) (c0_8 : List UInt8) (i1_0 : Int) (l1_1 : List D) (i2_0 : Int) (l2_1 : List D) : Bool :=
  bif (loopV (befR_t0_L0 (c0_0, l0_1, i0_2, l0_3, l0_4, l0_5, l0_6, i0_7, c0_8, i1_0, l1_1, i2_0, l2_1)) (0 : Int)).fst.beq (0 : Nat) then (loopV (befR_t0_L0 (c0_0, l0_1, i0_2, l0_3, l0_4, l0_5, l0_6, i0_7, c0_8, i1_0, l1_1, i2_0, l2_1)) (0 : Int)).snd else bif !decide (i1_0 = i2_0) then decide (i1_0 > i2_0) else decide (rowD l1_1 l2_1 < (0 : Int))
noncomputable def befR_t0 (c0_0 : List UInt8) (l0_1 : List D) (i0_2 : Int) (l0_3 : List D) (l0_4 : List D) (l0_5 : List D) (l0_6 : List D) (i0_7 : Int) (c0_8 : List UInt8) (i1_0 : Int) (l1_1 : List D) (i2_0 : Int) (l2_1 : List D) : RT :=
  RT.br (befR_t0_V0 c0_0 l0_1 i0_2 l0_3 l0_4 l0_5 l0_6 i0_7 c0_8 i1_0 l1_1 i2_0 l2_1)
    (okL (Go.Sy.AV.bool (befR_t0_V1 c0_0 l0_1 i0_2 l0_3 l0_4 l0_5 l0_6 i0_7 c0_8 i1_0 l1_1 i2_0 l2_1)) [])
    (RT.fail)
theorem befR_t0_m (c0_0 : List UInt8) (l0_1 : List D) (i0_2 : Int) (l0_3 : List D) (l0_4 : List D) (l0_5 : List D) (l0_6 : List D) (i0_7 : Int) (c0_8 : List UInt8) (i1_0 : Int) (l1_1 : List D) (i2_0 : Int) (l2_1 : List D) (K : AV → St → Prop) : RT.K (fun v s _ => K v s) (RT.mergeW ([]) (befR_t0r c0_0 l0_1 i0_2 l0_3 l0_4 l0_5 l0_6 i0_7 c0_8 i1_0 l1_1 i2_0 l2_1)) = RT.K (fun v s _ => K v s) (befR_t0 c0_0 l0_1 i0_2 l0_3 l0_4 l0_5 l0_6 i0_7 c0_8 i1_0 l1_1 i2_0 l2_1) := by kernel_rfl
theorem befR_t0_b (c0_0 : List UInt8) (l0_1 : List D) (i0_2 : Int) (l0_3 : List D) (l0_4 : List D) (l0_5 : List D) (l0_6 : List D) (i0_7 : Int) (c0_8 : List UInt8) (i1_0 : Int) (l1_1 : List D) (i2_0 : Int) (l2_1 : List D) (K : AV → St → Prop) (h : RT.K (fun v s _ => K v s) (befR_t0 c0_0 l0_1 i0_2 l0_3 l0_4 l0_5 l0_6 i0_7 c0_8 i1_0 l1_1 i2_0 l2_1)) : bodyK Try.prog eqrR_pr befR_t0_L0_LP 100 9 [] [(.agg [.str c0_0, .fz false (.struct [(.slice .str), (.int .i64), (.struct [(.int .i64), (.int .i64), .str])]) l0_1, .int .i64 i0_2, .fz false (.slice .str) l0_3, .fz false (.struct [(.int .i64), (.slice .str)]) l0_4, .fz false (.struct [(.int .i64), (.int .i64), (.struct [(.int .i64), (.int .i64), .str])]) l0_5, .fz false (.struct [(.int .i64), .bool]) l0_6, .int .i64 i0_7, .str c0_8]), (.agg [.int .i64 i1_0, .fz false (.struct [(.int .i64), (.int .i64), .str]) l1_1]), (.agg [.int .i64 i2_0, .fz false (.struct [(.int .i64), (.int .i64), .str]) l2_1])] [] K := Eq.mpr (befR_t0r_b ..) (mergeW_K (S := []) _ ⟨⟨rfl, ⟨⟨rfl, ⟨rfl, trivial⟩⟩, trivial⟩⟩, trivial⟩ (Eq.mpr (befR_t0_m ..) h))
theorem befR_t0_lp (hpr : PrOk Try.prog eqrR_pr) : LoopsFor Try.prog 9 0 befR_t0_L0_LP := (befR_t0_L0_lp hpr)
noncomputable def befR : Sy.Spec := ⟨[.data (.struct [.str, (.slice (.struct [(.slice .str), (.int .i64), (.struct [(.int .i64), (.int .i64), .str])])), (.int .i64), (.slice (.slice .str)), (.slice (.struct [(.int .i64), (.slice .str)])), (.slice (.struct [(.int .i64), (.int .i64), (.struct [(.int .i64), (.int .i64), .str])])), (.slice (.struct [(.int .i64), .bool])), (.int .i64), .str]), .data (.struct [(.int .i64), (.slice (.struct [(.int .i64), (.int .i64), .str]))]), .data (.struct [(.int .i64), (.slice (.struct [(.int .i64), (.int .i64), .str]))])], fun args s => match args, s with
  | [(.agg [(.str c0_0), (.fz false e_0 l0_1), (.int .i64 i0_2), (.fz false e_1 l0_3), (.fz false e_2 l0_4), (.fz false e_3 l0_5), (.fz false e_4 l0_6), (.int .i64 i0_7), (.str c0_8)]), (.agg [(.int .i64 i1_0), (.fz false e_5 l1_1)]), (.agg [(.int .i64 i2_0), (.fz false e_6 l2_1)])], [] => .br (Sh.beq e_0 (Sh.struct [Sh.str.slice, Sh.int IntKind.i64, Sh.struct [Sh.int IntKind.i64, Sh.int IntKind.i64, Sh.str]]) && (Sh.beq e_1 (Sh.str.slice) && (Sh.beq e_2 (Sh.struct [Sh.int IntKind.i64, Sh.str.slice]) && (Sh.beq e_3 (Sh.struct [Sh.int IntKind.i64, Sh.int IntKind.i64, Sh.struct [Sh.int IntKind.i64, Sh.int IntKind.i64, Sh.str]]) && (Sh.beq e_4 (Sh.struct [Sh.int IntKind.i64, Sh.bool]) && (Sh.beq e_5 shV && (Sh.beq e_6 shV && (true)))))))) (befR_t0 c0_0 l0_1 i0_2 l0_3 l0_4 l0_5 l0_6 i0_7 c0_8 i1_0 l1_1 i2_0 l2_1) .fail
  | _, _ => .fail⟩
theorem befR_ok : SpecOk Try.prog 9 befR.f := specOk_comes fun args s v s' tch e => by
  simp only [befR] at e
  split at e
  · obtain ⟨hg, e⟩ := if_run e
    simp only [Bool.and_eq_true] at hg
    obtain ⟨h_0, h_1, h_2, h_3, h_4, h_5, h_6, _⟩ := hg
    obtain rfl := Sh.beq_eq _ _ h_0
    obtain rfl := Sh.beq_eq _ _ h_1
    obtain rfl := Sh.beq_eq _ _ h_2
    obtain rfl := Sh.beq_eq _ _ h_3
    obtain rfl := Sh.beq_eq _ _ h_4
    obtain rfl := Sh.beq_eq _ _ h_5
    obtain rfl := Sh.beq_eq _ _ h_6
    refine comes_of ok eqrR_pr_k (L := 100) (ms := []) (by kernel_rfl) (befR_t0_lp eqrR_pr_k) ?_
    exact befR_t0_b (h := K_run e) ..
  · cases e
noncomputable def befR_pr : FuncId → Option Sy.Spec := addP 9 befR eqrR_pr
theorem befR_pr_k : PrOk Try.prog befR_pr := prOk_add befR_ok eqrR_pr_k
noncomputable def tstR_t0r (i0 : Int) (i1_0 : Int) (i1_1 : Int) (c1_2 : List UInt8) (i2_0 : Int) (i2_1 : Int) (c2_2 : List UInt8) : RT :=
  RT.br (decide (i0 = (7 : Int)))
    (okL (AV.bool (decide (i1_0 = (0 : Int)) == decide (i0 = (7 : Int)))) ([]))
    (RT.br (decide (i0 = (8 : Int)))
     (okL (AV.bool (decide (i1_0 = (0 : Int)) == decide (i0 = (7 : Int)))) ([]))
     (RT.br (decide (i1_0 = (0 : Int)))
      (okL (AV.bool false) ([]))
      (RT.br (!decide (i1_0 = i2_0))
       (okL (AV.bool false) ([]))
       (RT.br (decide (i0 = (1 : Int)))
        (okL (AV.bool (decide (cmp3 i1_0 i1_1 c1_2 i2_0 i2_1 c2_2 = (0 : Int)))) ([]))
        (RT.br (decide (i0 = (2 : Int)))
         (okL (AV.bool !decide (cmp3 i1_0 i1_1 c1_2 i2_0 i2_1 c2_2 = (0 : Int))) ([]))
         (RT.br (decide (i0 = (3 : Int)))
          (okL (AV.bool (decide (cmp3 i1_0 i1_1 c1_2 i2_0 i2_1 c2_2 < (0 : Int)))) ([]))
          (RT.br (decide (i0 = (4 : Int)))
           (okL (AV.bool (decide (cmp3 i1_0 i1_1 c1_2 i2_0 i2_1 c2_2 ≤ (0 : Int)))) ([]))
           (RT.br (decide (i0 = (5 : Int)))
            (okL (AV.bool (decide (cmp3 i1_0 i1_1 c1_2 i2_0 i2_1 c2_2 > (0 : Int)))) ([]))
            (RT.br (decide (i0 = (6 : Int)))
             (okL (AV.bool (decide (cmp3 i1_0 i1_1 c1_2 i2_0 i2_1 c2_2 ≥ (0 : Int)))) ([]))
             (okL (AV.bool false) ([])))))))))))
theorem tstR_t0r_b (i0 : Int) (i1_0 : Int) (i1_1 : Int) (c1_2 : List UInt8) (i2_0 : Int) (i2_1 : Int) (c2_2 : List UInt8) (K : AV → St → Prop) : bodyK Try.prog befR_pr noL 100 44 [] [.int .i64 i0, (.agg [.int .i64 i1_0, .int .i64 i1_1, .str c1_2]), (.agg [.int .i64 i2_0, .int .i64 i2_1, .str c2_2])] [] K = RT.K (fun v s _ => K v s) (tstR_t0r i0 i1_0 i1_1 c1_2 i2_0 i2_1 c2_2) := by kernel_rfl
noncomputable def tstR_t0_V0 (i0 : Int) (i1_0 : Int) (i1_1 : Int) (c1_2 : List UInt8) (i2_0 : Int) (i2_1 : Int) (c2_2 : List UInt8) : Bool :=
  bif decide (i0 = (7 : Int)) then true else bif decide (i0 = (8 : Int)) then true else bif decide (i1_0 = (0 : Int)) then true else bif !decide (i1_0 = i2_0) then true else bif decide (i0 = (1 : Int)) then true else bif decide (i0 = (2 : Int)) then true else bif decide (i0 = (3 : Int)) then true else bif decide (i0 = (4 : Int)) then true else bif decide (i0 = (5 : Int)) then true else bif decide (i0 = (6 : Int)) then true else true
noncomputable def tstR_t0_V1 (i0 : Int) (i1_0 : Int) (i1_1 : Int) (c1_2 : List UInt8) (i2_0 : Int) (i2_1 : Int) (c2_2 : List UInt8) : Bool :=
  bif decide (i0 = (7 : Int)) then decide (i1_0 = (0 : Int)) == decide (i0 = (7 : Int)) else bif decide (i0 = (8 : Int)) then decide (i1_0 = (0 : Int)) == decide (i0 = (7 : Int)) else bif decide (i1_0 = (0 : Int)) then false else bif !decide (i1_0 = i2_0) then false else bif decide (i0 = (1 : Int)) then decide (cmp3 i1_0 i1_1 c1_2 i2_0 i2_1 c2_2 = (0 : Int)) else bif decide (i0 = (2 : Int)) then !decide (cmp3 i1_0 i1_1 c1_2 i2_0 i2_1 c2_2 = (0 : Int)) else bif decide (i0 = (3 : Int)) then decide (cmp3 i1_0 i1_1 c1_2 i2_0 i2_1 c2_2 < (0 : Int)) else bif decide (i0 = (4 : Int)) then decide (cmp3 i1_0 i1_1 c1_2 i2_0 i2_1 c2_2 ≤ (0 : Int)) else bif decide (i0 = (5 : Int)) then decide (cmp3 i1_0 i1_1 c1_2 i2_0 i2_1 c2_2 > (0 : Int)) else bif decide (i0 = (6 : Int)) then decide (cmp3 i1_0 i1_1 c1_2 i2_0 i2_1 c2_2 ≥ (0 : Int)) else false
noncomputable def tstR_t0 (i0 : Int) (i1_0 : Int) (i1_1 : Int) (c1_2 : List UInt8) (i2_0 : Int) (i2_1 : Int) (c2_2 : List UInt8) : RT :=
  RT.br (tstR_t0_V0 i0 i1_0 i1_1 c1_2 i2_0 i2_1 c2_2)
    (okL (Go.Sy.AV.bool (tstR_t0_V1 i0 i1_0 i1_1 c1_2 i2_0 i2_1 c2_2)) [])
    (RT.fail)
theorem tstR_t0_m (i0 : Int) (i1_0 : Int) (i1_1 : Int) (c1_2 : List UInt8) (i2_0 : Int) (i2_1 : Int) (c2_2 : List UInt8) (K : AV → St → Prop) : RT.K (fun v s _ => K v s) (RT.mergeW ([]) (tstR_t0r i0 i1_0 i1_1 c1_2 i2_0 i2_1 c2_2)) = RT.K (fun v s _ => K v s) (tstR_t0 i0 i1_0 i1_1 c1_2 i2_0 i2_1 c2_2) := by kernel_rfl
theorem tstR_t0_b (i0 : Int) (i1_0 : Int) (i1_1 : Int) (c1_2 : List UInt8) (i2_0 : Int) (i2_1 : Int) (c2_2 : List UInt8) (K : AV → St → Prop) (h : RT.K (fun v s _ => K v s) (tstR_t0 i0 i1_0 i1_1 c1_2 i2_0 i2_1 c2_2)) : bodyK Try.prog befR_pr noL 100 44 [] [.int .i64 i0, (.agg [.int .i64 i1_0, .int .i64 i1_1, .str c1_2]), (.agg [.int .i64 i2_0, .int .i64 i2_1, .str c2_2])] [] K := Eq.mpr (tstR_t0r_b ..) (mergeW_K (S := []) _ ⟨rfl, ⟨rfl, ⟨rfl, ⟨rfl, ⟨rfl, ⟨rfl, ⟨rfl, ⟨rfl, ⟨rfl, ⟨rfl, rfl⟩⟩⟩⟩⟩⟩⟩⟩⟩⟩ (Eq.mpr (tstR_t0_m ..) h))
theorem tstR_t0_lp (hpr : PrOk Try.prog befR_pr) : LoopsFor Try.prog 44 0 noL := loops_none
noncomputable def tstR : Sy.Spec := ⟨[], fun args s => match args, s with
  | [(.int .i64 i0), (.agg [(.int .i64 i1_0), (.int .i64 i1_1), (.str c1_2)]), (.agg [(.int .i64 i2_0), (.int .i64 i2_1), (.str c2_2)])], [] => .br (true) (tstR_t0 i0 i1_0 i1_1 c1_2 i2_0 i2_1 c2_2) .fail
  | _, _ => .fail⟩
theorem tstR_ok : SpecOk Try.prog 44 tstR.f := specOk_comes fun args s v s' tch e => by
  simp only [tstR] at e
  split at e
  · obtain ⟨hg, e⟩ := if_run e
    refine comes_of ok befR_pr_k (L := 100) (ms := []) (by kernel_rfl) (tstR_t0_lp befR_pr_k) ?_
    exact tstR_t0_b (h := K_run e) ..
  · cases e
noncomputable def tstR_pr : FuncId → Option Sy.Spec := addP 44 tstR befR_pr
theorem tstR_pr_k : PrOk Try.prog tstR_pr := prOk_add tstR_ok befR_pr_k
noncomputable def same1P_t0r (i0_0 : Int) (l0_1 : List D) (i1_0 : Int) (l1_1 : List D) : RT :=
  RT.br (decide (i0_0 = i1_0))
    (RT.br (decide (l0_1.length < (4611686018427387904 : Nat)))
     (okL (AV.bool (decide (rowD l0_1 l1_1 = (0 : Int)))) ([]))
     (RT.fail))
    (okL (AV.bool false) ([]))
theorem same1P_t0r_b (i0_0 : Int) (l0_1 : List D) (i1_0 : Int) (l1_1 : List D) (K : AV → St → Prop) : bodyK Try.prog tstR_pr noL 100 37 [] [(.agg [.int .i64 i0_0, .fz false (.struct [(.int .i64), (.int .i64), .str]) l0_1]), (.agg [.int .i64 i1_0, .fz false (.struct [(.int .i64), (.int .i64), .str]) l1_1])] [] K = RT.K (fun v s _ => K v s) (same1P_t0r i0_0 l0_1 i1_0 l1_1) := by kernel_rfl
noncomputable def same1P_t0_V0 (i0_0 : Int) (l0_1 : List D) (i1_0 : Int) (l1_1 : List D) : Bool :=
  bif decide (i0_0 = i1_0) then decide (l0_1.length < (4611686018427387904 : Nat)) && true else true
noncomputable def same1P_t0_V1 (i0_0 : Int) (l0_1 : List D) (i1_0 : Int) (l1_1 : List D) : Bool :=
  bif decide (i0_0 = i1_0) then decide (rowD l0_1 l1_1 = (0 : Int)) else false
noncomputable def same1P_t0 (i0_0 : Int) (l0_1 : List D) (i1_0 : Int) (l1_1 : List D) : RT :=
  RT.br (same1P_t0_V0 i0_0 l0_1 i1_0 l1_1)
    (okL (Go.Sy.AV.bool (same1P_t0_V1 i0_0 l0_1 i1_0 l1_1)) [])
    (RT.fail)
theorem same1P_t0_m (i0_0 : Int) (l0_1 : List D) (i1_0 : Int) (l1_1 : List D) (K : AV → St → Prop) : RT.K (fun v s _ => K v s) (RT.mergeW ([]) (same1P_t0r i0_0 l0_1 i1_0 l1_1)) = RT.K (fun v s _ => K v s) (same1P_t0 i0_0 l0_1 i1_0 l1_1) := by kernel_rfl
theorem same1P_t0_b (i0_0 : Int) (l0_1 : List D) (i1_0 : Int) (l1_1 : List D) (K : AV → St → Prop) (h : RT.K (fun v s _ => K v s) (same1P_t0 i0_0 l0_1 i1_0 l1_1)) : bodyK Try.prog tstR_pr noL 100 37 [] [(.agg [.int .i64 i0_0, .fz false (.struct [(.int .i64), (.int .i64), .str]) l0_1]), (.agg [.int .i64 i1_0, .fz false (.struct [(.int .i64), (.int .i64), .str]) l1_1])] [] K := Eq.mpr (same1P_t0r_b ..) (mergeW_K (S := []) _ ⟨⟨rfl, trivial⟩, rfl⟩ (Eq.mpr (same1P_t0_m ..) h))
theorem same1P_t0_lp (hpr : PrOk Try.prog tstR_pr) : LoopsFor Try.prog 37 0 noL := loops_none
noncomputable def same1P : Sy.Spec := ⟨[.data (.struct [(.int .i64), (.slice (.struct [(.int .i64), (.int .i64), .str]))]), .data (.struct [(.int .i64), (.slice (.struct [(.int .i64), (.int .i64), .str]))])], fun args s => match args, s with
  | [(.agg [(.int .i64 i0_0), (.fz false e_0 l0_1)]), (.agg [(.int .i64 i1_0), (.fz false e_1 l1_1)])], [] => .br (Sh.beq e_0 shV && (Sh.beq e_1 shV && (true))) (same1P_t0 i0_0 l0_1 i1_0 l1_1) .fail
  | _, _ => .fail⟩
theorem same1P_ok : SpecOk Try.prog 37 same1P.f := specOk_comes fun args s v s' tch e => by
  simp only [same1P] at e
  split at e
  · obtain ⟨hg, e⟩ := if_run e
    simp only [Bool.and_eq_true] at hg
    obtain ⟨h_0, h_1, _⟩ := hg
    obtain rfl := Sh.beq_eq _ _ h_0
    obtain rfl := Sh.beq_eq _ _ h_1
    refine comes_of ok tstR_pr_k (L := 100) (ms := []) (by kernel_rfl) (same1P_t0_lp tstR_pr_k) ?_
    exact same1P_t0_b (h := K_run e) ..
  · cases e
noncomputable def same1P_pr : FuncId → Option Sy.Spec := addP 37 same1P tstR_pr
theorem same1P_pr_k : PrOk Try.prog same1P_pr := prOk_add same1P_ok tstR_pr_k
noncomputable def eqfP_t0_L0_T (l0 : List D) (l1 : List D) (i2 : Int) (i3 : Int) : List AV := ([.any, AV.fz false (Sh.struct [Sh.int IntKind.i64, shV.slice]) l0, AV.fn (Fn.func (37 : Nat)) [] [], .any, .any, .any, .any, .any, .any, .any, .any, .any, .any, .any, .any, AV.fz false (Sh.struct [Sh.int IntKind.i64, shV.slice]) l1, AV.int IntKind.i64 i2, AV.int IntKind.i64 i3] ++ padAny 14)
noncomputable def eqfP_t0_L0_S (l0 : List D) (l1 : List D) (i2 : Int) (i3 : Int) : St := []
noncomputable def eqfP_t0_L0_of : List AV → St → Option (((List D) × (List D) × Int) × (Int)) := fun t s => match t, s with
  | .any :: (.fz false e_0 l0) :: (.fn (.func e_1) [] []) :: t_0, [] => (match dropAny 12 t_0 with
    | some ((.fz false e_2 l1) :: (.int .i64 i2) :: (.int .i64 i3) :: t_1) => (match dropAny 14 t_1 with
    | some ([]) => (match Sh.beq e_0 (Sh.struct [Sh.int IntKind.i64, shV.slice]) && (Nat.beq e_1 (37 : Nat) && (Sh.beq e_2 (Sh.struct [Sh.int IntKind.i64, shV.slice]) && (true))) with | true => some ((l0, l1, i2), (i3)) | false => none)
    | _ => none)
    | _ => none)
  | _, _ => none
noncomputable def eqfP_t0_L0_ex (i : (List D) × (List D) × Int) (y : Nat) (k : KS) : Prop := let l0 := i.1; let l1 := i.2.1; let i2 := i.2.2; let tag := y; br (Nat.beq tag 0) (k (Ex.ret) ([.any, .any, .any, .any, .any, .any, AV.bool false] ++ padAny 25) []) (br (Nat.beq tag 1) (k (Ex.normal) ([.any] ++ padAny 31) []) (False))
theorem eqfP_t0_L0_of_ok : ∀ t s (i : (List D) × (List D) × Int) (x : Int), eqfP_t0_L0_of t s = some (i, x) → t = eqfP_t0_L0_T i.1 i.2.1 i.2.2 x ∧ s = eqfP_t0_L0_S i.1 i.2.1 i.2.2 x := by
  intro t s i x h
  unfold eqfP_t0_L0_of at h
  split at h
  · split at h
    · rename_i ha
      obtain rfl := dropAny_eq ha
      split at h
      · rename_i ha
        obtain rfl := dropAny_eq ha
        split at h
        · rename_i hg
          cases h
          simp only [Bool.and_eq_true] at hg
          obtain ⟨h_0, h_1, h_2, _⟩ := hg
          obtain rfl := Sh.beq_eq _ _ h_0
          obtain rfl := Nat.eq_of_beq_eq_true h_1
          obtain rfl := Sh.beq_eq _ _ h_2
          exact ⟨rfl, rfl⟩
        · cases h
      · cases h
    · cases h
  · cases h
noncomputable def eqfP_t0_L0_stp (l0 : List D) (l1 : List D) (i2 : Int) (i3 : Int) : NT (Int) (Nat) :=
  NT.br (decide (i3 < i2))
    (NT.br (decide ((0 : Int) ≤ i3) && decide (i3 < (↑l1.length : Int)))
     (NT.br (decide ((0 : Int) ≤ i3) && decide (i3 < (↑l0.length : Int)))
      (NT.br (same1P_t0_V0 ((l1.getD i3.toNat D.nul).fld (0 : Nat)).asInt ((l1.getD i3.toNat D.nul).fld (1 : Nat)).els ((l0.getD i3.toNat D.nul).fld (0 : Nat)).asInt ((l0.getD i3.toNat D.nul).fld (1 : Nat)).els)
       (NT.br (!same1P_t0_V1 ((l1.getD i3.toNat D.nul).fld (0 : Nat)).asInt ((l1.getD i3.toNat D.nul).fld (1 : Nat)).els ((l0.getD i3.toNat D.nul).fld (0 : Nat)).asInt ((l0.getD i3.toNat D.nul).fld (1 : Nat)).els)
        (NT.done (0))
        (NT.more (IntKind.i64.wrap (i3 + (1 : Int)))))
       (NT.fail))
      (NT.fail))
     (NT.fail))
    (NT.done (1))
noncomputable def eqfP_t0_L0 (i : (List D) × (List D) × Int) (x : Int) := eqfP_t0_L0_stp i.1 i.2.1 i.2.2 x
theorem eqfP_t0_L0_rd (l0 : List D) (l1 : List D) (i2 : Int) (i3 : Int) (more : List AV → St → Prop) (kk : KS) : roundK Try.prog same1P_pr noL 100 36 0 (eqfP_t0_L0_T l0 l1 i2 i3) (eqfP_t0_L0_S l0 l1 i2 i3) (againK 0 0 [.no, .yes, .yes, .no, .no, .no, .no, .no, .no, .no, .no, .no, .no, .no, .no, .yes, .yes, .yes] [.no, .no, .no, .no, .no, .no, .yes] more kk) = (eqfP_t0_L0_stp l0 l1 i2 i3).K (fun x' => more (eqfP_t0_L0_T l0 l1 i2 x') (eqfP_t0_L0_S l0 l1 i2 x')) (fun y => eqfP_t0_L0_ex (l0, l1, i2) y kk) := by kernel_rfl
noncomputable def eqfP_t0_L0_LP : Nat → Option LoopS := addL 0 (headG 0 [.no, .yes, .yes, .no, .no, .no, .no, .no, .no, .no, .no, .no, .no, .no, .no, .yes, .yes, .yes] (outL eqfP_t0_L0 eqfP_t0_L0_of eqfP_t0_L0_ex)) noL
theorem eqfP_t0_L0_lp (hpr : PrOk Try.prog same1P_pr) : LoopsFor Try.prog 36 0 eqfP_t0_L0_LP := loops_lp (L := 100) (T := fun i x => eqfP_t0_L0_T i.1 i.2.1 i.2.2 x) (S := fun i x => eqfP_t0_L0_S i.1 i.2.1 i.2.2 x) ok hpr (by kernel_rfl) loops_none eqfP_t0_L0_of_ok (fun i x more kk => eqfP_t0_L0_rd i.1 i.2.1 i.2.2 x more kk)
noncomputable def eqfP_t0r (l m : List D) : RT :=
  RT.br (!decide ((↑l.length : Int) = (↑m.length : Int)))
    (okL (AV.bool false) ([]))
    (RT.br (loopOk (eqfP_t0_L0 (m, l, (↑l.length : Int))) (0 : Int))
     (RT.br ((loopV (eqfP_t0_L0 (m, l, (↑l.length : Int))) (0 : Int)).beq (0 : Nat))
      (okL (AV.bool false) ([]))
      (RT.br ((loopV (eqfP_t0_L0 (m, l, (↑l.length : Int))) (0 : Int)).beq (1 : Nat))
       (okL (AV.bool true) ([]))
       (RT.fail)))
     (RT.fail))
theorem eqfP_t0r_b (l m : List D) (K : AV → St → Prop) : bodyK Try.prog same1P_pr eqfP_t0_L0_LP 100 36 [] [.fz false (.struct [.int .i64, .slice shV]) l, .fz false (.struct [.int .i64, .slice shV]) m, .fn (.func 37) [] []] [] K = RT.K (fun v s _ => K v s) (eqfP_t0r l m) := by kernel_rfl
noncomputable def eqfP_t0_V0 (l m : List D) : Bool :=
  bif !decide ((↑l.length : Int) = (↑m.length : Int)) then true else loopOk (eqfP_t0_L0 (m, l, (↑l.length : Int))) (0 : Int) && bif (loopV (eqfP_t0_L0 (m, l, (↑l.length : Int))) (0 : Int)).beq (0 : Nat) then true else (loopV (eqfP_t0_L0 (m, l, (↑l.length : Int))) (0 : Int)).beq (1 : Nat) && true
noncomputable def eqfP_t0_V1 (l m : List D) : Bool :=
  bif !decide ((↑l.length : Int) = (↑m.length : Int)) then false else bif (loopV (eqfP_t0_L0 (m, l, (↑l.length : Int))) (0 : Int)).beq (0 : Nat) then false else true
noncomputable def eqfP_t0 (l m : List D) : RT :=
  RT.br (eqfP_t0_V0 l m)
    (okL (Go.Sy.AV.bool (eqfP_t0_V1 l m)) [])
    (RT.fail)
theorem eqfP_t0_m (l m : List D) (K : AV → St → Prop) : RT.K (fun v s _ => K v s) (RT.mergeW ([]) (eqfP_t0r l m)) = RT.K (fun v s _ => K v s) (eqfP_t0 l m) := by kernel_rfl
theorem eqfP_t0_b (l m : List D) (K : AV → St → Prop) (h : RT.K (fun v s _ => K v s) (eqfP_t0 l m)) : bodyK Try.prog same1P_pr eqfP_t0_L0_LP 100 36 [] [.fz false (.struct [.int .i64, .slice shV]) l, .fz false (.struct [.int .i64, .slice shV]) m, .fn (.func 37) [] []] [] K := Eq.mpr (eqfP_t0r_b ..) (mergeW_K (S := []) _ ⟨rfl, ⟨⟨rfl, ⟨rfl, trivial⟩⟩, trivial⟩⟩ (Eq.mpr (eqfP_t0_m ..) h))
theorem eqfP_t0_lp (hpr : PrOk Try.prog same1P_pr) : LoopsFor Try.prog 36 0 eqfP_t0_L0_LP := (eqfP_t0_L0_lp hpr)
noncomputable def eqfP : Sy.Spec := ⟨[], fun args s => match args, s with
  | [(.fz false e_0 l), (.fz false e_1 m), (.fn (.func e_2) [] [])], [] => .br (Sh.beq e_0 (Sh.struct [Sh.int IntKind.i64, shV.slice]) && (Sh.beq e_1 (Sh.struct [Sh.int IntKind.i64, shV.slice]) && (Nat.beq e_2 (37 : Nat) && (true)))) (eqfP_t0 l m) .fail
  | _, _ => .fail⟩
theorem eqfP_ok : SpecOk Try.prog 36 eqfP.f := specOk_comes fun args s v s' tch e => by
  simp only [eqfP] at e
  split at e
  · obtain ⟨hg, e⟩ := if_run e
    simp only [Bool.and_eq_true] at hg
    obtain ⟨h_0, h_1, h_2, _⟩ := hg
    obtain rfl := Sh.beq_eq _ _ h_0
    obtain rfl := Sh.beq_eq _ _ h_1
    obtain rfl := Nat.eq_of_beq_eq_true h_2
    refine comes_of ok same1P_pr_k (L := 100) (ms := []) (by kernel_rfl) (eqfP_t0_lp same1P_pr_k) ?_
    exact eqfP_t0_b (h := K_run e) ..
  · cases e
noncomputable def eqfP_pr : FuncId → Option Sy.Spec := addP 36 eqfP same1P_pr
theorem eqfP_pr_k : PrOk Try.prog eqfP_pr := prOk_add eqfP_ok same1P_pr_k
noncomputable def sameP_t0r (l0 : List D) (l1 : List D) : RT :=
  RT.br (eqfP_t0_V0 l0 l1)
    (okL (AV.bool (eqfP_t0_V1 l0 l1)) ([]))
    (RT.fail)
theorem sameP_t0r_b (l0 : List D) (l1 : List D) (K : AV → St → Prop) : bodyK Try.prog eqfP_pr noL 100 12 [] [.fz false (.struct [(.int .i64), (.slice (.struct [(.int .i64), (.int .i64), .str]))]) l0, .fz false (.struct [(.int .i64), (.slice (.struct [(.int .i64), (.int .i64), .str]))]) l1] [] K = RT.K (fun v s _ => K v s) (sameP_t0r l0 l1) := by kernel_rfl
noncomputable def sameP_t0 (l0 : List D) (l1 : List D) : RT :=
  RT.br (eqfP_t0_V0 l0 l1 && true)
    (okL (Go.Sy.AV.bool (eqfP_t0_V1 l0 l1)) [])
    (RT.fail)
theorem sameP_t0_m (l0 : List D) (l1 : List D) (K : AV → St → Prop) : RT.K (fun v s _ => K v s) (RT.mergeW ([]) (sameP_t0r l0 l1)) = RT.K (fun v s _ => K v s) (sameP_t0 l0 l1) := by kernel_rfl
theorem sameP_t0_b (l0 : List D) (l1 : List D) (K : AV → St → Prop) (h : RT.K (fun v s _ => K v s) (sameP_t0 l0 l1)) : bodyK Try.prog eqfP_pr noL 100 12 [] [.fz false (.struct [(.int .i64), (.slice (.struct [(.int .i64), (.int .i64), .str]))]) l0, .fz false (.struct [(.int .i64), (.slice (.struct [(.int .i64), (.int .i64), .str]))]) l1] [] K := Eq.mpr (sameP_t0r_b ..) (mergeW_K (S := []) _ ⟨rfl, trivial⟩ (Eq.mpr (sameP_t0_m ..) h))
theorem sameP_t0_lp (hpr : PrOk Try.prog eqfP_pr) : LoopsFor Try.prog 12 0 noL := loops_none
noncomputable def sameP : Sy.Spec := ⟨[.data (.slice (.struct [(.int .i64), (.slice (.struct [(.int .i64), (.int .i64), .str]))])), .data (.slice (.struct [(.int .i64), (.slice (.struct [(.int .i64), (.int .i64), .str]))]))], fun args s => match args, s with
  | [(.fz false e_0 l0), (.fz false e_1 l1)], [] => .br (Sh.beq e_0 (Sh.struct [Sh.int IntKind.i64, shV.slice]) && (Sh.beq e_1 (Sh.struct [Sh.int IntKind.i64, shV.slice]) && (true))) (sameP_t0 l0 l1) .fail
  | _, _ => .fail⟩
theorem sameP_ok : SpecOk Try.prog 12 sameP.f := specOk_comes fun args s v s' tch e => by
  simp only [sameP] at e
  split at e
  · obtain ⟨hg, e⟩ := if_run e
    simp only [Bool.and_eq_true] at hg
    obtain ⟨h_0, h_1, _⟩ := hg
    obtain rfl := Sh.beq_eq _ _ h_0
    obtain rfl := Sh.beq_eq _ _ h_1
    refine comes_of ok eqfP_pr_k (L := 100) (ms := []) (by kernel_rfl) (sameP_t0_lp eqfP_pr_k) ?_
    exact sameP_t0_b (h := K_run e) ..
  · cases e
noncomputable def sameP_pr : FuncId → Option Sy.Spec := addP 12 sameP eqfP_pr
theorem sameP_pr_k : PrOk Try.prog sameP_pr := prOk_add sameP_ok eqfP_pr_k
noncomputable def groupP_t0_L0_T (i0 : Int) (l1 : List D) (l2 : List D) (i3 : Int) (i4 : Int) : List AV := ([.any, AV.int IntKind.i64 i0, AV.fz false shV l1, .any, .any, .any, AV.ptr (some ((0 : Nat), (0 : Nat))), .any, .any, .any, AV.fz false (Sh.struct [Sh.int IntKind.i64, shV.slice]) l2, AV.int IntKind.i64 i3, AV.int IntKind.i64 i4] ++ padAny 28)
noncomputable def groupP_t0_L0_S (i0 : Int) (l1 : List D) (l2 : List D) (i3 : Int) (i4 : Int) : St := [Ent.cells [AV.int IntKind.i64 (0 : Int), AV.nilSl]]
noncomputable def groupP_t0_L0_of : List AV → St → Option ((Int × (List D) × (List D) × Int) × (Int)) := fun t s => match t, s with
  | .any :: (.int .i64 i0) :: (.fz false e_0 l1) :: .any :: .any :: .any :: (.ptr (.some (e_1, e_2))) :: .any :: .any :: .any :: (.fz false e_3 l2) :: (.int .i64 i3) :: (.int .i64 i4) :: t_0, [(.cells [(.int .i64 e_4), .nilSl])] => (match dropAny 28 t_0 with
    | some ([]) => (match Sh.beq e_0 shV && (Nat.beq e_1 (0 : Nat) && (Nat.beq e_2 (0 : Nat) && (Sh.beq e_3 (Sh.struct [Sh.int IntKind.i64, shV.slice]) && (decide (e_4 = ((0 : Int))) && (true))))) with | true => some ((i0, l1, l2, i3), (i4)) | false => none)
    | _ => none)
  | _, _ => none
noncomputable def groupP_t0_L0_ex (i : Int × (List D) × (List D) × Int) (y : Nat × Int × (List D)) (k : KS) : Prop := let i0 := i.1; let l1 := i.2.1; let l2 := i.2.2.1; let i3 := i.2.2.2; let tag := y.1; let iy7 := y.2.1; let ly8 := y.2.2; br (Nat.beq tag 0) (k (Ex.ret) ([.any, .any, .any, .any, .any, .any, AV.ptr (some ((0 : Nat), (0 : Nat))), AV.bool true] ++ padAny 33) [Ent.cells [AV.int IntKind.i64 iy7, AV.fz false shV ly8]]) (br (Nat.beq tag 1) (k (Ex.normal) ([.any, .any, .any, .any, .any, .any, AV.ptr (some ((0 : Nat), (0 : Nat)))] ++ padAny 34) [Ent.cells [AV.int IntKind.i64 (0 : Int), AV.nilSl]]) (False))
theorem groupP_t0_L0_of_ok : ∀ t s (i : Int × (List D) × (List D) × Int) (x : Int), groupP_t0_L0_of t s = some (i, x) → t = groupP_t0_L0_T i.1 i.2.1 i.2.2.1 i.2.2.2 x ∧ s = groupP_t0_L0_S i.1 i.2.1 i.2.2.1 i.2.2.2 x := by
  intro t s i x h
  unfold groupP_t0_L0_of at h
  split at h
  · split at h
    · rename_i ha
      obtain rfl := dropAny_eq ha
      split at h
      · rename_i hg
        cases h
        simp only [Bool.and_eq_true] at hg
        obtain ⟨h_0, h_1, h_2, h_3, h_4, _⟩ := hg
        obtain rfl := Sh.beq_eq _ _ h_0
        obtain rfl := Nat.eq_of_beq_eq_true h_1
        obtain rfl := Nat.eq_of_beq_eq_true h_2
        obtain rfl := Sh.beq_eq _ _ h_3
        have h_4 := of_decide_eq_true h_4
        subst h_4
        exact ⟨rfl, rfl⟩
      · cases h
    · cases h
  · cases h
noncomputable def groupP_t0_L0_stp (i0 : Int) (l1 : List D) (l2 : List D) (i3 : Int) (i4 : Int) : NT (Int) (Nat × Int × (List D)) :=
  NT.br (decide (i4 < i3))
    (NT.br (decide ((0 : Int) ≤ i4) && decide (i4 < (↑l2.length : Int)))
     (NT.br (decide (((l2.getD i4.toNat D.nul).fld (0 : Nat)).asInt = i0))
      (NT.br (decide ((↑((l2.getD i4.toNat D.nul).fld (1 : Nat)).els.length : Int) ≥ (↑l1.length : Int)))
       (NT.br (decide ((0 : Int) ≤ (↑l1.length : Int)) && decide ((↑l1.length : Int) ≤ (↑((l2.getD i4.toNat D.nul).fld (1 : Nat)).els.length : Int)) && true)
        (NT.br (decide ((List.drop (0 : Nat) (List.take (↑l1.length : Int).toNat ((l2.getD i4.toNat D.nul).fld (1 : Nat)).els)).length < (4611686018427387904 : Nat)))
         (NT.br (decide (rowD (List.drop (0 : Nat) (List.take (↑l1.length : Int).toNat ((l2.getD i4.toNat D.nul).fld (1 : Nat)).els)) l1 = (0 : Int)))
          (NT.done (0, ((l2.getD i4.toNat D.nul).fld (0 : Nat)).asInt, ((l2.getD i4.toNat D.nul).fld (1 : Nat)).els))
          (NT.more (IntKind.i64.wrap (i4 + (1 : Int)))))
         (NT.fail))
        (NT.fail))
       (NT.more (IntKind.i64.wrap (i4 + (1 : Int)))))
      (NT.more (IntKind.i64.wrap (i4 + (1 : Int)))))
     (NT.fail))
    (NT.done (1, 0, []))
noncomputable def groupP_t0_L0 (i : Int × (List D) × (List D) × Int) (x : Int) := groupP_t0_L0_stp i.1 i.2.1 i.2.2.1 i.2.2.2 x
theorem groupP_t0_L0_rd (i0 : Int) (l1 : List D) (l2 : List D) (i3 : Int) (i4 : Int) (more : List AV → St → Prop) (kk : KS) : roundK Try.prog sameP_pr noL 100 11 0 (groupP_t0_L0_T i0 l1 l2 i3 i4) (groupP_t0_L0_S i0 l1 l2 i3 i4) (againK 0 0 [.no, .yes, .yes, .no, .no, .no, .yes, .no, .no, .no, .yes, .yes, .yes] [.no, .no, .no, .no, .no, .no, .yes, .yes] more kk) = (groupP_t0_L0_stp i0 l1 l2 i3 i4).K (fun x' => more (groupP_t0_L0_T i0 l1 l2 i3 x') (groupP_t0_L0_S i0 l1 l2 i3 x')) (fun y => groupP_t0_L0_ex (i0, l1, l2, i3) y kk) := by kernel_rfl
noncomputable def groupP_t0_L0_LP : Nat → Option LoopS := addL 0 (headG 0 [.no, .yes, .yes, .no, .no, .no, .yes, .no, .no, .no, .yes, .yes, .yes] (outL groupP_t0_L0 groupP_t0_L0_of groupP_t0_L0_ex)) noL
theorem groupP_t0_L0_lp (hpr : PrOk Try.prog sameP_pr) : LoopsFor Try.prog 11 0 groupP_t0_L0_LP := loops_lp (L := 100) (T := fun i x => groupP_t0_L0_T i.1 i.2.1 i.2.2.1 i.2.2.2 x) (S := fun i x => groupP_t0_L0_S i.1 i.2.1 i.2.2.1 i.2.2.2 x) ok hpr (by kernel_rfl) loops_none groupP_t0_L0_of_ok (fun i x more kk => groupP_t0_L0_rd i.1 i.2.1 i.2.2.1 i.2.2.2 x more kk)
noncomputable def groupP_t0r (l0 : List D) (i1 : Int) (l2 : List D) : RT :=
  RT.br (loopOk (groupP_t0_L0 (i1, l2, l0, (↑l0.length : Int))) (0 : Int))
    (RT.br ((loopV (groupP_t0_L0 (i1, l2, l0, (↑l0.length : Int))) (0 : Int)).fst.beq (0 : Nat))
     (okL (AV.tup [AV.agg [AV.int IntKind.i64 (loopV (groupP_t0_L0 (i1, l2, l0, (↑l0.length : Int))) (0 : Int)).snd.fst, AV.fz false shV (loopV (groupP_t0_L0 (i1, l2, l0, (↑l0.length : Int))) (0 : Int)).snd.snd], AV.bool true]) ([]))
     (RT.br ((loopV (groupP_t0_L0 (i1, l2, l0, (↑l0.length : Int))) (0 : Int)).fst.beq (1 : Nat))
      (okL (AV.tup [AV.agg [AV.int IntKind.i64 (0 : Int), AV.fz false shV []], AV.bool false]) ([]))
      (RT.fail)))
    (RT.fail)
theorem groupP_t0r_b (l0 : List D) (i1 : Int) (l2 : List D) (K : AV → St → Prop) : bodyK Try.prog sameP_pr groupP_t0_L0_LP 100 11 [.data (.struct [(.int .i64), (.slice (.struct [(.int .i64), (.int .i64), .str]))]), .keep] [.fz false (.struct [(.int .i64), (.slice (.struct [(.int .i64), (.int .i64), .str]))]) l0, .int .i64 i1, .fz false (.struct [(.int .i64), (.int .i64), .str]) l2] [] K = RT.K (fun v s _ => K v s) (groupP_t0r l0 i1 l2) := by kernel_rfl
noncomputable def groupP_t0_V0 (l0 : List D) (i1 : Int) (l2 : List D) : Bool :=
  loopOk (groupP_t0_L0 (i1, l2, l0, (↑l0.length : Int))) (0 : Int) && bif (loopV (groupP_t0_L0 (i1, l2, l0, (↑l0.length : Int))) (0 : Int)).fst.beq (0 : Nat) then true else (loopV (groupP_t0_L0 (i1, l2, l0, (↑l0.length : Int))) (0 : Int)).fst.beq (1 : Nat) && true
noncomputable def groupP_t0_V1 (l0 : List D) (i1 : Int) (l2 : List D) : Int :=
  bif (loopV (groupP_t0_L0 (i1, l2, l0, (↑l0.length : Int))) (0 : Int)).fst.beq (0 : Nat) then (loopV (groupP_t0_L0 (i1, l2, l0, (↑l0.length : Int))) (0 : Int)).snd.fst else (0 : Int)
noncomputable def groupP_t0_V2 (l0 : List D) (i1 : Int) (l2 : List D) : List D :=
  bif (loopV (groupP_t0_L0 (i1, l2, l0, (↑l0.length : Int))) (0 : Int)).fst.beq (0 : Nat) then (loopV (groupP_t0_L0 (i1, l2, l0, (↑l0.length : Int))) (0 : Int)).snd.snd else []
noncomputable def groupP_t0_V3 (l0 : List D) (i1 : Int) (l2 : List D) : Bool :=
  bif (loopV (groupP_t0_L0 (i1, l2, l0, (↑l0.length : Int))) (0 : Int)).fst.beq (0 : Nat) then true else false
noncomputable def groupP_t0 (l0 : List D) (i1 : Int) (l2 : List D) : RT :=
  RT.br (groupP_t0_V0 l0 i1 l2)
    (okL (Go.Sy.AV.tup [(Go.Sy.AV.agg [(Go.Sy.AV.int (IntKind.i64) (groupP_t0_V1 l0 i1 l2)), (Go.Sy.AV.fz (false) shV (groupP_t0_V2 l0 i1 l2))]), (Go.Sy.AV.bool (groupP_t0_V3 l0 i1 l2))]) [])
    (RT.fail)
theorem groupP_t0_m (l0 : List D) (i1 : Int) (l2 : List D) (K : AV → St → Prop) : RT.K (fun v s _ => K v s) (RT.mergeW ([]) (groupP_t0r l0 i1 l2)) = RT.K (fun v s _ => K v s) (groupP_t0 l0 i1 l2) := by kernel_rfl
theorem groupP_t0_b (l0 : List D) (i1 : Int) (l2 : List D) (K : AV → St → Prop) (h : RT.K (fun v s _ => K v s) (groupP_t0 l0 i1 l2)) : bodyK Try.prog sameP_pr groupP_t0_L0_LP 100 11 [.data (.struct [(.int .i64), (.slice (.struct [(.int .i64), (.int .i64), .str]))]), .keep] [.fz false (.struct [(.int .i64), (.slice (.struct [(.int .i64), (.int .i64), .str]))]) l0, .int .i64 i1, .fz false (.struct [(.int .i64), (.int .i64), .str]) l2] [] K := Eq.mpr (groupP_t0r_b ..) (mergeW_K (S := []) _ ⟨⟨rfl, ⟨rfl, trivial⟩⟩, trivial⟩ (Eq.mpr (groupP_t0_m ..) h))
theorem groupP_t0_lp (hpr : PrOk Try.prog sameP_pr) : LoopsFor Try.prog 11 0 groupP_t0_L0_LP := (groupP_t0_L0_lp hpr)
noncomputable def groupP : Sy.Spec := ⟨[.data (.slice (.struct [(.int .i64), (.slice (.struct [(.int .i64), (.int .i64), .str]))])), .keep, .data (.slice (.struct [(.int .i64), (.int .i64), .str]))], fun args s => match args, s with
  | [(.fz false e_0 l0), (.int .i64 i1), (.fz false e_1 l2)], [] => .br (Sh.beq e_0 (Sh.struct [Sh.int IntKind.i64, shV.slice]) && (Sh.beq e_1 shV && (true))) (groupP_t0 l0 i1 l2) .fail
  | _, _ => .fail⟩
theorem groupP_ok : SpecOk Try.prog 11 groupP.f := specOk_comes fun args s v s' tch e => by
  simp only [groupP] at e
  split at e
  · obtain ⟨hg, e⟩ := if_run e
    simp only [Bool.and_eq_true] at hg
    obtain ⟨h_0, h_1, _⟩ := hg
    obtain rfl := Sh.beq_eq _ _ h_0
    obtain rfl := Sh.beq_eq _ _ h_1
    refine comes_of ok sameP_pr_k (L := 100) (ms := [.data (.struct [(.int .i64), (.slice (.struct [(.int .i64), (.int .i64), .str]))]), .keep]) (by kernel_rfl) (groupP_t0_lp sameP_pr_k) ?_
    exact groupP_t0_b (h := K_run e) ..
  · cases e
noncomputable def groupP_pr : FuncId → Option Sy.Spec := addP 11 groupP sameP_pr
theorem groupP_pr_k : PrOk Try.prog groupP_pr := prOk_add groupP_ok sameP_pr_k
noncomputable def atP_t0r (i0_0 : Int) (l0_1 : List D) (i1 : Int) : RT :=
  RT.br (decide (i1 < (0 : Int)))
    (okL (AV.agg [AV.int IntKind.i64 (0 : Int), AV.int IntKind.i64 (0 : Int), AV.str []]) ([]))
    (RT.br (decide (i1 ≥ (↑l0_1.length : Int)))
     (okL (AV.agg [AV.int IntKind.i64 (0 : Int), AV.int IntKind.i64 (0 : Int), AV.str []]) ([]))
     (RT.br (decide ((0 : Int) ≤ i1) && decide (i1 < (↑l0_1.length : Int)))
      (okL (AV.agg [AV.int IntKind.i64 ((l0_1.getD i1.toNat D.nul).fld (0 : Nat)).asInt, AV.int IntKind.i64 ((l0_1.getD i1.toNat D.nul).fld (1 : Nat)).asInt, AV.str ((l0_1.getD i1.toNat D.nul).fld (2 : Nat)).asStr]) ([]))
      (RT.fail)))
theorem atP_t0r_b (i0_0 : Int) (l0_1 : List D) (i1 : Int) (K : AV → St → Prop) : bodyK Try.prog groupP_pr noL 100 58 [] [(.agg [.int .i64 i0_0, .fz false (.struct [(.int .i64), (.int .i64), .str]) l0_1]), .int .i64 i1] [] K = RT.K (fun v s _ => K v s) (atP_t0r i0_0 l0_1 i1) := by kernel_rfl
noncomputable def atP_t0_V0 (i0_0 : Int) (l0_1 : List D) (i1 : Int) : Bool :=
  bif decide (i1 < (0 : Int)) then true else bif decide (i1 ≥ (↑l0_1.length : Int)) then true else decide ((0 : Int) ≤ i1) && decide (i1 < (↑l0_1.length : Int)) && true
noncomputable def atP_t0_V1 (i0_0 : Int) (l0_1 : List D) (i1 : Int) : Int :=
  bif decide (i1 < (0 : Int)) then (0 : Int) else bif decide (i1 ≥ (↑l0_1.length : Int)) then (0 : Int) else ((l0_1.getD i1.toNat D.nul).fld (0 : Nat)).asInt
noncomputable def atP_t0_V2 (i0_0 : Int) (l0_1 : List D) (i1 : Int) : Int :=
  bif decide (i1 < (0 : Int)) then (0 : Int) else bif decide (i1 ≥ (↑l0_1.length : Int)) then (0 : Int) else ((l0_1.getD i1.toNat D.nul).fld (1 : Nat)).asInt
noncomputable def atP_t0_V3 (i0_0 : Int) (l0_1 : List D) (i1 : Int) : List UInt8 :=
  bif decide (i1 < (0 : Int)) then [] else bif decide (i1 ≥ (↑l0_1.length : Int)) then [] else ((l0_1.getD i1.toNat D.nul).fld (2 : Nat)).asStr
noncomputable def atP_t0 (i0_0 : Int) (l0_1 : List D) (i1 : Int) : RT :=
  RT.br (atP_t0_V0 i0_0 l0_1 i1)
    (okL (Go.Sy.AV.agg [(Go.Sy.AV.int (IntKind.i64) (atP_t0_V1 i0_0 l0_1 i1)), (Go.Sy.AV.int (IntKind.i64) (atP_t0_V2 i0_0 l0_1 i1)), (Go.Sy.AV.str (atP_t0_V3 i0_0 l0_1 i1))]) [])
    (RT.fail)
theorem atP_t0_m (i0_0 : Int) (l0_1 : List D) (i1 : Int) (K : AV → St → Prop) : RT.K (fun v s _ => K v s) (RT.mergeW ([]) (atP_t0r i0_0 l0_1 i1)) = RT.K (fun v s _ => K v s) (atP_t0 i0_0 l0_1 i1) := by kernel_rfl
theorem atP_t0_b (i0_0 : Int) (l0_1 : List D) (i1 : Int) (K : AV → St → Prop) (h : RT.K (fun v s _ => K v s) (atP_t0 i0_0 l0_1 i1)) : bodyK Try.prog groupP_pr noL 100 58 [] [(.agg [.int .i64 i0_0, .fz false (.struct [(.int .i64), (.int .i64), .str]) l0_1]), .int .i64 i1] [] K := Eq.mpr (atP_t0r_b ..) (mergeW_K (S := []) _ ⟨rfl, ⟨rfl, ⟨rfl, trivial⟩⟩⟩ (Eq.mpr (atP_t0_m ..) h))
theorem atP_t0_lp (hpr : PrOk Try.prog groupP_pr) : LoopsFor Try.prog 58 0 noL := loops_none
noncomputable def atP : Sy.Spec := ⟨[.data (.struct [(.int .i64), (.slice (.struct [(.int .i64), (.int .i64), .str]))]), .keep], fun args s => match args, s with
  | [(.agg [(.int .i64 i0_0), (.fz false e_0 l0_1)]), (.int .i64 i1)], [] => .br (Sh.beq e_0 shV && (true)) (atP_t0 i0_0 l0_1 i1) .fail
  | _, _ => .fail⟩
theorem atP_ok : SpecOk Try.prog 58 atP.f := specOk_comes fun args s v s' tch e => by
  simp only [atP] at e
  split at e
  · obtain ⟨hg, e⟩ := if_run e
    simp only [Bool.and_eq_true] at hg
    obtain ⟨h_0, _⟩ := hg
    obtain rfl := Sh.beq_eq _ _ h_0
    refine comes_of ok groupP_pr_k (L := 100) (ms := []) (by kernel_rfl) (atP_t0_lp groupP_pr_k) ?_
    exact atP_t0_b (h := K_run e) ..
  · cases e
noncomputable def atP_pr : FuncId → Option Sy.Spec := addP 58 atP groupP_pr
theorem atP_pr_k : PrOk Try.prog atP_pr := prOk_add atP_ok groupP_pr_k
noncomputable def ecmpP_t0_L0_T (l0 : List D) (i1 : Int) (i2 : Int) (l3 : List D) (i4 : Int) (l5 : List D) (i6 : Int) : List AV := ([.any, .any, .any, .any, AV.ptr (some ((0 : Nat), (0 : Nat))), AV.ptr (some ((1 : Nat), (0 : Nat))), .any, .any, .any, .any, .any, AV.fz false (Sh.struct [Sh.int IntKind.i64, Sh.bool]) l0, AV.int IntKind.i64 i1, AV.int IntKind.i64 i6] ++ padAny 32)
noncomputable def ecmpP_t0_L0_S (l0 : List D) (i1 : Int) (i2 : Int) (l3 : List D) (i4 : Int) (l5 : List D) (i6 : Int) : St := [Ent.cells [AV.int IntKind.i64 i2, AV.fz false shV l3], Ent.cells [AV.int IntKind.i64 i4, AV.fz false shV l5]]
noncomputable def ecmpP_t0_L0_of : List AV → St → Option (((List D) × Int × Int × (List D) × Int × (List D)) × (Int)) := fun t s => match t, s with
  | t_0, [(.cells [(.int .i64 i2), (.fz false e_5 l3)]), (.cells [(.int .i64 i4), (.fz false e_6 l5)])] => (match dropAny 4 t_0 with
    | some ((.ptr (.some (e_0, e_1))) :: (.ptr (.some (e_2, e_3))) :: t_1) => (match dropAny 5 t_1 with
    | some ((.fz false e_4 l0) :: (.int .i64 i1) :: (.int .i64 i6) :: t_2) => (match dropAny 32 t_2 with
    | some ([]) => (match Nat.beq e_0 (0 : Nat) && (Nat.beq e_1 (0 : Nat) && (Nat.beq e_2 (1 : Nat) && (Nat.beq e_3 (0 : Nat) && (Sh.beq e_4 (Sh.struct [Sh.int IntKind.i64, Sh.bool]) && (Sh.beq e_5 shV && (Sh.beq e_6 shV && (true))))))) with | true => some ((l0, i1, i2, l3, i4, l5), (i6)) | false => none)
    | _ => none)
    | _ => none)
    | _ => none)
  | _, _ => none
noncomputable def ecmpP_t0_L0_ex (i : (List D) × Int × Int × (List D) × Int × (List D)) (y : Nat × Int) (k : KS) : Prop := let l0 := i.1; let i1 := i.2.1; let i2 := i.2.2.1; let l3 := i.2.2.2.1; let i4 := i.2.2.2.2.1; let l5 := i.2.2.2.2.2; let tag := y.1; let iy8 := y.2; br (Nat.beq tag 0) (k (Ex.ret) ([.any, .any, .any, .any, AV.ptr (some ((0 : Nat), (0 : Nat))), AV.ptr (some ((1 : Nat), (0 : Nat))), AV.int IntKind.i64 iy8] ++ padAny 39) [Ent.cells [AV.int IntKind.i64 i2, AV.fz false shV l3], Ent.cells [AV.int IntKind.i64 i4, AV.fz false shV l5]]) (br (Nat.beq tag 1) (k (Ex.normal) ([.any, .any, .any, .any, AV.ptr (some ((0 : Nat), (0 : Nat))), AV.ptr (some ((1 : Nat), (0 : Nat)))] ++ padAny 40) [Ent.cells [AV.int IntKind.i64 i2, AV.fz false shV l3], Ent.cells [AV.int IntKind.i64 i4, AV.fz false shV l5]]) (False))
theorem ecmpP_t0_L0_of_ok : ∀ t s (i : (List D) × Int × Int × (List D) × Int × (List D)) (x : Int), ecmpP_t0_L0_of t s = some (i, x) → t = ecmpP_t0_L0_T i.1 i.2.1 i.2.2.1 i.2.2.2.1 i.2.2.2.2.1 i.2.2.2.2.2 x ∧ s = ecmpP_t0_L0_S i.1 i.2.1 i.2.2.1 i.2.2.2.1 i.2.2.2.2.1 i.2.2.2.2.2 x := by
  intro t s i x h
  unfold ecmpP_t0_L0_of at h
  split at h
  · split at h
    · rename_i ha
      obtain rfl := dropAny_eq ha
      split at h
      · rename_i ha
        obtain rfl := dropAny_eq ha
        split at h
        · rename_i ha
          obtain rfl := dropAny_eq ha
          split at h
          · rename_i hg
            cases h
            simp only [Bool.and_eq_true] at hg
            obtain ⟨h_0, h_1, h_2, h_3, h_4, h_5, h_6, _⟩ := hg
            obtain rfl := Nat.eq_of_beq_eq_true h_0
            obtain rfl := Nat.eq_of_beq_eq_true h_1
            obtain rfl := Nat.eq_of_beq_eq_true h_2
            obtain rfl := Nat.eq_of_beq_eq_true h_3
            obtain rfl := Sh.beq_eq _ _ h_4
            obtain rfl := Sh.beq_eq _ _ h_5
            obtain rfl := Sh.beq_eq _ _ h_6
            exact ⟨rfl, rfl⟩
          · cases h
        · cases h
      · cases h
    · cases h
  · cases h
noncomputable def ecmpP_t0_L0_stp (l0 : List D) (i1 : Int) (i2 : Int) (l3 : List D) (i4 : Int) (l5 : List D) (i6 : Int) : NT (Int) (Nat × Int) :=
  NT.br (decide (i6 < i1))
    (NT.br (decide ((0 : Int) ≤ i6) && decide (i6 < (↑l0.length : Int)))
     (NT.br (atP_t0_V0 i2 l3 ((l0.getD i6.toNat D.nul).fld (0 : Nat)).asInt)
      (NT.br (atP_t0_V0 i4 l5 ((l0.getD i6.toNat D.nul).fld (0 : Nat)).asInt)
       (NT.br (((l0.getD i6.toNat D.nul).fld (1 : Nat)).asBool)
        (NT.br (!decide (IntKind.i64.wrap ((0 : Int) - cmp3 (atP_t0_V1 i2 l3 ((l0.getD i6.toNat D.nul).fld (0 : Nat)).asInt) (atP_t0_V2 i2 l3 ((l0.getD i6.toNat D.nul).fld (0 : Nat)).asInt) (atP_t0_V3 i2 l3 ((l0.getD i6.toNat D.nul).fld (0 : Nat)).asInt) (atP_t0_V1 i4 l5 ((l0.getD i6.toNat D.nul).fld (0 : Nat)).asInt) (atP_t0_V2 i4 l5 ((l0.getD i6.toNat D.nul).fld (0 : Nat)).asInt) (atP_t0_V3 i4 l5 ((l0.getD i6.toNat D.nul).fld (0 : Nat)).asInt)) = (0 : Int)))
         (NT.done (0, IntKind.i64.wrap ((0 : Int) - cmp3 (atP_t0_V1 i2 l3 ((l0.getD i6.toNat D.nul).fld (0 : Nat)).asInt) (atP_t0_V2 i2 l3 ((l0.getD i6.toNat D.nul).fld (0 : Nat)).asInt) (atP_t0_V3 i2 l3 ((l0.getD i6.toNat D.nul).fld (0 : Nat)).asInt) (atP_t0_V1 i4 l5 ((l0.getD i6.toNat D.nul).fld (0 : Nat)).asInt) (atP_t0_V2 i4 l5 ((l0.getD i6.toNat D.nul).fld (0 : Nat)).asInt) (atP_t0_V3 i4 l5 ((l0.getD i6.toNat D.nul).fld (0 : Nat)).asInt))))
         (NT.more (IntKind.i64.wrap (i6 + (1 : Int)))))
        (NT.br (!decide (cmp3 (atP_t0_V1 i2 l3 ((l0.getD i6.toNat D.nul).fld (0 : Nat)).asInt) (atP_t0_V2 i2 l3 ((l0.getD i6.toNat D.nul).fld (0 : Nat)).asInt) (atP_t0_V3 i2 l3 ((l0.getD i6.toNat D.nul).fld (0 : Nat)).asInt) (atP_t0_V1 i4 l5 ((l0.getD i6.toNat D.nul).fld (0 : Nat)).asInt) (atP_t0_V2 i4 l5 ((l0.getD i6.toNat D.nul).fld (0 : Nat)).asInt) (atP_t0_V3 i4 l5 ((l0.getD i6.toNat D.nul).fld (0 : Nat)).asInt) = (0 : Int)))
         (NT.done (0, cmp3 (atP_t0_V1 i2 l3 ((l0.getD i6.toNat D.nul).fld (0 : Nat)).asInt) (atP_t0_V2 i2 l3 ((l0.getD i6.toNat D.nul).fld (0 : Nat)).asInt) (atP_t0_V3 i2 l3 ((l0.getD i6.toNat D.nul).fld (0 : Nat)).asInt) (atP_t0_V1 i4 l5 ((l0.getD i6.toNat D.nul).fld (0 : Nat)).asInt) (atP_t0_V2 i4 l5 ((l0.getD i6.toNat D.nul).fld (0 : Nat)).asInt) (atP_t0_V3 i4 l5 ((l0.getD i6.toNat D.nul).fld (0 : Nat)).asInt)))
         (NT.more (IntKind.i64.wrap (i6 + (1 : Int))))))
       (NT.fail))
      (NT.fail))
     (NT.fail))
    (NT.done (1, 0))
noncomputable def ecmpP_t0_L0 (i : (List D) × Int × Int × (List D) × Int × (List D)) (x : Int) := ecmpP_t0_L0_stp i.1 i.2.1 i.2.2.1 i.2.2.2.1 i.2.2.2.2.1 i.2.2.2.2.2 x
theorem ecmpP_t0_L0_rd (l0 : List D) (i1 : Int) (i2 : Int) (l3 : List D) (i4 : Int) (l5 : List D) (i6 : Int) (more : List AV → St → Prop) (kk : KS) : roundK Try.prog atP_pr noL 100 40 0 (ecmpP_t0_L0_T l0 i1 i2 l3 i4 l5 i6) (ecmpP_t0_L0_S l0 i1 i2 l3 i4 l5 i6) (againK 0 0 [.no, .no, .no, .no, .yes, .yes, .no, .no, .no, .no, .no, .yes, .yes, .yes] [.no, .no, .no, .no, .yes, .yes, .yes] more kk) = (ecmpP_t0_L0_stp l0 i1 i2 l3 i4 l5 i6).K (fun x' => more (ecmpP_t0_L0_T l0 i1 i2 l3 i4 l5 x') (ecmpP_t0_L0_S l0 i1 i2 l3 i4 l5 x')) (fun y => ecmpP_t0_L0_ex (l0, i1, i2, l3, i4, l5) y kk) := by kernel_rfl
noncomputable def ecmpP_t0_L0_LP : Nat → Option LoopS := addL 0 (headG 0 [.no, .no, .no, .no, .yes, .yes, .no, .no, .no, .no, .no, .yes, .yes, .yes] (outL ecmpP_t0_L0 ecmpP_t0_L0_of ecmpP_t0_L0_ex)) noL
theorem ecmpP_t0_L0_lp (hpr : PrOk Try.prog atP_pr) : LoopsFor Try.prog 40 0 ecmpP_t0_L0_LP := loops_lp (L := 100) (T := fun i x => ecmpP_t0_L0_T i.1 i.2.1 i.2.2.1 i.2.2.2.1 i.2.2.2.2.1 i.2.2.2.2.2 x) (S := fun i x => ecmpP_t0_L0_S i.1 i.2.1 i.2.2.1 i.2.2.2.1 i.2.2.2.2.1 i.2.2.2.2.2 x) ok hpr (by kernel_rfl) loops_none ecmpP_t0_L0_of_ok (fun i x more kk => ecmpP_t0_L0_rd i.1 i.2.1 i.2.2.1 i.2.2.2.1 i.2.2.2.2.1 i.2.2.2.2.2 x more kk)
noncomputable def ecmpP_t0r (c0_0 : List UInt8) (l0_1 : List D) (i0_2 : Int) (l0_3 : List D) (l0_4 : List D) (l0_5 : List D) (l0_6 : List D) (i0_7 : Int) (c0_8 : List UInt8) (i1_0 : Int) (l1_1 : List D) (i2_0 : Int) (l2_1 : List D) : RT :=
  RT.br (loopOk (ecmpP_t0_L0 (l0_6, (↑l0_6.length : Int), i1_0, l1_1, i2_0, l2_1)) (0 : Int))
    (RT.br ((loopV (ecmpP_t0_L0 (l0_6, (↑l0_6.length : Int), i1_0, l1_1, i2_0, l2_1)) (0 : Int)).fst.beq (0 : Nat))
     (okL (AV.int IntKind.i64 (loopV (ecmpP_t0_L0 (l0_6, (↑l0_6.length : Int), i1_0, l1_1, i2_0, l2_1)) (0 : Int)).snd) ([]))
     (RT.br ((loopV (ecmpP_t0_L0 (l0_6, (↑l0_6.length : Int), i1_0, l1_1, i2_0, l2_1)) (0 : Int)).fst.beq (1 : Nat))
      (RT.br (decide (l1_1.length < (4611686018427387904 : Nat)))
       (okL (AV.int IntKind.i64 (or2 (cmpI i2_0 i1_0) (rowD l1_1 l2_1))) ([]))
       (RT.fail))
      (RT.fail)))
    (RT.fail)
theorem ecmpP_t0r_b (c0_0 : List UInt8) (l0_1 : List D) (i0_2 : Int) (l0_3 : List D) (l0_4 : List D) (l0_5 : List D) (l0_6 : List D) (i0_7 : Int) (c0_8 : List UInt8) (i1_0 : Int) (l1_1 : List D) (i2_0 : Int) (l2_1 : List D) (K : AV → St → Prop) : bodyK Try.prog atP_pr ecmpP_t0_L0_LP 100 40 [] [(.agg [.str c0_0, .fz false (.struct [(.slice .str), (.int .i64), (.struct [(.int .i64), (.int .i64), .str])]) l0_1, .int .i64 i0_2, .fz false (.slice .str) l0_3, .fz false (.struct [(.int .i64), (.slice .str)]) l0_4, .fz false (.struct [(.int .i64), (.int .i64), (.struct [(.int .i64), (.int .i64), .str])]) l0_5, .fz false (.struct [(.int .i64), .bool]) l0_6, .int .i64 i0_7, .str c0_8]), (.agg [.int .i64 i1_0, .fz false (.struct [(.int .i64), (.int .i64), .str]) l1_1]), (.agg [.int .i64 i2_0, .fz false (.struct [(.int .i64), (.int .i64), .str]) l2_1])] [] K = RT.K (fun v s _ => K v s) (ecmpP_t0r c0_0 l0_1 i0_2 l0_3 l0_4 l0_5 l0_6 i0_7 c0_8 i1_0 l1_1 i2_0 l2_1) := by kernel_rfl
noncomputable def ecmpP_t0_V0 (c0_0 : List UInt8) (l0_1 : List D) (i0_2 : Int) (l0_3 : List D) (l0_4 : List D) (l0_5 : List D) (l0_6 : List D) (i0_7 : Int) (c0_8 : List UInt8) (i1_0 : Int) (l1_1 : List D) (i2_0 : Int) (l2_1 : List D) : Bool :=
  loopOk (ecmpP_t0_L0 (l0_6, (↑l0_6.length : Int), i1_0, l1_1, i2_0, l2_1)) (0 : Int) && bif (loopV (ecmpP_t0_L0 (l0_6, (↑l0_6.length : Int), i1_0, l1_1, i2_0, l2_1)) (0 : Int)).fst.beq (0 : Nat) then true else (loopV (ecmpP_t0_L0 (l0_6, (↑l0_6.length : Int), i1_0, l1_1, i2_0, l2_1)) (0 : Int)).fst.beq (1 : Nat) && (decide (l1_1.length < (4611686018427387904 : Nat)) && true)
noncomputable def ecmpP_t0_V1 (c0_0 : List UInt8) (l0_1 : List D) (i0_2 : Int) (l0_3 : List D) (l0_4 : List D) (l0_5 : List D) (l0_6 : List D) (i0_7 : Int) (c0_8 : List UInt8) (i1_0 : Int) (l1_1 : List D) (i2_0 : Int) (l2_1 : List D) : Int :=
  bif (loopV (ecmpP_t0_L0 (l0_6, (↑l0_6.length : Int), i1_0, l1_1, i2_0, l2_1)) (0 : Int)).fst.beq (0 : Nat) then (loopV (ecmpP_t0_L0 (l0_6, (↑l0_6.length : Int), i1_0, l1_1, i2_0, l2_1)) (0 : Int)).snd else or2 (cmpI i2_0 i1_0) (rowD l1_1 l2_1)
noncomputable def ecmpP_t0 (c0_0 : List UInt8) (l0_1 : List D) (i0_2 : Int) (l0_3 : List D) (l0_4 : List D) (l0_5 : List D) (l0_6 : List D) (i0_7 : Int) (c0_8 : List UInt8) (i1_0 : Int) (l1_1 : List D) (i2_0 : Int) (l2_1 : List D) : RT :=
  RT.br (ecmpP_t0_V0 c0_0 l0_1 i0_2 l0_3 l0_4 l0_5 l0_6 i0_7 c0_8 i1_0 l1_1 i2_0 l2_1)
    (okL (Go.Sy.AV.int (IntKind.i64) (ecmpP_t0_V1 c0_0 l0_1 i0_2 l0_3 l0_4 l0_5 l0_6 i0_7 c0_8 i1_0 l1_1 i2_0 l2_1)) [])
    (RT.fail)
theorem ecmpP_t0_m (c0_0 : List UInt8) (l0_1 : List D) (i0_2 : Int) (l0_3 : List D) (l0_4 : List D) (l0_5 : List D) (l0_6 : List D) (i0_7 : Int) (c0_8 : List UInt8) (i1_0 : Int) (l1_1 : List D) (i2_0 : Int) (l2_1 : List D) (K : AV → St → Prop) : RT.K (fun v s _ => K v s) (RT.mergeW ([]) (ecmpP_t0r c0_0 l0_1 i0_2 l0_3 l0_4 l0_5 l0_6 i0_7 c0_8 i1_0 l1_1 i2_0 l2_1)) = RT.K (fun v s _ => K v s) (ecmpP_t0 c0_0 l0_1 i0_2 l0_3 l0_4 l0_5 l0_6 i0_7 c0_8 i1_0 l1_1 i2_0 l2_1) := by kernel_rfl
theorem ecmpP_t0_b (c0_0 : List UInt8) (l0_1 : List D) (i0_2 : Int) (l0_3 : List D) (l0_4 : List D) (l0_5 : List D) (l0_6 : List D) (i0_7 : Int) (c0_8 : List UInt8) (i1_0 : Int) (l1_1 : List D) (i2_0 : Int) (l2_1 : List D) (K : AV → St → Prop) (h : RT.K (fun v s _ => K v s) (ecmpP_t0 c0_0 l0_1 i0_2 l0_3 l0_4 l0_5 l0_6 i0_7 c0_8 i1_0 l1_1 i2_0 l2_1)) : bodyK Try.prog atP_pr ecmpP_t0_L0_LP 100 40 [] [(.agg [.str c0_0, .fz false (.struct [(.slice .str), (.int .i64), (.struct [(.int .i64), (.int .i64), .str])]) l0_1, .int .i64 i0_2, .fz false (.slice .str) l0_3, .fz false (.struct [(.int .i64), (.slice .str)]) l0_4, .fz false (.struct [(.int .i64), (.int .i64), (.struct [(.int .i64), (.int .i64), .str])]) l0_5, .fz false (.struct [(.int .i64), .bool]) l0_6, .int .i64 i0_7, .str c0_8]), (.agg [.int .i64 i1_0, .fz false (.struct [(.int .i64), (.int .i64), .str]) l1_1]), (.agg [.int .i64 i2_0, .fz false (.struct [(.int .i64), (.int .i64), .str]) l2_1])] [] K := Eq.mpr (ecmpP_t0r_b ..) (mergeW_K (S := []) _ ⟨⟨rfl, ⟨⟨rfl, trivial⟩, trivial⟩⟩, trivial⟩ (Eq.mpr (ecmpP_t0_m ..) h))
theorem ecmpP_t0_lp (hpr : PrOk Try.prog atP_pr) : LoopsFor Try.prog 40 0 ecmpP_t0_L0_LP := (ecmpP_t0_L0_lp hpr)
noncomputable def ecmpP : Sy.Spec := ⟨[.data (.struct [.str, (.slice (.struct [(.slice .str), (.int .i64), (.struct [(.int .i64), (.int .i64), .str])])), (.int .i64), (.slice (.slice .str)), (.slice (.struct [(.int .i64), (.slice .str)])), (.slice (.struct [(.int .i64), (.int .i64), (.struct [(.int .i64), (.int .i64), .str])])), (.slice (.struct [(.int .i64), .bool])), (.int .i64), .str]), .data (.struct [(.int .i64), (.slice (.struct [(.int .i64), (.int .i64), .str]))]), .data (.struct [(.int .i64), (.slice (.struct [(.int .i64), (.int .i64), .str]))])], fun args s => match args, s with
  | [(.agg [(.str c0_0), (.fz false e_0 l0_1), (.int .i64 i0_2), (.fz false e_1 l0_3), (.fz false e_2 l0_4), (.fz false e_3 l0_5), (.fz false e_4 l0_6), (.int .i64 i0_7), (.str c0_8)]), (.agg [(.int .i64 i1_0), (.fz false e_5 l1_1)]), (.agg [(.int .i64 i2_0), (.fz false e_6 l2_1)])], [] => .br (Sh.beq e_0 (Sh.struct [Sh.str.slice, Sh.int IntKind.i64, Sh.struct [Sh.int IntKind.i64, Sh.int IntKind.i64, Sh.str]]) && (Sh.beq e_1 (Sh.str.slice) && (Sh.beq e_2 (Sh.struct [Sh.int IntKind.i64, Sh.str.slice]) && (Sh.beq e_3 (Sh.struct [Sh.int IntKind.i64, Sh.int IntKind.i64, Sh.struct [Sh.int IntKind.i64, Sh.int IntKind.i64, Sh.str]]) && (Sh.beq e_4 (Sh.struct [Sh.int IntKind.i64, Sh.bool]) && (Sh.beq e_5 shV && (Sh.beq e_6 shV && (true)))))))) (ecmpP_t0 c0_0 l0_1 i0_2 l0_3 l0_4 l0_5 l0_6 i0_7 c0_8 i1_0 l1_1 i2_0 l2_1) .fail
  | _, _ => .fail⟩
theorem ecmpP_ok : SpecOk Try.prog 40 ecmpP.f := specOk_comes fun args s v s' tch e => by
  simp only [ecmpP] at e
  split at e
  · obtain ⟨hg, e⟩ := if_run e
    simp only [Bool.and_eq_true] at hg
    obtain ⟨h_0, h_1, h_2, h_3, h_4, h_5, h_6, _⟩ := hg
    obtain rfl := Sh.beq_eq _ _ h_0
    obtain rfl := Sh.beq_eq _ _ h_1
    obtain rfl := Sh.beq_eq _ _ h_2
    obtain rfl := Sh.beq_eq _ _ h_3
    obtain rfl := Sh.beq_eq _ _ h_4
    obtain rfl := Sh.beq_eq _ _ h_5
    obtain rfl := Sh.beq_eq _ _ h_6
    refine comes_of ok atP_pr_k (L := 100) (ms := []) (by kernel_rfl) (ecmpP_t0_lp atP_pr_k) ?_
    exact ecmpP_t0_b (h := K_run e) ..
  · cases e
noncomputable def ecmpP_pr : FuncId → Option Sy.Spec := addP 40 ecmpP atP_pr
theorem ecmpP_pr_k : PrOk Try.prog ecmpP_pr := prOk_add ecmpP_ok atP_pr_k
noncomputable def finR_t0_L2_T (l10 : List D) (c11 : List UInt8) (l12 : List D) (i13 : Int) (l14 : List D) (l15 : List D) (l16 : List D) (l17 : List D) (i18 : Int) (c19 : List UInt8) (n36 : Nat) (i37 : Int) (l38 : List D) (b20 : Bool) (i21 : Int) : List AV := ([.any, AV.fz false (Sh.struct [Sh.int IntKind.i64, shV.slice]) l10, AV.ptr (some ((0 : Nat), (0 : Nat))), .any, .any, AV.tsl false (Sh.struct [Sh.int IntKind.i64, shV.slice]) (1 : Nat) (0 : Nat) n36 Cap.tight, AV.int IntKind.i64 i37, AV.bool b20, AV.int IntKind.i64 i21] ++ padAny 96)
noncomputable def finR_t0_L2_S (l10 : List D) (c11 : List UInt8) (l12 : List D) (i13 : Int) (l14 : List D) (l15 : List D) (l16 : List D) (l17 : List D) (i18 : Int) (c19 : List UInt8) (n36 : Nat) (i37 : Int) (l38 : List D) (b20 : Bool) (i21 : Int) : St := [Ent.cells [AV.str c11, AV.fz false (Sh.struct [Sh.str.slice, Sh.int IntKind.i64, Sh.struct [Sh.int IntKind.i64, Sh.int IntKind.i64, Sh.str]]) l12, AV.int IntKind.i64 i13, AV.fz false Sh.str.slice l14, AV.fz false (Sh.struct [Sh.int IntKind.i64, Sh.str.slice]) l15, AV.fz false (Sh.struct [Sh.int IntKind.i64, Sh.int IntKind.i64, Sh.struct [Sh.int IntKind.i64, Sh.int IntKind.i64, Sh.str]]) l16, AV.fz false (Sh.struct [Sh.int IntKind.i64, Sh.bool]) l17, AV.int IntKind.i64 i18, AV.str c19], Ent.tbl false (Sh.struct [Sh.int IntKind.i64, shV.slice]) l38]
noncomputable def finR_t0_L2_of : List AV → St → Option (((List D) × (List UInt8) × (List D) × Int × (List D) × (List D) × (List D) × (List D) × Int × (List UInt8) × Nat × Int × (List D)) × (Bool × Int)) := fun t s => match t, s with
  | .any :: (.fz false e_0 l10) :: (.ptr (.some (e_1, e_2))) :: .any :: .any :: (.tsl false e_3 e_4 e_5 n36 .tight) :: (.int .i64 i37) :: (.bool b20) :: (.int .i64 i21) :: t_0, [(.cells [(.str c11), (.fz false e_6 l12), (.int .i64 i13), (.fz false e_7 l14), (.fz false e_8 l15), (.fz false e_9 l16), (.fz false e_10 l17), (.int .i64 i18), (.str c19)]), (.tbl false e_11 l38)] => (match dropAny 96 t_0 with
    | some ([]) => (match Sh.beq e_0 (Sh.struct [Sh.int IntKind.i64, shV.slice]) && (Nat.beq e_1 (0 : Nat) && (Nat.beq e_2 (0 : Nat) && (Sh.beq e_3 (Sh.struct [Sh.int IntKind.i64, shV.slice]) && (Nat.beq e_4 (1 : Nat) && (Nat.beq e_5 (0 : Nat) && (Sh.beq e_6 (Sh.struct [Sh.str.slice, Sh.int IntKind.i64, Sh.struct [Sh.int IntKind.i64, Sh.int IntKind.i64, Sh.str]]) && (Sh.beq e_7 (Sh.str.slice) && (Sh.beq e_8 (Sh.struct [Sh.int IntKind.i64, Sh.str.slice]) && (Sh.beq e_9 (Sh.struct [Sh.int IntKind.i64, Sh.int IntKind.i64, Sh.struct [Sh.int IntKind.i64, Sh.int IntKind.i64, Sh.str]]) && (Sh.beq e_10 (Sh.struct [Sh.int IntKind.i64, Sh.bool]) && (Sh.beq e_11 (Sh.struct [Sh.int IntKind.i64, shV.slice]) && (true)))))))))))) with | true => some ((l10, c11, l12, i13, l14, l15, l16, l17, i18, c19, n36, i37, l38), (b20, i21)) | false => none)
    | _ => none)
  | _, _ => none
noncomputable def finR_t0_L2_ex (i : (List D) × (List UInt8) × (List D) × Int × (List D) × (List D) × (List D) × (List D) × Int × (List UInt8) × Nat × Int × (List D)) (y : Bool) (k : KS) : Prop := let l10 := i.1; let c11 := i.2.1; let l12 := i.2.2.1; let i13 := i.2.2.2.1; let l14 := i.2.2.2.2.1; let l15 := i.2.2.2.2.2.1; let l16 := i.2.2.2.2.2.2.1; let l17 := i.2.2.2.2.2.2.2.1; let i18 := i.2.2.2.2.2.2.2.2.1; let c19 := i.2.2.2.2.2.2.2.2.2.1; let n36 := i.2.2.2.2.2.2.2.2.2.2.1; let i37 := i.2.2.2.2.2.2.2.2.2.2.2.1; let l38 := i.2.2.2.2.2.2.2.2.2.2.2.2; let by47 := y; k (Ex.normal) ([.any, AV.fz false (Sh.struct [Sh.int IntKind.i64, shV.slice]) l10, AV.ptr (some ((0 : Nat), (0 : Nat))), .any, .any, AV.tsl false (Sh.struct [Sh.int IntKind.i64, shV.slice]) (1 : Nat) (0 : Nat) n36 Cap.tight, AV.int IntKind.i64 i37, AV.bool by47] ++ padAny 97) [Ent.cells [AV.str c11, AV.fz false (Sh.struct [Sh.str.slice, Sh.int IntKind.i64, Sh.struct [Sh.int IntKind.i64, Sh.int IntKind.i64, Sh.str]]) l12, AV.int IntKind.i64 i13, AV.fz false Sh.str.slice l14, AV.fz false (Sh.struct [Sh.int IntKind.i64, Sh.str.slice]) l15, AV.fz false (Sh.struct [Sh.int IntKind.i64, Sh.int IntKind.i64, Sh.struct [Sh.int IntKind.i64, Sh.int IntKind.i64, Sh.str]]) l16, AV.fz false (Sh.struct [Sh.int IntKind.i64, Sh.bool]) l17, AV.int IntKind.i64 i18, AV.str c19], Ent.tbl false (Sh.struct [Sh.int IntKind.i64, shV.slice]) l38]
theorem finR_t0_L2_of_ok : ∀ t s (i : (List D) × (List UInt8) × (List D) × Int × (List D) × (List D) × (List D) × (List D) × Int × (List UInt8) × Nat × Int × (List D)) (x : Bool × Int), finR_t0_L2_of t s = some (i, x) → t = finR_t0_L2_T i.1 i.2.1 i.2.2.1 i.2.2.2.1 i.2.2.2.2.1 i.2.2.2.2.2.1 i.2.2.2.2.2.2.1 i.2.2.2.2.2.2.2.1 i.2.2.2.2.2.2.2.2.1 i.2.2.2.2.2.2.2.2.2.1 i.2.2.2.2.2.2.2.2.2.2.1 i.2.2.2.2.2.2.2.2.2.2.2.1 i.2.2.2.2.2.2.2.2.2.2.2.2 x.1 x.2 ∧ s = finR_t0_L2_S i.1 i.2.1 i.2.2.1 i.2.2.2.1 i.2.2.2.2.1 i.2.2.2.2.2.1 i.2.2.2.2.2.2.1 i.2.2.2.2.2.2.2.1 i.2.2.2.2.2.2.2.2.1 i.2.2.2.2.2.2.2.2.2.1 i.2.2.2.2.2.2.2.2.2.2.1 i.2.2.2.2.2.2.2.2.2.2.2.1 i.2.2.2.2.2.2.2.2.2.2.2.2 x.1 x.2 := by
  intro t s i x h
  unfold finR_t0_L2_of at h
  split at h
  · split at h
    · rename_i ha
      obtain rfl := dropAny_eq ha
      split at h
      · rename_i hg
        cases h
        simp only [Bool.and_eq_true] at hg
        obtain ⟨h_0, h_1, h_2, h_3, h_4, h_5, h_6, h_7, h_8, h_9, h_10, h_11, _⟩ := hg
        obtain rfl := Sh.beq_eq _ _ h_0
        obtain rfl := Nat.eq_of_beq_eq_true h_1
        obtain rfl := Nat.eq_of_beq_eq_true h_2
        obtain rfl := Sh.beq_eq _ _ h_3
        obtain rfl := Nat.eq_of_beq_eq_true h_4
        obtain rfl := Nat.eq_of_beq_eq_true h_5
        obtain rfl := Sh.beq_eq _ _ h_6
        obtain rfl := Sh.beq_eq _ _ h_7
        obtain rfl := Sh.beq_eq _ _ h_8
        obtain rfl := Sh.beq_eq _ _ h_9
        obtain rfl := Sh.beq_eq _ _ h_10
        obtain rfl := Sh.beq_eq _ _ h_11
        exact ⟨rfl, rfl⟩
      · cases h
    · cases h
  · cases h
noncomputable def finR_t0_L2_stp (l10 : List D) (c11 : List UInt8) (l12 : List D) (i13 : Int) (l14 : List D) (l15 : List D) (l16 : List D) (l17 : List D) (i18 : Int) (c19 : List UInt8) (n36 : Nat) (i37 : Int) (l38 : List D) (b20 : Bool) (i21 : Int) : NT (Bool × Int) (Bool) :=
  NT.br (decide (i21 < (↑l16.length : Int)))
    (NT.br (decide ((0 : Int) ≤ i21) && decide (i21 < (↑l16.length : Int)))
     (NT.br (b20)
      (NT.br (decide ((0 : Int) ≤ i37) && decide (i37 < (↑l10.length : Int)))
       (NT.br (decide ((0 : Int) ≤ IntKind.i64.wrap ((↑l14.length : Int) + ((l16.getD i21.toNat D.nul).fld (0 : Nat)).asInt)) && decide (IntKind.i64.wrap ((↑l14.length : Int) + ((l16.getD i21.toNat D.nul).fld (0 : Nat)).asInt) < (↑((l10.getD i37.toNat D.nul).fld (1 : Nat)).els.length : Int)))
        (NT.br (tstR_t0_V0 ((l16.getD i21.toNat D.nul).fld (1 : Nat)).asInt ((((l10.getD i37.toNat D.nul).fld (1 : Nat)).els.getD (IntKind.i64.wrap ((↑l14.length : Int) + ((l16.getD i21.toNat D.nul).fld (0 : Nat)).asInt)).toNat D.nul).fld (0 : Nat)).asInt ((((l10.getD i37.toNat D.nul).fld (1 : Nat)).els.getD (IntKind.i64.wrap ((↑l14.length : Int) + ((l16.getD i21.toNat D.nul).fld (0 : Nat)).asInt)).toNat D.nul).fld (1 : Nat)).asInt ((((l10.getD i37.toNat D.nul).fld (1 : Nat)).els.getD (IntKind.i64.wrap ((↑l14.length : Int) + ((l16.getD i21.toNat D.nul).fld (0 : Nat)).asInt)).toNat D.nul).fld (2 : Nat)).asStr (((l16.getD i21.toNat D.nul).fld (2 : Nat)).fld (0 : Nat)).asInt (((l16.getD i21.toNat D.nul).fld (2 : Nat)).fld (1 : Nat)).asInt (((l16.getD i21.toNat D.nul).fld (2 : Nat)).fld (2 : Nat)).asStr)
         (NT.more (tstR_t0_V1 ((l16.getD i21.toNat D.nul).fld (1 : Nat)).asInt ((((l10.getD i37.toNat D.nul).fld (1 : Nat)).els.getD (IntKind.i64.wrap ((↑l14.length : Int) + ((l16.getD i21.toNat D.nul).fld (0 : Nat)).asInt)).toNat D.nul).fld (0 : Nat)).asInt ((((l10.getD i37.toNat D.nul).fld (1 : Nat)).els.getD (IntKind.i64.wrap ((↑l14.length : Int) + ((l16.getD i21.toNat D.nul).fld (0 : Nat)).asInt)).toNat D.nul).fld (1 : Nat)).asInt ((((l10.getD i37.toNat D.nul).fld (1 : Nat)).els.getD (IntKind.i64.wrap ((↑l14.length : Int) + ((l16.getD i21.toNat D.nul).fld (0 : Nat)).asInt)).toNat D.nul).fld (2 : Nat)).asStr (((l16.getD i21.toNat D.nul).fld (2 : Nat)).fld (0 : Nat)).asInt (((l16.getD i21.toNat D.nul).fld (2 : Nat)).fld (1 : Nat)).asInt (((l16.getD i21.toNat D.nul).fld (2 : Nat)).fld (2 : Nat)).asStr, IntKind.i64.wrap (i21 + (1 : Int))))
         (NT.fail))
        (NT.fail))
       (NT.fail))
      (NT.more (false, IntKind.i64.wrap (i21 + (1 : Int)))))
     (NT.fail))
    (NT.done (b20))
noncomputable def finR_t0_L2 (i : (List D) × (List UInt8) × (List D) × Int × (List D) × (List D) × (List D) × (List D) × Int × (List UInt8) × Nat × Int × (List D)) (x : Bool × Int) := finR_t0_L2_stp i.1 i.2.1 i.2.2.1 i.2.2.2.1 i.2.2.2.2.1 i.2.2.2.2.2.1 i.2.2.2.2.2.2.1 i.2.2.2.2.2.2.2.1 i.2.2.2.2.2.2.2.2.1 i.2.2.2.2.2.2.2.2.2.1 i.2.2.2.2.2.2.2.2.2.2.1 i.2.2.2.2.2.2.2.2.2.2.2.1 i.2.2.2.2.2.2.2.2.2.2.2.2 x.1 x.2
theorem finR_t0_L2_rd (l10 : List D) (c11 : List UInt8) (l12 : List D) (i13 : Int) (l14 : List D) (l15 : List D) (l16 : List D) (l17 : List D) (i18 : Int) (c19 : List UInt8) (n36 : Nat) (i37 : Int) (l38 : List D) (b20 : Bool) (i21 : Int) (more : List AV → St → Prop) (kk : KS) : roundK Try.prog ecmpP_pr noL 100 19 2 (finR_t0_L2_T l10 c11 l12 i13 l14 l15 l16 l17 i18 c19 n36 i37 l38 b20 i21) (finR_t0_L2_S l10 c11 l12 i13 l14 l15 l16 l17 i18 c19 n36 i37 l38 b20 i21) (againK 0 2 [.no, .yes, .yes, .no, .no, .yes, .yes, .yes, .yes] [.no, .yes, .yes, .no, .yes, .yes, .yes, .yes] more kk) = (finR_t0_L2_stp l10 c11 l12 i13 l14 l15 l16 l17 i18 c19 n36 i37 l38 b20 i21).K (fun x' => more (finR_t0_L2_T l10 c11 l12 i13 l14 l15 l16 l17 i18 c19 n36 i37 l38 x'.1 x'.2) (finR_t0_L2_S l10 c11 l12 i13 l14 l15 l16 l17 i18 c19 n36 i37 l38 x'.1 x'.2)) (fun y => finR_t0_L2_ex (l10, c11, l12, i13, l14, l15, l16, l17, i18, c19, n36, i37, l38) y kk) := by kernel_rfl
noncomputable def finR_t0_L2_LP : Nat → Option LoopS := addL 2 (headG 0 [.no, .yes, .yes, .no, .no, .yes, .yes, .yes, .yes] (outL finR_t0_L2 finR_t0_L2_of finR_t0_L2_ex)) noL
theorem finR_t0_L2_lp (hpr : PrOk Try.prog ecmpP_pr) : LoopsFor Try.prog 19 0 finR_t0_L2_LP := loops_lp (L := 100) (T := fun i x => finR_t0_L2_T i.1 i.2.1 i.2.2.1 i.2.2.2.1 i.2.2.2.2.1 i.2.2.2.2.2.1 i.2.2.2.2.2.2.1 i.2.2.2.2.2.2.2.1 i.2.2.2.2.2.2.2.2.1 i.2.2.2.2.2.2.2.2.2.1 i.2.2.2.2.2.2.2.2.2.2.1 i.2.2.2.2.2.2.2.2.2.2.2.1 i.2.2.2.2.2.2.2.2.2.2.2.2 x.1 x.2) (S := fun i x => finR_t0_L2_S i.1 i.2.1 i.2.2.1 i.2.2.2.1 i.2.2.2.2.1 i.2.2.2.2.2.1 i.2.2.2.2.2.2.1 i.2.2.2.2.2.2.2.1 i.2.2.2.2.2.2.2.2.1 i.2.2.2.2.2.2.2.2.2.1 i.2.2.2.2.2.2.2.2.2.2.1 i.2.2.2.2.2.2.2.2.2.2.2.1 i.2.2.2.2.2.2.2.2.2.2.2.2 x.1 x.2) ok hpr (by kernel_rfl) loops_none finR_t0_L2_of_ok (fun i x more kk => finR_t0_L2_rd i.1 i.2.1 i.2.2.1 i.2.2.2.1 i.2.2.2.2.1 i.2.2.2.2.2.1 i.2.2.2.2.2.2.1 i.2.2.2.2.2.2.2.1 i.2.2.2.2.2.2.2.2.1 i.2.2.2.2.2.2.2.2.2.1 i.2.2.2.2.2.2.2.2.2.2.1 i.2.2.2.2.2.2.2.2.2.2.2.1 i.2.2.2.2.2.2.2.2.2.2.2.2 x.1 x.2 more kk)
noncomputable def finR_t0_L4_T (l23 : List D) (c24 : List UInt8) (l25 : List D) (i26 : Int) (l27 : List D) (l28 : List D) (l29 : List D) (l30 : List D) (i31 : Int) (c32 : List UInt8) (n40 : Nat) (i41 : Int) (l43 : List D) (i42 : Int) : List AV := ([.any, AV.fz false (Sh.struct [Sh.int IntKind.i64, shV.slice]) l23, AV.ptr (some ((0 : Nat), (0 : Nat))), .any, .any, AV.tsl false (Sh.struct [Sh.int IntKind.i64, shV.slice]) (1 : Nat) (0 : Nat) n40 Cap.tight, AV.int IntKind.i64 i41, .any, .any, .any, AV.int IntKind.i64 i42] ++ padAny 94)
noncomputable def finR_t0_L4_S (l23 : List D) (c24 : List UInt8) (l25 : List D) (i26 : Int) (l27 : List D) (l28 : List D) (l29 : List D) (l30 : List D) (i31 : Int) (c32 : List UInt8) (n40 : Nat) (i41 : Int) (l43 : List D) (i42 : Int) : St := [Ent.cells [AV.str c24, AV.fz false (Sh.struct [Sh.str.slice, Sh.int IntKind.i64, Sh.struct [Sh.int IntKind.i64, Sh.int IntKind.i64, Sh.str]]) l25, AV.int IntKind.i64 i26, AV.fz false Sh.str.slice l27, AV.fz false (Sh.struct [Sh.int IntKind.i64, Sh.str.slice]) l28, AV.fz false (Sh.struct [Sh.int IntKind.i64, Sh.int IntKind.i64, Sh.struct [Sh.int IntKind.i64, Sh.int IntKind.i64, Sh.str]]) l29, AV.fz false (Sh.struct [Sh.int IntKind.i64, Sh.bool]) l30, AV.int IntKind.i64 i31, AV.str c32], Ent.tbl false (Sh.struct [Sh.int IntKind.i64, shV.slice]) l43]
noncomputable def finR_t0_L4_of : List AV → St → Option (((List D) × (List UInt8) × (List D) × Int × (List D) × (List D) × (List D) × (List D) × Int × (List UInt8) × Nat × Int × (List D)) × (Int)) := fun t s => match t, s with
  | .any :: (.fz false e_0 l23) :: (.ptr (.some (e_1, e_2))) :: .any :: .any :: (.tsl false e_3 e_4 e_5 n40 .tight) :: (.int .i64 i41) :: .any :: .any :: .any :: (.int .i64 i42) :: t_0, [(.cells [(.str c24), (.fz false e_6 l25), (.int .i64 i26), (.fz false e_7 l27), (.fz false e_8 l28), (.fz false e_9 l29), (.fz false e_10 l30), (.int .i64 i31), (.str c32)]), (.tbl false e_11 l43)] => (match dropAny 94 t_0 with
    | some ([]) => (match Sh.beq e_0 (Sh.struct [Sh.int IntKind.i64, shV.slice]) && (Nat.beq e_1 (0 : Nat) && (Nat.beq e_2 (0 : Nat) && (Sh.beq e_3 (Sh.struct [Sh.int IntKind.i64, shV.slice]) && (Nat.beq e_4 (1 : Nat) && (Nat.beq e_5 (0 : Nat) && (Sh.beq e_6 (Sh.struct [Sh.str.slice, Sh.int IntKind.i64, Sh.struct [Sh.int IntKind.i64, Sh.int IntKind.i64, Sh.str]]) && (Sh.beq e_7 (Sh.str.slice) && (Sh.beq e_8 (Sh.struct [Sh.int IntKind.i64, Sh.str.slice]) && (Sh.beq e_9 (Sh.struct [Sh.int IntKind.i64, Sh.int IntKind.i64, Sh.struct [Sh.int IntKind.i64, Sh.int IntKind.i64, Sh.str]]) && (Sh.beq e_10 (Sh.struct [Sh.int IntKind.i64, Sh.bool]) && (Sh.beq e_11 (Sh.struct [Sh.int IntKind.i64, shV.slice]) && (true)))))))))))) with | true => some ((l23, c24, l25, i26, l27, l28, l29, l30, i31, c32, n40, i41, l43), (i42)) | false => none)
    | _ => none)
  | _, _ => none
noncomputable def finR_t0_L4_ex (i : (List D) × (List UInt8) × (List D) × Int × (List D) × (List D) × (List D) × (List D) × Int × (List UInt8) × Nat × Int × (List D)) (y : Int) (k : KS) : Prop := let l23 := i.1; let c24 := i.2.1; let l25 := i.2.2.1; let i26 := i.2.2.2.1; let l27 := i.2.2.2.2.1; let l28 := i.2.2.2.2.2.1; let l29 := i.2.2.2.2.2.2.1; let l30 := i.2.2.2.2.2.2.2.1; let i31 := i.2.2.2.2.2.2.2.2.1; let c32 := i.2.2.2.2.2.2.2.2.2.1; let n40 := i.2.2.2.2.2.2.2.2.2.2.1; let i41 := i.2.2.2.2.2.2.2.2.2.2.2.1; let l43 := i.2.2.2.2.2.2.2.2.2.2.2.2; let iy48 := y; k (Ex.normal) ([.any, AV.fz false (Sh.struct [Sh.int IntKind.i64, shV.slice]) l23, AV.ptr (some ((0 : Nat), (0 : Nat))), .any, .any, AV.tsl false (Sh.struct [Sh.int IntKind.i64, shV.slice]) (1 : Nat) (0 : Nat) n40 Cap.tight, AV.int IntKind.i64 i41, .any, .any, .any, AV.int IntKind.i64 iy48] ++ padAny 94) [Ent.cells [AV.str c24, AV.fz false (Sh.struct [Sh.str.slice, Sh.int IntKind.i64, Sh.struct [Sh.int IntKind.i64, Sh.int IntKind.i64, Sh.str]]) l25, AV.int IntKind.i64 i26, AV.fz false Sh.str.slice l27, AV.fz false (Sh.struct [Sh.int IntKind.i64, Sh.str.slice]) l28, AV.fz false (Sh.struct [Sh.int IntKind.i64, Sh.int IntKind.i64, Sh.struct [Sh.int IntKind.i64, Sh.int IntKind.i64, Sh.str]]) l29, AV.fz false (Sh.struct [Sh.int IntKind.i64, Sh.bool]) l30, AV.int IntKind.i64 i31, AV.str c32], Ent.tbl false (Sh.struct [Sh.int IntKind.i64, shV.slice]) l43]
theorem finR_t0_L4_of_ok : ∀ t s (i : (List D) × (List UInt8) × (List D) × Int × (List D) × (List D) × (List D) × (List D) × Int × (List UInt8) × Nat × Int × (List D)) (x : Int), finR_t0_L4_of t s = some (i, x) → t = finR_t0_L4_T i.1 i.2.1 i.2.2.1 i.2.2.2.1 i.2.2.2.2.1 i.2.2.2.2.2.1 i.2.2.2.2.2.2.1 i.2.2.2.2.2.2.2.1 i.2.2.2.2.2.2.2.2.1 i.2.2.2.2.2.2.2.2.2.1 i.2.2.2.2.2.2.2.2.2.2.1 i.2.2.2.2.2.2.2.2.2.2.2.1 i.2.2.2.2.2.2.2.2.2.2.2.2 x ∧ s = finR_t0_L4_S i.1 i.2.1 i.2.2.1 i.2.2.2.1 i.2.2.2.2.1 i.2.2.2.2.2.1 i.2.2.2.2.2.2.1 i.2.2.2.2.2.2.2.1 i.2.2.2.2.2.2.2.2.1 i.2.2.2.2.2.2.2.2.2.1 i.2.2.2.2.2.2.2.2.2.2.1 i.2.2.2.2.2.2.2.2.2.2.2.1 i.2.2.2.2.2.2.2.2.2.2.2.2 x := by
  intro t s i x h
  unfold finR_t0_L4_of at h
  split at h
  · split at h
    · rename_i ha
      obtain rfl := dropAny_eq ha
      split at h
      · rename_i hg
        cases h
        simp only [Bool.and_eq_true] at hg
        obtain ⟨h_0, h_1, h_2, h_3, h_4, h_5, h_6, h_7, h_8, h_9, h_10, h_11, _⟩ := hg
        obtain rfl := Sh.beq_eq _ _ h_0
        obtain rfl := Nat.eq_of_beq_eq_true h_1
        obtain rfl := Nat.eq_of_beq_eq_true h_2
        obtain rfl := Sh.beq_eq _ _ h_3
        obtain rfl := Nat.eq_of_beq_eq_true h_4
        obtain rfl := Nat.eq_of_beq_eq_true h_5
        obtain rfl := Sh.beq_eq _ _ h_6
        obtain rfl := Sh.beq_eq _ _ h_7
        obtain rfl := Sh.beq_eq _ _ h_8
        obtain rfl := Sh.beq_eq _ _ h_9
        obtain rfl := Sh.beq_eq _ _ h_10
        obtain rfl := Sh.beq_eq _ _ h_11
        exact ⟨rfl, rfl⟩
      · cases h
    · cases h
  · cases h
noncomputable def finR_t0_L4_stp (l23 : List D) (c24 : List UInt8) (l25 : List D) (i26 : Int) (l27 : List D) (l28 : List D) (l29 : List D) (l30 : List D) (i31 : Int) (c32 : List UInt8) (n40 : Nat) (i41 : Int) (l43 : List D) (i42 : Int) : NT (Int) (Int) :=
  NT.br (decide (i42 > (0 : Int)))
    (NT.br (decide ((0 : Int) ≤ i41) && decide (i41 < (↑l23.length : Int)))
     (NT.br (decide ((0 : Int) ≤ IntKind.i64.wrap (i42 - (1 : Int))) && decide (IntKind.i64.wrap (i42 - (1 : Int)) < (↑n40 : Int)))
      (NT.br (decide ((0 : Nat) + (IntKind.i64.wrap (i42 - (1 : Int))).toNat < l43.length))
       (NT.br (befR_t0_V0 c24 l25 i26 l27 l28 l29 l30 i31 c32 ((l23.getD i41.toNat D.nul).fld (0 : Nat)).asInt ((l23.getD i41.toNat D.nul).fld (1 : Nat)).els ((l43.getD ((0 : Nat) + (IntKind.i64.wrap (i42 - (1 : Int))).toNat) D.nul).fld (0 : Nat)).asInt ((l43.getD ((0 : Nat) + (IntKind.i64.wrap (i42 - (1 : Int))).toNat) D.nul).fld (1 : Nat)).els)
        (NT.br (befR_t0_V1 c24 l25 i26 l27 l28 l29 l30 i31 c32 ((l23.getD i41.toNat D.nul).fld (0 : Nat)).asInt ((l23.getD i41.toNat D.nul).fld (1 : Nat)).els ((l43.getD ((0 : Nat) + (IntKind.i64.wrap (i42 - (1 : Int))).toNat) D.nul).fld (0 : Nat)).asInt ((l43.getD ((0 : Nat) + (IntKind.i64.wrap (i42 - (1 : Int))).toNat) D.nul).fld (1 : Nat)).els)
         (NT.more (IntKind.i64.wrap (i42 - (1 : Int))))
         (NT.done (i42)))
        (NT.fail))
       (NT.fail))
      (NT.fail))
     (NT.fail))
    (NT.done (i42))
noncomputable def finR_t0_L4 (i : (List D) × (List UInt8) × (List D) × Int × (List D) × (List D) × (List D) × (List D) × Int × (List UInt8) × Nat × Int × (List D)) (x : Int) := finR_t0_L4_stp i.1 i.2.1 i.2.2.1 i.2.2.2.1 i.2.2.2.2.1 i.2.2.2.2.2.1 i.2.2.2.2.2.2.1 i.2.2.2.2.2.2.2.1 i.2.2.2.2.2.2.2.2.1 i.2.2.2.2.2.2.2.2.2.1 i.2.2.2.2.2.2.2.2.2.2.1 i.2.2.2.2.2.2.2.2.2.2.2.1 i.2.2.2.2.2.2.2.2.2.2.2.2 x
theorem finR_t0_L4_rd (l23 : List D) (c24 : List UInt8) (l25 : List D) (i26 : Int) (l27 : List D) (l28 : List D) (l29 : List D) (l30 : List D) (i31 : Int) (c32 : List UInt8) (n40 : Nat) (i41 : Int) (l43 : List D) (i42 : Int) (more : List AV → St → Prop) (kk : KS) : roundK Try.prog ecmpP_pr finR_t0_L2_LP 100 19 4 (finR_t0_L4_T l23 c24 l25 i26 l27 l28 l29 l30 i31 c32 n40 i41 l43 i42) (finR_t0_L4_S l23 c24 l25 i26 l27 l28 l29 l30 i31 c32 n40 i41 l43 i42) (againK 0 4 [.no, .yes, .yes, .no, .no, .yes, .yes, .no, .no, .no, .yes] [.no, .yes, .yes, .no, .yes, .yes, .yes, .no, .no, .no, .yes] more kk) = (finR_t0_L4_stp l23 c24 l25 i26 l27 l28 l29 l30 i31 c32 n40 i41 l43 i42).K (fun x' => more (finR_t0_L4_T l23 c24 l25 i26 l27 l28 l29 l30 i31 c32 n40 i41 l43 x') (finR_t0_L4_S l23 c24 l25 i26 l27 l28 l29 l30 i31 c32 n40 i41 l43 x')) (fun y => finR_t0_L4_ex (l23, c24, l25, i26, l27, l28, l29, l30, i31, c32, n40, i41, l43) y kk) := by kernel_rfl
noncomputable def finR_t0_L4_LP : Nat → Option LoopS := addL 4 (headG 0 [.no, .yes, .yes, .no, .no, .yes, .yes, .no, .no, .no, .yes] (outL finR_t0_L4 finR_t0_L4_of finR_t0_L4_ex)) finR_t0_L2_LP
theorem finR_t0_L4_lp (hpr : PrOk Try.prog ecmpP_pr) : LoopsFor Try.prog 19 0 finR_t0_L4_LP := loops_lp (L := 100) (T := fun i x => finR_t0_L4_T i.1 i.2.1 i.2.2.1 i.2.2.2.1 i.2.2.2.2.1 i.2.2.2.2.2.1 i.2.2.2.2.2.2.1 i.2.2.2.2.2.2.2.1 i.2.2.2.2.2.2.2.2.1 i.2.2.2.2.2.2.2.2.2.1 i.2.2.2.2.2.2.2.2.2.2.1 i.2.2.2.2.2.2.2.2.2.2.2.1 i.2.2.2.2.2.2.2.2.2.2.2.2 x) (S := fun i x => finR_t0_L4_S i.1 i.2.1 i.2.2.1 i.2.2.2.1 i.2.2.2.2.1 i.2.2.2.2.2.1 i.2.2.2.2.2.2.1 i.2.2.2.2.2.2.2.1 i.2.2.2.2.2.2.2.2.1 i.2.2.2.2.2.2.2.2.2.1 i.2.2.2.2.2.2.2.2.2.2.1 i.2.2.2.2.2.2.2.2.2.2.2.1 i.2.2.2.2.2.2.2.2.2.2.2.2 x) ok hpr (by kernel_rfl) (finR_t0_L2_lp hpr) finR_t0_L4_of_ok (fun i x more kk => finR_t0_L4_rd i.1 i.2.1 i.2.2.1 i.2.2.2.1 i.2.2.2.2.1 i.2.2.2.2.2.1 i.2.2.2.2.2.2.1 i.2.2.2.2.2.2.2.1 i.2.2.2.2.2.2.2.2.1 i.2.2.2.2.2.2.2.2.2.1 i.2.2.2.2.2.2.2.2.2.2.1 i.2.2.2.2.2.2.2.2.2.2.2.1 i.2.2.2.2.2.2.2.2.2.2.2.2 x more kk)
noncomputable def finR_t0_L0_T (l0 : List D) (c1 : List UInt8) (l2 : List D) (i3 : Int) (l4 : List D) (l5 : List D) (l6 : List D) (l7 : List D) (i8 : Int) (c9 : List UInt8) (i33 : Int) (n34 : Nat) (l35 : List D) : List AV := ([.any, AV.fz false (Sh.struct [Sh.int IntKind.i64, shV.slice]) l0, AV.ptr (some ((0 : Nat), (0 : Nat))), .any, .any, AV.tsl false (Sh.struct [Sh.int IntKind.i64, shV.slice]) (1 : Nat) (0 : Nat) n34 Cap.tight, AV.int IntKind.i64 i33] ++ padAny 98)
noncomputable def finR_t0_L0_S (l0 : List D) (c1 : List UInt8) (l2 : List D) (i3 : Int) (l4 : List D) (l5 : List D) (l6 : List D) (l7 : List D) (i8 : Int) (c9 : List UInt8) (i33 : Int) (n34 : Nat) (l35 : List D) : St := [Ent.cells [AV.str c1, AV.fz false (Sh.struct [Sh.str.slice, Sh.int IntKind.i64, Sh.struct [Sh.int IntKind.i64, Sh.int IntKind.i64, Sh.str]]) l2, AV.int IntKind.i64 i3, AV.fz false Sh.str.slice l4, AV.fz false (Sh.struct [Sh.int IntKind.i64, Sh.str.slice]) l5, AV.fz false (Sh.struct [Sh.int IntKind.i64, Sh.int IntKind.i64, Sh.struct [Sh.int IntKind.i64, Sh.int IntKind.i64, Sh.str]]) l6, AV.fz false (Sh.struct [Sh.int IntKind.i64, Sh.bool]) l7, AV.int IntKind.i64 i8, AV.str c9], Ent.tbl false (Sh.struct [Sh.int IntKind.i64, shV.slice]) l35]
noncomputable def finR_t0_L0_of : List AV → St → Option (((List D) × (List UInt8) × (List D) × Int × (List D) × (List D) × (List D) × (List D) × Int × (List UInt8)) × (Int × Nat × (List D))) := fun t s => match t, s with
  | .any :: (.fz false e_0 l0) :: (.ptr (.some (e_1, e_2))) :: .any :: .any :: (.tsl false e_3 e_4 e_5 n34 .tight) :: (.int .i64 i33) :: t_0, [(.cells [(.str c1), (.fz false e_6 l2), (.int .i64 i3), (.fz false e_7 l4), (.fz false e_8 l5), (.fz false e_9 l6), (.fz false e_10 l7), (.int .i64 i8), (.str c9)]), (.tbl false e_11 l35)] => (match dropAny 98 t_0 with
    | some ([]) => (match Sh.beq e_0 (Sh.struct [Sh.int IntKind.i64, shV.slice]) && (Nat.beq e_1 (0 : Nat) && (Nat.beq e_2 (0 : Nat) && (Sh.beq e_3 (Sh.struct [Sh.int IntKind.i64, shV.slice]) && (Nat.beq e_4 (1 : Nat) && (Nat.beq e_5 (0 : Nat) && (Sh.beq e_6 (Sh.struct [Sh.str.slice, Sh.int IntKind.i64, Sh.struct [Sh.int IntKind.i64, Sh.int IntKind.i64, Sh.str]]) && (Sh.beq e_7 (Sh.str.slice) && (Sh.beq e_8 (Sh.struct [Sh.int IntKind.i64, Sh.str.slice]) && (Sh.beq e_9 (Sh.struct [Sh.int IntKind.i64, Sh.int IntKind.i64, Sh.struct [Sh.int IntKind.i64, Sh.int IntKind.i64, Sh.str]]) && (Sh.beq e_10 (Sh.struct [Sh.int IntKind.i64, Sh.bool]) && (Sh.beq e_11 (Sh.struct [Sh.int IntKind.i64, shV.slice]) && (true)))))))))))) with | true => some ((l0, c1, l2, i3, l4, l5, l6, l7, i8, c9), (i33, n34, l35)) | false => none)
    | _ => none)
  | _, _ => none
noncomputable def finR_t0_L0_ex (i : (List D) × (List UInt8) × (List D) × Int × (List D) × (List D) × (List D) × (List D) × Int × (List UInt8)) (y : Nat × (List D)) (k : KS) : Prop := let l0 := i.1; let c1 := i.2.1; let l2 := i.2.2.1; let i3 := i.2.2.2.1; let l4 := i.2.2.2.2.1; let l5 := i.2.2.2.2.2.1; let l6 := i.2.2.2.2.2.2.1; let l7 := i.2.2.2.2.2.2.2.1; let i8 := i.2.2.2.2.2.2.2.2.1; let c9 := i.2.2.2.2.2.2.2.2.2; let ny49 := y.1; let ly50 := y.2; k (Ex.normal) ([.any, .any, AV.ptr (some ((0 : Nat), (0 : Nat))), .any, .any, AV.tsl false (Sh.struct [Sh.int IntKind.i64, shV.slice]) (1 : Nat) (0 : Nat) ny49 Cap.tight] ++ padAny 99) [Ent.cells [AV.str c1, AV.fz false (Sh.struct [Sh.str.slice, Sh.int IntKind.i64, Sh.struct [Sh.int IntKind.i64, Sh.int IntKind.i64, Sh.str]]) l2, AV.int IntKind.i64 i3, AV.fz false Sh.str.slice l4, AV.fz false (Sh.struct [Sh.int IntKind.i64, Sh.str.slice]) l5, AV.fz false (Sh.struct [Sh.int IntKind.i64, Sh.int IntKind.i64, Sh.struct [Sh.int IntKind.i64, Sh.int IntKind.i64, Sh.str]]) l6, AV.fz false (Sh.struct [Sh.int IntKind.i64, Sh.bool]) l7, AV.int IntKind.i64 i8, AV.str c9], Ent.tbl false (Sh.struct [Sh.int IntKind.i64, shV.slice]) ly50]
theorem finR_t0_L0_of_ok : ∀ t s (i : (List D) × (List UInt8) × (List D) × Int × (List D) × (List D) × (List D) × (List D) × Int × (List UInt8)) (x : Int × Nat × (List D)), finR_t0_L0_of t s = some (i, x) → t = finR_t0_L0_T i.1 i.2.1 i.2.2.1 i.2.2.2.1 i.2.2.2.2.1 i.2.2.2.2.2.1 i.2.2.2.2.2.2.1 i.2.2.2.2.2.2.2.1 i.2.2.2.2.2.2.2.2.1 i.2.2.2.2.2.2.2.2.2 x.1 x.2.1 x.2.2 ∧ s = finR_t0_L0_S i.1 i.2.1 i.2.2.1 i.2.2.2.1 i.2.2.2.2.1 i.2.2.2.2.2.1 i.2.2.2.2.2.2.1 i.2.2.2.2.2.2.2.1 i.2.2.2.2.2.2.2.2.1 i.2.2.2.2.2.2.2.2.2 x.1 x.2.1 x.2.2 := by
  intro t s i x h
  unfold finR_t0_L0_of at h
  split at h
  · split at h
    · rename_i ha
      obtain rfl := dropAny_eq ha
      split at h
      · rename_i hg
        cases h
        simp only [Bool.and_eq_true] at hg
        obtain ⟨h_0, h_1, h_2, h_3, h_4, h_5, h_6, h_7, h_8, h_9, h_10, h_11, _⟩ := hg
        obtain rfl := Sh.beq_eq _ _ h_0
        obtain rfl := Nat.eq_of_beq_eq_true h_1
        obtain rfl := Nat.eq_of_beq_eq_true h_2
        obtain rfl := Sh.beq_eq _ _ h_3
        obtain rfl := Nat.eq_of_beq_eq_true h_4
        obtain rfl := Nat.eq_of_beq_eq_true h_5
        obtain rfl := Sh.beq_eq _ _ h_6
        obtain rfl := Sh.beq_eq _ _ h_7
        obtain rfl := Sh.beq_eq _ _ h_8
        obtain rfl := Sh.beq_eq _ _ h_9
        obtain rfl := Sh.beq_eq _ _ h_10
        obtain rfl := Sh.beq_eq _ _ h_11
        exact ⟨rfl, rfl⟩
      · cases h
    · cases h
  · cases h
noncomputable def finR_t0_L0_stp (l0 : List D) (c1 : List UInt8) (l2 : List D) (i3 : Int) (l4 : List D) (l5 : List D) (l6 : List D) (l7 : List D) (i8 : Int) (c9 : List UInt8) (i33 : Int) (n34 : Nat) (l35 : List D) : NT (Int × Nat × (List D)) (Nat × (List D)) :=
  NT.br (decide (i33 < (↑l0.length : Int)))
    (NT.br (loopOk (finR_t0_L2 (l0, c1, l2, i3, l4, l5, l6, l7, i8, c9, n34, i33, l35)) (true, (0 : Int)))
     (NT.br (!loopV (finR_t0_L2 (l0, c1, l2, i3, l4, l5, l6, l7, i8, c9, n34, i33, l35)) (true, (0 : Int)))
      (NT.more (IntKind.i64.wrap (i33 + (1 : Int)), n34, l35))
      (NT.br (loopOk (finR_t0_L4 (l0, c1, l2, i3, l4, l5, l6, l7, i8, c9, n34, i33, l35)) (↑n34 : Int))
       (NT.br ((((3 : Nat) * (n34 + (1 : Nat)) + (2000 : Nat)) * (32 : Nat)).ble (281474976710656 : Nat) && ((0 : Nat) + n34).ble l35.length)
        (NT.br (decide ((0 : Int) ≤ IntKind.i64.wrap (loopV (finR_t0_L4 (l0, c1, l2, i3, l4, l5, l6, l7, i8, c9, n34, i33, l35)) (↑n34 : Int) + (1 : Int))) && decide (IntKind.i64.wrap (loopV (finR_t0_L4 (l0, c1, l2, i3, l4, l5, l6, l7, i8, c9, n34, i33, l35)) (↑n34 : Int) + (1 : Int)) ≤ (↑(n34 + (1 : Nat)) : Int)))
         (NT.br (decide ((0 : Int) ≤ loopV (finR_t0_L4 (l0, c1, l2, i3, l4, l5, l6, l7, i8, c9, n34, i33, l35)) (↑n34 : Int)) && decide (loopV (finR_t0_L4 (l0, c1, l2, i3, l4, l5, l6, l7, i8, c9, n34, i33, l35)) (↑n34 : Int) ≤ (↑(n34 + (1 : Nat)) : Int)))
          (NT.br (((0 : Nat) + (loopV (finR_t0_L4 (l0, c1, l2, i3, l4, l5, l6, l7, i8, c9, n34, i33, l35)) (↑n34 : Int)).toNat + (n34 + (1 : Nat) - (loopV (finR_t0_L4 (l0, c1, l2, i3, l4, l5, l6, l7, i8, c9, n34, i33, l35)) (↑n34 : Int)).toNat)).ble (List.take n34 (List.drop (0 : Nat) l35) ++ [D.agg [D.int (0 : Int), D.list []]]).length && ((0 : Nat) + (IntKind.i64.wrap (loopV (finR_t0_L4 (l0, c1, l2, i3, l4, l5, l6, l7, i8, c9, n34, i33, l35)) (↑n34 : Int) + (1 : Int))).toNat + (n34 + (1 : Nat) - (IntKind.i64.wrap (loopV (finR_t0_L4 (l0, c1, l2, i3, l4, l5, l6, l7, i8, c9, n34, i33, l35)) (↑n34 : Int) + (1 : Int))).toNat)).ble (List.take n34 (List.drop (0 : Nat) l35) ++ [D.agg [D.int (0 : Int), D.list []]]).length)
           (NT.br (decide ((0 : Int) ≤ i33) && decide (i33 < (↑l0.length : Int)))
            (NT.br (decide ((0 : Int) ≤ loopV (finR_t0_L4 (l0, c1, l2, i3, l4, l5, l6, l7, i8, c9, n34, i33, l35)) (↑n34 : Int)) && decide (loopV (finR_t0_L4 (l0, c1, l2, i3, l4, l5, l6, l7, i8, c9, n34, i33, l35)) (↑n34 : Int) < (↑(n34 + (1 : Nat)) : Int)))
             (NT.br (decide ((0 : Nat) + (loopV (finR_t0_L4 (l0, c1, l2, i3, l4, l5, l6, l7, i8, c9, n34, i33, l35)) (↑n34 : Int)).toNat < (List.take ((0 : Nat) + (IntKind.i64.wrap (loopV (finR_t0_L4 (l0, c1, l2, i3, l4, l5, l6, l7, i8, c9, n34, i33, l35)) (↑n34 : Int) + (1 : Int))).toNat) (List.take n34 (List.drop (0 : Nat) l35) ++ [D.agg [D.int (0 : Int), D.list []]]) ++ (List.take (n34 + (1 : Nat) - (IntKind.i64.wrap (loopV (finR_t0_L4 (l0, c1, l2, i3, l4, l5, l6, l7, i8, c9, n34, i33, l35)) (↑n34 : Int) + (1 : Int))).toNat) (List.take (n34 + (1 : Nat) - (loopV (finR_t0_L4 (l0, c1, l2, i3, l4, l5, l6, l7, i8, c9, n34, i33, l35)) (↑n34 : Int)).toNat) (List.drop ((0 : Nat) + (loopV (finR_t0_L4 (l0, c1, l2, i3, l4, l5, l6, l7, i8, c9, n34, i33, l35)) (↑n34 : Int)).toNat) (List.take n34 (List.drop (0 : Nat) l35) ++ [D.agg [D.int (0 : Int), D.list []]]))) ++ List.drop ((0 : Nat) + (IntKind.i64.wrap (loopV (finR_t0_L4 (l0, c1, l2, i3, l4, l5, l6, l7, i8, c9, n34, i33, l35)) (↑n34 : Int) + (1 : Int))).toNat + (List.take (n34 + (1 : Nat) - (loopV (finR_t0_L4 (l0, c1, l2, i3, l4, l5, l6, l7, i8, c9, n34, i33, l35)) (↑n34 : Int)).toNat) (List.drop ((0 : Nat) + (loopV (finR_t0_L4 (l0, c1, l2, i3, l4, l5, l6, l7, i8, c9, n34, i33, l35)) (↑n34 : Int)).toNat) (List.take n34 (List.drop (0 : Nat) l35) ++ [D.agg [D.int (0 : Int), D.list []]]))).length.min (n34 + (1 : Nat) - (IntKind.i64.wrap (loopV (finR_t0_L4 (l0, c1, l2, i3, l4, l5, l6, l7, i8, c9, n34, i33, l35)) (↑n34 : Int) + (1 : Int))).toNat)) (List.take n34 (List.drop (0 : Nat) l35) ++ [D.agg [D.int (0 : Int), D.list []]]))).length))
              (NT.more (IntKind.i64.wrap (i33 + (1 : Int)), n34 + (1 : Nat), (List.take ((0 : Nat) + (IntKind.i64.wrap (loopV (finR_t0_L4 (l0, c1, l2, i3, l4, l5, l6, l7, i8, c9, n34, i33, l35)) (↑n34 : Int) + (1 : Int))).toNat) (List.take n34 (List.drop (0 : Nat) l35) ++ [D.agg [D.int (0 : Int), D.list []]]) ++ (List.take (n34 + (1 : Nat) - (IntKind.i64.wrap (loopV (finR_t0_L4 (l0, c1, l2, i3, l4, l5, l6, l7, i8, c9, n34, i33, l35)) (↑n34 : Int) + (1 : Int))).toNat) (List.take (n34 + (1 : Nat) - (loopV (finR_t0_L4 (l0, c1, l2, i3, l4, l5, l6, l7, i8, c9, n34, i33, l35)) (↑n34 : Int)).toNat) (List.drop ((0 : Nat) + (loopV (finR_t0_L4 (l0, c1, l2, i3, l4, l5, l6, l7, i8, c9, n34, i33, l35)) (↑n34 : Int)).toNat) (List.take n34 (List.drop (0 : Nat) l35) ++ [D.agg [D.int (0 : Int), D.list []]]))) ++ List.drop ((0 : Nat) + (IntKind.i64.wrap (loopV (finR_t0_L4 (l0, c1, l2, i3, l4, l5, l6, l7, i8, c9, n34, i33, l35)) (↑n34 : Int) + (1 : Int))).toNat + (List.take (n34 + (1 : Nat) - (loopV (finR_t0_L4 (l0, c1, l2, i3, l4, l5, l6, l7, i8, c9, n34, i33, l35)) (↑n34 : Int)).toNat) (List.drop ((0 : Nat) + (loopV (finR_t0_L4 (l0, c1, l2, i3, l4, l5, l6, l7, i8, c9, n34, i33, l35)) (↑n34 : Int)).toNat) (List.take n34 (List.drop (0 : Nat) l35) ++ [D.agg [D.int (0 : Int), D.list []]]))).length.min (n34 + (1 : Nat) - (IntKind.i64.wrap (loopV (finR_t0_L4 (l0, c1, l2, i3, l4, l5, l6, l7, i8, c9, n34, i33, l35)) (↑n34 : Int) + (1 : Int))).toNat)) (List.take n34 (List.drop (0 : Nat) l35) ++ [D.agg [D.int (0 : Int), D.list []]]))).set ((0 : Nat) + (loopV (finR_t0_L4 (l0, c1, l2, i3, l4, l5, l6, l7, i8, c9, n34, i33, l35)) (↑n34 : Int)).toNat) (D.agg [D.int ((l0.getD i33.toNat D.nul).fld (0 : Nat)).asInt, D.list ((l0.getD i33.toNat D.nul).fld (1 : Nat)).els])))
              (NT.fail))
             (NT.fail))
            (NT.fail))
           (NT.fail))
          (NT.fail))
         (NT.fail))
        (NT.fail))
       (NT.fail)))
     (NT.fail))
    (NT.done (n34, l35))
noncomputable def finR_t0_L0 (i : (List D) × (List UInt8) × (List D) × Int × (List D) × (List D) × (List D) × (List D) × Int × (List UInt8)) (x : Int × Nat × (List D)) := finR_t0_L0_stp i.1 i.2.1 i.2.2.1 i.2.2.2.1 i.2.2.2.2.1 i.2.2.2.2.2.1 i.2.2.2.2.2.2.1 i.2.2.2.2.2.2.2.1 i.2.2.2.2.2.2.2.2.1 i.2.2.2.2.2.2.2.2.2 x.1 x.2.1 x.2.2
theorem finR_t0_L0_rd (l0 : List D) (c1 : List UInt8) (l2 : List D) (i3 : Int) (l4 : List D) (l5 : List D) (l6 : List D) (l7 : List D) (i8 : Int) (c9 : List UInt8) (i33 : Int) (n34 : Nat) (l35 : List D) (more : List AV → St → Prop) (kk : KS) : roundK Try.prog ecmpP_pr finR_t0_L4_LP 100 19 0 (finR_t0_L0_T l0 c1 l2 i3 l4 l5 l6 l7 i8 c9 i33 n34 l35) (finR_t0_L0_S l0 c1 l2 i3 l4 l5 l6 l7 i8 c9 i33 n34 l35) (againK 0 0 [.no, .yes, .yes, .no, .no, .bld (Sh.struct [Sh.int IntKind.i64, shV.slice]), .yes] [.no, .no, .yes, .no, .yes, .bld (Sh.struct [Sh.int IntKind.i64, shV.slice])] more kk) = (finR_t0_L0_stp l0 c1 l2 i3 l4 l5 l6 l7 i8 c9 i33 n34 l35).K (fun x' => more (finR_t0_L0_T l0 c1 l2 i3 l4 l5 l6 l7 i8 c9 x'.1 x'.2.1 x'.2.2) (finR_t0_L0_S l0 c1 l2 i3 l4 l5 l6 l7 i8 c9 x'.1 x'.2.1 x'.2.2)) (fun y => finR_t0_L0_ex (l0, c1, l2, i3, l4, l5, l6, l7, i8, c9) y kk) := by kernel_rfl
noncomputable def finR_t0_L0_LP : Nat → Option LoopS := addL 0 (headG 0 [.no, .yes, .yes, .no, .no, .bld (Sh.struct [Sh.int IntKind.i64, shV.slice]), .yes] (outL finR_t0_L0 finR_t0_L0_of finR_t0_L0_ex)) finR_t0_L4_LP
theorem finR_t0_L0_lp (hpr : PrOk Try.prog ecmpP_pr) : LoopsFor Try.prog 19 0 finR_t0_L0_LP := loops_lp (L := 100) (T := fun i x => finR_t0_L0_T i.1 i.2.1 i.2.2.1 i.2.2.2.1 i.2.2.2.2.1 i.2.2.2.2.2.1 i.2.2.2.2.2.2.1 i.2.2.2.2.2.2.2.1 i.2.2.2.2.2.2.2.2.1 i.2.2.2.2.2.2.2.2.2 x.1 x.2.1 x.2.2) (S := fun i x => finR_t0_L0_S i.1 i.2.1 i.2.2.1 i.2.2.2.1 i.2.2.2.2.1 i.2.2.2.2.2.1 i.2.2.2.2.2.2.1 i.2.2.2.2.2.2.2.1 i.2.2.2.2.2.2.2.2.1 i.2.2.2.2.2.2.2.2.2 x.1 x.2.1 x.2.2) ok hpr (by kernel_rfl) (finR_t0_L4_lp hpr) finR_t0_L0_of_ok (fun i x more kk => finR_t0_L0_rd i.1 i.2.1 i.2.2.1 i.2.2.2.1 i.2.2.2.2.1 i.2.2.2.2.2.1 i.2.2.2.2.2.2.1 i.2.2.2.2.2.2.2.1 i.2.2.2.2.2.2.2.2.1 i.2.2.2.2.2.2.2.2.2 x.1 x.2.1 x.2.2 more kk)
noncomputable def finR_t0r (c0_0 : List UInt8) (l0_1 : List D) (i0_2 : Int) (l0_3 : List D) (l0_4 : List D) (l0_5 : List D) (l0_6 : List D) (i0_7 : Int) (c0_8 : List UInt8) (l1 : List D) : RT :=
  RT.br (loopOk (finR_t0_L0 (l1, c0_0, l0_1, i0_2, l0_3, l0_4, l0_5, l0_6, i0_7, c0_8)) ((0 : Int), (0 : Nat), []))
    (RT.br (decide (i0_7 > (0 : Int)))
     (RT.br (decide ((↑(loopV (finR_t0_L0 (l1, c0_0, l0_1, i0_2, l0_3, l0_4, l0_5, l0_6, i0_7, c0_8)) ((0 : Int), (0 : Nat), [])).fst : Int) > i0_7))
      (RT.br (decide ((0 : Int) ≤ i0_7) && decide (i0_7 ≤ (↑(loopV (finR_t0_L0 (l1, c0_0, l0_1, i0_2, l0_3, l0_4, l0_5, l0_6, i0_7, c0_8)) ((0 : Int), (0 : Nat), [])).fst : Int)) && true)
       (RT.br (((0 : Nat) + (i0_7.toNat - (0 : Nat))).ble (loopV (finR_t0_L0 (l1, c0_0, l0_1, i0_2, l0_3, l0_4, l0_5, l0_6, i0_7, c0_8)) ((0 : Int), (0 : Nat), [])).snd.length && true)
        (okL (AV.fz false (Sh.struct [Sh.int IntKind.i64, shV.slice]) (List.take (i0_7.toNat - (0 : Nat)) (List.drop (0 : Nat) (loopV (finR_t0_L0 (l1, c0_0, l0_1, i0_2, l0_3, l0_4, l0_5, l0_6, i0_7, c0_8)) ((0 : Int), (0 : Nat), [])).snd))) ([]))
        (RT.fail))
       (RT.fail))
      (RT.br (((0 : Nat) + (loopV (finR_t0_L0 (l1, c0_0, l0_1, i0_2, l0_3, l0_4, l0_5, l0_6, i0_7, c0_8)) ((0 : Int), (0 : Nat), [])).fst).ble (loopV (finR_t0_L0 (l1, c0_0, l0_1, i0_2, l0_3, l0_4, l0_5, l0_6, i0_7, c0_8)) ((0 : Int), (0 : Nat), [])).snd.length && true)
       (okL (AV.fz false (Sh.struct [Sh.int IntKind.i64, shV.slice]) (List.take (loopV (finR_t0_L0 (l1, c0_0, l0_1, i0_2, l0_3, l0_4, l0_5, l0_6, i0_7, c0_8)) ((0 : Int), (0 : Nat), [])).fst (List.drop (0 : Nat) (loopV (finR_t0_L0 (l1, c0_0, l0_1, i0_2, l0_3, l0_4, l0_5, l0_6, i0_7, c0_8)) ((0 : Int), (0 : Nat), [])).snd))) ([]))
       (RT.fail)))
     (RT.br (((0 : Nat) + (loopV (finR_t0_L0 (l1, c0_0, l0_1, i0_2, l0_3, l0_4, l0_5, l0_6, i0_7, c0_8)) ((0 : Int), (0 : Nat), [])).fst).ble (loopV (finR_t0_L0 (l1, c0_0, l0_1, i0_2, l0_3, l0_4, l0_5, l0_6, i0_7, c0_8)) ((0 : Int), (0 : Nat), [])).snd.length && true)
      (okL (AV.fz false (Sh.struct [Sh.int IntKind.i64, shV.slice]) (List.take (loopV (finR_t0_L0 (l1, c0_0, l0_1, i0_2, l0_3, l0_4, l0_5, l0_6, i0_7, c0_8)) ((0 : Int), (0 : Nat), [])).fst (List.drop (0 : Nat) (loopV (finR_t0_L0 (l1, c0_0, l0_1, i0_2, l0_3, l0_4, l0_5, l0_6, i0_7, c0_8)) ((0 : Int), (0 : Nat), [])).snd))) ([]))
      (RT.fail)))
    (RT.fail)
theorem finR_t0r_b (c0_0 : List UInt8) (l0_1 : List D) (i0_2 : Int) (l0_3 : List D) (l0_4 : List D) (l0_5 : List D) (l0_6 : List D) (i0_7 : Int) (c0_8 : List UInt8) (l1 : List D) (K : AV → St → Prop) : bodyK Try.prog ecmpP_pr finR_t0_L0_LP 100 19 [.data (.slice (.struct [(.int .i64), (.slice (.struct [(.int .i64), (.int .i64), .str]))]))] [(.agg [.str c0_0, .fz false (.struct [(.slice .str), (.int .i64), (.struct [(.int .i64), (.int .i64), .str])]) l0_1, .int .i64 i0_2, .fz false (.slice .str) l0_3, .fz false (.struct [(.int .i64), (.slice .str)]) l0_4, .fz false (.struct [(.int .i64), (.int .i64), (.struct [(.int .i64), (.int .i64), .str])]) l0_5, .fz false (.struct [(.int .i64), .bool]) l0_6, .int .i64 i0_7, .str c0_8]), .fz false (.struct [(.int .i64), (.slice (.struct [(.int .i64), (.int .i64), .str]))]) l1] [] K = RT.K (fun v s _ => K v s) (finR_t0r c0_0 l0_1 i0_2 l0_3 l0_4 l0_5 l0_6 i0_7 c0_8 l1) := by kernel_rfl
noncomputable def finR_t0_V0 (c0_0 : List UInt8) (l0_1 : List D) (i0_2 : Int) (l0_3 : List D) (l0_4 : List D) (l0_5 : List D) (l0_6 : List D) (i0_7 : Int) (c0_8 : List UInt8) (l1 : List D) : Bool :=
  loopOk (finR_t0_L0 (l1, c0_0, l0_1, i0_2, l0_3, l0_4, l0_5, l0_6, i0_7, c0_8)) ((0 : Int), (0 : Nat), []) && bif decide (i0_7 > (0 : Int)) then bif decide ((↑(loopV (finR_t0_L0 (l1, c0_0, l0_1, i0_2, l0_3, l0_4, l0_5, l0_6, i0_7, c0_8)) ((0 : Int), (0 : Nat), [])).fst : Int) > i0_7) then decide ((0 : Int) ≤ i0_7) && decide (i0_7 ≤ (↑(loopV (finR_t0_L0 (l1, c0_0, l0_1, i0_2, l0_3, l0_4, l0_5, l0_6, i0_7, c0_8)) ((0 : Int), (0 : Nat), [])).fst : Int)) && true && (((0 : Nat) + (i0_7.toNat - (0 : Nat))).ble (loopV (finR_t0_L0 (l1, c0_0, l0_1, i0_2, l0_3, l0_4, l0_5, l0_6, i0_7, c0_8)) ((0 : Int), (0 : Nat), [])).snd.length && true && true) else ((0 : Nat) + (loopV (finR_t0_L0 (l1, c0_0, l0_1, i0_2, l0_3, l0_4, l0_5, l0_6, i0_7, c0_8)) ((0 : Int), (0 : Nat), [])).fst).ble (loopV (finR_t0_L0 (l1, c0_0, l0_1, i0_2, l0_3, l0_4, l0_5, l0_6, i0_7, c0_8)) ((0 : Int), (0 : Nat), [])).snd.length && true && true else ((0 : Nat) + (loopV (finR_t0_L0 (l1, c0_0, l0_1, i0_2, l0_3, l0_4, l0_5, l0_6, i0_7, c0_8)) ((0 : Int), (0 : Nat), [])).fst).ble (loopV (finR_t0_L0 (l1, c0_0, l0_1, i0_2, l0_3, l0_4, l0_5, l0_6, i0_7, c0_8)) ((0 : Int), (0 : Nat), [])).snd.length && true && true
noncomputable def finR_t0_V1 (c0_0 : List UInt8) (l0_1 : List D) (i0_2 : Int) (l0_3 : List D) (l0_4 : List D) (l0_5 : List D) (l0_6 : List D) (i0_7 : Int) (c0_8 : List UInt8) (l1 : List D) : List D :=
  bif decide (i0_7 > (0 : Int)) then bif decide ((↑(loopV (finR_t0_L0 (l1, c0_0, l0_1, i0_2, l0_3, l0_4, l0_5, l0_6, i0_7, c0_8)) ((0 : Int), (0 : Nat), [])).fst : Int) > i0_7) then List.take (i0_7.toNat - (0 : Nat)) (List.drop (0 : Nat) (loopV (finR_t0_L0 (l1, c0_0, l0_1, i0_2, l0_3, l0_4, l0_5, l0_6, i0_7, c0_8)) ((0 : Int), (0 : Nat), [])).snd) else List.take (loopV (finR_t0_L0 (l1, c0_0, l0_1, i0_2, l0_3, l0_4, l0_5, l0_6, i0_7, c0_8)) ((0 : Int), (0 : Nat), [])).fst (List.drop (0 : Nat) (loopV (finR_t0_L0 (l1, c0_0, l0_1, i0_2, l0_3, l0_4, l0_5, l0_6, i0_7, c0_8)) ((0 : Int), (0 : Nat), [])).snd) else List.take (loopV (finR_t0_L0 (l1, c0_0, l0_1, i0_2, l0_3, l0_4, l0_5, l0_6, i0_7, c0_8)) ((0 : Int), (0 : Nat), [])).fst (List.drop (0 : Nat) (loopV (finR_t0_L0 (l1, c0_0, l0_1, i0_2, l0_3, l0_4, l0_5, l0_6, i0_7, c0_8)) ((0 : Int), (0 : Nat), [])).snd)
noncomputable def finR_t0 (c0_0 : List UInt8) (l0_1 : List D) (i0_2 : Int) (l0_3 : List D) (l0_4 : List D) (l0_5 : List D) (l0_6 : List D) (i0_7 : Int) (c0_8 : List UInt8) (l1 : List D) : RT :=
  RT.br (finR_t0_V0 c0_0 l0_1 i0_2 l0_3 l0_4 l0_5 l0_6 i0_7 c0_8 l1)
    (okL (Go.Sy.AV.fz (false) (Sh.struct [Sh.int IntKind.i64, shV.slice]) (finR_t0_V1 c0_0 l0_1 i0_2 l0_3 l0_4 l0_5 l0_6 i0_7 c0_8 l1)) [])
    (RT.fail)
theorem finR_t0_m (c0_0 : List UInt8) (l0_1 : List D) (i0_2 : Int) (l0_3 : List D) (l0_4 : List D) (l0_5 : List D) (l0_6 : List D) (i0_7 : Int) (c0_8 : List UInt8) (l1 : List D) (K : AV → St → Prop) : RT.K (fun v s _ => K v s) (RT.mergeW ([]) (finR_t0r c0_0 l0_1 i0_2 l0_3 l0_4 l0_5 l0_6 i0_7 c0_8 l1)) = RT.K (fun v s _ => K v s) (finR_t0 c0_0 l0_1 i0_2 l0_3 l0_4 l0_5 l0_6 i0_7 c0_8 l1) := by kernel_rfl
theorem finR_t0_b (c0_0 : List UInt8) (l0_1 : List D) (i0_2 : Int) (l0_3 : List D) (l0_4 : List D) (l0_5 : List D) (l0_6 : List D) (i0_7 : Int) (c0_8 : List UInt8) (l1 : List D) (K : AV → St → Prop) (h : RT.K (fun v s _ => K v s) (finR_t0 c0_0 l0_1 i0_2 l0_3 l0_4 l0_5 l0_6 i0_7 c0_8 l1)) : bodyK Try.prog ecmpP_pr finR_t0_L0_LP 100 19 [.data (.slice (.struct [(.int .i64), (.slice (.struct [(.int .i64), (.int .i64), .str]))]))] [(.agg [.str c0_0, .fz false (.struct [(.slice .str), (.int .i64), (.struct [(.int .i64), (.int .i64), .str])]) l0_1, .int .i64 i0_2, .fz false (.slice .str) l0_3, .fz false (.struct [(.int .i64), (.slice .str)]) l0_4, .fz false (.struct [(.int .i64), (.int .i64), (.struct [(.int .i64), (.int .i64), .str])]) l0_5, .fz false (.struct [(.int .i64), .bool]) l0_6, .int .i64 i0_7, .str c0_8]), .fz false (.struct [(.int .i64), (.slice (.struct [(.int .i64), (.int .i64), .str]))]) l1] [] K := Eq.mpr (finR_t0r_b ..) (mergeW_K (S := []) _ ⟨⟨⟨⟨⟨rfl, trivial⟩, trivial⟩, ⟨rfl, trivial⟩⟩, ⟨rfl, trivial⟩⟩, trivial⟩ (Eq.mpr (finR_t0_m ..) h))
theorem finR_t0_lp (hpr : PrOk Try.prog ecmpP_pr) : LoopsFor Try.prog 19 0 finR_t0_L0_LP := (finR_t0_L0_lp hpr)
noncomputable def finR : Sy.Spec := ⟨[.data (.struct [.str, (.slice (.struct [(.slice .str), (.int .i64), (.struct [(.int .i64), (.int .i64), .str])])), (.int .i64), (.slice (.slice .str)), (.slice (.struct [(.int .i64), (.slice .str)])), (.slice (.struct [(.int .i64), (.int .i64), (.struct [(.int .i64), (.int .i64), .str])])), (.slice (.struct [(.int .i64), .bool])), (.int .i64), .str]), .data (.slice (.struct [(.int .i64), (.slice (.struct [(.int .i64), (.int .i64), .str]))]))], fun args s => match args, s with
  | [(.agg [(.str c0_0), (.fz false e_0 l0_1), (.int .i64 i0_2), (.fz false e_1 l0_3), (.fz false e_2 l0_4), (.fz false e_3 l0_5), (.fz false e_4 l0_6), (.int .i64 i0_7), (.str c0_8)]), (.fz false e_5 l1)], [] => .br (Sh.beq e_0 (Sh.struct [Sh.str.slice, Sh.int IntKind.i64, Sh.struct [Sh.int IntKind.i64, Sh.int IntKind.i64, Sh.str]]) && (Sh.beq e_1 (Sh.str.slice) && (Sh.beq e_2 (Sh.struct [Sh.int IntKind.i64, Sh.str.slice]) && (Sh.beq e_3 (Sh.struct [Sh.int IntKind.i64, Sh.int IntKind.i64, Sh.struct [Sh.int IntKind.i64, Sh.int IntKind.i64, Sh.str]]) && (Sh.beq e_4 (Sh.struct [Sh.int IntKind.i64, Sh.bool]) && (Sh.beq e_5 (Sh.struct [Sh.int IntKind.i64, shV.slice]) && (true))))))) (finR_t0 c0_0 l0_1 i0_2 l0_3 l0_4 l0_5 l0_6 i0_7 c0_8 l1) .fail
  | _, _ => .fail⟩
theorem finR_ok : SpecOk Try.prog 19 finR.f := specOk_comes fun args s v s' tch e => by
  simp only [finR] at e
  split at e
  · obtain ⟨hg, e⟩ := if_run e
    simp only [Bool.and_eq_true] at hg
    obtain ⟨h_0, h_1, h_2, h_3, h_4, h_5, _⟩ := hg
    obtain rfl := Sh.beq_eq _ _ h_0
    obtain rfl := Sh.beq_eq _ _ h_1
    obtain rfl := Sh.beq_eq _ _ h_2
    obtain rfl := Sh.beq_eq _ _ h_3
    obtain rfl := Sh.beq_eq _ _ h_4
    obtain rfl := Sh.beq_eq _ _ h_5
    refine comes_of ok ecmpP_pr_k (L := 100) (ms := [.data (.slice (.struct [(.int .i64), (.slice (.struct [(.int .i64), (.int .i64), .str]))]))]) (by kernel_rfl) (finR_t0_lp ecmpP_pr_k) ?_
    exact finR_t0_b (h := K_run e) ..
  · cases e
noncomputable def finR_pr : FuncId → Option Sy.Spec := addP 19 finR ecmpP_pr
theorem finR_pr_k : PrOk Try.prog finR_pr := prOk_add finR_ok ecmpP_pr_k
end Go.Proofs.Yteoockodkddipaa
