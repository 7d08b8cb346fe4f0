/- Walk: JudgeSorted. -/
import Derived.Test.YteoockodkddipaaJy
import Derived.KernelRfl
set_option linter.unusedSimpArgs false
set_option linter.unusedVariables false
set_option maxRecDepth 100000
namespace Go.Proofs.Yteoockodkddipaa
open Go Go.Sy
attribute [local irreducible] bodyK roundK cutK
noncomputable def pr_aaJz1 : FuncId → Option Sy.Spec := addP 6 begF noP
theorem pr_aaJz1_k : PrOk Try.prog pr_aaJz1 := prOk_add beg28_ok prOk_none
noncomputable def pr_aaJz2 : FuncId → Option Sy.Spec := addP 7 rowsL pr_aaJz1
theorem pr_aaJz2_k : PrOk Try.prog pr_aaJz2 := prOk_add rowsL_ok pr_aaJz1_k
noncomputable def pr_aaJz3 : FuncId → Option Sy.Spec := addP 14 ordP pr_aaJz2
theorem pr_aaJz3_k : PrOk Try.prog pr_aaJz3 := prOk_add ordP_ok pr_aaJz2_k
noncomputable def pr_aaJz4 : FuncId → Option Sy.Spec := addP 19 finR pr_aaJz3
theorem pr_aaJz4_k : PrOk Try.prog pr_aaJz4 := prOk_add finR_ok pr_aaJz3_k
noncomputable def jsort_t0_L0_T (l0 : List D) (l1 : List D) (i2 : Int) (n3 : Nat) (l4 : List D) : List AV := ([AV.fz false (Sh.struct [Sh.int IntKind.i64, shV.slice]) l0, AV.fz false (Sh.struct [Sh.int IntKind.i64, Sh.bool]) l1, .any, .any, .any, .any, AV.ptr (some ((0 : Nat), (0 : Nat))), AV.int IntKind.i64 i2] ++ padAny 44)
noncomputable def jsort_t0_L0_S (l0 : List D) (l1 : List D) (i2 : Int) (n3 : Nat) (l4 : List D) : St := [Ent.cells [AV.str [], AV.nilSl, AV.int IntKind.i64 (0 : Int), AV.nilSl, AV.nilSl, AV.nilSl, AV.tsl false (Sh.struct [Sh.int IntKind.i64, Sh.bool]) (1 : Nat) (0 : Nat) n3 Cap.tight, AV.int IntKind.i64 (0 : Int), AV.str []], Ent.tbl false (Sh.struct [Sh.int IntKind.i64, Sh.bool]) l4]
noncomputable def jsort_t0_L0_of : List AV → St → Option (((List D) × (List D)) × (Int × Nat × (List D))) := fun t s => match t, s with
  | (.fz false e_0 l0) :: (.fz false e_1 l1) :: t_0, [(.cells [(.str e_4), .nilSl, (.int .i64 e_5), .nilSl, .nilSl, .nilSl, (.tsl false e_6 e_7 e_8 n3 .tight), (.int .i64 e_9), (.str e_10)]), (.tbl false e_11 l4)] => (match dropAny 4 t_0 with
    | some ((.ptr (.some (e_2, e_3))) :: (.int .i64 i2) :: t_1) => (match dropAny 44 t_1 with
    | some ([]) => (match Sh.beq e_0 (Sh.struct [Sh.int IntKind.i64, shV.slice]) && (Sh.beq e_1 (Sh.struct [Sh.int IntKind.i64, Sh.bool]) && (Nat.beq e_2 (0 : Nat) && (Nat.beq e_3 (0 : Nat) && (decide (e_4 = ([])) && (decide (e_5 = ((0 : Int))) && (Sh.beq e_6 (Sh.struct [Sh.int IntKind.i64, Sh.bool]) && (Nat.beq e_7 (1 : Nat) && (Nat.beq e_8 (0 : Nat) && (decide (e_9 = ((0 : Int))) && (decide (e_10 = ([])) && (Sh.beq e_11 (Sh.struct [Sh.int IntKind.i64, Sh.bool]) && (true)))))))))))) with | true => some ((l0, l1), (i2, n3, l4)) | false => none)
    | _ => none)
    | _ => none)
  | _, _ => none
noncomputable def jsort_t0_L0_ex (i : (List D) × (List D)) (y : Nat × (List D)) (k : KS) : Prop := let l0 := i.1; let l1 := i.2; let ny7 := y.1; let ly8 := y.2; k (Ex.normal) ([AV.fz false (Sh.struct [Sh.int IntKind.i64, shV.slice]) l0, .any, .any, .any, .any, .any, AV.ptr (some ((0 : Nat), (0 : Nat)))] ++ padAny 45) [Ent.cells [AV.str [], AV.nilSl, AV.int IntKind.i64 (0 : Int), AV.nilSl, AV.nilSl, AV.nilSl, AV.tsl false (Sh.struct [Sh.int IntKind.i64, Sh.bool]) (1 : Nat) (0 : Nat) ny7 Cap.tight, AV.int IntKind.i64 (0 : Int), AV.str []], Ent.tbl false (Sh.struct [Sh.int IntKind.i64, Sh.bool]) ly8]
theorem jsort_t0_L0_of_ok : ∀ t s (i : (List D) × (List D)) (x : Int × Nat × (List D)), jsort_t0_L0_of t s = some (i, x) → t = jsort_t0_L0_T i.1 i.2 x.1 x.2.1 x.2.2 ∧ s = jsort_t0_L0_S i.1 i.2 x.1 x.2.1 x.2.2 := by
  intro t s i x h
  unfold jsort_t0_L0_of at h
  split at h
  · split at h
    · rename_i ha
      obtain rfl := dropAny_eq ha
      split at h
      · rename_i ha
        obtain rfl := dropAny_eq ha
        split at h
        · rename_i hg
          cases h
          simp only [Bool.and_eq_true] at hg
          obtain ⟨h_0, h_1, h_2, h_3, h_4, h_5, h_6, h_7, h_8, h_9, h_10, h_11, _⟩ := hg
          obtain rfl := Sh.beq_eq _ _ h_0
          obtain rfl := Sh.beq_eq _ _ h_1
          obtain rfl := Nat.eq_of_beq_eq_true h_2
          obtain rfl := Nat.eq_of_beq_eq_true h_3
          have h_4 := of_decide_eq_true h_4
          subst h_4
          have h_5 := of_decide_eq_true h_5
          subst h_5
          obtain rfl := Sh.beq_eq _ _ h_6
          obtain rfl := Nat.eq_of_beq_eq_true h_7
          obtain rfl := Nat.eq_of_beq_eq_true h_8
          have h_9 := of_decide_eq_true h_9
          subst h_9
          have h_10 := of_decide_eq_true h_10
          subst h_10
          obtain rfl := Sh.beq_eq _ _ h_11
          exact ⟨rfl, rfl⟩
        · cases h
      · cases h
    · cases h
  · cases h
noncomputable def jsort_t0_L0_stp (l0 : List D) (l1 : List D) (i2 : Int) (n3 : Nat) (l4 : List D) : NT (Int × Nat × (List D)) (Nat × (List D)) :=
  NT.br (decide (i2 < (↑l1.length : Int)))
    (NT.br (decide (i2 < (4 : Int)))
     (NT.br (decide ((0 : Int) ≤ i2) && decide (i2 < (↑l1.length : Int)))
      (NT.br (decide (((l1.getD i2.toNat D.nul).fld (0 : Nat)).asInt ≥ (0 : Int)))
       (NT.br (decide ((0 : Int) ≤ i2) && decide (i2 < (↑l1.length : Int)))
        (NT.br (decide (((l1.getD i2.toNat D.nul).fld (0 : Nat)).asInt < (3 : Int)))
         (NT.br (decide ((0 : Int) ≤ i2) && decide (i2 < (↑l1.length : Int)))
          (NT.br ((((3 : Nat) * (n3 + (1 : Nat)) + (2000 : Nat)) * (16 : Nat)).ble (281474976710656 : Nat) && ((0 : Nat) + n3).ble l4.length)
           (NT.more (IntKind.i64.wrap (i2 + (1 : Int)), n3 + (1 : Nat), List.take n3 (List.drop (0 : Nat) l4) ++ [D.agg [D.int ((l1.getD i2.toNat D.nul).fld (0 : Nat)).asInt, D.bool ((l1.getD i2.toNat D.nul).fld (1 : Nat)).asBool]]))
           (NT.fail))
          (NT.fail))
         (NT.more (IntKind.i64.wrap (i2 + (1 : Int)), n3, l4)))
        (NT.fail))
       (NT.more (IntKind.i64.wrap (i2 + (1 : Int)), n3, l4)))
      (NT.fail))
     (NT.done (n3, l4)))
    (NT.done (n3, l4))
noncomputable def jsort_t0_L0 (i : (List D) × (List D)) (x : Int × Nat × (List D)) := jsort_t0_L0_stp i.1 i.2 x.1 x.2.1 x.2.2
theorem jsort_t0_L0_rd (l0 : List D) (l1 : List D) (i2 : Int) (n3 : Nat) (l4 : List D) (more : List AV → St → Prop) (kk : KS) : roundK Try.prog pr_aaJz4 noL 100 4 0 (jsort_t0_L0_T l0 l1 i2 n3 l4) (jsort_t0_L0_S l0 l1 i2 n3 l4) (againK 0 0 [.yes, .yes, .no, .no, .no, .no, .yes, .yes, .no, .no, .no, .no, .no, .no, .no, .no, .no, .no, .no, .no, .no, .no, .no, .no, .no, .no, .no, .no, .no, .no, .no, .no, .no, .no, .no, .no, .no, .no, .no, .no, .no, .no, .no, .no, .no, .no, .no, .no, .no, .no, .no, .no, .blk 6 6 (Sh.struct [Sh.int IntKind.i64, Sh.bool])] [.yes, .no, .no, .no, .yes, .no, .yes, .no, .no, .no, .no, .no, .no, .no, .no, .no, .no, .no, .no, .no, .no, .no, .no, .no, .no, .no, .no, .no, .no, .no, .no, .no, .no, .no, .no, .no, .no, .no, .no, .no, .no, .no, .no, .no, .no, .no, .no, .no, .no, .no, .no, .no, .blk 6 6 (Sh.struct [Sh.int IntKind.i64, Sh.bool])] more kk) = (jsort_t0_L0_stp l0 l1 i2 n3 l4).K (fun x' => more (jsort_t0_L0_T l0 l1 x'.1 x'.2.1 x'.2.2) (jsort_t0_L0_S l0 l1 x'.1 x'.2.1 x'.2.2)) (fun y => jsort_t0_L0_ex (l0, l1) y kk) := by kernel_rfl
noncomputable def jsort_t0_L0_LP : Nat → Option LoopS := addL 0 (headG 0 [.yes, .yes, .no, .no, .no, .no, .yes, .yes, .no, .no, .no, .no, .no, .no, .no, .no, .no, .no, .no, .no, .no, .no, .no, .no, .no, .no, .no, .no, .no, .no, .no, .no, .no, .no, .no, .no, .no, .no, .no, .no, .no, .no, .no, .no, .no, .no, .no, .no, .no, .no, .no, .no, .blk 6 6 (Sh.struct [Sh.int IntKind.i64, Sh.bool])] (outL jsort_t0_L0 jsort_t0_L0_of jsort_t0_L0_ex)) noL
theorem jsort_t0_L0_lp (hpr : PrOk Try.prog pr_aaJz4) : LoopsFor Try.prog 4 0 jsort_t0_L0_LP := loops_lp (L := 100) (T := fun i x => jsort_t0_L0_T i.1 i.2 x.1 x.2.1 x.2.2) (S := fun i x => jsort_t0_L0_S i.1 i.2 x.1 x.2.1 x.2.2) ok hpr (by kernel_rfl) loops_none jsort_t0_L0_of_ok (fun i x more kk => jsort_t0_L0_rd i.1 i.2 x.1 x.2.1 x.2.2 more kk)
noncomputable def jsort_t0r (l0 : List D) (l1 : List D) : RT :=
  RT.br (rowsL_t0_V0 l0 (3 : Int))
    (RT.br (loopOk (jsort_t0_L0 (rowsL_t0_V1 l0 (3 : Int), l1)) ((0 : Int), (0 : Nat), []))
     (RT.br (((0 : Nat) + (loopV (jsort_t0_L0 (rowsL_t0_V1 l0 (3 : Int), l1)) ((0 : Int), (0 : Nat), [])).fst).ble (loopV (jsort_t0_L0 (rowsL_t0_V1 l0 (3 : Int), l1)) ((0 : Int), (0 : Nat), [])).snd.length && true && true)
      (RT.br (finR_t0_V0 [] [] (0 : Int) [] [] [] (List.take (loopV (jsort_t0_L0 (rowsL_t0_V1 l0 (3 : Int), l1)) ((0 : Int), (0 : Nat), [])).fst (List.drop (0 : Nat) (loopV (jsort_t0_L0 (rowsL_t0_V1 l0 (3 : Int), l1)) ((0 : Int), (0 : Nat), [])).snd)) (0 : Int) [] (rowsL_t0_V1 l0 (3 : Int)))
       (RT.br (((0 : Nat) + (loopV (jsort_t0_L0 (rowsL_t0_V1 l0 (3 : Int), l1)) ((0 : Int), (0 : Nat), [])).fst).ble (loopV (jsort_t0_L0 (rowsL_t0_V1 l0 (3 : Int), l1)) ((0 : Int), (0 : Nat), [])).snd.length && true && true)
        (RT.br (ordP_t0_V0 [] [] (0 : Int) [] [] [] (List.take (loopV (jsort_t0_L0 (rowsL_t0_V1 l0 (3 : Int), l1)) ((0 : Int), (0 : Nat), [])).fst (List.drop (0 : Nat) (loopV (jsort_t0_L0 (rowsL_t0_V1 l0 (3 : Int), l1)) ((0 : Int), (0 : Nat), [])).snd)) (0 : Int) [] (finR_t0_V1 [] [] (0 : Int) [] [] [] (List.take (loopV (jsort_t0_L0 (rowsL_t0_V1 l0 (3 : Int), l1)) ((0 : Int), (0 : Nat), [])).fst (List.drop (0 : Nat) (loopV (jsort_t0_L0 (rowsL_t0_V1 l0 (3 : Int), l1)) ((0 : Int), (0 : Nat), [])).snd)) (0 : Int) [] (rowsL_t0_V1 l0 (3 : Int))))
         (okL (AV.bool (isfP_t0_V1 [] [] (0 : Int) [] [] [] (List.take (loopV (jsort_t0_L0 (rowsL_t0_V1 l0 (3 : Int), l1)) ((0 : Int), (0 : Nat), [])).fst (List.drop (0 : Nat) (loopV (jsort_t0_L0 (rowsL_t0_V1 l0 (3 : Int), l1)) ((0 : Int), (0 : Nat), [])).snd)) (0 : Int) [] (finR_t0_V1 [] [] (0 : Int) [] [] [] (List.take (loopV (jsort_t0_L0 (rowsL_t0_V1 l0 (3 : Int), l1)) ((0 : Int), (0 : Nat), [])).fst (List.drop (0 : Nat) (loopV (jsort_t0_L0 (rowsL_t0_V1 l0 (3 : Int), l1)) ((0 : Int), (0 : Nat), [])).snd)) (0 : Int) [] (rowsL_t0_V1 l0 (3 : Int))))) ([]))
         (RT.fail))
        (RT.fail))
       (RT.fail))
      (RT.fail))
     (RT.fail))
    (RT.fail)
theorem jsort_t0r_b (l0 : List D) (l1 : List D) (K : AV → St → Prop) : bodyK Try.prog pr_aaJz4 jsort_t0_L0_LP 100 4 [] [.fz false (.struct [(.int .i64), (.slice (.struct [(.int .i64), (.int .i64), .str]))]) l0, .fz false (.struct [(.int .i64), .bool]) l1] [] K = RT.K (fun v s _ => K v s) (jsort_t0r l0 l1) := by kernel_rfl
noncomputable def jsort_t0_V0 (l0 : List D) (l1 : List D) : Bool :=
  rowsL_t0_V0 l0 (3 : Int) && (loopOk (jsort_t0_L0 (rowsL_t0_V1 l0 (3 : Int), l1)) ((0 : Int), (0 : Nat), []) && (((0 : Nat) + (loopV (jsort_t0_L0 (rowsL_t0_V1 l0 (3 : Int), l1)) ((0 : Int), (0 : Nat), [])).fst).ble (loopV (jsort_t0_L0 (rowsL_t0_V1 l0 (3 : Int), l1)) ((0 : Int), (0 : Nat), [])).snd.length && true && true && (finR_t0_V0 [] [] (0 : Int) [] [] [] (List.take (loopV (jsort_t0_L0 (rowsL_t0_V1 l0 (3 : Int), l1)) ((0 : Int), (0 : Nat), [])).fst (List.drop (0 : Nat) (loopV (jsort_t0_L0 (rowsL_t0_V1 l0 (3 : Int), l1)) ((0 : Int), (0 : Nat), [])).snd)) (0 : Int) [] (rowsL_t0_V1 l0 (3 : Int)) && (((0 : Nat) + (loopV (jsort_t0_L0 (rowsL_t0_V1 l0 (3 : Int), l1)) ((0 : Int), (0 : Nat), [])).fst).ble (loopV (jsort_t0_L0 (rowsL_t0_V1 l0 (3 : Int), l1)) ((0 : Int), (0 : Nat), [])).snd.length && true && true && (ordP_t0_V0 [] [] (0 : Int) [] [] [] (List.take (loopV (jsort_t0_L0 (rowsL_t0_V1 l0 (3 : Int), l1)) ((0 : Int), (0 : Nat), [])).fst (List.drop (0 : Nat) (loopV (jsort_t0_L0 (rowsL_t0_V1 l0 (3 : Int), l1)) ((0 : Int), (0 : Nat), [])).snd)) (0 : Int) [] (finR_t0_V1 [] [] (0 : Int) [] [] [] (List.take (loopV (jsort_t0_L0 (rowsL_t0_V1 l0 (3 : Int), l1)) ((0 : Int), (0 : Nat), [])).fst (List.drop (0 : Nat) (loopV (jsort_t0_L0 (rowsL_t0_V1 l0 (3 : Int), l1)) ((0 : Int), (0 : Nat), [])).snd)) (0 : Int) [] (rowsL_t0_V1 l0 (3 : Int))) && true)))))
noncomputable def jsort_t0 (l0 : List D) (l1 : List D) : RT :=
  RT.br (jsort_t0_V0 l0 l1)
    (okL (Go.Sy.AV.bool (isfP_t0_V1 [] [] (0 : Int) [] [] [] (List.take (loopV (jsort_t0_L0 (rowsL_t0_V1 l0 (3 : Int), l1)) ((0 : Int), (0 : Nat), [])).fst (List.drop (0 : Nat) (loopV (jsort_t0_L0 (rowsL_t0_V1 l0 (3 : Int), l1)) ((0 : Int), (0 : Nat), [])).snd)) (0 : Int) [] (finR_t0_V1 [] [] (0 : Int) [] [] [] (List.take (loopV (jsort_t0_L0 (rowsL_t0_V1 l0 (3 : Int), l1)) ((0 : Int), (0 : Nat), [])).fst (List.drop (0 : Nat) (loopV (jsort_t0_L0 (rowsL_t0_V1 l0 (3 : Int), l1)) ((0 : Int), (0 : Nat), [])).snd)) (0 : Int) [] (rowsL_t0_V1 l0 (3 : Int))))) [])
    (RT.fail)
theorem jsort_t0_m (l0 : List D) (l1 : List D) (K : AV → St → Prop) : RT.K (fun v s _ => K v s) (RT.mergeW ([]) (jsort_t0r l0 l1)) = RT.K (fun v s _ => K v s) (jsort_t0 l0 l1) := by kernel_rfl
theorem jsort_t0_b (l0 : List D) (l1 : List D) (K : AV → St → Prop) (h : RT.K (fun v s _ => K v s) (jsort_t0 l0 l1)) : bodyK Try.prog pr_aaJz4 jsort_t0_L0_LP 100 4 [] [.fz false (.struct [(.int .i64), (.slice (.struct [(.int .i64), (.int .i64), .str]))]) l0, .fz false (.struct [(.int .i64), .bool]) l1] [] K := Eq.mpr (jsort_t0r_b ..) (mergeW_K (S := []) _ ⟨⟨⟨⟨⟨⟨rfl, trivial⟩, trivial⟩, trivial⟩, trivial⟩, trivial⟩, trivial⟩ (Eq.mpr (jsort_t0_m ..) h))
theorem jsort_t0_lp (hpr : PrOk Try.prog pr_aaJz4) : LoopsFor Try.prog 4 0 jsort_t0_L0_LP := (jsort_t0_L0_lp hpr)
noncomputable def jsort : Sy.Spec := ⟨[.data (.slice (.struct [(.int .i64), (.slice (.struct [(.int .i64), (.int .i64), .str]))])), .data (.slice (.struct [(.int .i64), .bool]))], fun args s => match args, s with
  | [(.fz false e_0 l0), (.fz false e_1 l1)], [] => .br (Sh.beq e_0 (Sh.struct [Sh.int IntKind.i64, shV.slice]) && (Sh.beq e_1 (Sh.struct [Sh.int IntKind.i64, Sh.bool]) && (true))) (jsort_t0 l0 l1) .fail
  | _, _ => .fail⟩
theorem jsort_ok : SpecOk Try.prog 4 jsort.f := specOk_comes fun args s v s' tch e => by
  simp only [jsort] at e
  split at e
  · obtain ⟨hg, e⟩ := if_run e
    simp only [Bool.and_eq_true] at hg
    obtain ⟨h_0, h_1, _⟩ := hg
    obtain rfl := Sh.beq_eq _ _ h_0
    obtain rfl := Sh.beq_eq _ _ h_1
    refine comes_of ok pr_aaJz4_k (L := 100) (ms := []) (by kernel_rfl) (jsort_t0_lp pr_aaJz4_k) ?_
    exact jsort_t0_b (h := K_run e) ..
  · cases e
noncomputable def jsort_pr : FuncId → Option Sy.Spec := addP 4 jsort pr_aaJz4
theorem jsort_pr_k : PrOk Try.prog jsort_pr := prOk_add jsort_ok pr_aaJz4_k
end Go.Proofs.Yteoockodkddipaa
