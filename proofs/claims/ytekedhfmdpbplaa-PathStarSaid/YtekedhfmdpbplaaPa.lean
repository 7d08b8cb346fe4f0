/- Walks: ways: both schemas, the columns at ways' ends. -/
import Derived.Test.YtekedhfmdpbplaaSrP
import Derived.Test.YtekedhfmdpbplaaSl
import Derived.Test.YtekedhfmdpbplaaSw
import Derived.KernelRfl
set_option linter.unusedSimpArgs false
set_option linter.unusedVariables false
set_option maxRecDepth 100000
namespace Go.Proofs.Ytekedhfmdpbplaa
open Go Go.Sy
attribute [local irreducible] bodyK roundK cutK
noncomputable def pr_aaPa1 : FuncId → Option Sy.Spec := addP 17 formR noP
theorem pr_aaPa1_k : PrOk Try.prog pr_aaPa1 := prOk_add formR_ok prOk_none
noncomputable def pr_aaPa2 : FuncId → Option Sy.Spec := addP 15 mayW pr_aaPa1
theorem pr_aaPa2_k : PrOk Try.prog pr_aaPa2 := prOk_add mayW_ok pr_aaPa1_k
noncomputable def pr_aaPa3 : FuncId → Option Sy.Spec := addP 16 addN pr_aaPa2
theorem pr_aaPa3_k : PrOk Try.prog pr_aaPa3 := prOk_add addN_ok pr_aaPa2_k
noncomputable def newSP_t0r  : RT :=
  okL (AV.ptr (some ((0 : Nat), (0 : Nat)))) ([Ent.cells [AV.nilSl]])
theorem newSP_t0r_b  (K : AV → St → Prop) : bodyK Try.prog pr_aaPa3 noL 100 14 [] [] [] K = RT.K (fun v s _ => K v s) (newSP_t0r ) := by kernel_rfl
noncomputable def newSP_t0  : RT :=
  okL (Go.Sy.AV.ptr (some ((0 : Nat), (0 : Nat)))) [(Go.Sy.Ent.cells [Go.Sy.AV.nilSl])]
theorem newSP_t0_m  (K : AV → St → Prop) : RT.K (fun v s _ => K v s) (RT.mergeW ([Ent.cells [AV.nilSl]]) (newSP_t0r )) = RT.K (fun v s _ => K v s) (newSP_t0 ) := by kernel_rfl
theorem newSP_t0_b  (K : AV → St → Prop) (h : RT.K (fun v s _ => K v s) (newSP_t0 )) : bodyK Try.prog pr_aaPa3 noL 100 14 [] [] [] K := Eq.mpr (newSP_t0r_b ..) (mergeW_K (S := [Ent.cells [AV.nilSl]]) _ rfl (Eq.mpr (newSP_t0_m ..) h))
theorem newSP_t0_lp (hpr : PrOk Try.prog pr_aaPa3) : LoopsFor Try.prog 14 0 noL := loops_none
noncomputable def newSP : Sy.Spec := ⟨[], fun args s => match args, s with
  | [], [] => .br (true) (newSP_t0 ) .fail
  | _, _ => .fail⟩
theorem newSP_ok : SpecOk Try.prog 14 newSP.f := specOk_comes fun args s v s' tch e => by
  simp only [newSP] at e
  split at e
  · obtain ⟨hg, e⟩ := if_run e
    refine comes_of ok pr_aaPa3_k (L := 100) (ms := []) (by kernel_rfl) (newSP_t0_lp pr_aaPa3_k) ?_
    exact newSP_t0_b (h := K_run e) ..
  · cases e
noncomputable def newSP_pr : FuncId → Option Sy.Spec := addP 14 newSP pr_aaPa3
theorem newSP_pr_k : PrOk Try.prog newSP_pr := prOk_add newSP_ok pr_aaPa3_k
noncomputable def bothP_t0_L0_T (l0 : List D) (n1 : Nat) (i2 : Int) (n3 : Nat) (l4 : List D) (l5 : List D) : List AV := ([AV.fz false shTab l0, .any, .any, .any, AV.ptr (some ((0 : Nat), (0 : Nat))), AV.tsl false shTab (2 : Nat) (0 : Nat) n1 Cap.tight, AV.int IntKind.i64 i2] ++ padAny 30)
noncomputable def bothP_t0_L0_S (l0 : List D) (n1 : Nat) (i2 : Int) (n3 : Nat) (l4 : List D) (l5 : List D) : St := [Ent.cells [AV.tsl false shTab (1 : Nat) (0 : Nat) n3 Cap.tight], Ent.tbl false shTab l4, Ent.tbl false shTab l5]
noncomputable def bothP_t0_L0_of : List AV → St → Option (((List D)) × (Nat × Int × Nat × (List D) × (List D))) := fun t s => match t, s with
  | (.fz false e_0 l0) :: .any :: .any :: .any :: (.ptr (.some (e_1, e_2))) :: (.tsl false e_3 e_4 e_5 n1 .tight) :: (.int .i64 i2) :: t_0, [(.cells [(.tsl false e_6 e_7 e_8 n3 .tight)]), (.tbl false e_9 l4), (.tbl false e_10 l5)] => (match dropAny 30 t_0 with
    | some ([]) => (match Sh.beq e_0 shTab && (Nat.beq e_1 (0 : Nat) && (Nat.beq e_2 (0 : Nat) && (Sh.beq e_3 shTab && (Nat.beq e_4 (2 : Nat) && (Nat.beq e_5 (0 : Nat) && (Sh.beq e_6 shTab && (Nat.beq e_7 (1 : Nat) && (Nat.beq e_8 (0 : Nat) && (Sh.beq e_9 shTab && (Sh.beq e_10 shTab && (true))))))))))) with | true => some ((l0), (n1, i2, n3, l4, l5)) | false => none)
    | _ => none)
  | _, _ => none
noncomputable def bothP_t0_L0_ex (i : (List D)) (y : Nat × Nat × (List D) × (List D)) (k : KS) : Prop := let l0 := i; let ny10 := y.1; let ny11 := y.2.1; let ly12 := y.2.2.1; let ly13 := y.2.2.2; k (Ex.normal) ([.any, .any, .any, .any, AV.ptr (some ((0 : Nat), (0 : Nat))), AV.tsl false shTab (2 : Nat) (0 : Nat) ny10 Cap.tight] ++ padAny 31) [Ent.cells [AV.tsl false shTab (1 : Nat) (0 : Nat) ny11 Cap.tight], Ent.tbl false shTab ly12, Ent.tbl false shTab ly13]
theorem bothP_t0_L0_of_ok : ∀ t s (i : (List D)) (x : Nat × Int × Nat × (List D) × (List D)), bothP_t0_L0_of t s = some (i, x) → t = bothP_t0_L0_T i x.1 x.2.1 x.2.2.1 x.2.2.2.1 x.2.2.2.2 ∧ s = bothP_t0_L0_S i x.1 x.2.1 x.2.2.1 x.2.2.2.1 x.2.2.2.2 := by
  intro t s i x h
  unfold bothP_t0_L0_of at h
  split at h
  · split at h
    · rename_i ha
      obtain rfl := dropAny_eq ha
      split at h
      · rename_i hg
        cases h
        simp only [Bool.and_eq_true] at hg
        obtain ⟨h_0, h_1, h_2, h_3, h_4, h_5, h_6, h_7, h_8, h_9, h_10, _⟩ := hg
        obtain rfl := Sh.beq_eq _ _ h_0
        obtain rfl := Nat.eq_of_beq_eq_true h_1
        obtain rfl := Nat.eq_of_beq_eq_true h_2
        obtain rfl := Sh.beq_eq _ _ h_3
        obtain rfl := Nat.eq_of_beq_eq_true h_4
        obtain rfl := Nat.eq_of_beq_eq_true h_5
        obtain rfl := Sh.beq_eq _ _ h_6
        obtain rfl := Nat.eq_of_beq_eq_true h_7
        obtain rfl := Nat.eq_of_beq_eq_true h_8
        obtain rfl := Sh.beq_eq _ _ h_9
        obtain rfl := Sh.beq_eq _ _ h_10
        exact ⟨rfl, rfl⟩
      · cases h
    · cases h
  · cases h
noncomputable def bothP_t0_L0_stp (l0 : List D) (n1 : Nat) (i2 : Int) (n3 : Nat) (l4 : List D) (l5 : List D) : NT (Nat × Int × Nat × (List D) × (List D)) (Nat × Nat × (List D) × (List D)) :=
  NT.br (decide (i2 < (↑l0.length : Int)))
    (NT.br (decide ((0 : Int) ≤ i2) && decide (i2 < (↑l0.length : Int)))
     (NT.br (n3.beq l4.length && addOk_V l4 ((l0.getD i2.toNat D.nul).fld (0 : Nat)).asStr ((l0.getD i2.toNat D.nul).fld (1 : Nat)).els ((l0.getD i2.toNat D.nul).fld (2 : Nat)).asStr ((l0.getD i2.toNat D.nul).fld (3 : Nat)).els)
      (NT.br (decide ((0 : Int) ≤ i2) && decide (i2 < (↑l0.length : Int)))
       (NT.br (mayW_t0_V0 n1 l5 ((l0.getD i2.toNat D.nul).fld (0 : Nat)).asStr ((l0.getD i2.toNat D.nul).fld (1 : Nat)).els ((l0.getD i2.toNat D.nul).fld (2 : Nat)).asStr ((l0.getD i2.toNat D.nul).fld (3 : Nat)).els)
        (NT.br (decide (mayW_t0_V1 n1 l5 ((l0.getD i2.toNat D.nul).fld (0 : Nat)).asStr ((l0.getD i2.toNat D.nul).fld (1 : Nat)).els ((l0.getD i2.toNat D.nul).fld (2 : Nat)).asStr ((l0.getD i2.toNat D.nul).fld (3 : Nat)).els = (0 : Int)))
         (NT.br (decide ((0 : Int) ≤ i2) && decide (i2 < (↑l0.length : Int)))
          (NT.br (formR_t0_V0 ((l0.getD i2.toNat D.nul).fld (0 : Nat)).asStr ((l0.getD i2.toNat D.nul).fld (1 : Nat)).els ((l0.getD i2.toNat D.nul).fld (2 : Nat)).asStr ((l0.getD i2.toNat D.nul).fld (3 : Nat)).els)
           (NT.br ((((3 : Nat) * (n1 + (1 : Nat)) + (2000 : Nat)) * (80 : Nat)).ble (281474976710656 : Nat) && ((0 : Nat) + n1).ble l5.length)
            (NT.more (n1 + (1 : Nat), IntKind.i64.wrap (i2 + (1 : Int)), (addT l4 ((l0.getD i2.toNat D.nul).fld (0 : Nat)).asStr ((l0.getD i2.toNat D.nul).fld (1 : Nat)).els ((l0.getD i2.toNat D.nul).fld (2 : Nat)).asStr ((l0.getD i2.toNat D.nul).fld (3 : Nat)).els).length, addT l4 ((l0.getD i2.toNat D.nul).fld (0 : Nat)).asStr ((l0.getD i2.toNat D.nul).fld (1 : Nat)).els ((l0.getD i2.toNat D.nul).fld (2 : Nat)).asStr ((l0.getD i2.toNat D.nul).fld (3 : Nat)).els, List.take n1 (List.drop (0 : Nat) l5) ++ [D.agg [D.str ((l0.getD i2.toNat D.nul).fld (0 : Nat)).asStr, D.list (formR_t0_V1 ((l0.getD i2.toNat D.nul).fld (0 : Nat)).asStr ((l0.getD i2.toNat D.nul).fld (1 : Nat)).els ((l0.getD i2.toNat D.nul).fld (2 : Nat)).asStr ((l0.getD i2.toNat D.nul).fld (3 : Nat)).els), D.str ((l0.getD i2.toNat D.nul).fld (2 : Nat)).asStr, D.list ((l0.getD i2.toNat D.nul).fld (3 : Nat)).els]]))
            (NT.fail))
           (NT.fail))
          (NT.fail))
         (NT.more (n1, IntKind.i64.wrap (i2 + (1 : Int)), (addT l4 ((l0.getD i2.toNat D.nul).fld (0 : Nat)).asStr ((l0.getD i2.toNat D.nul).fld (1 : Nat)).els ((l0.getD i2.toNat D.nul).fld (2 : Nat)).asStr ((l0.getD i2.toNat D.nul).fld (3 : Nat)).els).length, addT l4 ((l0.getD i2.toNat D.nul).fld (0 : Nat)).asStr ((l0.getD i2.toNat D.nul).fld (1 : Nat)).els ((l0.getD i2.toNat D.nul).fld (2 : Nat)).asStr ((l0.getD i2.toNat D.nul).fld (3 : Nat)).els, l5)))
        (NT.fail))
       (NT.fail))
      (NT.fail))
     (NT.fail))
    (NT.done (n1, n3, l4, l5))
noncomputable def bothP_t0_L0 (i : (List D)) (x : Nat × Int × Nat × (List D) × (List D)) := bothP_t0_L0_stp i x.1 x.2.1 x.2.2.1 x.2.2.2.1 x.2.2.2.2
theorem bothP_t0_L0_rd (l0 : List D) (n1 : Nat) (i2 : Int) (n3 : Nat) (l4 : List D) (l5 : List D) (more : List AV → St → Prop) (kk : KS) : roundK Try.prog newSP_pr noL 100 26 0 (bothP_t0_L0_T l0 n1 i2 n3 l4 l5) (bothP_t0_L0_S l0 n1 i2 n3 l4 l5) (againK 0 0 [.yes, .no, .no, .no, .yes, .bld (shTab), .yes, .no, .no, .no, .no, .no, .no, .no, .no, .no, .no, .no, .no, .no, .no, .no, .no, .no, .no, .no, .no, .no, .no, .no, .no, .no, .no, .no, .no, .no, .no, .blk 4 0 (shTab)] [.no, .no, .yes, .yes, .yes, .bld (shTab), .no, .no, .no, .no, .no, .no, .no, .no, .no, .no, .no, .no, .no, .no, .no, .no, .no, .no, .no, .no, .no, .no, .no, .no, .no, .no, .no, .no, .no, .no, .no, .blk 4 0 (shTab)] more kk) = (bothP_t0_L0_stp l0 n1 i2 n3 l4 l5).K (fun x' => more (bothP_t0_L0_T l0 x'.1 x'.2.1 x'.2.2.1 x'.2.2.2.1 x'.2.2.2.2) (bothP_t0_L0_S l0 x'.1 x'.2.1 x'.2.2.1 x'.2.2.2.1 x'.2.2.2.2)) (fun y => bothP_t0_L0_ex (l0) y kk) := by kernel_rfl
noncomputable def bothP_t0_L0_LP : Nat → Option LoopS := addL 0 (headG 0 [.yes, .no, .no, .no, .yes, .bld (shTab), .yes, .no, .no, .no, .no, .no, .no, .no, .no, .no, .no, .no, .no, .no, .no, .no, .no, .no, .no, .no, .no, .no, .no, .no, .no, .no, .no, .no, .no, .no, .no, .blk 4 0 (shTab)] (outL bothP_t0_L0 bothP_t0_L0_of bothP_t0_L0_ex)) noL
theorem bothP_t0_L0_lp (hpr : PrOk Try.prog newSP_pr) : LoopsFor Try.prog 26 0 bothP_t0_L0_LP := loops_lp (L := 100) (T := fun i x => bothP_t0_L0_T i x.1 x.2.1 x.2.2.1 x.2.2.2.1 x.2.2.2.2) (S := fun i x => bothP_t0_L0_S i x.1 x.2.1 x.2.2.1 x.2.2.2.1 x.2.2.2.2) ok hpr (by kernel_rfl) loops_none bothP_t0_L0_of_ok (fun i x more kk => bothP_t0_L0_rd i x.1 x.2.1 x.2.2.1 x.2.2.2.1 x.2.2.2.2 more kk)
noncomputable def bothP_t0r (l0 : List D) : RT :=
  RT.br (loopOk (bothP_t0_L0 l0) ((0 : Nat), (0 : Int), (0 : Nat), [], []))
    (RT.br (((0 : Nat) + (loopV (bothP_t0_L0 l0) ((0 : Nat), (0 : Int), (0 : Nat), [], [])).fst).ble (loopV (bothP_t0_L0 l0) ((0 : Nat), (0 : Int), (0 : Nat), [], [])).snd.snd.snd.length && true)
     (okL (AV.tup [AV.ptr (some ((0 : Nat), (0 : Nat))), AV.fz false shTab (List.take (loopV (bothP_t0_L0 l0) ((0 : Nat), (0 : Int), (0 : Nat), [], [])).fst (List.drop (0 : Nat) (loopV (bothP_t0_L0 l0) ((0 : Nat), (0 : Int), (0 : Nat), [], [])).snd.snd.snd))]) ([Ent.cells [AV.tsl false shTab (1 : Nat) (0 : Nat) (loopV (bothP_t0_L0 l0) ((0 : Nat), (0 : Int), (0 : Nat), [], [])).snd.fst Cap.tight], Ent.tbl false shTab (loopV (bothP_t0_L0 l0) ((0 : Nat), (0 : Int), (0 : Nat), [], [])).snd.snd.fst]))
     (RT.fail))
    (RT.fail)
theorem bothP_t0r_b (l0 : List D) (K : AV → St → Prop) : bodyK Try.prog newSP_pr bothP_t0_L0_LP 100 26 [.keep, .data (.slice (.struct [.str, (.slice (.struct [.str, (.int .i64), .bool, .str])), .str, (.slice (.struct [(.slice .str), .str]))]))] [.fz false (.struct [.str, (.slice (.struct [.str, (.int .i64), .bool, .str])), .str, (.slice (.struct [(.slice .str), .str]))]) l0] [] K = RT.K (fun v s _ => K v s) (bothP_t0r l0) := by kernel_rfl
noncomputable def bothP_t0_V0 (l0 : List D) : Bool :=
  loopOk (bothP_t0_L0 l0) ((0 : Nat), (0 : Int), (0 : Nat), [], []) && (((0 : Nat) + (loopV (bothP_t0_L0 l0) ((0 : Nat), (0 : Int), (0 : Nat), [], [])).fst).ble (loopV (bothP_t0_L0 l0) ((0 : Nat), (0 : Int), (0 : Nat), [], [])).snd.snd.snd.length && true && true)
noncomputable def bothP_t0_V1 (l0 : List D) : List D :=
  List.take (loopV (bothP_t0_L0 l0) ((0 : Nat), (0 : Int), (0 : Nat), [], [])).fst (List.drop (0 : Nat) (loopV (bothP_t0_L0 l0) ((0 : Nat), (0 : Int), (0 : Nat), [], [])).snd.snd.snd)
noncomputable def bothP_t0_V2 (l0 : List D) : Nat :=
  (loopV (bothP_t0_L0 l0) ((0 : Nat), (0 : Int), (0 : Nat), [], [])).snd.fst
noncomputable def bothP_t0_V3 (l0 : List D) : List D :=
  (loopV (bothP_t0_L0 l0) ((0 : Nat), (0 : Int), (0 : Nat), [], [])).snd.snd.fst
noncomputable def bothP_t0 (l0 : List D) : RT :=
  RT.br (bothP_t0_V0 l0)
    (okL (Go.Sy.AV.tup [(Go.Sy.AV.ptr (some ((0 : Nat), (0 : Nat)))), (Go.Sy.AV.fz (false) shTab (bothP_t0_V1 l0))]) [(Go.Sy.Ent.cells [(Go.Sy.AV.tsl (false) shTab ((1 : Nat)) ((0 : Nat)) (bothP_t0_V2 l0) Go.Sy.Cap.tight)]), (Go.Sy.Ent.tbl (false) shTab (bothP_t0_V3 l0))])
    (RT.fail)
theorem bothP_t0_m (l0 : List D) (K : AV → St → Prop) : RT.K (fun v s _ => K v s) (RT.mergeW ([Ent.cells [AV.tsl false shTab (1 : Nat) (0 : Nat) (loopV (bothP_t0_L0 l0) ((0 : Nat), (0 : Int), (0 : Nat), [], [])).snd.fst Cap.tight], Ent.tbl false shTab (loopV (bothP_t0_L0 l0) ((0 : Nat), (0 : Int), (0 : Nat), [], [])).snd.snd.fst]) (bothP_t0r l0)) = RT.K (fun v s _ => K v s) (bothP_t0 l0) := by kernel_rfl
theorem bothP_t0_b (l0 : List D) (K : AV → St → Prop) (h : RT.K (fun v s _ => K v s) (bothP_t0 l0)) : bodyK Try.prog newSP_pr bothP_t0_L0_LP 100 26 [.keep, .data (.slice (.struct [.str, (.slice (.struct [.str, (.int .i64), .bool, .str])), .str, (.slice (.struct [(.slice .str), .str]))]))] [.fz false (.struct [.str, (.slice (.struct [.str, (.int .i64), .bool, .str])), .str, (.slice (.struct [(.slice .str), .str]))]) l0] [] K := Eq.mpr (bothP_t0r_b ..) (mergeW_K (S := [Ent.cells [AV.tsl false shTab (1 : Nat) (0 : Nat) (loopV (bothP_t0_L0 l0) ((0 : Nat), (0 : Int), (0 : Nat), [], [])).snd.fst Cap.tight], Ent.tbl false shTab (loopV (bothP_t0_L0 l0) ((0 : Nat), (0 : Int), (0 : Nat), [], [])).snd.snd.fst]) _ ⟨⟨rfl, trivial⟩, trivial⟩ (Eq.mpr (bothP_t0_m ..) h))
theorem bothP_t0_lp (hpr : PrOk Try.prog newSP_pr) : LoopsFor Try.prog 26 0 bothP_t0_L0_LP := (bothP_t0_L0_lp hpr)
noncomputable def bothP : Sy.Spec := ⟨[.data (.slice (.struct [.str, (.slice (.struct [.str, (.int .i64), .bool, .str])), .str, (.slice (.struct [(.slice .str), .str]))]))], fun args s => match args, s with
  | [(.fz false e_0 l0)], [] => .br (Sh.beq e_0 shTab && (true)) (bothP_t0 l0) .fail
  | _, _ => .fail⟩
theorem bothP_ok : SpecOk Try.prog 26 bothP.f := specOk_comes fun args s v s' tch e => by
  simp only [bothP] at e
  split at e
  · obtain ⟨hg, e⟩ := if_run e
    simp only [Bool.and_eq_true] at hg
    obtain ⟨h_0, _⟩ := hg
    obtain rfl := Sh.beq_eq _ _ h_0
    refine comes_of ok newSP_pr_k (L := 100) (ms := [.keep, .data (.slice (.struct [.str, (.slice (.struct [.str, (.int .i64), .bool, .str])), .str, (.slice (.struct [(.slice .str), .str]))]))]) (by kernel_rfl) (bothP_t0_lp newSP_pr_k) ?_
    exact bothP_t0_b (h := K_run e) ..
  · cases e
noncomputable def bothP_pr : FuncId → Option Sy.Spec := addP 26 bothP newSP_pr
theorem bothP_pr_k : PrOk Try.prog bothP_pr := prOk_add bothP_ok newSP_pr_k
noncomputable def pr_aaPa4 : FuncId → Option Sy.Spec := addP 23 colofR bothP_pr
theorem pr_aaPa4_k : PrOk Try.prog pr_aaPa4 := prOk_add colofR_ok bothP_pr_k
noncomputable def pr_aaPa5 : FuncId → Option Sy.Spec := addP 21 findW pr_aaPa4
theorem pr_aaPa5_k : PrOk Try.prog pr_aaPa5 := prOk_add findW_ok pr_aaPa4_k
noncomputable def pr_aaPa6 : FuncId → Option Sy.Spec := addP 19 findP pr_aaPa5
theorem pr_aaPa6_k : PrOk Try.prog pr_aaPa6 := prOk_add findP_ok pr_aaPa5_k
noncomputable def pr_aaPa7 : FuncId → Option Sy.Spec := addP 22 scolP pr_aaPa6
theorem pr_aaPa7_k : PrOk Try.prog pr_aaPa7 := prOk_add scolP_ok pr_aaPa6_k
noncomputable def pcolP_t0_L0_T (l1 : List D) (l2 : List D) (i3 : Int) (n4 : Nat) (l5 : List D) (c0 : List UInt8) (i6 : Int) : List AV := ([AV.ptr (some ((0 : Nat), (0 : Nat))), AV.str c0, AV.fz false Sh.str l1, .any, .any, .any, AV.ptr (some ((2 : Nat), (0 : Nat))), .any, .any, .any, .any, .any, .any, .any, .any, .any, .any, .any, .any, .any, .any, .any, AV.fz false Sh.str l2, AV.int IntKind.i64 i3, AV.int IntKind.i64 i6] ++ padAny 32)
noncomputable def pcolP_t0_L0_S (l1 : List D) (l2 : List D) (i3 : Int) (n4 : Nat) (l5 : List D) (c0 : List UInt8) (i6 : Int) : St := [Ent.cells [AV.tsl false shTab (1 : Nat) (0 : Nat) n4 Cap.tight], Ent.tbl false shTab l5, Ent.cells [AV.str [], AV.int IntKind.i64 (0 : Int), AV.bool false, AV.str []]]
noncomputable def pcolP_t0_L0_of : List AV → St → Option (((List D) × (List D) × Int × Nat × (List D)) × ((List UInt8) × Int)) := fun t s => match t, s with
  | (.ptr (.some (e_0, e_1))) :: (.str c0) :: (.fz false e_2 l1) :: .any :: .any :: .any :: (.ptr (.some (e_3, e_4))) :: t_0, [(.cells [(.tsl false e_6 e_7 e_8 n4 .tight)]), (.tbl false e_9 l5), (.cells [(.str e_10), (.int .i64 e_11), (.bool false), (.str e_12)])] => (match dropAny 15 t_0 with
    | some ((.fz false e_5 l2) :: (.int .i64 i3) :: (.int .i64 i6) :: t_1) => (match dropAny 32 t_1 with
    | some ([]) => (match Nat.beq e_0 (0 : Nat) && (Nat.beq e_1 (0 : Nat) && (Sh.beq e_2 (Sh.str) && (Nat.beq e_3 (2 : Nat) && (Nat.beq e_4 (0 : Nat) && (Sh.beq e_5 (Sh.str) && (Sh.beq e_6 shTab && (Nat.beq e_7 (1 : Nat) && (Nat.beq e_8 (0 : Nat) && (Sh.beq e_9 shTab && (decide (e_10 = ([])) && (decide (e_11 = ((0 : Int))) && (decide (e_12 = ([])) && (true))))))))))))) with | true => some ((l1, l2, i3, n4, l5), (c0, i6)) | false => none)
    | _ => none)
    | _ => none)
  | _, _ => none
noncomputable def pcolP_t0_L0_ex (i : (List D) × (List D) × Int × Nat × (List D)) (y : Nat × (List UInt8) × Int × (List UInt8) × Int × Bool × (List UInt8)) (k : KS) : Prop := let l1 := i.1; let l2 := i.2.1; let i3 := i.2.2.1; let n4 := i.2.2.2.1; let l5 := i.2.2.2.2; let tag := y.1; let cy13 := y.2.1; let iy14 := y.2.2.1; let cy15 := y.2.2.2.1; let iy16 := y.2.2.2.2.1; let by17 := y.2.2.2.2.2.1; let cy18 := y.2.2.2.2.2.2; br (Nat.beq tag 0) (k (Ex.ret) ([.any, .any, .any, .any, .any, .any, AV.ptr (some ((2 : Nat), (0 : Nat))), AV.str cy13, AV.int IntKind.i64 iy14] ++ padAny 48) [Ent.cells [AV.tsl false shTab (1 : Nat) (0 : Nat) n4 Cap.tight], Ent.tbl false shTab l5, Ent.cells [AV.str cy15, AV.int IntKind.i64 iy16, AV.bool by17, AV.str cy18]]) (br (Nat.beq tag 1) (k (Ex.normal) ([.any, .any, .any, .any, .any, .any, AV.ptr (some ((2 : Nat), (0 : Nat)))] ++ padAny 50) [Ent.cells [AV.tsl false shTab (1 : Nat) (0 : Nat) n4 Cap.tight], Ent.tbl false shTab l5, Ent.cells [AV.str [], AV.int IntKind.i64 (0 : Int), AV.bool false, AV.str []]]) (False))
theorem pcolP_t0_L0_of_ok : ∀ t s (i : (List D) × (List D) × Int × Nat × (List D)) (x : (List UInt8) × Int), pcolP_t0_L0_of t s = some (i, x) → t = pcolP_t0_L0_T i.1 i.2.1 i.2.2.1 i.2.2.2.1 i.2.2.2.2 x.1 x.2 ∧ s = pcolP_t0_L0_S i.1 i.2.1 i.2.2.1 i.2.2.2.1 i.2.2.2.2 x.1 x.2 := by
  intro t s i x h
  unfold pcolP_t0_L0_of at h
  split at h
  · split at h
    · rename_i ha
      obtain rfl := dropAny_eq ha
      split at h
      · rename_i ha
        obtain rfl := dropAny_eq ha
        split at h
        · rename_i hg
          cases h
          simp only [Bool.and_eq_true] at hg
          obtain ⟨h_0, h_1, h_2, h_3, h_4, h_5, h_6, h_7, h_8, h_9, h_10, h_11, h_12, _⟩ := hg
          obtain rfl := Nat.eq_of_beq_eq_true h_0
          obtain rfl := Nat.eq_of_beq_eq_true h_1
          obtain rfl := Sh.beq_eq _ _ h_2
          obtain rfl := Nat.eq_of_beq_eq_true h_3
          obtain rfl := Nat.eq_of_beq_eq_true h_4
          obtain rfl := Sh.beq_eq _ _ h_5
          obtain rfl := Sh.beq_eq _ _ h_6
          obtain rfl := Nat.eq_of_beq_eq_true h_7
          obtain rfl := Nat.eq_of_beq_eq_true h_8
          obtain rfl := Sh.beq_eq _ _ h_9
          have h_10 := of_decide_eq_true h_10
          subst h_10
          have h_11 := of_decide_eq_true h_11
          subst h_11
          have h_12 := of_decide_eq_true h_12
          subst h_12
          exact ⟨rfl, rfl⟩
        · cases h
      · cases h
    · cases h
  · cases h
noncomputable def pcolP_t0_L0_stp (l1 : List D) (l2 : List D) (i3 : Int) (n4 : Nat) (l5 : List D) (c0 : List UInt8) (i6 : Int) : NT ((List UInt8) × Int) (Nat × (List UInt8) × Int × (List UInt8) × Int × Bool × (List UInt8)) :=
  NT.br (decide (i6 < i3))
    (NT.br (decide ((0 : Int) ≤ i6) && decide (i6 < (↑l2.length : Int)))
     (NT.br (scolP_t0_V0 n4 l5 c0 (l2.getD i6.toNat D.nul).asStr)
      (NT.br (!scolP_t0_V5 n4 l5 c0 (l2.getD i6.toNat D.nul).asStr)
       (NT.done (0, [], (3 : Int), [], (0 : Int), false, []))
       (NT.br (decide (i6 = IntKind.i64.wrap ((↑l1.length : Int) - (1 : Int))))
        (NT.done (0, c0, (0 : Int), scolP_t0_V1 n4 l5 c0 (l2.getD i6.toNat D.nul).asStr, scolP_t0_V2 n4 l5 c0 (l2.getD i6.toNat D.nul).asStr, scolP_t0_V3 n4 l5 c0 (l2.getD i6.toNat D.nul).asStr, scolP_t0_V4 n4 l5 c0 (l2.getD i6.toNat D.nul).asStr))
        (NT.br (eqBytes (scolP_t0_V4 n4 l5 c0 (l2.getD i6.toNat D.nul).asStr) [])
         (NT.done (0, [], (9 : Int), [], (0 : Int), false, []))
         (NT.more (scolP_t0_V4 n4 l5 c0 (l2.getD i6.toNat D.nul).asStr, IntKind.i64.wrap (i6 + (1 : Int)))))))
      (NT.fail))
     (NT.fail))
    (NT.done (1, [], 0, [], 0, false, []))
noncomputable def pcolP_t0_L0 (i : (List D) × (List D) × Int × Nat × (List D)) (x : (List UInt8) × Int) := pcolP_t0_L0_stp i.1 i.2.1 i.2.2.1 i.2.2.2.1 i.2.2.2.2 x.1 x.2
theorem pcolP_t0_L0_rd (l1 : List D) (l2 : List D) (i3 : Int) (n4 : Nat) (l5 : List D) (c0 : List UInt8) (i6 : Int) (more : List AV → St → Prop) (kk : KS) : roundK Try.prog pr_aaPa7 noL 100 27 0 (pcolP_t0_L0_T l1 l2 i3 n4 l5 c0 i6) (pcolP_t0_L0_S l1 l2 i3 n4 l5 c0 i6) (againK 2 0 [.yes, .yes, .yes, .no, .no, .no, .yes, .no, .no, .no, .no, .no, .no, .no, .no, .no, .no, .no, .no, .no, .no, .no, .yes, .yes, .yes] [.no, .no, .no, .no, .no, .no, .yes, .yes, .yes] more kk) = (pcolP_t0_L0_stp l1 l2 i3 n4 l5 c0 i6).K (fun x' => more (pcolP_t0_L0_T l1 l2 i3 n4 l5 x'.1 x'.2) (pcolP_t0_L0_S l1 l2 i3 n4 l5 x'.1 x'.2)) (fun y => pcolP_t0_L0_ex (l1, l2, i3, n4, l5) y kk) := by kernel_rfl
noncomputable def pcolP_t0_L0_LP : Nat → Option LoopS := addL 0 (headG 2 [.yes, .yes, .yes, .no, .no, .no, .yes, .no, .no, .no, .no, .no, .no, .no, .no, .no, .no, .no, .no, .no, .no, .no, .yes, .yes, .yes] (outL pcolP_t0_L0 pcolP_t0_L0_of pcolP_t0_L0_ex)) noL
theorem pcolP_t0_L0_lp (hpr : PrOk Try.prog pr_aaPa7) : LoopsFor Try.prog 27 2 pcolP_t0_L0_LP := loops_lp (L := 100) (T := fun i x => pcolP_t0_L0_T i.1 i.2.1 i.2.2.1 i.2.2.2.1 i.2.2.2.2 x.1 x.2) (S := fun i x => pcolP_t0_L0_S i.1 i.2.1 i.2.2.1 i.2.2.2.1 i.2.2.2.2 x.1 x.2) ok hpr (by kernel_rfl) loops_none pcolP_t0_L0_of_ok (fun i x more kk => pcolP_t0_L0_rd i.1 i.2.1 i.2.2.1 i.2.2.2.1 i.2.2.2.2 x.1 x.2 more kk)
noncomputable def pcolP_t0r (n : Nat) (l : List D) (c : List UInt8) (p : List D) : RT :=
  RT.br (decide ((↑p.length : Int) = (0 : Int)))
    (okL (AV.tup [AV.agg [AV.str [], AV.int IntKind.i64 (0 : Int), AV.bool false, AV.str []], AV.str [], AV.int IntKind.i64 (5 : Int)]) ([Ent.cells [AV.tsl false shTab (1 : Nat) (0 : Nat) n Cap.tight], Ent.tbl false shTab l]))
    (RT.br (decide ((↑p.length : Int) > (4 : Int)))
     (okL (AV.tup [AV.agg [AV.str [], AV.int IntKind.i64 (0 : Int), AV.bool false, AV.str []], AV.str [], AV.int IntKind.i64 (5 : Int)]) ([Ent.cells [AV.tsl false shTab (1 : Nat) (0 : Nat) n Cap.tight], Ent.tbl false shTab l]))
     (RT.br (loopOk (pcolP_t0_L0 (p, p, (↑p.length : Int), n, l)) (c, (0 : Int)))
      (RT.br ((loopV (pcolP_t0_L0 (p, p, (↑p.length : Int), n, l)) (c, (0 : Int))).fst.beq (0 : Nat))
       (okL (AV.tup [AV.agg [AV.str (loopV (pcolP_t0_L0 (p, p, (↑p.length : Int), n, l)) (c, (0 : Int))).snd.snd.snd.fst, AV.int IntKind.i64 (loopV (pcolP_t0_L0 (p, p, (↑p.length : Int), n, l)) (c, (0 : Int))).snd.snd.snd.snd.fst, AV.bool (loopV (pcolP_t0_L0 (p, p, (↑p.length : Int), n, l)) (c, (0 : Int))).snd.snd.snd.snd.snd.fst, AV.str (loopV (pcolP_t0_L0 (p, p, (↑p.length : Int), n, l)) (c, (0 : Int))).snd.snd.snd.snd.snd.snd], AV.str (loopV (pcolP_t0_L0 (p, p, (↑p.length : Int), n, l)) (c, (0 : Int))).snd.fst, AV.int IntKind.i64 (loopV (pcolP_t0_L0 (p, p, (↑p.length : Int), n, l)) (c, (0 : Int))).snd.snd.fst]) ([Ent.cells [AV.tsl false shTab (1 : Nat) (0 : Nat) n Cap.tight], Ent.tbl false shTab l]))
       (RT.br ((loopV (pcolP_t0_L0 (p, p, (↑p.length : Int), n, l)) (c, (0 : Int))).fst.beq (1 : Nat))
        (okL (AV.tup [AV.agg [AV.str [], AV.int IntKind.i64 (0 : Int), AV.bool false, AV.str []], AV.str [], AV.int IntKind.i64 (3 : Int)]) ([Ent.cells [AV.tsl false shTab (1 : Nat) (0 : Nat) n Cap.tight], Ent.tbl false shTab l]))
        (RT.fail)))
      (RT.fail)))
theorem pcolP_t0r_b (n : Nat) (l : List D) (c : List UInt8) (p : List D) (K : AV → St → Prop) : bodyK Try.prog pr_aaPa7 pcolP_t0_L0_LP 100 27 [] [.ptr (some (0, 0)), .str c, .fz false .str p] [.cells [.tsl false shTab 1 0 n .tight], .tbl false shTab l] K = RT.K (fun v s _ => K v s) (pcolP_t0r n l c p) := by kernel_rfl
noncomputable def pcolP_t0_V0 (n : Nat) (l : List D) (c : List UInt8) (p : List D) : Bool :=
  bif decide ((↑p.length : Int) = (0 : Int)) then true else bif decide ((↑p.length : Int) > (4 : Int)) then true else loopOk (pcolP_t0_L0 (p, p, (↑p.length : Int), n, l)) (c, (0 : Int)) && bif (loopV (pcolP_t0_L0 (p, p, (↑p.length : Int), n, l)) (c, (0 : Int))).fst.beq (0 : Nat) then true else (loopV (pcolP_t0_L0 (p, p, (↑p.length : Int), n, l)) (c, (0 : Int))).fst.beq (1 : Nat) && true
noncomputable def pcolP_t0_V1 (n : Nat) (l : List D) (c : List UInt8) (p : List D) : List UInt8 :=
  bif decide ((↑p.length : Int) = (0 : Int)) then [] else bif decide ((↑p.length : Int) > (4 : Int)) then [] else bif (loopV (pcolP_t0_L0 (p, p, (↑p.length : Int), n, l)) (c, (0 : Int))).fst.beq (0 : Nat) then (loopV (pcolP_t0_L0 (p, p, (↑p.length : Int), n, l)) (c, (0 : Int))).snd.snd.snd.fst else []
noncomputable def pcolP_t0_V2 (n : Nat) (l : List D) (c : List UInt8) (p : List D) : Int :=
  bif decide ((↑p.length : Int) = (0 : Int)) then (0 : Int) else bif decide ((↑p.length : Int) > (4 : Int)) then (0 : Int) else bif (loopV (pcolP_t0_L0 (p, p, (↑p.length : Int), n, l)) (c, (0 : Int))).fst.beq (0 : Nat) then (loopV (pcolP_t0_L0 (p, p, (↑p.length : Int), n, l)) (c, (0 : Int))).snd.snd.snd.snd.fst else (0 : Int)
noncomputable def pcolP_t0_V3 (n : Nat) (l : List D) (c : List UInt8) (p : List D) : Bool :=
  bif decide ((↑p.length : Int) = (0 : Int)) then false else bif decide ((↑p.length : Int) > (4 : Int)) then false else bif (loopV (pcolP_t0_L0 (p, p, (↑p.length : Int), n, l)) (c, (0 : Int))).fst.beq (0 : Nat) then (loopV (pcolP_t0_L0 (p, p, (↑p.length : Int), n, l)) (c, (0 : Int))).snd.snd.snd.snd.snd.fst else false
noncomputable def pcolP_t0_V4 (n : Nat) (l : List D) (c : List UInt8) (p : List D) : List UInt8 :=
  bif decide ((↑p.length : Int) = (0 : Int)) then [] else bif decide ((↑p.length : Int) > (4 : Int)) then [] else bif (loopV (pcolP_t0_L0 (p, p, (↑p.length : Int), n, l)) (c, (0 : Int))).fst.beq (0 : Nat) then (loopV (pcolP_t0_L0 (p, p, (↑p.length : Int), n, l)) (c, (0 : Int))).snd.snd.snd.snd.snd.snd else []
noncomputable def pcolP_t0_V5 (n : Nat) (l : List D) (c : List UInt8) (p : List D) : List UInt8 :=
  bif decide ((↑p.length : Int) = (0 : Int)) then [] else bif decide ((↑p.length : Int) > (4 : Int)) then [] else bif (loopV (pcolP_t0_L0 (p, p, (↑p.length : Int), n, l)) (c, (0 : Int))).fst.beq (0 : Nat) then (loopV (pcolP_t0_L0 (p, p, (↑p.length : Int), n, l)) (c, (0 : Int))).snd.fst else []
noncomputable def pcolP_t0_V6 (n : Nat) (l : List D) (c : List UInt8) (p : List D) : Int :=
  bif decide ((↑p.length : Int) = (0 : Int)) then (5 : Int) else bif decide ((↑p.length : Int) > (4 : Int)) then (5 : Int) else bif (loopV (pcolP_t0_L0 (p, p, (↑p.length : Int), n, l)) (c, (0 : Int))).fst.beq (0 : Nat) then (loopV (pcolP_t0_L0 (p, p, (↑p.length : Int), n, l)) (c, (0 : Int))).snd.snd.fst else (3 : Int)
noncomputable def pcolP_t0 (n : Nat) (l : List D) (c : List UInt8) (p : List D) : RT :=
  RT.br (pcolP_t0_V0 n l c p)
    (okL (Go.Sy.AV.tup [(Go.Sy.AV.agg [(Go.Sy.AV.str (pcolP_t0_V1 n l c p)), (Go.Sy.AV.int (IntKind.i64) (pcolP_t0_V2 n l c p)), (Go.Sy.AV.bool (pcolP_t0_V3 n l c p)), (Go.Sy.AV.str (pcolP_t0_V4 n l c p))]), (Go.Sy.AV.str (pcolP_t0_V5 n l c p)), (Go.Sy.AV.int (IntKind.i64) (pcolP_t0_V6 n l c p))]) [(Go.Sy.Ent.cells [(Go.Sy.AV.tsl (false) shTab ((1 : Nat)) ((0 : Nat)) n Go.Sy.Cap.tight)]), (Go.Sy.Ent.tbl (false) shTab l)])
    (RT.fail)
theorem pcolP_t0_m (n : Nat) (l : List D) (c : List UInt8) (p : List D) (K : AV → St → Prop) : RT.K (fun v s _ => K v s) (RT.mergeW ([Ent.cells [AV.tsl false shTab (1 : Nat) (0 : Nat) n Cap.tight], Ent.tbl false shTab l]) (pcolP_t0r n l c p)) = RT.K (fun v s _ => K v s) (pcolP_t0 n l c p) := by kernel_rfl
theorem pcolP_t0_b (n : Nat) (l : List D) (c : List UInt8) (p : List D) (K : AV → St → Prop) (h : RT.K (fun v s _ => K v s) (pcolP_t0 n l c p)) : bodyK Try.prog pr_aaPa7 pcolP_t0_L0_LP 100 27 [] [.ptr (some (0, 0)), .str c, .fz false .str p] [.cells [.tsl false shTab 1 0 n .tight], .tbl false shTab l] K := Eq.mpr (pcolP_t0r_b ..) (mergeW_K (S := [Ent.cells [AV.tsl false shTab (1 : Nat) (0 : Nat) n Cap.tight], Ent.tbl false shTab l]) _ ⟨rfl, ⟨rfl, ⟨⟨rfl, ⟨rfl, trivial⟩⟩, trivial⟩⟩⟩ (Eq.mpr (pcolP_t0_m ..) h))
theorem pcolP_t0_lp (hpr : PrOk Try.prog pr_aaPa7) : LoopsFor Try.prog 27 2 pcolP_t0_L0_LP := (pcolP_t0_L0_lp hpr)
noncomputable def pcolP : Sy.Spec := ⟨[], fun args s => match args, s with
  | [(.ptr (.some (e_0, e_1))), (.str c), (.fz false e_2 p)], [(.cells [(.tsl false e_3 e_4 e_5 n .tight)]), (.tbl false e_6 l)] => .br (Nat.beq e_0 (0 : Nat) && (Nat.beq e_1 (0 : Nat) && (Sh.beq e_2 (Sh.str) && (Sh.beq e_3 shTab && (Nat.beq e_4 (1 : Nat) && (Nat.beq e_5 (0 : Nat) && (Sh.beq e_6 shTab && (true)))))))) (pcolP_t0 n l c p) .fail
  | _, _ => .fail⟩
theorem pcolP_ok : SpecOk Try.prog 27 pcolP.f := specOk_comes fun args s v s' tch e => by
  simp only [pcolP] at e
  split at e
  · obtain ⟨hg, e⟩ := if_run e
    simp only [Bool.and_eq_true] at hg
    obtain ⟨h_0, h_1, h_2, h_3, h_4, h_5, h_6, _⟩ := hg
    obtain rfl := Nat.eq_of_beq_eq_true h_0
    obtain rfl := Nat.eq_of_beq_eq_true h_1
    obtain rfl := Sh.beq_eq _ _ h_2
    obtain rfl := Sh.beq_eq _ _ h_3
    obtain rfl := Nat.eq_of_beq_eq_true h_4
    obtain rfl := Nat.eq_of_beq_eq_true h_5
    obtain rfl := Sh.beq_eq _ _ h_6
    refine comes_of ok pr_aaPa7_k (L := 100) (ms := []) (by kernel_rfl) (pcolP_t0_lp pr_aaPa7_k) ?_
    exact pcolP_t0_b (h := K_run e) ..
  · cases e
noncomputable def pcolP_pr : FuncId → Option Sy.Spec := addP 27 pcolP pr_aaPa7
theorem pcolP_pr_k : PrOk Try.prog pcolP_pr := prOk_add pcolP_ok pr_aaPa7_k
noncomputable def pr_aaPa8 : FuncId → Option Sy.Spec := addP 21 findR pcolP_pr
theorem pr_aaPa8_k : PrOk Try.prog pr_aaPa8 := prOk_add findR_ok pcolP_pr_k
noncomputable def rcolR_t0_L0_T (l0 : List D) (l2 : List D) (c1 : List UInt8) (i3 : Int) : List AV := ([AV.fz false shTab l0, AV.str c1, AV.fz false Sh.str l2, .any, .any, .any, AV.ptr (some ((0 : Nat), (0 : Nat))), .any, .any, AV.int IntKind.i64 i3] ++ padAny 65)
noncomputable def rcolR_t0_L0_S (l0 : List D) (l2 : List D) (c1 : List UInt8) (i3 : Int) : St := [Ent.cells [AV.str [], AV.int IntKind.i64 (0 : Int), AV.bool false, AV.str []]]
noncomputable def rcolR_t0_L0_of : List AV → St → Option (((List D) × (List D)) × ((List UInt8) × Int)) := fun t s => match t, s with
  | (.fz false e_0 l0) :: (.str c1) :: (.fz false e_1 l2) :: .any :: .any :: .any :: (.ptr (.some (e_2, e_3))) :: .any :: .any :: (.int .i64 i3) :: t_0, [(.cells [(.str e_4), (.int .i64 e_5), (.bool false), (.str e_6)])] => (match dropAny 65 t_0 with
    | some ([]) => (match Sh.beq e_0 shTab && (Sh.beq e_1 (Sh.str) && (Nat.beq e_2 (0 : Nat) && (Nat.beq e_3 (0 : Nat) && (decide (e_4 = ([])) && (decide (e_5 = ((0 : Int))) && (decide (e_6 = ([])) && (true))))))) with | true => some ((l0, l2), (c1, i3)) | false => none)
    | _ => none)
  | _, _ => none
noncomputable def rcolR_t0_L0_ex (i : (List D) × (List D)) (y : (List UInt8) × Int × (List UInt8) × Int × Bool × (List UInt8)) (k : KS) : Prop := let l0 := i.1; let l2 := i.2; let cy10 := y.1; let iy11 := y.2.1; let cy12 := y.2.2.1; let iy13 := y.2.2.2.1; let by14 := y.2.2.2.2.1; let cy15 := y.2.2.2.2.2; k (Ex.ret) ([.any, .any, .any, .any, .any, .any, AV.ptr (some ((0 : Nat), (0 : Nat))), AV.str cy10, AV.int IntKind.i64 iy11] ++ padAny 66) [Ent.cells [AV.str cy12, AV.int IntKind.i64 iy13, AV.bool by14, AV.str cy15]]
theorem rcolR_t0_L0_of_ok : ∀ t s (i : (List D) × (List D)) (x : (List UInt8) × Int), rcolR_t0_L0_of t s = some (i, x) → t = rcolR_t0_L0_T i.1 i.2 x.1 x.2 ∧ s = rcolR_t0_L0_S i.1 i.2 x.1 x.2 := by
  intro t s i x h
  unfold rcolR_t0_L0_of at h
  split at h
  · split at h
    · rename_i ha
      obtain rfl := dropAny_eq ha
      split at h
      · rename_i hg
        cases h
        simp only [Bool.and_eq_true] at hg
        obtain ⟨h_0, h_1, h_2, h_3, h_4, h_5, h_6, _⟩ := hg
        obtain rfl := Sh.beq_eq _ _ h_0
        obtain rfl := Sh.beq_eq _ _ h_1
        obtain rfl := Nat.eq_of_beq_eq_true h_2
        obtain rfl := Nat.eq_of_beq_eq_true h_3
        have h_4 := of_decide_eq_true h_4
        subst h_4
        have h_5 := of_decide_eq_true h_5
        subst h_5
        have h_6 := of_decide_eq_true h_6
        subst h_6
        exact ⟨rfl, rfl⟩
      · cases h
    · cases h
  · cases h
noncomputable def rcolR_t0_L0_stp (l0 : List D) (l2 : List D) (c1 : List UInt8) (i3 : Int) : NT ((List UInt8) × Int) ((List UInt8) × Int × (List UInt8) × Int × Bool × (List UInt8)) :=
  NT.br (findR_t0_V0 l0 c1)
    (NT.br (decide (findR_t0_V1 l0 c1 < (0 : Int)))
     (NT.done ([], (3 : Int), [], (0 : Int), false, []))
     (NT.br (decide ((0 : Int) ≤ findR_t0_V1 l0 c1) && decide (findR_t0_V1 l0 c1 < (↑l0.length : Int)))
      (NT.br (decide ((0 : Int) ≤ i3) && decide (i3 < (↑l2.length : Int)))
       (NT.br (colofR_t0_V0 ((l0.getD (findR_t0_V1 l0 c1).toNat D.nul).fld (0 : Nat)).asStr ((l0.getD (findR_t0_V1 l0 c1).toNat D.nul).fld (1 : Nat)).els ((l0.getD (findR_t0_V1 l0 c1).toNat D.nul).fld (2 : Nat)).asStr ((l0.getD (findR_t0_V1 l0 c1).toNat D.nul).fld (3 : Nat)).els (l2.getD i3.toNat D.nul).asStr)
        (NT.br (decide (colofR_t0_V1 ((l0.getD (findR_t0_V1 l0 c1).toNat D.nul).fld (0 : Nat)).asStr ((l0.getD (findR_t0_V1 l0 c1).toNat D.nul).fld (1 : Nat)).els ((l0.getD (findR_t0_V1 l0 c1).toNat D.nul).fld (2 : Nat)).asStr ((l0.getD (findR_t0_V1 l0 c1).toNat D.nul).fld (3 : Nat)).els (l2.getD i3.toNat D.nul).asStr < (0 : Int)))
         (NT.done ([], (3 : Int), [], (0 : Int), false, []))
         (NT.br (decide (i3 = IntKind.i64.wrap ((↑l2.length : Int) - (1 : Int))))
          (NT.br (decide ((0 : Int) ≤ findR_t0_V1 l0 c1) && decide (findR_t0_V1 l0 c1 < (↑l0.length : Int)))
           (NT.br (decide ((0 : Int) ≤ colofR_t0_V1 ((l0.getD (findR_t0_V1 l0 c1).toNat D.nul).fld (0 : Nat)).asStr ((l0.getD (findR_t0_V1 l0 c1).toNat D.nul).fld (1 : Nat)).els ((l0.getD (findR_t0_V1 l0 c1).toNat D.nul).fld (2 : Nat)).asStr ((l0.getD (findR_t0_V1 l0 c1).toNat D.nul).fld (3 : Nat)).els (l2.getD i3.toNat D.nul).asStr) && decide (colofR_t0_V1 ((l0.getD (findR_t0_V1 l0 c1).toNat D.nul).fld (0 : Nat)).asStr ((l0.getD (findR_t0_V1 l0 c1).toNat D.nul).fld (1 : Nat)).els ((l0.getD (findR_t0_V1 l0 c1).toNat D.nul).fld (2 : Nat)).asStr ((l0.getD (findR_t0_V1 l0 c1).toNat D.nul).fld (3 : Nat)).els (l2.getD i3.toNat D.nul).asStr < (↑((l0.getD (findR_t0_V1 l0 c1).toNat D.nul).fld (1 : Nat)).els.length : Int)))
            (NT.done (c1, (0 : Int), ((((l0.getD (findR_t0_V1 l0 c1).toNat D.nul).fld (1 : Nat)).els.getD (colofR_t0_V1 ((l0.getD (findR_t0_V1 l0 c1).toNat D.nul).fld (0 : Nat)).asStr ((l0.getD (findR_t0_V1 l0 c1).toNat D.nul).fld (1 : Nat)).els ((l0.getD (findR_t0_V1 l0 c1).toNat D.nul).fld (2 : Nat)).asStr ((l0.getD (findR_t0_V1 l0 c1).toNat D.nul).fld (3 : Nat)).els (l2.getD i3.toNat D.nul).asStr).toNat D.nul).fld (0 : Nat)).asStr, ((((l0.getD (findR_t0_V1 l0 c1).toNat D.nul).fld (1 : Nat)).els.getD (colofR_t0_V1 ((l0.getD (findR_t0_V1 l0 c1).toNat D.nul).fld (0 : Nat)).asStr ((l0.getD (findR_t0_V1 l0 c1).toNat D.nul).fld (1 : Nat)).els ((l0.getD (findR_t0_V1 l0 c1).toNat D.nul).fld (2 : Nat)).asStr ((l0.getD (findR_t0_V1 l0 c1).toNat D.nul).fld (3 : Nat)).els (l2.getD i3.toNat D.nul).asStr).toNat D.nul).fld (1 : Nat)).asInt, ((((l0.getD (findR_t0_V1 l0 c1).toNat D.nul).fld (1 : Nat)).els.getD (colofR_t0_V1 ((l0.getD (findR_t0_V1 l0 c1).toNat D.nul).fld (0 : Nat)).asStr ((l0.getD (findR_t0_V1 l0 c1).toNat D.nul).fld (1 : Nat)).els ((l0.getD (findR_t0_V1 l0 c1).toNat D.nul).fld (2 : Nat)).asStr ((l0.getD (findR_t0_V1 l0 c1).toNat D.nul).fld (3 : Nat)).els (l2.getD i3.toNat D.nul).asStr).toNat D.nul).fld (2 : Nat)).asBool, ((((l0.getD (findR_t0_V1 l0 c1).toNat D.nul).fld (1 : Nat)).els.getD (colofR_t0_V1 ((l0.getD (findR_t0_V1 l0 c1).toNat D.nul).fld (0 : Nat)).asStr ((l0.getD (findR_t0_V1 l0 c1).toNat D.nul).fld (1 : Nat)).els ((l0.getD (findR_t0_V1 l0 c1).toNat D.nul).fld (2 : Nat)).asStr ((l0.getD (findR_t0_V1 l0 c1).toNat D.nul).fld (3 : Nat)).els (l2.getD i3.toNat D.nul).asStr).toNat D.nul).fld (3 : Nat)).asStr))
            (NT.fail))
           (NT.fail))
          (NT.br (decide ((0 : Int) ≤ findR_t0_V1 l0 c1) && decide (findR_t0_V1 l0 c1 < (↑l0.length : Int)))
           (NT.br (decide ((0 : Int) ≤ colofR_t0_V1 ((l0.getD (findR_t0_V1 l0 c1).toNat D.nul).fld (0 : Nat)).asStr ((l0.getD (findR_t0_V1 l0 c1).toNat D.nul).fld (1 : Nat)).els ((l0.getD (findR_t0_V1 l0 c1).toNat D.nul).fld (2 : Nat)).asStr ((l0.getD (findR_t0_V1 l0 c1).toNat D.nul).fld (3 : Nat)).els (l2.getD i3.toNat D.nul).asStr) && decide (colofR_t0_V1 ((l0.getD (findR_t0_V1 l0 c1).toNat D.nul).fld (0 : Nat)).asStr ((l0.getD (findR_t0_V1 l0 c1).toNat D.nul).fld (1 : Nat)).els ((l0.getD (findR_t0_V1 l0 c1).toNat D.nul).fld (2 : Nat)).asStr ((l0.getD (findR_t0_V1 l0 c1).toNat D.nul).fld (3 : Nat)).els (l2.getD i3.toNat D.nul).asStr < (↑((l0.getD (findR_t0_V1 l0 c1).toNat D.nul).fld (1 : Nat)).els.length : Int)))
            (NT.br (eqBytes ((((l0.getD (findR_t0_V1 l0 c1).toNat D.nul).fld (1 : Nat)).els.getD (colofR_t0_V1 ((l0.getD (findR_t0_V1 l0 c1).toNat D.nul).fld (0 : Nat)).asStr ((l0.getD (findR_t0_V1 l0 c1).toNat D.nul).fld (1 : Nat)).els ((l0.getD (findR_t0_V1 l0 c1).toNat D.nul).fld (2 : Nat)).asStr ((l0.getD (findR_t0_V1 l0 c1).toNat D.nul).fld (3 : Nat)).els (l2.getD i3.toNat D.nul).asStr).toNat D.nul).fld (3 : Nat)).asStr [])
             (NT.done ([], (9 : Int), [], (0 : Int), false, []))
             (NT.br (decide ((0 : Int) ≤ findR_t0_V1 l0 c1) && decide (findR_t0_V1 l0 c1 < (↑l0.length : Int)))
              (NT.br (decide ((0 : Int) ≤ colofR_t0_V1 ((l0.getD (findR_t0_V1 l0 c1).toNat D.nul).fld (0 : Nat)).asStr ((l0.getD (findR_t0_V1 l0 c1).toNat D.nul).fld (1 : Nat)).els ((l0.getD (findR_t0_V1 l0 c1).toNat D.nul).fld (2 : Nat)).asStr ((l0.getD (findR_t0_V1 l0 c1).toNat D.nul).fld (3 : Nat)).els (l2.getD i3.toNat D.nul).asStr) && decide (colofR_t0_V1 ((l0.getD (findR_t0_V1 l0 c1).toNat D.nul).fld (0 : Nat)).asStr ((l0.getD (findR_t0_V1 l0 c1).toNat D.nul).fld (1 : Nat)).els ((l0.getD (findR_t0_V1 l0 c1).toNat D.nul).fld (2 : Nat)).asStr ((l0.getD (findR_t0_V1 l0 c1).toNat D.nul).fld (3 : Nat)).els (l2.getD i3.toNat D.nul).asStr < (↑((l0.getD (findR_t0_V1 l0 c1).toNat D.nul).fld (1 : Nat)).els.length : Int)))
               (NT.more (((((l0.getD (findR_t0_V1 l0 c1).toNat D.nul).fld (1 : Nat)).els.getD (colofR_t0_V1 ((l0.getD (findR_t0_V1 l0 c1).toNat D.nul).fld (0 : Nat)).asStr ((l0.getD (findR_t0_V1 l0 c1).toNat D.nul).fld (1 : Nat)).els ((l0.getD (findR_t0_V1 l0 c1).toNat D.nul).fld (2 : Nat)).asStr ((l0.getD (findR_t0_V1 l0 c1).toNat D.nul).fld (3 : Nat)).els (l2.getD i3.toNat D.nul).asStr).toNat D.nul).fld (3 : Nat)).asStr, IntKind.i64.wrap (i3 + (1 : Int))))
               (NT.fail))
              (NT.fail)))
            (NT.fail))
           (NT.fail))))
        (NT.fail))
       (NT.fail))
      (NT.fail)))
    (NT.fail)
noncomputable def rcolR_t0_L0 (i : (List D) × (List D)) (x : (List UInt8) × Int) := rcolR_t0_L0_stp i.1 i.2 x.1 x.2
theorem rcolR_t0_L0_rd (l0 : List D) (l2 : List D) (c1 : List UInt8) (i3 : Int) (more : List AV → St → Prop) (kk : KS) : roundK Try.prog pr_aaPa8 noL 100 28 0 (rcolR_t0_L0_T l0 l2 c1 i3) (rcolR_t0_L0_S l0 l2 c1 i3) (againK 0 0 [.yes, .yes, .yes, .no, .no, .no, .yes, .no, .no, .yes] [.no, .no, .no, .no, .no, .no, .yes, .yes, .yes] more kk) = (rcolR_t0_L0_stp l0 l2 c1 i3).K (fun x' => more (rcolR_t0_L0_T l0 l2 x'.1 x'.2) (rcolR_t0_L0_S l0 l2 x'.1 x'.2)) (fun y => rcolR_t0_L0_ex (l0, l2) y kk) := by kernel_rfl
noncomputable def rcolR_t0_L0_LP : Nat → Option LoopS := addL 0 (headG 0 [.yes, .yes, .yes, .no, .no, .no, .yes, .no, .no, .yes] (outL rcolR_t0_L0 rcolR_t0_L0_of rcolR_t0_L0_ex)) noL
theorem rcolR_t0_L0_lp (hpr : PrOk Try.prog pr_aaPa8) : LoopsFor Try.prog 28 0 rcolR_t0_L0_LP := loops_lp (L := 100) (T := fun i x => rcolR_t0_L0_T i.1 i.2 x.1 x.2) (S := fun i x => rcolR_t0_L0_S i.1 i.2 x.1 x.2) ok hpr (by kernel_rfl) loops_none rcolR_t0_L0_of_ok (fun i x more kk => rcolR_t0_L0_rd i.1 i.2 x.1 x.2 more kk)
noncomputable def rcolR_t0r (l0 : List D) (c1 : List UInt8) (l2 : List D) : RT :=
  RT.br (decide ((↑l2.length : Int) < (1 : Int)))
    (okL (AV.tup [AV.agg [AV.str [], AV.int IntKind.i64 (0 : Int), AV.bool false, AV.str []], AV.str [], AV.int IntKind.i64 (5 : Int)]) ([]))
    (RT.br (decide ((↑l2.length : Int) > (4 : Int)))
     (okL (AV.tup [AV.agg [AV.str [], AV.int IntKind.i64 (0 : Int), AV.bool false, AV.str []], AV.str [], AV.int IntKind.i64 (5 : Int)]) ([]))
     (RT.br (loopOk (rcolR_t0_L0 (l0, l2)) (c1, (0 : Int)))
      (okL (AV.tup [AV.agg [AV.str (loopV (rcolR_t0_L0 (l0, l2)) (c1, (0 : Int))).snd.snd.fst, AV.int IntKind.i64 (loopV (rcolR_t0_L0 (l0, l2)) (c1, (0 : Int))).snd.snd.snd.fst, AV.bool (loopV (rcolR_t0_L0 (l0, l2)) (c1, (0 : Int))).snd.snd.snd.snd.fst, AV.str (loopV (rcolR_t0_L0 (l0, l2)) (c1, (0 : Int))).snd.snd.snd.snd.snd], AV.str (loopV (rcolR_t0_L0 (l0, l2)) (c1, (0 : Int))).fst, AV.int IntKind.i64 (loopV (rcolR_t0_L0 (l0, l2)) (c1, (0 : Int))).snd.fst]) ([]))
      (RT.fail)))
theorem rcolR_t0r_b (l0 : List D) (c1 : List UInt8) (l2 : List D) (K : AV → St → Prop) : bodyK Try.prog pr_aaPa8 rcolR_t0_L0_LP 100 28 [] [.fz false (.struct [.str, (.slice (.struct [.str, (.int .i64), .bool, .str])), .str, (.slice (.struct [(.slice .str), .str]))]) l0, .str c1, .fz false .str l2] [] K = RT.K (fun v s _ => K v s) (rcolR_t0r l0 c1 l2) := by kernel_rfl
noncomputable def rcolR_t0_V0 (l0 : List D) (c1 : List UInt8) (l2 : List D) : Bool :=
  bif decide ((↑l2.length : Int) < (1 : Int)) then true else bif decide ((↑l2.length : Int) > (4 : Int)) then true else loopOk (rcolR_t0_L0 (l0, l2)) (c1, (0 : Int)) && true
noncomputable def rcolR_t0_V1 (l0 : List D) (c1 : List UInt8) (l2 : List D) : List UInt8 :=
  bif decide ((↑l2.length : Int) < (1 : Int)) then [] else bif decide ((↑l2.length : Int) > (4 : Int)) then [] else (loopV (rcolR_t0_L0 (l0, l2)) (c1, (0 : Int))).snd.snd.fst
noncomputable def rcolR_t0_V2 (l0 : List D) (c1 : List UInt8) (l2 : List D) : Int :=
  bif decide ((↑l2.length : Int) < (1 : Int)) then (0 : Int) else bif decide ((↑l2.length : Int) > (4 : Int)) then (0 : Int) else (loopV (rcolR_t0_L0 (l0, l2)) (c1, (0 : Int))).snd.snd.snd.fst
noncomputable def rcolR_t0_V3 (l0 : List D) (c1 : List UInt8) (l2 : List D) : Bool :=
  bif decide ((↑l2.length : Int) < (1 : Int)) then false else bif decide ((↑l2.length : Int) > (4 : Int)) then false else (loopV (rcolR_t0_L0 (l0, l2)) (c1, (0 : Int))).snd.snd.snd.snd.fst
noncomputable def rcolR_t0_V4 (l0 : List D) (c1 : List UInt8) (l2 : List D) : List UInt8 :=
  bif decide ((↑l2.length : Int) < (1 : Int)) then [] else bif decide ((↑l2.length : Int) > (4 : Int)) then [] else (loopV (rcolR_t0_L0 (l0, l2)) (c1, (0 : Int))).snd.snd.snd.snd.snd
noncomputable def rcolR_t0_V5 (l0 : List D) (c1 : List UInt8) (l2 : List D) : List UInt8 :=
  bif decide ((↑l2.length : Int) < (1 : Int)) then [] else bif decide ((↑l2.length : Int) > (4 : Int)) then [] else (loopV (rcolR_t0_L0 (l0, l2)) (c1, (0 : Int))).fst
noncomputable def rcolR_t0_V6 (l0 : List D) (c1 : List UInt8) (l2 : List D) : Int :=
  bif decide ((↑l2.length : Int) < (1 : Int)) then (5 : Int) else bif decide ((↑l2.length : Int) > (4 : Int)) then (5 : Int) else (loopV (rcolR_t0_L0 (l0, l2)) (c1, (0 : Int))).snd.fst
noncomputable def rcolR_t0 (l0 : List D) (c1 : List UInt8) (l2 : List D) : RT :=
  RT.br (rcolR_t0_V0 l0 c1 l2)
    (okL (Go.Sy.AV.tup [(Go.Sy.AV.agg [(Go.Sy.AV.str (rcolR_t0_V1 l0 c1 l2)), (Go.Sy.AV.int (IntKind.i64) (rcolR_t0_V2 l0 c1 l2)), (Go.Sy.AV.bool (rcolR_t0_V3 l0 c1 l2)), (Go.Sy.AV.str (rcolR_t0_V4 l0 c1 l2))]), (Go.Sy.AV.str (rcolR_t0_V5 l0 c1 l2)), (Go.Sy.AV.int (IntKind.i64) (rcolR_t0_V6 l0 c1 l2))]) [])
    (RT.fail)
theorem rcolR_t0_m (l0 : List D) (c1 : List UInt8) (l2 : List D) (K : AV → St → Prop) : RT.K (fun v s _ => K v s) (RT.mergeW ([]) (rcolR_t0r l0 c1 l2)) = RT.K (fun v s _ => K v s) (rcolR_t0 l0 c1 l2) := by kernel_rfl
theorem rcolR_t0_b (l0 : List D) (c1 : List UInt8) (l2 : List D) (K : AV → St → Prop) (h : RT.K (fun v s _ => K v s) (rcolR_t0 l0 c1 l2)) : bodyK Try.prog pr_aaPa8 rcolR_t0_L0_LP 100 28 [] [.fz false (.struct [.str, (.slice (.struct [.str, (.int .i64), .bool, .str])), .str, (.slice (.struct [(.slice .str), .str]))]) l0, .str c1, .fz false .str l2] [] K := Eq.mpr (rcolR_t0r_b ..) (mergeW_K (S := []) _ ⟨rfl, ⟨rfl, ⟨rfl, trivial⟩⟩⟩ (Eq.mpr (rcolR_t0_m ..) h))
theorem rcolR_t0_lp (hpr : PrOk Try.prog pr_aaPa8) : LoopsFor Try.prog 28 0 rcolR_t0_L0_LP := (rcolR_t0_L0_lp hpr)
noncomputable def rcolR : Sy.Spec := ⟨[.data (.slice (.struct [.str, (.slice (.struct [.str, (.int .i64), .bool, .str])), .str, (.slice (.struct [(.slice .str), .str]))])), .keep, .data (.slice .str)], fun args s => match args, s with
  | [(.fz false e_0 l0), (.str c1), (.fz false e_1 l2)], [] => .br (Sh.beq e_0 shTab && (Sh.beq e_1 (Sh.str) && (true))) (rcolR_t0 l0 c1 l2) .fail
  | _, _ => .fail⟩
theorem rcolR_ok : SpecOk Try.prog 28 rcolR.f := specOk_comes fun args s v s' tch e => by
  simp only [rcolR] at e
  split at e
  · obtain ⟨hg, e⟩ := if_run e
    simp only [Bool.and_eq_true] at hg
    obtain ⟨h_0, h_1, _⟩ := hg
    obtain rfl := Sh.beq_eq _ _ h_0
    obtain rfl := Sh.beq_eq _ _ h_1
    refine comes_of ok pr_aaPa8_k (L := 100) (ms := []) (by kernel_rfl) (rcolR_t0_lp pr_aaPa8_k) ?_
    exact rcolR_t0_b (h := K_run e) ..
  · cases e
noncomputable def rcolR_pr : FuncId → Option Sy.Spec := addP 28 rcolR pr_aaPa8
theorem rcolR_pr_k : PrOk Try.prog rcolR_pr := prOk_add rcolR_ok pr_aaPa8_k
noncomputable def rtextR_t0_L0_T (l0 : List D) (c1 : List UInt8) (i2 : Int) : List AV := ([AV.fz false Sh.str l0, .any, .any, AV.str c1, AV.int IntKind.i64 i2] ++ padAny 17)
noncomputable def rtextR_t0_L0_S (l0 : List D) (c1 : List UInt8) (i2 : Int) : St := []
noncomputable def rtextR_t0_L0_of : List AV → St → Option (((List D)) × ((List UInt8) × Int)) := fun t s => match t, s with
  | (.fz false e_0 l0) :: .any :: .any :: (.str c1) :: (.int .i64 i2) :: t_0, [] => (match dropAny 17 t_0 with
    | some ([]) => (match Sh.beq e_0 (Sh.str) && (true) with | true => some ((l0), (c1, i2)) | false => none)
    | _ => none)
  | _, _ => none
noncomputable def rtextR_t0_L0_ex (i : (List D)) (y : (List UInt8)) (k : KS) : Prop := let l0 := i; let cy4 := y; k (Ex.normal) ([.any, .any, .any, AV.str cy4] ++ padAny 18) []
theorem rtextR_t0_L0_of_ok : ∀ t s (i : (List D)) (x : (List UInt8) × Int), rtextR_t0_L0_of t s = some (i, x) → t = rtextR_t0_L0_T i x.1 x.2 ∧ s = rtextR_t0_L0_S i x.1 x.2 := by
  intro t s i x h
  unfold rtextR_t0_L0_of at h
  split at h
  · split at h
    · rename_i ha
      obtain rfl := dropAny_eq ha
      split at h
      · rename_i hg
        cases h
        simp only [Bool.and_eq_true] at hg
        obtain ⟨h_0, _⟩ := hg
        obtain rfl := Sh.beq_eq _ _ h_0
        exact ⟨rfl, rfl⟩
      · cases h
    · cases h
  · cases h
noncomputable def rtextR_t0_L0_stp (l0 : List D) (c1 : List UInt8) (i2 : Int) : NT ((List UInt8) × Int) ((List UInt8)) :=
  NT.br (decide (i2 < (↑l0.length : Int)))
    (NT.br (decide (i2 > (0 : Int)))
     (NT.br ((c1.length + (1 : Nat)).ble (9223372036854775807 : Nat))
      (NT.br (decide ((0 : Int) ≤ i2) && decide (i2 < (↑l0.length : Int)))
       (NT.br (((c1 ++ [(46 : UInt8)]).length + (l0.getD i2.toNat D.nul).asStr.length).ble (9223372036854775807 : Nat))
        (NT.more (c1 ++ [(46 : UInt8)] ++ (l0.getD i2.toNat D.nul).asStr, IntKind.i64.wrap (i2 + (1 : Int))))
        (NT.fail))
       (NT.fail))
      (NT.fail))
     (NT.br (decide ((0 : Int) ≤ i2) && decide (i2 < (↑l0.length : Int)))
      (NT.br ((c1.length + (l0.getD i2.toNat D.nul).asStr.length).ble (9223372036854775807 : Nat))
       (NT.more (c1 ++ (l0.getD i2.toNat D.nul).asStr, IntKind.i64.wrap (i2 + (1 : Int))))
       (NT.fail))
      (NT.fail)))
    (NT.done (c1))
noncomputable def rtextR_t0_L0 (i : (List D)) (x : (List UInt8) × Int) := rtextR_t0_L0_stp i x.1 x.2
theorem rtextR_t0_L0_rd (l0 : List D) (c1 : List UInt8) (i2 : Int) (more : List AV → St → Prop) (kk : KS) : roundK Try.prog rcolR_pr noL 100 30 0 (rtextR_t0_L0_T l0 c1 i2) (rtextR_t0_L0_S l0 c1 i2) (againK 0 0 [.yes, .no, .no, .yes, .yes] [.no, .no, .yes, .yes] more kk) = (rtextR_t0_L0_stp l0 c1 i2).K (fun x' => more (rtextR_t0_L0_T l0 x'.1 x'.2) (rtextR_t0_L0_S l0 x'.1 x'.2)) (fun y => rtextR_t0_L0_ex (l0) y kk) := by kernel_rfl
noncomputable def rtextR_t0_L0_LP : Nat → Option LoopS := addL 0 (headG 0 [.yes, .no, .no, .yes, .yes] (outL rtextR_t0_L0 rtextR_t0_L0_of rtextR_t0_L0_ex)) noL
theorem rtextR_t0_L0_lp (hpr : PrOk Try.prog rcolR_pr) : LoopsFor Try.prog 30 0 rtextR_t0_L0_LP := loops_lp (L := 100) (T := fun i x => rtextR_t0_L0_T i x.1 x.2) (S := fun i x => rtextR_t0_L0_S i x.1 x.2) ok hpr (by kernel_rfl) loops_none rtextR_t0_L0_of_ok (fun i x more kk => rtextR_t0_L0_rd i x.1 x.2 more kk)
noncomputable def rtextR_t0r (l0 : List D) : RT :=
  RT.br (loopOk (rtextR_t0_L0 l0) ([], (0 : Int)))
    (okL (AV.str (loopV (rtextR_t0_L0 l0) ([], (0 : Int)))) ([]))
    (RT.fail)
theorem rtextR_t0r_b (l0 : List D) (K : AV → St → Prop) : bodyK Try.prog rcolR_pr rtextR_t0_L0_LP 100 30 [] [.fz false .str l0] [] K = RT.K (fun v s _ => K v s) (rtextR_t0r l0) := by kernel_rfl
noncomputable def rtextR_t0_V0 (l0 : List D) : Bool :=
  loopOk (rtextR_t0_L0 l0) ([], (0 : Int)) && true
noncomputable def rtextR_t0_V1 (l0 : List D) : List UInt8 :=
  loopV (rtextR_t0_L0 l0) ([], (0 : Int))
noncomputable def rtextR_t0 (l0 : List D) : RT :=
  RT.br (rtextR_t0_V0 l0)
    (okL (Go.Sy.AV.str (rtextR_t0_V1 l0)) [])
    (RT.fail)
theorem rtextR_t0_m (l0 : List D) (K : AV → St → Prop) : RT.K (fun v s _ => K v s) (RT.mergeW ([]) (rtextR_t0r l0)) = RT.K (fun v s _ => K v s) (rtextR_t0 l0) := by kernel_rfl
theorem rtextR_t0_b (l0 : List D) (K : AV → St → Prop) (h : RT.K (fun v s _ => K v s) (rtextR_t0 l0)) : bodyK Try.prog rcolR_pr rtextR_t0_L0_LP 100 30 [] [.fz false .str l0] [] K := Eq.mpr (rtextR_t0r_b ..) (mergeW_K (S := []) _ ⟨rfl, trivial⟩ (Eq.mpr (rtextR_t0_m ..) h))
theorem rtextR_t0_lp (hpr : PrOk Try.prog rcolR_pr) : LoopsFor Try.prog 30 0 rtextR_t0_L0_LP := (rtextR_t0_L0_lp hpr)
noncomputable def rtextR : Sy.Spec := ⟨[.data (.slice .str)], fun args s => match args, s with
  | [(.fz false e_0 l0)], [] => .br (Sh.beq e_0 (Sh.str) && (true)) (rtextR_t0 l0) .fail
  | _, _ => .fail⟩
theorem rtextR_ok : SpecOk Try.prog 30 rtextR.f := specOk_comes fun args s v s' tch e => by
  simp only [rtextR] at e
  split at e
  · obtain ⟨hg, e⟩ := if_run e
    simp only [Bool.and_eq_true] at hg
    obtain ⟨h_0, _⟩ := hg
    obtain rfl := Sh.beq_eq _ _ h_0
    refine comes_of ok rcolR_pr_k (L := 100) (ms := []) (by kernel_rfl) (rtextR_t0_lp rcolR_pr_k) ?_
    exact rtextR_t0_b (h := K_run e) ..
  · cases e
noncomputable def rtextR_pr : FuncId → Option Sy.Spec := addP 30 rtextR rcolR_pr
theorem rtextR_pr_k : PrOk Try.prog rtextR_pr := prOk_add rtextR_ok rcolR_pr_k
end Go.Proofs.Ytekedhfmdpbplaa
