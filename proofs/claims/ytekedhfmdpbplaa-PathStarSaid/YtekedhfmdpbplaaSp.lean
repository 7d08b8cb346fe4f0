/- Walks: tables' forms: the program's own. -/
import Derived.Test.YtekedhfmdpbplaaSr
import Derived.KernelRfl
set_option linter.unusedSimpArgs false
set_option linter.unusedVariables false
set_option maxRecDepth 100000
namespace Go.Proofs.Ytekedhfmdpbplaa
open Go Go.Sy
attribute [local irreducible] bodyK roundK cutK
theorem clCol_body (l : List D) (K : AV → St → Prop) : bodyK Try.prog noP noL 100 72 [] [.fz true shCol l] [] K =
  br ((((3 : Nat) * ((0 : Nat) + l.length) + (2000 : Nat)) * (48 : Nat)).ble (281474976710656 : Nat))
    (K (AV.tsl true (Sh.struct [Sh.str, Sh.int IntKind.i64, Sh.bool, Sh.str]) (0 : Nat) (0 : Nat) ((0 : Nat) + l.length) Cap.tight) [Ent.tbl false (Sh.struct [Sh.str, Sh.int IntKind.i64, Sh.bool, Sh.str]) l])
    (False) := by kernel_rfl
theorem cnCol_body (K : AV → St → Prop) : bodyK Try.prog noP noL 100 72 [] [.nilSl] [] K =
  K AV.nilSl [] := by kernel_rfl
theorem clCol_ok : SpecOk Try.prog 72 (cloneDF shCol).f := cloneD_ok (fun l hl => by
    refine comes_of ok prOk_none (L := 100) (ms := []) (by kernel_rfl) loops_none ?_
    refine Eq.mpr (clCol_body ..) ?_
    refine br_t ?_ ⟨?_, ?_⟩
    · simp only [Bool.and_eq_true, Nat.ble_eq]; first | omega | exact ⟨by decide, by omega⟩ | exact ⟨trivial, by omega⟩
    · rw [Nat.zero_add] <;> rfl
    · rfl) (by
    refine comes_of ok prOk_none (L := 100) (ms := []) (by kernel_rfl) loops_none ?_
    refine Eq.mpr (cnCol_body ..) ?_
    exact ⟨rfl, rfl⟩)
theorem clDep_body (l : List D) (K : AV → St → Prop) : bodyK Try.prog noP noL 100 73 [] [.fz true shDep l] [] K =
  br ((((3 : Nat) * ((0 : Nat) + l.length) + (2000 : Nat)) * (40 : Nat)).ble (281474976710656 : Nat))
    (K (AV.tsl true (Sh.struct [Sh.str.slice, Sh.str]) (0 : Nat) (0 : Nat) ((0 : Nat) + l.length) Cap.tight) [Ent.tbl false (Sh.struct [Sh.str.slice, Sh.str]) l])
    (False) := by kernel_rfl
theorem cnDep_body (K : AV → St → Prop) : bodyK Try.prog noP noL 100 73 [] [.nilSl] [] K =
  K AV.nilSl [] := by kernel_rfl
theorem clDep_ok : SpecOk Try.prog 73 (cloneDF shDep).f := cloneD_ok (fun l hl => by
    refine comes_of ok prOk_none (L := 100) (ms := []) (by kernel_rfl) loops_none ?_
    refine Eq.mpr (clDep_body ..) ?_
    refine br_t ?_ ⟨?_, ?_⟩
    · simp only [Bool.and_eq_true, Nat.ble_eq]; first | omega | exact ⟨by decide, by omega⟩ | exact ⟨trivial, by omega⟩
    · rw [Nat.zero_add] <;> rfl
    · rfl) (by
    refine comes_of ok prOk_none (L := 100) (ms := []) (by kernel_rfl) loops_none ?_
    refine Eq.mpr (cnDep_body ..) ?_
    exact ⟨rfl, rfl⟩)
theorem clStr_body (l : List D) (K : AV → St → Prop) : bodyK Try.prog noP noL 100 74 [] [.fz true .str l] [] K =
  br ((((3 : Nat) * ((0 : Nat) + l.length) + (2000 : Nat)) * (16 : Nat)).ble (281474976710656 : Nat))
    (K (AV.tsl true Sh.str (0 : Nat) (0 : Nat) ((0 : Nat) + l.length) Cap.tight) [Ent.tbl false Sh.str l])
    (False) := by kernel_rfl
theorem cnStr_body (K : AV → St → Prop) : bodyK Try.prog noP noL 100 74 [] [.nilSl] [] K =
  K AV.nilSl [] := by kernel_rfl
theorem clStr_ok : SpecOk Try.prog 74 (cloneDF .str).f := cloneD_ok (fun l hl => by
    refine comes_of ok prOk_none (L := 100) (ms := []) (by kernel_rfl) loops_none ?_
    refine Eq.mpr (clStr_body ..) ?_
    refine br_t ?_ ⟨?_, ?_⟩
    · simp only [Bool.and_eq_true, Nat.ble_eq]; first | omega | exact ⟨by decide, by omega⟩ | exact ⟨trivial, by omega⟩
    · rw [Nat.zero_add] <;> rfl
    · rfl) (by
    refine comes_of ok prOk_none (L := 100) (ms := []) (by kernel_rfl) loops_none ?_
    refine Eq.mpr (cnStr_body ..) ?_
    exact ⟨rfl, rfl⟩)
theorem clPth_body (l : List D) (K : AV → St → Prop) : bodyK Try.prog noP noL 100 109 [] [.fz true .str l] [] K =
  br ((((3 : Nat) * ((0 : Nat) + l.length) + (2000 : Nat)) * (16 : Nat)).ble (281474976710656 : Nat))
    (K (AV.tsl true Sh.str (0 : Nat) (0 : Nat) ((0 : Nat) + l.length) Cap.tight) [Ent.tbl false Sh.str l])
    (False) := by kernel_rfl
theorem cnPth_body (K : AV → St → Prop) : bodyK Try.prog noP noL 100 109 [] [.nilSl] [] K =
  K AV.nilSl [] := by kernel_rfl
theorem clPth_ok : SpecOk Try.prog 109 (cloneDF .str).f := cloneD_ok (fun l hl => by
    refine comes_of ok prOk_none (L := 100) (ms := []) (by kernel_rfl) loops_none ?_
    refine Eq.mpr (clPth_body ..) ?_
    refine br_t ?_ ⟨?_, ?_⟩
    · simp only [Bool.and_eq_true, Nat.ble_eq]; first | omega | exact ⟨by decide, by omega⟩ | exact ⟨trivial, by omega⟩
    · rw [Nat.zero_add] <;> rfl
    · rfl) (by
    refine comes_of ok prOk_none (L := 100) (ms := []) (by kernel_rfl) loops_none ?_
    refine Eq.mpr (cnPth_body ..) ?_
    exact ⟨rfl, rfl⟩)
noncomputable def pr_aaSp1 : FuncId → Option Sy.Spec := addP 72 (cloneDF shCol) noP
theorem pr_aaSp1_k : PrOk Try.prog pr_aaSp1 := prOk_add clCol_ok prOk_none
noncomputable def pr_aaSp2 : FuncId → Option Sy.Spec := addP 73 (cloneDF shDep) pr_aaSp1
theorem pr_aaSp2_k : PrOk Try.prog pr_aaSp2 := prOk_add clDep_ok pr_aaSp1_k
noncomputable def pr_aaSp3 : FuncId → Option Sy.Spec := addP 74 (cloneDF .str) pr_aaSp2
theorem pr_aaSp3_k : PrOk Try.prog pr_aaSp3 := prOk_add clStr_ok pr_aaSp2_k
noncomputable def letP_t0r (i0 : Int) : RT :=
  RT.br (decide (i0 ≥ (97 : Int)))
    (RT.br (decide (i0 ≤ (122 : Int)))
     (okL (AV.bool true) ([]))
     (okL (AV.bool (decide (i0 = (95 : Int)))) ([])))
    (okL (AV.bool (decide (i0 = (95 : Int)))) ([]))
theorem letP_t0r_b (i0 : Int) (K : AV → St → Prop) : bodyK Try.prog pr_aaSp3 noL 100 91 [] [.int .u8 i0] [] K = RT.K (fun v s _ => K v s) (letP_t0r i0) := by kernel_rfl
noncomputable def letP_t0_V0 (i0 : Int) : Bool :=
  bif decide (i0 ≥ (97 : Int)) then bif decide (i0 ≤ (122 : Int)) then true else true else true
noncomputable def letP_t0_V1 (i0 : Int) : Bool :=
  bif decide (i0 ≥ (97 : Int)) then bif decide (i0 ≤ (122 : Int)) then true else decide (i0 = (95 : Int)) else decide (i0 = (95 : Int))
noncomputable def letP_t0 (i0 : Int) : RT :=
  RT.br (letP_t0_V0 i0)
    (okL (Go.Sy.AV.bool (letP_t0_V1 i0)) [])
    (RT.fail)
theorem letP_t0_m (i0 : Int) (K : AV → St → Prop) : RT.K (fun v s _ => K v s) (RT.mergeW ([]) (letP_t0r i0)) = RT.K (fun v s _ => K v s) (letP_t0 i0) := by kernel_rfl
theorem letP_t0_b (i0 : Int) (K : AV → St → Prop) (h : RT.K (fun v s _ => K v s) (letP_t0 i0)) : bodyK Try.prog pr_aaSp3 noL 100 91 [] [.int .u8 i0] [] K := Eq.mpr (letP_t0r_b ..) (mergeW_K (S := []) _ ⟨⟨rfl, rfl⟩, rfl⟩ (Eq.mpr (letP_t0_m ..) h))
theorem letP_t0_lp (hpr : PrOk Try.prog pr_aaSp3) : LoopsFor Try.prog 91 0 noL := loops_none
noncomputable def letP : Sy.Spec := ⟨[], fun args s => match args, s with
  | [(.int .u8 i0)], [] => .br (true) (letP_t0 i0) .fail
  | _, _ => .fail⟩
theorem letP_ok : SpecOk Try.prog 91 letP.f := specOk_comes fun args s v s' tch e => by
  simp only [letP] at e
  split at e
  · obtain ⟨hg, e⟩ := if_run e
    refine comes_of ok pr_aaSp3_k (L := 100) (ms := []) (by kernel_rfl) (letP_t0_lp pr_aaSp3_k) ?_
    exact letP_t0_b (h := K_run e) ..
  · cases e
noncomputable def letP_pr : FuncId → Option Sy.Spec := addP 91 letP pr_aaSp3
theorem letP_pr_k : PrOk Try.prog letP_pr := prOk_add letP_ok pr_aaSp3_k
noncomputable def digP_t0r (i0 : Int) : RT :=
  RT.br (decide (i0 ≥ (48 : Int)))
    (okL (AV.bool (decide (i0 ≤ (57 : Int)))) ([]))
    (okL (AV.bool false) ([]))
theorem digP_t0r_b (i0 : Int) (K : AV → St → Prop) : bodyK Try.prog letP_pr noL 100 89 [] [.int .u8 i0] [] K = RT.K (fun v s _ => K v s) (digP_t0r i0) := by kernel_rfl
noncomputable def digP_t0_V0 (i0 : Int) : Bool :=
  bif decide (i0 ≥ (48 : Int)) then true else true
noncomputable def digP_t0_V1 (i0 : Int) : Bool :=
  bif decide (i0 ≥ (48 : Int)) then decide (i0 ≤ (57 : Int)) else false
noncomputable def digP_t0 (i0 : Int) : RT :=
  RT.br (digP_t0_V0 i0)
    (okL (Go.Sy.AV.bool (digP_t0_V1 i0)) [])
    (RT.fail)
theorem digP_t0_m (i0 : Int) (K : AV → St → Prop) : RT.K (fun v s _ => K v s) (RT.mergeW ([]) (digP_t0r i0)) = RT.K (fun v s _ => K v s) (digP_t0 i0) := by kernel_rfl
theorem digP_t0_b (i0 : Int) (K : AV → St → Prop) (h : RT.K (fun v s _ => K v s) (digP_t0 i0)) : bodyK Try.prog letP_pr noL 100 89 [] [.int .u8 i0] [] K := Eq.mpr (digP_t0r_b ..) (mergeW_K (S := []) _ ⟨rfl, rfl⟩ (Eq.mpr (digP_t0_m ..) h))
theorem digP_t0_lp (hpr : PrOk Try.prog letP_pr) : LoopsFor Try.prog 89 0 noL := loops_none
noncomputable def digP : Sy.Spec := ⟨[], fun args s => match args, s with
  | [(.int .u8 i0)], [] => .br (true) (digP_t0 i0) .fail
  | _, _ => .fail⟩
theorem digP_ok : SpecOk Try.prog 89 digP.f := specOk_comes fun args s v s' tch e => by
  simp only [digP] at e
  split at e
  · obtain ⟨hg, e⟩ := if_run e
    refine comes_of ok letP_pr_k (L := 100) (ms := []) (by kernel_rfl) (digP_t0_lp letP_pr_k) ?_
    exact digP_t0_b (h := K_run e) ..
  · cases e
noncomputable def digP_pr : FuncId → Option Sy.Spec := addP 89 digP letP_pr
theorem digP_pr_k : PrOk Try.prog digP_pr := prOk_add digP_ok letP_pr_k
noncomputable def keyP_t0r (c0 : List UInt8) : RT :=
  RT.br (eqBytes c0 [(116 : UInt8), (97 : UInt8), (98 : UInt8), (108 : UInt8), (101 : UInt8)])
    (RT.br (eqBytes c0 [(116 : UInt8), (97 : UInt8), (98 : UInt8), (108 : UInt8), (101 : UInt8)])
     (okL (AV.bool true) ([]))
     (okL (AV.bool false) ([])))
    (RT.br (eqBytes c0 [(107 : UInt8), (101 : UInt8), (121 : UInt8)])
     (RT.br (eqBytes c0 [(107 : UInt8), (101 : UInt8), (121 : UInt8)])
      (okL (AV.bool true) ([]))
      (okL (AV.bool false) ([])))
     (RT.br (eqBytes c0 [(102 : UInt8), (100 : UInt8)])
      (RT.br (eqBytes c0 [(102 : UInt8), (100 : UInt8)])
       (okL (AV.bool true) ([]))
       (okL (AV.bool false) ([])))
      (RT.br (eqBytes c0 [(105 : UInt8), (110 : UInt8), (116 : UInt8)])
       (RT.br (eqBytes c0 [(105 : UInt8), (110 : UInt8), (116 : UInt8)])
        (okL (AV.bool true) ([]))
        (okL (AV.bool false) ([])))
       (RT.br (eqBytes c0 [(116 : UInt8), (101 : UInt8), (120 : UInt8), (116 : UInt8)])
        (RT.br (eqBytes c0 [(116 : UInt8), (101 : UInt8), (120 : UInt8), (116 : UInt8)])
         (okL (AV.bool true) ([]))
         (okL (AV.bool false) ([])))
        (RT.br (eqBytes c0 [(109 : UInt8), (117 : UInt8), (115 : UInt8), (116 : UInt8)])
         (RT.br (eqBytes c0 [(109 : UInt8), (117 : UInt8), (115 : UInt8), (116 : UInt8)])
          (okL (AV.bool true) ([]))
          (okL (AV.bool false) ([])))
         (RT.br (eqBytes c0 [(116 : UInt8), (111 : UInt8)])
          (RT.br (eqBytes c0 [(116 : UInt8), (111 : UInt8)])
           (okL (AV.bool true) ([]))
           (okL (AV.bool false) ([])))
          (RT.br (eqBytes c0 [(108 : UInt8), (111 : UInt8), (97 : UInt8), (100 : UInt8)])
           (RT.br (eqBytes c0 [(108 : UInt8), (111 : UInt8), (97 : UInt8), (100 : UInt8)])
            (okL (AV.bool true) ([]))
            (okL (AV.bool false) ([])))
           (RT.br (eqBytes c0 [(105 : UInt8), (110 : UInt8), (115 : UInt8), (101 : UInt8), (114 : UInt8), (116 : UInt8)])
            (RT.br (eqBytes c0 [(105 : UInt8), (110 : UInt8), (115 : UInt8), (101 : UInt8), (114 : UInt8), (116 : UInt8)])
             (okL (AV.bool true) ([]))
             (okL (AV.bool false) ([])))
            (RT.br (eqBytes c0 [(100 : UInt8), (101 : UInt8), (108 : UInt8), (101 : UInt8), (116 : UInt8), (101 : UInt8)])
             (RT.br (eqBytes c0 [(100 : UInt8), (101 : UInt8), (108 : UInt8), (101 : UInt8), (116 : UInt8), (101 : UInt8)])
              (okL (AV.bool true) ([]))
              (okL (AV.bool false) ([])))
             (RT.br (eqBytes c0 [(117 : UInt8), (112 : UInt8), (100 : UInt8), (97 : UInt8), (116 : UInt8), (101 : UInt8)])
              (RT.br (eqBytes c0 [(117 : UInt8), (112 : UInt8), (100 : UInt8), (97 : UInt8), (116 : UInt8), (101 : UInt8)])
               (okL (AV.bool true) ([]))
               (okL (AV.bool false) ([])))
              (RT.br (eqBytes c0 [(115 : UInt8), (117 : UInt8), (109 : UInt8), (109 : UInt8), (97 : UInt8), (114 : UInt8), (121 : UInt8)])
               (RT.br (eqBytes c0 [(115 : UInt8), (117 : UInt8), (109 : UInt8), (109 : UInt8), (97 : UInt8), (114 : UInt8), (121 : UInt8)])
                (okL (AV.bool true) ([]))
                (okL (AV.bool false) ([])))
               (RT.br (eqBytes c0 [(111 : UInt8), (110 : UInt8)])
                (RT.br (eqBytes c0 [(111 : UInt8), (110 : UInt8)])
                 (okL (AV.bool true) ([]))
                 (okL (AV.bool false) ([])))
                (RT.br (eqBytes c0 [(98 : UInt8), (121 : UInt8)])
                 (RT.br (eqBytes c0 [(98 : UInt8), (121 : UInt8)])
                  (okL (AV.bool true) ([]))
                  (okL (AV.bool false) ([])))
                 (RT.br (eqBytes c0 [(107 : UInt8), (101 : UInt8), (101 : UInt8), (112 : UInt8)])
                  (RT.br (eqBytes c0 [(107 : UInt8), (101 : UInt8), (101 : UInt8), (112 : UInt8)])
                   (okL (AV.bool true) ([]))
                   (okL (AV.bool false) ([])))
                  (RT.br (eqBytes c0 [(100 : UInt8), (114 : UInt8), (111 : UInt8), (112 : UInt8)])
                   (RT.br (eqBytes c0 [(100 : UInt8), (114 : UInt8), (111 : UInt8), (112 : UInt8)])
                    (okL (AV.bool true) ([]))
                    (okL (AV.bool false) ([])))
                   (RT.br (eqBytes c0 [(102 : UInt8), (114 : UInt8), (111 : UInt8), (109 : UInt8)])
                    (RT.br (eqBytes c0 [(102 : UInt8), (114 : UInt8), (111 : UInt8), (109 : UInt8)])
                     (okL (AV.bool true) ([]))
                     (okL (AV.bool false) ([])))
                    (RT.br (eqBytes c0 [(119 : UInt8), (104 : UInt8), (101 : UInt8), (114 : UInt8), (101 : UInt8)])
                     (RT.br (eqBytes c0 [(119 : UInt8), (104 : UInt8), (101 : UInt8), (114 : UInt8), (101 : UInt8)])
                      (okL (AV.bool true) ([]))
                      (okL (AV.bool false) ([])))
                     (RT.br (eqBytes c0 [(97 : UInt8), (110 : UInt8), (100 : UInt8)])
                      (RT.br (eqBytes c0 [(97 : UInt8), (110 : UInt8), (100 : UInt8)])
                       (okL (AV.bool true) ([]))
                       (okL (AV.bool false) ([])))
                      (RT.br (eqBytes c0 [(105 : UInt8), (115 : UInt8)])
                       (RT.br (eqBytes c0 [(105 : UInt8), (115 : UInt8)])
                        (okL (AV.bool true) ([]))
                        (okL (AV.bool false) ([])))
                       (RT.br (eqBytes c0 [(110 : UInt8), (111 : UInt8), (116 : UInt8)])
                        (RT.br (eqBytes c0 [(110 : UInt8), (111 : UInt8), (116 : UInt8)])
                         (okL (AV.bool true) ([]))
                         (okL (AV.bool false) ([])))
                        (RT.br (eqBytes c0 [(110 : UInt8), (117 : UInt8), (108 : UInt8), (108 : UInt8)])
                         (RT.br (eqBytes c0 [(110 : UInt8), (117 : UInt8), (108 : UInt8), (108 : UInt8)])
                          (okL (AV.bool true) ([]))
                          (okL (AV.bool false) ([])))
                         (RT.br (eqBytes c0 [(114 : UInt8), (111 : UInt8), (108 : UInt8), (108 : UInt8), (117 : UInt8), (112 : UInt8)])
                          (RT.br (eqBytes c0 [(114 : UInt8), (111 : UInt8), (108 : UInt8), (108 : UInt8), (117 : UInt8), (112 : UInt8)])
                           (okL (AV.bool true) ([]))
                           (okL (AV.bool false) ([])))
                          (RT.br (eqBytes c0 [(99 : UInt8), (117 : UInt8), (98 : UInt8), (101 : UInt8)])
                           (RT.br (eqBytes c0 [(99 : UInt8), (117 : UInt8), (98 : UInt8), (101 : UInt8)])
                            (okL (AV.bool true) ([]))
                            (okL (AV.bool false) ([])))
                           (RT.br (eqBytes c0 [(115 : UInt8), (104 : UInt8), (111 : UInt8), (119 : UInt8)])
                            (RT.br (eqBytes c0 [(115 : UInt8), (104 : UInt8), (111 : UInt8), (119 : UInt8)])
                             (okL (AV.bool true) ([]))
                             (okL (AV.bool false) ([])))
                            (RT.br (eqBytes c0 [(104 : UInt8), (97 : UInt8), (118 : UInt8), (105 : UInt8), (110 : UInt8), (103 : UInt8)])
                             (RT.br (eqBytes c0 [(104 : UInt8), (97 : UInt8), (118 : UInt8), (105 : UInt8), (110 : UInt8), (103 : UInt8)])
                              (okL (AV.bool true) ([]))
                              (okL (AV.bool false) ([])))
                             (RT.br (eqBytes c0 [(111 : UInt8), (114 : UInt8), (100 : UInt8), (101 : UInt8), (114 : UInt8)])
                              (RT.br (eqBytes c0 [(111 : UInt8), (114 : UInt8), (100 : UInt8), (101 : UInt8), (114 : UInt8)])
                               (okL (AV.bool true) ([]))
                               (okL (AV.bool false) ([])))
                              (RT.br (eqBytes c0 [(100 : UInt8), (101 : UInt8), (115 : UInt8), (99 : UInt8)])
                               (RT.br (eqBytes c0 [(100 : UInt8), (101 : UInt8), (115 : UInt8), (99 : UInt8)])
                                (okL (AV.bool true) ([]))
                                (okL (AV.bool false) ([])))
                               (RT.br (eqBytes c0 [(108 : UInt8), (105 : UInt8), (109 : UInt8), (105 : UInt8), (116 : UInt8)])
                                (RT.br (eqBytes c0 [(108 : UInt8), (105 : UInt8), (109 : UInt8), (105 : UInt8), (116 : UInt8)])
                                 (okL (AV.bool true) ([]))
                                 (okL (AV.bool false) ([])))
                                (RT.br (eqBytes c0 [(117 : UInt8), (115 : UInt8), (105 : UInt8), (110 : UInt8), (103 : UInt8)])
                                 (RT.br (eqBytes c0 [(117 : UInt8), (115 : UInt8), (105 : UInt8), (110 : UInt8), (103 : UInt8)])
                                  (okL (AV.bool true) ([]))
                                  (okL (AV.bool false) ([])))
                                 (RT.br (eqBytes c0 [(98 : UInt8), (97 : UInt8), (115 : UInt8), (101 : UInt8)])
                                  (RT.br (eqBytes c0 [(98 : UInt8), (97 : UInt8), (115 : UInt8), (101 : UInt8)])
                                   (okL (AV.bool true) ([]))
                                   (okL (AV.bool false) ([])))
                                  (RT.br (eqBytes c0 [(99 : UInt8), (111 : UInt8), (117 : UInt8), (110 : UInt8), (116 : UInt8)])
                                   (RT.br (eqBytes c0 [(99 : UInt8), (111 : UInt8), (117 : UInt8), (110 : UInt8), (116 : UInt8)])
                                    (okL (AV.bool true) ([]))
                                    (okL (AV.bool false) ([])))
                                   (RT.br (eqBytes c0 [(115 : UInt8), (117 : UInt8), (109 : UInt8)])
                                    (RT.br (eqBytes c0 [(115 : UInt8), (117 : UInt8), (109 : UInt8)])
                                     (okL (AV.bool true) ([]))
                                     (okL (AV.bool false) ([])))
                                    (RT.br (eqBytes c0 [(109 : UInt8), (105 : UInt8), (110 : UInt8)])
                                     (RT.br (eqBytes c0 [(109 : UInt8), (105 : UInt8), (110 : UInt8)])
                                      (okL (AV.bool true) ([]))
                                      (okL (AV.bool false) ([])))
                                     (RT.br (eqBytes c0 [(109 : UInt8), (97 : UInt8), (120 : UInt8)])
                                      (RT.br (eqBytes c0 [(109 : UInt8), (97 : UInt8), (120 : UInt8)])
                                       (okL (AV.bool true) ([]))
                                       (okL (AV.bool false) ([])))
                                      (RT.br (eqBytes c0 [(97 : UInt8), (118 : UInt8), (103 : UInt8)])
                                       (RT.br (eqBytes c0 [(97 : UInt8), (118 : UInt8), (103 : UInt8)])
                                        (okL (AV.bool true) ([]))
                                        (okL (AV.bool false) ([])))
                                       (RT.br (eqBytes c0 [(100 : UInt8), (105 : UInt8), (115 : UInt8), (116 : UInt8), (105 : UInt8), (110 : UInt8), (99 : UInt8), (116 : UInt8)])
                                        (RT.br (eqBytes c0 [(100 : UInt8), (105 : UInt8), (115 : UInt8), (116 : UInt8), (105 : UInt8), (110 : UInt8), (99 : UInt8), (116 : UInt8)])
                                         (okL (AV.bool true) ([]))
                                         (okL (AV.bool false) ([])))
                                        (RT.br (eqBytes c0 [(114 : UInt8), (111 : UInt8), (119 : UInt8), (115 : UInt8)])
                                         (okL (AV.bool true) ([]))
                                         (okL (AV.bool false) ([])))))))))))))))))))))))))))))))))))))))
theorem keyP_t0r_b (c0 : List UInt8) (K : AV → St → Prop) : bodyK Try.prog digP_pr noL 100 90 [] [.str c0] [] K = RT.K (fun v s _ => K v s) (keyP_t0r c0) := by kernel_rfl
noncomputable def keyP_t0_V0 (c0 : List UInt8) : Bool :=
  bif eqBytes c0 [(116 : UInt8), (97 : UInt8), (98 : UInt8), (108 : UInt8), (101 : UInt8)] then bif eqBytes c0 [(116 : UInt8), (97 : UInt8), (98 : UInt8), (108 : UInt8), (101 : UInt8)] then true else true else bif eqBytes c0 [(107 : UInt8), (101 : UInt8), (121 : UInt8)] then bif eqBytes c0 [(107 : UInt8), (101 : UInt8), (121 : UInt8)] then true else true else bif eqBytes c0 [(102 : UInt8), (100 : UInt8)] then bif eqBytes c0 [(102 : UInt8), (100 : UInt8)] then true else true else bif eqBytes c0 [(105 : UInt8), (110 : UInt8), (116 : UInt8)] then bif eqBytes c0 [(105 : UInt8), (110 : UInt8), (116 : UInt8)] then true else true else bif eqBytes c0 [(116 : UInt8), (101 : UInt8), (120 : UInt8), (116 : UInt8)] then bif eqBytes c0 [(116 : UInt8), (101 : UInt8), (120 : UInt8), (116 : UInt8)] then true else true else bif eqBytes c0 [(109 : UInt8), (117 : UInt8), (115 : UInt8), (116 : UInt8)] then bif eqBytes c0 [(109 : UInt8), (117 : UInt8), (115 : UInt8), (116 : UInt8)] then true else true else bif eqBytes c0 [(116 : UInt8), (111 : UInt8)] then bif eqBytes c0 [(116 : UInt8), (111 : UInt8)] then true else true else bif eqBytes c0 [(108 : UInt8), (111 : UInt8), (97 : UInt8), (100 : UInt8)] then bif eqBytes c0 [(108 : UInt8), (111 : UInt8), (97 : UInt8), (100 : UInt8)] then true else true else bif eqBytes c0 [(105 : UInt8), (110 : UInt8), (115 : UInt8), (101 : UInt8), (114 : UInt8), (116 : UInt8)] then bif eqBytes c0 [(105 : UInt8), (110 : UInt8), (115 : UInt8), (101 : UInt8), (114 : UInt8), (116 : UInt8)] then true else true else bif eqBytes c0 [(100 : UInt8), (101 : UInt8), (108 : UInt8), (101 : UInt8), (116 : UInt8), (101 : UInt8)] then bif eqBytes c0 [(100 : UInt8), (101 : UInt8), (108 : UInt8), (101 : UInt8), (116 : UInt8), (101 : UInt8)] then true else true else bif eqBytes c0 [(117 : UInt8), (112 : UInt8), (100 : UInt8), (97 : UInt8), (116 : UInt8), (101 : UInt8)] then bif eqBytes c0 [(117 : UInt8), (112 : UInt8), (100 : UInt8), (97 : UInt8), (116 : UInt8), (101 : UInt8)] then true else true else bif eqBytes c0 [(115 : UInt8), (117 : UInt8), (109 : UInt8), (109 : UInt8), (97 : UInt8), (114 : UInt8), (121 : UInt8)] then bif eqBytes c0 [(115 : UInt8), (117 : UInt8), (109 : UInt8), (109 : UInt8), (97 : UInt8), (114 : UInt8), (121 : UInt8)] then true else true else bif eqBytes c0 [(111 : UInt8), (110 : UInt8)] then bif eqBytes c0 [(111 : UInt8), (110 : UInt8)] then true else true else bif eqBytes c0 [(98 : UInt8), (121 : UInt8)] then bif eqBytes c0 [(98 : UInt8), (121 : UInt8)] then true else true else bif eqBytes c0 [(107 : UInt8), (101 : UInt8), (101 : UInt8), (112 : UInt8)] then bif eqBytes c0 [(107 : UInt8), (101 : UInt8), (101 : UInt8), (112 : UInt8)] then true else true else bif eqBytes c0 [(100 : UInt8), (114 : UInt8), (111 : UInt8), (112 : UInt8)] then bif eqBytes c0 [(100 : UInt8), (114 : UInt8), (111 : UInt8), (112 : UInt8)] then true else true else bif eqBytes c0 [(102 : UInt8), (114 : UInt8), (111 : UInt8), (109 : UInt8)] then bif eqBytes c0 [(102 : UInt8), (114 : UInt8), (111 : UInt8), (109 : UInt8)] then true else true else bif eqBytes c0 [(119 : UInt8), (104 : UInt8), (101 : UInt8), (114 : UInt8), (101 : UInt8)] then bif eqBytes c0 [(119 : UInt8), (104 : UInt8), (101 : UInt8), (114 : UInt8), (101 : UInt8)] then true else true else bif eqBytes c0 [(97 : UInt8), (110 : UInt8), (100 : UInt8)] then bif eqBytes c0 [(97 : UInt8), (110 : UInt8), (100 : UInt8)] then true else true else bif eqBytes c0 [(105 : UInt8), (115 : UInt8)] then bif eqBytes c0 [(105 : UInt8), (115 : UInt8)] then true else true else bif eqBytes c0 [(110 : UInt8), (111 : UInt8), (116 : UInt8)] then bif eqBytes c0 [(110 : UInt8), (111 : UInt8), (116 : UInt8)] then true else true else bif eqBytes c0 [(110 : UInt8), (117 : UInt8), (108 : UInt8), (108 : UInt8)] then bif eqBytes c0 [(110 : UInt8), (117 : UInt8), (108 : UInt8), (108 : UInt8)] then true else true else bif eqBytes c0 [(114 : UInt8), (111 : UInt8), (108 : UInt8), (108 : UInt8), (117 : UInt8), (112 : UInt8)] then bif eqBytes c0 [(114 : UInt8), (111 : UInt8), (108 : UInt8), (108 : UInt8), (117 : UInt8), (112 : UInt8)] then true else true else bif eqBytes c0 [(99 : UInt8), (117 : UInt8), (98 : UInt8), (101 : UInt8)] then bif eqBytes c0 [(99 : UInt8), (117 : UInt8), (98 : UInt8), (101 : UInt8)] then true else true else bif eqBytes c0 [(115 : UInt8), (104 : UInt8), (111 : UInt8), (119 : UInt8)] then bif eqBytes c0 [(115 : UInt8), (104 : UInt8), (111 : UInt8), (119 : UInt8)] then true else true else bif eqBytes c0 [(104 : UInt8), (97 : UInt8), (118 : UInt8), (105 : UInt8), (110 : UInt8), (103 : UInt8)] then bif eqBytes c0 [(104 : UInt8), (97 : UInt8), (118 : UInt8), (105 : UInt8), (110 : UInt8), (103 : UInt8)] then true else true else bif eqBytes c0 [(111 : UInt8), (114 : UInt8), (100 : UInt8), (101 : UInt8), (114 : UInt8)] then bif eqBytes c0 [(111 : UInt8), (114 : UInt8), (100 : UInt8), (101 : UInt8), (114 : UInt8)] then true else true else bif eqBytes c0 [(100 : UInt8), (101 : UInt8), (115 : UInt8), (99 : UInt8)] then bif eqBytes c0 [(100 : UInt8), (101 : UInt8), (115 : UInt8), (99 : UInt8)] then true else true else bif eqBytes c0 [(108 : UInt8), (105 : UInt8), (109 : UInt8), (105 : UInt8), (116 : UInt8)] then bif eqBytes c0 [(108 : UInt8), (105 : UInt8), (109 : UInt8), (105 : UInt8), (116 : UInt8)] then true else true else bif eqBytes c0 [(117 : UInt8), (115 : UInt8), (105 : UInt8), (110 : UInt8), (103 : UInt8)] then bif eqBytes c0 [(117 : UInt8), (115 : UInt8), (105 : UInt8), (110 : UInt8), (103 : UInt8)] then true else true else bif eqBytes c0 [(98 : UInt8), (97 : UInt8), (115 : UInt8), (101 : UInt8)] then bif eqBytes c0 [(98 : UInt8), (97 : UInt8), (115 : UInt8), (101 : UInt8)] then true else true else bif eqBytes c0 [(99 : UInt8), (111 : UInt8), (117 : UInt8), (110 : UInt8), (116 : UInt8)] then bif eqBytes c0 [(99 : UInt8), (111 : UInt8), (117 : UInt8), (110 : UInt8), (116 : UInt8)] then true else true else bif eqBytes c0 [(115 : UInt8), (117 : UInt8), (109 : UInt8)] then bif eqBytes c0 [(115 : UInt8), (117 : UInt8), (109 : UInt8)] then true else true else bif eqBytes c0 [(109 : UInt8), (105 : UInt8), (110 : UInt8)] then bif eqBytes c0 [(109 : UInt8), (105 : UInt8), (110 : UInt8)] then true else true else bif eqBytes c0 [(109 : UInt8), (97 : UInt8), (120 : UInt8)] then bif eqBytes c0 [(109 : UInt8), (97 : UInt8), (120 : UInt8)] then true else true else bif eqBytes c0 [(97 : UInt8), (118 : UInt8), (103 : UInt8)] then bif eqBytes c0 [(97 : UInt8), (118 : UInt8), (103 : UInt8)] then true else true else bif eqBytes c0 [(100 : UInt8), (105 : UInt8), (115 : UInt8), (116 : UInt8), (105 : UInt8), (110 : UInt8), (99 : UInt8), (116 : UInt8)] then bif eqBytes c0 [(100 : UInt8), (105 : UInt8), (115 : UInt8), (116 : UInt8), (105 : UInt8), (110 : UInt8), (99 : UInt8), (116 : UInt8)] then true else true else bif eqBytes c0 [(114 : UInt8), (111 : UInt8), (119 : UInt8), (115 : UInt8)] then true else true
noncomputable def keyP_t0_V1 (c0 : List UInt8) : Bool :=
  bif eqBytes c0 [(116 : UInt8), (97 : UInt8), (98 : UInt8), (108 : UInt8), (101 : UInt8)] then bif eqBytes c0 [(116 : UInt8), (97 : UInt8), (98 : UInt8), (108 : UInt8), (101 : UInt8)] then true else false else bif eqBytes c0 [(107 : UInt8), (101 : UInt8), (121 : UInt8)] then bif eqBytes c0 [(107 : UInt8), (101 : UInt8), (121 : UInt8)] then true else false else bif eqBytes c0 [(102 : UInt8), (100 : UInt8)] then bif eqBytes c0 [(102 : UInt8), (100 : UInt8)] then true else false else bif eqBytes c0 [(105 : UInt8), (110 : UInt8), (116 : UInt8)] then bif eqBytes c0 [(105 : UInt8), (110 : UInt8), (116 : UInt8)] then true else false else bif eqBytes c0 [(116 : UInt8), (101 : UInt8), (120 : UInt8), (116 : UInt8)] then bif eqBytes c0 [(116 : UInt8), (101 : UInt8), (120 : UInt8), (116 : UInt8)] then true else false else bif eqBytes c0 [(109 : UInt8), (117 : UInt8), (115 : UInt8), (116 : UInt8)] then bif eqBytes c0 [(109 : UInt8), (117 : UInt8), (115 : UInt8), (116 : UInt8)] then true else false else bif eqBytes c0 [(116 : UInt8), (111 : UInt8)] then bif eqBytes c0 [(116 : UInt8), (111 : UInt8)] then true else false else bif eqBytes c0 [(108 : UInt8), (111 : UInt8), (97 : UInt8), (100 : UInt8)] then bif eqBytes c0 [(108 : UInt8), (111 : UInt8), (97 : UInt8), (100 : UInt8)] then true else false else bif eqBytes c0 [(105 : UInt8), (110 : UInt8), (115 : UInt8), (101 : UInt8), (114 : UInt8), (116 : UInt8)] then bif eqBytes c0 [(105 : UInt8), (110 : UInt8), (115 : UInt8), (101 : UInt8), (114 : UInt8), (116 : UInt8)] then true else false else bif eqBytes c0 [(100 : UInt8), (101 : UInt8), (108 : UInt8), (101 : UInt8), (116 : UInt8), (101 : UInt8)] then bif eqBytes c0 [(100 : UInt8), (101 : UInt8), (108 : UInt8), (101 : UInt8), (116 : UInt8), (101 : UInt8)] then true else false else bif eqBytes c0 [(117 : UInt8), (112 : UInt8), (100 : UInt8), (97 : UInt8), (116 : UInt8), (101 : UInt8)] then bif eqBytes c0 [(117 : UInt8), (112 : UInt8), (100 : UInt8), (97 : UInt8), (116 : UInt8), (101 : UInt8)] then true else false else bif eqBytes c0 [(115 : UInt8), (117 : UInt8), (109 : UInt8), (109 : UInt8), (97 : UInt8), (114 : UInt8), (121 : UInt8)] then bif eqBytes c0 [(115 : UInt8), (117 : UInt8), (109 : UInt8), (109 : UInt8), (97 : UInt8), (114 : UInt8), (121 : UInt8)] then true else false else bif eqBytes c0 [(111 : UInt8), (110 : UInt8)] then bif eqBytes c0 [(111 : UInt8), (110 : UInt8)] then true else false else bif eqBytes c0 [(98 : UInt8), (121 : UInt8)] then bif eqBytes c0 [(98 : UInt8), (121 : UInt8)] then true else false else bif eqBytes c0 [(107 : UInt8), (101 : UInt8), (101 : UInt8), (112 : UInt8)] then bif eqBytes c0 [(107 : UInt8), (101 : UInt8), (101 : UInt8), (112 : UInt8)] then true else false else bif eqBytes c0 [(100 : UInt8), (114 : UInt8), (111 : UInt8), (112 : UInt8)] then bif eqBytes c0 [(100 : UInt8), (114 : UInt8), (111 : UInt8), (112 : UInt8)] then true else false else bif eqBytes c0 [(102 : UInt8), (114 : UInt8), (111 : UInt8), (109 : UInt8)] then bif eqBytes c0 [(102 : UInt8), (114 : UInt8), (111 : UInt8), (109 : UInt8)] then true else false else bif eqBytes c0 [(119 : UInt8), (104 : UInt8), (101 : UInt8), (114 : UInt8), (101 : UInt8)] then bif eqBytes c0 [(119 : UInt8), (104 : UInt8), (101 : UInt8), (114 : UInt8), (101 : UInt8)] then true else false else bif eqBytes c0 [(97 : UInt8), (110 : UInt8), (100 : UInt8)] then bif eqBytes c0 [(97 : UInt8), (110 : UInt8), (100 : UInt8)] then true else false else bif eqBytes c0 [(105 : UInt8), (115 : UInt8)] then bif eqBytes c0 [(105 : UInt8), (115 : UInt8)] then true else false else bif eqBytes c0 [(110 : UInt8), (111 : UInt8), (116 : UInt8)] then bif eqBytes c0 [(110 : UInt8), (111 : UInt8), (116 : UInt8)] then true else false else bif eqBytes c0 [(110 : UInt8), (117 : UInt8), (108 : UInt8), (108 : UInt8)] then bif eqBytes c0 [(110 : UInt8), (117 : UInt8), (108 : UInt8), (108 : UInt8)] then true else false else bif eqBytes c0 [(114 : UInt8), (111 : UInt8), (108 : UInt8), (108 : UInt8), (117 : UInt8), (112 : UInt8)] then bif eqBytes c0 [(114 : UInt8), (111 : UInt8), (108 : UInt8), (108 : UInt8), (117 : UInt8), (112 : UInt8)] then true else false else bif eqBytes c0 [(99 : UInt8), (117 : UInt8), (98 : UInt8), (101 : UInt8)] then bif eqBytes c0 [(99 : UInt8), (117 : UInt8), (98 : UInt8), (101 : UInt8)] then true else false else bif eqBytes c0 [(115 : UInt8), (104 : UInt8), (111 : UInt8), (119 : UInt8)] then bif eqBytes c0 [(115 : UInt8), (104 : UInt8), (111 : UInt8), (119 : UInt8)] then true else false else bif eqBytes c0 [(104 : UInt8), (97 : UInt8), (118 : UInt8), (105 : UInt8), (110 : UInt8), (103 : UInt8)] then bif eqBytes c0 [(104 : UInt8), (97 : UInt8), (118 : UInt8), (105 : UInt8), (110 : UInt8), (103 : UInt8)] then true else false else bif eqBytes c0 [(111 : UInt8), (114 : UInt8), (100 : UInt8), (101 : UInt8), (114 : UInt8)] then bif eqBytes c0 [(111 : UInt8), (114 : UInt8), (100 : UInt8), (101 : UInt8), (114 : UInt8)] then true else false else bif eqBytes c0 [(100 : UInt8), (101 : UInt8), (115 : UInt8), (99 : UInt8)] then bif eqBytes c0 [(100 : UInt8), (101 : UInt8), (115 : UInt8), (99 : UInt8)] then true else false else bif eqBytes c0 [(108 : UInt8), (105 : UInt8), (109 : UInt8), (105 : UInt8), (116 : UInt8)] then bif eqBytes c0 [(108 : UInt8), (105 : UInt8), (109 : UInt8), (105 : UInt8), (116 : UInt8)] then true else false else bif eqBytes c0 [(117 : UInt8), (115 : UInt8), (105 : UInt8), (110 : UInt8), (103 : UInt8)] then bif eqBytes c0 [(117 : UInt8), (115 : UInt8), (105 : UInt8), (110 : UInt8), (103 : UInt8)] then true else false else bif eqBytes c0 [(98 : UInt8), (97 : UInt8), (115 : UInt8), (101 : UInt8)] then bif eqBytes c0 [(98 : UInt8), (97 : UInt8), (115 : UInt8), (101 : UInt8)] then true else false else bif eqBytes c0 [(99 : UInt8), (111 : UInt8), (117 : UInt8), (110 : UInt8), (116 : UInt8)] then bif eqBytes c0 [(99 : UInt8), (111 : UInt8), (117 : UInt8), (110 : UInt8), (116 : UInt8)] then true else false else bif eqBytes c0 [(115 : UInt8), (117 : UInt8), (109 : UInt8)] then bif eqBytes c0 [(115 : UInt8), (117 : UInt8), (109 : UInt8)] then true else false else bif eqBytes c0 [(109 : UInt8), (105 : UInt8), (110 : UInt8)] then bif eqBytes c0 [(109 : UInt8), (105 : UInt8), (110 : UInt8)] then true else false else bif eqBytes c0 [(109 : UInt8), (97 : UInt8), (120 : UInt8)] then bif eqBytes c0 [(109 : UInt8), (97 : UInt8), (120 : UInt8)] then true else false else bif eqBytes c0 [(97 : UInt8), (118 : UInt8), (103 : UInt8)] then bif eqBytes c0 [(97 : UInt8), (118 : UInt8), (103 : UInt8)] then true else false else bif eqBytes c0 [(100 : UInt8), (105 : UInt8), (115 : UInt8), (116 : UInt8), (105 : UInt8), (110 : UInt8), (99 : UInt8), (116 : UInt8)] then bif eqBytes c0 [(100 : UInt8), (105 : UInt8), (115 : UInt8), (116 : UInt8), (105 : UInt8), (110 : UInt8), (99 : UInt8), (116 : UInt8)] then true else false else bif eqBytes c0 [(114 : UInt8), (111 : UInt8), (119 : UInt8), (115 : UInt8)] then true else false
noncomputable def keyP_t0 (c0 : List UInt8) : RT :=
  RT.br (keyP_t0_V0 c0)
    (okL (Go.Sy.AV.bool (keyP_t0_V1 c0)) [])
    (RT.fail)
theorem keyP_t0_m (c0 : List UInt8) (K : AV → St → Prop) : RT.K (fun v s _ => K v s) (RT.mergeW ([]) (keyP_t0r c0)) = RT.K (fun v s _ => K v s) (keyP_t0 c0) := by kernel_rfl
theorem keyP_t0_b (c0 : List UInt8) (K : AV → St → Prop) (h : RT.K (fun v s _ => K v s) (keyP_t0 c0)) : bodyK Try.prog digP_pr noL 100 90 [] [.str c0] [] K := Eq.mpr (keyP_t0r_b ..) (mergeW_K (S := []) _ ⟨⟨rfl, rfl⟩, ⟨⟨rfl, rfl⟩, ⟨⟨rfl, rfl⟩, ⟨⟨rfl, rfl⟩, ⟨⟨rfl, rfl⟩, ⟨⟨rfl, rfl⟩, ⟨⟨rfl, rfl⟩, ⟨⟨rfl, rfl⟩, ⟨⟨rfl, rfl⟩, ⟨⟨rfl, rfl⟩, ⟨⟨rfl, rfl⟩, ⟨⟨rfl, rfl⟩, ⟨⟨rfl, rfl⟩, ⟨⟨rfl, rfl⟩, ⟨⟨rfl, rfl⟩, ⟨⟨rfl, rfl⟩, ⟨⟨rfl, rfl⟩, ⟨⟨rfl, rfl⟩, ⟨⟨rfl, rfl⟩, ⟨⟨rfl, rfl⟩, ⟨⟨rfl, rfl⟩, ⟨⟨rfl, rfl⟩, ⟨⟨rfl, rfl⟩, ⟨⟨rfl, rfl⟩, ⟨⟨rfl, rfl⟩, ⟨⟨rfl, rfl⟩, ⟨⟨rfl, rfl⟩, ⟨⟨rfl, rfl⟩, ⟨⟨rfl, rfl⟩, ⟨⟨rfl, rfl⟩, ⟨⟨rfl, rfl⟩, ⟨⟨rfl, rfl⟩, ⟨⟨rfl, rfl⟩, ⟨⟨rfl, rfl⟩, ⟨⟨rfl, rfl⟩, ⟨⟨rfl, rfl⟩, ⟨⟨rfl, rfl⟩, ⟨rfl, rfl⟩⟩⟩⟩⟩⟩⟩⟩⟩⟩⟩⟩⟩⟩⟩⟩⟩⟩⟩⟩⟩⟩⟩⟩⟩⟩⟩⟩⟩⟩⟩⟩⟩⟩⟩⟩⟩⟩ (Eq.mpr (keyP_t0_m ..) h))
theorem keyP_t0_lp (hpr : PrOk Try.prog digP_pr) : LoopsFor Try.prog 90 0 noL := loops_none
noncomputable def keyP : Sy.Spec := ⟨[], fun args s => match args, s with
  | [(.str c0)], [] => .br (true) (keyP_t0 c0) .fail
  | _, _ => .fail⟩
theorem keyP_ok : SpecOk Try.prog 90 keyP.f := specOk_comes fun args s v s' tch e => by
  simp only [keyP] at e
  split at e
  · obtain ⟨hg, e⟩ := if_run e
    refine comes_of ok digP_pr_k (L := 100) (ms := []) (by kernel_rfl) (keyP_t0_lp digP_pr_k) ?_
    exact keyP_t0_b (h := K_run e) ..
  · cases e
noncomputable def keyP_pr : FuncId → Option Sy.Spec := addP 90 keyP digP_pr
theorem keyP_pr_k : PrOk Try.prog keyP_pr := prOk_add keyP_ok digP_pr_k
noncomputable def nameP_t0_L0_T (c0 : List UInt8) (i1 : Int) (i2 : Int) : List AV := ([AV.str c0, .any, .any, .any, .any, .any, .any, .any, .any, .any, .any, .any, .any, .any, .any, .any, .any, .any, .any, .any, .any, AV.int IntKind.i64 i1, AV.int IntKind.i64 i2] ++ padAny 15)
noncomputable def nameP_t0_L0_S (c0 : List UInt8) (i1 : Int) (i2 : Int) : St := []
noncomputable def nameP_t0_L0_of : List AV → St → Option (((List UInt8) × Int) × (Int)) := fun t s => match t, s with
  | (.str c0) :: t_0, [] => (match dropAny 20 t_0 with
    | some ((.int .i64 i1) :: (.int .i64 i2) :: t_1) => (match dropAny 15 t_1 with
    | some ([]) => (match true with | true => some ((c0, i1), (i2)) | false => none)
    | _ => none)
    | _ => none)
  | _, _ => none
noncomputable def nameP_t0_L0_ex (i : (List UInt8) × Int) (y : Nat) (k : KS) : Prop := let c0 := i.1; let i1 := i.2; let tag := y; br (Nat.beq tag 0) (k (Ex.ret) ([.any, .any, AV.bool false] ++ padAny 35) []) (br (Nat.beq tag 1) (k (Ex.normal) ([.any] ++ padAny 37) []) (False))
theorem nameP_t0_L0_of_ok : ∀ t s (i : (List UInt8) × Int) (x : Int), nameP_t0_L0_of t s = some (i, x) → t = nameP_t0_L0_T i.1 i.2 x ∧ s = nameP_t0_L0_S i.1 i.2 x := by
  intro t s i x h
  unfold nameP_t0_L0_of at h
  split at h
  · split at h
    · rename_i ha
      obtain rfl := dropAny_eq ha
      split at h
      · rename_i ha
        obtain rfl := dropAny_eq ha
        split at h
        · rename_i hg
          cases h
          exact ⟨rfl, rfl⟩
        · cases h
      · cases h
    · cases h
  · cases h
noncomputable def nameP_t0_L0_stp (c0 : List UInt8) (i1 : Int) (i2 : Int) : NT (Int) (Nat) :=
  NT.br (decide (i2 < i1))
    (NT.br (decide ((0 : Int) ≤ i2) && decide (i2 < (↑c0.length : Int)))
     (NT.br (letP_t0_V0 (↑(c0.getD i2.toNat (0 : UInt8)).toNat : Int))
      (NT.br (!letP_t0_V1 (↑(c0.getD i2.toNat (0 : UInt8)).toNat : Int))
       (NT.br (decide ((0 : Int) ≤ i2) && decide (i2 < (↑c0.length : Int)))
        (NT.br (digP_t0_V0 (↑(c0.getD i2.toNat (0 : UInt8)).toNat : Int))
         (NT.br (!digP_t0_V1 (↑(c0.getD i2.toNat (0 : UInt8)).toNat : Int))
          (NT.done (0))
          (NT.more (IntKind.i64.wrap (i2 + (1 : Int)))))
         (NT.fail))
        (NT.fail))
       (NT.more (IntKind.i64.wrap (i2 + (1 : Int)))))
      (NT.fail))
     (NT.fail))
    (NT.done (1))
noncomputable def nameP_t0_L0 (i : (List UInt8) × Int) (x : Int) := nameP_t0_L0_stp i.1 i.2 x
theorem nameP_t0_L0_rd (c0 : List UInt8) (i1 : Int) (i2 : Int) (more : List AV → St → Prop) (kk : KS) : roundK Try.prog keyP_pr noL 100 66 0 (nameP_t0_L0_T c0 i1 i2) (nameP_t0_L0_S c0 i1 i2) (againK 0 0 [.yes, .no, .no, .no, .no, .no, .no, .no, .no, .no, .no, .no, .no, .no, .no, .no, .no, .no, .no, .no, .no, .yes, .yes] [.no, .no, .yes] more kk) = (nameP_t0_L0_stp c0 i1 i2).K (fun x' => more (nameP_t0_L0_T c0 i1 x') (nameP_t0_L0_S c0 i1 x')) (fun y => nameP_t0_L0_ex (c0, i1) y kk) := by kernel_rfl
noncomputable def nameP_t0_L0_LP : Nat → Option LoopS := addL 0 (headG 0 [.yes, .no, .no, .no, .no, .no, .no, .no, .no, .no, .no, .no, .no, .no, .no, .no, .no, .no, .no, .no, .no, .yes, .yes] (outL nameP_t0_L0 nameP_t0_L0_of nameP_t0_L0_ex)) noL
theorem nameP_t0_L0_lp (hpr : PrOk Try.prog keyP_pr) : LoopsFor Try.prog 66 0 nameP_t0_L0_LP := loops_lp (L := 100) (T := fun i x => nameP_t0_L0_T i.1 i.2 x) (S := fun i x => nameP_t0_L0_S i.1 i.2 x) ok hpr (by kernel_rfl) loops_none nameP_t0_L0_of_ok (fun i x more kk => nameP_t0_L0_rd i.1 i.2 x more kk)
noncomputable def nameP_t0r (c0 : List UInt8) : RT :=
  RT.br (eqBytes c0 [])
    (okL (AV.bool false) ([]))
    (RT.br (decide ((↑c0.length : Int) > (12 : Int)))
     (okL (AV.bool false) ([]))
     (RT.br (decide ((0 : Int) < (↑c0.length : Int)))
      (RT.br (digP_t0_V0 (↑(c0.getD (0 : Nat) (0 : UInt8)).toNat : Int))
       (RT.br (digP_t0_V1 (↑(c0.getD (0 : Nat) (0 : UInt8)).toNat : Int))
        (okL (AV.bool false) ([]))
        (RT.br (keyP_t0_V0 c0)
         (RT.br (keyP_t0_V1 c0)
          (okL (AV.bool false) ([]))
          (RT.br (loopOk (nameP_t0_L0 (c0, (↑c0.length : Int))) (0 : Int))
           (RT.br ((loopV (nameP_t0_L0 (c0, (↑c0.length : Int))) (0 : Int)).beq (0 : Nat))
            (okL (AV.bool false) ([]))
            (RT.br ((loopV (nameP_t0_L0 (c0, (↑c0.length : Int))) (0 : Int)).beq (1 : Nat))
             (okL (AV.bool true) ([]))
             (RT.fail)))
           (RT.fail)))
         (RT.fail)))
       (RT.fail))
      (RT.fail)))
theorem nameP_t0r_b (c0 : List UInt8) (K : AV → St → Prop) : bodyK Try.prog keyP_pr nameP_t0_L0_LP 100 66 [] [.str c0] [] K = RT.K (fun v s _ => K v s) (nameP_t0r c0) := by kernel_rfl
noncomputable def nameP_t0_V0 (c0 : List UInt8) : Bool :=
  bif eqBytes c0 [] then true else bif decide ((↑c0.length : Int) > (12 : Int)) then true else decide ((0 : Int) < (↑c0.length : Int)) && (digP_t0_V0 (↑(c0.getD (0 : Nat) (0 : UInt8)).toNat : Int) && bif digP_t0_V1 (↑(c0.getD (0 : Nat) (0 : UInt8)).toNat : Int) then true else keyP_t0_V0 c0 && bif keyP_t0_V1 c0 then true else loopOk (nameP_t0_L0 (c0, (↑c0.length : Int))) (0 : Int) && bif (loopV (nameP_t0_L0 (c0, (↑c0.length : Int))) (0 : Int)).beq (0 : Nat) then true else (loopV (nameP_t0_L0 (c0, (↑c0.length : Int))) (0 : Int)).beq (1 : Nat) && true)
noncomputable def nameP_t0_V1 (c0 : List UInt8) : Bool :=
  bif eqBytes c0 [] then false else bif decide ((↑c0.length : Int) > (12 : Int)) then false else bif digP_t0_V1 (↑(c0.getD (0 : Nat) (0 : UInt8)).toNat : Int) then false else bif keyP_t0_V1 c0 then false else bif (loopV (nameP_t0_L0 (c0, (↑c0.length : Int))) (0 : Int)).beq (0 : Nat) then false else true
noncomputable def nameP_t0 (c0 : List UInt8) : RT :=
  RT.br (nameP_t0_V0 c0)
    (okL (Go.Sy.AV.bool (nameP_t0_V1 c0)) [])
    (RT.fail)
theorem nameP_t0_m (c0 : List UInt8) (K : AV → St → Prop) : RT.K (fun v s _ => K v s) (RT.mergeW ([]) (nameP_t0r c0)) = RT.K (fun v s _ => K v s) (nameP_t0 c0) := by kernel_rfl
theorem nameP_t0_b (c0 : List UInt8) (K : AV → St → Prop) (h : RT.K (fun v s _ => K v s) (nameP_t0 c0)) : bodyK Try.prog keyP_pr nameP_t0_L0_LP 100 66 [] [.str c0] [] K := Eq.mpr (nameP_t0r_b ..) (mergeW_K (S := []) _ ⟨rfl, ⟨rfl, ⟨⟨⟨rfl, ⟨⟨rfl, ⟨⟨rfl, ⟨rfl, trivial⟩⟩, trivial⟩⟩, trivial⟩⟩, trivial⟩, trivial⟩⟩⟩ (Eq.mpr (nameP_t0_m ..) h))
theorem nameP_t0_lp (hpr : PrOk Try.prog keyP_pr) : LoopsFor Try.prog 66 0 nameP_t0_L0_LP := (nameP_t0_L0_lp hpr)
noncomputable def nameP : Sy.Spec := ⟨[], fun args s => match args, s with
  | [(.str c0)], [] => .br (true) (nameP_t0 c0) .fail
  | _, _ => .fail⟩
theorem nameP_ok : SpecOk Try.prog 66 nameP.f := specOk_comes fun args s v s' tch e => by
  simp only [nameP] at e
  split at e
  · obtain ⟨hg, e⟩ := if_run e
    refine comes_of ok keyP_pr_k (L := 100) (ms := []) (by kernel_rfl) (nameP_t0_lp keyP_pr_k) ?_
    exact nameP_t0_b (h := K_run e) ..
  · cases e
noncomputable def nameP_pr : FuncId → Option Sy.Spec := addP 66 nameP keyP_pr
theorem nameP_pr_k : PrOk Try.prog nameP_pr := prOk_add nameP_ok keyP_pr_k
noncomputable def find1P_t0r (a : List UInt8) (l : List D) (k : List UInt8) (d : List D) (c : List UInt8) : RT :=
  okL (AV.bool (eqBytes a c)) ([Ent.cells [AV.str c]])
theorem find1P_t0r_b (a : List UInt8) (l : List D) (k : List UInt8) (d : List D) (c : List UInt8) (K : AV → St → Prop) : bodyK Try.prog nameP_pr noL 100 50 [] [.agg [.str a, .fz false shCol l, .str k, .fz false shDep d], .ptr (some (0, 0))] [.cells [.str c]] K = RT.K (fun v s _ => K v s) (find1P_t0r a l k d c) := by kernel_rfl
noncomputable def find1P_t0 (a : List UInt8) (l : List D) (k : List UInt8) (d : List D) (c : List UInt8) : RT :=
  okL (Go.Sy.AV.bool (eqBytes a c)) [(Go.Sy.Ent.cells [(Go.Sy.AV.str c)])]
theorem find1P_t0_m (a : List UInt8) (l : List D) (k : List UInt8) (d : List D) (c : List UInt8) (K : AV → St → Prop) : RT.K (fun v s _ => K v s) (RT.mergeW ([Ent.cells [AV.str c]]) (find1P_t0r a l k d c)) = RT.K (fun v s _ => K v s) (find1P_t0 a l k d c) := by kernel_rfl
theorem find1P_t0_b (a : List UInt8) (l : List D) (k : List UInt8) (d : List D) (c : List UInt8) (K : AV → St → Prop) (h : RT.K (fun v s _ => K v s) (find1P_t0 a l k d c)) : bodyK Try.prog nameP_pr noL 100 50 [] [.agg [.str a, .fz false shCol l, .str k, .fz false shDep d], .ptr (some (0, 0))] [.cells [.str c]] K := Eq.mpr (find1P_t0r_b ..) (mergeW_K (S := [Ent.cells [AV.str c]]) _ rfl (Eq.mpr (find1P_t0_m ..) h))
theorem find1P_t0_lp (hpr : PrOk Try.prog nameP_pr) : LoopsFor Try.prog 50 1 noL := loops_none
noncomputable def find1P : Sy.Spec := ⟨[], fun args s => match args, s with
  | [(.agg [(.str a), (.fz false e_0 l), (.str k), (.fz false e_1 d)]), (.ptr (.some (e_2, e_3)))], [(.cells [(.str c)])] => .br (Sh.beq e_0 shCol && (Sh.beq e_1 shDep && (Nat.beq e_2 (0 : Nat) && (Nat.beq e_3 (0 : Nat) && (true))))) (find1P_t0 a l k d c) .fail
  | _, _ => .fail⟩
theorem find1P_ok : SpecOk Try.prog 50 find1P.f := specOk_comes fun args s v s' tch e => by
  simp only [find1P] at e
  split at e
  · obtain ⟨hg, e⟩ := if_run e
    simp only [Bool.and_eq_true] at hg
    obtain ⟨h_0, h_1, h_2, h_3, _⟩ := hg
    obtain rfl := Sh.beq_eq _ _ h_0
    obtain rfl := Sh.beq_eq _ _ h_1
    obtain rfl := Nat.eq_of_beq_eq_true h_2
    obtain rfl := Nat.eq_of_beq_eq_true h_3
    refine comes_of ok nameP_pr_k (L := 100) (ms := []) (by kernel_rfl) (find1P_t0_lp nameP_pr_k) ?_
    exact find1P_t0_b (h := K_run e) ..
  · cases e
noncomputable def find1P_pr : FuncId → Option Sy.Spec := addP 50 find1P nameP_pr
theorem find1P_pr_k : PrOk Try.prog find1P_pr := prOk_add find1P_ok nameP_pr_k
noncomputable def ixTP_t0_L0_T (n0 : Nat) (i1 : Int) (l2 : List D) (c3 : List UInt8) (i4 : Int) : List AV := ([AV.tsl false shTab (0 : Nat) (0 : Nat) n0 Cap.tight, AV.fn (Fn.func (50 : Nat)) [] [AV.ptr (some ((1 : Nat), (0 : Nat)))], .any, .any, .any, .any, .any, AV.int IntKind.i64 i1, AV.int IntKind.i64 i4] ++ padAny 10)
noncomputable def ixTP_t0_L0_S (n0 : Nat) (i1 : Int) (l2 : List D) (c3 : List UInt8) (i4 : Int) : St := [Ent.tbl false shTab l2, Ent.cells [AV.str c3]]
noncomputable def ixTP_t0_L0_of : List AV → St → Option ((Nat × Int × (List D) × (List UInt8)) × (Int)) := fun t s => match t, s with
  | (.tsl false e_0 e_1 e_2 n0 .tight) :: (.fn (.func e_3) [] [(.ptr (.some (e_4, e_5)))]) :: t_0, [(.tbl false e_6 l2), (.cells [(.str c3)])] => (match dropAny 5 t_0 with
    | some ((.int .i64 i1) :: (.int .i64 i4) :: t_1) => (match dropAny 10 t_1 with
    | some ([]) => (match Sh.beq e_0 shTab && (Nat.beq e_1 (0 : Nat) && (Nat.beq e_2 (0 : Nat) && (Nat.beq e_3 (50 : Nat) && (Nat.beq e_4 (1 : Nat) && (Nat.beq e_5 (0 : Nat) && (Sh.beq e_6 shTab && (true))))))) with | true => some ((n0, i1, l2, c3), (i4)) | false => none)
    | _ => none)
    | _ => none)
  | _, _ => none
noncomputable def ixTP_t0_L0_ex (i : Nat × Int × (List D) × (List UInt8)) (y : Nat × Int) (k : KS) : Prop := let n0 := i.1; let i1 := i.2.1; let l2 := i.2.2.1; let c3 := i.2.2.2; let tag := y.1; let iy6 := y.2; br (Nat.beq tag 0) (k (Ex.ret) ([.any, .any, .any, .any, AV.int IntKind.i64 iy6] ++ padAny 14) [Ent.tbl false shTab l2, Ent.cells [AV.str c3]]) (br (Nat.beq tag 1) (k (Ex.normal) ([.any] ++ padAny 18) [Ent.tbl false shTab l2, Ent.cells [AV.str c3]]) (False))
theorem ixTP_t0_L0_of_ok : ∀ t s (i : Nat × Int × (List D) × (List UInt8)) (x : Int), ixTP_t0_L0_of t s = some (i, x) → t = ixTP_t0_L0_T i.1 i.2.1 i.2.2.1 i.2.2.2 x ∧ s = ixTP_t0_L0_S i.1 i.2.1 i.2.2.1 i.2.2.2 x := by
  intro t s i x h
  unfold ixTP_t0_L0_of at h
  split at h
  · split at h
    · rename_i ha
      obtain rfl := dropAny_eq ha
      split at h
      · rename_i ha
        obtain rfl := dropAny_eq ha
        split at h
        · rename_i hg
          cases h
          simp only [Bool.and_eq_true] at hg
          obtain ⟨h_0, h_1, h_2, h_3, h_4, h_5, h_6, _⟩ := hg
          obtain rfl := Sh.beq_eq _ _ h_0
          obtain rfl := Nat.eq_of_beq_eq_true h_1
          obtain rfl := Nat.eq_of_beq_eq_true h_2
          obtain rfl := Nat.eq_of_beq_eq_true h_3
          obtain rfl := Nat.eq_of_beq_eq_true h_4
          obtain rfl := Nat.eq_of_beq_eq_true h_5
          obtain rfl := Sh.beq_eq _ _ h_6
          exact ⟨rfl, rfl⟩
        · cases h
      · cases h
    · cases h
  · cases h
noncomputable def ixTP_t0_L0_stp (n0 : Nat) (i1 : Int) (l2 : List D) (c3 : List UInt8) (i4 : Int) : NT (Int) (Nat × Int) :=
  NT.br (decide (i4 < i1))
    (NT.br (decide ((0 : Int) ≤ i4) && decide (i4 < (↑n0 : Int)))
     (NT.br (decide ((0 : Nat) + i4.toNat < l2.length))
      (NT.br (eqBytes ((l2.getD ((0 : Nat) + i4.toNat) D.nul).fld (0 : Nat)).asStr c3)
       (NT.done (0, i4))
       (NT.more (IntKind.i64.wrap (i4 + (1 : Int)))))
      (NT.fail))
     (NT.fail))
    (NT.done (1, 0))
noncomputable def ixTP_t0_L0 (i : Nat × Int × (List D) × (List UInt8)) (x : Int) := ixTP_t0_L0_stp i.1 i.2.1 i.2.2.1 i.2.2.2 x
theorem ixTP_t0_L0_rd (n0 : Nat) (i1 : Int) (l2 : List D) (c3 : List UInt8) (i4 : Int) (more : List AV → St → Prop) (kk : KS) : roundK Try.prog find1P_pr noL 100 49 0 (ixTP_t0_L0_T n0 i1 l2 c3 i4) (ixTP_t0_L0_S n0 i1 l2 c3 i4) (againK 2 0 [.yes, .yes, .no, .no, .no, .no, .no, .yes, .yes] [.no, .no, .no, .no, .yes] more kk) = (ixTP_t0_L0_stp n0 i1 l2 c3 i4).K (fun x' => more (ixTP_t0_L0_T n0 i1 l2 c3 x') (ixTP_t0_L0_S n0 i1 l2 c3 x')) (fun y => ixTP_t0_L0_ex (n0, i1, l2, c3) y kk) := by kernel_rfl
noncomputable def ixTP_t0_L0_LP : Nat → Option LoopS := addL 0 (headG 2 [.yes, .yes, .no, .no, .no, .no, .no, .yes, .yes] (outL ixTP_t0_L0 ixTP_t0_L0_of ixTP_t0_L0_ex)) noL
theorem ixTP_t0_L0_lp (hpr : PrOk Try.prog find1P_pr) : LoopsFor Try.prog 49 2 ixTP_t0_L0_LP := loops_lp (L := 100) (T := fun i x => ixTP_t0_L0_T i.1 i.2.1 i.2.2.1 i.2.2.2 x) (S := fun i x => ixTP_t0_L0_S i.1 i.2.1 i.2.2.1 i.2.2.2 x) ok hpr (by kernel_rfl) loops_none ixTP_t0_L0_of_ok (fun i x more kk => ixTP_t0_L0_rd i.1 i.2.1 i.2.2.1 i.2.2.2 x more kk)
noncomputable def ixTP_t0r (n : Nat) (l : List D) (c : List UInt8) : RT :=
  RT.br (loopOk (ixTP_t0_L0 (n, (↑n : Int), l, c)) (0 : Int))
    (RT.br ((loopV (ixTP_t0_L0 (n, (↑n : Int), l, c)) (0 : Int)).fst.beq (0 : Nat))
     (okL (AV.int IntKind.i64 (loopV (ixTP_t0_L0 (n, (↑n : Int), l, c)) (0 : Int)).snd) ([Ent.tbl false shTab l, Ent.cells [AV.str c]]))
     (RT.br ((loopV (ixTP_t0_L0 (n, (↑n : Int), l, c)) (0 : Int)).fst.beq (1 : Nat))
      (okL (AV.int IntKind.i64 (-1 : Int)) ([Ent.tbl false shTab l, Ent.cells [AV.str c]]))
      (RT.fail)))
    (RT.fail)
theorem ixTP_t0r_b (n : Nat) (l : List D) (c : List UInt8) (K : AV → St → Prop) : bodyK Try.prog find1P_pr ixTP_t0_L0_LP 100 49 [] [.tsl false shTab 0 0 n .tight, .fn (.func 50) [] [.ptr (some (1, 0))]] [.tbl false shTab l, .cells [.str c]] K = RT.K (fun v s _ => K v s) (ixTP_t0r n l c) := by kernel_rfl
noncomputable def ixTP_t0_V0 (n : Nat) (l : List D) (c : List UInt8) : Bool :=
  loopOk (ixTP_t0_L0 (n, (↑n : Int), l, c)) (0 : Int) && bif (loopV (ixTP_t0_L0 (n, (↑n : Int), l, c)) (0 : Int)).fst.beq (0 : Nat) then true else (loopV (ixTP_t0_L0 (n, (↑n : Int), l, c)) (0 : Int)).fst.beq (1 : Nat) && true
noncomputable def ixTP_t0_V1 (n : Nat) (l : List D) (c : List UInt8) : Int :=
  bif (loopV (ixTP_t0_L0 (n, (↑n : Int), l, c)) (0 : Int)).fst.beq (0 : Nat) then (loopV (ixTP_t0_L0 (n, (↑n : Int), l, c)) (0 : Int)).snd else (-1 : Int)
noncomputable def ixTP_t0 (n : Nat) (l : List D) (c : List UInt8) : RT :=
  RT.br (ixTP_t0_V0 n l c)
    (okL (Go.Sy.AV.int (IntKind.i64) (ixTP_t0_V1 n l c)) [(Go.Sy.Ent.tbl (false) shTab l), (Go.Sy.Ent.cells [(Go.Sy.AV.str c)])])
    (RT.fail)
theorem ixTP_t0_m (n : Nat) (l : List D) (c : List UInt8) (K : AV → St → Prop) : RT.K (fun v s _ => K v s) (RT.mergeW ([Ent.tbl false shTab l, Ent.cells [AV.str c]]) (ixTP_t0r n l c)) = RT.K (fun v s _ => K v s) (ixTP_t0 n l c) := by kernel_rfl
theorem ixTP_t0_b (n : Nat) (l : List D) (c : List UInt8) (K : AV → St → Prop) (h : RT.K (fun v s _ => K v s) (ixTP_t0 n l c)) : bodyK Try.prog find1P_pr ixTP_t0_L0_LP 100 49 [] [.tsl false shTab 0 0 n .tight, .fn (.func 50) [] [.ptr (some (1, 0))]] [.tbl false shTab l, .cells [.str c]] K := Eq.mpr (ixTP_t0r_b ..) (mergeW_K (S := [Ent.tbl false shTab l, Ent.cells [AV.str c]]) _ ⟨⟨rfl, ⟨rfl, trivial⟩⟩, trivial⟩ (Eq.mpr (ixTP_t0_m ..) h))
theorem ixTP_t0_lp (hpr : PrOk Try.prog find1P_pr) : LoopsFor Try.prog 49 2 ixTP_t0_L0_LP := (ixTP_t0_L0_lp hpr)
noncomputable def ixTP : Sy.Spec := ⟨[], fun args s => match args, s with
  | [(.tsl false e_0 e_1 e_2 n .tight), (.fn (.func e_3) [] [(.ptr (.some (e_4, e_5)))])], [(.tbl false e_6 l), (.cells [(.str c)])] => .br (Sh.beq e_0 shTab && (Nat.beq e_1 (0 : Nat) && (Nat.beq e_2 (0 : Nat) && (Nat.beq e_3 (50 : Nat) && (Nat.beq e_4 (1 : Nat) && (Nat.beq e_5 (0 : Nat) && (Sh.beq e_6 shTab && (true)))))))) (ixTP_t0 n l c) .fail
  | _, _ => .fail⟩
theorem ixTP_ok : SpecOk Try.prog 49 ixTP.f := specOk_comes fun args s v s' tch e => by
  simp only [ixTP] at e
  split at e
  · obtain ⟨hg, e⟩ := if_run e
    simp only [Bool.and_eq_true] at hg
    obtain ⟨h_0, h_1, h_2, h_3, h_4, h_5, h_6, _⟩ := hg
    obtain rfl := Sh.beq_eq _ _ h_0
    obtain rfl := Nat.eq_of_beq_eq_true h_1
    obtain rfl := Nat.eq_of_beq_eq_true h_2
    obtain rfl := Nat.eq_of_beq_eq_true h_3
    obtain rfl := Nat.eq_of_beq_eq_true h_4
    obtain rfl := Nat.eq_of_beq_eq_true h_5
    obtain rfl := Sh.beq_eq _ _ h_6
    refine comes_of ok find1P_pr_k (L := 100) (ms := []) (by kernel_rfl) (ixTP_t0_lp find1P_pr_k) ?_
    exact ixTP_t0_b (h := K_run e) ..
  · cases e
noncomputable def ixTP_pr : FuncId → Option Sy.Spec := addP 49 ixTP find1P_pr
theorem ixTP_pr_k : PrOk Try.prog ixTP_pr := prOk_add ixTP_ok find1P_pr_k
noncomputable def copiedP_t0_L0_T (i0 : Int) (c1 : List UInt8) (n2 : Nat) (c3 : List UInt8) (n4 : Nat) (l5 : List D) (l6 : List D) (i7 : Int) : List AV := ([.any, AV.ptr (some ((0 : Nat), (0 : Nat))), AV.ptr (some ((3 : Nat), (0 : Nat))), .any, .any, .any, .any, .any, .any, .any, .any, .any, .any, .any, AV.int IntKind.i64 i0, AV.int IntKind.i64 i7] ++ padAny 16)
noncomputable def copiedP_t0_L0_S (i0 : Int) (c1 : List UInt8) (n2 : Nat) (c3 : List UInt8) (n4 : Nat) (l5 : List D) (l6 : List D) (i7 : Int) : St := [Ent.cells [AV.str c1, AV.tsl false shCol (1 : Nat) (0 : Nat) n2 Cap.tight, AV.str c3, AV.tsl false shDep (2 : Nat) (0 : Nat) n4 Cap.tight], Ent.tbl false shCol l5, Ent.tbl false shDep l6, Ent.cells [AV.str [], AV.nilSl, AV.str [], AV.nilSl]]
noncomputable def copiedP_t0_L0_of : List AV → St → Option ((Int × (List UInt8) × Nat × (List UInt8) × Nat × (List D)) × ((List D) × Int)) := fun t s => match t, s with
  | .any :: (.ptr (.some (e_0, e_1))) :: (.ptr (.some (e_2, e_3))) :: t_0, [(.cells [(.str c1), (.tsl false e_4 e_5 e_6 n2 .tight), (.str c3), (.tsl false e_7 e_8 e_9 n4 .tight)]), (.tbl false e_10 l5), (.tbl false e_11 l6), (.cells [(.str e_12), .nilSl, (.str e_13), .nilSl])] => (match dropAny 11 t_0 with
    | some ((.int .i64 i0) :: (.int .i64 i7) :: t_1) => (match dropAny 16 t_1 with
    | some ([]) => (match Nat.beq e_0 (0 : Nat) && (Nat.beq e_1 (0 : Nat) && (Nat.beq e_2 (3 : Nat) && (Nat.beq e_3 (0 : Nat) && (Sh.beq e_4 shCol && (Nat.beq e_5 (1 : Nat) && (Nat.beq e_6 (0 : Nat) && (Sh.beq e_7 shDep && (Nat.beq e_8 (2 : Nat) && (Nat.beq e_9 (0 : Nat) && (Sh.beq e_10 shCol && (Sh.beq e_11 shDep && (decide (e_12 = ([])) && (decide (e_13 = ([])) && (true)))))))))))))) with | true => some ((i0, c1, n2, c3, n4, l5), (l6, i7)) | false => none)
    | _ => none)
    | _ => none)
  | _, _ => none
noncomputable def copiedP_t0_L0_ex (i : Int × (List UInt8) × Nat × (List UInt8) × Nat × (List D)) (y : (List D)) (k : KS) : Prop := let i0 := i.1; let c1 := i.2.1; let n2 := i.2.2.1; let c3 := i.2.2.2.1; let n4 := i.2.2.2.2.1; let l5 := i.2.2.2.2.2; let ly9 := y; k (Ex.normal) ([.any, AV.ptr (some ((0 : Nat), (0 : Nat))), AV.ptr (some ((3 : Nat), (0 : Nat)))] ++ padAny 29) [Ent.cells [AV.str c1, AV.tsl false shCol (1 : Nat) (0 : Nat) n2 Cap.tight, AV.str c3, AV.tsl false shDep (2 : Nat) (0 : Nat) n4 Cap.tight], Ent.tbl false shCol l5, Ent.tbl false shDep ly9, Ent.cells [AV.str [], AV.nilSl, AV.str [], AV.nilSl]]
theorem copiedP_t0_L0_of_ok : ∀ t s (i : Int × (List UInt8) × Nat × (List UInt8) × Nat × (List D)) (x : (List D) × Int), copiedP_t0_L0_of t s = some (i, x) → t = copiedP_t0_L0_T i.1 i.2.1 i.2.2.1 i.2.2.2.1 i.2.2.2.2.1 i.2.2.2.2.2 x.1 x.2 ∧ s = copiedP_t0_L0_S i.1 i.2.1 i.2.2.1 i.2.2.2.1 i.2.2.2.2.1 i.2.2.2.2.2 x.1 x.2 := by
  intro t s i x h
  unfold copiedP_t0_L0_of at h
  split at h
  · split at h
    · rename_i ha
      obtain rfl := dropAny_eq ha
      split at h
      · rename_i ha
        obtain rfl := dropAny_eq ha
        split at h
        · rename_i hg
          cases h
          simp only [Bool.and_eq_true] at hg
          obtain ⟨h_0, h_1, h_2, h_3, h_4, h_5, h_6, h_7, h_8, h_9, h_10, h_11, h_12, h_13, _⟩ := hg
          obtain rfl := Nat.eq_of_beq_eq_true h_0
          obtain rfl := Nat.eq_of_beq_eq_true h_1
          obtain rfl := Nat.eq_of_beq_eq_true h_2
          obtain rfl := Nat.eq_of_beq_eq_true h_3
          obtain rfl := Sh.beq_eq _ _ h_4
          obtain rfl := Nat.eq_of_beq_eq_true h_5
          obtain rfl := Nat.eq_of_beq_eq_true h_6
          obtain rfl := Sh.beq_eq _ _ h_7
          obtain rfl := Nat.eq_of_beq_eq_true h_8
          obtain rfl := Nat.eq_of_beq_eq_true h_9
          obtain rfl := Sh.beq_eq _ _ h_10
          obtain rfl := Sh.beq_eq _ _ h_11
          have h_12 := of_decide_eq_true h_12
          subst h_12
          have h_13 := of_decide_eq_true h_13
          subst h_13
          exact ⟨rfl, rfl⟩
        · cases h
      · cases h
    · cases h
  · cases h
noncomputable def copiedP_t0_L0_stp (i0 : Int) (c1 : List UInt8) (n2 : Nat) (c3 : List UInt8) (n4 : Nat) (l5 : List D) (l6 : List D) (i7 : Int) : NT ((List D) × Int) ((List D)) :=
  NT.br (decide (i7 < i0))
    (NT.br (decide ((0 : Int) ≤ i7) && decide (i7 < (↑n4 : Int)))
     (NT.br (decide ((0 : Nat) + i7.toNat < l6.length))
      (NT.br (((l6.getD ((0 : Nat) + i7.toNat) D.nul).fld (0 : Nat)).els.length.blt (1000000 : Nat))
       (NT.br (decide ((0 : Int) ≤ i7) && decide (i7 < (↑n4 : Int)))
        (NT.br (((0 : Nat) + ((l6.getD ((0 : Nat) + i7.toNat) D.nul).fld (0 : Nat)).els.length).ble ((l6.getD ((0 : Nat) + i7.toNat) D.nul).fld (0 : Nat)).els.length && true && decide ((0 : Nat) + i7.toNat < l6.length))
         (NT.more (l6.set ((0 : Nat) + i7.toNat) (D.agg [D.list (List.take ((l6.getD ((0 : Nat) + i7.toNat) D.nul).fld (0 : Nat)).els.length (List.drop (0 : Nat) ((l6.getD ((0 : Nat) + i7.toNat) D.nul).fld (0 : Nat)).els)), D.str ((l6.getD ((0 : Nat) + i7.toNat) D.nul).fld (1 : Nat)).asStr]), IntKind.i64.wrap (i7 + (1 : Int))))
         (NT.fail))
        (NT.fail))
       (NT.fail))
      (NT.fail))
     (NT.fail))
    (NT.done (l6))
noncomputable def copiedP_t0_L0 (i : Int × (List UInt8) × Nat × (List UInt8) × Nat × (List D)) (x : (List D) × Int) := copiedP_t0_L0_stp i.1 i.2.1 i.2.2.1 i.2.2.2.1 i.2.2.2.2.1 i.2.2.2.2.2 x.1 x.2
theorem copiedP_t0_L0_rd (i0 : Int) (c1 : List UInt8) (n2 : Nat) (c3 : List UInt8) (n4 : Nat) (l5 : List D) (l6 : List D) (i7 : Int) (more : List AV → St → Prop) (kk : KS) : roundK Try.prog ixTP_pr noL 100 47 0 (copiedP_t0_L0_T i0 c1 n2 c3 n4 l5 l6 i7) (copiedP_t0_L0_S i0 c1 n2 c3 n4 l5 l6 i7) (againK 0 0 [.no, .yes, .yes, .no, .no, .no, .no, .no, .no, .no, .no, .no, .no, .no, .yes, .yes] [.no, .yes, .yes] more kk) = (copiedP_t0_L0_stp i0 c1 n2 c3 n4 l5 l6 i7).K (fun x' => more (copiedP_t0_L0_T i0 c1 n2 c3 n4 l5 x'.1 x'.2) (copiedP_t0_L0_S i0 c1 n2 c3 n4 l5 x'.1 x'.2)) (fun y => copiedP_t0_L0_ex (i0, c1, n2, c3, n4, l5) y kk) := by kernel_rfl
noncomputable def copiedP_t0_L0_LP : Nat → Option LoopS := addL 0 (headG 0 [.no, .yes, .yes, .no, .no, .no, .no, .no, .no, .no, .no, .no, .no, .no, .yes, .yes] (outL copiedP_t0_L0 copiedP_t0_L0_of copiedP_t0_L0_ex)) noL
theorem copiedP_t0_L0_lp (hpr : PrOk Try.prog ixTP_pr) : LoopsFor Try.prog 47 0 copiedP_t0_L0_LP := loops_lp (L := 100) (T := fun i x => copiedP_t0_L0_T i.1 i.2.1 i.2.2.1 i.2.2.2.1 i.2.2.2.2.1 i.2.2.2.2.2 x.1 x.2) (S := fun i x => copiedP_t0_L0_S i.1 i.2.1 i.2.2.1 i.2.2.2.1 i.2.2.2.2.1 i.2.2.2.2.2 x.1 x.2) ok hpr (by kernel_rfl) loops_none copiedP_t0_L0_of_ok (fun i x more kk => copiedP_t0_L0_rd i.1 i.2.1 i.2.2.1 i.2.2.2.1 i.2.2.2.2.1 i.2.2.2.2.2 x.1 x.2 more kk)
noncomputable def copiedP_t0r (a : List UInt8) (l : List D) (k : List UInt8) (d : List D) : RT :=
  RT.br (l.length.blt (1000000 : Nat))
    (RT.br (d.length.blt (1000000 : Nat))
     (RT.br (loopOk (copiedP_t0_L0 ((↑d.length : Int), a, l.length, k, d.length, l)) (d, (0 : Int)))
      (okL (AV.agg [AV.str a, AV.tsl false shCol (0 : Nat) (0 : Nat) l.length Cap.tight, AV.str k, AV.tsl false shDep (1 : Nat) (0 : Nat) d.length Cap.tight]) ([Ent.tbl false shCol l, Ent.tbl false shDep (loopV (copiedP_t0_L0 ((↑d.length : Int), a, l.length, k, d.length, l)) (d, (0 : Int)))]))
      (RT.fail))
     (RT.fail))
    (RT.fail)
theorem copiedP_t0r_b (a : List UInt8) (l : List D) (k : List UInt8) (d : List D) (K : AV → St → Prop) : bodyK Try.prog ixTP_pr copiedP_t0_L0_LP 100 47 [] [.agg [.str a, .fz false shCol l, .str k, .fz false shDep d]] [] K = RT.K (fun v s _ => K v s) (copiedP_t0r a l k d) := by kernel_rfl
noncomputable def copiedP_t0_V0 (a : List UInt8) (l : List D) (k : List UInt8) (d : List D) : Bool :=
  l.length.blt (1000000 : Nat) && (d.length.blt (1000000 : Nat) && (loopOk (copiedP_t0_L0 ((↑d.length : Int), a, l.length, k, d.length, l)) (d, (0 : Int)) && true))
noncomputable def copiedP_t0_V1 (a : List UInt8) (l : List D) (k : List UInt8) (d : List D) : List D :=
  loopV (copiedP_t0_L0 ((↑d.length : Int), a, l.length, k, d.length, l)) (d, (0 : Int))
noncomputable def copiedP_t0 (a : List UInt8) (l : List D) (k : List UInt8) (d : List D) : RT :=
  RT.br (copiedP_t0_V0 a l k d)
    (okL (Go.Sy.AV.agg [(Go.Sy.AV.str a), (Go.Sy.AV.tsl (false) shCol ((0 : Nat)) ((0 : Nat)) (l.length) Go.Sy.Cap.tight), (Go.Sy.AV.str k), (Go.Sy.AV.tsl (false) shDep ((1 : Nat)) ((0 : Nat)) (d.length) Go.Sy.Cap.tight)]) [(Go.Sy.Ent.tbl (false) shCol l), (Go.Sy.Ent.tbl (false) shDep (copiedP_t0_V1 a l k d))])
    (RT.fail)
theorem copiedP_t0_m (a : List UInt8) (l : List D) (k : List UInt8) (d : List D) (K : AV → St → Prop) : RT.K (fun v s _ => K v s) (RT.mergeW ([Ent.tbl false shCol l, Ent.tbl false shDep (loopV (copiedP_t0_L0 ((↑d.length : Int), a, l.length, k, d.length, l)) (d, (0 : Int)))]) (copiedP_t0r a l k d)) = RT.K (fun v s _ => K v s) (copiedP_t0 a l k d) := by kernel_rfl
theorem copiedP_t0_b (a : List UInt8) (l : List D) (k : List UInt8) (d : List D) (K : AV → St → Prop) (h : RT.K (fun v s _ => K v s) (copiedP_t0 a l k d)) : bodyK Try.prog ixTP_pr copiedP_t0_L0_LP 100 47 [] [.agg [.str a, .fz false shCol l, .str k, .fz false shDep d]] [] K := Eq.mpr (copiedP_t0r_b ..) (mergeW_K (S := [Ent.tbl false shCol l, Ent.tbl false shDep (loopV (copiedP_t0_L0 ((↑d.length : Int), a, l.length, k, d.length, l)) (d, (0 : Int)))]) _ ⟨⟨⟨rfl, trivial⟩, trivial⟩, trivial⟩ (Eq.mpr (copiedP_t0_m ..) h))
theorem copiedP_t0_lp (hpr : PrOk Try.prog ixTP_pr) : LoopsFor Try.prog 47 0 copiedP_t0_L0_LP := (copiedP_t0_L0_lp hpr)
noncomputable def copiedP : Sy.Spec := ⟨[], fun args s => match args, s with
  | [(.agg [(.str a), (.fz false e_0 l), (.str k), (.fz false e_1 d)])], [] => .br (Sh.beq e_0 shCol && (Sh.beq e_1 shDep && (true))) (copiedP_t0 a l k d) .fail
  | _, _ => .fail⟩
theorem copiedP_ok : SpecOk Try.prog 47 copiedP.f := specOk_comes fun args s v s' tch e => by
  simp only [copiedP] at e
  split at e
  · obtain ⟨hg, e⟩ := if_run e
    simp only [Bool.and_eq_true] at hg
    obtain ⟨h_0, h_1, _⟩ := hg
    obtain rfl := Sh.beq_eq _ _ h_0
    obtain rfl := Sh.beq_eq _ _ h_1
    refine comes_of ok ixTP_pr_k (L := 100) (ms := []) (by kernel_rfl) (copiedP_t0_lp ixTP_pr_k) ?_
    exact copiedP_t0_b (h := K_run e) ..
  · cases e
noncomputable def copiedP_pr : FuncId → Option Sy.Spec := addP 47 copiedP ixTP_pr
theorem copiedP_pr_k : PrOk Try.prog copiedP_pr := prOk_add copiedP_ok ixTP_pr_k
noncomputable def col1P_t0r (a : List UInt8) (i : Int) (b : Bool) (k : List UInt8) (c : List UInt8) : RT :=
  okL (AV.bool (eqBytes a c)) ([Ent.cells [AV.str c]])
theorem col1P_t0r_b (a : List UInt8) (i : Int) (b : Bool) (k : List UInt8) (c : List UInt8) (K : AV → St → Prop) : bodyK Try.prog copiedP_pr noL 100 75 [] [.agg [.str a, .int .i64 i, .bool b, .str k], .ptr (some (0, 0))] [.cells [.str c]] K = RT.K (fun v s _ => K v s) (col1P_t0r a i b k c) := by kernel_rfl
noncomputable def col1P_t0 (a : List UInt8) (i : Int) (b : Bool) (k : List UInt8) (c : List UInt8) : RT :=
  okL (Go.Sy.AV.bool (eqBytes a c)) [(Go.Sy.Ent.cells [(Go.Sy.AV.str c)])]
theorem col1P_t0_m (a : List UInt8) (i : Int) (b : Bool) (k : List UInt8) (c : List UInt8) (K : AV → St → Prop) : RT.K (fun v s _ => K v s) (RT.mergeW ([Ent.cells [AV.str c]]) (col1P_t0r a i b k c)) = RT.K (fun v s _ => K v s) (col1P_t0 a i b k c) := by kernel_rfl
theorem col1P_t0_b (a : List UInt8) (i : Int) (b : Bool) (k : List UInt8) (c : List UInt8) (K : AV → St → Prop) (h : RT.K (fun v s _ => K v s) (col1P_t0 a i b k c)) : bodyK Try.prog copiedP_pr noL 100 75 [] [.agg [.str a, .int .i64 i, .bool b, .str k], .ptr (some (0, 0))] [.cells [.str c]] K := Eq.mpr (col1P_t0r_b ..) (mergeW_K (S := [Ent.cells [AV.str c]]) _ rfl (Eq.mpr (col1P_t0_m ..) h))
theorem col1P_t0_lp (hpr : PrOk Try.prog copiedP_pr) : LoopsFor Try.prog 75 1 noL := loops_none
noncomputable def col1P : Sy.Spec := ⟨[], fun args s => match args, s with
  | [(.agg [(.str a), (.int .i64 i), (.bool b), (.str k)]), (.ptr (.some (e_0, e_1)))], [(.cells [(.str c)])] => .br (Nat.beq e_0 (0 : Nat) && (Nat.beq e_1 (0 : Nat) && (true))) (col1P_t0 a i b k c) .fail
  | _, _ => .fail⟩
theorem col1P_ok : SpecOk Try.prog 75 col1P.f := specOk_comes fun args s v s' tch e => by
  simp only [col1P] at e
  split at e
  · obtain ⟨hg, e⟩ := if_run e
    simp only [Bool.and_eq_true] at hg
    obtain ⟨h_0, h_1, _⟩ := hg
    obtain rfl := Nat.eq_of_beq_eq_true h_0
    obtain rfl := Nat.eq_of_beq_eq_true h_1
    refine comes_of ok copiedP_pr_k (L := 100) (ms := []) (by kernel_rfl) (col1P_t0_lp copiedP_pr_k) ?_
    exact col1P_t0_b (h := K_run e) ..
  · cases e
noncomputable def col1P_pr : FuncId → Option Sy.Spec := addP 75 col1P copiedP_pr
theorem col1P_pr_k : PrOk Try.prog col1P_pr := prOk_add col1P_ok copiedP_pr_k
noncomputable def add1P_t0r (a : List UInt8) (i : Int) (b : Bool) (k : List UInt8) : RT :=
  RT.br (!decide (i = (1 : Int)))
    (okL (AV.bool !decide (i = (2 : Int))) ([]))
    (okL (AV.bool false) ([]))
theorem add1P_t0r_b (a : List UInt8) (i : Int) (b : Bool) (k : List UInt8) (K : AV → St → Prop) : bodyK Try.prog col1P_pr noL 100 45 [] [.agg [.str a, .int .i64 i, .bool b, .str k]] [] K = RT.K (fun v s _ => K v s) (add1P_t0r a i b k) := by kernel_rfl
noncomputable def add1P_t0_V0 (a : List UInt8) (i : Int) (b : Bool) (k : List UInt8) : Bool :=
  bif !decide (i = (1 : Int)) then true else true
noncomputable def add1P_t0_V1 (a : List UInt8) (i : Int) (b : Bool) (k : List UInt8) : Bool :=
  bif !decide (i = (1 : Int)) then !decide (i = (2 : Int)) else false
noncomputable def add1P_t0 (a : List UInt8) (i : Int) (b : Bool) (k : List UInt8) : RT :=
  RT.br (add1P_t0_V0 a i b k)
    (okL (Go.Sy.AV.bool (add1P_t0_V1 a i b k)) [])
    (RT.fail)
theorem add1P_t0_m (a : List UInt8) (i : Int) (b : Bool) (k : List UInt8) (K : AV → St → Prop) : RT.K (fun v s _ => K v s) (RT.mergeW ([]) (add1P_t0r a i b k)) = RT.K (fun v s _ => K v s) (add1P_t0 a i b k) := by kernel_rfl
theorem add1P_t0_b (a : List UInt8) (i : Int) (b : Bool) (k : List UInt8) (K : AV → St → Prop) (h : RT.K (fun v s _ => K v s) (add1P_t0 a i b k)) : bodyK Try.prog col1P_pr noL 100 45 [] [.agg [.str a, .int .i64 i, .bool b, .str k]] [] K := Eq.mpr (add1P_t0r_b ..) (mergeW_K (S := []) _ ⟨rfl, rfl⟩ (Eq.mpr (add1P_t0_m ..) h))
theorem add1P_t0_lp (hpr : PrOk Try.prog col1P_pr) : LoopsFor Try.prog 45 0 noL := loops_none
noncomputable def add1P : Sy.Spec := ⟨[], fun args s => match args, s with
  | [(.agg [(.str a), (.int .i64 i), (.bool b), (.str k)])], [] => .br (true) (add1P_t0 a i b k) .fail
  | _, _ => .fail⟩
theorem add1P_ok : SpecOk Try.prog 45 add1P.f := specOk_comes fun args s v s' tch e => by
  simp only [add1P] at e
  split at e
  · obtain ⟨hg, e⟩ := if_run e
    refine comes_of ok col1P_pr_k (L := 100) (ms := []) (by kernel_rfl) (add1P_t0_lp col1P_pr_k) ?_
    exact add1P_t0_b (h := K_run e) ..
  · cases e
noncomputable def add1P_pr : FuncId → Option Sy.Spec := addP 45 add1P col1P_pr
theorem add1P_pr_k : PrOk Try.prog add1P_pr := prOk_add add1P_ok col1P_pr_k
noncomputable def ixCP_t0_L0_T (l0 : List D) (i1 : Int) (c2 : List UInt8) (i3 : Int) : List AV := ([AV.fz false shCol l0, AV.fn (Fn.func (75 : Nat)) [] [AV.ptr (some ((0 : Nat), (0 : Nat)))], .any, .any, .any, .any, .any, AV.int IntKind.i64 i1, AV.int IntKind.i64 i3] ++ padAny 10)
noncomputable def ixCP_t0_L0_S (l0 : List D) (i1 : Int) (c2 : List UInt8) (i3 : Int) : St := [Ent.cells [AV.str c2]]
noncomputable def ixCP_t0_L0_of : List AV → St → Option (((List D) × Int × (List UInt8)) × (Int)) := fun t s => match t, s with
  | (.fz false e_0 l0) :: (.fn (.func e_1) [] [(.ptr (.some (e_2, e_3)))]) :: t_0, [(.cells [(.str c2)])] => (match dropAny 5 t_0 with
    | some ((.int .i64 i1) :: (.int .i64 i3) :: t_1) => (match dropAny 10 t_1 with
    | some ([]) => (match Sh.beq e_0 shCol && (Nat.beq e_1 (75 : Nat) && (Nat.beq e_2 (0 : Nat) && (Nat.beq e_3 (0 : Nat) && (true)))) with | true => some ((l0, i1, c2), (i3)) | false => none)
    | _ => none)
    | _ => none)
  | _, _ => none
noncomputable def ixCP_t0_L0_ex (i : (List D) × Int × (List UInt8)) (y : Nat × Int) (k : KS) : Prop := let l0 := i.1; let i1 := i.2.1; let c2 := i.2.2; let tag := y.1; let iy5 := y.2; br (Nat.beq tag 0) (k (Ex.ret) ([.any, .any, .any, .any, AV.int IntKind.i64 iy5] ++ padAny 14) [Ent.cells [AV.str c2]]) (br (Nat.beq tag 1) (k (Ex.normal) ([.any] ++ padAny 18) [Ent.cells [AV.str c2]]) (False))
theorem ixCP_t0_L0_of_ok : ∀ t s (i : (List D) × Int × (List UInt8)) (x : Int), ixCP_t0_L0_of t s = some (i, x) → t = ixCP_t0_L0_T i.1 i.2.1 i.2.2 x ∧ s = ixCP_t0_L0_S i.1 i.2.1 i.2.2 x := by
  intro t s i x h
  unfold ixCP_t0_L0_of at h
  split at h
  · split at h
    · rename_i ha
      obtain rfl := dropAny_eq ha
      split at h
      · rename_i ha
        obtain rfl := dropAny_eq ha
        split at h
        · rename_i hg
          cases h
          simp only [Bool.and_eq_true] at hg
          obtain ⟨h_0, h_1, h_2, h_3, _⟩ := hg
          obtain rfl := Sh.beq_eq _ _ h_0
          obtain rfl := Nat.eq_of_beq_eq_true h_1
          obtain rfl := Nat.eq_of_beq_eq_true h_2
          obtain rfl := Nat.eq_of_beq_eq_true h_3
          exact ⟨rfl, rfl⟩
        · cases h
      · cases h
    · cases h
  · cases h
noncomputable def ixCP_t0_L0_stp (l0 : List D) (i1 : Int) (c2 : List UInt8) (i3 : Int) : NT (Int) (Nat × Int) :=
  NT.br (decide (i3 < i1))
    (NT.br (decide ((0 : Int) ≤ i3) && decide (i3 < (↑l0.length : Int)))
     (NT.br (eqBytes ((l0.getD i3.toNat D.nul).fld (0 : Nat)).asStr c2)
      (NT.done (0, i3))
      (NT.more (IntKind.i64.wrap (i3 + (1 : Int)))))
     (NT.fail))
    (NT.done (1, 0))
noncomputable def ixCP_t0_L0 (i : (List D) × Int × (List UInt8)) (x : Int) := ixCP_t0_L0_stp i.1 i.2.1 i.2.2 x
theorem ixCP_t0_L0_rd (l0 : List D) (i1 : Int) (c2 : List UInt8) (i3 : Int) (more : List AV → St → Prop) (kk : KS) : roundK Try.prog add1P_pr noL 100 71 0 (ixCP_t0_L0_T l0 i1 c2 i3) (ixCP_t0_L0_S l0 i1 c2 i3) (againK 1 0 [.yes, .yes, .no, .no, .no, .no, .no, .yes, .yes] [.no, .no, .no, .no, .yes] more kk) = (ixCP_t0_L0_stp l0 i1 c2 i3).K (fun x' => more (ixCP_t0_L0_T l0 i1 c2 x') (ixCP_t0_L0_S l0 i1 c2 x')) (fun y => ixCP_t0_L0_ex (l0, i1, c2) y kk) := by kernel_rfl
noncomputable def ixCP_t0_L0_LP : Nat → Option LoopS := addL 0 (headG 1 [.yes, .yes, .no, .no, .no, .no, .no, .yes, .yes] (outL ixCP_t0_L0 ixCP_t0_L0_of ixCP_t0_L0_ex)) noL
theorem ixCP_t0_L0_lp (hpr : PrOk Try.prog add1P_pr) : LoopsFor Try.prog 71 1 ixCP_t0_L0_LP := loops_lp (L := 100) (T := fun i x => ixCP_t0_L0_T i.1 i.2.1 i.2.2 x) (S := fun i x => ixCP_t0_L0_S i.1 i.2.1 i.2.2 x) ok hpr (by kernel_rfl) loops_none ixCP_t0_L0_of_ok (fun i x more kk => ixCP_t0_L0_rd i.1 i.2.1 i.2.2 x more kk)
noncomputable def ixCP_t0r (l : List D) (c : List UInt8) : RT :=
  RT.br (loopOk (ixCP_t0_L0 (l, (↑l.length : Int), c)) (0 : Int))
    (RT.br ((loopV (ixCP_t0_L0 (l, (↑l.length : Int), c)) (0 : Int)).fst.beq (0 : Nat))
     (okL (AV.int IntKind.i64 (loopV (ixCP_t0_L0 (l, (↑l.length : Int), c)) (0 : Int)).snd) ([Ent.cells [AV.str c]]))
     (RT.br ((loopV (ixCP_t0_L0 (l, (↑l.length : Int), c)) (0 : Int)).fst.beq (1 : Nat))
      (okL (AV.int IntKind.i64 (-1 : Int)) ([Ent.cells [AV.str c]]))
      (RT.fail)))
    (RT.fail)
theorem ixCP_t0r_b (l : List D) (c : List UInt8) (K : AV → St → Prop) : bodyK Try.prog add1P_pr ixCP_t0_L0_LP 100 71 [] [.fz false shCol l, .fn (.func 75) [] [.ptr (some (0, 0))]] [.cells [.str c]] K = RT.K (fun v s _ => K v s) (ixCP_t0r l c) := by kernel_rfl
noncomputable def ixCP_t0_V0 (l : List D) (c : List UInt8) : Bool :=
  loopOk (ixCP_t0_L0 (l, (↑l.length : Int), c)) (0 : Int) && bif (loopV (ixCP_t0_L0 (l, (↑l.length : Int), c)) (0 : Int)).fst.beq (0 : Nat) then true else (loopV (ixCP_t0_L0 (l, (↑l.length : Int), c)) (0 : Int)).fst.beq (1 : Nat) && true
noncomputable def ixCP_t0_V1 (l : List D) (c : List UInt8) : Int :=
  bif (loopV (ixCP_t0_L0 (l, (↑l.length : Int), c)) (0 : Int)).fst.beq (0 : Nat) then (loopV (ixCP_t0_L0 (l, (↑l.length : Int), c)) (0 : Int)).snd else (-1 : Int)
noncomputable def ixCP_t0 (l : List D) (c : List UInt8) : RT :=
  RT.br (ixCP_t0_V0 l c)
    (okL (Go.Sy.AV.int (IntKind.i64) (ixCP_t0_V1 l c)) [(Go.Sy.Ent.cells [(Go.Sy.AV.str c)])])
    (RT.fail)
theorem ixCP_t0_m (l : List D) (c : List UInt8) (K : AV → St → Prop) : RT.K (fun v s _ => K v s) (RT.mergeW ([Ent.cells [AV.str c]]) (ixCP_t0r l c)) = RT.K (fun v s _ => K v s) (ixCP_t0 l c) := by kernel_rfl
theorem ixCP_t0_b (l : List D) (c : List UInt8) (K : AV → St → Prop) (h : RT.K (fun v s _ => K v s) (ixCP_t0 l c)) : bodyK Try.prog add1P_pr ixCP_t0_L0_LP 100 71 [] [.fz false shCol l, .fn (.func 75) [] [.ptr (some (0, 0))]] [.cells [.str c]] K := Eq.mpr (ixCP_t0r_b ..) (mergeW_K (S := [Ent.cells [AV.str c]]) _ ⟨⟨rfl, ⟨rfl, trivial⟩⟩, trivial⟩ (Eq.mpr (ixCP_t0_m ..) h))
theorem ixCP_t0_lp (hpr : PrOk Try.prog add1P_pr) : LoopsFor Try.prog 71 1 ixCP_t0_L0_LP := (ixCP_t0_L0_lp hpr)
noncomputable def ixCP_t1_L0_T (n0 : Nat) (i1 : Int) (l2 : List D) (c3 : List UInt8) (i4 : Int) : List AV := ([AV.tsl false shCol (0 : Nat) (0 : Nat) n0 Cap.tight, AV.fn (Fn.func (75 : Nat)) [] [AV.ptr (some ((1 : Nat), (0 : Nat)))], .any, .any, .any, .any, .any, AV.int IntKind.i64 i1, AV.int IntKind.i64 i4] ++ padAny 10)
noncomputable def ixCP_t1_L0_S (n0 : Nat) (i1 : Int) (l2 : List D) (c3 : List UInt8) (i4 : Int) : St := [Ent.tbl false shCol l2, Ent.cells [AV.str c3]]
noncomputable def ixCP_t1_L0_of : List AV → St → Option ((Nat × Int × (List D) × (List UInt8)) × (Int)) := fun t s => match t, s with
  | (.tsl false e_0 e_1 e_2 n0 .tight) :: (.fn (.func e_3) [] [(.ptr (.some (e_4, e_5)))]) :: t_0, [(.tbl false e_6 l2), (.cells [(.str c3)])] => (match dropAny 5 t_0 with
    | some ((.int .i64 i1) :: (.int .i64 i4) :: t_1) => (match dropAny 10 t_1 with
    | some ([]) => (match Sh.beq e_0 shCol && (Nat.beq e_1 (0 : Nat) && (Nat.beq e_2 (0 : Nat) && (Nat.beq e_3 (75 : Nat) && (Nat.beq e_4 (1 : Nat) && (Nat.beq e_5 (0 : Nat) && (Sh.beq e_6 shCol && (true))))))) with | true => some ((n0, i1, l2, c3), (i4)) | false => none)
    | _ => none)
    | _ => none)
  | _, _ => none
noncomputable def ixCP_t1_L0_ex (i : Nat × Int × (List D) × (List UInt8)) (y : Nat × Int) (k : KS) : Prop := let n0 := i.1; let i1 := i.2.1; let l2 := i.2.2.1; let c3 := i.2.2.2; let tag := y.1; let iy6 := y.2; br (Nat.beq tag 0) (k (Ex.ret) ([.any, .any, .any, .any, AV.int IntKind.i64 iy6] ++ padAny 14) [Ent.tbl false shCol l2, Ent.cells [AV.str c3]]) (br (Nat.beq tag 1) (k (Ex.normal) ([.any] ++ padAny 18) [Ent.tbl false shCol l2, Ent.cells [AV.str c3]]) (False))
theorem ixCP_t1_L0_of_ok : ∀ t s (i : Nat × Int × (List D) × (List UInt8)) (x : Int), ixCP_t1_L0_of t s = some (i, x) → t = ixCP_t1_L0_T i.1 i.2.1 i.2.2.1 i.2.2.2 x ∧ s = ixCP_t1_L0_S i.1 i.2.1 i.2.2.1 i.2.2.2 x := by
  intro t s i x h
  unfold ixCP_t1_L0_of at h
  split at h
  · split at h
    · rename_i ha
      obtain rfl := dropAny_eq ha
      split at h
      · rename_i ha
        obtain rfl := dropAny_eq ha
        split at h
        · rename_i hg
          cases h
          simp only [Bool.and_eq_true] at hg
          obtain ⟨h_0, h_1, h_2, h_3, h_4, h_5, h_6, _⟩ := hg
          obtain rfl := Sh.beq_eq _ _ h_0
          obtain rfl := Nat.eq_of_beq_eq_true h_1
          obtain rfl := Nat.eq_of_beq_eq_true h_2
          obtain rfl := Nat.eq_of_beq_eq_true h_3
          obtain rfl := Nat.eq_of_beq_eq_true h_4
          obtain rfl := Nat.eq_of_beq_eq_true h_5
          obtain rfl := Sh.beq_eq _ _ h_6
          exact ⟨rfl, rfl⟩
        · cases h
      · cases h
    · cases h
  · cases h
noncomputable def ixCP_t1_L0_stp (n0 : Nat) (i1 : Int) (l2 : List D) (c3 : List UInt8) (i4 : Int) : NT (Int) (Nat × Int) :=
  NT.br (decide (i4 < i1))
    (NT.br (decide ((0 : Int) ≤ i4) && decide (i4 < (↑n0 : Int)))
     (NT.br (decide ((0 : Nat) + i4.toNat < l2.length))
      (NT.br (eqBytes ((l2.getD ((0 : Nat) + i4.toNat) D.nul).fld (0 : Nat)).asStr c3)
       (NT.done (0, i4))
       (NT.more (IntKind.i64.wrap (i4 + (1 : Int)))))
      (NT.fail))
     (NT.fail))
    (NT.done (1, 0))
noncomputable def ixCP_t1_L0 (i : Nat × Int × (List D) × (List UInt8)) (x : Int) := ixCP_t1_L0_stp i.1 i.2.1 i.2.2.1 i.2.2.2 x
theorem ixCP_t1_L0_rd (n0 : Nat) (i1 : Int) (l2 : List D) (c3 : List UInt8) (i4 : Int) (more : List AV → St → Prop) (kk : KS) : roundK Try.prog add1P_pr noL 100 71 0 (ixCP_t1_L0_T n0 i1 l2 c3 i4) (ixCP_t1_L0_S n0 i1 l2 c3 i4) (againK 2 0 [.yes, .yes, .no, .no, .no, .no, .no, .yes, .yes] [.no, .no, .no, .no, .yes] more kk) = (ixCP_t1_L0_stp n0 i1 l2 c3 i4).K (fun x' => more (ixCP_t1_L0_T n0 i1 l2 c3 x') (ixCP_t1_L0_S n0 i1 l2 c3 x')) (fun y => ixCP_t1_L0_ex (n0, i1, l2, c3) y kk) := by kernel_rfl
noncomputable def ixCP_t1_L0_LP : Nat → Option LoopS := addL 0 (headG 2 [.yes, .yes, .no, .no, .no, .no, .no, .yes, .yes] (outL ixCP_t1_L0 ixCP_t1_L0_of ixCP_t1_L0_ex)) noL
theorem ixCP_t1_L0_lp (hpr : PrOk Try.prog add1P_pr) : LoopsFor Try.prog 71 2 ixCP_t1_L0_LP := loops_lp (L := 100) (T := fun i x => ixCP_t1_L0_T i.1 i.2.1 i.2.2.1 i.2.2.2 x) (S := fun i x => ixCP_t1_L0_S i.1 i.2.1 i.2.2.1 i.2.2.2 x) ok hpr (by kernel_rfl) loops_none ixCP_t1_L0_of_ok (fun i x more kk => ixCP_t1_L0_rd i.1 i.2.1 i.2.2.1 i.2.2.2 x more kk)
noncomputable def ixCP_t1r (n : Nat) (l : List D) (c : List UInt8) : RT :=
  RT.br (loopOk (ixCP_t1_L0 (n, (↑n : Int), l, c)) (0 : Int))
    (RT.br ((loopV (ixCP_t1_L0 (n, (↑n : Int), l, c)) (0 : Int)).fst.beq (0 : Nat))
     (okL (AV.int IntKind.i64 (loopV (ixCP_t1_L0 (n, (↑n : Int), l, c)) (0 : Int)).snd) ([Ent.tbl false shCol l, Ent.cells [AV.str c]]))
     (RT.br ((loopV (ixCP_t1_L0 (n, (↑n : Int), l, c)) (0 : Int)).fst.beq (1 : Nat))
      (okL (AV.int IntKind.i64 (-1 : Int)) ([Ent.tbl false shCol l, Ent.cells [AV.str c]]))
      (RT.fail)))
    (RT.fail)
theorem ixCP_t1r_b (n : Nat) (l : List D) (c : List UInt8) (K : AV → St → Prop) : bodyK Try.prog add1P_pr ixCP_t1_L0_LP 100 71 [] [.tsl false shCol 0 0 n .tight, .fn (.func 75) [] [.ptr (some (1, 0))]] [.tbl false shCol l, .cells [.str c]] K = RT.K (fun v s _ => K v s) (ixCP_t1r n l c) := by kernel_rfl
noncomputable def ixCP_t1_V0 (n : Nat) (l : List D) (c : List UInt8) : Bool :=
  loopOk (ixCP_t1_L0 (n, (↑n : Int), l, c)) (0 : Int) && bif (loopV (ixCP_t1_L0 (n, (↑n : Int), l, c)) (0 : Int)).fst.beq (0 : Nat) then true else (loopV (ixCP_t1_L0 (n, (↑n : Int), l, c)) (0 : Int)).fst.beq (1 : Nat) && true
noncomputable def ixCP_t1_V1 (n : Nat) (l : List D) (c : List UInt8) : Int :=
  bif (loopV (ixCP_t1_L0 (n, (↑n : Int), l, c)) (0 : Int)).fst.beq (0 : Nat) then (loopV (ixCP_t1_L0 (n, (↑n : Int), l, c)) (0 : Int)).snd else (-1 : Int)
noncomputable def ixCP_t1 (n : Nat) (l : List D) (c : List UInt8) : RT :=
  RT.br (ixCP_t1_V0 n l c)
    (okL (Go.Sy.AV.int (IntKind.i64) (ixCP_t1_V1 n l c)) [(Go.Sy.Ent.tbl (false) shCol l), (Go.Sy.Ent.cells [(Go.Sy.AV.str c)])])
    (RT.fail)
theorem ixCP_t1_m (n : Nat) (l : List D) (c : List UInt8) (K : AV → St → Prop) : RT.K (fun v s _ => K v s) (RT.mergeW ([Ent.tbl false shCol l, Ent.cells [AV.str c]]) (ixCP_t1r n l c)) = RT.K (fun v s _ => K v s) (ixCP_t1 n l c) := by kernel_rfl
theorem ixCP_t1_b (n : Nat) (l : List D) (c : List UInt8) (K : AV → St → Prop) (h : RT.K (fun v s _ => K v s) (ixCP_t1 n l c)) : bodyK Try.prog add1P_pr ixCP_t1_L0_LP 100 71 [] [.tsl false shCol 0 0 n .tight, .fn (.func 75) [] [.ptr (some (1, 0))]] [.tbl false shCol l, .cells [.str c]] K := Eq.mpr (ixCP_t1r_b ..) (mergeW_K (S := [Ent.tbl false shCol l, Ent.cells [AV.str c]]) _ ⟨⟨rfl, ⟨rfl, trivial⟩⟩, trivial⟩ (Eq.mpr (ixCP_t1_m ..) h))
theorem ixCP_t1_lp (hpr : PrOk Try.prog add1P_pr) : LoopsFor Try.prog 71 2 ixCP_t1_L0_LP := (ixCP_t1_L0_lp hpr)
noncomputable def ixCP_t2_L0_T (l0 : List D) (i1 : Int) (i2 : Int) : List AV := ([AV.fz false shCol l0, AV.fn (Fn.func (45 : Nat)) [] [], .any, .any, .any, .any, .any, AV.int IntKind.i64 i1, AV.int IntKind.i64 i2] ++ padAny 10)
noncomputable def ixCP_t2_L0_S (l0 : List D) (i1 : Int) (i2 : Int) : St := []
noncomputable def ixCP_t2_L0_of : List AV → St → Option (((List D) × Int) × (Int)) := fun t s => match t, s with
  | (.fz false e_0 l0) :: (.fn (.func e_1) [] []) :: t_0, [] => (match dropAny 5 t_0 with
    | some ((.int .i64 i1) :: (.int .i64 i2) :: t_1) => (match dropAny 10 t_1 with
    | some ([]) => (match Sh.beq e_0 shCol && (Nat.beq e_1 (45 : Nat) && (true)) with | true => some ((l0, i1), (i2)) | false => none)
    | _ => none)
    | _ => none)
  | _, _ => none
noncomputable def ixCP_t2_L0_ex (i : (List D) × Int) (y : Nat × Int) (k : KS) : Prop := let l0 := i.1; let i1 := i.2; let tag := y.1; let iy4 := y.2; br (Nat.beq tag 0) (k (Ex.ret) ([.any, .any, .any, .any, AV.int IntKind.i64 iy4] ++ padAny 14) []) (br (Nat.beq tag 1) (k (Ex.normal) ([.any] ++ padAny 18) []) (False))
theorem ixCP_t2_L0_of_ok : ∀ t s (i : (List D) × Int) (x : Int), ixCP_t2_L0_of t s = some (i, x) → t = ixCP_t2_L0_T i.1 i.2 x ∧ s = ixCP_t2_L0_S i.1 i.2 x := by
  intro t s i x h
  unfold ixCP_t2_L0_of at h
  split at h
  · split at h
    · rename_i ha
      obtain rfl := dropAny_eq ha
      split at h
      · rename_i ha
        obtain rfl := dropAny_eq ha
        split at h
        · rename_i hg
          cases h
          simp only [Bool.and_eq_true] at hg
          obtain ⟨h_0, h_1, _⟩ := hg
          obtain rfl := Sh.beq_eq _ _ h_0
          obtain rfl := Nat.eq_of_beq_eq_true h_1
          exact ⟨rfl, rfl⟩
        · cases h
      · cases h
    · cases h
  · cases h
noncomputable def ixCP_t2_L0_stp (l0 : List D) (i1 : Int) (i2 : Int) : NT (Int) (Nat × Int) :=
  NT.br (decide (i2 < i1))
    (NT.br (decide ((0 : Int) ≤ i2) && decide (i2 < (↑l0.length : Int)))
     (NT.br (add1P_t0_V0 ((l0.getD i2.toNat D.nul).fld (0 : Nat)).asStr ((l0.getD i2.toNat D.nul).fld (1 : Nat)).asInt ((l0.getD i2.toNat D.nul).fld (2 : Nat)).asBool ((l0.getD i2.toNat D.nul).fld (3 : Nat)).asStr)
      (NT.br (add1P_t0_V1 ((l0.getD i2.toNat D.nul).fld (0 : Nat)).asStr ((l0.getD i2.toNat D.nul).fld (1 : Nat)).asInt ((l0.getD i2.toNat D.nul).fld (2 : Nat)).asBool ((l0.getD i2.toNat D.nul).fld (3 : Nat)).asStr)
       (NT.done (0, i2))
       (NT.more (IntKind.i64.wrap (i2 + (1 : Int)))))
      (NT.fail))
     (NT.fail))
    (NT.done (1, 0))
noncomputable def ixCP_t2_L0 (i : (List D) × Int) (x : Int) := ixCP_t2_L0_stp i.1 i.2 x
theorem ixCP_t2_L0_rd (l0 : List D) (i1 : Int) (i2 : Int) (more : List AV → St → Prop) (kk : KS) : roundK Try.prog add1P_pr noL 100 71 0 (ixCP_t2_L0_T l0 i1 i2) (ixCP_t2_L0_S l0 i1 i2) (againK 0 0 [.yes, .yes, .no, .no, .no, .no, .no, .yes, .yes] [.no, .no, .no, .no, .yes] more kk) = (ixCP_t2_L0_stp l0 i1 i2).K (fun x' => more (ixCP_t2_L0_T l0 i1 x') (ixCP_t2_L0_S l0 i1 x')) (fun y => ixCP_t2_L0_ex (l0, i1) y kk) := by kernel_rfl
noncomputable def ixCP_t2_L0_LP : Nat → Option LoopS := addL 0 (headG 0 [.yes, .yes, .no, .no, .no, .no, .no, .yes, .yes] (outL ixCP_t2_L0 ixCP_t2_L0_of ixCP_t2_L0_ex)) noL
theorem ixCP_t2_L0_lp (hpr : PrOk Try.prog add1P_pr) : LoopsFor Try.prog 71 0 ixCP_t2_L0_LP := loops_lp (L := 100) (T := fun i x => ixCP_t2_L0_T i.1 i.2 x) (S := fun i x => ixCP_t2_L0_S i.1 i.2 x) ok hpr (by kernel_rfl) loops_none ixCP_t2_L0_of_ok (fun i x more kk => ixCP_t2_L0_rd i.1 i.2 x more kk)
noncomputable def ixCP_t2r (l : List D) : RT :=
  RT.br (loopOk (ixCP_t2_L0 (l, (↑l.length : Int))) (0 : Int))
    (RT.br ((loopV (ixCP_t2_L0 (l, (↑l.length : Int))) (0 : Int)).fst.beq (0 : Nat))
     (okL (AV.int IntKind.i64 (loopV (ixCP_t2_L0 (l, (↑l.length : Int))) (0 : Int)).snd) ([]))
     (RT.br ((loopV (ixCP_t2_L0 (l, (↑l.length : Int))) (0 : Int)).fst.beq (1 : Nat))
      (okL (AV.int IntKind.i64 (-1 : Int)) ([]))
      (RT.fail)))
    (RT.fail)
theorem ixCP_t2r_b (l : List D) (K : AV → St → Prop) : bodyK Try.prog add1P_pr ixCP_t2_L0_LP 100 71 [] [.fz false shCol l, .fn (.func 45) [] []] [] K = RT.K (fun v s _ => K v s) (ixCP_t2r l) := by kernel_rfl
noncomputable def ixCP_t2_V0 (l : List D) : Bool :=
  loopOk (ixCP_t2_L0 (l, (↑l.length : Int))) (0 : Int) && bif (loopV (ixCP_t2_L0 (l, (↑l.length : Int))) (0 : Int)).fst.beq (0 : Nat) then true else (loopV (ixCP_t2_L0 (l, (↑l.length : Int))) (0 : Int)).fst.beq (1 : Nat) && true
noncomputable def ixCP_t2_V1 (l : List D) : Int :=
  bif (loopV (ixCP_t2_L0 (l, (↑l.length : Int))) (0 : Int)).fst.beq (0 : Nat) then (loopV (ixCP_t2_L0 (l, (↑l.length : Int))) (0 : Int)).snd else (-1 : Int)
noncomputable def ixCP_t2 (l : List D) : RT :=
  RT.br (ixCP_t2_V0 l)
    (okL (Go.Sy.AV.int (IntKind.i64) (ixCP_t2_V1 l)) [])
    (RT.fail)
theorem ixCP_t2_m (l : List D) (K : AV → St → Prop) : RT.K (fun v s _ => K v s) (RT.mergeW ([]) (ixCP_t2r l)) = RT.K (fun v s _ => K v s) (ixCP_t2 l) := by kernel_rfl
theorem ixCP_t2_b (l : List D) (K : AV → St → Prop) (h : RT.K (fun v s _ => K v s) (ixCP_t2 l)) : bodyK Try.prog add1P_pr ixCP_t2_L0_LP 100 71 [] [.fz false shCol l, .fn (.func 45) [] []] [] K := Eq.mpr (ixCP_t2r_b ..) (mergeW_K (S := []) _ ⟨⟨rfl, ⟨rfl, trivial⟩⟩, trivial⟩ (Eq.mpr (ixCP_t2_m ..) h))
theorem ixCP_t2_lp (hpr : PrOk Try.prog add1P_pr) : LoopsFor Try.prog 71 0 ixCP_t2_L0_LP := (ixCP_t2_L0_lp hpr)
noncomputable def ixCP : Sy.Spec := ⟨[], fun args s => match args, s with
  | [(.fz false e_0 l), (.fn (.func e_1) [] [(.ptr (.some (e_2, e_3)))])], [(.cells [(.str c)])] => .br (Sh.beq e_0 shCol && (Nat.beq e_1 (75 : Nat) && (Nat.beq e_2 (0 : Nat) && (Nat.beq e_3 (0 : Nat) && (true))))) (ixCP_t0 l c) .fail
  | [(.tsl false e_0 e_1 e_2 n .tight), (.fn (.func e_3) [] [(.ptr (.some (e_4, e_5)))])], [(.tbl false e_6 l), (.cells [(.str c)])] => .br (Sh.beq e_0 shCol && (Nat.beq e_1 (0 : Nat) && (Nat.beq e_2 (0 : Nat) && (Nat.beq e_3 (75 : Nat) && (Nat.beq e_4 (1 : Nat) && (Nat.beq e_5 (0 : Nat) && (Sh.beq e_6 shCol && (true)))))))) (ixCP_t1 n l c) .fail
  | [(.fz false e_0 l), (.fn (.func e_1) [] [])], [] => .br (Sh.beq e_0 shCol && (Nat.beq e_1 (45 : Nat) && (true))) (ixCP_t2 l) .fail
  | _, _ => .fail⟩
theorem ixCP_ok : SpecOk Try.prog 71 ixCP.f := specOk_comes fun args s v s' tch e => by
  simp only [ixCP] at e
  split at e
  · obtain ⟨hg, e⟩ := if_run e
    simp only [Bool.and_eq_true] at hg
    obtain ⟨h_0, h_1, h_2, h_3, _⟩ := hg
    obtain rfl := Sh.beq_eq _ _ h_0
    obtain rfl := Nat.eq_of_beq_eq_true h_1
    obtain rfl := Nat.eq_of_beq_eq_true h_2
    obtain rfl := Nat.eq_of_beq_eq_true h_3
    refine comes_of ok add1P_pr_k (L := 100) (ms := []) (by kernel_rfl) (ixCP_t0_lp add1P_pr_k) ?_
    exact ixCP_t0_b (h := K_run e) ..
  · obtain ⟨hg, e⟩ := if_run e
    simp only [Bool.and_eq_true] at hg
    obtain ⟨h_0, h_1, h_2, h_3, h_4, h_5, h_6, _⟩ := hg
    obtain rfl := Sh.beq_eq _ _ h_0
    obtain rfl := Nat.eq_of_beq_eq_true h_1
    obtain rfl := Nat.eq_of_beq_eq_true h_2
    obtain rfl := Nat.eq_of_beq_eq_true h_3
    obtain rfl := Nat.eq_of_beq_eq_true h_4
    obtain rfl := Nat.eq_of_beq_eq_true h_5
    obtain rfl := Sh.beq_eq _ _ h_6
    refine comes_of ok add1P_pr_k (L := 100) (ms := []) (by kernel_rfl) (ixCP_t1_lp add1P_pr_k) ?_
    exact ixCP_t1_b (h := K_run e) ..
  · obtain ⟨hg, e⟩ := if_run e
    simp only [Bool.and_eq_true] at hg
    obtain ⟨h_0, h_1, _⟩ := hg
    obtain rfl := Sh.beq_eq _ _ h_0
    obtain rfl := Nat.eq_of_beq_eq_true h_1
    refine comes_of ok add1P_pr_k (L := 100) (ms := []) (by kernel_rfl) (ixCP_t2_lp add1P_pr_k) ?_
    exact ixCP_t2_b (h := K_run e) ..
  · cases e
noncomputable def ixCP_pr : FuncId → Option Sy.Spec := addP 71 ixCP add1P_pr
theorem ixCP_pr_k : PrOk Try.prog ixCP_pr := prOk_add ixCP_ok add1P_pr_k
noncomputable def colP_t0r (a : List UInt8) (l : List D) (k : List UInt8) (d : List D) (c : List UInt8) : RT :=
  RT.br (ixCP_t0_V0 l c)
    (okL (AV.int IntKind.i64 (ixCP_t0_V1 l c)) ([]))
    (RT.fail)
theorem colP_t0r_b (a : List UInt8) (l : List D) (k : List UInt8) (d : List D) (c : List UInt8) (K : AV → St → Prop) : bodyK Try.prog ixCP_pr noL 100 48 [] [.agg [.str a, .fz false shCol l, .str k, .fz false shDep d], .str c] [] K = RT.K (fun v s _ => K v s) (colP_t0r a l k d c) := by kernel_rfl
noncomputable def colP_t0 (a : List UInt8) (l : List D) (k : List UInt8) (d : List D) (c : List UInt8) : RT :=
  RT.br (ixCP_t0_V0 l c && true)
    (okL (Go.Sy.AV.int (IntKind.i64) (ixCP_t0_V1 l c)) [])
    (RT.fail)
theorem colP_t0_m (a : List UInt8) (l : List D) (k : List UInt8) (d : List D) (c : List UInt8) (K : AV → St → Prop) : RT.K (fun v s _ => K v s) (RT.mergeW ([]) (colP_t0r a l k d c)) = RT.K (fun v s _ => K v s) (colP_t0 a l k d c) := by kernel_rfl
theorem colP_t0_b (a : List UInt8) (l : List D) (k : List UInt8) (d : List D) (c : List UInt8) (K : AV → St → Prop) (h : RT.K (fun v s _ => K v s) (colP_t0 a l k d c)) : bodyK Try.prog ixCP_pr noL 100 48 [] [.agg [.str a, .fz false shCol l, .str k, .fz false shDep d], .str c] [] K := Eq.mpr (colP_t0r_b ..) (mergeW_K (S := []) _ ⟨rfl, trivial⟩ (Eq.mpr (colP_t0_m ..) h))
theorem colP_t0_lp (hpr : PrOk Try.prog ixCP_pr) : LoopsFor Try.prog 48 0 noL := loops_none
noncomputable def colP_t1r (a : List UInt8) (n : Nat) (l : List D) (k : List UInt8) (m : Nat) (d : List D) (c : List UInt8) : RT :=
  RT.br (ixCP_t1_V0 n l c)
    (okL (AV.int IntKind.i64 (ixCP_t1_V1 n l c)) ([Ent.tbl false shCol l, Ent.tbl false shDep d]))
    (RT.fail)
theorem colP_t1r_b (a : List UInt8) (n : Nat) (l : List D) (k : List UInt8) (m : Nat) (d : List D) (c : List UInt8) (K : AV → St → Prop) : bodyK Try.prog ixCP_pr noL 100 48 [] [.agg [.str a, .tsl false shCol 0 0 n .tight, .str k, .tsl false shDep 1 0 m .tight], .str c] [.tbl false shCol l, .tbl false shDep d] K = RT.K (fun v s _ => K v s) (colP_t1r a n l k m d c) := by kernel_rfl
noncomputable def colP_t1 (a : List UInt8) (n : Nat) (l : List D) (k : List UInt8) (m : Nat) (d : List D) (c : List UInt8) : RT :=
  RT.br (ixCP_t1_V0 n l c && true)
    (okL (Go.Sy.AV.int (IntKind.i64) (ixCP_t1_V1 n l c)) [(Go.Sy.Ent.tbl (false) shCol l), (Go.Sy.Ent.tbl (false) shDep d)])
    (RT.fail)
theorem colP_t1_m (a : List UInt8) (n : Nat) (l : List D) (k : List UInt8) (m : Nat) (d : List D) (c : List UInt8) (K : AV → St → Prop) : RT.K (fun v s _ => K v s) (RT.mergeW ([Ent.tbl false shCol l, Ent.tbl false shDep d]) (colP_t1r a n l k m d c)) = RT.K (fun v s _ => K v s) (colP_t1 a n l k m d c) := by kernel_rfl
theorem colP_t1_b (a : List UInt8) (n : Nat) (l : List D) (k : List UInt8) (m : Nat) (d : List D) (c : List UInt8) (K : AV → St → Prop) (h : RT.K (fun v s _ => K v s) (colP_t1 a n l k m d c)) : bodyK Try.prog ixCP_pr noL 100 48 [] [.agg [.str a, .tsl false shCol 0 0 n .tight, .str k, .tsl false shDep 1 0 m .tight], .str c] [.tbl false shCol l, .tbl false shDep d] K := Eq.mpr (colP_t1r_b ..) (mergeW_K (S := [Ent.tbl false shCol l, Ent.tbl false shDep d]) _ ⟨rfl, trivial⟩ (Eq.mpr (colP_t1_m ..) h))
theorem colP_t1_lp (hpr : PrOk Try.prog ixCP_pr) : LoopsFor Try.prog 48 2 noL := loops_none
noncomputable def colP : Sy.Spec := ⟨[], fun args s => match args, s with
  | [(.agg [(.str a), (.fz false e_0 l), (.str k), (.fz false e_1 d)]), (.str c)], [] => .br (Sh.beq e_0 shCol && (Sh.beq e_1 shDep && (true))) (colP_t0 a l k d c) .fail
  | [(.agg [(.str a), (.tsl false e_0 e_1 e_2 n .tight), (.str k), (.tsl false e_3 e_4 e_5 m .tight)]), (.str c)], [(.tbl false e_6 l), (.tbl false e_7 d)] => .br (Sh.beq e_0 shCol && (Nat.beq e_1 (0 : Nat) && (Nat.beq e_2 (0 : Nat) && (Sh.beq e_3 shDep && (Nat.beq e_4 (1 : Nat) && (Nat.beq e_5 (0 : Nat) && (Sh.beq e_6 shCol && (Sh.beq e_7 shDep && (true))))))))) (colP_t1 a n l k m d c) .fail
  | _, _ => .fail⟩
theorem colP_ok : SpecOk Try.prog 48 colP.f := specOk_comes fun args s v s' tch e => by
  simp only [colP] at e
  split at e
  · obtain ⟨hg, e⟩ := if_run e
    simp only [Bool.and_eq_true] at hg
    obtain ⟨h_0, h_1, _⟩ := hg
    obtain rfl := Sh.beq_eq _ _ h_0
    obtain rfl := Sh.beq_eq _ _ h_1
    refine comes_of ok ixCP_pr_k (L := 100) (ms := []) (by kernel_rfl) (colP_t0_lp ixCP_pr_k) ?_
    exact colP_t0_b (h := K_run e) ..
  · obtain ⟨hg, e⟩ := if_run e
    simp only [Bool.and_eq_true] at hg
    obtain ⟨h_0, h_1, h_2, h_3, h_4, h_5, h_6, h_7, _⟩ := hg
    obtain rfl := Sh.beq_eq _ _ h_0
    obtain rfl := Nat.eq_of_beq_eq_true h_1
    obtain rfl := Nat.eq_of_beq_eq_true h_2
    obtain rfl := Sh.beq_eq _ _ h_3
    obtain rfl := Nat.eq_of_beq_eq_true h_4
    obtain rfl := Nat.eq_of_beq_eq_true h_5
    obtain rfl := Sh.beq_eq _ _ h_6
    obtain rfl := Sh.beq_eq _ _ h_7
    refine comes_of ok ixCP_pr_k (L := 100) (ms := []) (by kernel_rfl) (colP_t1_lp ixCP_pr_k) ?_
    exact colP_t1_b (h := K_run e) ..
  · cases e
noncomputable def colP_pr : FuncId → Option Sy.Spec := addP 48 colP ixCP_pr
theorem colP_pr_k : PrOk Try.prog colP_pr := prOk_add colP_ok ixCP_pr_k
noncomputable def findP_t0r (n : Nat) (l : List D) (c : List UInt8) : RT :=
  RT.br (ixTP_t0_V0 n l c)
    (RT.br (decide (ixTP_t0_V1 n l c < (0 : Int)))
     (okL (AV.tup [AV.agg [AV.str [], AV.fz false shCol [], AV.str [], AV.fz false shDep []], AV.bool false]) ([Ent.cells [AV.tsl false shTab (1 : Nat) (0 : Nat) n Cap.tight], Ent.tbl false shTab l]))
     (RT.br (decide ((0 : Int) ≤ ixTP_t0_V1 n l c) && decide (ixTP_t0_V1 n l c < (↑n : Int)))
      (RT.br (decide ((0 : Nat) + (ixTP_t0_V1 n l c).toNat < l.length))
       (RT.br (copiedP_t0_V0 ((l.getD ((0 : Nat) + (ixTP_t0_V1 n l c).toNat) D.nul).fld (0 : Nat)).asStr ((l.getD ((0 : Nat) + (ixTP_t0_V1 n l c).toNat) D.nul).fld (1 : Nat)).els ((l.getD ((0 : Nat) + (ixTP_t0_V1 n l c).toNat) D.nul).fld (2 : Nat)).asStr ((l.getD ((0 : Nat) + (ixTP_t0_V1 n l c).toNat) D.nul).fld (3 : Nat)).els)
        (RT.br (((0 : Nat) + ((l.getD ((0 : Nat) + (ixTP_t0_V1 n l c).toNat) D.nul).fld (1 : Nat)).els.length).ble ((l.getD ((0 : Nat) + (ixTP_t0_V1 n l c).toNat) D.nul).fld (1 : Nat)).els.length && (((0 : Nat) + ((l.getD ((0 : Nat) + (ixTP_t0_V1 n l c).toNat) D.nul).fld (3 : Nat)).els.length).ble (copiedP_t0_V1 ((l.getD ((0 : Nat) + (ixTP_t0_V1 n l c).toNat) D.nul).fld (0 : Nat)).asStr ((l.getD ((0 : Nat) + (ixTP_t0_V1 n l c).toNat) D.nul).fld (1 : Nat)).els ((l.getD ((0 : Nat) + (ixTP_t0_V1 n l c).toNat) D.nul).fld (2 : Nat)).asStr ((l.getD ((0 : Nat) + (ixTP_t0_V1 n l c).toNat) D.nul).fld (3 : Nat)).els).length && true) && true)
         (okL (AV.tup [AV.agg [AV.str ((l.getD ((0 : Nat) + (ixTP_t0_V1 n l c).toNat) D.nul).fld (0 : Nat)).asStr, AV.fz false shCol (List.take ((l.getD ((0 : Nat) + (ixTP_t0_V1 n l c).toNat) D.nul).fld (1 : Nat)).els.length (List.drop (0 : Nat) ((l.getD ((0 : Nat) + (ixTP_t0_V1 n l c).toNat) D.nul).fld (1 : Nat)).els)), AV.str ((l.getD ((0 : Nat) + (ixTP_t0_V1 n l c).toNat) D.nul).fld (2 : Nat)).asStr, AV.fz false shDep (List.take ((l.getD ((0 : Nat) + (ixTP_t0_V1 n l c).toNat) D.nul).fld (3 : Nat)).els.length (List.drop (0 : Nat) (copiedP_t0_V1 ((l.getD ((0 : Nat) + (ixTP_t0_V1 n l c).toNat) D.nul).fld (0 : Nat)).asStr ((l.getD ((0 : Nat) + (ixTP_t0_V1 n l c).toNat) D.nul).fld (1 : Nat)).els ((l.getD ((0 : Nat) + (ixTP_t0_V1 n l c).toNat) D.nul).fld (2 : Nat)).asStr ((l.getD ((0 : Nat) + (ixTP_t0_V1 n l c).toNat) D.nul).fld (3 : Nat)).els)))], AV.bool true]) ([Ent.cells [AV.tsl false shTab (1 : Nat) (0 : Nat) n Cap.tight], Ent.tbl false shTab l]))
         (RT.fail))
        (RT.fail))
       (RT.fail))
      (RT.fail)))
    (RT.fail)
theorem findP_t0r_b (n : Nat) (l : List D) (c : List UInt8) (K : AV → St → Prop) : bodyK Try.prog colP_pr noL 100 19 [.data shTab, .keep] [.ptr (some (0, 0)), .str c] [.cells [.tsl false shTab 1 0 n .tight], .tbl false shTab l] K = RT.K (fun v s _ => K v s) (findP_t0r n l c) := by kernel_rfl
noncomputable def findP_t0_V0 (n : Nat) (l : List D) (c : List UInt8) : Bool :=
  ixTP_t0_V0 n l c && bif decide (ixTP_t0_V1 n l c < (0 : Int)) then true else decide ((0 : Int) ≤ ixTP_t0_V1 n l c) && decide (ixTP_t0_V1 n l c < (↑n : Int)) && (decide ((0 : Nat) + (ixTP_t0_V1 n l c).toNat < l.length) && (copiedP_t0_V0 ((l.getD ((0 : Nat) + (ixTP_t0_V1 n l c).toNat) D.nul).fld (0 : Nat)).asStr ((l.getD ((0 : Nat) + (ixTP_t0_V1 n l c).toNat) D.nul).fld (1 : Nat)).els ((l.getD ((0 : Nat) + (ixTP_t0_V1 n l c).toNat) D.nul).fld (2 : Nat)).asStr ((l.getD ((0 : Nat) + (ixTP_t0_V1 n l c).toNat) D.nul).fld (3 : Nat)).els && (((0 : Nat) + ((l.getD ((0 : Nat) + (ixTP_t0_V1 n l c).toNat) D.nul).fld (1 : Nat)).els.length).ble ((l.getD ((0 : Nat) + (ixTP_t0_V1 n l c).toNat) D.nul).fld (1 : Nat)).els.length && (((0 : Nat) + ((l.getD ((0 : Nat) + (ixTP_t0_V1 n l c).toNat) D.nul).fld (3 : Nat)).els.length).ble (copiedP_t0_V1 ((l.getD ((0 : Nat) + (ixTP_t0_V1 n l c).toNat) D.nul).fld (0 : Nat)).asStr ((l.getD ((0 : Nat) + (ixTP_t0_V1 n l c).toNat) D.nul).fld (1 : Nat)).els ((l.getD ((0 : Nat) + (ixTP_t0_V1 n l c).toNat) D.nul).fld (2 : Nat)).asStr ((l.getD ((0 : Nat) + (ixTP_t0_V1 n l c).toNat) D.nul).fld (3 : Nat)).els).length && true) && true && true)))
noncomputable def findP_t0_V1 (n : Nat) (l : List D) (c : List UInt8) : List UInt8 :=
  bif decide (ixTP_t0_V1 n l c < (0 : Int)) then [] else ((l.getD ((0 : Nat) + (ixTP_t0_V1 n l c).toNat) D.nul).fld (0 : Nat)).asStr
noncomputable def findP_t0_V2 (n : Nat) (l : List D) (c : List UInt8) : List D :=
  bif decide (ixTP_t0_V1 n l c < (0 : Int)) then [] else List.take ((l.getD ((0 : Nat) + (ixTP_t0_V1 n l c).toNat) D.nul).fld (1 : Nat)).els.length (List.drop (0 : Nat) ((l.getD ((0 : Nat) + (ixTP_t0_V1 n l c).toNat) D.nul).fld (1 : Nat)).els)
noncomputable def findP_t0_V3 (n : Nat) (l : List D) (c : List UInt8) : List UInt8 :=
  bif decide (ixTP_t0_V1 n l c < (0 : Int)) then [] else ((l.getD ((0 : Nat) + (ixTP_t0_V1 n l c).toNat) D.nul).fld (2 : Nat)).asStr
noncomputable def findP_t0_V4 (n : Nat) (l : List D) (c : List UInt8) : List D :=
  bif decide (ixTP_t0_V1 n l c < (0 : Int)) then [] else List.take ((l.getD ((0 : Nat) + (ixTP_t0_V1 n l c).toNat) D.nul).fld (3 : Nat)).els.length (List.drop (0 : Nat) (copiedP_t0_V1 ((l.getD ((0 : Nat) + (ixTP_t0_V1 n l c).toNat) D.nul).fld (0 : Nat)).asStr ((l.getD ((0 : Nat) + (ixTP_t0_V1 n l c).toNat) D.nul).fld (1 : Nat)).els ((l.getD ((0 : Nat) + (ixTP_t0_V1 n l c).toNat) D.nul).fld (2 : Nat)).asStr ((l.getD ((0 : Nat) + (ixTP_t0_V1 n l c).toNat) D.nul).fld (3 : Nat)).els))
noncomputable def findP_t0_V5 (n : Nat) (l : List D) (c : List UInt8) : Bool :=
  bif decide (ixTP_t0_V1 n l c < (0 : Int)) then false else true
noncomputable def findP_t0 (n : Nat) (l : List D) (c : List UInt8) : RT :=
  RT.br (findP_t0_V0 n l c)
    (okL (Go.Sy.AV.tup [(Go.Sy.AV.agg [(Go.Sy.AV.str (findP_t0_V1 n l c)), (Go.Sy.AV.fz (false) shCol (findP_t0_V2 n l c)), (Go.Sy.AV.str (findP_t0_V3 n l c)), (Go.Sy.AV.fz (false) shDep (findP_t0_V4 n l c))]), (Go.Sy.AV.bool (findP_t0_V5 n l c))]) [(Go.Sy.Ent.cells [(Go.Sy.AV.tsl (false) shTab ((1 : Nat)) ((0 : Nat)) n Go.Sy.Cap.tight)]), (Go.Sy.Ent.tbl (false) shTab l)])
    (RT.fail)
theorem findP_t0_m (n : Nat) (l : List D) (c : List UInt8) (K : AV → St → Prop) : RT.K (fun v s _ => K v s) (RT.mergeW ([Ent.cells [AV.tsl false shTab (1 : Nat) (0 : Nat) n Cap.tight], Ent.tbl false shTab l]) (findP_t0r n l c)) = RT.K (fun v s _ => K v s) (findP_t0 n l c) := by kernel_rfl
theorem findP_t0_b (n : Nat) (l : List D) (c : List UInt8) (K : AV → St → Prop) (h : RT.K (fun v s _ => K v s) (findP_t0 n l c)) : bodyK Try.prog colP_pr noL 100 19 [.data shTab, .keep] [.ptr (some (0, 0)), .str c] [.cells [.tsl false shTab 1 0 n .tight], .tbl false shTab l] K := Eq.mpr (findP_t0r_b ..) (mergeW_K (S := [Ent.cells [AV.tsl false shTab (1 : Nat) (0 : Nat) n Cap.tight], Ent.tbl false shTab l]) _ ⟨⟨rfl, ⟨⟨⟨⟨rfl, trivial⟩, trivial⟩, trivial⟩, trivial⟩⟩, trivial⟩ (Eq.mpr (findP_t0_m ..) h))
theorem findP_t0_lp (hpr : PrOk Try.prog colP_pr) : LoopsFor Try.prog 19 2 noL := loops_none
noncomputable def findP : Sy.Spec := ⟨[], fun args s => match args, s with
  | [(.ptr (.some (e_0, e_1))), (.str c)], [(.cells [(.tsl false e_2 e_3 e_4 n .tight)]), (.tbl false e_5 l)] => .br (Nat.beq e_0 (0 : Nat) && (Nat.beq e_1 (0 : Nat) && (Sh.beq e_2 shTab && (Nat.beq e_3 (1 : Nat) && (Nat.beq e_4 (0 : Nat) && (Sh.beq e_5 shTab && (true))))))) (findP_t0 n l c) .fail
  | _, _ => .fail⟩
theorem findP_ok : SpecOk Try.prog 19 findP.f := specOk_comes fun args s v s' tch e => by
  simp only [findP] at e
  split at e
  · obtain ⟨hg, e⟩ := if_run e
    simp only [Bool.and_eq_true] at hg
    obtain ⟨h_0, h_1, h_2, h_3, h_4, h_5, _⟩ := hg
    obtain rfl := Nat.eq_of_beq_eq_true h_0
    obtain rfl := Nat.eq_of_beq_eq_true h_1
    obtain rfl := Sh.beq_eq _ _ h_2
    obtain rfl := Nat.eq_of_beq_eq_true h_3
    obtain rfl := Nat.eq_of_beq_eq_true h_4
    obtain rfl := Sh.beq_eq _ _ h_5
    refine comes_of ok colP_pr_k (L := 100) (ms := [.data shTab, .keep]) (by kernel_rfl) (findP_t0_lp colP_pr_k) ?_
    exact findP_t0_b (h := K_run e) ..
  · cases e
noncomputable def findP_pr : FuncId → Option Sy.Spec := addP 19 findP colP_pr
theorem findP_pr_k : PrOk Try.prog findP_pr := prOk_add findP_ok colP_pr_k
noncomputable def scolP_t0r (n : Nat) (l : List D) (c0 : List UInt8) (c1 : List UInt8) : RT :=
  RT.br (findP_t0_V0 n l c0)
    (RT.br (ixCP_t0_V0 (findP_t0_V2 n l c0) c1 && true)
     (RT.br (decide (ixCP_t0_V1 (findP_t0_V2 n l c0) c1 < (0 : Int)))
      (okL (AV.tup [AV.agg [AV.str [], AV.int IntKind.i64 (0 : Int), AV.bool false, AV.str []], AV.bool false]) ([Ent.cells [AV.tsl false shTab (1 : Nat) (0 : Nat) n Cap.tight], Ent.tbl false shTab l]))
      (RT.br (decide ((0 : Int) ≤ ixCP_t0_V1 (findP_t0_V2 n l c0) c1) && decide (ixCP_t0_V1 (findP_t0_V2 n l c0) c1 < (↑(findP_t0_V2 n l c0).length : Int)))
       (okL (AV.tup [AV.agg [AV.str (((findP_t0_V2 n l c0).getD (ixCP_t0_V1 (findP_t0_V2 n l c0) c1).toNat D.nul).fld (0 : Nat)).asStr, AV.int IntKind.i64 (((findP_t0_V2 n l c0).getD (ixCP_t0_V1 (findP_t0_V2 n l c0) c1).toNat D.nul).fld (1 : Nat)).asInt, AV.bool (((findP_t0_V2 n l c0).getD (ixCP_t0_V1 (findP_t0_V2 n l c0) c1).toNat D.nul).fld (2 : Nat)).asBool, AV.str (((findP_t0_V2 n l c0).getD (ixCP_t0_V1 (findP_t0_V2 n l c0) c1).toNat D.nul).fld (3 : Nat)).asStr], AV.bool true]) ([Ent.cells [AV.tsl false shTab (1 : Nat) (0 : Nat) n Cap.tight], Ent.tbl false shTab l]))
       (RT.fail)))
     (RT.fail))
    (RT.fail)
theorem scolP_t0r_b (n : Nat) (l : List D) (c0 : List UInt8) (c1 : List UInt8) (K : AV → St → Prop) : bodyK Try.prog findP_pr noL 100 22 [] [.ptr (some (0, 0)), .str c0, .str c1] [.cells [.tsl false shTab 1 0 n .tight], .tbl false shTab l] K = RT.K (fun v s _ => K v s) (scolP_t0r n l c0 c1) := by kernel_rfl
noncomputable def scolP_t0_V0 (n : Nat) (l : List D) (c0 : List UInt8) (c1 : List UInt8) : Bool :=
  findP_t0_V0 n l c0 && (ixCP_t0_V0 (findP_t0_V2 n l c0) c1 && true && bif decide (ixCP_t0_V1 (findP_t0_V2 n l c0) c1 < (0 : Int)) then true else decide ((0 : Int) ≤ ixCP_t0_V1 (findP_t0_V2 n l c0) c1) && decide (ixCP_t0_V1 (findP_t0_V2 n l c0) c1 < (↑(findP_t0_V2 n l c0).length : Int)) && true)
noncomputable def scolP_t0_V1 (n : Nat) (l : List D) (c0 : List UInt8) (c1 : List UInt8) : List UInt8 :=
  bif decide (ixCP_t0_V1 (findP_t0_V2 n l c0) c1 < (0 : Int)) then [] else (((findP_t0_V2 n l c0).getD (ixCP_t0_V1 (findP_t0_V2 n l c0) c1).toNat D.nul).fld (0 : Nat)).asStr
noncomputable def scolP_t0_V2 (n : Nat) (l : List D) (c0 : List UInt8) (c1 : List UInt8) : Int :=
  bif decide (ixCP_t0_V1 (findP_t0_V2 n l c0) c1 < (0 : Int)) then (0 : Int) else (((findP_t0_V2 n l c0).getD (ixCP_t0_V1 (findP_t0_V2 n l c0) c1).toNat D.nul).fld (1 : Nat)).asInt
noncomputable def scolP_t0_V3 (n : Nat) (l : List D) (c0 : List UInt8) (c1 : List UInt8) : Bool :=
  bif decide (ixCP_t0_V1 (findP_t0_V2 n l c0) c1 < (0 : Int)) then false else (((findP_t0_V2 n l c0).getD (ixCP_t0_V1 (findP_t0_V2 n l c0) c1).toNat D.nul).fld (2 : Nat)).asBool
noncomputable def scolP_t0_V4 (n : Nat) (l : List D) (c0 : List UInt8) (c1 : List UInt8) : List UInt8 :=
  bif decide (ixCP_t0_V1 (findP_t0_V2 n l c0) c1 < (0 : Int)) then [] else (((findP_t0_V2 n l c0).getD (ixCP_t0_V1 (findP_t0_V2 n l c0) c1).toNat D.nul).fld (3 : Nat)).asStr
noncomputable def scolP_t0_V5 (n : Nat) (l : List D) (c0 : List UInt8) (c1 : List UInt8) : Bool :=
  bif decide (ixCP_t0_V1 (findP_t0_V2 n l c0) c1 < (0 : Int)) then false else true
noncomputable def scolP_t0 (n : Nat) (l : List D) (c0 : List UInt8) (c1 : List UInt8) : RT :=
  RT.br (scolP_t0_V0 n l c0 c1)
    (okL (Go.Sy.AV.tup [(Go.Sy.AV.agg [(Go.Sy.AV.str (scolP_t0_V1 n l c0 c1)), (Go.Sy.AV.int (IntKind.i64) (scolP_t0_V2 n l c0 c1)), (Go.Sy.AV.bool (scolP_t0_V3 n l c0 c1)), (Go.Sy.AV.str (scolP_t0_V4 n l c0 c1))]), (Go.Sy.AV.bool (scolP_t0_V5 n l c0 c1))]) [(Go.Sy.Ent.cells [(Go.Sy.AV.tsl (false) shTab ((1 : Nat)) ((0 : Nat)) n Go.Sy.Cap.tight)]), (Go.Sy.Ent.tbl (false) shTab l)])
    (RT.fail)
theorem scolP_t0_m (n : Nat) (l : List D) (c0 : List UInt8) (c1 : List UInt8) (K : AV → St → Prop) : RT.K (fun v s _ => K v s) (RT.mergeW ([Ent.cells [AV.tsl false shTab (1 : Nat) (0 : Nat) n Cap.tight], Ent.tbl false shTab l]) (scolP_t0r n l c0 c1)) = RT.K (fun v s _ => K v s) (scolP_t0 n l c0 c1) := by kernel_rfl
theorem scolP_t0_b (n : Nat) (l : List D) (c0 : List UInt8) (c1 : List UInt8) (K : AV → St → Prop) (h : RT.K (fun v s _ => K v s) (scolP_t0 n l c0 c1)) : bodyK Try.prog findP_pr noL 100 22 [] [.ptr (some (0, 0)), .str c0, .str c1] [.cells [.tsl false shTab 1 0 n .tight], .tbl false shTab l] K := Eq.mpr (scolP_t0r_b ..) (mergeW_K (S := [Ent.cells [AV.tsl false shTab (1 : Nat) (0 : Nat) n Cap.tight], Ent.tbl false shTab l]) _ ⟨⟨⟨rfl, ⟨rfl, trivial⟩⟩, trivial⟩, trivial⟩ (Eq.mpr (scolP_t0_m ..) h))
theorem scolP_t0_lp (hpr : PrOk Try.prog findP_pr) : LoopsFor Try.prog 22 2 noL := loops_none
noncomputable def scolP : Sy.Spec := ⟨[], fun args s => match args, s with
  | [(.ptr (.some (e_0, e_1))), (.str c0), (.str c1)], [(.cells [(.tsl false e_2 e_3 e_4 n .tight)]), (.tbl false e_5 l)] => .br (Nat.beq e_0 (0 : Nat) && (Nat.beq e_1 (0 : Nat) && (Sh.beq e_2 shTab && (Nat.beq e_3 (1 : Nat) && (Nat.beq e_4 (0 : Nat) && (Sh.beq e_5 shTab && (true))))))) (scolP_t0 n l c0 c1) .fail
  | _, _ => .fail⟩
theorem scolP_ok : SpecOk Try.prog 22 scolP.f := specOk_comes fun args s v s' tch e => by
  simp only [scolP] at e
  split at e
  · obtain ⟨hg, e⟩ := if_run e
    simp only [Bool.and_eq_true] at hg
    obtain ⟨h_0, h_1, h_2, h_3, h_4, h_5, _⟩ := hg
    obtain rfl := Nat.eq_of_beq_eq_true h_0
    obtain rfl := Nat.eq_of_beq_eq_true h_1
    obtain rfl := Sh.beq_eq _ _ h_2
    obtain rfl := Nat.eq_of_beq_eq_true h_3
    obtain rfl := Nat.eq_of_beq_eq_true h_4
    obtain rfl := Sh.beq_eq _ _ h_5
    refine comes_of ok findP_pr_k (L := 100) (ms := []) (by kernel_rfl) (scolP_t0_lp findP_pr_k) ?_
    exact scolP_t0_b (h := K_run e) ..
  · cases e
noncomputable def scolP_pr : FuncId → Option Sy.Spec := addP 22 scolP findP_pr
theorem scolP_pr_k : PrOk Try.prog scolP_pr := prOk_add scolP_ok findP_pr_k
noncomputable def namesP_t0_L0_T (n0 : Nat) (i1 : Int) (n2 : Nat) (l3 : List D) (n4 : Nat) (i5 : Int) (l6 : List D) : List AV := ([.any, .any, .any, AV.tsl false Sh.str (2 : Nat) (0 : Nat) n4 Cap.tight, .any, .any, .any, .any, .any, .any, .any, AV.tsl false shTab (1 : Nat) (0 : Nat) n0 Cap.tight, AV.int IntKind.i64 i1, AV.int IntKind.i64 i5] ++ padAny 10)
noncomputable def namesP_t0_L0_S (n0 : Nat) (i1 : Int) (n2 : Nat) (l3 : List D) (n4 : Nat) (i5 : Int) (l6 : List D) : St := [Ent.cells [AV.tsl false shTab (1 : Nat) (0 : Nat) n2 Cap.tight], Ent.tbl false shTab l3, Ent.tbl false Sh.str l6]
noncomputable def namesP_t0_L0_of : List AV → St → Option ((Nat × Int × Nat × (List D)) × (Nat × Int × (List D))) := fun t s => match t, s with
  | .any :: .any :: .any :: (.tsl false e_0 e_1 e_2 n4 .tight) :: t_0, [(.cells [(.tsl false e_6 e_7 e_8 n2 .tight)]), (.tbl false e_9 l3), (.tbl false e_10 l6)] => (match dropAny 7 t_0 with
    | some ((.tsl false e_3 e_4 e_5 n0 .tight) :: (.int .i64 i1) :: (.int .i64 i5) :: t_1) => (match dropAny 10 t_1 with
    | some ([]) => (match Sh.beq e_0 (Sh.str) && (Nat.beq e_1 (2 : Nat) && (Nat.beq e_2 (0 : Nat) && (Sh.beq e_3 shTab && (Nat.beq e_4 (1 : Nat) && (Nat.beq e_5 (0 : Nat) && (Sh.beq e_6 shTab && (Nat.beq e_7 (1 : Nat) && (Nat.beq e_8 (0 : Nat) && (Sh.beq e_9 shTab && (Sh.beq e_10 (Sh.str) && (true))))))))))) with | true => some ((n0, i1, n2, l3), (n4, i5, l6)) | false => none)
    | _ => none)
    | _ => none)
  | _, _ => none
noncomputable def namesP_t0_L0_ex (i : Nat × Int × Nat × (List D)) (y : Nat × (List D)) (k : KS) : Prop := let n0 := i.1; let i1 := i.2.1; let n2 := i.2.2.1; let l3 := i.2.2.2; let ny9 := y.1; let ly10 := y.2; k (Ex.normal) ([.any, .any, .any, AV.tsl false Sh.str (2 : Nat) (0 : Nat) ny9 Cap.tight] ++ padAny 20) [Ent.cells [AV.tsl false shTab (1 : Nat) (0 : Nat) n2 Cap.tight], Ent.tbl false shTab l3, Ent.tbl false Sh.str ly10]
theorem namesP_t0_L0_of_ok : ∀ t s (i : Nat × Int × Nat × (List D)) (x : Nat × Int × (List D)), namesP_t0_L0_of t s = some (i, x) → t = namesP_t0_L0_T i.1 i.2.1 i.2.2.1 i.2.2.2 x.1 x.2.1 x.2.2 ∧ s = namesP_t0_L0_S i.1 i.2.1 i.2.2.1 i.2.2.2 x.1 x.2.1 x.2.2 := by
  intro t s i x h
  unfold namesP_t0_L0_of at h
  split at h
  · split at h
    · rename_i ha
      obtain rfl := dropAny_eq ha
      split at h
      · rename_i ha
        obtain rfl := dropAny_eq ha
        split at h
        · rename_i hg
          cases h
          simp only [Bool.and_eq_true] at hg
          obtain ⟨h_0, h_1, h_2, h_3, h_4, h_5, h_6, h_7, h_8, h_9, h_10, _⟩ := hg
          obtain rfl := Sh.beq_eq _ _ h_0
          obtain rfl := Nat.eq_of_beq_eq_true h_1
          obtain rfl := Nat.eq_of_beq_eq_true h_2
          obtain rfl := Sh.beq_eq _ _ h_3
          obtain rfl := Nat.eq_of_beq_eq_true h_4
          obtain rfl := Nat.eq_of_beq_eq_true h_5
          obtain rfl := Sh.beq_eq _ _ h_6
          obtain rfl := Nat.eq_of_beq_eq_true h_7
          obtain rfl := Nat.eq_of_beq_eq_true h_8
          obtain rfl := Sh.beq_eq _ _ h_9
          obtain rfl := Sh.beq_eq _ _ h_10
          exact ⟨rfl, rfl⟩
        · cases h
      · cases h
    · cases h
  · cases h
noncomputable def namesP_t0_L0_stp (n0 : Nat) (i1 : Int) (n2 : Nat) (l3 : List D) (n4 : Nat) (i5 : Int) (l6 : List D) : NT (Nat × Int × (List D)) (Nat × (List D)) :=
  NT.br (decide (i5 < i1))
    (NT.br (decide ((0 : Int) ≤ i5) && decide (i5 < (↑n0 : Int)))
     (NT.br (decide ((0 : Nat) + i5.toNat < l3.length))
      (NT.br ((((3 : Nat) * (n4 + (1 : Nat)) + (2000 : Nat)) * (16 : Nat)).ble (281474976710656 : Nat) && ((0 : Nat) + n4).ble l6.length)
       (NT.more (n4 + (1 : Nat), IntKind.i64.wrap (i5 + (1 : Int)), List.take n4 (List.drop (0 : Nat) l6) ++ [D.str ((l3.getD ((0 : Nat) + i5.toNat) D.nul).fld (0 : Nat)).asStr]))
       (NT.fail))
      (NT.fail))
     (NT.fail))
    (NT.done (n4, l6))
noncomputable def namesP_t0_L0 (i : Nat × Int × Nat × (List D)) (x : Nat × Int × (List D)) := namesP_t0_L0_stp i.1 i.2.1 i.2.2.1 i.2.2.2 x.1 x.2.1 x.2.2
theorem namesP_t0_L0_rd (n0 : Nat) (i1 : Int) (n2 : Nat) (l3 : List D) (n4 : Nat) (i5 : Int) (l6 : List D) (more : List AV → St → Prop) (kk : KS) : roundK Try.prog scolP_pr noL 100 18 0 (namesP_t0_L0_T n0 i1 n2 l3 n4 i5 l6) (namesP_t0_L0_S n0 i1 n2 l3 n4 i5 l6) (againK 2 0 [.no, .no, .no, .bld (Sh.str), .no, .no, .no, .no, .no, .no, .no, .yes, .yes, .yes] [.no, .no, .yes, .bld (Sh.str)] more kk) = (namesP_t0_L0_stp n0 i1 n2 l3 n4 i5 l6).K (fun x' => more (namesP_t0_L0_T n0 i1 n2 l3 x'.1 x'.2.1 x'.2.2) (namesP_t0_L0_S n0 i1 n2 l3 x'.1 x'.2.1 x'.2.2)) (fun y => namesP_t0_L0_ex (n0, i1, n2, l3) y kk) := by kernel_rfl
noncomputable def namesP_t0_L0_LP : Nat → Option LoopS := addL 0 (headG 2 [.no, .no, .no, .bld (Sh.str), .no, .no, .no, .no, .no, .no, .no, .yes, .yes, .yes] (outL namesP_t0_L0 namesP_t0_L0_of namesP_t0_L0_ex)) noL
theorem namesP_t0_L0_lp (hpr : PrOk Try.prog scolP_pr) : LoopsFor Try.prog 18 2 namesP_t0_L0_LP := loops_lp (L := 100) (T := fun i x => namesP_t0_L0_T i.1 i.2.1 i.2.2.1 i.2.2.2 x.1 x.2.1 x.2.2) (S := fun i x => namesP_t0_L0_S i.1 i.2.1 i.2.2.1 i.2.2.2 x.1 x.2.1 x.2.2) ok hpr (by kernel_rfl) loops_none namesP_t0_L0_of_ok (fun i x more kk => namesP_t0_L0_rd i.1 i.2.1 i.2.2.1 i.2.2.2 x.1 x.2.1 x.2.2 more kk)
noncomputable def namesP_t0r (n : Nat) (l : List D) : RT :=
  RT.br (loopOk (namesP_t0_L0 (n, (↑n : Int), n, l)) ((0 : Nat), (0 : Int), []))
    (RT.br (((0 : Nat) + (loopV (namesP_t0_L0 (n, (↑n : Int), n, l)) ((0 : Nat), (0 : Int), [])).fst).ble (loopV (namesP_t0_L0 (n, (↑n : Int), n, l)) ((0 : Nat), (0 : Int), [])).snd.length && true)
     (okL (AV.fz false Sh.str (List.take (loopV (namesP_t0_L0 (n, (↑n : Int), n, l)) ((0 : Nat), (0 : Int), [])).fst (List.drop (0 : Nat) (loopV (namesP_t0_L0 (n, (↑n : Int), n, l)) ((0 : Nat), (0 : Int), [])).snd))) ([Ent.cells [AV.tsl false shTab (1 : Nat) (0 : Nat) n Cap.tight], Ent.tbl false shTab l]))
     (RT.fail))
    (RT.fail)
theorem namesP_t0r_b (n : Nat) (l : List D) (K : AV → St → Prop) : bodyK Try.prog scolP_pr namesP_t0_L0_LP 100 18 [.data (.slice .str)] [.ptr (some (0, 0))] [.cells [.tsl false shTab 1 0 n .tight], .tbl false shTab l] K = RT.K (fun v s _ => K v s) (namesP_t0r n l) := by kernel_rfl
noncomputable def namesP_t0_V0 (n : Nat) (l : List D) : Bool :=
  loopOk (namesP_t0_L0 (n, (↑n : Int), n, l)) ((0 : Nat), (0 : Int), []) && (((0 : Nat) + (loopV (namesP_t0_L0 (n, (↑n : Int), n, l)) ((0 : Nat), (0 : Int), [])).fst).ble (loopV (namesP_t0_L0 (n, (↑n : Int), n, l)) ((0 : Nat), (0 : Int), [])).snd.length && true && true)
noncomputable def namesP_t0_V1 (n : Nat) (l : List D) : List D :=
  List.take (loopV (namesP_t0_L0 (n, (↑n : Int), n, l)) ((0 : Nat), (0 : Int), [])).fst (List.drop (0 : Nat) (loopV (namesP_t0_L0 (n, (↑n : Int), n, l)) ((0 : Nat), (0 : Int), [])).snd)
noncomputable def namesP_t0 (n : Nat) (l : List D) : RT :=
  RT.br (namesP_t0_V0 n l)
    (okL (Go.Sy.AV.fz (false) (Sh.str) (namesP_t0_V1 n l)) [(Go.Sy.Ent.cells [(Go.Sy.AV.tsl (false) shTab ((1 : Nat)) ((0 : Nat)) n Go.Sy.Cap.tight)]), (Go.Sy.Ent.tbl (false) shTab l)])
    (RT.fail)
theorem namesP_t0_m (n : Nat) (l : List D) (K : AV → St → Prop) : RT.K (fun v s _ => K v s) (RT.mergeW ([Ent.cells [AV.tsl false shTab (1 : Nat) (0 : Nat) n Cap.tight], Ent.tbl false shTab l]) (namesP_t0r n l)) = RT.K (fun v s _ => K v s) (namesP_t0 n l) := by kernel_rfl
theorem namesP_t0_b (n : Nat) (l : List D) (K : AV → St → Prop) (h : RT.K (fun v s _ => K v s) (namesP_t0 n l)) : bodyK Try.prog scolP_pr namesP_t0_L0_LP 100 18 [.data (.slice .str)] [.ptr (some (0, 0))] [.cells [.tsl false shTab 1 0 n .tight], .tbl false shTab l] K := Eq.mpr (namesP_t0r_b ..) (mergeW_K (S := [Ent.cells [AV.tsl false shTab (1 : Nat) (0 : Nat) n Cap.tight], Ent.tbl false shTab l]) _ ⟨⟨rfl, trivial⟩, trivial⟩ (Eq.mpr (namesP_t0_m ..) h))
theorem namesP_t0_lp (hpr : PrOk Try.prog scolP_pr) : LoopsFor Try.prog 18 2 namesP_t0_L0_LP := (namesP_t0_L0_lp hpr)
noncomputable def namesP : Sy.Spec := ⟨[], fun args s => match args, s with
  | [(.ptr (.some (e_0, e_1)))], [(.cells [(.tsl false e_2 e_3 e_4 n .tight)]), (.tbl false e_5 l)] => .br (Nat.beq e_0 (0 : Nat) && (Nat.beq e_1 (0 : Nat) && (Sh.beq e_2 shTab && (Nat.beq e_3 (1 : Nat) && (Nat.beq e_4 (0 : Nat) && (Sh.beq e_5 shTab && (true))))))) (namesP_t0 n l) .fail
  | _, _ => .fail⟩
theorem namesP_ok : SpecOk Try.prog 18 namesP.f := specOk_comes fun args s v s' tch e => by
  simp only [namesP] at e
  split at e
  · obtain ⟨hg, e⟩ := if_run e
    simp only [Bool.and_eq_true] at hg
    obtain ⟨h_0, h_1, h_2, h_3, h_4, h_5, _⟩ := hg
    obtain rfl := Nat.eq_of_beq_eq_true h_0
    obtain rfl := Nat.eq_of_beq_eq_true h_1
    obtain rfl := Sh.beq_eq _ _ h_2
    obtain rfl := Nat.eq_of_beq_eq_true h_3
    obtain rfl := Nat.eq_of_beq_eq_true h_4
    obtain rfl := Sh.beq_eq _ _ h_5
    refine comes_of ok scolP_pr_k (L := 100) (ms := [.data (.slice .str)]) (by kernel_rfl) (namesP_t0_lp scolP_pr_k) ?_
    exact namesP_t0_b (h := K_run e) ..
  · cases e
noncomputable def namesP_pr : FuncId → Option Sy.Spec := addP 18 namesP scolP_pr
theorem namesP_pr_k : PrOk Try.prog namesP_pr := prOk_add namesP_ok scolP_pr_k
noncomputable def idxSP_t0_L0_T (l0 : List D) (c1 : List UInt8) (i2 : Int) (i3 : Int) : List AV := ([AV.fz false Sh.str l0, AV.str c1, .any, .any, .any, .any, .any, AV.int IntKind.i64 i2, AV.int IntKind.i64 i3] ++ padAny 10)
noncomputable def idxSP_t0_L0_S (l0 : List D) (c1 : List UInt8) (i2 : Int) (i3 : Int) : St := []
noncomputable def idxSP_t0_L0_of : List AV → St → Option (((List D) × (List UInt8) × Int) × (Int)) := fun t s => match t, s with
  | (.fz false e_0 l0) :: (.str c1) :: t_0, [] => (match dropAny 5 t_0 with
    | some ((.int .i64 i2) :: (.int .i64 i3) :: t_1) => (match dropAny 10 t_1 with
    | some ([]) => (match Sh.beq e_0 (Sh.str) && (true) with | true => some ((l0, c1, i2), (i3)) | false => none)
    | _ => none)
    | _ => none)
  | _, _ => none
noncomputable def idxSP_t0_L0_ex (i : (List D) × (List UInt8) × Int) (y : Nat × Int) (k : KS) : Prop := let l0 := i.1; let c1 := i.2.1; let i2 := i.2.2; let tag := y.1; let iy5 := y.2; br (Nat.beq tag 0) (k (Ex.ret) ([.any, .any, .any, .any, AV.int IntKind.i64 iy5] ++ padAny 14) []) (br (Nat.beq tag 1) (k (Ex.normal) ([.any] ++ padAny 18) []) (False))
theorem idxSP_t0_L0_of_ok : ∀ t s (i : (List D) × (List UInt8) × Int) (x : Int), idxSP_t0_L0_of t s = some (i, x) → t = idxSP_t0_L0_T i.1 i.2.1 i.2.2 x ∧ s = idxSP_t0_L0_S i.1 i.2.1 i.2.2 x := by
  intro t s i x h
  unfold idxSP_t0_L0_of at h
  split at h
  · split at h
    · rename_i ha
      obtain rfl := dropAny_eq ha
      split at h
      · rename_i ha
        obtain rfl := dropAny_eq ha
        split at h
        · rename_i hg
          cases h
          simp only [Bool.and_eq_true] at hg
          obtain ⟨h_0, _⟩ := hg
          obtain rfl := Sh.beq_eq _ _ h_0
          exact ⟨rfl, rfl⟩
        · cases h
      · cases h
    · cases h
  · cases h
noncomputable def idxSP_t0_L0_stp (l0 : List D) (c1 : List UInt8) (i2 : Int) (i3 : Int) : NT (Int) (Nat × Int) :=
  NT.br (decide (i3 < i2))
    (NT.br (decide ((0 : Int) ≤ i3) && decide (i3 < (↑l0.length : Int)))
     (NT.br (eqBytes c1 (l0.getD i3.toNat D.nul).asStr)
      (NT.done (0, i3))
      (NT.more (IntKind.i64.wrap (i3 + (1 : Int)))))
     (NT.fail))
    (NT.done (1, 0))
noncomputable def idxSP_t0_L0 (i : (List D) × (List UInt8) × Int) (x : Int) := idxSP_t0_L0_stp i.1 i.2.1 i.2.2 x
theorem idxSP_t0_L0_rd (l0 : List D) (c1 : List UInt8) (i2 : Int) (i3 : Int) (more : List AV → St → Prop) (kk : KS) : roundK Try.prog namesP_pr noL 100 110 0 (idxSP_t0_L0_T l0 c1 i2 i3) (idxSP_t0_L0_S l0 c1 i2 i3) (againK 0 0 [.yes, .yes, .no, .no, .no, .no, .no, .yes, .yes] [.no, .no, .no, .no, .yes] more kk) = (idxSP_t0_L0_stp l0 c1 i2 i3).K (fun x' => more (idxSP_t0_L0_T l0 c1 i2 x') (idxSP_t0_L0_S l0 c1 i2 x')) (fun y => idxSP_t0_L0_ex (l0, c1, i2) y kk) := by kernel_rfl
noncomputable def idxSP_t0_L0_LP : Nat → Option LoopS := addL 0 (headG 0 [.yes, .yes, .no, .no, .no, .no, .no, .yes, .yes] (outL idxSP_t0_L0 idxSP_t0_L0_of idxSP_t0_L0_ex)) noL
theorem idxSP_t0_L0_lp (hpr : PrOk Try.prog namesP_pr) : LoopsFor Try.prog 110 0 idxSP_t0_L0_LP := loops_lp (L := 100) (T := fun i x => idxSP_t0_L0_T i.1 i.2.1 i.2.2 x) (S := fun i x => idxSP_t0_L0_S i.1 i.2.1 i.2.2 x) ok hpr (by kernel_rfl) loops_none idxSP_t0_L0_of_ok (fun i x more kk => idxSP_t0_L0_rd i.1 i.2.1 i.2.2 x more kk)
noncomputable def idxSP_t0r (l0 : List D) (c1 : List UInt8) : RT :=
  RT.br (loopOk (idxSP_t0_L0 (l0, c1, (↑l0.length : Int))) (0 : Int))
    (RT.br ((loopV (idxSP_t0_L0 (l0, c1, (↑l0.length : Int))) (0 : Int)).fst.beq (0 : Nat))
     (okL (AV.int IntKind.i64 (loopV (idxSP_t0_L0 (l0, c1, (↑l0.length : Int))) (0 : Int)).snd) ([]))
     (RT.br ((loopV (idxSP_t0_L0 (l0, c1, (↑l0.length : Int))) (0 : Int)).fst.beq (1 : Nat))
      (okL (AV.int IntKind.i64 (-1 : Int)) ([]))
      (RT.fail)))
    (RT.fail)
theorem idxSP_t0r_b (l0 : List D) (c1 : List UInt8) (K : AV → St → Prop) : bodyK Try.prog namesP_pr idxSP_t0_L0_LP 100 110 [] [.fz false .str l0, .str c1] [] K = RT.K (fun v s _ => K v s) (idxSP_t0r l0 c1) := by kernel_rfl
noncomputable def idxSP_t0_V0 (l0 : List D) (c1 : List UInt8) : Bool :=
  loopOk (idxSP_t0_L0 (l0, c1, (↑l0.length : Int))) (0 : Int) && bif (loopV (idxSP_t0_L0 (l0, c1, (↑l0.length : Int))) (0 : Int)).fst.beq (0 : Nat) then true else (loopV (idxSP_t0_L0 (l0, c1, (↑l0.length : Int))) (0 : Int)).fst.beq (1 : Nat) && true
noncomputable def idxSP_t0_V1 (l0 : List D) (c1 : List UInt8) : Int :=
  bif (loopV (idxSP_t0_L0 (l0, c1, (↑l0.length : Int))) (0 : Int)).fst.beq (0 : Nat) then (loopV (idxSP_t0_L0 (l0, c1, (↑l0.length : Int))) (0 : Int)).snd else (-1 : Int)
noncomputable def idxSP_t0 (l0 : List D) (c1 : List UInt8) : RT :=
  RT.br (idxSP_t0_V0 l0 c1)
    (okL (Go.Sy.AV.int (IntKind.i64) (idxSP_t0_V1 l0 c1)) [])
    (RT.fail)
theorem idxSP_t0_m (l0 : List D) (c1 : List UInt8) (K : AV → St → Prop) : RT.K (fun v s _ => K v s) (RT.mergeW ([]) (idxSP_t0r l0 c1)) = RT.K (fun v s _ => K v s) (idxSP_t0 l0 c1) := by kernel_rfl
theorem idxSP_t0_b (l0 : List D) (c1 : List UInt8) (K : AV → St → Prop) (h : RT.K (fun v s _ => K v s) (idxSP_t0 l0 c1)) : bodyK Try.prog namesP_pr idxSP_t0_L0_LP 100 110 [] [.fz false .str l0, .str c1] [] K := Eq.mpr (idxSP_t0r_b ..) (mergeW_K (S := []) _ ⟨⟨rfl, ⟨rfl, trivial⟩⟩, trivial⟩ (Eq.mpr (idxSP_t0_m ..) h))
theorem idxSP_t0_lp (hpr : PrOk Try.prog namesP_pr) : LoopsFor Try.prog 110 0 idxSP_t0_L0_LP := (idxSP_t0_L0_lp hpr)
noncomputable def idxSP : Sy.Spec := ⟨[.data (.slice .str), .keep], fun args s => match args, s with
  | [(.fz false e_0 l0), (.str c1)], [] => .br (Sh.beq e_0 (Sh.str) && (true)) (idxSP_t0 l0 c1) .fail
  | _, _ => .fail⟩
theorem idxSP_ok : SpecOk Try.prog 110 idxSP.f := specOk_comes fun args s v s' tch e => by
  simp only [idxSP] at e
  split at e
  · obtain ⟨hg, e⟩ := if_run e
    simp only [Bool.and_eq_true] at hg
    obtain ⟨h_0, _⟩ := hg
    obtain rfl := Sh.beq_eq _ _ h_0
    refine comes_of ok namesP_pr_k (L := 100) (ms := []) (by kernel_rfl) (idxSP_t0_lp namesP_pr_k) ?_
    exact idxSP_t0_b (h := K_run e) ..
  · cases e
noncomputable def idxSP_pr : FuncId → Option Sy.Spec := addP 110 idxSP namesP_pr
theorem idxSP_pr_k : PrOk Try.prog idxSP_pr := prOk_add idxSP_ok namesP_pr_k
noncomputable def contSP_t0r (l0 : List D) (c1 : List UInt8) : RT :=
  RT.br (idxSP_t0_V0 l0 c1)
    (okL (AV.bool (decide (idxSP_t0_V1 l0 c1 ≥ (0 : Int)))) ([]))
    (RT.fail)
theorem contSP_t0r_b (l0 : List D) (c1 : List UInt8) (K : AV → St → Prop) : bodyK Try.prog idxSP_pr noL 100 92 [] [.fz false .str l0, .str c1] [] K = RT.K (fun v s _ => K v s) (contSP_t0r l0 c1) := by kernel_rfl
noncomputable def contSP_t0_V0 (l0 : List D) (c1 : List UInt8) : Bool :=
  idxSP_t0_V0 l0 c1 && true
noncomputable def contSP_t0_V1 (l0 : List D) (c1 : List UInt8) : Bool :=
  decide (idxSP_t0_V1 l0 c1 ≥ (0 : Int))
noncomputable def contSP_t0 (l0 : List D) (c1 : List UInt8) : RT :=
  RT.br (contSP_t0_V0 l0 c1)
    (okL (Go.Sy.AV.bool (contSP_t0_V1 l0 c1)) [])
    (RT.fail)
theorem contSP_t0_m (l0 : List D) (c1 : List UInt8) (K : AV → St → Prop) : RT.K (fun v s _ => K v s) (RT.mergeW ([]) (contSP_t0r l0 c1)) = RT.K (fun v s _ => K v s) (contSP_t0 l0 c1) := by kernel_rfl
theorem contSP_t0_b (l0 : List D) (c1 : List UInt8) (K : AV → St → Prop) (h : RT.K (fun v s _ => K v s) (contSP_t0 l0 c1)) : bodyK Try.prog idxSP_pr noL 100 92 [] [.fz false .str l0, .str c1] [] K := Eq.mpr (contSP_t0r_b ..) (mergeW_K (S := []) _ ⟨rfl, trivial⟩ (Eq.mpr (contSP_t0_m ..) h))
theorem contSP_t0_lp (hpr : PrOk Try.prog idxSP_pr) : LoopsFor Try.prog 92 0 noL := loops_none
noncomputable def contSP : Sy.Spec := ⟨[.data (.slice .str), .keep], fun args s => match args, s with
  | [(.fz false e_0 l0), (.str c1)], [] => .br (Sh.beq e_0 (Sh.str) && (true)) (contSP_t0 l0 c1) .fail
  | _, _ => .fail⟩
theorem contSP_ok : SpecOk Try.prog 92 contSP.f := specOk_comes fun args s v s' tch e => by
  simp only [contSP] at e
  split at e
  · obtain ⟨hg, e⟩ := if_run e
    simp only [Bool.and_eq_true] at hg
    obtain ⟨h_0, _⟩ := hg
    obtain rfl := Sh.beq_eq _ _ h_0
    refine comes_of ok idxSP_pr_k (L := 100) (ms := []) (by kernel_rfl) (contSP_t0_lp idxSP_pr_k) ?_
    exact contSP_t0_b (h := K_run e) ..
  · cases e
noncomputable def contSP_pr : FuncId → Option Sy.Spec := addP 92 contSP idxSP_pr
theorem contSP_pr_k : PrOk Try.prog contSP_pr := prOk_add contSP_ok idxSP_pr_k
noncomputable def twiceP_t0_L0_T (l0 : List D) (l1 : List D) (i2 : Int) (i3 : Int) : List AV := ([AV.fz false Sh.str l0, .any, .any, .any, .any, AV.fz false Sh.str l1, AV.int IntKind.i64 i2, AV.int IntKind.i64 i3] ++ padAny 10)
noncomputable def twiceP_t0_L0_S (l0 : List D) (l1 : List D) (i2 : Int) (i3 : Int) : St := []
noncomputable def twiceP_t0_L0_of : List AV → St → Option (((List D) × (List D) × Int) × (Int)) := fun t s => match t, s with
  | (.fz false e_0 l0) :: t_0, [] => (match dropAny 4 t_0 with
    | some ((.fz false e_1 l1) :: (.int .i64 i2) :: (.int .i64 i3) :: t_1) => (match dropAny 10 t_1 with
    | some ([]) => (match Sh.beq e_0 (Sh.str) && (Sh.beq e_1 (Sh.str) && (true)) with | true => some ((l0, l1, i2), (i3)) | false => none)
    | _ => none)
    | _ => none)
  | _, _ => none
noncomputable def twiceP_t0_L0_ex (i : (List D) × (List D) × Int) (y : Nat) (k : KS) : Prop := let l0 := i.1; let l1 := i.2.1; let i2 := i.2.2; let tag := y; br (Nat.beq tag 0) (k (Ex.ret) ([.any, .any, AV.bool true] ++ padAny 15) []) (br (Nat.beq tag 1) (k (Ex.normal) ([.any] ++ padAny 17) []) (False))
theorem twiceP_t0_L0_of_ok : ∀ t s (i : (List D) × (List D) × Int) (x : Int), twiceP_t0_L0_of t s = some (i, x) → t = twiceP_t0_L0_T i.1 i.2.1 i.2.2 x ∧ s = twiceP_t0_L0_S i.1 i.2.1 i.2.2 x := by
  intro t s i x h
  unfold twiceP_t0_L0_of at h
  split at h
  · split at h
    · rename_i ha
      obtain rfl := dropAny_eq ha
      split at h
      · rename_i ha
        obtain rfl := dropAny_eq ha
        split at h
        · rename_i hg
          cases h
          simp only [Bool.and_eq_true] at hg
          obtain ⟨h_0, h_1, _⟩ := hg
          obtain rfl := Sh.beq_eq _ _ h_0
          obtain rfl := Sh.beq_eq _ _ h_1
          exact ⟨rfl, rfl⟩
        · cases h
      · cases h
    · cases h
  · cases h
noncomputable def twiceP_t0_L0_stp (l0 : List D) (l1 : List D) (i2 : Int) (i3 : Int) : NT (Int) (Nat) :=
  NT.br (decide (i3 < i2))
    (NT.br (decide ((0 : Int) ≤ i3) && decide (i3 < (↑l1.length : Int)))
     (NT.br (decide ((0 : Int) ≤ i3) && decide (i3 ≤ (↑l0.length : Int)) && true)
      (NT.br (contSP_t0_V0 (List.drop (0 : Nat) (List.take i3.toNat l0)) (l1.getD i3.toNat D.nul).asStr)
       (NT.br (contSP_t0_V1 (List.drop (0 : Nat) (List.take i3.toNat l0)) (l1.getD i3.toNat D.nul).asStr)
        (NT.done (0))
        (NT.more (IntKind.i64.wrap (i3 + (1 : Int)))))
       (NT.fail))
      (NT.fail))
     (NT.fail))
    (NT.done (1))
noncomputable def twiceP_t0_L0 (i : (List D) × (List D) × Int) (x : Int) := twiceP_t0_L0_stp i.1 i.2.1 i.2.2 x
theorem twiceP_t0_L0_rd (l0 : List D) (l1 : List D) (i2 : Int) (i3 : Int) (more : List AV → St → Prop) (kk : KS) : roundK Try.prog contSP_pr noL 100 67 0 (twiceP_t0_L0_T l0 l1 i2 i3) (twiceP_t0_L0_S l0 l1 i2 i3) (againK 0 0 [.yes, .no, .no, .no, .no, .yes, .yes, .yes] [.no, .no, .yes] more kk) = (twiceP_t0_L0_stp l0 l1 i2 i3).K (fun x' => more (twiceP_t0_L0_T l0 l1 i2 x') (twiceP_t0_L0_S l0 l1 i2 x')) (fun y => twiceP_t0_L0_ex (l0, l1, i2) y kk) := by kernel_rfl
noncomputable def twiceP_t0_L0_LP : Nat → Option LoopS := addL 0 (headG 0 [.yes, .no, .no, .no, .no, .yes, .yes, .yes] (outL twiceP_t0_L0 twiceP_t0_L0_of twiceP_t0_L0_ex)) noL
theorem twiceP_t0_L0_lp (hpr : PrOk Try.prog contSP_pr) : LoopsFor Try.prog 67 0 twiceP_t0_L0_LP := loops_lp (L := 100) (T := fun i x => twiceP_t0_L0_T i.1 i.2.1 i.2.2 x) (S := fun i x => twiceP_t0_L0_S i.1 i.2.1 i.2.2 x) ok hpr (by kernel_rfl) loops_none twiceP_t0_L0_of_ok (fun i x more kk => twiceP_t0_L0_rd i.1 i.2.1 i.2.2 x more kk)
noncomputable def twiceP_t0r (l0 : List D) : RT :=
  RT.br (loopOk (twiceP_t0_L0 (l0, l0, (↑l0.length : Int))) (0 : Int))
    (RT.br ((loopV (twiceP_t0_L0 (l0, l0, (↑l0.length : Int))) (0 : Int)).beq (0 : Nat))
     (okL (AV.bool true) ([]))
     (RT.br ((loopV (twiceP_t0_L0 (l0, l0, (↑l0.length : Int))) (0 : Int)).beq (1 : Nat))
      (okL (AV.bool false) ([]))
      (RT.fail)))
    (RT.fail)
theorem twiceP_t0r_b (l0 : List D) (K : AV → St → Prop) : bodyK Try.prog contSP_pr twiceP_t0_L0_LP 100 67 [] [.fz false .str l0] [] K = RT.K (fun v s _ => K v s) (twiceP_t0r l0) := by kernel_rfl
noncomputable def twiceP_t0_V0 (l0 : List D) : Bool :=
  loopOk (twiceP_t0_L0 (l0, l0, (↑l0.length : Int))) (0 : Int) && bif (loopV (twiceP_t0_L0 (l0, l0, (↑l0.length : Int))) (0 : Int)).beq (0 : Nat) then true else (loopV (twiceP_t0_L0 (l0, l0, (↑l0.length : Int))) (0 : Int)).beq (1 : Nat) && true
noncomputable def twiceP_t0_V1 (l0 : List D) : Bool :=
  bif (loopV (twiceP_t0_L0 (l0, l0, (↑l0.length : Int))) (0 : Int)).beq (0 : Nat) then true else false
noncomputable def twiceP_t0 (l0 : List D) : RT :=
  RT.br (twiceP_t0_V0 l0)
    (okL (Go.Sy.AV.bool (twiceP_t0_V1 l0)) [])
    (RT.fail)
theorem twiceP_t0_m (l0 : List D) (K : AV → St → Prop) : RT.K (fun v s _ => K v s) (RT.mergeW ([]) (twiceP_t0r l0)) = RT.K (fun v s _ => K v s) (twiceP_t0 l0) := by kernel_rfl
theorem twiceP_t0_b (l0 : List D) (K : AV → St → Prop) (h : RT.K (fun v s _ => K v s) (twiceP_t0 l0)) : bodyK Try.prog contSP_pr twiceP_t0_L0_LP 100 67 [] [.fz false .str l0] [] K := Eq.mpr (twiceP_t0r_b ..) (mergeW_K (S := []) _ ⟨⟨rfl, ⟨rfl, trivial⟩⟩, trivial⟩ (Eq.mpr (twiceP_t0_m ..) h))
theorem twiceP_t0_lp (hpr : PrOk Try.prog contSP_pr) : LoopsFor Try.prog 67 0 twiceP_t0_L0_LP := (twiceP_t0_L0_lp hpr)
noncomputable def twiceP : Sy.Spec := ⟨[.data (.slice .str)], fun args s => match args, s with
  | [(.fz false e_0 l0)], [] => .br (Sh.beq e_0 (Sh.str) && (true)) (twiceP_t0 l0) .fail
  | _, _ => .fail⟩
theorem twiceP_ok : SpecOk Try.prog 67 twiceP.f := specOk_comes fun args s v s' tch e => by
  simp only [twiceP] at e
  split at e
  · obtain ⟨hg, e⟩ := if_run e
    simp only [Bool.and_eq_true] at hg
    obtain ⟨h_0, _⟩ := hg
    obtain rfl := Sh.beq_eq _ _ h_0
    refine comes_of ok contSP_pr_k (L := 100) (ms := []) (by kernel_rfl) (twiceP_t0_lp contSP_pr_k) ?_
    exact twiceP_t0_b (h := K_run e) ..
  · cases e
noncomputable def twiceP_pr : FuncId → Option Sy.Spec := addP 67 twiceP contSP_pr
theorem twiceP_pr_k : PrOk Try.prog twiceP_pr := prOk_add twiceP_ok contSP_pr_k
noncomputable def dep1P_t0r (s : List UInt8) (a : List UInt8) (l : List D) (k : List UInt8) (d : List D) : RT :=
  RT.br (ixCP_t0_V0 l s && true)
    (okL (AV.bool (decide (ixCP_t0_V1 l s < (0 : Int)))) ([Ent.cells [AV.str a, AV.fz false shCol l, AV.str k, AV.fz false shDep d]]))
    (RT.fail)
theorem dep1P_t0r_b (s : List UInt8) (a : List UInt8) (l : List D) (k : List UInt8) (d : List D) (K : AV → St → Prop) : bodyK Try.prog twiceP_pr noL 100 94 [] [.str s, .ptr (some (0, 0))] [.cells [.str a, .fz false shCol l, .str k, .fz false shDep d]] K = RT.K (fun v s _ => K v s) (dep1P_t0r s a l k d) := by kernel_rfl
noncomputable def dep1P_t0_V0 (s : List UInt8) (a : List UInt8) (l : List D) (k : List UInt8) (d : List D) : Bool :=
  ixCP_t0_V0 l s && true && true
noncomputable def dep1P_t0_V1 (s : List UInt8) (a : List UInt8) (l : List D) (k : List UInt8) (d : List D) : Bool :=
  decide (ixCP_t0_V1 l s < (0 : Int))
noncomputable def dep1P_t0 (s : List UInt8) (a : List UInt8) (l : List D) (k : List UInt8) (d : List D) : RT :=
  RT.br (dep1P_t0_V0 s a l k d)
    (okL (Go.Sy.AV.bool (dep1P_t0_V1 s a l k d)) [(Go.Sy.Ent.cells [(Go.Sy.AV.str a), (Go.Sy.AV.fz (false) shCol l), (Go.Sy.AV.str k), (Go.Sy.AV.fz (false) shDep d)])])
    (RT.fail)
theorem dep1P_t0_m (s : List UInt8) (a : List UInt8) (l : List D) (k : List UInt8) (d : List D) (K : AV → St → Prop) : RT.K (fun v s _ => K v s) (RT.mergeW ([Ent.cells [AV.str a, AV.fz false shCol l, AV.str k, AV.fz false shDep d]]) (dep1P_t0r s a l k d)) = RT.K (fun v s _ => K v s) (dep1P_t0 s a l k d) := by kernel_rfl
theorem dep1P_t0_b (s : List UInt8) (a : List UInt8) (l : List D) (k : List UInt8) (d : List D) (K : AV → St → Prop) (h : RT.K (fun v s _ => K v s) (dep1P_t0 s a l k d)) : bodyK Try.prog twiceP_pr noL 100 94 [] [.str s, .ptr (some (0, 0))] [.cells [.str a, .fz false shCol l, .str k, .fz false shDep d]] K := Eq.mpr (dep1P_t0r_b ..) (mergeW_K (S := [Ent.cells [AV.str a, AV.fz false shCol l, AV.str k, AV.fz false shDep d]]) _ ⟨rfl, trivial⟩ (Eq.mpr (dep1P_t0_m ..) h))
theorem dep1P_t0_lp (hpr : PrOk Try.prog twiceP_pr) : LoopsFor Try.prog 94 1 noL := loops_none
noncomputable def dep1P : Sy.Spec := ⟨[], fun args s => match args, s with
  | [(.str s), (.ptr (.some (e_0, e_1)))], [(.cells [(.str a), (.fz false e_2 l), (.str k), (.fz false e_3 d)])] => .br (Nat.beq e_0 (0 : Nat) && (Nat.beq e_1 (0 : Nat) && (Sh.beq e_2 shCol && (Sh.beq e_3 shDep && (true))))) (dep1P_t0 s a l k d) .fail
  | _, _ => .fail⟩
theorem dep1P_ok : SpecOk Try.prog 94 dep1P.f := specOk_comes fun args s v s' tch e => by
  simp only [dep1P] at e
  split at e
  · obtain ⟨hg, e⟩ := if_run e
    simp only [Bool.and_eq_true] at hg
    obtain ⟨h_0, h_1, h_2, h_3, _⟩ := hg
    obtain rfl := Nat.eq_of_beq_eq_true h_0
    obtain rfl := Nat.eq_of_beq_eq_true h_1
    obtain rfl := Sh.beq_eq _ _ h_2
    obtain rfl := Sh.beq_eq _ _ h_3
    refine comes_of ok twiceP_pr_k (L := 100) (ms := []) (by kernel_rfl) (dep1P_t0_lp twiceP_pr_k) ?_
    exact dep1P_t0_b (h := K_run e) ..
  · cases e
noncomputable def dep1P_pr : FuncId → Option Sy.Spec := addP 94 dep1P twiceP_pr
theorem dep1P_pr_k : PrOk Try.prog dep1P_pr := prOk_add dep1P_ok twiceP_pr_k
noncomputable def ixSP_t0_L0_T (l0 : List D) (i1 : Int) (c2 : List UInt8) (l3 : List D) (c4 : List UInt8) (l5 : List D) (i6 : Int) : List AV := ([AV.fz false Sh.str l0, AV.fn (Fn.func (94 : Nat)) [] [AV.ptr (some ((0 : Nat), (0 : Nat)))], .any, .any, .any, .any, .any, AV.int IntKind.i64 i1, AV.int IntKind.i64 i6] ++ padAny 10)
noncomputable def ixSP_t0_L0_S (l0 : List D) (i1 : Int) (c2 : List UInt8) (l3 : List D) (c4 : List UInt8) (l5 : List D) (i6 : Int) : St := [Ent.cells [AV.str c2, AV.fz false shCol l3, AV.str c4, AV.fz false shDep l5]]
noncomputable def ixSP_t0_L0_of : List AV → St → Option (((List D) × Int × (List UInt8) × (List D) × (List UInt8) × (List D)) × (Int)) := fun t s => match t, s with
  | (.fz false e_0 l0) :: (.fn (.func e_1) [] [(.ptr (.some (e_2, e_3)))]) :: t_0, [(.cells [(.str c2), (.fz false e_4 l3), (.str c4), (.fz false e_5 l5)])] => (match dropAny 5 t_0 with
    | some ((.int .i64 i1) :: (.int .i64 i6) :: t_1) => (match dropAny 10 t_1 with
    | some ([]) => (match Sh.beq e_0 (Sh.str) && (Nat.beq e_1 (94 : Nat) && (Nat.beq e_2 (0 : Nat) && (Nat.beq e_3 (0 : Nat) && (Sh.beq e_4 shCol && (Sh.beq e_5 shDep && (true)))))) with | true => some ((l0, i1, c2, l3, c4, l5), (i6)) | false => none)
    | _ => none)
    | _ => none)
  | _, _ => none
noncomputable def ixSP_t0_L0_ex (i : (List D) × Int × (List UInt8) × (List D) × (List UInt8) × (List D)) (y : Nat × Int) (k : KS) : Prop := let l0 := i.1; let i1 := i.2.1; let c2 := i.2.2.1; let l3 := i.2.2.2.1; let c4 := i.2.2.2.2.1; let l5 := i.2.2.2.2.2; let tag := y.1; let iy8 := y.2; br (Nat.beq tag 0) (k (Ex.ret) ([.any, .any, .any, .any, AV.int IntKind.i64 iy8] ++ padAny 14) [Ent.cells [AV.str c2, AV.fz false shCol l3, AV.str c4, AV.fz false shDep l5]]) (br (Nat.beq tag 1) (k (Ex.normal) ([.any] ++ padAny 18) [Ent.cells [AV.str c2, AV.fz false shCol l3, AV.str c4, AV.fz false shDep l5]]) (False))
theorem ixSP_t0_L0_of_ok : ∀ t s (i : (List D) × Int × (List UInt8) × (List D) × (List UInt8) × (List D)) (x : Int), ixSP_t0_L0_of t s = some (i, x) → t = ixSP_t0_L0_T i.1 i.2.1 i.2.2.1 i.2.2.2.1 i.2.2.2.2.1 i.2.2.2.2.2 x ∧ s = ixSP_t0_L0_S i.1 i.2.1 i.2.2.1 i.2.2.2.1 i.2.2.2.2.1 i.2.2.2.2.2 x := by
  intro t s i x h
  unfold ixSP_t0_L0_of at h
  split at h
  · split at h
    · rename_i ha
      obtain rfl := dropAny_eq ha
      split at h
      · rename_i ha
        obtain rfl := dropAny_eq ha
        split at h
        · rename_i hg
          cases h
          simp only [Bool.and_eq_true] at hg
          obtain ⟨h_0, h_1, h_2, h_3, h_4, h_5, _⟩ := hg
          obtain rfl := Sh.beq_eq _ _ h_0
          obtain rfl := Nat.eq_of_beq_eq_true h_1
          obtain rfl := Nat.eq_of_beq_eq_true h_2
          obtain rfl := Nat.eq_of_beq_eq_true h_3
          obtain rfl := Sh.beq_eq _ _ h_4
          obtain rfl := Sh.beq_eq _ _ h_5
          exact ⟨rfl, rfl⟩
        · cases h
      · cases h
    · cases h
  · cases h
noncomputable def ixSP_t0_L0_stp (l0 : List D) (i1 : Int) (c2 : List UInt8) (l3 : List D) (c4 : List UInt8) (l5 : List D) (i6 : Int) : NT (Int) (Nat × Int) :=
  NT.br (decide (i6 < i1))
    (NT.br (decide ((0 : Int) ≤ i6) && decide (i6 < (↑l0.length : Int)))
     (NT.br (dep1P_t0_V0 (l0.getD i6.toNat D.nul).asStr c2 l3 c4 l5)
      (NT.br (dep1P_t0_V1 (l0.getD i6.toNat D.nul).asStr c2 l3 c4 l5)
       (NT.done (0, i6))
       (NT.more (IntKind.i64.wrap (i6 + (1 : Int)))))
      (NT.fail))
     (NT.fail))
    (NT.done (1, 0))
noncomputable def ixSP_t0_L0 (i : (List D) × Int × (List UInt8) × (List D) × (List UInt8) × (List D)) (x : Int) := ixSP_t0_L0_stp i.1 i.2.1 i.2.2.1 i.2.2.2.1 i.2.2.2.2.1 i.2.2.2.2.2 x
theorem ixSP_t0_L0_rd (l0 : List D) (i1 : Int) (c2 : List UInt8) (l3 : List D) (c4 : List UInt8) (l5 : List D) (i6 : Int) (more : List AV → St → Prop) (kk : KS) : roundK Try.prog dep1P_pr noL 100 108 0 (ixSP_t0_L0_T l0 i1 c2 l3 c4 l5 i6) (ixSP_t0_L0_S l0 i1 c2 l3 c4 l5 i6) (againK 1 0 [.yes, .yes, .no, .no, .no, .no, .no, .yes, .yes] [.no, .no, .no, .no, .yes] more kk) = (ixSP_t0_L0_stp l0 i1 c2 l3 c4 l5 i6).K (fun x' => more (ixSP_t0_L0_T l0 i1 c2 l3 c4 l5 x') (ixSP_t0_L0_S l0 i1 c2 l3 c4 l5 x')) (fun y => ixSP_t0_L0_ex (l0, i1, c2, l3, c4, l5) y kk) := by kernel_rfl
noncomputable def ixSP_t0_L0_LP : Nat → Option LoopS := addL 0 (headG 1 [.yes, .yes, .no, .no, .no, .no, .no, .yes, .yes] (outL ixSP_t0_L0 ixSP_t0_L0_of ixSP_t0_L0_ex)) noL
theorem ixSP_t0_L0_lp (hpr : PrOk Try.prog dep1P_pr) : LoopsFor Try.prog 108 1 ixSP_t0_L0_LP := loops_lp (L := 100) (T := fun i x => ixSP_t0_L0_T i.1 i.2.1 i.2.2.1 i.2.2.2.1 i.2.2.2.2.1 i.2.2.2.2.2 x) (S := fun i x => ixSP_t0_L0_S i.1 i.2.1 i.2.2.1 i.2.2.2.1 i.2.2.2.2.1 i.2.2.2.2.2 x) ok hpr (by kernel_rfl) loops_none ixSP_t0_L0_of_ok (fun i x more kk => ixSP_t0_L0_rd i.1 i.2.1 i.2.2.1 i.2.2.2.1 i.2.2.2.2.1 i.2.2.2.2.2 x more kk)
noncomputable def ixSP_t0r (s : List D) (a : List UInt8) (l : List D) (k : List UInt8) (d : List D) : RT :=
  RT.br (loopOk (ixSP_t0_L0 (s, (↑s.length : Int), a, l, k, d)) (0 : Int))
    (RT.br ((loopV (ixSP_t0_L0 (s, (↑s.length : Int), a, l, k, d)) (0 : Int)).fst.beq (0 : Nat))
     (okL (AV.int IntKind.i64 (loopV (ixSP_t0_L0 (s, (↑s.length : Int), a, l, k, d)) (0 : Int)).snd) ([Ent.cells [AV.str a, AV.fz false shCol l, AV.str k, AV.fz false shDep d]]))
     (RT.br ((loopV (ixSP_t0_L0 (s, (↑s.length : Int), a, l, k, d)) (0 : Int)).fst.beq (1 : Nat))
      (okL (AV.int IntKind.i64 (-1 : Int)) ([Ent.cells [AV.str a, AV.fz false shCol l, AV.str k, AV.fz false shDep d]]))
      (RT.fail)))
    (RT.fail)
theorem ixSP_t0r_b (s : List D) (a : List UInt8) (l : List D) (k : List UInt8) (d : List D) (K : AV → St → Prop) : bodyK Try.prog dep1P_pr ixSP_t0_L0_LP 100 108 [] [.fz false .str s, .fn (.func 94) [] [.ptr (some (0, 0))]] [.cells [.str a, .fz false shCol l, .str k, .fz false shDep d]] K = RT.K (fun v s _ => K v s) (ixSP_t0r s a l k d) := by kernel_rfl
noncomputable def ixSP_t0_V0 (s : List D) (a : List UInt8) (l : List D) (k : List UInt8) (d : List D) : Bool :=
  loopOk (ixSP_t0_L0 (s, (↑s.length : Int), a, l, k, d)) (0 : Int) && bif (loopV (ixSP_t0_L0 (s, (↑s.length : Int), a, l, k, d)) (0 : Int)).fst.beq (0 : Nat) then true else (loopV (ixSP_t0_L0 (s, (↑s.length : Int), a, l, k, d)) (0 : Int)).fst.beq (1 : Nat) && true
noncomputable def ixSP_t0_V1 (s : List D) (a : List UInt8) (l : List D) (k : List UInt8) (d : List D) : Int :=
  bif (loopV (ixSP_t0_L0 (s, (↑s.length : Int), a, l, k, d)) (0 : Int)).fst.beq (0 : Nat) then (loopV (ixSP_t0_L0 (s, (↑s.length : Int), a, l, k, d)) (0 : Int)).snd else (-1 : Int)
noncomputable def ixSP_t0 (s : List D) (a : List UInt8) (l : List D) (k : List UInt8) (d : List D) : RT :=
  RT.br (ixSP_t0_V0 s a l k d)
    (okL (Go.Sy.AV.int (IntKind.i64) (ixSP_t0_V1 s a l k d)) [(Go.Sy.Ent.cells [(Go.Sy.AV.str a), (Go.Sy.AV.fz (false) shCol l), (Go.Sy.AV.str k), (Go.Sy.AV.fz (false) shDep d)])])
    (RT.fail)
theorem ixSP_t0_m (s : List D) (a : List UInt8) (l : List D) (k : List UInt8) (d : List D) (K : AV → St → Prop) : RT.K (fun v s _ => K v s) (RT.mergeW ([Ent.cells [AV.str a, AV.fz false shCol l, AV.str k, AV.fz false shDep d]]) (ixSP_t0r s a l k d)) = RT.K (fun v s _ => K v s) (ixSP_t0 s a l k d) := by kernel_rfl
theorem ixSP_t0_b (s : List D) (a : List UInt8) (l : List D) (k : List UInt8) (d : List D) (K : AV → St → Prop) (h : RT.K (fun v s _ => K v s) (ixSP_t0 s a l k d)) : bodyK Try.prog dep1P_pr ixSP_t0_L0_LP 100 108 [] [.fz false .str s, .fn (.func 94) [] [.ptr (some (0, 0))]] [.cells [.str a, .fz false shCol l, .str k, .fz false shDep d]] K := Eq.mpr (ixSP_t0r_b ..) (mergeW_K (S := [Ent.cells [AV.str a, AV.fz false shCol l, AV.str k, AV.fz false shDep d]]) _ ⟨⟨rfl, ⟨rfl, trivial⟩⟩, trivial⟩ (Eq.mpr (ixSP_t0_m ..) h))
theorem ixSP_t0_lp (hpr : PrOk Try.prog dep1P_pr) : LoopsFor Try.prog 108 1 ixSP_t0_L0_LP := (ixSP_t0_L0_lp hpr)
noncomputable def ixSP : Sy.Spec := ⟨[], fun args s => match args, s with
  | [(.fz false e_0 s), (.fn (.func e_1) [] [(.ptr (.some (e_2, e_3)))])], [(.cells [(.str a), (.fz false e_4 l), (.str k), (.fz false e_5 d)])] => .br (Sh.beq e_0 (Sh.str) && (Nat.beq e_1 (94 : Nat) && (Nat.beq e_2 (0 : Nat) && (Nat.beq e_3 (0 : Nat) && (Sh.beq e_4 shCol && (Sh.beq e_5 shDep && (true))))))) (ixSP_t0 s a l k d) .fail
  | _, _ => .fail⟩
theorem ixSP_ok : SpecOk Try.prog 108 ixSP.f := specOk_comes fun args s v s' tch e => by
  simp only [ixSP] at e
  split at e
  · obtain ⟨hg, e⟩ := if_run e
    simp only [Bool.and_eq_true] at hg
    obtain ⟨h_0, h_1, h_2, h_3, h_4, h_5, _⟩ := hg
    obtain rfl := Sh.beq_eq _ _ h_0
    obtain rfl := Nat.eq_of_beq_eq_true h_1
    obtain rfl := Nat.eq_of_beq_eq_true h_2
    obtain rfl := Nat.eq_of_beq_eq_true h_3
    obtain rfl := Sh.beq_eq _ _ h_4
    obtain rfl := Sh.beq_eq _ _ h_5
    refine comes_of ok dep1P_pr_k (L := 100) (ms := []) (by kernel_rfl) (ixSP_t0_lp dep1P_pr_k) ?_
    exact ixSP_t0_b (h := K_run e) ..
  · cases e
noncomputable def ixSP_pr : FuncId → Option Sy.Spec := addP 108 ixSP dep1P_pr
theorem ixSP_pr_k : PrOk Try.prog ixSP_pr := prOk_add ixSP_ok dep1P_pr_k
noncomputable def cfSP_t0r (s : List D) (a : List UInt8) (l : List D) (k : List UInt8) (d : List D) : RT :=
  RT.br (ixSP_t0_V0 s a l k d)
    (okL (AV.bool (decide (ixSP_t0_V1 s a l k d ≥ (0 : Int)))) ([Ent.cells [AV.str a, AV.fz false shCol l, AV.str k, AV.fz false shDep d]]))
    (RT.fail)
theorem cfSP_t0r_b (s : List D) (a : List UInt8) (l : List D) (k : List UInt8) (d : List D) (K : AV → St → Prop) : bodyK Try.prog ixSP_pr noL 100 83 [] [.fz false .str s, .fn (.func 94) [] [.ptr (some (0, 0))]] [.cells [.str a, .fz false shCol l, .str k, .fz false shDep d]] K = RT.K (fun v s _ => K v s) (cfSP_t0r s a l k d) := by kernel_rfl
noncomputable def cfSP_t0_V0 (s : List D) (a : List UInt8) (l : List D) (k : List UInt8) (d : List D) : Bool :=
  ixSP_t0_V0 s a l k d && true
noncomputable def cfSP_t0_V1 (s : List D) (a : List UInt8) (l : List D) (k : List UInt8) (d : List D) : Bool :=
  decide (ixSP_t0_V1 s a l k d ≥ (0 : Int))
noncomputable def cfSP_t0 (s : List D) (a : List UInt8) (l : List D) (k : List UInt8) (d : List D) : RT :=
  RT.br (cfSP_t0_V0 s a l k d)
    (okL (Go.Sy.AV.bool (cfSP_t0_V1 s a l k d)) [(Go.Sy.Ent.cells [(Go.Sy.AV.str a), (Go.Sy.AV.fz (false) shCol l), (Go.Sy.AV.str k), (Go.Sy.AV.fz (false) shDep d)])])
    (RT.fail)
theorem cfSP_t0_m (s : List D) (a : List UInt8) (l : List D) (k : List UInt8) (d : List D) (K : AV → St → Prop) : RT.K (fun v s _ => K v s) (RT.mergeW ([Ent.cells [AV.str a, AV.fz false shCol l, AV.str k, AV.fz false shDep d]]) (cfSP_t0r s a l k d)) = RT.K (fun v s _ => K v s) (cfSP_t0 s a l k d) := by kernel_rfl
theorem cfSP_t0_b (s : List D) (a : List UInt8) (l : List D) (k : List UInt8) (d : List D) (K : AV → St → Prop) (h : RT.K (fun v s _ => K v s) (cfSP_t0 s a l k d)) : bodyK Try.prog ixSP_pr noL 100 83 [] [.fz false .str s, .fn (.func 94) [] [.ptr (some (0, 0))]] [.cells [.str a, .fz false shCol l, .str k, .fz false shDep d]] K := Eq.mpr (cfSP_t0r_b ..) (mergeW_K (S := [Ent.cells [AV.str a, AV.fz false shCol l, AV.str k, AV.fz false shDep d]]) _ ⟨rfl, trivial⟩ (Eq.mpr (cfSP_t0_m ..) h))
theorem cfSP_t0_lp (hpr : PrOk Try.prog ixSP_pr) : LoopsFor Try.prog 83 1 noL := loops_none
noncomputable def cfSP : Sy.Spec := ⟨[], fun args s => match args, s with
  | [(.fz false e_0 s), (.fn (.func e_1) [] [(.ptr (.some (e_2, e_3)))])], [(.cells [(.str a), (.fz false e_4 l), (.str k), (.fz false e_5 d)])] => .br (Sh.beq e_0 (Sh.str) && (Nat.beq e_1 (94 : Nat) && (Nat.beq e_2 (0 : Nat) && (Nat.beq e_3 (0 : Nat) && (Sh.beq e_4 shCol && (Sh.beq e_5 shDep && (true))))))) (cfSP_t0 s a l k d) .fail
  | _, _ => .fail⟩
theorem cfSP_ok : SpecOk Try.prog 83 cfSP.f := specOk_comes fun args s v s' tch e => by
  simp only [cfSP] at e
  split at e
  · obtain ⟨hg, e⟩ := if_run e
    simp only [Bool.and_eq_true] at hg
    obtain ⟨h_0, h_1, h_2, h_3, h_4, h_5, _⟩ := hg
    obtain rfl := Sh.beq_eq _ _ h_0
    obtain rfl := Nat.eq_of_beq_eq_true h_1
    obtain rfl := Nat.eq_of_beq_eq_true h_2
    obtain rfl := Nat.eq_of_beq_eq_true h_3
    obtain rfl := Sh.beq_eq _ _ h_4
    obtain rfl := Sh.beq_eq _ _ h_5
    refine comes_of ok ixSP_pr_k (L := 100) (ms := []) (by kernel_rfl) (cfSP_t0_lp ixSP_pr_k) ?_
    exact cfSP_t0_b (h := K_run e) ..
  · cases e
noncomputable def cfSP_pr : FuncId → Option Sy.Spec := addP 83 cfSP ixSP_pr
theorem cfSP_pr_k : PrOk Try.prog cfSP_pr := prOk_add cfSP_ok ixSP_pr_k
noncomputable def depP_t0r (c0_0 : List UInt8) (l0_1 : List D) (c0_2 : List UInt8) (l0_3 : List D) (l1_0 : List D) (c1_1 : List UInt8) : RT :=
  RT.br (decide ((↑l1_0.length : Int) > (0 : Int)))
    (RT.br (decide ((↑l1_0.length : Int) ≤ (3 : Int)))
     (RT.br (cfSP_t0_V0 l1_0 c0_0 l0_1 c0_2 l0_3)
      (RT.br (!cfSP_t0_V1 l1_0 c0_0 l0_1 c0_2 l0_3)
       (RT.br (twiceP_t0_V0 l1_0)
        (RT.br (!twiceP_t0_V1 l1_0)
         (RT.br (dep1P_t0_V0 c1_1 c0_0 l0_1 c0_2 l0_3)
          (RT.br (!dep1P_t0_V1 c1_1 c0_0 l0_1 c0_2 l0_3)
           (RT.br (contSP_t0_V0 l1_0 c1_1)
            (okL (AV.bool !contSP_t0_V1 l1_0 c1_1) ([]))
            (RT.fail))
           (okL (AV.bool false) ([])))
          (RT.fail))
         (okL (AV.bool false) ([])))
        (RT.fail))
       (okL (AV.bool false) ([])))
      (RT.fail))
     (okL (AV.bool false) ([])))
    (okL (AV.bool false) ([]))
theorem depP_t0r_b (c0_0 : List UInt8) (l0_1 : List D) (c0_2 : List UInt8) (l0_3 : List D) (l1_0 : List D) (c1_1 : List UInt8) (K : AV → St → Prop) : bodyK Try.prog cfSP_pr noL 100 70 [] [(.agg [.str c0_0, .fz false (.struct [.str, (.int .i64), .bool, .str]) l0_1, .str c0_2, .fz false (.struct [(.slice .str), .str]) l0_3]), (.agg [.fz false .str l1_0, .str c1_1])] [] K = RT.K (fun v s _ => K v s) (depP_t0r c0_0 l0_1 c0_2 l0_3 l1_0 c1_1) := by kernel_rfl
noncomputable def depP_t0_V0 (c0_0 : List UInt8) (l0_1 : List D) (c0_2 : List UInt8) (l0_3 : List D) (l1_0 : List D) (c1_1 : List UInt8) : Bool :=
  bif decide ((↑l1_0.length : Int) > (0 : Int)) then bif decide ((↑l1_0.length : Int) ≤ (3 : Int)) then cfSP_t0_V0 l1_0 c0_0 l0_1 c0_2 l0_3 && bif !cfSP_t0_V1 l1_0 c0_0 l0_1 c0_2 l0_3 then twiceP_t0_V0 l1_0 && bif !twiceP_t0_V1 l1_0 then dep1P_t0_V0 c1_1 c0_0 l0_1 c0_2 l0_3 && bif !dep1P_t0_V1 c1_1 c0_0 l0_1 c0_2 l0_3 then contSP_t0_V0 l1_0 c1_1 && true else true else true else true else true else true
noncomputable def depP_t0_V1 (c0_0 : List UInt8) (l0_1 : List D) (c0_2 : List UInt8) (l0_3 : List D) (l1_0 : List D) (c1_1 : List UInt8) : Bool :=
  bif decide ((↑l1_0.length : Int) > (0 : Int)) then bif decide ((↑l1_0.length : Int) ≤ (3 : Int)) then bif !cfSP_t0_V1 l1_0 c0_0 l0_1 c0_2 l0_3 then bif !twiceP_t0_V1 l1_0 then bif !dep1P_t0_V1 c1_1 c0_0 l0_1 c0_2 l0_3 then !contSP_t0_V1 l1_0 c1_1 else false else false else false else false else false
noncomputable def depP_t0 (c0_0 : List UInt8) (l0_1 : List D) (c0_2 : List UInt8) (l0_3 : List D) (l1_0 : List D) (c1_1 : List UInt8) : RT :=
  RT.br (depP_t0_V0 c0_0 l0_1 c0_2 l0_3 l1_0 c1_1)
    (okL (Go.Sy.AV.bool (depP_t0_V1 c0_0 l0_1 c0_2 l0_3 l1_0 c1_1)) [])
    (RT.fail)
theorem depP_t0_m (c0_0 : List UInt8) (l0_1 : List D) (c0_2 : List UInt8) (l0_3 : List D) (l1_0 : List D) (c1_1 : List UInt8) (K : AV → St → Prop) : RT.K (fun v s _ => K v s) (RT.mergeW ([]) (depP_t0r c0_0 l0_1 c0_2 l0_3 l1_0 c1_1)) = RT.K (fun v s _ => K v s) (depP_t0 c0_0 l0_1 c0_2 l0_3 l1_0 c1_1) := by kernel_rfl
theorem depP_t0_b (c0_0 : List UInt8) (l0_1 : List D) (c0_2 : List UInt8) (l0_3 : List D) (l1_0 : List D) (c1_1 : List UInt8) (K : AV → St → Prop) (h : RT.K (fun v s _ => K v s) (depP_t0 c0_0 l0_1 c0_2 l0_3 l1_0 c1_1)) : bodyK Try.prog cfSP_pr noL 100 70 [] [(.agg [.str c0_0, .fz false (.struct [.str, (.int .i64), .bool, .str]) l0_1, .str c0_2, .fz false (.struct [(.slice .str), .str]) l0_3]), (.agg [.fz false .str l1_0, .str c1_1])] [] K := Eq.mpr (depP_t0r_b ..) (mergeW_K (S := []) _ ⟨⟨⟨⟨⟨⟨⟨⟨⟨rfl, trivial⟩, rfl⟩, trivial⟩, rfl⟩, trivial⟩, rfl⟩, trivial⟩, rfl⟩, rfl⟩ (Eq.mpr (depP_t0_m ..) h))
theorem depP_t0_lp (hpr : PrOk Try.prog cfSP_pr) : LoopsFor Try.prog 70 0 noL := loops_none
noncomputable def depP : Sy.Spec := ⟨[.data (.struct [.str, (.slice (.struct [.str, (.int .i64), .bool, .str])), .str, (.slice (.struct [(.slice .str), .str]))]), .data (.struct [(.slice .str), .str])], fun args s => match args, s with
  | [(.agg [(.str c0_0), (.fz false e_0 l0_1), (.str c0_2), (.fz false e_1 l0_3)]), (.agg [(.fz false e_2 l1_0), (.str c1_1)])], [] => .br (Sh.beq e_0 shCol && (Sh.beq e_1 shDep && (Sh.beq e_2 (Sh.str) && (true)))) (depP_t0 c0_0 l0_1 c0_2 l0_3 l1_0 c1_1) .fail
  | _, _ => .fail⟩
theorem depP_ok : SpecOk Try.prog 70 depP.f := specOk_comes fun args s v s' tch e => by
  simp only [depP] at e
  split at e
  · obtain ⟨hg, e⟩ := if_run e
    simp only [Bool.and_eq_true] at hg
    obtain ⟨h_0, h_1, h_2, _⟩ := hg
    obtain rfl := Sh.beq_eq _ _ h_0
    obtain rfl := Sh.beq_eq _ _ h_1
    obtain rfl := Sh.beq_eq _ _ h_2
    refine comes_of ok cfSP_pr_k (L := 100) (ms := []) (by kernel_rfl) (depP_t0_lp cfSP_pr_k) ?_
    exact depP_t0_b (h := K_run e) ..
  · cases e
noncomputable def depP_pr : FuncId → Option Sy.Spec := addP 70 depP cfSP_pr
theorem depP_pr_k : PrOk Try.prog depP_pr := prOk_add depP_ok cfSP_pr_k
noncomputable def named1P_t0r (e : List D) (r : List UInt8) (a : List UInt8) (l : List D) (k : List UInt8) (d : List D) : RT :=
  RT.br (depP_t0_V0 a l k d e r)
    (okL (AV.bool !depP_t0_V1 a l k d e r) ([Ent.cells [AV.str a, AV.fz false shCol l, AV.str k, AV.fz false shDep d]]))
    (RT.fail)
theorem named1P_t0r_b (e : List D) (r : List UInt8) (a : List UInt8) (l : List D) (k : List UInt8) (d : List D) (K : AV → St → Prop) : bodyK Try.prog depP_pr noL 100 69 [] [.agg [.fz false .str e, .str r], .ptr (some (0, 0))] [.cells [.str a, .fz false shCol l, .str k, .fz false shDep d]] K = RT.K (fun v s _ => K v s) (named1P_t0r e r a l k d) := by kernel_rfl
noncomputable def named1P_t0_V0 (e : List D) (r : List UInt8) (a : List UInt8) (l : List D) (k : List UInt8) (d : List D) : Bool :=
  depP_t0_V0 a l k d e r && true
noncomputable def named1P_t0 (e : List D) (r : List UInt8) (a : List UInt8) (l : List D) (k : List UInt8) (d : List D) : RT :=
  RT.br (named1P_t0_V0 e r a l k d)
    (okL (Go.Sy.AV.bool (!depP_t0_V1 a l k d e r)) [(Go.Sy.Ent.cells [(Go.Sy.AV.str a), (Go.Sy.AV.fz (false) shCol l), (Go.Sy.AV.str k), (Go.Sy.AV.fz (false) shDep d)])])
    (RT.fail)
theorem named1P_t0_m (e : List D) (r : List UInt8) (a : List UInt8) (l : List D) (k : List UInt8) (d : List D) (K : AV → St → Prop) : RT.K (fun v s _ => K v s) (RT.mergeW ([Ent.cells [AV.str a, AV.fz false shCol l, AV.str k, AV.fz false shDep d]]) (named1P_t0r e r a l k d)) = RT.K (fun v s _ => K v s) (named1P_t0 e r a l k d) := by kernel_rfl
theorem named1P_t0_b (e : List D) (r : List UInt8) (a : List UInt8) (l : List D) (k : List UInt8) (d : List D) (K : AV → St → Prop) (h : RT.K (fun v s _ => K v s) (named1P_t0 e r a l k d)) : bodyK Try.prog depP_pr noL 100 69 [] [.agg [.fz false .str e, .str r], .ptr (some (0, 0))] [.cells [.str a, .fz false shCol l, .str k, .fz false shDep d]] K := Eq.mpr (named1P_t0r_b ..) (mergeW_K (S := [Ent.cells [AV.str a, AV.fz false shCol l, AV.str k, AV.fz false shDep d]]) _ ⟨rfl, trivial⟩ (Eq.mpr (named1P_t0_m ..) h))
theorem named1P_t0_lp (hpr : PrOk Try.prog depP_pr) : LoopsFor Try.prog 69 1 noL := loops_none
noncomputable def named1P : Sy.Spec := ⟨[], fun args s => match args, s with
  | [(.agg [(.fz false e_0 e), (.str r)]), (.ptr (.some (e_1, e_2)))], [(.cells [(.str a), (.fz false e_3 l), (.str k), (.fz false e_4 d)])] => .br (Sh.beq e_0 (Sh.str) && (Nat.beq e_1 (0 : Nat) && (Nat.beq e_2 (0 : Nat) && (Sh.beq e_3 shCol && (Sh.beq e_4 shDep && (true)))))) (named1P_t0 e r a l k d) .fail
  | _, _ => .fail⟩
theorem named1P_ok : SpecOk Try.prog 69 named1P.f := specOk_comes fun args s v s' tch e => by
  simp only [named1P] at e
  split at e
  · obtain ⟨hg, e⟩ := if_run e
    simp only [Bool.and_eq_true] at hg
    obtain ⟨h_0, h_1, h_2, h_3, h_4, _⟩ := hg
    obtain rfl := Sh.beq_eq _ _ h_0
    obtain rfl := Nat.eq_of_beq_eq_true h_1
    obtain rfl := Nat.eq_of_beq_eq_true h_2
    obtain rfl := Sh.beq_eq _ _ h_3
    obtain rfl := Sh.beq_eq _ _ h_4
    refine comes_of ok depP_pr_k (L := 100) (ms := []) (by kernel_rfl) (named1P_t0_lp depP_pr_k) ?_
    exact named1P_t0_b (h := K_run e) ..
  · cases e
noncomputable def named1P_pr : FuncId → Option Sy.Spec := addP 69 named1P depP_pr
theorem named1P_pr_k : PrOk Try.prog named1P_pr := prOk_add named1P_ok depP_pr_k
noncomputable def ixDP_t0_L0_T (l0 : List D) (i1 : Int) (c2 : List UInt8) (l3 : List D) (c4 : List UInt8) (l5 : List D) (i6 : Int) : List AV := ([AV.fz false shDep l0, AV.fn (Fn.func (69 : Nat)) [] [AV.ptr (some ((0 : Nat), (0 : Nat)))], .any, .any, .any, .any, .any, AV.int IntKind.i64 i1, AV.int IntKind.i64 i6] ++ padAny 10)
noncomputable def ixDP_t0_L0_S (l0 : List D) (i1 : Int) (c2 : List UInt8) (l3 : List D) (c4 : List UInt8) (l5 : List D) (i6 : Int) : St := [Ent.cells [AV.str c2, AV.fz false shCol l3, AV.str c4, AV.fz false shDep l5]]
noncomputable def ixDP_t0_L0_of : List AV → St → Option (((List D) × Int × (List UInt8) × (List D) × (List UInt8) × (List D)) × (Int)) := fun t s => match t, s with
  | (.fz false e_0 l0) :: (.fn (.func e_1) [] [(.ptr (.some (e_2, e_3)))]) :: t_0, [(.cells [(.str c2), (.fz false e_4 l3), (.str c4), (.fz false e_5 l5)])] => (match dropAny 5 t_0 with
    | some ((.int .i64 i1) :: (.int .i64 i6) :: t_1) => (match dropAny 10 t_1 with
    | some ([]) => (match Sh.beq e_0 shDep && (Nat.beq e_1 (69 : Nat) && (Nat.beq e_2 (0 : Nat) && (Nat.beq e_3 (0 : Nat) && (Sh.beq e_4 shCol && (Sh.beq e_5 shDep && (true)))))) with | true => some ((l0, i1, c2, l3, c4, l5), (i6)) | false => none)
    | _ => none)
    | _ => none)
  | _, _ => none
noncomputable def ixDP_t0_L0_ex (i : (List D) × Int × (List UInt8) × (List D) × (List UInt8) × (List D)) (y : Nat × Int) (k : KS) : Prop := let l0 := i.1; let i1 := i.2.1; let c2 := i.2.2.1; let l3 := i.2.2.2.1; let c4 := i.2.2.2.2.1; let l5 := i.2.2.2.2.2; let tag := y.1; let iy8 := y.2; br (Nat.beq tag 0) (k (Ex.ret) ([.any, .any, .any, .any, AV.int IntKind.i64 iy8] ++ padAny 14) [Ent.cells [AV.str c2, AV.fz false shCol l3, AV.str c4, AV.fz false shDep l5]]) (br (Nat.beq tag 1) (k (Ex.normal) ([.any] ++ padAny 18) [Ent.cells [AV.str c2, AV.fz false shCol l3, AV.str c4, AV.fz false shDep l5]]) (False))
theorem ixDP_t0_L0_of_ok : ∀ t s (i : (List D) × Int × (List UInt8) × (List D) × (List UInt8) × (List D)) (x : Int), ixDP_t0_L0_of t s = some (i, x) → t = ixDP_t0_L0_T i.1 i.2.1 i.2.2.1 i.2.2.2.1 i.2.2.2.2.1 i.2.2.2.2.2 x ∧ s = ixDP_t0_L0_S i.1 i.2.1 i.2.2.1 i.2.2.2.1 i.2.2.2.2.1 i.2.2.2.2.2 x := by
  intro t s i x h
  unfold ixDP_t0_L0_of at h
  split at h
  · split at h
    · rename_i ha
      obtain rfl := dropAny_eq ha
      split at h
      · rename_i ha
        obtain rfl := dropAny_eq ha
        split at h
        · rename_i hg
          cases h
          simp only [Bool.and_eq_true] at hg
          obtain ⟨h_0, h_1, h_2, h_3, h_4, h_5, _⟩ := hg
          obtain rfl := Sh.beq_eq _ _ h_0
          obtain rfl := Nat.eq_of_beq_eq_true h_1
          obtain rfl := Nat.eq_of_beq_eq_true h_2
          obtain rfl := Nat.eq_of_beq_eq_true h_3
          obtain rfl := Sh.beq_eq _ _ h_4
          obtain rfl := Sh.beq_eq _ _ h_5
          exact ⟨rfl, rfl⟩
        · cases h
      · cases h
    · cases h
  · cases h
noncomputable def ixDP_t0_L0_stp (l0 : List D) (i1 : Int) (c2 : List UInt8) (l3 : List D) (c4 : List UInt8) (l5 : List D) (i6 : Int) : NT (Int) (Nat × Int) :=
  NT.br (decide (i6 < i1))
    (NT.br (decide ((0 : Int) ≤ i6) && decide (i6 < (↑l0.length : Int)))
     (NT.br (named1P_t0_V0 ((l0.getD i6.toNat D.nul).fld (0 : Nat)).els ((l0.getD i6.toNat D.nul).fld (1 : Nat)).asStr c2 l3 c4 l5)
      (NT.br (!depP_t0_V1 c2 l3 c4 l5 ((l0.getD i6.toNat D.nul).fld (0 : Nat)).els ((l0.getD i6.toNat D.nul).fld (1 : Nat)).asStr)
       (NT.done (0, i6))
       (NT.more (IntKind.i64.wrap (i6 + (1 : Int)))))
      (NT.fail))
     (NT.fail))
    (NT.done (1, 0))
noncomputable def ixDP_t0_L0 (i : (List D) × Int × (List UInt8) × (List D) × (List UInt8) × (List D)) (x : Int) := ixDP_t0_L0_stp i.1 i.2.1 i.2.2.1 i.2.2.2.1 i.2.2.2.2.1 i.2.2.2.2.2 x
theorem ixDP_t0_L0_rd (l0 : List D) (i1 : Int) (c2 : List UInt8) (l3 : List D) (c4 : List UInt8) (l5 : List D) (i6 : Int) (more : List AV → St → Prop) (kk : KS) : roundK Try.prog named1P_pr noL 100 93 0 (ixDP_t0_L0_T l0 i1 c2 l3 c4 l5 i6) (ixDP_t0_L0_S l0 i1 c2 l3 c4 l5 i6) (againK 1 0 [.yes, .yes, .no, .no, .no, .no, .no, .yes, .yes] [.no, .no, .no, .no, .yes] more kk) = (ixDP_t0_L0_stp l0 i1 c2 l3 c4 l5 i6).K (fun x' => more (ixDP_t0_L0_T l0 i1 c2 l3 c4 l5 x') (ixDP_t0_L0_S l0 i1 c2 l3 c4 l5 x')) (fun y => ixDP_t0_L0_ex (l0, i1, c2, l3, c4, l5) y kk) := by kernel_rfl
noncomputable def ixDP_t0_L0_LP : Nat → Option LoopS := addL 0 (headG 1 [.yes, .yes, .no, .no, .no, .no, .no, .yes, .yes] (outL ixDP_t0_L0 ixDP_t0_L0_of ixDP_t0_L0_ex)) noL
theorem ixDP_t0_L0_lp (hpr : PrOk Try.prog named1P_pr) : LoopsFor Try.prog 93 1 ixDP_t0_L0_LP := loops_lp (L := 100) (T := fun i x => ixDP_t0_L0_T i.1 i.2.1 i.2.2.1 i.2.2.2.1 i.2.2.2.2.1 i.2.2.2.2.2 x) (S := fun i x => ixDP_t0_L0_S i.1 i.2.1 i.2.2.1 i.2.2.2.1 i.2.2.2.2.1 i.2.2.2.2.2 x) ok hpr (by kernel_rfl) loops_none ixDP_t0_L0_of_ok (fun i x more kk => ixDP_t0_L0_rd i.1 i.2.1 i.2.2.1 i.2.2.2.1 i.2.2.2.2.1 i.2.2.2.2.2 x more kk)
noncomputable def ixDP_t0r (e : List D) (a : List UInt8) (l : List D) (k : List UInt8) (d : List D) : RT :=
  RT.br (loopOk (ixDP_t0_L0 (e, (↑e.length : Int), a, l, k, d)) (0 : Int))
    (RT.br ((loopV (ixDP_t0_L0 (e, (↑e.length : Int), a, l, k, d)) (0 : Int)).fst.beq (0 : Nat))
     (okL (AV.int IntKind.i64 (loopV (ixDP_t0_L0 (e, (↑e.length : Int), a, l, k, d)) (0 : Int)).snd) ([Ent.cells [AV.str a, AV.fz false shCol l, AV.str k, AV.fz false shDep d]]))
     (RT.br ((loopV (ixDP_t0_L0 (e, (↑e.length : Int), a, l, k, d)) (0 : Int)).fst.beq (1 : Nat))
      (okL (AV.int IntKind.i64 (-1 : Int)) ([Ent.cells [AV.str a, AV.fz false shCol l, AV.str k, AV.fz false shDep d]]))
      (RT.fail)))
    (RT.fail)
theorem ixDP_t0r_b (e : List D) (a : List UInt8) (l : List D) (k : List UInt8) (d : List D) (K : AV → St → Prop) : bodyK Try.prog named1P_pr ixDP_t0_L0_LP 100 93 [] [.fz false shDep e, .fn (.func 69) [] [.ptr (some (0, 0))]] [.cells [.str a, .fz false shCol l, .str k, .fz false shDep d]] K = RT.K (fun v s _ => K v s) (ixDP_t0r e a l k d) := by kernel_rfl
noncomputable def ixDP_t0_V0 (e : List D) (a : List UInt8) (l : List D) (k : List UInt8) (d : List D) : Bool :=
  loopOk (ixDP_t0_L0 (e, (↑e.length : Int), a, l, k, d)) (0 : Int) && bif (loopV (ixDP_t0_L0 (e, (↑e.length : Int), a, l, k, d)) (0 : Int)).fst.beq (0 : Nat) then true else (loopV (ixDP_t0_L0 (e, (↑e.length : Int), a, l, k, d)) (0 : Int)).fst.beq (1 : Nat) && true
noncomputable def ixDP_t0_V1 (e : List D) (a : List UInt8) (l : List D) (k : List UInt8) (d : List D) : Int :=
  bif (loopV (ixDP_t0_L0 (e, (↑e.length : Int), a, l, k, d)) (0 : Int)).fst.beq (0 : Nat) then (loopV (ixDP_t0_L0 (e, (↑e.length : Int), a, l, k, d)) (0 : Int)).snd else (-1 : Int)
noncomputable def ixDP_t0 (e : List D) (a : List UInt8) (l : List D) (k : List UInt8) (d : List D) : RT :=
  RT.br (ixDP_t0_V0 e a l k d)
    (okL (Go.Sy.AV.int (IntKind.i64) (ixDP_t0_V1 e a l k d)) [(Go.Sy.Ent.cells [(Go.Sy.AV.str a), (Go.Sy.AV.fz (false) shCol l), (Go.Sy.AV.str k), (Go.Sy.AV.fz (false) shDep d)])])
    (RT.fail)
theorem ixDP_t0_m (e : List D) (a : List UInt8) (l : List D) (k : List UInt8) (d : List D) (K : AV → St → Prop) : RT.K (fun v s _ => K v s) (RT.mergeW ([Ent.cells [AV.str a, AV.fz false shCol l, AV.str k, AV.fz false shDep d]]) (ixDP_t0r e a l k d)) = RT.K (fun v s _ => K v s) (ixDP_t0 e a l k d) := by kernel_rfl
theorem ixDP_t0_b (e : List D) (a : List UInt8) (l : List D) (k : List UInt8) (d : List D) (K : AV → St → Prop) (h : RT.K (fun v s _ => K v s) (ixDP_t0 e a l k d)) : bodyK Try.prog named1P_pr ixDP_t0_L0_LP 100 93 [] [.fz false shDep e, .fn (.func 69) [] [.ptr (some (0, 0))]] [.cells [.str a, .fz false shCol l, .str k, .fz false shDep d]] K := Eq.mpr (ixDP_t0r_b ..) (mergeW_K (S := [Ent.cells [AV.str a, AV.fz false shCol l, AV.str k, AV.fz false shDep d]]) _ ⟨⟨rfl, ⟨rfl, trivial⟩⟩, trivial⟩ (Eq.mpr (ixDP_t0_m ..) h))
theorem ixDP_t0_lp (hpr : PrOk Try.prog named1P_pr) : LoopsFor Try.prog 93 1 ixDP_t0_L0_LP := (ixDP_t0_L0_lp hpr)
noncomputable def ixDP : Sy.Spec := ⟨[], fun args s => match args, s with
  | [(.fz false e_0 e), (.fn (.func e_1) [] [(.ptr (.some (e_2, e_3)))])], [(.cells [(.str a), (.fz false e_4 l), (.str k), (.fz false e_5 d)])] => .br (Sh.beq e_0 shDep && (Nat.beq e_1 (69 : Nat) && (Nat.beq e_2 (0 : Nat) && (Nat.beq e_3 (0 : Nat) && (Sh.beq e_4 shCol && (Sh.beq e_5 shDep && (true))))))) (ixDP_t0 e a l k d) .fail
  | _, _ => .fail⟩
theorem ixDP_ok : SpecOk Try.prog 93 ixDP.f := specOk_comes fun args s v s' tch e => by
  simp only [ixDP] at e
  split at e
  · obtain ⟨hg, e⟩ := if_run e
    simp only [Bool.and_eq_true] at hg
    obtain ⟨h_0, h_1, h_2, h_3, h_4, h_5, _⟩ := hg
    obtain rfl := Sh.beq_eq _ _ h_0
    obtain rfl := Nat.eq_of_beq_eq_true h_1
    obtain rfl := Nat.eq_of_beq_eq_true h_2
    obtain rfl := Nat.eq_of_beq_eq_true h_3
    obtain rfl := Sh.beq_eq _ _ h_4
    obtain rfl := Sh.beq_eq _ _ h_5
    refine comes_of ok named1P_pr_k (L := 100) (ms := []) (by kernel_rfl) (ixDP_t0_lp named1P_pr_k) ?_
    exact ixDP_t0_b (h := K_run e) ..
  · cases e
noncomputable def ixDP_pr : FuncId → Option Sy.Spec := addP 93 ixDP named1P_pr
theorem ixDP_pr_k : PrOk Try.prog ixDP_pr := prOk_add ixDP_ok named1P_pr_k
noncomputable def cfDP_t0r (e : List D) (a : List UInt8) (l : List D) (k : List UInt8) (d : List D) : RT :=
  RT.br (ixDP_t0_V0 e a l k d)
    (okL (AV.bool (decide (ixDP_t0_V1 e a l k d ≥ (0 : Int)))) ([Ent.cells [AV.str a, AV.fz false shCol l, AV.str k, AV.fz false shDep d]]))
    (RT.fail)
theorem cfDP_t0r_b (e : List D) (a : List UInt8) (l : List D) (k : List UInt8) (d : List D) (K : AV → St → Prop) : bodyK Try.prog ixDP_pr noL 100 68 [] [.fz false shDep e, .fn (.func 69) [] [.ptr (some (0, 0))]] [.cells [.str a, .fz false shCol l, .str k, .fz false shDep d]] K = RT.K (fun v s _ => K v s) (cfDP_t0r e a l k d) := by kernel_rfl
noncomputable def cfDP_t0_V0 (e : List D) (a : List UInt8) (l : List D) (k : List UInt8) (d : List D) : Bool :=
  ixDP_t0_V0 e a l k d && true
noncomputable def cfDP_t0_V1 (e : List D) (a : List UInt8) (l : List D) (k : List UInt8) (d : List D) : Bool :=
  decide (ixDP_t0_V1 e a l k d ≥ (0 : Int))
noncomputable def cfDP_t0 (e : List D) (a : List UInt8) (l : List D) (k : List UInt8) (d : List D) : RT :=
  RT.br (cfDP_t0_V0 e a l k d)
    (okL (Go.Sy.AV.bool (cfDP_t0_V1 e a l k d)) [(Go.Sy.Ent.cells [(Go.Sy.AV.str a), (Go.Sy.AV.fz (false) shCol l), (Go.Sy.AV.str k), (Go.Sy.AV.fz (false) shDep d)])])
    (RT.fail)
theorem cfDP_t0_m (e : List D) (a : List UInt8) (l : List D) (k : List UInt8) (d : List D) (K : AV → St → Prop) : RT.K (fun v s _ => K v s) (RT.mergeW ([Ent.cells [AV.str a, AV.fz false shCol l, AV.str k, AV.fz false shDep d]]) (cfDP_t0r e a l k d)) = RT.K (fun v s _ => K v s) (cfDP_t0 e a l k d) := by kernel_rfl
theorem cfDP_t0_b (e : List D) (a : List UInt8) (l : List D) (k : List UInt8) (d : List D) (K : AV → St → Prop) (h : RT.K (fun v s _ => K v s) (cfDP_t0 e a l k d)) : bodyK Try.prog ixDP_pr noL 100 68 [] [.fz false shDep e, .fn (.func 69) [] [.ptr (some (0, 0))]] [.cells [.str a, .fz false shCol l, .str k, .fz false shDep d]] K := Eq.mpr (cfDP_t0r_b ..) (mergeW_K (S := [Ent.cells [AV.str a, AV.fz false shCol l, AV.str k, AV.fz false shDep d]]) _ ⟨rfl, trivial⟩ (Eq.mpr (cfDP_t0_m ..) h))
theorem cfDP_t0_lp (hpr : PrOk Try.prog ixDP_pr) : LoopsFor Try.prog 68 1 noL := loops_none
noncomputable def cfDP : Sy.Spec := ⟨[], fun args s => match args, s with
  | [(.fz false e_0 e), (.fn (.func e_1) [] [(.ptr (.some (e_2, e_3)))])], [(.cells [(.str a), (.fz false e_4 l), (.str k), (.fz false e_5 d)])] => .br (Sh.beq e_0 shDep && (Nat.beq e_1 (69 : Nat) && (Nat.beq e_2 (0 : Nat) && (Nat.beq e_3 (0 : Nat) && (Sh.beq e_4 shCol && (Sh.beq e_5 shDep && (true))))))) (cfDP_t0 e a l k d) .fail
  | _, _ => .fail⟩
theorem cfDP_ok : SpecOk Try.prog 68 cfDP.f := specOk_comes fun args s v s' tch e => by
  simp only [cfDP] at e
  split at e
  · obtain ⟨hg, e⟩ := if_run e
    simp only [Bool.and_eq_true] at hg
    obtain ⟨h_0, h_1, h_2, h_3, h_4, h_5, _⟩ := hg
    obtain rfl := Sh.beq_eq _ _ h_0
    obtain rfl := Nat.eq_of_beq_eq_true h_1
    obtain rfl := Nat.eq_of_beq_eq_true h_2
    obtain rfl := Nat.eq_of_beq_eq_true h_3
    obtain rfl := Sh.beq_eq _ _ h_4
    obtain rfl := Sh.beq_eq _ _ h_5
    refine comes_of ok ixDP_pr_k (L := 100) (ms := []) (by kernel_rfl) (cfDP_t0_lp ixDP_pr_k) ?_
    exact cfDP_t0_b (h := K_run e) ..
  · cases e
noncomputable def cfDP_pr : FuncId → Option Sy.Spec := addP 68 cfDP ixDP_pr
theorem cfDP_pr_k : PrOk Try.prog cfDP_pr := prOk_add cfDP_ok ixDP_pr_k
noncomputable def cfCP_t0r (l : List D) : RT :=
  RT.br (ixCP_t2_V0 l)
    (okL (AV.bool (decide (ixCP_t2_V1 l ≥ (0 : Int)))) ([]))
    (RT.fail)
theorem cfCP_t0r_b (l : List D) (K : AV → St → Prop) : bodyK Try.prog cfDP_pr noL 100 44 [] [.fz false shCol l, .fn (.func 45) [] []] [] K = RT.K (fun v s _ => K v s) (cfCP_t0r l) := by kernel_rfl
noncomputable def cfCP_t0_V0 (l : List D) : Bool :=
  decide (ixCP_t2_V1 l ≥ (0 : Int))
noncomputable def cfCP_t0 (l : List D) : RT :=
  RT.br (ixCP_t2_V0 l && true)
    (okL (Go.Sy.AV.bool (cfCP_t0_V0 l)) [])
    (RT.fail)
theorem cfCP_t0_m (l : List D) (K : AV → St → Prop) : RT.K (fun v s _ => K v s) (RT.mergeW ([]) (cfCP_t0r l)) = RT.K (fun v s _ => K v s) (cfCP_t0 l) := by kernel_rfl
theorem cfCP_t0_b (l : List D) (K : AV → St → Prop) (h : RT.K (fun v s _ => K v s) (cfCP_t0 l)) : bodyK Try.prog cfDP_pr noL 100 44 [] [.fz false shCol l, .fn (.func 45) [] []] [] K := Eq.mpr (cfCP_t0r_b ..) (mergeW_K (S := []) _ ⟨rfl, trivial⟩ (Eq.mpr (cfCP_t0_m ..) h))
theorem cfCP_t0_lp (hpr : PrOk Try.prog cfDP_pr) : LoopsFor Try.prog 44 0 noL := loops_none
noncomputable def cfCP : Sy.Spec := ⟨[], fun args s => match args, s with
  | [(.fz false e_0 l), (.fn (.func e_1) [] [])], [] => .br (Sh.beq e_0 shCol && (Nat.beq e_1 (45 : Nat) && (true))) (cfCP_t0 l) .fail
  | _, _ => .fail⟩
theorem cfCP_ok : SpecOk Try.prog 44 cfCP.f := specOk_comes fun args s v s' tch e => by
  simp only [cfCP] at e
  split at e
  · obtain ⟨hg, e⟩ := if_run e
    simp only [Bool.and_eq_true] at hg
    obtain ⟨h_0, h_1, _⟩ := hg
    obtain rfl := Sh.beq_eq _ _ h_0
    obtain rfl := Nat.eq_of_beq_eq_true h_1
    refine comes_of ok cfDP_pr_k (L := 100) (ms := []) (by kernel_rfl) (cfCP_t0_lp cfDP_pr_k) ?_
    exact cfCP_t0_b (h := K_run e) ..
  · cases e
noncomputable def cfCP_pr : FuncId → Option Sy.Spec := addP 44 cfCP cfDP_pr
theorem cfCP_pr_k : PrOk Try.prog cfCP_pr := prOk_add cfCP_ok cfDP_pr_k
noncomputable def snamedP_t0_L0_T (l0 : List D) (i1 : Int) (n2 : Nat) (l3 : List D) (c4 : List UInt8) (l5 : List D) (c6 : List UInt8) (l7 : List D) (n8 : Nat) (i9 : Int) (l10 : List D) : List AV := ([.any, .any, .any, AV.ptr (some ((2 : Nat), (0 : Nat))), .any, .any, .any, AV.tsl false Sh.str (3 : Nat) (0 : Nat) n8 Cap.tight, .any, .any, .any, .any, .any, .any, .any, .any, .any, .any, .any, .any, .any, .any, .any, .any, .any, .any, .any, .any, .any, .any, .any, .any, .any, .any, .any, .any, .any, AV.fz false shCol l0, AV.int IntKind.i64 i1, AV.int IntKind.i64 i9] ++ padAny 23)
noncomputable def snamedP_t0_L0_S (l0 : List D) (i1 : Int) (n2 : Nat) (l3 : List D) (c4 : List UInt8) (l5 : List D) (c6 : List UInt8) (l7 : List D) (n8 : Nat) (i9 : Int) (l10 : List D) : St := [Ent.cells [AV.tsl false shTab (1 : Nat) (0 : Nat) n2 Cap.tight], Ent.tbl false shTab l3, Ent.cells [AV.str c4, AV.fz false shCol l5, AV.str c6, AV.fz false shDep l7], Ent.tbl false Sh.str l10]
noncomputable def snamedP_t0_L0_of : List AV → St → Option (((List D) × Int × Nat × (List D) × (List UInt8) × (List D) × (List UInt8) × (List D)) × (Nat × Int × (List D))) := fun t s => match t, s with
  | .any :: .any :: .any :: (.ptr (.some (e_0, e_1))) :: .any :: .any :: .any :: (.tsl false e_2 e_3 e_4 n8 .tight) :: t_0, [(.cells [(.tsl false e_6 e_7 e_8 n2 .tight)]), (.tbl false e_9 l3), (.cells [(.str c4), (.fz false e_10 l5), (.str c6), (.fz false e_11 l7)]), (.tbl false e_12 l10)] => (match dropAny 29 t_0 with
    | some ((.fz false e_5 l0) :: (.int .i64 i1) :: (.int .i64 i9) :: t_1) => (match dropAny 23 t_1 with
    | some ([]) => (match Nat.beq e_0 (2 : Nat) && (Nat.beq e_1 (0 : Nat) && (Sh.beq e_2 (Sh.str) && (Nat.beq e_3 (3 : Nat) && (Nat.beq e_4 (0 : Nat) && (Sh.beq e_5 shCol && (Sh.beq e_6 shTab && (Nat.beq e_7 (1 : Nat) && (Nat.beq e_8 (0 : Nat) && (Sh.beq e_9 shTab && (Sh.beq e_10 shCol && (Sh.beq e_11 shDep && (Sh.beq e_12 (Sh.str) && (true))))))))))))) with | true => some ((l0, i1, n2, l3, c4, l5, c6, l7), (n8, i9, l10)) | false => none)
    | _ => none)
    | _ => none)
  | _, _ => none
noncomputable def snamedP_t0_L0_ex (i : (List D) × Int × Nat × (List D) × (List UInt8) × (List D) × (List UInt8) × (List D)) (y : Nat × Nat × (List D) × Nat × (List D)) (k : KS) : Prop := let l0 := i.1; let i1 := i.2.1; let n2 := i.2.2.1; let l3 := i.2.2.2.1; let c4 := i.2.2.2.2.1; let l5 := i.2.2.2.2.2.1; let c6 := i.2.2.2.2.2.2.1; let l7 := i.2.2.2.2.2.2.2; let tag := y.1; let ny15 := y.2.1; let ly16 := y.2.2.1; let ny17 := y.2.2.2.1; let ly18 := y.2.2.2.2; br (Nat.beq tag 0) (k (Ex.ret) ([.any, .any, .any, AV.ptr (some ((2 : Nat), (0 : Nat))), AV.bool false, .any, .any, AV.tsl false Sh.str (3 : Nat) (0 : Nat) ny15 Cap.tight] ++ padAny 55) [Ent.cells [AV.tsl false shTab (1 : Nat) (0 : Nat) n2 Cap.tight], Ent.tbl false shTab l3, Ent.cells [AV.str c4, AV.fz false shCol l5, AV.str c6, AV.fz false shDep l7], Ent.tbl false Sh.str ly16]) (br (Nat.beq tag 1) (k (Ex.normal) ([.any, .any, .any, AV.ptr (some ((2 : Nat), (0 : Nat))), .any, .any, .any, AV.tsl false Sh.str (3 : Nat) (0 : Nat) ny17 Cap.tight] ++ padAny 55) [Ent.cells [AV.tsl false shTab (1 : Nat) (0 : Nat) n2 Cap.tight], Ent.tbl false shTab l3, Ent.cells [AV.str c4, AV.fz false shCol l5, AV.str c6, AV.fz false shDep l7], Ent.tbl false Sh.str ly18]) (False))
theorem snamedP_t0_L0_of_ok : ∀ t s (i : (List D) × Int × Nat × (List D) × (List UInt8) × (List D) × (List UInt8) × (List D)) (x : Nat × Int × (List D)), snamedP_t0_L0_of t s = some (i, x) → t = snamedP_t0_L0_T i.1 i.2.1 i.2.2.1 i.2.2.2.1 i.2.2.2.2.1 i.2.2.2.2.2.1 i.2.2.2.2.2.2.1 i.2.2.2.2.2.2.2 x.1 x.2.1 x.2.2 ∧ s = snamedP_t0_L0_S i.1 i.2.1 i.2.2.1 i.2.2.2.1 i.2.2.2.2.1 i.2.2.2.2.2.1 i.2.2.2.2.2.2.1 i.2.2.2.2.2.2.2 x.1 x.2.1 x.2.2 := by
  intro t s i x h
  unfold snamedP_t0_L0_of at h
  split at h
  · split at h
    · rename_i ha
      obtain rfl := dropAny_eq ha
      split at h
      · rename_i ha
        obtain rfl := dropAny_eq ha
        split at h
        · rename_i hg
          cases h
          simp only [Bool.and_eq_true] at hg
          obtain ⟨h_0, h_1, h_2, h_3, h_4, h_5, h_6, h_7, h_8, h_9, h_10, h_11, h_12, _⟩ := hg
          obtain rfl := Nat.eq_of_beq_eq_true h_0
          obtain rfl := Nat.eq_of_beq_eq_true h_1
          obtain rfl := Sh.beq_eq _ _ h_2
          obtain rfl := Nat.eq_of_beq_eq_true h_3
          obtain rfl := Nat.eq_of_beq_eq_true h_4
          obtain rfl := Sh.beq_eq _ _ h_5
          obtain rfl := Sh.beq_eq _ _ h_6
          obtain rfl := Nat.eq_of_beq_eq_true h_7
          obtain rfl := Nat.eq_of_beq_eq_true h_8
          obtain rfl := Sh.beq_eq _ _ h_9
          obtain rfl := Sh.beq_eq _ _ h_10
          obtain rfl := Sh.beq_eq _ _ h_11
          obtain rfl := Sh.beq_eq _ _ h_12
          exact ⟨rfl, rfl⟩
        · cases h
      · cases h
    · cases h
  · cases h
noncomputable def snamedP_t0_L0_stp (l0 : List D) (i1 : Int) (n2 : Nat) (l3 : List D) (c4 : List UInt8) (l5 : List D) (c6 : List UInt8) (l7 : List D) (n8 : Nat) (i9 : Int) (l10 : List D) : NT (Nat × Int × (List D)) (Nat × Nat × (List D) × Nat × (List D)) :=
  NT.br (decide (i9 < i1))
    (NT.br (decide ((0 : Int) ≤ i9) && decide (i9 < (↑l0.length : Int)))
     (NT.br (nameP_t0_V0 ((l0.getD i9.toNat D.nul).fld (0 : Nat)).asStr)
      (NT.br (!nameP_t0_V1 ((l0.getD i9.toNat D.nul).fld (0 : Nat)).asStr)
       (NT.done (0, n8, l10, 0, []))
       (NT.br ((((3 : Nat) * (n8 + (1 : Nat)) + (2000 : Nat)) * (16 : Nat)).ble (281474976710656 : Nat) && ((0 : Nat) + n8).ble l10.length)
        (NT.more (n8 + (1 : Nat), IntKind.i64.wrap (i9 + (1 : Int)), List.take n8 (List.drop (0 : Nat) l10) ++ [D.str ((l0.getD i9.toNat D.nul).fld (0 : Nat)).asStr]))
        (NT.fail)))
      (NT.fail))
     (NT.fail))
    (NT.done (1, 0, [], n8, l10))
noncomputable def snamedP_t0_L0 (i : (List D) × Int × Nat × (List D) × (List UInt8) × (List D) × (List UInt8) × (List D)) (x : Nat × Int × (List D)) := snamedP_t0_L0_stp i.1 i.2.1 i.2.2.1 i.2.2.2.1 i.2.2.2.2.1 i.2.2.2.2.2.1 i.2.2.2.2.2.2.1 i.2.2.2.2.2.2.2 x.1 x.2.1 x.2.2
theorem snamedP_t0_L0_rd (l0 : List D) (i1 : Int) (n2 : Nat) (l3 : List D) (c4 : List UInt8) (l5 : List D) (c6 : List UInt8) (l7 : List D) (n8 : Nat) (i9 : Int) (l10 : List D) (more : List AV → St → Prop) (kk : KS) : roundK Try.prog cfCP_pr noL 100 43 0 (snamedP_t0_L0_T l0 i1 n2 l3 c4 l5 c6 l7 n8 i9 l10) (snamedP_t0_L0_S l0 i1 n2 l3 c4 l5 c6 l7 n8 i9 l10) (againK 2 0 [.no, .no, .no, .yes, .no, .no, .no, .bld (Sh.str), .no, .no, .no, .no, .no, .no, .no, .no, .no, .no, .no, .no, .no, .no, .no, .no, .no, .no, .no, .no, .no, .no, .no, .no, .no, .no, .no, .no, .no, .yes, .yes, .yes] [.no, .no, .no, .yes, .yes, .no, .no, .bld (Sh.str)] more kk) = (snamedP_t0_L0_stp l0 i1 n2 l3 c4 l5 c6 l7 n8 i9 l10).K (fun x' => more (snamedP_t0_L0_T l0 i1 n2 l3 c4 l5 c6 l7 x'.1 x'.2.1 x'.2.2) (snamedP_t0_L0_S l0 i1 n2 l3 c4 l5 c6 l7 x'.1 x'.2.1 x'.2.2)) (fun y => snamedP_t0_L0_ex (l0, i1, n2, l3, c4, l5, c6, l7) y kk) := by kernel_rfl
noncomputable def snamedP_t0_L0_LP : Nat → Option LoopS := addL 0 (headG 2 [.no, .no, .no, .yes, .no, .no, .no, .bld (Sh.str), .no, .no, .no, .no, .no, .no, .no, .no, .no, .no, .no, .no, .no, .no, .no, .no, .no, .no, .no, .no, .no, .no, .no, .no, .no, .no, .no, .no, .no, .yes, .yes, .yes] (outL snamedP_t0_L0 snamedP_t0_L0_of snamedP_t0_L0_ex)) noL
theorem snamedP_t0_L0_lp (hpr : PrOk Try.prog cfCP_pr) : LoopsFor Try.prog 43 2 snamedP_t0_L0_LP := loops_lp (L := 100) (T := fun i x => snamedP_t0_L0_T i.1 i.2.1 i.2.2.1 i.2.2.2.1 i.2.2.2.2.1 i.2.2.2.2.2.1 i.2.2.2.2.2.2.1 i.2.2.2.2.2.2.2 x.1 x.2.1 x.2.2) (S := fun i x => snamedP_t0_L0_S i.1 i.2.1 i.2.2.1 i.2.2.2.1 i.2.2.2.2.1 i.2.2.2.2.2.1 i.2.2.2.2.2.2.1 i.2.2.2.2.2.2.2 x.1 x.2.1 x.2.2) ok hpr (by kernel_rfl) loops_none snamedP_t0_L0_of_ok (fun i x more kk => snamedP_t0_L0_rd i.1 i.2.1 i.2.2.1 i.2.2.2.1 i.2.2.2.2.1 i.2.2.2.2.2.1 i.2.2.2.2.2.2.1 i.2.2.2.2.2.2.2 x.1 x.2.1 x.2.2 more kk)
noncomputable def snamedP_t0r (n : Nat) (t : List D) (a : List UInt8) (l : List D) (k : List UInt8) (d : List D) : RT :=
  RT.br (findP_t0_V0 n t a)
    (RT.br (findP_t0_V5 n t a)
     (okL (AV.bool false) ([Ent.cells [AV.tsl false shTab (1 : Nat) (0 : Nat) n Cap.tight], Ent.tbl false shTab t]))
     (RT.br (nameP_t0_V0 a)
      (RT.br (!nameP_t0_V1 a)
       (okL (AV.bool false) ([Ent.cells [AV.tsl false shTab (1 : Nat) (0 : Nat) n Cap.tight], Ent.tbl false shTab t]))
       (RT.br (!eqBytes k [])
        (RT.br (ixCP_t0_V0 l k && true)
         (RT.br (decide (ixCP_t0_V1 l k < (0 : Int)))
          (okL (AV.bool false) ([Ent.cells [AV.tsl false shTab (1 : Nat) (0 : Nat) n Cap.tight], Ent.tbl false shTab t]))
          (RT.br (loopOk (snamedP_t0_L0 (l, (↑l.length : Int), n, t, a, l, k, d)) ((0 : Nat), (0 : Int), []))
           (RT.br ((loopV (snamedP_t0_L0 (l, (↑l.length : Int), n, t, a, l, k, d)) ((0 : Nat), (0 : Int), [])).fst.beq (0 : Nat))
            (okL (AV.bool false) ([Ent.cells [AV.tsl false shTab (1 : Nat) (0 : Nat) n Cap.tight], Ent.tbl false shTab t]))
            (RT.br ((loopV (snamedP_t0_L0 (l, (↑l.length : Int), n, t, a, l, k, d)) ((0 : Nat), (0 : Int), [])).fst.beq (1 : Nat))
             (RT.br (((0 : Nat) + (loopV (snamedP_t0_L0 (l, (↑l.length : Int), n, t, a, l, k, d)) ((0 : Nat), (0 : Int), [])).snd.snd.snd.fst).ble (loopV (snamedP_t0_L0 (l, (↑l.length : Int), n, t, a, l, k, d)) ((0 : Nat), (0 : Int), [])).snd.snd.snd.snd.length && true)
              (RT.br (twiceP_t0_V0 (List.take (loopV (snamedP_t0_L0 (l, (↑l.length : Int), n, t, a, l, k, d)) ((0 : Nat), (0 : Int), [])).snd.snd.snd.fst (List.drop (0 : Nat) (loopV (snamedP_t0_L0 (l, (↑l.length : Int), n, t, a, l, k, d)) ((0 : Nat), (0 : Int), [])).snd.snd.snd.snd)))
               (RT.br (!twiceP_t0_V1 (List.take (loopV (snamedP_t0_L0 (l, (↑l.length : Int), n, t, a, l, k, d)) ((0 : Nat), (0 : Int), [])).snd.snd.snd.fst (List.drop (0 : Nat) (loopV (snamedP_t0_L0 (l, (↑l.length : Int), n, t, a, l, k, d)) ((0 : Nat), (0 : Int), [])).snd.snd.snd.snd)))
                (RT.br (cfDP_t0_V0 d a l k d)
                 (okL (AV.bool !cfDP_t0_V1 d a l k d) ([Ent.cells [AV.tsl false shTab (1 : Nat) (0 : Nat) n Cap.tight], Ent.tbl false shTab t]))
                 (RT.fail))
                (okL (AV.bool false) ([Ent.cells [AV.tsl false shTab (1 : Nat) (0 : Nat) n Cap.tight], Ent.tbl false shTab t])))
               (RT.fail))
              (RT.fail))
             (RT.fail)))
           (RT.fail)))
         (RT.fail))
        (RT.br (loopOk (snamedP_t0_L0 (l, (↑l.length : Int), n, t, a, l, k, d)) ((0 : Nat), (0 : Int), []))
         (RT.br ((loopV (snamedP_t0_L0 (l, (↑l.length : Int), n, t, a, l, k, d)) ((0 : Nat), (0 : Int), [])).fst.beq (0 : Nat))
          (okL (AV.bool false) ([Ent.cells [AV.tsl false shTab (1 : Nat) (0 : Nat) n Cap.tight], Ent.tbl false shTab t]))
          (RT.br ((loopV (snamedP_t0_L0 (l, (↑l.length : Int), n, t, a, l, k, d)) ((0 : Nat), (0 : Int), [])).fst.beq (1 : Nat))
           (RT.br (((0 : Nat) + (loopV (snamedP_t0_L0 (l, (↑l.length : Int), n, t, a, l, k, d)) ((0 : Nat), (0 : Int), [])).snd.snd.snd.fst).ble (loopV (snamedP_t0_L0 (l, (↑l.length : Int), n, t, a, l, k, d)) ((0 : Nat), (0 : Int), [])).snd.snd.snd.snd.length && true)
            (RT.br (twiceP_t0_V0 (List.take (loopV (snamedP_t0_L0 (l, (↑l.length : Int), n, t, a, l, k, d)) ((0 : Nat), (0 : Int), [])).snd.snd.snd.fst (List.drop (0 : Nat) (loopV (snamedP_t0_L0 (l, (↑l.length : Int), n, t, a, l, k, d)) ((0 : Nat), (0 : Int), [])).snd.snd.snd.snd)))
             (RT.br (!twiceP_t0_V1 (List.take (loopV (snamedP_t0_L0 (l, (↑l.length : Int), n, t, a, l, k, d)) ((0 : Nat), (0 : Int), [])).snd.snd.snd.fst (List.drop (0 : Nat) (loopV (snamedP_t0_L0 (l, (↑l.length : Int), n, t, a, l, k, d)) ((0 : Nat), (0 : Int), [])).snd.snd.snd.snd)))
              (RT.br (cfDP_t0_V0 d a l k d)
               (okL (AV.bool !cfDP_t0_V1 d a l k d) ([Ent.cells [AV.tsl false shTab (1 : Nat) (0 : Nat) n Cap.tight], Ent.tbl false shTab t]))
               (RT.fail))
              (okL (AV.bool false) ([Ent.cells [AV.tsl false shTab (1 : Nat) (0 : Nat) n Cap.tight], Ent.tbl false shTab t])))
             (RT.fail))
            (RT.fail))
           (RT.fail)))
         (RT.fail))))
      (RT.fail)))
    (RT.fail)
theorem snamedP_t0r_b (n : Nat) (t : List D) (a : List UInt8) (l : List D) (k : List UInt8) (d : List D) (K : AV → St → Prop) : bodyK Try.prog cfCP_pr snamedP_t0_L0_LP 100 43 [] [.ptr (some (0, 0)), .agg [.str a, .fz false shCol l, .str k, .fz false shDep d]] [.cells [.tsl false shTab 1 0 n .tight], .tbl false shTab t] K = RT.K (fun v s _ => K v s) (snamedP_t0r n t a l k d) := by kernel_rfl
noncomputable def snamedP_t0_V0 (n : Nat) (t : List D) (a : List UInt8) (l : List D) (k : List UInt8) (d : List D) : Bool :=
  findP_t0_V0 n t a && bif findP_t0_V5 n t a then true else nameP_t0_V0 a && bif !nameP_t0_V1 a then true else bif !eqBytes k [] then ixCP_t0_V0 l k && true && bif decide (ixCP_t0_V1 l k < (0 : Int)) then true else loopOk (snamedP_t0_L0 (l, (↑l.length : Int), n, t, a, l, k, d)) ((0 : Nat), (0 : Int), []) && bif (loopV (snamedP_t0_L0 (l, (↑l.length : Int), n, t, a, l, k, d)) ((0 : Nat), (0 : Int), [])).fst.beq (0 : Nat) then true else (loopV (snamedP_t0_L0 (l, (↑l.length : Int), n, t, a, l, k, d)) ((0 : Nat), (0 : Int), [])).fst.beq (1 : Nat) && (((0 : Nat) + (loopV (snamedP_t0_L0 (l, (↑l.length : Int), n, t, a, l, k, d)) ((0 : Nat), (0 : Int), [])).snd.snd.snd.fst).ble (loopV (snamedP_t0_L0 (l, (↑l.length : Int), n, t, a, l, k, d)) ((0 : Nat), (0 : Int), [])).snd.snd.snd.snd.length && true && (twiceP_t0_V0 (List.take (loopV (snamedP_t0_L0 (l, (↑l.length : Int), n, t, a, l, k, d)) ((0 : Nat), (0 : Int), [])).snd.snd.snd.fst (List.drop (0 : Nat) (loopV (snamedP_t0_L0 (l, (↑l.length : Int), n, t, a, l, k, d)) ((0 : Nat), (0 : Int), [])).snd.snd.snd.snd)) && bif !twiceP_t0_V1 (List.take (loopV (snamedP_t0_L0 (l, (↑l.length : Int), n, t, a, l, k, d)) ((0 : Nat), (0 : Int), [])).snd.snd.snd.fst (List.drop (0 : Nat) (loopV (snamedP_t0_L0 (l, (↑l.length : Int), n, t, a, l, k, d)) ((0 : Nat), (0 : Int), [])).snd.snd.snd.snd)) then cfDP_t0_V0 d a l k d && true else true)) else loopOk (snamedP_t0_L0 (l, (↑l.length : Int), n, t, a, l, k, d)) ((0 : Nat), (0 : Int), []) && bif (loopV (snamedP_t0_L0 (l, (↑l.length : Int), n, t, a, l, k, d)) ((0 : Nat), (0 : Int), [])).fst.beq (0 : Nat) then true else (loopV (snamedP_t0_L0 (l, (↑l.length : Int), n, t, a, l, k, d)) ((0 : Nat), (0 : Int), [])).fst.beq (1 : Nat) && (((0 : Nat) + (loopV (snamedP_t0_L0 (l, (↑l.length : Int), n, t, a, l, k, d)) ((0 : Nat), (0 : Int), [])).snd.snd.snd.fst).ble (loopV (snamedP_t0_L0 (l, (↑l.length : Int), n, t, a, l, k, d)) ((0 : Nat), (0 : Int), [])).snd.snd.snd.snd.length && true && (twiceP_t0_V0 (List.take (loopV (snamedP_t0_L0 (l, (↑l.length : Int), n, t, a, l, k, d)) ((0 : Nat), (0 : Int), [])).snd.snd.snd.fst (List.drop (0 : Nat) (loopV (snamedP_t0_L0 (l, (↑l.length : Int), n, t, a, l, k, d)) ((0 : Nat), (0 : Int), [])).snd.snd.snd.snd)) && bif !twiceP_t0_V1 (List.take (loopV (snamedP_t0_L0 (l, (↑l.length : Int), n, t, a, l, k, d)) ((0 : Nat), (0 : Int), [])).snd.snd.snd.fst (List.drop (0 : Nat) (loopV (snamedP_t0_L0 (l, (↑l.length : Int), n, t, a, l, k, d)) ((0 : Nat), (0 : Int), [])).snd.snd.snd.snd)) then cfDP_t0_V0 d a l k d && true else true))
noncomputable def snamedP_t0_V1 (n : Nat) (t : List D) (a : List UInt8) (l : List D) (k : List UInt8) (d : List D) : Bool :=
  bif findP_t0_V5 n t a then false else bif !nameP_t0_V1 a then false else bif !eqBytes k [] then bif decide (ixCP_t0_V1 l k < (0 : Int)) then false else bif (loopV (snamedP_t0_L0 (l, (↑l.length : Int), n, t, a, l, k, d)) ((0 : Nat), (0 : Int), [])).fst.beq (0 : Nat) then false else bif !twiceP_t0_V1 (List.take (loopV (snamedP_t0_L0 (l, (↑l.length : Int), n, t, a, l, k, d)) ((0 : Nat), (0 : Int), [])).snd.snd.snd.fst (List.drop (0 : Nat) (loopV (snamedP_t0_L0 (l, (↑l.length : Int), n, t, a, l, k, d)) ((0 : Nat), (0 : Int), [])).snd.snd.snd.snd)) then !cfDP_t0_V1 d a l k d else false else bif (loopV (snamedP_t0_L0 (l, (↑l.length : Int), n, t, a, l, k, d)) ((0 : Nat), (0 : Int), [])).fst.beq (0 : Nat) then false else bif !twiceP_t0_V1 (List.take (loopV (snamedP_t0_L0 (l, (↑l.length : Int), n, t, a, l, k, d)) ((0 : Nat), (0 : Int), [])).snd.snd.snd.fst (List.drop (0 : Nat) (loopV (snamedP_t0_L0 (l, (↑l.length : Int), n, t, a, l, k, d)) ((0 : Nat), (0 : Int), [])).snd.snd.snd.snd)) then !cfDP_t0_V1 d a l k d else false
noncomputable def snamedP_t0 (n : Nat) (t : List D) (a : List UInt8) (l : List D) (k : List UInt8) (d : List D) : RT :=
  RT.br (snamedP_t0_V0 n t a l k d)
    (okL (Go.Sy.AV.bool (snamedP_t0_V1 n t a l k d)) [(Go.Sy.Ent.cells [(Go.Sy.AV.tsl (false) shTab ((1 : Nat)) ((0 : Nat)) n Go.Sy.Cap.tight)]), (Go.Sy.Ent.tbl (false) shTab t)])
    (RT.fail)
theorem snamedP_t0_m (n : Nat) (t : List D) (a : List UInt8) (l : List D) (k : List UInt8) (d : List D) (K : AV → St → Prop) : RT.K (fun v s _ => K v s) (RT.mergeW ([Ent.cells [AV.tsl false shTab (1 : Nat) (0 : Nat) n Cap.tight], Ent.tbl false shTab t]) (snamedP_t0r n t a l k d)) = RT.K (fun v s _ => K v s) (snamedP_t0 n t a l k d) := by kernel_rfl
theorem snamedP_t0_b (n : Nat) (t : List D) (a : List UInt8) (l : List D) (k : List UInt8) (d : List D) (K : AV → St → Prop) (h : RT.K (fun v s _ => K v s) (snamedP_t0 n t a l k d)) : bodyK Try.prog cfCP_pr snamedP_t0_L0_LP 100 43 [] [.ptr (some (0, 0)), .agg [.str a, .fz false shCol l, .str k, .fz false shDep d]] [.cells [.tsl false shTab 1 0 n .tight], .tbl false shTab t] K := Eq.mpr (snamedP_t0r_b ..) (mergeW_K (S := [Ent.cells [AV.tsl false shTab (1 : Nat) (0 : Nat) n Cap.tight], Ent.tbl false shTab t]) _ ⟨⟨rfl, ⟨⟨rfl, ⟨⟨⟨rfl, ⟨⟨rfl, ⟨⟨⟨⟨⟨rfl, trivial⟩, rfl⟩, trivial⟩, trivial⟩, trivial⟩⟩, trivial⟩⟩, trivial⟩, ⟨⟨rfl, ⟨⟨⟨⟨⟨rfl, trivial⟩, rfl⟩, trivial⟩, trivial⟩, trivial⟩⟩, trivial⟩⟩⟩, trivial⟩⟩, trivial⟩ (Eq.mpr (snamedP_t0_m ..) h))
theorem snamedP_t0_lp (hpr : PrOk Try.prog cfCP_pr) : LoopsFor Try.prog 43 2 snamedP_t0_L0_LP := (snamedP_t0_L0_lp hpr)
noncomputable def snamedP : Sy.Spec := ⟨[], fun args s => match args, s with
  | [(.ptr (.some (e_0, e_1))), (.agg [(.str a), (.fz false e_2 l), (.str k), (.fz false e_3 d)])], [(.cells [(.tsl false e_4 e_5 e_6 n .tight)]), (.tbl false e_7 t)] => .br (Nat.beq e_0 (0 : Nat) && (Nat.beq e_1 (0 : Nat) && (Sh.beq e_2 shCol && (Sh.beq e_3 shDep && (Sh.beq e_4 shTab && (Nat.beq e_5 (1 : Nat) && (Nat.beq e_6 (0 : Nat) && (Sh.beq e_7 shTab && (true))))))))) (snamedP_t0 n t a l k d) .fail
  | _, _ => .fail⟩
theorem snamedP_ok : SpecOk Try.prog 43 snamedP.f := specOk_comes fun args s v s' tch e => by
  simp only [snamedP] at e
  split at e
  · obtain ⟨hg, e⟩ := if_run e
    simp only [Bool.and_eq_true] at hg
    obtain ⟨h_0, h_1, h_2, h_3, h_4, h_5, h_6, h_7, _⟩ := hg
    obtain rfl := Nat.eq_of_beq_eq_true h_0
    obtain rfl := Nat.eq_of_beq_eq_true h_1
    obtain rfl := Sh.beq_eq _ _ h_2
    obtain rfl := Sh.beq_eq _ _ h_3
    obtain rfl := Sh.beq_eq _ _ h_4
    obtain rfl := Nat.eq_of_beq_eq_true h_5
    obtain rfl := Nat.eq_of_beq_eq_true h_6
    obtain rfl := Sh.beq_eq _ _ h_7
    refine comes_of ok cfCP_pr_k (L := 100) (ms := []) (by kernel_rfl) (snamedP_t0_lp cfCP_pr_k) ?_
    exact snamedP_t0_b (h := K_run e) ..
  · cases e
noncomputable def snamedP_pr : FuncId → Option Sy.Spec := addP 43 snamedP cfCP_pr
theorem snamedP_pr_k : PrOk Try.prog snamedP_pr := prOk_add snamedP_ok cfCP_pr_k
noncomputable def refsP_t0_L0_T (l0 : List D) (i1 : Int) (n2 : Nat) (l3 : List D) (i4 : Int) : List AV := ([AV.ptr (some ((0 : Nat), (0 : Nat))), .any, .any, .any, .any, .any, .any, .any, .any, .any, AV.fz false shCol l0, AV.int IntKind.i64 i1, AV.int IntKind.i64 i4] ++ padAny 34)
noncomputable def refsP_t0_L0_S (l0 : List D) (i1 : Int) (n2 : Nat) (l3 : List D) (i4 : Int) : St := [Ent.cells [AV.tsl false shTab (1 : Nat) (0 : Nat) n2 Cap.tight], Ent.tbl false shTab l3]
noncomputable def refsP_t0_L0_of : List AV → St → Option (((List D) × Int × Nat × (List D)) × (Int)) := fun t s => match t, s with
  | (.ptr (.some (e_0, e_1))) :: t_0, [(.cells [(.tsl false e_3 e_4 e_5 n2 .tight)]), (.tbl false e_6 l3)] => (match dropAny 9 t_0 with
    | some ((.fz false e_2 l0) :: (.int .i64 i1) :: (.int .i64 i4) :: t_1) => (match dropAny 34 t_1 with
    | some ([]) => (match Nat.beq e_0 (0 : Nat) && (Nat.beq e_1 (0 : Nat) && (Sh.beq e_2 shCol && (Sh.beq e_3 shTab && (Nat.beq e_4 (1 : Nat) && (Nat.beq e_5 (0 : Nat) && (Sh.beq e_6 shTab && (true))))))) with | true => some ((l0, i1, n2, l3), (i4)) | false => none)
    | _ => none)
    | _ => none)
  | _, _ => none
noncomputable def refsP_t0_L0_ex (i : (List D) × Int × Nat × (List D)) (y : Nat × Int) (k : KS) : Prop := let l0 := i.1; let i1 := i.2.1; let n2 := i.2.2.1; let l3 := i.2.2.2; let tag := y.1; let iy6 := y.2; br (Nat.beq tag 0) (k (Ex.ret) ([.any, .any, .any, .any, AV.int IntKind.i64 iy6] ++ padAny 42) [Ent.cells [AV.tsl false shTab (1 : Nat) (0 : Nat) n2 Cap.tight], Ent.tbl false shTab l3]) (br (Nat.beq tag 1) (k (Ex.normal) ([.any] ++ padAny 46) [Ent.cells [AV.tsl false shTab (1 : Nat) (0 : Nat) n2 Cap.tight], Ent.tbl false shTab l3]) (False))
theorem refsP_t0_L0_of_ok : ∀ t s (i : (List D) × Int × Nat × (List D)) (x : Int), refsP_t0_L0_of t s = some (i, x) → t = refsP_t0_L0_T i.1 i.2.1 i.2.2.1 i.2.2.2 x ∧ s = refsP_t0_L0_S i.1 i.2.1 i.2.2.1 i.2.2.2 x := by
  intro t s i x h
  unfold refsP_t0_L0_of at h
  split at h
  · split at h
    · rename_i ha
      obtain rfl := dropAny_eq ha
      split at h
      · rename_i ha
        obtain rfl := dropAny_eq ha
        split at h
        · rename_i hg
          cases h
          simp only [Bool.and_eq_true] at hg
          obtain ⟨h_0, h_1, h_2, h_3, h_4, h_5, h_6, _⟩ := hg
          obtain rfl := Nat.eq_of_beq_eq_true h_0
          obtain rfl := Nat.eq_of_beq_eq_true h_1
          obtain rfl := Sh.beq_eq _ _ h_2
          obtain rfl := Sh.beq_eq _ _ h_3
          obtain rfl := Nat.eq_of_beq_eq_true h_4
          obtain rfl := Nat.eq_of_beq_eq_true h_5
          obtain rfl := Sh.beq_eq _ _ h_6
          exact ⟨rfl, rfl⟩
        · cases h
      · cases h
    · cases h
  · cases h
noncomputable def refsP_t0_L0_stp (l0 : List D) (i1 : Int) (n2 : Nat) (l3 : List D) (i4 : Int) : NT (Int) (Nat × Int) :=
  NT.br (decide (i4 < i1))
    (NT.br (decide ((0 : Int) ≤ i4) && decide (i4 < (↑l0.length : Int)))
     (NT.br (eqBytes ((l0.getD i4.toNat D.nul).fld (3 : Nat)).asStr [])
      (NT.more (IntKind.i64.wrap (i4 + (1 : Int))))
      (NT.br (findP_t0_V0 n2 l3 ((l0.getD i4.toNat D.nul).fld (3 : Nat)).asStr)
       (NT.br (!findP_t0_V5 n2 l3 ((l0.getD i4.toNat D.nul).fld (3 : Nat)).asStr)
        (NT.done (0, (3 : Int)))
        (NT.br (eqBytes (findP_t0_V3 n2 l3 ((l0.getD i4.toNat D.nul).fld (3 : Nat)).asStr) [])
         (NT.done (0, (9 : Int)))
         (NT.br (ixCP_t0_V0 (findP_t0_V2 n2 l3 ((l0.getD i4.toNat D.nul).fld (3 : Nat)).asStr) (findP_t0_V3 n2 l3 ((l0.getD i4.toNat D.nul).fld (3 : Nat)).asStr) && true)
          (NT.br (decide ((0 : Int) ≤ ixCP_t0_V1 (findP_t0_V2 n2 l3 ((l0.getD i4.toNat D.nul).fld (3 : Nat)).asStr) (findP_t0_V3 n2 l3 ((l0.getD i4.toNat D.nul).fld (3 : Nat)).asStr)) && decide (ixCP_t0_V1 (findP_t0_V2 n2 l3 ((l0.getD i4.toNat D.nul).fld (3 : Nat)).asStr) (findP_t0_V3 n2 l3 ((l0.getD i4.toNat D.nul).fld (3 : Nat)).asStr) < (↑(findP_t0_V2 n2 l3 ((l0.getD i4.toNat D.nul).fld (3 : Nat)).asStr).length : Int)))
           (NT.br (!decide ((((findP_t0_V2 n2 l3 ((l0.getD i4.toNat D.nul).fld (3 : Nat)).asStr).getD (ixCP_t0_V1 (findP_t0_V2 n2 l3 ((l0.getD i4.toNat D.nul).fld (3 : Nat)).asStr) (findP_t0_V3 n2 l3 ((l0.getD i4.toNat D.nul).fld (3 : Nat)).asStr)).toNat D.nul).fld (1 : Nat)).asInt = ((l0.getD i4.toNat D.nul).fld (1 : Nat)).asInt))
            (NT.done (0, (4 : Int)))
            (NT.more (IntKind.i64.wrap (i4 + (1 : Int)))))
           (NT.fail))
          (NT.fail))))
       (NT.fail)))
     (NT.fail))
    (NT.done (1, 0))
noncomputable def refsP_t0_L0 (i : (List D) × Int × Nat × (List D)) (x : Int) := refsP_t0_L0_stp i.1 i.2.1 i.2.2.1 i.2.2.2 x
theorem refsP_t0_L0_rd (l0 : List D) (i1 : Int) (n2 : Nat) (l3 : List D) (i4 : Int) (more : List AV → St → Prop) (kk : KS) : roundK Try.prog snamedP_pr noL 100 46 0 (refsP_t0_L0_T l0 i1 n2 l3 i4) (refsP_t0_L0_S l0 i1 n2 l3 i4) (againK 2 0 [.yes, .no, .no, .no, .no, .no, .no, .no, .no, .no, .yes, .yes, .yes] [.no, .no, .no, .no, .yes] more kk) = (refsP_t0_L0_stp l0 i1 n2 l3 i4).K (fun x' => more (refsP_t0_L0_T l0 i1 n2 l3 x') (refsP_t0_L0_S l0 i1 n2 l3 x')) (fun y => refsP_t0_L0_ex (l0, i1, n2, l3) y kk) := by kernel_rfl
noncomputable def refsP_t0_L0_LP : Nat → Option LoopS := addL 0 (headG 2 [.yes, .no, .no, .no, .no, .no, .no, .no, .no, .no, .yes, .yes, .yes] (outL refsP_t0_L0 refsP_t0_L0_of refsP_t0_L0_ex)) noL
theorem refsP_t0_L0_lp (hpr : PrOk Try.prog snamedP_pr) : LoopsFor Try.prog 46 2 refsP_t0_L0_LP := loops_lp (L := 100) (T := fun i x => refsP_t0_L0_T i.1 i.2.1 i.2.2.1 i.2.2.2 x) (S := fun i x => refsP_t0_L0_S i.1 i.2.1 i.2.2.1 i.2.2.2 x) ok hpr (by kernel_rfl) loops_none refsP_t0_L0_of_ok (fun i x more kk => refsP_t0_L0_rd i.1 i.2.1 i.2.2.1 i.2.2.2 x more kk)
noncomputable def refsP_t0r (n : Nat) (t : List D) (a : List UInt8) (l : List D) (k : List UInt8) (d : List D) : RT :=
  RT.br (loopOk (refsP_t0_L0 (l, (↑l.length : Int), n, t)) (0 : Int))
    (RT.br ((loopV (refsP_t0_L0 (l, (↑l.length : Int), n, t)) (0 : Int)).fst.beq (0 : Nat))
     (okL (AV.int IntKind.i64 (loopV (refsP_t0_L0 (l, (↑l.length : Int), n, t)) (0 : Int)).snd) ([Ent.cells [AV.tsl false shTab (1 : Nat) (0 : Nat) n Cap.tight], Ent.tbl false shTab t]))
     (RT.br ((loopV (refsP_t0_L0 (l, (↑l.length : Int), n, t)) (0 : Int)).fst.beq (1 : Nat))
      (okL (AV.int IntKind.i64 (0 : Int)) ([Ent.cells [AV.tsl false shTab (1 : Nat) (0 : Nat) n Cap.tight], Ent.tbl false shTab t]))
      (RT.fail)))
    (RT.fail)
theorem refsP_t0r_b (n : Nat) (t : List D) (a : List UInt8) (l : List D) (k : List UInt8) (d : List D) (K : AV → St → Prop) : bodyK Try.prog snamedP_pr refsP_t0_L0_LP 100 46 [] [.ptr (some (0, 0)), .agg [.str a, .fz false shCol l, .str k, .fz false shDep d]] [.cells [.tsl false shTab 1 0 n .tight], .tbl false shTab t] K = RT.K (fun v s _ => K v s) (refsP_t0r n t a l k d) := by kernel_rfl
noncomputable def refsP_t0_V0 (n : Nat) (t : List D) (a : List UInt8) (l : List D) (k : List UInt8) (d : List D) : Bool :=
  loopOk (refsP_t0_L0 (l, (↑l.length : Int), n, t)) (0 : Int) && bif (loopV (refsP_t0_L0 (l, (↑l.length : Int), n, t)) (0 : Int)).fst.beq (0 : Nat) then true else (loopV (refsP_t0_L0 (l, (↑l.length : Int), n, t)) (0 : Int)).fst.beq (1 : Nat) && true
noncomputable def refsP_t0_V1 (n : Nat) (t : List D) (a : List UInt8) (l : List D) (k : List UInt8) (d : List D) : Int :=
  bif (loopV (refsP_t0_L0 (l, (↑l.length : Int), n, t)) (0 : Int)).fst.beq (0 : Nat) then (loopV (refsP_t0_L0 (l, (↑l.length : Int), n, t)) (0 : Int)).snd else (0 : Int)
noncomputable def refsP_t0 (n : Nat) (t : List D) (a : List UInt8) (l : List D) (k : List UInt8) (d : List D) : RT :=
  RT.br (refsP_t0_V0 n t a l k d)
    (okL (Go.Sy.AV.int (IntKind.i64) (refsP_t0_V1 n t a l k d)) [(Go.Sy.Ent.cells [(Go.Sy.AV.tsl (false) shTab ((1 : Nat)) ((0 : Nat)) n Go.Sy.Cap.tight)]), (Go.Sy.Ent.tbl (false) shTab t)])
    (RT.fail)
theorem refsP_t0_m (n : Nat) (t : List D) (a : List UInt8) (l : List D) (k : List UInt8) (d : List D) (K : AV → St → Prop) : RT.K (fun v s _ => K v s) (RT.mergeW ([Ent.cells [AV.tsl false shTab (1 : Nat) (0 : Nat) n Cap.tight], Ent.tbl false shTab t]) (refsP_t0r n t a l k d)) = RT.K (fun v s _ => K v s) (refsP_t0 n t a l k d) := by kernel_rfl
theorem refsP_t0_b (n : Nat) (t : List D) (a : List UInt8) (l : List D) (k : List UInt8) (d : List D) (K : AV → St → Prop) (h : RT.K (fun v s _ => K v s) (refsP_t0 n t a l k d)) : bodyK Try.prog snamedP_pr refsP_t0_L0_LP 100 46 [] [.ptr (some (0, 0)), .agg [.str a, .fz false shCol l, .str k, .fz false shDep d]] [.cells [.tsl false shTab 1 0 n .tight], .tbl false shTab t] K := Eq.mpr (refsP_t0r_b ..) (mergeW_K (S := [Ent.cells [AV.tsl false shTab (1 : Nat) (0 : Nat) n Cap.tight], Ent.tbl false shTab t]) _ ⟨⟨rfl, ⟨rfl, trivial⟩⟩, trivial⟩ (Eq.mpr (refsP_t0_m ..) h))
theorem refsP_t0_lp (hpr : PrOk Try.prog snamedP_pr) : LoopsFor Try.prog 46 2 refsP_t0_L0_LP := (refsP_t0_L0_lp hpr)
noncomputable def refsP : Sy.Spec := ⟨[], fun args s => match args, s with
  | [(.ptr (.some (e_0, e_1))), (.agg [(.str a), (.fz false e_2 l), (.str k), (.fz false e_3 d)])], [(.cells [(.tsl false e_4 e_5 e_6 n .tight)]), (.tbl false e_7 t)] => .br (Nat.beq e_0 (0 : Nat) && (Nat.beq e_1 (0 : Nat) && (Sh.beq e_2 shCol && (Sh.beq e_3 shDep && (Sh.beq e_4 shTab && (Nat.beq e_5 (1 : Nat) && (Nat.beq e_6 (0 : Nat) && (Sh.beq e_7 shTab && (true))))))))) (refsP_t0 n t a l k d) .fail
  | _, _ => .fail⟩
theorem refsP_ok : SpecOk Try.prog 46 refsP.f := specOk_comes fun args s v s' tch e => by
  simp only [refsP] at e
  split at e
  · obtain ⟨hg, e⟩ := if_run e
    simp only [Bool.and_eq_true] at hg
    obtain ⟨h_0, h_1, h_2, h_3, h_4, h_5, h_6, h_7, _⟩ := hg
    obtain rfl := Nat.eq_of_beq_eq_true h_0
    obtain rfl := Nat.eq_of_beq_eq_true h_1
    obtain rfl := Sh.beq_eq _ _ h_2
    obtain rfl := Sh.beq_eq _ _ h_3
    obtain rfl := Sh.beq_eq _ _ h_4
    obtain rfl := Nat.eq_of_beq_eq_true h_5
    obtain rfl := Nat.eq_of_beq_eq_true h_6
    obtain rfl := Sh.beq_eq _ _ h_7
    refine comes_of ok snamedP_pr_k (L := 100) (ms := []) (by kernel_rfl) (refsP_t0_lp snamedP_pr_k) ?_
    exact refsP_t0_b (h := K_run e) ..
  · cases e
noncomputable def refsP_pr : FuncId → Option Sy.Spec := addP 46 refsP snamedP_pr
theorem refsP_pr_k : PrOk Try.prog refsP_pr := prOk_add refsP_ok snamedP_pr_k
noncomputable def addSP_t0r (n : Nat) (t : List D) (a : List UInt8) (l : List D) (k : List UInt8) (d : List D) : RT :=
  RT.br (decide ((↑n : Int) ≥ (8 : Int)))
    (okL (AV.int IntKind.i64 (5 : Int)) ([Ent.cells [AV.tsl false shTab (1 : Nat) (0 : Nat) n Cap.tight], Ent.tbl false shTab t]))
    (RT.br (decide ((↑l.length : Int) = (0 : Int)))
     (okL (AV.int IntKind.i64 (5 : Int)) ([Ent.cells [AV.tsl false shTab (1 : Nat) (0 : Nat) n Cap.tight], Ent.tbl false shTab t]))
     (RT.br (decide ((↑l.length : Int) > (6 : Int)))
      (okL (AV.int IntKind.i64 (5 : Int)) ([Ent.cells [AV.tsl false shTab (1 : Nat) (0 : Nat) n Cap.tight], Ent.tbl false shTab t]))
      (RT.br (decide ((↑d.length : Int) > (3 : Int)))
       (okL (AV.int IntKind.i64 (5 : Int)) ([Ent.cells [AV.tsl false shTab (1 : Nat) (0 : Nat) n Cap.tight], Ent.tbl false shTab t]))
       (RT.br (snamedP_t0_V0 n t a l k d)
        (RT.br (!snamedP_t0_V1 n t a l k d)
         (okL (AV.int IntKind.i64 (3 : Int)) ([Ent.cells [AV.tsl false shTab (1 : Nat) (0 : Nat) n Cap.tight], Ent.tbl false shTab t]))
         (RT.br (ixCP_t2_V0 l && true)
          (RT.br (cfCP_t0_V0 l)
           (okL (AV.int IntKind.i64 (4 : Int)) ([Ent.cells [AV.tsl false shTab (1 : Nat) (0 : Nat) n Cap.tight], Ent.tbl false shTab t]))
           (RT.br (refsP_t0_V0 n t a l k d)
            (RT.br (!decide (refsP_t0_V1 n t a l k d = (0 : Int)))
             (okL (AV.int IntKind.i64 (refsP_t0_V1 n t a l k d)) ([Ent.cells [AV.tsl false shTab (1 : Nat) (0 : Nat) n Cap.tight], Ent.tbl false shTab t]))
             (RT.br (copiedP_t0_V0 a l k d)
              (RT.br (ixCP_t1_V0 l.length l k && true)
               (RT.br (decide (ixCP_t1_V1 l.length l k ≥ (0 : Int)))
                (RT.br (decide ((0 : Int) ≤ ixCP_t1_V1 l.length l k) && decide (ixCP_t1_V1 l.length l k < (↑l.length : Int)))
                 (RT.br (decide ((0 : Nat) + (ixCP_t1_V1 l.length l k).toNat < l.length))
                  (RT.br (((0 : Nat) + l.length).ble (l.set ((0 : Nat) + (ixCP_t1_V1 l.length l k).toNat) (D.agg [D.str ((l.getD ((0 : Nat) + (ixCP_t1_V1 l.length l k).toNat) D.nul).fld (0 : Nat)).asStr, D.int ((l.getD ((0 : Nat) + (ixCP_t1_V1 l.length l k).toNat) D.nul).fld (1 : Nat)).asInt, D.bool true, D.str ((l.getD ((0 : Nat) + (ixCP_t1_V1 l.length l k).toNat) D.nul).fld (3 : Nat)).asStr])).length && (((0 : Nat) + d.length).ble (copiedP_t0_V1 a l k d).length && true) && true && (((3 : Nat) * (n + (1 : Nat)) + (2000 : Nat)) * (80 : Nat)).ble (281474976710656 : Nat) && ((0 : Nat) + n).ble t.length)
                   (okL (AV.int IntKind.i64 (0 : Int)) ([Ent.cells [AV.tsl true shTab (2 : Nat) (0 : Nat) (n + (1 : Nat)) Cap.tight], Ent.dead, Ent.tbl false shTab (List.take n (List.drop (0 : Nat) t) ++ [D.agg [D.str a, D.list (List.take l.length (List.drop (0 : Nat) (l.set ((0 : Nat) + (ixCP_t1_V1 l.length l k).toNat) (D.agg [D.str ((l.getD ((0 : Nat) + (ixCP_t1_V1 l.length l k).toNat) D.nul).fld (0 : Nat)).asStr, D.int ((l.getD ((0 : Nat) + (ixCP_t1_V1 l.length l k).toNat) D.nul).fld (1 : Nat)).asInt, D.bool true, D.str ((l.getD ((0 : Nat) + (ixCP_t1_V1 l.length l k).toNat) D.nul).fld (3 : Nat)).asStr])))), D.str k, D.list (List.take d.length (List.drop (0 : Nat) (copiedP_t0_V1 a l k d)))]])]))
                   (RT.fail))
                  (RT.fail))
                 (RT.fail))
                (RT.br (((0 : Nat) + l.length).ble l.length && (((0 : Nat) + d.length).ble (copiedP_t0_V1 a l k d).length && true) && true && (((3 : Nat) * (n + (1 : Nat)) + (2000 : Nat)) * (80 : Nat)).ble (281474976710656 : Nat) && ((0 : Nat) + n).ble t.length)
                 (okL (AV.int IntKind.i64 (0 : Int)) ([Ent.cells [AV.tsl true shTab (2 : Nat) (0 : Nat) (n + (1 : Nat)) Cap.tight], Ent.dead, Ent.tbl false shTab (List.take n (List.drop (0 : Nat) t) ++ [D.agg [D.str a, D.list (List.take l.length (List.drop (0 : Nat) l)), D.str k, D.list (List.take d.length (List.drop (0 : Nat) (copiedP_t0_V1 a l k d)))]])]))
                 (RT.fail)))
               (RT.fail))
              (RT.fail)))
            (RT.fail)))
          (RT.fail)))
        (RT.fail)))))
theorem addSP_t0r_b (n : Nat) (t : List D) (a : List UInt8) (l : List D) (k : List UInt8) (d : List D) (K : AV → St → Prop) : bodyK Try.prog refsP_pr noL 100 16 [] [.ptr (some (0, 0)), .agg [.str a, .fz false shCol l, .str k, .fz false shDep d]] [.cells [.tsl false shTab 1 0 n .tight], .tbl false shTab t] K = RT.K (fun v s _ => K v s) (addSP_t0r n t a l k d) := by kernel_rfl
noncomputable def addSP_t0_V0 (n : Nat) (t : List D) (a : List UInt8) (l : List D) (k : List UInt8) (d : List D) : Bool :=
  decide ((↑n : Int) ≥ (8 : Int))
noncomputable def addSP_t0_V1 (n : Nat) (t : List D) (a : List UInt8) (l : List D) (k : List UInt8) (d : List D) : Bool :=
  decide ((↑l.length : Int) = (0 : Int))
noncomputable def addSP_t0_V2 (n : Nat) (t : List D) (a : List UInt8) (l : List D) (k : List UInt8) (d : List D) : Bool :=
  decide ((↑l.length : Int) > (6 : Int))
noncomputable def addSP_t0_V3 (n : Nat) (t : List D) (a : List UInt8) (l : List D) (k : List UInt8) (d : List D) : Bool :=
  decide ((↑d.length : Int) > (3 : Int))
noncomputable def addSP_t0_V4 (n : Nat) (t : List D) (a : List UInt8) (l : List D) (k : List UInt8) (d : List D) : Bool :=
  !snamedP_t0_V1 n t a l k d
noncomputable def addSP_t0_V5 (n : Nat) (t : List D) (a : List UInt8) (l : List D) (k : List UInt8) (d : List D) : Bool :=
  !decide (refsP_t0_V1 n t a l k d = (0 : Int))
noncomputable def addSP_t0_V6 (n : Nat) (t : List D) (a : List UInt8) (l : List D) (k : List UInt8) (d : List D) : Bool :=
  ixCP_t1_V0 l.length l k && true
noncomputable def addSP_t0_V7 (n : Nat) (t : List D) (a : List UInt8) (l : List D) (k : List UInt8) (d : List D) : Bool :=
  decide (ixCP_t1_V1 l.length l k ≥ (0 : Int))
noncomputable def addSP_t0_V8 (n : Nat) (t : List D) (a : List UInt8) (l : List D) (k : List UInt8) (d : List D) : Bool :=
  decide ((0 : Int) ≤ ixCP_t1_V1 l.length l k) && decide (ixCP_t1_V1 l.length l k < (↑l.length : Int))
noncomputable def addSP_t0_V9 (n : Nat) (t : List D) (a : List UInt8) (l : List D) (k : List UInt8) (d : List D) : Bool :=
  decide ((0 : Nat) + (ixCP_t1_V1 l.length l k).toNat < l.length)
noncomputable def addSP_t0_V10 (n : Nat) (t : List D) (a : List UInt8) (l : List D) (k : List UInt8) (d : List D) : Bool :=
  ((0 : Nat) + l.length).ble (l.set ((0 : Nat) + (ixCP_t1_V1 l.length l k).toNat) (D.agg [D.str ((l.getD ((0 : Nat) + (ixCP_t1_V1 l.length l k).toNat) D.nul).fld (0 : Nat)).asStr, D.int ((l.getD ((0 : Nat) + (ixCP_t1_V1 l.length l k).toNat) D.nul).fld (1 : Nat)).asInt, D.bool true, D.str ((l.getD ((0 : Nat) + (ixCP_t1_V1 l.length l k).toNat) D.nul).fld (3 : Nat)).asStr])).length && (((0 : Nat) + d.length).ble (copiedP_t0_V1 a l k d).length && true) && true && (((3 : Nat) * (n + (1 : Nat)) + (2000 : Nat)) * (80 : Nat)).ble (281474976710656 : Nat) && ((0 : Nat) + n).ble t.length
noncomputable def addSP_t0_V11 (n : Nat) (t : List D) (a : List UInt8) (l : List D) (k : List UInt8) (d : List D) : List D :=
  List.take n (List.drop (0 : Nat) t) ++ [D.agg [D.str a, D.list (List.take l.length (List.drop (0 : Nat) (l.set ((0 : Nat) + (ixCP_t1_V1 l.length l k).toNat) (D.agg [D.str ((l.getD ((0 : Nat) + (ixCP_t1_V1 l.length l k).toNat) D.nul).fld (0 : Nat)).asStr, D.int ((l.getD ((0 : Nat) + (ixCP_t1_V1 l.length l k).toNat) D.nul).fld (1 : Nat)).asInt, D.bool true, D.str ((l.getD ((0 : Nat) + (ixCP_t1_V1 l.length l k).toNat) D.nul).fld (3 : Nat)).asStr])))), D.str k, D.list (List.take d.length (List.drop (0 : Nat) (copiedP_t0_V1 a l k d)))]]
noncomputable def addSP_t0_V12 (n : Nat) (t : List D) (a : List UInt8) (l : List D) (k : List UInt8) (d : List D) : Bool :=
  ((0 : Nat) + l.length).ble l.length && (((0 : Nat) + d.length).ble (copiedP_t0_V1 a l k d).length && true) && true && (((3 : Nat) * (n + (1 : Nat)) + (2000 : Nat)) * (80 : Nat)).ble (281474976710656 : Nat) && ((0 : Nat) + n).ble t.length
noncomputable def addSP_t0_V13 (n : Nat) (t : List D) (a : List UInt8) (l : List D) (k : List UInt8) (d : List D) : List D :=
  List.take n (List.drop (0 : Nat) t) ++ [D.agg [D.str a, D.list (List.take l.length (List.drop (0 : Nat) l)), D.str k, D.list (List.take d.length (List.drop (0 : Nat) (copiedP_t0_V1 a l k d)))]]
noncomputable def addSP_t0 (n : Nat) (t : List D) (a : List UInt8) (l : List D) (k : List UInt8) (d : List D) : RT :=
  RT.br (addSP_t0_V0 n t a l k d)
    (okL (Go.Sy.AV.int (IntKind.i64) ((5 : Int))) [(Go.Sy.Ent.cells [(Go.Sy.AV.tsl (false) shTab ((1 : Nat)) ((0 : Nat)) n Go.Sy.Cap.tight)]), (Go.Sy.Ent.tbl (false) shTab t)])
    (RT.br (addSP_t0_V1 n t a l k d)
     (okL (Go.Sy.AV.int (IntKind.i64) ((5 : Int))) [(Go.Sy.Ent.cells [(Go.Sy.AV.tsl (false) shTab ((1 : Nat)) ((0 : Nat)) n Go.Sy.Cap.tight)]), (Go.Sy.Ent.tbl (false) shTab t)])
     (RT.br (addSP_t0_V2 n t a l k d)
      (okL (Go.Sy.AV.int (IntKind.i64) ((5 : Int))) [(Go.Sy.Ent.cells [(Go.Sy.AV.tsl (false) shTab ((1 : Nat)) ((0 : Nat)) n Go.Sy.Cap.tight)]), (Go.Sy.Ent.tbl (false) shTab t)])
      (RT.br (addSP_t0_V3 n t a l k d)
       (okL (Go.Sy.AV.int (IntKind.i64) ((5 : Int))) [(Go.Sy.Ent.cells [(Go.Sy.AV.tsl (false) shTab ((1 : Nat)) ((0 : Nat)) n Go.Sy.Cap.tight)]), (Go.Sy.Ent.tbl (false) shTab t)])
       (RT.br (snamedP_t0_V0 n t a l k d)
        (RT.br (addSP_t0_V4 n t a l k d)
         (okL (Go.Sy.AV.int (IntKind.i64) ((3 : Int))) [(Go.Sy.Ent.cells [(Go.Sy.AV.tsl (false) shTab ((1 : Nat)) ((0 : Nat)) n Go.Sy.Cap.tight)]), (Go.Sy.Ent.tbl (false) shTab t)])
         (RT.br (ixCP_t2_V0 l && true)
          (RT.br (cfCP_t0_V0 l)
           (okL (Go.Sy.AV.int (IntKind.i64) ((4 : Int))) [(Go.Sy.Ent.cells [(Go.Sy.AV.tsl (false) shTab ((1 : Nat)) ((0 : Nat)) n Go.Sy.Cap.tight)]), (Go.Sy.Ent.tbl (false) shTab t)])
           (RT.br (refsP_t0_V0 n t a l k d)
            (RT.br (addSP_t0_V5 n t a l k d)
             (okL (Go.Sy.AV.int (IntKind.i64) (refsP_t0_V1 n t a l k d)) [(Go.Sy.Ent.cells [(Go.Sy.AV.tsl (false) shTab ((1 : Nat)) ((0 : Nat)) n Go.Sy.Cap.tight)]), (Go.Sy.Ent.tbl (false) shTab t)])
             (RT.br (copiedP_t0_V0 a l k d)
              (RT.br (addSP_t0_V6 n t a l k d)
               (RT.br (addSP_t0_V7 n t a l k d)
                (RT.br (addSP_t0_V8 n t a l k d)
                 (RT.br (addSP_t0_V9 n t a l k d)
                  (RT.br (addSP_t0_V10 n t a l k d)
                   (okL (Go.Sy.AV.int (IntKind.i64) ((0 : Int))) [(Go.Sy.Ent.cells [(Go.Sy.AV.tsl (true) shTab ((2 : Nat)) ((0 : Nat)) (n + (1 : Nat)) Go.Sy.Cap.tight)]), Go.Sy.Ent.dead, (Go.Sy.Ent.tbl (false) shTab (addSP_t0_V11 n t a l k d))])
                   (RT.fail))
                  (RT.fail))
                 (RT.fail))
                (RT.br (addSP_t0_V12 n t a l k d)
                 (okL (Go.Sy.AV.int (IntKind.i64) ((0 : Int))) [(Go.Sy.Ent.cells [(Go.Sy.AV.tsl (true) shTab ((2 : Nat)) ((0 : Nat)) (n + (1 : Nat)) Go.Sy.Cap.tight)]), Go.Sy.Ent.dead, (Go.Sy.Ent.tbl (false) shTab (addSP_t0_V13 n t a l k d))])
                 (RT.fail)))
               (RT.fail))
              (RT.fail)))
            (RT.fail)))
          (RT.fail)))
        (RT.fail)))))
theorem addSP_t0_m (n : Nat) (t : List D) (a : List UInt8) (l : List D) (k : List UInt8) (d : List D) (K : AV → St → Prop) : RT.K (fun v s _ => K v s) (addSP_t0r n t a l k d) = RT.K (fun v s _ => K v s) (addSP_t0 n t a l k d) := by kernel_rfl
theorem addSP_t0_b (n : Nat) (t : List D) (a : List UInt8) (l : List D) (k : List UInt8) (d : List D) (K : AV → St → Prop) (h : RT.K (fun v s _ => K v s) (addSP_t0 n t a l k d)) : bodyK Try.prog refsP_pr noL 100 16 [] [.ptr (some (0, 0)), .agg [.str a, .fz false shCol l, .str k, .fz false shDep d]] [.cells [.tsl false shTab 1 0 n .tight], .tbl false shTab t] K := Eq.mpr (addSP_t0r_b ..) (Eq.mpr (addSP_t0_m ..) h)
theorem addSP_t0_lp (hpr : PrOk Try.prog refsP_pr) : LoopsFor Try.prog 16 2 noL := loops_none
noncomputable def addSP : Sy.Spec := ⟨[], fun args s => match args, s with
  | [(.ptr (.some (e_0, e_1))), (.agg [(.str a), (.fz false e_2 l), (.str k), (.fz false e_3 d)])], [(.cells [(.tsl false e_4 e_5 e_6 n .tight)]), (.tbl false e_7 t)] => .br (Nat.beq e_0 (0 : Nat) && (Nat.beq e_1 (0 : Nat) && (Sh.beq e_2 shCol && (Sh.beq e_3 shDep && (Sh.beq e_4 shTab && (Nat.beq e_5 (1 : Nat) && (Nat.beq e_6 (0 : Nat) && (Sh.beq e_7 shTab && (true))))))))) (addSP_t0 n t a l k d) .fail
  | _, _ => .fail⟩
theorem addSP_ok : SpecOk Try.prog 16 addSP.f := specOk_comes fun args s v s' tch e => by
  simp only [addSP] at e
  split at e
  · obtain ⟨hg, e⟩ := if_run e
    simp only [Bool.and_eq_true] at hg
    obtain ⟨h_0, h_1, h_2, h_3, h_4, h_5, h_6, h_7, _⟩ := hg
    obtain rfl := Nat.eq_of_beq_eq_true h_0
    obtain rfl := Nat.eq_of_beq_eq_true h_1
    obtain rfl := Sh.beq_eq _ _ h_2
    obtain rfl := Sh.beq_eq _ _ h_3
    obtain rfl := Sh.beq_eq _ _ h_4
    obtain rfl := Nat.eq_of_beq_eq_true h_5
    obtain rfl := Nat.eq_of_beq_eq_true h_6
    obtain rfl := Sh.beq_eq _ _ h_7
    refine comes_of ok refsP_pr_k (L := 100) (ms := []) (by kernel_rfl) (addSP_t0_lp refsP_pr_k) ?_
    exact addSP_t0_b (h := K_run e) ..
  · cases e
noncomputable def addSP_pr : FuncId → Option Sy.Spec := addP 16 addSP refsP_pr
theorem addSP_pr_k : PrOk Try.prog addSP_pr := prOk_add addSP_ok refsP_pr_k
end Go.Proofs.Ytekedhfmdpbplaa
