/- Walks: forms of tables: the reference's, the statements' own. -/
import Derived.Test.YtekedhfmdpbplaaSyMg
import Derived.Test.YtekedhfmdpbplaaPvG
import Derived.Test.YtekedhfmdpbplaaPvX
import Derived.Test.YtekedhfmdpbplaaProg
import Derived.KernelRfl
set_option linter.unusedSimpArgs false
set_option linter.unusedVariables false
set_option maxRecDepth 100000
namespace Go.Proofs.Ytekedhfmdpbplaa
open Go Go.Sy
attribute [local irreducible] bodyK roundK cutK
theorem d1 : Try.prog.follows .mixedOrders = true := by kernel_rfl
theorem d2 : namesOkA Try.prog = true := by kernel_rfl
theorem d3 : drawsAllA Try.prog = true := by kernel_rfl
theorem d4 : extsOkA Try.prog = true := by kernel_rfl
theorem ok : ProgOk Try.prog := progOk_of d1 d2 d3 d4
noncomputable def cutX_t0r (c0 : List UInt8) (i1 : Int) : RT :=
  RT.br (decide ((↑c0.length : Int) > i1))
    (RT.br (decide ((0 : Int) ≤ i1) && decide (i1 ≤ (↑c0.length : Int)) && true)
     (okL (AV.str (List.drop (0 : Nat) (List.take i1.toNat c0))) ([]))
     (RT.fail))
    (okL (AV.str c0) ([]))
theorem cutX_t0r_b (c0 : List UInt8) (i1 : Int) (K : AV → St → Prop) : bodyK Try.prog noP noL 100 13 [] [.str c0, .int .i64 i1] [] K = RT.K (fun v s _ => K v s) (cutX_t0r c0 i1) := by kernel_rfl
noncomputable def cutX_t0_V0 (c0 : List UInt8) (i1 : Int) : Bool :=
  bif decide ((↑c0.length : Int) > i1) then decide ((0 : Int) ≤ i1) && decide (i1 ≤ (↑c0.length : Int)) && true && true else true
noncomputable def cutX_t0_V1 (c0 : List UInt8) (i1 : Int) : List UInt8 :=
  bif decide ((↑c0.length : Int) > i1) then List.drop (0 : Nat) (List.take i1.toNat c0) else c0
noncomputable def cutX_t0 (c0 : List UInt8) (i1 : Int) : RT :=
  RT.br (cutX_t0_V0 c0 i1)
    (okL (Go.Sy.AV.str (cutX_t0_V1 c0 i1)) [])
    (RT.fail)
theorem cutX_t0_m (c0 : List UInt8) (i1 : Int) (K : AV → St → Prop) : RT.K (fun v s _ => K v s) (RT.mergeW ([]) (cutX_t0r c0 i1)) = RT.K (fun v s _ => K v s) (cutX_t0 c0 i1) := by kernel_rfl
theorem cutX_t0_b (c0 : List UInt8) (i1 : Int) (K : AV → St → Prop) (h : RT.K (fun v s _ => K v s) (cutX_t0 c0 i1)) : bodyK Try.prog noP noL 100 13 [] [.str c0, .int .i64 i1] [] K := Eq.mpr (cutX_t0r_b ..) (mergeW_K (S := []) _ ⟨⟨rfl, trivial⟩, rfl⟩ (Eq.mpr (cutX_t0_m ..) h))
theorem cutX_t0_lp (hpr : PrOk Try.prog noP) : LoopsFor Try.prog 13 0 noL := loops_none
noncomputable def cutX : Sy.Spec := ⟨[], fun args s => match args, s with
  | [(.str c0), (.int .i64 i1)], [] => .br (true) (cutX_t0 c0 i1) .fail
  | _, _ => .fail⟩
theorem cutX_ok : SpecOk Try.prog 13 cutX.f := specOk_comes fun args s v s' tch e => by
  simp only [cutX] at e
  split at e
  · obtain ⟨hg, e⟩ := if_run e
    refine comes_of ok prOk_none (L := 100) (ms := []) (by kernel_rfl) (cutX_t0_lp prOk_none) ?_
    exact cutX_t0_b (h := K_run e) ..
  · cases e
noncomputable def cutX_pr : FuncId → Option Sy.Spec := addP 13 cutX noP
theorem cutX_pr_k : PrOk Try.prog cutX_pr := prOk_add cutX_ok prOk_none
noncomputable def digR_t0r (i0 : Int) : RT :=
  RT.br (decide (i0 ≥ (48 : Int)))
    (okL (AV.bool (decide (i0 ≤ (57 : Int)))) ([]))
    (okL (AV.bool false) ([]))
theorem digR_t0r_b (i0 : Int) (K : AV → St → Prop) : bodyK Try.prog cutX_pr noL 100 86 [] [.int .u8 i0] [] K = RT.K (fun v s _ => K v s) (digR_t0r i0) := by kernel_rfl
noncomputable def digR_t0_V0 (i0 : Int) : Bool :=
  bif decide (i0 ≥ (48 : Int)) then true else true
noncomputable def digR_t0_V1 (i0 : Int) : Bool :=
  bif decide (i0 ≥ (48 : Int)) then decide (i0 ≤ (57 : Int)) else false
noncomputable def digR_t0 (i0 : Int) : RT :=
  RT.br (digR_t0_V0 i0)
    (okL (Go.Sy.AV.bool (digR_t0_V1 i0)) [])
    (RT.fail)
theorem digR_t0_m (i0 : Int) (K : AV → St → Prop) : RT.K (fun v s _ => K v s) (RT.mergeW ([]) (digR_t0r i0)) = RT.K (fun v s _ => K v s) (digR_t0 i0) := by kernel_rfl
theorem digR_t0_b (i0 : Int) (K : AV → St → Prop) (h : RT.K (fun v s _ => K v s) (digR_t0 i0)) : bodyK Try.prog cutX_pr noL 100 86 [] [.int .u8 i0] [] K := Eq.mpr (digR_t0r_b ..) (mergeW_K (S := []) _ ⟨rfl, rfl⟩ (Eq.mpr (digR_t0_m ..) h))
theorem digR_t0_lp (hpr : PrOk Try.prog cutX_pr) : LoopsFor Try.prog 86 0 noL := loops_none
noncomputable def digR : Sy.Spec := ⟨[], fun args s => match args, s with
  | [(.int .u8 i0)], [] => .br (true) (digR_t0 i0) .fail
  | _, _ => .fail⟩
theorem digR_ok : SpecOk Try.prog 86 digR.f := specOk_comes fun args s v s' tch e => by
  simp only [digR] at e
  split at e
  · obtain ⟨hg, e⟩ := if_run e
    refine comes_of ok cutX_pr_k (L := 100) (ms := []) (by kernel_rfl) (digR_t0_lp cutX_pr_k) ?_
    exact digR_t0_b (h := K_run e) ..
  · cases e
noncomputable def digR_pr : FuncId → Option Sy.Spec := addP 86 digR cutX_pr
theorem digR_pr_k : PrOk Try.prog digR_pr := prOk_add digR_ok cutX_pr_k
noncomputable def letR_t0r (i0 : Int) : RT :=
  RT.br (decide (i0 = (95 : Int)))
    (okL (AV.bool true) ([]))
    (RT.br (decide (i0 ≥ (97 : Int)))
     (okL (AV.bool (decide (i0 ≤ (122 : Int)))) ([]))
     (okL (AV.bool false) ([])))
theorem letR_t0r_b (i0 : Int) (K : AV → St → Prop) : bodyK Try.prog digR_pr noL 100 88 [] [.int .u8 i0] [] K = RT.K (fun v s _ => K v s) (letR_t0r i0) := by kernel_rfl
noncomputable def letR_t0_V0 (i0 : Int) : Bool :=
  bif decide (i0 = (95 : Int)) then true else bif decide (i0 ≥ (97 : Int)) then true else true
noncomputable def letR_t0_V1 (i0 : Int) : Bool :=
  bif decide (i0 = (95 : Int)) then true else bif decide (i0 ≥ (97 : Int)) then decide (i0 ≤ (122 : Int)) else false
noncomputable def letR_t0 (i0 : Int) : RT :=
  RT.br (letR_t0_V0 i0)
    (okL (Go.Sy.AV.bool (letR_t0_V1 i0)) [])
    (RT.fail)
theorem letR_t0_m (i0 : Int) (K : AV → St → Prop) : RT.K (fun v s _ => K v s) (RT.mergeW ([]) (letR_t0r i0)) = RT.K (fun v s _ => K v s) (letR_t0 i0) := by kernel_rfl
theorem letR_t0_b (i0 : Int) (K : AV → St → Prop) (h : RT.K (fun v s _ => K v s) (letR_t0 i0)) : bodyK Try.prog digR_pr noL 100 88 [] [.int .u8 i0] [] K := Eq.mpr (letR_t0r_b ..) (mergeW_K (S := []) _ ⟨rfl, ⟨rfl, rfl⟩⟩ (Eq.mpr (letR_t0_m ..) h))
theorem letR_t0_lp (hpr : PrOk Try.prog digR_pr) : LoopsFor Try.prog 88 0 noL := loops_none
noncomputable def letR : Sy.Spec := ⟨[], fun args s => match args, s with
  | [(.int .u8 i0)], [] => .br (true) (letR_t0 i0) .fail
  | _, _ => .fail⟩
theorem letR_ok : SpecOk Try.prog 88 letR.f := specOk_comes fun args s v s' tch e => by
  simp only [letR] at e
  split at e
  · obtain ⟨hg, e⟩ := if_run e
    refine comes_of ok digR_pr_k (L := 100) (ms := []) (by kernel_rfl) (letR_t0_lp digR_pr_k) ?_
    exact letR_t0_b (h := K_run e) ..
  · cases e
noncomputable def letR_pr : FuncId → Option Sy.Spec := addP 88 letR digR_pr
theorem letR_pr_k : PrOk Try.prog letR_pr := prOk_add letR_ok digR_pr_k
noncomputable def wordR_t0r (c0 : List UInt8) : RT :=
  RT.br (eqBytes [(116 : UInt8), (97 : UInt8), (98 : UInt8), (108 : UInt8), (101 : UInt8)] c0)
    (okL (AV.bool true) ([]))
    (RT.br (eqBytes [(107 : UInt8), (101 : UInt8), (121 : UInt8)] c0)
     (okL (AV.bool true) ([]))
     (RT.br (eqBytes [(102 : UInt8), (100 : UInt8)] c0)
      (okL (AV.bool true) ([]))
      (RT.br (eqBytes [(105 : UInt8), (110 : UInt8), (116 : UInt8)] c0)
       (okL (AV.bool true) ([]))
       (RT.br (eqBytes [(116 : UInt8), (101 : UInt8), (120 : UInt8), (116 : UInt8)] c0)
        (okL (AV.bool true) ([]))
        (RT.br (eqBytes [(109 : UInt8), (117 : UInt8), (115 : UInt8), (116 : UInt8)] c0)
         (okL (AV.bool true) ([]))
         (RT.br (eqBytes [(116 : UInt8), (111 : UInt8)] c0)
          (okL (AV.bool true) ([]))
          (RT.br (eqBytes [(108 : UInt8), (111 : UInt8), (97 : UInt8), (100 : UInt8)] c0)
           (okL (AV.bool true) ([]))
           (RT.br (eqBytes [(105 : UInt8), (110 : UInt8), (115 : UInt8), (101 : UInt8), (114 : UInt8), (116 : UInt8)] c0)
            (okL (AV.bool true) ([]))
            (RT.br (eqBytes [(100 : UInt8), (101 : UInt8), (108 : UInt8), (101 : UInt8), (116 : UInt8), (101 : UInt8)] c0)
             (okL (AV.bool true) ([]))
             (RT.br (eqBytes [(117 : UInt8), (112 : UInt8), (100 : UInt8), (97 : UInt8), (116 : UInt8), (101 : UInt8)] c0)
              (okL (AV.bool true) ([]))
              (RT.br (eqBytes [(115 : UInt8), (117 : UInt8), (109 : UInt8), (109 : UInt8), (97 : UInt8), (114 : UInt8), (121 : UInt8)] c0)
               (okL (AV.bool true) ([]))
               (RT.br (eqBytes [(111 : UInt8), (110 : UInt8)] c0)
                (okL (AV.bool true) ([]))
                (RT.br (eqBytes [(98 : UInt8), (121 : UInt8)] c0)
                 (okL (AV.bool true) ([]))
                 (RT.br (eqBytes [(107 : UInt8), (101 : UInt8), (101 : UInt8), (112 : UInt8)] c0)
                  (okL (AV.bool true) ([]))
                  (RT.br (eqBytes [(100 : UInt8), (114 : UInt8), (111 : UInt8), (112 : UInt8)] c0)
                   (okL (AV.bool true) ([]))
                   (RT.br (eqBytes [(102 : UInt8), (114 : UInt8), (111 : UInt8), (109 : UInt8)] c0)
                    (okL (AV.bool true) ([]))
                    (RT.br (eqBytes [(119 : UInt8), (104 : UInt8), (101 : UInt8), (114 : UInt8), (101 : UInt8)] c0)
                     (okL (AV.bool true) ([]))
                     (RT.br (eqBytes [(97 : UInt8), (110 : UInt8), (100 : UInt8)] c0)
                      (okL (AV.bool true) ([]))
                      (RT.br (eqBytes [(105 : UInt8), (115 : UInt8)] c0)
                       (okL (AV.bool true) ([]))
                       (RT.br (eqBytes [(110 : UInt8), (111 : UInt8), (116 : UInt8)] c0)
                        (okL (AV.bool true) ([]))
                        (RT.br (eqBytes [(110 : UInt8), (117 : UInt8), (108 : UInt8), (108 : UInt8)] c0)
                         (okL (AV.bool true) ([]))
                         (RT.br (eqBytes [(114 : UInt8), (111 : UInt8), (108 : UInt8), (108 : UInt8), (117 : UInt8), (112 : UInt8)] c0)
                          (okL (AV.bool true) ([]))
                          (RT.br (eqBytes [(99 : UInt8), (117 : UInt8), (98 : UInt8), (101 : UInt8)] c0)
                           (okL (AV.bool true) ([]))
                           (RT.br (eqBytes [(115 : UInt8), (104 : UInt8), (111 : UInt8), (119 : UInt8)] c0)
                            (okL (AV.bool true) ([]))
                            (RT.br (eqBytes [(104 : UInt8), (97 : UInt8), (118 : UInt8), (105 : UInt8), (110 : UInt8), (103 : UInt8)] c0)
                             (okL (AV.bool true) ([]))
                             (RT.br (eqBytes [(111 : UInt8), (114 : UInt8), (100 : UInt8), (101 : UInt8), (114 : UInt8)] c0)
                              (okL (AV.bool true) ([]))
                              (RT.br (eqBytes [(100 : UInt8), (101 : UInt8), (115 : UInt8), (99 : UInt8)] c0)
                               (okL (AV.bool true) ([]))
                               (RT.br (eqBytes [(108 : UInt8), (105 : UInt8), (109 : UInt8), (105 : UInt8), (116 : UInt8)] c0)
                                (okL (AV.bool true) ([]))
                                (RT.br (eqBytes [(117 : UInt8), (115 : UInt8), (105 : UInt8), (110 : UInt8), (103 : UInt8)] c0)
                                 (okL (AV.bool true) ([]))
                                 (RT.br (eqBytes [(98 : UInt8), (97 : UInt8), (115 : UInt8), (101 : UInt8)] c0)
                                  (okL (AV.bool true) ([]))
                                  (RT.br (eqBytes [(99 : UInt8), (111 : UInt8), (117 : UInt8), (110 : UInt8), (116 : UInt8)] c0)
                                   (okL (AV.bool true) ([]))
                                   (RT.br (eqBytes [(115 : UInt8), (117 : UInt8), (109 : UInt8)] c0)
                                    (okL (AV.bool true) ([]))
                                    (RT.br (eqBytes [(109 : UInt8), (105 : UInt8), (110 : UInt8)] c0)
                                     (okL (AV.bool true) ([]))
                                     (RT.br (eqBytes [(109 : UInt8), (97 : UInt8), (120 : UInt8)] c0)
                                      (okL (AV.bool true) ([]))
                                      (RT.br (eqBytes [(97 : UInt8), (118 : UInt8), (103 : UInt8)] c0)
                                       (okL (AV.bool true) ([]))
                                       (RT.br (eqBytes [(100 : UInt8), (105 : UInt8), (115 : UInt8), (116 : UInt8), (105 : UInt8), (110 : UInt8), (99 : UInt8), (116 : UInt8)] c0)
                                        (okL (AV.bool true) ([]))
                                        (RT.br (eqBytes [(114 : UInt8), (111 : UInt8), (119 : UInt8), (115 : UInt8)] c0)
                                         (okL (AV.bool true) ([]))
                                         (okL (AV.bool false) ([])))))))))))))))))))))))))))))))))))))))
theorem wordR_t0r_b (c0 : List UInt8) (K : AV → St → Prop) : bodyK Try.prog letR_pr noL 100 87 [] [.str c0] [] K = RT.K (fun v s _ => K v s) (wordR_t0r c0) := by kernel_rfl
noncomputable def wordR_t0_V0 (c0 : List UInt8) : Bool :=
  bif eqBytes [(116 : UInt8), (97 : UInt8), (98 : UInt8), (108 : UInt8), (101 : UInt8)] c0 then true else bif eqBytes [(107 : UInt8), (101 : UInt8), (121 : UInt8)] c0 then true else bif eqBytes [(102 : UInt8), (100 : UInt8)] c0 then true else bif eqBytes [(105 : UInt8), (110 : UInt8), (116 : UInt8)] c0 then true else bif eqBytes [(116 : UInt8), (101 : UInt8), (120 : UInt8), (116 : UInt8)] c0 then true else bif eqBytes [(109 : UInt8), (117 : UInt8), (115 : UInt8), (116 : UInt8)] c0 then true else bif eqBytes [(116 : UInt8), (111 : UInt8)] c0 then true else bif eqBytes [(108 : UInt8), (111 : UInt8), (97 : UInt8), (100 : UInt8)] c0 then true else bif eqBytes [(105 : UInt8), (110 : UInt8), (115 : UInt8), (101 : UInt8), (114 : UInt8), (116 : UInt8)] c0 then true else bif eqBytes [(100 : UInt8), (101 : UInt8), (108 : UInt8), (101 : UInt8), (116 : UInt8), (101 : UInt8)] c0 then true else bif eqBytes [(117 : UInt8), (112 : UInt8), (100 : UInt8), (97 : UInt8), (116 : UInt8), (101 : UInt8)] c0 then true else bif eqBytes [(115 : UInt8), (117 : UInt8), (109 : UInt8), (109 : UInt8), (97 : UInt8), (114 : UInt8), (121 : UInt8)] c0 then true else bif eqBytes [(111 : UInt8), (110 : UInt8)] c0 then true else bif eqBytes [(98 : UInt8), (121 : UInt8)] c0 then true else bif eqBytes [(107 : UInt8), (101 : UInt8), (101 : UInt8), (112 : UInt8)] c0 then true else bif eqBytes [(100 : UInt8), (114 : UInt8), (111 : UInt8), (112 : UInt8)] c0 then true else bif eqBytes [(102 : UInt8), (114 : UInt8), (111 : UInt8), (109 : UInt8)] c0 then true else bif eqBytes [(119 : UInt8), (104 : UInt8), (101 : UInt8), (114 : UInt8), (101 : UInt8)] c0 then true else bif eqBytes [(97 : UInt8), (110 : UInt8), (100 : UInt8)] c0 then true else bif eqBytes [(105 : UInt8), (115 : UInt8)] c0 then true else bif eqBytes [(110 : UInt8), (111 : UInt8), (116 : UInt8)] c0 then true else bif eqBytes [(110 : UInt8), (117 : UInt8), (108 : UInt8), (108 : UInt8)] c0 then true else bif eqBytes [(114 : UInt8), (111 : UInt8), (108 : UInt8), (108 : UInt8), (117 : UInt8), (112 : UInt8)] c0 then true else bif eqBytes [(99 : UInt8), (117 : UInt8), (98 : UInt8), (101 : UInt8)] c0 then true else bif eqBytes [(115 : UInt8), (104 : UInt8), (111 : UInt8), (119 : UInt8)] c0 then true else bif eqBytes [(104 : UInt8), (97 : UInt8), (118 : UInt8), (105 : UInt8), (110 : UInt8), (103 : UInt8)] c0 then true else bif eqBytes [(111 : UInt8), (114 : UInt8), (100 : UInt8), (101 : UInt8), (114 : UInt8)] c0 then true else bif eqBytes [(100 : UInt8), (101 : UInt8), (115 : UInt8), (99 : UInt8)] c0 then true else bif eqBytes [(108 : UInt8), (105 : UInt8), (109 : UInt8), (105 : UInt8), (116 : UInt8)] c0 then true else bif eqBytes [(117 : UInt8), (115 : UInt8), (105 : UInt8), (110 : UInt8), (103 : UInt8)] c0 then true else bif eqBytes [(98 : UInt8), (97 : UInt8), (115 : UInt8), (101 : UInt8)] c0 then true else bif eqBytes [(99 : UInt8), (111 : UInt8), (117 : UInt8), (110 : UInt8), (116 : UInt8)] c0 then true else bif eqBytes [(115 : UInt8), (117 : UInt8), (109 : UInt8)] c0 then true else bif eqBytes [(109 : UInt8), (105 : UInt8), (110 : UInt8)] c0 then true else bif eqBytes [(109 : UInt8), (97 : UInt8), (120 : UInt8)] c0 then true else bif eqBytes [(97 : UInt8), (118 : UInt8), (103 : UInt8)] c0 then true else bif eqBytes [(100 : UInt8), (105 : UInt8), (115 : UInt8), (116 : UInt8), (105 : UInt8), (110 : UInt8), (99 : UInt8), (116 : UInt8)] c0 then true else bif eqBytes [(114 : UInt8), (111 : UInt8), (119 : UInt8), (115 : UInt8)] c0 then true else true
noncomputable def wordR_t0_V1 (c0 : List UInt8) : Bool :=
  bif eqBytes [(116 : UInt8), (97 : UInt8), (98 : UInt8), (108 : UInt8), (101 : UInt8)] c0 then true else bif eqBytes [(107 : UInt8), (101 : UInt8), (121 : UInt8)] c0 then true else bif eqBytes [(102 : UInt8), (100 : UInt8)] c0 then true else bif eqBytes [(105 : UInt8), (110 : UInt8), (116 : UInt8)] c0 then true else bif eqBytes [(116 : UInt8), (101 : UInt8), (120 : UInt8), (116 : UInt8)] c0 then true else bif eqBytes [(109 : UInt8), (117 : UInt8), (115 : UInt8), (116 : UInt8)] c0 then true else bif eqBytes [(116 : UInt8), (111 : UInt8)] c0 then true else bif eqBytes [(108 : UInt8), (111 : UInt8), (97 : UInt8), (100 : UInt8)] c0 then true else bif eqBytes [(105 : UInt8), (110 : UInt8), (115 : UInt8), (101 : UInt8), (114 : UInt8), (116 : UInt8)] c0 then true else bif eqBytes [(100 : UInt8), (101 : UInt8), (108 : UInt8), (101 : UInt8), (116 : UInt8), (101 : UInt8)] c0 then true else bif eqBytes [(117 : UInt8), (112 : UInt8), (100 : UInt8), (97 : UInt8), (116 : UInt8), (101 : UInt8)] c0 then true else bif eqBytes [(115 : UInt8), (117 : UInt8), (109 : UInt8), (109 : UInt8), (97 : UInt8), (114 : UInt8), (121 : UInt8)] c0 then true else bif eqBytes [(111 : UInt8), (110 : UInt8)] c0 then true else bif eqBytes [(98 : UInt8), (121 : UInt8)] c0 then true else bif eqBytes [(107 : UInt8), (101 : UInt8), (101 : UInt8), (112 : UInt8)] c0 then true else bif eqBytes [(100 : UInt8), (114 : UInt8), (111 : UInt8), (112 : UInt8)] c0 then true else bif eqBytes [(102 : UInt8), (114 : UInt8), (111 : UInt8), (109 : UInt8)] c0 then true else bif eqBytes [(119 : UInt8), (104 : UInt8), (101 : UInt8), (114 : UInt8), (101 : UInt8)] c0 then true else bif eqBytes [(97 : UInt8), (110 : UInt8), (100 : UInt8)] c0 then true else bif eqBytes [(105 : UInt8), (115 : UInt8)] c0 then true else bif eqBytes [(110 : UInt8), (111 : UInt8), (116 : UInt8)] c0 then true else bif eqBytes [(110 : UInt8), (117 : UInt8), (108 : UInt8), (108 : UInt8)] c0 then true else bif eqBytes [(114 : UInt8), (111 : UInt8), (108 : UInt8), (108 : UInt8), (117 : UInt8), (112 : UInt8)] c0 then true else bif eqBytes [(99 : UInt8), (117 : UInt8), (98 : UInt8), (101 : UInt8)] c0 then true else bif eqBytes [(115 : UInt8), (104 : UInt8), (111 : UInt8), (119 : UInt8)] c0 then true else bif eqBytes [(104 : UInt8), (97 : UInt8), (118 : UInt8), (105 : UInt8), (110 : UInt8), (103 : UInt8)] c0 then true else bif eqBytes [(111 : UInt8), (114 : UInt8), (100 : UInt8), (101 : UInt8), (114 : UInt8)] c0 then true else bif eqBytes [(100 : UInt8), (101 : UInt8), (115 : UInt8), (99 : UInt8)] c0 then true else bif eqBytes [(108 : UInt8), (105 : UInt8), (109 : UInt8), (105 : UInt8), (116 : UInt8)] c0 then true else bif eqBytes [(117 : UInt8), (115 : UInt8), (105 : UInt8), (110 : UInt8), (103 : UInt8)] c0 then true else bif eqBytes [(98 : UInt8), (97 : UInt8), (115 : UInt8), (101 : UInt8)] c0 then true else bif eqBytes [(99 : UInt8), (111 : UInt8), (117 : UInt8), (110 : UInt8), (116 : UInt8)] c0 then true else bif eqBytes [(115 : UInt8), (117 : UInt8), (109 : UInt8)] c0 then true else bif eqBytes [(109 : UInt8), (105 : UInt8), (110 : UInt8)] c0 then true else bif eqBytes [(109 : UInt8), (97 : UInt8), (120 : UInt8)] c0 then true else bif eqBytes [(97 : UInt8), (118 : UInt8), (103 : UInt8)] c0 then true else bif eqBytes [(100 : UInt8), (105 : UInt8), (115 : UInt8), (116 : UInt8), (105 : UInt8), (110 : UInt8), (99 : UInt8), (116 : UInt8)] c0 then true else bif eqBytes [(114 : UInt8), (111 : UInt8), (119 : UInt8), (115 : UInt8)] c0 then true else false
noncomputable def wordR_t0 (c0 : List UInt8) : RT :=
  RT.br (wordR_t0_V0 c0)
    (okL (Go.Sy.AV.bool (wordR_t0_V1 c0)) [])
    (RT.fail)
theorem wordR_t0_m (c0 : List UInt8) (K : AV → St → Prop) : RT.K (fun v s _ => K v s) (RT.mergeW ([]) (wordR_t0r c0)) = RT.K (fun v s _ => K v s) (wordR_t0 c0) := by kernel_rfl
theorem wordR_t0_b (c0 : List UInt8) (K : AV → St → Prop) (h : RT.K (fun v s _ => K v s) (wordR_t0 c0)) : bodyK Try.prog letR_pr noL 100 87 [] [.str c0] [] K := Eq.mpr (wordR_t0r_b ..) (mergeW_K (S := []) _ ⟨rfl, ⟨rfl, ⟨rfl, ⟨rfl, ⟨rfl, ⟨rfl, ⟨rfl, ⟨rfl, ⟨rfl, ⟨rfl, ⟨rfl, ⟨rfl, ⟨rfl, ⟨rfl, ⟨rfl, ⟨rfl, ⟨rfl, ⟨rfl, ⟨rfl, ⟨rfl, ⟨rfl, ⟨rfl, ⟨rfl, ⟨rfl, ⟨rfl, ⟨rfl, ⟨rfl, ⟨rfl, ⟨rfl, ⟨rfl, ⟨rfl, ⟨rfl, ⟨rfl, ⟨rfl, ⟨rfl, ⟨rfl, ⟨rfl, ⟨rfl, rfl⟩⟩⟩⟩⟩⟩⟩⟩⟩⟩⟩⟩⟩⟩⟩⟩⟩⟩⟩⟩⟩⟩⟩⟩⟩⟩⟩⟩⟩⟩⟩⟩⟩⟩⟩⟩⟩⟩ (Eq.mpr (wordR_t0_m ..) h))
theorem wordR_t0_lp (hpr : PrOk Try.prog letR_pr) : LoopsFor Try.prog 87 0 noL := loops_none
noncomputable def wordR : Sy.Spec := ⟨[], fun args s => match args, s with
  | [(.str c0)], [] => .br (true) (wordR_t0 c0) .fail
  | _, _ => .fail⟩
theorem wordR_ok : SpecOk Try.prog 87 wordR.f := specOk_comes fun args s v s' tch e => by
  simp only [wordR] at e
  split at e
  · obtain ⟨hg, e⟩ := if_run e
    refine comes_of ok letR_pr_k (L := 100) (ms := []) (by kernel_rfl) (wordR_t0_lp letR_pr_k) ?_
    exact wordR_t0_b (h := K_run e) ..
  · cases e
noncomputable def wordR_pr : FuncId → Option Sy.Spec := addP 87 wordR letR_pr
theorem wordR_pr_k : PrOk Try.prog wordR_pr := prOk_add wordR_ok letR_pr_k
noncomputable def nameR_t0_L0_T (c0 : List UInt8) (i1 : Int) : List AV := ([AV.str c0, .any, .any, AV.int IntKind.i64 i1] ++ padAny 35)
noncomputable def nameR_t0_L0_S (c0 : List UInt8) (i1 : Int) : St := []
noncomputable def nameR_t0_L0_of : List AV → St → Option (((List UInt8)) × (Int)) := fun t s => match t, s with
  | (.str c0) :: .any :: .any :: (.int .i64 i1) :: t_0, [] => (match dropAny 35 t_0 with
    | some ([]) => (match true with | true => some ((c0), (i1)) | false => none)
    | _ => none)
  | _, _ => none
noncomputable def nameR_t0_L0_ex (i : (List UInt8)) (y : Nat) (k : KS) : Prop := let c0 := i; let tag := y; br (Nat.beq tag 0) (k (Ex.ret) ([.any, .any, AV.bool false] ++ padAny 36) []) (br (Nat.beq tag 1) (k (Ex.normal) ([.any] ++ padAny 38) []) (False))
theorem nameR_t0_L0_of_ok : ∀ t s (i : (List UInt8)) (x : Int), nameR_t0_L0_of t s = some (i, x) → t = nameR_t0_L0_T i x ∧ s = nameR_t0_L0_S i x := by
  intro t s i x h
  unfold nameR_t0_L0_of at h
  split at h
  · split at h
    · rename_i ha
      obtain rfl := dropAny_eq ha
      split at h
      · rename_i hg
        cases h
        exact ⟨rfl, rfl⟩
      · cases h
    · cases h
  · cases h
noncomputable def nameR_t0_L0_stp (c0 : List UInt8) (i1 : Int) : NT (Int) (Nat) :=
  NT.br (decide (i1 < (↑c0.length : Int)))
    (NT.br (decide ((0 : Int) ≤ i1) && decide (i1 < (↑c0.length : Int)))
     (NT.br (letR_t0_V0 (↑(c0.getD i1.toNat (0 : UInt8)).toNat : Int))
      (NT.br (!letR_t0_V1 (↑(c0.getD i1.toNat (0 : UInt8)).toNat : Int))
       (NT.br (decide ((0 : Int) ≤ i1) && decide (i1 < (↑c0.length : Int)))
        (NT.br (digR_t0_V0 (↑(c0.getD i1.toNat (0 : UInt8)).toNat : Int))
         (NT.br (!digR_t0_V1 (↑(c0.getD i1.toNat (0 : UInt8)).toNat : Int))
          (NT.done (0))
          (NT.more (IntKind.i64.wrap (i1 + (1 : Int)))))
         (NT.fail))
        (NT.fail))
       (NT.more (IntKind.i64.wrap (i1 + (1 : Int)))))
      (NT.fail))
     (NT.fail))
    (NT.done (1))
noncomputable def nameR_t0_L0 (i : (List UInt8)) (x : Int) := nameR_t0_L0_stp i x
theorem nameR_t0_L0_rd (c0 : List UInt8) (i1 : Int) (more : List AV → St → Prop) (kk : KS) : roundK Try.prog wordR_pr noL 100 65 0 (nameR_t0_L0_T c0 i1) (nameR_t0_L0_S c0 i1) (againK 0 0 [.yes, .no, .no, .yes] [.no, .no, .yes] more kk) = (nameR_t0_L0_stp c0 i1).K (fun x' => more (nameR_t0_L0_T c0 x') (nameR_t0_L0_S c0 x')) (fun y => nameR_t0_L0_ex (c0) y kk) := by kernel_rfl
noncomputable def nameR_t0_L0_LP : Nat → Option LoopS := addL 0 (headG 0 [.yes, .no, .no, .yes] (outL nameR_t0_L0 nameR_t0_L0_of nameR_t0_L0_ex)) noL
theorem nameR_t0_L0_lp (hpr : PrOk Try.prog wordR_pr) : LoopsFor Try.prog 65 0 nameR_t0_L0_LP := loops_lp (L := 100) (T := fun i x => nameR_t0_L0_T i x) (S := fun i x => nameR_t0_L0_S i x) ok hpr (by kernel_rfl) loops_none nameR_t0_L0_of_ok (fun i x more kk => nameR_t0_L0_rd i x more kk)
noncomputable def nameR_t0r (c0 : List UInt8) : RT :=
  RT.br (decide ((↑c0.length : Int) < (1 : Int)))
    (okL (AV.bool false) ([]))
    (RT.br (decide ((↑c0.length : Int) > (12 : Int)))
     (okL (AV.bool false) ([]))
     (RT.br (decide ((0 : Int) < (↑c0.length : Int)))
      (RT.br (digR_t0_V0 (↑(c0.getD (0 : Nat) (0 : UInt8)).toNat : Int))
       (RT.br (digR_t0_V1 (↑(c0.getD (0 : Nat) (0 : UInt8)).toNat : Int))
        (okL (AV.bool false) ([]))
        (RT.br (wordR_t0_V0 c0)
         (RT.br (wordR_t0_V1 c0)
          (okL (AV.bool false) ([]))
          (RT.br (loopOk (nameR_t0_L0 c0) (0 : Int))
           (RT.br ((loopV (nameR_t0_L0 c0) (0 : Int)).beq (0 : Nat))
            (okL (AV.bool false) ([]))
            (RT.br ((loopV (nameR_t0_L0 c0) (0 : Int)).beq (1 : Nat))
             (okL (AV.bool true) ([]))
             (RT.fail)))
           (RT.fail)))
         (RT.fail)))
       (RT.fail))
      (RT.fail)))
theorem nameR_t0r_b (c0 : List UInt8) (K : AV → St → Prop) : bodyK Try.prog wordR_pr nameR_t0_L0_LP 100 65 [] [.str c0] [] K = RT.K (fun v s _ => K v s) (nameR_t0r c0) := by kernel_rfl
noncomputable def nameR_t0_V0 (c0 : List UInt8) : Bool :=
  bif decide ((↑c0.length : Int) < (1 : Int)) then true else bif decide ((↑c0.length : Int) > (12 : Int)) then true else decide ((0 : Int) < (↑c0.length : Int)) && (digR_t0_V0 (↑(c0.getD (0 : Nat) (0 : UInt8)).toNat : Int) && bif digR_t0_V1 (↑(c0.getD (0 : Nat) (0 : UInt8)).toNat : Int) then true else wordR_t0_V0 c0 && bif wordR_t0_V1 c0 then true else loopOk (nameR_t0_L0 c0) (0 : Int) && bif (loopV (nameR_t0_L0 c0) (0 : Int)).beq (0 : Nat) then true else (loopV (nameR_t0_L0 c0) (0 : Int)).beq (1 : Nat) && true)
noncomputable def nameR_t0_V1 (c0 : List UInt8) : Bool :=
  bif decide ((↑c0.length : Int) < (1 : Int)) then false else bif decide ((↑c0.length : Int) > (12 : Int)) then false else bif digR_t0_V1 (↑(c0.getD (0 : Nat) (0 : UInt8)).toNat : Int) then false else bif wordR_t0_V1 c0 then false else bif (loopV (nameR_t0_L0 c0) (0 : Int)).beq (0 : Nat) then false else true
noncomputable def nameR_t0 (c0 : List UInt8) : RT :=
  RT.br (nameR_t0_V0 c0)
    (okL (Go.Sy.AV.bool (nameR_t0_V1 c0)) [])
    (RT.fail)
theorem nameR_t0_m (c0 : List UInt8) (K : AV → St → Prop) : RT.K (fun v s _ => K v s) (RT.mergeW ([]) (nameR_t0r c0)) = RT.K (fun v s _ => K v s) (nameR_t0 c0) := by kernel_rfl
theorem nameR_t0_b (c0 : List UInt8) (K : AV → St → Prop) (h : RT.K (fun v s _ => K v s) (nameR_t0 c0)) : bodyK Try.prog wordR_pr nameR_t0_L0_LP 100 65 [] [.str c0] [] K := Eq.mpr (nameR_t0r_b ..) (mergeW_K (S := []) _ ⟨rfl, ⟨rfl, ⟨⟨⟨rfl, ⟨⟨rfl, ⟨⟨rfl, ⟨rfl, trivial⟩⟩, trivial⟩⟩, trivial⟩⟩, trivial⟩, trivial⟩⟩⟩ (Eq.mpr (nameR_t0_m ..) h))
theorem nameR_t0_lp (hpr : PrOk Try.prog wordR_pr) : LoopsFor Try.prog 65 0 nameR_t0_L0_LP := (nameR_t0_L0_lp hpr)
noncomputable def nameR : Sy.Spec := ⟨[], fun args s => match args, s with
  | [(.str c0)], [] => .br (true) (nameR_t0 c0) .fail
  | _, _ => .fail⟩
theorem nameR_ok : SpecOk Try.prog 65 nameR.f := specOk_comes fun args s v s' tch e => by
  simp only [nameR] at e
  split at e
  · obtain ⟨hg, e⟩ := if_run e
    refine comes_of ok wordR_pr_k (L := 100) (ms := []) (by kernel_rfl) (nameR_t0_lp wordR_pr_k) ?_
    exact nameR_t0_b (h := K_run e) ..
  · cases e
noncomputable def nameR_pr : FuncId → Option Sy.Spec := addP 65 nameR wordR_pr
theorem nameR_pr_k : PrOk Try.prog nameR_pr := prOk_add nameR_ok wordR_pr_k
noncomputable def findR_t0_L0_T (l0 : List D) (c1 : List UInt8) (i2 : Int) : List AV := ([AV.fz false shTab l0, AV.str c1, .any, .any, .any, AV.int IntKind.i64 i2] ++ padAny 14)
noncomputable def findR_t0_L0_S (l0 : List D) (c1 : List UInt8) (i2 : Int) : St := []
noncomputable def findR_t0_L0_of : List AV → St → Option (((List D) × (List UInt8)) × (Int)) := fun t s => match t, s with
  | (.fz false e_0 l0) :: (.str c1) :: .any :: .any :: .any :: (.int .i64 i2) :: t_0, [] => (match dropAny 14 t_0 with
    | some ([]) => (match Sh.beq e_0 shTab && (true) with | true => some ((l0, c1), (i2)) | false => none)
    | _ => none)
  | _, _ => none
noncomputable def findR_t0_L0_ex (i : (List D) × (List UInt8)) (y : Nat × Int) (k : KS) : Prop := let l0 := i.1; let c1 := i.2; let tag := y.1; let iy4 := y.2; br (Nat.beq tag 0) (k (Ex.ret) ([.any, .any, .any, .any, AV.int IntKind.i64 iy4] ++ padAny 15) []) (br (Nat.beq tag 1) (k (Ex.normal) ([.any] ++ padAny 19) []) (False))
theorem findR_t0_L0_of_ok : ∀ t s (i : (List D) × (List UInt8)) (x : Int), findR_t0_L0_of t s = some (i, x) → t = findR_t0_L0_T i.1 i.2 x ∧ s = findR_t0_L0_S i.1 i.2 x := by
  intro t s i x h
  unfold findR_t0_L0_of at h
  split at h
  · split at h
    · rename_i ha
      obtain rfl := dropAny_eq ha
      split at h
      · rename_i hg
        cases h
        simp only [Bool.and_eq_true] at hg
        obtain ⟨h_0, _⟩ := hg
        obtain rfl := Sh.beq_eq _ _ h_0
        exact ⟨rfl, rfl⟩
      · cases h
    · cases h
  · cases h
noncomputable def findR_t0_L0_stp (l0 : List D) (c1 : List UInt8) (i2 : Int) : NT (Int) (Nat × Int) :=
  NT.br (decide (i2 < (↑l0.length : Int)))
    (NT.br (decide ((0 : Int) ≤ i2) && decide (i2 < (↑l0.length : Int)))
     (NT.br (eqBytes ((l0.getD i2.toNat D.nul).fld (0 : Nat)).asStr c1)
      (NT.done (0, i2))
      (NT.more (IntKind.i64.wrap (i2 + (1 : Int)))))
     (NT.fail))
    (NT.done (1, 0))
noncomputable def findR_t0_L0 (i : (List D) × (List UInt8)) (x : Int) := findR_t0_L0_stp i.1 i.2 x
theorem findR_t0_L0_rd (l0 : List D) (c1 : List UInt8) (i2 : Int) (more : List AV → St → Prop) (kk : KS) : roundK Try.prog nameR_pr noL 100 21 0 (findR_t0_L0_T l0 c1 i2) (findR_t0_L0_S l0 c1 i2) (againK 0 0 [.yes, .yes, .no, .no, .no, .yes] [.no, .no, .no, .no, .yes] more kk) = (findR_t0_L0_stp l0 c1 i2).K (fun x' => more (findR_t0_L0_T l0 c1 x') (findR_t0_L0_S l0 c1 x')) (fun y => findR_t0_L0_ex (l0, c1) y kk) := by kernel_rfl
noncomputable def findR_t0_L0_LP : Nat → Option LoopS := addL 0 (headG 0 [.yes, .yes, .no, .no, .no, .yes] (outL findR_t0_L0 findR_t0_L0_of findR_t0_L0_ex)) noL
theorem findR_t0_L0_lp (hpr : PrOk Try.prog nameR_pr) : LoopsFor Try.prog 21 0 findR_t0_L0_LP := loops_lp (L := 100) (T := fun i x => findR_t0_L0_T i.1 i.2 x) (S := fun i x => findR_t0_L0_S i.1 i.2 x) ok hpr (by kernel_rfl) loops_none findR_t0_L0_of_ok (fun i x more kk => findR_t0_L0_rd i.1 i.2 x more kk)
noncomputable def findR_t0r (l0 : List D) (c1 : List UInt8) : RT :=
  RT.br (loopOk (findR_t0_L0 (l0, c1)) (0 : Int))
    (RT.br ((loopV (findR_t0_L0 (l0, c1)) (0 : Int)).fst.beq (0 : Nat))
     (okL (AV.int IntKind.i64 (loopV (findR_t0_L0 (l0, c1)) (0 : Int)).snd) ([]))
     (RT.br ((loopV (findR_t0_L0 (l0, c1)) (0 : Int)).fst.beq (1 : Nat))
      (okL (AV.int IntKind.i64 (-1 : Int)) ([]))
      (RT.fail)))
    (RT.fail)
theorem findR_t0r_b (l0 : List D) (c1 : List UInt8) (K : AV → St → Prop) : bodyK Try.prog nameR_pr findR_t0_L0_LP 100 21 [] [.fz false (.struct [.str, (.slice (.struct [.str, (.int .i64), .bool, .str])), .str, (.slice (.struct [(.slice .str), .str]))]) l0, .str c1] [] K = RT.K (fun v s _ => K v s) (findR_t0r l0 c1) := by kernel_rfl
noncomputable def findR_t0_V0 (l0 : List D) (c1 : List UInt8) : Bool :=
  loopOk (findR_t0_L0 (l0, c1)) (0 : Int) && bif (loopV (findR_t0_L0 (l0, c1)) (0 : Int)).fst.beq (0 : Nat) then true else (loopV (findR_t0_L0 (l0, c1)) (0 : Int)).fst.beq (1 : Nat) && true
noncomputable def findR_t0_V1 (l0 : List D) (c1 : List UInt8) : Int :=
  bif (loopV (findR_t0_L0 (l0, c1)) (0 : Int)).fst.beq (0 : Nat) then (loopV (findR_t0_L0 (l0, c1)) (0 : Int)).snd else (-1 : Int)
noncomputable def findR_t0 (l0 : List D) (c1 : List UInt8) : RT :=
  RT.br (findR_t0_V0 l0 c1)
    (okL (Go.Sy.AV.int (IntKind.i64) (findR_t0_V1 l0 c1)) [])
    (RT.fail)
theorem findR_t0_m (l0 : List D) (c1 : List UInt8) (K : AV → St → Prop) : RT.K (fun v s _ => K v s) (RT.mergeW ([]) (findR_t0r l0 c1)) = RT.K (fun v s _ => K v s) (findR_t0 l0 c1) := by kernel_rfl
theorem findR_t0_b (l0 : List D) (c1 : List UInt8) (K : AV → St → Prop) (h : RT.K (fun v s _ => K v s) (findR_t0 l0 c1)) : bodyK Try.prog nameR_pr findR_t0_L0_LP 100 21 [] [.fz false (.struct [.str, (.slice (.struct [.str, (.int .i64), .bool, .str])), .str, (.slice (.struct [(.slice .str), .str]))]) l0, .str c1] [] K := Eq.mpr (findR_t0r_b ..) (mergeW_K (S := []) _ ⟨⟨rfl, ⟨rfl, trivial⟩⟩, trivial⟩ (Eq.mpr (findR_t0_m ..) h))
theorem findR_t0_lp (hpr : PrOk Try.prog nameR_pr) : LoopsFor Try.prog 21 0 findR_t0_L0_LP := (findR_t0_L0_lp hpr)
noncomputable def findR : Sy.Spec := ⟨[.data (.slice (.struct [.str, (.slice (.struct [.str, (.int .i64), .bool, .str])), .str, (.slice (.struct [(.slice .str), .str]))])), .keep], fun args s => match args, s with
  | [(.fz false e_0 l0), (.str c1)], [] => .br (Sh.beq e_0 shTab && (true)) (findR_t0 l0 c1) .fail
  | _, _ => .fail⟩
theorem findR_ok : SpecOk Try.prog 21 findR.f := specOk_comes fun args s v s' tch e => by
  simp only [findR] at e
  split at e
  · obtain ⟨hg, e⟩ := if_run e
    simp only [Bool.and_eq_true] at hg
    obtain ⟨h_0, _⟩ := hg
    obtain rfl := Sh.beq_eq _ _ h_0
    refine comes_of ok nameR_pr_k (L := 100) (ms := []) (by kernel_rfl) (findR_t0_lp nameR_pr_k) ?_
    exact findR_t0_b (h := K_run e) ..
  · cases e
noncomputable def findR_pr : FuncId → Option Sy.Spec := addP 21 findR nameR_pr
theorem findR_pr_k : PrOk Try.prog findR_pr := prOk_add findR_ok nameR_pr_k
noncomputable def colofR_t0_L0_T (c0 : List UInt8) (c1 : List UInt8) (l2 : List D) (c3 : List UInt8) (l4 : List D) (i5 : Int) : List AV := ([.any, AV.str c0, AV.ptr (some ((0 : Nat), (0 : Nat))), .any, .any, AV.int IntKind.i64 i5] ++ padAny 16)
noncomputable def colofR_t0_L0_S (c0 : List UInt8) (c1 : List UInt8) (l2 : List D) (c3 : List UInt8) (l4 : List D) (i5 : Int) : St := [Ent.cells [AV.str c1, AV.fz false shCol l2, AV.str c3, AV.fz false shDep l4]]
noncomputable def colofR_t0_L0_of : List AV → St → Option (((List UInt8) × (List UInt8) × (List D) × (List UInt8) × (List D)) × (Int)) := fun t s => match t, s with
  | .any :: (.str c0) :: (.ptr (.some (e_0, e_1))) :: .any :: .any :: (.int .i64 i5) :: t_0, [(.cells [(.str c1), (.fz false e_2 l2), (.str c3), (.fz false e_3 l4)])] => (match dropAny 16 t_0 with
    | some ([]) => (match Nat.beq e_0 (0 : Nat) && (Nat.beq e_1 (0 : Nat) && (Sh.beq e_2 shCol && (Sh.beq e_3 shDep && (true)))) with | true => some ((c0, c1, l2, c3, l4), (i5)) | false => none)
    | _ => none)
  | _, _ => none
noncomputable def colofR_t0_L0_ex (i : (List UInt8) × (List UInt8) × (List D) × (List UInt8) × (List D)) (y : Nat × Int) (k : KS) : Prop := let c0 := i.1; let c1 := i.2.1; let l2 := i.2.2.1; let c3 := i.2.2.2.1; let l4 := i.2.2.2.2; let tag := y.1; let iy7 := y.2; br (Nat.beq tag 0) (k (Ex.ret) ([.any, .any, .any, .any, AV.int IntKind.i64 iy7] ++ padAny 17) []) (br (Nat.beq tag 1) (k (Ex.normal) ([.any] ++ padAny 21) []) (False))
theorem colofR_t0_L0_of_ok : ∀ t s (i : (List UInt8) × (List UInt8) × (List D) × (List UInt8) × (List D)) (x : Int), colofR_t0_L0_of t s = some (i, x) → t = colofR_t0_L0_T i.1 i.2.1 i.2.2.1 i.2.2.2.1 i.2.2.2.2 x ∧ s = colofR_t0_L0_S i.1 i.2.1 i.2.2.1 i.2.2.2.1 i.2.2.2.2 x := by
  intro t s i x h
  unfold colofR_t0_L0_of at h
  split at h
  · split at h
    · rename_i ha
      obtain rfl := dropAny_eq ha
      split at h
      · rename_i hg
        cases h
        simp only [Bool.and_eq_true] at hg
        obtain ⟨h_0, h_1, h_2, h_3, _⟩ := hg
        obtain rfl := Nat.eq_of_beq_eq_true h_0
        obtain rfl := Nat.eq_of_beq_eq_true h_1
        obtain rfl := Sh.beq_eq _ _ h_2
        obtain rfl := Sh.beq_eq _ _ h_3
        exact ⟨rfl, rfl⟩
      · cases h
    · cases h
  · cases h
noncomputable def colofR_t0_L0_stp (c0 : List UInt8) (c1 : List UInt8) (l2 : List D) (c3 : List UInt8) (l4 : List D) (i5 : Int) : NT (Int) (Nat × Int) :=
  NT.br (decide (i5 < (↑l2.length : Int)))
    (NT.br (decide ((0 : Int) ≤ i5) && decide (i5 < (↑l2.length : Int)))
     (NT.br (eqBytes ((l2.getD i5.toNat D.nul).fld (0 : Nat)).asStr c0)
      (NT.done (0, i5))
      (NT.more (IntKind.i64.wrap (i5 + (1 : Int)))))
     (NT.fail))
    (NT.done (1, 0))
noncomputable def colofR_t0_L0 (i : (List UInt8) × (List UInt8) × (List D) × (List UInt8) × (List D)) (x : Int) := colofR_t0_L0_stp i.1 i.2.1 i.2.2.1 i.2.2.2.1 i.2.2.2.2 x
theorem colofR_t0_L0_rd (c0 : List UInt8) (c1 : List UInt8) (l2 : List D) (c3 : List UInt8) (l4 : List D) (i5 : Int) (more : List AV → St → Prop) (kk : KS) : roundK Try.prog findR_pr noL 100 23 0 (colofR_t0_L0_T c0 c1 l2 c3 l4 i5) (colofR_t0_L0_S c0 c1 l2 c3 l4 i5) (againK 0 0 [.no, .yes, .yes, .no, .no, .yes] [.no, .no, .no, .no, .yes] more kk) = (colofR_t0_L0_stp c0 c1 l2 c3 l4 i5).K (fun x' => more (colofR_t0_L0_T c0 c1 l2 c3 l4 x') (colofR_t0_L0_S c0 c1 l2 c3 l4 x')) (fun y => colofR_t0_L0_ex (c0, c1, l2, c3, l4) y kk) := by kernel_rfl
noncomputable def colofR_t0_L0_LP : Nat → Option LoopS := addL 0 (headG 0 [.no, .yes, .yes, .no, .no, .yes] (outL colofR_t0_L0 colofR_t0_L0_of colofR_t0_L0_ex)) noL
theorem colofR_t0_L0_lp (hpr : PrOk Try.prog findR_pr) : LoopsFor Try.prog 23 0 colofR_t0_L0_LP := loops_lp (L := 100) (T := fun i x => colofR_t0_L0_T i.1 i.2.1 i.2.2.1 i.2.2.2.1 i.2.2.2.2 x) (S := fun i x => colofR_t0_L0_S i.1 i.2.1 i.2.2.1 i.2.2.2.1 i.2.2.2.2 x) ok hpr (by kernel_rfl) loops_none colofR_t0_L0_of_ok (fun i x more kk => colofR_t0_L0_rd i.1 i.2.1 i.2.2.1 i.2.2.2.1 i.2.2.2.2 x more kk)
noncomputable def colofR_t0r (c0_0 : List UInt8) (l0_1 : List D) (c0_2 : List UInt8) (l0_3 : List D) (c1 : List UInt8) : RT :=
  RT.br (loopOk (colofR_t0_L0 (c1, c0_0, l0_1, c0_2, l0_3)) (0 : Int))
    (RT.br ((loopV (colofR_t0_L0 (c1, c0_0, l0_1, c0_2, l0_3)) (0 : Int)).fst.beq (0 : Nat))
     (okL (AV.int IntKind.i64 (loopV (colofR_t0_L0 (c1, c0_0, l0_1, c0_2, l0_3)) (0 : Int)).snd) ([]))
     (RT.br ((loopV (colofR_t0_L0 (c1, c0_0, l0_1, c0_2, l0_3)) (0 : Int)).fst.beq (1 : Nat))
      (okL (AV.int IntKind.i64 (-1 : Int)) ([]))
      (RT.fail)))
    (RT.fail)
theorem colofR_t0r_b (c0_0 : List UInt8) (l0_1 : List D) (c0_2 : List UInt8) (l0_3 : List D) (c1 : List UInt8) (K : AV → St → Prop) : bodyK Try.prog findR_pr colofR_t0_L0_LP 100 23 [] [(.agg [.str c0_0, .fz false (.struct [.str, (.int .i64), .bool, .str]) l0_1, .str c0_2, .fz false (.struct [(.slice .str), .str]) l0_3]), .str c1] [] K = RT.K (fun v s _ => K v s) (colofR_t0r c0_0 l0_1 c0_2 l0_3 c1) := by kernel_rfl
noncomputable def colofR_t0_V0 (c0_0 : List UInt8) (l0_1 : List D) (c0_2 : List UInt8) (l0_3 : List D) (c1 : List UInt8) : Bool :=
  loopOk (colofR_t0_L0 (c1, c0_0, l0_1, c0_2, l0_3)) (0 : Int) && bif (loopV (colofR_t0_L0 (c1, c0_0, l0_1, c0_2, l0_3)) (0 : Int)).fst.beq (0 : Nat) then true else (loopV (colofR_t0_L0 (c1, c0_0, l0_1, c0_2, l0_3)) (0 : Int)).fst.beq (1 : Nat) && true
noncomputable def colofR_t0_V1 (c0_0 : List UInt8) (l0_1 : List D) (c0_2 : List UInt8) (l0_3 : List D) (c1 : List UInt8) : Int :=
  bif (loopV (colofR_t0_L0 (c1, c0_0, l0_1, c0_2, l0_3)) (0 : Int)).fst.beq (0 : Nat) then (loopV (colofR_t0_L0 (c1, c0_0, l0_1, c0_2, l0_3)) (0 : Int)).snd else (-1 : Int)
noncomputable def colofR_t0 (c0_0 : List UInt8) (l0_1 : List D) (c0_2 : List UInt8) (l0_3 : List D) (c1 : List UInt8) : RT :=
  RT.br (colofR_t0_V0 c0_0 l0_1 c0_2 l0_3 c1)
    (okL (Go.Sy.AV.int (IntKind.i64) (colofR_t0_V1 c0_0 l0_1 c0_2 l0_3 c1)) [])
    (RT.fail)
theorem colofR_t0_m (c0_0 : List UInt8) (l0_1 : List D) (c0_2 : List UInt8) (l0_3 : List D) (c1 : List UInt8) (K : AV → St → Prop) : RT.K (fun v s _ => K v s) (RT.mergeW ([]) (colofR_t0r c0_0 l0_1 c0_2 l0_3 c1)) = RT.K (fun v s _ => K v s) (colofR_t0 c0_0 l0_1 c0_2 l0_3 c1) := by kernel_rfl
theorem colofR_t0_b (c0_0 : List UInt8) (l0_1 : List D) (c0_2 : List UInt8) (l0_3 : List D) (c1 : List UInt8) (K : AV → St → Prop) (h : RT.K (fun v s _ => K v s) (colofR_t0 c0_0 l0_1 c0_2 l0_3 c1)) : bodyK Try.prog findR_pr colofR_t0_L0_LP 100 23 [] [(.agg [.str c0_0, .fz false (.struct [.str, (.int .i64), .bool, .str]) l0_1, .str c0_2, .fz false (.struct [(.slice .str), .str]) l0_3]), .str c1] [] K := Eq.mpr (colofR_t0r_b ..) (mergeW_K (S := []) _ ⟨⟨rfl, ⟨rfl, trivial⟩⟩, trivial⟩ (Eq.mpr (colofR_t0_m ..) h))
theorem colofR_t0_lp (hpr : PrOk Try.prog findR_pr) : LoopsFor Try.prog 23 0 colofR_t0_L0_LP := (colofR_t0_L0_lp hpr)
noncomputable def colofR : Sy.Spec := ⟨[.data (.struct [.str, (.slice (.struct [.str, (.int .i64), .bool, .str])), .str, (.slice (.struct [(.slice .str), .str]))]), .keep], fun args s => match args, s with
  | [(.agg [(.str c0_0), (.fz false e_0 l0_1), (.str c0_2), (.fz false e_1 l0_3)]), (.str c1)], [] => .br (Sh.beq e_0 shCol && (Sh.beq e_1 shDep && (true))) (colofR_t0 c0_0 l0_1 c0_2 l0_3 c1) .fail
  | _, _ => .fail⟩
theorem colofR_ok : SpecOk Try.prog 23 colofR.f := specOk_comes fun args s v s' tch e => by
  simp only [colofR] at e
  split at e
  · obtain ⟨hg, e⟩ := if_run e
    simp only [Bool.and_eq_true] at hg
    obtain ⟨h_0, h_1, _⟩ := hg
    obtain rfl := Sh.beq_eq _ _ h_0
    obtain rfl := Sh.beq_eq _ _ h_1
    refine comes_of ok findR_pr_k (L := 100) (ms := []) (by kernel_rfl) (colofR_t0_lp findR_pr_k) ?_
    exact colofR_t0_b (h := K_run e) ..
  · cases e
noncomputable def colofR_pr : FuncId → Option Sy.Spec := addP 23 colofR findR_pr
theorem colofR_pr_k : PrOk Try.prog colofR_pr := prOk_add colofR_ok findR_pr_k
noncomputable def namesR_t0_L0_T (c0 : List UInt8) (l1 : List D) (c2 : List UInt8) (l3 : List D) (i4 : Int) : List AV := ([.any, .any, .any, AV.ptr (some ((0 : Nat), (0 : Nat))), .any, AV.int IntKind.i64 i4] ++ padAny 122)
noncomputable def namesR_t0_L0_S (c0 : List UInt8) (l1 : List D) (c2 : List UInt8) (l3 : List D) (i4 : Int) : St := [Ent.cells [AV.str c0, AV.fz false shCol l1, AV.str c2, AV.fz false shDep l3]]
noncomputable def namesR_t0_L0_of : List AV → St → Option (((List UInt8) × (List D) × (List UInt8) × (List D)) × (Int)) := fun t s => match t, s with
  | .any :: .any :: .any :: (.ptr (.some (e_0, e_1))) :: .any :: (.int .i64 i4) :: t_0, [(.cells [(.str c0), (.fz false e_2 l1), (.str c2), (.fz false e_3 l3)])] => (match dropAny 122 t_0 with
    | some ([]) => (match Nat.beq e_0 (0 : Nat) && (Nat.beq e_1 (0 : Nat) && (Sh.beq e_2 shCol && (Sh.beq e_3 shDep && (true)))) with | true => some ((c0, l1, c2, l3), (i4)) | false => none)
    | _ => none)
  | _, _ => none
noncomputable def namesR_t0_L0_ex (i : (List UInt8) × (List D) × (List UInt8) × (List D)) (y : Nat) (k : KS) : Prop := let c0 := i.1; let l1 := i.2.1; let c2 := i.2.2.1; let l3 := i.2.2.2; let tag := y; br (Nat.beq tag 0) (k (Ex.ret) ([.any, .any, .any, AV.ptr (some ((0 : Nat), (0 : Nat))), AV.bool false] ++ padAny 123) [Ent.cells [AV.str c0, AV.fz false shCol l1, AV.str c2, AV.fz false shDep l3]]) (br (Nat.beq tag 1) (k (Ex.normal) ([.any, .any, .any, AV.ptr (some ((0 : Nat), (0 : Nat)))] ++ padAny 124) [Ent.cells [AV.str c0, AV.fz false shCol l1, AV.str c2, AV.fz false shDep l3]]) (False))
theorem namesR_t0_L0_of_ok : ∀ t s (i : (List UInt8) × (List D) × (List UInt8) × (List D)) (x : Int), namesR_t0_L0_of t s = some (i, x) → t = namesR_t0_L0_T i.1 i.2.1 i.2.2.1 i.2.2.2 x ∧ s = namesR_t0_L0_S i.1 i.2.1 i.2.2.1 i.2.2.2 x := by
  intro t s i x h
  unfold namesR_t0_L0_of at h
  split at h
  · split at h
    · rename_i ha
      obtain rfl := dropAny_eq ha
      split at h
      · rename_i hg
        cases h
        simp only [Bool.and_eq_true] at hg
        obtain ⟨h_0, h_1, h_2, h_3, _⟩ := hg
        obtain rfl := Nat.eq_of_beq_eq_true h_0
        obtain rfl := Nat.eq_of_beq_eq_true h_1
        obtain rfl := Sh.beq_eq _ _ h_2
        obtain rfl := Sh.beq_eq _ _ h_3
        exact ⟨rfl, rfl⟩
      · cases h
    · cases h
  · cases h
noncomputable def namesR_t0_L0_stp (c0 : List UInt8) (l1 : List D) (c2 : List UInt8) (l3 : List D) (i4 : Int) : NT (Int) (Nat) :=
  NT.br (decide (i4 < (↑l1.length : Int)))
    (NT.br (decide ((0 : Int) ≤ i4) && decide (i4 < (↑l1.length : Int)))
     (NT.br (nameR_t0_V0 ((l1.getD i4.toNat D.nul).fld (0 : Nat)).asStr)
      (NT.br (!nameR_t0_V1 ((l1.getD i4.toNat D.nul).fld (0 : Nat)).asStr)
       (NT.done (0))
       (NT.br (decide ((0 : Int) ≤ i4) && decide (i4 < (↑l1.length : Int)))
        (NT.br (colofR_t0_V0 c0 l1 c2 l3 ((l1.getD i4.toNat D.nul).fld (0 : Nat)).asStr)
         (NT.br (!decide (colofR_t0_V1 c0 l1 c2 l3 ((l1.getD i4.toNat D.nul).fld (0 : Nat)).asStr = i4))
          (NT.done (0))
          (NT.more (IntKind.i64.wrap (i4 + (1 : Int)))))
         (NT.fail))
        (NT.fail)))
      (NT.fail))
     (NT.fail))
    (NT.done (1))
noncomputable def namesR_t0_L0 (i : (List UInt8) × (List D) × (List UInt8) × (List D)) (x : Int) := namesR_t0_L0_stp i.1 i.2.1 i.2.2.1 i.2.2.2 x
theorem namesR_t0_L0_rd (c0 : List UInt8) (l1 : List D) (c2 : List UInt8) (l3 : List D) (i4 : Int) (more : List AV → St → Prop) (kk : KS) : roundK Try.prog colofR_pr noL 100 42 0 (namesR_t0_L0_T c0 l1 c2 l3 i4) (namesR_t0_L0_S c0 l1 c2 l3 i4) (againK 0 0 [.no, .no, .no, .yes, .no, .yes] [.no, .no, .no, .yes, .yes] more kk) = (namesR_t0_L0_stp c0 l1 c2 l3 i4).K (fun x' => more (namesR_t0_L0_T c0 l1 c2 l3 x') (namesR_t0_L0_S c0 l1 c2 l3 x')) (fun y => namesR_t0_L0_ex (c0, l1, c2, l3) y kk) := by kernel_rfl
noncomputable def namesR_t0_L0_LP : Nat → Option LoopS := addL 0 (headG 0 [.no, .no, .no, .yes, .no, .yes] (outL namesR_t0_L0 namesR_t0_L0_of namesR_t0_L0_ex)) noL
theorem namesR_t0_L0_lp (hpr : PrOk Try.prog colofR_pr) : LoopsFor Try.prog 42 0 namesR_t0_L0_LP := loops_lp (L := 100) (T := fun i x => namesR_t0_L0_T i.1 i.2.1 i.2.2.1 i.2.2.2 x) (S := fun i x => namesR_t0_L0_S i.1 i.2.1 i.2.2.1 i.2.2.2 x) ok hpr (by kernel_rfl) loops_none namesR_t0_L0_of_ok (fun i x more kk => namesR_t0_L0_rd i.1 i.2.1 i.2.2.1 i.2.2.2 x more kk)
noncomputable def namesR_t0_L6_T (c15 : List UInt8) (l16 : List D) (c17 : List UInt8) (l18 : List D) (l19 : List D) (c20 : List UInt8) (i22 : Int) (i26 : Int) (i23 : Int) : List AV := ([.any, .any, .any, AV.ptr (some ((0 : Nat), (0 : Nat))), .any, .any, AV.int IntKind.i64 i26, AV.ptr (some ((1 : Nat), (0 : Nat))), AV.int IntKind.i64 i22, AV.int IntKind.i64 i23] ++ padAny 118)
noncomputable def namesR_t0_L6_S (c15 : List UInt8) (l16 : List D) (c17 : List UInt8) (l18 : List D) (l19 : List D) (c20 : List UInt8) (i22 : Int) (i26 : Int) (i23 : Int) : St := [Ent.cells [AV.str c15, AV.fz false shCol l16, AV.str c17, AV.fz false shDep l18], Ent.cells [AV.fz false Sh.str l19, AV.str c20]]
noncomputable def namesR_t0_L6_of : List AV → St → Option (((List UInt8) × (List D) × (List UInt8) × (List D) × (List D) × (List UInt8) × Int × Int) × (Int)) := fun t s => match t, s with
  | .any :: .any :: .any :: (.ptr (.some (e_0, e_1))) :: .any :: .any :: (.int .i64 i26) :: (.ptr (.some (e_2, e_3))) :: (.int .i64 i22) :: (.int .i64 i23) :: t_0, [(.cells [(.str c15), (.fz false e_4 l16), (.str c17), (.fz false e_5 l18)]), (.cells [(.fz false e_6 l19), (.str c20)])] => (match dropAny 118 t_0 with
    | some ([]) => (match Nat.beq e_0 (0 : Nat) && (Nat.beq e_1 (0 : Nat) && (Nat.beq e_2 (1 : Nat) && (Nat.beq e_3 (0 : Nat) && (Sh.beq e_4 shCol && (Sh.beq e_5 shDep && (Sh.beq e_6 (Sh.str) && (true))))))) with | true => some ((c15, l16, c17, l18, l19, c20, i22, i26), (i23)) | false => none)
    | _ => none)
  | _, _ => none
noncomputable def namesR_t0_L6_ex (i : (List UInt8) × (List D) × (List UInt8) × (List D) × (List D) × (List UInt8) × Int × Int) (y : Nat) (k : KS) : Prop := let c15 := i.1; let l16 := i.2.1; let c17 := i.2.2.1; let l18 := i.2.2.2.1; let l19 := i.2.2.2.2.1; let c20 := i.2.2.2.2.2.1; let i22 := i.2.2.2.2.2.2.1; let i26 := i.2.2.2.2.2.2.2; let tag := y; br (Nat.beq tag 0) (k (Ex.ret) ([.any, .any, .any, AV.ptr (some ((0 : Nat), (0 : Nat))), AV.bool false, .any, AV.int IntKind.i64 i26, AV.ptr (some ((1 : Nat), (0 : Nat))), AV.int IntKind.i64 i22] ++ padAny 119) [Ent.cells [AV.str c15, AV.fz false shCol l16, AV.str c17, AV.fz false shDep l18], Ent.cells [AV.fz false Sh.str l19, AV.str c20]]) (br (Nat.beq tag 1) (k (Ex.normal) ([.any, .any, .any, AV.ptr (some ((0 : Nat), (0 : Nat))), .any, .any, AV.int IntKind.i64 i26, AV.ptr (some ((1 : Nat), (0 : Nat))), AV.int IntKind.i64 i22] ++ padAny 119) [Ent.cells [AV.str c15, AV.fz false shCol l16, AV.str c17, AV.fz false shDep l18], Ent.cells [AV.fz false Sh.str l19, AV.str c20]]) (False))
theorem namesR_t0_L6_of_ok : ∀ t s (i : (List UInt8) × (List D) × (List UInt8) × (List D) × (List D) × (List UInt8) × Int × Int) (x : Int), namesR_t0_L6_of t s = some (i, x) → t = namesR_t0_L6_T i.1 i.2.1 i.2.2.1 i.2.2.2.1 i.2.2.2.2.1 i.2.2.2.2.2.1 i.2.2.2.2.2.2.1 i.2.2.2.2.2.2.2 x ∧ s = namesR_t0_L6_S i.1 i.2.1 i.2.2.1 i.2.2.2.1 i.2.2.2.2.1 i.2.2.2.2.2.1 i.2.2.2.2.2.2.1 i.2.2.2.2.2.2.2 x := by
  intro t s i x h
  unfold namesR_t0_L6_of at h
  split at h
  · split at h
    · rename_i ha
      obtain rfl := dropAny_eq ha
      split at h
      · rename_i hg
        cases h
        simp only [Bool.and_eq_true] at hg
        obtain ⟨h_0, h_1, h_2, h_3, h_4, h_5, h_6, _⟩ := hg
        obtain rfl := Nat.eq_of_beq_eq_true h_0
        obtain rfl := Nat.eq_of_beq_eq_true h_1
        obtain rfl := Nat.eq_of_beq_eq_true h_2
        obtain rfl := Nat.eq_of_beq_eq_true h_3
        obtain rfl := Sh.beq_eq _ _ h_4
        obtain rfl := Sh.beq_eq _ _ h_5
        obtain rfl := Sh.beq_eq _ _ h_6
        exact ⟨rfl, rfl⟩
      · cases h
    · cases h
  · cases h
noncomputable def namesR_t0_L6_stp (c15 : List UInt8) (l16 : List D) (c17 : List UInt8) (l18 : List D) (l19 : List D) (c20 : List UInt8) (i22 : Int) (i26 : Int) (i23 : Int) : NT (Int) (Nat) :=
  NT.br (decide (i23 < i22))
    (NT.br (decide ((0 : Int) ≤ i23) && decide (i23 < (↑l19.length : Int)))
     (NT.br (decide ((0 : Int) ≤ i22) && decide (i22 < (↑l19.length : Int)))
      (NT.br (eqBytes (l19.getD i23.toNat D.nul).asStr (l19.getD i22.toNat D.nul).asStr)
       (NT.done (0))
       (NT.more (IntKind.i64.wrap (i23 + (1 : Int)))))
      (NT.fail))
     (NT.fail))
    (NT.done (1))
noncomputable def namesR_t0_L6 (i : (List UInt8) × (List D) × (List UInt8) × (List D) × (List D) × (List UInt8) × Int × Int) (x : Int) := namesR_t0_L6_stp i.1 i.2.1 i.2.2.1 i.2.2.2.1 i.2.2.2.2.1 i.2.2.2.2.2.1 i.2.2.2.2.2.2.1 i.2.2.2.2.2.2.2 x
theorem namesR_t0_L6_rd (c15 : List UInt8) (l16 : List D) (c17 : List UInt8) (l18 : List D) (l19 : List D) (c20 : List UInt8) (i22 : Int) (i26 : Int) (i23 : Int) (more : List AV → St → Prop) (kk : KS) : roundK Try.prog colofR_pr namesR_t0_L0_LP 100 42 6 (namesR_t0_L6_T c15 l16 c17 l18 l19 c20 i22 i26 i23) (namesR_t0_L6_S c15 l16 c17 l18 l19 c20 i22 i26 i23) (againK 0 6 [.no, .no, .no, .yes, .no, .no, .yes, .yes, .yes, .yes] [.no, .no, .no, .yes, .yes, .no, .yes, .yes, .yes] more kk) = (namesR_t0_L6_stp c15 l16 c17 l18 l19 c20 i22 i26 i23).K (fun x' => more (namesR_t0_L6_T c15 l16 c17 l18 l19 c20 i22 i26 x') (namesR_t0_L6_S c15 l16 c17 l18 l19 c20 i22 i26 x')) (fun y => namesR_t0_L6_ex (c15, l16, c17, l18, l19, c20, i22, i26) y kk) := by kernel_rfl
noncomputable def namesR_t0_L6_LP : Nat → Option LoopS := addL 6 (headG 0 [.no, .no, .no, .yes, .no, .no, .yes, .yes, .yes, .yes] (outL namesR_t0_L6 namesR_t0_L6_of namesR_t0_L6_ex)) namesR_t0_L0_LP
theorem namesR_t0_L6_lp (hpr : PrOk Try.prog colofR_pr) : LoopsFor Try.prog 42 0 namesR_t0_L6_LP := loops_lp (L := 100) (T := fun i x => namesR_t0_L6_T i.1 i.2.1 i.2.2.1 i.2.2.2.1 i.2.2.2.2.1 i.2.2.2.2.2.1 i.2.2.2.2.2.2.1 i.2.2.2.2.2.2.2 x) (S := fun i x => namesR_t0_L6_S i.1 i.2.1 i.2.2.1 i.2.2.2.1 i.2.2.2.2.1 i.2.2.2.2.2.1 i.2.2.2.2.2.2.1 i.2.2.2.2.2.2.2 x) ok hpr (by kernel_rfl) (namesR_t0_L0_lp hpr) namesR_t0_L6_of_ok (fun i x more kk => namesR_t0_L6_rd i.1 i.2.1 i.2.2.1 i.2.2.2.1 i.2.2.2.2.1 i.2.2.2.2.2.1 i.2.2.2.2.2.2.1 i.2.2.2.2.2.2.2 x more kk)
noncomputable def namesR_t0_L4_T (c9 : List UInt8) (l10 : List D) (c11 : List UInt8) (l12 : List D) (l13 : List D) (c14 : List UInt8) (i25 : Int) (i21 : Int) : List AV := ([.any, .any, .any, AV.ptr (some ((0 : Nat), (0 : Nat))), .any, .any, AV.int IntKind.i64 i25, AV.ptr (some ((1 : Nat), (0 : Nat))), AV.int IntKind.i64 i21] ++ padAny 119)
noncomputable def namesR_t0_L4_S (c9 : List UInt8) (l10 : List D) (c11 : List UInt8) (l12 : List D) (l13 : List D) (c14 : List UInt8) (i25 : Int) (i21 : Int) : St := [Ent.cells [AV.str c9, AV.fz false shCol l10, AV.str c11, AV.fz false shDep l12], Ent.cells [AV.fz false Sh.str l13, AV.str c14]]
noncomputable def namesR_t0_L4_of : List AV → St → Option (((List UInt8) × (List D) × (List UInt8) × (List D) × (List D) × (List UInt8) × Int) × (Int)) := fun t s => match t, s with
  | .any :: .any :: .any :: (.ptr (.some (e_0, e_1))) :: .any :: .any :: (.int .i64 i25) :: (.ptr (.some (e_2, e_3))) :: (.int .i64 i21) :: t_0, [(.cells [(.str c9), (.fz false e_4 l10), (.str c11), (.fz false e_5 l12)]), (.cells [(.fz false e_6 l13), (.str c14)])] => (match dropAny 119 t_0 with
    | some ([]) => (match Nat.beq e_0 (0 : Nat) && (Nat.beq e_1 (0 : Nat) && (Nat.beq e_2 (1 : Nat) && (Nat.beq e_3 (0 : Nat) && (Sh.beq e_4 shCol && (Sh.beq e_5 shDep && (Sh.beq e_6 (Sh.str) && (true))))))) with | true => some ((c9, l10, c11, l12, l13, c14, i25), (i21)) | false => none)
    | _ => none)
  | _, _ => none
noncomputable def namesR_t0_L4_ex (i : (List UInt8) × (List D) × (List UInt8) × (List D) × (List D) × (List UInt8) × Int) (y : Nat) (k : KS) : Prop := let c9 := i.1; let l10 := i.2.1; let c11 := i.2.2.1; let l12 := i.2.2.2.1; let l13 := i.2.2.2.2.1; let c14 := i.2.2.2.2.2.1; let i25 := i.2.2.2.2.2.2; let tag := y; br (Nat.beq tag 0) (k (Ex.ret) ([.any, .any, .any, AV.ptr (some ((0 : Nat), (0 : Nat))), AV.bool false, .any, AV.int IntKind.i64 i25] ++ padAny 121) [Ent.cells [AV.str c9, AV.fz false shCol l10, AV.str c11, AV.fz false shDep l12]]) (br (Nat.beq tag 1) (k (Ex.normal) ([.any, .any, .any, AV.ptr (some ((0 : Nat), (0 : Nat))), .any, .any, AV.int IntKind.i64 i25] ++ padAny 121) [Ent.cells [AV.str c9, AV.fz false shCol l10, AV.str c11, AV.fz false shDep l12]]) (False))
theorem namesR_t0_L4_of_ok : ∀ t s (i : (List UInt8) × (List D) × (List UInt8) × (List D) × (List D) × (List UInt8) × Int) (x : Int), namesR_t0_L4_of t s = some (i, x) → t = namesR_t0_L4_T i.1 i.2.1 i.2.2.1 i.2.2.2.1 i.2.2.2.2.1 i.2.2.2.2.2.1 i.2.2.2.2.2.2 x ∧ s = namesR_t0_L4_S i.1 i.2.1 i.2.2.1 i.2.2.2.1 i.2.2.2.2.1 i.2.2.2.2.2.1 i.2.2.2.2.2.2 x := by
  intro t s i x h
  unfold namesR_t0_L4_of at h
  split at h
  · split at h
    · rename_i ha
      obtain rfl := dropAny_eq ha
      split at h
      · rename_i hg
        cases h
        simp only [Bool.and_eq_true] at hg
        obtain ⟨h_0, h_1, h_2, h_3, h_4, h_5, h_6, _⟩ := hg
        obtain rfl := Nat.eq_of_beq_eq_true h_0
        obtain rfl := Nat.eq_of_beq_eq_true h_1
        obtain rfl := Nat.eq_of_beq_eq_true h_2
        obtain rfl := Nat.eq_of_beq_eq_true h_3
        obtain rfl := Sh.beq_eq _ _ h_4
        obtain rfl := Sh.beq_eq _ _ h_5
        obtain rfl := Sh.beq_eq _ _ h_6
        exact ⟨rfl, rfl⟩
      · cases h
    · cases h
  · cases h
noncomputable def namesR_t0_L4_stp (c9 : List UInt8) (l10 : List D) (c11 : List UInt8) (l12 : List D) (l13 : List D) (c14 : List UInt8) (i25 : Int) (i21 : Int) : NT (Int) (Nat) :=
  NT.br (decide (i21 < (↑l13.length : Int)))
    (NT.br (decide ((0 : Int) ≤ i21) && decide (i21 < (↑l13.length : Int)))
     (NT.br (colofR_t0_V0 c9 l10 c11 l12 (l13.getD i21.toNat D.nul).asStr)
      (NT.br (decide (colofR_t0_V1 c9 l10 c11 l12 (l13.getD i21.toNat D.nul).asStr < (0 : Int)))
       (NT.done (0))
       (NT.br (decide ((0 : Int) ≤ i21) && decide (i21 < (↑l13.length : Int)))
        (NT.br (eqBytes (l13.getD i21.toNat D.nul).asStr c14)
         (NT.done (0))
         (NT.br (loopOk (namesR_t0_L6 (c9, l10, c11, l12, l13, c14, i21, i25)) (0 : Int))
          (NT.br ((loopV (namesR_t0_L6 (c9, l10, c11, l12, l13, c14, i21, i25)) (0 : Int)).beq (0 : Nat))
           (NT.done (0))
           (NT.br ((loopV (namesR_t0_L6 (c9, l10, c11, l12, l13, c14, i21, i25)) (0 : Int)).beq (1 : Nat))
            (NT.more (IntKind.i64.wrap (i21 + (1 : Int))))
            (NT.fail)))
          (NT.fail)))
        (NT.fail)))
      (NT.fail))
     (NT.fail))
    (NT.done (1))
noncomputable def namesR_t0_L4 (i : (List UInt8) × (List D) × (List UInt8) × (List D) × (List D) × (List UInt8) × Int) (x : Int) := namesR_t0_L4_stp i.1 i.2.1 i.2.2.1 i.2.2.2.1 i.2.2.2.2.1 i.2.2.2.2.2.1 i.2.2.2.2.2.2 x
theorem namesR_t0_L4_rd (c9 : List UInt8) (l10 : List D) (c11 : List UInt8) (l12 : List D) (l13 : List D) (c14 : List UInt8) (i25 : Int) (i21 : Int) (more : List AV → St → Prop) (kk : KS) : roundK Try.prog colofR_pr namesR_t0_L6_LP 100 42 4 (namesR_t0_L4_T c9 l10 c11 l12 l13 c14 i25 i21) (namesR_t0_L4_S c9 l10 c11 l12 l13 c14 i25 i21) (againK 0 4 [.no, .no, .no, .yes, .no, .no, .yes, .yes, .yes] [.no, .no, .no, .yes, .yes, .no, .yes] more kk) = (namesR_t0_L4_stp c9 l10 c11 l12 l13 c14 i25 i21).K (fun x' => more (namesR_t0_L4_T c9 l10 c11 l12 l13 c14 i25 x') (namesR_t0_L4_S c9 l10 c11 l12 l13 c14 i25 x')) (fun y => namesR_t0_L4_ex (c9, l10, c11, l12, l13, c14, i25) y kk) := by kernel_rfl
noncomputable def namesR_t0_L4_LP : Nat → Option LoopS := addL 4 (headG 0 [.no, .no, .no, .yes, .no, .no, .yes, .yes, .yes] (outL namesR_t0_L4 namesR_t0_L4_of namesR_t0_L4_ex)) namesR_t0_L6_LP
theorem namesR_t0_L4_lp (hpr : PrOk Try.prog colofR_pr) : LoopsFor Try.prog 42 0 namesR_t0_L4_LP := loops_lp (L := 100) (T := fun i x => namesR_t0_L4_T i.1 i.2.1 i.2.2.1 i.2.2.2.1 i.2.2.2.2.1 i.2.2.2.2.2.1 i.2.2.2.2.2.2 x) (S := fun i x => namesR_t0_L4_S i.1 i.2.1 i.2.2.1 i.2.2.2.1 i.2.2.2.2.1 i.2.2.2.2.2.1 i.2.2.2.2.2.2 x) ok hpr (by kernel_rfl) (namesR_t0_L6_lp hpr) namesR_t0_L4_of_ok (fun i x more kk => namesR_t0_L4_rd i.1 i.2.1 i.2.2.1 i.2.2.2.1 i.2.2.2.2.1 i.2.2.2.2.2.1 i.2.2.2.2.2.2 x more kk)
noncomputable def namesR_t0_L2_T (c5 : List UInt8) (l6 : List D) (c7 : List UInt8) (l8 : List D) (i24 : Int) : List AV := ([.any, .any, .any, AV.ptr (some ((0 : Nat), (0 : Nat))), .any, .any, AV.int IntKind.i64 i24] ++ padAny 121)
noncomputable def namesR_t0_L2_S (c5 : List UInt8) (l6 : List D) (c7 : List UInt8) (l8 : List D) (i24 : Int) : St := [Ent.cells [AV.str c5, AV.fz false shCol l6, AV.str c7, AV.fz false shDep l8]]
noncomputable def namesR_t0_L2_of : List AV → St → Option (((List UInt8) × (List D) × (List UInt8) × (List D)) × (Int)) := fun t s => match t, s with
  | .any :: .any :: .any :: (.ptr (.some (e_0, e_1))) :: .any :: .any :: (.int .i64 i24) :: t_0, [(.cells [(.str c5), (.fz false e_2 l6), (.str c7), (.fz false e_3 l8)])] => (match dropAny 121 t_0 with
    | some ([]) => (match Nat.beq e_0 (0 : Nat) && (Nat.beq e_1 (0 : Nat) && (Sh.beq e_2 shCol && (Sh.beq e_3 shDep && (true)))) with | true => some ((c5, l6, c7, l8), (i24)) | false => none)
    | _ => none)
  | _, _ => none
noncomputable def namesR_t0_L2_ex (i : (List UInt8) × (List D) × (List UInt8) × (List D)) (y : Nat) (k : KS) : Prop := let c5 := i.1; let l6 := i.2.1; let c7 := i.2.2.1; let l8 := i.2.2.2; let tag := y; br (Nat.beq tag 0) (k (Ex.ret) ([.any, .any, .any, .any, AV.bool false] ++ padAny 123) []) (br (Nat.beq tag 1) (k (Ex.normal) ([.any] ++ padAny 127) []) (False))
theorem namesR_t0_L2_of_ok : ∀ t s (i : (List UInt8) × (List D) × (List UInt8) × (List D)) (x : Int), namesR_t0_L2_of t s = some (i, x) → t = namesR_t0_L2_T i.1 i.2.1 i.2.2.1 i.2.2.2 x ∧ s = namesR_t0_L2_S i.1 i.2.1 i.2.2.1 i.2.2.2 x := by
  intro t s i x h
  unfold namesR_t0_L2_of at h
  split at h
  · split at h
    · rename_i ha
      obtain rfl := dropAny_eq ha
      split at h
      · rename_i hg
        cases h
        simp only [Bool.and_eq_true] at hg
        obtain ⟨h_0, h_1, h_2, h_3, _⟩ := hg
        obtain rfl := Nat.eq_of_beq_eq_true h_0
        obtain rfl := Nat.eq_of_beq_eq_true h_1
        obtain rfl := Sh.beq_eq _ _ h_2
        obtain rfl := Sh.beq_eq _ _ h_3
        exact ⟨rfl, rfl⟩
      · cases h
    · cases h
  · cases h
noncomputable def namesR_t0_L2_stp (c5 : List UInt8) (l6 : List D) (c7 : List UInt8) (l8 : List D) (i24 : Int) : NT (Int) (Nat) :=
  NT.br (decide (i24 < (↑l8.length : Int)))
    (NT.br (decide ((0 : Int) ≤ i24) && decide (i24 < (↑l8.length : Int)))
     (NT.br (decide ((↑((l8.getD i24.toNat D.nul).fld (0 : Nat)).els.length : Int) < (1 : Int)))
      (NT.done (0))
      (NT.br (decide ((↑((l8.getD i24.toNat D.nul).fld (0 : Nat)).els.length : Int) > (3 : Int)))
       (NT.done (0))
       (NT.br (colofR_t0_V0 c5 l6 c7 l8 ((l8.getD i24.toNat D.nul).fld (1 : Nat)).asStr)
        (NT.br (decide (colofR_t0_V1 c5 l6 c7 l8 ((l8.getD i24.toNat D.nul).fld (1 : Nat)).asStr < (0 : Int)))
         (NT.done (0))
         (NT.br (loopOk (namesR_t0_L4 (c5, l6, c7, l8, ((l8.getD i24.toNat D.nul).fld (0 : Nat)).els, ((l8.getD i24.toNat D.nul).fld (1 : Nat)).asStr, i24)) (0 : Int))
          (NT.br ((loopV (namesR_t0_L4 (c5, l6, c7, l8, ((l8.getD i24.toNat D.nul).fld (0 : Nat)).els, ((l8.getD i24.toNat D.nul).fld (1 : Nat)).asStr, i24)) (0 : Int)).beq (0 : Nat))
           (NT.done (0))
           (NT.br ((loopV (namesR_t0_L4 (c5, l6, c7, l8, ((l8.getD i24.toNat D.nul).fld (0 : Nat)).els, ((l8.getD i24.toNat D.nul).fld (1 : Nat)).asStr, i24)) (0 : Int)).beq (1 : Nat))
            (NT.more (IntKind.i64.wrap (i24 + (1 : Int))))
            (NT.fail)))
          (NT.fail)))
        (NT.fail))))
     (NT.fail))
    (NT.done (1))
noncomputable def namesR_t0_L2 (i : (List UInt8) × (List D) × (List UInt8) × (List D)) (x : Int) := namesR_t0_L2_stp i.1 i.2.1 i.2.2.1 i.2.2.2 x
theorem namesR_t0_L2_rd (c5 : List UInt8) (l6 : List D) (c7 : List UInt8) (l8 : List D) (i24 : Int) (more : List AV → St → Prop) (kk : KS) : roundK Try.prog colofR_pr namesR_t0_L4_LP 100 42 2 (namesR_t0_L2_T c5 l6 c7 l8 i24) (namesR_t0_L2_S c5 l6 c7 l8 i24) (againK 0 2 [.no, .no, .no, .yes, .no, .no, .yes] [.no, .no, .no, .no, .yes] more kk) = (namesR_t0_L2_stp c5 l6 c7 l8 i24).K (fun x' => more (namesR_t0_L2_T c5 l6 c7 l8 x') (namesR_t0_L2_S c5 l6 c7 l8 x')) (fun y => namesR_t0_L2_ex (c5, l6, c7, l8) y kk) := by kernel_rfl
noncomputable def namesR_t0_L2_LP : Nat → Option LoopS := addL 2 (headG 0 [.no, .no, .no, .yes, .no, .no, .yes] (outL namesR_t0_L2 namesR_t0_L2_of namesR_t0_L2_ex)) namesR_t0_L4_LP
theorem namesR_t0_L2_lp (hpr : PrOk Try.prog colofR_pr) : LoopsFor Try.prog 42 0 namesR_t0_L2_LP := loops_lp (L := 100) (T := fun i x => namesR_t0_L2_T i.1 i.2.1 i.2.2.1 i.2.2.2 x) (S := fun i x => namesR_t0_L2_S i.1 i.2.1 i.2.2.1 i.2.2.2 x) ok hpr (by kernel_rfl) (namesR_t0_L4_lp hpr) namesR_t0_L2_of_ok (fun i x more kk => namesR_t0_L2_rd i.1 i.2.1 i.2.2.1 i.2.2.2 x more kk)
noncomputable def namesR_t0r (l0 : List D) (c1_0 : List UInt8) (l1_1 : List D) (c1_2 : List UInt8) (l1_3 : List D) : RT :=
  RT.br (nameR_t0_V0 c1_0)
    (RT.br (!nameR_t0_V1 c1_0)
     (okL (AV.bool false) ([]))
     (RT.br (findR_t0_V0 l0 c1_0)
      (RT.br (decide (findR_t0_V1 l0 c1_0 ≥ (0 : Int)))
       (okL (AV.bool false) ([]))
       (RT.br (loopOk (namesR_t0_L0 (c1_0, l1_1, c1_2, l1_3)) (0 : Int))
        (RT.br ((loopV (namesR_t0_L0 (c1_0, l1_1, c1_2, l1_3)) (0 : Int)).beq (0 : Nat))
         (okL (AV.bool false) ([]))
         (RT.br ((loopV (namesR_t0_L0 (c1_0, l1_1, c1_2, l1_3)) (0 : Int)).beq (1 : Nat))
          (RT.br (!eqBytes c1_2 [])
           (RT.br (colofR_t0_V0 c1_0 l1_1 c1_2 l1_3 c1_2)
            (RT.br (decide (colofR_t0_V1 c1_0 l1_1 c1_2 l1_3 c1_2 < (0 : Int)))
             (okL (AV.bool false) ([]))
             (RT.br (loopOk (namesR_t0_L2 (c1_0, l1_1, c1_2, l1_3)) (0 : Int))
              (RT.br ((loopV (namesR_t0_L2 (c1_0, l1_1, c1_2, l1_3)) (0 : Int)).beq (0 : Nat))
               (okL (AV.bool false) ([]))
               (RT.br ((loopV (namesR_t0_L2 (c1_0, l1_1, c1_2, l1_3)) (0 : Int)).beq (1 : Nat))
                (okL (AV.bool true) ([]))
                (RT.fail)))
              (RT.fail)))
            (RT.fail))
           (RT.br (loopOk (namesR_t0_L2 (c1_0, l1_1, c1_2, l1_3)) (0 : Int))
            (RT.br ((loopV (namesR_t0_L2 (c1_0, l1_1, c1_2, l1_3)) (0 : Int)).beq (0 : Nat))
             (okL (AV.bool false) ([]))
             (RT.br ((loopV (namesR_t0_L2 (c1_0, l1_1, c1_2, l1_3)) (0 : Int)).beq (1 : Nat))
              (okL (AV.bool true) ([]))
              (RT.fail)))
            (RT.fail)))
          (RT.fail)))
        (RT.fail)))
      (RT.fail)))
    (RT.fail)
theorem namesR_t0r_b (l0 : List D) (c1_0 : List UInt8) (l1_1 : List D) (c1_2 : List UInt8) (l1_3 : List D) (K : AV → St → Prop) : bodyK Try.prog colofR_pr namesR_t0_L2_LP 100 42 [] [.fz false (.struct [.str, (.slice (.struct [.str, (.int .i64), .bool, .str])), .str, (.slice (.struct [(.slice .str), .str]))]) l0, (.agg [.str c1_0, .fz false (.struct [.str, (.int .i64), .bool, .str]) l1_1, .str c1_2, .fz false (.struct [(.slice .str), .str]) l1_3])] [] K = RT.K (fun v s _ => K v s) (namesR_t0r l0 c1_0 l1_1 c1_2 l1_3) := by kernel_rfl
noncomputable def namesR_t0_V0 (l0 : List D) (c1_0 : List UInt8) (l1_1 : List D) (c1_2 : List UInt8) (l1_3 : List D) : Bool :=
  nameR_t0_V0 c1_0 && bif !nameR_t0_V1 c1_0 then true else findR_t0_V0 l0 c1_0 && bif decide (findR_t0_V1 l0 c1_0 ≥ (0 : Int)) then true else loopOk (namesR_t0_L0 (c1_0, l1_1, c1_2, l1_3)) (0 : Int) && bif (loopV (namesR_t0_L0 (c1_0, l1_1, c1_2, l1_3)) (0 : Int)).beq (0 : Nat) then true else (loopV (namesR_t0_L0 (c1_0, l1_1, c1_2, l1_3)) (0 : Int)).beq (1 : Nat) && bif !eqBytes c1_2 [] then colofR_t0_V0 c1_0 l1_1 c1_2 l1_3 c1_2 && bif decide (colofR_t0_V1 c1_0 l1_1 c1_2 l1_3 c1_2 < (0 : Int)) then true else loopOk (namesR_t0_L2 (c1_0, l1_1, c1_2, l1_3)) (0 : Int) && bif (loopV (namesR_t0_L2 (c1_0, l1_1, c1_2, l1_3)) (0 : Int)).beq (0 : Nat) then true else (loopV (namesR_t0_L2 (c1_0, l1_1, c1_2, l1_3)) (0 : Int)).beq (1 : Nat) && true else loopOk (namesR_t0_L2 (c1_0, l1_1, c1_2, l1_3)) (0 : Int) && bif (loopV (namesR_t0_L2 (c1_0, l1_1, c1_2, l1_3)) (0 : Int)).beq (0 : Nat) then true else (loopV (namesR_t0_L2 (c1_0, l1_1, c1_2, l1_3)) (0 : Int)).beq (1 : Nat) && true
noncomputable def namesR_t0_V1 (l0 : List D) (c1_0 : List UInt8) (l1_1 : List D) (c1_2 : List UInt8) (l1_3 : List D) : Bool :=
  bif !nameR_t0_V1 c1_0 then false else bif decide (findR_t0_V1 l0 c1_0 ≥ (0 : Int)) then false else bif (loopV (namesR_t0_L0 (c1_0, l1_1, c1_2, l1_3)) (0 : Int)).beq (0 : Nat) then false else bif !eqBytes c1_2 [] then bif decide (colofR_t0_V1 c1_0 l1_1 c1_2 l1_3 c1_2 < (0 : Int)) then false else bif (loopV (namesR_t0_L2 (c1_0, l1_1, c1_2, l1_3)) (0 : Int)).beq (0 : Nat) then false else true else bif (loopV (namesR_t0_L2 (c1_0, l1_1, c1_2, l1_3)) (0 : Int)).beq (0 : Nat) then false else true
noncomputable def namesR_t0 (l0 : List D) (c1_0 : List UInt8) (l1_1 : List D) (c1_2 : List UInt8) (l1_3 : List D) : RT :=
  RT.br (namesR_t0_V0 l0 c1_0 l1_1 c1_2 l1_3)
    (okL (Go.Sy.AV.bool (namesR_t0_V1 l0 c1_0 l1_1 c1_2 l1_3)) [])
    (RT.fail)
theorem namesR_t0_m (l0 : List D) (c1_0 : List UInt8) (l1_1 : List D) (c1_2 : List UInt8) (l1_3 : List D) (K : AV → St → Prop) : RT.K (fun v s _ => K v s) (RT.mergeW ([]) (namesR_t0r l0 c1_0 l1_1 c1_2 l1_3)) = RT.K (fun v s _ => K v s) (namesR_t0 l0 c1_0 l1_1 c1_2 l1_3) := by kernel_rfl
theorem namesR_t0_b (l0 : List D) (c1_0 : List UInt8) (l1_1 : List D) (c1_2 : List UInt8) (l1_3 : List D) (K : AV → St → Prop) (h : RT.K (fun v s _ => K v s) (namesR_t0 l0 c1_0 l1_1 c1_2 l1_3)) : bodyK Try.prog colofR_pr namesR_t0_L2_LP 100 42 [] [.fz false (.struct [.str, (.slice (.struct [.str, (.int .i64), .bool, .str])), .str, (.slice (.struct [(.slice .str), .str]))]) l0, (.agg [.str c1_0, .fz false (.struct [.str, (.int .i64), .bool, .str]) l1_1, .str c1_2, .fz false (.struct [(.slice .str), .str]) l1_3])] [] K := Eq.mpr (namesR_t0r_b ..) (mergeW_K (S := []) _ ⟨⟨rfl, ⟨⟨rfl, ⟨⟨rfl, ⟨⟨⟨⟨rfl, ⟨⟨rfl, ⟨rfl, trivial⟩⟩, trivial⟩⟩, trivial⟩, ⟨⟨rfl, ⟨rfl, trivial⟩⟩, trivial⟩⟩, trivial⟩⟩, trivial⟩⟩, trivial⟩⟩, trivial⟩ (Eq.mpr (namesR_t0_m ..) h))
theorem namesR_t0_lp (hpr : PrOk Try.prog colofR_pr) : LoopsFor Try.prog 42 0 namesR_t0_L2_LP := (namesR_t0_L2_lp hpr)
noncomputable def namesR : Sy.Spec := ⟨[.data (.slice (.struct [.str, (.slice (.struct [.str, (.int .i64), .bool, .str])), .str, (.slice (.struct [(.slice .str), .str]))])), .data (.struct [.str, (.slice (.struct [.str, (.int .i64), .bool, .str])), .str, (.slice (.struct [(.slice .str), .str]))])], fun args s => match args, s with
  | [(.fz false e_0 l0), (.agg [(.str c1_0), (.fz false e_1 l1_1), (.str c1_2), (.fz false e_2 l1_3)])], [] => .br (Sh.beq e_0 shTab && (Sh.beq e_1 shCol && (Sh.beq e_2 shDep && (true)))) (namesR_t0 l0 c1_0 l1_1 c1_2 l1_3) .fail
  | _, _ => .fail⟩
theorem namesR_ok : SpecOk Try.prog 42 namesR.f := specOk_comes fun args s v s' tch e => by
  simp only [namesR] at e
  split at e
  · obtain ⟨hg, e⟩ := if_run e
    simp only [Bool.and_eq_true] at hg
    obtain ⟨h_0, h_1, h_2, _⟩ := hg
    obtain rfl := Sh.beq_eq _ _ h_0
    obtain rfl := Sh.beq_eq _ _ h_1
    obtain rfl := Sh.beq_eq _ _ h_2
    refine comes_of ok colofR_pr_k (L := 100) (ms := []) (by kernel_rfl) (namesR_t0_lp colofR_pr_k) ?_
    exact namesR_t0_b (h := K_run e) ..
  · cases e
noncomputable def namesR_pr : FuncId → Option Sy.Spec := addP 42 namesR colofR_pr
theorem namesR_pr_k : PrOk Try.prog namesR_pr := prOk_add namesR_ok colofR_pr_k
noncomputable def mayR_t0_L0_T (l0 : List D) (c1 : List UInt8) (l2 : List D) (c3 : List UInt8) (l4 : List D) (i5 : Int) : List AV := ([AV.fz false shTab l0, .any, .any, AV.ptr (some ((0 : Nat), (0 : Nat))), .any, AV.int IntKind.i64 i5] ++ padAny 105)
noncomputable def mayR_t0_L0_S (l0 : List D) (c1 : List UInt8) (l2 : List D) (c3 : List UInt8) (l4 : List D) (i5 : Int) : St := [Ent.cells [AV.str c1, AV.fz false shCol l2, AV.str c3, AV.fz false shDep l4]]
noncomputable def mayR_t0_L0_of : List AV → St → Option (((List D) × (List UInt8) × (List D) × (List UInt8) × (List D)) × (Int)) := fun t s => match t, s with
  | (.fz false e_0 l0) :: .any :: .any :: (.ptr (.some (e_1, e_2))) :: .any :: (.int .i64 i5) :: t_0, [(.cells [(.str c1), (.fz false e_3 l2), (.str c3), (.fz false e_4 l4)])] => (match dropAny 105 t_0 with
    | some ([]) => (match Sh.beq e_0 shTab && (Nat.beq e_1 (0 : Nat) && (Nat.beq e_2 (0 : Nat) && (Sh.beq e_3 shCol && (Sh.beq e_4 shDep && (true))))) with | true => some ((l0, c1, l2, c3, l4), (i5)) | false => none)
    | _ => none)
  | _, _ => none
noncomputable def mayR_t0_L0_ex (i : (List D) × (List UInt8) × (List D) × (List UInt8) × (List D)) (y : Nat) (k : KS) : Prop := let l0 := i.1; let c1 := i.2.1; let l2 := i.2.2.1; let c3 := i.2.2.2.1; let l4 := i.2.2.2.2; let tag := y; br (Nat.beq tag 0) (k (Ex.ret) ([AV.fz false shTab l0, .any, .any, AV.ptr (some ((0 : Nat), (0 : Nat))), AV.int IntKind.i64 (4 : Int)] ++ padAny 106) [Ent.cells [AV.str c1, AV.fz false shCol l2, AV.str c3, AV.fz false shDep l4]]) (br (Nat.beq tag 1) (k (Ex.normal) ([AV.fz false shTab l0, .any, .any, AV.ptr (some ((0 : Nat), (0 : Nat)))] ++ padAny 107) [Ent.cells [AV.str c1, AV.fz false shCol l2, AV.str c3, AV.fz false shDep l4]]) (False))
theorem mayR_t0_L0_of_ok : ∀ t s (i : (List D) × (List UInt8) × (List D) × (List UInt8) × (List D)) (x : Int), mayR_t0_L0_of t s = some (i, x) → t = mayR_t0_L0_T i.1 i.2.1 i.2.2.1 i.2.2.2.1 i.2.2.2.2 x ∧ s = mayR_t0_L0_S i.1 i.2.1 i.2.2.1 i.2.2.2.1 i.2.2.2.2 x := by
  intro t s i x h
  unfold mayR_t0_L0_of at h
  split at h
  · split at h
    · rename_i ha
      obtain rfl := dropAny_eq ha
      split at h
      · rename_i hg
        cases h
        simp only [Bool.and_eq_true] at hg
        obtain ⟨h_0, h_1, h_2, h_3, h_4, _⟩ := hg
        obtain rfl := Sh.beq_eq _ _ h_0
        obtain rfl := Nat.eq_of_beq_eq_true h_1
        obtain rfl := Nat.eq_of_beq_eq_true h_2
        obtain rfl := Sh.beq_eq _ _ h_3
        obtain rfl := Sh.beq_eq _ _ h_4
        exact ⟨rfl, rfl⟩
      · cases h
    · cases h
  · cases h
noncomputable def mayR_t0_L0_stp (l0 : List D) (c1 : List UInt8) (l2 : List D) (c3 : List UInt8) (l4 : List D) (i5 : Int) : NT (Int) (Nat) :=
  NT.br (decide (i5 < (↑l2.length : Int)))
    (NT.br (decide ((0 : Int) ≤ i5) && decide (i5 < (↑l2.length : Int)))
     (NT.br (!decide (((l2.getD i5.toNat D.nul).fld (1 : Nat)).asInt = (1 : Int)))
      (NT.br (decide ((0 : Int) ≤ i5) && decide (i5 < (↑l2.length : Int)))
       (NT.br (!decide (((l2.getD i5.toNat D.nul).fld (1 : Nat)).asInt = (2 : Int)))
        (NT.done (0))
        (NT.more (IntKind.i64.wrap (i5 + (1 : Int)))))
       (NT.fail))
      (NT.more (IntKind.i64.wrap (i5 + (1 : Int)))))
     (NT.fail))
    (NT.done (1))
noncomputable def mayR_t0_L0 (i : (List D) × (List UInt8) × (List D) × (List UInt8) × (List D)) (x : Int) := mayR_t0_L0_stp i.1 i.2.1 i.2.2.1 i.2.2.2.1 i.2.2.2.2 x
theorem mayR_t0_L0_rd (l0 : List D) (c1 : List UInt8) (l2 : List D) (c3 : List UInt8) (l4 : List D) (i5 : Int) (more : List AV → St → Prop) (kk : KS) : roundK Try.prog namesR_pr noL 100 15 0 (mayR_t0_L0_T l0 c1 l2 c3 l4 i5) (mayR_t0_L0_S l0 c1 l2 c3 l4 i5) (againK 0 0 [.yes, .no, .no, .yes, .no, .yes] [.yes, .no, .no, .yes, .yes] more kk) = (mayR_t0_L0_stp l0 c1 l2 c3 l4 i5).K (fun x' => more (mayR_t0_L0_T l0 c1 l2 c3 l4 x') (mayR_t0_L0_S l0 c1 l2 c3 l4 x')) (fun y => mayR_t0_L0_ex (l0, c1, l2, c3, l4) y kk) := by kernel_rfl
noncomputable def mayR_t0_L0_LP : Nat → Option LoopS := addL 0 (headG 0 [.yes, .no, .no, .yes, .no, .yes] (outL mayR_t0_L0 mayR_t0_L0_of mayR_t0_L0_ex)) noL
theorem mayR_t0_L0_lp (hpr : PrOk Try.prog namesR_pr) : LoopsFor Try.prog 15 0 mayR_t0_L0_LP := loops_lp (L := 100) (T := fun i x => mayR_t0_L0_T i.1 i.2.1 i.2.2.1 i.2.2.2.1 i.2.2.2.2 x) (S := fun i x => mayR_t0_L0_S i.1 i.2.1 i.2.2.1 i.2.2.2.1 i.2.2.2.2 x) ok hpr (by kernel_rfl) loops_none mayR_t0_L0_of_ok (fun i x more kk => mayR_t0_L0_rd i.1 i.2.1 i.2.2.1 i.2.2.2.1 i.2.2.2.2 x more kk)
noncomputable def mayR_t0_L2_T (l6 : List D) (c7 : List UInt8) (l8 : List D) (c9 : List UInt8) (l10 : List D) (i11 : Int) : List AV := ([AV.fz false shTab l6, .any, .any, AV.ptr (some ((0 : Nat), (0 : Nat))), .any, .any, AV.int IntKind.i64 i11] ++ padAny 104)
noncomputable def mayR_t0_L2_S (l6 : List D) (c7 : List UInt8) (l8 : List D) (c9 : List UInt8) (l10 : List D) (i11 : Int) : St := [Ent.cells [AV.str c7, AV.fz false shCol l8, AV.str c9, AV.fz false shDep l10]]
noncomputable def mayR_t0_L2_of : List AV → St → Option (((List D) × (List UInt8) × (List D) × (List UInt8) × (List D)) × (Int)) := fun t s => match t, s with
  | (.fz false e_0 l6) :: .any :: .any :: (.ptr (.some (e_1, e_2))) :: .any :: .any :: (.int .i64 i11) :: t_0, [(.cells [(.str c7), (.fz false e_3 l8), (.str c9), (.fz false e_4 l10)])] => (match dropAny 104 t_0 with
    | some ([]) => (match Sh.beq e_0 shTab && (Nat.beq e_1 (0 : Nat) && (Nat.beq e_2 (0 : Nat) && (Sh.beq e_3 shCol && (Sh.beq e_4 shDep && (true))))) with | true => some ((l6, c7, l8, c9, l10), (i11)) | false => none)
    | _ => none)
  | _, _ => none
noncomputable def mayR_t0_L2_ex (i : (List D) × (List UInt8) × (List D) × (List UInt8) × (List D)) (y : Nat × Int) (k : KS) : Prop := let l6 := i.1; let c7 := i.2.1; let l8 := i.2.2.1; let c9 := i.2.2.2.1; let l10 := i.2.2.2.2; let tag := y.1; let iy13 := y.2; br (Nat.beq tag 0) (k (Ex.ret) ([.any, .any, .any, .any, AV.int IntKind.i64 iy13] ++ padAny 106) []) (br (Nat.beq tag 1) (k (Ex.normal) ([.any] ++ padAny 110) []) (False))
theorem mayR_t0_L2_of_ok : ∀ t s (i : (List D) × (List UInt8) × (List D) × (List UInt8) × (List D)) (x : Int), mayR_t0_L2_of t s = some (i, x) → t = mayR_t0_L2_T i.1 i.2.1 i.2.2.1 i.2.2.2.1 i.2.2.2.2 x ∧ s = mayR_t0_L2_S i.1 i.2.1 i.2.2.1 i.2.2.2.1 i.2.2.2.2 x := by
  intro t s i x h
  unfold mayR_t0_L2_of at h
  split at h
  · split at h
    · rename_i ha
      obtain rfl := dropAny_eq ha
      split at h
      · rename_i hg
        cases h
        simp only [Bool.and_eq_true] at hg
        obtain ⟨h_0, h_1, h_2, h_3, h_4, _⟩ := hg
        obtain rfl := Sh.beq_eq _ _ h_0
        obtain rfl := Nat.eq_of_beq_eq_true h_1
        obtain rfl := Nat.eq_of_beq_eq_true h_2
        obtain rfl := Sh.beq_eq _ _ h_3
        obtain rfl := Sh.beq_eq _ _ h_4
        exact ⟨rfl, rfl⟩
      · cases h
    · cases h
  · cases h
noncomputable def mayR_t0_L2_stp (l6 : List D) (c7 : List UInt8) (l8 : List D) (c9 : List UInt8) (l10 : List D) (i11 : Int) : NT (Int) (Nat × Int) :=
  NT.br (decide (i11 < (↑l8.length : Int)))
    (NT.br (decide ((0 : Int) ≤ i11) && decide (i11 < (↑l8.length : Int)))
     (NT.br (eqBytes ((l8.getD i11.toNat D.nul).fld (3 : Nat)).asStr [])
      (NT.more (IntKind.i64.wrap (i11 + (1 : Int))))
      (NT.br (decide ((0 : Int) ≤ i11) && decide (i11 < (↑l8.length : Int)))
       (NT.br (findR_t0_V0 l6 ((l8.getD i11.toNat D.nul).fld (3 : Nat)).asStr)
        (NT.br (decide (findR_t0_V1 l6 ((l8.getD i11.toNat D.nul).fld (3 : Nat)).asStr < (0 : Int)))
         (NT.done (0, (3 : Int)))
         (NT.br (decide ((0 : Int) ≤ findR_t0_V1 l6 ((l8.getD i11.toNat D.nul).fld (3 : Nat)).asStr) && decide (findR_t0_V1 l6 ((l8.getD i11.toNat D.nul).fld (3 : Nat)).asStr < (↑l6.length : Int)))
          (NT.br (eqBytes ((l6.getD (findR_t0_V1 l6 ((l8.getD i11.toNat D.nul).fld (3 : Nat)).asStr).toNat D.nul).fld (2 : Nat)).asStr [])
           (NT.done (0, (9 : Int)))
           (NT.br (decide ((0 : Int) ≤ findR_t0_V1 l6 ((l8.getD i11.toNat D.nul).fld (3 : Nat)).asStr) && decide (findR_t0_V1 l6 ((l8.getD i11.toNat D.nul).fld (3 : Nat)).asStr < (↑l6.length : Int)))
            (NT.br (decide ((0 : Int) ≤ findR_t0_V1 l6 ((l8.getD i11.toNat D.nul).fld (3 : Nat)).asStr) && decide (findR_t0_V1 l6 ((l8.getD i11.toNat D.nul).fld (3 : Nat)).asStr < (↑l6.length : Int)))
             (NT.br (decide ((0 : Int) ≤ findR_t0_V1 l6 ((l8.getD i11.toNat D.nul).fld (3 : Nat)).asStr) && decide (findR_t0_V1 l6 ((l8.getD i11.toNat D.nul).fld (3 : Nat)).asStr < (↑l6.length : Int)))
              (NT.br (colofR_t0_V0 ((l6.getD (findR_t0_V1 l6 ((l8.getD i11.toNat D.nul).fld (3 : Nat)).asStr).toNat D.nul).fld (0 : Nat)).asStr ((l6.getD (findR_t0_V1 l6 ((l8.getD i11.toNat D.nul).fld (3 : Nat)).asStr).toNat D.nul).fld (1 : Nat)).els ((l6.getD (findR_t0_V1 l6 ((l8.getD i11.toNat D.nul).fld (3 : Nat)).asStr).toNat D.nul).fld (2 : Nat)).asStr ((l6.getD (findR_t0_V1 l6 ((l8.getD i11.toNat D.nul).fld (3 : Nat)).asStr).toNat D.nul).fld (3 : Nat)).els ((l6.getD (findR_t0_V1 l6 ((l8.getD i11.toNat D.nul).fld (3 : Nat)).asStr).toNat D.nul).fld (2 : Nat)).asStr)
               (NT.br (decide ((0 : Int) ≤ colofR_t0_V1 ((l6.getD (findR_t0_V1 l6 ((l8.getD i11.toNat D.nul).fld (3 : Nat)).asStr).toNat D.nul).fld (0 : Nat)).asStr ((l6.getD (findR_t0_V1 l6 ((l8.getD i11.toNat D.nul).fld (3 : Nat)).asStr).toNat D.nul).fld (1 : Nat)).els ((l6.getD (findR_t0_V1 l6 ((l8.getD i11.toNat D.nul).fld (3 : Nat)).asStr).toNat D.nul).fld (2 : Nat)).asStr ((l6.getD (findR_t0_V1 l6 ((l8.getD i11.toNat D.nul).fld (3 : Nat)).asStr).toNat D.nul).fld (3 : Nat)).els ((l6.getD (findR_t0_V1 l6 ((l8.getD i11.toNat D.nul).fld (3 : Nat)).asStr).toNat D.nul).fld (2 : Nat)).asStr) && decide (colofR_t0_V1 ((l6.getD (findR_t0_V1 l6 ((l8.getD i11.toNat D.nul).fld (3 : Nat)).asStr).toNat D.nul).fld (0 : Nat)).asStr ((l6.getD (findR_t0_V1 l6 ((l8.getD i11.toNat D.nul).fld (3 : Nat)).asStr).toNat D.nul).fld (1 : Nat)).els ((l6.getD (findR_t0_V1 l6 ((l8.getD i11.toNat D.nul).fld (3 : Nat)).asStr).toNat D.nul).fld (2 : Nat)).asStr ((l6.getD (findR_t0_V1 l6 ((l8.getD i11.toNat D.nul).fld (3 : Nat)).asStr).toNat D.nul).fld (3 : Nat)).els ((l6.getD (findR_t0_V1 l6 ((l8.getD i11.toNat D.nul).fld (3 : Nat)).asStr).toNat D.nul).fld (2 : Nat)).asStr < (↑((l6.getD (findR_t0_V1 l6 ((l8.getD i11.toNat D.nul).fld (3 : Nat)).asStr).toNat D.nul).fld (1 : Nat)).els.length : Int)))
                (NT.br (decide ((0 : Int) ≤ i11) && decide (i11 < (↑l8.length : Int)))
                 (NT.br (!decide (((((l6.getD (findR_t0_V1 l6 ((l8.getD i11.toNat D.nul).fld (3 : Nat)).asStr).toNat D.nul).fld (1 : Nat)).els.getD (colofR_t0_V1 ((l6.getD (findR_t0_V1 l6 ((l8.getD i11.toNat D.nul).fld (3 : Nat)).asStr).toNat D.nul).fld (0 : Nat)).asStr ((l6.getD (findR_t0_V1 l6 ((l8.getD i11.toNat D.nul).fld (3 : Nat)).asStr).toNat D.nul).fld (1 : Nat)).els ((l6.getD (findR_t0_V1 l6 ((l8.getD i11.toNat D.nul).fld (3 : Nat)).asStr).toNat D.nul).fld (2 : Nat)).asStr ((l6.getD (findR_t0_V1 l6 ((l8.getD i11.toNat D.nul).fld (3 : Nat)).asStr).toNat D.nul).fld (3 : Nat)).els ((l6.getD (findR_t0_V1 l6 ((l8.getD i11.toNat D.nul).fld (3 : Nat)).asStr).toNat D.nul).fld (2 : Nat)).asStr).toNat D.nul).fld (1 : Nat)).asInt = ((l8.getD i11.toNat D.nul).fld (1 : Nat)).asInt))
                  (NT.done (0, (4 : Int)))
                  (NT.more (IntKind.i64.wrap (i11 + (1 : Int)))))
                 (NT.fail))
                (NT.fail))
               (NT.fail))
              (NT.fail))
             (NT.fail))
            (NT.fail)))
          (NT.fail)))
        (NT.fail))
       (NT.fail)))
     (NT.fail))
    (NT.done (1, 0))
noncomputable def mayR_t0_L2 (i : (List D) × (List UInt8) × (List D) × (List UInt8) × (List D)) (x : Int) := mayR_t0_L2_stp i.1 i.2.1 i.2.2.1 i.2.2.2.1 i.2.2.2.2 x
theorem mayR_t0_L2_rd (l6 : List D) (c7 : List UInt8) (l8 : List D) (c9 : List UInt8) (l10 : List D) (i11 : Int) (more : List AV → St → Prop) (kk : KS) : roundK Try.prog namesR_pr mayR_t0_L0_LP 100 15 2 (mayR_t0_L2_T l6 c7 l8 c9 l10 i11) (mayR_t0_L2_S l6 c7 l8 c9 l10 i11) (againK 0 2 [.yes, .no, .no, .yes, .no, .no, .yes] [.no, .no, .no, .no, .yes] more kk) = (mayR_t0_L2_stp l6 c7 l8 c9 l10 i11).K (fun x' => more (mayR_t0_L2_T l6 c7 l8 c9 l10 x') (mayR_t0_L2_S l6 c7 l8 c9 l10 x')) (fun y => mayR_t0_L2_ex (l6, c7, l8, c9, l10) y kk) := by kernel_rfl
noncomputable def mayR_t0_L2_LP : Nat → Option LoopS := addL 2 (headG 0 [.yes, .no, .no, .yes, .no, .no, .yes] (outL mayR_t0_L2 mayR_t0_L2_of mayR_t0_L2_ex)) mayR_t0_L0_LP
theorem mayR_t0_L2_lp (hpr : PrOk Try.prog namesR_pr) : LoopsFor Try.prog 15 0 mayR_t0_L2_LP := loops_lp (L := 100) (T := fun i x => mayR_t0_L2_T i.1 i.2.1 i.2.2.1 i.2.2.2.1 i.2.2.2.2 x) (S := fun i x => mayR_t0_L2_S i.1 i.2.1 i.2.2.1 i.2.2.2.1 i.2.2.2.2 x) ok hpr (by kernel_rfl) (mayR_t0_L0_lp hpr) mayR_t0_L2_of_ok (fun i x more kk => mayR_t0_L2_rd i.1 i.2.1 i.2.2.1 i.2.2.2.1 i.2.2.2.2 x more kk)
noncomputable def mayR_t0r (l0 : List D) (c1_0 : List UInt8) (l1_1 : List D) (c1_2 : List UInt8) (l1_3 : List D) : RT :=
  RT.br (decide ((↑l0.length : Int) ≥ (8 : Int)))
    (okL (AV.int IntKind.i64 (5 : Int)) ([]))
    (RT.br (decide ((↑l1_1.length : Int) < (1 : Int)))
     (okL (AV.int IntKind.i64 (5 : Int)) ([]))
     (RT.br (decide ((↑l1_1.length : Int) > (6 : Int)))
      (okL (AV.int IntKind.i64 (5 : Int)) ([]))
      (RT.br (decide ((↑l1_3.length : Int) > (3 : Int)))
       (okL (AV.int IntKind.i64 (5 : Int)) ([]))
       (RT.br (namesR_t0_V0 l0 c1_0 l1_1 c1_2 l1_3)
        (RT.br (!namesR_t0_V1 l0 c1_0 l1_1 c1_2 l1_3)
         (okL (AV.int IntKind.i64 (3 : Int)) ([]))
         (RT.br (loopOk (mayR_t0_L0 (l0, c1_0, l1_1, c1_2, l1_3)) (0 : Int))
          (RT.br ((loopV (mayR_t0_L0 (l0, c1_0, l1_1, c1_2, l1_3)) (0 : Int)).beq (0 : Nat))
           (okL (AV.int IntKind.i64 (4 : Int)) ([]))
           (RT.br ((loopV (mayR_t0_L0 (l0, c1_0, l1_1, c1_2, l1_3)) (0 : Int)).beq (1 : Nat))
            (RT.br (loopOk (mayR_t0_L2 (l0, c1_0, l1_1, c1_2, l1_3)) (0 : Int))
             (RT.br ((loopV (mayR_t0_L2 (l0, c1_0, l1_1, c1_2, l1_3)) (0 : Int)).fst.beq (0 : Nat))
              (okL (AV.int IntKind.i64 (loopV (mayR_t0_L2 (l0, c1_0, l1_1, c1_2, l1_3)) (0 : Int)).snd) ([]))
              (RT.br ((loopV (mayR_t0_L2 (l0, c1_0, l1_1, c1_2, l1_3)) (0 : Int)).fst.beq (1 : Nat))
               (okL (AV.int IntKind.i64 (0 : Int)) ([]))
               (RT.fail)))
             (RT.fail))
            (RT.fail)))
          (RT.fail)))
        (RT.fail)))))
theorem mayR_t0r_b (l0 : List D) (c1_0 : List UInt8) (l1_1 : List D) (c1_2 : List UInt8) (l1_3 : List D) (K : AV → St → Prop) : bodyK Try.prog namesR_pr mayR_t0_L2_LP 100 15 [] [.fz false (.struct [.str, (.slice (.struct [.str, (.int .i64), .bool, .str])), .str, (.slice (.struct [(.slice .str), .str]))]) l0, (.agg [.str c1_0, .fz false (.struct [.str, (.int .i64), .bool, .str]) l1_1, .str c1_2, .fz false (.struct [(.slice .str), .str]) l1_3])] [] K = RT.K (fun v s _ => K v s) (mayR_t0r l0 c1_0 l1_1 c1_2 l1_3) := by kernel_rfl
noncomputable def mayR_t0_V0 (l0 : List D) (c1_0 : List UInt8) (l1_1 : List D) (c1_2 : List UInt8) (l1_3 : List D) : Bool :=
  bif decide ((↑l0.length : Int) ≥ (8 : Int)) then true else bif decide ((↑l1_1.length : Int) < (1 : Int)) then true else bif decide ((↑l1_1.length : Int) > (6 : Int)) then true else bif decide ((↑l1_3.length : Int) > (3 : Int)) then true else namesR_t0_V0 l0 c1_0 l1_1 c1_2 l1_3 && bif !namesR_t0_V1 l0 c1_0 l1_1 c1_2 l1_3 then true else loopOk (mayR_t0_L0 (l0, c1_0, l1_1, c1_2, l1_3)) (0 : Int) && bif (loopV (mayR_t0_L0 (l0, c1_0, l1_1, c1_2, l1_3)) (0 : Int)).beq (0 : Nat) then true else (loopV (mayR_t0_L0 (l0, c1_0, l1_1, c1_2, l1_3)) (0 : Int)).beq (1 : Nat) && (loopOk (mayR_t0_L2 (l0, c1_0, l1_1, c1_2, l1_3)) (0 : Int) && bif (loopV (mayR_t0_L2 (l0, c1_0, l1_1, c1_2, l1_3)) (0 : Int)).fst.beq (0 : Nat) then true else (loopV (mayR_t0_L2 (l0, c1_0, l1_1, c1_2, l1_3)) (0 : Int)).fst.beq (1 : Nat) && true)
noncomputable def mayR_t0_V1 (l0 : List D) (c1_0 : List UInt8) (l1_1 : List D) (c1_2 : List UInt8) (l1_3 : List D) : Int :=
  bif decide ((↑l0.length : Int) ≥ (8 : Int)) then (5 : Int) else bif decide ((↑l1_1.length : Int) < (1 : Int)) then (5 : Int) else bif decide ((↑l1_1.length : Int) > (6 : Int)) then (5 : Int) else bif decide ((↑l1_3.length : Int) > (3 : Int)) then (5 : Int) else bif !namesR_t0_V1 l0 c1_0 l1_1 c1_2 l1_3 then (3 : Int) else bif (loopV (mayR_t0_L0 (l0, c1_0, l1_1, c1_2, l1_3)) (0 : Int)).beq (0 : Nat) then (4 : Int) else bif (loopV (mayR_t0_L2 (l0, c1_0, l1_1, c1_2, l1_3)) (0 : Int)).fst.beq (0 : Nat) then (loopV (mayR_t0_L2 (l0, c1_0, l1_1, c1_2, l1_3)) (0 : Int)).snd else (0 : Int)
noncomputable def mayR_t0 (l0 : List D) (c1_0 : List UInt8) (l1_1 : List D) (c1_2 : List UInt8) (l1_3 : List D) : RT :=
  RT.br (mayR_t0_V0 l0 c1_0 l1_1 c1_2 l1_3)
    (okL (Go.Sy.AV.int (IntKind.i64) (mayR_t0_V1 l0 c1_0 l1_1 c1_2 l1_3)) [])
    (RT.fail)
theorem mayR_t0_m (l0 : List D) (c1_0 : List UInt8) (l1_1 : List D) (c1_2 : List UInt8) (l1_3 : List D) (K : AV → St → Prop) : RT.K (fun v s _ => K v s) (RT.mergeW ([]) (mayR_t0r l0 c1_0 l1_1 c1_2 l1_3)) = RT.K (fun v s _ => K v s) (mayR_t0 l0 c1_0 l1_1 c1_2 l1_3) := by kernel_rfl
theorem mayR_t0_b (l0 : List D) (c1_0 : List UInt8) (l1_1 : List D) (c1_2 : List UInt8) (l1_3 : List D) (K : AV → St → Prop) (h : RT.K (fun v s _ => K v s) (mayR_t0 l0 c1_0 l1_1 c1_2 l1_3)) : bodyK Try.prog namesR_pr mayR_t0_L2_LP 100 15 [] [.fz false (.struct [.str, (.slice (.struct [.str, (.int .i64), .bool, .str])), .str, (.slice (.struct [(.slice .str), .str]))]) l0, (.agg [.str c1_0, .fz false (.struct [.str, (.int .i64), .bool, .str]) l1_1, .str c1_2, .fz false (.struct [(.slice .str), .str]) l1_3])] [] K := Eq.mpr (mayR_t0r_b ..) (mergeW_K (S := []) _ ⟨rfl, ⟨rfl, ⟨rfl, ⟨rfl, ⟨⟨rfl, ⟨⟨rfl, ⟨⟨⟨rfl, ⟨rfl, trivial⟩⟩, trivial⟩, trivial⟩⟩, trivial⟩⟩, trivial⟩⟩⟩⟩⟩ (Eq.mpr (mayR_t0_m ..) h))
theorem mayR_t0_lp (hpr : PrOk Try.prog namesR_pr) : LoopsFor Try.prog 15 0 mayR_t0_L2_LP := (mayR_t0_L2_lp hpr)
noncomputable def mayR : Sy.Spec := ⟨[.data (.slice (.struct [.str, (.slice (.struct [.str, (.int .i64), .bool, .str])), .str, (.slice (.struct [(.slice .str), .str]))])), .data (.struct [.str, (.slice (.struct [.str, (.int .i64), .bool, .str])), .str, (.slice (.struct [(.slice .str), .str]))])], fun args s => match args, s with
  | [(.fz false e_0 l0), (.agg [(.str c1_0), (.fz false e_1 l1_1), (.str c1_2), (.fz false e_2 l1_3)])], [] => .br (Sh.beq e_0 shTab && (Sh.beq e_1 shCol && (Sh.beq e_2 shDep && (true)))) (mayR_t0 l0 c1_0 l1_1 c1_2 l1_3) .fail
  | _, _ => .fail⟩
theorem mayR_ok : SpecOk Try.prog 15 mayR.f := specOk_comes fun args s v s' tch e => by
  simp only [mayR] at e
  split at e
  · obtain ⟨hg, e⟩ := if_run e
    simp only [Bool.and_eq_true] at hg
    obtain ⟨h_0, h_1, h_2, _⟩ := hg
    obtain rfl := Sh.beq_eq _ _ h_0
    obtain rfl := Sh.beq_eq _ _ h_1
    obtain rfl := Sh.beq_eq _ _ h_2
    refine comes_of ok namesR_pr_k (L := 100) (ms := []) (by kernel_rfl) (mayR_t0_lp namesR_pr_k) ?_
    exact mayR_t0_b (h := K_run e) ..
  · cases e
noncomputable def mayR_pr : FuncId → Option Sy.Spec := addP 15 mayR namesR_pr
theorem mayR_pr_k : PrOk Try.prog mayR_pr := prOk_add mayR_ok namesR_pr_k
noncomputable def formR_t0_L0_T (c0 : List UInt8) (n1 : Nat) (c2 : List UInt8) (l3 : List D) (l4 : List D) (i5 : Int) : List AV := ([.any, AV.ptr (some ((0 : Nat), (0 : Nat))), AV.ptr (some ((2 : Nat), (0 : Nat))), AV.int IntKind.i64 i5] ++ padAny 26)
noncomputable def formR_t0_L0_S (c0 : List UInt8) (n1 : Nat) (c2 : List UInt8) (l3 : List D) (l4 : List D) (i5 : Int) : St := [Ent.cells [AV.str c0, AV.tsl false shCol (1 : Nat) (0 : Nat) n1 Cap.tight, AV.str c2, AV.fz false shDep l3], Ent.tbl false shCol l4, Ent.cells [AV.str [], AV.nilSl, AV.str [], AV.nilSl]]
noncomputable def formR_t0_L0_of : List AV → St → Option (((List UInt8) × Nat × (List UInt8) × (List D)) × ((List D) × Int)) := fun t s => match t, s with
  | .any :: (.ptr (.some (e_0, e_1))) :: (.ptr (.some (e_2, e_3))) :: (.int .i64 i5) :: t_0, [(.cells [(.str c0), (.tsl false e_4 e_5 e_6 n1 .tight), (.str c2), (.fz false e_7 l3)]), (.tbl false e_8 l4), (.cells [(.str e_9), .nilSl, (.str e_10), .nilSl])] => (match dropAny 26 t_0 with
    | some ([]) => (match Nat.beq e_0 (0 : Nat) && (Nat.beq e_1 (0 : Nat) && (Nat.beq e_2 (2 : Nat) && (Nat.beq e_3 (0 : Nat) && (Sh.beq e_4 shCol && (Nat.beq e_5 (1 : Nat) && (Nat.beq e_6 (0 : Nat) && (Sh.beq e_7 shDep && (Sh.beq e_8 shCol && (decide (e_9 = ([])) && (decide (e_10 = ([])) && (true))))))))))) with | true => some ((c0, n1, c2, l3), (l4, i5)) | false => none)
    | _ => none)
  | _, _ => none
noncomputable def formR_t0_L0_ex (i : (List UInt8) × Nat × (List UInt8) × (List D)) (y : (List D)) (k : KS) : Prop := let c0 := i.1; let n1 := i.2.1; let c2 := i.2.2.1; let l3 := i.2.2.2; let ly7 := y; k (Ex.normal) ([.any, AV.ptr (some ((0 : Nat), (0 : Nat))), AV.ptr (some ((2 : Nat), (0 : Nat)))] ++ padAny 27) [Ent.cells [AV.str c0, AV.tsl false shCol (1 : Nat) (0 : Nat) n1 Cap.tight, AV.str c2, AV.fz false shDep l3], Ent.tbl false shCol ly7, Ent.cells [AV.str [], AV.nilSl, AV.str [], AV.nilSl]]
theorem formR_t0_L0_of_ok : ∀ t s (i : (List UInt8) × Nat × (List UInt8) × (List D)) (x : (List D) × Int), formR_t0_L0_of t s = some (i, x) → t = formR_t0_L0_T i.1 i.2.1 i.2.2.1 i.2.2.2 x.1 x.2 ∧ s = formR_t0_L0_S i.1 i.2.1 i.2.2.1 i.2.2.2 x.1 x.2 := by
  intro t s i x h
  unfold formR_t0_L0_of at h
  split at h
  · split at h
    · rename_i ha
      obtain rfl := dropAny_eq ha
      split at h
      · rename_i hg
        cases h
        simp only [Bool.and_eq_true] at hg
        obtain ⟨h_0, h_1, h_2, h_3, h_4, h_5, h_6, h_7, h_8, h_9, h_10, _⟩ := hg
        obtain rfl := Nat.eq_of_beq_eq_true h_0
        obtain rfl := Nat.eq_of_beq_eq_true h_1
        obtain rfl := Nat.eq_of_beq_eq_true h_2
        obtain rfl := Nat.eq_of_beq_eq_true h_3
        obtain rfl := Sh.beq_eq _ _ h_4
        obtain rfl := Nat.eq_of_beq_eq_true h_5
        obtain rfl := Nat.eq_of_beq_eq_true h_6
        obtain rfl := Sh.beq_eq _ _ h_7
        obtain rfl := Sh.beq_eq _ _ h_8
        have h_9 := of_decide_eq_true h_9
        subst h_9
        have h_10 := of_decide_eq_true h_10
        subst h_10
        exact ⟨rfl, rfl⟩
      · cases h
    · cases h
  · cases h
noncomputable def formR_t0_L0_stp (c0 : List UInt8) (n1 : Nat) (c2 : List UInt8) (l3 : List D) (l4 : List D) (i5 : Int) : NT ((List D) × Int) ((List D)) :=
  NT.br (decide (i5 < (↑n1 : Int)))
    (NT.br (decide ((0 : Int) ≤ i5) && decide (i5 < (↑n1 : Int)))
     (NT.br (decide ((0 : Nat) + i5.toNat < l4.length))
      (NT.br (eqBytes ((l4.getD ((0 : Nat) + i5.toNat) D.nul).fld (0 : Nat)).asStr c2)
       (NT.br (decide ((0 : Int) ≤ i5) && decide (i5 < (↑n1 : Int)))
        (NT.br (decide ((0 : Nat) + i5.toNat < l4.length))
         (NT.more (l4.set ((0 : Nat) + i5.toNat) (D.agg [D.str ((l4.getD ((0 : Nat) + i5.toNat) D.nul).fld (0 : Nat)).asStr, D.int ((l4.getD ((0 : Nat) + i5.toNat) D.nul).fld (1 : Nat)).asInt, D.bool true, D.str ((l4.getD ((0 : Nat) + i5.toNat) D.nul).fld (3 : Nat)).asStr]), IntKind.i64.wrap (i5 + (1 : Int))))
         (NT.fail))
        (NT.fail))
       (NT.more (l4, IntKind.i64.wrap (i5 + (1 : Int)))))
      (NT.fail))
     (NT.fail))
    (NT.done (l4))
noncomputable def formR_t0_L0 (i : (List UInt8) × Nat × (List UInt8) × (List D)) (x : (List D) × Int) := formR_t0_L0_stp i.1 i.2.1 i.2.2.1 i.2.2.2 x.1 x.2
theorem formR_t0_L0_rd (c0 : List UInt8) (n1 : Nat) (c2 : List UInt8) (l3 : List D) (l4 : List D) (i5 : Int) (more : List AV → St → Prop) (kk : KS) : roundK Try.prog mayR_pr noL 100 17 0 (formR_t0_L0_T c0 n1 c2 l3 l4 i5) (formR_t0_L0_S c0 n1 c2 l3 l4 i5) (againK 0 0 [.no, .yes, .yes, .yes] [.no, .yes, .yes] more kk) = (formR_t0_L0_stp c0 n1 c2 l3 l4 i5).K (fun x' => more (formR_t0_L0_T c0 n1 c2 l3 x'.1 x'.2) (formR_t0_L0_S c0 n1 c2 l3 x'.1 x'.2)) (fun y => formR_t0_L0_ex (c0, n1, c2, l3) y kk) := by kernel_rfl
noncomputable def formR_t0_L0_LP : Nat → Option LoopS := addL 0 (headG 0 [.no, .yes, .yes, .yes] (outL formR_t0_L0 formR_t0_L0_of formR_t0_L0_ex)) noL
theorem formR_t0_L0_lp (hpr : PrOk Try.prog mayR_pr) : LoopsFor Try.prog 17 0 formR_t0_L0_LP := loops_lp (L := 100) (T := fun i x => formR_t0_L0_T i.1 i.2.1 i.2.2.1 i.2.2.2 x.1 x.2) (S := fun i x => formR_t0_L0_S i.1 i.2.1 i.2.2.1 i.2.2.2 x.1 x.2) ok hpr (by kernel_rfl) loops_none formR_t0_L0_of_ok (fun i x more kk => formR_t0_L0_rd i.1 i.2.1 i.2.2.1 i.2.2.2 x.1 x.2 more kk)
noncomputable def formR_t0r (c0_0 : List UInt8) (l0_1 : List D) (c0_2 : List UInt8) (l0_3 : List D) : RT :=
  RT.br ((((3 : Nat) * l0_1.length + (2000 : Nat)) * (48 : Nat)).ble (281474976710656 : Nat))
    (RT.br (loopOk (formR_t0_L0 (c0_0, l0_1.length, c0_2, l0_3)) (l0_1, (0 : Int)))
     (RT.br (((0 : Nat) + l0_1.length).ble (loopV (formR_t0_L0 (c0_0, l0_1.length, c0_2, l0_3)) (l0_1, (0 : Int))).length && true && true)
      (okL (AV.agg [AV.str c0_0, AV.fz false shCol (List.take l0_1.length (List.drop (0 : Nat) (loopV (formR_t0_L0 (c0_0, l0_1.length, c0_2, l0_3)) (l0_1, (0 : Int))))), AV.str c0_2, AV.fz false shDep l0_3]) ([]))
      (RT.fail))
     (RT.fail))
    (RT.fail)
theorem formR_t0r_b (c0_0 : List UInt8) (l0_1 : List D) (c0_2 : List UInt8) (l0_3 : List D) (K : AV → St → Prop) : bodyK Try.prog mayR_pr formR_t0_L0_LP 100 17 [.data (.struct [.str, (.slice (.struct [.str, (.int .i64), .bool, .str])), .str, (.slice (.struct [(.slice .str), .str]))])] [(.agg [.str c0_0, .fz false (.struct [.str, (.int .i64), .bool, .str]) l0_1, .str c0_2, .fz false (.struct [(.slice .str), .str]) l0_3])] [] K = RT.K (fun v s _ => K v s) (formR_t0r c0_0 l0_1 c0_2 l0_3) := by kernel_rfl
noncomputable def formR_t0_V0 (c0_0 : List UInt8) (l0_1 : List D) (c0_2 : List UInt8) (l0_3 : List D) : Bool :=
  (((3 : Nat) * l0_1.length + (2000 : Nat)) * (48 : Nat)).ble (281474976710656 : Nat) && (loopOk (formR_t0_L0 (c0_0, l0_1.length, c0_2, l0_3)) (l0_1, (0 : Int)) && (((0 : Nat) + l0_1.length).ble (loopV (formR_t0_L0 (c0_0, l0_1.length, c0_2, l0_3)) (l0_1, (0 : Int))).length && true && true && true))
noncomputable def formR_t0_V1 (c0_0 : List UInt8) (l0_1 : List D) (c0_2 : List UInt8) (l0_3 : List D) : List D :=
  List.take l0_1.length (List.drop (0 : Nat) (loopV (formR_t0_L0 (c0_0, l0_1.length, c0_2, l0_3)) (l0_1, (0 : Int))))
noncomputable def formR_t0 (c0_0 : List UInt8) (l0_1 : List D) (c0_2 : List UInt8) (l0_3 : List D) : RT :=
  RT.br (formR_t0_V0 c0_0 l0_1 c0_2 l0_3)
    (okL (Go.Sy.AV.agg [(Go.Sy.AV.str c0_0), (Go.Sy.AV.fz (false) shCol (formR_t0_V1 c0_0 l0_1 c0_2 l0_3)), (Go.Sy.AV.str c0_2), (Go.Sy.AV.fz (false) shDep l0_3)]) [])
    (RT.fail)
theorem formR_t0_m (c0_0 : List UInt8) (l0_1 : List D) (c0_2 : List UInt8) (l0_3 : List D) (K : AV → St → Prop) : RT.K (fun v s _ => K v s) (RT.mergeW ([]) (formR_t0r c0_0 l0_1 c0_2 l0_3)) = RT.K (fun v s _ => K v s) (formR_t0 c0_0 l0_1 c0_2 l0_3) := by kernel_rfl
theorem formR_t0_b (c0_0 : List UInt8) (l0_1 : List D) (c0_2 : List UInt8) (l0_3 : List D) (K : AV → St → Prop) (h : RT.K (fun v s _ => K v s) (formR_t0 c0_0 l0_1 c0_2 l0_3)) : bodyK Try.prog mayR_pr formR_t0_L0_LP 100 17 [.data (.struct [.str, (.slice (.struct [.str, (.int .i64), .bool, .str])), .str, (.slice (.struct [(.slice .str), .str]))])] [(.agg [.str c0_0, .fz false (.struct [.str, (.int .i64), .bool, .str]) l0_1, .str c0_2, .fz false (.struct [(.slice .str), .str]) l0_3])] [] K := Eq.mpr (formR_t0r_b ..) (mergeW_K (S := []) _ ⟨⟨⟨rfl, trivial⟩, trivial⟩, trivial⟩ (Eq.mpr (formR_t0_m ..) h))
theorem formR_t0_lp (hpr : PrOk Try.prog mayR_pr) : LoopsFor Try.prog 17 0 formR_t0_L0_LP := (formR_t0_L0_lp hpr)
noncomputable def formR : Sy.Spec := ⟨[.data (.struct [.str, (.slice (.struct [.str, (.int .i64), .bool, .str])), .str, (.slice (.struct [(.slice .str), .str]))])], fun args s => match args, s with
  | [(.agg [(.str c0_0), (.fz false e_0 l0_1), (.str c0_2), (.fz false e_1 l0_3)])], [] => .br (Sh.beq e_0 shCol && (Sh.beq e_1 shDep && (true))) (formR_t0 c0_0 l0_1 c0_2 l0_3) .fail
  | _, _ => .fail⟩
theorem formR_ok : SpecOk Try.prog 17 formR.f := specOk_comes fun args s v s' tch e => by
  simp only [formR] at e
  split at e
  · obtain ⟨hg, e⟩ := if_run e
    simp only [Bool.and_eq_true] at hg
    obtain ⟨h_0, h_1, _⟩ := hg
    obtain rfl := Sh.beq_eq _ _ h_0
    obtain rfl := Sh.beq_eq _ _ h_1
    refine comes_of ok mayR_pr_k (L := 100) (ms := [.data (.struct [.str, (.slice (.struct [.str, (.int .i64), .bool, .str])), .str, (.slice (.struct [(.slice .str), .str]))])]) (by kernel_rfl) (formR_t0_lp mayR_pr_k) ?_
    exact formR_t0_b (h := K_run e) ..
  · cases e
noncomputable def formR_pr : FuncId → Option Sy.Spec := addP 17 formR mayR_pr
theorem formR_pr_k : PrOk Try.prog formR_pr := prOk_add formR_ok mayR_pr_k
noncomputable def cmpR_t0_L0_T (l0 : List D) (l1 : List D) (i2 : Int) : List AV := ([AV.fz false Sh.str l0, AV.fz false Sh.str l1, .any, .any, .any, AV.int IntKind.i64 i2] ++ padAny 40)
noncomputable def cmpR_t0_L0_S (l0 : List D) (l1 : List D) (i2 : Int) : St := []
noncomputable def cmpR_t0_L0_of : List AV → St → Option (((List D) × (List D)) × (Int)) := fun t s => match t, s with
  | (.fz false e_0 l0) :: (.fz false e_1 l1) :: .any :: .any :: .any :: (.int .i64 i2) :: t_0, [] => (match dropAny 40 t_0 with
    | some ([]) => (match Sh.beq e_0 (Sh.str) && (Sh.beq e_1 (Sh.str) && (true)) with | true => some ((l0, l1), (i2)) | false => none)
    | _ => none)
  | _, _ => none
noncomputable def cmpR_t0_L0_ex (i : (List D) × (List D)) (y : Nat × Int) (k : KS) : Prop := let l0 := i.1; let l1 := i.2; let tag := y.1; let iy4 := y.2; br (Nat.beq tag 0) (k (Ex.ret) ([AV.fz false Sh.str l0, AV.fz false Sh.str l1, .any, .any, AV.int IntKind.i64 iy4] ++ padAny 41) []) (br (Nat.beq tag 1) (k (Ex.normal) ([AV.fz false Sh.str l0, AV.fz false Sh.str l1] ++ padAny 44) []) (False))
theorem cmpR_t0_L0_of_ok : ∀ t s (i : (List D) × (List D)) (x : Int), cmpR_t0_L0_of t s = some (i, x) → t = cmpR_t0_L0_T i.1 i.2 x ∧ s = cmpR_t0_L0_S i.1 i.2 x := by
  intro t s i x h
  unfold cmpR_t0_L0_of at h
  split at h
  · split at h
    · rename_i ha
      obtain rfl := dropAny_eq ha
      split at h
      · rename_i hg
        cases h
        simp only [Bool.and_eq_true] at hg
        obtain ⟨h_0, h_1, _⟩ := hg
        obtain rfl := Sh.beq_eq _ _ h_0
        obtain rfl := Sh.beq_eq _ _ h_1
        exact ⟨rfl, rfl⟩
      · cases h
    · cases h
  · cases h
noncomputable def cmpR_t0_L0_stp (l0 : List D) (l1 : List D) (i2 : Int) : NT (Int) (Nat × Int) :=
  NT.br (decide (i2 < (↑l0.length : Int)))
    (NT.br (decide (i2 < (↑l1.length : Int)))
     (NT.br (decide ((0 : Int) ≤ i2) && decide (i2 < (↑l0.length : Int)))
      (NT.br (decide ((0 : Int) ≤ i2) && decide (i2 < (↑l1.length : Int)))
       (NT.br (ltBytes (l0.getD i2.toNat D.nul).asStr (l1.getD i2.toNat D.nul).asStr)
        (NT.done (0, (-1 : Int)))
        (NT.br (decide ((0 : Int) ≤ i2) && decide (i2 < (↑l0.length : Int)))
         (NT.br (decide ((0 : Int) ≤ i2) && decide (i2 < (↑l1.length : Int)))
          (NT.br (!(ltBytes (l0.getD i2.toNat D.nul).asStr (l1.getD i2.toNat D.nul).asStr || eqBytes (l0.getD i2.toNat D.nul).asStr (l1.getD i2.toNat D.nul).asStr))
           (NT.done (0, (1 : Int)))
           (NT.more (IntKind.i64.wrap (i2 + (1 : Int)))))
          (NT.fail))
         (NT.fail)))
       (NT.fail))
      (NT.fail))
     (NT.done (1, 0)))
    (NT.done (1, 0))
noncomputable def cmpR_t0_L0 (i : (List D) × (List D)) (x : Int) := cmpR_t0_L0_stp i.1 i.2 x
theorem cmpR_t0_L0_rd (l0 : List D) (l1 : List D) (i2 : Int) (more : List AV → St → Prop) (kk : KS) : roundK Try.prog formR_pr noL 100 32 0 (cmpR_t0_L0_T l0 l1 i2) (cmpR_t0_L0_S l0 l1 i2) (againK 0 0 [.yes, .yes, .no, .no, .no, .yes] [.yes, .yes, .no, .no, .yes] more kk) = (cmpR_t0_L0_stp l0 l1 i2).K (fun x' => more (cmpR_t0_L0_T l0 l1 x') (cmpR_t0_L0_S l0 l1 x')) (fun y => cmpR_t0_L0_ex (l0, l1) y kk) := by kernel_rfl
noncomputable def cmpR_t0_L0_LP : Nat → Option LoopS := addL 0 (headG 0 [.yes, .yes, .no, .no, .no, .yes] (outL cmpR_t0_L0 cmpR_t0_L0_of cmpR_t0_L0_ex)) noL
theorem cmpR_t0_L0_lp (hpr : PrOk Try.prog formR_pr) : LoopsFor Try.prog 32 0 cmpR_t0_L0_LP := loops_lp (L := 100) (T := fun i x => cmpR_t0_L0_T i.1 i.2 x) (S := fun i x => cmpR_t0_L0_S i.1 i.2 x) ok hpr (by kernel_rfl) loops_none cmpR_t0_L0_of_ok (fun i x more kk => cmpR_t0_L0_rd i.1 i.2 x more kk)
noncomputable def cmpR_t0r (l0 : List D) (l1 : List D) : RT :=
  RT.br (loopOk (cmpR_t0_L0 (l0, l1)) (0 : Int))
    (RT.br ((loopV (cmpR_t0_L0 (l0, l1)) (0 : Int)).fst.beq (0 : Nat))
     (okL (AV.int IntKind.i64 (loopV (cmpR_t0_L0 (l0, l1)) (0 : Int)).snd) ([]))
     (RT.br ((loopV (cmpR_t0_L0 (l0, l1)) (0 : Int)).fst.beq (1 : Nat))
      (RT.br (decide ((↑l0.length : Int) < (↑l1.length : Int)))
       (okL (AV.int IntKind.i64 (-1 : Int)) ([]))
       (RT.br (decide ((↑l0.length : Int) > (↑l1.length : Int)))
        (okL (AV.int IntKind.i64 (1 : Int)) ([]))
        (okL (AV.int IntKind.i64 (0 : Int)) ([]))))
      (RT.fail)))
    (RT.fail)
theorem cmpR_t0r_b (l0 : List D) (l1 : List D) (K : AV → St → Prop) : bodyK Try.prog formR_pr cmpR_t0_L0_LP 100 32 [] [.fz false .str l0, .fz false .str l1] [] K = RT.K (fun v s _ => K v s) (cmpR_t0r l0 l1) := by kernel_rfl
noncomputable def cmpR_t0_V0 (l0 : List D) (l1 : List D) : Bool :=
  loopOk (cmpR_t0_L0 (l0, l1)) (0 : Int) && bif (loopV (cmpR_t0_L0 (l0, l1)) (0 : Int)).fst.beq (0 : Nat) then true else (loopV (cmpR_t0_L0 (l0, l1)) (0 : Int)).fst.beq (1 : Nat) && bif decide ((↑l0.length : Int) < (↑l1.length : Int)) then true else bif decide ((↑l0.length : Int) > (↑l1.length : Int)) then true else true
noncomputable def cmpR_t0_V1 (l0 : List D) (l1 : List D) : Int :=
  bif (loopV (cmpR_t0_L0 (l0, l1)) (0 : Int)).fst.beq (0 : Nat) then (loopV (cmpR_t0_L0 (l0, l1)) (0 : Int)).snd else bif decide ((↑l0.length : Int) < (↑l1.length : Int)) then (-1 : Int) else bif decide ((↑l0.length : Int) > (↑l1.length : Int)) then (1 : Int) else (0 : Int)
noncomputable def cmpR_t0 (l0 : List D) (l1 : List D) : RT :=
  RT.br (cmpR_t0_V0 l0 l1)
    (okL (Go.Sy.AV.int (IntKind.i64) (cmpR_t0_V1 l0 l1)) [])
    (RT.fail)
theorem cmpR_t0_m (l0 : List D) (l1 : List D) (K : AV → St → Prop) : RT.K (fun v s _ => K v s) (RT.mergeW ([]) (cmpR_t0r l0 l1)) = RT.K (fun v s _ => K v s) (cmpR_t0 l0 l1) := by kernel_rfl
theorem cmpR_t0_b (l0 : List D) (l1 : List D) (K : AV → St → Prop) (h : RT.K (fun v s _ => K v s) (cmpR_t0 l0 l1)) : bodyK Try.prog formR_pr cmpR_t0_L0_LP 100 32 [] [.fz false .str l0, .fz false .str l1] [] K := Eq.mpr (cmpR_t0r_b ..) (mergeW_K (S := []) _ ⟨⟨rfl, ⟨⟨rfl, ⟨rfl, rfl⟩⟩, trivial⟩⟩, trivial⟩ (Eq.mpr (cmpR_t0_m ..) h))
theorem cmpR_t0_lp (hpr : PrOk Try.prog formR_pr) : LoopsFor Try.prog 32 0 cmpR_t0_L0_LP := (cmpR_t0_L0_lp hpr)
noncomputable def cmpR : Sy.Spec := ⟨[.data (.slice .str), .data (.slice .str)], fun args s => match args, s with
  | [(.fz false e_0 l0), (.fz false e_1 l1)], [] => .br (Sh.beq e_0 (Sh.str) && (Sh.beq e_1 (Sh.str) && (true))) (cmpR_t0 l0 l1) .fail
  | _, _ => .fail⟩
theorem cmpR_ok : SpecOk Try.prog 32 cmpR.f := specOk_comes fun args s v s' tch e => by
  simp only [cmpR] at e
  split at e
  · obtain ⟨hg, e⟩ := if_run e
    simp only [Bool.and_eq_true] at hg
    obtain ⟨h_0, h_1, _⟩ := hg
    obtain rfl := Sh.beq_eq _ _ h_0
    obtain rfl := Sh.beq_eq _ _ h_1
    refine comes_of ok formR_pr_k (L := 100) (ms := []) (by kernel_rfl) (cmpR_t0_lp formR_pr_k) ?_
    exact cmpR_t0_b (h := K_run e) ..
  · cases e
noncomputable def cmpR_pr : FuncId → Option Sy.Spec := addP 32 cmpR formR_pr
theorem cmpR_pr_k : PrOk Try.prog cmpR_pr := prOk_add cmpR_ok formR_pr_k
noncomputable def eqpR_t0r (l0 : List D) (l1 : List D) : RT :=
  RT.br (cmpR_t0_V0 l0 l1)
    (okL (AV.bool (decide (cmpR_t0_V1 l0 l1 = (0 : Int)))) ([]))
    (RT.fail)
theorem eqpR_t0r_b (l0 : List D) (l1 : List D) (K : AV → St → Prop) : bodyK Try.prog cmpR_pr noL 100 51 [] [.fz false .str l0, .fz false .str l1] [] K = RT.K (fun v s _ => K v s) (eqpR_t0r l0 l1) := by kernel_rfl
noncomputable def eqpR_t0_V0 (l0 : List D) (l1 : List D) : Bool :=
  decide (cmpR_t0_V1 l0 l1 = (0 : Int))
noncomputable def eqpR_t0 (l0 : List D) (l1 : List D) : RT :=
  RT.br (cmpR_t0_V0 l0 l1 && true)
    (okL (Go.Sy.AV.bool (eqpR_t0_V0 l0 l1)) [])
    (RT.fail)
theorem eqpR_t0_m (l0 : List D) (l1 : List D) (K : AV → St → Prop) : RT.K (fun v s _ => K v s) (RT.mergeW ([]) (eqpR_t0r l0 l1)) = RT.K (fun v s _ => K v s) (eqpR_t0 l0 l1) := by kernel_rfl
theorem eqpR_t0_b (l0 : List D) (l1 : List D) (K : AV → St → Prop) (h : RT.K (fun v s _ => K v s) (eqpR_t0 l0 l1)) : bodyK Try.prog cmpR_pr noL 100 51 [] [.fz false .str l0, .fz false .str l1] [] K := Eq.mpr (eqpR_t0r_b ..) (mergeW_K (S := []) _ ⟨rfl, trivial⟩ (Eq.mpr (eqpR_t0_m ..) h))
theorem eqpR_t0_lp (hpr : PrOk Try.prog cmpR_pr) : LoopsFor Try.prog 51 0 noL := loops_none
noncomputable def eqpR : Sy.Spec := ⟨[.data (.slice .str), .data (.slice .str)], fun args s => match args, s with
  | [(.fz false e_0 l0), (.fz false e_1 l1)], [] => .br (Sh.beq e_0 (Sh.str) && (Sh.beq e_1 (Sh.str) && (true))) (eqpR_t0 l0 l1) .fail
  | _, _ => .fail⟩
theorem eqpR_ok : SpecOk Try.prog 51 eqpR.f := specOk_comes fun args s v s' tch e => by
  simp only [eqpR] at e
  split at e
  · obtain ⟨hg, e⟩ := if_run e
    simp only [Bool.and_eq_true] at hg
    obtain ⟨h_0, h_1, _⟩ := hg
    obtain rfl := Sh.beq_eq _ _ h_0
    obtain rfl := Sh.beq_eq _ _ h_1
    refine comes_of ok cmpR_pr_k (L := 100) (ms := []) (by kernel_rfl) (eqpR_t0_lp cmpR_pr_k) ?_
    exact eqpR_t0_b (h := K_run e) ..
  · cases e
noncomputable def eqpR_pr : FuncId → Option Sy.Spec := addP 51 eqpR cmpR_pr
theorem eqpR_pr_k : PrOk Try.prog eqpR_pr := prOk_add eqpR_ok cmpR_pr_k
noncomputable def eqtR_t0_L0_T (c0 : List UInt8) (l1 : List D) (c2 : List UInt8) (l3 : List D) (c4 : List UInt8) (l5 : List D) (c6 : List UInt8) (l7 : List D) (i8 : Int) : List AV := ([.any, .any, AV.ptr (some ((0 : Nat), (0 : Nat))), AV.ptr (some ((1 : Nat), (0 : Nat))), .any, AV.int IntKind.i64 i8] ++ padAny 112)
noncomputable def eqtR_t0_L0_S (c0 : List UInt8) (l1 : List D) (c2 : List UInt8) (l3 : List D) (c4 : List UInt8) (l5 : List D) (c6 : List UInt8) (l7 : List D) (i8 : Int) : St := [Ent.cells [AV.str c0, AV.fz false shCol l1, AV.str c2, AV.fz false shDep l3], Ent.cells [AV.str c4, AV.fz false shCol l5, AV.str c6, AV.fz false shDep l7]]
noncomputable def eqtR_t0_L0_of : List AV → St → Option (((List UInt8) × (List D) × (List UInt8) × (List D) × (List UInt8) × (List D) × (List UInt8) × (List D)) × (Int)) := fun t s => match t, s with
  | .any :: .any :: (.ptr (.some (e_0, e_1))) :: (.ptr (.some (e_2, e_3))) :: .any :: (.int .i64 i8) :: t_0, [(.cells [(.str c0), (.fz false e_4 l1), (.str c2), (.fz false e_5 l3)]), (.cells [(.str c4), (.fz false e_6 l5), (.str c6), (.fz false e_7 l7)])] => (match dropAny 112 t_0 with
    | some ([]) => (match Nat.beq e_0 (0 : Nat) && (Nat.beq e_1 (0 : Nat) && (Nat.beq e_2 (1 : Nat) && (Nat.beq e_3 (0 : Nat) && (Sh.beq e_4 shCol && (Sh.beq e_5 shDep && (Sh.beq e_6 shCol && (Sh.beq e_7 shDep && (true)))))))) with | true => some ((c0, l1, c2, l3, c4, l5, c6, l7), (i8)) | false => none)
    | _ => none)
  | _, _ => none
noncomputable def eqtR_t0_L0_ex (i : (List UInt8) × (List D) × (List UInt8) × (List D) × (List UInt8) × (List D) × (List UInt8) × (List D)) (y : Nat) (k : KS) : Prop := let c0 := i.1; let l1 := i.2.1; let c2 := i.2.2.1; let l3 := i.2.2.2.1; let c4 := i.2.2.2.2.1; let l5 := i.2.2.2.2.2.1; let c6 := i.2.2.2.2.2.2.1; let l7 := i.2.2.2.2.2.2.2; let tag := y; br (Nat.beq tag 0) (k (Ex.ret) ([.any, .any, AV.ptr (some ((0 : Nat), (0 : Nat))), AV.ptr (some ((1 : Nat), (0 : Nat))), AV.bool false] ++ padAny 113) [Ent.cells [AV.str c0, AV.fz false shCol l1, AV.str c2, AV.fz false shDep l3], Ent.cells [AV.str c4, AV.fz false shCol l5, AV.str c6, AV.fz false shDep l7]]) (br (Nat.beq tag 1) (k (Ex.normal) ([.any, .any, AV.ptr (some ((0 : Nat), (0 : Nat))), AV.ptr (some ((1 : Nat), (0 : Nat)))] ++ padAny 114) [Ent.cells [AV.str c0, AV.fz false shCol l1, AV.str c2, AV.fz false shDep l3], Ent.cells [AV.str c4, AV.fz false shCol l5, AV.str c6, AV.fz false shDep l7]]) (False))
theorem eqtR_t0_L0_of_ok : ∀ t s (i : (List UInt8) × (List D) × (List UInt8) × (List D) × (List UInt8) × (List D) × (List UInt8) × (List D)) (x : Int), eqtR_t0_L0_of t s = some (i, x) → t = eqtR_t0_L0_T i.1 i.2.1 i.2.2.1 i.2.2.2.1 i.2.2.2.2.1 i.2.2.2.2.2.1 i.2.2.2.2.2.2.1 i.2.2.2.2.2.2.2 x ∧ s = eqtR_t0_L0_S i.1 i.2.1 i.2.2.1 i.2.2.2.1 i.2.2.2.2.1 i.2.2.2.2.2.1 i.2.2.2.2.2.2.1 i.2.2.2.2.2.2.2 x := by
  intro t s i x h
  unfold eqtR_t0_L0_of at h
  split at h
  · split at h
    · rename_i ha
      obtain rfl := dropAny_eq ha
      split at h
      · rename_i hg
        cases h
        simp only [Bool.and_eq_true] at hg
        obtain ⟨h_0, h_1, h_2, h_3, h_4, h_5, h_6, h_7, _⟩ := hg
        obtain rfl := Nat.eq_of_beq_eq_true h_0
        obtain rfl := Nat.eq_of_beq_eq_true h_1
        obtain rfl := Nat.eq_of_beq_eq_true h_2
        obtain rfl := Nat.eq_of_beq_eq_true h_3
        obtain rfl := Sh.beq_eq _ _ h_4
        obtain rfl := Sh.beq_eq _ _ h_5
        obtain rfl := Sh.beq_eq _ _ h_6
        obtain rfl := Sh.beq_eq _ _ h_7
        exact ⟨rfl, rfl⟩
      · cases h
    · cases h
  · cases h
noncomputable def eqtR_t0_L0_stp (c0 : List UInt8) (l1 : List D) (c2 : List UInt8) (l3 : List D) (c4 : List UInt8) (l5 : List D) (c6 : List UInt8) (l7 : List D) (i8 : Int) : NT (Int) (Nat) :=
  NT.br (decide (i8 < (↑l1.length : Int)))
    (NT.br (decide ((0 : Int) ≤ i8) && decide (i8 < (↑l1.length : Int)))
     (NT.br (decide ((0 : Int) ≤ i8) && decide (i8 < (↑l5.length : Int)))
      (NT.br (!eqBytes ((l1.getD i8.toNat D.nul).fld (0 : Nat)).asStr ((l5.getD i8.toNat D.nul).fld (0 : Nat)).asStr)
       (NT.done (0))
       (NT.br (!decide (((l1.getD i8.toNat D.nul).fld (1 : Nat)).asInt = ((l5.getD i8.toNat D.nul).fld (1 : Nat)).asInt))
        (NT.done (0))
        (NT.br (!((l1.getD i8.toNat D.nul).fld (2 : Nat)).asBool == ((l5.getD i8.toNat D.nul).fld (2 : Nat)).asBool)
         (NT.done (0))
         (NT.br (!eqBytes ((l1.getD i8.toNat D.nul).fld (3 : Nat)).asStr ((l5.getD i8.toNat D.nul).fld (3 : Nat)).asStr)
          (NT.done (0))
          (NT.more (IntKind.i64.wrap (i8 + (1 : Int))))))))
      (NT.fail))
     (NT.fail))
    (NT.done (1))
noncomputable def eqtR_t0_L0 (i : (List UInt8) × (List D) × (List UInt8) × (List D) × (List UInt8) × (List D) × (List UInt8) × (List D)) (x : Int) := eqtR_t0_L0_stp i.1 i.2.1 i.2.2.1 i.2.2.2.1 i.2.2.2.2.1 i.2.2.2.2.2.1 i.2.2.2.2.2.2.1 i.2.2.2.2.2.2.2 x
theorem eqtR_t0_L0_rd (c0 : List UInt8) (l1 : List D) (c2 : List UInt8) (l3 : List D) (c4 : List UInt8) (l5 : List D) (c6 : List UInt8) (l7 : List D) (i8 : Int) (more : List AV → St → Prop) (kk : KS) : roundK Try.prog eqpR_pr noL 100 20 0 (eqtR_t0_L0_T c0 l1 c2 l3 c4 l5 c6 l7 i8) (eqtR_t0_L0_S c0 l1 c2 l3 c4 l5 c6 l7 i8) (againK 0 0 [.no, .no, .yes, .yes, .no, .yes] [.no, .no, .yes, .yes, .yes] more kk) = (eqtR_t0_L0_stp c0 l1 c2 l3 c4 l5 c6 l7 i8).K (fun x' => more (eqtR_t0_L0_T c0 l1 c2 l3 c4 l5 c6 l7 x') (eqtR_t0_L0_S c0 l1 c2 l3 c4 l5 c6 l7 x')) (fun y => eqtR_t0_L0_ex (c0, l1, c2, l3, c4, l5, c6, l7) y kk) := by kernel_rfl
noncomputable def eqtR_t0_L0_LP : Nat → Option LoopS := addL 0 (headG 0 [.no, .no, .yes, .yes, .no, .yes] (outL eqtR_t0_L0 eqtR_t0_L0_of eqtR_t0_L0_ex)) noL
theorem eqtR_t0_L0_lp (hpr : PrOk Try.prog eqpR_pr) : LoopsFor Try.prog 20 0 eqtR_t0_L0_LP := loops_lp (L := 100) (T := fun i x => eqtR_t0_L0_T i.1 i.2.1 i.2.2.1 i.2.2.2.1 i.2.2.2.2.1 i.2.2.2.2.2.1 i.2.2.2.2.2.2.1 i.2.2.2.2.2.2.2 x) (S := fun i x => eqtR_t0_L0_S i.1 i.2.1 i.2.2.1 i.2.2.2.1 i.2.2.2.2.1 i.2.2.2.2.2.1 i.2.2.2.2.2.2.1 i.2.2.2.2.2.2.2 x) ok hpr (by kernel_rfl) loops_none eqtR_t0_L0_of_ok (fun i x more kk => eqtR_t0_L0_rd i.1 i.2.1 i.2.2.1 i.2.2.2.1 i.2.2.2.2.1 i.2.2.2.2.2.1 i.2.2.2.2.2.2.1 i.2.2.2.2.2.2.2 x more kk)
noncomputable def eqtR_t0_L2_T (c9 : List UInt8) (l10 : List D) (c11 : List UInt8) (l12 : List D) (c13 : List UInt8) (l14 : List D) (c15 : List UInt8) (l16 : List D) (i17 : Int) : List AV := ([.any, .any, AV.ptr (some ((0 : Nat), (0 : Nat))), AV.ptr (some ((1 : Nat), (0 : Nat))), .any, .any, .any, .any, AV.int IntKind.i64 i17] ++ padAny 109)
noncomputable def eqtR_t0_L2_S (c9 : List UInt8) (l10 : List D) (c11 : List UInt8) (l12 : List D) (c13 : List UInt8) (l14 : List D) (c15 : List UInt8) (l16 : List D) (i17 : Int) : St := [Ent.cells [AV.str c9, AV.fz false shCol l10, AV.str c11, AV.fz false shDep l12], Ent.cells [AV.str c13, AV.fz false shCol l14, AV.str c15, AV.fz false shDep l16]]
noncomputable def eqtR_t0_L2_of : List AV → St → Option (((List UInt8) × (List D) × (List UInt8) × (List D) × (List UInt8) × (List D) × (List UInt8) × (List D)) × (Int)) := fun t s => match t, s with
  | .any :: .any :: (.ptr (.some (e_0, e_1))) :: (.ptr (.some (e_2, e_3))) :: t_0, [(.cells [(.str c9), (.fz false e_4 l10), (.str c11), (.fz false e_5 l12)]), (.cells [(.str c13), (.fz false e_6 l14), (.str c15), (.fz false e_7 l16)])] => (match dropAny 4 t_0 with
    | some ((.int .i64 i17) :: t_1) => (match dropAny 109 t_1 with
    | some ([]) => (match Nat.beq e_0 (0 : Nat) && (Nat.beq e_1 (0 : Nat) && (Nat.beq e_2 (1 : Nat) && (Nat.beq e_3 (0 : Nat) && (Sh.beq e_4 shCol && (Sh.beq e_5 shDep && (Sh.beq e_6 shCol && (Sh.beq e_7 shDep && (true)))))))) with | true => some ((c9, l10, c11, l12, c13, l14, c15, l16), (i17)) | false => none)
    | _ => none)
    | _ => none)
  | _, _ => none
noncomputable def eqtR_t0_L2_ex (i : (List UInt8) × (List D) × (List UInt8) × (List D) × (List UInt8) × (List D) × (List UInt8) × (List D)) (y : Nat) (k : KS) : Prop := let c9 := i.1; let l10 := i.2.1; let c11 := i.2.2.1; let l12 := i.2.2.2.1; let c13 := i.2.2.2.2.1; let l14 := i.2.2.2.2.2.1; let c15 := i.2.2.2.2.2.2.1; let l16 := i.2.2.2.2.2.2.2; let tag := y; br (Nat.beq tag 0) (k (Ex.ret) ([.any, .any, .any, .any, AV.bool false] ++ padAny 113) []) (br (Nat.beq tag 1) (k (Ex.normal) ([.any] ++ padAny 117) []) (False))
theorem eqtR_t0_L2_of_ok : ∀ t s (i : (List UInt8) × (List D) × (List UInt8) × (List D) × (List UInt8) × (List D) × (List UInt8) × (List D)) (x : Int), eqtR_t0_L2_of t s = some (i, x) → t = eqtR_t0_L2_T i.1 i.2.1 i.2.2.1 i.2.2.2.1 i.2.2.2.2.1 i.2.2.2.2.2.1 i.2.2.2.2.2.2.1 i.2.2.2.2.2.2.2 x ∧ s = eqtR_t0_L2_S i.1 i.2.1 i.2.2.1 i.2.2.2.1 i.2.2.2.2.1 i.2.2.2.2.2.1 i.2.2.2.2.2.2.1 i.2.2.2.2.2.2.2 x := by
  intro t s i x h
  unfold eqtR_t0_L2_of at h
  split at h
  · split at h
    · rename_i ha
      obtain rfl := dropAny_eq ha
      split at h
      · rename_i ha
        obtain rfl := dropAny_eq ha
        split at h
        · rename_i hg
          cases h
          simp only [Bool.and_eq_true] at hg
          obtain ⟨h_0, h_1, h_2, h_3, h_4, h_5, h_6, h_7, _⟩ := hg
          obtain rfl := Nat.eq_of_beq_eq_true h_0
          obtain rfl := Nat.eq_of_beq_eq_true h_1
          obtain rfl := Nat.eq_of_beq_eq_true h_2
          obtain rfl := Nat.eq_of_beq_eq_true h_3
          obtain rfl := Sh.beq_eq _ _ h_4
          obtain rfl := Sh.beq_eq _ _ h_5
          obtain rfl := Sh.beq_eq _ _ h_6
          obtain rfl := Sh.beq_eq _ _ h_7
          exact ⟨rfl, rfl⟩
        · cases h
      · cases h
    · cases h
  · cases h
noncomputable def eqtR_t0_L2_stp (c9 : List UInt8) (l10 : List D) (c11 : List UInt8) (l12 : List D) (c13 : List UInt8) (l14 : List D) (c15 : List UInt8) (l16 : List D) (i17 : Int) : NT (Int) (Nat) :=
  NT.br (decide (i17 < (↑l12.length : Int)))
    (NT.br (decide ((0 : Int) ≤ i17) && decide (i17 < (↑l12.length : Int)))
     (NT.br (decide ((0 : Int) ≤ i17) && decide (i17 < (↑l16.length : Int)))
      (NT.br (!eqBytes ((l12.getD i17.toNat D.nul).fld (1 : Nat)).asStr ((l16.getD i17.toNat D.nul).fld (1 : Nat)).asStr)
       (NT.done (0))
       (NT.br (decide ((0 : Int) ≤ i17) && decide (i17 < (↑l12.length : Int)))
        (NT.br (decide ((0 : Int) ≤ i17) && decide (i17 < (↑l16.length : Int)))
         (NT.br (cmpR_t0_V0 ((l12.getD i17.toNat D.nul).fld (0 : Nat)).els ((l16.getD i17.toNat D.nul).fld (0 : Nat)).els && true)
          (NT.br (!eqpR_t0_V0 ((l12.getD i17.toNat D.nul).fld (0 : Nat)).els ((l16.getD i17.toNat D.nul).fld (0 : Nat)).els)
           (NT.done (0))
           (NT.more (IntKind.i64.wrap (i17 + (1 : Int)))))
          (NT.fail))
         (NT.fail))
        (NT.fail)))
      (NT.fail))
     (NT.fail))
    (NT.done (1))
noncomputable def eqtR_t0_L2 (i : (List UInt8) × (List D) × (List UInt8) × (List D) × (List UInt8) × (List D) × (List UInt8) × (List D)) (x : Int) := eqtR_t0_L2_stp i.1 i.2.1 i.2.2.1 i.2.2.2.1 i.2.2.2.2.1 i.2.2.2.2.2.1 i.2.2.2.2.2.2.1 i.2.2.2.2.2.2.2 x
theorem eqtR_t0_L2_rd (c9 : List UInt8) (l10 : List D) (c11 : List UInt8) (l12 : List D) (c13 : List UInt8) (l14 : List D) (c15 : List UInt8) (l16 : List D) (i17 : Int) (more : List AV → St → Prop) (kk : KS) : roundK Try.prog eqpR_pr eqtR_t0_L0_LP 100 20 2 (eqtR_t0_L2_T c9 l10 c11 l12 c13 l14 c15 l16 i17) (eqtR_t0_L2_S c9 l10 c11 l12 c13 l14 c15 l16 i17) (againK 0 2 [.no, .no, .yes, .yes, .no, .no, .no, .no, .yes] [.no, .no, .no, .no, .yes] more kk) = (eqtR_t0_L2_stp c9 l10 c11 l12 c13 l14 c15 l16 i17).K (fun x' => more (eqtR_t0_L2_T c9 l10 c11 l12 c13 l14 c15 l16 x') (eqtR_t0_L2_S c9 l10 c11 l12 c13 l14 c15 l16 x')) (fun y => eqtR_t0_L2_ex (c9, l10, c11, l12, c13, l14, c15, l16) y kk) := by kernel_rfl
noncomputable def eqtR_t0_L2_LP : Nat → Option LoopS := addL 2 (headG 0 [.no, .no, .yes, .yes, .no, .no, .no, .no, .yes] (outL eqtR_t0_L2 eqtR_t0_L2_of eqtR_t0_L2_ex)) eqtR_t0_L0_LP
theorem eqtR_t0_L2_lp (hpr : PrOk Try.prog eqpR_pr) : LoopsFor Try.prog 20 0 eqtR_t0_L2_LP := loops_lp (L := 100) (T := fun i x => eqtR_t0_L2_T i.1 i.2.1 i.2.2.1 i.2.2.2.1 i.2.2.2.2.1 i.2.2.2.2.2.1 i.2.2.2.2.2.2.1 i.2.2.2.2.2.2.2 x) (S := fun i x => eqtR_t0_L2_S i.1 i.2.1 i.2.2.1 i.2.2.2.1 i.2.2.2.2.1 i.2.2.2.2.2.1 i.2.2.2.2.2.2.1 i.2.2.2.2.2.2.2 x) ok hpr (by kernel_rfl) (eqtR_t0_L0_lp hpr) eqtR_t0_L2_of_ok (fun i x more kk => eqtR_t0_L2_rd i.1 i.2.1 i.2.2.1 i.2.2.2.1 i.2.2.2.2.1 i.2.2.2.2.2.1 i.2.2.2.2.2.2.1 i.2.2.2.2.2.2.2 x more kk)
noncomputable def eqtR_t0r (c0_0 : List UInt8) (l0_1 : List D) (c0_2 : List UInt8) (l0_3 : List D) (c1_0 : List UInt8) (l1_1 : List D) (c1_2 : List UInt8) (l1_3 : List D) : RT :=
  RT.br (!eqBytes c0_0 c1_0)
    (okL (AV.bool false) ([]))
    (RT.br (!eqBytes c0_2 c1_2)
     (okL (AV.bool false) ([]))
     (RT.br (!decide ((↑l0_1.length : Int) = (↑l1_1.length : Int)))
      (okL (AV.bool false) ([]))
      (RT.br (!decide ((↑l0_3.length : Int) = (↑l1_3.length : Int)))
       (okL (AV.bool false) ([]))
       (RT.br (loopOk (eqtR_t0_L0 (c0_0, l0_1, c0_2, l0_3, c1_0, l1_1, c1_2, l1_3)) (0 : Int))
        (RT.br ((loopV (eqtR_t0_L0 (c0_0, l0_1, c0_2, l0_3, c1_0, l1_1, c1_2, l1_3)) (0 : Int)).beq (0 : Nat))
         (okL (AV.bool false) ([]))
         (RT.br ((loopV (eqtR_t0_L0 (c0_0, l0_1, c0_2, l0_3, c1_0, l1_1, c1_2, l1_3)) (0 : Int)).beq (1 : Nat))
          (RT.br (loopOk (eqtR_t0_L2 (c0_0, l0_1, c0_2, l0_3, c1_0, l1_1, c1_2, l1_3)) (0 : Int))
           (RT.br ((loopV (eqtR_t0_L2 (c0_0, l0_1, c0_2, l0_3, c1_0, l1_1, c1_2, l1_3)) (0 : Int)).beq (0 : Nat))
            (okL (AV.bool false) ([]))
            (RT.br ((loopV (eqtR_t0_L2 (c0_0, l0_1, c0_2, l0_3, c1_0, l1_1, c1_2, l1_3)) (0 : Int)).beq (1 : Nat))
             (okL (AV.bool true) ([]))
             (RT.fail)))
           (RT.fail))
          (RT.fail)))
        (RT.fail)))))
theorem eqtR_t0r_b (c0_0 : List UInt8) (l0_1 : List D) (c0_2 : List UInt8) (l0_3 : List D) (c1_0 : List UInt8) (l1_1 : List D) (c1_2 : List UInt8) (l1_3 : List D) (K : AV → St → Prop) : bodyK Try.prog eqpR_pr eqtR_t0_L2_LP 100 20 [] [(.agg [.str c0_0, .fz false (.struct [.str, (.int .i64), .bool, .str]) l0_1, .str c0_2, .fz false (.struct [(.slice .str), .str]) l0_3]), (.agg [.str c1_0, .fz false (.struct [.str, (.int .i64), .bool, .str]) l1_1, .str c1_2, .fz false (.struct [(.slice .str), .str]) l1_3])] [] K = RT.K (fun v s _ => K v s) (eqtR_t0r c0_0 l0_1 c0_2 l0_3 c1_0 l1_1 c1_2 l1_3) := by kernel_rfl
noncomputable def eqtR_t0_V0 (c0_0 : List UInt8) (l0_1 : List D) (c0_2 : List UInt8) (l0_3 : List D) (c1_0 : List UInt8) (l1_1 : List D) (c1_2 : List UInt8) (l1_3 : List D) : Bool :=
  bif !eqBytes c0_0 c1_0 then true else bif !eqBytes c0_2 c1_2 then true else bif !decide ((↑l0_1.length : Int) = (↑l1_1.length : Int)) then true else bif !decide ((↑l0_3.length : Int) = (↑l1_3.length : Int)) then true else loopOk (eqtR_t0_L0 (c0_0, l0_1, c0_2, l0_3, c1_0, l1_1, c1_2, l1_3)) (0 : Int) && bif (loopV (eqtR_t0_L0 (c0_0, l0_1, c0_2, l0_3, c1_0, l1_1, c1_2, l1_3)) (0 : Int)).beq (0 : Nat) then true else (loopV (eqtR_t0_L0 (c0_0, l0_1, c0_2, l0_3, c1_0, l1_1, c1_2, l1_3)) (0 : Int)).beq (1 : Nat) && (loopOk (eqtR_t0_L2 (c0_0, l0_1, c0_2, l0_3, c1_0, l1_1, c1_2, l1_3)) (0 : Int) && bif (loopV (eqtR_t0_L2 (c0_0, l0_1, c0_2, l0_3, c1_0, l1_1, c1_2, l1_3)) (0 : Int)).beq (0 : Nat) then true else (loopV (eqtR_t0_L2 (c0_0, l0_1, c0_2, l0_3, c1_0, l1_1, c1_2, l1_3)) (0 : Int)).beq (1 : Nat) && true)
noncomputable def eqtR_t0_V1 (c0_0 : List UInt8) (l0_1 : List D) (c0_2 : List UInt8) (l0_3 : List D) (c1_0 : List UInt8) (l1_1 : List D) (c1_2 : List UInt8) (l1_3 : List D) : Bool :=
  bif !eqBytes c0_0 c1_0 then false else bif !eqBytes c0_2 c1_2 then false else bif !decide ((↑l0_1.length : Int) = (↑l1_1.length : Int)) then false else bif !decide ((↑l0_3.length : Int) = (↑l1_3.length : Int)) then false else bif (loopV (eqtR_t0_L0 (c0_0, l0_1, c0_2, l0_3, c1_0, l1_1, c1_2, l1_3)) (0 : Int)).beq (0 : Nat) then false else bif (loopV (eqtR_t0_L2 (c0_0, l0_1, c0_2, l0_3, c1_0, l1_1, c1_2, l1_3)) (0 : Int)).beq (0 : Nat) then false else true
noncomputable def eqtR_t0 (c0_0 : List UInt8) (l0_1 : List D) (c0_2 : List UInt8) (l0_3 : List D) (c1_0 : List UInt8) (l1_1 : List D) (c1_2 : List UInt8) (l1_3 : List D) : RT :=
  RT.br (eqtR_t0_V0 c0_0 l0_1 c0_2 l0_3 c1_0 l1_1 c1_2 l1_3)
    (okL (Go.Sy.AV.bool (eqtR_t0_V1 c0_0 l0_1 c0_2 l0_3 c1_0 l1_1 c1_2 l1_3)) [])
    (RT.fail)
theorem eqtR_t0_m (c0_0 : List UInt8) (l0_1 : List D) (c0_2 : List UInt8) (l0_3 : List D) (c1_0 : List UInt8) (l1_1 : List D) (c1_2 : List UInt8) (l1_3 : List D) (K : AV → St → Prop) : RT.K (fun v s _ => K v s) (RT.mergeW ([]) (eqtR_t0r c0_0 l0_1 c0_2 l0_3 c1_0 l1_1 c1_2 l1_3)) = RT.K (fun v s _ => K v s) (eqtR_t0 c0_0 l0_1 c0_2 l0_3 c1_0 l1_1 c1_2 l1_3) := by kernel_rfl
theorem eqtR_t0_b (c0_0 : List UInt8) (l0_1 : List D) (c0_2 : List UInt8) (l0_3 : List D) (c1_0 : List UInt8) (l1_1 : List D) (c1_2 : List UInt8) (l1_3 : List D) (K : AV → St → Prop) (h : RT.K (fun v s _ => K v s) (eqtR_t0 c0_0 l0_1 c0_2 l0_3 c1_0 l1_1 c1_2 l1_3)) : bodyK Try.prog eqpR_pr eqtR_t0_L2_LP 100 20 [] [(.agg [.str c0_0, .fz false (.struct [.str, (.int .i64), .bool, .str]) l0_1, .str c0_2, .fz false (.struct [(.slice .str), .str]) l0_3]), (.agg [.str c1_0, .fz false (.struct [.str, (.int .i64), .bool, .str]) l1_1, .str c1_2, .fz false (.struct [(.slice .str), .str]) l1_3])] [] K := Eq.mpr (eqtR_t0r_b ..) (mergeW_K (S := []) _ ⟨rfl, ⟨rfl, ⟨rfl, ⟨rfl, ⟨⟨rfl, ⟨⟨⟨rfl, ⟨rfl, trivial⟩⟩, trivial⟩, trivial⟩⟩, trivial⟩⟩⟩⟩⟩ (Eq.mpr (eqtR_t0_m ..) h))
theorem eqtR_t0_lp (hpr : PrOk Try.prog eqpR_pr) : LoopsFor Try.prog 20 0 eqtR_t0_L2_LP := (eqtR_t0_L2_lp hpr)
noncomputable def eqtR : Sy.Spec := ⟨[.data (.struct [.str, (.slice (.struct [.str, (.int .i64), .bool, .str])), .str, (.slice (.struct [(.slice .str), .str]))]), .data (.struct [.str, (.slice (.struct [.str, (.int .i64), .bool, .str])), .str, (.slice (.struct [(.slice .str), .str]))])], fun args s => match args, s with
  | [(.agg [(.str c0_0), (.fz false e_0 l0_1), (.str c0_2), (.fz false e_1 l0_3)]), (.agg [(.str c1_0), (.fz false e_2 l1_1), (.str c1_2), (.fz false e_3 l1_3)])], [] => .br (Sh.beq e_0 shCol && (Sh.beq e_1 shDep && (Sh.beq e_2 shCol && (Sh.beq e_3 shDep && (true))))) (eqtR_t0 c0_0 l0_1 c0_2 l0_3 c1_0 l1_1 c1_2 l1_3) .fail
  | _, _ => .fail⟩
theorem eqtR_ok : SpecOk Try.prog 20 eqtR.f := specOk_comes fun args s v s' tch e => by
  simp only [eqtR] at e
  split at e
  · obtain ⟨hg, e⟩ := if_run e
    simp only [Bool.and_eq_true] at hg
    obtain ⟨h_0, h_1, h_2, h_3, _⟩ := hg
    obtain rfl := Sh.beq_eq _ _ h_0
    obtain rfl := Sh.beq_eq _ _ h_1
    obtain rfl := Sh.beq_eq _ _ h_2
    obtain rfl := Sh.beq_eq _ _ h_3
    refine comes_of ok eqpR_pr_k (L := 100) (ms := []) (by kernel_rfl) (eqtR_t0_lp eqpR_pr_k) ?_
    exact eqtR_t0_b (h := K_run e) ..
  · cases e
noncomputable def eqtR_pr : FuncId → Option Sy.Spec := addP 20 eqtR eqpR_pr
theorem eqtR_pr_k : PrOk Try.prog eqtR_pr := prOk_add eqtR_ok eqpR_pr_k
end Go.Proofs.Ytekedhfmdpbplaa
