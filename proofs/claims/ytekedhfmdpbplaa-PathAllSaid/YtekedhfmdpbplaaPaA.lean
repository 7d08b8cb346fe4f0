/- Walks: PathAll. -/
import Derived.Test.YtekedhfmdpbplaaPaL
import Derived.Test.YtekedhfmdpbplaaPoM
import Derived.Test.YtekedhfmdpbplaaBg9
import Derived.KernelRfl
set_option linter.unusedSimpArgs false
set_option linter.unusedVariables false
set_option maxRecDepth 100000
namespace Go.Proofs.Ytekedhfmdpbplaa
open Go Go.Sy
attribute [local irreducible] bodyK roundK cutK
noncomputable def pr_aaPaA1 : FuncId → Option Sy.Spec := addP 53 joinF noP
theorem pr_aaPaA1_k : PrOk Try.prog pr_aaPaA1 := prOk_add joinS_ok prOk_none
noncomputable def ptextA_t0r (l0 : List D) : RT :=
  RT.br (decide (l0.length ≤ (1000000 : Nat)) && decide ((joinL_V l0 [(46 : UInt8)]).length ≤ (281474976710656 : Nat)))
    (okL (AV.str (joinL_V l0 [(46 : UInt8)])) ([]))
    (RT.fail)
theorem ptextA_t0r_b (l0 : List D) (K : AV → St → Prop) : bodyK Try.prog pr_aaPaA1 noL 100 29 [] [.fz false .str l0] [] K = RT.K (fun v s _ => K v s) (ptextA_t0r l0) := by kernel_rfl
noncomputable def ptextA_t0_V0 (l0 : List D) : Bool :=
  decide (l0.length ≤ (1000000 : Nat)) && decide ((joinL_V l0 [(46 : UInt8)]).length ≤ (281474976710656 : Nat)) && true
noncomputable def ptextA_t0 (l0 : List D) : RT :=
  RT.br (ptextA_t0_V0 l0)
    (okL (Go.Sy.AV.str (joinL_V l0 [(46 : UInt8)])) [])
    (RT.fail)
theorem ptextA_t0_m (l0 : List D) (K : AV → St → Prop) : RT.K (fun v s _ => K v s) (RT.mergeW ([]) (ptextA_t0r l0)) = RT.K (fun v s _ => K v s) (ptextA_t0 l0) := by kernel_rfl
theorem ptextA_t0_b (l0 : List D) (K : AV → St → Prop) (h : RT.K (fun v s _ => K v s) (ptextA_t0 l0)) : bodyK Try.prog pr_aaPaA1 noL 100 29 [] [.fz false .str l0] [] K := Eq.mpr (ptextA_t0r_b ..) (mergeW_K (S := []) _ ⟨rfl, trivial⟩ (Eq.mpr (ptextA_t0_m ..) h))
theorem ptextA_t0_lp (hpr : PrOk Try.prog pr_aaPaA1) : LoopsFor Try.prog 29 0 noL := loops_none
noncomputable def ptextA : Sy.Spec := ⟨[.data (.slice .str)], fun args s => match args, s with
  | [(.fz false e_0 l0)], [] => .br (Sh.beq e_0 (Sh.str) && (true)) (ptextA_t0 l0) .fail
  | _, _ => .fail⟩
theorem ptextA_ok : SpecOk Try.prog 29 ptextA.f := specOk_comes fun args s v s' tch e => by
  simp only [ptextA] at e
  split at e
  · obtain ⟨hg, e⟩ := if_run e
    simp only [Bool.and_eq_true] at hg
    obtain ⟨h_0, _⟩ := hg
    obtain rfl := Sh.beq_eq _ _ h_0
    refine comes_of ok pr_aaPaA1_k (L := 100) (ms := []) (by kernel_rfl) (ptextA_t0_lp pr_aaPaA1_k) ?_
    exact ptextA_t0_b (h := K_run e) ..
  · cases e
noncomputable def ptextA_pr : FuncId → Option Sy.Spec := addP 29 ptextA pr_aaPaA1
theorem ptextA_pr_k : PrOk Try.prog ptextA_pr := prOk_add ptextA_ok pr_aaPaA1_k
noncomputable def pr_aaPaA2 : FuncId → Option Sy.Spec := addP 24 begF ptextA_pr
theorem pr_aaPaA2_k : PrOk Try.prog pr_aaPaA2 := prOk_add beg9_ok ptextA_pr_k
noncomputable def pr_aaPaA3 : FuncId → Option Sy.Spec := addP 25 pathX pr_aaPaA2
theorem pr_aaPaA3_k : PrOk Try.prog pr_aaPaA3 := prOk_add pathX_ok pr_aaPaA2_k
noncomputable def pr_aaPaA4 : FuncId → Option Sy.Spec := addP 12 tabsL pr_aaPaA3
theorem pr_aaPaA4_k : PrOk Try.prog pr_aaPaA4 := prOk_add tabsL_ok pr_aaPaA3_k
noncomputable def pr_aaPaA5 : FuncId → Option Sy.Spec := addP 26 bothP pr_aaPaA4
theorem pr_aaPaA5_k : PrOk Try.prog pr_aaPaA5 := prOk_add bothP_ok pr_aaPaA4_k
noncomputable def pr_aaPaA6 : FuncId → Option Sy.Spec := addP 27 pcolP pr_aaPaA5
theorem pr_aaPaA6_k : PrOk Try.prog pr_aaPaA6 := prOk_add pcolP_ok pr_aaPaA5_k
noncomputable def pr_aaPaA7 : FuncId → Option Sy.Spec := addP 28 rcolR pr_aaPaA6
theorem pr_aaPaA7_k : PrOk Try.prog pr_aaPaA7 := prOk_add rcolR_ok pr_aaPaA6_k
noncomputable def pr_aaPaA8 : FuncId → Option Sy.Spec := addP 30 rtextR pr_aaPaA7
theorem pr_aaPaA8_k : PrOk Try.prog pr_aaPaA8 := prOk_add rtextR_ok pr_aaPaA7_k
noncomputable def pr_aaPaA9 : FuncId → Option Sy.Spec := addP 31 pcmpP pr_aaPaA8
theorem pr_aaPaA9_k : PrOk Try.prog pr_aaPaA9 := prOk_add pcmpP_ok pr_aaPaA8_k
noncomputable def pr_aaPaA10 : FuncId → Option Sy.Spec := addP 32 cmpR pr_aaPaA9
theorem pr_aaPaA10_k : PrOk Try.prog pr_aaPaA10 := prOk_add cmpR_ok pr_aaPaA9_k
noncomputable def pathAll_t0r (l0 : List D) (c1 : List UInt8) (l2 : List D) (l3 : List D) : RT :=
  RT.br (pathX_t0_V0 l2)
    (RT.br (pathX_t0_V0 l3)
     (RT.br (tabsL_t0_V0 l0)
      (RT.br (bothP_t0_V0 (tabsL_t0_V1 l0))
       (RT.br (pcolP_t0_V0 (bothP_t0_V2 (tabsL_t0_V1 l0)) (bothP_t0_V3 (tabsL_t0_V1 l0)) c1 (pathX_t0_V1 l2))
        (RT.br (rcolR_t0_V0 (bothP_t0_V1 (tabsL_t0_V1 l0)) c1 (pathX_t0_V1 l2))
         (RT.br (decide (pcolP_t0_V6 (bothP_t0_V2 (tabsL_t0_V1 l0)) (bothP_t0_V3 (tabsL_t0_V1 l0)) c1 (pathX_t0_V1 l2) = rcolR_t0_V6 (bothP_t0_V1 (tabsL_t0_V1 l0)) c1 (pathX_t0_V1 l2)))
          (RT.br (eqBytes (pcolP_t0_V5 (bothP_t0_V2 (tabsL_t0_V1 l0)) (bothP_t0_V3 (tabsL_t0_V1 l0)) c1 (pathX_t0_V1 l2)) (rcolR_t0_V5 (bothP_t0_V1 (tabsL_t0_V1 l0)) c1 (pathX_t0_V1 l2)))
           (RT.br (eqBytes (pcolP_t0_V1 (bothP_t0_V2 (tabsL_t0_V1 l0)) (bothP_t0_V3 (tabsL_t0_V1 l0)) c1 (pathX_t0_V1 l2)) (rcolR_t0_V1 (bothP_t0_V1 (tabsL_t0_V1 l0)) c1 (pathX_t0_V1 l2)))
            (RT.br (decide (pcolP_t0_V2 (bothP_t0_V2 (tabsL_t0_V1 l0)) (bothP_t0_V3 (tabsL_t0_V1 l0)) c1 (pathX_t0_V1 l2) = rcolR_t0_V2 (bothP_t0_V1 (tabsL_t0_V1 l0)) c1 (pathX_t0_V1 l2)))
             (RT.br (pcolP_t0_V3 (bothP_t0_V2 (tabsL_t0_V1 l0)) (bothP_t0_V3 (tabsL_t0_V1 l0)) c1 (pathX_t0_V1 l2) == rcolR_t0_V3 (bothP_t0_V1 (tabsL_t0_V1 l0)) c1 (pathX_t0_V1 l2))
              (RT.br (eqBytes (pcolP_t0_V4 (bothP_t0_V2 (tabsL_t0_V1 l0)) (bothP_t0_V3 (tabsL_t0_V1 l0)) c1 (pathX_t0_V1 l2)) (rcolR_t0_V4 (bothP_t0_V1 (tabsL_t0_V1 l0)) c1 (pathX_t0_V1 l2)))
               (RT.br (ptextA_t0_V0 (pathX_t0_V1 l2))
                (RT.br (rtextR_t0_V0 (pathX_t0_V1 l2))
                 (RT.br (eqBytes (joinL_V (pathX_t0_V1 l2) [(46 : UInt8)]) (rtextR_t0_V1 (pathX_t0_V1 l2)))
                  (RT.br (pcmpP_t0_V0 (pathX_t0_V1 l2) (pathX_t0_V1 l3))
                   (RT.br (cmpR_t0_V0 (pathX_t0_V1 l2) (pathX_t0_V1 l3))
                    (RT.br (decide (scmpP_t0_V1 (pathX_t0_V1 l2) (pathX_t0_V1 l3) = cmpR_t0_V1 (pathX_t0_V1 l2) (pathX_t0_V1 l3)))
                     (RT.br (pcmpP_t0_V0 (pathX_t0_V1 l3) (pathX_t0_V1 l2))
                      (RT.br (cmpR_t0_V0 (pathX_t0_V1 l2) (pathX_t0_V1 l3))
                       (okL (AV.bool (decide (scmpP_t0_V1 (pathX_t0_V1 l3) (pathX_t0_V1 l2) = IntKind.i64.wrap ((0 : Int) - cmpR_t0_V1 (pathX_t0_V1 l2) (pathX_t0_V1 l3))))) ([]))
                       (RT.fail))
                      (RT.fail))
                     (okL (AV.bool false) ([])))
                    (RT.fail))
                   (RT.fail))
                  (okL (AV.bool false) ([])))
                 (RT.fail))
                (RT.fail))
               (okL (AV.bool false) ([])))
              (okL (AV.bool false) ([])))
             (okL (AV.bool false) ([])))
            (okL (AV.bool false) ([])))
           (okL (AV.bool false) ([])))
          (okL (AV.bool false) ([])))
         (RT.fail))
        (RT.fail))
       (RT.fail))
      (RT.fail))
     (RT.fail))
    (RT.fail)
theorem pathAll_t0r_b (l0 : List D) (c1 : List UInt8) (l2 : List D) (l3 : List D) (K : AV → St → Prop) : bodyK Try.prog pr_aaPaA10 noL 100 4 [] [.fz false (.struct [.str, (.slice (.struct [.str, (.int .i64), .bool, .str])), .str, (.slice (.struct [(.slice .str), .str]))]) l0, .str c1, .fz false .str l2, .fz false .str l3] [] K = RT.K (fun v s _ => K v s) (pathAll_t0r l0 c1 l2 l3) := by kernel_rfl
noncomputable def pathAll_t0_V0 (l0 : List D) (c1 : List UInt8) (l2 : List D) (l3 : List D) : Bool :=
  pathX_t0_V0 l2 && (pathX_t0_V0 l3 && (tabsL_t0_V0 l0 && (bothP_t0_V0 (tabsL_t0_V1 l0) && (pcolP_t0_V0 (bothP_t0_V2 (tabsL_t0_V1 l0)) (bothP_t0_V3 (tabsL_t0_V1 l0)) c1 (pathX_t0_V1 l2) && (rcolR_t0_V0 (bothP_t0_V1 (tabsL_t0_V1 l0)) c1 (pathX_t0_V1 l2) && bif decide (pcolP_t0_V6 (bothP_t0_V2 (tabsL_t0_V1 l0)) (bothP_t0_V3 (tabsL_t0_V1 l0)) c1 (pathX_t0_V1 l2) = rcolR_t0_V6 (bothP_t0_V1 (tabsL_t0_V1 l0)) c1 (pathX_t0_V1 l2)) then bif eqBytes (pcolP_t0_V5 (bothP_t0_V2 (tabsL_t0_V1 l0)) (bothP_t0_V3 (tabsL_t0_V1 l0)) c1 (pathX_t0_V1 l2)) (rcolR_t0_V5 (bothP_t0_V1 (tabsL_t0_V1 l0)) c1 (pathX_t0_V1 l2)) then bif eqBytes (pcolP_t0_V1 (bothP_t0_V2 (tabsL_t0_V1 l0)) (bothP_t0_V3 (tabsL_t0_V1 l0)) c1 (pathX_t0_V1 l2)) (rcolR_t0_V1 (bothP_t0_V1 (tabsL_t0_V1 l0)) c1 (pathX_t0_V1 l2)) then bif decide (pcolP_t0_V2 (bothP_t0_V2 (tabsL_t0_V1 l0)) (bothP_t0_V3 (tabsL_t0_V1 l0)) c1 (pathX_t0_V1 l2) = rcolR_t0_V2 (bothP_t0_V1 (tabsL_t0_V1 l0)) c1 (pathX_t0_V1 l2)) then bif pcolP_t0_V3 (bothP_t0_V2 (tabsL_t0_V1 l0)) (bothP_t0_V3 (tabsL_t0_V1 l0)) c1 (pathX_t0_V1 l2) == rcolR_t0_V3 (bothP_t0_V1 (tabsL_t0_V1 l0)) c1 (pathX_t0_V1 l2) then bif eqBytes (pcolP_t0_V4 (bothP_t0_V2 (tabsL_t0_V1 l0)) (bothP_t0_V3 (tabsL_t0_V1 l0)) c1 (pathX_t0_V1 l2)) (rcolR_t0_V4 (bothP_t0_V1 (tabsL_t0_V1 l0)) c1 (pathX_t0_V1 l2)) then ptextA_t0_V0 (pathX_t0_V1 l2) && (rtextR_t0_V0 (pathX_t0_V1 l2) && bif eqBytes (joinL_V (pathX_t0_V1 l2) [(46 : UInt8)]) (rtextR_t0_V1 (pathX_t0_V1 l2)) then pcmpP_t0_V0 (pathX_t0_V1 l2) (pathX_t0_V1 l3) && (cmpR_t0_V0 (pathX_t0_V1 l2) (pathX_t0_V1 l3) && bif decide (scmpP_t0_V1 (pathX_t0_V1 l2) (pathX_t0_V1 l3) = cmpR_t0_V1 (pathX_t0_V1 l2) (pathX_t0_V1 l3)) then pcmpP_t0_V0 (pathX_t0_V1 l3) (pathX_t0_V1 l2) && (cmpR_t0_V0 (pathX_t0_V1 l2) (pathX_t0_V1 l3) && true) else true) else true) else true else true else true else true else true else true)))))
noncomputable def pathAll_t0_V1 (l0 : List D) (c1 : List UInt8) (l2 : List D) (l3 : List D) : Bool :=
  bif decide (pcolP_t0_V6 (bothP_t0_V2 (tabsL_t0_V1 l0)) (bothP_t0_V3 (tabsL_t0_V1 l0)) c1 (pathX_t0_V1 l2) = rcolR_t0_V6 (bothP_t0_V1 (tabsL_t0_V1 l0)) c1 (pathX_t0_V1 l2)) then bif eqBytes (pcolP_t0_V5 (bothP_t0_V2 (tabsL_t0_V1 l0)) (bothP_t0_V3 (tabsL_t0_V1 l0)) c1 (pathX_t0_V1 l2)) (rcolR_t0_V5 (bothP_t0_V1 (tabsL_t0_V1 l0)) c1 (pathX_t0_V1 l2)) then bif eqBytes (pcolP_t0_V1 (bothP_t0_V2 (tabsL_t0_V1 l0)) (bothP_t0_V3 (tabsL_t0_V1 l0)) c1 (pathX_t0_V1 l2)) (rcolR_t0_V1 (bothP_t0_V1 (tabsL_t0_V1 l0)) c1 (pathX_t0_V1 l2)) then bif decide (pcolP_t0_V2 (bothP_t0_V2 (tabsL_t0_V1 l0)) (bothP_t0_V3 (tabsL_t0_V1 l0)) c1 (pathX_t0_V1 l2) = rcolR_t0_V2 (bothP_t0_V1 (tabsL_t0_V1 l0)) c1 (pathX_t0_V1 l2)) then bif pcolP_t0_V3 (bothP_t0_V2 (tabsL_t0_V1 l0)) (bothP_t0_V3 (tabsL_t0_V1 l0)) c1 (pathX_t0_V1 l2) == rcolR_t0_V3 (bothP_t0_V1 (tabsL_t0_V1 l0)) c1 (pathX_t0_V1 l2) then bif eqBytes (pcolP_t0_V4 (bothP_t0_V2 (tabsL_t0_V1 l0)) (bothP_t0_V3 (tabsL_t0_V1 l0)) c1 (pathX_t0_V1 l2)) (rcolR_t0_V4 (bothP_t0_V1 (tabsL_t0_V1 l0)) c1 (pathX_t0_V1 l2)) then bif eqBytes (joinL_V (pathX_t0_V1 l2) [(46 : UInt8)]) (rtextR_t0_V1 (pathX_t0_V1 l2)) then bif decide (scmpP_t0_V1 (pathX_t0_V1 l2) (pathX_t0_V1 l3) = cmpR_t0_V1 (pathX_t0_V1 l2) (pathX_t0_V1 l3)) then decide (scmpP_t0_V1 (pathX_t0_V1 l3) (pathX_t0_V1 l2) = IntKind.i64.wrap ((0 : Int) - cmpR_t0_V1 (pathX_t0_V1 l2) (pathX_t0_V1 l3))) else false else false else false else false else false else false else false else false
noncomputable def pathAll_t0 (l0 : List D) (c1 : List UInt8) (l2 : List D) (l3 : List D) : RT :=
  RT.br (pathAll_t0_V0 l0 c1 l2 l3)
    (okL (Go.Sy.AV.bool (pathAll_t0_V1 l0 c1 l2 l3)) [])
    (RT.fail)
theorem pathAll_t0_m (l0 : List D) (c1 : List UInt8) (l2 : List D) (l3 : List D) (K : AV → St → Prop) : RT.K (fun v s _ => K v s) (RT.mergeW ([]) (pathAll_t0r l0 c1 l2 l3)) = RT.K (fun v s _ => K v s) (pathAll_t0 l0 c1 l2 l3) := by kernel_rfl
theorem pathAll_t0_b (l0 : List D) (c1 : List UInt8) (l2 : List D) (l3 : List D) (K : AV → St → Prop) (h : RT.K (fun v s _ => K v s) (pathAll_t0 l0 c1 l2 l3)) : bodyK Try.prog pr_aaPaA10 noL 100 4 [] [.fz false (.struct [.str, (.slice (.struct [.str, (.int .i64), .bool, .str])), .str, (.slice (.struct [(.slice .str), .str]))]) l0, .str c1, .fz false .str l2, .fz false .str l3] [] K := Eq.mpr (pathAll_t0r_b ..) (mergeW_K (S := []) _ ⟨⟨⟨⟨⟨⟨⟨⟨⟨⟨⟨⟨⟨⟨⟨⟨⟨⟨⟨⟨rfl, trivial⟩, trivial⟩, rfl⟩, trivial⟩, trivial⟩, rfl⟩, trivial⟩, trivial⟩, rfl⟩, rfl⟩, rfl⟩, rfl⟩, rfl⟩, rfl⟩, trivial⟩, trivial⟩, trivial⟩, trivial⟩, trivial⟩, trivial⟩ (Eq.mpr (pathAll_t0_m ..) h))
theorem pathAll_t0_lp (hpr : PrOk Try.prog pr_aaPaA10) : LoopsFor Try.prog 4 0 noL := loops_none
noncomputable def pathAll : Sy.Spec := ⟨[.data (.slice (.struct [.str, (.slice (.struct [.str, (.int .i64), .bool, .str])), .str, (.slice (.struct [(.slice .str), .str]))])), .keep, .data (.slice .str), .data (.slice .str)], fun args s => match args, s with
  | [(.fz false e_0 l0), (.str c1), (.fz false e_1 l2), (.fz false e_2 l3)], [] => .br (Sh.beq e_0 shTab && (Sh.beq e_1 (Sh.str) && (Sh.beq e_2 (Sh.str) && (true)))) (pathAll_t0 l0 c1 l2 l3) .fail
  | _, _ => .fail⟩
theorem pathAll_ok : SpecOk Try.prog 4 pathAll.f := specOk_comes fun args s v s' tch e => by
  simp only [pathAll] at e
  split at e
  · obtain ⟨hg, e⟩ := if_run e
    simp only [Bool.and_eq_true] at hg
    obtain ⟨h_0, h_1, h_2, _⟩ := hg
    obtain rfl := Sh.beq_eq _ _ h_0
    obtain rfl := Sh.beq_eq _ _ h_1
    obtain rfl := Sh.beq_eq _ _ h_2
    refine comes_of ok pr_aaPaA10_k (L := 100) (ms := []) (by kernel_rfl) (pathAll_t0_lp pr_aaPaA10_k) ?_
    exact pathAll_t0_b (h := K_run e) ..
  · cases e
noncomputable def pathAll_pr : FuncId → Option Sy.Spec := addP 4 pathAll pr_aaPaA10
theorem pathAll_pr_k : PrOk Try.prog pathAll_pr := prOk_add pathAll_ok pr_aaPaA10_k
end Go.Proofs.Ytekedhfmdpbplaa
