/- Walks: PathStar. -/
import Derived.Test.YtekedhfmdpbplaaFsB
import Derived.KernelRfl
set_option linter.unusedSimpArgs false
set_option linter.unusedVariables false
set_option maxRecDepth 100000
namespace Go.Proofs.Ytekedhfmdpbplaa
open Go Go.Sy
attribute [local irreducible] bodyK roundK cutK
noncomputable def pr_aaPsA1 : FuncId → Option Sy.Spec := addP 51 eqpR noP
theorem pr_aaPsA1_k : PrOk Try.prog pr_aaPsA1 := prOk_add eqpR_ok prOk_none
noncomputable def inR_t0_L0_T (l0 : List D) (l1 : List D) (i2 : Int) : List AV := ([AV.fz false Sh.str.slice l0, AV.fz false Sh.str l1, .any, .any, .any, AV.int IntKind.i64 i2] ++ padAny 12)
noncomputable def inR_t0_L0_S (l0 : List D) (l1 : List D) (i2 : Int) : St := []
noncomputable def inR_t0_L0_of : List AV → St → Option (((List D) × (List D)) × (Int)) := fun t s => match t, s with
  | (.fz false e_0 l0) :: (.fz false e_1 l1) :: .any :: .any :: .any :: (.int .i64 i2) :: t_0, [] => (match dropAny 12 t_0 with
    | some ([]) => (match Sh.beq e_0 (Sh.str.slice) && (Sh.beq e_1 (Sh.str) && (true)) with | true => some ((l0, l1), (i2)) | false => none)
    | _ => none)
  | _, _ => none
noncomputable def inR_t0_L0_ex (i : (List D) × (List D)) (y : Nat) (k : KS) : Prop := let l0 := i.1; let l1 := i.2; let tag := y; br (Nat.beq tag 0) (k (Ex.ret) ([.any, .any, .any, .any, AV.bool true] ++ padAny 13) []) (br (Nat.beq tag 1) (k (Ex.normal) ([.any] ++ padAny 17) []) (False))
theorem inR_t0_L0_of_ok : ∀ t s (i : (List D) × (List D)) (x : Int), inR_t0_L0_of t s = some (i, x) → t = inR_t0_L0_T i.1 i.2 x ∧ s = inR_t0_L0_S i.1 i.2 x := by
  intro t s i x h
  unfold inR_t0_L0_of at h
  split at h
  · split at h
    · rename_i ha
      obtain rfl := dropAny_eq ha
      split at h
      · rename_i hg
        cases h
        simp only [Bool.and_eq_true] at hg
        obtain ⟨h_0, h_1, _⟩ := hg
        obtain rfl := Sh.beq_eq _ _ h_0
        obtain rfl := Sh.beq_eq _ _ h_1
        exact ⟨rfl, rfl⟩
      · cases h
    · cases h
  · cases h
noncomputable def inR_t0_L0_stp (l0 : List D) (l1 : List D) (i2 : Int) : NT (Int) (Nat) :=
  NT.br (decide (i2 < (↑l0.length : Int)))
    (NT.br (decide ((0 : Int) ≤ i2) && decide (i2 < (↑l0.length : Int)))
     (NT.br (cmpR_t0_V0 (l0.getD i2.toNat D.nul).els l1 && true)
      (NT.br (eqpR_t0_V0 (l0.getD i2.toNat D.nul).els l1)
       (NT.done (0))
       (NT.more (IntKind.i64.wrap (i2 + (1 : Int)))))
      (NT.fail))
     (NT.fail))
    (NT.done (1))
noncomputable def inR_t0_L0 (i : (List D) × (List D)) (x : Int) := inR_t0_L0_stp i.1 i.2 x
theorem inR_t0_L0_rd (l0 : List D) (l1 : List D) (i2 : Int) (more : List AV → St → Prop) (kk : KS) : roundK Try.prog pr_aaPsA1 noL 100 37 0 (inR_t0_L0_T l0 l1 i2) (inR_t0_L0_S l0 l1 i2) (againK 0 0 [.yes, .yes, .no, .no, .no, .yes] [.no, .no, .no, .no, .yes] more kk) = (inR_t0_L0_stp l0 l1 i2).K (fun x' => more (inR_t0_L0_T l0 l1 x') (inR_t0_L0_S l0 l1 x')) (fun y => inR_t0_L0_ex (l0, l1) y kk) := by kernel_rfl
noncomputable def inR_t0_L0_LP : Nat → Option LoopS := addL 0 (headG 0 [.yes, .yes, .no, .no, .no, .yes] (outL inR_t0_L0 inR_t0_L0_of inR_t0_L0_ex)) noL
theorem inR_t0_L0_lp (hpr : PrOk Try.prog pr_aaPsA1) : LoopsFor Try.prog 37 0 inR_t0_L0_LP := loops_lp (L := 100) (T := fun i x => inR_t0_L0_T i.1 i.2 x) (S := fun i x => inR_t0_L0_S i.1 i.2 x) ok hpr (by kernel_rfl) loops_none inR_t0_L0_of_ok (fun i x more kk => inR_t0_L0_rd i.1 i.2 x more kk)
noncomputable def inR_t0r (l0 : List D) (l1 : List D) : RT :=
  RT.br (loopOk (inR_t0_L0 (l0, l1)) (0 : Int))
    (RT.br ((loopV (inR_t0_L0 (l0, l1)) (0 : Int)).beq (0 : Nat))
     (okL (AV.bool true) ([]))
     (RT.br ((loopV (inR_t0_L0 (l0, l1)) (0 : Int)).beq (1 : Nat))
      (okL (AV.bool false) ([]))
      (RT.fail)))
    (RT.fail)
theorem inR_t0r_b (l0 : List D) (l1 : List D) (K : AV → St → Prop) : bodyK Try.prog pr_aaPsA1 inR_t0_L0_LP 100 37 [] [.fz false (.slice .str) l0, .fz false .str l1] [] K = RT.K (fun v s _ => K v s) (inR_t0r l0 l1) := by kernel_rfl
noncomputable def inR_t0_V0 (l0 : List D) (l1 : List D) : Bool :=
  loopOk (inR_t0_L0 (l0, l1)) (0 : Int) && bif (loopV (inR_t0_L0 (l0, l1)) (0 : Int)).beq (0 : Nat) then true else (loopV (inR_t0_L0 (l0, l1)) (0 : Int)).beq (1 : Nat) && true
noncomputable def inR_t0_V1 (l0 : List D) (l1 : List D) : Bool :=
  bif (loopV (inR_t0_L0 (l0, l1)) (0 : Int)).beq (0 : Nat) then true else false
noncomputable def inR_t0 (l0 : List D) (l1 : List D) : RT :=
  RT.br (inR_t0_V0 l0 l1)
    (okL (Go.Sy.AV.bool (inR_t0_V1 l0 l1)) [])
    (RT.fail)
theorem inR_t0_m (l0 : List D) (l1 : List D) (K : AV → St → Prop) : RT.K (fun v s _ => K v s) (RT.mergeW ([]) (inR_t0r l0 l1)) = RT.K (fun v s _ => K v s) (inR_t0 l0 l1) := by kernel_rfl
theorem inR_t0_b (l0 : List D) (l1 : List D) (K : AV → St → Prop) (h : RT.K (fun v s _ => K v s) (inR_t0 l0 l1)) : bodyK Try.prog pr_aaPsA1 inR_t0_L0_LP 100 37 [] [.fz false (.slice .str) l0, .fz false .str l1] [] K := Eq.mpr (inR_t0r_b ..) (mergeW_K (S := []) _ ⟨⟨rfl, ⟨rfl, trivial⟩⟩, trivial⟩ (Eq.mpr (inR_t0_m ..) h))
theorem inR_t0_lp (hpr : PrOk Try.prog pr_aaPsA1) : LoopsFor Try.prog 37 0 inR_t0_L0_LP := (inR_t0_L0_lp hpr)
noncomputable def inR : Sy.Spec := ⟨[.data (.slice (.slice .str)), .data (.slice .str)], fun args s => match args, s with
  | [(.fz false e_0 l0), (.fz false e_1 l1)], [] => .br (Sh.beq e_0 (Sh.str.slice) && (Sh.beq e_1 (Sh.str) && (true))) (inR_t0 l0 l1) .fail
  | _, _ => .fail⟩
theorem inR_ok : SpecOk Try.prog 37 inR.f := specOk_comes fun args s v s' tch e => by
  simp only [inR] at e
  split at e
  · obtain ⟨hg, e⟩ := if_run e
    simp only [Bool.and_eq_true] at hg
    obtain ⟨h_0, h_1, _⟩ := hg
    obtain rfl := Sh.beq_eq _ _ h_0
    obtain rfl := Sh.beq_eq _ _ h_1
    refine comes_of ok pr_aaPsA1_k (L := 100) (ms := []) (by kernel_rfl) (inR_t0_lp pr_aaPsA1_k) ?_
    exact inR_t0_b (h := K_run e) ..
  · cases e
noncomputable def inR_pr : FuncId → Option Sy.Spec := addP 37 inR pr_aaPsA1
theorem inR_pr_k : PrOk Try.prog inR_pr := prOk_add inR_ok pr_aaPsA1_k
noncomputable def pr_aaPsA2 : FuncId → Option Sy.Spec := addP 24 begF inR_pr
theorem pr_aaPsA2_k : PrOk Try.prog pr_aaPsA2 := prOk_add beg9_ok inR_pr_k
noncomputable def pr_aaPsA3 : FuncId → Option Sy.Spec := addP 25 pathX pr_aaPsA2
theorem pr_aaPsA3_k : PrOk Try.prog pr_aaPsA3 := prOk_add pathX_ok pr_aaPsA2_k
noncomputable def pr_aaPsA4 : FuncId → Option Sy.Spec := addP 36 starP pr_aaPsA3
theorem pr_aaPsA4_k : PrOk Try.prog pr_aaPsA4 := prOk_add starP_ok pr_aaPsA3_k
noncomputable def pr_aaPsA5 : FuncId → Option Sy.Spec := addP 26 (zF bothG) pr_aaPsA4
theorem pr_aaPsA5_k : PrOk Try.prog pr_aaPsA5 := prOk_add (zF_ok bothG_ok) pr_aaPsA4_k
noncomputable def pr_aaPsA6 : FuncId → Option Sy.Spec := addP 27 pcolP pr_aaPsA5
theorem pr_aaPsA6_k : PrOk Try.prog pr_aaPsA6 := prOk_add pcolP_ok pr_aaPsA5_k
noncomputable def pr_aaPsA7 : FuncId → Option Sy.Spec := addP 28 rcolR pr_aaPsA6
theorem pr_aaPsA7_k : PrOk Try.prog pr_aaPsA7 := prOk_add rcolR_ok pr_aaPsA6_k
noncomputable def pr_aaPsA8 : FuncId → Option Sy.Spec := addP 34 (allX ways9) pr_aaPsA7
theorem pr_aaPsA8_k : PrOk Try.prog pr_aaPsA8 := prOk_add (allX_ok ways9_ok) pr_aaPsA7_k
noncomputable def pathStar_t0r (l0 : List D) (i1 : Int) : RT :=
  RT.br (pathX_t0_V0 l0)
    (RT.br (decide ((0 : Int) ≤ (IntKind.i64.wrap (i1.tmod (4 : Int) + (4 : Int))).tmod (4 : Int)) && decide ((IntKind.i64.wrap (i1.tmod (4 : Int) + (4 : Int))).tmod (4 : Int) < (4 : Int)))
     (RT.br (decide ((0 : Nat) + ((IntKind.i64.wrap (i1.tmod (4 : Int) + (4 : Int))).tmod (4 : Int)).toNat * (1 : Nat) < (4 : Nat)))
      (RT.br (pcolP_t0_V0 (4 : Nat) w_star ([[(115 : UInt8), (97 : UInt8), (108 : UInt8), (101 : UInt8)], [(115 : UInt8), (104 : UInt8), (111 : UInt8), (112 : UInt8)], [(100 : UInt8), (97 : UInt8), (121 : UInt8)], [(108 : UInt8), (97 : UInt8), (110 : UInt8), (100 : UInt8)]].getD ((0 : Nat) + ((IntKind.i64.wrap (i1.tmod (4 : Int) + (4 : Int))).tmod (4 : Int)).toNat * (1 : Nat)) []) (pathX_t0_V1 l0))
       (RT.br (rcolR_t0_V0 w_star ([[(115 : UInt8), (97 : UInt8), (108 : UInt8), (101 : UInt8)], [(115 : UInt8), (104 : UInt8), (111 : UInt8), (112 : UInt8)], [(100 : UInt8), (97 : UInt8), (121 : UInt8)], [(108 : UInt8), (97 : UInt8), (110 : UInt8), (100 : UInt8)]].getD ((0 : Nat) + ((IntKind.i64.wrap (i1.tmod (4 : Int) + (4 : Int))).tmod (4 : Int)).toNat * (1 : Nat)) []) (pathX_t0_V1 l0))
        (RT.br ([(w_star, [(115 : UInt8), (97 : UInt8), (108 : UInt8), (101 : UInt8)], L_star_sale), (w_star, [(115 : UInt8), (104 : UInt8), (111 : UInt8), (112 : UInt8)], L_star_shop), (w_star, [(100 : UInt8), (97 : UInt8), (121 : UInt8)], L_star_day), (w_star, [(108 : UInt8), (97 : UInt8), (110 : UInt8), (100 : UInt8)], L_star_land)].any fun x => eqBytes x.snd.1 ([[(115 : UInt8), (97 : UInt8), (108 : UInt8), (101 : UInt8)], [(115 : UInt8), (104 : UInt8), (111 : UInt8), (112 : UInt8)], [(100 : UInt8), (97 : UInt8), (121 : UInt8)], [(108 : UInt8), (97 : UInt8), (110 : UInt8), (100 : UInt8)]].getD ((0 : Nat) + ((IntKind.i64.wrap (i1.tmod (4 : Int) + (4 : Int))).tmod (4 : Int)).toNat * (1 : Nat)) []))
         (RT.br (inR_t0_V0 (bif eqBytes [(115 : UInt8), (97 : UInt8), (108 : UInt8), (101 : UInt8)] ([[(115 : UInt8), (97 : UInt8), (108 : UInt8), (101 : UInt8)], [(115 : UInt8), (104 : UInt8), (111 : UInt8), (112 : UInt8)], [(100 : UInt8), (97 : UInt8), (121 : UInt8)], [(108 : UInt8), (97 : UInt8), (110 : UInt8), (100 : UInt8)]].getD ((0 : Nat) + ((IntKind.i64.wrap (i1.tmod (4 : Int) + (4 : Int))).tmod (4 : Int)).toNat * (1 : Nat)) []) then L_star_sale else bif eqBytes [(115 : UInt8), (104 : UInt8), (111 : UInt8), (112 : UInt8)] ([[(115 : UInt8), (97 : UInt8), (108 : UInt8), (101 : UInt8)], [(115 : UInt8), (104 : UInt8), (111 : UInt8), (112 : UInt8)], [(100 : UInt8), (97 : UInt8), (121 : UInt8)], [(108 : UInt8), (97 : UInt8), (110 : UInt8), (100 : UInt8)]].getD ((0 : Nat) + ((IntKind.i64.wrap (i1.tmod (4 : Int) + (4 : Int))).tmod (4 : Int)).toNat * (1 : Nat)) []) then L_star_shop else bif eqBytes [(100 : UInt8), (97 : UInt8), (121 : UInt8)] ([[(115 : UInt8), (97 : UInt8), (108 : UInt8), (101 : UInt8)], [(115 : UInt8), (104 : UInt8), (111 : UInt8), (112 : UInt8)], [(100 : UInt8), (97 : UInt8), (121 : UInt8)], [(108 : UInt8), (97 : UInt8), (110 : UInt8), (100 : UInt8)]].getD ((0 : Nat) + ((IntKind.i64.wrap (i1.tmod (4 : Int) + (4 : Int))).tmod (4 : Int)).toNat * (1 : Nat)) []) then L_star_day else bif eqBytes [(108 : UInt8), (97 : UInt8), (110 : UInt8), (100 : UInt8)] ([[(115 : UInt8), (97 : UInt8), (108 : UInt8), (101 : UInt8)], [(115 : UInt8), (104 : UInt8), (111 : UInt8), (112 : UInt8)], [(100 : UInt8), (97 : UInt8), (121 : UInt8)], [(108 : UInt8), (97 : UInt8), (110 : UInt8), (100 : UInt8)]].getD ((0 : Nat) + ((IntKind.i64.wrap (i1.tmod (4 : Int) + (4 : Int))).tmod (4 : Int)).toNat * (1 : Nat)) []) then L_star_land else []) (pathX_t0_V1 l0))
          (RT.br (decide (pcolP_t0_V6 (4 : Nat) w_star ([[(115 : UInt8), (97 : UInt8), (108 : UInt8), (101 : UInt8)], [(115 : UInt8), (104 : UInt8), (111 : UInt8), (112 : UInt8)], [(100 : UInt8), (97 : UInt8), (121 : UInt8)], [(108 : UInt8), (97 : UInt8), (110 : UInt8), (100 : UInt8)]].getD ((0 : Nat) + ((IntKind.i64.wrap (i1.tmod (4 : Int) + (4 : Int))).tmod (4 : Int)).toNat * (1 : Nat)) []) (pathX_t0_V1 l0) = rcolR_t0_V6 w_star ([[(115 : UInt8), (97 : UInt8), (108 : UInt8), (101 : UInt8)], [(115 : UInt8), (104 : UInt8), (111 : UInt8), (112 : UInt8)], [(100 : UInt8), (97 : UInt8), (121 : UInt8)], [(108 : UInt8), (97 : UInt8), (110 : UInt8), (100 : UInt8)]].getD ((0 : Nat) + ((IntKind.i64.wrap (i1.tmod (4 : Int) + (4 : Int))).tmod (4 : Int)).toNat * (1 : Nat)) []) (pathX_t0_V1 l0)))
           (RT.br (eqBytes (pcolP_t0_V5 (4 : Nat) w_star ([[(115 : UInt8), (97 : UInt8), (108 : UInt8), (101 : UInt8)], [(115 : UInt8), (104 : UInt8), (111 : UInt8), (112 : UInt8)], [(100 : UInt8), (97 : UInt8), (121 : UInt8)], [(108 : UInt8), (97 : UInt8), (110 : UInt8), (100 : UInt8)]].getD ((0 : Nat) + ((IntKind.i64.wrap (i1.tmod (4 : Int) + (4 : Int))).tmod (4 : Int)).toNat * (1 : Nat)) []) (pathX_t0_V1 l0)) (rcolR_t0_V5 w_star ([[(115 : UInt8), (97 : UInt8), (108 : UInt8), (101 : UInt8)], [(115 : UInt8), (104 : UInt8), (111 : UInt8), (112 : UInt8)], [(100 : UInt8), (97 : UInt8), (121 : UInt8)], [(108 : UInt8), (97 : UInt8), (110 : UInt8), (100 : UInt8)]].getD ((0 : Nat) + ((IntKind.i64.wrap (i1.tmod (4 : Int) + (4 : Int))).tmod (4 : Int)).toNat * (1 : Nat)) []) (pathX_t0_V1 l0)))
            (RT.br (eqBytes (pcolP_t0_V1 (4 : Nat) w_star ([[(115 : UInt8), (97 : UInt8), (108 : UInt8), (101 : UInt8)], [(115 : UInt8), (104 : UInt8), (111 : UInt8), (112 : UInt8)], [(100 : UInt8), (97 : UInt8), (121 : UInt8)], [(108 : UInt8), (97 : UInt8), (110 : UInt8), (100 : UInt8)]].getD ((0 : Nat) + ((IntKind.i64.wrap (i1.tmod (4 : Int) + (4 : Int))).tmod (4 : Int)).toNat * (1 : Nat)) []) (pathX_t0_V1 l0)) (rcolR_t0_V1 w_star ([[(115 : UInt8), (97 : UInt8), (108 : UInt8), (101 : UInt8)], [(115 : UInt8), (104 : UInt8), (111 : UInt8), (112 : UInt8)], [(100 : UInt8), (97 : UInt8), (121 : UInt8)], [(108 : UInt8), (97 : UInt8), (110 : UInt8), (100 : UInt8)]].getD ((0 : Nat) + ((IntKind.i64.wrap (i1.tmod (4 : Int) + (4 : Int))).tmod (4 : Int)).toNat * (1 : Nat)) []) (pathX_t0_V1 l0)))
             (okL (AV.bool (inR_t0_V1 (bif eqBytes [(115 : UInt8), (97 : UInt8), (108 : UInt8), (101 : UInt8)] ([[(115 : UInt8), (97 : UInt8), (108 : UInt8), (101 : UInt8)], [(115 : UInt8), (104 : UInt8), (111 : UInt8), (112 : UInt8)], [(100 : UInt8), (97 : UInt8), (121 : UInt8)], [(108 : UInt8), (97 : UInt8), (110 : UInt8), (100 : UInt8)]].getD ((0 : Nat) + ((IntKind.i64.wrap (i1.tmod (4 : Int) + (4 : Int))).tmod (4 : Int)).toNat * (1 : Nat)) []) then L_star_sale else bif eqBytes [(115 : UInt8), (104 : UInt8), (111 : UInt8), (112 : UInt8)] ([[(115 : UInt8), (97 : UInt8), (108 : UInt8), (101 : UInt8)], [(115 : UInt8), (104 : UInt8), (111 : UInt8), (112 : UInt8)], [(100 : UInt8), (97 : UInt8), (121 : UInt8)], [(108 : UInt8), (97 : UInt8), (110 : UInt8), (100 : UInt8)]].getD ((0 : Nat) + ((IntKind.i64.wrap (i1.tmod (4 : Int) + (4 : Int))).tmod (4 : Int)).toNat * (1 : Nat)) []) then L_star_shop else bif eqBytes [(100 : UInt8), (97 : UInt8), (121 : UInt8)] ([[(115 : UInt8), (97 : UInt8), (108 : UInt8), (101 : UInt8)], [(115 : UInt8), (104 : UInt8), (111 : UInt8), (112 : UInt8)], [(100 : UInt8), (97 : UInt8), (121 : UInt8)], [(108 : UInt8), (97 : UInt8), (110 : UInt8), (100 : UInt8)]].getD ((0 : Nat) + ((IntKind.i64.wrap (i1.tmod (4 : Int) + (4 : Int))).tmod (4 : Int)).toNat * (1 : Nat)) []) then L_star_day else bif eqBytes [(108 : UInt8), (97 : UInt8), (110 : UInt8), (100 : UInt8)] ([[(115 : UInt8), (97 : UInt8), (108 : UInt8), (101 : UInt8)], [(115 : UInt8), (104 : UInt8), (111 : UInt8), (112 : UInt8)], [(100 : UInt8), (97 : UInt8), (121 : UInt8)], [(108 : UInt8), (97 : UInt8), (110 : UInt8), (100 : UInt8)]].getD ((0 : Nat) + ((IntKind.i64.wrap (i1.tmod (4 : Int) + (4 : Int))).tmod (4 : Int)).toNat * (1 : Nat)) []) then L_star_land else []) (pathX_t0_V1 l0) == decide (pcolP_t0_V6 (4 : Nat) w_star ([[(115 : UInt8), (97 : UInt8), (108 : UInt8), (101 : UInt8)], [(115 : UInt8), (104 : UInt8), (111 : UInt8), (112 : UInt8)], [(100 : UInt8), (97 : UInt8), (121 : UInt8)], [(108 : UInt8), (97 : UInt8), (110 : UInt8), (100 : UInt8)]].getD ((0 : Nat) + ((IntKind.i64.wrap (i1.tmod (4 : Int) + (4 : Int))).tmod (4 : Int)).toNat * (1 : Nat)) []) (pathX_t0_V1 l0) = (0 : Int)))) ([]))
             (okL (AV.bool false) ([])))
            (okL (AV.bool false) ([])))
           (okL (AV.bool false) ([])))
          (RT.fail))
         (RT.fail))
        (RT.fail))
       (RT.fail))
      (RT.fail))
     (RT.fail))
    (RT.fail)
theorem pathStar_t0r_b (l0 : List D) (i1 : Int) (K : AV → St → Prop) : bodyK Try.prog pr_aaPsA8 noL 100 6 [] [.fz false .str l0, .int .i64 i1] [] K = RT.K (fun v s _ => K v s) (pathStar_t0r l0 i1) := by kernel_rfl
noncomputable def pathStar_t0_V0 (l0 : List D) (i1 : Int) : Bool :=
  pathX_t0_V0 l0 && (decide ((0 : Int) ≤ (IntKind.i64.wrap (i1.tmod (4 : Int) + (4 : Int))).tmod (4 : Int)) && decide ((IntKind.i64.wrap (i1.tmod (4 : Int) + (4 : Int))).tmod (4 : Int) < (4 : Int)) && (decide ((0 : Nat) + ((IntKind.i64.wrap (i1.tmod (4 : Int) + (4 : Int))).tmod (4 : Int)).toNat * (1 : Nat) < (4 : Nat)) && (pcolP_t0_V0 (4 : Nat) w_star ([[(115 : UInt8), (97 : UInt8), (108 : UInt8), (101 : UInt8)], [(115 : UInt8), (104 : UInt8), (111 : UInt8), (112 : UInt8)], [(100 : UInt8), (97 : UInt8), (121 : UInt8)], [(108 : UInt8), (97 : UInt8), (110 : UInt8), (100 : UInt8)]].getD ((0 : Nat) + ((IntKind.i64.wrap (i1.tmod (4 : Int) + (4 : Int))).tmod (4 : Int)).toNat * (1 : Nat)) []) (pathX_t0_V1 l0) && (rcolR_t0_V0 w_star ([[(115 : UInt8), (97 : UInt8), (108 : UInt8), (101 : UInt8)], [(115 : UInt8), (104 : UInt8), (111 : UInt8), (112 : UInt8)], [(100 : UInt8), (97 : UInt8), (121 : UInt8)], [(108 : UInt8), (97 : UInt8), (110 : UInt8), (100 : UInt8)]].getD ((0 : Nat) + ((IntKind.i64.wrap (i1.tmod (4 : Int) + (4 : Int))).tmod (4 : Int)).toNat * (1 : Nat)) []) (pathX_t0_V1 l0) && (([(w_star, [(115 : UInt8), (97 : UInt8), (108 : UInt8), (101 : UInt8)], L_star_sale), (w_star, [(115 : UInt8), (104 : UInt8), (111 : UInt8), (112 : UInt8)], L_star_shop), (w_star, [(100 : UInt8), (97 : UInt8), (121 : UInt8)], L_star_day), (w_star, [(108 : UInt8), (97 : UInt8), (110 : UInt8), (100 : UInt8)], L_star_land)].any fun x => eqBytes x.snd.1 ([[(115 : UInt8), (97 : UInt8), (108 : UInt8), (101 : UInt8)], [(115 : UInt8), (104 : UInt8), (111 : UInt8), (112 : UInt8)], [(100 : UInt8), (97 : UInt8), (121 : UInt8)], [(108 : UInt8), (97 : UInt8), (110 : UInt8), (100 : UInt8)]].getD ((0 : Nat) + ((IntKind.i64.wrap (i1.tmod (4 : Int) + (4 : Int))).tmod (4 : Int)).toNat * (1 : Nat)) [])) && (inR_t0_V0 (bif eqBytes [(115 : UInt8), (97 : UInt8), (108 : UInt8), (101 : UInt8)] ([[(115 : UInt8), (97 : UInt8), (108 : UInt8), (101 : UInt8)], [(115 : UInt8), (104 : UInt8), (111 : UInt8), (112 : UInt8)], [(100 : UInt8), (97 : UInt8), (121 : UInt8)], [(108 : UInt8), (97 : UInt8), (110 : UInt8), (100 : UInt8)]].getD ((0 : Nat) + ((IntKind.i64.wrap (i1.tmod (4 : Int) + (4 : Int))).tmod (4 : Int)).toNat * (1 : Nat)) []) then L_star_sale else bif eqBytes [(115 : UInt8), (104 : UInt8), (111 : UInt8), (112 : UInt8)] ([[(115 : UInt8), (97 : UInt8), (108 : UInt8), (101 : UInt8)], [(115 : UInt8), (104 : UInt8), (111 : UInt8), (112 : UInt8)], [(100 : UInt8), (97 : UInt8), (121 : UInt8)], [(108 : UInt8), (97 : UInt8), (110 : UInt8), (100 : UInt8)]].getD ((0 : Nat) + ((IntKind.i64.wrap (i1.tmod (4 : Int) + (4 : Int))).tmod (4 : Int)).toNat * (1 : Nat)) []) then L_star_shop else bif eqBytes [(100 : UInt8), (97 : UInt8), (121 : UInt8)] ([[(115 : UInt8), (97 : UInt8), (108 : UInt8), (101 : UInt8)], [(115 : UInt8), (104 : UInt8), (111 : UInt8), (112 : UInt8)], [(100 : UInt8), (97 : UInt8), (121 : UInt8)], [(108 : UInt8), (97 : UInt8), (110 : UInt8), (100 : UInt8)]].getD ((0 : Nat) + ((IntKind.i64.wrap (i1.tmod (4 : Int) + (4 : Int))).tmod (4 : Int)).toNat * (1 : Nat)) []) then L_star_day else bif eqBytes [(108 : UInt8), (97 : UInt8), (110 : UInt8), (100 : UInt8)] ([[(115 : UInt8), (97 : UInt8), (108 : UInt8), (101 : UInt8)], [(115 : UInt8), (104 : UInt8), (111 : UInt8), (112 : UInt8)], [(100 : UInt8), (97 : UInt8), (121 : UInt8)], [(108 : UInt8), (97 : UInt8), (110 : UInt8), (100 : UInt8)]].getD ((0 : Nat) + ((IntKind.i64.wrap (i1.tmod (4 : Int) + (4 : Int))).tmod (4 : Int)).toNat * (1 : Nat)) []) then L_star_land else []) (pathX_t0_V1 l0) && bif decide (pcolP_t0_V6 (4 : Nat) w_star ([[(115 : UInt8), (97 : UInt8), (108 : UInt8), (101 : UInt8)], [(115 : UInt8), (104 : UInt8), (111 : UInt8), (112 : UInt8)], [(100 : UInt8), (97 : UInt8), (121 : UInt8)], [(108 : UInt8), (97 : UInt8), (110 : UInt8), (100 : UInt8)]].getD ((0 : Nat) + ((IntKind.i64.wrap (i1.tmod (4 : Int) + (4 : Int))).tmod (4 : Int)).toNat * (1 : Nat)) []) (pathX_t0_V1 l0) = rcolR_t0_V6 w_star ([[(115 : UInt8), (97 : UInt8), (108 : UInt8), (101 : UInt8)], [(115 : UInt8), (104 : UInt8), (111 : UInt8), (112 : UInt8)], [(100 : UInt8), (97 : UInt8), (121 : UInt8)], [(108 : UInt8), (97 : UInt8), (110 : UInt8), (100 : UInt8)]].getD ((0 : Nat) + ((IntKind.i64.wrap (i1.tmod (4 : Int) + (4 : Int))).tmod (4 : Int)).toNat * (1 : Nat)) []) (pathX_t0_V1 l0)) then bif eqBytes (pcolP_t0_V5 (4 : Nat) w_star ([[(115 : UInt8), (97 : UInt8), (108 : UInt8), (101 : UInt8)], [(115 : UInt8), (104 : UInt8), (111 : UInt8), (112 : UInt8)], [(100 : UInt8), (97 : UInt8), (121 : UInt8)], [(108 : UInt8), (97 : UInt8), (110 : UInt8), (100 : UInt8)]].getD ((0 : Nat) + ((IntKind.i64.wrap (i1.tmod (4 : Int) + (4 : Int))).tmod (4 : Int)).toNat * (1 : Nat)) []) (pathX_t0_V1 l0)) (rcolR_t0_V5 w_star ([[(115 : UInt8), (97 : UInt8), (108 : UInt8), (101 : UInt8)], [(115 : UInt8), (104 : UInt8), (111 : UInt8), (112 : UInt8)], [(100 : UInt8), (97 : UInt8), (121 : UInt8)], [(108 : UInt8), (97 : UInt8), (110 : UInt8), (100 : UInt8)]].getD ((0 : Nat) + ((IntKind.i64.wrap (i1.tmod (4 : Int) + (4 : Int))).tmod (4 : Int)).toNat * (1 : Nat)) []) (pathX_t0_V1 l0)) then bif eqBytes (pcolP_t0_V1 (4 : Nat) w_star ([[(115 : UInt8), (97 : UInt8), (108 : UInt8), (101 : UInt8)], [(115 : UInt8), (104 : UInt8), (111 : UInt8), (112 : UInt8)], [(100 : UInt8), (97 : UInt8), (121 : UInt8)], [(108 : UInt8), (97 : UInt8), (110 : UInt8), (100 : UInt8)]].getD ((0 : Nat) + ((IntKind.i64.wrap (i1.tmod (4 : Int) + (4 : Int))).tmod (4 : Int)).toNat * (1 : Nat)) []) (pathX_t0_V1 l0)) (rcolR_t0_V1 w_star ([[(115 : UInt8), (97 : UInt8), (108 : UInt8), (101 : UInt8)], [(115 : UInt8), (104 : UInt8), (111 : UInt8), (112 : UInt8)], [(100 : UInt8), (97 : UInt8), (121 : UInt8)], [(108 : UInt8), (97 : UInt8), (110 : UInt8), (100 : UInt8)]].getD ((0 : Nat) + ((IntKind.i64.wrap (i1.tmod (4 : Int) + (4 : Int))).tmod (4 : Int)).toNat * (1 : Nat)) []) (pathX_t0_V1 l0)) then true else true else true else true))))))
noncomputable def pathStar_t0_V1 (l0 : List D) (i1 : Int) : Bool :=
  bif decide (pcolP_t0_V6 (4 : Nat) w_star ([[(115 : UInt8), (97 : UInt8), (108 : UInt8), (101 : UInt8)], [(115 : UInt8), (104 : UInt8), (111 : UInt8), (112 : UInt8)], [(100 : UInt8), (97 : UInt8), (121 : UInt8)], [(108 : UInt8), (97 : UInt8), (110 : UInt8), (100 : UInt8)]].getD ((0 : Nat) + ((IntKind.i64.wrap (i1.tmod (4 : Int) + (4 : Int))).tmod (4 : Int)).toNat * (1 : Nat)) []) (pathX_t0_V1 l0) = rcolR_t0_V6 w_star ([[(115 : UInt8), (97 : UInt8), (108 : UInt8), (101 : UInt8)], [(115 : UInt8), (104 : UInt8), (111 : UInt8), (112 : UInt8)], [(100 : UInt8), (97 : UInt8), (121 : UInt8)], [(108 : UInt8), (97 : UInt8), (110 : UInt8), (100 : UInt8)]].getD ((0 : Nat) + ((IntKind.i64.wrap (i1.tmod (4 : Int) + (4 : Int))).tmod (4 : Int)).toNat * (1 : Nat)) []) (pathX_t0_V1 l0)) then bif eqBytes (pcolP_t0_V5 (4 : Nat) w_star ([[(115 : UInt8), (97 : UInt8), (108 : UInt8), (101 : UInt8)], [(115 : UInt8), (104 : UInt8), (111 : UInt8), (112 : UInt8)], [(100 : UInt8), (97 : UInt8), (121 : UInt8)], [(108 : UInt8), (97 : UInt8), (110 : UInt8), (100 : UInt8)]].getD ((0 : Nat) + ((IntKind.i64.wrap (i1.tmod (4 : Int) + (4 : Int))).tmod (4 : Int)).toNat * (1 : Nat)) []) (pathX_t0_V1 l0)) (rcolR_t0_V5 w_star ([[(115 : UInt8), (97 : UInt8), (108 : UInt8), (101 : UInt8)], [(115 : UInt8), (104 : UInt8), (111 : UInt8), (112 : UInt8)], [(100 : UInt8), (97 : UInt8), (121 : UInt8)], [(108 : UInt8), (97 : UInt8), (110 : UInt8), (100 : UInt8)]].getD ((0 : Nat) + ((IntKind.i64.wrap (i1.tmod (4 : Int) + (4 : Int))).tmod (4 : Int)).toNat * (1 : Nat)) []) (pathX_t0_V1 l0)) then bif eqBytes (pcolP_t0_V1 (4 : Nat) w_star ([[(115 : UInt8), (97 : UInt8), (108 : UInt8), (101 : UInt8)], [(115 : UInt8), (104 : UInt8), (111 : UInt8), (112 : UInt8)], [(100 : UInt8), (97 : UInt8), (121 : UInt8)], [(108 : UInt8), (97 : UInt8), (110 : UInt8), (100 : UInt8)]].getD ((0 : Nat) + ((IntKind.i64.wrap (i1.tmod (4 : Int) + (4 : Int))).tmod (4 : Int)).toNat * (1 : Nat)) []) (pathX_t0_V1 l0)) (rcolR_t0_V1 w_star ([[(115 : UInt8), (97 : UInt8), (108 : UInt8), (101 : UInt8)], [(115 : UInt8), (104 : UInt8), (111 : UInt8), (112 : UInt8)], [(100 : UInt8), (97 : UInt8), (121 : UInt8)], [(108 : UInt8), (97 : UInt8), (110 : UInt8), (100 : UInt8)]].getD ((0 : Nat) + ((IntKind.i64.wrap (i1.tmod (4 : Int) + (4 : Int))).tmod (4 : Int)).toNat * (1 : Nat)) []) (pathX_t0_V1 l0)) then inR_t0_V1 (bif eqBytes [(115 : UInt8), (97 : UInt8), (108 : UInt8), (101 : UInt8)] ([[(115 : UInt8), (97 : UInt8), (108 : UInt8), (101 : UInt8)], [(115 : UInt8), (104 : UInt8), (111 : UInt8), (112 : UInt8)], [(100 : UInt8), (97 : UInt8), (121 : UInt8)], [(108 : UInt8), (97 : UInt8), (110 : UInt8), (100 : UInt8)]].getD ((0 : Nat) + ((IntKind.i64.wrap (i1.tmod (4 : Int) + (4 : Int))).tmod (4 : Int)).toNat * (1 : Nat)) []) then L_star_sale else bif eqBytes [(115 : UInt8), (104 : UInt8), (111 : UInt8), (112 : UInt8)] ([[(115 : UInt8), (97 : UInt8), (108 : UInt8), (101 : UInt8)], [(115 : UInt8), (104 : UInt8), (111 : UInt8), (112 : UInt8)], [(100 : UInt8), (97 : UInt8), (121 : UInt8)], [(108 : UInt8), (97 : UInt8), (110 : UInt8), (100 : UInt8)]].getD ((0 : Nat) + ((IntKind.i64.wrap (i1.tmod (4 : Int) + (4 : Int))).tmod (4 : Int)).toNat * (1 : Nat)) []) then L_star_shop else bif eqBytes [(100 : UInt8), (97 : UInt8), (121 : UInt8)] ([[(115 : UInt8), (97 : UInt8), (108 : UInt8), (101 : UInt8)], [(115 : UInt8), (104 : UInt8), (111 : UInt8), (112 : UInt8)], [(100 : UInt8), (97 : UInt8), (121 : UInt8)], [(108 : UInt8), (97 : UInt8), (110 : UInt8), (100 : UInt8)]].getD ((0 : Nat) + ((IntKind.i64.wrap (i1.tmod (4 : Int) + (4 : Int))).tmod (4 : Int)).toNat * (1 : Nat)) []) then L_star_day else bif eqBytes [(108 : UInt8), (97 : UInt8), (110 : UInt8), (100 : UInt8)] ([[(115 : UInt8), (97 : UInt8), (108 : UInt8), (101 : UInt8)], [(115 : UInt8), (104 : UInt8), (111 : UInt8), (112 : UInt8)], [(100 : UInt8), (97 : UInt8), (121 : UInt8)], [(108 : UInt8), (97 : UInt8), (110 : UInt8), (100 : UInt8)]].getD ((0 : Nat) + ((IntKind.i64.wrap (i1.tmod (4 : Int) + (4 : Int))).tmod (4 : Int)).toNat * (1 : Nat)) []) then L_star_land else []) (pathX_t0_V1 l0) == decide (pcolP_t0_V6 (4 : Nat) w_star ([[(115 : UInt8), (97 : UInt8), (108 : UInt8), (101 : UInt8)], [(115 : UInt8), (104 : UInt8), (111 : UInt8), (112 : UInt8)], [(100 : UInt8), (97 : UInt8), (121 : UInt8)], [(108 : UInt8), (97 : UInt8), (110 : UInt8), (100 : UInt8)]].getD ((0 : Nat) + ((IntKind.i64.wrap (i1.tmod (4 : Int) + (4 : Int))).tmod (4 : Int)).toNat * (1 : Nat)) []) (pathX_t0_V1 l0) = (0 : Int)) else false else false else false
noncomputable def pathStar_t0 (l0 : List D) (i1 : Int) : RT :=
  RT.br (pathStar_t0_V0 l0 i1)
    (okL (Go.Sy.AV.bool (pathStar_t0_V1 l0 i1)) [])
    (RT.fail)
theorem pathStar_t0_m (l0 : List D) (i1 : Int) (K : AV → St → Prop) : RT.K (fun v s _ => K v s) (RT.mergeW ([]) (pathStar_t0r l0 i1)) = RT.K (fun v s _ => K v s) (pathStar_t0 l0 i1) := by kernel_rfl
theorem pathStar_t0_b (l0 : List D) (i1 : Int) (K : AV → St → Prop) (h : RT.K (fun v s _ => K v s) (pathStar_t0 l0 i1)) : bodyK Try.prog pr_aaPsA8 noL 100 6 [] [.fz false .str l0, .int .i64 i1] [] K := Eq.mpr (pathStar_t0r_b ..) (mergeW_K (S := []) _ ⟨⟨⟨⟨⟨⟨⟨⟨⟨⟨rfl, rfl⟩, rfl⟩, rfl⟩, trivial⟩, trivial⟩, trivial⟩, trivial⟩, trivial⟩, trivial⟩, trivial⟩ (Eq.mpr (pathStar_t0_m ..) h))
theorem pathStar_t0_lp (hpr : PrOk Try.prog pr_aaPsA8) : LoopsFor Try.prog 6 0 noL := loops_none
noncomputable def pathStar : Sy.Spec := ⟨[.data (.slice .str), .keep], fun args s => match args, s with
  | [(.fz false e_0 l0), (.int .i64 i1)], [] => .br (Sh.beq e_0 (Sh.str) && (true)) (pathStar_t0 l0 i1) .fail
  | _, _ => .fail⟩
theorem pathStar_ok : SpecOk Try.prog 6 pathStar.f := specOk_comes fun args s v s' tch e => by
  simp only [pathStar] at e
  split at e
  · obtain ⟨hg, e⟩ := if_run e
    simp only [Bool.and_eq_true] at hg
    obtain ⟨h_0, _⟩ := hg
    obtain rfl := Sh.beq_eq _ _ h_0
    refine comes_of ok pr_aaPsA8_k (L := 100) (ms := []) (by kernel_rfl) (pathStar_t0_lp pr_aaPsA8_k) ?_
    exact pathStar_t0_b (h := K_run e) ..
  · cases e
noncomputable def pathStar_pr : FuncId → Option Sy.Spec := addP 6 pathStar pr_aaPsA8
theorem pathStar_pr_k : PrOk Try.prog pathStar_pr := prOk_add pathStar_ok pr_aaPsA8_k
theorem cmpR_is (l m : List D) (hl : l.length < 1000000) : cmpR_t0_V0 l m = true ∧ cmpR_t0_V1 l m = rowT l m := by
  have h := loop_first (stp := cmpR_t0_L0 (l, m)) (min l.length m.length) (fun k => if c3 (l.getD k .nul).asStr (m.getD k .nul).asStr = 0 then none else some ((0 : Nat), c3 (l.getD k .nul).asStr (m.getD k .nul).asStr)) (1, 0) (fun k hk _ => by
    have hk1 : k < l.length := by omega
    have hk2 : k < m.length := by omega
    simp only [cmpR_t0_L0, cmpR_t0_L0_stp, nrun_br, nrun_more, nrun_done, nrun_fail, lt_cast hk1, lt_cast hk2, ge0, wrap1 (show k < 1000000 by omega), Int.toNat_natCast, Bool.and_self, if_true, c3]
    rcases Bool.eq_false_or_eq_true (ltBytes (l.getD k .nul).asStr (m.getD k .nul).asStr) with p | p <;> rcases Bool.eq_false_or_eq_true (eqBytes (l.getD k .nul).asStr (m.getD k .nul).asStr) with q | q <;> simp only [p, q] <;> rfl) (fun _ => by
    rcases Nat.lt_or_ge l.length m.length with h | h
    · rw [Nat.min_eq_left (by omega)]
      simp only [cmpR_t0_L0, cmpR_t0_L0_stp, nrun_br, nrun_more, nrun_done, nrun_fail, lt_self, ge0]; rfl
    · rw [Nat.min_eq_right h]
      simp only [cmpR_t0_L0, cmpR_t0_L0_stp, nrun_br, nrun_more, nrun_done, nrun_fail, lt_self, ge0]
      cases decide ((m.length : Int) < (l.length : Int)) <;> rfl)
  have hn : ∀ j, (if c3 (l.getD j .nul).asStr (m.getD j .nul).asStr = 0 then none else some ((0 : Nat), c3 (l.getD j .nul).asStr (m.getD j .nul).asStr)) = none → c3 (l.getD j .nul).asStr (m.getD j .nul).asStr = 0 := by
    intro j hj
    by_cases h2 : c3 (l.getD j .nul).asStr (m.getD j .nul).asStr = 0
    · exact h2
    · rw [if_neg h2] at hj; cases hj
  unfold cmpR_t0_V0 cmpR_t0_V1
  rcases h with ⟨k, y, k1, k2, k3, k4⟩ | ⟨k2, k4⟩
  · rw [loopOk_of k4, loopV_of k4]
    by_cases h2 : c3 (l.getD k .nul).asStr (m.getD k .nul).asStr = 0
    · rw [if_pos h2] at k3; cases k3
    · rw [if_neg h2] at k3
      cases k3
      rw [rowT_first (by omega) (by omega) (fun j hj => hn j (k2 j hj)) h2]
      exact ⟨rfl, rfl⟩
  · rw [loopOk_of k4, loopV_of k4, rowT_even (fun j hj hj' => hn j (k2 j (by omega)))]
    by_cases h1 : l.length < m.length
    · rw [if_pos h1, lt_cast h1]; exact ⟨rfl, rfl⟩
    · rw [if_neg h1, decide_eq_false (show ¬ (l.length : Int) < (m.length : Int) by omega)]
      by_cases h2 : l.length > m.length
      · rw [if_pos h2, decide_eq_true (show (l.length : Int) > (m.length : Int) by omega)]; exact ⟨rfl, rfl⟩
      · rw [if_neg h2, decide_eq_false (show ¬ (l.length : Int) > (m.length : Int) by omega)]; exact ⟨rfl, rfl⟩
theorem inR_is (l : List D) (p : List D) (hl : l.length < 1000000) (hq : ∀ i, i < l.length → (l.getD i .nul).els.length < 1000000) : inR_t0_V0 l p = true ∧ inR_t0_V1 l p = l.any (fun q => decide (rowT q.els p = 0)) := by
  have h := loop_any (stp := inR_t0_L0 (l, p)) l.length (fun k => decide (rowT (l.getD k .nul).els p = 0)) (fun k hk _ => by
    have hc := cmpR_is (l.getD k .nul).els p (hq k hk)
    have he : eqpR_t0_V0 (l.getD k .nul).els p = decide (rowT (l.getD k .nul).els p = 0) := by unfold eqpR_t0_V0; rw [hc.2]
    simp only [inR_t0_L0, inR_t0_L0_stp, nrun_br, nrun_more, nrun_done, nrun_fail, lt_cast hk, ge0, wrap1 (show k < 1000000 by omega), Int.toNat_natCast, Bool.and_true, if_true, hc.1, he]) (by
    simp only [inR_t0_L0, inR_t0_L0_stp, nrun_br, nrun_more, nrun_done, nrun_fail, lt_self, ge0]; rfl)
  unfold inR_t0_V0 inR_t0_V1
  rcases h with ⟨k, h1, h2, h3⟩ | ⟨h1, h3⟩
  · rw [loopOk_of h3, loopV_of h3]
    refine ⟨rfl, ?_⟩
    symm
    show l.any _ = true
    rw [List.any_eq_true]
    exact ⟨l.getD k .nul, by rw [getD_at h1]; exact List.getElem_mem h1, h2⟩
  · rw [loopOk_of h3, loopV_of h3]
    refine ⟨rfl, ?_⟩
    symm
    show l.any _ = false
    rw [List.any_eq_false]
    intro q hq'
    obtain ⟨k, hk, rfl⟩ := List.getElem_of_mem hq'
    have := h1 k hk
    rw [getD_at hk] at this
    simp only [this, Bool.false_eq_true, not_false_eq_true]
theorem rowT_zero : ∀ a b : List D, rowT a b = 0 ↔ a.map D.asStr = b.map D.asStr
  | [], [] => by simp [rowT]
  | [], _ :: _ => by simp [rowT]
  | _ :: _, [] => by simp [rowT]
  | x :: a, y :: b => by
    rw [rowT, List.map_cons, List.map_cons, List.cons.injEq, ← rowT_zero a b, ← c3_zero]
    unfold or2
    constructor
    · intro h
      by_cases h1 : c3 x.asStr y.asStr = 0
      · rw [if_neg (by simp [h1])] at h
        exact ⟨h1, h⟩
      · rw [if_pos h1] at h
        exact absurd h h1
    · rintro ⟨h1, h2⟩
      rw [if_neg (by simp [h1])]
      exact h2
/-- The ways that are known, as texts. -/
def txtW (t : List UInt8) : List (List (List UInt8)) := (lookX ways9 t).map fun q => q.els.map D.asStr
def chkW (t : List UInt8) : Bool := sameB (waysN w_star 4 t) (txtW t) && ((txtW t).all (fun q => !q.isEmpty && Nat.ble q.length 4) && ((lookX ways9 t).all (fun q => shortL q.els) && (shortL (lookX ways9 t) && nameX ways9 t)))
theorem star_U : ColsU w_star := by
  have h : (w_star.all fun t => (t.fld 1).els.all fun c => eqD4 (colAt (t.fld 1).els (c.fld 0).asStr) c) = true := by kernel_rfl
  intro t ht c hc
  exact eqD4_eq _ _ (List.all_eq_true.1 (List.all_eq_true.1 h t ht) c hc)
theorem star_ok : w_star.length < 1000000 ∧ ∀ t ∈ w_star, OkT t := wB_ok (by kernel_rfl)
theorem star_in (t : List UInt8) (hc : chkW t = true) (p : List D) : ((lookX ways9 t).any fun q => decide (rowT q.els p = 0)) = decide ((colW w_star t p).2.2 = 0) := by
  unfold chkW at hc
  simp only [Bool.and_eq_true] at hc
  obtain ⟨h1, h2, _⟩ := hc
  have hm : ((lookX ways9 t).any fun q => decide (rowT q.els p = 0)) = true ↔ p.map D.asStr ∈ txtW t := by
    rw [List.any_eq_true]
    unfold txtW
    rw [List.mem_map]
    constructor
    · rintro ⟨q, hq, h⟩
      exact ⟨q, hq, (rowT_zero _ _).1 (of_decide_eq_true h)⟩
    · rintro ⟨q, hq, h⟩
      exact ⟨q, hq, decide_eq_true ((rowT_zero _ _).2 h)⟩
  have hk : (colW w_star t p).2.2 = 0 ↔ p.map D.asStr ∈ txtW t := by
    unfold colW
    by_cases k0 : p.length = 0
    · rw [decide_eq_true k0]
      constructor
      · intro h; have h : (5 : Int) = 0 := h; omega
      · intro h
        have := List.all_eq_true.1 h2 _ h
        have hp : p = [] := List.length_eq_zero_iff.1 k0
        subst hp
        simp at this
    · rw [decide_eq_false k0]
      by_cases k1 : 4 < p.length
      · rw [decide_eq_true k1]
        constructor
        · intro h; have h : (5 : Int) = 0 := h; omega
        · intro h
          have := List.all_eq_true.1 h2 _ h
          simp only [Bool.and_eq_true, Nat.ble_eq, List.length_map] at this
          omega
      · rw [decide_eq_false k1]
        show (walkW w_star t p).2.2 = 0 ↔ _
        rw [walk_ways w_star star_U p 4 t (fun e => k0 (by rw [e]; rfl)) (by omega)]
        exact sameB_iff h1 _
  rw [Bool.eq_iff_iff, hm, decide_eq_true_iff, hk]
def nmT : List (List UInt8) := [[(115 : UInt8), (97 : UInt8), (108 : UInt8), (101 : UInt8)], [(115 : UInt8), (104 : UInt8), (111 : UInt8), (112 : UInt8)], [(100 : UInt8), (97 : UInt8), (121 : UInt8)], [(108 : UInt8), (97 : UInt8), (110 : UInt8), (100 : UInt8)]]
def jjT (i : Int) : Int := (IntKind.i64.wrap (i.tmod (4 : Int) + (4 : Int))).tmod (4 : Int)
/-- Which table is asked. -/
def ttT (i : Int) : List UInt8 := nmT.getD ((0 : Nat) + (jjT i).toNat * (1 : Nat)) []
theorem jjT_cases (i : Int) : jjT i = 0 ∨ jjT i = 1 ∨ jjT i = 2 ∨ jjT i = 3 := by
  have h1 : Int.tmod i 4 = -3 ∨ Int.tmod i 4 = -2 ∨ Int.tmod i 4 = -1 ∨ Int.tmod i 4 = 0 ∨ Int.tmod i 4 = 1 ∨ Int.tmod i 4 = 2 ∨ Int.tmod i 4 = 3 := by
    have a1 := Int.tmod_lt_of_pos i (show (0 : Int) < 4 by decide)
    have a2 : -4 < Int.tmod i 4 := by
      rcases Int.le_total 0 i with h | h
      · have := Int.tmod_nonneg 4 h; omega
      · have := Int.tmod_lt_of_pos (-i) (show (0 : Int) < 4 by decide)
        rw [Int.neg_tmod] at this; omega
    omega
  unfold jjT
  rcases h1 with h | h | h | h | h | h | h <;> rw [h] <;> decide
theorem ttT_ok (i : Int) : chkW (ttT i) = true ∧ decide ((0 : Int) ≤ jjT i) = true ∧ decide (jjT i < (4 : Int)) = true ∧ decide ((0 : Nat) + (jjT i).toNat * (1 : Nat) < (4 : Nat)) = true := by
  unfold ttT
  rcases jjT_cases i with h | h | h | h <;> rw [h] <;> exact ⟨by kernel_rfl, by decide, by decide, by decide⟩
theorem star_V0 (l0 : List D) (i : Int) : pathStar_t0_V0 l0 i = (pathX_t0_V0 l0 && (decide ((0 : Int) ≤ jjT i) && decide (jjT i < (4 : Int)) && (decide ((0 : Nat) + (jjT i).toNat * (1 : Nat) < (4 : Nat)) && (pcolP_t0_V0 (4 : Nat) w_star (ttT i) (pathX_t0_V1 l0) && (rcolR_t0_V0 w_star (ttT i) (pathX_t0_V1 l0) && (nameX ways9 (ttT i) && (inR_t0_V0 (lookX ways9 (ttT i)) (pathX_t0_V1 l0) && bif decide (pcolP_t0_V6 (4 : Nat) w_star (ttT i) (pathX_t0_V1 l0) = rcolR_t0_V6 w_star (ttT i) (pathX_t0_V1 l0)) then bif eqBytes (pcolP_t0_V5 (4 : Nat) w_star (ttT i) (pathX_t0_V1 l0)) (rcolR_t0_V5 w_star (ttT i) (pathX_t0_V1 l0)) then bif eqBytes (pcolP_t0_V1 (4 : Nat) w_star (ttT i) (pathX_t0_V1 l0)) (rcolR_t0_V1 w_star (ttT i) (pathX_t0_V1 l0)) then true else true else true else true))))))) := by kernel_rfl
theorem star_V1 (l0 : List D) (i : Int) : pathStar_t0_V1 l0 i = (bif decide (pcolP_t0_V6 (4 : Nat) w_star (ttT i) (pathX_t0_V1 l0) = rcolR_t0_V6 w_star (ttT i) (pathX_t0_V1 l0)) then bif eqBytes (pcolP_t0_V5 (4 : Nat) w_star (ttT i) (pathX_t0_V1 l0)) (rcolR_t0_V5 w_star (ttT i) (pathX_t0_V1 l0)) then bif eqBytes (pcolP_t0_V1 (4 : Nat) w_star (ttT i) (pathX_t0_V1 l0)) (rcolR_t0_V1 w_star (ttT i) (pathX_t0_V1 l0)) then inR_t0_V1 (lookX ways9 (ttT i)) (pathX_t0_V1 l0) == decide (pcolP_t0_V6 (4 : Nat) w_star (ttT i) (pathX_t0_V1 l0) = (0 : Int)) else false else false else false) := by kernel_rfl
theorem pathStar_is (l : List D) (i : Int) : pathStar_t0_V0 l i = true ∧ pathStar_t0_V1 l i = true := by
  obtain ⟨t0, t1, t2, t3⟩ := ttT_ok i
  have hin := star_in (ttT i) t0
  have hc := t0
  unfold chkW at hc
  simp only [Bool.and_eq_true] at hc
  obtain ⟨_, _, h3, h4, h5⟩ := hc
  have hp := pathX_is l
  have e4 : w_star.length = 4 := by kernel_rfl
  obtain ⟨c0, c1, c2, c3', c4, c5, c6⟩ := pcolP_is w_star star_ok.1 star_ok.2 (ttT i) (pathD l)
  obtain ⟨r0, r1, r2, r3, r4, r5, r6⟩ := rcolR_is w_star star_ok.1 star_ok.2 (ttT i) (pathD l)
  rw [e4] at c0 c1 c5 c6
  have hn := inR_is (lookX ways9 (ttT i)) (pathD l) (shortL_lt h4) (fun k hk => shortL_lt (all_getD h3 hk))
  rw [star_V0, star_V1]
  simp only [hp.1, hp.2, t1, t2, t3, c0, c1, c5, c6, r0, r1, r5, r6, h5, hn.1, hn.2, hin, eqBytes_refl, decide_true, cond_true, Bool.true_and, Bool.and_true, Bool.and_self, beq_self_eq_true, and_self]
theorem pathStar_run (l : List D) (i : Int) : (pathStar.f [.fz false .str l, .int .i64 i] []).run = some (.bool true, [], []) := by
  have h := pathStar_is l i
  have hb : (Sh.beq .str .str && true) = true := by kernel_rfl
  show RT.run (.br (Sh.beq .str .str && true) (pathStar_t0 l i) .fail) = _
  rw [hb]
  unfold pathStar_t0
  rw [h.1, h.2]
  rfl
theorem pathStar_comes (l : List D) (i : Int) : Sy.Comes Try.prog 6 [.fz false .str l, .int .i64 i] [] (.bool true) [] :=
  ⟨pathStar_ok.len _ _ _ _ _ (pathStar_run l i), pathStar_ok.calls _ _ _ _ _ (pathStar_run l i)⟩
end Go.Proofs.Ytekedhfmdpbplaa
