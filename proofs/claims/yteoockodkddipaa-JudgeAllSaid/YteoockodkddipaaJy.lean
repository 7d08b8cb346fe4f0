/- Walks: rows in order; begun of the statements on answers. -/
import Derived.Test.YteoockodkddipaaJx
import Derived.Test.YteoockodkddipaaSySelf
import Derived.KernelRfl
set_option linter.unusedSimpArgs false
set_option linter.unusedVariables false
set_option maxRecDepth 100000
namespace Go.Proofs.Yteoockodkddipaa
open Go Go.Sy
attribute [local irreducible] bodyK roundK cutK
def shCond : Sh := .struct [.slice .str, .int .i64, shV]
def shAgg : Sh := .struct [.int .i64, .slice .str]
def shHave : Sh := .struct [.int .i64, .int .i64, shV]
def shOrd : Sh := .struct [.int .i64, .bool]
def shRow : Sh := .struct [.int .i64, .slice shV]
noncomputable def pr_aaJy1 : FuncId → Option Sy.Spec := addP 40 ecmpP noP
theorem pr_aaJy1_k : PrOk Try.prog pr_aaJy1 := prOk_add ecmpP_ok prOk_none
noncomputable def ord1P_t0r (f : List UInt8) (w : List D) (m : Int) (b s v o : List D) (k : Int) (u : List UInt8) (i : Int) (p : List D) (j : Int) (q : List D) : RT :=
  RT.br (ecmpP_t0_V0 f w m b s v o k u i p j q)
    (okL (AV.int IntKind.i64 (ecmpP_t0_V1 f w m b s v o k u i p j q)) ([Ent.cells [AV.str f, AV.fz false (Sh.struct [Sh.str.slice, Sh.int IntKind.i64, Sh.struct [Sh.int IntKind.i64, Sh.int IntKind.i64, Sh.str]]) w, AV.int IntKind.i64 m, AV.fz false Sh.str.slice b, AV.fz false (Sh.struct [Sh.int IntKind.i64, Sh.str.slice]) s, AV.fz false (Sh.struct [Sh.int IntKind.i64, Sh.int IntKind.i64, Sh.struct [Sh.int IntKind.i64, Sh.int IntKind.i64, Sh.str]]) v, AV.fz false (Sh.struct [Sh.int IntKind.i64, Sh.bool]) o, AV.int IntKind.i64 k, AV.str u]]))
    (RT.fail)
theorem ord1P_t0r_b (f : List UInt8) (w : List D) (m : Int) (b s v o : List D) (k : Int) (u : List UInt8) (i : Int) (p : List D) (j : Int) (q : List D) (K : AV → St → Prop) : bodyK Try.prog pr_aaJy1 noL 100 39 [] [.agg [.int .i64 i, .fz false shV p], .agg [.int .i64 j, .fz false shV q], .ptr (some (0, 0))] [.cells [.str f, .fz false shCond w, .int .i64 m, .fz false (.slice .str) b, .fz false shAgg s, .fz false shHave v, .fz false shOrd o, .int .i64 k, .str u]] K = RT.K (fun v s _ => K v s) (ord1P_t0r f w m b s v o k u i p j q) := by kernel_rfl
noncomputable def ord1P_t0_V0 (f : List UInt8) (w : List D) (m : Int) (b s v o : List D) (k : Int) (u : List UInt8) (i : Int) (p : List D) (j : Int) (q : List D) : Bool :=
  ecmpP_t0_V0 f w m b s v o k u i p j q && true
noncomputable def ord1P_t0 (f : List UInt8) (w : List D) (m : Int) (b s v o : List D) (k : Int) (u : List UInt8) (i : Int) (p : List D) (j : Int) (q : List D) : RT :=
  RT.br (ord1P_t0_V0 f w m b s v o k u i p j q)
    (okL (Go.Sy.AV.int (IntKind.i64) (ecmpP_t0_V1 f w m b s v o k u i p j q)) [(Go.Sy.Ent.cells [(Go.Sy.AV.str f), (Go.Sy.AV.fz (false) (Sh.struct [Sh.str.slice, Sh.int IntKind.i64, Sh.struct [Sh.int IntKind.i64, Sh.int IntKind.i64, Sh.str]]) w), (Go.Sy.AV.int (IntKind.i64) m), (Go.Sy.AV.fz (false) (Sh.str.slice) b), (Go.Sy.AV.fz (false) (Sh.struct [Sh.int IntKind.i64, Sh.str.slice]) s), (Go.Sy.AV.fz (false) (Sh.struct [Sh.int IntKind.i64, Sh.int IntKind.i64, Sh.struct [Sh.int IntKind.i64, Sh.int IntKind.i64, Sh.str]]) v), (Go.Sy.AV.fz (false) (Sh.struct [Sh.int IntKind.i64, Sh.bool]) o), (Go.Sy.AV.int (IntKind.i64) k), (Go.Sy.AV.str u)])])
    (RT.fail)
theorem ord1P_t0_m (f : List UInt8) (w : List D) (m : Int) (b s v o : List D) (k : Int) (u : List UInt8) (i : Int) (p : List D) (j : Int) (q : List D) (K : AV → St → Prop) : RT.K (fun v s _ => K v s) (RT.mergeW ([Ent.cells [AV.str f, AV.fz false (Sh.struct [Sh.str.slice, Sh.int IntKind.i64, Sh.struct [Sh.int IntKind.i64, Sh.int IntKind.i64, Sh.str]]) w, AV.int IntKind.i64 m, AV.fz false Sh.str.slice b, AV.fz false (Sh.struct [Sh.int IntKind.i64, Sh.str.slice]) s, AV.fz false (Sh.struct [Sh.int IntKind.i64, Sh.int IntKind.i64, Sh.struct [Sh.int IntKind.i64, Sh.int IntKind.i64, Sh.str]]) v, AV.fz false (Sh.struct [Sh.int IntKind.i64, Sh.bool]) o, AV.int IntKind.i64 k, AV.str u]]) (ord1P_t0r f w m b s v o k u i p j q)) = RT.K (fun v s _ => K v s) (ord1P_t0 f w m b s v o k u i p j q) := by kernel_rfl
theorem ord1P_t0_b (f : List UInt8) (w : List D) (m : Int) (b s v o : List D) (k : Int) (u : List UInt8) (i : Int) (p : List D) (j : Int) (q : List D) (K : AV → St → Prop) (h : RT.K (fun v s _ => K v s) (ord1P_t0 f w m b s v o k u i p j q)) : bodyK Try.prog pr_aaJy1 noL 100 39 [] [.agg [.int .i64 i, .fz false shV p], .agg [.int .i64 j, .fz false shV q], .ptr (some (0, 0))] [.cells [.str f, .fz false shCond w, .int .i64 m, .fz false (.slice .str) b, .fz false shAgg s, .fz false shHave v, .fz false shOrd o, .int .i64 k, .str u]] K := Eq.mpr (ord1P_t0r_b ..) (mergeW_K (S := [Ent.cells [AV.str f, AV.fz false (Sh.struct [Sh.str.slice, Sh.int IntKind.i64, Sh.struct [Sh.int IntKind.i64, Sh.int IntKind.i64, Sh.str]]) w, AV.int IntKind.i64 m, AV.fz false Sh.str.slice b, AV.fz false (Sh.struct [Sh.int IntKind.i64, Sh.str.slice]) s, AV.fz false (Sh.struct [Sh.int IntKind.i64, Sh.int IntKind.i64, Sh.struct [Sh.int IntKind.i64, Sh.int IntKind.i64, Sh.str]]) v, AV.fz false (Sh.struct [Sh.int IntKind.i64, Sh.bool]) o, AV.int IntKind.i64 k, AV.str u]]) _ ⟨rfl, trivial⟩ (Eq.mpr (ord1P_t0_m ..) h))
theorem ord1P_t0_lp (hpr : PrOk Try.prog pr_aaJy1) : LoopsFor Try.prog 39 1 noL := loops_none
noncomputable def ord1P : Sy.Spec := ⟨[], fun args s => match args, s with
  | [(.agg [(.int .i64 i), (.fz false e_0 p)]), (.agg [(.int .i64 j), (.fz false e_1 q)]), (.ptr (.some (e_2, e_3)))], [(.cells [(.str f), (.fz false e_4 w), (.int .i64 m), (.fz false e_5 b), (.fz false e_6 s), (.fz false e_7 v), (.fz false e_8 o), (.int .i64 k), (.str u)])] => .br (Sh.beq e_0 shV && (Sh.beq e_1 shV && (Nat.beq e_2 (0 : Nat) && (Nat.beq e_3 (0 : Nat) && (Sh.beq e_4 (Sh.struct [Sh.str.slice, Sh.int IntKind.i64, Sh.struct [Sh.int IntKind.i64, Sh.int IntKind.i64, Sh.str]]) && (Sh.beq e_5 (Sh.str.slice) && (Sh.beq e_6 (Sh.struct [Sh.int IntKind.i64, Sh.str.slice]) && (Sh.beq e_7 (Sh.struct [Sh.int IntKind.i64, Sh.int IntKind.i64, Sh.struct [Sh.int IntKind.i64, Sh.int IntKind.i64, Sh.str]]) && (Sh.beq e_8 (Sh.struct [Sh.int IntKind.i64, Sh.bool]) && (true)))))))))) (ord1P_t0 f w m b s v o k u i p j q) .fail
  | _, _ => .fail⟩
theorem ord1P_ok : SpecOk Try.prog 39 ord1P.f := specOk_comes fun args s v s' tch e => by
  simp only [ord1P] at e
  split at e
  · obtain ⟨hg, e⟩ := if_run e
    simp only [Bool.and_eq_true] at hg
    obtain ⟨h_0, h_1, h_2, h_3, h_4, h_5, h_6, h_7, h_8, _⟩ := hg
    obtain rfl := Sh.beq_eq _ _ h_0
    obtain rfl := Sh.beq_eq _ _ h_1
    obtain rfl := Nat.eq_of_beq_eq_true h_2
    obtain rfl := Nat.eq_of_beq_eq_true h_3
    obtain rfl := Sh.beq_eq _ _ h_4
    obtain rfl := Sh.beq_eq _ _ h_5
    obtain rfl := Sh.beq_eq _ _ h_6
    obtain rfl := Sh.beq_eq _ _ h_7
    obtain rfl := Sh.beq_eq _ _ h_8
    refine comes_of ok pr_aaJy1_k (L := 100) (ms := []) (by kernel_rfl) (ord1P_t0_lp pr_aaJy1_k) ?_
    exact ord1P_t0_b (h := K_run e) ..
  · cases e
noncomputable def ord1P_pr : FuncId → Option Sy.Spec := addP 39 ord1P pr_aaJy1
theorem ord1P_pr_k : PrOk Try.prog ord1P_pr := prOk_add ord1P_ok pr_aaJy1_k
noncomputable def isfP_t0_L0_T (l0 : List D) (c2 : List UInt8) (l3 : List D) (i4 : Int) (l5 : List D) (l6 : List D) (l7 : List D) (l8 : List D) (i9 : Int) (c10 : List UInt8) (i1 : Int) : List AV := ([AV.fz false (Sh.struct [Sh.int IntKind.i64, shV.slice]) l0, AV.fn (Fn.func (39 : Nat)) [] [AV.ptr (some ((0 : Nat), (0 : Nat)))], .any, .any, .any, AV.int IntKind.i64 i1] ++ padAny 19)
noncomputable def isfP_t0_L0_S (l0 : List D) (c2 : List UInt8) (l3 : List D) (i4 : Int) (l5 : List D) (l6 : List D) (l7 : List D) (l8 : List D) (i9 : Int) (c10 : List UInt8) (i1 : Int) : St := [Ent.cells [AV.str c2, AV.fz false (Sh.struct [Sh.str.slice, Sh.int IntKind.i64, Sh.struct [Sh.int IntKind.i64, Sh.int IntKind.i64, Sh.str]]) l3, AV.int IntKind.i64 i4, AV.fz false Sh.str.slice l5, AV.fz false (Sh.struct [Sh.int IntKind.i64, Sh.str.slice]) l6, AV.fz false (Sh.struct [Sh.int IntKind.i64, Sh.int IntKind.i64, Sh.struct [Sh.int IntKind.i64, Sh.int IntKind.i64, Sh.str]]) l7, AV.fz false (Sh.struct [Sh.int IntKind.i64, Sh.bool]) l8, AV.int IntKind.i64 i9, AV.str c10]]
noncomputable def isfP_t0_L0_of : List AV → St → Option (((List D) × (List UInt8) × (List D) × Int × (List D) × (List D) × (List D) × (List D) × Int × (List UInt8)) × (Int)) := fun t s => match t, s with
  | (.fz false e_0 l0) :: (.fn (.func e_1) [] [(.ptr (.some (e_2, e_3)))]) :: .any :: .any :: .any :: (.int .i64 i1) :: t_0, [(.cells [(.str c2), (.fz false e_4 l3), (.int .i64 i4), (.fz false e_5 l5), (.fz false e_6 l6), (.fz false e_7 l7), (.fz false e_8 l8), (.int .i64 i9), (.str c10)])] => (match dropAny 19 t_0 with
    | some ([]) => (match Sh.beq e_0 (Sh.struct [Sh.int IntKind.i64, shV.slice]) && (Nat.beq e_1 (39 : Nat) && (Nat.beq e_2 (0 : Nat) && (Nat.beq e_3 (0 : Nat) && (Sh.beq e_4 (Sh.struct [Sh.str.slice, Sh.int IntKind.i64, Sh.struct [Sh.int IntKind.i64, Sh.int IntKind.i64, Sh.str]]) && (Sh.beq e_5 (Sh.str.slice) && (Sh.beq e_6 (Sh.struct [Sh.int IntKind.i64, Sh.str.slice]) && (Sh.beq e_7 (Sh.struct [Sh.int IntKind.i64, Sh.int IntKind.i64, Sh.struct [Sh.int IntKind.i64, Sh.int IntKind.i64, Sh.str]]) && (Sh.beq e_8 (Sh.struct [Sh.int IntKind.i64, Sh.bool]) && (true))))))))) with | true => some ((l0, c2, l3, i4, l5, l6, l7, l8, i9, c10), (i1)) | false => none)
    | _ => none)
  | _, _ => none
noncomputable def isfP_t0_L0_ex (i : (List D) × (List UInt8) × (List D) × Int × (List D) × (List D) × (List D) × (List D) × Int × (List UInt8)) (y : Nat) (k : KS) : Prop := let l0 := i.1; let c2 := i.2.1; let l3 := i.2.2.1; let i4 := i.2.2.2.1; let l5 := i.2.2.2.2.1; let l6 := i.2.2.2.2.2.1; let l7 := i.2.2.2.2.2.2.1; let l8 := i.2.2.2.2.2.2.2.1; let i9 := i.2.2.2.2.2.2.2.2.1; let c10 := i.2.2.2.2.2.2.2.2.2; let tag := y; br (Nat.beq tag 0) (k (Ex.ret) ([.any, .any, .any, .any, AV.bool false] ++ padAny 20) [Ent.cells [AV.str c2, AV.fz false (Sh.struct [Sh.str.slice, Sh.int IntKind.i64, Sh.struct [Sh.int IntKind.i64, Sh.int IntKind.i64, Sh.str]]) l3, AV.int IntKind.i64 i4, AV.fz false Sh.str.slice l5, AV.fz false (Sh.struct [Sh.int IntKind.i64, Sh.str.slice]) l6, AV.fz false (Sh.struct [Sh.int IntKind.i64, Sh.int IntKind.i64, Sh.struct [Sh.int IntKind.i64, Sh.int IntKind.i64, Sh.str]]) l7, AV.fz false (Sh.struct [Sh.int IntKind.i64, Sh.bool]) l8, AV.int IntKind.i64 i9, AV.str c10]]) (br (Nat.beq tag 1) (k (Ex.normal) ([.any] ++ padAny 24) [Ent.cells [AV.str c2, AV.fz false (Sh.struct [Sh.str.slice, Sh.int IntKind.i64, Sh.struct [Sh.int IntKind.i64, Sh.int IntKind.i64, Sh.str]]) l3, AV.int IntKind.i64 i4, AV.fz false Sh.str.slice l5, AV.fz false (Sh.struct [Sh.int IntKind.i64, Sh.str.slice]) l6, AV.fz false (Sh.struct [Sh.int IntKind.i64, Sh.int IntKind.i64, Sh.struct [Sh.int IntKind.i64, Sh.int IntKind.i64, Sh.str]]) l7, AV.fz false (Sh.struct [Sh.int IntKind.i64, Sh.bool]) l8, AV.int IntKind.i64 i9, AV.str c10]]) (False))
theorem isfP_t0_L0_of_ok : ∀ t s (i : (List D) × (List UInt8) × (List D) × Int × (List D) × (List D) × (List D) × (List D) × Int × (List UInt8)) (x : Int), isfP_t0_L0_of t s = some (i, x) → t = isfP_t0_L0_T i.1 i.2.1 i.2.2.1 i.2.2.2.1 i.2.2.2.2.1 i.2.2.2.2.2.1 i.2.2.2.2.2.2.1 i.2.2.2.2.2.2.2.1 i.2.2.2.2.2.2.2.2.1 i.2.2.2.2.2.2.2.2.2 x ∧ s = isfP_t0_L0_S i.1 i.2.1 i.2.2.1 i.2.2.2.1 i.2.2.2.2.1 i.2.2.2.2.2.1 i.2.2.2.2.2.2.1 i.2.2.2.2.2.2.2.1 i.2.2.2.2.2.2.2.2.1 i.2.2.2.2.2.2.2.2.2 x := by
  intro t s i x h
  unfold isfP_t0_L0_of at h
  split at h
  · split at h
    · rename_i ha
      obtain rfl := dropAny_eq ha
      split at h
      · rename_i hg
        cases h
        simp only [Bool.and_eq_true] at hg
        obtain ⟨h_0, h_1, h_2, h_3, h_4, h_5, h_6, h_7, h_8, _⟩ := hg
        obtain rfl := Sh.beq_eq _ _ h_0
        obtain rfl := Nat.eq_of_beq_eq_true h_1
        obtain rfl := Nat.eq_of_beq_eq_true h_2
        obtain rfl := Nat.eq_of_beq_eq_true h_3
        obtain rfl := Sh.beq_eq _ _ h_4
        obtain rfl := Sh.beq_eq _ _ h_5
        obtain rfl := Sh.beq_eq _ _ h_6
        obtain rfl := Sh.beq_eq _ _ h_7
        obtain rfl := Sh.beq_eq _ _ h_8
        exact ⟨rfl, rfl⟩
      · cases h
    · cases h
  · cases h
noncomputable def isfP_t0_L0_stp (l0 : List D) (c2 : List UInt8) (l3 : List D) (i4 : Int) (l5 : List D) (l6 : List D) (l7 : List D) (l8 : List D) (i9 : Int) (c10 : List UInt8) (i1 : Int) : NT (Int) (Nat) :=
  NT.br (decide (i1 > (0 : Int)))
    (NT.br (decide ((0 : Int) ≤ i1) && decide (i1 < (↑l0.length : Int)))
     (NT.br (decide ((0 : Int) ≤ IntKind.i64.wrap (i1 - (1 : Int))) && decide (IntKind.i64.wrap (i1 - (1 : Int)) < (↑l0.length : Int)))
      (NT.br (ord1P_t0_V0 c2 l3 i4 l5 l6 l7 l8 i9 c10 ((l0.getD i1.toNat D.nul).fld (0 : Nat)).asInt ((l0.getD i1.toNat D.nul).fld (1 : Nat)).els ((l0.getD (IntKind.i64.wrap (i1 - (1 : Int))).toNat D.nul).fld (0 : Nat)).asInt ((l0.getD (IntKind.i64.wrap (i1 - (1 : Int))).toNat D.nul).fld (1 : Nat)).els)
       (NT.br (decide (ecmpP_t0_V1 c2 l3 i4 l5 l6 l7 l8 i9 c10 ((l0.getD i1.toNat D.nul).fld (0 : Nat)).asInt ((l0.getD i1.toNat D.nul).fld (1 : Nat)).els ((l0.getD (IntKind.i64.wrap (i1 - (1 : Int))).toNat D.nul).fld (0 : Nat)).asInt ((l0.getD (IntKind.i64.wrap (i1 - (1 : Int))).toNat D.nul).fld (1 : Nat)).els < (0 : Int)))
        (NT.done (0))
        (NT.more (IntKind.i64.wrap (i1 - (1 : Int)))))
       (NT.fail))
      (NT.fail))
     (NT.fail))
    (NT.done (1))
noncomputable def isfP_t0_L0 (i : (List D) × (List UInt8) × (List D) × Int × (List D) × (List D) × (List D) × (List D) × Int × (List UInt8)) (x : Int) := isfP_t0_L0_stp i.1 i.2.1 i.2.2.1 i.2.2.2.1 i.2.2.2.2.1 i.2.2.2.2.2.1 i.2.2.2.2.2.2.1 i.2.2.2.2.2.2.2.1 i.2.2.2.2.2.2.2.2.1 i.2.2.2.2.2.2.2.2.2 x
theorem isfP_t0_L0_rd (l0 : List D) (c2 : List UInt8) (l3 : List D) (i4 : Int) (l5 : List D) (l6 : List D) (l7 : List D) (l8 : List D) (i9 : Int) (c10 : List UInt8) (i1 : Int) (more : List AV → St → Prop) (kk : KS) : roundK Try.prog ord1P_pr noL 100 38 0 (isfP_t0_L0_T l0 c2 l3 i4 l5 l6 l7 l8 i9 c10 i1) (isfP_t0_L0_S l0 c2 l3 i4 l5 l6 l7 l8 i9 c10 i1) (againK 1 0 [.yes, .yes, .no, .no, .no, .yes] [.no, .no, .no, .no, .yes] more kk) = (isfP_t0_L0_stp l0 c2 l3 i4 l5 l6 l7 l8 i9 c10 i1).K (fun x' => more (isfP_t0_L0_T l0 c2 l3 i4 l5 l6 l7 l8 i9 c10 x') (isfP_t0_L0_S l0 c2 l3 i4 l5 l6 l7 l8 i9 c10 x')) (fun y => isfP_t0_L0_ex (l0, c2, l3, i4, l5, l6, l7, l8, i9, c10) y kk) := by kernel_rfl
noncomputable def isfP_t0_L0_LP : Nat → Option LoopS := addL 0 (headG 1 [.yes, .yes, .no, .no, .no, .yes] (outL isfP_t0_L0 isfP_t0_L0_of isfP_t0_L0_ex)) noL
theorem isfP_t0_L0_lp (hpr : PrOk Try.prog ord1P_pr) : LoopsFor Try.prog 38 1 isfP_t0_L0_LP := loops_lp (L := 100) (T := fun i x => isfP_t0_L0_T i.1 i.2.1 i.2.2.1 i.2.2.2.1 i.2.2.2.2.1 i.2.2.2.2.2.1 i.2.2.2.2.2.2.1 i.2.2.2.2.2.2.2.1 i.2.2.2.2.2.2.2.2.1 i.2.2.2.2.2.2.2.2.2 x) (S := fun i x => isfP_t0_L0_S i.1 i.2.1 i.2.2.1 i.2.2.2.1 i.2.2.2.2.1 i.2.2.2.2.2.1 i.2.2.2.2.2.2.1 i.2.2.2.2.2.2.2.1 i.2.2.2.2.2.2.2.2.1 i.2.2.2.2.2.2.2.2.2 x) ok hpr (by kernel_rfl) loops_none isfP_t0_L0_of_ok (fun i x more kk => isfP_t0_L0_rd i.1 i.2.1 i.2.2.1 i.2.2.2.1 i.2.2.2.2.1 i.2.2.2.2.2.1 i.2.2.2.2.2.2.1 i.2.2.2.2.2.2.2.1 i.2.2.2.2.2.2.2.2.1 i.2.2.2.2.2.2.2.2.2 x more kk)
noncomputable def isfP_t0r (f : List UInt8) (w : List D) (m : Int) (b s v o : List D) (k : Int) (u : List UInt8) (l : List D) : RT :=
  RT.br (loopOk (isfP_t0_L0 (l, f, w, m, b, s, v, o, k, u)) (IntKind.i64.wrap ((↑l.length : Int) - (1 : Int))))
    (RT.br ((loopV (isfP_t0_L0 (l, f, w, m, b, s, v, o, k, u)) (IntKind.i64.wrap ((↑l.length : Int) - (1 : Int)))).beq (0 : Nat))
     (okL (AV.bool false) ([Ent.cells [AV.str f, AV.fz false (Sh.struct [Sh.str.slice, Sh.int IntKind.i64, Sh.struct [Sh.int IntKind.i64, Sh.int IntKind.i64, Sh.str]]) w, AV.int IntKind.i64 m, AV.fz false Sh.str.slice b, AV.fz false (Sh.struct [Sh.int IntKind.i64, Sh.str.slice]) s, AV.fz false (Sh.struct [Sh.int IntKind.i64, Sh.int IntKind.i64, Sh.struct [Sh.int IntKind.i64, Sh.int IntKind.i64, Sh.str]]) v, AV.fz false (Sh.struct [Sh.int IntKind.i64, Sh.bool]) o, AV.int IntKind.i64 k, AV.str u]]))
     (RT.br ((loopV (isfP_t0_L0 (l, f, w, m, b, s, v, o, k, u)) (IntKind.i64.wrap ((↑l.length : Int) - (1 : Int)))).beq (1 : Nat))
      (okL (AV.bool true) ([Ent.cells [AV.str f, AV.fz false (Sh.struct [Sh.str.slice, Sh.int IntKind.i64, Sh.struct [Sh.int IntKind.i64, Sh.int IntKind.i64, Sh.str]]) w, AV.int IntKind.i64 m, AV.fz false Sh.str.slice b, AV.fz false (Sh.struct [Sh.int IntKind.i64, Sh.str.slice]) s, AV.fz false (Sh.struct [Sh.int IntKind.i64, Sh.int IntKind.i64, Sh.struct [Sh.int IntKind.i64, Sh.int IntKind.i64, Sh.str]]) v, AV.fz false (Sh.struct [Sh.int IntKind.i64, Sh.bool]) o, AV.int IntKind.i64 k, AV.str u]]))
      (RT.fail)))
    (RT.fail)
theorem isfP_t0r_b (f : List UInt8) (w : List D) (m : Int) (b s v o : List D) (k : Int) (u : List UInt8) (l : List D) (K : AV → St → Prop) : bodyK Try.prog ord1P_pr isfP_t0_L0_LP 100 38 [] [.fz false shRow l, .fn (.func 39) [] [.ptr (some (0, 0))]] [.cells [.str f, .fz false shCond w, .int .i64 m, .fz false (.slice .str) b, .fz false shAgg s, .fz false shHave v, .fz false shOrd o, .int .i64 k, .str u]] K = RT.K (fun v s _ => K v s) (isfP_t0r f w m b s v o k u l) := by kernel_rfl
noncomputable def isfP_t0_V0 (f : List UInt8) (w : List D) (m : Int) (b s v o : List D) (k : Int) (u : List UInt8) (l : List D) : Bool :=
  loopOk (isfP_t0_L0 (l, f, w, m, b, s, v, o, k, u)) (IntKind.i64.wrap ((↑l.length : Int) - (1 : Int))) && bif (loopV (isfP_t0_L0 (l, f, w, m, b, s, v, o, k, u)) (IntKind.i64.wrap ((↑l.length : Int) - (1 : Int)))).beq (0 : Nat) then true else (loopV (isfP_t0_L0 (l, f, w, m, b, s, v, o, k, u)) (IntKind.i64.wrap ((↑l.length : Int) - (1 : Int)))).beq (1 : Nat) && true
noncomputable def isfP_t0_V1 (f : List UInt8) (w : List D) (m : Int) (b s v o : List D) (k : Int) (u : List UInt8) (l : List D) : Bool :=
  bif (loopV (isfP_t0_L0 (l, f, w, m, b, s, v, o, k, u)) (IntKind.i64.wrap ((↑l.length : Int) - (1 : Int)))).beq (0 : Nat) then false else true
noncomputable def isfP_t0 (f : List UInt8) (w : List D) (m : Int) (b s v o : List D) (k : Int) (u : List UInt8) (l : List D) : RT :=
  RT.br (isfP_t0_V0 f w m b s v o k u l)
    (okL (Go.Sy.AV.bool (isfP_t0_V1 f w m b s v o k u l)) [(Go.Sy.Ent.cells [(Go.Sy.AV.str f), (Go.Sy.AV.fz (false) (Sh.struct [Sh.str.slice, Sh.int IntKind.i64, Sh.struct [Sh.int IntKind.i64, Sh.int IntKind.i64, Sh.str]]) w), (Go.Sy.AV.int (IntKind.i64) m), (Go.Sy.AV.fz (false) (Sh.str.slice) b), (Go.Sy.AV.fz (false) (Sh.struct [Sh.int IntKind.i64, Sh.str.slice]) s), (Go.Sy.AV.fz (false) (Sh.struct [Sh.int IntKind.i64, Sh.int IntKind.i64, Sh.struct [Sh.int IntKind.i64, Sh.int IntKind.i64, Sh.str]]) v), (Go.Sy.AV.fz (false) (Sh.struct [Sh.int IntKind.i64, Sh.bool]) o), (Go.Sy.AV.int (IntKind.i64) k), (Go.Sy.AV.str u)])])
    (RT.fail)
theorem isfP_t0_m (f : List UInt8) (w : List D) (m : Int) (b s v o : List D) (k : Int) (u : List UInt8) (l : List D) (K : AV → St → Prop) : RT.K (fun v s _ => K v s) (RT.mergeW ([Ent.cells [AV.str f, AV.fz false (Sh.struct [Sh.str.slice, Sh.int IntKind.i64, Sh.struct [Sh.int IntKind.i64, Sh.int IntKind.i64, Sh.str]]) w, AV.int IntKind.i64 m, AV.fz false Sh.str.slice b, AV.fz false (Sh.struct [Sh.int IntKind.i64, Sh.str.slice]) s, AV.fz false (Sh.struct [Sh.int IntKind.i64, Sh.int IntKind.i64, Sh.struct [Sh.int IntKind.i64, Sh.int IntKind.i64, Sh.str]]) v, AV.fz false (Sh.struct [Sh.int IntKind.i64, Sh.bool]) o, AV.int IntKind.i64 k, AV.str u]]) (isfP_t0r f w m b s v o k u l)) = RT.K (fun v s _ => K v s) (isfP_t0 f w m b s v o k u l) := by kernel_rfl
theorem isfP_t0_b (f : List UInt8) (w : List D) (m : Int) (b s v o : List D) (k : Int) (u : List UInt8) (l : List D) (K : AV → St → Prop) (h : RT.K (fun v s _ => K v s) (isfP_t0 f w m b s v o k u l)) : bodyK Try.prog ord1P_pr isfP_t0_L0_LP 100 38 [] [.fz false shRow l, .fn (.func 39) [] [.ptr (some (0, 0))]] [.cells [.str f, .fz false shCond w, .int .i64 m, .fz false (.slice .str) b, .fz false shAgg s, .fz false shHave v, .fz false shOrd o, .int .i64 k, .str u]] K := Eq.mpr (isfP_t0r_b ..) (mergeW_K (S := [Ent.cells [AV.str f, AV.fz false (Sh.struct [Sh.str.slice, Sh.int IntKind.i64, Sh.struct [Sh.int IntKind.i64, Sh.int IntKind.i64, Sh.str]]) w, AV.int IntKind.i64 m, AV.fz false Sh.str.slice b, AV.fz false (Sh.struct [Sh.int IntKind.i64, Sh.str.slice]) s, AV.fz false (Sh.struct [Sh.int IntKind.i64, Sh.int IntKind.i64, Sh.struct [Sh.int IntKind.i64, Sh.int IntKind.i64, Sh.str]]) v, AV.fz false (Sh.struct [Sh.int IntKind.i64, Sh.bool]) o, AV.int IntKind.i64 k, AV.str u]]) _ ⟨⟨rfl, ⟨rfl, trivial⟩⟩, trivial⟩ (Eq.mpr (isfP_t0_m ..) h))
theorem isfP_t0_lp (hpr : PrOk Try.prog ord1P_pr) : LoopsFor Try.prog 38 1 isfP_t0_L0_LP := (isfP_t0_L0_lp hpr)
noncomputable def isfP : Sy.Spec := ⟨[], fun args s => match args, s with
  | [(.fz false e_0 l), (.fn (.func e_1) [] [(.ptr (.some (e_2, e_3)))])], [(.cells [(.str f), (.fz false e_4 w), (.int .i64 m), (.fz false e_5 b), (.fz false e_6 s), (.fz false e_7 v), (.fz false e_8 o), (.int .i64 k), (.str u)])] => .br (Sh.beq e_0 (Sh.struct [Sh.int IntKind.i64, shV.slice]) && (Nat.beq e_1 (39 : Nat) && (Nat.beq e_2 (0 : Nat) && (Nat.beq e_3 (0 : Nat) && (Sh.beq e_4 (Sh.struct [Sh.str.slice, Sh.int IntKind.i64, Sh.struct [Sh.int IntKind.i64, Sh.int IntKind.i64, Sh.str]]) && (Sh.beq e_5 (Sh.str.slice) && (Sh.beq e_6 (Sh.struct [Sh.int IntKind.i64, Sh.str.slice]) && (Sh.beq e_7 (Sh.struct [Sh.int IntKind.i64, Sh.int IntKind.i64, Sh.struct [Sh.int IntKind.i64, Sh.int IntKind.i64, Sh.str]]) && (Sh.beq e_8 (Sh.struct [Sh.int IntKind.i64, Sh.bool]) && (true)))))))))) (isfP_t0 f w m b s v o k u l) .fail
  | _, _ => .fail⟩
theorem isfP_ok : SpecOk Try.prog 38 isfP.f := specOk_comes fun args s v s' tch e => by
  simp only [isfP] at e
  split at e
  · obtain ⟨hg, e⟩ := if_run e
    simp only [Bool.and_eq_true] at hg
    obtain ⟨h_0, h_1, h_2, h_3, h_4, h_5, h_6, h_7, h_8, _⟩ := hg
    obtain rfl := Sh.beq_eq _ _ h_0
    obtain rfl := Nat.eq_of_beq_eq_true h_1
    obtain rfl := Nat.eq_of_beq_eq_true h_2
    obtain rfl := Nat.eq_of_beq_eq_true h_3
    obtain rfl := Sh.beq_eq _ _ h_4
    obtain rfl := Sh.beq_eq _ _ h_5
    obtain rfl := Sh.beq_eq _ _ h_6
    obtain rfl := Sh.beq_eq _ _ h_7
    obtain rfl := Sh.beq_eq _ _ h_8
    refine comes_of ok ord1P_pr_k (L := 100) (ms := []) (by kernel_rfl) (isfP_t0_lp ord1P_pr_k) ?_
    exact isfP_t0_b (h := K_run e) ..
  · cases e
noncomputable def isfP_pr : FuncId → Option Sy.Spec := addP 38 isfP ord1P_pr
theorem isfP_pr_k : PrOk Try.prog isfP_pr := prOk_add isfP_ok ord1P_pr_k
noncomputable def ordP_t0r (c0_0 : List UInt8) (l0_1 : List D) (i0_2 : Int) (l0_3 : List D) (l0_4 : List D) (l0_5 : List D) (l0_6 : List D) (i0_7 : Int) (c0_8 : List UInt8) (l1 : List D) : RT :=
  RT.br (isfP_t0_V0 c0_0 l0_1 i0_2 l0_3 l0_4 l0_5 l0_6 i0_7 c0_8 l1)
    (okL (AV.bool (isfP_t0_V1 c0_0 l0_1 i0_2 l0_3 l0_4 l0_5 l0_6 i0_7 c0_8 l1)) ([]))
    (RT.fail)
theorem ordP_t0r_b (c0_0 : List UInt8) (l0_1 : List D) (i0_2 : Int) (l0_3 : List D) (l0_4 : List D) (l0_5 : List D) (l0_6 : List D) (i0_7 : Int) (c0_8 : List UInt8) (l1 : List D) (K : AV → St → Prop) : bodyK Try.prog isfP_pr noL 100 14 [] [(.agg [.str c0_0, .fz false (.struct [(.slice .str), (.int .i64), (.struct [(.int .i64), (.int .i64), .str])]) l0_1, .int .i64 i0_2, .fz false (.slice .str) l0_3, .fz false (.struct [(.int .i64), (.slice .str)]) l0_4, .fz false (.struct [(.int .i64), (.int .i64), (.struct [(.int .i64), (.int .i64), .str])]) l0_5, .fz false (.struct [(.int .i64), .bool]) l0_6, .int .i64 i0_7, .str c0_8]), .fz false (.struct [(.int .i64), (.slice (.struct [(.int .i64), (.int .i64), .str]))]) l1] [] K = RT.K (fun v s _ => K v s) (ordP_t0r c0_0 l0_1 i0_2 l0_3 l0_4 l0_5 l0_6 i0_7 c0_8 l1) := by kernel_rfl
noncomputable def ordP_t0_V0 (c0_0 : List UInt8) (l0_1 : List D) (i0_2 : Int) (l0_3 : List D) (l0_4 : List D) (l0_5 : List D) (l0_6 : List D) (i0_7 : Int) (c0_8 : List UInt8) (l1 : List D) : Bool :=
  isfP_t0_V0 c0_0 l0_1 i0_2 l0_3 l0_4 l0_5 l0_6 i0_7 c0_8 l1 && true
noncomputable def ordP_t0 (c0_0 : List UInt8) (l0_1 : List D) (i0_2 : Int) (l0_3 : List D) (l0_4 : List D) (l0_5 : List D) (l0_6 : List D) (i0_7 : Int) (c0_8 : List UInt8) (l1 : List D) : RT :=
  RT.br (ordP_t0_V0 c0_0 l0_1 i0_2 l0_3 l0_4 l0_5 l0_6 i0_7 c0_8 l1)
    (okL (Go.Sy.AV.bool (isfP_t0_V1 c0_0 l0_1 i0_2 l0_3 l0_4 l0_5 l0_6 i0_7 c0_8 l1)) [])
    (RT.fail)
theorem ordP_t0_m (c0_0 : List UInt8) (l0_1 : List D) (i0_2 : Int) (l0_3 : List D) (l0_4 : List D) (l0_5 : List D) (l0_6 : List D) (i0_7 : Int) (c0_8 : List UInt8) (l1 : List D) (K : AV → St → Prop) : RT.K (fun v s _ => K v s) (RT.mergeW ([]) (ordP_t0r c0_0 l0_1 i0_2 l0_3 l0_4 l0_5 l0_6 i0_7 c0_8 l1)) = RT.K (fun v s _ => K v s) (ordP_t0 c0_0 l0_1 i0_2 l0_3 l0_4 l0_5 l0_6 i0_7 c0_8 l1) := by kernel_rfl
theorem ordP_t0_b (c0_0 : List UInt8) (l0_1 : List D) (i0_2 : Int) (l0_3 : List D) (l0_4 : List D) (l0_5 : List D) (l0_6 : List D) (i0_7 : Int) (c0_8 : List UInt8) (l1 : List D) (K : AV → St → Prop) (h : RT.K (fun v s _ => K v s) (ordP_t0 c0_0 l0_1 i0_2 l0_3 l0_4 l0_5 l0_6 i0_7 c0_8 l1)) : bodyK Try.prog isfP_pr noL 100 14 [] [(.agg [.str c0_0, .fz false (.struct [(.slice .str), (.int .i64), (.struct [(.int .i64), (.int .i64), .str])]) l0_1, .int .i64 i0_2, .fz false (.slice .str) l0_3, .fz false (.struct [(.int .i64), (.slice .str)]) l0_4, .fz false (.struct [(.int .i64), (.int .i64), (.struct [(.int .i64), (.int .i64), .str])]) l0_5, .fz false (.struct [(.int .i64), .bool]) l0_6, .int .i64 i0_7, .str c0_8]), .fz false (.struct [(.int .i64), (.slice (.struct [(.int .i64), (.int .i64), .str]))]) l1] [] K := Eq.mpr (ordP_t0r_b ..) (mergeW_K (S := []) _ ⟨rfl, trivial⟩ (Eq.mpr (ordP_t0_m ..) h))
theorem ordP_t0_lp (hpr : PrOk Try.prog isfP_pr) : LoopsFor Try.prog 14 0 noL := loops_none
noncomputable def ordP : Sy.Spec := ⟨[.data (.struct [.str, (.slice (.struct [(.slice .str), (.int .i64), (.struct [(.int .i64), (.int .i64), .str])])), (.int .i64), (.slice (.slice .str)), (.slice (.struct [(.int .i64), (.slice .str)])), (.slice (.struct [(.int .i64), (.int .i64), (.struct [(.int .i64), (.int .i64), .str])])), (.slice (.struct [(.int .i64), .bool])), (.int .i64), .str]), .data (.slice (.struct [(.int .i64), (.slice (.struct [(.int .i64), (.int .i64), .str]))]))], fun args s => match args, s with
  | [(.agg [(.str c0_0), (.fz false e_0 l0_1), (.int .i64 i0_2), (.fz false e_1 l0_3), (.fz false e_2 l0_4), (.fz false e_3 l0_5), (.fz false e_4 l0_6), (.int .i64 i0_7), (.str c0_8)]), (.fz false e_5 l1)], [] => .br (Sh.beq e_0 (Sh.struct [Sh.str.slice, Sh.int IntKind.i64, Sh.struct [Sh.int IntKind.i64, Sh.int IntKind.i64, Sh.str]]) && (Sh.beq e_1 (Sh.str.slice) && (Sh.beq e_2 (Sh.struct [Sh.int IntKind.i64, Sh.str.slice]) && (Sh.beq e_3 (Sh.struct [Sh.int IntKind.i64, Sh.int IntKind.i64, Sh.struct [Sh.int IntKind.i64, Sh.int IntKind.i64, Sh.str]]) && (Sh.beq e_4 (Sh.struct [Sh.int IntKind.i64, Sh.bool]) && (Sh.beq e_5 (Sh.struct [Sh.int IntKind.i64, shV.slice]) && (true))))))) (ordP_t0 c0_0 l0_1 i0_2 l0_3 l0_4 l0_5 l0_6 i0_7 c0_8 l1) .fail
  | _, _ => .fail⟩
theorem ordP_ok : SpecOk Try.prog 14 ordP.f := specOk_comes fun args s v s' tch e => by
  simp only [ordP] at e
  split at e
  · obtain ⟨hg, e⟩ := if_run e
    simp only [Bool.and_eq_true] at hg
    obtain ⟨h_0, h_1, h_2, h_3, h_4, h_5, _⟩ := hg
    obtain rfl := Sh.beq_eq _ _ h_0
    obtain rfl := Sh.beq_eq _ _ h_1
    obtain rfl := Sh.beq_eq _ _ h_2
    obtain rfl := Sh.beq_eq _ _ h_3
    obtain rfl := Sh.beq_eq _ _ h_4
    obtain rfl := Sh.beq_eq _ _ h_5
    refine comes_of ok isfP_pr_k (L := 100) (ms := []) (by kernel_rfl) (ordP_t0_lp isfP_pr_k) ?_
    exact ordP_t0_b (h := K_run e) ..
  · cases e
noncomputable def ordP_pr : FuncId → Option Sy.Spec := addP 14 ordP isfP_pr
theorem ordP_pr_k : PrOk Try.prog ordP_pr := prOk_add ordP_ok isfP_pr_k
def fs28 : List FuncId := [77, 88, 89, 60, 75, 76, 59, 57, 56, 35, 37, 36, 58, 40, 39, 38, 41, 42, 43, 12, 11, 14, 18]
noncomputable def prS28 : FuncId → Option Sy.Spec := selfs Try.prog 1000 fs28 noP
theorem prS28_ok : PrOk Try.prog prS28 := selfs_ok ok _ _ prOk_none (by kernel_rfl)
theorem b28 (K : AV → St → Prop) : bodyK Try.prog prS28 noL 1000 6 [] [] [] K =
  K (AV.bool true) [] := by kernel_rfl
/-- A beginning that comes to true. -/
noncomputable def begF : Sy.Spec := ⟨[], fun args s => match args, s with
  | [], [] => okL (.bool true) []
  | _, _ => .fail⟩
theorem begF_of {f : FuncId} (h : Sy.Comes Try.prog f [] [] (.bool true) []) : SpecOk Try.prog f begF.f := specOk_comes fun args s v s' tch e => by
  simp only [begF] at e
  split at e
  · cases e; exact h
  · cases e
theorem beg28_ok : SpecOk Try.prog 6 begF.f := begF_of (comes_of ok prS28_ok (L := 1000) (ms := []) (by kernel_rfl) loops_none (Eq.mpr (b28 ..) ⟨rfl, rfl⟩))
end Go.Proofs.Yteoockodkddipaa
