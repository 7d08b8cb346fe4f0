/- Walks: values' order, rows: the program's own. -/
import Derived.Test.YteoockodkddipaaPvG
import Derived.Test.YteoockodkddipaaPvO2
import Derived.Test.YteoockodkddipaaVal
import Derived.KernelRfl
set_option linter.unusedSimpArgs false
set_option linter.unusedVariables false
set_option maxRecDepth 100000
namespace Go.Proofs.Yteoockodkddipaa
open Go Go.Sy
attribute [local irreducible] bodyK roundK cutK
theorem nanI_body (a : Int) (k : AV → St → Prop) : bodyK Try.prog noP noL 100 77 [] [.int .i64 a] [] k =
  k (AV.bool !decide (a = a)) [] := by kernel_rfl
theorem nanI_ok : SpecOk Try.prog 77 nanIF.f := specOk_comes fun args s v s' tch e => by
  simp only [nanIF] at e
  split at e
  · rename_i a
    obtain ⟨hg, rfl, rfl, rfl⟩ := run_ok e
    refine comes_of ok prOk_none (L := 100) (ms := []) (by kernel_rfl) loops_none ?_
    rw [nanI_body]
    exact ⟨by simp, rfl⟩
  · cases e
theorem nanJ_body (a : Int) (k : AV → St → Prop) : bodyK Try.prog noP noL 100 88 [] [.int .i64 a] [] k =
  k (AV.bool !decide (a = a)) [] := by kernel_rfl
theorem nanJ_ok : SpecOk Try.prog 88 nanIF.f := specOk_comes fun args s v s' tch e => by
  simp only [nanIF] at e
  split at e
  · rename_i a
    obtain ⟨hg, rfl, rfl, rfl⟩ := run_ok e
    refine comes_of ok prOk_none (L := 100) (ms := []) (by kernel_rfl) loops_none ?_
    rw [nanJ_body]
    exact ⟨by simp, rfl⟩
  · cases e
theorem nanS_body (a : List UInt8) (k : AV → St → Prop) : bodyK Try.prog noP noL 100 89 [] [.str a] [] k =
  k (AV.bool !eqBytes a a) [] := by kernel_rfl
theorem nanS_ok : SpecOk Try.prog 89 nanSF.f := specOk_comes fun args s v s' tch e => by
  simp only [nanSF] at e
  split at e
  · rename_i a
    obtain ⟨hg, rfl, rfl, rfl⟩ := run_ok e
    refine comes_of ok prOk_none (L := 100) (ms := []) (by kernel_rfl) loops_none ?_
    rw [nanS_body]
    exact ⟨by rw [eqBytes_refl]; rfl, rfl⟩
  · cases e
def prNI : FuncId → Option Sy.Spec := addP 77 nanIF noP
theorem cmpI_body (a b : Int) (k : AV → St → Prop) : bodyK Try.prog prNI noL 100 60 [] [.int .i64 a, .int .i64 b] [] k =
  br (decide (a < b))
    (k (AV.int IntKind.i64 (-1 : Int)) [])
    (br (decide (a > b))
      (k (AV.int IntKind.i64 (1 : Int)) [])
      (k (AV.int IntKind.i64 (0 : Int)) [])) := by kernel_rfl
theorem cmpI_ok : SpecOk Try.prog 60 cmpIF.f := specOk_comes fun args s v s' tch e => by
  simp only [cmpIF] at e
  split at e
  · rename_i a b
    obtain ⟨hg, rfl, rfl, rfl⟩ := run_ok e
    refine comes_of ok (prOk_add nanI_ok prOk_none) (L := 100) (ms := []) (by kernel_rfl) loops_none ?_
    refine Eq.mpr (cmpI_body a b _) ?_
    simp only [br_iff]
    refine ⟨fun h => ⟨by rw [cmpI, if_pos h], trivial⟩, fun h => ⟨fun h' => ⟨by rw [cmpI, if_neg h, if_pos h'], trivial⟩, fun h' => ⟨by rw [cmpI, if_neg h, if_neg h'], trivial⟩⟩⟩
  · cases e
def prNJ : FuncId → Option Sy.Spec := addP 88 nanIF noP
theorem cmpJ_body (a b : Int) (k : AV → St → Prop) : bodyK Try.prog prNJ noL 100 75 [] [.int .i64 a, .int .i64 b] [] k =
  br (decide (a < b))
    (k (AV.int IntKind.i64 (-1 : Int)) [])
    (br (decide (a > b))
      (k (AV.int IntKind.i64 (1 : Int)) [])
      (k (AV.int IntKind.i64 (0 : Int)) [])) := by kernel_rfl
theorem cmpJ_ok : SpecOk Try.prog 75 cmpIF.f := specOk_comes fun args s v s' tch e => by
  simp only [cmpIF] at e
  split at e
  · rename_i a b
    obtain ⟨hg, rfl, rfl, rfl⟩ := run_ok e
    refine comes_of ok (prOk_add nanJ_ok prOk_none) (L := 100) (ms := []) (by kernel_rfl) loops_none ?_
    refine Eq.mpr (cmpJ_body a b _) ?_
    simp only [br_iff]
    refine ⟨fun h => ⟨by rw [cmpI, if_pos h], trivial⟩, fun h => ⟨fun h' => ⟨by rw [cmpI, if_neg h, if_pos h'], trivial⟩, fun h' => ⟨by rw [cmpI, if_neg h, if_neg h'], trivial⟩⟩⟩
  · cases e
def prNS : FuncId → Option Sy.Spec := addP 89 nanSF noP
theorem cmpS_body (a b : List UInt8) (k : AV → St → Prop) : bodyK Try.prog prNS noL 100 76 [] [.str a, .str b] [] k =
  br (ltBytes a b)
    (k (AV.int IntKind.i64 (-1 : Int)) [])
    (br (!(ltBytes a b || eqBytes a b))
      (k (AV.int IntKind.i64 (1 : Int)) [])
      (k (AV.int IntKind.i64 (0 : Int)) [])) := by kernel_rfl
theorem cmpS_ok : SpecOk Try.prog 76 cmpSF.f := specOk_comes fun args s v s' tch e => by
  simp only [cmpSF] at e
  split at e
  · rename_i a b
    obtain ⟨hg, rfl, rfl, rfl⟩ := run_ok e
    refine comes_of ok (prOk_add nanS_ok prOk_none) (L := 100) (ms := []) (by kernel_rfl) loops_none ?_
    refine Eq.mpr (cmpS_body a b _) ?_
    cases h1 : ltBytes a b <;> cases h2 : eqBytes a b <;> simp [c3, h1, h2, br]
  · cases e
theorem or_body (a b c : Int) (k : AV → St → Prop) : bodyK Try.prog noP noL 100 59 [] [.fz false (.int .i64) [.int a, .int b, .int c]] [] k =
  br (!decide (([D.int a, D.int b, D.int c].getD (0 : Nat) D.nul).asInt = (0 : Int)))
    (k (AV.int IntKind.i64 ([D.int a, D.int b, D.int c].getD (0 : Nat) D.nul).asInt) [])
    (br (!decide (([D.int a, D.int b, D.int c].getD (1 : Nat) D.nul).asInt = (0 : Int)))
      (k (AV.int IntKind.i64 ([D.int a, D.int b, D.int c].getD (1 : Nat) D.nul).asInt) [])
      (br (!decide (([D.int a, D.int b, D.int c].getD (2 : Nat) D.nul).asInt = (0 : Int)))
        (k (AV.int IntKind.i64 ([D.int a, D.int b, D.int c].getD (2 : Nat) D.nul).asInt) [])
        (k (AV.int IntKind.i64 (0 : Int)) []))) := by kernel_rfl
theorem or2_body (a b : Int) (k : AV → St → Prop) : bodyK Try.prog noP noL 100 59 [] [.fz false (.int .i64) [.int a, .int b]] [] k =
  br (!decide (([D.int a, D.int b].getD (0 : Nat) D.nul).asInt = (0 : Int)))
    (k (AV.int IntKind.i64 ([D.int a, D.int b].getD (0 : Nat) D.nul).asInt) [])
    (br (!decide (([D.int a, D.int b].getD (1 : Nat) D.nul).asInt = (0 : Int)))
      (k (AV.int IntKind.i64 ([D.int a, D.int b].getD (1 : Nat) D.nul).asInt) [])
      (k (AV.int IntKind.i64 (0 : Int)) [])) := by kernel_rfl
theorem or_ok : SpecOk Try.prog 59 or23F.f := specOk_comes fun args s v s' tch e => by
  simp only [or23F] at e
  split at e
  · rename_i a b c
    obtain ⟨hg, rfl, rfl, rfl⟩ := run_ok e
    refine comes_of ok prOk_none (L := 100) (ms := []) (by kernel_rfl) loops_none ?_
    rw [or_body]
    by_cases h1 : a = 0 <;> by_cases h2 : b = 0 <;> by_cases h3 : c = 0 <;> simp [or3, h1, h2, h3, br, D.asInt]
  · rename_i a b
    obtain ⟨hg, rfl, rfl, rfl⟩ := run_ok e
    refine comes_of ok prOk_none (L := 100) (ms := []) (by kernel_rfl) loops_none ?_
    rw [or2_body]
    by_cases h1 : a = 0 <;> by_cases h2 : b = 0 <;> simp [or2, h1, h2, br, D.asInt]
  · cases e
def prCm : FuncId → Option Sy.Spec := addP 59 or23F (addP 60 cmpIF (addP 75 cmpIF (addP 76 cmpSF noP)))
theorem pcmp_body (a b : Int) (c : List UInt8) (a' b' : Int) (c' : List UInt8) (k : AV → St → Prop) : bodyK Try.prog prCm noL 100 57 [] [avV a b c, avV a' b' c'] [] k =
  k (AV.int IntKind.i64 (or3 (cmpI a a') (cmpI b b') (c3 c c'))) [] := by kernel_rfl
theorem pcmp_ok : SpecOk Try.prog 57 cmpF.f := specOk_comes fun args s v s' tch e => by
  simp only [cmpF] at e
  split at e
  · rename_i a b c a' b' c'
    obtain ⟨hg, rfl, rfl, rfl⟩ := run_ok e
    refine comes_of ok (prOk_add or_ok (prOk_add cmpI_ok (prOk_add cmpJ_ok (prOk_add cmpS_ok prOk_none)))) (L := 100) (ms := []) (by kernel_rfl) loops_none ?_
    refine Eq.mpr (pcmp_body a b c a' b' c' _) ?_
    exact ⟨by rw [cmp3_or], rfl⟩
  · cases e
theorem prCm_ok : PrOk Try.prog prCm := prOk_add or_ok (prOk_add cmpI_ok (prOk_add cmpJ_ok (prOk_add cmpS_ok prOk_none)))
def prCF : FuncId → Option Sy.Spec := addP 57 cmpF noP
def kCF : List Keep := [.yes, .yes, .yes, .no, .no, .no, .yes, .no, .no, .no, .no, .yes, .yes, .yes]
def tCF (l m : List D) (r : Int) (i : Nat) : List AV := [.fz false shV l, .fz false shV m, .fn (.func 57) [] [], .any, .any, .any, .int .i64 r, .any, .any, .any, .any, .fz false shV l, .int .i64 l.length, .int .i64 i] ++ padAny 25
theorem cf_round (l m : List D) (i : Nat) (more : List AV → St → Prop) (kk : KS) : roundK Try.prog prCF noL 100 56 0 (tCF l m 0 i) [] (againK 0 0 kCF kCF more kk) =
  br (decide ((↑i : Int) < (↑l.length : Int)))
    (br (decide ((0 : Int) ≤ (↑i : Int)) && decide ((↑i : Int) < (↑l.length : Int)))
      (br (decide ((↑i : Int) ≥ (↑m.length : Int)))
        (kk Ex.ret ([AV.fz false (shV) l, AV.fz false (shV) m, AV.fn (Fn.func (57 : Nat)) [] [], .any, .any, .any, AV.int IntKind.i64 (1 : Int), .any, .any, .any, .any, AV.fz false (shV) l, AV.int IntKind.i64 (↑l.length : Int), AV.int IntKind.i64 (↑i : Int)] ++ padAny 25) [])
        (br (decide ((0 : Int) ≤ (↑i : Int)) && decide ((↑i : Int) < (↑m.length : Int)))
          (br (!decide (cmp3 ((l.getD (↑i : Int).toNat D.nul).fld (0 : Nat)).asInt ((l.getD (↑i : Int).toNat D.nul).fld (1 : Nat)).asInt ((l.getD (↑i : Int).toNat D.nul).fld (2 : Nat)).asStr ((m.getD (↑i : Int).toNat D.nul).fld (0 : Nat)).asInt ((m.getD (↑i : Int).toNat D.nul).fld (1 : Nat)).asInt ((m.getD (↑i : Int).toNat D.nul).fld (2 : Nat)).asStr = (0 : Int)))
            (kk Ex.ret ([AV.fz false (shV) l, AV.fz false (shV) m, AV.fn (Fn.func (57 : Nat)) [] [], .any, .any, .any, AV.int IntKind.i64 (cmp3 ((l.getD (↑i : Int).toNat D.nul).fld (0 : Nat)).asInt ((l.getD (↑i : Int).toNat D.nul).fld (1 : Nat)).asInt ((l.getD (↑i : Int).toNat D.nul).fld (2 : Nat)).asStr ((m.getD (↑i : Int).toNat D.nul).fld (0 : Nat)).asInt ((m.getD (↑i : Int).toNat D.nul).fld (1 : Nat)).asInt ((m.getD (↑i : Int).toNat D.nul).fld (2 : Nat)).asStr), .any, .any, .any, .any, AV.fz false (shV) l, AV.int IntKind.i64 (↑l.length : Int), AV.int IntKind.i64 (↑i : Int)] ++ padAny 25) [])
            (more ([AV.fz false (shV) l, AV.fz false (shV) m, AV.fn (Fn.func (57 : Nat)) [] [], .any, .any, .any, AV.int IntKind.i64 (0 : Int), .any, .any, .any, .any, AV.fz false (shV) l, AV.int IntKind.i64 (↑l.length : Int), AV.int IntKind.i64 (IntKind.i64.wrap ((↑i : Int) + (1 : Int)))] ++ padAny 25) []))
          (False)))
      (False))
    (kk Ex.normal ([AV.fz false (shV) l, AV.fz false (shV) m, AV.fn (Fn.func (57 : Nat)) [] [], .any, .any, .any, AV.int IntKind.i64 (0 : Int), .any, .any, .any, .any, AV.fz false (shV) l, AV.int IntKind.i64 (↑l.length : Int), AV.int IntKind.i64 (↑i : Int)] ++ padAny 25) []) := by kernel_rfl
theorem cf_body (l m : List D) (G : LoopS) (k : AV → St → Prop) : bodyK Try.prog prCF (addL 0 (headG 0 kCF G) noL) 100 56 [] [.fz false shV l, .fz false shV m, .fn (.func 57) [] []] [] k  =
  G (([AV.fz false (shV) l, AV.fz false (shV) m, AV.fn (Fn.func (57 : Nat)) [] [], .any, .any, .any, AV.int IntKind.i64 (0 : Int), .any, .any, .any, .any, AV.fz false (shV) l, AV.int IntKind.i64 (↑l.length : Int), AV.int IntKind.i64 (0 : Int)] ++ padAny 25)) ([]) (contB Try.prog prCF (addL 0 (headG 0 kCF G) noL) 100 56 [] [] 0 k) := by kernel_rfl
theorem cf_end (l m : List D) (i : Nat) (F : LoopS) (k : AV → St → Prop) : contB Try.prog prCF (addL 0 F noL) 100 56 [] [] 0 k .normal (tCF l m 0 i) [] =
  br (decide ((↑l.length : Int) < (↑m.length : Int)))
    (k (AV.int IntKind.i64 (-1 : Int)) [])
    (k (AV.int IntKind.i64 (0 : Int)) []) := by kernel_rfl
theorem cf_ret (l m : List D) (r : Int) (i : Nat) (F : LoopS) (k : AV → St → Prop) : contB Try.prog prCF (addL 0 F noL) 100 56 [] [] 0 k .ret (tCF l m r i) [] =
  k (AV.int IntKind.i64 r) [] := by kernel_rfl
def MCF (l m : List D) (z : Nat) (t : List AV) (s : St) (k : KS) : Prop := ∃ i : Nat, z + i = l.length ∧ i ≤ m.length ∧ t = tCF l m 0 i ∧ s = [] ∧
  match cfL (l.drop i) (m.drop i) with
  | some c => ∀ j : Nat, k .ret (tCF l m c j) []
  | none => ∀ j : Nat, k .normal (tCF l m 0 j) []
theorem cf_step (l m : List D) (hl : l.length < 2 ^ 62) : ∀ z t s k, MCF l m z t s k → roundK Try.prog prCF noL 100 56 0 t s (againK 0 0 kCF kCF (fun t' s' => ∃ z', z' < z ∧ MCF l m z' t' s' k) k) := by
  rintro z t s k ⟨i, hz, hi, rfl, rfl, hk⟩
  rw [cf_round]
  refine br_iff.2 ⟨fun h1 => br_t (by simp; omega) ?_, fun h1 => ?_⟩
  · have e1 : l.drop i = l.getD i .nul :: l.drop (i + 1) := drop_one (by omega)
    rw [e1] at hk
    refine br_iff.2 ⟨fun h2 => ?_, fun h2 => br_t (by simp; omega) ?_⟩
    · rw [List.drop_eq_nil_of_le (show m.length ≤ i by omega)] at hk
      exact hk i
    · have e2 : m.drop i = m.getD i .nul :: m.drop (i + 1) := drop_one (by omega)
      rw [e2] at hk
      simp only [cfL] at hk
      refine br_mk (fun h => ?_) (fun h => ?_)
      · have h : ¬ cmpD (l.getD i .nul) (m.getD i .nul) = 0 := by simpa [cmpD, vK, vN, vS] using h
        rw [if_neg h] at hk
        exact hk i
      · have h : cmpD (l.getD i .nul) (m.getD i .nul) = 0 := by simpa [cmpD, vK, vN, vS] using h
        rw [if_pos h] at hk
        refine ⟨l.length - (i + 1), by omega, i + 1, by omega, by omega, ?_, rfl, hk⟩
        simp only [tCF, wrap64 (x := (i : Int) + 1) (by omega) (by omega)]
        simp [padAny, shV]
  · rw [List.drop_eq_nil_of_le (show l.length ≤ i by omega)] at hk
    simp only [cfL] at hk
    exact hk i
theorem cf_ok : SpecOk Try.prog 56 (cfF 57).f := specOk_comes fun args s v s' tch e => by
  simp only [cfF] at e
  split at e
  · rename_i sh l sh' m g'
    obtain ⟨hg, rfl, rfl, rfl⟩ := run_ok e
    simp only [Bool.and_eq_true, decide_eq_true_eq] at hg
    obtain ⟨hsh, hsh', hg', hl⟩ := hg
    have := Sh.beq_eq _ _ hsh
    subst this
    have := Sh.beq_eq _ _ hsh'
    subst this
    have := Nat.eq_of_beq_eq_true hg'
    subst this
    have hd : distinctOk Try.prog 56 = true := by kernel_rfl
    have hpr : PrOk Try.prog prCF := prOk_add pcmp_ok prOk_none
    refine comes_of ok hpr (L := 100) (ms := []) hd (loops_add (L := 100) (kh := kCF) ok hpr hd loops_none (cf_step l m hl)) ?_
    refine Eq.mpr (cf_body l m _ _) ?_
    refine ⟨l.length, 0, by omega, by omega, rfl, rfl, ?_⟩
    have := cfL_row l m
    simp only [List.drop_zero]
    cases h : cfL l m with
    | some c =>
      rw [h] at this
      intro j
      rw [cf_ret]
      exact ⟨by rw [← this], rfl⟩
    | none =>
      rw [h] at this
      intro j
      rw [cf_end]
      simp only [br_iff, ← this]
      exact ⟨fun h => ⟨by rw [if_pos (by omega)], trivial⟩, fun h => ⟨by rw [if_neg (by omega)], trivial⟩⟩
  · cases e
def prRow : FuncId → Option Sy.Spec := addP 56 (cfF 57) noP
theorem prow_body (l m : List D) (k : AV → St → Prop) : bodyK Try.prog prRow noL 100 35 [] [.fz false shV l, .fz false shV m] [] k =
  br (decide (l.length < (4611686018427387904 : Nat)))
    (k (AV.int IntKind.i64 (rowD l m)) [])
    (False) := by kernel_rfl
theorem prow_ok : SpecOk Try.prog 35 rowF.f := specOk_comes fun args s v s' tch e => by
  simp only [rowF] at e
  split at e
  · rename_i sh l sh' m
    obtain ⟨hg, rfl, rfl, rfl⟩ := run_ok e
    simp only [Bool.and_eq_true, decide_eq_true_eq] at hg
    obtain ⟨⟨hsh, hsh'⟩, hl⟩ := hg
    have := Sh.beq_eq _ _ hsh
    subst this
    have := Sh.beq_eq _ _ hsh'
    subst this
    refine comes_of ok (prOk_add cf_ok prOk_none) (L := 100) (ms := []) (by kernel_rfl) loops_none ?_
    refine Eq.mpr (prow_body l m _) ?_
    exact br_t (decide_eq_true hl) ⟨rfl, rfl⟩
  · cases e
end Go.Proofs.Yteoockodkddipaa
