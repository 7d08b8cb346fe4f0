/- Walks: values, in part (for columns). -/
import Derived.Test.YtkfdfenaaidkkaaDictA
import Derived.KernelRfl
set_option linter.unusedSimpArgs false
set_option linter.unusedVariables false
set_option maxRecDepth 100000
namespace Go.Proofs.Ytkfdfenaaidkkaa
open Go Go.Sy
attribute [local irreducible] bodyK roundK
/- ### Val -/
def prV : FuncId → Option Sy.Spec := addP 11 cutF noP
theorem prV_ok : PrOk Try.prog prV := prOk_add cut_ok prOk_none
theorem val_body (a b : Int) (c : List UInt8) (k : AV → St → Prop) : bodyK Try.prog prV noL 100 22 [] [.agg [.int .i64 a, .int .i64 b, .str c]] [] k =
  k (AV.agg [AV.int IntKind.i64 a, AV.int IntKind.i64 b, AV.str (cutS c (20 : Int))]) [] := by kernel_rfl
theorem val_ok : SpecOk Try.prog 22 valF.f := specOk_comes fun args s v s' tch e => by
  simp only [valF] at e
  split at e
  · rename_i a b c
    obtain ⟨hg, rfl, rfl, rfl⟩ := run_ok e
    refine comes_of ok prV_ok (L := 100) (ms := []) (by kernel_rfl) loops_none ?_
    rw [val_body]
    exact ⟨rfl, rfl⟩
  · cases e

theorem req_body (a b : Int) (c : List UInt8) (a' b' : Int) (c' : List UInt8) (k : AV → St → Prop) : bodyK Try.prog noP noL 100 27 [] [avV a b c, avV a' b' c'] [] k =
  br (decide (a = a'))
    (br (decide (b = b'))
      (k (AV.bool (eqBytes c c')) [])
      (k (AV.bool false) []))
    (k (AV.bool false) []) := by kernel_rfl
theorem req_ok : SpecOk Try.prog 27 eqVF.f := specOk_comes fun args s v s' tch e => by
  simp only [eqVF] at e
  split at e
  · rename_i a b c a' b' c'
    obtain ⟨hg, rfl, rfl, rfl⟩ := run_ok e
    refine comes_of ok prOk_none (L := 100) (ms := []) (by kernel_rfl) loops_none ?_
    refine Eq.mpr (req_body a b c a' b' c' _) ?_
    have hz : ∀ p : Bool, (p = true ↔ a = a' ∧ b = b' ∧ c = c') → AV.bool p = AV.bool (decide (cmp3 a b c a' b' c' = 0)) := fun p hp => by
      congr 1; rw [Bool.eq_iff_iff, hp, decide_eq_true_eq, cmp3_zero]
    simp only [br_iff]
    exact ⟨fun h1 => ⟨fun h2 => ⟨hz _ (by rw [eqBytes_iff]; simp [h1, h2]), trivial⟩, fun h2 => ⟨hz _ (by simp [h2]), trivial⟩⟩, fun h1 => ⟨hz _ (by simp [h1]), trivial⟩⟩
  · cases e
/- ### texts -/
def kTx : List Keep := [.yes, .no, .yes, .no, .no, .yes, .yes]
def tTx (c : List UInt8) (b : Bool) (i : Nat) : List AV := [.str c, .any, .bool b, .any, .any, .int .i64 c.length, .int .i64 i] ++ padAny 22
theorem vtxt_round (c : List UInt8) (i : Nat) (more : List AV → St → Prop) (kk : KS) : roundK Try.prog noP noL 100 54 0 (tTx c false i) [] (againK 0 0 kTx kTx more kk) =
  br (decide ((↑i : Int) < (↑c.length : Int)))
    (br (decide ((0 : Int) ≤ (↑i : Int)) && decide ((↑i : Int) < (↑c.length : Int)))
      (br (decide ((↑(c.getD (↑i : Int).toNat (0 : UInt8)).toNat : Int) < (32 : Int)))
        (kk Ex.ret ([AV.str c, .any, AV.bool false, .any, .any, AV.int IntKind.i64 (↑c.length : Int), AV.int IntKind.i64 (↑i : Int)] ++ padAny 22) [])
        (br (decide ((0 : Int) ≤ (↑i : Int)) && decide ((↑i : Int) < (↑c.length : Int)))
          (br (decide ((↑(c.getD (↑i : Int).toNat (0 : UInt8)).toNat : Int) > (126 : Int)))
            (kk Ex.ret ([AV.str c, .any, AV.bool false, .any, .any, AV.int IntKind.i64 (↑c.length : Int), AV.int IntKind.i64 (↑i : Int)] ++ padAny 22) [])
            (br (decide ((0 : Int) ≤ (↑i : Int)) && decide ((↑i : Int) < (↑c.length : Int)))
              (br (decide ((↑(c.getD (↑i : Int).toNat (0 : UInt8)).toNat : Int) = (39 : Int)))
                (kk Ex.ret ([AV.str c, .any, AV.bool false, .any, .any, AV.int IntKind.i64 (↑c.length : Int), AV.int IntKind.i64 (↑i : Int)] ++ padAny 22) [])
                (more ([AV.str c, .any, AV.bool false, .any, .any, AV.int IntKind.i64 (↑c.length : Int), AV.int IntKind.i64 (IntKind.i64.wrap ((↑i : Int) + (1 : Int)))] ++ padAny 22) []))
              (False)))
          (False)))
      (False))
    (kk Ex.normal ([AV.str c, .any, AV.bool false, .any, .any, AV.int IntKind.i64 (↑c.length : Int), AV.int IntKind.i64 (↑i : Int)] ++ padAny 22) []) := by kernel_rfl
theorem vtxt_body (c : List UInt8) (G : LoopS) (k : AV → St → Prop) : bodyK Try.prog noP (addL 0 (headG 0 kTx G) noL) 100 54 [] [.str c] [] k  =
  G (([AV.str c, .any, AV.bool false, .any, .any, AV.int IntKind.i64 (↑c.length : Int), AV.int IntKind.i64 (0 : Int)] ++ padAny 22)) ([]) (contB Try.prog noP (addL 0 (headG 0 kTx G) noL) 100 54 [] [] 0 k) := by kernel_rfl
theorem vtxt_end (c : List UInt8) (i : Nat) (F : LoopS) (k : AV → St → Prop) : contB Try.prog noP (addL 0 F noL) 100 54 [] [] 0 k .normal (tTx c false i) [] =
  k (AV.bool (decide ((↑c.length : Int) ≤ (12 : Int)))) [] := by kernel_rfl
theorem vtxt_ret (c : List UInt8) (b : Bool) (i : Nat) (F : LoopS) (k : AV → St → Prop) : contB Try.prog noP (addL 0 F noL) 100 54 [] [] 0 k .ret (tTx c b i) [] =
  k (AV.bool b) [] := by kernel_rfl
def MTx (c : List UInt8) (z : Nat) (t : List AV) (s : St) (k : KS) : Prop := ∃ i : Nat, z + i = c.length ∧ t = tTx c false i ∧ s = [] ∧
  match txtOk (c.drop i) with
  | true => ∀ j : Nat, k .normal (tTx c false j) []
  | false => ∀ j : Nat, k .ret (tTx c false j) []
theorem vtxt_step (c : List UInt8) (hc : c.length < 1000) : ∀ z t s k, MTx c z t s k → roundK Try.prog noP noL 100 54 0 t s (againK 0 0 kTx kTx (fun t' s' => ∃ z', z' < z ∧ MTx c z' t' s' k) k) := by
  rintro z t s k ⟨i, hz, rfl, rfl, hk⟩
  rw [vtxt_round]
  refine br_iff.2 ⟨fun h1 => ?_, fun h1 => ?_⟩
  · have hin : (decide ((0 : Int) ≤ (↑i : Int)) && decide ((↑i : Int) < (↑c.length : Int))) = true := by simp; omega
    rw [drop_get (d := 0) (show i < c.length by omega)] at hk
    simp only [Int.toNat_natCast]
    by_cases p1 : ((c.getD i 0).toNat : Int) < 32
    · simp only [txtOk, p1, decide_true, Bool.true_or, Bool.not_true, Bool.false_and] at hk
      exact br_t hin (br_t (decide_eq_true p1) (hk i))
    by_cases p2 : ((c.getD i 0).toNat : Int) > 126
    · simp only [txtOk, p2, decide_true, Bool.true_or, Bool.or_true, Bool.not_true, Bool.false_and] at hk
      exact br_t hin (br_iff.2 ⟨fun h => absurd h p1, fun _ => br_t hin (br_t (decide_eq_true p2) (hk i))⟩)
    by_cases p3 : ((c.getD i 0).toNat : Int) = 39
    · simp only [txtOk, p3, decide_true, Bool.true_or, Bool.or_true, Bool.not_true, Bool.false_and] at hk
      exact br_t hin (br_iff.2 ⟨fun h => absurd h p1, fun _ => br_t hin (br_iff.2 ⟨fun h => absurd h p2, fun _ => br_t hin (br_t (decide_eq_true p3) (hk i))⟩)⟩)
    · simp only [txtOk, p1, p2, p3, decide_false, Bool.or_false, Bool.not_false, Bool.true_and] at hk
      refine br_t hin (br_iff.2 ⟨fun h => absurd h p1, fun _ => br_t hin (br_iff.2 ⟨fun h => absurd h p2, fun _ => br_t hin (br_iff.2 ⟨fun h => absurd h p3, fun _ => ?_⟩)⟩)⟩)
      refine ⟨c.length - (i + 1), by omega, i + 1, by omega, ?_, rfl, hk⟩
      simp only [tTx, wrap64 (x := (i : Int) + 1) (by omega) (by omega)]
      simp
  · rw [List.drop_eq_nil_of_le (by omega)] at hk
    exact hk i
theorem vtxt_ok : SpecOk Try.prog 54 txtF.f := specOk_comes fun args s v s' tch e => by
  simp only [txtF] at e
  split at e
  · rename_i c
    obtain ⟨hg, rfl, rfl, rfl⟩ := run_ok e
    have hg := of_decide_eq_true hg
    have hd : distinctOk Try.prog 54 = true := by kernel_rfl
    refine comes_of ok prOk_none (L := 100) (ms := []) hd (loops_add (L := 100) (kh := kTx) ok prOk_none hd loops_none (vtxt_step c hg)) ?_
    refine Eq.mpr (vtxt_body c _ _) ?_
    refine ⟨c.length, 0, by omega, rfl, rfl, ?_⟩
    rw [List.drop_zero]
    cases h : txtOk c with
    | true => intro j; rw [vtxt_end]; exact ⟨by simp, rfl⟩
    | false => intro j; rw [vtxt_ret]; exact ⟨by simp, rfl⟩
  · cases e
def prMay : FuncId → Option Sy.Spec := addP 54 txtF noP
theorem pmay_body (a b : Int) (c : List UInt8) (k : AV → St → Prop) : bodyK Try.prog prMay noL 100 48 [] [avV a b c] [] k =
  br (decide (a = (0 : Int)))
    (br (decide (b = (0 : Int)))
      (k (AV.bool (eqBytes c [])) [])
      (k (AV.bool false) []))
    (br (decide (a = (1 : Int)))
      (k (AV.bool (eqBytes c [])) [])
      (br (decide (a = (2 : Int)))
        (br (decide (b = (0 : Int)))
          (br (decide (c.length < (1000 : Nat)))
            (k (AV.bool (txtOk c && decide ((↑c.length : Int) ≤ (12 : Int)))) [])
            (False))
          (k (AV.bool false) []))
        (k (AV.bool false) []))) := by kernel_rfl
theorem pmay_ok : SpecOk Try.prog 48 mayF.f := specOk_comes fun args s v s' tch e => by
  simp only [mayF] at e
  split at e
  · rename_i a b c
    obtain ⟨hg, rfl, rfl, rfl⟩ := run_ok e
    refine comes_of ok (prOk_add vtxt_ok prOk_none) (L := 100) (ms := []) (by kernel_rfl) loops_none ?_
    have hg := of_decide_eq_true hg
    refine Eq.mpr (pmay_body a b c _) ?_
    by_cases h0 : a = 0
    · by_cases hb : b = 0 <;> simp [mayV, br, h0, hb]
    by_cases h1 : a = 1
    · simp [mayV, br, h1]
    by_cases h2 : a = 2
    · by_cases hb : b = 0 <;> simp [mayV, br, h2, hb, hg]
    simp [mayV, br, h0, h1, h2]
  · cases e
/- ### what may be, by the reference -/
def kRM : List Keep := [.no, .yes, .yes, .yes]
def tRM (r : Bool) (i : Nat) : List AV := [.any, .ptr (some (0, 0)), .bool r, .int .i64 i] ++ padAny 54
def sRM (a b : Int) (c : List UInt8) : St := [.cells [.int .i64 a, .int .i64 b, .str c]]
theorem rmay_body (a b : Int) (c : List UInt8) (G : LoopS) (k : AV → St → Prop) : bodyK Try.prog noP (addL 1 (headG 0 kRM G) noL) 100 23 [] [avV a b c] [] k  =
  br (decide (a = (0 : Int)))
    (br (decide (b = (0 : Int)))
      (k (AV.bool (eqBytes c [])) [])
      (k (AV.bool false) []))
    (br (decide (a = (1 : Int)))
      (k (AV.bool (eqBytes c [])) [])
      (br (decide (a = (2 : Int)))
        (G (([.any, AV.ptr (some ((0 : Nat), (0 : Nat))), AV.bool false, AV.int IntKind.i64 (0 : Int)] ++ padAny 54)) ([Ent.cells [AV.int IntKind.i64 a, AV.int IntKind.i64 b, AV.str c]]) (contB Try.prog noP (addL 1 (headG 0 kRM G) noL) 100 23 [] [] 1 k))
        (k (AV.bool false) []))) := by kernel_rfl
theorem rmay_round (a b : Int) (c : List UInt8) (i : Nat) (more : List AV → St → Prop) (kk : KS) : roundK Try.prog noP noL 100 23 1 (tRM false i) (sRM a b c) (againK 0 1 kRM kRM more kk) =
  br (decide ((↑i : Int) < (↑c.length : Int)))
    (br (decide ((0 : Int) ≤ (↑i : Int)) && decide ((↑i : Int) < (↑c.length : Int)))
      (br (decide ((↑(c.getD (↑i : Int).toNat (0 : UInt8)).toNat : Int) < (32 : Int)))
        (kk Ex.ret ([.any, AV.ptr (some ((0 : Nat), (0 : Nat))), AV.bool false, AV.int IntKind.i64 (↑i : Int)] ++ padAny 54) [Ent.cells [AV.int IntKind.i64 a, AV.int IntKind.i64 b, AV.str c]])
        (br (decide ((0 : Int) ≤ (↑i : Int)) && decide ((↑i : Int) < (↑c.length : Int)))
          (br (decide ((↑(c.getD (↑i : Int).toNat (0 : UInt8)).toNat : Int) > (126 : Int)))
            (kk Ex.ret ([.any, AV.ptr (some ((0 : Nat), (0 : Nat))), AV.bool false, AV.int IntKind.i64 (↑i : Int)] ++ padAny 54) [Ent.cells [AV.int IntKind.i64 a, AV.int IntKind.i64 b, AV.str c]])
            (br (decide ((0 : Int) ≤ (↑i : Int)) && decide ((↑i : Int) < (↑c.length : Int)))
              (br (decide ((↑(c.getD (↑i : Int).toNat (0 : UInt8)).toNat : Int) = (39 : Int)))
                (kk Ex.ret ([.any, AV.ptr (some ((0 : Nat), (0 : Nat))), AV.bool false, AV.int IntKind.i64 (↑i : Int)] ++ padAny 54) [Ent.cells [AV.int IntKind.i64 a, AV.int IntKind.i64 b, AV.str c]])
                (more ([.any, AV.ptr (some ((0 : Nat), (0 : Nat))), AV.bool false, AV.int IntKind.i64 (IntKind.i64.wrap ((↑i : Int) + (1 : Int)))] ++ padAny 54) [Ent.cells [AV.int IntKind.i64 a, AV.int IntKind.i64 b, AV.str c]]))
              (False)))
          (False)))
      (False))
    (kk Ex.normal ([.any, AV.ptr (some ((0 : Nat), (0 : Nat))), AV.bool false, AV.int IntKind.i64 (↑i : Int)] ++ padAny 54) [Ent.cells [AV.int IntKind.i64 a, AV.int IntKind.i64 b, AV.str c]]) := by kernel_rfl
theorem rmay_end (a b : Int) (c : List UInt8) (i : Nat) (F : LoopS) (k : AV → St → Prop) : contB Try.prog noP (addL 1 F noL) 100 23 [] [] 1 k .normal (tRM false i) (sRM a b c) =
  br (decide (b = (0 : Int)))
    (k (AV.bool (decide ((↑c.length : Int) ≤ (12 : Int)))) [])
    (k (AV.bool false) []) := by kernel_rfl
theorem rmay_ret (a b : Int) (c : List UInt8) (r : Bool) (i : Nat) (F : LoopS) (k : AV → St → Prop) : contB Try.prog noP (addL 1 F noL) 100 23 [] [] 1 k .ret (tRM r i) (sRM a b c) =
  k (AV.bool r) [] := by kernel_rfl
def MRM (a b : Int) (c : List UInt8) (z : Nat) (t : List AV) (s : St) (k : KS) : Prop := ∃ i : Nat, z + i = c.length ∧ t = tRM false i ∧ s = sRM a b c ∧
  match txtOk (c.drop i) with
  | true => ∀ j : Nat, k .normal (tRM false j) (sRM a b c)
  | false => ∀ j : Nat, k .ret (tRM false j) (sRM a b c)
theorem rmay_step (a b : Int) (c : List UInt8) (hc : c.length < 1000) : ∀ z t s k, MRM a b c z t s k → roundK Try.prog noP noL 100 23 1 t s (againK 0 1 kRM kRM (fun t' s' => ∃ z', z' < z ∧ MRM a b c z' t' s' k) k) := by
  rintro z t s k ⟨i, hz, rfl, rfl, hk⟩
  rw [rmay_round]
  refine br_iff.2 ⟨fun h1 => ?_, fun h1 => ?_⟩
  · have hin : (decide ((0 : Int) ≤ (↑i : Int)) && decide ((↑i : Int) < (↑c.length : Int))) = true := by simp; omega
    rw [drop_get (d := 0) (show i < c.length by omega)] at hk
    simp only [Int.toNat_natCast]
    by_cases p1 : ((c.getD i 0).toNat : Int) < 32
    · simp only [txtOk, p1, decide_true, Bool.true_or, Bool.not_true, Bool.false_and] at hk
      exact br_t hin (br_t (decide_eq_true p1) (hk i))
    by_cases p2 : ((c.getD i 0).toNat : Int) > 126
    · simp only [txtOk, p2, decide_true, Bool.true_or, Bool.or_true, Bool.not_true, Bool.false_and] at hk
      exact br_t hin (br_iff.2 ⟨fun h => absurd h p1, fun _ => br_t hin (br_t (decide_eq_true p2) (hk i))⟩)
    by_cases p3 : ((c.getD i 0).toNat : Int) = 39
    · simp only [txtOk, p3, decide_true, Bool.true_or, Bool.or_true, Bool.not_true, Bool.false_and] at hk
      exact br_t hin (br_iff.2 ⟨fun h => absurd h p1, fun _ => br_t hin (br_iff.2 ⟨fun h => absurd h p2, fun _ => br_t hin (br_t (decide_eq_true p3) (hk i))⟩)⟩)
    · simp only [txtOk, p1, p2, p3, decide_false, Bool.or_false, Bool.not_false, Bool.true_and] at hk
      refine br_t hin (br_iff.2 ⟨fun h => absurd h p1, fun _ => br_t hin (br_iff.2 ⟨fun h => absurd h p2, fun _ => br_t hin (br_iff.2 ⟨fun h => absurd h p3, fun _ => ?_⟩)⟩)⟩)
      refine ⟨c.length - (i + 1), by omega, i + 1, by omega, ?_, rfl, hk⟩
      simp only [tRM, wrap64 (x := (i : Int) + 1) (by omega) (by omega)]
      simp
  · rw [List.drop_eq_nil_of_le (by omega)] at hk
    exact hk i
theorem rmay_ok : SpecOk Try.prog 23 mayF.f := specOk_comes fun args s v s' tch e => by
  simp only [mayF] at e
  split at e
  · rename_i a b c
    obtain ⟨hg, rfl, rfl, rfl⟩ := run_ok e
    have hg := of_decide_eq_true hg
    have hd : distinctOk Try.prog 23 = true := by kernel_rfl
    refine comes_of ok prOk_none (L := 100) (ms := []) hd (loops_add (L := 100) (kh := kRM) ok prOk_none hd loops_none (rmay_step a b c hg)) ?_
    refine Eq.mpr (rmay_body a b c _ _) ?_
    by_cases h0 : a = 0
    · by_cases hb : b = 0 <;> simp [mayV, br, h0, hb]
    by_cases h1 : a = 1
    · simp [mayV, br, h1]
    refine br_iff.2 ⟨fun h => absurd h h0, fun _ => br_iff.2 ⟨fun h => absurd h h1, fun _ => br_iff.2 ⟨fun h2 => ?_, fun h2 => ?_⟩⟩⟩
    · subst h2
      refine ⟨c.length, 0, by omega, rfl, rfl, ?_⟩
      rw [List.drop_zero]
      cases h : txtOk c with
      | true => intro j; rw [rmay_end]; refine br_iff.2 ⟨fun h' => ⟨by simp [mayV, h, h'], rfl⟩, fun h' => ⟨by simp [mayV, h, h'], rfl⟩⟩
      | false => intro j; rw [rmay_ret]; exact ⟨by simp [mayV, h], rfl⟩
    · simp [mayV, h0, h1, h2]
  · cases e
end Go.Proofs.Ytkfdfenaaidkkaa
