/- JudgeSorted comes to true. -/
import Derived.Test.YteoockodkddipaaJuC
import Derived.Test.YteoockodkddipaaJz
import Derived.KernelRfl
set_option linter.unusedSimpArgs false
set_option linter.unusedVariables false
set_option maxRecDepth 100000
namespace Go.Proofs.Yteoockodkddipaa
open Go Go.Sy
theorem colIn_add {n : Nat} {S : List D} {x : D} (h : colIn n S) (h0 : 0 ≤ (x.fld 0).asInt) (h1 : (x.fld 0).asInt < (n : Int)) : colIn n (S ++ [x]) := by
  intro k hk
  rw [List.length_append, List.length_singleton] at hk
  by_cases hs : k < S.length
  · have e : (S ++ [x]).getD k .nul = S.getD k .nul := by simp only [List.getD_eq_getElem?_getD, List.getElem?_append_left hs]
    rw [e]; exact h k hs
  · obtain rfl : k = S.length := by omega
    have e : (S ++ [x]).getD S.length .nul = x := by simp [List.getD_eq_getElem?_getD]
    rw [e]; exact ⟨h0, h1⟩
theorem js_L0 (rs l : List D) : ∀ (f k : Nat) (S : List D), k + f = 4 → S.length ≤ k → colIn 3 S →
    ∃ T, T.length ≤ 4 ∧ colIn 3 T ∧ loopR (jsort_t0_L0 (rs, l)) ((k : Int), S.length, S) = some (T.length, T) := by
  intro f
  induction f with
  | zero =>
    intro k S hk hS hc
    obtain rfl : k = 4 := by omega
    refine ⟨S, hS, hc, ?_⟩
    rw [loopR_eq]
    have e4 : decide (((4 : Nat) : Int) < (4 : Int)) = false := by decide
    simp only [jsort_t0_L0, jsort_t0_L0_stp, nrun_br, nrun_more, nrun_done, nrun_fail, e4, Bool.false_eq_true, if_false]
    rcases Bool.eq_false_or_eq_true (decide (((4 : Nat) : Int) < (l.length : Int))) with p | p <;> simp only [p, if_true, if_false, Bool.false_eq_true]
  | succ f ih =>
    intro k S hk hS hc
    by_cases hlt : k < l.length
    · have e4 : decide ((k : Int) < (4 : Int)) = true := decide_eq_true (by omega)
      by_cases h0 : ((l.getD k .nul).fld 0).asInt ≥ 0
      · by_cases h1 : ((l.getD k .nul).fld 0).asInt < 3
        · obtain ⟨T, t1, t2, t3⟩ := ih (k + 1) (S ++ [D.agg [D.int ((l.getD k .nul).fld 0).asInt, D.bool ((l.getD k .nul).fld 1).asBool]]) (by omega) (by rw [List.length_append, List.length_singleton]; omega) (colIn_add hc h0 h1)
          refine ⟨T, t1, t2, ?_⟩
          rw [loopR_eq]
          simp only [jsort_t0_L0, jsort_t0_L0_stp, nrun_br, nrun_more, nrun_done, nrun_fail, lt_cast hlt, ge0, e4, wrap1 (show k < 1000000 by omega), Int.toNat_natCast, Nat.zero_add, decide_eq_true h0, decide_eq_true h1, app_take (n := S.length) (acc := S) rfl, grow_ok (n := S.length) (k := 0) (b := 16) (by omega) (by omega), Nat.ble_self_eq_true, Bool.and_self, if_true]
          rw [List.length_append, List.length_singleton] at t3
          exact t3
        · obtain ⟨T, t1, t2, t3⟩ := ih (k + 1) S (by omega) (by omega) hc
          refine ⟨T, t1, t2, ?_⟩
          rw [loopR_eq]
          simp only [jsort_t0_L0, jsort_t0_L0_stp, nrun_br, nrun_more, nrun_done, nrun_fail, lt_cast hlt, ge0, e4, wrap1 (show k < 1000000 by omega), Int.toNat_natCast, decide_eq_true h0, decide_eq_false h1, Bool.and_self, if_true, Bool.false_eq_true, if_false]
          exact t3
      · obtain ⟨T, t1, t2, t3⟩ := ih (k + 1) S (by omega) (by omega) hc
        refine ⟨T, t1, t2, ?_⟩
        rw [loopR_eq]
        simp only [jsort_t0_L0, jsort_t0_L0_stp, nrun_br, nrun_more, nrun_done, nrun_fail, lt_cast hlt, ge0, e4, wrap1 (show k < 1000000 by omega), Int.toNat_natCast, decide_eq_false h0, Bool.and_self, if_true, Bool.false_eq_true, if_false]
        exact t3
    · refine ⟨S, by omega, hc, ?_⟩
      rw [loopR_eq]
      simp only [jsort_t0_L0, jsort_t0_L0_stp, nrun_br, nrun_more, nrun_done, nrun_fail, decide_eq_false (show ¬ (k : Int) < (l.length : Int) by omega), Bool.false_eq_true, if_false]
theorem jsort_is (a ord : List D) : ∃ b, jsort_t0_V0 a ord = true ∧ jsort_t0 a ord = RT.br (jsort_t0_V0 a ord) (okL (AV.bool b) []) RT.fail ∧ b = true := by
  have hr := rows_is a 3 (by omega)
  have hr1 : rowsL_t0_V0 a (3 : Int) = true := hr.1
  have hr2 : rowsL_t0_V1 a (3 : Int) = rowsT 3 a := hr.2
  obtain ⟨T, t1, t2, t3⟩ := js_L0 (rowsT 3 a) ord 4 0 [] (by omega) (by simp) (fun k h => by simp at h)
  have t3 : loopR (jsort_t0_L0 (rowsT 3 a, ord)) ((0 : Int), (0 : Nat), []) = some (T.length, T) := t3
  have hrl : (rowsT 3 a).length ≤ 15 := by unfold rowsT; rw [List.length_map, List.length_take]; omega
  obtain ⟨F, f1, f2, f3, f4, f5⟩ := fin_is (rowsT 3 a) [] [] 0 [] [] T (by omega) [] 3 t2 (by omega) (rowsT_in 3 a) (by omega)
  have ho := ord_sorted [] [] 0 [] [] [] T (by omega) 0 [] F 3 (by omega) f2 (by omega) f3
  refine ⟨_, ?_, rfl, ?_⟩
  · unfold jsort_t0_V0
    simp only [hr1, hr2, loopOk_of t3, loopV_of t3, Nat.zero_add, Nat.ble_self_eq_true, List.drop_zero, List.take_of_length_le (Nat.le_refl T.length), f4, f5, ho.1]
    rfl
  · simp only [hr1, hr2, loopOk_of t3, loopV_of t3, Nat.zero_add, List.drop_zero, List.take_of_length_le (Nat.le_refl T.length), f5, ho.2]
theorem jsort_run (a ord : List D) : (jsort.f [.fz false shRow a, .fz false shOrd ord] []).run = some (.bool true, [], []) := by
  obtain ⟨b, h1, h2, h3⟩ := jsort_is a ord
  have hb : (Sh.beq shRow (Sh.struct [Sh.int IntKind.i64, shV.slice]) && (Sh.beq shOrd (Sh.struct [Sh.int IntKind.i64, Sh.bool]) && true)) = true := by kernel_rfl
  show RT.run (.br (Sh.beq shRow (Sh.struct [Sh.int IntKind.i64, shV.slice]) && (Sh.beq shOrd (Sh.struct [Sh.int IntKind.i64, Sh.bool]) && true)) (jsort_t0 a ord) .fail) = _
  rw [hb, h2, h1, h3]
  rfl
theorem jsort_comes (a ord : List D) : Sy.Comes Try.prog 4 [.fz false shRow a, .fz false shOrd ord] [] (.bool true) [] :=
  ⟨jsort_ok.len _ _ _ _ _ (jsort_run a ord), jsort_ok.calls _ _ _ _ _ (jsort_run a ord)⟩
end Go.Proofs.Yteoockodkddipaa
