/- Plain: orders of ways, ways that are cut. -/
import Derived.Test.YtekedhfmdpbplaaPvPo
import Derived.Test.YtekedhfmdpbplaaPoA
import Derived.Test.YtekedhfmdpbplaaSrQ
set_option linter.unusedSimpArgs false
set_option linter.unusedVariables false
set_option maxRecDepth 100000
namespace Go.Proofs.Ytekedhfmdpbplaa
open Go Go.Sy
theorem pathX_is (l : List D) : pathX_t0_V0 l = true ∧ pathX_t0_V1 l = pathD l := by
  have h := loop_map (stp := pathX_t0_L0 l) (fun k acc => (k, (k : Int), acc)) l (fun s => .str (cutS s.asStr 20)) 6 (fun k acc => (k, acc)) (fun k acc hk hc ha => by
    have hx := cutX_is (l.getD k .nul).asStr
    simp only [pathX_t0_L0, pathX_t0_L0_stp, nrun_br, nrun_more, nrun_done, nrun_fail, lt_cast hk, decide_eq_true (show (k : Int) < 6 by omega), ge0, wrap1 (show k < 1000000 by omega), Int.toNat_natCast, Nat.zero_add, Bool.and_true, if_true, hx.1, hx.2, app_take ha, grow_ok (n := k) (k := 0) (b := 16) (by omega) (by omega), ha, Nat.ble_self_eq_true]) (fun k acc hk ha => by
    rcases min_dec hk with h | ⟨h, h'⟩
    · simp only [pathX_t0_L0, pathX_t0_L0_stp, nrun_br, nrun_more, nrun_done, nrun_fail, h]; rfl
    · have h' : decide ((k : Int) < 6) = false := h'
      simp only [pathX_t0_L0, pathX_t0_L0_stp, nrun_br, nrun_more, nrun_done, nrun_fail, h, h']; rfl)
  have hl : ((l.take 6).map (fun s => D.str (cutS s.asStr 20))).length = min l.length 6 := by rw [List.length_map, List.length_take]; omega
  unfold pathX_t0_V0 pathX_t0_V1
  have h : loopR (pathX_t0_L0 l) ((0 : Nat), (0 : Int), []) = some (min l.length 6, (l.take 6).map (fun s => D.str (cutS s.asStr 20))) := h
  rw [loopOk_of h, loopV_of h]
  simp only [hl, Nat.zero_add, Nat.ble_self_eq_true, List.drop_zero]
  refine ⟨rfl, ?_⟩
  rw [List.take_of_length_le (by rw [hl]; omega)]
  rfl
theorem cmpS_is (a b : List UInt8) : cmpS_t0_V0 a b = true ∧ cmpS_t0_V1 a b = c3 a b := by
  unfold cmpS_t0_V0 cmpS_t0_V1 c3
  rw [eqBytes_refl a, eqBytes_refl b]
  rcases Bool.eq_false_or_eq_true (ltBytes a b) with p | p <;> rcases Bool.eq_false_or_eq_true (eqBytes a b) with q | q <;> simp only [p, q] <;> exact ⟨rfl, rfl⟩
theorem scmpP_is (l m : List D) (hl : l.length < 1000000) : scmpP_t0_V0 l m = true ∧ scmpP_t0_V1 l m = rowT l m := by
  have h := loop_first (stp := scmpP_t0_L0 (l, m, l, (l.length : Int))) l.length (fun k => if m.length ≤ k then some ((0 : Nat), (1 : Int)) else if c3 (l.getD k .nul).asStr (m.getD k .nul).asStr = 0 then none else some (0, c3 (l.getD k .nul).asStr (m.getD k .nul).asStr)) (1, 0) (fun k hk _ => by
    have hc := cmpS_is (l.getD k .nul).asStr (m.getD k .nul).asStr
    simp only [scmpP_t0_L0, scmpP_t0_L0_stp, nrun_br, nrun_more, nrun_done, nrun_fail, lt_cast hk, ge0, wrap1 (show k < 1000000 by omega), Int.toNat_natCast, Bool.and_true, if_true, hc.1, hc.2]
    by_cases h1 : m.length ≤ k
    · rw [if_pos h1, decide_eq_true (show (k : Int) ≥ (m.length : Int) by omega)]; rfl
    · rw [if_neg h1, decide_eq_false (show ¬ (k : Int) ≥ (m.length : Int) by omega), lt_cast (show k < m.length by omega)]
      by_cases h2 : c3 (l.getD k .nul).asStr (m.getD k .nul).asStr = 0
      · rw [if_pos h2, decide_eq_true h2]; rfl
      · rw [if_neg h2, decide_eq_false h2]; rfl) (fun _ => by
    simp only [scmpP_t0_L0, scmpP_t0_L0_stp, nrun_br, nrun_more, nrun_done, nrun_fail, lt_self, ge0]; rfl)
  have hn : ∀ j, (if m.length ≤ j then some ((0 : Nat), (1 : Int)) else if c3 (l.getD j .nul).asStr (m.getD j .nul).asStr = 0 then none else some (0, c3 (l.getD j .nul).asStr (m.getD j .nul).asStr)) = none → j < m.length ∧ c3 (l.getD j .nul).asStr (m.getD j .nul).asStr = 0 := by
    intro j hj
    by_cases h1 : m.length ≤ j
    · rw [if_pos h1] at hj; cases hj
    · rw [if_neg h1] at hj
      by_cases h2 : c3 (l.getD j .nul).asStr (m.getD j .nul).asStr = 0
      · exact ⟨by omega, h2⟩
      · rw [if_neg h2] at hj; cases hj
  unfold scmpP_t0_V0 scmpP_t0_V1
  rcases h with ⟨k, y, k1, k2, k3, k4⟩ | ⟨k2, k4⟩
  · rw [loopOk_of k4, loopV_of k4]
    by_cases h1 : m.length ≤ k
    · rw [if_pos h1] at k3
      cases k3
      have : rowT l m = 1 := by
        rw [rowT_even (fun j hj hj' => (hn j (k2 j (by omega))).2), if_neg (by omega), if_pos (by omega)]
      rw [this]
      exact ⟨rfl, rfl⟩
    · rw [if_neg h1] at k3
      by_cases h2 : c3 (l.getD k .nul).asStr (m.getD k .nul).asStr = 0
      · rw [if_pos h2] at k3; cases k3
      · rw [if_neg h2] at k3
        cases k3
        rw [rowT_first k1 (by omega) (fun j hj => (hn j (k2 j hj)).2) h2]
        exact ⟨rfl, rfl⟩
  · rw [loopOk_of k4, loopV_of k4, rowT_even (fun j hj _ => (hn j (k2 j hj)).2)]
    have hlm : l.length ≤ m.length := by
      rcases Nat.eq_zero_or_pos l.length with h0 | h0
      · omega
      · have := (hn (l.length - 1) (k2 _ (by omega))).1; omega
    by_cases h1 : l.length < m.length
    · rw [if_pos h1, lt_cast h1]; exact ⟨rfl, rfl⟩
    · rw [if_neg h1, if_neg (by omega), decide_eq_false (show ¬ (l.length : Int) < (m.length : Int) by omega)]; exact ⟨rfl, rfl⟩
theorem pcmpP_is (l m : List D) (hl : l.length < 1000000) : pcmpP_t0_V0 l m = true := by
  unfold pcmpP_t0_V0; rw [(scmpP_is l m hl).1]; rfl
theorem pathD_len (l : List D) : (pathD l).length < 1000000 := by
  unfold pathD; rw [List.length_map, List.length_take]; omega
end Go.Proofs.Ytekedhfmdpbplaa
