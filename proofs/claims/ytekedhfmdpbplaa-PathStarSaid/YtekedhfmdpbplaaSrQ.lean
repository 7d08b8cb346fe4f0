/- Plain: the statements' own cuts. -/
import Derived.Test.YtekedhfmdpbplaaPvMp
import Derived.Test.YtekedhfmdpbplaaSl
set_option linter.unusedSimpArgs false
set_option linter.unusedVariables false
set_option maxRecDepth 100000
namespace Go.Proofs.Ytekedhfmdpbplaa
open Go Go.Sy
theorem cutX_is (c : List UInt8) : cutX_t0_V0 c 20 = true ∧ cutX_t0_V1 c 20 = cutS c 20 := by
  unfold cutX_t0_V0 cutX_t0_V1 cutS
  by_cases h : (c.length : Int) > 20
  · rw [if_pos h]; simp [h]; omega
  · rw [if_neg h]; simp [h]
theorem pathL_is (l : List D) : pathL_t0_V0 l = true ∧ pathL_t0_V1 l = pathD l := by
  have h := loop_map (stp := pathL_t0_L0 l) (fun k acc => (k, (k : Int), acc)) l (fun s => .str (cutS s.asStr 20)) 6 (fun k acc => (k, acc)) (fun k acc hk hc ha => by
    have hx := cutX_is (l.getD k .nul).asStr
    simp only [pathL_t0_L0, pathL_t0_L0_stp, nrun_br, nrun_more, nrun_done, nrun_fail, lt_cast hk, decide_eq_true (show (k : Int) < 6 by omega), ge0, wrap1 (show k < 1000000 by omega), Int.toNat_natCast, Nat.zero_add, Bool.and_true, if_true, hx.1, hx.2, app_take ha, grow_ok (n := k) (k := 0) (b := 16) (by omega) (by omega), ha, Nat.ble_self_eq_true]) (fun k acc hk ha => by
    rcases min_dec hk with h | ⟨h, h'⟩
    · simp only [pathL_t0_L0, pathL_t0_L0_stp, nrun_br, nrun_more, nrun_done, nrun_fail, h]; rfl
    · have h' : decide ((k : Int) < 6) = false := h'
      simp only [pathL_t0_L0, pathL_t0_L0_stp, nrun_br, nrun_more, nrun_done, nrun_fail, h, h']; rfl)
  have hl : ((l.take 6).map (fun s => D.str (cutS s.asStr 20))).length = min l.length 6 := by rw [List.length_map, List.length_take]; omega
  unfold pathL_t0_V0 pathL_t0_V1
  have h : loopR (pathL_t0_L0 l) ((0 : Nat), (0 : Int), []) = some (min l.length 6, (l.take 6).map (fun s => D.str (cutS s.asStr 20))) := h
  rw [loopOk_of h, loopV_of h]
  simp only [hl, Nat.zero_add, Nat.ble_self_eq_true, List.drop_zero]
  refine ⟨rfl, ?_⟩
  rw [List.take_of_length_le (by rw [hl]; omega)]
  rfl
theorem tabL_is (a : List UInt8) (l : List D) (c : List UInt8) (d : List D) : tabL_t0_V0 a l c d = true ∧ tabL_t0_V1 a l c d = (l.take 8).map colD ∧ tabL_t0_V2 a l c d = (d.take 5).map depD := by
  have h0 : loopR (tabL_t0_L0 (a, l, c, d, cutX_t0_V1 a 20, cutX_t0_V1 c 20)) ((0 : Int), (0 : Nat), []) = some (min l.length 8, (l.take 8).map colD) := loop_map (stp := tabL_t0_L0 (a, l, c, d, cutX_t0_V1 a 20, cutX_t0_V1 c 20)) (fun k acc => ((k : Int), k, acc)) l colD 8 (fun k acc => (k, acc)) (fun k acc hk hc ha => by
    have hx := cutX_is ((l.getD k .nul).fld 0).asStr
    have hy := cutX_is ((l.getD k .nul).fld 3).asStr
    simp only [tabL_t0_L0, tabL_t0_L0_stp, nrun_br, nrun_more, nrun_done, nrun_fail, lt_cast hk, decide_eq_true (show (k : Int) < 8 by omega), ge0, wrap1 (show k < 1000000 by omega), Int.toNat_natCast, Nat.zero_add, Bool.and_true, if_true, hx.1, hx.2, hy.1, hy.2, app_take ha, grow_ok (n := k) (k := 0) (b := 48) (by omega) (by omega), ha, Nat.ble_self_eq_true]
    rfl) (fun k acc hk ha => by
    rcases min_dec hk with h | ⟨h, h'⟩
    · simp only [tabL_t0_L0, tabL_t0_L0_stp, nrun_br, nrun_more, nrun_done, nrun_fail, h]; rfl
    · have h' : decide ((k : Int) < 8) = false := h'
      simp only [tabL_t0_L0, tabL_t0_L0_stp, nrun_br, nrun_more, nrun_done, nrun_fail, h, h']; rfl)
  have e0 : loopV (tabL_t0_L0 (a, l, c, d, cutX_t0_V1 a 20, cutX_t0_V1 c 20)) ((0 : Int), (0 : Nat), []) = (min l.length 8, (l.take 8).map colD) := loopV_of h0
  have h2 : ∀ n0 l0, loopR (tabL_t0_L2 (a, l, c, d, cutX_t0_V1 a 20, n0, cutX_t0_V1 c 20, l0)) ((0 : Int), (0 : Nat), []) = some (min d.length 5, (d.take 5).map depD) := fun n0 l0 => loop_map (stp := tabL_t0_L2 (a, l, c, d, cutX_t0_V1 a 20, n0, cutX_t0_V1 c 20, l0)) (fun k acc => ((k : Int), k, acc)) d depD 5 (fun k acc => (k, acc)) (fun k acc hk hc ha => by
    have hx := pathL_is ((d.getD k .nul).fld 0).els
    have hy := cutX_is ((d.getD k .nul).fld 1).asStr
    simp only [tabL_t0_L2, tabL_t0_L2_stp, nrun_br, nrun_more, nrun_done, nrun_fail, lt_cast hk, decide_eq_true (show (k : Int) < 5 by omega), ge0, wrap1 (show k < 1000000 by omega), Int.toNat_natCast, Nat.zero_add, Bool.and_true, if_true, hx.1, hx.2, hy.1, hy.2, app_take ha, grow_ok (n := k) (k := 0) (b := 40) (by omega) (by omega), ha, Nat.ble_self_eq_true]
    rfl) (fun k acc hk ha => by
    rcases min_dec hk with h | ⟨h, h'⟩
    · simp only [tabL_t0_L2, tabL_t0_L2_stp, nrun_br, nrun_more, nrun_done, nrun_fail, h]; rfl
    · have h' : decide ((k : Int) < 5) = false := h'
      simp only [tabL_t0_L2, tabL_t0_L2_stp, nrun_br, nrun_more, nrun_done, nrun_fail, h, h']; rfl)
  have l0 : ((l.take 8).map colD).length = min l.length 8 := by rw [List.length_map, List.length_take]; omega
  have l2 : ((d.take 5).map depD).length = min d.length 5 := by rw [List.length_map, List.length_take]; omega
  unfold tabL_t0_V0 tabL_t0_V1 tabL_t0_V2
  rw [loopOk_of h0, e0, loopOk_of (h2 _ _), loopV_of (h2 _ _), (cutX_is a).1, (cutX_is c).1]
  simp only [l0, l2, Nat.zero_add, Nat.ble_self_eq_true, List.drop_zero]
  refine ⟨rfl, ?_, ?_⟩
  · rw [List.take_of_length_le (by rw [l0]; omega)]
  · rw [List.take_of_length_le (by rw [l2]; omega)]
theorem tabsL_is (l : List D) : tabsL_t0_V0 l = true ∧ tabsL_t0_V1 l = tabsD l := by
  have h : loopR (tabsL_t0_L0 l) ((0 : Nat), (0 : Int), []) = some (min l.length 12, (l.take 12).map tabD) := loop_map (stp := tabsL_t0_L0 l) (fun k acc => (k, (k : Int), acc)) l tabD 12 (fun k acc => (k, acc)) (fun k acc hk hc ha => by
    have hx := tabL_is ((l.getD k .nul).fld 0).asStr ((l.getD k .nul).fld 1).els ((l.getD k .nul).fld 2).asStr ((l.getD k .nul).fld 3).els
    simp only [tabsL_t0_L0, tabsL_t0_L0_stp, nrun_br, nrun_more, nrun_done, nrun_fail, lt_cast hk, decide_eq_true (show (k : Int) < 12 by omega), ge0, wrap1 (show k < 1000000 by omega), Int.toNat_natCast, Nat.zero_add, Bool.and_true, if_true, hx.1, hx.2.1, hx.2.2, (cutX_is _).2, app_take ha, grow_ok (n := k) (k := 0) (b := 80) (by omega) (by omega), ha, Nat.ble_self_eq_true]
    rfl) (fun k acc hk ha => by
    rcases min_dec hk with h | ⟨h, h'⟩
    · simp only [tabsL_t0_L0, tabsL_t0_L0_stp, nrun_br, nrun_more, nrun_done, nrun_fail, h]; rfl
    · have h' : decide ((k : Int) < 12) = false := h'
      simp only [tabsL_t0_L0, tabsL_t0_L0_stp, nrun_br, nrun_more, nrun_done, nrun_fail, h, h']; rfl)
  have hl : ((l.take 12).map tabD).length = min l.length 12 := by rw [List.length_map, List.length_take]; omega
  unfold tabsL_t0_V0 tabsL_t0_V1
  rw [loopOk_of h, loopV_of h]
  simp only [hl, Nat.zero_add, Nat.ble_self_eq_true, List.drop_zero]
  refine ⟨rfl, ?_⟩
  rw [List.take_of_length_le (by rw [hl]; omega)]
  rfl
end Go.Proofs.Ytekedhfmdpbplaa
