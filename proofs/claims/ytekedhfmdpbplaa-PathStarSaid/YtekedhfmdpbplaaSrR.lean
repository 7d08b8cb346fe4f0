/- Plain: forms as they are kept; the same form; names. -/
import Derived.Test.YtekedhfmdpbplaaSrP
import Derived.Test.YtekedhfmdpbplaaSrQ
set_option linter.unusedSimpArgs false
set_option linter.unusedVariables false
set_option maxRecDepth 100000
namespace Go.Proofs.Ytekedhfmdpbplaa
open Go Go.Sy
theorem form_step {c : List UInt8} {l : List D} {k : Nat} (hk : k < l.length) :
    (nmIs c (l.getD k .nul) = true → ((l.take k).map (fun x => if nmIs c x then must x else x) ++ l.drop k).set k (must (l.getD k .nul)) = (l.take (k + 1)).map (fun x => if nmIs c x then must x else x) ++ l.drop (k + 1)) ∧
    (nmIs c (l.getD k .nul) = false → ((l.take k).map (fun x => if nmIs c x then must x else x) ++ l.drop k) = (l.take (k + 1)).map (fun x => if nmIs c x then must x else x) ++ l.drop (k + 1)) := by
  have hlen : ((l.take k).map (fun x => if nmIs c x then must x else x)).length = k := by rw [List.length_map, List.length_take]; omega
  have e1 : (l.take (k + 1)).map (fun x => if nmIs c x then must x else x) = (l.take k).map (fun x => if nmIs c x then must x else x) ++ [if nmIs c (l.getD k .nul) then must (l.getD k .nul) else l.getD k .nul] := by
    rw [take_one hk, List.map_append]; rfl
  rw [e1, List.append_assoc]
  constructor
  · intro h
    rw [List.set_append_right _ _ (by omega), hlen, Nat.sub_self, drop_get (d := .nul) hk, if_pos h]
    rfl
  · intro h
    rw [h, if_neg (by simp), drop_get (d := .nul) hk]
    rfl
theorem formR_is (a : List UInt8) (l : List D) (c : List UInt8) (d : List D) (hl : l.length < 1000000) : formR_t0_V0 a l c d = true ∧ formR_t0_V1 a l c d = formC c l := by
  have h : loopR (formR_t0_L0 (a, l.length, c, d)) (l, (0 : Int)) = some (formC c l) := by
    have := loop_goodE (stp := formR_t0_L0 (a, l.length, c, d)) (fun k => ((l.take k).map (fun x => if nmIs c x then must x else x) ++ l.drop k, (k : Int))) l.length (fun _ => true) (fun _ => []) (formC c l) (fun k hk => by
      have hlen : ((l.take k).map (fun x => if nmIs c x then must x else x) ++ l.drop k).length = l.length := by simp; omega
      have hget : ((l.take k).map (fun x => if nmIs c x then must x else x) ++ l.drop k).getD k .nul = l.getD k .nul := by
        rw [List.getD, List.getElem?_append_right (by rw [List.length_map, List.length_take]; omega), List.length_map, List.length_take, Nat.min_eq_left (by omega), Nat.sub_self, List.getElem?_drop]
        rfl
      have hs := form_step (c := c) hk
      simp only [formR_t0_L0, formR_t0_L0_stp, nrun_br, nrun_more, nrun_done, nrun_fail, lt_cast hk, ge0, wrap1 (show k < 1000000 by omega), Int.toNat_natCast, Nat.zero_add, Bool.and_true, if_true, hlen, decide_eq_true hk, hget]
      rcases Bool.eq_false_or_eq_true (nmIs c (l.getD k .nul)) with p | p
      · have h1 := hs.1 p
        unfold nmIs at p
        simp only [p, if_true]
        exact congrArg (fun z => Nxt.more (z, ((k + 1 : Nat) : Int))) h1
      · have h1 := hs.2 p
        unfold nmIs at p
        simp only [p, Bool.false_eq_true, if_false]
        exact congrArg (fun z => Nxt.more (z, ((k + 1 : Nat) : Int))) h1) (by
      have : (l.take l.length).map (fun x => if nmIs c x then must x else x) ++ l.drop l.length = formC c l := by rw [List.take_length, List.drop_length, List.append_nil]; rfl
      simp only [formR_t0_L0, formR_t0_L0_stp, nrun_br, nrun_more, nrun_done, nrun_fail, lt_self, ge0, this]; rfl)
    rcases this with ⟨k, _, h1, _⟩ | ⟨_, h2⟩
    · rw [allN_iff.2 (fun _ _ => rfl)] at h1; cases h1
    · exact h2
  unfold formR_t0_V0 formR_t0_V1
  rw [loopOk_of h, loopV_of h]
  simp only [formC_len, Nat.zero_add, Nat.ble_self_eq_true, List.drop_zero]
  refine ⟨?_, ?_⟩
  · simp only [Bool.and_true]
    exact Nat.ble_eq_true_of_le (by omega)
  · rw [List.take_of_length_le (by rw [formC_len]; omega)]
theorem cmpR_refl (l : List D) (hl : l.length < 1000000) : cmpR_t0_V0 l l = true ∧ cmpR_t0_V1 l l = 0 := by
  have h : loopR (cmpR_t0_L0 (l, l)) 0 = some (1, 0) := by
    rcases loop_goodE (stp := cmpR_t0_L0 (l, l)) (fun k => (k : Int)) l.length (fun _ => true) (fun _ => (0, 0)) (1, 0) (fun k hk => by
      simp only [cmpR_t0_L0, cmpR_t0_L0_stp, nrun_br, nrun_more, nrun_done, nrun_fail, lt_cast hk, ge0, wrap1 (show k < 1000000 by omega), Int.toNat_natCast, Bool.and_true, if_true, ltBytes_irrefl, eqBytes_refl]
      rfl) (by
      simp only [cmpR_t0_L0, cmpR_t0_L0_stp, nrun_br, nrun_more, nrun_done, nrun_fail, lt_self, ge0]; rfl) with ⟨k, _, h1, _⟩ | ⟨_, h2⟩
    · rw [allN_iff.2 (fun _ _ => rfl)] at h1; cases h1
    · exact h2
  unfold cmpR_t0_V0 cmpR_t0_V1
  rw [loopOk_of h, loopV_of h, lt_self]
  exact ⟨rfl, rfl⟩
theorem eqtR_refl (a : List UInt8) (l : List D) (c : List UInt8) (d : List D) (hl : l.length < 1000000) (hd : d.length < 1000000) (hd' : ∀ i, i < d.length → ((d.getD i .nul).fld 0).els.length < 1000000) :
    eqtR_t0_V0 a l c d a l c d = true ∧ eqtR_t0_V1 a l c d a l c d = true := by
  have h0 := loopA (b := true) (loop_allN (stp := eqtR_t0_L0 (a, l, c, d, a, l, c, d)) l.length (fun _ => true) (fun k hk _ => by
    simp only [eqtR_t0_L0, eqtR_t0_L0_stp, nrun_br, nrun_more, nrun_done, nrun_fail, lt_cast hk, ge0, wrap1 (show k < 1000000 by omega), Int.toNat_natCast, Bool.and_true, if_true, eqBytes_refl, decide_true]
    cases ((l.getD k .nul).fld 2).asBool <;> rfl) (by
    simp only [eqtR_t0_L0, eqtR_t0_L0_stp, nrun_br, nrun_more, nrun_done, nrun_fail, lt_self, ge0]; rfl) |>.trans (by rw [allN_iff.2 (fun _ _ => rfl)]))
  have h2 := loopA (b := true) (loop_allN (stp := eqtR_t0_L2 (a, l, c, d, a, l, c, d)) d.length (fun _ => true) (fun k hk _ => by
    have hc := cmpR_refl ((d.getD k .nul).fld 0).els (hd' k hk)
    have he : eqpR_t0_V0 ((d.getD k .nul).fld 0).els ((d.getD k .nul).fld 0).els = true := by unfold eqpR_t0_V0; rw [hc.2]; rfl
    simp only [eqtR_t0_L2, eqtR_t0_L2_stp, nrun_br, nrun_more, nrun_done, nrun_fail, lt_cast hk, ge0, wrap1 (show k < 1000000 by omega), Int.toNat_natCast, Bool.and_true, if_true, eqBytes_refl, hc.1, he]
    rfl) (by
    simp only [eqtR_t0_L2, eqtR_t0_L2_stp, nrun_br, nrun_more, nrun_done, nrun_fail, lt_self, ge0]; rfl) |>.trans (by rw [allN_iff.2 (fun _ _ => rfl)]))
  unfold eqtR_t0_V0 eqtR_t0_V1
  simp only [h0.1, h0.2.1, h0.2.2, h2.1, h2.2.1, h2.2.2, eqBytes_refl, decide_true]
  exact ⟨rfl, rfl⟩
theorem namesP_is (w : List D) (hw : w.length < 1000000) : namesP_t0_V0 w.length w = true ∧ namesP_t0_V1 w.length w = colNames w := by
  have h : loopR (namesP_t0_L0 (w.length, (w.length : Int), w.length, w)) ((0 : Nat), (0 : Int), []) = some (w.length, colNames w) := by
    have := loop_map (stp := namesP_t0_L0 (w.length, (w.length : Int), w.length, w)) (fun k acc => (k, (k : Int), acc)) w (fun x => .str (x.fld 0).asStr) w.length (fun k acc => (k, acc)) (fun k acc hk hc ha => by
      simp only [namesP_t0_L0, namesP_t0_L0_stp, nrun_br, nrun_more, nrun_done, nrun_fail, lt_cast hk, ge0, wrap1 (show k < 1000000 by omega), Int.toNat_natCast, Nat.zero_add, Bool.and_true, if_true, decide_eq_true hk, app_take ha, grow_ok (n := k) (k := 0) (b := 16) (by omega) (by omega), ha, Nat.ble_self_eq_true]) (fun k acc hk ha => by
      obtain rfl : k = w.length := by omega
      simp only [namesP_t0_L0, namesP_t0_L0_stp, nrun_br, nrun_more, nrun_done, nrun_fail, lt_self]; rfl)
    rw [Nat.min_self, List.take_length] at this
    exact this
  unfold namesP_t0_V0 namesP_t0_V1
  rw [loopOk_of h, loopV_of h]
  simp only [colNames_len, Nat.zero_add, Nat.ble_self_eq_true, List.drop_zero]
  refine ⟨rfl, ?_⟩
  rw [List.take_of_length_le (by rw [colNames_len]; omega)]
end Go.Proofs.Ytekedhfmdpbplaa
