/- Plain: rows that the statements take over; rows that are laid in order. -/
import Derived.Test.YteoockodkddipaaJuA
set_option linter.unusedSimpArgs false
set_option linter.unusedVariables false
set_option maxRecDepth 100000
namespace Go.Proofs.Yteoockodkddipaa
open Go Go.Sy
theorem valsX_loop (l : List D) (n : Nat) (hn : n < 1000000) : loopR (valsX_t0_L0 (l, (n : Int))) ((0 : Nat), (0 : Int), []) = some (min l.length n, (l.take n).map valD) :=
  loop_map (stp := valsX_t0_L0 (l, (n : Int))) (fun k acc => (k, (k : Int), acc)) l valD n (fun k acc => (k, acc)) (fun k acc h1 h2 h3 => by
    simp only [valsX_t0_L0, valsX_t0_L0_stp, nrun_br, nrun_more, nrun_done, nrun_fail, lt_cast h1, lt_cast h2, ge0, wrap1 (show k < 1000000 by omega), Int.toNat_natCast, Nat.zero_add, Bool.and_true, if_true, app_take h3, grow_ok (n := k) (k := 0) (b := 32) (by omega) (by omega), h3, Nat.ble_self_eq_true, Bool.and_self]
    rfl) (fun k acc h1 h2 => by
    rcases min_dec h1 with e | ⟨e1, e2⟩
    · simp only [valsX_t0_L0, valsX_t0_L0_stp, nrun_br, nrun_more, nrun_done, nrun_fail, e, Bool.false_eq_true, if_false]
    · simp only [valsX_t0_L0, valsX_t0_L0_stp, nrun_br, nrun_more, nrun_done, nrun_fail, e1, e2, Bool.false_eq_true, if_false, if_true])
theorem valsX_is (l : List D) (n : Nat) (hn : n < 1000000) : valsX_t0_V0 l (n : Int) = true ∧ valsX_t0_V1 l (n : Int) = min l.length n ∧ valsX_t0_V2 l (n : Int) = (l.take n).map valD := by
  have hL := valsX_loop l n hn
  unfold valsX_t0_V0 valsX_t0_V1 valsX_t0_V2
  simp only [loopOk_of hL, loopV_of hL]
  refine ⟨?_, ?_, ?_⟩ <;> first | trivial | rfl
/-- A value that is none. -/
def zV : D := .agg [.int 0, .int 0, .str []]
/-- A row of n values. -/
def padV (l : List D) (n : Nat) : List D := l ++ List.replicate (n - l.length) zV
theorem padV_len (l : List D) (n : Nat) (h : l.length ≤ n) : (padV l n).length = n := by
  unfold padV; rw [List.length_append, List.length_replicate]; omega
theorem pad_loop (l0 : List D) (n : Nat) (hn : n < 1000000) (n10 : Nat) (i11 : Int) (l12 : List D) : ∀ f k (acc : List D) (b : Bool), k + f = n → acc.length = k →
    ∃ b', loopR (rowsL_t0_L2 (l0, (n : Int), n10, i11, l12)) (k, acc, b) = some (b', n, acc ++ List.replicate f zV) := by
  intro f
  induction f with
  | zero =>
    intro k acc b hk ha
    obtain rfl : k = n := by omega
    refine ⟨b, ?_⟩
    rw [loopR_eq]
    simp only [rowsL_t0_L2, rowsL_t0_L2_stp, nrun_br, nrun_more, nrun_done, nrun_fail, lt_self, Bool.false_eq_true, if_false, List.replicate, List.append_nil]
  | succ f ih =>
    intro k acc b hk ha
    obtain ⟨b', h⟩ := ih (k + 1) (acc ++ [zV]) (b || true) (by omega) (by rw [List.length_append]; simp; omega)
    refine ⟨b', ?_⟩
    rw [loopR_eq]
    simp only [rowsL_t0_L2, rowsL_t0_L2_stp, nrun_br, nrun_more, nrun_done, nrun_fail, lt_cast (show k < n by omega), ha, Nat.zero_add, Nat.ble_self_eq_true, Bool.and_true, if_true, app_take ha, grow_ok (n := k) (k := 0) (b := 32) (by omega) (by omega)]
    have e : acc ++ zV :: List.replicate f zV = acc ++ [zV] ++ List.replicate f zV := by simp
    rw [List.replicate_succ, e]
    exact h
/-- What the statements make of a row. -/
def rowT (n : Nat) (r : D) : D := mkR (r.fld 0).asInt (padV (((r.fld 1).els.take n).map valD) n)
theorem rows_loop (l : List D) (n : Nat) (hn : n ≤ 1000) : loopR (rowsL_t0_L0 (l, (n : Int))) ((0 : Nat), (0 : Int), []) = some (min l.length 15, (l.take 15).map (rowT n)) :=
  loop_map (stp := rowsL_t0_L0 (l, (n : Int))) (fun k acc => (k, (k : Int), acc)) l (rowT n) 15 (fun k acc => (k, acc)) (fun k acc h1 h2 h3 => by
    have hv := valsX_is ((l.getD k .nul).fld 1).els n (by omega)
    have hl : ((((l.getD k .nul).fld 1).els.take n).map valD).length = min ((l.getD k .nul).fld 1).els.length n := by rw [List.length_map, List.length_take, Nat.min_comm]
    obtain ⟨b', hp⟩ := pad_loop l n (by omega) k (k : Int) acc (n - min ((l.getD k .nul).fld 1).els.length n) (min ((l.getD k .nul).fld 1).els.length n) ((((l.getD k .nul).fld 1).els.take n).map valD) false (by omega) hl
    have e15 : decide ((k : Int) < (15 : Int)) = true := decide_eq_true (by omega)
    have hP : (((((l.getD k .nul).fld 1).els.take n).map valD) ++ List.replicate (n - min ((l.getD k .nul).fld 1).els.length n) zV) = padV ((((l.getD k .nul).fld 1).els.take n).map valD) n := by unfold padV; rw [hl]
    rw [hP] at hp
    have hpl := padV_len ((((l.getD k .nul).fld 1).els.take n).map valD) n (by rw [hl]; omega)
    simp only [rowsL_t0_L0, rowsL_t0_L0_stp, nrun_br, nrun_more, nrun_done, nrun_fail, lt_cast h1, e15, ge0, wrap1 (show k < 1000000 by omega), Int.toNat_natCast, Nat.zero_add, Bool.and_true, if_true, hv.1, hv.2.1, hv.2.2, loopOk_of hp, loopV_of hp, app_take h3, grow_ok (n := k) (k := 0) (b := 32) (by omega) (by omega), h3, hpl, Nat.ble_self_eq_true, Bool.and_self, List.drop_zero, List.take_of_length_le (Nat.le_of_eq hpl), List.take_of_length_le (Nat.le_of_eq h3)]
    rfl) (fun k acc h1 h2 => by
    by_cases q : k < l.length
    · have e15 : decide ((k : Int) < (15 : Int)) = false := decide_eq_false (by omega)
      simp only [rowsL_t0_L0, rowsL_t0_L0_stp, nrun_br, nrun_more, nrun_done, nrun_fail, lt_cast q, e15, Bool.false_eq_true, if_false, if_true]
    · have e : decide ((k : Int) < (l.length : Int)) = false := decide_eq_false (by omega)
      simp only [rowsL_t0_L0, rowsL_t0_L0_stp, nrun_br, nrun_more, nrun_done, nrun_fail, e, Bool.false_eq_true, if_false])
def rowsT (n : Nat) (l : List D) : List D := (l.take 15).map (rowT n)
theorem rows_is (l : List D) (n : Nat) (hn : n ≤ 1000) : rowsL_t0_V0 l (n : Int) = true ∧ rowsL_t0_V1 l (n : Int) = rowsT n l := by
  have hL := rows_loop l n hn
  have hl : ((l.take 15).map (rowT n)).length = min l.length 15 := by rw [List.length_map, List.length_take, Nat.min_comm]
  unfold rowsL_t0_V0 rowsL_t0_V1
  simp only [loopOk_of hL, loopV_of hL, hl, Nat.zero_add, Nat.ble_self_eq_true, List.drop_zero, List.take_of_length_le (Nat.le_of_eq hl)]
  exact ⟨rfl, rfl⟩
/-- Rows of n values each. -/
def RowIn (n : Nat) (r : D) : Prop := ∃ i l, r = mkR i l ∧ l.length = n
theorem rowT_in (n : Nat) (r : D) : RowIn n (rowT n r) := ⟨_, _, rfl, padV_len _ _ (by rw [List.length_map, List.length_take]; omega)⟩
theorem rowsT_in (n : Nat) (l : List D) : ∀ r ∈ rowsT n l, RowIn n r := fun r h => by
  obtain ⟨x, _, rfl⟩ := List.mem_map.1 h
  exact rowT_in n x
/- ### Finish -/
theorem fin_at (l : List D) (c : List UInt8) (w : List D) (m : Int) (b s v o : List D) (ho : o.length < 1000000) (k : Int) (u : List UInt8) (n : Nat) (hc : colIn n o) (hn : n < 1000000) (i : Nat) (hi : i < l.length) (hr : RowIn n (l.getD i .nul)) (S : List D) (hS : ∀ r ∈ S, RowIn n r) (hSl : S.length < 1000000) :
    loopR (finR_t0_L4 (l, c, w, m, b, s, v, o, k, u, S.length, (i : Int), S)) (S.length : Int) = some ((insAt (fun j => decide (cmpQ o (l.getD i .nul) (S.getD j .nul) < 0)) S.length : Nat) : Int) := by
  have h0 := loop_down (stp := finR_t0_L4 (l, c, w, m, b, s, v, o, k, u, S.length, (i : Int), S)) (fun k => if decide (cmpQ o (l.getD i .nul) (S.getD (k - 1) .nul) < 0) then none else some (k : Int)) (0 : Int) S.length (fun k0 h0 h1 => by
    obtain ⟨ri, rl, e, el⟩ := hr
    have hm : S.getD (k0 - 1) .nul ∈ S := by rw [getD_at (by omega)]; exact List.getElem_mem _
    obtain ⟨si, sl, e', el'⟩ := hS _ hm
    have hb := bef_is c w m b s v o ho k u ri si rl sl n hc el el' hn
    have ew : IntKind.i64.wrap ((k0 : Int) - (1 : Int)) = ((k0 - 1 : Nat) : Int) := by rw [wrap64 (by omega) (by omega)]; omega
    have g0 : decide ((k0 : Int) > (0 : Int)) = true := decide_eq_true (by omega)
    simp only [finR_t0_L4, finR_t0_L4_stp, nrun_br, nrun_more, nrun_done, nrun_fail, g0, lt_cast hi, ge0, ew, lt_cast (show k0 - 1 < S.length by omega), Int.toNat_natCast, Nat.zero_add, decide_eq_true (show k0 - 1 < S.length by omega), Bool.and_true, if_true]
    rw [e, e']
    simp only [show ((mkR ri rl).fld 0).asInt = ri from rfl, show ((mkR ri rl).fld 1).els = rl from rfl, show ((mkR si sl).fld 0).asInt = si from rfl, show ((mkR si sl).fld 1).els = sl from rfl, hb.1, hb.2, if_true]
    rcases Bool.eq_false_or_eq_true (decide (cmpQ o (mkR ri rl) (mkR si sl) < 0)) with p | p <;> simp only [p, if_true, if_false, Bool.false_eq_true]) (by
    simp only [finR_t0_L4, finR_t0_L4_stp, nrun_br, nrun_more, nrun_done, nrun_fail]; rfl) S.length (Nat.le_refl _)
  rw [h0]
  congr 1
  have : ∀ n, downQ (fun k => if decide (cmpQ o (l.getD i .nul) (S.getD (k - 1) .nul) < 0) then none else some (k : Int)) (0 : Int) n = ((insAt (fun j => decide (cmpQ o (l.getD i .nul) (S.getD j .nul) < 0)) n : Nat) : Int) := by
    intro n
    induction n with
    | zero => rfl
    | succ n ih =>
      unfold insAt at ih ⊢
      simp only [downQ, Nat.add_sub_cancel]
      cases decide (cmpQ o (l.getD i .nul) (S.getD n .nul) < 0) with
      | true => exact ih
      | false => rfl
  exact this _
end Go.Proofs.Yteoockodkddipaa
