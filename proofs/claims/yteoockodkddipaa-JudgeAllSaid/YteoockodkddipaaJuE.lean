/- Plain: rows that are the same; a group's row. -/
import Derived.Test.YteoockodkddipaaJuC
set_option linter.unusedSimpArgs false
set_option linter.unusedVariables false
set_option maxRecDepth 100000
namespace Go.Proofs.Yteoockodkddipaa
open Go Go.Sy
def eqRw (x y : D) : Bool := decide ((x.fld 0).asInt = (y.fld 0).asInt) && decide (rowD (x.fld 1).els (y.fld 1).els = 0)
def eqRs (l m : List D) : Bool := decide (l.length = m.length) && allN (fun k => eqRw (l.getD k .nul) (m.getD k .nul)) l.length
theorem cast_eq {n m : Nat} : decide ((n : Int) = (m : Int)) = decide (n = m) := by
  by_cases h : n = m
  · subst h; simp
  · rw [decide_eq_false h, decide_eq_false (by omega)]
theorem eqr_is (l m : List D) (n : Nat) (hn : n < 1000000) (hll : l.length < 1000000) (hl : ∀ r ∈ l, RowIn n r) : eqrR_t0_V0 l m = true ∧ eqrR_t0_V1 l m = eqRs l m := by
  unfold eqrR_t0_V0 eqrR_t0_V1 eqRs
  rw [cast_eq]
  by_cases h : l.length = m.length
  · have hL := loop_allN (stp := eqrR_t0_L0 (l, m)) l.length (fun k => eqRw (l.getD k .nul) (m.getD k .nul)) (fun k hk _ => by
      have hm : l.getD k .nul ∈ l := by rw [getD_at hk]; exact List.getElem_mem hk
      obtain ⟨ri, rl, e, el⟩ := hl _ hm
      have eg : decide (((l.getD k .nul).fld 1).els.length < (4611686018427387904 : Nat)) = true := by
        rw [e]
        exact decide_eq_true (show rl.length < _ by omega)
      simp only [eqrR_t0_L0, eqrR_t0_L0_stp, nrun_br, nrun_more, nrun_done, nrun_fail, lt_cast hk, lt_cast (show k < m.length by omega), ge0, wrap1 (show k < 1000000 by omega), Int.toNat_natCast, Bool.and_true, if_true, eg, eqRw]
      rcases Bool.eq_false_or_eq_true (decide (((l.getD k .nul).fld 0).asInt = ((m.getD k .nul).fld 0).asInt)) with p | p <;> rcases Bool.eq_false_or_eq_true (decide (rowD ((l.getD k .nul).fld 1).els ((m.getD k .nul).fld 1).els = 0)) with q | q <;> simp only [p, q] <;> rfl) (by
      simp only [eqrR_t0_L0, eqrR_t0_L0_stp, nrun_br, nrun_more, nrun_done, nrun_fail, lt_self]; rfl)
    simp only [decide_eq_true h, Bool.not_true, cond_false, Bool.true_and, loopOk_of hL, loopV_of hL]
    rcases Bool.eq_false_or_eq_true (allN (fun k => eqRw (l.getD k .nul) (m.getD k .nul)) l.length) with p | p <;> simp only [p, if_true, if_false, Bool.false_eq_true] <;> exact ⟨rfl, rfl⟩
  · simp only [decide_eq_false h, Bool.not_false, cond_true, Bool.false_and]
    exact ⟨trivial, trivial⟩
theorem same_is (l m : List D) (n : Nat) (hn : n < 1000000) (hll : l.length < 1000000) (hl : ∀ r ∈ l, RowIn n r) : eqfP_t0_V0 l m = true ∧ eqfP_t0_V1 l m = eqRs l m := by
  unfold eqfP_t0_V0 eqfP_t0_V1 eqRs
  rw [cast_eq]
  by_cases h : l.length = m.length
  · have hL := loop_allN (stp := eqfP_t0_L0 (m, l, (l.length : Int))) l.length (fun k => eqRw (l.getD k .nul) (m.getD k .nul)) (fun k hk _ => by
      have hm : l.getD k .nul ∈ l := by rw [getD_at hk]; exact List.getElem_mem hk
      obtain ⟨ri, rl, e, el⟩ := hl _ hm
      have eg : decide (((l.getD k .nul).fld 1).els.length < (4611686018427387904 : Nat)) = true := by
        rw [e]
        exact decide_eq_true (show rl.length < _ by omega)
      simp only [eqfP_t0_L0, eqfP_t0_L0_stp, nrun_br, nrun_more, nrun_done, nrun_fail, lt_cast hk, lt_cast (show k < m.length by omega), ge0, wrap1 (show k < 1000000 by omega), Int.toNat_natCast, Bool.and_true, if_true, eg, eqRw, same1P_t0_V0, same1P_t0_V1]
      rcases Bool.eq_false_or_eq_true (decide (((l.getD k .nul).fld 0).asInt = ((m.getD k .nul).fld 0).asInt)) with p | p <;> rcases Bool.eq_false_or_eq_true (decide (rowD ((l.getD k .nul).fld 1).els ((m.getD k .nul).fld 1).els = 0)) with q | q <;> simp only [p, q] <;> rfl) (by
      simp only [eqfP_t0_L0, eqfP_t0_L0_stp, nrun_br, nrun_more, nrun_done, nrun_fail, lt_self]; rfl)
    simp only [decide_eq_true h, Bool.not_true, cond_false, Bool.true_and, loopOk_of hL, loopV_of hL]
    rcases Bool.eq_false_or_eq_true (allN (fun k => eqRw (l.getD k .nul) (m.getD k .nul)) l.length) with p | p <;> simp only [p, if_true, if_false, Bool.false_eq_true] <;> exact ⟨rfl, rfl⟩
  · simp only [decide_eq_false h, Bool.not_false, cond_true, Bool.false_and]
    exact ⟨trivial, trivial⟩
/-- Is it the row of a group? -/
def isG (set : Int) (vals : List D) (r : D) : Bool := decide ((r.fld 0).asInt = set) && decide (rowD ((r.fld 1).els.take vals.length) vals = 0)
theorem group_loop (l : List D) (set : Int) (vals : List D) (n : Nat) (hn : n < 1000000) (hll : l.length < 1000000) (hl : ∀ r ∈ l, RowIn n r) (hv : vals.length ≤ n) :
    loopR (groupP_t0_L0 (set, vals, l, (l.length : Int))) 0 = some (if ixI (isG set vals) l < 0 then ((1 : Nat), (0 : Int), []) else ((0 : Nat), ((l.getD (ixI (isG set vals) l).toNat .nul).fld 0).asInt, ((l.getD (ixI (isG set vals) l).toNat .nul).fld 1).els)) :=
  loop_ix (stp := groupP_t0_L0 (set, vals, l, (l.length : Int))) l (isG set vals) (fun k => ((0 : Nat), ((l.getD k .nul).fld 0).asInt, ((l.getD k .nul).fld 1).els)) ((1 : Nat), (0 : Int), []) (fun k hk => by
    have hm : l.getD k .nul ∈ l := by rw [getD_at hk]; exact List.getElem_mem hk
    obtain ⟨ri, rl, e, el⟩ := hl _ hm
    have e1 : ((l.getD k .nul).fld 1).els = rl := by rw [e]; rfl
    have g1 : decide ((rl.length : Int) ≥ (vals.length : Int)) = true := decide_eq_true (by omega)
    have g2 : decide ((vals.length : Int) ≤ (rl.length : Int)) = true := decide_eq_true (by omega)
    have g3 : decide ((List.take vals.length rl).length < (4611686018427387904 : Nat)) = true := decide_eq_true (by rw [List.length_take]; omega)
    simp only [groupP_t0_L0, groupP_t0_L0_stp, nrun_br, nrun_more, nrun_done, nrun_fail, lt_cast hk, ge0, wrap1 (show k < 1000000 by omega), Int.toNat_natCast, Bool.and_true, if_true, e1, g1, g2, g3, List.drop_zero, isG]
    rcases Bool.eq_false_or_eq_true (decide (((l.getD k .nul).fld 0).asInt = set)) with p | p <;> rcases Bool.eq_false_or_eq_true (decide (rowD (rl.take vals.length) vals = 0)) with q | q <;> simp only [p, q] <;> rfl) (by
    simp only [groupP_t0_L0, groupP_t0_L0_stp, nrun_br, nrun_more, nrun_done, nrun_fail, lt_self]; rfl)
theorem group_is (l : List D) (set : Int) (vals : List D) (n : Nat) (hn : n < 1000000) (hll : l.length < 1000000) (hl : ∀ r ∈ l, RowIn n r) (hv : vals.length ≤ n) :
    groupP_t0_V0 l set vals = true ∧ groupP_t0_V3 l set vals = decide (0 ≤ ixI (isG set vals) l) ∧
    (0 ≤ ixI (isG set vals) l → groupP_t0_V1 l set vals = ((l.getD (ixI (isG set vals) l).toNat .nul).fld 0).asInt ∧ groupP_t0_V2 l set vals = ((l.getD (ixI (isG set vals) l).toNat .nul).fld 1).els) := by
  have hL := group_loop l set vals n hn hll hl hv
  unfold groupP_t0_V0 groupP_t0_V1 groupP_t0_V2 groupP_t0_V3
  simp only [loopOk_of hL, loopV_of hL]
  by_cases h : ixI (isG set vals) l < 0
  · simp only [if_pos h]
    refine ⟨rfl, ?_, fun h' => by omega⟩
    rw [decide_eq_false (by omega)]
    rfl
  · simp only [if_neg h]
    refine ⟨rfl, ?_, fun _ => ⟨rfl, rfl⟩⟩
    rw [decide_eq_true (by omega)]
    rfl
end Go.Proofs.Yteoockodkddipaa
