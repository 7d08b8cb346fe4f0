/- Plain: what the program's functions on tables' forms come to. -/
import Derived.Test.YtekedhfmdpbplaaPvZ
import Derived.Test.YtekedhfmdpbplaaSrM
set_option linter.unusedSimpArgs false
set_option linter.unusedVariables false
set_option maxRecDepth 100000
namespace Go.Proofs.Ytekedhfmdpbplaa
open Go Go.Sy
theorem idxSP_is (l : List D) (c : List UInt8) (hl : l.length < 1000000) : idxSP_t0_V0 l c = true ∧ idxSP_t0_V1 l c = ixI (fun d => eqBytes c d.asStr) l := by
  have h := loop_ix (stp := idxSP_t0_L0 (l, c, (l.length : Int))) l (fun d => eqBytes c d.asStr) (fun k => (0, (k : Int))) (1, 0) (fun k hk => by
    simp only [idxSP_t0_L0, idxSP_t0_L0_stp, nrun_br, nrun_more, nrun_done, nrun_fail, lt_cast hk, ge0, wrap1 (show k < 1000000 by omega), Int.toNat_natCast, Nat.zero_add, Bool.and_true, if_true]) (by
    simp only [idxSP_t0_L0, idxSP_t0_L0_stp, nrun_br, nrun_more, nrun_done, nrun_fail, lt_self, ge0]; rfl)
  unfold idxSP_t0_V0 idxSP_t0_V1
  rw [loopOk_of h, loopV_of h]
  simp only [Bool.true_and]
  exact tag_ix
theorem contSP_is (l : List D) (c : List UInt8) (hl : l.length < 1000000) : contSP_t0_V0 l c = true ∧ contSP_t0_V1 l c = hasS c l := by
  have h := idxSP_is l c hl
  unfold contSP_t0_V0 contSP_t0_V1
  rw [h.1, h.2]
  exact ⟨rfl, rfl⟩
theorem twiceP_is (l : List D) (hl : l.length < 1000000) : twiceP_t0_V0 l = true ∧ twiceP_t0_V1 l = !uniq l := by
  have h := loopA (loop_allN (stp := twiceP_t0_L0 (l, l, (l.length : Int))) l.length (fun i => allN (fun j => !eqBytes (l.getD j .nul).asStr (l.getD i .nul).asStr) i) (fun k hk _ => by
    have hc := contSP_is (l.take k) (l.getD k .nul).asStr (by rw [List.length_take]; omega)
    simp only [twiceP_t0_L0, twiceP_t0_L0_stp, nrun_br, nrun_more, nrun_done, nrun_fail, lt_cast hk, ge0, wrap1 (show k < 1000000 by omega), Int.toNat_natCast, Nat.zero_add, Bool.and_true, if_true, List.drop_zero, hc.1, hc.2, hasS_take (show k ≤ l.length by omega), decide_eq_true (show (k : Int) ≤ (l.length : Int) by omega)]
    rcases Bool.eq_false_or_eq_true (allN (fun j => !eqBytes (l.getD j .nul).asStr (l.getD k .nul).asStr) k) with p | p <;> simp only [p] <;> rfl) (by
    simp only [twiceP_t0_L0, twiceP_t0_L0_stp, nrun_br, nrun_more, nrun_done, nrun_fail, lt_self, ge0]; rfl))
  unfold twiceP_t0_V0 twiceP_t0_V1
  rw [h.1, h.2.1, h.2.2]
  unfold uniq
  rcases Bool.eq_false_or_eq_true (allN (fun i => allN (fun j => !eqBytes (l.getD j .nul).asStr (l.getD i .nul).asStr) i) l.length) with p | p <;> simp only [p] <;> exact ⟨rfl, rfl⟩
section
variable (w : List D) (a : List UInt8) (l : List D) (c : List UInt8) (d : List D)
theorem dep1P_is (s : List UInt8) (hl : l.length < 1000000) : dep1P_t0_V0 s a l c d = true ∧ dep1P_t0_V1 s a l c d = !hasN s l := by
  have h := ixCP0_is l s hl
  unfold dep1P_t0_V0 dep1P_t0_V1
  rw [h.1, h.2, dec_has]
  exact ⟨rfl, rfl⟩
theorem cfSP_is (e : List D) (hl : l.length < 1000000) (he : e.length < 1000000) : cfSP_t0_V0 e a l c d = true ∧ cfSP_t0_V1 e a l c d = !allN (fun k => hasN (e.getD k .nul).asStr l) e.length := by
  have h := loop_ix (stp := ixSP_t0_L0 (e, (e.length : Int), a, l, c, d)) e (fun s => !hasN s.asStr l) (fun k => (0, (k : Int))) (1, 0) (fun k hk => by
    have h1 := dep1P_is a l c d (e.getD k .nul).asStr hl
    simp only [ixSP_t0_L0, ixSP_t0_L0_stp, nrun_br, nrun_more, nrun_done, nrun_fail, lt_cast hk, ge0, wrap1 (show k < 1000000 by omega), Int.toNat_natCast, Nat.zero_add, Bool.and_true, if_true, h1.1, h1.2]) (by
    simp only [ixSP_t0_L0, ixSP_t0_L0_stp, nrun_br, nrun_more, nrun_done, nrun_fail, lt_self, ge0]; rfl)
  have hv : ixSP_t0_V0 e a l c d = true ∧ ixSP_t0_V1 e a l c d = ixI (fun s => !hasN s.asStr l) e := by
    unfold ixSP_t0_V0 ixSP_t0_V1
    rw [loopOk_of h, loopV_of h]
    simp only [Bool.true_and]
    exact tag_ix
  unfold cfSP_t0_V0 cfSP_t0_V1
  rw [hv.1, hv.2, ixI_allN]
  refine ⟨rfl, ?_⟩
  congr 1
  exact allN_congr fun k _ => by rw [Bool.not_not]
theorem depP_is (x : D) (hl : l.length < 1000000) (he : (x.fld 0).els.length < 1000000) : depP_t0_V0 a l c d (x.fld 0).els (x.fld 1).asStr = true ∧ depP_t0_V1 a l c d (x.fld 0).els (x.fld 1).asStr = depOk l x := by
  have h1 := cfSP_is a l c d (x.fld 0).els hl he
  have h2 := twiceP_is (x.fld 0).els he
  have h3 := dep1P_is a l c d (x.fld 1).asStr hl
  have h4 := contSP_is (x.fld 0).els (x.fld 1).asStr he
  unfold depP_t0_V0 depP_t0_V1 depOk
  rw [leftOk_eq]
  simp only [h1.1, h1.2, h2.1, h2.2, h3.1, h3.2, h4.1, h4.2, Bool.true_and, Bool.and_true, Bool.not_not, cs, cv, Bool.or_true]
  refine ⟨trivial, ?_⟩
  by_cases p1 : 1 ≤ (x.fld 0).els.length
  · by_cases p2 : (x.fld 0).els.length ≤ 3
    · simp only [decide_eq_true (show (((x.fld 0).els.length : Nat) : Int) > 0 by omega), decide_eq_true (show (((x.fld 0).els.length : Nat) : Int) ≤ 3 by omega), decide_eq_true p1, decide_eq_true p2, Bool.true_and]
      rcases Bool.eq_false_or_eq_true (allN (fun k => hasN ((x.fld 0).els.getD k .nul).asStr l) (x.fld 0).els.length) with q1 | q1 <;> rcases Bool.eq_false_or_eq_true (uniq (x.fld 0).els) with q2 | q2 <;> rcases Bool.eq_false_or_eq_true (hasN (x.fld 1).asStr l) with q3 | q3 <;> rcases Bool.eq_false_or_eq_true (hasS (x.fld 1).asStr (x.fld 0).els) with q4 | q4 <;> simp only [q1, q2, q3, q4] <;> rfl
    · simp only [decide_eq_true (show (((x.fld 0).els.length : Nat) : Int) > 0 by omega), decide_eq_false (show ¬ (((x.fld 0).els.length : Nat) : Int) ≤ 3 by omega), decide_eq_true p1, decide_eq_false p2]; rfl
  · simp only [decide_eq_false (show ¬ (((x.fld 0).els.length : Nat) : Int) > 0 by omega), decide_eq_false p1]; rfl
theorem cfDP_is (hl : l.length < 1000000) (hd : d.length < 1000000) (hd' : ∀ i, i < d.length → ((d.getD i .nul).fld 0).els.length < 1000000) : cfDP_t0_V0 d a l c d = true ∧ cfDP_t0_V1 d a l c d = !allN (fun i => depOk l (d.getD i .nul)) d.length := by
  have h := loop_ix (stp := ixDP_t0_L0 (d, (d.length : Int), a, l, c, d)) d (fun x => !depOk l x) (fun k => (0, (k : Int))) (1, 0) (fun k hk => by
    have h1 := depP_is a l c d (d.getD k .nul) hl (hd' k hk)
    simp only [ixDP_t0_L0, ixDP_t0_L0_stp, nrun_br, nrun_more, nrun_done, nrun_fail, lt_cast hk, ge0, wrap1 (show k < 1000000 by omega), Int.toNat_natCast, Nat.zero_add, Bool.and_true, if_true, named1P_t0_V0, h1.1, h1.2]) (by
    simp only [ixDP_t0_L0, ixDP_t0_L0_stp, nrun_br, nrun_more, nrun_done, nrun_fail, lt_self, ge0]; rfl)
  have hv : ixDP_t0_V0 d a l c d = true ∧ ixDP_t0_V1 d a l c d = ixI (fun x => !depOk l x) d := by
    unfold ixDP_t0_V0 ixDP_t0_V1
    rw [loopOk_of h, loopV_of h]
    simp only [Bool.true_and]
    exact tag_ix
  unfold cfDP_t0_V0 cfDP_t0_V1
  rw [hv.1, hv.2, ixI_allN]
  refine ⟨rfl, ?_⟩
  congr 1
  exact allN_congr fun k _ => by rw [Bool.not_not]
theorem copiedP_is (hl : l.length < 1000000) (hd : d.length < 1000000) (hd' : ∀ i, i < d.length → ((d.getD i .nul).fld 0).els.length < 1000000) (hn : ∀ i, i < d.length → nrmD (d.getD i .nul) = d.getD i .nul) :
    copiedP_t0_V0 a l c d = true ∧ copiedP_t0_V1 a l c d = d := by
  have h : loopR (copiedP_t0_L0 ((d.length : Int), a, l.length, c, d.length, l)) (d, (0 : Int)) = some d := by
    have := loop_goodE (stp := copiedP_t0_L0 ((d.length : Int), a, l.length, c, d.length, l)) (fun k => (d, (k : Int))) d.length (fun _ => true) (fun _ => []) d (fun k hk => by
      simp only [copiedP_t0_L0, copiedP_t0_L0_stp, nrun_br, nrun_more, nrun_done, nrun_fail, lt_cast hk, ge0, wrap1 (show k < 1000000 by omega), Int.toNat_natCast, Nat.zero_add, Bool.and_true, if_true, decide_eq_true hk, Nat.blt_eq, hd' k hk, Nat.ble_eq, Nat.le_refl, List.drop_zero, List.take_length, Nat.ble_self_eq_true]
      have := hn k hk
      unfold nrmD at this
      rw [set_self this]) (by
      simp only [copiedP_t0_L0, copiedP_t0_L0_stp, nrun_br, nrun_more, nrun_done, nrun_fail, lt_self, ge0]; rfl)
    rcases this with ⟨k, _, h1, _⟩ | ⟨_, h2⟩
    · rw [allN_iff.2 (fun _ _ => rfl)] at h1; cases h1
    · exact h2
  unfold copiedP_t0_V0 copiedP_t0_V1
  rw [loopOk_of h, loopV_of h]
  refine ⟨?_, rfl⟩
  simp only [Bool.and_true, Bool.and_eq_true, Nat.blt_eq]
  exact ⟨hl, hd⟩
end
end Go.Proofs.Ytekedhfmdpbplaa
