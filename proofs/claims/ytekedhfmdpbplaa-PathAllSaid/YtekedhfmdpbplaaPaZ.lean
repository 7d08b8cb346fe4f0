/- PathAll comes to true. -/
import Derived.Test.YtekedhfmdpbplaaPaA
set_option linter.unusedSimpArgs false
set_option linter.unusedVariables false
set_option maxRecDepth 100000
namespace Go.Proofs.Ytekedhfmdpbplaa
open Go Go.Sy
theorem cmpR_is (l m : List D) (hl : l.length < 1000000) : cmpR_t0_V0 l m = true ∧ cmpR_t0_V1 l m = rowT l m := by
  have h := loop_first (stp := cmpR_t0_L0 (l, m)) (min l.length m.length) (fun k => if c3 (l.getD k .nul).asStr (m.getD k .nul).asStr = 0 then none else some ((0 : Nat), c3 (l.getD k .nul).asStr (m.getD k .nul).asStr)) (1, 0) (fun k hk _ => by
    have hk1 : k < l.length := by omega
    have hk2 : k < m.length := by omega
    simp only [cmpR_t0_L0, cmpR_t0_L0_stp, nrun_br, nrun_more, nrun_done, nrun_fail, lt_cast hk1, lt_cast hk2, ge0, wrap1 (show k < 1000000 by omega), Int.toNat_natCast, Bool.and_self, if_true, c3]
    rcases Bool.eq_false_or_eq_true (ltBytes (l.getD k .nul).asStr (m.getD k .nul).asStr) with p | p <;> rcases Bool.eq_false_or_eq_true (eqBytes (l.getD k .nul).asStr (m.getD k .nul).asStr) with q | q <;> simp only [p, q] <;> rfl) (fun _ => by
    rcases Nat.lt_or_ge l.length m.length with h | h
    · rw [Nat.min_eq_left (by omega)]
      simp only [cmpR_t0_L0, cmpR_t0_L0_stp, nrun_br, nrun_more, nrun_done, nrun_fail, lt_self, ge0]; rfl
    · rw [Nat.min_eq_right h]
      simp only [cmpR_t0_L0, cmpR_t0_L0_stp, nrun_br, nrun_more, nrun_done, nrun_fail, lt_self, ge0]
      cases decide ((m.length : Int) < (l.length : Int)) <;> rfl)
  have hn : ∀ j, (if c3 (l.getD j .nul).asStr (m.getD j .nul).asStr = 0 then none else some ((0 : Nat), c3 (l.getD j .nul).asStr (m.getD j .nul).asStr)) = none → c3 (l.getD j .nul).asStr (m.getD j .nul).asStr = 0 := by
    intro j hj
    by_cases h2 : c3 (l.getD j .nul).asStr (m.getD j .nul).asStr = 0
    · exact h2
    · rw [if_neg h2] at hj; cases hj
  unfold cmpR_t0_V0 cmpR_t0_V1
  rcases h with ⟨k, y, k1, k2, k3, k4⟩ | ⟨k2, k4⟩
  · rw [loopOk_of k4, loopV_of k4]
    by_cases h2 : c3 (l.getD k .nul).asStr (m.getD k .nul).asStr = 0
    · rw [if_pos h2] at k3; cases k3
    · rw [if_neg h2] at k3
      cases k3
      rw [rowT_first (by omega) (by omega) (fun j hj => hn j (k2 j hj)) h2]
      exact ⟨rfl, rfl⟩
  · rw [loopOk_of k4, loopV_of k4, rowT_even (fun j hj hj' => hn j (k2 j (by omega)))]
    by_cases h1 : l.length < m.length
    · rw [if_pos h1, lt_cast h1]; exact ⟨rfl, rfl⟩
    · rw [if_neg h1, decide_eq_false (show ¬ (l.length : Int) < (m.length : Int) by omega)]
      by_cases h2 : l.length > m.length
      · rw [if_pos h2, decide_eq_true (show (l.length : Int) > (m.length : Int) by omega)]; exact ⟨rfl, rfl⟩
      · rw [if_neg h2, decide_eq_false (show ¬ (l.length : Int) > (m.length : Int) by omega)]; exact ⟨rfl, rfl⟩
theorem pathD_txt (l : List D) : ∀ i, i < (pathD l).length → ((pathD l).getD i .nul).asStr.length ≤ 20 := by
  intro i hi
  unfold pathD at hi ⊢
  rw [getD_at hi, List.getElem_map]
  have : ∀ c : List UInt8, (cutS c 20).length ≤ 20 := by
    intro c
    unfold cutS
    by_cases h : (c.length : Int) > 20
    · rw [if_pos h, List.length_take]; omega
    · rw [if_neg h]; omega
  exact this _
theorem pathD_join (l : List D) : (joinL_V (pathD l) [46]).length ≤ 1000 := by
  have h := join_short 20 46 ((pathD l).map D.asStr) (fun c hc => by
    rw [List.mem_map] at hc
    obtain ⟨d, hd, rfl⟩ := hc
    obtain ⟨i, hi, rfl⟩ := List.getElem_of_mem hd
    have := pathD_txt l i hi
    rwa [getD_at hi] at this)
  have hl : (pathD l).length ≤ 6 := by unfold pathD; rw [List.length_map, List.length_take]; omega
  rw [List.length_map] at h
  unfold joinL_V
  omega
theorem ptextA_is (l : List D) (h1 : l.length ≤ 1000000) (h2 : (joinL_V l [46]).length ≤ 281474976710656) : ptextA_t0_V0 l = true := by
  unfold ptextA_t0_V0
  rw [decide_eq_true h1, decide_eq_true h2]; rfl
theorem pathAll_is (l : List D) (c : List UInt8) (p q : List D) : pathAll_t0_V0 l c p q = true ∧ pathAll_t0_V1 l c p q = true := by
  have ht := tabsL_is l
  have hp := pathX_is p
  have hq := pathX_is q
  obtain ⟨k1, k2⟩ := tabsD_in l
  obtain ⟨hi, b0, b1, b2, b3⟩ := bothP_is (tabsD l) (by omega) k2
  have lp := pathD_len p
  have lq := pathD_len q
  obtain ⟨c0, c1, c2, c3', c4, c5, c6⟩ := pcolP_is (bothS [] (tabsD l)) hi.len hi.ok c (pathD p)
  obtain ⟨r0, r1, r2, r3, r4, r5, r6⟩ := rcolR_is (bothS [] (tabsD l)) hi.len hi.ok c (pathD p)
  have hj := pathD_join p
  have htx := ptextA_is (pathD p) (by omega) (by omega)
  have hrt := rtextR_is (pathD p) lp (fun i hi => by have := pathD_txt p i hi; omega)
  have s1 : rowT (pathD q) (pathD p) = IntKind.i64.wrap ((0 : Int) - rowT (pathD p) (pathD q)) := by
    have := rowT_swap (pathD p) (pathD q)
    rcases rowT_range (pathD p) (pathD q) with h | h | h <;> rw [h] at this ⊢ <;> rw [this] <;> decide
  unfold pathAll_t0_V0 pathAll_t0_V1
  simp only [ht.1, ht.2, hp.1, hp.2, hq.1, hq.2, b0, b1, b2, b3, c0, c1, c2, c3', c4, c5, c6, r0, r1, r2, r3, r4, r5, r6, htx, hrt.1, hrt.2, pcmpP_is _ _ lp, pcmpP_is _ _ lq, (scmpP_is _ _ lp).2, (scmpP_is _ _ lq).2, (cmpR_is _ _ lp).1, (cmpR_is _ _ lp).2, s1, eqBytes_refl, decide_true, cond_true, Bool.true_and, beq_self_eq_true, and_self]
theorem pathAll_run (l : List D) (c : List UInt8) (p q : List D) : (pathAll.f [.fz false shTab l, .str c, .fz false .str p, .fz false .str q] []).run = some (.bool true, [], []) := by
  have h := pathAll_is l c p q
  have hb : (Sh.beq shTab shTab && (Sh.beq .str .str && (Sh.beq .str .str && true))) = true := by kernel_rfl
  show RT.run (.br (Sh.beq shTab shTab && (Sh.beq .str .str && (Sh.beq .str .str && true))) (pathAll_t0 l c p q) .fail) = _
  rw [hb]
  unfold pathAll_t0
  rw [h.1, h.2]
  rfl
theorem pathAll_comes (l : List D) (c : List UInt8) (p q : List D) : Sy.Comes Try.prog 4 [.fz false shTab l, .str c, .fz false .str p, .fz false .str q] [] (.bool true) [] :=
  ⟨pathAll_ok.len _ _ _ _ _ (pathAll_run l c p q), pathAll_ok.calls _ _ _ _ _ (pathAll_run l c p q)⟩
end Go.Proofs.Ytekedhfmdpbplaa
