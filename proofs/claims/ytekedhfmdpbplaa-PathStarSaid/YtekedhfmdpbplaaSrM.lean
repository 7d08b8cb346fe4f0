/- Plain: what the reference says of a table's form: names, errors, what it is kept as. -/
import Derived.Test.YtekedhfmdpbplaaSrL
set_option linter.unusedSimpArgs false
set_option linter.unusedVariables false
set_option maxRecDepth 100000
namespace Go.Proofs.Ytekedhfmdpbplaa
open Go Go.Sy
theorem beq0 {b : Bool} : Nat.beq (if b = true then 1 else 0) 0 = !b := by cases b <;> rfl
theorem beq1 {b : Bool} : Nat.beq (if b = true then 1 else 0) 1 = b := by cases b <;> rfl
theorem dec_has {c : List UInt8} {l : List D} : decide (ixI (nmIs c) l < 0) = !hasN c l := by
  unfold hasN
  by_cases h : ixI (nmIs c) l < 0
  · rw [decide_eq_true h, decide_eq_false (by omega)]; rfl
  · rw [decide_eq_false h, decide_eq_true (by omega)]; rfl
theorem dec_has' {c : List UInt8} {l : List D} : decide (ixI (nmIs c) l ≥ 0) = hasN c l := rfl
theorem loopA {X : Type} {stp : X → NT X Nat} {x : X} {b : Bool} (h : loopR stp x = some (if b then 1 else 0)) : loopOk stp x = true ∧ Nat.beq (loopV stp x) 0 = !b ∧ Nat.beq (loopV stp x) 1 = b := by
  rw [loopOk_of h, loopV_of h]
  exact ⟨rfl, beq0, beq1⟩
section
variable (w : List D) (a : List UInt8) (l : List D) (c : List UInt8) (d : List D)
theorem nW6 (e : List D) (r : List UInt8) (k : Nat) (x : Int) (hk : k < e.length) (he : e.length < 1000000) :
    loopR (namesW_t0_L6 (w, a, l, c, d, e, r, (k : Int), x)) 0 = some (if allN (fun j => !eqBytes (e.getD j .nul).asStr (e.getD k .nul).asStr) k then 1 else 0) :=
  loop_allN k _ (fun j hj _ => by
    simp only [namesW_t0_L6, namesW_t0_L6_stp, nrun_br, nrun_more, nrun_done, nrun_fail, lt_cast hj, lt_cast (show j < e.length by omega), lt_cast hk, ge0, wrap1 (show j < 1000000 by omega), Int.toNat_natCast, Bool.and_true, if_true]
    rcases Bool.eq_false_or_eq_true (eqBytes (e.getD j .nul).asStr (e.getD k .nul).asStr) with p | p <;> simp only [p] <;> rfl) (by
    simp only [namesW_t0_L6, namesW_t0_L6_stp, nrun_br, nrun_more, nrun_done, nrun_fail, lt_self, ge0]; rfl)
theorem nW4 (e : List D) (r : List UInt8) (x : Int) (he : e.length < 1000000) (hl : l.length < 1000000) :
    loopR (namesW_t0_L4 (w, a, l, c, d, e, r, x)) 0 = some (if leftOk l r e then 1 else 0) :=
  loop_allN e.length _ (fun j hj _ => by
    have h6 := loopA (nW6 w a l c d e r j x hj he)
    have hc := colofR_is a l c d (e.getD j .nul).asStr hl
    simp only [namesW_t0_L4, namesW_t0_L4_stp, nrun_br, nrun_more, nrun_done, nrun_fail, lt_cast hj, ge0, wrap1 (show j < 1000000 by omega), Int.toNat_natCast, Bool.and_true, if_true, h6.1, h6.2.1, h6.2.2, hc.1, hc.2, dec_has]
    rcases Bool.eq_false_or_eq_true (hasN (e.getD j .nul).asStr l) with p | p <;> rcases Bool.eq_false_or_eq_true (eqBytes (e.getD j .nul).asStr r) with q | q <;> rcases Bool.eq_false_or_eq_true (allN (fun i => !eqBytes (e.getD i .nul).asStr (e.getD j .nul).asStr) j) with s | s <;> simp only [p, q, s] <;> rfl) (by
    simp only [namesW_t0_L4, namesW_t0_L4_stp, nrun_br, nrun_more, nrun_done, nrun_fail, lt_self, ge0]; rfl)
theorem nW2 (hl : l.length < 1000000) (hd : d.length < 1000000) (hd' : ∀ i, i < d.length → ((d.getD i .nul).fld 0).els.length < 1000000) :
    loopR (namesW_t0_L2 (w, a, l, c, d)) 0 = some (if allN (fun i => depOk l (d.getD i .nul)) d.length then 1 else 0) :=
  loop_allN d.length _ (fun j hj _ => by
    have h4 := loopA (nW4 w a l c d ((d.getD j .nul).fld 0).els ((d.getD j .nul).fld 1).asStr j (hd' j hj) hl)
    have hc := colofR_is a l c d ((d.getD j .nul).fld 1).asStr hl
    simp only [namesW_t0_L2, namesW_t0_L2_stp, nrun_br, nrun_more, nrun_done, nrun_fail, lt_cast hj, ge0, wrap1 (show j < 1000000 by omega), Int.toNat_natCast, Bool.and_true, if_true, h4.1, h4.2.1, h4.2.2, hc.1, hc.2, dec_has, depOk]
    by_cases p1 : ((d.getD j .nul).fld 0).els.length < 1
    · simp only [decide_eq_true (show ((((d.getD j .nul).fld 0).els.length : Nat) : Int) < 1 by omega), decide_eq_false (show ¬ 1 ≤ ((d.getD j .nul).fld 0).els.length by omega)]; rfl
    by_cases p2 : ((d.getD j .nul).fld 0).els.length > 3
    · simp only [decide_eq_false (show ¬ ((((d.getD j .nul).fld 0).els.length : Nat) : Int) < 1 by omega), decide_eq_true (show ((((d.getD j .nul).fld 0).els.length : Nat) : Int) > 3 by omega), decide_eq_true (show 1 ≤ ((d.getD j .nul).fld 0).els.length by omega), decide_eq_false (show ¬ ((d.getD j .nul).fld 0).els.length ≤ 3 by omega)]; rfl
    simp only [decide_eq_false (show ¬ ((((d.getD j .nul).fld 0).els.length : Nat) : Int) < 1 by omega), decide_eq_false (show ¬ ((((d.getD j .nul).fld 0).els.length : Nat) : Int) > 3 by omega), decide_eq_true (show 1 ≤ ((d.getD j .nul).fld 0).els.length by omega), decide_eq_true (show ((d.getD j .nul).fld 0).els.length ≤ 3 by omega)]
    rcases Bool.eq_false_or_eq_true (hasN ((d.getD j .nul).fld 1).asStr l) with p | p <;> rcases Bool.eq_false_or_eq_true (leftOk l ((d.getD j .nul).fld 1).asStr ((d.getD j .nul).fld 0).els) with q | q <;> simp only [p, q] <;> rfl) (by
    simp only [namesW_t0_L2, namesW_t0_L2_stp, nrun_br, nrun_more, nrun_done, nrun_fail, lt_self, ge0]; rfl)
theorem nW0 (hl : l.length < 1000000) : loopR (namesW_t0_L0 (w, a, l, c, d)) 0 = some (if colsOk l then 1 else 0) :=
  loop_allN l.length _ (fun j hj _ => by
    have hc := colofR_is a l c d ((l.getD j .nul).fld 0).asStr hl
    have hn := nameR_is ((l.getD j .nul).fld 0).asStr
    simp only [namesW_t0_L0, namesW_t0_L0_stp, nrun_br, nrun_more, nrun_done, nrun_fail, lt_cast hj, ge0, wrap1 (show j < 1000000 by omega), Int.toNat_natCast, Bool.and_true, if_true, hc.1, hc.2, hn.1, hn.2]
    rcases Bool.eq_false_or_eq_true (nameV ((l.getD j .nul).fld 0).asStr) with p | p <;> rcases Bool.eq_false_or_eq_true (decide (ixI (nmIs ((l.getD j .nul).fld 0).asStr) l = (j : Int))) with q | q <;> simp only [p, q] <;> rfl) (by
    simp only [namesW_t0_L0, namesW_t0_L0_stp, nrun_br, nrun_more, nrun_done, nrun_fail, lt_self, ge0]; rfl)
theorem namesW_is (hw : w.length < 1000000) (hl : l.length < 1000000) (hd : d.length < 1000000) (hd' : ∀ i, i < d.length → ((d.getD i .nul).fld 0).els.length < 1000000) :
    namesW_t0_V0 w.length w a l c d = true ∧ namesW_t0_V1 w.length w a l c d = namesE w a l c d := by
  have h0 := loopA (nW0 w a l c d hl)
  have h2 := loopA (nW2 w a l c d hl hd hd')
  have hc := colofR_is a l c d c hl
  have hf := findW_is w a hw
  have hn := nameR_is a
  unfold namesW_t0_V0 namesW_t0_V1 namesE
  simp only [h0.1, h0.2.1, h0.2.2, h2.1, h2.2.1, h2.2.2, hc.1, hc.2, hf.1, hf.2, hn.1, hn.2, dec_has, dec_has', Bool.true_and, Bool.and_true]
  rcases Bool.eq_false_or_eq_true (nameV a) with p1 | p1 <;> rcases Bool.eq_false_or_eq_true (hasN a w) with p2 | p2 <;> rcases Bool.eq_false_or_eq_true (colsOk l) with p3 | p3 <;> rcases Bool.eq_false_or_eq_true (eqBytes c []) with p4 | p4 <;> rcases Bool.eq_false_or_eq_true (hasN c l) with p5 | p5 <;> rcases Bool.eq_false_or_eq_true (allN (fun i => depOk l (d.getD i .nul)) d.length) with p6 | p6 <;> simp only [p1, p2, p3, p4, p5, p6] <;> exact ⟨rfl, rfl⟩
/- ### errors -/
theorem mW0 (n : Nat) (hl : l.length < 1000000) : loopR (mayW_t0_L0 (n, w, a, l, c, d)) 0 = some (if allN (fun i => !kindBad (l.getD i .nul)) l.length then 1 else 0) :=
  loop_allN l.length _ (fun j hj _ => by
    simp only [mayW_t0_L0, mayW_t0_L0_stp, nrun_br, nrun_more, nrun_done, nrun_fail, lt_cast hj, ge0, wrap1 (show j < 1000000 by omega), Int.toNat_natCast, Bool.and_true, if_true, kindBad]
    rcases Bool.eq_false_or_eq_true (decide (((l.getD j .nul).fld 1).asInt = 1)) with p | p <;> rcases Bool.eq_false_or_eq_true (decide (((l.getD j .nul).fld 1).asInt = 2)) with q | q <;> simp only [p, q] <;> rfl) (by
    simp only [mayW_t0_L0, mayW_t0_L0_stp, nrun_br, nrun_more, nrun_done, nrun_fail, lt_self, ge0]; rfl)
theorem toT_in {w : List D} {x : D} (h : ¬ ixI (nmIs (x.fld 3).asStr) w < 0) : (ixI (nmIs (x.fld 3).asStr) w).toNat < w.length ∧ 0 ≤ ixI (nmIs (x.fld 3).asStr) w ∧ ixI (nmIs (x.fld 3).asStr) w < w.length := by
  rcases ixI_cases (nmIs (x.fld 3).asStr) w with ⟨k, h1, _, _, e⟩ | ⟨_, e⟩ <;> rw [e] at h ⊢
  · omega
  · omega
theorem key_in {t : D} (hw : wfT t = true) (h : eqBytes (t.fld 2).asStr [] = false) : 0 ≤ ixI (nmIs (t.fld 2).asStr) (t.fld 1).els ∧ ixI (nmIs (t.fld 2).asStr) (t.fld 1).els < (t.fld 1).els.length := by
  unfold wfT at hw
  rw [h, Bool.false_or] at hw
  have hw := of_decide_eq_true hw
  rcases ixI_cases (nmIs (t.fld 2).asStr) (t.fld 1).els with ⟨k, h1, _, _, e⟩ | ⟨_, e⟩ <;> rw [e] at hw ⊢ <;> omega
theorem mW2 (hw : w.length < 1000000) (hl : l.length < 1000000) (hwf : ∀ t ∈ w, wfT t = true ∧ (t.fld 1).els.length < 1000000) :
    loopR (mayW_t0_L2 (w.length, w, a, l, c, d)) 0 = some (scanL (fun _ x => if refE w x = 0 then none else some (0, refE w x)) (1, 0) 0 l) :=
  loop_scan l _ _ (fun j hj => by
    have hf := findW_is w ((l.getD j .nul).fld 3).asStr hw
    simp only [mayW_t0_L2, mayW_t0_L2_stp, nrun_br, nrun_more, nrun_done, nrun_fail, lt_cast hj, ge0, wrap1 (show j < 1000000 by omega), Int.toNat_natCast, Nat.zero_add, Bool.and_true, if_true, hf.1, hf.2, refE]
    rcases Bool.eq_false_or_eq_true (eqBytes ((l.getD j .nul).fld 3).asStr []) with p1 | p1
    · simp only [p1]; rfl
    by_cases p2 : ixI (nmIs ((l.getD j .nul).fld 3).asStr) w < 0
    · simp only [p1, p2, decide_eq_true p2]; rfl
    obtain ⟨k1, k2, k3⟩ := toT_in p2
    have hm : toT w (l.getD j .nul) ∈ w := by
      unfold toT
      rw [List.getD, List.getElem?_eq_getElem k1]
      exact List.getElem_mem k1
    obtain ⟨hwf1, hwf2⟩ := hwf _ hm
    rcases Bool.eq_false_or_eq_true (eqBytes ((toT w (l.getD j .nul)).fld 2).asStr []) with p3 | p3
    · have p3' := p3
      unfold toT at p3'
      simp only [p1, p2, p3, p3', decide_eq_true k1, decide_eq_true k2, decide_eq_true k3, decide_eq_false p2]; rfl
    have p3' := p3
    unfold toT at p3'
    obtain ⟨k4, k5⟩ := key_in hwf1 p3
    have hc := colofR_is ((toT w (l.getD j .nul)).fld 0).asStr ((toT w (l.getD j .nul)).fld 1).els ((toT w (l.getD j .nul)).fld 2).asStr ((toT w (l.getD j .nul)).fld 3).els ((toT w (l.getD j .nul)).fld 2).asStr hwf2
    unfold toT at hc k4 k5
    simp only [p1, p2, p3, p3', decide_eq_true k1, decide_eq_true k2, decide_eq_true k3, decide_eq_false p2, hc.1, hc.2, decide_eq_true k4, decide_eq_true k5, toT]
    by_cases p4 : ((((w.getD (ixI (nmIs ((l.getD j .nul).fld 3).asStr) w).toNat .nul).fld 1).els.getD (ixI (nmIs ((w.getD (ixI (nmIs ((l.getD j .nul).fld 3).asStr) w).toNat .nul).fld 2).asStr) ((w.getD (ixI (nmIs ((l.getD j .nul).fld 3).asStr) w).toNat .nul).fld 1).els).toNat .nul).fld 1).asInt = ((l.getD j .nul).fld 1).asInt
    · simp only [p4, if_true, decide_true]; first | rfl | simp
    · have h40 : ¬ ((4 : Int) = 0) := by decide
      simp only [p4, h40, Bool.not_false, Bool.not_true, if_true, if_false, decide_true, decide_false, Bool.true_and, Bool.and_self, Bool.false_eq_true]) (by
    simp only [mayW_t0_L2, mayW_t0_L2_stp, nrun_br, nrun_more, nrun_done, nrun_fail, lt_self, ge0]; rfl)
theorem scan_ref : ∀ (l : List D) (k : Nat), let y := scanL (fun _ x => if refE w x = 0 then none else some ((0 : Nat), refE w x)) (1, 0) k l; (bif y.1.beq 0 then true else y.1.beq 1 && true) = true ∧ (bif y.1.beq 0 then y.2 else 0) = scanL (fun _ x => if refE w x = 0 then none else some (refE w x)) 0 k l
  | [], k => ⟨rfl, rfl⟩
  | x :: l, k => by
    simp only [scanL]
    by_cases h : refE w x = 0
    · simp only [if_pos h]; exact scan_ref l (k + 1)
    · simp only [if_neg h]; exact ⟨rfl, rfl⟩
theorem mayW_is (hw : w.length < 1000000) (hl : l.length < 1000000) (hd : d.length < 1000000) (hd' : ∀ i, i < d.length → ((d.getD i .nul).fld 0).els.length < 1000000) (hwf : ∀ t ∈ w, wfT t = true ∧ (t.fld 1).els.length < 1000000) :
    mayW_t0_V0 w.length w a l c d = true ∧ mayW_t0_V1 w.length w a l c d = addE w a l c d := by
  have h0 := loopA (mW0 w a l c d w.length hl)
  have h2 := mW2 w a l c d hw hl hwf
  have hn := namesW_is w a l c d hw hl hd hd'
  obtain ⟨s1, s2⟩ := scan_ref w l 0
  unfold mayW_t0_V0 mayW_t0_V1 addE
  simp only [h0.1, h0.2.1, h0.2.2, loopOk_of h2, loopV_of h2, hn.1, hn.2, Bool.true_and, Bool.and_true]
  simp only [Bool.and_true] at s1
  by_cases p1 : 8 ≤ w.length
  · simp only [decide_eq_true (show ((w.length : Nat) : Int) ≥ 8 by omega), p1, true_or, if_true]; exact ⟨rfl, rfl⟩
  by_cases p2 : l.length < 1
  · simp only [decide_eq_false (show ¬ ((w.length : Nat) : Int) ≥ 8 by omega), decide_eq_true (show ((l.length : Nat) : Int) < 1 by omega), p2, true_or, or_true, if_true]; exact ⟨rfl, rfl⟩
  by_cases p3 : 6 < l.length
  · simp only [decide_eq_false (show ¬ ((w.length : Nat) : Int) ≥ 8 by omega), decide_eq_false (show ¬ ((l.length : Nat) : Int) < 1 by omega), decide_eq_true (show ((l.length : Nat) : Int) > 6 by omega), p3, true_or, or_true, if_true]; exact ⟨rfl, rfl⟩
  by_cases p4 : 3 < d.length
  · simp only [decide_eq_false (show ¬ ((w.length : Nat) : Int) ≥ 8 by omega), decide_eq_false (show ¬ ((l.length : Nat) : Int) < 1 by omega), decide_eq_false (show ¬ ((l.length : Nat) : Int) > 6 by omega), decide_eq_true (show ((d.length : Nat) : Int) > 3 by omega), p4, true_or, or_true, if_true]; exact ⟨rfl, rfl⟩
  simp only [decide_eq_false (show ¬ ((w.length : Nat) : Int) ≥ 8 by omega), decide_eq_false (show ¬ ((l.length : Nat) : Int) < 1 by omega), decide_eq_false (show ¬ ((l.length : Nat) : Int) > 6 by omega), decide_eq_false (show ¬ ((d.length : Nat) : Int) > 3 by omega), p1, p2, p3, p4, or_self, if_false]
  rcases Bool.eq_false_or_eq_true (namesE w a l c d) with q1 | q1 <;> rcases Bool.eq_false_or_eq_true (allN (fun i => !kindBad (l.getD i .nul)) l.length) with q2 | q2 <;> simp only [q1, q2]
  · exact ⟨s1, s2⟩
  all_goals exact ⟨rfl, rfl⟩
end
end Go.Proofs.Ytekedhfmdpbplaa
