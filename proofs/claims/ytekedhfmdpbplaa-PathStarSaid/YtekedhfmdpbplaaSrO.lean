/- Plain: what the program's functions on a schema come to. -/
import Derived.Test.YtekedhfmdpbplaaSrN
set_option linter.unusedSimpArgs false
set_option linter.unusedVariables false
set_option maxRecDepth 100000
namespace Go.Proofs.Ytekedhfmdpbplaa
open Go Go.Sy
/-- A table's form, as it is found. -/
theorem findP_is (w : List D) (c : List UInt8) (hw : w.length < 1000000) (hok : ∀ t ∈ w, OkT t) :
    findP_t0_V0 w.length w c = true ∧ findP_t0_V5 w.length w c = hasN c w ∧
    (hasN c w = true → findP_t0_V1 w.length w c = ((w.getD (ixI (nmIs c) w).toNat .nul).fld 0).asStr ∧ findP_t0_V2 w.length w c = ((w.getD (ixI (nmIs c) w).toNat .nul).fld 1).els ∧ findP_t0_V3 w.length w c = ((w.getD (ixI (nmIs c) w).toNat .nul).fld 2).asStr ∧ findP_t0_V4 w.length w c = ((w.getD (ixI (nmIs c) w).toNat .nul).fld 3).els) ∧
    (hasN c w = false → findP_t0_V1 w.length w c = [] ∧ findP_t0_V2 w.length w c = []) := by
  have hi := ixTP_is w c hw
  unfold findP_t0_V0 findP_t0_V1 findP_t0_V2 findP_t0_V3 findP_t0_V4 findP_t0_V5
  simp only [hi.1, hi.2, dec_has, Nat.zero_add]
  rcases Bool.eq_false_or_eq_true (hasN c w) with p | p
  · have p' := of_decide_eq_true p
    rcases ixI_cases (nmIs c) w with ⟨k, h1, _, _, e⟩ | ⟨_, e⟩
    · have hm : w.getD k .nul ∈ w := by
        rw [List.getD, List.getElem?_eq_getElem h1]
        exact List.getElem_mem h1
      obtain ⟨o1, o2, o3, o4, o5, o6⟩ := hok _ hm
      simp only [p, e, Int.toNat_natCast]
      have hc := copiedP_is ((w.getD k .nul).fld 0).asStr ((w.getD k .nul).fld 1).els ((w.getD k .nul).fld 2).asStr ((w.getD k .nul).fld 3).els o2 o3 o4 o5
      simp only [hc.1, hc.2, decide_eq_true h1, decide_eq_true (show (0 : Int) ≤ (k : Int) by omega), decide_eq_true (show (k : Int) < (w.length : Int) by omega), List.drop_zero, List.take_length, Nat.ble_self_eq_true]
      exact ⟨rfl, rfl, fun _ => ⟨rfl, rfl, rfl, rfl⟩, fun h => by cases h⟩
    · omega
  · simp only [p]
    exact ⟨rfl, rfl, fun h => (by cases h), fun _ => ⟨rfl, rfl⟩⟩
section
variable (w : List D) (a : List UInt8) (l : List D) (c : List UInt8) (d : List D)
theorem namedL (n : Nat) (hl : l.length < 1000000) : ∃ y, loopR (snamedP_t0_L0 (l, (l.length : Int), n, w, a, l, c, d)) (0, 0, []) = some y ∧
    ((allN (fun k => nameV ((l.getD k .nul).fld 0).asStr) l.length = false ∧ Nat.beq y.1 0 = true) ∨ (allN (fun k => nameV ((l.getD k .nul).fld 0).asStr) l.length = true ∧ y = (1, 0, [], l.length, colNames l))) := by
  have hc : ∀ k, k ≤ l.length → (colNames (l.take k)).length = k := fun k hk => by rw [colNames_len, List.length_take]; omega
  have := loop_goodE (stp := snamedP_t0_L0 (l, (l.length : Int), n, w, a, l, c, d)) (fun k => (k, (k : Int), colNames (l.take k))) l.length (fun k => nameV ((l.getD k .nul).fld 0).asStr) (fun k => (0, k, colNames (l.take k), 0, [])) (1, 0, [], l.length, colNames l) (fun k hk => by
    have hn := nameP_is ((l.getD k .nul).fld 0).asStr
    have hg : (((3 : Nat) * (k + (1 : Nat)) + (2000 : Nat)) * (16 : Nat)).ble (281474976710656 : Nat) = true := Nat.ble_eq_true_of_le (by omega)
    have ht : List.take k (List.drop 0 (colNames (l.take k))) ++ [D.str ((l.getD k .nul).fld 0).asStr] = colNames (l.take (k + 1)) := by
      rw [List.drop_zero, List.take_of_length_le (by rw [hc k (by omega)]; omega), take_one hk]
      simp [colNames]
    simp only [snamedP_t0_L0, snamedP_t0_L0_stp, nrun_br, nrun_more, nrun_done, nrun_fail, lt_cast hk, ge0, wrap1 (show k < 1000000 by omega), Int.toNat_natCast, Nat.zero_add, Bool.and_true, if_true, hn.1, hn.2, hg, hc k (by omega), Nat.ble_self_eq_true, ht]
    rcases Bool.eq_false_or_eq_true (nameV ((l.getD k .nul).fld 0).asStr) with p | p <;> simp only [p] <;> rfl) (by
    have : colNames (l.take l.length) = colNames l := by rw [List.take_length]
    simp only [snamedP_t0_L0, snamedP_t0_L0_stp, nrun_br, nrun_more, nrun_done, nrun_fail, lt_self, ge0, this]; rfl)
  rcases this with ⟨k, _, h1, h2⟩ | ⟨h1, h2⟩
  · exact ⟨_, h2, .inl ⟨h1, rfl⟩⟩
  · exact ⟨_, h2, .inr ⟨h1, rfl⟩⟩
theorem snamedP_is (hw : w.length < 1000000) (hok : ∀ t ∈ w, OkT t) (hl : l.length < 1000000) (hd : d.length < 1000000) (hd' : ∀ i, i < d.length → ((d.getD i .nul).fld 0).els.length < 1000000) :
    snamedP_t0_V0 w.length w a l c d = true ∧ snamedP_t0_V1 w.length w a l c d = namesE w a l c d := by
  obtain ⟨y, h0, h1⟩ := namedL w a l c d w.length hl
  have hf := findP_is w a hw hok
  have hn := nameP_is a
  have hx := ixCP0_is l c hl
  have hcf := cfDP_is a l c d hl hd hd'
  have htw := twiceP_is (colNames l) (by rw [colNames_len]; exact hl)
  unfold snamedP_t0_V0 snamedP_t0_V1 namesE
  rw [colsOk_eq]
  simp only [loopOk_of h0, loopV_of h0, hf.1, hf.2.1, hn.1, hn.2, hx.1, hx.2, hcf.1, hcf.2, dec_has, Bool.true_and, Bool.and_true, Bool.not_not]
  rcases h1 with ⟨h1, h2⟩ | ⟨h1, rfl⟩
  · simp only [h1, h2]
    rcases Bool.eq_false_or_eq_true (nameV a) with p1 | p1 <;> rcases Bool.eq_false_or_eq_true (hasN a w) with p2 | p2 <;> rcases Bool.eq_false_or_eq_true (eqBytes c []) with p4 | p4 <;> rcases Bool.eq_false_or_eq_true (hasN c l) with p5 | p5 <;> simp only [p1, p2, p4, p5] <;> exact ⟨rfl, rfl⟩
  · have e1 : List.take l.length (List.drop 0 (colNames l)) = colNames l := by rw [List.drop_zero, List.take_of_length_le (by rw [colNames_len]; omega)]
    simp only [h1, e1, htw.1, htw.2, Nat.zero_add, colNames_len, Nat.ble_self_eq_true, Bool.true_and, Bool.not_not]
    rcases Bool.eq_false_or_eq_true (nameV a) with p1 | p1 <;> rcases Bool.eq_false_or_eq_true (hasN a w) with p2 | p2 <;> rcases Bool.eq_false_or_eq_true (uniq (colNames l)) with p3 | p3 <;> rcases Bool.eq_false_or_eq_true (eqBytes c []) with p4 | p4 <;> rcases Bool.eq_false_or_eq_true (hasN c l) with p5 | p5 <;> rcases Bool.eq_false_or_eq_true (allN (fun i => depOk l (d.getD i .nul)) d.length) with p6 | p6 <;> simp only [p1, p2, p3, p4, p5, p6] <;> exact ⟨rfl, rfl⟩
theorem refsP_is (hw : w.length < 1000000) (hok : ∀ t ∈ w, OkT t) (hl : l.length < 1000000) :
    refsP_t0_V0 w.length w a l c d = true ∧ refsP_t0_V1 w.length w a l c d = refsE w l := by
  have h := loop_scan (stp := refsP_t0_L0 (l, (l.length : Int), w.length, w)) l (fun _ x => if refE w x = 0 then none else some (0, refE w x)) (1, 0) (fun j hj => by
    have hf := findP_is w ((l.getD j .nul).fld 3).asStr hw hok
    simp only [refsP_t0_L0, refsP_t0_L0_stp, nrun_br, nrun_more, nrun_done, nrun_fail, lt_cast hj, ge0, wrap1 (show j < 1000000 by omega), Int.toNat_natCast, Nat.zero_add, Bool.and_true, if_true, hf.1, hf.2.1, refE]
    rcases Bool.eq_false_or_eq_true (eqBytes ((l.getD j .nul).fld 3).asStr []) with p1 | p1
    · simp only [p1]; rfl
    rcases Bool.eq_false_or_eq_true (hasN ((l.getD j .nul).fld 3).asStr w) with p2 | p2
    · have p2' : ¬ ixI (nmIs ((l.getD j .nul).fld 3).asStr) w < 0 := by have := of_decide_eq_true p2; omega
      obtain ⟨k1, k2, k3⟩ := toT_in p2'
      obtain ⟨f1, f2, f3, f4⟩ := hf.2.2.1 p2
      have hm : toT w (l.getD j .nul) ∈ w := by
        unfold toT
        rw [List.getD, List.getElem?_eq_getElem k1]
        exact List.getElem_mem k1
      obtain ⟨o1, o2, o3, o4, o5, o6⟩ := hok _ hm
      have f2' : findP_t0_V2 w.length w ((l.getD j .nul).fld 3).asStr = ((toT w (l.getD j .nul)).fld 1).els := f2
      have f3' : findP_t0_V3 w.length w ((l.getD j .nul).fld 3).asStr = ((toT w (l.getD j .nul)).fld 2).asStr := f3
      rcases Bool.eq_false_or_eq_true (eqBytes ((toT w (l.getD j .nul)).fld 2).asStr []) with p3 | p3
      · simp only [p1, p2, p2', f2', f3', p3]; rfl
      obtain ⟨k4, k5⟩ := key_in o1 p3
      have hc := ixCP0_is ((toT w (l.getD j .nul)).fld 1).els ((toT w (l.getD j .nul)).fld 2).asStr o2
      simp only [p1, p2, p2', f2', f3', p3, hc.1, hc.2, decide_eq_true k4, decide_eq_true k5]
      by_cases p4 : ((((toT w (l.getD j .nul)).fld 1).els.getD (ixI (nmIs ((toT w (l.getD j .nul)).fld 2).asStr) ((toT w (l.getD j .nul)).fld 1).els).toNat .nul).fld 1).asInt = ((l.getD j .nul).fld 1).asInt
      · simp only [p4, if_true, decide_true]; first | rfl | simp
      · have h40 : ¬ ((4 : Int) = 0) := by decide
        simp only [p4, h40, Bool.not_false, Bool.not_true, if_true, if_false, decide_true, decide_false, Bool.true_and, Bool.and_self, Bool.false_eq_true]
    · have p2' : ixI (nmIs ((l.getD j .nul).fld 3).asStr) w < 0 := by have := of_decide_eq_false p2; omega
      simp only [p1, p2, p2']; rfl) (by
    simp only [refsP_t0_L0, refsP_t0_L0_stp, nrun_br, nrun_more, nrun_done, nrun_fail, lt_self, ge0]; rfl)
  obtain ⟨s1, s2⟩ := scan_ref w l 0
  unfold refsP_t0_V0 refsP_t0_V1
  rw [loopOk_of h, loopV_of h]
  simp only [Bool.true_and]
  exact ⟨s1, s2⟩
theorem cfCP_is (hl : l.length < 1000000) : ixCP_t2_V0 l = true ∧ cfCP_t0_V0 l = !allN (fun i => !kindBad (l.getD i .nul)) l.length := by
  have h := ixCP2_is l hl
  unfold cfCP_t0_V0
  rw [h.1, h.2, ixI_allN]
  exact ⟨rfl, rfl⟩
end
end Go.Proofs.Ytekedhfmdpbplaa
