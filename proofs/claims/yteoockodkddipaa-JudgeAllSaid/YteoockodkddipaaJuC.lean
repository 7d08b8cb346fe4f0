/- Plain: rows are laid in order; rows in order are told to be. -/
import Derived.Test.YteoockodkddipaaJuB
import Derived.Test.YteoockodkddipaaJy
set_option linter.unusedSimpArgs false
set_option linter.unusedVariables false
set_option maxRecDepth 100000
namespace Go.Proofs.Yteoockodkddipaa
open Go Go.Sy
theorem copy_ins2 {l : List D} {z r : D} {n a : Nat} (hl : l.length = n) (ha : a ≤ n) :
    (List.take (a + 1) (l ++ [z]) ++ (List.take (n + 1 - (a + 1)) (List.take (n + 1 - a) (List.drop a (l ++ [z]))) ++
      List.drop (a + 1 + (List.take (n + 1 - a) (List.drop a (l ++ [z]))).length.min (n + 1 - (a + 1))) (l ++ [z]))).set a r
    = l.take a ++ r :: l.drop a := by
  have h := copy_ins (z := z) (r := r) hl ha
  have e0 : List.take n (List.drop (0 : Nat) l) = l := by rw [List.drop_zero, List.take_of_length_le (by omega)]
  rw [e0] at h
  simpa only [Nat.zero_add] using h
theorem fin_L2 (l : List D) (c : List UInt8) (w : List D) (m : Int) (b s o : List D) (k : Int) (u : List UInt8) (n34 : Nat) (i33 : Int) (l35 : List D) :
    loopR (finR_t0_L2 (l, c, w, m, b, s, [], o, k, u, n34, i33, l35)) (true, (0 : Int)) = some true := by
  rw [loopR_eq]
  simp only [finR_t0_L2, finR_t0_L2_stp, nrun_br, nrun_more, nrun_done, nrun_fail, List.length_nil]
  rfl
theorem fin_L0 (l : List D) (c : List UInt8) (w : List D) (m : Int) (b s o : List D) (ho : o.length < 1000000) (kk : Int) (u : List UInt8) (n : Nat) (hc : colIn n o) (hn : n < 1000000) (hl : ∀ r ∈ l, RowIn n r) (hll : l.length < 1000000) :
    ∀ f k S, k + f = l.length → S.length = k → (∀ r ∈ S, RowIn n r) → SortedL (cmpQ o) S →
    ∃ T, T.length = l.length ∧ (∀ r ∈ T, RowIn n r) ∧ SortedL (cmpQ o) T ∧ loopR (finR_t0_L0 (l, c, w, m, b, s, [], o, kk, u)) ((k : Int), k, S) = some (l.length, T) := by
  intro f
  induction f with
  | zero =>
    intro k S hk hS h1 h2
    obtain rfl : k = l.length := by omega
    refine ⟨S, hS, h1, h2, ?_⟩
    rw [loopR_eq]
    simp only [finR_t0_L0, finR_t0_L0_stp, nrun_br, nrun_more, nrun_done, nrun_fail, lt_self, Bool.false_eq_true, if_false]
  | succ f ih =>
    intro k S hk hS h1 h2
    have hlt : k < l.length := by omega
    have hm : l.getD k .nul ∈ l := by rw [getD_at hlt]; exact List.getElem_mem hlt
    have hr := hl _ hm
    have hA := fin_at l c w m b s [] o ho kk u n hc hn k hlt hr S h1 (by omega)
    rw [hS] at hA
    have hi := insAt_ok (fun j => decide (cmpQ o (l.getD k .nul) (S.getD j .nul) < 0)) k
    generalize insAt (fun j => decide (cmpQ o (l.getD k .nul) (S.getD j .nul) < 0)) k = a at hA hi
    obtain ⟨i1, i2, i3⟩ := hi
    have hrow : D.agg [D.int ((l.getD k .nul).fld 0).asInt, D.list ((l.getD k .nul).fld 1).els] = l.getD k .nul := by
      obtain ⟨ri, rl, e, _⟩ := hr
      rw [e]; rfl
    have hI := copy_ins2 (z := D.agg [D.int (0 : Int), D.list []]) (r := l.getD k .nul) hS i1
    have hX := congrArg List.length hI
    rw [List.length_set] at hX
    have hX2 : (S.take a ++ l.getD k .nul :: S.drop a).length = k + 1 := by simp [List.length_take, List.length_drop]; omega
    rw [hX2] at hX
    have hso : SortedL (cmpQ o) (S.take a ++ l.getD k .nul :: S.drop a) := sorted_ins h2 (by omega) (fun h => by
      have := i2 h
      have := of_decide_eq_false this
      have sw := (cmpQ_ord o).swap (l.getD k .nul) (S.getD (a - 1) .nul)
      omega) (fun h => by
      have := of_decide_eq_true (i3 a (Nat.le_refl _) (by omega))
      omega)
    have hin : ∀ r ∈ S.take a ++ l.getD k .nul :: S.drop a, RowIn n r := fun r hr' => by
      rcases List.mem_append.1 hr' with h | h
      · exact h1 _ (List.mem_of_mem_take h)
      · rcases List.mem_cons.1 h with rfl | h
        · exact hr
        · exact h1 _ (List.mem_of_mem_drop h)
    obtain ⟨T, t1, t2, t3, t4⟩ := ih (k + 1) _ (by omega) hX2 hin hso
    refine ⟨T, t1, t2, t3, ?_⟩
    have hL2 := fin_L2 l c w m b s o kk u k (k : Int) S
    have wa : IntKind.i64.wrap ((a : Int) + (1 : Int)) = ((a + 1 : Nat) : Int) := wrap1 (by omega)
    have c1 : decide (((a + 1 : Nat) : Int) ≤ ((k + 1 : Nat) : Int)) = true := decide_eq_true (by omega)
    have c2 : decide ((a : Int) ≤ ((k + 1 : Nat) : Int)) = true := decide_eq_true (by omega)
    have c3 : decide ((a : Int) < ((k + 1 : Nat) : Int)) = true := decide_eq_true (by omega)
    have c4 : (a + (k + 1 - a)).ble (S ++ [D.agg [D.int (0 : Int), D.list []]]).length = true := Nat.ble_eq_true_of_le (by rw [List.length_append, hS]; simp; omega)
    have c5 : (a + 1 + (k + 1 - (a + 1))).ble (S ++ [D.agg [D.int (0 : Int), D.list []]]).length = true := Nat.ble_eq_true_of_le (by rw [List.length_append, hS]; simp; omega)
    rw [loopR_eq]
    simp only [finR_t0_L0, finR_t0_L0_stp, nrun_br, nrun_more, nrun_done, nrun_fail, lt_cast hlt, ge0, wrap1 (show k < 1000000 by omega), Int.toNat_natCast, Nat.zero_add, loopOk_of hL2, loopV_of hL2, loopOk_of hA, loopV_of hA, wa, c1, c2, c3, c4, c5, app_take hS, grow_ok (n := k) (k := 0) (b := 32) (by omega) (by omega), hS, hX, hrow, hI, Nat.ble_self_eq_true, decide_eq_true (show a < k + 1 by omega), Bool.and_true, Bool.and_self, Bool.not_true, Bool.false_eq_true, if_true, if_false]
    exact t4
theorem fin_is (l : List D) (c : List UInt8) (w : List D) (m : Int) (b s o : List D) (ho : o.length < 1000000) (u : List UInt8) (n : Nat) (hc : colIn n o) (hn : n < 1000000) (hl : ∀ r ∈ l, RowIn n r) (hll : l.length < 1000000) :
    ∃ T, T.length = l.length ∧ (∀ r ∈ T, RowIn n r) ∧ SortedL (cmpQ o) T ∧ finR_t0_V0 c w m b s [] o 0 u l = true ∧ finR_t0_V1 c w m b s [] o 0 u l = T := by
  obtain ⟨T, t1, t2, t3, t4⟩ := fin_L0 l c w m b s o ho 0 u n hc hn hl hll l.length 0 [] (by omega) rfl (fun r h => by simp at h) (fun i h => by simp at h)
  have t4 : loopR (finR_t0_L0 (l, c, w, m, b, s, [], o, 0, u)) ((0 : Int), (0 : Nat), []) = some (l.length, T) := t4
  refine ⟨T, t1, t2, t3, ?_, ?_⟩
  · unfold finR_t0_V0
    simp only [loopOk_of t4, loopV_of t4, Nat.zero_add, t1, Nat.ble_self_eq_true]
    rfl
  · unfold finR_t0_V1
    simp only [loopOk_of t4, loopV_of t4, List.drop_zero, List.take_of_length_le (Nat.le_of_eq t1)]
    rfl
/- ### are rows in order? -/
theorem isf_is (f : List UInt8) (w : List D) (m : Int) (b s v o : List D) (ho : o.length < 1000000) (k : Int) (u : List UInt8) (l : List D) (n : Nat) (hn : n < 1000000) (hl : ∀ r ∈ l, RowIn n r) (hll : l.length < 1000000) :
    isfP_t0_V0 f w m b s v o k u l = true ∧ isfP_t0_V1 f w m b s v o k u l = allN (fun i => !decide (cmpQ o (l.getD (i + 1) .nul) (l.getD i .nul) < 0)) (l.length - 1) := by
  have step : ∀ k0, 0 < k0 → k0 ≤ l.length - 1 → (isfP_t0_L0 (l, f, w, m, b, s, v, o, k, u) (k0 : Int)).run = match (if decide (cmpQ o (l.getD k0 .nul) (l.getD (k0 - 1) .nul) < 0) then some (0 : Nat) else none) with
      | some y => .done y
      | none => .more ((k0 - 1 : Nat) : Int) := fun k0 h0 h1 => by
    have hm1 : l.getD k0 .nul ∈ l := by rw [getD_at (by omega)]; exact List.getElem_mem _
    have hm2 : l.getD (k0 - 1) .nul ∈ l := by rw [getD_at (by omega)]; exact List.getElem_mem _
    obtain ⟨ri, rl, e, el⟩ := hl _ hm1
    obtain ⟨si, sl, e', el'⟩ := hl _ hm2
    have hb := ecmp_is f w m b s v o ho k u ri si rl sl (by omega)
    have ew : IntKind.i64.wrap ((k0 : Int) - (1 : Int)) = ((k0 - 1 : Nat) : Int) := by rw [wrap64 (by omega) (by omega)]; omega
    have g0 : decide ((k0 : Int) > (0 : Int)) = true := decide_eq_true (by omega)
    simp only [isfP_t0_L0, isfP_t0_L0_stp, nrun_br, nrun_more, nrun_done, nrun_fail, g0, ge0, ew, lt_cast (show k0 < l.length by omega), lt_cast (show k0 - 1 < l.length by omega), Int.toNat_natCast, Bool.and_true, if_true, ord1P_t0_V0]
    rw [e, e']
    simp only [show ((mkR ri rl).fld 0).asInt = ri from rfl, show ((mkR ri rl).fld 1).els = rl from rfl, show ((mkR si sl).fld 0).asInt = si from rfl, show ((mkR si sl).fld 1).els = sl from rfl, hb.1, hb.2, Bool.and_true, if_true]
    rcases Bool.eq_false_or_eq_true (decide (cmpQ o (mkR ri rl) (mkR si sl) < 0)) with p | p <;> simp only [p, if_true, if_false, Bool.false_eq_true]
  have hE : ∀ x : Int, x ≤ 0 → (isfP_t0_L0 (l, f, w, m, b, s, v, o, k, u) x).run = .done 1 := fun x hx => by
    simp only [isfP_t0_L0, isfP_t0_L0_stp, nrun_br, nrun_more, nrun_done, nrun_fail, decide_eq_false (show ¬ x > (0 : Int) by omega), Bool.false_eq_true, if_false]
  have hd := loop_down (stp := isfP_t0_L0 (l, f, w, m, b, s, v, o, k, u)) (fun k0 => if decide (cmpQ o (l.getD k0 .nul) (l.getD (k0 - 1) .nul) < 0) then some (0 : Nat) else none) 1 (l.length - 1) (fun k0 h0 h1 => by
    refine (step k0 h0 h1).trans ?_
    rcases Bool.eq_false_or_eq_true (decide (cmpQ o (l.getD k0 .nul) (l.getD (k0 - 1) .nul) < 0)) with p | p <;> simp only [p] <;> rfl) (hE 0 (by omega))
  have hq : ∀ j, downQ (fun k0 => if decide (cmpQ o (l.getD k0 .nul) (l.getD (k0 - 1) .nul) < 0) then some (0 : Nat) else none) 1 j = if allN (fun i => !decide (cmpQ o (l.getD (i + 1) .nul) (l.getD i .nul) < 0)) j then 1 else 0 := by
    intro j
    induction j with
    | zero => rfl
    | succ j ih =>
      simp only [downQ, Nat.add_sub_cancel]
      rcases Bool.eq_false_or_eq_true (decide (cmpQ o (l.getD (j + 1) .nul) (l.getD j .nul) < 0)) with p | p
      · have : allN (fun i => !decide (cmpQ o (l.getD (i + 1) .nul) (l.getD i .nul) < 0)) (j + 1) = false := allN_false (k := j) (by omega) (by simp only [p]; rfl)
        rw [this]
        simp only [p, if_true, Bool.false_eq_true, if_false]
      · have : allN (fun i => !decide (cmpQ o (l.getD (i + 1) .nul) (l.getD i .nul) < 0)) (j + 1) = allN (fun i => !decide (cmpQ o (l.getD (i + 1) .nul) (l.getD i .nul) < 0)) j := by
          apply Bool.eq_iff_iff.2
          rw [allN_iff, allN_iff]
          refine ⟨fun h i hi => h i (by omega), fun h i hi => ?_⟩
          by_cases hj : i = j
          · subst hj; simp only [p]; rfl
          · exact h i (by omega)
        rw [this]
        simp only [p, Bool.false_eq_true, if_false]
        exact ih
  have hL : ∃ x : Nat, x = (if allN (fun i => !decide (cmpQ o (l.getD (i + 1) .nul) (l.getD i .nul) < 0)) (l.length - 1) then 1 else 0) ∧ loopR (isfP_t0_L0 (l, f, w, m, b, s, v, o, k, u)) (IntKind.i64.wrap ((l.length : Int) - (1 : Int))) = some x := by
    rw [wrap64 (by omega) (by omega)]
    by_cases h0 : l.length = 0
    · refine ⟨1, ?_, ?_⟩
      · rw [h0]; rfl
      · rw [loopR_eq, hE _ (by omega)]
    · have := hd (l.length - 1) (Nat.le_refl _)
      rw [hq] at this
      rw [show ((l.length : Int) - 1) = ((l.length - 1 : Nat) : Int) by omega]
      exact ⟨_, rfl, this⟩
  obtain ⟨x, hx, hL⟩ := hL
  unfold isfP_t0_V0 isfP_t0_V1
  simp only [loopOk_of hL, loopV_of hL, hx]
  rcases Bool.eq_false_or_eq_true (allN (fun i => !decide (cmpQ o (l.getD (i + 1) .nul) (l.getD i .nul) < 0)) (l.length - 1)) with p | p <;> simp only [p, if_true, if_false, Bool.false_eq_true] <;> exact ⟨rfl, rfl⟩
theorem ord_sorted (f : List UInt8) (w : List D) (m : Int) (b s v o : List D) (ho : o.length < 1000000) (k : Int) (u : List UInt8) (l : List D) (n : Nat) (hn : n < 1000000) (hl : ∀ r ∈ l, RowIn n r) (hll : l.length < 1000000) (hs : SortedL (cmpQ o) l) :
    ordP_t0_V0 f w m b s v o k u l = true ∧ isfP_t0_V1 f w m b s v o k u l = true := by
  have h := isf_is f w m b s v o ho k u l n hn hl hll
  refine ⟨by unfold ordP_t0_V0; rw [h.1]; rfl, ?_⟩
  rw [h.2, allN_iff]
  intro i hi
  have := hs i (by omega)
  have sw := (cmpQ_ord o).swap (l.getD i .nul) (l.getD (i + 1) .nul)
  rw [decide_eq_false (by omega)]
  rfl
end Go.Proofs.Yteoockodkddipaa
