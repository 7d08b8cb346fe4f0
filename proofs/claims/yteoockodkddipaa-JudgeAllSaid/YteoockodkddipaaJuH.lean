/- JudgeAll comes to true. -/
import Derived.Test.YteoockodkddipaaJuG
import Derived.Test.YteoockodkddipaaSyQ
import Derived.KernelRfl
set_option linter.unusedSimpArgs false
set_option linter.unusedVariables false
set_option maxRecDepth 100000
namespace Go.Proofs.Yteoockodkddipaa
open Go Go.Sy
theorem cmpD_refl (x : D) : cmpD x x = 0 := cmp3_refl _ _ _
theorem rowD_refl (l : List D) : rowD l l = 0 := rowD_zero rfl (fun i _ => cmpD_refl _)
theorem gP_iff (T A : List D) (i j : Nat) : gP T A i j = true ↔ cmpQ T (A.getD j .nul) (A.getD i .nul) ≤ 0 := by
  have sw := (cmpQ_ord T).swap (A.getD i .nul) (A.getD j .nul)
  unfold gP
  rw [Bool.not_eq_true', decide_eq_false_iff_not]
  omega
theorem adj_pairs (T A : List D) (h : ∀ i, i + 1 < A.length → gP T A (i + 1) i = true) : ∀ i, i < A.length → ∀ j, j < i → gP T A i j = true := by
  have key : ∀ d j, j + d + 1 < A.length → cmpQ T (A.getD j .nul) (A.getD (j + d + 1) .nul) ≤ 0 := by
    intro d
    induction d with
    | zero => intro j hj; exact (gP_iff T A (j + 1) j).1 (h j hj)
    | succ d ih =>
      intro j hj
      exact (cmpQ_ord T).trans _ _ _ (ih j (by omega)) ((gP_iff T A (j + d + 1 + 1) (j + d + 1)).1 (h (j + d + 1) (by omega)))
  intro i hi j hj
  rw [gP_iff]
  have := key (i - j - 1) j (by omega)
  rwa [show j + (i - j - 1) + 1 = i by omega] at this
theorem rows_num {a : List D} (h : okD (.slice shRow) (.list a)) {c : Int} (h0 : 0 ≤ c) (h3 : c < 3) : NumIn c (rowsT 3 a) := by
  intro k hk
  have hm : (rowsT 3 a).getD k .nul ∈ rowsT 3 a := by rw [getD_at hk]; exact List.getElem_mem hk
  obtain ⟨r, hr, e⟩ := List.mem_map.1 hm
  have hr := List.mem_of_mem_take hr
  rw [← e]
  have hk2 := h.2 r hr
  have hv : okD (.slice shV) (r.fld 1) := hk2.2.1
  have hpl : (padV (((r.fld 1).els.take 3).map valD) 3).length = 3 := padV_len _ _ (by rw [List.length_map, List.length_take]; omega)
  have hmem : (padV (((r.fld 1).els.take 3).map valD) 3).getD c.toNat .nul ∈ padV (((r.fld 1).els.take 3).map valD) 3 := by
    rw [getD_at (by omega)]; exact List.getElem_mem _
  show inI (((padV (((r.fld 1).els.take 3).map valD) 3).getD c.toNat .nul).fld 1).asInt = true
  generalize (padV (((r.fld 1).els.take 3).map valD) 3).getD c.toNat .nul = x at hmem
  unfold padV at hmem
  rcases List.mem_append.1 hmem with hx | hx
  · obtain ⟨v, hv1, rfl⟩ := List.mem_map.1 hx
    have hok : okD shV v := hv.2 v (List.mem_of_mem_take hv1)
    have hw : (Lit.int .i64 (v.fld 1).asInt).wf = true := hok.2.1
    exact inI_iff.2 (wf_i64 hw)
  · obtain rfl := List.eq_of_mem_replicate hx
    rfl
theorem drop_take1 {A : List D} {k : Nat} (h : k < A.length) : List.drop k (List.take (k + 1) A) = [A.getD k .nul] := by
  rw [take_one h, List.drop_append_of_le_length (by rw [List.length_take]; omega), List.drop_eq_nil_of_le (by rw [List.length_take]; omega)]
  rfl
theorem jall_is (a b : List D) (c : List UInt8) (w : List D) (m : Int) (y s v o : List D) (k2 : Int) (u : List UInt8) (set col : Int) (vals : List D) (hok : okD (.slice shRow) (.list a)) :
    jall_t0_V0 a b c w m y s v o k2 u set col vals = true ∧ jall_t0_V1 a b c w m y s v o k2 u set col vals = true := by
  have ha := rows_is a 3 (by omega)
  have ha1 : rowsL_t0_V0 a (3 : Int) = true := ha.1
  have ha2 : rowsL_t0_V1 a (3 : Int) = rowsT 3 a := ha.2
  have hb := rows_is b 3 (by omega)
  have hb1 : rowsL_t0_V0 b (3 : Int) = true := hb.1
  have hb2 : rowsL_t0_V1 b (3 : Int) = rowsT 3 b := hb.2
  have hin := rowsT_in 3 a
  have hnum : ∀ c : Int, 0 ≤ c → c < 3 → NumIn c (rowsT 3 a) := fun c h0 h3 => rows_num hok h0 h3
  have hal : (rowsT 3 a).length ≤ 15 := by unfold rowsT; rw [List.length_map, List.length_take]; omega
  have hbl : (rowsT 3 b).length ≤ 15 := by unfold rowsT; rw [List.length_map, List.length_take]; omega
  have hvl : (valsD vals 3).length ≤ 3 := by unfold valsD; rw [List.length_map, List.length_take]; exact Nat.min_le_left _ _
  obtain ⟨T, t1, t2, t3⟩ := ja_L0 (rowsT 3 a) (rowsT 3 b) set col (valsD vals 3) c w m y s v o k2 u 4 0 [] (by omega) (by simp) (fun k h => by simp at h)
  have t3 : loopR (jall_t0_L0 (rowsT 3 a, rowsT 3 b, set, col, valsD vals 3, c, w, m, y, s, v, o, k2, u)) ((0 : Nat), (0 : Int), []) = some (T.length, T) := t3
  obtain ⟨r, c', q1, q2⟩ := ja_L2 (rowsT 3 a) (rowsT 3 b) set col (valsD vals 3) T (by omega) t2 hin hal (rowsT 3 a).length 0 true false (by omega)
  have q1 : loopR (jall_t0_L2 (rowsT 3 a, rowsT 3 b, set, col, valsD vals 3, T.length, T)) ((0 : Int), true, false) = some (r, c') := q1
  have q6 := ja_L6 (rowsT 3 a) (rowsT 3 b) set col (valsD vals 3) r T.length c' T hin hal hvl (rowsT 3 a).length (-1) (Nat.le_refl _)
  rw [fstG_ix] at q6
  have ew : IntKind.i64.wrap (((rowsT 3 a).length : Int) - (1 : Int)) = ((rowsT 3 a).length : Int) - 1 := by rw [wrap64 (by omega) (by omega)]
  have hg := group_is (rowsT 3 a) set (valsD vals 3) 3 (by omega) (by omega) hin hvl
  have hsm := same_is (rowsT 3 a) (rowsT 3 b) 3 (by omega) (by omega) hin
  have heq := eqr_is (rowsT 3 a) (rowsT 3 b) 3 (by omega) (by omega) hin
  have hsm1 : eqfP_t0_V0 (rowsT 3 a) (rowsT 3 b) = true := hsm.1
  have hsf := isf_is [] [] 0 [] [] [] T (by omega) 0 [] (rowsT 3 a) 3 (by omega) hin (by omega)
  have hso : ordP_t0_V0 [] [] 0 [] [] [] T 0 [] (rowsT 3 a) = true := by unfold ordP_t0_V0; rw [hsf.1]; rfl
  have hr : isfP_t0_V1 [] [] 0 [] [] [] T 0 [] (rowsT 3 a) = r := by
    rw [hsf.2]
    apply Bool.eq_iff_iff.2
    rw [allN_iff, q2]
    constructor
    · intro h
      refine ⟨rfl, fun k _ hk j hj => adj_pairs T (rowsT 3 a) (fun i hi => h i (by omega)) k hk j hj⟩
    · intro h i hi
      exact h.2 (i + 1) (by omega) (by omega) i (by omega)
  have hcol : (decide (col < 0) = true) ∨ (decide (col < 0) = false ∧ decide (col > 2) = true) ∨ (decide (col < 0) = false ∧ decide (col > 2) = false ∧ 0 ≤ col ∧ col < 3) := by
    by_cases h0 : col < 0
    · exact .inl (decide_eq_true h0)
    · by_cases h2 : col > 2
      · exact .inr (.inl ⟨decide_eq_false h0, decide_eq_true h2⟩)
      · exact .inr (.inr ⟨decide_eq_false h0, decide_eq_false h2, by omega, by omega⟩)
  have tl : List.take T.length T = T := List.take_of_length_le (Nat.le_refl _)
  unfold jall_t0_V0 jall_t0_V1
  simp only [ha1, ha2, hb1, hb2, loopOk_of t3, loopV_of t3, loopOk_of q1, loopV_of q1, ew, loopOk_of q6, loopV_of q6, hg.1, hg.2.1, hsm1, hsm.2, heq.1, heq.2, Nat.zero_add, Nat.ble_self_eq_true, List.drop_zero, tl, hso, hr, beq_self_eq_true, ge_iff_le, Bool.not_true, cond_false, Bool.true_and, Bool.and_true]
  rcases ixI_cases (isG set (valsD vals 3)) (rowsT 3 a) with ⟨i, e1, _, _, e⟩ | ⟨_, e⟩
  · have hgi := hg.2.2 (by rw [e]; omega)
    rw [e, Int.toNat_natCast] at hgi
    have hm : (rowsT 3 a).getD i .nul ∈ rowsT 3 a := by rw [getD_at e1]; exact List.getElem_mem e1
    obtain ⟨ri, rl, er, el⟩ := hin _ hm
    have hrow : D.agg [D.int (((rowsT 3 a).getD i .nul).fld 0).asInt, D.list (((rowsT 3 a).getD i .nul).fld 1).els] = (rowsT 3 a).getD i .nul := by rw [er]; rfl
    have h1 := eqr_is [(rowsT 3 a).getD i .nul] [(rowsT 3 a).getD i .nul] 3 (by omega) (by simp) (fun x hx => by
      obtain rfl := List.mem_singleton.1 hx
      exact hin _ hm)
    have h2 : eqRs [(rowsT 3 a).getD i .nul] [(rowsT 3 a).getD i .nul] = true := by
      unfold eqRs
      rw [decide_eq_true rfl, Bool.true_and, allN_iff]
      intro k _
      unfold eqRw
      rw [decide_eq_true rfl, rowD_refl]
      rfl
    have g1 : decide (((i + 1 : Nat) : Int) ≤ ((rowsT 3 a).length : Int)) = true := decide_eq_true (by omega)
    have g2 : decide ((i : Int) ≤ ((i + 1 : Nat) : Int)) = true := decide_eq_true (by omega)
    simp only [e, wrap1 (show i < 1000000 by omega), Int.toNat_natCast, ge0, g1, g2, hgi.1, hgi.2, hrow, drop_take1 e1, h1.1, h1.2, h2, cond_true, cond_false, Bool.not_true, Bool.true_and, Bool.and_true]
    rcases hcol with p | ⟨p, p2⟩ | ⟨p, p2, p3, p4⟩
    · simp only [p, cond_true]
      exact ⟨trivial, trivial⟩
    · simp only [p, p2, cond_true, cond_false]
      exact ⟨trivial, trivial⟩
    · obtain ⟨Y, y1, y2⟩ := big_loop col (rowsT 3 a) p3 p4 hin (hnum col p3 p4) hal (rowsT 3 a).length 0 0 (by omega) rfl
      have y2 : loopR (jall_t0_L8 (rowsT 3 a, col)) ((0 : Int), (0 : Int), (0 : Int), (0 : Int), (0 : Int), (0 : Int), (0 : Int), (0 : Int), (0 : Int)) = some (bD 0 Y, bD 1 Y, bD 2 Y, bD 3 Y, bD 4 Y, bD 5 Y, bD 6 Y, bD 7 Y) := y2
      have hs := sumC_in (hnum col p3 p4) hal (Nat.le_refl (rowsT 3 a).length)
      have hY := big_is y1 hs.1 hs.2
      have hB : inB (bD 0 Y) (bD 1 Y) (bD 2 Y) (bD 3 Y) (bD 4 Y) (bD 5 Y) (bD 6 Y) (bD 7 Y) = true := inBn_t Y
      have ht := tot_is col (rowsT 3 a) p3 p4 hin (hnum col p3 p4) hal
      simp only [p, p2, cond_false, loopOk_of y2, loopV_of y2, hB, hY, ht.1, ht.2.1, ht.2.2, eq_self, decide_true, cond_true, Bool.true_and, beq_self_eq_true]
      exact ⟨trivial, trivial⟩
  · have g0 : decide ((0 : Int) ≤ -1) = false := by decide
    simp only [e, g0, cond_false]
    rcases hcol with p | ⟨p, p2⟩ | ⟨p, p2, p3, p4⟩
    · simp only [p, cond_true]
      exact ⟨trivial, trivial⟩
    · simp only [p, p2, cond_true, cond_false]
      exact ⟨trivial, trivial⟩
    · obtain ⟨Y, y1, y2⟩ := big_loop col (rowsT 3 a) p3 p4 hin (hnum col p3 p4) hal (rowsT 3 a).length 0 0 (by omega) rfl
      have y2 : loopR (jall_t0_L8 (rowsT 3 a, col)) ((0 : Int), (0 : Int), (0 : Int), (0 : Int), (0 : Int), (0 : Int), (0 : Int), (0 : Int), (0 : Int)) = some (bD 0 Y, bD 1 Y, bD 2 Y, bD 3 Y, bD 4 Y, bD 5 Y, bD 6 Y, bD 7 Y) := y2
      have hs := sumC_in (hnum col p3 p4) hal (Nat.le_refl (rowsT 3 a).length)
      have hY := big_is y1 hs.1 hs.2
      have hB : inB (bD 0 Y) (bD 1 Y) (bD 2 Y) (bD 3 Y) (bD 4 Y) (bD 5 Y) (bD 6 Y) (bD 7 Y) = true := inBn_t Y
      have ht := tot_is col (rowsT 3 a) p3 p4 hin (hnum col p3 p4) hal
      simp only [p, p2, cond_false, loopOk_of y2, loopV_of y2, hB, hY, ht.1, ht.2.1, ht.2.2, eq_self, decide_true, cond_true, Bool.true_and, beq_self_eq_true]
      exact ⟨trivial, trivial⟩
def qFs : List Sh := [.str, .slice shCond, .int .i64, .slice (.slice .str), .slice shAgg, .slice shHave, .slice shOrd, .int .i64, .str]
theorem jall_run (a b : List D) (q : D) (set col : Int) (vals : List D) (hok : okD (.slice shRow) (.list a)) : (jall.f [.fz false shRow a, .fz false shRow b, .agg (avFs qFs q 0), .int .i64 set, .int .i64 col, .fz false shV vals] []).run = some (.bool true, [], []) := by
  have h := jall_is a b (q.fld 0).asStr (q.fld 1).els (q.fld 2).asInt (q.fld 3).els (q.fld 4).els (q.fld 5).els (q.fld 6).els (q.fld 7).asInt (q.fld 8).asStr set col vals hok
  have hb : (Sh.beq shRow (Sh.struct [Sh.int IntKind.i64, shV.slice]) && (Sh.beq shRow (Sh.struct [Sh.int IntKind.i64, shV.slice]) && (Sh.beq shCond (Sh.struct [Sh.str.slice, Sh.int IntKind.i64, Sh.struct [Sh.int IntKind.i64, Sh.int IntKind.i64, Sh.str]]) && (Sh.beq (.slice .str) (Sh.str.slice) && (Sh.beq shAgg (Sh.struct [Sh.int IntKind.i64, Sh.str.slice]) && (Sh.beq shHave (Sh.struct [Sh.int IntKind.i64, Sh.int IntKind.i64, Sh.struct [Sh.int IntKind.i64, Sh.int IntKind.i64, Sh.str]]) && (Sh.beq shOrd (Sh.struct [Sh.int IntKind.i64, Sh.bool]) && (Sh.beq shV shV && (true))))))))) = true := by kernel_rfl
  show RT.run (.br (Sh.beq shRow (Sh.struct [Sh.int IntKind.i64, shV.slice]) && (Sh.beq shRow (Sh.struct [Sh.int IntKind.i64, shV.slice]) && (Sh.beq shCond (Sh.struct [Sh.str.slice, Sh.int IntKind.i64, Sh.struct [Sh.int IntKind.i64, Sh.int IntKind.i64, Sh.str]]) && (Sh.beq (.slice .str) (Sh.str.slice) && (Sh.beq shAgg (Sh.struct [Sh.int IntKind.i64, Sh.str.slice]) && (Sh.beq shHave (Sh.struct [Sh.int IntKind.i64, Sh.int IntKind.i64, Sh.struct [Sh.int IntKind.i64, Sh.int IntKind.i64, Sh.str]]) && (Sh.beq shOrd (Sh.struct [Sh.int IntKind.i64, Sh.bool]) && (Sh.beq shV shV && (true)))))))))
    (jall_t0 a b (q.fld 0).asStr (q.fld 1).els (q.fld 2).asInt (q.fld 3).els (q.fld 4).els (q.fld 5).els (q.fld 6).els (q.fld 7).asInt (q.fld 8).asStr set col vals) .fail) = _
  rw [hb]
  unfold jall_t0
  rw [h.1, h.2]
  rfl
theorem jall_comes (a b : List D) (q : D) (set col : Int) (vals : List D) (hok : okD (.slice shRow) (.list a)) : Sy.Comes Try.prog 3 [.fz false shRow a, .fz false shRow b, .agg (avFs qFs q 0), .int .i64 set, .int .i64 col, .fz false shV vals] [] (.bool true) [] :=
  ⟨jall_ok.len _ _ _ _ _ (jall_run a b q set col vals hok), jall_ok.calls _ _ _ _ _ (jall_run a b q set col vals hok)⟩
end Go.Proofs.Yteoockodkddipaa
