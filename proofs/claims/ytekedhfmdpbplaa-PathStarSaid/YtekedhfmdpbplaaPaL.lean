/- Plain: both schemas; the columns at ways' ends; ways' texts. -/
import Derived.Test.YtekedhfmdpbplaaPvPa
import Derived.Test.YtekedhfmdpbplaaSyJo
import Derived.Test.YtekedhfmdpbplaaPa
import Derived.Test.YtekedhfmdpbplaaSrR
set_option linter.unusedSimpArgs false
set_option linter.unusedVariables false
set_option maxRecDepth 100000
namespace Go.Proofs.Ytekedhfmdpbplaa
open Go Go.Sy
theorem both_L0 (l : List D) (hl : l.length < 1000000) (hin : ∀ i, i < l.length → InT (l.getD i .nul)) : ∀ f k w, k + f = l.length → InvT w →
    InvT (bothS w (l.drop k)) ∧ loopR (bothP_t0_L0 l) (w.length, (k : Int), w.length, w, w) = some ((bothS w (l.drop k)).length, (bothS w (l.drop k)).length, bothS w (l.drop k), bothS w (l.drop k)) := by
  intro f
  induction f with
  | zero =>
    intro k w hk hi
    obtain rfl : k = l.length := by omega
    rw [List.drop_length]
    refine ⟨hi, ?_⟩
    rw [loopR_eq]
    simp only [bothP_t0_L0, bothP_t0_L0_stp, nrun_br, nrun_more, nrun_done, nrun_fail, lt_self]
    rfl
  | succ f ih =>
    intro k w hk hi
    have hlt : k < l.length := by omega
    have ht := hin k hlt
    have hm := mayW_is w ((l.getD k .nul).fld 0).asStr ((l.getD k .nul).fld 1).els ((l.getD k .nul).fld 2).asStr ((l.getD k .nul).fld 3).els hi.len ht.cols ht.deps ht.left (fun t h => ⟨(hi.ok t h).wf, (hi.ok t h).cols⟩)
    have hf := formR_is ((l.getD k .nul).fld 0).asStr ((l.getD k .nul).fld 1).els ((l.getD k .nul).fld 2).asStr ((l.getD k .nul).fld 3).els ht.cols
    have ho : addOk_V w ((l.getD k .nul).fld 0).asStr ((l.getD k .nul).fld 1).els ((l.getD k .nul).fld 2).asStr ((l.getD k .nul).fld 3).els = true := addOk_iff.2 ⟨hi.len, hi.ok, ht.cols, ht.deps, ht.left, ht.nrm⟩
    rw [drop_get (d := .nul) hlt, bothS, loopR_eq]
    by_cases q : addE w ((l.getD k .nul).fld 0).asStr ((l.getD k .nul).fld 1).els ((l.getD k .nul).fld 2).asStr ((l.getD k .nul).fld 3).els = 0
    · have hi' := inv_add hi ht q
      have ha : addT w ((l.getD k .nul).fld 0).asStr ((l.getD k .nul).fld 1).els ((l.getD k .nul).fld 2).asStr ((l.getD k .nul).fld 3).els = w ++ [mkT ((l.getD k .nul).fld 0).asStr (formC ((l.getD k .nul).fld 2).asStr ((l.getD k .nul).fld 1).els) ((l.getD k .nul).fld 2).asStr ((l.getD k .nul).fld 3).els] := by unfold addT; rw [if_pos q]
      obtain ⟨h1, h2⟩ := ih (k + 1) _ (by omega) hi'
      rw [ha]
      refine ⟨h1, ?_⟩
      have hw8 := (addE_zero q).1
      simp only [bothP_t0_L0, bothP_t0_L0_stp, nrun_br, nrun_more, nrun_done, nrun_fail, lt_cast hlt, ge0, wrap1 (show k < 1000000 by omega), Int.toNat_natCast, Nat.zero_add, Bool.and_true, if_true, hm.1, hm.2, hf.1, hf.2, ho, q, ha, decide_true, Bool.not_true, Bool.false_eq_true, if_false, Nat.ble_self_eq_true, grow_ok (n := w.length) (k := 0) (b := 80) (by omega) (by omega), Bool.and_self, app_take (n := w.length) (acc := w) rfl, Nat.beq_refl, Bool.true_and]
      have e3 : w.length + 1 = (w ++ [mkT ((l.getD k .nul).fld 0).asStr (formC ((l.getD k .nul).fld 2).asStr ((l.getD k .nul).fld 1).els) ((l.getD k .nul).fld 2).asStr ((l.getD k .nul).fld 3).els]).length := by rw [List.length_append]; rfl
      rw [e3]
      exact h2
    · have ha : addT w ((l.getD k .nul).fld 0).asStr ((l.getD k .nul).fld 1).els ((l.getD k .nul).fld 2).asStr ((l.getD k .nul).fld 3).els = w := by unfold addT; rw [if_neg q]
      obtain ⟨h1, h2⟩ := ih (k + 1) w (by omega) hi
      rw [ha]
      refine ⟨h1, ?_⟩
      simp only [bothP_t0_L0, bothP_t0_L0_stp, nrun_br, nrun_more, nrun_done, nrun_fail, lt_cast hlt, ge0, wrap1 (show k < 1000000 by omega), Int.toNat_natCast, Nat.zero_add, Bool.and_true, if_true, hm.1, hm.2, hf.1, hf.2, ho, q, ha, decide_true, decide_false, Bool.not_true, Bool.false_eq_true, if_false, Nat.ble_self_eq_true, Bool.and_self, Nat.beq_refl, Bool.true_and]
      exact h2
theorem bothP_is (l : List D) (hl : l.length < 1000000) (hin : ∀ i, i < l.length → InT (l.getD i .nul)) : InvT (bothS [] l) ∧ bothP_t0_V0 l = true ∧ bothP_t0_V1 l = bothS [] l ∧ bothP_t0_V2 l = (bothS [] l).length ∧ bothP_t0_V3 l = bothS [] l := by
  obtain ⟨h1, h2⟩ := both_L0 l hl hin l.length 0 [] (by omega) ⟨by simp, fun t h => by simp at h, fun i h => by simp at h⟩
  rw [List.drop_zero] at h1 h2
  have h2 : loopR (bothP_t0_L0 l) ((0 : Nat), (0 : Int), (0 : Nat), [], []) = some ((bothS [] l).length, (bothS [] l).length, bothS [] l, bothS [] l) := h2
  unfold bothP_t0_V0 bothP_t0_V1 bothP_t0_V2 bothP_t0_V3
  rw [loopOk_of h2, loopV_of h2]
  simp only [Nat.zero_add, Nat.ble_self_eq_true, List.drop_zero, List.take_length, Bool.and_true, and_true, h1]
theorem scolP_is (w : List D) (t n : List UInt8) (hw : w.length < 1000000) (hok : ∀ t ∈ w, OkT t) :
    scolP_t0_V0 w.length w t n = true ∧ scolP_t0_V5 w.length w t n = (hasN t w && hasN n ((tabAt w t).fld 1).els) ∧
    (hasN t w = true → hasN n ((tabAt w t).fld 1).els = true → scolP_t0_V1 w.length w t n = ((colAt ((tabAt w t).fld 1).els n).fld 0).asStr ∧ scolP_t0_V2 w.length w t n = ((colAt ((tabAt w t).fld 1).els n).fld 1).asInt ∧ scolP_t0_V3 w.length w t n = ((colAt ((tabAt w t).fld 1).els n).fld 2).asBool ∧ scolP_t0_V4 w.length w t n = ((colAt ((tabAt w t).fld 1).els n).fld 3).asStr) := by
  have hf := findP_is w t hw hok
  unfold scolP_t0_V0 scolP_t0_V1 scolP_t0_V2 scolP_t0_V3 scolP_t0_V4 scolP_t0_V5
  rcases Bool.eq_false_or_eq_true (hasN t w) with p | p
  · obtain ⟨f1, f2, f3, f4⟩ := hf.2.2.1 p
    have ho := hok _ (tabAt_mem p)
    have f2 : findP_t0_V2 w.length w t = ((tabAt w t).fld 1).els := f2
    have hc := ixCP0_is ((tabAt w t).fld 1).els n ho.cols
    simp only [hf.1, f2, hc.1, hc.2, p]
    rcases Bool.eq_false_or_eq_true (hasN n ((tabAt w t).fld 1).els) with q | q
    · obtain ⟨i, h1, h2⟩ := hasN_at q
      unfold colAt
      simp only [q, h2, Int.toNat_natCast, ge0, lt_cast h1, decide_eq_false (show ¬ ((i : Int) < 0) by omega), cond_false, cond_true, Bool.and_true, Bool.true_and, and_self, true_and, forall_const]
    · have h2 := hasN_no q
      simp only [q, decide_eq_true h2, cond_true, Bool.and_true, Bool.true_and, Bool.and_false, Bool.false_eq_true, false_implies, implies_true, and_self]
  · obtain ⟨f1, f2⟩ := hf.2.2.2 p
    have hc := ixCP0_is [] n (by simp)
    have e : ixI (nmIs n) [] = -1 := rfl
    simp only [hf.1, f2, hc.1, hc.2, e, p]
    exact ⟨rfl, rfl, fun h => by cases h⟩
/-- What a way comes to, as the loops have it. -/
theorem pcolP_L (w : List D) (hw : w.length < 1000000) (hok : ∀ t ∈ w, OkT t) (p : List D) (hp : p.length ≤ 4) : ∀ f k t, k + f = p.length → 1 ≤ f →
    loopR (pcolP_t0_L0 (p, p, (p.length : Int), w.length, w)) (t, (k : Int)) = some (0, (walkW w t (p.drop k)).2.1, (walkW w t (p.drop k)).2.2, ((walkW w t (p.drop k)).1.fld 0).asStr, ((walkW w t (p.drop k)).1.fld 1).asInt, ((walkW w t (p.drop k)).1.fld 2).asBool, ((walkW w t (p.drop k)).1.fld 3).asStr) := by
  intro f
  induction f with
  | zero => intro k t _ h; omega
  | succ f ih =>
    intro k t hk _
    have hlt : k < p.length := by omega
    obtain ⟨s1, s2, s3⟩ := scolP_is w t (p.getD k .nul).asStr hw hok
    have hwr : IntKind.i64.wrap ((p.length : Int) - 1) = ((p.length - 1 : Nat) : Int) := by rw [wrap64 (by omega) (by omega)]; omega
    rw [drop_get (d := .nul) hlt, walkW_cons, loopR_eq]
    simp only [pcolP_t0_L0, pcolP_t0_L0_stp, nrun_br, nrun_more, nrun_done, nrun_fail, lt_cast hlt, ge0, wrap1 (show k < 1000000 by omega), Int.toNat_natCast, Bool.and_true, if_true, s1, s2, hwr]
    rcases Bool.eq_false_or_eq_true (hasN t w) with q1 | q1
    · rcases Bool.eq_false_or_eq_true (hasN (p.getD k .nul).asStr ((tabAt w t).fld 1).els) with q2 | q2
      · obtain ⟨e1, e2, e3, e4⟩ := s3 q1 q2
        simp only [q1, q2, e1, e2, e3, e4, Bool.and_self, Bool.not_true, Bool.false_eq_true, if_false, cond_true]
        by_cases h1 : k + 1 = p.length
        · have h2 : p.drop (k + 1) = [] := List.drop_eq_nil_of_le (by omega)
          rw [h2, decide_eq_true (show ((k : Int) = ((p.length - 1 : Nat) : Int)) by omega)]
          rfl
        · have h2 : (p.drop (k + 1)).isEmpty = false := by rw [drop_get (d := .nul) (show k + 1 < p.length by omega)]; rfl
          rw [h2, decide_eq_false (show ¬ ((k : Int) = ((p.length - 1 : Nat) : Int)) by omega)]
          rcases Bool.eq_false_or_eq_true (eqBytes ((colAt ((tabAt w t).fld 1).els (p.getD k .nul).asStr).fld 3).asStr []) with q3 | q3
          · simp only [q3]; rfl
          · simp only [q3]
            exact ih (k + 1) _ (by omega) (by omega)
      · simp only [q1, q2]; rfl
    · simp only [q1]; rfl
theorem rcolR_L (w : List D) (hw : w.length < 1000000) (hok : ∀ t ∈ w, OkT t) (p : List D) (hp : p.length ≤ 4) : ∀ f k t, k + f = p.length → 1 ≤ f →
    loopR (rcolR_t0_L0 (w, p)) (t, (k : Int)) = some ((walkW w t (p.drop k)).2.1, (walkW w t (p.drop k)).2.2, ((walkW w t (p.drop k)).1.fld 0).asStr, ((walkW w t (p.drop k)).1.fld 1).asInt, ((walkW w t (p.drop k)).1.fld 2).asBool, ((walkW w t (p.drop k)).1.fld 3).asStr) := by
  intro f
  induction f with
  | zero => intro k t _ h; omega
  | succ f ih =>
    intro k t hk _
    have hlt : k < p.length := by omega
    have hf := findR_is w t hw
    have hwr : IntKind.i64.wrap ((p.length : Int) - 1) = ((p.length - 1 : Nat) : Int) := by rw [wrap64 (by omega) (by omega)]; omega
    rw [drop_get (d := .nul) hlt, walkW_cons, loopR_eq]
    simp only [rcolR_t0_L0, rcolR_t0_L0_stp, nrun_br, nrun_more, nrun_done, nrun_fail, lt_cast hlt, ge0, wrap1 (show k < 1000000 by omega), Int.toNat_natCast, Bool.and_true, if_true, hf.1, hf.2, hwr]
    rcases Bool.eq_false_or_eq_true (hasN t w) with q1 | q1
    · obtain ⟨i, i1, i2⟩ := hasN_at q1
      have ho := hok _ (tabAt_mem q1)
      have ht : w.getD i .nul = tabAt w t := by unfold tabAt; rw [i2]; rfl
      have hc := colofR_is ((tabAt w t).fld 0).asStr ((tabAt w t).fld 1).els ((tabAt w t).fld 2).asStr ((tabAt w t).fld 3).els (p.getD k .nul).asStr ho.cols
      simp only [i2, ht, hc.1, hc.2, q1, Int.toNat_natCast, ge0, lt_cast i1, decide_eq_false (show ¬ ((i : Int) < 0) by omega), Bool.and_self, if_true, Bool.false_eq_true, if_false, cond_true]
      rcases Bool.eq_false_or_eq_true (hasN (p.getD k .nul).asStr ((tabAt w t).fld 1).els) with q2 | q2
      · obtain ⟨j, j1, j2⟩ := hasN_at q2
        have hj : ((tabAt w t).fld 1).els.getD j .nul = colAt ((tabAt w t).fld 1).els (p.getD k .nul).asStr := by unfold colAt; rw [j2]; rfl
        simp only [j2, hj, q2, Int.toNat_natCast, ge0, lt_cast j1, decide_eq_false (show ¬ ((j : Int) < 0) by omega), Bool.and_self, if_true, Bool.false_eq_true, if_false, cond_true]
        by_cases h1 : k + 1 = p.length
        · have h2 : p.drop (k + 1) = [] := List.drop_eq_nil_of_le (by omega)
          rw [h2, decide_eq_true (show ((k : Int) = ((p.length - 1 : Nat) : Int)) by omega)]
          rfl
        · have h2 : (p.drop (k + 1)).isEmpty = false := by rw [drop_get (d := .nul) (show k + 1 < p.length by omega)]; rfl
          rw [h2, decide_eq_false (show ¬ ((k : Int) = ((p.length - 1 : Nat) : Int)) by omega)]
          rcases Bool.eq_false_or_eq_true (eqBytes ((colAt ((tabAt w t).fld 1).els (p.getD k .nul).asStr).fld 3).asStr []) with q3 | q3
          · simp only [q3]; rfl
          · simp only [q3]
            exact ih (k + 1) _ (by omega) (by omega)
      · have j2 := hasN_no q2
        simp only [q2, decide_eq_true j2]; rfl
    · have i2 := hasN_no q1
      simp only [q1, decide_eq_true i2]; rfl
theorem pcolP_is (w : List D) (hw : w.length < 1000000) (hok : ∀ t ∈ w, OkT t) (t : List UInt8) (p : List D) : pcolP_t0_V0 w.length w t p = true ∧ pcolP_t0_V1 w.length w t p = ((colW w t p).1.fld 0).asStr ∧ pcolP_t0_V2 w.length w t p = ((colW w t p).1.fld 1).asInt ∧
    pcolP_t0_V3 w.length w t p = ((colW w t p).1.fld 2).asBool ∧ pcolP_t0_V4 w.length w t p = ((colW w t p).1.fld 3).asStr ∧ pcolP_t0_V5 w.length w t p = (colW w t p).2.1 ∧ pcolP_t0_V6 w.length w t p = (colW w t p).2.2 := by
  unfold pcolP_t0_V0 pcolP_t0_V1 pcolP_t0_V2 pcolP_t0_V3 pcolP_t0_V4 pcolP_t0_V5 pcolP_t0_V6 colW
  by_cases h0 : p.length = 0
  · rw [decide_eq_true h0, decide_eq_true (show (p.length : Int) = 0 by omega)]; exact ⟨rfl, rfl, rfl, rfl, rfl, rfl, rfl⟩
  · rw [decide_eq_false h0, decide_eq_false (show ¬ (p.length : Int) = 0 by omega)]
    by_cases h1 : 4 < p.length
    · rw [decide_eq_true h1, decide_eq_true (show (p.length : Int) > 4 by omega)]; exact ⟨rfl, rfl, rfl, rfl, rfl, rfl, rfl⟩
    · rw [decide_eq_false h1, decide_eq_false (show ¬ (p.length : Int) > 4 by omega)]
      have h := pcolP_L w hw hok p (by omega) p.length 0 t (by omega) (by omega)
      rw [List.drop_zero] at h
      have h : loopR (pcolP_t0_L0 (p, p, (p.length : Int), w.length, w)) (t, (0 : Int)) = _ := h
      rw [loopOk_of h, loopV_of h]
      exact ⟨rfl, rfl, rfl, rfl, rfl, rfl, rfl⟩
theorem rcolR_is (w : List D) (hw : w.length < 1000000) (hok : ∀ t ∈ w, OkT t) (t : List UInt8) (p : List D) : rcolR_t0_V0 w t p = true ∧ rcolR_t0_V1 w t p = ((colW w t p).1.fld 0).asStr ∧ rcolR_t0_V2 w t p = ((colW w t p).1.fld 1).asInt ∧
    rcolR_t0_V3 w t p = ((colW w t p).1.fld 2).asBool ∧ rcolR_t0_V4 w t p = ((colW w t p).1.fld 3).asStr ∧ rcolR_t0_V5 w t p = (colW w t p).2.1 ∧ rcolR_t0_V6 w t p = (colW w t p).2.2 := by
  unfold rcolR_t0_V0 rcolR_t0_V1 rcolR_t0_V2 rcolR_t0_V3 rcolR_t0_V4 rcolR_t0_V5 rcolR_t0_V6 colW
  by_cases h0 : p.length = 0
  · rw [decide_eq_true h0, decide_eq_true (show (p.length : Int) < 1 by omega)]; exact ⟨rfl, rfl, rfl, rfl, rfl, rfl, rfl⟩
  · rw [decide_eq_false h0, decide_eq_false (show ¬ (p.length : Int) < 1 by omega)]
    by_cases h1 : 4 < p.length
    · rw [decide_eq_true h1, decide_eq_true (show (p.length : Int) > 4 by omega)]; exact ⟨rfl, rfl, rfl, rfl, rfl, rfl, rfl⟩
    · rw [decide_eq_false h1, decide_eq_false (show ¬ (p.length : Int) > 4 by omega)]
      have h := rcolR_L w hw hok p (by omega) p.length 0 t (by omega) (by omega)
      rw [List.drop_zero] at h
      have h : loopR (rcolR_t0_L0 (w, p)) (t, (0 : Int)) = _ := h
      rw [loopOk_of h, loopV_of h]
      exact ⟨rfl, rfl, rfl, rfl, rfl, rfl, rfl⟩
/-- The reference's text of a way. -/
theorem rtextR_L (l : List D) (hl : l.length < 1000000) (hs : ∀ i, i < l.length → (l.getD i .nul).asStr.length < 1000000) : ∀ f k, k + f = l.length →
    (joinL_V (l.take k) [46]).length ≤ k * 1000001 → loopR (rtextR_t0_L0 l) (joinL_V (l.take k) [46], (k : Int)) = some (joinL_V l [46]) := by
  intro f
  induction f with
  | zero =>
    intro k hk _
    obtain rfl : k = l.length := by omega
    rw [loopR_eq]
    simp only [rtextR_t0_L0, rtextR_t0_L0_stp, nrun_br, nrun_more, nrun_done, nrun_fail, lt_self, List.take_length]
    rfl
  | succ f ih =>
    intro k hk hb
    have hlt : k < l.length := by omega
    have hs' := hs k hlt
    have e : l.take (k + 1) = l.take k ++ [l.getD k .nul] := by rw [List.take_add_one, List.getD, List.getElem?_eq_getElem hlt]; rfl
    have ihk := ih (k + 1) (by omega)
    rw [loopR_eq]
    simp only [rtextR_t0_L0, rtextR_t0_L0_stp, nrun_br, nrun_more, nrun_done, nrun_fail, lt_cast hlt, ge0, wrap1 (show k < 1000000 by omega), Int.toNat_natCast, Bool.and_true, if_true]
    by_cases h0 : k = 0
    · subst h0
      have e0 : joinL_V (l.take 1) [46] = (l.getD 0 .nul).asStr := by
        rw [show l.take 1 = l.take (0 + 1) from rfl, e]
        simp only [joinL_V, List.take_zero, List.nil_append, List.map_cons, List.map_nil, Lib.join_one]
      have e9 : joinL_V (l.take 0) [46] = [] := rfl
      rw [e9]
      rw [decide_eq_false (show ¬ ((0 : Nat) : Int) > 0 by omega)]
      have hb1 : (([] : List UInt8).length + (l.getD 0 .nul).asStr.length).ble 9223372036854775807 = true := Nat.ble_eq_true_of_le (by rw [List.length_nil]; omega)
      simp only [Bool.false_eq_true, if_false, hb1, if_true, List.nil_append]
      rw [← e0]
      exact ihk (by rw [e0]; omega)
    · have hne : (l.take k).map D.asStr ≠ [] := by
        intro h
        have := congrArg List.length h
        rw [List.length_map, List.length_take, List.length_nil] at this
        omega
      have e1 : joinL_V (l.take (k + 1)) [46] = joinL_V (l.take k) [46] ++ [46] ++ (l.getD k .nul).asStr := by
        rw [e]
        simp only [joinL_V, List.map_append, List.map_cons, List.map_nil]
        rw [join_app _ _ _ hne]
      have hl1 : (joinL_V (l.take (k + 1)) [46]).length = (joinL_V (l.take k) [46]).length + 1 + (l.getD k .nul).asStr.length := by rw [e1, List.length_append, List.length_append, List.length_singleton]
      have hk6 : k * 1000001 ≤ 1000000 * 1000001 := Nat.mul_le_mul_right _ (by omega)
      rw [decide_eq_true (show ((k : Nat) : Int) > 0 by omega)]
      have hb1 : ((joinL_V (l.take k) [46]).length + 1).ble 9223372036854775807 = true := Nat.ble_eq_true_of_le (by omega)
      have hb2 : ((joinL_V (l.take k) [46] ++ [(46 : UInt8)]).length + (l.getD k .nul).asStr.length).ble 9223372036854775807 = true := Nat.ble_eq_true_of_le (by rw [List.length_append, List.length_singleton]; omega)
      simp only [hb1, hb2, if_true]
      rw [← e1]
      exact ihk (by rw [hl1, Nat.add_mul]; omega)
theorem rtextR_is (l : List D) (hl : l.length < 1000000) (hs : ∀ i, i < l.length → (l.getD i .nul).asStr.length < 1000000) : rtextR_t0_V0 l = true ∧ rtextR_t0_V1 l = joinL_V l [46] := by
  have h := rtextR_L l hl hs l.length 0 (by omega) (by simp [joinL_V, Lib.join_nil])
  have h : loopR (rtextR_t0_L0 l) ([], (0 : Int)) = _ := h
  unfold rtextR_t0_V0 rtextR_t0_V1
  rw [loopOk_of h, loopV_of h]
  exact ⟨rfl, rfl⟩
end Go.Proofs.Ytekedhfmdpbplaa
