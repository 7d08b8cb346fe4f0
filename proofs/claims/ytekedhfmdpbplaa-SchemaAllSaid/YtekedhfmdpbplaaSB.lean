/- SchemaAll comes to true. -/
import Derived.Test.YtekedhfmdpbplaaPvSa
import Derived.Test.YtekedhfmdpbplaaSrR
import Derived.Test.YtekedhfmdpbplaaSA
import Derived.KernelRfl
set_option linter.unusedSimpArgs false
set_option linter.unusedVariables false
set_option maxRecDepth 100000
namespace Go.Proofs.Ytekedhfmdpbplaa
open Go Go.Sy
theorem sa_L0 (l : List D) (c1 c2 : List UInt8) (hl : l.length < 1000000) (hin : ∀ i, i < l.length → InT (l.getD i .nul)) : ∀ f k w, k + f = l.length → InvT w →
    ∃ S, InvT S ∧ loopR (schemaAll_t0_L0 (l, c1, c2)) (w.length, (k : Int), w.length, w, w) = some (1, 0, 0, [], [], S.length, S.length, S, S) := by
  intro f
  induction f with
  | zero =>
    intro k w hk hi
    obtain rfl : k = l.length := by omega
    refine ⟨w, hi, ?_⟩
    rw [loopR_eq]
    simp only [schemaAll_t0_L0, schemaAll_t0_L0_stp, nrun_br, nrun_more, nrun_done, nrun_fail, lt_self]
    rfl
  | succ f ih =>
    intro k w hk hi
    have hlt : k < l.length := by omega
    have ht := hin k hlt
    have hm := mayW_is w ((l.getD k .nul).fld 0).asStr ((l.getD k .nul).fld 1).els ((l.getD k .nul).fld 2).asStr ((l.getD k .nul).fld 3).els hi.len ht.cols ht.deps ht.left (fun t h => ⟨(hi.ok t h).wf, (hi.ok t h).cols⟩)
    have hf := formR_is ((l.getD k .nul).fld 0).asStr ((l.getD k .nul).fld 1).els ((l.getD k .nul).fld 2).asStr ((l.getD k .nul).fld 3).els ht.cols
    have ho : addOk_V w ((l.getD k .nul).fld 0).asStr ((l.getD k .nul).fld 1).els ((l.getD k .nul).fld 2).asStr ((l.getD k .nul).fld 3).els = true := addOk_iff.2 ⟨hi.len, hi.ok, ht.cols, ht.deps, ht.left, ht.nrm⟩
    rw [loopR_eq]
    by_cases q : addE w ((l.getD k .nul).fld 0).asStr ((l.getD k .nul).fld 1).els ((l.getD k .nul).fld 2).asStr ((l.getD k .nul).fld 3).els = 0
    · have hi' := inv_add hi ht q
      obtain ⟨S, h1, h2⟩ := ih (k + 1) _ (by omega) hi'
      refine ⟨S, h1, ?_⟩
      have ha : addT w ((l.getD k .nul).fld 0).asStr ((l.getD k .nul).fld 1).els ((l.getD k .nul).fld 2).asStr ((l.getD k .nul).fld 3).els = w ++ [mkT ((l.getD k .nul).fld 0).asStr (formC ((l.getD k .nul).fld 2).asStr ((l.getD k .nul).fld 1).els) ((l.getD k .nul).fld 2).asStr ((l.getD k .nul).fld 3).els] := by unfold addT; rw [if_pos q]
      have hw8 := (addE_zero q).1
      simp only [schemaAll_t0_L0, schemaAll_t0_L0_stp, nrun_br, nrun_more, nrun_done, nrun_fail, lt_cast hlt, ge0, wrap1 (show k < 1000000 by omega), Int.toNat_natCast, Nat.zero_add, Bool.and_true, if_true, hm.1, hm.2, hf.1, hf.2, ho, q, ha, decide_true, Bool.not_true, Bool.false_eq_true, if_false, Nat.ble_self_eq_true, grow_ok (n := w.length) (k := 0) (b := 80) (by omega) (by omega), Bool.and_self, app_take (n := w.length) (acc := w) rfl, Nat.beq_refl, Bool.true_and]
      have e3 : w.length + 1 = (w ++ [mkT ((l.getD k .nul).fld 0).asStr (formC ((l.getD k .nul).fld 2).asStr ((l.getD k .nul).fld 1).els) ((l.getD k .nul).fld 2).asStr ((l.getD k .nul).fld 3).els]).length := by rw [List.length_append]; rfl
      rw [e3]
      exact h2
    · obtain ⟨S, h1, h2⟩ := ih (k + 1) w (by omega) hi
      refine ⟨S, h1, ?_⟩
      have ha : addT w ((l.getD k .nul).fld 0).asStr ((l.getD k .nul).fld 1).els ((l.getD k .nul).fld 2).asStr ((l.getD k .nul).fld 3).els = w := by unfold addT; rw [if_neg q]
      simp only [schemaAll_t0_L0, schemaAll_t0_L0_stp, nrun_br, nrun_more, nrun_done, nrun_fail, lt_cast hlt, ge0, wrap1 (show k < 1000000 by omega), Int.toNat_natCast, Nat.zero_add, Bool.and_true, if_true, hm.1, hm.2, hf.1, hf.2, ho, q, ha, decide_true, decide_false, Bool.not_true, Bool.false_eq_true, if_false, Nat.ble_self_eq_true, Bool.and_self, Nat.beq_refl, Bool.true_and]
      exact h2
theorem sa_L2 (S : List D) (c1 c2 : List UInt8) (hi : InvT S) : loopOk (schemaAll_t0_L2 (c1, c2, S.length, colNames S, S.length, S, S)) 0 = true ∧ Nat.beq (loopV (schemaAll_t0_L2 (c1, c2, S.length, colNames S, S.length, S, S)) 0) 0 = false ∧ Nat.beq (loopV (schemaAll_t0_L2 (c1, c2, S.length, colNames S, S.length, S, S)) 0) 1 = true :=
  loopA (b := true) (loop_allN (stp := schemaAll_t0_L2 (c1, c2, S.length, colNames S, S.length, S, S)) S.length (fun _ => true) (fun k hk _ => by
    have hf := findP_is S ((S.getD k .nul).fld 0).asStr hi.len hi.ok
    have hx := inv_find hi.uniq hk
    have hh : hasN ((S.getD k .nul).fld 0).asStr S = true := by unfold hasN; rw [hx]; exact decide_eq_true (by omega)
    obtain ⟨f1, f2, f3, f4⟩ := hf.2.2.1 hh
    rw [hx, Int.toNat_natCast] at f1 f2 f3 f4
    have hm : S.getD k .nul ∈ S := by rw [getD_at hk]; exact List.getElem_mem hk
    have ho := hi.ok _ hm
    have he := eqtR_refl ((S.getD k .nul).fld 0).asStr ((S.getD k .nul).fld 1).els ((S.getD k .nul).fld 2).asStr ((S.getD k .nul).fld 3).els ho.cols ho.deps ho.left
    simp only [schemaAll_t0_L2, schemaAll_t0_L2_stp, nrun_br, nrun_more, nrun_done, nrun_fail, lt_cast hk, ge0, wrap1 (show k < 1000000 by have := hi.len; omega), Int.toNat_natCast, Nat.zero_add, Bool.and_true, if_true, decide_eq_true hk, hf.1, hf.2.1, hh, f1, f2, f3, f4, colNames_len, colNames_get hk, eqBytes_refl, he.1, he.2]
    rfl) (by
    simp only [schemaAll_t0_L2, schemaAll_t0_L2_stp, nrun_br, nrun_more, nrun_done, nrun_fail, lt_self, ge0]; rfl) |>.trans (by rw [allN_iff.2 (fun _ _ => rfl)]))
theorem schemaAll_is (l : List D) (c1 c2 : List UInt8) : schemaAll_t0_V0 l c1 c2 = true ∧ schemaAll_t0_V1 l c1 c2 = true := by
  have ht := tabsL_is l
  have h1 := cutX_is c1
  have h2 := cutX_is c2
  obtain ⟨k1, k2⟩ := tabsD_in l
  obtain ⟨S, hi, h0⟩ := sa_L0 (tabsD l) (cutS c1 20) (cutS c2 20) (by omega) k2 (tabsD l).length 0 [] (by omega) ⟨by simp, fun t h => by simp at h, fun i h => by simp at h⟩
  have h0 : loopR (schemaAll_t0_L0 (tabsD l, cutS c1 20, cutS c2 20)) ((0 : Nat), (0 : Int), (0 : Nat), [], []) = some (1, 0, 0, [], [], S.length, S.length, S, S) := h0
  have hn := namesP_is S hi.len
  have hL := sa_L2 S (cutS c1 20) (cutS c2 20) hi
  have hf := findP_is S (cutS c1 20) hi.len hi.ok
  have hw := findW_is S (cutS c1 20) hi.len
  unfold schemaAll_t0_V0 schemaAll_t0_V1
  simp only [ht.1, ht.2, h1.1, h1.2, h2.1, h2.2, loopOk_of h0, loopV_of h0, hn.1, hn.2, colNames_len, hL.1, hL.2.1, hL.2.2, hf.1, hf.2.1, hw.1, hw.2, dec_has, decide_true, scolP_t0_V0, scolP_t0_V1, scolP_t0_V2, scolP_t0_V3, scolP_t0_V4, scolP_t0_V5]
  rcases Bool.eq_false_or_eq_true (hasN (cutS c1 20) S) with p | p
  · obtain ⟨f1, f2, f3, f4⟩ := hf.2.2.1 p
    have p' := of_decide_eq_true p
    rcases ixI_cases (nmIs (cutS c1 20)) S with ⟨i, e1, _, _, e⟩ | ⟨_, e⟩
    · rw [e, Int.toNat_natCast] at f1 f2 f3 f4
      have hm : S.getD i .nul ∈ S := by rw [getD_at e1]; exact List.getElem_mem e1
      have ho := hi.ok _ hm
      have hc := ixCP0_is ((S.getD i .nul).fld 1).els (cutS c2 20) ho.cols
      have hr := colofR_is ((S.getD i .nul).fld 0).asStr ((S.getD i .nul).fld 1).els ((S.getD i .nul).fld 2).asStr ((S.getD i .nul).fld 3).els (cutS c2 20) ho.cols
      simp only [p, e, f1, f2, f3, f4, hc.1, hc.2, hr.1, hr.2, Int.toNat_natCast, Nat.zero_add, decide_eq_true e1, ge0, lt_cast e1, dec_has]
      rcases Bool.eq_false_or_eq_true (hasN (cutS c2 20) ((S.getD i .nul).fld 1).els) with q | q
      · have q' := of_decide_eq_true q
        rcases ixI_cases (nmIs (cutS c2 20)) ((S.getD i .nul).fld 1).els with ⟨j, g1, _, _, g⟩ | ⟨_, g⟩
        · simp only [q, g, Int.toNat_natCast, ge0, lt_cast g1, eqBytes_refl, decide_true, Bool.not_true, Bool.not_false, cond_true, cond_false]
          cases ((((S.getD i .nul).fld 1).els.getD j .nul).fld 2).asBool <;> exact ⟨rfl, rfl⟩
        · omega
      · simp only [q]
        exact ⟨rfl, rfl⟩
    · omega
  · obtain ⟨f1, f2⟩ := hf.2.2.2 p
    have hc := ixCP0_is [] (cutS c2 20) (by simp)
    have e : ixI (nmIs (cutS c2 20)) [] = -1 := rfl
    simp only [p, f1, f2, hc.1, hc.2, e, eqBytes_refl]
    exact ⟨rfl, rfl⟩
theorem schemaAll_run (l : List D) (c1 c2 : List UInt8) : (schemaAll.f [.fz false shTab l, .str c1, .str c2] []).run = some (.bool true, [], []) := by
  have h := schemaAll_is l c1 c2
  have hb : (Sh.beq shTab shTab && true) = true := by kernel_rfl
  show RT.run (.br (Sh.beq shTab shTab && true) (schemaAll_t0 l c1 c2) .fail) = _
  rw [hb]
  unfold schemaAll_t0
  rw [h.1, h.2]
  rfl
theorem schemaAll_comes (l : List D) (c1 c2 : List UInt8) : Sy.Comes Try.prog 3 [.fz false shTab l, .str c1, .str c2] [] (.bool true) [] :=
  ⟨schemaAll_ok.len _ _ _ _ _ (schemaAll_run l c1 c2), schemaAll_ok.calls _ _ _ _ _ (schemaAll_run l c1 c2)⟩
end Go.Proofs.Ytekedhfmdpbplaa
