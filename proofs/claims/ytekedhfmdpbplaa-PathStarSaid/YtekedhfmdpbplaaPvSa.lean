/- Plain: schemas that tables are added to. -/
import Derived.Test.YtekedhfmdpbplaaPvMp
set_option linter.unusedSimpArgs false
set_option linter.unusedVariables false
namespace Go.Sy
open Go
def uniqT (w : List D) : Prop := ∀ i, i < w.length → ∀ j, j < i → eqBytes ((w.getD j .nul).fld 0).asStr ((w.getD i .nul).fld 0).asStr = false
structure InvT (w : List D) : Prop where
  len : w.length < 1000000
  ok : ∀ t ∈ w, OkT t
  uniq : uniqT w
theorem ixI_map {p : D → Bool} {f : D → D} (h : ∀ x, p (f x) = p x) : ∀ l : List D, ixI p (l.map f) = ixI p l
  | [] => rfl
  | x :: l => by simp only [List.map_cons, ixI, h, ixI_map h l]
theorem hasN_form (c : List UInt8) (l : List D) : hasN c (formC c l) = hasN c l := by
  unfold hasN formC
  rw [ixI_map]
  intro x
  cases hb : nmIs c x with
  | true => rw [if_pos rfl]; exact hb
  | false => rw [if_neg (by simp)]; exact hb
theorem inv_find {w : List D} (h : uniqT w) {i : Nat} (hi : i < w.length) : ixI (nmIs ((w.getD i .nul).fld 0).asStr) w = (i : Int) :=
  ixI_uniq hi (fun j hj => h i hi j hj) (by unfold nmIs; exact eqBytes_refl _)
/-- A table's form may be handed in. -/
structure InT (t : D) : Prop where
  cols : (t.fld 1).els.length < 1000000
  deps : (t.fld 3).els.length < 1000000
  left : ∀ i, i < (t.fld 3).els.length → (((t.fld 3).els.getD i .nul).fld 0).els.length < 1000000
  nrm : ∀ i, i < (t.fld 3).els.length → nrmD ((t.fld 3).els.getD i .nul) = (t.fld 3).els.getD i .nul
theorem inv_add {w : List D} {t : D} (h : InvT w) (ht : InT t) (he : addE w (t.fld 0).asStr (t.fld 1).els (t.fld 2).asStr (t.fld 3).els = 0) :
    InvT (w ++ [mkT (t.fld 0).asStr (formC (t.fld 2).asStr (t.fld 1).els) (t.fld 2).asStr (t.fld 3).els]) := by
  obtain ⟨h1, h2, h3, h4, h5, h6, h7⟩ := addE_zero he
  obtain ⟨n1, n2, n3⟩ := namesE_cols h5
  refine ⟨by rw [List.length_append, List.length_singleton]; omega, fun x hx => ?_, fun i hi j hj => ?_⟩
  · rw [List.mem_append, List.mem_singleton] at hx
    rcases hx with hx | rfl
    · exact h.ok x hx
    · refine ⟨?_, ?_, ht.deps, ht.left, ht.nrm, rfl⟩
      · show (eqBytes (t.fld 2).asStr [] || hasN (t.fld 2).asStr (formC (t.fld 2).asStr (t.fld 1).els)) = true
        rw [hasN_form, Bool.or_eq_true]
        exact n2
      · show (formC (t.fld 2).asStr (t.fld 1).els).length < 1000000
        rw [formC_len]; exact ht.cols
  · rw [List.length_append, List.length_singleton] at hi
    have g1 : ∀ k, k < w.length → (w ++ [mkT (t.fld 0).asStr (formC (t.fld 2).asStr (t.fld 1).els) (t.fld 2).asStr (t.fld 3).els]).getD k .nul = w.getD k .nul := fun k hk => by
      rw [List.getD, List.getElem?_append_left hk]; rfl
    by_cases hw : i < w.length
    · rw [g1 i hw, g1 j (by omega)]
      exact h.uniq i hw j hj
    · obtain rfl : i = w.length := by omega
      rw [g1 j hj]
      have : (w ++ [mkT (t.fld 0).asStr (formC (t.fld 2).asStr (t.fld 1).els) (t.fld 2).asStr (t.fld 3).els]).getD w.length .nul = mkT (t.fld 0).asStr (formC (t.fld 2).asStr (t.fld 1).els) (t.fld 2).asStr (t.fld 3).els := by
        rw [List.getD, List.getElem?_append_right (Nat.le_refl _), Nat.sub_self]; rfl
      rw [this]
      have n3 := of_decide_eq_false n3
      rcases ixI_cases (nmIs (t.fld 0).asStr) w with ⟨k, _, _, _, e⟩ | ⟨h8, _⟩
      · omega
      · exact h8 j hj
theorem depD_nrm (x : D) : nrmD (depD x) = depD x := rfl
theorem tabD_in (t : D) : InT (tabD t) := by
  have hd : ((tabD t).fld 3).els = ((t.fld 3).els.take 5).map depD := rfl
  have hc : ((tabD t).fld 1).els = ((t.fld 1).els.take 8).map colD := rfl
  have hx : ∀ i, i < ((tabD t).fld 3).els.length → ∃ x, ((tabD t).fld 3).els.getD i .nul = depD x := fun i hi => by
    rw [hd] at hi ⊢
    rw [getD_at hi, List.getElem_map]
    exact ⟨_, rfl⟩
  refine ⟨by rw [hc, List.length_map, List.length_take]; omega, by rw [hd, List.length_map, List.length_take]; omega, fun i hi => ?_, fun i hi => ?_⟩
  · obtain ⟨x, e⟩ := hx i hi
    rw [e]
    show (pathD (x.fld 0).els).length < 1000000
    rw [pathD, List.length_map, List.length_take]; omega
  · obtain ⟨x, e⟩ := hx i hi
    rw [e, depD_nrm]
theorem tabsD_in (l : List D) : (tabsD l).length ≤ 12 ∧ ∀ i, i < (tabsD l).length → InT ((tabsD l).getD i .nul) := by
  refine ⟨by rw [tabsD, List.length_map, List.length_take]; omega, fun i hi => ?_⟩
  have hi' : i < ((l.take 12).map tabD).length := hi
  show InT (((l.take 12).map tabD).getD i .nul)
  rw [getD_at hi', List.getElem_map]
  exact tabD_in _
end Go.Sy
