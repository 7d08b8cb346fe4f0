/- Plain: what a schema becomes. -/
import Derived.Test.YtekedhfmdpbplaaPvZ
set_option linter.unusedSimpArgs false
set_option linter.unusedVariables false
namespace Go.Sy
open Go
theorem getD_at {l : List D} {i : Nat} (h : i < l.length) : l.getD i .nul = l[i] := by rw [List.getD, List.getElem?_eq_getElem h]; rfl
theorem formC_set {c : List UInt8} {l : List D} (hu : colsOk l = true) (h : hasN c l = true) : l.set (ixI (nmIs c) l).toNat (must (l.getD (ixI (nmIs c) l).toNat .nul)) = formC c l := by
  have h' := of_decide_eq_true h
  rcases ixI_cases (nmIs c) l with ⟨k, h1, h2, h3, e⟩ | ⟨_, e⟩
  · rw [e, Int.toNat_natCast]
    apply List.ext_getElem
    · simp [formC]
    · intro j hj hj'
      rw [List.length_set] at hj
      simp only [formC, List.getElem_map, List.getElem_set]
      by_cases hkj : k = j
      · subst hkj
        rw [if_pos rfl, getD_at h1]
        rw [getD_at h1] at h3
        rw [if_pos h3]
      · rw [if_neg hkj]
        cases hb : nmIs c l[j] with
        | false => rw [if_neg (by simp)]
        | true =>
          exfalso
          have := allN_iff.1 hu j hj
          simp only [Bool.and_eq_true] at this
          have h4 := of_decide_eq_true this.2
          rw [getD_at hj] at h4
          unfold nmIs at hb
          rw [(eqBytes_iff).1 hb] at h4
          omega
  · omega
theorem formC_none {c : List UInt8} {l : List D} (h : hasN c l = false) : formC c l = l := by
  have h' := of_decide_eq_false h
  rcases ixI_cases (nmIs c) l with ⟨k, h1, h2, h3, e⟩ | ⟨h1, e⟩
  · omega
  · apply List.ext_getElem
    · simp [formC]
    · intro j hj hj'
      simp only [formC, List.getElem_map]
      have := h1 j hj'
      rw [getD_at hj'] at this
      rw [this, if_neg (by simp)]
theorem formC_len (c : List UInt8) (l : List D) : (formC c l).length = l.length := by simp [formC]
def addT (w : List D) (a : List UInt8) (l : List D) (c : List UInt8) (d : List D) : List D := if addE w a l c d = 0 then w ++ [mkT a (formC c l) c d] else w
theorem addE_zero {w : List D} {a : List UInt8} {l : List D} {c : List UInt8} {d : List D} (h : addE w a l c d = 0) : w.length < 8 ∧ 1 ≤ l.length ∧ l.length ≤ 6 ∧ d.length ≤ 3 ∧ namesE w a l c d = true ∧ allN (fun i => !kindBad (l.getD i .nul)) l.length = true ∧ refsE w l = 0 := by
  unfold addE at h
  split at h
  · cases h
  · rename_i h0
    split at h
    · rename_i h1
      split at h
      · rename_i h2; exact ⟨by omega, by omega, by omega, by omega, h1, h2, h⟩
      · cases h
    · cases h
theorem namesE_cols {w : List D} {a : List UInt8} {l : List D} {c : List UInt8} {d : List D} (h : namesE w a l c d = true) : colsOk l = true ∧ (eqBytes c [] = true ∨ hasN c l = true) ∧ hasN a w = false := by
  unfold namesE at h
  simp only [Bool.and_eq_true, Bool.or_eq_true, Bool.not_eq_true'] at h
  exact ⟨h.1.1.2, h.1.2, h.1.1.1.2⟩
open Classical in
/-- May this table's form be handed in to a schema such as this? -/
noncomputable def addOk_V (w : List D) (a : List UInt8) (l : List D) (c : List UInt8) (d : List D) : Bool :=
  decide (w.length < 1000000 ∧ (∀ t ∈ w, OkT t) ∧ l.length < 1000000 ∧ d.length < 1000000 ∧ (∀ i, i < d.length → ((d.getD i .nul).fld 0).els.length < 1000000) ∧ (∀ i, i < d.length → nrmD (d.getD i .nul) = d.getD i .nul))
open Classical in
theorem addOk_iff {w : List D} {a : List UInt8} {l : List D} {c : List UInt8} {d : List D} : addOk_V w a l c d = true ↔ (w.length < 1000000 ∧ (∀ t ∈ w, OkT t) ∧ l.length < 1000000 ∧ d.length < 1000000 ∧ (∀ i, i < d.length → ((d.getD i .nul).fld 0).els.length < 1000000) ∧ (∀ i, i < d.length → nrmD (d.getD i .nul) = d.getD i .nul)) := by
  unfold addOk_V; exact decide_eq_true_iff
noncomputable def addN : Spec := ⟨[], fun args s => match args, s with
  | [.ptr (some (0, 0)), .agg [.str a, .fz false e0 l, .str c, .fz false e1 d]], [.cells [.tsl false e2 1 0 n .tight], .tbl false e3 w] =>
    .ok (Sh.beq e0 shCol && (Sh.beq e1 shDep && (Sh.beq e2 shTab && (Sh.beq e3 shTab && (Nat.beq n w.length && addOk_V w a l c d))))) (.int .i64 (addE w a l c d)) [.cells [.tsl false shTab 2 0 (addT w a l c d).length .tight], .dead, .tbl false shTab (addT w a l c d)] []
  | _, _ => .fail⟩
end Go.Sy
