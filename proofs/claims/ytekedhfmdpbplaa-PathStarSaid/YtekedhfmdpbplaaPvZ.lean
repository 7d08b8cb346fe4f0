/- Plain: names that are unlike, lists of which all are so. -/
import Derived.Test.YtekedhfmdpbplaaPvY
set_option linter.unusedSimpArgs false
set_option linter.unusedVariables false
namespace Go.Sy
open Go
theorem loop_goodE {X Y : Type} {stp : X → NT X Y} (e : Nat → X) (n : Nat) (good : Nat → Bool) (y : Nat → Y) (yE : Y)
    (h : ∀ k, k < n → (stp (e k)).run = if good k then .more (e (k + 1)) else .done (y k))
    (hE : (stp (e n)).run = .done yE) : (∃ k, k < n ∧ allN good n = false ∧ loopR stp (e 0) = some (y k)) ∨ (allN good n = true ∧ loopR stp (e 0) = some yE) := by
  have go : ∀ f k, k + f = n → (∀ j, j < k → good j = true) → (∃ k', k' < n ∧ allN good n = false ∧ loopR stp (e k) = some (y k')) ∨ (allN good n = true ∧ loopR stp (e k) = some yE) := by
    intro f
    induction f with
    | zero =>
      intro k hk hj
      obtain rfl : k = n := by omega
      exact .inr ⟨allN_iff.2 hj, by rw [loopR_eq, hE]⟩
    | succ f ih =>
      intro k hk hj
      have h1 := h k (by omega)
      cases hg : good k with
      | false =>
        rw [hg] at h1
        exact .inl ⟨k, by omega, allN_false (by omega) hg, by rw [loopR_eq, h1]; rfl⟩
      | true =>
        rw [hg] at h1
        rw [loopR_eq, h1]
        exact ih (k + 1) (by omega) (fun j hj' => by
          rcases Nat.lt_succ_iff_lt_or_eq.1 hj' with h | h
          · exact hj j h
          · rw [h]; exact hg)
  exact go n 0 (by omega) (fun j hj => absurd hj (by omega))
theorem allN_and {p q : Nat → Bool} : ∀ {n : Nat}, allN (fun k => p k && q k) n = (allN p n && allN q n)
  | 0 => rfl
  | n + 1 => by
    simp only [allN, allN_and (n := n)]
    cases allN p n <;> cases allN q n <;> cases p n <;> cases q n <;> rfl
theorem ixI_allN {p : D → Bool} {l : List D} : decide (ixI p l ≥ 0) = !allN (fun k => !p (l.getD k .nul)) l.length := by
  rcases ixI_cases p l with ⟨k, h1, h2, h3, e⟩ | ⟨h1, e⟩
  · rw [e, allN_false h1 (by rw [h3]; rfl), decide_eq_true (by omega)]; rfl
  · rw [e, allN_iff.2 (fun k hk => by rw [h1 k hk]; rfl)]; rfl
theorem ixI_self {c : List UInt8} {l : List D} {k : Nat} (hk : k < l.length) (hc : ((l.getD k .nul).fld 0).asStr = c) : decide (ixI (nmIs c) l = (k : Int)) = allN (fun j => !eqBytes ((l.getD j .nul).fld 0).asStr c) k := by
  cases hb : allN (fun j => !eqBytes ((l.getD j .nul).fld 0).asStr c) k with
  | true =>
    have := allN_iff.1 hb
    exact decide_eq_true (ixI_uniq hk (fun j hj => by have := this j hj; unfold nmIs; simpa using this) (by unfold nmIs; rw [hc, eqBytes_refl]))
  | false =>
    refine decide_eq_false fun e => ?_
    rcases ixI_cases (nmIs c) l with ⟨k', h1, h2, h3, e'⟩ | ⟨h1, e'⟩
    · obtain rfl : k' = k := by omega
      rw [allN_iff.2 (fun j hj => by have := h2 j hj; unfold nmIs at this; rw [this]; rfl)] at hb
      cases hb
    · omega
theorem colNames_get {l : List D} {j : Nat} (h : j < l.length) : ((colNames l).getD j .nul).asStr = ((l.getD j .nul).fld 0).asStr := by
  unfold colNames
  rw [List.getD, List.getElem?_map, List.getD, List.getElem?_eq_getElem h]
  rfl
theorem colNames_len (l : List D) : (colNames l).length = l.length := by simp [colNames]
theorem colsOk_eq (l : List D) : colsOk l = (allN (fun k => nameV ((l.getD k .nul).fld 0).asStr) l.length && uniq (colNames l)) := by
  unfold colsOk uniq
  rw [colNames_len, allN_and]
  congr 1
  refine allN_congr fun k hk => ?_
  rw [ixI_self hk rfl]
  exact allN_congr fun j hj => by rw [colNames_get (by omega), colNames_get hk]
def hasS (c : List UInt8) (l : List D) : Bool := decide (ixI (fun d => eqBytes c d.asStr) l ≥ 0)
theorem hasS_eq (c : List UInt8) (l : List D) : hasS c l = !allN (fun k => !eqBytes (l.getD k .nul).asStr c) l.length := by
  unfold hasS
  rw [ixI_allN]
  congr 1
  exact allN_congr fun k _ => by rw [eqBytes_comm]
theorem take_getD {l : List D} {i j : Nat} (h : j < i) : (l.take i).getD j .nul = l.getD j .nul := by
  rw [List.getD, List.getElem?_take, if_pos h]; rfl
theorem hasS_take {c : List UInt8} {l : List D} {i : Nat} (hi : i ≤ l.length) : hasS c (l.take i) = !allN (fun j => !eqBytes (l.getD j .nul).asStr c) i := by
  rw [hasS_eq, List.length_take, Nat.min_eq_left hi]
  congr 1
  exact allN_congr fun j hj => by rw [take_getD hj]
theorem leftOk_eq (cols : List D) (r : List UInt8) (l : List D) : leftOk cols r l = (allN (fun k => hasN (l.getD k .nul).asStr cols) l.length && !hasS r l && uniq l) := by
  unfold leftOk uniq
  rw [allN_and, allN_and, hasS_eq]
  simp only [Bool.not_not]
/-- A dep as it is read. -/
def nrmD (d : D) : D := .agg [.list (d.fld 0).els, .str (d.fld 1).asStr]
/-- A table as it may stand in a schema. -/
def okT (t : D) : Bool := wfT t && shortT t && (t.fld 3).els.all fun d => true
structure OkT (t : D) : Prop where
  wf : wfT t = true
  cols : (t.fld 1).els.length < 1000000
  deps : (t.fld 3).els.length < 1000000
  left : ∀ i, i < (t.fld 3).els.length → (((t.fld 3).els.getD i .nul).fld 0).els.length < 1000000
  nrm : ∀ i, i < (t.fld 3).els.length → nrmD ((t.fld 3).els.getD i .nul) = (t.fld 3).els.getD i .nul
  tab : t = mkT (t.fld 0).asStr (t.fld 1).els (t.fld 2).asStr (t.fld 3).els
theorem set_self {l : List D} {i : Nat} {x : D} (h : x = l.getD i .nul) : l.set i x = l := by
  by_cases hi : i < l.length
  · subst h
    rw [List.getD, List.getElem?_eq_getElem hi]
    simp
  · rw [List.set_eq_of_length_le (by omega)]
theorem ite_cond {α : Type} {b : Bool} {x y : α} : (if b = true then x else y) = bif b then x else y := by cases b <;> rfl
end Go.Sy
