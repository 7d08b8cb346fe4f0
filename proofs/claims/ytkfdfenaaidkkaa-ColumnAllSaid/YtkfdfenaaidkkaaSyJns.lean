/- What is put in a row's middle; what is taken out of it. -/
import Derived.Test.YtkfdfenaaidkkaaSyY
import Derived.Sort.Grow
import Derived.Deep.Draws
set_option linter.unusedSimpArgs false
set_option linter.unusedVariables false
namespace Go.Sy
open Go
/- ### cells written in any order -/
theorem setCell_comm (w : World) (B : Nat) {o o' : Nat} (v v' : Value) (h : o ≠ o') : (w.setCell ⟨B, o, none⟩ v).setCell ⟨B, o', none⟩ v' = (w.setCell ⟨B, o', none⟩ v').setCell ⟨B, o, none⟩ v := by
  unfold World.setCell
  simp only [World.mk.injEq, and_self, and_true, true_and]
  apply Array.ext_getElem?
  intro k
  simp only [Array.getElem?_modify]
  by_cases hk : B = k
  · simp only [hk, if_true]
    cases w.heap[k]? with
    | none => rfl
    | some x =>
      cases x with
      | cells c e f => simp only [Option.map_some, Option.isSome_none]; simp [Array.setIfInBounds_comm _ _ h]
      | _ => rfl
  · simp only [hk, if_false]
theorem setCells_cell (B : Nat) : ∀ (us : List Value) (w : World) (o o' : Nat) (v : Value), (o < o' ∨ o' + us.length ≤ o) → (w.setCell ⟨B, o, none⟩ v).setCells B o' us = (w.setCells B o' us).setCell ⟨B, o, none⟩ v
  | [], w, o, o', v, h => rfl
  | u :: us, w, o, o', v, h => by
    simp only [List.length_cons] at h
    rw [World.setCells, World.setCells, setCell_comm w B v u (by omega), setCells_cell B us _ o (o' + 1) v (by omega)]
theorem setCells_swap (B : Nat) : ∀ (vs us : List Value) (w : World) (o o' : Nat), (o + vs.length ≤ o' ∨ o' + us.length ≤ o) → (w.setCells B o' us).setCells B o vs = (w.setCells B o vs).setCells B o' us
  | [], us, w, o, o', h => rfl
  | v :: vs, us, w, o, o', h => by
    simp only [List.length_cons] at h
    rw [World.setCells, World.setCells, ← setCells_cell B us w o o' v (by omega), setCells_swap B vs us _ (o + 1) o' (by omega)]
theorem setCells_append (B : Nat) : ∀ (a b : List Value) (w : World) (o : Nat), w.setCells B o (a ++ b) = (w.setCells B o a).setCells B (o + a.length) b
  | [], b, w, o => rfl
  | v :: a, b, w, o => by
    rw [List.cons_append, World.setCells, World.setCells, setCells_append B a b, List.length_cons, show o + 1 + a.length = o + (a.length + 1) by omega]
theorem setCells_drew (B : Nat) : ∀ (vs : List Value) (o : Nat) (w : World), w.drew.setCells B o vs = (w.setCells B o vs).drew
  | [], _, _ => rfl
  | v :: r, o, w => by
    rw [World.setCells, World.setCells, ← setCells_drew B r]; rfl
theorem alloc_setCells (ty : TypeId) : ∀ (vs mid pre post : List Value) (w : World), mid.length = vs.length → (w.alloc (.cells (pre ++ mid ++ post).toArray ty)).setCells w.heap.size pre.length vs = w.alloc (.cells (pre ++ vs ++ post).toArray ty)
  | [], mid, pre, post, w, h => by
    have : mid = [] := List.eq_nil_of_length_eq_zero h
    subst this; rfl
  | v :: vs, [], pre, post, w, h => by simp at h
  | v :: vs, u :: mid, pre, post, w, h => by
    have ih := alloc_setCells ty vs mid (pre ++ [v]) post w (by simpa using h)
    rw [World.setCells]
    have e1 : (w.alloc (.cells (pre ++ (u :: mid) ++ post).toArray ty)).setCell ⟨w.heap.size, pre.length, none⟩ v = w.alloc (.cells ((pre ++ [v]) ++ mid ++ post).toArray ty) := by
      unfold World.setCell World.alloc
      simp only [World.mk.injEq, and_self, and_true, true_and]
      apply Array.ext_getElem?
      intro k
      rw [Array.getElem?_modify]
      by_cases hk : w.heap.size = k
      · subst hk
        simp
      · rw [if_neg hk, Array.getElem?_push, Array.getElem?_push, if_neg (fun e => hk e.symm), if_neg (fun e => hk e.symm)]
    rw [e1]
    have e2 : (pre ++ [v]).length = pre.length + 1 := by simp
    rw [e2] at ih
    rw [ih]
    simp
end Go.Sy
