/- Plain: loops that take over the first elements of a list, each turned. -/
import Derived.Test.YtekedhfmdpbplaaPvZa
set_option linter.unusedSimpArgs false
set_option linter.unusedVariables false
namespace Go.Sy
open Go
theorem loop_map {X Y : Type} {stp : X → NT X Y} (e : Nat → List D → X) (l : List D) (f : D → D) (cap : Nat) (y : Nat → List D → Y)
    (h : ∀ k acc, k < l.length → k < cap → acc.length = k → (stp (e k acc)).run = .more (e (k + 1) (acc ++ [f (l.getD k .nul)])))
    (hE : ∀ k acc, k = min l.length cap → acc.length = k → (stp (e k acc)).run = .done (y k acc)) :
    loopR stp (e 0 []) = some (y (min l.length cap) ((l.take cap).map f)) := by
  have ht : l.take (min l.length cap) = l.take cap := by rw [Nat.min_comm]; exact (List.take_eq_take_min).symm
  have go : ∀ m k, k + m = min l.length cap → loopR stp (e k ((l.take k).map f)) = some (y (min l.length cap) ((l.take (min l.length cap)).map f)) := by
    intro m
    induction m with
    | zero =>
      intro k hk
      obtain rfl : k = min l.length cap := by omega
      rw [loopR_eq, hE _ _ rfl (by rw [List.length_map, List.length_take]; omega)]
    | succ m ih =>
      intro k hk
      have h1 := h k ((l.take k).map f) (by omega) (by omega) (by rw [List.length_map, List.length_take]; omega)
      rw [loopR_eq, h1]
      have h2 := ih (k + 1) (by omega)
      rw [take_one (show k < l.length by omega), List.map_append] at h2
      exact h2
  have := go (min l.length cap) 0 (by omega)
  rw [ht] at this
  exact this
theorem grow_ok {n k b : Nat} (h1 : n < 1000000) (h2 : b ≤ 1000) : (((3 : Nat) * (n + (1 : Nat)) + (2000 : Nat)) * b).ble (281474976710656 : Nat) = true := by
  refine Nat.ble_eq_true_of_le (Nat.le_trans (Nat.mul_le_mul (show 3 * (n + 1) + 2000 ≤ 3002003 by omega) h2) (by decide))
theorem min_dec {k n m : Nat} (h : k = min n m) : (decide ((k : Int) < (n : Int)) = false) ∨ (decide ((k : Int) < (n : Int)) = true ∧ decide ((k : Int) < (m : Int)) = false) := by
  by_cases h1 : k < n
  · exact .inr ⟨lt_cast h1, decide_eq_false (by omega)⟩
  · exact .inl (decide_eq_false (by omega))
theorem app_take {n : Nat} {acc : List D} {x : D} (h : acc.length = n) : List.take n (List.drop 0 acc) ++ [x] = acc ++ [x] := by
  rw [List.drop_zero, List.take_of_length_le (by omega)]
/- ### what the statements take over -/
def pathD (l : List D) : List D := (l.take 6).map fun s => .str (cutS s.asStr 20)
def colD (x : D) : D := .agg [.str (cutS (x.fld 0).asStr 20), .int (x.fld 1).asInt, .bool (x.fld 2).asBool, .str (cutS (x.fld 3).asStr 20)]
def depD (x : D) : D := .agg [.list (pathD (x.fld 0).els), .str (cutS (x.fld 1).asStr 20)]
def tabD (t : D) : D := mkT (cutS (t.fld 0).asStr 20) (((t.fld 1).els.take 8).map colD) (cutS (t.fld 2).asStr 20) (((t.fld 3).els.take 5).map depD)
def tabsD (l : List D) : List D := (l.take 12).map tabD
end Go.Sy
