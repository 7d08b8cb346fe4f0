/- Plain: sets. -/
import Derived.Test.YtekedhfmdpbplaaPvA
set_option linter.unusedSimpArgs false
set_option linter.unusedVariables false
namespace Go.Sy
open Go
def bitI (mask : Int) (i : Nat) : Int := IntKind.i64.wrap (((BitVec.ofInt IntKind.i64.bits (mask.fdiv ((2 : Int) ^ min i IntKind.i64.bits)) &&& BitVec.ofInt IntKind.i64.bits (1 : Int)).toNat : Nat) : Int)
theorem bit_one (b : BitVec 64) : (b &&& 1#64).toNat = b.toNat % 2 := by
  rw [BitVec.toNat_and]
  exact Nat.and_one_is_mod _
theorem bitI_or (mask : Int) (i : Nat) : bitI mask i = 0 ∨ bitI mask i = 1 := by
  have h : bitI mask i = IntKind.i64.wrap (((BitVec.ofInt 64 (mask.fdiv ((2 : Int) ^ min i IntKind.i64.bits)) &&& 1#64).toNat : Nat) : Int) := rfl
  rw [h, bit_one]
  rcases Nat.mod_two_eq_zero_or_one (BitVec.ofInt 64 (mask.fdiv ((2 : Int) ^ min i IntKind.i64.bits))).toNat with h | h <;> rw [h]
  · exact .inl rfl
  · exact .inr rfl
def nulV : D := mkV 0 0 []
def cutAt (mask : Int) (i : Nat) (d : D) : D := if i > 62 ∨ bitI mask i = 0 then nulV else d
def cutD (mask : Int) (l : List D) : List D := l.mapIdx (cutAt mask)
def cutTo (mask : Int) (l : List D) (i : Nat) : List D := l.mapIdx fun j d => if j < i then cutAt mask j d else d
theorem cutTo_zero {mask : Int} {l : List D} : cutTo mask l 0 = l := by
  apply List.ext_getElem?; intro j; simp [cutTo]
theorem cutTo_all {mask : Int} {l : List D} {i : Nat} (h : l.length ≤ i) : cutTo mask l i = cutD mask l := by
  apply List.ext_getElem?; intro j
  simp only [cutTo, cutD, List.getElem?_mapIdx]
  by_cases hj : j < l.length
  · rw [List.getElem?_eq_getElem hj]; simp; intro h'; omega
  · rw [List.getElem?_eq_none (by omega)]; rfl
theorem cutTo_len {mask : Int} {l : List D} {i : Nat} : (cutTo mask l i).length = l.length := by simp [cutTo]
theorem cutTo_set {mask : Int} {l : List D} {i : Nat} (h : i > 62 ∨ bitI mask i = 0) : (cutTo mask l i).set i nulV = cutTo mask l (i + 1) := by
  apply List.ext_getElem?; intro j
  simp only [cutTo, List.getElem?_set, List.getElem?_mapIdx, List.length_mapIdx]
  by_cases hj : i = j
  · subst hj
    by_cases hl : i < l.length
    · rw [List.getElem?_eq_getElem hl]; simp [cutAt, h, hl]
    · rw [List.getElem?_eq_none (by omega)]; simp; omega
  · cases hg : l[j]? with
    | none => simp [hj]
    | some d =>
      simp only [hj, if_false, Option.map_some, Option.some.injEq]
      by_cases h1 : j < i
      · rw [if_pos h1, if_pos (by omega)]
      · rw [if_neg h1, if_neg (by omega)]
theorem cutTo_keep {mask : Int} {l : List D} {i : Nat} (h : ¬ (i > 62 ∨ bitI mask i = 0)) : cutTo mask l i = cutTo mask l (i + 1) := by
  apply List.ext_getElem?; intro j
  simp only [cutTo, List.getElem?_mapIdx]
  cases hg : l[j]? with
  | none => rfl
  | some d =>
    simp only [Option.map_some, Option.some.injEq]
    by_cases h1 : j < i
    · rw [if_pos h1, if_pos (by omega)]
    · rw [if_neg h1]
      by_cases h2 : j < i + 1
      · rw [if_pos h2, show j = i by omega]; simp [cutAt, h]
      · rw [if_neg h2]
def cloneF : Spec := ⟨[.data (.slice shV)], fun args s => match args, s with
  | [.fz false e l], [] => .ok (Sh.beq e shV && decide (l.length < 1000000)) (.tsl false shV 0 0 l.length .tight) [.tbl false shV l] []
  | _, _ => .fail⟩
def scutF : Spec := ⟨[.keep, .data (.slice shV)], fun args s => match args, s with
  | [.int .i64 mask, .fz false e l], [] => .ok (Sh.beq e shV && decide (l.length < 1000000)) (.fz false shV (cutD mask l)) [] []
  | _, _ => .fail⟩
/- ### the reference's -/
def rcutAt (mask : Int) (i : Nat) (d : D) : D := if bitI mask i = 1 then mkV (vK d) (vN d) (vS d) else .nul
def rcutD (mask : Int) (l : List D) : List D := l.mapIdx (rcutAt mask)
def rcutF : Spec := ⟨[.keep, .data (.slice shV)], fun args s => match args, s with
  | [.int .i64 mask, .fz false e l], [] => .ok (Sh.beq e shV && decide (l.length < 1000000)) (.fz false shV (rcutD mask l)) [] []
  | _, _ => .fail⟩
def rcutTo (mask : Int) (l : List D) (i : Nat) : List D := l.mapIdx fun j d => if j < i then rcutAt mask j d else .nul
theorem rcutTo_zero {mask : Int} {l : List D} : rcutTo mask l 0 = List.replicate l.length .nul := by
  apply List.ext_getElem?; intro j
  simp only [rcutTo, List.getElem?_mapIdx, List.getElem?_replicate]
  by_cases hj : j < l.length
  · rw [List.getElem?_eq_getElem hj]; simp [hj]
  · rw [List.getElem?_eq_none (by omega)]; simp [hj]
theorem rcutTo_all {mask : Int} {l : List D} {i : Nat} (h : l.length ≤ i) : rcutTo mask l i = rcutD mask l := by
  apply List.ext_getElem?; intro j
  simp only [rcutTo, rcutD, List.getElem?_mapIdx]
  by_cases hj : j < l.length
  · rw [List.getElem?_eq_getElem hj]; simp; intro h'; omega
  · rw [List.getElem?_eq_none (by omega)]; rfl
theorem rcutTo_len {mask : Int} {l : List D} {i : Nat} : (rcutTo mask l i).length = l.length := by simp [rcutTo]
theorem rcutTo_set {mask : Int} {l : List D} {i : Nat} (h : bitI mask i = 1) : (rcutTo mask l i).set i (mkV (vK (l.getD i .nul)) (vN (l.getD i .nul)) (vS (l.getD i .nul))) = rcutTo mask l (i + 1) := by
  apply List.ext_getElem?; intro j
  simp only [rcutTo, List.getElem?_set, List.getElem?_mapIdx, List.length_mapIdx]
  by_cases hj : i = j
  · subst hj
    by_cases hl : i < l.length
    · simp only [List.getD]; rw [List.getElem?_eq_getElem hl]; simp [rcutAt, h, hl]
    · rw [List.getElem?_eq_none (by omega)]; simp; omega
  · cases hg : l[j]? with
    | none => simp [hj]
    | some d =>
      simp only [hj, if_false, Option.map_some, Option.some.injEq]
      by_cases h1 : j < i
      · rw [if_pos h1, if_pos (by omega)]
      · rw [if_neg h1, if_neg (by omega)]
theorem rcutTo_keep {mask : Int} {l : List D} {i : Nat} (h : ¬ bitI mask i = 1) : rcutTo mask l i = rcutTo mask l (i + 1) := by
  apply List.ext_getElem?; intro j
  simp only [rcutTo, List.getElem?_mapIdx]
  cases hg : l[j]? with
  | none => rfl
  | some d =>
    simp only [Option.map_some, Option.some.injEq]
    by_cases h1 : j < i
    · rw [if_pos h1, if_pos (by omega)]
    · rw [if_neg h1]
      by_cases h2 : j < i + 1
      · rw [if_pos h2, show j = i by omega]; simp [rcutAt, h]
      · rw [if_neg h2]
/- ### masks -/
def masksN (mode : Int) (n : Nat) : List Nat :=
  if mode = 0 then [2 ^ n - 1] else if mode = 1 then (List.range (n + 1)).reverse.map (fun i => 2 ^ i - 1) else if mode = 2 then (List.range (2 ^ n)).reverse else []
def masksD (mode n : Int) : List D := if n < 0 ∨ n > 4 then [] else (masksN mode n.toNat).map fun (x : Nat) => D.int (x : Int)
def masksF : Spec := ⟨[], fun args s => match args, s with
  | [.int .i64 mode, .int .i64 n], [] => .ok true (.fz false (.int .i64) (masksD mode n)) [] []
  | _, _ => .fail⟩
end Go.Sy
