/- Plain: rows that are alike; the laws of sets. -/
import Derived.Test.YtekedhfmdpbplaaPvB
import Derived.KernelRfl
set_option linter.unusedSimpArgs false
set_option linter.unusedVariables false
namespace Go.Sy
open Go
theorem eqBytes_refl : ∀ c : List UInt8, eqBytes c c = true
  | [] => rfl
  | a :: c => by simp [eqBytes, eqBytes_refl c]
theorem ltBytes_irrefl : ∀ c : List UInt8, ltBytes c c = false
  | [] => rfl
  | a :: c => by
    have : a.toNat.blt a.toNat = false := by
      cases h : a.toNat.blt a.toNat
      · rfl
      · rw [Nat.blt_eq] at h; omega
    simp [ltBytes, ltBytes_irrefl c, this]
theorem cmp3_refl (a b : Int) (c : List UInt8) : cmp3 a b c a b c = 0 := by simp [cmp3, eqBytes_refl, ltBytes_irrefl]
theorem rowL_none : ∀ (l m : List D), (∀ i : Nat, i < l.length → i < m.length → cmpD (l.getD i .nul) (m.getD i .nul) = 0) → rowL l m = none
  | [], m, h => by simp [rowL]
  | a :: l, [], h => by simp [rowL]
  | a :: l, b :: m, h => by
    have h0 := h 0 (by simp) (by simp)
    simp only [List.getD_cons_zero] at h0
    simp only [rowL, h0, if_true]
    exact rowL_none l m fun i h1 h2 => by simpa using h (i + 1) (by simpa using h1) (by simpa using h2)
theorem rowD_zero {l m : List D} (hl : l.length = m.length) (h : ∀ i : Nat, i < l.length → cmpD (l.getD i .nul) (m.getD i .nul) = 0) : rowD l m = 0 := by
  simp only [rowD, rowL_none l m (fun i h1 _ => h i h1)]
  rw [if_neg (by omega), if_neg (by omega)]
theorem mapIdx_getD {l : List D} {f : Nat → D → D} {i : Nat} (h : i < l.length) : (l.mapIdx f).getD i .nul = f i (l.getD i .nul) := by
  simp only [List.getD, List.getElem?_mapIdx]
  rw [List.getElem?_eq_getElem h]; rfl
theorem row_cuts {mask : Int} {l : List D} (hl : l.length ≤ 63) : rowD (cutD mask l) (rcutD mask l) = 0 := by
  refine rowD_zero (by simp [cutD, rcutD]) fun i hi => ?_
  have hi : i < l.length := by simpa [cutD] using hi
  simp only [cutD, rcutD, mapIdx_getD hi, cutAt, rcutAt]
  rcases bitI_or mask i with h | h
  · rw [if_pos (.inr h), if_neg (by omega)]; rfl
  · rw [if_neg (by omega), if_pos h]; exact cmp3_refl _ _ _
theorem valsD_len {l : List D} {n : Int} : (valsD l n).length ≤ n.toNat := by simp [valsD]; omega
def andI (a b : Int) : Int := IntKind.i64.wrap (((BitVec.ofInt IntKind.i64.bits a &&& BitVec.ofInt IntKind.i64.bits b).toNat : Nat) : Int)
theorem bit_and : ((List.range 64).all fun a => (List.range 64).all fun b => (List.range 6).all fun i =>
    decide (bitI (andI (a : Int) (b : Int)) i = 0) == (decide (bitI (a : Int) i = 0) || decide (bitI (b : Int) i = 0))) = true := by kernel_rfl
theorem row_and {a b : Int} {l : List D} (hl : l.length ≤ 6) (ha : 0 ≤ a) (ha' : a ≤ 63) (hb : 0 ≤ b) (hb' : b ≤ 63) : rowD (cutD a (cutD b l)) (cutD (andI a b) l) = 0 := by
  refine rowD_zero (by simp [cutD]) fun i hi => ?_
  have hi : i < l.length := by simpa [cutD] using hi
  have h1 : i < (cutD b l).length := by simpa [cutD] using hi
  have e1 : (cutD a (cutD b l)).getD i .nul = cutAt a i ((cutD b l).getD i .nul) := mapIdx_getD h1
  have e2 : (cutD b l).getD i .nul = cutAt b i (l.getD i .nul) := mapIdx_getD hi
  have e3 : (cutD (andI a b) l).getD i .nul = cutAt (andI a b) i (l.getD i .nul) := mapIdx_getD hi
  rw [e1, e2, e3]
  have hbit : decide (bitI (andI a b) i = 0) = (decide (bitI a i = 0) || decide (bitI b i = 0)) := by
    have := List.all_eq_true.1 (List.all_eq_true.1 (List.all_eq_true.1 bit_and a.toNat (by simp; omega)) b.toNat (by simp; omega)) i (by simp; omega)
    simp only [beq_iff_eq] at this
    rwa [Int.toNat_of_nonneg ha, Int.toNat_of_nonneg hb] at this
  have h62 : ¬ i > 62 := by omega
  simp only [cutAt, h62, false_or]
  by_cases x : bitI a i = 0 <;> by_cases y : bitI b i = 0 <;> simp [x, y] at hbit <;> simp [x, y, hbit] <;> first | rfl | exact cmp3_refl _ _ _
theorem masksD_len {mode n : Int} : (masksD mode n).length ≤ 16 := by
  unfold masksD
  split
  · simp
  · rename_i h
    have : n = 0 ∨ n = 1 ∨ n = 2 ∨ n = 3 ∨ n = 4 := by omega
    unfold masksN
    split
    · simp
    · split
      · simp; omega
      · split
        · rcases this with rfl | rfl | rfl | rfl | rfl <;> simp
        · simp
def trueF : Spec := ⟨[], fun args s => match args, s with
  | [], [] => .ok true (.bool true) [] []
  | _, _ => .fail⟩
end Go.Sy
