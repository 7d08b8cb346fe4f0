/- Plain: laws of great numbers. -/
import Derived.Test.YteoockodkddipaaPvD
set_option linter.unusedSimpArgs false
set_option linter.unusedVariables false
namespace Go.Sy
open Go
theorem neg_hi {h l : Int} (h1 : inW h l = true) :
    IntKind.i64.wrap ((((18446744073709551616 : Nat) - (IntKind.u64.wrap h).toNat - (bif Nat.blt 0 (l.toNat + 0) then (1 : Int) else 0).toNat) % 18446744073709551616 : Nat) : Int) = wH (-(wV h l)) := by
  rw [inW_iff] at h1
  rw [IntKind.wrap_i64, IntKind.wrap_u64]
  simp only [wH, w128, wV, cond_eq_ite, Nat.blt_eq]
  split <;> omega
theorem neg_lo {h l : Int} (h1 : inW h l = true) :
    ((((18446744073709551616 : Nat) - l.toNat - 0) % 18446744073709551616 : Nat) : Int) = wL (-(wV h l)) := by
  rw [inW_iff] at h1
  simp only [wL, w128, wV]
  omega
theorem maskB (a : Nat) (ha : a < 18446744073709551616) : (BitVec.ofInt 64 (a : Int) &&& BitVec.ofInt 64 (4294967295 : Int)).toNat = a % 4294967296 := by
  have h1 : (BitVec.ofInt 64 (a : Int)).toNat = a := by
    rw [BitVec.toNat_ofInt]; omega
  have h2 : (BitVec.ofInt 64 (4294967295 : Int)).toNat = 2 ^ 32 - 1 := by decide
  rw [BitVec.toNat_and, h1, h2, Nat.and_two_pow_sub_one_eq_mod]
theorem wrapU (a : Nat) (ha : a < 18446744073709551616) : IntKind.u64.wrap (a : Int) = (a : Int) := by rw [IntKind.wrap_u64]; omega
theorem fdivB (a : Nat) : Int.fdiv (a : Int) (4294967296 : Int) = ((a / 4294967296 : Nat) : Int) := by
  rw [Int.fdiv_eq_ediv_of_nonneg _ (by decide)]; omega
theorem mul_hi (x y : Int) (hx : inU x = true) (hy : inU y = true) :
    IntKind.u64.wrap (IntKind.u64.wrap (IntKind.u64.wrap (x.fdiv (4294967296 : Int) * y.fdiv (4294967296 : Int)) + (IntKind.u64.wrap (IntKind.u64.wrap (x.fdiv (4294967296 : Int) * IntKind.u64.wrap (((BitVec.ofInt (64 : Nat) y &&& BitVec.ofInt (64 : Nat) (4294967295 : Int)).toNat : Nat) : Int)) + (IntKind.u64.wrap (IntKind.u64.wrap (((BitVec.ofInt (64 : Nat) x &&& BitVec.ofInt (64 : Nat) (4294967295 : Int)).toNat : Nat) : Int) * IntKind.u64.wrap (((BitVec.ofInt (64 : Nat) y &&& BitVec.ofInt (64 : Nat) (4294967295 : Int)).toNat : Nat) : Int))).fdiv (4294967296 : Int))).fdiv (4294967296 : Int)) + (IntKind.u64.wrap (IntKind.u64.wrap (((BitVec.ofInt (64 : Nat) (IntKind.u64.wrap (IntKind.u64.wrap (x.fdiv (4294967296 : Int) * IntKind.u64.wrap (((BitVec.ofInt (64 : Nat) y &&& BitVec.ofInt (64 : Nat) (4294967295 : Int)).toNat : Nat) : Int)) + (IntKind.u64.wrap (IntKind.u64.wrap (((BitVec.ofInt (64 : Nat) x &&& BitVec.ofInt (64 : Nat) (4294967295 : Int)).toNat : Nat) : Int) * IntKind.u64.wrap (((BitVec.ofInt (64 : Nat) y &&& BitVec.ofInt (64 : Nat) (4294967295 : Int)).toNat : Nat) : Int))).fdiv (4294967296 : Int))) &&& BitVec.ofInt (64 : Nat) (4294967295 : Int)).toNat : Nat) : Int) + IntKind.u64.wrap (IntKind.u64.wrap (((BitVec.ofInt (64 : Nat) x &&& BitVec.ofInt (64 : Nat) (4294967295 : Int)).toNat : Nat) : Int) * y.fdiv (4294967296 : Int)))).fdiv (4294967296 : Int)) = x * y / 18446744073709551616 := by
  rw [inU_iff] at hx hy
  obtain ⟨a, rfl⟩ := Int.eq_ofNat_of_zero_le hx.1
  obtain ⟨b, rfl⟩ := Int.eq_ofNat_of_zero_le hy.1
  have ha : a < 18446744073709551616 := by omega
  have hb : b < 18446744073709551616 := by omega
  obtain ⟨l1, l2, l3, l4⟩ := Lib.mul64_hi a b ha hb
  have b1 := Lib.half_mul_le (a := a / 4294967296) (b := b / 4294967296) (by omega) (by omega)
  have b2 := Lib.half_mul_le (a := a / 4294967296) (b := b % 4294967296) (by omega) (by omega)
  have b3 := Lib.half_mul_le (a := a % 4294967296) (b := b / 4294967296) (by omega) (by omega)
  simp only [maskB _ ha, maskB _ hb, fdivB, wrapU (a % 4294967296) (by omega), wrapU (b % 4294967296) (by omega), ← Int.natCast_mul, wrapU _ l1, wrapU (a / 4294967296 * (b / 4294967296)) (by omega), wrapU (a / 4294967296 * (b % 4294967296)) (by omega), wrapU (a % 4294967296 * (b / 4294967296)) (by omega), ← Int.natCast_add]
  generalize hd : a % 4294967296 * (b % 4294967296) = d at *
  generalize he : a / 4294967296 * (b % 4294967296) = e at *
  generalize hf : a % 4294967296 * (b / 4294967296) = f at *
  generalize hc : a / 4294967296 * (b / 4294967296) = c at *
  simp only [wrapU _ l2, maskB _ l2, fdivB, wrapU ((e + d / 4294967296) % 4294967296) (by omega), ← Int.natCast_add, wrapU _ l3, wrapU (c + (e + d / 4294967296) / 4294967296) (by omega)]
  rw [wrapU _ (by rw [l4]; have : a * b < 18446744073709551616 * 18446744073709551616 := Nat.mul_lt_mul'' ha hb; omega), l4]
  omega
theorem mul_lo (x y : Int) : IntKind.u64.wrap (x * y) = x * y % 18446744073709551616 := IntKind.wrap_u64 _
theorem of_hi {n : Int} (h : inI n = true) : n.fdiv 9223372036854775808 = wH n := by
  rw [inI_iff] at h
  rw [Int.fdiv_eq_ediv_of_nonneg _ (by decide)]
  simp only [wH, w128]; omega
theorem of_lo {n : Int} (h : inI n = true) : IntKind.u64.wrap n = wL n := by
  rw [inI_iff] at h
  rw [IntKind.wrap_u64]
  simp only [wL, w128]; omega
theorem wHL_of {A r : Int} (h1 : 0 ≤ r) (h2 : r < 18446744073709551616) : wH (A * 18446744073709551616 + r) = IntKind.i64.wrap A ∧ wL (A * 18446744073709551616 + r) = r := by
  rw [IntKind.wrap_i64]
  simp only [wH, wL, w128]
  omega
theorem wrap_iu (x : Int) : IntKind.i64.wrap (IntKind.u64.wrap x) = IntKind.i64.wrap x := by
  rw [IntKind.wrap_u64, IntKind.wrap_i64, IntKind.wrap_i64]; omega
theorem wrap_congr {x y c : Int} (h : x = y + 18446744073709551616 * c) : IntKind.i64.wrap x = IntKind.i64.wrap y := by
  subst h; rw [IntKind.wrap_i64, IntKind.wrap_i64]; omega
theorem u_wit (x : Int) : ∃ c, IntKind.u64.wrap x = x + 18446744073709551616 * c := ⟨-(x / 18446744073709551616), by rw [IntKind.wrap_u64]; omega⟩
theorem times_law {h l n : Int} (h1 : inW h l = true) (h2 : inI n = true) :
    IntKind.i64.wrap (IntKind.u64.wrap (l * wL n / 18446744073709551616 + IntKind.u64.wrap (IntKind.u64.wrap (IntKind.u64.wrap h * wL n) + IntKind.u64.wrap (l * IntKind.u64.wrap (wH n))))) = wH (wV h l * n) ∧ l * wL n % 18446744073709551616 = wL (wV h l * n) := by
  rw [inI_iff] at h2
  have hn : n = wH n * 18446744073709551616 + wL n := by
    have := wV_HL n
    rw [w128_id (by omega) (by omega)] at this
    exact this.symm
  generalize wH n = m at *
  generalize wL n = k at *
  have e : wV h l * n = (l * k / 18446744073709551616 + h * k + l * m + h * m * 18446744073709551616) * 18446744073709551616 + l * k % 18446744073709551616 := by
    have := Int.mul_ediv_add_emod (l * k) 18446744073709551616
    rw [hn, wV]
    grind
  rw [e]
  obtain ⟨k1, k2⟩ := wHL_of (A := l * k / 18446744073709551616 + h * k + l * m + h * m * 18446744073709551616) (r := l * k % 18446744073709551616) (by omega) (by omega)
  rw [k1, k2]
  refine ⟨?_, rfl⟩
  obtain ⟨c1, e1⟩ := u_wit h
  obtain ⟨c2, e2⟩ := u_wit m
  rw [e1, e2]
  obtain ⟨c3, e3⟩ := u_wit ((h + 18446744073709551616 * c1) * k)
  obtain ⟨c4, e4⟩ := u_wit (l * (m + 18446744073709551616 * c2))
  rw [e3, e4, wrap_iu]
  obtain ⟨c5, e5⟩ := u_wit ((h + 18446744073709551616 * c1) * k + 18446744073709551616 * c3 + (l * (m + 18446744073709551616 * c2) + 18446744073709551616 * c4))
  rw [e5]
  refine wrap_congr (c := c1 * k + c3 + l * c2 + c4 + c5 - h * m) ?_
  grind
theorem num_law {h l : Int} (h1 : inW h l = true) : (decide (wH (IntKind.i64.wrap l) = h) && (decide (wL (IntKind.i64.wrap l) = l) && true)) = inI (wV h l) := by
  rw [inW_iff] at h1
  rw [Bool.eq_iff_iff, inI_iff]
  simp only [Bool.and_eq_true, decide_eq_true_eq, and_true]
  rw [IntKind.wrap_i64]
  simp only [wH, wL, wV, w128]
  omega
theorem num_val {h l : Int} (h1 : inW h l = true) (h2 : inI (wV h l) = true) : IntKind.i64.wrap l = wV h l := by
  rw [inW_iff] at h1
  rw [inI_iff] at h2
  rw [IntKind.wrap_i64]
  simp only [wV] at *
  omega
theorem sgn_lt {a b : Int} (h : a < b) : sgn a b = -1 := by simp only [sgn]; rw [if_pos h]
theorem sgn_gt {a b : Int} (h : a > b) : sgn a b = 1 := by simp only [sgn]; rw [if_neg (by omega), if_pos h]
theorem sgn_eq {a b : Int} (h : a = b) : sgn a b = 0 := by simp only [sgn]; rw [if_neg (by omega), if_neg (by omega)]
theorem sgn_law {h l h' l' : Int} (h1 : inW h l = true) (h2 : inW h' l' = true) : (if sgn h h' = 0 then sgn l l' else sgn h h') = sgn (wV h l) (wV h' l') := by
  rw [inW_iff] at h1 h2
  by_cases a : h < h'
  · rw [sgn_lt a, sgn_lt (a := wV h l) (by simp only [wV]; omega)]; rfl
  · by_cases b : h > h'
    · rw [sgn_gt b, sgn_gt (a := wV h l) (by simp only [wV]; omega)]; rfl
    · have : h = h' := by omega
      subst this
      rw [sgn_eq rfl, if_pos rfl]
      by_cases c : l < l'
      · rw [sgn_lt c, sgn_lt (a := wV h l) (by simp only [wV]; omega)]
      · by_cases d : l > l'
        · rw [sgn_gt d, sgn_gt (a := wV h l) (by simp only [wV]; omega)]
        · rw [sgn_eq (by omega), sgn_eq (a := wV h l) (by simp only [wV]; omega)]
theorem sgn_zero {a b : Int} : sgn a b = 0 ↔ a = b := by
  by_cases h : a < b
  · rw [sgn_lt h]; constructor <;> intro h' <;> omega
  · by_cases h' : a > b
    · rw [sgn_gt h']; constructor <;> intro h' <;> omega
    · rw [sgn_eq (by omega)]; constructor <;> intro h' <;> omega
theorem avW_congr {a b c d : Int} (h : a = b) (k : c = d) : avW a c = avW b d := by rw [h, k]
theorem inI_wrap (x : Int) : inI (IntKind.i64.wrap x) = true := by rw [inI_iff, IntKind.wrap_i64]; omega
theorem inU_wrap (x : Int) : inU (IntKind.u64.wrap x) = true := by rw [inU_iff, IntKind.wrap_u64]; omega
theorem br_true {x y : Prop} : br true x y = x := rfl
theorem br_false {x y : Prop} : br false x y = y := rfl
theorem wV_id {x : Int} (h : inI x = true) : wV (wH x) (wL x) = x := by
  rw [inI_iff] at h
  rw [wV_HL, w128_id (by omega) (by omega)]
theorem wV_add {a b : Int} (h : inI a = true) (k : inI b = true) : wV (wH (a + b)) (wL (a + b)) = a + b := by
  rw [inI_iff] at h k
  rw [wV_HL, w128_id (by omega) (by omega)]
theorem sum_wrap (a b : Int) : IntKind.i64.wrap (IntKind.u64.wrap (IntKind.u64.wrap a + IntKind.u64.wrap b)) = IntKind.i64.wrap (a + b) := by
  rw [wrap_iu, IntKind.wrap_u64, IntKind.wrap_u64, IntKind.wrap_i64, IntKind.wrap_i64]; omega
theorem ge_cases (a : Int) : (decide (a ≥ 0) = true ∧ decide (a < 0) = false ∧ a ≥ 0) ∨ (decide (a ≥ 0) = false ∧ decide (a < 0) = true ∧ a < 0) := by
  by_cases h : a ≥ 0
  · exact .inl ⟨decide_eq_true h, decide_eq_false (by omega), h⟩
  · exact .inr ⟨decide_eq_false h, decide_eq_true (by omega), by omega⟩
theorem and_one (x : Int) : ((BitVec.ofInt 64 x &&& BitVec.ofInt 64 (1 : Int)).toNat : Nat) = (x % 2).toNat := by
  have h1 : (BitVec.ofInt 64 x).toNat = (x % 18446744073709551616).toNat := by
    rw [BitVec.toNat_ofInt]; rfl
  have h2 : (BitVec.ofInt 64 (1 : Int)).toNat = 2 ^ 1 - 1 := by decide
  rw [BitVec.toNat_and, h1, h2, Nat.and_two_pow_sub_one_eq_mod]
  omega
theorem and_one' (x : Int) : ((BitVec.ofInt IntKind.u64.bits x &&& BitVec.ofInt IntKind.u64.bits (1 : Int)).toNat : Nat) = (x % 2).toNat := and_one x
theorem two_pow1 : ((2 : Int) ^ min (Int.toNat (1 : Int)) IntKind.u64.bits) = 2 := rfl
theorem inI_wH (x : Int) : inI (wH x) = true := by rw [inI_iff]; simp only [wH, w128]; omega
theorem parts_law (p : Int) (lo lo1 lo2 : Int) (h0 : lo = wL p) (h1 : lo1 = IntKind.i64.wrap (lo.fdiv 2)) (h2 : lo2 = IntKind.i64.wrap (IntKind.u64.wrap ((lo % 2).toNat : Int))) :
    w128 (w128 (w128 (wH p * 4611686018427387904) * 4) + w128 (w128 (lo1 * 2) + lo2)) = w128 p := by
  rw [Int.fdiv_eq_ediv_of_nonneg _ (by decide)] at h1
  rw [IntKind.wrap_i64] at h1 h2
  rw [IntKind.wrap_u64] at h2
  simp only [wH, wL] at *
  have hp : -170141183460469231731687303715884105728 ≤ w128 p ∧ w128 p < 170141183460469231731687303715884105728 := by simp only [w128]; omega
  generalize w128 p = q at *
  have e1 : lo1 = lo / 2 := by omega
  have e2 : lo2 = lo % 2 := by omega
  have f1 : w128 (q / 18446744073709551616 * 4611686018427387904) = q / 18446744073709551616 * 4611686018427387904 := w128_id (by omega) (by omega)
  rw [f1]
  have f2 : w128 (q / 18446744073709551616 * 4611686018427387904 * 4) = q / 18446744073709551616 * 18446744073709551616 := by rw [w128_id (by omega) (by omega)]; omega
  rw [f2]
  have f3 : w128 (lo1 * 2) = lo1 * 2 := w128_id (by omega) (by omega)
  rw [f3]
  have f4 : w128 (lo1 * 2 + lo2) = lo := by rw [w128_id (by omega) (by omega)]; omega
  rw [f4, w128_id (by omega) (by omega)]
  omega
theorem w_add (x y : Int) : w128 (w128 x + y) = w128 (x + y) := by simp only [w128]; omega
theorem w_add' (x y : Int) : w128 (x + w128 y) = w128 (x + y) := by simp only [w128]; omega
theorem w_neg (x : Int) : w128 (-(w128 x)) = w128 (-x) := by simp only [w128]; omega
theorem wH_add (x y : Int) : wH (w128 x + y) = wH (x + y) := by simp only [wH, w_add]
theorem wL_add (x y : Int) : wL (w128 x + y) = wL (x + y) := by simp only [wL, w_add]
theorem w_id {x : Int} (h : inI x = true) : w128 x = x := by
  rw [inI_iff] at h
  exact w128_id (by omega) (by omega)
def trueF2 : Spec := ⟨[], fun args s => match args, s with
  | [], [] => .ok true (.bool true) [] []
  | _, _ => .fail⟩
end Go.Sy
