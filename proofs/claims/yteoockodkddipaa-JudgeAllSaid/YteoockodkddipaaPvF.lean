/- Plain: long division of two digits by one. -/
import Derived.Test.YteoockodkddipaaPvE
set_option linter.unusedSimpArgs false
set_option linter.unusedVariables false
namespace Go.Sy
open Go
/-- How many noughts are ahead of the first one, of 64. -/
def lz (x : Int) : Int := 64 - (if x = 0 then 0 else (Nat.log2 x.toNat : Int) + 1)
/-- A digit that is looked for: never too small. -/
structure Dig (y a b u d q r : Int) : Prop where
  hy : y = a * 4294967296 + b
  ha : 2147483648 ≤ a ∧ a < 4294967296
  hb : 0 ≤ b ∧ b < 4294967296
  hu : 0 ≤ u ∧ u < y
  hd : 0 ≤ d ∧ d < 4294967296
  hq : q * a + r = u
  hr : 0 ≤ r ∧ r < 4294967296
  hQ : (u * 4294967296 + d) / y ≤ q
def dig (y u d : Int) : Int := (u * 4294967296 + d) / y
section
variable {y a b u d q r : Int}
theorem Dig.ypos (h : Dig y a b u d q r) : 0 < y := by have := h.hy; have := h.ha; have := h.hb; omega
theorem Dig.dig0 (h : Dig y a b u d q r) : 0 ≤ dig y u d := by
  have := h.hu; have := h.hd
  exact Int.ediv_nonneg (by omega) (by have := h.ypos; omega)
theorem Dig.qle (h : Dig y a b u d q r) : 0 ≤ q ∧ q ≤ 18446744073709551615 := by
  have h0 := h.dig0
  have h1 := h.hQ
  have h2 : 0 ≤ q := by unfold dig at h0; omega
  have h3 := h.hq; have h4 := h.hr; have h5 := h.hu; have h6 := h.hy; have h7 := h.ha; have h8 := h.hb
  have h9 : q * 1 ≤ q * a := Int.mul_le_mul_of_nonneg_left (by omega) h2
  omega
theorem Dig.eq (h : Dig y a b u d q r) : q * y = (u - r) * 4294967296 + q * b := by
  rw [h.hy, Int.mul_add, ← Int.mul_assoc]
  have := h.hq
  generalize q * a = s at *
  omega
theorem Dig.down (h : Dig y a b u d q r) (ht : q ≥ 4294967296 ∨ q * b > 4294967296 * r + d) : dig y u d ≤ q - 1 := by
  have h5 := h.hu; have h6 := h.hd
  have : dig y u d < q := by
    rcases ht with ht | ht
    · have : dig y u d < 4294967296 := Int.ediv_lt_of_lt_mul h.ypos (by omega)
      omega
    · refine Int.ediv_lt_of_lt_mul h.ypos ?_
      rw [h.eq]
      generalize q * b = s at *
      omega
  omega
theorem Dig.stop (h : Dig y a b u d q r) (h1 : q < 4294967296) (h2 : ¬ q * b > 4294967296 * r + d) : q = dig y u d := by
  have h3 : q ≤ dig y u d := Int.le_ediv_of_mul_le h.ypos (by
    rw [h.eq]
    have := h.hr
    generalize q * b = s at *
    omega)
  have := h.hQ
  unfold dig at *
  omega
theorem Dig.next (h : Dig y a b u d q r) (ht : q ≥ 4294967296 ∨ q * b > 4294967296 * r + d) (hr : r + a < 4294967296) : Dig y a b u d (q - 1) (r + a) where
  hy := h.hy
  ha := h.ha
  hb := h.hb
  hu := h.hu
  hd := h.hd
  hq := by have := h.hq; rw [Int.sub_mul]; omega
  hr := by have := h.hr; have := h.ha; omega
  hQ := h.down ht
theorem Dig.brk (h : Dig y a b u d q r) (ht : q ≥ 4294967296 ∨ q * b > 4294967296 * r + d) (hr : r + a ≥ 4294967296) : q - 1 = dig y u d := by
  have h0 := h.down ht
  have hd0 := h.dig0
  have h1 : (q - 1) * a + (r + a) = u := by have := h.hq; rw [Int.sub_mul]; omega
  have h2 := h.hu; have h3 := h.hy; have h4 := h.ha; have h5 := h.hb; have h6 := h.hd
  have h7 : q - 1 < 4294967296 := by
    rcases Int.lt_or_le (q - 1) 4294967296 with h | h
    · exact h
    · exfalso
      have : 4294967296 * a ≤ (q - 1) * a := Int.mul_le_mul_of_nonneg_right h (by omega)
      omega
  have h8 : (q - 1) * b ≤ 4294967295 * 4294967295 := Int.mul_le_mul (by omega) (by omega) h5.1 (by decide)
  have h9 : q - 1 ≤ dig y u d := Int.le_ediv_of_mul_le h.ypos (by
    rw [h3, Int.mul_add, ← Int.mul_assoc]
    generalize (q - 1) * a = s at *
    generalize (q - 1) * b = w at *
    omega)
  omega
/-- What is tested is what the machine's 64 bits tell. -/
theorem Dig.test (h : Dig y a b u d q r) (h1 : q < 4294967296) : IntKind.u64.wrap (q * b) = q * b ∧ IntKind.u64.wrap (IntKind.u64.wrap (4294967296 * r) + d) = 4294967296 * r + d := by
  have h2 := h.qle; have h3 := h.hb; have h4 := h.hr; have h5 := h.hd
  have h8 : q * b ≤ 4294967295 * 4294967295 := Int.mul_le_mul (by omega) (by omega) h3.1 (by decide)
  have h9 : 0 ≤ q * b := Int.mul_nonneg h2.1 h3.1
  generalize q * b = s at *
  rw [IntKind.wrap_u64, IntKind.wrap_u64, IntKind.wrap_u64]
  omega
theorem Dig.wraps (h : Dig y a b u d q r) (ht : q ≥ 4294967296 ∨ q * b > 4294967296 * r + d) : IntKind.u64.wrap (q - 1) = q - 1 ∧ IntKind.u64.wrap (r + a) = r + a := by
  have h0 := h.down ht
  have hd0 := h.dig0
  have h1 := h.qle; have h2 := h.hr; have h3 := h.ha
  rw [IntKind.wrap_u64, IntKind.wrap_u64]
  omega
end
theorem dig_first {y u d : Int} (hy : 9223372036854775808 ≤ y ∧ y < 18446744073709551616) (hu : 0 ≤ u ∧ u < y) (hd : 0 ≤ d ∧ d < 4294967296) : Dig y (y / 4294967296) (y % 4294967296) u d (u / (y / 4294967296)) (u - u / (y / 4294967296) * (y / 4294967296)) := by
  have ha : 2147483648 ≤ y / 4294967296 ∧ y / 4294967296 < 4294967296 := by omega
  have hm := Int.emod_nonneg u (show y / 4294967296 ≠ 0 by omega)
  have hl := Int.emod_lt_of_pos u (show 0 < y / 4294967296 by omega)
  have he := Int.mul_ediv_add_emod u (y / 4294967296)
  rw [Int.mul_comm] at he
  refine ⟨by omega, ha, by omega, hu, hd, by omega, by omega, ?_⟩
  have h0 : 0 ≤ u / (y / 4294967296) := Int.ediv_nonneg hu.1 (by omega)
  refine Int.le_of_lt_add_one (Int.ediv_lt_of_lt_mul (by omega) ?_)
  have h1 : (u / (y / 4294967296) + 1) * (y / 4294967296 * 4294967296) ≤ (u / (y / 4294967296) + 1) * y := Int.mul_le_mul_of_nonneg_left (by omega) (by omega)
  have h2 : (u / (y / 4294967296) + 1) * (y / 4294967296 * 4294967296) = (u / (y / 4294967296) * (y / 4294967296) + y / 4294967296) * 4294967296 := by
    rw [← Int.mul_assoc, Int.add_mul, Int.one_mul]
  rw [h2] at h1
  generalize u / (y / 4294967296) * (y / 4294967296) = w at *
  omega
/-- What is left over behind a digit. -/
def rest (y u d : Int) : Int := (u * 4294967296 + d) % y
theorem rest_wrap {y u d : Int} (hy : 9223372036854775808 ≤ y ∧ y < 18446744073709551616) (hu : 0 ≤ u ∧ u < y) (hd : 0 ≤ d ∧ d < 4294967296) :
    IntKind.u64.wrap (IntKind.u64.wrap (IntKind.u64.wrap (u * 4294967296) + d) - IntKind.u64.wrap (dig y u d * y)) = rest y u d ∧ 0 ≤ rest y u d ∧ rest y u d < y := by
  have hm := Int.emod_nonneg (u * 4294967296 + d) (show y ≠ 0 by omega)
  have hl := Int.emod_lt_of_pos (u * 4294967296 + d) (show 0 < y by omega)
  have he := Int.mul_ediv_add_emod (u * 4294967296 + d) y
  rw [Int.mul_comm] at he
  unfold dig rest
  generalize (u * 4294967296 + d) / y * y = w at *
  refine ⟨?_, hm, hl⟩
  simp only [IntKind.wrap_u64]
  omega
theorem dig_bound {y u d : Int} (hy : 9223372036854775808 ≤ y ∧ y < 18446744073709551616) (hu : 0 ≤ u ∧ u < y) (hd : 0 ≤ d ∧ d < 4294967296) : 0 ≤ dig y u d ∧ dig y u d < 4294967296 :=
  ⟨Int.ediv_nonneg (by omega) (by omega), Int.ediv_lt_of_lt_mul (by omega) (by omega)⟩
theorem two_digits {y u d e : Int} (hy : 0 < y) (he : 0 ≤ e ∧ e < 4294967296) :
    dig y u d * 4294967296 + dig y (rest y u d) e = ((u * 4294967296 + d) * 4294967296 + e) / y ∧ rest y (rest y u d) e = ((u * 4294967296 + d) * 4294967296 + e) % y := by
  have h1 := Int.mul_ediv_add_emod (u * 4294967296 + d) y
  unfold dig rest
  have h2 : (u * 4294967296 + d) * 4294967296 + e = ((u * 4294967296 + d) % y * 4294967296 + e) + ((u * 4294967296 + d) / y * 4294967296) * y := by
    have : (u * 4294967296 + d) / y * 4294967296 * y = y * ((u * 4294967296 + d) / y) * 4294967296 := by
      rw [Int.mul_right_comm, Int.mul_comm y]
    rw [this]
    omega
  refine ⟨?_, ?_⟩
  · rw [h2, Int.add_mul_ediv_right _ _ (by omega)]
    omega
  · rw [h2, Int.add_mul_emod_self_right]
theorem pow_pair {s : Nat} (hs : s ≤ 64) : (2 : Int) ^ s * (2 : Int) ^ (64 - s) = 18446744073709551616 := by
  rw [← Int.pow_add, show s + (64 - s) = 64 by omega]; rfl
theorem pow_pos (s : Nat) : (0 : Int) < (2 : Int) ^ s := Int.pow_pos (by decide)
/-- The dividend, laid to the left. -/
theorem norm_split {l P Q : Int} (hP : 0 < P) (hQ : 0 < Q) (h : P * Q = 18446744073709551616) : l * P = l / Q * 18446744073709551616 + l * P % 18446744073709551616 := by
  have h1 : l * P / 18446744073709551616 = l / Q := by
    rw [← h, Int.mul_comm P Q, Int.mul_ediv_mul_of_pos_left _ _ hP]
  have h2 := Int.mul_ediv_add_emod (l * P) 18446744073709551616
  rw [h1] at h2
  omega
theorem or_add {A B s : Nat} (hB : B < 2 ^ s) (h : A * 2 ^ s + B < 18446744073709551616) : (BitVec.ofInt 64 ((A * 2 ^ s : Nat) : Int) ||| BitVec.ofInt 64 (B : Int)).toNat = A * 2 ^ s + B := by
  have h1 : (BitVec.ofInt 64 ((A * 2 ^ s : Nat) : Int)).toNat = A * 2 ^ s := by rw [BitVec.toNat_ofInt]; omega
  have h2 : (BitVec.ofInt 64 (B : Int)).toNat = B := by rw [BitVec.toNat_ofInt]; omega
  rw [BitVec.toNat_or, h1, h2, Nat.mul_comm, Nat.two_pow_add_eq_or_of_lt hB]
theorem norm_or {h l : Int} {s : Nat} (hs : s ≤ 64) (h0 : 0 ≤ h) (l0 : 0 ≤ l ∧ l < 18446744073709551616) (hb : h * (2 : Int) ^ s + l / (2 : Int) ^ (64 - s) < 18446744073709551616) :
    (((BitVec.ofInt 64 (h * (2 : Int) ^ s) ||| BitVec.ofInt 64 (l / (2 : Int) ^ (64 - s))).toNat : Nat) : Int) = h * (2 : Int) ^ s + l / (2 : Int) ^ (64 - s) := by
  obtain ⟨A, rfl⟩ := Int.eq_ofNat_of_zero_le h0
  have hq : 0 ≤ l / (2 : Int) ^ (64 - s) := Int.ediv_nonneg l0.1 (Int.le_of_lt (pow_pos _))
  have hlt : l / (2 : Int) ^ (64 - s) < (2 : Int) ^ s := Int.ediv_lt_of_lt_mul (pow_pos _) (by rw [pow_pair hs]; exact l0.2)
  obtain ⟨B, hB⟩ := Int.eq_ofNat_of_zero_le hq
  rw [hB] at hb hlt ⊢
  have e : ((2 : Int) ^ s) = ((2 ^ s : Nat) : Int) := by simp
  rw [e] at hb hlt ⊢
  rw [← Int.natCast_mul] at hb ⊢
  rw [or_add (by omega) (by omega)]
  omega
theorem lz_norm {y : Int} (hy : 0 < y ∧ y < 18446744073709551616) : ∃ s : Nat, lz y = (s : Int) ∧ s < 64 ∧ 9223372036854775808 ≤ y * (2 : Int) ^ s ∧ y * (2 : Int) ^ s < 18446744073709551616 := by
  obtain ⟨n, rfl⟩ := Int.eq_ofNat_of_zero_le (Int.le_of_lt hy.1)
  have hn : n ≠ 0 := by omega
  have h1 := Nat.log2_self_le hn
  have h2 := @Nat.lt_log2_self n
  have h3 : n.log2 < 64 := (Nat.log2_lt hn).2 (by omega)
  refine ⟨63 - n.log2, ?_, by omega, ?_, ?_⟩
  · simp only [lz, Int.toNat_natCast]
    rw [if_neg (by omega)]
    omega
  · have : 2 ^ n.log2 * 2 ^ (63 - n.log2) ≤ n * 2 ^ (63 - n.log2) := Nat.mul_le_mul_right _ h1
    rw [← Nat.pow_add, show n.log2 + (63 - n.log2) = 63 by omega] at this
    have e : ((n * 2 ^ (63 - n.log2) : Nat) : Int) = (n : Int) * (2 : Int) ^ (63 - n.log2) := by simp
    rw [← e]
    omega
  · have : n * 2 ^ (63 - n.log2) < 2 ^ (n.log2 + 1) * 2 ^ (63 - n.log2) := Nat.mul_lt_mul_of_pos_right h2 (Nat.pow_pos (by decide))
    rw [← Nat.pow_add, show n.log2 + 1 + (63 - n.log2) = 64 by omega] at this
    have e : ((n * 2 ^ (63 - n.log2) : Nat) : Int) = (n : Int) * (2 : Int) ^ (63 - n.log2) := by simp
    rw [← e]
    omega
theorem fdiv32 (x : Int) : x.fdiv 4294967296 = x / 4294967296 := Int.fdiv_eq_ediv_of_nonneg _ (by decide)
theorem maskI {x : Int} (h : 0 ≤ x ∧ x < 18446744073709551616) : IntKind.u64.wrap (((BitVec.ofInt 64 x &&& BitVec.ofInt 64 (4294967295 : Int)).toNat : Nat) : Int) = x % 4294967296 := by
  obtain ⟨n, rfl⟩ := Int.eq_ofNat_of_zero_le h.1
  rw [maskB n (by omega), wrapU _ (by omega)]
  omega
theorem wrapI {x : Int} (h : 0 ≤ x ∧ x < 18446744073709551616) : IntKind.u64.wrap x = x := by rw [IntKind.wrap_u64]; omega
theorem div_le {u a : Int} (h : 0 ≤ u) (ha : 0 < a) : 0 ≤ u / a ∧ u / a ≤ u ∧ u / a * a ≤ u ∧ 0 ≤ u / a * a := by
  have h1 := Int.ediv_nonneg h (Int.le_of_lt ha)
  have h2 := Int.ediv_le_self a h
  have h3 := Int.mul_ediv_add_emod u a
  have h4 := Int.emod_nonneg u (show a ≠ 0 by omega)
  have h5 := Int.mul_nonneg h1 (Int.le_of_lt ha)
  rw [Int.mul_comm] at h3
  exact ⟨h1, h2, by omega, h5⟩
def divF : Spec := ⟨[], fun args s => match args, s with
  | [.int .u64 h, .int .u64 l, .int .u64 y], [] => .ok (inU h && (inU l && (inU y && decide (h < y)))) (.tup [.int .u64 ((h * 18446744073709551616 + l) / y), .int .u64 ((h * 18446744073709551616 + l) % y)]) [] []
  | _, _ => .fail⟩
def lzF : Spec := ⟨[], fun args s => match args, s with
  | [.int .u64 x], [] => .ok (inU x) (.int .i64 (lz x)) [] []
  | _, _ => .fail⟩
theorem emod_mul {N y P : Int} (hP : 0 < P) : N * P % (y * P) = N % y * P := by
  rw [Int.mul_comm N, Int.mul_comm y, Int.mul_emod_mul_of_pos _ _ hP, Int.mul_comm]
def lenTab : List UInt8 := (([0, 1, 2, 2, 3, 3, 3, 3, 4, 4, 4, 4, 4, 4, 4, 4, 5, 5, 5, 5, 5, 5, 5, 5, 5, 5, 5, 5, 5, 5, 5, 5, 6, 6, 6, 6, 6, 6, 6, 6, 6, 6, 6, 6, 6, 6, 6, 6, 6, 6, 6, 6, 6, 6, 6, 6, 6, 6, 6, 6, 6, 6, 6, 6].append [7, 7, 7, 7, 7, 7, 7, 7, 7, 7, 7, 7, 7, 7, 7, 7, 7, 7, 7, 7, 7, 7, 7, 7, 7, 7, 7, 7, 7, 7, 7, 7, 7, 7, 7, 7, 7, 7, 7, 7, 7, 7, 7, 7, 7, 7, 7, 7, 7, 7, 7, 7, 7, 7, 7, 7, 7, 7, 7, 7, 7, 7, 7, 7]).append ([8, 8, 8, 8, 8, 8, 8, 8, 8, 8, 8, 8, 8, 8, 8, 8, 8, 8, 8, 8, 8, 8, 8, 8, 8, 8, 8, 8, 8, 8, 8, 8, 8, 8, 8, 8, 8, 8, 8, 8, 8, 8, 8, 8, 8, 8, 8, 8, 8, 8, 8, 8, 8, 8, 8, 8, 8, 8, 8, 8, 8, 8, 8, 8].append [8, 8, 8, 8, 8, 8, 8, 8, 8, 8, 8, 8, 8, 8, 8, 8, 8, 8, 8, 8, 8, 8, 8, 8, 8, 8, 8, 8, 8, 8, 8, 8, 8, 8, 8, 8, 8, 8, 8, 8, 8, 8, 8, 8, 8, 8, 8, 8, 8, 8, 8, 8, 8, 8, 8, 8, 8, 8, 8, 8, 8, 8, 8, 8]))
/-- How many digits of two a number has. -/
def bl (x : Int) : Int := if x = 0 then 0 else (Nat.log2 x.toNat : Int) + 1
theorem tab_all : ((List.range 256).all fun i => decide (((lenTab.getD i 0).toNat : Int) = bl (i : Int))) = true := by decide +kernel
theorem tab_at {x : Int} (h : 0 ≤ x ∧ x < 256) : (((lenTab.getD x.toNat 0).toNat : Nat) : Int) = bl x := by
  have := List.all_eq_true.1 tab_all x.toNat (by simp; omega)
  simp only [decide_eq_true_eq] at this
  rw [this, Int.toNat_of_nonneg h.1]
theorem bl_shift {x : Int} (k : Nat) (h : (2 : Int) ^ k ≤ x) : bl x = (k : Int) + bl (x / (2 : Int) ^ k) := by
  have hp := pow_pos k
  obtain ⟨n, rfl⟩ := Int.eq_ofNat_of_zero_le (show 0 ≤ x by omega)
  have e : (2 : Int) ^ k = ((2 ^ k : Nat) : Int) := by simp
  rw [e] at h ⊢
  have hn : 2 ^ k ≤ n := by omega
  have hk : 0 < 2 ^ k := Nat.pow_pos (by decide)
  have hm : 0 < n / 2 ^ k := Nat.div_pos hn hk
  have e2 : (n : Int) / ((2 ^ k : Nat) : Int) = ((n / 2 ^ k : Nat) : Int) := by simp
  rw [e2]
  simp only [bl, Int.toNat_natCast]
  rw [if_neg (by omega), if_neg (by omega)]
  have h1 := Nat.log2_self_le (n := n / 2 ^ k) (by omega)
  have h2 := @Nat.lt_log2_self (n / 2 ^ k)
  have h3 : Nat.log2 n = Nat.log2 (n / 2 ^ k) + k := by
    rw [Nat.log2_eq_iff (by omega)]
    constructor
    · rw [Nat.pow_add]
      exact Nat.le_trans (Nat.mul_le_mul_right _ h1) (Nat.div_mul_le_self n _)
    · rw [show Nat.log2 (n / 2 ^ k) + k + 1 = Nat.log2 (n / 2 ^ k) + 1 + k by omega, Nat.pow_add]
      exact (Nat.div_lt_iff_lt_mul hk).1 h2
  omega
def lenF : Spec := ⟨[], fun args s => match args, s with
  | [.int .u64 x], [] => .ok (inU x) (.int .i64 (bl x)) [] []
  | _, _ => .fail⟩
theorem bl32 {x : Int} (h : x ≥ 4294967296) : bl x = 32 + bl (x / 4294967296) := by
  have e : (2 : Int) ^ (32 : Nat) = 4294967296 := rfl
  have := bl_shift (x := x) 32 (by rw [e]; exact h)
  rw [e] at this
  exact this
theorem bl16 {x : Int} (h : x ≥ 65536) : bl x = 16 + bl (x / 65536) := by
  have e : (2 : Int) ^ (16 : Nat) = 65536 := rfl
  have := bl_shift (x := x) 16 (by rw [e]; exact h)
  rw [e] at this
  exact this
theorem bl8 {x : Int} (h : x ≥ 256) : bl x = 8 + bl (x / 256) := by
  have e : (2 : Int) ^ (8 : Nat) = 256 := rfl
  have := bl_shift (x := x) 8 (by rw [e]; exact h)
  rw [e] at this
  exact this
theorem bl_range {x : Int} (h : 0 ≤ x ∧ x < 256) : 0 ≤ bl x ∧ bl x ≤ 8 := by
  rw [← tab_at h]
  have : ((List.range 256).all fun i => decide ((lenTab.getD i 0).toNat ≤ 8)) = true := by decide +kernel
  have := List.all_eq_true.1 this x.toNat (by simp; omega)
  simp only [decide_eq_true_eq] at this
  omega
theorem len_leaf {x c : Int} (h : 0 ≤ x ∧ x < 256) (hc : 0 ≤ c ∧ c ≤ 56) :
    br (decide ((0 : Int) ≤ IntKind.u8.wrap x) && decide (IntKind.u8.wrap x < (lenTab.length : Int)))
      (AV.int IntKind.i64 (IntKind.i64.wrap (c + IntKind.i64.wrap (↑(lenTab.getD (IntKind.u8.wrap x).toNat (0 : UInt8)).toNat : Int))) = AV.int IntKind.i64 (c + bl x) ∧ True) False := by
  have e : IntKind.u8.wrap x = x := by rw [IntKind.wrap_u8]; omega
  have hl : (lenTab.length : Int) = 256 := by decide +kernel
  have hr := bl_range h
  rw [e, hl, tab_at h, wrap64 (x := bl x) (by omega) (by omega), wrap64 (by omega) (by omega)]
  exact br_t (by simp; omega) ⟨rfl, trivial⟩
theorem lz_bl (x : Int) : lz x = 64 - bl x := rfl
theorem bl_le {x : Int} (h : 0 ≤ x ∧ x < 18446744073709551616) : 0 ≤ bl x ∧ bl x ≤ 64 := by
  obtain ⟨n, rfl⟩ := Int.eq_ofNat_of_zero_le h.1
  simp only [bl, Int.toNat_natCast]
  split
  · omega
  · have : n.log2 < 64 := (Nat.log2_lt (by omega)).2 (by omega)
    omega
def quoT (x n : Int) : Int := if x < 0 then -((-x) / n) else x / n
def quoB (x n : Int) : Bool := if n < 1 then false else inI (quoT x n)
def quoW (x n : Int) : Int := if n < 1 then 0 else numOf (quoT x n)
def quoF : Spec := ⟨[], fun args s => match args, s with
  | [.agg [.int .i64 h, .int .u64 l], .int .i64 n], [] => .ok (inW h l && inI n) (.tup [.int .i64 (quoW (wV h l) n), .bool (quoB (wV h l) n)]) [] []
  | _, _ => .fail⟩
end Go.Sy
