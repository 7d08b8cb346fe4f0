/- Plain: the reference's great numbers: eight parts of sixteen bits, modulo 2^128. -/
import Derived.Test.YteoockodkddipaaPvF
set_option linter.unusedSimpArgs false
set_option linter.unusedVariables false
namespace Go.Sy
open Go
def bD : Nat → Int → Int
  | 0, x => x % 65536
  | i + 1, x => bD i (x / 65536)
def bV (a b c d e f g h : Int) : Int := a + 65536 * (b + 65536 * (c + 65536 * (d + 65536 * (e + 65536 * (f + 65536 * (g + 65536 * h))))))
def in16 (a : Int) : Bool := decide (0 ≤ a) && decide (a < 65536)
def inB (a b c d e f g h : Int) : Bool := in16 a && (in16 b && (in16 c && (in16 d && (in16 e && (in16 f && (in16 g && in16 h))))))
def nrm (x : Int) : Int := bV (bD 0 x) (bD 1 x) (bD 2 x) (bD 3 x) (bD 4 x) (bD 5 x) (bD 6 x) (bD 7 x)
def inBn (x : Int) : Bool := inB (bD 0 x) (bD 1 x) (bD 2 x) (bD 3 x) (bD 4 x) (bD 5 x) (bD 6 x) (bD 7 x)
def av8 (a b c d e f g h : Int) : AV := .agg [.int .u32 a, .int .u32 b, .int .u32 c, .int .u32 d, .int .u32 e, .int .u32 f, .int .u32 g, .int .u32 h]
def avB (x : Int) : AV := av8 (bD 0 x) (bD 1 x) (bD 2 x) (bD 3 x) (bD 4 x) (bD 5 x) (bD 6 x) (bD 7 x)
def M128 : Int := 340282366920938463463374607431768211456

theorem in16_iff {a : Int} : in16 a = true ↔ 0 ≤ a ∧ a < 65536 := by simp [in16]
theorem inB_iff {a b c d e f g h : Int} : inB a b c d e f g h = true ↔ (0 ≤ a ∧ a < 65536) ∧ (0 ≤ b ∧ b < 65536) ∧ (0 ≤ c ∧ c < 65536) ∧ (0 ≤ d ∧ d < 65536) ∧ (0 ≤ e ∧ e < 65536) ∧ (0 ≤ f ∧ f < 65536) ∧ (0 ≤ g ∧ g < 65536) ∧ (0 ≤ h ∧ h < 65536) := by
  simp only [inB, Bool.and_eq_true, in16_iff]
theorem bD_range : ∀ (i : Nat) (x : Int), 0 ≤ bD i x ∧ bD i x < 65536
  | 0, x => by simp only [bD]; omega
  | i + 1, x => bD_range i _
theorem inBn_t (x : Int) : inBn x = true := by
  rw [inBn, inB_iff]
  exact ⟨bD_range _ _, bD_range _ _, bD_range _ _, bD_range _ _, bD_range _ _, bD_range _ _, bD_range _ _, bD_range _ _⟩
theorem nrm_eq (x : Int) : nrm x = x % M128 := by
  simp only [nrm, bV, bD, M128]
  have h1 : ∀ y : Int, y % 65536 + 65536 * (y / 65536 % 65536) = y % 4294967296 := fun y => by omega
  have h2 : ∀ y : Int, y % 65536 + 65536 * (y / 65536 % 4294967296) = y % 281474976710656 := fun y => by omega
  have h3 : ∀ y : Int, y % 65536 + 65536 * (y / 65536 % 281474976710656) = y % 18446744073709551616 := fun y => by omega
  have h4 : ∀ y : Int, y % 65536 + 65536 * (y / 65536 % 18446744073709551616) = y % 1208925819614629174706176 := fun y => by omega
  have h5 : ∀ y : Int, y % 65536 + 65536 * (y / 65536 % 1208925819614629174706176) = y % 79228162514264337593543950336 := fun y => by omega
  have h6 : ∀ y : Int, y % 65536 + 65536 * (y / 65536 % 79228162514264337593543950336) = y % 5192296858534827628530496329220096 := fun y => by omega
  have h7 : ∀ y : Int, y % 65536 + 65536 * (y / 65536 % 5192296858534827628530496329220096) = y % 340282366920938463463374607431768211456 := fun y => by omega
  rw [h1, h2, h3, h4, h5, h6, h7]
theorem bD_bV {a b c d e f g h : Int} (k : inB a b c d e f g h = true) : bD 0 (bV a b c d e f g h) = a ∧ bD 1 (bV a b c d e f g h) = b ∧ bD 2 (bV a b c d e f g h) = c ∧ bD 3 (bV a b c d e f g h) = d ∧ bD 4 (bV a b c d e f g h) = e ∧ bD 5 (bV a b c d e f g h) = f ∧ bD 6 (bV a b c d e f g h) = g ∧ bD 7 (bV a b c d e f g h) = h := by
  rw [inB_iff] at k
  obtain ⟨ka, kb, kc, kd, ke, kf, kg, kh⟩ := k
  have q : ∀ x y : Int, 0 ≤ x ∧ x < 65536 → (x + 65536 * y) % 65536 = x ∧ (x + 65536 * y) / 65536 = y := fun x y h => by omega
  simp only [bV, bD]
  have z : ∀ x : Int, 0 ≤ x ∧ x < 65536 → x % 65536 = x := fun x h => by omega
  rw [(q a _ ka).1, (q a _ ka).2, (q b _ kb).1, (q b _ kb).2, (q c _ kc).1, (q c _ kc).2, (q d _ kd).1, (q d _ kd).2, (q e _ ke).1, (q e _ ke).2, (q f _ kf).1, (q f _ kf).2, (q g _ kg).1, (q g _ kg).2, z h kh]
  exact ⟨rfl, rfl, rfl, rfl, rfl, rfl, rfl, rfl⟩
theorem avB_bV {a b c d e f g h : Int} (k : inB a b c d e f g h = true) : avB (bV a b c d e f g h) = av8 a b c d e f g h := by
  obtain ⟨h1, h2, h3, h4, h5, h6, h7, h8⟩ := bD_bV k
  rw [avB, h1, h2, h3, h4, h5, h6, h7, h8]
theorem avB_nrm (x : Int) : avB (nrm x) = avB x := by rw [nrm, avB_bV (inBn_t x)]; rfl
theorem avB_congr {x y : Int} (h : x % M128 = y % M128) : avB x = avB y := by rw [← avB_nrm x, ← avB_nrm y, nrm_eq, nrm_eq, h]
/-- Numbers part by part. -/
theorem avB_of {x a b c d e f g h : Int} (k : inB a b c d e f g h = true) (e1 : x % M128 = bV a b c d e f g h) : avB x = av8 a b c d e f g h := by
  rw [← avB_bV k]
  refine avB_congr ?_
  rw [← e1, Int.emod_emod_of_dvd _ (Int.dvd_refl _)]
def bofF : Spec := ⟨[], fun args s => match args, s with
  | [.int .i64 n], [] => .ok (inI n) (avB n) [] []
  | _, _ => .fail⟩
def baddF : Spec := ⟨[], fun args s => match args, s with
  | [.agg [.int .u32 a, .int .u32 b, .int .u32 c, .int .u32 d, .int .u32 e, .int .u32 f, .int .u32 g, .int .u32 h], .agg [.int .u32 a', .int .u32 b', .int .u32 c', .int .u32 d', .int .u32 e', .int .u32 f', .int .u32 g', .int .u32 h']], [] =>
    .ok (inB a b c d e f g h && inB a' b' c' d' e' f' g' h') (avB (bV a b c d e f g h + bV a' b' c' d' e' f' g' h')) [] []
  | _, _ => .fail⟩
def bnegF : Spec := ⟨[], fun args s => match args, s with
  | [.agg [.int .u32 a, .int .u32 b, .int .u32 c, .int .u32 d, .int .u32 e, .int .u32 f, .int .u32 g, .int .u32 h]], [] => .ok (inB a b c d e f g h) (avB (-(bV a b c d e f g h))) [] []
  | _, _ => .fail⟩
def bminusF : Spec := ⟨[], fun args s => match args, s with
  | [.agg [.int .u32 a, .int .u32 b, .int .u32 c, .int .u32 d, .int .u32 e, .int .u32 f, .int .u32 g, .int .u32 h]], [] => .ok (inB a b c d e f g h) (.bool (decide (w128 (bV a b c d e f g h) < 0))) [] []
  | _, _ => .fail⟩
def btimesF : Spec := ⟨[], fun args s => match args, s with
  | [.agg [.int .u32 a, .int .u32 b, .int .u32 c, .int .u32 d, .int .u32 e, .int .u32 f, .int .u32 g, .int .u32 h], .int .i64 n], [] => .ok (inB a b c d e f g h && inI n) (avB (bV a b c d e f g h * n)) [] []
  | _, _ => .fail⟩
def bnumF : Spec := ⟨[], fun args s => match args, s with
  | [.agg [.int .u32 a, .int .u32 b, .int .u32 c, .int .u32 d, .int .u32 e, .int .u32 f, .int .u32 g, .int .u32 h]], [] => .ok (inB a b c d e f g h) (.tup [.int .i64 (numOf (w128 (bV a b c d e f g h))), .bool (inI (w128 (bV a b c d e f g h)))]) [] []
  | _, _ => .fail⟩
def bpartsF : Spec := ⟨[], fun args s => match args, s with
  | [.agg [.int .u32 a, .int .u32 b, .int .u32 c, .int .u32 d, .int .u32 e, .int .u32 f, .int .u32 g, .int .u32 h]], [] => .ok (inB a b c d e f g h) (.tup [.int .i64 (wH (bV a b c d e f g h)), .int .u64 (wL (bV a b c d e f g h))]) [] []
  | _, _ => .fail⟩
def blessF : Spec := ⟨[], fun args s => match args, s with
  | [.agg [.int .u32 a, .int .u32 b, .int .u32 c, .int .u32 d, .int .u32 e, .int .u32 f, .int .u32 g, .int .u32 h], .agg [.int .u32 a', .int .u32 b', .int .u32 c', .int .u32 d', .int .u32 e', .int .u32 f', .int .u32 g', .int .u32 h']], [] =>
    .ok (inB a b c d e f g h && inB a' b' c' d' e' f' g' h') (.bool (decide (w128 (bV a b c d e f g h) < w128 (bV a' b' c' d' e' f' g' h')))) [] []
  | _, _ => .fail⟩
theorem av8_congr {a b c d e f g h a' b' c' d' e' f' g' h' : Int} (h1 : a = a') (h2 : b = b') (h3 : c = c') (h4 : d = d') (h5 : e = e') (h6 : f = f') (h7 : g = g') (h8 : h = h') : av8 a b c d e f g h = av8 a' b' c' d' e' f' g' h' := by
  subst h1; subst h2; subst h3; subst h4; subst h5; subst h6; subst h7; subst h8; rfl
/- ### bits -/
theorem u32_wrap {x : Int} (h0 : 0 ≤ x) (h1 : x < 4294967296) : IntKind.u32.wrap x = x := by
  simp only [IntKind.wrap, IntKind.bits, IntKind.signed]; simp; omega
theorem and32 (x : Int) : IntKind.u32.wrap (((BitVec.ofInt 32 x &&& BitVec.ofInt 32 65535).toNat : Nat) : Int) = x % 65536 := by
  have h : (BitVec.ofInt 32 x &&& BitVec.ofInt 32 65535).toNat = (x % 4294967296).toNat % 65536 := by
    rw [BitVec.toNat_and, BitVec.toNat_ofInt]
    show _ &&& 65535 = _
    rw [show (65535 : Nat) = 2 ^ 16 - 1 by rfl, Nat.and_two_pow_sub_one_eq_mod]
    rfl
  rw [h, u32_wrap (by omega) (by omega)]
  omega
theorem and64 (x : Int) : IntKind.u32.wrap (IntKind.u64.wrap (((BitVec.ofInt 64 x &&& BitVec.ofInt 64 65535).toNat : Nat) : Int)) = x % 65536 := by
  have h : (BitVec.ofInt 64 x &&& BitVec.ofInt 64 65535).toNat = (x % 18446744073709551616).toNat % 65536 := by
    rw [BitVec.toNat_and, BitVec.toNat_ofInt]
    show _ &&& 65535 = _
    rw [show (65535 : Nat) = 2 ^ 16 - 1 by rfl, Nat.and_two_pow_sub_one_eq_mod]
    rfl
  rw [h, IntKind.wrap_u64, u32_wrap (by omega) (by omega)]
  omega
theorem xor32 (a : Int) : IntKind.u32.wrap (((BitVec.ofInt 32 4294967295 ^^^ BitVec.ofInt 32 a).toNat : Nat) : Int) = 4294967295 - a % 4294967296 := by
  have h : (BitVec.ofInt 32 4294967295 ^^^ BitVec.ofInt 32 a).toNat = 4294967295 - (a % 4294967296).toNat := by
    rw [show BitVec.ofInt 32 4294967295 = BitVec.allOnes 32 by rfl, BitVec.allOnes_xor, BitVec.toNat_not, BitVec.toNat_ofInt]
    rfl
  rw [h, u32_wrap (by omega) (by omega)]
  omega
theorem or64 {c : Int} (hc : 0 ≤ c ∧ c < 65536) (x : Int) : IntKind.u64.wrap (((BitVec.ofInt 64 (IntKind.u64.wrap (x * 65536)) ||| BitVec.ofInt 64 (IntKind.u64.wrap c)).toNat : Nat) : Int) = (x * 65536 + c) % 18446744073709551616 := by
  have h : (BitVec.ofInt 64 (IntKind.u64.wrap (x * 65536)) ||| BitVec.ofInt 64 (IntKind.u64.wrap c)).toNat = 2 ^ 16 * (x % 281474976710656).toNat + c.toNat := by
    rw [BitVec.toNat_or, BitVec.toNat_ofInt, BitVec.toNat_ofInt, IntKind.wrap_u64, IntKind.wrap_u64, Nat.two_pow_add_eq_or_of_lt (by omega)]
    congr 1
    · show ((x * 65536 % 18446744073709551616) % 18446744073709551616).toNat = _
      omega
    · show ((c % 18446744073709551616) % 18446744073709551616).toNat = _
      omega
  rw [h, IntKind.wrap_u64]
  omega
theorem or64_0 {c : Int} (hc : 0 ≤ c ∧ c < 65536) : IntKind.u64.wrap (((BitVec.ofInt 64 (0 : Int) ||| BitVec.ofInt 64 (IntKind.u64.wrap c)).toNat : Nat) : Int) = c := by
  have h : (BitVec.ofInt 64 (0 : Int) ||| BitVec.ofInt 64 (IntKind.u64.wrap c)).toNat = c.toNat := by
    rw [show BitVec.ofInt 64 (0 : Int) = 0#64 by rfl, BitVec.zero_or, BitVec.toNat_ofInt, IntKind.wrap_u64]
    show ((c % 18446744073709551616) % 18446744073709551616).toNat = _
    omega
  rw [h, IntKind.wrap_u64]
  omega
theorem bit64 {U : Int} (h0 : 0 ≤ U) (h1 : U < 18446744073709551616) {w : Nat} (hw : w < 64) : IntKind.u64.wrap (((BitVec.ofInt 64 (U.fdiv ((2 : Int) ^ min (IntKind.u64.wrap (w : Int)).toNat 64)) &&& BitVec.ofInt 64 (1 : Int)).toNat : Nat) : Int) = U / 2 ^ w % 2 := by
  have e1 : (IntKind.u64.wrap (w : Int)).toNat = w := by rw [IntKind.wrap_u64]; omega
  rw [e1, Nat.min_eq_left (by omega), Int.fdiv_eq_ediv_of_nonneg U (Int.pow_nonneg (by omega))]
  have h2 : 0 ≤ U / 2 ^ w := Int.ediv_nonneg h0 (Int.pow_nonneg (by omega))
  have h3 : U / 2 ^ w ≤ U := Int.ediv_le_self _ h0
  generalize U / 2 ^ w = X at *
  have h : (BitVec.ofInt 64 X &&& BitVec.ofInt 64 (1 : Int)).toNat = X.toNat % 2 := by
    rw [BitVec.toNat_and, BitVec.toNat_ofInt]
    show _ &&& 1 = _
    rw [Nat.and_one_is_mod]
    show (X % 18446744073709551616).toNat % 2 = _
    omega
  rw [h, IntKind.wrap_u64]
  omega
theorem half_pow (U : Int) (w : Nat) : U / 2 ^ (w + 1) = U / 2 ^ w / 2 := by
  rw [Int.pow_succ, Int.ediv_ediv_of_nonneg (Int.pow_nonneg (by omega))]
/- ### sums -/
theorem bD_sum {a b c d e f g h a' b' c' d' e' f' g' h' s1 s2 s3 s4 s5 s6 s7 : Int} (e1 : s1 = (a + a') / 65536 + (b + b')) (e2 : s2 = s1 / 65536 + (c + c')) (e3 : s3 = s2 / 65536 + (d + d')) (e4 : s4 = s3 / 65536 + (e + e')) (e5 : s5 = s4 / 65536 + (f + f')) (e6 : s6 = s5 / 65536 + (g + g')) (e7 : s7 = s6 / 65536 + (h + h')) :
    avB (bV a b c d e f g h + bV a' b' c' d' e' f' g' h') = av8 ((a + a') % 65536) (s1 % 65536) (s2 % 65536) (s3 % 65536) (s4 % 65536) (s5 % 65536) (s6 % 65536) (s7 % 65536) := by
  have q : ∀ x y : Int, (x + 65536 * y) / 65536 = x / 65536 + y := fun x y => by omega
  have m : ∀ x y : Int, (x + 65536 * y) % 65536 = x % 65536 := fun x y => by omega
  have step : ∀ s x x' y s' : Int, s' = s / 65536 + (x + x') → (s + 65536 * (x + x' + 65536 * y)) / 65536 = s' + 65536 * y := fun s x x' y s' h => by rw [q]; omega
  have t0 : bV a b c d e f g h + bV a' b' c' d' e' f' g' h' = (a + a') + 65536 * (b + b' + 65536 * (c + c' + 65536 * (d + d' + 65536 * (e + e' + 65536 * (f + f' + 65536 * (g + g' + 65536 * (h + h' + 65536 * 0))))))) := by simp only [bV]; omega
  unfold avB
  simp only [bD]
  rw [t0, step _ _ _ _ _ e1, step _ _ _ _ _ e2, step _ _ _ _ _ e3, step _ _ _ _ _ e4, step _ _ _ _ _ e5, step _ _ _ _ _ e6, step _ _ _ _ _ e7]
  simp only [m]
theorem bV_neg (a b c d e f g h : Int) : bV (65535 - a) (65535 - b) (65535 - c) (65535 - d) (65535 - e) (65535 - f) (65535 - g) (65535 - h) + 1 = M128 + -(bV a b c d e f g h) := by
  simp only [bV, M128]; omega
theorem bV_range {a b c d e f g h : Int} (k : inB a b c d e f g h = true) : 0 ≤ bV a b c d e f g h ∧ bV a b c d e f g h < M128 := by
  rw [inB_iff] at k
  simp only [bV, M128]; omega
theorem w128_mod (x : Int) : w128 (x % M128) = w128 x := by simp only [w128, M128]; omega
theorem w128_mod' (x : Int) : w128 x % M128 = x % M128 := by simp only [w128, M128]; omega
/-- Divided, towards nought. -/
def bquoF : Spec := ⟨[], fun args s => match args, s with
  | [.agg [.int .u32 a, .int .u32 b, .int .u32 c, .int .u32 d, .int .u32 e, .int .u32 f, .int .u32 g, .int .u32 h], .int .i64 n], [] => .ok (inB a b c d e f g h && inI n) (.tup [.int .i64 (quoW (w128 (bV a b c d e f g h)) n), .bool (quoB (w128 (bV a b c d e f g h)) n)]) [] []
  | _, _ => .fail⟩
theorem bD_pow : ∀ (j : Nat) (m : Int), bD j m = m / 2 ^ (16 * j) % 65536
  | 0, m => by simp [bD]
  | j + 1, m => by
    rw [bD, bD_pow j, show 16 * (j + 1) = 16 + 16 * j by omega, Int.pow_add, ← Int.ediv_ediv_of_nonneg (by decide)]
    rfl
theorem bit_low (x : Int) (s : Nat) (hs : s < 16) : x % 65536 / 2 ^ s % 2 = x / 2 ^ s % 2 := by
  have : s = 0 ∨ s = 1 ∨ s = 2 ∨ s = 3 ∨ s = 4 ∨ s = 5 ∨ s = 6 ∨ s = 7 ∨ s = 8 ∨ s = 9 ∨ s = 10 ∨ s = 11 ∨ s = 12 ∨ s = 13 ∨ s = 14 ∨ s = 15 := by omega
  rcases this with rfl | rfl | rfl | rfl | rfl | rfl | rfl | rfl | rfl | rfl | rfl | rfl | rfl | rfl | rfl | rfl <;> simp <;> omega
theorem bit128 (m : Int) (w : Nat) : IntKind.u32.wrap (((BitVec.ofInt 32 ((bD (w / 16) m).fdiv (2 ^ (w % 16))) &&& BitVec.ofInt 32 (1 : Int)).toNat : Nat) : Int) = m / 2 ^ w % 2 := by
  have hp : (0 : Int) ≤ 2 ^ (w % 16) := Int.pow_nonneg (by omega)
  rw [Int.fdiv_eq_ediv_of_nonneg _ hp]
  have h0 := bD_range (w / 16) m
  have h1 : 0 ≤ bD (w / 16) m / 2 ^ (w % 16) := Int.ediv_nonneg h0.1 hp
  have h2 : bD (w / 16) m / 2 ^ (w % 16) ≤ bD (w / 16) m := Int.ediv_le_self _ h0.1
  have h3 : bD (w / 16) m / 2 ^ (w % 16) % 2 = m / 2 ^ w % 2 := by
    rw [bD_pow, bit_low _ _ (Nat.mod_lt _ (by omega)), Int.ediv_ediv_of_nonneg (Int.pow_nonneg (by omega)), ← Int.pow_add, show 16 * (w / 16) + w % 16 = w by omega]
  rw [← h3]
  generalize bD (w / 16) m / 2 ^ (w % 16) = X at *
  have h : (BitVec.ofInt 32 X &&& BitVec.ofInt 32 (1 : Int)).toNat = X.toNat % 2 := by
    rw [BitVec.toNat_and, BitVec.toNat_ofInt]
    show _ &&& 1 = _
    rw [Nat.and_one_is_mod]
    show (X % 4294967296).toNat % 2 = _
    omega
  rw [h, u32_wrap (by omega) (by omega)]
  omega
def c8 (a b c d e f g h : Int) : Ent := .cells [.int .u32 a, .int .u32 b, .int .u32 c, .int .u32 d, .int .u32 e, .int .u32 f, .int .u32 g, .int .u32 h]
def cB (x : Int) : Ent := c8 (bD 0 x) (bD 1 x) (bD 2 x) (bD 3 x) (bD 4 x) (bD 5 x) (bD 6 x) (bD 7 x)
theorem cB_of {a b c d e f g h : Int} (k : inB a b c d e f g h = true) : cB (bV a b c d e f g h) = c8 a b c d e f g h := by
  obtain ⟨h1, h2, h3, h4, h5, h6, h7, h8⟩ := bD_bV k
  rw [cB, h1, h2, h3, h4, h5, h6, h7, h8]
theorem cB_congr {x y : Int} (h : x % M128 = y % M128) : cB x = cB y := by
  have := avB_congr h
  simp only [avB, av8, AV.agg.injEq, List.cons.injEq, AV.int.injEq, true_and, and_true] at this
  obtain ⟨h1, h2, h3, h4, h5, h6, h7, h8⟩ := this
  rw [cB, cB, h1, h2, h3, h4, h5, h6, h7, h8]
end Go.Sy
