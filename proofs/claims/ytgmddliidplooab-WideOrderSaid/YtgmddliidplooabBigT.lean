/- Walks: the reference's great numbers: so many times. -/
import Derived.Test.YtgmddliidplooabBig
set_option linter.unusedSimpArgs false
set_option linter.unusedVariables false
set_option maxRecDepth 100000
namespace Go.Proofs.Ytgmddliidplooab.W
open Go Go.Sy
attribute [local irreducible] bodyK roundK
def prBT : FuncId → Option Sy.Spec := addP 20 baddF (addP 21 bnegF noP)
def kT1 : List Keep := [.no, .yes, .yes, .no, .yes, .yes, .yes, .yes]
def kT2 : List Keep := [.no, .no, .no, .no, .yes, .yes, .no, .no, .yes, .yes]
theorem btimes_body (a b c d e f g h n : Int) (G1 G2 : LoopS) (k : AV → St → Prop) : bodyK Try.prog prBT (addL 0 (headG 0 kT1 G1) (addL 2 (headG 0 kT2 G2) noL)) 100 11 [] [av8 a b c d e f g h, .int .i64 n] [] k  =
  G1 (([.any, AV.int IntKind.i64 n, AV.ptr (some ((0 : Nat), (0 : Nat))), .any, AV.ptr (some ((0 : Nat) + (1 : Nat), (0 : Nat))), AV.ptr (some ((0 : Nat) + (1 : Nat) + (1 : Nat), (0 : Nat))), AV.int IntKind.u64 (IntKind.u64.wrap n), AV.int IntKind.i64 (63 : Int)] ++ padAny 35)) ([Ent.cells [AV.int IntKind.u32 a, AV.int IntKind.u32 b, AV.int IntKind.u32 c, AV.int IntKind.u32 d, AV.int IntKind.u32 e, AV.int IntKind.u32 f, AV.int IntKind.u32 g, AV.int IntKind.u32 h], Ent.cells [AV.int IntKind.u32 (0 : Int), AV.int IntKind.u32 (0 : Int), AV.int IntKind.u32 (0 : Int), AV.int IntKind.u32 (0 : Int), AV.int IntKind.u32 (0 : Int), AV.int IntKind.u32 (0 : Int), AV.int IntKind.u32 (0 : Int), AV.int IntKind.u32 (0 : Int)], Ent.cells [AV.int IntKind.u32 (0 : Int), AV.int IntKind.u32 (0 : Int), AV.int IntKind.u32 (0 : Int), AV.int IntKind.u32 (0 : Int), AV.int IntKind.u32 (0 : Int), AV.int IntKind.u32 (0 : Int), AV.int IntKind.u32 (0 : Int), AV.int IntKind.u32 (0 : Int)]]) (contB Try.prog prBT (addL 0 (headG 0 kT1 G1) (addL 2 (headG 0 kT2 G2) noL)) 100 11 [] [] 0 k) := by kernel_rfl
def tT1 (n u i : Int) : List AV := [.any, .int .i64 n, .ptr (some (0, 0)), .any, .ptr (some (1, 0)), .ptr (some (2, 0)), .int .u64 u, .int .i64 i] ++ padAny 35
theorem btimes_r1 (a b c d e f g h n u i x : Int) (G2 : LoopS) (more : List AV → St → Prop) (kk : KS) : roundK Try.prog prBT (addL 2 (headG 0 kT2 G2) noL) 100 11 0 (tT1 n u i) [c8 a b c d e f g h, cB 0, cB x] (againK 0 0 kT1 kT1 more kk) =
  br (decide (i ≥ (0 : Int)))
    (br (inBn x && inBn x)
      (br (!decide (IntKind.u64.wrap i < (0 : Int)))
        (br (decide (IntKind.u64.wrap (↑(BitVec.ofInt (64 : Nat) (u.fdiv ((2 : Int) ^ min (IntKind.u64.wrap i).toNat (64 : Nat))) &&& BitVec.ofInt (64 : Nat) (1 : Int)).toNat : Int) = (1 : Int)))
          (br (inBn (nrm x + nrm x) && inB a b c d e f g h)
            (more ([.any, AV.int IntKind.i64 n, AV.ptr (some ((0 : Nat), (0 : Nat))), .any, AV.ptr (some ((1 : Nat), (0 : Nat))), AV.ptr (some ((2 : Nat), (0 : Nat))), AV.int IntKind.u64 u, AV.int IntKind.i64 (IntKind.i64.wrap (i - (1 : Int)))] ++ padAny 35) [Ent.cells [AV.int IntKind.u32 a, AV.int IntKind.u32 b, AV.int IntKind.u32 c, AV.int IntKind.u32 d, AV.int IntKind.u32 e, AV.int IntKind.u32 f, AV.int IntKind.u32 g, AV.int IntKind.u32 h], Ent.cells [AV.int IntKind.u32 (0 : Int), AV.int IntKind.u32 (0 : Int), AV.int IntKind.u32 (0 : Int), AV.int IntKind.u32 (0 : Int), AV.int IntKind.u32 (0 : Int), AV.int IntKind.u32 (0 : Int), AV.int IntKind.u32 (0 : Int), AV.int IntKind.u32 (0 : Int)], Ent.cells [AV.int IntKind.u32 (bD (0 : Nat) (nrm (nrm x + nrm x) + bV a b c d e f g h)), AV.int IntKind.u32 (bD (1 : Nat) (nrm (nrm x + nrm x) + bV a b c d e f g h)), AV.int IntKind.u32 (bD (2 : Nat) (nrm (nrm x + nrm x) + bV a b c d e f g h)), AV.int IntKind.u32 (bD (3 : Nat) (nrm (nrm x + nrm x) + bV a b c d e f g h)), AV.int IntKind.u32 (bD (4 : Nat) (nrm (nrm x + nrm x) + bV a b c d e f g h)), AV.int IntKind.u32 (bD (5 : Nat) (nrm (nrm x + nrm x) + bV a b c d e f g h)), AV.int IntKind.u32 (bD (6 : Nat) (nrm (nrm x + nrm x) + bV a b c d e f g h)), AV.int IntKind.u32 (bD (7 : Nat) (nrm (nrm x + nrm x) + bV a b c d e f g h))]])
            (False))
          (more ([.any, AV.int IntKind.i64 n, AV.ptr (some ((0 : Nat), (0 : Nat))), .any, AV.ptr (some ((1 : Nat), (0 : Nat))), AV.ptr (some ((2 : Nat), (0 : Nat))), AV.int IntKind.u64 u, AV.int IntKind.i64 (IntKind.i64.wrap (i - (1 : Int)))] ++ padAny 35) [Ent.cells [AV.int IntKind.u32 a, AV.int IntKind.u32 b, AV.int IntKind.u32 c, AV.int IntKind.u32 d, AV.int IntKind.u32 e, AV.int IntKind.u32 f, AV.int IntKind.u32 g, AV.int IntKind.u32 h], Ent.cells [AV.int IntKind.u32 (0 : Int), AV.int IntKind.u32 (0 : Int), AV.int IntKind.u32 (0 : Int), AV.int IntKind.u32 (0 : Int), AV.int IntKind.u32 (0 : Int), AV.int IntKind.u32 (0 : Int), AV.int IntKind.u32 (0 : Int), AV.int IntKind.u32 (0 : Int)], Ent.cells [AV.int IntKind.u32 (bD (0 : Nat) (nrm x + nrm x)), AV.int IntKind.u32 (bD (1 : Nat) (nrm x + nrm x)), AV.int IntKind.u32 (bD (2 : Nat) (nrm x + nrm x)), AV.int IntKind.u32 (bD (3 : Nat) (nrm x + nrm x)), AV.int IntKind.u32 (bD (4 : Nat) (nrm x + nrm x)), AV.int IntKind.u32 (bD (5 : Nat) (nrm x + nrm x)), AV.int IntKind.u32 (bD (6 : Nat) (nrm x + nrm x)), AV.int IntKind.u32 (bD (7 : Nat) (nrm x + nrm x))]]))
        (False))
      (False))
    (kk Ex.normal ([.any, AV.int IntKind.i64 n, AV.ptr (some ((0 : Nat), (0 : Nat))), .any, AV.ptr (some ((1 : Nat), (0 : Nat))), AV.ptr (some ((2 : Nat), (0 : Nat))), AV.int IntKind.u64 u, AV.int IntKind.i64 i] ++ padAny 35) [Ent.cells [AV.int IntKind.u32 a, AV.int IntKind.u32 b, AV.int IntKind.u32 c, AV.int IntKind.u32 d, AV.int IntKind.u32 e, AV.int IntKind.u32 f, AV.int IntKind.u32 g, AV.int IntKind.u32 h], Ent.cells [AV.int IntKind.u32 (0 : Int), AV.int IntKind.u32 (0 : Int), AV.int IntKind.u32 (0 : Int), AV.int IntKind.u32 (0 : Int), AV.int IntKind.u32 (0 : Int), AV.int IntKind.u32 (0 : Int), AV.int IntKind.u32 (0 : Int), AV.int IntKind.u32 (0 : Int)], Ent.cells [AV.int IntKind.u32 (bD (0 : Nat) x), AV.int IntKind.u32 (bD (1 : Nat) x), AV.int IntKind.u32 (bD (2 : Nat) x), AV.int IntKind.u32 (bD (3 : Nat) x), AV.int IntKind.u32 (bD (4 : Nat) x), AV.int IntKind.u32 (bD (5 : Nat) x), AV.int IntKind.u32 (bD (6 : Nat) x), AV.int IntKind.u32 (bD (7 : Nat) x)]]) := by kernel_rfl
theorem btimes_e1 (a b c d e f g h n u i x : Int) (G1 G2 : LoopS) (k : AV → St → Prop) : contB Try.prog prBT (addL 0 (headG 0 kT1 G1) (addL 2 (headG 0 kT2 G2) noL)) 100 11 [] [] 0 k .normal (tT1 n u i) [c8 a b c d e f g h, cB 0, cB x]  =
  br (decide (n < (0 : Int)))
    (G2 (([.any, .any, .any, .any, AV.ptr (some ((0 : Nat), (0 : Nat))), AV.ptr (some ((0 : Nat) + (1 : Nat), (0 : Nat))), .any, .any, AV.ptr (some ((0 : Nat) + (1 : Nat) + (1 : Nat), (0 : Nat))), AV.int IntKind.i64 (0 : Int)] ++ padAny 33)) ([Ent.cells [AV.int IntKind.u32 (0 : Int), AV.int IntKind.u32 (0 : Int), AV.int IntKind.u32 (0 : Int), AV.int IntKind.u32 (0 : Int), AV.int IntKind.u32 (0 : Int), AV.int IntKind.u32 (0 : Int), AV.int IntKind.u32 (0 : Int), AV.int IntKind.u32 (0 : Int)], Ent.cells [AV.int IntKind.u32 (bD (0 : Nat) x), AV.int IntKind.u32 (bD (1 : Nat) x), AV.int IntKind.u32 (bD (2 : Nat) x), AV.int IntKind.u32 (bD (3 : Nat) x), AV.int IntKind.u32 (bD (4 : Nat) x), AV.int IntKind.u32 (bD (5 : Nat) x), AV.int IntKind.u32 (bD (6 : Nat) x), AV.int IntKind.u32 (bD (7 : Nat) x)], Ent.cells [AV.int IntKind.u32 a, AV.int IntKind.u32 b, AV.int IntKind.u32 c, AV.int IntKind.u32 d, AV.int IntKind.u32 e, AV.int IntKind.u32 f, AV.int IntKind.u32 g, AV.int IntKind.u32 h]]) (contB Try.prog prBT (addL 0 (headG 0 kT1 G1) (addL 2 (headG 0 kT2 G2) noL)) 100 11 [] [] 2 k))
    (k (AV.agg [AV.int IntKind.u32 (bD (0 : Nat) x), AV.int IntKind.u32 (bD (1 : Nat) x), AV.int IntKind.u32 (bD (2 : Nat) x), AV.int IntKind.u32 (bD (3 : Nat) x), AV.int IntKind.u32 (bD (4 : Nat) x), AV.int IntKind.u32 (bD (5 : Nat) x), AV.int IntKind.u32 (bD (6 : Nat) x), AV.int IntKind.u32 (bD (7 : Nat) x)]) []) := by kernel_rfl
def tT2 (i : Nat) : List AV := [.any, .any, .any, .any, .ptr (some (0, 0)), .ptr (some (1, 0)), .any, .any, .ptr (some (2, 0)), .int .i64 i] ++ padAny 33
theorem btimes_r2 (x y : Int) (i : Nat) (more : List AV → St → Prop) (kk : KS) : roundK Try.prog prBT noL 100 11 2 (tT2 i) [cB 0, cB x, cB y] (againK 0 2 kT2 kT2 more kk) =
  br (decide ((↑i : Int) < (64 : Int)))
    (br (inBn y && inBn y)
      (more ([.any, .any, .any, .any, AV.ptr (some ((0 : Nat), (0 : Nat))), AV.ptr (some ((1 : Nat), (0 : Nat))), .any, .any, AV.ptr (some ((2 : Nat), (0 : Nat))), AV.int IntKind.i64 (IntKind.i64.wrap ((↑i : Int) + (1 : Int)))] ++ padAny 33) [Ent.cells [AV.int IntKind.u32 (0 : Int), AV.int IntKind.u32 (0 : Int), AV.int IntKind.u32 (0 : Int), AV.int IntKind.u32 (0 : Int), AV.int IntKind.u32 (0 : Int), AV.int IntKind.u32 (0 : Int), AV.int IntKind.u32 (0 : Int), AV.int IntKind.u32 (0 : Int)], Ent.cells [AV.int IntKind.u32 (bD (0 : Nat) x), AV.int IntKind.u32 (bD (1 : Nat) x), AV.int IntKind.u32 (bD (2 : Nat) x), AV.int IntKind.u32 (bD (3 : Nat) x), AV.int IntKind.u32 (bD (4 : Nat) x), AV.int IntKind.u32 (bD (5 : Nat) x), AV.int IntKind.u32 (bD (6 : Nat) x), AV.int IntKind.u32 (bD (7 : Nat) x)], Ent.cells [AV.int IntKind.u32 (bD (0 : Nat) (nrm y + nrm y)), AV.int IntKind.u32 (bD (1 : Nat) (nrm y + nrm y)), AV.int IntKind.u32 (bD (2 : Nat) (nrm y + nrm y)), AV.int IntKind.u32 (bD (3 : Nat) (nrm y + nrm y)), AV.int IntKind.u32 (bD (4 : Nat) (nrm y + nrm y)), AV.int IntKind.u32 (bD (5 : Nat) (nrm y + nrm y)), AV.int IntKind.u32 (bD (6 : Nat) (nrm y + nrm y)), AV.int IntKind.u32 (bD (7 : Nat) (nrm y + nrm y))]])
      (False))
    (kk Ex.normal ([.any, .any, .any, .any, AV.ptr (some ((0 : Nat), (0 : Nat))), AV.ptr (some ((1 : Nat), (0 : Nat))), .any, .any, AV.ptr (some ((2 : Nat), (0 : Nat))), AV.int IntKind.i64 (↑i : Int)] ++ padAny 33) [Ent.cells [AV.int IntKind.u32 (0 : Int), AV.int IntKind.u32 (0 : Int), AV.int IntKind.u32 (0 : Int), AV.int IntKind.u32 (0 : Int), AV.int IntKind.u32 (0 : Int), AV.int IntKind.u32 (0 : Int), AV.int IntKind.u32 (0 : Int), AV.int IntKind.u32 (0 : Int)], Ent.cells [AV.int IntKind.u32 (bD (0 : Nat) x), AV.int IntKind.u32 (bD (1 : Nat) x), AV.int IntKind.u32 (bD (2 : Nat) x), AV.int IntKind.u32 (bD (3 : Nat) x), AV.int IntKind.u32 (bD (4 : Nat) x), AV.int IntKind.u32 (bD (5 : Nat) x), AV.int IntKind.u32 (bD (6 : Nat) x), AV.int IntKind.u32 (bD (7 : Nat) x)], Ent.cells [AV.int IntKind.u32 (bD (0 : Nat) y), AV.int IntKind.u32 (bD (1 : Nat) y), AV.int IntKind.u32 (bD (2 : Nat) y), AV.int IntKind.u32 (bD (3 : Nat) y), AV.int IntKind.u32 (bD (4 : Nat) y), AV.int IntKind.u32 (bD (5 : Nat) y), AV.int IntKind.u32 (bD (6 : Nat) y), AV.int IntKind.u32 (bD (7 : Nat) y)]]) := by kernel_rfl
theorem btimes_e2 (x y : Int) (i : Nat) (G1 G2 : LoopS) (k : AV → St → Prop) : contB Try.prog prBT (addL 0 (headG 0 kT1 G1) (addL 2 (headG 0 kT2 G2) noL)) 100 11 [] [] 2 k .normal (tT2 i) [cB 0, cB x, cB y] =
  br (inBn y)
    (br (inBn x && inBn (-nrm y))
      (k (AV.agg [AV.int IntKind.u32 (bD (0 : Nat) (nrm x + nrm (-nrm y))), AV.int IntKind.u32 (bD (1 : Nat) (nrm x + nrm (-nrm y))), AV.int IntKind.u32 (bD (2 : Nat) (nrm x + nrm (-nrm y))), AV.int IntKind.u32 (bD (3 : Nat) (nrm x + nrm (-nrm y))), AV.int IntKind.u32 (bD (4 : Nat) (nrm x + nrm (-nrm y))), AV.int IntKind.u32 (bD (5 : Nat) (nrm x + nrm (-nrm y))), AV.int IntKind.u32 (bD (6 : Nat) (nrm x + nrm (-nrm y))), AV.int IntKind.u32 (bD (7 : Nat) (nrm x + nrm (-nrm y)))]) [])
      (False))
    (False) := by kernel_rfl
def MT1 (a b c d e f g h n U : Int) (z : Nat) (t : List AV) (s : St) (k : KS) : Prop := ∃ x : Int, z ≤ 64 ∧ x % M128 = bV a b c d e f g h * (U / 2 ^ z) % M128 ∧ t = tT1 n U ((z : Int) - 1) ∧ s = [c8 a b c d e f g h, cB 0, cB x] ∧
  ∀ y : Int, y % M128 = bV a b c d e f g h * U % M128 → k .normal (tT1 n U (-1)) [c8 a b c d e f g h, cB 0, cB y]
theorem btimes_s1 (a b c d e f g h n U : Int) (hU : 0 ≤ U) (hU' : U < 18446744073709551616) (hB : inB a b c d e f g h = true) (G2 : LoopS) : ∀ z t s k, MT1 a b c d e f g h n U z t s k → roundK Try.prog prBT (addL 2 (headG 0 kT2 G2) noL) 100 11 0 t s (againK 0 0 kT1 kT1 (fun t' s' => ∃ z', z' < z ∧ MT1 a b c d e f g h n U z' t' s' k) k) := by
  rintro z t s k ⟨x, hz, hx, rfl, rfl, hk⟩
  rw [btimes_r1]
  cases z with
  | zero =>
    refine br_iff.2 ⟨fun h => by omega, fun _ => ?_⟩
    have eW : ((0 : Nat) : Int) - 1 = -1 := rfl
    rw [eW]
    exact hk x (by rw [hx]; congr 2; show U / 1 = U; omega)
  | succ w =>
    have eW : ((w + 1 : Nat) : Int) - 1 = (w : Int) := by omega
    have hw : IntKind.i64.wrap ((w : Int) - 1) = (w : Int) - 1 := wrap64 (by omega) (by omega)
    rw [eW, bit64 hU hU' (by omega), hw]
    have hn : IntKind.u64.wrap (w : Int) = (w : Int) := by rw [IntKind.wrap_u64]; omega
    have hx2 := half_pow U w
    refine br_t (by simp) (br_t (by rw [inBn_t]; rfl) (br_t (by rw [hn]; simp) ?_))
    obtain ⟨V, hV⟩ : ∃ V, bV a b c d e f g h = V := ⟨_, rfl⟩
    rw [hV] at hx
    have hP : V * (U / 2 ^ w) = 2 * (V * (U / 2 ^ (w + 1))) + V * (U / 2 ^ w % 2) := by
      rw [hx2]
      have : U / 2 ^ w = 2 * (U / 2 ^ w / 2) + U / 2 ^ w % 2 := by omega
      conv => lhs; rw [this]
      rw [Int.mul_add, Int.mul_left_comm]
    refine br_iff.2 ⟨fun hb => br_t (by rw [inBn_t, hB]; rfl) ?_, fun hb => ?_⟩
    · rw [hb, Int.mul_one] at hP
      refine ⟨w, by omega, nrm (nrm x + nrm x) + bV a b c d e f g h, by omega, ?_, rfl, rfl, hk⟩
      rw [hV]
      rw [hP]
      generalize V * (U / 2 ^ (w + 1)) = P at *
      simp only [nrm_eq, M128] at *
      omega
    · have hb0 : U / 2 ^ w % 2 = 0 := by omega
      rw [hb0, Int.mul_zero, Int.add_zero] at hP
      refine ⟨w, by omega, nrm x + nrm x, by omega, ?_, rfl, rfl, hk⟩
      rw [hV, hP]
      generalize V * (U / 2 ^ (w + 1)) = P at *
      simp only [nrm_eq, M128] at *
      omega
def MT2 (V x : Int) (z : Nat) (t : List AV) (s : St) (k : KS) : Prop := ∃ (i : Nat) (y : Int), z + i = 64 ∧ y % M128 = V * 2 ^ i % M128 ∧ t = tT2 i ∧ s = [cB 0, cB x, cB y] ∧
  ∀ y : Int, y % M128 = V * 18446744073709551616 % M128 → k .normal (tT2 64) [cB 0, cB x, cB y]
theorem btimes_s2 : ∀ z t s k, (∃ V x, MT2 V x z t s k) → roundK Try.prog prBT noL 100 11 2 t s (againK 0 2 kT2 kT2 (fun t' s' => ∃ z', z' < z ∧ ∃ V x, MT2 V x z' t' s' k) k) := by
  rintro z t s k ⟨V, x, i, y, hz, hy, rfl, rfl, hk⟩
  rw [btimes_r2]
  refine br_iff.2 ⟨fun h1 => br_t (by rw [inBn_t]; rfl) ?_, fun h1 => ?_⟩
  · have hw : IntKind.i64.wrap ((i : Int) + 1) = ((i + 1 : Nat) : Int) := by rw [wrap64 (by omega) (by omega)]; rfl
    rw [hw]
    refine ⟨63 - i, by omega, V, x, i + 1, nrm y + nrm y, by omega, ?_, rfl, rfl, hk⟩
    have : V * 2 ^ (i + 1) = 2 * (V * 2 ^ i) := by rw [Int.pow_succ, ← Int.mul_assoc, Int.mul_comm]
    rw [this]
    generalize V * 2 ^ i = P at *
    simp only [nrm_eq, M128] at *
    omega
  · have hi : i = 64 := by omega
    subst hi
    exact hk y hy
theorem btimes_ok : SpecOk Try.prog 11 btimesF.f := specOk_comes fun args s v s' tch eR => by
  simp only [btimesF] at eR
  split at eR
  · rename_i a b c d e f g h n
    obtain ⟨hg, rfl, rfl, rfl⟩ := run_ok eR
    simp only [Bool.and_eq_true] at hg
    obtain ⟨hB, hI⟩ := hg
    have hn := inI_iff.1 hI
    have hd : distinctOk Try.prog 11 = true := by kernel_rfl
    have hpr : PrOk Try.prog prBT := prOk_add badd_ok (prOk_add bneg_ok prOk_none)
    have hU : 0 ≤ IntKind.u64.wrap n ∧ IntKind.u64.wrap n < 18446744073709551616 := by rw [IntKind.wrap_u64]; omega
    refine comes_of ok hpr (L := 100) (ms := []) hd (loops_add (L := 100) (kh := kT1) ok hpr hd (loops_add (L := 100) (kh := kT2) ok hpr hd loops_none btimes_s2) (btimes_s1 a b c d e f g h n (IntKind.u64.wrap n) hU.1 hU.2 hB _)) ?_
    refine Eq.mpr (btimes_body a b c d e f g h n _ _ _) ?_
    refine ⟨64, 0, by omega, ?_, rfl, rfl, fun y hy => ?_⟩
    · have : IntKind.u64.wrap n / 2 ^ 64 = 0 := Int.ediv_eq_zero_of_lt hU.1 hU.2
      rw [this, Int.mul_zero]
    rw [btimes_e1]
    rw [IntKind.wrap_u64] at hy
    refine br_iff.2 ⟨fun h0 => ?_, fun h0 => ⟨?_, rfl⟩⟩
    · have e1 : n % 18446744073709551616 = n + 18446744073709551616 := by omega
      rw [e1, Int.mul_add] at hy
      refine ⟨64, bV a b c d e f g h, y, 0, bV a b c d e f g h, by omega, by simp, rfl, by rw [cB_of hB]; rfl, fun y' hy' => ?_⟩
      rw [btimes_e2]
      refine br_t (inBn_t _) (br_t (by rw [inBn_t, inBn_t]; rfl) ⟨avB_congr ?_, rfl⟩)
      generalize bV a b c d e f g h * n = P at *
      generalize bV a b c d e f g h * 18446744073709551616 = Q at *
      simp only [nrm_eq, M128] at *
      omega
    · have e1 : n % 18446744073709551616 = n := by omega
      rw [e1] at hy
      exact avB_congr hy
  · cases eR
end Go.Proofs.Ytgmddliidplooab.W
