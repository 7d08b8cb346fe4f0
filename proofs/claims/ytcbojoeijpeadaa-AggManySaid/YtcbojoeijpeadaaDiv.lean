/- Walks: Div64 in full. -/
import Derived.Test.YtcbojoeijpeadaaPvF
import Derived.Test.YtcbojoeijpeadaaWide
import Derived.KernelRfl
set_option linter.unusedSimpArgs false
set_option linter.unusedVariables false
set_option maxRecDepth 100000
namespace Go.Proofs.Ytcbojoeijpeadaa.W
open Go Go.Sy
attribute [local irreducible] bodyK roundK
def prD : FuncId → Option Sy.Spec := addP 88 lzF noP
def kD : List Keep := [.no, .no, .yes, .no, .no, .no, .yes, .yes, .yes, .yes, .yes, .yes, .no, .yes, .yes, .yes, .yes]
def tD (y s a b u d e q r : Int) : List AV := [.any, .any, .int .u64 y, .any, .any, .any, .int .u64 0, .int .u64 0, .int .u64 s, .int .u64 a, .int .u64 b, .int .u64 u, .any, .int .u64 d, .int .u64 e, .int .u64 q, .int .u64 r] ++ padAny 118
def kE : List Keep := [.no, .no, .yes, .no, .no, .no, .yes, .yes, .yes, .yes, .yes, .no, .no, .no, .yes, .yes, .yes, .yes, .yes]
def tE (y s a b e q r u p : Int) : List AV := [.any, .any, .int .u64 y, .any, .any, .any, .int .u64 0, .int .u64 0, .int .u64 s, .int .u64 a, .int .u64 b, .any, .any, .any, .int .u64 e, .int .u64 q, .int .u64 r, .int .u64 u, .int .u64 p] ++ padAny 116
theorem div_r1 (y s a b u d e q r : Int) (F : LoopS) (more : List AV → St → Prop) (kk : KS) : roundK Try.prog prD (addL 2 F noL) 100 73 0 (tD y s a b u d e q r) [] (againK 0 0 kD kD more kk) =
  br (decide (q ≥ (4294967296 : Int)))
    (br (decide (IntKind.u64.wrap (r + a) ≥ (4294967296 : Int)))
      (kk Ex.normal ([.any, .any, AV.int IntKind.u64 y, .any, .any, .any, AV.int IntKind.u64 (0 : Int), AV.int IntKind.u64 (0 : Int), AV.int IntKind.u64 s, AV.int IntKind.u64 a, AV.int IntKind.u64 b, AV.int IntKind.u64 u, .any, AV.int IntKind.u64 d, AV.int IntKind.u64 e, AV.int IntKind.u64 (IntKind.u64.wrap (q - (1 : Int))), AV.int IntKind.u64 (IntKind.u64.wrap (r + a))] ++ padAny 118) [])
      (more ([.any, .any, AV.int IntKind.u64 y, .any, .any, .any, AV.int IntKind.u64 (0 : Int), AV.int IntKind.u64 (0 : Int), AV.int IntKind.u64 s, AV.int IntKind.u64 a, AV.int IntKind.u64 b, AV.int IntKind.u64 u, .any, AV.int IntKind.u64 d, AV.int IntKind.u64 e, AV.int IntKind.u64 (IntKind.u64.wrap (q - (1 : Int))), AV.int IntKind.u64 (IntKind.u64.wrap (r + a))] ++ padAny 118) []))
    (br (decide (IntKind.u64.wrap (q * b) > IntKind.u64.wrap (IntKind.u64.wrap ((4294967296 : Int) * r) + d)))
      (br (decide (IntKind.u64.wrap (r + a) ≥ (4294967296 : Int)))
        (kk Ex.normal ([.any, .any, AV.int IntKind.u64 y, .any, .any, .any, AV.int IntKind.u64 (0 : Int), AV.int IntKind.u64 (0 : Int), AV.int IntKind.u64 s, AV.int IntKind.u64 a, AV.int IntKind.u64 b, AV.int IntKind.u64 u, .any, AV.int IntKind.u64 d, AV.int IntKind.u64 e, AV.int IntKind.u64 (IntKind.u64.wrap (q - (1 : Int))), AV.int IntKind.u64 (IntKind.u64.wrap (r + a))] ++ padAny 118) [])
        (more ([.any, .any, AV.int IntKind.u64 y, .any, .any, .any, AV.int IntKind.u64 (0 : Int), AV.int IntKind.u64 (0 : Int), AV.int IntKind.u64 s, AV.int IntKind.u64 a, AV.int IntKind.u64 b, AV.int IntKind.u64 u, .any, AV.int IntKind.u64 d, AV.int IntKind.u64 e, AV.int IntKind.u64 (IntKind.u64.wrap (q - (1 : Int))), AV.int IntKind.u64 (IntKind.u64.wrap (r + a))] ++ padAny 118) []))
      (kk Ex.normal ([.any, .any, AV.int IntKind.u64 y, .any, .any, .any, AV.int IntKind.u64 (0 : Int), AV.int IntKind.u64 (0 : Int), AV.int IntKind.u64 s, AV.int IntKind.u64 a, AV.int IntKind.u64 b, AV.int IntKind.u64 u, .any, AV.int IntKind.u64 d, AV.int IntKind.u64 e, AV.int IntKind.u64 q, AV.int IntKind.u64 r] ++ padAny 118) [])) := by kernel_rfl
theorem div_r2 (y s a b e q r u p : Int) (more : List AV → St → Prop) (kk : KS) : roundK Try.prog prD noL 100 73 2 (tE y s a b e q r u p) [] (againK 0 2 kE kE more kk) =
  br (decide (p ≥ (4294967296 : Int)))
    (br (decide (IntKind.u64.wrap (r + a) ≥ (4294967296 : Int)))
      (kk Ex.normal ([.any, .any, AV.int IntKind.u64 y, .any, .any, .any, AV.int IntKind.u64 (0 : Int), AV.int IntKind.u64 (0 : Int), AV.int IntKind.u64 s, AV.int IntKind.u64 a, AV.int IntKind.u64 b, .any, .any, .any, AV.int IntKind.u64 e, AV.int IntKind.u64 q, AV.int IntKind.u64 (IntKind.u64.wrap (r + a)), AV.int IntKind.u64 u, AV.int IntKind.u64 (IntKind.u64.wrap (p - (1 : Int)))] ++ padAny 116) [])
      (more ([.any, .any, AV.int IntKind.u64 y, .any, .any, .any, AV.int IntKind.u64 (0 : Int), AV.int IntKind.u64 (0 : Int), AV.int IntKind.u64 s, AV.int IntKind.u64 a, AV.int IntKind.u64 b, .any, .any, .any, AV.int IntKind.u64 e, AV.int IntKind.u64 q, AV.int IntKind.u64 (IntKind.u64.wrap (r + a)), AV.int IntKind.u64 u, AV.int IntKind.u64 (IntKind.u64.wrap (p - (1 : Int)))] ++ padAny 116) []))
    (br (decide (IntKind.u64.wrap (p * b) > IntKind.u64.wrap (IntKind.u64.wrap ((4294967296 : Int) * r) + e)))
      (br (decide (IntKind.u64.wrap (r + a) ≥ (4294967296 : Int)))
        (kk Ex.normal ([.any, .any, AV.int IntKind.u64 y, .any, .any, .any, AV.int IntKind.u64 (0 : Int), AV.int IntKind.u64 (0 : Int), AV.int IntKind.u64 s, AV.int IntKind.u64 a, AV.int IntKind.u64 b, .any, .any, .any, AV.int IntKind.u64 e, AV.int IntKind.u64 q, AV.int IntKind.u64 (IntKind.u64.wrap (r + a)), AV.int IntKind.u64 u, AV.int IntKind.u64 (IntKind.u64.wrap (p - (1 : Int)))] ++ padAny 116) [])
        (more ([.any, .any, AV.int IntKind.u64 y, .any, .any, .any, AV.int IntKind.u64 (0 : Int), AV.int IntKind.u64 (0 : Int), AV.int IntKind.u64 s, AV.int IntKind.u64 a, AV.int IntKind.u64 b, .any, .any, .any, AV.int IntKind.u64 e, AV.int IntKind.u64 q, AV.int IntKind.u64 (IntKind.u64.wrap (r + a)), AV.int IntKind.u64 u, AV.int IntKind.u64 (IntKind.u64.wrap (p - (1 : Int)))] ++ padAny 116) []))
      (kk Ex.normal ([.any, .any, AV.int IntKind.u64 y, .any, .any, .any, AV.int IntKind.u64 (0 : Int), AV.int IntKind.u64 (0 : Int), AV.int IntKind.u64 s, AV.int IntKind.u64 a, AV.int IntKind.u64 b, .any, .any, .any, AV.int IntKind.u64 e, AV.int IntKind.u64 q, AV.int IntKind.u64 r, AV.int IntKind.u64 u, AV.int IntKind.u64 p] ++ padAny 116) [])) := by kernel_rfl
theorem div_mid (y s a b u d e q r : Int) (F G : LoopS) (k : AV → St → Prop) : contB Try.prog prD (addL 0 F (addL 2 (headG 0 kE G) noL)) 100 73 [] [] 0 k .normal (tD y s a b u d e q r) []  =
  br (!decide (a = (0 : Int)))
    (G (([.any, .any, AV.int IntKind.u64 y, .any, .any, .any, AV.int IntKind.u64 (0 : Int), AV.int IntKind.u64 (0 : Int), AV.int IntKind.u64 s, AV.int IntKind.u64 a, AV.int IntKind.u64 b, .any, .any, .any, AV.int IntKind.u64 e, AV.int IntKind.u64 q, AV.int IntKind.u64 (IntKind.u64.wrap (IntKind.u64.wrap (IntKind.u64.wrap (IntKind.u64.wrap (u * (4294967296 : Int)) + d) - IntKind.u64.wrap (q * y)) - IntKind.u64.wrap (IntKind.u64.wrap ((IntKind.u64.wrap (IntKind.u64.wrap (IntKind.u64.wrap (u * (4294967296 : Int)) + d) - IntKind.u64.wrap (q * y))).tdiv a) * a))), AV.int IntKind.u64 (IntKind.u64.wrap (IntKind.u64.wrap (IntKind.u64.wrap (u * (4294967296 : Int)) + d) - IntKind.u64.wrap (q * y))), AV.int IntKind.u64 (IntKind.u64.wrap ((IntKind.u64.wrap (IntKind.u64.wrap (IntKind.u64.wrap (u * (4294967296 : Int)) + d) - IntKind.u64.wrap (q * y))).tdiv a))] ++ padAny 116)) ([]) (contB Try.prog prD (addL 0 F (addL 2 (headG 0 kE G) noL)) 100 73 [] [] 2 k))
    (False) := by kernel_rfl
theorem div_end (y s a b e q r u p : Int) (F G : LoopS) (k : AV → St → Prop) : contB Try.prog prD (addL 0 F (addL 2 G noL)) 100 73 [] [] 2 k .normal (tE y s a b e q r u p) [] =
  br (!decide (s < (0 : Int)))
    (k (AV.tup [AV.int IntKind.u64 (IntKind.u64.wrap (IntKind.u64.wrap (q * (4294967296 : Int)) + p)), AV.int IntKind.u64 ((IntKind.u64.wrap (IntKind.u64.wrap (IntKind.u64.wrap (u * (4294967296 : Int)) + e) - IntKind.u64.wrap (p * y))).fdiv ((2 : Int) ^ min s.toNat (64 : Nat)))]) [])
    (False) := by kernel_rfl
theorem div_body (h l y : Int) (F G : LoopS) (k : AV → St → Prop) : bodyK Try.prog prD (addL 0 (headG 0 kD G) (addL 2 F noL)) 100 73 [] [.int .u64 h, .int .u64 l, .int .u64 y] [] k  =
  br (decide (y = (0 : Int)))
    (False)
    (br (decide (y ≤ h))
      (False)
      (br (decide (h = (0 : Int)))
        (br (!decide (y = (0 : Int)))
          (br (!decide (y = (0 : Int)))
            (k (AV.tup [AV.int IntKind.u64 (IntKind.u64.wrap (l.tdiv y)), AV.int IntKind.u64 (l.tmod y)]) [])
            (False))
          (False))
        (br (inU y)
          (br (!decide (IntKind.u64.wrap (lz y) < (0 : Int)))
            (br (!decide (IntKind.u64.wrap (lz y) < (0 : Int)))
              (br (!decide (IntKind.u64.wrap ((64 : Int) - IntKind.u64.wrap (lz y)) < (0 : Int)))
                (br (!decide (IntKind.u64.wrap (lz y) < (0 : Int)))
                  (br (!decide ((IntKind.u64.wrap (y * (2 : Int) ^ min (IntKind.u64.wrap (lz y)).toNat (64 : Nat))).fdiv (4294967296 : Int) = (0 : Int)))
                    (G (([.any, .any, AV.int IntKind.u64 (IntKind.u64.wrap (y * (2 : Int) ^ min (IntKind.u64.wrap (lz y)).toNat (64 : Nat))), .any, .any, .any, AV.int IntKind.u64 (0 : Int), AV.int IntKind.u64 (0 : Int), AV.int IntKind.u64 (IntKind.u64.wrap (lz y)), AV.int IntKind.u64 ((IntKind.u64.wrap (y * (2 : Int) ^ min (IntKind.u64.wrap (lz y)).toNat (64 : Nat))).fdiv (4294967296 : Int)), AV.int IntKind.u64 (IntKind.u64.wrap (↑(BitVec.ofInt (64 : Nat) (IntKind.u64.wrap (y * (2 : Int) ^ min (IntKind.u64.wrap (lz y)).toNat (64 : Nat))) &&& BitVec.ofInt (64 : Nat) (4294967295 : Int)).toNat : Int)), AV.int IntKind.u64 (IntKind.u64.wrap (↑(BitVec.ofInt (64 : Nat) (IntKind.u64.wrap (h * (2 : Int) ^ min (IntKind.u64.wrap (lz y)).toNat (64 : Nat))) ||| BitVec.ofInt (64 : Nat) (l.fdiv ((2 : Int) ^ min (IntKind.u64.wrap ((64 : Int) - IntKind.u64.wrap (lz y))).toNat (64 : Nat)))).toNat : Int)), .any, AV.int IntKind.u64 ((IntKind.u64.wrap (l * (2 : Int) ^ min (IntKind.u64.wrap (lz y)).toNat (64 : Nat))).fdiv (4294967296 : Int)), AV.int IntKind.u64 (IntKind.u64.wrap (↑(BitVec.ofInt (64 : Nat) (IntKind.u64.wrap (l * (2 : Int) ^ min (IntKind.u64.wrap (lz y)).toNat (64 : Nat))) &&& BitVec.ofInt (64 : Nat) (4294967295 : Int)).toNat : Int)), AV.int IntKind.u64 (IntKind.u64.wrap ((IntKind.u64.wrap (↑(BitVec.ofInt (64 : Nat) (IntKind.u64.wrap (h * (2 : Int) ^ min (IntKind.u64.wrap (lz y)).toNat (64 : Nat))) ||| BitVec.ofInt (64 : Nat) (l.fdiv ((2 : Int) ^ min (IntKind.u64.wrap ((64 : Int) - IntKind.u64.wrap (lz y))).toNat (64 : Nat)))).toNat : Int)).tdiv ((IntKind.u64.wrap (y * (2 : Int) ^ min (IntKind.u64.wrap (lz y)).toNat (64 : Nat))).fdiv (4294967296 : Int)))), AV.int IntKind.u64 (IntKind.u64.wrap (IntKind.u64.wrap (↑(BitVec.ofInt (64 : Nat) (IntKind.u64.wrap (h * (2 : Int) ^ min (IntKind.u64.wrap (lz y)).toNat (64 : Nat))) ||| BitVec.ofInt (64 : Nat) (l.fdiv ((2 : Int) ^ min (IntKind.u64.wrap ((64 : Int) - IntKind.u64.wrap (lz y))).toNat (64 : Nat)))).toNat : Int) - IntKind.u64.wrap (IntKind.u64.wrap ((IntKind.u64.wrap (↑(BitVec.ofInt (64 : Nat) (IntKind.u64.wrap (h * (2 : Int) ^ min (IntKind.u64.wrap (lz y)).toNat (64 : Nat))) ||| BitVec.ofInt (64 : Nat) (l.fdiv ((2 : Int) ^ min (IntKind.u64.wrap ((64 : Int) - IntKind.u64.wrap (lz y))).toNat (64 : Nat)))).toNat : Int)).tdiv ((IntKind.u64.wrap (y * (2 : Int) ^ min (IntKind.u64.wrap (lz y)).toNat (64 : Nat))).fdiv (4294967296 : Int))) * (IntKind.u64.wrap (y * (2 : Int) ^ min (IntKind.u64.wrap (lz y)).toNat (64 : Nat))).fdiv (4294967296 : Int))))] ++ padAny 118)) ([]) (contB Try.prog prD (addL 0 (headG 0 kD G) (addL 2 F noL)) 100 73 [] [] 0 k))
                    (False))
                  (False))
                (False))
              (False))
            (False))
          (False)))) := by kernel_rfl
def MD1 (y s a b u d e : Int) (z : Nat) (t : List AV) (st : St) (k : KS) : Prop := ∃ q r : Int, Dig y a b u d q r ∧ z = q.toNat ∧ t = tD y s a b u d e q r ∧ st = [] ∧ ∀ r' : Int, k .normal (tD y s a b u d e (dig y u d) r') []
theorem div_step1 (y s a b u d e : Int) (F : LoopS) : ∀ z t st k, MD1 y s a b u d e z t st k → roundK Try.prog prD (addL 2 F noL) 100 73 0 t st (againK 0 0 kD kD (fun t' s' => ∃ z', z' < z ∧ MD1 y s a b u d e z' t' s' k) k) := by
  rintro z t st k ⟨q, r, h, rfl, rfl, rfl, hk⟩
  rw [div_r1]
  have go : ∀ ht : (q ≥ 4294967296 ∨ q * b > 4294967296 * r + d), br (decide (IntKind.u64.wrap (r + a) ≥ 4294967296)) (k .normal (tD y s a b u d e (IntKind.u64.wrap (q - 1)) (IntKind.u64.wrap (r + a))) []) (∃ z', z' < q.toNat ∧ MD1 y s a b u d e z' (tD y s a b u d e (IntKind.u64.wrap (q - 1)) (IntKind.u64.wrap (r + a))) [] k) := fun ht => by
    obtain ⟨w1, w2⟩ := h.wraps ht
    rw [w1, w2]
    refine br_iff.2 ⟨fun hr => ?_, fun hr => ⟨(q - 1).toNat, by have := h.down ht; have := h.dig0; omega, q - 1, r + a, h.next ht (by omega), rfl, rfl, rfl, hk⟩⟩
    rw [h.brk ht hr]
    exact hk _
  refine br_iff.2 ⟨fun h1 => go (.inl h1), fun h1 => ?_⟩
  obtain ⟨t1, t2⟩ := h.test (by omega)
  rw [t1, t2]
  refine br_iff.2 ⟨fun h2 => go (.inr h2), fun h2 => ?_⟩
  have := hk r
  rw [← h.stop (by omega) h2] at this
  exact this
def MD2 (y s a b e q u : Int) (z : Nat) (t : List AV) (st : St) (k : KS) : Prop := ∃ p r : Int, Dig y a b u e p r ∧ z = p.toNat ∧ t = tE y s a b e q r u p ∧ st = [] ∧ ∀ r' : Int, k .normal (tE y s a b e q r' u (dig y u e)) []
theorem div_step2 (y s a b e q u : Int) : ∀ z t st k, MD2 y s a b e q u z t st k → roundK Try.prog prD noL 100 73 2 t st (againK 0 2 kE kE (fun t' s' => ∃ z', z' < z ∧ MD2 y s a b e q u z' t' s' k) k) := by
  rintro z t st k ⟨p, r, h, rfl, rfl, rfl, hk⟩
  rw [div_r2]
  have go : ∀ ht : (p ≥ 4294967296 ∨ p * b > 4294967296 * r + e), br (decide (IntKind.u64.wrap (r + a) ≥ 4294967296)) (k .normal (tE y s a b e q (IntKind.u64.wrap (r + a)) u (IntKind.u64.wrap (p - 1))) []) (∃ z', z' < p.toNat ∧ MD2 y s a b e q u z' (tE y s a b e q (IntKind.u64.wrap (r + a)) u (IntKind.u64.wrap (p - 1))) [] k) := fun ht => by
    obtain ⟨w1, w2⟩ := h.wraps ht
    rw [w1, w2]
    refine br_iff.2 ⟨fun hr => ?_, fun hr => ⟨(p - 1).toNat, by have := h.down ht; have := h.dig0; omega, p - 1, r + a, h.next ht (by omega), rfl, rfl, rfl, hk⟩⟩
    rw [h.brk ht hr]
    exact hk _
  refine br_iff.2 ⟨fun h1 => go (.inl h1), fun h1 => ?_⟩
  obtain ⟨t1, t2⟩ := h.test (by omega)
  rw [t1, t2]
  refine br_iff.2 ⟨fun h2 => go (.inr h2), fun h2 => ?_⟩
  have := hk r
  rw [← h.stop (by omega) h2] at this
  exact this
theorem div_comes {pr_ok : PrOk Try.prog prD} (h l y : Int) (hh : 0 ≤ h) (hl : 0 ≤ l ∧ l < 18446744073709551616) (hy : y < 18446744073709551616) (hhy : h < y) :
    Sy.Comes Try.prog 73 [.int .u64 h, .int .u64 l, .int .u64 y] [] (.tup [.int .u64 ((h * 18446744073709551616 + l) / y), .int .u64 ((h * 18446744073709551616 + l) % y)]) [] := by
  have hd : distinctOk Try.prog 73 = true := by kernel_rfl
  obtain ⟨s, e0, s64, n1, n2⟩ := lz_norm (y := y) ⟨by omega, hy⟩
  have hP := pow_pos s
  have hQ := pow_pos (64 - s)
  have hPQ := pow_pair (s := s) (by omega)
  generalize hYe : y * (2 : Int) ^ s = Y at *
  have hsplit := norm_split (l := l) hP hQ hPQ
  have hlq : 0 ≤ l / (2 : Int) ^ (64 - s) := Int.ediv_nonneg hl.1 (Int.le_of_lt hQ)
  have hlq2 : l / (2 : Int) ^ (64 - s) < (2 : Int) ^ s := Int.ediv_lt_of_lt_mul hQ (by rw [hPQ]; exact hl.2)
  have hhP : 0 ≤ h * (2 : Int) ^ s := Int.mul_nonneg hh (Int.le_of_lt hP)
  have hhP2 : (h + 1) * (2 : Int) ^ s ≤ Y := by rw [← hYe]; exact Int.mul_le_mul_of_nonneg_right (by omega) (Int.le_of_lt hP)
  have hhP3 : h * (2 : Int) ^ s + (2 : Int) ^ s ≤ Y := by rw [Int.add_mul, Int.one_mul] at hhP2; exact hhP2
  have hor := norm_or (h := h) (l := l) (s := s) (by omega) hh hl (by omega)
  generalize hu : h * (2 : Int) ^ s + l / (2 : Int) ^ (64 - s) = u at *
  have hu1 : 0 ≤ u ∧ u < Y := by omega
  generalize hL : l * (2 : Int) ^ s % 18446744073709551616 = L at *
  have hL1 : 0 ≤ L ∧ L < 18446744073709551616 := by omega
  have hN : (u * 4294967296 + L / 4294967296) * 4294967296 + L % 4294967296 = (h * 18446744073709551616 + l) * (2 : Int) ^ s := by
    have e : (h * 18446744073709551616 + l) * (2 : Int) ^ s = h * (2 : Int) ^ s * 18446744073709551616 + l * (2 : Int) ^ s := by rw [Int.add_mul, Int.mul_right_comm]
    rw [e]
    omega
  have hdd : 0 ≤ L / 4294967296 ∧ L / 4294967296 < 4294967296 := by omega
  have hee : 0 ≤ L % 4294967296 ∧ L % 4294967296 < 4294967296 := by omega
  obtain ⟨w1, w2, w3⟩ := rest_wrap ⟨n1, n2⟩ hu1 hdd
  obtain ⟨x1, x2, x3⟩ := rest_wrap ⟨n1, n2⟩ ⟨w2, w3⟩ hee
  have hq := dig_bound ⟨n1, n2⟩ hu1 hdd
  have hp := dig_bound ⟨n1, n2⟩ ⟨w2, w3⟩ hee
  obtain ⟨f1, f2⟩ := two_digits (y := Y) (u := u) (d := L / 4294967296) (e := L % 4294967296) (by omega) hee
  have ha : 0 < Y / 4294967296 := by omega
  have v1 := div_le hu1.1 ha
  have v2 := div_le w2 ha
  refine comes_of ok pr_ok (L := 100) (ms := []) hd (loops_add (L := 100) (kh := kD) ok pr_ok hd (loops_add (L := 100) (kh := kE) ok pr_ok hd loops_none (div_step2 Y s (Y / 4294967296) (Y % 4294967296) (L % 4294967296) (dig Y u (L / 4294967296)) (rest Y u (L / 4294967296)))) (div_step1 Y s (Y / 4294967296) (Y % 4294967296) u (L / 4294967296) (L % 4294967296) _)) ?_
  refine Eq.mpr (div_body h l y _ _ _) ?_
  refine br_iff.2 ⟨fun h1 => by omega, fun h1 => br_iff.2 ⟨fun h2 => by omega, fun h2 => br_iff.2 ⟨fun h3 => ?_, fun h3 => ?_⟩⟩⟩
  · subst h3
    refine br_t (by simpa using h1) (br_t (by simpa using h1) ⟨?_, rfl⟩)
    have := div_le hl.1 (a := y) (by omega)
    rw [Int.tdiv_eq_ediv_of_nonneg hl.1, Int.tmod_eq_emod_of_nonneg hl.1, wrapI (by omega), Int.zero_mul, Int.zero_add]
  · have e1 : IntKind.u64.wrap (lz y) = (s : Int) := by rw [e0]; exact wrapI (by omega)
    have e2 : min ((s : Int)).toNat 64 = s := by omega
    have e2' : min ((s : Int)).toNat IntKind.u64.bits = s := e2
    have e3 : IntKind.u64.wrap (64 - (s : Int)) = ((64 - s : Nat) : Int) := by rw [wrapI (by omega)]; omega
    have e4 : min ((((64 - s : Nat)) : Int)).toNat 64 = 64 - s := by omega
    have e5 : IntKind.u64.wrap (y * (2 : Int) ^ s) = Y := by rw [hYe]; exact wrapI (by omega)
    have e6 : IntKind.u64.wrap (h * (2 : Int) ^ s) = h * (2 : Int) ^ s := wrapI (by omega)
    have e7 : IntKind.u64.wrap (l * (2 : Int) ^ s) = L := by rw [IntKind.wrap_u64, hL]
    have e8 : l.fdiv ((2 : Int) ^ (64 - s)) = l / (2 : Int) ^ (64 - s) := Int.fdiv_eq_ediv_of_nonneg _ (Int.le_of_lt hQ)
    have e9 : (2 : Int) ^ min (Int.toNat (32 : Int)) IntKind.u64.bits = 4294967296 := rfl
    have eU : IntKind.u64.wrap u = u := wrapI (by omega)
    have eq : IntKind.u64.wrap (u / (Y / 4294967296)) = u / (Y / 4294967296) := wrapI (by omega)
    have eq2 : IntKind.u64.wrap (u / (Y / 4294967296) * (Y / 4294967296)) = u / (Y / 4294967296) * (Y / 4294967296) := wrapI (by omega)
    have er : IntKind.u64.wrap (u - u / (Y / 4294967296) * (Y / 4294967296)) = u - u / (Y / 4294967296) * (Y / 4294967296) := wrapI (by omega)
    have hy' : inU y = true := inU_iff.2 (by omega)
    simp only [e1, e2, e2', e3, e4, e5, e6, e7, e8, e9, fdiv32, maskI hL1, maskI (x := Y) (by omega), hor, eU, hy', br_true, Int.tdiv_eq_ediv_of_nonneg hu1.1, eq, eq2, er]
    refine br_t (by simp) (br_t (by simp) (br_t (by simp) (br_t (by simp) (br_t (by simp; omega) ?_))))
    refine ⟨_, _, _, dig_first ⟨n1, n2⟩ hu1 hdd, rfl, rfl, rfl, fun r' => ?_⟩
    rw [div_mid]
    refine br_t (by simp; omega) ?_
    have eR : IntKind.u64.wrap (rest Y u (L / 4294967296) / (Y / 4294967296)) = rest Y u (L / 4294967296) / (Y / 4294967296) := wrapI (by omega)
    have eR2 : IntKind.u64.wrap (rest Y u (L / 4294967296) / (Y / 4294967296) * (Y / 4294967296)) = rest Y u (L / 4294967296) / (Y / 4294967296) * (Y / 4294967296) := wrapI (by omega)
    have eR3 : IntKind.u64.wrap (rest Y u (L / 4294967296) - rest Y u (L / 4294967296) / (Y / 4294967296) * (Y / 4294967296)) = rest Y u (L / 4294967296) - rest Y u (L / 4294967296) / (Y / 4294967296) * (Y / 4294967296) := wrapI (by omega)
    simp only [w1, Int.tdiv_eq_ediv_of_nonneg w2, eR, eR2, eR3]
    refine ⟨_, _, _, dig_first ⟨n1, n2⟩ ⟨w2, w3⟩ hee, rfl, rfl, rfl, fun r'' => ?_⟩
    rw [div_end]
    refine br_t (by simp) ⟨?_, rfl⟩
    rw [x1, f2, hN, show min ((s : Int)).toNat 64 = s from e2]
    have g1 : IntKind.u64.wrap (dig Y u (L / 4294967296) * 4294967296) = dig Y u (L / 4294967296) * 4294967296 := wrapI (by omega)
    rw [g1, wrapI (by omega), f1, hN, ← hYe, Int.mul_ediv_mul_of_pos_left _ _ hP, emod_mul hP, Int.fdiv_eq_ediv_of_nonneg _ (Int.le_of_lt hP), Int.mul_ediv_cancel _ (by omega)]
theorem div_ok (pr_ok : PrOk Try.prog prD) : SpecOk Try.prog 73 divF.f := specOk_comes fun args s v s' tch e => by
  simp only [divF] at e
  split at e
  · obtain ⟨hg, rfl, rfl, rfl⟩ := run_ok e
    simp only [Bool.and_eq_true, decide_eq_true_eq, inU_iff] at hg
    exact div_comes (pr_ok := pr_ok) _ _ _ hg.1.1 hg.2.1 hg.2.2.1.2 hg.2.2.2
  · cases e
theorem len_body (x : Int) (k : AV → St → Prop) : bodyK Try.prog noP noL 100 93 [] [.int .u64 x] [] k =
  br (decide (x ≥ (4294967296 : Int)))
    (br (decide (x.fdiv (4294967296 : Int) ≥ (65536 : Int)))
      (br (decide ((x.fdiv (4294967296 : Int)).fdiv (65536 : Int) ≥ (256 : Int)))
        (br (decide ((0 : Int) ≤ IntKind.u8.wrap (((x.fdiv (4294967296 : Int)).fdiv (65536 : Int)).fdiv (256 : Int))) && decide (IntKind.u8.wrap (((x.fdiv (4294967296 : Int)).fdiv (65536 : Int)).fdiv (256 : Int)) < (256 : Int)))
          (k (AV.int IntKind.i64 (IntKind.i64.wrap ((56 : Int) + IntKind.i64.wrap (↑(lenTab.getD (IntKind.u8.wrap (((x.fdiv (4294967296 : Int)).fdiv (65536 : Int)).fdiv (256 : Int))).toNat (0 : UInt8)).toNat : Int)))) [])
          (False))
        (br (decide ((0 : Int) ≤ IntKind.u8.wrap ((x.fdiv (4294967296 : Int)).fdiv (65536 : Int))) && decide (IntKind.u8.wrap ((x.fdiv (4294967296 : Int)).fdiv (65536 : Int)) < (256 : Int)))
          (k (AV.int IntKind.i64 (IntKind.i64.wrap ((48 : Int) + IntKind.i64.wrap (↑(lenTab.getD (IntKind.u8.wrap ((x.fdiv (4294967296 : Int)).fdiv (65536 : Int))).toNat (0 : UInt8)).toNat : Int)))) [])
          (False)))
      (br (decide (x.fdiv (4294967296 : Int) ≥ (256 : Int)))
        (br (decide ((0 : Int) ≤ IntKind.u8.wrap ((x.fdiv (4294967296 : Int)).fdiv (256 : Int))) && decide (IntKind.u8.wrap ((x.fdiv (4294967296 : Int)).fdiv (256 : Int)) < (256 : Int)))
          (k (AV.int IntKind.i64 (IntKind.i64.wrap ((40 : Int) + IntKind.i64.wrap (↑(lenTab.getD (IntKind.u8.wrap ((x.fdiv (4294967296 : Int)).fdiv (256 : Int))).toNat (0 : UInt8)).toNat : Int)))) [])
          (False))
        (br (decide ((0 : Int) ≤ IntKind.u8.wrap (x.fdiv (4294967296 : Int))) && decide (IntKind.u8.wrap (x.fdiv (4294967296 : Int)) < (256 : Int)))
          (k (AV.int IntKind.i64 (IntKind.i64.wrap ((32 : Int) + IntKind.i64.wrap (↑(lenTab.getD (IntKind.u8.wrap (x.fdiv (4294967296 : Int))).toNat (0 : UInt8)).toNat : Int)))) [])
          (False))))
    (br (decide (x ≥ (65536 : Int)))
      (br (decide (x.fdiv (65536 : Int) ≥ (256 : Int)))
        (br (decide ((0 : Int) ≤ IntKind.u8.wrap ((x.fdiv (65536 : Int)).fdiv (256 : Int))) && decide (IntKind.u8.wrap ((x.fdiv (65536 : Int)).fdiv (256 : Int)) < (256 : Int)))
          (k (AV.int IntKind.i64 (IntKind.i64.wrap ((24 : Int) + IntKind.i64.wrap (↑(lenTab.getD (IntKind.u8.wrap ((x.fdiv (65536 : Int)).fdiv (256 : Int))).toNat (0 : UInt8)).toNat : Int)))) [])
          (False))
        (br (decide ((0 : Int) ≤ IntKind.u8.wrap (x.fdiv (65536 : Int))) && decide (IntKind.u8.wrap (x.fdiv (65536 : Int)) < (256 : Int)))
          (k (AV.int IntKind.i64 (IntKind.i64.wrap ((16 : Int) + IntKind.i64.wrap (↑(lenTab.getD (IntKind.u8.wrap (x.fdiv (65536 : Int))).toNat (0 : UInt8)).toNat : Int)))) [])
          (False)))
      (br (decide (x ≥ (256 : Int)))
        (br (decide ((0 : Int) ≤ IntKind.u8.wrap (x.fdiv (256 : Int))) && decide (IntKind.u8.wrap (x.fdiv (256 : Int)) < (256 : Int)))
          (k (AV.int IntKind.i64 (IntKind.i64.wrap ((8 : Int) + IntKind.i64.wrap (↑(lenTab.getD (IntKind.u8.wrap (x.fdiv (256 : Int))).toNat (0 : UInt8)).toNat : Int)))) [])
          (False))
        (br (decide ((0 : Int) ≤ IntKind.u8.wrap x) && decide (IntKind.u8.wrap x < (256 : Int)))
          (k (AV.int IntKind.i64 (IntKind.i64.wrap ((0 : Int) + IntKind.i64.wrap (↑(lenTab.getD (IntKind.u8.wrap x).toNat (0 : UInt8)).toNat : Int)))) [])
          (False)))) := by kernel_rfl
theorem fd (x : Int) (k : Nat) (v : Int) (h : (2 : Int) ^ k = v) (hv : 0 ≤ v) : x.fdiv ((2 : Int) ^ k) = x / v := by rw [h, Int.fdiv_eq_ediv_of_nonneg _ hv]
theorem len_ok : SpecOk Try.prog 93 lenF.f := specOk_comes fun args s v s' tch e => by
  simp only [lenF] at e
  split at e
  · rename_i x
    obtain ⟨hg, rfl, rfl, rfl⟩ := run_ok e
    have hx := inU_iff.1 hg
    refine comes_of ok prOk_none (L := 100) (ms := []) (by kernel_rfl) loops_none ?_
    rw [len_body]
    have p32 : (2 : Int) ^ min (Int.toNat (32 : Int)) IntKind.u64.bits = 4294967296 := rfl
    have p16 : (2 : Int) ^ min (Int.toNat (16 : Int)) IntKind.u64.bits = 65536 := rfl
    have p8 : (2 : Int) ^ min (Int.toNat (8 : Int)) IntKind.u64.bits = 256 := rfl
    have f32 : ∀ x : Int, x.fdiv 4294967296 = x / 4294967296 := fdiv32
    have f16 : ∀ x : Int, x.fdiv 65536 = x / 65536 := fun x => Int.fdiv_eq_ediv_of_nonneg _ (by decide)
    have f8 : ∀ x : Int, x.fdiv 256 = x / 256 := fun x => Int.fdiv_eq_ediv_of_nonneg _ (by decide)
    simp only [p32, p16, p8, f32, f16, f8]
    refine br_iff.2 ⟨fun h1 => br_iff.2 ⟨fun h2 => br_iff.2 ⟨fun h3 => ?_, fun h3 => ?_⟩, fun h2 => br_iff.2 ⟨fun h3 => ?_, fun h3 => ?_⟩⟩, fun h1 => br_iff.2 ⟨fun h2 => br_iff.2 ⟨fun h3 => ?_, fun h3 => ?_⟩, fun h2 => br_iff.2 ⟨fun h3 => ?_, fun h3 => ?_⟩⟩⟩
    · rw [show bl x = 56 + bl (x / 4294967296 / 65536 / 256) by rw [bl32 h1, bl16 h2, bl8 h3]; omega]
      refine len_leaf ?_ ?_ <;> omega
    · rw [show bl x = 48 + bl (x / 4294967296 / 65536) by rw [bl32 h1, bl16 h2]; omega]
      refine len_leaf ?_ ?_ <;> omega
    · rw [show bl x = 40 + bl (x / 4294967296 / 256) by rw [bl32 h1, bl8 h3]; omega]
      refine len_leaf ?_ ?_ <;> omega
    · rw [bl32 h1]
      refine len_leaf ?_ ?_ <;> omega
    · rw [show bl x = 24 + bl (x / 65536 / 256) by rw [bl16 h2, bl8 h3]; omega]
      refine len_leaf ?_ ?_ <;> omega
    · rw [bl16 h2]
      refine len_leaf ?_ ?_ <;> omega
    · rw [bl8 h3]
      refine len_leaf ?_ ?_ <;> omega
    · rw [show bl x = 0 + bl x by omega]
      refine len_leaf ?_ ?_ <;> omega
  · cases e
def prL : FuncId → Option Sy.Spec := addP 93 lenF noP
theorem prL_ok : PrOk Try.prog prL := prOk_add len_ok prOk_none
theorem lz_body (x : Int) (k : AV → St → Prop) : bodyK Try.prog prL noL 100 88 [] [.int .u64 x] [] k =
  br (inU x)
    (k (AV.int IntKind.i64 (IntKind.i64.wrap ((64 : Int) - bl x))) [])
    (False) := by kernel_rfl
theorem lz_ok : SpecOk Try.prog 88 lzF.f := specOk_comes fun args s v s' tch e => by
  simp only [lzF] at e
  split at e
  · rename_i x
    obtain ⟨hg, rfl, rfl, rfl⟩ := run_ok e
    have hb := bl_le (inU_iff.1 hg)
    refine comes_of ok prL_ok (L := 100) (ms := []) (by kernel_rfl) loops_none ?_
    rw [lz_body]
    refine br_t hg ⟨?_, rfl⟩
    rw [lz_bl, wrap64 (by omega) (by omega)]
  · cases e
theorem prD_ok : PrOk Try.prog prD := prOk_add lz_ok prOk_none
theorem div64_ok : SpecOk Try.prog 73 divF.f := div_ok prD_ok
end Go.Proofs.Ytcbojoeijpeadaa.W
