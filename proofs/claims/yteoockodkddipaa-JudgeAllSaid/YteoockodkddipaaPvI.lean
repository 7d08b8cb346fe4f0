/- Plain: great numbers, the same by the program and by the reference. -/
import Derived.Test.YteoockodkddipaaPvH
set_option linter.unusedSimpArgs false
set_option linter.unusedVariables false
namespace Go.Sy
open Go
/-- Just that number? -/
def sameF : Spec := ⟨[], fun args s => match args, s with
  | [.agg [.int .i64 x, .int .u64 y], .agg [.int .u32 a, .int .u32 b, .int .u32 c, .int .u32 d, .int .u32 e, .int .u32 f, .int .u32 g, .int .u32 h]], [] => .ok (inW x y && inB a b c d e f g h) (.bool (decide (x = wH (bV a b c d e f g h)) && decide (y = wL (bV a b c d e f g h)))) [] []
  | _, _ => .fail⟩
def cW (x : Int) : Ent := .cells [.int .i64 (wH x), .int .u64 (wL x)]
theorem cW_zero : cW 0 = .cells [.int .i64 0, .int .u64 0] := by simp [cW, wH, wL, w128]
/- ### alike modulo 2^128 -/
theorem w128_congr {x y : Int} (h : x % M128 = y % M128) : w128 x = w128 y := by
  rw [← w128_mod x, ← w128_mod y, h]
theorem cg_n (x : Int) : nrm x % M128 = x % M128 := by rw [nrm_eq, Int.emod_emod_of_dvd _ (Int.dvd_refl _)]
theorem cg_add {a b c d : Int} (h : a % M128 = b % M128) (h' : c % M128 = d % M128) : (w128 a + w128 c) % M128 = (nrm b + nrm d) % M128 := by
  simp only [nrm_eq, w128, M128] at *; omega
theorem cg_neg {a b : Int} (h : a % M128 = b % M128) : (-w128 a) % M128 = (-nrm b) % M128 := by
  simp only [nrm_eq, w128, M128] at *; omega
theorem cg_mul {a b : Int} (u : Int) (h : a % M128 = b % M128) : (w128 a * u) % M128 = (nrm b * u) % M128 := by
  rw [Int.mul_emod, w128_mod', h, ← cg_n b, ← Int.mul_emod]
theorem same_t {E F : Int} (h : E % M128 = F % M128) : (decide (wH E = wH (nrm F)) && decide (wL E = wL (nrm F))) = true := by
  have : w128 (nrm F) = w128 E := by rw [w128_congr (cg_n F), w128_congr h]
  simp [wH, wL, this]
theorem br_same {E F : Int} {X Y : Prop} (h : E % M128 = F % M128) (hy : Y) : br (!(decide (wH E = wH (nrm F)) && decide (wL E = wL (nrm F)))) X Y := by
  rw [same_t h]; exact hy
end Go.Sy
