/- Walks: WideLaws. -/
import Derived.Test.YtgmddliidplooabPvE
import Derived.Test.YtgmddliidplooabWideB
import Derived.KernelRfl
set_option linter.unusedSimpArgs false
set_option linter.unusedVariables false
set_option maxRecDepth 100000
namespace Go.Proofs.Ytgmddliidplooab.W
open Go Go.Sy
attribute [local irreducible] bodyK roundK
def kL : List Keep := [.yes, .no, .no, .yes, .no, .no, .no, .no, .yes, .no, .yes, .no, .no, .yes, .yes]
def tL (a n : Int) (i : Nat) : List AV := [.int .i64 a, .any, .any, .int .i64 n, .any, .any, .any, .any, .bool false, .any, .ptr (some (0, 0)), .any, .any, .ptr (some (1, 0)), .int .i64 (i : Int)] ++ padAny 62
def sL (a x : Int) : St := [.cells [.int .i64 (wH a), .int .u64 (wL a)], .cells [.int .i64 (wH x), .int .u64 (wL x)]]
theorem wlaws_round (a n x : Int) (i : Nat) (more : List AV → St → Prop) (kk : KS) : roundK Try.prog prS noL 100 4 0 (tL a n i) (sL a x) (againK 0 0 kL kL more kk) =
  br (decide ((↑i : Int) < n))
    (br (inW (wH x) (wL x) && inW (wH a) (wL a))
      (more ([AV.int IntKind.i64 a, .any, .any, AV.int IntKind.i64 n, .any, .any, .any, .any, AV.bool false, .any, AV.ptr (some ((0 : Nat), (0 : Nat))), .any, .any, AV.ptr (some ((1 : Nat), (0 : Nat))), AV.int IntKind.i64 (IntKind.i64.wrap ((↑i : Int) + (1 : Int)))] ++ padAny 62) [Ent.cells [AV.int IntKind.i64 (wH a), AV.int IntKind.u64 (wL a)], Ent.cells [AV.int IntKind.i64 (wH (wV (wH x) (wL x) + wV (wH a) (wL a))), AV.int IntKind.u64 (wL (wV (wH x) (wL x) + wV (wH a) (wL a)))]])
      (False))
    (kk Ex.normal ([AV.int IntKind.i64 a, .any, .any, AV.int IntKind.i64 n, .any, .any, .any, .any, AV.bool false, .any, AV.ptr (some ((0 : Nat), (0 : Nat))), .any, .any, AV.ptr (some ((1 : Nat), (0 : Nat))), AV.int IntKind.i64 (↑i : Int)] ++ padAny 62) [Ent.cells [AV.int IntKind.i64 (wH a), AV.int IntKind.u64 (wL a)], Ent.cells [AV.int IntKind.i64 (wH x), AV.int IntKind.u64 (wL x)]]) := by kernel_rfl
theorem wlaws_body (a b c n : Int) (G : LoopS) (k : AV → St → Prop) : bodyK Try.prog prS (addL 0 (headG 0 kL G) noL) 100 4 [] [.int .i64 a, .int .i64 b, .int .i64 c, .int .i64 n] [] k  =
  br (inI a)
    (br (inI b)
      (br (inI c)
        (br (inW (wH a) (wL a) && inW (wH b) (wL b))
          (br (inW (wH (wV (wH a) (wL a) + wV (wH b) (wL b))) (wL (wV (wH a) (wL a) + wV (wH b) (wL b))) && inW (wH c) (wL c))
            (br (inW (wH b) (wL b) && inW (wH a) (wL a))
              (br (inW (wH c) (wL c) && inW (wH (wV (wH b) (wL b) + wV (wH a) (wL a))) (wL (wV (wH b) (wL b) + wV (wH a) (wL a))))
                (br (inW (wH (wV (wH (wV (wH a) (wL a) + wV (wH b) (wL b))) (wL (wV (wH a) (wL a) + wV (wH b) (wL b))) + wV (wH c) (wL c))) (wL (wV (wH (wV (wH a) (wL a) + wV (wH b) (wL b))) (wL (wV (wH a) (wL a) + wV (wH b) (wL b))) + wV (wH c) (wL c))) && inW (wH (wV (wH c) (wL c) + wV (wH (wV (wH b) (wL b) + wV (wH a) (wL a))) (wL (wV (wH b) (wL b) + wV (wH a) (wL a))))) (wL (wV (wH c) (wL c) + wV (wH (wV (wH b) (wL b) + wV (wH a) (wL a))) (wL (wV (wH b) (wL b) + wV (wH a) (wL a))))))
                  (br (!decide (sgn (wV (wH (wV (wH (wV (wH a) (wL a) + wV (wH b) (wL b))) (wL (wV (wH a) (wL a) + wV (wH b) (wL b))) + wV (wH c) (wL c))) (wL (wV (wH (wV (wH a) (wL a) + wV (wH b) (wL b))) (wL (wV (wH a) (wL a) + wV (wH b) (wL b))) + wV (wH c) (wL c)))) (wV (wH (wV (wH c) (wL c) + wV (wH (wV (wH b) (wL b) + wV (wH a) (wL a))) (wL (wV (wH b) (wL b) + wV (wH a) (wL a))))) (wL (wV (wH c) (wL c) + wV (wH (wV (wH b) (wL b) + wV (wH a) (wL a))) (wL (wV (wH b) (wL b) + wV (wH a) (wL a)))))) = (0 : Int)))
                    (k (AV.bool false) [])
                    (br (inW (wH a) (wL a) && inW (wH b) (wL b))
                      (br (inW (wH b) (wL b))
                        (br (inW (wH (wV (wH a) (wL a) + wV (wH b) (wL b))) (wL (wV (wH a) (wL a) + wV (wH b) (wL b))) && inW (wH (-wV (wH b) (wL b))) (wL (-wV (wH b) (wL b))))
                          (br (inW (wH (wV (wH (wV (wH a) (wL a) + wV (wH b) (wL b))) (wL (wV (wH a) (wL a) + wV (wH b) (wL b))) + wV (wH (-wV (wH b) (wL b))) (wL (-wV (wH b) (wL b))))) (wL (wV (wH (wV (wH a) (wL a) + wV (wH b) (wL b))) (wL (wV (wH a) (wL a) + wV (wH b) (wL b))) + wV (wH (-wV (wH b) (wL b))) (wL (-wV (wH b) (wL b))))) && inW (wH a) (wL a))
                            (br (!decide (sgn (wV (wH (wV (wH (wV (wH a) (wL a) + wV (wH b) (wL b))) (wL (wV (wH a) (wL a) + wV (wH b) (wL b))) + wV (wH (-wV (wH b) (wL b))) (wL (-wV (wH b) (wL b))))) (wL (wV (wH (wV (wH a) (wL a) + wV (wH b) (wL b))) (wL (wV (wH a) (wL a) + wV (wH b) (wL b))) + wV (wH (-wV (wH b) (wL b))) (wL (-wV (wH b) (wL b)))))) (wV (wH a) (wL a)) = (0 : Int)))
                              (k (AV.bool false) [])
                              (br (decide (n < (0 : Int)))
                                (k (AV.bool true) [])
                                (br (decide (n > (50 : Int)))
                                  (k (AV.bool true) [])
                                  (G (([AV.int IntKind.i64 a, .any, .any, AV.int IntKind.i64 n, .any, .any, .any, .any, AV.bool false, .any, AV.ptr (some ((0 : Nat), (0 : Nat))), .any, .any, AV.ptr (some ((0 : Nat) + (1 : Nat), (0 : Nat))), AV.int IntKind.i64 (0 : Int)] ++ padAny 62)) ([Ent.cells [AV.int IntKind.i64 (wH a), AV.int IntKind.u64 (wL a)], Ent.cells [AV.int IntKind.i64 (0 : Int), AV.int IntKind.u64 (0 : Int)]]) (contB Try.prog prS (addL 0 (headG 0 kL G) noL) 100 4 [] [] 0 k)))))
                            (False))
                          (False))
                        (False))
                      (False)))
                  (False))
                (False))
              (False))
            (False))
          (False))
        (False))
      (False))
    (False) := by kernel_rfl
theorem wlaws_end (a n x : Int) (i : Nat) (F : LoopS) (k : AV → St → Prop) : contB Try.prog prS (addL 0 F noL) 100 4 [] [] 0 k .normal (tL a n i) (sL a x) =
  br (inW (wH a) (wL a) && inI n)
    (br (inW (wH x) (wL x) && inW (wH (wV (wH a) (wL a) * n)) (wL (wV (wH a) (wL a) * n)))
      (br (decide (sgn (wV (wH x) (wL x)) (wV (wH (wV (wH a) (wL a) * n)) (wL (wV (wH a) (wL a) * n))) = (0 : Int)))
        (br (inW (wH x) (wL x))
          (br (inW (wH a) (wL a) && inI (IntKind.i64.wrap ((0 : Int) - n)))
            (br (inW (wH (-wV (wH x) (wL x))) (wL (-wV (wH x) (wL x))) && inW (wH (wV (wH a) (wL a) * IntKind.i64.wrap ((0 : Int) - n))) (wL (wV (wH a) (wL a) * IntKind.i64.wrap ((0 : Int) - n))))
              (k (AV.bool (decide (sgn (wV (wH (-wV (wH x) (wL x))) (wL (-wV (wH x) (wL x)))) (wV (wH (wV (wH a) (wL a) * IntKind.i64.wrap ((0 : Int) - n))) (wL (wV (wH a) (wL a) * IntKind.i64.wrap ((0 : Int) - n)))) = (0 : Int)))) [])
              (False))
            (False))
          (False))
        (k (AV.bool false) []))
      (False))
    (False) := by kernel_rfl
def ML (a n : Int) (z : Nat) (t : List AV) (s : St) (k : KS) : Prop := ∃ i : Nat, z + i = n.toNat ∧ t = tL a n i ∧ s = sL a (a * (i : Int)) ∧ ∀ j : Nat, k .normal (tL a n j) (sL a (a * n))
theorem wlaws_step (a n : Int) (ha : inI a = true) (hn0 : 0 ≤ n) (hn : n ≤ 50) : ∀ z t s k, ML a n z t s k → roundK Try.prog prS noL 100 4 0 t s (againK 0 0 kL kL (fun t' s' => ∃ z', z' < z ∧ ML a n z' t' s' k) k) := by
  rintro z t s k ⟨i, hz, rfl, rfl, hk⟩
  rw [wlaws_round]
  refine br_iff.2 ⟨fun h1 => br_t (by rw [inW_HL, inW_HL]; rfl) ⟨n.toNat - (i + 1), by omega, i + 1, by omega, ?_, ?_, hk⟩, fun h1 => ?_⟩
  · rw [wrap64 (by omega) (by omega)]; rfl
  · have e : a * ((i + 1 : Nat) : Int) = a * (i : Int) + a := by rw [Int.natCast_add, Int.mul_add]; simp
    rw [wV_id ha, wV_HL, wH_add, wL_add, ← e]
    rfl
  · have : (i : Int) = n := by omega
    have h := hk i
    rw [← this] at h ⊢
    exact h
theorem wlaws_comes (a b c n : Int) (ha : inI a = true) (hb : inI b = true) (hc : inI c = true) (hn : inI n = true) : Sy.Comes Try.prog 4 [.int .i64 a, .int .i64 b, .int .i64 c, .int .i64 n] [] (.bool true) [] := by
  have hd : distinctOk Try.prog 4 = true := by kernel_rfl
  have e1 : ∀ x : Int, decide (sgn x x = 0) = true := fun x => by rw [sgn_eq rfl]; rfl
  have e2 : w128 (w128 (a + b) + c) = w128 (c + w128 (b + a)) := by rw [w_add, w_add']; congr 1; omega
  have e3 : w128 (w128 (a + b) + w128 (-b)) = a := by rw [w_add, w_add', show a + b + -b = a by omega, w_id ha]
  by_cases hnn : n < 0 ∨ n > 50
  · refine comes_of ok prS_ok (L := 100) (ms := []) hd (loops_add (L := 100) (kh := kL) (M := ML a 0) ok prS_ok hd loops_none (wlaws_step a 0 ha (by omega) (by omega))) ?_
    refine Eq.mpr (wlaws_body a b c n _ _) ?_
    simp only [wV_id ha, wV_id hb, wV_id hc, inW_HL, ha, hb, hc, wV_HL, Bool.and_self, br_true, e2, e3, e1, Bool.not_true, br_false]
    refine br_iff.2 ⟨fun _ => ⟨trivial, trivial⟩, fun h1 => br_iff.2 ⟨fun _ => ⟨trivial, trivial⟩, fun h2 => by omega⟩⟩
  · refine comes_of ok prS_ok (L := 100) (ms := []) hd (loops_add (L := 100) (kh := kL) ok prS_ok hd loops_none (wlaws_step a n ha (by omega) (by omega))) ?_
    refine Eq.mpr (wlaws_body a b c n _ _) ?_
    simp only [wV_id ha, wV_id hb, wV_id hc, inW_HL, ha, hb, hc, wV_HL, Bool.and_self, br_true, e2, e3, e1, Bool.not_true, br_false]
    refine br_iff.2 ⟨fun _ => ⟨trivial, trivial⟩, fun h1 => br_iff.2 ⟨fun _ => ⟨trivial, trivial⟩, fun h2 => ⟨n.toNat, 0, by omega, rfl, ?_, fun j => ?_⟩⟩⟩
    · simp only [sL, Int.natCast_zero, Int.mul_zero]
      rfl
    · rw [wlaws_end]
      have hw : IntKind.i64.wrap (0 - n) = -n := by rw [wrap64 (by omega) (by omega)]; omega
      simp only [wV_id ha, inW_HL, ha, hn, wV_HL, Bool.and_self, br_true, e1, hw, Int.mul_neg, w_neg]
      have hn' : inI (-n) = true := inI_iff.2 (by omega)
      simp only [hn', br_true, e1]
      exact ⟨trivial, trivial⟩
end Go.Proofs.Ytgmddliidplooab.W
