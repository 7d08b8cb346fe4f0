/- Walks: DictMany. -/
import Derived.Test.YtkfdfenaaidkkaaDictN
import Derived.Test.YtkfdfenaaidkkaaPvM
import Derived.KernelRfl
set_option linter.unusedSimpArgs false
set_option linter.unusedVariables false
set_option maxRecDepth 100000
namespace Go.Proofs.Ytkfdfenaaidkkaa
open Go Go.Sy
attribute [local irreducible] bodyK roundK
def kM1 : List Keep := [.yes, .yes, .yes, .no, .no, .no, .no, .no, .yes, .yes]
def tM1 (w : List UInt8) (n k : Int) (i : Nat) : List AV := [.str w, .int .i64 n, .int .i64 k, .any, .any, .any, .any, .any, .ptr (some (0, 0)), .int .i64 (i : Int)] ++ padAny 57
theorem many_r0 (w : List UInt8) (n k : Int) (i : Nat) (more : List AV → St → Prop) (kk : KS) : roundK Try.prog prG noL 100 6 0 (tM1 w n k i) a0S (againK 0 0 kM1 kM1 more kk) =
  br (decide ((↑i : Int) < n))
    (br (!true == decide ((↑i : Int) = (0 : Int)))
      (kk Ex.ret ([AV.str w, AV.int IntKind.i64 n, AV.int IntKind.i64 k, .any, .any, .any, .any, .any, AV.ptr (some ((0 : Nat), (0 : Nat))), AV.int IntKind.i64 (↑i : Int)] ++ padAny 57) [Ent.cells [AV.ptr (some ((0 : Nat) + (1 : Nat), (0 : Nat)))], Ent.cells [AV.fn (Fn.func (43 : Nat)) [] [], AV.tsl true (Sh.struct [Sh.str, Sh.int IntKind.i64]) ((0 : Nat) + (1 : Nat) + (1 : Nat)) (0 : Nat) (1 : Nat) Cap.tight], Ent.tbl false (Sh.struct [Sh.str, Sh.int IntKind.i64]) (insK [] (0 : Nat) w (1 : Int))])
      (more ([AV.str w, AV.int IntKind.i64 n, AV.int IntKind.i64 k, .any, .any, .any, .any, .any, AV.ptr (some ((0 : Nat), (0 : Nat))), AV.int IntKind.i64 (IntKind.i64.wrap ((↑i : Int) + (1 : Int)))] ++ padAny 57) [Ent.cells [AV.ptr (some ((0 : Nat) + (1 : Nat), (0 : Nat)))], Ent.cells [AV.fn (Fn.func (43 : Nat)) [] [], AV.tsl true (Sh.struct [Sh.str, Sh.int IntKind.i64]) ((0 : Nat) + (1 : Nat) + (1 : Nat)) (0 : Nat) (1 : Nat) Cap.tight], Ent.tbl false (Sh.struct [Sh.str, Sh.int IntKind.i64]) (insK [] (0 : Nat) w (1 : Int))]))
    (kk Ex.normal ([AV.str w, AV.int IntKind.i64 n, AV.int IntKind.i64 k, .any, .any, .any, .any, .any, AV.ptr (some ((0 : Nat), (0 : Nat))), AV.int IntKind.i64 (↑i : Int)] ++ padAny 57) [Ent.cells [AV.ptr none]]) := by kernel_rfl
theorem many_r1 (w : List UInt8) (n k : Int) (i : Nat) (l : List D) (nn : Bool) (c : Nat) (more : List AV → St → Prop) (kk : KS) : roundK Try.prog prG noL 100 6 0 (tM1 w n k i) (a1S 43 l nn c) (againK 0 0 kM1 kM1 more kk) =
  br (decide ((↑i : Int) < n))
    (br (hasB l w)
      (br (okM (Sh.struct [Sh.str, Sh.int IntKind.i64]) (Sh.struct [Sh.str, Sh.int IntKind.i64]) l c)
        (br (!false == decide ((↑i : Int) = (0 : Int)))
          (kk Ex.ret ([AV.str w, AV.int IntKind.i64 n, AV.int IntKind.i64 k, .any, .any, .any, .any, .any, AV.ptr (some ((0 : Nat), (0 : Nat))), AV.int IntKind.i64 (↑i : Int)] ++ padAny 57) [Ent.cells [AV.ptr (some ((0 : Nat) + (1 : Nat), (0 : Nat)))], Ent.cells [AV.fn (Fn.func (43 : Nat)) [] [], AV.tsl nn (Sh.struct [Sh.str, Sh.int IntKind.i64]) ((0 : Nat) + (1 : Nat) + (1 : Nat)) (0 : Nat) c Cap.tight], Ent.tbl false (Sh.struct [Sh.str, Sh.int IntKind.i64]) (setK l (bs l w) (IntKind.i64.wrap (getK l w + (1 : Int))))])
          (more ([AV.str w, AV.int IntKind.i64 n, AV.int IntKind.i64 k, .any, .any, .any, .any, .any, AV.ptr (some ((0 : Nat), (0 : Nat))), AV.int IntKind.i64 (IntKind.i64.wrap ((↑i : Int) + (1 : Int)))] ++ padAny 57) [Ent.cells [AV.ptr (some ((0 : Nat) + (1 : Nat), (0 : Nat)))], Ent.cells [AV.fn (Fn.func (43 : Nat)) [] [], AV.tsl nn (Sh.struct [Sh.str, Sh.int IntKind.i64]) ((0 : Nat) + (1 : Nat) + (1 : Nat)) (0 : Nat) c Cap.tight], Ent.tbl false (Sh.struct [Sh.str, Sh.int IntKind.i64]) (setK l (bs l w) (IntKind.i64.wrap (getK l w + (1 : Int))))]))
        (False))
      (br (okM (Sh.struct [Sh.str, Sh.int IntKind.i64]) (Sh.struct [Sh.str, Sh.int IntKind.i64]) l c)
        (br (!true == decide ((↑i : Int) = (0 : Int)))
          (kk Ex.ret ([AV.str w, AV.int IntKind.i64 n, AV.int IntKind.i64 k, .any, .any, .any, .any, .any, AV.ptr (some ((0 : Nat), (0 : Nat))), AV.int IntKind.i64 (↑i : Int)] ++ padAny 57) [Ent.cells [AV.ptr (some ((0 : Nat) + (1 : Nat), (0 : Nat)))], Ent.cells [AV.fn (Fn.func (43 : Nat)) [] [], AV.tsl true (Sh.struct [Sh.str, Sh.int IntKind.i64]) ((0 : Nat) + (1 : Nat) + (1 : Nat)) (0 : Nat) (c + (1 : Nat)) Cap.tight], Ent.tbl false (Sh.struct [Sh.str, Sh.int IntKind.i64]) (insK l (bs l w) w (1 : Int))])
          (more ([AV.str w, AV.int IntKind.i64 n, AV.int IntKind.i64 k, .any, .any, .any, .any, .any, AV.ptr (some ((0 : Nat), (0 : Nat))), AV.int IntKind.i64 (IntKind.i64.wrap ((↑i : Int) + (1 : Int)))] ++ padAny 57) [Ent.cells [AV.ptr (some ((0 : Nat) + (1 : Nat), (0 : Nat)))], Ent.cells [AV.fn (Fn.func (43 : Nat)) [] [], AV.tsl true (Sh.struct [Sh.str, Sh.int IntKind.i64]) ((0 : Nat) + (1 : Nat) + (1 : Nat)) (0 : Nat) (c + (1 : Nat)) Cap.tight], Ent.tbl false (Sh.struct [Sh.str, Sh.int IntKind.i64]) (insK l (bs l w) w (1 : Int))]))
        (False)))
    (kk Ex.normal ([AV.str w, AV.int IntKind.i64 n, AV.int IntKind.i64 k, .any, .any, .any, .any, .any, AV.ptr (some ((0 : Nat), (0 : Nat))), AV.int IntKind.i64 (↑i : Int)] ++ padAny 57) [Ent.cells [AV.ptr (some ((1 : Nat), (0 : Nat)))], Ent.cells [AV.fn (Fn.func (43 : Nat)) [] [], AV.tsl nn (Sh.struct [Sh.str, Sh.int IntKind.i64]) (2 : Nat) (0 : Nat) c Cap.tight], Ent.tbl false (Sh.struct [Sh.str, Sh.int IntKind.i64]) l]) := by kernel_rfl
def kM2 : List Keep := [.yes, .yes, .yes, .no, .no, .no, .no, .no, .yes, .no, .yes]
def tM2 (w : List UInt8) (n k : Int) (i : Nat) : List AV := [.str w, .int .i64 n, .int .i64 k, .any, .any, .any, .any, .any, .ptr (some (0, 0)), .any, .int .i64 (i : Int)] ++ padAny 56
theorem many_s1 (F : LoopS) (w : List UInt8) (n k : Int) (i : Nat) (l : List D) (nn : Bool) (c : Nat) (more : List AV → St → Prop) (kk : KS) : roundK Try.prog prG (addL 0 F noL) 100 6 2 (tM2 w n k i) (a1S 43 l nn c) (againK 0 2 kM2 kM2 more kk) =
  br (decide ((↑i : Int) < k))
    (br (hasB l w)
      (br (decide (getK l w > (1 : Int)))
        (br (okM (Sh.struct [Sh.str, Sh.int IntKind.i64]) (Sh.struct [Sh.str, Sh.int IntKind.i64]) l c)
          (br (!true == decide ((↑i : Int) < n))
            (kk Ex.ret ([AV.str w, AV.int IntKind.i64 n, AV.int IntKind.i64 k, .any, .any, .any, .any, .any, AV.ptr (some ((0 : Nat), (0 : Nat))), .any, AV.int IntKind.i64 (↑i : Int)] ++ padAny 56) [Ent.cells [AV.ptr (some ((0 : Nat) + (1 : Nat), (0 : Nat)))], Ent.cells [AV.fn (Fn.func (43 : Nat)) [] [], AV.tsl nn (Sh.struct [Sh.str, Sh.int IntKind.i64]) ((0 : Nat) + (1 : Nat) + (1 : Nat)) (0 : Nat) c Cap.tight], Ent.tbl false (Sh.struct [Sh.str, Sh.int IntKind.i64]) (setK l (bs l w) (IntKind.i64.wrap (getK l w - (1 : Int))))])
            (more ([AV.str w, AV.int IntKind.i64 n, AV.int IntKind.i64 k, .any, .any, .any, .any, .any, AV.ptr (some ((0 : Nat), (0 : Nat))), .any, AV.int IntKind.i64 (IntKind.i64.wrap ((↑i : Int) + (1 : Int)))] ++ padAny 56) [Ent.cells [AV.ptr (some ((0 : Nat) + (1 : Nat), (0 : Nat)))], Ent.cells [AV.fn (Fn.func (43 : Nat)) [] [], AV.tsl nn (Sh.struct [Sh.str, Sh.int IntKind.i64]) ((0 : Nat) + (1 : Nat) + (1 : Nat)) (0 : Nat) c Cap.tight], Ent.tbl false (Sh.struct [Sh.str, Sh.int IntKind.i64]) (setK l (bs l w) (IntKind.i64.wrap (getK l w - (1 : Int))))]))
          (False))
        (br (okM (Sh.struct [Sh.str, Sh.int IntKind.i64]) (Sh.struct [Sh.str, Sh.int IntKind.i64]) l c)
          (br (!true == decide ((↑i : Int) < n))
            (kk Ex.ret ([AV.str w, AV.int IntKind.i64 n, AV.int IntKind.i64 k, .any, .any, .any, .any, .any, AV.ptr (some ((0 : Nat), (0 : Nat))), .any, AV.int IntKind.i64 (↑i : Int)] ++ padAny 56) [Ent.cells [AV.ptr (some ((0 : Nat) + (1 : Nat), (0 : Nat)))], Ent.cells [AV.fn (Fn.func (43 : Nat)) [] [], AV.tsl true (Sh.struct [Sh.str, Sh.int IntKind.i64]) ((0 : Nat) + (1 : Nat) + (1 : Nat)) (0 : Nat) (c - (1 : Nat)) Cap.tight], Ent.tbl false (Sh.struct [Sh.str, Sh.int IntKind.i64]) (delK l (bs l w))])
            (more ([AV.str w, AV.int IntKind.i64 n, AV.int IntKind.i64 k, .any, .any, .any, .any, .any, AV.ptr (some ((0 : Nat), (0 : Nat))), .any, AV.int IntKind.i64 (IntKind.i64.wrap ((↑i : Int) + (1 : Int)))] ++ padAny 56) [Ent.cells [AV.ptr (some ((0 : Nat) + (1 : Nat), (0 : Nat)))], Ent.cells [AV.fn (Fn.func (43 : Nat)) [] [], AV.tsl true (Sh.struct [Sh.str, Sh.int IntKind.i64]) ((0 : Nat) + (1 : Nat) + (1 : Nat)) (0 : Nat) (c - (1 : Nat)) Cap.tight], Ent.tbl false (Sh.struct [Sh.str, Sh.int IntKind.i64]) (delK l (bs l w))]))
          (False)))
      (br (okM (Sh.struct [Sh.str, Sh.int IntKind.i64]) (Sh.struct [Sh.str, Sh.int IntKind.i64]) l c)
        (br (!false == decide ((↑i : Int) < n))
          (kk Ex.ret ([AV.str w, AV.int IntKind.i64 n, AV.int IntKind.i64 k, .any, .any, .any, .any, .any, AV.ptr (some ((0 : Nat), (0 : Nat))), .any, AV.int IntKind.i64 (↑i : Int)] ++ padAny 56) [Ent.cells [AV.ptr (some ((0 : Nat) + (1 : Nat), (0 : Nat)))], Ent.cells [AV.fn (Fn.func (43 : Nat)) [] [], AV.tsl nn (Sh.struct [Sh.str, Sh.int IntKind.i64]) ((0 : Nat) + (1 : Nat) + (1 : Nat)) (0 : Nat) c Cap.tight], Ent.tbl false (Sh.struct [Sh.str, Sh.int IntKind.i64]) l])
          (more ([AV.str w, AV.int IntKind.i64 n, AV.int IntKind.i64 k, .any, .any, .any, .any, .any, AV.ptr (some ((0 : Nat), (0 : Nat))), .any, AV.int IntKind.i64 (IntKind.i64.wrap ((↑i : Int) + (1 : Int)))] ++ padAny 56) [Ent.cells [AV.ptr (some ((0 : Nat) + (1 : Nat), (0 : Nat)))], Ent.cells [AV.fn (Fn.func (43 : Nat)) [] [], AV.tsl nn (Sh.struct [Sh.str, Sh.int IntKind.i64]) ((0 : Nat) + (1 : Nat) + (1 : Nat)) (0 : Nat) c Cap.tight], Ent.tbl false (Sh.struct [Sh.str, Sh.int IntKind.i64]) l]))
        (False)))
    (kk Ex.normal ([AV.str w, AV.int IntKind.i64 n, AV.int IntKind.i64 k, .any, .any, .any, .any, .any, AV.ptr (some ((0 : Nat), (0 : Nat))), .any, AV.int IntKind.i64 (↑i : Int)] ++ padAny 56) [Ent.cells [AV.ptr (some ((1 : Nat), (0 : Nat)))], Ent.cells [AV.fn (Fn.func (43 : Nat)) [] [], AV.tsl nn (Sh.struct [Sh.str, Sh.int IntKind.i64]) (2 : Nat) (0 : Nat) c Cap.tight], Ent.tbl false (Sh.struct [Sh.str, Sh.int IntKind.i64]) l]) := by kernel_rfl
theorem many_body (w : List UInt8) (n k : Int) (G H : LoopS) (K : AV → St → Prop) : bodyK Try.prog prG (addL 2 (headG 0 kM2 H) (addL 0 (headG 0 kM1 G) noL)) 100 6 [] [.str w, .int .i64 n, .int .i64 k] [] K  =
  br (decide (n < (1 : Int)))
    (K (AV.bool true) [])
    (br (decide (n > (20 : Int)))
      (K (AV.bool true) [])
      (br (decide (k < (0 : Int)))
        (K (AV.bool true) [])
        (br (decide (k > (25 : Int)))
          (K (AV.bool true) [])
          (G (([AV.str w, AV.int IntKind.i64 n, AV.int IntKind.i64 k, .any, .any, .any, .any, .any, AV.ptr (some ((0 : Nat), (0 : Nat))), AV.int IntKind.i64 (0 : Int)] ++ padAny 57)) ([Ent.cells [AV.ptr none]]) (contB Try.prog prG (addL 2 (headG 0 kM2 H) (addL 0 (headG 0 kM1 G) noL)) 100 6 [] [] 0 K))))) := by kernel_rfl
theorem many_mid (w : List UInt8) (n k : Int) (i : Nat) (l : List D) (nn : Bool) (c : Nat) (G H : LoopS) (K : AV → St → Prop) : contB Try.prog prG (addL 2 (headG 0 kM2 H) (addL 0 (headG 0 kM1 G) noL)) 100 6 [] [] 0 K .normal (tM1 w n k i) (a1S 43 l nn c)  =
  H (([AV.str w, AV.int IntKind.i64 n, AV.int IntKind.i64 k, .any, .any, .any, .any, .any, AV.ptr (some ((0 : Nat), (0 : Nat))), .any, AV.int IntKind.i64 (0 : Int)] ++ padAny 56)) ([Ent.cells [AV.ptr (some ((1 : Nat), (0 : Nat)))], Ent.cells [AV.fn (Fn.func (43 : Nat)) [] [], AV.tsl nn (Sh.struct [Sh.str, Sh.int IntKind.i64]) (2 : Nat) (0 : Nat) c Cap.tight], Ent.tbl false (Sh.struct [Sh.str, Sh.int IntKind.i64]) l]) (contB Try.prog prG (addL 2 (headG 0 kM2 H) (addL 0 (headG 0 kM1 G) noL)) 100 6 [] [] 2 K) := by kernel_rfl
theorem many_end (w : List UInt8) (n k : Int) (i : Nat) (l : List D) (nn : Bool) (c : Nat) (G H : LoopS) (K : AV → St → Prop) : contB Try.prog prG (addL 2 (headG 0 kM2 H) (addL 0 (headG 0 kM1 G) noL)) 100 6 [] [] 2 K .normal (tM2 w n k i) (a1S 43 l nn c) =
  br (okM (Sh.struct [Sh.str, Sh.int IntKind.i64]) (Sh.struct [Sh.str, Sh.int IntKind.i64]) l c)
    (br (hasB l w == decide (k < n))
      (br (okM (Sh.struct [Sh.str, Sh.int IntKind.i64]) (Sh.struct [Sh.str, Sh.int IntKind.i64]) l c)
        (K (AV.bool (decide ((↑c : Int) = (1 : Int)) == hasB l w)) [])
        (False))
      (K (AV.bool false) []))
    (False) := by kernel_rfl
def wl (w : List UInt8) : Nat → List D
  | 0 => []
  | c + 1 => [pairD w ((c + 1 : Nat) : Int)]
theorem wl_pos {w : List UInt8} {c : Nat} (h : 0 < c) : wl w c = [pairD w (c : Int)] := by
  obtain ⟨d, rfl⟩ : ∃ d, c = d + 1 := ⟨c - 1, by omega⟩
  rfl
theorem one_bs (w : List UInt8) (v : Int) : bs [pairD w v] w = 0 := by
  have h : SS (keysD [pairD w v]) := by simp [SS, keysD]
  exact bs_at h (i := 0) (by simp)
theorem one_has (w : List UInt8) (v : Int) : hasB [pairD w v] w = true := by
  have h : SS (keysD [pairD w v]) := by simp [SS, keysD]
  exact hasB_at h (i := 0) (by simp)
theorem one_get (w : List UInt8) (v : Int) : getK [pairD w v] w = v := by
  simp only [getK, one_has, one_bs]; rfl
theorem one_set (w : List UInt8) (v v' : Int) : setK [pairD w v] 0 v' = [pairD w v'] := rfl
theorem one_del (w : List UInt8) (v : Int) : delK [pairD w v] 0 = [] := rfl
theorem nil_has (w : List UInt8) : hasB [] w = false := rfl
def MM1 (w : List UInt8) (n k : Int) (m : Nat) (t : List AV) (s : St) (kk : KS) : Prop := ∃ i : Nat, (m : Int) + i = n ∧ t = tM1 w n k i ∧ ((i = 0 ∧ s = a0S) ∨ (0 < i ∧ s = a1S 43 [pairD w i] true 1)) ∧
  kk .normal (tM1 w n k n.toNat) (a1S 43 [pairD w n] true 1)
theorem many_step1 (w : List UInt8) (n k : Int) (hn : 1 ≤ n) (hn2 : n ≤ 20) : ∀ m t s kk, MM1 w n k m t s kk → roundK Try.prog prG noL 100 6 0 t s (againK 0 0 kM1 kM1 (fun t' s' => ∃ m', m' < m ∧ MM1 w n k m' t' s' kk) kk) := by
  rintro m t s kk ⟨i, hm, rfl, ⟨rfl, rfl⟩ | ⟨hi, rfl⟩, hk⟩
  · rw [many_r0]
    refine br_t (by simp; omega) (br_mk (fun h => by simp at h) (fun _ => ⟨m - 1, by omega, 1, by omega, ?_, .inr ⟨by omega, rfl⟩, hk⟩))
    rfl
  · rw [many_r1]
    refine br_iff.2 ⟨fun h1 => br_t (one_has _ _) (br_t (okM_mk rfl (by omega)) (br_mk (fun h => ?_) (fun _ => ?_))), fun h1 => ?_⟩
    · simp at h; omega
    · rw [one_bs, one_get, one_set, wrap64 (by omega) (by omega)]
      exact ⟨m - 1, by omega, i + 1, by omega, rfl, .inr ⟨by omega, rfl⟩, hk⟩
    · have e : n = i := by omega
      subst e
      exact hk
def MM2 (w : List UInt8) (n k : Int) (m : Nat) (t : List AV) (s : St) (kk : KS) : Prop := ∃ i : Nat, (m : Int) + i = k ∧ t = tM2 w n k i ∧ s = a1S 43 (wl w (n.toNat - i)) true (wl w (n.toNat - i)).length ∧
  kk .normal (tM2 w n k k.toNat) (a1S 43 (wl w (n.toNat - k.toNat)) true (wl w (n.toNat - k.toNat)).length)
theorem many_step2 (F : LoopS) (w : List UInt8) (n k : Int) (hn : 1 ≤ n) (hn2 : n ≤ 20) (hk0 : 0 ≤ k) (hk2 : k ≤ 25) : ∀ m t s kk, MM2 w n k m t s kk → roundK Try.prog prG (addL 0 F noL) 100 6 2 t s (againK 0 2 kM2 kM2 (fun t' s' => ∃ m', m' < m ∧ MM2 w n k m' t' s' kk) kk) := by
  rintro m t s kk ⟨i, hm, rfl, rfl, hk⟩
  rw [many_s1]
  refine br_iff.2 ⟨fun h1 => ?_, fun h1 => ?_⟩
  · rcases Nat.lt_or_ge i n.toNat with h | h
    · rw [wl_pos (c := n.toNat - i) (by omega)]
      have hl : [pairD w ((n.toNat - i : Nat) : Int)].length = 1 := rfl
      rw [one_bs, one_get, hl]
      refine br_t (one_has _ _) (br_iff.2 ⟨fun h2 => br_t (okM_mk rfl (by omega)) (br_mk (fun h => ?_) (fun _ => ?_)), fun h2 => br_t (okM_mk rfl (by omega)) (br_mk (fun h => ?_) (fun _ => ?_))⟩)
      · simp at h; omega
      · rw [one_set, wrap64 (by omega) (by omega), wrap64 (by omega) (by omega)]
        refine ⟨m - 1, by omega, i + 1, by omega, rfl, ?_, hk⟩
        rw [wl_pos (c := n.toNat - (i + 1)) (by omega), show (((n.toNat - i : Nat) : Int) - 1) = ((n.toNat - (i + 1) : Nat) : Int) by omega]
        rfl
      · simp at h; omega
      · rw [one_del, wrap64 (by omega) (by omega)]
        refine ⟨m - 1, by omega, i + 1, by omega, rfl, ?_, hk⟩
        rw [show n.toNat - (i + 1) = 0 by omega]
        rfl
    · rw [show n.toNat - i = 0 by omega]
      refine br_mk (fun h => by cases h) (fun _ => br_t (okM_mk rfl (by simp [wl])) (br_mk (fun h => ?_) (fun _ => ?_)))
      · simp at h; omega
      · rw [wrap64 (by omega) (by omega)]
        refine ⟨m - 1, by omega, i + 1, by omega, rfl, ?_, hk⟩
        rw [show n.toNat - (i + 1) = 0 by omega]
        rfl
  · have e : k = i := by omega
    subst e
    exact hk
theorem many_comes (w : List UInt8) (n k : Int) : Sy.Comes Try.prog 6 [.str w, .int .i64 n, .int .i64 k] [] (.bool true) [] := by
  have hd : distinctOk Try.prog 6 = true := by kernel_rfl
  have go : ∀ G H : LoopS, (¬ n < 1 → ¬ n > 20 → ¬ k < 0 → ¬ k > 25 → G (tM1 w n k 0) a0S (contB Try.prog prG (addL 2 (headG 0 kM2 H) (addL 0 (headG 0 kM1 G) noL)) 100 6 [] [] 0 fun v1 s1 => v1 = .bool true ∧ s1 = [])) →
      bodyK Try.prog prG (addL 2 (headG 0 kM2 H) (addL 0 (headG 0 kM1 G) noL)) 100 6 [] [.str w, .int .i64 n, .int .i64 k] [] fun v1 s1 => v1 = .bool true ∧ s1 = [] := fun G H h => by
    refine Eq.mpr (many_body w n k G H _) ?_
    exact br_iff.2 ⟨fun _ => ⟨rfl, rfl⟩, fun h1 => br_iff.2 ⟨fun _ => ⟨rfl, rfl⟩, fun h2 => br_iff.2 ⟨fun _ => ⟨rfl, rfl⟩, fun h3 => br_iff.2 ⟨fun _ => ⟨rfl, rfl⟩, fun h4 => h h1 h2 h3 h4⟩⟩⟩⟩
  by_cases hg : 1 ≤ n ∧ n ≤ 20 ∧ 0 ≤ k ∧ k ≤ 25
  · obtain ⟨g1, g2, g3, g4⟩ := hg
    refine comes_of ok prG_ok (L := 100) (ms := []) hd (loops_add (L := 100) (kh := kM2) ok prG_ok hd (loops_add (L := 100) (kh := kM1) ok prG_ok hd loops_none (many_step1 w n k g1 g2)) (many_step2 _ w n k g1 g2 g3 g4)) ?_
    refine go _ _ fun _ _ _ _ => ⟨n.toNat, 0, by omega, rfl, .inl ⟨rfl, rfl⟩, ?_⟩
    rw [many_mid]
    refine ⟨k.toNat, 0, by omega, rfl, ?_, ?_⟩
    · rw [Nat.sub_zero, wl_pos (c := n.toNat) (by omega), show ((n.toNat : Nat) : Int) = n by omega]
      rfl
    · rw [many_end]
      rcases Nat.lt_or_ge k.toNat n.toNat with h | h
      · rw [wl_pos (c := n.toNat - k.toNat) (by omega)]
        refine br_t (okM_mk rfl (by simp)) (br_t (by rw [one_has]; simp; omega) (br_t (okM_mk rfl (by simp)) ⟨by rw [one_has]; rfl, rfl⟩))
      · rw [show n.toNat - k.toNat = 0 by omega]
        refine br_t (okM_mk rfl (by simp [wl])) (br_t (by show (hasB [] w == _) = true; rw [nil_has]; simp; omega) (br_t (okM_mk rfl (by simp [wl])) ⟨rfl, rfl⟩))
  · refine comes_of ok prG_ok (L := 100) (ms := []) hd (loops_add (id := 2) (L := 100) (kh := kM2) (kx := kM2) (ks := kM2) (M := fun _ _ _ _ => False) ok prG_ok hd (loops_add (id := 0) (L := 100) (kh := kM1) (kx := kM1) (ks := kM1) (M := fun _ _ _ _ => False) ok prG_ok hd loops_none (fun _ _ _ _ h => h.elim)) (fun _ _ _ _ h => h.elim)) ?_
    · exact go _ _ fun h1 h2 h3 h4 => absurd ⟨by omega, by omega, by omega, by omega⟩ hg
end Go.Proofs.Ytkfdfenaaidkkaa
