/- Walks: the statements of sets. -/
import Derived.Test.YtgmddliidplooaaPvC
import Derived.Test.YtgmddliidplooaaSets
set_option linter.unusedSimpArgs false
set_option linter.unusedVariables false
set_option maxRecDepth 100000
namespace Go.Proofs.Ytgmddliidplooaa
open Go Go.Sy
attribute [local irreducible] bodyK roundK
def prB : FuncId → Option Sy.Spec := addP 11 masksF (addP 14 scutF noP)
theorem prB_ok : PrOk Try.prog prB := prOk_add masks_ok (prOk_add scut_ok prOk_none)
theorem begun_body (k : AV → St → Prop) : bodyK Try.prog prB noL 100 9 [] [] [] k =
  k (AV.bool true) [] := by kernel_rfl
theorem begun_ok : SpecOk Try.prog 9 trueF.f := specOk_comes fun args s v s' tch e => by
  simp only [trueF] at e
  split at e
  · obtain ⟨hg, rfl, rfl, rfl⟩ := run_ok e
    have hd : distinctOk Try.prog 9 = true := by kernel_rfl
    refine comes_of ok prB_ok (L := 100) (ms := []) hd loops_none ?_
    rw [begun_body]
    exact ⟨rfl, rfl⟩
  · cases e
def prS : FuncId → Option Sy.Spec := addP 9 trueF (addP 11 masksF (addP 14 scutF (addP 12 masksF (addP 15 rcutF (addP 13 rowF (addP 10 valsF noP))))))
theorem prS_ok : PrOk Try.prog prS := prOk_add begun_ok (prOk_add masks_ok (prOk_add scut_ok (prOk_add rmasks_ok (prOk_add rcut_ok (prOk_add row_ok (prOk_add vals_ok prOk_none))))))
def kA : List Keep := [.yes, .yes, .yes, .yes, .no, .no, .no, .no, .yes, .no, .yes, .yes, .yes]
def tA (mode n mask : Int) (l w : List D) (i : Nat) : List AV := [.int .i64 mode, .int .i64 n, .int .i64 mask, .fz false shV l, .any, .any, .any, .any, .bool false, .any, .fz false (.int .i64) w, .fz false (.int .i64) w, .int .i64 (i : Int)] ++ padAny 45
theorem all_round (mode n mask : Int) (l w : List D) (i : Nat) (more : List AV → St → Prop) (kk : KS) : roundK Try.prog prS noL 100 4 0 (tA mode n mask l w i) [] (againK 0 0 kA kA more kk) =
  br (decide ((↑i : Int) < (↑w.length : Int)))
    (br (decide ((0 : Int) ≤ (↑i : Int)) && decide ((↑i : Int) < (↑w.length : Int)))
      (br (decide ((0 : Int) ≤ (↑i : Int)) && decide ((↑i : Int) < (↑w.length : Int)))
        (br (!decide ((w.getD (↑i : Int).toNat D.nul).asInt = (w.getD (↑i : Int).toNat D.nul).asInt))
          (kk Ex.ret ([AV.int IntKind.i64 mode, AV.int IntKind.i64 n, AV.int IntKind.i64 mask, AV.fz false (shV) l, .any, .any, .any, .any, AV.bool false, .any, AV.fz false (Sh.int IntKind.i64) w, AV.fz false (Sh.int IntKind.i64) w, AV.int IntKind.i64 (↑i : Int)] ++ padAny 45) [])
          (more ([AV.int IntKind.i64 mode, AV.int IntKind.i64 n, AV.int IntKind.i64 mask, AV.fz false (shV) l, .any, .any, .any, .any, AV.bool false, .any, AV.fz false (Sh.int IntKind.i64) w, AV.fz false (Sh.int IntKind.i64) w, AV.int IntKind.i64 (IntKind.i64.wrap ((↑i : Int) + (1 : Int)))] ++ padAny 45) []))
        (False))
      (False))
    (kk Ex.normal ([AV.int IntKind.i64 mode, AV.int IntKind.i64 n, AV.int IntKind.i64 mask, AV.fz false (shV) l, .any, .any, .any, .any, AV.bool false, .any, AV.fz false (Sh.int IntKind.i64) w, AV.fz false (Sh.int IntKind.i64) w, AV.int IntKind.i64 (↑i : Int)] ++ padAny 45) []) := by kernel_rfl
theorem all_body (mode n mask : Int) (l : List D) (G : LoopS) (k : AV → St → Prop) : bodyK Try.prog prS (addL 0 (headG 0 kA G) noL) 100 4 [] [.int .i64 mode, .int .i64 n, .int .i64 mask, .fz false shV l] [] k  =
  br (!decide ((↑(masksD mode n).length : Int) = (↑(masksD mode n).length : Int)))
    (k (AV.bool false) [])
    (G (([AV.int IntKind.i64 mode, AV.int IntKind.i64 n, AV.int IntKind.i64 mask, AV.fz false (shV) (valsD l (6 : Int)), .any, .any, .any, .any, AV.bool false, .any, AV.fz false (Sh.int IntKind.i64) (masksD mode n), AV.fz false (Sh.int IntKind.i64) (masksD mode n), AV.int IntKind.i64 (0 : Int)] ++ padAny 45)) ([]) (contB Try.prog prS (addL 0 (headG 0 kA G) noL) 100 4 [] [] 0 k)) := by kernel_rfl
theorem all_end (mode n mask : Int) (l w : List D) (i : Nat) (F : LoopS) (k : AV → St → Prop) : contB Try.prog prS (addL 0 F noL) 100 4 [] [] 0 k .normal (tA mode n mask l w i) [] =
  br (decide (mask < (0 : Int)))
    (k (AV.bool true) [])
    (br (decide (mask > (63 : Int)))
      (k (AV.bool true) [])
      (br (decide ((D.list l).els.length < (1000000 : Nat)))
        (br (decide ((D.list l).els.length < (1000000 : Nat)))
          (br (decide ((D.list (cutD mask (D.list l).els)).els.length < (2 : Nat) ^ (62 : Nat)))
            (k (AV.bool (decide (rowD (D.list (cutD mask (D.list l).els)).els (D.list (rcutD mask (D.list l).els)).els = (0 : Int)))) [])
            (False))
          (False))
        (False))) := by kernel_rfl
theorem laws_body0 (a b : Int) (l : List D) (k : AV → St → Prop) : bodyK Try.prog prS noL 100 5 [] [.int .i64 0, .int .i64 a, .int .i64 b, .fz false shV l] [] k =
  br (decide (a < (0 : Int)))
    (k (AV.bool true) [])
    (br (decide (a > (63 : Int)))
      (k (AV.bool true) [])
      (br (decide (b < (0 : Int)))
        (k (AV.bool true) [])
        (br (decide (b > (63 : Int)))
          (k (AV.bool true) [])
          (br (decide ((D.list (valsD (D.list l).els (6 : Int))).els.length < (1000000 : Nat)))
            (br (decide ((D.list (cutD b (D.list (valsD (D.list l).els (6 : Int))).els)).els.length < (1000000 : Nat)))
              (br (decide ((D.list (valsD (D.list l).els (6 : Int))).els.length < (1000000 : Nat)))
                (br (decide ((D.list (cutD a (D.list (cutD b (D.list (valsD (D.list l).els (6 : Int))).els)).els)).els.length < (2 : Nat) ^ (62 : Nat)))
                  (k (AV.bool (decide (rowD (D.list (cutD a (D.list (cutD b (D.list (valsD (D.list l).els (6 : Int))).els)).els)).els (D.list (cutD (IntKind.i64.wrap (↑(BitVec.ofInt IntKind.i64.bits a &&& BitVec.ofInt IntKind.i64.bits b).toNat : Int)) (D.list (valsD (D.list l).els (6 : Int))).els)).els = (0 : Int)))) [])
                  (False))
                (False))
              (False))
            (False))))) := by kernel_rfl
theorem laws_body1 (a b : Int) (l : List D) (k : AV → St → Prop) : bodyK Try.prog prS noL 100 5 [] [.int .i64 1, .int .i64 a, .int .i64 b, .fz false shV l] [] k =
  br (decide (a < (0 : Int)))
    (k (AV.bool true) [])
    (br (decide (a > (63 : Int)))
      (k (AV.bool true) [])
      (br (decide (b < (0 : Int)))
        (k (AV.bool true) [])
        (br (decide (b > (63 : Int)))
          (k (AV.bool true) [])
          (br (decide ((D.list (valsD (D.list l).els (6 : Int))).els.length < (1000000 : Nat)))
            (br (decide ((D.list (cutD b (D.list (valsD (D.list l).els (6 : Int))).els)).els.length < (1000000 : Nat)))
              (br (decide ((D.list (valsD (D.list l).els (6 : Int))).els.length < (1000000 : Nat)))
                (br (decide ((D.list (cutD a (D.list (cutD b (D.list (valsD (D.list l).els (6 : Int))).els)).els)).els.length < (2 : Nat) ^ (62 : Nat)))
                  (k (AV.bool (decide (rowD (D.list (cutD a (D.list (cutD b (D.list (valsD (D.list l).els (6 : Int))).els)).els)).els (D.list (cutD (IntKind.i64.wrap (↑(BitVec.ofInt IntKind.i64.bits a &&& BitVec.ofInt IntKind.i64.bits b).toNat : Int)) (D.list (valsD (D.list l).els (6 : Int))).els)).els = (0 : Int)))) [])
                  (False))
                (False))
              (False))
            (False))))) := by kernel_rfl
theorem laws_body2 (a b : Int) (l : List D) (k : AV → St → Prop) : bodyK Try.prog prS noL 100 5 [] [.int .i64 2, .int .i64 a, .int .i64 b, .fz false shV l] [] k =
  br (decide (a < (0 : Int)))
    (k (AV.bool true) [])
    (br (decide (a > (63 : Int)))
      (k (AV.bool true) [])
      (br (decide (b < (0 : Int)))
        (k (AV.bool true) [])
        (br (decide (b > (63 : Int)))
          (k (AV.bool true) [])
          (br (decide ((D.list (valsD (D.list l).els (6 : Int))).els.length < (1000000 : Nat)))
            (br (decide ((D.list (cutD b (D.list (valsD (D.list l).els (6 : Int))).els)).els.length < (1000000 : Nat)))
              (br (decide ((D.list (valsD (D.list l).els (6 : Int))).els.length < (1000000 : Nat)))
                (br (decide ((D.list (cutD a (D.list (cutD b (D.list (valsD (D.list l).els (6 : Int))).els)).els)).els.length < (2 : Nat) ^ (62 : Nat)))
                  (k (AV.bool (decide (rowD (D.list (cutD a (D.list (cutD b (D.list (valsD (D.list l).els (6 : Int))).els)).els)).els (D.list (cutD (IntKind.i64.wrap (↑(BitVec.ofInt IntKind.i64.bits a &&& BitVec.ofInt IntKind.i64.bits b).toNat : Int)) (D.list (valsD (D.list l).els (6 : Int))).els)).els = (0 : Int)))) [])
                  (False))
                (False))
              (False))
            (False))))) := by kernel_rfl
theorem laws_body3 (a b : Int) (l : List D) (k : AV → St → Prop) : bodyK Try.prog prS noL 100 5 [] [.int .i64 3, .int .i64 a, .int .i64 b, .fz false shV l] [] k =
  br (decide (a < (0 : Int)))
    (k (AV.bool true) [])
    (br (decide (a > (63 : Int)))
      (k (AV.bool true) [])
      (br (decide (b < (0 : Int)))
        (k (AV.bool true) [])
        (br (decide (b > (63 : Int)))
          (k (AV.bool true) [])
          (br (decide ((D.list (valsD (D.list l).els (6 : Int))).els.length < (1000000 : Nat)))
            (br (decide ((D.list (cutD b (D.list (valsD (D.list l).els (6 : Int))).els)).els.length < (1000000 : Nat)))
              (br (decide ((D.list (valsD (D.list l).els (6 : Int))).els.length < (1000000 : Nat)))
                (br (decide ((D.list (cutD a (D.list (cutD b (D.list (valsD (D.list l).els (6 : Int))).els)).els)).els.length < (2 : Nat) ^ (62 : Nat)))
                  (k (AV.bool (decide (rowD (D.list (cutD a (D.list (cutD b (D.list (valsD (D.list l).els (6 : Int))).els)).els)).els (D.list (cutD (IntKind.i64.wrap (↑(BitVec.ofInt IntKind.i64.bits a &&& BitVec.ofInt IntKind.i64.bits b).toNat : Int)) (D.list (valsD (D.list l).els (6 : Int))).els)).els = (0 : Int)))) [])
                  (False))
                (False))
              (False))
            (False))))) := by kernel_rfl
theorem laws_body4 (a b : Int) (l : List D) (k : AV → St → Prop) : bodyK Try.prog prS noL 100 5 [] [.int .i64 4, .int .i64 a, .int .i64 b, .fz false shV l] [] k =
  br (decide (a < (0 : Int)))
    (k (AV.bool true) [])
    (br (decide (a > (63 : Int)))
      (k (AV.bool true) [])
      (br (decide (b < (0 : Int)))
        (k (AV.bool true) [])
        (br (decide (b > (63 : Int)))
          (k (AV.bool true) [])
          (br (decide ((D.list (valsD (D.list l).els (6 : Int))).els.length < (1000000 : Nat)))
            (br (decide ((D.list (cutD b (D.list (valsD (D.list l).els (6 : Int))).els)).els.length < (1000000 : Nat)))
              (br (decide ((D.list (valsD (D.list l).els (6 : Int))).els.length < (1000000 : Nat)))
                (br (decide ((D.list (cutD a (D.list (cutD b (D.list (valsD (D.list l).els (6 : Int))).els)).els)).els.length < (2 : Nat) ^ (62 : Nat)))
                  (k (AV.bool (decide (rowD (D.list (cutD a (D.list (cutD b (D.list (valsD (D.list l).els (6 : Int))).els)).els)).els (D.list (cutD (IntKind.i64.wrap (↑(BitVec.ofInt IntKind.i64.bits a &&& BitVec.ofInt IntKind.i64.bits b).toNat : Int)) (D.list (valsD (D.list l).els (6 : Int))).els)).els = (0 : Int)))) [])
                  (False))
                (False))
              (False))
            (False))))) := by kernel_rfl
theorem laws_any (n a b : Int) (l : List D) (k : AV → St → Prop) : bodyK Try.prog prS (addL 0 noF noL) 100 5 [] [.int .i64 n, .int .i64 a, .int .i64 b, .fz false shV l] [] k =
  br (decide (n < (0 : Int)))
    (k (AV.bool true) [])
    (br (decide (n > (4 : Int)))
      (k (AV.bool true) [])
      (br (decide (a < (0 : Int)))
        (k (AV.bool true) [])
        (br (decide (a > (63 : Int)))
          (k (AV.bool true) [])
          (br (decide (b < (0 : Int)))
            (k (AV.bool true) [])
            (br (decide (b > (63 : Int)))
              (k (AV.bool true) [])
              (br (!decide (IntKind.u64.wrap n < (0 : Int)))
                (br (!decide ((↑(masksD (2 : Int) n).length : Int) = IntKind.i64.wrap ((1 : Int) * (2 : Int) ^ min (IntKind.u64.wrap n).toNat IntKind.i64.bits)))
                  (k (AV.bool false) [])
                  (br (!decide ((↑(masksD (1 : Int) n).length : Int) = IntKind.i64.wrap (n + (1 : Int))))
                    (k (AV.bool false) [])
                    (False)))
                (False))))))) := by kernel_rfl
def MA (mode n mask : Int) (l w : List D) (z : Nat) (t : List AV) (s : St) (k : KS) : Prop := ∃ i : Nat, z + i = w.length ∧ t = tA mode n mask l w i ∧ s = [] ∧ ∀ j : Nat, k .normal (tA mode n mask l w j) []
theorem all_step (mode n mask : Int) (l w : List D) (hw : w.length < 1000000) : ∀ z t s k, MA mode n mask l w z t s k → roundK Try.prog prS noL 100 4 0 t s (againK 0 0 kA kA (fun t' s' => ∃ z', z' < z ∧ MA mode n mask l w z' t' s' k) k) := by
  rintro z t s k ⟨i, hz, rfl, rfl, hk⟩
  rw [all_round]
  refine br_iff.2 ⟨fun h1 => br_t (by simp; omega) (br_t (by simp; omega) (br_mk (fun h => by simp at h) fun _ => ?_)), fun h1 => hk i⟩
  refine ⟨w.length - (i + 1), by omega, i + 1, by omega, ?_, rfl, hk⟩
  rw [wrap64 (by omega) (by omega)]
  rfl
theorem all_comes (mode n mask : Int) (l : List D) : Sy.Comes Try.prog 4 [.int .i64 mode, .int .i64 n, .int .i64 mask, .fz false shV l] [] (.bool true) [] := by
  have hd : distinctOk Try.prog 4 = true := by kernel_rfl
  have hw : (masksD mode n).length < 1000000 := Nat.lt_of_le_of_lt masksD_len (by decide)
  refine comes_of ok prS_ok (L := 100) (ms := []) hd (loops_add (L := 100) (kh := kA) ok prS_ok hd loops_none (all_step mode n mask (valsD l 6) (masksD mode n) hw)) ?_
  refine Eq.mpr (all_body mode n mask l _ _) ?_
  refine br_mk (fun h => by simp at h) fun _ => ⟨(masksD mode n).length, 0, by omega, rfl, rfl, fun j => ?_⟩
  rw [all_end]
  have hl : (valsD l 6).length ≤ 6 := valsD_len
  have hc : (cutD mask (valsD l 6)).length ≤ 6 := by simpa [cutD] using hl
  refine br_iff.2 ⟨fun _ => ⟨rfl, rfl⟩, fun h1 => br_iff.2 ⟨fun _ => ⟨rfl, rfl⟩, fun h2 => br_t (decide_eq_true ?_) (br_t (decide_eq_true ?_) (br_t (decide_eq_true ?_) ⟨?_, rfl⟩))⟩⟩
  · show (valsD l 6).length < 1000000
    omega
  · show (valsD l 6).length < 1000000
    omega
  · show (cutD mask (valsD l 6)).length < 2 ^ 62
    omega
  · have : rowD (cutD mask (valsD l 6)) (rcutD mask (valsD l 6)) = 0 := row_cuts (by omega)
    show AV.bool (decide (rowD (cutD mask (valsD l 6)) (rcutD mask (valsD l 6)) = 0)) = .bool true
    rw [this]; rfl
theorem laws_tail (a b : Int) (l : List D) (h : 0 ≤ a ∧ a ≤ 63 ∧ 0 ≤ b ∧ b ≤ 63) :
  br (decide ((D.list (valsD (D.list l).els (6 : Int))).els.length < (1000000 : Nat)))
              (br (decide ((D.list (cutD b (D.list (valsD (D.list l).els (6 : Int))).els)).els.length < (1000000 : Nat)))
                (br (decide ((D.list (valsD (D.list l).els (6 : Int))).els.length < (1000000 : Nat)))
                  (br (decide ((D.list (cutD a (D.list (cutD b (D.list (valsD (D.list l).els (6 : Int))).els)).els)).els.length < (2 : Nat) ^ (62 : Nat)))
                    ((AV.bool (decide (rowD (D.list (cutD a (D.list (cutD b (D.list (valsD (D.list l).els (6 : Int))).els)).els)).els (D.list (cutD (andI a b) (D.list (valsD (D.list l).els (6 : Int))).els)).els = (0 : Int)))) = AV.bool true ∧ ([] : St) = [])
                    (False))
                  (False))
                (False))
              (False) := by
  have hl : (valsD l 6).length ≤ 6 := valsD_len
  have hc : (cutD b (valsD l 6)).length ≤ 6 := by simpa [cutD] using hl
  have hc' : (cutD a (cutD b (valsD l 6))).length ≤ 6 := by simpa [cutD] using hl
  refine br_t (decide_eq_true ?_) (br_t (decide_eq_true ?_) (br_t (decide_eq_true ?_) (br_t (decide_eq_true ?_) ⟨?_, rfl⟩)))
  · show (valsD l 6).length < 1000000
    omega
  · show (cutD b (valsD l 6)).length < 1000000
    omega
  · show (valsD l 6).length < 1000000
    omega
  · show (cutD a (cutD b (valsD l 6))).length < 2 ^ 62
    omega
  · have : rowD (cutD a (cutD b (valsD l 6))) (cutD (andI a b) (valsD l 6)) = 0 := row_and hl h.1 h.2.1 h.2.2.1 h.2.2.2
    show AV.bool (decide (rowD (cutD a (cutD b (valsD l 6))) (cutD (andI a b) (valsD l 6)) = 0)) = .bool true
    rw [this]; rfl
theorem laws_c0 (a b : Int) (l : List D) : bodyK Try.prog prS noL 100 5 [] [.int .i64 0, .int .i64 a, .int .i64 b, .fz false shV l] [] (fun v1 s1 => v1 = .bool true ∧ s1 = []) := by
  rw [laws_body0]
  refine br_iff.2 ⟨fun _ => ⟨rfl, rfl⟩, fun h1 => br_iff.2 ⟨fun _ => ⟨rfl, rfl⟩, fun h2 => br_iff.2 ⟨fun _ => ⟨rfl, rfl⟩, fun h3 => br_iff.2 ⟨fun _ => ⟨rfl, rfl⟩, fun h4 => ?_⟩⟩⟩⟩
  exact laws_tail a b l (by omega)
theorem laws_c1 (a b : Int) (l : List D) : bodyK Try.prog prS noL 100 5 [] [.int .i64 1, .int .i64 a, .int .i64 b, .fz false shV l] [] (fun v1 s1 => v1 = .bool true ∧ s1 = []) := by
  rw [laws_body1]
  refine br_iff.2 ⟨fun _ => ⟨rfl, rfl⟩, fun h1 => br_iff.2 ⟨fun _ => ⟨rfl, rfl⟩, fun h2 => br_iff.2 ⟨fun _ => ⟨rfl, rfl⟩, fun h3 => br_iff.2 ⟨fun _ => ⟨rfl, rfl⟩, fun h4 => ?_⟩⟩⟩⟩
  exact laws_tail a b l (by omega)
theorem laws_c2 (a b : Int) (l : List D) : bodyK Try.prog prS noL 100 5 [] [.int .i64 2, .int .i64 a, .int .i64 b, .fz false shV l] [] (fun v1 s1 => v1 = .bool true ∧ s1 = []) := by
  rw [laws_body2]
  refine br_iff.2 ⟨fun _ => ⟨rfl, rfl⟩, fun h1 => br_iff.2 ⟨fun _ => ⟨rfl, rfl⟩, fun h2 => br_iff.2 ⟨fun _ => ⟨rfl, rfl⟩, fun h3 => br_iff.2 ⟨fun _ => ⟨rfl, rfl⟩, fun h4 => ?_⟩⟩⟩⟩
  exact laws_tail a b l (by omega)
theorem laws_c3 (a b : Int) (l : List D) : bodyK Try.prog prS noL 100 5 [] [.int .i64 3, .int .i64 a, .int .i64 b, .fz false shV l] [] (fun v1 s1 => v1 = .bool true ∧ s1 = []) := by
  rw [laws_body3]
  refine br_iff.2 ⟨fun _ => ⟨rfl, rfl⟩, fun h1 => br_iff.2 ⟨fun _ => ⟨rfl, rfl⟩, fun h2 => br_iff.2 ⟨fun _ => ⟨rfl, rfl⟩, fun h3 => br_iff.2 ⟨fun _ => ⟨rfl, rfl⟩, fun h4 => ?_⟩⟩⟩⟩
  exact laws_tail a b l (by omega)
theorem laws_c4 (a b : Int) (l : List D) : bodyK Try.prog prS noL 100 5 [] [.int .i64 4, .int .i64 a, .int .i64 b, .fz false shV l] [] (fun v1 s1 => v1 = .bool true ∧ s1 = []) := by
  rw [laws_body4]
  refine br_iff.2 ⟨fun _ => ⟨rfl, rfl⟩, fun h1 => br_iff.2 ⟨fun _ => ⟨rfl, rfl⟩, fun h2 => br_iff.2 ⟨fun _ => ⟨rfl, rfl⟩, fun h3 => br_iff.2 ⟨fun _ => ⟨rfl, rfl⟩, fun h4 => ?_⟩⟩⟩⟩
  exact laws_tail a b l (by omega)
theorem laws_comes (n a b : Int) (l : List D) : Sy.Comes Try.prog 5 [.int .i64 n, .int .i64 a, .int .i64 b, .fz false shV l] [] (.bool true) [] := by
  have hd : distinctOk Try.prog 5 = true := by kernel_rfl
  by_cases hn : n < 0 ∨ n > 4
  · refine comes_of ok prS_ok (L := 100) (ms := []) hd (loops_false (id := 0) loops_none) ?_
    rw [laws_any]
    refine br_iff.2 ⟨fun _ => ⟨rfl, rfl⟩, fun h1 => br_iff.2 ⟨fun _ => ⟨rfl, rfl⟩, fun h2 => ?_⟩⟩
    omega
  · refine comes_of ok prS_ok (L := 100) (ms := []) hd loops_none ?_
    have : n = 0 ∨ n = 1 ∨ n = 2 ∨ n = 3 ∨ n = 4 := by omega
    rcases this with rfl | rfl | rfl | rfl | rfl
    · exact laws_c0 a b l
    · exact laws_c1 a b l
    · exact laws_c2 a b l
    · exact laws_c3 a b l
    · exact laws_c4 a b l
end Go.Proofs.Ytgmddliidplooaa
