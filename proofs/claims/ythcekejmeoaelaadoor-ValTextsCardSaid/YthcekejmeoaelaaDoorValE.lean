/- Walks: the statements of layer 1: texts. -/
import Derived.Test.YthcekejmeoaelaaDoorValC
set_option linter.unusedSimpArgs false
set_option linter.unusedVariables false
set_option maxRecDepth 100000
namespace Go.Proofs.YthcekejmeoaelaaDoor
open Go Go.Sy
attribute [local irreducible] bodyK roundK
def kTs : List Keep := [.yes, .yes, .no, .no, .no, .no, .yes, .no, .no, .no, .no, .no, .no, .no, .no, .no, .no, .no, .no, .no, .no, .yes, .yes]
def tTs (n x : Int) (N i : Nat) : List AV := [.int .i64 n, .int .u8 x, .any, .any, .any, .any, .tsl true (.int .u8) 0 0 N (.known N), .any, .any, .any, .any, .any, .any, .any, .any, .any, .any, .any, .any, .any, .any, .int .i64 N, .int .i64 i] ++ padAny 40
theorem texts_body (n x : Int) (G : LoopS) (k : AV → St → Prop) : bodyK Tryd.prog prL (addL 0 (headG 0 kTs G) noL) 100 10 [] [.int .i64 n, .int .u8 x] [] k  =
  br (decide (n < (0 : Int)))
    (k (AV.bool true) [])
    (br (decide (n > (20 : Int)))
      (k (AV.bool true) [])
      (br (decide ((0 : Int) ≤ n) && decide (n ≤ n) && decide (n ≤ (9223372036854775807 : Int)) && decide ((↑Tryd.prog.types[(5 : Nat)].bytes : Int) * n ≤ (140737488355328 : Int)))
        (G (([AV.int IntKind.i64 n, AV.int IntKind.u8 x, .any, .any, .any, .any, AV.tsl true (Sh.int IntKind.u8) (0 : Nat) (0 : Nat) n.toNat (Cap.known n.toNat), .any, .any, .any, .any, .any, .any, .any, .any, .any, .any, .any, .any, .any, .any, AV.int IntKind.i64 (↑n.toNat : Int), AV.int IntKind.i64 (0 : Int)] ++ padAny 40)) ([Ent.tbl false (Sh.int IntKind.u8) (List.replicate n.toNat D.nul)]) (contB Tryd.prog prL (addL 0 (headG 0 kTs G) noL) 100 10 [] [] 0 k))
        (False))) := by kernel_rfl
theorem texts_round (n x : Int) (N i : Nat) (l : List D) (more : List AV → St → Prop) (kk : KS) : roundK Tryd.prog prL noL 100 10 0 (tTs n x N i) [.tbl false (.int .u8) l] (againK 0 0 kTs kTs more kk) =
  br (decide ((↑i : Int) < (↑N : Int)))
    (br (decide ((0 : Int) ≤ (↑i : Int)) && decide ((↑i : Int) < (↑N : Int)))
      (br (decide ((0 : Nat) + (↑i : Int).toNat < l.length))
        (more ([AV.int IntKind.i64 n, AV.int IntKind.u8 x, .any, .any, .any, .any, AV.tsl true (Sh.int IntKind.u8) (0 : Nat) (0 : Nat) N (Cap.known N), .any, .any, .any, .any, .any, .any, .any, .any, .any, .any, .any, .any, .any, .any, AV.int IntKind.i64 (↑N : Int), AV.int IntKind.i64 (IntKind.i64.wrap ((↑i : Int) + (1 : Int)))] ++ padAny 40) [Ent.tbl false (Sh.int IntKind.u8) (l.set ((0 : Nat) + (↑i : Int).toNat) (D.int x))])
        (False))
      (False))
    (kk Ex.normal ([AV.int IntKind.i64 n, AV.int IntKind.u8 x, .any, .any, .any, .any, AV.tsl true (Sh.int IntKind.u8) (0 : Nat) (0 : Nat) N (Cap.known N), .any, .any, .any, .any, .any, .any, .any, .any, .any, .any, .any, .any, .any, .any, AV.int IntKind.i64 (↑N : Int), AV.int IntKind.i64 (↑i : Int)] ++ padAny 40) [Ent.tbl false (Sh.int IntKind.u8) l]) := by kernel_rfl
theorem texts_end (n x : Int) (N i : Nat) (l : List D) (F : LoopS) (k : AV → St → Prop) : contB Tryd.prog prL (addL 0 F noL) 100 10 [] [] 0 k .normal (tTs n x N i) [.tbl false (.int .u8) l] =
  br (decide (n ≤ (12 : Int)))
    (br (decide (n = (0 : Int)))
      (br (((0 : Nat) + N).ble l.length)
        (br (decide ((bytesD (List.take N (List.drop (0 : Nat) l))).length < (1000 : Nat)))
          (br (mayV (2 : Int) (0 : Int) (bytesD (List.take N (List.drop (0 : Nat) l))) == true)
            (br (((0 : Nat) + N).ble l.length)
              (br (decide ((bytesD (List.take N (List.drop (0 : Nat) l))).length < (1000 : Nat)))
                (k (AV.bool (mayV (1 : Int) (0 : Int) (bytesD (List.take N (List.drop (0 : Nat) l))) == decide (n = (0 : Int)))) [])
                (False))
              (False))
            (k (AV.bool false) []))
          (False))
        (False))
      (br (decide (x ≥ (32 : Int)))
        (br (decide (x ≤ (126 : Int)))
          (br (((0 : Nat) + N).ble l.length)
            (br (decide ((bytesD (List.take N (List.drop (0 : Nat) l))).length < (1000 : Nat)))
              (br (mayV (2 : Int) (0 : Int) (bytesD (List.take N (List.drop (0 : Nat) l))) == !decide (x = (39 : Int)))
                (br (((0 : Nat) + N).ble l.length)
                  (br (decide ((bytesD (List.take N (List.drop (0 : Nat) l))).length < (1000 : Nat)))
                    (k (AV.bool (mayV (1 : Int) (0 : Int) (bytesD (List.take N (List.drop (0 : Nat) l))) == decide (n = (0 : Int)))) [])
                    (False))
                  (False))
                (k (AV.bool false) []))
              (False))
            (False))
          (br (((0 : Nat) + N).ble l.length)
            (br (decide ((bytesD (List.take N (List.drop (0 : Nat) l))).length < (1000 : Nat)))
              (br (mayV (2 : Int) (0 : Int) (bytesD (List.take N (List.drop (0 : Nat) l))) == false)
                (br (((0 : Nat) + N).ble l.length)
                  (br (decide ((bytesD (List.take N (List.drop (0 : Nat) l))).length < (1000 : Nat)))
                    (k (AV.bool (mayV (1 : Int) (0 : Int) (bytesD (List.take N (List.drop (0 : Nat) l))) == decide (n = (0 : Int)))) [])
                    (False))
                  (False))
                (k (AV.bool false) []))
              (False))
            (False)))
        (br (((0 : Nat) + N).ble l.length)
          (br (decide ((bytesD (List.take N (List.drop (0 : Nat) l))).length < (1000 : Nat)))
            (br (mayV (2 : Int) (0 : Int) (bytesD (List.take N (List.drop (0 : Nat) l))) == false)
              (br (((0 : Nat) + N).ble l.length)
                (br (decide ((bytesD (List.take N (List.drop (0 : Nat) l))).length < (1000 : Nat)))
                  (k (AV.bool (mayV (1 : Int) (0 : Int) (bytesD (List.take N (List.drop (0 : Nat) l))) == decide (n = (0 : Int)))) [])
                  (False))
                (False))
              (k (AV.bool false) []))
            (False))
          (False))))
    (br (((0 : Nat) + N).ble l.length)
      (br (decide ((bytesD (List.take N (List.drop (0 : Nat) l))).length < (1000 : Nat)))
        (br (mayV (2 : Int) (0 : Int) (bytesD (List.take N (List.drop (0 : Nat) l))) == false)
          (br (((0 : Nat) + N).ble l.length)
            (br (decide ((bytesD (List.take N (List.drop (0 : Nat) l))).length < (1000 : Nat)))
              (k (AV.bool (mayV (1 : Int) (0 : Int) (bytesD (List.take N (List.drop (0 : Nat) l))) == decide (n = (0 : Int)))) [])
              (False))
            (False))
          (k (AV.bool false) []))
        (False))
      (False)) := by kernel_rfl
def MTs (n x : Int) (N z : Nat) (t : List AV) (s : St) (k : KS) : Prop := ∃ i : Nat, z + i = N ∧ t = tTs n x N i ∧ s = [.tbl false (.int .u8) (List.replicate i (.int x) ++ List.replicate (N - i) .nul)] ∧ k .normal (tTs n x N N) [.tbl false (.int .u8) (List.replicate N (.int x))]
theorem texts_step (n x : Int) (N : Nat) (hN : N ≤ 20) : ∀ z t s k, MTs n x N z t s k → roundK Tryd.prog prL noL 100 10 0 t s (againK 0 0 kTs kTs (fun t' s' => ∃ z', z' < z ∧ MTs n x N z' t' s' k) k) := by
  rintro z t s k ⟨i, hz, rfl, rfl, hk⟩
  rw [texts_round]
  refine br_iff.2 ⟨fun h1 => br_t (by simp; omega) (br_t (by simp; omega) ⟨N - (i + 1), by omega, i + 1, by omega, ?_, ?_, hk⟩), fun h1 => ?_⟩
  · simp only [tTs, wrap64 (x := (i : Int) + 1) (by omega) (by omega)]
    simp
  · rw [Nat.zero_add, Int.toNat_natCast, fill_set (by omega)]
  · have e : i = N := by omega
    subst e
    rw [Nat.sub_self, List.replicate_zero, List.append_nil]
    exact hk
theorem texts_comes (n x : Int) (hx : 0 ≤ x) (hx' : x ≤ 255) : Sy.Comes Tryd.prog 10 [.int .i64 n, .int .u8 x] [] (.bool true) [] := by
  have hd : distinctOk Tryd.prog 10 = true := by kernel_rfl
  have hb : Tryd.prog.types[(5 : Nat)].bytes = 1 := by kernel_rfl
  by_cases hn : n < 0 ∨ n > 20
  · refine comes_of ok prL_ok (L := 100) (ms := []) hd (loops_add (L := 100) (kh := kTs) ok prL_ok hd loops_none (texts_step n x 0 (by omega))) ?_
    refine Eq.mpr (texts_body n x _ _) ?_
    refine br_iff.2 ⟨fun h => ⟨rfl, rfl⟩, fun h1 => br_iff.2 ⟨fun h => ⟨rfl, rfl⟩, fun h2 => ?_⟩⟩
    omega
  · have hN : n.toNat ≤ 20 := by omega
    refine comes_of ok prL_ok (L := 100) (ms := []) hd (loops_add (L := 100) (kh := kTs) ok prL_ok hd loops_none (texts_step n x n.toNat hN)) ?_
    refine Eq.mpr (texts_body n x _ _) ?_
    refine br_iff.2 ⟨fun h => absurd (.inl h) hn, fun h1 => br_iff.2 ⟨fun h => absurd (.inr h) hn, fun h2 => br_t (by rw [hb]; simp; omega) ?_⟩⟩
    refine ⟨n.toNat, 0, by omega, rfl, by simp, ?_⟩
    rw [texts_end, bytes_rep]
    have e1 : ((0 : Nat) + n.toNat).ble (List.replicate n.toNat (D.int x)).length = true := Nat.ble_eq_true_of_le (by simp)
    have e2 : decide ((List.replicate n.toNat (UInt8.ofNat x.toNat)).length < 1000) = true := by simp; omega
    have ey : ((UInt8.ofNat x.toNat).toNat : Int) = x := by simp; omega
    have e3 : mayV 1 0 (List.replicate n.toNat (UInt8.ofNat x.toNat)) = decide (n = 0) := by
      rw [Bool.eq_iff_iff]; simp [mayV, eqBytes_iff]; omega
    have e4 : mayV 2 0 (List.replicate n.toNat (UInt8.ofNat x.toNat)) = ((decide (n = 0) || !(decide (x < 32) || decide (x > 126) || decide (x = 39))) && decide (n ≤ 12)) := by
      have : mayV 2 0 (List.replicate n.toNat (UInt8.ofNat x.toNat)) = (txtOk (List.replicate n.toNat (UInt8.ofNat x.toNat)) && decide (((List.replicate n.toNat (UInt8.ofNat x.toNat)).length : Int) ≤ 12)) := by simp [mayV]
      rw [this, txtOk_rep, ey, List.length_replicate]
      congr 1
      · congr 1; rw [decide_eq_decide]; omega
      · rw [decide_eq_decide]; omega
    rw [e1, e2, e3, e4]
    by_cases h12 : n ≤ 12
    · by_cases h0 : n = 0
      · simp [br, h0]
      · by_cases p1 : x ≥ 32
        · have q1 : ¬ x < 32 := by omega
          by_cases p2 : x ≤ 126
          · have q2 : ¬ x > 126 := by omega
            simp [br, h12, h0, p1, p2, q1, q2]
          · have q2 : x > 126 := by omega
            simp [br, h12, h0, p1, p2, q1, q2]
        · have q1 : x < 32 := by omega
          simp [br, h12, h0, p1, q1]
    · simp [br, h12]
end Go.Proofs.YthcekejmeoaelaaDoor
