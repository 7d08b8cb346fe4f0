/- Walks: values, rows of values. -/
import Derived.Test.YteoockodkddipaaPvA
import Derived.Test.YteoockodkddipaaProg
import Derived.KernelRfl
set_option linter.unusedSimpArgs false
set_option linter.unusedVariables false
set_option maxRecDepth 100000
namespace Go.Proofs.Yteoockodkddipaa
open Go Go.Sy
attribute [local irreducible] bodyK roundK
theorem d1 : Try.prog.follows .mixedOrders = true := by kernel_rfl
theorem d2 : namesOkA Try.prog = true := by kernel_rfl
theorem d3 : drawsAllA Try.prog = true := by kernel_rfl
theorem d4 : extsOkA Try.prog = true := by kernel_rfl
theorem ok : ProgOk Try.prog := progOk_of d1 d2 d3 d4

/- ### Cut -/
theorem cut_body (c : List UInt8) (n : Int) (k : AV → St → Prop) : bodyK Try.prog noP noL 100 22 [] [.str c, .int .i64 n] [] k =
  br (decide ((↑c.length : Int) > n))
    (br (decide ((0 : Int) ≤ n) && decide (n ≤ (↑c.length : Int)) && true)
      (k (AV.str (List.drop (0 : Nat) (List.take n.toNat c))) [])
      (False))
    (k (AV.str c) []) := by kernel_rfl
theorem cut_ok : SpecOk Try.prog 22 cutF.f := specOk_comes fun args s v s' tch e => by
  simp only [cutF] at e
  split at e
  · rename_i c n
    obtain ⟨hg, rfl, rfl, rfl⟩ := run_ok e
    have hg := of_decide_eq_true hg
    refine comes_of ok prOk_none (L := 100) (ms := []) (by kernel_rfl) loops_none ?_
    rw [cut_body]
    refine br_iff.2 ⟨fun h => br_t (by simp; omega) ⟨by simp [cutS, h], rfl⟩, fun h => ⟨by simp [cutS, h], rfl⟩⟩
  · cases e

/- ### Val -/
def prV : FuncId → Option Sy.Spec := addP 22 cutF noP
theorem prV_ok : PrOk Try.prog prV := prOk_add cut_ok prOk_none
theorem val_body (a b : Int) (c : List UInt8) (k : AV → St → Prop) : bodyK Try.prog prV noL 100 33 [] [.agg [.int .i64 a, .int .i64 b, .str c]] [] k =
  k (AV.agg [AV.int IntKind.i64 a, AV.int IntKind.i64 b, AV.str (cutS c (20 : Int))]) [] := by kernel_rfl
theorem val_ok : SpecOk Try.prog 33 valF.f := specOk_comes fun args s v s' tch e => by
  simp only [valF] at e
  split at e
  · rename_i a b c
    obtain ⟨hg, rfl, rfl, rfl⟩ := run_ok e
    refine comes_of ok prV_ok (L := 100) (ms := []) (by kernel_rfl) loops_none ?_
    rw [val_body]
    exact ⟨rfl, rfl⟩
  · cases e

/- ### Compare -/
theorem cmp_body (a b : Int) (c : List UInt8) (a' b' : Int) (c' : List UInt8) (k : AV → St → Prop) : bodyK Try.prog noP noL 100 34 [] [.agg [.int .i64 a, .int .i64 b, .str c], .agg [.int .i64 a', .int .i64 b', .str c']] [] k =
  br (decide (a < a'))
    (br (decide (a < a'))
      (k (AV.int IntKind.i64 (-1 : Int)) [])
      (br (decide (a = a'))
        (br (decide (b = b'))
          (br (eqBytes c c')
            (k (AV.int IntKind.i64 (0 : Int)) [])
            (k (AV.int IntKind.i64 (1 : Int)) []))
          (k (AV.int IntKind.i64 (1 : Int)) []))
        (k (AV.int IntKind.i64 (1 : Int)) [])))
    (br (decide (a = a'))
      (br (decide (b < b'))
        (br (decide (b < b'))
          (k (AV.int IntKind.i64 (-1 : Int)) [])
          (br (decide (a = a'))
            (br (decide (b = b'))
              (br (eqBytes c c')
                (k (AV.int IntKind.i64 (0 : Int)) [])
                (k (AV.int IntKind.i64 (1 : Int)) []))
              (k (AV.int IntKind.i64 (1 : Int)) []))
            (k (AV.int IntKind.i64 (1 : Int)) [])))
        (br (decide (a = a'))
          (br (decide (b = b'))
            (br (ltBytes c c')
              (k (AV.int IntKind.i64 (-1 : Int)) [])
              (br (decide (a = a'))
                (br (decide (b = b'))
                  (br (eqBytes c c')
                    (k (AV.int IntKind.i64 (0 : Int)) [])
                    (k (AV.int IntKind.i64 (1 : Int)) []))
                  (k (AV.int IntKind.i64 (1 : Int)) []))
                (k (AV.int IntKind.i64 (1 : Int)) [])))
            (br (decide (a = a'))
              (br (decide (b = b'))
                (br (eqBytes c c')
                  (k (AV.int IntKind.i64 (0 : Int)) [])
                  (k (AV.int IntKind.i64 (1 : Int)) []))
                (k (AV.int IntKind.i64 (1 : Int)) []))
              (k (AV.int IntKind.i64 (1 : Int)) [])))
          (br (decide (a = a'))
            (br (decide (b = b'))
              (br (eqBytes c c')
                (k (AV.int IntKind.i64 (0 : Int)) [])
                (k (AV.int IntKind.i64 (1 : Int)) []))
              (k (AV.int IntKind.i64 (1 : Int)) []))
            (k (AV.int IntKind.i64 (1 : Int)) []))))
      (br (decide (a = a'))
        (br (decide (b = b'))
          (br (ltBytes c c')
            (k (AV.int IntKind.i64 (-1 : Int)) [])
            (br (decide (a = a'))
              (br (decide (b = b'))
                (br (eqBytes c c')
                  (k (AV.int IntKind.i64 (0 : Int)) [])
                  (k (AV.int IntKind.i64 (1 : Int)) []))
                (k (AV.int IntKind.i64 (1 : Int)) []))
              (k (AV.int IntKind.i64 (1 : Int)) [])))
          (br (decide (a = a'))
            (br (decide (b = b'))
              (br (eqBytes c c')
                (k (AV.int IntKind.i64 (0 : Int)) [])
                (k (AV.int IntKind.i64 (1 : Int)) []))
              (k (AV.int IntKind.i64 (1 : Int)) []))
            (k (AV.int IntKind.i64 (1 : Int)) [])))
        (br (decide (a = a'))
          (br (decide (b = b'))
            (br (eqBytes c c')
              (k (AV.int IntKind.i64 (0 : Int)) [])
              (k (AV.int IntKind.i64 (1 : Int)) []))
            (k (AV.int IntKind.i64 (1 : Int)) []))
          (k (AV.int IntKind.i64 (1 : Int)) [])))) := by kernel_rfl
theorem cmp_ok : SpecOk Try.prog 34 cmpF.f := specOk_comes fun args s v s' tch e => by
  simp only [cmpF] at e
  split at e
  · rename_i a b c a' b' c'
    obtain ⟨hg, rfl, rfl, rfl⟩ := run_ok e
    refine comes_of ok prOk_none (L := 100) (ms := []) (by kernel_rfl) loops_none ?_
    rw [cmp_body]
    simp only [br_iff]
    simp only [cmp3]
    by_cases h1 : a < a' <;> by_cases h2 : a = a' <;> by_cases h3 : b < b' <;> by_cases h4 : b = b' <;> cases h5 : ltBytes c c' <;> cases h6 : eqBytes c c' <;> simp [h1, h2, h3, h4, h5, h6, br]
  · cases e

/- ### Vals -/
def prVs : FuncId → Option Sy.Spec := addP 33 valF noP
theorem prVs_ok : PrOk Try.prog prVs := prOk_add val_ok prOk_none
def kVs : List Keep := [.yes, .yes, .no, .no, .no, .bld shV, .yes]
def tVs (l m : List D) (n : Int) (i : Nat) : List AV := [.fz false shV l, .int .i64 n, .any, .any, .any, .tsl false shV 0 0 m.length .tight, .int .i64 (i : Int)] ++ padAny 20
theorem vals_round (l m : List D) (n : Int) (i : Nat) (more : List AV → St → Prop) (kk : KS) : roundK Try.prog prVs noL 100 8 0 (tVs l m n i) [.tbl false shV m] (againK 0 0 kVs kVs more kk) =
  br (decide ((↑i : Int) < (↑l.length : Int)))
    (br (decide ((↑i : Int) < n))
      (br (decide ((0 : Int) ≤ (↑i : Int)) && decide ((↑i : Int) < (↑l.length : Int)))
        (br ((((3 : Nat) * (m.length + (1 : Nat)) + (2000 : Nat)) * (32 : Nat)).ble (281474976710656 : Nat) && ((0 : Nat) + m.length).ble m.length)
          (more ([AV.fz false (shV) l, AV.int IntKind.i64 n, .any, .any, .any, AV.tsl false (shV) (0 : Nat) (0 : Nat) (m.length + (1 : Nat)) Cap.tight, AV.int IntKind.i64 (IntKind.i64.wrap ((↑i : Int) + (1 : Int)))] ++ padAny 20) [Ent.tbl false (shV) (List.take m.length (List.drop (0 : Nat) m) ++ [D.agg [D.int ((l.getD (↑i : Int).toNat D.nul).fld (0 : Nat)).asInt, D.int ((l.getD (↑i : Int).toNat D.nul).fld (1 : Nat)).asInt, D.str (cutS ((l.getD (↑i : Int).toNat D.nul).fld (2 : Nat)).asStr (20 : Int))]])])
          (False))
        (False))
      (kk Ex.normal ([AV.fz false (shV) l, AV.int IntKind.i64 n, .any, .any, .any, AV.tsl false (shV) (0 : Nat) (0 : Nat) m.length Cap.tight, AV.int IntKind.i64 (↑i : Int)] ++ padAny 20) [Ent.tbl false (shV) m]))
    (kk Ex.normal ([AV.fz false (shV) l, AV.int IntKind.i64 n, .any, .any, .any, AV.tsl false (shV) (0 : Nat) (0 : Nat) m.length Cap.tight, AV.int IntKind.i64 (↑i : Int)] ++ padAny 20) [Ent.tbl false (shV) m]) := by kernel_rfl
def MVs (n : Int) (l : List D) (m : Nat) (t : List AV) (s : St) (k : KS) : Prop := ∃ i : Nat, m + i = l.length ∧ (i : Int) ≤ n ∧ t = tVs l ((l.take i).map valD) n i ∧ s = [.tbl false shV ((l.take i).map valD)] ∧
  ∀ j : Nat, k .normal (tVs l (valsD l n) n j) [.tbl false shV (valsD l n)]
theorem vals_step (n : Int) (hn : n ≤ 1000) (l : List D) : ∀ m t s k, MVs n l m t s k → roundK Try.prog prVs noL 100 8 0 t s (againK 0 0 kVs kVs (fun t' s' => ∃ m', m' < m ∧ MVs n l m' t' s' k) k) := by
  rintro m t s k ⟨i, hm, hi, rfl, rfl, hk⟩
  rw [vals_round]
  have hlen : ((l.take i).map valD).length = i := by simp; omega
  have done : (¬ (i : Int) < l.length ∨ ¬ (i : Int) < n) → valsD l n = (l.take i).map valD := by
    intro h
    unfold valsD
    congr 1
    rcases h with h | h
    · rw [List.take_of_length_le (by omega), List.take_of_length_le (by omega)]
    · rw [show n.toNat = i by omega]
  refine br_iff.2 ⟨fun h1 => br_iff.2 ⟨fun h2 => br_t (by simp; omega) (br_t ?_ ⟨l.length - (i + 1), by omega, i + 1, by omega, by omega, ?_, ?_, hk⟩), fun h2 => ?_⟩, fun h1 => ?_⟩
  · rw [hlen]; simp; omega
  · simp only [tVs, hlen, wrap64 (x := (i : Int) + 1) (by omega) (by omega), take_one (show i < l.length by omega)]
    simp [padAny]
    omega
  · rw [take_all, take_one (show i < l.length by omega)]
    simp [valD, mkV, cutS, vK, vN, vS, shV]
  · have := hk i
    rw [done (.inr h2)] at this
    exact this
  · have := hk i
    rw [done (.inl h1)] at this
    exact this
theorem vals_body (l : List D) (n : Int) (G : LoopS) (k : AV → St → Prop) : bodyK Try.prog prVs (addL 0 (headG 0 kVs G) noL) 100 8 [.data (.slice shV)] [.fz false shV l, .int .i64 n] [] k  =
  G (([AV.fz false (shV) l, AV.int IntKind.i64 n, .any, .any, .any, AV.tsl false (shV) (0 : Nat) (0 : Nat) (0 : Nat) Cap.tight, AV.int IntKind.i64 (0 : Int)] ++ padAny 20)) ([Ent.tbl false (shV) []]) (contB Try.prog prVs (addL 0 (headG 0 kVs G) noL) 100 8 [.data (.slice shV)] [] 0 k) := by kernel_rfl
theorem vals_end (l m : List D) (n : Int) (i : Nat) (F : LoopS) (k : AV → St → Prop) : contB Try.prog prVs (addL 0 F noL) 100 8 [.data (.slice shV)] [] 0 k .normal (tVs l m n i) [.tbl false shV m] =
  br (((0 : Nat) + m.length).ble m.length && true)
    (k (AV.fz false (shV) (List.take m.length (List.drop (0 : Nat) m))) [])
    (False) := by kernel_rfl
theorem vals_ok : SpecOk Try.prog 8 valsF.f := specOk_comes fun args s v s' tch e => by
  simp only [valsF] at e
  split at e
  · rename_i sh l n
    obtain ⟨hg, rfl, rfl, rfl⟩ := run_ok e
    simp only [Bool.and_eq_true, decide_eq_true_eq] at hg
    obtain ⟨hsh, h0, hn⟩ := hg
    have := Sh.beq_eq _ _ hsh
    subst this
    have hd : distinctOk Try.prog 8 = true := by kernel_rfl
    refine comes_of ok prVs_ok (L := 100) (ms := [.data (.slice shV)]) hd (loops_add (L := 100) (kh := kVs) ok prVs_ok hd loops_none (vals_step n hn l)) ?_
    show bodyK _ _ _ _ _ _ _ _ _
    refine Eq.mpr (vals_body l n _ _) ?_
    refine ⟨l.length, 0, by omega, h0, rfl, rfl, fun j => ?_⟩
    rw [vals_end]
    exact br_t (by simp) ⟨by simp, rfl⟩
  · cases e

/- ### Row -/
def prR : FuncId → Option Sy.Spec := addP 34 cmpF noP
theorem prR_ok : PrOk Try.prog prR := prOk_add cmp_ok prOk_none
def kRow : List Keep := [.yes, .yes, .no, .no, .yes, .yes]
def tRow (l m : List D) (c : Int) (i : Nat) : List AV := [.fz false shV l, .fz false shV m, .any, .any, .int .i64 c, .int .i64 (i : Int)] ++ padAny 37
theorem row_round (l m : List D) (i : Nat) (more : List AV → St → Prop) (kk : KS) : roundK Try.prog prR noL 100 10 0 (tRow l m 0 i) [] (againK 0 0 kRow kRow more kk) =
  br (decide ((↑i : Int) < (↑l.length : Int)))
    (br (decide ((↑i : Int) < (↑m.length : Int)))
      (br (decide ((0 : Int) ≤ (↑i : Int)) && decide ((↑i : Int) < (↑l.length : Int)))
        (br (decide ((0 : Int) ≤ (↑i : Int)) && decide ((↑i : Int) < (↑m.length : Int)))
          (br (!decide (cmp3 ((l.getD (↑i : Int).toNat D.nul).fld (0 : Nat)).asInt ((l.getD (↑i : Int).toNat D.nul).fld (1 : Nat)).asInt ((l.getD (↑i : Int).toNat D.nul).fld (2 : Nat)).asStr ((m.getD (↑i : Int).toNat D.nul).fld (0 : Nat)).asInt ((m.getD (↑i : Int).toNat D.nul).fld (1 : Nat)).asInt ((m.getD (↑i : Int).toNat D.nul).fld (2 : Nat)).asStr = (0 : Int)))
            (kk Ex.ret ([AV.fz false (shV) l, AV.fz false (shV) m, .any, .any, AV.int IntKind.i64 (cmp3 ((l.getD (↑i : Int).toNat D.nul).fld (0 : Nat)).asInt ((l.getD (↑i : Int).toNat D.nul).fld (1 : Nat)).asInt ((l.getD (↑i : Int).toNat D.nul).fld (2 : Nat)).asStr ((m.getD (↑i : Int).toNat D.nul).fld (0 : Nat)).asInt ((m.getD (↑i : Int).toNat D.nul).fld (1 : Nat)).asInt ((m.getD (↑i : Int).toNat D.nul).fld (2 : Nat)).asStr), AV.int IntKind.i64 (↑i : Int)] ++ padAny 37) [])
            (more ([AV.fz false (shV) l, AV.fz false (shV) m, .any, .any, AV.int IntKind.i64 (0 : Int), AV.int IntKind.i64 (IntKind.i64.wrap ((↑i : Int) + (1 : Int)))] ++ padAny 37) []))
          (False))
        (False))
      (kk Ex.normal ([AV.fz false (shV) l, AV.fz false (shV) m, .any, .any, AV.int IntKind.i64 (0 : Int), AV.int IntKind.i64 (↑i : Int)] ++ padAny 37) []))
    (kk Ex.normal ([AV.fz false (shV) l, AV.fz false (shV) m, .any, .any, AV.int IntKind.i64 (0 : Int), AV.int IntKind.i64 (↑i : Int)] ++ padAny 37) []) := by kernel_rfl
theorem row_body (l m : List D) (G : LoopS) (k : AV → St → Prop) : bodyK Try.prog prR (addL 0 (headG 0 kRow G) noL) 100 10 [] [.fz false shV l, .fz false shV m] [] k  =
  G (([AV.fz false (shV) l, AV.fz false (shV) m, .any, .any, AV.int IntKind.i64 (0 : Int), AV.int IntKind.i64 (0 : Int)] ++ padAny 37)) ([]) (contB Try.prog prR (addL 0 (headG 0 kRow G) noL) 100 10 [] [] 0 k) := by kernel_rfl
theorem row_end (l m : List D) (c : Int) (i : Nat) (F : LoopS) (k : AV → St → Prop) : contB Try.prog prR (addL 0 F noL) 100 10 [] [] 0 k .normal (tRow l m c i) [] =
  br (decide ((↑l.length : Int) < (↑m.length : Int)))
    (k (AV.int IntKind.i64 (-1 : Int)) [])
    (br (decide ((↑l.length : Int) > (↑m.length : Int)))
      (k (AV.int IntKind.i64 (1 : Int)) [])
      (k (AV.int IntKind.i64 (0 : Int)) [])) := by kernel_rfl
theorem row_ret (l m : List D) (c : Int) (i : Nat) (F : LoopS) (k : AV → St → Prop) : contB Try.prog prR (addL 0 F noL) 100 10 [] [] 0 k .ret (tRow l m c i) [] =
  k (AV.int IntKind.i64 c) [] := by kernel_rfl
def MRow (l m : List D) (z : Nat) (t : List AV) (s : St) (k : KS) : Prop := ∃ i : Nat, z + i = l.length ∧ i ≤ m.length ∧ t = tRow l m 0 i ∧ s = [] ∧
  match rowL (l.drop i) (m.drop i) with
  | some c => ∀ j : Nat, k .ret (tRow l m c j) []
  | none => ∀ j : Nat, k .normal (tRow l m 0 j) []
theorem row_step (l m : List D) (hl : l.length < 2 ^ 62) : ∀ z t s k, MRow l m z t s k → roundK Try.prog prR noL 100 10 0 t s (againK 0 0 kRow kRow (fun t' s' => ∃ z', z' < z ∧ MRow l m z' t' s' k) k) := by
  rintro z t s k ⟨i, hz, hi, rfl, rfl, hk⟩
  rw [row_round]
  have done : (¬ (i : Int) < l.length ∨ ¬ (i : Int) < m.length) → rowL (l.drop i) (m.drop i) = none := by
    intro h
    rcases h with h | h
    · rw [List.drop_eq_nil_of_le (by omega)]; simp [rowL]
    · rw [List.drop_eq_nil_of_le (show m.length ≤ i by omega)]; unfold rowL; split <;> simp_all
  refine br_iff.2 ⟨fun h1 => br_iff.2 ⟨fun h2 => br_t (by simp; omega) (br_t (by simp; omega) ?_), fun h2 => ?_⟩, fun h1 => ?_⟩
  · have e1 : l.drop i = l.getD i .nul :: l.drop (i + 1) := drop_one (by omega)
    have e2 : m.drop i = m.getD i .nul :: m.drop (i + 1) := drop_one (by omega)
    rw [e1, e2] at hk
    simp only [rowL] at hk
    refine br_mk (fun h => ?_) (fun h => ?_)
    · have h : ¬ cmpD (l.getD i .nul) (m.getD i .nul) = 0 := by simpa [cmpD, vK, vN, vS] using h
      rw [if_neg h] at hk
      exact hk i
    · have h : cmpD (l.getD i .nul) (m.getD i .nul) = 0 := by simpa [cmpD, vK, vN, vS] using h
      rw [if_pos h] at hk
      refine ⟨l.length - (i + 1), by omega, i + 1, by omega, by omega, ?_, rfl, hk⟩
      simp only [tRow, wrap64 (x := (i : Int) + 1) (by omega) (by omega)]
      simp [padAny, shV]
  · rw [done (.inr h2)] at hk
    exact hk i
  · rw [done (.inl h1)] at hk
    exact hk i
theorem row_ok : SpecOk Try.prog 10 rowF.f := specOk_comes fun args s v s' tch e => by
  simp only [rowF] at e
  split at e
  · rename_i sh l sh' m
    obtain ⟨hg, rfl, rfl, rfl⟩ := run_ok e
    simp only [Bool.and_eq_true, decide_eq_true_eq] at hg
    obtain ⟨⟨hsh, hsh'⟩, hl⟩ := hg
    have := Sh.beq_eq _ _ hsh
    subst this
    have := Sh.beq_eq _ _ hsh'
    subst this
    have hd : distinctOk Try.prog 10 = true := by kernel_rfl
    refine comes_of ok prR_ok (L := 100) (ms := []) hd (loops_add (L := 100) (kh := kRow) ok prR_ok hd loops_none (row_step l m hl)) ?_
    refine Eq.mpr (row_body l m _ _) ?_
    refine ⟨l.length, 0, by omega, by omega, rfl, rfl, ?_⟩
    simp only [List.drop_zero]
    cases h : rowL l m with
    | some c =>
      intro j
      rw [row_ret]
      exact ⟨by simp [rowD, h], rfl⟩
    | none =>
      intro j
      rw [row_end]
      simp only [br_iff, rowD, h]
      refine ⟨fun h => ⟨by rw [if_pos (by omega)], trivial⟩, fun h1 => ⟨fun h2 => ⟨by rw [if_neg (by omega), if_pos (by omega)], trivial⟩, fun h2 => ⟨by rw [if_neg (by omega), if_neg (by omega)], trivial⟩⟩⟩
  · cases e
end Go.Proofs.Yteoockodkddipaa
