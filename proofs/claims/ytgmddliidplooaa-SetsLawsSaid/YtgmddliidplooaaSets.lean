/- Walks: sets. -/
import Derived.Test.YtgmddliidplooaaPvB
import Derived.Test.YtgmddliidplooaaVal
set_option linter.unusedSimpArgs false
set_option linter.unusedVariables false
set_option maxRecDepth 100000
namespace Go.Proofs.Ytgmddliidplooaa
open Go Go.Sy
attribute [local irreducible] bodyK roundK
/- ### Clone -/
theorem clone_body (l : List D) (k : AV → St → Prop) : bodyK Try.prog noP noL 100 31 [] [.fz true shV l] [] k =
  br ((((3 : Nat) * ((0 : Nat) + l.length) + (2000 : Nat)) * (32 : Nat)).ble (281474976710656 : Nat))
    (k (AV.tsl true (shV) (0 : Nat) (0 : Nat) ((0 : Nat) + l.length) Cap.tight) [Ent.tbl false (shV) l])
    (False) := by kernel_rfl
theorem clone_nil (k : AV → St → Prop) : bodyK Try.prog noP noL 100 31 [] [.nilSl] [] k =
  k AV.nilSl [] := by kernel_rfl
theorem clone_ok : SpecOk Try.prog 31 cloneF.f := specOk_comes fun args s v s' tch e => by
  simp only [cloneF] at e
  split at e
  · rename_i sh l
    obtain ⟨hg, rfl, rfl, rfl⟩ := run_ok e
    simp only [Bool.and_eq_true, decide_eq_true_eq] at hg
    obtain ⟨hsh, hl⟩ := hg
    have := Sh.beq_eq _ _ hsh
    subst this
    have hd : distinctOk Try.prog 31 = true := by kernel_rfl
    refine comes_fz [] [] (comes_weak (comes_of ok prOk_none (L := 100) (ms := []) hd loops_none ?_)) fun h => ?_
    · rw [List.nil_append, clone_body]
      exact br_t (by simp; omega) ⟨by simp, by simp⟩
    · subst h
      exact comes_nil (comes_of ok prOk_none (L := 100) (ms := []) hd loops_none (Eq.mpr (clone_nil _) ⟨rfl, rfl⟩))
  · cases e
/- ### Cut -/
def prC : FuncId → Option Sy.Spec := addP 31 cloneF noP
theorem prC_ok : PrOk Try.prog prC := prOk_add clone_ok prOk_none
def kC : List Keep := [.yes, .no, .no, .no, .no, .yes, .no, .no, .no, .no, .yes, .yes]
def tC (mask : Int) (m : List D) (n : Int) (i : Nat) : List AV := [.int .i64 mask, .any, .any, .any, .any, .tsl false shV 0 0 m.length .tight, .any, .any, .any, .any, .int .i64 n, .int .i64 (i : Int)] ++ padAny 17
theorem scut_round (m : List D) (mask n : Int) (i : Nat) (more : List AV → St → Prop) (kk : KS) : roundK Try.prog prC noL 100 14 0 (tC mask m n i) [.tbl false shV m] (againK 0 0 kC kC more kk) =
  br (decide ((↑i : Int) < n))
    (br (decide ((↑i : Int) > (62 : Int)))
      (br (decide ((0 : Int) ≤ (↑i : Int)) && decide ((↑i : Int) < (↑m.length : Int)))
        (br (decide ((0 : Nat) + (↑i : Int).toNat < m.length))
          (more ([AV.int IntKind.i64 mask, .any, .any, .any, .any, AV.tsl false (shV) (0 : Nat) (0 : Nat) m.length Cap.tight, .any, .any, .any, .any, AV.int IntKind.i64 n, AV.int IntKind.i64 (IntKind.i64.wrap ((↑i : Int) + (1 : Int)))] ++ padAny 17) [Ent.tbl false (shV) (m.set ((0 : Nat) + (↑i : Int).toNat) (D.agg [D.int (0 : Int), D.int (0 : Int), D.str []]))])
          (False))
        (False))
      (br (decide (IntKind.i64.wrap (↑(BitVec.ofInt IntKind.i64.bits (mask.fdiv ((2 : Int) ^ min (↑i : Int).toNat IntKind.i64.bits)) &&& BitVec.ofInt IntKind.i64.bits (1 : Int)).toNat : Int) = (0 : Int)))
        (br (decide ((0 : Int) ≤ (↑i : Int)) && decide ((↑i : Int) < (↑m.length : Int)))
          (br (decide ((0 : Nat) + (↑i : Int).toNat < m.length))
            (more ([AV.int IntKind.i64 mask, .any, .any, .any, .any, AV.tsl false (shV) (0 : Nat) (0 : Nat) m.length Cap.tight, .any, .any, .any, .any, AV.int IntKind.i64 n, AV.int IntKind.i64 (IntKind.i64.wrap ((↑i : Int) + (1 : Int)))] ++ padAny 17) [Ent.tbl false (shV) (m.set ((0 : Nat) + (↑i : Int).toNat) (D.agg [D.int (0 : Int), D.int (0 : Int), D.str []]))])
            (False))
          (False))
        (more ([AV.int IntKind.i64 mask, .any, .any, .any, .any, AV.tsl false (shV) (0 : Nat) (0 : Nat) m.length Cap.tight, .any, .any, .any, .any, AV.int IntKind.i64 n, AV.int IntKind.i64 (IntKind.i64.wrap ((↑i : Int) + (1 : Int)))] ++ padAny 17) [Ent.tbl false (shV) m])))
    (kk Ex.normal ([AV.int IntKind.i64 mask, .any, .any, .any, .any, AV.tsl false (shV) (0 : Nat) (0 : Nat) m.length Cap.tight, .any, .any, .any, .any, AV.int IntKind.i64 n, AV.int IntKind.i64 (↑i : Int)] ++ padAny 17) [Ent.tbl false (shV) m]) := by kernel_rfl
theorem scut_body (l : List D) (mask : Int) (G : LoopS) (k : AV → St → Prop) : bodyK Try.prog prC (addL 0 (headG 0 kC G) noL) 100 14 [.data (.slice shV)] [.int .i64 mask, .fz false shV l] [] k  =
  br (decide ((D.list l).els.length < (1000000 : Nat)))
    (G (([AV.int IntKind.i64 mask, .any, .any, .any, .any, AV.tsl false (shV) (0 : Nat) (0 : Nat) l.length Cap.tight, .any, .any, .any, .any, AV.int IntKind.i64 (↑l.length : Int), AV.int IntKind.i64 (0 : Int)] ++ padAny 17)) ([Ent.tbl false (shV) l]) (contB Try.prog prC (addL 0 (headG 0 kC G) noL) 100 14 [.data (.slice shV)] [] 0 k))
    (False) := by kernel_rfl
theorem scut_end (m : List D) (mask n : Int) (i : Nat) (F : LoopS) (k : AV → St → Prop) : contB Try.prog prC (addL 0 F noL) 100 14 [.data (.slice shV)] [] 0 k .normal (tC mask m n i) [.tbl false shV m] =
  br (((0 : Nat) + m.length).ble m.length && true)
    (k (AV.fz false (shV) (List.take m.length (List.drop (0 : Nat) m))) [])
    (False) := by kernel_rfl
def MC (mask : Int) (l : List D) (z : Nat) (t : List AV) (s : St) (k : KS) : Prop := ∃ i : Nat, z + i = l.length ∧ t = tC mask (cutTo mask l i) l.length i ∧ s = [.tbl false shV (cutTo mask l i)] ∧
  ∀ j : Nat, k .normal (tC mask (cutD mask l) l.length j) [.tbl false shV (cutD mask l)]
theorem scut_step (mask : Int) (l : List D) (hl : l.length < 1000000) : ∀ z t s k, MC mask l z t s k → roundK Try.prog prC noL 100 14 0 t s (againK 0 0 kC kC (fun t' s' => ∃ z', z' < z ∧ MC mask l z' t' s' k) k) := by
  rintro z t s k ⟨i, hz, rfl, rfl, hk⟩
  rw [scut_round]
  have hset : ∀ h : (i > 62 ∨ bitI mask i = 0), i < l.length → ∃ z', z' < z ∧ MC mask l z' (tC mask (cutTo mask l i) l.length (i + 1)) [.tbl false shV ((cutTo mask l i).set i nulV)] k := by
    intro h hi
    refine ⟨l.length - (i + 1), by omega, i + 1, by omega, ?_, by rw [cutTo_set h], hk⟩
    simp only [tC, cutTo_len]
  have hw : ∀ hi : i < l.length, IntKind.i64.wrap ((i : Int) + 1) = ((i + 1 : Nat) : Int) := fun hi => by rw [wrap64 (by omega) (by omega)]; rfl
  refine br_iff.2 ⟨fun h1 => br_iff.2 ⟨fun h2 => br_t (by simp [cutTo_len]; omega) (br_t (by simp [cutTo_len]; omega) ?_), fun h2 => br_iff.2 ⟨fun h3 => br_t (by simp [cutTo_len]; omega) (br_t (by simp [cutTo_len]; omega) ?_), fun h3 => ?_⟩⟩, fun h1 => ?_⟩
  · rw [hw (by omega)]
    simp only [Int.toNat_natCast, Nat.zero_add]
    exact hset (.inl (by omega)) (by omega)
  · rw [hw (by omega)]
    simp only [Int.toNat_natCast, Nat.zero_add]
    exact hset (.inr h3) (by omega)
  · rw [hw (by omega)]
    have h4 : ¬ (i > 62 ∨ bitI mask i = 0) := by
      rintro (h | h)
      · omega
      · exact h3 h
    refine ⟨l.length - (i + 1), by omega, i + 1, by omega, ?_, by rw [cutTo_keep h4], hk⟩
    simp only [tC, cutTo_len]
  · have := hk i
    rw [← cutTo_all (i := i) (by omega)] at this
    exact this
theorem scut_ok : SpecOk Try.prog 14 scutF.f := specOk_comes fun args s v s' tch e => by
  simp only [scutF] at e
  split at e
  · rename_i mask sh l
    obtain ⟨hg, rfl, rfl, rfl⟩ := run_ok e
    simp only [Bool.and_eq_true, decide_eq_true_eq] at hg
    obtain ⟨hsh, hl⟩ := hg
    have := Sh.beq_eq _ _ hsh
    subst this
    have hd : distinctOk Try.prog 14 = true := by kernel_rfl
    refine comes_of ok prC_ok (L := 100) (ms := [.data (.slice shV)]) hd (loops_add (L := 100) (kh := kC) ok prC_ok hd loops_none (scut_step mask l hl)) ?_
    refine Eq.mpr (scut_body l mask _ _) ?_
    refine br_t (decide_eq_true hl) ⟨l.length, 0, by omega, by rw [cutTo_zero]; rfl, by rw [cutTo_zero], fun j => ?_⟩
    rw [scut_end]
    exact br_t (by simp) ⟨by simp, rfl⟩
  · cases e
/- ### the reference's -/
def kR : List Keep := [.yes, .yes, .no, .no, .no, .yes, .yes]
def tR (mask : Int) (l m : List D) (i : Nat) : List AV := [.int .i64 mask, .fz false shV l, .any, .any, .any, .tsl true shV 0 0 m.length (.known m.length), .int .i64 (i : Int)] ++ padAny 23
theorem rcut_round (l m : List D) (mask : Int) (i : Nat) (more : List AV → St → Prop) (kk : KS) : roundK Try.prog noP noL 100 15 0 (tR mask l m i) [.tbl false shV m] (againK 0 0 kR kR more kk) =
  br (decide ((↑i : Int) < (↑l.length : Int)))
    (br (decide (IntKind.i64.wrap (↑(BitVec.ofInt IntKind.i64.bits (mask.fdiv ((2 : Int) ^ min (IntKind.u64.wrap (↑i : Int)).toNat IntKind.i64.bits)) &&& BitVec.ofInt IntKind.i64.bits (1 : Int)).toNat : Int) = (1 : Int)))
      (br (decide ((0 : Int) ≤ (↑i : Int)) && decide ((↑i : Int) < (↑l.length : Int)))
        (br (decide ((0 : Int) ≤ (↑i : Int)) && decide ((↑i : Int) < (↑m.length : Int)))
          (br (decide ((0 : Nat) + (↑i : Int).toNat < m.length))
            (more ([AV.int IntKind.i64 mask, AV.fz false (shV) l, .any, .any, .any, AV.tsl true (shV) (0 : Nat) (0 : Nat) m.length (Cap.known m.length), AV.int IntKind.i64 (IntKind.i64.wrap ((↑i : Int) + (1 : Int)))] ++ padAny 23) [Ent.tbl false (shV) (m.set ((0 : Nat) + (↑i : Int).toNat) (D.agg [D.int ((l.getD (↑i : Int).toNat D.nul).fld (0 : Nat)).asInt, D.int ((l.getD (↑i : Int).toNat D.nul).fld (1 : Nat)).asInt, D.str ((l.getD (↑i : Int).toNat D.nul).fld (2 : Nat)).asStr]))])
            (False))
          (False))
        (False))
      (more ([AV.int IntKind.i64 mask, AV.fz false (shV) l, .any, .any, .any, AV.tsl true (shV) (0 : Nat) (0 : Nat) m.length (Cap.known m.length), AV.int IntKind.i64 (IntKind.i64.wrap ((↑i : Int) + (1 : Int)))] ++ padAny 23) [Ent.tbl false (shV) m]))
    (kk Ex.normal ([AV.int IntKind.i64 mask, AV.fz false (shV) l, .any, .any, .any, AV.tsl true (shV) (0 : Nat) (0 : Nat) m.length (Cap.known m.length), AV.int IntKind.i64 (↑i : Int)] ++ padAny 23) [Ent.tbl false (shV) m]) := by kernel_rfl
theorem rcut_body (l : List D) (mask : Int) (G : LoopS) (k : AV → St → Prop) : bodyK Try.prog noP (addL 0 (headG 0 kR G) noL) 100 15 [.data (.slice shV)] [.int .i64 mask, .fz false shV l] [] k  =
  br (decide ((0 : Int) ≤ (↑l.length : Int)) && decide ((↑l.length : Int) ≤ (↑l.length : Int)) && decide ((↑l.length : Int) ≤ (9223372036854775807 : Int)) && decide ((↑Try.prog.types[(53 : Nat)].bytes : Int) * (↑l.length : Int) ≤ (140737488355328 : Int)))
    (G (([AV.int IntKind.i64 mask, AV.fz false (shV) l, .any, .any, .any, AV.tsl true (shV) (0 : Nat) (0 : Nat) (↑l.length : Int).toNat (Cap.known (↑l.length : Int).toNat), AV.int IntKind.i64 (0 : Int)] ++ padAny 23)) ([Ent.tbl false (shV) (List.replicate (↑l.length : Int).toNat D.nul)]) (contB Try.prog noP (addL 0 (headG 0 kR G) noL) 100 15 [.data (.slice shV)] [] 0 k))
    (False) := by kernel_rfl
theorem rcut_end (l m : List D) (mask : Int) (i : Nat) (F : LoopS) (k : AV → St → Prop) : contB Try.prog noP (addL 0 F noL) 100 15 [.data (.slice shV)] [] 0 k .normal (tR mask l m i) [.tbl false shV m] =
  br (((0 : Nat) + m.length).ble m.length && true)
    (k (AV.fz false (shV) (List.take m.length (List.drop (0 : Nat) m))) [])
    (False) := by kernel_rfl
def MR (mask : Int) (l : List D) (z : Nat) (t : List AV) (s : St) (k : KS) : Prop := ∃ i : Nat, z + i = l.length ∧ t = tR mask l (rcutTo mask l i) i ∧ s = [.tbl false shV (rcutTo mask l i)] ∧
  ∀ j : Nat, k .normal (tR mask l (rcutD mask l) j) [.tbl false shV (rcutD mask l)]
theorem rcut_step (mask : Int) (l : List D) (hl : l.length < 1000000) : ∀ z t s k, MR mask l z t s k → roundK Try.prog noP noL 100 15 0 t s (againK 0 0 kR kR (fun t' s' => ∃ z', z' < z ∧ MR mask l z' t' s' k) k) := by
  rintro z t s k ⟨i, hz, rfl, rfl, hk⟩
  rw [rcut_round]
  have hw : ∀ hi : i < l.length, IntKind.i64.wrap ((i : Int) + 1) = ((i + 1 : Nat) : Int) := fun hi => by rw [wrap64 (by omega) (by omega)]; rfl
  have hu : ∀ hi : i < l.length, IntKind.u64.wrap (i : Int) = (i : Int) := fun hi => by simp only [IntKind.wrap, IntKind.bits, IntKind.signed]; simp; omega
  refine br_iff.2 ⟨fun h1 => ?_, fun h1 => ?_⟩
  · rw [hw (by omega), hu (by omega)]
    simp only [Int.toNat_natCast, Nat.zero_add]
    refine br_iff.2 ⟨fun h2 => br_t (by simp; omega) (br_t (by simp [rcutTo_len]; omega) (br_t (by simp [rcutTo_len]; omega) ?_)), fun h2 => ?_⟩
    · refine ⟨l.length - (i + 1), by omega, i + 1, by omega, ?_, by rw [← rcutTo_set h2]; rfl, hk⟩
      simp only [tR, rcutTo_len]
    · refine ⟨l.length - (i + 1), by omega, i + 1, by omega, ?_, by rw [rcutTo_keep h2], hk⟩
      simp only [tR, rcutTo_len]
  · have := hk i
    rw [← rcutTo_all (i := i) (by omega)] at this
    exact this
theorem rcut_ok : SpecOk Try.prog 15 rcutF.f := specOk_comes fun args s v s' tch e => by
  simp only [rcutF] at e
  split at e
  · rename_i mask sh l
    obtain ⟨hg, rfl, rfl, rfl⟩ := run_ok e
    simp only [Bool.and_eq_true, decide_eq_true_eq] at hg
    obtain ⟨hsh, hl⟩ := hg
    have := Sh.beq_eq _ _ hsh
    subst this
    have hd : distinctOk Try.prog 15 = true := by kernel_rfl
    have hb : Try.prog.types[(53 : Nat)].bytes = 32 := by kernel_rfl
    refine comes_of ok prOk_none (L := 100) (ms := [.data (.slice shV)]) hd (loops_add (L := 100) (kh := kR) ok prOk_none hd loops_none (rcut_step mask l hl)) ?_
    refine Eq.mpr (rcut_body l mask _ _) ?_
    refine br_t (by rw [hb]; simp; omega) ⟨l.length, 0, by omega, by rw [rcutTo_zero]; simp [tR]; try rfl, by rw [rcutTo_zero]; try rfl, fun j => ?_⟩
    rw [rcut_end]
    exact br_t (by simp) ⟨by simp, rfl⟩
  · cases e
/- ### Masks -/
theorem masks_any (mode n : Int) (k : AV → St → Prop) : bodyK Try.prog noP (addL 0 noF noL) 100 11 [.data (.slice (.int .i64))] [.int .i64 mode, .int .i64 n] [] k =
  br (decide (n < (0 : Int)))
    (k (AV.fz false (Sh.int IntKind.i64) []) [])
    (br (decide (n > (4 : Int)))
      (k (AV.fz false (Sh.int IntKind.i64) []) [])
      (br (!decide (n < (0 : Int)))
        (False)
        (False))) := by kernel_rfl
theorem rmasks_any (mode n : Int) (k : AV → St → Prop) : bodyK Try.prog noP (addL 0 noF noL) 100 12 [.data (.slice (.int .i64))] [.int .i64 mode, .int .i64 n] [] k =
  br (decide (n < (0 : Int)))
    (k (AV.fz false (Sh.int IntKind.i64) []) [])
    (br (decide (n > (4 : Int)))
      (k (AV.fz false (Sh.int IntKind.i64) []) [])
      (False)) := by kernel_rfl
theorem masks_0 (mode : Int) (k : AV → St → Prop) : bodyK Try.prog noP noL 100 11 [.data (.slice (.int .i64))] [.int .i64 mode, .int .i64 0] [] k =
  br (decide (mode = (0 : Int)))
    (k (AV.fz false (Sh.int IntKind.i64) [D.int (0 : Int)]) [])
    (br (decide (mode = (1 : Int)))
      (k (AV.fz false (Sh.int IntKind.i64) (List.take (1 : Nat) (List.drop (0 : Nat) [D.int (0 : Int)]))) [])
      (br (decide (mode = (2 : Int)))
        (k (AV.fz false (Sh.int IntKind.i64) (List.take (1 : Nat) (List.drop (0 : Nat) [D.int (0 : Int)]))) [])
        (k (AV.fz false (Sh.int IntKind.i64) []) []))) := by kernel_rfl
theorem rmasks_0 (mode : Int) (k : AV → St → Prop) : bodyK Try.prog noP noL 100 12 [.data (.slice (.int .i64))] [.int .i64 mode, .int .i64 0] [] k =
  br (decide (mode = (0 : Int)))
    (k (AV.fz false (Sh.int IntKind.i64) (List.take (1 : Nat) (List.drop (0 : Nat) [D.int (0 : Int)]))) [])
    (br (decide (mode = (1 : Int)))
      (k (AV.fz false (Sh.int IntKind.i64) (List.take (1 : Nat) (List.drop (0 : Nat) [D.int (0 : Int)]))) [])
      (br (decide (mode = (2 : Int)))
        (k (AV.fz false (Sh.int IntKind.i64) (List.take (1 : Nat) (List.drop (0 : Nat) [D.int (0 : Int)]))) [])
        (k (AV.fz false (Sh.int IntKind.i64) []) []))) := by kernel_rfl
theorem masks_1 (mode : Int) (k : AV → St → Prop) : bodyK Try.prog noP noL 100 11 [.data (.slice (.int .i64))] [.int .i64 mode, .int .i64 1] [] k =
  br (decide (mode = (0 : Int)))
    (k (AV.fz false (Sh.int IntKind.i64) [D.int (1 : Int)]) [])
    (br (decide (mode = (1 : Int)))
      (k (AV.fz false (Sh.int IntKind.i64) (List.take (2 : Nat) (List.drop (0 : Nat) (List.take (1 : Nat) (List.drop (0 : Nat) [D.int (1 : Int)]) ++ [D.int (0 : Int)])))) [])
      (br (decide (mode = (2 : Int)))
        (k (AV.fz false (Sh.int IntKind.i64) (List.take (2 : Nat) (List.drop (0 : Nat) (List.take (1 : Nat) (List.drop (0 : Nat) [D.int (1 : Int)]) ++ [D.int (0 : Int)])))) [])
        (k (AV.fz false (Sh.int IntKind.i64) []) []))) := by kernel_rfl
theorem rmasks_1 (mode : Int) (k : AV → St → Prop) : bodyK Try.prog noP noL 100 12 [.data (.slice (.int .i64))] [.int .i64 mode, .int .i64 1] [] k =
  br (decide (mode = (0 : Int)))
    (k (AV.fz false (Sh.int IntKind.i64) (List.take (1 : Nat) (List.drop (0 : Nat) [D.int (1 : Int)]))) [])
    (br (decide (mode = (1 : Int)))
      (k (AV.fz false (Sh.int IntKind.i64) (List.take (2 : Nat) (List.drop (0 : Nat) (List.take (1 : Nat) (List.drop (0 : Nat) [D.int (1 : Int)]) ++ [D.int (0 : Int)])))) [])
      (br (decide (mode = (2 : Int)))
        (k (AV.fz false (Sh.int IntKind.i64) (List.take (2 : Nat) (List.drop (0 : Nat) (List.take (1 : Nat) (List.drop (0 : Nat) [D.int (1 : Int)]) ++ [D.int (0 : Int)])))) [])
        (k (AV.fz false (Sh.int IntKind.i64) []) []))) := by kernel_rfl
theorem masks_2 (mode : Int) (k : AV → St → Prop) : bodyK Try.prog noP noL 100 11 [.data (.slice (.int .i64))] [.int .i64 mode, .int .i64 2] [] k =
  br (decide (mode = (0 : Int)))
    (k (AV.fz false (Sh.int IntKind.i64) [D.int (3 : Int)]) [])
    (br (decide (mode = (1 : Int)))
      (k (AV.fz false (Sh.int IntKind.i64) (List.take (3 : Nat) (List.drop (0 : Nat) (List.take (2 : Nat) (List.drop (0 : Nat) (List.take (1 : Nat) (List.drop (0 : Nat) [D.int (3 : Int)]) ++ [D.int (1 : Int)])) ++ [D.int (0 : Int)])))) [])
      (br (decide (mode = (2 : Int)))
        (k (AV.fz false (Sh.int IntKind.i64) (List.take (4 : Nat) (List.drop (0 : Nat) (List.take (3 : Nat) (List.drop (0 : Nat) (List.take (2 : Nat) (List.drop (0 : Nat) (List.take (1 : Nat) (List.drop (0 : Nat) [D.int (3 : Int)]) ++ [D.int (2 : Int)])) ++ [D.int (1 : Int)])) ++ [D.int (0 : Int)])))) [])
        (k (AV.fz false (Sh.int IntKind.i64) []) []))) := by kernel_rfl
theorem rmasks_2 (mode : Int) (k : AV → St → Prop) : bodyK Try.prog noP noL 100 12 [.data (.slice (.int .i64))] [.int .i64 mode, .int .i64 2] [] k =
  br (decide (mode = (0 : Int)))
    (k (AV.fz false (Sh.int IntKind.i64) (List.take (1 : Nat) (List.drop (0 : Nat) [D.int (3 : Int)]))) [])
    (br (decide (mode = (1 : Int)))
      (k (AV.fz false (Sh.int IntKind.i64) (List.take (3 : Nat) (List.drop (0 : Nat) (List.take (2 : Nat) (List.drop (0 : Nat) (List.take (1 : Nat) (List.drop (0 : Nat) [D.int (3 : Int)]) ++ [D.int (1 : Int)])) ++ [D.int (0 : Int)])))) [])
      (br (decide (mode = (2 : Int)))
        (k (AV.fz false (Sh.int IntKind.i64) (List.take (4 : Nat) (List.drop (0 : Nat) (List.take (3 : Nat) (List.drop (0 : Nat) (List.take (2 : Nat) (List.drop (0 : Nat) (List.take (1 : Nat) (List.drop (0 : Nat) [D.int (3 : Int)]) ++ [D.int (2 : Int)])) ++ [D.int (1 : Int)])) ++ [D.int (0 : Int)])))) [])
        (k (AV.fz false (Sh.int IntKind.i64) []) []))) := by kernel_rfl
theorem masks_3 (mode : Int) (k : AV → St → Prop) : bodyK Try.prog noP noL 100 11 [.data (.slice (.int .i64))] [.int .i64 mode, .int .i64 3] [] k =
  br (decide (mode = (0 : Int)))
    (k (AV.fz false (Sh.int IntKind.i64) [D.int (7 : Int)]) [])
    (br (decide (mode = (1 : Int)))
      (k (AV.fz false (Sh.int IntKind.i64) (List.take (4 : Nat) (List.drop (0 : Nat) (List.take (3 : Nat) (List.drop (0 : Nat) (List.take (2 : Nat) (List.drop (0 : Nat) (List.take (1 : Nat) (List.drop (0 : Nat) [D.int (7 : Int)]) ++ [D.int (3 : Int)])) ++ [D.int (1 : Int)])) ++ [D.int (0 : Int)])))) [])
      (br (decide (mode = (2 : Int)))
        (k (AV.fz false (Sh.int IntKind.i64) (List.take (8 : Nat) (List.drop (0 : Nat) (List.take (7 : Nat) (List.drop (0 : Nat) (List.take (6 : Nat) (List.drop (0 : Nat) (List.take (5 : Nat) (List.drop (0 : Nat) (List.take (4 : Nat) (List.drop (0 : Nat) (List.take (3 : Nat) (List.drop (0 : Nat) (List.take (2 : Nat) (List.drop (0 : Nat) (List.take (1 : Nat) (List.drop (0 : Nat) [D.int (7 : Int)]) ++ [D.int (6 : Int)])) ++ [D.int (5 : Int)])) ++ [D.int (4 : Int)])) ++ [D.int (3 : Int)])) ++ [D.int (2 : Int)])) ++ [D.int (1 : Int)])) ++ [D.int (0 : Int)])))) [])
        (k (AV.fz false (Sh.int IntKind.i64) []) []))) := by kernel_rfl
theorem rmasks_3 (mode : Int) (k : AV → St → Prop) : bodyK Try.prog noP noL 100 12 [.data (.slice (.int .i64))] [.int .i64 mode, .int .i64 3] [] k =
  br (decide (mode = (0 : Int)))
    (k (AV.fz false (Sh.int IntKind.i64) (List.take (1 : Nat) (List.drop (0 : Nat) [D.int (7 : Int)]))) [])
    (br (decide (mode = (1 : Int)))
      (k (AV.fz false (Sh.int IntKind.i64) (List.take (4 : Nat) (List.drop (0 : Nat) (List.take (3 : Nat) (List.drop (0 : Nat) (List.take (2 : Nat) (List.drop (0 : Nat) (List.take (1 : Nat) (List.drop (0 : Nat) [D.int (7 : Int)]) ++ [D.int (3 : Int)])) ++ [D.int (1 : Int)])) ++ [D.int (0 : Int)])))) [])
      (br (decide (mode = (2 : Int)))
        (k (AV.fz false (Sh.int IntKind.i64) (List.take (8 : Nat) (List.drop (0 : Nat) (List.take (7 : Nat) (List.drop (0 : Nat) (List.take (6 : Nat) (List.drop (0 : Nat) (List.take (5 : Nat) (List.drop (0 : Nat) (List.take (4 : Nat) (List.drop (0 : Nat) (List.take (3 : Nat) (List.drop (0 : Nat) (List.take (2 : Nat) (List.drop (0 : Nat) (List.take (1 : Nat) (List.drop (0 : Nat) [D.int (7 : Int)]) ++ [D.int (6 : Int)])) ++ [D.int (5 : Int)])) ++ [D.int (4 : Int)])) ++ [D.int (3 : Int)])) ++ [D.int (2 : Int)])) ++ [D.int (1 : Int)])) ++ [D.int (0 : Int)])))) [])
        (k (AV.fz false (Sh.int IntKind.i64) []) []))) := by kernel_rfl
theorem masks_4 (mode : Int) (k : AV → St → Prop) : bodyK Try.prog noP noL 100 11 [.data (.slice (.int .i64))] [.int .i64 mode, .int .i64 4] [] k =
  br (decide (mode = (0 : Int)))
    (k (AV.fz false (Sh.int IntKind.i64) [D.int (15 : Int)]) [])
    (br (decide (mode = (1 : Int)))
      (k (AV.fz false (Sh.int IntKind.i64) (List.take (5 : Nat) (List.drop (0 : Nat) (List.take (4 : Nat) (List.drop (0 : Nat) (List.take (3 : Nat) (List.drop (0 : Nat) (List.take (2 : Nat) (List.drop (0 : Nat) (List.take (1 : Nat) (List.drop (0 : Nat) [D.int (15 : Int)]) ++ [D.int (7 : Int)])) ++ [D.int (3 : Int)])) ++ [D.int (1 : Int)])) ++ [D.int (0 : Int)])))) [])
      (br (decide (mode = (2 : Int)))
        (k (AV.fz false (Sh.int IntKind.i64) (List.take (16 : Nat) (List.drop (0 : Nat) (List.take (15 : Nat) (List.drop (0 : Nat) (List.take (14 : Nat) (List.drop (0 : Nat) (List.take (13 : Nat) (List.drop (0 : Nat) (List.take (12 : Nat) (List.drop (0 : Nat) (List.take (11 : Nat) (List.drop (0 : Nat) (List.take (10 : Nat) (List.drop (0 : Nat) (List.take (9 : Nat) (List.drop (0 : Nat) (List.take (8 : Nat) (List.drop (0 : Nat) (List.take (7 : Nat) (List.drop (0 : Nat) (List.take (6 : Nat) (List.drop (0 : Nat) (List.take (5 : Nat) (List.drop (0 : Nat) (List.take (4 : Nat) (List.drop (0 : Nat) (List.take (3 : Nat) (List.drop (0 : Nat) (List.take (2 : Nat) (List.drop (0 : Nat) (List.take (1 : Nat) (List.drop (0 : Nat) [D.int (15 : Int)]) ++ [D.int (14 : Int)])) ++ [D.int (13 : Int)])) ++ [D.int (12 : Int)])) ++ [D.int (11 : Int)])) ++ [D.int (10 : Int)])) ++ [D.int (9 : Int)])) ++ [D.int (8 : Int)])) ++ [D.int (7 : Int)])) ++ [D.int (6 : Int)])) ++ [D.int (5 : Int)])) ++ [D.int (4 : Int)])) ++ [D.int (3 : Int)])) ++ [D.int (2 : Int)])) ++ [D.int (1 : Int)])) ++ [D.int (0 : Int)])))) [])
        (k (AV.fz false (Sh.int IntKind.i64) []) []))) := by kernel_rfl
theorem rmasks_4 (mode : Int) (k : AV → St → Prop) : bodyK Try.prog noP noL 100 12 [.data (.slice (.int .i64))] [.int .i64 mode, .int .i64 4] [] k =
  br (decide (mode = (0 : Int)))
    (k (AV.fz false (Sh.int IntKind.i64) (List.take (1 : Nat) (List.drop (0 : Nat) [D.int (15 : Int)]))) [])
    (br (decide (mode = (1 : Int)))
      (k (AV.fz false (Sh.int IntKind.i64) (List.take (5 : Nat) (List.drop (0 : Nat) (List.take (4 : Nat) (List.drop (0 : Nat) (List.take (3 : Nat) (List.drop (0 : Nat) (List.take (2 : Nat) (List.drop (0 : Nat) (List.take (1 : Nat) (List.drop (0 : Nat) [D.int (15 : Int)]) ++ [D.int (7 : Int)])) ++ [D.int (3 : Int)])) ++ [D.int (1 : Int)])) ++ [D.int (0 : Int)])))) [])
      (br (decide (mode = (2 : Int)))
        (k (AV.fz false (Sh.int IntKind.i64) (List.take (16 : Nat) (List.drop (0 : Nat) (List.take (15 : Nat) (List.drop (0 : Nat) (List.take (14 : Nat) (List.drop (0 : Nat) (List.take (13 : Nat) (List.drop (0 : Nat) (List.take (12 : Nat) (List.drop (0 : Nat) (List.take (11 : Nat) (List.drop (0 : Nat) (List.take (10 : Nat) (List.drop (0 : Nat) (List.take (9 : Nat) (List.drop (0 : Nat) (List.take (8 : Nat) (List.drop (0 : Nat) (List.take (7 : Nat) (List.drop (0 : Nat) (List.take (6 : Nat) (List.drop (0 : Nat) (List.take (5 : Nat) (List.drop (0 : Nat) (List.take (4 : Nat) (List.drop (0 : Nat) (List.take (3 : Nat) (List.drop (0 : Nat) (List.take (2 : Nat) (List.drop (0 : Nat) (List.take (1 : Nat) (List.drop (0 : Nat) [D.int (15 : Int)]) ++ [D.int (14 : Int)])) ++ [D.int (13 : Int)])) ++ [D.int (12 : Int)])) ++ [D.int (11 : Int)])) ++ [D.int (10 : Int)])) ++ [D.int (9 : Int)])) ++ [D.int (8 : Int)])) ++ [D.int (7 : Int)])) ++ [D.int (6 : Int)])) ++ [D.int (5 : Int)])) ++ [D.int (4 : Int)])) ++ [D.int (3 : Int)])) ++ [D.int (2 : Int)])) ++ [D.int (1 : Int)])) ++ [D.int (0 : Int)])))) [])
        (k (AV.fz false (Sh.int IntKind.i64) []) []))) := by kernel_rfl
theorem masks_c0 (mode : Int) : bodyK Try.prog noP noL 100 11 [.data (.slice (.int .i64))] [.int .i64 mode, .int .i64 0] [] (fun v1 s1 => v1 = .fz false (.int .i64) (masksD mode 0) ∧ s1 = []) := by
  rw [masks_0]
  refine br_iff.2 ⟨fun h => ⟨by subst h; kernel_rfl, rfl⟩, fun h0 => br_iff.2 ⟨fun h => ⟨by subst h; kernel_rfl, rfl⟩, fun h1 => br_iff.2 ⟨fun h => ⟨by subst h; kernel_rfl, rfl⟩, fun h2 => ⟨by simp [masksD, masksN, h0, h1, h2], rfl⟩⟩⟩⟩
theorem masks_c1 (mode : Int) : bodyK Try.prog noP noL 100 11 [.data (.slice (.int .i64))] [.int .i64 mode, .int .i64 1] [] (fun v1 s1 => v1 = .fz false (.int .i64) (masksD mode 1) ∧ s1 = []) := by
  rw [masks_1]
  refine br_iff.2 ⟨fun h => ⟨by subst h; kernel_rfl, rfl⟩, fun h0 => br_iff.2 ⟨fun h => ⟨by subst h; kernel_rfl, rfl⟩, fun h1 => br_iff.2 ⟨fun h => ⟨by subst h; kernel_rfl, rfl⟩, fun h2 => ⟨by simp [masksD, masksN, h0, h1, h2], rfl⟩⟩⟩⟩
theorem masks_c2 (mode : Int) : bodyK Try.prog noP noL 100 11 [.data (.slice (.int .i64))] [.int .i64 mode, .int .i64 2] [] (fun v1 s1 => v1 = .fz false (.int .i64) (masksD mode 2) ∧ s1 = []) := by
  rw [masks_2]
  refine br_iff.2 ⟨fun h => ⟨by subst h; kernel_rfl, rfl⟩, fun h0 => br_iff.2 ⟨fun h => ⟨by subst h; kernel_rfl, rfl⟩, fun h1 => br_iff.2 ⟨fun h => ⟨by subst h; kernel_rfl, rfl⟩, fun h2 => ⟨by simp [masksD, masksN, h0, h1, h2], rfl⟩⟩⟩⟩
theorem masks_c3 (mode : Int) : bodyK Try.prog noP noL 100 11 [.data (.slice (.int .i64))] [.int .i64 mode, .int .i64 3] [] (fun v1 s1 => v1 = .fz false (.int .i64) (masksD mode 3) ∧ s1 = []) := by
  rw [masks_3]
  refine br_iff.2 ⟨fun h => ⟨by subst h; kernel_rfl, rfl⟩, fun h0 => br_iff.2 ⟨fun h => ⟨by subst h; kernel_rfl, rfl⟩, fun h1 => br_iff.2 ⟨fun h => ⟨by subst h; kernel_rfl, rfl⟩, fun h2 => ⟨by simp [masksD, masksN, h0, h1, h2], rfl⟩⟩⟩⟩
theorem masks_c4 (mode : Int) : bodyK Try.prog noP noL 100 11 [.data (.slice (.int .i64))] [.int .i64 mode, .int .i64 4] [] (fun v1 s1 => v1 = .fz false (.int .i64) (masksD mode 4) ∧ s1 = []) := by
  rw [masks_4]
  refine br_iff.2 ⟨fun h => ⟨by subst h; kernel_rfl, rfl⟩, fun h0 => br_iff.2 ⟨fun h => ⟨by subst h; kernel_rfl, rfl⟩, fun h1 => br_iff.2 ⟨fun h => ⟨by subst h; kernel_rfl, rfl⟩, fun h2 => ⟨by simp [masksD, masksN, h0, h1, h2], rfl⟩⟩⟩⟩
theorem masks_ok : SpecOk Try.prog 11 masksF.f := specOk_comes fun args s v s' tch e => by
  simp only [masksF] at e
  split at e
  · rename_i mode n
    obtain ⟨hg, rfl, rfl, rfl⟩ := run_ok e
    have hd : distinctOk Try.prog 11 = true := by kernel_rfl
    by_cases hn : n < 0 ∨ n > 4
    · refine comes_of ok prOk_none (L := 100) (ms := [.data (.slice (.int .i64))]) hd (loops_false (id := 0) loops_none) ?_
      refine Eq.mpr (masks_any mode n _) ?_
      refine br_iff.2 ⟨fun h => ⟨by simp [masksD, h], rfl⟩, fun h => br_iff.2 ⟨fun h => ⟨by simp [masksD, hn], rfl⟩, fun h' => ?_⟩⟩
      omega
    · refine comes_of ok prOk_none (L := 100) (ms := [.data (.slice (.int .i64))]) hd loops_none ?_
      have : n = 0 ∨ n = 1 ∨ n = 2 ∨ n = 3 ∨ n = 4 := by omega
      rcases this with rfl | rfl | rfl | rfl | rfl
      · exact masks_c0 mode
      · exact masks_c1 mode
      · exact masks_c2 mode
      · exact masks_c3 mode
      · exact masks_c4 mode
  · cases e
theorem rmasks_c0 (mode : Int) : bodyK Try.prog noP noL 100 12 [.data (.slice (.int .i64))] [.int .i64 mode, .int .i64 0] [] (fun v1 s1 => v1 = .fz false (.int .i64) (masksD mode 0) ∧ s1 = []) := by
  rw [rmasks_0]
  refine br_iff.2 ⟨fun h => ⟨by subst h; kernel_rfl, rfl⟩, fun h0 => br_iff.2 ⟨fun h => ⟨by subst h; kernel_rfl, rfl⟩, fun h1 => br_iff.2 ⟨fun h => ⟨by subst h; kernel_rfl, rfl⟩, fun h2 => ⟨by simp [masksD, masksN, h0, h1, h2], rfl⟩⟩⟩⟩
theorem rmasks_c1 (mode : Int) : bodyK Try.prog noP noL 100 12 [.data (.slice (.int .i64))] [.int .i64 mode, .int .i64 1] [] (fun v1 s1 => v1 = .fz false (.int .i64) (masksD mode 1) ∧ s1 = []) := by
  rw [rmasks_1]
  refine br_iff.2 ⟨fun h => ⟨by subst h; kernel_rfl, rfl⟩, fun h0 => br_iff.2 ⟨fun h => ⟨by subst h; kernel_rfl, rfl⟩, fun h1 => br_iff.2 ⟨fun h => ⟨by subst h; kernel_rfl, rfl⟩, fun h2 => ⟨by simp [masksD, masksN, h0, h1, h2], rfl⟩⟩⟩⟩
theorem rmasks_c2 (mode : Int) : bodyK Try.prog noP noL 100 12 [.data (.slice (.int .i64))] [.int .i64 mode, .int .i64 2] [] (fun v1 s1 => v1 = .fz false (.int .i64) (masksD mode 2) ∧ s1 = []) := by
  rw [rmasks_2]
  refine br_iff.2 ⟨fun h => ⟨by subst h; kernel_rfl, rfl⟩, fun h0 => br_iff.2 ⟨fun h => ⟨by subst h; kernel_rfl, rfl⟩, fun h1 => br_iff.2 ⟨fun h => ⟨by subst h; kernel_rfl, rfl⟩, fun h2 => ⟨by simp [masksD, masksN, h0, h1, h2], rfl⟩⟩⟩⟩
theorem rmasks_c3 (mode : Int) : bodyK Try.prog noP noL 100 12 [.data (.slice (.int .i64))] [.int .i64 mode, .int .i64 3] [] (fun v1 s1 => v1 = .fz false (.int .i64) (masksD mode 3) ∧ s1 = []) := by
  rw [rmasks_3]
  refine br_iff.2 ⟨fun h => ⟨by subst h; kernel_rfl, rfl⟩, fun h0 => br_iff.2 ⟨fun h => ⟨by subst h; kernel_rfl, rfl⟩, fun h1 => br_iff.2 ⟨fun h => ⟨by subst h; kernel_rfl, rfl⟩, fun h2 => ⟨by simp [masksD, masksN, h0, h1, h2], rfl⟩⟩⟩⟩
theorem rmasks_c4 (mode : Int) : bodyK Try.prog noP noL 100 12 [.data (.slice (.int .i64))] [.int .i64 mode, .int .i64 4] [] (fun v1 s1 => v1 = .fz false (.int .i64) (masksD mode 4) ∧ s1 = []) := by
  rw [rmasks_4]
  refine br_iff.2 ⟨fun h => ⟨by subst h; kernel_rfl, rfl⟩, fun h0 => br_iff.2 ⟨fun h => ⟨by subst h; kernel_rfl, rfl⟩, fun h1 => br_iff.2 ⟨fun h => ⟨by subst h; kernel_rfl, rfl⟩, fun h2 => ⟨by simp [masksD, masksN, h0, h1, h2], rfl⟩⟩⟩⟩
theorem rmasks_ok : SpecOk Try.prog 12 masksF.f := specOk_comes fun args s v s' tch e => by
  simp only [masksF] at e
  split at e
  · rename_i mode n
    obtain ⟨hg, rfl, rfl, rfl⟩ := run_ok e
    have hd : distinctOk Try.prog 12 = true := by kernel_rfl
    by_cases hn : n < 0 ∨ n > 4
    · refine comes_of ok prOk_none (L := 100) (ms := [.data (.slice (.int .i64))]) hd (loops_false (id := 0) loops_none) ?_
      refine Eq.mpr (rmasks_any mode n _) ?_
      refine br_iff.2 ⟨fun h => ⟨by simp [masksD, h], rfl⟩, fun h => br_iff.2 ⟨fun h => ⟨by simp [masksD, hn], rfl⟩, fun h' => ?_⟩⟩
      omega
    · refine comes_of ok prOk_none (L := 100) (ms := [.data (.slice (.int .i64))]) hd loops_none ?_
      have : n = 0 ∨ n = 1 ∨ n = 2 ∨ n = 3 ∨ n = 4 := by omega
      rcases this with rfl | rfl | rfl | rfl | rfl
      · exact rmasks_c0 mode
      · exact rmasks_c1 mode
      · exact rmasks_c2 mode
      · exact rmasks_c3 mode
      · exact rmasks_c4 mode
  · cases e
end Go.Proofs.Ytgmddliidplooaa
