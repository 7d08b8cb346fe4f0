/- Walks: words of a list, each once, in order. -/
import Derived.Test.YtkfdfenaaidkkaaDictN
import Derived.Test.YtkfdfenaaidkkaaPvN
import Derived.KernelRfl
set_option linter.unusedSimpArgs false
set_option linter.unusedVariables false
set_option maxRecDepth 100000
namespace Go.Proofs.Ytkfdfenaaidkkaa
open Go Go.Sy
attribute [local irreducible] bodyK roundK
def kV : List Keep := [.yes, .no, .no, .bld .str, .yes]
def tV (nn : Bool) (l : List D) (n i : Nat) : List AV := [.fz nn .str l, .any, .any, .tsl false .str 0 0 n .tight, .int .i64 (i : Int)] ++ padAny 58
def kV2 : List Keep := [.yes, .no, .no, .bld .str, .yes, .yes]
def tV2 (nn : Bool) (l : List D) (n i a : Nat) : List AV := [.fz nn .str l, .any, .any, .tsl false .str 0 0 n .tight, .int .i64 (i : Int), .int .i64 (a : Int)] ++ padAny 57
theorem words_in (nn : Bool) (l o : List D) (n i a : Nat) (more : List AV → St → Prop) (kk : KS) : roundK Try.prog noP noL 100 14 2 (tV2 nn l n i a) [.tbl false .str o] (againK 0 2 kV2 kV2 more kk) =
  br (decide ((↑a : Int) > (0 : Int)))
    (br (decide ((0 : Int) ≤ IntKind.i64.wrap ((↑a : Int) - (1 : Int))) && decide (IntKind.i64.wrap ((↑a : Int) - (1 : Int)) < (↑n : Int)))
      (br (decide ((0 : Nat) + (IntKind.i64.wrap ((↑a : Int) - (1 : Int))).toNat < o.length))
        (br (decide ((0 : Int) ≤ (↑i : Int)) && decide ((↑i : Int) < (↑l.length : Int)))
          (br (!(ltBytes (o.getD ((0 : Nat) + (IntKind.i64.wrap ((↑a : Int) - (1 : Int))).toNat) D.nul).asStr (l.getD (↑i : Int).toNat D.nul).asStr || eqBytes (o.getD ((0 : Nat) + (IntKind.i64.wrap ((↑a : Int) - (1 : Int))).toNat) D.nul).asStr (l.getD (↑i : Int).toNat D.nul).asStr))
            (more ([AV.fz nn Sh.str l, .any, .any, AV.tsl false Sh.str (0 : Nat) (0 : Nat) n Cap.tight, AV.int IntKind.i64 (↑i : Int), AV.int IntKind.i64 (IntKind.i64.wrap ((↑a : Int) - (1 : Int)))] ++ padAny 57) [Ent.tbl false Sh.str o])
            (kk Ex.normal ([AV.fz nn Sh.str l, .any, .any, AV.tsl false Sh.str (0 : Nat) (0 : Nat) n Cap.tight, AV.int IntKind.i64 (↑i : Int), AV.int IntKind.i64 (↑a : Int)] ++ padAny 57) [Ent.tbl false Sh.str o]))
          (False))
        (False))
      (False))
    (kk Ex.normal ([AV.fz nn Sh.str l, .any, .any, AV.tsl false Sh.str (0 : Nat) (0 : Nat) n Cap.tight, AV.int IntKind.i64 (↑i : Int), AV.int IntKind.i64 (↑a : Int)] ++ padAny 57) [Ent.tbl false Sh.str o]) := by kernel_rfl
theorem words_r (nn : Bool) (l o : List D) (n i : Nat) (G : LoopS) (more : List AV → St → Prop) (kk : KS) : roundK Try.prog noP (addL 2 (headG 0 kV2 G) noL) 100 14 0 (tV nn l n i) [.tbl false .str o] (againK 0 0 kV kV more kk)  =
  br (decide ((↑i : Int) < (↑l.length : Int)))
    (G (([AV.fz nn Sh.str l, .any, .any, AV.tsl false Sh.str (0 : Nat) (0 : Nat) n Cap.tight, AV.int IntKind.i64 (↑i : Int), AV.int IntKind.i64 (↑n : Int)] ++ padAny 57)) ([Ent.tbl false Sh.str o]) (contR Try.prog noP (addL 2 (headG 0 kV2 G) noL) 100 14 0 2 (againK 0 0 kV kV more kk)))
    (kk Ex.normal ([AV.fz nn Sh.str l, .any, .any, AV.tsl false Sh.str (0 : Nat) (0 : Nat) n Cap.tight, AV.int IntKind.i64 (↑i : Int)] ++ padAny 58) [Ent.tbl false Sh.str o]) := by kernel_rfl
theorem words_c (nn : Bool) (l o : List D) (n i a : Nat) (G : LoopS) (more : List AV → St → Prop) (kk : KS) : contR Try.prog noP (addL 2 (headG 0 kV2 G) noL) 100 14 0 2 (againK 0 0 kV kV more kk) .normal (tV2 nn l n i a) [.tbl false .str o] =
  br (decide ((↑a : Int) > (0 : Int)))
    (br (decide ((0 : Int) ≤ IntKind.i64.wrap ((↑a : Int) - (1 : Int))) && decide (IntKind.i64.wrap ((↑a : Int) - (1 : Int)) < (↑n : Int)))
      (br (decide ((0 : Nat) + (IntKind.i64.wrap ((↑a : Int) - (1 : Int))).toNat < o.length))
        (br (decide ((0 : Int) ≤ (↑i : Int)) && decide ((↑i : Int) < (↑l.length : Int)))
          (br (eqBytes (o.getD ((0 : Nat) + (IntKind.i64.wrap ((↑a : Int) - (1 : Int))).toNat) D.nul).asStr (l.getD (↑i : Int).toNat D.nul).asStr)
            (more ([AV.fz nn Sh.str l, .any, .any, AV.tsl false Sh.str (0 : Nat) (0 : Nat) n Cap.tight, AV.int IntKind.i64 (IntKind.i64.wrap ((↑i : Int) + (1 : Int)))] ++ padAny 58) [Ent.tbl false Sh.str o])
            (br ((((3 : Nat) * (n + (1 : Nat)) + (2000 : Nat)) * (16 : Nat)).ble (281474976710656 : Nat) && ((0 : Nat) + n).ble o.length)
              (br (decide ((0 : Int) ≤ IntKind.i64.wrap ((↑a : Int) + (1 : Int))) && decide (IntKind.i64.wrap ((↑a : Int) + (1 : Int)) ≤ (↑(n + (1 : Nat)) : Int)))
                (br (decide ((0 : Int) ≤ (↑a : Int)) && decide ((↑a : Int) ≤ (↑(n + (1 : Nat)) : Int)))
                  (br (((0 : Nat) + (↑a : Int).toNat + (n + (1 : Nat) - (↑a : Int).toNat)).ble (List.take n (List.drop (0 : Nat) o) ++ [D.str []]).length && ((0 : Nat) + (IntKind.i64.wrap ((↑a : Int) + (1 : Int))).toNat + (n + (1 : Nat) - (IntKind.i64.wrap ((↑a : Int) + (1 : Int))).toNat)).ble (List.take n (List.drop (0 : Nat) o) ++ [D.str []]).length)
                    (br (decide ((0 : Int) ≤ (↑i : Int)) && decide ((↑i : Int) < (↑l.length : Int)))
                      (br (decide ((0 : Int) ≤ (↑a : Int)) && decide ((↑a : Int) < (↑(n + (1 : Nat)) : Int)))
                        (br (decide ((0 : Nat) + (↑a : Int).toNat < (List.take ((0 : Nat) + (IntKind.i64.wrap ((↑a : Int) + (1 : Int))).toNat) (List.take n (List.drop (0 : Nat) o) ++ [D.str []]) ++ (List.take (n + (1 : Nat) - (IntKind.i64.wrap ((↑a : Int) + (1 : Int))).toNat) (List.take (n + (1 : Nat) - (↑a : Int).toNat) (List.drop ((0 : Nat) + (↑a : Int).toNat) (List.take n (List.drop (0 : Nat) o) ++ [D.str []]))) ++ List.drop ((0 : Nat) + (IntKind.i64.wrap ((↑a : Int) + (1 : Int))).toNat + (List.take (n + (1 : Nat) - (↑a : Int).toNat) (List.drop ((0 : Nat) + (↑a : Int).toNat) (List.take n (List.drop (0 : Nat) o) ++ [D.str []]))).length.min (n + (1 : Nat) - (IntKind.i64.wrap ((↑a : Int) + (1 : Int))).toNat)) (List.take n (List.drop (0 : Nat) o) ++ [D.str []]))).length))
                          (more ([AV.fz nn Sh.str l, .any, .any, AV.tsl false Sh.str (0 : Nat) (0 : Nat) (n + (1 : Nat)) Cap.tight, AV.int IntKind.i64 (IntKind.i64.wrap ((↑i : Int) + (1 : Int)))] ++ padAny 58) [Ent.tbl false Sh.str ((List.take ((0 : Nat) + (IntKind.i64.wrap ((↑a : Int) + (1 : Int))).toNat) (List.take n (List.drop (0 : Nat) o) ++ [D.str []]) ++ (List.take (n + (1 : Nat) - (IntKind.i64.wrap ((↑a : Int) + (1 : Int))).toNat) (List.take (n + (1 : Nat) - (↑a : Int).toNat) (List.drop ((0 : Nat) + (↑a : Int).toNat) (List.take n (List.drop (0 : Nat) o) ++ [D.str []]))) ++ List.drop ((0 : Nat) + (IntKind.i64.wrap ((↑a : Int) + (1 : Int))).toNat + (List.take (n + (1 : Nat) - (↑a : Int).toNat) (List.drop ((0 : Nat) + (↑a : Int).toNat) (List.take n (List.drop (0 : Nat) o) ++ [D.str []]))).length.min (n + (1 : Nat) - (IntKind.i64.wrap ((↑a : Int) + (1 : Int))).toNat)) (List.take n (List.drop (0 : Nat) o) ++ [D.str []]))).set ((0 : Nat) + (↑a : Int).toNat) (D.str (l.getD (↑i : Int).toNat D.nul).asStr))])
                          (False))
                        (False))
                      (False))
                    (False))
                  (False))
                (False))
              (False)))
          (False))
        (False))
      (False))
    (br ((((3 : Nat) * (n + (1 : Nat)) + (2000 : Nat)) * (16 : Nat)).ble (281474976710656 : Nat) && ((0 : Nat) + n).ble o.length)
      (br (decide ((0 : Int) ≤ IntKind.i64.wrap ((↑a : Int) + (1 : Int))) && decide (IntKind.i64.wrap ((↑a : Int) + (1 : Int)) ≤ (↑(n + (1 : Nat)) : Int)))
        (br (decide ((0 : Int) ≤ (↑a : Int)) && decide ((↑a : Int) ≤ (↑(n + (1 : Nat)) : Int)))
          (br (((0 : Nat) + (↑a : Int).toNat + (n + (1 : Nat) - (↑a : Int).toNat)).ble (List.take n (List.drop (0 : Nat) o) ++ [D.str []]).length && ((0 : Nat) + (IntKind.i64.wrap ((↑a : Int) + (1 : Int))).toNat + (n + (1 : Nat) - (IntKind.i64.wrap ((↑a : Int) + (1 : Int))).toNat)).ble (List.take n (List.drop (0 : Nat) o) ++ [D.str []]).length)
            (br (decide ((0 : Int) ≤ (↑i : Int)) && decide ((↑i : Int) < (↑l.length : Int)))
              (br (decide ((0 : Int) ≤ (↑a : Int)) && decide ((↑a : Int) < (↑(n + (1 : Nat)) : Int)))
                (br (decide ((0 : Nat) + (↑a : Int).toNat < (List.take ((0 : Nat) + (IntKind.i64.wrap ((↑a : Int) + (1 : Int))).toNat) (List.take n (List.drop (0 : Nat) o) ++ [D.str []]) ++ (List.take (n + (1 : Nat) - (IntKind.i64.wrap ((↑a : Int) + (1 : Int))).toNat) (List.take (n + (1 : Nat) - (↑a : Int).toNat) (List.drop ((0 : Nat) + (↑a : Int).toNat) (List.take n (List.drop (0 : Nat) o) ++ [D.str []]))) ++ List.drop ((0 : Nat) + (IntKind.i64.wrap ((↑a : Int) + (1 : Int))).toNat + (List.take (n + (1 : Nat) - (↑a : Int).toNat) (List.drop ((0 : Nat) + (↑a : Int).toNat) (List.take n (List.drop (0 : Nat) o) ++ [D.str []]))).length.min (n + (1 : Nat) - (IntKind.i64.wrap ((↑a : Int) + (1 : Int))).toNat)) (List.take n (List.drop (0 : Nat) o) ++ [D.str []]))).length))
                  (more ([AV.fz nn Sh.str l, .any, .any, AV.tsl false Sh.str (0 : Nat) (0 : Nat) (n + (1 : Nat)) Cap.tight, AV.int IntKind.i64 (IntKind.i64.wrap ((↑i : Int) + (1 : Int)))] ++ padAny 58) [Ent.tbl false Sh.str ((List.take ((0 : Nat) + (IntKind.i64.wrap ((↑a : Int) + (1 : Int))).toNat) (List.take n (List.drop (0 : Nat) o) ++ [D.str []]) ++ (List.take (n + (1 : Nat) - (IntKind.i64.wrap ((↑a : Int) + (1 : Int))).toNat) (List.take (n + (1 : Nat) - (↑a : Int).toNat) (List.drop ((0 : Nat) + (↑a : Int).toNat) (List.take n (List.drop (0 : Nat) o) ++ [D.str []]))) ++ List.drop ((0 : Nat) + (IntKind.i64.wrap ((↑a : Int) + (1 : Int))).toNat + (List.take (n + (1 : Nat) - (↑a : Int).toNat) (List.drop ((0 : Nat) + (↑a : Int).toNat) (List.take n (List.drop (0 : Nat) o) ++ [D.str []]))).length.min (n + (1 : Nat) - (IntKind.i64.wrap ((↑a : Int) + (1 : Int))).toNat)) (List.take n (List.drop (0 : Nat) o) ++ [D.str []]))).set ((0 : Nat) + (↑a : Int).toNat) (D.str (l.getD (↑i : Int).toNat D.nul).asStr))])
                  (False))
                (False))
              (False))
            (False))
          (False))
        (False))
      (False)) := by kernel_rfl
theorem words_b (nn : Bool) (l : List D) (G H : LoopS) (K : AV → St → Prop) : bodyK Try.prog noP (addL 0 (headG 0 kV H) (addL 2 (headG 0 kV2 G) noL)) 100 14 [.data (.slice .str)] [.fz nn .str l] [] K  =
  H (([AV.fz nn Sh.str l, .any, .any, AV.tsl false Sh.str (0 : Nat) (0 : Nat) (0 : Nat) Cap.tight, AV.int IntKind.i64 (0 : Int)] ++ padAny 58)) ([Ent.tbl false Sh.str []]) (contB Try.prog noP (addL 0 (headG 0 kV H) (addL 2 (headG 0 kV2 G) noL)) 100 14 [.data (.slice .str)] [] 0 K) := by kernel_rfl
theorem words_e (nn : Bool) (l o : List D) (n i : Nat) (G H : LoopS) (K : AV → St → Prop) : contB Try.prog noP (addL 0 (headG 0 kV H) (addL 2 (headG 0 kV2 G) noL)) 100 14 [.data (.slice .str)] [] 0 K .normal (tV nn l n i) [.tbl false .str o] =
  br (((0 : Nat) + n).ble o.length && true)
    (K (AV.fz false Sh.str (List.take n (List.drop (0 : Nat) o))) [])
    (False) := by kernel_rfl
def MV2 (nn : Bool) (l o : List D) (i : Nat) (m : Nat) (t : List AV) (s : St) (kk : KS) : Prop := ∃ a : Nat, m = a ∧ a ≤ o.length ∧ t = tV2 nn l o.length i a ∧ s = [.tbl false .str o] ∧ atGo o (l.getD i .nul).asStr a = atGo o (l.getD i .nul).asStr o.length ∧
  kk .normal (tV2 nn l o.length i (atGo o (l.getD i .nul).asStr o.length)) [.tbl false .str o]
def MV (nn : Bool) (l : List D) (m : Nat) (t : List AV) (s : St) (kk : KS) : Prop := ∃ i : Nat, m + i = l.length ∧ t = tV nn l (wordsD (l.take i)).length i ∧ s = [.tbl false .str (wordsD (l.take i))] ∧
  kk .normal (tV nn l (wordsD l).length l.length) [.tbl false .str (wordsD l)]
def MV2A (nn : Bool) (l : List D) (m : Nat) (t : List AV) (s : St) (kk : KS) : Prop := ∃ (o : List D) (i : Nat), i < l.length ∧ o.length ≤ l.length ∧ MV2 nn l o i m t s kk
theorem words_step2A (nn : Bool) (l : List D) (hl : l.length < 1000000) : ∀ m t s kk, MV2A nn l m t s kk → roundK Try.prog noP noL 100 14 2 t s (againK 0 2 kV2 kV2 (fun t' s' => ∃ m', m' < m ∧ MV2A nn l m' t' s' kk) kk) := by
  rintro m t s kk ⟨o, i, hi, ho, a, rfl, ha, rfl, rfl, hat, hk⟩
  rw [words_in]
  refine br_iff.2 ⟨fun h1 => ?_, fun h1 => ?_⟩
  · rw [wrap64 (by omega) (by omega)]
    refine br_t (by simp; omega) (br_t (by simp; omega) (br_t (by simp; omega) ?_))
    obtain ⟨b, rfl⟩ : ∃ b, m = b + 1 := ⟨m - 1, by omega⟩
    have e : (0 : Nat) + ((((b + 1 : Nat) : Int)) - 1).toNat = b := by omega
    rw [e, Int.toNat_natCast]
    rw [atGo] at hat
    refine br_mk (fun h => ?_) (fun h => ?_)
    · rw [h] at hat
      exact ⟨b, by omega, o, i, hi, ho, b, rfl, by omega, by rw [show (((b + 1 : Nat) : Int)) - 1 = (b : Int) by omega]; rfl, rfl, hat, hk⟩
    · rw [h] at hat
      simp only at hat
      rw [← hat] at hk
      exact hk
  · have : m = 0 := by omega
    subst this
    rw [← hat] at hk
    exact hk
theorem words_step (nn : Bool) (l : List D) (hl : l.length < 1000000) : ∀ m t s kk, MV nn l m t s kk → roundK Try.prog noP (addL 2 (headG 0 kV2 (byM (MV2A nn l))) noL) 100 14 0 t s (againK 0 0 kV kV (fun t' s' => ∃ m', m' < m ∧ MV nn l m' t' s' kk) kk) := by
  rintro m t s kk ⟨i, hm, rfl, rfl, hk⟩
  refine Eq.mpr (words_r ..) ?_
  have hw := wordsD_len (l.take i)
  have hw2 : (wordsD (l.take i)).length ≤ i := by rw [List.length_take] at hw; omega
  refine br_iff.2 ⟨fun h1 => ?_, fun h1 => ?_⟩
  · have hi : i < l.length := by omega
    refine ⟨(wordsD (l.take i)).length, wordsD (l.take i), i, hi, by omega, (wordsD (l.take i)).length, rfl, Nat.le_refl _, rfl, rfl, rfl, ?_⟩
    have hat := atGo_le (wordsD (l.take i)) (l.getD i .nul).asStr (wordsD (l.take i)).length
    have hnext : wordsD (l.take (i + 1)) = insW (wordsD (l.take i)) (l.getD i .nul).asStr := by
      rw [take_one hi, wordsD_snoc]
    generalize ho : wordsD (l.take i) = o at *
    generalize ha : atGo o (l.getD i .nul).asStr o.length = a at *
    rw [words_c]
    have again : ∀ (o' : List D) (n' : Nat), o' = wordsD (l.take (i + 1)) → n' = o'.length → ∃ m', m' < m ∧ MV nn l m' ([AV.fz nn Sh.str l, .any, .any, AV.tsl false Sh.str (0 : Nat) (0 : Nat) n' Cap.tight, AV.int IntKind.i64 (IntKind.i64.wrap ((i : Int) + (1 : Int)))] ++ padAny 58) [Ent.tbl false Sh.str o'] kk := by
      rintro o' n' rfl rfl
      refine ⟨m - 1, by omega, i + 1, by omega, ?_, rfl, hk⟩
      rw [wrap64 (by omega) (by omega)]
      rfl
    have tail : (insW o (l.getD i .nul).asStr = insA o a (l.getD i .nul).asStr) → br ((((3 : Nat) * (o.length + (1 : Nat)) + (2000 : Nat)) * (16 : Nat)).ble (281474976710656 : Nat) && ((0 : Nat) + o.length).ble o.length)
        (br (decide ((0 : Int) ≤ IntKind.i64.wrap ((a : Int) + (1 : Int))) && decide (IntKind.i64.wrap ((a : Int) + (1 : Int)) ≤ ((o.length + 1 : Nat) : Int)))
          (br (decide ((0 : Int) ≤ (a : Int)) && decide ((a : Int) ≤ ((o.length + 1 : Nat) : Int)))
            (br (((0 : Nat) + (a : Int).toNat + (o.length + (1 : Nat) - (a : Int).toNat)).ble (List.take o.length (List.drop (0 : Nat) o) ++ [D.str []]).length && ((0 : Nat) + (IntKind.i64.wrap ((a : Int) + (1 : Int))).toNat + (o.length + (1 : Nat) - (IntKind.i64.wrap ((a : Int) + (1 : Int))).toNat)).ble (List.take o.length (List.drop (0 : Nat) o) ++ [D.str []]).length)
              (br (decide ((0 : Int) ≤ (i : Int)) && decide ((i : Int) < (l.length : Int)))
                (br (decide ((0 : Int) ≤ (a : Int)) && decide ((a : Int) < ((o.length + 1 : Nat) : Int)))
                  (br (decide ((0 : Nat) + (a : Int).toNat < (List.take ((0 : Nat) + (IntKind.i64.wrap ((a : Int) + (1 : Int))).toNat) (List.take o.length (List.drop (0 : Nat) o) ++ [D.str []]) ++ (List.take (o.length + (1 : Nat) - (IntKind.i64.wrap ((a : Int) + (1 : Int))).toNat) (List.take (o.length + (1 : Nat) - (a : Int).toNat) (List.drop ((0 : Nat) + (a : Int).toNat) (List.take o.length (List.drop (0 : Nat) o) ++ [D.str []]))) ++ List.drop ((0 : Nat) + (IntKind.i64.wrap ((a : Int) + (1 : Int))).toNat + (List.take (o.length + (1 : Nat) - (a : Int).toNat) (List.drop ((0 : Nat) + (a : Int).toNat) (List.take o.length (List.drop (0 : Nat) o) ++ [D.str []]))).length.min (o.length + (1 : Nat) - (IntKind.i64.wrap ((a : Int) + (1 : Int))).toNat)) (List.take o.length (List.drop (0 : Nat) o) ++ [D.str []]))).length))
                    (∃ m', m' < m ∧ MV nn l m' ([AV.fz nn Sh.str l, .any, .any, AV.tsl false Sh.str (0 : Nat) (0 : Nat) (o.length + (1 : Nat)) Cap.tight, AV.int IntKind.i64 (IntKind.i64.wrap ((i : Int) + (1 : Int)))] ++ padAny 58) [Ent.tbl false Sh.str ((List.take ((0 : Nat) + (IntKind.i64.wrap ((a : Int) + (1 : Int))).toNat) (List.take o.length (List.drop (0 : Nat) o) ++ [D.str []]) ++ (List.take (o.length + (1 : Nat) - (IntKind.i64.wrap ((a : Int) + (1 : Int))).toNat) (List.take (o.length + (1 : Nat) - (a : Int).toNat) (List.drop ((0 : Nat) + (a : Int).toNat) (List.take o.length (List.drop (0 : Nat) o) ++ [D.str []]))) ++ List.drop ((0 : Nat) + (IntKind.i64.wrap ((a : Int) + (1 : Int))).toNat + (List.take (o.length + (1 : Nat) - (a : Int).toNat) (List.drop ((0 : Nat) + (a : Int).toNat) (List.take o.length (List.drop (0 : Nat) o) ++ [D.str []]))).length.min (o.length + (1 : Nat) - (IntKind.i64.wrap ((a : Int) + (1 : Int))).toNat)) (List.take o.length (List.drop (0 : Nat) o) ++ [D.str []]))).set ((0 : Nat) + (a : Int).toNat) (D.str (l.getD (i : Int).toNat D.nul).asStr))] kk)
                    (False))
                  (False))
                (False))
              (False))
            (False))
          (False))
        (False) := by
      intro hins
      rw [wrap64 (x := (a : Int) + 1) (by omega) (by omega)]
      have ea : ((a : Int) + 1).toNat = a + 1 := by omega
      rw [ea, Int.toNat_natCast, Int.toNat_natCast]
      have hset := ins_tbl o (.str (l.getD i .nul).asStr) (.str []) rfl hat
      have hlen := congrArg List.length hset
      rw [List.length_set] at hlen
      refine br_t ?_ (br_t (by simp; omega) (br_t (by simp; omega) (br_t ?_ (br_t (by simp; omega) (br_t (by simp; omega) (br_t ?_ ?_))))))
      · simp only [Bool.and_eq_true, Nat.ble_eq]; omega
      · simp only [Bool.and_eq_true, Nat.ble_eq]
        have : (List.take o.length (List.drop 0 o) ++ [D.str []]).length = o.length + 1 := by simp
        rw [this]
        omega
      · rw [hlen]
        simp
        omega
      · refine again _ _ ?_ ?_
        · rw [hset, hnext, hins]; rfl
        · rw [hset]; simp; omega
    have hW : insW o (l.getD i .nul).asStr = (match decide (0 < a) && eqBytes (o.getD (a - 1) .nul).asStr (l.getD i .nul).asStr with | true => o | false => insA o a (l.getD i .nul).asStr) := by
      unfold insW; rw [ha]; cases (decide (0 < a) && eqBytes (o.getD (a - 1) .nul).asStr (l.getD i .nul).asStr) <;> rfl
    refine br_iff.2 ⟨fun h2 => ?_, fun h2 => ?_⟩
    · rw [wrap64 (x := (a : Int) - 1) (by omega) (by omega)]
      have e : (0 : Nat) + ((a : Int) - 1).toNat = a - 1 := by omega
      have h0 : decide (0 < a) = true := by simp; omega
      rw [h0, Bool.true_and] at hW
      refine br_t (by simp; omega) (br_t (by simp; omega) (br_t (by simp; omega) ?_))
      rw [e, Int.toNat_natCast]
      refine br_mk (fun h => ?_) (fun h => ?_)
      · rw [h] at hW
        exact again o o.length (by rw [hnext, hW]) rfl
      · rw [h] at hW
        have := tail hW
        rw [Int.toNat_natCast] at this
        exact this
    · have h0 : decide (0 < a) = false := by simp; omega
      rw [h0, Bool.false_and] at hW
      exact tail hW
  · have hi : i = l.length := by omega
    subst hi
    rw [List.take_length]
    exact hk
theorem wordsL_ok : SpecOk Try.prog 14 wordsLF.f := specOk_comes fun args s v s' tch e => by
  simp only [wordsLF] at e
  split at e
  · rename_i nn sh l
    obtain ⟨hg, rfl, rfl, rfl⟩ := run_ok e
    simp only [Bool.and_eq_true] at hg
    obtain ⟨h1, h2⟩ := hg
    have h1 := Sh.beq_eq _ _ h1
    subst h1
    have hl := blt_lt.1 h2
    have hd : distinctOk Try.prog 14 = true := by kernel_rfl
    refine comes_of ok prOk_none (L := 100) (ms := [.data (.slice .str)]) hd (loops_add (L := 100) (kh := kV) ok prOk_none hd (loops_add (L := 100) (kh := kV2) ok prOk_none hd loops_none (words_step2A nn l hl)) (words_step nn l hl)) ?_
    show bodyK _ _ _ _ _ _ _ _ _
    refine Eq.mpr (words_b nn l _ _ _) ?_
    refine ⟨l.length, 0, by omega, rfl, rfl, ?_⟩
    rw [words_e]
    exact br_t (by simp) ⟨by simp, rfl⟩
  · cases e
end Go.Proofs.Ytkfdfenaaidkkaa
