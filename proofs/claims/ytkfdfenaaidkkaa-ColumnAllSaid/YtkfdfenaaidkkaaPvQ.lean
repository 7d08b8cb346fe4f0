/- Plain: what is asked of words. -/
import Derived.Test.YtkfdfenaaidkkaaPvP
import Derived.Test.YtkfdfenaaidkkaaSyX
set_option linter.unusedSimpArgs false
set_option linter.unusedVariables false
namespace Go.Sy
open Go
def shOp : Sh := .struct [.int .i64, .str]
def sameK (w l : List D) : Bool := decide (strsD w = keysD l)
instance (a b : List UInt8) : Decidable (ltB a b) := inferInstanceAs (Decidable (ltBytes a b = true))
def sortB (l : List D) : Bool := decide ((keysD l).Pairwise ltB)
/-- Span asked of words that stand in order: it is as it should be. -/
def spanLF (cmp : Nat) : Spec := ⟨[], fun args s => match args, s with
  | [.ptr (some (0, 0)), .fz fn shw w, .int .i64 op, .str x], [.cells [.ptr (some (1, 0))], .cells [.fn (.func g) [] [], .tsl nn e 2 0 n .tight], .tbl false sh l] =>
    .ok (Nat.beq g cmp && (okM e sh l n && (Sh.beq shw .str && (sameK w l && sortB l)))) (.bool true) (a1S cmp l nn n) []
  | _, _ => .fail⟩
/-- Where it stands last, of the first so many. -/
def lastUp (t : List D) (s : List UInt8) : Nat → Int
  | 0 => -1
  | k + 1 => match eqBytes (t.getD k .nul).asStr s with
    | true => (k : Int)
    | false => lastUp t s k
theorem lastUp_law (t : List D) (s : List UInt8) : ∀ n, (lastUp t s n = -1 ∧ ∀ i, i < n → (t.getD i .nul).asStr ≠ s) ∨ ∃ j : Nat, j < n ∧ lastUp t s n = (j : Int) ∧ (t.getD j .nul).asStr = s
  | 0 => .inl ⟨rfl, fun i h => by omega⟩
  | n + 1 => by
    unfold lastUp
    cases h : eqBytes (t.getD n .nul).asStr s
    · rcases lastUp_law t s n with ⟨h1, h2⟩ | ⟨j, h1, h2, h3⟩
      · refine .inl ⟨h1, fun i hi => ?_⟩
        rcases Nat.lt_or_ge i n with g | g
        · exact h2 i g
        · rw [show i = n by omega]
          intro e
          rw [e, eqBytes_refl] at h
          cases h
      · exact .inr ⟨j, by omega, h2, h3⟩
    · exact .inr ⟨n, by omega, rfl, eqBytes_iff.1 h⟩
theorem getD_take {t : List D} {n i : Nat} (h : i < n) : (t.take n).getD i .nul = t.getD i .nul := by
  simp [List.getD, List.getElem?_take, h]
theorem del_tail (t : List D) (n j : Nat) (hj : j < n) (hn : n ≤ t.length) (h50 : n ≤ 50) (R : Nat → List D → Prop) (hR : ∀ n' t', n' + 1 = n → n' ≤ t'.length → t'.take n' = (t.take n).eraseIdx j → R n' t') :
(br (decide ((0 : Int) ≤ (j : Int)) && decide ((j : Int) ≤ (↑n : Int)) && (decide ((0 : Int) ≤ (j : Int)) && decide ((j : Int) ≤ (↑(j : Int).toNat : Int)) && true))
                  (br (decide ((0 : Int) ≤ IntKind.i64.wrap ((j : Int) + (1 : Int))) && decide (IntKind.i64.wrap ((j : Int) + (1 : Int)) ≤ (↑n : Int)))
                    (br (((j : Int).toNat - (0 : Nat) + (List.take (n - (IntKind.i64.wrap ((j : Int) + (1 : Int))).toNat) (List.drop ((0 : Nat) + (IntKind.i64.wrap ((j : Int) + (1 : Int))).toNat) t)).length).ble ((j : Int).toNat - (0 : Nat)))
                      (br (((0 : Nat) + (IntKind.i64.wrap ((j : Int) + (1 : Int))).toNat + (n - (IntKind.i64.wrap ((j : Int) + (1 : Int))).toNat)).ble t.length && (((3 : Nat) * ((j : Int).toNat - (0 : Nat) + (List.take (n - (IntKind.i64.wrap ((j : Int) + (1 : Int))).toNat) (List.drop ((0 : Nat) + (IntKind.i64.wrap ((j : Int) + (1 : Int))).toNat) t)).length) + (2000 : Nat)) * (16 : Nat)).ble (281474976710656 : Nat) && ((0 : Nat) + ((j : Int).toNat - (0 : Nat)) + (List.take (n - (IntKind.i64.wrap ((j : Int) + (1 : Int))).toNat) (List.drop ((0 : Nat) + (IntKind.i64.wrap ((j : Int) + (1 : Int))).toNat) t)).length).ble t.length)
                        (R ((j : Int).toNat - (0 : Nat) + (List.take (n - (IntKind.i64.wrap ((j : Int) + (1 : Int))).toNat) (List.drop ((0 : Nat) + (IntKind.i64.wrap ((j : Int) + (1 : Int))).toNat) t)).length) (List.take ((0 : Nat) + ((j : Int).toNat - (0 : Nat))) t ++ (List.take (n - (IntKind.i64.wrap ((j : Int) + (1 : Int))).toNat) (List.drop ((0 : Nat) + (IntKind.i64.wrap ((j : Int) + (1 : Int))).toNat) t) ++ List.drop ((0 : Nat) + ((j : Int).toNat - (0 : Nat)) + (List.take (n - (IntKind.i64.wrap ((j : Int) + (1 : Int))).toNat) (List.drop ((0 : Nat) + (IntKind.i64.wrap ((j : Int) + (1 : Int))).toNat) t)).length) t)))
                        (False))
                      (br (((0 : Nat) + (IntKind.i64.wrap ((j : Int) + (1 : Int))).toNat + (n - (IntKind.i64.wrap ((j : Int) + (1 : Int))).toNat)).ble t.length && (((3 : Nat) * ((j : Int).toNat - (0 : Nat) + (List.take (n - (IntKind.i64.wrap ((j : Int) + (1 : Int))).toNat) (List.drop ((0 : Nat) + (IntKind.i64.wrap ((j : Int) + (1 : Int))).toNat) t)).length) + (2000 : Nat)) * (16 : Nat)).ble (281474976710656 : Nat) && ((0 : Nat) + ((j : Int).toNat - (0 : Nat))).ble t.length)
                        (R ((j : Int).toNat - (0 : Nat) + (List.take (n - (IntKind.i64.wrap ((j : Int) + (1 : Int))).toNat) (List.drop ((0 : Nat) + (IntKind.i64.wrap ((j : Int) + (1 : Int))).toNat) t)).length) (List.take ((j : Int).toNat - (0 : Nat)) (List.drop (0 : Nat) t) ++ List.take (n - (IntKind.i64.wrap ((j : Int) + (1 : Int))).toNat) (List.drop ((0 : Nat) + (IntKind.i64.wrap ((j : Int) + (1 : Int))).toNat) t)))
                        (False)))
                    (False))
                  (False)) := by
  rw [wrap64 (x := (j : Int) + 1) (by omega) (by omega)]
  have ej : ((j : Int) + 1).toNat = j + 1 := by omega
  rw [ej, Int.toNat_natCast]
  simp only [Nat.zero_add, Nat.sub_zero, List.drop_zero]
  have hlen : (List.take (n - (j + 1)) (List.drop (j + 1) t)).length = n - (j + 1) := by simp; omega
  rw [hlen]
  have he : (t.take n).eraseIdx j = t.take j ++ List.take (n - (j + 1)) (List.drop (j + 1) t) := by
    rw [List.eraseIdx_eq_take_drop_succ, List.take_take, Nat.min_eq_left (by omega), List.drop_take]
  have hl2 : (t.take j ++ List.take (n - (j + 1)) (List.drop (j + 1) t)).length = j + (n - (j + 1)) := by simp; omega
  refine br_t (by simp; omega) (br_t (by simp; omega) (br_mk (fun h => br_t (by simp; omega) (hR _ _ (by omega) ?_ ?_)) (fun h => br_t (by simp; omega) (hR _ _ (by omega) ?_ ?_))))
  · rw [← List.append_assoc, List.length_append, hl2]; omega
  · rw [he, ← List.append_assoc, List.take_append_of_le_length (by rw [hl2]; omega), List.take_of_length_le (by rw [hl2]; omega)]
  · rw [hl2]; omega
  · rw [he, List.take_of_length_le (by rw [hl2]; omega)]
/-- Where the words stand to one. -/
theorem span_at {l : List D} (hs : SS (keysD l)) (x : List UInt8) {i : Nat} (hi : i < l.length) :
    (c3 (keyD (l.getD i .nul)) x < 0 ↔ (i : Int) < bs l x) ∧ (c3 (keyD (l.getD i .nul)) x = 0 ↔ (bs l x : Int) ≤ i ∧ (i : Int) < spanT l x) ∧ (c3 (keyD (l.getD i .nul)) x > 0 ↔ spanT l x ≤ i) ∧ spanT l x ≤ l.length := by
  have h1 : ltB (keyD (l.getD i .nul)) x ↔ i < bs l x := by
    constructor
    · intro h
      rcases Nat.lt_or_ge i (bs l x) with g | g
      · exact g
      · exact absurd h (bs_above hs x g hi)
    · exact bs_below hs x
  have h2 : keyD (l.getD i .nul) = x ↔ hasB l x = true ∧ i = bs l x := by
    constructor
    · rintro rfl; exact ⟨hasB_at hs hi, (bs_at hs hi).symm⟩
    · rintro ⟨h, rfl⟩; exact hasB_key h
  have hb := bs_le l x
  have h3 : spanT l x ≤ l.length := by
    unfold spanT
    cases h : hasB l x
    · simp only; omega
    · have := hasB_lt h; simp only; omega
  have h4 : c3 (keyD (l.getD i .nul)) x = 0 ↔ (bs l x : Int) ≤ i ∧ (i : Int) < spanT l x := by
    rw [c3_eq, h2]
    unfold spanT
    cases h : hasB l x
    · simp only; constructor
      · rintro ⟨h, _⟩; cases h
      · intro h; omega
    · simp only [true_and]; omega
  refine ⟨by rw [c3_lt, h1]; omega, h4, ?_, h3⟩
  have h5 : c3 (keyD (l.getD i .nul)) x < 0 ↔ (i : Int) < bs l x := by rw [c3_lt, h1]; omega
  have h6 : (bs l x : Int) ≤ spanT l x := by unfold spanT; cases hasB l x <;> simp only <;> omega
  omega
def opOk (op : Int) : Prop := op = 1 ∨ op = 3 ∨ op = 4 ∨ op = 5 ∨ op = 6
theorem span_ok_law {l : List D} (hs : SS (keysD l)) {op : Int} (ho : opOk op) (x : List UInt8) : spanC op l x = true ∧ 0 ≤ spanA op l x ∧ spanA op l x ≤ spanB op l x ∧ spanB op l x ≤ l.length ∧ (spanA op l x = spanB op l x → spanA op l x = 0) ∧
    ∀ i, i < l.length → testV op 2 0 (keyD (l.getD i .nul)) 2 0 x = (decide ((i : Int) ≥ spanA op l x) && decide ((i : Int) < spanB op l x)) := by
  have hb := bs_le l x
  have h6 : (bs l x : Int) ≤ spanT l x ∧ spanT l x ≤ l.length := by
    unfold spanT
    cases h : hasB l x
    · simp only; omega
    · have := hasB_lt h; simp only; omega
  have key : ∀ i, i < l.length → _ := fun i hi => span_at hs x hi
  have tv : ∀ i, testV op 2 0 (keyD (l.getD i .nul)) 2 0 x = (if op = 1 then decide (c3 (keyD (l.getD i .nul)) x = 0) else if op = 3 then decide (c3 (keyD (l.getD i .nul)) x < 0) else if op = 4 then decide (c3 (keyD (l.getD i .nul)) x ≤ 0) else if op = 5 then decide (c3 (keyD (l.getD i .nul)) x > 0) else decide (c3 (keyD (l.getD i .nul)) x ≥ 0)) := by
    intro i
    have hc : ∀ c, cmp3 2 0 c 2 0 x = c3 c x := fun c => by rw [cmp3_c3]; simp
    unfold testV
    rw [hc]
    rcases ho with rfl | rfl | rfl | rfl | rfl <;> simp
  have gen : ∀ a b : Int, spanP op (bs l x) (spanT l x) l.length = some (a, b) → 0 ≤ a → b ≤ l.length → (∀ i, i < l.length → testV op 2 0 (keyD (l.getD i .nul)) 2 0 x = (decide ((i : Int) ≥ a) && decide ((i : Int) < b))) → 
      spanC op l x = true ∧ 0 ≤ spanA op l x ∧ spanA op l x ≤ spanB op l x ∧ spanB op l x ≤ l.length ∧ (spanA op l x = spanB op l x → spanA op l x = 0) ∧
    ∀ i, i < l.length → testV op 2 0 (keyD (l.getD i .nul)) 2 0 x = (decide ((i : Int) ≥ spanA op l x) && decide ((i : Int) < spanB op l x)) := by
    intro a b he ha hb' ht
    have hq : spanQ op l x = if a ≥ b then some (0, 0) else some (a, b) := by unfold spanQ; rw [he]
    unfold spanC spanA spanB
    rw [hq]
    by_cases hab : a ≥ b
    · rw [if_pos hab]
      refine ⟨rfl, by simp, by simp, by simp, by simp, fun i hi => ?_⟩
      rw [ht i hi]
      have : (decide ((i : Int) ≥ a) && decide ((i : Int) < b)) = false := by
        rw [Bool.and_eq_false_iff, decide_eq_false_iff_not, decide_eq_false_iff_not]; omega
      rw [this]
      have : decide ((i : Int) < 0) = false := by rw [decide_eq_false_iff_not]; omega
      simp only [this, Bool.and_false]
    · rw [if_neg hab]
      exact ⟨rfl, ha, by simp only; omega, hb', by simp only; omega, ht⟩
  rcases ho with rfl | rfl | rfl | rfl | rfl
  · refine gen (bs l x) (spanT l x) rfl (by omega) h6.2 fun i hi => ?_
    rw [tv]
    obtain ⟨k1, k2, k3, _⟩ := key i hi
    simp only [if_true]
    rw [← Bool.decide_and]
    exact decide_eq_decide.2 (by rw [k2])
  · refine gen 0 (bs l x) rfl (by omega) (by omega) fun i hi => ?_
    rw [tv]
    obtain ⟨k1, k2, k3, _⟩ := key i hi
    rw [← Bool.decide_and]
    exact decide_eq_decide.2 (by rw [k1]; omega)
  · refine gen 0 (spanT l x) rfl (by omega) h6.2 fun i hi => ?_
    rw [tv]
    obtain ⟨k1, k2, k3, _⟩ := key i hi
    rw [← Bool.decide_and]
    refine decide_eq_decide.2 ?_
    omega
  · refine gen (spanT l x) l.length rfl (by omega) (by omega) fun i hi => ?_
    rw [tv]
    obtain ⟨k1, k2, k3, _⟩ := key i hi
    rw [← Bool.decide_and]
    refine decide_eq_decide.2 ?_
    omega
  · refine gen (bs l x) l.length rfl (by omega) (by omega) fun i hi => ?_
    rw [tv]
    obtain ⟨k1, k2, k3, _⟩ := key i hi
    rw [← Bool.decide_and]
    refine decide_eq_decide.2 ?_
    omega
theorem span_no_law (l : List D) {op : Int} (ho : ¬ opOk op) (x : List UInt8) : spanC op l x = false ∧ spanA op l x = 0 ∧ spanB op l x = 0 := by
  have hq : spanQ op l x = none := by
    unfold spanQ spanP
    unfold opOk at ho
    rw [if_neg (by omega), if_neg (by omega), if_neg (by omega), if_neg (by omega), if_neg (by omega)]
  unfold spanC spanA spanB
  rw [hq]
  exact ⟨rfl, rfl, rfl⟩
end Go.Sy
