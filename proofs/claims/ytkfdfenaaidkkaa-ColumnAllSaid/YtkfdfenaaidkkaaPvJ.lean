/- A map in order, plainly: what its functions answer (keys: texts; values: numbers). -/
import Derived.Test.YtkfdfenaaidkkaaPvG
set_option linter.unusedSimpArgs false
set_option linter.unusedVariables false
namespace Go.Sy
open Go
def shP : Sh := .struct [.str, .int .i64]
def keyD (d : D) : List UInt8 := (d.fld 0).asStr
def numD (d : D) : Int := (d.fld 1).asInt
def pairD (k : List UInt8) (v : Int) : D := .agg [.str k, .int v]
def mS (g : Nat) (l : List D) (nn : Bool) (n : Nat) : St := [.cells [.fn (.func g) [] [], .tsl nn shP 1 0 n .tight], .tbl false shP l]
def bS (g : Nat) (l : List D) (nn : Bool) (n : Nat) : St := [.tbl false shP l, .cells [.ptr (some (2, 0))], .cells [.fn (.func g) [] [], .tsl nn shP 0 0 n .tight]]
def fS (g : Nat) (l : List D) (nn : Bool) (n : Nat) : St := [.cells [.ptr (some (1, 0))], .cells [.fn (.func g) [] [], .tsl nn shP 2 0 n .tight], .tbl false shP l]
/-- Binary search. -/
def bsGo (l : List D) (k : List UInt8) : Nat → Nat → Nat → Nat
  | 0, i, _ => i
  | f + 1, i, j => match Nat.blt i j with
    | true => match decide (c3 (keyD (l.getD ((i + j) / 2) .nul)) k < 0) with
      | true => bsGo l k f ((i + j) / 2 + 1) j
      | false => bsGo l k f i ((i + j) / 2)
    | false => i
def bs (l : List D) (k : List UInt8) : Nat := bsGo l k l.length 0 l.length
def hasB (l : List D) (k : List UInt8) : Bool := Nat.blt (bs l k) l.length && decide (c3 (keyD (l.getD (bs l k) .nul)) k = 0)
def okM (e sh : Sh) (l : List D) (n : Nat) : Bool := Sh.beq e shP && (Sh.beq sh shP && (Nat.beq l.length n && Nat.blt n 1000000))
def setK (l : List D) (i : Nat) (v : Int) : List D := l.set i (pairD (keyD (l.getD i .nul)) v)
def insK (l : List D) (i : Nat) (k : List UInt8) (v : Int) : List D := l.take i ++ pairD k v :: l.drop i
def delK (l : List D) (i : Nat) : List D := l.take i ++ l.drop (i + 1)
def getK (l : List D) (k : List UInt8) : Int := match hasB l k with
  | true => numD (l.getD (bs l k) .nul)
  | false => 0
def find1F (cmp : Nat) : Spec := ⟨[], fun args s => match args, s with
  | [.agg [.str a, .int .i64 v], .str k, .ptr (some (0, 0))], [.cells [.ptr (some (1, 0))], .cells [.fn (.func g) [] [], .tsl nn e 2 0 n .tight], .tbl false sh l] => .ok (Nat.beq g cmp && (Sh.beq e shP && Sh.beq sh shP)) (.int .i64 (c3 a k)) (fS cmp l nn n) []
  | _, _ => .fail⟩
def bsF (cmp fi : Nat) : Spec := ⟨[], fun args s => match args, s with
  | [.tsl nn e 0 0 n .tight, .str k, .fn (.func f) [] [.ptr (some (1, 0))]], [.tbl false sh l, .cells [.ptr (some (2, 0))], .cells [.fn (.func g) [] [], .tsl nn' e' 0 0 n' .tight]] =>
    .ok (Nat.beq g cmp && (Nat.beq f fi && (okM e sh l n && (Sh.beq e' shP && (Nat.beq n' n && (nn == nn')))))) (.tup [.int .i64 (bs l k : Int), .bool (hasB l k)]) (bS cmp l nn n) []
  | _, _ => .fail⟩
def findF (cmp : Nat) : Spec := ⟨[], fun args s => match args, s with
  | [.ptr (some (0, 0)), .str k], [.cells [.fn (.func g) [] [], .tsl nn e 1 0 n .tight], .tbl false sh l] =>
    .ok (Nat.beq g cmp && okM e sh l n) (.tup [.int .i64 (bs l k : Int), .bool (hasB l k)]) (mS cmp l nn n) []
  | _, _ => .fail⟩
def lenMF (cmp : Nat) : Spec := ⟨[], fun args s => match args, s with
  | [.ptr (some (0, 0))], [.cells [.fn (.func g) [] [], .tsl nn e 1 0 n .tight], .tbl false sh l] => .ok (Nat.beq g cmp && okM e sh l n) (.int .i64 n) (mS cmp l nn n) []
  | _, _ => .fail⟩
def rankMF (cmp : Nat) : Spec := ⟨[], fun args s => match args, s with
  | [.ptr (some (0, 0)), .str k], [.cells [.fn (.func g) [] [], .tsl nn e 1 0 n .tight], .tbl false sh l] => .ok (Nat.beq g cmp && okM e sh l n) (.int .i64 (bs l k : Int)) (mS cmp l nn n) []
  | _, _ => .fail⟩
def getMF (cmp : Nat) : Spec := ⟨[], fun args s => match args, s with
  | [.ptr (some (0, 0)), .str k], [.cells [.fn (.func g) [] [], .tsl nn e 1 0 n .tight], .tbl false sh l] => .ok (Nat.beq g cmp && okM e sh l n) (.tup [.int .i64 (getK l k), .bool (hasB l k)]) (mS cmp l nn n) []
  | _, _ => .fail⟩
def atMF (cmp : Nat) : Spec := ⟨[], fun args s => match args, s with
  | [.ptr (some (0, 0)), .int .i64 i], [.cells [.fn (.func g) [] [], .tsl nn e 1 0 n .tight], .tbl false sh l] => .br (decide (0 ≤ i) && decide (i < n))
    (.ok (Nat.beq g cmp && okM e sh l n) (.tup [.str (keyD (l.getD i.toNat .nul)), .int .i64 (numD (l.getD i.toNat .nul)), .bool true]) (mS cmp l nn n) [])
    (.ok (Nat.beq g cmp && okM e sh l n) (.tup [.str [], .int .i64 0, .bool false]) (mS cmp l nn n) [])
  | _, _ => .fail⟩
def putMF (cmp : Nat) : Spec := ⟨[], fun args s => match args, s with
  | [.ptr (some (0, 0)), .str k, .int .i64 v], [.cells [.fn (.func g) [] [], .tsl nn e 1 0 n .tight], .tbl false sh l] => .br (hasB l k)
    (.ok (Nat.beq g cmp && okM e sh l n) (.bool false) (mS cmp (setK l (bs l k) v) nn n) [0, 1])
    (.ok (Nat.beq g cmp && okM e sh l n) (.bool true) [.cells [.fn (.func cmp) [] [], .tsl true shP 2 0 (n + 1) .tight], .dead, .tbl false shP (insK l (bs l k) k v)] [0, 1])
  | _, _ => .fail⟩
def delMF (cmp : Nat) : Spec := ⟨[], fun args s => match args, s with
  | [.ptr (some (0, 0)), .str k], [.cells [.fn (.func g) [] [], .tsl nn e 1 0 n .tight], .tbl false sh l] => .br (hasB l k)
    (.ok (Nat.beq g cmp && okM e sh l n) (.bool true) [.cells [.fn (.func cmp) [] [], .tsl true shP 2 0 (n - 1) .tight], .dead, .tbl false shP (delK l (bs l k))] [0, 1])
    (.ok (Nat.beq g cmp && okM e sh l n) (.bool false) (mS cmp l nn n) [])
  | _, _ => .fail⟩
/-- New: nil is a slice of nothing. -/
def newMF (cmp : Nat) : Spec := ⟨[], fun args s => match args, s with
  | [.fn (.func g) [] []], [] => .ok (Nat.beq g cmp) (.ptr (some (0, 0))) (mS cmp [] false 0) []
  | _, _ => .fail⟩
theorem blt_lt {a b : Nat} : Nat.blt a b = true ↔ a < b := by rw [Nat.blt_eq]
theorem blt_ge {a b : Nat} : Nat.blt a b = false ↔ ¬ a < b := by rw [← blt_lt, Bool.not_eq_true]
theorem okM_iff {e sh : Sh} {l : List D} {n : Nat} : okM e sh l n = true ↔ e = shP ∧ sh = shP ∧ l.length = n ∧ n < 1000000 := by
  unfold okM
  simp only [Bool.and_eq_true, Nat.blt_eq, Nat.beq_eq]
  constructor
  · rintro ⟨h1, h2, h3, h4⟩; exact ⟨Sh.beq_eq _ _ h1, Sh.beq_eq _ _ h2, h3, h4⟩
  · rintro ⟨rfl, rfl, h3, h4⟩; exact ⟨by decide, by decide, h3, h4⟩
theorem okM_mk {l : List D} {n : Nat} (h : l.length = n) (hn : n < 1000000) : okM shP shP l n = true := okM_iff.2 ⟨rfl, rfl, h, hn⟩
theorem bsGo_le (l : List D) (k : List UInt8) : ∀ f i j, i ≤ j → bsGo l k f i j ≤ j
  | 0, i, j, h => h
  | f + 1, i, j, h => by
    unfold bsGo
    split
    · rename_i hb
      have hb := blt_lt.1 hb
      split
      · exact bsGo_le l k f _ _ (by omega)
      · exact Nat.le_trans (bsGo_le l k f _ _ (by omega)) (by omega)
    · exact h
theorem bs_le (l : List D) (k : List UInt8) : bs l k ≤ l.length := bsGo_le l k _ _ _ (Nat.zero_le _)
theorem hasB_lt {l : List D} {k : List UInt8} (h : hasB l k = true) : bs l k < l.length := by
  unfold hasB at h
  simp only [Bool.and_eq_true, Nat.blt_eq] at h
  exact h.1
theorem bsGo_step {l : List D} {k : List UInt8} {f i j : Nat} (h : i < j) (hf : j - i ≤ f) : bsGo l k f i j = if c3 (keyD (l.getD ((i + j) / 2) .nul)) k < 0 then bsGo l k (f - 1) ((i + j) / 2 + 1) j else bsGo l k (f - 1) i ((i + j) / 2) := by
  obtain ⟨f, rfl⟩ : ∃ g, f = g + 1 := ⟨f - 1, by omega⟩
  rw [bsGo, show Nat.blt i j = true from blt_lt.2 h]
  by_cases hc : c3 (keyD (l.getD ((i + j) / 2) .nul)) k < 0
  · rw [decide_eq_true hc, if_pos hc]; rfl
  · rw [decide_eq_false hc, if_neg hc]; rfl
theorem bsGo_end {l : List D} {k : List UInt8} {f i j : Nat} (h : ¬ i < j) : bsGo l k f i j = i := by
  cases f with
  | zero => rfl
  | succ f =>
    rw [bsGo, show Nat.blt i j = false from blt_ge.2 h]
/-- How much fuel there is does not matter. -/
theorem bsGo_fuel (l : List D) (k : List UInt8) : ∀ f f' i j, j - i ≤ f → j - i ≤ f' → bsGo l k f i j = bsGo l k f' i j := by
  intro f
  induction f with
  | zero => intro f' i j h h'; rw [bsGo_end (by omega), bsGo_end (by omega)]
  | succ f ih =>
    intro f' i j h h'
    by_cases hij : i < j
    · rw [bsGo_step hij h, bsGo_step hij h']
      rw [Nat.add_sub_cancel, ih (f' - 1) _ _ (by omega) (by omega), ih (f' - 1) i _ (by omega) (by omega)]
    · rw [bsGo_end hij, bsGo_end hij]
theorem insK_len (l : List D) {i : Nat} (k : List UInt8) (v : Int) (h : i ≤ l.length) : (insK l i k v).length = l.length + 1 := by simp [insK]; omega
theorem delK_len (l : List D) {i : Nat} (h : i < l.length) : (delK l i).length = l.length - 1 := by simp [delK]; omega
theorem setK_len (l : List D) (i : Nat) (v : Int) : (setK l i v).length = l.length := by simp [setK]
theorem half {i j n : Nat} (h : i < j) (hj : j ≤ n) (hn : n < 1000000) : IntKind.i64.wrap ((IntKind.u64.wrap (IntKind.i64.wrap ((i : Int) + (j : Int)))).fdiv (2 : Int)) = (((i + j) / 2 : Nat) : Int) := by
  rw [wrap64 (x := (i : Int) + j) (by omega) (by omega)]
  have h1 : IntKind.u64.wrap ((i : Int) + j) = (i : Int) + j := by
    simp only [IntKind.wrap, IntKind.bits, IntKind.signed]
    simp
    omega
  rw [h1, Int.fdiv_eq_ediv_of_nonneg _ (by omega), wrap64 (by omega) (by omega)]
  omega
end Go.Sy
