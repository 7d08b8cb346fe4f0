/- Plain: where a way leads; a way's text. -/
import Derived.Test.YtekedhfmdpbplaaPvSa
import Derived.Test.YtekedhfmdpbplaaPvPo
import Derived.Lib.Join
set_option linter.unusedSimpArgs false
set_option linter.unusedVariables false
namespace Go.Sy
open Go
/-- No column. -/
def noC : D := .agg [.str [], .int 0, .bool false, .str []]
/-- The table of a name; the column of a name. -/
def tabAt (w : List D) (t : List UInt8) : D := w.getD (ixI (nmIs t) w).toNat .nul
def colAt (l : List D) (n : List UInt8) : D := l.getD (ixI (nmIs n) l).toNat .nul
/-- The column that a way leads to from a table, that column's table, the error. -/
def walkW (w : List D) : List UInt8 → List D → D × List UInt8 × Int
  | t, [] => (noC, [], 3)
  | t, n :: p => match hasN t w with
    | false => (noC, [], 3)
    | true => match hasN n.asStr ((tabAt w t).fld 1).els with
      | false => (noC, [], 3)
      | true => match p with
        | [] => (colAt ((tabAt w t).fld 1).els n.asStr, t, 0)
        | _ :: _ => match eqBytes ((colAt ((tabAt w t).fld 1).els n.asStr).fld 3).asStr [] with
          | true => (noC, [], 9)
          | false => walkW w ((colAt ((tabAt w t).fld 1).els n.asStr).fld 3).asStr p
theorem walkW_cons (w : List D) (t : List UInt8) (n : D) (p : List D) : walkW w t (n :: p) = bif hasN t w then (bif hasN n.asStr ((tabAt w t).fld 1).els then (bif p.isEmpty then (colAt ((tabAt w t).fld 1).els n.asStr, t, 0) else bif eqBytes ((colAt ((tabAt w t).fld 1).els n.asStr).fld 3).asStr [] then (noC, [], 9) else walkW w ((colAt ((tabAt w t).fld 1).els n.asStr).fld 3).asStr p) else (noC, [], 3)) else (noC, [], 3) := by
  rw [walkW.eq_def]
  simp only
  cases hasN t w with
  | false => rfl
  | true =>
    cases hasN n.asStr ((tabAt w t).fld 1).els with
    | false => rfl
    | true =>
      cases p with
      | nil => rfl
      | cons m p => simp only [List.isEmpty_cons, cond_true, cond_false]; cases eqBytes ((colAt ((tabAt w t).fld 1).els n.asStr).fld 3).asStr [] <;> rfl
/-- A list of tables, tables added one by one. -/
def bothS (w : List D) : List D → List D
  | [] => w
  | t :: l => bothS (addT w (t.fld 0).asStr (t.fld 1).els (t.fld 2).asStr (t.fld 3).els) l
theorem hasN_at {c : List UInt8} {l : List D} (h : hasN c l = true) : ∃ i, i < l.length ∧ ixI (nmIs c) l = (i : Int) := by
  have h' := of_decide_eq_true h
  rcases ixI_cases (nmIs c) l with ⟨k, k1, _, _, e⟩ | ⟨_, e⟩
  · exact ⟨k, k1, e⟩
  · omega
theorem hasN_no {c : List UInt8} {l : List D} (h : hasN c l = false) : ixI (nmIs c) l < 0 := by
  have h' := of_decide_eq_false h
  omega
theorem tabAt_mem {w : List D} {t : List UInt8} (h : hasN t w = true) : tabAt w t ∈ w := by
  obtain ⟨i, h1, h2⟩ := hasN_at h
  unfold tabAt
  rw [h2, Int.toNat_natCast, getD_at h1]
  exact List.getElem_mem h1
/-- The same, of ways of one to four names alone. -/
def colW (w : List D) (t : List UInt8) (p : List D) : D × List UInt8 × Int := match decide (p.length = 0) || decide (4 < p.length) with
  | true => (noC, [], 5)
  | false => walkW w t p
theorem join_app (sep x : List UInt8) : ∀ (l : List (List UInt8)), l ≠ [] → Lib.join (l ++ [x]) sep = Lib.join l sep ++ sep ++ x
  | [], h => absurd rfl h
  | [a], _ => by simp [Lib.join, List.intercalate]
  | a :: b :: l, _ => by
    have ih := join_app sep x (b :: l) (by simp)
    have e : ∀ (c : List UInt8) (m : List (List UInt8)), m ≠ [] → Lib.join (c :: m) sep = c ++ (sep ++ Lib.join m sep) := by
      intro c m hm
      cases m with
      | nil => exact absurd rfl hm
      | cons d m => rw [Lib.join_cons, Lib.join_cons]; simp [Lib.joinTail]
    have e1 : Lib.join (a :: b :: l ++ [x]) sep = a ++ (sep ++ Lib.join (b :: l ++ [x]) sep) := e a (b :: l ++ [x]) (by simp)
    rw [e1, e a (b :: l) (by simp), ih]
    simp only [List.append_assoc]
theorem join_cons2 (sep c : List UInt8) : ∀ (m : List (List UInt8)), m ≠ [] → Lib.join (c :: m) sep = c ++ (sep ++ Lib.join m sep)
  | [], h => absurd rfl h
  | d :: m, _ => by rw [Lib.join_cons, Lib.join_cons]; simp [Lib.joinTail]
theorem join_short (n : Nat) (x : UInt8) : ∀ l : List (List UInt8), (∀ c ∈ l, c.length ≤ n) → (Lib.join l [x]).length ≤ (n + 1) * l.length
  | [], _ => by simp [Lib.join_nil]
  | [c], h => by
    rw [Lib.join_one]
    have := h c (by simp)
    simp; omega
  | c :: d :: l, h => by
    rw [join_cons2 _ _ _ (by simp), List.length_append, List.length_append, List.length_singleton]
    have h1 := h c (by simp)
    have h2 := join_short n x (d :: l) (fun y hy => h y (by simp [hy]))
    rw [List.length_cons (a := c), Nat.mul_add]
    omega
end Go.Sy
