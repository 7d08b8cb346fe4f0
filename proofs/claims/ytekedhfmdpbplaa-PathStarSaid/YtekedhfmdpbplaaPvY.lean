/- Plain: forms of tables: what may be added, what it is kept as. -/
import Derived.Test.YtekedhfmdpbplaaPvLp
set_option linter.unusedSimpArgs false
set_option linter.unusedVariables false
namespace Go.Sy
open Go
theorem cs {α : Type} {b : Bool} {x : α} : (bif b then x else x) = x := by cases b <;> rfl
theorem ct {b x : Bool} : (bif b then true else x) = (b || x) := by cases b <;> rfl
theorem ce {b x : Bool} : (bif b then b else x) = (b || x) := by cases b <;> rfl
theorem cf {b x : Bool} : (bif b then false else x) = (!b && x) := by cases b <;> rfl
theorem cu {b x : Bool} : (bif b then x else false) = (b && x) := by cases b <;> rfl
theorem cv {b x : Bool} : (bif b then x else true) = (!b || x) := by cases b <;> rfl
theorem tag_ix {p : D → Bool} {l : List D} : (bif (if ixI p l < 0 then ((1 : Nat), (0 : Int)) else (0, ((ixI p l).toNat : Int))).fst.beq 0 then true else (if ixI p l < 0 then ((1 : Nat), (0 : Int)) else (0, ((ixI p l).toNat : Int))).fst.beq 1 && true) = true ∧
    (bif (if ixI p l < 0 then ((1 : Nat), (0 : Int)) else (0, ((ixI p l).toNat : Int))).fst.beq 0 then (if ixI p l < 0 then ((1 : Nat), (0 : Int)) else (0, ((ixI p l).toNat : Int))).snd else -1) = ixI p l := by
  rcases ixI_cases p l with ⟨k, _, _, _, e⟩ | ⟨_, e⟩ <;> rw [e]
  · rw [if_neg (show ¬ (k : Int) < 0 by omega)]; exact ⟨rfl, rfl⟩
  · exact ⟨rfl, rfl⟩
/-- All numbers below n. -/
def allN (p : Nat → Bool) : Nat → Bool
  | 0 => true
  | n + 1 => allN p n && p n
theorem allN_iff {p : Nat → Bool} : ∀ {n : Nat}, allN p n = true ↔ ∀ k, k < n → p k = true
  | 0 => by simp [allN]
  | n + 1 => by
    simp only [allN, Bool.and_eq_true, allN_iff]
    constructor
    · rintro ⟨h1, h2⟩ k hk
      rcases Nat.lt_succ_iff_lt_or_eq.1 hk with h | h
      · exact h1 k h
      · subst h; exact h2
    · intro h
      exact ⟨fun k hk => h k (by omega), h n (by omega)⟩
theorem allN_false {p : Nat → Bool} {n k : Nat} (hk : k < n) (h : p k = false) : allN p n = false := by
  cases e : allN p n with
  | false => rfl
  | true => rw [allN_iff.1 e k hk] at h; cases h
theorem allN_congr {p q : Nat → Bool} {n : Nat} (h : ∀ k, k < n → p k = q k) : allN p n = allN q n := by
  induction n with
  | zero => rfl
  | succ n ih => simp only [allN, ih (fun k hk => h k (by omega)), h n (by omega)]
/-- What a loop tells that is left at the first that is not so. -/
theorem loop_allN {stp : Int → NT Int Nat} (n : Nat) (good : Nat → Bool)
    (h : ∀ k, k < n → (∀ j, j < k → good j = true) → (stp (k : Int)).run = if good k then .more ((k + 1 : Nat) : Int) else .done 0)
    (hE : (stp (n : Int)).run = .done 1) : loopR stp 0 = some (if allN good n then 1 else 0) := by
  rcases loop_any (stp := stp) n (fun k => !good k) (fun k hk hj => by
    rw [h k hk (fun j hj' => by have := hj j hj'; simpa using this)]
    cases good k <;> rfl) hE with ⟨k, h1, h2, h3⟩ | ⟨h1, h3⟩
  · rw [h3, allN_false h1 (by simpa using h2)]; rfl
  · rw [h3, allN_iff.2 (fun k hk => by have := h1 k hk; simpa using this)]; rfl
/- ### tables -/
def nmIs (c : List UInt8) (d : D) : Bool := eqBytes (d.fld 0).asStr c
def hasN (c : List UInt8) (l : List D) : Bool := decide (0 ≤ ixI (nmIs c) l)
def kindBad (d : D) : Bool := !decide ((d.fld 1).asInt = 1) && !decide ((d.fld 1).asInt = 2)
def mkT (a : List UInt8) (l : List D) (k : List UInt8) (d : List D) : D := .agg [.str a, .list l, .str k, .list d]
/-- No text is there twice. -/
def uniq (l : List D) : Bool := allN (fun i => allN (fun j => !eqBytes (l.getD j .nul).asStr (l.getD i .nul).asStr) i) l.length
def colNames (l : List D) : List D := l.map fun d => .str (d.fld 0).asStr
def leftOk (cols : List D) (r : List UInt8) (l : List D) : Bool := allN (fun k => hasN (l.getD k .nul).asStr cols && !eqBytes (l.getD k .nul).asStr r && allN (fun j => !eqBytes (l.getD j .nul).asStr (l.getD k .nul).asStr) k) l.length
def depOk (cols : List D) (d : D) : Bool := decide (1 ≤ (d.fld 0).els.length) && decide ((d.fld 0).els.length ≤ 3) && hasN (d.fld 1).asStr cols && leftOk cols (d.fld 1).asStr (d.fld 0).els
def colsOk (cols : List D) : Bool := allN (fun k => nameV ((cols.getD k .nul).fld 0).asStr && decide (ixI (nmIs ((cols.getD k .nul).fld 0).asStr) cols = (k : Int))) cols.length
def namesE (w : List D) (a : List UInt8) (cols : List D) (k : List UInt8) (deps : List D) : Bool :=
  nameV a && !hasN a w && colsOk cols && (eqBytes k [] || hasN k cols) && allN (fun i => depOk cols (deps.getD i .nul)) deps.length
def toT (w : List D) (c : D) : D := w.getD (ixI (nmIs (c.fld 3).asStr) w).toNat .nul
def refE (w : List D) (c : D) : Int :=
  if eqBytes (c.fld 3).asStr [] then 0 else if ixI (nmIs (c.fld 3).asStr) w < 0 then 3 else
  if eqBytes ((toT w c).fld 2).asStr [] then 9 else
  if ((((toT w c).fld 1).els.getD (ixI (nmIs ((toT w c).fld 2).asStr) ((toT w c).fld 1).els).toNat .nul).fld 1).asInt = (c.fld 1).asInt then 0 else 4
def refsE (w : List D) (cols : List D) : Int := scanL (fun _ c => if refE w c = 0 then none else some (refE w c)) 0 0 cols
def addE (w : List D) (a : List UInt8) (cols : List D) (k : List UInt8) (deps : List D) : Int :=
  if 8 ≤ w.length ∨ cols.length < 1 ∨ 6 < cols.length ∨ 3 < deps.length then 5 else
  if namesE w a cols k deps then (if allN (fun i => !kindBad (cols.getD i .nul)) cols.length then refsE w cols else 4) else 3
def must (c : D) : D := .agg [.str (c.fld 0).asStr, .int (c.fld 1).asInt, .bool true, .str (c.fld 3).asStr]
def formC (k : List UInt8) (cols : List D) : List D := cols.map fun c => if nmIs k c then must c else c
/-- Each table's key, if it has one, is one of its columns. -/
def wfT (t : D) : Bool := eqBytes (t.fld 2).asStr [] || hasN (t.fld 2).asStr (t.fld 1).els
/-- Not too long to be walked. -/
def shortL (l : List D) : Bool := Nat.blt l.length 1000000
def shortT (t : D) : Bool := shortL (t.fld 1).els && shortL (t.fld 3).els && (t.fld 3).els.all fun d => shortL (d.fld 0).els
end Go.Sy
