/- The abstract machine once more, in a form that the kernel reckons faster: slots in a tree, one look at an operation's kind. What it comes to is what the abstract machine comes to. -/
import Derived.Test.YtekedhfmdpbplaaDenU
set_option linter.unusedSimpArgs false
set_option linter.unusedVariables false
namespace Go.Den
open Go

/- ### Slots in a tree -/
inductive T where
  | leaf
  | node (l : T) (v : AV) (r : T)

def pathF : Nat → Nat → List Bool
  | 0, _ => []
  | f + 1, i => match Nat.beq i 0 with
    | true => []
    | false => match Nat.beq (i % 2) 1 with
      | true => true :: pathF f (i / 2)
      | false => false :: pathF f (i / 2 - 1)
def path (i : Nat) : List Bool := pathF i i
def unpath : List Bool → Nat
  | [] => 0
  | true :: p => 2 * unpath p + 1
  | false :: p => 2 * unpath p + 2
theorem unpath_pathF : ∀ (f i : Nat), i ≤ f → unpath (pathF f i) = i
  | 0, i, h => by simp [pathF, unpath]; omega
  | f + 1, i, h => by
    simp only [pathF]
    split
    · rename_i e; have := Nat.eq_of_beq_eq_true e; simp [unpath, this]
    · rename_i e
      have e' := Nat.ne_of_beq_eq_false e
      split
      · rename_i e1
        have := Nat.eq_of_beq_eq_true e1
        simp only [unpath]
        rw [unpath_pathF f (i / 2) (by omega)]
        omega
      · rename_i e1
        have := Nat.ne_of_beq_eq_false e1
        simp only [unpath]
        rw [unpath_pathF f (i / 2 - 1) (by omega)]
        omega
theorem path_inj {i j : Nat} (h : path i = path j) : i = j := by
  have h1 := unpath_pathF i i (Nat.le_refl _)
  have h2 := unpath_pathF j j (Nat.le_refl _)
  unfold path at h
  rw [← h1, ← h2, h]

noncomputable def T.get (t : T) : List Bool → AV :=
  T.rec (motive := fun _ => List Bool → AV) (fun _ => undefA) (fun _ v _ gl gr p => List.rec (motive := fun _ => AV) v (fun b q _ => Bool.rec (motive := fun _ => AV) (gr q) (gl q) b) p) t
noncomputable def T.one (v : AV) (p : List Bool) : T :=
  List.rec (motive := fun _ => T) (.node .leaf v .leaf) (fun b _ m => Bool.rec (motive := fun _ => T) (.node .leaf undefA m) (.node m undefA .leaf) b) p
noncomputable def T.set (v : AV) (t : T) : List Bool → T :=
  T.rec (motive := fun _ => List Bool → T) (fun p => T.one v p) (fun l u r sl sr p => List.rec (motive := fun _ => T) (.node l v r) (fun b q _ => Bool.rec (motive := fun _ => T) (.node l u (sr q)) (.node (sl q) u r) b) p) t
theorem T.get_leaf (p : List Bool) : T.leaf.get p = undefA := rfl
theorem T.get_nil (l r : T) (v : AV) : (T.node l v r).get [] = v := rfl
theorem T.get_true (l r : T) (v : AV) (p : List Bool) : (T.node l v r).get (true :: p) = l.get p := rfl
theorem T.get_false (l r : T) (v : AV) (p : List Bool) : (T.node l v r).get (false :: p) = r.get p := rfl
theorem T.get_one (v : AV) : ∀ (p q : List Bool), (T.one v p).get q = if p = q then v else undefA
  | [], [] => rfl
  | [], true :: q => rfl
  | [], false :: q => rfl
  | true :: p, [] => rfl
  | false :: p, [] => rfl
  | true :: p, true :: q => by
    show (T.one v p).get q = _
    rw [T.get_one v p q]
    simp
  | false :: p, false :: q => by
    show (T.one v p).get q = _
    rw [T.get_one v p q]
    simp
  | true :: p, false :: q => rfl
  | false :: p, true :: q => rfl
theorem T.get_set (v : AV) : ∀ (t : T) (p q : List Bool), (t.set v p).get q = if p = q then v else t.get q
  | .leaf, p, q => by
    show (T.one v p).get q = _
    rw [T.get_one]
    rfl
  | .node l u r, [], [] => rfl
  | .node l u r, [], true :: q => rfl
  | .node l u r, [], false :: q => rfl
  | .node l u r, true :: p, [] => rfl
  | .node l u r, false :: p, [] => rfl
  | .node l u r, true :: p, true :: q => by
    show (l.set v p).get q = _
    rw [T.get_set v l p q]
    simp [T.get_true]
  | .node l u r, false :: p, false :: q => by
    show (r.set v p).get q = _
    rw [T.get_set v r p q]
    simp [T.get_false]
  | .node l u r, true :: p, false :: q => rfl
  | .node l u r, false :: p, true :: q => rfl

/-- The tree holds these slots. -/
def Rt (t : T) (l : List AV) : Prop := ∀ i, t.get (path i) = l.getD i undefA
theorem Rt.set {t : T} {l : List AV} (h : Rt t l) {i : Nat} (hi : i < l.length) (v : AV) : Rt (t.set v (path i)) (l.set i v) := fun j => by
  rw [T.get_set]
  by_cases e : i = j
  · subst e
    rw [if_pos rfl]
    simp [List.getD, hi]
  · rw [if_neg (fun h => e (path_inj h)), h j]
    simp [List.getD, List.getElem?_set_ne e]
noncomputable def T.ofL (l : List AV) : Nat → T → T :=
  List.rec (motive := fun _ => Nat → T → T) (fun _ t => t) (fun a _ ih i t => ih (Nat.add i 1) (t.set a (path i))) l
theorem T.get_ofL : ∀ (l : List AV) (i : Nat) (t : T) (j : Nat), (T.ofL l i t).get (path j) = if i ≤ j ∧ j < i + l.length then l.getD (j - i) undefA else t.get (path j)
  | [], i, t, j => by
    show t.get (path j) = _
    rw [if_neg (fun h => by have := h.2; simp only [List.length_nil] at this; omega)]
  | a :: l, i, t, j => by
    show (T.ofL l (i + 1) (t.set a (path i))).get (path j) = _
    rw [T.get_ofL l (i + 1) _ j, T.get_set]
    by_cases e : i = j
    · subst e
      rw [if_neg (by omega), if_pos rfl, if_pos ⟨Nat.le_refl _, by simp⟩]
      simp
    · rw [if_neg (fun h => e (path_inj h))]
      by_cases h1 : i + 1 ≤ j ∧ j < i + 1 + l.length
      · rw [if_pos h1, if_pos (by simp; omega)]
        obtain ⟨k, rfl⟩ : ∃ k, j = i + 1 + k := ⟨j - (i + 1), by omega⟩
        rw [show i + 1 + k - i = k + 1 by omega, show i + 1 + k - (i + 1) = k by omega]
        simp
      · rw [if_neg h1, if_neg (by simp; omega)]
theorem padA_getD : ∀ (n j : Nat), (padA n).getD j undefA = undefA
  | 0, j => by simp [padA]
  | n + 1, 0 => by simp [padA]
  | n + 1, j + 1 => by simpa [padA] using padA_getD n j
theorem Rt.start (args : List AV) (n : Nat) : Rt (T.ofL args 0 .leaf) (args ++ padA n) := fun j => by
  rw [T.get_ofL]
  by_cases h : j < args.length
  · rw [if_pos (by omega)]
    simp [List.getD, List.getElem?_append_left h]
  · rw [if_neg (by omega), T.get_leaf]
    have := padA_getD n (j - args.length)
    simp only [List.getD] at this ⊢
    rw [List.getElem?_append_right (by omega), this]

/- ### Operands -/
noncomputable def evF (t : T) : Operand → Option AV
  | .tmp i => some (t.get (path i))
  | .const v => ofVal v
  | .global g => some (.glob g)
  | .func f => some (.fn (.func f) [] [])
end Go.Den
