/- Loops told by what one round does with plain data; the rest goes by itself. -/
import Derived.Test.YtekedhfmdpbplaaSyX
set_option linter.unusedSimpArgs false
set_option linter.unusedVariables false
namespace Go.Sy
open Go
instance : Inhabited D := ⟨.nul⟩
/-- What a round comes to: once more; done; a fault. -/
inductive NT (X Y : Type) where
  | fail
  | more (x : X)
  | done (y : Y)
  | br (b : Bool) (l r : NT X Y)
inductive Nxt (X Y : Type) where
  | fail
  | more (x : X)
  | done (y : Y)
section
variable {X Y : Type}
def NT.run : NT X Y → Nxt X Y
  | .fail => .fail
  | .more x => .more x
  | .done y => .done y
  | .br b l r => match b with
    | true => l.run
    | false => r.run
def NT.K (a : X → Prop) (d : Y → Prop) : NT X Y → Prop
  | .fail => False
  | .more x => a x
  | .done y => d y
  | .br b l r => Go.Sy.br b (l.K a d) (r.K a d)
theorem NT.K_of {a : X → Prop} {d : Y → Prop} : ∀ (t : NT X Y), (match t.run with | .fail => False | .more x => a x | .done y => d y) → t.K a d
  | .fail, h => h
  | .more x, h => h
  | .done y, h => h
  | .br b l r, h => by
    cases b
    · exact NT.K_of r h
    · exact NT.K_of l h
def iter (stp : X → NT X Y) : Nat → X → Option Y
  | 0, _ => none
  | n + 1, x => match (stp x).run with
    | .more x' => iter stp n x'
    | .done y => some y
    | .fail => none
theorem iter_mono {stp : X → NT X Y} : ∀ {n : Nat} {x : X} {y : Y}, iter stp n x = some y → iter stp (n + 1) x = some y
  | 0, x, y, h => by cases h
  | n + 1, x, y, h => by
    rw [iter] at h ⊢
    cases e : (stp x).run with
    | fail => rw [e] at h; cases h
    | more x' => rw [e] at h; exact iter_mono (n := n) h
    | done y' => rw [e] at h; exact h
theorem iter_le {stp : X → NT X Y} {n m : Nat} {x : X} {y : Y} (hnm : n ≤ m) (h : iter stp n x = some y) : iter stp m x = some y := by
  induction hnm with
  | refl => exact h
  | step _ ih => exact iter_mono ih
open Classical in
noncomputable def loopR (stp : X → NT X Y) (x : X) : Option Y := if h : ∃ y, ∃ n, iter stp n x = some y then some h.choose else none
theorem loopR_some {stp : X → NT X Y} {x : X} {y : Y} : loopR stp x = some y ↔ ∃ n, iter stp n x = some y := by
  unfold loopR
  constructor
  · intro h
    split at h
    · rename_i h'
      cases h
      exact h'.choose_spec
    · cases h
  · rintro ⟨n, h⟩
    have h' : ∃ y, ∃ n, iter stp n x = some y := ⟨y, n, h⟩
    rw [dif_pos h']
    obtain ⟨m, hm⟩ := h'.choose_spec
    have k1 := iter_le (Nat.le_max_left n m) h
    have k2 := iter_le (Nat.le_max_right n m) hm
    rw [k1] at k2
    exact k2.symm
theorem loopR_eq (stp : X → NT X Y) (x : X) : loopR stp x = match (stp x).run with
    | .more x' => loopR stp x'
    | .done y => some y
    | .fail => none := by
  apply Option.ext
  intro y
  rw [loopR_some]
  constructor
  · rintro ⟨n, h⟩
    cases n with
    | zero => cases h
    | succ n =>
      rw [iter] at h
      cases e : (stp x).run with
      | fail => rw [e] at h; cases h
      | more x' => rw [e] at h; exact loopR_some.2 ⟨n, h⟩
      | done y' => rw [e] at h; exact h
  · intro h
    cases e : (stp x).run with
    | fail => rw [e] at h; cases h
    | more x' =>
      rw [e] at h
      obtain ⟨n, h⟩ := loopR_some.1 h
      exact ⟨n + 1, by rw [iter, e]; exact h⟩
    | done y' => rw [e] at h; exact ⟨1, by rw [iter, e]; exact h⟩
/-- Behind so many slots that are forgotten. -/
def dropAny : Nat → List AV → Option (List AV)
  | 0, l => some l
  | n + 1, .any :: l => dropAny n l
  | _, _ => none
theorem dropAny_eq : ∀ {n : Nat} {l r : List AV}, dropAny n l = some r → l = padAny n ++ r
  | 0, l, r, h => by cases h; rfl
  | n + 1, [], r, h => by cases h
  | n + 1, a :: l, r, h => by
    cases a with
    | any => exact congrArg (AV.any :: ·) (dropAny_eq (n := n) h)
    | _ => cases h
noncomputable def loopOk (stp : X → NT X Y) (x : X) : Bool := (loopR stp x).isSome
noncomputable def loopV [Inhabited Y] (stp : X → NT X Y) (x : X) : Y := (loopR stp x).getD default
theorem loopOk_of {stp : X → NT X Y} {x : X} {y : Y} (h : loopR stp x = some y) : loopOk stp x = true := by unfold loopOk; rw [h]; rfl
theorem loopV_of [Inhabited Y] {stp : X → NT X Y} {x : X} {y : Y} (h : loopR stp x = some y) : loopV stp x = y := by unfold loopV; rw [h]; rfl
theorem loop_of [Inhabited Y] {stp : X → NT X Y} {x : X} (h : loopOk stp x = true) : loopR stp x = some (loopV stp x) := by
  unfold loopOk at h
  unfold loopV
  cases e : loopR stp x with
  | none => rw [e] at h; cases h
  | some y => rfl
/-- The outcome of a loop, told of its head: what stays as it is, what a round turns. -/
noncomputable def outL {I : Type} [Inhabited Y] (stp : I → X → NT X Y) (of : List AV → St → Option (I × X)) (ex : I → Y → KS → Prop) : LoopS := fun t s k =>
  match of t s with
  | some (i, x) => br (loopOk (stp i) x) (ex i (loopV (stp i) x) k) False
  | none => False
variable {P : Program}
theorem headK_mono {n : Nat} {ks : List Keep} {k k' : List AV → St → Prop} {t : List AV} {s : St} (hk : ∀ t s, k t s → k' t s) (h : headK n ks k t s) : headK n ks k' t s := by
  unfold headK at h ⊢
  split at h
  · rename_i t' s' e
    simp only [e, fTm_eq, fSt_eq] at h ⊢
    exact hk _ _ h
  · exact h.elim
theorem loops_lp (ok : ProgOk P) {pr : FuncId → Option Spec} (hpr : PrOk P pr) {g : FuncId} {id n L : Nat} {lp : Nat → Option LoopS} (hdist : distinctOk P g = true) (hlp : LoopsFor P g n lp)
    {I : Type} [Inhabited Y] {ks kh kx : List Keep} {T : I → X → List AV} {S : I → X → St} {stp : I → X → NT X Y} {of : List AV → St → Option (I × X)} {ex : I → Y → KS → Prop}
    (hof : ∀ t s i x, of t s = some (i, x) → t = T i x ∧ s = S i x)
    (rd : ∀ i x more kk, roundK P pr lp L g id (T i x) (S i x) (againK n id ks kx more kk) = (stp i x).K (fun x' => more (T i x') (S i x')) (fun y => ex i y kk)) :
    LoopsFor P g n (addL id (headG n kh (outL stp of ex)) lp) := by
  have h0 := loops_add (ks := ks) (kh := kh) (kx := kx) (L := L) (M := fun m t s k => ∃ i x, t = T i x ∧ s = S i x ∧ ∃ y, iter (stp i) m x = some y ∧ ex i y k) ok hpr hdist hlp (by
    rintro m t s k ⟨i, x, rfl, rfl, y, hi, hk⟩
    rw [rd]
    apply NT.K_of
    cases m with
    | zero => cases hi
    | succ m =>
      rw [iter] at hi
      cases e : (stp i x).run with
      | fail => rw [e] at hi; cases hi
      | more x' =>
        rw [e] at hi
        exact ⟨m, Nat.lt_succ_self m, i, x', rfl, rfl, y, hi, hk⟩
      | done y' =>
        rw [e] at hi
        cases hi
        exact hk)
  intro j F hF c hc t s k hn h
  unfold addL at hF
  split at hF
  · rename_i hj
    cases hF
    refine h0 j _ (by unfold addL; rw [hj]) c hc t s k hn ?_
    refine headK_mono (fun t s h => ?_) h
    unfold outL at h
    split at h
    · rename_i i x e
      obtain ⟨rfl, rfl⟩ := hof _ _ _ _ e
      cases hb : loopOk (stp i) x with
      | false => rw [hb] at h; exact h.elim
      | true =>
        rw [hb] at h
        obtain ⟨m, hm⟩ := loopR_some.1 (loop_of hb)
        exact ⟨m, i, x, rfl, rfl, _, hm, h⟩
    · exact h.elim
  · rename_i hj
    exact hlp j F hF c hc t s k hn h
end
end Go.Sy
