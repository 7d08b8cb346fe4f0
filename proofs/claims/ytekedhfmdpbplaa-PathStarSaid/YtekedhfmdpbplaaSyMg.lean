/- Answers that differ in data alone are one answer. -/
import Derived.Test.YtekedhfmdpbplaaSyLp
import Derived.Test.YtekedhfmdpbplaaSySelf
set_option linter.unusedSimpArgs false
set_option linter.unusedVariables false
namespace Go.Sy
open Go
def cb (b : Bool) : Bool → Bool → Bool
  | true, true => true
  | false, false => false
  | x, y => cond b x y
theorem cb_t (x y : Bool) : cb true x y = x := by cases x <;> cases y <;> rfl
theorem cb_f (x y : Bool) : cb false x y = y := by cases x <;> cases y <;> rfl
def mrgC (b : Bool) : Cap → Cap → Option Cap
  | .tight, .tight => some .tight
  | .known c, .known c' => some (.known (cond b c c'))
  | .more c, .more c' => some (.more (cond b c c'))
  | _, _ => none
mutual
def mrgV (b : Bool) : AV → AV → Option AV
  | .any, .any => some .any
  | .bool x, .bool y => some (.bool (cond b x y))
  | .int k x, .int k' y => match decide (k = k') with
    | true => some (.int k (cond b x y))
    | false => none
  | .str x, .str y => some (.str (cond b x y))
  | .ptr none, .ptr none => some (.ptr none)
  | .ptr (some (i, o)), .ptr (some (i', o')) => match Nat.beq i i' && Nat.beq o o' with
    | true => some (.ptr (some (i, o)))
    | false => none
  | .nilSl, .nilSl => some .nilSl
  | .fz nn e l, .fz nn' e' l' => match Sh.beq e e' with
    | true => some (.fz (cb b nn nn') e (cond b l l'))
    | false => none
  | .fref e d, .fref e' d' => match Sh.beq e e' with
    | true => some (.fref e (cond b d d'))
    | false => none
  | .tsl nn e i off len cap, .tsl nn' e' i' off' len' cap' => match Sh.beq e e' && Nat.beq i i', mrgC b cap cap' with
    | true, some c => some (.tsl (cb b nn nn') e i (cond b off off') (cond b len len') c)
    | _, _ => none
  | .nilFn, .nilFn => some .nilFn
  | .agg cs, .agg cs' => match mrgVs b cs cs' with
    | some l => some (.agg l)
    | none => none
  | .tup cs, .tup cs' => match mrgVs b cs cs' with
    | some l => some (.tup l)
    | none => none
  | _, _ => none
def mrgVs (b : Bool) : List AV → List AV → Option (List AV)
  | [], [] => some []
  | x :: xs, y :: ys => match mrgV b x y, mrgVs b xs ys with
    | some v, some l => some (v :: l)
    | _, _ => none
  | _, _ => none
end
def mrgE (b : Bool) : Ent → Ent → Option Ent
  | .dead, .dead => some .dead
  | .cells cs, .cells cs' => match mrgVs b cs cs' with
    | some l => some (.cells l)
    | none => none
  | .tbl ro e l, .tbl ro' e' l' => match Sh.beq e e' with
    | true => some (.tbl (cb b ro ro') e (cond b l l'))
    | false => none
  | _, _ => none
def mrgS (b : Bool) : St → St → Option St
  | [], [] => some []
  | x :: xs, y :: ys => match mrgE b x y, mrgS b xs ys with
    | some v, some l => some (v :: l)
    | _, _ => none
  | _, _ => none
theorem mrgC_t {x y c : Cap} (h : mrgC true x y = some c) : c = x := by
  cases x <;> cases y <;> simp [mrgC] at h <;> exact h.symm
theorem mrgC_f {x y c : Cap} (h : mrgC false x y = some c) : c = y := by
  cases x <;> cases y <;> simp [mrgC] at h <;> exact h.symm
mutual
theorem mrgV_t : ∀ (x y v : AV), mrgV true x y = some v → v = x
  | .agg cs, y, v, h => by
    cases y <;> simp only [mrgV, reduceCtorEq] at h
    split at h
    · rename_i l e; cases h; rw [mrgVs_t _ _ _ e]
    · cases h
  | .tup cs, y, v, h => by
    cases y <;> simp only [mrgV, reduceCtorEq] at h
    split at h
    · rename_i l e; cases h; rw [mrgVs_t _ _ _ e]
    · cases h
  | .any, y, v, h => by cases y <;> simp [mrgV] at h; exact h.symm
  | .bool x, y, v, h => by cases y <;> simp [mrgV] at h; exact h.symm
  | .int k x, y, v, h => by
    cases y <;> simp only [mrgV, reduceCtorEq] at h
    split at h
    · cases h; rfl
    · cases h
  | .str x, y, v, h => by cases y <;> simp [mrgV] at h; exact h.symm
  | .ptr none, y, v, h => by
    cases y with
    | ptr p => cases p <;> simp [mrgV] at h; exact h.symm
    | _ => simp [mrgV] at h
  | .ptr (some (i, o)), y, v, h => by
    cases y with
    | ptr p =>
      cases p with
      | none => simp [mrgV] at h
      | some q =>
        obtain ⟨i', o'⟩ := q
        simp only [mrgV] at h
        split at h
        · cases h; rfl
        · cases h
    | _ => simp [mrgV] at h
  | .nilSl, y, v, h => by cases y <;> simp [mrgV] at h; exact h.symm
  | .fz nn e l, y, v, h => by
    cases y <;> simp only [mrgV, reduceCtorEq] at h
    split at h
    · cases h; rw [cb_t]; rfl
    · cases h
  | .fref e d, y, v, h => by
    cases y <;> simp only [mrgV, reduceCtorEq] at h
    split at h
    · cases h; rfl
    · cases h
  | .tsl nn e i off len cap, y, v, h => by
    cases y <;> simp only [mrgV, reduceCtorEq] at h
    split at h
    · rename_i c hc
      cases h; rw [cb_t, mrgC_t hc]; rfl
    · cases h
  | .nilFn, y, v, h => by cases y <;> simp [mrgV] at h; exact h.symm
  | .sl .., y, v, h => by cases y <;> simp [mrgV] at h
  | .fn .., y, v, h => by cases y <;> simp [mrgV] at h
  | .lit _, y, v, h => by cases y <;> simp [mrgV] at h
  | .eptr .., y, v, h => by cases y <;> simp [mrgV] at h
theorem mrgVs_t : ∀ (x y v : List AV), mrgVs true x y = some v → v = x
  | [], y, v, h => by cases y <;> simp [mrgVs] at h; exact h
  | a :: x, y, v, h => by
    cases y with
    | nil => simp [mrgVs] at h
    | cons b y =>
      simp only [mrgVs] at h
      split at h
      · rename_i e1 e2; cases h; rw [mrgV_t _ _ _ e1, mrgVs_t _ _ _ e2]
      · cases h
end
mutual
theorem mrgV_f : ∀ (x y v : AV), mrgV false x y = some v → v = y
  | .agg cs, y, v, h => by
    cases y <;> simp only [mrgV, reduceCtorEq] at h
    split at h
    · rename_i l e; cases h; rw [mrgVs_f _ _ _ e]
    · cases h
  | .tup cs, y, v, h => by
    cases y <;> simp only [mrgV, reduceCtorEq] at h
    split at h
    · rename_i l e; cases h; rw [mrgVs_f _ _ _ e]
    · cases h
  | .any, y, v, h => by cases y <;> simp [mrgV] at h; exact h.symm
  | .bool x, y, v, h => by cases y <;> simp [mrgV] at h; exact h.symm
  | .int k x, y, v, h => by
    cases y <;> simp only [mrgV, reduceCtorEq] at h
    split at h
    · rename_i e; have e := of_decide_eq_true e; subst e; cases h; rfl
    · cases h
  | .str x, y, v, h => by cases y <;> simp [mrgV] at h; exact h.symm
  | .ptr none, y, v, h => by
    cases y with
    | ptr p => cases p <;> simp [mrgV] at h; exact h.symm
    | _ => simp [mrgV] at h
  | .ptr (some (i, o)), y, v, h => by
    cases y with
    | ptr p =>
      cases p with
      | none => simp [mrgV] at h
      | some q =>
        obtain ⟨i', o'⟩ := q
        simp only [mrgV] at h
        split at h
        · rename_i e
          simp only [Bool.and_eq_true] at e
          obtain rfl := Nat.eq_of_beq_eq_true e.1
          obtain rfl := Nat.eq_of_beq_eq_true e.2
          cases h; rfl
        · cases h
    | _ => simp [mrgV] at h
  | .nilSl, y, v, h => by cases y <;> simp [mrgV] at h; exact h.symm
  | .fz nn e l, y, v, h => by
    cases y <;> simp only [mrgV, reduceCtorEq] at h
    split at h
    · rename_i e1; obtain rfl := Sh.beq_eq _ _ e1; cases h; rw [cb_f]; rfl
    · cases h
  | .fref e d, y, v, h => by
    cases y <;> simp only [mrgV, reduceCtorEq] at h
    split at h
    · rename_i e1; obtain rfl := Sh.beq_eq _ _ e1; cases h; rfl
    · cases h
  | .tsl nn e i off len cap, y, v, h => by
    cases y <;> simp only [mrgV, reduceCtorEq] at h
    split at h
    · rename_i c e1 hc
      simp only [Bool.and_eq_true] at e1
      obtain rfl := Sh.beq_eq _ _ e1.1
      obtain rfl := Nat.eq_of_beq_eq_true e1.2
      cases h; rw [cb_f, mrgC_f hc]; rfl
    · cases h
  | .nilFn, y, v, h => by cases y <;> simp [mrgV] at h; exact h.symm
  | .sl .., y, v, h => by cases y <;> simp [mrgV] at h
  | .fn .., y, v, h => by cases y <;> simp [mrgV] at h
  | .lit _, y, v, h => by cases y <;> simp [mrgV] at h
  | .eptr .., y, v, h => by cases y <;> simp [mrgV] at h
theorem mrgVs_f : ∀ (x y v : List AV), mrgVs false x y = some v → v = y
  | [], y, v, h => by cases y <;> simp [mrgVs] at h; exact h
  | a :: x, y, v, h => by
    cases y with
    | nil => simp [mrgVs] at h
    | cons b y =>
      simp only [mrgVs] at h
      split at h
      · rename_i e1 e2; cases h; rw [mrgV_f _ _ _ e1, mrgVs_f _ _ _ e2]
      · cases h
end
theorem mrgE_t {x y v : Ent} (h : mrgE true x y = some v) : v = x := by
  cases x <;> cases y <;> simp only [mrgE, reduceCtorEq] at h
  · split at h
    · rename_i e; cases h; rw [mrgVs_t _ _ _ e]
    · cases h
  · split at h
    · cases h; rw [cb_t]; rfl
    · cases h
  · cases h; rfl
theorem mrgE_f {x y v : Ent} (h : mrgE false x y = some v) : v = y := by
  cases x <;> cases y <;> simp only [mrgE, reduceCtorEq] at h
  · split at h
    · rename_i e; cases h; rw [mrgVs_f _ _ _ e]
    · cases h
  · split at h
    · rename_i e1; obtain rfl := Sh.beq_eq _ _ e1; cases h; rw [cb_f]; rfl
    · cases h
  · cases h; rfl
theorem mrgS_t : ∀ (x y v : St), mrgS true x y = some v → v = x
  | [], y, v, h => by cases y <;> simp [mrgS] at h; exact h
  | a :: x, y, v, h => by
    cases y with
    | nil => simp [mrgS] at h
    | cons b y =>
      simp only [mrgS] at h
      split at h
      · rename_i e1 e2; cases h; rw [mrgE_t e1, mrgS_t _ _ _ e2]
      · cases h
theorem mrgS_f : ∀ (x y v : St), mrgS false x y = some v → v = y
  | [], y, v, h => by cases y <;> simp [mrgS] at h; exact h
  | a :: x, y, v, h => by
    cases y with
    | nil => simp [mrgS] at h
    | cons b y =>
      simp only [mrgS] at h
      split at h
      · rename_i e1 e2; cases h; rw [mrgE_f e1, mrgS_f _ _ _ e2]
      · cases h
/-- Each answer leaves this memory. -/
def RT.allS (S : St) : RT → Prop
  | .fail => True
  | .ok _ _ s _ => s = S
  | .br _ x y => x.allS S ∧ y.allS S
def RT.mrgW (S : St) (b : Bool) : RT → RT → RT
  | .ok g v s _, .ok g' v' s' _ => match mrgV b v v' with
    | some v'' => .ok (cond b g g') v'' S []
    | none => .br b (.ok g v S []) (.ok g' v' S [])
  | .fail, .ok g v _ _ => .ok (!b && g) v S []
  | .ok g v _ _, .fail => .ok (b && g) v S []
  | .fail, .fail => .fail
  | x, y => .br b x y
def RT.mergeW (S : St) : RT → RT
  | .br b x y => RT.mrgW S b (x.mergeW S) (y.mergeW S)
  | .ok g v _ _ => .ok g v S []
  | .fail => .fail
theorem mrgW_K {k : AV → St → Prop} {S : St} (b : Bool) (x y : RT) (hx : x.allS S) (hy : y.allS S) (h : (RT.mrgW S b x y).K (fun v s _ => k v s)) : (RT.br b x y).K (fun v s _ => k v s) := by
  unfold RT.mrgW at h
  split at h
  · simp only [RT.allS] at hx hy
    subst hx
    split at h
    · rename_i v'' e1
      cases b
      · rw [mrgV_f _ _ _ e1] at h; subst hy; exact h
      · rw [mrgV_t _ _ _ e1] at h; exact h
    · cases b
      · subst hy; exact h
      · exact h
  · rename_i g v s _
    simp only [RT.allS] at hy
    subst hy
    cases b
    · exact h
    · exact h.elim
  · rename_i g v s _
    simp only [RT.allS] at hx
    subst hx
    cases b
    · exact h.elim
    · exact h
  · exact h.elim
  · exact h
theorem mrgW_all {S : St} (b : Bool) (x y : RT) (hx : x.allS S) (hy : y.allS S) : (RT.mrgW S b x y).allS S := by
  unfold RT.mrgW
  split
  · split
    · rfl
    · exact ⟨rfl, rfl⟩
  · rfl
  · rfl
  · trivial
  · exact ⟨hx, hy⟩
theorem mergeW_all {S : St} : ∀ (t : RT), t.allS S → (t.mergeW S).allS S
  | .fail, h => trivial
  | .ok g v s _, h => rfl
  | .br b x y, h => mrgW_all b _ _ (mergeW_all x h.1) (mergeW_all y h.2)
theorem mergeW_K {k : AV → St → Prop} {S : St} : ∀ (t : RT), t.allS S → (t.mergeW S).K (fun v s _ => k v s) → t.K (fun v s _ => k v s)
  | .fail, _, h => h
  | .ok g v s _, hs, h => by
    simp only [RT.allS] at hs
    subst hs
    exact h
  | .br b x y, hs, h => by
    have h := mrgW_K b (x.mergeW S) (y.mergeW S) (mergeW_all x hs.1) (mergeW_all y hs.2) h
    cases b
    · exact mergeW_K y hs.2 h
    · exact mergeW_K x hs.1 h
end Go.Sy
