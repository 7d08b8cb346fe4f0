/- Answers told in another way, leaf by leaf. -/
import Derived.Test.YtekedhfmdpbplaaSyMove
import Derived.Test.YtekedhfmdpbplaaSySelf
set_option linter.unusedSimpArgs false
set_option linter.unusedVariables false
namespace Go.Sy
open Go
abbrev LeafM := List AV → St → AV → St → AV × St
def RT.mapL (m : AV → St → AV × St) : RT → RT
  | .fail => .fail
  | .ok g v s tch => .ok g (m v s).1 (m v s).2 tch
  | .br b x y => .br b (x.mapL m) (y.mapL m)
def mapF (m : LeafM) (F : Spec) : Spec := ⟨F.args, fun args s => (F.f args s).mapL (m args s)⟩
theorem mapL_run {m : AV → St → AV × St} {v : AV} {s : St} {tch : List Nat} : ∀ {r : RT}, (r.mapL m).run = some (v, s, tch) → ∃ v0 s0, r.run = some (v0, s0, tch) ∧ v = (m v0 s0).1 ∧ s = (m v0 s0).2
  | .fail, e => by cases e
  | .ok g v0 s0 t, e => by
    cases g
    · cases e
    · cases e; exact ⟨v0, s0, rfl, rfl, rfl⟩
  | .br b x y, e => by
    cases b
    · exact mapL_run (r := y) e
    · exact mapL_run (r := x) e
def LeafOk (P : Program) (m : LeafM) : Prop := ∀ g args s v s', Comes P g args s v s' → Comes P g args s (m args s v s').1 (m args s v s').2
theorem mapF_ok {P : Program} {g : FuncId} {m : LeafM} {F : Spec} (hm : LeafOk P m) (h : SpecOk P g F.f) : SpecOk P g (mapF m F).f := specOk_comes fun args s v s' tch e => by
  obtain ⟨v0, s0, h1, rfl, rfl⟩ := mapL_run e
  exact hm _ _ _ _ _ ⟨h.len _ _ _ _ _ h1, h.calls _ _ _ _ _ h1⟩
/-- A nil slice in a block: an empty slice of its own. -/
def mNil (i j : Nat) (e : Sh) : LeafM := fun _ _ v s' => match s'[i]? with
  | some (.cells cs) => match cs[j]? with
    | some .nilSl => (v, (s' ++ [Ent.tbl false e []]).set i (.cells (cs.set j (.tsl false e s'.length 0 0 .tight))))
    | _ => (v, s')
  | _ => (v, s')
theorem mNil_ok {P : Program} (i j : Nat) (e : Sh) : LeafOk P (mNil i j e) := by
  intro g args s v s' h
  unfold mNil
  split
  · rename_i cs hi
    split
    · rename_i hj
      have hjl := (List.getElem?_eq_some_iff.1 hj).1
      have e1 : cs = cs.take j ++ .nilSl :: cs.drop (j + 1) := by
        have := List.drop_eq_getElem_cons hjl
        rw [(List.getElem?_eq_some_iff.1 hj).2] at this
        rw [← this, List.take_append_drop]
      have e2 : ∀ x, cs.set j x = cs.take j ++ x :: cs.drop (j + 1) := fun x => List.set_eq_take_append_cons_drop .. |>.trans (by rw [if_pos hjl])
      simp only [e2]
      exact comes_nil_in (by rw [hi, ← e1]) h
    · exact h
  · exact h
/-- A result that is nil: an empty slice of its own. -/
def mNilV (e : Sh) : LeafM := fun _ _ v s' => match v with
  | .nilSl => (.tsl false e s'.length 0 0 .tight, s' ++ [Ent.tbl false e []])
  | _ => (v, s')
theorem mNilV_ok {P : Program} (e : Sh) : LeafOk P (mNilV e) := by
  intro g args s v s' h
  unfold mNilV
  split
  · exact comes_nil h
  · exact h
/-- A slice in a block: of a table with a number of its own, and it may be nil. -/
def mMove (i j : Nat) : LeafM := fun args s v s' => match args, s with
  | .ptr (some (0, _)) :: _, _ :: _ => match s'[i]? with
    | some (.cells cs) => match cs[j]? with
      | some (.tsl nn e b off n c) => match Nat.blt b s.length with
        | true => match s'[b]? with
          | some (.tbl false sh l) => match groundL s' [0] (upto s.length) with
            | true => (v, moved s' i b (cs.set j (.tsl false e s'.length off n c)) sh l)
            | false => (v, s')
          | _ => (v, s')
        | false => (v, s'.set i (.cells (cs.set j (.tsl false e b off n c))))
      | _ => (v, s')
    | _ => (v, s')
  | _, _ => (v, s')
theorem mem_upto : ∀ {n b : Nat}, b < n → b ∈ upto n
  | n + 1, b, h => by
    unfold upto
    rcases Nat.lt_or_ge b n with h | h
    · simp [mem_upto h]
    · simp [show b = n by omega]
theorem mMove_ok {P : Program} (i j : Nat) : LeafOk P (mMove i j) := by
  intro g args s v s' h
  unfold mMove
  split
  · rename_i a0 rest x0 s0
    split
    · rename_i cs hi
      split
      · rename_i nn e b off n c hj
        have hjl := (List.getElem?_eq_some_iff.1 hj).1
        have e1 : cs = cs.take j ++ .tsl nn e b off n c :: cs.drop (j + 1) := by
          have := List.drop_eq_getElem_cons hjl
          rw [(List.getElem?_eq_some_iff.1 hj).2] at this
          rw [← this, List.take_append_drop]
        have e2 : ∀ x, cs.set j x = cs.take j ++ x :: cs.drop (j + 1) := fun x => List.set_eq_take_append_cons_drop .. |>.trans (by rw [if_pos hjl])
        split
        · rename_i hbs
          rw [Nat.blt_eq] at hbs
          split
          · rename_i sh l hb
            split
            · rename_i hg
              simp only [e2]
              exact comes_move hb (by rw [hi, ← e1]) rfl (by simp) hg (mem_upto hbs) h
            · exact h
          · exact h
        · simp only [e2]
          exact comes_weak_in (by rw [hi, ← e1]) h
      · exact h
    · exact h
  · exact h
end Go.Sy
