/- Plain: tables' forms that are reckoned to be such as may be handed in. -/
import Derived.Test.YtekedhfmdpbplaaPvPa
set_option linter.unusedSimpArgs false
set_option linter.unusedVariables false
namespace Go.Sy
open Go
def depB : D → Bool
  | .agg [.list l, .str _] => shortL l
  | _ => false
def tabB : D → Bool
  | .agg [.str _, .list l, .str _, .list d] => shortL l && (shortL d && d.all depB)
  | _ => false
def okTB (t : D) : Bool := tabB t && wfT t
def wB (w : List D) : Bool := shortL w && w.all okTB
def insB (l : List D) : Bool := shortL l && l.all tabB
theorem shortL_lt {l : List D} (h : shortL l = true) : l.length < 1000000 := by
  unfold shortL at h
  exact Nat.le_of_ble_eq_true h
theorem depB_ok {x : D} (h : depB x = true) : (x.fld 0).els.length < 1000000 ∧ nrmD x = x := by
  unfold depB at h
  split at h
  · exact ⟨shortL_lt h, rfl⟩
  · cases h
theorem all_getD {p : D → Bool} {l : List D} (h : l.all p = true) {i : Nat} (hi : i < l.length) : p (l.getD i .nul) = true := by
  rw [getD_at hi]
  exact List.all_eq_true.1 h _ (List.getElem_mem hi)
theorem tabB_ok {t : D} (h : tabB t = true) : InT t ∧ t = mkT (t.fld 0).asStr (t.fld 1).els (t.fld 2).asStr (t.fld 3).els := by
  unfold tabB at h
  split at h
  · rename_i a l k d
    simp only [Bool.and_eq_true] at h
    obtain ⟨h1, h2, h3⟩ := h
    exact ⟨⟨shortL_lt h1, shortL_lt h2, fun i hi => (depB_ok (all_getD h3 hi)).1, fun i hi => (depB_ok (all_getD h3 hi)).2⟩, rfl⟩
  · cases h
theorem okTB_ok {t : D} (h : okTB t = true) : OkT t := by
  unfold okTB at h
  simp only [Bool.and_eq_true] at h
  obtain ⟨h1, h2⟩ := tabB_ok h.1
  exact ⟨h.2, h1.cols, h1.deps, h1.left, h1.nrm, h2⟩
theorem wB_ok {w : List D} (h : wB w = true) : w.length < 1000000 ∧ ∀ t ∈ w, OkT t := by
  unfold wB at h
  simp only [Bool.and_eq_true] at h
  exact ⟨shortL_lt h.1, fun t ht => okTB_ok (List.all_eq_true.1 h.2 t ht)⟩
theorem insB_ok {l : List D} (h : insB l = true) : l.length < 1000000 ∧ ∀ i, i < l.length → InT (l.getD i .nul) := by
  unfold insB at h
  simp only [Bool.and_eq_true] at h
  exact ⟨shortL_lt h.1, fun i hi => (tabB_ok (all_getD h.2 hi)).1⟩
/-- Both schemas of some tables. -/
def bothG : Spec := ⟨[.data (.slice shTab)], fun args s => match args, s with
  | [.fz false e l], [] => .ok (Sh.beq e shTab && insB l) (.tup [.ptr (some (0, 0)), .fz false shTab (bothS [] l)]) [.cells [.tsl false shTab 1 0 (bothS [] l).length .tight], .tbl false shTab (bothS [] l)] []
  | _, _ => .fail⟩
/-- A table of a schema. -/
def findG : Spec := ⟨[], fun args s => match args, s with
  | [.ptr (some (a, b)), .str c], [.cells [.tsl false e x y n .tight], .tbl false e' w] => .ok (Nat.beq a 0 && (Nat.beq b 0 && (Sh.beq e shTab && (Nat.beq x 1 && (Nat.beq y 0 && (Nat.beq n w.length && (Sh.beq e' shTab && wB w)))))))
      (.tup [.agg [.str (bif hasN c w then ((tabAt w c).fld 0).asStr else []), .fz false shCol (bif hasN c w then ((tabAt w c).fld 1).els else []), .str (bif hasN c w then ((tabAt w c).fld 2).asStr else []), .fz false shDep (bif hasN c w then ((tabAt w c).fld 3).els else [])], .bool (hasN c w)])
      [.cells [.tsl false shTab 1 0 n .tight], .tbl false shTab w] []
  | _, _ => .fail⟩
/-- A column of a schema. -/
def scolG : Spec := ⟨[], fun args s => match args, s with
  | [.ptr (some (a, b)), .str t, .str c], [.cells [.tsl false e x y n .tight], .tbl false e' w] => .ok (Nat.beq a 0 && (Nat.beq b 0 && (Sh.beq e shTab && (Nat.beq x 1 && (Nat.beq y 0 && (Nat.beq n w.length && (Sh.beq e' shTab && (wB w && (hasN t w && hasN c ((tabAt w t).fld 1).els)))))))))
      (.tup [.agg [.str ((colAt ((tabAt w t).fld 1).els c).fld 0).asStr, .int .i64 ((colAt ((tabAt w t).fld 1).els c).fld 1).asInt, .bool ((colAt ((tabAt w t).fld 1).els c).fld 2).asBool, .str ((colAt ((tabAt w t).fld 1).els c).fld 3).asStr], .bool true])
      [.cells [.tsl false shTab 1 0 n .tight], .tbl false shTab w] []
  | _, _ => .fail⟩
/-- None of that name. -/
def scolN : Spec := ⟨[], fun args s => match args, s with
  | [.ptr (some (a, b)), .str t, .str c], [.cells [.tsl false e x y n .tight], .tbl false e' w] => .ok (Nat.beq a 0 && (Nat.beq b 0 && (Sh.beq e shTab && (Nat.beq x 1 && (Nat.beq y 0 && (Nat.beq n w.length && (Sh.beq e' shTab && (wB w && !(hasN t w && hasN c ((tabAt w t).fld 1).els)))))))))
      (.tup [.agg [.str [], .int .i64 0, .bool false, .str []], .bool false])
      [.cells [.tsl false shTab 1 0 n .tight], .tbl false shTab w] []
  | _, _ => .fail⟩
/-- Both. -/
def scolX : Spec := ⟨[], fun args s => match args, s with
  | [.ptr (some (a, b)), .str t, .str c], [.cells [.tsl false e x y n .tight], .tbl false e' w] => .br (hasN t w && hasN c ((tabAt w t).fld 1).els) (scolG.f [.ptr (some (a, b)), .str t, .str c] [.cells [.tsl false e x y n .tight], .tbl false e' w]) (scolN.f [.ptr (some (a, b)), .str t, .str c] [.cells [.tsl false e x y n .tight], .tbl false e' w])
  | _, _ => .fail⟩
theorem scolX_ok {P : Program} {g : FuncId} (h1 : SpecOk P g scolG.f) (h2 : SpecOk P g scolN.f) : SpecOk P g scolX.f := specOk_comes fun args s v s' tch e => by
  simp only [scolX] at e
  split at e
  · simp only [RT.run] at e
    split at e
    · exact ⟨h1.len _ _ _ _ _ e, h1.calls _ _ _ _ _ e⟩
    · exact ⟨h2.len _ _ _ _ _ e, h2.calls _ _ _ _ _ e⟩
  · cases e
end Go.Sy
