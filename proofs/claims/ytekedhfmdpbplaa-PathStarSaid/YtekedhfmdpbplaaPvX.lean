/- Plain: forms of tables, ways; copies of slices. -/
import Derived.Test.YtekedhfmdpbplaaSyMap
set_option linter.unusedSimpArgs false
set_option linter.unusedVariables false
namespace Go.Sy
open Go
def shCol : Sh := .struct [.str, .int .i64, .bool, .str]
def shDep : Sh := .struct [.slice .str, .str]
def shTab : Sh := .struct [.str, .slice shCol, .str, .slice shDep]
/-- The first, or else the second. -/
def orS (F G : Spec) : Spec := ⟨[], fun args s => match F.f args s with
  | .fail => G.f args s
  | r => r⟩
theorem orS_ok {P : Program} {g : FuncId} {F G : Spec} (h1 : SpecOk P g F.f) (h2 : SpecOk P g G.f) : SpecOk P g (orS F G).f where
  len := fun args s v s' tch e => by
    simp only [orS] at e
    split at e
    · exact h2.len _ _ _ _ _ e
    · exact h1.len _ _ _ _ _ e
  calls := fun args s v s' tch e => by
    simp only [orS] at e
    split at e
    · exact h2.calls _ _ _ _ _ e
    · exact h1.calls _ _ _ _ _ e
/-- slices.Clone of memory that nobody writes. -/
def cloneDF (e : Sh) : Spec := ⟨[], fun args s => match args, s with
  | [.fz _ e' l], [] => .ok (Sh.beq e' e && Nat.blt l.length 1000000) (.tsl false e 0 0 l.length .tight) [.tbl false e l] []
  | _, _ => .fail⟩
theorem cloneD_ok {P : Program} {g : FuncId} {e : Sh} (h1 : ∀ l : List D, l.length < 1000000 → Comes P g [.fz true e l] [] (.tsl true e 0 0 l.length .tight) [.tbl false e l]) (h2 : Comes P g [.nilSl] [] .nilSl []) : SpecOk P g (cloneDF e).f := specOk_comes fun args s v s' tch er => by
  simp only [cloneDF] at er
  split at er
  · rename_i nn e' l
    obtain ⟨hg, rfl, rfl, rfl⟩ := run_ok (g := _) er
    simp only [Bool.and_eq_true, Nat.blt_eq] at hg
    obtain ⟨h3, h4⟩ := hg
    have h3 := Sh.beq_eq _ _ h3
    subst h3
    have k1 := comes_weak (h1 l h4)
    cases nn with
    | true => exact k1
    | false =>
      refine comes_fz [] [] k1 fun hl => ?_
      subst hl
      exact comes_nil (e := e') h2
  · cases er
end Go.Sy
