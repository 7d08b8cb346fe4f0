/- What the functions of maps and words answer of none; either of two. -/
import Derived.Test.YtkfdfenaaidkkaaPvK
import Derived.Test.YtkfdfenaaidkkaaSyX
set_option linter.unusedSimpArgs false
set_option linter.unusedVariables false
namespace Go.Sy
open Go
def altR (none_ : RT) (some_ : RT) : List AV → RT
  | .ptr none :: _ => none_
  | _ => some_
/-- With a pointer that is nil; else. -/
def altF (N F : Spec) : Spec := ⟨[], fun args s => match args with
  | .ptr none :: _ => N.f args s
  | _ => F.f args s⟩
theorem alt_ok {P : Program} {g : FuncId} {N F : Spec} (h1 : SpecOk P g N.f) (h2 : SpecOk P g F.f) : SpecOk P g (altF N F).f where
  len := fun args s v s' tch e => by
    simp only [altF] at e
    split at e
    · exact h1.len _ _ _ _ _ e
    · exact h2.len _ _ _ _ _ e
  calls := fun args s v s' tch e => by
    simp only [altF] at e
    split at e
    · exact h1.calls _ _ _ _ _ e
    · exact h2.calls _ _ _ _ _ e
/-- Of a key, of no map. -/
def nilKF (v : AV) : Spec := ⟨[], fun args s => match args, s with
  | [.ptr none, .str k], [] => .ok true v [] []
  | _, _ => .fail⟩
def nilKVF (v : AV) : Spec := ⟨[], fun args s => match args, s with
  | [.ptr none, .str k, .int .i64 n], [] => .ok true v [] []
  | _, _ => .fail⟩
def nilVKF (v : AV) : Spec := ⟨[], fun args s => match args, s with
  | [.ptr none, .int .i64 n, .str k], [] => .ok true v [] []
  | _, _ => .fail⟩
def nilIF (v : AV) : Spec := ⟨[], fun args s => match args, s with
  | [.ptr none, .int .i64 n], [] => .ok true v [] []
  | _, _ => .fail⟩
def nilF (v : AV) : Spec := ⟨[], fun args s => match args, s with
  | [.ptr none], [] => .ok true v [] []
  | _, _ => .fail⟩
def trueF0 : Spec := ⟨[], fun args s => match args, s with
  | [], [] => .ok true (.bool true) [] []
  | _, _ => .fail⟩
end Go.Sy
