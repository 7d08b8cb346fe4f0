/- Plain: values and what is known of them: a shape; a function that answers true. -/
import Derived.Test.YtcbojoeijpeadaaPvG
set_option linter.unusedSimpArgs false
set_option linter.unusedVariables false
namespace Go.Sy
open Go
def shQ : Sh := .struct [.struct [.int .i64, .int .i64, .str], .bool]
def trueF7 : Spec := ⟨[], fun args s => match args, s with
  | [], [] => .ok true (.bool true) [] []
  | _, _ => .fail⟩
end Go.Sy
