/- The tables of the program that nobody writes: the blocks of those variables, and what stands in them. (None here; a seat that has some brings a text of its own.) -/
import GoSem.Claims
namespace Go.Sy
open Go
def Glob.facts : List (Nat × List Value) := []
end Go.Sy
