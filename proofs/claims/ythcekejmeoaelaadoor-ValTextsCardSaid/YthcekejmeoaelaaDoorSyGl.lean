/- The tables of the program that nobody writes: the blocks of those variables, and what stands in them. -/
import GoSem.Claims
import Derived.Lib.ItoaNum
namespace Go.Sy
open Go
def Glob.facts : List (Nat × List Value) := [(0, Lib.pow10Tab.map fun z => .int .u64 z)]
end Go.Sy
