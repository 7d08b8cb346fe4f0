/- Cases of PathDeep. -/
import Derived.Test.YtekedhfmdpbplaaPathDeepGo
namespace Go.Proofs.Ytekedhfmdpbplaa.pathDeep
open Go.Den
theorem c54 : go [.int .i64 (4), .int .i64 (3)] = true := by kernel_rfl
theorem c55 : go [.int .i64 (4), .int .i64 (4)] = true := by kernel_rfl
theorem c56 : go [.int .i64 (4), .int .i64 (5)] = true := by kernel_rfl
theorem c57 : go [.int .i64 (4), .int .i64 (6)] = true := by kernel_rfl
theorem c58 : go [.int .i64 (4), .int .i64 (7)] = true := by kernel_rfl
theorem c59 : go [.int .i64 (4), .int .i64 (8)] = true := by kernel_rfl
end Go.Proofs.Ytekedhfmdpbplaa.pathDeep
