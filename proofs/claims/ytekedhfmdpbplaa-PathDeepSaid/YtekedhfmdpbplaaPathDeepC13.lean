/- Cases of PathDeep. -/
import Derived.Test.YtekedhfmdpbplaaPathDeepGo
namespace Go.Proofs.Ytekedhfmdpbplaa.pathDeep
open Go.Den
theorem c72 : go [.int .i64 (6), .int .i64 (1)] = true := by kernel_rfl
theorem c73 : go [.int .i64 (6), .int .i64 (2)] = true := by kernel_rfl
theorem c74 : go [.int .i64 (6), .int .i64 (3)] = true := by kernel_rfl
theorem c75 : go [.int .i64 (6), .int .i64 (4)] = true := by kernel_rfl
theorem c76 : go [.int .i64 (6), .int .i64 (5)] = true := by kernel_rfl
theorem c77 : go [.int .i64 (6), .int .i64 (6)] = true := by kernel_rfl
end Go.Proofs.Ytekedhfmdpbplaa.pathDeep
