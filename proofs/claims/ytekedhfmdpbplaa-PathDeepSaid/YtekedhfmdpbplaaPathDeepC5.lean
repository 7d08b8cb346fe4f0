/- Cases of PathDeep. -/
import Derived.Test.YtekedhfmdpbplaaPathDeepGo
namespace Go.Proofs.Ytekedhfmdpbplaa.pathDeep
open Go.Den
theorem c24 : go [.int .i64 (1), .int .i64 (3)] = true := by kernel_rfl
theorem c25 : go [.int .i64 (1), .int .i64 (4)] = true := by kernel_rfl
theorem c26 : go [.int .i64 (1), .int .i64 (5)] = true := by kernel_rfl
theorem c27 : go [.int .i64 (1), .int .i64 (6)] = true := by kernel_rfl
theorem c28 : go [.int .i64 (1), .int .i64 (7)] = true := by kernel_rfl
theorem c29 : go [.int .i64 (1), .int .i64 (8)] = true := by kernel_rfl
end Go.Proofs.Ytekedhfmdpbplaa.pathDeep
