/- Cases of PathDeep. -/
import Derived.Test.YtekedhfmdpbplaaPathDeepGo
namespace Go.Proofs.Ytekedhfmdpbplaa.pathDeep
open Go.Den
theorem c84 : go [.int .i64 (7), .int .i64 (3)] = true := by kernel_rfl
theorem c85 : go [.int .i64 (7), .int .i64 (4)] = true := by kernel_rfl
theorem c86 : go [.int .i64 (7), .int .i64 (5)] = true := by kernel_rfl
theorem c87 : go [.int .i64 (7), .int .i64 (6)] = true := by kernel_rfl
theorem c88 : go [.int .i64 (7), .int .i64 (7)] = true := by kernel_rfl
theorem c89 : go [.int .i64 (7), .int .i64 (8)] = true := by kernel_rfl
end Go.Proofs.Ytekedhfmdpbplaa.pathDeep
