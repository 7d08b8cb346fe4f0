/- Cases of PathDeep. -/
import Derived.Test.YtekedhfmdpbplaaPathDeepGo
namespace Go.Proofs.Ytekedhfmdpbplaa.pathDeep
open Go.Den
theorem c42 : go [.int .i64 (3), .int .i64 (1)] = true := by kernel_rfl
theorem c43 : go [.int .i64 (3), .int .i64 (2)] = true := by kernel_rfl
theorem c44 : go [.int .i64 (3), .int .i64 (3)] = true := by kernel_rfl
theorem c45 : go [.int .i64 (3), .int .i64 (4)] = true := by kernel_rfl
theorem c46 : go [.int .i64 (3), .int .i64 (5)] = true := by kernel_rfl
theorem c47 : go [.int .i64 (3), .int .i64 (6)] = true := by kernel_rfl
end Go.Proofs.Ytekedhfmdpbplaa.pathDeep
