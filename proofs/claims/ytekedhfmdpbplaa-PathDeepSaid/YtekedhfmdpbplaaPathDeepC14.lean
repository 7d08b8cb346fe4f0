/- Cases of PathDeep. -/
import Derived.Test.YtekedhfmdpbplaaPathDeepGo
namespace Go.Proofs.Ytekedhfmdpbplaa.pathDeep
open Go.Den
theorem c78 : go [.int .i64 (6), .int .i64 (7)] = true := by kernel_rfl
theorem c79 : go [.int .i64 (6), .int .i64 (8)] = true := by kernel_rfl
theorem c80 : go [.int .i64 (7), .fact .i64 (lessF 8 (1))] = true := by kernel_rfl
theorem c81 : go [.int .i64 (7), .fact .i64 (moreF 8 (1))] = true := by kernel_rfl
theorem c82 : go [.int .i64 (7), .int .i64 (1)] = true := by kernel_rfl
theorem c83 : go [.int .i64 (7), .int .i64 (2)] = true := by kernel_rfl
end Go.Proofs.Ytekedhfmdpbplaa.pathDeep
