/- Cases of PathDeep. -/
import Derived.Test.YtekedhfmdpbplaaPathDeepGo
namespace Go.Proofs.Ytekedhfmdpbplaa.pathDeep
open Go.Den
theorem c36 : go [.int .i64 (2), .int .i64 (5)] = true := by kernel_rfl
theorem c37 : go [.int .i64 (2), .int .i64 (6)] = true := by kernel_rfl
theorem c38 : go [.int .i64 (2), .int .i64 (7)] = true := by kernel_rfl
theorem c39 : go [.int .i64 (2), .int .i64 (8)] = true := by kernel_rfl
theorem c40 : go [.int .i64 (3), .fact .i64 (lessF 8 (1))] = true := by kernel_rfl
theorem c41 : go [.int .i64 (3), .fact .i64 (moreF 8 (1))] = true := by kernel_rfl
end Go.Proofs.Ytekedhfmdpbplaa.pathDeep
