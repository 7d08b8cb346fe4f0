/- Cases of PathDeep. -/
import Derived.Test.YtekedhfmdpbplaaPathDeepGo
namespace Go.Proofs.Ytekedhfmdpbplaa.pathDeep
open Go.Den
theorem c48 : go [.int .i64 (3), .int .i64 (7)] = true := by kernel_rfl
theorem c49 : go [.int .i64 (3), .int .i64 (8)] = true := by kernel_rfl
theorem c50 : go [.int .i64 (4), .fact .i64 (lessF 8 (1))] = true := by kernel_rfl
theorem c51 : go [.int .i64 (4), .fact .i64 (moreF 8 (1))] = true := by kernel_rfl
theorem c52 : go [.int .i64 (4), .int .i64 (1)] = true := by kernel_rfl
theorem c53 : go [.int .i64 (4), .int .i64 (2)] = true := by kernel_rfl
end Go.Proofs.Ytekedhfmdpbplaa.pathDeep
