/- Cases of PathDeep. -/
import Derived.Test.YtekedhfmdpbplaaPathDeepGo
namespace Go.Proofs.Ytekedhfmdpbplaa.pathDeep
open Go.Den
theorem c18 : go [.fact .i64 (moreF 7 (1)), .int .i64 (7)] = true := by kernel_rfl
theorem c19 : go [.fact .i64 (moreF 7 (1)), .int .i64 (8)] = true := by kernel_rfl
theorem c20 : go [.int .i64 (1), .fact .i64 (lessF 8 (1))] = true := by kernel_rfl
theorem c21 : go [.int .i64 (1), .fact .i64 (moreF 8 (1))] = true := by kernel_rfl
theorem c22 : go [.int .i64 (1), .int .i64 (1)] = true := by kernel_rfl
theorem c23 : go [.int .i64 (1), .int .i64 (2)] = true := by kernel_rfl
end Go.Proofs.Ytekedhfmdpbplaa.pathDeep
