/- Cases of PathDeep. -/
import Derived.Test.YtekedhfmdpbplaaPathDeepGo
namespace Go.Proofs.Ytekedhfmdpbplaa.pathDeep
open Go.Den
theorem c12 : go [.fact .i64 (moreF 7 (1)), .int .i64 (1)] = true := by kernel_rfl
theorem c13 : go [.fact .i64 (moreF 7 (1)), .int .i64 (2)] = true := by kernel_rfl
theorem c14 : go [.fact .i64 (moreF 7 (1)), .int .i64 (3)] = true := by kernel_rfl
theorem c15 : go [.fact .i64 (moreF 7 (1)), .int .i64 (4)] = true := by kernel_rfl
theorem c16 : go [.fact .i64 (moreF 7 (1)), .int .i64 (5)] = true := by kernel_rfl
theorem c17 : go [.fact .i64 (moreF 7 (1)), .int .i64 (6)] = true := by kernel_rfl
end Go.Proofs.Ytekedhfmdpbplaa.pathDeep
