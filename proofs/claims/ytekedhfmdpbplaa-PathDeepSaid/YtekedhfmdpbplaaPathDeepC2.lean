/- Cases of PathDeep. -/
import Derived.Test.YtekedhfmdpbplaaPathDeepGo
namespace Go.Proofs.Ytekedhfmdpbplaa.pathDeep
open Go.Den
theorem c6 : go [.fact .i64 (lessF 7 (1)), .int .i64 (5)] = true := by kernel_rfl
theorem c7 : go [.fact .i64 (lessF 7 (1)), .int .i64 (6)] = true := by kernel_rfl
theorem c8 : go [.fact .i64 (lessF 7 (1)), .int .i64 (7)] = true := by kernel_rfl
theorem c9 : go [.fact .i64 (lessF 7 (1)), .int .i64 (8)] = true := by kernel_rfl
theorem c10 : go [.fact .i64 (moreF 7 (1)), .fact .i64 (lessF 8 (1))] = true := by kernel_rfl
theorem c11 : go [.fact .i64 (moreF 7 (1)), .fact .i64 (moreF 8 (1))] = true := by kernel_rfl
end Go.Proofs.Ytekedhfmdpbplaa.pathDeep
