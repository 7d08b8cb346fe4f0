/- Cases of PathDeep. -/
import Derived.Test.YtekedhfmdpbplaaPathDeepGo
namespace Go.Proofs.Ytekedhfmdpbplaa.pathDeep
open Go.Den
theorem c0 : go [.fact .i64 (lessF 7 (1)), .fact .i64 (lessF 8 (1))] = true := by kernel_rfl
theorem c1 : go [.fact .i64 (lessF 7 (1)), .fact .i64 (moreF 8 (1))] = true := by kernel_rfl
theorem c2 : go [.fact .i64 (lessF 7 (1)), .int .i64 (1)] = true := by kernel_rfl
theorem c3 : go [.fact .i64 (lessF 7 (1)), .int .i64 (2)] = true := by kernel_rfl
theorem c4 : go [.fact .i64 (lessF 7 (1)), .int .i64 (3)] = true := by kernel_rfl
theorem c5 : go [.fact .i64 (lessF 7 (1)), .int .i64 (4)] = true := by kernel_rfl
end Go.Proofs.Ytekedhfmdpbplaa.pathDeep
