/- Cases of PathDeep. -/
import Derived.Test.YtekedhfmdpbplaaPathDeepGo
namespace Go.Proofs.Ytekedhfmdpbplaa.pathDeep
open Go.Den
theorem c66 : go [.int .i64 (5), .int .i64 (5)] = true := by kernel_rfl
theorem c67 : go [.int .i64 (5), .int .i64 (6)] = true := by kernel_rfl
theorem c68 : go [.int .i64 (5), .int .i64 (7)] = true := by kernel_rfl
theorem c69 : go [.int .i64 (5), .int .i64 (8)] = true := by kernel_rfl
theorem c70 : go [.int .i64 (6), .fact .i64 (lessF 8 (1))] = true := by kernel_rfl
theorem c71 : go [.int .i64 (6), .fact .i64 (moreF 8 (1))] = true := by kernel_rfl
end Go.Proofs.Ytekedhfmdpbplaa.pathDeep
