/- Cases of PathDeep. -/
import Derived.Test.YtekedhfmdpbplaaPathDeepGo
namespace Go.Proofs.Ytekedhfmdpbplaa.pathDeep
open Go.Den
theorem c30 : go [.int .i64 (2), .fact .i64 (lessF 8 (1))] = true := by kernel_rfl
theorem c31 : go [.int .i64 (2), .fact .i64 (moreF 8 (1))] = true := by kernel_rfl
theorem c32 : go [.int .i64 (2), .int .i64 (1)] = true := by kernel_rfl
theorem c33 : go [.int .i64 (2), .int .i64 (2)] = true := by kernel_rfl
theorem c34 : go [.int .i64 (2), .int .i64 (3)] = true := by kernel_rfl
theorem c35 : go [.int .i64 (2), .int .i64 (4)] = true := by kernel_rfl
end Go.Proofs.Ytekedhfmdpbplaa.pathDeep
