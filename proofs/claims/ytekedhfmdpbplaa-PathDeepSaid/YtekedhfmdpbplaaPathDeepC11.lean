/- Cases of PathDeep. -/
import Derived.Test.YtekedhfmdpbplaaPathDeepGo
namespace Go.Proofs.Ytekedhfmdpbplaa.pathDeep
open Go.Den
theorem c60 : go [.int .i64 (5), .fact .i64 (lessF 8 (1))] = true := by kernel_rfl
theorem c61 : go [.int .i64 (5), .fact .i64 (moreF 8 (1))] = true := by kernel_rfl
theorem c62 : go [.int .i64 (5), .int .i64 (1)] = true := by kernel_rfl
theorem c63 : go [.int .i64 (5), .int .i64 (2)] = true := by kernel_rfl
theorem c64 : go [.int .i64 (5), .int .i64 (3)] = true := by kernel_rfl
theorem c65 : go [.int .i64 (5), .int .i64 (4)] = true := by kernel_rfl
end Go.Proofs.Ytekedhfmdpbplaa.pathDeep
