/- Cases of SchemaLimits. -/
import Derived.Test.YtpgcmcdpgobdlaaSchemaLimitsGo
namespace Go.Proofs.Ytpgcmcdpgobdlaa.schemaLimits
open Go.Den
theorem c384 : go [.int .i64 (2), .int .i64 (2), .fact .i64 (lessF 6 (0))] = true := by kernel_rfl
theorem c385 : go [.int .i64 (2), .int .i64 (2), .fact .i64 (moreF 6 (0))] = true := by kernel_rfl
theorem c386 : go [.int .i64 (2), .int .i64 (2), .int .i64 (0)] = true := by kernel_rfl
theorem c387 : go [.int .i64 (2), .int .i64 (2), .int .i64 (1)] = true := by kernel_rfl
theorem c388 : go [.int .i64 (2), .int .i64 (2), .int .i64 (2)] = true := by kernel_rfl
theorem c389 : go [.int .i64 (2), .int .i64 (2), .int .i64 (3)] = true := by kernel_rfl
theorem c390 : go [.int .i64 (2), .int .i64 (2), .int .i64 (4)] = true := by kernel_rfl
theorem c391 : go [.int .i64 (2), .int .i64 (2), .int .i64 (5)] = true := by kernel_rfl
theorem c392 : go [.int .i64 (2), .int .i64 (3), .fact .i64 (lessF 6 (0))] = true := by kernel_rfl
theorem c393 : go [.int .i64 (2), .int .i64 (3), .fact .i64 (moreF 6 (0))] = true := by kernel_rfl
theorem c394 : go [.int .i64 (2), .int .i64 (3), .int .i64 (0)] = true := by kernel_rfl
theorem c395 : go [.int .i64 (2), .int .i64 (3), .int .i64 (1)] = true := by kernel_rfl
theorem c396 : go [.int .i64 (2), .int .i64 (3), .int .i64 (2)] = true := by kernel_rfl
theorem c397 : go [.int .i64 (2), .int .i64 (3), .int .i64 (3)] = true := by kernel_rfl
theorem c398 : go [.int .i64 (2), .int .i64 (3), .int .i64 (4)] = true := by kernel_rfl
theorem c399 : go [.int .i64 (2), .int .i64 (3), .int .i64 (5)] = true := by kernel_rfl
theorem c400 : go [.int .i64 (2), .int .i64 (4), .fact .i64 (lessF 6 (0))] = true := by kernel_rfl
theorem c401 : go [.int .i64 (2), .int .i64 (4), .fact .i64 (moreF 6 (0))] = true := by kernel_rfl
theorem c402 : go [.int .i64 (2), .int .i64 (4), .int .i64 (0)] = true := by kernel_rfl
theorem c403 : go [.int .i64 (2), .int .i64 (4), .int .i64 (1)] = true := by kernel_rfl
theorem c404 : go [.int .i64 (2), .int .i64 (4), .int .i64 (2)] = true := by kernel_rfl
theorem c405 : go [.int .i64 (2), .int .i64 (4), .int .i64 (3)] = true := by kernel_rfl
theorem c406 : go [.int .i64 (2), .int .i64 (4), .int .i64 (4)] = true := by kernel_rfl
theorem c407 : go [.int .i64 (2), .int .i64 (4), .int .i64 (5)] = true := by kernel_rfl
theorem c408 : go [.int .i64 (2), .int .i64 (5), .fact .i64 (lessF 6 (0))] = true := by kernel_rfl
theorem c409 : go [.int .i64 (2), .int .i64 (5), .fact .i64 (moreF 6 (0))] = true := by kernel_rfl
theorem c410 : go [.int .i64 (2), .int .i64 (5), .int .i64 (0)] = true := by kernel_rfl
theorem c411 : go [.int .i64 (2), .int .i64 (5), .int .i64 (1)] = true := by kernel_rfl
theorem c412 : go [.int .i64 (2), .int .i64 (5), .int .i64 (2)] = true := by kernel_rfl
theorem c413 : go [.int .i64 (2), .int .i64 (5), .int .i64 (3)] = true := by kernel_rfl
theorem c414 : go [.int .i64 (2), .int .i64 (5), .int .i64 (4)] = true := by kernel_rfl
theorem c415 : go [.int .i64 (2), .int .i64 (5), .int .i64 (5)] = true := by kernel_rfl
theorem c416 : go [.int .i64 (2), .int .i64 (6), .fact .i64 (lessF 6 (0))] = true := by kernel_rfl
theorem c417 : go [.int .i64 (2), .int .i64 (6), .fact .i64 (moreF 6 (0))] = true := by kernel_rfl
theorem c418 : go [.int .i64 (2), .int .i64 (6), .int .i64 (0)] = true := by kernel_rfl
theorem c419 : go [.int .i64 (2), .int .i64 (6), .int .i64 (1)] = true := by kernel_rfl
theorem c420 : go [.int .i64 (2), .int .i64 (6), .int .i64 (2)] = true := by kernel_rfl
theorem c421 : go [.int .i64 (2), .int .i64 (6), .int .i64 (3)] = true := by kernel_rfl
theorem c422 : go [.int .i64 (2), .int .i64 (6), .int .i64 (4)] = true := by kernel_rfl
theorem c423 : go [.int .i64 (2), .int .i64 (6), .int .i64 (5)] = true := by kernel_rfl
theorem c424 : go [.int .i64 (2), .int .i64 (7), .fact .i64 (lessF 6 (0))] = true := by kernel_rfl
theorem c425 : go [.int .i64 (2), .int .i64 (7), .fact .i64 (moreF 6 (0))] = true := by kernel_rfl
theorem c426 : go [.int .i64 (2), .int .i64 (7), .int .i64 (0)] = true := by kernel_rfl
theorem c427 : go [.int .i64 (2), .int .i64 (7), .int .i64 (1)] = true := by kernel_rfl
theorem c428 : go [.int .i64 (2), .int .i64 (7), .int .i64 (2)] = true := by kernel_rfl
theorem c429 : go [.int .i64 (2), .int .i64 (7), .int .i64 (3)] = true := by kernel_rfl
theorem c430 : go [.int .i64 (2), .int .i64 (7), .int .i64 (4)] = true := by kernel_rfl
theorem c431 : go [.int .i64 (2), .int .i64 (7), .int .i64 (5)] = true := by kernel_rfl
end Go.Proofs.Ytpgcmcdpgobdlaa.schemaLimits
