/- Cases of SchemaLimits. -/
import Derived.Test.YtpgcmcdpgobdlaaSchemaLimitsGo
namespace Go.Proofs.Ytpgcmcdpgobdlaa.schemaLimits
open Go.Den
theorem c432 : go [.int .i64 (2), .int .i64 (8), .fact .i64 (lessF 6 (0))] = true := by kernel_rfl
theorem c433 : go [.int .i64 (2), .int .i64 (8), .fact .i64 (moreF 6 (0))] = true := by kernel_rfl
theorem c434 : go [.int .i64 (2), .int .i64 (8), .int .i64 (0)] = true := by kernel_rfl
theorem c435 : go [.int .i64 (2), .int .i64 (8), .int .i64 (1)] = true := by kernel_rfl
theorem c436 : go [.int .i64 (2), .int .i64 (8), .int .i64 (2)] = true := by kernel_rfl
theorem c437 : go [.int .i64 (2), .int .i64 (8), .int .i64 (3)] = true := by kernel_rfl
theorem c438 : go [.int .i64 (2), .int .i64 (8), .int .i64 (4)] = true := by kernel_rfl
theorem c439 : go [.int .i64 (2), .int .i64 (8), .int .i64 (5)] = true := by kernel_rfl
theorem c440 : go [.int .i64 (3), .fact .i64 (lessF 9 (0)), .fact .i64 (lessF 6 (0))] = true := by kernel_rfl
theorem c441 : go [.int .i64 (3), .fact .i64 (lessF 9 (0)), .fact .i64 (moreF 6 (0))] = true := by kernel_rfl
theorem c442 : go [.int .i64 (3), .fact .i64 (lessF 9 (0)), .int .i64 (0)] = true := by kernel_rfl
theorem c443 : go [.int .i64 (3), .fact .i64 (lessF 9 (0)), .int .i64 (1)] = true := by kernel_rfl
theorem c444 : go [.int .i64 (3), .fact .i64 (lessF 9 (0)), .int .i64 (2)] = true := by kernel_rfl
theorem c445 : go [.int .i64 (3), .fact .i64 (lessF 9 (0)), .int .i64 (3)] = true := by kernel_rfl
theorem c446 : go [.int .i64 (3), .fact .i64 (lessF 9 (0)), .int .i64 (4)] = true := by kernel_rfl
theorem c447 : go [.int .i64 (3), .fact .i64 (lessF 9 (0)), .int .i64 (5)] = true := by kernel_rfl
theorem c448 : go [.int .i64 (3), .fact .i64 (moreF 9 (0)), .fact .i64 (lessF 6 (0))] = true := by kernel_rfl
theorem c449 : go [.int .i64 (3), .fact .i64 (moreF 9 (0)), .fact .i64 (moreF 6 (0))] = true := by kernel_rfl
theorem c450 : go [.int .i64 (3), .fact .i64 (moreF 9 (0)), .int .i64 (0)] = true := by kernel_rfl
theorem c451 : go [.int .i64 (3), .fact .i64 (moreF 9 (0)), .int .i64 (1)] = true := by kernel_rfl
theorem c452 : go [.int .i64 (3), .fact .i64 (moreF 9 (0)), .int .i64 (2)] = true := by kernel_rfl
theorem c453 : go [.int .i64 (3), .fact .i64 (moreF 9 (0)), .int .i64 (3)] = true := by kernel_rfl
theorem c454 : go [.int .i64 (3), .fact .i64 (moreF 9 (0)), .int .i64 (4)] = true := by kernel_rfl
theorem c455 : go [.int .i64 (3), .fact .i64 (moreF 9 (0)), .int .i64 (5)] = true := by kernel_rfl
theorem c456 : go [.int .i64 (3), .int .i64 (0), .fact .i64 (lessF 6 (0))] = true := by kernel_rfl
theorem c457 : go [.int .i64 (3), .int .i64 (0), .fact .i64 (moreF 6 (0))] = true := by kernel_rfl
theorem c458 : go [.int .i64 (3), .int .i64 (0), .int .i64 (0)] = true := by kernel_rfl
theorem c459 : go [.int .i64 (3), .int .i64 (0), .int .i64 (1)] = true := by kernel_rfl
theorem c460 : go [.int .i64 (3), .int .i64 (0), .int .i64 (2)] = true := by kernel_rfl
theorem c461 : go [.int .i64 (3), .int .i64 (0), .int .i64 (3)] = true := by kernel_rfl
theorem c462 : go [.int .i64 (3), .int .i64 (0), .int .i64 (4)] = true := by kernel_rfl
theorem c463 : go [.int .i64 (3), .int .i64 (0), .int .i64 (5)] = true := by kernel_rfl
theorem c464 : go [.int .i64 (3), .int .i64 (1), .fact .i64 (lessF 6 (0))] = true := by kernel_rfl
theorem c465 : go [.int .i64 (3), .int .i64 (1), .fact .i64 (moreF 6 (0))] = true := by kernel_rfl
theorem c466 : go [.int .i64 (3), .int .i64 (1), .int .i64 (0)] = true := by kernel_rfl
theorem c467 : go [.int .i64 (3), .int .i64 (1), .int .i64 (1)] = true := by kernel_rfl
theorem c468 : go [.int .i64 (3), .int .i64 (1), .int .i64 (2)] = true := by kernel_rfl
theorem c469 : go [.int .i64 (3), .int .i64 (1), .int .i64 (3)] = true := by kernel_rfl
theorem c470 : go [.int .i64 (3), .int .i64 (1), .int .i64 (4)] = true := by kernel_rfl
theorem c471 : go [.int .i64 (3), .int .i64 (1), .int .i64 (5)] = true := by kernel_rfl
theorem c472 : go [.int .i64 (3), .int .i64 (2), .fact .i64 (lessF 6 (0))] = true := by kernel_rfl
theorem c473 : go [.int .i64 (3), .int .i64 (2), .fact .i64 (moreF 6 (0))] = true := by kernel_rfl
theorem c474 : go [.int .i64 (3), .int .i64 (2), .int .i64 (0)] = true := by kernel_rfl
theorem c475 : go [.int .i64 (3), .int .i64 (2), .int .i64 (1)] = true := by kernel_rfl
theorem c476 : go [.int .i64 (3), .int .i64 (2), .int .i64 (2)] = true := by kernel_rfl
theorem c477 : go [.int .i64 (3), .int .i64 (2), .int .i64 (3)] = true := by kernel_rfl
theorem c478 : go [.int .i64 (3), .int .i64 (2), .int .i64 (4)] = true := by kernel_rfl
theorem c479 : go [.int .i64 (3), .int .i64 (2), .int .i64 (5)] = true := by kernel_rfl
end Go.Proofs.Ytpgcmcdpgobdlaa.schemaLimits
