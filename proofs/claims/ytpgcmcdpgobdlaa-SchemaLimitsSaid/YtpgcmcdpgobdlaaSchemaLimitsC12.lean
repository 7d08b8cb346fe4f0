/- Cases of SchemaLimits. -/
import Derived.Test.YtpgcmcdpgobdlaaSchemaLimitsGo
namespace Go.Proofs.Ytpgcmcdpgobdlaa.schemaLimits
open Go.Den
theorem c528 : go [.int .i64 (4), .fact .i64 (lessF 9 (0)), .fact .i64 (lessF 6 (0))] = true := by kernel_rfl
theorem c529 : go [.int .i64 (4), .fact .i64 (lessF 9 (0)), .fact .i64 (moreF 6 (0))] = true := by kernel_rfl
theorem c530 : go [.int .i64 (4), .fact .i64 (lessF 9 (0)), .int .i64 (0)] = true := by kernel_rfl
theorem c531 : go [.int .i64 (4), .fact .i64 (lessF 9 (0)), .int .i64 (1)] = true := by kernel_rfl
theorem c532 : go [.int .i64 (4), .fact .i64 (lessF 9 (0)), .int .i64 (2)] = true := by kernel_rfl
theorem c533 : go [.int .i64 (4), .fact .i64 (lessF 9 (0)), .int .i64 (3)] = true := by kernel_rfl
theorem c534 : go [.int .i64 (4), .fact .i64 (lessF 9 (0)), .int .i64 (4)] = true := by kernel_rfl
theorem c535 : go [.int .i64 (4), .fact .i64 (lessF 9 (0)), .int .i64 (5)] = true := by kernel_rfl
theorem c536 : go [.int .i64 (4), .fact .i64 (moreF 9 (0)), .fact .i64 (lessF 6 (0))] = true := by kernel_rfl
theorem c537 : go [.int .i64 (4), .fact .i64 (moreF 9 (0)), .fact .i64 (moreF 6 (0))] = true := by kernel_rfl
theorem c538 : go [.int .i64 (4), .fact .i64 (moreF 9 (0)), .int .i64 (0)] = true := by kernel_rfl
theorem c539 : go [.int .i64 (4), .fact .i64 (moreF 9 (0)), .int .i64 (1)] = true := by kernel_rfl
theorem c540 : go [.int .i64 (4), .fact .i64 (moreF 9 (0)), .int .i64 (2)] = true := by kernel_rfl
theorem c541 : go [.int .i64 (4), .fact .i64 (moreF 9 (0)), .int .i64 (3)] = true := by kernel_rfl
theorem c542 : go [.int .i64 (4), .fact .i64 (moreF 9 (0)), .int .i64 (4)] = true := by kernel_rfl
theorem c543 : go [.int .i64 (4), .fact .i64 (moreF 9 (0)), .int .i64 (5)] = true := by kernel_rfl
theorem c544 : go [.int .i64 (4), .int .i64 (0), .fact .i64 (lessF 6 (0))] = true := by kernel_rfl
theorem c545 : go [.int .i64 (4), .int .i64 (0), .fact .i64 (moreF 6 (0))] = true := by kernel_rfl
theorem c546 : go [.int .i64 (4), .int .i64 (0), .int .i64 (0)] = true := by kernel_rfl
theorem c547 : go [.int .i64 (4), .int .i64 (0), .int .i64 (1)] = true := by kernel_rfl
theorem c548 : go [.int .i64 (4), .int .i64 (0), .int .i64 (2)] = true := by kernel_rfl
theorem c549 : go [.int .i64 (4), .int .i64 (0), .int .i64 (3)] = true := by kernel_rfl
theorem c550 : go [.int .i64 (4), .int .i64 (0), .int .i64 (4)] = true := by kernel_rfl
theorem c551 : go [.int .i64 (4), .int .i64 (0), .int .i64 (5)] = true := by kernel_rfl
theorem c552 : go [.int .i64 (4), .int .i64 (1), .fact .i64 (lessF 6 (0))] = true := by kernel_rfl
theorem c553 : go [.int .i64 (4), .int .i64 (1), .fact .i64 (moreF 6 (0))] = true := by kernel_rfl
theorem c554 : go [.int .i64 (4), .int .i64 (1), .int .i64 (0)] = true := by kernel_rfl
theorem c555 : go [.int .i64 (4), .int .i64 (1), .int .i64 (1)] = true := by kernel_rfl
theorem c556 : go [.int .i64 (4), .int .i64 (1), .int .i64 (2)] = true := by kernel_rfl
theorem c557 : go [.int .i64 (4), .int .i64 (1), .int .i64 (3)] = true := by kernel_rfl
theorem c558 : go [.int .i64 (4), .int .i64 (1), .int .i64 (4)] = true := by kernel_rfl
theorem c559 : go [.int .i64 (4), .int .i64 (1), .int .i64 (5)] = true := by kernel_rfl
theorem c560 : go [.int .i64 (4), .int .i64 (2), .fact .i64 (lessF 6 (0))] = true := by kernel_rfl
theorem c561 : go [.int .i64 (4), .int .i64 (2), .fact .i64 (moreF 6 (0))] = true := by kernel_rfl
theorem c562 : go [.int .i64 (4), .int .i64 (2), .int .i64 (0)] = true := by kernel_rfl
theorem c563 : go [.int .i64 (4), .int .i64 (2), .int .i64 (1)] = true := by kernel_rfl
theorem c564 : go [.int .i64 (4), .int .i64 (2), .int .i64 (2)] = true := by kernel_rfl
theorem c565 : go [.int .i64 (4), .int .i64 (2), .int .i64 (3)] = true := by kernel_rfl
theorem c566 : go [.int .i64 (4), .int .i64 (2), .int .i64 (4)] = true := by kernel_rfl
theorem c567 : go [.int .i64 (4), .int .i64 (2), .int .i64 (5)] = true := by kernel_rfl
theorem c568 : go [.int .i64 (4), .int .i64 (3), .fact .i64 (lessF 6 (0))] = true := by kernel_rfl
theorem c569 : go [.int .i64 (4), .int .i64 (3), .fact .i64 (moreF 6 (0))] = true := by kernel_rfl
theorem c570 : go [.int .i64 (4), .int .i64 (3), .int .i64 (0)] = true := by kernel_rfl
theorem c571 : go [.int .i64 (4), .int .i64 (3), .int .i64 (1)] = true := by kernel_rfl
theorem c572 : go [.int .i64 (4), .int .i64 (3), .int .i64 (2)] = true := by kernel_rfl
theorem c573 : go [.int .i64 (4), .int .i64 (3), .int .i64 (3)] = true := by kernel_rfl
theorem c574 : go [.int .i64 (4), .int .i64 (3), .int .i64 (4)] = true := by kernel_rfl
theorem c575 : go [.int .i64 (4), .int .i64 (3), .int .i64 (5)] = true := by kernel_rfl
end Go.Proofs.Ytpgcmcdpgobdlaa.schemaLimits
