/- Cases of SchemaLimits. -/
import Derived.Test.YtpgcmcdpgobdlaaSchemaLimitsGo
namespace Go.Proofs.Ytpgcmcdpgobdlaa.schemaLimits
open Go.Den
theorem c576 : go [.int .i64 (4), .int .i64 (4), .fact .i64 (lessF 6 (0))] = true := by kernel_rfl
theorem c577 : go [.int .i64 (4), .int .i64 (4), .fact .i64 (moreF 6 (0))] = true := by kernel_rfl
theorem c578 : go [.int .i64 (4), .int .i64 (4), .int .i64 (0)] = true := by kernel_rfl
theorem c579 : go [.int .i64 (4), .int .i64 (4), .int .i64 (1)] = true := by kernel_rfl
theorem c580 : go [.int .i64 (4), .int .i64 (4), .int .i64 (2)] = true := by kernel_rfl
theorem c581 : go [.int .i64 (4), .int .i64 (4), .int .i64 (3)] = true := by kernel_rfl
theorem c582 : go [.int .i64 (4), .int .i64 (4), .int .i64 (4)] = true := by kernel_rfl
theorem c583 : go [.int .i64 (4), .int .i64 (4), .int .i64 (5)] = true := by kernel_rfl
theorem c584 : go [.int .i64 (4), .int .i64 (5), .fact .i64 (lessF 6 (0))] = true := by kernel_rfl
theorem c585 : go [.int .i64 (4), .int .i64 (5), .fact .i64 (moreF 6 (0))] = true := by kernel_rfl
theorem c586 : go [.int .i64 (4), .int .i64 (5), .int .i64 (0)] = true := by kernel_rfl
theorem c587 : go [.int .i64 (4), .int .i64 (5), .int .i64 (1)] = true := by kernel_rfl
theorem c588 : go [.int .i64 (4), .int .i64 (5), .int .i64 (2)] = true := by kernel_rfl
theorem c589 : go [.int .i64 (4), .int .i64 (5), .int .i64 (3)] = true := by kernel_rfl
theorem c590 : go [.int .i64 (4), .int .i64 (5), .int .i64 (4)] = true := by kernel_rfl
theorem c591 : go [.int .i64 (4), .int .i64 (5), .int .i64 (5)] = true := by kernel_rfl
theorem c592 : go [.int .i64 (4), .int .i64 (6), .fact .i64 (lessF 6 (0))] = true := by kernel_rfl
theorem c593 : go [.int .i64 (4), .int .i64 (6), .fact .i64 (moreF 6 (0))] = true := by kernel_rfl
theorem c594 : go [.int .i64 (4), .int .i64 (6), .int .i64 (0)] = true := by kernel_rfl
theorem c595 : go [.int .i64 (4), .int .i64 (6), .int .i64 (1)] = true := by kernel_rfl
theorem c596 : go [.int .i64 (4), .int .i64 (6), .int .i64 (2)] = true := by kernel_rfl
theorem c597 : go [.int .i64 (4), .int .i64 (6), .int .i64 (3)] = true := by kernel_rfl
theorem c598 : go [.int .i64 (4), .int .i64 (6), .int .i64 (4)] = true := by kernel_rfl
theorem c599 : go [.int .i64 (4), .int .i64 (6), .int .i64 (5)] = true := by kernel_rfl
theorem c600 : go [.int .i64 (4), .int .i64 (7), .fact .i64 (lessF 6 (0))] = true := by kernel_rfl
theorem c601 : go [.int .i64 (4), .int .i64 (7), .fact .i64 (moreF 6 (0))] = true := by kernel_rfl
theorem c602 : go [.int .i64 (4), .int .i64 (7), .int .i64 (0)] = true := by kernel_rfl
theorem c603 : go [.int .i64 (4), .int .i64 (7), .int .i64 (1)] = true := by kernel_rfl
theorem c604 : go [.int .i64 (4), .int .i64 (7), .int .i64 (2)] = true := by kernel_rfl
theorem c605 : go [.int .i64 (4), .int .i64 (7), .int .i64 (3)] = true := by kernel_rfl
theorem c606 : go [.int .i64 (4), .int .i64 (7), .int .i64 (4)] = true := by kernel_rfl
theorem c607 : go [.int .i64 (4), .int .i64 (7), .int .i64 (5)] = true := by kernel_rfl
theorem c608 : go [.int .i64 (4), .int .i64 (8), .fact .i64 (lessF 6 (0))] = true := by kernel_rfl
theorem c609 : go [.int .i64 (4), .int .i64 (8), .fact .i64 (moreF 6 (0))] = true := by kernel_rfl
theorem c610 : go [.int .i64 (4), .int .i64 (8), .int .i64 (0)] = true := by kernel_rfl
theorem c611 : go [.int .i64 (4), .int .i64 (8), .int .i64 (1)] = true := by kernel_rfl
theorem c612 : go [.int .i64 (4), .int .i64 (8), .int .i64 (2)] = true := by kernel_rfl
theorem c613 : go [.int .i64 (4), .int .i64 (8), .int .i64 (3)] = true := by kernel_rfl
theorem c614 : go [.int .i64 (4), .int .i64 (8), .int .i64 (4)] = true := by kernel_rfl
theorem c615 : go [.int .i64 (4), .int .i64 (8), .int .i64 (5)] = true := by kernel_rfl
theorem c616 : go [.int .i64 (5), .fact .i64 (lessF 9 (0)), .fact .i64 (lessF 6 (0))] = true := by kernel_rfl
theorem c617 : go [.int .i64 (5), .fact .i64 (lessF 9 (0)), .fact .i64 (moreF 6 (0))] = true := by kernel_rfl
theorem c618 : go [.int .i64 (5), .fact .i64 (lessF 9 (0)), .int .i64 (0)] = true := by kernel_rfl
theorem c619 : go [.int .i64 (5), .fact .i64 (lessF 9 (0)), .int .i64 (1)] = true := by kernel_rfl
theorem c620 : go [.int .i64 (5), .fact .i64 (lessF 9 (0)), .int .i64 (2)] = true := by kernel_rfl
theorem c621 : go [.int .i64 (5), .fact .i64 (lessF 9 (0)), .int .i64 (3)] = true := by kernel_rfl
theorem c622 : go [.int .i64 (5), .fact .i64 (lessF 9 (0)), .int .i64 (4)] = true := by kernel_rfl
theorem c623 : go [.int .i64 (5), .fact .i64 (lessF 9 (0)), .int .i64 (5)] = true := by kernel_rfl
end Go.Proofs.Ytpgcmcdpgobdlaa.schemaLimits
