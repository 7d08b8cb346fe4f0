/- Cases of SchemaLimits. -/
import Derived.Test.YtpgcmcdpgobdlaaSchemaLimitsGo
namespace Go.Proofs.Ytpgcmcdpgobdlaa.schemaLimits
open Go.Den
theorem c624 : go [.int .i64 (5), .fact .i64 (moreF 9 (0)), .fact .i64 (lessF 6 (0))] = true := by kernel_rfl
theorem c625 : go [.int .i64 (5), .fact .i64 (moreF 9 (0)), .fact .i64 (moreF 6 (0))] = true := by kernel_rfl
theorem c626 : go [.int .i64 (5), .fact .i64 (moreF 9 (0)), .int .i64 (0)] = true := by kernel_rfl
theorem c627 : go [.int .i64 (5), .fact .i64 (moreF 9 (0)), .int .i64 (1)] = true := by kernel_rfl
theorem c628 : go [.int .i64 (5), .fact .i64 (moreF 9 (0)), .int .i64 (2)] = true := by kernel_rfl
theorem c629 : go [.int .i64 (5), .fact .i64 (moreF 9 (0)), .int .i64 (3)] = true := by kernel_rfl
theorem c630 : go [.int .i64 (5), .fact .i64 (moreF 9 (0)), .int .i64 (4)] = true := by kernel_rfl
theorem c631 : go [.int .i64 (5), .fact .i64 (moreF 9 (0)), .int .i64 (5)] = true := by kernel_rfl
theorem c632 : go [.int .i64 (5), .int .i64 (0), .fact .i64 (lessF 6 (0))] = true := by kernel_rfl
theorem c633 : go [.int .i64 (5), .int .i64 (0), .fact .i64 (moreF 6 (0))] = true := by kernel_rfl
theorem c634 : go [.int .i64 (5), .int .i64 (0), .int .i64 (0)] = true := by kernel_rfl
theorem c635 : go [.int .i64 (5), .int .i64 (0), .int .i64 (1)] = true := by kernel_rfl
theorem c636 : go [.int .i64 (5), .int .i64 (0), .int .i64 (2)] = true := by kernel_rfl
theorem c637 : go [.int .i64 (5), .int .i64 (0), .int .i64 (3)] = true := by kernel_rfl
theorem c638 : go [.int .i64 (5), .int .i64 (0), .int .i64 (4)] = true := by kernel_rfl
theorem c639 : go [.int .i64 (5), .int .i64 (0), .int .i64 (5)] = true := by kernel_rfl
theorem c640 : go [.int .i64 (5), .int .i64 (1), .fact .i64 (lessF 6 (0))] = true := by kernel_rfl
theorem c641 : go [.int .i64 (5), .int .i64 (1), .fact .i64 (moreF 6 (0))] = true := by kernel_rfl
theorem c642 : go [.int .i64 (5), .int .i64 (1), .int .i64 (0)] = true := by kernel_rfl
theorem c643 : go [.int .i64 (5), .int .i64 (1), .int .i64 (1)] = true := by kernel_rfl
theorem c644 : go [.int .i64 (5), .int .i64 (1), .int .i64 (2)] = true := by kernel_rfl
theorem c645 : go [.int .i64 (5), .int .i64 (1), .int .i64 (3)] = true := by kernel_rfl
theorem c646 : go [.int .i64 (5), .int .i64 (1), .int .i64 (4)] = true := by kernel_rfl
theorem c647 : go [.int .i64 (5), .int .i64 (1), .int .i64 (5)] = true := by kernel_rfl
theorem c648 : go [.int .i64 (5), .int .i64 (2), .fact .i64 (lessF 6 (0))] = true := by kernel_rfl
theorem c649 : go [.int .i64 (5), .int .i64 (2), .fact .i64 (moreF 6 (0))] = true := by kernel_rfl
theorem c650 : go [.int .i64 (5), .int .i64 (2), .int .i64 (0)] = true := by kernel_rfl
theorem c651 : go [.int .i64 (5), .int .i64 (2), .int .i64 (1)] = true := by kernel_rfl
theorem c652 : go [.int .i64 (5), .int .i64 (2), .int .i64 (2)] = true := by kernel_rfl
theorem c653 : go [.int .i64 (5), .int .i64 (2), .int .i64 (3)] = true := by kernel_rfl
theorem c654 : go [.int .i64 (5), .int .i64 (2), .int .i64 (4)] = true := by kernel_rfl
theorem c655 : go [.int .i64 (5), .int .i64 (2), .int .i64 (5)] = true := by kernel_rfl
theorem c656 : go [.int .i64 (5), .int .i64 (3), .fact .i64 (lessF 6 (0))] = true := by kernel_rfl
theorem c657 : go [.int .i64 (5), .int .i64 (3), .fact .i64 (moreF 6 (0))] = true := by kernel_rfl
theorem c658 : go [.int .i64 (5), .int .i64 (3), .int .i64 (0)] = true := by kernel_rfl
theorem c659 : go [.int .i64 (5), .int .i64 (3), .int .i64 (1)] = true := by kernel_rfl
theorem c660 : go [.int .i64 (5), .int .i64 (3), .int .i64 (2)] = true := by kernel_rfl
theorem c661 : go [.int .i64 (5), .int .i64 (3), .int .i64 (3)] = true := by kernel_rfl
theorem c662 : go [.int .i64 (5), .int .i64 (3), .int .i64 (4)] = true := by kernel_rfl
theorem c663 : go [.int .i64 (5), .int .i64 (3), .int .i64 (5)] = true := by kernel_rfl
theorem c664 : go [.int .i64 (5), .int .i64 (4), .fact .i64 (lessF 6 (0))] = true := by kernel_rfl
theorem c665 : go [.int .i64 (5), .int .i64 (4), .fact .i64 (moreF 6 (0))] = true := by kernel_rfl
theorem c666 : go [.int .i64 (5), .int .i64 (4), .int .i64 (0)] = true := by kernel_rfl
theorem c667 : go [.int .i64 (5), .int .i64 (4), .int .i64 (1)] = true := by kernel_rfl
theorem c668 : go [.int .i64 (5), .int .i64 (4), .int .i64 (2)] = true := by kernel_rfl
theorem c669 : go [.int .i64 (5), .int .i64 (4), .int .i64 (3)] = true := by kernel_rfl
theorem c670 : go [.int .i64 (5), .int .i64 (4), .int .i64 (4)] = true := by kernel_rfl
theorem c671 : go [.int .i64 (5), .int .i64 (4), .int .i64 (5)] = true := by kernel_rfl
end Go.Proofs.Ytpgcmcdpgobdlaa.schemaLimits
