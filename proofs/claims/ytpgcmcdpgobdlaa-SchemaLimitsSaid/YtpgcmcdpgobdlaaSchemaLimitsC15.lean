/- Cases of SchemaLimits. -/
import Derived.Test.YtpgcmcdpgobdlaaSchemaLimitsGo
namespace Go.Proofs.Ytpgcmcdpgobdlaa.schemaLimits
open Go.Den
theorem c672 : go [.int .i64 (5), .int .i64 (5), .fact .i64 (lessF 6 (0))] = true := by kernel_rfl
theorem c673 : go [.int .i64 (5), .int .i64 (5), .fact .i64 (moreF 6 (0))] = true := by kernel_rfl
theorem c674 : go [.int .i64 (5), .int .i64 (5), .int .i64 (0)] = true := by kernel_rfl
theorem c675 : go [.int .i64 (5), .int .i64 (5), .int .i64 (1)] = true := by kernel_rfl
theorem c676 : go [.int .i64 (5), .int .i64 (5), .int .i64 (2)] = true := by kernel_rfl
theorem c677 : go [.int .i64 (5), .int .i64 (5), .int .i64 (3)] = true := by kernel_rfl
theorem c678 : go [.int .i64 (5), .int .i64 (5), .int .i64 (4)] = true := by kernel_rfl
theorem c679 : go [.int .i64 (5), .int .i64 (5), .int .i64 (5)] = true := by kernel_rfl
theorem c680 : go [.int .i64 (5), .int .i64 (6), .fact .i64 (lessF 6 (0))] = true := by kernel_rfl
theorem c681 : go [.int .i64 (5), .int .i64 (6), .fact .i64 (moreF 6 (0))] = true := by kernel_rfl
theorem c682 : go [.int .i64 (5), .int .i64 (6), .int .i64 (0)] = true := by kernel_rfl
theorem c683 : go [.int .i64 (5), .int .i64 (6), .int .i64 (1)] = true := by kernel_rfl
theorem c684 : go [.int .i64 (5), .int .i64 (6), .int .i64 (2)] = true := by kernel_rfl
theorem c685 : go [.int .i64 (5), .int .i64 (6), .int .i64 (3)] = true := by kernel_rfl
theorem c686 : go [.int .i64 (5), .int .i64 (6), .int .i64 (4)] = true := by kernel_rfl
theorem c687 : go [.int .i64 (5), .int .i64 (6), .int .i64 (5)] = true := by kernel_rfl
theorem c688 : go [.int .i64 (5), .int .i64 (7), .fact .i64 (lessF 6 (0))] = true := by kernel_rfl
theorem c689 : go [.int .i64 (5), .int .i64 (7), .fact .i64 (moreF 6 (0))] = true := by kernel_rfl
theorem c690 : go [.int .i64 (5), .int .i64 (7), .int .i64 (0)] = true := by kernel_rfl
theorem c691 : go [.int .i64 (5), .int .i64 (7), .int .i64 (1)] = true := by kernel_rfl
theorem c692 : go [.int .i64 (5), .int .i64 (7), .int .i64 (2)] = true := by kernel_rfl
theorem c693 : go [.int .i64 (5), .int .i64 (7), .int .i64 (3)] = true := by kernel_rfl
theorem c694 : go [.int .i64 (5), .int .i64 (7), .int .i64 (4)] = true := by kernel_rfl
theorem c695 : go [.int .i64 (5), .int .i64 (7), .int .i64 (5)] = true := by kernel_rfl
theorem c696 : go [.int .i64 (5), .int .i64 (8), .fact .i64 (lessF 6 (0))] = true := by kernel_rfl
theorem c697 : go [.int .i64 (5), .int .i64 (8), .fact .i64 (moreF 6 (0))] = true := by kernel_rfl
theorem c698 : go [.int .i64 (5), .int .i64 (8), .int .i64 (0)] = true := by kernel_rfl
theorem c699 : go [.int .i64 (5), .int .i64 (8), .int .i64 (1)] = true := by kernel_rfl
theorem c700 : go [.int .i64 (5), .int .i64 (8), .int .i64 (2)] = true := by kernel_rfl
theorem c701 : go [.int .i64 (5), .int .i64 (8), .int .i64 (3)] = true := by kernel_rfl
theorem c702 : go [.int .i64 (5), .int .i64 (8), .int .i64 (4)] = true := by kernel_rfl
theorem c703 : go [.int .i64 (5), .int .i64 (8), .int .i64 (5)] = true := by kernel_rfl
theorem c704 : go [.int .i64 (6), .fact .i64 (lessF 9 (0)), .fact .i64 (lessF 6 (0))] = true := by kernel_rfl
theorem c705 : go [.int .i64 (6), .fact .i64 (lessF 9 (0)), .fact .i64 (moreF 6 (0))] = true := by kernel_rfl
theorem c706 : go [.int .i64 (6), .fact .i64 (lessF 9 (0)), .int .i64 (0)] = true := by kernel_rfl
theorem c707 : go [.int .i64 (6), .fact .i64 (lessF 9 (0)), .int .i64 (1)] = true := by kernel_rfl
theorem c708 : go [.int .i64 (6), .fact .i64 (lessF 9 (0)), .int .i64 (2)] = true := by kernel_rfl
theorem c709 : go [.int .i64 (6), .fact .i64 (lessF 9 (0)), .int .i64 (3)] = true := by kernel_rfl
theorem c710 : go [.int .i64 (6), .fact .i64 (lessF 9 (0)), .int .i64 (4)] = true := by kernel_rfl
theorem c711 : go [.int .i64 (6), .fact .i64 (lessF 9 (0)), .int .i64 (5)] = true := by kernel_rfl
theorem c712 : go [.int .i64 (6), .fact .i64 (moreF 9 (0)), .fact .i64 (lessF 6 (0))] = true := by kernel_rfl
theorem c713 : go [.int .i64 (6), .fact .i64 (moreF 9 (0)), .fact .i64 (moreF 6 (0))] = true := by kernel_rfl
theorem c714 : go [.int .i64 (6), .fact .i64 (moreF 9 (0)), .int .i64 (0)] = true := by kernel_rfl
theorem c715 : go [.int .i64 (6), .fact .i64 (moreF 9 (0)), .int .i64 (1)] = true := by kernel_rfl
theorem c716 : go [.int .i64 (6), .fact .i64 (moreF 9 (0)), .int .i64 (2)] = true := by kernel_rfl
theorem c717 : go [.int .i64 (6), .fact .i64 (moreF 9 (0)), .int .i64 (3)] = true := by kernel_rfl
theorem c718 : go [.int .i64 (6), .fact .i64 (moreF 9 (0)), .int .i64 (4)] = true := by kernel_rfl
theorem c719 : go [.int .i64 (6), .fact .i64 (moreF 9 (0)), .int .i64 (5)] = true := by kernel_rfl
end Go.Proofs.Ytpgcmcdpgobdlaa.schemaLimits
