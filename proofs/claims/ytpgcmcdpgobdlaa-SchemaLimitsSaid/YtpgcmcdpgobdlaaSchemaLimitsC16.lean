/- Cases of SchemaLimits. -/
import Derived.Test.YtpgcmcdpgobdlaaSchemaLimitsGo
namespace Go.Proofs.Ytpgcmcdpgobdlaa.schemaLimits
open Go.Den
theorem c720 : go [.int .i64 (6), .int .i64 (0), .fact .i64 (lessF 6 (0))] = true := by kernel_rfl
theorem c721 : go [.int .i64 (6), .int .i64 (0), .fact .i64 (moreF 6 (0))] = true := by kernel_rfl
theorem c722 : go [.int .i64 (6), .int .i64 (0), .int .i64 (0)] = true := by kernel_rfl
theorem c723 : go [.int .i64 (6), .int .i64 (0), .int .i64 (1)] = true := by kernel_rfl
theorem c724 : go [.int .i64 (6), .int .i64 (0), .int .i64 (2)] = true := by kernel_rfl
theorem c725 : go [.int .i64 (6), .int .i64 (0), .int .i64 (3)] = true := by kernel_rfl
theorem c726 : go [.int .i64 (6), .int .i64 (0), .int .i64 (4)] = true := by kernel_rfl
theorem c727 : go [.int .i64 (6), .int .i64 (0), .int .i64 (5)] = true := by kernel_rfl
theorem c728 : go [.int .i64 (6), .int .i64 (1), .fact .i64 (lessF 6 (0))] = true := by kernel_rfl
theorem c729 : go [.int .i64 (6), .int .i64 (1), .fact .i64 (moreF 6 (0))] = true := by kernel_rfl
theorem c730 : go [.int .i64 (6), .int .i64 (1), .int .i64 (0)] = true := by kernel_rfl
theorem c731 : go [.int .i64 (6), .int .i64 (1), .int .i64 (1)] = true := by kernel_rfl
theorem c732 : go [.int .i64 (6), .int .i64 (1), .int .i64 (2)] = true := by kernel_rfl
theorem c733 : go [.int .i64 (6), .int .i64 (1), .int .i64 (3)] = true := by kernel_rfl
theorem c734 : go [.int .i64 (6), .int .i64 (1), .int .i64 (4)] = true := by kernel_rfl
theorem c735 : go [.int .i64 (6), .int .i64 (1), .int .i64 (5)] = true := by kernel_rfl
theorem c736 : go [.int .i64 (6), .int .i64 (2), .fact .i64 (lessF 6 (0))] = true := by kernel_rfl
theorem c737 : go [.int .i64 (6), .int .i64 (2), .fact .i64 (moreF 6 (0))] = true := by kernel_rfl
theorem c738 : go [.int .i64 (6), .int .i64 (2), .int .i64 (0)] = true := by kernel_rfl
theorem c739 : go [.int .i64 (6), .int .i64 (2), .int .i64 (1)] = true := by kernel_rfl
theorem c740 : go [.int .i64 (6), .int .i64 (2), .int .i64 (2)] = true := by kernel_rfl
theorem c741 : go [.int .i64 (6), .int .i64 (2), .int .i64 (3)] = true := by kernel_rfl
theorem c742 : go [.int .i64 (6), .int .i64 (2), .int .i64 (4)] = true := by kernel_rfl
theorem c743 : go [.int .i64 (6), .int .i64 (2), .int .i64 (5)] = true := by kernel_rfl
theorem c744 : go [.int .i64 (6), .int .i64 (3), .fact .i64 (lessF 6 (0))] = true := by kernel_rfl
theorem c745 : go [.int .i64 (6), .int .i64 (3), .fact .i64 (moreF 6 (0))] = true := by kernel_rfl
theorem c746 : go [.int .i64 (6), .int .i64 (3), .int .i64 (0)] = true := by kernel_rfl
theorem c747 : go [.int .i64 (6), .int .i64 (3), .int .i64 (1)] = true := by kernel_rfl
theorem c748 : go [.int .i64 (6), .int .i64 (3), .int .i64 (2)] = true := by kernel_rfl
theorem c749 : go [.int .i64 (6), .int .i64 (3), .int .i64 (3)] = true := by kernel_rfl
theorem c750 : go [.int .i64 (6), .int .i64 (3), .int .i64 (4)] = true := by kernel_rfl
theorem c751 : go [.int .i64 (6), .int .i64 (3), .int .i64 (5)] = true := by kernel_rfl
theorem c752 : go [.int .i64 (6), .int .i64 (4), .fact .i64 (lessF 6 (0))] = true := by kernel_rfl
theorem c753 : go [.int .i64 (6), .int .i64 (4), .fact .i64 (moreF 6 (0))] = true := by kernel_rfl
theorem c754 : go [.int .i64 (6), .int .i64 (4), .int .i64 (0)] = true := by kernel_rfl
theorem c755 : go [.int .i64 (6), .int .i64 (4), .int .i64 (1)] = true := by kernel_rfl
theorem c756 : go [.int .i64 (6), .int .i64 (4), .int .i64 (2)] = true := by kernel_rfl
theorem c757 : go [.int .i64 (6), .int .i64 (4), .int .i64 (3)] = true := by kernel_rfl
theorem c758 : go [.int .i64 (6), .int .i64 (4), .int .i64 (4)] = true := by kernel_rfl
theorem c759 : go [.int .i64 (6), .int .i64 (4), .int .i64 (5)] = true := by kernel_rfl
theorem c760 : go [.int .i64 (6), .int .i64 (5), .fact .i64 (lessF 6 (0))] = true := by kernel_rfl
theorem c761 : go [.int .i64 (6), .int .i64 (5), .fact .i64 (moreF 6 (0))] = true := by kernel_rfl
theorem c762 : go [.int .i64 (6), .int .i64 (5), .int .i64 (0)] = true := by kernel_rfl
theorem c763 : go [.int .i64 (6), .int .i64 (5), .int .i64 (1)] = true := by kernel_rfl
theorem c764 : go [.int .i64 (6), .int .i64 (5), .int .i64 (2)] = true := by kernel_rfl
theorem c765 : go [.int .i64 (6), .int .i64 (5), .int .i64 (3)] = true := by kernel_rfl
theorem c766 : go [.int .i64 (6), .int .i64 (5), .int .i64 (4)] = true := by kernel_rfl
theorem c767 : go [.int .i64 (6), .int .i64 (5), .int .i64 (5)] = true := by kernel_rfl
end Go.Proofs.Ytpgcmcdpgobdlaa.schemaLimits
