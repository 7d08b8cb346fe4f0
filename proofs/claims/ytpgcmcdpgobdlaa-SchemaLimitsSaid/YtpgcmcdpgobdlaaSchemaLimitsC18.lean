/- Cases of SchemaLimits. -/
import Derived.Test.YtpgcmcdpgobdlaaSchemaLimitsGo
namespace Go.Proofs.Ytpgcmcdpgobdlaa.schemaLimits
open Go.Den
theorem c816 : go [.int .i64 (7), .int .i64 (1), .fact .i64 (lessF 6 (0))] = true := by kernel_rfl
theorem c817 : go [.int .i64 (7), .int .i64 (1), .fact .i64 (moreF 6 (0))] = true := by kernel_rfl
theorem c818 : go [.int .i64 (7), .int .i64 (1), .int .i64 (0)] = true := by kernel_rfl
theorem c819 : go [.int .i64 (7), .int .i64 (1), .int .i64 (1)] = true := by kernel_rfl
theorem c820 : go [.int .i64 (7), .int .i64 (1), .int .i64 (2)] = true := by kernel_rfl
theorem c821 : go [.int .i64 (7), .int .i64 (1), .int .i64 (3)] = true := by kernel_rfl
theorem c822 : go [.int .i64 (7), .int .i64 (1), .int .i64 (4)] = true := by kernel_rfl
theorem c823 : go [.int .i64 (7), .int .i64 (1), .int .i64 (5)] = true := by kernel_rfl
theorem c824 : go [.int .i64 (7), .int .i64 (2), .fact .i64 (lessF 6 (0))] = true := by kernel_rfl
theorem c825 : go [.int .i64 (7), .int .i64 (2), .fact .i64 (moreF 6 (0))] = true := by kernel_rfl
theorem c826 : go [.int .i64 (7), .int .i64 (2), .int .i64 (0)] = true := by kernel_rfl
theorem c827 : go [.int .i64 (7), .int .i64 (2), .int .i64 (1)] = true := by kernel_rfl
theorem c828 : go [.int .i64 (7), .int .i64 (2), .int .i64 (2)] = true := by kernel_rfl
theorem c829 : go [.int .i64 (7), .int .i64 (2), .int .i64 (3)] = true := by kernel_rfl
theorem c830 : go [.int .i64 (7), .int .i64 (2), .int .i64 (4)] = true := by kernel_rfl
theorem c831 : go [.int .i64 (7), .int .i64 (2), .int .i64 (5)] = true := by kernel_rfl
theorem c832 : go [.int .i64 (7), .int .i64 (3), .fact .i64 (lessF 6 (0))] = true := by kernel_rfl
theorem c833 : go [.int .i64 (7), .int .i64 (3), .fact .i64 (moreF 6 (0))] = true := by kernel_rfl
theorem c834 : go [.int .i64 (7), .int .i64 (3), .int .i64 (0)] = true := by kernel_rfl
theorem c835 : go [.int .i64 (7), .int .i64 (3), .int .i64 (1)] = true := by kernel_rfl
theorem c836 : go [.int .i64 (7), .int .i64 (3), .int .i64 (2)] = true := by kernel_rfl
theorem c837 : go [.int .i64 (7), .int .i64 (3), .int .i64 (3)] = true := by kernel_rfl
theorem c838 : go [.int .i64 (7), .int .i64 (3), .int .i64 (4)] = true := by kernel_rfl
theorem c839 : go [.int .i64 (7), .int .i64 (3), .int .i64 (5)] = true := by kernel_rfl
theorem c840 : go [.int .i64 (7), .int .i64 (4), .fact .i64 (lessF 6 (0))] = true := by kernel_rfl
theorem c841 : go [.int .i64 (7), .int .i64 (4), .fact .i64 (moreF 6 (0))] = true := by kernel_rfl
theorem c842 : go [.int .i64 (7), .int .i64 (4), .int .i64 (0)] = true := by kernel_rfl
theorem c843 : go [.int .i64 (7), .int .i64 (4), .int .i64 (1)] = true := by kernel_rfl
theorem c844 : go [.int .i64 (7), .int .i64 (4), .int .i64 (2)] = true := by kernel_rfl
theorem c845 : go [.int .i64 (7), .int .i64 (4), .int .i64 (3)] = true := by kernel_rfl
theorem c846 : go [.int .i64 (7), .int .i64 (4), .int .i64 (4)] = true := by kernel_rfl
theorem c847 : go [.int .i64 (7), .int .i64 (4), .int .i64 (5)] = true := by kernel_rfl
theorem c848 : go [.int .i64 (7), .int .i64 (5), .fact .i64 (lessF 6 (0))] = true := by kernel_rfl
theorem c849 : go [.int .i64 (7), .int .i64 (5), .fact .i64 (moreF 6 (0))] = true := by kernel_rfl
theorem c850 : go [.int .i64 (7), .int .i64 (5), .int .i64 (0)] = true := by kernel_rfl
theorem c851 : go [.int .i64 (7), .int .i64 (5), .int .i64 (1)] = true := by kernel_rfl
theorem c852 : go [.int .i64 (7), .int .i64 (5), .int .i64 (2)] = true := by kernel_rfl
theorem c853 : go [.int .i64 (7), .int .i64 (5), .int .i64 (3)] = true := by kernel_rfl
theorem c854 : go [.int .i64 (7), .int .i64 (5), .int .i64 (4)] = true := by kernel_rfl
theorem c855 : go [.int .i64 (7), .int .i64 (5), .int .i64 (5)] = true := by kernel_rfl
theorem c856 : go [.int .i64 (7), .int .i64 (6), .fact .i64 (lessF 6 (0))] = true := by kernel_rfl
theorem c857 : go [.int .i64 (7), .int .i64 (6), .fact .i64 (moreF 6 (0))] = true := by kernel_rfl
theorem c858 : go [.int .i64 (7), .int .i64 (6), .int .i64 (0)] = true := by kernel_rfl
theorem c859 : go [.int .i64 (7), .int .i64 (6), .int .i64 (1)] = true := by kernel_rfl
theorem c860 : go [.int .i64 (7), .int .i64 (6), .int .i64 (2)] = true := by kernel_rfl
theorem c861 : go [.int .i64 (7), .int .i64 (6), .int .i64 (3)] = true := by kernel_rfl
theorem c862 : go [.int .i64 (7), .int .i64 (6), .int .i64 (4)] = true := by kernel_rfl
theorem c863 : go [.int .i64 (7), .int .i64 (6), .int .i64 (5)] = true := by kernel_rfl
end Go.Proofs.Ytpgcmcdpgobdlaa.schemaLimits
