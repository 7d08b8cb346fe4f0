/- Cases of SchemaLimits. -/
import Derived.Test.YtpgcmcdpgobdlaaSchemaLimitsGo
namespace Go.Proofs.Ytpgcmcdpgobdlaa.schemaLimits
open Go.Den
theorem c768 : go [.int .i64 (6), .int .i64 (6), .fact .i64 (lessF 6 (0))] = true := by kernel_rfl
theorem c769 : go [.int .i64 (6), .int .i64 (6), .fact .i64 (moreF 6 (0))] = true := by kernel_rfl
theorem c770 : go [.int .i64 (6), .int .i64 (6), .int .i64 (0)] = true := by kernel_rfl
theorem c771 : go [.int .i64 (6), .int .i64 (6), .int .i64 (1)] = true := by kernel_rfl
theorem c772 : go [.int .i64 (6), .int .i64 (6), .int .i64 (2)] = true := by kernel_rfl
theorem c773 : go [.int .i64 (6), .int .i64 (6), .int .i64 (3)] = true := by kernel_rfl
theorem c774 : go [.int .i64 (6), .int .i64 (6), .int .i64 (4)] = true := by kernel_rfl
theorem c775 : go [.int .i64 (6), .int .i64 (6), .int .i64 (5)] = true := by kernel_rfl
theorem c776 : go [.int .i64 (6), .int .i64 (7), .fact .i64 (lessF 6 (0))] = true := by kernel_rfl
theorem c777 : go [.int .i64 (6), .int .i64 (7), .fact .i64 (moreF 6 (0))] = true := by kernel_rfl
theorem c778 : go [.int .i64 (6), .int .i64 (7), .int .i64 (0)] = true := by kernel_rfl
theorem c779 : go [.int .i64 (6), .int .i64 (7), .int .i64 (1)] = true := by kernel_rfl
theorem c780 : go [.int .i64 (6), .int .i64 (7), .int .i64 (2)] = true := by kernel_rfl
theorem c781 : go [.int .i64 (6), .int .i64 (7), .int .i64 (3)] = true := by kernel_rfl
theorem c782 : go [.int .i64 (6), .int .i64 (7), .int .i64 (4)] = true := by kernel_rfl
theorem c783 : go [.int .i64 (6), .int .i64 (7), .int .i64 (5)] = true := by kernel_rfl
theorem c784 : go [.int .i64 (6), .int .i64 (8), .fact .i64 (lessF 6 (0))] = true := by kernel_rfl
theorem c785 : go [.int .i64 (6), .int .i64 (8), .fact .i64 (moreF 6 (0))] = true := by kernel_rfl
theorem c786 : go [.int .i64 (6), .int .i64 (8), .int .i64 (0)] = true := by kernel_rfl
theorem c787 : go [.int .i64 (6), .int .i64 (8), .int .i64 (1)] = true := by kernel_rfl
theorem c788 : go [.int .i64 (6), .int .i64 (8), .int .i64 (2)] = true := by kernel_rfl
theorem c789 : go [.int .i64 (6), .int .i64 (8), .int .i64 (3)] = true := by kernel_rfl
theorem c790 : go [.int .i64 (6), .int .i64 (8), .int .i64 (4)] = true := by kernel_rfl
theorem c791 : go [.int .i64 (6), .int .i64 (8), .int .i64 (5)] = true := by kernel_rfl
theorem c792 : go [.int .i64 (7), .fact .i64 (lessF 9 (0)), .fact .i64 (lessF 6 (0))] = true := by kernel_rfl
theorem c793 : go [.int .i64 (7), .fact .i64 (lessF 9 (0)), .fact .i64 (moreF 6 (0))] = true := by kernel_rfl
theorem c794 : go [.int .i64 (7), .fact .i64 (lessF 9 (0)), .int .i64 (0)] = true := by kernel_rfl
theorem c795 : go [.int .i64 (7), .fact .i64 (lessF 9 (0)), .int .i64 (1)] = true := by kernel_rfl
theorem c796 : go [.int .i64 (7), .fact .i64 (lessF 9 (0)), .int .i64 (2)] = true := by kernel_rfl
theorem c797 : go [.int .i64 (7), .fact .i64 (lessF 9 (0)), .int .i64 (3)] = true := by kernel_rfl
theorem c798 : go [.int .i64 (7), .fact .i64 (lessF 9 (0)), .int .i64 (4)] = true := by kernel_rfl
theorem c799 : go [.int .i64 (7), .fact .i64 (lessF 9 (0)), .int .i64 (5)] = true := by kernel_rfl
theorem c800 : go [.int .i64 (7), .fact .i64 (moreF 9 (0)), .fact .i64 (lessF 6 (0))] = true := by kernel_rfl
theorem c801 : go [.int .i64 (7), .fact .i64 (moreF 9 (0)), .fact .i64 (moreF 6 (0))] = true := by kernel_rfl
theorem c802 : go [.int .i64 (7), .fact .i64 (moreF 9 (0)), .int .i64 (0)] = true := by kernel_rfl
theorem c803 : go [.int .i64 (7), .fact .i64 (moreF 9 (0)), .int .i64 (1)] = true := by kernel_rfl
theorem c804 : go [.int .i64 (7), .fact .i64 (moreF 9 (0)), .int .i64 (2)] = true := by kernel_rfl
theorem c805 : go [.int .i64 (7), .fact .i64 (moreF 9 (0)), .int .i64 (3)] = true := by kernel_rfl
theorem c806 : go [.int .i64 (7), .fact .i64 (moreF 9 (0)), .int .i64 (4)] = true := by kernel_rfl
theorem c807 : go [.int .i64 (7), .fact .i64 (moreF 9 (0)), .int .i64 (5)] = true := by kernel_rfl
theorem c808 : go [.int .i64 (7), .int .i64 (0), .fact .i64 (lessF 6 (0))] = true := by kernel_rfl
theorem c809 : go [.int .i64 (7), .int .i64 (0), .fact .i64 (moreF 6 (0))] = true := by kernel_rfl
theorem c810 : go [.int .i64 (7), .int .i64 (0), .int .i64 (0)] = true := by kernel_rfl
theorem c811 : go [.int .i64 (7), .int .i64 (0), .int .i64 (1)] = true := by kernel_rfl
theorem c812 : go [.int .i64 (7), .int .i64 (0), .int .i64 (2)] = true := by kernel_rfl
theorem c813 : go [.int .i64 (7), .int .i64 (0), .int .i64 (3)] = true := by kernel_rfl
theorem c814 : go [.int .i64 (7), .int .i64 (0), .int .i64 (4)] = true := by kernel_rfl
theorem c815 : go [.int .i64 (7), .int .i64 (0), .int .i64 (5)] = true := by kernel_rfl
end Go.Proofs.Ytpgcmcdpgobdlaa.schemaLimits
