/- Cases of SchemaLimits. -/
import Derived.Test.YtpgcmcdpgobdlaaSchemaLimitsGo
namespace Go.Proofs.Ytpgcmcdpgobdlaa.schemaLimits
open Go.Den
theorem c864 : go [.int .i64 (7), .int .i64 (7), .fact .i64 (lessF 6 (0))] = true := by kernel_rfl
theorem c865 : go [.int .i64 (7), .int .i64 (7), .fact .i64 (moreF 6 (0))] = true := by kernel_rfl
theorem c866 : go [.int .i64 (7), .int .i64 (7), .int .i64 (0)] = true := by kernel_rfl
theorem c867 : go [.int .i64 (7), .int .i64 (7), .int .i64 (1)] = true := by kernel_rfl
theorem c868 : go [.int .i64 (7), .int .i64 (7), .int .i64 (2)] = true := by kernel_rfl
theorem c869 : go [.int .i64 (7), .int .i64 (7), .int .i64 (3)] = true := by kernel_rfl
theorem c870 : go [.int .i64 (7), .int .i64 (7), .int .i64 (4)] = true := by kernel_rfl
theorem c871 : go [.int .i64 (7), .int .i64 (7), .int .i64 (5)] = true := by kernel_rfl
theorem c872 : go [.int .i64 (7), .int .i64 (8), .fact .i64 (lessF 6 (0))] = true := by kernel_rfl
theorem c873 : go [.int .i64 (7), .int .i64 (8), .fact .i64 (moreF 6 (0))] = true := by kernel_rfl
theorem c874 : go [.int .i64 (7), .int .i64 (8), .int .i64 (0)] = true := by kernel_rfl
theorem c875 : go [.int .i64 (7), .int .i64 (8), .int .i64 (1)] = true := by kernel_rfl
theorem c876 : go [.int .i64 (7), .int .i64 (8), .int .i64 (2)] = true := by kernel_rfl
theorem c877 : go [.int .i64 (7), .int .i64 (8), .int .i64 (3)] = true := by kernel_rfl
theorem c878 : go [.int .i64 (7), .int .i64 (8), .int .i64 (4)] = true := by kernel_rfl
theorem c879 : go [.int .i64 (7), .int .i64 (8), .int .i64 (5)] = true := by kernel_rfl
theorem c880 : go [.int .i64 (8), .fact .i64 (lessF 9 (0)), .fact .i64 (lessF 6 (0))] = true := by kernel_rfl
theorem c881 : go [.int .i64 (8), .fact .i64 (lessF 9 (0)), .fact .i64 (moreF 6 (0))] = true := by kernel_rfl
theorem c882 : go [.int .i64 (8), .fact .i64 (lessF 9 (0)), .int .i64 (0)] = true := by kernel_rfl
theorem c883 : go [.int .i64 (8), .fact .i64 (lessF 9 (0)), .int .i64 (1)] = true := by kernel_rfl
theorem c884 : go [.int .i64 (8), .fact .i64 (lessF 9 (0)), .int .i64 (2)] = true := by kernel_rfl
theorem c885 : go [.int .i64 (8), .fact .i64 (lessF 9 (0)), .int .i64 (3)] = true := by kernel_rfl
theorem c886 : go [.int .i64 (8), .fact .i64 (lessF 9 (0)), .int .i64 (4)] = true := by kernel_rfl
theorem c887 : go [.int .i64 (8), .fact .i64 (lessF 9 (0)), .int .i64 (5)] = true := by kernel_rfl
theorem c888 : go [.int .i64 (8), .fact .i64 (moreF 9 (0)), .fact .i64 (lessF 6 (0))] = true := by kernel_rfl
theorem c889 : go [.int .i64 (8), .fact .i64 (moreF 9 (0)), .fact .i64 (moreF 6 (0))] = true := by kernel_rfl
theorem c890 : go [.int .i64 (8), .fact .i64 (moreF 9 (0)), .int .i64 (0)] = true := by kernel_rfl
theorem c891 : go [.int .i64 (8), .fact .i64 (moreF 9 (0)), .int .i64 (1)] = true := by kernel_rfl
theorem c892 : go [.int .i64 (8), .fact .i64 (moreF 9 (0)), .int .i64 (2)] = true := by kernel_rfl
theorem c893 : go [.int .i64 (8), .fact .i64 (moreF 9 (0)), .int .i64 (3)] = true := by kernel_rfl
theorem c894 : go [.int .i64 (8), .fact .i64 (moreF 9 (0)), .int .i64 (4)] = true := by kernel_rfl
theorem c895 : go [.int .i64 (8), .fact .i64 (moreF 9 (0)), .int .i64 (5)] = true := by kernel_rfl
theorem c896 : go [.int .i64 (8), .int .i64 (0), .fact .i64 (lessF 6 (0))] = true := by kernel_rfl
theorem c897 : go [.int .i64 (8), .int .i64 (0), .fact .i64 (moreF 6 (0))] = true := by kernel_rfl
theorem c898 : go [.int .i64 (8), .int .i64 (0), .int .i64 (0)] = true := by kernel_rfl
theorem c899 : go [.int .i64 (8), .int .i64 (0), .int .i64 (1)] = true := by kernel_rfl
theorem c900 : go [.int .i64 (8), .int .i64 (0), .int .i64 (2)] = true := by kernel_rfl
theorem c901 : go [.int .i64 (8), .int .i64 (0), .int .i64 (3)] = true := by kernel_rfl
theorem c902 : go [.int .i64 (8), .int .i64 (0), .int .i64 (4)] = true := by kernel_rfl
theorem c903 : go [.int .i64 (8), .int .i64 (0), .int .i64 (5)] = true := by kernel_rfl
theorem c904 : go [.int .i64 (8), .int .i64 (1), .fact .i64 (lessF 6 (0))] = true := by kernel_rfl
theorem c905 : go [.int .i64 (8), .int .i64 (1), .fact .i64 (moreF 6 (0))] = true := by kernel_rfl
theorem c906 : go [.int .i64 (8), .int .i64 (1), .int .i64 (0)] = true := by kernel_rfl
theorem c907 : go [.int .i64 (8), .int .i64 (1), .int .i64 (1)] = true := by kernel_rfl
theorem c908 : go [.int .i64 (8), .int .i64 (1), .int .i64 (2)] = true := by kernel_rfl
theorem c909 : go [.int .i64 (8), .int .i64 (1), .int .i64 (3)] = true := by kernel_rfl
theorem c910 : go [.int .i64 (8), .int .i64 (1), .int .i64 (4)] = true := by kernel_rfl
theorem c911 : go [.int .i64 (8), .int .i64 (1), .int .i64 (5)] = true := by kernel_rfl
end Go.Proofs.Ytpgcmcdpgobdlaa.schemaLimits
