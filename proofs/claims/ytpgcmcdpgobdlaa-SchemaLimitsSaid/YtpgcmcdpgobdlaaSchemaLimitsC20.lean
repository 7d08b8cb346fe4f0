/- Cases of SchemaLimits. -/
import Derived.Test.YtpgcmcdpgobdlaaSchemaLimitsGo
namespace Go.Proofs.Ytpgcmcdpgobdlaa.schemaLimits
open Go.Den
theorem c912 : go [.int .i64 (8), .int .i64 (2), .fact .i64 (lessF 6 (0))] = true := by kernel_rfl
theorem c913 : go [.int .i64 (8), .int .i64 (2), .fact .i64 (moreF 6 (0))] = true := by kernel_rfl
theorem c914 : go [.int .i64 (8), .int .i64 (2), .int .i64 (0)] = true := by kernel_rfl
theorem c915 : go [.int .i64 (8), .int .i64 (2), .int .i64 (1)] = true := by kernel_rfl
theorem c916 : go [.int .i64 (8), .int .i64 (2), .int .i64 (2)] = true := by kernel_rfl
theorem c917 : go [.int .i64 (8), .int .i64 (2), .int .i64 (3)] = true := by kernel_rfl
theorem c918 : go [.int .i64 (8), .int .i64 (2), .int .i64 (4)] = true := by kernel_rfl
theorem c919 : go [.int .i64 (8), .int .i64 (2), .int .i64 (5)] = true := by kernel_rfl
theorem c920 : go [.int .i64 (8), .int .i64 (3), .fact .i64 (lessF 6 (0))] = true := by kernel_rfl
theorem c921 : go [.int .i64 (8), .int .i64 (3), .fact .i64 (moreF 6 (0))] = true := by kernel_rfl
theorem c922 : go [.int .i64 (8), .int .i64 (3), .int .i64 (0)] = true := by kernel_rfl
theorem c923 : go [.int .i64 (8), .int .i64 (3), .int .i64 (1)] = true := by kernel_rfl
theorem c924 : go [.int .i64 (8), .int .i64 (3), .int .i64 (2)] = true := by kernel_rfl
theorem c925 : go [.int .i64 (8), .int .i64 (3), .int .i64 (3)] = true := by kernel_rfl
theorem c926 : go [.int .i64 (8), .int .i64 (3), .int .i64 (4)] = true := by kernel_rfl
theorem c927 : go [.int .i64 (8), .int .i64 (3), .int .i64 (5)] = true := by kernel_rfl
theorem c928 : go [.int .i64 (8), .int .i64 (4), .fact .i64 (lessF 6 (0))] = true := by kernel_rfl
theorem c929 : go [.int .i64 (8), .int .i64 (4), .fact .i64 (moreF 6 (0))] = true := by kernel_rfl
theorem c930 : go [.int .i64 (8), .int .i64 (4), .int .i64 (0)] = true := by kernel_rfl
theorem c931 : go [.int .i64 (8), .int .i64 (4), .int .i64 (1)] = true := by kernel_rfl
theorem c932 : go [.int .i64 (8), .int .i64 (4), .int .i64 (2)] = true := by kernel_rfl
theorem c933 : go [.int .i64 (8), .int .i64 (4), .int .i64 (3)] = true := by kernel_rfl
theorem c934 : go [.int .i64 (8), .int .i64 (4), .int .i64 (4)] = true := by kernel_rfl
theorem c935 : go [.int .i64 (8), .int .i64 (4), .int .i64 (5)] = true := by kernel_rfl
theorem c936 : go [.int .i64 (8), .int .i64 (5), .fact .i64 (lessF 6 (0))] = true := by kernel_rfl
theorem c937 : go [.int .i64 (8), .int .i64 (5), .fact .i64 (moreF 6 (0))] = true := by kernel_rfl
theorem c938 : go [.int .i64 (8), .int .i64 (5), .int .i64 (0)] = true := by kernel_rfl
theorem c939 : go [.int .i64 (8), .int .i64 (5), .int .i64 (1)] = true := by kernel_rfl
theorem c940 : go [.int .i64 (8), .int .i64 (5), .int .i64 (2)] = true := by kernel_rfl
theorem c941 : go [.int .i64 (8), .int .i64 (5), .int .i64 (3)] = true := by kernel_rfl
theorem c942 : go [.int .i64 (8), .int .i64 (5), .int .i64 (4)] = true := by kernel_rfl
theorem c943 : go [.int .i64 (8), .int .i64 (5), .int .i64 (5)] = true := by kernel_rfl
theorem c944 : go [.int .i64 (8), .int .i64 (6), .fact .i64 (lessF 6 (0))] = true := by kernel_rfl
theorem c945 : go [.int .i64 (8), .int .i64 (6), .fact .i64 (moreF 6 (0))] = true := by kernel_rfl
theorem c946 : go [.int .i64 (8), .int .i64 (6), .int .i64 (0)] = true := by kernel_rfl
theorem c947 : go [.int .i64 (8), .int .i64 (6), .int .i64 (1)] = true := by kernel_rfl
theorem c948 : go [.int .i64 (8), .int .i64 (6), .int .i64 (2)] = true := by kernel_rfl
theorem c949 : go [.int .i64 (8), .int .i64 (6), .int .i64 (3)] = true := by kernel_rfl
theorem c950 : go [.int .i64 (8), .int .i64 (6), .int .i64 (4)] = true := by kernel_rfl
theorem c951 : go [.int .i64 (8), .int .i64 (6), .int .i64 (5)] = true := by kernel_rfl
theorem c952 : go [.int .i64 (8), .int .i64 (7), .fact .i64 (lessF 6 (0))] = true := by kernel_rfl
theorem c953 : go [.int .i64 (8), .int .i64 (7), .fact .i64 (moreF 6 (0))] = true := by kernel_rfl
theorem c954 : go [.int .i64 (8), .int .i64 (7), .int .i64 (0)] = true := by kernel_rfl
theorem c955 : go [.int .i64 (8), .int .i64 (7), .int .i64 (1)] = true := by kernel_rfl
theorem c956 : go [.int .i64 (8), .int .i64 (7), .int .i64 (2)] = true := by kernel_rfl
theorem c957 : go [.int .i64 (8), .int .i64 (7), .int .i64 (3)] = true := by kernel_rfl
theorem c958 : go [.int .i64 (8), .int .i64 (7), .int .i64 (4)] = true := by kernel_rfl
theorem c959 : go [.int .i64 (8), .int .i64 (7), .int .i64 (5)] = true := by kernel_rfl
end Go.Proofs.Ytpgcmcdpgobdlaa.schemaLimits
