/- Cases of SchemaLimits. -/
import Derived.Test.YtpgcmcdpgobdlaaSchemaLimitsGo
namespace Go.Proofs.Ytpgcmcdpgobdlaa.schemaLimits
open Go.Den
theorem c1008 : go [.int .i64 (9), .int .i64 (3), .fact .i64 (lessF 6 (0))] = true := by kernel_rfl
theorem c1009 : go [.int .i64 (9), .int .i64 (3), .fact .i64 (moreF 6 (0))] = true := by kernel_rfl
theorem c1010 : go [.int .i64 (9), .int .i64 (3), .int .i64 (0)] = true := by kernel_rfl
theorem c1011 : go [.int .i64 (9), .int .i64 (3), .int .i64 (1)] = true := by kernel_rfl
theorem c1012 : go [.int .i64 (9), .int .i64 (3), .int .i64 (2)] = true := by kernel_rfl
theorem c1013 : go [.int .i64 (9), .int .i64 (3), .int .i64 (3)] = true := by kernel_rfl
theorem c1014 : go [.int .i64 (9), .int .i64 (3), .int .i64 (4)] = true := by kernel_rfl
theorem c1015 : go [.int .i64 (9), .int .i64 (3), .int .i64 (5)] = true := by kernel_rfl
theorem c1016 : go [.int .i64 (9), .int .i64 (4), .fact .i64 (lessF 6 (0))] = true := by kernel_rfl
theorem c1017 : go [.int .i64 (9), .int .i64 (4), .fact .i64 (moreF 6 (0))] = true := by kernel_rfl
theorem c1018 : go [.int .i64 (9), .int .i64 (4), .int .i64 (0)] = true := by kernel_rfl
theorem c1019 : go [.int .i64 (9), .int .i64 (4), .int .i64 (1)] = true := by kernel_rfl
theorem c1020 : go [.int .i64 (9), .int .i64 (4), .int .i64 (2)] = true := by kernel_rfl
theorem c1021 : go [.int .i64 (9), .int .i64 (4), .int .i64 (3)] = true := by kernel_rfl
theorem c1022 : go [.int .i64 (9), .int .i64 (4), .int .i64 (4)] = true := by kernel_rfl
theorem c1023 : go [.int .i64 (9), .int .i64 (4), .int .i64 (5)] = true := by kernel_rfl
theorem c1024 : go [.int .i64 (9), .int .i64 (5), .fact .i64 (lessF 6 (0))] = true := by kernel_rfl
theorem c1025 : go [.int .i64 (9), .int .i64 (5), .fact .i64 (moreF 6 (0))] = true := by kernel_rfl
theorem c1026 : go [.int .i64 (9), .int .i64 (5), .int .i64 (0)] = true := by kernel_rfl
theorem c1027 : go [.int .i64 (9), .int .i64 (5), .int .i64 (1)] = true := by kernel_rfl
theorem c1028 : go [.int .i64 (9), .int .i64 (5), .int .i64 (2)] = true := by kernel_rfl
theorem c1029 : go [.int .i64 (9), .int .i64 (5), .int .i64 (3)] = true := by kernel_rfl
theorem c1030 : go [.int .i64 (9), .int .i64 (5), .int .i64 (4)] = true := by kernel_rfl
theorem c1031 : go [.int .i64 (9), .int .i64 (5), .int .i64 (5)] = true := by kernel_rfl
theorem c1032 : go [.int .i64 (9), .int .i64 (6), .fact .i64 (lessF 6 (0))] = true := by kernel_rfl
theorem c1033 : go [.int .i64 (9), .int .i64 (6), .fact .i64 (moreF 6 (0))] = true := by kernel_rfl
theorem c1034 : go [.int .i64 (9), .int .i64 (6), .int .i64 (0)] = true := by kernel_rfl
theorem c1035 : go [.int .i64 (9), .int .i64 (6), .int .i64 (1)] = true := by kernel_rfl
theorem c1036 : go [.int .i64 (9), .int .i64 (6), .int .i64 (2)] = true := by kernel_rfl
theorem c1037 : go [.int .i64 (9), .int .i64 (6), .int .i64 (3)] = true := by kernel_rfl
theorem c1038 : go [.int .i64 (9), .int .i64 (6), .int .i64 (4)] = true := by kernel_rfl
theorem c1039 : go [.int .i64 (9), .int .i64 (6), .int .i64 (5)] = true := by kernel_rfl
theorem c1040 : go [.int .i64 (9), .int .i64 (7), .fact .i64 (lessF 6 (0))] = true := by kernel_rfl
theorem c1041 : go [.int .i64 (9), .int .i64 (7), .fact .i64 (moreF 6 (0))] = true := by kernel_rfl
theorem c1042 : go [.int .i64 (9), .int .i64 (7), .int .i64 (0)] = true := by kernel_rfl
theorem c1043 : go [.int .i64 (9), .int .i64 (7), .int .i64 (1)] = true := by kernel_rfl
theorem c1044 : go [.int .i64 (9), .int .i64 (7), .int .i64 (2)] = true := by kernel_rfl
theorem c1045 : go [.int .i64 (9), .int .i64 (7), .int .i64 (3)] = true := by kernel_rfl
theorem c1046 : go [.int .i64 (9), .int .i64 (7), .int .i64 (4)] = true := by kernel_rfl
theorem c1047 : go [.int .i64 (9), .int .i64 (7), .int .i64 (5)] = true := by kernel_rfl
theorem c1048 : go [.int .i64 (9), .int .i64 (8), .fact .i64 (lessF 6 (0))] = true := by kernel_rfl
theorem c1049 : go [.int .i64 (9), .int .i64 (8), .fact .i64 (moreF 6 (0))] = true := by kernel_rfl
theorem c1050 : go [.int .i64 (9), .int .i64 (8), .int .i64 (0)] = true := by kernel_rfl
theorem c1051 : go [.int .i64 (9), .int .i64 (8), .int .i64 (1)] = true := by kernel_rfl
theorem c1052 : go [.int .i64 (9), .int .i64 (8), .int .i64 (2)] = true := by kernel_rfl
theorem c1053 : go [.int .i64 (9), .int .i64 (8), .int .i64 (3)] = true := by kernel_rfl
theorem c1054 : go [.int .i64 (9), .int .i64 (8), .int .i64 (4)] = true := by kernel_rfl
theorem c1055 : go [.int .i64 (9), .int .i64 (8), .int .i64 (5)] = true := by kernel_rfl
end Go.Proofs.Ytpgcmcdpgobdlaa.schemaLimits
