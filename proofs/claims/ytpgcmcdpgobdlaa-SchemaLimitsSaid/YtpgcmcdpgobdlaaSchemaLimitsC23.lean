/- Cases of SchemaLimits. -/
import Derived.Test.YtpgcmcdpgobdlaaSchemaLimitsGo
namespace Go.Proofs.Ytpgcmcdpgobdlaa.schemaLimits
open Go.Den
theorem c1056 : go [.int .i64 (10), .fact .i64 (lessF 9 (0)), .fact .i64 (lessF 6 (0))] = true := by kernel_rfl
theorem c1057 : go [.int .i64 (10), .fact .i64 (lessF 9 (0)), .fact .i64 (moreF 6 (0))] = true := by kernel_rfl
theorem c1058 : go [.int .i64 (10), .fact .i64 (lessF 9 (0)), .int .i64 (0)] = true := by kernel_rfl
theorem c1059 : go [.int .i64 (10), .fact .i64 (lessF 9 (0)), .int .i64 (1)] = true := by kernel_rfl
theorem c1060 : go [.int .i64 (10), .fact .i64 (lessF 9 (0)), .int .i64 (2)] = true := by kernel_rfl
theorem c1061 : go [.int .i64 (10), .fact .i64 (lessF 9 (0)), .int .i64 (3)] = true := by kernel_rfl
theorem c1062 : go [.int .i64 (10), .fact .i64 (lessF 9 (0)), .int .i64 (4)] = true := by kernel_rfl
theorem c1063 : go [.int .i64 (10), .fact .i64 (lessF 9 (0)), .int .i64 (5)] = true := by kernel_rfl
theorem c1064 : go [.int .i64 (10), .fact .i64 (moreF 9 (0)), .fact .i64 (lessF 6 (0))] = true := by kernel_rfl
theorem c1065 : go [.int .i64 (10), .fact .i64 (moreF 9 (0)), .fact .i64 (moreF 6 (0))] = true := by kernel_rfl
theorem c1066 : go [.int .i64 (10), .fact .i64 (moreF 9 (0)), .int .i64 (0)] = true := by kernel_rfl
theorem c1067 : go [.int .i64 (10), .fact .i64 (moreF 9 (0)), .int .i64 (1)] = true := by kernel_rfl
theorem c1068 : go [.int .i64 (10), .fact .i64 (moreF 9 (0)), .int .i64 (2)] = true := by kernel_rfl
theorem c1069 : go [.int .i64 (10), .fact .i64 (moreF 9 (0)), .int .i64 (3)] = true := by kernel_rfl
theorem c1070 : go [.int .i64 (10), .fact .i64 (moreF 9 (0)), .int .i64 (4)] = true := by kernel_rfl
theorem c1071 : go [.int .i64 (10), .fact .i64 (moreF 9 (0)), .int .i64 (5)] = true := by kernel_rfl
theorem c1072 : go [.int .i64 (10), .int .i64 (0), .fact .i64 (lessF 6 (0))] = true := by kernel_rfl
theorem c1073 : go [.int .i64 (10), .int .i64 (0), .fact .i64 (moreF 6 (0))] = true := by kernel_rfl
theorem c1074 : go [.int .i64 (10), .int .i64 (0), .int .i64 (0)] = true := by kernel_rfl
theorem c1075 : go [.int .i64 (10), .int .i64 (0), .int .i64 (1)] = true := by kernel_rfl
theorem c1076 : go [.int .i64 (10), .int .i64 (0), .int .i64 (2)] = true := by kernel_rfl
theorem c1077 : go [.int .i64 (10), .int .i64 (0), .int .i64 (3)] = true := by kernel_rfl
theorem c1078 : go [.int .i64 (10), .int .i64 (0), .int .i64 (4)] = true := by kernel_rfl
theorem c1079 : go [.int .i64 (10), .int .i64 (0), .int .i64 (5)] = true := by kernel_rfl
theorem c1080 : go [.int .i64 (10), .int .i64 (1), .fact .i64 (lessF 6 (0))] = true := by kernel_rfl
theorem c1081 : go [.int .i64 (10), .int .i64 (1), .fact .i64 (moreF 6 (0))] = true := by kernel_rfl
theorem c1082 : go [.int .i64 (10), .int .i64 (1), .int .i64 (0)] = true := by kernel_rfl
theorem c1083 : go [.int .i64 (10), .int .i64 (1), .int .i64 (1)] = true := by kernel_rfl
theorem c1084 : go [.int .i64 (10), .int .i64 (1), .int .i64 (2)] = true := by kernel_rfl
theorem c1085 : go [.int .i64 (10), .int .i64 (1), .int .i64 (3)] = true := by kernel_rfl
theorem c1086 : go [.int .i64 (10), .int .i64 (1), .int .i64 (4)] = true := by kernel_rfl
theorem c1087 : go [.int .i64 (10), .int .i64 (1), .int .i64 (5)] = true := by kernel_rfl
theorem c1088 : go [.int .i64 (10), .int .i64 (2), .fact .i64 (lessF 6 (0))] = true := by kernel_rfl
theorem c1089 : go [.int .i64 (10), .int .i64 (2), .fact .i64 (moreF 6 (0))] = true := by kernel_rfl
theorem c1090 : go [.int .i64 (10), .int .i64 (2), .int .i64 (0)] = true := by kernel_rfl
theorem c1091 : go [.int .i64 (10), .int .i64 (2), .int .i64 (1)] = true := by kernel_rfl
theorem c1092 : go [.int .i64 (10), .int .i64 (2), .int .i64 (2)] = true := by kernel_rfl
theorem c1093 : go [.int .i64 (10), .int .i64 (2), .int .i64 (3)] = true := by kernel_rfl
theorem c1094 : go [.int .i64 (10), .int .i64 (2), .int .i64 (4)] = true := by kernel_rfl
theorem c1095 : go [.int .i64 (10), .int .i64 (2), .int .i64 (5)] = true := by kernel_rfl
theorem c1096 : go [.int .i64 (10), .int .i64 (3), .fact .i64 (lessF 6 (0))] = true := by kernel_rfl
theorem c1097 : go [.int .i64 (10), .int .i64 (3), .fact .i64 (moreF 6 (0))] = true := by kernel_rfl
theorem c1098 : go [.int .i64 (10), .int .i64 (3), .int .i64 (0)] = true := by kernel_rfl
theorem c1099 : go [.int .i64 (10), .int .i64 (3), .int .i64 (1)] = true := by kernel_rfl
theorem c1100 : go [.int .i64 (10), .int .i64 (3), .int .i64 (2)] = true := by kernel_rfl
theorem c1101 : go [.int .i64 (10), .int .i64 (3), .int .i64 (3)] = true := by kernel_rfl
theorem c1102 : go [.int .i64 (10), .int .i64 (3), .int .i64 (4)] = true := by kernel_rfl
theorem c1103 : go [.int .i64 (10), .int .i64 (3), .int .i64 (5)] = true := by kernel_rfl
end Go.Proofs.Ytpgcmcdpgobdlaa.schemaLimits
