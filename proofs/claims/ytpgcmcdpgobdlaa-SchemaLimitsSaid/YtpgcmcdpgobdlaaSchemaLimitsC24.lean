/- Cases of SchemaLimits. -/
import Derived.Test.YtpgcmcdpgobdlaaSchemaLimitsGo
namespace Go.Proofs.Ytpgcmcdpgobdlaa.schemaLimits
open Go.Den
theorem c1104 : go [.int .i64 (10), .int .i64 (4), .fact .i64 (lessF 6 (0))] = true := by kernel_rfl
theorem c1105 : go [.int .i64 (10), .int .i64 (4), .fact .i64 (moreF 6 (0))] = true := by kernel_rfl
theorem c1106 : go [.int .i64 (10), .int .i64 (4), .int .i64 (0)] = true := by kernel_rfl
theorem c1107 : go [.int .i64 (10), .int .i64 (4), .int .i64 (1)] = true := by kernel_rfl
theorem c1108 : go [.int .i64 (10), .int .i64 (4), .int .i64 (2)] = true := by kernel_rfl
theorem c1109 : go [.int .i64 (10), .int .i64 (4), .int .i64 (3)] = true := by kernel_rfl
theorem c1110 : go [.int .i64 (10), .int .i64 (4), .int .i64 (4)] = true := by kernel_rfl
theorem c1111 : go [.int .i64 (10), .int .i64 (4), .int .i64 (5)] = true := by kernel_rfl
theorem c1112 : go [.int .i64 (10), .int .i64 (5), .fact .i64 (lessF 6 (0))] = true := by kernel_rfl
theorem c1113 : go [.int .i64 (10), .int .i64 (5), .fact .i64 (moreF 6 (0))] = true := by kernel_rfl
theorem c1114 : go [.int .i64 (10), .int .i64 (5), .int .i64 (0)] = true := by kernel_rfl
theorem c1115 : go [.int .i64 (10), .int .i64 (5), .int .i64 (1)] = true := by kernel_rfl
theorem c1116 : go [.int .i64 (10), .int .i64 (5), .int .i64 (2)] = true := by kernel_rfl
theorem c1117 : go [.int .i64 (10), .int .i64 (5), .int .i64 (3)] = true := by kernel_rfl
theorem c1118 : go [.int .i64 (10), .int .i64 (5), .int .i64 (4)] = true := by kernel_rfl
theorem c1119 : go [.int .i64 (10), .int .i64 (5), .int .i64 (5)] = true := by kernel_rfl
theorem c1120 : go [.int .i64 (10), .int .i64 (6), .fact .i64 (lessF 6 (0))] = true := by kernel_rfl
theorem c1121 : go [.int .i64 (10), .int .i64 (6), .fact .i64 (moreF 6 (0))] = true := by kernel_rfl
theorem c1122 : go [.int .i64 (10), .int .i64 (6), .int .i64 (0)] = true := by kernel_rfl
theorem c1123 : go [.int .i64 (10), .int .i64 (6), .int .i64 (1)] = true := by kernel_rfl
theorem c1124 : go [.int .i64 (10), .int .i64 (6), .int .i64 (2)] = true := by kernel_rfl
theorem c1125 : go [.int .i64 (10), .int .i64 (6), .int .i64 (3)] = true := by kernel_rfl
theorem c1126 : go [.int .i64 (10), .int .i64 (6), .int .i64 (4)] = true := by kernel_rfl
theorem c1127 : go [.int .i64 (10), .int .i64 (6), .int .i64 (5)] = true := by kernel_rfl
theorem c1128 : go [.int .i64 (10), .int .i64 (7), .fact .i64 (lessF 6 (0))] = true := by kernel_rfl
theorem c1129 : go [.int .i64 (10), .int .i64 (7), .fact .i64 (moreF 6 (0))] = true := by kernel_rfl
theorem c1130 : go [.int .i64 (10), .int .i64 (7), .int .i64 (0)] = true := by kernel_rfl
theorem c1131 : go [.int .i64 (10), .int .i64 (7), .int .i64 (1)] = true := by kernel_rfl
theorem c1132 : go [.int .i64 (10), .int .i64 (7), .int .i64 (2)] = true := by kernel_rfl
theorem c1133 : go [.int .i64 (10), .int .i64 (7), .int .i64 (3)] = true := by kernel_rfl
theorem c1134 : go [.int .i64 (10), .int .i64 (7), .int .i64 (4)] = true := by kernel_rfl
theorem c1135 : go [.int .i64 (10), .int .i64 (7), .int .i64 (5)] = true := by kernel_rfl
theorem c1136 : go [.int .i64 (10), .int .i64 (8), .fact .i64 (lessF 6 (0))] = true := by kernel_rfl
theorem c1137 : go [.int .i64 (10), .int .i64 (8), .fact .i64 (moreF 6 (0))] = true := by kernel_rfl
theorem c1138 : go [.int .i64 (10), .int .i64 (8), .int .i64 (0)] = true := by kernel_rfl
theorem c1139 : go [.int .i64 (10), .int .i64 (8), .int .i64 (1)] = true := by kernel_rfl
theorem c1140 : go [.int .i64 (10), .int .i64 (8), .int .i64 (2)] = true := by kernel_rfl
theorem c1141 : go [.int .i64 (10), .int .i64 (8), .int .i64 (3)] = true := by kernel_rfl
theorem c1142 : go [.int .i64 (10), .int .i64 (8), .int .i64 (4)] = true := by kernel_rfl
theorem c1143 : go [.int .i64 (10), .int .i64 (8), .int .i64 (5)] = true := by kernel_rfl
end Go.Proofs.Ytpgcmcdpgobdlaa.schemaLimits
