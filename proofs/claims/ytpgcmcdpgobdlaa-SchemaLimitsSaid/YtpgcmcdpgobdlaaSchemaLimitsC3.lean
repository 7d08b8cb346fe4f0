/- Cases of SchemaLimits. -/
import Derived.Test.YtpgcmcdpgobdlaaSchemaLimitsGo
namespace Go.Proofs.Ytpgcmcdpgobdlaa.schemaLimits
open Go.Den
theorem c96 : go [.fact .i64 (moreF 11 (0)), .fact .i64 (moreF 9 (0)), .fact .i64 (lessF 6 (0))] = true := by kernel_rfl
theorem c97 : go [.fact .i64 (moreF 11 (0)), .fact .i64 (moreF 9 (0)), .fact .i64 (moreF 6 (0))] = true := by kernel_rfl
theorem c98 : go [.fact .i64 (moreF 11 (0)), .fact .i64 (moreF 9 (0)), .int .i64 (0)] = true := by kernel_rfl
theorem c99 : go [.fact .i64 (moreF 11 (0)), .fact .i64 (moreF 9 (0)), .int .i64 (1)] = true := by kernel_rfl
theorem c100 : go [.fact .i64 (moreF 11 (0)), .fact .i64 (moreF 9 (0)), .int .i64 (2)] = true := by kernel_rfl
theorem c101 : go [.fact .i64 (moreF 11 (0)), .fact .i64 (moreF 9 (0)), .int .i64 (3)] = true := by kernel_rfl
theorem c102 : go [.fact .i64 (moreF 11 (0)), .fact .i64 (moreF 9 (0)), .int .i64 (4)] = true := by kernel_rfl
theorem c103 : go [.fact .i64 (moreF 11 (0)), .fact .i64 (moreF 9 (0)), .int .i64 (5)] = true := by kernel_rfl
theorem c104 : go [.fact .i64 (moreF 11 (0)), .int .i64 (0), .fact .i64 (lessF 6 (0))] = true := by kernel_rfl
theorem c105 : go [.fact .i64 (moreF 11 (0)), .int .i64 (0), .fact .i64 (moreF 6 (0))] = true := by kernel_rfl
theorem c106 : go [.fact .i64 (moreF 11 (0)), .int .i64 (0), .int .i64 (0)] = true := by kernel_rfl
theorem c107 : go [.fact .i64 (moreF 11 (0)), .int .i64 (0), .int .i64 (1)] = true := by kernel_rfl
theorem c108 : go [.fact .i64 (moreF 11 (0)), .int .i64 (0), .int .i64 (2)] = true := by kernel_rfl
theorem c109 : go [.fact .i64 (moreF 11 (0)), .int .i64 (0), .int .i64 (3)] = true := by kernel_rfl
theorem c110 : go [.fact .i64 (moreF 11 (0)), .int .i64 (0), .int .i64 (4)] = true := by kernel_rfl
theorem c111 : go [.fact .i64 (moreF 11 (0)), .int .i64 (0), .int .i64 (5)] = true := by kernel_rfl
theorem c112 : go [.fact .i64 (moreF 11 (0)), .int .i64 (1), .fact .i64 (lessF 6 (0))] = true := by kernel_rfl
theorem c113 : go [.fact .i64 (moreF 11 (0)), .int .i64 (1), .fact .i64 (moreF 6 (0))] = true := by kernel_rfl
theorem c114 : go [.fact .i64 (moreF 11 (0)), .int .i64 (1), .int .i64 (0)] = true := by kernel_rfl
theorem c115 : go [.fact .i64 (moreF 11 (0)), .int .i64 (1), .int .i64 (1)] = true := by kernel_rfl
theorem c116 : go [.fact .i64 (moreF 11 (0)), .int .i64 (1), .int .i64 (2)] = true := by kernel_rfl
theorem c117 : go [.fact .i64 (moreF 11 (0)), .int .i64 (1), .int .i64 (3)] = true := by kernel_rfl
theorem c118 : go [.fact .i64 (moreF 11 (0)), .int .i64 (1), .int .i64 (4)] = true := by kernel_rfl
theorem c119 : go [.fact .i64 (moreF 11 (0)), .int .i64 (1), .int .i64 (5)] = true := by kernel_rfl
theorem c120 : go [.fact .i64 (moreF 11 (0)), .int .i64 (2), .fact .i64 (lessF 6 (0))] = true := by kernel_rfl
theorem c121 : go [.fact .i64 (moreF 11 (0)), .int .i64 (2), .fact .i64 (moreF 6 (0))] = true := by kernel_rfl
theorem c122 : go [.fact .i64 (moreF 11 (0)), .int .i64 (2), .int .i64 (0)] = true := by kernel_rfl
theorem c123 : go [.fact .i64 (moreF 11 (0)), .int .i64 (2), .int .i64 (1)] = true := by kernel_rfl
theorem c124 : go [.fact .i64 (moreF 11 (0)), .int .i64 (2), .int .i64 (2)] = true := by kernel_rfl
theorem c125 : go [.fact .i64 (moreF 11 (0)), .int .i64 (2), .int .i64 (3)] = true := by kernel_rfl
theorem c126 : go [.fact .i64 (moreF 11 (0)), .int .i64 (2), .int .i64 (4)] = true := by kernel_rfl
theorem c127 : go [.fact .i64 (moreF 11 (0)), .int .i64 (2), .int .i64 (5)] = true := by kernel_rfl
theorem c128 : go [.fact .i64 (moreF 11 (0)), .int .i64 (3), .fact .i64 (lessF 6 (0))] = true := by kernel_rfl
theorem c129 : go [.fact .i64 (moreF 11 (0)), .int .i64 (3), .fact .i64 (moreF 6 (0))] = true := by kernel_rfl
theorem c130 : go [.fact .i64 (moreF 11 (0)), .int .i64 (3), .int .i64 (0)] = true := by kernel_rfl
theorem c131 : go [.fact .i64 (moreF 11 (0)), .int .i64 (3), .int .i64 (1)] = true := by kernel_rfl
theorem c132 : go [.fact .i64 (moreF 11 (0)), .int .i64 (3), .int .i64 (2)] = true := by kernel_rfl
theorem c133 : go [.fact .i64 (moreF 11 (0)), .int .i64 (3), .int .i64 (3)] = true := by kernel_rfl
theorem c134 : go [.fact .i64 (moreF 11 (0)), .int .i64 (3), .int .i64 (4)] = true := by kernel_rfl
theorem c135 : go [.fact .i64 (moreF 11 (0)), .int .i64 (3), .int .i64 (5)] = true := by kernel_rfl
theorem c136 : go [.fact .i64 (moreF 11 (0)), .int .i64 (4), .fact .i64 (lessF 6 (0))] = true := by kernel_rfl
theorem c137 : go [.fact .i64 (moreF 11 (0)), .int .i64 (4), .fact .i64 (moreF 6 (0))] = true := by kernel_rfl
theorem c138 : go [.fact .i64 (moreF 11 (0)), .int .i64 (4), .int .i64 (0)] = true := by kernel_rfl
theorem c139 : go [.fact .i64 (moreF 11 (0)), .int .i64 (4), .int .i64 (1)] = true := by kernel_rfl
theorem c140 : go [.fact .i64 (moreF 11 (0)), .int .i64 (4), .int .i64 (2)] = true := by kernel_rfl
theorem c141 : go [.fact .i64 (moreF 11 (0)), .int .i64 (4), .int .i64 (3)] = true := by kernel_rfl
theorem c142 : go [.fact .i64 (moreF 11 (0)), .int .i64 (4), .int .i64 (4)] = true := by kernel_rfl
theorem c143 : go [.fact .i64 (moreF 11 (0)), .int .i64 (4), .int .i64 (5)] = true := by kernel_rfl
end Go.Proofs.Ytpgcmcdpgobdlaa.schemaLimits
