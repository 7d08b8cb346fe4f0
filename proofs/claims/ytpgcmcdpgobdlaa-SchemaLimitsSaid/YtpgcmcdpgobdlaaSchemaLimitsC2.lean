/- Cases of SchemaLimits. -/
import Derived.Test.YtpgcmcdpgobdlaaSchemaLimitsGo
namespace Go.Proofs.Ytpgcmcdpgobdlaa.schemaLimits
open Go.Den
theorem c48 : go [.fact .i64 (lessF 11 (0)), .int .i64 (4), .fact .i64 (lessF 6 (0))] = true := by kernel_rfl
theorem c49 : go [.fact .i64 (lessF 11 (0)), .int .i64 (4), .fact .i64 (moreF 6 (0))] = true := by kernel_rfl
theorem c50 : go [.fact .i64 (lessF 11 (0)), .int .i64 (4), .int .i64 (0)] = true := by kernel_rfl
theorem c51 : go [.fact .i64 (lessF 11 (0)), .int .i64 (4), .int .i64 (1)] = true := by kernel_rfl
theorem c52 : go [.fact .i64 (lessF 11 (0)), .int .i64 (4), .int .i64 (2)] = true := by kernel_rfl
theorem c53 : go [.fact .i64 (lessF 11 (0)), .int .i64 (4), .int .i64 (3)] = true := by kernel_rfl
theorem c54 : go [.fact .i64 (lessF 11 (0)), .int .i64 (4), .int .i64 (4)] = true := by kernel_rfl
theorem c55 : go [.fact .i64 (lessF 11 (0)), .int .i64 (4), .int .i64 (5)] = true := by kernel_rfl
theorem c56 : go [.fact .i64 (lessF 11 (0)), .int .i64 (5), .fact .i64 (lessF 6 (0))] = true := by kernel_rfl
theorem c57 : go [.fact .i64 (lessF 11 (0)), .int .i64 (5), .fact .i64 (moreF 6 (0))] = true := by kernel_rfl
theorem c58 : go [.fact .i64 (lessF 11 (0)), .int .i64 (5), .int .i64 (0)] = true := by kernel_rfl
theorem c59 : go [.fact .i64 (lessF 11 (0)), .int .i64 (5), .int .i64 (1)] = true := by kernel_rfl
theorem c60 : go [.fact .i64 (lessF 11 (0)), .int .i64 (5), .int .i64 (2)] = true := by kernel_rfl
theorem c61 : go [.fact .i64 (lessF 11 (0)), .int .i64 (5), .int .i64 (3)] = true := by kernel_rfl
theorem c62 : go [.fact .i64 (lessF 11 (0)), .int .i64 (5), .int .i64 (4)] = true := by kernel_rfl
theorem c63 : go [.fact .i64 (lessF 11 (0)), .int .i64 (5), .int .i64 (5)] = true := by kernel_rfl
theorem c64 : go [.fact .i64 (lessF 11 (0)), .int .i64 (6), .fact .i64 (lessF 6 (0))] = true := by kernel_rfl
theorem c65 : go [.fact .i64 (lessF 11 (0)), .int .i64 (6), .fact .i64 (moreF 6 (0))] = true := by kernel_rfl
theorem c66 : go [.fact .i64 (lessF 11 (0)), .int .i64 (6), .int .i64 (0)] = true := by kernel_rfl
theorem c67 : go [.fact .i64 (lessF 11 (0)), .int .i64 (6), .int .i64 (1)] = true := by kernel_rfl
theorem c68 : go [.fact .i64 (lessF 11 (0)), .int .i64 (6), .int .i64 (2)] = true := by kernel_rfl
theorem c69 : go [.fact .i64 (lessF 11 (0)), .int .i64 (6), .int .i64 (3)] = true := by kernel_rfl
theorem c70 : go [.fact .i64 (lessF 11 (0)), .int .i64 (6), .int .i64 (4)] = true := by kernel_rfl
theorem c71 : go [.fact .i64 (lessF 11 (0)), .int .i64 (6), .int .i64 (5)] = true := by kernel_rfl
theorem c72 : go [.fact .i64 (lessF 11 (0)), .int .i64 (7), .fact .i64 (lessF 6 (0))] = true := by kernel_rfl
theorem c73 : go [.fact .i64 (lessF 11 (0)), .int .i64 (7), .fact .i64 (moreF 6 (0))] = true := by kernel_rfl
theorem c74 : go [.fact .i64 (lessF 11 (0)), .int .i64 (7), .int .i64 (0)] = true := by kernel_rfl
theorem c75 : go [.fact .i64 (lessF 11 (0)), .int .i64 (7), .int .i64 (1)] = true := by kernel_rfl
theorem c76 : go [.fact .i64 (lessF 11 (0)), .int .i64 (7), .int .i64 (2)] = true := by kernel_rfl
theorem c77 : go [.fact .i64 (lessF 11 (0)), .int .i64 (7), .int .i64 (3)] = true := by kernel_rfl
theorem c78 : go [.fact .i64 (lessF 11 (0)), .int .i64 (7), .int .i64 (4)] = true := by kernel_rfl
theorem c79 : go [.fact .i64 (lessF 11 (0)), .int .i64 (7), .int .i64 (5)] = true := by kernel_rfl
theorem c80 : go [.fact .i64 (lessF 11 (0)), .int .i64 (8), .fact .i64 (lessF 6 (0))] = true := by kernel_rfl
theorem c81 : go [.fact .i64 (lessF 11 (0)), .int .i64 (8), .fact .i64 (moreF 6 (0))] = true := by kernel_rfl
theorem c82 : go [.fact .i64 (lessF 11 (0)), .int .i64 (8), .int .i64 (0)] = true := by kernel_rfl
theorem c83 : go [.fact .i64 (lessF 11 (0)), .int .i64 (8), .int .i64 (1)] = true := by kernel_rfl
theorem c84 : go [.fact .i64 (lessF 11 (0)), .int .i64 (8), .int .i64 (2)] = true := by kernel_rfl
theorem c85 : go [.fact .i64 (lessF 11 (0)), .int .i64 (8), .int .i64 (3)] = true := by kernel_rfl
theorem c86 : go [.fact .i64 (lessF 11 (0)), .int .i64 (8), .int .i64 (4)] = true := by kernel_rfl
theorem c87 : go [.fact .i64 (lessF 11 (0)), .int .i64 (8), .int .i64 (5)] = true := by kernel_rfl
theorem c88 : go [.fact .i64 (moreF 11 (0)), .fact .i64 (lessF 9 (0)), .fact .i64 (lessF 6 (0))] = true := by kernel_rfl
theorem c89 : go [.fact .i64 (moreF 11 (0)), .fact .i64 (lessF 9 (0)), .fact .i64 (moreF 6 (0))] = true := by kernel_rfl
theorem c90 : go [.fact .i64 (moreF 11 (0)), .fact .i64 (lessF 9 (0)), .int .i64 (0)] = true := by kernel_rfl
theorem c91 : go [.fact .i64 (moreF 11 (0)), .fact .i64 (lessF 9 (0)), .int .i64 (1)] = true := by kernel_rfl
theorem c92 : go [.fact .i64 (moreF 11 (0)), .fact .i64 (lessF 9 (0)), .int .i64 (2)] = true := by kernel_rfl
theorem c93 : go [.fact .i64 (moreF 11 (0)), .fact .i64 (lessF 9 (0)), .int .i64 (3)] = true := by kernel_rfl
theorem c94 : go [.fact .i64 (moreF 11 (0)), .fact .i64 (lessF 9 (0)), .int .i64 (4)] = true := by kernel_rfl
theorem c95 : go [.fact .i64 (moreF 11 (0)), .fact .i64 (lessF 9 (0)), .int .i64 (5)] = true := by kernel_rfl
end Go.Proofs.Ytpgcmcdpgobdlaa.schemaLimits
