/- Cases of SchemaLimits. -/
import Derived.Test.YtpgcmcdpgobdlaaSchemaLimitsGo
namespace Go.Proofs.Ytpgcmcdpgobdlaa.schemaLimits
open Go.Den
theorem c0 : go [.fact .i64 (lessF 11 (0)), .fact .i64 (lessF 9 (0)), .fact .i64 (lessF 6 (0))] = true := by kernel_rfl
theorem c1 : go [.fact .i64 (lessF 11 (0)), .fact .i64 (lessF 9 (0)), .fact .i64 (moreF 6 (0))] = true := by kernel_rfl
theorem c2 : go [.fact .i64 (lessF 11 (0)), .fact .i64 (lessF 9 (0)), .int .i64 (0)] = true := by kernel_rfl
theorem c3 : go [.fact .i64 (lessF 11 (0)), .fact .i64 (lessF 9 (0)), .int .i64 (1)] = true := by kernel_rfl
theorem c4 : go [.fact .i64 (lessF 11 (0)), .fact .i64 (lessF 9 (0)), .int .i64 (2)] = true := by kernel_rfl
theorem c5 : go [.fact .i64 (lessF 11 (0)), .fact .i64 (lessF 9 (0)), .int .i64 (3)] = true := by kernel_rfl
theorem c6 : go [.fact .i64 (lessF 11 (0)), .fact .i64 (lessF 9 (0)), .int .i64 (4)] = true := by kernel_rfl
theorem c7 : go [.fact .i64 (lessF 11 (0)), .fact .i64 (lessF 9 (0)), .int .i64 (5)] = true := by kernel_rfl
theorem c8 : go [.fact .i64 (lessF 11 (0)), .fact .i64 (moreF 9 (0)), .fact .i64 (lessF 6 (0))] = true := by kernel_rfl
theorem c9 : go [.fact .i64 (lessF 11 (0)), .fact .i64 (moreF 9 (0)), .fact .i64 (moreF 6 (0))] = true := by kernel_rfl
theorem c10 : go [.fact .i64 (lessF 11 (0)), .fact .i64 (moreF 9 (0)), .int .i64 (0)] = true := by kernel_rfl
theorem c11 : go [.fact .i64 (lessF 11 (0)), .fact .i64 (moreF 9 (0)), .int .i64 (1)] = true := by kernel_rfl
theorem c12 : go [.fact .i64 (lessF 11 (0)), .fact .i64 (moreF 9 (0)), .int .i64 (2)] = true := by kernel_rfl
theorem c13 : go [.fact .i64 (lessF 11 (0)), .fact .i64 (moreF 9 (0)), .int .i64 (3)] = true := by kernel_rfl
theorem c14 : go [.fact .i64 (lessF 11 (0)), .fact .i64 (moreF 9 (0)), .int .i64 (4)] = true := by kernel_rfl
theorem c15 : go [.fact .i64 (lessF 11 (0)), .fact .i64 (moreF 9 (0)), .int .i64 (5)] = true := by kernel_rfl
theorem c16 : go [.fact .i64 (lessF 11 (0)), .int .i64 (0), .fact .i64 (lessF 6 (0))] = true := by kernel_rfl
theorem c17 : go [.fact .i64 (lessF 11 (0)), .int .i64 (0), .fact .i64 (moreF 6 (0))] = true := by kernel_rfl
theorem c18 : go [.fact .i64 (lessF 11 (0)), .int .i64 (0), .int .i64 (0)] = true := by kernel_rfl
theorem c19 : go [.fact .i64 (lessF 11 (0)), .int .i64 (0), .int .i64 (1)] = true := by kernel_rfl
theorem c20 : go [.fact .i64 (lessF 11 (0)), .int .i64 (0), .int .i64 (2)] = true := by kernel_rfl
theorem c21 : go [.fact .i64 (lessF 11 (0)), .int .i64 (0), .int .i64 (3)] = true := by kernel_rfl
theorem c22 : go [.fact .i64 (lessF 11 (0)), .int .i64 (0), .int .i64 (4)] = true := by kernel_rfl
theorem c23 : go [.fact .i64 (lessF 11 (0)), .int .i64 (0), .int .i64 (5)] = true := by kernel_rfl
theorem c24 : go [.fact .i64 (lessF 11 (0)), .int .i64 (1), .fact .i64 (lessF 6 (0))] = true := by kernel_rfl
theorem c25 : go [.fact .i64 (lessF 11 (0)), .int .i64 (1), .fact .i64 (moreF 6 (0))] = true := by kernel_rfl
theorem c26 : go [.fact .i64 (lessF 11 (0)), .int .i64 (1), .int .i64 (0)] = true := by kernel_rfl
theorem c27 : go [.fact .i64 (lessF 11 (0)), .int .i64 (1), .int .i64 (1)] = true := by kernel_rfl
theorem c28 : go [.fact .i64 (lessF 11 (0)), .int .i64 (1), .int .i64 (2)] = true := by kernel_rfl
theorem c29 : go [.fact .i64 (lessF 11 (0)), .int .i64 (1), .int .i64 (3)] = true := by kernel_rfl
theorem c30 : go [.fact .i64 (lessF 11 (0)), .int .i64 (1), .int .i64 (4)] = true := by kernel_rfl
theorem c31 : go [.fact .i64 (lessF 11 (0)), .int .i64 (1), .int .i64 (5)] = true := by kernel_rfl
theorem c32 : go [.fact .i64 (lessF 11 (0)), .int .i64 (2), .fact .i64 (lessF 6 (0))] = true := by kernel_rfl
theorem c33 : go [.fact .i64 (lessF 11 (0)), .int .i64 (2), .fact .i64 (moreF 6 (0))] = true := by kernel_rfl
theorem c34 : go [.fact .i64 (lessF 11 (0)), .int .i64 (2), .int .i64 (0)] = true := by kernel_rfl
theorem c35 : go [.fact .i64 (lessF 11 (0)), .int .i64 (2), .int .i64 (1)] = true := by kernel_rfl
theorem c36 : go [.fact .i64 (lessF 11 (0)), .int .i64 (2), .int .i64 (2)] = true := by kernel_rfl
theorem c37 : go [.fact .i64 (lessF 11 (0)), .int .i64 (2), .int .i64 (3)] = true := by kernel_rfl
theorem c38 : go [.fact .i64 (lessF 11 (0)), .int .i64 (2), .int .i64 (4)] = true := by kernel_rfl
theorem c39 : go [.fact .i64 (lessF 11 (0)), .int .i64 (2), .int .i64 (5)] = true := by kernel_rfl
theorem c40 : go [.fact .i64 (lessF 11 (0)), .int .i64 (3), .fact .i64 (lessF 6 (0))] = true := by kernel_rfl
theorem c41 : go [.fact .i64 (lessF 11 (0)), .int .i64 (3), .fact .i64 (moreF 6 (0))] = true := by kernel_rfl
theorem c42 : go [.fact .i64 (lessF 11 (0)), .int .i64 (3), .int .i64 (0)] = true := by kernel_rfl
theorem c43 : go [.fact .i64 (lessF 11 (0)), .int .i64 (3), .int .i64 (1)] = true := by kernel_rfl
theorem c44 : go [.fact .i64 (lessF 11 (0)), .int .i64 (3), .int .i64 (2)] = true := by kernel_rfl
theorem c45 : go [.fact .i64 (lessF 11 (0)), .int .i64 (3), .int .i64 (3)] = true := by kernel_rfl
theorem c46 : go [.fact .i64 (lessF 11 (0)), .int .i64 (3), .int .i64 (4)] = true := by kernel_rfl
theorem c47 : go [.fact .i64 (lessF 11 (0)), .int .i64 (3), .int .i64 (5)] = true := by kernel_rfl
end Go.Proofs.Ytpgcmcdpgobdlaa.schemaLimits
