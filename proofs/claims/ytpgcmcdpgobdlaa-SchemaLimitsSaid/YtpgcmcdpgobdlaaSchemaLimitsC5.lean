/- Cases of SchemaLimits. -/
import Derived.Test.YtpgcmcdpgobdlaaSchemaLimitsGo
namespace Go.Proofs.Ytpgcmcdpgobdlaa.schemaLimits
open Go.Den
theorem c192 : go [.int .i64 (0), .int .i64 (0), .fact .i64 (lessF 6 (0))] = true := by kernel_rfl
theorem c193 : go [.int .i64 (0), .int .i64 (0), .fact .i64 (moreF 6 (0))] = true := by kernel_rfl
theorem c194 : go [.int .i64 (0), .int .i64 (0), .int .i64 (0)] = true := by kernel_rfl
theorem c195 : go [.int .i64 (0), .int .i64 (0), .int .i64 (1)] = true := by kernel_rfl
theorem c196 : go [.int .i64 (0), .int .i64 (0), .int .i64 (2)] = true := by kernel_rfl
theorem c197 : go [.int .i64 (0), .int .i64 (0), .int .i64 (3)] = true := by kernel_rfl
theorem c198 : go [.int .i64 (0), .int .i64 (0), .int .i64 (4)] = true := by kernel_rfl
theorem c199 : go [.int .i64 (0), .int .i64 (0), .int .i64 (5)] = true := by kernel_rfl
theorem c200 : go [.int .i64 (0), .int .i64 (1), .fact .i64 (lessF 6 (0))] = true := by kernel_rfl
theorem c201 : go [.int .i64 (0), .int .i64 (1), .fact .i64 (moreF 6 (0))] = true := by kernel_rfl
theorem c202 : go [.int .i64 (0), .int .i64 (1), .int .i64 (0)] = true := by kernel_rfl
theorem c203 : go [.int .i64 (0), .int .i64 (1), .int .i64 (1)] = true := by kernel_rfl
theorem c204 : go [.int .i64 (0), .int .i64 (1), .int .i64 (2)] = true := by kernel_rfl
theorem c205 : go [.int .i64 (0), .int .i64 (1), .int .i64 (3)] = true := by kernel_rfl
theorem c206 : go [.int .i64 (0), .int .i64 (1), .int .i64 (4)] = true := by kernel_rfl
theorem c207 : go [.int .i64 (0), .int .i64 (1), .int .i64 (5)] = true := by kernel_rfl
theorem c208 : go [.int .i64 (0), .int .i64 (2), .fact .i64 (lessF 6 (0))] = true := by kernel_rfl
theorem c209 : go [.int .i64 (0), .int .i64 (2), .fact .i64 (moreF 6 (0))] = true := by kernel_rfl
theorem c210 : go [.int .i64 (0), .int .i64 (2), .int .i64 (0)] = true := by kernel_rfl
theorem c211 : go [.int .i64 (0), .int .i64 (2), .int .i64 (1)] = true := by kernel_rfl
theorem c212 : go [.int .i64 (0), .int .i64 (2), .int .i64 (2)] = true := by kernel_rfl
theorem c213 : go [.int .i64 (0), .int .i64 (2), .int .i64 (3)] = true := by kernel_rfl
theorem c214 : go [.int .i64 (0), .int .i64 (2), .int .i64 (4)] = true := by kernel_rfl
theorem c215 : go [.int .i64 (0), .int .i64 (2), .int .i64 (5)] = true := by kernel_rfl
theorem c216 : go [.int .i64 (0), .int .i64 (3), .fact .i64 (lessF 6 (0))] = true := by kernel_rfl
theorem c217 : go [.int .i64 (0), .int .i64 (3), .fact .i64 (moreF 6 (0))] = true := by kernel_rfl
theorem c218 : go [.int .i64 (0), .int .i64 (3), .int .i64 (0)] = true := by kernel_rfl
theorem c219 : go [.int .i64 (0), .int .i64 (3), .int .i64 (1)] = true := by kernel_rfl
theorem c220 : go [.int .i64 (0), .int .i64 (3), .int .i64 (2)] = true := by kernel_rfl
theorem c221 : go [.int .i64 (0), .int .i64 (3), .int .i64 (3)] = true := by kernel_rfl
theorem c222 : go [.int .i64 (0), .int .i64 (3), .int .i64 (4)] = true := by kernel_rfl
theorem c223 : go [.int .i64 (0), .int .i64 (3), .int .i64 (5)] = true := by kernel_rfl
theorem c224 : go [.int .i64 (0), .int .i64 (4), .fact .i64 (lessF 6 (0))] = true := by kernel_rfl
theorem c225 : go [.int .i64 (0), .int .i64 (4), .fact .i64 (moreF 6 (0))] = true := by kernel_rfl
theorem c226 : go [.int .i64 (0), .int .i64 (4), .int .i64 (0)] = true := by kernel_rfl
theorem c227 : go [.int .i64 (0), .int .i64 (4), .int .i64 (1)] = true := by kernel_rfl
theorem c228 : go [.int .i64 (0), .int .i64 (4), .int .i64 (2)] = true := by kernel_rfl
theorem c229 : go [.int .i64 (0), .int .i64 (4), .int .i64 (3)] = true := by kernel_rfl
theorem c230 : go [.int .i64 (0), .int .i64 (4), .int .i64 (4)] = true := by kernel_rfl
theorem c231 : go [.int .i64 (0), .int .i64 (4), .int .i64 (5)] = true := by kernel_rfl
theorem c232 : go [.int .i64 (0), .int .i64 (5), .fact .i64 (lessF 6 (0))] = true := by kernel_rfl
theorem c233 : go [.int .i64 (0), .int .i64 (5), .fact .i64 (moreF 6 (0))] = true := by kernel_rfl
theorem c234 : go [.int .i64 (0), .int .i64 (5), .int .i64 (0)] = true := by kernel_rfl
theorem c235 : go [.int .i64 (0), .int .i64 (5), .int .i64 (1)] = true := by kernel_rfl
theorem c236 : go [.int .i64 (0), .int .i64 (5), .int .i64 (2)] = true := by kernel_rfl
theorem c237 : go [.int .i64 (0), .int .i64 (5), .int .i64 (3)] = true := by kernel_rfl
theorem c238 : go [.int .i64 (0), .int .i64 (5), .int .i64 (4)] = true := by kernel_rfl
theorem c239 : go [.int .i64 (0), .int .i64 (5), .int .i64 (5)] = true := by kernel_rfl
end Go.Proofs.Ytpgcmcdpgobdlaa.schemaLimits
