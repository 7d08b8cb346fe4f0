/- Cases of SchemaLimits. -/
import Derived.Test.YtpgcmcdpgobdlaaSchemaLimitsGo
namespace Go.Proofs.Ytpgcmcdpgobdlaa.schemaLimits
open Go.Den
theorem c240 : go [.int .i64 (0), .int .i64 (6), .fact .i64 (lessF 6 (0))] = true := by kernel_rfl
theorem c241 : go [.int .i64 (0), .int .i64 (6), .fact .i64 (moreF 6 (0))] = true := by kernel_rfl
theorem c242 : go [.int .i64 (0), .int .i64 (6), .int .i64 (0)] = true := by kernel_rfl
theorem c243 : go [.int .i64 (0), .int .i64 (6), .int .i64 (1)] = true := by kernel_rfl
theorem c244 : go [.int .i64 (0), .int .i64 (6), .int .i64 (2)] = true := by kernel_rfl
theorem c245 : go [.int .i64 (0), .int .i64 (6), .int .i64 (3)] = true := by kernel_rfl
theorem c246 : go [.int .i64 (0), .int .i64 (6), .int .i64 (4)] = true := by kernel_rfl
theorem c247 : go [.int .i64 (0), .int .i64 (6), .int .i64 (5)] = true := by kernel_rfl
theorem c248 : go [.int .i64 (0), .int .i64 (7), .fact .i64 (lessF 6 (0))] = true := by kernel_rfl
theorem c249 : go [.int .i64 (0), .int .i64 (7), .fact .i64 (moreF 6 (0))] = true := by kernel_rfl
theorem c250 : go [.int .i64 (0), .int .i64 (7), .int .i64 (0)] = true := by kernel_rfl
theorem c251 : go [.int .i64 (0), .int .i64 (7), .int .i64 (1)] = true := by kernel_rfl
theorem c252 : go [.int .i64 (0), .int .i64 (7), .int .i64 (2)] = true := by kernel_rfl
theorem c253 : go [.int .i64 (0), .int .i64 (7), .int .i64 (3)] = true := by kernel_rfl
theorem c254 : go [.int .i64 (0), .int .i64 (7), .int .i64 (4)] = true := by kernel_rfl
theorem c255 : go [.int .i64 (0), .int .i64 (7), .int .i64 (5)] = true := by kernel_rfl
theorem c256 : go [.int .i64 (0), .int .i64 (8), .fact .i64 (lessF 6 (0))] = true := by kernel_rfl
theorem c257 : go [.int .i64 (0), .int .i64 (8), .fact .i64 (moreF 6 (0))] = true := by kernel_rfl
theorem c258 : go [.int .i64 (0), .int .i64 (8), .int .i64 (0)] = true := by kernel_rfl
theorem c259 : go [.int .i64 (0), .int .i64 (8), .int .i64 (1)] = true := by kernel_rfl
theorem c260 : go [.int .i64 (0), .int .i64 (8), .int .i64 (2)] = true := by kernel_rfl
theorem c261 : go [.int .i64 (0), .int .i64 (8), .int .i64 (3)] = true := by kernel_rfl
theorem c262 : go [.int .i64 (0), .int .i64 (8), .int .i64 (4)] = true := by kernel_rfl
theorem c263 : go [.int .i64 (0), .int .i64 (8), .int .i64 (5)] = true := by kernel_rfl
theorem c264 : go [.int .i64 (1), .fact .i64 (lessF 9 (0)), .fact .i64 (lessF 6 (0))] = true := by kernel_rfl
theorem c265 : go [.int .i64 (1), .fact .i64 (lessF 9 (0)), .fact .i64 (moreF 6 (0))] = true := by kernel_rfl
theorem c266 : go [.int .i64 (1), .fact .i64 (lessF 9 (0)), .int .i64 (0)] = true := by kernel_rfl
theorem c267 : go [.int .i64 (1), .fact .i64 (lessF 9 (0)), .int .i64 (1)] = true := by kernel_rfl
theorem c268 : go [.int .i64 (1), .fact .i64 (lessF 9 (0)), .int .i64 (2)] = true := by kernel_rfl
theorem c269 : go [.int .i64 (1), .fact .i64 (lessF 9 (0)), .int .i64 (3)] = true := by kernel_rfl
theorem c270 : go [.int .i64 (1), .fact .i64 (lessF 9 (0)), .int .i64 (4)] = true := by kernel_rfl
theorem c271 : go [.int .i64 (1), .fact .i64 (lessF 9 (0)), .int .i64 (5)] = true := by kernel_rfl
theorem c272 : go [.int .i64 (1), .fact .i64 (moreF 9 (0)), .fact .i64 (lessF 6 (0))] = true := by kernel_rfl
theorem c273 : go [.int .i64 (1), .fact .i64 (moreF 9 (0)), .fact .i64 (moreF 6 (0))] = true := by kernel_rfl
theorem c274 : go [.int .i64 (1), .fact .i64 (moreF 9 (0)), .int .i64 (0)] = true := by kernel_rfl
theorem c275 : go [.int .i64 (1), .fact .i64 (moreF 9 (0)), .int .i64 (1)] = true := by kernel_rfl
theorem c276 : go [.int .i64 (1), .fact .i64 (moreF 9 (0)), .int .i64 (2)] = true := by kernel_rfl
theorem c277 : go [.int .i64 (1), .fact .i64 (moreF 9 (0)), .int .i64 (3)] = true := by kernel_rfl
theorem c278 : go [.int .i64 (1), .fact .i64 (moreF 9 (0)), .int .i64 (4)] = true := by kernel_rfl
theorem c279 : go [.int .i64 (1), .fact .i64 (moreF 9 (0)), .int .i64 (5)] = true := by kernel_rfl
theorem c280 : go [.int .i64 (1), .int .i64 (0), .fact .i64 (lessF 6 (0))] = true := by kernel_rfl
theorem c281 : go [.int .i64 (1), .int .i64 (0), .fact .i64 (moreF 6 (0))] = true := by kernel_rfl
theorem c282 : go [.int .i64 (1), .int .i64 (0), .int .i64 (0)] = true := by kernel_rfl
theorem c283 : go [.int .i64 (1), .int .i64 (0), .int .i64 (1)] = true := by kernel_rfl
theorem c284 : go [.int .i64 (1), .int .i64 (0), .int .i64 (2)] = true := by kernel_rfl
theorem c285 : go [.int .i64 (1), .int .i64 (0), .int .i64 (3)] = true := by kernel_rfl
theorem c286 : go [.int .i64 (1), .int .i64 (0), .int .i64 (4)] = true := by kernel_rfl
theorem c287 : go [.int .i64 (1), .int .i64 (0), .int .i64 (5)] = true := by kernel_rfl
end Go.Proofs.Ytpgcmcdpgobdlaa.schemaLimits
