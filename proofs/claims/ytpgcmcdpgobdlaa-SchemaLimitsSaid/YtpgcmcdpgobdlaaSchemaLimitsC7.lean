/- Cases of SchemaLimits. -/
import Derived.Test.YtpgcmcdpgobdlaaSchemaLimitsGo
namespace Go.Proofs.Ytpgcmcdpgobdlaa.schemaLimits
open Go.Den
theorem c288 : go [.int .i64 (1), .int .i64 (1), .fact .i64 (lessF 6 (0))] = true := by kernel_rfl
theorem c289 : go [.int .i64 (1), .int .i64 (1), .fact .i64 (moreF 6 (0))] = true := by kernel_rfl
theorem c290 : go [.int .i64 (1), .int .i64 (1), .int .i64 (0)] = true := by kernel_rfl
theorem c291 : go [.int .i64 (1), .int .i64 (1), .int .i64 (1)] = true := by kernel_rfl
theorem c292 : go [.int .i64 (1), .int .i64 (1), .int .i64 (2)] = true := by kernel_rfl
theorem c293 : go [.int .i64 (1), .int .i64 (1), .int .i64 (3)] = true := by kernel_rfl
theorem c294 : go [.int .i64 (1), .int .i64 (1), .int .i64 (4)] = true := by kernel_rfl
theorem c295 : go [.int .i64 (1), .int .i64 (1), .int .i64 (5)] = true := by kernel_rfl
theorem c296 : go [.int .i64 (1), .int .i64 (2), .fact .i64 (lessF 6 (0))] = true := by kernel_rfl
theorem c297 : go [.int .i64 (1), .int .i64 (2), .fact .i64 (moreF 6 (0))] = true := by kernel_rfl
theorem c298 : go [.int .i64 (1), .int .i64 (2), .int .i64 (0)] = true := by kernel_rfl
theorem c299 : go [.int .i64 (1), .int .i64 (2), .int .i64 (1)] = true := by kernel_rfl
theorem c300 : go [.int .i64 (1), .int .i64 (2), .int .i64 (2)] = true := by kernel_rfl
theorem c301 : go [.int .i64 (1), .int .i64 (2), .int .i64 (3)] = true := by kernel_rfl
theorem c302 : go [.int .i64 (1), .int .i64 (2), .int .i64 (4)] = true := by kernel_rfl
theorem c303 : go [.int .i64 (1), .int .i64 (2), .int .i64 (5)] = true := by kernel_rfl
theorem c304 : go [.int .i64 (1), .int .i64 (3), .fact .i64 (lessF 6 (0))] = true := by kernel_rfl
theorem c305 : go [.int .i64 (1), .int .i64 (3), .fact .i64 (moreF 6 (0))] = true := by kernel_rfl
theorem c306 : go [.int .i64 (1), .int .i64 (3), .int .i64 (0)] = true := by kernel_rfl
theorem c307 : go [.int .i64 (1), .int .i64 (3), .int .i64 (1)] = true := by kernel_rfl
theorem c308 : go [.int .i64 (1), .int .i64 (3), .int .i64 (2)] = true := by kernel_rfl
theorem c309 : go [.int .i64 (1), .int .i64 (3), .int .i64 (3)] = true := by kernel_rfl
theorem c310 : go [.int .i64 (1), .int .i64 (3), .int .i64 (4)] = true := by kernel_rfl
theorem c311 : go [.int .i64 (1), .int .i64 (3), .int .i64 (5)] = true := by kernel_rfl
theorem c312 : go [.int .i64 (1), .int .i64 (4), .fact .i64 (lessF 6 (0))] = true := by kernel_rfl
theorem c313 : go [.int .i64 (1), .int .i64 (4), .fact .i64 (moreF 6 (0))] = true := by kernel_rfl
theorem c314 : go [.int .i64 (1), .int .i64 (4), .int .i64 (0)] = true := by kernel_rfl
theorem c315 : go [.int .i64 (1), .int .i64 (4), .int .i64 (1)] = true := by kernel_rfl
theorem c316 : go [.int .i64 (1), .int .i64 (4), .int .i64 (2)] = true := by kernel_rfl
theorem c317 : go [.int .i64 (1), .int .i64 (4), .int .i64 (3)] = true := by kernel_rfl
theorem c318 : go [.int .i64 (1), .int .i64 (4), .int .i64 (4)] = true := by kernel_rfl
theorem c319 : go [.int .i64 (1), .int .i64 (4), .int .i64 (5)] = true := by kernel_rfl
theorem c320 : go [.int .i64 (1), .int .i64 (5), .fact .i64 (lessF 6 (0))] = true := by kernel_rfl
theorem c321 : go [.int .i64 (1), .int .i64 (5), .fact .i64 (moreF 6 (0))] = true := by kernel_rfl
theorem c322 : go [.int .i64 (1), .int .i64 (5), .int .i64 (0)] = true := by kernel_rfl
theorem c323 : go [.int .i64 (1), .int .i64 (5), .int .i64 (1)] = true := by kernel_rfl
theorem c324 : go [.int .i64 (1), .int .i64 (5), .int .i64 (2)] = true := by kernel_rfl
theorem c325 : go [.int .i64 (1), .int .i64 (5), .int .i64 (3)] = true := by kernel_rfl
theorem c326 : go [.int .i64 (1), .int .i64 (5), .int .i64 (4)] = true := by kernel_rfl
theorem c327 : go [.int .i64 (1), .int .i64 (5), .int .i64 (5)] = true := by kernel_rfl
theorem c328 : go [.int .i64 (1), .int .i64 (6), .fact .i64 (lessF 6 (0))] = true := by kernel_rfl
theorem c329 : go [.int .i64 (1), .int .i64 (6), .fact .i64 (moreF 6 (0))] = true := by kernel_rfl
theorem c330 : go [.int .i64 (1), .int .i64 (6), .int .i64 (0)] = true := by kernel_rfl
theorem c331 : go [.int .i64 (1), .int .i64 (6), .int .i64 (1)] = true := by kernel_rfl
theorem c332 : go [.int .i64 (1), .int .i64 (6), .int .i64 (2)] = true := by kernel_rfl
theorem c333 : go [.int .i64 (1), .int .i64 (6), .int .i64 (3)] = true := by kernel_rfl
theorem c334 : go [.int .i64 (1), .int .i64 (6), .int .i64 (4)] = true := by kernel_rfl
theorem c335 : go [.int .i64 (1), .int .i64 (6), .int .i64 (5)] = true := by kernel_rfl
end Go.Proofs.Ytpgcmcdpgobdlaa.schemaLimits
