/- Cases of SchemaLimits. -/
import Derived.Test.YtpgcmcdpgobdlaaSchemaLimitsGo
namespace Go.Proofs.Ytpgcmcdpgobdlaa.schemaLimits
open Go.Den
theorem c336 : go [.int .i64 (1), .int .i64 (7), .fact .i64 (lessF 6 (0))] = true := by kernel_rfl
theorem c337 : go [.int .i64 (1), .int .i64 (7), .fact .i64 (moreF 6 (0))] = true := by kernel_rfl
theorem c338 : go [.int .i64 (1), .int .i64 (7), .int .i64 (0)] = true := by kernel_rfl
theorem c339 : go [.int .i64 (1), .int .i64 (7), .int .i64 (1)] = true := by kernel_rfl
theorem c340 : go [.int .i64 (1), .int .i64 (7), .int .i64 (2)] = true := by kernel_rfl
theorem c341 : go [.int .i64 (1), .int .i64 (7), .int .i64 (3)] = true := by kernel_rfl
theorem c342 : go [.int .i64 (1), .int .i64 (7), .int .i64 (4)] = true := by kernel_rfl
theorem c343 : go [.int .i64 (1), .int .i64 (7), .int .i64 (5)] = true := by kernel_rfl
theorem c344 : go [.int .i64 (1), .int .i64 (8), .fact .i64 (lessF 6 (0))] = true := by kernel_rfl
theorem c345 : go [.int .i64 (1), .int .i64 (8), .fact .i64 (moreF 6 (0))] = true := by kernel_rfl
theorem c346 : go [.int .i64 (1), .int .i64 (8), .int .i64 (0)] = true := by kernel_rfl
theorem c347 : go [.int .i64 (1), .int .i64 (8), .int .i64 (1)] = true := by kernel_rfl
theorem c348 : go [.int .i64 (1), .int .i64 (8), .int .i64 (2)] = true := by kernel_rfl
theorem c349 : go [.int .i64 (1), .int .i64 (8), .int .i64 (3)] = true := by kernel_rfl
theorem c350 : go [.int .i64 (1), .int .i64 (8), .int .i64 (4)] = true := by kernel_rfl
theorem c351 : go [.int .i64 (1), .int .i64 (8), .int .i64 (5)] = true := by kernel_rfl
theorem c352 : go [.int .i64 (2), .fact .i64 (lessF 9 (0)), .fact .i64 (lessF 6 (0))] = true := by kernel_rfl
theorem c353 : go [.int .i64 (2), .fact .i64 (lessF 9 (0)), .fact .i64 (moreF 6 (0))] = true := by kernel_rfl
theorem c354 : go [.int .i64 (2), .fact .i64 (lessF 9 (0)), .int .i64 (0)] = true := by kernel_rfl
theorem c355 : go [.int .i64 (2), .fact .i64 (lessF 9 (0)), .int .i64 (1)] = true := by kernel_rfl
theorem c356 : go [.int .i64 (2), .fact .i64 (lessF 9 (0)), .int .i64 (2)] = true := by kernel_rfl
theorem c357 : go [.int .i64 (2), .fact .i64 (lessF 9 (0)), .int .i64 (3)] = true := by kernel_rfl
theorem c358 : go [.int .i64 (2), .fact .i64 (lessF 9 (0)), .int .i64 (4)] = true := by kernel_rfl
theorem c359 : go [.int .i64 (2), .fact .i64 (lessF 9 (0)), .int .i64 (5)] = true := by kernel_rfl
theorem c360 : go [.int .i64 (2), .fact .i64 (moreF 9 (0)), .fact .i64 (lessF 6 (0))] = true := by kernel_rfl
theorem c361 : go [.int .i64 (2), .fact .i64 (moreF 9 (0)), .fact .i64 (moreF 6 (0))] = true := by kernel_rfl
theorem c362 : go [.int .i64 (2), .fact .i64 (moreF 9 (0)), .int .i64 (0)] = true := by kernel_rfl
theorem c363 : go [.int .i64 (2), .fact .i64 (moreF 9 (0)), .int .i64 (1)] = true := by kernel_rfl
theorem c364 : go [.int .i64 (2), .fact .i64 (moreF 9 (0)), .int .i64 (2)] = true := by kernel_rfl
theorem c365 : go [.int .i64 (2), .fact .i64 (moreF 9 (0)), .int .i64 (3)] = true := by kernel_rfl
theorem c366 : go [.int .i64 (2), .fact .i64 (moreF 9 (0)), .int .i64 (4)] = true := by kernel_rfl
theorem c367 : go [.int .i64 (2), .fact .i64 (moreF 9 (0)), .int .i64 (5)] = true := by kernel_rfl
theorem c368 : go [.int .i64 (2), .int .i64 (0), .fact .i64 (lessF 6 (0))] = true := by kernel_rfl
theorem c369 : go [.int .i64 (2), .int .i64 (0), .fact .i64 (moreF 6 (0))] = true := by kernel_rfl
theorem c370 : go [.int .i64 (2), .int .i64 (0), .int .i64 (0)] = true := by kernel_rfl
theorem c371 : go [.int .i64 (2), .int .i64 (0), .int .i64 (1)] = true := by kernel_rfl
theorem c372 : go [.int .i64 (2), .int .i64 (0), .int .i64 (2)] = true := by kernel_rfl
theorem c373 : go [.int .i64 (2), .int .i64 (0), .int .i64 (3)] = true := by kernel_rfl
theorem c374 : go [.int .i64 (2), .int .i64 (0), .int .i64 (4)] = true := by kernel_rfl
theorem c375 : go [.int .i64 (2), .int .i64 (0), .int .i64 (5)] = true := by kernel_rfl
theorem c376 : go [.int .i64 (2), .int .i64 (1), .fact .i64 (lessF 6 (0))] = true := by kernel_rfl
theorem c377 : go [.int .i64 (2), .int .i64 (1), .fact .i64 (moreF 6 (0))] = true := by kernel_rfl
theorem c378 : go [.int .i64 (2), .int .i64 (1), .int .i64 (0)] = true := by kernel_rfl
theorem c379 : go [.int .i64 (2), .int .i64 (1), .int .i64 (1)] = true := by kernel_rfl
theorem c380 : go [.int .i64 (2), .int .i64 (1), .int .i64 (2)] = true := by kernel_rfl
theorem c381 : go [.int .i64 (2), .int .i64 (1), .int .i64 (3)] = true := by kernel_rfl
theorem c382 : go [.int .i64 (2), .int .i64 (1), .int .i64 (4)] = true := by kernel_rfl
theorem c383 : go [.int .i64 (2), .int .i64 (1), .int .i64 (5)] = true := by kernel_rfl
end Go.Proofs.Ytpgcmcdpgobdlaa.schemaLimits
