/- Cases of SchemaLimits. -/
import Derived.Test.YtpgcmcdpgobdlaaSchemaLimitsGo
namespace Go.Proofs.Ytpgcmcdpgobdlaa.schemaLimits
open Go.Den
theorem c480 : go [.int .i64 (3), .int .i64 (3), .fact .i64 (lessF 6 (0))] = true := by kernel_rfl
theorem c481 : go [.int .i64 (3), .int .i64 (3), .fact .i64 (moreF 6 (0))] = true := by kernel_rfl
theorem c482 : go [.int .i64 (3), .int .i64 (3), .int .i64 (0)] = true := by kernel_rfl
theorem c483 : go [.int .i64 (3), .int .i64 (3), .int .i64 (1)] = true := by kernel_rfl
theorem c484 : go [.int .i64 (3), .int .i64 (3), .int .i64 (2)] = true := by kernel_rfl
theorem c485 : go [.int .i64 (3), .int .i64 (3), .int .i64 (3)] = true := by kernel_rfl
theorem c486 : go [.int .i64 (3), .int .i64 (3), .int .i64 (4)] = true := by kernel_rfl
theorem c487 : go [.int .i64 (3), .int .i64 (3), .int .i64 (5)] = true := by kernel_rfl
theorem c488 : go [.int .i64 (3), .int .i64 (4), .fact .i64 (lessF 6 (0))] = true := by kernel_rfl
theorem c489 : go [.int .i64 (3), .int .i64 (4), .fact .i64 (moreF 6 (0))] = true := by kernel_rfl
theorem c490 : go [.int .i64 (3), .int .i64 (4), .int .i64 (0)] = true := by kernel_rfl
theorem c491 : go [.int .i64 (3), .int .i64 (4), .int .i64 (1)] = true := by kernel_rfl
theorem c492 : go [.int .i64 (3), .int .i64 (4), .int .i64 (2)] = true := by kernel_rfl
theorem c493 : go [.int .i64 (3), .int .i64 (4), .int .i64 (3)] = true := by kernel_rfl
theorem c494 : go [.int .i64 (3), .int .i64 (4), .int .i64 (4)] = true := by kernel_rfl
theorem c495 : go [.int .i64 (3), .int .i64 (4), .int .i64 (5)] = true := by kernel_rfl
theorem c496 : go [.int .i64 (3), .int .i64 (5), .fact .i64 (lessF 6 (0))] = true := by kernel_rfl
theorem c497 : go [.int .i64 (3), .int .i64 (5), .fact .i64 (moreF 6 (0))] = true := by kernel_rfl
theorem c498 : go [.int .i64 (3), .int .i64 (5), .int .i64 (0)] = true := by kernel_rfl
theorem c499 : go [.int .i64 (3), .int .i64 (5), .int .i64 (1)] = true := by kernel_rfl
theorem c500 : go [.int .i64 (3), .int .i64 (5), .int .i64 (2)] = true := by kernel_rfl
theorem c501 : go [.int .i64 (3), .int .i64 (5), .int .i64 (3)] = true := by kernel_rfl
theorem c502 : go [.int .i64 (3), .int .i64 (5), .int .i64 (4)] = true := by kernel_rfl
theorem c503 : go [.int .i64 (3), .int .i64 (5), .int .i64 (5)] = true := by kernel_rfl
theorem c504 : go [.int .i64 (3), .int .i64 (6), .fact .i64 (lessF 6 (0))] = true := by kernel_rfl
theorem c505 : go [.int .i64 (3), .int .i64 (6), .fact .i64 (moreF 6 (0))] = true := by kernel_rfl
theorem c506 : go [.int .i64 (3), .int .i64 (6), .int .i64 (0)] = true := by kernel_rfl
theorem c507 : go [.int .i64 (3), .int .i64 (6), .int .i64 (1)] = true := by kernel_rfl
theorem c508 : go [.int .i64 (3), .int .i64 (6), .int .i64 (2)] = true := by kernel_rfl
theorem c509 : go [.int .i64 (3), .int .i64 (6), .int .i64 (3)] = true := by kernel_rfl
theorem c510 : go [.int .i64 (3), .int .i64 (6), .int .i64 (4)] = true := by kernel_rfl
theorem c511 : go [.int .i64 (3), .int .i64 (6), .int .i64 (5)] = true := by kernel_rfl
theorem c512 : go [.int .i64 (3), .int .i64 (7), .fact .i64 (lessF 6 (0))] = true := by kernel_rfl
theorem c513 : go [.int .i64 (3), .int .i64 (7), .fact .i64 (moreF 6 (0))] = true := by kernel_rfl
theorem c514 : go [.int .i64 (3), .int .i64 (7), .int .i64 (0)] = true := by kernel_rfl
theorem c515 : go [.int .i64 (3), .int .i64 (7), .int .i64 (1)] = true := by kernel_rfl
theorem c516 : go [.int .i64 (3), .int .i64 (7), .int .i64 (2)] = true := by kernel_rfl
theorem c517 : go [.int .i64 (3), .int .i64 (7), .int .i64 (3)] = true := by kernel_rfl
theorem c518 : go [.int .i64 (3), .int .i64 (7), .int .i64 (4)] = true := by kernel_rfl
theorem c519 : go [.int .i64 (3), .int .i64 (7), .int .i64 (5)] = true := by kernel_rfl
theorem c520 : go [.int .i64 (3), .int .i64 (8), .fact .i64 (lessF 6 (0))] = true := by kernel_rfl
theorem c521 : go [.int .i64 (3), .int .i64 (8), .fact .i64 (moreF 6 (0))] = true := by kernel_rfl
theorem c522 : go [.int .i64 (3), .int .i64 (8), .int .i64 (0)] = true := by kernel_rfl
theorem c523 : go [.int .i64 (3), .int .i64 (8), .int .i64 (1)] = true := by kernel_rfl
theorem c524 : go [.int .i64 (3), .int .i64 (8), .int .i64 (2)] = true := by kernel_rfl
theorem c525 : go [.int .i64 (3), .int .i64 (8), .int .i64 (3)] = true := by kernel_rfl
theorem c526 : go [.int .i64 (3), .int .i64 (8), .int .i64 (4)] = true := by kernel_rfl
theorem c527 : go [.int .i64 (3), .int .i64 (8), .int .i64 (5)] = true := by kernel_rfl
end Go.Proofs.Ytpgcmcdpgobdlaa.schemaLimits
