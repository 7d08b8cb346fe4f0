/- Cases of SchemaLimits. -/
import Derived.Test.YtpgcmcdpgobdlaaSchemaLimitsGo
namespace Go.Proofs.Ytpgcmcdpgobdlaa.schemaLimits
open Go.Den
theorem c960 : go [.int .i64 (8), .int .i64 (8), .fact .i64 (lessF 6 (0))] = true := by kernel_rfl
theorem c961 : go [.int .i64 (8), .int .i64 (8), .fact .i64 (moreF 6 (0))] = true := by kernel_rfl
theorem c962 : go [.int .i64 (8), .int .i64 (8), .int .i64 (0)] = true := by kernel_rfl
theorem c963 : go [.int .i64 (8), .int .i64 (8), .int .i64 (1)] = true := by kernel_rfl
theorem c964 : go [.int .i64 (8), .int .i64 (8), .int .i64 (2)] = true := by kernel_rfl
theorem c965 : go [.int .i64 (8), .int .i64 (8), .int .i64 (3)] = true := by kernel_rfl
theorem c966 : go [.int .i64 (8), .int .i64 (8), .int .i64 (4)] = true := by kernel_rfl
theorem c967 : go [.int .i64 (8), .int .i64 (8), .int .i64 (5)] = true := by kernel_rfl
theorem c968 : go [.int .i64 (9), .fact .i64 (lessF 9 (0)), .fact .i64 (lessF 6 (0))] = true := by kernel_rfl
theorem c969 : go [.int .i64 (9), .fact .i64 (lessF 9 (0)), .fact .i64 (moreF 6 (0))] = true := by kernel_rfl
theorem c970 : go [.int .i64 (9), .fact .i64 (lessF 9 (0)), .int .i64 (0)] = true := by kernel_rfl
theorem c971 : go [.int .i64 (9), .fact .i64 (lessF 9 (0)), .int .i64 (1)] = true := by kernel_rfl
theorem c972 : go [.int .i64 (9), .fact .i64 (lessF 9 (0)), .int .i64 (2)] = true := by kernel_rfl
theorem c973 : go [.int .i64 (9), .fact .i64 (lessF 9 (0)), .int .i64 (3)] = true := by kernel_rfl
theorem c974 : go [.int .i64 (9), .fact .i64 (lessF 9 (0)), .int .i64 (4)] = true := by kernel_rfl
theorem c975 : go [.int .i64 (9), .fact .i64 (lessF 9 (0)), .int .i64 (5)] = true := by kernel_rfl
theorem c976 : go [.int .i64 (9), .fact .i64 (moreF 9 (0)), .fact .i64 (lessF 6 (0))] = true := by kernel_rfl
theorem c977 : go [.int .i64 (9), .fact .i64 (moreF 9 (0)), .fact .i64 (moreF 6 (0))] = true := by kernel_rfl
theorem c978 : go [.int .i64 (9), .fact .i64 (moreF 9 (0)), .int .i64 (0)] = true := by kernel_rfl
theorem c979 : go [.int .i64 (9), .fact .i64 (moreF 9 (0)), .int .i64 (1)] = true := by kernel_rfl
theorem c980 : go [.int .i64 (9), .fact .i64 (moreF 9 (0)), .int .i64 (2)] = true := by kernel_rfl
theorem c981 : go [.int .i64 (9), .fact .i64 (moreF 9 (0)), .int .i64 (3)] = true := by kernel_rfl
theorem c982 : go [.int .i64 (9), .fact .i64 (moreF 9 (0)), .int .i64 (4)] = true := by kernel_rfl
theorem c983 : go [.int .i64 (9), .fact .i64 (moreF 9 (0)), .int .i64 (5)] = true := by kernel_rfl
theorem c984 : go [.int .i64 (9), .int .i64 (0), .fact .i64 (lessF 6 (0))] = true := by kernel_rfl
theorem c985 : go [.int .i64 (9), .int .i64 (0), .fact .i64 (moreF 6 (0))] = true := by kernel_rfl
theorem c986 : go [.int .i64 (9), .int .i64 (0), .int .i64 (0)] = true := by kernel_rfl
theorem c987 : go [.int .i64 (9), .int .i64 (0), .int .i64 (1)] = true := by kernel_rfl
theorem c988 : go [.int .i64 (9), .int .i64 (0), .int .i64 (2)] = true := by kernel_rfl
theorem c989 : go [.int .i64 (9), .int .i64 (0), .int .i64 (3)] = true := by kernel_rfl
theorem c990 : go [.int .i64 (9), .int .i64 (0), .int .i64 (4)] = true := by kernel_rfl
theorem c991 : go [.int .i64 (9), .int .i64 (0), .int .i64 (5)] = true := by kernel_rfl
theorem c992 : go [.int .i64 (9), .int .i64 (1), .fact .i64 (lessF 6 (0))] = true := by kernel_rfl
theorem c993 : go [.int .i64 (9), .int .i64 (1), .fact .i64 (moreF 6 (0))] = true := by kernel_rfl
theorem c994 : go [.int .i64 (9), .int .i64 (1), .int .i64 (0)] = true := by kernel_rfl
theorem c995 : go [.int .i64 (9), .int .i64 (1), .int .i64 (1)] = true := by kernel_rfl
theorem c996 : go [.int .i64 (9), .int .i64 (1), .int .i64 (2)] = true := by kernel_rfl
theorem c997 : go [.int .i64 (9), .int .i64 (1), .int .i64 (3)] = true := by kernel_rfl
theorem c998 : go [.int .i64 (9), .int .i64 (1), .int .i64 (4)] = true := by kernel_rfl
theorem c999 : go [.int .i64 (9), .int .i64 (1), .int .i64 (5)] = true := by kernel_rfl
theorem c1000 : go [.int .i64 (9), .int .i64 (2), .fact .i64 (lessF 6 (0))] = true := by kernel_rfl
theorem c1001 : go [.int .i64 (9), .int .i64 (2), .fact .i64 (moreF 6 (0))] = true := by kernel_rfl
theorem c1002 : go [.int .i64 (9), .int .i64 (2), .int .i64 (0)] = true := by kernel_rfl
theorem c1003 : go [.int .i64 (9), .int .i64 (2), .int .i64 (1)] = true := by kernel_rfl
theorem c1004 : go [.int .i64 (9), .int .i64 (2), .int .i64 (2)] = true := by kernel_rfl
theorem c1005 : go [.int .i64 (9), .int .i64 (2), .int .i64 (3)] = true := by kernel_rfl
theorem c1006 : go [.int .i64 (9), .int .i64 (2), .int .i64 (4)] = true := by kernel_rfl
theorem c1007 : go [.int .i64 (9), .int .i64 (2), .int .i64 (5)] = true := by kernel_rfl
end Go.Proofs.Ytpgcmcdpgobdlaa.schemaLimits
