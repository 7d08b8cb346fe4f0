/- Cases of SchemaLimits. -/
import Derived.Test.YtpgcmcdpgobdlaaSchemaLimitsGo
namespace Go.Proofs.Ytpgcmcdpgobdlaa.schemaLimits
open Go.Den
theorem c144 : go [.fact .i64 (moreF 11 (0)), .int .i64 (5), .fact .i64 (lessF 6 (0))] = true := by kernel_rfl
theorem c145 : go [.fact .i64 (moreF 11 (0)), .int .i64 (5), .fact .i64 (moreF 6 (0))] = true := by kernel_rfl
theorem c146 : go [.fact .i64 (moreF 11 (0)), .int .i64 (5), .int .i64 (0)] = true := by kernel_rfl
theorem c147 : go [.fact .i64 (moreF 11 (0)), .int .i64 (5), .int .i64 (1)] = true := by kernel_rfl
theorem c148 : go [.fact .i64 (moreF 11 (0)), .int .i64 (5), .int .i64 (2)] = true := by kernel_rfl
theorem c149 : go [.fact .i64 (moreF 11 (0)), .int .i64 (5), .int .i64 (3)] = true := by kernel_rfl
theorem c150 : go [.fact .i64 (moreF 11 (0)), .int .i64 (5), .int .i64 (4)] = true := by kernel_rfl
theorem c151 : go [.fact .i64 (moreF 11 (0)), .int .i64 (5), .int .i64 (5)] = true := by kernel_rfl
theorem c152 : go [.fact .i64 (moreF 11 (0)), .int .i64 (6), .fact .i64 (lessF 6 (0))] = true := by kernel_rfl
theorem c153 : go [.fact .i64 (moreF 11 (0)), .int .i64 (6), .fact .i64 (moreF 6 (0))] = true := by kernel_rfl
theorem c154 : go [.fact .i64 (moreF 11 (0)), .int .i64 (6), .int .i64 (0)] = true := by kernel_rfl
theorem c155 : go [.fact .i64 (moreF 11 (0)), .int .i64 (6), .int .i64 (1)] = true := by kernel_rfl
theorem c156 : go [.fact .i64 (moreF 11 (0)), .int .i64 (6), .int .i64 (2)] = true := by kernel_rfl
theorem c157 : go [.fact .i64 (moreF 11 (0)), .int .i64 (6), .int .i64 (3)] = true := by kernel_rfl
theorem c158 : go [.fact .i64 (moreF 11 (0)), .int .i64 (6), .int .i64 (4)] = true := by kernel_rfl
theorem c159 : go [.fact .i64 (moreF 11 (0)), .int .i64 (6), .int .i64 (5)] = true := by kernel_rfl
theorem c160 : go [.fact .i64 (moreF 11 (0)), .int .i64 (7), .fact .i64 (lessF 6 (0))] = true := by kernel_rfl
theorem c161 : go [.fact .i64 (moreF 11 (0)), .int .i64 (7), .fact .i64 (moreF 6 (0))] = true := by kernel_rfl
theorem c162 : go [.fact .i64 (moreF 11 (0)), .int .i64 (7), .int .i64 (0)] = true := by kernel_rfl
theorem c163 : go [.fact .i64 (moreF 11 (0)), .int .i64 (7), .int .i64 (1)] = true := by kernel_rfl
theorem c164 : go [.fact .i64 (moreF 11 (0)), .int .i64 (7), .int .i64 (2)] = true := by kernel_rfl
theorem c165 : go [.fact .i64 (moreF 11 (0)), .int .i64 (7), .int .i64 (3)] = true := by kernel_rfl
theorem c166 : go [.fact .i64 (moreF 11 (0)), .int .i64 (7), .int .i64 (4)] = true := by kernel_rfl
theorem c167 : go [.fact .i64 (moreF 11 (0)), .int .i64 (7), .int .i64 (5)] = true := by kernel_rfl
theorem c168 : go [.fact .i64 (moreF 11 (0)), .int .i64 (8), .fact .i64 (lessF 6 (0))] = true := by kernel_rfl
theorem c169 : go [.fact .i64 (moreF 11 (0)), .int .i64 (8), .fact .i64 (moreF 6 (0))] = true := by kernel_rfl
theorem c170 : go [.fact .i64 (moreF 11 (0)), .int .i64 (8), .int .i64 (0)] = true := by kernel_rfl
theorem c171 : go [.fact .i64 (moreF 11 (0)), .int .i64 (8), .int .i64 (1)] = true := by kernel_rfl
theorem c172 : go [.fact .i64 (moreF 11 (0)), .int .i64 (8), .int .i64 (2)] = true := by kernel_rfl
theorem c173 : go [.fact .i64 (moreF 11 (0)), .int .i64 (8), .int .i64 (3)] = true := by kernel_rfl
theorem c174 : go [.fact .i64 (moreF 11 (0)), .int .i64 (8), .int .i64 (4)] = true := by kernel_rfl
theorem c175 : go [.fact .i64 (moreF 11 (0)), .int .i64 (8), .int .i64 (5)] = true := by kernel_rfl
theorem c176 : go [.int .i64 (0), .fact .i64 (lessF 9 (0)), .fact .i64 (lessF 6 (0))] = true := by kernel_rfl
theorem c177 : go [.int .i64 (0), .fact .i64 (lessF 9 (0)), .fact .i64 (moreF 6 (0))] = true := by kernel_rfl
theorem c178 : go [.int .i64 (0), .fact .i64 (lessF 9 (0)), .int .i64 (0)] = true := by kernel_rfl
theorem c179 : go [.int .i64 (0), .fact .i64 (lessF 9 (0)), .int .i64 (1)] = true := by kernel_rfl
theorem c180 : go [.int .i64 (0), .fact .i64 (lessF 9 (0)), .int .i64 (2)] = true := by kernel_rfl
theorem c181 : go [.int .i64 (0), .fact .i64 (lessF 9 (0)), .int .i64 (3)] = true := by kernel_rfl
theorem c182 : go [.int .i64 (0), .fact .i64 (lessF 9 (0)), .int .i64 (4)] = true := by kernel_rfl
theorem c183 : go [.int .i64 (0), .fact .i64 (lessF 9 (0)), .int .i64 (5)] = true := by kernel_rfl
theorem c184 : go [.int .i64 (0), .fact .i64 (moreF 9 (0)), .fact .i64 (lessF 6 (0))] = true := by kernel_rfl
theorem c185 : go [.int .i64 (0), .fact .i64 (moreF 9 (0)), .fact .i64 (moreF 6 (0))] = true := by kernel_rfl
theorem c186 : go [.int .i64 (0), .fact .i64 (moreF 9 (0)), .int .i64 (0)] = true := by kernel_rfl
theorem c187 : go [.int .i64 (0), .fact .i64 (moreF 9 (0)), .int .i64 (1)] = true := by kernel_rfl
theorem c188 : go [.int .i64 (0), .fact .i64 (moreF 9 (0)), .int .i64 (2)] = true := by kernel_rfl
theorem c189 : go [.int .i64 (0), .fact .i64 (moreF 9 (0)), .int .i64 (3)] = true := by kernel_rfl
theorem c190 : go [.int .i64 (0), .fact .i64 (moreF 9 (0)), .int .i64 (4)] = true := by kernel_rfl
theorem c191 : go [.int .i64 (0), .fact .i64 (moreF 9 (0)), .int .i64 (5)] = true := by kernel_rfl
end Go.Proofs.Ytpgcmcdpgobdlaa.schemaLimits
