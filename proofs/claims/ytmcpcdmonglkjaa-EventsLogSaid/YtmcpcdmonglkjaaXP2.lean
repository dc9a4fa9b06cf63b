/- What the plain words compute on small numbers, as rules that are used with conditions of sizes. Plain theorems, no condition. -/
import Derived.Test.YtmcpcdmonglkjaaXP1
set_option linter.unusedVariables false
set_option linter.unusedSimpArgs false
namespace Go.Proofs.Ytmcpcdmonglkjaa
open Go.RowKit

theorem ckS {z:Int} (h1:-9223372036854775808 ≤ z) (h2:z ≤ 9223372036854775807):ckI .i64 z = some z:=ck_i64 ⟨h1,h2⟩
end Go.Proofs.Ytmcpcdmonglkjaa
