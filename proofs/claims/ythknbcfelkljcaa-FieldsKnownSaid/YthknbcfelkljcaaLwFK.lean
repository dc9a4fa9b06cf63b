/- FieldsKnown in plain words: a closed computation. Plain theorem, no condition. -/
import Derived.Test.YthknbcfelkljcaaPk1
set_option linter.unusedVariables false
set_option linter.unusedSimpArgs false
namespace Go.Proofs.Ythknbcfelkljcaa
open Go.RowKit
theorem p6_law:p6 300 = some true:=by kernel_rfl
end Go.Proofs.Ythknbcfelkljcaa
