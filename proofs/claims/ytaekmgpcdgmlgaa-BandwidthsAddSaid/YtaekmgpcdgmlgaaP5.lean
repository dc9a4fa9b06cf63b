/- Functions of the program, as plain data. -/
import Derived.Test.YtaekmgpcdgmlgaaP4
set_option linter.unusedVariables false
set_option linter.unusedSimpArgs false
namespace Go.Proofs.Ytaekmgpcdgmlgaa
open Go.RowKit
set_option maxHeartbeats 4000000
set_option maxRecDepth 100000

end Go.Proofs.Ytaekmgpcdgmlgaa
