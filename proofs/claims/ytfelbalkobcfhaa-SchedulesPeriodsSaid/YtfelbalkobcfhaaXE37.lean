/- The rules of the walk over plain data, more: a field of a struct that lies in no variable. Plain theorems, no condition. -/
import Derived.Test.YtfelbalkobcfhaaXE36
set_option linter.unusedVariables false
set_option linter.unusedSimpArgs false
namespace Go.Proofs.Ytfelbalkobcfhaa
open Go.RowKit Go.ChangeShapes
section
variable {dd:List Deferred} {N:Nat} {a:Act} {l:List (Nat × Value)} {w w0:World} {P:Program} {ops:Array Oper} {Q:Exit → Act → World → Prop} {rest:List Oper} {o:Oper} {Kont:Act → World → Prop} {d:Nat} {K:Nat → Prop}
theorem c_6 (S:St N a l) {fn:Func} {R:Ending → World → Prop} (hr:fn.results = #[]) (hR:∀ v,R (.returned v) w):bodyPost P fn R .normal a w:=b_3 (P:=P) S hr hR
end
end Go.Proofs.Ytfelbalkobcfhaa
