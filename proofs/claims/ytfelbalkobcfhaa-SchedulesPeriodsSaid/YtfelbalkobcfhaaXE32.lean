/- The rules of the walk over plain data, more: an own slice whose capacity is cut to its length. Plain theorems, no condition. -/
import Derived.Test.YtfelbalkobcfhaaXE31
set_option linter.unusedVariables false
set_option linter.unusedSimpArgs false
namespace Go.Proofs.Ytfelbalkobcfhaa
open Go.RowKit
section
variable {w w':World} {n:Nat} {K:Nat → Prop} {L:List (Option Nat)} {e:GT} {E:TypeId} {v:Value} {xs:List (PT e)} {c:Option Nat}
end
section
variable {ds:List Deferred} {N:Nat} {a:Act} {l:List (Nat × Value)} {w w0:World} {P:Program} {ops:Array Oper} {Q:Exit → Act → World → Prop} {rest:List Oper} {o:Oper} {Kont:Act → World → Prop} {d:Nat} {K:Nat → Prop} {n:Nat} {L:List (Option Nat)}
end
end Go.Proofs.Ytfelbalkobcfhaa
