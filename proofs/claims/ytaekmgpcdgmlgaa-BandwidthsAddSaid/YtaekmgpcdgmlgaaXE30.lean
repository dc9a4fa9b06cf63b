/- The rules of the walk over plain data, more: functions that write to what they are handed. Plain theorems, no condition. -/
import Derived.Test.YtaekmgpcdgmlgaaXE29
set_option linter.unusedVariables false
set_option linter.unusedSimpArgs false
namespace Go.Proofs.Ytaekmgpcdgmlgaa
open Go.RowKit

section
variable {w0 w A:World} {I:List Nat} {L L2 LO:List (Option Nat)} {s b:Nat} {F:GW → Prop} {g g':GW}
end

theorem Br.free {t:GT} {w:World} {K:Nat → Prop} {n:Nat} {L:List (Option Nat)} {p:Addr} {x:PT t} (h:Br t w (Kx K n L) p x):Br t w (Kx K n []) p x :=
  ⟨h.1.keep (Keeps.refl _ _) (fun c _ hk=>⟨hk.1,fun h=>(List.not_mem_nil h).elim⟩) (fun i _=>rfl),h.2⟩

/-! ### The end of one's own slice is cleared -/
section
variable {ds:List Deferred} {N:Nat} {a:Act} {l:List (Nat × Value)} {w w0:World} {P:Program} {ops:Array Oper} {Q:Exit → Act → World → Prop} {rest:List Oper} {o:Oper} {Kont:Act → World → Prop} {d:Nat} {K:Nat → Prop} {n:Nat} {L:List (Option Nat)}
end
end Go.Proofs.Ytaekmgpcdgmlgaa
