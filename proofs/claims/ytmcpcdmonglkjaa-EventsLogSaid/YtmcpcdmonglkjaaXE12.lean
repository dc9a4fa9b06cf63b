/- The rules of the walk over plain data, more: structs that are compared; a pointer to an array. Plain theorems, no condition. -/
import Derived.Test.YtmcpcdmonglkjaaXE11
import Derived.ChangeKeysEq
set_option linter.unusedVariables false
set_option linter.unusedSimpArgs false
namespace Go.Proofs.Ytmcpcdmonglkjaa
open Go.RowKit

section
variable {P:Program}
end

section
variable {ds:List Deferred} {N:Nat} {a:Act} {l:List (Nat × Value)} {w w0:World} {P:Program} {ops:Array Oper} {Q:Exit → Act → World → Prop} {rest:List Oper} {o:Oper} {Kont:Act → World → Prop} {d:Nat} {K:Nat → Prop} {n:Nat} {L:List (Option Nat)}
end

/-! ### Operations under a guard, in a region that draws its order -/
def cndF (b w:Bool) (f:Value → World → Prop):Value → World → Prop:=fun v W=>(b = w → f v W) ∧ (¬ b = w → v = undef)
theorem stab_cnd {R:World → World → Prop} {b w:Bool} {f:Value → World → Prop} (h:StabR R f):StabR R (cndF b w f):=fun v _ _ hb hf=>⟨fun e=>h v _ _ hb (hf.1 e),hf.2⟩
theorem cndF.pos {b w:Bool} {f:Value → World → Prop} {v:Value} {W:World} (h:cndF b w f v W) (hc:b = w):f v W:=h.1 hc
theorem cndF.neg {b w:Bool} {f:Value → World → Prop} {v:Value} {W:World} (h:cndF b w f v W) (hc:¬ b = w):v = undef:=h.2 hc
theorem fill_nil {ds:List Deferred} {N:Nat} {A:Act} {l:List (Nat × Value)} {W:World} {R:Act → Prop} (S:StD ds N A l) (h:∀ a',StD ds N a' l → R a'):FillE W [] A R:=h A S
instance {α:Type}:Inhabited (Sl α):=⟨⟨[],.none⟩⟩
end Go.Proofs.Ytmcpcdmonglkjaa
