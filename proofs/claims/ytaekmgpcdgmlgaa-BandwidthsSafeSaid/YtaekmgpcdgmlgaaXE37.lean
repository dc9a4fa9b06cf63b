/- The rules of the walk over plain data, more: a field of a struct that lies in no variable. Plain theorems, no condition. -/
import Derived.Test.YtaekmgpcdgmlgaaXE36
set_option linter.unusedVariables false
set_option linter.unusedSimpArgs false
namespace Go.Proofs.Ytaekmgpcdgmlgaa
open Go.RowKit Go.ChangeShapes
theorem RepCs.sl1 {w:World} {K:Nat → Prop} {c:List Value}:∀ {t:GT} {y:PT t},isSlG t = true → RepCs t w K c y → ∃ u,c = [u] ∧ RepV t w K u y
  | .sl e,y,_,h=>by
    have h0:=h
    obtain ⟨A,n,q,e1,_⟩:=h
    exact ⟨_,e1,c,h0,by rw [e1];rfl⟩
section
variable {dd:List Deferred} {N:Nat} {a:Act} {l:List (Nat × Value)} {w w0:World} {P:Program} {ops:Array Oper} {Q:Exit → Act → World → Prop} {rest:List Oper} {o:Oper} {Kont:Act → World → Prop} {d:Nat} {K:Nat → Prop}
theorem b_end0 (S:St N a l) {fn:Func} {R:Ending → World → Prop} (hr:fn.results = #[]) (hR:∀ v,R (.returned v) w):bodyPost P fn R .normal a w:=b_ret0 (P:=P) S hr hR
end
end Go.Proofs.Ytaekmgpcdgmlgaa
