/- The rules of the walk over plain data, more: elements of arrays that lie in places; min and max. Plain theorems, no condition. -/
import Derived.Test.YtflieonbbggmhaaXE12
set_option linter.unusedVariables false
set_option linter.unusedSimpArgs false
namespace Go.Proofs.Ytflieonbbggmhaa
open Go.RowKit

section
variable {ds : List Deferred} {N : Nat} {a : Act} {l : List (Nat × Value)} {w w0 : World} {P : Program} {ops : Array Oper} {Q : Exit → Act → World → Prop} {rest : List Oper} {o : Oper} {Kont : Act → World → Prop} {d : Nat} {K : Nat → Prop} {n : Nat} {L : List (Option Nat)}
end

section
variable {ds : List Deferred} {N : Nat} {a : Act} {l : List (Nat × Value)} {w w0 : World} {P : Program} {ops : Array Oper} {Q : Exit → Act → World → Prop} {rest : List Oper} {o : Oper} {Kont : Act → World → Prop} {d : Nat}
end
/-! ### Elements of own slices, in a region that draws its order -/
def isEo (g : GT) (K : Nat → Prop) (x : PT g) : Value → World → Prop := fun v w => ∃ p : Addr, v = .pointer (some p) ∧ RepAt g w K p x ∧ p.block < w.heap.size
theorem stab_eo {g : GT} {K : Nat → Prop} {x : PT g} : StabR Bl (isEo g K x) := fun _ w w' hb ⟨p, e, h, hp⟩ =>
  ⟨p, e, h.keep (Keeps.below hb) (fun _ _ h => h) (fun i _ => Below.cell hb hp), by have := Below.size hb; omega⟩
theorem Wd.ownlt {w0 w : World} {L : List (Option Nat)} (h : Wd w0 w L) {o : Option Nat} {g : Nat} (ho : o ∈ L) (e : o = some g) : g < w.heap.size := (h.own g (e ▸ ho)).2
end Go.Proofs.Ytflieonbbggmhaa
