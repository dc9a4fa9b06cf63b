/- The rules of the walk over plain data, more: elements of arrays that lie in places; min and max. Plain theorems, no condition. -/
import Derived.Test.YtmcpcdmonglkjaaXE12
set_option linter.unusedVariables false
set_option linter.unusedSimpArgs false
namespace Go.Proofs.Ytmcpcdmonglkjaa
open Go.RowKit

section
variable {ds:List Deferred} {N:Nat} {a:Act} {l:List (Nat × Value)} {w w0:World} {P:Program} {ops:Array Oper} {Q:Exit → Act → World → Prop} {rest:List Oper} {o:Oper} {Kont:Act → World → Prop} {d:Nat} {K:Nat → Prop} {n:Nat} {L:List (Option Nat)}
theorem RepAt.ix {m:Nat} {e:GT} {p:Addr} {x:List (PT e)} (h:RepAt (.arr m e) w K p x) {j:Int} {y:PT e} (hj:idx x j = some y):RepAt e w K (p.add (j.toNat * e.sz)) y:=by
  obtain ⟨h0,hg,hlt⟩:=idx_some hj
  obtain ⟨b,off,spot⟩:=p
  obtain ⟨hs,cs,hr,hc⟩:=h
  obtain rfl:spot = none:=hs
  have hjl:j.toNat < x.length:=by omega
  have hm:j.toNat < m:=by have:=hr.1;omega
  obtain ⟨c1,c,c2,rfl,hl1,hrep,_⟩:=Ln.arr (n:=m) hm y w K cs x hr
  rw [Addr.add_lit]
  refine ⟨rfl,c,?_,fun i v hv=>?_⟩
  · have:x.getD j.toNat y = y:=by simp [List.getD,hg]
    have hrep':RepCs e w K c (x.getD j.toNat y):=hrep
    rw [this] at hrep'
    exact hrep'
  · have hi:=(List.getElem?_eq_some_iff.1 hv).1
    have:=hc (c1.length + i) v (by rw [List.append_assoc,List.getElem?_append_right (by omega),List.getElem?_append_left (by omega)];simpa using hv)
    rw [hl1,← Nat.add_assoc] at this
    exact this
end

section
variable {ds:List Deferred} {N:Nat} {a:Act} {l:List (Nat × Value)} {w w0:World} {P:Program} {ops:Array Oper} {Q:Exit → Act → World → Prop} {rest:List Oper} {o:Oper} {Kont:Act → World → Prop} {d:Nat}
end
/-! ### Elements of own slices, in a region that draws its order -/
end Go.Proofs.Ytmcpcdmonglkjaa
