/- The rules of the walk over plain data, more: a field that holds a slice of one's own. Plain theorems, no condition. -/
import Derived.Test.YtaekmgpcdgmlgaaXE15
set_option linter.unusedVariables false
set_option linter.unusedSimpArgs false
namespace Go.Proofs.Ytaekmgpcdgmlgaa
open Go.RowKit

section
variable {w:World} {K:Nat → Prop} {b n:Nat} {f:GT} {T:TypeId} {L:List (Option Nat)}
theorem RepV.rawEq {v x:Value} (h:RepV .raw w K v x):v = x:=by
  obtain ⟨cs,⟨rfl,_⟩,rfl⟩:=h
  rfl
theorem Ow.raw {e:GT} {E:TypeId} {xs:List (PT e)} {c:Option Nat} {v:Value} (h:Ow e E w n K v xs c):∀ {K':Nat → Prop},RepV .raw w K' v v:=by
  obtain ⟨cs,h1,h2,h3⟩:=h
  rcases h1.2 with ⟨rfl,hcs⟩ | ⟨g,cap,cur,rfl,hb⟩
  · exact ⟨[_],⟨rfl,_,_,_,rfl⟩,rfl⟩
  · exact ⟨[_],⟨rfl,_,_,_,rfl⟩,rfl⟩
end
end Go.Proofs.Ytaekmgpcdgmlgaa
