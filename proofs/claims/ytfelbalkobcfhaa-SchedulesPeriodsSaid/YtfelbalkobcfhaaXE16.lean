/- What plain data that represent a value satisfy. Plain theorems, no condition. -/
import Derived.Test.YtfelbalkobcfhaaXE12
set_option linter.unusedVariables false
set_option linter.unusedSimpArgs false
namespace Go.Proofs.Ytfelbalkobcfhaa
open Go.RowKit
def Fine:(t:GT) → PT t → Prop
  | .int k,x=>InR k x
  | .bool,_=>True
  | .str,x=>Byt x ∧ x.length ≤ 9223372036854775807
  | .sl e,x=>x.xs.length ≤ 9223372036854775807 ∧ (∀ k,x.cap = some k → x.xs.length ≤ k ∧ k ≤ 9223372036854775807) ∧ ∀ y ∈ x.xs,Fine e y
  | .st f,x=>Fine f x
  | .pair a b,x=>Fine a x.1 ∧ Fine b x.2
  | .arr n e,x=>x.length = n ∧ ∀ y ∈ x,Fine e y
  | .raw,_=>True
theorem RepCs.fine {w:World} {K:Nat → Prop}:∀ {t:GT} {cs} {x:PT t},RepCs t w K cs x → Fine t x
  | .int _,_,_,h=>h.2
  | .bool,_,_,h=>trivial
  | .str,_,_,h=>h.2
  | .sl e,_,x,⟨A,n,c,h0,h1,h2,h3,h4,h5⟩=>⟨by omega,fun k hk=>by have:=h4 k hk;omega,fun y hy=>by
      rcases h5 with h6 | ⟨b,off,_,_,_,h6⟩
      · rw [h6] at hy;cases hy
      · obtain ⟨j,hj⟩:=List.getElem?_of_mem hy
        obtain ⟨cs,h7,_⟩:=h6 j y hj
        exact RepCs.fine (t:=e) h7⟩
  | .st f,_,_,h=>RepCs.fine (t:=f) h
  | .pair a b,_,_,⟨c1,c2,h,h1,h2⟩=>⟨RepCs.fine (t:=a) h1,RepCs.fine (t:=b) h2⟩
  | .arr n e,_,x,⟨hx,css,h,hl,hr⟩=>⟨hx,fun y hy=>by
      obtain ⟨j,hj⟩:=List.getElem?_of_mem hy
      have hlt:j < x.length:=(List.getElem?_eq_some_iff.1 hj).1
      exact RepCs.fine (t:=e) (hr j _ y (List.getElem?_eq_getElem (by omega)) hj)⟩
  | .raw,_,_,h=>trivial
theorem RepV.fine {w:World} {K:Nat → Prop} {t:GT} {v:Value} {x:PT t} (h:RepV t w K v x):Fine t x:=by
  obtain ⟨cs,h1,_⟩:=h
  exact h1.fine
end Go.Proofs.Ytfelbalkobcfhaa
