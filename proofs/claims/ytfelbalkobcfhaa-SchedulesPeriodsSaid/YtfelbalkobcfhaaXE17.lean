/- The rules of the walk over plain data, more: a field that holds a slice of one's own. Plain theorems, no condition. -/
import Derived.Test.YtfelbalkobcfhaaXE15
set_option linter.unusedVariables false
set_option linter.unusedSimpArgs false
namespace Go.Proofs.Ytfelbalkobcfhaa
open Go.RowKit
@[reducible] def e_o:GT → Nat → GT
  | .pair _ b,0=>.pair .raw b
  | .pair a b,k + 1=>.pair a (e_o b k)
  | .int _,_=>.raw
  | .bool,_=>.raw
  | .str,_=>.raw
  | .sl _,_=>.raw
  | .st _,_=>.raw
  | .arr _ _,_=>.raw
  | .raw,_=>.raw
@[reducible] def d_o:(t:GT) → (k:Nat) → Value → PT t → PT (e_o t k)
  | .pair _ _,0,v,x=>(v,x.2)
  | .pair _ b,k + 1,v,x=>(x.1,d_o b k v x.2)
  | .int _,_,v,_=>v
  | .bool,_,v,_=>v
  | .str,_,v,_=>v
  | .sl _,_,v,_=>v
  | .st _,_,v,_=>v
  | .arr _ _,_,v,_=>v
  | .raw,_,v,_=>v
@[reducible] def isSlG:GT → Bool
  | .sl _=>true
  | _=>false
theorem RepCs.toRaw {w:World} {K:Nat → Prop}:∀ {t:GT} (k:Nat) {cs:List Value} {x:PT t},isSlG (comp t k) = true → RepCs t w K cs x → ∃ v,RepCs (e_o t k) w K cs (d_o t k v x)
  | .pair (.sl e) b,0,cs,x,_,⟨c1,c2,h,h1,h2⟩=>by
    obtain ⟨A,n,c,rfl,_⟩:=h1
    exact ⟨.slice A n c,[_],c2,h,⟨rfl,A,n,c,rfl⟩,h2⟩
  | .pair a b,k + 1,cs,x,hs,⟨c1,c2,h,h1,h2⟩=>by
    obtain ⟨v,hv⟩:=RepCs.toRaw (t:=b) k hs h2
    exact ⟨v,c1,c2,h,h1,hv⟩
  | .sl e,k,cs,x,_,⟨A,n,c,h,_⟩=>⟨.slice A n c,h,A,n,c,rfl⟩
  | .pair (.int _) _,0,_,_,hs,_=>by cases hs
  | .pair .bool _,0,_,_,hs,_=>by cases hs
  | .pair .str _,0,_,_,hs,_=>by cases hs
  | .pair (.st _) _,0,_,_,hs,_=>by cases hs
  | .pair (.pair _ _) _,0,_,_,hs,_=>by cases hs
  | .pair (.arr _ _) _,0,_,_,hs,_=>by cases hs
  | .pair .raw _,0,_,_,hs,_=>by cases hs
  | .int _,_,_,_,hs,_=>by cases hs
  | .bool,_,_,_,hs,_=>by cases hs
  | .str,_,_,_,hs,_=>by cases hs
  | .st _,_,_,_,hs,_=>by cases hs
  | .arr _ _,_,_,_,hs,_=>by cases hs
  | .raw,_,_,_,hs,_=>by cases hs
theorem RepCs.unraw {w:World} {K:Nat → Prop} {v:Value}:∀ {t:GT} (k:Nat) {cs:List Value} (x:PT t),isSlG (comp t k) = true → RepCs (e_o t k) w K cs (d_o t k v x) → RepV (comp t k) w K v (proj t k x) → RepCs t w K cs x
  | .pair (.sl e) b,0,cs,x,_,⟨c1,c2,h,h1,h2⟩,hv=>by
    obtain ⟨rfl,_⟩:=h1
    obtain ⟨cs,⟨A,n,c,rfl,h3⟩,rfl⟩:=hv
    exact ⟨[_],c2,h,⟨A,n,c,rfl,h3⟩,h2⟩
  | .pair a b,k + 1,cs,x,hs,⟨c1,c2,h,h1,h2⟩,hv=>⟨c1,c2,h,h1,RepCs.unraw (t:=b) k x.2 hs h2 hv⟩
  | .sl e,k,cs,x,_,h,hv=>by
    obtain ⟨rfl,_⟩:=h
    obtain ⟨cs,⟨A,n,c,rfl,h3⟩,rfl⟩:=hv
    exact ⟨A,n,c,rfl,h3⟩
  | .pair (.int _) _,0,_,_,hs,_,_=>by cases hs
  | .pair .bool _,0,_,_,hs,_,_=>by cases hs
  | .pair .str _,0,_,_,hs,_,_=>by cases hs
  | .pair (.st _) _,0,_,_,hs,_,_=>by cases hs
  | .pair (.pair _ _) _,0,_,_,hs,_,_=>by cases hs
  | .pair (.arr _ _) _,0,_,_,hs,_,_=>by cases hs
  | .pair .raw _,0,_,_,hs,_,_=>by cases hs
  | .int _,_,_,_,hs,_,_=>by cases hs
  | .bool,_,_,_,hs,_,_=>by cases hs
  | .str,_,_,_,hs,_,_=>by cases hs
  | .st _,_,_,_,hs,_,_=>by cases hs
  | .arr _ _,_,_,_,hs,_,_=>by cases hs
  | .raw,_,_,_,hs,_,_=>by cases hs
section
variable {w:World} {K:Nat → Prop} {b n:Nat} {f:GT} {T:TypeId} {L:List (Option Nat)}
theorem Bx.toRaw (k:Nat) {x:PT f} (hs:isSlG (comp f k) = true) (h:Bx (.st f) T w K b x):∃ v,Bx (.st (e_o f k)) T w K b (d_o f k v x):=by
  obtain ⟨cs,h1,h2⟩:=h
  obtain ⟨v,hv⟩:=RepCs.toRaw (t:=f) k hs h2
  exact ⟨v,cs,h1,hv⟩
theorem Bx.unraw (k:Nat) {v:Value} (x:PT f) (hs:isSlG (comp f k) = true) (h:Bx (.st (e_o f k)) T w K b (d_o f k v x)) (hv:RepV (comp f k) w K v (proj f k x)):Bx (.st f) T w K b x:=by
  obtain ⟨cs,h1,h2⟩:=h
  exact ⟨cs,h1,RepCs.unraw (t:=f) k x hs h2 hv⟩
theorem RepV.rawEq {v x:Value} (h:RepV .raw w K v x):v = x:=by
  obtain ⟨cs,⟨rfl,_⟩,rfl⟩:=h
  rfl
theorem Ow.raw {e:GT} {E:TypeId} {xs:List (PT e)} {c:Option Nat} {v:Value} (h:Ow e E w n K v xs c):∀ {K':Nat → Prop},RepV .raw w K' v v:=by
  obtain ⟨cs,h1,h2,h3⟩:=h
  rcases h1.2 with ⟨rfl,hcs⟩ | ⟨g,cap,cur,rfl,hb⟩
  · exact ⟨[_],⟨rfl,_,_,_,rfl⟩,rfl⟩
  · exact ⟨[_],⟨rfl,_,_,_,rfl⟩,rfl⟩
end
end Go.Proofs.Ytfelbalkobcfhaa
