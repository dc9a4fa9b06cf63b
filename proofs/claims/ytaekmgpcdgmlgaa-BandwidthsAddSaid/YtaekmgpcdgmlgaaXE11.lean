/- The rules of the walk over plain data, more: own slices, element by element; places given up. Plain theorems, no condition. -/
import Derived.Test.YtaekmgpcdgmlgaaXE10
set_option linter.unusedVariables false
set_option linter.unusedSimpArgs false
namespace Go.Proofs.Ytaekmgpcdgmlgaa
open Go.RowKit

section
variable {w0 w w':World} {L:List (Option Nat)} {K:Nat → Prop} {n b:Nat} {t:GT} {v v':Value}
theorem Wd.lessAt (h:Wd w0 w L) (i:Nat):Wd w0 w (L.eraseIdx i):=h.less (List.eraseIdx_sublist _ _)
theorem RepV.lessAt {u:Value} {x:PT t} (h:RepV t w (Kx K n L) u x) (i:Nat):RepV t w (Kx K n (L.eraseIdx i)) u x:=h.less (List.eraseIdx_sublist _ _)
theorem Bx.lessAt {T:TypeId} {x:PT t} (h:Bx t T w (Kx K n L) b x) (i:Nat):Bx t T w (Kx K n (L.eraseIdx i)) b x:=h.less (List.eraseIdx_sublist _ _)
theorem Ow.lessAt {e:GT} {E:TypeId} {xs:List (PT e)} {c:Option Nat} (h:Ow e E w n (Kx K n L) v xs c) (i:Nat):Ow e E w n (Kx K n (L.eraseIdx i)) v xs c:=h.less (List.eraseIdx_sublist _ _)
theorem Wd.drop (h:Wd w0 w L) (i:Nat):Wd w0 w (L.drop i):=h.less (List.drop_sublist _ _)
theorem RepV.drop {u:Value} {x:PT t} (h:RepV t w (Kx K n L) u x) (i:Nat):RepV t w (Kx K n (L.drop i)) u x:=h.less (List.drop_sublist _ _)
theorem Bx.drop {T:TypeId} {x:PT t} (h:Bx t T w (Kx K n L) b x) (i:Nat):Bx t T w (Kx K n (L.drop i)) b x:=h.less (List.drop_sublist _ _)
theorem Ow.drop {e:GT} {E:TypeId} {xs:List (PT e)} {c:Option Nat} (h:Ow e E w n (Kx K n L) v xs c) (i:Nat):Ow e E w n (Kx K n (L.drop i)) v xs c:=h.less (List.drop_sublist _ _)
theorem mem_eraseIdx_ne {α:Type} {l:List α} {i:Nat} {x:α} (h:x ∈ l.eraseIdx i):∃ j,j ≠ i ∧ l[j]? = some x:=by
  obtain ⟨j,hj⟩:=List.getElem?_of_mem h
  rw [List.getElem?_eraseIdx] at hj
  split at hj
  · exact ⟨j,by omega,hj⟩
  · exact ⟨j + 1,by omega,hj⟩
theorem Ow.pubAt {e:GT} {E:TypeId} {xs:List (PT e)} {c:Option Nat} (h:Ow e E w n (Kx K n L) v xs c) (W:Wd w0 w L) (i:Nat) (hi:L[i]? = some v.ownBlock):RepV (.sl e) w (Kx K n (L.eraseIdx i)) v ⟨xs,c⟩:=by
  refine h.pub (List.eraseIdx_sublist _ _) fun k hk hm=>?_
  obtain ⟨j,hji,hj⟩:=mem_eraseIdx_ne hm
  rcases W.neq hji hj hi with e | e
  · cases e
  · exact e hk.symm
theorem Wd.one (W:Wd w0 w L) {p q:Nat} (hpq:p ≠ q) {x:Option Nat} (hp:L[p]? = some x) (hq:L[q]? = some (some b)):x ≠ some b:=by
  rcases W.neq hpq.symm hq hp with e | e
  · cases e
  · exact fun h=>e h.symm
theorem addr_add (b off m:Nat):(⟨b,off,.none⟩:Addr).add m = ⟨b,off + m,.none⟩:=Addr.add_lit b off m
/-- An element of an own slice. -/
theorem Ow.el {e:GT} {E:TypeId} {xs:List (PT e)} {c:Option Nat} (h:Ow e E w n K v xs c) {j:Nat} {y:PT e} (hj:xs[j]? = some y) :
    ∃ g cap,v = .slice (some ⟨g,0,.none⟩) xs.length cap ∧ RepAt e w K ⟨g,j * e.sz,.none⟩ y:=by
  obtain ⟨cs,h1,h2,h3⟩:=h
  rcases h1.2 with ⟨rfl,hcs⟩ | ⟨g,cap,cur,rfl,hb,hg,hnc,hcm,hsz,htake⟩
  · have:xs = []:=List.eq_nil_of_length_eq_zero hcs
    subst this
    simp at hj
  · refine ⟨g,cap,rfl,rfl,?_⟩
    have hjl:=(List.getElem?_eq_some_iff.1 hj).1
    obtain ⟨c1,cc,c2,e1,e2,e3,_⟩:=Ln.arr hjl y w K cs xs h2
    refine ⟨cc,?_,fun i u hu=>?_⟩
    · have:xs.getD j y = y:=by rw [List.getD_eq_getElem?_getD,hj];rfl
      have e3':RepCs e w K cc (xs.getD j y):=e3
      rw [this] at e3'
      exact e3'
    · have hil:=(List.getElem?_eq_some_iff.1 hu).1
      have:=h1.cells (g:=g) rfl (j * e.sz + i) u (by
        rw [e1,List.append_assoc,List.getElem?_append_right (by omega),e2,Nat.add_sub_cancel_left,List.getElem?_append_left hil]
        exact hu)
      rw [Addr.add_lit] at this
      simpa using this
end

/-- What a loop comes to: its state, or the function's result. -/
def lrK {α β γ:Type} (y:α ⊕ β) (g:β → Option γ) (f:α → Option γ):Option γ:=match y with | .inl s=>f s | .inr r=>g r
theorem lr_inl {α β γ:Type} {e:α} {g:β → Option γ} {f:α → Option γ} {r:γ} (h:lrK (.inl e) g f = some r):f e = some r:=h
theorem lr_inr {α β:Type} {e r:β} {f:α → Option β} (h:lrK (.inr e) some f = some r):e = r:=Option.some.inj h
theorem Ow.forget {e:GT} {E:TypeId} {w:World} {n:Nat} {K:Nat → Prop} {v:Value} {xs:List (PT e)} {c:Option Nat} (h:Ow e E w n K v xs c):Ow e E w n K v xs .none:=by
  obtain ⟨cs,h1,h2,h3⟩:=h
  exact ⟨cs,h1,h2,fun q hq=>by cases hq⟩

section
variable {ds:List Deferred} {N:Nat} {a:Act} {l:List (Nat × Value)} {w w0:World} {P:Program} {ops:Array Oper} {Q:Exit → Act → World → Prop} {rest:List Oper} {o:Oper} {Kont:Act → World → Prop} {d:Nat} {K:Nat → Prop} {n:Nat} {L:List (Option Nat)}

end
end Go.Proofs.Ytaekmgpcdgmlgaa
