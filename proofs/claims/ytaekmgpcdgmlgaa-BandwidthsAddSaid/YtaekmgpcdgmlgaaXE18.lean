/- The rules of the walk over plain data, more: results of one's own, append of so many zeros, cuts of one's own slice. Plain theorems, no condition. -/
import Derived.Test.YtaekmgpcdgmlgaaXE17
import Derived.Lib.AppendZerosOnto
set_option linter.unusedVariables false
set_option linter.unusedSimpArgs false
namespace Go.Proofs.Ytaekmgpcdgmlgaa
open Go.RowKit

/-- A step that leaves old memory alone, and whose result owns block o, which is new. -/
structure NewO (w w':World) (o:Option Nat):Prop where
  below:Below w.heap.size w w'
  ge:∀ b,o = some b → w.heap.size ≤ b
  lt:∀ b,o = some b → b < w'.heap.size
section
variable {w0 w w':World} {L:List (Option Nat)} {K:Nat → Prop} {n b:Nat} {t:GT} {o:Option Nat}
theorem Kx.newO {c:Nat} (hN:NewO w w' o) (hc:c < w.heap.size) (hk:Kx K n L c):Kx K n (o :: L) c:=⟨hk.1,fun hm=>by
  rcases List.mem_cons.1 hm with e | hm
  · have:=hN.ge c e.symm;omega
  · exact hk.2 hm⟩
theorem RepV.newO {u:Value} {x:PT t} (h:RepV t w (Kx K n L) u x) (hN:NewO w w' o):RepV t w' (Kx K n (o :: L)) u x:=h.keep (Keeps.below hN.below) fun c hc hk=>Kx.newO hN hc hk
theorem Bx.newO {T:TypeId} {x:PT t} (h:Bx t T w (Kx K n L) b x) (hN:NewO w w' o):Bx t T w' (Kx K n (o :: L)) b x:=by
  have hl:=h.lt
  obtain ⟨cs,h1,h2⟩:=h
  exact ⟨cs,(hN.below.block b hl).trans h1,h2.keep (Keeps.below hN.below) fun d hc hk=>Kx.newO hN hc hk⟩
theorem Ow.newO {e:GT} {E:TypeId} {v:Value} {xs:List (PT e)} {c:Option Nat} (h:Ow e E w n (Kx K n L) v xs c) (hN:NewO w w' o):Ow e E w' n (Kx K n (o :: L)) v xs c:=by
  obtain ⟨cs,h1,h2,h3⟩:=h
  exact ⟨cs,h1.kept (row:=.none) ⟨hN.below.os,hN.below.tape,hN.below.output,hN.below.size,fun k hk _=>hN.below.block k hk⟩ (by cases hv:v.ownBlock <;> simp),h2.keep (Keeps.below hN.below) fun d hc hk=>Kx.newO hN hc hk,h3⟩
theorem Wd.newO (h:Wd w0 w L) (hN:NewO w w' o):Wd w0 w' (o :: L):=by
  have hs:=hN.below.size
  refine ⟨h.below.trans (hN.below.mono h.below.size),fun c hm=>?_,List.pairwise_cons.2 ⟨fun x hx=>?_,h.dis⟩⟩
  · rcases List.mem_cons.1 hm with e | hm
    · have:=hN.ge c e.symm;have:=hN.lt c e.symm;have:=h.below.size;exact ⟨by omega,by omega⟩
    · have:=h.own c hm;exact ⟨this.1,by omega⟩
  · cases ho:o with
    | none=>exact .inl rfl
    | some b =>
      refine .inr fun e=>?_
      have:=(h.own b (e ▸ hx)).2
      have:=hN.ge b ho
      omega
theorem newO_of {e:GT} {E:TypeId} {v:Value} {xs:List (PT e)} {c:Option Nat} {m:Nat} {K':Nat → Prop} (h:Ow e E w' m K' v xs c) (hm:w.heap.size ≤ m) (hb:Below w.heap.size w w'):NewO w w' v.ownBlock:=by
  obtain ⟨cs,h1,_⟩:=h
  exact ⟨hb,fun b hv=>Nat.le_trans hm (h1.lt b hv).1,fun b hv=>(h1.lt b hv).2⟩
/-- A result, at the place where it was called. -/
theorem Kx.backO {c:Nat} (hW:Wd w0 w L) (hk:Kx (Kx K w0.heap.size L) w.heap.size [o] c):Kx K w0.heap.size (o :: L) c:=by
  obtain ⟨h1,h2⟩:=hk
  have h2':some c ≠ o:=fun e=>h2 (by rw [e];exact List.mem_cons_self ..)
  rcases h1 with h1 | h1
  · exact ⟨h1.1,fun hm=>by
      rcases List.mem_cons.1 hm with e | hm
      · exact h2' e
      · exact h1.2 hm⟩
  · refine ⟨.inr (by have:=hW.below.size;omega),fun hm=>?_⟩
    rcases List.mem_cons.1 hm with e | hm
    · exact h2' e
    · have:=(hW.own c hm).2;omega
theorem RepV.backO {u:Value} {x:PT t} (h:RepV t w' (Kx (Kx K w0.heap.size L) w.heap.size [o]) u x) (hW:Wd w0 w L):RepV t w' (Kx K w0.heap.size (o :: L)) u x:=h.keep (Keeps.refl _ _) fun c _ hk=>Kx.backO hW hk
theorem Ow.backO {e:GT} {E:TypeId} {v:Value} {xs:List (PT e)} {c:Option Nat} (h:Ow e E w' w.heap.size (Kx (Kx K w0.heap.size L) w.heap.size [o]) v xs c) (hW:Wd w0 w L):Ow e E w' w0.heap.size (Kx K w0.heap.size (o :: L)) v xs c:=by
  obtain ⟨cs,h1,h2,h3⟩:=h
  refine ⟨cs,⟨h1.1,?_⟩,h2.keep (Keeps.refl _ _) fun c _ hk=>Kx.backO hW hk,h3⟩
  rcases h1.2 with h4 | ⟨g,cap,cur,e1,e2,e3⟩
  · exact .inl h4
  · exact .inr ⟨g,cap,cur,e1,by have:=hW.below.size;omega,e3⟩
theorem RepV.lessO {u:Value} {x:PT t} (h:RepV t w (Kx K n L) u x) (i:Nat) (hi:L[i]? = some o):RepV t w (Kx K n [o]) u x:=h.less (List.singleton_sublist.2 (List.mem_of_getElem? hi))
theorem Ow.lessO {e:GT} {E:TypeId} {v:Value} {xs:List (PT e)} {c:Option Nat} (h:Ow e E w n (Kx K n L) v xs c) (i:Nat) (hi:L[i]? = some o):Ow e E w n (Kx K n [o]) v xs c:=h.less (List.singleton_sublist.2 (List.mem_of_getElem? hi))
end

/-! ### append of so many zeros -/
section
variable {ds:List Deferred} {N:Nat} {a:Act} {l:List (Nat × Value)} {w w0:World} {P:Program} {ops:Array Oper} {Q:Exit → Act → World → Prop} {rest:List Oper} {o:Oper} {Kont:Act → World → Prop} {d:Nat} {K:Nat → Prop} {n:Nat} {L:List (Option Nat)}
/-! ### A cut of one's own slice, from its beginning -/
end
end Go.Proofs.Ytaekmgpcdgmlgaa
