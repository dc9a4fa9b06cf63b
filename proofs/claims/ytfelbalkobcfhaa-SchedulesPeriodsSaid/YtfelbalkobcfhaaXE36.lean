/- The rules of the walk over plain data, more: a whole slice of one's own cleared. Plain theorems, no condition. -/
import Derived.Test.YtfelbalkobcfhaaXE35
set_option linter.unusedVariables false
set_option linter.unusedSimpArgs false
namespace Go.Proofs.Ytfelbalkobcfhaa
open Go.RowKit Go.ChangeShapes
abbrev Kw (K:Nat → Prop) (w:World) (L:List (Option Nat)):Nat → Prop:=Kx K w.heap.size L
abbrev TA:Type:=Sl Int × Int × Int
abbrev TB:Type:=Int × Int × Sl Int × Int
section
variable {dd:List Deferred} {N:Nat} {a:Act} {l:List (Nat × Value)} {w w0:World} {P:Program} {ops:Array Oper} {Q:Exit → Act → World → Prop} {rest:List Oper} {o:Oper} {Kont:Act → World → Prop} {d:Nat} {K:Nat → Prop} {n:Nat} {L:List (Option Nat)}
theorem StD.pt (S:StD dd N a l) (d:Nat) (v:Value) (h:Nat.blt d N = true):StD dd N (a.put (some d) v) ((d,v) :: l):=S.put (by simpa using h) v
theorem RPost.o1 {tys:List (TypeId × GT)} (ht:tysOk P tys = true) {R:World → World → Prop} {f:Value → World → Prop} {A a0:Act} {l0:List (Nat × Value)} {v:Value} (S:StD dd N A l) (S0:StD dd N a0 l0) (hd:o.dst = some d) (h:(a_L tys ops N [o] l).bind (fun q=>lk q d) = some v) (hf:f v w) (hb:R w w:=by exact Below.refl _ _) :
    FillE w [] A (fun B=>wpList P ops (b_K R o.dst f a0.defers w Q) [o] B w):=RPost.one S tys ht hd h S0.defers hf hb
def Rv (e:GT) (w:World) (K:Nat → Prop) (v:Value) (xs:Sl (PT e)):Prop :=
  ∃ A m cu ds,v = .slice A m cu ∧ xs.xs.length = m ∧ RepCs (.arr xs.xs.length e) w K ds xs.xs ∧ (xs.xs = [] ∨ ∃ b off,A = some ⟨b,off,.none⟩ ∧ b < w.heap.size ∧ ∀ j u,ds[j]? = some u → w.cell? ⟨b,off + j,.none⟩ = some u) ∧ RepV (.sl e) w (fun _=>True) v xs
theorem Rv.arg {e:GT} {v:Value} {xs:Sl (PT e)} (h:Rv e w K v xs):Rv e w (Kx K w.heap.size []) v xs:=by
  obtain ⟨A,m,cu,ds,h1,h2,h3,h4,h5⟩:=h
  exact ⟨A,m,cu,ds,h1,h2,h3.keep (Keeps.refl _ _) fun _ _ h=>⟨.inl h,fun h=>(List.not_mem_nil h).elim⟩,h4,h5⟩
theorem Rv.box {e:GT} {w':World} {b:Nat} {v:Value} {xs:Sl (PT e)} (h:Rv e w (Kx K n L) v xs) (hb:NewB w w' b):Rv e w' (Kx K n (some b :: L)) v xs:=by
  obtain ⟨A,m,cu,ds,h1,h2,h3,h4,h5⟩:=h
  have g4:xs.xs = [] ∨ ∃ b off,A = some ⟨b,off,.none⟩ ∧ b < w'.heap.size ∧ ∀ j u,ds[j]? = some u → w'.cell? ⟨b,off + j,.none⟩ = some u:=by
    rcases h4 with h4 | ⟨c,off,e1,e2,e3⟩
    · exact .inl h4
    · exact .inr ⟨c,off,e1,Nat.lt_of_lt_of_le e2 hb.below.size,fun j u hu=>(World.cell?_of_block (hb.below.block c e2)).trans (e3 j u hu)⟩
  exact ⟨A,m,cu,ds,h1,h2,h3.keep (Keeps.below hb.below) fun c hc hk=>⟨hk.1,fun hm=>by
    rcases List.mem_cons.1 hm with e | hm
    · obtain rfl:=Option.some.inj e;have:=hb.ge;omega
    · exact hk.2 hm⟩,g4,h5.keep (Keeps.below hb.below) fun _ _ _=>trivial⟩
end
end Go.Proofs.Ytfelbalkobcfhaa
