/- The walk of a range over a function, more: addresses that are only read from now on, functions that make functions. Plain theorems, no condition. -/
import Derived.Test.YtfelbalkobcfhaaXE24
set_option linter.unusedVariables false
set_option linter.unusedSimpArgs false
namespace Go.Proofs.Ytfelbalkobcfhaa
open Go.RowKit
def Pr (t:GT) (w:World) (K:Nat → Prop) (p:Addr) (x:PT t):Prop:=RepAt t w K p x ∧ p.block < w.heap.size ∧ K p.block
section
variable {w0 w w' A B:World} {L L' LO LO' Bs:List (Option Nat)} {K K':Nat → Prop} {n n0 b d i:Nat} {t:GT} {v v':Value} {o:Option Nat} {p:Addr} {x:PT t}
theorem Pr.keep (h:Pr t w K p x) (hk:Keeps K w w') (hK:∀ b,b < w.heap.size → K b → K' b):Pr t w' K' p x :=
  ⟨h.1.keep hk hK fun i _=>hk.2 ⟨p.block,p.off + i,.none⟩ h.2.1 h.2.2,Nat.lt_of_lt_of_le h.2.1 hk.1,hK _ h.2.1 h.2.2⟩
theorem Pr.step (h:Pr t w K p x) (hb:Below w.heap.size w w'):Pr t w' K p x:=h.keep (Keeps.below hb) fun _ _ h=>h
theorem Pr.newO (h:Pr t w (Kx K n L) p x) (hN:NewO w w' o):Pr t w' (Kx K n (o :: L)) p x:=h.keep (Keeps.below hN.below) fun c hc hk=>Kx.newO hN hc hk
theorem Pr.box (h:Pr t w (Kx K n L) p x) (hb:NewB w w' b):Pr t w' (Kx K n (some b :: L)) p x:=h.newO (NewB.newO hb)
theorem Pr.wrote (h:Pr t w (Kx K n L) p x) (hw:Wrote b w w') (hb:some b ∈ L):Pr t w' (Kx K n L) p x:=h.keep (Keeps.wrote hw hb) fun _ _ h=>h
theorem Pr.apd (h:Pr t w (Kx K n L) p x) (ha:Apd w w' v v') (hi:L[i]? = some v.ownBlock):Pr t w' (Kx K n (L.set i v'.ownBlock)) p x:=h.keep (ha.keeps hi) (ha.kk hi)
theorem Pr.more (h:Pr t w (Kx K n L) p x):Pr t w (Kx K n (.none :: L)) p x:=h.keep (Keeps.refl _ _) fun _ _ hk=>hk.more
theorem Pr.less (h:Pr t w (Kx K n L) p x) (hs:L'.Sublist L):Pr t w (Kx K n L') p x:=h.keep (Keeps.refl _ _) fun c _ hk=>⟨hk.1,fun hm=>hk.2 (hs.subset hm)⟩
theorem Pr.lessAt (h:Pr t w (Kx K n L) p x) (i:Nat):Pr t w (Kx K n (L.eraseIdx i)) p x:=h.less (List.eraseIdx_sublist _ _)
theorem Pr.drop (h:Pr t w (Kx K n L) p x) (i:Nat):Pr t w (Kx K n (L.drop i)) p x:=h.less (List.drop_sublist _ _)
theorem Pr.lessO (h:Pr t w (Kx K n L) p x) (i:Nat) (hi:L[i]? = some o):Pr t w (Kx K n [o]) p x:=h.less (List.singleton_sublist.2 (List.mem_of_getElem? hi))
theorem Bx.lessO {T:TypeId} (h:Bx t T w (Kx K n L) b x) (i:Nat) (hi:L[i]? = some o):Bx t T w (Kx K n [o]) b x:=h.less (List.singleton_sublist.2 (List.mem_of_getElem? hi))
theorem Pr.out (h:Pr t w (Kx K n L) p x):Pr t w (Kx K n []) p x:=h.less (List.nil_sublist _)
theorem Pr.mk_ {m:Nat} (h:Pr t w K p x) (hm:Mk m L w w'):Pr t w' K p x:=h.keep ⟨hm.size,fun p hp _=>hm.cells p hp⟩ fun _ _ h=>h
theorem Pr.lm0 {I:List Nat} (h:Pr t w (Kx K n L) p x):Pr t w (Kx K n (lm I L fun _=>none)) p x:=h.keep (Keeps.refl _ _) fun c _ hk=>⟨hk.1,fun hm=>hk.2 (c_Z hm)⟩
theorem Pr.gr {I:List Nat} {g g':GW} (h:Pr t g.2 (Kx K n (lm I L g.1)) p x) (hg:Gr w0 I L g g'):Pr t g'.2 (Kx K n (lm I L g'.1)) p x:=h.keep (Keeps.below hg.below) fun c hc hk=>hg.kk hc hk
theorem Pr.lv (h:Pr t w K p x) (hl:Lv K w w'):Pr t w' K p x:=h.keep hl.keep fun _ _ h=>h
theorem Pr.nc (h:Pr t w K p x) (hn:Nc d w w'):Pr t w' K p x:=h.keep hn.keeps fun _ _ h=>h
theorem Pr.ab (h:Pr t A (Kx K n L) p x) (hab:Ab Bs n0 A B) (hs:∀ x ∈ Bs,x ∈ L):Pr t B (Kx K n L) p x:=h.keep (hab.kx hs) fun _ _ h=>h
theorem Pr.yst (Bs:List (Option Nat)) (h:Pr t A (Kx K n0 (Bs ++ LO)) p x) (hy:Yst n A LO B LO'):Pr t B (Kx K n0 (Bs ++ LO')) p x:=h.keep hy.keeps fun c hc hk=>hy.kk hc hk
theorem Pr.back {w1:World} (h:Pr t w' (Kx (Kx K w1.heap.size L) w.heap.size []) p x) (hw:Wd w1 w L):Pr t w' (Kx K w1.heap.size L) p x:=h.keep (Keeps.refl _ _) fun c _ hk=>by
  rcases hk.1 with h1 | h1
  · exact h1
  · exact ⟨.inr (by have:=hw.below.size;omega),fun hm=>by have:=(hw.own c hm).2;omega⟩
theorem Pr.backO {w1:World} (h:Pr t w' (Kx (Kx K w1.heap.size L) w.heap.size [o]) p x) (hw:Wd w1 w L):Pr t w' (Kx K w1.heap.size (o :: L)) p x:=h.keep (Keeps.refl _ _) fun c _ hk=>Kx.backO hw hk
theorem Bx.backO {T:TypeId} {w1:World} (h:Bx t T w' (Kx (Kx K w1.heap.size L) w.heap.size [o]) b x) (hw:Wd w1 w L):Bx t T w' (Kx K w1.heap.size (o :: L)) b x:=by
  obtain ⟨cs,h1,h2⟩:=h
  exact ⟨cs,h1,h2.keep (Keeps.refl _ _) fun c _ hk=>Kx.backO hw hk⟩
theorem Bx.pr {T:TypeId} (h:Bx t T w (Kx K n L) b x) (W:Wd w0 w L) (hn:n = w0.heap.size) (i:Nat) (hi:L[i]? = some (some b)):Pr t w (Kx K n (L.eraseIdx i)) ⟨b,0,.none⟩ x:=by
  refine ⟨(h.lessAt i).at_,h.lt,.inr (by rw [hn];exact (W.own b (List.mem_of_getElem? hi)).1),fun hm=>?_⟩
  obtain ⟨j,hji,hj⟩:=b_M hm
  rcases W.neq hji hj hi with e | e
  · cases e
  · exact e rfl
theorem Br.pr (h:Br t w0 K p x) (W:Wd w0 w L) (hK:K p.block):Pr t w (Kx K w0.heap.size L) p x :=
  ⟨h.now W,by have:=W.below.size;have:=h.2;omega,.inl hK,fun hm=>by have:=(W.own _ hm).1;have:=h.2;omega⟩
theorem Pr.br (h:Pr t w K p x):Br t w K p x:=⟨h.1,h.2.1⟩
theorem Ab.mono {n1:Nat} (h:Ab Bs n1 A B) (hn:n0 ≤ n1):Ab Bs n0 A B:=⟨h.os,h.tape,h.output,h.size,fun b hb=>h.low b (by omega),h.cells,h.others⟩
end
section
variable {ds:List Deferred} {N:Nat} {a:Act} {l:List (Nat × Value)} {w w0:World} {P:Program} {ops:Array Oper} {Q:Exit → Act → World → Prop} {o:Oper} {Kont:Act → World → Prop} {d:Nat}
theorem b_3 (S:St N a l) {fn:Func} {R:Ending → World → Prop} (hr:fn.results = #[]) (hR:∀ v,R (.returned v) w):bodyPost P fn R .ret a w :=
  ⟨S.defers,_,by simp [results,hr];rfl,hR _⟩
end
end Go.Proofs.Ytfelbalkobcfhaa
