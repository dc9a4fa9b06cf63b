/- The rules of the walk over plain data, more: what a closure captures, rows that are marked, an empty row. Plain theorems, no condition. -/
import Derived.Test.YtfelbalkobcfhaaXE18
set_option linter.unusedVariables false
set_option linter.unusedSimpArgs false
namespace Go.Proofs.Ytfelbalkobcfhaa
open Go.RowKit
def Br (g:GT) (w:World) (K:Nat → Prop) (p:Addr) (x:PT g):Prop:=RepAt g w K p x ∧ p.block < w.heap.size
section
variable {w0 w w':World} {L:List (Option Nat)} {K:Nat → Prop} {n b:Nat} {g t:GT} {p:Addr}
theorem Br.now {x:PT g} (h:Br g w0 K p x) (W:Wd w0 w L):RepAt g w (Kx K w0.heap.size L) p x :=
  h.1.keep (Keeps.below W.below) (fun b hb hK=>⟨.inl hK,fun hm=>by have:=(W.own b hm).1;omega⟩) fun i _=>(Keeps.below (K:=fun _=>True) W.below).2 ⟨p.block,p.off + i,.none⟩ h.2 trivial
theorem Br.again {x:PT g} (h:Br g w0 K p x) (W:Wd w0 w L):Br g w (Kx K w0.heap.size L) p x:=⟨h.now W,by have:=W.below.size;have:=h.2;omega⟩
theorem Bx.br {T:TypeId} {x:PT g} (h:Bx g T w K b x):Br g w K ⟨b,0,.none⟩ x:=⟨h.at_,h.lt⟩
structure Mk (n:Nat) (L:List (Option Nat)) (w w':World):Prop where
  os:w'.os = w.os
  tape:w'.tape = w.tape
  output:w'.output = w.output
  size:w.heap.size ≤ w'.heap.size
  old:∀ k,k < w.heap.size → (k < n ∨ some k ∈ L) → w'.heap[k]? = w.heap[k]?
  cells:∀ p:Addr,p.block < w.heap.size → w'.cell? p = w.cell? p
theorem Mk.rel (n:Nat) (L:List (Option Nat)) (K:Nat → Prop):Rel K (Mk n L) :=
  ⟨fun w=>⟨rfl,rfl,rfl,Nat.le_refl _,fun _ _ _=>rfl,fun _ _=>rfl⟩,
   fun a b c h k=>⟨k.os.trans h.os,k.tape.trans h.tape,k.output.trans h.output,Nat.le_trans h.size k.size,fun i hi hm=>(k.old i (Nat.lt_of_lt_of_le hi h.size) hm).trans (h.old i hi hm),fun p hp=>(k.cells p (Nat.lt_of_lt_of_le hp h.size)).trans (h.cells p hp)⟩,
   fun w=>⟨rfl,rfl,rfl,Nat.le_refl _,fun _ _ _=>rfl,fun _ _=>rfl⟩,
   fun a b h=>⟨h.os,h.tape,h.output,h.size,h.size,fun p hp _=>h.cells p hp⟩,
   fun a b h=>⟨h.os,h.tape,h.output,h.size,fun k hk _=>h.block k hk,fun p hp=>h.cell hp⟩⟩
theorem RepV.mk_ {u:Value} {x:PT t} (h:RepV t w K u x) (hm:Mk n L w w'):RepV t w' K u x:=h.keep ⟨hm.size,fun p hp _=>hm.cells p hp⟩ fun _ _ h=>h
theorem Bx.mk_ {T:TypeId} {x:PT t} (h:Bx t T w K b x) (hm:Mk n L w w') (hb:some b ∈ L):Bx t T w' K b x:=by
  have hl:=h.lt
  obtain ⟨cs,h1,h2⟩:=h
  exact ⟨cs,(hm.old b hl (.inr hb)).trans h1,h2.keep ⟨hm.size,fun p hp _=>hm.cells p hp⟩ fun _ _ h=>h⟩
theorem Ow.mk_ {e:GT} {E:TypeId} {v:Value} {xs:List (PT e)} {c:Option Nat} {m:Nat} (h:Ow e E w m K v xs c) (hm:Mk n L w w') (i:Nat) (hi:L[i]? = some v.ownBlock):Ow e E w' m K v xs c:=by
  obtain ⟨cs,h1,h2,h3⟩:=h
  refine ⟨cs,⟨h1.1,?_⟩,h2.keep ⟨hm.size,fun p hp _=>hm.cells p hp⟩ fun _ _ h=>h,h3⟩
  rcases h1.2 with h4 | ⟨g,cap,cur,e1,e2,e3,e4⟩
  · exact .inl h4
  · refine .inr ⟨g,cap,cur,e1,e2,(hm.old g (Array.getElem?_eq_some_iff.1 e3).1 (.inr ?_)).trans e3,e4⟩
    rw [e1] at hi
    exact List.mem_of_getElem? hi
theorem Wd.mk_ (h:Wd w0 w L) (hm:Mk w0.heap.size L w w'):Wd w0 w' L :=
  ⟨h.below.trans ⟨hm.os,hm.tape,hm.output,hm.size,fun k hk=>hm.old k (by have:=h.below.size;omega) (.inl hk)⟩,fun c hc=>⟨(h.own c hc).1,by have:=(h.own c hc).2;have:=hm.size;omega⟩,h.dis⟩
end
section
variable {ds:List Deferred} {N:Nat} {a:Act} {l:List (Nat × Value)} {w w0:World} {P:Program} {ops:Array Oper} {Q:Exit → Act → World → Prop} {rest:List Oper} {o:Oper} {Kont:Act → World → Prop} {d:Nat} {K:Nat → Prop} {n:Nat} {L:List (Option Nat)}
theorem op_row0 (S:StD ds N a l) (W:Wd w0 w L) {T E:TypeId} {e:GT} (ho:o.op = .buildSlice T 0 #[]) (ht:tie P (.sl e) false T [] 0 = true) (hE:P.underlying T = some (.slice E)) (hd:o.dst = some d) (hN:Nat.blt d N = true)
    (k:∀ a' w' b,NewB w w' b → Ow e E w' w0.heap.size (Kx K w0.heap.size (some b :: L)) (.slice (some ⟨b,0,.none⟩) 0 0) [] (some 0) → StD ds N a' ((d,.slice (some ⟨b,0,.none⟩) 0 0) :: l) → Kont a' w'):o.wp P a w Kont Q:=by
  obtain ⟨E',hE',htE⟩:=b_b ht
  obtain rfl:E = E':=by rw [hE] at hE';injection hE' with h;injection h
  obtain ⟨ie,hie,hse⟩:=a_E htE
  have hb:=a_M w (.cells #[] E)
  have hrun:(Instr.buildSlice T 0 #[]).run P w = .ok (.slice (some ⟨w.heap.size,0,.none⟩) 0 0) (w.alloc (.cells #[] E)):=by
    simp [Instr.buildSlice,run_underlying hE,sizeOf,typeInfo,hie,Instr.fill,newRow]
    rw [show Array.range 0 = #[] from rfl,Array.map_empty]
  refine a_D S (v:=.slice (some ⟨w.heap.size,0,.none⟩) 0 0) (w':=w.alloc (.cells #[] E)) hd hN (by simp [execOp,ho,hrun]) fun a'=>k a' _ w.heap.size hb ⟨[],⟨by simp,.inr ⟨w.heap.size,0,#[],rfl,W.below.size,heap_alloc_new w _,by simp,by simp,by simp,by simp⟩⟩,⟨rfl,[],rfl,rfl,fun j c y h=>by simp at h⟩,fun q hq=>by obtain rfl:=Option.some.inj hq;exact ⟨_,_,rfl⟩⟩
end
section
variable {ds:List Deferred} {N:Nat} {a:Act} {l:List (Nat × Value)} {w w0:World} {P:Program} {ops:Array Oper} {Q:Exit → Act → World → Prop} {rest:List Oper} {o:Oper} {Kont:Act → World → Prop} {d:Nat} {K:Nat → Prop} {n:Nat} {L:List (Option Nat)}
theorem e_C (S:StD ds N a l) {T T':TypeId} {x:Operand} {e:GT} {v:Value} {xs:Sl (PT e)} (ho:o.op = .binOp .eql T x (.const (.slice .none 0 0)) T') (ht:tie P (.sl e) false T [] 0 = true) (hd:o.dst = some d) (hN:Nat.blt d N = true)
    (hx:ev l x = some v) (R:RepV (.sl e) w K v xs) (k:∀ a' b,(b = true → xs.xs = []) → StD ds N a' ((d,.bool b) :: l) → Kont a' w):o.wp P a w Kont Q:=by
  obtain ⟨E,hE,htE⟩:=b_b ht
  obtain ⟨A,n0,c,rfl,h1,h2,h3,h4,h5⟩:=R.sl
  have hc:a.eval (.const (.slice .none 0 0)) = .slice .none 0 0:=rfl
  have he0:∀ d,(Op.equalIn (d + 1) T (.slice A n0 c) (.slice .none 0 0)).run P w = .ok A.isNone w:=by
    intro d
    cases A with
    | none=>simp [Op.equalIn,run_underlying hE]
    | some A=>simp [Op.equalIn,run_underlying hE]
  have he:(Op.equalIn 10000 T (.slice A n0 c) (.slice .none 0 0)).run P w = .ok A.isNone w:=he0 9999
  refine a_D S (v:=.bool A.isNone) hd hN ?_ fun a'=>k a' A.isNone fun hb=>?_
  · simp only [execOp,ho,S.eval hx,hc]
    simp [eqGuard,binOp,Op.equal,Op.maxDepth,he]
  · rcases h5 with h5 | ⟨b,off,rfl,_⟩
    · exact h5
    · cases hb
end
theorem RepV.unraw {w:World} {K:Nat → Prop} {f:GT} (k:Nat) {v u:Value} (x:PT f) (hs:isSlG (comp f k) = true) (h:RepV (.st (e_o f k)) w K u (d_o f k v x)) (hv:RepV (comp f k) w K v (proj f k x)):RepV (.st f) w K u x:=by
  obtain ⟨cs,h1,h2⟩:=h
  exact ⟨cs,RepCs.unraw (t:=f) k x hs h1 hv,h2⟩
end Go.Proofs.Ytfelbalkobcfhaa
