/- The rules of the walk over plain data, more: an own slice whose capacity is cut to its length. Plain theorems, no condition. -/
import Derived.Test.YtmcpcdmonglkjaaXE31
set_option linter.unusedVariables false
set_option linter.unusedSimpArgs false
namespace Go.Proofs.Ytmcpcdmonglkjaa
open Go.RowKit

/-- A slice with no room behind its elements. -/
def cutV:Value → Value
  | .slice A m _=>.slice A m m
  | v=>v
section
variable {w w':World} {n:Nat} {K:Nat → Prop} {L:List (Option Nat)} {e:GT} {E:TypeId} {v:Value} {xs:List (PT e)} {c:Option Nat}
theorem Ow.cutPub {L':List (Option Nat)} (h:Ow e E w n (Kx K n L) v xs c) (hs:L'.Sublist L) (hno:∀ k,v.ownBlock = some k → some k ∉ L'):RepV (.sl e) w (Kx K n L') (cutV v) ⟨xs,some xs.length⟩:=by
  obtain ⟨cs,h1,h2,h3⟩:=h
  have hk:∀ c,Kx K n L c → Kx K n L' c:=fun c hk=>⟨hk.1,fun hm=>hk.2 (hs.subset hm)⟩
  rcases h1.2 with ⟨rfl,hcs⟩ | ⟨g,cap,cur,rfl,hb,hg,hnc,hcm,hsz,htake⟩
  · obtain rfl:xs = []:=List.eq_nil_of_length_eq_zero hcs
    refine ⟨[_],⟨.none,0,0,rfl,rfl,Nat.le_refl _,by omega,fun q hq=>?_,.inl rfl⟩,rfl⟩
    exact (Option.some.inj hq)
  · refine ⟨[_],⟨_,xs.length,xs.length,rfl,rfl,Nat.le_refl _,by have:=hcm;simp [maxLen] at this;omega,fun q hq=>?_,?_⟩,rfl⟩
    · exact (Option.some.inj hq)
    · refine RowsOf.of_cells (cs:=cs) (h2.keep (Keeps.refl _ _) fun c _ h=>hk c h) (Array.getElem?_eq_some_iff.1 hg).1 ⟨.inr hb,hno g rfl⟩ fun i u hu=>?_
      have:=h1.cells (g:=g) rfl i u hu
      rwa [Addr.add_lit] at this
theorem Ow.cutRead (h:Ow e E w n (Kx K n L) v xs c):RepV (.sl e) w (Kx K n []) (cutV v) ⟨xs,some xs.length⟩:=h.cutPub (List.nil_sublist _) fun _ _ h=>(List.not_mem_nil h).elim
theorem Ow.cutAt {w0:World} (h:Ow e E w n (Kx K n L) v xs c) (W:Wd w0 w L) (i:Nat) (hi:L[i]? = some v.ownBlock):RepV (.sl e) w (Kx K n (L.eraseIdx i)) (cutV v) ⟨xs,some xs.length⟩:=by
  refine h.cutPub (List.eraseIdx_sublist _ _) fun k hk hm=>?_
  obtain ⟨j,hji,hj⟩:=mem_eraseIdx_ne hm
  rcases W.neq hji hj hi with e | e
  · cases e
  · exact e hk.symm
end
section
variable {ds:List Deferred} {N:Nat} {a:Act} {l:List (Nat × Value)} {w w0:World} {P:Program} {ops:Array Oper} {Q:Exit → Act → World → Prop} {rest:List Oper} {o:Oper} {Kont:Act → World → Prop} {d:Nat} {K:Nat → Prop} {n:Nat} {L:List (Option Nat)}
/-- The place of an element, through the cut slice. -/
theorem op_indexAddr_cut (S:StD ds N a l) {T E:TypeId} {x i:Operand} {e:GT} {v:Value} {xs:List (PT e)} {c:Option Nat} {k0:IntKind} {j:Int} {y:PT e} (ho:o.op = .indexAddr T x i) (ht:tie P (.sl e) false T [] 0 = true) (hd:o.dst = some d) (hN:Nat.blt d N = true)
    (hx:ev l x = some (cutV v)) (O:Ow e E w n K v xs c) (hi:ev l i = some (.int k0 j)) (hj:idx xs j = some y)
    (k:∀ a' g,v.ownBlock = some g → RepAt e w K ⟨g,j.toNat * e.sz,.none⟩ y → StD ds N a' ((d,.pointer (some ⟨g,j.toNat * e.sz,.none⟩)) :: l) → Kont a' w):o.wp P a w Kont Q:=by
  obtain ⟨E',hE,htE⟩:=tie_sl ht
  obtain ⟨ie,hie,hse⟩:=tie_size htE
  obtain ⟨h0,hg,hlt⟩:=idx_some hj
  obtain ⟨g,cap,rfl,hR⟩:=O.el hg
  have hlt':0 ≤ j ∧ j < (xs.length:Int):=⟨h0,hlt⟩
  refine op_run S (v:=.pointer (some ⟨g,j.toNat * e.sz,.none⟩)) hd hN ?_ fun a'=>k a' g rfl hR
  simp [execOp,ho,S.eval hx,S.eval hi,Instr.indexAt,asIntOf,run_underlying hE,hlt',sizeOf,typeInfo,hie,hse,Addr.add_lit,cutV]
/-- A slice cut to its length. -/
theorem op_clip (S:StD ds N a l) {T:TypeId} {x hi mx:Operand} {e:GT} {v:Value} {xs:Sl (PT e)} {k2 k3:IntKind} (ho:o.op = .slice T x .none (some hi) (some mx)) (ht:tie P (.sl e) false T [] 0 = true) (hd:o.dst = some d) (hN:Nat.blt d N = true)
    (hx:ev l x = some v) (R:RepV (.sl e) w K v xs) (hhi:ev l hi = some (.int k2 (lenI xs))) (hmx:ev l mx = some (.int k3 (lenI xs)))
    (k:∀ a',StD ds N a' ((d,cutV v) :: l) → Kont a' w):o.wp P a w Kont Q:=by
  obtain ⟨A,n0,c,rfl,h1,h2,h3,h4,h5⟩:=R.sl
  obtain ⟨E,hE,htE⟩:=tie_sl ht
  obtain ⟨ie,hie,hse⟩:=tie_size htE
  refine op_run S (v:=.slice A n0 n0) hd hN ?_ k
  have q0:lenI xs = (n0:Int):=by unfold lenI;rw [h1]
  rw [q0] at hhi hmx
  simp [execOp,ho,S.eval hx,Instr.sliceAt,Instr.slice,Instr.sliceBounds,Instr.sliceBound,asIntOf,run_underlying hE,sizeOf,typeInfo,hie,hse,S.eval hhi,S.eval hmx]
  rw [if_pos h2]
  cases A <;> simp [Addr.add]
theorem clip_val {α:Type} {x r:Sl α} (h:sl3I x 0 (lenI x) (lenI x) = some r):r = ⟨x.xs,some x.xs.length⟩:=by
  unfold sl3I lenI at h
  rw [if_pos (by omega)] at h
  rw [← Option.some.inj h]
  simp
end
end Go.Proofs.Ytmcpcdmonglkjaa
