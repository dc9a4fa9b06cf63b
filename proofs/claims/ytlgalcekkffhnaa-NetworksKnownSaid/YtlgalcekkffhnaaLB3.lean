/- The rules of the walk over plain data. Plain theorems, no condition. -/
import Derived.Test.YtlgalcekkffhnaaLB2
set_option linter.unusedVariables false
set_option linter.unusedSimpArgs false
namespace Go.Proofs.Ytlgalcekkffhnaa
open Go.RowKit
class TyOk (P:Program) (tys:outParam (List (TypeId × GT))):Prop where
  ok:tysOk P tys = true
section
variable {r:Option Nat} {ds:List Deferred} {N:Nat} {a:Act} {l:List (Nat × Value)} {w:World} {P:Program} {ops:Array Oper} {Q:Exit → Act → World → Prop} {K:Act → World → Prop} {tys:List (TypeId × GT)} {l0:List Oper}
theorem dl1 [T:TyOk P tys] (S:StD ds N a l) (m:Nat) (p1:Nat × Value) (k:∀ a',StD ds N a' (p1 :: l) → wpList P ops Q (l0.drop m) a' w) (h:a_u tys ops N (l0.take m) l = some (p1 :: l):=by kernel_rfl):wpList P ops Q l0 a w:=a_z S tys T.ok m h k
theorem dl2 [T:TyOk P tys] (S:StD ds N a l) (m:Nat) (p1 p2:Nat × Value) (k:∀ a',StD ds N a' (p1 :: p2 :: l) → wpList P ops Q (l0.drop m) a' w) (h:a_u tys ops N (l0.take m) l = some (p1 :: p2 :: l):=by kernel_rfl):wpList P ops Q l0 a w:=a_z S tys T.ok m h k
theorem dl3 [T:TyOk P tys] (S:StD ds N a l) (m:Nat) (p1 p2 p3:Nat × Value) (k:∀ a',StD ds N a' (p1 :: p2 :: p3 :: l) → wpList P ops Q (l0.drop m) a' w) (h:a_u tys ops N (l0.take m) l = some (p1 :: p2 :: p3 :: l):=by kernel_rfl):wpList P ops Q l0 a w:=a_z S tys T.ok m h k
theorem dl4 [T:TyOk P tys] (S:StD ds N a l) (m:Nat) (p1 p2 p3 p4:Nat × Value) (k:∀ a',StD ds N a' (p1 :: p2 :: p3 :: p4 :: l) → wpList P ops Q (l0.drop m) a' w) (h:a_u tys ops N (l0.take m) l = some (p1 :: p2 :: p3 :: p4 :: l):=by kernel_rfl):wpList P ops Q l0 a w:=a_z S tys T.ok m h k
theorem dl5 [T:TyOk P tys] (S:StD ds N a l) (m:Nat) (p1 p2 p3 p4 p5:Nat × Value) (k:∀ a',StD ds N a' (p1 :: p2 :: p3 :: p4 :: p5 :: l) → wpList P ops Q (l0.drop m) a' w) (h:a_u tys ops N (l0.take m) l = some (p1 :: p2 :: p3 :: p4 :: p5 :: l):=by kernel_rfl):wpList P ops Q l0 a w:=a_z S tys T.ok m h k
theorem dl6 [T:TyOk P tys] (S:StD ds N a l) (m:Nat) (p1 p2 p3 p4 p5 p6:Nat × Value) (k:∀ a',StD ds N a' (p1 :: p2 :: p3 :: p4 :: p5 :: p6 :: l) → wpList P ops Q (l0.drop m) a' w) (h:a_u tys ops N (l0.take m) l = some (p1 :: p2 :: p3 :: p4 :: p5 :: p6 :: l):=by kernel_rfl):wpList P ops Q l0 a w:=a_z S tys T.ok m h k
theorem dl7 [T:TyOk P tys] (S:StD ds N a l) (m:Nat) (p1 p2 p3 p4 p5 p6 p7:Nat × Value) (k:∀ a',StD ds N a' (p1 :: p2 :: p3 :: p4 :: p5 :: p6 :: p7 :: l) → wpList P ops Q (l0.drop m) a' w) (h:a_u tys ops N (l0.take m) l = some (p1 :: p2 :: p3 :: p4 :: p5 :: p6 :: p7 :: l):=by kernel_rfl):wpList P ops Q l0 a w:=a_z S tys T.ok m h k
theorem dl8 [T:TyOk P tys] (S:StD ds N a l) (m:Nat) (p1 p2 p3 p4 p5 p6 p7 p8:Nat × Value) (k:∀ a',StD ds N a' (p1 :: p2 :: p3 :: p4 :: p5 :: p6 :: p7 :: p8 :: l) → wpList P ops Q (l0.drop m) a' w) (h:a_u tys ops N (l0.take m) l = some (p1 :: p2 :: p3 :: p4 :: p5 :: p6 :: p7 :: p8 :: l):=by kernel_rfl):wpList P ops Q l0 a w:=a_z S tys T.ok m h k
theorem R.dl1 [T:TyOk P tys] (S:StD ds N a l) (m:Nat) (p1:Nat × Value) (k:∀ a',StD ds N a' (p1 :: l) → LI r P ops Q (l0.drop m) a' w) (h:a_u tys ops N (l0.take m) l = some (p1 :: l):=by kernel_rfl):LI r P ops Q l0 a w:=R.a_z S tys T.ok m h k
theorem R.dl2 [T:TyOk P tys] (S:StD ds N a l) (m:Nat) (p1 p2:Nat × Value) (k:∀ a',StD ds N a' (p1 :: p2 :: l) → LI r P ops Q (l0.drop m) a' w) (h:a_u tys ops N (l0.take m) l = some (p1 :: p2 :: l):=by kernel_rfl):LI r P ops Q l0 a w:=R.a_z S tys T.ok m h k
theorem R.dl3 [T:TyOk P tys] (S:StD ds N a l) (m:Nat) (p1 p2 p3:Nat × Value) (k:∀ a',StD ds N a' (p1 :: p2 :: p3 :: l) → LI r P ops Q (l0.drop m) a' w) (h:a_u tys ops N (l0.take m) l = some (p1 :: p2 :: p3 :: l):=by kernel_rfl):LI r P ops Q l0 a w:=R.a_z S tys T.ok m h k
theorem R.dl4 [T:TyOk P tys] (S:StD ds N a l) (m:Nat) (p1 p2 p3 p4:Nat × Value) (k:∀ a',StD ds N a' (p1 :: p2 :: p3 :: p4 :: l) → LI r P ops Q (l0.drop m) a' w) (h:a_u tys ops N (l0.take m) l = some (p1 :: p2 :: p3 :: p4 :: l):=by kernel_rfl):LI r P ops Q l0 a w:=R.a_z S tys T.ok m h k
theorem R.dl5 [T:TyOk P tys] (S:StD ds N a l) (m:Nat) (p1 p2 p3 p4 p5:Nat × Value) (k:∀ a',StD ds N a' (p1 :: p2 :: p3 :: p4 :: p5 :: l) → LI r P ops Q (l0.drop m) a' w) (h:a_u tys ops N (l0.take m) l = some (p1 :: p2 :: p3 :: p4 :: p5 :: l):=by kernel_rfl):LI r P ops Q l0 a w:=R.a_z S tys T.ok m h k
theorem R.dl6 [T:TyOk P tys] (S:StD ds N a l) (m:Nat) (p1 p2 p3 p4 p5 p6:Nat × Value) (k:∀ a',StD ds N a' (p1 :: p2 :: p3 :: p4 :: p5 :: p6 :: l) → LI r P ops Q (l0.drop m) a' w) (h:a_u tys ops N (l0.take m) l = some (p1 :: p2 :: p3 :: p4 :: p5 :: p6 :: l):=by kernel_rfl):LI r P ops Q l0 a w:=R.a_z S tys T.ok m h k
theorem R.dl7 [T:TyOk P tys] (S:StD ds N a l) (m:Nat) (p1 p2 p3 p4 p5 p6 p7:Nat × Value) (k:∀ a',StD ds N a' (p1 :: p2 :: p3 :: p4 :: p5 :: p6 :: p7 :: l) → LI r P ops Q (l0.drop m) a' w) (h:a_u tys ops N (l0.take m) l = some (p1 :: p2 :: p3 :: p4 :: p5 :: p6 :: p7 :: l):=by kernel_rfl):LI r P ops Q l0 a w:=R.a_z S tys T.ok m h k
theorem R.dl8 [T:TyOk P tys] (S:StD ds N a l) (m:Nat) (p1 p2 p3 p4 p5 p6 p7 p8:Nat × Value) (k:∀ a',StD ds N a' (p1 :: p2 :: p3 :: p4 :: p5 :: p6 :: p7 :: p8 :: l) → LI r P ops Q (l0.drop m) a' w) (h:a_u tys ops N (l0.take m) l = some (p1 :: p2 :: p3 :: p4 :: p5 :: p6 :: p7 :: p8 :: l):=by kernel_rfl):LI r P ops Q l0 a w:=R.a_z S tys T.ok m h k
theorem Ro.dl1 [T:TyOk P tys] (S:StD ds N a l) (m:Nat) (p1:Nat × Value) (k:∀ a',StD ds N a' (p1 :: l) → Ro.RL P ops (l0.drop m) K w a' w) (h:a_u tys ops N (l0.take m) l = some (p1 :: l):=by kernel_rfl):Ro.RL P ops l0 K w a w:=Ro.a_z S tys T.ok m h k
theorem Ro.dl2 [T:TyOk P tys] (S:StD ds N a l) (m:Nat) (p1 p2:Nat × Value) (k:∀ a',StD ds N a' (p1 :: p2 :: l) → Ro.RL P ops (l0.drop m) K w a' w) (h:a_u tys ops N (l0.take m) l = some (p1 :: p2 :: l):=by kernel_rfl):Ro.RL P ops l0 K w a w:=Ro.a_z S tys T.ok m h k
theorem Ro.dl3 [T:TyOk P tys] (S:StD ds N a l) (m:Nat) (p1 p2 p3:Nat × Value) (k:∀ a',StD ds N a' (p1 :: p2 :: p3 :: l) → Ro.RL P ops (l0.drop m) K w a' w) (h:a_u tys ops N (l0.take m) l = some (p1 :: p2 :: p3 :: l):=by kernel_rfl):Ro.RL P ops l0 K w a w:=Ro.a_z S tys T.ok m h k
theorem Ro.dl4 [T:TyOk P tys] (S:StD ds N a l) (m:Nat) (p1 p2 p3 p4:Nat × Value) (k:∀ a',StD ds N a' (p1 :: p2 :: p3 :: p4 :: l) → Ro.RL P ops (l0.drop m) K w a' w) (h:a_u tys ops N (l0.take m) l = some (p1 :: p2 :: p3 :: p4 :: l):=by kernel_rfl):Ro.RL P ops l0 K w a w:=Ro.a_z S tys T.ok m h k
theorem Ro.dl5 [T:TyOk P tys] (S:StD ds N a l) (m:Nat) (p1 p2 p3 p4 p5:Nat × Value) (k:∀ a',StD ds N a' (p1 :: p2 :: p3 :: p4 :: p5 :: l) → Ro.RL P ops (l0.drop m) K w a' w) (h:a_u tys ops N (l0.take m) l = some (p1 :: p2 :: p3 :: p4 :: p5 :: l):=by kernel_rfl):Ro.RL P ops l0 K w a w:=Ro.a_z S tys T.ok m h k
theorem Ro.dl6 [T:TyOk P tys] (S:StD ds N a l) (m:Nat) (p1 p2 p3 p4 p5 p6:Nat × Value) (k:∀ a',StD ds N a' (p1 :: p2 :: p3 :: p4 :: p5 :: p6 :: l) → Ro.RL P ops (l0.drop m) K w a' w) (h:a_u tys ops N (l0.take m) l = some (p1 :: p2 :: p3 :: p4 :: p5 :: p6 :: l):=by kernel_rfl):Ro.RL P ops l0 K w a w:=Ro.a_z S tys T.ok m h k
theorem Ro.dl7 [T:TyOk P tys] (S:StD ds N a l) (m:Nat) (p1 p2 p3 p4 p5 p6 p7:Nat × Value) (k:∀ a',StD ds N a' (p1 :: p2 :: p3 :: p4 :: p5 :: p6 :: p7 :: l) → Ro.RL P ops (l0.drop m) K w a' w) (h:a_u tys ops N (l0.take m) l = some (p1 :: p2 :: p3 :: p4 :: p5 :: p6 :: p7 :: l):=by kernel_rfl):Ro.RL P ops l0 K w a w:=Ro.a_z S tys T.ok m h k
theorem Ro.dl8 [T:TyOk P tys] (S:StD ds N a l) (m:Nat) (p1 p2 p3 p4 p5 p6 p7 p8:Nat × Value) (k:∀ a',StD ds N a' (p1 :: p2 :: p3 :: p4 :: p5 :: p6 :: p7 :: p8 :: l) → Ro.RL P ops (l0.drop m) K w a' w) (h:a_u tys ops N (l0.take m) l = some (p1 :: p2 :: p3 :: p4 :: p5 :: p6 :: p7 :: p8 :: l):=by kernel_rfl):Ro.RL P ops l0 K w a w:=Ro.a_z S tys T.ok m h k
theorem wcs {c:Operand} {x y:Code} (t:Bool) (S:StD ds N a l) (he:ev l c = some (.bool t)) (h1:t = true → Code.wp P x Q a w) (h2:t = false → Code.wp P y Q a w):Code.wp P (Code.cond c x y) Q a w:=wp_cond_split (S.eval he) h1 h2
theorem wgo {o:Oper} {rest:List Oper} (S:StD ds N a l) (h:o.wp P a w (wpList P ops Q rest) Q) (hg:gOk ops l o = some true:=by rfl):wpList P ops Q (o :: rest) a w:=w_go S hg h
theorem R.wgo {o:Oper} {rest:List Oper} (S:StD ds N a l) (h:o.wp P a w (LI r P ops Q rest) Q) (hg:gOk ops l o = some true:=by rfl) (hd:b_U o = true:=by rfl):LI r P ops Q (o :: rest) a w:=R.w_go S hg h hd
theorem Ro.wgo {o:Oper} {rest:List Oper} (S:StD ds N a l) (h:o.wp P a w (Ro.RL P ops rest K w) (fun _ _ _=>False)) (hg:gOk ops l o = some true:=by rfl):Ro.RL P ops (o :: rest) K w a w:=Ro.w_go S hg h
end
end Go.Proofs.Ytlgalcekkffhnaa
namespace Go.Proofs.Ytlgalcekkffhnaa
open Go.RowKit
section
variable {ds:List Deferred} {N:Nat} {a:Act} {l:List (Nat × Value)} {w w0:World} {P:Program} {ops:Array Oper} {Q:Exit → Act → World → Prop} {rest:List Oper} {o:Oper} {Kont:Act → World → Prop} {d:Nat}
end
end Go.Proofs.Ytlgalcekkffhnaa
namespace Go.Proofs.Ytlgalcekkffhnaa
open Go.RowKit
section
variable {ds:List Deferred} {N:Nat} {a:Act} {l:List (Nat × Value)} {w w0:World} {P:Program} {ops:Array Oper} {Q:Exit → Act → World → Prop} {rest:List Oper} {o:Oper} {Kont:Act → World → Prop} {d:Nat} {K:Nat → Prop} {n:Nat} {L:List (Option Nat)}
end
theorem SbX.yst {w0 w w':World} {X P Q:List (Option Nat)} {n:Nat} (h:SbX w0 X w) (hy:Yst n w P w' Q) (hg:∀ c,some c ∈ P → w0.heap.size ≤ c ∨ some c ∈ X):SbX w0 X w' :=
  ⟨Nat.le_trans h.size hy.size,fun k hk hx=>(hy.keep k (Nat.lt_of_lt_of_le hk h.size) fun e=>by
    rcases hg k e with q | q
    · omega
    · exact hx q).trans (h.block k hk hx)⟩
end Go.Proofs.Ytlgalcekkffhnaa
namespace Go.Proofs.Ytlgalcekkffhnaa
open Go.RowKit
def Oby (e:GT) (E:TypeId) (w:World) (n:Nat) (K:Nat → Prop) (v:Value) (xs:List (PT e)) (c:Option Nat):Prop :=
  ∃ g cap cur fz,v = .slice (some ⟨g,0,.none⟩) xs.length cap ∧ n ≤ g ∧ w.heap[g]? = some (.cells cur E fz) ∧ cap ≤ fz.1 ∧ xs.length ≤ cap ∧ cap ≤ maxLen ∧ cur.size = cap ∧ e = .int .u8 ∧ RepCs (.arr xs.length e) w K (cur.toList.take xs.length) xs ∧ c = none
section
variable {w0 w w':World} {L:List (Option Nat)} {K:Nat → Prop} {n b i:Nat} {v:Value} {e:GT} {E:TypeId} {xs:List (PT e)} {c:Option Nat}
theorem Oby.step (h:Oby e E w n K v xs c) (hb:Below w.heap.size w w'):Oby e E w' n K v xs c:=by
  obtain ⟨g,cap,cur,fz,h1,h2,h3,h4,h5,h6,h7,h8,h9,h10⟩:=h
  exact ⟨g,cap,cur,fz,h1,h2,(hb.block g (Array.getElem?_eq_some_iff.1 h3).1).trans h3,h4,h5,h6,h7,h8,h9.keep (Keeps.below hb) fun _ _ h=>h,h10⟩
theorem Oby.forget (h:Oby e E w n K v xs c):Oby e E w n K v xs .none:=by
  obtain ⟨g,cap,cur,fz,h1,h2,h3,h4,h5,h6,h7,h8,h9,h10⟩:=h
  exact ⟨g,cap,cur,fz,h1,h2,h3,h4,h5,h6,h7,h8,h9,rfl⟩
theorem Oby.pub {L':List (Option Nat)} (h:Oby e E w n (Kx K n L) v xs c) (hs:L'.Sublist L) (hno:∀ k,v.ownBlock = some k → some k ∉ L'):RepV (.sl e) w (Kx K n L') v ⟨xs,c⟩:=by
  obtain ⟨g,cap,cur,fz,rfl,h2,h3,h4,h5,h6,h7,rfl,h9,rfl⟩:=h
  refine ⟨[_],⟨_,xs.length,cap,rfl,rfl,h5,by simpa [maxLen] using h6,fun q hq=>(by cases hq),?_⟩,rfl⟩
  refine RowsOf.of_cells (cs:=cur.toList.take xs.length) (h9.keep (Keeps.refl _ _) fun c _ hk=>⟨hk.1,fun hm=>hk.2 (hs.subset hm)⟩) (Array.getElem?_eq_some_iff.1 h3).1 ⟨.inr h2,hno g rfl⟩ fun i u hu=>?_
  rw [Nat.zero_add,cell_of_row w g i cur E fz h3]
  rw [List.getElem?_take] at hu
  split at hu
  · simpa using hu
  · cases hu
theorem Oby.read (h:Oby e E w n (Kx K n L) v xs c):RepV (.sl e) w (Kx K n []) v ⟨xs,c⟩:=h.pub (List.nil_sublist _) fun _ _ h=>(List.not_mem_nil h).elim
theorem Oby.pubAt (h:Oby e E w n (Kx K n L) v xs c) (W:Wd w0 w L) (i:Nat) (hi:L[i]? = some v.ownBlock):RepV (.sl e) w (Kx K n (L.eraseIdx i)) v ⟨xs,c⟩:=by
  refine h.pub (List.eraseIdx_sublist _ _) fun k hk hm=>?_
  obtain ⟨j,hj⟩:=List.getElem?_of_mem hm
  rw [List.getElem?_eraseIdx] at hj
  rw [hk] at hi
  split at hj
  · rename_i hlt
    exact absurd rfl (W.bne (p:=j) (q:=i) (by omega) hj hi)
  · rename_i hlt
    exact absurd rfl (W.bne (p:=j + 1) (q:=i) (by omega) hj hi)
end
section
variable {ds:List Deferred} {N:Nat} {a:Act} {l:List (Nat × Value)} {w w0:World} {P:Program} {ops:Array Oper} {Q:Exit → Act → World → Prop} {rest:List Oper} {o:Oper} {Kont:Act → World → Prop} {d:Nat} {K:Nat → Prop} {n:Nat} {L:List (Option Nat)}
end
end Go.Proofs.Ytlgalcekkffhnaa
namespace Go.Proofs.Ytlgalcekkffhnaa
open Go.RowKit
structure ApO (w w':World) (o o':Option Nat):Prop where
  grown:w.grownBy w' o
  at_:∀ k,o' = some k → o = some k ∨ w.heap.size ≤ k
  lt:∀ k,o' = some k → k < w'.heap.size
section
variable {w0 w w' A:World} {L LO P Q:List (Option Nat)} {K:Nat → Prop} {n b i m:Nat} {t:GT} {v v':Value} {o o':Option Nat}
theorem Apd.apo (h:Apd w w' v v'):ApO w w' v.ownBlock v'.ownBlock :=
  ⟨h.grown,fun k hk=>by
    rcases h.at_ with e | e
    · exact .inl (e ▸ hk)
    · rw [e] at hk;obtain rfl:=Option.some.inj hk;exact .inr (Nat.le_refl _),h.lt⟩
theorem NewO.apo (h:NewO w w' o):ApO w w' .none o :=
  ⟨⟨h.below.os,h.below.tape,h.below.output,h.below.size,fun k hk _=>h.below.block k hk⟩,fun k hk=>.inr (h.ge k hk),h.lt⟩
theorem ApO.keeps (h:ApO w w' o o') (hi:L[i]? = some o):Keeps (Kx K n L) w w' :=
  ⟨h.grown.size,fun p hp hk=>World.cell?_of_block (h.grown.block p.block hp fun e=>hk.2 (by rw [e];exact List.mem_of_getElem? hi))⟩
theorem ApO.kk (h:ApO w w' o o') (hi:L[i]? = some o):∀ c,c < w.heap.size → Kx K n L c → Kx K n (L.set i o') c:=by
  intro c hc hk
  refine ⟨hk.1,fun hm=>?_⟩
  rcases List.mem_or_eq_of_mem_set hm with hm | e
  · exact hk.2 hm
  · rcases h.at_ c e.symm with e2 | e2
    · exact hk.2 (by rw [← e2];exact List.mem_of_getElem? hi)
    · omega
theorem RepV.apo {u:Value} {x:PT t} (h:RepV t w (Kx K n L) u x) (ha:ApO w w' o o') (hi:L[i]? = some o):RepV t w' (Kx K n (L.set i o')) u x:=h.keep (ha.keeps hi) (ha.kk hi)
theorem Pr.apo {p:Addr} {x:PT t} (h:Pr t w (Kx K n L) p x) (ha:ApO w w' o o') (hi:L[i]? = some o):Pr t w' (Kx K n (L.set i o')) p x:=h.keep (ha.keeps hi) (ha.kk hi)
theorem Wd.apo (h:Wd w0 w L) (ha:ApO w w' o o') (hi:L[i]? = some o):Wd w0 w' (L.set i o'):=by
  have hsz:=h.below.size
  refine ⟨h.below.trans ⟨ha.grown.os,ha.grown.tape,ha.grown.output,ha.grown.size,fun k hk=>ha.grown.block k (by omega) fun e=>?_⟩,fun c hm=>?_,?_⟩
  · have:=h.own k (by rw [e];exact List.mem_of_getElem? hi)
    omega
  · have hs:=ha.grown.size
    rcases List.mem_or_eq_of_mem_set hm with hm | e
    · have:=h.own c hm;omega
    · have h2:=ha.lt c e.symm
      rcases ha.at_ c e.symm with e2 | e2
      · have:=h.own c (by rw [← e2];exact List.mem_of_getElem? hi);omega
      · omega
  · have hd:=List.pairwise_iff_getElem.1 h.dis
    refine List.pairwise_iff_getElem.2 fun p q hp hq hpq=>?_
    simp only [List.length_set] at hp hq
    rw [List.getElem_set,List.getElem_set]
    have hil:i < L.length:=(List.getElem?_eq_some_iff.1 hi).1
    have hiv:L[i] = o:=(List.getElem?_eq_some_iff.1 hi).2
    have key:∀ (r:Nat) (hr:r < L.length),r ≠ i → ∀ c,L[r] = some c → o' ≠ some c:=by
      intro r hr hri c hc e
      rcases ha.at_ c e with e2 | e2
      · rcases h.neq (p:=r) (q:=i) hri (List.getElem?_eq_getElem hr) hi with e3 | e3
        · rw [hc] at e3;cases e3
        · exact e3 (by rw [hc,e2])
      · have:=(h.own c (by rw [← hc];exact List.getElem_mem hr)).2
        omega
    split
    · rename_i hip
      subst hip
      rw [if_neg (by omega)]
      rcases Option.eq_none_or_eq_some o' with ho | ⟨c,ho⟩
      · exact .inl ho
      · exact .inr fun e=>key q hq (by omega) c (e.symm.trans ho) ho
    · split
      · rename_i hiq
        subst hiq
        cases hp2:L[p] with
        | none=>exact .inl rfl
        | some c=>exact .inr fun e=>key p hp (by omega) c hp2 e.symm
      · exact hd p q hp hq hpq
theorem ApO.away (W:Wd w0 w L) (hi:L[i]? = some o) {j:Nat} (hj:L[j]? = some (some b)) (hji:j ≠ i):some b ≠ o:=fun e=>by
  rcases W.neq hji hj hi with e2 | e2
  · cases e2
  · exact e2 e
theorem Bx.apo {T:TypeId} {x:PT t} (h:Bx t T w (Kx K n L) b x) (W:Wd w0 w L) (ha:ApO w w' o o') (hi:L[i]? = some o) {j:Nat} (hj:L[j]? = some (some b)) (hji:j ≠ i):Bx t T w' (Kx K n (L.set i o')) b x:=by
  have hl:=h.lt
  obtain ⟨cs,h1,h2⟩:=h
  exact ⟨cs,(ha.grown.block b hl (ApO.away W hi hj hji)).trans h1,h2.keep (ha.keeps hi) (ha.kk hi)⟩
theorem Ow.apo {e:GT} {E:TypeId} {u:Value} {xs:List (PT e)} {c:Option Nat} (h:Ow e E w n (Kx K n L) u xs c) (W:Wd w0 w L) (ha:ApO w w' o o') (hi:L[i]? = some o) {j:Nat} (hj:L[j]? = some u.ownBlock) (hji:j ≠ i):Ow e E w' n (Kx K n (L.set i o')) u xs c:=by
  obtain ⟨cs,h1,h2,h3⟩:=h
  refine ⟨cs,h1.kept ha.grown ?_,h2.keep (ha.keeps hi) (ha.kk hi),h3⟩
  exact W.neq hji hj hi
theorem Ox.apo {q:Obj} (h:Ox q w b) (W:Wd w0 w L) (ha:ApO w w' o o') (hi:L[i]? = some o) {j:Nat} (hj:L[j]? = some (some b)) (hji:j ≠ i):Ox q w' b :=
  ⟨(ha.grown.block b h.lt (ApO.away W hi hj hji)).trans h.1,h.2⟩
theorem Rnd.apo (h:Rnd A LO w L) (ha:ApO w w' o o') (hi:L[i]? = some o):Rnd A LO w' (L.set i o') :=
  have hm:=List.mem_of_getElem? hi
  ⟨ha.grown.os.trans h.os,ha.grown.tape.trans h.tape,ha.grown.output.trans h.output,Nat.le_trans h.size ha.grown.size,fun b hl hb=>(ha.grown.block b (Nat.lt_of_lt_of_le hl h.size) fun e=>hb (h.old b hl (by rw [e];exact hm))).trans (h.keep b hl hb),
   fun b hl hb=>by
    rcases List.mem_or_eq_of_mem_set hb with hb | e
    · exact h.old b hl hb
    · rcases ha.at_ b e.symm with e2 | e2
      · exact h.old b hl (by rw [← e2];exact hm)
      · have:=h.size;omega⟩
theorem SbX.apo {X:List (Option Nat)} (h:SbX w0 X w) (a:ApO w w' o o') (hg:∀ c,o = some c → w0.heap.size ≤ c ∨ some c ∈ X):SbX w0 X w' :=
  ⟨Nat.le_trans h.size a.grown.size,fun k hk hx=>(a.grown.block k (Nat.lt_of_lt_of_le hk h.size) fun e=>by
    rcases hg k e.symm with q | q
    · omega
    · exact hx q).trans (h.block k hk hx)⟩
def Oa (e:GT) (E:TypeId) (w:World) (n:Nat) (K:Nat → Prop) (o:Option Nat) (v:Value) (xs:List (PT e)):Prop :=
  (o = v.ownBlock ∧ Ow e E w n K v xs .none) ∨ (o = .none ∧ RepV (.sl e) w K v ⟨xs,some xs.length⟩)
variable {e:GT} {E:TypeId} {xs:List (PT e)}
theorem Ow.oa {c:Option Nat} (h:Ow e E w m K v xs c):Oa e E w m K v.ownBlock v xs:=.inl ⟨rfl,h.forget⟩
theorem Oa.full {x:Sl (PT e)} (h:RepV (.sl e) w K v x) (hc:x.cap = some x.xs.length):Oa e E w m K .none v x.xs:=.inr ⟨rfl,by cases x;simp only at hc;rw [hc] at h;exact h⟩
theorem Oa.step (h:Oa e E w m K o v xs) (hb:Below w.heap.size w w'):Oa e E w' m K o v xs:=h.imp (fun h=>⟨h.1,h.2.step hb⟩) fun h=>⟨h.1,h.2.step hb⟩
theorem Oa.box (h:Oa e E w n (Kx K n L) o v xs) (hb:NewB w w' b):Oa e E w' n (Kx K n (some b :: L)) o v xs:=h.imp (fun h=>⟨h.1,h.2.box hb⟩) fun h=>⟨h.1,h.2.box hb⟩
theorem Oa.newO {o2:Option Nat} (h:Oa e E w n (Kx K n L) o v xs) (hb:NewO w w' o2):Oa e E w' n (Kx K n (o2 :: L)) o v xs:=h.imp (fun h=>⟨h.1,h.2.newO hb⟩) fun h=>⟨h.1,h.2.newO hb⟩
theorem Oa.newW (h:Oa e E w n (Kx K n L) o v xs) (hb:Wd w w' P):Oa e E w' n (Kx K n (P ++ L)) o v xs:=h.imp (fun h=>⟨h.1,h.2.newW hb⟩) fun h=>⟨h.1,h.2.newW hb⟩
theorem Oa.wrote (h:Oa e E w n (Kx K n L) o v xs) (hw:Wrote b w w') (hb:some b ∈ L) (hne:o ≠ some b):Oa e E w' n (Kx K n L) o v xs:=h.imp (fun h=>⟨h.1,h.2.wrote hw hb (h.1 ▸ hne)⟩) fun h=>⟨h.1,h.2.wrote hw hb⟩
theorem Oa.apd {u u':Value} (h:Oa e E w n (Kx K n L) o v xs) (W:Wd w0 w L) (ha:Apd w w' u u') (hi:L[i]? = some u.ownBlock) {j:Nat} (hj:L[j]? = some o) (hji:j ≠ i):Oa e E w' n (Kx K n (L.set i u'.ownBlock)) o v xs :=
  h.imp (fun h=>⟨h.1,h.2.apd W ha hi (h.1 ▸ hj) hji⟩) fun h=>⟨h.1,h.2.apd ha hi⟩
theorem Oa.apo {o1 o2:Option Nat} (h:Oa e E w n (Kx K n L) o v xs) (W:Wd w0 w L) (ha:ApO w w' o1 o2) (hi:L[i]? = some o1) {j:Nat} (hj:L[j]? = some o) (hji:j ≠ i):Oa e E w' n (Kx K n (L.set i o2)) o v xs :=
  h.imp (fun h=>⟨h.1,h.2.apo W ha hi (h.1 ▸ hj) hji⟩) fun h=>⟨h.1,h.2.apo ha hi⟩
theorem Oa.more (h:Oa e E w n (Kx K n L) o v xs):Oa e E w n (Kx K n (.none :: L)) o v xs:=h.imp (fun h=>⟨h.1,h.2.more⟩) fun h=>⟨h.1,h.2.more⟩
theorem Oa.lessAt (h:Oa e E w n (Kx K n L) o v xs) (i:Nat):Oa e E w n (Kx K n (L.eraseIdx i)) o v xs:=h.imp (fun h=>⟨h.1,h.2.lessAt i⟩) fun h=>⟨h.1,h.2.lessAt i⟩
theorem Oa.drop (h:Oa e E w n (Kx K n L) o v xs) (i:Nat):Oa e E w n (Kx K n (L.drop i)) o v xs:=h.imp (fun h=>⟨h.1,h.2.drop i⟩) fun h=>⟨h.1,h.2.drop i⟩
theorem Oa.mv {o2:Option Nat} (h:Oa e E w n (Kx K n L) o v xs) (i:Nat) (hi:L[i]? = some o2):Oa e E w n (Kx K n (o2 :: L.eraseIdx i)) o v xs:=h.imp (fun h=>⟨h.1,h.2.mv i hi⟩) fun h=>⟨h.1,h.2.mv i hi⟩
theorem Oa.fr (P LO:List (Option Nat)) (h:Oa e E w m (Kx K n (P ++ LO)) o v xs):Oa e E w m (Kx K n P) o v xs:=h.imp (fun h=>⟨h.1,h.2.fr P LO⟩) fun h=>⟨h.1,h.2.fr P LO⟩
theorem Oa.yfr (LO:List (Option Nat)) {n0:Nat} {B:World} (h:Oa e E A m (Kx K n0 (P ++ LO)) o v xs) (hy:Yst n A P B Q) (W:Wd w0 A (P ++ LO)) (hb:o ∈ LO):Oa e E B m (Kx K n0 (Q ++ LO)) o v xs :=
  h.imp (fun h=>⟨h.1,h.2.yfr LO hy W (h.1 ▸ hb)⟩) fun h=>⟨h.1,h.2.yfr LO hy⟩
theorem RepV.capNone {c:Option Nat} (h:RepV (.sl e) w K v ⟨xs,c⟩):RepV (.sl e) w K v ⟨xs,.none⟩:=by
  obtain ⟨cs,⟨A,n,c',h1,h2,h3,h4,h5,h6⟩,hv⟩:=h
  exact ⟨cs,⟨A,n,c',h1,h2,h3,h4,(fun k h=>by cases h),h6⟩,hv⟩
theorem Oa.read (h:Oa e E w n (Kx K n L) o v xs):RepV (.sl e) w (Kx K n []) v ⟨xs,.none⟩:=by
  rcases h with h | h
  · exact h.2.read
  · exact h.2.out.capNone
theorem Oa.raw (h:Oa e E w m K o v xs):∀ {K':Nat → Prop},RepV .raw w K' v v:=by
  intro K'
  rcases h with h | h
  · exact h.2.raw
  · obtain ⟨A,m0,c0,rfl,_⟩:=h.2.sl
    exact ⟨_,⟨rfl,rfl⟩,rfl⟩
theorem Oa.pubAt (h:Oa e E w n (Kx K n L) o v xs) (W:Wd w0 w L) (i:Nat) (hi:L[i]? = some o):RepV (.sl e) w (Kx K n (L.eraseIdx i)) v ⟨xs,.none⟩:=by
  rcases h with h | h
  · exact h.2.pubAt W i (h.1 ▸ hi)
  · exact (h.2.lessAt i).capNone
theorem sl3_full {α:Type} {s r:Sl α} {lo hi:Int} (h:d_v s lo hi hi = some r):r.cap = some r.xs.length:=by
  unfold d_v at h
  split at h
  · rename_i hc
    obtain rfl:=Option.some.inj h
    simp only [List.length_drop,List.length_take,Option.some.injEq]
    omega
  · cases h
end
def appO {α:Type} (xs ys:List α):Option (List α):=if ys ≠ [] ∧ xs.length + ys.length ≤ 1099511627776 then some (xs ++ ys) else .none
section
variable {ds:List Deferred} {N:Nat} {a:Act} {l:List (Nat × Value)} {w w0:World} {P:Program} {ops:Array Oper} {Q:Exit → Act → World → Prop} {rest:List Oper} {o:Oper} {Kont:Act → World → Prop} {d:Nat} {K:Nat → Prop} {n:Nat} {L:List (Option Nat)}
theorem b_W (S:StD ds N a l) (W:Wd w0 w L) {s x:Operand} {T E:TypeId} {e:GT} {v u:Value} {lb:Option Nat} {xs r:List (PT e)} {ys:Sl (PT e)} (i:Nat) (ho:o.op = .call { callee:=.builtin .append,args:=#[s,x],argTypes:=#[T,T] }) (ht:tie P (.sl e) false T [] 0 = true) (hE:P.underlying T = some (.slice E)) (hby:bytesB P T e = true) (hd:o.dst = some d) (hN:Nat.blt d N = true)
    (hs:ev l s = some v) (hx:ev l x = some u) (O:Oa e E w w0.heap.size (Kx K w0.heap.size L) lb v xs) (hi:L[i]? = some lb) (R:RepV (.sl e) w (Kx K w0.heap.size L) u ys) (hr:appO xs ys.xs = some r)
    (k:∀ a' w' v',ApO w w' lb v'.ownBlock → Ow e E w' w0.heap.size (Kx K w0.heap.size (L.set i v'.ownBlock)) v' r .none → StD ds N a' ((d,v') :: l) → Kont a' w'):o.wp P a w Kont Q:=by
  unfold appO at hr
  split at hr
  · rename_i hc
    rcases O with ⟨rfl,O⟩ | ⟨rfl,O⟩
    · refine a_M S W i ho ht hE hby hd hN hs hx O hi R (r:=r) (by unfold c_F;rw [if_pos hc.2];exact hr) fun a' w' v' A O' S'=>k a' w' v' A.apo ?_ S'
      exact O'.forget
    · refine b_5 S W ho ht hE hby hd hN hs hx O R (r:=r) (by unfold appF;rw [if_pos ⟨rfl,hc.1,hc.2⟩];exact hr) fun a' w' v' A O' S'=>k a' w' v' A.apo ?_ S'
      have hm:=O'.mv (i + 1) (o:=.none) (by simpa using hi)
      have:(L.set i v'.ownBlock).Sublist (L.set i v'.ownBlock):=List.Sublist.refl _
      obtain ⟨cs,h1,h2,h3⟩:=O'
      refine ⟨cs,h1,h2.keep (Keeps.refl _ _) fun c _ hk=>⟨hk.1,fun hm=>hk.2 ?_⟩,h3⟩
      rcases List.mem_or_eq_of_mem_set hm with hm | e
      · exact List.mem_cons_of_mem _ hm
      · rw [e];exact List.mem_cons_self ..
  · cases hr
end
end Go.Proofs.Ytlgalcekkffhnaa
namespace Go.Proofs.Ytlgalcekkffhnaa
open Go.RowKit
def Osl (e:GT) (E:TypeId) (w:World) (n:Nat) (K:Nat → Prop) (v:Value) (xs:List (PT e)):Prop :=
  (v = .slice .none 0 0 ∧ xs = []) ∨ ∃ g off cap cur cs,v = .slice (some ⟨g,off,.none⟩) xs.length cap ∧ n ≤ g ∧ w.heap[g]? = some (.cells cur E (0,0)) ∧ xs.length ≤ cap ∧ cap ≤ maxLen ∧ off + cap * e.sz ≤ cur.size ∧ RepCs (.arr xs.length e) w K cs xs ∧ (cur.toList.drop off).take (xs.length * e.sz) = cs
section
variable {w0 w w' A:World} {L LO P Q:List (Option Nat)} {K K':Nat → Prop} {n b i m:Nat} {v v':Value} {o o':Option Nat} {e:GT} {E:TypeId} {xs:List (PT e)}
theorem Ow.osl {c:Option Nat} (h:Ow e E w m K v xs c):Osl e E w m K v xs:=by
  obtain ⟨cs,h1,h2,_⟩:=h
  rcases h1.2 with ⟨rfl,hl⟩ | ⟨g,cap,cur,rfl,hb,hg,hnc,hcm,hsz,htake⟩
  · exact .inl ⟨rfl,List.eq_nil_of_length_eq_zero hl⟩
  · exact .inr ⟨g,0,cap,cur,cs,rfl,hb,hg,hnc,hcm,by omega,h2,by simpa using htake⟩
theorem Osl.frame (h:Osl e E w m K v xs) (hs:∀ g,v.ownBlock = some g → g < w.heap.size → w'.heap[g]? = w.heap[g]?) (hk:Keeps K w w') (hK:∀ c,c < w.heap.size → K c → K' c):Osl e E w' m K' v xs:=by
  rcases h with h | ⟨g,off,cap,cur,cs,rfl,h1,h2,h3,h4,h5,h6,h7⟩
  · exact .inl h
  · exact .inr ⟨g,off,cap,cur,cs,rfl,h1,(hs g rfl (Array.getElem?_eq_some_iff.1 h2).1).trans h2,h3,h4,h5,h6.keep hk hK,h7⟩
theorem Osl.step (h:Osl e E w m K v xs) (hb:Below w.heap.size w w'):Osl e E w' m K v xs:=h.frame (fun g _ hl=>hb.block g hl) (Keeps.below hb) fun _ _ h=>h
theorem Osl.newO (h:Osl e E w n (Kx K n L) v xs) (hN:NewO w w' o):Osl e E w' n (Kx K n (o :: L)) v xs:=h.frame (fun g _ hl=>hN.below.block g hl) (Keeps.below hN.below) fun c hc hk=>Kx.newO hN hc hk
theorem Osl.box (h:Osl e E w n (Kx K n L) v xs) (hb:NewB w w' b):Osl e E w' n (Kx K n (some b :: L)) v xs:=h.newO (NewB.newO hb)
theorem Osl.newW (h:Osl e E w n (Kx K n L) v xs) (hN:Wd w w' P):Osl e E w' n (Kx K n (P ++ L)) v xs:=h.frame (fun g _ hl=>hN.below.block g hl) (Keeps.below hN.below) fun c hc hk=>Kx.newW hN hc hk
theorem Osl.wrote (h:Osl e E w n (Kx K n L) v xs) (hw:Wrote b w w') (hb:some b ∈ L) (hne:v.ownBlock ≠ some b):Osl e E w' n (Kx K n L) v xs:=h.frame (fun g hg _=>hw.block g fun e=>hne (by rw [hg,e])) (Keeps.wrote hw hb) fun _ _ h=>h
theorem Osl.apo (h:Osl e E w n (Kx K n L) v xs) (W:Wd w0 w L) (ha:ApO w w' o o') (hi:L[i]? = some o) {j:Nat} (hj:L[j]? = some v.ownBlock) (hji:j ≠ i):Osl e E w' n (Kx K n (L.set i o')) v xs :=
  h.frame (fun g hg hl=>ha.grown.block g hl (ApO.away W hi (hg ▸ hj) hji)) (ha.keeps hi) (ha.kk hi)
theorem Osl.apd {u u':Value} (h:Osl e E w n (Kx K n L) v xs) (W:Wd w0 w L) (ha:Apd w w' u u') (hi:L[i]? = some u.ownBlock) {j:Nat} (hj:L[j]? = some v.ownBlock) (hji:j ≠ i):Osl e E w' n (Kx K n (L.set i u'.ownBlock)) v xs:=h.apo W ha.apo hi hj hji
theorem Osl.more (h:Osl e E w n (Kx K n L) v xs):Osl e E w n (Kx K n (.none :: L)) v xs:=h.frame (fun _ _ _=>rfl) (Keeps.refl _ _) fun _ _ hk=>hk.more
theorem Osl.less {L':List (Option Nat)} (h:Osl e E w n (Kx K n L) v xs) (hs:L'.Sublist L):Osl e E w n (Kx K n L') v xs:=h.frame (fun _ _ _=>rfl) (Keeps.refl _ _) fun c _ hk=>⟨hk.1,fun hm=>hk.2 (hs.subset hm)⟩
theorem Osl.lessAt (h:Osl e E w n (Kx K n L) v xs) (i:Nat):Osl e E w n (Kx K n (L.eraseIdx i)) v xs:=h.less (List.eraseIdx_sublist _ _)
theorem Osl.drop (h:Osl e E w n (Kx K n L) v xs) (i:Nat):Osl e E w n (Kx K n (L.drop i)) v xs:=h.less (List.drop_sublist _ _)
theorem Osl.mv (h:Osl e E w m (Kx K n L) v xs) (i:Nat) (hi:L[i]? = some o):Osl e E w m (Kx K n (o :: L.eraseIdx i)) v xs:=h.frame (fun _ _ _=>rfl) (Keeps.refl _ _) fun c _ hk=>⟨hk.1,fun hm=>hk.2 (c_L hi hm)⟩
theorem Osl.fr (P LO:List (Option Nat)) (h:Osl e E w m (Kx K n (P ++ LO)) v xs):Osl e E w m (Kx K n P) v xs:=h.frame (fun _ _ _=>rfl) (Keeps.refl _ _) fun c _ hk=>⟨hk.1,fun hm=>hk.2 (List.mem_append.2 (.inl hm))⟩
theorem Osl.yfr (LO:List (Option Nat)) {n0:Nat} {B:World} (h:Osl e E A m (Kx K n0 (P ++ LO)) v xs) (hy:Yst n A P B Q) (W:Wd w0 A (P ++ LO)) (hb:v.ownBlock ∈ LO):Osl e E B m (Kx K n0 (Q ++ LO)) v xs :=
  h.frame (fun g hg hl=>hy.keep g hl (hy.apart W (hg ▸ hb))) hy.keepsf fun c hc hk=>hy.kkf hc hk
theorem Osl.lt (h:Osl e E w m K v xs):∀ g,v.ownBlock = some g → m ≤ g ∧ g < w.heap.size:=by
  intro g0 hg0
  rcases h with ⟨rfl,_⟩ | ⟨g,off,cap,cur,cs,rfl,h1,h2,_⟩
  · cases hg0
  · obtain rfl:g = g0:=by simpa [Value.ownBlock] using hg0
    exact ⟨h1,(Array.getElem?_eq_some_iff.1 h2).1⟩
theorem Osl.pub {L':List (Option Nat)} (h:Osl e E w n (Kx K n L) v xs) (hs:L'.Sublist L) (hno:∀ k,v.ownBlock = some k → some k ∉ L'):RepV (.sl e) w (Kx K n L') v ⟨xs,.none⟩:=by
  have hk:∀ c,Kx K n L c → Kx K n L' c:=fun c hk=>⟨hk.1,fun hm=>hk.2 (hs.subset hm)⟩
  rcases h with ⟨rfl,rfl⟩ | ⟨g,off,cap,cur,cs,rfl,hb,hg,hnc,hcm,hsz,h2,htake⟩
  · exact ⟨[_],⟨.none,0,0,rfl,rfl,Nat.le_refl _,by omega,(fun q hq=>by cases hq),.inl rfl⟩,rfl⟩
  · refine ⟨[_],⟨_,xs.length,cap,rfl,rfl,hnc,by simpa [maxLen] using hcm,fun q hq=>(by cases hq),?_⟩,rfl⟩
    refine RowsOf.of_cells (cs:=cs) (h2.keep (Keeps.refl _ _) fun c _ h=>hk c h) (Array.getElem?_eq_some_iff.1 hg).1 ⟨.inr hb,hno g rfl⟩ fun i u hu=>?_
    rw [cell_of_row w g (off + i) cur E (0,0) hg]
    rw [← htake,List.getElem?_take] at hu
    split at hu
    · rw [List.getElem?_drop] at hu;simpa using hu
    · cases hu
theorem Osl.read (h:Osl e E w n (Kx K n L) v xs):RepV (.sl e) w (Kx K n []) v ⟨xs,.none⟩:=h.pub (List.nil_sublist _) fun _ _ h=>(List.not_mem_nil h).elim
theorem Osl.pubAt (h:Osl e E w n (Kx K n L) v xs) (W:Wd w0 w L) (i:Nat) (hi:L[i]? = some v.ownBlock):RepV (.sl e) w (Kx K n (L.eraseIdx i)) v ⟨xs,.none⟩:=by
  refine h.pub (List.eraseIdx_sublist _ _) fun k hk hm=>?_
  obtain ⟨j,hji,hj⟩:=b_t hm
  rcases W.neq hji hj hi with e | e
  · cases e
  · exact e hk.symm
theorem Osl.raw (h:Osl e E w m K v xs):∀ {K':Nat → Prop},RepV .raw w K' v v:=by
  intro K'
  rcases h with ⟨rfl,_⟩ | ⟨g,off,cap,cur,cs,rfl,_⟩
  · exact ⟨_,⟨rfl,rfl⟩,rfl⟩
  · exact ⟨_,⟨rfl,rfl⟩,rfl⟩
end
def dropI {α:Type} (xs:List α) (lo:Int):Option (List α):=if 0 ≤ lo ∧ lo ≤ xs.length then some (xs.drop lo.toNat) else .none
section
variable {ds:List Deferred} {N:Nat} {a:Act} {l:List (Nat × Value)} {w w0:World} {P:Program} {ops:Array Oper} {Q:Exit → Act → World → Prop} {rest:List Oper} {o:Oper} {Kont:Act → World → Prop} {d:Nat} {K:Nat → Prop} {n:Nat} {L:List (Option Nat)}
theorem d_J (S:StD ds N a l) {T E:TypeId} {x:Operand} {lo:Operand} {e:GT} {v:Value} {xs r:List (PT e)} {m:Int} {kd:IntKind} (ho:o.op = .slice T x (some lo) .none .none) (ht:tie P (.sl e) false T [] 0 = true) (hE:P.underlying T = some (.slice E)) (hd:o.dst = some d) (hN:Nat.blt d N = true)
    (hx:ev l x = some v) (O:Osl e E w n K v xs) (hlo:ev l lo = some (.int kd m)) (hr:dropI xs m = some r)
    (k:∀ a' v',v'.ownBlock = v.ownBlock → Osl e E w n K v' r → StD ds N a' ((d,v') :: l) → Kont a' w):o.wp P a w Kont Q:=by
  obtain ⟨E',hE',htE⟩:=a_6 ht
  obtain rfl:E = E':=by rw [hE] at hE';injection hE' with h;injection h
  obtain ⟨ie,hie,hse⟩:=a_H htE
  unfold dropI at hr
  split at hr
  · rename_i hc
    obtain ⟨c0,c1⟩:=hc
    obtain rfl:=Option.some.inj hr
    have key:∃ A n0 c,v = .slice A n0 c ∧ n0 = xs.length ∧ n0 ≤ c ∧ c ≤ maxLen:=by
      rcases O with ⟨rfl,rfl⟩ | ⟨g,off,cap,cur,cs,rfl,_,_,h3,h4,_⟩
      · exact ⟨_,_,_,rfl,rfl,Nat.le_refl _,by simp [maxLen]⟩
      · exact ⟨_,_,_,rfl,rfl,h3,h4⟩
    obtain ⟨A,n0,c,rfl,hn0,hnc,hcm⟩:=key
    have hcm':c ≤ 9223372036854775807:=by simpa [maxLen] using hcm
    have hrun:(Instr.sliceAt T (.slice A n0 c) ((some lo).map a.eval) ((.none:Option Operand).map a.eval) .none).run P w = .ok (.slice (if c = m.toNat then A else A.map (·.add (m.toNat * e.sz))) (n0 - m.toNat) (c - m.toNat)) w:=by
      have c1':m ≤ (n0:Int):=by rw [hn0];exact c1
      simp [Instr.sliceAt,Instr.slice,Instr.sliceBounds,Instr.sliceBound,asIntOf,run_underlying hE,sizeOf,typeInfo,hie,hse,S.eval hlo,c0,c1']
    refine a_E S (v:=.slice (if c = m.toNat then A else A.map (·.add (m.toNat * e.sz))) (n0 - m.toNat) (c - m.toNat)) hd hN (by simp only [Option.map_some,Option.map_none] at hrun;simp [execOp,ho,S.eval hx,hrun]) fun a'=>k a' _ ?_ ?_
    · rcases O with ⟨e1,_⟩ | ⟨g,off,cap,cur,cs,e1,_⟩
      · injection e1 with f1 f2 f3
        subst f1
        simp [Value.ownBlock]
      · injection e1 with f1 f2 f3
        subst f1
        split
        · rfl
        · simp [Value.ownBlock,Addr.add_lit]
    · rcases O with ⟨e1,rfl⟩ | ⟨g,off,cap,cur,cs,e1,h1,h2,h3,h4,h5,h6,h7⟩
      · injection e1 with f1 f2 f3
        subst f1 f2 f3
        have:m.toNat = 0:=by simp at c1;omega
        rw [this]
        exact .inl ⟨by simp,by simp⟩
      · injection e1 with f1 f2 f3
        subst f1 f2 f3
        have hl:(xs.drop m.toNat).length = xs.length - m.toNat:=List.length_drop
        by_cases hcm2:c = m.toNat
        · have hz2:off + (c - m.toNat) * e.sz ≤ cur.size:=by
            have:(c - m.toNat) * e.sz = 0:=by rw [hcm2];simp
            omega
          refine .inr ⟨g,off,c - m.toNat,cur,[],by rw [if_pos hcm2,hl],h1,h2,by rw [hl];omega,by omega,hz2,?_,?_⟩
          · have:xs.drop m.toNat = []:=List.eq_nil_of_length_eq_zero (by rw [hl];omega)
            rw [this]
            exact ⟨rfl,[],rfl,rfl,fun j c y h=>by simp at h⟩
          · rw [hl];have:xs.length - m.toNat = 0:=by omega
            rw [this];simp
        · have hsub:c * e.sz = m.toNat * e.sz + (c - m.toNat) * e.sz:=by rw [← Nat.add_mul];congr 1;omega
          refine .inr ⟨g,off + m.toNat * e.sz,c - m.toNat,cur,cs.drop (m.toNat * e.sz),?_,h1,h2,by rw [hl];omega,by omega,by omega,arr_drop h6 _,?_⟩
          · rw [if_neg hcm2,hl];simp [Addr.add_lit]
          · rw [← h7,List.drop_take,List.drop_drop,hl,Nat.sub_mul]
  · cases hr
theorem b_8 (t ty E:TypeId) (ie:TypeInfo) (ht:P.underlying t = some (.slice E)) (hi:P.info? E = some ie)
    (g off sLen sCap:Nat) (cur:Array Value) (hg:w.heap[g]? = some (.cells cur E (0,0)))
    (ad:Addr) (m c:Nat) (news:List Value) (hl:news.length = m * ie.size) (hnews:∀ j u,news[j]? = some u → w.cell? (ad.add j) = some u) (h1:∀ u ∈ news,u.oneCell' = true)
    (hroom:sLen + m ≤ sCap) (hfit:off + sLen * ie.size + news.length ≤ cur.size) :
    (Builtin.append_ #[t,t] ty #[.slice (some ⟨g,off,none⟩) sLen sCap,.slice (some ad) m c]).run P w =
      .ok (.slice (some ⟨g,off,none⟩) (sLen + m) sCap) (w.setRow g (cur.toList.take (off + sLen * ie.size) ++ news ++ cur.toList.drop (off + sLen * ie.size + news.length)).toArray):=by
  have hf:=run_firstCells_some (P:=P) w ie.size m ad m c news hl hnews
  have hst:=run_storeCells_at P g (off + sLen * ie.size) E news 0 cur w hg (by simpa using hfit) h1
  simp only [Nat.add_zero] at hst
  simp [Builtin.append_,run_underlying ht,sizeOf,typeInfo,hi,Builtin.lenOf,hroom,hf,Addr.add_lit,hst]
theorem d_b (S:StD ds N a l) (W:Wd w0 w L) {s x:Operand} {T E:TypeId} {e:GT} {v u:Value} {xs r:List (PT e)} {ys:Sl (PT e)} (i:Nat) (ho:o.op = .call { callee:=.builtin .append,args:=#[s,x],argTypes:=#[T,T] }) (ht:tie P (.sl e) false T [] 0 = true) (hE:P.underlying T = some (.slice E)) (hby:bytesB P T e = true) (hd:o.dst = some d) (hN:Nat.blt d N = true)
    (hs:ev l s = some v) (hx:ev l x = some u) (O:Osl e E w w0.heap.size (Kx K w0.heap.size L) v xs) (hi:L[i]? = some v.ownBlock) (R:RepV (.sl e) w (Kx K w0.heap.size L) u ys) (hr:c_F xs ys.xs = some r)
    (k:∀ a' w' v',ApO w w' v.ownBlock v'.ownBlock → Osl e E w' w0.heap.size (Kx K w0.heap.size (L.set i v'.ownBlock)) v' r → StD ds N a' ((d,v') :: l) → Kont a' w'):o.wp P a w Kont Q:=by
  rcases O with ⟨rfl,rfl⟩ | ⟨g,off,cap,cur,cs,rfl,hb,hg,hnc,hcm,hsz,h2,htake⟩
  · exact a_M S W i ho ht hE hby hd hN hs hx Ow.nil hi R hr fun a' w' v' A O' S'=>k a' w' v' A.apo O'.osl S'
  · obtain ⟨A,m,cu,rfl,hm,hmc,hc63,_,hrow⟩:=R.sl
    obtain ⟨E',hE',htE⟩:=a_6 ht
    obtain rfl:E = E':=by rw [hE] at hE';injection hE' with h;injection h
    obtain ⟨ie,hie,hse⟩:=a_H htE
    unfold bytesB at hby
    rw [hE] at hby
    simp only [hie,Option.any_some,Bool.and_eq_true,Nat.blt_eq,Nat.ble_eq] at hby
    obtain ⟨hszp,hbytes,hz⟩:=hby
    obtain ⟨z,hz0,hz1⟩:∃ z,ie.zero = some z ∧ z.cells.size = e.sz:=by
      cases hzz:ie.zero with
      | none=>rw [hzz] at hz;cases hz
      | some z=>rw [hzz] at hz;exact ⟨z,rfl,by simpa using hz⟩
    unfold c_F at hr
    split at hr
    · rename_i hle
      obtain rfl:=Option.some.inj hr
      obtain ⟨dd,hds,hA⟩:=hrow.cells
      have hdl:dd.length = ys.xs.length * e.sz:=hds.len
      have hcl:cs.length = xs.length * e.sz:=h2.len
      have hgL:some g ∈ L:=List.mem_of_getElem? hi
      have hlen:(xs ++ ys.xs).length = xs.length + m:=by rw [List.length_append,hm]
      have hgl:=(Array.getElem?_eq_some_iff.1 hg).1
      rcases hA with hx0 | ⟨b,off2,rfl,hb2,hKb,hcell⟩
      · have hm0:m = 0:=by rw [← hm,hx0];rfl
        subst hm0
        have hrun:(Builtin.append_ #[T,T] o.type #[.slice (some ⟨g,off,.none⟩) xs.length cap,.slice A 0 cu]).run P w = .ok (.slice (some ⟨g,off,.none⟩) xs.length cap) w:=by
          cases A with
          | none=>simp [Builtin.append_,run_underlying hE,sizeOf,typeInfo,hie,Builtin.lenOf,Builtin.firstCells,hnc,storeCells]
          | some ad=>simp [Builtin.append_,run_underlying hE,sizeOf,typeInfo,hie,Builtin.lenOf,Builtin.firstCells,hnc,storeCells,loadCells,loadCellsFrom]
        have hlt:∀ q,(Value.slice (some ⟨g,off,.none⟩) xs.length cap).ownBlock = some q → q < w.heap.size:=fun q hq=>by
          obtain rfl:g = q:=by simpa [Value.ownBlock] using hq
          exact hgl
        refine a_E S (v:=.slice (some ⟨g,off,.none⟩) xs.length cap) (w':=w) hd hN (by simp [execOp,ho,resolve,invoke,builtin,S.eval hs,S.eval hx,hrun]) fun a'=>k a' _ _ ⟨World.grownBy.refl w _,fun q hq=>.inl hq,hlt⟩ ?_
        rw [hx0,List.append_nil]
        have hset:L.set i (Value.slice (some ⟨g,off,.none⟩) xs.length cap).ownBlock = L:=by
          obtain ⟨hl,he⟩:=List.getElem?_eq_some_iff.1 hi
          rw [← he];exact List.set_getElem_self hl
        rw [hset]
        exact .inr ⟨g,off,cap,cur,cs,rfl,hb,hg,hnc,hcm,hsz,h2,htake⟩
      · by_cases hroom:xs.length + m ≤ cap
        · have hml:m * e.sz = dd.length:=by rw [hdl,hm]
          have hfit:off + xs.length * ie.size + dd.length ≤ cur.size:=by
            have:(xs.length + m) * e.sz ≤ cap * e.sz:=Nat.mul_le_mul_right _ hroom
            rw [Nat.add_mul] at this
            rw [hse];omega
          have hrun:=b_8 (P:=P) (w:=w) T o.type E ie hE hie g off xs.length cap cur hg ⟨b,off2,.none⟩ m cu dd (by rw [hse];omega) (fun j q hq=>by rw [Addr.add_lit];exact hcell j q hq) hds.one hroom hfit
          rw [hse] at hrun hfit
          have hw:=b_y w g (cur.toList.take (off + xs.length * e.sz) ++ dd ++ cur.toList.drop (off + xs.length * e.sz + dd.length)).toArray
          have hap:ApO w (w.setRow g (cur.toList.take (off + xs.length * e.sz) ++ dd ++ cur.toList.drop (off + xs.length * e.sz + dd.length)).toArray) (some g) (some g) :=
            ⟨⟨hw.os,hw.tape,hw.output,Nat.le_of_eq hw.size.symm,fun q hq hne=>hw.block q fun e_=>hne (by rw [e_])⟩,fun q hq=>.inl hq,fun q hq=>by obtain rfl:=Option.some.inj hq;rw [hw.size];exact hgl⟩
          refine a_E S (v:=.slice (some ⟨g,off,.none⟩) (xs.length + m) cap) (w':=w.setRow g (cur.toList.take (off + xs.length * e.sz) ++ dd ++ cur.toList.drop (off + xs.length * e.sz + dd.length)).toArray) hd hN (by simp [execOp,ho,resolve,invoke,builtin,S.eval hs,S.eval hx,hrun]) fun a'=>k a' _ _ hap ?_
          have happ:=b_H h2 hds
          refine .inr ⟨g,off,cap,_,cs ++ dd,by rw [hlen],hb,setRow_heap w g cur _ E (0,0) hg,by rw [hlen];exact hroom,hcm,?_,happ.keep (hap.keeps hi) (hap.kk hi),?_⟩
          · have hcs:cur.toList.length = cur.size:=Array.length_toList
            simp only [List.size_toArray,List.length_append,List.length_take,List.length_drop,hcs]
            omega
          · have hcs:cur.toList.length = cur.size:=Array.length_toList
            have e1:(cur.toList.take (off + xs.length * e.sz)).drop off = cs:=by rw [List.drop_take,Nat.add_sub_cancel_left];exact htake
            rw [hlen,List.append_assoc,List.drop_append_of_le_length (by rw [List.length_take];omega),e1,← List.append_assoc]
            rw [List.take_append_of_le_length (by rw [List.length_append,hcl,Nat.add_mul];omega)]
            rw [List.take_of_length_le (by rw [List.length_append,hcl,Nat.add_mul];omega)]
        · have hmpos:0 < m:=by omega
          obtain ⟨v',w',hrun,a1,a2⟩:=run_append_arg_grows (P:=P) w T o.type E ie z e.sz ie.bytes hE hie hz0 hse rfl hz1 hszp ⟨g,off,.none⟩ xs.length cap cs hcl (fun j q hq=>by
              rw [Addr.add_lit,cell_of_row w g (off + j) cur E (0,0) hg]
              rw [← htake,List.getElem?_take] at hq
              split at hq
              · rw [List.getElem?_drop] at hq;simpa using hq
              · cases hq) ⟨b,off2,.none⟩ m cu dd (by rw [hdl,hm]) (fun j q hq=>by rw [Addr.add_lit];exact hcell j q hq) (by omega) (by simp only [maxLen];omega) (by
              have:(xs.length + m) * ie.bytes ≤ 1099511627776 * 128:=Nat.mul_le_mul (by omega) hbytes
              omega)
          have hap:ApO w w' (some g) v'.ownBlock:=⟨⟨a2.os,a2.tape,a2.output,a2.size,fun q hq _=>a2.block q hq (by simp)⟩,fun q hq=>.inr (a1.lt q hq).1,fun q hq=>(a1.lt q hq).2⟩
          refine a_E S (v:=v') (w':=w') hd hN (by simp [execOp,ho,resolve,invoke,builtin,S.eval hs,S.eval hx,hrun]) fun a'=>k a' _ _ hap ?_
          have happ:=b_H h2 hds
          have O':Ow e E w' w.heap.size (Kx K w0.heap.size (L.set i v'.ownBlock)) v' (xs ++ ys.xs) .none:=⟨cs ++ dd,by rw [hlen];exact a1,happ.keep (hap.keeps hi) (hap.kk hi),fun q hq=>by cases hq⟩
          rcases O'.osl with h | ⟨g',off',cap',cur',cs',e1,e2,e3⟩
          · exact .inl h
          · exact .inr ⟨g',off',cap',cur',cs',e1,by have:=W.below.size;omega,e3⟩
    · cases hr
end
end Go.Proofs.Ytlgalcekkffhnaa
