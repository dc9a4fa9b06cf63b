/- The rules of the walk over plain data, more: elements of arrays that lie in places; min and max. Plain theorems, no condition. -/
import Derived.Test.YtfelbalkobcfhaaXE12
set_option linter.unusedVariables false
set_option linter.unusedSimpArgs false
namespace Go.Proofs.Ytfelbalkobcfhaa
open Go.RowKit
section
variable {ds:List Deferred} {N:Nat} {a:Act} {l:List (Nat × Value)} {w w0:World} {P:Program} {ops:Array Oper} {Q:Exit → Act → World → Prop} {rest:List Oper} {o:Oper} {Kont:Act → World → Prop} {d:Nat} {K:Nat → Prop} {n:Nat} {L:List (Option Nat)}
theorem RepAt.ix {m:Nat} {e:GT} {p:Addr} {x:List (PT e)} (h:RepAt (.arr m e) w K p x) {j:Int} {y:PT e} (hj:idx x j = some y):RepAt e w K (p.add (j.toNat * e.sz)) y:=by
  obtain ⟨h0,hg,hlt⟩:=a_1 hj
  obtain ⟨b,off,spot⟩:=p
  obtain ⟨hs,cs,hr,hc⟩:=h
  obtain rfl:spot = none:=hs
  have hjl:j.toNat < x.length:=by omega
  have hm:j.toNat < m:=by have:=hr.1;omega
  obtain ⟨c1,c,c2,rfl,hl1,hrep,_⟩:=Ln.arr (n:=m) hm y w K cs x hr
  rw [Addr.add_lit]
  refine ⟨rfl,c,?_,fun i v hv=>?_⟩
  · have:x.getD j.toNat y = y:=by simp [List.getD,hg]
    have hrep':RepCs e w K c (x.getD j.toNat y):=hrep
    rw [this] at hrep'
    exact hrep'
  · have hi:=(List.getElem?_eq_some_iff.1 hv).1
    have:=hc (c1.length + i) v (by rw [List.append_assoc,List.getElem?_append_right (by omega),List.getElem?_append_left (by omega)];simpa using hv)
    rw [hl1,← Nat.add_assoc] at this
    exact this
theorem a_s (S:StD ds N a l) {T:TypeId} {x i:Operand} {m:Nat} {e:GT} {p:Addr} {xs:List (PT e)} {k0:IntKind} {j:Int} {y:PT e} (ho:o.op = .indexAddr T x i) (ht:tie P (.arr m e) false T [] 0 = true) (hd:o.dst = some d) (hN:Nat.blt d N = true)
    (hx:ev l x = some (.pointer (some p))) (R:RepAt (.arr m e) w K p xs) (hi:ev l i = some (.int k0 j)) (hj:idx xs j = some y)
    (k:∀ a',StD ds N a' ((d,.pointer (some (p.add (j.toNat * GT.sz e)))) :: l) → Kont a' w):o.wp P a w Kont Q:=by
  obtain ⟨E,hE,htE⟩:=b_8 ht
  obtain ⟨ie,hie,hse⟩:=a_E htE
  obtain ⟨h0,hg,hlt⟩:=a_1 hj
  have hlen:xs.length = m:=by obtain ⟨_,_,hr,_⟩:=R;exact hr.1
  have hlt':0 ≤ j ∧ j < (m:Int):=by omega
  refine a_D S (v:=.pointer (some (p.add (j.toNat * e.sz)))) hd hN ?_ k
  simp [execOp,ho,S.eval hx,S.eval hi,Instr.indexAt,asIntOf,run_underlying hE,hlt',sizeOf,typeInfo,hie,hse,Instr.sureAddr]
end
section
variable {ds:List Deferred} {N:Nat} {a:Act} {l:List (Nat × Value)} {w w0:World} {P:Program} {ops:Array Oper} {Q:Exit → Act → World → Prop} {rest:List Oper} {o:Oper} {Kont:Act → World → Prop} {d:Nat}
theorem op_max (S:StD ds N a l) {T:Array TypeId} {x y:Operand} {k k':IntKind} {m n:Int} (ho:o.op = .call { callee:=.builtin .max,args:=#[x,y],argTypes:=T }) (hd:o.dst = some d) (hN:Nat.blt d N = true)
    (hx:ev l x = some (.int k m)) (hy:ev l y = some (.int k' n)) (c:∀ a',StD ds N a' ((d,.int k (if n > m then n else m)) :: l) → Kont a' w):o.wp P a w Kont Q:=by
  refine a_D S hd hN ?_ c
  simp [execOp,ho,resolve,invoke,builtin,S.eval hx,S.eval hy,run_max_int2]
theorem inR_ite {k:IntKind} {p:Prop} [Decidable p] {x y:Int} (hx:InR k x) (hy:InR k y):InR k (if p then x else y):=by split <;> assumption
end
def d_j (g:GT) (K:Nat → Prop) (x:PT g):Value → World → Prop:=fun v w=>∃ p:Addr,v = .pointer (some p) ∧ RepAt g w K p x ∧ p.block < w.heap.size
theorem b_7 {g:GT} {K:Nat → Prop} {x:PT g}:d_P Bl (d_j g K x):=fun _ w w' hb ⟨p,e,h,hp⟩ =>
  ⟨p,e,h.keep (Keeps.below hb) (fun _ _ h=>h) (fun i _=>Below.cell hb hp),by have:=Below.size hb;omega⟩
theorem Wd.ownlt {w0 w:World} {L:List (Option Nat)} (h:Wd w0 w L) {o:Option Nat} {g:Nat} (ho:o ∈ L) (e:o = some g):g < w.heap.size:=(h.own g (e ▸ ho)).2
end Go.Proofs.Ytfelbalkobcfhaa
