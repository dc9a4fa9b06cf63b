/- The rules of the walk over plain data, more: arrays that are built, appends to full slices, a scope, what is not nil. Plain theorems, no condition. -/
import Derived.Test.YtfelbalkobcfhaaXE25
import Derived.ArgAppend
import Derived.Scope
set_option linter.unusedVariables false
set_option linter.unusedSimpArgs false
namespace Go.Proofs.Ytfelbalkobcfhaa
open Go.RowKit
section
variable {ds:List Deferred} {N:Nat} {a:Act} {l:List (Nat × Value)} {w w0:World} {P:Program} {ops:Array Oper} {Q:Exit → Act → World → Prop} {rest:List Oper} {o:Oper} {Kont:Act → World → Prop} {d:Nat} {K:Nat → Prop} {n:Nat} {L:List (Option Nat)}
theorem b_P (S:StD ds N a l) {T:TypeId} {parts:Array (Nat × Operand)} {m:Nat} {e:GT} {z0 x:List (PT e)} {vs:List Value} (z:Value) (ze:PT e) (ho:o.op = .build T parts) (ht:tie P (.arr m e) false T [] 0 = true) (hz:(P.info? T).bind (·.zero) = some z) (R:∀ w K,RepCs (.arr m e) w K z.cells.toList z0) (hd:o.dst = some d) (hN:Nat.blt d N = true)
    (hv:evs l (parts.toList.map (·.2)) = some vs) (ps:List (Nat × Value)) (hps:ps = (parts.toList.map (·.1)).zip vs) (hp:e.isPair = false) (F:FillsA m e w K ps z0 x) (k:∀ a' v,RepV (.arr m e) w K v x → StD ds N a' ((d,v) :: l) → Kont a' w):o.wp P a w Kont Q:=by
  obtain ⟨E,hE,hte⟩:=b_8 ht
  obtain ⟨i,hi,hsz⟩:=a_E ht
  obtain ⟨j,hj,hjs⟩:=a_E hte
  have hz0:i.zero = some z:=by rw [hi] at hz;exact hz
  obtain ⟨cs',hfill,hrep⟩:=d_X ze ps z.cells.toList z0 x hp (R w K) F
  have hparts:(parts.map fun (p:Nat × Operand)=>(p.1,a.eval p.2)).toList = ps:=by
    rw [hps,← S.evs hv,Array.toList_map]
    induction parts.toList with
    | nil=>rfl
    | cons p r ih=>simp [ih]
  refine a_D S (v:=.agg cs'.toArray) hd hN ?_ fun a'=>k a' _ ⟨cs',hrep,rfl⟩
  have hpm:parts.map (fun (x:Nat × Operand)=>match x with | (i,x)=>(i,a.eval x)) = parts.map fun (p:Nat × Operand)=>(p.1,a.eval p.2):=rfl
  have hfill':Instr.fill (fun i=>some (i * e.sz,e.sz)) z.cells ps = some cs'.toArray:=by simpa using hfill
  simp only [execOp,ho,hpm,Instr.build,zeroValue,typeInfo,sizeOf,Sem.run_bind,run_program,hi,hj,hjs,Result.andThen_ok,Sem.run_pure,hz0,run_underlying hE,hparts,hfill']
def appF {α:Type} (s:Sl α) (ys:List α):Option (List α):=if s.cap = some s.xs.length ∧ ys ≠ [] ∧ s.xs.length + ys.length ≤ 1099511627776 then some (s.xs ++ ys) else .none
theorem d_k (S:StD ds N a l) (W:Wd w0 w L) {s x:Operand} {T E:TypeId} {e:GT} {v u:Value} {r:List (PT e)} {xs ys:Sl (PT e)} (ho:o.op = .call { callee:=.builtin .append,args:=#[s,x],argTypes:=#[T,T] }) (ht:tie P (.sl e) false T [] 0 = true) (hE:P.underlying T = some (.slice E)) (hby:bytesB P T e = true) (hd:o.dst = some d) (hN:Nat.blt d N = true)
    (hs:ev l s = some v) (hx:ev l x = some u) (R0:RepV (.sl e) w (Kx K w0.heap.size L) v xs) (R:RepV (.sl e) w (Kx K w0.heap.size L) u ys) (hr:appF xs ys.xs = some r)
    (k:∀ a' w' v',NewO w w' v'.ownBlock → Ow e E w' w0.heap.size (Kx K w0.heap.size (v'.ownBlock :: L)) v' r .none → StD ds N a' ((d,v') :: l) → Kont a' w'):o.wp P a w Kont Q:=by
  unfold appF at hr
  split at hr
  · rename_i hcnd
    obtain ⟨hcap,hne,hle⟩:=hcnd
    obtain rfl:=Option.some.inj hr
    obtain ⟨A0,m0,c0,rfl,hm0,hmc0,_,hq0,hrow0⟩:=R0.sl
    obtain ⟨A,m,cu,rfl,hm,hmc,hc63,_,hrow⟩:=R.sl
    obtain rfl:c0 = xs.xs.length:=hq0 _ hcap
    obtain ⟨E',hE',htE⟩:=b_b ht
    obtain rfl:E = E':=by rw [hE] at hE';injection hE' with h;injection h
    obtain ⟨ie,hie,hse⟩:=a_E htE
    unfold bytesB at hby
    rw [hE] at hby
    simp only [hie,Option.any_some,Bool.and_eq_true,Nat.blt_eq,Nat.ble_eq] at hby
    obtain ⟨hsz,hbytes,hz⟩:=hby
    obtain ⟨z,hz0,hz1⟩:∃ z,ie.zero = some z ∧ z.cells.size = e.sz:=by
      cases hzz:ie.zero with
      | none=>rw [hzz] at hz;cases hz
      | some z=>rw [hzz] at hz;exact ⟨z,rfl,by simpa using hz⟩
    obtain ⟨d0,hd0,hA0⟩:=hrow0.cells
    obtain ⟨d1,hd1,hA⟩:=hrow.cells
    have hmpos:0 < m:=by rw [← hm];exact List.length_pos_iff.2 hne
    obtain ⟨b,off,rfl,hb,hKb,hcell⟩:=hA.resolve_left hne
    have hl0:=hd0.len
    have hl1:=hd1.len
    have hb2:(m0 + m) * ie.bytes ≤ 140737488355328:=by
      have:(m0 + m) * ie.bytes ≤ 1099511627776 * 128:=Nat.mul_le_mul (by omega) hbytes
      omega
    have key:∃ v' w',(Builtin.append_ #[T,T] o.type #[.slice A0 m0 xs.xs.length,.slice (some ⟨b,off,.none⟩) m cu]).run P w = .ok v' w' ∧ w'.ownsRow w.heap.size E e.sz v' (m0 + m) (d0 ++ d1) ∧ w.grownBy w' none:=by
      cases A0 with
      | some ad =>
        have hcell0:∀ j q,d0[j]? = some q → w.cell? (ad.add j) = some q:=by
          intro j q hq
          rcases hA0 with h0 | ⟨b0,off0,e0,_,_,h0⟩
          · have:d0 = []:=List.eq_nil_of_length_eq_zero (by rw [hl0];simp [GT.sz,h0])
            rw [this] at hq;cases hq
          · injection e0 with e0;subst e0;rw [Addr.add_lit];exact h0 j q hq
        exact run_append_arg_grows (P:=P) w T o.type E ie z e.sz ie.bytes hE hie hz0 hse rfl hz1 hsz ad m0 xs.xs.length d0 (by rw [hl0];simp [GT.sz,hm0]) hcell0 ⟨b,off,.none⟩ m cu d1 (by rw [hl1];simp [GT.sz,hm]) (fun j q hq=>by rw [Addr.add_lit];exact hcell j q hq) (by omega) (by simp only [maxLen];omega) hb2
      | none =>
        have hx0:xs.xs = []:=by
          rcases hA0 with h0 | ⟨b0,off0,e0,_⟩
          · exact h0
          · cases e0
        have hm00:m0 = 0:=by rw [← hm0,hx0];rfl
        subst hm00
        have hd00:d0 = []:=List.eq_nil_of_length_eq_zero (by rw [hl0];simp [GT.sz,hx0])
        subst hd00
        obtain ⟨v',w',hrun,r1,r2,_⟩:=run_append_own_at (P:=P) w w.heap.size T o.type E ie z e.sz ie.bytes hE hie hz0 hse rfl hz1 hsz (.slice none 0 0) 0 [] (World.ownsRow_nil w _ E e.sz) ⟨b,off,.none⟩ m cu d1 (by rw [hl1];simp [GT.sz,hm]) (fun j q hq=>by rw [Addr.add_lit];exact hcell j q hq) hd1.one (by simp only [maxLen];omega) hb2 (Nat.le_refl _)
        exact ⟨v',w',by simpa [hx0] using hrun,r1,r2⟩
    obtain ⟨v',w',hrun,a1,a2⟩:=key
    have hbel:Below w.heap.size w w':=⟨a2.os,a2.tape,a2.output,a2.size,fun k hk=>a2.block k hk (by simp)⟩
    have hO:NewO w w' v'.ownBlock:=⟨hbel,fun q hq=>(a1.lt q hq).1,fun q hq=>(a1.lt q hq).2⟩
    have hlen:(xs.xs ++ ys.xs).length = m0 + m:=by rw [List.length_append,hm0,hm]
    have hrep:RepCs (.arr (xs.xs ++ ys.xs).length e) w (Kx K w0.heap.size L) (d0 ++ d1) (xs.xs ++ ys.xs):=c_v hd0 hd1
    refine a_D S (v:=v') (w':=w') hd hN (by simp [execOp,ho,resolve,invoke,builtin,S.eval hs,S.eval hx,hrun]) fun a'=>k a' w' v' hO ⟨d0 ++ d1,?_,hrep.keep (Keeps.below hbel) fun c hc hk=>Kx.newO hO hc hk,fun q hq=>by cases hq⟩
    rw [hlen]
    have hw:=W.below.size
    rcases a1 with ⟨h1,h2 | ⟨g,cap,cur,e1,e2,e3⟩⟩
    · exact ⟨h1,.inl h2⟩
    · exact ⟨h1,.inr ⟨g,cap,cur,e1,Nat.le_trans hw e2,e3⟩⟩
  · cases hr
end
end Go.Proofs.Ytfelbalkobcfhaa
