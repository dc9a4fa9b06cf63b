/- The rules of the walk over plain data, more: a whole slice of one's own cleared. Plain theorems, no condition. -/
import Derived.Test.YtfelbalkobcfhaaXE35
set_option linter.unusedVariables false
set_option linter.unusedSimpArgs false
namespace Go.Proofs.Ytfelbalkobcfhaa
open Go.RowKit Go.ChangeShapes
abbrev Kw (K:Nat → Prop) (w:World) (L:List (Option Nat)):Nat → Prop:=Kx K w.heap.size L
abbrev TA:Type:=Sl Int × Int × Int
abbrev TB:Type:=Int × Int × Sl Int × Int
section
variable {dd:List Deferred} {N:Nat} {a:Act} {l:List (Nat × Value)} {w w0:World} {P:Program} {ops:Array Oper} {Q:Exit → Act → World → Prop} {rest:List Oper} {o:Oper} {Kont:Act → World → Prop} {d:Nat} {K:Nat → Prop} {n:Nat} {L:List (Option Nat)}
theorem StD.pt (S:StD dd N a l) (d:Nat) (v:Value) (h:Nat.blt d N = true):StD dd N (a.put (some d) v) ((d,v) :: l):=S.put (by simpa using h) v
theorem RPost.o1 {tys:List (TypeId × GT)} (ht:tysOk P tys = true) {R:World → World → Prop} {f:Value → World → Prop} {A a0:Act} {l0:List (Nat × Value)} {v:Value} (S:StD dd N A l) (S0:StD dd N a0 l0) (hd:o.dst = some d) (h:(runPure tys ops N [o] l).bind (fun q=>lk q d) = some v) (hf:f v w) (hb:R w w:=by exact Below.refl _ _) :
    FillE w [] A (fun B=>wpList P ops (RPostR R o.dst f a0.defers w Q) [o] B w):=RPost.one S tys ht hd h S0.defers hf hb
/-- An append of cells, wherever they lie. -/
theorem op_append_core (S:StD dd N a l) (W:Wd w0 w L) {s x:Operand} {T E:TypeId} {e:GT} {v:Value} {A:Option Addr} {m cu:Nat} {ds:List Value} {xs ys r:List (PT e)} {c:Option Nat} (i:Nat) (ho:o.op = .call { callee:=.builtin .append,args:=#[s,x],argTypes:=#[T,T] }) (ht:tie P (.sl e) false T [] 0 = true) (hE:P.underlying T = some (.slice E)) (hby:bytesB P T e = true) (hd:o.dst = some d) (hN:Nat.blt d N = true)
    (hs:ev l s = some v) (hx:ev l x = some (.slice A m cu)) (O:Ow e E w w0.heap.size (Kx K w0.heap.size L) v xs c) (hi:L[i]? = some v.ownBlock) (hm:ys.length = m) (hds:RepCs (.arr ys.length e) w (Kx K w0.heap.size L) ds ys) (hA:ys = [] ∨ ∃ b off,A = some ⟨b,off,.none⟩ ∧ ∀ j u,ds[j]? = some u → w.cell? ⟨b,off + j,.none⟩ = some u) (hr:appI xs ys = some r)
    (k:∀ a' w' v',Apd w w' v v' → Ow e E w' w0.heap.size (Kx K w0.heap.size (L.set i v'.ownBlock)) v' r (capA c r.length) → StD dd N a' ((d,v') :: l) → Kont a' w'):o.wp P a w Kont Q:=by
  obtain ⟨cs,h1,h2,h3⟩:=O
  obtain ⟨E',hE',htE⟩:=tie_sl ht
  obtain rfl:E = E':=by rw [hE] at hE';injection hE' with h;injection h
  obtain ⟨ie,hie,hse⟩:=tie_size htE
  unfold bytesB at hby
  rw [hE] at hby
  simp only [hie,Option.any_some,Bool.and_eq_true,Nat.blt_eq,Nat.ble_eq] at hby
  obtain ⟨hsz,hbytes,hz⟩:=hby
  obtain ⟨z,hz0,hz1⟩:∃ z,ie.zero = some z ∧ z.cells.size = e.sz:=by
    cases hzz:ie.zero with
    | none=>rw [hzz] at hz;cases hz
    | some z=>rw [hzz] at hz;exact ⟨z,rfl,by simpa using hz⟩
  unfold appI at hr
  have hle:xs.length + ys.length ≤ 1099511627776:=by
    by_cases h:xs.length + ys.length ≤ 1099511627776
    · exact h
    · rw [if_neg h] at hr;cases hr
  rw [if_pos hle] at hr
  obtain rfl:=Option.some.inj hr
  have hlen:(xs ++ ys).length = xs.length + m:=by rw [List.length_append,hm]
  -- the run
  have key:∃ v' w',(Builtin.append_ #[T,T] o.type #[v,.slice A m cu]).run P w = .ok v' w' ∧ w'.ownsRow w0.heap.size E e.sz v' (xs.length + m) (cs ++ ds) ∧ w.grownBy w' v.ownBlock ∧ (v'.ownBlock = v.ownBlock ∨ v'.ownBlock = some w.heap.size) ∧ (∀ q A' k',v = .slice A' k' q → xs.length + m ≤ q → ∃ B k'',v' = .slice B k'' q):=by
    rcases hA with hx0 | ⟨b,off,rfl,hcell⟩
    · have hm0:m = 0:=by rw [← hm,hx0];rfl
      subst hm0
      have hds0:ds = []:=by
        have:=hds.len
        rw [hx0] at this
        exact List.eq_nil_of_length_eq_zero (by simpa [GT.sz] using this)
      subst hds0
      refine ⟨v,w,?_,by simpa using h1,World.grownBy.refl w _,.inl rfl,fun q A' k' hv _=>⟨A',k',hv⟩⟩
      rcases h1.2 with ⟨rfl,_⟩ | ⟨g,cap,cur,rfl,_,hg,hnc,_⟩
      · cases A with
        | none=>simp [Builtin.append_,run_underlying hE,sizeOf,typeInfo,hie,Builtin.lenOf,Builtin.firstCells]
        | some ad=>simp [Builtin.append_,run_underlying hE,sizeOf,typeInfo,hie,Builtin.lenOf,Builtin.firstCells,loadCells,loadCellsFrom]
      · cases A with
        | none=>simp [Builtin.append_,run_underlying hE,sizeOf,typeInfo,hie,Builtin.lenOf,Builtin.firstCells,hnc,storeCells]
        | some ad=>simp [Builtin.append_,run_underlying hE,sizeOf,typeInfo,hie,Builtin.lenOf,Builtin.firstCells,hnc,storeCells,loadCells,loadCellsFrom]
    · have hdl:=hds.len
      obtain ⟨v',w',hrun,a1,a2,a3,a4⟩:=run_append_own_at (P:=P) w w0.heap.size T o.type E ie z e.sz ie.bytes hE hie hz0 hse rfl hz1 hsz v xs.length cs h1 ⟨b,off,.none⟩ m cu ds (by rw [hdl];simp [GT.sz,hm]) (fun j q hq=>by rw [Addr.add_lit];exact hcell j q hq) hds.one (by simp only [maxLen];omega) (by
          have:(xs.length + m) * ie.bytes ≤ 1099511627776 * 128:=Nat.mul_le_mul (by omega) hbytes
          omega) W.below.size
      refine ⟨v',w',hrun,a1,a2,a4,fun q A' k' hv hq=>?_⟩
      rcases h1.2 with ⟨hv0,_⟩ | ⟨g,cap,cur,hv0,_,hg,hnc,hcm,hcsz,htk⟩
      · rw [hv0] at hv
        injection hv with e1 e2 e3
        subst e3
        have:v' = .slice .none 0 0:=a3.2 ⟨hv0,by omega⟩
        exact ⟨.none,0,this⟩
      · rw [hv0] at hv
        injection hv with e1 e2 e3
        subst e3
        have hroom:=run_append_room (P:=P) w T o.type E ie hE hie g xs.length cap cur (by rw [hg]) ⟨b,off,.none⟩ m cu ds (by rw [hdl,hse];simp [GT.sz,hm]) (fun j q hq=>by rw [Addr.add_lit];exact hcell j q hq) hds.one hq (by rw [hcsz,hdl,hse];simp [GT.sz,hm,← Nat.add_mul];exact Nat.mul_le_mul_right _ hq)
        rw [hv0,hroom] at hrun
        injection hrun with e4 e5
        exact ⟨_,_,e4.symm⟩
  obtain ⟨v',w',hrun,a1,a2,a4,a5⟩:=key
  have hap:Apd w w' v v':=⟨a2,a4,fun q hq=>(a1.lt q hq).2⟩
  refine op_run S (v:=v') (w':=w') hd hN (by simp [execOp,ho,resolve,invoke,builtin,S.eval hs,S.eval hx,hrun]) fun a'=>k a' w' v' hap ⟨cs ++ ds,by rw [hlen];exact a1,?_,?_⟩
  · have:=arr_append h2 hds
    exact this.keep (hap.keeps hi) (hap.kk hi)
  · intro q hq
    unfold capA at hq
    cases hc:c with
    | none=>rw [hc] at hq;cases hq
    | some q' =>
      rw [hc] at hq
      simp only at hq
      split at hq
      · rename_i hqq
        obtain rfl:=Option.some.inj hq
        obtain ⟨B,k',hv⟩:=h3 q' hc
        rw [hlen] at hqq
        exact a5 q' B k' hv hqq
      · cases hq
/-- An append of what another slice of one's own holds. -/
theorem op_append_own (S:StD dd N a l) (W:Wd w0 w L) {s x:Operand} {T E:TypeId} {e:GT} {v u:Value} {xs ys r:List (PT e)} {c cu:Option Nat} (i:Nat) (ho:o.op = .call { callee:=.builtin .append,args:=#[s,x],argTypes:=#[T,T] }) (ht:tie P (.sl e) false T [] 0 = true) (hE:P.underlying T = some (.slice E)) (hby:bytesB P T e = true) (hd:o.dst = some d) (hN:Nat.blt d N = true)
    (hs:ev l s = some v) (hx:ev l x = some u) (O:Ow e E w w0.heap.size (Kx K w0.heap.size L) v xs c) (hi:L[i]? = some v.ownBlock) (U:Ow e E w w0.heap.size (Kx K w0.heap.size L) u ys cu) (hr:appI xs ys = some r)
    (k:∀ a' w' v',Apd w w' v v' → Ow e E w' w0.heap.size (Kx K w0.heap.size (L.set i v'.ownBlock)) v' r (capA c r.length) → StD dd N a' ((d,v') :: l) → Kont a' w'):o.wp P a w Kont Q:=by
  obtain ⟨cs,u1,u2,_⟩:=U
  rcases u1.2 with ⟨rfl,hl0⟩ | ⟨g,cap,cur,rfl,hb,hg,hnc,hcm,hsz,htake⟩
  · exact op_append_core S W i ho ht hE hby hd hN hs hx O hi hl0 u2 (.inl (List.eq_nil_of_length_eq_zero hl0)) hr k
  · refine op_append_core S W i ho ht hE hby hd hN hs hx O hi rfl u2 (.inr ⟨g,0,rfl,fun j q hq=>?_⟩) hr k
    have:=u1.cells (g:=g) rfl j q hq
    rwa [Addr.add_lit] at this
/-- What a slice holds, wherever its own cells lie. -/
def Rv (e:GT) (w:World) (K:Nat → Prop) (v:Value) (xs:Sl (PT e)):Prop :=
  ∃ A m cu ds,v = .slice A m cu ∧ xs.xs.length = m ∧ RepCs (.arr xs.xs.length e) w K ds xs.xs ∧ (xs.xs = [] ∨ ∃ b off,A = some ⟨b,off,.none⟩ ∧ b < w.heap.size ∧ ∀ j u,ds[j]? = some u → w.cell? ⟨b,off + j,.none⟩ = some u) ∧ RepV (.sl e) w (fun _=>True) v xs
theorem Rv.arg {e:GT} {v:Value} {xs:Sl (PT e)} (h:Rv e w K v xs):Rv e w (Kx K w.heap.size []) v xs:=by
  obtain ⟨A,m,cu,ds,h1,h2,h3,h4,h5⟩:=h
  exact ⟨A,m,cu,ds,h1,h2,h3.keep (Keeps.refl _ _) fun _ _ h=>⟨.inl h,fun h=>(List.not_mem_nil h).elim⟩,h4,h5⟩
theorem Rv.box {e:GT} {w':World} {b:Nat} {v:Value} {xs:Sl (PT e)} (h:Rv e w (Kx K n L) v xs) (hb:NewB w w' b):Rv e w' (Kx K n (some b :: L)) v xs:=by
  obtain ⟨A,m,cu,ds,h1,h2,h3,h4,h5⟩:=h
  have g4:xs.xs = [] ∨ ∃ b off,A = some ⟨b,off,.none⟩ ∧ b < w'.heap.size ∧ ∀ j u,ds[j]? = some u → w'.cell? ⟨b,off + j,.none⟩ = some u:=by
    rcases h4 with h4 | ⟨c,off,e1,e2,e3⟩
    · exact .inl h4
    · exact .inr ⟨c,off,e1,Nat.lt_of_lt_of_le e2 hb.below.size,fun j u hu=>(World.cell?_of_block (hb.below.block c e2)).trans (e3 j u hu)⟩
  exact ⟨A,m,cu,ds,h1,h2,h3.keep (Keeps.below hb.below) fun c hc hk=>⟨hk.1,fun hm=>by
    rcases List.mem_cons.1 hm with e | hm
    · obtain rfl:=Option.some.inj e;have:=hb.ge;omega
    · exact hk.2 hm⟩,g4,h5.keep (Keeps.below hb.below) fun _ _ _=>trivial⟩
end
end Go.Proofs.Ytfelbalkobcfhaa
