/- The rules of the walk over plain data, more: slices that the call itself owns: made, appended to, written; slices cut. Plain theorems, no condition. -/
import Derived.Test.YtfelbalkobcfhaaXE7
set_option linter.unusedVariables false
set_option linter.unusedSimpArgs false
namespace Go.Proofs.Ytfelbalkobcfhaa
open Go.RowKit
def Ow (e:GT) (E:TypeId) (w:World) (n:Nat) (K:Nat → Prop) (v:Value) (xs:List (PT e)) (c:Option Nat):Prop :=
  ∃ cs,w.ownsRow n E e.sz v xs.length cs ∧ RepCs (.arr xs.length e) w K cs xs ∧ ∀ q,c = some q → ∃ A m,v = .slice A m q
structure Apd (w w':World) (v v':Value):Prop where
  grown:w.grownBy w' v.ownBlock
  at_:v'.ownBlock = v.ownBlock ∨ v'.ownBlock = some w.heap.size
  lt:∀ k,v'.ownBlock = some k → k < w'.heap.size
section
variable {w0 w w':World} {L:List (Option Nat)} {K:Nat → Prop} {n b i:Nat} {t:GT} {v v':Value}
theorem Apd.keeps (h:Apd w w' v v') (hi:L[i]? = some v.ownBlock):Keeps (Kx K n L) w w' :=
  ⟨h.grown.size,fun p hp hk=>World.cell?_of_block (h.grown.block p.block hp fun e=>hk.2 (by rw [e];exact List.mem_of_getElem? hi))⟩
theorem Apd.kk (h:Apd w w' v v') (hi:L[i]? = some v.ownBlock):∀ c,c < w.heap.size → Kx K n L c → Kx K n (L.set i v'.ownBlock) c:=by
  intro c hc hk
  refine ⟨hk.1,fun hm=>?_⟩
  rcases List.mem_or_eq_of_mem_set hm with hm | e
  · exact hk.2 hm
  · rcases h.at_ with e2 | e2
    · exact hk.2 (by rw [e,e2];exact List.mem_of_getElem? hi)
    · rw [e2] at e
      have:=Option.some.inj e
      omega
theorem RepV.apd {u:Value} {x:PT t} (h:RepV t w (Kx K n L) u x) (ha:Apd w w' v v') (hi:L[i]? = some v.ownBlock):RepV t w' (Kx K n (L.set i v'.ownBlock)) u x:=h.keep (ha.keeps hi) (ha.kk hi)
theorem Wd.apd (h:Wd w0 w L) (ha:Apd w w' v v') (hi:L[i]? = some v.ownBlock):Wd w0 w' (L.set i v'.ownBlock):=by
  have hsz:=h.below.size
  refine ⟨h.below.trans ⟨ha.grown.os,ha.grown.tape,ha.grown.output,ha.grown.size,fun k hk=>ha.grown.block k (by omega) fun e=>?_⟩,fun c hm=>?_,?_⟩
  · have:=h.own k (by rw [e];exact List.mem_of_getElem? hi)
    omega
  · have hs:=ha.grown.size
    rcases List.mem_or_eq_of_mem_set hm with hm | e
    · have:=h.own c hm;omega
    · have h2:=ha.lt c e.symm
      rcases ha.at_ with e2 | e2
      · have:=h.own c (by rw [e,e2];exact List.mem_of_getElem? hi);omega
      · rw [e2] at e;have:=Option.some.inj e;omega
  · have hd:=List.pairwise_iff_getElem.1 h.dis
    refine List.pairwise_iff_getElem.2 fun p q hp hq hpq=>?_
    simp only [List.length_set] at hp hq
    rw [List.getElem_set,List.getElem_set]
    have hil:i < L.length:=(List.getElem?_eq_some_iff.1 hi).1
    have hiv:L[i] = v.ownBlock:=(List.getElem?_eq_some_iff.1 hi).2
    have fresh:∀ (r:Nat) (hr:r < L.length),v'.ownBlock = some w.heap.size → L[r] = .none ∨ L[r] ≠ v'.ownBlock:=by
      intro r hr e2
      cases hlr:L[r] with
      | none=>exact .inl rfl
      | some c =>
        refine .inr fun e=>?_
        rw [e2] at e
        have:=(h.own c (by rw [← hlr];exact List.getElem_mem hr)).2
        have:=Option.some.inj e
        omega
    split
    · rename_i hip
      subst hip
      rw [if_neg (by omega)]
      rcases ha.at_ with e2 | e2
      · have h:=hd i q hp hq hpq;rw [hiv,← e2] at h;exact h
      · rcases fresh q hq e2 with e | e
        · rw [e,e2];exact .inr (by simp)
        · exact .inr (fun h=>e h.symm)
    · split
      · rename_i hiq
        subst hiq
        rcases ha.at_ with e2 | e2
        · have h:=hd p i hp hq hpq;rw [hiv,← e2] at h;exact h
        · exact fresh p hp e2
      · exact hd p q hp hq hpq
theorem Wd.neq (h:Wd w0 w L) {x y:Option Nat} {p q:Nat} (hpq:p ≠ q) (hp:L[p]? = some x) (hq:L[q]? = some y):x = .none ∨ x ≠ y:=by
  have hd:=List.pairwise_iff_getElem.1 h.dis
  obtain ⟨hpl,hpv⟩:=List.getElem?_eq_some_iff.1 hp
  obtain ⟨hql,hqv⟩:=List.getElem?_eq_some_iff.1 hq
  rcases Nat.lt_or_gt_of_ne hpq with hlt | hlt
  · have:=hd p q hpl hql hlt;rw [hpv,hqv] at this;exact this
  · have:=hd q p hql hpl hlt
    rw [hpv,hqv] at this
    rcases this with e | e
    · cases x with
      | none=>exact .inl rfl
      | some c=>exact .inr (by rw [e];simp)
    · exact .inr fun h=>e h.symm
theorem Wd.bne (h:Wd w0 w L) {c:Nat} {p q:Nat} (hpq:p ≠ q) (hp:L[p]? = some (some b)) (hq:L[q]? = some (some c)):b ≠ c:=by
  rcases h.neq hpq hp hq with e | e
  · cases e
  · exact fun h=>e (by rw [h])
theorem Bx.apd {T:TypeId} {x:PT t} (h:Bx t T w (Kx K n L) b x) (W:Wd w0 w L) (ha:Apd w w' v v') (hi:L[i]? = some v.ownBlock) {j:Nat} (hj:L[j]? = some (some b)) (hji:j ≠ i):Bx t T w' (Kx K n (L.set i v'.ownBlock)) b x:=by
  have hl:=h.lt
  obtain ⟨cs,h1,h2⟩:=h
  refine ⟨cs,(ha.grown.block b hl fun e=>?_).trans h1,h2.keep (ha.keeps hi) (ha.kk hi)⟩
  rcases W.neq hji hj hi with e2 | e2
  · cases e2
  · exact e2 e
theorem Ow.apd {e:GT} {E:TypeId} {u:Value} {xs:List (PT e)} {c:Option Nat} (h:Ow e E w n (Kx K n L) u xs c) (W:Wd w0 w L) (ha:Apd w w' v v') (hi:L[i]? = some v.ownBlock) {j:Nat} (hj:L[j]? = some u.ownBlock) (hji:j ≠ i):Ow e E w' n (Kx K n (L.set i v'.ownBlock)) u xs c:=by
  obtain ⟨cs,h1,h2,h3⟩:=h
  refine ⟨cs,h1.kept ha.grown ?_,h2.keep (ha.keeps hi) (ha.kk hi),h3⟩
  exact W.neq hji hj hi
theorem Ow.step {e:GT} {E:TypeId} {xs:List (PT e)} {c:Option Nat} (h:Ow e E w n K v xs c) (hb:Below w.heap.size w w'):Ow e E w' n K v xs c:=by
  obtain ⟨cs,h1,h2,h3⟩:=h
  exact ⟨cs,h1.kept (row:=.none) ⟨hb.os,hb.tape,hb.output,hb.size,fun k hk _=>hb.block k hk⟩ (by cases hv:v.ownBlock <;> simp),h2.keep (Keeps.below hb) fun _ _ h=>h,h3⟩
theorem Ow.box {e:GT} {E:TypeId} {xs:List (PT e)} {c:Option Nat} (h:Ow e E w n (Kx K n L) v xs c) (hb:NewB w w' b):Ow e E w' n (Kx K n (some b :: L)) v xs c:=by
  obtain ⟨cs,h1,h2,h3⟩:=h
  exact ⟨cs,h1.kept (row:=.none) ⟨hb.below.os,hb.below.tape,hb.below.output,hb.below.size,fun k hk _=>hb.below.block k hk⟩ (by cases hv:v.ownBlock <;> simp),h2.keep (Keeps.below hb.below) fun d hc hk=>⟨hk.1,fun hm=>by
    rcases List.mem_cons.1 hm with e | hm
    · obtain rfl:=Option.some.inj e;have:=hb.ge;omega
    · exact hk.2 hm⟩,h3⟩
theorem Ow.wrote {e:GT} {E:TypeId} {xs:List (PT e)} {c:Option Nat} (h:Ow e E w n (Kx K n L) v xs c) (hw:Wrote b w w') (hb:some b ∈ L) (hne:v.ownBlock ≠ some b):Ow e E w' n (Kx K n L) v xs c:=by
  obtain ⟨cs,h1,h2,h3⟩:=h
  refine ⟨cs,h1.kept (row:=some b) ⟨hw.os,hw.tape,hw.output,Nat.le_of_eq hw.size.symm,fun k _ hk=>hw.block k fun e=>hk (by rw [e])⟩ (.inr hne),h2.keep (Keeps.wrote hw hb) fun _ _ h=>h,h3⟩
theorem Ow.nil {e:GT} {E:TypeId}:Ow e E w n K (.slice .none 0 0) [] (some 0) :=
  ⟨[],World.ownsRow_nil w n E e.sz,⟨rfl,[],rfl,rfl,fun j c y h=>by simp at h⟩,fun q h=>⟨.none,0,by rw [← Option.some.inj h]⟩⟩
theorem Kx.more {c:Nat} (hk:Kx K n L c):Kx K n (.none :: L) c:=⟨hk.1,fun hm=>by
  rcases List.mem_cons.1 hm with e | hm
  · cases e
  · exact hk.2 hm⟩
theorem RepV.more {u:Value} {x:PT t} (h:RepV t w (Kx K n L) u x):RepV t w (Kx K n (.none :: L)) u x:=h.keep (Keeps.refl _ _) fun _ _ hk=>hk.more
theorem Bx.more {T:TypeId} {x:PT t} (h:Bx t T w (Kx K n L) b x):Bx t T w (Kx K n (.none :: L)) b x:=by
  obtain ⟨cs,h1,h2⟩:=h
  exact ⟨cs,h1,h2.keep (Keeps.refl _ _) fun c _ hk=>⟨hk.1,fun hm=>by
    rcases List.mem_cons.1 hm with e | hm
    · cases e
    · exact hk.2 hm⟩⟩
theorem Ow.more {e:GT} {E:TypeId} {xs:List (PT e)} {c:Option Nat} (h:Ow e E w n (Kx K n L) v xs c):Ow e E w n (Kx K n (.none :: L)) v xs c:=by
  obtain ⟨cs,h1,h2,h3⟩:=h
  exact ⟨cs,h1,h2.keep (Keeps.refl _ _) fun c _ hk=>⟨hk.1,fun hm=>by
    rcases List.mem_cons.1 hm with e | hm
    · cases e
    · exact hk.2 hm⟩,h3⟩
theorem Wd.more (h:Wd w0 w L):Wd w0 w (.none :: L) :=
  ⟨h.below,fun c hm=>by
    rcases List.mem_cons.1 hm with e | hm
    · cases e
    · exact h.own c hm,List.pairwise_cons.2 ⟨fun _ _=>.inl rfl,h.dis⟩⟩
theorem Wd.less {L':List (Option Nat)} (h:Wd w0 w L) (hs:L'.Sublist L):Wd w0 w L':=⟨h.below,fun c hm=>h.own c (hs.subset hm),h.dis.sublist hs⟩
theorem RepV.less {L':List (Option Nat)} {u:Value} {x:PT t} (h:RepV t w (Kx K n L) u x) (hs:L'.Sublist L):RepV t w (Kx K n L') u x:=h.keep (Keeps.refl _ _) fun c _ hk=>⟨hk.1,fun hm=>hk.2 (hs.subset hm)⟩
theorem Bx.less {L':List (Option Nat)} {T:TypeId} {x:PT t} (h:Bx t T w (Kx K n L) b x) (hs:L'.Sublist L):Bx t T w (Kx K n L') b x:=by
  obtain ⟨cs,h1,h2⟩:=h
  exact ⟨cs,h1,h2.keep (Keeps.refl _ _) fun c _ hk=>⟨hk.1,fun hm=>hk.2 (hs.subset hm)⟩⟩
theorem Ow.less {L':List (Option Nat)} {e:GT} {E:TypeId} {xs:List (PT e)} {c:Option Nat} (h:Ow e E w n (Kx K n L) v xs c) (hs:L'.Sublist L):Ow e E w n (Kx K n L') v xs c:=by
  obtain ⟨cs,h1,h2,h3⟩:=h
  exact ⟨cs,h1,h2.keep (Keeps.refl _ _) fun c _ hk=>⟨hk.1,fun hm=>hk.2 (hs.subset hm)⟩,h3⟩
theorem Ow.pub {e:GT} {E:TypeId} {xs:List (PT e)} {c:Option Nat} {L':List (Option Nat)} (h:Ow e E w n (Kx K n L) v xs c) (hs:L'.Sublist L) (hno:∀ k,v.ownBlock = some k → some k ∉ L'):RepV (.sl e) w (Kx K n L') v ⟨xs,c⟩:=by
  obtain ⟨cs,h1,h2,h3⟩:=h
  have hk:∀ c,Kx K n L c → Kx K n L' c:=fun c hk=>⟨hk.1,fun hm=>hk.2 (hs.subset hm)⟩
  rcases h1.2 with ⟨rfl,hcs⟩ | ⟨g,cap,cur,rfl,hb,hg,hnc,hcm,hsz,htake⟩
  · obtain rfl:xs = []:=List.eq_nil_of_length_eq_zero hcs
    refine ⟨[_],⟨.none,0,0,rfl,rfl,Nat.le_refl _,by omega,fun q hq=>?_,.inl rfl⟩,rfl⟩
    obtain ⟨A,m,e⟩:=h3 q hq
    injection e
  · refine ⟨[_],⟨_,xs.length,cap,rfl,rfl,hnc,by simpa [maxLen] using hcm,fun q hq=>?_,?_⟩,rfl⟩
    · obtain ⟨A,m,e⟩:=h3 q hq
      injection e
    · refine RowsOf.of_cells (cs:=cs) (h2.keep (Keeps.refl _ _) fun c _ h=>hk c h) (Array.getElem?_eq_some_iff.1 hg).1 ⟨.inr hb,hno g rfl⟩ fun i u hu=>?_
      have:=h1.cells (g:=g) rfl i u hu
      rwa [Addr.add_lit] at this
theorem Ow.read {e:GT} {E:TypeId} {xs:List (PT e)} {c:Option Nat} (h:Ow e E w n (Kx K n L) v xs c):RepV (.sl e) w (Kx K n []) v ⟨xs,c⟩:=h.pub (List.nil_sublist _) fun _ _ h=>(List.not_mem_nil h).elim
end
def e_0 {α:Type} (xs ys:List α):Option (List α):=if xs.length + ys.length ≤ 1099511627776 then some (xs ++ ys) else .none
def b_H (c:Option Nat) (n:Nat):Option Nat:=match c with | some q=>if n ≤ q then some q else .none | .none=>.none
def bytesB (P:Program) (T:TypeId) (e:GT):Bool:=Nat.blt 0 e.sz && match P.underlying T with | some (.slice E)=>(P.info? E).any fun i=>Nat.ble i.bytes 128 && i.zero.any fun z=>Nat.beq z.cells.size e.sz | _=>false
section
variable {ds:List Deferred} {N:Nat} {a:Act} {l:List (Nat × Value)} {w w0:World} {P:Program} {ops:Array Oper} {Q:Exit → Act → World → Prop} {rest:List Oper} {o:Oper} {Kont:Act → World → Prop} {d:Nat} {K:Nat → Prop} {n:Nat} {L:List (Option Nat)}
theorem c_v {e:GT} {cs ds:List Value} {xs ys:List (PT e)} {m k:Nat} (h1:RepCs (.arr m e) w K cs xs) (h2:RepCs (.arr k e) w K ds ys):RepCs (.arr (xs ++ ys).length e) w K (cs ++ ds) (xs ++ ys):=by
  obtain ⟨hx,c1,rfl,hl1,hr1⟩:=h1
  obtain ⟨hy,c2,rfl,hl2,hr2⟩:=h2
  refine ⟨rfl,c1 ++ c2,by simp,by simp;omega,fun j c y hc hyj=>?_⟩
  by_cases hj:j < c1.length
  · rw [List.getElem?_append_left hj] at hc
    rw [List.getElem?_append_left (by omega)] at hyj
    exact hr1 j c y hc hyj
  · rw [List.getElem?_append_right (by omega)] at hc
    rw [List.getElem?_append_right (by omega)] at hyj
    have e1:j - xs.length = j - c1.length:=by omega
    rw [e1] at hyj
    exact hr2 _ c y hc hyj
theorem a_R (S:StD ds N a l) (W:Wd w0 w L) {s x:Operand} {T E:TypeId} {e:GT} {v u:Value} {xs r:List (PT e)} {ys:Sl (PT e)} {c:Option Nat} (i:Nat) (ho:o.op = .call { callee:=.builtin .append,args:=#[s,x],argTypes:=#[T,T] }) (ht:tie P (.sl e) false T [] 0 = true) (hE:P.underlying T = some (.slice E)) (hby:bytesB P T e = true) (hd:o.dst = some d) (hN:Nat.blt d N = true)
    (hs:ev l s = some v) (hx:ev l x = some u) (O:Ow e E w w0.heap.size (Kx K w0.heap.size L) v xs c) (hi:L[i]? = some v.ownBlock) (R:RepV (.sl e) w (Kx K w0.heap.size L) u ys) (hr:e_0 xs ys.xs = some r)
    (k:∀ a' w' v',Apd w w' v v' → Ow e E w' w0.heap.size (Kx K w0.heap.size (L.set i v'.ownBlock)) v' r (b_H c r.length) → StD ds N a' ((d,v') :: l) → Kont a' w'):o.wp P a w Kont Q:=by
  obtain ⟨cs,h1,h2,h3⟩:=O
  obtain ⟨A,m,cu,rfl,hm,hmc,hc63,_,hrow⟩:=R.sl
  obtain ⟨E',hE',htE⟩:=b_b ht
  obtain rfl:E = E':=by rw [hE] at hE';injection hE' with h;injection h
  obtain ⟨ie,hie,hse⟩:=a_E htE
  unfold bytesB at hby
  rw [hE] at hby
  simp only [hie,Option.any_some,Bool.and_eq_true,Nat.blt_eq,Nat.ble_eq] at hby
  obtain ⟨hsz,hbytes,hz⟩:=hby
  obtain ⟨z,hz0,hz1⟩:∃ z,ie.zero = some z ∧ z.cells.size = e.sz:=by
    cases hzz:ie.zero with
    | none=>rw [hzz] at hz;cases hz
    | some z=>rw [hzz] at hz;exact ⟨z,rfl,by simpa using hz⟩
  unfold e_0 at hr
  have hle:xs.length + ys.xs.length ≤ 1099511627776:=by
    by_cases h:xs.length + ys.xs.length ≤ 1099511627776
    · exact h
    · rw [if_neg h] at hr;cases hr
  rw [if_pos hle] at hr
  obtain rfl:=Option.some.inj hr
  have hcells:=hrow.cells
  obtain ⟨ds,hds,hA⟩:=hcells
  have hlen:(xs ++ ys.xs).length = xs.length + m:=by rw [List.length_append,hm]
  have key:∃ v' w',(Builtin.append_ #[T,T] o.type #[v,.slice A m cu]).run P w = .ok v' w' ∧ w'.ownsRow w0.heap.size E e.sz v' (xs.length + m) (cs ++ ds) ∧ w.grownBy w' v.ownBlock ∧ (v'.ownBlock = v.ownBlock ∨ v'.ownBlock = some w.heap.size) ∧ (∀ q A' k',v = .slice A' k' q → xs.length + m ≤ q → ∃ B k'',v' = .slice B k'' q):=by
    rcases hA with hx0 | ⟨b,off,rfl,hb,hKb,hcell⟩
    · have hm0:m = 0:=by rw [← hm,hx0];rfl
      subst hm0
      have hds0:ds = []:=by
        have:=hds.len
        rw [hx0] at this
        exact List.eq_nil_of_length_eq_zero (by simpa [GT.sz] using this)
      subst hds0
      refine ⟨v,w,?_,by simpa using h1,World.grownBy.refl w _,.inl rfl,fun q A' k' hv _=>⟨A',k',hv⟩⟩
      rcases h1.2 with ⟨rfl,_⟩ | ⟨g,cap,cur,rfl,_,hg,hnc,_⟩
      · cases A with
        | none=>simp [Builtin.append_,run_underlying hE,sizeOf,typeInfo,hie,Builtin.lenOf,Builtin.firstCells]
        | some ad=>simp [Builtin.append_,run_underlying hE,sizeOf,typeInfo,hie,Builtin.lenOf,Builtin.firstCells,loadCells,loadCellsFrom]
      · cases A with
        | none=>simp [Builtin.append_,run_underlying hE,sizeOf,typeInfo,hie,Builtin.lenOf,Builtin.firstCells,hnc,storeCells]
        | some ad=>simp [Builtin.append_,run_underlying hE,sizeOf,typeInfo,hie,Builtin.lenOf,Builtin.firstCells,hnc,storeCells,loadCells,loadCellsFrom]
    · have hdl:=hds.len
      obtain ⟨v',w',hrun,a1,a2,a3,a4⟩:=run_append_own_at (P:=P) w w0.heap.size T o.type E ie z e.sz ie.bytes hE hie hz0 hse rfl hz1 hsz v xs.length cs h1 ⟨b,off,.none⟩ m cu ds (by rw [hdl];simp [GT.sz,hm]) (fun j q hq=>by rw [Addr.add_lit];exact hcell j q hq) hds.one (by simp only [maxLen];omega) (by
          have:(xs.length + m) * ie.bytes ≤ 1099511627776 * 128:=Nat.mul_le_mul (by omega) hbytes
          omega) W.below.size
      refine ⟨v',w',hrun,a1,a2,a4,fun q A' k' hv hq=>?_⟩
      rcases h1.2 with ⟨hv0,_⟩ | ⟨g,cap,cur,hv0,_,hg,hnc,hcm,hcsz,htk⟩
      · rw [hv0] at hv
        injection hv with e1 e2 e3
        subst e3
        have:v' = .slice .none 0 0:=a3.2 ⟨hv0,by omega⟩
        exact ⟨.none,0,this⟩
      · rw [hv0] at hv
        injection hv with e1 e2 e3
        subst e3
        have hroom:=run_append_room (P:=P) w T o.type E ie hE hie g xs.length cap cur (by rw [hg]) ⟨b,off,.none⟩ m cu ds (by rw [hdl,hse];simp [GT.sz,hm]) (fun j q hq=>by rw [Addr.add_lit];exact hcell j q hq) hds.one hq (by rw [hcsz,hdl,hse];simp [GT.sz,hm,← Nat.add_mul];exact Nat.mul_le_mul_right _ hq)
        rw [hv0,hroom] at hrun
        injection hrun with e4 e5
        exact ⟨_,_,e4.symm⟩
  obtain ⟨v',w',hrun,a1,a2,a4,a5⟩:=key
  have hap:Apd w w' v v':=⟨a2,a4,fun q hq=>(a1.lt q hq).2⟩
  refine a_D S (v:=v') (w':=w') hd hN (by simp [execOp,ho,resolve,invoke,builtin,S.eval hs,S.eval hx,hrun]) fun a'=>k a' w' v' hap ⟨cs ++ ds,by rw [hlen];exact a1,?_,?_⟩
  · have:=c_v h2 hds
    exact this.keep (hap.keeps hi) (hap.kk hi)
  · intro q hq
    unfold b_H at hq
    cases hc:c with
    | none=>rw [hc] at hq;cases hq
    | some q' =>
      rw [hc] at hq
      simp only at hq
      split at hq
      · rename_i hqq
        obtain rfl:=Option.some.inj hq
        obtain ⟨B,k',hv⟩:=h3 q' hc
        rw [hlen] at hqq
        exact a5 q' B k' hv hqq
      · cases hq
end
end Go.Proofs.Ytfelbalkobcfhaa
