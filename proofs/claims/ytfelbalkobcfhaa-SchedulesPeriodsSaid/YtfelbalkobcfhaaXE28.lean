/- The rules of the walk over plain data, more: places in another order; calls that change what they are handed; regions that draw their order and store once. Plain theorems, no condition. -/
import Derived.Test.YtfelbalkobcfhaaXE27
set_option linter.unusedVariables false
set_option linter.unusedSimpArgs false
namespace Go.Proofs.Ytfelbalkobcfhaa
open Go.RowKit
section
variable {w0 w w' A B:World} {L P Q LO LO':List (Option Nat)} {K:Nat → Prop} {n n0 b m:Nat} {t:GT} {o:Option Nat} {u:Value} {p:Addr} {x:PT t} {T:TypeId}
theorem d_t {i:Nat} (hi:L[i]? = some o) {y:Option Nat} (h:y ∈ o :: L.eraseIdx i):y ∈ L:=by
  rcases List.mem_cons.1 h with e | h
  · rw [e];exact List.mem_of_getElem? hi
  · exact (List.eraseIdx_sublist _ _).subset h
theorem mv_perm:∀ {L:List (Option Nat)} {i:Nat},L[i]? = some o → (o :: L.eraseIdx i).Perm L
  | [],_,h=>by simp at h
  | y :: L,0,h=>by
    obtain rfl:y = o:=by simpa using h
    exact List.Perm.refl _
  | y :: L,i + 1,h=>(List.Perm.swap y o (L.eraseIdx i)).trans ((mv_perm (L:=L) (i:=i) (by simpa using h)).cons y)
theorem RepV.mv (h:RepV t w (Kx K n L) u x) (i:Nat) (hi:L[i]? = some o):RepV t w (Kx K n (o :: L.eraseIdx i)) u x:=h.keep (Keeps.refl _ _) fun c _ hk=>⟨hk.1,fun hm=>hk.2 (d_t hi hm)⟩
theorem Pr.mv (h:Pr t w (Kx K n L) p x) (i:Nat) (hi:L[i]? = some o):Pr t w (Kx K n (o :: L.eraseIdx i)) p x:=h.keep (Keeps.refl _ _) fun c _ hk=>⟨hk.1,fun hm=>hk.2 (d_t hi hm)⟩
theorem Bx.mv (h:Bx t T w (Kx K n L) b x) (i:Nat) (hi:L[i]? = some o):Bx t T w (Kx K n (o :: L.eraseIdx i)) b x:=by
  obtain ⟨cs,h1,h2⟩:=h
  exact ⟨cs,h1,h2.keep (Keeps.refl _ _) fun c _ hk=>⟨hk.1,fun hm=>hk.2 (d_t hi hm)⟩⟩
theorem Ow.mv {e:GT} {E:TypeId} {v:Value} {xs:List (PT e)} {c:Option Nat} (h:Ow e E w m (Kx K n L) v xs c) (i:Nat) (hi:L[i]? = some o):Ow e E w m (Kx K n (o :: L.eraseIdx i)) v xs c:=by
  obtain ⟨cs,h1,h2,h3⟩:=h
  exact ⟨cs,h1,h2.keep (Keeps.refl _ _) fun c _ hk=>⟨hk.1,fun hm=>hk.2 (d_t hi hm)⟩,h3⟩
theorem Ox.mv {q:Obj} (h:Ox q w b) (i:Nat) (hi:L[i]? = some o):Ox q w b:=h
theorem Wd.mv (h:Wd w0 w L) (i:Nat) (hi:L[i]? = some o):Wd w0 w (o :: L.eraseIdx i) :=
  ⟨h.below,fun c hc=>h.own c (d_t hi hc),((mv_perm hi).pairwise_iff (fun {x y} h=>by
    rcases h with h | h
    · subst h
      cases y with
      | none=>exact .inl rfl
      | some y=>exact .inr (by simp)
    · exact .inr fun e=>h e.symm)).2 h.dis⟩
theorem Rnd.mv {LO:List (Option Nat)} (h:Rnd A LO w L) (i:Nat) (hi:L[i]? = some o):Rnd A LO w (o :: L.eraseIdx i):=⟨h.os,h.tape,h.output,h.size,h.keep,fun b hl hm=>h.old b hl (d_t hi hm)⟩
theorem JI.mv {β:Type} {Inv:β → List (Option Nat) → World → Prop} {Bs:List (Option Nat)} {s:β} (h:JI Inv Bs n0 LO w s) (i:Nat) (hi:L[i]? = some o):JI Inv Bs n0 LO w s:=h
theorem Wd.front (h:Wd w0 w (P ++ LO)):Wd w0 w P:=h.less (List.sublist_append_left _ _)
theorem Yst.kkf (hy:Yst n A P B Q) {c:Nat} (hc:c < A.heap.size) (hk:Kx K n0 (P ++ LO) c):Kx K n0 (Q ++ LO) c :=
  ⟨hk.1,fun hm=>hk.2 (by
    rcases List.mem_append.1 hm with hm | hm
    · exact List.mem_append.2 (.inl (hy.old c hc hm))
    · exact List.mem_append.2 (.inr hm))⟩
theorem Yst.keepsf (hy:Yst n A P B Q):Keeps (Kx K n0 (P ++ LO)) A B:=⟨hy.size,fun p hp hk=>World.cell?_of_block (hy.keep _ hp fun hm=>hk.2 (List.mem_append.2 (.inl hm)))⟩
theorem RepV.yfr (LO:List (Option Nat)) (h:RepV t A (Kx K n0 (P ++ LO)) u x) (hy:Yst n A P B Q):RepV t B (Kx K n0 (Q ++ LO)) u x:=h.keep hy.keepsf fun c hc hk=>hy.kkf hc hk
theorem Pr.yfr (LO:List (Option Nat)) (h:Pr t A (Kx K n0 (P ++ LO)) p x) (hy:Yst n A P B Q):Pr t B (Kx K n0 (Q ++ LO)) p x:=h.keep hy.keepsf fun c hc hk=>hy.kkf hc hk
theorem Yst.apart (hy:Yst n A P B Q) (W:Wd w0 A (P ++ LO)) (hb:some b ∈ LO):some b ∉ P:=fun hm=>by
  rcases (List.pairwise_append.1 W.dis).2.2 _ hm _ hb with e | e
  · cases e
  · exact e rfl
theorem Bx.yfr (LO:List (Option Nat)) (h:Bx t T A (Kx K n0 (P ++ LO)) b x) (hy:Yst n A P B Q) (W:Wd w0 A (P ++ LO)) (hb:some b ∈ LO):Bx t T B (Kx K n0 (Q ++ LO)) b x:=by
  have hl:=h.lt
  obtain ⟨cs,h1,h2⟩:=h
  exact ⟨cs,(hy.keep b hl (hy.apart W hb)).trans h1,h2.keep hy.keepsf fun c hc hk=>hy.kkf hc hk⟩
theorem Ox.yfr (LO:List (Option Nat)) {q:Obj} (h:Ox q A b) (hy:Yst n A P B Q) (W:Wd w0 A (P ++ LO)) (hb:some b ∈ LO):Ox q B b:=⟨(hy.keep b h.lt (hy.apart W hb)).trans h.1,h.2⟩
theorem Ow.yfr (LO:List (Option Nat)) {e:GT} {E:TypeId} {v:Value} {xs:List (PT e)} {c:Option Nat} (h:Ow e E A m (Kx K n0 (P ++ LO)) v xs c) (hy:Yst n A P B Q) (W:Wd w0 A (P ++ LO)) (hb:v.ownBlock ∈ LO):Ow e E B m (Kx K n0 (Q ++ LO)) v xs c:=by
  obtain ⟨cs,h1,h2,h3⟩:=h
  refine ⟨cs,b_o h1 fun g ob hg ho _=>?_,h2.keep hy.keepsf fun c hc hk=>hy.kkf hc hk,h3⟩
  rw [hg] at hb
  exact (hy.keep g (Array.getElem?_eq_some_iff.1 ho).1 (hy.apart W hb)).trans ho
theorem Wd.yfr (LO:List (Option Nat)) (h:Wd w0 A (P ++ LO)) (hy:Yst w0.heap.size A P B Q):Wd w0 B (Q ++ LO):=by
  have hd:=List.pairwise_append.1 h.dis
  refine ⟨h.below.trans ⟨hy.os,hy.tape,hy.output,hy.size,fun k hk=>hy.keep k (by have:=h.below.size;omega) fun hm=>by have:=(h.own k (List.mem_append.2 (.inl hm))).1;omega⟩,fun c hc=>?_,List.pairwise_append.2 ⟨hy.dis,hd.2.1,fun y hz x hx=>?_⟩⟩
  · rcases List.mem_append.1 hc with hc | hc
    · exact hy.own c hc
    · have:=h.own c (List.mem_append.2 (.inr hc));have:=hy.size;omega
  · cases y with
    | none=>exact .inl rfl
    | some c =>
      refine .inr fun e=>?_
      subst e
      have hc:=(h.own c (List.mem_append.2 (.inr hx))).2
      rcases hd.2.2 _ (hy.old c hc hz) _ hx with e | e
      · cases e
      · exact e rfl
theorem Rnd.yfr {A0:World} {L0:List (Option Nat)} (LO:List (Option Nat)) (h:Rnd A0 L0 A (P ++ LO)) (hy:Yst n A P B Q):Rnd A0 L0 B (Q ++ LO) :=
  ⟨hy.os.trans h.os,hy.tape.trans h.tape,hy.output.trans h.output,Nat.le_trans h.size hy.size,fun b hl hm=>(hy.keep b (Nat.lt_of_lt_of_le hl h.size) fun h2=>hm (h.old b hl (List.mem_append.2 (.inl h2)))).trans (h.keep b hl hm),
   fun b hl hm=>by
    rcases List.mem_append.1 hm with hm | hm
    · exact h.old b hl (List.mem_append.2 (.inl (hy.old b (Nat.lt_of_lt_of_le hl h.size) hm)))
    · exact h.old b hl (List.mem_append.2 (.inr hm))⟩
theorem Ab.rnd {Bs P L:List (Option Nat)} (h:Rnd A P w L) (hab:Ab Bs n0 w w') (hn:A.heap.size ≤ n0) (hs:∀ b,some b ∈ Bs → b < A.heap.size → some b ∈ P):Rnd A P w' L :=
  ⟨hab.os.trans h.os,hab.tape.trans h.tape,hab.output.trans h.output,Nat.le_trans h.size hab.size,
   fun b hb hm=>(hab.low b (Nat.lt_of_lt_of_le hb hn) (Nat.lt_of_lt_of_le hb h.size) fun hB=>hm (hs b hB hb)).trans (h.keep b hb hm),h.old⟩
theorem RepAt.arr_len {k:Nat} {e:GT} {x:List (PT e)} (h:RepAt (.arr k e) w K p x):x.length = k:=by
  obtain ⟨_,cs,h2,_⟩:=h
  exact h2.1
theorem Ow.blk {e:GT} {E:TypeId} {v:Value} {xs:List (PT e)} {c:Option Nat} (h:Ow e E w m K v xs c) {j:Int} {y:PT e} (hj:idx xs j = some y):∃ g,v.ownBlock = some g:=by
  obtain ⟨_,hg',_⟩:=a_1 hj
  obtain ⟨g',cap,rfl,hR⟩:=h.el hg'
  exact ⟨g',rfl⟩
theorem Ow.elt {e:GT} {E:TypeId} {v:Value} {xs:List (PT e)} {c:Option Nat} (h:Ow e E w m K v xs c) {g:Nat} (hg:v.ownBlock = some g) {j:Int} {y:PT e} (hj:idx xs j = some y):RepAt e w K ⟨g,j.toNat * e.sz,.none⟩ y:=by
  obtain ⟨_,hg',_⟩:=a_1 hj
  obtain ⟨g',cap,rfl,hR⟩:=h.el hg'
  obtain rfl:g' = g:=by simpa [Value.ownBlock] using hg
  exact hR
end
structure Gs (w0:World) (I:List Nat) (L:List (Option Nat)) (s b:Nat) (F:GW → Prop) (g g':GW):Prop where
  os:g'.2.os = g.2.os
  tape:g'.2.tape = g.2.tape
  output:g'.2.output = g.2.output
  size:g.2.heap.size ≤ g'.2.heap.size
  block:∀ k,k < g.2.heap.size → (k = b → (g.1 s ≠ none ∨ g'.1 s = none)) → g'.2.heap[k]? = g.2.heap[k]?
  same:∀ j o,g.1 j = some o → g'.1 j = some o
  new:∀ j c,g.1 j = none → g'.1 j = some (some c) → g.2.heap.size ≤ c
  wd:Wd w0 g.2 (lm I L g.1) → Wd w0 g'.2 (lm I L g'.1)
  sto:g.1 s = none → g'.1 s ≠ none → F g'
theorem lm_oth {I:List Nat} {L:List (Option Nat)} {M:Nat → Option (Option Nat)} {s:Nat} {o:Option Nat} (h:s ∉ I):lm I L (b_m M s o) = lm I L M:=by
  unfold lm
  congr 1
  refine List.map_congr_left fun k hk=>?_
  have:k ≠ s:=fun e=>h (e ▸ hk)
  simp [b_m,this]
section
variable {w0 w w' A B:World} {I:List Nat} {L LO:List (Option Nat)} {K:Nat → Prop} {n s b c m:Nat} {F:GW → Prop} {g g':GW} {M:Nat → Option (Option Nat)} {t:GT} {u:Value} {x:PT t} {T:TypeId}
theorem Gs.refl (g:GW):Gs w0 I L s b F g g:=⟨rfl,rfl,rfl,Nat.le_refl _,fun _ _ _=>rfl,fun _ _ h=>h,fun j c h h'=>(by rw [h] at h';cases h'),id,fun h h'=>absurd h h'⟩
theorem Gs.trans (hF:∀ g g',Gs w0 I L s b F g g' → g.1 s ≠ none → F g → F g') (a b' c:GW) (h:Gs w0 I L s b F a b') (k:Gs w0 I L s b F b' c):Gs w0 I L s b F a c:=by
  refine ⟨k.os.trans h.os,k.tape.trans h.tape,k.output.trans h.output,Nat.le_trans h.size k.size,fun i hi hb=>?_,fun j o e=>k.same j o (h.same j o e),fun j x e e'=>?_,fun e=>k.wd (h.wd e),fun h1 h2=>?_⟩
  · refine (k.block i (Nat.lt_of_lt_of_le hi h.size) fun e=>?_).trans (h.block i hi fun e=>?_)
    · rcases hb e with h1 | h1
      · cases hs:a.1 s with
        | none=>exact absurd hs h1
        | some o=>exact .inl (by rw [h.same s o hs];simp)
      · exact .inr h1
    · rcases hb e with h1 | h1
      · exact .inl h1
      · cases hs:b'.1 s with
        | none=>exact .inr rfl
        | some o=>rw [k.same s o hs] at h1;cases h1
  · cases hb:b'.1 j with
    | none=>have:=k.new j x hb e';have:=h.size;omega
    | some o =>
      have:=k.same j o hb
      rw [e'] at this
      obtain rfl:some x = o:=Option.some.inj this
      exact h.new j x e hb
  · cases hs:b'.1 s with
    | none=>exact k.sto hs h2
    | some o=>exact hF _ _ k (by rw [hs];simp) (h.sto h1 (by rw [hs];simp))
theorem Gs.ofBelow (hb:Below w.heap.size w w'):Gs w0 I L s b F (M,w) (M,w'):=⟨hb.os,hb.tape,hb.output,hb.size,fun k hk _=>hb.block k hk,fun _ _ h=>h,fun j c h h'=>(by have h:M j = none:=h;have h':M j = some (some c):=h';rw [h] at h';cases h'),fun h=>h.step hb,fun h h'=>absurd h h'⟩
theorem Gs.drawn (w:World):Gs w0 I L s b F (M,w) (M,{ w with drawn:=w.drawn + 1 }):=Gs.ofBelow ⟨rfl,rfl,rfl,Nat.le_refl _,fun _ _=>rfl⟩
theorem Gs.lay {i:Nat} {o:Option Nat} (hN:NewO w w' o) (hM:M i = none) (hn:I.Nodup) (hi:i ∈ I) (hs:s ∉ I):Gs w0 I L s b F (M,w) (b_m M i o,w'):=by
  have h:=Gr.lay (w0:=w0) (I:=I) (L:=L) (M:=M) hN hM hn hi
  have hsi:s ≠ i:=fun e=>hs (e ▸ hi)
  refine ⟨h.below.os,h.below.tape,h.below.output,h.below.size,fun k hk _=>h.below.block k hk,h.same,h.new,h.wd,fun h1 h2=>absurd (show b_m M i o s = none from ?_) h2⟩
  simpa [b_m,hsi] using h1
theorem Gs.store (hw:Wrote b w w') (hM:M s = none) (hs:s ∉ I) (hb:some b ∈ lm I L M) (hF:F (b_m M s none,w')):Gs w0 I L s b F (M,w) (b_m M s none,w'):=by
  refine ⟨hw.os,hw.tape,hw.output,Nat.le_of_eq hw.size.symm,fun k hk hkb=>hw.block k fun e=>?_,fun j o h=>?_,fun j c h h'=>?_,fun h=>?_,fun _ _=>hF⟩
  · rcases hkb e with h | h
    · exact h hM
    · have h:b_m M s none s = none:=h
      simp [b_m] at h
  · have h:M j = some o:=h
    have:j ≠ s:=fun e=>by rw [e,hM] at h;cases h
    show b_m M s none j = some o
    simpa [b_m,this] using h
  · have h:M j = none:=h
    have h':b_m M s none j = some (some c):=h'
    by_cases e:j = s
    · subst e;simp [b_m] at h'
    · simp [b_m,e] at h';rw [h] at h';cases h'
  · have h:Wd w0 w (lm I L M):=h
    show Wd w0 w' (lm I L (b_m M s none))
    rw [lm_oth hs]
    exact h.wrote hw hb
theorem Gs.kk (h:Gs w0 I L s b F g g') {c:Nat} (hc:c < g.2.heap.size) (hk:Kx K n (lm I L g.1) c):Kx K n (lm I L g'.1) c:=⟨hk.1,fun hm=>by
  rcases List.mem_append.1 hm with hm | hm
  · obtain ⟨i,hi,e⟩:=List.mem_map.1 hm
    cases hg:g.1 i with
    | none =>
      cases hg':g'.1 i with
      | none=>rw [hg'] at e;cases e
      | some o =>
        rw [hg'] at e
        have e:o = some c:=e
        have:=h.new i c hg (by rw [hg',e])
        omega
    | some o =>
      rw [h.same i o hg] at e
      exact hk.2 (List.mem_append.2 (.inl (List.mem_map.2 ⟨i,hi,by rw [hg];exact e⟩)))
  · exact hk.2 (List.mem_append.2 (.inr hm))⟩
theorem c_K {x:Option Nat} (h:x ∈ L):x ∈ lm I L M:=List.mem_append.2 (.inr h)
theorem Gs.keeps (h:Gs w0 I L s b F g g') (hb:some b ∈ L):Keeps (Kx K n (lm I L g.1)) g.2 g'.2 :=
  ⟨h.size,fun p hp hk=>World.cell?_of_block (h.block _ hp fun e=>absurd (c_K hb) (by rw [← e];exact hk.2))⟩
theorem RepV.gs (h:RepV t g.2 (Kx K n (lm I L g.1)) u x) (hg:Gs w0 I L s b F g g') (hb:some b ∈ L):RepV t g'.2 (Kx K n (lm I L g'.1)) u x:=h.keep (hg.keeps hb) fun c hc hk=>hg.kk hc hk
theorem Pr.gs {p:Addr} (h:Pr t g.2 (Kx K n (lm I L g.1)) p x) (hg:Gs w0 I L s b F g g') (hb:some b ∈ L):Pr t g'.2 (Kx K n (lm I L g'.1)) p x:=h.keep (hg.keeps hb) fun c hc hk=>hg.kk hc hk
theorem Bx.gs (h:Bx t T g.2 (Kx K n (lm I L g.1)) c x) (hg:Gs w0 I L s b F g g') (hb:some b ∈ L) (hne:c = b → (g.1 s ≠ none ∨ g'.1 s = none)):Bx t T g'.2 (Kx K n (lm I L g'.1)) c x:=by
  have hl:=h.lt
  obtain ⟨cs,h1,h2⟩:=h
  exact ⟨cs,(hg.block c hl hne).trans h1,h2.keep (hg.keeps hb) fun c hc hk=>hg.kk hc hk⟩
theorem Ow.gs {e:GT} {E:TypeId} {v:Value} {xs:List (PT e)} {q:Option Nat} (h:Ow e E g.2 m (Kx K n (lm I L g.1)) v xs q) (hg:Gs w0 I L s b F g g') (hb:some b ∈ L) (hne:v.ownBlock = some b → (g.1 s ≠ none ∨ g'.1 s = none)):Ow e E g'.2 m (Kx K n (lm I L g'.1)) v xs q:=by
  obtain ⟨cs,h1,h2,h3⟩:=h
  exact ⟨cs,b_o h1 fun g0 ob hg0 ho _=>(hg.block g0 (Array.getElem?_eq_some_iff.1 ho).1 fun e=>hne (by rw [hg0,e])).trans ho,h2.keep (hg.keeps hb) fun c hc hk=>hg.kk hc hk,h3⟩
theorem Ox.gs {q:Obj} (h:Ox q g.2 c) (hg:Gs w0 I L s b F g g') (hne:c ≠ b):Ox q g'.2 c:=⟨(hg.block c h.lt fun e=>absurd e hne).trans h.1,h.2⟩
theorem Gs.wd' (h:Gs w0 I L s b F g g') (W:Wd w0 g.2 (lm I L g.1)):Wd w0 g'.2 (lm I L g'.1):=h.wd W
theorem Rnd.gs (h:Rnd A LO g.2 (lm I L g.1)) (hg:Gs w0 I L s b F g g') (hb:some b ∈ L):Rnd A LO g'.2 (lm I L g'.1) :=
  ⟨hg.os.trans h.os,hg.tape.trans h.tape,hg.output.trans h.output,Nat.le_trans h.size hg.size,
   fun k hl hm=>(hg.block k (Nat.lt_of_lt_of_le hl h.size) fun e=>absurd (h.old k hl (by rw [e];exact c_K hb)) hm).trans (h.keep k hl hm),
   fun k hl hm=>Classical.byContradiction fun hb' =>
    (hg.kk (K:=fun _=>True) (n:=0) (Nat.lt_of_lt_of_le hl h.size) ⟨.inl trivial,fun h2=>hb' (h.old k hl h2)⟩).2 hm⟩
def d_u (w0:World) (I:List Nat) (L:List (Option Nat)) (s b:Nat) (F:GW → Prop) (f:Value → GW → Prop):Prop:=∀ v g g',Gs w0 I L s b F g g' → f v g → f v g'
def isStG (s:Nat):Value → GW → Prop:=fun _ g=>g.1 s = some none
def d_l (v0:Value) (sz:Nat) (j:Int):Value → GW → Prop:=fun v _=>∃ gb,v0.ownBlock = some gb ∧ v = .pointer (some ⟨gb,j.toNat * sz,.none⟩)
theorem stabGs_st:d_u w0 I L s b F (isStG s):=fun _ _ _ hg h=>hg.same _ _ h
theorem c_1 {v0:Value} {sz:Nat} {j:Int}:d_u w0 I L s b F (d_l v0 sz j):=fun _ _ _ _ h=>h
theorem b_Z (y:Value):d_u w0 I L s b F (eqvG y):=fun _ _ _ _ h=>h
theorem b_0 {k:IntKind} {y:Int}:d_u w0 I L s b F (a_7 k y):=fun _ _ _ _ h=>h
theorem d_v (hb:some b ∈ L) {x:PT t}:d_u w0 I L s b F (a_r t K n I L x):=fun _ _ _ hg h=>RepV.gs h hg hb
def StabGsL (w0:World) (I:List Nat) (L:List (Option Nat)) (s b:Nat) (F:GW → Prop):List (Value → GW → Prop) → Prop
  | []=>True
  | f :: fs=>d_u w0 I L s b F f ∧ StabGsL w0 I L s b F fs
theorem StabGsL.all:∀ {Fs:List (Value → GW → Prop)},StabGsL w0 I L s b F Fs → ∀ f ∈ Fs,∀ v g g',Gs w0 I L s b F g g' → f v g → f v g'
  | f :: fs,h,g,hg=>by
    rcases List.mem_cons.1 hg with rfl | hg
    · exact h.1
    · exact StabGsL.all h.2 g hg
def PhB (b:Nat) (t:GT) (T:TypeId) (K:Nat → Prop) (n:Nat) (I:List Nat) (L:List (Option Nat)) (x:PT t):GW → Prop:=fun g=>Bx t T g.2 (Kx K n (lm I L g.1)) b x
def PhO (e:GT) (E:TypeId) (m:Nat) (K:Nat → Prop) (n:Nat) (I:List Nat) (L:List (Option Nat)) (v:Value) (xs:List (PT e)) (q:Option Nat):GW → Prop:=fun g=>Ow e E g.2 m (Kx K n (lm I L g.1)) v xs q
def PhR (b:Nat) (t:GT) (T:TypeId) (K:Nat → Prop) (n:Nat) (I:List Nat) (L:List (Option Nat)) (i:Nat) (Y:Nat → PT t):GW → Prop:=fun g=>∃ b2,g.1 i = some (some b2) ∧ Bx t T g.2 (Kx K n (lm I L g.1)) b (Y b2)
theorem PhR.stab (hb:some b ∈ L) {i:Nat} {Y:Nat → PT t}:∀ g g',Gs w0 I L s b (PhR b t T K n I L i Y) g g' → g.1 s ≠ none → PhR b t T K n I L i Y g → PhR b t T K n I L i Y g':=fun _ _ hg hs ⟨b2,h1,h⟩=>⟨b2,hg.same _ _ h1,Bx.gs h hg hb fun _=>.inl hs⟩
theorem PhB.stab (hb:some b ∈ L) {x:PT t}:∀ g g',Gs w0 I L s b (PhB b t T K n I L x) g g' → g.1 s ≠ none → PhB b t T K n I L x g → PhB b t T K n I L x g':=fun _ _ hg hs h=>Bx.gs h hg hb fun _=>.inl hs
theorem PhO.stab (hb:some b ∈ L) {e:GT} {E:TypeId} {v:Value} {xs:List (PT e)} {q:Option Nat}:∀ g g',Gs w0 I L s b (PhO e E m K n I L v xs q) g g' → g.1 s ≠ none → PhO e E m K n I L v xs q g → PhO e E m K n I L v xs q g':=fun _ _ hg hs h=>Ow.gs h hg hb fun _=>.inl hs
end
section
variable {P:Program} {Q:Exit → Act → World → Prop} {a0:Act} {w0 w:World}
variable {ds:List Deferred} {N d i s b:Nat} {A:Act} {l:List (Nat × Value)} {v:Value} {f:Value → GW → Prop} {w':World} {M:Nat → Option (Option Nat)} {I:List Nat} {L:List (Option Nat)} {F:GW → Prop}
theorem RPostS.mk_ (S:StD ds N A l) (hd:lk l d = some v) (h0:a0.defers = ds) (hf:f v (M,w')) (hb:Below w.heap.size w w'):RPostG (Gs w0 I L s b F) i (some d) f a0.defers (M,w) Q .normal A w':=by
  refine ⟨M,S.defers.trans h0.symm,?_,Gs.ofBelow hb,fun _ _=>rfl⟩
  rw [show a_8 (some d) A = v by simp [a_8,S.at_ d v hd]]
  exact hf
theorem RPostS.lay (S:StD ds N A l) (hd:lk l d = some v) (h0:a0.defers = ds) (o:Option Nat) (hN:NewO w w' o) (hM:M i = none) (hn:I.Nodup) (hi:i ∈ I) (hs:s ∉ I) (hf:f v (b_m M i o,w')):RPostG (Gs w0 I L s b F) i (some d) f a0.defers (M,w) Q .normal A w':=by
  refine ⟨b_m M i o,S.defers.trans h0.symm,?_,Gs.lay hN hM hn hi hs,fun j hj=>by simp [b_m,hj]⟩
  rw [show a_8 (some d) A = v by simp [a_8,S.at_ d v hd]]
  exact hf
theorem RPostS.sto (S:StD ds N A l) (h0:a0.defers = ds) (hw:Wrote b w w') (hM:M s = none) (hs:s ∉ I) (hb:some b ∈ lm I L M) (hF:F (b_m M s none,w')):RPostG (Gs w0 I L s b F) s none (isStG s) a0.defers (M,w) Q .normal A w' :=
  ⟨b_m M s none,S.defers.trans h0.symm,by simp [isStG,b_m],Gs.store hw hM hs hb hF,fun j hj=>by simp [b_m,hj]⟩
theorem EndEG.none_ {g:GW} {Q:Act → Prop} {f:Value → GW → Prop} {fs:List (Value → GW → Prop)} {o:Oper} {os:List Oper} {a:Act} (hd:o.dst = none) (h:f undef g → EndEG g Q fs os a):EndEG g Q (f :: fs) (o :: os) a:=by
  unfold EndEG
  rw [hd]
  exact h
theorem d_H {l:List Oper} (n:Nat) (nxt:List Nat) (w0:World) (I:List Nat) (L:List (Option Nat)) (s b:Nat) (F:GW → Prop) (hF:∀ g g',Gs w0 I L s b F g g' → g.1 s ≠ none → F g → F g') (Fs:List (Value → GW → Prop)) (D:List (List (Nat × Nat))) (hm:P.follows .mixedOrders = true) (hB:a_v l.toArray a0.tmps.size = true) (hsel:Region.noSelect l.toArray = true) (hsuf:sufB l.toArray n nxt = true)
    (hD:a_Q (a_P (l.take n).toArray) l.toArray (l.take n) D = true) (hlen:Fs.length = (l.take n).length) (hst:StabGsL w0 I L s b F Fs) (h:RunAllG (Gs w0 I L s b F) P l.toArray a0 (fun _=>none,w) Q Fs 0 (l.take n) D) (hend:∀ M W,Gs w0 I L s b F (fun _=>none,w) (M,W) → EndEG (M,W) (fun a=>wpList P l.toArray Q (l.drop n) a W) Fs (l.take n) a0):e_O P l Q a0 w :=
  c_y (K:=fun _=>True) n nxt Gs.refl (Gs.trans hF) (Gs.drawn w) Fs D hm hB hsel hsuf hD hlen (fun f hf v g g' hg h=>StabGsL.all hst f hf v g g' hg h) h fun g hg=>hend g.1 g.2 hg
theorem d_I {id:Nat} {l:List Oper} (n:Nat) (nxt:List Nat) (w0:World) (I:List Nat) (L:List (Option Nat)) (s b:Nat) (F:GW → Prop) (hF:∀ g g',Gs w0 I L s b F g g' → g.1 s ≠ none → F g → F g') (Fs:List (Value → GW → Prop)) (D:List (List (Nat × Nat))) (hm:P.follows .mixedOrders = true) (hB:a_v l.toArray a0.tmps.size = true) (hsel:Region.noSelect l.toArray = true) (hsuf:sufB l.toArray n nxt = true)
    (hD:a_Q (a_P (l.take n).toArray) l.toArray (l.take n) D = true) (hlen:Fs.length = (l.take n).length) (hst:StabGsL w0 I L s b F Fs) (h:RunAllG (Gs w0 I L s b F) P l.toArray a0 (fun _=>none,w) Q Fs 0 (l.take n) D) (hend:∀ M W,Gs w0 I L s b F (fun _=>none,w) (M,W) → EndEG (M,W) (fun a=>wpList P l.toArray Q (l.drop n) a W) Fs (l.take n) a0):(Code.region id l.toArray true).wp P Q a0 w:=wp_region_any hm (d_H n nxt w0 I L s b F hF Fs D hm hB hsel hsuf hD hlen hst h hend)
end
end Go.Proofs.Ytfelbalkobcfhaa
