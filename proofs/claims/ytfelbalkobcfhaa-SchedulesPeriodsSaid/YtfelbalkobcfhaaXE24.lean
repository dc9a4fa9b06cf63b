/- The walk of a range over a function: what a round keeps, what the function that is ranged over keeps, the statement's law. Plain theorems, no condition. -/
import Derived.Test.YtfelbalkobcfhaaXE23
set_option linter.unusedVariables false
set_option linter.unusedSimpArgs false
namespace Go.Proofs.Ytfelbalkobcfhaa
open Go.RowKit
structure Ab (Bs:List (Option Nat)) (n0:Nat) (A B:World):Prop where
  os:B.os = A.os
  tape:B.tape = A.tape
  output:B.output = A.output
  size:A.heap.size ≤ B.heap.size
  low:∀ b,b < n0 → b < A.heap.size → some b ∉ Bs → B.heap[b]? = A.heap[b]?
  cells:∀ b o,some b ∉ Bs → A.heap[b]? = some o → o.isCells = true → B.heap[b]? = some o
  others:∀ b o,some b ∉ Bs → A.heap[b]? = some o → o.isCells = false → ∃ o',B.heap[b]? = some o' ∧ o'.isCells = false
structure Nc (d:Nat) (A B:World):Prop where
  os:B.os = A.os
  tape:B.tape = A.tape
  output:B.output = A.output
  size:B.heap.size = A.heap.size
  block:∀ k,k ≠ d → B.heap[k]? = A.heap[k]?
  was:∃ o,A.heap[d]? = some o ∧ o.isCells = false
  is:∃ o,B.heap[d]? = some o ∧ o.isCells = false
def Ox (o:Obj) (w:World) (b:Nat):Prop:=w.heap[b]? = some o ∧ True
structure Yst (n:Nat) (A:World) (LO:List (Option Nat)) (B:World) (LO':List (Option Nat)):Prop where
  os:B.os = A.os
  tape:B.tape = A.tape
  output:B.output = A.output
  size:A.heap.size ≤ B.heap.size
  keep:∀ b,b < A.heap.size → some b ∉ LO → B.heap[b]? = A.heap[b]?
  old:∀ b,b < A.heap.size → some b ∈ LO' → some b ∈ LO
  own:∀ b,some b ∈ LO' → n ≤ b ∧ b < B.heap.size
  dis:LO'.Pairwise fun x y=>x = .none ∨ x ≠ y
structure Rnd (A:World) (LO:List (Option Nat)) (w:World) (L:List (Option Nat)):Prop where
  os:w.os = A.os
  tape:w.tape = A.tape
  output:w.output = A.output
  size:A.heap.size ≤ w.heap.size
  keep:∀ b,b < A.heap.size → some b ∉ LO → w.heap[b]? = A.heap[b]?
  old:∀ b,b < A.heap.size → some b ∈ L → some b ∈ LO
theorem cell_nc {A B:World} {b:Nat} {o o':Obj} (h1:A.heap[b]? = some o) (ho:o.isCells = false) (h2:B.heap[b]? = some o') (ho':o'.isCells = false) (p:Addr) (hp:p.block = b):B.cell? p = A.cell? p:=by
  subst hp
  unfold World.cell?
  cases o <;> simp [Obj.isCells] at ho <;> cases o' <;> simp [Obj.isCells] at ho' <;> simp [h1,h2]
section
variable {w0 w w' A B:World} {L L' LO LO' Bs:List (Option Nat)} {K:Nat → Prop} {n n0 b d i:Nat} {t:GT} {v v':Value} {o:Option Nat}
theorem Ab.refl:Ab Bs n0 A A:=⟨rfl,rfl,rfl,Nat.le_refl _,fun _ _ _ _=>rfl,fun _ _ _ h _=>h,fun _ o _ h ho=>⟨o,h,ho⟩⟩
theorem Ab.trans {C:World} (h:Ab Bs n0 A B) (k:Ab Bs n0 B C):Ab Bs n0 A C :=
  ⟨k.os.trans h.os,k.tape.trans h.tape,k.output.trans h.output,Nat.le_trans h.size k.size,fun b h1 h2 h3=>(k.low b h1 (Nat.lt_of_lt_of_le h2 h.size) h3).trans (h.low b h1 h2 h3),
   fun b o h1 h2 h3=>k.cells b o h1 (h.cells b o h1 h2 h3) h3,fun b o h1 h2 h3=>let ⟨o',e1,e2⟩:=h.others b o h1 h2 h3;k.others b o' h1 e1 e2⟩
theorem Ab.below (hb:Below A.heap.size A B):Ab Bs n0 A B :=
  have h:∀ b o,A.heap[b]? = some o → B.heap[b]? = some o:=fun b o e=>(hb.block b (Array.getElem?_eq_some_iff.1 e).1).trans e
  ⟨hb.os,hb.tape,hb.output,hb.size,fun b _ h _=>hb.block b h,fun b o _ e _=>h b o e,fun b o _ e e'=>⟨o,h b o e,e'⟩⟩
theorem Ab.wrote (hw:Wrote b A B) (hb:some b ∈ Bs):Ab Bs n0 A B :=
  have h:∀ k,some k ∉ Bs → B.heap[k]? = A.heap[k]?:=fun k hk=>hw.block k fun e=>hk (e ▸ hb)
  ⟨hw.os,hw.tape,hw.output,Nat.le_of_eq hw.size.symm,fun k _ _ hk=>h k hk,fun k o hk e _=>(h k hk).trans e,fun k o hk e e'=>⟨o,(h k hk).trans e,e'⟩⟩
theorem Ab.nc (hn:Nc d A B) (hd:n0 ≤ d):Ab Bs n0 A B :=
  ⟨hn.os,hn.tape,hn.output,Nat.le_of_eq hn.size.symm,fun k h _ _=>hn.block k (by omega),fun k o _ e e'=>(hn.block k fun e2=>by
      obtain ⟨q,h1,h2⟩:=hn.was
      rw [e2,h1] at e
      rw [← Option.some.inj e,h2] at e'
      cases e').trans e,fun k o _ e e'=>by
    by_cases hk:k = d
    · subst hk;exact hn.is
    · exact ⟨o,(hn.block k hk).trans e,e'⟩⟩
theorem Ab.keeps (h:Ab Bs n0 A B) {K':Nat → Prop} (hK:∀ b,K' b → some b ∉ Bs):Keeps K' A B :=
  ⟨h.size,fun p hp hk=>by
    obtain ⟨o,ho⟩:∃ o,A.heap[p.block]? = some o:=⟨_,Array.getElem?_eq_getElem hp⟩
    cases hc:o.isCells with
    | true=>exact World.cell?_of_block ((h.cells _ o (hK _ hk) ho hc).trans ho.symm)
    | false =>
      obtain ⟨o',h1,h2⟩:=h.others _ o (hK _ hk) ho hc
      exact cell_nc ho hc h1 h2 p rfl⟩
theorem Ab.kx (h:Ab Bs n0 A B) (hs:∀ x ∈ Bs,x ∈ L):Keeps (Kx K n L) A B:=h.keeps fun b hk hm=>hk.2 (hs _ hm)
theorem RepV.ab {u:Value} {x:PT t} (h:RepV t A (Kx K n L) u x) (hab:Ab Bs n0 A B) (hs:∀ x ∈ Bs,x ∈ L):RepV t B (Kx K n L) u x:=h.keep (hab.kx hs) fun _ _ h=>h
theorem Bx.ab {T:TypeId} {x:PT t} (h:Bx t T A (Kx K n L) b x) (hab:Ab Bs n0 A B) (hs:∀ x ∈ Bs,x ∈ L) (hb:some b ∉ Bs):Bx t T B (Kx K n L) b x:=by
  obtain ⟨cs,h1,h2⟩:=h
  exact ⟨cs,hab.cells b _ hb h1 rfl,h2.keep (hab.kx hs) fun _ _ h=>h⟩
theorem b_o {e:TypeId} {stride k:Nat} {cs:List Value} (h:A.ownsRow n e stride v k cs) (hb:∀ g o,v.ownBlock = some g → A.heap[g]? = some o → o.isCells = true → B.heap[g]? = some o):B.ownsRow n e stride v k cs:=by
  rcases h with ⟨h1,h2 | ⟨g,cap,cur,e1,e2,e3,e4⟩⟩
  · exact ⟨h1,.inl h2⟩
  · exact ⟨h1,.inr ⟨g,cap,cur,e1,e2,hb g _ (by rw [e1];rfl) e3 rfl,e4⟩⟩
theorem Ow.ab {e:GT} {E:TypeId} {xs:List (PT e)} {c:Option Nat} {m:Nat} (h:Ow e E A m (Kx K n L) v xs c) (hab:Ab Bs n0 A B) (hs:∀ x ∈ Bs,x ∈ L) (hb:v.ownBlock = .none ∨ v.ownBlock ∉ Bs):Ow e E B m (Kx K n L) v xs c:=by
  obtain ⟨cs,h1,h2,h3⟩:=h
  exact ⟨cs,b_o h1 fun g o e h4 h5=>hab.cells g o (fun hm=>by
    rcases hb with hb | hb
    · rw [hb] at e;cases e
    · exact hb (e ▸ hm)) h4 h5,h2.keep (hab.kx hs) fun _ _ h=>h,h3⟩
theorem Wd.ab (h:Wd w0 A L) (hab:Ab Bs n0 A B) (hs:∀ x ∈ Bs,x ∈ L) (hn:w0.heap.size ≤ n0):Wd w0 B L :=
  ⟨h.below.trans ⟨hab.os,hab.tape,hab.output,hab.size,fun k hk=>hab.low k (by omega) (by have:=h.below.size;omega) fun hm=>by have:=(h.own k (hs _ hm)).1;omega⟩,
   fun c hc=>⟨(h.own c hc).1,by have:=(h.own c hc).2;have:=hab.size;omega⟩,h.dis⟩
theorem Ox.ab {q:Obj} (h:Ox q A b) (hab:Ab Bs n0 A B) (hb:b < n0) (hn:some b ∉ Bs):Ox q B b:=⟨(hab.low b hb (Array.getElem?_eq_some_iff.1 h.1).1 hn).trans h.1,h.2⟩
theorem Ox.lt {q:Obj} (h:Ox q A b):b < A.heap.size:=(Array.getElem?_eq_some_iff.1 h.1).1
theorem Nc.keeps (h:Nc d A B) {K':Nat → Prop}:Keeps K' A B:=(Ab.nc (Bs:=[]) (n0:=0) h (Nat.zero_le _)).keeps fun _ _ hm=>by cases hm
theorem RepV.nc {u:Value} {x:PT t} (h:RepV t A K u x) (hn:Nc d A B):RepV t B K u x:=h.keep hn.keeps fun _ _ h=>h
theorem Bx.nc {T:TypeId} {x:PT t} (h:Bx t T A K b x) (hn:Nc d A B):Bx t T B K b x:=by
  obtain ⟨cs,h1,h2⟩:=h
  exact ⟨cs,(Ab.nc (Bs:=[]) (n0:=0) hn (Nat.zero_le _)).cells b _ (by simp) h1 rfl,h2.keep hn.keeps fun _ _ h=>h⟩
theorem Ow.nc {e:GT} {E:TypeId} {xs:List (PT e)} {c:Option Nat} {m:Nat} (h:Ow e E A m K v xs c) (hn:Nc d A B):Ow e E B m K v xs c:=by
  obtain ⟨cs,h1,h2,h3⟩:=h
  exact ⟨cs,b_o h1 fun g o e h4 h5=>(Ab.nc (Bs:=[]) (n0:=0) hn (Nat.zero_le _)).cells g o (by simp) h4 h5,h2.keep hn.keeps fun _ _ h=>h,h3⟩
theorem Wd.nc (h:Wd w0 A L) (hn:Nc d A B) (hd:some d ∈ L):Wd w0 B L:=Wd.ab (Bs:=[]) (n0:=w0.heap.size) h (Ab.nc hn (h.own d hd).1) (by simp) (Nat.le_refl _)
theorem Ox.nc {q:Obj} (h:Ox q A b) (hn:Nc d A B) (hb:b ≠ d):Ox q B b:=⟨(hn.block b hb).trans h.1,h.2⟩
theorem Nc.put {o o':Obj} (h:A.heap[d]? = some o) (ho:o.isCells = false) (ho':o'.isCells = false):Nc d A (A.putObj d o') :=
  ⟨rfl,rfl,rfl,by simp [World.putObj],fun k hk=>World.putObj_heap_other hk,⟨o,h,ho⟩,⟨o',World.putObj_heap_same (Array.getElem?_eq_some_iff.1 h).1,ho'⟩⟩
theorem Ox.step {q:Obj} (h:Ox q w b) (hb:Below w.heap.size w w'):Ox q w' b:=⟨(hb.block b h.lt).trans h.1,h.2⟩
theorem Ox.box {q:Obj} (h:Ox q w b) (hb:NewB w w' i):Ox q w' b:=h.step hb.below
theorem Ox.newO {q:Obj} (h:Ox q w b) (hN:NewO w w' o):Ox q w' b:=h.step hN.below
theorem Ox.wrote {q:Obj} (h:Ox q w b) (hw:Wrote i w w') (hm:True) (hne:b ≠ i):Ox q w' b:=⟨(hw.block b hne).trans h.1,h.2⟩
theorem Ox.apd {q:Obj} (h:Ox q w b) (W:Wd w0 w L) (ha:Apd w w' v v') (hi:L[i]? = some v.ownBlock) {j:Nat} (hj:L[j]? = some (some b)) (hji:j ≠ i):Ox q w' b :=
  ⟨(ha.grown.block b h.lt fun e=>by
    rcases W.neq hji hj hi with e2 | e2
    · cases e2
    · exact e2 e).trans h.1,h.2⟩
theorem Ox.more {q:Obj} (h:Ox q w b):Ox q w b:=h
theorem Ox.lessAt {q:Obj} (h:Ox q w b) (i:Nat):Ox q w b:=h
theorem Ox.drop {q:Obj} (h:Ox q w b) (i:Nat):Ox q w b:=h
theorem Ox.mk_ {q:Obj} {m:Nat} (h:Ox q w b) (hm:Mk m L w w') (hb:some b ∈ L):Ox q w' b:=⟨(hm.old b h.lt (.inr hb)).trans h.1,h.2⟩
theorem Ox.gr {q:Obj} {I:List Nat} {g g':GW} (h:Ox q g.2 b) (hg:Gr w0 I L g g'):Ox q g'.2 b:=h.step hg.below
theorem Rnd.start (A:World) (L:List (Option Nat)):Rnd A L A L:=⟨rfl,rfl,rfl,Nat.le_refl _,fun _ _ _=>rfl,fun _ _ h=>h⟩
theorem Rnd.step (h:Rnd A LO w L) (hb:Below w.heap.size w w'):Rnd A LO w' L :=
  ⟨hb.os.trans h.os,hb.tape.trans h.tape,hb.output.trans h.output,Nat.le_trans h.size hb.size,fun b hl hm=>(hb.block b (Nat.lt_of_lt_of_le hl h.size)).trans (h.keep b hl hm),h.old⟩
theorem Rnd.newO (h:Rnd A LO w L) (hN:NewO w w' o):Rnd A LO w' (o :: L) :=
  have h1:=h.step hN.below
  ⟨h1.os,h1.tape,h1.output,h1.size,h1.keep,fun b hl hm=>by
    rcases List.mem_cons.1 hm with e | hm
    · have:=hN.ge b e.symm;have:=h.size;omega
    · exact h.old b hl hm⟩
theorem Rnd.box (h:Rnd A LO w L) (hb:NewB w w' b):Rnd A LO w' (some b :: L):=h.newO (NewB.newO hb)
theorem Rnd.wrote (h:Rnd A LO w L) (hw:Wrote b w w') (hb:some b ∈ L):Rnd A LO w' L :=
  ⟨hw.os.trans h.os,hw.tape.trans h.tape,hw.output.trans h.output,by rw [hw.size];exact h.size,fun k hl hm=>(hw.block k fun e=>hm (h.old k hl (e ▸ hb))).trans (h.keep k hl hm),h.old⟩
theorem Rnd.nc (h:Rnd A LO w L) (hw:Nc b w w') (hb:some b ∈ L):Rnd A LO w' L :=
  ⟨hw.os.trans h.os,hw.tape.trans h.tape,hw.output.trans h.output,by rw [hw.size];exact h.size,fun k hl hm=>(hw.block k fun e=>hm (h.old k hl (e ▸ hb))).trans (h.keep k hl hm),h.old⟩
theorem Rnd.apd (h:Rnd A LO w L) (ha:Apd w w' v v') (hi:L[i]? = some v.ownBlock):Rnd A LO w' (L.set i v'.ownBlock) :=
  have hm:=List.mem_of_getElem? hi
  ⟨ha.grown.os.trans h.os,ha.grown.tape.trans h.tape,ha.grown.output.trans h.output,Nat.le_trans h.size ha.grown.size,fun b hl hb=>(ha.grown.block b (Nat.lt_of_lt_of_le hl h.size) fun e=>hb (h.old b hl (by rw [e];exact hm))).trans (h.keep b hl hb),
   fun b hl hb=>by
    rcases List.mem_or_eq_of_mem_set hb with hb | e
    · exact h.old b hl hb
    · rcases ha.at_ with e2 | e2
      · exact h.old b hl (by rw [e,e2];exact hm)
      · rw [e2] at e;have:=Option.some.inj e;have:=h.size;omega⟩
theorem Rnd.more (h:Rnd A LO w L):Rnd A LO w (.none :: L):=⟨h.os,h.tape,h.output,h.size,h.keep,fun b hl hm=>by
  rcases List.mem_cons.1 hm with e | hm
  · cases e
  · exact h.old b hl hm⟩
theorem Rnd.less (h:Rnd A LO w L) (hs:L'.Sublist L):Rnd A LO w L':=⟨h.os,h.tape,h.output,h.size,h.keep,fun b hl hm=>h.old b hl (hs.subset hm)⟩
theorem Rnd.lessAt (h:Rnd A LO w L) (i:Nat):Rnd A LO w (L.eraseIdx i):=h.less (List.eraseIdx_sublist _ _)
theorem Rnd.drop (h:Rnd A LO w L) (i:Nat):Rnd A LO w (L.drop i):=h.less (List.drop_sublist _ _)
theorem Rnd.lm0 {I:List Nat} (h:Rnd A LO w L):Rnd A LO w (lm I L fun _=>none):=⟨h.os,h.tape,h.output,h.size,h.keep,fun b hl hm=>h.old b hl (c_Z hm)⟩
theorem Rnd.gr {I:List Nat} {g g':GW} (h:Rnd A LO g.2 (lm I L g.1)) (hg:Gr w0 I L g g'):Rnd A LO g'.2 (lm I L g'.1) :=
  have h1:=h.step hg.below
  ⟨h1.os,h1.tape,h1.output,h1.size,h1.keep,fun b hl hm=>Classical.byContradiction fun hb =>
    (hg.kk (K:=fun _=>True) (n:=0) (Nat.lt_of_lt_of_le hl h.size) ⟨.inl trivial,fun h2=>hb (h.old b hl h2)⟩).2 hm⟩
theorem Rnd.sto {T:TypeId} {g:Nat} {xn:PT t} {K':Nat → Prop} (h:Rnd A LO w L) (hs:Sto t T K' g xn w w') (hg:some g ∈ L):Rnd A LO w' L :=
  ⟨hs.os.trans h.os,hs.tape.trans h.tape,hs.output.trans h.output,Nat.le_trans h.size hs.size,fun k hl hm=>(hs.block k (Nat.lt_of_lt_of_le hl h.size) fun e=>hm (h.old k hl (e ▸ hg))).trans (h.keep k hl hm),h.old⟩
theorem Ox.sto {q:Obj} {T:TypeId} {g:Nat} {xn:PT t} {K':Nat → Prop} (h:Ox q w b) (hs:Sto t T K' g xn w w') (hne:b ≠ g):Ox q w' b:=⟨(hs.block b h.lt hne).trans h.1,h.2⟩
theorem Rnd.yst (h:Rnd A LO w L) (W:Wd w0 w L):Yst w0.heap.size A LO w L:=⟨h.os,h.tape,h.output,h.size,h.keep,h.old,W.own,W.dis⟩
theorem Yst.kk (hy:Yst n A LO B LO') {c:Nat} (hc:c < A.heap.size) (hk:Kx K n0 (Bs ++ LO) c):Kx K n0 (Bs ++ LO') c :=
  ⟨hk.1,fun hm=>hk.2 (by
    rcases List.mem_append.1 hm with hm | hm
    · exact List.mem_append.2 (.inl hm)
    · exact List.mem_append.2 (.inr (hy.old c hc hm)))⟩
theorem Yst.keeps (hy:Yst n A LO B LO'):Keeps (Kx K n0 (Bs ++ LO)) A B:=⟨hy.size,fun p hp hk=>World.cell?_of_block (hy.keep _ hp fun hm=>hk.2 (List.mem_append.2 (.inr hm)))⟩
theorem RepV.yst {u:Value} {x:PT t} (Bs:List (Option Nat)) (h:RepV t A (Kx K n0 (Bs ++ LO)) u x) (hy:Yst n A LO B LO'):RepV t B (Kx K n0 (Bs ++ LO')) u x:=h.keep hy.keeps fun c hc hk=>hy.kk hc hk
theorem Wd.yst (Bs:List (Option Nat)) (h:Wd w0 A (Bs ++ LO)) (hy:Yst w0.heap.size A LO B LO'):Wd w0 B (Bs ++ LO'):=by
  have hd:=List.pairwise_append.1 h.dis
  refine ⟨h.below.trans ⟨hy.os,hy.tape,hy.output,hy.size,fun k hk=>hy.keep k (by have:=h.below.size;omega) fun hm=>by have:=(h.own k (List.mem_append.2 (.inr hm))).1;omega⟩,fun c hc=>?_,List.pairwise_append.2 ⟨hd.1,hy.dis,fun x hx y hz=>?_⟩⟩
  · rcases List.mem_append.1 hc with hc | hc
    · have:=h.own c (List.mem_append.2 (.inl hc));have:=hy.size;omega
    · exact hy.own c hc
  · cases x with
    | none=>exact .inl rfl
    | some c =>
      refine .inr fun e=>?_
      subst e
      have hc:=(h.own c (List.mem_append.2 (.inl hx))).2
      rcases hd.2.2 _ hx _ (hy.old c hc hz) with e | e
      · cases e
      · exact e rfl
theorem Bx.yst {T:TypeId} {x:PT t} (Bs:List (Option Nat)) (h:Bx t T A (Kx K n0 (Bs ++ LO)) b x) (hy:Yst n A LO B LO') (W:Wd w0 A (Bs ++ LO)) (hb:some b ∈ Bs):Bx t T B (Kx K n0 (Bs ++ LO')) b x:=by
  have hl:=h.lt
  obtain ⟨cs,h1,h2⟩:=h
  refine ⟨cs,(hy.keep b hl fun hm=>?_).trans h1,h2.keep hy.keeps fun c hc hk=>hy.kk hc hk⟩
  rcases (List.pairwise_append.1 W.dis).2.2 _ hb _ hm with e | e
  · cases e
  · exact e rfl
theorem Ox.yst {q:Obj} (Bs:List (Option Nat)) (h:Ox q A b) (hy:Yst n A LO B LO') (W:Wd w0 A (Bs ++ LO)) (hb:some b ∈ Bs):Ox q B b:=by
  refine ⟨(hy.keep b h.lt fun hm=>?_).trans h.1,h.2⟩
  rcases (List.pairwise_append.1 W.dis).2.2 _ hb _ hm with e | e
  · cases e
  · exact e rfl
structure JI {β:Type} (Inv:β → List (Option Nat) → World → Prop) (Bs:List (Option Nat)) (n0:Nat) (LO:List (Option Nat)) (A:World) (b:β):Prop where
  ab:∀ b LO A B,Inv b LO A → Ab Bs n0 A B → Inv b LO B
  inv:Inv b LO A
  hn:n0 ≤ A.heap.size
variable {β:Type} {Inv:β → List (Option Nat) → World → Prop} {s:β}
theorem JI.step (h:JI Inv Bs n0 LO A s) (hb:Below A.heap.size A B):JI Inv Bs n0 LO B s:=⟨h.ab,h.ab _ _ _ _ h.inv (Ab.below hb),Nat.le_trans h.hn hb.size⟩
theorem JI.box (h:JI Inv Bs n0 LO A s) (hb:NewB A B b):JI Inv Bs n0 LO B s:=h.step hb.below
theorem JI.newO (h:JI Inv Bs n0 LO A s) (hb:NewO A B o):JI Inv Bs n0 LO B s:=h.step hb.below
theorem JI.wrote (h:JI Inv Bs n0 LO A s) (hw:Wrote b A B) (hb:some b ∈ Bs):JI Inv Bs n0 LO B s:=⟨h.ab,h.ab _ _ _ _ h.inv (Ab.wrote hw hb),by rw [hw.size];exact h.hn⟩
theorem JI.nc (h:JI Inv Bs n0 LO A s) (hw:Nc d A B) (hd:n0 ≤ d):JI Inv Bs n0 LO B s:=⟨h.ab,h.ab _ _ _ _ h.inv (Ab.nc hw hd),by rw [hw.size];exact h.hn⟩
end
def Lr (D:Nat) (fn:FuncId) (tmps:Array Value) (ps:Array Tmp) (assign body:Code) (st:LoopState) (pe:Option Code):Obj:=.loop { state:=st,pending:=pe,fn,tmps,params:=ps,assign,body,defers:=D }
theorem Lr.nc {D fn tmps ps assign body st pe}:(Lr D fn tmps ps assign body st pe).isCells = false:=rfl
def rk (rec:LoopState → Option Code → Obj) (js:List Code):Nat → Obj
  | 0=>rec .ready none
  | k + 1=>rec .done js[k]?
def d_4 (D:Nat):Deferred:={ target:=.collected D,args:=#[] }
section
variable {r:Option Nat} {ds:List Deferred} {N:Nat} {a:Act} {sl:List (Nat × Value)} {w w0:World} {P:Program} {Q:Exit → Act → World → Prop}
def RP (P:Program) (l:Nat) (Q:Exit → Act → World → Prop) (a':Act) (w:World):Prop :=
  ∃ jump w4,(Instr.endLoop l).run P w = .ok jump w4 ∧ (match jump with | none=>Q .normal a' w4 | some c=>CI none P c Q a' w4)
theorem RP.done {rec:LoopState → Option Code → Obj} {l D fn tmps ps assign body} (hr:rec = Lr D fn tmps ps assign body) (h:Ox (rec .ready none) w l) (k:∀ w4,Nc l w w4 → Q .normal a w4):RP P l Q a w:=by
  subst hr
  exact ⟨none,_,run_endLoop h.1 (by simp),k _ (Nc.put h.1 rfl rfl)⟩
theorem RP.jump {rec:LoopState → Option Code → Obj} {l D fn tmps ps assign body c} (hr:rec = Lr D fn tmps ps assign body) (h:Ox (rec .done (some c)) w l) (k:∀ w4,Nc l w w4 → CI none P c Q a w4):RP P l Q a w:=by
  subst hr
  exact ⟨some c,_,run_endLoop h.1 (by simp),k _ (Nc.put h.1 rfl rfl)⟩
theorem R.range (S:StD ds N a sl) {g:Operand} {ps:Array Tmp} {assign body:Code} {gf:FuncId} {lb:Array Value} (hg:ev sl g = some (.func (.func gf) #[] lb)) (hcb:a_z P gf = true)
    (h:∀ fn w1 w2 D l rec,rec = Lr D fn a.tmps ps assign body → NewB w w1 D → NewB w1 w2 l → Ox (.deferred (some [])) w1 D → Ox (rec .ready none) w2 l →
      Calls P gf (#[.func (.yield l) #[] #[]] ++ lb) w2 fun e w3=>(∃ v,e = .returned v) ∧ RP P l Q { a with defers:=d_4 D :: a.defers } w3):CI none P (.rangeFunc g ps assign body) Q a w:=by
  intro hQ
  refine wpIn_rangeFunc fun fn _=>?_
  have n1:NewB w (w.alloc (.deferred (some []))) w.heap.size:=⟨(Below.refl _ w).alloc (Nat.le_refl _) _,Nat.le_refl _,by simp⟩
  have hl:=World.alloc_heap_new (w.alloc (.deferred (some []))) (Lr w.heap.size fn a.tmps ps assign body .ready none)
  rw [World.size_alloc] at hl
  have n2:NewB (w.alloc (.deferred (some []))) ((w.alloc (.deferred (some []))).alloc (Lr w.heap.size fn a.tmps ps assign body .ready none)) (w.heap.size + 1):=⟨(Below.refl _ _).alloc (Nat.le_refl _) _,by simp,by simp⟩
  have hD:Ox (.deferred (some [])) (w.alloc (.deferred (some []))) w.heap.size:=⟨World.alloc_heap_new w _,trivial⟩
  refine ⟨w.heap.size + 1,[d_4 w.heap.size],_,{ target:=.fn (.func gf) lb,args:=#[.func (.yield (w.heap.size + 1)) #[] #[]] },(w.alloc (.deferred (some []))).alloc (Lr w.heap.size fn a.tmps ps assign body .ready none),gf,#[.func (.yield (w.heap.size + 1)) #[] #[]] ++ lb,(w.alloc (.deferred (some []))).alloc (Lr w.heap.size fn a.tmps ps assign body .ready none),run_enterLoop_outer fn a.tmps ps assign body,?_,fun _ _=>trivial,?_,fun h=>by simp [Fr,Fence.wide] at h,?_⟩
  · have:a.eval g = .func (.func gf) #[] lb:=S.eval hg
    simp only [resolve,this]
    simp [go_sem]
    rfl
  · simp [invoke,b_S hcb]
  · refine d_s ((h fn _ _ _ _ _ rfl n1 n2 hD ⟨hl,trivial⟩).mono ?_)
    rintro _ w3 ⟨⟨v,rfl⟩,jump,w4,he,hj⟩
    refine ⟨jump,w4,he,?_⟩
    cases jump with
    | none=>exact hj
    | some c=>exact hj hQ
def psL:List Nat → List Value → List (Nat × Value) → List (Nat × Value)
  | p :: ps,v :: vs,l=>psL ps vs ((p,v) :: l)
  | _,_,l=>l
theorem St.round:∀ (ps:List Nat) (vs:List Value) {T:Array Value} {sl:List (Nat × Value)},(∀ p ∈ ps,p < N) → StD [] N { tmps:=T,defers:=[] } sl → St N { tmps:=(ps.zip vs).foldl (fun t p=>t.setIfInBounds p.1 p.2) T,defers:=[] } (psL ps vs sl)
  | [],_,_,_,_,S=>S
  | _ :: _,[],_,_,_,S=>S
  | p :: ps,v :: vs,T,sl,hp,S=>St.round ps vs (fun q hq=>hp q (List.mem_cons_of_mem _ hq)) (S.put (hp p (List.mem_cons_self ..)) v)
theorem StD.mark {D:Nat} (S:StD ds N a sl):StD (d_4 D :: ds) N { a with defers:=d_4 D :: a.defers } sl:=⟨S.size,by simp [S.defers],S.at_⟩
theorem StD.plain (S:StD ds N a sl):StD [] N { tmps:=a.tmps,defers:=[] } sl:=⟨S.size,rfl,S.at_⟩
def BG (P:Program) (l:Nat) (body:Code) (R:Ending → World → Prop) (a:Act) (w:World):Prop:=∃ w2,(Instr.beginRound l).run P w = .ok () w2 ∧ CI (some l) P body (roundPost P l R) a w2
theorem R.begin {rec:LoopState → Option Code → Obj} {l D fn tmps ps assign body b} {R:Ending → World → Prop} (hr:rec = Lr D fn tmps ps assign b) (h:Ox (rec .ready none) w l) (k:∀ w2,Nc l w w2 → Ox (rec .busy none) w2 l → CI (some l) P body (roundPost P l R) a w2):BG P l body R a w:=by
  subst hr
  exact ⟨_,run_beginRound h.1 rfl,k _ (Nc.put h.1 rfl rfl) ⟨World.putObj_heap_same (Array.getElem?_eq_some_iff.1 h.1).1,trivial⟩⟩
theorem e_Q {rec:LoopState → Option Code → Obj} {l D fn assign body} {ps:List Nat} {vs:List Value} {R:Ending → World → Prop} (hr:rec = Lr D fn a.tmps ps.toArray assign body) (S:StD ds N a sl) (h:Ox (rec .ready none) w l) (hs:vs.length = ps.length) (hp:ps.all (Nat.blt · N) = true)
    (k:∀ a',St N a' (psL ps vs sl) → CI (some l) P assign (Exit.then (BG P l body R) (fun _ _ _=>False)) a' w):YieldAt Fence.wide 0 P l vs.toArray w R:=by
  subst hr
  have hy:=run_yield (P:=P) (args:=vs.toArray) h.1 (by simpa using hs)
  refine ⟨fn,_,assign,body,hy,roundIn_of_wpIn trivial ?_⟩
  have S1:=St.round ps vs (fun p hm=>by simpa [Nat.blt_eq] using List.all_eq_true.1 hp p hm) S.plain
  have e:((ps.toArray.zip vs.toArray).foldl (fun tmps (x:Tmp × Value)=>tmps.setIfInBounds x.1 x.2) a.tmps) = (ps.zip vs).foldl (fun t p=>t.setIfInBounds p.1 p.2) a.tmps:=by simp
  have:=k _ S1 (fun ⟨_,_,h⟩=>h)
  refine wpIn_mono (c:=assign) (F:=Fence.wide.inRound l) (show assign.wpIn (Fence.wide.inRound l) 0 P _ _ w from by rw [← e] at this;exact this) fun e a' w' he=>?_
  cases e with
  | normal=>obtain ⟨w2,h1,h2⟩:=he;exact ⟨w2,h1,h2 (fun ⟨_,_,h⟩=>h)⟩
  | _=>exact he
theorem R.end_n {rec:LoopState → Option Code → Obj} {l D fn tmps ps assign b} {R:Ending → World → Prop} (hr:rec = Lr D fn tmps ps assign b) (h:Ox (rec .busy none) w l) (k:∀ w2,Nc l w w2 → Ox (rec .ready none) w2 l → R (.returned (.bool true)) w2):roundPost P l R .normal a w:=by
  subst hr
  exact ⟨_,_,run_endRound none h.1,k _ (Nc.put h.1 rfl rfl) ⟨World.putObj_heap_same (Array.getElem?_eq_some_iff.1 h.1).1,trivial⟩⟩
theorem R.end_r {rec:LoopState → Option Code → Obj} {l D fn tmps ps assign b} {R:Ending → World → Prop} (hr:rec = Lr D fn tmps ps assign b) (h:Ox (rec .busy none) w l) (k:∀ w2,Nc l w w2 → Ox (rec .done (some .ret)) w2 l → R (.returned (.bool false)) w2):roundPost P l R .ret a w:=by
  subst hr
  exact ⟨_,_,run_endRound (some .ret) h.1,k _ (Nc.put h.1 rfl rfl) ⟨World.putObj_heap_same (Array.getElem?_eq_some_iff.1 h.1).1,trivial⟩⟩
theorem R.enter {f:FuncId} {fn:Func} {c:Code} {args:List Value} {R:Ending → World → Prop} (hf:P.funcs[f]? = some fn) (hb:fn.body = some c) (N:Nat) (hN:fn.ntmps = N) (hl:Nat.ble args.length N = true) (hR:∀ w,¬ R .outgrown w)
    (h:∀ a,St N a (b_2 0 args) → CI none P c (bodyPostM (Fr none) 0 P fn R) a w):Calls P f args.toArray w R:=by
  refine (callsIn_wide (n:=0)).1 (callsIn_of_wp_marks (F:=Fence.wide) hf hb trivial ?_)
  rw [hN]
  exact h _ (StD.enter args N (by simpa [Nat.ble_eq] using hl)) fun ⟨_,w,h⟩=>hR w h
theorem R.leave0 (S:StD [] N a sl) {fn:Func} {R:Ending → World → Prop} (h:∀ a',St N a' sl → bodyPost P fn R .ret a' w) {e:Exit} (he:e = .ret ∨ e = .normal):bodyPostM (Fr none) 0 P fn R e a w:=by
  have:=h a S
  obtain ⟨_,v,h1,h2⟩:=this
  rcases he with rfl | rfl <;> (show LeavesInM _ _ _ _ _ _ a.defers _ _;rw [S.defers];exact ⟨v,h1,h2⟩)
theorem R.leave1 {D:Nat} (S:StD [d_4 D] N a sl) {fn:Func} {R:Ending → World → Prop} (hD:Ox (.deferred (some [])) w D) (h:∀ a' w',Nc D w w' → St N a' sl → bodyPost P fn R .ret a' w') {e:Exit} (he:e = .ret ∨ e = .normal):bodyPostM (Fr none) 0 P fn R e a w:=by
  obtain ⟨_,v,h1,h2⟩:=h { tmps:=a.tmps,defers:=[] } _ (Nc.put (o':=.deferred none) hD.1 rfl rfl) S.plain
  rcases he with rfl | rfl <;> (show LeavesInM _ _ _ _ _ _ a.defers _ _;rw [S.defers];exact ⟨by simp,.inl ⟨D,_,rfl,run_takeDeferred hD.1,v,h1,h2⟩⟩)
def rnd {σ α:Type} (body:σ → α → Option (Nat × σ)):Nat × σ → α → Option (Bool × (Nat × σ))
  | (0,s),x=>(body s x).map fun r=>(Nat.beq r.1 0,r)
  | _,_=>none
theorem rnd_some {σ α:Type} {body:σ → α → Option (Nat × σ)} {s:Nat × σ} {x:α} {r:Bool × (Nat × σ)} (h:rnd body s x = some r):∃ s0 r0,s = (0,s0) ∧ body s0 x = some r0 ∧ r = (Nat.beq r0.1 0,r0):=by
  unfold rnd at h
  split at h
  · cases hb:body _ _ with
    | none=>rw [hb] at h;cases h
    | some r0=>rw [hb] at h;exact ⟨_,r0,rfl,hb,(Option.some.inj h).symm⟩
  · cases h
end
end Go.Proofs.Ytfelbalkobcfhaa
