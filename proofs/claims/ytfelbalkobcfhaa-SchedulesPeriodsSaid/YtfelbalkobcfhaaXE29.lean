/- The rules of the walk over plain data, more: several slices of one's own out of one call; copying. Plain theorems, no condition. -/
import Derived.Test.YtfelbalkobcfhaaXE28
set_option linter.unusedVariables false
set_option linter.unusedSimpArgs false
namespace Go.Proofs.Ytfelbalkobcfhaa
open Go.RowKit
@[reducible] def pB (b:Nat):Value:=.pointer (some (⟨b,0,.none⟩:Addr))
section
variable {w0 w w' A:World} {L P LO:List (Option Nat)} {K:Nat → Prop} {n b m:Nat} {t:GT} {u:Value} {p:Addr} {x:PT t} {T:TypeId}
theorem RepV.fr (P LO:List (Option Nat)) (h:RepV t w (Kx K n (P ++ LO)) u x):RepV t w (Kx K n P) u x:=h.less (List.sublist_append_left _ _)
theorem Ow.fr (P LO:List (Option Nat)) {e:GT} {E:TypeId} {v:Value} {xs:List (PT e)} {c:Option Nat} (h:Ow e E w m (Kx K n (P ++ LO)) v xs c):Ow e E w m (Kx K n P) v xs c:=by
  obtain ⟨cs,h1,h2,h3⟩:=h
  exact ⟨cs,h1,h2.keep (Keeps.refl _ _) fun c _ hk=>⟨hk.1,fun hm=>hk.2 (List.mem_append.2 (.inl hm))⟩,h3⟩
theorem Kx.newW {c:Nat} (hN:Wd w w' P) (hc:c < w.heap.size) (hk:Kx K n L c):Kx K n (P ++ L) c:=⟨hk.1,fun hm=>by
  rcases List.mem_append.1 hm with hm | hm
  · have:=(hN.own c hm).1;omega
  · exact hk.2 hm⟩
theorem RepV.newW (h:RepV t w (Kx K n L) u x) (hN:Wd w w' P):RepV t w' (Kx K n (P ++ L)) u x:=h.keep (Keeps.below hN.below) fun c hc hk=>Kx.newW hN hc hk
theorem Pr.newW (h:Pr t w (Kx K n L) p x) (hN:Wd w w' P):Pr t w' (Kx K n (P ++ L)) p x:=h.keep (Keeps.below hN.below) fun c hc hk=>Kx.newW hN hc hk
theorem Bx.newW (h:Bx t T w (Kx K n L) b x) (hN:Wd w w' P):Bx t T w' (Kx K n (P ++ L)) b x:=by
  have hl:=h.lt
  obtain ⟨cs,h1,h2⟩:=h
  exact ⟨cs,(hN.below.block b hl).trans h1,h2.keep (Keeps.below hN.below) fun c hc hk=>Kx.newW hN hc hk⟩
theorem Ow.newW {e:GT} {E:TypeId} {v:Value} {xs:List (PT e)} {c:Option Nat} (h:Ow e E w m (Kx K n L) v xs c) (hN:Wd w w' P):Ow e E w' m (Kx K n (P ++ L)) v xs c:=by
  obtain ⟨cs,h1,h2,h3⟩:=h
  exact ⟨cs,h1.kept (row:=.none) ⟨hN.below.os,hN.below.tape,hN.below.output,hN.below.size,fun k hk _=>hN.below.block k hk⟩ (by cases hv:v.ownBlock <;> simp),h2.keep (Keeps.below hN.below) fun d hc hk=>Kx.newW hN hc hk,h3⟩
theorem Ox.newW {q:Obj} (h:Ox q w b) (hN:Wd w w' P):Ox q w' b:=h.step hN.below
theorem Rnd.newW (h:Rnd A LO w L) (hN:Wd w w' P):Rnd A LO w' (P ++ L) :=
  have h1:=h.step hN.below
  ⟨h1.os,h1.tape,h1.output,h1.size,h1.keep,fun b hl hm=>by
    rcases List.mem_append.1 hm with hm | hm
    · have:=(hN.own b hm).1;have:=h.size;omega
    · exact h.old b hl hm⟩
theorem JI.newW {β:Type} {Inv:β → List (Option Nat) → World → Prop} {Bs:List (Option Nat)} {n0:Nat} {s:β} (h:JI Inv Bs n0 LO w s) (hN:Wd w w' P):JI Inv Bs n0 LO w' s:=h.step hN.below
theorem Wd.newW (h:Wd w0 w L) (hN:Wd w w' P):Wd w0 w' (P ++ L):=by
  have hs:=hN.below.size
  have hz:=h.below.size
  refine ⟨h.below.trans (hN.below.mono hz),fun c hm=>?_,List.pairwise_append.2 ⟨hN.dis,h.dis,fun y hy z hz=>?_⟩⟩
  · rcases List.mem_append.1 hm with hm | hm
    · have:=hN.own c hm;omega
    · have:=h.own c hm;omega
  · cases y with
    | none=>exact .inl rfl
    | some c =>
      refine .inr fun e=>?_
      subst e
      have:=(hN.own c hy).1;have:=(h.own c hz).2;omega
theorem Kx.backW {c:Nat} (hW:Wd w0 w L) (hk:Kx (Kx K w0.heap.size L) w.heap.size P c):Kx K w0.heap.size (P ++ L) c:=by
  obtain ⟨h1,h2⟩:=hk
  rcases h1 with h1 | h1
  · exact ⟨h1.1,fun hm=>by
      rcases List.mem_append.1 hm with hm | hm
      · exact h2 hm
      · exact h1.2 hm⟩
  · refine ⟨.inr (by have:=hW.below.size;omega),fun hm=>?_⟩
    rcases List.mem_append.1 hm with hm | hm
    · exact h2 hm
    · have:=(hW.own c hm).2;omega
theorem RepV.backW (h:RepV t w' (Kx (Kx K w0.heap.size L) w.heap.size P) u x) (hW:Wd w0 w L):RepV t w' (Kx K w0.heap.size (P ++ L)) u x:=h.keep (Keeps.refl _ _) fun c _ hk=>Kx.backW hW hk
theorem Ow.backW {e:GT} {E:TypeId} {v:Value} {xs:List (PT e)} {c:Option Nat} (h:Ow e E w' w.heap.size (Kx (Kx K w0.heap.size L) w.heap.size P) v xs c) (hW:Wd w0 w L):Ow e E w' w0.heap.size (Kx K w0.heap.size (P ++ L)) v xs c:=by
  obtain ⟨cs,h1,h2,h3⟩:=h
  refine ⟨cs,⟨h1.1,?_⟩,h2.keep (Keeps.refl _ _) fun c _ hk=>Kx.backW hW hk,h3⟩
  rcases h1.2 with h4 | ⟨g,cap,cur,e1,e2,e3⟩
  · exact .inl h4
  · exact .inr ⟨g,cap,cur,e1,by have:=hW.below.size;omega,e3⟩
end
section
variable {w:World} {K:Nat → Prop} {e:GT}
end
section
variable {ds:List Deferred} {N:Nat} {a:Act} {l:List (Nat × Value)} {w w0:World} {P:Program} {ops:Array Oper} {Q:Exit → Act → World → Prop} {rest:List Oper} {o:Oper} {Kont:Act → World → Prop} {d:Nat} {K:Nat → Prop} {n:Nat} {L:List (Option Nat)}
end
theorem c_2 {ks:List Nat}:∀ (l:List (Nat × Value)) {i:Nat} {u:Value},lk (l.filter fun p=>ks.contains p.1) i = some u → lk l i = some u
  | [],_,_,h=>h
  | (k,v) :: l,i,u,h=>by
    by_cases hk:ks.contains k = true
    · rw [List.filter_cons_of_pos (by simpa using hk)] at h
      unfold lk at h ⊢
      cases hb:Nat.beq k i with
      | true=>rw [hb] at h;exact h
      | false=>rw [hb] at h;exact c_2 l h
    · rw [List.filter_cons_of_neg (by simpa using hk)] at h
      have h1:=c_2 l h
      unfold lk
      cases hb:Nat.beq k i with
      | false=>exact h1
      | true =>
        exfalso
        obtain rfl:=Nat.eq_of_beq_eq_true hb
        have:∀ (l:List (Nat × Value)),lk (l.filter fun p=>ks.contains p.1) k = none:=by
          intro l
          induction l with
          | nil=>rfl
          | cons p l ih =>
            obtain ⟨q,v'⟩:=p
            by_cases hq:ks.contains q = true
            · rw [List.filter_cons_of_pos (by simpa using hq)]
              unfold lk
              cases hb2:Nat.beq q k with
              | true=>obtain rfl:=Nat.eq_of_beq_eq_true hb2;exact absurd hq hk
              | false=>exact ih
            · rw [List.filter_cons_of_neg (by simpa using hq)];exact ih
        rw [this l] at h
        cases h
section
variable {ds:List Deferred} {N:Nat} {a:Act} {l:List (Nat × Value)} {w:World} {P:Program} {ops:Array Oper} {Q:Exit → Act → World → Prop}
theorem StD.keep (S:StD ds N a l) (ks:List Nat):StD ds N a (l.filter fun p=>ks.contains p.1):=⟨S.size,S.defers,fun i u hi=>S.at_ i u (c_2 l hi)⟩
theorem wl_pureK (S:StD ds N a l) (tys:List (TypeId × GT)) (ht:tysOk P tys = true) (m:Nat) (ks:List Nat) {l0:List Oper} {l':List (Nat × Value)} (h:(a_L tys ops N (l0.take m) l).map (fun q=>q.filter fun p=>ks.contains p.1) = some l')
    (k:∀ a',StD ds N a' l' → wpList P ops Q (l0.drop m) a' w):wpList P ops Q l0 a w:=by
  rw [Option.map_eq_some_iff] at h
  obtain ⟨q,h1,rfl⟩:=h
  exact wl_pure S tys ht m h1 fun a' S'=>k a' (S'.keep ks)
theorem R.wl_pureK {r:Option Nat} (S:StD ds N a l) (tys:List (TypeId × GT)) (ht:tysOk P tys = true) (m:Nat) (ks:List Nat) {l0:List Oper} {l':List (Nat × Value)} (h:(a_L tys ops N (l0.take m) l).map (fun q=>q.filter fun p=>ks.contains p.1) = some l')
    (k:∀ a',StD ds N a' l' → LI r P ops Q (l0.drop m) a' w):LI r P ops Q l0 a w:=by
  rw [Option.map_eq_some_iff] at h
  obtain ⟨q,h1,rfl⟩:=h
  exact R.wl_pure S tys ht m h1 fun a' S'=>k a' (S'.keep ks)
end
end Go.Proofs.Ytfelbalkobcfhaa
