/- Regions that draw their order, and lay blocks of the call's own: what holds of values. Plain theorems, no condition. -/
import Derived.Test.YtfelbalkobcfhaaXE20
set_option linter.unusedVariables false
set_option linter.unusedSimpArgs false
namespace Go.Proofs.Ytfelbalkobcfhaa
open Go.RowKit
def lm (I:List Nat) (L:List (Option Nat)) (M:Nat → Option (Option Nat)):List (Option Nat):=I.map (fun i=>(M i).join) ++ L
def b_m (M:Nat → Option (Option Nat)) (i:Nat) (o:Option Nat):Nat → Option (Option Nat):=fun j=>if j = i then some o else M j
theorem e_p {M:Nat → Option (Option Nat)} {i:Nat} {o:Option Nat} {w:World}:((b_m M i o,w):GW).1 i = some o:=if_pos rfl
theorem lm_upd {M:Nat → Option (Option Nat)} {L:List (Option Nat)} {i:Nat} {o:Option Nat}:∀ {I:List Nat},I.Nodup → i ∈ I → ∃ l',l'.Sublist (lm I L M) ∧ (lm I L (b_m M i o)).Perm (o :: l')
  | [],_,h=>by cases h
  | j :: J,hn,h=>by
    obtain ⟨hj,hn⟩:=List.nodup_cons.1 hn
    by_cases hij:j = i
    · subst hij
      refine ⟨lm J L M,List.sublist_cons_self _ _,?_⟩
      have:lm J L (b_m M j o) = lm J L M:=by
        unfold lm
        congr 1
        refine List.map_congr_left fun k hk=>?_
        have:k ≠ j:=fun e=>hj (e ▸ hk)
        simp [b_m,this]
      have e:lm (j :: J) L (b_m M j o) = o :: lm J L (b_m M j o):=by simp [lm,b_m]
      rw [e,this]
    · have hi:i ∈ J:=by
        rcases List.mem_cons.1 h with e | h
        · exact absurd e.symm hij
        · exact h
      obtain ⟨l',h1,h2⟩:=lm_upd (M:=M) (L:=L) (o:=o) hn hi
      refine ⟨(M j).join :: l',by exact List.Sublist.cons_cons _ h1,?_⟩
      have e:lm (j :: J) L (b_m M i o) = (M j).join :: lm J L (b_m M i o):=by simp [lm,b_m,hij]
      rw [e]
      exact (List.Perm.cons _ h2).trans (List.Perm.swap _ _ _)
theorem lm_mem {M:Nat → Option (Option Nat)} {L:List (Option Nat)} {I:List Nat} {i:Nat} {o x:Option Nat} (hn:I.Nodup) (hi:i ∈ I) (h:x ∈ lm I L (b_m M i o)):x ∈ o :: lm I L M:=by
  obtain ⟨l',h1,h2⟩:=lm_upd (M:=M) (L:=L) (o:=o) hn hi
  rcases List.mem_cons.1 (h2.mem_iff.1 h) with e | hm
  · exact List.mem_cons.2 (.inl e)
  · exact List.mem_cons.2 (.inr (h1.subset hm))
theorem c_Z {L:List (Option Nat)} {I:List Nat} {c:Nat} (h:some c ∈ lm I L fun _=>none):some c ∈ L:=by
  rcases List.mem_append.1 h with h | h
  · obtain ⟨i,_,e⟩:=List.mem_map.1 h
    cases e
  · exact h
section
variable {w0 w w':World} {L:List (Option Nat)} {K:Nat → Prop} {n b:Nat} {t:GT} {I:List Nat} {M:Nat → Option (Option Nat)}
theorem Wd.lm0:∀ (I:List Nat),Wd w0 w L → Wd w0 w (lm I L fun _=>none)
  | [],h=>h
  | i :: I,h=>(Wd.lm0 I h).more
theorem Wd.lay {i:Nat} {o:Option Nat} (h:Wd w0 w (lm I L M)) (hN:NewO w w' o) (hn:I.Nodup) (hi:i ∈ I):Wd w0 w' (lm I L (b_m M i o)):=by
  have h1:=h.newO hN
  obtain ⟨l',hs,hp⟩:=lm_upd (M:=M) (L:=L) (o:=o) hn hi
  have h2:=h1.less (List.Sublist.cons_cons o hs)
  refine ⟨h2.below,fun c hc=>h2.own c (hp.mem_iff.1 hc),(hp.pairwise_iff fun {x y} h=>?_).2 h2.dis⟩
  rcases h with h | h
  · subst h
    cases y with
    | none=>exact .inl rfl
    | some y=>exact .inr (by simp)
  · exact .inr fun e=>h e.symm
structure Gr (w0:World) (I:List Nat) (L:List (Option Nat)) (g g':GW):Prop where
  below:Below g.2.heap.size g.2 g'.2
  same:∀ j o,g.1 j = some o → g'.1 j = some o
  new:∀ j b,g.1 j = none → g'.1 j = some (some b) → g.2.heap.size ≤ b
  wd:Wd w0 g.2 (lm I L g.1) → Wd w0 g'.2 (lm I L g'.1)
theorem Gr.refl (g:GW):Gr w0 I L g g:=⟨Below.refl _ _,fun _ _ h=>h,fun j b h h'=>(by rw [h] at h';cases h'),id⟩
theorem Gr.trans (a b c:GW) (h:Gr w0 I L a b) (k:Gr w0 I L b c):Gr w0 I L a c :=
  ⟨c_p h.below k.below,fun j o e=>k.same j o (h.same j o e),fun j x e e'=>by
    cases hb:b.1 j with
    | none=>have:=k.new j x hb e';have:=h.below.size;omega
    | some o =>
      have:=k.same j o hb
      rw [e'] at this
      obtain rfl:some x = o:=Option.some.inj this
      exact h.new j x e hb,fun e=>k.wd (h.wd e)⟩
theorem Gr.ofBelow (hb:Below w.heap.size w w'):Gr w0 I L (M,w) (M,w'):=⟨hb,fun _ _ h=>h,fun j b h h'=>(by have h:M j = none:=h;have h':M j = some (some b):=h';rw [h] at h';cases h'),fun h=>h.step hb⟩
theorem Gr.drawn (w:World):Gr w0 I L (M,w) (M,{ w with drawn:=w.drawn + 1 }):=Gr.ofBelow ⟨rfl,rfl,rfl,Nat.le_refl _,fun _ _=>rfl⟩
theorem Gr.lay {i:Nat} {o:Option Nat} (hN:NewO w w' o) (hM:M i = none) (hn:I.Nodup) (hi:i ∈ I):Gr w0 I L (M,w) (b_m M i o,w') :=
  ⟨hN.below,fun j x h=>(by
    have h:M j = some x:=h
    have:j ≠ i:=fun e=>by rw [e,hM] at h;cases h
    show b_m M i o j = some x
    simpa [b_m,this] using h),fun j b h h'=>(by
    have h:M j = none:=h
    have h':b_m M i o j = some (some b):=h'
    by_cases e:j = i
    · subst e
      simp [b_m] at h'
      exact hN.ge b h'
    · simp [b_m,e] at h'
      rw [h] at h';cases h'),fun h=>Wd.lay h hN hn hi⟩
theorem Gr.kk {g g':GW} (h:Gr w0 I L g g') {c:Nat} (hc:c < g.2.heap.size) (hk:Kx K n (lm I L g.1) c):Kx K n (lm I L g'.1) c:=⟨hk.1,fun hm=>by
  rcases List.mem_append.1 hm with hm | hm
  · obtain ⟨i,hi,e⟩:=List.mem_map.1 hm
    cases hg:g.1 i with
    | none =>
      cases hg':g'.1 i with
      | none=>rw [hg'] at e;cases e
      | some o =>
        rw [hg'] at e
        have e:o = some c:=e
        have:=h.new i c hg (by rw [hg',e])
        omega
    | some o =>
      rw [h.same i o hg] at e
      exact hk.2 (List.mem_append.2 (.inl (List.mem_map.2 ⟨i,hi,by rw [hg];exact e⟩)))
  · exact hk.2 (List.mem_append.2 (.inr hm))⟩
theorem RepV.gr {g g':GW} {u:Value} {x:PT t} (h:RepV t g.2 (Kx K n (lm I L g.1)) u x) (hg:Gr w0 I L g g'):RepV t g'.2 (Kx K n (lm I L g'.1)) u x:=h.keep (Keeps.below hg.below) fun c hc hk=>hg.kk hc hk
theorem Bx.gr {g g':GW} {T:TypeId} {x:PT t} (h:Bx t T g.2 (Kx K n (lm I L g.1)) b x) (hg:Gr w0 I L g g'):Bx t T g'.2 (Kx K n (lm I L g'.1)) b x:=by
  have hl:=h.lt
  obtain ⟨cs,h1,h2⟩:=h
  exact ⟨cs,(hg.below.block b hl).trans h1,h2.keep (Keeps.below hg.below) fun c hc hk=>hg.kk hc hk⟩
theorem Ow.gr {g g':GW} {e:GT} {E:TypeId} {v:Value} {xs:List (PT e)} {c:Option Nat} {m:Nat} (h:Ow e E g.2 m (Kx K n (lm I L g.1)) v xs c) (hg:Gr w0 I L g g'):Ow e E g'.2 m (Kx K n (lm I L g'.1)) v xs c:=by
  obtain ⟨cs,h1,h2,h3⟩:=h
  exact ⟨cs,h1.kept (row:=.none) ⟨hg.below.os,hg.below.tape,hg.below.output,hg.below.size,fun k hk _=>hg.below.block k hk⟩ (by cases hv:v.ownBlock <;> simp),h2.keep (Keeps.below hg.below) fun c hc hk=>hg.kk hc hk,h3⟩
theorem RepV.lm0 {u:Value} {x:PT t} (h:RepV t w (Kx K n L) u x):RepV t w (Kx K n (lm I L fun _=>none)) u x:=h.keep (Keeps.refl _ _) fun c _ hk=>⟨hk.1,fun hm=>hk.2 (c_Z hm)⟩
theorem Bx.lm0 {T:TypeId} {x:PT t} (h:Bx t T w (Kx K n L) b x):Bx t T w (Kx K n (lm I L fun _=>none)) b x:=by
  obtain ⟨cs,h1,h2⟩:=h
  exact ⟨cs,h1,h2.keep (Keeps.refl _ _) fun c _ hk=>⟨hk.1,fun hm=>hk.2 (c_Z hm)⟩⟩
theorem Ow.lm0 {e:GT} {E:TypeId} {v:Value} {xs:List (PT e)} {c:Option Nat} {m:Nat} (h:Ow e E w m (Kx K n L) v xs c):Ow e E w m (Kx K n (lm I L fun _=>none)) v xs c:=by
  obtain ⟨cs,h1,h2,h3⟩:=h
  exact ⟨cs,h1,h2.keep (Keeps.refl _ _) fun c _ hk=>⟨hk.1,fun hm=>hk.2 (c_Z hm)⟩,h3⟩
theorem Bx.laid {T:TypeId} {x:PT t} {i:Nat} {o:Option Nat} (h:Bx t T w (Kx K n (o :: lm I L M)) b x) (hn:I.Nodup) (hi:i ∈ I):Bx t T w (Kx K n (lm I L (b_m M i o))) b x:=by
  obtain ⟨cs,h1,h2⟩:=h
  exact ⟨cs,h1,h2.keep (Keeps.refl _ _) fun c _ hk=>⟨hk.1,fun hm=>hk.2 (lm_mem hn hi hm)⟩⟩
theorem Ow.laid {e:GT} {E:TypeId} {v:Value} {xs:List (PT e)} {c:Option Nat} {m i:Nat} {o:Option Nat} (h:Ow e E w m (Kx K n (o :: lm I L M)) v xs c) (hn:I.Nodup) (hi:i ∈ I):Ow e E w m (Kx K n (lm I L (b_m M i o))) v xs c:=by
  obtain ⟨cs,h1,h2,h3⟩:=h
  exact ⟨cs,h1,h2.keep (Keeps.refl _ _) fun c _ hk=>⟨hk.1,fun hm=>hk.2 (lm_mem hn hi hm)⟩,h3⟩
theorem NewB.newO (h:NewB w w' b):NewO w w' (some b):=⟨h.below,fun c e=>by obtain rfl:=Option.some.inj e;exact h.ge,fun c e=>by obtain rfl:=Option.some.inj e;exact h.lt⟩
end
def eqvG (x:Value):Value → GW → Prop:=fun v _=>v = x
def a_7 (k:IntKind) (x:Int):Value → GW → Prop:=fun v _=>v = .int k x ∧ InR k x
def a_r (t:GT) (K:Nat → Prop) (n:Nat) (I:List Nat) (L:List (Option Nat)) (x:PT t):Value → GW → Prop:=fun v g=>RepV t g.2 (Kx K n (lm I L g.1)) v x
def b_9 (F1 F2:Value → GW → Prop):Value → GW → Prop:=fun v w=>∃ v1 v2,v = .tuple #[v1,v2] ∧ F1 v1 w ∧ F2 v2 w
def e_q (t:GT) (K:Nat → Prop) (n:Nat) (I:List Nat) (L:List (Option Nat)) (x:PT t):Value → GW → Prop:=fun v g=>∃ p:Addr,v = .pointer (some p) ∧ RepAt t g.2 (Kx K n (lm I L g.1)) p x ∧ p.block < g.2.heap.size ∧ Kx K n (lm I L g.1) p.block
def e_r (t:GT) (T:TypeId) (K:Nat → Prop) (n:Nat) (I:List Nat) (L:List (Option Nat)) (i:Nat) (x:PT t):Value → GW → Prop:=fun v g=>∃ b:Nat,v = .pointer (some ⟨b,0,.none⟩) ∧ g.1 i = some (some b) ∧ Bx t T g.2 (Kx K n (lm I L g.1)) b x
def d_E (w0:World) (I:List Nat) (L:List (Option Nat)) (f:Value → GW → Prop):Prop:=∀ v g g',Gr w0 I L g g' → f v g → f v g'
section
variable {w0:World} {I:List Nat} {L:List (Option Nat)} {K:Nat → Prop} {n:Nat} {t:GT}
theorem d_2 (x:Value):d_E w0 I L (eqvG x):=fun _ _ _ _ h=>h
theorem b_a {k:IntKind} {x:Int}:d_E w0 I L (a_7 k x):=fun _ _ _ _ h=>h
theorem a_H {x:PT t}:d_E w0 I L (a_r t K n I L x):=fun _ _ _ hg h=>RepV.gr h hg
theorem c_J {F1 F2:Value → GW → Prop} (h1:d_E w0 I L F1) (h2:d_E w0 I L F2):d_E w0 I L (b_9 F1 F2):=fun _ _ _ hb ⟨v1,v2,e,a,b⟩=>⟨v1,v2,e,h1 _ _ _ hb a,h2 _ _ _ hb b⟩
theorem e_D {x:PT t}:d_E w0 I L (e_q t K n I L x):=fun _ _ _ hb ⟨p,e,h,hp,hk⟩ =>
  ⟨p,e,h.keep (Keeps.below hb.below) (fun c hc hk=>hb.kk hc hk) (fun i _=>(Keeps.below (K:=fun _=>True) hb.below).2 ⟨p.block,p.off + i,.none⟩ hp trivial),by have:=hb.below.size;omega,hb.kk hp hk⟩
theorem d_F {T:TypeId} {i:Nat} {x:PT t}:d_E w0 I L (e_r t T K n I L i x):=fun _ _ _ hb ⟨b,e,hi,h⟩=>⟨b,e,hb.same _ _ hi,h.gr hb⟩
def cndG (b w:Bool) (f:Value → GW → Prop):Value → GW → Prop:=fun v W=>(b = w → f v W) ∧ (¬ b = w → v = undef)
theorem cndG.pos {b w:Bool} {f:Value → GW → Prop} {v:Value} {W:GW} (h:cndG b w f v W) (hc:b = w):f v W:=h.1 hc
theorem cndG.neg {b w:Bool} {f:Value → GW → Prop} {v:Value} {W:GW} (h:cndG b w f v W) (hc:¬ b = w):v = undef:=h.2 hc
def StabGL (w0:World) (I:List Nat) (L:List (Option Nat)):List (Value → GW → Prop) → Prop
  | []=>True
  | f :: fs=>d_E w0 I L f ∧ StabGL w0 I L fs
theorem StabGL.all:∀ {Fs:List (Value → GW → Prop)},StabGL w0 I L Fs → ∀ f ∈ Fs,∀ v g g',Gr w0 I L g g' → f v g → f v g'
  | f :: fs,h,g,hg=>by
    rcases List.mem_cons.1 hg with rfl | hg
    · exact h.1
    · exact StabGL.all h.2 g hg
variable {ds:List Deferred} {N d i:Nat} {A a0:Act} {l:List (Nat × Value)} {v:Value} {f:Value → GW → Prop} {w w':World} {Q:Exit → Act → World → Prop} {M:Nat → Option (Option Nat)} {P:Program}
theorem RPostG.mk_ (S:StD ds N A l) (hd:lk l d = some v) (h0:a0.defers = ds) (hf:f v (M,w')) (hb:Below w.heap.size w w'):RPostG (Gr w0 I L) i (some d) f a0.defers (M,w) Q .normal A w':=by
  refine ⟨M,S.defers.trans h0.symm,?_,Gr.ofBelow hb,fun _ _=>rfl⟩
  rw [show a_8 (some d) A = v by simp [a_8,S.at_ d v hd]]
  exact hf
theorem RPostG.lay (S:StD ds N A l) (hd:lk l d = some v) (h0:a0.defers = ds) (o:Option Nat) (hN:NewO w w' o) (hM:M i = none) (hn:I.Nodup) (hi:i ∈ I) (hf:f v (b_m M i o,w')):RPostG (Gr w0 I L) i (some d) f a0.defers (M,w) Q .normal A w':=by
  refine ⟨b_m M i o,S.defers.trans h0.symm,?_,Gr.lay hN hM hn hi,fun j hj=>by simp [b_m,hj]⟩
  rw [show a_8 (some d) A = v by simp [a_8,S.at_ d v hd]]
  exact hf
theorem b_B {l:List Oper} (n:Nat) (nxt:List Nat) (w0:World) (I:List Nat) (L:List (Option Nat)) (Fs:List (Value → GW → Prop)) (D:List (List (Nat × Nat))) (hm:P.follows .mixedOrders = true) (hB:a_v l.toArray a0.tmps.size = true) (hsel:Region.noSelect l.toArray = true) (hsuf:sufB l.toArray n nxt = true)
    (hD:a_Q (a_P (l.take n).toArray) l.toArray (l.take n) D = true) (hlen:Fs.length = (l.take n).length) (hst:StabGL w0 I L Fs) (h:RunAllG (Gr w0 I L) P l.toArray a0 (fun _=>none,w) Q Fs 0 (l.take n) D) (hend:∀ M W,Gr w0 I L (fun _=>none,w) (M,W) → EndEG (M,W) (fun a=>wpList P l.toArray Q (l.drop n) a W) Fs (l.take n) a0):e_O P l Q a0 w :=
  c_y (K:=fun _=>True) n nxt Gr.refl Gr.trans (Gr.drawn w) Fs D hm hB hsel hsuf hD hlen (fun f hf v g g' hg h=>StabGL.all hst f hf v g g' hg h) h fun g hg=>hend g.1 g.2 hg
theorem d_G {id:Nat} {l:List Oper} (n:Nat) (nxt:List Nat) (w0:World) (I:List Nat) (L:List (Option Nat)) (Fs:List (Value → GW → Prop)) (D:List (List (Nat × Nat))) (hm:P.follows .mixedOrders = true) (hB:a_v l.toArray a0.tmps.size = true) (hsel:Region.noSelect l.toArray = true) (hsuf:sufB l.toArray n nxt = true)
    (hD:a_Q (a_P (l.take n).toArray) l.toArray (l.take n) D = true) (hlen:Fs.length = (l.take n).length) (hst:StabGL w0 I L Fs) (h:RunAllG (Gr w0 I L) P l.toArray a0 (fun _=>none,w) Q Fs 0 (l.take n) D) (hend:∀ M W,Gr w0 I L (fun _=>none,w) (M,W) → EndEG (M,W) (fun a=>wpList P l.toArray Q (l.drop n) a W) Fs (l.take n) a0):(Code.region id l.toArray true).wp P Q a0 w:=wp_region_any hm (b_B n nxt w0 I L Fs D hm hB hsel hsuf hD hlen hst h hend)
end
end Go.Proofs.Ytfelbalkobcfhaa
