/- The rules of the walk over plain data. Plain theorems, no condition. -/
import Derived.Test.YtjinaepmpoclaaaGreatDoorLB2
import Derived.Test.YtjinaepmpoclaaaGreatDoorLB1
import Derived.Lib.LaidU8
import Derived.Lay
set_option linter.unusedVariables false
set_option linter.unusedSimpArgs false
namespace Go.Proofs.YtjinaepmpoclaaaGreatDoor
open Go.RowKit
@[reducible] def pA (b:Nat) (g:GT) (k:Nat):Value:=.pointer (some ((⟨b,0,.none⟩:Addr).add (d_I g k)))
@[reducible] def pC (b:Nat) (g:GT) (k:Nat) (g':GT) (k':Nat):Value:=.pointer (some (((⟨b,0,.none⟩:Addr).add (d_I g k)).add (d_I g' k')))
theorem tE {x:Value}:∀ u (W:World),eqv x u W → u = x:=fun _ _ h=>h
theorem tI {k:IntKind} {x:Int}:∀ u (W:World),isI k x u W → u = .int k x:=fun _ _ h=>h.1
theorem tC {f:Value → World → Prop} {v:Value} {c w:Bool} (h:∀ u W,f u W → u = v):∀ u W,cndF c w f u W → c = w → u = v:=fun u W h1 hc=>h u W (h1.1 hc)
section
variable {P:Program} {tys:List (TypeId × GT)} {ops:Array Oper} {a0:Act} {w0:World} {Q:Exit → Act → World → Prop} {Fs:List (Value → World → Prop)} {i d d1 d2 d3 dg:Nat} {o:Oper} {os:List Oper} {ds:List (Nat × Nat)} {D:List (List (Nat × Nat))} {N:Nat} {dd:List Deferred} {l:List (Nat × Value)} {v v1 v2 v3:Value} {c w c2 w2:Bool} {f f1 f2 f3:Value → World → Prop}
theorem u0 (ht:tysOk P tys = true) (S:StD dd N a0 l) (he:(ds.map fun p=>(b_e Fs p.1,p.2)) = []) (hf:b_e Fs i = f) (hd:o.dst = some d) (pf:∀ W,f v W) (r:RunAll Bl P ops a0 w0 Q Fs (i + 1) os D) (h:(a_h tys ops N [o] l).bind (fun q=>lk q d) = some v:=by kernel_rfl):RunAll Bl P ops a0 w0 Q Fs i (o :: os) (ds :: D) :=
  RunAll.cons f [] hf he (fun W hW=>RPost.o1 ht S S hd h (pf W)) r
theorem u1 (ht:tysOk P tys = true) (S:StD dd N a0 l) (he:(ds.map fun p=>(b_e Fs p.1,p.2)) = [(f1,d1)]) (t1:∀ u W,f1 u W → u = v1) (hf:b_e Fs i = f) (hd:o.dst = some d) (pf:∀ W,f1 v1 W → f v W) (r:RunAll Bl P ops a0 w0 Q Fs (i + 1) os D) (n1:Nat.blt d1 N = true:=by rfl) (h:(a_h tys ops N [o] ((d1,v1) :: l)).bind (fun q=>lk q d) = some v:=by kernel_rfl):RunAll Bl P ops a0 w0 Q Fs i (o :: os) (ds :: D) :=
  RunAll.cons f _ hf he (fun W hW u1 h1=>by obtain rfl:=t1 _ _ h1;exact RPost.o1 ht (S.pt d1 u1 n1) S hd h (pf W h1)) r
theorem u2 (ht:tysOk P tys = true) (S:StD dd N a0 l) (he:(ds.map fun p=>(b_e Fs p.1,p.2)) = [(f1,d1),(f2,d2)]) (t1:∀ u W,f1 u W → u = v1) (t2:∀ u W,f2 u W → u = v2) (hf:b_e Fs i = f) (hd:o.dst = some d) (pf:∀ W,f1 v1 W → f2 v2 W → f v W) (r:RunAll Bl P ops a0 w0 Q Fs (i + 1) os D) (n1:Nat.blt d1 N = true:=by rfl) (n2:Nat.blt d2 N = true:=by rfl) (h:(a_h tys ops N [o] ((d2,v2) :: (d1,v1) :: l)).bind (fun q=>lk q d) = some v:=by kernel_rfl):RunAll Bl P ops a0 w0 Q Fs i (o :: os) (ds :: D) :=
  RunAll.cons f _ hf he (fun W hW u1 h1 u2 h2=>by obtain rfl:=t1 _ _ h1;obtain rfl:=t2 _ _ h2;exact RPost.o1 ht ((S.pt d1 u1 n1).pt d2 u2 n2) S hd h (pf W h1 h2)) r
theorem u3 (ht:tysOk P tys = true) (S:StD dd N a0 l) (he:(ds.map fun p=>(b_e Fs p.1,p.2)) = [(f1,d1),(f2,d2),(f3,d3)]) (t1:∀ u W,f1 u W → u = v1) (t2:∀ u W,f2 u W → u = v2) (t3:∀ u W,f3 u W → u = v3) (hf:b_e Fs i = f) (hd:o.dst = some d) (pf:∀ W,f1 v1 W → f2 v2 W → f3 v3 W → f v W) (r:RunAll Bl P ops a0 w0 Q Fs (i + 1) os D) (n1:Nat.blt d1 N = true:=by rfl) (n2:Nat.blt d2 N = true:=by rfl) (n3:Nat.blt d3 N = true:=by rfl) (h:(a_h tys ops N [o] ((d3,v3) :: (d2,v2) :: (d1,v1) :: l)).bind (fun q=>lk q d) = some v:=by kernel_rfl):RunAll Bl P ops a0 w0 Q Fs i (o :: os) (ds :: D) :=
  RunAll.cons f _ hf he (fun W hW u1 h1 u2 h2 u3 h3=>by obtain rfl:=t1 _ _ h1;obtain rfl:=t2 _ _ h2;obtain rfl:=t3 _ _ h3;exact RPost.o1 ht (((S.pt d1 u1 n1).pt d2 u2 n2).pt d3 u3 n3) S hd h (pf W h1 h2 h3)) r
theorem m0 (S:StD dd N a0 l) (he:(ds.map fun p=>(b_e Fs p.1,p.2)) = []) (hf:b_e Fs i = f) (k:∀ W,Bl w0 W → ∀ a',StD dd N a' l → a0.defers = dd → wpList P ops (a_0 Bl o.dst f a0.defers W Q) [o] a' W) (r:RunAll Bl P ops a0 w0 Q Fs (i + 1) os D):RunAll Bl P ops a0 w0 Q Fs i (o :: os) (ds :: D) :=
  RunAll.cons f [] hf he (fun W hW=>k W hW _ S S.defers) r
theorem m1 (S:StD dd N a0 l) (he:(ds.map fun p=>(b_e Fs p.1,p.2)) = [(f1,d1)]) (t1:∀ u W,f1 u W → u = v1) (hf:b_e Fs i = f) (k:∀ W,Bl w0 W → ∀ a',StD dd N a' ((d1,v1) :: l) → a0.defers = dd → f1 v1 W → wpList P ops (a_0 Bl o.dst f a0.defers W Q) [o] a' W) (r:RunAll Bl P ops a0 w0 Q Fs (i + 1) os D) (n1:Nat.blt d1 N = true:=by rfl):RunAll Bl P ops a0 w0 Q Fs i (o :: os) (ds :: D) :=
  RunAll.cons f _ hf he (fun W hW u1 h1=>by obtain rfl:=t1 _ _ h1;exact k W hW _ (S.pt d1 u1 n1) S.defers h1) r
theorem m2 (S:StD dd N a0 l) (he:(ds.map fun p=>(b_e Fs p.1,p.2)) = [(f1,d1),(f2,d2)]) (t1:∀ u W,f1 u W → u = v1) (t2:∀ u W,f2 u W → u = v2) (hf:b_e Fs i = f) (k:∀ W,Bl w0 W → ∀ a',StD dd N a' ((d2,v2) :: (d1,v1) :: l) → a0.defers = dd → f1 v1 W → f2 v2 W → wpList P ops (a_0 Bl o.dst f a0.defers W Q) [o] a' W) (r:RunAll Bl P ops a0 w0 Q Fs (i + 1) os D) (n1:Nat.blt d1 N = true:=by rfl) (n2:Nat.blt d2 N = true:=by rfl):RunAll Bl P ops a0 w0 Q Fs i (o :: os) (ds :: D) :=
  RunAll.cons f _ hf he (fun W hW u1 h1 u2 h2=>by obtain rfl:=t1 _ _ h1;obtain rfl:=t2 _ _ h2;exact k W hW _ ((S.pt d1 u1 n1).pt d2 u2 n2) S.defers h1 h2) r
theorem Bx.lta {t:GT} {T:TypeId} {w:World} {K:Nat → Prop} {b:Nat} {x:PT t} (B:Bx t T w K b x) {k:Nat}:((⟨b,0,.none⟩:Addr).add k).block < w.heap.size:=by rw [Addr.add_lit];exact B.lt
theorem lta_not {b k:Nat} {X:List (Option Nat)} (h:some b ∉ X):some ((⟨b,0,.none⟩:Addr).add k).block ∉ X:=by rw [Addr.add_lit];exact h
theorem nbw {c w:Bool} (h:¬ c = w):c = !w:=by cases c <;> cases w <;> simp_all
theorem g0 (ht:tysOk P tys = true) (S:StD dd N a0 l) (he:(ds.map fun p=>(b_e Fs p.1,p.2)) = [(eqv (.bool c),dg)]) (hf:b_e Fs i = cndF c w f) (hd:o.dst = some d) (pf:∀ W,c = w → f v W) (r:RunAll Bl P ops a0 w0 Q Fs (i + 1) os D) (ng:Nat.blt dg N = true:=by rfl) (h:(a_h tys ops N [o] ((dg,.bool w) :: l)).bind (fun q=>lk q d) = some v:=by kernel_rfl) (h0:(a_h tys ops N [o] ((dg,.bool !w) :: l)).bind (fun q=>lk q d) = some undef:=by kernel_rfl):RunAll Bl P ops a0 w0 Q Fs i (o :: os) (ds :: D) :=
  RunAll.cons _ _ hf he (fun W hW u1 h1=>by
    obtain rfl:=tE _ _ h1
    by_cases hc:c = w
    · subst hc;exact RPost.o1 ht (S.pt dg _ ng) S hd h ⟨fun _=>pf W rfl,fun k=>absurd rfl k⟩
    · obtain rfl:=nbw hc;exact RPost.o1 ht (S.pt dg _ ng) S hd h0 ⟨fun k=>absurd k hc,fun _=>rfl⟩) r
theorem g1 (ht:tysOk P tys = true) (S:StD dd N a0 l) (he:(ds.map fun p=>(b_e Fs p.1,p.2)) = [(f1,d1),(eqv (.bool c),dg)]) (t1:∀ u W,f1 u W → c = w → u = v1) (hf:b_e Fs i = cndF c w f) (hd:o.dst = some d) (pf:∀ W,c = w → f1 v1 W → f v W) (r:RunAll Bl P ops a0 w0 Q Fs (i + 1) os D) (n1:Nat.blt d1 N = true:=by rfl) (ng:Nat.blt dg N = true:=by rfl) (h:(a_h tys ops N [o] ((dg,.bool w) :: (d1,v1) :: l)).bind (fun q=>lk q d) = some v:=by kernel_rfl) (h0:∀ u,(a_h tys ops N [o] ((dg,.bool !w) :: (d1,u) :: l)).bind (fun q=>lk q d) = some undef:=by exact fun _=>by kernel_rfl):RunAll Bl P ops a0 w0 Q Fs i (o :: os) (ds :: D) :=
  RunAll.cons _ _ hf he (fun W hW u1 h1 u2 h2=>by
    obtain rfl:=tE _ _ h2
    by_cases hc:c = w
    · obtain rfl:=t1 _ _ h1 hc;subst hc;exact RPost.o1 ht ((S.pt d1 _ n1).pt dg _ ng) S hd h ⟨fun _=>pf W rfl h1,fun k=>absurd rfl k⟩
    · obtain rfl:=nbw hc;exact RPost.o1 ht ((S.pt d1 _ n1).pt dg _ ng) S hd (h0 u1) ⟨fun k=>absurd k hc,fun _=>rfl⟩) r
theorem g2 (ht:tysOk P tys = true) (S:StD dd N a0 l) (he:(ds.map fun p=>(b_e Fs p.1,p.2)) = [(f1,d1),(f2,d2),(eqv (.bool c),dg)]) (t1:∀ u W,f1 u W → c = w → u = v1) (t2:∀ u W,f2 u W → c = w → u = v2) (hf:b_e Fs i = cndF c w f) (hd:o.dst = some d) (pf:∀ W,c = w → f1 v1 W → f2 v2 W → f v W) (r:RunAll Bl P ops a0 w0 Q Fs (i + 1) os D) (n1:Nat.blt d1 N = true:=by rfl) (n2:Nat.blt d2 N = true:=by rfl) (ng:Nat.blt dg N = true:=by rfl) (h:(a_h tys ops N [o] ((dg,.bool w) :: (d2,v2) :: (d1,v1) :: l)).bind (fun q=>lk q d) = some v:=by kernel_rfl) (h0:∀ u1 u2,(a_h tys ops N [o] ((dg,.bool !w) :: (d2,u2) :: (d1,u1) :: l)).bind (fun q=>lk q d) = some undef:=by exact fun _ _=>by kernel_rfl):RunAll Bl P ops a0 w0 Q Fs i (o :: os) (ds :: D) :=
  RunAll.cons _ _ hf he (fun W hW u1 h1 u2 h2 u3 h3=>by
    obtain rfl:=tE _ _ h3
    by_cases hc:c = w
    · obtain rfl:=t1 _ _ h1 hc;obtain rfl:=t2 _ _ h2 hc;subst hc;exact RPost.o1 ht (((S.pt d1 _ n1).pt d2 _ n2).pt dg _ ng) S hd h ⟨fun _=>pf W rfl h1 h2,fun k=>absurd rfl k⟩
    · obtain rfl:=nbw hc;exact RPost.o1 ht (((S.pt d1 _ n1).pt d2 _ n2).pt dg _ ng) S hd (h0 u1 u2) ⟨fun k=>absurd k hc,fun _=>rfl⟩) r
theorem k1 (ht:tysOk P tys = true) (S:StD dd N a0 l) (he:(ds.map fun p=>(b_e Fs p.1,p.2)) = [(f1,d1),(eqv (.bool c),dg)]) (t1:∀ u W,f1 u W → c = w → u = v1) (hf:b_e Fs i = cndF c w f) (hd:o.dst = some d) (k:∀ W,Bl w0 W → c = w → ∀ a',StD dd N a' ((dg,.bool w) :: (d1,v1) :: l) → a0.defers = dd → f1 v1 W → wpList P ops (a_0 Bl o.dst (cndF c w f) a0.defers W Q) [o] a' W) (r:RunAll Bl P ops a0 w0 Q Fs (i + 1) os D) (n1:Nat.blt d1 N = true:=by rfl) (ng:Nat.blt dg N = true:=by rfl) (h0:∀ u,(a_h tys ops N [o] ((dg,.bool !w) :: (d1,u) :: l)).bind (fun q=>lk q d) = some undef:=by exact fun _=>by kernel_rfl):RunAll Bl P ops a0 w0 Q Fs i (o :: os) (ds :: D) :=
  RunAll.cons _ _ hf he (fun W hW u1 h1 u2 h2=>by
    obtain rfl:=tE _ _ h2
    by_cases hc:c = w
    · obtain rfl:=t1 _ _ h1 hc;subst hc;exact k W hW rfl _ ((S.pt d1 u1 n1).pt dg (.bool c) ng) S.defers h1
    · obtain rfl:=nbw hc;exact RPost.o1 ht ((S.pt d1 _ n1).pt dg _ ng) S hd (h0 u1) ⟨fun k=>absurd k hc,fun _=>rfl⟩) r
theorem h0 (ht:tysOk P tys = true) (S:StD dd N a0 l) (he:(ds.map fun p=>(b_e Fs p.1,p.2)) = [(cndF c w (eqv (.bool c2)),dg)]) (hf:b_e Fs i = cndF c w (cndF c2 w2 f)) (hd:o.dst = some d) (pf:∀ W,c = w ∧ c2 = w2 → f v W) (r:RunAll Bl P ops a0 w0 Q Fs (i + 1) os D) (ng:Nat.blt dg N = true:=by rfl) (h:(a_h tys ops N [o] ((dg,.bool w2) :: l)).bind (fun q=>lk q d) = some v:=by kernel_rfl) (h0:(a_h tys ops N [o] ((dg,.bool !w2) :: l)).bind (fun q=>lk q d) = some undef:=by kernel_rfl) (h00:(a_h tys ops N [o] ((dg,undef) :: l)).bind (fun q=>lk q d) = some undef:=by kernel_rfl):RunAll Bl P ops a0 w0 Q Fs i (o :: os) (ds :: D) :=
  RunAll.cons _ _ hf he (fun W hW u2 h2=>by
    by_cases hc:c = w
    · obtain rfl:=tE _ _ (h2.1 hc)
      by_cases hd2:c2 = w2
      · have S1:=S.pt dg (.bool c2) ng;rw [show (Value.bool c2) = .bool w2 by rw [hd2]] at S1 ⊢;exact RPost.o1 ht S1 S hd h ⟨fun _=>⟨fun _=>pf W ⟨hc,hd2⟩,fun k=>absurd hd2 k⟩,fun k=>absurd hc k⟩
      · obtain rfl:=nbw hd2;exact RPost.o1 ht (S.pt dg _ ng) S hd h0 ⟨fun _=>⟨fun k=>absurd k hd2,fun _=>rfl⟩,fun _=>rfl⟩
    · obtain rfl:=h2.2 hc;exact RPost.o1 ht (S.pt dg _ ng) S hd h00 ⟨fun k=>absurd k hc,fun _=>rfl⟩) r
theorem h1 (ht:tysOk P tys = true) (S:StD dd N a0 l) (he:(ds.map fun p=>(b_e Fs p.1,p.2)) = [(f1,d1),(cndF c w (eqv (.bool c2)),dg)]) (t1:∀ u W,f1 u W → c = w ∧ c2 = w2 → u = v1) (hf:b_e Fs i = cndF c w (cndF c2 w2 f)) (hd:o.dst = some d) (pf:∀ W,c = w ∧ c2 = w2 → f1 v1 W → f v W) (r:RunAll Bl P ops a0 w0 Q Fs (i + 1) os D) (n1:Nat.blt d1 N = true:=by rfl) (ng:Nat.blt dg N = true:=by rfl) (h:(a_h tys ops N [o] ((dg,.bool w2) :: (d1,v1) :: l)).bind (fun q=>lk q d) = some v:=by kernel_rfl) (h0:∀ u,(a_h tys ops N [o] ((dg,.bool !w2) :: (d1,u) :: l)).bind (fun q=>lk q d) = some undef:=by exact fun _=>by kernel_rfl) (h00:∀ u,(a_h tys ops N [o] ((dg,undef) :: (d1,u) :: l)).bind (fun q=>lk q d) = some undef:=by exact fun _=>by kernel_rfl):RunAll Bl P ops a0 w0 Q Fs i (o :: os) (ds :: D) :=
  RunAll.cons _ _ hf he (fun W hW u1 e1 u2 h2=>by
    by_cases hc:c = w
    · obtain rfl:=tE _ _ (h2.1 hc)
      by_cases hd2:c2 = w2
      · obtain rfl:=t1 _ _ e1 ⟨hc,hd2⟩;have S1:=(S.pt d1 u1 n1).pt dg (.bool c2) ng;rw [show (Value.bool c2) = .bool w2 by rw [hd2]] at S1 ⊢;exact RPost.o1 ht S1 S hd h ⟨fun _=>⟨fun _=>pf W ⟨hc,hd2⟩ e1,fun k=>absurd hd2 k⟩,fun k=>absurd hc k⟩
      · obtain rfl:=nbw hd2;exact RPost.o1 ht ((S.pt d1 _ n1).pt dg _ ng) S hd (h0 u1) ⟨fun _=>⟨fun k=>absurd k hd2,fun _=>rfl⟩,fun _=>rfl⟩
    · obtain rfl:=h2.2 hc;exact RPost.o1 ht ((S.pt d1 _ n1).pt dg _ ng) S hd (h00 u1) ⟨fun k=>absurd k hc,fun _=>rfl⟩) r
theorem k2 (ht:tysOk P tys = true) (S:StD dd N a0 l) (he:(ds.map fun p=>(b_e Fs p.1,p.2)) = [(f1,d1),(cndF c w (eqv (.bool c2)),dg)]) (t1:∀ u W,f1 u W → c = w ∧ c2 = w2 → u = v1) (hf:b_e Fs i = cndF c w (cndF c2 w2 f)) (hd:o.dst = some d) (k:∀ W,Bl w0 W → c = w → c2 = w2 → ∀ a',StD dd N a' ((dg,.bool w2) :: (d1,v1) :: l) → a0.defers = dd → f1 v1 W → wpList P ops (a_0 Bl o.dst (cndF c w (cndF c2 w2 f)) a0.defers W Q) [o] a' W) (r:RunAll Bl P ops a0 w0 Q Fs (i + 1) os D) (n1:Nat.blt d1 N = true:=by rfl) (ng:Nat.blt dg N = true:=by rfl) (h0:∀ u,(a_h tys ops N [o] ((dg,.bool !w2) :: (d1,u) :: l)).bind (fun q=>lk q d) = some undef:=by exact fun _=>by kernel_rfl) (h00:∀ u,(a_h tys ops N [o] ((dg,undef) :: (d1,u) :: l)).bind (fun q=>lk q d) = some undef:=by exact fun _=>by kernel_rfl):RunAll Bl P ops a0 w0 Q Fs i (o :: os) (ds :: D) :=
  RunAll.cons _ _ hf he (fun W hW u1 e1 u2 h2=>by
    by_cases hc:c = w
    · obtain rfl:=tE _ _ (h2.1 hc)
      by_cases hd2:c2 = w2
      · obtain rfl:=t1 _ _ e1 ⟨hc,hd2⟩;have S1:=(S.pt d1 u1 n1).pt dg (.bool c2) ng;rw [show (Value.bool c2) = .bool w2 by rw [hd2]] at S1 ⊢;exact k W hW hc hd2 _ S1 S.defers e1
      · obtain rfl:=nbw hd2;exact RPost.o1 ht ((S.pt d1 _ n1).pt dg _ ng) S hd (h0 u1) ⟨fun _=>⟨fun k=>absurd k hd2,fun _=>rfl⟩,fun _=>rfl⟩
    · obtain rfl:=h2.2 hc;exact RPost.o1 ht ((S.pt d1 _ n1).pt dg _ ng) S hd (h00 u1) ⟨fun k=>absurd k hc,fun _=>rfl⟩) r
theorem pk (ht:tysOk P tys = true) (S:StD dd N a0 l) {e q x:Bool} (he:(ds.map fun p=>(b_e Fs p.1,p.2)) = [(eqv (.bool c),d1),(cndF c w (eqv (.bool e)),d2)]) (hf:b_e Fs i = eqv (.bool q)) (hd:o.dst = some d) (H:(c = w → e = q) ∧ (¬ c = w → x = q)) (r:RunAll Bl P ops a0 w0 Q Fs (i + 1) os D) (n1:Nat.blt d1 N = true:=by rfl) (n2:Nat.blt d2 N = true:=by rfl) (h:(a_h tys ops N [o] ((d2,.bool e) :: (d1,.bool w) :: l)).bind (fun q=>lk q d) = some (.bool e):=by kernel_rfl) (h0:∀ u,(a_h tys ops N [o] ((d2,u) :: (d1,.bool !w) :: l)).bind (fun q=>lk q d) = some (.bool x):=by exact fun _=>by kernel_rfl):RunAll Bl P ops a0 w0 Q Fs i (o :: os) (ds :: D) :=
  RunAll.cons _ _ hf he (fun W hW u1 h1 u2 h2=>by
    obtain rfl:=tE _ _ h1
    by_cases hc:c = w
    · obtain rfl:=tE _ _ (h2.1 hc);have S1:=(S.pt d1 (.bool c) n1).pt d2 (.bool e) n2;rw [show (Value.bool c) = .bool w by rw [hc]] at S1 ⊢;exact RPost.o1 ht S1 S hd h (congrArg Value.bool (H.1 hc))
    · obtain rfl:=nbw hc;exact RPost.o1 ht ((S.pt d1 _ n1).pt d2 _ n2) S hd (h0 u2) (congrArg Value.bool (H.2 hc))) r
theorem r1 (S:StD dd N a0 l) (he:(ds.map fun p=>(b_e Fs p.1,p.2)) = [(f1,d1)]) (hf:b_e Fs i = f) (k:∀ W,Bl w0 W → ∀ v1,f1 v1 W → ∀ a',StD dd N a' ((d1,v1) :: l) → a0.defers = dd → wpList P ops (a_0 Bl o.dst f a0.defers W Q) [o] a' W) (r:RunAll Bl P ops a0 w0 Q Fs (i + 1) os D) (n1:Nat.blt d1 N = true:=by rfl):RunAll Bl P ops a0 w0 Q Fs i (o :: os) (ds :: D) :=
  RunAll.cons f _ hf he (fun W hW u1 h1=>k W hW u1 h1 _ (S.pt d1 u1 n1) S.defers) r
theorem r2 (S:StD dd N a0 l) (he:(ds.map fun p=>(b_e Fs p.1,p.2)) = [(f1,d1),(f2,d2)]) (hf:b_e Fs i = f) (k:∀ W,Bl w0 W → ∀ v1,f1 v1 W → ∀ v2,f2 v2 W → ∀ a',StD dd N a' ((d2,v2) :: (d1,v1) :: l) → a0.defers = dd → wpList P ops (a_0 Bl o.dst f a0.defers W Q) [o] a' W) (r:RunAll Bl P ops a0 w0 Q Fs (i + 1) os D) (n1:Nat.blt d1 N = true:=by rfl) (n2:Nat.blt d2 N = true:=by rfl):RunAll Bl P ops a0 w0 Q Fs i (o :: os) (ds :: D) :=
  RunAll.cons f _ hf he (fun W hW u1 h1 u2 h2=>k W hW u1 h1 u2 h2 _ ((S.pt d1 u1 n1).pt d2 u2 n2) S.defers) r
theorem r3 (S:StD dd N a0 l) (he:(ds.map fun p=>(b_e Fs p.1,p.2)) = [(f1,d1),(f2,d2),(f3,d3)]) (hf:b_e Fs i = f) (k:∀ W,Bl w0 W → ∀ v1,f1 v1 W → ∀ v2,f2 v2 W → ∀ v3,f3 v3 W → ∀ a',StD dd N a' ((d3,v3) :: (d2,v2) :: (d1,v1) :: l) → a0.defers = dd → wpList P ops (a_0 Bl o.dst f a0.defers W Q) [o] a' W) (r:RunAll Bl P ops a0 w0 Q Fs (i + 1) os D) (n1:Nat.blt d1 N = true:=by rfl) (n2:Nat.blt d2 N = true:=by rfl) (n3:Nat.blt d3 N = true:=by rfl):RunAll Bl P ops a0 w0 Q Fs i (o :: os) (ds :: D) :=
  RunAll.cons f _ hf he (fun W hW u1 h1 u2 h2 u3 h3=>k W hW u1 h1 u2 h2 u3 h3 _ (((S.pt d1 u1 n1).pt d2 u2 n2).pt d3 u3 n3) S.defers) r
theorem r4 {f4:Value → World → Prop} {d4:Nat} (S:StD dd N a0 l) (he:(ds.map fun p=>(b_e Fs p.1,p.2)) = [(f1,d1),(f2,d2),(f3,d3),(f4,d4)]) (hf:b_e Fs i = f) (k:∀ W,Bl w0 W → ∀ v1,f1 v1 W → ∀ v2,f2 v2 W → ∀ v3,f3 v3 W → ∀ v4,f4 v4 W → ∀ a',StD dd N a' ((d4,v4) :: (d3,v3) :: (d2,v2) :: (d1,v1) :: l) → a0.defers = dd → wpList P ops (a_0 Bl o.dst f a0.defers W Q) [o] a' W) (r:RunAll Bl P ops a0 w0 Q Fs (i + 1) os D) (n1:Nat.blt d1 N = true:=by rfl) (n2:Nat.blt d2 N = true:=by rfl) (n3:Nat.blt d3 N = true:=by rfl) (n4:Nat.blt d4 N = true:=by rfl):RunAll Bl P ops a0 w0 Q Fs i (o :: os) (ds :: D) :=
  RunAll.cons f _ hf he (fun W hW u1 h1 u2 h2 u3 h3 u4 h4=>k W hW u1 h1 u2 h2 u3 h3 u4 h4 _ ((((S.pt d1 u1 n1).pt d2 u2 n2).pt d3 u3 n3).pt d4 u4 n4) S.defers) r
end
def mvF:List Nat → List (Option Nat) → List (Option Nat)
  | [],L=>L
  | i :: is,L=>mvF is (match L[i]? with | some o=>o :: L.eraseIdx i | .none=>L)
def Pm (L L':List (Option Nat)):Prop:=∃ is,mvF is L = L'
theorem Pm.ind {C:List (Option Nat) → Prop} (h:∀ L L',Mv L L' → C L → C L'):∀ {L L'},Pm L L' → C L → C L':=by
  rintro L L' ⟨is,rfl⟩ c
  induction is generalizing L with
  | nil=>exact c
  | cons i is ih =>
    unfold mvF
    cases e:L[i]? with
    | none=>exact ih c
    | some o=>exact ih (h _ _ ⟨i,o,e,rfl⟩ c)
section
variable {t:GT} {T E:TypeId} {w w0:World} {K:Nat → Prop} {n m b:Nat} {L L' LO:List (Option Nat)} {u v:Value} {o:Option Nat} {A:World} {e:GT} {c:Option Nat}
theorem RepV.pq {x:PT t} (h:RepV t w (Kx K n L) u x) (q:Pm L L'):RepV t w (Kx K n L') u x:=q.ind (C:=fun L=>RepV t w (Kx K n L) u x) (fun _ _ m h=>RepV.pm h m) h
theorem Pr.pq {p:Addr} {x:PT t} (h:Pr t w (Kx K n L) p x) (q:Pm L L'):Pr t w (Kx K n L') p x:=q.ind (C:=fun L=>Pr t w (Kx K n L) p x) (fun _ _ m h=>Pr.pm h m) h
theorem Bx.pq {x:PT t} (h:Bx t T w (Kx K n L) b x) (q:Pm L L'):Bx t T w (Kx K n L') b x:=q.ind (C:=fun L=>Bx t T w (Kx K n L) b x) (fun _ _ m h=>Bx.pm h m) h
theorem Ow.pq {xs:List (PT e)} (h:Ow e E w m (Kx K n L) v xs c) (q:Pm L L'):Ow e E w m (Kx K n L') v xs c:=q.ind (C:=fun L=>Ow e E w m (Kx K n L) v xs c) (fun _ _ m h=>Ow.pm h m) h
theorem Oa.pq {xs:List (PT e)} (h:Oa e E w n (Kx K n L) o v xs) (q:Pm L L'):Oa e E w n (Kx K n L') o v xs:=q.ind (C:=fun L=>Oa e E w n (Kx K n L) o v xs) (fun _ _ m h=>Oa.pm h m) h
theorem Wd.pq (h:Wd w0 w L) (q:Pm L L'):Wd w0 w L':=q.ind (C:=fun L=>Wd w0 w L) (fun _ _ m h=>Wd.pm h m) h
theorem Rnd.pq (h:Rnd A LO w L) (q:Pm L L'):Rnd A LO w L':=q.ind (C:=fun L=>Rnd A LO w L) (fun _ _ m h=>Rnd.pm h m) h
end
end Go.Proofs.YtjinaepmpoclaaaGreatDoor
namespace Go.Proofs.YtjinaepmpoclaaaGreatDoor
open Go.RowKit Go.Deep
def unD {H:Type}:(t:GT) → List (DataW H) → Option (PT t)
  | .int k,[.lit (.int k' n)]=>if k = k' then some n else .none
  | .bool,[.lit (.bool b)]=>some b
  | .str,[.lit (.string bs)]=>some (bs.map fun b=>(b.toNat:Int))
  | .st f,[.agg ps]=>unD f ps
  | .arr _ e,[.agg ps]=>ps.mapM fun d=>unD e [d]
  | .pair a b,d :: ps=>(unD a [d]).bind fun x=>(unD b ps).map fun y=>(x,y)
  | _,_=>.none
theorem d_U {α β γ:Type} {g:α → Option (β × γ)}:∀ {l:List α} {xs:List (β × γ)},l.mapM g = some xs → l.mapM (fun a=>(g a).map (·.1)) = some (xs.map (·.1))
  | [],xs,h=>by simp at h;subst h;rfl
  | a :: l,xs,h=>by
    rw [List.mapM_cons] at h
    simp only [Option.bind_eq_bind,Option.bind_eq_some_iff] at h
    obtain ⟨y,h1,ys,h2,h3⟩:=h
    obtain rfl:y :: ys = xs:=by simpa using h3
    rw [List.mapM_cons,h1,d_U h2]
    rfl
theorem d_H {α β:Type} {f:α → Option β}:∀ {l:List α} {r:List β},l.mapM f = some r → ∀ (i:Nat) (y:β),r[i]? = some y → ∃ a,l[i]? = some a ∧ f a = some y
  | [],r,h,i,y,hy=>by simp at h;subst h;simp at hy
  | a :: l,r,h,i,y,hy=>by
    rw [List.mapM_cons] at h
    simp only [Option.bind_eq_bind,Option.bind_eq_some_iff] at h
    obtain ⟨z,h1,zs,h2,h3⟩:=h
    obtain rfl:z :: zs = r:=by simpa using h3
    rcases i with _ | i
    · obtain rfl:z = y:=by simpa using hy
      exact ⟨a,rfl,h1⟩
    · rw [List.getElem?_cons_succ] at hy
      obtain ⟨b,hb,hf⟩:=d_H h2 i y hy
      exact ⟨b,by rw [List.getElem?_cons_succ];exact hb,hf⟩
theorem flat_key (s:Nat):∀ (n:Nat) (cs:List Value),cs.length = n * s → cs = ((List.range n).map fun i=>(cs.drop (i * s)).take s).flatten:=by
  intro n
  induction n with
  | zero=>intro cs hcs;simp at hcs;simp [hcs]
  | succ n ih =>
    intro cs hcs
    rw [List.range_succ_eq_map,List.map_cons,List.flatten_cons,List.map_map]
    have h1:=ih (cs.drop s) (by rw [List.length_drop,hcs,Nat.add_mul];omega)
    have h2:((fun i=>(cs.drop (i * s)).take s) ∘ Nat.succ) = fun i=>((cs.drop s).drop (i * s)).take s:=by
      funext i
      simp only [Function.comp_apply,List.drop_drop,Nat.succ_eq_add_one,Nat.add_mul,Nat.one_mul]
      rw [Nat.add_comm]
    rw [h2,← h1]
    simp
section
variable {H:Type} {enc:TypeId × Value → H} {P:Program} {w:World} {base:Nat} {spare:Nat → Bool} {held:Bool} {K:Nat → Prop}
theorem trodI {k:IntKind} {T:TypeId} {fuel:Nat} {cs:List Value} {x:DataW H × List MemPlace} (hu:P.underlying T = some (.int k)) (h:DataW.trod enc P w base spare held fuel T cs = some x):∃ n,cs = [.int k n] ∧ (Lit.int k n).wf = true ∧ x.1 = .lit (.int k n):=by
  obtain ⟨n,rfl,hw⟩:=d_O hu h
  refine ⟨n,rfl,hw,?_⟩
  cases fuel with
  | zero=>simp [DataW.trod] at h
  | succ fuel =>
    simp [DataW.trod,hu] at h
    rw [← h.2]
theorem trodB {T:TypeId} {fuel:Nat} {cs:List Value} {x:DataW H × List MemPlace} (hu:P.underlying T = some .bool) (h:DataW.trod enc P w base spare held fuel T cs = some x):∃ b,cs = [.bool b] ∧ x.1 = .lit (.bool b):=by
  obtain ⟨b,rfl⟩:=d_n hu h
  refine ⟨b,rfl,?_⟩
  cases fuel with
  | zero=>simp [DataW.trod] at h
  | succ fuel=>simp [DataW.trod,hu] at h;rw [← h]
theorem trodS {T:TypeId} {fuel:Nat} {cs:List Value} {x:DataW H × List MemPlace} (hu:P.underlying T = some .string) (h:DataW.trod enc P w base spare held fuel T cs = some x):∃ s,cs = [.string s] ∧ s.size ≤ maxLen ∧ x.1 = .lit (.string s.data.toList):=by
  obtain ⟨s,rfl,hm⟩:=d_P hu h
  refine ⟨s,rfl,hm,?_⟩
  cases fuel with
  | zero=>simp [DataW.trod] at h
  | succ fuel=>simp [DataW.trod,hu] at h;rw [← h.2]
theorem rep_unD:∀ (t:GT),
    (∀ (T:TypeId) (fuel:Nat) (cs:List Value) (x:DataW H × List MemPlace) (y:PT t),tiQ P t false T [] 0 = true → DataW.trod enc P w base spare held fuel T cs = some x → unD t [x.1] = some y → RepCs t w K cs y) ∧
    (∀ (T:TypeId) (fuel o:Nat) (fs:List Field) (cs:List Value) (ds:List (DataW H)) (y:PT t),tiQ P t true T fs o = true → cs.length = o + t.sz → fs.mapM (fun f=>(DataW.trod enc P w base spare held fuel f.type ((cs.drop f.offset).take (P.cellsOf f.type))).map (·.1)) = some ds → unD t ds = some y → RepCs t w K (cs.drop o) y):=by
  intro t
  have last:∀ {t:GT},(∀ a b,t ≠ .pair a b) → (∀ (T:TypeId) (fuel:Nat) (cs:List Value) (x:DataW H × List MemPlace) (y:PT t),tiQ P t false T [] 0 = true → DataW.trod enc P w base spare held fuel T cs = some x → unD t [x.1] = some y → RepCs t w K cs y) →
      ∀ (T:TypeId) (fuel o:Nat) (fs:List Field) (cs:List Value) (ds:List (DataW H)) (y:PT t),tiQ P t true T fs o = true → cs.length = o + t.sz → fs.mapM (fun f=>(DataW.trod enc P w base spare held fuel f.type ((cs.drop f.offset).take (P.cellsOf f.type))).map (·.1)) = some ds → unD t ds = some y → RepCs t w K (cs.drop o) y:=by
    intro t hp h T fuel o fs cs ds y ht hl hf hy
    obtain ⟨f,rfl,rfl,hft⟩:=tie_one hp ht
    rw [List.mapM_cons,List.mapM_nil] at hf
    cases e:DataW.trod enc P w base spare held fuel f.type ((cs.drop f.offset).take (P.cellsOf f.type)) with
    | none=>rw [e] at hf;simp at hf
    | some x =>
      rw [e] at hf
      obtain rfl:[x.1] = ds:=by simpa using hf
      rw [a_B hft,List.take_of_length_le (by rw [List.length_drop];omega)] at e
      exact h _ _ _ _ _ hft e hy
  induction t with
  | int k =>
    have A:∀ (T:TypeId) (fuel:Nat) (cs:List Value) (x:DataW H × List MemPlace) (y:PT (.int k)),tiQ P (.int k) false T [] 0 = true → DataW.trod enc P w base spare held fuel T cs = some x → unD (.int k) [x.1] = some y → RepCs (.int k) w K cs y:=by
      intro T fuel cs x y ht h hy
      obtain ⟨n,rfl,hw,hx⟩:=trodI (a_Q ht) h
      rw [hx,unD,if_pos rfl] at hy
      obtain rfl:=Option.some.inj hy
      exact ⟨rfl,by simpa [Lit.wf,InR] using hw⟩
    exact ⟨A,last (by simp) A⟩
  | bool =>
    have A:∀ (T:TypeId) (fuel:Nat) (cs:List Value) (x:DataW H × List MemPlace) (y:PT .bool),tiQ P .bool false T [] 0 = true → DataW.trod enc P w base spare held fuel T cs = some x → unD .bool [x.1] = some y → RepCs .bool w K cs y:=by
      intro T fuel cs x y ht h hy
      obtain ⟨b,rfl,hx⟩:=trodB (a_Y ht) h
      rw [hx,unD] at hy
      obtain rfl:=Option.some.inj hy
      rfl
    exact ⟨A,last (by simp) A⟩
  | str =>
    have A:∀ (T:TypeId) (fuel:Nat) (cs:List Value) (x:DataW H × List MemPlace) (y:PT .str),tiQ P .str false T [] 0 = true → DataW.trod enc P w base spare held fuel T cs = some x → unD .str [x.1] = some y → RepCs .str w K cs y:=by
      intro T fuel cs x y ht h hy
      obtain ⟨q,rfl,hm,hx⟩:=trodS (a_R ht) h
      rw [hx,unD] at hy
      obtain rfl:=Option.some.inj hy
      refine ⟨?_,fun z hz=>?_,?_⟩
      · obtain ⟨⟨l⟩⟩:=q
        simp [strOfNums,Function.comp_def]
      · obtain ⟨b,_,rfl⟩:=List.mem_map.1 hz
        have:=b.toNat_lt
        omega
      · rw [List.length_map,Array.length_toList]
        have:q.data.size = q.size:=rfl
        unfold maxLen at hm
        omega
    exact ⟨A,last (by simp) A⟩
  | raw =>
    refine ⟨fun T fuel cs x y _ _ hy=>?_,fun T fuel o fs cs ds y _ _ _ hy=>?_⟩
    · simp [unD] at hy
    · simp [unD] at hy
  | sl e ih =>
    refine ⟨fun T fuel cs x y _ _ hy=>?_,fun T fuel o fs cs ds y _ _ _ hy=>?_⟩
    · simp [unD] at hy
    · simp [unD] at hy
  | st f ih =>
    obtain ⟨_,ihB⟩:=ih
    have A:∀ (T:TypeId) (fuel:Nat) (cs:List Value) (x:DataW H × List MemPlace) (y:PT (.st f)),tiQ P (.st f) false T [] 0 = true → DataW.trod enc P w base spare held fuel T cs = some x → unD (.st f) [x.1] = some y → RepCs (.st f) w K cs y:=by
      intro T fuel cs x y ht h hy
      obtain ⟨fs,hfs,htf⟩:=b_9 ht
      have hsz:=a_B ht
      cases fuel with
      | zero=>simp [DataW.trod] at h
      | succ fuel =>
        unfold DataW.trod at h
        rw [hfs] at h
        simp only at h
        split at h
        · rename_i hl
          simp only [Option.map_eq_some_iff] at h
          obtain ⟨xs,hx,rfl⟩:=h
          have:=ihB 0 fuel 0 fs.toList cs _ y htf (by rw [hl,hsz,Nat.zero_add]) (d_U hx) hy
          rw [List.drop_zero] at this
          exact this
        · cases h
    exact ⟨A,last (by simp) A⟩
  | pair a b iha ihb =>
    obtain ⟨ihA,_⟩:=iha
    obtain ⟨_,ihB⟩:=ihb
    refine ⟨fun T fuel cs x y ht=>by simp [tiQ] at ht,?_⟩
    intro T fuel o fs cs ds y ht hl hall hy
    match fs,ht,hall with
    | f :: fs,ht,hall =>
      simp only [tiQ,Bool.and_eq_true,beq_iff_eq] at ht
      obtain ⟨⟨ht1,ho⟩,ht2⟩:=ht
      rw [List.mapM_cons] at hall
      simp only [Option.bind_eq_bind,Option.bind_eq_some_iff] at hall
      obtain ⟨d,h1,ds',h2,h3⟩:=hall
      obtain rfl:d :: ds' = ds:=by simpa using h3
      obtain ⟨x,hx,rfl⟩:=Option.map_eq_some_iff.1 h1
      rw [unD] at hy
      simp only [Option.bind_eq_some_iff,Option.map_eq_some_iff] at hy
      obtain ⟨y1,g1,y2,g2,rfl⟩:=hy
      rw [a_B ht1,ho] at hx
      have k1:=ihA _ _ _ _ y1 ht1 hx g1
      have k2:=ihB T fuel (o + a.sz) fs cs ds' y2 ht2 (by rw [hl];show o + (a.sz + b.sz) = _;omega) h2 g2
      refine ⟨(cs.drop o).take a.sz,cs.drop (o + a.sz),?_,k1,k2⟩
      rw [← List.drop_drop,List.take_append_drop]
    | [],ht,_=>simp [tiQ] at ht
  | arr n e ih =>
    obtain ⟨ihA,_⟩:=ih
    have A:∀ (T:TypeId) (fuel:Nat) (cs:List Value) (x:DataW H × List MemPlace) (y:PT (.arr n e)),tiQ P (.arr n e) false T [] 0 = true → DataW.trod enc P w base spare held fuel T cs = some x → unD (.arr n e) [x.1] = some y → RepCs (.arr n e) w K cs y:=by
      intro T fuel cs x y ht h hy
      obtain ⟨E,hE,htE⟩:=b_s ht
      have hsz:=a_B ht
      cases fuel with
      | zero=>simp [DataW.trod] at h
      | succ fuel =>
        unfold DataW.trod at h
        rw [hE] at h
        simp only at h
        split at h
        · rename_i hl
          simp only [Option.map_eq_some_iff] at h
          obtain ⟨xs,hx,rfl⟩:=h
          rw [unD] at hy
          obtain ⟨l1,_⟩:=b_Q hx
          obtain ⟨l2,_⟩:=b_Q hy
          rw [List.length_range] at l1
          rw [List.length_map] at l2
          rw [hsz] at hl
          refine ⟨by rw [l2,l1],(List.range n).map fun i=>(cs.drop (i * e.sz)).take e.sz,flat_key e.sz n cs hl,by simp,fun j c z hc hz=>?_⟩
          obtain ⟨d,hd,hz2⟩:=d_H hy j z hz
          rw [List.getElem?_map] at hd
          obtain ⟨q,hq,rfl⟩:=Option.map_eq_some_iff.1 hd
          obtain ⟨i,hi,hx2⟩:=d_H hx j q hq
          have hj:j < n:=by
            have:=(List.getElem?_eq_some_iff.1 hi).1
            rw [List.length_range] at this;exact this
          rw [List.getElem?_range hj] at hi
          obtain rfl:=Option.some.inj hi
          rw [List.getElem?_map,List.getElem?_range hj] at hc
          obtain rfl:=Option.some.inj hc
          rw [a_B htE] at hx2
          exact ihA _ _ _ _ z htE hx2 hz2
        · cases h
    exact ⟨A,last (by simp) A⟩
end
theorem Pr.laid {P:Program} {w:World} {n:String} {d:DataW Unit} {g:Nat} {T:TypeId} {t:GT} {K:Nat → Prop} {y:PT t} (h:Lib.VarReads P w n d) (hg:P.globalNamed n = some g) (hT:(P.globals[g]?).map (·.type) = some T) (ht:tiQ P t false T [] 0 = true) (hy:unD t [d] = some y) (hz:0 < t.sz) (hK:K g):Pr t w K ⟨g,0,.none⟩ y:=by
  obtain ⟨g',T',cs,fuel,p,h1,h2,h3,h4⟩:=h
  obtain rfl:=Option.some.inj (hg.symm.trans h1)
  obtain rfl:=Option.some.inj (hT.symm.trans h2)
  have R:=(rep_unD (K:=K) t).1 T fuel cs.toList (d,p) y ht h4 hy
  have hc:∀ (i:Nat) (v:Value),cs.toList[i]? = some v → w.cell? ⟨g,0 + i,.none⟩ = some v:=fun i v hv=>by
    rw [Nat.zero_add,World.var?_cell hg h3 i,← Array.getElem?_toList];exact hv
  refine ⟨⟨rfl,_,R,hc⟩,?_,hK⟩
  have hl:=R.len
  have h0:∃ v,cs.toList[0]? = some v:=⟨cs.toList[0]'(by omega),List.getElem?_eq_getElem (by omega)⟩
  obtain ⟨v,hv⟩:=h0
  exact World.block_lt_of_cell? w _ (hc 0 v hv)
end Go.Proofs.YtjinaepmpoclaaaGreatDoor
