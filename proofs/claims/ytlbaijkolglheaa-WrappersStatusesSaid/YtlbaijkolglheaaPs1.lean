/- Functions of the program, as plain data. -/
import Derived.Test.YtlbaijkolglheaaP7
set_option linter.unusedVariables false
set_option linter.unusedSimpArgs false
namespace Go.Proofs.Ytlbaijkolglheaa
open Go.RowKit
set_option maxHeartbeats 4000000
set_option maxRecDepth 100000
def p4 (n:Nat) (x0:Int × Int × Int) (x1:Sl (Int)):Option ((Bool)) :=
 if (decide ((a_j x1) > 20)) then ((p7 n).bind fun y0=>some y0) else (p12 n x0).bind fun a0=>(if (decide (x0.2.2 > 2)) then ((if (a0.2 != 1) = false then some ((a_j a0.1) != 0) else some true).bind fun f0=>if f0 then (some (.inr false)) else some (.inl ())) else (p13 n a0.1).bind fun c0=>(if (a0.2 != 0) = false then (p10 n x0.1).bind fun v0=>(d_v ([85,83,66,83]) v0).bind fun r0=>(p10 n x0.2.1).bind fun w0=>(d_v r0 w0).bind fun s0=>(d_v s0 ((⟨[x0.2.2],some 1⟩:Sl (Int)).xs)).bind fun t0=>some (!(decide (a0.1.xs = t0))) else some true).bind fun g0=>(if g0 = false then (capO a0.1).bind fun B0=>some (B0 != 13) else some true).bind fun h0=>(if h0 = false then some (c0.2 != 0) else some true).bind fun i0=>(if i0 = false then some (!(eqP gf1 c0.1 x0)) else some true).bind fun j0=>if j0 then (some (.inr false)) else some (.inl ())).bind fun (e0:(Unit) ⊕ ((Bool)))=>lrK e0 some fun (D0:Unit)=>(p13 n x1).bind fun b0=>(if ((a_j x1) != 13) = false then (slI x1 0 4).bind fun u0=>some (!(decide (u0.xs = [85,83,66,83]))) else some true).bind fun k0=>(if k0 = false then (idx x1.xs 12).bind fun C0=>some (decide (C0 > 2)) else some true).bind fun l0=>if l0 then ((if (b0.2 == 4) = true then some (eqP gf1 b0.1 (0,0,0)) else some false).bind fun m0=>(if m0 = true then (p7 n).bind fun z0=>some z0 else some false).bind fun n0=>some n0) else (p12 n b0.1).bind fun d0=>(if (b0.2 == 0) = true then some (d0.2 == 0) else some false).bind fun o0=>(if o0 = true then some (decide (d0.1.xs = x1.xs)) else some false).bind fun p0=>(if p0 = true then (p7 n).bind fun A0=>some A0 else some false).bind fun q0=>some q0
theorem c4 (K:Nat → Prop) (n:Nat) (w:World) (x0:Int × Int × Int) (v0:Value) (R0:RepV gt1 w K v0 x0) (x1:Sl (Int)) (v1:Value) (R1:RepV (.sl (.int .u8)) w K v1 x1) {r:(Bool)} (h:p4 n x0 x1 = some r) :
  Calls Try.prog 4 #[v0,v1] w (d_M .bool w (Kw K w []) r):=by
 refine enter (args:=[v0,v1]) Try.func4 rfl 122 rfl rfl fun a S=>?_;have W:=Wd.start w;replace R0:=R0.arg;replace R1:=R1.arg;unfold p4 at h;replace S:St 122 a [(0,v0),(1,v1)]:=S;refine ws (wr ?_);refine wgo S (b_s S rfl rfl rfl rfl rfl R0 fun a y2 b0 g2 e0 S=>?_);replace R0:=R0.box g2;replace R1:=R1.box g2;replace W:=W.box g2;refine dl1 S 1 (4,.bool false) fun a S=>wn (a_a ?_);replace S:=S.su (l':=[(2,pB b0),(1,v1)]);refine ws (ws (wr ?_));refine dl1 S 1 (13,v1) fun a S=>wgo S (a_y (K:=_) S rfl ty23 rfl rfl rfl R1 fun a d5 S=>dl1 S 1 (15,.bool (decide ((a_j x1) > 20))) fun a S=>wn (a_a ?_));replace S:=S.su (l':=[(15,.bool (decide ((a_j x1) > 20))),(2,pB b0),(1,v1)]);refine wcs (decide ((a_j x1) > 20)) S rfl ?_ ?_
 ·intro hc;rw [if_pos hc] at h;refine ws (wr ?_);obtain ⟨O3,V2,h⟩:=a_f h;refine wgo S (a_h (vs:=[]) S rfl cb7 rfl rfl rfl (c7 (Kw K w [some b0]) n y2  V2) ?_);rintro _ d6 ⟨O5,rfl,u1,k2⟩;refine ⟨_,rfl,?_⟩;replace u1:=RepV.back u1 W;clear S;intro a S;replace R1:=R1.step k2;replace e0:=e0.step k2;replace W:=W.step k2;obtain rfl:=RepV.bool u1;refine dl1 S 1 (4,.bool O3) fun a S=>wn (a_a (wp_ret (a_m ?_)));obtain rfl:=oi h;exact a_K S rfl rfl ⟨_,rfl,RepV.mkBool,W.below⟩
 ·intro hc;rw [if_neg (bf hc)] at h;refine wp_skip (a_a ?_);replace S:=S.su (l':=[(2,pB b0),(1,v1)]);refine ws (wr ?_);refine wgo S (a_c (t:=gt1) (x:=x0) S rfl ty38 rfl rfl rfl e0.at_ fun a R3 p1 S=>?_);obtain ⟨a0,T2,h⟩:=a_f h;refine wgo S (a_h (vs:=[R3]) S rfl cb12 rfl rfl rfl (c12 (Kw K w [some b0]) n y2 x0 _ p1 T2) ?_);rintro _ x2 ⟨D0,l5,rfl,k0,q1,f1⟩;refine ⟨_,rfl,?_⟩;replace k0:=RepV.back k0 W;replace q1:=RepV.back q1 W;clear S;intro a S;replace R1:=R1.step f1;replace p1:=p1.step f1;replace e0:=e0.step f1;replace W:=W.step f1;obtain ⟨rfl,z2⟩:=RepV.int q1;refine dl5 S 5 (6,ji a0.2) (5,D0) (21,ji a0.2) (20,D0) (17,.tuple #[D0,ji a0.2]) fun a S=>wn (a_a (ws (ws (wr ?_))));refine dl1 S 1 (22,.pointer (some ((⟨b0,0,.none⟩:Addr).add (a_d gf1 2)))) fun a S=>wgo S (a_c (t:=(.int .u8)) (x:=x0.2.2) S rfl ty36 rfl rfl rfl (RepAt.add 2 (RepAt.st (t:=gf1) e0.at_)) fun a m5 H2 S=>?_);obtain ⟨rfl,Y4⟩:=RepV.int H2;refine dl1 S 1 (24,.bool (decide (x0.2.2 > 2))) fun a S=>wn (a_a ?_);obtain ⟨M3,i0,h⟩:=a_f h;refine a_o (fun a_ w_=>∃ u2:Unit,M3 = .inl u2 ∧ (St 122 a_ [(1,v1)] ∧ Wd w w_ [some b0] ∧ RepV (.sl (.int .u8)) w_ (Kw K w [some b0]) v1 x1 ∧ Bx gt1 38 w_ (Kw K w [some b0]) b0 x0)) ?_ ?_
  ·refine wcs (decide (x0.2.2 > 2)) S rfl ?_ ?_
   ·intro hc;rw [if_pos hc] at i0;refine ws (wr ?_);refine dl3 S 3 (27,.bool (a0.2 != 1)) (26,.bool (a0.2 != 1)) (25,ji a0.2) fun a S=>?_;obtain ⟨s2,P0,i0⟩:=a_f i0;refine seg 4 (fun a_ w_=>x2 = w_ ∧ St 122 a_ [(31,.bool s2),(1,v1)]) ?_ ?_
    ·by_cases hc:(a0.2 != 1) = false
     ·rw [if_pos hc] at P0;rw [hc] at S;refine dl1 S 1 (28,D0) fun a S=>wgo S (a_y (K:=_) S rfl ty23 rfl rfl rfl k0 fun a c5 S=>dl2 S 2 (31,.bool ((a_j a0.1) != 0)) (30,.bool ((a_j a0.1) != 0)) fun a S=>?_);obtain rfl:=oi P0;exact ⟨rfl,S.su⟩
     ·rw [if_neg hc] at P0;rw [show (a0.2 != 1) = true from (by simpa using hc)] at S;refine dl4 S 4 (31,.bool true) (30,undef) (29,undef) (28,undef) fun a S=>?_;obtain rfl:=oi P0;exact ⟨rfl,S.su⟩
    clear S P0;rintro a _ ⟨rfl,S⟩;refine wn (a_a ?_);refine wcs s2 S rfl ?_ ?_
    ·intro hc;rw [if_pos hc] at i0;refine ws (wr ?_);refine dl1 S 1 (4,.bool false) fun a S=>wn (a_a ?_);replace S:=S.su (l':=[(4,.bool false)]);refine wp_ret (a_m (a_m ?_));obtain rfl:=oi i0;obtain rfl:=c_i h;exact a_K S rfl rfl ⟨_,rfl,RepV.mkBool,W.below⟩
    ·intro hc;rw [if_neg (bf hc)] at i0;refine wp_skip (a_a ?_);obtain rfl:=oi i0;exact ⟨_,rfl,⟨S.su,W,R1,e0⟩⟩
   ·intro hc;rw [if_neg (bf hc)] at i0;refine ws (wr ?_);refine dl1 S 1 (33,D0) fun a S=>?_;obtain ⟨g0,U2,i0⟩:=a_f i0;refine wgo S (a_h (vs:=[D0]) S rfl cb13 rfl rfl rfl (c13 (Kw K w [some b0]) n x2 a0.1 _ k0 U2) ?_);rintro _ e6 ⟨v2,n5,rfl,F0,r1,g1⟩;refine ⟨_,rfl,?_⟩;replace F0:=RepV.back F0 W;replace r1:=RepV.back r1 W;clear S;intro a S;replace R1:=R1.step g1;replace k0:=k0.step g1;replace e0:=e0.step g1;replace W:=W.step g1;obtain ⟨rfl,A2⟩:=RepV.int r1;refine dl3 S 3 (36,ji g0.2) (35,v2) (32,.tuple #[v2,ji g0.2]) fun a S=>wgo S (a_A (K:=K) (n:=w.heap.size) (L:=[some b0]) (t:=gt1) (y:=(0,0,0)) S rfl rfl rfl _ z38 (fun w K=>⟨[.int .u32 0],[.int .u32 0,.int .u8 0],rfl,⟨rfl,by decide⟩,⟨[.int .u32 0],[.int .u8 0],rfl,⟨rfl,by decide⟩,⟨rfl,by decide⟩⟩⟩) fun a f6 j0 V0 E0 S=>?_);replace R1:=R1.box V0;replace k0:=k0.box V0;replace F0:=F0.box V0;replace e0:=e0.box V0;replace W:=W.box V0;refine wgo S (a_g (t':=gt1) S rfl rfl ty38 rfl rfl rfl E0 (by simp) Ln.whole F0 ?_);intro W4 Y0 B_;replace R1:=R1.wrote Y0 (by simp);replace k0:=k0.wrote Y0 (by simp);replace F0:=F0.wrote Y0 (by simp);replace e0:=e0.wrote Y0 (by simp) (W.b_ 1 0 (by decide) rfl rfl);replace W:=W.wrote Y0 (by simp);replace E0:Bx gt1 38 W4 (Kw K w [some j0,some b0]) j0 g0.1:=B_;clear B_;refine dl1 S 1 (8,ji g0.2) fun a S=>wn (a_a (ws ?_));obtain ⟨c0,s0,i0⟩:=a_f i0;obtain ⟨B0,y0,C0,A0,w0,r0⟩:∃ (B0:(List Int)) (y0:List Int) (C0:(List Int)) (A0:List Int) (w0:List Int) ,((a0.2 != 0) = false → (p10 n x0.1) = some B0 ∧ (d_v ([85,83,66,83]) B0) = some y0 ∧ (p10 n x0.2.1) = some C0 ∧ (d_v y0 C0) = some A0 ∧ (d_v A0 ((⟨[x0.2.2],some 1⟩:Sl (Int)).xs)) = some w0 ∧ (!(decide (a0.1.xs = w0))) = c0) ∧ (¬ (a0.2 != 0) = false → true = c0):=by
     by_cases hc:(a0.2 != 0) = false
     ·rw [if_pos hc] at s0;obtain ⟨B0,t0,s0⟩:=a_f s0;obtain ⟨y0,n0,s0⟩:=a_f s0;obtain ⟨C0,u0,s0⟩:=a_f s0;obtain ⟨A0,o0,s0⟩:=a_f s0;obtain ⟨w0,p0,s0⟩:=a_f s0;exact ⟨B0,y0,C0,A0,w0,⟨fun _=>⟨t0,n0,u0,o0,p0,oi s0⟩,fun k_=>absurd hc k_⟩⟩
     ·rw [if_neg hc] at s0;exact ⟨default,default,default,default,default,⟨fun k_=>absurd k_ hc,fun _=>oi s0⟩⟩
    obtain ⟨f0,N0,i0⟩:=a_f i0;obtain ⟨q0,n1⟩:∃ (q0:Int) ,(c0 = false → (capO a0.1) = some q0 ∧ (q0 != 13) = f0) ∧ (¬ c0 = false → true = f0):=by
     by_cases hc:c0 = false
     ·rw [if_pos hc] at N0;obtain ⟨q0,C1,N0⟩:=a_f N0;exact ⟨q0,⟨fun _=>⟨C1,oi N0⟩,fun k_=>absurd hc k_⟩⟩
     ·rw [if_neg hc] at N0;exact ⟨default,⟨fun k_=>absurd k_ hc,fun _=>oi N0⟩⟩
    obtain ⟨d0,b1,i0⟩:=a_f i0;have p2:(f0 = false → (g0.2 != 0) = d0) ∧ (¬ f0 = false → true = d0):=by
     by_cases hc:f0 = false
     ·rw [if_pos hc] at b1;exact ⟨fun _=>oi b1,fun k_=>absurd hc k_⟩
     ·rw [if_neg hc] at b1;exact ⟨fun k_=>absurd k_ hc,fun _=>oi b1⟩
    obtain ⟨L0,c1,i0⟩:=a_f i0;have q2:(d0 = false → (!(eqP gf1 g0.1 x0)) = L0) ∧ (¬ d0 = false → true = L0):=by
     by_cases hc:d0 = false
     ·rw [if_pos hc] at c1;exact ⟨fun _=>oi c1,fun k_=>absurd hc k_⟩
     ·rw [if_neg hc] at c1;exact ⟨fun k_=>absurd k_ hc,fun _=>oi c1⟩
    have hR:Rel (Kw K w [some j0,some b0]) Bl:=Bl.rel _;refine b_z hR [isI .i64 a0.2,eqv (.bool (a0.2 != 0)),eqv (.bool (a0.2 != 0)),cndF (a0.2 != 0) false (a_s (.sl (.int .u8)) (Kw K w [some j0,some b0]) a0.1),cndF (a0.2 != 0) false (isS a0.1.xs),cndF (a0.2 != 0) false (eqv (.pointer (some ((⟨b0,0,.none⟩:Addr).add (a_d gf1 0))))),cndF (a0.2 != 0) false (isI .u32 x0.1),cndF (a0.2 != 0) false (isS B0),cndF (a0.2 != 0) false (isS y0),cndF (a0.2 != 0) false (eqv (.pointer (some ((⟨b0,0,.none⟩:Addr).add (a_d gf1 1))))),cndF (a0.2 != 0) false (isI .u32 x0.2.1),cndF (a0.2 != 0) false (isS C0),cndF (a0.2 != 0) false (isS A0),cndF (a0.2 != 0) false (eqv (.pointer (some ((⟨b0,0,.none⟩:Addr).add (a_d gf1 2))))),cndF (a0.2 != 0) false (isI .u8 x0.2.2),cndF (a0.2 != 0) false (a_s (.sl (.int .u8)) (Kw K w [some j0,some b0]) (⟨[x0.2.2],some 1⟩:Sl (Int))),cndF (a0.2 != 0) false (isS ((⟨[x0.2.2],some 1⟩:Sl (Int)).xs)),cndF (a0.2 != 0) false (isS w0),cndF (a0.2 != 0) false (eqv (.bool (!(decide (a0.1.xs = w0))))),eqv (.bool c0),eqv (.bool c0),cndF c0 false (a_s (.sl (.int .u8)) (Kw K w [some j0,some b0]) a0.1),cndF c0 false (isI .i64 q0),cndF c0 false (eqv (.bool (q0 != 13))),eqv (.bool f0),eqv (.bool f0),cndF f0 false (isI .i64 g0.2),cndF f0 false (eqv (.bool (g0.2 != 0))),eqv (.bool d0),eqv (.bool d0),cndF d0 false (a_s gt1 (Kw K w [some j0,some b0]) g0.1),cndF d0 false (a_s gt1 (Kw K w [some j0,some b0]) x0),cndF d0 false (eqv (.bool (!(eqP gf1 g0.1 x0)))),eqv (.bool L0)] [[],[(0,37)],[(1,38)],[(2,39)],[(3,40),(2,39)],[(2,39)],[(5,42),(2,39)],[(6,43),(2,39)],[(7,44),(2,39)],[(2,39)],[(9,46),(2,39)],[(10,47),(2,39)],[(8,45),(11,48),(2,39)],[(2,39)],[(13,50),(2,39)],[(14,51),(2,39)],[(15,52),(2,39)],[(12,49),(16,53),(2,39)],[(4,41),(17,54),(2,39)],[(2,39),(18,55)],[(19,56)],[(20,57)],[(21,58),(20,57)],[(22,59),(20,57)],[(20,57),(23,60)],[(24,61)],[(25,62)],[(26,63),(25,62)],[(25,62),(27,64)],[(28,65)],[(29,66)],[(29,66)],[(30,67),(31,68),(29,66)],[(29,66),(32,69)]] (by kernel_rfl) (by rw [S.size];kernel_rfl) (by kernel_rfl) (by kernel_rfl) rfl ⟨a_z,(a_e _),(a_e _),(a_i (a_w hR)),(a_i c_a),(a_i (a_e _)),(a_i a_z),(a_i c_a),(a_i c_a),(a_i (a_e _)),(a_i a_z),(a_i c_a),(a_i c_a),(a_i (a_e _)),(a_i a_z),(a_i (a_w hR)),(a_i c_a),(a_i c_a),(a_i (a_e _)),(a_e _),(a_e _),(a_i (a_w hR)),(a_i a_z),(a_i (a_e _)),(a_e _),(a_e _),(a_i a_z),(a_i (a_e _)),(a_e _),(a_e _),(a_i (a_w hR)),(a_i (a_w hR)),(a_i (a_e _)),(a_e _),trivial⟩ ?_ ?_
    ·
     refine RunAll.cons (isI .i64 a0.2) [] rfl rfl ?_ ?_
     ·intro W_ hW;have S1:=S;exact RPost.o1 tys_ok (v:=ji a0.2) S1 S rfl (by kernel_rfl) ⟨rfl,z2⟩
     refine RunAll.cons (eqv (.bool (a0.2 != 0))) [(isI .i64 a0.2,37)] rfl rfl ?_ ?_
     ·intro W_ hW;have S1:=S;rintro _ ⟨rfl,g5⟩;replace S1:=S1.pt 37 (ji a0.2) rfl;exact RPost.o1 tys_ok (v:=.bool (a0.2 != 0)) S1 S rfl (by kernel_rfl) rfl
     refine RunAll.cons (eqv (.bool (a0.2 != 0))) [(eqv (.bool (a0.2 != 0)),38)] rfl rfl ?_ ?_
     ·intro W_ hW;have S1:=S;rintro _ rfl;replace S1:=S1.pt 38 (.bool (a0.2 != 0)) rfl;exact RPost.o1 tys_ok (v:=.bool (a0.2 != 0)) S1 S rfl (by kernel_rfl) rfl
     refine RunAll.cons (cndF (a0.2 != 0) false (a_s (.sl (.int .u8)) (Kw K w [some j0,some b0]) a0.1)) [(eqv (.bool (a0.2 != 0)),39)] rfl rfl ?_ ?_
     ·intro W_ hW;by_cases hc0:(a0.2 != 0) = false
      ·have hl0:(a0.2 != 0) = false:=hc0;have S1:=S;rintro _ rfl;replace S1:=S1.pt 39 (.bool (a0.2 != 0)) rfl;refine a_b S1 fun a_ S1=>?_;replace k0:=k0.step hW;rw [show (a0.2 != 0) = false from hl0] at S1;exact RPost.o1 tys_ok (v:=D0) S1 S rfl (by kernel_rfl) ⟨fun _=>k0,fun k_=>absurd hc0 k_⟩
      ·have hl0:(a0.2 != 0) = true:=(by simpa using hc0);have S1:=S;rintro _ rfl;replace S1:=S1.pt 39 (.bool (a0.2 != 0)) rfl;refine a_b S1 fun a_ S1=>?_;rw [show (a0.2 != 0) = true from hl0] at S1;exact RPost.o1 tys_ok (v:=undef) S1 S rfl (by kernel_rfl) ⟨fun k_=>absurd k_ hc0,fun _=>rfl⟩
     refine RunAll.cons (cndF (a0.2 != 0) false (isS a0.1.xs)) [(cndF (a0.2 != 0) false (a_s (.sl (.int .u8)) (Kw K w [some j0,some b0]) a0.1),40),(eqv (.bool (a0.2 != 0)),39)] rfl rfl ?_ ?_
     ·intro W_ hW;by_cases hc0:(a0.2 != 0) = false
      ·have hl0:(a0.2 != 0) = false:=hc0;have S1:=S;intro S3 D1;replace D1:=cndF.pos D1 hc0
       revert D1
       revert S3
       intro T3 d1;replace d1:RepV _ _ _ _ _:=d1;replace S1:=S1.pt 40 (T3) rfl;rintro _ rfl;replace S1:=S1.pt 39 (.bool (a0.2 != 0)) rfl;refine a_b S1 fun a_ S1=>?_;replace W:=W.step hW;rw [show (a0.2 != 0) = false from hl0] at S1;have S0:=S.defers;replace S:=S1;clear S1;obtain ⟨t0,n0,u0,o0,p0,_⟩:=(r0).1 hc0;refine wgo S (b_Y (K:=_) S rfl ty23 ty9 rfl rfl rfl d1 fun a S=>wn ?_);exact RPost.mk_ S rfl S0 ⟨fun _=>⟨rfl,d1.byt⟩,fun k_=>absurd hc0 k_⟩ (Below.refl _ _)
      ·have hl0:(a0.2 != 0) = true:=(by simpa using hc0);have S1:=S;intro o5 b3;obtain rfl:=cndF.neg b3 hc0;replace S1:=S1.pt 40 (undef) rfl;rintro _ rfl;replace S1:=S1.pt 39 (.bool (a0.2 != 0)) rfl;refine a_b S1 fun a_ S1=>?_;rw [show (a0.2 != 0) = true from hl0] at S1;exact RPost.o1 tys_ok (v:=undef) S1 S rfl (by kernel_rfl) ⟨fun k_=>absurd k_ hc0,fun _=>rfl⟩
     refine RunAll.cons (cndF (a0.2 != 0) false (eqv (.pointer (some ((⟨b0,0,.none⟩:Addr).add (a_d gf1 0)))))) [(eqv (.bool (a0.2 != 0)),39)] rfl rfl ?_ ?_
     ·intro W_ hW;by_cases hc0:(a0.2 != 0) = false
      ·have hl0:(a0.2 != 0) = false:=hc0;have S1:=S;rintro _ rfl;replace S1:=S1.pt 39 (.bool (a0.2 != 0)) rfl;refine a_b S1 fun a_ S1=>?_;replace e0:=e0.step hW;rw [show (a0.2 != 0) = false from hl0] at S1;exact RPost.o1 tys_ok (v:=.pointer (some ((⟨b0,0,.none⟩:Addr).add (a_d gf1 0)))) S1 S rfl (by kernel_rfl) ⟨fun _=>rfl,fun k_=>absurd hc0 k_⟩
      ·have hl0:(a0.2 != 0) = true:=(by simpa using hc0);have S1:=S;rintro _ rfl;replace S1:=S1.pt 39 (.bool (a0.2 != 0)) rfl;refine a_b S1 fun a_ S1=>?_;rw [show (a0.2 != 0) = true from hl0] at S1;exact RPost.o1 tys_ok (v:=undef) S1 S rfl (by kernel_rfl) ⟨fun k_=>absurd k_ hc0,fun _=>rfl⟩
     refine RunAll.cons (cndF (a0.2 != 0) false (isI .u32 x0.1)) [(cndF (a0.2 != 0) false (eqv (.pointer (some ((⟨b0,0,.none⟩:Addr).add (a_d gf1 0))))),42),(eqv (.bool (a0.2 != 0)),39)] rfl rfl ?_ ?_
     ·intro W_ hW;by_cases hc0:(a0.2 != 0) = false
      ·have hl0:(a0.2 != 0) = false:=hc0;have S1:=S;intro U3 E1;replace E1:=cndF.pos E1 hc0
       revert E1
       revert U3
       rintro _ rfl;replace S1:=S1.pt 42 (.pointer (some ((⟨b0,0,.none⟩:Addr).add (a_d gf1 0)))) rfl;rintro _ rfl;replace S1:=S1.pt 39 (.bool (a0.2 != 0)) rfl;refine a_b S1 fun a_ S1=>?_;replace e0:=e0.step hW;rw [show (a0.2 != 0) = false from hl0] at S1;have S0:=S.defers;replace S:=S1;clear S1;obtain ⟨t0,n0,u0,o0,p0,_⟩:=(r0).1 hc0;refine wgo S (a_c (t:=(.int .u32)) (x:=x0.1) S rfl ty22 rfl rfl rfl (RepAt.add 0 (RepAt.st (t:=gf1) e0.at_)) fun a p5 I2 S=>?_);obtain ⟨rfl,B2⟩:=RepV.int I2;refine wn ?_;exact RPost.mk_ S rfl S0 ⟨fun _=>⟨rfl,B2⟩,fun k_=>absurd hc0 k_⟩ (Below.refl _ _)
      ·have hl0:(a0.2 != 0) = true:=(by simpa using hc0);have S1:=S;intro q5 c3;obtain rfl:=cndF.neg c3 hc0;replace S1:=S1.pt 42 (undef) rfl;rintro _ rfl;replace S1:=S1.pt 39 (.bool (a0.2 != 0)) rfl;refine a_b S1 fun a_ S1=>?_;rw [show (a0.2 != 0) = true from hl0] at S1;exact RPost.o1 tys_ok (v:=undef) S1 S rfl (by kernel_rfl) ⟨fun k_=>absurd k_ hc0,fun _=>rfl⟩
     refine RunAll.cons (cndF (a0.2 != 0) false (isS B0)) [(cndF (a0.2 != 0) false (isI .u32 x0.1),43),(eqv (.bool (a0.2 != 0)),39)] rfl rfl ?_ ?_
     ·intro W_ hW;by_cases hc0:(a0.2 != 0) = false
      ·have hl0:(a0.2 != 0) = false:=hc0;have S1:=S;intro V3 F1;replace F1:=cndF.pos F1 hc0
       revert F1
       revert V3
       rintro _ ⟨rfl,d3⟩;replace S1:=S1.pt 43 (.int .u32 x0.1) rfl;rintro _ rfl;replace S1:=S1.pt 39 (.bool (a0.2 != 0)) rfl;refine a_b S1 fun a_ S1=>?_;replace W:=W.step hW;rw [show (a0.2 != 0) = false from hl0] at S1;have S0:=S.defers;replace S:=S1;clear S1;obtain ⟨t0,n0,u0,o0,p0,_⟩:=(r0).1 hc0;refine wgo S (a_h (vs:=[.int .u32 x0.1]) S rfl cb10 rfl rfl rfl (c10 (Kw K w [some j0,some b0]) n W_ x0.1 d3 t0) ?_);rintro _ g6 ⟨r5,rfl,s1,J3⟩;refine ⟨_,rfl,?_⟩;replace s1:=RepV.back s1 W;clear S;intro a S;obtain ⟨rfl,C2⟩:=RepV.str s1;refine wn ?_;exact RPost.mk_ S rfl S0 ⟨fun _=>⟨rfl,C2⟩,fun k_=>absurd hc0 k_⟩ (J3)
      ·have hl0:(a0.2 != 0) = true:=(by simpa using hc0);have S1:=S;intro s5 e3;obtain rfl:=cndF.neg e3 hc0;replace S1:=S1.pt 43 (undef) rfl;rintro _ rfl;replace S1:=S1.pt 39 (.bool (a0.2 != 0)) rfl;refine a_b S1 fun a_ S1=>?_;rw [show (a0.2 != 0) = true from hl0] at S1;exact RPost.o1 tys_ok (v:=undef) S1 S rfl (by kernel_rfl) ⟨fun k_=>absurd k_ hc0,fun _=>rfl⟩
     refine RunAll.cons (cndF (a0.2 != 0) false (isS y0)) [(cndF (a0.2 != 0) false (isS B0),44),(eqv (.bool (a0.2 != 0)),39)] rfl rfl ?_ ?_
     ·intro W_ hW;by_cases hc0:(a0.2 != 0) = false
      ·have hl0:(a0.2 != 0) = false:=hc0;have S1:=S;intro W3 G1;replace G1:=cndF.pos G1 hc0
       revert G1
       revert W3
       rintro _ ⟨rfl,f3⟩;replace S1:=S1.pt 44 (.string (strOfNums B0)) rfl;rintro _ rfl;replace S1:=S1.pt 39 (.bool (a0.2 != 0)) rfl;refine a_b S1 fun a_ S1=>?_;rw [show (a0.2 != 0) = false from hl0] at S1;have S0:=S.defers;replace S:=S1;clear S1;obtain ⟨t0,n0,u0,o0,p0,_⟩:=(r0).1 hc0;refine wgo S (op_cat S rfl rfl rfl (by kernel_rfl) rfl n0 fun a S=>wn ?_);exact RPost.mk_ S rfl S0 ⟨fun _=>⟨rfl,(d_R (strG ([85,83,66,83]) (by decide) (by decide)) f3 n0)⟩,fun k_=>absurd hc0 k_⟩ (Below.refl _ _)
      ·have hl0:(a0.2 != 0) = true:=(by simpa using hc0);have S1:=S;intro t5 g3;obtain rfl:=cndF.neg g3 hc0;replace S1:=S1.pt 44 (undef) rfl;rintro _ rfl;replace S1:=S1.pt 39 (.bool (a0.2 != 0)) rfl;refine a_b S1 fun a_ S1=>?_;rw [show (a0.2 != 0) = true from hl0] at S1;exact RPost.o1 tys_ok (v:=undef) S1 S rfl (by kernel_rfl) ⟨fun k_=>absurd k_ hc0,fun _=>rfl⟩
     refine RunAll.cons (cndF (a0.2 != 0) false (eqv (.pointer (some ((⟨b0,0,.none⟩:Addr).add (a_d gf1 1)))))) [(eqv (.bool (a0.2 != 0)),39)] rfl rfl ?_ ?_
     ·intro W_ hW;by_cases hc0:(a0.2 != 0) = false
      ·have hl0:(a0.2 != 0) = false:=hc0;have S1:=S;rintro _ rfl;replace S1:=S1.pt 39 (.bool (a0.2 != 0)) rfl;refine a_b S1 fun a_ S1=>?_;replace e0:=e0.step hW;rw [show (a0.2 != 0) = false from hl0] at S1;exact RPost.o1 tys_ok (v:=.pointer (some ((⟨b0,0,.none⟩:Addr).add (a_d gf1 1)))) S1 S rfl (by kernel_rfl) ⟨fun _=>rfl,fun k_=>absurd hc0 k_⟩
      ·have hl0:(a0.2 != 0) = true:=(by simpa using hc0);have S1:=S;rintro _ rfl;replace S1:=S1.pt 39 (.bool (a0.2 != 0)) rfl;refine a_b S1 fun a_ S1=>?_;rw [show (a0.2 != 0) = true from hl0] at S1;exact RPost.o1 tys_ok (v:=undef) S1 S rfl (by kernel_rfl) ⟨fun k_=>absurd k_ hc0,fun _=>rfl⟩
     refine RunAll.cons (cndF (a0.2 != 0) false (isI .u32 x0.2.1)) [(cndF (a0.2 != 0) false (eqv (.pointer (some ((⟨b0,0,.none⟩:Addr).add (a_d gf1 1))))),46),(eqv (.bool (a0.2 != 0)),39)] rfl rfl ?_ ?_
     ·intro W_ hW;by_cases hc0:(a0.2 != 0) = false
      ·have hl0:(a0.2 != 0) = false:=hc0;have S1:=S;intro X3 H1;replace H1:=cndF.pos H1 hc0
       revert H1
       revert X3
       rintro _ rfl;replace S1:=S1.pt 46 (.pointer (some ((⟨b0,0,.none⟩:Addr).add (a_d gf1 1)))) rfl;rintro _ rfl;replace S1:=S1.pt 39 (.bool (a0.2 != 0)) rfl;refine a_b S1 fun a_ S1=>?_;replace e0:=e0.step hW;rw [show (a0.2 != 0) = false from hl0] at S1;have S0:=S.defers;replace S:=S1;clear S1;obtain ⟨t0,n0,u0,o0,p0,_⟩:=(r0).1 hc0;refine wgo S (a_c (t:=(.int .u32)) (x:=x0.2.1) S rfl ty22 rfl rfl rfl (RepAt.add 1 (RepAt.st (t:=gf1) e0.at_)) fun a u5 J2 S=>?_);obtain ⟨rfl,D2⟩:=RepV.int J2;refine wn ?_;exact RPost.mk_ S rfl S0 ⟨fun _=>⟨rfl,D2⟩,fun k_=>absurd hc0 k_⟩ (Below.refl _ _)
      ·have hl0:(a0.2 != 0) = true:=(by simpa using hc0);have S1:=S;intro v5 h3;obtain rfl:=cndF.neg h3 hc0;replace S1:=S1.pt 46 (undef) rfl;rintro _ rfl;replace S1:=S1.pt 39 (.bool (a0.2 != 0)) rfl;refine a_b S1 fun a_ S1=>?_;rw [show (a0.2 != 0) = true from hl0] at S1;exact RPost.o1 tys_ok (v:=undef) S1 S rfl (by kernel_rfl) ⟨fun k_=>absurd k_ hc0,fun _=>rfl⟩
     refine RunAll.cons (cndF (a0.2 != 0) false (isS C0)) [(cndF (a0.2 != 0) false (isI .u32 x0.2.1),47),(eqv (.bool (a0.2 != 0)),39)] rfl rfl ?_ ?_
     ·intro W_ hW;by_cases hc0:(a0.2 != 0) = false
      ·have hl0:(a0.2 != 0) = false:=hc0;have S1:=S;intro Y3 I1;replace I1:=cndF.pos I1 hc0
       revert I1
       revert Y3
       rintro _ ⟨rfl,i3⟩;replace S1:=S1.pt 47 (.int .u32 x0.2.1) rfl;rintro _ rfl;replace S1:=S1.pt 39 (.bool (a0.2 != 0)) rfl;refine a_b S1 fun a_ S1=>?_;replace W:=W.step hW;rw [show (a0.2 != 0) = false from hl0] at S1;have S0:=S.defers;replace S:=S1;clear S1;obtain ⟨t0,n0,u0,o0,p0,_⟩:=(r0).1 hc0;refine wgo S (a_h (vs:=[.int .u32 x0.2.1]) S rfl cb10 rfl rfl rfl (c10 (Kw K w [some j0,some b0]) n W_ x0.2.1 i3 u0) ?_);rintro _ h6 ⟨w5,rfl,t1,K3⟩;refine ⟨_,rfl,?_⟩;replace t1:=RepV.back t1 W;clear S;intro a S;obtain ⟨rfl,E2⟩:=RepV.str t1;refine wn ?_;exact RPost.mk_ S rfl S0 ⟨fun _=>⟨rfl,E2⟩,fun k_=>absurd hc0 k_⟩ (K3)
      ·have hl0:(a0.2 != 0) = true:=(by simpa using hc0);have S1:=S;intro x5 j3;obtain rfl:=cndF.neg j3 hc0;replace S1:=S1.pt 47 (undef) rfl;rintro _ rfl;replace S1:=S1.pt 39 (.bool (a0.2 != 0)) rfl;refine a_b S1 fun a_ S1=>?_;rw [show (a0.2 != 0) = true from hl0] at S1;exact RPost.o1 tys_ok (v:=undef) S1 S rfl (by kernel_rfl) ⟨fun k_=>absurd k_ hc0,fun _=>rfl⟩
     refine RunAll.cons (cndF (a0.2 != 0) false (isS A0)) [(cndF (a0.2 != 0) false (isS y0),45),(cndF (a0.2 != 0) false (isS C0),48),(eqv (.bool (a0.2 != 0)),39)] rfl rfl ?_ ?_
     ·intro W_ hW;by_cases hc0:(a0.2 != 0) = false
      ·have hl0:(a0.2 != 0) = false:=hc0;have S1:=S;intro Z3 J1;replace J1:=cndF.pos J1 hc0
       revert J1
       revert Z3
       rintro _ ⟨rfl,k3⟩;replace S1:=S1.pt 45 (.string (strOfNums y0)) rfl;intro a4 K1;replace K1:=cndF.pos K1 hc0
       revert K1
       revert a4
       rintro _ ⟨rfl,l3⟩;replace S1:=S1.pt 48 (.string (strOfNums C0)) rfl;rintro _ rfl;replace S1:=S1.pt 39 (.bool (a0.2 != 0)) rfl;refine a_b S1 fun a_ S1=>?_;rw [show (a0.2 != 0) = false from hl0] at S1;have S0:=S.defers;replace S:=S1;clear S1;obtain ⟨t0,n0,u0,o0,p0,_⟩:=(r0).1 hc0;refine wgo S (op_cat S rfl rfl rfl rfl rfl o0 fun a S=>wn ?_);exact RPost.mk_ S rfl S0 ⟨fun _=>⟨rfl,(d_R k3 l3 o0)⟩,fun k_=>absurd hc0 k_⟩ (Below.refl _ _)
      ·have hl0:(a0.2 != 0) = true:=(by simpa using hc0);have S1:=S;intro y5 m3;obtain rfl:=cndF.neg m3 hc0;replace S1:=S1.pt 45 (undef) rfl;intro z5 n3;obtain rfl:=cndF.neg n3 hc0;replace S1:=S1.pt 48 (undef) rfl;rintro _ rfl;replace S1:=S1.pt 39 (.bool (a0.2 != 0)) rfl;refine a_b S1 fun a_ S1=>?_;rw [show (a0.2 != 0) = true from hl0] at S1;exact RPost.o1 tys_ok (v:=undef) S1 S rfl (by kernel_rfl) ⟨fun k_=>absurd k_ hc0,fun _=>rfl⟩
     refine RunAll.cons (cndF (a0.2 != 0) false (eqv (.pointer (some ((⟨b0,0,.none⟩:Addr).add (a_d gf1 2)))))) [(eqv (.bool (a0.2 != 0)),39)] rfl rfl ?_ ?_
     ·intro W_ hW;by_cases hc0:(a0.2 != 0) = false
      ·have hl0:(a0.2 != 0) = false:=hc0;have S1:=S;rintro _ rfl;replace S1:=S1.pt 39 (.bool (a0.2 != 0)) rfl;refine a_b S1 fun a_ S1=>?_;replace e0:=e0.step hW;rw [show (a0.2 != 0) = false from hl0] at S1;exact RPost.o1 tys_ok (v:=.pointer (some ((⟨b0,0,.none⟩:Addr).add (a_d gf1 2)))) S1 S rfl (by kernel_rfl) ⟨fun _=>rfl,fun k_=>absurd hc0 k_⟩
      ·have hl0:(a0.2 != 0) = true:=(by simpa using hc0);have S1:=S;rintro _ rfl;replace S1:=S1.pt 39 (.bool (a0.2 != 0)) rfl;refine a_b S1 fun a_ S1=>?_;rw [show (a0.2 != 0) = true from hl0] at S1;exact RPost.o1 tys_ok (v:=undef) S1 S rfl (by kernel_rfl) ⟨fun k_=>absurd k_ hc0,fun _=>rfl⟩
     refine RunAll.cons (cndF (a0.2 != 0) false (isI .u8 x0.2.2)) [(cndF (a0.2 != 0) false (eqv (.pointer (some ((⟨b0,0,.none⟩:Addr).add (a_d gf1 2))))),50),(eqv (.bool (a0.2 != 0)),39)] rfl rfl ?_ ?_
     ·intro W_ hW;by_cases hc0:(a0.2 != 0) = false
      ·have hl0:(a0.2 != 0) = false:=hc0;have S1:=S;intro b4 L1;replace L1:=cndF.pos L1 hc0
       revert L1
       revert b4
       rintro _ rfl;replace S1:=S1.pt 50 (.pointer (some ((⟨b0,0,.none⟩:Addr).add (a_d gf1 2)))) rfl;rintro _ rfl;replace S1:=S1.pt 39 (.bool (a0.2 != 0)) rfl;refine a_b S1 fun a_ S1=>?_;replace e0:=e0.step hW;rw [show (a0.2 != 0) = false from hl0] at S1;have S0:=S.defers;replace S:=S1;clear S1;obtain ⟨t0,n0,u0,o0,p0,_⟩:=(r0).1 hc0;refine wgo S (a_c (t:=(.int .u8)) (x:=x0.2.2) S rfl ty36 rfl rfl rfl (RepAt.add 2 (RepAt.st (t:=gf1) e0.at_)) fun a A5 K2 S=>?_);obtain ⟨rfl,F2⟩:=RepV.int K2;refine wn ?_;exact RPost.mk_ S rfl S0 ⟨fun _=>⟨rfl,F2⟩,fun k_=>absurd hc0 k_⟩ (Below.refl _ _)
      ·have hl0:(a0.2 != 0) = true:=(by simpa using hc0);have S1:=S;intro B5 o3;obtain rfl:=cndF.neg o3 hc0;replace S1:=S1.pt 50 (undef) rfl;rintro _ rfl;replace S1:=S1.pt 39 (.bool (a0.2 != 0)) rfl;refine a_b S1 fun a_ S1=>?_;rw [show (a0.2 != 0) = true from hl0] at S1;exact RPost.o1 tys_ok (v:=undef) S1 S rfl (by kernel_rfl) ⟨fun k_=>absurd k_ hc0,fun _=>rfl⟩
     refine RunAll.cons (cndF (a0.2 != 0) false (a_s (.sl (.int .u8)) (Kw K w [some j0,some b0]) (⟨[x0.2.2],some 1⟩:Sl (Int)))) [(cndF (a0.2 != 0) false (isI .u8 x0.2.2),51),(eqv (.bool (a0.2 != 0)),39)] rfl rfl ?_ ?_
     ·intro W_ hW;by_cases hc0:(a0.2 != 0) = false
      ·have hl0:(a0.2 != 0) = false:=hc0;have S1:=S;intro d4 M1;replace M1:=cndF.pos M1 hc0
       revert M1
       revert d4
       rintro _ ⟨rfl,p3⟩;replace S1:=S1.pt 51 (.int .u8 x0.2.2) rfl;rintro _ rfl;replace S1:=S1.pt 39 (.bool (a0.2 != 0)) rfl;refine a_b S1 fun a_ S1=>?_;replace W:=W.step hW;rw [show (a0.2 != 0) = false from hl0] at S1;have S0:=S.defers;replace S:=S1;clear S1;obtain ⟨t0,n0,u0,o0,p0,_⟩:=(r0).1 hc0;refine wgo S (a_t (K:=K) (e:=(.int .u8)) (vs:=[.int .u8 x0.2.2]) (xs:=[x0.2.2]) S W rfl ty23 rfl rfl (by kernel_rfl) rfl rfl rfl rfl rfl ⟨(RepV.mkInt p3),trivial⟩ fun a i6 C5 L3 L2 S=>wn ?_);exact RPost.mk_ S rfl S0 ⟨fun _=>L2,fun k_=>absurd hc0 k_⟩ (L3)
      ·have hl0:(a0.2 != 0) = true:=(by simpa using hc0);have S1:=S;intro D5 q3;obtain rfl:=cndF.neg q3 hc0;replace S1:=S1.pt 51 (undef) rfl;rintro _ rfl;replace S1:=S1.pt 39 (.bool (a0.2 != 0)) rfl;refine a_b S1 fun a_ S1=>?_;rw [show (a0.2 != 0) = true from hl0] at S1;exact RPost.o1 tys_ok (v:=undef) S1 S rfl (by kernel_rfl) ⟨fun k_=>absurd k_ hc0,fun _=>rfl⟩
     refine RunAll.cons (cndF (a0.2 != 0) false (isS ((⟨[x0.2.2],some 1⟩:Sl (Int)).xs))) [(cndF (a0.2 != 0) false (a_s (.sl (.int .u8)) (Kw K w [some j0,some b0]) (⟨[x0.2.2],some 1⟩:Sl (Int))),52),(eqv (.bool (a0.2 != 0)),39)] rfl rfl ?_ ?_
     ·intro W_ hW;by_cases hc0:(a0.2 != 0) = false
      ·have hl0:(a0.2 != 0) = false:=hc0;have S1:=S;intro e4 N1;replace N1:=cndF.pos N1 hc0
       revert N1
       revert e4
       intro f4 e1;replace e1:RepV _ _ _ _ _:=e1;replace S1:=S1.pt 52 (f4) rfl;rintro _ rfl;replace S1:=S1.pt 39 (.bool (a0.2 != 0)) rfl;refine a_b S1 fun a_ S1=>?_;replace W:=W.step hW;rw [show (a0.2 != 0) = false from hl0] at S1;have S0:=S.defers;replace S:=S1;clear S1;obtain ⟨t0,n0,u0,o0,p0,_⟩:=(r0).1 hc0;refine wgo S (b_Y (K:=_) S rfl ty23 ty9 rfl rfl rfl e1 fun a S=>wn ?_);exact RPost.mk_ S rfl S0 ⟨fun _=>⟨rfl,e1.byt⟩,fun k_=>absurd hc0 k_⟩ (Below.refl _ _)
      ·have hl0:(a0.2 != 0) = true:=(by simpa using hc0);have S1:=S;intro E5 r3;obtain rfl:=cndF.neg r3 hc0;replace S1:=S1.pt 52 (undef) rfl;rintro _ rfl;replace S1:=S1.pt 39 (.bool (a0.2 != 0)) rfl;refine a_b S1 fun a_ S1=>?_;rw [show (a0.2 != 0) = true from hl0] at S1;exact RPost.o1 tys_ok (v:=undef) S1 S rfl (by kernel_rfl) ⟨fun k_=>absurd k_ hc0,fun _=>rfl⟩
     refine RunAll.cons (cndF (a0.2 != 0) false (isS w0)) [(cndF (a0.2 != 0) false (isS A0),49),(cndF (a0.2 != 0) false (isS ((⟨[x0.2.2],some 1⟩:Sl (Int)).xs)),53),(eqv (.bool (a0.2 != 0)),39)] rfl rfl ?_ ?_
     ·intro W_ hW;by_cases hc0:(a0.2 != 0) = false
      ·have hl0:(a0.2 != 0) = false:=hc0;have S1:=S;intro g4 O1;replace O1:=cndF.pos O1 hc0
       revert O1
       revert g4
       rintro _ ⟨rfl,s3⟩;replace S1:=S1.pt 49 (.string (strOfNums A0)) rfl;intro h4 P1;replace P1:=cndF.pos P1 hc0
       revert P1
       revert h4
       rintro _ ⟨rfl,t3⟩;replace S1:=S1.pt 53 (.string (strOfNums ((⟨[x0.2.2],some 1⟩:Sl (Int)).xs))) rfl;rintro _ rfl;replace S1:=S1.pt 39 (.bool (a0.2 != 0)) rfl;refine a_b S1 fun a_ S1=>?_;rw [show (a0.2 != 0) = false from hl0] at S1;have S0:=S.defers;replace S:=S1;clear S1;obtain ⟨t0,n0,u0,o0,p0,_⟩:=(r0).1 hc0;refine wgo S (op_cat S rfl rfl rfl rfl rfl p0 fun a S=>wn ?_);exact RPost.mk_ S rfl S0 ⟨fun _=>⟨rfl,(d_R s3 t3 p0)⟩,fun k_=>absurd hc0 k_⟩ (Below.refl _ _)
      ·have hl0:(a0.2 != 0) = true:=(by simpa using hc0);have S1:=S;intro F5 u3;obtain rfl:=cndF.neg u3 hc0;replace S1:=S1.pt 49 (undef) rfl;intro G5 v3;obtain rfl:=cndF.neg v3 hc0;replace S1:=S1.pt 53 (undef) rfl;rintro _ rfl;replace S1:=S1.pt 39 (.bool (a0.2 != 0)) rfl;refine a_b S1 fun a_ S1=>?_;rw [show (a0.2 != 0) = true from hl0] at S1;exact RPost.o1 tys_ok (v:=undef) S1 S rfl (by kernel_rfl) ⟨fun k_=>absurd k_ hc0,fun _=>rfl⟩
     refine RunAll.cons (cndF (a0.2 != 0) false (eqv (.bool (!(decide (a0.1.xs = w0)))))) [(cndF (a0.2 != 0) false (isS a0.1.xs),41),(cndF (a0.2 != 0) false (isS w0),54),(eqv (.bool (a0.2 != 0)),39)] rfl rfl ?_ ?_
     ·intro W_ hW;by_cases hc0:(a0.2 != 0) = false
      ·have hl0:(a0.2 != 0) = false:=hc0;have S1:=S;intro i4 Q1;replace Q1:=cndF.pos Q1 hc0
       revert Q1
       revert i4
       rintro _ ⟨rfl,w3⟩;replace S1:=S1.pt 41 (.string (strOfNums a0.1.xs)) rfl;intro j4 T1;replace T1:=cndF.pos T1 hc0
       revert T1
       revert j4
       rintro _ ⟨rfl,x3⟩;replace S1:=S1.pt 54 (.string (strOfNums w0)) rfl;rintro _ rfl;replace S1:=S1.pt 39 (.bool (a0.2 != 0)) rfl;refine a_b S1 fun a_ S1=>?_;rw [show (a0.2 != 0) = false from hl0] at S1;have S0:=S.defers;replace S:=S1;clear S1;obtain ⟨t0,n0,u0,o0,p0,_⟩:=(r0).1 hc0;refine wgo S (c_F S rfl rfl rfl rfl rfl (w3).1 (x3).1 fun a S=>wn ?_);exact RPost.mk_ S rfl S0 ⟨fun _=>rfl,fun k_=>absurd hc0 k_⟩ (Below.refl _ _)
      ·have hl0:(a0.2 != 0) = true:=(by simpa using hc0);have S1:=S;intro H5 y3;obtain rfl:=cndF.neg y3 hc0;replace S1:=S1.pt 41 (undef) rfl;intro I5 z3;obtain rfl:=cndF.neg z3 hc0;replace S1:=S1.pt 54 (undef) rfl;rintro _ rfl;replace S1:=S1.pt 39 (.bool (a0.2 != 0)) rfl;refine a_b S1 fun a_ S1=>?_;rw [show (a0.2 != 0) = true from hl0] at S1;exact RPost.o1 tys_ok (v:=undef) S1 S rfl (by kernel_rfl) ⟨fun k_=>absurd k_ hc0,fun _=>rfl⟩
     refine RunAll.cons (eqv (.bool c0)) [(eqv (.bool (a0.2 != 0)),39),(cndF (a0.2 != 0) false (eqv (.bool (!(decide (a0.1.xs = w0))))),55)] rfl rfl ?_ ?_
     ·intro W_ hW;by_cases hc0:(a0.2 != 0) = false
      ·have hl0:(a0.2 != 0) = false:=hc0;have S1:=S;rintro _ rfl;replace S1:=S1.pt 39 (.bool (a0.2 != 0)) rfl;intro k4 U1;replace U1:=cndF.pos U1 hc0
       revert U1
       revert k4
       rintro _ rfl;replace S1:=S1.pt 55 (.bool (!(decide (a0.1.xs = w0)))) rfl;refine a_b S1 fun a_ S1=>?_;rw [show (a0.2 != 0) = false from hl0] at S1;exact RPost.o1 tys_ok (v:=.bool (!(decide (a0.1.xs = w0)))) S1 S rfl (by kernel_rfl) (congrArg Value.bool ((r0).1 hc0).2.2.2.2.2)
      ·have hl0:(a0.2 != 0) = true:=(by simpa using hc0);have S1:=S;rintro _ rfl;replace S1:=S1.pt 39 (.bool (a0.2 != 0)) rfl;intro J5 A3;obtain rfl:=cndF.neg A3 hc0;replace S1:=S1.pt 55 (undef) rfl;refine a_b S1 fun a_ S1=>?_;rw [show (a0.2 != 0) = true from hl0] at S1;exact RPost.o1 tys_ok (v:=.bool true) S1 S rfl (by kernel_rfl) (congrArg Value.bool ((r0).2 hc0))
     refine RunAll.cons (eqv (.bool c0)) [(eqv (.bool c0),56)] rfl rfl ?_ ?_
     ·intro W_ hW;have S1:=S;rintro _ rfl;replace S1:=S1.pt 56 (.bool c0) rfl;exact RPost.o1 tys_ok (v:=.bool c0) S1 S rfl (by kernel_rfl) rfl
     refine RunAll.cons (cndF c0 false (a_s (.sl (.int .u8)) (Kw K w [some j0,some b0]) a0.1)) [(eqv (.bool c0),57)] rfl rfl ?_ ?_
     ·intro W_ hW;by_cases hc1:c0 = false
      ·have hl1:c0 = false:=hc1;have S1:=S;rintro _ rfl;replace S1:=S1.pt 57 (.bool c0) rfl;refine a_b S1 fun a_ S1=>?_;replace k0:=k0.step hW;rw [show c0 = false from hl1] at S1;exact RPost.o1 tys_ok (v:=D0) S1 S rfl (by kernel_rfl) ⟨fun _=>k0,fun k_=>absurd hc1 k_⟩
      ·have hl1:c0 = true:=(by simpa using hc1);have S1:=S;rintro _ rfl;replace S1:=S1.pt 57 (.bool c0) rfl;refine a_b S1 fun a_ S1=>?_;rw [show c0 = true from hl1] at S1;exact RPost.o1 tys_ok (v:=undef) S1 S rfl (by kernel_rfl) ⟨fun k_=>absurd k_ hc1,fun _=>rfl⟩
     refine RunAll.cons (cndF c0 false (isI .i64 q0)) [(cndF c0 false (a_s (.sl (.int .u8)) (Kw K w [some j0,some b0]) a0.1),58),(eqv (.bool c0),57)] rfl rfl ?_ ?_
     ·intro W_ hW;by_cases hc1:c0 = false
      ·have hl1:c0 = false:=hc1;have S1:=S;intro l4 V1;replace V1:=cndF.pos V1 hc1
       revert V1
       revert l4
       intro m4 W1;replace W1:RepV _ _ _ _ _:=W1;replace S1:=S1.pt 58 (m4) rfl;rintro _ rfl;replace S1:=S1.pt 57 (.bool c0) rfl;refine a_b S1 fun a_ S1=>?_;replace W:=W.step hW;rw [show c0 = false from hl1] at S1;have S0:=S.defers;replace S:=S1;clear S1;obtain ⟨C1,_⟩:=(n1).1 hc1;refine wgo S (op_cap (K:=_) S rfl ty23 rfl rfl rfl W1 C1 fun a G2 S=>wn ?_);exact RPost.mk_ S rfl S0 ⟨fun _=>⟨rfl,G2⟩,fun k_=>absurd hc1 k_⟩ (Below.refl _ _)
      ·have hl1:c0 = true:=(by simpa using hc1);have S1:=S;intro K5 B3;obtain rfl:=cndF.neg B3 hc1;replace S1:=S1.pt 58 (undef) rfl;rintro _ rfl;replace S1:=S1.pt 57 (.bool c0) rfl;refine a_b S1 fun a_ S1=>?_;rw [show c0 = true from hl1] at S1;exact RPost.o1 tys_ok (v:=undef) S1 S rfl (by kernel_rfl) ⟨fun k_=>absurd k_ hc1,fun _=>rfl⟩
     refine RunAll.cons (cndF c0 false (eqv (.bool (q0 != 13)))) [(cndF c0 false (isI .i64 q0),59),(eqv (.bool c0),57)] rfl rfl ?_ ?_
     ·intro W_ hW;by_cases hc1:c0 = false
      ·have hl1:c0 = false:=hc1;have S1:=S;intro n4 X1;replace X1:=cndF.pos X1 hc1
       revert X1
       revert n4
       rintro _ ⟨rfl,h5⟩;replace S1:=S1.pt 59 (ji q0) rfl;rintro _ rfl;replace S1:=S1.pt 57 (.bool c0) rfl;refine a_b S1 fun a_ S1=>?_;rw [show c0 = false from hl1] at S1;exact RPost.o1 tys_ok (v:=.bool (q0 != 13)) S1 S rfl (by kernel_rfl) ⟨fun _=>rfl,fun k_=>absurd hc1 k_⟩
      ·have hl1:c0 = true:=(by simpa using hc1);have S1:=S;intro L5 C3;obtain rfl:=cndF.neg C3 hc1;replace S1:=S1.pt 59 (undef) rfl;rintro _ rfl;replace S1:=S1.pt 57 (.bool c0) rfl;refine a_b S1 fun a_ S1=>?_;rw [show c0 = true from hl1] at S1;exact RPost.o1 tys_ok (v:=undef) S1 S rfl (by kernel_rfl) ⟨fun k_=>absurd k_ hc1,fun _=>rfl⟩
     refine RunAll.cons (eqv (.bool f0)) [(eqv (.bool c0),57),(cndF c0 false (eqv (.bool (q0 != 13))),60)] rfl rfl ?_ ?_
     ·intro W_ hW;by_cases hc1:c0 = false
      ·have hl1:c0 = false:=hc1;have S1:=S;rintro _ rfl;replace S1:=S1.pt 57 (.bool c0) rfl;intro o4 Y1;replace Y1:=cndF.pos Y1 hc1
       revert Y1
       revert o4
       rintro _ rfl;replace S1:=S1.pt 60 (.bool (q0 != 13)) rfl;refine a_b S1 fun a_ S1=>?_;rw [show c0 = false from hl1] at S1;exact RPost.o1 tys_ok (v:=.bool (q0 != 13)) S1 S rfl (by kernel_rfl) (congrArg Value.bool ((n1).1 hc1).2)
      ·have hl1:c0 = true:=(by simpa using hc1);have S1:=S;rintro _ rfl;replace S1:=S1.pt 57 (.bool c0) rfl;intro M5 D3;obtain rfl:=cndF.neg D3 hc1;replace S1:=S1.pt 60 (undef) rfl;refine a_b S1 fun a_ S1=>?_;rw [show c0 = true from hl1] at S1;exact RPost.o1 tys_ok (v:=.bool true) S1 S rfl (by kernel_rfl) (congrArg Value.bool ((n1).2 hc1))
     refine RunAll.cons (eqv (.bool f0)) [(eqv (.bool f0),61)] rfl rfl ?_ ?_
     ·intro W_ hW;have S1:=S;rintro _ rfl;replace S1:=S1.pt 61 (.bool f0) rfl;exact RPost.o1 tys_ok (v:=.bool f0) S1 S rfl (by kernel_rfl) rfl
     refine RunAll.cons (cndF f0 false (isI .i64 g0.2)) [(eqv (.bool f0),62)] rfl rfl ?_ ?_
     ·intro W_ hW;by_cases hc2:f0 = false
      ·have hl2:f0 = false:=hc2;have S1:=S;rintro _ rfl;replace S1:=S1.pt 62 (.bool f0) rfl;refine a_b S1 fun a_ S1=>?_;rw [show f0 = false from hl2] at S1;exact RPost.o1 tys_ok (v:=ji g0.2) S1 S rfl (by kernel_rfl) ⟨fun _=>⟨rfl,A2⟩,fun k_=>absurd hc2 k_⟩
      ·have hl2:f0 = true:=(by simpa using hc2);have S1:=S;rintro _ rfl;replace S1:=S1.pt 62 (.bool f0) rfl;refine a_b S1 fun a_ S1=>?_;rw [show f0 = true from hl2] at S1;exact RPost.o1 tys_ok (v:=undef) S1 S rfl (by kernel_rfl) ⟨fun k_=>absurd k_ hc2,fun _=>rfl⟩
     refine RunAll.cons (cndF f0 false (eqv (.bool (g0.2 != 0)))) [(cndF f0 false (isI .i64 g0.2),63),(eqv (.bool f0),62)] rfl rfl ?_ ?_
     ·intro W_ hW;by_cases hc2:f0 = false
      ·have hl2:f0 = false:=hc2;have S1:=S;intro q4 Z1;replace Z1:=cndF.pos Z1 hc2
       revert Z1
       revert q4
       rintro _ ⟨rfl,i5⟩;replace S1:=S1.pt 63 (ji g0.2) rfl;rintro _ rfl;replace S1:=S1.pt 62 (.bool f0) rfl;refine a_b S1 fun a_ S1=>?_;rw [show f0 = false from hl2] at S1;exact RPost.o1 tys_ok (v:=.bool (g0.2 != 0)) S1 S rfl (by kernel_rfl) ⟨fun _=>rfl,fun k_=>absurd hc2 k_⟩
      ·have hl2:f0 = true:=(by simpa using hc2);have S1:=S;intro N5 E3;obtain rfl:=cndF.neg E3 hc2;replace S1:=S1.pt 63 (undef) rfl;rintro _ rfl;replace S1:=S1.pt 62 (.bool f0) rfl;refine a_b S1 fun a_ S1=>?_;rw [show f0 = true from hl2] at S1;exact RPost.o1 tys_ok (v:=undef) S1 S rfl (by kernel_rfl) ⟨fun k_=>absurd k_ hc2,fun _=>rfl⟩
     refine RunAll.cons (eqv (.bool d0)) [(eqv (.bool f0),62),(cndF f0 false (eqv (.bool (g0.2 != 0))),64)] rfl rfl ?_ ?_
     ·intro W_ hW;by_cases hc2:f0 = false
      ·have hl2:f0 = false:=hc2;have S1:=S;rintro _ rfl;replace S1:=S1.pt 62 (.bool f0) rfl;intro r4 a2;replace a2:=cndF.pos a2 hc2
       revert a2
       revert r4
       rintro _ rfl;replace S1:=S1.pt 64 (.bool (g0.2 != 0)) rfl;refine a_b S1 fun a_ S1=>?_;rw [show f0 = false from hl2] at S1;exact RPost.o1 tys_ok (v:=.bool (g0.2 != 0)) S1 S rfl (by kernel_rfl) (congrArg Value.bool ((p2).1 hc2))
      ·have hl2:f0 = true:=(by simpa using hc2);have S1:=S;rintro _ rfl;replace S1:=S1.pt 62 (.bool f0) rfl;intro P5 F3;obtain rfl:=cndF.neg F3 hc2;replace S1:=S1.pt 64 (undef) rfl;refine a_b S1 fun a_ S1=>?_;rw [show f0 = true from hl2] at S1;exact RPost.o1 tys_ok (v:=.bool true) S1 S rfl (by kernel_rfl) (congrArg Value.bool ((p2).2 hc2))
     refine RunAll.cons (eqv (.bool d0)) [(eqv (.bool d0),65)] rfl rfl ?_ ?_
     ·intro W_ hW;have S1:=S;rintro _ rfl;replace S1:=S1.pt 65 (.bool d0) rfl;exact RPost.o1 tys_ok (v:=.bool d0) S1 S rfl (by kernel_rfl) rfl
     refine RunAll.cons (cndF d0 false (a_s gt1 (Kw K w [some j0,some b0]) g0.1)) [(eqv (.bool d0),66)] rfl rfl ?_ ?_
     ·intro W_ hW;by_cases hc3:d0 = false
      ·have hl3:d0 = false:=hc3;have S1:=S;rintro _ rfl;replace S1:=S1.pt 66 (.bool d0) rfl;refine a_b S1 fun a_ S1=>?_;replace E0:=E0.step hW;rw [show d0 = false from hl3] at S1;have S0:=S.defers;replace S:=S1;clear S1;refine wgo S (a_c (t:=gt1) (x:=g0.1) S rfl ty38 rfl rfl rfl E0.at_ fun a Q5 M2 S=>wn ?_);exact RPost.mk_ S rfl S0 ⟨fun _=>M2,fun k_=>absurd hc3 k_⟩ (Below.refl _ _)
      ·have hl3:d0 = true:=(by simpa using hc3);have S1:=S;rintro _ rfl;replace S1:=S1.pt 66 (.bool d0) rfl;refine a_b S1 fun a_ S1=>?_;rw [show d0 = true from hl3] at S1;exact RPost.o1 tys_ok (v:=undef) S1 S rfl (by kernel_rfl) ⟨fun k_=>absurd k_ hc3,fun _=>rfl⟩
     refine RunAll.cons (cndF d0 false (a_s gt1 (Kw K w [some j0,some b0]) x0)) [(eqv (.bool d0),66)] rfl rfl ?_ ?_
     ·intro W_ hW;by_cases hc3:d0 = false
      ·have hl3:d0 = false:=hc3;have S1:=S;rintro _ rfl;replace S1:=S1.pt 66 (.bool d0) rfl;refine a_b S1 fun a_ S1=>?_;replace e0:=e0.step hW;rw [show d0 = false from hl3] at S1;have S0:=S.defers;replace S:=S1;clear S1;refine wgo S (a_c (t:=gt1) (x:=x0) S rfl ty38 rfl rfl rfl e0.at_ fun a R5 N2 S=>wn ?_);exact RPost.mk_ S rfl S0 ⟨fun _=>N2,fun k_=>absurd hc3 k_⟩ (Below.refl _ _)
      ·have hl3:d0 = true:=(by simpa using hc3);have S1:=S;rintro _ rfl;replace S1:=S1.pt 66 (.bool d0) rfl;refine a_b S1 fun a_ S1=>?_;rw [show d0 = true from hl3] at S1;exact RPost.o1 tys_ok (v:=undef) S1 S rfl (by kernel_rfl) ⟨fun k_=>absurd k_ hc3,fun _=>rfl⟩
     refine RunAll.cons (cndF d0 false (eqv (.bool (!(eqP gf1 g0.1 x0))))) [(cndF d0 false (a_s gt1 (Kw K w [some j0,some b0]) g0.1),67),(cndF d0 false (a_s gt1 (Kw K w [some j0,some b0]) x0),68),(eqv (.bool d0),66)] rfl rfl ?_ ?_
     ·intro W_ hW;by_cases hc3:d0 = false
      ·have hl3:d0 = false:=hc3;have S1:=S;intro s4 b2;replace b2:=cndF.pos b2 hc3
       revert b2
       revert s4
       intro t4 c2;replace c2:RepV _ _ _ _ _:=c2;replace S1:=S1.pt 67 (t4) rfl;intro u4 d2;replace d2:=cndF.pos d2 hc3
       revert d2
       revert u4
       intro v4 e2;replace e2:RepV _ _ _ _ _:=e2;replace S1:=S1.pt 68 (v4) rfl;rintro _ rfl;replace S1:=S1.pt 66 (.bool d0) rfl;refine a_b S1 fun a_ S1=>?_;rw [show d0 = false from hl3] at S1;have S0:=S.defers;replace S:=S1;clear S1;refine wgo S (op_stneq (t:=gf1) (m:=g0.1) (n:=x0) S rfl rfl rfl rfl rfl rfl ty38 eq38 c2 e2 fun a S=>wn ?_);exact RPost.mk_ S rfl S0 ⟨fun _=>rfl,fun k_=>absurd hc3 k_⟩ (Below.refl _ _)
      ·have hl3:d0 = true:=(by simpa using hc3);have S1:=S;intro S5 G3;obtain rfl:=cndF.neg G3 hc3;replace S1:=S1.pt 67 (undef) rfl;intro T5 H3;obtain rfl:=cndF.neg H3 hc3;replace S1:=S1.pt 68 (undef) rfl;rintro _ rfl;replace S1:=S1.pt 66 (.bool d0) rfl;refine a_b S1 fun a_ S1=>?_;rw [show d0 = true from hl3] at S1;exact RPost.o1 tys_ok (v:=undef) S1 S rfl (by kernel_rfl) ⟨fun k_=>absurd k_ hc3,fun _=>rfl⟩
     refine RunAll.cons (eqv (.bool L0)) [(eqv (.bool d0),66),(cndF d0 false (eqv (.bool (!(eqP gf1 g0.1 x0)))),69)] rfl rfl ?_ ?_
     ·intro W_ hW;by_cases hc3:d0 = false
      ·have hl3:d0 = false:=hc3;have S1:=S;rintro _ rfl;replace S1:=S1.pt 66 (.bool d0) rfl;intro w4 f2;replace f2:=cndF.pos f2 hc3
       revert f2
       revert w4
       rintro _ rfl;replace S1:=S1.pt 69 (.bool (!(eqP gf1 g0.1 x0))) rfl;refine a_b S1 fun a_ S1=>?_;rw [show d0 = false from hl3] at S1;exact RPost.o1 tys_ok (v:=.bool (!(eqP gf1 g0.1 x0))) S1 S rfl (by kernel_rfl) (congrArg Value.bool ((q2).1 hc3))
      ·have hl3:d0 = true:=(by simpa using hc3);have S1:=S;rintro _ rfl;replace S1:=S1.pt 66 (.bool d0) rfl;intro U5 I3;obtain rfl:=cndF.neg I3 hc3;replace S1:=S1.pt 69 (undef) rfl;refine a_b S1 fun a_ S1=>?_;rw [show d0 = true from hl3] at S1;exact RPost.o1 tys_ok (v:=.bool true) S1 S rfl (by kernel_rfl) (congrArg Value.bool ((q2).2 hc3))
     exact trivial
    intro j6 W0;refine EndE.some_ rfl ?_;rintro _ ⟨rfl,j5⟩;replace S:=S.pt 37 (ji a0.2) rfl;refine EndE.some_ rfl ?_;rintro _ rfl;replace S:=S.pt 38 (.bool (a0.2 != 0)) rfl;refine EndE.some_ rfl ?_;rintro _ rfl;replace S:=S.pt 39 (.bool (a0.2 != 0)) rfl;refine EndE.some_ rfl ?_;intro x4 _;replace S:=S.pt 40 (x4) rfl;refine EndE.some_ rfl ?_;intro y4 _;replace S:=S.pt 41 (y4) rfl;refine EndE.some_ rfl ?_;intro z4 _;replace S:=S.pt 42 (z4) rfl;refine EndE.some_ rfl ?_;intro A4 _;replace S:=S.pt 43 (A4) rfl;refine EndE.some_ rfl ?_;intro B4 _;replace S:=S.pt 44 (B4) rfl;refine EndE.some_ rfl ?_;intro C4 _;replace S:=S.pt 45 (C4) rfl;refine EndE.some_ rfl ?_;intro D4 _;replace S:=S.pt 46 (D4) rfl;refine EndE.some_ rfl ?_;intro E4 _;replace S:=S.pt 47 (E4) rfl;refine EndE.some_ rfl ?_;intro F4 _;replace S:=S.pt 48 (F4) rfl;refine EndE.some_ rfl ?_;intro G4 _;replace S:=S.pt 49 (G4) rfl;refine EndE.some_ rfl ?_;intro H4 _;replace S:=S.pt 50 (H4) rfl;refine EndE.some_ rfl ?_;intro I4 _;replace S:=S.pt 51 (I4) rfl;refine EndE.some_ rfl ?_;intro J4 _;replace S:=S.pt 52 (J4) rfl;refine EndE.some_ rfl ?_;intro K4 _;replace S:=S.pt 53 (K4) rfl;refine EndE.some_ rfl ?_;intro L4 _;replace S:=S.pt 54 (L4) rfl;refine EndE.some_ rfl ?_;intro M4 _;replace S:=S.pt 55 (M4) rfl;refine EndE.some_ rfl ?_;rintro _ rfl;replace S:=S.pt 56 (.bool c0) rfl;refine EndE.some_ rfl ?_;rintro _ rfl;replace S:=S.pt 57 (.bool c0) rfl;refine EndE.some_ rfl ?_;intro N4 _;replace S:=S.pt 58 (N4) rfl;refine EndE.some_ rfl ?_;intro O4 _;replace S:=S.pt 59 (O4) rfl;refine EndE.some_ rfl ?_;intro P4 _;replace S:=S.pt 60 (P4) rfl;refine EndE.some_ rfl ?_;rintro _ rfl;replace S:=S.pt 61 (.bool f0) rfl;refine EndE.some_ rfl ?_;rintro _ rfl;replace S:=S.pt 62 (.bool f0) rfl;refine EndE.some_ rfl ?_;intro Q4 _;replace S:=S.pt 63 (Q4) rfl;refine EndE.some_ rfl ?_;intro R4 _;replace S:=S.pt 64 (R4) rfl;refine EndE.some_ rfl ?_;rintro _ rfl;replace S:=S.pt 65 (.bool d0) rfl;refine EndE.some_ rfl ?_;rintro _ rfl;replace S:=S.pt 66 (.bool d0) rfl;refine EndE.some_ rfl ?_;intro S4 _;replace S:=S.pt 67 (S4) rfl;refine EndE.some_ rfl ?_;intro T4 _;replace S:=S.pt 68 (T4) rfl;refine EndE.some_ rfl ?_;intro U4 _;replace S:=S.pt 69 (U4) rfl;refine EndE.some_ rfl ?_;rintro _ rfl;replace S:=S.pt 70 (.bool L0) rfl;refine a_8 S fun a S=>?_;replace R1:=R1.step W0;replace k0:=k0.step W0;replace e0:=e0.step W0;replace E0:=E0.step W0;replace W:=W.step W0;refine a_a ?_;replace S:=S.su (l':=[(70,.bool L0),(1,v1)]);refine wcs L0 S rfl ?_ ?_
    ·intro hc;rw [if_pos hc] at i0;refine ws (wr ?_);refine dl1 S 1 (4,.bool false) fun a S=>wn (a_a ?_);replace S:=S.su (l':=[(4,.bool false)]);refine wp_ret (a_m (a_m ?_));obtain rfl:=oi i0;obtain rfl:=c_i h;exact a_K S rfl rfl ⟨_,rfl,RepV.mkBool,W.below⟩
    ·intro hc;rw [if_neg (bf hc)] at i0;refine wp_skip (a_a ?_);obtain rfl:=oi i0;exact ⟨_,rfl,⟨S.su,(W.drop 1),(R1.drop 1),(e0.drop 1)⟩⟩
  clear S W;rintro a X4 ⟨u2,rfl,S,W,R1,e0⟩;replace h:=d_C h;try dsimp only at h
  refine a_a (ws (wr ?_));refine dl1 S 1 (72,v1) fun a S=>?_;obtain ⟨h0,W2,h⟩:=a_f h;refine wgo S (a_h (vs:=[v1]) S rfl cb13 rfl rfl rfl (c13 (Kw K w [some b0]) n X4 x1 _ R1 W2) ?_);rintro _ k6 ⟨w2,V5,rfl,G0,w1,h2⟩;refine ⟨_,rfl,?_⟩;replace G0:=RepV.back G0 W;replace w1:=RepV.back w1 W;clear S;intro a S;replace R1:=R1.step h2;replace e0:=e0.step h2;replace W:=W.step h2;obtain ⟨rfl,Z4⟩:=RepV.int w1;refine dl3 S 3 (75,ji h0.2) (74,w2) (71,.tuple #[w2,ji h0.2]) fun a S=>wgo S (a_A (K:=K) (n:=w.heap.size) (L:=[some b0]) (t:=gt1) (y:=(0,0,0)) S rfl rfl rfl _ z38 (fun w K=>⟨[.int .u32 0],[.int .u32 0,.int .u8 0],rfl,⟨rfl,by decide⟩,⟨[.int .u32 0],[.int .u8 0],rfl,⟨rfl,by decide⟩,⟨rfl,by decide⟩⟩⟩) fun a l6 l0 h1 m0 S=>?_);replace R1:=R1.box h1;replace G0:=G0.box h1;replace e0:=e0.box h1;replace W:=W.box h1;refine wgo S (a_g (t':=gt1) S rfl rfl ty38 rfl rfl rfl m0 (by simp) Ln.whole G0 ?_);intro O0 i1 B_;replace R1:=R1.wrote i1 (by simp);replace G0:=G0.wrote i1 (by simp);replace e0:=e0.wrote i1 (by simp) (W.b_ 1 0 (by decide) rfl rfl);replace W:=W.wrote i1 (by simp);replace m0:Bx gt1 38 O0 (Kw K w [some l0,some b0]) l0 h0.1:=B_;clear B_;refine dl1 S 1 (10,ji h0.2) fun a S=>wn (a_a (ws (ws (wr ?_))));refine dl1 S 1 (76,v1) fun a S=>wgo S (a_y (K:=_) S rfl ty23 rfl rfl rfl R1 fun a e5 S=>dl2 S 2 (79,.bool ((a_j x1) != 13)) (78,.bool ((a_j x1) != 13)) fun a S=>?_);obtain ⟨j1,H0,h⟩:=a_f h;refine seg 5 (fun a_ w_=>O0 = w_ ∧ St 122 a_ [(84,.bool j1),(10,ji h0.2),(9,pB l0),(1,v1)]) ?_ ?_
  ·by_cases hc:((a_j x1) != 13) = false
   ·rw [if_pos hc] at H0;rw [hc] at S;refine dl1 S 1 (80,v1) fun a S=>?_;obtain ⟨N3,S2,H0⟩:=a_f H0;refine wgo S (a_C S rfl ty23 rfl rfl rfl R1 (.inl ⟨rfl,rfl⟩) (.inr ⟨_,_,rfl,rfl⟩) S2 fun a W5 r2 S=>wgo S (b_Y (K:=_) S rfl ty23 ty9 rfl rfl rfl r2 fun a S=>wgo S (c_F S rfl rfl rfl rfl (by kernel_rfl) (r2.byt).1 ((strG ([85,83,66,83]) (by decide) (by decide))).1 fun a S=>dl1 S 1 (84,.bool (!(decide (N3.xs = [85,83,66,83])))) fun a S=>?_)));obtain rfl:=oi H0;exact ⟨rfl,S.su⟩
   ·rw [if_neg hc] at H0;rw [show ((a_j x1) != 13) = true from (by simpa using hc)] at S;refine dl5 S 5 (84,.bool true) (83,undef) (82,undef) (81,undef) (80,undef) fun a S=>?_;obtain rfl:=oi H0;exact ⟨rfl,S.su⟩
  clear S H0;rintro a _ ⟨rfl,S⟩;refine dl1 S 1 (85,.bool j1) fun a S=>?_;obtain ⟨t2,I0,h⟩:=a_f h;refine seg 5 (fun a_ w_=>O0 = w_ ∧ St 122 a_ [(90,.bool t2),(10,ji h0.2),(9,pB l0),(1,v1)]) ?_ ?_
  ·by_cases hc:j1 = false
   ·rw [if_pos hc] at I0;rw [hc] at S;refine dl1 S 1 (86,v1) fun a S=>?_;obtain ⟨o2,a3,I0⟩:=a_f I0;refine wgo S (a_l S rfl ty23 rfl rfl rfl R1 rfl a3 fun a k5 O2 f5 S=>wgo S (a_c (t:=(.int .u8)) (x:=o2) S rfl ty5 rfl rfl rfl O2 fun a X5 P2 S=>?_));obtain ⟨rfl,a5⟩:=RepV.int P2;refine dl2 S 2 (90,.bool (decide (o2 > 2))) (89,.bool (decide (o2 > 2))) fun a S=>?_;obtain rfl:=oi I0;exact ⟨rfl,S.su⟩
   ·rw [if_neg hc] at I0;rw [show j1 = true from (by simpa using hc)] at S;refine dl5 S 5 (90,.bool true) (89,undef) (88,undef) (87,undef) (86,undef) fun a S=>?_;obtain rfl:=oi I0;exact ⟨rfl,S.su⟩
  clear S I0;rintro a _ ⟨rfl,S⟩;refine wn (a_a ?_);refine wcs t2 S rfl ?_ ?_
  ·intro hc;rw [if_pos hc] at h;refine ws (wr ?_);refine dl3 S 3 (93,.bool (h0.2 == 4)) (92,.bool (h0.2 == 4)) (91,ji h0.2) fun a S=>?_;obtain ⟨k1,Q0,h⟩:=a_f h;refine seg 4 (fun a_ w_=>O0 = w_ ∧ St 122 a_ [(97,.bool k1)]) ?_ ?_
   ·by_cases hc:(h0.2 == 4) = true
    ·rw [if_pos hc] at Q0;rw [hc] at S;refine wgo S (a_c (t:=gt1) (x:=h0.1) S rfl ty38 rfl rfl rfl m0.at_ fun a Y5 Q2 S=>wgo S (a_G (K:=(Kw K w [some l0,some b0])) (f:=gf1) (z0:=(0,0,0)) (x:=(0,0,0)) (vs:=[]) S _ rfl ty38 z38 (fun w K=>⟨[.int .u32 0],[.int .u32 0,.int .u8 0],rfl,⟨rfl,by decide⟩,⟨[.int .u32 0],[.int .u8 0],rfl,⟨rfl,by decide⟩,⟨rfl,by decide⟩⟩⟩) rfl rfl rfl [] rfl rfl fun a Z5 R2 S=>wgo S (d_7 (t:=gf1) (m:=h0.1) (n:=(0,0,0)) S rfl rfl rfl rfl rfl rfl ty38 eq38 Q2 R2 fun a S=>dl1 S 1 (97,.bool (eqP gf1 h0.1 (0,0,0))) fun a S=>?_)));obtain rfl:=oi Q0;exact ⟨rfl,S.su⟩
    ·rw [if_neg hc] at Q0;rw [show (h0.2 == 4) = false from Bool.eq_false_iff.2 hc] at S;refine dl4 S 4 (97,.bool false) (96,undef) (95,undef) (94,undef) fun a S=>?_;obtain rfl:=oi Q0;exact ⟨rfl,S.su⟩
   clear S Q0;rintro a _ ⟨rfl,S⟩;refine dl1 S 1 (98,.bool k1) fun a S=>?_;obtain ⟨l2,J0,h⟩:=a_f h;refine seg 2 (fun a_ w_=>St 122 a_ [(100,.bool l2)] ∧ Wd w w_ [some l0,some b0] ∧ Bx gt1 38 w_ (Kw K w [some l0,some b0]) b0 x0 ∧ Bx gt1 38 w_ (Kw K w [some l0,some b0]) l0 h0.1) ?_ ?_
   ·by_cases hc:k1 = true
    ·rw [if_pos hc] at J0;rw [hc] at S;obtain ⟨P3,X2,J0⟩:=a_f J0;refine wgo S (a_h (vs:=[]) S rfl cb7 rfl rfl rfl (c7 (Kw K w [some l0,some b0]) n O0  X2) ?_);rintro _ m6 ⟨a6,rfl,y1,i2⟩;refine ⟨_,rfl,?_⟩;replace y1:=RepV.back y1 W;clear S;intro a S;replace e0:=e0.step i2;replace m0:=m0.step i2;replace W:=W.step i2;obtain rfl:=RepV.bool y1;refine dl1 S 1 (100,.bool P3) fun a S=>?_;obtain rfl:=oi J0;exact ⟨S.su,W,e0,m0⟩
    ·rw [if_neg hc] at J0;rw [show k1 = false from Bool.eq_false_iff.2 hc] at S;refine dl2 S 2 (100,.bool false) (99,undef) fun a S=>?_;obtain rfl:=oi J0;exact ⟨S.su,W,e0,m0⟩
   clear S W J0;rintro a n6 ⟨S,W,e0,m0⟩;refine dl1 S 1 (4,.bool l2) fun a S=>wn (a_a ?_);replace S:=S.su (l':=[(4,.bool l2)]);refine wp_ret (a_m ?_);obtain rfl:=oi h;exact a_K S rfl rfl ⟨_,rfl,RepV.mkBool,W.below⟩
  ·intro hc;rw [if_neg (bf hc)] at h;refine wp_skip (a_a ?_);replace S:=S.su (l':=[(10,ji h0.2),(9,pB l0),(1,v1)]);refine ws (wr ?_);refine wgo S (a_c (t:=gt1) (x:=h0.1) S rfl ty38 rfl rfl rfl m0.at_ fun a V4 z1 S=>?_);obtain ⟨M0,Y2,h⟩:=a_f h;refine wgo S (a_h (vs:=[V4]) S rfl cb12 rfl rfl rfl (c12 (Kw K w [some l0,some b0]) n O0 h0.1 _ z1 Y2) ?_);rintro _ n2 ⟨Z0,b6,rfl,a1,A1,X0⟩;refine ⟨_,rfl,?_⟩;replace a1:=RepV.back a1 W;replace A1:=RepV.back A1 W;clear S;intro a S;replace R1:=R1.step X0;replace z1:=z1.step X0;replace e0:=e0.step X0;replace m0:=m0.step X0;replace W:=W.step X0;obtain ⟨rfl,b5⟩:=RepV.int A1;refine dl5 S 5 (12,ji M0.2) (11,Z0) (105,ji M0.2) (104,Z0) (101,.tuple #[Z0,ji M0.2]) fun a S=>wn (a_a (ws (wr ?_)));refine dl3 S 3 (108,.bool (h0.2 == 0)) (107,.bool (h0.2 == 0)) (106,ji h0.2) fun a S=>?_;obtain ⟨l1,T0,h⟩:=a_f h;refine seg 3 (fun a_ w_=>n2 = w_ ∧ St 122 a_ [(111,.bool l1),(11,Z0),(1,v1)]) ?_ ?_
   ·by_cases hc:(h0.2 == 0) = true
    ·rw [if_pos hc] at T0;rw [hc] at S;refine dl3 S 3 (111,.bool (M0.2 == 0)) (110,.bool (M0.2 == 0)) (109,ji M0.2) fun a S=>?_;obtain rfl:=oi T0;exact ⟨rfl,S.su⟩
    ·rw [if_neg hc] at T0;rw [show (h0.2 == 0) = false from Bool.eq_false_iff.2 hc] at S;refine dl3 S 3 (111,.bool false) (110,undef) (109,undef) fun a S=>?_;obtain rfl:=oi T0;exact ⟨rfl,S.su⟩
   clear S T0;rintro a _ ⟨rfl,S⟩;refine dl1 S 1 (112,.bool l1) fun a S=>?_;obtain ⟨m1,U0,h⟩:=a_f h;refine seg 6 (fun a_ w_=>n2 = w_ ∧ St 122 a_ [(118,.bool m1)]) ?_ ?_
   ·by_cases hc:l1 = true
    ·rw [if_pos hc] at U0;rw [hc] at S;refine dl1 S 1 (113,Z0) fun a S=>wgo S (b_Y (K:=_) S rfl ty23 ty9 rfl rfl rfl a1 fun a S=>dl1 S 1 (115,v1) fun a S=>wgo S (b_Y (K:=_) S rfl ty23 ty9 rfl rfl rfl R1 fun a S=>wgo S (d_1 S rfl rfl rfl rfl rfl (a1.byt).1 (R1.byt).1 fun a S=>dl1 S 1 (118,.bool (decide (M0.1.xs = x1.xs))) fun a S=>?_)));obtain rfl:=oi U0;exact ⟨rfl,S.su⟩
    ·rw [if_neg hc] at U0;rw [show l1 = false from Bool.eq_false_iff.2 hc] at S;refine dl6 S 6 (118,.bool false) (117,undef) (116,undef) (115,undef) (114,undef) (113,undef) fun a S=>?_;obtain rfl:=oi U0;exact ⟨rfl,S.su⟩
   clear S U0;rintro a _ ⟨rfl,S⟩;refine dl1 S 1 (119,.bool m1) fun a S=>?_;obtain ⟨m2,K0,h⟩:=a_f h;refine seg 2 (fun a_ w_=>St 122 a_ [(121,.bool m2)] ∧ Wd w w_ [some l0,some b0] ∧ Bx gt1 38 w_ (Kw K w [some l0,some b0]) b0 x0 ∧ Bx gt1 38 w_ (Kw K w [some l0,some b0]) l0 h0.1) ?_ ?_
   ·by_cases hc:m1 = true
    ·rw [if_pos hc] at K0;rw [hc] at S;obtain ⟨Q3,Z2,K0⟩:=a_f K0;refine wgo S (a_h (vs:=[]) S rfl cb7 rfl rfl rfl (c7 (Kw K w [some l0,some b0]) n n2  Z2) ?_);rintro _ o6 ⟨c6,rfl,B1,j2⟩;refine ⟨_,rfl,?_⟩;replace B1:=RepV.back B1 W;clear S;intro a S;replace e0:=e0.step j2;replace m0:=m0.step j2;replace W:=W.step j2;obtain rfl:=RepV.bool B1;refine dl1 S 1 (121,.bool Q3) fun a S=>?_;obtain rfl:=oi K0;exact ⟨S.su,W,e0,m0⟩
    ·rw [if_neg hc] at K0;rw [show m1 = false from Bool.eq_false_iff.2 hc] at S;refine dl2 S 2 (121,.bool false) (120,undef) fun a S=>?_;obtain rfl:=oi K0;exact ⟨S.su,W,e0,m0⟩
   clear S W K0;rintro a p6 ⟨S,W,e0,m0⟩;refine dl1 S 1 (4,.bool m2) fun a S=>wn (a_a ?_);replace S:=S.su (l':=[(4,.bool m2)]);refine wp_ret ?_;obtain rfl:=oi h;exact a_K S rfl rfl ⟨_,rfl,RepV.mkBool,W.below⟩
end Go.Proofs.Ytlbaijkolglheaa
