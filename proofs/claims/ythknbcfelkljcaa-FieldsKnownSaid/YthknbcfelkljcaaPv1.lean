/- Functions of the program, as plain data. -/
import Derived.Test.YthknbcfelkljcaaP3
set_option linter.unusedVariables false
set_option linter.unusedSimpArgs false
namespace Go.Proofs.Ythknbcfelkljcaa
open Go.RowKit
set_option maxHeartbeats 4000000
set_option maxRecDepth 100000
def p3_l1 (n:Nat) (c0:(Sl (Int × Int × Int × Int)) × (Int)) (b0:(Sl (Int × Int × Int × Int)) × (Int)):Nat → (Int) → Option ((Unit) ⊕ ((Bool)))
 | 0,_=>.none
 | m + 1,a0=>if (decide (a0 < (a_l b0.1))) then ((idx b0.1.xs a0).bind fun e0=>(idx c0.1.xs a0).bind fun f0=>if (!(eqP gf3 e0 f0)) then .none else (ckI .i64 (a0 + 1)).bind fun d0=>p3_l1 n c0 b0 m d0) else some (.inl ())
def p3 (n:Nat) (x0:(Sl (Int × Int × Int × (Sl (Int)) × Int × Int × Int × Int × Int × Bool × Bool × Bool × Bool)) × (Sl (Int × Int × Int)) × Bool) (x1:Int) (x2:Sl (Int)):Option ((Bool)) :=
 (p7 n x0).bind fun g0 =>
 (if (!g0) = false then some (decide ((a_l x2) > 600)) else some true).bind fun c0 =>
 if c0 then .none else
 (b_3 .u8 x1 5).bind fun h0 =>
 (p9 n x0 h0 x2).bind fun b0 =>
 (b_3 .u8 x1 5).bind fun i0 =>
 (p10 n x0 i0 x2).bind fun a0 =>
 (if (b0.2 != a0.2) = false then some ((a_l a0.1) != (a_l (⟨b0.1.xs,b0.1.cap⟩:Sl (Int × Int × Int × Int)))) else some true).bind fun d0 =>
 (if d0 = false then (capO a0.1).bind fun j0=>some (j0 != (a_l a0.1)) else some true).bind fun e0 =>
 if e0 then .none else
 (p3_l1 n b0 a0 n 0).bind fun (k0:(Unit) ⊕ ((Bool))) =>
 lrK k0 some fun (l0:Unit) =>
 (p8 n).bind fun f0 =>
 some f0
theorem c3 (K:Nat → Prop) (n:Nat) (w:World) (x0:(Sl (Int × Int × Int × (Sl (Int)) × Int × Int × Int × Int × Int × Bool × Bool × Bool × Bool)) × (Sl (Int × Int × Int)) × Bool) (v0:Value) (R0:RepV gt9 w K v0 x0) (x1:Int) (G1:InR .u8 x1) (x2:Sl (Int)) (v2:Value) (R2:RepV (.sl (.int .u8)) w K v2 x2) {r:(Bool)} (h:p3 n x0 x1 x2 = some r) :
  Calls Try.prog 3 #[v0,.int .u8 x1,v2] w (b_Z .bool w (Kw K w []) r):=by
 refine enter (args:=[v0,.int .u8 x1,v2]) Try.func3 rfl 70 rfl rfl fun a S=>?_;have W:=Wd.start w;replace R0:=R0.arg;replace R2:=R2.arg;unfold p3 at h;replace S:St 70 a [(0,v0),(1,.int .u8 x1),(2,v2)]:=S;refine ws (wr ?_);refine wgo S (a_z S rfl rfl rfl rfl rfl R0 fun a m1 e0 D0 b0 S=>?_);replace R0:=R0.box D0;replace R2:=R2.box D0;replace W:=W.box D0;refine dl1 S 1 (6,.bool false) fun a S=>wn (a_a ?_);replace S:=S.su (l':=[(3,pB e0),(1,.int .u8 x1),(2,v2)]);refine ws (ws (wr ?_));refine wgo S (a_b (t:=gt9) (x:=x0) S rfl ty25 rfl rfl rfl b0.at_ fun a k1 A0 S=>?_);obtain ⟨r0,c1,h⟩:=a_d h;refine wgo S (a_k (vs:=[k1]) S rfl cb7 rfl rfl rfl (c7 (Kw K w [some e0]) n m1 x0 _ A0 c1) ?_);rintro _ N0 ⟨I1,rfl,C0,o0⟩;refine ⟨_,rfl,?_⟩;replace C0:=RepV.back C0 W;clear S;intro a S;replace R2:=R2.step o0;replace A0:=A0.step o0;replace b0:=b0.step o0;replace W:=W.step o0;obtain rfl:=RepV.bool C0;refine dl2 S 2 (15,.bool (!r0)) (14,.bool (!r0)) fun a S=>?_;obtain ⟨J0,l0,h⟩:=a_d h;refine seg 4 (fun a_ w_=>N0 = w_ ∧ St 70 a_ [(19,.bool J0),(3,pB e0),(1,.int .u8 x1),(2,v2)]) ?_ ?_
 ·by_cases hc:(!r0) = false
  ·rw [if_pos hc] at l0;rw [hc] at S;refine dl1 S 1 (16,v2) fun a S=>wgo S (a_t (K:=_) S rfl ty26 rfl rfl rfl R2 fun a q1 S=>dl2 S 2 (19,.bool (decide ((a_l x2) > 600))) (18,.bool (decide ((a_l x2) > 600))) fun a S=>?_);obtain rfl:=oi l0;exact ⟨rfl,S.su⟩
  ·rw [if_neg hc] at l0;rw [show (!r0) = true from (by simpa using hc)] at S;refine dl4 S 4 (19,.bool true) (18,undef) (17,undef) (16,undef) fun a S=>?_;obtain rfl:=oi l0;exact ⟨rfl,S.su⟩
 clear S l0;rintro a _ ⟨rfl,S⟩;refine wn (a_a ?_);refine wcs J0 S rfl (dzp h) fun hc=>?_;rw [if_neg (bf hc)] at h;refine wp_skip (a_a ?_);replace S:=S.su (l':=[(3,pB e0),(1,.int .u8 x1),(2,v2)]);refine ws (wr ?_);refine wgo S (a_b (t:=gt9) (x:=x0) S rfl ty25 rfl rfl rfl b0.at_ fun a i1 u0 S=>dl1 S 1 (23,.int .u8 x1) fun a S=>?_);obtain ⟨P0,F0,h⟩:=a_d h;refine wgo S (a_V S .u8 rfl rfl rfl rfl rfl F0 fun a S=>dl1 S 1 (25,v2) fun a S=>?_);obtain ⟨f0,Z0,h⟩:=a_d h;refine wgo S (a_k (vs:=[i1,.int .u8 P0,v2]) S rfl cb9 rfl rfl rfl (c9 (Kw K w [some e0]) n N0 x0 _ u0 P0 (b_b F0) x2 _ R2 Z0) ?_);rintro _ l1 ⟨a0,C1,rfl,i0,w0,h1⟩;refine ⟨_,rfl,?_⟩;have NO_:=b_O i0 (Nat.le_refl _) h1;replace i0:=Ow.backO i0 W;replace w0:=RepV.backO w0 W;clear S;intro a S;replace R2:=R2.newO NO_;replace u0:=u0.newO NO_;replace b0:=b0.newO NO_;replace W:=W.newO NO_;clear NO_;obtain ⟨rfl,o1⟩:=RepV.int w0;refine dl5 S 5 (8,ji f0.2) (7,a0) (28,ji f0.2) (27,a0) (21,.tuple #[a0,ji f0.2]) fun a S=>wn (a_a (ws (wr ?_)));refine wgo S (a_b (t:=gt9) (x:=x0) S rfl ty25 rfl rfl rfl b0.at_ fun a j1 y0 S=>dl1 S 1 (31,.int .u8 x1) fun a S=>?_);obtain ⟨Q0,G0,h⟩:=a_d h;refine wgo S (a_V S .u8 rfl rfl rfl rfl rfl G0 fun a S=>dl1 S 1 (33,v2) fun a S=>?_);obtain ⟨c0,a1,h⟩:=a_d h;refine wgo S (a_k (vs:=[j1,.int .u8 Q0,v2]) S rfl cb10 rfl rfl rfl (c10 (Kw K w [a0.ownBlock,some e0]) n l1 x0 _ y0 Q0 (b_b G0) x2 _ R2 a1) ?_);rintro _ O0 ⟨d0,D1,rfl,j0,z0,n0⟩;refine ⟨_,rfl,?_⟩;replace j0:=RepV.back j0 W;replace z0:=RepV.back z0 W;clear S;intro a S;replace y0:=y0.step n0;replace R2:=R2.step n0;replace b0:=b0.step n0;replace i0:=i0.step n0;replace W:=W.step n0;obtain ⟨rfl,p1⟩:=RepV.int z0;refine dl5 S 5 (10,ji c0.2) (9,d0) (36,ji c0.2) (35,d0) (29,.tuple #[d0,ji c0.2]) fun a S=>wn (a_a (ws (ws (wr ?_))));refine dl4 S 4 (40,.bool (f0.2 != c0.2)) (39,.bool (f0.2 != c0.2)) (38,ji c0.2) (37,ji f0.2) fun a S=>?_;obtain ⟨q0,m0,h⟩:=a_d h;refine seg 6 (fun a_ w_=>O0 = w_ ∧ St 70 a_ [(46,.bool q0),(9,d0),(7,a0)]) ?_ ?_
 ·by_cases hc:(f0.2 != c0.2) = false
  ·rw [if_pos hc] at m0;rw [hc] at S;refine dl1 S 1 (41,d0) fun a S=>wgo S (a_t (K:=_) S rfl ty29 rfl rfl rfl j0 fun a r1 S=>dl1 S 1 (43,a0) fun a S=>wgo S (a_t (K:=_) S rfl ty29 rfl rfl rfl i0.read fun a s1 S=>dl2 S 2 (46,.bool ((a_l c0.1) != (a_l (⟨f0.1.xs,f0.1.cap⟩:Sl (Int × Int × Int × Int))))) (45,.bool ((a_l c0.1) != (a_l (⟨f0.1.xs,f0.1.cap⟩:Sl (Int × Int × Int × Int))))) fun a S=>?_));obtain rfl:=oi m0;exact ⟨rfl,S.su⟩
  ·rw [if_neg hc] at m0;rw [show (f0.2 != c0.2) = true from (by simpa using hc)] at S;refine dl6 S 6 (46,.bool true) (45,undef) (44,undef) (43,undef) (42,undef) (41,undef) fun a S=>?_;obtain rfl:=oi m0;exact ⟨rfl,S.su⟩
 clear S m0;rintro a _ ⟨rfl,S⟩;refine dl1 S 1 (47,.bool q0) fun a S=>?_;obtain ⟨K0,k0,h⟩:=a_d h;refine seg 6 (fun a_ w_=>O0 = w_ ∧ St 70 a_ [(53,.bool K0),(9,d0),(7,a0)]) ?_ ?_
 ·by_cases hc:q0 = false
  ·rw [if_pos hc] at k0;rw [hc] at S;refine dl1 S 1 (48,d0) fun a S=>?_;obtain ⟨S0,d1,k0⟩:=a_d k0;refine wgo S (op_cap (K:=_) S rfl ty29 rfl rfl rfl j0 d1 fun a t1 S=>dl1 S 1 (50,d0) fun a S=>wgo S (a_t (K:=_) S rfl ty29 rfl rfl rfl j0 fun a u1 S=>dl2 S 2 (53,.bool (S0 != (a_l c0.1))) (52,.bool (S0 != (a_l c0.1))) fun a S=>?_));obtain rfl:=oi k0;exact ⟨rfl,S.su⟩
  ·rw [if_neg hc] at k0;rw [show q0 = true from (by simpa using hc)] at S;refine dl6 S 6 (53,.bool true) (52,undef) (51,undef) (50,undef) (49,undef) (48,undef) fun a S=>?_;obtain rfl:=oi k0;exact ⟨rfl,S.su⟩
 clear S k0;rintro a _ ⟨rfl,S⟩;refine wn (a_a ?_);refine wcs K0 S rfl (dzp h) fun hc=>?_;rw [if_neg (bf hc)] at h;refine wp_skip (a_a ?_);replace S:=S.su (l':=[(9,d0),(7,a0)]);refine ws (ws (wr ?_));refine dl1 S 1 (11,ji 0) fun a S=>wn (a_a ?_);obtain ⟨U0,e1,h⟩:=a_d h;refine a_n (fun a_ w_=>∃ L0:Unit,U0 = .inl L0 ∧ (St 70 a_ [] ∧ Wd w w_ [a0.ownBlock,some e0] ∧ Bx gt9 25 w_ (Kw K w [a0.ownBlock,some e0]) e0 x0)) ?_ ?_
 ·refine wp_block ?_;refine a_r (fun m_ a_ w_=>∃ (g0:Int) ,St 70 a_ [(11,ji g0),(9,d0),(7,a0)] ∧ Wd w w_ [a0.ownBlock,some e0] ∧ InR .i64 g0 ∧ RepV (.sl gt3) w_ (Kw K w [a0.ownBlock,some e0]) d0 c0.1 ∧ Bx gt9 25 w_ (Kw K w [a0.ownBlock,some e0]) e0 x0 ∧ Ow gt3 36 w_ w.heap.size (Kw K w [a0.ownBlock,some e0]) a0 f0.1.xs f0.1.cap ∧ p3_l1 n f0 c0 m_ g0 = some U0) n ?_ ?_
  ·skip
   exact ⟨0,⟨S.su,W,(show InR .i64 0 by decide),j0,b0,i0,e1⟩⟩
  ·clear S W;rintro E0 a J1 ⟨g0,S,W,v1,j0,b0,i0,h0⟩
   cases E0 with
   | zero=>exact absurd h0 (by simp [p3_l1])
   | succ E0 =>
    refine ⟨E0,rfl,?_⟩;rw [p3_l1] at h0;refine ws (ws (wr ?_));refine dl2 S 2 (55,d0) (54,ji g0) fun a S=>wgo S (a_t (K:=_) S rfl ty29 rfl rfl rfl j0 fun a w1 S=>dl1 S 1 (57,.bool (decide (g0 < (a_l c0.1)))) fun a S=>wn (a_a ?_));refine wcs (decide (g0 < (a_l c0.1))) S rfl ?_ ?_
    ·intro hc;rw [if_pos hc] at h0;refine wp_skip (a_a ?_);replace S:=S.su (l':=[(11,ji g0),(9,d0),(7,a0)]);refine ws (wp_block (ws ?_));refine a_Q 9 (by kernel_rfl) (by kernel_rfl) (by repeat (first | with_reducible exact a_2 | with_reducible refine a_3 ?_ | with_reducible refine b_l ?_)) ?_;intro K1 p0;replace j0:=j0.step p0;replace b0:=b0.step p0;replace i0:=i0.step p0;replace W:=W.step p0;refine Ro.dl2 S 2 (61,ji g0) (60,d0) fun a S=>?_;obtain ⟨s0,f1,h0⟩:=a_d h0;refine Ro.wgo S (a_e S rfl ty29 rfl rfl rfl j0 rfl f1 fun a B1 V0 y1 S=>Ro.wgo S (a_b (t:=gt3) (x:=s0) S rfl ty36 rfl rfl rfl V0 fun a E1 W0 S=>Ro.dl2 S 2 (65,ji g0) (64,a0) fun a S=>?_));obtain ⟨t0,g1,h0⟩:=a_d h0;refine Ro.wgo S (a_s S rfl ty29 rfl rfl rfl i0 rfl g1 fun a A1 z1 X0 S=>Ro.wgo S (a_b (t:=gt3) (x:=t0) S rfl ty36 rfl rfl rfl X0 fun a F1 Y0 S=>Ro.wgo S (d_M (t:=gf3) (m:=s0) (n:=t0) S rfl rfl rfl rfl rfl rfl ty36 eq36 W0 Y0 fun a S=>Ro.wpList_nil ?_)));refine a_a ?_;replace S:=S.su (l':=[(68,.bool (!(eqP gf3 s0 t0))),(11,ji g0),(9,d0),(7,a0)]);refine wcs (!(eqP gf3 s0 t0)) S rfl (dzp h0) fun hc=>?_;rw [if_neg (bf hc)] at h0;refine wp_skip ?_;refine a_N ?_;refine a_a ?_;replace S:=S.su (l':=[(11,ji g0),(9,d0),(7,a0)]);refine wr ?_;refine dl1 S 1 (58,ji g0) fun a S=>?_;obtain ⟨T0,H0,h0⟩:=a_d h0;refine wgo S (a_f S .i64 (g0 + 1) rfl (.inl rfl) rfl rfl rfl rfl H0 fun a S=>dl1 S 1 (11,ji T0) fun a S=>wn (a_a ?_));exact ⟨T0,⟨S.su,W,(a_j H0).2.1,j0,b0,i0,h0⟩⟩
    ·intro hc;rw [if_neg (bf hc)] at h0;refine wp_exit ?_;refine a_q ?_;refine a_q ?_;refine a_y ?_;refine a_a ?_;obtain rfl:=oi h0;exact ⟨_,rfl,⟨S.sub trivial,W,b0⟩⟩
 clear S W;rintro a n1 ⟨L0,rfl,S,W,b0⟩;replace h:=b_c h;try dsimp only at h
 refine a_a (ws (wr ?_));obtain ⟨M0,b1,h⟩:=a_d h;refine wgo S (a_k (vs:=[]) S rfl cb8 rfl rfl rfl (c8 (Kw K w [a0.ownBlock,some e0]) n n1  b1) ?_);rintro _ L1 ⟨H1,rfl,B0,I0⟩;refine ⟨_,rfl,?_⟩;replace B0:=RepV.back B0 W;clear S;intro a S;replace b0:=b0.step I0;replace W:=W.step I0;obtain rfl:=RepV.bool B0;refine dl1 S 1 (6,.bool M0) fun a S=>wn (a_a ?_);replace S:=S.su (l':=[(6,.bool M0)]);refine wp_ret ?_;obtain rfl:=oi h;exact a_I S rfl rfl ⟨_,rfl,RepV.mkBool,W.below⟩
theorem cb3:a_K Try.prog 3 = true:=by kernel_rfl
end Go.Proofs.Ythknbcfelkljcaa
