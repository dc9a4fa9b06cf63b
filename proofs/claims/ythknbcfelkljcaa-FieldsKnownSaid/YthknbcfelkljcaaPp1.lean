/- Functions of the program, as plain data. -/
import Derived.Test.YthknbcfelkljcaaPv1
set_option linter.unusedVariables false
set_option linter.unusedSimpArgs false
namespace Go.Proofs.Ythknbcfelkljcaa
open Go.RowKit
set_option maxHeartbeats 4000000
set_option maxRecDepth 100000
def p4_l1 (n:Nat) (x0:(Sl (Int × Int × Int × (Sl (Int)) × Int × Int × Int × Int × Int × Bool × Bool × Bool × Bool)) × (Sl (Int × Int × Int)) × Bool) (x1:Sl (Int)) (x2:Int × Int × Int) (c0:(Sl (Int)) × (Int)) (b0:Int × Int × Int × (Sl (Int)) × Int × Int × Int × Int × Int × Bool × Bool × Bool × Bool):Nat → (Int) → Option ((Unit) ⊕ ((Bool)))
 | 0,_=>.none
 | m + 1,a0=>(p18 n x0 b0).bind fun f0=>if (decide (a0 < f0)) then ((ckI .i64 (x2.2.1 * b0.2.2.2.2.2.2.1)).bind fun j0=>(ckI .i64 (b0.2.2.2.2.2.2.2.2.1 + j0)).bind fun k0=>(if (decide (a0 ≥ k0)) = true then (ckI .i64 (x2.2.1 + 1)).bind fun l0=>(ckI .i64 (l0 * b0.2.2.2.2.2.2.1)).bind fun m0=>(ckI .i64 (b0.2.2.2.2.2.2.2.2.1 + m0)).bind fun n0=>some (decide (a0 < n0)) else some false).bind fun d0=>(if (!d0) = true then (p19 n x0 (⟨c0.1.xs,c0.1.cap⟩:Sl (Int)) a0).bind fun g0=>(p19 n x0 x1 a0).bind fun h0=>some (g0 != h0) else some false).bind fun e0=>if e0 then .none else (ckI .i64 (a0 + 1)).bind fun i0=>p4_l1 n x0 x1 x2 c0 b0 m i0) else some (.inl ())
def p4 (n:Nat) (x0:(Sl (Int × Int × Int × (Sl (Int)) × Int × Int × Int × Int × Int × Bool × Bool × Bool × Bool)) × (Sl (Int × Int × Int)) × Bool) (x1:Sl (Int)) (x2:Int × Int × Int):Option ((Bool)) :=
 (p7 n x0).bind fun u0 =>
 (if (!u0) = false then some (decide ((a_l x1) > 600)) else some true).bind fun g0 =>
 if g0 then .none else
 (p11 n x0 x1 x2.1 x2.2.1).bind fun d0 =>
 (p12 n x0 x1 x2.1 x2.2.1 x2.2.2).bind fun a0 =>
 (p13 n x0).bind fun C0 =>
 if (!C0) then .none else
 (if (decide (x2.1 < 0)) = false then some (decide (x2.1 ≥ (a_l x0.1))) else some true).bind fun q0 =>
 (if q0 = false then some (decide (x2.2.1 < 0)) else some true).bind fun r0 =>
 (if r0 = false then (idx x0.1.xs x2.1).bind fun J0=>some (decide (x2.2.1 ≥ J0.2.2.2.2.2.2.2.1)) else some true).bind fun s0 =>
 if s0 then .none else
 (idx x0.1.xs x2.1).bind fun L0 =>
 (p14 n x0 L0).bind fun D0 =>
 if ((a_l x1) != D0) then .none else
 (if x0.2.2 = true then (idx x1.xs 0).bind fun F0=>(idx x0.1.xs x2.1).bind fun G0=>some (F0 != G0.2.1) else some false).bind fun h0 =>
 if h0 then .none else
 (p15 n x0).bind fun v0 =>
 (p13 n x0).bind fun w0 =>
 (if (!(v0 == w0)) = false then some (d0.2 != 0) else some true).bind fun i0 =>
 if i0 then .none else
 if (0 != 0) then .none else
 (idx x0.1.xs x2.1).bind fun b0 =>
 (p16 n x0 b0 x1 x2.2.1).bind fun y0 =>
 if (d0.1 != y0) then .none else
 (p17 n b0 x2.2.2).bind fun z0 =>
 if (!z0) then ((if (a0.2 == 1) = true then some ((a_l (⟨a0.1.xs,a0.1.cap⟩:Sl (Int))) == 0) else some false).bind fun j0=>(if j0 = true then (p8 n).bind fun A0=>some A0 else some false).bind fun k0=>some k0) else (if (a0.2 != 0) = false then some ((a_l (⟨a0.1.xs,a0.1.cap⟩:Sl (Int))) != (a_l x1)) else some true).bind fun l0=>(if l0 = false then (capO (⟨a0.1.xs,a0.1.cap⟩:Sl (Int))).bind fun E0=>some (E0 != (a_l (⟨a0.1.xs,a0.1.cap⟩:Sl (Int)))) else some true).bind fun m0=>(if m0 = false then (p16 n x0 b0 (⟨a0.1.xs,a0.1.cap⟩:Sl (Int)) x2.2.1).bind fun B0=>some (B0 != x2.2.2) else some true).bind fun n0=>(if n0 = false then (if x0.2.2 = true then (idx a0.1.xs 0).bind fun H0=>(idx x1.xs 0).bind fun I0=>some (H0 != I0) else some false).bind fun p0=>some p0 else some true).bind fun o0=>if o0 then .none else (p4_l1 n x0 x1 x2 a0 b0 n 0).bind fun (K0:(Unit) ⊕ ((Bool)))=>lrK K0 some fun (M0:Unit)=>(p11 n x0 (⟨a0.1.xs,a0.1.cap⟩:Sl (Int)) x2.1 x2.2.1).bind fun c0=>(if (c0.1 == x2.2.2) = true then some (c0.2 == 0) else some false).bind fun e0=>(if e0 = true then (p8 n).bind fun t0=>some t0 else some false).bind fun f0=>some f0
theorem c4 (K:Nat → Prop) (n:Nat) (w:World) (x0:(Sl (Int × Int × Int × (Sl (Int)) × Int × Int × Int × Int × Int × Bool × Bool × Bool × Bool)) × (Sl (Int × Int × Int)) × Bool) (v0:Value) (R0:RepV gt9 w K v0 x0) (x1:Sl (Int)) (v1:Value) (R1:RepV (.sl (.int .u8)) w K v1 x1) (x2:Int × Int × Int) (v2:Value) (R2:RepV gt2 w K v2 x2) {r:(Bool)} (h:p4 n x0 x1 x2 = some r) :
  Calls Try.prog 4 #[v0,v1,v2] w (b_Z .bool w (Kw K w []) r):=by
 refine enter (args:=[v0,v1,v2]) Try.func4 rfl 269 rfl rfl fun a S=>?_;have W:=Wd.start w;replace R0:=R0.arg;replace R1:=R1.arg;replace R2:=R2.arg;unfold p4 at h;replace S:St 269 a [(0,v0),(1,v1),(2,v2)]:=S;refine ws (wr ?_);refine wgo S (a_z S rfl rfl rfl rfl rfl R0 fun a BE d0 Q1 h0 S=>?_);replace R0:=R0.box Q1;replace R1:=R1.box Q1;replace R2:=R2.box Q1;replace W:=W.box Q1;refine wgo S (a_z S rfl rfl rfl rfl rfl R2 fun a OA c0 J1 i0 S=>?_);replace R0:=R0.box J1;replace R1:=R1.box J1;replace R2:=R2.box J1;replace h0:=h0.box J1;replace W:=W.box J1;refine dl1 S 1 (6,.bool false) fun a S=>wn (a_a (ws (ws (wr ?_))));refine wgo S (a_b (t:=gt9) (x:=x0) S rfl ty25 rfl rfl rfl h0.at_ fun a xA b2 S=>?_);obtain ⟨Z1,u6,h⟩:=a_d h;refine wgo S (a_k (vs:=[xA]) S rfl cb7 rfl rfl rfl (c7 (Kw K w [some c0,some d0]) n OA x0 _ b2 u6) ?_);rintro _ D4 ⟨lC,rfl,f2,E1⟩;refine ⟨_,rfl,?_⟩;replace f2:=RepV.back f2 W;clear S;intro a S;replace R1:=R1.step E1;replace b2:=b2.step E1;replace h0:=h0.step E1;replace i0:=i0.step E1;replace W:=W.step E1;obtain rfl:=RepV.bool f2;refine dl2 S 2 (20,.bool (!Z1)) (19,.bool (!Z1)) fun a S=>?_;obtain ⟨n4,q1,h⟩:=a_d h;refine seg 4 (fun a_ w_=>D4 = w_ ∧ St 269 a_ [(24,.bool n4),(5,pB c0),(3,pB d0),(1,v1)]) ?_ ?_
 ·by_cases hc:(!Z1) = false
  ·rw [if_pos hc] at q1;rw [hc] at S;refine dl1 S 1 (21,v1) fun a S=>wgo S (a_t (K:=_) S rfl ty26 rfl rfl rfl R1 fun a rB S=>dl2 S 2 (24,.bool (decide ((a_l x1) > 600))) (23,.bool (decide ((a_l x1) > 600))) fun a S=>?_);obtain rfl:=oi q1;exact ⟨rfl,S.su⟩
  ·rw [if_neg hc] at q1;rw [show (!Z1) = true from (by simpa using hc)] at S;refine dl4 S 4 (24,.bool true) (23,undef) (22,undef) (21,undef) fun a S=>?_;obtain rfl:=oi q1;exact ⟨rfl,S.su⟩
 clear S q1;rintro a _ ⟨rfl,S⟩;refine wn (a_a ?_);refine wcs n4 S rfl (dzp h) fun hc=>?_;rw [if_neg (bf hc)] at h;refine wp_skip (a_a ?_);replace S:=S.su (l':=[(5,pB c0),(3,pB d0),(1,v1)]);refine ws (wr ?_);refine wgo S (a_b (t:=gt9) (x:=x0) S rfl ty25 rfl rfl rfl h0.at_ fun a D8 g2 S=>dl2 S 2 (29,.pointer (some ((⟨c0,0,.none⟩:Addr).add (a_i gf2 0)))) (28,v1) fun a S=>wgo S (a_b (t:=(.int .i64)) (x:=x2.1) S rfl ty3 rfl rfl rfl (RepAt.add 0 (RepAt.st (t:=gf2) i0.at_)) fun a tC E5 S=>?_));obtain ⟨rfl,N4⟩:=RepV.int E5;refine dl1 S 1 (31,.pointer (some ((⟨c0,0,.none⟩:Addr).add (a_i gf2 1)))) fun a S=>wgo S (a_b (t:=(.int .i64)) (x:=x2.2.1) S rfl ty3 rfl rfl rfl (RepAt.add 1 (RepAt.st (t:=gf2) i0.at_)) fun a yC G5 S=>?_);obtain ⟨rfl,O4⟩:=RepV.int G5;obtain ⟨o0,x6,h⟩:=a_d h;refine wgo S (a_k (vs:=[D8,v1,ji x2.1,ji x2.2.1]) S rfl cb11 rfl rfl rfl (c11 (Kw K w [some c0,some d0]) n D4 x0 _ g2 x1 _ R1 x2.1 N4 x2.2.1 O4 x6) ?_);rintro _ LA ⟨BC,DC,rfl,j2,k2,H1⟩;refine ⟨_,rfl,?_⟩;replace j2:=RepV.back j2 W;replace k2:=RepV.back k2 W;clear S;intro a S;replace R1:=R1.step H1;replace g2:=g2.step H1;replace h0:=h0.step H1;replace i0:=i0.step H1;replace W:=W.step H1;obtain ⟨rfl,aB⟩:=RepV.int j2;obtain ⟨rfl,P4⟩:=RepV.int k2;refine dl5 S 5 (8,ji o0.2) (7,ji o0.1) (35,ji o0.2) (34,ji o0.1) (26,.tuple #[ji o0.1,ji o0.2]) fun a S=>wn (a_a (ws (wr ?_)));refine wgo S (a_b (t:=gt9) (x:=x0) S rfl ty25 rfl rfl rfl h0.at_ fun a P8 q2 S=>dl2 S 2 (39,.pointer (some ((⟨c0,0,.none⟩:Addr).add (a_i gf2 0)))) (38,v1) fun a S=>wgo S (a_b (t:=(.int .i64)) (x:=x2.1) S rfl ty3 rfl rfl rfl (RepAt.add 0 (RepAt.st (t:=gf2) i0.at_)) fun a MC L5 S=>?_));obtain ⟨rfl,S4⟩:=RepV.int L5;refine dl1 S 1 (41,.pointer (some ((⟨c0,0,.none⟩:Addr).add (a_i gf2 1)))) fun a S=>wgo S (a_b (t:=(.int .i64)) (x:=x2.2.1) S rfl ty3 rfl rfl rfl (RepAt.add 1 (RepAt.st (t:=gf2) i0.at_)) fun a NC M5 S=>?_);obtain ⟨rfl,T4⟩:=RepV.int M5;refine dl1 S 1 (43,.pointer (some ((⟨c0,0,.none⟩:Addr).add (a_i gf2 2)))) fun a S=>wgo S (a_b (t:=(.int .i64)) (x:=x2.2.2) S rfl ty3 rfl rfl rfl (RepAt.add 2 (RepAt.st (t:=gf2) i0.at_)) fun a OC N5 S=>?_);obtain ⟨rfl,U4⟩:=RepV.int N5;obtain ⟨a0,B6,h⟩:=a_d h;refine wgo S (a_k (vs:=[P8,v1,ji x2.1,ji x2.2.1,ji x2.2.2]) S rfl cb12 rfl rfl rfl (c12 (Kw K w [some c0,some d0]) n LA x0 _ q2 x1 _ R1 x2.1 S4 x2.2.1 T4 x2.2.2 U4 B6) ?_);rintro _ NA ⟨b0,RC,rfl,l0,s2,a8⟩;refine ⟨_,rfl,?_⟩;have NO_:=b_O l0 (Nat.le_refl _) a8;replace l0:=Ow.backO l0 W;replace s2:=RepV.backO s2 W;clear S;intro a S;replace R1:=R1.newO NO_;replace q2:=q2.newO NO_;replace h0:=h0.newO NO_;replace i0:=i0.newO NO_;replace W:=W.newO NO_;clear NO_;obtain ⟨rfl,V4⟩:=RepV.int s2;refine dl5 S 5 (10,ji a0.2) (9,b0) (47,ji a0.2) (46,b0) (36,.tuple #[b0,ji a0.2]) fun a S=>wn (a_a (ws (wr ?_)));refine dl1 S 1 (11,ji 0) fun a S=>wn (a_a (ws (wp_block (ws (wr ?_)))));refine wgo S (a_b (t:=gt9) (x:=x0) S rfl ty25 rfl rfl rfl h0.at_ fun a c9 t2 S=>?_);obtain ⟨X3,C6,h⟩:=a_d h;refine wgo S (a_k (vs:=[c9]) S rfl cb13 rfl rfl rfl (c13 (Kw K w [b0.ownBlock,some c0,some d0]) n NA x0 _ t2 C6) ?_);rintro _ EE ⟨bD,rfl,u2,k1⟩;refine ⟨_,rfl,?_⟩;replace u2:=RepV.back u2 W;clear S;intro a S;replace R1:=R1.step k1;replace t2:=t2.step k1;replace h0:=h0.step k1;replace i0:=i0.step k1;replace l0:=l0.step k1;replace W:=W.step k1;obtain rfl:=RepV.bool u2;refine dl2 S 2 (48,.bool (!X3)) (51,.bool (!X3)) fun a S=>wn (a_a ?_);refine wcs (!X3) S rfl (dzp h) fun hc=>?_;rw [if_neg (bf hc)] at h;refine ws ?_;refine a_Q 29 (by kernel_rfl) (by kernel_rfl) (by repeat (first | with_reducible exact a_2 | with_reducible refine a_3 ?_ | with_reducible refine b_l ?_)) ?_;intro Y3 I1;replace R1:=R1.step I1;replace h0:=h0.step I1;replace i0:=i0.step I1;replace l0:=l0.step I1;replace W:=W.step I1;refine Ro.dl1 S 1 (53,.pointer (some ((⟨c0,0,.none⟩:Addr).add (a_i gf2 0)))) fun a S=>Ro.wgo S (a_b (t:=(.int .i64)) (x:=x2.1) S rfl ty3 rfl rfl rfl (RepAt.add 0 (RepAt.st (t:=gf2) i0.at_)) fun a kD S5 S=>?_);obtain ⟨rfl,dB⟩:=RepV.int S5;refine Ro.dl2 S 2 (56,.bool (decide (x2.1 < 0))) (55,.bool (decide (x2.1 < 0))) fun a S=>?_;obtain ⟨W1,s1,h⟩:=a_d h;refine Ro.seg 7 (fun a_ w_=>Y3 = w_ ∧ St 269 a_ [(63,.bool W1),(11,ji 0),(10,ji a0.2),(9,b0),(8,ji o0.2),(7,ji o0.1),(5,pB c0),(3,pB d0),(1,v1)]) ?_ ?_
 ·by_cases hc:(decide (x2.1 < 0)) = false
  ·rw [if_pos hc] at s1;rw [hc] at S;refine Ro.dl1 S 1 (57,.pointer (some ((⟨c0,0,.none⟩:Addr).add (a_i gf2 0)))) fun a S=>Ro.wgo S (a_b (t:=(.int .i64)) (x:=x2.1) S rfl ty3 rfl rfl rfl (RepAt.add 0 (RepAt.st (t:=gf2) i0.at_)) fun a pD U5 S=>?_);obtain ⟨rfl,eB⟩:=RepV.int U5;refine Ro.dl1 S 1 (59,.pointer (some ((⟨d0,0,.none⟩:Addr).add (a_i gf9 0)))) fun a S=>Ro.wgo S (a_b (t:=(.sl gt8)) (x:=x0.1) S rfl ty22 rfl rfl rfl (RepAt.add 0 (RepAt.st (t:=gf9) h0.at_)) fun a rD W5 S=>Ro.wgo S (a_t (K:=_) S rfl ty22 rfl rfl rfl W5 fun a tB S=>Ro.dl2 S 2 (63,.bool (decide (x2.1 ≥ (a_l x0.1)))) (62,.bool (decide (x2.1 ≥ (a_l x0.1)))) fun a S=>?_));obtain rfl:=oi s1;refine Ro.wpList_nil ?_;exact ⟨rfl,S.su⟩
  ·rw [if_neg hc] at s1;rw [show (decide (x2.1 < 0)) = true from (by simpa using hc)] at S;refine Ro.dl7 S 7 (63,.bool true) (62,undef) (61,undef) (60,undef) (59,undef) (58,undef) (57,undef) fun a S=>?_;obtain rfl:=oi s1;refine Ro.wpList_nil ?_;exact ⟨rfl,S.su⟩
 clear S s1;rintro a _ ⟨rfl,S⟩;refine Ro.dl1 S 1 (64,.bool W1) fun a S=>?_;obtain ⟨X1,t1,h⟩:=a_d h;refine Ro.seg 4 (fun a_ w_=>Y3 = w_ ∧ St 269 a_ [(68,.bool X1),(11,ji 0),(10,ji a0.2),(9,b0),(8,ji o0.2),(7,ji o0.1),(5,pB c0),(3,pB d0),(1,v1)]) ?_ ?_
 ·by_cases hc:W1 = false
  ·rw [if_pos hc] at t1;rw [hc] at S;refine Ro.dl1 S 1 (65,.pointer (some ((⟨c0,0,.none⟩:Addr).add (a_i gf2 1)))) fun a S=>Ro.wgo S (a_b (t:=(.int .i64)) (x:=x2.2.1) S rfl ty3 rfl rfl rfl (RepAt.add 1 (RepAt.st (t:=gf2) i0.at_)) fun a wD Y5 S=>?_);obtain ⟨rfl,fB⟩:=RepV.int Y5;refine Ro.dl2 S 2 (68,.bool (decide (x2.2.1 < 0))) (67,.bool (decide (x2.2.1 < 0))) fun a S=>?_;obtain rfl:=oi t1;refine Ro.wpList_nil ?_;exact ⟨rfl,S.su⟩
  ·rw [if_neg hc] at t1;rw [show W1 = true from (by simpa using hc)] at S;refine Ro.dl4 S 4 (68,.bool true) (67,undef) (66,undef) (65,undef) fun a S=>?_;obtain rfl:=oi t1;refine Ro.wpList_nil ?_;exact ⟨rfl,S.su⟩
 clear S t1;rintro a _ ⟨rfl,S⟩;refine Ro.dl1 S 1 (69,.bool X1) fun a S=>?_;obtain ⟨Y1,P0,h⟩:=a_d h;refine Ro.seg 11 (fun a_ w_=>Y3 = w_ ∧ St 269 a_ [(80,.bool Y1),(11,ji 0),(10,ji a0.2),(9,b0),(8,ji o0.2),(7,ji o0.1),(5,pB c0),(3,pB d0),(1,v1)]) ?_ ?_
 ·by_cases hc:X1 = false
  ·rw [if_pos hc] at P0;rw [hc] at S;refine Ro.dl1 S 1 (70,.pointer (some ((⟨c0,0,.none⟩:Addr).add (a_i gf2 1)))) fun a S=>Ro.wgo S (a_b (t:=(.int .i64)) (x:=x2.2.1) S rfl ty3 rfl rfl rfl (RepAt.add 1 (RepAt.st (t:=gf2) i0.at_)) fun a CD b6 S=>?_);obtain ⟨rfl,gB⟩:=RepV.int b6;refine Ro.dl1 S 1 (72,.pointer (some ((⟨d0,0,.none⟩:Addr).add (a_i gf9 0)))) fun a S=>Ro.wgo S (a_b (t:=(.sl gt8)) (x:=x0.1) S rfl ty22 rfl rfl rfl (RepAt.add 0 (RepAt.st (t:=gf9) h0.at_)) fun a GD d6 S=>Ro.dl1 S 1 (74,.pointer (some ((⟨c0,0,.none⟩:Addr).add (a_i gf2 0)))) fun a S=>Ro.wgo S (a_b (t:=(.int .i64)) (x:=x2.1) S rfl ty3 rfl rfl rfl (RepAt.add 0 (RepAt.st (t:=gf2) i0.at_)) fun a KD g6 S=>?_));obtain ⟨rfl,hB⟩:=RepV.int g6;obtain ⟨b4,N6,P0⟩:=a_d P0;refine Ro.wgo S (a_e S rfl ty22 rfl rfl rfl d6 rfl N6 fun a k8 h6 BB S=>Ro.dl1 S 1 (77,.pointer (some (k8.add (a_i gf8 7)))) fun a S=>Ro.wgo S (a_b (t:=(.int .i64)) (x:=b4.2.2.2.2.2.2.2.1) S rfl ty3 rfl rfl rfl (RepAt.add 7 (RepAt.st (t:=gf8) h6)) fun a VD i6 S=>?_));obtain ⟨rfl,iB⟩:=RepV.int i6;refine Ro.dl2 S 2 (80,.bool (decide (x2.2.1 ≥ b4.2.2.2.2.2.2.2.1))) (79,.bool (decide (x2.2.1 ≥ b4.2.2.2.2.2.2.2.1))) fun a S=>?_;obtain rfl:=oi P0;refine Ro.wpList_nil ?_;exact ⟨rfl,S.su⟩
  ·rw [if_neg hc] at P0;rw [show X1 = true from (by simpa using hc)] at S;refine Ro.dl8 S 8 (77,undef) (76,undef) (75,undef) (74,undef) (73,undef) (72,undef) (71,undef) (70,undef) fun a S=>Ro.dl3 S 3 (80,.bool true) (79,undef) (78,undef) fun a S=>?_;obtain rfl:=oi P0;refine Ro.wpList_nil ?_;exact ⟨rfl,S.su⟩
 clear S P0;rintro a _ ⟨rfl,S⟩;refine Ro.dl1 S 1 (52,.bool Y1) fun a S=>Ro.wpList_nil ?_;refine a_a ?_;replace S:=S.su (l':=[(52,.bool Y1),(11,ji 0),(10,ji a0.2),(9,b0),(8,ji o0.2),(7,ji o0.1),(5,pB c0),(3,pB d0),(1,v1)]);refine wcs Y1 S rfl (dzp h) fun hc=>?_;rw [if_neg (bf hc)] at h;refine ws ?_;obtain ⟨L0,P6,h⟩:=a_d h;obtain ⟨w0,E6,h⟩:=a_d h;have hR:Rel (Kw K w [b0.ownBlock,some c0,some d0]) Bl:=Bl.rel _;refine a_T hR [a_w (.sl (.int .u8)) (Kw K w [b0.ownBlock,some c0,some d0]) x1,isI .i64 (a_l x1),a_w gt9 (Kw K w [b0.ownBlock,some c0,some d0]) x0,eqv (.pointer (some ((⟨d0,0,.none⟩:Addr).add (a_i gf9 0)))),a_w (.sl gt8) (Kw K w [b0.ownBlock,some c0,some d0]) x0.1,eqv (.pointer (some ((⟨c0,0,.none⟩:Addr).add (a_i gf2 0)))),isI .i64 x2.1,c_p gt8 (Kw K w [b0.ownBlock,some c0,some d0]) L0,a_w gt8 (Kw K w [b0.ownBlock,some c0,some d0]) L0,isI .i64 w0,eqv (.bool ((a_l x1) != w0)),eqv (.bool ((a_l x1) != w0))] [[],[(0,82)],[],[],[(3,85)],[],[(5,87)],[(4,86),(6,88)],[(7,89)],[(2,84),(8,90)],[(1,83),(9,91)],[(10,92)]] (by kernel_rfl) (by rw [S.size];kernel_rfl) (by kernel_rfl) (by kernel_rfl) rfl ⟨(a_A hR),a_m,(a_A hR),(a_h _),(a_A hR),(a_h _),a_m,(b_V hR),(a_A hR),a_m,(a_h _),(a_h _),trivial⟩ ?_ ?_
 ·
  refine RunAll.cons (a_w (.sl (.int .u8)) (Kw K w [b0.ownBlock,some c0,some d0]) x1) [] rfl rfl ?_ ?_
  ·intro W_ hW;have S1:=S;replace R1:=R1.step hW;exact RPost.o1 tys_ok (v:=v1) S1 S rfl (by kernel_rfl) R1
  refine RunAll.cons (isI .i64 (a_l x1)) [(a_w (.sl (.int .u8)) (Kw K w [b0.ownBlock,some c0,some d0]) x1,82)] rfl rfl ?_ ?_
  ·intro W_ hW;have S1:=S;intro GA Q3;replace Q3:RepV _ _ _ _ _:=Q3;replace S1:=S1.pt 82 (GA) rfl;refine a_c S1 fun a_ S1=>?_;replace W:=W.step hW;have S0:=S.defers;replace S:=S1;clear S1;refine wgo S (a_t (K:=_) S rfl ty26 rfl rfl rfl Q3 fun a h5 S=>wn ?_);exact RPost.mk_ S rfl S0 ⟨rfl,h5⟩ (Below.refl _ _)
  refine RunAll.cons (a_w gt9 (Kw K w [b0.ownBlock,some c0,some d0]) x0) [] rfl rfl ?_ ?_
  ·intro W_ hW;have S1:=S;refine a_c S1 fun a_ S1=>?_;replace h0:=h0.step hW;have S0:=S.defers;replace S:=S1;clear S1;refine wgo S (a_b (t:=gt9) (x:=x0) S rfl ty25 rfl rfl rfl h0.at_ fun a bC l5 S=>wn ?_);exact RPost.mk_ S rfl S0 l5 (Below.refl _ _)
  refine RunAll.cons (eqv (.pointer (some ((⟨d0,0,.none⟩:Addr).add (a_i gf9 0))))) [] rfl rfl ?_ ?_
  ·intro W_ hW;have S1:=S;replace h0:=h0.step hW;exact RPost.o1 tys_ok (v:=.pointer (some ((⟨d0,0,.none⟩:Addr).add (a_i gf9 0)))) S1 S rfl (by kernel_rfl) rfl
  refine RunAll.cons (a_w (.sl gt8) (Kw K w [b0.ownBlock,some c0,some d0]) x0.1) [(eqv (.pointer (some ((⟨d0,0,.none⟩:Addr).add (a_i gf9 0)))),85)] rfl rfl ?_ ?_
  ·intro W_ hW;have S1:=S;rintro _ rfl;replace S1:=S1.pt 85 (.pointer (some ((⟨d0,0,.none⟩:Addr).add (a_i gf9 0)))) rfl;refine a_c S1 fun a_ S1=>?_;replace h0:=h0.step hW;have S0:=S.defers;replace S:=S1;clear S1;refine wgo S (a_b (t:=(.sl gt8)) (x:=x0.1) S rfl ty22 rfl rfl rfl (RepAt.add 0 (RepAt.st (t:=gf9) h0.at_)) fun a iC r5 S=>wn ?_);exact RPost.mk_ S rfl S0 r5 (Below.refl _ _)
  refine RunAll.cons (eqv (.pointer (some ((⟨c0,0,.none⟩:Addr).add (a_i gf2 0))))) [] rfl rfl ?_ ?_
  ·intro W_ hW;have S1:=S;replace i0:=i0.step hW;exact RPost.o1 tys_ok (v:=.pointer (some ((⟨c0,0,.none⟩:Addr).add (a_i gf2 0)))) S1 S rfl (by kernel_rfl) rfl
  refine RunAll.cons (isI .i64 x2.1) [(eqv (.pointer (some ((⟨c0,0,.none⟩:Addr).add (a_i gf2 0)))),87)] rfl rfl ?_ ?_
  ·intro W_ hW;have S1:=S;rintro _ rfl;replace S1:=S1.pt 87 (.pointer (some ((⟨c0,0,.none⟩:Addr).add (a_i gf2 0)))) rfl;refine a_c S1 fun a_ S1=>?_;replace i0:=i0.step hW;have S0:=S.defers;replace S:=S1;clear S1;refine wgo S (a_b (t:=(.int .i64)) (x:=x2.1) S rfl ty3 rfl rfl rfl (RepAt.add 0 (RepAt.st (t:=gf2) i0.at_)) fun a kC s5 S=>?_);obtain ⟨rfl,L4⟩:=RepV.int s5;refine wn ?_;exact RPost.mk_ S rfl S0 ⟨rfl,L4⟩ (Below.refl _ _)
  refine RunAll.cons (c_p gt8 (Kw K w [b0.ownBlock,some c0,some d0]) L0) [(a_w (.sl gt8) (Kw K w [b0.ownBlock,some c0,some d0]) x0.1,86),(isI .i64 x2.1,88)] rfl rfl ?_ ?_
  ·intro W_ hW;have S1:=S;intro y8 B2;replace B2:RepV _ _ _ _ _:=B2;replace S1:=S1.pt 86 (y8) rfl;rintro _ ⟨rfl,EB⟩;replace S1:=S1.pt 88 (ji x2.1) rfl;refine a_c S1 fun a_ S1=>?_;replace W:=W.step hW;have S0:=S.defers;replace S:=S1;clear S1;refine wgo S (a_e S rfl ty22 rfl rfl rfl B2 rfl P6 fun a XB t5 i5 S=>wn ?_);exact RPost.mk_ S rfl S0 ⟨_,rfl,t5,i5⟩ (Below.refl _ _)
  refine RunAll.cons (a_w gt8 (Kw K w [b0.ownBlock,some c0,some d0]) L0) [(c_p gt8 (Kw K w [b0.ownBlock,some c0,some d0]) L0,89)] rfl rfl ?_ ?_
  ·intro W_ hW;have S1:=S;rintro _ ⟨f8,rfl,u5,uB⟩;replace S1:=S1.pt 89 (.pointer (some f8)) rfl;refine a_c S1 fun a_ S1=>?_;have S0:=S.defers;replace S:=S1;clear S1;refine wgo S (a_b (t:=gt8) (x:=L0) S rfl ty46 rfl rfl rfl u5 fun a mC v5 S=>wn ?_);exact RPost.mk_ S rfl S0 v5 (Below.refl _ _)
  refine RunAll.cons (isI .i64 w0) [(a_w gt9 (Kw K w [b0.ownBlock,some c0,some d0]) x0,84),(a_w gt8 (Kw K w [b0.ownBlock,some c0,some d0]) L0,90)] rfl rfl ?_ ?_
  ·intro W_ hW;have S1:=S;intro t4 C2;replace C2:RepV _ _ _ _ _:=C2;replace S1:=S1.pt 84 (t4) rfl;intro u4 D2;replace D2:RepV _ _ _ _ _:=D2;replace S1:=S1.pt 90 (u4) rfl;refine a_c S1 fun a_ S1=>?_;replace W:=W.step hW;have S0:=S.defers;replace S:=S1;clear S1;refine wgo S (a_k (vs:=[t4,u4]) S rfl cb14 rfl rfl rfl (c14 (Kw K w [b0.ownBlock,some c0,some d0]) n W_ x0 _ C2 L0 _ D2 E6) ?_);rintro _ vE ⟨nC,rfl,e2,X7⟩;refine ⟨_,rfl,?_⟩;replace e2:=RepV.back e2 W;clear S;intro a S;obtain ⟨rfl,M4⟩:=RepV.int e2;refine wn ?_;exact RPost.mk_ S rfl S0 ⟨rfl,M4⟩ (X7)
  refine RunAll.cons (eqv (.bool ((a_l x1) != w0))) [(isI .i64 (a_l x1),83),(isI .i64 w0,91)] rfl rfl ?_ ?_
  ·intro W_ hW;have S1:=S;rintro _ ⟨rfl,FB⟩;replace S1:=S1.pt 83 (ji (a_l x1)) rfl;rintro _ ⟨rfl,GB⟩;replace S1:=S1.pt 91 (ji w0) rfl;exact RPost.o1 tys_ok (v:=.bool ((a_l x1) != w0)) S1 S rfl (by kernel_rfl) rfl
  refine RunAll.cons (eqv (.bool ((a_l x1) != w0))) [(eqv (.bool ((a_l x1) != w0)),92)] rfl rfl ?_ ?_
  ·intro W_ hW;have S1:=S;rintro _ rfl;replace S1:=S1.pt 92 (.bool ((a_l x1) != w0)) rfl;exact RPost.o1 tys_ok (v:=.bool ((a_l x1) != w0)) S1 S rfl (by kernel_rfl) rfl
  exact trivial
 intro wE D1;refine EndE.some_ rfl ?_;intro z8 h4;replace h4:RepV _ _ _ _ _:=h4;replace S:=S.pt 82 (z8) rfl;refine EndE.some_ rfl ?_;rintro _ ⟨rfl,HB⟩;replace S:=S.pt 83 (ji (a_l x1)) rfl;refine EndE.some_ rfl ?_;intro A8 i4;replace i4:RepV _ _ _ _ _:=i4;replace S:=S.pt 84 (A8) rfl;refine EndE.some_ rfl ?_;rintro _ rfl;replace S:=S.pt 85 (.pointer (some ((⟨d0,0,.none⟩:Addr).add (a_i gf9 0)))) rfl;refine EndE.some_ rfl ?_;intro B8 j4;replace j4:RepV _ _ _ _ _:=j4;replace S:=S.pt 86 (B8) rfl;refine EndE.some_ rfl ?_;rintro _ rfl;replace S:=S.pt 87 (.pointer (some ((⟨c0,0,.none⟩:Addr).add (a_i gf2 0)))) rfl;refine EndE.some_ rfl ?_;rintro _ ⟨rfl,IB⟩;replace S:=S.pt 88 (ji x2.1) rfl;refine EndE.some_ rfl ?_;rintro _ ⟨g8,rfl,CB,vB⟩;replace S:=S.pt 89 (.pointer (some g8)) rfl;refine EndE.some_ rfl ?_;intro C8 k4;replace k4:RepV _ _ _ _ _:=k4;replace S:=S.pt 90 (C8) rfl;refine EndE.some_ rfl ?_;rintro _ ⟨rfl,JB⟩;replace S:=S.pt 91 (ji w0) rfl;refine EndE.some_ rfl ?_;rintro _ rfl;replace S:=S.pt 92 (.bool ((a_l x1) != w0)) rfl;refine EndE.some_ rfl ?_;rintro _ rfl;replace S:=S.pt 81 (.bool ((a_l x1) != w0)) rfl;refine a_0 S fun a S=>?_;replace R1:=R1.step D1;replace h0:=h0.step D1;replace i0:=i0.step D1;replace l0:=l0.step D1;replace W:=W.step D1;refine a_a ?_;replace S:=S.su (l':=[(81,.bool ((a_l x1) != w0)),(11,ji 0),(10,ji a0.2),(9,b0),(8,ji o0.2),(7,ji o0.1),(5,pB c0),(3,pB d0),(1,v1)]);refine wcs ((a_l x1) != w0) S rfl (dzp h) fun hc=>?_;rw [if_neg (bf hc)] at h;refine ws ?_;refine a_Q 16 (by kernel_rfl) (by kernel_rfl) (by repeat (first | with_reducible exact a_2 | with_reducible refine a_3 ?_ | with_reducible refine b_l ?_)) ?_;intro KA F1;replace R1:=R1.step F1;replace h0:=h0.step F1;replace i0:=i0.step F1;replace l0:=l0.step F1;replace W:=W.step F1;refine Ro.dl1 S 1 (94,.pointer (some ((⟨d0,0,.none⟩:Addr).add (a_i gf9 2)))) fun a S=>Ro.wgo S (a_b (t:=.bool) (x:=x0.2.2) S rfl ty4 rfl rfl rfl (RepAt.add 2 (RepAt.st (t:=gf9) h0.at_)) fun a oC w5 S=>?_);obtain rfl:=RepV.bool w5;refine Ro.dl1 S 1 (96,.bool x0.2.2) fun a S=>?_;obtain ⟨U1,G0,h⟩:=a_d h;refine Ro.seg 12 (fun a_ w_=>KA = w_ ∧ St 269 a_ [(108,.bool U1),(11,ji 0),(10,ji a0.2),(9,b0),(8,ji o0.2),(7,ji o0.1),(5,pB c0),(3,pB d0),(1,v1)]) ?_ ?_
 ·by_cases hc:x0.2.2 = true
  ·rw [if_pos hc] at G0;rw [hc] at S;refine Ro.dl1 S 1 (97,v1) fun a S=>?_;obtain ⟨Z3,K6,G0⟩:=a_d G0;refine Ro.wgo S (a_e S rfl ty26 rfl rfl rfl R1 rfl K6 fun a YB x5 wB S=>Ro.wgo S (a_b (t:=(.int .u8)) (x:=Z3) S rfl ty5 rfl rfl rfl x5 fun a pC y5 S=>?_));obtain ⟨rfl,XA⟩:=RepV.int y5;refine Ro.dl1 S 1 (100,.pointer (some ((⟨d0,0,.none⟩:Addr).add (a_i gf9 0)))) fun a S=>Ro.wgo S (a_b (t:=(.sl gt8)) (x:=x0.1) S rfl ty22 rfl rfl rfl (RepAt.add 0 (RepAt.st (t:=gf9) h0.at_)) fun a qC z5 S=>Ro.dl1 S 1 (102,.pointer (some ((⟨c0,0,.none⟩:Addr).add (a_i gf2 0)))) fun a S=>Ro.wgo S (a_b (t:=(.int .i64)) (x:=x2.1) S rfl ty3 rfl rfl rfl (RepAt.add 0 (RepAt.st (t:=gf2) i0.at_)) fun a rC A5 S=>?_));obtain ⟨rfl,YA⟩:=RepV.int A5;obtain ⟨a4,L6,G0⟩:=a_d G0;refine Ro.wgo S (a_e S rfl ty22 rfl rfl rfl z5 rfl L6 fun a h8 B5 xB S=>Ro.dl1 S 1 (105,.pointer (some (h8.add (a_i gf8 1)))) fun a S=>Ro.wgo S (a_b (t:=(.int .u8)) (x:=a4.2.1) S rfl ty5 rfl rfl rfl (RepAt.add 1 (RepAt.st (t:=gf8) B5)) fun a sC C5 S=>?_));obtain ⟨rfl,ZA⟩:=RepV.int C5;refine Ro.dl2 S 2 (108,.bool (Z3 != a4.2.1)) (107,.bool (Z3 != a4.2.1)) fun a S=>?_;obtain rfl:=oi G0;refine Ro.wpList_nil ?_;exact ⟨rfl,S.su⟩
  ·rw [if_neg hc] at G0;rw [show x0.2.2 = false from Bool.eq_false_iff.2 hc] at S;refine Ro.dl8 S 8 (104,undef) (103,undef) (102,undef) (101,undef) (100,undef) (99,undef) (98,undef) (97,undef) fun a S=>Ro.dl4 S 4 (108,.bool false) (107,undef) (106,undef) (105,undef) fun a S=>?_;obtain rfl:=oi G0;refine Ro.wpList_nil ?_;exact ⟨rfl,S.su⟩
 clear S G0;rintro a _ ⟨rfl,S⟩;refine Ro.dl1 S 1 (93,.bool U1) fun a S=>Ro.wpList_nil ?_;refine a_a ?_;replace S:=S.su (l':=[(93,.bool U1),(11,ji 0),(10,ji a0.2),(9,b0),(8,ji o0.2),(7,ji o0.1),(5,pB c0),(3,pB d0),(1,v1)]);refine wcs U1 S rfl (dzp h) fun hc=>?_;rw [if_neg (bf hc)] at h;refine wp_skip ?_;refine a_N ?_;refine a_a ?_;replace S:=S.su (l':=[(11,ji 0),(10,ji a0.2),(9,b0),(8,ji o0.2),(7,ji o0.1),(5,pB c0),(3,pB d0),(1,v1)]);refine ws (ws ?_);obtain ⟨m0,v6,h⟩:=a_d h;obtain ⟨n0,w6,h⟩:=a_d h;obtain ⟨W0,L1,h⟩:=a_d h;have e4:((!(m0 == n0)) = false → (o0.2 != 0) = W0) ∧ (¬ (!(m0 == n0)) = false → true = W0):=by
  by_cases hc:(!(m0 == n0)) = false
  ·rw [if_pos hc] at L1;exact ⟨fun _=>oi L1,fun k_=>absurd hc k_⟩
  ·rw [if_neg hc] at L1;exact ⟨fun k_=>absurd k_ hc,fun _=>oi L1⟩
 have hR:Rel (Kw K w [b0.ownBlock,some c0,some d0]) Bl:=Bl.rel _;refine a_T hR [a_w gt9 (Kw K w [b0.ownBlock,some c0,some d0]) x0,eqv (.bool m0),a_w gt9 (Kw K w [b0.ownBlock,some c0,some d0]) x0,eqv (.bool n0),eqv (.bool (!(m0 == n0))),eqv (.bool (!(m0 == n0))),cndF (!(m0 == n0)) false (isI .i64 o0.2),cndF (!(m0 == n0)) false (eqv (ji 0)),cndF (!(m0 == n0)) false (eqv (.bool (o0.2 != 0))),eqv (.bool W0)] [[],[(0,109)],[],[(2,111)],[(1,110),(3,112)],[(4,113)],[(5,114)],[(5,114)],[(6,115),(7,116),(5,114)],[(5,114),(8,117)]] (by kernel_rfl) (by rw [S.size];kernel_rfl) (by kernel_rfl) (by kernel_rfl) rfl ⟨(a_A hR),(a_h _),(a_A hR),(a_h _),(a_h _),(a_h _),(a_g a_m),(a_g (a_h _)),(a_g (a_h _)),(a_h _),trivial⟩ ?_ ?_
 ·
  refine RunAll.cons (a_w gt9 (Kw K w [b0.ownBlock,some c0,some d0]) x0) [] rfl rfl ?_ ?_
  ·intro W_ hW;have S1:=S;refine a_c S1 fun a_ S1=>?_;replace h0:=h0.step hW;have S0:=S.defers;replace S:=S1;clear S1;refine wgo S (a_b (t:=gt9) (x:=x0) S rfl ty25 rfl rfl rfl h0.at_ fun a uC D5 S=>wn ?_);exact RPost.mk_ S rfl S0 D5 (Below.refl _ _)
  refine RunAll.cons (eqv (.bool m0)) [(a_w gt9 (Kw K w [b0.ownBlock,some c0,some d0]) x0,109)] rfl rfl ?_ ?_
  ·intro W_ hW;have S1:=S;intro v4 E2;replace E2:RepV _ _ _ _ _:=E2;replace S1:=S1.pt 109 (v4) rfl;refine a_c S1 fun a_ S1=>?_;replace W:=W.step hW;have S0:=S.defers;replace S:=S1;clear S1;refine wgo S (a_k (vs:=[v4]) S rfl cb15 rfl rfl rfl (c15 (Kw K w [b0.ownBlock,some c0,some d0]) n W_ x0 _ E2 v6) ?_);rintro _ xE ⟨vC,rfl,h2,Y7⟩;refine ⟨_,rfl,?_⟩;replace h2:=RepV.back h2 W;clear S;intro a S;obtain rfl:=RepV.bool h2;refine wn ?_;exact RPost.mk_ S rfl S0 rfl (Y7)
  refine RunAll.cons (a_w gt9 (Kw K w [b0.ownBlock,some c0,some d0]) x0) [] rfl rfl ?_ ?_
  ·intro W_ hW;have S1:=S;refine a_c S1 fun a_ S1=>?_;replace h0:=h0.step hW;have S0:=S.defers;replace S:=S1;clear S1;refine wgo S (a_b (t:=gt9) (x:=x0) S rfl ty25 rfl rfl rfl h0.at_ fun a wC F5 S=>wn ?_);exact RPost.mk_ S rfl S0 F5 (Below.refl _ _)
  refine RunAll.cons (eqv (.bool n0)) [(a_w gt9 (Kw K w [b0.ownBlock,some c0,some d0]) x0,111)] rfl rfl ?_ ?_
  ·intro W_ hW;have S1:=S;intro w4 F2;replace F2:RepV _ _ _ _ _:=F2;replace S1:=S1.pt 111 (w4) rfl;refine a_c S1 fun a_ S1=>?_;replace W:=W.step hW;have S0:=S.defers;replace S:=S1;clear S1;refine wgo S (a_k (vs:=[w4]) S rfl cb13 rfl rfl rfl (c13 (Kw K w [b0.ownBlock,some c0,some d0]) n W_ x0 _ F2 w6) ?_);rintro _ yE ⟨xC,rfl,i2,Z7⟩;refine ⟨_,rfl,?_⟩;replace i2:=RepV.back i2 W;clear S;intro a S;obtain rfl:=RepV.bool i2;refine wn ?_;exact RPost.mk_ S rfl S0 rfl (Z7)
  refine RunAll.cons (eqv (.bool (!(m0 == n0)))) [(eqv (.bool m0),110),(eqv (.bool n0),112)] rfl rfl ?_ ?_
  ·intro W_ hW;have S1:=S;rintro _ rfl;replace S1:=S1.pt 110 (.bool m0) rfl;rintro _ rfl;replace S1:=S1.pt 112 (.bool n0) rfl;exact RPost.o1 tys_ok (v:=.bool (!(m0 == n0))) S1 S rfl (by kernel_rfl) rfl
  refine RunAll.cons (eqv (.bool (!(m0 == n0)))) [(eqv (.bool (!(m0 == n0))),113)] rfl rfl ?_ ?_
  ·intro W_ hW;have S1:=S;rintro _ rfl;replace S1:=S1.pt 113 (.bool (!(m0 == n0))) rfl;exact RPost.o1 tys_ok (v:=.bool (!(m0 == n0))) S1 S rfl (by kernel_rfl) rfl
  refine RunAll.cons (cndF (!(m0 == n0)) false (isI .i64 o0.2)) [(eqv (.bool (!(m0 == n0))),114)] rfl rfl ?_ ?_
  ·intro W_ hW;by_cases hc0:(!(m0 == n0)) = false
   ·have hl0:(!(m0 == n0)) = false:=hc0;have S1:=S;rintro _ rfl;replace S1:=S1.pt 114 (.bool (!(m0 == n0))) rfl;refine a_c S1 fun a_ S1=>?_;rw [show (!(m0 == n0)) = false from hl0] at S1;exact RPost.o1 tys_ok (v:=ji o0.2) S1 S rfl (by kernel_rfl) ⟨fun _=>⟨rfl,P4⟩,fun k_=>absurd hc0 k_⟩
   ·have hl0:(!(m0 == n0)) = true:=(by simpa using hc0);have S1:=S;rintro _ rfl;replace S1:=S1.pt 114 (.bool (!(m0 == n0))) rfl;refine a_c S1 fun a_ S1=>?_;rw [show (!(m0 == n0)) = true from hl0] at S1;exact RPost.o1 tys_ok (v:=undef) S1 S rfl (by kernel_rfl) ⟨fun k_=>absurd k_ hc0,fun _=>rfl⟩
  refine RunAll.cons (cndF (!(m0 == n0)) false (eqv (ji 0))) [(eqv (.bool (!(m0 == n0))),114)] rfl rfl ?_ ?_
  ·intro W_ hW;by_cases hc0:(!(m0 == n0)) = false
   ·have hl0:(!(m0 == n0)) = false:=hc0;have S1:=S;rintro _ rfl;replace S1:=S1.pt 114 (.bool (!(m0 == n0))) rfl;refine a_c S1 fun a_ S1=>?_;rw [show (!(m0 == n0)) = false from hl0] at S1;exact RPost.o1 tys_ok (v:=ji 0) S1 S rfl (by kernel_rfl) ⟨fun _=>rfl,fun k_=>absurd hc0 k_⟩
   ·have hl0:(!(m0 == n0)) = true:=(by simpa using hc0);have S1:=S;rintro _ rfl;replace S1:=S1.pt 114 (.bool (!(m0 == n0))) rfl;refine a_c S1 fun a_ S1=>?_;rw [show (!(m0 == n0)) = true from hl0] at S1;exact RPost.o1 tys_ok (v:=undef) S1 S rfl (by kernel_rfl) ⟨fun k_=>absurd k_ hc0,fun _=>rfl⟩
  refine RunAll.cons (cndF (!(m0 == n0)) false (eqv (.bool (o0.2 != 0)))) [(cndF (!(m0 == n0)) false (isI .i64 o0.2),115),(cndF (!(m0 == n0)) false (eqv (ji 0)),116),(eqv (.bool (!(m0 == n0))),114)] rfl rfl ?_ ?_
  ·intro W_ hW;by_cases hc0:(!(m0 == n0)) = false
   ·have hl0:(!(m0 == n0)) = false:=hc0;have S1:=S;intro E8 G2;replace G2:=cndF.pos G2 hc0
    revert G2
    revert E8
    rintro _ ⟨rfl,KB⟩;replace S1:=S1.pt 115 (ji o0.2) rfl;intro F8 H2;replace H2:=cndF.pos H2 hc0
    revert H2
    revert F8
    rintro _ rfl;replace S1:=S1.pt 116 (ji 0) rfl;rintro _ rfl;replace S1:=S1.pt 114 (.bool (!(m0 == n0))) rfl;refine a_c S1 fun a_ S1=>?_;rw [show (!(m0 == n0)) = false from hl0] at S1;exact RPost.o1 tys_ok (v:=.bool (o0.2 != 0)) S1 S rfl (by kernel_rfl) ⟨fun _=>rfl,fun k_=>absurd hc0 k_⟩
   ·have hl0:(!(m0 == n0)) = true:=(by simpa using hc0);have S1:=S;intro zC R6;obtain rfl:=cndF.neg R6 hc0;replace S1:=S1.pt 115 (undef) rfl;intro AC S6;obtain rfl:=cndF.neg S6 hc0;replace S1:=S1.pt 116 (undef) rfl;rintro _ rfl;replace S1:=S1.pt 114 (.bool (!(m0 == n0))) rfl;refine a_c S1 fun a_ S1=>?_;rw [show (!(m0 == n0)) = true from hl0] at S1;exact RPost.o1 tys_ok (v:=undef) S1 S rfl (by kernel_rfl) ⟨fun k_=>absurd k_ hc0,fun _=>rfl⟩
  refine RunAll.cons (eqv (.bool W0)) [(eqv (.bool (!(m0 == n0))),114),(cndF (!(m0 == n0)) false (eqv (.bool (o0.2 != 0))),117)] rfl rfl ?_ ?_
  ·intro W_ hW;by_cases hc0:(!(m0 == n0)) = false
   ·have hl0:(!(m0 == n0)) = false:=hc0;have S1:=S;rintro _ rfl;replace S1:=S1.pt 114 (.bool (!(m0 == n0))) rfl;intro G8 I2;replace I2:=cndF.pos I2 hc0
    revert I2
    revert G8
    rintro _ rfl;replace S1:=S1.pt 117 (.bool (o0.2 != 0)) rfl;refine a_c S1 fun a_ S1=>?_;rw [show (!(m0 == n0)) = false from hl0] at S1;exact RPost.o1 tys_ok (v:=.bool (o0.2 != 0)) S1 S rfl (by kernel_rfl) (congrArg Value.bool ((e4).1 hc0))
   ·have hl0:(!(m0 == n0)) = true:=(by simpa using hc0);have S1:=S;rintro _ rfl;replace S1:=S1.pt 114 (.bool (!(m0 == n0))) rfl;intro CC T6;obtain rfl:=cndF.neg T6 hc0;replace S1:=S1.pt 117 (undef) rfl;refine a_c S1 fun a_ S1=>?_;rw [show (!(m0 == n0)) = true from hl0] at S1;exact RPost.o1 tys_ok (v:=.bool true) S1 S rfl (by kernel_rfl) (congrArg Value.bool ((e4).2 hc0))
  exact trivial
 intro zE G1;refine EndE.some_ rfl ?_;intro H8 l4;replace l4:RepV _ _ _ _ _:=l4;replace S:=S.pt 109 (H8) rfl;refine EndE.some_ rfl ?_;rintro _ rfl;replace S:=S.pt 110 (.bool m0) rfl;refine EndE.some_ rfl ?_;intro I8 m4;replace m4:RepV _ _ _ _ _:=m4;replace S:=S.pt 111 (I8) rfl;refine EndE.some_ rfl ?_;rintro _ rfl;replace S:=S.pt 112 (.bool n0) rfl;refine EndE.some_ rfl ?_;rintro _ rfl;replace S:=S.pt 113 (.bool (!(m0 == n0))) rfl;refine EndE.some_ rfl ?_;rintro _ rfl;replace S:=S.pt 114 (.bool (!(m0 == n0))) rfl;refine EndE.some_ rfl ?_;intro J8 _;replace S:=S.pt 115 (J8) rfl;refine EndE.some_ rfl ?_;intro K8 _;replace S:=S.pt 116 (K8) rfl;refine EndE.some_ rfl ?_;intro L8 _;replace S:=S.pt 117 (L8) rfl;refine EndE.some_ rfl ?_;rintro _ rfl;replace S:=S.pt 118 (.bool W0) rfl;refine a_0 S fun a S=>?_;replace R1:=R1.step G1;replace h0:=h0.step G1;replace i0:=i0.step G1;replace l0:=l0.step G1;replace W:=W.step G1;refine a_a ?_;replace S:=S.su (l':=[(118,.bool W0),(11,ji 0),(10,ji a0.2),(9,b0),(7,ji o0.1),(5,pB c0),(3,pB d0),(1,v1)]);refine wcs W0 S rfl (dzp h) fun hc=>?_;rw [if_neg (bf hc)] at h;refine wp_skip (a_a ?_);replace S:=S.su (l':=[(11,ji 0),(10,ji a0.2),(9,b0),(7,ji o0.1),(5,pB c0),(3,pB d0),(1,v1)]);refine ws (ws (wr ?_));refine dl2 S 2 (120,.bool (0 != 0)) (119,ji 0) fun a S=>wn (a_a ?_);replace S:=S.su (l':=[(120,.bool (0 != 0)),(11,ji 0),(10,ji a0.2),(9,b0),(7,ji o0.1),(5,pB c0),(3,pB d0),(1,v1)]);refine wcs (0 != 0) S rfl (dzp h) fun hc=>?_;rw [if_neg (bf hc)] at h;refine wp_skip (a_a ?_);replace S:=S.su (l':=[(10,ji a0.2),(9,b0),(7,ji o0.1),(5,pB c0),(3,pB d0),(1,v1)]);refine ws (wr ?_);refine dl1 S 1 (136,.pointer (some ((⟨d0,0,.none⟩:Addr).add (a_i gf9 0)))) fun a S=>wgo S (a_b (t:=(.sl gt8)) (x:=x0.1) S rfl ty22 rfl rfl rfl (RepAt.add 0 (RepAt.st (t:=gf9) h0.at_)) fun a EC m1 S=>dl1 S 1 (138,.pointer (some ((⟨c0,0,.none⟩:Addr).add (a_i gf2 0)))) fun a S=>wgo S (a_b (t:=(.int .i64)) (x:=x2.1) S rfl ty3 rfl rfl rfl (RepAt.add 0 (RepAt.st (t:=gf2) i0.at_)) fun a FC H5 S=>?_));obtain ⟨rfl,bB⟩:=RepV.int H5;obtain ⟨r0,M6,h⟩:=a_d h;refine wgo S (a_e S rfl ty22 rfl rfl rfl m1 rfl M6 fun a ZB I5 yB S=>wgo S (a_b (t:=gt8) (x:=r0) S rfl ty46 rfl rfl rfl I5 fun a GC n1 S=>wgo S (a_x (K:=K) (n:=w.heap.size) (L:=[b0.ownBlock,some c0,some d0]) (t:=gt8) (y:=(0,0,0,⟨[],some 0⟩,0,0,0,0,0,false,false,false,false)) S rfl rfl rfl _ z46 (fun w K=>⟨[.int .u8 0],[.int .u8 0,ji 0,.slice .none 0 0,ji 0,ji 0,ji 0,ji 0,ji 0,.bool false,.bool false,.bool false,.bool false],rfl,⟨rfl,by decide⟩,⟨[.int .u8 0],[ji 0,.slice .none 0 0,ji 0,ji 0,ji 0,ji 0,ji 0,.bool false,.bool false,.bool false,.bool false],rfl,⟨rfl,by decide⟩,⟨[ji 0],[.slice .none 0 0,ji 0,ji 0,ji 0,ji 0,ji 0,.bool false,.bool false,.bool false,.bool false],rfl,⟨rfl,by decide⟩,⟨[.slice .none 0 0],[ji 0,ji 0,ji 0,ji 0,ji 0,.bool false,.bool false,.bool false,.bool false],rfl,⟨.none,0,0,rfl,rfl,Nat.le_refl _,by decide,fun k h=>oi h,.inl rfl⟩,⟨[ji 0],[ji 0,ji 0,ji 0,ji 0,.bool false,.bool false,.bool false,.bool false],rfl,⟨rfl,by decide⟩,⟨[ji 0],[ji 0,ji 0,ji 0,.bool false,.bool false,.bool false,.bool false],rfl,⟨rfl,by decide⟩,⟨[ji 0],[ji 0,ji 0,.bool false,.bool false,.bool false,.bool false],rfl,⟨rfl,by decide⟩,⟨[ji 0],[ji 0,.bool false,.bool false,.bool false,.bool false],rfl,⟨rfl,by decide⟩,⟨[ji 0],[.bool false,.bool false,.bool false,.bool false],rfl,⟨rfl,by decide⟩,⟨[.bool false],[.bool false,.bool false,.bool false],rfl,rfl,⟨[.bool false],[.bool false,.bool false],rfl,rfl,⟨[.bool false],[.bool false],rfl,rfl,rfl⟩⟩⟩⟩⟩⟩⟩⟩⟩⟩⟩⟩) fun a AE k0 T0 p0 S=>?_)));replace R1:=R1.box T0;replace m1:=m1.box T0;replace n1:=n1.box T0;replace h0:=h0.box T0;replace i0:=i0.box T0;replace l0:=l0.box T0;replace W:=W.box T0;refine wgo S (a_o (t':=gt8) S rfl rfl ty46 rfl rfl rfl p0 (by simp) Ln.whole n1 ?_);intro E4 V0 B_;replace R1:=R1.wrote V0 (by simp);replace m1:=m1.wrote V0 (by simp);replace n1:=n1.wrote V0 (by simp);replace h0:=h0.wrote V0 (by simp) (W.b_ 3 0 (by decide) rfl rfl);replace i0:=i0.wrote V0 (by simp) (W.b_ 2 0 (by decide) rfl rfl);replace l0:=l0.wrote V0 (by simp) (W.one (p:=1) (q:=0) (by decide) rfl rfl);replace W:=W.wrote V0 (by simp);replace p0:Bx gt8 46 E4 (Kw K w [some k0,b0.ownBlock,some c0,some d0]) k0 r0:=B_;clear B_;refine wn (a_a ?_);replace S:=S.su (l':=[(12,pB k0),(10,ji a0.2),(9,b0),(7,ji o0.1),(5,pB c0),(3,pB d0),(1,v1)]);refine ws (ws (wr ?_));refine dl1 S 1 (142,ji o0.1) fun a S=>wgo S (a_b (t:=gt9) (x:=x0) S rfl ty25 rfl rfl rfl h0.at_ fun a M8 l2 S=>wgo S (a_b (t:=gt8) (x:=r0) S rfl ty46 rfl rfl rfl p0.at_ fun a N8 m2 S=>dl2 S 2 (146,.pointer (some ((⟨c0,0,.none⟩:Addr).add (a_i gf2 1)))) (145,v1) fun a S=>wgo S (a_b (t:=(.int .i64)) (x:=x2.2.1) S rfl ty3 rfl rfl rfl (RepAt.add 1 (RepAt.st (t:=gf2) i0.at_)) fun a HC J5 S=>?_)));obtain ⟨rfl,Q4⟩:=RepV.int J5;obtain ⟨q4,y6,h⟩:=a_d h;refine wgo S (a_k (vs:=[M8,N8,v1,ji x2.2.1]) S rfl cb16 rfl rfl rfl (c16 (Kw K w [some k0,b0.ownBlock,some c0,some d0]) n E4 x0 _ l2 r0 _ m2 x1 _ R1 x2.2.1 Q4 y6) ?_);rintro _ MA ⟨IC,rfl,n2,J0⟩;refine ⟨_,rfl,?_⟩;replace n2:=RepV.back n2 W;clear S;intro a S;replace R1:=R1.step J0;replace l2:=l2.step J0;replace m2:=m2.step J0;replace h0:=h0.step J0;replace i0:=i0.step J0;replace p0:=p0.step J0;replace l0:=l0.step J0;replace W:=W.step J0;obtain ⟨rfl,cB⟩:=RepV.int n2;refine dl1 S 1 (149,.bool (o0.1 != q4)) fun a S=>wn (a_a ?_);refine wcs (o0.1 != q4) S rfl (dzp h) fun hc=>?_;rw [if_neg (bf hc)] at h;refine wp_skip (a_a ?_);replace S:=S.su (l':=[(12,pB k0),(10,ji a0.2),(9,b0),(5,pB c0),(3,pB d0),(1,v1)]);refine ws (ws (wr ?_));refine wgo S (a_b (t:=gt8) (x:=r0) S rfl ty46 rfl rfl rfl p0.at_ fun a O8 o2 S=>dl1 S 1 (151,.pointer (some ((⟨c0,0,.none⟩:Addr).add (a_i gf2 2)))) fun a S=>wgo S (a_b (t:=(.int .i64)) (x:=x2.2.2) S rfl ty3 rfl rfl rfl (RepAt.add 2 (RepAt.st (t:=gf2) i0.at_)) fun a JC K5 S=>?_));obtain ⟨rfl,R4⟩:=RepV.int K5;obtain ⟨r4,z6,h⟩:=a_d h;refine wgo S (a_k (vs:=[O8,ji x2.2.2]) S rfl cb17 rfl rfl rfl (c17 (Kw K w [some k0,b0.ownBlock,some c0,some d0]) n MA r0 _ o2 x2.2.2 R4 z6) ?_);rintro _ F4 ⟨KC,rfl,p2,U0⟩;refine ⟨_,rfl,?_⟩;replace p2:=RepV.back p2 W;clear S;intro a S;replace R1:=R1.step U0;replace o2:=o2.step U0;replace h0:=h0.step U0;replace i0:=i0.step U0;replace p0:=p0.step U0;replace l0:=l0.step U0;replace W:=W.step U0;obtain rfl:=RepV.bool p2;refine dl1 S 1 (154,.bool (!r4)) fun a S=>wn (a_a ?_);refine wcs (!r4) S rfl ?_ ?_
 ·intro hc;rw [if_pos hc] at h;refine ws (wr ?_);refine dl3 S 3 (157,.bool (a0.2 == 1)) (156,.bool (a0.2 == 1)) (155,ji a0.2) fun a S=>?_;obtain ⟨V1,r1,h⟩:=a_d h;refine seg 4 (fun a_ w_=>F4 = w_ ∧ St 269 a_ [(161,.bool V1)]) ?_ ?_
  ·by_cases hc:(a0.2 == 1) = true
   ·rw [if_pos hc] at r1;rw [hc] at S;refine dl1 S 1 (158,b0) fun a S=>wgo S (a_t (K:=_) S rfl ty26 rfl rfl rfl l0.read fun a sB S=>dl2 S 2 (161,.bool ((a_l (⟨a0.1.xs,a0.1.cap⟩:Sl (Int))) == 0)) (160,.bool ((a_l (⟨a0.1.xs,a0.1.cap⟩:Sl (Int))) == 0)) fun a S=>?_);obtain rfl:=oi r1;exact ⟨rfl,S.su⟩
   ·rw [if_neg hc] at r1;rw [show (a0.2 == 1) = false from Bool.eq_false_iff.2 hc] at S;refine dl4 S 4 (161,.bool false) (160,undef) (159,undef) (158,undef) fun a S=>?_;obtain rfl:=oi r1;exact ⟨rfl,S.su⟩
  clear S r1;rintro a _ ⟨rfl,S⟩;refine dl1 S 1 (162,.bool V1) fun a S=>?_;obtain ⟨W3,O0,h⟩:=a_d h;refine seg 2 (fun a_ w_=>St 269 a_ [(164,.bool W3)] ∧ Wd w w_ [some k0,b0.ownBlock,some c0,some d0] ∧ Bx gt9 25 w_ (Kw K w [some k0,b0.ownBlock,some c0,some d0]) d0 x0 ∧ Bx gt2 39 w_ (Kw K w [some k0,b0.ownBlock,some c0,some d0]) c0 x2 ∧ Bx gt8 46 w_ (Kw K w [some k0,b0.ownBlock,some c0,some d0]) k0 r0) ?_ ?_
  ·by_cases hc:V1 = true
   ·rw [if_pos hc] at O0;rw [hc] at S;obtain ⟨m8,A6,O0⟩:=a_d O0;refine wgo S (a_k (vs:=[]) S rfl cb8 rfl rfl rfl (c8 (Kw K w [some k0,b0.ownBlock,some c0,some d0]) n F4  A6) ?_);rintro _ CE ⟨LC,rfl,r2,P1⟩;refine ⟨_,rfl,?_⟩;replace r2:=RepV.back r2 W;clear S;intro a S;replace h0:=h0.step P1;replace i0:=i0.step P1;replace p0:=p0.step P1;replace W:=W.step P1;obtain rfl:=RepV.bool r2;refine dl1 S 1 (164,.bool m8) fun a S=>?_;obtain rfl:=oi O0;exact ⟨S.su,W,h0,i0,p0⟩
   ·rw [if_neg hc] at O0;rw [show V1 = false from Bool.eq_false_iff.2 hc] at S;refine dl2 S 2 (164,.bool false) (163,undef) fun a S=>?_;obtain rfl:=oi O0;exact ⟨S.su,W,h0,i0,p0⟩
  clear S W O0;rintro a DE ⟨S,W,h0,i0,p0⟩;refine dl1 S 1 (6,.bool W3) fun a S=>wn (a_a ?_);replace S:=S.su (l':=[(6,.bool W3)]);refine wp_ret (a_Z ?_);obtain rfl:=oi h;exact a_I S rfl rfl ⟨_,rfl,RepV.mkBool,W.below⟩
 ·intro hc;rw [if_neg (bf hc)] at h;refine wp_skip (a_a ?_);replace S:=S.su (l':=[(12,pB k0),(10,ji a0.2),(9,b0),(5,pB c0),(3,pB d0),(1,v1)]);refine ws (ws ?_);obtain ⟨j0,M1,h⟩:=a_d h;have f4:((a0.2 != 0) = false → ((a_l (⟨a0.1.xs,a0.1.cap⟩:Sl (Int))) != (a_l x1)) = j0) ∧ (¬ (a0.2 != 0) = false → true = j0):=by
   by_cases hc:(a0.2 != 0) = false
   ·rw [if_pos hc] at M1;exact ⟨fun _=>oi M1,fun k_=>absurd hc k_⟩
   ·rw [if_neg hc] at M1;exact ⟨fun k_=>absurd k_ hc,fun _=>oi M1⟩
  obtain ⟨f0,b1,h⟩:=a_d h;obtain ⟨C0,K1⟩:∃ (C0:Int) ,(j0 = false → (capO (⟨a0.1.xs,a0.1.cap⟩:Sl (Int))) = some C0 ∧ (C0 != (a_l (⟨a0.1.xs,a0.1.cap⟩:Sl (Int)))) = f0) ∧ (¬ j0 = false → true = f0):=by
   by_cases hc:j0 = false
   ·rw [if_pos hc] at b1;obtain ⟨C0,N1,b1⟩:=a_d b1;exact ⟨C0,⟨fun _=>⟨N1,oi b1⟩,fun k_=>absurd hc k_⟩⟩
   ·rw [if_neg hc] at b1;exact ⟨default,⟨fun k_=>absurd k_ hc,fun _=>oi b1⟩⟩
  obtain ⟨g0,c1,h⟩:=a_d h;obtain ⟨z0,M0⟩:∃ (z0:(Int)) ,(f0 = false → (p16 n x0 r0 (⟨a0.1.xs,a0.1.cap⟩:Sl (Int)) x2.2.1) = some z0 ∧ (z0 != x2.2.2) = g0) ∧ (¬ f0 = false → true = g0):=by
   by_cases hc:f0 = false
   ·rw [if_pos hc] at c1;obtain ⟨z0,Q0,c1⟩:=a_d c1;exact ⟨z0,⟨fun _=>⟨Q0,oi c1⟩,fun k_=>absurd hc k_⟩⟩
   ·rw [if_neg hc] at c1;exact ⟨default,⟨fun k_=>absurd k_ hc,fun _=>oi c1⟩⟩
  obtain ⟨X0,d1,h⟩:=a_d h;obtain ⟨E0,H0⟩:∃ (E0:Bool) ,(g0 = false → (if x0.2.2 = true then (idx a0.1.xs 0).bind fun s0=>(idx x1.xs 0).bind fun t0=>some (s0 != t0) else some false) = some E0 ∧ E0 = X0) ∧ (¬ g0 = false → true = X0):=by
   by_cases hc:g0 = false
   ·rw [if_pos hc] at d1;obtain ⟨E0,y0,d1⟩:=a_d d1;exact ⟨E0,⟨fun _=>⟨y0,oi d1⟩,fun k_=>absurd hc k_⟩⟩
   ·rw [if_neg hc] at d1;exact ⟨default,⟨fun k_=>absurd k_ hc,fun _=>oi d1⟩⟩
  obtain ⟨s0,t0,Z0⟩:∃ (s0:Int) (t0:Int) ,(g0 = false → (x0.2.2 = true → (idx a0.1.xs 0) = some s0 ∧ (idx x1.xs 0) = some t0 ∧ (s0 != t0) = E0) ∧ (¬ x0.2.2 = true → false = E0)):=by
   by_cases ho3:g0 = false
   ·skip
    have y0:=(H0.1 ho3).1;by_cases hc:x0.2.2 = true
    ·rw [if_pos hc] at y0;obtain ⟨s0,g1,y0⟩:=a_d y0;obtain ⟨t0,h1,y0⟩:=a_d y0;exact ⟨s0,t0,fun _=>⟨fun _=>⟨g1,h1,oi y0⟩,fun k_=>absurd hc k_⟩⟩
    ·rw [if_neg hc] at y0;exact ⟨default,default,fun _=>⟨fun k_=>absurd k_ hc,fun _=>oi y0⟩⟩
   ·exact ⟨default,default,fun k_=>absurd k_ ho3⟩
  have hR:Rel (Kw K w [some k0,b0.ownBlock,some c0,some d0]) Bl:=Bl.rel _;refine a_T hR [isI .i64 a0.2,eqv (.bool (a0.2 != 0)),eqv (.bool (a0.2 != 0)),cndF (a0.2 != 0) false (eqv (b0)),cndF (a0.2 != 0) false (isI .i64 (a_l (⟨a0.1.xs,a0.1.cap⟩:Sl (Int)))),cndF (a0.2 != 0) false (a_w (.sl (.int .u8)) (Kw K w [some k0,b0.ownBlock,some c0,some d0]) x1),cndF (a0.2 != 0) false (isI .i64 (a_l x1)),cndF (a0.2 != 0) false (eqv (.bool ((a_l (⟨a0.1.xs,a0.1.cap⟩:Sl (Int))) != (a_l x1)))),eqv (.bool j0),eqv (.bool j0),cndF j0 false (eqv (b0)),cndF j0 false (isI .i64 C0),cndF j0 false (eqv (b0)),cndF j0 false (isI .i64 (a_l (⟨a0.1.xs,a0.1.cap⟩:Sl (Int)))),cndF j0 false (eqv (.bool (C0 != (a_l (⟨a0.1.xs,a0.1.cap⟩:Sl (Int)))))),eqv (.bool f0),eqv (.bool f0),cndF f0 false (a_w gt9 (Kw K w [some k0,b0.ownBlock,some c0,some d0]) x0),cndF f0 false (a_w gt8 (Kw K w [some k0,b0.ownBlock,some c0,some d0]) r0),cndF f0 false (eqv (b0)),cndF f0 false (eqv (.pointer (some ((⟨c0,0,.none⟩:Addr).add (a_i gf2 1))))),cndF f0 false (isI .i64 x2.2.1),cndF f0 false (isI .i64 z0),cndF f0 false (eqv (.pointer (some ((⟨c0,0,.none⟩:Addr).add (a_i gf2 2))))),cndF f0 false (isI .i64 x2.2.2),cndF f0 false (eqv (.bool (z0 != x2.2.2))),eqv (.bool g0),eqv (.bool g0),cndF g0 false (eqv (.pointer (some ((⟨d0,0,.none⟩:Addr).add (a_i gf9 2))))),cndF g0 false (eqv (.bool x0.2.2)),cndF g0 false (eqv (.bool x0.2.2)),cndF g0 false (cndF x0.2.2 true (eqv (b0))),cndF g0 false (cndF x0.2.2 true (c_q (.int .u8) (Kw K w [some k0,b0.ownBlock,some c0,some d0]) s0)),cndF g0 false (cndF x0.2.2 true (isI .u8 s0)),cndF g0 false (cndF x0.2.2 true (a_w (.sl (.int .u8)) (Kw K w [some k0,b0.ownBlock,some c0,some d0]) x1)),cndF g0 false (cndF x0.2.2 true (c_p (.int .u8) (Kw K w [some k0,b0.ownBlock,some c0,some d0]) t0)),cndF g0 false (cndF x0.2.2 true (isI .u8 t0)),cndF g0 false (cndF x0.2.2 true (eqv (.bool (s0 != t0)))),cndF g0 false (eqv (.bool E0)),eqv (.bool X0)] [[],[(0,165)],[(1,166)],[(2,167)],[(3,168),(2,167)],[(2,167)],[(5,170),(2,167)],[(4,169),(6,171),(2,167)],[(2,167),(7,172)],[(8,173)],[(9,174)],[(10,175),(9,174)],[(9,174)],[(12,177),(9,174)],[(11,176),(13,178),(9,174)],[(9,174),(14,179)],[(15,180)],[(16,181)],[(16,181)],[(16,181)],[(16,181)],[(20,185),(16,181)],[(17,182),(18,183),(19,184),(21,186),(16,181)],[(16,181)],[(23,188),(16,181)],[(22,187),(24,189),(16,181)],[(16,181),(25,190)],[(26,191)],[(27,192)],[(28,193),(27,192)],[(29,194),(27,192)],[(30,195)],[(31,196),(30,195)],[(32,197),(30,195)],[(30,195)],[(34,199),(30,195)],[(35,200),(30,195)],[(33,198),(36,201),(30,195)],[(30,195),(37,202),(27,192)],[(27,192),(38,203)]] (by kernel_rfl) (by rw [S.size];kernel_rfl) (by kernel_rfl) (by kernel_rfl) rfl ⟨a_m,(a_h _),(a_h _),(a_g (a_h _)),(a_g a_m),(a_g (a_A hR)),(a_g a_m),(a_g (a_h _)),(a_h _),(a_h _),(a_g (a_h _)),(a_g a_m),(a_g (a_h _)),(a_g a_m),(a_g (a_h _)),(a_h _),(a_h _),(a_g (a_A hR)),(a_g (a_A hR)),(a_g (a_h _)),(a_g (a_h _)),(a_g a_m),(a_g a_m),(a_g (a_h _)),(a_g a_m),(a_g (a_h _)),(a_h _),(a_h _),(a_g (a_h _)),(a_g (a_h _)),(a_g (a_h _)),(a_g (a_g (a_h _))),(a_g (a_g b_W)),(a_g (a_g a_m)),(a_g (a_g (a_A hR))),(a_g (a_g (b_V hR))),(a_g (a_g a_m)),(a_g (a_g (a_h _))),(a_g (a_h _)),(a_h _),trivial⟩ ?_ ?_
  ·
   refine RunAll.cons (isI .i64 a0.2) [] rfl rfl ?_ ?_
   ·intro W_ hW;have S1:=S;exact RPost.o1 tys_ok (v:=ji a0.2) S1 S rfl (by kernel_rfl) ⟨rfl,V4⟩
   refine RunAll.cons (eqv (.bool (a0.2 != 0))) [(isI .i64 a0.2,165)] rfl rfl ?_ ?_
   ·intro W_ hW;have S1:=S;rintro _ ⟨rfl,LB⟩;replace S1:=S1.pt 165 (ji a0.2) rfl;exact RPost.o1 tys_ok (v:=.bool (a0.2 != 0)) S1 S rfl (by kernel_rfl) rfl
   refine RunAll.cons (eqv (.bool (a0.2 != 0))) [(eqv (.bool (a0.2 != 0)),166)] rfl rfl ?_ ?_
   ·intro W_ hW;have S1:=S;rintro _ rfl;replace S1:=S1.pt 166 (.bool (a0.2 != 0)) rfl;exact RPost.o1 tys_ok (v:=.bool (a0.2 != 0)) S1 S rfl (by kernel_rfl) rfl
   refine RunAll.cons (cndF (a0.2 != 0) false (eqv (b0))) [(eqv (.bool (a0.2 != 0)),167)] rfl rfl ?_ ?_
   ·intro W_ hW;by_cases hc0:(a0.2 != 0) = false
    ·have hl0:(a0.2 != 0) = false:=hc0;have S1:=S;rintro _ rfl;replace S1:=S1.pt 167 (.bool (a0.2 != 0)) rfl;refine a_c S1 fun a_ S1=>?_;replace l0:=l0.step hW;rw [show (a0.2 != 0) = false from hl0] at S1;exact RPost.o1 tys_ok (v:=b0) S1 S rfl (by kernel_rfl) ⟨fun _=>rfl,fun k_=>absurd hc0 k_⟩
    ·have hl0:(a0.2 != 0) = true:=(by simpa using hc0);have S1:=S;rintro _ rfl;replace S1:=S1.pt 167 (.bool (a0.2 != 0)) rfl;refine a_c S1 fun a_ S1=>?_;rw [show (a0.2 != 0) = true from hl0] at S1;exact RPost.o1 tys_ok (v:=undef) S1 S rfl (by kernel_rfl) ⟨fun k_=>absurd k_ hc0,fun _=>rfl⟩
   refine RunAll.cons (cndF (a0.2 != 0) false (isI .i64 (a_l (⟨a0.1.xs,a0.1.cap⟩:Sl (Int))))) [(cndF (a0.2 != 0) false (eqv (b0)),168),(eqv (.bool (a0.2 != 0)),167)] rfl rfl ?_ ?_
   ·intro W_ hW;by_cases hc0:(a0.2 != 0) = false
    ·have hl0:(a0.2 != 0) = false:=hc0;have S1:=S;intro Q8 J2;replace J2:=cndF.pos J2 hc0
     revert J2
     revert Q8
     intro R8 U6;obtain rfl:b0 = R8:=Eq.symm U6;replace S1:=S1.pt 168 (b0) rfl;rintro _ rfl;replace S1:=S1.pt 167 (.bool (a0.2 != 0)) rfl;refine a_c S1 fun a_ S1=>?_;replace l0:=l0.step hW;replace W:=W.step hW;rw [show (a0.2 != 0) = false from hl0] at S1;have S0:=S.defers;replace S:=S1;clear S1;refine wgo S (a_t (K:=_) S rfl ty26 rfl rfl rfl l0.read fun a d5 S=>wn ?_);exact RPost.mk_ S rfl S0 ⟨fun _=>⟨rfl,d5⟩,fun k_=>absurd hc0 k_⟩ (Below.refl _ _)
    ·have hl0:(a0.2 != 0) = true:=(by simpa using hc0);have S1:=S;intro PC V6;obtain rfl:=cndF.neg V6 hc0;replace S1:=S1.pt 168 (undef) rfl;rintro _ rfl;replace S1:=S1.pt 167 (.bool (a0.2 != 0)) rfl;refine a_c S1 fun a_ S1=>?_;rw [show (a0.2 != 0) = true from hl0] at S1;exact RPost.o1 tys_ok (v:=undef) S1 S rfl (by kernel_rfl) ⟨fun k_=>absurd k_ hc0,fun _=>rfl⟩
   refine RunAll.cons (cndF (a0.2 != 0) false (a_w (.sl (.int .u8)) (Kw K w [some k0,b0.ownBlock,some c0,some d0]) x1)) [(eqv (.bool (a0.2 != 0)),167)] rfl rfl ?_ ?_
   ·intro W_ hW;by_cases hc0:(a0.2 != 0) = false
    ·have hl0:(a0.2 != 0) = false:=hc0;have S1:=S;rintro _ rfl;replace S1:=S1.pt 167 (.bool (a0.2 != 0)) rfl;refine a_c S1 fun a_ S1=>?_;replace R1:=R1.step hW;rw [show (a0.2 != 0) = false from hl0] at S1;exact RPost.o1 tys_ok (v:=v1) S1 S rfl (by kernel_rfl) ⟨fun _=>R1,fun k_=>absurd hc0 k_⟩
    ·have hl0:(a0.2 != 0) = true:=(by simpa using hc0);have S1:=S;rintro _ rfl;replace S1:=S1.pt 167 (.bool (a0.2 != 0)) rfl;refine a_c S1 fun a_ S1=>?_;rw [show (a0.2 != 0) = true from hl0] at S1;exact RPost.o1 tys_ok (v:=undef) S1 S rfl (by kernel_rfl) ⟨fun k_=>absurd k_ hc0,fun _=>rfl⟩
   refine RunAll.cons (cndF (a0.2 != 0) false (isI .i64 (a_l x1))) [(cndF (a0.2 != 0) false (a_w (.sl (.int .u8)) (Kw K w [some k0,b0.ownBlock,some c0,some d0]) x1),170),(eqv (.bool (a0.2 != 0)),167)] rfl rfl ?_ ?_
   ·intro W_ hW;by_cases hc0:(a0.2 != 0) = false
    ·have hl0:(a0.2 != 0) = false:=hc0;have S1:=S;intro S8 K2;replace K2:=cndF.pos K2 hc0
     revert K2
     revert S8
     intro T8 L2;replace L2:RepV _ _ _ _ _:=L2;replace S1:=S1.pt 170 (T8) rfl;rintro _ rfl;replace S1:=S1.pt 167 (.bool (a0.2 != 0)) rfl;refine a_c S1 fun a_ S1=>?_;replace W:=W.step hW;rw [show (a0.2 != 0) = false from hl0] at S1;have S0:=S.defers;replace S:=S1;clear S1;refine wgo S (a_t (K:=_) S rfl ty26 rfl rfl rfl L2 fun a e5 S=>wn ?_);exact RPost.mk_ S rfl S0 ⟨fun _=>⟨rfl,e5⟩,fun k_=>absurd hc0 k_⟩ (Below.refl _ _)
    ·have hl0:(a0.2 != 0) = true:=(by simpa using hc0);have S1:=S;intro QC W6;obtain rfl:=cndF.neg W6 hc0;replace S1:=S1.pt 170 (undef) rfl;rintro _ rfl;replace S1:=S1.pt 167 (.bool (a0.2 != 0)) rfl;refine a_c S1 fun a_ S1=>?_;rw [show (a0.2 != 0) = true from hl0] at S1;exact RPost.o1 tys_ok (v:=undef) S1 S rfl (by kernel_rfl) ⟨fun k_=>absurd k_ hc0,fun _=>rfl⟩
   refine RunAll.cons (cndF (a0.2 != 0) false (eqv (.bool ((a_l (⟨a0.1.xs,a0.1.cap⟩:Sl (Int))) != (a_l x1))))) [(cndF (a0.2 != 0) false (isI .i64 (a_l (⟨a0.1.xs,a0.1.cap⟩:Sl (Int)))),169),(cndF (a0.2 != 0) false (isI .i64 (a_l x1)),171),(eqv (.bool (a0.2 != 0)),167)] rfl rfl ?_ ?_
   ·intro W_ hW;by_cases hc0:(a0.2 != 0) = false
    ·have hl0:(a0.2 != 0) = false:=hc0;have S1:=S;intro U8 M2;replace M2:=cndF.pos M2 hc0
     revert M2
     revert U8
     rintro _ ⟨rfl,MB⟩;replace S1:=S1.pt 169 (ji (a_l (⟨a0.1.xs,a0.1.cap⟩:Sl (Int)))) rfl;intro V8 N2;replace N2:=cndF.pos N2 hc0
     revert N2
     revert V8
     rintro _ ⟨rfl,NB⟩;replace S1:=S1.pt 171 (ji (a_l x1)) rfl;rintro _ rfl;replace S1:=S1.pt 167 (.bool (a0.2 != 0)) rfl;refine a_c S1 fun a_ S1=>?_;rw [show (a0.2 != 0) = false from hl0] at S1;exact RPost.o1 tys_ok (v:=.bool ((a_l (⟨a0.1.xs,a0.1.cap⟩:Sl (Int))) != (a_l x1))) S1 S rfl (by kernel_rfl) ⟨fun _=>rfl,fun k_=>absurd hc0 k_⟩
    ·have hl0:(a0.2 != 0) = true:=(by simpa using hc0);have S1:=S;intro SC X6;obtain rfl:=cndF.neg X6 hc0;replace S1:=S1.pt 169 (undef) rfl;intro TC Y6;obtain rfl:=cndF.neg Y6 hc0;replace S1:=S1.pt 171 (undef) rfl;rintro _ rfl;replace S1:=S1.pt 167 (.bool (a0.2 != 0)) rfl;refine a_c S1 fun a_ S1=>?_;rw [show (a0.2 != 0) = true from hl0] at S1;exact RPost.o1 tys_ok (v:=undef) S1 S rfl (by kernel_rfl) ⟨fun k_=>absurd k_ hc0,fun _=>rfl⟩
   refine RunAll.cons (eqv (.bool j0)) [(eqv (.bool (a0.2 != 0)),167),(cndF (a0.2 != 0) false (eqv (.bool ((a_l (⟨a0.1.xs,a0.1.cap⟩:Sl (Int))) != (a_l x1)))),172)] rfl rfl ?_ ?_
   ·intro W_ hW;by_cases hc0:(a0.2 != 0) = false
    ·have hl0:(a0.2 != 0) = false:=hc0;have S1:=S;rintro _ rfl;replace S1:=S1.pt 167 (.bool (a0.2 != 0)) rfl;intro W8 O2;replace O2:=cndF.pos O2 hc0
     revert O2
     revert W8
     rintro _ rfl;replace S1:=S1.pt 172 (.bool ((a_l (⟨a0.1.xs,a0.1.cap⟩:Sl (Int))) != (a_l x1))) rfl;refine a_c S1 fun a_ S1=>?_;rw [show (a0.2 != 0) = false from hl0] at S1;exact RPost.o1 tys_ok (v:=.bool ((a_l (⟨a0.1.xs,a0.1.cap⟩:Sl (Int))) != (a_l x1))) S1 S rfl (by kernel_rfl) (congrArg Value.bool ((f4).1 hc0))
    ·have hl0:(a0.2 != 0) = true:=(by simpa using hc0);have S1:=S;rintro _ rfl;replace S1:=S1.pt 167 (.bool (a0.2 != 0)) rfl;intro UC Z6;obtain rfl:=cndF.neg Z6 hc0;replace S1:=S1.pt 172 (undef) rfl;refine a_c S1 fun a_ S1=>?_;rw [show (a0.2 != 0) = true from hl0] at S1;exact RPost.o1 tys_ok (v:=.bool true) S1 S rfl (by kernel_rfl) (congrArg Value.bool ((f4).2 hc0))
   refine RunAll.cons (eqv (.bool j0)) [(eqv (.bool j0),173)] rfl rfl ?_ ?_
   ·intro W_ hW;have S1:=S;rintro _ rfl;replace S1:=S1.pt 173 (.bool j0) rfl;exact RPost.o1 tys_ok (v:=.bool j0) S1 S rfl (by kernel_rfl) rfl
   refine RunAll.cons (cndF j0 false (eqv (b0))) [(eqv (.bool j0),174)] rfl rfl ?_ ?_
   ·intro W_ hW;by_cases hc1:j0 = false
    ·have hl1:j0 = false:=hc1;have S1:=S;rintro _ rfl;replace S1:=S1.pt 174 (.bool j0) rfl;refine a_c S1 fun a_ S1=>?_;replace l0:=l0.step hW;rw [show j0 = false from hl1] at S1;exact RPost.o1 tys_ok (v:=b0) S1 S rfl (by kernel_rfl) ⟨fun _=>rfl,fun k_=>absurd hc1 k_⟩
    ·have hl1:j0 = true:=(by simpa using hc1);have S1:=S;rintro _ rfl;replace S1:=S1.pt 174 (.bool j0) rfl;refine a_c S1 fun a_ S1=>?_;rw [show j0 = true from hl1] at S1;exact RPost.o1 tys_ok (v:=undef) S1 S rfl (by kernel_rfl) ⟨fun k_=>absurd k_ hc1,fun _=>rfl⟩
   refine RunAll.cons (cndF j0 false (isI .i64 C0)) [(cndF j0 false (eqv (b0)),175),(eqv (.bool j0),174)] rfl rfl ?_ ?_
   ·intro W_ hW;by_cases hc1:j0 = false
    ·have hl1:j0 = false:=hc1;have S1:=S;intro X8 P2;replace P2:=cndF.pos P2 hc1
     revert P2
     revert X8
     intro Y8 a7;obtain rfl:b0 = Y8:=Eq.symm a7;replace S1:=S1.pt 175 (b0) rfl;rintro _ rfl;replace S1:=S1.pt 174 (.bool j0) rfl;refine a_c S1 fun a_ S1=>?_;replace l0:=l0.step hW;replace W:=W.step hW;rw [show j0 = false from hl1] at S1;have S0:=S.defers;replace S:=S1;clear S1;obtain ⟨N1,_⟩:=(K1).1 hc1;refine wgo S (op_cap (K:=_) S rfl ty26 rfl rfl rfl l0.read N1 fun a f5 S=>wn ?_);exact RPost.mk_ S rfl S0 ⟨fun _=>⟨rfl,f5⟩,fun k_=>absurd hc1 k_⟩ (Below.refl _ _)
    ·have hl1:j0 = true:=(by simpa using hc1);have S1:=S;intro VC b7;obtain rfl:=cndF.neg b7 hc1;replace S1:=S1.pt 175 (undef) rfl;rintro _ rfl;replace S1:=S1.pt 174 (.bool j0) rfl;refine a_c S1 fun a_ S1=>?_;rw [show j0 = true from hl1] at S1;exact RPost.o1 tys_ok (v:=undef) S1 S rfl (by kernel_rfl) ⟨fun k_=>absurd k_ hc1,fun _=>rfl⟩
   refine RunAll.cons (cndF j0 false (eqv (b0))) [(eqv (.bool j0),174)] rfl rfl ?_ ?_
   ·intro W_ hW;by_cases hc1:j0 = false
    ·have hl1:j0 = false:=hc1;have S1:=S;rintro _ rfl;replace S1:=S1.pt 174 (.bool j0) rfl;refine a_c S1 fun a_ S1=>?_;replace l0:=l0.step hW;rw [show j0 = false from hl1] at S1;exact RPost.o1 tys_ok (v:=b0) S1 S rfl (by kernel_rfl) ⟨fun _=>rfl,fun k_=>absurd hc1 k_⟩
    ·have hl1:j0 = true:=(by simpa using hc1);have S1:=S;rintro _ rfl;replace S1:=S1.pt 174 (.bool j0) rfl;refine a_c S1 fun a_ S1=>?_;rw [show j0 = true from hl1] at S1;exact RPost.o1 tys_ok (v:=undef) S1 S rfl (by kernel_rfl) ⟨fun k_=>absurd k_ hc1,fun _=>rfl⟩
   refine RunAll.cons (cndF j0 false (isI .i64 (a_l (⟨a0.1.xs,a0.1.cap⟩:Sl (Int))))) [(cndF j0 false (eqv (b0)),177),(eqv (.bool j0),174)] rfl rfl ?_ ?_
   ·intro W_ hW;by_cases hc1:j0 = false
    ·have hl1:j0 = false:=hc1;have S1:=S;intro Z8 Q2;replace Q2:=cndF.pos Q2 hc1
     revert Q2
     revert Z8
     intro a9 d7;obtain rfl:b0 = a9:=Eq.symm d7;replace S1:=S1.pt 177 (b0) rfl;rintro _ rfl;replace S1:=S1.pt 174 (.bool j0) rfl;refine a_c S1 fun a_ S1=>?_;replace l0:=l0.step hW;replace W:=W.step hW;rw [show j0 = false from hl1] at S1;have S0:=S.defers;replace S:=S1;clear S1;obtain ⟨N1,_⟩:=(K1).1 hc1;refine wgo S (a_t (K:=_) S rfl ty26 rfl rfl rfl l0.read fun a g5 S=>wn ?_);exact RPost.mk_ S rfl S0 ⟨fun _=>⟨rfl,g5⟩,fun k_=>absurd hc1 k_⟩ (Below.refl _ _)
    ·have hl1:j0 = true:=(by simpa using hc1);have S1:=S;intro WC e7;obtain rfl:=cndF.neg e7 hc1;replace S1:=S1.pt 177 (undef) rfl;rintro _ rfl;replace S1:=S1.pt 174 (.bool j0) rfl;refine a_c S1 fun a_ S1=>?_;rw [show j0 = true from hl1] at S1;exact RPost.o1 tys_ok (v:=undef) S1 S rfl (by kernel_rfl) ⟨fun k_=>absurd k_ hc1,fun _=>rfl⟩
   refine RunAll.cons (cndF j0 false (eqv (.bool (C0 != (a_l (⟨a0.1.xs,a0.1.cap⟩:Sl (Int))))))) [(cndF j0 false (isI .i64 C0),176),(cndF j0 false (isI .i64 (a_l (⟨a0.1.xs,a0.1.cap⟩:Sl (Int)))),178),(eqv (.bool j0),174)] rfl rfl ?_ ?_
   ·intro W_ hW;by_cases hc1:j0 = false
    ·have hl1:j0 = false:=hc1;have S1:=S;intro b9 S2;replace S2:=cndF.pos S2 hc1
     revert S2
     revert b9
     rintro _ ⟨rfl,OB⟩;replace S1:=S1.pt 176 (ji C0) rfl;intro d9 T2;replace T2:=cndF.pos T2 hc1
     revert T2
     revert d9
     rintro _ ⟨rfl,PB⟩;replace S1:=S1.pt 178 (ji (a_l (⟨a0.1.xs,a0.1.cap⟩:Sl (Int)))) rfl;rintro _ rfl;replace S1:=S1.pt 174 (.bool j0) rfl;refine a_c S1 fun a_ S1=>?_;rw [show j0 = false from hl1] at S1;exact RPost.o1 tys_ok (v:=.bool (C0 != (a_l (⟨a0.1.xs,a0.1.cap⟩:Sl (Int))))) S1 S rfl (by kernel_rfl) ⟨fun _=>rfl,fun k_=>absurd hc1 k_⟩
    ·have hl1:j0 = true:=(by simpa using hc1);have S1:=S;intro XC f7;obtain rfl:=cndF.neg f7 hc1;replace S1:=S1.pt 176 (undef) rfl;intro YC g7;obtain rfl:=cndF.neg g7 hc1;replace S1:=S1.pt 178 (undef) rfl;rintro _ rfl;replace S1:=S1.pt 174 (.bool j0) rfl;refine a_c S1 fun a_ S1=>?_;rw [show j0 = true from hl1] at S1;exact RPost.o1 tys_ok (v:=undef) S1 S rfl (by kernel_rfl) ⟨fun k_=>absurd k_ hc1,fun _=>rfl⟩
   refine RunAll.cons (eqv (.bool f0)) [(eqv (.bool j0),174),(cndF j0 false (eqv (.bool (C0 != (a_l (⟨a0.1.xs,a0.1.cap⟩:Sl (Int)))))),179)] rfl rfl ?_ ?_
   ·intro W_ hW;by_cases hc1:j0 = false
    ·have hl1:j0 = false:=hc1;have S1:=S;rintro _ rfl;replace S1:=S1.pt 174 (.bool j0) rfl;intro e9 U2;replace U2:=cndF.pos U2 hc1
     revert U2
     revert e9
     rintro _ rfl;replace S1:=S1.pt 179 (.bool (C0 != (a_l (⟨a0.1.xs,a0.1.cap⟩:Sl (Int))))) rfl;refine a_c S1 fun a_ S1=>?_;rw [show j0 = false from hl1] at S1;exact RPost.o1 tys_ok (v:=.bool (C0 != (a_l (⟨a0.1.xs,a0.1.cap⟩:Sl (Int))))) S1 S rfl (by kernel_rfl) (congrArg Value.bool ((K1).1 hc1).2)
    ·have hl1:j0 = true:=(by simpa using hc1);have S1:=S;rintro _ rfl;replace S1:=S1.pt 174 (.bool j0) rfl;intro ZC h7;obtain rfl:=cndF.neg h7 hc1;replace S1:=S1.pt 179 (undef) rfl;refine a_c S1 fun a_ S1=>?_;rw [show j0 = true from hl1] at S1;exact RPost.o1 tys_ok (v:=.bool true) S1 S rfl (by kernel_rfl) (congrArg Value.bool ((K1).2 hc1))
   refine RunAll.cons (eqv (.bool f0)) [(eqv (.bool f0),180)] rfl rfl ?_ ?_
   ·intro W_ hW;have S1:=S;rintro _ rfl;replace S1:=S1.pt 180 (.bool f0) rfl;exact RPost.o1 tys_ok (v:=.bool f0) S1 S rfl (by kernel_rfl) rfl
   refine RunAll.cons (cndF f0 false (a_w gt9 (Kw K w [some k0,b0.ownBlock,some c0,some d0]) x0)) [(eqv (.bool f0),181)] rfl rfl ?_ ?_
   ·intro W_ hW;by_cases hc2:f0 = false
    ·have hl2:f0 = false:=hc2;have S1:=S;rintro _ rfl;replace S1:=S1.pt 181 (.bool f0) rfl;refine a_c S1 fun a_ S1=>?_;replace h0:=h0.step hW;rw [show f0 = false from hl2] at S1;have S0:=S.defers;replace S:=S1;clear S1;obtain ⟨Q0,_⟩:=(M0).1 hc2;refine wgo S (a_b (t:=gt9) (x:=x0) S rfl ty25 rfl rfl rfl h0.at_ fun a aD O5 S=>wn ?_);exact RPost.mk_ S rfl S0 ⟨fun _=>O5,fun k_=>absurd hc2 k_⟩ (Below.refl _ _)
    ·have hl2:f0 = true:=(by simpa using hc2);have S1:=S;rintro _ rfl;replace S1:=S1.pt 181 (.bool f0) rfl;refine a_c S1 fun a_ S1=>?_;rw [show f0 = true from hl2] at S1;exact RPost.o1 tys_ok (v:=undef) S1 S rfl (by kernel_rfl) ⟨fun k_=>absurd k_ hc2,fun _=>rfl⟩
   refine RunAll.cons (cndF f0 false (a_w gt8 (Kw K w [some k0,b0.ownBlock,some c0,some d0]) r0)) [(eqv (.bool f0),181)] rfl rfl ?_ ?_
   ·intro W_ hW;by_cases hc2:f0 = false
    ·have hl2:f0 = false:=hc2;have S1:=S;rintro _ rfl;replace S1:=S1.pt 181 (.bool f0) rfl;refine a_c S1 fun a_ S1=>?_;replace p0:=p0.step hW;rw [show f0 = false from hl2] at S1;have S0:=S.defers;replace S:=S1;clear S1;obtain ⟨Q0,_⟩:=(M0).1 hc2;refine wgo S (a_b (t:=gt8) (x:=r0) S rfl ty46 rfl rfl rfl p0.at_ fun a cD P5 S=>wn ?_);exact RPost.mk_ S rfl S0 ⟨fun _=>P5,fun k_=>absurd hc2 k_⟩ (Below.refl _ _)
    ·have hl2:f0 = true:=(by simpa using hc2);have S1:=S;rintro _ rfl;replace S1:=S1.pt 181 (.bool f0) rfl;refine a_c S1 fun a_ S1=>?_;rw [show f0 = true from hl2] at S1;exact RPost.o1 tys_ok (v:=undef) S1 S rfl (by kernel_rfl) ⟨fun k_=>absurd k_ hc2,fun _=>rfl⟩
   refine RunAll.cons (cndF f0 false (eqv (b0))) [(eqv (.bool f0),181)] rfl rfl ?_ ?_
   ·intro W_ hW;by_cases hc2:f0 = false
    ·have hl2:f0 = false:=hc2;have S1:=S;rintro _ rfl;replace S1:=S1.pt 181 (.bool f0) rfl;refine a_c S1 fun a_ S1=>?_;replace l0:=l0.step hW;rw [show f0 = false from hl2] at S1;exact RPost.o1 tys_ok (v:=b0) S1 S rfl (by kernel_rfl) ⟨fun _=>rfl,fun k_=>absurd hc2 k_⟩
    ·have hl2:f0 = true:=(by simpa using hc2);have S1:=S;rintro _ rfl;replace S1:=S1.pt 181 (.bool f0) rfl;refine a_c S1 fun a_ S1=>?_;rw [show f0 = true from hl2] at S1;exact RPost.o1 tys_ok (v:=undef) S1 S rfl (by kernel_rfl) ⟨fun k_=>absurd k_ hc2,fun _=>rfl⟩
   refine RunAll.cons (cndF f0 false (eqv (.pointer (some ((⟨c0,0,.none⟩:Addr).add (a_i gf2 1)))))) [(eqv (.bool f0),181)] rfl rfl ?_ ?_
   ·intro W_ hW;by_cases hc2:f0 = false
    ·have hl2:f0 = false:=hc2;have S1:=S;rintro _ rfl;replace S1:=S1.pt 181 (.bool f0) rfl;refine a_c S1 fun a_ S1=>?_;replace i0:=i0.step hW;rw [show f0 = false from hl2] at S1;exact RPost.o1 tys_ok (v:=.pointer (some ((⟨c0,0,.none⟩:Addr).add (a_i gf2 1)))) S1 S rfl (by kernel_rfl) ⟨fun _=>rfl,fun k_=>absurd hc2 k_⟩
    ·have hl2:f0 = true:=(by simpa using hc2);have S1:=S;rintro _ rfl;replace S1:=S1.pt 181 (.bool f0) rfl;refine a_c S1 fun a_ S1=>?_;rw [show f0 = true from hl2] at S1;exact RPost.o1 tys_ok (v:=undef) S1 S rfl (by kernel_rfl) ⟨fun k_=>absurd k_ hc2,fun _=>rfl⟩
   refine RunAll.cons (cndF f0 false (isI .i64 x2.2.1)) [(cndF f0 false (eqv (.pointer (some ((⟨c0,0,.none⟩:Addr).add (a_i gf2 1))))),185),(eqv (.bool f0),181)] rfl rfl ?_ ?_
   ·intro W_ hW;by_cases hc2:f0 = false
    ·have hl2:f0 = false:=hc2;have S1:=S;intro f9 V2;replace V2:=cndF.pos V2 hc2
     revert V2
     revert f9
     rintro _ rfl;replace S1:=S1.pt 185 (.pointer (some ((⟨c0,0,.none⟩:Addr).add (a_i gf2 1)))) rfl;rintro _ rfl;replace S1:=S1.pt 181 (.bool f0) rfl;refine a_c S1 fun a_ S1=>?_;replace i0:=i0.step hW;rw [show f0 = false from hl2] at S1;have S0:=S.defers;replace S:=S1;clear S1;obtain ⟨Q0,_⟩:=(M0).1 hc2;refine wgo S (a_b (t:=(.int .i64)) (x:=x2.2.1) S rfl ty3 rfl rfl rfl (RepAt.add 1 (RepAt.st (t:=gf2) i0.at_)) fun a dD Q5 S=>?_);obtain ⟨rfl,W4⟩:=RepV.int Q5;refine wn ?_;exact RPost.mk_ S rfl S0 ⟨fun _=>⟨rfl,W4⟩,fun k_=>absurd hc2 k_⟩ (Below.refl _ _)
    ·have hl2:f0 = true:=(by simpa using hc2);have S1:=S;intro eD i7;obtain rfl:=cndF.neg i7 hc2;replace S1:=S1.pt 185 (undef) rfl;rintro _ rfl;replace S1:=S1.pt 181 (.bool f0) rfl;refine a_c S1 fun a_ S1=>?_;rw [show f0 = true from hl2] at S1;exact RPost.o1 tys_ok (v:=undef) S1 S rfl (by kernel_rfl) ⟨fun k_=>absurd k_ hc2,fun _=>rfl⟩
   refine RunAll.cons (cndF f0 false (isI .i64 z0)) [(cndF f0 false (a_w gt9 (Kw K w [some k0,b0.ownBlock,some c0,some d0]) x0),182),(cndF f0 false (a_w gt8 (Kw K w [some k0,b0.ownBlock,some c0,some d0]) r0),183),(cndF f0 false (eqv (b0)),184),(cndF f0 false (isI .i64 x2.2.1),186),(eqv (.bool f0),181)] rfl rfl ?_ ?_
   ·intro W_ hW;by_cases hc2:f0 = false
    ·have hl2:f0 = false:=hc2;have S1:=S;intro g9 W2;replace W2:=cndF.pos W2 hc2
     revert W2
     revert g9
     intro x4 X2;replace X2:RepV _ _ _ _ _:=X2;replace S1:=S1.pt 182 (x4) rfl;intro h9 Y2;replace Y2:=cndF.pos Y2 hc2
     revert Y2
     revert h9
     intro y4 Z2;replace Z2:RepV _ _ _ _ _:=Z2;replace S1:=S1.pt 183 (y4) rfl;intro i9 a3;replace a3:=cndF.pos a3 hc2
     revert a3
     revert i9
     intro j9 j7;obtain rfl:b0 = j9:=Eq.symm j7;replace S1:=S1.pt 184 (b0) rfl;intro k9 b3;replace b3:=cndF.pos b3 hc2
     revert b3
     revert k9
     rintro _ ⟨rfl,k7⟩;replace S1:=S1.pt 186 (ji x2.2.1) rfl;rintro _ rfl;replace S1:=S1.pt 181 (.bool f0) rfl;refine a_c S1 fun a_ S1=>?_;replace l0:=l0.step hW;replace W:=W.step hW;rw [show f0 = false from hl2] at S1;have S0:=S.defers;replace S:=S1;clear S1;obtain ⟨Q0,_⟩:=(M0).1 hc2;refine wgo S (a_k (vs:=[x4,y4,b0,ji x2.2.1]) S rfl cb16 rfl rfl rfl (c16 (Kw K w []) n W_ x0 _ X2.out r0 _ Z2.out (⟨a0.1.xs,a0.1.cap⟩:Sl (Int)) _ l0.read x2.2.1 k7 Q0) ?_);rintro _ FE ⟨fD,rfl,R5,b8⟩;refine ⟨_,rfl,?_⟩;clear S;intro a S;obtain ⟨rfl,X4⟩:=RepV.int R5;refine wn ?_;exact RPost.mk_ S rfl S0 ⟨fun _=>⟨rfl,X4⟩,fun k_=>absurd hc2 k_⟩ (b8)
    ·have hl2:f0 = true:=(by simpa using hc2);have S1:=S;intro gD l7;obtain rfl:=cndF.neg l7 hc2;replace S1:=S1.pt 182 (undef) rfl;intro hD m7;obtain rfl:=cndF.neg m7 hc2;replace S1:=S1.pt 183 (undef) rfl;intro iD n7;obtain rfl:=cndF.neg n7 hc2;replace S1:=S1.pt 184 (undef) rfl;intro jD o7;obtain rfl:=cndF.neg o7 hc2;replace S1:=S1.pt 186 (undef) rfl;rintro _ rfl;replace S1:=S1.pt 181 (.bool f0) rfl;refine a_c S1 fun a_ S1=>?_;rw [show f0 = true from hl2] at S1;exact RPost.o1 tys_ok (v:=undef) S1 S rfl (by kernel_rfl) ⟨fun k_=>absurd k_ hc2,fun _=>rfl⟩
   refine RunAll.cons (cndF f0 false (eqv (.pointer (some ((⟨c0,0,.none⟩:Addr).add (a_i gf2 2)))))) [(eqv (.bool f0),181)] rfl rfl ?_ ?_
   ·intro W_ hW;by_cases hc2:f0 = false
    ·have hl2:f0 = false:=hc2;have S1:=S;rintro _ rfl;replace S1:=S1.pt 181 (.bool f0) rfl;refine a_c S1 fun a_ S1=>?_;replace i0:=i0.step hW;rw [show f0 = false from hl2] at S1;exact RPost.o1 tys_ok (v:=.pointer (some ((⟨c0,0,.none⟩:Addr).add (a_i gf2 2)))) S1 S rfl (by kernel_rfl) ⟨fun _=>rfl,fun k_=>absurd hc2 k_⟩
    ·have hl2:f0 = true:=(by simpa using hc2);have S1:=S;rintro _ rfl;replace S1:=S1.pt 181 (.bool f0) rfl;refine a_c S1 fun a_ S1=>?_;rw [show f0 = true from hl2] at S1;exact RPost.o1 tys_ok (v:=undef) S1 S rfl (by kernel_rfl) ⟨fun k_=>absurd k_ hc2,fun _=>rfl⟩
   refine RunAll.cons (cndF f0 false (isI .i64 x2.2.2)) [(cndF f0 false (eqv (.pointer (some ((⟨c0,0,.none⟩:Addr).add (a_i gf2 2))))),188),(eqv (.bool f0),181)] rfl rfl ?_ ?_
   ·intro W_ hW;by_cases hc2:f0 = false
    ·have hl2:f0 = false:=hc2;have S1:=S;intro l9 c3;replace c3:=cndF.pos c3 hc2
     revert c3
     revert l9
     rintro _ rfl;replace S1:=S1.pt 188 (.pointer (some ((⟨c0,0,.none⟩:Addr).add (a_i gf2 2)))) rfl;rintro _ rfl;replace S1:=S1.pt 181 (.bool f0) rfl;refine a_c S1 fun a_ S1=>?_;replace i0:=i0.step hW;rw [show f0 = false from hl2] at S1;have S0:=S.defers;replace S:=S1;clear S1;obtain ⟨Q0,_⟩:=(M0).1 hc2;refine wgo S (a_b (t:=(.int .i64)) (x:=x2.2.2) S rfl ty3 rfl rfl rfl (RepAt.add 2 (RepAt.st (t:=gf2) i0.at_)) fun a lD T5 S=>?_);obtain ⟨rfl,Y4⟩:=RepV.int T5;refine wn ?_;exact RPost.mk_ S rfl S0 ⟨fun _=>⟨rfl,Y4⟩,fun k_=>absurd hc2 k_⟩ (Below.refl _ _)
    ·have hl2:f0 = true:=(by simpa using hc2);have S1:=S;intro mD p7;obtain rfl:=cndF.neg p7 hc2;replace S1:=S1.pt 188 (undef) rfl;rintro _ rfl;replace S1:=S1.pt 181 (.bool f0) rfl;refine a_c S1 fun a_ S1=>?_;rw [show f0 = true from hl2] at S1;exact RPost.o1 tys_ok (v:=undef) S1 S rfl (by kernel_rfl) ⟨fun k_=>absurd k_ hc2,fun _=>rfl⟩
   refine RunAll.cons (cndF f0 false (eqv (.bool (z0 != x2.2.2)))) [(cndF f0 false (isI .i64 z0),187),(cndF f0 false (isI .i64 x2.2.2),189),(eqv (.bool f0),181)] rfl rfl ?_ ?_
   ·intro W_ hW;by_cases hc2:f0 = false
    ·have hl2:f0 = false:=hc2;have S1:=S;intro m9 d3;replace d3:=cndF.pos d3 hc2
     revert d3
     revert m9
     rintro _ ⟨rfl,QB⟩;replace S1:=S1.pt 187 (ji z0) rfl;intro n9 e3;replace e3:=cndF.pos e3 hc2
     revert e3
     revert n9
     rintro _ ⟨rfl,RB⟩;replace S1:=S1.pt 189 (ji x2.2.2) rfl;rintro _ rfl;replace S1:=S1.pt 181 (.bool f0) rfl;refine a_c S1 fun a_ S1=>?_;rw [show f0 = false from hl2] at S1;exact RPost.o1 tys_ok (v:=.bool (z0 != x2.2.2)) S1 S rfl (by kernel_rfl) ⟨fun _=>rfl,fun k_=>absurd hc2 k_⟩
    ·have hl2:f0 = true:=(by simpa using hc2);have S1:=S;intro nD q7;obtain rfl:=cndF.neg q7 hc2;replace S1:=S1.pt 187 (undef) rfl;intro oD r7;obtain rfl:=cndF.neg r7 hc2;replace S1:=S1.pt 189 (undef) rfl;rintro _ rfl;replace S1:=S1.pt 181 (.bool f0) rfl;refine a_c S1 fun a_ S1=>?_;rw [show f0 = true from hl2] at S1;exact RPost.o1 tys_ok (v:=undef) S1 S rfl (by kernel_rfl) ⟨fun k_=>absurd k_ hc2,fun _=>rfl⟩
   refine RunAll.cons (eqv (.bool g0)) [(eqv (.bool f0),181),(cndF f0 false (eqv (.bool (z0 != x2.2.2))),190)] rfl rfl ?_ ?_
   ·intro W_ hW;by_cases hc2:f0 = false
    ·have hl2:f0 = false:=hc2;have S1:=S;rintro _ rfl;replace S1:=S1.pt 181 (.bool f0) rfl;intro o9 f3;replace f3:=cndF.pos f3 hc2
     revert f3
     revert o9
     rintro _ rfl;replace S1:=S1.pt 190 (.bool (z0 != x2.2.2)) rfl;refine a_c S1 fun a_ S1=>?_;rw [show f0 = false from hl2] at S1;exact RPost.o1 tys_ok (v:=.bool (z0 != x2.2.2)) S1 S rfl (by kernel_rfl) (congrArg Value.bool ((M0).1 hc2).2)
    ·have hl2:f0 = true:=(by simpa using hc2);have S1:=S;rintro _ rfl;replace S1:=S1.pt 181 (.bool f0) rfl;intro qD s7;obtain rfl:=cndF.neg s7 hc2;replace S1:=S1.pt 190 (undef) rfl;refine a_c S1 fun a_ S1=>?_;rw [show f0 = true from hl2] at S1;exact RPost.o1 tys_ok (v:=.bool true) S1 S rfl (by kernel_rfl) (congrArg Value.bool ((M0).2 hc2))
   refine RunAll.cons (eqv (.bool g0)) [(eqv (.bool g0),191)] rfl rfl ?_ ?_
   ·intro W_ hW;have S1:=S;rintro _ rfl;replace S1:=S1.pt 191 (.bool g0) rfl;exact RPost.o1 tys_ok (v:=.bool g0) S1 S rfl (by kernel_rfl) rfl
   refine RunAll.cons (cndF g0 false (eqv (.pointer (some ((⟨d0,0,.none⟩:Addr).add (a_i gf9 2)))))) [(eqv (.bool g0),192)] rfl rfl ?_ ?_
   ·intro W_ hW;by_cases hc3:g0 = false
    ·have hl3:g0 = false:=hc3;have S1:=S;rintro _ rfl;replace S1:=S1.pt 192 (.bool g0) rfl;refine a_c S1 fun a_ S1=>?_;replace h0:=h0.step hW;rw [show g0 = false from hl3] at S1;exact RPost.o1 tys_ok (v:=.pointer (some ((⟨d0,0,.none⟩:Addr).add (a_i gf9 2)))) S1 S rfl (by kernel_rfl) ⟨fun _=>rfl,fun k_=>absurd hc3 k_⟩
    ·have hl3:g0 = true:=(by simpa using hc3);have S1:=S;rintro _ rfl;replace S1:=S1.pt 192 (.bool g0) rfl;refine a_c S1 fun a_ S1=>?_;rw [show g0 = true from hl3] at S1;exact RPost.o1 tys_ok (v:=undef) S1 S rfl (by kernel_rfl) ⟨fun k_=>absurd k_ hc3,fun _=>rfl⟩
   refine RunAll.cons (cndF g0 false (eqv (.bool x0.2.2))) [(cndF g0 false (eqv (.pointer (some ((⟨d0,0,.none⟩:Addr).add (a_i gf9 2))))),193),(eqv (.bool g0),192)] rfl rfl ?_ ?_
   ·intro W_ hW;by_cases hc3:g0 = false
    ·have hl3:g0 = false:=hc3;have S1:=S;intro p9 g3;replace g3:=cndF.pos g3 hc3
     revert g3
     revert p9
     rintro _ rfl;replace S1:=S1.pt 193 (.pointer (some ((⟨d0,0,.none⟩:Addr).add (a_i gf9 2)))) rfl;rintro _ rfl;replace S1:=S1.pt 192 (.bool g0) rfl;refine a_c S1 fun a_ S1=>?_;replace h0:=h0.step hW;rw [show g0 = false from hl3] at S1;have S0:=S.defers;replace S:=S1;clear S1;obtain ⟨y0,_⟩:=(H0).1 hc3;refine wgo S (a_b (t:=.bool) (x:=x0.2.2) S rfl ty4 rfl rfl rfl (RepAt.add 2 (RepAt.st (t:=gf9) h0.at_)) fun a sD V5 S=>?_);obtain rfl:=RepV.bool V5;refine wn ?_;exact RPost.mk_ S rfl S0 ⟨fun _=>rfl,fun k_=>absurd hc3 k_⟩ (Below.refl _ _)
    ·have hl3:g0 = true:=(by simpa using hc3);have S1:=S;intro tD t7;obtain rfl:=cndF.neg t7 hc3;replace S1:=S1.pt 193 (undef) rfl;rintro _ rfl;replace S1:=S1.pt 192 (.bool g0) rfl;refine a_c S1 fun a_ S1=>?_;rw [show g0 = true from hl3] at S1;exact RPost.o1 tys_ok (v:=undef) S1 S rfl (by kernel_rfl) ⟨fun k_=>absurd k_ hc3,fun _=>rfl⟩
   refine RunAll.cons (cndF g0 false (eqv (.bool x0.2.2))) [(cndF g0 false (eqv (.bool x0.2.2)),194),(eqv (.bool g0),192)] rfl rfl ?_ ?_
   ·intro W_ hW;by_cases hc3:g0 = false
    ·have hl3:g0 = false:=hc3;have S1:=S;intro q9 h3;replace h3:=cndF.pos h3 hc3
     revert h3
     revert q9
     rintro _ rfl;replace S1:=S1.pt 194 (.bool x0.2.2) rfl;rintro _ rfl;replace S1:=S1.pt 192 (.bool g0) rfl;refine a_c S1 fun a_ S1=>?_;rw [show g0 = false from hl3] at S1;exact RPost.o1 tys_ok (v:=.bool x0.2.2) S1 S rfl (by kernel_rfl) ⟨fun _=>rfl,fun k_=>absurd hc3 k_⟩
    ·have hl3:g0 = true:=(by simpa using hc3);have S1:=S;intro uD u7;obtain rfl:=cndF.neg u7 hc3;replace S1:=S1.pt 194 (undef) rfl;rintro _ rfl;replace S1:=S1.pt 192 (.bool g0) rfl;refine a_c S1 fun a_ S1=>?_;rw [show g0 = true from hl3] at S1;exact RPost.o1 tys_ok (v:=undef) S1 S rfl (by kernel_rfl) ⟨fun k_=>absurd k_ hc3,fun _=>rfl⟩
   refine RunAll.cons (cndF g0 false (cndF x0.2.2 true (eqv (b0)))) [(cndF g0 false (eqv (.bool x0.2.2)),195)] rfl rfl ?_ ?_
   ·intro W_ hW;by_cases hc3:g0 = false
    ·have hl3:g0 = false:=hc3;by_cases hc4:x0.2.2 = true
     ·have hl4:x0.2.2 = true:=hc4;have S1:=S;intro r9 i3;replace i3:=cndF.pos i3 hc3
      revert i3
      revert r9
      rintro _ rfl;replace S1:=S1.pt 195 (.bool x0.2.2) rfl;refine a_c S1 fun a_ S1=>?_;replace l0:=l0.step hW;rw [show x0.2.2 = true from hl4] at S1;exact RPost.o1 tys_ok (v:=b0) S1 S rfl (by kernel_rfl) ⟨fun _=>⟨fun _=>rfl,fun k_=>absurd hc4 k_⟩,fun k_=>absurd hc3 k_⟩
     ·have hl4:x0.2.2 = false:=Bool.eq_false_iff.2 hc4;have S1:=S;intro s9 j3;replace j3:=cndF.pos j3 hc3
      revert j3
      revert s9
      rintro _ rfl;replace S1:=S1.pt 195 (.bool x0.2.2) rfl;refine a_c S1 fun a_ S1=>?_;rw [show x0.2.2 = false from hl4] at S1;exact RPost.o1 tys_ok (v:=undef) S1 S rfl (by kernel_rfl) ⟨fun _=>⟨fun k_=>absurd k_ hc4,fun _=>rfl⟩,fun k_=>absurd hc3 k_⟩
    ·have hl3:g0 = true:=(by simpa using hc3);have S1:=S;intro vD v7;obtain rfl:=cndF.neg v7 hc3;replace S1:=S1.pt 195 (undef) rfl;exact RPost.o1 tys_ok (v:=undef) S1 S rfl (by kernel_rfl) ⟨fun k_=>absurd k_ hc3,fun _=>rfl⟩
   refine RunAll.cons (cndF g0 false (cndF x0.2.2 true (c_q (.int .u8) (Kw K w [some k0,b0.ownBlock,some c0,some d0]) s0))) [(cndF g0 false (cndF x0.2.2 true (eqv (b0))),196),(cndF g0 false (eqv (.bool x0.2.2)),195)] rfl rfl ?_ ?_
   ·intro W_ hW;by_cases hc3:g0 = false
    ·have hl3:g0 = false:=hc3;by_cases hc4:x0.2.2 = true
     ·have hl4:x0.2.2 = true:=hc4;have S1:=S;intro t9 u1;replace u1:=cndF.pos u1 hc3;replace u1:=cndF.pos u1 hc4
      revert u1
      revert t9
      intro u9 w7;obtain rfl:b0 = u9:=Eq.symm w7;replace S1:=S1.pt 196 (b0) rfl;intro v9 k3;replace k3:=cndF.pos k3 hc3
      revert k3
      revert v9
      rintro _ rfl;replace S1:=S1.pt 195 (.bool x0.2.2) rfl;refine a_c S1 fun a_ S1=>?_;replace l0:=l0.step hW;replace W:=W.step hW;rw [show x0.2.2 = true from hl4] at S1;have S0:=S.defers;replace S:=S1;clear S1;obtain ⟨y0,_⟩:=(H0).1 hc3;obtain ⟨g1,h1,_⟩:=(Z0 hc3).1 hc4;refine wgo S (a_s S rfl ty26 rfl rfl rfl l0 rfl g1 fun a DB j5 X5 S=>wn ?_);exact RPost.mk_ S rfl S0 ⟨fun _=>⟨fun _=>⟨_,rfl,X5,W.ownlt (o:=b0.ownBlock) (List.mem_of_getElem? (i:=1) rfl) j5⟩,fun k_=>absurd hc4 k_⟩,fun k_=>absurd hc3 k_⟩ (Below.refl _ _)
     ·have hl4:x0.2.2 = false:=Bool.eq_false_iff.2 hc4;have S1:=S;intro xD l3;replace l3:=cndF.pos l3 hc3;obtain rfl:=cndF.neg l3 hc4;replace S1:=S1.pt 196 (undef) rfl;intro w9 m3;replace m3:=cndF.pos m3 hc3
      revert m3
      revert w9
      rintro _ rfl;replace S1:=S1.pt 195 (.bool x0.2.2) rfl;refine a_c S1 fun a_ S1=>?_;rw [show x0.2.2 = false from hl4] at S1;exact RPost.o1 tys_ok (v:=undef) S1 S rfl (by kernel_rfl) ⟨fun _=>⟨fun k_=>absurd k_ hc4,fun _=>rfl⟩,fun k_=>absurd hc3 k_⟩
    ·have hl3:g0 = true:=(by simpa using hc3);have S1:=S;intro yD x7;obtain rfl:=cndF.neg x7 hc3;replace S1:=S1.pt 196 (undef) rfl;intro zD y7;obtain rfl:=cndF.neg y7 hc3;replace S1:=S1.pt 195 (undef) rfl;exact RPost.o1 tys_ok (v:=undef) S1 S rfl (by kernel_rfl) ⟨fun k_=>absurd k_ hc3,fun _=>rfl⟩
   refine RunAll.cons (cndF g0 false (cndF x0.2.2 true (isI .u8 s0))) [(cndF g0 false (cndF x0.2.2 true (c_q (.int .u8) (Kw K w [some k0,b0.ownBlock,some c0,some d0]) s0)),197),(cndF g0 false (eqv (.bool x0.2.2)),195)] rfl rfl ?_ ?_
   ·intro W_ hW;by_cases hc3:g0 = false
    ·have hl3:g0 = false:=hc3;by_cases hc4:x0.2.2 = true
     ·have hl4:x0.2.2 = true:=hc4;have S1:=S;intro x9 w1;replace w1:=cndF.pos w1 hc3;replace w1:=cndF.pos w1 hc4
      revert w1
      revert x9
      rintro _ ⟨i8,rfl,Z5,zB⟩;replace S1:=S1.pt 197 (.pointer (some i8)) rfl;intro y9 n3;replace n3:=cndF.pos n3 hc3
      revert n3
      revert y9
      rintro _ rfl;replace S1:=S1.pt 195 (.bool x0.2.2) rfl;refine a_c S1 fun a_ S1=>?_;rw [show x0.2.2 = true from hl4] at S1;have S0:=S.defers;replace S:=S1;clear S1;obtain ⟨y0,_⟩:=(H0).1 hc3;obtain ⟨g1,h1,_⟩:=(Z0 hc3).1 hc4;refine wgo S (a_b (t:=(.int .u8)) (x:=s0) S rfl ty5 rfl rfl rfl Z5 fun a AD a6 S=>?_);obtain ⟨rfl,Z4⟩:=RepV.int a6;refine wn ?_;exact RPost.mk_ S rfl S0 ⟨fun _=>⟨fun _=>⟨rfl,Z4⟩,fun k_=>absurd hc4 k_⟩,fun k_=>absurd hc3 k_⟩ (Below.refl _ _)
     ·have hl4:x0.2.2 = false:=Bool.eq_false_iff.2 hc4;have S1:=S;intro BD o3;replace o3:=cndF.pos o3 hc3;obtain rfl:=cndF.neg o3 hc4;replace S1:=S1.pt 197 (undef) rfl;intro z9 p3;replace p3:=cndF.pos p3 hc3
      revert p3
      revert z9
      rintro _ rfl;replace S1:=S1.pt 195 (.bool x0.2.2) rfl;refine a_c S1 fun a_ S1=>?_;rw [show x0.2.2 = false from hl4] at S1;exact RPost.o1 tys_ok (v:=undef) S1 S rfl (by kernel_rfl) ⟨fun _=>⟨fun k_=>absurd k_ hc4,fun _=>rfl⟩,fun k_=>absurd hc3 k_⟩
    ·have hl3:g0 = true:=(by simpa using hc3);have S1:=S;intro DD z7;obtain rfl:=cndF.neg z7 hc3;replace S1:=S1.pt 197 (undef) rfl;intro ED A7;obtain rfl:=cndF.neg A7 hc3;replace S1:=S1.pt 195 (undef) rfl;exact RPost.o1 tys_ok (v:=undef) S1 S rfl (by kernel_rfl) ⟨fun k_=>absurd k_ hc3,fun _=>rfl⟩
   refine RunAll.cons (cndF g0 false (cndF x0.2.2 true (a_w (.sl (.int .u8)) (Kw K w [some k0,b0.ownBlock,some c0,some d0]) x1))) [(cndF g0 false (eqv (.bool x0.2.2)),195)] rfl rfl ?_ ?_
   ·intro W_ hW;by_cases hc3:g0 = false
    ·have hl3:g0 = false:=hc3;by_cases hc4:x0.2.2 = true
     ·have hl4:x0.2.2 = true:=hc4;have S1:=S;intro A9 q3;replace q3:=cndF.pos q3 hc3
      revert q3
      revert A9
      rintro _ rfl;replace S1:=S1.pt 195 (.bool x0.2.2) rfl;refine a_c S1 fun a_ S1=>?_;replace R1:=R1.step hW;rw [show x0.2.2 = true from hl4] at S1;exact RPost.o1 tys_ok (v:=v1) S1 S rfl (by kernel_rfl) ⟨fun _=>⟨fun _=>R1,fun k_=>absurd hc4 k_⟩,fun k_=>absurd hc3 k_⟩
     ·have hl4:x0.2.2 = false:=Bool.eq_false_iff.2 hc4;have S1:=S;intro B9 r3;replace r3:=cndF.pos r3 hc3
      revert r3
      revert B9
      rintro _ rfl;replace S1:=S1.pt 195 (.bool x0.2.2) rfl;refine a_c S1 fun a_ S1=>?_;rw [show x0.2.2 = false from hl4] at S1;exact RPost.o1 tys_ok (v:=undef) S1 S rfl (by kernel_rfl) ⟨fun _=>⟨fun k_=>absurd k_ hc4,fun _=>rfl⟩,fun k_=>absurd hc3 k_⟩
    ·have hl3:g0 = true:=(by simpa using hc3);have S1:=S;intro FD B7;obtain rfl:=cndF.neg B7 hc3;replace S1:=S1.pt 195 (undef) rfl;exact RPost.o1 tys_ok (v:=undef) S1 S rfl (by kernel_rfl) ⟨fun k_=>absurd k_ hc3,fun _=>rfl⟩
   refine RunAll.cons (cndF g0 false (cndF x0.2.2 true (c_p (.int .u8) (Kw K w [some k0,b0.ownBlock,some c0,some d0]) t0))) [(cndF g0 false (cndF x0.2.2 true (a_w (.sl (.int .u8)) (Kw K w [some k0,b0.ownBlock,some c0,some d0]) x1)),199),(cndF g0 false (eqv (.bool x0.2.2)),195)] rfl rfl ?_ ?_
   ·intro W_ hW;by_cases hc3:g0 = false
    ·have hl3:g0 = false:=hc3;by_cases hc4:x0.2.2 = true
     ·have hl4:x0.2.2 = true:=hc4;have S1:=S;intro C9 y1;replace y1:=cndF.pos y1 hc3;replace y1:=cndF.pos y1 hc4
      revert y1
      revert C9
      intro D9 s3;replace s3:RepV _ _ _ _ _:=s3;replace S1:=S1.pt 199 (D9) rfl;intro E9 t3;replace t3:=cndF.pos t3 hc3
      revert t3
      revert E9
      rintro _ rfl;replace S1:=S1.pt 195 (.bool x0.2.2) rfl;refine a_c S1 fun a_ S1=>?_;replace W:=W.step hW;rw [show x0.2.2 = true from hl4] at S1;have S0:=S.defers;replace S:=S1;clear S1;obtain ⟨y0,_⟩:=(H0).1 hc3;obtain ⟨g1,h1,_⟩:=(Z0 hc3).1 hc4;refine wgo S (a_e S rfl ty26 rfl rfl rfl s3 rfl h1 fun a aC c6 k5 S=>wn ?_);exact RPost.mk_ S rfl S0 ⟨fun _=>⟨fun _=>⟨_,rfl,c6,k5⟩,fun k_=>absurd hc4 k_⟩,fun k_=>absurd hc3 k_⟩ (Below.refl _ _)
     ·have hl4:x0.2.2 = false:=Bool.eq_false_iff.2 hc4;have S1:=S;intro HD u3;replace u3:=cndF.pos u3 hc3;obtain rfl:=cndF.neg u3 hc4;replace S1:=S1.pt 199 (undef) rfl;intro F9 v3;replace v3:=cndF.pos v3 hc3
      revert v3
      revert F9
      rintro _ rfl;replace S1:=S1.pt 195 (.bool x0.2.2) rfl;refine a_c S1 fun a_ S1=>?_;rw [show x0.2.2 = false from hl4] at S1;exact RPost.o1 tys_ok (v:=undef) S1 S rfl (by kernel_rfl) ⟨fun _=>⟨fun k_=>absurd k_ hc4,fun _=>rfl⟩,fun k_=>absurd hc3 k_⟩
    ·have hl3:g0 = true:=(by simpa using hc3);have S1:=S;intro ID C7;obtain rfl:=cndF.neg C7 hc3;replace S1:=S1.pt 199 (undef) rfl;intro JD D7;obtain rfl:=cndF.neg D7 hc3;replace S1:=S1.pt 195 (undef) rfl;exact RPost.o1 tys_ok (v:=undef) S1 S rfl (by kernel_rfl) ⟨fun k_=>absurd k_ hc3,fun _=>rfl⟩
   refine RunAll.cons (cndF g0 false (cndF x0.2.2 true (isI .u8 t0))) [(cndF g0 false (cndF x0.2.2 true (c_p (.int .u8) (Kw K w [some k0,b0.ownBlock,some c0,some d0]) t0)),200),(cndF g0 false (eqv (.bool x0.2.2)),195)] rfl rfl ?_ ?_
   ·intro W_ hW;by_cases hc3:g0 = false
    ·have hl3:g0 = false:=hc3;by_cases hc4:x0.2.2 = true
     ·have hl4:x0.2.2 = true:=hc4;have S1:=S;intro G9 z1;replace z1:=cndF.pos z1 hc3;replace z1:=cndF.pos z1 hc4
      revert z1
      revert G9
      rintro _ ⟨j8,rfl,e6,AB⟩;replace S1:=S1.pt 200 (.pointer (some j8)) rfl;intro H9 w3;replace w3:=cndF.pos w3 hc3
      revert w3
      revert H9
      rintro _ rfl;replace S1:=S1.pt 195 (.bool x0.2.2) rfl;refine a_c S1 fun a_ S1=>?_;rw [show x0.2.2 = true from hl4] at S1;have S0:=S.defers;replace S:=S1;clear S1;obtain ⟨y0,_⟩:=(H0).1 hc3;obtain ⟨g1,h1,_⟩:=(Z0 hc3).1 hc4;refine wgo S (a_b (t:=(.int .u8)) (x:=t0) S rfl ty5 rfl rfl rfl e6 fun a LD f6 S=>?_);obtain ⟨rfl,a5⟩:=RepV.int f6;refine wn ?_;exact RPost.mk_ S rfl S0 ⟨fun _=>⟨fun _=>⟨rfl,a5⟩,fun k_=>absurd hc4 k_⟩,fun k_=>absurd hc3 k_⟩ (Below.refl _ _)
     ·have hl4:x0.2.2 = false:=Bool.eq_false_iff.2 hc4;have S1:=S;intro MD x3;replace x3:=cndF.pos x3 hc3;obtain rfl:=cndF.neg x3 hc4;replace S1:=S1.pt 200 (undef) rfl;intro I9 y3;replace y3:=cndF.pos y3 hc3
      revert y3
      revert I9
      rintro _ rfl;replace S1:=S1.pt 195 (.bool x0.2.2) rfl;refine a_c S1 fun a_ S1=>?_;rw [show x0.2.2 = false from hl4] at S1;exact RPost.o1 tys_ok (v:=undef) S1 S rfl (by kernel_rfl) ⟨fun _=>⟨fun k_=>absurd k_ hc4,fun _=>rfl⟩,fun k_=>absurd hc3 k_⟩
    ·have hl3:g0 = true:=(by simpa using hc3);have S1:=S;intro ND E7;obtain rfl:=cndF.neg E7 hc3;replace S1:=S1.pt 200 (undef) rfl;intro OD F7;obtain rfl:=cndF.neg F7 hc3;replace S1:=S1.pt 195 (undef) rfl;exact RPost.o1 tys_ok (v:=undef) S1 S rfl (by kernel_rfl) ⟨fun k_=>absurd k_ hc3,fun _=>rfl⟩
   refine RunAll.cons (cndF g0 false (cndF x0.2.2 true (eqv (.bool (s0 != t0))))) [(cndF g0 false (cndF x0.2.2 true (isI .u8 s0)),198),(cndF g0 false (cndF x0.2.2 true (isI .u8 t0)),201),(cndF g0 false (eqv (.bool x0.2.2)),195)] rfl rfl ?_ ?_
   ·intro W_ hW;by_cases hc3:g0 = false
    ·have hl3:g0 = false:=hc3;by_cases hc4:x0.2.2 = true
     ·have hl4:x0.2.2 = true:=hc4;have S1:=S;intro J9 A1;replace A1:=cndF.pos A1 hc3;replace A1:=cndF.pos A1 hc4
      revert A1
      revert J9
      rintro _ ⟨rfl,SB⟩;replace S1:=S1.pt 198 (.int .u8 s0) rfl;intro K9 B1;replace B1:=cndF.pos B1 hc3;replace B1:=cndF.pos B1 hc4
      revert B1
      revert K9
      rintro _ ⟨rfl,TB⟩;replace S1:=S1.pt 201 (.int .u8 t0) rfl;intro L9 z3;replace z3:=cndF.pos z3 hc3
      revert z3
      revert L9
      rintro _ rfl;replace S1:=S1.pt 195 (.bool x0.2.2) rfl;refine a_c S1 fun a_ S1=>?_;rw [show x0.2.2 = true from hl4] at S1;exact RPost.o1 tys_ok (v:=.bool (s0 != t0)) S1 S rfl (by kernel_rfl) ⟨fun _=>⟨fun _=>rfl,fun k_=>absurd hc4 k_⟩,fun k_=>absurd hc3 k_⟩
     ·have hl4:x0.2.2 = false:=Bool.eq_false_iff.2 hc4;have S1:=S;intro PD A3;replace A3:=cndF.pos A3 hc3;obtain rfl:=cndF.neg A3 hc4;replace S1:=S1.pt 198 (undef) rfl;intro QD B3;replace B3:=cndF.pos B3 hc3;obtain rfl:=cndF.neg B3 hc4;replace S1:=S1.pt 201 (undef) rfl;intro M9 C3;replace C3:=cndF.pos C3 hc3
      revert C3
      revert M9
      rintro _ rfl;replace S1:=S1.pt 195 (.bool x0.2.2) rfl;refine a_c S1 fun a_ S1=>?_;rw [show x0.2.2 = false from hl4] at S1;exact RPost.o1 tys_ok (v:=undef) S1 S rfl (by kernel_rfl) ⟨fun _=>⟨fun k_=>absurd k_ hc4,fun _=>rfl⟩,fun k_=>absurd hc3 k_⟩
    ·have hl3:g0 = true:=(by simpa using hc3);have S1:=S;intro RD G7;obtain rfl:=cndF.neg G7 hc3;replace S1:=S1.pt 198 (undef) rfl;intro SD H7;obtain rfl:=cndF.neg H7 hc3;replace S1:=S1.pt 201 (undef) rfl;intro TD I7;obtain rfl:=cndF.neg I7 hc3;replace S1:=S1.pt 195 (undef) rfl;exact RPost.o1 tys_ok (v:=undef) S1 S rfl (by kernel_rfl) ⟨fun k_=>absurd k_ hc3,fun _=>rfl⟩
   refine RunAll.cons (cndF g0 false (eqv (.bool E0))) [(cndF g0 false (eqv (.bool x0.2.2)),195),(cndF g0 false (cndF x0.2.2 true (eqv (.bool (s0 != t0)))),202),(eqv (.bool g0),192)] rfl rfl ?_ ?_
   ·intro W_ hW;by_cases hc3:g0 = false
    ·have hl3:g0 = false:=hc3;by_cases hc4:x0.2.2 = true
     ·have hl4:x0.2.2 = true:=hc4;have S1:=S;intro N9 D3;replace D3:=cndF.pos D3 hc3
      revert D3
      revert N9
      rintro _ rfl;replace S1:=S1.pt 195 (.bool x0.2.2) rfl;intro O9 C1;replace C1:=cndF.pos C1 hc3;replace C1:=cndF.pos C1 hc4
      revert C1
      revert O9
      rintro _ rfl;replace S1:=S1.pt 202 (.bool (s0 != t0)) rfl;rintro _ rfl;replace S1:=S1.pt 192 (.bool g0) rfl;refine a_c S1 fun a_ S1=>?_;rw [show g0 = false from hl3] at S1;rw [show x0.2.2 = true from hl4] at S1;exact RPost.o1 tys_ok (v:=.bool (s0 != t0)) S1 S rfl (by kernel_rfl) ⟨fun _=>(congrArg Value.bool ((Z0 hc3).1 hc4).2.2),fun k_=>absurd hc3 k_⟩
     ·have hl4:x0.2.2 = false:=Bool.eq_false_iff.2 hc4;have S1:=S;intro P9 E3;replace E3:=cndF.pos E3 hc3
      revert E3
      revert P9
      rintro _ rfl;replace S1:=S1.pt 195 (.bool x0.2.2) rfl;intro UD F3;replace F3:=cndF.pos F3 hc3;obtain rfl:=cndF.neg F3 hc4;replace S1:=S1.pt 202 (undef) rfl;rintro _ rfl;replace S1:=S1.pt 192 (.bool g0) rfl;refine a_c S1 fun a_ S1=>?_;rw [show g0 = false from hl3] at S1;rw [show x0.2.2 = false from hl4] at S1;exact RPost.o1 tys_ok (v:=.bool false) S1 S rfl (by kernel_rfl) ⟨fun _=>(congrArg Value.bool ((Z0 hc3).2 hc4)),fun k_=>absurd hc3 k_⟩
    ·have hl3:g0 = true:=(by simpa using hc3);have S1:=S;intro WD J7;obtain rfl:=cndF.neg J7 hc3;replace S1:=S1.pt 195 (undef) rfl;intro XD K7;obtain rfl:=cndF.neg K7 hc3;replace S1:=S1.pt 202 (undef) rfl;rintro _ rfl;replace S1:=S1.pt 192 (.bool g0) rfl;refine a_c S1 fun a_ S1=>?_;rw [show g0 = true from hl3] at S1;exact RPost.o1 tys_ok (v:=undef) S1 S rfl (by kernel_rfl) ⟨fun k_=>absurd k_ hc3,fun _=>rfl⟩
   refine RunAll.cons (eqv (.bool X0)) [(eqv (.bool g0),192),(cndF g0 false (eqv (.bool E0)),203)] rfl rfl ?_ ?_
   ·intro W_ hW;by_cases hc3:g0 = false
    ·have hl3:g0 = false:=hc3;have S1:=S;rintro _ rfl;replace S1:=S1.pt 192 (.bool g0) rfl;intro Q9 G3;replace G3:=cndF.pos G3 hc3
     revert G3
     revert Q9
     rintro _ rfl;replace S1:=S1.pt 203 (.bool E0) rfl;refine a_c S1 fun a_ S1=>?_;rw [show g0 = false from hl3] at S1;exact RPost.o1 tys_ok (v:=.bool E0) S1 S rfl (by kernel_rfl) (congrArg Value.bool ((H0).1 hc3).2)
    ·have hl3:g0 = true:=(by simpa using hc3);have S1:=S;rintro _ rfl;replace S1:=S1.pt 192 (.bool g0) rfl;intro YD L7;obtain rfl:=cndF.neg L7 hc3;replace S1:=S1.pt 203 (undef) rfl;refine a_c S1 fun a_ S1=>?_;rw [show g0 = true from hl3] at S1;exact RPost.o1 tys_ok (v:=.bool true) S1 S rfl (by kernel_rfl) (congrArg Value.bool ((H0).2 hc3))
   exact trivial
  intro GE l1;refine EndE.some_ rfl ?_;rintro _ ⟨rfl,UB⟩;replace S:=S.pt 165 (ji a0.2) rfl;refine EndE.some_ rfl ?_;rintro _ rfl;replace S:=S.pt 166 (.bool (a0.2 != 0)) rfl;refine EndE.some_ rfl ?_;rintro _ rfl;replace S:=S.pt 167 (.bool (a0.2 != 0)) rfl;refine EndE.some_ rfl ?_;intro R9 _;replace S:=S.pt 168 (R9) rfl;refine EndE.some_ rfl ?_;intro S9 _;replace S:=S.pt 169 (S9) rfl;refine EndE.some_ rfl ?_;intro T9 _;replace S:=S.pt 170 (T9) rfl;refine EndE.some_ rfl ?_;intro U9 _;replace S:=S.pt 171 (U9) rfl;refine EndE.some_ rfl ?_;intro V9 _;replace S:=S.pt 172 (V9) rfl;refine EndE.some_ rfl ?_;rintro _ rfl;replace S:=S.pt 173 (.bool j0) rfl;refine EndE.some_ rfl ?_;rintro _ rfl;replace S:=S.pt 174 (.bool j0) rfl;refine EndE.some_ rfl ?_;intro W9 _;replace S:=S.pt 175 (W9) rfl;refine EndE.some_ rfl ?_;intro X9 _;replace S:=S.pt 176 (X9) rfl;refine EndE.some_ rfl ?_;intro Y9 _;replace S:=S.pt 177 (Y9) rfl;refine EndE.some_ rfl ?_;intro Z9 _;replace S:=S.pt 178 (Z9) rfl;refine EndE.some_ rfl ?_;intro aA _;replace S:=S.pt 179 (aA) rfl;refine EndE.some_ rfl ?_;rintro _ rfl;replace S:=S.pt 180 (.bool f0) rfl;refine EndE.some_ rfl ?_;rintro _ rfl;replace S:=S.pt 181 (.bool f0) rfl;refine EndE.some_ rfl ?_;intro bA _;replace S:=S.pt 182 (bA) rfl;refine EndE.some_ rfl ?_;intro cA _;replace S:=S.pt 183 (cA) rfl;refine EndE.some_ rfl ?_;intro dA _;replace S:=S.pt 184 (dA) rfl;refine EndE.some_ rfl ?_;intro eA _;replace S:=S.pt 185 (eA) rfl;refine EndE.some_ rfl ?_;intro fA _;replace S:=S.pt 186 (fA) rfl;refine EndE.some_ rfl ?_;intro gA _;replace S:=S.pt 187 (gA) rfl;refine EndE.some_ rfl ?_;intro hA _;replace S:=S.pt 188 (hA) rfl;refine EndE.some_ rfl ?_;intro iA _;replace S:=S.pt 189 (iA) rfl;refine EndE.some_ rfl ?_;intro jA _;replace S:=S.pt 190 (jA) rfl;refine EndE.some_ rfl ?_;rintro _ rfl;replace S:=S.pt 191 (.bool g0) rfl;refine EndE.some_ rfl ?_;rintro _ rfl;replace S:=S.pt 192 (.bool g0) rfl;refine EndE.some_ rfl ?_;intro kA _;replace S:=S.pt 193 (kA) rfl;refine EndE.some_ rfl ?_;intro lA _;replace S:=S.pt 194 (lA) rfl;refine EndE.some_ rfl ?_;intro mA _;replace S:=S.pt 195 (mA) rfl;refine EndE.some_ rfl ?_;intro nA _;replace S:=S.pt 196 (nA) rfl;refine EndE.some_ rfl ?_;intro oA _;replace S:=S.pt 197 (oA) rfl;refine EndE.some_ rfl ?_;intro pA _;replace S:=S.pt 198 (pA) rfl;refine EndE.some_ rfl ?_;intro qA _;replace S:=S.pt 199 (qA) rfl;refine EndE.some_ rfl ?_;intro rA _;replace S:=S.pt 200 (rA) rfl;refine EndE.some_ rfl ?_;intro sA _;replace S:=S.pt 201 (sA) rfl;refine EndE.some_ rfl ?_;intro tA _;replace S:=S.pt 202 (tA) rfl;refine EndE.some_ rfl ?_;intro uA _;replace S:=S.pt 203 (uA) rfl;refine EndE.some_ rfl ?_;rintro _ rfl;replace S:=S.pt 204 (.bool X0) rfl;refine a_0 S fun a S=>?_;replace R1:=R1.step l1;replace h0:=h0.step l1;replace i0:=i0.step l1;replace p0:=p0.step l1;replace l0:=l0.step l1;replace W:=W.step l1;refine a_a ?_;replace S:=S.su (l':=[(204,.bool X0),(12,pB k0),(9,b0),(5,pB c0),(3,pB d0),(1,v1)]);refine wcs X0 S rfl (dzp h) fun hc=>?_;rw [if_neg (bf hc)] at h;refine wp_skip (a_a ?_);replace S:=S.su (l':=[(12,pB k0),(9,b0),(5,pB c0),(3,pB d0),(1,v1)]);refine ws (ws (wr ?_));refine dl1 S 1 (13,ji 0) fun a S=>wn (a_a ?_);obtain ⟨I4,O6,h⟩:=a_d h;refine a_n (fun a_ w_=>∃ o4:Unit,I4 = .inl o4 ∧ (St 269 a_ [(3,pB d0),(5,pB c0),(9,b0)] ∧ Wd w w_ [some k0,b0.ownBlock,some c0,some d0] ∧ Bx gt9 25 w_ (Kw K w [some k0,b0.ownBlock,some c0,some d0]) d0 x0 ∧ Bx gt2 39 w_ (Kw K w [some k0,b0.ownBlock,some c0,some d0]) c0 x2 ∧ Bx gt8 46 w_ (Kw K w [some k0,b0.ownBlock,some c0,some d0]) k0 r0 ∧ Ow (.int .u8) 5 w_ w.heap.size (Kw K w [some k0,b0.ownBlock,some c0,some d0]) b0 a0.1.xs a0.1.cap)) ?_ ?_
  ·refine wp_block ?_;refine a_r (fun m_ a_ w_=>∃ (q0:Int) ,St 269 a_ [(13,ji q0),(12,pB k0),(9,b0),(5,pB c0),(3,pB d0),(1,v1)] ∧ Wd w w_ [some k0,b0.ownBlock,some c0,some d0] ∧ InR .i64 q0 ∧ RepV (.sl (.int .u8)) w_ (Kw K w [some k0,b0.ownBlock,some c0,some d0]) v1 x1 ∧ Bx gt9 25 w_ (Kw K w [some k0,b0.ownBlock,some c0,some d0]) d0 x0 ∧ Bx gt2 39 w_ (Kw K w [some k0,b0.ownBlock,some c0,some d0]) c0 x2 ∧ Bx gt8 46 w_ (Kw K w [some k0,b0.ownBlock,some c0,some d0]) k0 r0 ∧ Ow (.int .u8) 5 w_ w.heap.size (Kw K w [some k0,b0.ownBlock,some c0,some d0]) b0 a0.1.xs a0.1.cap ∧ p4_l1 n x0 x1 x2 a0 r0 m_ q0 = some I4) n ?_ ?_
   ·skip
    exact ⟨0,⟨S.su,W,(show InR .i64 0 by decide),R1,h0,i0,p0,l0,O6⟩⟩
   ·clear S W;rintro U3 a PA ⟨q0,S,W,d4,R1,h0,i0,p0,l0,u0⟩
    cases U3 with
    | zero=>exact absurd u0 (by simp [p4_l1])
    | succ U3 =>
     refine ⟨U3,rfl,?_⟩;rw [p4_l1] at u0;refine ws (ws (wr ?_));refine dl1 S 1 (205,ji q0) fun a S=>wgo S (a_b (t:=gt9) (x:=x0) S rfl ty25 rfl rfl rfl h0.at_ fun a vA w2 S=>wgo S (a_b (t:=gt8) (x:=r0) S rfl ty46 rfl rfl rfl p0.at_ fun a wA y2 S=>?_));obtain ⟨s4,D6,u0⟩:=a_d u0;refine wgo S (a_k (vs:=[vA,wA]) S rfl cb18 rfl rfl rfl (c18 (Kw K w [some k0,b0.ownBlock,some c0,some d0]) n PA x0 _ w2 r0 _ y2 D6) ?_);rintro _ QA ⟨ZD,rfl,z2,K0⟩;refine ⟨_,rfl,?_⟩;replace z2:=RepV.back z2 W;clear S;intro a S;replace R1:=R1.step K0;replace w2:=w2.step K0;replace y2:=y2.step K0;replace h0:=h0.step K0;replace i0:=i0.step K0;replace p0:=p0.step K0;replace l0:=l0.step K0;replace W:=W.step K0;obtain ⟨rfl,jB⟩:=RepV.int z2;refine dl1 S 1 (209,.bool (decide (q0 < s4))) fun a S=>wn (a_a ?_);refine wcs (decide (q0 < s4)) S rfl ?_ ?_
     ·intro hc;rw [if_pos hc] at u0;refine wp_skip (a_a ?_);replace S:=S.su (l':=[(13,ji q0),(12,pB k0),(9,b0),(5,pB c0),(3,pB d0),(1,v1)]);refine ws (wp_block (ws (wr ?_)));refine dl2 S 2 (213,.pointer (some ((⟨k0,0,.none⟩:Addr).add (a_i gf8 8)))) (212,ji q0) fun a S=>wgo S (a_b (t:=(.int .i64)) (x:=r0.2.2.2.2.2.2.2.2.1) S rfl ty3 rfl rfl rfl (RepAt.add 8 (RepAt.st (t:=gf8) p0.at_)) fun a aE j6 S=>?_);obtain ⟨rfl,kB⟩:=RepV.int j6;refine dl1 S 1 (215,.pointer (some ((⟨c0,0,.none⟩:Addr).add (a_i gf2 1)))) fun a S=>wgo S (a_b (t:=(.int .i64)) (x:=x2.2.1) S rfl ty3 rfl rfl rfl (RepAt.add 1 (RepAt.st (t:=gf2) i0.at_)) fun a bE k6 S=>?_);obtain ⟨rfl,lB⟩:=RepV.int k6;refine dl1 S 1 (217,.pointer (some ((⟨k0,0,.none⟩:Addr).add (a_i gf8 6)))) fun a S=>wgo S (a_b (t:=(.int .i64)) (x:=r0.2.2.2.2.2.2.1) S rfl ty3 rfl rfl rfl (RepAt.add 6 (RepAt.st (t:=gf8) p0.at_)) fun a cE l6 S=>?_);obtain ⟨rfl,mB⟩:=RepV.int l6;obtain ⟨RA,F6,u0⟩:=a_d u0;refine wgo S (a_f S .i64 (x2.2.1 * r0.2.2.2.2.2.2.1) rfl (.inr (.inr rfl)) rfl rfl rfl rfl F6 fun a S=>?_);obtain ⟨a2,G6,u0⟩:=a_d u0;refine wgo S (a_f S .i64 (r0.2.2.2.2.2.2.2.2.1 + RA) rfl (.inl rfl) rfl rfl rfl rfl G6 fun a S=>dl2 S 2 (222,.bool (decide (q0 ≥ a2))) (221,.bool (decide (q0 ≥ a2))) fun a S=>?_);obtain ⟨e0,F0,u0⟩:=a_d u0;refine seg 12 (fun a_ w_=>QA = w_ ∧ St 269 a_ [(234,.bool e0),(13,ji q0),(12,pB k0),(9,b0),(5,pB c0),(3,pB d0),(1,v1)]) ?_ ?_
      ·by_cases hc:(decide (q0 ≥ a2)) = true
       ·rw [if_pos hc] at F0;rw [hc] at S;refine dl2 S 2 (224,.pointer (some ((⟨k0,0,.none⟩:Addr).add (a_i gf8 8)))) (223,ji q0) fun a S=>wgo S (a_b (t:=(.int .i64)) (x:=r0.2.2.2.2.2.2.2.2.1) S rfl ty3 rfl rfl rfl (RepAt.add 8 (RepAt.st (t:=gf8) p0.at_)) fun a dE m6 S=>?_);obtain ⟨rfl,nB⟩:=RepV.int m6;refine dl1 S 1 (226,.pointer (some ((⟨c0,0,.none⟩:Addr).add (a_i gf2 1)))) fun a S=>wgo S (a_b (t:=(.int .i64)) (x:=x2.2.1) S rfl ty3 rfl rfl rfl (RepAt.add 1 (RepAt.st (t:=gf2) i0.at_)) fun a eE n6 S=>?_);obtain ⟨rfl,oB⟩:=RepV.int n6;obtain ⟨SA,H6,F0⟩:=a_d F0;refine wgo S (a_f S .i64 (x2.2.1 + 1) rfl (.inl rfl) rfl rfl rfl rfl H6 fun a S=>dl1 S 1 (229,.pointer (some ((⟨k0,0,.none⟩:Addr).add (a_i gf8 6)))) fun a S=>wgo S (a_b (t:=(.int .i64)) (x:=r0.2.2.2.2.2.2.1) S rfl ty3 rfl rfl rfl (RepAt.add 6 (RepAt.st (t:=gf8) p0.at_)) fun a fE o6 S=>?_));obtain ⟨rfl,qB⟩:=RepV.int o6;obtain ⟨TA,I6,F0⟩:=a_d F0;refine wgo S (a_f S .i64 (SA * r0.2.2.2.2.2.2.1) rfl (.inr (.inr rfl)) rfl rfl rfl rfl I6 fun a S=>?_);obtain ⟨H4,J6,F0⟩:=a_d F0;refine wgo S (a_f S .i64 (r0.2.2.2.2.2.2.2.2.1 + TA) rfl (.inl rfl) rfl rfl rfl rfl J6 fun a S=>dl2 S 2 (234,.bool (decide (q0 < H4))) (233,.bool (decide (q0 < H4))) fun a S=>?_);obtain rfl:=oi F0;exact ⟨rfl,S.su⟩
       ·rw [if_neg hc] at F0;rw [show (decide (q0 ≥ a2)) = false from Bool.eq_false_iff.2 hc] at S;refine dl8 S 8 (230,undef) (229,undef) (228,undef) (227,undef) (226,undef) (225,undef) (224,undef) (223,undef) fun a S=>dl4 S 4 (234,.bool false) (233,undef) (232,undef) (231,undef) fun a S=>?_;obtain rfl:=oi F0;exact ⟨rfl,S.su⟩
      clear S F0;rintro a _ ⟨rfl,S⟩;refine dl1 S 1 (14,.bool e0) fun a S=>wn (a_a ?_);replace S:=S.su (l':=[(14,.bool e0),(13,ji q0),(12,pB k0),(9,b0),(5,pB c0),(3,pB d0),(1,v1)]);refine ws ?_;obtain ⟨Y0,I0,u0⟩:=a_d u0;obtain ⟨A0,B0,a1⟩:∃ (A0:(Int)) (B0:(Int)) ,((!e0) = true → (p19 n x0 (⟨a0.1.xs,a0.1.cap⟩:Sl (Int)) q0) = some A0 ∧ (p19 n x0 x1 q0) = some B0 ∧ (A0 != B0) = Y0) ∧ (¬ (!e0) = true → false = Y0):=by
       by_cases hc:(!e0) = true
       ·rw [if_pos hc] at I0;obtain ⟨A0,e1,I0⟩:=a_d I0;obtain ⟨B0,f1,I0⟩:=a_d I0;exact ⟨A0,B0,⟨fun _=>⟨e1,f1,oi I0⟩,fun k_=>absurd hc k_⟩⟩
       ·rw [if_neg hc] at I0;exact ⟨default,default,⟨fun k_=>absurd k_ hc,fun _=>oi I0⟩⟩
      have hR:Rel (Kw K w [some k0,b0.ownBlock,some c0,some d0]) Bl:=Bl.rel _;refine a_T hR [eqv (.bool e0),eqv (.bool (!e0)),eqv (.bool (!e0)),cndF (!e0) true (a_w gt9 (Kw K w [some k0,b0.ownBlock,some c0,some d0]) x0),cndF (!e0) true (eqv (b0)),cndF (!e0) true (isI .i64 q0),cndF (!e0) true (isI .i64 A0),cndF (!e0) true (a_w gt9 (Kw K w [some k0,b0.ownBlock,some c0,some d0]) x0),cndF (!e0) true (a_w (.sl (.int .u8)) (Kw K w [some k0,b0.ownBlock,some c0,some d0]) x1),cndF (!e0) true (isI .i64 q0),cndF (!e0) true (isI .i64 B0),cndF (!e0) true (eqv (.bool (A0 != B0))),eqv (.bool Y0)] [[],[(0,235)],[(1,236)],[(2,237)],[(2,237)],[(2,237)],[(3,238),(4,239),(5,240),(2,237)],[(2,237)],[(2,237)],[(2,237)],[(7,242),(8,243),(9,244),(2,237)],[(6,241),(10,245),(2,237)],[(2,237),(11,246)]] (by kernel_rfl) (by rw [S.size];kernel_rfl) (by kernel_rfl) (by kernel_rfl) rfl ⟨(a_h _),(a_h _),(a_h _),(a_g (a_A hR)),(a_g (a_h _)),(a_g a_m),(a_g a_m),(a_g (a_A hR)),(a_g (a_A hR)),(a_g a_m),(a_g a_m),(a_g (a_h _)),(a_h _),trivial⟩ ?_ ?_
      ·
       refine RunAll.cons (eqv (.bool e0)) [] rfl rfl ?_ ?_
       ·intro W_ hW;have S1:=S;exact RPost.o1 tys_ok (v:=.bool e0) S1 S rfl (by kernel_rfl) rfl
       refine RunAll.cons (eqv (.bool (!e0))) [(eqv (.bool e0),235)] rfl rfl ?_ ?_
       ·intro W_ hW;have S1:=S;rintro _ rfl;replace S1:=S1.pt 235 (.bool e0) rfl;exact RPost.o1 tys_ok (v:=.bool (!e0)) S1 S rfl (by kernel_rfl) rfl
       refine RunAll.cons (eqv (.bool (!e0))) [(eqv (.bool (!e0)),236)] rfl rfl ?_ ?_
       ·intro W_ hW;have S1:=S;rintro _ rfl;replace S1:=S1.pt 236 (.bool (!e0)) rfl;exact RPost.o1 tys_ok (v:=.bool (!e0)) S1 S rfl (by kernel_rfl) rfl
       refine RunAll.cons (cndF (!e0) true (a_w gt9 (Kw K w [some k0,b0.ownBlock,some c0,some d0]) x0)) [(eqv (.bool (!e0)),237)] rfl rfl ?_ ?_
       ·intro W_ hW;by_cases hc0:(!e0) = true
        ·have hl0:(!e0) = true:=hc0;have S1:=S;rintro _ rfl;replace S1:=S1.pt 237 (.bool (!e0)) rfl;refine a_c S1 fun a_ S1=>?_;replace h0:=h0.step hW;rw [show (!e0) = true from hl0] at S1;have S0:=S.defers;replace S:=S1;clear S1;obtain ⟨e1,f1,_⟩:=(a1).1 hc0;refine wgo S (a_b (t:=gt9) (x:=x0) S rfl ty25 rfl rfl rfl h0.at_ fun a gE p6 S=>wn ?_);exact RPost.mk_ S rfl S0 ⟨fun _=>p6,fun k_=>absurd hc0 k_⟩ (Below.refl _ _)
        ·have hl0:(!e0) = false:=Bool.eq_false_iff.2 hc0;have S1:=S;rintro _ rfl;replace S1:=S1.pt 237 (.bool (!e0)) rfl;refine a_c S1 fun a_ S1=>?_;rw [show (!e0) = false from hl0] at S1;exact RPost.o1 tys_ok (v:=undef) S1 S rfl (by kernel_rfl) ⟨fun k_=>absurd k_ hc0,fun _=>rfl⟩
       refine RunAll.cons (cndF (!e0) true (eqv (b0))) [(eqv (.bool (!e0)),237)] rfl rfl ?_ ?_
       ·intro W_ hW;by_cases hc0:(!e0) = true
        ·have hl0:(!e0) = true:=hc0;have S1:=S;rintro _ rfl;replace S1:=S1.pt 237 (.bool (!e0)) rfl;refine a_c S1 fun a_ S1=>?_;replace l0:=l0.step hW;rw [show (!e0) = true from hl0] at S1;exact RPost.o1 tys_ok (v:=b0) S1 S rfl (by kernel_rfl) ⟨fun _=>rfl,fun k_=>absurd hc0 k_⟩
        ·have hl0:(!e0) = false:=Bool.eq_false_iff.2 hc0;have S1:=S;rintro _ rfl;replace S1:=S1.pt 237 (.bool (!e0)) rfl;refine a_c S1 fun a_ S1=>?_;rw [show (!e0) = false from hl0] at S1;exact RPost.o1 tys_ok (v:=undef) S1 S rfl (by kernel_rfl) ⟨fun k_=>absurd k_ hc0,fun _=>rfl⟩
       refine RunAll.cons (cndF (!e0) true (isI .i64 q0)) [(eqv (.bool (!e0)),237)] rfl rfl ?_ ?_
       ·intro W_ hW;by_cases hc0:(!e0) = true
        ·have hl0:(!e0) = true:=hc0;have S1:=S;rintro _ rfl;replace S1:=S1.pt 237 (.bool (!e0)) rfl;refine a_c S1 fun a_ S1=>?_;rw [show (!e0) = true from hl0] at S1;exact RPost.o1 tys_ok (v:=ji q0) S1 S rfl (by kernel_rfl) ⟨fun _=>⟨rfl,d4⟩,fun k_=>absurd hc0 k_⟩
        ·have hl0:(!e0) = false:=Bool.eq_false_iff.2 hc0;have S1:=S;rintro _ rfl;replace S1:=S1.pt 237 (.bool (!e0)) rfl;refine a_c S1 fun a_ S1=>?_;rw [show (!e0) = false from hl0] at S1;exact RPost.o1 tys_ok (v:=undef) S1 S rfl (by kernel_rfl) ⟨fun k_=>absurd k_ hc0,fun _=>rfl⟩
       refine RunAll.cons (cndF (!e0) true (isI .i64 A0)) [(cndF (!e0) true (a_w gt9 (Kw K w [some k0,b0.ownBlock,some c0,some d0]) x0),238),(cndF (!e0) true (eqv (b0)),239),(cndF (!e0) true (isI .i64 q0),240),(eqv (.bool (!e0)),237)] rfl rfl ?_ ?_
       ·intro W_ hW;by_cases hc0:(!e0) = true
        ·have hl0:(!e0) = true:=hc0;have S1:=S;intro yA H3;replace H3:=cndF.pos H3 hc0
         revert H3
         revert yA
         intro z4 I3;replace I3:RepV _ _ _ _ _:=I3;replace S1:=S1.pt 238 (z4) rfl;intro zA J3;replace J3:=cndF.pos J3 hc0
         revert J3
         revert zA
         intro AA M7;obtain rfl:b0 = AA:=Eq.symm M7;replace S1:=S1.pt 239 (b0) rfl;intro BA K3;replace K3:=cndF.pos K3 hc0
         revert K3
         revert BA
         rintro _ ⟨rfl,N7⟩;replace S1:=S1.pt 240 (ji q0) rfl;rintro _ rfl;replace S1:=S1.pt 237 (.bool (!e0)) rfl;refine a_c S1 fun a_ S1=>?_;replace l0:=l0.step hW;replace W:=W.step hW;rw [show (!e0) = true from hl0] at S1;have S0:=S.defers;replace S:=S1;clear S1;obtain ⟨e1,f1,_⟩:=(a1).1 hc0;refine wgo S (a_k (vs:=[z4,b0,ji q0]) S rfl cb19 rfl rfl rfl (c19 (Kw K w []) n W_ x0 _ I3.out (⟨a0.1.xs,a0.1.cap⟩:Sl (Int)) _ l0.read q0 N7 e1) ?_);rintro _ HE ⟨hE,rfl,q6,d8⟩;refine ⟨_,rfl,?_⟩;clear S;intro a S;obtain ⟨rfl,b5⟩:=RepV.int q6;refine wn ?_;exact RPost.mk_ S rfl S0 ⟨fun _=>⟨rfl,b5⟩,fun k_=>absurd hc0 k_⟩ (d8)
        ·have hl0:(!e0) = false:=Bool.eq_false_iff.2 hc0;have S1:=S;intro iE O7;obtain rfl:=cndF.neg O7 hc0;replace S1:=S1.pt 238 (undef) rfl;intro jE P7;obtain rfl:=cndF.neg P7 hc0;replace S1:=S1.pt 239 (undef) rfl;intro kE Q7;obtain rfl:=cndF.neg Q7 hc0;replace S1:=S1.pt 240 (undef) rfl;rintro _ rfl;replace S1:=S1.pt 237 (.bool (!e0)) rfl;refine a_c S1 fun a_ S1=>?_;rw [show (!e0) = false from hl0] at S1;exact RPost.o1 tys_ok (v:=undef) S1 S rfl (by kernel_rfl) ⟨fun k_=>absurd k_ hc0,fun _=>rfl⟩
       refine RunAll.cons (cndF (!e0) true (a_w gt9 (Kw K w [some k0,b0.ownBlock,some c0,some d0]) x0)) [(eqv (.bool (!e0)),237)] rfl rfl ?_ ?_
       ·intro W_ hW;by_cases hc0:(!e0) = true
        ·have hl0:(!e0) = true:=hc0;have S1:=S;rintro _ rfl;replace S1:=S1.pt 237 (.bool (!e0)) rfl;refine a_c S1 fun a_ S1=>?_;replace h0:=h0.step hW;rw [show (!e0) = true from hl0] at S1;have S0:=S.defers;replace S:=S1;clear S1;obtain ⟨e1,f1,_⟩:=(a1).1 hc0;refine wgo S (a_b (t:=gt9) (x:=x0) S rfl ty25 rfl rfl rfl h0.at_ fun a lE r6 S=>wn ?_);exact RPost.mk_ S rfl S0 ⟨fun _=>r6,fun k_=>absurd hc0 k_⟩ (Below.refl _ _)
        ·have hl0:(!e0) = false:=Bool.eq_false_iff.2 hc0;have S1:=S;rintro _ rfl;replace S1:=S1.pt 237 (.bool (!e0)) rfl;refine a_c S1 fun a_ S1=>?_;rw [show (!e0) = false from hl0] at S1;exact RPost.o1 tys_ok (v:=undef) S1 S rfl (by kernel_rfl) ⟨fun k_=>absurd k_ hc0,fun _=>rfl⟩
       refine RunAll.cons (cndF (!e0) true (a_w (.sl (.int .u8)) (Kw K w [some k0,b0.ownBlock,some c0,some d0]) x1)) [(eqv (.bool (!e0)),237)] rfl rfl ?_ ?_
       ·intro W_ hW;by_cases hc0:(!e0) = true
        ·have hl0:(!e0) = true:=hc0;have S1:=S;rintro _ rfl;replace S1:=S1.pt 237 (.bool (!e0)) rfl;refine a_c S1 fun a_ S1=>?_;replace R1:=R1.step hW;rw [show (!e0) = true from hl0] at S1;exact RPost.o1 tys_ok (v:=v1) S1 S rfl (by kernel_rfl) ⟨fun _=>R1,fun k_=>absurd hc0 k_⟩
        ·have hl0:(!e0) = false:=Bool.eq_false_iff.2 hc0;have S1:=S;rintro _ rfl;replace S1:=S1.pt 237 (.bool (!e0)) rfl;refine a_c S1 fun a_ S1=>?_;rw [show (!e0) = false from hl0] at S1;exact RPost.o1 tys_ok (v:=undef) S1 S rfl (by kernel_rfl) ⟨fun k_=>absurd k_ hc0,fun _=>rfl⟩
       refine RunAll.cons (cndF (!e0) true (isI .i64 q0)) [(eqv (.bool (!e0)),237)] rfl rfl ?_ ?_
       ·intro W_ hW;by_cases hc0:(!e0) = true
        ·have hl0:(!e0) = true:=hc0;have S1:=S;rintro _ rfl;replace S1:=S1.pt 237 (.bool (!e0)) rfl;refine a_c S1 fun a_ S1=>?_;rw [show (!e0) = true from hl0] at S1;exact RPost.o1 tys_ok (v:=ji q0) S1 S rfl (by kernel_rfl) ⟨fun _=>⟨rfl,d4⟩,fun k_=>absurd hc0 k_⟩
        ·have hl0:(!e0) = false:=Bool.eq_false_iff.2 hc0;have S1:=S;rintro _ rfl;replace S1:=S1.pt 237 (.bool (!e0)) rfl;refine a_c S1 fun a_ S1=>?_;rw [show (!e0) = false from hl0] at S1;exact RPost.o1 tys_ok (v:=undef) S1 S rfl (by kernel_rfl) ⟨fun k_=>absurd k_ hc0,fun _=>rfl⟩
       refine RunAll.cons (cndF (!e0) true (isI .i64 B0)) [(cndF (!e0) true (a_w gt9 (Kw K w [some k0,b0.ownBlock,some c0,some d0]) x0),242),(cndF (!e0) true (a_w (.sl (.int .u8)) (Kw K w [some k0,b0.ownBlock,some c0,some d0]) x1),243),(cndF (!e0) true (isI .i64 q0),244),(eqv (.bool (!e0)),237)] rfl rfl ?_ ?_
       ·intro W_ hW;by_cases hc0:(!e0) = true
        ·have hl0:(!e0) = true:=hc0;have S1:=S;intro CA L3;replace L3:=cndF.pos L3 hc0
         revert L3
         revert CA
         intro A4 M3;replace M3:RepV _ _ _ _ _:=M3;replace S1:=S1.pt 242 (A4) rfl;intro DA N3;replace N3:=cndF.pos N3 hc0
         revert N3
         revert DA
         intro B4 O3;replace O3:RepV _ _ _ _ _:=O3;replace S1:=S1.pt 243 (B4) rfl;intro EA P3;replace P3:=cndF.pos P3 hc0
         revert P3
         revert EA
         rintro _ ⟨rfl,R7⟩;replace S1:=S1.pt 244 (ji q0) rfl;rintro _ rfl;replace S1:=S1.pt 237 (.bool (!e0)) rfl;refine a_c S1 fun a_ S1=>?_;replace W:=W.step hW;rw [show (!e0) = true from hl0] at S1;have S0:=S.defers;replace S:=S1;clear S1;obtain ⟨e1,f1,_⟩:=(a1).1 hc0;refine wgo S (a_k (vs:=[A4,B4,ji q0]) S rfl cb19 rfl rfl rfl (c19 (Kw K w [some k0,b0.ownBlock,some c0,some d0]) n W_ x0 _ M3 x1 _ O3 q0 R7 f1) ?_);rintro _ IE ⟨mE,rfl,A2,e8⟩;refine ⟨_,rfl,?_⟩;replace A2:=RepV.back A2 W;clear S;intro a S;obtain ⟨rfl,c5⟩:=RepV.int A2;refine wn ?_;exact RPost.mk_ S rfl S0 ⟨fun _=>⟨rfl,c5⟩,fun k_=>absurd hc0 k_⟩ (e8)
        ·have hl0:(!e0) = false:=Bool.eq_false_iff.2 hc0;have S1:=S;intro nE S7;obtain rfl:=cndF.neg S7 hc0;replace S1:=S1.pt 242 (undef) rfl;intro oE T7;obtain rfl:=cndF.neg T7 hc0;replace S1:=S1.pt 243 (undef) rfl;intro pE U7;obtain rfl:=cndF.neg U7 hc0;replace S1:=S1.pt 244 (undef) rfl;rintro _ rfl;replace S1:=S1.pt 237 (.bool (!e0)) rfl;refine a_c S1 fun a_ S1=>?_;rw [show (!e0) = false from hl0] at S1;exact RPost.o1 tys_ok (v:=undef) S1 S rfl (by kernel_rfl) ⟨fun k_=>absurd k_ hc0,fun _=>rfl⟩
       refine RunAll.cons (cndF (!e0) true (eqv (.bool (A0 != B0)))) [(cndF (!e0) true (isI .i64 A0),241),(cndF (!e0) true (isI .i64 B0),245),(eqv (.bool (!e0)),237)] rfl rfl ?_ ?_
       ·intro W_ hW;by_cases hc0:(!e0) = true
        ·have hl0:(!e0) = true:=hc0;have S1:=S;intro FA R3;replace R3:=cndF.pos R3 hc0
         revert R3
         revert FA
         rintro _ ⟨rfl,VB⟩;replace S1:=S1.pt 241 (ji A0) rfl;intro HA S3;replace S3:=cndF.pos S3 hc0
         revert S3
         revert HA
         rintro _ ⟨rfl,WB⟩;replace S1:=S1.pt 245 (ji B0) rfl;rintro _ rfl;replace S1:=S1.pt 237 (.bool (!e0)) rfl;refine a_c S1 fun a_ S1=>?_;rw [show (!e0) = true from hl0] at S1;exact RPost.o1 tys_ok (v:=.bool (A0 != B0)) S1 S rfl (by kernel_rfl) ⟨fun _=>rfl,fun k_=>absurd hc0 k_⟩
        ·have hl0:(!e0) = false:=Bool.eq_false_iff.2 hc0;have S1:=S;intro qE V7;obtain rfl:=cndF.neg V7 hc0;replace S1:=S1.pt 241 (undef) rfl;intro rE W7;obtain rfl:=cndF.neg W7 hc0;replace S1:=S1.pt 245 (undef) rfl;rintro _ rfl;replace S1:=S1.pt 237 (.bool (!e0)) rfl;refine a_c S1 fun a_ S1=>?_;rw [show (!e0) = false from hl0] at S1;exact RPost.o1 tys_ok (v:=undef) S1 S rfl (by kernel_rfl) ⟨fun k_=>absurd k_ hc0,fun _=>rfl⟩
       refine RunAll.cons (eqv (.bool Y0)) [(eqv (.bool (!e0)),237),(cndF (!e0) true (eqv (.bool (A0 != B0))),246)] rfl rfl ?_ ?_
       ·intro W_ hW;by_cases hc0:(!e0) = true
        ·have hl0:(!e0) = true:=hc0;have S1:=S;rintro _ rfl;replace S1:=S1.pt 237 (.bool (!e0)) rfl;intro IA T3;replace T3:=cndF.pos T3 hc0
         revert T3
         revert IA
         rintro _ rfl;replace S1:=S1.pt 246 (.bool (A0 != B0)) rfl;refine a_c S1 fun a_ S1=>?_;rw [show (!e0) = true from hl0] at S1;exact RPost.o1 tys_ok (v:=.bool (A0 != B0)) S1 S rfl (by kernel_rfl) (congrArg Value.bool ((a1).1 hc0).2.2)
        ·have hl0:(!e0) = false:=Bool.eq_false_iff.2 hc0;have S1:=S;rintro _ rfl;replace S1:=S1.pt 237 (.bool (!e0)) rfl;intro cC Q6;obtain rfl:=cndF.neg Q6 hc0;replace S1:=S1.pt 246 (undef) rfl;refine a_c S1 fun a_ S1=>?_;rw [show (!e0) = false from hl0] at S1;exact RPost.o1 tys_ok (v:=.bool false) S1 S rfl (by kernel_rfl) (congrArg Value.bool ((a1).2 hc0))
       exact trivial
      intro sE i1;refine EndE.some_ rfl ?_;rintro _ rfl;replace S:=S.pt 235 (.bool e0) rfl;refine EndE.some_ rfl ?_;rintro _ rfl;replace S:=S.pt 236 (.bool (!e0)) rfl;refine EndE.some_ rfl ?_;rintro _ rfl;replace S:=S.pt 237 (.bool (!e0)) rfl;refine EndE.some_ rfl ?_;intro n8 _;replace S:=S.pt 238 (n8) rfl;refine EndE.some_ rfl ?_;intro o8 _;replace S:=S.pt 239 (o8) rfl;refine EndE.some_ rfl ?_;intro p8 _;replace S:=S.pt 240 (p8) rfl;refine EndE.some_ rfl ?_;intro q8 _;replace S:=S.pt 241 (q8) rfl;refine EndE.some_ rfl ?_;intro r8 _;replace S:=S.pt 242 (r8) rfl;refine EndE.some_ rfl ?_;intro s8 _;replace S:=S.pt 243 (s8) rfl;refine EndE.some_ rfl ?_;intro t8 _;replace S:=S.pt 244 (t8) rfl;refine EndE.some_ rfl ?_;intro v8 _;replace S:=S.pt 245 (v8) rfl;refine EndE.some_ rfl ?_;intro w8 _;replace S:=S.pt 246 (w8) rfl;refine EndE.some_ rfl ?_;rintro _ rfl;replace S:=S.pt 247 (.bool Y0) rfl;refine a_0 S fun a S=>?_;replace R1:=R1.step i1;replace h0:=h0.step i1;replace i0:=i0.step i1;replace p0:=p0.step i1;replace l0:=l0.step i1;replace W:=W.step i1;refine a_a ?_;replace S:=S.su (l':=[(247,.bool Y0),(13,ji q0),(12,pB k0),(9,b0),(5,pB c0),(3,pB d0),(1,v1)]);refine wcs Y0 S rfl (dzp u0) fun hc=>?_;rw [if_neg (bf hc)] at u0;refine wp_skip ?_;refine a_N ?_;refine a_a ?_;replace S:=S.su (l':=[(13,ji q0),(12,pB k0),(9,b0),(5,pB c0),(3,pB d0),(1,v1)]);refine wr ?_;refine dl1 S 1 (210,ji q0) fun a S=>?_;obtain ⟨G4,g4,u0⟩:=a_d u0;refine wgo S (a_f S .i64 (q0 + 1) rfl (.inl rfl) rfl rfl rfl rfl g4 fun a S=>dl1 S 1 (13,ji G4) fun a S=>wn (a_a ?_));exact ⟨G4,⟨S.su,W,(a_j g4).2.1,R1,h0,i0,p0,l0,u0⟩⟩
     ·intro hc;rw [if_neg (bf hc)] at u0;refine wp_exit ?_;refine a_q ?_;refine a_q ?_;refine a_y ?_;refine a_a ?_;obtain rfl:=oi u0;exact ⟨_,rfl,⟨S.su,W,h0,i0,p0,l0⟩⟩
  clear S W;rintro a JA ⟨o4,rfl,S,W,h0,i0,p0,l0⟩;replace h:=b_c h;try dsimp only at h
  refine a_a (ws (wr ?_));refine wgo S (a_b (t:=gt9) (x:=x0) S rfl ty25 rfl rfl rfl h0.at_ fun a x8 c2 S=>dl2 S 2 (251,.pointer (some ((⟨c0,0,.none⟩:Addr).add (a_i gf2 0)))) (250,b0) fun a S=>wgo S (a_b (t:=(.int .i64)) (x:=x2.1) S rfl ty3 rfl rfl rfl (RepAt.add 0 (RepAt.st (t:=gf2) i0.at_)) fun a dC m5 S=>?_));obtain ⟨rfl,J4⟩:=RepV.int m5;refine dl1 S 1 (253,.pointer (some ((⟨c0,0,.none⟩:Addr).add (a_i gf2 1)))) fun a S=>wgo S (a_b (t:=(.int .i64)) (x:=x2.2.1) S rfl ty3 rfl rfl rfl (RepAt.add 1 (RepAt.st (t:=gf2) i0.at_)) fun a eC n5 S=>?_);obtain ⟨rfl,K4⟩:=RepV.int n5;obtain ⟨D0,s6,h⟩:=a_d h;refine wgo S (a_k (vs:=[x8,b0,ji x2.1,ji x2.2.1]) S rfl cb11 rfl rfl rfl (c11 (Kw K w []) n JA x0 _ c2.out (⟨a0.1.xs,a0.1.cap⟩:Sl (Int)) _ l0.read x2.1 J4 x2.2.1 K4 s6) ?_);rintro _ C4 ⟨fC,gC,rfl,o5,p5,j1⟩;refine ⟨_,rfl,?_⟩;clear S;intro a S;replace c2:=c2.step j1;replace h0:=h0.step j1;replace i0:=i0.step j1;replace p0:=p0.step j1;replace l0:=l0.step j1;replace W:=W.step j1;obtain ⟨rfl,UA⟩:=RepV.int o5;obtain ⟨rfl,VA⟩:=RepV.int p5;refine dl5 S 5 (16,ji D0.2) (15,ji D0.1) (257,ji D0.2) (256,ji D0.1) (248,.tuple #[ji D0.1,ji D0.2]) fun a S=>wn (a_a (ws (wr ?_)));refine dl2 S 2 (259,.pointer (some ((⟨c0,0,.none⟩:Addr).add (a_i gf2 2)))) (258,ji D0.1) fun a S=>wgo S (a_b (t:=(.int .i64)) (x:=x2.2.2) S rfl ty3 rfl rfl rfl (RepAt.add 2 (RepAt.st (t:=gf2) i0.at_)) fun a hC q5 S=>?_);obtain ⟨rfl,WA⟩:=RepV.int q5;refine dl2 S 2 (262,.bool (D0.1 == x2.2.2)) (261,.bool (D0.1 == x2.2.2)) fun a S=>?_;obtain ⟨T1,p1,h⟩:=a_d h;refine seg 3 (fun a_ w_=>C4 = w_ ∧ St 269 a_ [(265,.bool T1)]) ?_ ?_
  ·by_cases hc:(D0.1 == x2.2.2) = true
   ·rw [if_pos hc] at p1;rw [hc] at S;refine dl3 S 3 (265,.bool (D0.2 == 0)) (264,.bool (D0.2 == 0)) (263,ji D0.2) fun a S=>?_;obtain rfl:=oi p1;exact ⟨rfl,S.su⟩
   ·rw [if_neg hc] at p1;rw [show (D0.1 == x2.2.2) = false from Bool.eq_false_iff.2 hc] at S;refine dl3 S 3 (265,.bool false) (264,undef) (263,undef) fun a S=>?_;obtain rfl:=oi p1;exact ⟨rfl,S.su⟩
  clear S p1;rintro a _ ⟨rfl,S⟩;refine dl1 S 1 (266,.bool T1) fun a S=>?_;obtain ⟨V3,N0,h⟩:=a_d h;refine seg 2 (fun a_ w_=>St 269 a_ [(268,.bool V3)] ∧ Wd w w_ [some k0,b0.ownBlock,some c0,some d0] ∧ Bx gt9 25 w_ (Kw K w [some k0,b0.ownBlock,some c0,some d0]) d0 x0 ∧ Bx gt2 39 w_ (Kw K w [some k0,b0.ownBlock,some c0,some d0]) c0 x2 ∧ Bx gt8 46 w_ (Kw K w [some k0,b0.ownBlock,some c0,some d0]) k0 r0) ?_ ?_
  ·by_cases hc:T1 = true
   ·rw [if_pos hc] at N0;rw [hc] at S;obtain ⟨l8,t6,N0⟩:=a_d N0;refine wgo S (a_k (vs:=[]) S rfl cb8 rfl rfl rfl (c8 (Kw K w [some k0,b0.ownBlock,some c0,some d0]) n C4  t6) ?_);rintro _ tE ⟨jC,rfl,d2,O1⟩;refine ⟨_,rfl,?_⟩;replace d2:=RepV.back d2 W;clear S;intro a S;replace h0:=h0.step O1;replace i0:=i0.step O1;replace p0:=p0.step O1;replace W:=W.step O1;obtain rfl:=RepV.bool d2;refine dl1 S 1 (268,.bool l8) fun a S=>?_;obtain rfl:=oi N0;exact ⟨S.su,W,h0,i0,p0⟩
   ·rw [if_neg hc] at N0;rw [show T1 = false from Bool.eq_false_iff.2 hc] at S;refine dl2 S 2 (268,.bool false) (267,undef) fun a S=>?_;obtain rfl:=oi N0;exact ⟨S.su,W,h0,i0,p0⟩
  clear S W N0;rintro a uE ⟨S,W,h0,i0,p0⟩;refine dl1 S 1 (6,.bool V3) fun a S=>wn (a_a ?_);replace S:=S.su (l':=[(6,.bool V3)]);refine wp_ret ?_;obtain rfl:=oi h;exact a_I S rfl rfl ⟨_,rfl,RepV.mkBool,W.below⟩
theorem cb4:a_K Try.prog 4 = true:=by kernel_rfl
end Go.Proofs.Ythknbcfelkljcaa
