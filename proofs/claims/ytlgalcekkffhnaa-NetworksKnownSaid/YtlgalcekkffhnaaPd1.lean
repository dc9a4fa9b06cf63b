/- Functions of the program, as plain data. -/
import Derived.Test.YtlgalcekkffhnaaP3
set_option linter.unusedVariables false
set_option linter.unusedSimpArgs false
namespace Go.Proofs.Ytlgalcekkffhnaa
open Go.RowKit
set_option maxHeartbeats 4000000
set_option maxRecDepth 100000
def p4_l1 (n:Nat) (x2:Sl (List (Int))):Nat → (Int) → (List (Int)) → Option ((List (Int)))
 | 0,_,_=>.none
 | m + 1,b0,a0=>(if (decide (b0 < (a_d x2))) = true then some (decide ((a_d (⟨a0,some a0.length⟩:Sl (Int))) > 0)) else some false).bind fun e0=>if e0 then ((idx x2.xs b0).bind fun s0=>(idx s0 0).bind fun t0=>(b_D .i64 t0 (a_d (⟨a0,some a0.length⟩:Sl (Int)))).bind fun k0=>(idx x2.xs b0).bind fun u0=>(idx u0 0).bind fun v0=>(b_D .u16 v0 3).bind fun l0=>(if (l0 == 0) then ((idx x2.xs b0).bind fun w0=>(idx w0 0).bind fun x0=>(b_D .i64 x0 12).bind fun m0=>some m0) else some k0).bind fun (d0:(Int))=>(idx x2.xs b0).bind fun y0=>(idx y0 0).bind fun z0=>(b_D .u16 z0 3).bind fun n0=>(if (n0 == 1) then ((ckI .i64 ((a_d (⟨a0,some a0.length⟩:Sl (Int))) - 1)).bind fun f0=>(idx x2.xs b0).bind fun o0=>(idx o0 0).bind fun p0=>(quoI .u16 p0 3).bind fun g0=>(b_D .i64 g0 (if 40 < (a_d (⟨a0,some a0.length⟩:Sl (Int))) then 40 else a_d (⟨a0,some a0.length⟩:Sl (Int)))).bind fun h0=>(ckI .i64 (f0 - h0)).bind fun i0=>some i0) else some d0).bind fun (c0:(Int))=>(idx x2.xs b0).bind fun q0=>(idx q0 1).bind fun r0=>(idx a0 c0).bind fun A0=>(ckI .i64 (b0 + 1)).bind fun j0=>p4_l1 n x2 m j0 (a0.set c0.toNat (IntKind.wrap .u8 r0))) else some a0
def p4_l2 (n:Nat) (x0:Sl (Int)):Nat → (Int) → (Sl (Int)) → Option ((Unit) ⊕ ((Bool)))
 | 0,_,_=>.none
 | m + 1,c0,e0=>if (decide (c0 < 2)) then ((idx (⟨[x0,e0],some 2⟩:Sl (Sl (Int))).xs c0).bind fun d0=>(p15 n d0).bind fun a0=>(p12 n d0).bind fun b0=>(if (a0.2 != b0.2) = false then (p13 n b0.1.2 (⟨a0.1.xs,a0.1.cap⟩:Sl (Sl (Int)))).bind fun k0=>some (!k0) else some true).bind fun f0=>(if f0 = false then (if (a0.2 != 0) = true then some (b0.1.1 != 0) else some false).bind fun h0=>some h0 else some true).bind fun g0=>(if g0 = false then (if (a0.2 == 0) = true then (p14 n d0 6).bind fun l0=>some (b0.1.1 != l0) else some false).bind fun j0=>some j0 else some true).bind fun i0=>if i0 then (some (.inr false)) else (ckI .i64 (c0 + 1)).bind fun m0=>p4_l2 n x0 m m0 e0) else some (.inl ())
def p4 (n:Nat) (x0:Sl (Int)) (x1:Sl (Sl (Int))) (x2:Sl (List (Int))):Option ((Bool)) :=
 (if (decide ((a_d x0) > 600)) = false then some (decide ((a_d x1) > 20)) else some true).bind fun d0 =>
 (if d0 = false then some (decide ((a_d x2) > 6)) else some true).bind fun e0 =>
 if e0 then ((p8 n).bind fun g0=>some g0) else (p11 n (0,x1)).bind fun a0=>(if (a0.2 != 0) then (some ([])) else some a0.1.xs).bind fun (c0:(List (Int)))=>(p4_l1 n x2 n 0 c0).bind fun (b0:(List (Int)))=>(p4_l2 n x0 n 0 (⟨b0,some b0.length⟩:Sl (Int))).bind fun (h0:(Unit) ⊕ ((Bool)))=>lrK h0 some fun (i0:Unit)=>(p8 n).bind fun f0=>some f0
theorem c4 (K:Nat → Prop) (n:Nat) (w:World) (x0:Sl (Int)) (v0:Value) (R0:RepV (.sl (.int .u8)) w K v0 x0) (x1:Sl (Sl (Int))) (v1:Value) (R1:RepV (.sl (.sl (.int .u8))) w K v1 x1) (x2:Sl (List (Int))) (v2:Value) (R2:RepV (.sl (.arr 2 (.int .u16))) w K v2 x2) {r:(Bool)} (h:p4 n x0 x1 x2 = some r) :
  Calls Try.prog 4 #[v0,v1,v2] w (d_u .bool w (Kw K w []) r):=by
 refine enter (args:=[v0,v1,v2]) Try.func4 rfl 156 rfl rfl fun a S=>?_;have W:=Wd.start w;replace R0:=R0.arg;replace R1:=R1.arg;replace R2:=R2.arg;unfold p4 at h;replace S:St 156 a [(0,v0),(1,v1),(2,v2)]:=S;refine ws (wr ?_);refine dl1 S 1 (6,.bool false) fun a S=>wn (a_a ?_);replace S:=S.su (l':=[(0,v0),(1,v1),(2,v2)]);refine ws (ws (wr ?_));refine dl1 S 1 (17,v0) fun a S=>wgo S (a_i (K:=_) S rfl ty28 rfl rfl rfl R0 fun a F6 S=>dl2 S 2 (20,.bool (decide ((a_d x0) > 600))) (19,.bool (decide ((a_d x0) > 600))) fun a S=>?_);obtain ⟨s1,U0,h⟩:=a_b h;refine seg 4 (fun a_ w_=>w = w_ ∧ St 156 a_ [(24,.bool s1),(0,v0),(1,v1),(2,v2)]) ?_ ?_
 ·by_cases hc:(decide ((a_d x0) > 600)) = false
  ·rw [if_pos hc] at U0;rw [hc] at S;refine dl1 S 1 (21,v1) fun a S=>wgo S (a_i (K:=_) S rfl ty23 rfl rfl rfl R1 fun a L6 S=>dl2 S 2 (24,.bool (decide ((a_d x1) > 20))) (23,.bool (decide ((a_d x1) > 20))) fun a S=>?_);obtain rfl:=oi U0;exact ⟨rfl,S.su⟩
  ·rw [if_neg hc] at U0;rw [show (decide ((a_d x0) > 600)) = true from (by simpa using hc)] at S;refine dl4 S 4 (24,.bool true) (23,undef) (22,undef) (21,undef) fun a S=>?_;obtain rfl:=oi U0;exact ⟨rfl,S.su⟩
 clear S U0;rintro a _ ⟨rfl,S⟩;refine dl1 S 1 (25,.bool s1) fun a S=>?_;obtain ⟨e3,V0,h⟩:=a_b h;refine seg 4 (fun a_ w_=>w = w_ ∧ St 156 a_ [(29,.bool e3),(0,v0),(1,v1),(2,v2)]) ?_ ?_
 ·by_cases hc:s1 = false
  ·rw [if_pos hc] at V0;rw [hc] at S;refine dl1 S 1 (26,v2) fun a S=>wgo S (a_i (K:=_) S rfl ty40 rfl rfl rfl R2 fun a O6 S=>dl2 S 2 (29,.bool (decide ((a_d x2) > 6))) (28,.bool (decide ((a_d x2) > 6))) fun a S=>?_);obtain rfl:=oi V0;exact ⟨rfl,S.su⟩
  ·rw [if_neg hc] at V0;rw [show s1 = true from (by simpa using hc)] at S;refine dl4 S 4 (29,.bool true) (28,undef) (27,undef) (26,undef) fun a S=>?_;obtain rfl:=oi V0;exact ⟨rfl,S.su⟩
 clear S V0;rintro a _ ⟨rfl,S⟩;refine wn (a_a ?_);refine wcs e3 S rfl ?_ ?_
 ·intro hc;rw [if_pos hc] at h;refine ws (wr ?_);obtain ⟨T4,S3,h⟩:=a_b h;refine wgo S (a_g (vs:=[]) S rfl cb8 rfl rfl rfl (c8 (Kw K w []) n w  S3) ?_);rintro _ w8 ⟨s8,rfl,D1,r1⟩;refine ⟨_,rfl,?_⟩;replace D1:=RepV.back D1 W;clear S;intro a S;replace R0:=R0.step r1;replace R1:=R1.step r1;replace R2:=R2.step r1;replace W:=W.step r1;obtain rfl:=RepV.bool D1;refine dl1 S 1 (6,.bool T4) fun a S=>wn (a_a (wp_ret (a_k ?_)));obtain rfl:=oi h;exact a_B S rfl rfl ⟨_,rfl,RepV.mkBool,W.below⟩
 ·intro hc;rw [if_neg (bf hc)] at h;refine wp_skip (a_a ?_);replace S:=S.su (l':=[(0,v0),(1,v1),(2,v2)]);refine ws (wr ?_);refine dl1 S 1 (32,v1) fun a S=>wgo S (a_T (K:=(Kw K w [])) (f:=gf0) (z0:=(0,⟨[],some 0⟩)) (x:=(0,x1)) (vs:=[v1]) S _ rfl ty25 z25 (fun w K=>⟨[.int .u16 0],[.slice .none 0 0],rfl,⟨rfl,by decide⟩,⟨.none,0,0,rfl,rfl,Nat.le_refl _,by decide,fun k h=>oi h,.inl rfl⟩⟩) rfl rfl rfl [(1,v1)] rfl ⟨_,R1,rfl,rfl,rfl⟩ fun a U4 w1 S=>?_);obtain ⟨N0,O3,h⟩:=a_b h;refine wgo S (a_g (vs:=[U4]) S rfl cb11 rfl rfl rfl (c11_cut (Kw K w []) n w (0,x1) _ w1 O3) ?_);rintro _ n6 ⟨j1,r7,rfl,n1,z1,P4⟩;refine ⟨_,rfl,?_⟩;have NO_:=a_4 n1 (Nat.le_refl _) P4;replace n1:=Ow.backO n1 W;replace z1:=RepV.backO z1 W;clear S;intro a S;replace R0:=R0.newO NO_;replace R1:=R1.newO NO_;replace R2:=R2.newO NO_;replace w1:=w1.newO NO_;replace W:=W.newO NO_;clear NO_;obtain ⟨rfl,C6⟩:=RepV.int z1;refine dl5 S 5 (8,ji N0.2) (7,(c_g j1)) (36,ji N0.2) (35,(c_g j1)) (31,.tuple #[(c_g j1),ji N0.2]) fun a S=>wn (a_a (ws (ws (wr ?_))));refine dl2 S 2 (38,.bool (N0.2 != 0)) (37,ji N0.2) fun a S=>wn (a_a ?_);obtain ⟨c3,p1,h⟩:=a_b h;refine a_y (fun a_ w_=>∃ (e0:Value),St 156 a_ [(7,(c_g e0)),(0,v0),(2,v2)] ∧ Wd w w_ [e0.ownBlock] ∧ RepV (.sl (.int .u8)) w_ (Kw K w [e0.ownBlock]) v0 x0 ∧ RepV (.sl (.arr 2 (.int .u16))) w_ (Kw K w [e0.ownBlock]) v2 x2 ∧ Ow (.int .u8) 5 w_ w.heap.size (Kw K w [e0.ownBlock]) e0 c3 .none) ?_ ?_
  ·refine wcs (N0.2 != 0) S rfl ?_ ?_
   ·intro hc;rw [if_pos hc] at p1;refine wr ?_;refine dl1 S 1 (7,.slice .none 0 0) fun a S=>wn (a_a ?_);obtain rfl:=oi p1;replace R0:=R0.more;replace R2:=R2.more;replace W:=W.more;have z3:Ow (.int .u8) 5 n6 w.heap.size (Kw K w [.none,j1.ownBlock]) (.slice .none 0 0) ([]:List (Int)) (some 0):=Ow.nil;exact ⟨(.slice .none 0 0),S.su,(W.lessAt 1),(R0.lessAt 1),(R2.lessAt 1),(z3.lessAt 1).forget⟩
   ·intro hc;rw [if_neg (bf hc)] at p1;refine wp_skip (a_a ?_);obtain rfl:=oi p1;exact ⟨j1,S.su,W,R0,R2,n1⟩
  clear S W;rintro a A8 ⟨e0,S,W,R0,R2,y3⟩;refine a_a (ws (ws (wr ?_)));refine dl1 S 1 (9,ji 0) fun a S=>wn (a_a ?_);obtain ⟨P0,b4,h⟩:=a_b h;refine a_y (fun a_ w_=>St 156 a_ [(0,v0),(7,(c_g e0))] ∧ Wd w w_ [e0.ownBlock] ∧ RepV (.sl (.int .u8)) w_ (Kw K w [e0.ownBlock]) v0 x0 ∧ Ow (.int .u8) 5 w_ w.heap.size (Kw K w [e0.ownBlock]) e0 P0 .none) ?_ ?_
  ·refine wp_block ?_;refine a_w (fun m_ a_ w_=>∃ (i0:Int) (t0:List (Int)) ,St 156 a_ [(9,ji i0),(7,(c_g e0)),(0,v0),(2,v2)] ∧ Wd w w_ [e0.ownBlock] ∧ InR .i64 i0 ∧ RepV (.sl (.int .u8)) w_ (Kw K w [e0.ownBlock]) v0 x0 ∧ RepV (.sl (.arr 2 (.int .u16))) w_ (Kw K w [e0.ownBlock]) v2 x2 ∧ Ow (.int .u8) 5 w_ w.heap.size (Kw K w [e0.ownBlock]) e0 t0 .none ∧ p4_l1 n x2 m_ i0 t0 = some P0) n ?_ ?_
   ·skip
    exact ⟨0,c3,⟨S.su,W,(show InR .i64 0 by decide),R0,R2,y3,b4⟩⟩
   ·clear S W;rintro E2 a o6 ⟨i0,t0,S,W,K6,R0,R2,s0,f0⟩
    cases E2 with
    | zero=>exact absurd f0 (by simp [p4_l1])
    | succ E2 =>
     refine ⟨E2,rfl,?_⟩;rw [p4_l1] at f0;refine ws (ws (wr ?_));refine dl2 S 2 (40,v2) (39,ji i0) fun a S=>wgo S (a_i (K:=_) S rfl ty40 rfl rfl rfl R2 fun a M6 S=>dl2 S 2 (43,.bool (decide (i0 < (a_d x2)))) (42,.bool (decide (i0 < (a_d x2)))) fun a S=>?_);obtain ⟨f3,W0,f0⟩:=a_b f0;refine seg 4 (fun a_ w_=>o6 = w_ ∧ St 156 a_ [(47,.bool f3),(9,ji i0),(7,(c_g e0)),(0,v0),(2,v2)]) ?_ ?_
     ·by_cases hc:(decide (i0 < (a_d x2))) = true
      ·rw [if_pos hc] at W0;rw [hc] at S;refine dl1 S 1 (44,(c_g e0)) fun a S=>wgo S (a_i (K:=_) S rfl ty28 rfl rfl rfl (Ow.cutRead s0) fun a N6 S=>dl2 S 2 (47,.bool (decide ((a_d (⟨t0,some t0.length⟩:Sl (Int))) > 0))) (46,.bool (decide ((a_d (⟨t0,some t0.length⟩:Sl (Int))) > 0))) fun a S=>?_);obtain rfl:=oi W0;exact ⟨rfl,S.su⟩
      ·rw [if_neg hc] at W0;rw [show (decide (i0 < (a_d x2))) = false from Bool.eq_false_iff.2 hc] at S;refine dl4 S 4 (47,.bool false) (46,undef) (45,undef) (44,undef) fun a S=>?_;obtain rfl:=oi W0;exact ⟨rfl,S.su⟩
     clear S W0;rintro a _ ⟨rfl,S⟩;refine wn (a_a ?_);refine wcs f3 S rfl ?_ ?_
     ·intro hc;rw [if_pos hc] at f0;refine wp_skip (a_a ?_);replace S:=S.su (l':=[(9,ji i0),(7,(c_g e0)),(0,v0),(2,v2)]);refine ws (wp_block (ws (wr ?_)));refine dl2 S 2 (51,ji i0) (50,v2) fun a S=>?_;obtain ⟨K8,d4,f0⟩:=a_b f0;refine wgo S (a_p S rfl ty40 rfl rfl rfl R2 rfl d4 fun a l7 J2 T6 S=>?_);obtain ⟨w6,X2,f0⟩:=a_b f0;refine wgo S (a_R S rfl ty41 rfl rfl rfl J2 rfl X2 fun a S=>wgo S (a_f (t:=(.int .u16)) (x:=w6) S rfl ty22 rfl rfl rfl (RepAt.ix J2 X2) fun a g8 K3 S=>?_));obtain ⟨rfl,u3⟩:=RepV.int K3;refine wgo S (a_0 S .i64 .bool .bool rfl ty22 ty3 rfl rfl rfl (b_F u3 (by decide)).1 fun a S=>dl1 S 1 (56,(c_g e0)) fun a S=>wgo S (a_i (K:=_) S rfl ty28 rfl rfl rfl (Ow.cutRead s0) fun a P6 S=>?_));obtain ⟨t6,Q2,f0⟩:=a_b f0;refine wgo S (a_9 S .i64 rfl rfl rfl rfl rfl Q2 fun a S=>dl1 S 1 (10,ji t6) fun a S=>wn (a_a (ws (ws (wr ?_)))));refine dl2 S 2 (60,ji i0) (59,v2) fun a S=>?_;obtain ⟨L8,e4,f0⟩:=a_b f0;refine wgo S (a_p S rfl ty40 rfl rfl rfl R2 rfl e4 fun a m7 K2 U6 S=>?_);obtain ⟨x6,Y2,f0⟩:=a_b f0;refine wgo S (a_R S rfl ty41 rfl rfl rfl K2 rfl Y2 fun a S=>wgo S (a_f (t:=(.int .u16)) (x:=x6) S rfl ty22 rfl rfl rfl (RepAt.ix K2 Y2) fun a q8 L3 S=>?_));obtain ⟨rfl,D6⟩:=RepV.int L3;obtain ⟨n3,V3,f0⟩:=a_b f0;refine wgo S (a_9 S .u16 rfl rfl rfl rfl rfl V3 fun a S=>dl1 S 1 (65,.bool (n3 == 0)) fun a S=>wn (a_a ?_));obtain ⟨d3,A0,f0⟩:=a_b f0;refine a_y (fun a_ w_=>St 156 a_ [(10,ji d3),(9,ji i0),(7,(c_g e0)),(0,v0),(2,v2)] ∧ Wd w w_ [e0.ownBlock] ∧ InR .i64 d3 ∧ RepV (.sl (.int .u8)) w_ (Kw K w [e0.ownBlock]) v0 x0 ∧ RepV (.sl (.arr 2 (.int .u16))) w_ (Kw K w [e0.ownBlock]) v2 x2 ∧ Ow (.int .u8) 5 w_ w.heap.size (Kw K w [e0.ownBlock]) e0 t0 .none) ?_ ?_
      ·refine wcs (n3 == 0) S rfl ?_ ?_
       ·intro hc;rw [if_pos hc] at A0;refine wr ?_;refine dl2 S 2 (67,ji i0) (66,v2) fun a S=>?_;obtain ⟨M8,f4,A0⟩:=a_b A0;refine wgo S (a_p S rfl ty40 rfl rfl rfl R2 rfl f4 fun a n7 L2 V6 S=>?_);obtain ⟨y6,Z2,A0⟩:=a_b A0;refine wgo S (a_R S rfl ty41 rfl rfl rfl L2 rfl Z2 fun a S=>wgo S (a_f (t:=(.int .u16)) (x:=y6) S rfl ty22 rfl rfl rfl (RepAt.ix L2 Z2) fun a t8 M3 S=>?_));obtain ⟨rfl,v3⟩:=RepV.int M3;refine wgo S (a_0 S .i64 .bool .bool rfl ty22 ty3 rfl rfl rfl (b_F v3 (by decide)).1 fun a S=>?_);obtain ⟨u6,T2,A0⟩:=a_b A0;refine wgo S (a_9 S .i64 rfl rfl rfl rfl rfl T2 fun a S=>dl1 S 1 (10,ji u6) fun a S=>wn (a_a ?_));obtain rfl:=oi A0;exact ⟨S.su,W,(b_7 T2),R0,R2,s0⟩
       ·intro hc;rw [if_neg (bf hc)] at A0;refine wp_skip (a_a ?_);obtain rfl:=oi A0;exact ⟨S.su,W,(b_7 Q2),R0,R2,s0⟩
      clear S W;rintro a F8 ⟨S,W,w3,R0,R2,s0⟩;refine a_a (ws (ws (wr ?_)));refine dl2 S 2 (74,ji i0) (73,v2) fun a S=>?_;obtain ⟨N8,g4,f0⟩:=a_b f0;refine wgo S (a_p S rfl ty40 rfl rfl rfl R2 rfl g4 fun a o7 M2 W6 S=>?_);obtain ⟨z6,a3,f0⟩:=a_b f0;refine wgo S (a_R S rfl ty41 rfl rfl rfl M2 rfl a3 fun a S=>wgo S (a_f (t:=(.int .u16)) (x:=z6) S rfl ty22 rfl rfl rfl (RepAt.ix M2 a3) fun a v8 N3 S=>?_));obtain ⟨rfl,E6⟩:=RepV.int N3;obtain ⟨o3,W3,f0⟩:=a_b f0;refine wgo S (a_9 S .u16 rfl rfl rfl rfl rfl W3 fun a S=>dl1 S 1 (79,.bool (o3 == 1)) fun a S=>wn (a_a ?_));obtain ⟨i1,n0,f0⟩:=a_b f0;refine a_y (fun a_ w_=>St 156 a_ [(10,ji i1),(9,ji i0),(7,(c_g e0)),(0,v0),(2,v2)] ∧ Wd w w_ [e0.ownBlock] ∧ InR .i64 i1 ∧ RepV (.sl (.int .u8)) w_ (Kw K w [e0.ownBlock]) v0 x0 ∧ RepV (.sl (.arr 2 (.int .u16))) w_ (Kw K w [e0.ownBlock]) v2 x2 ∧ Ow (.int .u8) 5 w_ w.heap.size (Kw K w [e0.ownBlock]) e0 t0 .none) ?_ ?_
      ·refine wcs (o3 == 1) S rfl ?_ ?_
       ·intro hc;rw [if_pos hc] at n0;refine wr ?_;refine dl1 S 1 (80,(c_g e0)) fun a S=>wgo S (a_i (K:=_) S rfl ty28 rfl rfl rfl (Ow.cutRead s0) fun a H6 S=>?_);obtain ⟨q6,T3,n0⟩:=a_b n0;refine wgo S (a_e S .i64 ((a_d (⟨t0,some t0.length⟩:Sl (Int))) - 1) rfl (.inr (.inl rfl)) rfl rfl rfl rfl T3 fun a S=>dl2 S 2 (84,ji i0) (83,v2) fun a S=>?_);obtain ⟨H8,X3,n0⟩:=a_b n0;refine wgo S (a_p S rfl ty40 rfl rfl rfl R2 rfl X3 fun a i7 H2 Q6 S=>?_);obtain ⟨v6,U2,n0⟩:=a_b n0;refine wgo S (a_R S rfl ty41 rfl rfl rfl H2 rfl U2 fun a S=>wgo S (a_f (t:=(.int .u16)) (x:=v6) S rfl ty22 rfl rfl rfl (RepAt.ix H2 U2) fun a p7 B3 S=>?_));obtain ⟨rfl,A6⟩:=RepV.int B3;obtain ⟨G8,N2,n0⟩:=a_b n0;refine wgo S (op_quo S .u16 rfl rfl rfl rfl rfl N2 fun a S=>wgo S (a_0 S .i64 .bool .bool rfl ty22 ty3 rfl rfl rfl (b_F (inR_quo N2) (by decide)).1 fun a S=>dl1 S 1 (90,(c_g e0)) fun a S=>wgo S (a_i (K:=_) S rfl ty28 rfl rfl rfl (Ow.cutRead s0) fun a I6 S=>wgo S (op_min S rfl rfl rfl rfl rfl fun a S=>?_))));obtain ⟨r6,U3,n0⟩:=a_b n0;refine wgo S (a_9 S .i64 rfl rfl rfl rfl rfl U3 fun a S=>?_);obtain ⟨s6,O2,n0⟩:=a_b n0;refine wgo S (a_e S .i64 (q6 - r6) rfl (.inr (.inl rfl)) rfl rfl rfl rfl O2 fun a S=>dl1 S 1 (10,ji s6) fun a S=>wn (a_a ?_));obtain rfl:=oi n0;exact ⟨S.su,W,(a_l O2).2.1,R0,R2,s0⟩
       ·intro hc;rw [if_neg (bf hc)] at n0;refine wp_skip (a_a ?_);obtain rfl:=oi n0;exact ⟨S.su,W,w3,R0,R2,s0⟩
      clear S W;rintro a i6 ⟨S,W,G6,R0,R2,s0⟩;refine a_a (wr ?_);refine dl4 S 4 (98,ji i0) (97,v2) (96,ji i1) (95,(c_g e0)) fun a S=>?_;obtain ⟨I8,Y3,f0⟩:=a_b f0;refine wgo S (a_p S rfl ty40 rfl rfl rfl R2 rfl Y3 fun a j7 I2 R6 S=>?_);obtain ⟨k1,V2,f0⟩:=a_b f0;refine wgo S (a_R S rfl ty41 rfl rfl rfl I2 rfl V2 fun a S=>wgo S (a_f (t:=(.int .u16)) (x:=k1) S rfl ty22 rfl rfl rfl (RepAt.ix I2 V2) fun a q7 C3 S=>?_));obtain ⟨rfl,B6⟩:=RepV.int C3;refine dl1 S 1 (102,.int .u8 (IntKind.wrap .u8 k1)) fun a S=>?_;obtain ⟨J8,W2,f0⟩:=a_b f0;refine wgo S (c_w S rfl ty28 rfl rfl rfl s0 rfl W2 fun a Y6 x3 X6 S=>wgo S (c_s (t':=(.int .u8)) S rfl rfl ty5 rfl rfl rfl s0 x3 0 rfl (b_w W2).2.1 Ln.whole ((RepV.mkInt (a_Q _ _)):RepV (.int .u8) i6 (Kw K w [e0.ownBlock]) _ (IntKind.wrap .u8 k1)) ?_));intro j6 C2 B2 u1;replace R0:=R0.wrote C2 B2;replace R2:=R2.wrote C2 B2;replace W:=W.wrote C2 B2;replace u1:Ow (.int .u8) 5 j6 w.heap.size (Kw K w [e0.ownBlock]) e0 (t0.set i1.toNat (IntKind.wrap .u8 k1)) .none:=u1;refine wn ?_;refine b_d ?_;refine a_a ?_;replace S:=S.su (l':=[(9,ji i0),(7,(c_g e0)),(0,v0),(2,v2)]);refine wr ?_;refine dl1 S 1 (48,ji i0) fun a S=>?_;obtain ⟨l3,P2,f0⟩:=a_b f0;refine wgo S (a_e S .i64 (i0 + 1) rfl (.inl rfl) rfl rfl rfl rfl P2 fun a S=>dl1 S 1 (9,ji l3) fun a S=>wn (a_a ?_));exact ⟨l3,(t0.set i1.toNat (IntKind.wrap .u8 k1)),⟨S.su,W,(a_l P2).2.1,R0,R2,u1,f0⟩⟩
     ·intro hc;rw [if_neg (bf hc)] at f0;refine wp_exit ?_;refine a_v ?_;refine a_v ?_;refine a_F ?_;refine a_a ?_;obtain rfl:=oi f0;exact ⟨S.su,W,R0,s0⟩
  clear S W;rintro a F2 ⟨S,W,R0,A3⟩;refine a_a (ws (ws (wr ?_)));refine dl1 S 1 (11,ji 0) fun a S=>wn (a_a ?_);obtain ⟨p3,Z3,h⟩:=a_b h;refine a_y (fun a_ w_=>∃ g3:Unit,p3 = .inl g3 ∧ (St 156 a_ [] ∧ Wd w w_ [])) ?_ ?_
  ·refine wp_block ?_;refine a_w (fun m_ a_ w_=>∃ (p0:Int) (T0:Sl (Int)) ,∃ (B0:Value),St 156 a_ [(11,ji p0),(0,v0),(7,B0)] ∧ Wd w w_ [] ∧ InR .i64 p0 ∧ RepV (.sl (.int .u8)) w_ (Kw K w []) v0 x0 ∧ RepV (.sl (.int .u8)) w_ (Kw K w []) B0 T0 ∧ p4_l2 n x0 m_ p0 T0 = some p3) n ?_ ?_
   ·skip
    have D3:RepV (.sl (.int .u8)) F2 (Kw K w []) (c_g e0) (⟨P0,some P0.length⟩:Sl (Int)):=A3.cutAt W 0 rfl;replace R0:RepV _ _ (Kw K w []) _ _:=R0.lessAt 0;replace W:Wd _ _ []:=W.lessAt 0;exact ⟨0,(⟨P0,some P0.length⟩:Sl (Int)),⟨(c_g e0),S.su,W,(show InR .i64 0 by decide),R0,D3,Z3⟩⟩
   ·clear S W;rintro D2 a x8 ⟨p0,T0,B0,S,W,J6,R0,r0,h0⟩
    cases D2 with
    | zero=>exact absurd h0 (by simp [p4_l2])
    | succ D2 =>
     refine ⟨D2,rfl,?_⟩;rw [p4_l2] at h0;refine ws (ws (wr ?_));refine dl2 S 2 (105,.bool (decide (p0 < 2))) (104,ji p0) fun a S=>wn (a_a ?_);replace S:=S.su (l':=[(105,.bool (decide (p0 < 2))),(11,ji p0),(0,v0),(7,B0)]);refine wcs (decide (p0 < 2)) S rfl ?_ ?_
     ·intro hc;rw [if_pos hc] at h0;refine wp_skip (a_a ?_);replace S:=S.su (l':=[(11,ji p0),(0,v0),(7,B0)]);refine ws (wp_block (ws (wr ?_)));refine dl2 S 2 (109,B0) (108,v0) fun a S=>wgo S (a_h (K:=K) (e:=(.sl (.int .u8))) (vs:=[v0,B0]) (xs:=[x0,T0]) S W rfl ty23 rfl rfl (by kernel_rfl) rfl rfl rfl rfl rfl ⟨R0,r0,trivial⟩ fun a k6 s7 A2 E3 S=>?_);replace R0:=R0.step A2;replace r0:=r0.step A2;replace W:=W.step A2;refine dl1 S 1 (111,ji p0) fun a S=>?_;obtain ⟨C0,a4,h0⟩:=a_b h0;refine wgo S (a_p S rfl ty23 rfl rfl rfl E3 rfl a4 fun a k7 F3 S6 S=>wgo S (a_f (t:=(.sl (.int .u8))) (x:=C0) S rfl ty28 rfl rfl rfl F3 fun a O0 o0 S=>dl1 S 1 (12,O0) fun a S=>wn (a_a (ws (wr ?_)))));refine dl1 S 1 (115,O0) fun a S=>?_;obtain ⟨a0,P3,h0⟩:=a_b h0;refine wgo S (a_g (vs:=[O0]) S rfl cb15 rfl rfl rfl (c15 (Kw K w []) n k6 C0 _ o0 P3) ?_);rintro _ l6 ⟨j0,t7,rfl,m0,y1,O4⟩;refine ⟨_,rfl,?_⟩;have NO_:=a_4 m0 (Nat.le_refl _) O4;replace m0:=Ow.backO m0 W;replace y1:=RepV.backO y1 W;clear S;intro a S;replace R0:=R0.newO NO_;replace r0:=r0.newO NO_;replace o0:=o0.newO NO_;replace W:=W.newO NO_;clear NO_;obtain ⟨rfl,t1⟩:=RepV.int y1;refine dl5 S 5 (14,ji a0.2) (13,j0) (118,ji a0.2) (117,j0) (114,.tuple #[j0,ji a0.2]) fun a S=>wn (a_a (ws (wr ?_)));refine dl1 S 1 (120,O0) fun a S=>?_;obtain ⟨b0,Q3,h0⟩:=a_b h0;refine wgo S (a_g (vs:=[O0]) S rfl cb12 rfl rfl rfl (c12 (Kw K w [j0.ownBlock]) n l6 C0 _ o0 Q3) ?_);rintro _ y8 ⟨i3,u7,rfl,D0,A1,h1⟩;refine ⟨_,rfl,?_⟩;replace D0:=RepV.back D0 W;replace A1:=RepV.back A1 W;clear S;intro a S;replace R0:=R0.step h1;replace r0:=r0.step h1;replace o0:=o0.step h1;replace m0:=m0.step h1;replace W:=W.step h1;obtain ⟨rfl,q3⟩:=RepV.int A1;refine dl3 S 3 (123,ji b0.2) (122,i3) (119,.tuple #[i3,ji b0.2]) fun a S=>wgo S (b_x (K:=K) (n:=w.heap.size) (L:=[j0.ownBlock]) (t:=gt0) (y:=(0,⟨[],some 0⟩)) S rfl rfl rfl _ z25 (fun w K=>⟨[.int .u16 0],[.slice .none 0 0],rfl,⟨rfl,by decide⟩,⟨.none,0,0,rfl,rfl,Nat.le_refl _,by decide,fun k h=>oi h,.inl rfl⟩⟩) fun a z8 g0 K0 k0 S=>?_);replace R0:=R0.box K0;replace r0:=r0.box K0;replace o0:=o0.box K0;replace D0:=D0.box K0;replace m0:=m0.box K0;replace W:=W.box K0;refine wgo S (a_N (t':=gt0) S rfl rfl ty25 rfl rfl rfl k0 (by simp) Ln.whole D0 ?_);intro m6 M0 B_;replace R0:=R0.wrote M0 (by simp);replace r0:=r0.wrote M0 (by simp);replace o0:=o0.wrote M0 (by simp);replace D0:=D0.wrote M0 (by simp);replace m0:=m0.wrote M0 (by simp) (W.one (p:=1) (q:=0) (by decide) rfl rfl);replace W:=W.wrote M0 (by simp);replace k0:Bx gt0 25 m6 (Kw K w [some g0,j0.ownBlock]) g0 b0.1:=B_;clear B_;refine dl1 S 1 (16,ji b0.2) fun a S=>wn (a_a (ws ?_));obtain ⟨d0,H0,h0⟩:=a_b h0;obtain ⟨q0,l1⟩:∃ (q0:(Bool)) ,((a0.2 != b0.2) = false → (p13 n b0.1.2 (⟨a0.1.xs,a0.1.cap⟩:Sl (Sl (Int)))) = some q0 ∧ (!q0) = d0) ∧ (¬ (a0.2 != b0.2) = false → true = d0):=by
       by_cases hc:(a0.2 != b0.2) = false
       ·rw [if_pos hc] at H0;obtain ⟨q0,q1,H0⟩:=a_b H0;exact ⟨q0,⟨fun _=>⟨q1,oi H0⟩,fun k_=>absurd hc k_⟩⟩
       ·rw [if_neg hc] at H0;exact ⟨default,⟨fun k_=>absurd k_ hc,fun _=>oi H0⟩⟩
      obtain ⟨c0,I0,h0⟩:=a_b h0;obtain ⟨u0,m1⟩:∃ (u0:Bool) ,(d0 = false → (if (a0.2 != 0) = true then some (b0.1.1 != 0) else some false) = some u0 ∧ u0 = c0) ∧ (¬ d0 = false → true = c0):=by
       by_cases hc:d0 = false
       ·rw [if_pos hc] at I0;obtain ⟨u0,E0,I0⟩:=a_b I0;exact ⟨u0,⟨fun _=>⟨E0,oi I0⟩,fun k_=>absurd hc k_⟩⟩
       ·rw [if_neg hc] at I0;exact ⟨default,⟨fun k_=>absurd k_ hc,fun _=>oi I0⟩⟩
      have G2:(d0 = false → ((a0.2 != 0) = true → (b0.1.1 != 0) = u0) ∧ (¬ (a0.2 != 0) = true → false = u0)):=by
       by_cases ho1:d0 = false
       ·skip
        have E0:=(m1.1 ho1).1;by_cases hc:(a0.2 != 0) = true
        ·rw [if_pos hc] at E0;exact fun _=>⟨fun _=>oi E0,fun k_=>absurd hc k_⟩
        ·rw [if_neg hc] at E0;exact fun _=>⟨fun k_=>absurd k_ hc,fun _=>oi E0⟩
       ·exact fun k_=>absurd k_ ho1
      obtain ⟨F0,J0,h0⟩:=a_b h0;obtain ⟨w0,G0⟩:∃ (w0:Bool) ,(c0 = false → (if (a0.2 == 0) = true then (p14 n C0 6).bind fun l0=>some (b0.1.1 != l0) else some false) = some w0 ∧ w0 = F0) ∧ (¬ c0 = false → true = F0):=by
       by_cases hc:c0 = false
       ·rw [if_pos hc] at J0;obtain ⟨w0,y0,J0⟩:=a_b J0;exact ⟨w0,⟨fun _=>⟨y0,oi J0⟩,fun k_=>absurd hc k_⟩⟩
       ·rw [if_neg hc] at J0;exact ⟨default,⟨fun k_=>absurd k_ hc,fun _=>oi J0⟩⟩
      obtain ⟨l0,Q0⟩:∃ (l0:(Int)) ,(c0 = false → ((a0.2 == 0) = true → (p14 n C0 6) = some l0 ∧ (b0.1.1 != l0) = w0) ∧ (¬ (a0.2 == 0) = true → false = w0)):=by
       by_cases ho3:c0 = false
       ·skip
        have y0:=(G0.1 ho3).1;by_cases hc:(a0.2 == 0) = true
        ·rw [if_pos hc] at y0;obtain ⟨l0,X0,y0⟩:=a_b y0;exact ⟨l0,fun _=>⟨fun _=>⟨X0,oi y0⟩,fun k_=>absurd hc k_⟩⟩
        ·rw [if_neg hc] at y0;exact ⟨default,fun _=>⟨fun k_=>absurd k_ hc,fun _=>oi y0⟩⟩
       ·exact ⟨default,fun k_=>absurd k_ ho3⟩
      have hR:Rel (Kw K w [some g0,j0.ownBlock]) Bl:=Bl.rel _;refine b_L hR [isI .i64 a0.2,isI .i64 b0.2,eqv (.bool (a0.2 != b0.2)),eqv (.bool (a0.2 != b0.2)),cndF (a0.2 != b0.2) false (eqv (.pointer (some ((⟨g0,0,.none⟩:Addr).add (a_q gf0 1))))),cndF (a0.2 != b0.2) false (a_s (.sl (.sl (.int .u8))) (Kw K w [some g0,j0.ownBlock]) b0.1.2),cndF (a0.2 != b0.2) false (eqv (j0)),cndF (a0.2 != b0.2) false (eqv (.bool q0)),cndF (a0.2 != b0.2) false (eqv (.bool (!q0))),eqv (.bool d0),eqv (.bool d0),cndF d0 false (isI .i64 a0.2),cndF d0 false (eqv (.bool (a0.2 != 0))),cndF d0 false (eqv (.bool (a0.2 != 0))),cndF d0 false (cndF (a0.2 != 0) true (eqv (.pointer (some ((⟨g0,0,.none⟩:Addr).add (a_q gf0 0)))))),cndF d0 false (cndF (a0.2 != 0) true (isI .u16 b0.1.1)),cndF d0 false (cndF (a0.2 != 0) true (eqv (.bool (b0.1.1 != 0)))),cndF d0 false (eqv (.bool u0)),eqv (.bool c0),eqv (.bool c0),cndF c0 false (isI .i64 a0.2),cndF c0 false (eqv (.bool (a0.2 == 0))),cndF c0 false (eqv (.bool (a0.2 == 0))),cndF c0 false (cndF (a0.2 == 0) true (eqv (.pointer (some ((⟨g0,0,.none⟩:Addr).add (a_q gf0 0)))))),cndF c0 false (cndF (a0.2 == 0) true (isI .u16 b0.1.1)),cndF c0 false (cndF (a0.2 == 0) true (isI .i64 b0.1.1)),cndF c0 false (cndF (a0.2 == 0) true (a_s (.sl (.int .u8)) (Kw K w [some g0,j0.ownBlock]) C0)),cndF c0 false (cndF (a0.2 == 0) true (isI .i64 l0)),cndF c0 false (cndF (a0.2 == 0) true (eqv (.bool (b0.1.1 != l0)))),cndF c0 false (eqv (.bool w0)),eqv (.bool F0)] [[],[],[(0,124),(1,125)],[(2,126)],[(3,127)],[(4,128),(3,127)],[(3,127)],[(5,129),(6,130),(3,127)],[(7,131),(3,127)],[(3,127),(8,132)],[(9,133)],[(10,134)],[(11,135),(10,134)],[(12,136),(10,134)],[(13,137)],[(14,138),(13,137)],[(15,139),(13,137)],[(13,137),(16,140),(10,134)],[(10,134),(17,141)],[(18,142)],[(19,143)],[(20,144),(19,143)],[(21,145),(19,143)],[(22,146)],[(23,147),(22,146)],[(24,148),(22,146)],[(22,146)],[(26,150),(22,146)],[(25,149),(27,151),(22,146)],[(22,146),(28,152),(19,143)],[(19,143),(29,153)]] (by kernel_rfl) (by rw [S.size];kernel_rfl) (by kernel_rfl) (by kernel_rfl) rfl ⟨a_x,a_x,(a_m _),(a_m _),(a_j (a_m _)),(a_j (a_t hR)),(a_j (a_m _)),(a_j (a_m _)),(a_j (a_m _)),(a_m _),(a_m _),(a_j a_x),(a_j (a_m _)),(a_j (a_m _)),(a_j (a_j (a_m _))),(a_j (a_j a_x)),(a_j (a_j (a_m _))),(a_j (a_m _)),(a_m _),(a_m _),(a_j a_x),(a_j (a_m _)),(a_j (a_m _)),(a_j (a_j (a_m _))),(a_j (a_j a_x)),(a_j (a_j a_x)),(a_j (a_j (a_t hR))),(a_j (a_j a_x)),(a_j (a_j (a_m _))),(a_j (a_m _)),(a_m _),trivial⟩ ?_ ?_
      ·
       refine RunAll.cons (isI .i64 a0.2) [] rfl rfl ?_ ?_
       ·intro W_ hW;have S1:=S;exact RPost.o1 tys_ok (v:=ji a0.2) S1 S rfl (by kernel_rfl) ⟨rfl,t1⟩
       refine RunAll.cons (isI .i64 b0.2) [] rfl rfl ?_ ?_
       ·intro W_ hW;have S1:=S;exact RPost.o1 tys_ok (v:=ji b0.2) S1 S rfl (by kernel_rfl) ⟨rfl,q3⟩
       refine RunAll.cons (eqv (.bool (a0.2 != b0.2))) [(isI .i64 a0.2,124),(isI .i64 b0.2,125)] rfl rfl ?_ ?_
       ·intro W_ hW;have S1:=S;rintro _ ⟨rfl,Z6⟩;replace S1:=S1.pt 124 (ji a0.2) rfl;rintro _ ⟨rfl,a7⟩;replace S1:=S1.pt 125 (ji b0.2) rfl;exact RPost.o1 tys_ok (v:=.bool (a0.2 != b0.2)) S1 S rfl (by kernel_rfl) rfl
       refine RunAll.cons (eqv (.bool (a0.2 != b0.2))) [(eqv (.bool (a0.2 != b0.2)),126)] rfl rfl ?_ ?_
       ·intro W_ hW;have S1:=S;rintro _ rfl;replace S1:=S1.pt 126 (.bool (a0.2 != b0.2)) rfl;exact RPost.o1 tys_ok (v:=.bool (a0.2 != b0.2)) S1 S rfl (by kernel_rfl) rfl
       refine RunAll.cons (cndF (a0.2 != b0.2) false (eqv (.pointer (some ((⟨g0,0,.none⟩:Addr).add (a_q gf0 1)))))) [(eqv (.bool (a0.2 != b0.2)),127)] rfl rfl ?_ ?_
       ·intro W_ hW;by_cases hc0:(a0.2 != b0.2) = false
        ·have hl0:(a0.2 != b0.2) = false:=hc0;have S1:=S;rintro _ rfl;replace S1:=S1.pt 127 (.bool (a0.2 != b0.2)) rfl;refine a_c S1 fun a_ S1=>?_;replace k0:=k0.step hW;rw [show (a0.2 != b0.2) = false from hl0] at S1;exact RPost.o1 tys_ok (v:=.pointer (some ((⟨g0,0,.none⟩:Addr).add (a_q gf0 1)))) S1 S rfl (by kernel_rfl) ⟨fun _=>rfl,fun k_=>absurd hc0 k_⟩
        ·have hl0:(a0.2 != b0.2) = true:=(by simpa using hc0);have S1:=S;rintro _ rfl;replace S1:=S1.pt 127 (.bool (a0.2 != b0.2)) rfl;refine a_c S1 fun a_ S1=>?_;rw [show (a0.2 != b0.2) = true from hl0] at S1;exact RPost.o1 tys_ok (v:=undef) S1 S rfl (by kernel_rfl) ⟨fun k_=>absurd k_ hc0,fun _=>rfl⟩
       refine RunAll.cons (cndF (a0.2 != b0.2) false (a_s (.sl (.sl (.int .u8))) (Kw K w [some g0,j0.ownBlock]) b0.1.2)) [(cndF (a0.2 != b0.2) false (eqv (.pointer (some ((⟨g0,0,.none⟩:Addr).add (a_q gf0 1))))),128),(eqv (.bool (a0.2 != b0.2)),127)] rfl rfl ?_ ?_
       ·intro W_ hW;by_cases hc0:(a0.2 != b0.2) = false
        ·have hl0:(a0.2 != b0.2) = false:=hc0;have S1:=S;intro V4 E1;replace E1:=cndF.pos E1 hc0
         revert E1
         revert V4
         rintro _ rfl;replace S1:=S1.pt 128 (.pointer (some ((⟨g0,0,.none⟩:Addr).add (a_q gf0 1)))) rfl;rintro _ rfl;replace S1:=S1.pt 127 (.bool (a0.2 != b0.2)) rfl;refine a_c S1 fun a_ S1=>?_;replace k0:=k0.step hW;rw [show (a0.2 != b0.2) = false from hl0] at S1;have S0:=S.defers;replace S:=S1;clear S1;obtain ⟨q1,_⟩:=(l1).1 hc0;refine wgo S (a_f (t:=(.sl (.sl (.int .u8)))) (x:=b0.1.2) S rfl ty23 rfl rfl rfl (RepAt.add 1 (RepAt.st (t:=gf0) k0.at_)) fun a v7 G3 S=>wn ?_);exact RPost.mk_ S rfl S0 ⟨fun _=>G3,fun k_=>absurd hc0 k_⟩ (Below.refl _ _)
        ·have hl0:(a0.2 != b0.2) = true:=(by simpa using hc0);have S1:=S;intro w7 h4;obtain rfl:=cndF.neg h4 hc0;replace S1:=S1.pt 128 (undef) rfl;rintro _ rfl;replace S1:=S1.pt 127 (.bool (a0.2 != b0.2)) rfl;refine a_c S1 fun a_ S1=>?_;rw [show (a0.2 != b0.2) = true from hl0] at S1;exact RPost.o1 tys_ok (v:=undef) S1 S rfl (by kernel_rfl) ⟨fun k_=>absurd k_ hc0,fun _=>rfl⟩
       refine RunAll.cons (cndF (a0.2 != b0.2) false (eqv (j0))) [(eqv (.bool (a0.2 != b0.2)),127)] rfl rfl ?_ ?_
       ·intro W_ hW;by_cases hc0:(a0.2 != b0.2) = false
        ·have hl0:(a0.2 != b0.2) = false:=hc0;have S1:=S;rintro _ rfl;replace S1:=S1.pt 127 (.bool (a0.2 != b0.2)) rfl;refine a_c S1 fun a_ S1=>?_;replace m0:=m0.step hW;rw [show (a0.2 != b0.2) = false from hl0] at S1;exact RPost.o1 tys_ok (v:=j0) S1 S rfl (by kernel_rfl) ⟨fun _=>rfl,fun k_=>absurd hc0 k_⟩
        ·have hl0:(a0.2 != b0.2) = true:=(by simpa using hc0);have S1:=S;rintro _ rfl;replace S1:=S1.pt 127 (.bool (a0.2 != b0.2)) rfl;refine a_c S1 fun a_ S1=>?_;rw [show (a0.2 != b0.2) = true from hl0] at S1;exact RPost.o1 tys_ok (v:=undef) S1 S rfl (by kernel_rfl) ⟨fun k_=>absurd k_ hc0,fun _=>rfl⟩
       refine RunAll.cons (cndF (a0.2 != b0.2) false (eqv (.bool q0))) [(cndF (a0.2 != b0.2) false (a_s (.sl (.sl (.int .u8))) (Kw K w [some g0,j0.ownBlock]) b0.1.2),129),(cndF (a0.2 != b0.2) false (eqv (j0)),130),(eqv (.bool (a0.2 != b0.2)),127)] rfl rfl ?_ ?_
       ·intro W_ hW;by_cases hc0:(a0.2 != b0.2) = false
        ·have hl0:(a0.2 != b0.2) = false:=hc0;have S1:=S;intro W4 F1;replace F1:=cndF.pos F1 hc0
         revert F1
         revert W4
         intro j3 G1;replace G1:RepV _ _ _ _ _:=G1;replace S1:=S1.pt 129 (j3) rfl;intro X4 H1;replace H1:=cndF.pos H1 hc0
         revert H1
         revert X4
         intro Y4 i4;obtain rfl:j0 = Y4:=Eq.symm i4;replace S1:=S1.pt 130 (j0) rfl;rintro _ rfl;replace S1:=S1.pt 127 (.bool (a0.2 != b0.2)) rfl;refine a_c S1 fun a_ S1=>?_;replace m0:=m0.step hW;replace W:=W.step hW;rw [show (a0.2 != b0.2) = false from hl0] at S1;have S0:=S.defers;replace S:=S1;clear S1;obtain ⟨q1,_⟩:=(l1).1 hc0;refine wgo S (a_g (vs:=[j3,j0]) S rfl cb13 rfl rfl rfl (c13 (Kw K w []) n W_ b0.1.2 _ G1.out (⟨a0.1.xs,a0.1.cap⟩:Sl (Sl (Int))) _ m0.read q1) ?_);rintro _ B8 ⟨x7,rfl,H3,Q4⟩;refine ⟨_,rfl,?_⟩;clear S;intro a S;obtain rfl:=RepV.bool H3;refine wn ?_;exact RPost.mk_ S rfl S0 ⟨fun _=>rfl,fun k_=>absurd hc0 k_⟩ (Q4)
        ·have hl0:(a0.2 != b0.2) = true:=(by simpa using hc0);have S1:=S;intro y7 j4;obtain rfl:=cndF.neg j4 hc0;replace S1:=S1.pt 129 (undef) rfl;intro z7 k4;obtain rfl:=cndF.neg k4 hc0;replace S1:=S1.pt 130 (undef) rfl;rintro _ rfl;replace S1:=S1.pt 127 (.bool (a0.2 != b0.2)) rfl;refine a_c S1 fun a_ S1=>?_;rw [show (a0.2 != b0.2) = true from hl0] at S1;exact RPost.o1 tys_ok (v:=undef) S1 S rfl (by kernel_rfl) ⟨fun k_=>absurd k_ hc0,fun _=>rfl⟩
       refine RunAll.cons (cndF (a0.2 != b0.2) false (eqv (.bool (!q0)))) [(cndF (a0.2 != b0.2) false (eqv (.bool q0)),131),(eqv (.bool (a0.2 != b0.2)),127)] rfl rfl ?_ ?_
       ·intro W_ hW;by_cases hc0:(a0.2 != b0.2) = false
        ·have hl0:(a0.2 != b0.2) = false:=hc0;have S1:=S;intro Z4 I1;replace I1:=cndF.pos I1 hc0
         revert I1
         revert Z4
         rintro _ rfl;replace S1:=S1.pt 131 (.bool q0) rfl;rintro _ rfl;replace S1:=S1.pt 127 (.bool (a0.2 != b0.2)) rfl;refine a_c S1 fun a_ S1=>?_;rw [show (a0.2 != b0.2) = false from hl0] at S1;exact RPost.o1 tys_ok (v:=.bool (!q0)) S1 S rfl (by kernel_rfl) ⟨fun _=>rfl,fun k_=>absurd hc0 k_⟩
        ·have hl0:(a0.2 != b0.2) = true:=(by simpa using hc0);have S1:=S;intro A7 l4;obtain rfl:=cndF.neg l4 hc0;replace S1:=S1.pt 131 (undef) rfl;rintro _ rfl;replace S1:=S1.pt 127 (.bool (a0.2 != b0.2)) rfl;refine a_c S1 fun a_ S1=>?_;rw [show (a0.2 != b0.2) = true from hl0] at S1;exact RPost.o1 tys_ok (v:=undef) S1 S rfl (by kernel_rfl) ⟨fun k_=>absurd k_ hc0,fun _=>rfl⟩
       refine RunAll.cons (eqv (.bool d0)) [(eqv (.bool (a0.2 != b0.2)),127),(cndF (a0.2 != b0.2) false (eqv (.bool (!q0))),132)] rfl rfl ?_ ?_
       ·intro W_ hW;by_cases hc0:(a0.2 != b0.2) = false
        ·have hl0:(a0.2 != b0.2) = false:=hc0;have S1:=S;rintro _ rfl;replace S1:=S1.pt 127 (.bool (a0.2 != b0.2)) rfl;intro a5 J1;replace J1:=cndF.pos J1 hc0
         revert J1
         revert a5
         rintro _ rfl;replace S1:=S1.pt 132 (.bool (!q0)) rfl;refine a_c S1 fun a_ S1=>?_;rw [show (a0.2 != b0.2) = false from hl0] at S1;exact RPost.o1 tys_ok (v:=.bool (!q0)) S1 S rfl (by kernel_rfl) (congrArg Value.bool ((l1).1 hc0).2)
        ·have hl0:(a0.2 != b0.2) = true:=(by simpa using hc0);have S1:=S;rintro _ rfl;replace S1:=S1.pt 127 (.bool (a0.2 != b0.2)) rfl;intro B7 m4;obtain rfl:=cndF.neg m4 hc0;replace S1:=S1.pt 132 (undef) rfl;refine a_c S1 fun a_ S1=>?_;rw [show (a0.2 != b0.2) = true from hl0] at S1;exact RPost.o1 tys_ok (v:=.bool true) S1 S rfl (by kernel_rfl) (congrArg Value.bool ((l1).2 hc0))
       refine RunAll.cons (eqv (.bool d0)) [(eqv (.bool d0),133)] rfl rfl ?_ ?_
       ·intro W_ hW;have S1:=S;rintro _ rfl;replace S1:=S1.pt 133 (.bool d0) rfl;exact RPost.o1 tys_ok (v:=.bool d0) S1 S rfl (by kernel_rfl) rfl
       refine RunAll.cons (cndF d0 false (isI .i64 a0.2)) [(eqv (.bool d0),134)] rfl rfl ?_ ?_
       ·intro W_ hW;by_cases hc1:d0 = false
        ·have hl1:d0 = false:=hc1;have S1:=S;rintro _ rfl;replace S1:=S1.pt 134 (.bool d0) rfl;refine a_c S1 fun a_ S1=>?_;rw [show d0 = false from hl1] at S1;exact RPost.o1 tys_ok (v:=ji a0.2) S1 S rfl (by kernel_rfl) ⟨fun _=>⟨rfl,t1⟩,fun k_=>absurd hc1 k_⟩
        ·have hl1:d0 = true:=(by simpa using hc1);have S1:=S;rintro _ rfl;replace S1:=S1.pt 134 (.bool d0) rfl;refine a_c S1 fun a_ S1=>?_;rw [show d0 = true from hl1] at S1;exact RPost.o1 tys_ok (v:=undef) S1 S rfl (by kernel_rfl) ⟨fun k_=>absurd k_ hc1,fun _=>rfl⟩
       refine RunAll.cons (cndF d0 false (eqv (.bool (a0.2 != 0)))) [(cndF d0 false (isI .i64 a0.2),135),(eqv (.bool d0),134)] rfl rfl ?_ ?_
       ·intro W_ hW;by_cases hc1:d0 = false
        ·have hl1:d0 = false:=hc1;have S1:=S;intro b5 K1;replace K1:=cndF.pos K1 hc1
         revert K1
         revert b5
         rintro _ ⟨rfl,b7⟩;replace S1:=S1.pt 135 (ji a0.2) rfl;rintro _ rfl;replace S1:=S1.pt 134 (.bool d0) rfl;refine a_c S1 fun a_ S1=>?_;rw [show d0 = false from hl1] at S1;exact RPost.o1 tys_ok (v:=.bool (a0.2 != 0)) S1 S rfl (by kernel_rfl) ⟨fun _=>rfl,fun k_=>absurd hc1 k_⟩
        ·have hl1:d0 = true:=(by simpa using hc1);have S1:=S;intro C7 n4;obtain rfl:=cndF.neg n4 hc1;replace S1:=S1.pt 135 (undef) rfl;rintro _ rfl;replace S1:=S1.pt 134 (.bool d0) rfl;refine a_c S1 fun a_ S1=>?_;rw [show d0 = true from hl1] at S1;exact RPost.o1 tys_ok (v:=undef) S1 S rfl (by kernel_rfl) ⟨fun k_=>absurd k_ hc1,fun _=>rfl⟩
       refine RunAll.cons (cndF d0 false (eqv (.bool (a0.2 != 0)))) [(cndF d0 false (eqv (.bool (a0.2 != 0))),136),(eqv (.bool d0),134)] rfl rfl ?_ ?_
       ·intro W_ hW;by_cases hc1:d0 = false
        ·have hl1:d0 = false:=hc1;have S1:=S;intro c5 L1;replace L1:=cndF.pos L1 hc1
         revert L1
         revert c5
         rintro _ rfl;replace S1:=S1.pt 136 (.bool (a0.2 != 0)) rfl;rintro _ rfl;replace S1:=S1.pt 134 (.bool d0) rfl;refine a_c S1 fun a_ S1=>?_;rw [show d0 = false from hl1] at S1;exact RPost.o1 tys_ok (v:=.bool (a0.2 != 0)) S1 S rfl (by kernel_rfl) ⟨fun _=>rfl,fun k_=>absurd hc1 k_⟩
        ·have hl1:d0 = true:=(by simpa using hc1);have S1:=S;intro D7 o4;obtain rfl:=cndF.neg o4 hc1;replace S1:=S1.pt 136 (undef) rfl;rintro _ rfl;replace S1:=S1.pt 134 (.bool d0) rfl;refine a_c S1 fun a_ S1=>?_;rw [show d0 = true from hl1] at S1;exact RPost.o1 tys_ok (v:=undef) S1 S rfl (by kernel_rfl) ⟨fun k_=>absurd k_ hc1,fun _=>rfl⟩
       refine RunAll.cons (cndF d0 false (cndF (a0.2 != 0) true (eqv (.pointer (some ((⟨g0,0,.none⟩:Addr).add (a_q gf0 0))))))) [(cndF d0 false (eqv (.bool (a0.2 != 0))),137)] rfl rfl ?_ ?_
       ·intro W_ hW;by_cases hc1:d0 = false
        ·have hl1:d0 = false:=hc1;by_cases hc2:(a0.2 != 0) = true
         ·have hl2:(a0.2 != 0) = true:=hc2;have S1:=S;intro d5 M1;replace M1:=cndF.pos M1 hc1
          revert M1
          revert d5
          rintro _ rfl;replace S1:=S1.pt 137 (.bool (a0.2 != 0)) rfl;refine a_c S1 fun a_ S1=>?_;replace k0:=k0.step hW;rw [show (a0.2 != 0) = true from hl2] at S1;exact RPost.o1 tys_ok (v:=.pointer (some ((⟨g0,0,.none⟩:Addr).add (a_q gf0 0)))) S1 S rfl (by kernel_rfl) ⟨fun _=>⟨fun _=>rfl,fun k_=>absurd hc2 k_⟩,fun k_=>absurd hc1 k_⟩
         ·have hl2:(a0.2 != 0) = false:=Bool.eq_false_iff.2 hc2;have S1:=S;intro e5 N1;replace N1:=cndF.pos N1 hc1
          revert N1
          revert e5
          rintro _ rfl;replace S1:=S1.pt 137 (.bool (a0.2 != 0)) rfl;refine a_c S1 fun a_ S1=>?_;rw [show (a0.2 != 0) = false from hl2] at S1;exact RPost.o1 tys_ok (v:=undef) S1 S rfl (by kernel_rfl) ⟨fun _=>⟨fun k_=>absurd k_ hc2,fun _=>rfl⟩,fun k_=>absurd hc1 k_⟩
        ·have hl1:d0 = true:=(by simpa using hc1);have S1:=S;intro E7 q4;obtain rfl:=cndF.neg q4 hc1;replace S1:=S1.pt 137 (undef) rfl;exact RPost.o1 tys_ok (v:=undef) S1 S rfl (by kernel_rfl) ⟨fun k_=>absurd k_ hc1,fun _=>rfl⟩
       refine RunAll.cons (cndF d0 false (cndF (a0.2 != 0) true (isI .u16 b0.1.1))) [(cndF d0 false (cndF (a0.2 != 0) true (eqv (.pointer (some ((⟨g0,0,.none⟩:Addr).add (a_q gf0 0)))))),138),(cndF d0 false (eqv (.bool (a0.2 != 0))),137)] rfl rfl ?_ ?_
       ·intro W_ hW;by_cases hc1:d0 = false
        ·have hl1:d0 = false:=hc1;by_cases hc2:(a0.2 != 0) = true
         ·have hl2:(a0.2 != 0) = true:=hc2;have S1:=S;intro f5 Y0;replace Y0:=cndF.pos Y0 hc1;replace Y0:=cndF.pos Y0 hc2
          revert Y0
          revert f5
          rintro _ rfl;replace S1:=S1.pt 138 (.pointer (some ((⟨g0,0,.none⟩:Addr).add (a_q gf0 0)))) rfl;intro g5 O1;replace O1:=cndF.pos O1 hc1
          revert O1
          revert g5
          rintro _ rfl;replace S1:=S1.pt 137 (.bool (a0.2 != 0)) rfl;refine a_c S1 fun a_ S1=>?_;replace k0:=k0.step hW;rw [show (a0.2 != 0) = true from hl2] at S1;have S0:=S.defers;replace S:=S1;clear S1;obtain ⟨E0,_⟩:=(m1).1 hc1;refine wgo S (a_f (t:=(.int .u16)) (x:=b0.1.1) S rfl ty22 rfl rfl rfl (RepAt.add 0 (RepAt.st (t:=gf0) k0.at_)) fun a F7 I3 S=>?_);obtain ⟨rfl,r3⟩:=RepV.int I3;refine wn ?_;exact RPost.mk_ S rfl S0 ⟨fun _=>⟨fun _=>⟨rfl,r3⟩,fun k_=>absurd hc2 k_⟩,fun k_=>absurd hc1 k_⟩ (Below.refl _ _)
         ·have hl2:(a0.2 != 0) = false:=Bool.eq_false_iff.2 hc2;have S1:=S;intro G7 P1;replace P1:=cndF.pos P1 hc1;obtain rfl:=cndF.neg P1 hc2;replace S1:=S1.pt 138 (undef) rfl;intro h5 Q1;replace Q1:=cndF.pos Q1 hc1
          revert Q1
          revert h5
          rintro _ rfl;replace S1:=S1.pt 137 (.bool (a0.2 != 0)) rfl;refine a_c S1 fun a_ S1=>?_;rw [show (a0.2 != 0) = false from hl2] at S1;exact RPost.o1 tys_ok (v:=undef) S1 S rfl (by kernel_rfl) ⟨fun _=>⟨fun k_=>absurd k_ hc2,fun _=>rfl⟩,fun k_=>absurd hc1 k_⟩
        ·have hl1:d0 = true:=(by simpa using hc1);have S1:=S;intro H7 r4;obtain rfl:=cndF.neg r4 hc1;replace S1:=S1.pt 138 (undef) rfl;intro I7 s4;obtain rfl:=cndF.neg s4 hc1;replace S1:=S1.pt 137 (undef) rfl;exact RPost.o1 tys_ok (v:=undef) S1 S rfl (by kernel_rfl) ⟨fun k_=>absurd k_ hc1,fun _=>rfl⟩
       refine RunAll.cons (cndF d0 false (cndF (a0.2 != 0) true (eqv (.bool (b0.1.1 != 0))))) [(cndF d0 false (cndF (a0.2 != 0) true (isI .u16 b0.1.1)),139),(cndF d0 false (eqv (.bool (a0.2 != 0))),137)] rfl rfl ?_ ?_
       ·intro W_ hW;by_cases hc1:d0 = false
        ·have hl1:d0 = false:=hc1;by_cases hc2:(a0.2 != 0) = true
         ·have hl2:(a0.2 != 0) = true:=hc2;have S1:=S;intro i5 Z0;replace Z0:=cndF.pos Z0 hc1;replace Z0:=cndF.pos Z0 hc2
          revert Z0
          revert i5
          rintro _ ⟨rfl,c7⟩;replace S1:=S1.pt 139 (.int .u16 b0.1.1) rfl;intro j5 T1;replace T1:=cndF.pos T1 hc1
          revert T1
          revert j5
          rintro _ rfl;replace S1:=S1.pt 137 (.bool (a0.2 != 0)) rfl;refine a_c S1 fun a_ S1=>?_;rw [show (a0.2 != 0) = true from hl2] at S1;exact RPost.o1 tys_ok (v:=.bool (b0.1.1 != 0)) S1 S rfl (by kernel_rfl) ⟨fun _=>⟨fun _=>rfl,fun k_=>absurd hc2 k_⟩,fun k_=>absurd hc1 k_⟩
         ·have hl2:(a0.2 != 0) = false:=Bool.eq_false_iff.2 hc2;have S1:=S;intro J7 U1;replace U1:=cndF.pos U1 hc1;obtain rfl:=cndF.neg U1 hc2;replace S1:=S1.pt 139 (undef) rfl;intro k5 V1;replace V1:=cndF.pos V1 hc1
          revert V1
          revert k5
          rintro _ rfl;replace S1:=S1.pt 137 (.bool (a0.2 != 0)) rfl;refine a_c S1 fun a_ S1=>?_;rw [show (a0.2 != 0) = false from hl2] at S1;exact RPost.o1 tys_ok (v:=undef) S1 S rfl (by kernel_rfl) ⟨fun _=>⟨fun k_=>absurd k_ hc2,fun _=>rfl⟩,fun k_=>absurd hc1 k_⟩
        ·have hl1:d0 = true:=(by simpa using hc1);have S1:=S;intro K7 t4;obtain rfl:=cndF.neg t4 hc1;replace S1:=S1.pt 139 (undef) rfl;intro L7 u4;obtain rfl:=cndF.neg u4 hc1;replace S1:=S1.pt 137 (undef) rfl;exact RPost.o1 tys_ok (v:=undef) S1 S rfl (by kernel_rfl) ⟨fun k_=>absurd k_ hc1,fun _=>rfl⟩
       refine RunAll.cons (cndF d0 false (eqv (.bool u0))) [(cndF d0 false (eqv (.bool (a0.2 != 0))),137),(cndF d0 false (cndF (a0.2 != 0) true (eqv (.bool (b0.1.1 != 0)))),140),(eqv (.bool d0),134)] rfl rfl ?_ ?_
       ·intro W_ hW;by_cases hc1:d0 = false
        ·have hl1:d0 = false:=hc1;by_cases hc2:(a0.2 != 0) = true
         ·have hl2:(a0.2 != 0) = true:=hc2;have S1:=S;intro l5 W1;replace W1:=cndF.pos W1 hc1
          revert W1
          revert l5
          rintro _ rfl;replace S1:=S1.pt 137 (.bool (a0.2 != 0)) rfl;intro m5 a1;replace a1:=cndF.pos a1 hc1;replace a1:=cndF.pos a1 hc2
          revert a1
          revert m5
          rintro _ rfl;replace S1:=S1.pt 140 (.bool (b0.1.1 != 0)) rfl;rintro _ rfl;replace S1:=S1.pt 134 (.bool d0) rfl;refine a_c S1 fun a_ S1=>?_;rw [show d0 = false from hl1] at S1;rw [show (a0.2 != 0) = true from hl2] at S1;exact RPost.o1 tys_ok (v:=.bool (b0.1.1 != 0)) S1 S rfl (by kernel_rfl) ⟨fun _=>(congrArg Value.bool ((G2 hc1).1 hc2)),fun k_=>absurd hc1 k_⟩
         ·have hl2:(a0.2 != 0) = false:=Bool.eq_false_iff.2 hc2;have S1:=S;intro n5 X1;replace X1:=cndF.pos X1 hc1
          revert X1
          revert n5
          rintro _ rfl;replace S1:=S1.pt 137 (.bool (a0.2 != 0)) rfl;intro M7 Y1;replace Y1:=cndF.pos Y1 hc1;obtain rfl:=cndF.neg Y1 hc2;replace S1:=S1.pt 140 (undef) rfl;rintro _ rfl;replace S1:=S1.pt 134 (.bool d0) rfl;refine a_c S1 fun a_ S1=>?_;rw [show d0 = false from hl1] at S1;rw [show (a0.2 != 0) = false from hl2] at S1;exact RPost.o1 tys_ok (v:=.bool false) S1 S rfl (by kernel_rfl) ⟨fun _=>(congrArg Value.bool ((G2 hc1).2 hc2)),fun k_=>absurd hc1 k_⟩
        ·have hl1:d0 = true:=(by simpa using hc1);have S1:=S;intro N7 v4;obtain rfl:=cndF.neg v4 hc1;replace S1:=S1.pt 137 (undef) rfl;intro O7 w4;obtain rfl:=cndF.neg w4 hc1;replace S1:=S1.pt 140 (undef) rfl;rintro _ rfl;replace S1:=S1.pt 134 (.bool d0) rfl;refine a_c S1 fun a_ S1=>?_;rw [show d0 = true from hl1] at S1;exact RPost.o1 tys_ok (v:=undef) S1 S rfl (by kernel_rfl) ⟨fun k_=>absurd k_ hc1,fun _=>rfl⟩
       refine RunAll.cons (eqv (.bool c0)) [(eqv (.bool d0),134),(cndF d0 false (eqv (.bool u0)),141)] rfl rfl ?_ ?_
       ·intro W_ hW;by_cases hc1:d0 = false
        ·have hl1:d0 = false:=hc1;have S1:=S;rintro _ rfl;replace S1:=S1.pt 134 (.bool d0) rfl;intro o5 Z1;replace Z1:=cndF.pos Z1 hc1
         revert Z1
         revert o5
         rintro _ rfl;replace S1:=S1.pt 141 (.bool u0) rfl;refine a_c S1 fun a_ S1=>?_;rw [show d0 = false from hl1] at S1;exact RPost.o1 tys_ok (v:=.bool u0) S1 S rfl (by kernel_rfl) (congrArg Value.bool ((m1).1 hc1).2)
        ·have hl1:d0 = true:=(by simpa using hc1);have S1:=S;rintro _ rfl;replace S1:=S1.pt 134 (.bool d0) rfl;intro P7 x4;obtain rfl:=cndF.neg x4 hc1;replace S1:=S1.pt 141 (undef) rfl;refine a_c S1 fun a_ S1=>?_;rw [show d0 = true from hl1] at S1;exact RPost.o1 tys_ok (v:=.bool true) S1 S rfl (by kernel_rfl) (congrArg Value.bool ((m1).2 hc1))
       refine RunAll.cons (eqv (.bool c0)) [(eqv (.bool c0),142)] rfl rfl ?_ ?_
       ·intro W_ hW;have S1:=S;rintro _ rfl;replace S1:=S1.pt 142 (.bool c0) rfl;exact RPost.o1 tys_ok (v:=.bool c0) S1 S rfl (by kernel_rfl) rfl
       refine RunAll.cons (cndF c0 false (isI .i64 a0.2)) [(eqv (.bool c0),143)] rfl rfl ?_ ?_
       ·intro W_ hW;by_cases hc3:c0 = false
        ·have hl3:c0 = false:=hc3;have S1:=S;rintro _ rfl;replace S1:=S1.pt 143 (.bool c0) rfl;refine a_c S1 fun a_ S1=>?_;rw [show c0 = false from hl3] at S1;exact RPost.o1 tys_ok (v:=ji a0.2) S1 S rfl (by kernel_rfl) ⟨fun _=>⟨rfl,t1⟩,fun k_=>absurd hc3 k_⟩
        ·have hl3:c0 = true:=(by simpa using hc3);have S1:=S;rintro _ rfl;replace S1:=S1.pt 143 (.bool c0) rfl;refine a_c S1 fun a_ S1=>?_;rw [show c0 = true from hl3] at S1;exact RPost.o1 tys_ok (v:=undef) S1 S rfl (by kernel_rfl) ⟨fun k_=>absurd k_ hc3,fun _=>rfl⟩
       refine RunAll.cons (cndF c0 false (eqv (.bool (a0.2 == 0)))) [(cndF c0 false (isI .i64 a0.2),144),(eqv (.bool c0),143)] rfl rfl ?_ ?_
       ·intro W_ hW;by_cases hc3:c0 = false
        ·have hl3:c0 = false:=hc3;have S1:=S;intro p5 a2;replace a2:=cndF.pos a2 hc3
         revert a2
         revert p5
         rintro _ ⟨rfl,d7⟩;replace S1:=S1.pt 144 (ji a0.2) rfl;rintro _ rfl;replace S1:=S1.pt 143 (.bool c0) rfl;refine a_c S1 fun a_ S1=>?_;rw [show c0 = false from hl3] at S1;exact RPost.o1 tys_ok (v:=.bool (a0.2 == 0)) S1 S rfl (by kernel_rfl) ⟨fun _=>rfl,fun k_=>absurd hc3 k_⟩
        ·have hl3:c0 = true:=(by simpa using hc3);have S1:=S;intro Q7 y4;obtain rfl:=cndF.neg y4 hc3;replace S1:=S1.pt 144 (undef) rfl;rintro _ rfl;replace S1:=S1.pt 143 (.bool c0) rfl;refine a_c S1 fun a_ S1=>?_;rw [show c0 = true from hl3] at S1;exact RPost.o1 tys_ok (v:=undef) S1 S rfl (by kernel_rfl) ⟨fun k_=>absurd k_ hc3,fun _=>rfl⟩
       refine RunAll.cons (cndF c0 false (eqv (.bool (a0.2 == 0)))) [(cndF c0 false (eqv (.bool (a0.2 == 0))),145),(eqv (.bool c0),143)] rfl rfl ?_ ?_
       ·intro W_ hW;by_cases hc3:c0 = false
        ·have hl3:c0 = false:=hc3;have S1:=S;intro q5 b2;replace b2:=cndF.pos b2 hc3
         revert b2
         revert q5
         rintro _ rfl;replace S1:=S1.pt 145 (.bool (a0.2 == 0)) rfl;rintro _ rfl;replace S1:=S1.pt 143 (.bool c0) rfl;refine a_c S1 fun a_ S1=>?_;rw [show c0 = false from hl3] at S1;exact RPost.o1 tys_ok (v:=.bool (a0.2 == 0)) S1 S rfl (by kernel_rfl) ⟨fun _=>rfl,fun k_=>absurd hc3 k_⟩
        ·have hl3:c0 = true:=(by simpa using hc3);have S1:=S;intro R7 z4;obtain rfl:=cndF.neg z4 hc3;replace S1:=S1.pt 145 (undef) rfl;rintro _ rfl;replace S1:=S1.pt 143 (.bool c0) rfl;refine a_c S1 fun a_ S1=>?_;rw [show c0 = true from hl3] at S1;exact RPost.o1 tys_ok (v:=undef) S1 S rfl (by kernel_rfl) ⟨fun k_=>absurd k_ hc3,fun _=>rfl⟩
       refine RunAll.cons (cndF c0 false (cndF (a0.2 == 0) true (eqv (.pointer (some ((⟨g0,0,.none⟩:Addr).add (a_q gf0 0))))))) [(cndF c0 false (eqv (.bool (a0.2 == 0))),146)] rfl rfl ?_ ?_
       ·intro W_ hW;by_cases hc3:c0 = false
        ·have hl3:c0 = false:=hc3;by_cases hc4:(a0.2 == 0) = true
         ·have hl4:(a0.2 == 0) = true:=hc4;have S1:=S;intro r5 c2;replace c2:=cndF.pos c2 hc3
          revert c2
          revert r5
          rintro _ rfl;replace S1:=S1.pt 146 (.bool (a0.2 == 0)) rfl;refine a_c S1 fun a_ S1=>?_;replace k0:=k0.step hW;rw [show (a0.2 == 0) = true from hl4] at S1;exact RPost.o1 tys_ok (v:=.pointer (some ((⟨g0,0,.none⟩:Addr).add (a_q gf0 0)))) S1 S rfl (by kernel_rfl) ⟨fun _=>⟨fun _=>rfl,fun k_=>absurd hc4 k_⟩,fun k_=>absurd hc3 k_⟩
         ·have hl4:(a0.2 == 0) = false:=Bool.eq_false_iff.2 hc4;have S1:=S;intro s5 d2;replace d2:=cndF.pos d2 hc3
          revert d2
          revert s5
          rintro _ rfl;replace S1:=S1.pt 146 (.bool (a0.2 == 0)) rfl;refine a_c S1 fun a_ S1=>?_;rw [show (a0.2 == 0) = false from hl4] at S1;exact RPost.o1 tys_ok (v:=undef) S1 S rfl (by kernel_rfl) ⟨fun _=>⟨fun k_=>absurd k_ hc4,fun _=>rfl⟩,fun k_=>absurd hc3 k_⟩
        ·have hl3:c0 = true:=(by simpa using hc3);have S1:=S;intro S7 A4;obtain rfl:=cndF.neg A4 hc3;replace S1:=S1.pt 146 (undef) rfl;exact RPost.o1 tys_ok (v:=undef) S1 S rfl (by kernel_rfl) ⟨fun k_=>absurd k_ hc3,fun _=>rfl⟩
       refine RunAll.cons (cndF c0 false (cndF (a0.2 == 0) true (isI .u16 b0.1.1))) [(cndF c0 false (cndF (a0.2 == 0) true (eqv (.pointer (some ((⟨g0,0,.none⟩:Addr).add (a_q gf0 0)))))),147),(cndF c0 false (eqv (.bool (a0.2 == 0))),146)] rfl rfl ?_ ?_
       ·intro W_ hW;by_cases hc3:c0 = false
        ·have hl3:c0 = false:=hc3;by_cases hc4:(a0.2 == 0) = true
         ·have hl4:(a0.2 == 0) = true:=hc4;have S1:=S;intro t5 b1;replace b1:=cndF.pos b1 hc3;replace b1:=cndF.pos b1 hc4
          revert b1
          revert t5
          rintro _ rfl;replace S1:=S1.pt 147 (.pointer (some ((⟨g0,0,.none⟩:Addr).add (a_q gf0 0)))) rfl;intro u5 e2;replace e2:=cndF.pos e2 hc3
          revert e2
          revert u5
          rintro _ rfl;replace S1:=S1.pt 146 (.bool (a0.2 == 0)) rfl;refine a_c S1 fun a_ S1=>?_;replace k0:=k0.step hW;rw [show (a0.2 == 0) = true from hl4] at S1;have S0:=S.defers;replace S:=S1;clear S1;obtain ⟨y0,_⟩:=(G0).1 hc3;obtain ⟨X0,_⟩:=(Q0 hc3).1 hc4;refine wgo S (a_f (t:=(.int .u16)) (x:=b0.1.1) S rfl ty22 rfl rfl rfl (RepAt.add 0 (RepAt.st (t:=gf0) k0.at_)) fun a T7 J3 S=>?_);obtain ⟨rfl,s3⟩:=RepV.int J3;refine wn ?_;exact RPost.mk_ S rfl S0 ⟨fun _=>⟨fun _=>⟨rfl,s3⟩,fun k_=>absurd hc4 k_⟩,fun k_=>absurd hc3 k_⟩ (Below.refl _ _)
         ·have hl4:(a0.2 == 0) = false:=Bool.eq_false_iff.2 hc4;have S1:=S;intro U7 f2;replace f2:=cndF.pos f2 hc3;obtain rfl:=cndF.neg f2 hc4;replace S1:=S1.pt 147 (undef) rfl;intro v5 g2;replace g2:=cndF.pos g2 hc3
          revert g2
          revert v5
          rintro _ rfl;replace S1:=S1.pt 146 (.bool (a0.2 == 0)) rfl;refine a_c S1 fun a_ S1=>?_;rw [show (a0.2 == 0) = false from hl4] at S1;exact RPost.o1 tys_ok (v:=undef) S1 S rfl (by kernel_rfl) ⟨fun _=>⟨fun k_=>absurd k_ hc4,fun _=>rfl⟩,fun k_=>absurd hc3 k_⟩
        ·have hl3:c0 = true:=(by simpa using hc3);have S1:=S;intro V7 B4;obtain rfl:=cndF.neg B4 hc3;replace S1:=S1.pt 147 (undef) rfl;intro W7 C4;obtain rfl:=cndF.neg C4 hc3;replace S1:=S1.pt 146 (undef) rfl;exact RPost.o1 tys_ok (v:=undef) S1 S rfl (by kernel_rfl) ⟨fun k_=>absurd k_ hc3,fun _=>rfl⟩
       refine RunAll.cons (cndF c0 false (cndF (a0.2 == 0) true (isI .i64 b0.1.1))) [(cndF c0 false (cndF (a0.2 == 0) true (isI .u16 b0.1.1)),148),(cndF c0 false (eqv (.bool (a0.2 == 0))),146)] rfl rfl ?_ ?_
       ·intro W_ hW;by_cases hc3:c0 = false
        ·have hl3:c0 = false:=hc3;by_cases hc4:(a0.2 == 0) = true
         ·have hl4:(a0.2 == 0) = true:=hc4;have S1:=S;intro w5 c1;replace c1:=cndF.pos c1 hc3;replace c1:=cndF.pos c1 hc4
          revert c1
          revert w5
          rintro _ ⟨rfl,b3⟩;replace S1:=S1.pt 148 (.int .u16 b0.1.1) rfl;intro x5 h2;replace h2:=cndF.pos h2 hc3
          revert h2
          revert x5
          rintro _ rfl;replace S1:=S1.pt 146 (.bool (a0.2 == 0)) rfl;refine a_c S1 fun a_ S1=>?_;replace W:=W.step hW;rw [show (a0.2 == 0) = true from hl4] at S1;have S0:=S.defers;replace S:=S1;clear S1;obtain ⟨y0,_⟩:=(G0).1 hc3;obtain ⟨X0,_⟩:=(Q0 hc3).1 hc4;refine wgo S (a_0 S .i64 .bool .bool rfl ty22 ty3 rfl rfl rfl (b_F b3 (by decide)).1 fun a S=>wn ?_);exact RPost.mk_ S rfl S0 ⟨fun _=>⟨fun _=>⟨rfl,(b_F b3 (by decide)).2⟩,fun k_=>absurd hc4 k_⟩,fun k_=>absurd hc3 k_⟩ (Below.refl _ _)
         ·have hl4:(a0.2 == 0) = false:=Bool.eq_false_iff.2 hc4;have S1:=S;intro X7 i2;replace i2:=cndF.pos i2 hc3;obtain rfl:=cndF.neg i2 hc4;replace S1:=S1.pt 148 (undef) rfl;intro y5 j2;replace j2:=cndF.pos j2 hc3
          revert j2
          revert y5
          rintro _ rfl;replace S1:=S1.pt 146 (.bool (a0.2 == 0)) rfl;refine a_c S1 fun a_ S1=>?_;rw [show (a0.2 == 0) = false from hl4] at S1;exact RPost.o1 tys_ok (v:=undef) S1 S rfl (by kernel_rfl) ⟨fun _=>⟨fun k_=>absurd k_ hc4,fun _=>rfl⟩,fun k_=>absurd hc3 k_⟩
        ·have hl3:c0 = true:=(by simpa using hc3);have S1:=S;intro Y7 D4;obtain rfl:=cndF.neg D4 hc3;replace S1:=S1.pt 148 (undef) rfl;intro Z7 E4;obtain rfl:=cndF.neg E4 hc3;replace S1:=S1.pt 146 (undef) rfl;exact RPost.o1 tys_ok (v:=undef) S1 S rfl (by kernel_rfl) ⟨fun k_=>absurd k_ hc3,fun _=>rfl⟩
       refine RunAll.cons (cndF c0 false (cndF (a0.2 == 0) true (a_s (.sl (.int .u8)) (Kw K w [some g0,j0.ownBlock]) C0))) [(cndF c0 false (eqv (.bool (a0.2 == 0))),146)] rfl rfl ?_ ?_
       ·intro W_ hW;by_cases hc3:c0 = false
        ·have hl3:c0 = false:=hc3;by_cases hc4:(a0.2 == 0) = true
         ·have hl4:(a0.2 == 0) = true:=hc4;have S1:=S;intro z5 k2;replace k2:=cndF.pos k2 hc3
          revert k2
          revert z5
          rintro _ rfl;replace S1:=S1.pt 146 (.bool (a0.2 == 0)) rfl;refine a_c S1 fun a_ S1=>?_;replace o0:=o0.step hW;rw [show (a0.2 == 0) = true from hl4] at S1;exact RPost.o1 tys_ok (v:=O0) S1 S rfl (by kernel_rfl) ⟨fun _=>⟨fun _=>o0,fun k_=>absurd hc4 k_⟩,fun k_=>absurd hc3 k_⟩
         ·have hl4:(a0.2 == 0) = false:=Bool.eq_false_iff.2 hc4;have S1:=S;intro A5 l2;replace l2:=cndF.pos l2 hc3
          revert l2
          revert A5
          rintro _ rfl;replace S1:=S1.pt 146 (.bool (a0.2 == 0)) rfl;refine a_c S1 fun a_ S1=>?_;rw [show (a0.2 == 0) = false from hl4] at S1;exact RPost.o1 tys_ok (v:=undef) S1 S rfl (by kernel_rfl) ⟨fun _=>⟨fun k_=>absurd k_ hc4,fun _=>rfl⟩,fun k_=>absurd hc3 k_⟩
        ·have hl3:c0 = true:=(by simpa using hc3);have S1:=S;intro a8 F4;obtain rfl:=cndF.neg F4 hc3;replace S1:=S1.pt 146 (undef) rfl;exact RPost.o1 tys_ok (v:=undef) S1 S rfl (by kernel_rfl) ⟨fun k_=>absurd k_ hc3,fun _=>rfl⟩
       refine RunAll.cons (cndF c0 false (cndF (a0.2 == 0) true (isI .i64 l0))) [(cndF c0 false (cndF (a0.2 == 0) true (a_s (.sl (.int .u8)) (Kw K w [some g0,j0.ownBlock]) C0)),150),(cndF c0 false (eqv (.bool (a0.2 == 0))),146)] rfl rfl ?_ ?_
       ·intro W_ hW;by_cases hc3:c0 = false
        ·have hl3:c0 = false:=hc3;by_cases hc4:(a0.2 == 0) = true
         ·have hl4:(a0.2 == 0) = true:=hc4;have S1:=S;intro B5 d1;replace d1:=cndF.pos d1 hc3;replace d1:=cndF.pos d1 hc4
          revert d1
          revert B5
          intro k3 m2;replace m2:RepV _ _ _ _ _:=m2;replace S1:=S1.pt 150 (k3) rfl;intro C5 n2;replace n2:=cndF.pos n2 hc3
          revert n2
          revert C5
          rintro _ rfl;replace S1:=S1.pt 146 (.bool (a0.2 == 0)) rfl;refine a_c S1 fun a_ S1=>?_;replace W:=W.step hW;rw [show (a0.2 == 0) = true from hl4] at S1;have S0:=S.defers;replace S:=S1;clear S1;obtain ⟨y0,_⟩:=(G0).1 hc3;obtain ⟨X0,_⟩:=(Q0 hc3).1 hc4;refine wgo S (a_g (vs:=[k3,ji 6]) S rfl cb14 rfl rfl rfl (c14 (Kw K w [some g0,j0.ownBlock]) n W_ C0 _ m2 6 (by decide) X0) ?_);rintro _ C8 ⟨b8,rfl,B1,R4⟩;refine ⟨_,rfl,?_⟩;replace B1:=RepV.back B1 W;clear S;intro a S;obtain ⟨rfl,t3⟩:=RepV.int B1;refine wn ?_;exact RPost.mk_ S rfl S0 ⟨fun _=>⟨fun _=>⟨rfl,t3⟩,fun k_=>absurd hc4 k_⟩,fun k_=>absurd hc3 k_⟩ (R4)
         ·have hl4:(a0.2 == 0) = false:=Bool.eq_false_iff.2 hc4;have S1:=S;intro d8 o2;replace o2:=cndF.pos o2 hc3;obtain rfl:=cndF.neg o2 hc4;replace S1:=S1.pt 150 (undef) rfl;intro D5 p2;replace p2:=cndF.pos p2 hc3
          revert p2
          revert D5
          rintro _ rfl;replace S1:=S1.pt 146 (.bool (a0.2 == 0)) rfl;refine a_c S1 fun a_ S1=>?_;rw [show (a0.2 == 0) = false from hl4] at S1;exact RPost.o1 tys_ok (v:=undef) S1 S rfl (by kernel_rfl) ⟨fun _=>⟨fun k_=>absurd k_ hc4,fun _=>rfl⟩,fun k_=>absurd hc3 k_⟩
        ·have hl3:c0 = true:=(by simpa using hc3);have S1:=S;intro e8 G4;obtain rfl:=cndF.neg G4 hc3;replace S1:=S1.pt 150 (undef) rfl;intro f8 H4;obtain rfl:=cndF.neg H4 hc3;replace S1:=S1.pt 146 (undef) rfl;exact RPost.o1 tys_ok (v:=undef) S1 S rfl (by kernel_rfl) ⟨fun k_=>absurd k_ hc3,fun _=>rfl⟩
       refine RunAll.cons (cndF c0 false (cndF (a0.2 == 0) true (eqv (.bool (b0.1.1 != l0))))) [(cndF c0 false (cndF (a0.2 == 0) true (isI .i64 b0.1.1)),149),(cndF c0 false (cndF (a0.2 == 0) true (isI .i64 l0)),151),(cndF c0 false (eqv (.bool (a0.2 == 0))),146)] rfl rfl ?_ ?_
       ·intro W_ hW;by_cases hc3:c0 = false
        ·have hl3:c0 = false:=hc3;by_cases hc4:(a0.2 == 0) = true
         ·have hl4:(a0.2 == 0) = true:=hc4;have S1:=S;intro E5 e1;replace e1:=cndF.pos e1 hc3;replace e1:=cndF.pos e1 hc4
          revert e1
          revert E5
          rintro _ ⟨rfl,e7⟩;replace S1:=S1.pt 149 (ji b0.1.1) rfl;intro F5 f1;replace f1:=cndF.pos f1 hc3;replace f1:=cndF.pos f1 hc4
          revert f1
          revert F5
          rintro _ ⟨rfl,f7⟩;replace S1:=S1.pt 151 (ji l0) rfl;intro G5 q2;replace q2:=cndF.pos q2 hc3
          revert q2
          revert G5
          rintro _ rfl;replace S1:=S1.pt 146 (.bool (a0.2 == 0)) rfl;refine a_c S1 fun a_ S1=>?_;rw [show (a0.2 == 0) = true from hl4] at S1;exact RPost.o1 tys_ok (v:=.bool (b0.1.1 != l0)) S1 S rfl (by kernel_rfl) ⟨fun _=>⟨fun _=>rfl,fun k_=>absurd hc4 k_⟩,fun k_=>absurd hc3 k_⟩
         ·have hl4:(a0.2 == 0) = false:=Bool.eq_false_iff.2 hc4;have S1:=S;intro h8 r2;replace r2:=cndF.pos r2 hc3;obtain rfl:=cndF.neg r2 hc4;replace S1:=S1.pt 149 (undef) rfl;intro i8 s2;replace s2:=cndF.pos s2 hc3;obtain rfl:=cndF.neg s2 hc4;replace S1:=S1.pt 151 (undef) rfl;intro H5 t2;replace t2:=cndF.pos t2 hc3
          revert t2
          revert H5
          rintro _ rfl;replace S1:=S1.pt 146 (.bool (a0.2 == 0)) rfl;refine a_c S1 fun a_ S1=>?_;rw [show (a0.2 == 0) = false from hl4] at S1;exact RPost.o1 tys_ok (v:=undef) S1 S rfl (by kernel_rfl) ⟨fun _=>⟨fun k_=>absurd k_ hc4,fun _=>rfl⟩,fun k_=>absurd hc3 k_⟩
        ·have hl3:c0 = true:=(by simpa using hc3);have S1:=S;intro j8 I4;obtain rfl:=cndF.neg I4 hc3;replace S1:=S1.pt 149 (undef) rfl;intro k8 J4;obtain rfl:=cndF.neg J4 hc3;replace S1:=S1.pt 151 (undef) rfl;intro l8 K4;obtain rfl:=cndF.neg K4 hc3;replace S1:=S1.pt 146 (undef) rfl;exact RPost.o1 tys_ok (v:=undef) S1 S rfl (by kernel_rfl) ⟨fun k_=>absurd k_ hc3,fun _=>rfl⟩
       refine RunAll.cons (cndF c0 false (eqv (.bool w0))) [(cndF c0 false (eqv (.bool (a0.2 == 0))),146),(cndF c0 false (cndF (a0.2 == 0) true (eqv (.bool (b0.1.1 != l0)))),152),(eqv (.bool c0),143)] rfl rfl ?_ ?_
       ·intro W_ hW;by_cases hc3:c0 = false
        ·have hl3:c0 = false:=hc3;by_cases hc4:(a0.2 == 0) = true
         ·have hl4:(a0.2 == 0) = true:=hc4;have S1:=S;intro I5 u2;replace u2:=cndF.pos u2 hc3
          revert u2
          revert I5
          rintro _ rfl;replace S1:=S1.pt 146 (.bool (a0.2 == 0)) rfl;intro J5 g1;replace g1:=cndF.pos g1 hc3;replace g1:=cndF.pos g1 hc4
          revert g1
          revert J5
          rintro _ rfl;replace S1:=S1.pt 152 (.bool (b0.1.1 != l0)) rfl;rintro _ rfl;replace S1:=S1.pt 143 (.bool c0) rfl;refine a_c S1 fun a_ S1=>?_;rw [show c0 = false from hl3] at S1;rw [show (a0.2 == 0) = true from hl4] at S1;exact RPost.o1 tys_ok (v:=.bool (b0.1.1 != l0)) S1 S rfl (by kernel_rfl) ⟨fun _=>(congrArg Value.bool ((Q0 hc3).1 hc4).2),fun k_=>absurd hc3 k_⟩
         ·have hl4:(a0.2 == 0) = false:=Bool.eq_false_iff.2 hc4;have S1:=S;intro K5 w2;replace w2:=cndF.pos w2 hc3
          revert w2
          revert K5
          rintro _ rfl;replace S1:=S1.pt 146 (.bool (a0.2 == 0)) rfl;intro m8 y2;replace y2:=cndF.pos y2 hc3;obtain rfl:=cndF.neg y2 hc4;replace S1:=S1.pt 152 (undef) rfl;rintro _ rfl;replace S1:=S1.pt 143 (.bool c0) rfl;refine a_c S1 fun a_ S1=>?_;rw [show c0 = false from hl3] at S1;rw [show (a0.2 == 0) = false from hl4] at S1;exact RPost.o1 tys_ok (v:=.bool false) S1 S rfl (by kernel_rfl) ⟨fun _=>(congrArg Value.bool ((Q0 hc3).2 hc4)),fun k_=>absurd hc3 k_⟩
        ·have hl3:c0 = true:=(by simpa using hc3);have S1:=S;intro n8 L4;obtain rfl:=cndF.neg L4 hc3;replace S1:=S1.pt 146 (undef) rfl;intro o8 M4;obtain rfl:=cndF.neg M4 hc3;replace S1:=S1.pt 152 (undef) rfl;rintro _ rfl;replace S1:=S1.pt 143 (.bool c0) rfl;refine a_c S1 fun a_ S1=>?_;rw [show c0 = true from hl3] at S1;exact RPost.o1 tys_ok (v:=undef) S1 S rfl (by kernel_rfl) ⟨fun k_=>absurd k_ hc3,fun _=>rfl⟩
       refine RunAll.cons (eqv (.bool F0)) [(eqv (.bool c0),143),(cndF c0 false (eqv (.bool w0)),153)] rfl rfl ?_ ?_
       ·intro W_ hW;by_cases hc3:c0 = false
        ·have hl3:c0 = false:=hc3;have S1:=S;rintro _ rfl;replace S1:=S1.pt 143 (.bool c0) rfl;intro L5 z2;replace z2:=cndF.pos z2 hc3
         revert z2
         revert L5
         rintro _ rfl;replace S1:=S1.pt 153 (.bool w0) rfl;refine a_c S1 fun a_ S1=>?_;rw [show c0 = false from hl3] at S1;exact RPost.o1 tys_ok (v:=.bool w0) S1 S rfl (by kernel_rfl) (congrArg Value.bool ((G0).1 hc3).2)
        ·have hl3:c0 = true:=(by simpa using hc3);have S1:=S;rintro _ rfl;replace S1:=S1.pt 143 (.bool c0) rfl;intro p8 N4;obtain rfl:=cndF.neg N4 hc3;replace S1:=S1.pt 153 (undef) rfl;refine a_c S1 fun a_ S1=>?_;rw [show c0 = true from hl3] at S1;exact RPost.o1 tys_ok (v:=.bool true) S1 S rfl (by kernel_rfl) (congrArg Value.bool ((G0).2 hc3))
       exact trivial
      intro D8 L0;refine EndE.some_ rfl ?_;rintro _ ⟨rfl,g7⟩;replace S:=S.pt 124 (ji a0.2) rfl;refine EndE.some_ rfl ?_;rintro _ ⟨rfl,h7⟩;replace S:=S.pt 125 (ji b0.2) rfl;refine EndE.some_ rfl ?_;rintro _ rfl;replace S:=S.pt 126 (.bool (a0.2 != b0.2)) rfl;refine EndE.some_ rfl ?_;rintro _ rfl;replace S:=S.pt 127 (.bool (a0.2 != b0.2)) rfl;refine EndE.some_ rfl ?_;intro M5 _;replace S:=S.pt 128 (M5) rfl;refine EndE.some_ rfl ?_;intro N5 _;replace S:=S.pt 129 (N5) rfl;refine EndE.some_ rfl ?_;intro O5 _;replace S:=S.pt 130 (O5) rfl;refine EndE.some_ rfl ?_;intro P5 _;replace S:=S.pt 131 (P5) rfl;refine EndE.some_ rfl ?_;intro Q5 _;replace S:=S.pt 132 (Q5) rfl;refine EndE.some_ rfl ?_;rintro _ rfl;replace S:=S.pt 133 (.bool d0) rfl;refine EndE.some_ rfl ?_;rintro _ rfl;replace S:=S.pt 134 (.bool d0) rfl;refine EndE.some_ rfl ?_;intro R5 _;replace S:=S.pt 135 (R5) rfl;refine EndE.some_ rfl ?_;intro S5 _;replace S:=S.pt 136 (S5) rfl;refine EndE.some_ rfl ?_;intro T5 _;replace S:=S.pt 137 (T5) rfl;refine EndE.some_ rfl ?_;intro U5 _;replace S:=S.pt 138 (U5) rfl;refine EndE.some_ rfl ?_;intro V5 _;replace S:=S.pt 139 (V5) rfl;refine EndE.some_ rfl ?_;intro W5 _;replace S:=S.pt 140 (W5) rfl;refine EndE.some_ rfl ?_;intro X5 _;replace S:=S.pt 141 (X5) rfl;refine EndE.some_ rfl ?_;rintro _ rfl;replace S:=S.pt 142 (.bool c0) rfl;refine EndE.some_ rfl ?_;rintro _ rfl;replace S:=S.pt 143 (.bool c0) rfl;refine EndE.some_ rfl ?_;intro Y5 _;replace S:=S.pt 144 (Y5) rfl;refine EndE.some_ rfl ?_;intro Z5 _;replace S:=S.pt 145 (Z5) rfl;refine EndE.some_ rfl ?_;intro a6 _;replace S:=S.pt 146 (a6) rfl;refine EndE.some_ rfl ?_;intro b6 _;replace S:=S.pt 147 (b6) rfl;refine EndE.some_ rfl ?_;intro c6 _;replace S:=S.pt 148 (c6) rfl;refine EndE.some_ rfl ?_;intro d6 _;replace S:=S.pt 149 (d6) rfl;refine EndE.some_ rfl ?_;intro e6 _;replace S:=S.pt 150 (e6) rfl;refine EndE.some_ rfl ?_;intro f6 _;replace S:=S.pt 151 (f6) rfl;refine EndE.some_ rfl ?_;intro g6 _;replace S:=S.pt 152 (g6) rfl;refine EndE.some_ rfl ?_;intro h6 _;replace S:=S.pt 153 (h6) rfl;refine EndE.some_ rfl ?_;rintro _ rfl;replace S:=S.pt 154 (.bool F0) rfl;refine b_z S fun a S=>?_;replace R0:=R0.step L0;replace r0:=r0.step L0;replace o0:=o0.step L0;replace k0:=k0.step L0;replace m0:=m0.step L0;replace W:=W.step L0;refine a_a ?_;replace S:=S.su (l':=[(154,.bool F0),(11,ji p0),(0,v0),(7,B0)]);refine wcs F0 S rfl ?_ ?_
      ·intro hc;rw [if_pos hc] at h0;refine ws (wr ?_);refine dl1 S 1 (6,.bool false) fun a S=>wn (a_a (wp_ret ?_));refine a_W ?_;refine a_k (a_k ?_);refine a_W ?_;refine a_k (a_k ?_);obtain rfl:=oi h0;obtain rfl:=b_n h;exact a_B S rfl rfl ⟨_,rfl,RepV.mkBool,W.below⟩
      ·intro hc;rw [if_neg (bf hc)] at h0;refine wp_skip ?_;refine b_d ?_;refine a_a ?_;replace S:=S.su (l':=[(11,ji p0),(0,v0),(7,B0)]);refine wr ?_;refine dl1 S 1 (106,ji p0) fun a S=>?_;obtain ⟨m3,S2,h0⟩:=a_b h0;refine wgo S (a_e S .i64 (p0 + 1) rfl (.inl rfl) rfl rfl rfl rfl S2 fun a S=>dl1 S 1 (11,ji m3) fun a S=>wn (a_a ?_));exact ⟨m3,T0,⟨B0,S.su,(W.drop 2),(a_l S2).2.1,(R0.drop 2),(r0.drop 2),h0⟩⟩
     ·intro hc;rw [if_neg (bf hc)] at h0;refine wp_exit ?_;refine a_v ?_;refine a_v ?_;refine a_F ?_;refine a_a ?_;obtain rfl:=oi h0;exact ⟨_,rfl,⟨S.sub trivial,W⟩⟩
  clear S W;rintro a p6 ⟨g3,rfl,S,W⟩;replace h:=b_I h;try dsimp only at h
  refine a_a (ws (wr ?_));obtain ⟨h3,R3,h⟩:=a_b h;refine wgo S (a_g (vs:=[]) S rfl cb8 rfl rfl rfl (c8 (Kw K w []) n p6  R3) ?_);rintro _ E8 ⟨r8,rfl,C1,S4⟩;refine ⟨_,rfl,?_⟩;replace C1:=RepV.back C1 W;clear S;intro a S;replace W:=W.step S4;obtain rfl:=RepV.bool C1;refine dl1 S 1 (6,.bool h3) fun a S=>wn (a_a ?_);replace S:=S.su (l':=[(6,.bool h3)]);refine wp_ret ?_;obtain rfl:=oi h;exact a_B S rfl rfl ⟨_,rfl,RepV.mkBool,W.below⟩
theorem cb4:b_a Try.prog 4 = true:=by kernel_rfl
end Go.Proofs.Ytlgalcekkffhnaa
