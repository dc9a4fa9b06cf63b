/- Functions of the program, as plain data. -/
import Derived.Test.YtmcpcdmonglkjaaP0
set_option linter.unusedVariables false
set_option linter.unusedSimpArgs false
namespace Go.Proofs.Ytmcpcdmonglkjaa
open Go.RowKit
set_option maxHeartbeats 4000000
set_option maxRecDepth 100000
def p31 (n:Nat) :Option ((List Int)) :=
 some ([]:List Int)
theorem c31 (K:Nat → Prop) (n:Nat) (w:World)  {r:(List Int)} (h:p31 n  = some r) :
  Calls Try.prog 31 #[] w (fun e_ w_=>∃ b_:Nat,e_ = .returned (.agg #[.map (some b_)]) ∧ Mp .u8 w_ b_ r ∧ Wd w w_ [some b_]):=by
 refine enter (args:=[]) Try.func31 rfl 3 rfl rfl fun a S=>?_;have W:=Wd.start w;unfold p31 at h;replace S:St 3 a []:=S;refine ws (wr ?_);refine wgo S (c_r S st72 rfl rfl rfl fun a i0 c0 g0 a0 S=>?_);replace W:=W.box g0;refine wn (a_a (ws (wr ?_)));refine wgo S (e_b (kd:=.u8) S rfl rfl rfl fun a j0 d0 e0 b0 S=>?_);replace a0:=a0.box e0;replace W:=W.box e0;refine wgo S (d_B S st72 rfl rfl rfl rfl fun a S=>wgo S (c_t S st72 rfl rfl rfl rfl a0 ?_));intro h0 f0 B_;replace b0:=b0.wrote f0 (by simp) (W.b_ 0 1 (by decide) rfl rfl);replace W:=W.wrote f0 (by simp);replace a0:Ox (.cells #[.map (some d0)] 72 (0,0)) h0 c0:=B_;clear B_;refine wn (a_a ?_);replace S:=S.su (l':=[(0,pB c0)]);refine wp_ret ?_;obtain rfl:=oi h;exact c_1 S rfl (d_D S st72 rfl a0) ⟨d0,rfl,b0,Wd.front (P:=[some d0]) (LO:=[some c0]) W⟩
theorem cb31:a_F Try.prog 31 = true:=by kernel_rfl
def p53 (n:Nat) (x0:Int):Option ((Bool)) :=
 (if (decide (x0 < 1)) = false then some (decide (x0 > 7)) else some true).bind fun a0 =>
 some a0
theorem c53 (K:Nat → Prop) (n:Nat) (w:World) (x0:Int) (G0:InR .u8 x0) {r:(Bool)} (h:p53 n x0 = some r) :
  Calls Try.prog 53 #[.int .u8 x0] w (b_G .bool w (Kw K w []) r):=by
 refine enter (args:=[.int .u8 x0]) Try.func53 rfl 9 rfl rfl fun a S=>?_;have W:=Wd.start w;unfold p53 at h;replace S:St 9 a [(0,.int .u8 x0)]:=S;refine ws (wr ?_);refine dl1 S 1 (2,.bool false) fun a S=>wn (a_a ?_);replace S:=S.su (l':=[(0,.int .u8 x0)]);refine ws (wr ?_);refine dl3 S 3 (5,.bool (decide (x0 < 1))) (4,.bool (decide (x0 < 1))) (3,.int .u8 x0) fun a S=>?_;obtain ⟨b0,a0,h⟩:=a_c h;refine seg 3 (fun a_ w_=>w = w_ ∧ St 9 a_ [(8,.bool b0)]) ?_ ?_
 ·by_cases hc:(decide (x0 < 1)) = false
  ·rw [if_pos hc] at a0;rw [hc] at S;refine dl3 S 3 (8,.bool (decide (x0 > 7))) (7,.bool (decide (x0 > 7))) (6,.int .u8 x0) fun a S=>?_;obtain rfl:=oi a0;exact ⟨rfl,S.su⟩
  ·rw [if_neg hc] at a0;rw [show (decide (x0 < 1)) = true from (by simpa using hc)] at S;refine dl3 S 3 (8,.bool true) (7,undef) (6,undef) fun a S=>?_;obtain rfl:=oi a0;exact ⟨rfl,S.su⟩
 clear S a0;rintro a _ ⟨rfl,S⟩;refine dl1 S 1 (2,.bool b0) fun a S=>wn (a_a ?_);replace S:=S.su (l':=[(2,.bool b0)]);refine wp_ret ?_;obtain rfl:=oi h;exact a_p S rfl rfl ⟨_,rfl,RepV.mkBool,W.below⟩
theorem cb53:a_F Try.prog 53 = true:=by kernel_rfl
def p63_53_l1 (n:Nat) (x0:Sl (Int)):Nat → (Int) → Option ((Unit) ⊕ ((Int)))
 | 0,_=>.none
 | m + 1,a0=>if (decide (a0 < (a_e x0))) then ((idx x0.xs a0).bind fun d0=>(p53 n d0).bind fun b0=>if b0 then (some (.inr a0)) else (ckI .i64 (a0 + 1)).bind fun c0=>p63_53_l1 n x0 m c0) else some (.inl ())
def p63_53 (n:Nat) (x0:Sl (Int)):Option ((Int)) :=
 (p63_53_l1 n x0 n 0).bind fun (a0:(Unit) ⊕ ((Int))) =>
 lrK a0 some fun (b0:Unit) =>
 some (-1)
theorem c63_53 (K:Nat → Prop) (n:Nat) (w:World) (x0:Sl (Int)) (v0:Value) (R0:RepV (.sl (.int .u8)) w K v0 x0) {r:(Int)} (h:p63_53 n x0 = some r) :
  Calls Try.prog 63 #[v0,.func (.func 53) #[] #[]] w (b_G (.int .i64) w (Kw K w []) r):=by
 refine enter (args:=[v0,.func (.func 53) #[] #[]]) Try.func63 rfl 19 rfl rfl fun a S=>?_;have W:=Wd.start w;replace R0:=R0.arg;unfold p63_53 at h;replace S:St 19 a [(0,v0),(1,.func (.func 53) #[] #[])]:=S;refine ws (wr ?_);refine dl1 S 1 (4,ji 0) fun a S=>wn (a_a ?_);replace S:=S.su (l':=[(0,v0),(1,.func (.func 53) #[] #[])]);refine ws (ws (wr ?_));refine dl1 S 1 (6,v0) fun a S=>wgo S (a_o (K:=_) S rfl ty25 rfl rfl rfl R0 fun a t0 S=>dl1 S 1 (8,ji 0) fun a S=>wn (a_a ?_));replace S:=S.su (l':=[(8,ji 0),(7,ji (a_e x0)),(0,v0),(1,.func (.func 53) #[] #[])]);obtain ⟨k0,r0,h⟩:=a_c h;refine a_s (fun a_ w_=>∃ h0:Unit,k0 = .inl h0 ∧ (St 19 a_ [] ∧ Wd w w_ [])) ?_ ?_
 ·refine wp_block ?_;refine a_w (fun m_ a_ w_=>∃ (a0:Int) ,St 19 a_ [(8,ji a0),(7,ji (a_e x0)),(0,v0),(1,.func (.func 53) #[] #[])] ∧ Wd w w_ [] ∧ InR .i64 a0 ∧ RepV (.sl (.int .u8)) w_ (Kw K w []) v0 x0 ∧ p63_53_l1 n x0 m_ a0 = some k0) n ?_ ?_
  ·skip
   exact ⟨0,⟨S.su,W,(show InR .i64 0 by decide),R0,r0⟩⟩
  ·clear S W;rintro d0 a s0 ⟨a0,S,W,m0,R0,b0⟩
   cases d0 with
   | zero=>exact absurd b0 (by simp [p63_53_l1])
   | succ d0 =>
    refine ⟨d0,rfl,?_⟩;rw [p63_53_l1] at b0;refine ws (wr ?_);refine dl1 S 1 (9,.bool (decide (a0 < (a_e x0)))) fun a S=>wn (a_a (ws ?_));refine wcs (decide (a0 < (a_e x0))) S rfl ?_ ?_
    ·intro hc;rw [if_pos hc] at b0;refine wp_skip (a_a ?_);replace S:=S.su (l':=[(8,ji a0),(7,ji (a_e x0)),(0,v0),(1,.func (.func 53) #[] #[])]);refine ws (wp_block (ws (wr ?_)));refine dl2 S 2 (5,ji a0) (10,ji a0) fun a S=>wn (a_a ?_);replace S:=S.su (l':=[(5,ji a0),(8,ji a0),(7,ji (a_e x0)),(0,v0),(1,.func (.func 53) #[] #[])]);refine ws (wr ?_);refine dl3 S 3 (13,ji a0) (12,v0) (11,.func (.func 53) #[] #[]) fun a S=>?_;obtain ⟨e0,q0,b0⟩:=a_c b0;refine wgo S (a_h S rfl ty25 rfl rfl rfl R0 rfl q0 fun a w0 n0 u0 S=>wgo S (a_b (t:=(.int .u8)) (x:=e0) S rfl ty5 rfl rfl rfl n0 fun a y0 o0 S=>?_));obtain ⟨rfl,l0⟩:=RepV.int o0;obtain ⟨i0,p0,b0⟩:=a_c b0;refine wgo S (b_A (vs:=[.int .u8 e0]) S rfl rfl cb53 rfl rfl rfl (c53 (Kw K w []) n s0 e0 l0 p0) ?_);rintro _ A0 ⟨z0,rfl,c0,g0⟩;refine ⟨_,rfl,?_⟩;replace c0:=RepV.back c0 W;clear S;intro a S;replace R0:=R0.step g0;replace W:=W.step g0;obtain rfl:=RepV.bool c0;refine wn (a_a ?_);replace S:=S.su (l':=[(16,.bool i0),(5,ji a0),(8,ji a0),(7,ji (a_e x0)),(0,v0),(1,.func (.func 53) #[] #[])]);refine wcs i0 S rfl ?_ ?_
     ·intro hc;rw [if_pos hc] at b0;refine ws (wr ?_);refine dl2 S 2 (4,ji a0) (17,ji a0) fun a S=>wn (a_a (wp_ret ?_));refine a_L ?_;refine a_i (a_i ?_);refine a_L ?_;refine a_i (a_i ?_);obtain rfl:=oi b0;obtain rfl:=b_i h;exact a_p S rfl rfl ⟨_,rfl,(RepV.mkInt m0),W.below⟩
     ·intro hc;rw [if_neg (bf hc)] at b0;refine wp_skip ?_;refine a_3 ?_;refine a_a ?_;replace S:=S.su (l':=[(8,ji a0),(7,ji (a_e x0)),(0,v0),(1,.func (.func 53) #[] #[])]);refine wr ?_;obtain ⟨j0,f0,b0⟩:=a_c b0;refine wgo S (a_n S .i64 (a0 + 1) rfl (.inl rfl) rfl rfl rfl rfl f0 fun a S=>dl1 S 1 (8,ji j0) fun a S=>wn (a_a ?_));exact ⟨j0,⟨S.su,W,(a_t f0).2.1,R0,b0⟩⟩
    ·intro hc;rw [if_neg (bf hc)] at b0;refine wp_exit ?_;refine a_y ?_;refine a_y ?_;refine a_H ?_;refine a_a ?_;obtain rfl:=oi b0;exact ⟨_,rfl,⟨S.sub trivial,W⟩⟩
 clear S W;rintro a B0 ⟨h0,rfl,S,W⟩;replace h:=b_p h;try dsimp only at h
 refine a_a (ws (wr ?_));refine dl1 S 1 (4,ji (-1)) fun a S=>wn (a_a (wp_ret ?_));obtain rfl:=oi h;exact a_p S rfl rfl ⟨_,rfl,(RepV.mkInt (by decide)),W.below⟩
def p52_53 (n:Nat) (x0:Sl (Int)):Option ((Bool)) :=
 (p63_53 n x0).bind fun a0 =>
 some (decide (a0 ≥ 0))
theorem c52_53 (K:Nat → Prop) (n:Nat) (w:World) (x0:Sl (Int)) (v0:Value) (R0:RepV (.sl (.int .u8)) w K v0 x0) {r:(Bool)} (h:p52_53 n x0 = some r) :
  Calls Try.prog 52 #[v0,.func (.func 53) #[] #[]] w (b_G .bool w (Kw K w []) r):=by
 refine enter (args:=[v0,.func (.func 53) #[] #[]]) Try.func52 rfl 9 rfl rfl fun a S=>?_;have W:=Wd.start w;replace R0:=R0.arg;unfold p52_53 at h;replace S:St 9 a [(0,v0),(1,.func (.func 53) #[] #[])]:=S;refine ws (wr ?_);refine dl1 S 1 (4,.bool false) fun a S=>wn (a_a ?_);replace S:=S.su (l':=[(0,v0),(1,.func (.func 53) #[] #[])]);refine ws (wr ?_);refine dl2 S 2 (6,.func (.func 53) #[] #[]) (5,v0) fun a S=>?_;obtain ⟨c0,d0,h⟩:=a_c h;refine wgo S (a_f (vs:=[v0,.func (.func 53) #[] #[]]) S rfl cb63 rfl rfl rfl (c63_53 (Kw K w []) n w x0 _ R0 d0) ?_);rintro _ g0 ⟨f0,rfl,a0,b0⟩;refine ⟨_,rfl,?_⟩;replace a0:=RepV.back a0 W;clear S;intro a S;replace R0:=R0.step b0;replace W:=W.step b0;obtain ⟨rfl,e0⟩:=RepV.int a0;refine dl2 S 2 (4,.bool (decide (c0 ≥ 0))) (8,.bool (decide (c0 ≥ 0))) fun a S=>wn (a_a (wp_ret ?_));obtain rfl:=oi h;exact a_p S rfl rfl ⟨_,rfl,RepV.mkBool,W.below⟩
def p29 (n:Nat) (x0:Sl (Int)):Option ((Int)) :=
 (if (decide ((a_e x0) < 1)) = false then some (decide ((a_e x0) > 6)) else some true).bind fun a0 =>
 (if a0 = false then (p52_53 n x0).bind fun c0=>some c0 else some true).bind fun b0 =>
 if b0 then (some 1) else some 0
theorem c29 (K:Nat → Prop) (n:Nat) (w:World) (x0:Sl (Int)) (v0:Value) (R0:RepV (.sl (.int .u8)) w K v0 x0) {r:(Int)} (h:p29 n x0 = some r) :
  Calls Try.prog 29 #[v0] w (b_G (.int .i64) w (Kw K w []) r):=by
 refine enter (args:=[v0]) Try.func29 rfl 15 rfl rfl fun a S=>?_;have W:=Wd.start w;replace R0:=R0.arg;unfold p29 at h;replace S:St 15 a [(0,v0)]:=S;refine ws (wr ?_);refine dl1 S 1 (2,ji 0) fun a S=>wn (a_a ?_);replace S:=S.su (l':=[(0,v0)]);refine ws (ws (wr ?_));refine dl1 S 1 (3,v0) fun a S=>wgo S (a_o (K:=_) S rfl ty25 rfl rfl rfl R0 fun a i0 S=>dl2 S 2 (6,.bool (decide ((a_e x0) < 1))) (5,.bool (decide ((a_e x0) < 1))) fun a S=>?_);obtain ⟨c0,b0,h⟩:=a_c h;refine seg 4 (fun a_ w_=>w = w_ ∧ St 15 a_ [(10,.bool c0),(0,v0)]) ?_ ?_
 ·by_cases hc:(decide ((a_e x0) < 1)) = false
  ·rw [if_pos hc] at b0;rw [hc] at S;refine dl1 S 1 (7,v0) fun a S=>wgo S (a_o (K:=_) S rfl ty25 rfl rfl rfl R0 fun a j0 S=>dl2 S 2 (10,.bool (decide ((a_e x0) > 6))) (9,.bool (decide ((a_e x0) > 6))) fun a S=>?_);obtain rfl:=oi b0;exact ⟨rfl,S.su⟩
  ·rw [if_neg hc] at b0;rw [show (decide ((a_e x0) < 1)) = true from (by simpa using hc)] at S;refine dl4 S 4 (10,.bool true) (9,undef) (8,undef) (7,undef) fun a S=>?_;obtain rfl:=oi b0;exact ⟨rfl,S.su⟩
 clear S b0;rintro a _ ⟨rfl,S⟩;refine dl1 S 1 (11,.bool c0) fun a S=>?_;obtain ⟨f0,a0,h⟩:=a_c h;refine seg 3 (fun a_ w_=>St 15 a_ [(14,.bool f0)] ∧ Wd w w_ []) ?_ ?_
 ·by_cases hc:c0 = false
  ·rw [if_pos hc] at a0;rw [hc] at S;refine dl1 S 1 (12,v0) fun a S=>?_;obtain ⟨h0,g0,a0⟩:=a_c a0;refine wgo S (a_f (vs:=[v0,.func (.func 53) #[] #[]]) S rfl cb52 rfl rfl rfl (c52_53 (Kw K w []) n w x0 _ R0 g0) ?_);rintro _ m0 ⟨k0,rfl,d0,e0⟩;refine ⟨_,rfl,?_⟩;replace d0:=RepV.back d0 W;clear S;intro a S;replace R0:=R0.step e0;replace W:=W.step e0;obtain rfl:=RepV.bool d0;refine dl1 S 1 (14,.bool h0) fun a S=>?_;obtain rfl:=oi a0;exact ⟨S.su,W⟩
  ·rw [if_neg hc] at a0;rw [show c0 = true from (by simpa using hc)] at S;refine dl3 S 3 (14,.bool true) (13,undef) (12,undef) fun a S=>?_;obtain rfl:=oi a0;exact ⟨S.su,W⟩
 clear S W a0;rintro a l0 ⟨S,W⟩;refine wn (a_a ?_);refine wcs f0 S rfl ?_ ?_
 ·intro hc;rw [if_pos hc] at h;refine ws (wr ?_);refine dl1 S 1 (2,ji 1) fun a S=>wn (a_a ?_);replace S:=S.su (l':=[(2,ji 1)]);refine wp_ret (a_i ?_);obtain rfl:=oi h;exact a_p S rfl rfl ⟨_,rfl,(RepV.mkInt (by decide)),W.below⟩
 ·intro hc;rw [if_neg (bf hc)] at h;refine wp_skip (a_a ?_);replace S:=S.sub (l':=[]) trivial;refine ws (wr ?_);refine dl1 S 1 (2,ji 0) fun a S=>wn (a_a (wp_ret ?_));obtain rfl:=oi h;exact a_p S rfl rfl ⟨_,rfl,(RepV.mkInt (by decide)),W.below⟩
theorem cb29:a_F Try.prog 29 = true:=by kernel_rfl
def p32 (n:Nat) (x0:Sl (Int)):Option ((Bool)) :=
 (if (decide ((a_e x0) > 0)) = true then (p29 n x0).bind fun b0=>some (b0 == 0) else some false).bind fun a0 =>
 some a0
theorem c32 (K:Nat → Prop) (n:Nat) (w:World) (x0:Sl (Int)) (v0:Value) (R0:RepV (.sl (.int .u8)) w K v0 x0) {r:(Bool)} (h:p32 n x0 = some r) :
  Calls Try.prog 32 #[v0] w (b_G .bool w (Kw K w []) r):=by
 refine enter (args:=[v0]) Try.func32 rfl 11 rfl rfl fun a S=>?_;have W:=Wd.start w;replace R0:=R0.arg;unfold p32 at h;replace S:St 11 a [(0,v0)]:=S;refine ws (wr ?_);refine dl1 S 1 (2,.bool false) fun a S=>wn (a_a ?_);replace S:=S.su (l':=[(0,v0)]);refine ws (wr ?_);refine dl1 S 1 (3,v0) fun a S=>wgo S (a_o (K:=_) S rfl ty25 rfl rfl rfl R0 fun a h0 S=>dl2 S 2 (6,.bool (decide ((a_e x0) > 0))) (5,.bool (decide ((a_e x0) > 0))) fun a S=>?_);obtain ⟨c0,a0,h⟩:=a_c h;refine seg 4 (fun a_ w_=>St 11 a_ [(10,.bool c0)] ∧ Wd w w_ []) ?_ ?_
 ·by_cases hc:(decide ((a_e x0) > 0)) = true
  ·rw [if_pos hc] at a0;rw [hc] at S;refine dl1 S 1 (7,v0) fun a S=>?_;obtain ⟨e0,f0,a0⟩:=a_c a0;refine wgo S (a_f (vs:=[v0]) S rfl cb29 rfl rfl rfl (c29 (Kw K w []) n w x0 _ R0 f0) ?_);rintro _ j0 ⟨i0,rfl,b0,d0⟩;refine ⟨_,rfl,?_⟩;replace b0:=RepV.back b0 W;clear S;intro a S;replace R0:=R0.step d0;replace W:=W.step d0;obtain ⟨rfl,g0⟩:=RepV.int b0;refine dl2 S 2 (10,.bool (e0 == 0)) (9,.bool (e0 == 0)) fun a S=>?_;obtain rfl:=oi a0;exact ⟨S.su,W⟩
  ·rw [if_neg hc] at a0;rw [show (decide ((a_e x0) > 0)) = false from Bool.eq_false_iff.2 hc] at S;refine dl4 S 4 (10,.bool false) (9,undef) (8,undef) (7,undef) fun a S=>?_;obtain rfl:=oi a0;exact ⟨S.su,W⟩
 clear S W a0;rintro a k0 ⟨S,W⟩;refine dl1 S 1 (2,.bool c0) fun a S=>wn (a_a ?_);replace S:=S.su (l':=[(2,.bool c0)]);refine wp_ret ?_;obtain rfl:=oi h;exact a_p S rfl rfl ⟨_,rfl,RepV.mkBool,W.below⟩
theorem cb32:a_F Try.prog 32 = true:=by kernel_rfl
def p33 (n:Nat) (x0:Int) (x1:Int):Option ((Bool)) :=
 if (x0 == 2) then ((if (decide (x1 ≥ 1)) = true then some (decide (x1 ≤ 127)) else some false).bind fun a0=>some a0) else some (x1 == 0)
theorem c33 (K:Nat → Prop) (n:Nat) (w:World) (x0:Int) (G0:InR .u8 x0) (x1:Int) (G1:InR .u8 x1) {r:(Bool)} (h:p33 n x0 x1 = some r) :
  Calls Try.prog 33 #[.int .u8 x0,.int .u8 x1] w (b_G .bool w (Kw K w []) r):=by
 refine enter (args:=[.int .u8 x0,.int .u8 x1]) Try.func33 rfl 15 rfl rfl fun a S=>?_;have W:=Wd.start w;unfold p33 at h;replace S:St 15 a [(0,.int .u8 x0),(1,.int .u8 x1)]:=S;refine ws (wr ?_);refine dl1 S 1 (4,.bool false) fun a S=>wn (a_a ?_);replace S:=S.su (l':=[(0,.int .u8 x0),(1,.int .u8 x1)]);refine ws (ws (wr ?_));refine dl2 S 2 (6,.bool (x0 == 2)) (5,.int .u8 x0) fun a S=>wn (a_a ?_);replace S:=S.su (l':=[(6,.bool (x0 == 2)),(1,.int .u8 x1)]);refine wcs (x0 == 2) S rfl ?_ ?_
 ·intro hc;rw [if_pos hc] at h;refine ws (wr ?_);refine dl3 S 3 (9,.bool (decide (x1 ≥ 1))) (8,.bool (decide (x1 ≥ 1))) (7,.int .u8 x1) fun a S=>?_;obtain ⟨b0,a0,h⟩:=a_c h;refine seg 3 (fun a_ w_=>w = w_ ∧ St 15 a_ [(12,.bool b0)]) ?_ ?_
  ·by_cases hc:(decide (x1 ≥ 1)) = true
   ·rw [if_pos hc] at a0;rw [hc] at S;refine dl3 S 3 (12,.bool (decide (x1 ≤ 127))) (11,.bool (decide (x1 ≤ 127))) (10,.int .u8 x1) fun a S=>?_;obtain rfl:=oi a0;exact ⟨rfl,S.su⟩
   ·rw [if_neg hc] at a0;rw [show (decide (x1 ≥ 1)) = false from Bool.eq_false_iff.2 hc] at S;refine dl3 S 3 (12,.bool false) (11,undef) (10,undef) fun a S=>?_;obtain rfl:=oi a0;exact ⟨rfl,S.su⟩
  clear S a0;rintro a _ ⟨rfl,S⟩;refine dl1 S 1 (4,.bool b0) fun a S=>wn (a_a ?_);replace S:=S.su (l':=[(4,.bool b0)]);refine wp_ret (a_i ?_);obtain rfl:=oi h;exact a_p S rfl rfl ⟨_,rfl,RepV.mkBool,W.below⟩
 ·intro hc;rw [if_neg (bf hc)] at h;refine wp_skip (a_a ?_);replace S:=S.su (l':=[(1,.int .u8 x1)]);refine ws (wr ?_);refine dl3 S 3 (4,.bool (x1 == 0)) (14,.bool (x1 == 0)) (13,.int .u8 x1) fun a S=>wn (a_a (wp_ret ?_));obtain rfl:=oi h;exact a_p S rfl rfl ⟨_,rfl,RepV.mkBool,W.below⟩
theorem cb33:a_F Try.prog 33 = true:=by kernel_rfl
def p41 (n:Nat) (x0:Sl (Int)):Option ((Sl (Int))) :=
 (c_K ([]:List (Int)) x0.xs).bind fun a0 =>
 some (⟨a0,a_Q (some 0) a0.length⟩:Sl (Int))
theorem c41 (K:Nat → Prop) (n:Nat) (w:World) (x0:Sl (Int)) (v0:Value) (R0:RepV (.sl (.int .u8)) w K v0 x0) {r:(Sl (Int))} (h:p41 n x0 = some r) :
  Calls Try.prog 41 #[v0] w (fun e_ w_=>∃ v0_:Value,e_ = .returned v0_ ∧ Ow (.int .u8) 5 w_ w.heap.size (Kw K w [v0_.ownBlock]) v0_ r.xs r.cap ∧ Below w.heap.size w w_):=by
 refine enter (args:=[v0]) Try.func41 rfl 8 rfl rfl fun a S=>?_;have W:=Wd.start w;replace R0:=R0.arg;unfold p41 at h;replace S:St 8 a [(0,v0)]:=S;refine ws (wr ?_);refine dl1 S 1 (2,.slice .none 0 0) fun a S=>wn (a_a ?_);replace S:=S.su (l':=[(0,v0)]);refine ws (ws (wr ?_));refine dl1 S 1 (3,v0) fun a S=>wgo S (op_eqnil S rfl ty25 rfl rfl rfl R0 fun a f0 l0 S=>wn (a_a ?_));replace S:=S.su (l':=[(4,.bool f0),(0,v0)]);refine wcs f0 S rfl ?_ ?_
 ·intro hc;have hx_:=l0 hc;refine ws (wr ?_);refine dl1 S 1 (2,.slice .none 0 0) fun a S=>wn (a_a ?_);replace S:=S.su (l':=[(2,.slice .none 0 0)]);refine wp_ret (a_i ?_);replace W:=W.more;have j0:Ow (.int .u8) 5 w w.heap.size (Kw K w [.none]) (.slice .none 0 0) ([]:List (Int)) (some 0):=Ow.nil;obtain rfl:(⟨([]:List (Int)),some 0⟩:Sl (Int)) = _:=by simpa [hx_,c_K,a_Q] using h
  exact a_p S rfl rfl ⟨_,rfl,(j0.lessO 0 rfl),W.below⟩
 ·intro hc;refine wp_skip (a_a ?_);replace S:=S.su (l':=[(0,v0)]);refine ws (wr ?_);refine wgo S (b_P (K:=K) (e:=(.int .u8)) (E:=5) S W rfl ty25 un25 rfl rfl fun a m0 g0 h0 c0 S=>?_);replace R0:=R0.box h0;replace W:=W.box h0;replace c0:Ow (.int .u8) 5 m0 w.heap.size (Kw K w [some g0]) (.slice (some ⟨g0,0,.none⟩) 0 0) ([]:List (Int)) (some 0):=c0;refine dl1 S 1 (6,v0) fun a S=>?_;obtain ⟨i0,k0,h⟩:=a_c h;refine wgo S (a_l S W (E:=5) 0 rfl ty25 un25 by25 rfl rfl rfl rfl c0 rfl R0 k0 fun a d0 a0 e0 b0 S=>?_);replace R0:RepV _ _ (Kw K w [a0.ownBlock]) _ _:=R0.apd e0 (i:=0) rfl;replace W:Wd _ _ [a0.ownBlock]:=W.apd e0 (i:=0) rfl;replace b0:Ow (.int .u8) 5 d0 w.heap.size (Kw K w [a0.ownBlock]) a0 i0 (a_Q (some 0) i0.length):=b0;refine dl1 S 1 (2,a0) fun a S=>wn (a_a (wp_ret ?_));obtain rfl:=oi h;exact a_p S rfl rfl ⟨_,rfl,(b0.lessO 0 rfl),W.below⟩
theorem cb41:a_F Try.prog 41 = true:=by kernel_rfl
def p44 (n:Nat) (x0:Sl (Int)):Option ((Sl (Int))) :=
 (sl3I x0 0 (a_e x0) (a_e x0)).bind fun a0 =>
 some a0
theorem c44 (K:Nat → Prop) (n:Nat) (w:World) (x0:Sl (Int)) (v0:Value) (R0:RepV (.sl (.int .u8)) w K v0 x0) {r:(Sl (Int))} (h:p44 n x0 = some r) :
  Calls Try.prog 44 #[v0] w (b_G (.sl (.int .u8)) w (Kw K w []) r):=by
 refine enter (args:=[v0]) Try.func44 rfl 9 rfl rfl fun a S=>?_;have W:=Wd.start w;replace R0:=R0.arg;unfold p44 at h;replace S:St 9 a [(0,v0)]:=S;refine ws (wr ?_);refine dl1 S 1 (2,.slice .none 0 0) fun a S=>wn (a_a ?_);replace S:=S.su (l':=[(0,v0)]);refine ws (wr ?_);refine dl2 S 2 (4,v0) (3,v0) fun a S=>wgo S (a_o (K:=_) S rfl ty25 rfl rfl rfl R0 fun a d0 S=>dl1 S 1 (6,v0) fun a S=>wgo S (a_o (K:=_) S rfl ty25 rfl rfl rfl R0 fun a e0 S=>?_));obtain ⟨f0,b0,h⟩:=a_c h;refine wgo S (d_u S rfl ty25 rfl rfl rfl R0 (.inl ⟨rfl,rfl⟩) rfl rfl b0 fun a c0 a0 S=>dl1 S 1 (2,c0) fun a S=>wn (a_a (wp_ret ?_)));obtain rfl:=oi h;exact a_p S rfl rfl ⟨_,rfl,a0.out,W.below⟩
theorem cb44:a_F Try.prog 44 = true:=by kernel_rfl
def p57 (n:Nat) (x0:Sl (Int)):Option ((Sl (Int)) × (Int)) :=
 if ((a_e x0) == 0) then (some ((⟨[],some 0⟩:Sl (Int)),0)) else (ckI .i64 ((a_e x0) - 1)).bind fun a0=>(slI x0 0 a0).bind fun b0=>(p41 n b0).bind fun d0=>(p44 n d0).bind fun c0=>(idx x0.xs a0).bind fun e0=>some (c0,e0)
theorem c57 (K:Nat → Prop) (n:Nat) (w:World) (x0:Sl (Int)) (v0:Value) (R0:RepV (.sl (.int .u8)) w K v0 x0) {r:(Sl (Int)) × (Int)} (h:p57 n x0 = some r) :
  Calls Try.prog 57 #[v0] w (Ret2 (.sl (.int .u8)) (.int .u8) w (Kw K w []) r):=by
 refine enter (args:=[v0]) Try.func57 rfl 20 rfl rfl fun a S=>?_;have W:=Wd.start w;replace R0:=R0.arg;unfold p57 at h;replace S:St 20 a [(0,v0)]:=S;refine ws (wr ?_);refine dl2 S 2 (3,.int .u8 0) (2,.slice .none 0 0) fun a S=>wn (a_a ?_);replace S:=S.su (l':=[(0,v0)]);refine ws (ws (wr ?_));refine dl1 S 1 (5,v0) fun a S=>wgo S (a_o (K:=_) S rfl ty25 rfl rfl rfl R0 fun a Z0 S=>dl1 S 1 (7,.bool ((a_e x0) == 0)) fun a S=>wn (a_a ?_));replace S:=S.su (l':=[(7,.bool ((a_e x0) == 0)),(0,v0)]);refine wcs ((a_e x0) == 0) S rfl ?_ ?_
 ·intro hc;rw [if_pos hc] at h;refine ws (wr ?_);refine dl2 S 2 (3,.int .u8 0) (2,.slice .none 0 0) fun a S=>wn (a_a ?_);replace S:=S.su (l':=[(3,.int .u8 0),(2,.slice .none 0 0)]);refine wp_ret (a_i ?_);obtain rfl:=oi h;exact a_N S rfl rfl rfl ⟨_,_,rfl,RepV.nil,(RepV.mkInt (by decide)),W.below⟩
 ·intro hc;rw [if_neg (bf hc)] at h;refine wp_skip (a_a ?_);replace S:=S.su (l':=[(0,v0)]);refine ws (wr ?_);refine dl1 S 1 (8,v0) fun a S=>wgo S (a_o (K:=_) S rfl ty25 rfl rfl rfl R0 fun a a1 S=>?_);obtain ⟨b0,h0,h⟩:=a_c h;refine wgo S (a_n S .i64 ((a_e x0) - 1) rfl (.inr (.inl rfl)) rfl rfl rfl rfl h0 fun a S=>dl1 S 1 (4,ji b0) fun a S=>wn (a_a (ws ?_)));obtain ⟨e0,G0,h⟩:=a_c h;obtain ⟨f0,I0,h⟩:=a_c h;obtain ⟨d0,H0,h⟩:=a_c h;obtain ⟨a0,J0,h⟩:=a_c h;have hR:Rel (Kw K w []) Bl:=Bl.rel _;refine wp_region_any (by kernel_rfl) ?_;refine d_E 5 9 (by kernel_rfl) (by repeat (first | with_reducible exact b_a | with_reducible refine b_b ?_ | with_reducible refine b_x ?_)) ?_;refine d_E 6 9 (by kernel_rfl) (by repeat (first | with_reducible exact b_a | with_reducible refine b_b ?_ | with_reducible refine b_x ?_)) ?_;refine c_a hR [a_u (.sl (.int .u8)) (Kw K w []) x0,isI .i64 b0,a_u (.sl (.int .u8)) (Kw K w []) e0,a_u (.sl (.int .u8)) (Kw K w []) f0,a_u (.sl (.int .u8)) (Kw K w []) d0,a_u (.sl (.int .u8)) (Kw K w []) x0,isI .i64 b0,d_H (.int .u8) (Kw K w []) a0,isI .u8 a0,a_u (.sl (.int .u8)) (Kw K w []) d0,isI .u8 a0] [[],[],[(0,11),(1,12)],[(2,13)],[(3,14)],[],[],[(5,16),(6,17)],[(7,18)],[(4,15)],[(8,19)]] (by kernel_rfl) (by rw [S.size];kernel_rfl) (by kernel_rfl) (by kernel_rfl) rfl ⟨(a_x hR),a_2,(a_x hR),(a_x hR),(a_x hR),(a_x hR),a_2,(c_J hR),a_2,(a_x hR),a_2,trivial⟩ ?_ ?_
  ·
   refine RunAll.cons (a_u (.sl (.int .u8)) (Kw K w []) x0) [] rfl rfl ?_ ?_
   ·intro W_ hW;have S1:=S;replace R0:=R0.step hW;exact RPost.o1 tys_ok (v:=v0) S1 S rfl (by kernel_rfl) R0
   refine RunAll.cons (isI .i64 b0) [] rfl rfl ?_ ?_
   ·intro W_ hW;have S1:=S;exact RPost.o1 tys_ok (v:=ji b0) S1 S rfl (by kernel_rfl) ⟨rfl,(a_t h0).2.1⟩
   refine RunAll.cons (a_u (.sl (.int .u8)) (Kw K w []) e0) [(a_u (.sl (.int .u8)) (Kw K w []) x0,11),(isI .i64 b0,12)] rfl rfl ?_ ?_
   ·intro W_ hW;have S1:=S;intro Q0 i0;replace i0:RepV _ _ _ _ _:=i0;replace S1:=S1.pt 11 (Q0) rfl;rintro _ ⟨rfl,e1⟩;replace S1:=S1.pt 12 (ji b0) rfl;refine a_j S1 fun a_ S1=>?_;have S0:=S.defers;replace S:=S1;clear S1;refine wgo S (a_M S rfl ty25 rfl rfl rfl i0 (.inl ⟨rfl,rfl⟩) (.inr ⟨_,_,rfl,rfl⟩) G0 fun a k1 C0 S=>wn ?_);exact RPost.mk_ S rfl S0 C0 (Below.refl _ _)
   refine RunAll.cons (a_u (.sl (.int .u8)) (Kw K w []) f0) [(a_u (.sl (.int .u8)) (Kw K w []) e0,13)] rfl rfl ?_ ?_
   ·intro W_ hW;have S1:=S;intro u0 j0;replace j0:RepV _ _ _ _ _:=j0;replace S1:=S1.pt 13 (u0) rfl;refine a_j S1 fun a_ S1=>?_;replace W:=W.step hW;have S0:=S.defers;replace S:=S1;clear S1;refine wgo S (a_f (vs:=[u0]) S rfl cb41 rfl rfl rfl (c41 (Kw K w []) n W_ e0 _ j0 I0) ?_);rintro _ p1 ⟨l1,rfl,c0,M0⟩;refine ⟨_,rfl,?_⟩;replace c0:=Ow.pub0 c0;replace c0:=RepV.back c0 W;clear S;intro a S;refine wn ?_;exact RPost.mk_ S rfl S0 c0 (M0)
   refine RunAll.cons (a_u (.sl (.int .u8)) (Kw K w []) d0) [(a_u (.sl (.int .u8)) (Kw K w []) f0,14)] rfl rfl ?_ ?_
   ·intro W_ hW;have S1:=S;intro w0 k0;replace k0:RepV _ _ _ _ _:=k0;replace S1:=S1.pt 14 (w0) rfl;refine a_j S1 fun a_ S1=>?_;replace W:=W.step hW;have S0:=S.defers;replace S:=S1;clear S1;refine wgo S (a_f (vs:=[w0]) S rfl cb44 rfl rfl rfl (c44 (Kw K w []) n W_ f0 _ k0 H0) ?_);rintro _ q1 ⟨m1,rfl,g0,N0⟩;refine ⟨_,rfl,?_⟩;replace g0:=RepV.back g0 W;clear S;intro a S;refine wn ?_;exact RPost.mk_ S rfl S0 g0 (N0)
   refine RunAll.cons (a_u (.sl (.int .u8)) (Kw K w []) x0) [] rfl rfl ?_ ?_
   ·intro W_ hW;have S1:=S;replace R0:=R0.step hW;exact RPost.o1 tys_ok (v:=v0) S1 S rfl (by kernel_rfl) R0
   refine RunAll.cons (isI .i64 b0) [] rfl rfl ?_ ?_
   ·intro W_ hW;have S1:=S;exact RPost.o1 tys_ok (v:=ji b0) S1 S rfl (by kernel_rfl) ⟨rfl,(a_t h0).2.1⟩
   refine RunAll.cons (d_H (.int .u8) (Kw K w []) a0) [(a_u (.sl (.int .u8)) (Kw K w []) x0,16),(isI .i64 b0,17)] rfl rfl ?_ ?_
   ·intro W_ hW;have S1:=S;intro T0 l0;replace l0:RepV _ _ _ _ _:=l0;replace S1:=S1.pt 16 (T0) rfl;rintro _ ⟨rfl,f1⟩;replace S1:=S1.pt 17 (ji b0) rfl;refine a_j S1 fun a_ S1=>?_;replace W:=W.step hW;have S0:=S.defers;replace S:=S1;clear S1;refine wgo S (a_h S rfl ty25 rfl rfl rfl l0 rfl J0 fun a j1 D0 B0 S=>wn ?_);exact RPost.mk_ S rfl S0 ⟨_,rfl,D0,B0⟩ (Below.refl _ _)
   refine RunAll.cons (isI .u8 a0) [(d_H (.int .u8) (Kw K w []) a0,18)] rfl rfl ?_ ?_
   ·intro W_ hW;have S1:=S;rintro _ ⟨O0,rfl,E0,b1⟩;replace S1:=S1.pt 18 (.pointer (some O0)) rfl;refine a_j S1 fun a_ S1=>?_;have S0:=S.defers;replace S:=S1;clear S1;refine wgo S (a_b (t:=(.int .u8)) (x:=a0) S rfl ty5 rfl rfl rfl E0 fun a n1 F0 S=>?_);obtain ⟨rfl,A0⟩:=RepV.int F0;refine wn ?_;exact RPost.mk_ S rfl S0 ⟨rfl,A0⟩ (Below.refl _ _)
   refine RunAll.cons (a_u (.sl (.int .u8)) (Kw K w []) d0) [(a_u (.sl (.int .u8)) (Kw K w []) d0,15)] rfl rfl ?_ ?_
   ·intro W_ hW;have S1:=S;intro y0 m0;replace m0:RepV _ _ _ _ _:=m0;replace S1:=S1.pt 15 (y0) rfl;exact RPost.o1 tys_ok (v:=y0) S1 S rfl (by kernel_rfl) m0
   refine RunAll.cons (isI .u8 a0) [(isI .u8 a0,19)] rfl rfl ?_ ?_
   ·intro W_ hW;have S1:=S;rintro _ ⟨rfl,K0⟩;replace S1:=S1.pt 19 (.int .u8 a0) rfl;exact RPost.o1 tys_ok (v:=.int .u8 a0) S1 S rfl (by kernel_rfl) ⟨rfl,K0⟩
   exact trivial
  intro r1 t0;refine EndE.some_ rfl ?_;intro U0 o0;replace o0:RepV _ _ _ _ _:=o0;replace S:=S.pt 11 (U0) rfl;refine EndE.some_ rfl ?_;rintro _ ⟨rfl,g1⟩;replace S:=S.pt 12 (ji b0) rfl;refine EndE.some_ rfl ?_;intro V0 p0;replace p0:RepV _ _ _ _ _:=p0;replace S:=S.pt 13 (V0) rfl;refine EndE.some_ rfl ?_;intro W0 q0;replace q0:RepV _ _ _ _ _:=q0;replace S:=S.pt 14 (W0) rfl;refine EndE.some_ rfl ?_;intro X0 r0;replace r0:RepV _ _ _ _ _:=r0;replace S:=S.pt 15 (X0) rfl;refine EndE.some_ rfl ?_;intro Y0 s0;replace s0:RepV _ _ _ _ _:=s0;replace S:=S.pt 16 (Y0) rfl;refine EndE.some_ rfl ?_;rintro _ ⟨rfl,h1⟩;replace S:=S.pt 17 (ji b0) rfl;refine EndE.some_ rfl ?_;rintro _ ⟨P0,rfl,d1,c1⟩;replace S:=S.pt 18 (.pointer (some P0)) rfl;refine EndE.some_ rfl ?_;rintro _ ⟨rfl,i1⟩;replace S:=S.pt 19 (.int .u8 a0) rfl;refine EndE.some_ rfl ?_;intro z0 n0;replace n0:RepV _ _ _ _ _:=n0;replace S:=S.pt 2 (z0) rfl;refine EndE.some_ rfl ?_;rintro _ ⟨rfl,L0⟩;replace S:=S.pt 3 (.int .u8 a0) rfl;refine b_Y S fun a S=>?_;replace R0:=R0.step t0;replace W:=W.step t0;refine a_a ?_;replace S:=S.su (l':=[(3,.int .u8 a0),(2,z0)]);refine wp_ret ?_;obtain rfl:=oi h;exact a_N S rfl rfl rfl ⟨_,_,rfl,n0.out,(RepV.mkInt L0),W.below⟩
theorem cb57:a_F Try.prog 57 = true:=by kernel_rfl
def p61_l1 (n:Nat) (x0:Sl (Int)) (x1:Sl (Int)):Nat → (Int) → Option ((Unit) ⊕ ((Bool)))
 | 0,_=>.none
 | m + 1,a0=>if (decide (a0 < (a_e x0))) then ((idx x0.xs a0).bind fun c0=>(idx x1.xs a0).bind fun d0=>if (c0 != d0) then (some (.inr false)) else (ckI .i64 (a0 + 1)).bind fun b0=>p61_l1 n x0 x1 m b0) else some (.inl ())
def p61 (n:Nat) (x0:Sl (Int)) (x1:Sl (Int)):Option ((Bool)) :=
 if ((a_e x0) != (a_e x1)) then (some false) else (p61_l1 n x0 x1 n 0).bind fun (a0:(Unit) ⊕ ((Bool)))=>lrK a0 some fun (b0:Unit)=>some true
theorem c61 (K:Nat → Prop) (n:Nat) (w:World) (x0:Sl (Int)) (v0:Value) (R0:RepV (.sl (.int .u8)) w K v0 x0) (x1:Sl (Int)) (v1:Value) (R1:RepV (.sl (.int .u8)) w K v1 x1) {r:(Bool)} (h:p61 n x0 x1 = some r) :
  Calls Try.prog 61 #[v0,v1] w (b_G .bool w (Kw K w []) r):=by
 refine enter (args:=[v0,v1]) Try.func61 rfl 26 rfl rfl fun a S=>?_;have W:=Wd.start w;replace R0:=R0.arg;replace R1:=R1.arg;unfold p61 at h;replace S:St 26 a [(0,v0),(1,v1)]:=S;refine ws (wr ?_);refine dl1 S 1 (4,.bool false) fun a S=>wn (a_a ?_);replace S:=S.su (l':=[(0,v0),(1,v1)]);refine ws (ws (wr ?_));refine dl1 S 1 (6,v0) fun a S=>wgo S (a_o (K:=_) S rfl ty25 rfl rfl rfl R0 fun a t0 S=>dl1 S 1 (8,v1) fun a S=>wgo S (a_o (K:=_) S rfl ty25 rfl rfl rfl R1 fun a u0 S=>dl1 S 1 (10,.bool ((a_e x0) != (a_e x1))) fun a S=>wn (a_a ?_)));refine wcs ((a_e x0) != (a_e x1)) S rfl ?_ ?_
 ·intro hc;rw [if_pos hc] at h;refine ws (wr ?_);refine dl1 S 1 (4,.bool false) fun a S=>wn (a_a (wp_ret (a_i ?_)));obtain rfl:=oi h;exact a_p S rfl rfl ⟨_,rfl,RepV.mkBool,W.below⟩
 ·intro hc;rw [if_neg (bf hc)] at h;refine wp_skip (a_a ?_);replace S:=S.su (l':=[(0,v0),(1,v1)]);refine ws (ws (wr ?_));refine dl1 S 1 (11,v0) fun a S=>wgo S (a_o (K:=_) S rfl ty25 rfl rfl rfl R0 fun a w0 S=>dl1 S 1 (13,ji 0) fun a S=>wn (a_a ?_));replace S:=S.su (l':=[(13,ji 0),(12,ji (a_e x0)),(0,v0),(1,v1)]);obtain ⟨j0,q0,h⟩:=a_c h;refine a_s (fun a_ w_=>∃ h0:Unit,j0 = .inl h0 ∧ (St 26 a_ [] ∧ Wd w w_ [])) ?_ ?_
  ·refine wp_block ?_;refine a_w (fun m_ a_ w_=>∃ (a0:Int) ,St 26 a_ [(13,ji a0),(12,ji (a_e x0)),(0,v0),(1,v1)] ∧ Wd w w_ [] ∧ InR .i64 a0 ∧ RepV (.sl (.int .u8)) w_ (Kw K w []) v0 x0 ∧ RepV (.sl (.int .u8)) w_ (Kw K w []) v1 x1 ∧ p61_l1 n x0 x1 m_ a0 = some j0) n ?_ ?_
   ·skip
    exact ⟨0,⟨S.su,W,(show InR .i64 0 by decide),R0,R1,q0⟩⟩
   ·clear S W;rintro d0 a F0 ⟨a0,S,W,y0,R0,R1,b0⟩
    cases d0 with
    | zero=>exact absurd b0 (by simp [p61_l1])
    | succ d0 =>
     refine ⟨d0,rfl,?_⟩;rw [p61_l1] at b0;refine ws (wr ?_);refine dl1 S 1 (14,.bool (decide (a0 < (a_e x0)))) fun a S=>wn (a_a (ws ?_));refine wcs (decide (a0 < (a_e x0))) S rfl ?_ ?_
     ·intro hc;rw [if_pos hc] at b0;refine wp_skip (a_a ?_);replace S:=S.su (l':=[(13,ji a0),(12,ji (a_e x0)),(0,v0),(1,v1)]);refine ws (wp_block (ws (wr ?_)));refine dl2 S 2 (5,ji a0) (15,ji a0) fun a S=>wn (a_a ?_);replace S:=S.su (l':=[(5,ji a0),(13,ji a0),(12,ji (a_e x0)),(0,v0),(1,v1)]);refine ws ?_;refine b_m 9 (by kernel_rfl) (by kernel_rfl) (by repeat (first | with_reducible exact b_a | with_reducible refine b_b ?_ | with_reducible refine b_x ?_)) ?_;intro G0 c0;replace R0:=R0.step c0;replace R1:=R1.step c0;replace W:=W.step c0;refine Ro.dl2 S 2 (17,ji a0) (16,v0) fun a S=>?_;obtain ⟨e0,o0,b0⟩:=a_c b0;refine Ro.wgo S (a_h S rfl ty25 rfl rfl rfl R0 rfl o0 fun a B0 k0 z0 S=>Ro.wgo S (a_b (t:=(.int .u8)) (x:=e0) S rfl ty5 rfl rfl rfl k0 fun a D0 l0 S=>?_));obtain ⟨rfl,r0⟩:=RepV.int l0;refine Ro.dl2 S 2 (21,ji a0) (20,v1) fun a S=>?_;obtain ⟨f0,p0,b0⟩:=a_c b0;refine Ro.wgo S (a_h S rfl ty25 rfl rfl rfl R1 rfl p0 fun a C0 m0 A0 S=>Ro.wgo S (a_b (t:=(.int .u8)) (x:=f0) S rfl ty5 rfl rfl rfl m0 fun a E0 n0 S=>?_));obtain ⟨rfl,s0⟩:=RepV.int n0;refine Ro.dl1 S 1 (24,.bool (e0 != f0)) fun a S=>Ro.wpList_nil ?_;refine a_a ?_;refine wcs (e0 != f0) S rfl ?_ ?_
      ·intro hc;rw [if_pos hc] at b0;refine ws (wr ?_);refine dl1 S 1 (4,.bool false) fun a S=>wn (a_a (wp_ret ?_));refine a_L ?_;refine a_i (a_i ?_);refine a_L ?_;refine a_i (a_i ?_);obtain rfl:=oi b0;obtain rfl:=b_i h;exact a_p S rfl rfl ⟨_,rfl,RepV.mkBool,W.below⟩
      ·intro hc;rw [if_neg (bf hc)] at b0;refine wp_skip ?_;refine a_3 ?_;refine a_a ?_;replace S:=S.su (l':=[(13,ji a0),(12,ji (a_e x0)),(0,v0),(1,v1)]);refine wr ?_;obtain ⟨i0,g0,b0⟩:=a_c b0;refine wgo S (a_n S .i64 (a0 + 1) rfl (.inl rfl) rfl rfl rfl rfl g0 fun a S=>dl1 S 1 (13,ji i0) fun a S=>wn (a_a ?_));exact ⟨i0,⟨S.su,W,(a_t g0).2.1,R0,R1,b0⟩⟩
     ·intro hc;rw [if_neg (bf hc)] at b0;refine wp_exit ?_;refine a_y ?_;refine a_y ?_;refine a_H ?_;refine a_a ?_;obtain rfl:=oi b0;exact ⟨_,rfl,⟨S.sub trivial,W⟩⟩
  clear S W;rintro a H0 ⟨h0,rfl,S,W⟩;replace h:=b_p h;try dsimp only at h
  refine a_a (ws (wr ?_));refine dl1 S 1 (4,.bool true) fun a S=>wn (a_a (wp_ret ?_));obtain rfl:=oi h;exact a_p S rfl rfl ⟨_,rfl,RepV.mkBool,W.below⟩
theorem cb61:a_F Try.prog 61 = true:=by kernel_rfl
def p60 (n:Nat) (x0:(Sl (Int)) × Int × Int) (y0:Sl (Int)):Option ((Bool)) :=
 (p61 n x0.1 y0).bind fun a0 =>
 some a0
theorem c60 (K:Nat → Prop) (n:Nat) (w:World) (x0:(Sl (Int)) × Int × Int) (v0:Value) (R0:RepV gt0 w K v0 x0) (q0:Addr) (y0:Sl (Int)) (Q0:Br (.sl (.int .u8)) w K q0 y0) {r:(Bool)} (h:p60 n x0 y0 = some r) :
  Calls Try.prog 60 #[v0,.pointer (some q0)] w (b_G .bool w (Kw K w []) r):=by
 refine enter (args:=[v0,.pointer (some q0)]) Try.func60 rfl 8 rfl rfl fun a S=>?_;have W:=Wd.start w;replace R0:=R0.arg;unfold p60 at h;replace S:St 8 a [(0,v0),(1,.pointer (some q0))]:=S;refine ws (wr ?_);refine wgo S (b_h S rfl rfl rfl rfl rfl R0 fun a l0 f0 g0 b0 S=>?_);replace R0:=R0.box g0;replace W:=W.box g0;refine dl1 S 1 (3,.bool false) fun a S=>wn (a_a ?_);replace S:=S.su (l':=[(2,pB f0),(1,.pointer (some q0))]);refine ws (wr ?_);refine dl1 S 1 (4,.pointer (some ((⟨f0,0,.none⟩:Addr).add (a_g gf0 0)))) fun a S=>wgo S (a_b (t:=(.sl (.int .u8))) (x:=x0.1) S rfl ty25 rfl rfl rfl (RepAt.add 0 (RepAt.st (t:=gf0) b0.at_)) fun a j0 d0 S=>wgo S (a_b (t:=(.sl (.int .u8))) (x:=y0) S rfl ty25 rfl rfl rfl (Br.now Q0 W) fun a k0 e0 S=>?_));obtain ⟨i0,h0,h⟩:=a_c h;refine wgo S (a_f (vs:=[j0,k0]) S rfl cb61 rfl rfl rfl (c61 (Kw K w [some f0]) n l0 x0.1 _ d0 y0 _ e0 h0) ?_);rintro _ n0 ⟨m0,rfl,c0,a0⟩;refine ⟨_,rfl,?_⟩;replace c0:=RepV.back c0 W;clear S;intro a S;replace d0:=d0.step a0;replace e0:=e0.step a0;replace b0:=b0.step a0;replace W:=W.step a0;obtain rfl:=RepV.bool c0;refine dl1 S 1 (3,.bool i0) fun a S=>wn (a_a (wp_ret ?_));obtain rfl:=oi h;exact a_p S rfl rfl ⟨_,rfl,RepV.mkBool,W.below⟩
theorem cb60:a_F Try.prog 60 = true:=by kernel_rfl
def p59_60_l1 (n:Nat) (x0:Sl ((Sl (Int)) × Int × Int)) (y1_0:Sl (Int)):Nat → (Int) → Option ((Unit) ⊕ ((Int)))
 | 0,_=>.none
 | m + 1,a0=>if (decide (a0 < (a_e x0))) then ((idx x0.xs a0).bind fun d0=>(p60 n d0 y1_0).bind fun b0=>if b0 then (some (.inr a0)) else (ckI .i64 (a0 + 1)).bind fun c0=>p59_60_l1 n x0 y1_0 m c0) else some (.inl ())
def p59_60 (n:Nat) (x0:Sl ((Sl (Int)) × Int × Int)) (y1_0:Sl (Int)):Option ((Int)) :=
 (p59_60_l1 n x0 y1_0 n 0).bind fun (a0:(Unit) ⊕ ((Int))) =>
 lrK a0 some fun (b0:Unit) =>
 some (-1)
theorem c59_60 (K:Nat → Prop) (n:Nat) (w:World) (x0:Sl ((Sl (Int)) × Int × Int)) (v0:Value) (R0:RepV (.sl gt0) w K v0 x0) (q1_0:Addr) (y1_0:Sl (Int)) (Q1_0:Br (.sl (.int .u8)) w K q1_0 y1_0) {r:(Int)} (h:p59_60 n x0 y1_0 = some r) :
  Calls Try.prog 59 #[v0,.func (.func 60) #[] #[.pointer (some q1_0)]] w (b_G (.int .i64) w (Kw K w []) r):=by
 refine enter (args:=[v0,.func (.func 60) #[] #[.pointer (some q1_0)]]) Try.func59 rfl 19 rfl rfl fun a S=>?_;have W:=Wd.start w;replace R0:=R0.arg;unfold p59_60 at h;replace S:St 19 a [(0,v0),(1,.func (.func 60) #[] #[.pointer (some q1_0)])]:=S;refine ws (wr ?_);refine dl1 S 1 (4,ji 0) fun a S=>wn (a_a ?_);replace S:=S.su (l':=[(0,v0),(1,.func (.func 60) #[] #[.pointer (some q1_0)])]);refine ws (ws (wr ?_));refine dl1 S 1 (6,v0) fun a S=>wgo S (a_o (K:=_) S rfl ty23 rfl rfl rfl R0 fun a t0 S=>dl1 S 1 (8,ji 0) fun a S=>wn (a_a ?_));replace S:=S.su (l':=[(8,ji 0),(7,ji (a_e x0)),(0,v0),(1,.func (.func 60) #[] #[.pointer (some q1_0)])]);obtain ⟨l0,q0,h⟩:=a_c h;refine a_s (fun a_ w_=>∃ h0:Unit,l0 = .inl h0 ∧ (St 19 a_ [] ∧ Wd w w_ [])) ?_ ?_
 ·refine wp_block ?_;refine a_w (fun m_ a_ w_=>∃ (a0:Int) ,St 19 a_ [(8,ji a0),(7,ji (a_e x0)),(0,v0),(1,.func (.func 60) #[] #[.pointer (some q1_0)])] ∧ Wd w w_ [] ∧ InR .i64 a0 ∧ RepV (.sl gt0) w_ (Kw K w []) v0 x0 ∧ p59_60_l1 n x0 y1_0 m_ a0 = some l0) n ?_ ?_
  ·skip
   exact ⟨0,⟨S.su,W,(show InR .i64 0 by decide),R0,q0⟩⟩
  ·clear S W;rintro f0 a s0 ⟨a0,S,W,m0,R0,b0⟩
   cases f0 with
   | zero=>exact absurd b0 (by simp [p59_60_l1])
   | succ f0 =>
    refine ⟨f0,rfl,?_⟩;rw [p59_60_l1] at b0;refine ws (wr ?_);refine dl1 S 1 (9,.bool (decide (a0 < (a_e x0)))) fun a S=>wn (a_a (ws ?_));refine wcs (decide (a0 < (a_e x0))) S rfl ?_ ?_
    ·intro hc;rw [if_pos hc] at b0;refine wp_skip (a_a ?_);replace S:=S.su (l':=[(8,ji a0),(7,ji (a_e x0)),(0,v0),(1,.func (.func 60) #[] #[.pointer (some q1_0)])]);refine ws (wp_block (ws (wr ?_)));refine dl2 S 2 (5,ji a0) (10,ji a0) fun a S=>wn (a_a ?_);replace S:=S.su (l':=[(5,ji a0),(8,ji a0),(7,ji (a_e x0)),(0,v0),(1,.func (.func 60) #[] #[.pointer (some q1_0)])]);refine ws (wr ?_);refine dl3 S 3 (13,ji a0) (12,v0) (11,.func (.func 60) #[] #[.pointer (some q1_0)]) fun a S=>?_;obtain ⟨k0,p0,b0⟩:=a_c b0;refine wgo S (a_h S rfl ty23 rfl rfl rfl R0 rfl p0 fun a w0 n0 u0 S=>wgo S (a_b (t:=gt0) (x:=k0) S rfl ty33 rfl rfl rfl n0 fun a r0 c0 S=>?_));obtain ⟨i0,o0,b0⟩:=a_c b0;refine wgo S (b_A (vs:=[r0]) S rfl rfl cb60 rfl rfl rfl (c60 (Kw K w []) n s0 k0 _ c0 _ y1_0 (Br.again Q1_0 W) o0) ?_);rintro _ z0 ⟨y0,rfl,d0,e0⟩;refine ⟨_,rfl,?_⟩;replace d0:=RepV.back d0 W;clear S;intro a S;replace R0:=R0.step e0;replace c0:=c0.step e0;replace W:=W.step e0;obtain rfl:=RepV.bool d0;refine wn (a_a ?_);replace S:=S.su (l':=[(16,.bool i0),(5,ji a0),(8,ji a0),(7,ji (a_e x0)),(0,v0),(1,.func (.func 60) #[] #[.pointer (some q1_0)])]);refine wcs i0 S rfl ?_ ?_
     ·intro hc;rw [if_pos hc] at b0;refine ws (wr ?_);refine dl2 S 2 (4,ji a0) (17,ji a0) fun a S=>wn (a_a (wp_ret ?_));refine a_L ?_;refine a_i (a_i ?_);refine a_L ?_;refine a_i (a_i ?_);obtain rfl:=oi b0;obtain rfl:=b_i h;exact a_p S rfl rfl ⟨_,rfl,(RepV.mkInt m0),W.below⟩
     ·intro hc;rw [if_neg (bf hc)] at b0;refine wp_skip ?_;refine a_3 ?_;refine a_a ?_;replace S:=S.su (l':=[(8,ji a0),(7,ji (a_e x0)),(0,v0),(1,.func (.func 60) #[] #[.pointer (some q1_0)])]);refine wr ?_;obtain ⟨j0,g0,b0⟩:=a_c b0;refine wgo S (a_n S .i64 (a0 + 1) rfl (.inl rfl) rfl rfl rfl rfl g0 fun a S=>dl1 S 1 (8,ji j0) fun a S=>wn (a_a ?_));exact ⟨j0,⟨S.su,W,(a_t g0).2.1,R0,b0⟩⟩
    ·intro hc;rw [if_neg (bf hc)] at b0;refine wp_exit ?_;refine a_y ?_;refine a_y ?_;refine a_H ?_;refine a_a ?_;obtain rfl:=oi b0;exact ⟨_,rfl,⟨S.sub trivial,W⟩⟩
 clear S W;rintro a A0 ⟨h0,rfl,S,W⟩;replace h:=b_p h;try dsimp only at h
 refine a_a (ws (wr ?_));refine dl1 S 1 (4,ji (-1)) fun a S=>wn (a_a (wp_ret ?_));obtain rfl:=oi h;exact a_p S rfl rfl ⟨_,rfl,(RepV.mkInt (by decide)),W.below⟩
def p38 (n:Nat) (x0:Sl ((Sl (Int)) × Int × Int)) (x1:Sl (Int)):Option ((Int)) :=
 (p59_60 n x0 x1).bind fun a0 =>
 some a0
theorem c38 (K:Nat → Prop) (n:Nat) (w:World) (x0:Sl ((Sl (Int)) × Int × Int)) (v0:Value) (R0:RepV (.sl gt0) w K v0 x0) (x1:Sl (Int)) (v1:Value) (R1:RepV (.sl (.int .u8)) w K v1 x1) {r:(Int)} (h:p38 n x0 x1 = some r) :
  Calls Try.prog 38 #[v0,v1] w (b_G (.int .i64) w (Kw K w []) r):=by
 refine enter (args:=[v0,v1]) Try.func38 rfl 8 rfl rfl fun a S=>?_;have W:=Wd.start w;replace R0:=R0.arg;replace R1:=R1.arg;unfold p38 at h;replace S:St 8 a [(0,v0),(1,v1)]:=S;refine ws (wr ?_);refine wgo S (b_h S rfl rfl rfl rfl rfl R1 fun a i0 a0 d0 b0 S=>?_);replace R0:=R0.box d0;replace R1:=R1.box d0;replace W:=W.box d0;refine dl1 S 1 (4,ji 0) fun a S=>wn (a_a ?_);replace S:=S.su (l':=[(3,pB a0),(0,v0)]);refine ws (wr ?_);refine dl1 S 1 (5,v0) fun a S=>wgo S (c_l (vs:=[]) (us:=[pB a0]) S rfl rfl rfl rfl rfl fun a S=>?_);obtain ⟨h0,g0,h⟩:=a_c h;refine wgo S (a_f (vs:=[v0,.func (.func 60) #[] #[pB a0]]) S rfl cb59 rfl rfl rfl (c59_60 (Kw K w [some a0]) n i0 x0 _ R0 _ x1 (Bx.br b0) g0) ?_);rintro _ k0 ⟨j0,rfl,c0,e0⟩;refine ⟨_,rfl,?_⟩;replace c0:=RepV.back c0 W;clear S;intro a S;replace R0:=R0.step e0;replace b0:=b0.step e0;replace W:=W.step e0;obtain ⟨rfl,f0⟩:=RepV.int c0;refine dl1 S 1 (4,ji h0) fun a S=>wn (a_a (wp_ret ?_));obtain rfl:=oi h;exact a_p S rfl rfl ⟨_,rfl,(RepV.mkInt f0),W.below⟩
theorem cb38:a_F Try.prog 38 = true:=by kernel_rfl
def p34 (n:Nat) (x0:Sl ((Sl (Int)) × Int × Int)) (x1:Sl (Int)):Option ((Bool)) :=
 if ((a_e x1) == 1) then (some true) else (p57 n x1).bind fun c0=>(p38 n x0 c0.1).bind fun a0=>(if (decide (a0 ≥ 0)) = true then (idx x0.xs a0).bind fun d0=>some (d0.2.1 == 2) else some false).bind fun b0=>some b0
theorem c34 (K:Nat → Prop) (n:Nat) (w:World) (x0:Sl ((Sl (Int)) × Int × Int)) (v0:Value) (R0:RepV (.sl gt0) w K v0 x0) (x1:Sl (Int)) (v1:Value) (R1:RepV (.sl (.int .u8)) w K v1 x1) {r:(Bool)} (h:p34 n x0 x1 = some r) :
  Calls Try.prog 34 #[v0,v1] w (b_G .bool w (Kw K w []) r):=by
 refine enter (args:=[v0,v1]) Try.func34 rfl 29 rfl rfl fun a S=>?_;have W:=Wd.start w;replace R0:=R0.arg;replace R1:=R1.arg;unfold p34 at h;replace S:St 29 a [(0,v0),(1,v1)]:=S;refine ws (wr ?_);refine dl1 S 1 (4,.bool false) fun a S=>wn (a_a ?_);replace S:=S.su (l':=[(0,v0),(1,v1)]);refine ws (ws (wr ?_));refine dl1 S 1 (8,v1) fun a S=>wgo S (a_o (K:=_) S rfl ty25 rfl rfl rfl R1 fun a y0 S=>dl1 S 1 (10,.bool ((a_e x1) == 1)) fun a S=>wn (a_a ?_));replace S:=S.su (l':=[(10,.bool ((a_e x1) == 1)),(0,v0),(1,v1)]);refine wcs ((a_e x1) == 1) S rfl ?_ ?_
 ·intro hc;rw [if_pos hc] at h;refine ws (wr ?_);refine dl1 S 1 (4,.bool true) fun a S=>wn (a_a (wp_ret (a_i ?_)));obtain rfl:=oi h;exact a_p S rfl rfl ⟨_,rfl,RepV.mkBool,W.below⟩
 ·intro hc;rw [if_neg (bf hc)] at h;refine wp_skip (a_a ?_);replace S:=S.su (l':=[(0,v0),(1,v1)]);refine ws (wr ?_);refine dl1 S 1 (12,v1) fun a S=>?_;obtain ⟨e0,n0,h⟩:=a_c h;refine wgo S (a_f (vs:=[v1]) S rfl cb57 rfl rfl rfl (c57 (Kw K w []) n w x1 _ R1 n0) ?_);rintro _ s0 ⟨d0,C0,rfl,c0,g0,i0⟩;refine ⟨_,rfl,?_⟩;replace c0:=RepV.back c0 W;replace g0:=RepV.back g0 W;clear S;intro a S;replace R0:=R0.step i0;replace R1:=R1.step i0;replace W:=W.step i0;obtain ⟨rfl,w0⟩:=RepV.int g0;refine dl5 S 5 (6,.int .u8 e0.2) (5,d0) (15,.int .u8 e0.2) (14,d0) (11,.tuple #[d0,.int .u8 e0.2]) fun a S=>wn (a_a (ws (wr ?_)));refine dl2 S 2 (17,d0) (16,v0) fun a S=>?_;obtain ⟨b0,o0,h⟩:=a_c h;refine wgo S (a_f (vs:=[v0,d0]) S rfl cb38 rfl rfl rfl (c38 (Kw K w []) n s0 x0 _ R0 e0.1 _ c0 o0) ?_);rintro _ r0 ⟨A0,rfl,f0,h0⟩;refine ⟨_,rfl,?_⟩;replace f0:=RepV.back f0 W;clear S;intro a S;replace R0:=R0.step h0;replace c0:=c0.step h0;replace W:=W.step h0;obtain ⟨rfl,t0⟩:=RepV.int f0;refine dl1 S 1 (7,ji b0) fun a S=>wn (a_a (ws (wr ?_)));refine dl3 S 3 (21,.bool (decide (b0 ≥ 0))) (20,.bool (decide (b0 ≥ 0))) (19,ji b0) fun a S=>?_;obtain ⟨j0,a0,h⟩:=a_c h;refine seg 7 (fun a_ w_=>r0 = w_ ∧ St 29 a_ [(28,.bool j0)]) ?_ ?_
  ·by_cases hc:(decide (b0 ≥ 0)) = true
   ·rw [if_pos hc] at a0;rw [hc] at S;refine dl2 S 2 (23,ji b0) (22,v0) fun a S=>?_;obtain ⟨k0,p0,a0⟩:=a_c a0;refine wgo S (a_h S rfl ty23 rfl rfl rfl R0 rfl p0 fun a q0 l0 z0 S=>dl1 S 1 (25,.pointer (some (q0.add (a_g gf0 1)))) fun a S=>wgo S (a_b (t:=(.int .u8)) (x:=k0.2.1) S rfl ty29 rfl rfl rfl (RepAt.add 1 (RepAt.st (t:=gf0) l0)) fun a B0 m0 S=>?_));obtain ⟨rfl,u0⟩:=RepV.int m0;refine dl2 S 2 (28,.bool (k0.2.1 == 2)) (27,.bool (k0.2.1 == 2)) fun a S=>?_;obtain rfl:=oi a0;exact ⟨rfl,S.su⟩
   ·rw [if_neg hc] at a0;rw [show (decide (b0 ≥ 0)) = false from Bool.eq_false_iff.2 hc] at S;refine dl7 S 7 (28,.bool false) (27,undef) (26,undef) (25,undef) (24,undef) (23,undef) (22,undef) fun a S=>?_;obtain rfl:=oi a0;exact ⟨rfl,S.su⟩
  clear S a0;rintro a _ ⟨rfl,S⟩;refine dl1 S 1 (4,.bool j0) fun a S=>wn (a_a ?_);replace S:=S.su (l':=[(4,.bool j0)]);refine wp_ret ?_;obtain rfl:=oi h;exact a_p S rfl rfl ⟨_,rfl,RepV.mkBool,W.below⟩
theorem cb34:a_F Try.prog 34 = true:=by kernel_rfl
def p69 (n:Nat) (x0:Int):Option ((Bool)) :=
 some (x0 != x0)
theorem c69 (K:Nat → Prop) (n:Nat) (w:World) (x0:Int) (G0:InR .u8 x0) {r:(Bool)} (h:p69 n x0 = some r) :
  Calls Try.prog 69 #[.int .u8 x0] w (b_G .bool w (Kw K w []) r):=by
 refine enter (args:=[.int .u8 x0]) Try.func69 rfl 6 rfl rfl fun a S=>?_;have W:=Wd.start w;unfold p69 at h;replace S:St 6 a [(0,.int .u8 x0)]:=S;refine ws (wr ?_);refine dl1 S 1 (2,.bool false) fun a S=>wn (a_a ?_);replace S:=S.su (l':=[(0,.int .u8 x0)]);refine ws (wr ?_);refine dl4 S 4 (2,.bool (x0 != x0)) (5,.bool (x0 != x0)) (4,.int .u8 x0) (3,.int .u8 x0) fun a S=>wn (a_a (wp_ret ?_));obtain rfl:=oi h;exact a_p S rfl rfl ⟨_,rfl,RepV.mkBool,W.below⟩
theorem cb69:a_F Try.prog 69 = true:=by kernel_rfl
def p67 (n:Nat) (x0:Int) (x1:Int):Option ((Int)) :=
 (p69 n x0).bind fun b0 =>
 (p69 n x1).bind fun a0 =>
 if b0 then (if a0 then (some 0) else some (-1)) else if a0 then (some 1) else if (decide (x0 < x1)) then (some (-1)) else if (decide (x0 > x1)) then (some 1) else some 0
theorem c67 (K:Nat → Prop) (n:Nat) (w:World) (x0:Int) (G0:InR .u8 x0) (x1:Int) (G1:InR .u8 x1) {r:(Int)} (h:p67 n x0 x1 = some r) :
  Calls Try.prog 67 #[.int .u8 x0,.int .u8 x1] w (b_G (.int .i64) w (Kw K w []) r):=by
 refine enter (args:=[.int .u8 x0,.int .u8 x1]) Try.func67 rfl 20 rfl rfl fun a S=>?_;have W:=Wd.start w;unfold p67 at h;replace S:St 20 a [(0,.int .u8 x0),(1,.int .u8 x1)]:=S;refine ws (wr ?_);refine dl1 S 1 (4,ji 0) fun a S=>wn (a_a ?_);replace S:=S.su (l':=[(0,.int .u8 x0),(1,.int .u8 x1)]);refine ws (wr ?_);refine dl1 S 1 (7,.int .u8 x0) fun a S=>?_;obtain ⟨b0,e0,h⟩:=a_c h;refine wgo S (a_f (vs:=[.int .u8 x0]) S rfl cb69 rfl rfl rfl (c69 (Kw K w []) n w x0 G0 e0) ?_);rintro _ i0 ⟨j0,rfl,c0,g0⟩;refine ⟨_,rfl,?_⟩;replace c0:=RepV.back c0 W;clear S;intro a S;replace W:=W.step g0;obtain rfl:=RepV.bool c0;refine dl1 S 1 (5,.bool b0) fun a S=>wn (a_a ?_);replace S:=S.su (l':=[(5,.bool b0),(0,.int .u8 x0),(1,.int .u8 x1)]);refine ws (wr ?_);refine dl1 S 1 (9,.int .u8 x1) fun a S=>?_;obtain ⟨a0,f0,h⟩:=a_c h;refine wgo S (a_f (vs:=[.int .u8 x1]) S rfl cb69 rfl rfl rfl (c69 (Kw K w []) n i0 x1 G1 f0) ?_);rintro _ l0 ⟨k0,rfl,d0,h0⟩;refine ⟨_,rfl,?_⟩;replace d0:=RepV.back d0 W;clear S;intro a S;replace W:=W.step h0;obtain rfl:=RepV.bool d0;refine dl1 S 1 (6,.bool a0) fun a S=>wn (a_a ?_);replace S:=S.su (l':=[(6,.bool a0),(5,.bool b0),(0,.int .u8 x0),(1,.int .u8 x1)]);refine ws (ws (wr ?_));refine dl1 S 1 (11,.bool b0) fun a S=>wn (a_a ?_);replace S:=S.su (l':=[(11,.bool b0),(6,.bool a0),(0,.int .u8 x0),(1,.int .u8 x1)]);refine wcs b0 S rfl ?_ ?_
 ·intro hc;rw [if_pos hc] at h;refine ws (ws (wr ?_));refine dl1 S 1 (12,.bool a0) fun a S=>wn (a_a ?_);refine wcs a0 S rfl ?_ ?_
  ·intro hc;rw [if_pos hc] at h;refine ws (wr ?_);refine dl1 S 1 (4,ji 0) fun a S=>wn (a_a (wp_ret (a_i (a_i ?_))));obtain rfl:=oi h;exact a_p S rfl rfl ⟨_,rfl,(RepV.mkInt (by decide)),W.below⟩
  ·intro hc;rw [if_neg (bf hc)] at h;refine wp_skip (a_a ?_);replace S:=S.sub (l':=[]) trivial;refine ws (wr ?_);refine dl1 S 1 (4,ji (-1)) fun a S=>wn (a_a (wp_ret (a_i ?_)));obtain rfl:=oi h;exact a_p S rfl rfl ⟨_,rfl,(RepV.mkInt (by decide)),W.below⟩
 ·intro hc;rw [if_neg (bf hc)] at h;refine wp_skip (a_a ?_);replace S:=S.su (l':=[(6,.bool a0),(0,.int .u8 x0),(1,.int .u8 x1)]);refine ws (ws (wr ?_));refine dl1 S 1 (13,.bool a0) fun a S=>wn (a_a ?_);replace S:=S.su (l':=[(13,.bool a0),(0,.int .u8 x0),(1,.int .u8 x1)]);refine wcs a0 S rfl ?_ ?_
  ·intro hc;rw [if_pos hc] at h;refine ws (wr ?_);refine dl1 S 1 (4,ji 1) fun a S=>wn (a_a (wp_ret (a_i ?_)));obtain rfl:=oi h;exact a_p S rfl rfl ⟨_,rfl,(RepV.mkInt (by decide)),W.below⟩
  ·intro hc;rw [if_neg (bf hc)] at h;refine wp_skip (a_a ?_);replace S:=S.su (l':=[(0,.int .u8 x0),(1,.int .u8 x1)]);refine ws (ws (wr ?_));refine dl3 S 3 (16,.bool (decide (x0 < x1))) (15,.int .u8 x1) (14,.int .u8 x0) fun a S=>wn (a_a ?_);replace S:=S.su (l':=[(16,.bool (decide (x0 < x1))),(0,.int .u8 x0),(1,.int .u8 x1)]);refine wcs (decide (x0 < x1)) S rfl ?_ ?_
   ·intro hc;rw [if_pos hc] at h;refine ws (wr ?_);refine dl1 S 1 (4,ji (-1)) fun a S=>wn (a_a (wp_ret (a_i ?_)));obtain rfl:=oi h;exact a_p S rfl rfl ⟨_,rfl,(RepV.mkInt (by decide)),W.below⟩
   ·intro hc;rw [if_neg (bf hc)] at h;refine wp_skip (a_a ?_);replace S:=S.su (l':=[(0,.int .u8 x0),(1,.int .u8 x1)]);refine ws (ws (wr ?_));refine dl3 S 3 (19,.bool (decide (x0 > x1))) (18,.int .u8 x1) (17,.int .u8 x0) fun a S=>wn (a_a ?_);refine wcs (decide (x0 > x1)) S rfl ?_ ?_
    ·intro hc;rw [if_pos hc] at h;refine ws (wr ?_);refine dl1 S 1 (4,ji 1) fun a S=>wn (a_a (wp_ret (a_i ?_)));obtain rfl:=oi h;exact a_p S rfl rfl ⟨_,rfl,(RepV.mkInt (by decide)),W.below⟩
    ·intro hc;rw [if_neg (bf hc)] at h;refine wp_skip (a_a ?_);replace S:=S.sub (l':=[]) trivial;refine ws (wr ?_);refine dl1 S 1 (4,ji 0) fun a S=>wn (a_a (wp_ret ?_));obtain rfl:=oi h;exact a_p S rfl rfl ⟨_,rfl,(RepV.mkInt (by decide)),W.below⟩
theorem cb67:a_F Try.prog 67 = true:=by kernel_rfl
def p58_l1 (n:Nat) (x0:Sl (Int)) (x1:Sl (Int)):Nat → (Int) → Option ((Unit) ⊕ ((Int)))
 | 0,_=>.none
 | m + 1,a0=>if (decide (a0 < (a_e x0))) then ((idx x0.xs a0).bind fun d0=>if (decide (a0 ≥ (a_e x1))) then (some (.inr 1)) else (idx x1.xs a0).bind fun e0=>(p67 n d0 e0).bind fun b0=>if (b0 != 0) then (some (.inr b0)) else (ckI .i64 (a0 + 1)).bind fun c0=>p58_l1 n x0 x1 m c0) else some (.inl ())
def p58 (n:Nat) (x0:Sl (Int)) (x1:Sl (Int)):Option ((Int)) :=
 (p58_l1 n x0 x1 n 0).bind fun (a0:(Unit) ⊕ ((Int))) =>
 lrK a0 some fun (b0:Unit) =>
 if (decide ((a_e x0) < (a_e x1))) then (some (-1)) else some 0
theorem c58 (K:Nat → Prop) (n:Nat) (w:World) (x0:Sl (Int)) (v0:Value) (R0:RepV (.sl (.int .u8)) w K v0 x0) (x1:Sl (Int)) (v1:Value) (R1:RepV (.sl (.int .u8)) w K v1 x1) {r:(Int)} (h:p58 n x0 x1 = some r) :
  Calls Try.prog 58 #[v0,v1] w (b_G (.int .i64) w (Kw K w []) r):=by
 refine enter (args:=[v0,v1]) Try.func58 rfl 36 rfl rfl fun a S=>?_;have W:=Wd.start w;replace R0:=R0.arg;replace R1:=R1.arg;unfold p58 at h;replace S:St 36 a [(0,v0),(1,v1)]:=S;refine ws (wr ?_);refine dl1 S 1 (4,ji 0) fun a S=>wn (a_a ?_);replace S:=S.su (l':=[(0,v0),(1,v1)]);refine ws (ws (wr ?_));refine dl1 S 1 (9,v0) fun a S=>wgo S (a_o (K:=_) S rfl ty25 rfl rfl rfl R0 fun a A0 S=>dl1 S 1 (11,ji 0) fun a S=>wn (a_a ?_));obtain ⟨l0,y0,h⟩:=a_c h;refine a_s (fun a_ w_=>∃ j0:Unit,l0 = .inl j0 ∧ (St 36 a_ [(0,v0),(1,v1)] ∧ Wd w w_ [] ∧ RepV (.sl (.int .u8)) w_ (Kw K w []) v0 x0 ∧ RepV (.sl (.int .u8)) w_ (Kw K w []) v1 x1)) ?_ ?_
 ·refine wp_block ?_;refine a_w (fun m_ a_ w_=>∃ (b0:Int) ,St 36 a_ [(11,ji b0),(10,ji (a_e x0)),(9,v0),(0,v0),(1,v1)] ∧ Wd w w_ [] ∧ InR .i64 b0 ∧ RepV (.sl (.int .u8)) w_ (Kw K w []) v0 x0 ∧ RepV (.sl (.int .u8)) w_ (Kw K w []) v1 x1 ∧ p58_l1 n x0 x1 m_ b0 = some l0) n ?_ ?_
  ·skip
   exact ⟨0,⟨S.su,W,(show InR .i64 0 by decide),R0,R1,y0⟩⟩
  ·clear S W;rintro h0 a z0 ⟨b0,S,W,C0,R0,R1,a0⟩
   cases h0 with
   | zero=>exact absurd a0 (by simp [p58_l1])
   | succ h0 =>
    refine ⟨h0,rfl,?_⟩;rw [p58_l1] at a0;refine ws (wr ?_);refine dl1 S 1 (12,.bool (decide (b0 < (a_e x0)))) fun a S=>wn (a_a (ws ?_));refine wcs (decide (b0 < (a_e x0))) S rfl ?_ ?_
    ·intro hc;rw [if_pos hc] at a0;refine wp_skip (a_a ?_);replace S:=S.su (l':=[(11,ji b0),(10,ji (a_e x0)),(9,v0),(0,v0),(1,v1)]);refine ws (wp_block (ws (wr ?_)));refine dl1 S 1 (13,ji b0) fun a S=>?_;obtain ⟨d0,u0,a0⟩:=a_c a0;refine wgo S (a_h S rfl ty25 rfl rfl rfl R0 rfl u0 fun a H0 p0 F0 S=>wgo S (a_b (t:=(.int .u8)) (x:=d0) S rfl ty5 rfl rfl rfl p0 fun a J0 q0 S=>?_));obtain ⟨rfl,m0⟩:=RepV.int q0;refine dl2 S 2 (6,.int .u8 d0) (5,ji b0) fun a S=>wn (a_a (ws (ws (wr ?_))));refine dl2 S 2 (17,v1) (16,ji b0) fun a S=>wgo S (a_o (K:=_) S rfl ty25 rfl rfl rfl R1 fun a B0 S=>dl1 S 1 (19,.bool (decide (b0 ≥ (a_e x1)))) fun a S=>wn (a_a ?_));refine wcs (decide (b0 ≥ (a_e x1))) S rfl ?_ ?_
     ·intro hc;rw [if_pos hc] at a0;refine ws (wr ?_);refine dl1 S 1 (4,ji 1) fun a S=>wn (a_a (wp_ret (a_i ?_)));refine a_L ?_;refine a_i (a_i ?_);refine a_L ?_;refine a_i (a_i ?_);obtain rfl:=oi a0;obtain rfl:=b_i h;exact a_p S rfl rfl ⟨_,rfl,(RepV.mkInt (by decide)),W.below⟩
     ·intro hc;rw [if_neg (bf hc)] at a0;refine wp_skip (a_a ?_);replace S:=S.su (l':=[(6,.int .u8 d0),(5,ji b0),(11,ji b0),(10,ji (a_e x0)),(9,v0),(0,v0),(1,v1)]);refine ws (wr ?_);refine dl2 S 2 (21,ji b0) (20,v1) fun a S=>?_;obtain ⟨e0,w0,a0⟩:=a_c a0;refine wgo S (a_h S rfl ty25 rfl rfl rfl R1 rfl w0 fun a I0 r0 G0 S=>wgo S (a_b (t:=(.int .u8)) (x:=e0) S rfl ty5 rfl rfl rfl r0 fun a K0 s0 S=>?_));obtain ⟨rfl,n0⟩:=RepV.int s0;refine dl1 S 1 (7,.int .u8 e0) fun a S=>wn (a_a (ws (wr ?_)));refine dl2 S 2 (25,.int .u8 e0) (24,.int .u8 d0) fun a S=>?_;obtain ⟨c0,t0,a0⟩:=a_c a0;refine wgo S (a_f (vs:=[.int .u8 d0,.int .u8 e0]) S rfl cb67 rfl rfl rfl (c67 (Kw K w []) n z0 d0 m0 e0 n0 t0) ?_);rintro _ M0 ⟨L0,rfl,f0,g0⟩;refine ⟨_,rfl,?_⟩;replace f0:=RepV.back f0 W;clear S;intro a S;replace R0:=R0.step g0;replace R1:=R1.step g0;replace W:=W.step g0;obtain ⟨rfl,o0⟩:=RepV.int f0;refine dl1 S 1 (8,ji c0) fun a S=>wn (a_a (ws (wr ?_)));refine dl2 S 2 (28,.bool (c0 != 0)) (27,ji c0) fun a S=>wn (a_a ?_);refine wcs (c0 != 0) S rfl ?_ ?_
      ·intro hc;rw [if_pos hc] at a0;refine ws (wr ?_);refine dl2 S 2 (4,ji c0) (29,ji c0) fun a S=>wn (a_a (wp_ret ?_));refine a_L ?_;refine a_i (a_i ?_);refine a_L ?_;refine a_i (a_i ?_);obtain rfl:=oi a0;obtain rfl:=b_i h;exact a_p S rfl rfl ⟨_,rfl,(RepV.mkInt o0),W.below⟩
      ·intro hc;rw [if_neg (bf hc)] at a0;refine wp_skip ?_;refine a_3 ?_;refine a_a ?_;replace S:=S.su (l':=[(11,ji b0),(10,ji (a_e x0)),(9,v0),(0,v0),(1,v1)]);refine wr ?_;obtain ⟨k0,i0,a0⟩:=a_c a0;refine wgo S (a_n S .i64 (b0 + 1) rfl (.inl rfl) rfl rfl rfl rfl i0 fun a S=>dl1 S 1 (11,ji k0) fun a S=>wn (a_a ?_));exact ⟨k0,⟨S.su,W,(a_t i0).2.1,R0,R1,a0⟩⟩
    ·intro hc;rw [if_neg (bf hc)] at a0;refine wp_exit ?_;refine a_y ?_;refine a_y ?_;refine a_H ?_;refine a_a ?_;obtain rfl:=oi a0;exact ⟨_,rfl,⟨S.su,W,R0,R1⟩⟩
 clear S W;rintro a N0 ⟨j0,rfl,S,W,R0,R1⟩;replace h:=b_p h;try dsimp only at h
 refine a_a (ws (ws (wr ?_)));refine dl1 S 1 (31,v0) fun a S=>wgo S (a_o (K:=_) S rfl ty25 rfl rfl rfl R0 fun a D0 S=>dl1 S 1 (33,v1) fun a S=>wgo S (a_o (K:=_) S rfl ty25 rfl rfl rfl R1 fun a E0 S=>dl1 S 1 (35,.bool (decide ((a_e x0) < (a_e x1)))) fun a S=>wn (a_a ?_)));refine wcs (decide ((a_e x0) < (a_e x1))) S rfl ?_ ?_
 ·intro hc;rw [if_pos hc] at h;refine ws (wr ?_);refine dl1 S 1 (4,ji (-1)) fun a S=>wn (a_a (wp_ret (a_i ?_)));obtain rfl:=oi h;exact a_p S rfl rfl ⟨_,rfl,(RepV.mkInt (by decide)),W.below⟩
 ·intro hc;rw [if_neg (bf hc)] at h;refine wp_skip (a_a ?_);replace S:=S.sub (l':=[]) trivial;refine ws (wr ?_);refine dl1 S 1 (4,ji 0) fun a S=>wn (a_a (wp_ret ?_));obtain rfl:=oi h;exact a_p S rfl rfl ⟨_,rfl,(RepV.mkInt (by decide)),W.below⟩
theorem cb58:a_F Try.prog 58 = true:=by kernel_rfl
def p35 (n:Nat) (x0:Sl (Int)) (x1:Sl (Int)):Option ((Int)) :=
 (p58 n x0 x1).bind fun a0 =>
 some a0
theorem c35 (K:Nat → Prop) (n:Nat) (w:World) (x0:Sl (Int)) (v0:Value) (R0:RepV (.sl (.int .u8)) w K v0 x0) (x1:Sl (Int)) (v1:Value) (R1:RepV (.sl (.int .u8)) w K v1 x1) {r:(Int)} (h:p35 n x0 x1 = some r) :
  Calls Try.prog 35 #[v0,v1] w (b_G (.int .i64) w (Kw K w []) r):=by
 refine enter (args:=[v0,v1]) Try.func35 rfl 8 rfl rfl fun a S=>?_;have W:=Wd.start w;replace R0:=R0.arg;replace R1:=R1.arg;unfold p35 at h;replace S:St 8 a [(0,v0),(1,v1)]:=S;refine ws (wr ?_);refine dl1 S 1 (4,ji 0) fun a S=>wn (a_a ?_);replace S:=S.su (l':=[(0,v0),(1,v1)]);refine ws (wr ?_);refine dl2 S 2 (6,v1) (5,v0) fun a S=>?_;obtain ⟨e0,d0,h⟩:=a_c h;refine wgo S (a_f (vs:=[v0,v1]) S rfl cb58 rfl rfl rfl (c58 (Kw K w []) n w x0 _ R0 x1 _ R1 d0) ?_);rintro _ g0 ⟨f0,rfl,a0,b0⟩;refine ⟨_,rfl,?_⟩;replace a0:=RepV.back a0 W;clear S;intro a S;replace R0:=R0.step b0;replace R1:=R1.step b0;replace W:=W.step b0;obtain ⟨rfl,c0⟩:=RepV.int a0;refine dl1 S 1 (4,ji e0) fun a S=>wn (a_a (wp_ret ?_));obtain rfl:=oi h;exact a_p S rfl rfl ⟨_,rfl,(RepV.mkInt c0),W.below⟩
theorem cb35:a_F Try.prog 35 = true:=by kernel_rfl
def p36 (n:Nat) (y0:List Int) (x1:Int):Option ((Bool) × (List Int)) :=
 some ((!(decide (x1 ∈ y0))),(insK x1 y0))
theorem c36 (K:Nat → Prop) (n:Nat) (w wA:World) (LO:List (Option Nat)) (b0:Nat) (y0:List Int) (M0:Mp .u8 wA b0 y0) (x1:Int) (G1:InR .u8 x1) (W:Wd w wA (some b0 :: LO)) {r:(Bool) × (List Int)} (h:p36 n y0 x1 = some r) :
  Calls Try.prog 36 #[.agg #[.map (some b0)],.int .u8 x1] wA (fun e_ w_=>∃ v0_:Value,e_ = .returned v0_ ∧ RepV .bool w_ (Kw K w (some b0 :: LO)) v0_ r.1 ∧ Mp .u8 w_ b0 r.2 ∧ Yst w.heap.size wA [some b0] w_ [some b0]):=by
 refine enter (args:=[.agg #[.map (some b0)],.int .u8 x1]) Try.func36 rfl 15 rfl rfl fun a S=>?_;have RD:=Rnd.start wA [some b0];unfold p36 at h;replace S:St 15 a [(0,.agg #[.map (some b0)]),(1,.int .u8 x1)]:=S;refine ws (wr ?_);refine wgo S (e_a S rfl rfl rfl rfl fun a g0 e0 c0 a0 S=>?_);replace M0:=M0.box c0;replace RD:=RD.box c0;replace W:=W.box c0;refine dl1 S 1 (4,.bool false) fun a S=>wn (a_a ?_);replace S:=S.su (l':=[(2,pB e0),(1,.int .u8 x1)]);refine ws (wr ?_);refine wgo S (d_C S st72 rfl rfl rfl rfl fun a S=>wgo S (c_s S st72 rfl rfl rfl rfl a0 fun a S=>dl1 S 1 (8,.int .u8 x1) fun a S=>wgo S (d_k S st72 rfl rfl rfl rfl rfl M0 fun a S=>dl1 S 1 (5,.bool (decide (x1 ∈ y0))) fun a S=>wn (a_a (ws (wr ?_))))));refine wgo S (d_C S st72 rfl rfl rfl rfl fun a S=>wgo S (c_s S st72 rfl rfl rfl rfl a0 fun a S=>dl1 S 1 (12,.int .u8 x1) fun a S=>wgo S (c_v S st72 rfl rfl rfl rfl rfl M0 ?_)));intro f0 d0 B_;replace a0:=a0.wrote d0 (by simp) (W.b_ 0 1 (by decide) rfl rfl);replace RD:=RD.wrote d0 (by simp);replace W:=W.wrote d0 (by simp);replace M0:Mp .u8 f0 b0 (insK x1 y0):=B_;clear B_;refine wn (a_a ?_);replace S:=S.su (l':=[(5,.bool (decide (x1 ∈ y0)))]);refine ws (wr ?_);refine dl3 S 3 (4,.bool (!(decide (x1 ∈ y0)))) (14,.bool (!(decide (x1 ∈ y0)))) (13,.bool (decide (x1 ∈ y0))) fun a S=>wn (a_a (wp_ret ?_));obtain rfl:=oi h;exact c_1 S rfl (c_k S rfl) ⟨_,rfl,RepV.mkBool,(M0.lessAt 0),Rnd.yst (RD.lessAt 0) (Wd.front (P:=[some b0]) (LO:=LO) (W.lessAt 0))⟩
theorem cb36:a_F Try.prog 36 = true:=by kernel_rfl
end Go.Proofs.Ytmcpcdmonglkjaa
