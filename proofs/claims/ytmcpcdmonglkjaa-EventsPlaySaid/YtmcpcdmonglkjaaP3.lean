/- Functions of the program, as plain data. -/
import Derived.Test.YtmcpcdmonglkjaaP2
set_option linter.unusedVariables false
set_option linter.unusedSimpArgs false
namespace Go.Proofs.Ytmcpcdmonglkjaa
open Go.RowKit

def p55 (n : Nat) (x0 : Sl ((Sl (Int)) × Int × Int)) (x1 : Sl (Int)) : Option ((Sl ((Sl (Int)) × Int × Int)) × (Int)) :=
 (p38 n x0 x1).bind fun t_7 =>
 if (decide (t_7 < 0)) then (some ((⟨([] : List ((Sl (Int)) × Int × Int)), some 0⟩ : Sl ((Sl (Int)) × Int × Int)), 7)) else (p47_65 n x0 x1).bind fun t_13 => if t_13 then (some ((⟨([] : List ((Sl (Int)) × Int × Int)), some 0⟩ : Sl ((Sl (Int)) × Int × Int)), 6)) else (slI x0 0 t_7).bind fun s_21 => (ckI .i64 (t_7 + 1)).bind fun x_22 => (slI x0 x_22 (lenI x0)).bind fun s_25 => (p64 n (⟨[s_21, s_25], some 2⟩ : Sl (Sl ((Sl (Int)) × Int × Int)))).bind fun t_60 => some ((⟨t_60.xs, t_60.cap⟩ : Sl ((Sl (Int)) × Int × Int)), 0)
set_option maxHeartbeats 4000000 in
set_option maxRecDepth 100000 in
/-- (plugboard/events.Tree).detach -/
theorem c55 (K : Nat → Prop) (n : Nat) (w : World) (x0 : Sl ((Sl (Int)) × Int × Int)) (v0 : Value) (R0 : RepV (.sl gt0) w K v0 x0) (x1 : Sl (Int)) (v1 : Value) (R1 : RepV (.sl (.int .u8)) w K v1 x1) {r : (Sl ((Sl (Int)) × Int × Int)) × (Int)} (h : p55 n x0 x1 = some r) :
  Calls Try.prog 55 #[v0, v1] w (fun e_ w_ => ∃ v0_ v1_ : Value, e_ = .returned (.tuple #[v0_, v1_]) ∧ Ow gt0 33 w_ w.heap.size (Kx K w.heap.size [v0_.ownBlock]) v0_ r.1.xs r.1.cap ∧ RepV (.int .i64) w_ (Kx K w.heap.size [v0_.ownBlock]) v1_ r.2 ∧ Below w.heap.size w w_) := by
 refine enter (args := [v0, v1]) Try.func55 rfl 26 rfl rfl fun a S => ?_
 have W := Wd.start w
 replace R0 := R0.arg
 replace R1 := R1.arg
 unfold p55 at h
 replace S : St 26 a [(0, v0), (1, v1)] := S
 refine wp_seq ?_
 refine wp_region_lit ?_
 refine w_go S rfl (op_box S rfl rfl rfl rfl rfl R1 ?_)
 clear S; intro a w_3 b_1 hb_4 B_2 S
 replace R0 := R0.box hb_4
 replace R1 := R1.box hb_4
 replace W := W.box hb_4
 refine wl_pureK (l' := [(3, pB b_1), (0, v0)]) S tys tys_ok 2 [3, 0] (by kernel_rfl) ?_
 clear S; intro a S
 refine wpList_nil ?_
 refine then_n ?_
 refine wp_seq ?_
 refine wp_region_lit ?_
 refine wl_pure (l' := [(7, v0), (3, pB b_1), (0, v0)]) S tys tys_ok 1 (by kernel_rfl) ?_
 clear S; intro a S
 refine w_go S rfl (op_load (t := (.sl (.int .u8))) (x := x1) S rfl ty25 rfl rfl rfl B_2.at_ ?_)
 clear S; intro a v_5 R_6 S
 obtain ⟨t_7, et_7, h⟩ := bindS h
 refine w_go S rfl (op_call (vs := [v0, v_5]) S rfl cb38 rfl rfl rfl (c38 (Kx K w.heap.size [some b_1]) n w_3 x0 _ R0 x1 _ R_6 et_7) ?_)
 rintro _ w_11 ⟨v_8, rfl, R_9, hb_10⟩; refine ⟨_, rfl, ?_⟩
 replace R_9 := RepV.back R_9 W
 clear S; intro a S
 replace R0 := R0.step hb_10
 replace R_6 := R_6.step hb_10
 replace B_2 := B_2.step hb_10
 replace W := W.step hb_10
 obtain ⟨rfl, GR_9⟩ := RepV.int R_9
 refine wl_pureK (l' := [(6, .int .i64 t_7), (3, pB b_1), (0, v0)]) S tys tys_ok 1 [6, 3, 0] (by kernel_rfl) ?_
 clear S; intro a S
 refine wpList_nil ?_
 refine then_n ?_
 refine wp_seq ?_
 refine wp_block ?_
 refine wp_seq ?_
 refine wp_region_lit ?_
 refine wl_pure (l' := [(10, .bool (decide (t_7 < 0))), (12, .bool (decide (t_7 < 0))), (11, .int .i64 t_7), (6, .int .i64 t_7), (3, pB b_1), (0, v0)]) S tys tys_ok 3 (by kernel_rfl) ?_
 clear S; intro a S
 refine wpList_nil ?_
 refine then_n ?_
 replace S := S.sub (l' := [(10, .bool (decide (t_7 < 0))), (6, .int .i64 t_7), (3, pB b_1), (0, v0)]) (by exact ⟨rfl, rfl, rfl, rfl, trivial⟩)
 refine wp_cond_split (S.eval (show ev _ _ = some (.bool (decide (t_7 < 0))) from rfl)) ?_ ?_
 ·intro hc
  rw [if_pos hc] at h
  refine wp_seq ?_
  refine wp_region_lit ?_
  refine wl_pureK (l' := [(5, .int .i64 7), (4, .slice .none 0 0)]) S tys tys_ok 2 [5, 4] (by kernel_rfl) ?_
  clear S; intro a S
  refine wpList_nil ?_
  refine then_n ?_
  refine wp_ret ?_
  refine blk_r ?_
  refine then_r ?_
  replace B_2 := B_2.more
  replace W := W.more
  have O_12 : Ow gt0 33 w_11 w.heap.size (Kx K w.heap.size [.none, some b_1]) (.slice .none 0 0) ([] : List ((Sl (Int)) × Int × Int)) (some 0) := Ow.nil
  obtain rfl := Option.some.inj h
  exact b_ret2 S rfl rfl rfl ⟨_, _, rfl, (O_12.lessO 0 rfl), (RepV.mkInt (by decide)), W.below⟩
 ·intro hc
  rw [if_neg (Bool.eq_false_iff.1 hc)] at h
  refine wp_seq ?_
  refine wp_region_lit ?_
  refine wl_pure (l' := [(14, v0), (10, .bool (decide (t_7 < 0))), (6, .int .i64 t_7), (3, pB b_1), (0, v0)]) S tys tys_ok 1 (by kernel_rfl) ?_
  clear S; intro a S
  refine w_go S rfl (op_mkfn (vs := []) (us := [pB b_1]) S rfl rfl rfl rfl rfl ?_)
  clear S; intro a S
  obtain ⟨t_13, et_13, h⟩ := bindS h
  refine w_go S rfl (op_call (vs := [v0, .func (.func 65) #[] #[pB b_1]]) S rfl cb47 rfl rfl rfl (c47_65 (Kx K w.heap.size [some b_1]) n w_11 x0 _ R0 _ x1 (Bx.br B_2) et_13) ?_)
  rintro _ w_17 ⟨v_14, rfl, R_15, hb_16⟩; refine ⟨_, rfl, ?_⟩
  replace R_15 := RepV.back R_15 W
  clear S; intro a S
  replace R0 := R0.step hb_16
  replace B_2 := B_2.step hb_16
  replace W := W.step hb_16
  obtain rfl := RepV.bool R_15
  refine wl_pureK (l' := [(13, .bool t_13), (6, .int .i64 t_7), (0, v0)]) S tys tys_ok 1 [13, 6, 0] (by kernel_rfl) ?_
  clear S; intro a S
  refine wpList_nil ?_
  refine then_n ?_
  refine wp_cond_split (S.eval (show ev _ _ = some (.bool t_13) from rfl)) ?_ ?_
  ·intro hc
   rw [if_pos hc] at h
   refine wp_seq ?_
   refine wp_region_lit ?_
   refine wl_pureK (l' := [(5, .int .i64 6), (4, .slice .none 0 0)]) S tys tys_ok 2 [5, 4] (by kernel_rfl) ?_
   clear S; intro a S
   refine wpList_nil ?_
   refine then_n ?_
   refine wp_ret ?_
   refine blk_r ?_
   refine then_r ?_
   replace B_2 := B_2.more
   replace W := W.more
   have O_18 : Ow gt0 33 w_17 w.heap.size (Kx K w.heap.size [.none, some b_1]) (.slice .none 0 0) ([] : List ((Sl (Int)) × Int × Int)) (some 0) := Ow.nil
   obtain rfl := Option.some.inj h
   exact b_ret2 S rfl rfl rfl ⟨_, _, rfl, (O_18.lessO 0 rfl), (RepV.mkInt (by decide)), W.below⟩
  ·intro hc
   rw [if_neg (Bool.eq_false_iff.1 hc)] at h
   refine wp_skip ?_
   refine blk_n ?_
   refine then_n ?_
   replace S := S.sub (l' := [(6, .int .i64 t_7), (0, v0)]) (by exact ⟨rfl, rfl, trivial⟩)
   refine wp_seq ?_
   obtain ⟨s_21, es_21, h⟩ := bindS h
   obtain ⟨x_22, ex_22, h⟩ := bindS h
   obtain ⟨s_25, es_25, h⟩ := bindS h
   have hR : Rel (Kx K w.heap.size [some b_1]) Bl := Bl.rel _
   refine wp_region_suf 7 [2, 2, 7, 6, 5, 6, 7, 8, 9, 10] hR [isRep (.sl gt0) (Kx K w.heap.size [some b_1]) x0, isI .i64 t_7, isRep (.sl gt0) (Kx K w.heap.size [some b_1]) s_21, isRep (.sl gt0) (Kx K w.heap.size [some b_1]) x0, isI .i64 t_7, isI .i64 x_22, isRep (.sl gt0) (Kx K w.heap.size [some b_1]) s_25] [[], [], [(0, 17), (1, 18)], [], [], [(4, 21)], [(3, 20), (5, 22)]] (by kernel_rfl) (by rw [S.size]; kernel_rfl) (by kernel_rfl) (by kernel_rfl) (by kernel_rfl) rfl ⟨(stab_rep hR), stab_I, (stab_rep hR), (stab_rep hR), stab_I, stab_I, (stab_rep hR), trivial⟩ ?_ ?_
   ·
    refine RunAll.cons (isRep (.sl gt0) (Kx K w.heap.size [some b_1]) x0) [] rfl rfl ?_ ?_
    ·intro W_ hW
     have S1 := S
     replace R0 := R0.step hW
     exact RPost.one (v := v0) S1 tys tys_ok rfl (by kernel_rfl) S.defers R0 (Below.refl _ _)
    refine RunAll.cons (isI .i64 t_7) [] rfl rfl ?_ ?_
    ·intro W_ hW
     have S1 := S
     exact RPost.one (v := .int .i64 t_7) S1 tys tys_ok rfl (by kernel_rfl) S.defers ⟨rfl, GR_9⟩ (Below.refl _ _)
    refine RunAll.cons (isRep (.sl gt0) (Kx K w.heap.size [some b_1]) s_21) [(isRep (.sl gt0) (Kx K w.heap.size [some b_1]) x0, 17), (isI .i64 t_7, 18)] rfl rfl ?_ ?_
    ·intro W_ hW
     have S1 := S
     intro v_27 hF_26; replace hF_26 : RepV _ _ _ _ _ := hF_26
     replace S1 := S1.put (by decide : 17 < 26) (v_27)
     rintro _ ⟨rfl, hF_28⟩
     replace S1 := S1.put (by decide : 18 < 26) (.int .i64 t_7)
     refine fill_nil S1 ?_; clear S1; intro a_ S1
     have S0 := S.defers; replace S := S1; clear S1
     refine w_go S rfl (op_slice S rfl ty23 rfl rfl rfl hF_26 (.inl ⟨rfl, rfl⟩) (.inr ⟨_, _, rfl, rfl⟩) es_21 ?_)
     clear S; intro a v_30 R_31 S
     refine wpList_nil ?_
     exact RPost.mk_ S rfl S0 R_31 (Below.refl _ _)
    refine RunAll.cons (isRep (.sl gt0) (Kx K w.heap.size [some b_1]) x0) [] rfl rfl ?_ ?_
    ·intro W_ hW
     have S1 := S
     replace R0 := R0.step hW
     exact RPost.one (v := v0) S1 tys tys_ok rfl (by kernel_rfl) S.defers R0 (Below.refl _ _)
    refine RunAll.cons (isI .i64 t_7) [] rfl rfl ?_ ?_
    ·intro W_ hW
     have S1 := S
     exact RPost.one (v := .int .i64 t_7) S1 tys tys_ok rfl (by kernel_rfl) S.defers ⟨rfl, GR_9⟩ (Below.refl _ _)
    refine RunAll.cons (isI .i64 x_22) [(isI .i64 t_7, 21)] rfl rfl ?_ ?_
    ·intro W_ hW
     have S1 := S
     rintro _ ⟨rfl, hF_32⟩
     replace S1 := S1.put (by decide : 21 < 26) (.int .i64 t_7)
     refine fill_nil S1 ?_; clear S1; intro a_ S1
     have S0 := S.defers; replace S := S1; clear S1
     refine w_go S rfl (op_arith S .i64 (t_7 + 1) rfl (.inl rfl) rfl rfl rfl rfl ex_22 ?_)
     clear S; intro a S
     refine wpList_nil ?_
     exact RPost.mk_ S rfl S0 ⟨rfl, (ckI_some ex_22).2.1⟩ (Below.refl _ _)
    refine RunAll.cons (isRep (.sl gt0) (Kx K w.heap.size [some b_1]) s_25) [(isRep (.sl gt0) (Kx K w.heap.size [some b_1]) x0, 20), (isI .i64 x_22, 22)] rfl rfl ?_ ?_
    ·intro W_ hW
     have S1 := S
     intro v_35 hF_34; replace hF_34 : RepV _ _ _ _ _ := hF_34
     replace S1 := S1.put (by decide : 20 < 26) (v_35)
     rintro _ ⟨rfl, hF_36⟩
     replace S1 := S1.put (by decide : 22 < 26) (.int .i64 x_22)
     refine fill_nil S1 ?_; clear S1; intro a_ S1
     have S0 := S.defers; replace S := S1; clear S1
     refine w_go S rfl (op_slice S rfl ty23 rfl rfl rfl hF_34 (.inr ⟨_, _, rfl, rfl⟩) (.inl ⟨rfl, rfl⟩) es_25 ?_)
     clear S; intro a v_38 R_39 S
     refine wpList_nil ?_
     exact RPost.mk_ S rfl S0 R_39 (Below.refl _ _)
    exact trivial
   intro w_40 hb_41
   refine EndE.some_ rfl ?_
   intro v_43 hF_42; replace hF_42 : RepV _ _ _ _ _ := hF_42
   replace S := S.put (by decide : 17 < 26) (v_43)
   refine EndE.some_ rfl ?_
   rintro _ ⟨rfl, hF_44⟩
   replace S := S.put (by decide : 18 < 26) (.int .i64 t_7)
   refine EndE.some_ rfl ?_
   intro v_47 hF_46; replace hF_46 : RepV _ _ _ _ _ := hF_46
   replace S := S.put (by decide : 19 < 26) (v_47)
   refine EndE.some_ rfl ?_
   intro v_49 hF_48; replace hF_48 : RepV _ _ _ _ _ := hF_48
   replace S := S.put (by decide : 20 < 26) (v_49)
   refine EndE.some_ rfl ?_
   rintro _ ⟨rfl, hF_50⟩
   replace S := S.put (by decide : 21 < 26) (.int .i64 t_7)
   refine EndE.some_ rfl ?_
   rintro _ ⟨rfl, hF_52⟩
   replace S := S.put (by decide : 22 < 26) (.int .i64 x_22)
   refine EndE.some_ rfl ?_
   intro v_55 hF_54; replace hF_54 : RepV _ _ _ _ _ := hF_54
   replace S := S.put (by decide : 23 < 26) (v_55)
   refine endE_nil S ?_; clear S; intro a S
   replace R0 := R0.step hb_41
   replace B_2 := B_2.step hb_41
   replace W := W.step hb_41
   refine w_go S rfl (op_buildSlice (K := K) (e := (.sl gt0)) (vs := [v_47, v_55]) (xs := [s_21, s_25]) S W rfl ty83 rfl rfl (by kernel_rfl) rfl rfl rfl rfl rfl ⟨hF_46, hF_54, trivial⟩ ?_)
   clear S; intro a w_59 v_56 hb_58 R_57 S
   replace R0 := R0.step hb_58
   replace hF_42 := hF_42.step hb_58
   replace hF_46 := hF_46.step hb_58
   replace hF_48 := hF_48.step hb_58
   replace hF_54 := hF_54.step hb_58
   replace B_2 := B_2.step hb_58
   replace W := W.step hb_58
   obtain ⟨t_60, et_60, h⟩ := bindS h
   refine w_go S rfl (op_call (vs := [v_56]) S rfl cb64 rfl rfl rfl (c64 (Kx K w.heap.size [some b_1]) n w_59 (⟨[s_21, s_25], some 2⟩ : Sl (Sl ((Sl (Int)) × Int × Int))) _ R_57 et_60) ?_)
   rintro _ w_64 ⟨v_61, rfl, R_62, hb_63⟩; refine ⟨_, rfl, ?_⟩
   have NO_ := newO_of R_62 (Nat.le_refl _) hb_63
   replace R_62 := Ow.backO R_62 W
   clear S; intro a S
   replace R0 := R0.newO NO_
   replace hF_42 := hF_42.newO NO_
   replace hF_46 := hF_46.newO NO_
   replace hF_48 := hF_48.newO NO_
   replace hF_54 := hF_54.newO NO_
   replace R_57 := R_57.newO NO_
   replace B_2 := B_2.newO NO_
   replace W := W.newO NO_
   clear NO_
   refine wl_pureK (l' := [(5, .int .i64 0), (4, v_61)]) S tys tys_ok 2 [5, 4] (by kernel_rfl) ?_
   clear S; intro a S
   refine wpList_nil ?_
   refine then_n ?_
   refine wp_ret ?_
   obtain rfl := Option.some.inj h
   exact b_ret2 S rfl rfl rfl ⟨_, _, rfl, (R_62.lessO 0 rfl), (RepV.mkInt (by decide)), W.below⟩
theorem cb55 : callB Try.prog 55 = true := by kernel_rfl
def p66 (n : Nat) (x0 : (Sl (Int)) × Int × Int) (y0 : Int × Int × (Sl (Int)) × Int) : Option ((Bool)) :=
 some (x0.2.2 == y0.2.2.2)
set_option maxHeartbeats 4000000 in
set_option maxRecDepth 100000 in
/-- (plugboard/events.Tree).settle$1 -/
theorem c66 (K : Nat → Prop) (n : Nat) (w : World) (x0 : (Sl (Int)) × Int × Int) (v0 : Value) (R0 : RepV gt0 w K v0 x0) (q0 : Addr) (y0 : Int × Int × (Sl (Int)) × Int) (Q0 : Br gt2 w K q0 y0) {r : (Bool)} (h : p66 n x0 y0 = some r) :
  Calls Try.prog 66 #[v0, .pointer (some q0)] w (Ret1 .bool w (Kx K w.heap.size []) r) := by
 refine enter (args := [v0, .pointer (some q0)]) Try.func66 rfl 9 rfl rfl fun a S => ?_
 have W := Wd.start w
 replace R0 := R0.arg
 unfold p66 at h
 replace S : St 9 a [(0, v0), (1, .pointer (some q0))] := S
 refine wp_seq ?_
 refine wp_region_lit ?_
 refine w_go S rfl (op_box S rfl rfl rfl rfl rfl R0 ?_)
 clear S; intro a w_3 b_1 hb_4 B_2 S
 replace R0 := R0.box hb_4
 replace W := W.box hb_4
 refine wl_pure (l' := [(3, .bool false), (2, pB b_1), (0, v0), (1, .pointer (some q0))]) S tys tys_ok 1 (by kernel_rfl) ?_
 clear S; intro a S
 refine wpList_nil ?_
 refine then_n ?_
 replace S := S.sub (l' := [(2, pB b_1), (1, .pointer (some q0))]) (by exact ⟨rfl, rfl, trivial⟩)
 refine wp_seq ?_
 refine wp_region_lit ?_
 refine wl_pure (l' := [(4, .pointer (some ((⟨b_1, 0, .none⟩ : Addr).add (coff gf0 2)))), (2, pB b_1), (1, .pointer (some q0))]) S tys tys_ok 1 (by kernel_rfl) ?_
 clear S; intro a S
 refine w_go S rfl (op_load (t := (.int .u8)) (x := x0.2.2) S rfl ty5 rfl rfl rfl (RepAt.add 2 (RepAt.st (t := gf0) B_2.at_)) ?_)
 clear S; intro a v_5 R_6 S
 obtain ⟨rfl, GR_6⟩ := RepV.int R_6
 refine wl_pureK (l' := [(6, .pointer (some (q0.add (coff gf2 3)))), (5, .int .u8 x0.2.2)]) S tys tys_ok 1 [6, 5] (by kernel_rfl) ?_
 clear S; intro a S
 refine w_go S rfl (op_load (t := (.int .u8)) (x := y0.2.2.2) S rfl ty5 rfl rfl rfl (RepAt.add 3 (RepAt.st (t := gf2) (Br.now Q0 W))) ?_)
 clear S; intro a v_7 R_8 S
 obtain ⟨rfl, GR_8⟩ := RepV.int R_8
 refine wl_pureK (l' := [(3, .bool (x0.2.2 == y0.2.2.2))]) S tys tys_ok 2 [3] (by kernel_rfl) ?_
 clear S; intro a S
 refine wpList_nil ?_
 refine then_n ?_
 refine wp_ret ?_
 obtain rfl := Option.some.inj h
 exact b_ret1 S rfl rfl ⟨_, rfl, RepV.mkBool, W.below⟩
theorem cb66 : callB Try.prog 66 = true := by kernel_rfl
def p39 (n : Nat) (x0 : (Sl (Int)) × Int × Int) : Option (((Sl (Int)) × Int × Int)) :=
 (p41 n x0.1).bind fun t_11 =>
 (p44 n (⟨t_11.xs, t_11.cap⟩ : Sl (Int))).bind fun t_17 =>
 some (t_17, x0.2.1, x0.2.2)
set_option maxHeartbeats 4000000 in
set_option maxRecDepth 100000 in
/-- (plugboard/events.Node).own -/
theorem c39 (K : Nat → Prop) (n : Nat) (w : World) (x0 : (Sl (Int)) × Int × Int) (v0 : Value) (R0 : RepV gt0 w K v0 x0) {r : ((Sl (Int)) × Int × Int)} (h : p39 n x0 = some r) :
  Calls Try.prog 39 #[v0] w (Ret1 gt0 w (Kx K w.heap.size []) r) := by
 refine enter (args := [v0]) Try.func39 rfl 9 rfl rfl fun a S => ?_
 have W := Wd.start w
 replace R0 := R0.arg
 unfold p39 at h
 replace S : St 9 a [(0, v0)] := S
 refine wp_seq ?_
 refine wp_region_lit ?_
 refine w_go S rfl (op_box S rfl rfl rfl rfl rfl R0 ?_)
 clear S; intro a w_3 b_1 hb_4 B_2 S
 replace R0 := R0.box hb_4
 replace W := W.box hb_4
 refine w_go S rfl (op_alloc (K := K) (n := w.heap.size) (L := [some b_1]) (t := (.st (.pair .raw (.pair (.int .u8) (.int .u8))))) (y := ((.slice .none 0 0), 0, 0)) S rfl rfl rfl _ z33 (fun w K => ⟨[.slice .none 0 0], [.int .u8 0, .int .u8 0], rfl, ⟨rfl, _, _, _, rfl⟩, ⟨[.int .u8 0], [.int .u8 0], rfl, ⟨rfl, by decide⟩, ⟨rfl, by decide⟩⟩⟩) ?_)
 clear S; intro a w_7 b_5 hb_8 B_6 S
 replace R0 := R0.box hb_8
 replace B_2 := B_2.box hb_8
 replace W := W.box hb_8
 refine wpList_nil ?_
 refine then_n ?_
 replace S := S.sub (l' := [(2, pB b_5), (1, pB b_1)]) (by exact ⟨rfl, rfl, trivial⟩)
 refine wp_seq ?_
 refine wp_region_lit ?_
 refine wl_pure (l' := [(3, .pointer (some ((⟨b_1, 0, .none⟩ : Addr).add (coff gf0 0)))), (2, pB b_5), (1, pB b_1)]) S tys tys_ok 1 (by kernel_rfl) ?_
 clear S; intro a S
 refine w_go S rfl (op_load (t := (.sl (.int .u8))) (x := x0.1) S rfl ty25 rfl rfl rfl (RepAt.add 0 (RepAt.st (t := gf0) B_2.at_)) ?_)
 clear S; intro a v_9 R_10 S
 obtain ⟨t_11, et_11, h⟩ := bindS h
 refine w_go S rfl (op_call (vs := [v_9]) S rfl cb41 rfl rfl rfl (c41 (Kx K w.heap.size [some b_5, some b_1]) n w_7 x0.1 _ R_10 et_11) ?_)
 rintro _ w_15 ⟨v_12, rfl, R_13, hb_14⟩; refine ⟨_, rfl, ?_⟩
 have NO_ := newO_of R_13 (Nat.le_refl _) hb_14
 replace R_13 := Ow.backO R_13 W
 clear S; intro a S
 replace R_10 := R_10.newO NO_
 replace B_2 := B_2.newO NO_
 replace B_6 := B_6.newO NO_
 replace W := W.newO NO_
 clear NO_
 have R_16 : RepV (.sl (.int .u8)) w_15 (Kx K w.heap.size [some b_5, some b_1]) v_12 (⟨t_11.xs, t_11.cap⟩ : Sl (Int)) := R_13.pubAt W 0 rfl
 replace R_10 : RepV (.sl (.int .u8)) w_15 (Kx K w.heap.size [some b_5, some b_1]) v_9 x0.1 := R_10.lessAt 0
 replace B_2 : Bx gt0 33 w_15 (Kx K w.heap.size [some b_5, some b_1]) b_1 x0 := B_2.lessAt 0
 replace B_6 : Bx (.st (.pair .raw (.pair (.int .u8) (.int .u8)))) 33 w_15 (Kx K w.heap.size [some b_5, some b_1]) b_5 ((.slice .none 0 0), 0, 0) := B_6.lessAt 0
 replace W : Wd w w_15 [some b_5, some b_1] := W.lessAt 0
 obtain ⟨t_17, et_17, h⟩ := bindS h
 refine w_go S rfl (op_call (vs := [v_12]) S rfl cb44 rfl rfl rfl (c44 (Kx K w.heap.size [some b_5, some b_1]) n w_15 (⟨t_11.xs, t_11.cap⟩ : Sl (Int)) _ R_16 et_17) ?_)
 rintro _ w_21 ⟨v_18, rfl, R_19, hb_20⟩; refine ⟨_, rfl, ?_⟩
 replace R_19 := RepV.back R_19 W
 clear S; intro a S
 replace R_10 := R_10.step hb_20
 replace R_16 := R_16.step hb_20
 replace B_2 := B_2.step hb_20
 replace B_6 := B_6.step hb_20
 replace W := W.step hb_20
 refine wl_pureK (l' := [(7, .pointer (some ((⟨b_1, 0, .none⟩ : Addr).add (coff gf0 0)))), (6, v_18), (2, pB b_5), (1, pB b_1)]) S tys tys_ok 1 [7, 6, 2, 1] (by kernel_rfl) ?_
 clear S; intro a S
 refine w_go S rfl (op_store (t' := (.sl (.int .u8))) S rfl rfl ty25 rfl (addr_add1 _ _) rfl B_2 (by simp) (Ln.st (Ln.comp 0)) R_19 ?_)
 intro w_22 hw_23 B_
 replace R_19 := R_19.wrote hw_23 (by simp)
 replace B_6 := B_6.wrote hw_23 (by simp) (W.bne (p := 0) (q := 1) (by decide) rfl rfl)
 replace W := W.wrote hw_23 (by simp)
 replace B_2 : Bx gt0 33 w_22 (Kx K w.heap.size [some b_5, some b_1]) b_1 (t_17, x0.2.1, x0.2.2) := B_; clear B_
 refine wpList_nil ?_
 refine then_n ?_
 replace S := S.sub (l' := [(2, pB b_5), (1, pB b_1)]) (by exact ⟨rfl, rfl, trivial⟩)
 refine wp_seq ?_
 refine wp_region_lit ?_
 refine w_go S rfl (op_load (t := gt0) (x := (t_17, x0.2.1, x0.2.2)) S rfl ty33 rfl rfl rfl B_2.at_ ?_)
 clear S; intro a v_24 R_25 S
 replace B_6 : Bx gt0 33 w_22 (Kx K w.heap.size [some b_5, some b_1]) b_5 ((⟨[], some 0⟩ : Sl (Int)), 0, 0) := Bx.unrawX (t' := gt0) (Lx.st (Lx.left Lx.here)) B_6 RepV.nil
 refine w_go S rfl (op_store (t' := gt0) S rfl rfl ty33 rfl rfl rfl B_6 (by simp) Ln.whole R_25 ?_)
 intro w_26 hw_27 B_
 replace R_25 := R_25.wrote hw_27 (by simp)
 replace B_2 := B_2.wrote hw_27 (by simp) (W.bne (p := 1) (q := 0) (by decide) rfl rfl)
 replace W := W.wrote hw_27 (by simp)
 replace B_6 : Bx gt0 33 w_26 (Kx K w.heap.size [some b_5, some b_1]) b_5 (t_17, x0.2.1, x0.2.2) := B_; clear B_
 refine wpList_nil ?_
 refine then_n ?_
 replace S := S.sub (l' := [(2, pB b_5)]) (by exact ⟨rfl, trivial⟩)
 refine wp_ret ?_
 obtain ⟨v_28, hr_29, R_30⟩ := res_cell (P := Try.prog) (T := 33) (t := gt0) (x := (t_17, x0.2.1, x0.2.2)) S (s := 2) rfl ty33 B_6.at_
 obtain rfl := Option.some.inj h
 exact b_res1 S rfl hr_29 ⟨_, rfl, R_30.out, W.below⟩
theorem cb39 : callB Try.prog 39 = true := by kernel_rfl
def p45_l1 (n : Nat) (x0 : Sl ((Sl (Int)) × Int × Int)) : Nat → (Int) → (List ((Sl (Int)) × Int × Int)) → Option ((List ((Sl (Int)) × Int × Int)))
 | 0, _, _ => .none
 | m + 1, c_8, c_10 => if (decide (c_8 < (lenI x0))) then ((idx x0.xs c_8).bind fun y_24 => (p39 n y_24).bind fun t_38 => (idx c_10 c_8).bind fun y_43 => (ckI .i64 (c_8 + 1)).bind fun x_51 => p45_l1 n x0 m x_51 (c_10.set c_8.toNat t_38)) else some c_10
def p45 (n : Nat) (x0 : Sl ((Sl (Int)) × Int × Int)) : Option ((Sl ((Sl (Int)) × Int × Int))) :=
 (mkI (lenI x0) (lenI x0)).bind fun m_2 =>
 (p45_l1 n x0 n 0 (List.replicate m_2.1 ((⟨[], some 0⟩, 0, 0) : (Sl (Int)) × Int × Int))).bind fun (y_18 : (List ((Sl (Int)) × Int × Int))) =>
 some (⟨y_18, some m_2.2⟩ : Sl ((Sl (Int)) × Int × Int))
set_option maxHeartbeats 4000000 in
set_option maxRecDepth 100000 in
/-- (plugboard/events.Tree).own -/
theorem c45 (K : Nat → Prop) (n : Nat) (w : World) (x0 : Sl ((Sl (Int)) × Int × Int)) (v0 : Value) (R0 : RepV (.sl gt0) w K v0 x0) {r : (Sl ((Sl (Int)) × Int × Int))} (h : p45 n x0 = some r) :
  Calls Try.prog 45 #[v0] w (fun e_ w_ => ∃ v0_ : Value, e_ = .returned v0_ ∧ Ow gt0 33 w_ w.heap.size (Kx K w.heap.size [v0_.ownBlock]) v0_ r.xs r.cap ∧ Below w.heap.size w w_) := by
 refine enter (args := [v0]) Try.func45 rfl 23 rfl rfl fun a S => ?_
 have W := Wd.start w
 replace R0 := R0.arg
 unfold p45 at h
 replace S : St 23 a [(0, v0)] := S
 refine wp_seq ?_
 refine wp_region_lit ?_
 refine wl_pure (l' := [(2, .slice .none 0 0), (0, v0)]) S tys tys_ok 1 (by kernel_rfl) ?_
 clear S; intro a S
 refine wpList_nil ?_
 refine then_n ?_
 replace S := S.sub (l' := [(0, v0)]) (by exact ⟨rfl, trivial⟩)
 refine wp_seq ?_
 refine wp_region_lit ?_
 refine wl_pure (l' := [(6, v0), (0, v0)]) S tys tys_ok 1 (by kernel_rfl) ?_
 clear S; intro a S
 refine w_go S rfl (op_len (K := _) S rfl ty23 rfl rfl rfl R0 ?_)
 clear S; intro a G_1 S
 obtain ⟨m_2, em_2, h⟩ := bindS h
 refine w_go S rfl (op_make (K := K) (e := gt0) (z0 := (⟨[], some 0⟩, 0, 0)) S W _ rfl ty23 un23 by23 z33 (fun w K => ⟨[.slice .none 0 0], [.int .u8 0, .int .u8 0], rfl, ⟨.none, 0, 0, rfl, rfl, Nat.le_refl _, by decide, fun k h => Option.some.inj h, .inl rfl⟩, ⟨[.int .u8 0], [.int .u8 0], rfl, ⟨rfl, by decide⟩, ⟨rfl, by decide⟩⟩⟩) rfl rfl rfl rfl em_2 ?_)
 clear S; intro a w_4 b_3 hb_5 O_6 S
 replace R0 := R0.box hb_5
 replace W := W.box hb_5
 replace O_6 : Ow gt0 33 w_4 w.heap.size (Kx K w.heap.size [some b_3]) (.slice (some ⟨b_3, 0, .none⟩) m_2.1 m_2.2) (List.replicate m_2.1 ((⟨[], some 0⟩, 0, 0) : (Sl (Int)) × Int × Int)) (some m_2.2) := O_6
 refine wl_pureK (l' := [(3, (.slice (some ⟨b_3, 0, .none⟩) m_2.1 m_2.2)), (0, v0)]) S tys tys_ok 1 [3, 0] (by kernel_rfl) ?_
 clear S; intro a S
 refine wpList_nil ?_
 refine then_n ?_
 refine wp_seq ?_
 refine wp_seq ?_
 refine wp_region_lit ?_
 refine wl_pure (l' := [(9, v0), (3, (.slice (some ⟨b_3, 0, .none⟩) m_2.1 m_2.2)), (0, v0)]) S tys tys_ok 1 (by kernel_rfl) ?_
 clear S; intro a S
 refine w_go S rfl (op_len (K := _) S rfl ty23 rfl rfl rfl R0 ?_)
 clear S; intro a G_7 S
 refine wl_pure (l' := [(11, .int .i64 0), (10, .int .i64 (lenI x0)), (9, v0), (3, (.slice (some ⟨b_3, 0, .none⟩) m_2.1 m_2.2)), (0, v0)]) S tys tys_ok 1 (by kernel_rfl) ?_
 clear S; intro a S
 refine wpList_nil ?_
 refine then_n ?_
 replace S := S.sub (l' := [(11, .int .i64 0), (10, .int .i64 (lenI x0)), (9, v0), (3, (.slice (some ⟨b_3, 0, .none⟩) m_2.1 m_2.2))]) (by exact ⟨rfl, rfl, rfl, rfl, trivial⟩)
 obtain ⟨y_18, ey_18, h⟩ := bindS h
 refine wp_cut_ (fun a_ w_ => St 23 a_ [(3, (.slice (some ⟨b_3, 0, .none⟩) m_2.1 m_2.2))] ∧ Wd w w_ [some b_3] ∧ Ow gt0 33 w_ w.heap.size (Kx K w.heap.size [some b_3]) (.slice (some ⟨b_3, 0, .none⟩) m_2.1 m_2.2) y_18 (some m_2.2)) ?_ ?_
 ·refine wp_block ?_
  refine wp_loop_n (fun m_ a_ w_ => ∃ (c_8 : Int) (c_10 : List ((Sl (Int)) × Int × Int)) , St 23 a_ [(11, .int .i64 c_8), (10, .int .i64 (lenI x0)), (9, v0), (3, (.slice (some ⟨b_3, 0, .none⟩) m_2.1 m_2.2))] ∧ Wd w w_ [some b_3] ∧ InR .i64 c_8 ∧ RepV (.sl gt0) w_ (Kx K w.heap.size [some b_3]) v0 x0 ∧ Ow gt0 33 w_ w.heap.size (Kx K w.heap.size [some b_3]) (.slice (some ⟨b_3, 0, .none⟩) m_2.1 m_2.2) c_10 (some m_2.2) ∧ p45_l1 n x0 m_ c_8 c_10 = some y_18) n ?_ ?_
  ·skip
   exact ⟨0, (List.replicate m_2.1 ((⟨[], some 0⟩, 0, 0) : (Sl (Int)) × Int × Int)), ⟨S.sub (by exact ⟨rfl, rfl, rfl, rfl, trivial⟩), W, (show InR .i64 0 by decide), R0, O_6, ey_18⟩⟩
  ·clear S W; rintro m_21 a w_23 ⟨c_8, c_10, S, W, G_9, R0, O_12, hl_22⟩
   cases m_21 with
   | zero => exact absurd hl_22 (by simp [p45_l1])
   | succ m_21 =>
    refine ⟨m_21, rfl, ?_⟩
    rw [p45_l1] at hl_22
    refine wp_seq ?_
    refine wp_region_lit ?_
    refine wl_pure (l' := [(12, .bool (decide (c_8 < (lenI x0)))), (11, .int .i64 c_8), (10, .int .i64 (lenI x0)), (9, v0), (3, (.slice (some ⟨b_3, 0, .none⟩) m_2.1 m_2.2))]) S tys tys_ok 1 (by kernel_rfl) ?_
    clear S; intro a S
    refine wpList_nil ?_
    refine then_n ?_
    refine wp_seq ?_
    refine wp_cond_split (S.eval (show ev _ _ = some (.bool (decide (c_8 < (lenI x0)))) from rfl)) ?_ ?_
    ·intro hc
     rw [if_pos hc] at hl_22
     refine wp_skip ?_
     refine then_n ?_
     replace S := S.sub (l' := [(11, .int .i64 c_8), (10, .int .i64 (lenI x0)), (9, v0), (3, (.slice (some ⟨b_3, 0, .none⟩) m_2.1 m_2.2))]) (by exact ⟨rfl, rfl, rfl, rfl, trivial⟩)
     refine wp_seq ?_
     refine wp_block ?_
     refine wp_seq ?_
     refine wp_region_lit ?_
     refine wl_pure (l' := [(13, .int .i64 c_8), (11, .int .i64 c_8), (10, .int .i64 (lenI x0)), (9, v0), (3, (.slice (some ⟨b_3, 0, .none⟩) m_2.1 m_2.2))]) S tys tys_ok 1 (by kernel_rfl) ?_
     clear S; intro a S
     obtain ⟨y_24, ey_24, hl_22⟩ := bindS hl_22
     refine w_go S rfl (op_indexAddr S rfl ty23 rfl rfl rfl R0 rfl ey_24 ?_)
     clear S; intro a p_25 R_26 H_27 S
     refine w_go S rfl (op_load (t := gt0) (x := y_24) S rfl ty33 rfl rfl rfl R_26 ?_)
     clear S; intro a v_28 R_29 S
     refine w_go S rfl (op_alloc (K := K) (n := w.heap.size) (L := [some b_3]) (t := gt0) (y := (⟨[], some 0⟩, 0, 0)) S rfl rfl rfl _ z33 (fun w K => ⟨[.slice .none 0 0], [.int .u8 0, .int .u8 0], rfl, ⟨.none, 0, 0, rfl, rfl, Nat.le_refl _, by decide, fun k h => Option.some.inj h, .inl rfl⟩, ⟨[.int .u8 0], [.int .u8 0], rfl, ⟨rfl, by decide⟩, ⟨rfl, by decide⟩⟩⟩) ?_)
     clear S; intro a w_32 b_30 hb_33 B_31 S
     replace R0 := R0.box hb_33
     replace R_29 := R_29.box hb_33
     replace O_12 := O_12.box hb_33
     replace W := W.box hb_33
     refine wl_pure (l' := [(4, .int .i64 c_8), (5, pB b_30), (15, v_28), (14, .pointer (some p_25)), (13, .int .i64 c_8), (11, .int .i64 c_8), (10, .int .i64 (lenI x0)), (9, v0), (3, (.slice (some ⟨b_3, 0, .none⟩) m_2.1 m_2.2))]) S tys tys_ok 1 (by kernel_rfl) ?_
     clear S; intro a S
     refine w_go S rfl (op_store (t' := gt0) S rfl rfl ty33 rfl rfl rfl B_31 (by simp) Ln.whole R_29 ?_)
     intro w_34 hw_35 B_
     replace R0 := R0.wrote hw_35 (by simp)
     replace R_29 := R_29.wrote hw_35 (by simp)
     replace O_12 := O_12.wrote hw_35 (by simp) (W.one (p := 1) (q := 0) (by decide) rfl rfl)
     replace W := W.wrote hw_35 (by simp)
     replace B_31 : Bx gt0 33 w_34 (Kx K w.heap.size [some b_30, some b_3]) b_30 y_24 := B_; clear B_
     refine wpList_nil ?_
     refine then_n ?_
     replace S := S.sub (l' := [(4, .int .i64 c_8), (5, pB b_30), (11, .int .i64 c_8), (10, .int .i64 (lenI x0)), (9, v0), (3, (.slice (some ⟨b_3, 0, .none⟩) m_2.1 m_2.2))]) (by exact ⟨rfl, rfl, rfl, rfl, rfl, rfl, trivial⟩)
     refine wp_region_lit ?_
     refine wl_pure (l' := [(17, .int .i64 c_8), (16, (.slice (some ⟨b_3, 0, .none⟩) m_2.1 m_2.2)), (4, .int .i64 c_8), (5, pB b_30), (11, .int .i64 c_8), (10, .int .i64 (lenI x0)), (9, v0), (3, (.slice (some ⟨b_3, 0, .none⟩) m_2.1 m_2.2))]) S tys tys_ok 2 (by kernel_rfl) ?_
     clear S; intro a S
     refine w_go S rfl (op_load (t := gt0) (x := y_24) S rfl ty33 rfl rfl rfl B_31.at_ ?_)
     clear S; intro a v_36 R_37 S
     obtain ⟨t_38, et_38, hl_22⟩ := bindS hl_22
     refine w_go S rfl (op_call (vs := [v_36]) S rfl cb39 rfl rfl rfl (c39 (Kx K w.heap.size [some b_30, some b_3]) n w_34 y_24 _ R_37 et_38) ?_)
     rintro _ w_42 ⟨v_39, rfl, R_40, hb_41⟩; refine ⟨_, rfl, ?_⟩
     replace R_40 := RepV.back R_40 W
     clear S; intro a S
     replace R0 := R0.step hb_41
     replace R_37 := R_37.step hb_41
     replace B_31 := B_31.step hb_41
     replace O_12 := O_12.step hb_41
     replace W := W.step hb_41
     obtain ⟨y_43, ey_43, hl_22⟩ := bindS hl_22
     refine w_go S rfl (op_indexAddr_own S rfl ty23 rfl rfl rfl O_12 rfl ey_43 ?_)
     clear S; intro a g_44 H_46 R_45 S
     refine w_go S rfl (op_store_own (t' := gt0) S rfl rfl ty33 rfl rfl rfl O_12 H_46 1 rfl (idx_some ey_43).2.1 Ln.whole R_40 ?_)
     intro w_47 hw_48 hm_50 O_49
     replace R0 := R0.wrote hw_48 hm_50
     replace R_37 := R_37.wrote hw_48 hm_50
     replace R_40 := R_40.wrote hw_48 hm_50
     replace B_31 := B_31.wrote hw_48 hm_50 (by have h_ := W.one (p := 1) (q := 0) (by decide) rfl rfl; exact fun e_ => h_ (by rw [e_]; exact H_46))
     replace W := W.wrote hw_48 hm_50
     replace O_49 : Ow gt0 33 w_47 w.heap.size (Kx K w.heap.size [some b_30, some b_3]) (.slice (some ⟨b_3, 0, .none⟩) m_2.1 m_2.2) (c_10.set c_8.toNat t_38) (some m_2.2) := O_49
     refine wpList_nil ?_
     refine blk_n ?_
     refine then_n ?_
     replace S := S.sub (l' := [(11, .int .i64 c_8), (10, .int .i64 (lenI x0)), (9, v0), (3, (.slice (some ⟨b_3, 0, .none⟩) m_2.1 m_2.2))]) (by exact ⟨rfl, rfl, rfl, rfl, trivial⟩)
     refine wp_region_lit ?_
     obtain ⟨x_51, ex_51, hl_22⟩ := bindS hl_22
     refine w_go S rfl (op_arith S .i64 (c_8 + 1) rfl (.inl rfl) rfl rfl rfl rfl ex_51 ?_)
     clear S; intro a S
     refine wl_pure (l' := [(11, .int .i64 x_51), (21, .int .i64 x_51), (11, .int .i64 c_8), (10, .int .i64 (lenI x0)), (9, v0), (3, (.slice (some ⟨b_3, 0, .none⟩) m_2.1 m_2.2))]) S tys tys_ok 1 (by kernel_rfl) ?_
     clear S; intro a S
     refine wpList_nil ?_
     refine then_n ?_
     exact ⟨x_51, (c_10.set c_8.toNat t_38), ⟨S.sub (by exact ⟨rfl, rfl, rfl, rfl, trivial⟩), (W.drop 1), (ckI_some ex_51).2.1, (R0.drop 1), (O_49.drop 1), hl_22⟩⟩
    ·intro hc
     rw [if_neg (Bool.eq_false_iff.1 hc)] at hl_22
     refine wp_exit ?_
     refine then_x ?_
     refine then_x ?_
     refine blk_hit ?_
     refine then_n ?_
     obtain rfl := Option.some.inj hl_22
     exact ⟨S.sub (by exact ⟨rfl, trivial⟩), W, O_12⟩
 clear S W; rintro a w_52 ⟨S, W, O_20⟩
 refine then_n ?_
 refine wp_seq ?_
 refine wp_region_lit ?_
 refine wl_pure (l' := [(2, (.slice (some ⟨b_3, 0, .none⟩) m_2.1 m_2.2)), (22, (.slice (some ⟨b_3, 0, .none⟩) m_2.1 m_2.2)), (3, (.slice (some ⟨b_3, 0, .none⟩) m_2.1 m_2.2))]) S tys tys_ok 2 (by kernel_rfl) ?_
 clear S; intro a S
 refine wpList_nil ?_
 refine then_n ?_
 replace S := S.sub (l' := [(2, (.slice (some ⟨b_3, 0, .none⟩) m_2.1 m_2.2))]) (by exact ⟨rfl, trivial⟩)
 refine wp_ret ?_
 obtain rfl := Option.some.inj h
 exact b_ret1 S rfl rfl ⟨_, rfl, (O_20.lessO 0 rfl), W.below⟩
theorem cb45 : callB Try.prog 45 = true := by kernel_rfl
def p59_66_l1 (n : Nat) (x0 : Sl ((Sl (Int)) × Int × Int)) (y1_0 : Int × Int × (Sl (Int)) × Int) : Nat → (Int) → Option ((Unit) ⊕ ((Int)))
 | 0, _ => .none
 | m + 1, c_2 => if (decide (c_2 < (lenI x0))) then ((idx x0.xs c_2).bind fun y_11 => (p66 n y_11 y1_0).bind fun t_17 => if t_17 then (some (.inr c_2)) else (ckI .i64 (c_2 + 1)).bind fun x_22 => p59_66_l1 n x0 y1_0 m x_22) else some (.inl ())
def p59_66 (n : Nat) (x0 : Sl ((Sl (Int)) × Int × Int)) (y1_0 : Int × Int × (Sl (Int)) × Int) : Option ((Int)) :=
 (p59_66_l1 n x0 y1_0 n 0).bind fun (y_6 : (Unit) ⊕ ((Int))) =>
 lrK y_6 some fun (s_7 : Unit) =>
 some (-1)
set_option maxHeartbeats 4000000 in
set_option maxRecDepth 100000 in
/-- slices.IndexFunc[plugboard/events.Tree,plugboard/events.Node] -/
theorem c59_66 (K : Nat → Prop) (n : Nat) (w : World) (x0 : Sl ((Sl (Int)) × Int × Int)) (v0 : Value) (R0 : RepV (.sl gt0) w K v0 x0) (q1_0 : Addr) (y1_0 : Int × Int × (Sl (Int)) × Int) (Q1_0 : Br gt2 w K q1_0 y1_0) {r : (Int)} (h : p59_66 n x0 y1_0 = some r) :
  Calls Try.prog 59 #[v0, .func (.func 66) #[] #[.pointer (some q1_0)]] w (Ret1 (.int .i64) w (Kx K w.heap.size []) r) := by
 refine enter (args := [v0, .func (.func 66) #[] #[.pointer (some q1_0)]]) Try.func59 rfl 19 rfl rfl fun a S => ?_
 have W := Wd.start w
 replace R0 := R0.arg
 unfold p59_66 at h
 replace S : St 19 a [(0, v0), (1, .func (.func 66) #[] #[.pointer (some q1_0)])] := S
 refine wp_seq ?_
 refine wp_region_lit ?_
 refine wl_pure (l' := [(4, .int .i64 0), (0, v0), (1, .func (.func 66) #[] #[.pointer (some q1_0)])]) S tys tys_ok 1 (by kernel_rfl) ?_
 clear S; intro a S
 refine wpList_nil ?_
 refine then_n ?_
 replace S := S.sub (l' := [(0, v0), (1, .func (.func 66) #[] #[.pointer (some q1_0)])]) (by exact ⟨rfl, rfl, trivial⟩)
 refine wp_seq ?_
 refine wp_seq ?_
 refine wp_region_lit ?_
 refine wl_pure (l' := [(6, v0), (0, v0), (1, .func (.func 66) #[] #[.pointer (some q1_0)])]) S tys tys_ok 1 (by kernel_rfl) ?_
 clear S; intro a S
 refine w_go S rfl (op_len (K := _) S rfl ty23 rfl rfl rfl R0 ?_)
 clear S; intro a G_1 S
 refine wl_pure (l' := [(8, .int .i64 0), (7, .int .i64 (lenI x0)), (6, v0), (0, v0), (1, .func (.func 66) #[] #[.pointer (some q1_0)])]) S tys tys_ok 1 (by kernel_rfl) ?_
 clear S; intro a S
 refine wpList_nil ?_
 refine then_n ?_
 replace S := S.sub (l' := [(8, .int .i64 0), (7, .int .i64 (lenI x0)), (0, v0), (1, .func (.func 66) #[] #[.pointer (some q1_0)])]) (by exact ⟨rfl, rfl, rfl, rfl, trivial⟩)
 obtain ⟨y_6, ey_6, h⟩ := bindS h
 refine wp_cut_ (fun a_ w_ => ∃ s_7 : Unit, y_6 = .inl s_7 ∧ (St 19 a_ [] ∧ Wd w w_ [])) ?_ ?_
 ·refine wp_block ?_
  refine wp_loop_n (fun m_ a_ w_ => ∃ (c_2 : Int) , St 19 a_ [(8, .int .i64 c_2), (7, .int .i64 (lenI x0)), (0, v0), (1, .func (.func 66) #[] #[.pointer (some q1_0)])] ∧ Wd w w_ [] ∧ InR .i64 c_2 ∧ RepV (.sl gt0) w_ (Kx K w.heap.size []) v0 x0 ∧ p59_66_l1 n x0 y1_0 m_ c_2 = some y_6) n ?_ ?_
  ·skip
   exact ⟨0, ⟨S.sub (by exact ⟨rfl, rfl, rfl, rfl, trivial⟩), W, (show InR .i64 0 by decide), R0, ey_6⟩⟩
  ·clear S W; rintro m_8 a w_10 ⟨c_2, S, W, G_3, R0, hl_9⟩
   cases m_8 with
   | zero => exact absurd hl_9 (by simp [p59_66_l1])
   | succ m_8 =>
    refine ⟨m_8, rfl, ?_⟩
    rw [p59_66_l1] at hl_9
    refine wp_seq ?_
    refine wp_region_lit ?_
    refine wl_pure (l' := [(9, .bool (decide (c_2 < (lenI x0)))), (8, .int .i64 c_2), (7, .int .i64 (lenI x0)), (0, v0), (1, .func (.func 66) #[] #[.pointer (some q1_0)])]) S tys tys_ok 1 (by kernel_rfl) ?_
    clear S; intro a S
    refine wpList_nil ?_
    refine then_n ?_
    refine wp_seq ?_
    refine wp_cond_split (S.eval (show ev _ _ = some (.bool (decide (c_2 < (lenI x0)))) from rfl)) ?_ ?_
    ·intro hc
     rw [if_pos hc] at hl_9
     refine wp_skip ?_
     refine then_n ?_
     replace S := S.sub (l' := [(8, .int .i64 c_2), (7, .int .i64 (lenI x0)), (0, v0), (1, .func (.func 66) #[] #[.pointer (some q1_0)])]) (by exact ⟨rfl, rfl, rfl, rfl, trivial⟩)
     refine wp_seq ?_
     refine wp_block ?_
     refine wp_seq ?_
     refine wp_region_lit ?_
     refine wl_pure (l' := [(5, .int .i64 c_2), (10, .int .i64 c_2), (8, .int .i64 c_2), (7, .int .i64 (lenI x0)), (0, v0), (1, .func (.func 66) #[] #[.pointer (some q1_0)])]) S tys tys_ok 2 (by kernel_rfl) ?_
     clear S; intro a S
     refine wpList_nil ?_
     refine then_n ?_
     replace S := S.sub (l' := [(5, .int .i64 c_2), (8, .int .i64 c_2), (7, .int .i64 (lenI x0)), (0, v0), (1, .func (.func 66) #[] #[.pointer (some q1_0)])]) (by exact ⟨rfl, rfl, rfl, rfl, rfl, trivial⟩)
     refine wp_seq ?_
     refine wp_region_lit ?_
     refine wl_pure (l' := [(13, .int .i64 c_2), (12, v0), (11, .func (.func 66) #[] #[.pointer (some q1_0)]), (5, .int .i64 c_2), (8, .int .i64 c_2), (7, .int .i64 (lenI x0)), (0, v0), (1, .func (.func 66) #[] #[.pointer (some q1_0)])]) S tys tys_ok 3 (by kernel_rfl) ?_
     clear S; intro a S
     obtain ⟨y_11, ey_11, hl_9⟩ := bindS hl_9
     refine w_go S rfl (op_indexAddr S rfl ty23 rfl rfl rfl R0 rfl ey_11 ?_)
     clear S; intro a p_12 R_13 H_14 S
     refine w_go S rfl (op_load (t := gt0) (x := y_11) S rfl ty33 rfl rfl rfl R_13 ?_)
     clear S; intro a v_15 R_16 S
     obtain ⟨t_17, et_17, hl_9⟩ := bindS hl_9
     refine w_go S rfl (op_calld (vs := [v_15]) S rfl rfl cb66 rfl rfl rfl (c66 (Kx K w.heap.size []) n w_10 y_11 _ R_16 _ y1_0 (Br.again Q1_0 W) et_17) ?_)
     rintro _ w_21 ⟨v_18, rfl, R_19, hb_20⟩; refine ⟨_, rfl, ?_⟩
     replace R_19 := RepV.back R_19 W
     clear S; intro a S
     replace R0 := R0.step hb_20
     replace R_16 := R_16.step hb_20
     replace W := W.step hb_20
     obtain rfl := RepV.bool R_19
     refine wpList_nil ?_
     refine then_n ?_
     replace S := S.sub (l' := [(16, .bool t_17), (5, .int .i64 c_2), (8, .int .i64 c_2), (7, .int .i64 (lenI x0)), (0, v0), (1, .func (.func 66) #[] #[.pointer (some q1_0)])]) (by exact ⟨rfl, rfl, rfl, rfl, rfl, rfl, trivial⟩)
     refine wp_cond_split (S.eval (show ev _ _ = some (.bool t_17) from rfl)) ?_ ?_
     ·intro hc
      rw [if_pos hc] at hl_9
      refine wp_seq ?_
      refine wp_region_lit ?_
      refine wl_pureK (l' := [(4, .int .i64 c_2)]) S tys tys_ok 2 [4] (by kernel_rfl) ?_
      clear S; intro a S
      refine wpList_nil ?_
      refine then_n ?_
      refine wp_ret ?_
      refine blk_r ?_
      refine then_r ?_
      refine then_r ?_
      refine blk_r ?_
      refine then_r ?_
      refine then_r ?_
      obtain rfl := Option.some.inj hl_9
      obtain rfl := lr_inr h
      exact b_ret1 S rfl rfl ⟨_, rfl, (RepV.mkInt G_3), W.below⟩
     ·intro hc
      rw [if_neg (Bool.eq_false_iff.1 hc)] at hl_9
      refine wp_skip ?_
      refine blk_n ?_
      refine then_n ?_
      replace S := S.sub (l' := [(8, .int .i64 c_2), (7, .int .i64 (lenI x0)), (0, v0), (1, .func (.func 66) #[] #[.pointer (some q1_0)])]) (by exact ⟨rfl, rfl, rfl, rfl, trivial⟩)
      refine wp_region_lit ?_
      obtain ⟨x_22, ex_22, hl_9⟩ := bindS hl_9
      refine w_go S rfl (op_arith S .i64 (c_2 + 1) rfl (.inl rfl) rfl rfl rfl rfl ex_22 ?_)
      clear S; intro a S
      refine wl_pure (l' := [(8, .int .i64 x_22), (18, .int .i64 x_22), (8, .int .i64 c_2), (7, .int .i64 (lenI x0)), (0, v0), (1, .func (.func 66) #[] #[.pointer (some q1_0)])]) S tys tys_ok 1 (by kernel_rfl) ?_
      clear S; intro a S
      refine wpList_nil ?_
      refine then_n ?_
      exact ⟨x_22, ⟨S.sub (by exact ⟨rfl, rfl, rfl, rfl, trivial⟩), W, (ckI_some ex_22).2.1, R0, hl_9⟩⟩
    ·intro hc
     rw [if_neg (Bool.eq_false_iff.1 hc)] at hl_9
     refine wp_exit ?_
     refine then_x ?_
     refine then_x ?_
     refine blk_hit ?_
     refine then_n ?_
     obtain rfl := Option.some.inj hl_9
     exact ⟨_, rfl, ⟨S.sub trivial, W⟩⟩
 clear S W; rintro a w_23 ⟨s_7, rfl, S, W⟩
 replace h := lr_inl h; try dsimp only at h
 refine then_n ?_
 refine wp_seq ?_
 refine wp_region_lit ?_
 refine wl_pure (l' := [(4, .int .i64 (-1))]) S tys tys_ok 1 (by kernel_rfl) ?_
 clear S; intro a S
 refine wpList_nil ?_
 refine then_n ?_
 refine wp_ret ?_
 obtain rfl := Option.some.inj h
 exact b_ret1 S rfl rfl ⟨_, rfl, (RepV.mkInt (by decide)), W.below⟩
def p47_66 (n : Nat) (x0 : Sl ((Sl (Int)) × Int × Int)) (y1_0 : Int × Int × (Sl (Int)) × Int) : Option ((Bool)) :=
 (p59_66 n x0 y1_0).bind fun t_1 =>
 some (decide (t_1 ≥ 0))
set_option maxHeartbeats 4000000 in
set_option maxRecDepth 100000 in
/-- slices.ContainsFunc[plugboard/events.Tree,plugboard/events.Node] -/
theorem c47_66 (K : Nat → Prop) (n : Nat) (w : World) (x0 : Sl ((Sl (Int)) × Int × Int)) (v0 : Value) (R0 : RepV (.sl gt0) w K v0 x0) (q1_0 : Addr) (y1_0 : Int × Int × (Sl (Int)) × Int) (Q1_0 : Br gt2 w K q1_0 y1_0) {r : (Bool)} (h : p47_66 n x0 y1_0 = some r) :
  Calls Try.prog 47 #[v0, .func (.func 66) #[] #[.pointer (some q1_0)]] w (Ret1 .bool w (Kx K w.heap.size []) r) := by
 refine enter (args := [v0, .func (.func 66) #[] #[.pointer (some q1_0)]]) Try.func47 rfl 9 rfl rfl fun a S => ?_
 have W := Wd.start w
 replace R0 := R0.arg
 unfold p47_66 at h
 replace S : St 9 a [(0, v0), (1, .func (.func 66) #[] #[.pointer (some q1_0)])] := S
 refine wp_seq ?_
 refine wp_region_lit ?_
 refine wl_pure (l' := [(4, .bool false), (0, v0), (1, .func (.func 66) #[] #[.pointer (some q1_0)])]) S tys tys_ok 1 (by kernel_rfl) ?_
 clear S; intro a S
 refine wpList_nil ?_
 refine then_n ?_
 replace S := S.sub (l' := [(0, v0), (1, .func (.func 66) #[] #[.pointer (some q1_0)])]) (by exact ⟨rfl, rfl, trivial⟩)
 refine wp_seq ?_
 refine wp_region_lit ?_
 refine wl_pure (l' := [(6, .func (.func 66) #[] #[.pointer (some q1_0)]), (5, v0), (0, v0), (1, .func (.func 66) #[] #[.pointer (some q1_0)])]) S tys tys_ok 2 (by kernel_rfl) ?_
 clear S; intro a S
 obtain ⟨t_1, et_1, h⟩ := bindS h
 refine w_go S rfl (op_call (vs := [v0, .func (.func 66) #[] #[.pointer (some q1_0)]]) S rfl cb59 rfl rfl rfl (c59_66 (Kx K w.heap.size []) n w x0 _ R0 _ y1_0 (Br.again Q1_0 W) et_1) ?_)
 rintro _ w_5 ⟨v_2, rfl, R_3, hb_4⟩; refine ⟨_, rfl, ?_⟩
 replace R_3 := RepV.back R_3 W
 clear S; intro a S
 replace R0 := R0.step hb_4
 replace W := W.step hb_4
 obtain ⟨rfl, GR_3⟩ := RepV.int R_3
 refine wl_pureK (l' := [(4, .bool (decide (t_1 ≥ 0)))]) S tys tys_ok 2 [4] (by kernel_rfl) ?_
 clear S; intro a S
 refine wpList_nil ?_
 refine then_n ?_
 refine wp_ret ?_
 obtain rfl := Option.some.inj h
 exact b_ret1 S rfl rfl ⟨_, rfl, RepV.mkBool, W.below⟩
def p56 (n : Nat) (x0 : Sl ((Sl (Int)) × Int × Int)) (x1 : Int × Int × (Sl (Int)) × Int) : Option ((Sl ((Sl (Int)) × Int × Int)) × (Int)) :=
 (p38 n x0 x1.2.2.1).bind fun t_7 =>
 if (decide (t_7 < 0)) then (some ((⟨([] : List ((Sl (Int)) × Int × Int)), some 0⟩ : Sl ((Sl (Int)) × Int × Int)), 7)) else (idx x0.xs t_7).bind fun y_13 => if (y_13.2.1 != 1) then (some ((⟨([] : List ((Sl (Int)) × Int × Int)), some 0⟩ : Sl ((Sl (Int)) × Int × Int)), 6)) else (if (x1.2.1 == 2) = true then (p47_66 n x0 x1).bind fun t_23 => some t_23 else some false).bind fun q_22 => if q_22 then (some ((⟨([] : List ((Sl (Int)) × Int × Int)), some 0⟩ : Sl ((Sl (Int)) × Int × Int)), 8)) else (p45 n x0).bind fun t_30 => (idx t_30.xs t_7).bind fun y_39 => (idx (t_30.xs.set t_7.toNat (y_39.1, x1.2.1, y_39.2.2)) t_7).bind fun y_109 => some ((⟨((t_30.xs.set t_7.toNat (y_39.1, x1.2.1, y_39.2.2)).set t_7.toNat (y_109.1, y_109.2.1, x1.2.2.2)), t_30.cap⟩ : Sl ((Sl (Int)) × Int × Int)), 0)
set_option maxHeartbeats 4000000 in
set_option maxRecDepth 100000 in
/-- (plugboard/events.Tree).settle -/
theorem c56 (K : Nat → Prop) (n : Nat) (w : World) (x0 : Sl ((Sl (Int)) × Int × Int)) (v0 : Value) (R0 : RepV (.sl gt0) w K v0 x0) (x1 : Int × Int × (Sl (Int)) × Int) (v1 : Value) (R1 : RepV gt2 w K v1 x1) {r : (Sl ((Sl (Int)) × Int × Int)) × (Int)} (h : p56 n x0 x1 = some r) :
  Calls Try.prog 56 #[v0, v1] w (fun e_ w_ => ∃ v0_ v1_ : Value, e_ = .returned (.tuple #[v0_, v1_]) ∧ Ow gt0 33 w_ w.heap.size (Kx K w.heap.size [v0_.ownBlock]) v0_ r.1.xs r.1.cap ∧ RepV (.int .i64) w_ (Kx K w.heap.size [v0_.ownBlock]) v1_ r.2 ∧ Below w.heap.size w w_) := by
 refine enter (args := [v0, v1]) Try.func56 rfl 46 rfl rfl fun a S => ?_
 have W := Wd.start w
 replace R0 := R0.arg
 replace R1 := R1.arg
 unfold p56 at h
 replace S : St 46 a [(0, v0), (1, v1)] := S
 refine wp_seq ?_
 refine wp_region_lit ?_
 refine w_go S rfl (op_box S rfl rfl rfl rfl rfl R1 ?_)
 clear S; intro a w_3 b_1 hb_4 B_2 S
 replace R0 := R0.box hb_4
 replace R1 := R1.box hb_4
 replace W := W.box hb_4
 refine wl_pureK (l' := [(3, pB b_1), (0, v0)]) S tys tys_ok 2 [3, 0] (by kernel_rfl) ?_
 clear S; intro a S
 refine wpList_nil ?_
 refine then_n ?_
 refine wp_seq ?_
 refine wp_region_lit ?_
 refine wl_pure (l' := [(9, .pointer (some ((⟨b_1, 0, .none⟩ : Addr).add (coff gf2 2)))), (8, v0), (3, pB b_1), (0, v0)]) S tys tys_ok 2 (by kernel_rfl) ?_
 clear S; intro a S
 refine w_go S rfl (op_load (t := (.sl (.int .u8))) (x := x1.2.2.1) S rfl ty25 rfl rfl rfl (RepAt.add 2 (RepAt.st (t := gf2) B_2.at_)) ?_)
 clear S; intro a v_5 R_6 S
 obtain ⟨t_7, et_7, h⟩ := bindS h
 refine w_go S rfl (op_call (vs := [v0, v_5]) S rfl cb38 rfl rfl rfl (c38 (Kx K w.heap.size [some b_1]) n w_3 x0 _ R0 x1.2.2.1 _ R_6 et_7) ?_)
 rintro _ w_11 ⟨v_8, rfl, R_9, hb_10⟩; refine ⟨_, rfl, ?_⟩
 replace R_9 := RepV.back R_9 W
 clear S; intro a S
 replace R0 := R0.step hb_10
 replace R_6 := R_6.step hb_10
 replace B_2 := B_2.step hb_10
 replace W := W.step hb_10
 obtain ⟨rfl, GR_9⟩ := RepV.int R_9
 refine wl_pureK (l' := [(6, .int .i64 t_7), (3, pB b_1), (0, v0)]) S tys tys_ok 1 [6, 3, 0] (by kernel_rfl) ?_
 clear S; intro a S
 refine wpList_nil ?_
 refine then_n ?_
 refine wp_seq ?_
 refine wp_block ?_
 refine wp_seq ?_
 refine wp_region_lit ?_
 refine wl_pure (l' := [(12, .bool (decide (t_7 < 0))), (14, .bool (decide (t_7 < 0))), (13, .int .i64 t_7), (6, .int .i64 t_7), (3, pB b_1), (0, v0)]) S tys tys_ok 3 (by kernel_rfl) ?_
 clear S; intro a S
 refine wpList_nil ?_
 refine then_n ?_
 replace S := S.sub (l' := [(12, .bool (decide (t_7 < 0))), (6, .int .i64 t_7), (3, pB b_1), (0, v0)]) (by exact ⟨rfl, rfl, rfl, rfl, trivial⟩)
 refine wp_cond_split (S.eval (show ev _ _ = some (.bool (decide (t_7 < 0))) from rfl)) ?_ ?_
 ·intro hc
  rw [if_pos hc] at h
  refine wp_seq ?_
  refine wp_region_lit ?_
  refine wl_pureK (l' := [(5, .int .i64 7), (4, .slice .none 0 0)]) S tys tys_ok 2 [5, 4] (by kernel_rfl) ?_
  clear S; intro a S
  refine wpList_nil ?_
  refine then_n ?_
  refine wp_ret ?_
  refine blk_r ?_
  refine then_r ?_
  replace B_2 := B_2.more
  replace W := W.more
  have O_12 : Ow gt0 33 w_11 w.heap.size (Kx K w.heap.size [.none, some b_1]) (.slice .none 0 0) ([] : List ((Sl (Int)) × Int × Int)) (some 0) := Ow.nil
  obtain rfl := Option.some.inj h
  exact b_ret2 S rfl rfl rfl ⟨_, _, rfl, (O_12.lessO 0 rfl), (RepV.mkInt (by decide)), W.below⟩
 ·intro hc
  rw [if_neg (Bool.eq_false_iff.1 hc)] at h
  refine wp_seq ?_
  refine wp_region_lit ?_
  refine wl_pure (l' := [(17, .int .i64 t_7), (16, v0), (12, .bool (decide (t_7 < 0))), (6, .int .i64 t_7), (3, pB b_1), (0, v0)]) S tys tys_ok 2 (by kernel_rfl) ?_
  clear S; intro a S
  obtain ⟨y_13, ey_13, h⟩ := bindS h
  refine w_go S rfl (op_indexAddr S rfl ty23 rfl rfl rfl R0 rfl ey_13 ?_)
  clear S; intro a p_14 R_15 H_16 S
  refine wl_pureK (l' := [(19, .pointer (some (p_14.add (coff gf0 1)))), (6, .int .i64 t_7), (3, pB b_1), (0, v0)]) S tys tys_ok 1 [19, 6, 3, 0] (by kernel_rfl) ?_
  clear S; intro a S
  refine w_go S rfl (op_load (t := (.int .u8)) (x := y_13.2.1) S rfl ty29 rfl rfl rfl (RepAt.add 1 (RepAt.st (t := gf0) R_15)) ?_)
  clear S; intro a v_17 R_18 S
  obtain ⟨rfl, GR_18⟩ := RepV.int R_18
  refine wl_pureK (l' := [(15, .bool (y_13.2.1 != 1)), (6, .int .i64 t_7), (3, pB b_1), (0, v0)]) S tys tys_ok 2 [15, 6, 3, 0] (by kernel_rfl) ?_
  clear S; intro a S
  refine wpList_nil ?_
  refine then_n ?_
  refine wp_cond_split (S.eval (show ev _ _ = some (.bool (y_13.2.1 != 1)) from rfl)) ?_ ?_
  ·intro hc
   rw [if_pos hc] at h
   refine wp_seq ?_
   refine wp_region_lit ?_
   refine wl_pureK (l' := [(5, .int .i64 6), (4, .slice .none 0 0)]) S tys tys_ok 2 [5, 4] (by kernel_rfl) ?_
   clear S; intro a S
   refine wpList_nil ?_
   refine then_n ?_
   refine wp_ret ?_
   refine blk_r ?_
   refine then_r ?_
   replace B_2 := B_2.more
   replace W := W.more
   have O_19 : Ow gt0 33 w_11 w.heap.size (Kx K w.heap.size [.none, some b_1]) (.slice .none 0 0) ([] : List ((Sl (Int)) × Int × Int)) (some 0) := Ow.nil
   obtain rfl := Option.some.inj h
   exact b_ret2 S rfl rfl rfl ⟨_, _, rfl, (O_19.lessO 0 rfl), (RepV.mkInt (by decide)), W.below⟩
  ·intro hc
   rw [if_neg (Bool.eq_false_iff.1 hc)] at h
   refine wp_seq ?_
   refine wp_region_lit ?_
   refine wl_pure (l' := [(23, .pointer (some ((⟨b_1, 0, .none⟩ : Addr).add (coff gf2 1)))), (15, .bool (y_13.2.1 != 1)), (6, .int .i64 t_7), (3, pB b_1), (0, v0)]) S tys tys_ok 1 (by kernel_rfl) ?_
   clear S; intro a S
   refine w_go S rfl (op_load (t := (.int .u8)) (x := x1.2.1) S rfl ty29 rfl rfl rfl (RepAt.add 1 (RepAt.st (t := gf2) B_2.at_)) ?_)
   clear S; intro a v_20 R_21 S
   obtain ⟨rfl, GR_21⟩ := RepV.int R_21
   refine wl_pureK (l' := [(26, .bool (x1.2.1 == 2)), (6, .int .i64 t_7), (3, pB b_1), (0, v0)]) S tys tys_ok 2 [26, 6, 3, 0] (by kernel_rfl) ?_
   clear S; intro a S
   obtain ⟨q_22, eq_22, h⟩ := bindS h
   refine seg 4 (fun a_ w_ => St 46 a_ [(30, .bool q_22), (6, .int .i64 t_7), (3, pB b_1), (0, v0)] ∧ Wd w w_ [some b_1] ∧ RepV (.sl gt0) w_ (Kx K w.heap.size [some b_1]) v0 x0 ∧ Bx gt2 31 w_ (Kx K w.heap.size [some b_1]) b_1 x1) ?_ ?_
   ·by_cases hc : (x1.2.1 == 2) = true
    ·rw [if_pos hc] at eq_22; rw [hc] at S
     refine wl_pure (l' := [(27, v0), (26, .bool true), (6, .int .i64 t_7), (3, pB b_1), (0, v0)]) S tys tys_ok 1 (by kernel_rfl) ?_
     clear S; intro a S
     refine w_go S rfl (op_mkfn (vs := []) (us := [pB b_1]) S rfl rfl rfl rfl rfl ?_)
     clear S; intro a S
     obtain ⟨t_23, et_23, eq_22⟩ := bindS eq_22
     refine w_go S rfl (op_call (vs := [v0, .func (.func 66) #[] #[pB b_1]]) S rfl cb47 rfl rfl rfl (c47_66 (Kx K w.heap.size [some b_1]) n w_11 x0 _ R0 _ x1 (Bx.br B_2) et_23) ?_)
     rintro _ w_27 ⟨v_24, rfl, R_25, hb_26⟩; refine ⟨_, rfl, ?_⟩
     replace R_25 := RepV.back R_25 W
     clear S; intro a S
     replace R0 := R0.step hb_26
     replace B_2 := B_2.step hb_26
     replace W := W.step hb_26
     obtain rfl := RepV.bool R_25
     refine wl_pureK (l' := [(30, .bool t_23), (6, .int .i64 t_7), (3, pB b_1), (0, v0)]) S tys tys_ok 1 [30, 6, 3, 0] (by kernel_rfl) ?_
     clear S; intro a S
     obtain rfl := Option.some.inj eq_22
     exact ⟨S.sub (by exact ⟨rfl, rfl, rfl, rfl, trivial⟩), W, R0, B_2⟩
    ·rw [if_neg hc] at eq_22; rw [show (x1.2.1 == 2) = false from Bool.eq_false_iff.2 hc] at S
     refine wl_pureK (l' := [(30, .bool false), (6, .int .i64 t_7), (3, pB b_1), (0, v0)]) S tys tys_ok 4 [30, 6, 3, 0] (by kernel_rfl) ?_
     clear S; intro a S
     obtain rfl := Option.some.inj eq_22
     exact ⟨S.sub (by exact ⟨rfl, rfl, rfl, rfl, trivial⟩), W, R0, B_2⟩
   clear S W eq_22; rintro a w_28 ⟨S, W, R0, B_2⟩
   refine wl_pure (l' := [(22, .bool q_22), (30, .bool q_22), (6, .int .i64 t_7), (3, pB b_1), (0, v0)]) S tys tys_ok 1 (by kernel_rfl) ?_
   clear S; intro a S
   refine wpList_nil ?_
   refine then_n ?_
   replace S := S.sub (l' := [(22, .bool q_22), (6, .int .i64 t_7), (3, pB b_1), (0, v0)]) (by exact ⟨rfl, rfl, rfl, rfl, trivial⟩)
   refine wp_cond_split (S.eval (show ev _ _ = some (.bool q_22) from rfl)) ?_ ?_
   ·intro hc
    rw [if_pos hc] at h
    refine wp_seq ?_
    refine wp_region_lit ?_
    refine wl_pureK (l' := [(5, .int .i64 8), (4, .slice .none 0 0)]) S tys tys_ok 2 [5, 4] (by kernel_rfl) ?_
    clear S; intro a S
    refine wpList_nil ?_
    refine then_n ?_
    refine wp_ret ?_
    refine blk_r ?_
    refine then_r ?_
    replace B_2 := B_2.more
    replace W := W.more
    have O_29 : Ow gt0 33 w_28 w.heap.size (Kx K w.heap.size [.none, some b_1]) (.slice .none 0 0) ([] : List ((Sl (Int)) × Int × Int)) (some 0) := Ow.nil
    obtain rfl := Option.some.inj h
    exact b_ret2 S rfl rfl rfl ⟨_, _, rfl, (O_29.lessO 0 rfl), (RepV.mkInt (by decide)), W.below⟩
   ·intro hc
    rw [if_neg (Bool.eq_false_iff.1 hc)] at h
    refine wp_skip ?_
    refine blk_n ?_
    refine then_n ?_
    replace S := S.sub (l' := [(6, .int .i64 t_7), (3, pB b_1), (0, v0)]) (by exact ⟨rfl, rfl, rfl, trivial⟩)
    refine wp_seq ?_
    refine wp_region_lit ?_
    refine wl_pure (l' := [(31, v0), (6, .int .i64 t_7), (3, pB b_1), (0, v0)]) S tys tys_ok 1 (by kernel_rfl) ?_
    clear S; intro a S
    obtain ⟨t_30, et_30, h⟩ := bindS h
    refine w_go S rfl (op_call (vs := [v0]) S rfl cb45 rfl rfl rfl (c45 (Kx K w.heap.size [some b_1]) n w_28 x0 _ R0 et_30) ?_)
    rintro _ w_34 ⟨v_31, rfl, R_32, hb_33⟩; refine ⟨_, rfl, ?_⟩
    have NO_ := newO_of R_32 (Nat.le_refl _) hb_33
    replace R_32 := Ow.backO R_32 W
    clear S; intro a S
    replace R0 := R0.newO NO_
    replace B_2 := B_2.newO NO_
    replace W := W.newO NO_
    clear NO_
    refine wl_pureK (l' := [(7, v_31), (6, .int .i64 t_7), (3, pB b_1)]) S tys tys_ok 1 [7, 6, 3] (by kernel_rfl) ?_
    clear S; intro a S
    refine wpList_nil ?_
    refine then_n ?_
    refine wp_seq ?_
    obtain ⟨y_39, ey_39, h⟩ := bindS h
    obtain ⟨gb_43, hgb_44⟩ := Ow.blk R_32 ey_39
    have hbL_ : some gb_43 ∈ [v_31.ownBlock, some b_1] := by rw [← hgb_44]; exact List.mem_of_getElem? (i := 0) rfl
    skip
    have ne_b_1 : b_1 ≠ gb_43 := (by have h_ := W.one (p := 0) (q := 1) (by decide) rfl rfl; exact fun e_ => h_ (by rw [e_]; exact hgb_44))
    have hlt_ : gb_43 < w_34.heap.size := (W.own _ hbL_).2
    refine wp_region_sto 11 [11, 11, 11, 11, 11, 11, 11, 11, 11, 11, 11, 12, 13] w [] [v_31.ownBlock, some b_1] 10 gb_43 (PhO gt0 33 w.heap.size K w.heap.size [] [v_31.ownBlock, some b_1] v_31 (t_30.xs.set t_7.toNat (y_39.1, x1.2.1, y_39.2.2)) t_30.cap) (PhO.stab hbL_) [eqvG (v_31), isIG .i64 t_7, eqvG (v_31), isIG .i64 t_7, eqvG (.pointer (some ((⟨b_1, 0, .none⟩ : Addr).add (coff gf2 1)))), isIG .u8 x1.2.1, eqvG (.pointer (some ((⟨b_1, 0, .none⟩ : Addr).add (coff gf2 3)))), isIG .u8 x1.2.2.2, isOeG v_31 (GT.sz gt0) t_7, isOfG v_31 (GT.sz gt0) t_7 (coff gf0 1), isStG 10] [[], [], [], [], [], [(4, 37)], [], [(6, 39)], [(0, 33), (1, 34)], [(8, 41)], [(9, 42), (5, 38)]] (by kernel_rfl) (by rw [S.size]; kernel_rfl) (by kernel_rfl) (by kernel_rfl) (by kernel_rfl) rfl ⟨(stabGs_eqv _), stabGs_I, (stabGs_eqv _), stabGs_I, (stabGs_eqv _), stabGs_I, (stabGs_eqv _), stabGs_I, stabGs_oe, stabGs_of, stabGs_st, trivial⟩ ?_ ?_
    ·
     refine RunAllG.cons (eqvG (v_31)) [] rfl rfl ?_ ?_
     ·intro M_ W_ hW hU_ hV_
      have S1 := S
      exact RPostS.one (v := v_31) S1 tys tys_ok rfl (by kernel_rfl) S.defers rfl (Below.refl _ _)
     refine RunAllG.cons (isIG .i64 t_7) [] rfl rfl ?_ ?_
     ·intro M_ W_ hW hU_ hV_
      have S1 := S
      exact RPostS.one (v := .int .i64 t_7) S1 tys tys_ok rfl (by kernel_rfl) S.defers ⟨rfl, GR_9⟩ (Below.refl _ _)
     refine RunAllG.cons (eqvG (v_31)) [] rfl rfl ?_ ?_
     ·intro M_ W_ hW hU_ hV_
      have S1 := S
      exact RPostS.one (v := v_31) S1 tys tys_ok rfl (by kernel_rfl) S.defers rfl (Below.refl _ _)
     refine RunAllG.cons (isIG .i64 t_7) [] rfl rfl ?_ ?_
     ·intro M_ W_ hW hU_ hV_
      have S1 := S
      exact RPostS.one (v := .int .i64 t_7) S1 tys tys_ok rfl (by kernel_rfl) S.defers ⟨rfl, GR_9⟩ (Below.refl _ _)
     refine RunAllG.cons (eqvG (.pointer (some ((⟨b_1, 0, .none⟩ : Addr).add (coff gf2 1))))) [] rfl rfl ?_ ?_
     ·intro M_ W_ hW hU_ hV_
      have S1 := S
      replace B_2 : Bx gt2 31 W_ (Kx K w.heap.size (lm [] [v_31.ownBlock, some b_1] M_)) b_1 x1 := Bx.gs (g := (fun _ => none, w_34)) (Bx.lm0 B_2) hW hbL_ (fun e_ => absurd e_ ne_b_1)
      exact RPostS.one (v := .pointer (some ((⟨b_1, 0, .none⟩ : Addr).add (coff gf2 1)))) S1 tys tys_ok rfl (by kernel_rfl) S.defers rfl (Below.refl _ _)
     refine RunAllG.cons (isIG .u8 x1.2.1) [(eqvG (.pointer (some ((⟨b_1, 0, .none⟩ : Addr).add (coff gf2 1)))), 37)] rfl rfl ?_ ?_
     ·intro M_ W_ hW hU_ hV_
      have S1 := S
      intro v_47 hF_46; obtain rfl : .pointer (some ((⟨b_1, 0, .none⟩ : Addr).add (coff gf2 1))) = v_47 := Eq.symm hF_46
      replace S1 := S1.put (by decide : 37 < 46) (.pointer (some ((⟨b_1, 0, .none⟩ : Addr).add (coff gf2 1))))
      refine fillG_nil S1 ?_; clear S1; intro a_ S1
      replace B_2 : Bx gt2 31 W_ (Kx K w.heap.size (lm [] [v_31.ownBlock, some b_1] M_)) b_1 x1 := Bx.gs (g := (fun _ => none, w_34)) (Bx.lm0 B_2) hW hbL_ (fun e_ => absurd e_ ne_b_1)
      have S0 := S.defers; replace S := S1; clear S1
      refine w_go S rfl (op_load (t := (.int .u8)) (x := x1.2.1) S rfl ty29 rfl rfl rfl (RepAt.add 1 (RepAt.st (t := gf2) B_2.at_)) ?_)
      clear S; intro a v_48 R_49 S
      obtain ⟨rfl, GR_49⟩ := RepV.int R_49
      refine wpList_nil ?_
      exact RPostS.mk_ S rfl S0 ⟨rfl, GR_49⟩ (Below.refl _ _)
     refine RunAllG.cons (eqvG (.pointer (some ((⟨b_1, 0, .none⟩ : Addr).add (coff gf2 3))))) [] rfl rfl ?_ ?_
     ·intro M_ W_ hW hU_ hV_
      have S1 := S
      replace B_2 : Bx gt2 31 W_ (Kx K w.heap.size (lm [] [v_31.ownBlock, some b_1] M_)) b_1 x1 := Bx.gs (g := (fun _ => none, w_34)) (Bx.lm0 B_2) hW hbL_ (fun e_ => absurd e_ ne_b_1)
      exact RPostS.one (v := .pointer (some ((⟨b_1, 0, .none⟩ : Addr).add (coff gf2 3)))) S1 tys tys_ok rfl (by kernel_rfl) S.defers rfl (Below.refl _ _)
     refine RunAllG.cons (isIG .u8 x1.2.2.2) [(eqvG (.pointer (some ((⟨b_1, 0, .none⟩ : Addr).add (coff gf2 3)))), 39)] rfl rfl ?_ ?_
     ·intro M_ W_ hW hU_ hV_
      have S1 := S
      intro v_52 hF_51; obtain rfl : .pointer (some ((⟨b_1, 0, .none⟩ : Addr).add (coff gf2 3))) = v_52 := Eq.symm hF_51
      replace S1 := S1.put (by decide : 39 < 46) (.pointer (some ((⟨b_1, 0, .none⟩ : Addr).add (coff gf2 3))))
      refine fillG_nil S1 ?_; clear S1; intro a_ S1
      replace B_2 : Bx gt2 31 W_ (Kx K w.heap.size (lm [] [v_31.ownBlock, some b_1] M_)) b_1 x1 := Bx.gs (g := (fun _ => none, w_34)) (Bx.lm0 B_2) hW hbL_ (fun e_ => absurd e_ ne_b_1)
      have S0 := S.defers; replace S := S1; clear S1
      refine w_go S rfl (op_load (t := (.int .u8)) (x := x1.2.2.2) S rfl ty5 rfl rfl rfl (RepAt.add 3 (RepAt.st (t := gf2) B_2.at_)) ?_)
      clear S; intro a v_53 R_54 S
      obtain ⟨rfl, GR_54⟩ := RepV.int R_54
      refine wpList_nil ?_
      exact RPostS.mk_ S rfl S0 ⟨rfl, GR_54⟩ (Below.refl _ _)
     refine RunAllG.cons (isOeG v_31 (GT.sz gt0) t_7) [(eqvG (v_31), 33), (isIG .i64 t_7, 34)] rfl rfl ?_ ?_
     ·intro M_ W_ hW hU_ hV_
      have S1 := S
      intro v_57 hF_56; obtain rfl : v_31 = v_57 := Eq.symm hF_56
      replace S1 := S1.put (by decide : 33 < 46) (v_31)
      rintro _ ⟨rfl, hF_59⟩
      replace S1 := S1.put (by decide : 34 < 46) (.int .i64 t_7)
      refine fillG_nil S1 ?_; clear S1; intro a_ S1
      replace R_32 : Ow gt0 33 W_ w.heap.size (Kx K w.heap.size (lm [] [v_31.ownBlock, some b_1] M_)) v_31 t_30.xs t_30.cap := Ow.gs (g := (fun _ => none, w_34)) (Ow.lm0 R_32) hW hbL_ (fun _ => .inr (hV_ 12 10 (by kernel_rfl)))
      replace W : Wd w W_ (lm [] [v_31.ownBlock, some b_1] M_) := Gs.wd' hW (Wd.lm0 _ W)
      have S0 := S.defers; replace S := S1; clear S1
      refine w_go S rfl (op_indexAddr_own S rfl ty23 rfl rfl rfl R_32 rfl ey_39 ?_)
      clear S; intro a g_61 H_63 R_62 S
      refine wpList_nil ?_
      exact RPostS.mk_ S rfl S0 ⟨_, H_63, rfl⟩ (Below.refl _ _)
     refine RunAllG.cons (isOfG v_31 (GT.sz gt0) t_7 (coff gf0 1)) [(isOeG v_31 (GT.sz gt0) t_7, 41)] rfl rfl ?_ ?_
     ·intro M_ W_ hW hU_ hV_
      have S1 := S
      rintro _ ⟨g_65, H_66, rfl⟩
      replace S1 := S1.put (by decide : 41 < 46) (.pointer (some (⟨g_65, t_7.toNat * GT.sz gt0, .none⟩ : Addr)))
      exact RPostS.one (v := .pointer (some ((⟨g_65, t_7.toNat * GT.sz gt0, .none⟩ : Addr).add (coff gf0 1)))) S1 tys tys_ok rfl (by kernel_rfl) S.defers ⟨_, H_66, rfl⟩ (Below.refl _ _)
     refine RunAllG.cons (isStG 10) [(isOfG v_31 (GT.sz gt0) t_7 (coff gf0 1), 42), (isIG .u8 x1.2.1, 38)] rfl rfl ?_ ?_
     ·intro M_ W_ hW hU_ hV_
      have S1 := S
      rintro _ ⟨g_68, H_69, rfl⟩
      replace S1 := S1.put (by decide : 42 < 46) (.pointer (some ((⟨g_68, t_7.toNat * GT.sz gt0, .none⟩ : Addr).add (coff gf0 1))))
      rintro _ ⟨rfl, hF_71⟩
      replace S1 := S1.put (by decide : 38 < 46) (.int .u8 x1.2.1)
      refine fillG_nil S1 ?_; clear S1; intro a_ S1
      replace R_32 : Ow gt0 33 W_ w.heap.size (Kx K w.heap.size (lm [] [v_31.ownBlock, some b_1] M_)) v_31 t_30.xs t_30.cap := Ow.gs (g := (fun _ => none, w_34)) (Ow.lm0 R_32) hW hbL_ (fun _ => .inr hU_)
      have RH_69 : RepAt gt0 W_ (Kx K w.heap.size (lm [] [v_31.ownBlock, some b_1] M_)) (⟨g_68, t_7.toNat * GT.sz gt0, .none⟩ : Addr) y_39 := Ow.elt R_32 H_69 ey_39
      have S0 := S.defers; replace S := S1; clear S1
      refine w_go S rfl (op_store_own (t' := (.int .u8)) S rfl rfl ty29 rfl (addr_add _ _ _) rfl R_32 H_69 0 rfl (idx_some ey_39).2.1 (Ln.st (Ln.comp 1)) ((RepV.mkInt hF_71) : RepV (.int .u8) W_ (Kx K w.heap.size (lm [] [v_31.ownBlock, some b_1] M_)) _ x1.2.1) ?_)
      intro w_73 hw_74 hm_76 O_75
      refine wpList_nil ?_
      exact RPostS.sto S S0 (by have e_ := Option.some.inj (Eq.trans (Eq.symm H_69) hgb_44); rw [← e_]; exact hw_74) hU_ (by decide) (lm_right hbL_) (show Ow gt0 33 w_73 w.heap.size (Kx K w.heap.size (lm [] [v_31.ownBlock, some b_1] (gupd M_ 10 none))) v_31 (t_30.xs.set t_7.toNat (y_39.1, x1.2.1, y_39.2.2)) t_30.cap by rw [lm_oth (by decide)]; exact O_75)
     exact trivial
    intro M_ w_77 hb_78
    refine EndEG.some_ rfl ?_
    intro v_81 hF_80; obtain rfl : v_31 = v_81 := Eq.symm hF_80
    replace S := S.put (by decide : 33 < 46) (v_31)
    refine EndEG.some_ rfl ?_
    rintro _ ⟨rfl, hF_83⟩
    replace S := S.put (by decide : 34 < 46) (.int .i64 t_7)
    refine EndEG.some_ rfl ?_
    intro v_87 hF_86; obtain rfl : v_31 = v_87 := Eq.symm hF_86
    replace S := S.put (by decide : 35 < 46) (v_31)
    refine EndEG.some_ rfl ?_
    rintro _ ⟨rfl, hF_89⟩
    replace S := S.put (by decide : 36 < 46) (.int .i64 t_7)
    refine EndEG.some_ rfl ?_
    intro v_93 hF_92; obtain rfl : .pointer (some ((⟨b_1, 0, .none⟩ : Addr).add (coff gf2 1))) = v_93 := Eq.symm hF_92
    replace S := S.put (by decide : 37 < 46) (.pointer (some ((⟨b_1, 0, .none⟩ : Addr).add (coff gf2 1))))
    refine EndEG.some_ rfl ?_
    rintro _ ⟨rfl, hF_95⟩
    replace S := S.put (by decide : 38 < 46) (.int .u8 x1.2.1)
    refine EndEG.some_ rfl ?_
    intro v_99 hF_98; obtain rfl : .pointer (some ((⟨b_1, 0, .none⟩ : Addr).add (coff gf2 3))) = v_99 := Eq.symm hF_98
    replace S := S.put (by decide : 39 < 46) (.pointer (some ((⟨b_1, 0, .none⟩ : Addr).add (coff gf2 3))))
    refine EndEG.some_ rfl ?_
    rintro _ ⟨rfl, hF_101⟩
    replace S := S.put (by decide : 40 < 46) (.int .u8 x1.2.2.2)
    refine EndEG.some_ rfl ?_
    rintro _ ⟨g_104, H_105, rfl⟩
    replace S := S.put (by decide : 41 < 46) (.pointer (some (⟨g_104, t_7.toNat * GT.sz gt0, .none⟩ : Addr)))
    refine EndEG.some_ rfl ?_
    rintro _ ⟨g_107, H_108, rfl⟩
    replace S := S.put (by decide : 42 < 46) (.pointer (some ((⟨g_107, t_7.toNat * GT.sz gt0, .none⟩ : Addr).add (coff gf0 1))))
    refine EndEG.none_ rfl ?_; intro hst_
    refine endEG_nil S ?_; clear S; intro a S
    replace hst_ : M_ 10 = some none := hst_
    have hF_ := Gs.sto hb_78 rfl (by show M_ 10 ≠ none; rw [hst_]; simp)
    replace B_2 : Bx gt2 31 w_77 (Kx K w.heap.size (lm [] [v_31.ownBlock, some b_1] M_)) b_1 x1 := Bx.gs (g := (fun _ => none, w_34)) (Bx.lm0 B_2) hb_78 hbL_ (fun e_ => absurd e_ ne_b_1)
    replace R_32 : Ow gt0 33 w_77 w.heap.size (Kx K w.heap.size (lm [] [v_31.ownBlock, some b_1] M_)) v_31 (t_30.xs.set t_7.toNat (y_39.1, x1.2.1, y_39.2.2)) t_30.cap := hF_
    replace W : Wd w w_77 (lm [] [v_31.ownBlock, some b_1] M_) := Gs.wd' hb_78 (Wd.lm0 _ W)
    have eL_ : lm [] [v_31.ownBlock, some b_1] M_ = [v_31.ownBlock, some b_1] := by simp [lm, ]
    rw [eL_] at W
    rw [eL_] at B_2
    rw [eL_] at R_32
    clear eL_
    replace S := S.sub (l' := [(40, .int .u8 x1.2.2.2), (39, .pointer (some ((⟨b_1, 0, .none⟩ : Addr).add (coff gf2 3)))), (38, .int .u8 x1.2.1), (37, .pointer (some ((⟨b_1, 0, .none⟩ : Addr).add (coff gf2 1)))), (36, .int .i64 t_7), (35, v_31), (34, .int .i64 t_7), (33, v_31), (7, v_31), (6, .int .i64 t_7), (3, pB b_1)]) (by exact ⟨rfl, rfl, rfl, rfl, rfl, rfl, rfl, rfl, rfl, rfl, rfl, trivial⟩)
    obtain ⟨y_109, ey_109, h⟩ := bindS h
    refine w_go S rfl (op_indexAddr_own S rfl ty23 rfl rfl rfl R_32 rfl ey_109 ?_)
    clear S; intro a g_110 H_112 R_111 S
    refine wl_pureK (l' := [(44, .pointer (some ((⟨g_110, t_7.toNat * GT.sz gt0, .none⟩ : Addr).add (coff gf0 2)))), (40, .int .u8 x1.2.2.2), (7, v_31)]) S tys tys_ok 1 [44, 40, 7] (by kernel_rfl) ?_
    clear S; intro a S
    refine w_go S rfl (op_store_own (t' := (.int .u8)) S rfl rfl ty5 rfl (addr_add _ _ _) rfl R_32 H_112 0 rfl (idx_some ey_109).2.1 (Ln.st (Ln.comp 2)) ((RepV.mkInt hF_101) : RepV (.int .u8) w_77 (Kx K w.heap.size [v_31.ownBlock, some b_1]) _ x1.2.2.2) ?_)
    intro w_113 hw_114 hm_116 O_115
    replace B_2 := B_2.wrote hw_114 hm_116 (by have h_ := W.one (p := 0) (q := 1) (by decide) rfl rfl; exact fun e_ => h_ (by rw [e_]; exact H_112))
    replace W := W.wrote hw_114 hm_116
    replace O_115 : Ow gt0 33 w_113 w.heap.size (Kx K w.heap.size [v_31.ownBlock, some b_1]) v_31 ((t_30.xs.set t_7.toNat (y_39.1, x1.2.1, y_39.2.2)).set t_7.toNat (y_109.1, y_109.2.1, x1.2.2.2)) t_30.cap := O_115
    refine wpList_nil ?_
    refine then_n ?_
    replace S := S.sub (l' := [(7, v_31)]) (by exact ⟨rfl, trivial⟩)
    refine wp_seq ?_
    refine wp_region_lit ?_
    refine wl_pure (l' := [(5, .int .i64 0), (4, v_31), (45, v_31), (7, v_31)]) S tys tys_ok 3 (by kernel_rfl) ?_
    clear S; intro a S
    refine wpList_nil ?_
    refine then_n ?_
    replace S := S.sub (l' := [(5, .int .i64 0), (4, v_31)]) (by exact ⟨rfl, rfl, trivial⟩)
    refine wp_ret ?_
    obtain rfl := Option.some.inj h
    exact b_ret2 S rfl rfl rfl ⟨_, _, rfl, (O_115.lessO 0 rfl), (RepV.mkInt (by decide)), W.below⟩
theorem cb56 : callB Try.prog 56 = true := by kernel_rfl
def p30 (n : Nat) (x0 : Sl ((Sl (Int)) × Int × Int)) (x1 : Int × Int × (Sl (Int)) × Int) : Option ((Sl ((Sl (Int)) × Int × Int)) × (Int)) :=
 (if (decide (x1.2.1 < 1)) = false then some (decide (x1.2.1 > 4)) else some true).bind fun q_7 =>
 (if q_7 = false then (p32 n x1.2.2.1).bind fun t_13 => some (!t_13) else some true).bind fun q_10 =>
 (if q_10 = false then (p33 n x1.2.1 x1.2.2.2).bind fun t_24 => some (!t_24) else some true).bind fun q_19 =>
 if q_19 then (some ((⟨[], some 0⟩ : Sl ((Sl (Int)) × Int × Int)), 1)) else (if (x1.2.1 == 1) then ((p54 n x0 x1.2.2.1).bind fun t_88 => some (t_88.2, t_88.1.xs)) else (if (x1.2.1 == 4) then ((p55 n x0 x1.2.2.1).bind fun t_119 => some (t_119.2, t_119.1.xs)) else (p56 n x0 x1).bind fun t_128 => some (t_128.2, t_128.1.xs)).bind fun (j_113 : (Int) × (List ((Sl (Int)) × Int × Int))) => some (j_113.1, j_113.2)).bind fun (j_82 : (Int) × (List ((Sl (Int)) × Int × Int))) => if (j_82.1 != 0) then (some ((⟨[], some 0⟩ : Sl ((Sl (Int)) × Int × Int)), j_82.1)) else (p45 n (⟨j_82.2, .none⟩ : Sl ((Sl (Int)) × Int × Int))).bind fun t_138 => some ((⟨t_138.xs, t_138.cap⟩ : Sl ((Sl (Int)) × Int × Int)), 0)
set_option maxHeartbeats 4000000 in
set_option maxRecDepth 100000 in
/-- (plugboard/events.Tree).apply -/
theorem c30 (K : Nat → Prop) (n : Nat) (w : World) (x0 : Sl ((Sl (Int)) × Int × Int)) (v0 : Value) (R0 : RepV (.sl gt0) w K v0 x0) (x1 : Int × Int × (Sl (Int)) × Int) (v1 : Value) (R1 : RepV gt2 w K v1 x1) {r : (Sl ((Sl (Int)) × Int × Int)) × (Int)} (h : p30 n x0 x1 = some r) :
  Calls Try.prog 30 #[v0, v1] w (Ret2 (.sl gt0) (.int .i64) w (Kx K w.heap.size []) r) := by
 refine enter (args := [v0, v1]) Try.func30 rfl 61 rfl rfl fun a S => ?_
 have W := Wd.start w
 replace R0 := R0.arg
 replace R1 := R1.arg
 unfold p30 at h
 replace S : St 61 a [(0, v0), (1, v1)] := S
 refine wp_seq ?_
 refine wp_region_lit ?_
 refine w_go S rfl (op_box S rfl rfl rfl rfl rfl R1 ?_)
 clear S; intro a w_3 b_1 hb_4 B_2 S
 replace R0 := R0.box hb_4
 replace R1 := R1.box hb_4
 replace W := W.box hb_4
 refine wl_pureK (l' := [(3, pB b_1), (0, v0)]) S tys tys_ok 2 [3, 0] (by kernel_rfl) ?_
 clear S; intro a S
 refine wpList_nil ?_
 refine then_n ?_
 refine wp_seq ?_
 refine wp_seq ?_
 refine wp_region_lit ?_
 refine wl_pure (l' := [(8, .pointer (some ((⟨b_1, 0, .none⟩ : Addr).add (coff gf2 1)))), (3, pB b_1), (0, v0)]) S tys tys_ok 1 (by kernel_rfl) ?_
 clear S; intro a S
 refine w_go S rfl (op_load (t := (.int .u8)) (x := x1.2.1) S rfl ty29 rfl rfl rfl (RepAt.add 1 (RepAt.st (t := gf2) B_2.at_)) ?_)
 clear S; intro a v_5 R_6 S
 obtain ⟨rfl, GR_6⟩ := RepV.int R_6
 refine wl_pureK (l' := [(11, .bool (decide (x1.2.1 < 1))), (3, pB b_1), (0, v0)]) S tys tys_ok 2 [11, 3, 0] (by kernel_rfl) ?_
 clear S; intro a S
 obtain ⟨q_7, eq_7, h⟩ := bindS h
 refine seg 4 (fun a_ w_ => w_3 = w_ ∧ St 61 a_ [(15, .bool q_7), (3, pB b_1), (0, v0)]) ?_ ?_
 ·by_cases hc : (decide (x1.2.1 < 1)) = false
  ·rw [if_pos hc] at eq_7; rw [hc] at S
   refine wl_pure (l' := [(12, .pointer (some ((⟨b_1, 0, .none⟩ : Addr).add (coff gf2 1)))), (11, .bool false), (3, pB b_1), (0, v0)]) S tys tys_ok 1 (by kernel_rfl) ?_
   clear S; intro a S
   refine w_go S rfl (op_load (t := (.int .u8)) (x := x1.2.1) S rfl ty29 rfl rfl rfl (RepAt.add 1 (RepAt.st (t := gf2) B_2.at_)) ?_)
   clear S; intro a v_8 R_9 S
   obtain ⟨rfl, GR_9⟩ := RepV.int R_9
   refine wl_pureK (l' := [(15, .bool (decide (x1.2.1 > 4))), (3, pB b_1), (0, v0)]) S tys tys_ok 2 [15, 3, 0] (by kernel_rfl) ?_
   clear S; intro a S
   obtain rfl := Option.some.inj eq_7
   exact ⟨rfl, S.sub (by exact ⟨rfl, rfl, rfl, trivial⟩)⟩
  ·rw [if_neg hc] at eq_7; rw [show (decide (x1.2.1 < 1)) = true from (by simpa using hc)] at S
   refine wl_pureK (l' := [(15, .bool true), (3, pB b_1), (0, v0)]) S tys tys_ok 4 [15, 3, 0] (by kernel_rfl) ?_
   clear S; intro a S
   obtain rfl := Option.some.inj eq_7
   exact ⟨rfl, S.sub (by exact ⟨rfl, rfl, rfl, trivial⟩)⟩
 clear S eq_7; rintro a _ ⟨rfl, S⟩
 refine wl_pure (l' := [(16, .bool q_7), (15, .bool q_7), (3, pB b_1), (0, v0)]) S tys tys_ok 1 (by kernel_rfl) ?_
 clear S; intro a S
 obtain ⟨q_10, eq_10, h⟩ := bindS h
 refine seg 5 (fun a_ w_ => St 61 a_ [(21, .bool q_10), (3, pB b_1), (0, v0)] ∧ Wd w w_ [some b_1] ∧ RepV (.sl gt0) w_ (Kx K w.heap.size [some b_1]) v0 x0 ∧ Bx gt2 31 w_ (Kx K w.heap.size [some b_1]) b_1 x1) ?_ ?_
 ·by_cases hc : q_7 = false
  ·rw [if_pos hc] at eq_10; rw [hc] at S
   refine wl_pure (l' := [(17, .pointer (some ((⟨b_1, 0, .none⟩ : Addr).add (coff gf2 2)))), (16, .bool false), (15, .bool false), (3, pB b_1), (0, v0)]) S tys tys_ok 1 (by kernel_rfl) ?_
   clear S; intro a S
   refine w_go S rfl (op_load (t := (.sl (.int .u8))) (x := x1.2.2.1) S rfl ty25 rfl rfl rfl (RepAt.add 2 (RepAt.st (t := gf2) B_2.at_)) ?_)
   clear S; intro a v_11 R_12 S
   obtain ⟨t_13, et_13, eq_10⟩ := bindS eq_10
   refine w_go S rfl (op_call (vs := [v_11]) S rfl cb32 rfl rfl rfl (c32 (Kx K w.heap.size [some b_1]) n w_3 x1.2.2.1 _ R_12 et_13) ?_)
   rintro _ w_17 ⟨v_14, rfl, R_15, hb_16⟩; refine ⟨_, rfl, ?_⟩
   replace R_15 := RepV.back R_15 W
   clear S; intro a S
   replace R0 := R0.step hb_16
   replace R_12 := R_12.step hb_16
   replace B_2 := B_2.step hb_16
   replace W := W.step hb_16
   obtain rfl := RepV.bool R_15
   refine wl_pureK (l' := [(21, .bool (!t_13)), (3, pB b_1), (0, v0)]) S tys tys_ok 2 [21, 3, 0] (by kernel_rfl) ?_
   clear S; intro a S
   obtain rfl := Option.some.inj eq_10
   exact ⟨S.sub (by exact ⟨rfl, rfl, rfl, trivial⟩), W, R0, B_2⟩
  ·rw [if_neg hc] at eq_10; rw [show q_7 = true from (by simpa using hc)] at S
   refine wl_pureK (l' := [(21, .bool true), (3, pB b_1), (0, v0)]) S tys tys_ok 5 [21, 3, 0] (by kernel_rfl) ?_
   clear S; intro a S
   obtain rfl := Option.some.inj eq_10
   exact ⟨S.sub (by exact ⟨rfl, rfl, rfl, trivial⟩), W, R0, B_2⟩
 clear S W eq_10; rintro a w_18 ⟨S, W, R0, B_2⟩
 refine wl_pure (l' := [(22, .bool q_10), (21, .bool q_10), (3, pB b_1), (0, v0)]) S tys tys_ok 1 (by kernel_rfl) ?_
 clear S; intro a S
 obtain ⟨q_19, eq_19, h⟩ := bindS h
 refine seg 7 (fun a_ w_ => St 61 a_ [(29, .bool q_19), (3, pB b_1), (0, v0)] ∧ Wd w w_ [some b_1] ∧ RepV (.sl gt0) w_ (Kx K w.heap.size [some b_1]) v0 x0 ∧ Bx gt2 31 w_ (Kx K w.heap.size [some b_1]) b_1 x1) ?_ ?_
 ·by_cases hc : q_10 = false
  ·rw [if_pos hc] at eq_19; rw [hc] at S
   refine wl_pure (l' := [(23, .pointer (some ((⟨b_1, 0, .none⟩ : Addr).add (coff gf2 1)))), (22, .bool false), (21, .bool false), (3, pB b_1), (0, v0)]) S tys tys_ok 1 (by kernel_rfl) ?_
   clear S; intro a S
   refine w_go S rfl (op_load (t := (.int .u8)) (x := x1.2.1) S rfl ty29 rfl rfl rfl (RepAt.add 1 (RepAt.st (t := gf2) B_2.at_)) ?_)
   clear S; intro a v_20 R_21 S
   obtain ⟨rfl, GR_21⟩ := RepV.int R_21
   refine wl_pure (l' := [(25, .pointer (some ((⟨b_1, 0, .none⟩ : Addr).add (coff gf2 3)))), (24, .int .u8 x1.2.1), (23, .pointer (some ((⟨b_1, 0, .none⟩ : Addr).add (coff gf2 1)))), (22, .bool false), (21, .bool false), (3, pB b_1), (0, v0)]) S tys tys_ok 1 (by kernel_rfl) ?_
   clear S; intro a S
   refine w_go S rfl (op_load (t := (.int .u8)) (x := x1.2.2.2) S rfl ty5 rfl rfl rfl (RepAt.add 3 (RepAt.st (t := gf2) B_2.at_)) ?_)
   clear S; intro a v_22 R_23 S
   obtain ⟨rfl, GR_23⟩ := RepV.int R_23
   obtain ⟨t_24, et_24, eq_19⟩ := bindS eq_19
   refine w_go S rfl (op_call (vs := [.int .u8 x1.2.1, .int .u8 x1.2.2.2]) S rfl cb33 rfl rfl rfl (c33 (Kx K w.heap.size [some b_1]) n w_18 x1.2.1 GR_21 x1.2.2.2 GR_23 et_24) ?_)
   rintro _ w_28 ⟨v_25, rfl, R_26, hb_27⟩; refine ⟨_, rfl, ?_⟩
   replace R_26 := RepV.back R_26 W
   clear S; intro a S
   replace R0 := R0.step hb_27
   replace B_2 := B_2.step hb_27
   replace W := W.step hb_27
   obtain rfl := RepV.bool R_26
   refine wl_pureK (l' := [(29, .bool (!t_24)), (3, pB b_1), (0, v0)]) S tys tys_ok 2 [29, 3, 0] (by kernel_rfl) ?_
   clear S; intro a S
   obtain rfl := Option.some.inj eq_19
   exact ⟨S.sub (by exact ⟨rfl, rfl, rfl, trivial⟩), W, R0, B_2⟩
  ·rw [if_neg hc] at eq_19; rw [show q_10 = true from (by simpa using hc)] at S
   refine wl_pureK (l' := [(29, .bool true), (3, pB b_1), (0, v0)]) S tys tys_ok 7 [29, 3, 0] (by kernel_rfl) ?_
   clear S; intro a S
   obtain rfl := Option.some.inj eq_19
   exact ⟨S.sub (by exact ⟨rfl, rfl, rfl, trivial⟩), W, R0, B_2⟩
 clear S W eq_19; rintro a w_29 ⟨S, W, R0, B_2⟩
 refine wpList_nil ?_
 refine then_n ?_
 refine wp_cond_split (S.eval (show ev _ _ = some (.bool q_19) from rfl)) ?_ ?_
 ·intro hc
  rw [if_pos hc] at h
  refine wp_seq ?_
  refine wp_region_lit ?_
  refine wl_pureK (l' := [(5, .int .i64 1), (4, .slice .none 0 0)]) S tys tys_ok 2 [5, 4] (by kernel_rfl) ?_
  clear S; intro a S
  refine wpList_nil ?_
  refine then_n ?_
  refine wp_ret ?_
  refine then_r ?_
  obtain rfl := Option.some.inj h
  exact b_ret2 S rfl rfl rfl ⟨_, _, rfl, RepV.nil, (RepV.mkInt (by decide)), W.below⟩
 ·intro hc
  rw [if_neg (Bool.eq_false_iff.1 hc)] at h
  refine wp_skip ?_
  refine then_n ?_
  replace S := S.sub (l' := [(3, pB b_1), (0, v0)]) (by exact ⟨rfl, rfl, trivial⟩)
  refine wp_seq ?_
  refine wp_region_lit ?_
  refine wl_pure (l' := [(6, .slice .none 0 0), (3, pB b_1), (0, v0)]) S tys tys_ok 1 (by kernel_rfl) ?_
  clear S; intro a S
  refine wpList_nil ?_
  refine then_n ?_
  replace S := S.sub (l' := [(3, pB b_1), (0, v0)]) (by exact ⟨rfl, rfl, trivial⟩)
  refine wp_seq ?_
  refine wp_region_lit ?_
  refine wl_pure (l' := [(7, .int .i64 0), (3, pB b_1), (0, v0)]) S tys tys_ok 1 (by kernel_rfl) ?_
  clear S; intro a S
  refine wpList_nil ?_
  refine then_n ?_
  replace S := S.sub (l' := [(3, pB b_1), (0, v0)]) (by exact ⟨rfl, rfl, trivial⟩)
  refine wp_seq ?_
  refine wp_seq ?_
  refine wp_region_lit ?_
  refine wl_pure (l' := [(30, .pointer (some ((⟨b_1, 0, .none⟩ : Addr).add (coff gf2 1)))), (3, pB b_1), (0, v0)]) S tys tys_ok 1 (by kernel_rfl) ?_
  clear S; intro a S
  refine w_go S rfl (op_load (t := (.int .u8)) (x := x1.2.1) S rfl ty29 rfl rfl rfl (RepAt.add 1 (RepAt.st (t := gf2) B_2.at_)) ?_)
  clear S; intro a v_30 R_31 S
  obtain ⟨rfl, GR_31⟩ := RepV.int R_31
  refine wpList_nil ?_
  refine then_n ?_
  replace S := S.sub (l' := [(31, .int .u8 x1.2.1), (3, pB b_1), (0, v0)]) (by exact ⟨rfl, rfl, rfl, trivial⟩)
  refine wp_block ?_
  refine wp_seq ?_
  refine wp_region_lit ?_
  refine wl_pure (l' := [(38, .bool (x1.2.1 == 1)), (39, .bool (x1.2.1 == 1)), (31, .int .u8 x1.2.1), (3, pB b_1), (0, v0)]) S tys tys_ok 2 (by kernel_rfl) ?_
  clear S; intro a S
  refine wpList_nil ?_
  refine then_n ?_
  replace S := S.sub (l' := [(38, .bool (x1.2.1 == 1)), (31, .int .u8 x1.2.1), (3, pB b_1), (0, v0)]) (by exact ⟨rfl, rfl, rfl, rfl, trivial⟩)
  obtain ⟨j_82, ej_82, h⟩ := bindS h
  refine wp_cut_ (fun a_ w_ => ∃ (v_84 : Value), St 61 a_ [(7, .int .i64 j_82.1), (6, v_84)] ∧ Wd w w_ [v_84.ownBlock, some b_1] ∧ InR .i64 j_82.1 ∧ Bx gt2 31 w_ (Kx K w.heap.size [v_84.ownBlock, some b_1]) b_1 x1 ∧ Ow gt0 33 w_ w.heap.size (Kx K w.heap.size [v_84.ownBlock, some b_1]) v_84 j_82.2 .none) ?_ ?_
  ·refine wp_cond_split (S.eval (show ev _ _ = some (.bool (x1.2.1 == 1)) from rfl)) ?_ ?_
   ·intro hc
    rw [if_pos hc] at ej_82
    refine wp_region_lit ?_
    refine wl_pureK (l' := [(42, .pointer (some ((⟨b_1, 0, .none⟩ : Addr).add (coff gf2 2)))), (41, v0)]) S tys tys_ok 2 [42, 41] (by kernel_rfl) ?_
    clear S; intro a S
    refine w_go S rfl (op_load (t := (.sl (.int .u8))) (x := x1.2.2.1) S rfl ty25 rfl rfl rfl (RepAt.add 2 (RepAt.st (t := gf2) B_2.at_)) ?_)
    clear S; intro a v_86 R_87 S
    obtain ⟨t_88, et_88, ej_82⟩ := bindS ej_82
    refine w_go S rfl (op_call (vs := [v0, v_86]) S rfl cb54 rfl rfl rfl (c54 (Kx K w.heap.size [some b_1]) n w_29 x0 _ R0 x1.2.2.1 _ R_87 et_88) ?_)
    rintro _ w_94 ⟨v_89, v_90, rfl, R_91, R_92, hb_93⟩; refine ⟨_, rfl, ?_⟩
    have NO_ := newO_of R_91 (Nat.le_refl _) hb_93
    replace R_91 := Ow.backO R_91 W
    replace R_92 := RepV.backO R_92 W
    clear S; intro a S
    replace R0 := R0.newO NO_
    replace R_87 := R_87.newO NO_
    replace B_2 := B_2.newO NO_
    replace W := W.newO NO_
    clear NO_
    obtain ⟨rfl, GR_92⟩ := RepV.int R_92
    refine wl_pureK (l' := [(7, .int .i64 t_88.2), (6, v_89)]) S tys tys_ok 5 [7, 6] (by kernel_rfl) ?_
    clear S; intro a S
    refine wpList_nil ?_
    refine then_n ?_
    obtain rfl := Option.some.inj ej_82
    exact ⟨v_89, S.sub (by exact ⟨rfl, rfl, trivial⟩), W, GR_92, B_2, R_91.forget⟩
   ·intro hc
    rw [if_neg (Bool.eq_false_iff.1 hc)] at ej_82
    refine wp_seq ?_
    refine wp_region_lit ?_
    refine wl_pureK (l' := [(47, .bool (x1.2.1 == 4)), (3, pB b_1), (0, v0)]) S tys tys_ok 2 [47, 3, 0] (by kernel_rfl) ?_
    clear S; intro a S
    refine wpList_nil ?_
    refine then_n ?_
    obtain ⟨j_113, ej_113, ej_82⟩ := bindS ej_82
    refine wp_cut_ (fun a_ w_ => ∃ (v_115 : Value), St 61 a_ [(7, .int .i64 j_113.1), (6, v_115)] ∧ Wd w w_ [v_115.ownBlock, some b_1] ∧ InR .i64 j_113.1 ∧ Bx gt2 31 w_ (Kx K w.heap.size [v_115.ownBlock, some b_1]) b_1 x1 ∧ Ow gt0 33 w_ w.heap.size (Kx K w.heap.size [v_115.ownBlock, some b_1]) v_115 j_113.2 .none) ?_ ?_
    ·refine wp_cond_split (S.eval (show ev _ _ = some (.bool (x1.2.1 == 4)) from rfl)) ?_ ?_
     ·intro hc
      rw [if_pos hc] at ej_113
      refine wp_region_lit ?_
      refine wl_pureK (l' := [(51, .pointer (some ((⟨b_1, 0, .none⟩ : Addr).add (coff gf2 2)))), (50, v0)]) S tys tys_ok 2 [51, 50] (by kernel_rfl) ?_
      clear S; intro a S
      refine w_go S rfl (op_load (t := (.sl (.int .u8))) (x := x1.2.2.1) S rfl ty25 rfl rfl rfl (RepAt.add 2 (RepAt.st (t := gf2) B_2.at_)) ?_)
      clear S; intro a v_117 R_118 S
      obtain ⟨t_119, et_119, ej_113⟩ := bindS ej_113
      refine w_go S rfl (op_call (vs := [v0, v_117]) S rfl cb55 rfl rfl rfl (c55 (Kx K w.heap.size [some b_1]) n w_29 x0 _ R0 x1.2.2.1 _ R_118 et_119) ?_)
      rintro _ w_125 ⟨v_120, v_121, rfl, R_122, R_123, hb_124⟩; refine ⟨_, rfl, ?_⟩
      have NO_ := newO_of R_122 (Nat.le_refl _) hb_124
      replace R_122 := Ow.backO R_122 W
      replace R_123 := RepV.backO R_123 W
      clear S; intro a S
      replace R0 := R0.newO NO_
      replace R_118 := R_118.newO NO_
      replace B_2 := B_2.newO NO_
      replace W := W.newO NO_
      clear NO_
      obtain ⟨rfl, GR_123⟩ := RepV.int R_123
      refine wl_pureK (l' := [(7, .int .i64 t_119.2), (6, v_120)]) S tys tys_ok 5 [7, 6] (by kernel_rfl) ?_
      clear S; intro a S
      refine wpList_nil ?_
      refine then_n ?_
      obtain rfl := Option.some.inj ej_113
      exact ⟨v_120, S.sub (by exact ⟨rfl, rfl, trivial⟩), W, GR_123, B_2, R_122.forget⟩
     ·intro hc
      rw [if_neg (Bool.eq_false_iff.1 hc)] at ej_113
      refine wp_region_lit ?_
      refine wl_pure (l' := [(33, v0), (47, .bool (x1.2.1 == 4)), (3, pB b_1), (0, v0)]) S tys tys_ok 1 (by kernel_rfl) ?_
      clear S; intro a S
      refine w_go S rfl (op_load (t := gt2) (x := x1) S rfl ty31 rfl rfl rfl B_2.at_ ?_)
      clear S; intro a v_126 R_127 S
      obtain ⟨t_128, et_128, ej_113⟩ := bindS ej_113
      refine w_go S rfl (op_call (vs := [v0, v_126]) S rfl cb56 rfl rfl rfl (c56 (Kx K w.heap.size [some b_1]) n w_29 x0 _ R0 x1 _ R_127 et_128) ?_)
      rintro _ w_134 ⟨v_129, v_130, rfl, R_131, R_132, hb_133⟩; refine ⟨_, rfl, ?_⟩
      have NO_ := newO_of R_131 (Nat.le_refl _) hb_133
      replace R_131 := Ow.backO R_131 W
      replace R_132 := RepV.backO R_132 W
      clear S; intro a S
      replace R0 := R0.newO NO_
      replace R_127 := R_127.newO NO_
      replace B_2 := B_2.newO NO_
      replace W := W.newO NO_
      clear NO_
      obtain ⟨rfl, GR_132⟩ := RepV.int R_132
      refine wl_pureK (l' := [(7, .int .i64 t_128.2), (6, v_129)]) S tys tys_ok 5 [7, 6] (by kernel_rfl) ?_
      clear S; intro a S
      refine wpList_nil ?_
      refine then_n ?_
      obtain rfl := Option.some.inj ej_113
      exact ⟨v_129, S.sub (by exact ⟨rfl, rfl, trivial⟩), W, GR_132, B_2, R_131.forget⟩
    clear S W; rintro a w_135 ⟨v_115, S, W, G_114, B_2, O_116⟩
    refine then_n ?_
    obtain rfl := Option.some.inj ej_82
    exact ⟨v_115, S.sub (by exact ⟨rfl, rfl, trivial⟩), W, G_114, B_2, O_116⟩
  clear S W; rintro a w_136 ⟨v_84, S, W, G_83, B_2, O_85⟩
  refine blk_n ?_
  refine then_n ?_
  refine wp_seq ?_
  refine wp_seq ?_
  refine wp_region_lit ?_
  refine wl_pure (l' := [(57, .bool (j_82.1 != 0)), (56, .int .i64 j_82.1), (7, .int .i64 j_82.1), (6, v_84)]) S tys tys_ok 2 (by kernel_rfl) ?_
  clear S; intro a S
  refine wpList_nil ?_
  refine then_n ?_
  replace S := S.sub (l' := [(57, .bool (j_82.1 != 0)), (7, .int .i64 j_82.1), (6, v_84)]) (by exact ⟨rfl, rfl, rfl, trivial⟩)
  refine wp_cond_split (S.eval (show ev _ _ = some (.bool (j_82.1 != 0)) from rfl)) ?_ ?_
  ·intro hc
   rw [if_pos hc] at h
   refine wp_seq ?_
   refine wp_region_lit ?_
   refine wl_pureK (l' := [(5, .int .i64 j_82.1), (4, .slice .none 0 0)]) S tys tys_ok 3 [5, 4] (by kernel_rfl) ?_
   clear S; intro a S
   refine wpList_nil ?_
   refine then_n ?_
   refine wp_ret ?_
   refine then_r ?_
   obtain rfl := Option.some.inj h
   exact b_ret2 S rfl rfl rfl ⟨_, _, rfl, RepV.nil, (RepV.mkInt G_83), W.below⟩
  ·intro hc
   rw [if_neg (Bool.eq_false_iff.1 hc)] at h
   refine wp_skip ?_
   refine then_n ?_
   replace S := S.sub (l' := [(6, v_84)]) (by exact ⟨rfl, trivial⟩)
   refine wp_seq ?_
   refine wp_region_lit ?_
   refine wl_pure (l' := [(59, v_84), (6, v_84)]) S tys tys_ok 1 (by kernel_rfl) ?_
   clear S; intro a S
   have R_137 : RepV (.sl gt0) w_136 (Kx K w.heap.size [some b_1]) v_84 (⟨j_82.2, .none⟩ : Sl ((Sl (Int)) × Int × Int)) := O_85.pubAt W 0 rfl
   replace B_2 : Bx gt2 31 w_136 (Kx K w.heap.size [some b_1]) b_1 x1 := B_2.lessAt 0
   replace W : Wd w w_136 [some b_1] := W.lessAt 0
   obtain ⟨t_138, et_138, h⟩ := bindS h
   refine w_go S rfl (op_call (vs := [v_84]) S rfl cb45 rfl rfl rfl (c45 (Kx K w.heap.size [some b_1]) n w_136 (⟨j_82.2, .none⟩ : Sl ((Sl (Int)) × Int × Int)) _ R_137 et_138) ?_)
   rintro _ w_142 ⟨v_139, rfl, R_140, hb_141⟩; refine ⟨_, rfl, ?_⟩
   have NO_ := newO_of R_140 (Nat.le_refl _) hb_141
   replace R_140 := Ow.backO R_140 W
   clear S; intro a S
   replace R_137 := R_137.newO NO_
   replace B_2 := B_2.newO NO_
   replace W := W.newO NO_
   clear NO_
   refine wl_pureK (l' := [(5, .int .i64 0), (4, v_139)]) S tys tys_ok 2 [5, 4] (by kernel_rfl) ?_
   clear S; intro a S
   refine wpList_nil ?_
   refine then_n ?_
   refine wp_ret ?_
   have R_143 : RepV (.sl gt0) w_142 (Kx K w.heap.size [some b_1]) v_139 (⟨t_138.xs, t_138.cap⟩ : Sl ((Sl (Int)) × Int × Int)) := R_140.pubAt W 0 rfl
   replace B_2 : Bx gt2 31 w_142 (Kx K w.heap.size [some b_1]) b_1 x1 := B_2.lessAt 0
   replace W : Wd w w_142 [some b_1] := W.lessAt 0
   obtain rfl := Option.some.inj h
   exact b_ret2 S rfl rfl rfl ⟨_, _, rfl, R_143.out, (RepV.mkInt (by decide)), W.below⟩
theorem cb30 : callB Try.prog 30 = true := by kernel_rfl
def p9 (n : Nat) (x0 : Sl ((Sl (Int)) × Int × Int)) (x1 : Int × Int × (Sl (Int)) × Int) : Option ((Sl ((Sl (Int)) × Int × Int)) × (Int)) :=
 (p10 n x0).bind fun t_5 =>
 if (t_5 != 0) then (some ((⟨[], some 0⟩ : Sl ((Sl (Int)) × Int × Int)), t_5)) else (p30 n x0 x1).bind fun t_12 => some (t_12.1, t_12.2)
set_option maxHeartbeats 4000000 in
set_option maxRecDepth 100000 in
/-- plugboard/events.Apply -/
theorem c9 (K : Nat → Prop) (n : Nat) (w : World) (x0 : Sl ((Sl (Int)) × Int × Int)) (v0 : Value) (R0 : RepV (.sl gt0) w K v0 x0) (x1 : Int × Int × (Sl (Int)) × Int) (v1 : Value) (R1 : RepV gt2 w K v1 x1) {r : (Sl ((Sl (Int)) × Int × Int)) × (Int)} (h : p9 n x0 x1 = some r) :
  Calls Try.prog 9 #[v0, v1] w (Ret2 (.sl gt0) (.int .i64) w (Kx K w.heap.size []) r) := by
 refine enter (args := [v0, v1]) Try.func9 rfl 17 rfl rfl fun a S => ?_
 have W := Wd.start w
 replace R0 := R0.arg
 replace R1 := R1.arg
 unfold p9 at h
 replace S : St 17 a [(0, v0), (1, v1)] := S
 refine wp_seq ?_
 refine wp_region_lit ?_
 refine w_go S rfl (op_box S rfl rfl rfl rfl rfl R1 ?_)
 clear S; intro a w_3 b_1 hb_4 B_2 S
 replace R0 := R0.box hb_4
 replace R1 := R1.box hb_4
 replace W := W.box hb_4
 refine wl_pureK (l' := [(3, pB b_1), (0, v0)]) S tys tys_ok 2 [3, 0] (by kernel_rfl) ?_
 clear S; intro a S
 refine wpList_nil ?_
 refine then_n ?_
 refine wp_seq ?_
 refine wp_seq ?_
 refine wp_region_lit ?_
 refine wl_pure (l' := [(7, v0), (3, pB b_1), (0, v0)]) S tys tys_ok 1 (by kernel_rfl) ?_
 clear S; intro a S
 obtain ⟨t_5, et_5, h⟩ := bindS h
 refine w_go S rfl (op_call (vs := [v0]) S rfl cb10 rfl rfl rfl (c10 (Kx K w.heap.size [some b_1]) n w_3 x0 _ R0 et_5) ?_)
 rintro _ w_9 ⟨v_6, rfl, R_7, hb_8⟩; refine ⟨_, rfl, ?_⟩
 replace R_7 := RepV.back R_7 W
 clear S; intro a S
 replace R0 := R0.step hb_8
 replace B_2 := B_2.step hb_8
 replace W := W.step hb_8
 obtain ⟨rfl, GR_7⟩ := RepV.int R_7
 refine wl_pure (l' := [(6, .int .i64 t_5), (8, .int .i64 t_5), (7, v0), (3, pB b_1), (0, v0)]) S tys tys_ok 1 (by kernel_rfl) ?_
 clear S; intro a S
 refine wpList_nil ?_
 refine then_n ?_
 replace S := S.sub (l' := [(6, .int .i64 t_5), (3, pB b_1), (0, v0)]) (by exact ⟨rfl, rfl, rfl, trivial⟩)
 refine wp_seq ?_
 refine wp_region_lit ?_
 refine wl_pure (l' := [(10, .bool (t_5 != 0)), (9, .int .i64 t_5), (6, .int .i64 t_5), (3, pB b_1), (0, v0)]) S tys tys_ok 2 (by kernel_rfl) ?_
 clear S; intro a S
 refine wpList_nil ?_
 refine then_n ?_
 replace S := S.sub (l' := [(10, .bool (t_5 != 0)), (6, .int .i64 t_5), (3, pB b_1), (0, v0)]) (by exact ⟨rfl, rfl, rfl, rfl, trivial⟩)
 refine wp_cond_split (S.eval (show ev _ _ = some (.bool (t_5 != 0)) from rfl)) ?_ ?_
 ·intro hc
  rw [if_pos hc] at h
  refine wp_seq ?_
  refine wp_region_lit ?_
  refine wl_pureK (l' := [(5, .int .i64 t_5), (4, .slice .none 0 0)]) S tys tys_ok 3 [5, 4] (by kernel_rfl) ?_
  clear S; intro a S
  refine wpList_nil ?_
  refine then_n ?_
  refine wp_ret ?_
  refine then_r ?_
  obtain rfl := Option.some.inj h
  exact b_ret2 S rfl rfl rfl ⟨_, _, rfl, RepV.nil, (RepV.mkInt GR_7), W.below⟩
 ·intro hc
  rw [if_neg (Bool.eq_false_iff.1 hc)] at h
  refine wp_skip ?_
  refine then_n ?_
  replace S := S.sub (l' := [(3, pB b_1), (0, v0)]) (by exact ⟨rfl, rfl, trivial⟩)
  refine wp_seq ?_
  refine wp_region_lit ?_
  refine wl_pure (l' := [(12, v0), (3, pB b_1), (0, v0)]) S tys tys_ok 1 (by kernel_rfl) ?_
  clear S; intro a S
  refine w_go S rfl (op_load (t := gt2) (x := x1) S rfl ty31 rfl rfl rfl B_2.at_ ?_)
  clear S; intro a v_10 R_11 S
  obtain ⟨t_12, et_12, h⟩ := bindS h
  refine w_go S rfl (op_call (vs := [v0, v_10]) S rfl cb30 rfl rfl rfl (c30 (Kx K w.heap.size [some b_1]) n w_9 x0 _ R0 x1 _ R_11 et_12) ?_)
  rintro _ w_18 ⟨v_13, v_14, rfl, R_15, R_16, hb_17⟩; refine ⟨_, rfl, ?_⟩
  replace R_15 := RepV.back R_15 W
  replace R_16 := RepV.back R_16 W
  clear S; intro a S
  replace R0 := R0.step hb_17
  replace R_11 := R_11.step hb_17
  replace B_2 := B_2.step hb_17
  replace W := W.step hb_17
  obtain ⟨rfl, GR_16⟩ := RepV.int R_16
  refine wl_pureK (l' := [(5, .int .i64 t_12.2), (4, v_13)]) S tys tys_ok 4 [5, 4] (by kernel_rfl) ?_
  clear S; intro a S
  refine wpList_nil ?_
  refine then_n ?_
  refine wp_ret ?_
  obtain rfl := Option.some.inj h
  exact b_ret2 S rfl rfl rfl ⟨_, _, rfl, R_15.out, (RepV.mkInt GR_16), W.below⟩
theorem cb9 : callB Try.prog 9 = true := by kernel_rfl
def p11_l1 (n : Nat)  : Nat → (Int) → (Sl ((Sl (Int)) × Int × Int)) → Option (((Sl ((Sl (Int)) × Int × Int))) ⊕ ((Bool)))
 | 0, _, _ => .none
 | m + 1, c_69, c_71 => if (decide (c_69 < (lenI (⟨[(0, 1, (⟨[1], some 1⟩ : Sl (Int)), 0), (0, 2, (⟨[1], some 1⟩ : Sl (Int)), 5), (0, 1, (⟨[1, 2], some 2⟩ : Sl (Int)), 0), (0, 1, (⟨[1, 2], some 2⟩ : Sl (Int)), 0), (0, 1, (⟨[1, 2, 1], some 3⟩ : Sl (Int)), 0), (0, 4, (⟨[1], some 1⟩ : Sl (Int)), 0), (0, 3, (⟨[1, 2], some 2⟩ : Sl (Int)), 0), (0, 2, (⟨[1, 2], some 2⟩ : Sl (Int)), 6), (0, 4, (⟨[1, 2], some 2⟩ : Sl (Int)), 0), (0, 4, (⟨[1], some 1⟩ : Sl (Int)), 0)], some 10⟩ : Sl (Int × Int × (Sl (Int)) × Int))))) then ((idx (⟨[(0, 1, (⟨[1], some 1⟩ : Sl (Int)), 0), (0, 2, (⟨[1], some 1⟩ : Sl (Int)), 5), (0, 1, (⟨[1, 2], some 2⟩ : Sl (Int)), 0), (0, 1, (⟨[1, 2], some 2⟩ : Sl (Int)), 0), (0, 1, (⟨[1, 2, 1], some 3⟩ : Sl (Int)), 0), (0, 4, (⟨[1], some 1⟩ : Sl (Int)), 0), (0, 3, (⟨[1, 2], some 2⟩ : Sl (Int)), 0), (0, 2, (⟨[1, 2], some 2⟩ : Sl (Int)), 6), (0, 4, (⟨[1, 2], some 2⟩ : Sl (Int)), 0), (0, 4, (⟨[1], some 1⟩ : Sl (Int)), 0)], some 10⟩ : Sl (Int × Int × (Sl (Int)) × Int)).xs c_69).bind fun y_87 => (p9 n c_71 y_87).bind fun t_93 => (idx (⟨[0, 0, 0, 8, 7, 6, 0, 6, 0, 0], some 10⟩ : Sl (Int)).xs c_69).bind fun y_100 => if (t_93.2 != y_100) then (some (.inr false)) else (if (t_93.2 == 0) then (some t_93.1) else some c_71).bind fun (j_106 : (Sl ((Sl (Int)) × Int × Int))) => (ckI .i64 (c_69 + 1)).bind fun x_110 => p11_l1 n m x_110 j_106) else some (.inl c_71)
def p11 (n : Nat)  : Option ((Bool)) :=
 (p11_l1 n n 0 (⟨[], some 0⟩)).bind fun (y_79 : ((Sl ((Sl (Int)) × Int × Int))) ⊕ ((Bool))) =>
 lrK y_79 some fun (s_80 : (Sl ((Sl (Int)) × Int × Int))) =>
 some ((lenI s_80) == 0)
set_option maxHeartbeats 4000000 in
set_option maxRecDepth 100000 in
/-- plugboard/plugboardlaw31.lives -/
theorem c11 (K : Nat → Prop) (n : Nat) (w : World)  {r : (Bool)} (h : p11 n  = some r) :
  Calls Try.prog 11 #[] w (Ret1 .bool w (Kx K w.heap.size []) r) := by
 refine enter (args := []) Try.func11 rfl 56 rfl rfl fun a S => ?_
 have W := Wd.start w
 unfold p11 at h
 replace S : St 56 a [] := S
 refine wp_seq ?_
 refine wp_region_lit ?_
 refine wl_pure (l' := [(0, .bool false)]) S tys tys_ok 1 (by kernel_rfl) ?_
 clear S; intro a S
 refine wpList_nil ?_
 refine then_n ?_
 replace S := S.sub (l' := []) trivial
 refine wp_seq ?_
 refine wp_region_lit ?_
 refine w_go S rfl (op_buildSlice (K := K) (e := (.int .u8)) (vs := [.int .u8 1]) (xs := [1]) S W rfl ty25 rfl rfl (by kernel_rfl) rfl rfl rfl rfl rfl ⟨(RepV.mkInt (by decide)), trivial⟩ ?_)
 clear S; intro a w_4 v_1 hb_3 R_2 S
 replace W := W.step hb_3
 refine w_go S rfl (op_build (K := (Kx K w.heap.size [])) (f := gf2) (z0 := (0, 0, ⟨[], some 0⟩, 0)) (x := (0, 1, (⟨[1], some 1⟩ : Sl (Int)), 0)) (vs := [.int .u8 1, v_1]) S _ rfl ty31 z31 (fun w K => ⟨[.int .i64 0], [.int .u8 0, .slice .none 0 0, .int .u8 0], rfl, ⟨rfl, by decide⟩, ⟨[.int .u8 0], [.slice .none 0 0, .int .u8 0], rfl, ⟨rfl, by decide⟩, ⟨[.slice .none 0 0], [.int .u8 0], rfl, ⟨.none, 0, 0, rfl, rfl, Nat.le_refl _, by decide, fun k h => Option.some.inj h, .inl rfl⟩, ⟨rfl, by decide⟩⟩⟩⟩) rfl rfl rfl [(1, .int .u8 1), (2, v_1)] rfl ⟨_, (RepV.mkInt (by decide)), rfl, rfl, ⟨_, R_2, rfl, rfl, rfl⟩⟩ ?_)
 clear S; intro a v_5 R_6 S
 refine w_go S rfl (op_buildSlice (K := K) (e := (.int .u8)) (vs := [.int .u8 1]) (xs := [1]) S W rfl ty25 rfl rfl (by kernel_rfl) rfl rfl rfl rfl rfl ⟨(RepV.mkInt (by decide)), trivial⟩ ?_)
 clear S; intro a w_10 v_7 hb_9 R_8 S
 replace R_2 := R_2.step hb_9
 replace R_6 := R_6.step hb_9
 replace W := W.step hb_9
 refine w_go S rfl (op_build (K := (Kx K w.heap.size [])) (f := gf2) (z0 := (0, 0, ⟨[], some 0⟩, 0)) (x := (0, 2, (⟨[1], some 1⟩ : Sl (Int)), 5)) (vs := [.int .u8 2, v_7, .int .u8 5]) S _ rfl ty31 z31 (fun w K => ⟨[.int .i64 0], [.int .u8 0, .slice .none 0 0, .int .u8 0], rfl, ⟨rfl, by decide⟩, ⟨[.int .u8 0], [.slice .none 0 0, .int .u8 0], rfl, ⟨rfl, by decide⟩, ⟨[.slice .none 0 0], [.int .u8 0], rfl, ⟨.none, 0, 0, rfl, rfl, Nat.le_refl _, by decide, fun k h => Option.some.inj h, .inl rfl⟩, ⟨rfl, by decide⟩⟩⟩⟩) rfl rfl rfl [(1, .int .u8 2), (2, v_7), (3, .int .u8 5)] rfl ⟨_, (RepV.mkInt (by decide)), rfl, rfl, ⟨_, R_8, rfl, rfl, ⟨_, (RepV.mkInt (by decide)), rfl, rfl, rfl⟩⟩⟩ ?_)
 clear S; intro a v_11 R_12 S
 refine w_go S rfl (op_buildSlice (K := K) (e := (.int .u8)) (vs := [.int .u8 1, .int .u8 2]) (xs := [1, 2]) S W rfl ty25 rfl rfl (by kernel_rfl) rfl rfl rfl rfl rfl ⟨(RepV.mkInt (by decide)), (RepV.mkInt (by decide)), trivial⟩ ?_)
 clear S; intro a w_16 v_13 hb_15 R_14 S
 replace R_2 := R_2.step hb_15
 replace R_6 := R_6.step hb_15
 replace R_8 := R_8.step hb_15
 replace R_12 := R_12.step hb_15
 replace W := W.step hb_15
 refine w_go S rfl (op_build (K := (Kx K w.heap.size [])) (f := gf2) (z0 := (0, 0, ⟨[], some 0⟩, 0)) (x := (0, 1, (⟨[1, 2], some 2⟩ : Sl (Int)), 0)) (vs := [.int .u8 1, v_13]) S _ rfl ty31 z31 (fun w K => ⟨[.int .i64 0], [.int .u8 0, .slice .none 0 0, .int .u8 0], rfl, ⟨rfl, by decide⟩, ⟨[.int .u8 0], [.slice .none 0 0, .int .u8 0], rfl, ⟨rfl, by decide⟩, ⟨[.slice .none 0 0], [.int .u8 0], rfl, ⟨.none, 0, 0, rfl, rfl, Nat.le_refl _, by decide, fun k h => Option.some.inj h, .inl rfl⟩, ⟨rfl, by decide⟩⟩⟩⟩) rfl rfl rfl [(1, .int .u8 1), (2, v_13)] rfl ⟨_, (RepV.mkInt (by decide)), rfl, rfl, ⟨_, R_14, rfl, rfl, rfl⟩⟩ ?_)
 clear S; intro a v_17 R_18 S
 refine w_go S rfl (op_buildSlice (K := K) (e := (.int .u8)) (vs := [.int .u8 1, .int .u8 2]) (xs := [1, 2]) S W rfl ty25 rfl rfl (by kernel_rfl) rfl rfl rfl rfl rfl ⟨(RepV.mkInt (by decide)), (RepV.mkInt (by decide)), trivial⟩ ?_)
 clear S; intro a w_22 v_19 hb_21 R_20 S
 replace R_2 := R_2.step hb_21
 replace R_6 := R_6.step hb_21
 replace R_8 := R_8.step hb_21
 replace R_12 := R_12.step hb_21
 replace R_14 := R_14.step hb_21
 replace R_18 := R_18.step hb_21
 replace W := W.step hb_21
 refine w_go S rfl (op_build (K := (Kx K w.heap.size [])) (f := gf2) (z0 := (0, 0, ⟨[], some 0⟩, 0)) (x := (0, 1, (⟨[1, 2], some 2⟩ : Sl (Int)), 0)) (vs := [.int .u8 1, v_19]) S _ rfl ty31 z31 (fun w K => ⟨[.int .i64 0], [.int .u8 0, .slice .none 0 0, .int .u8 0], rfl, ⟨rfl, by decide⟩, ⟨[.int .u8 0], [.slice .none 0 0, .int .u8 0], rfl, ⟨rfl, by decide⟩, ⟨[.slice .none 0 0], [.int .u8 0], rfl, ⟨.none, 0, 0, rfl, rfl, Nat.le_refl _, by decide, fun k h => Option.some.inj h, .inl rfl⟩, ⟨rfl, by decide⟩⟩⟩⟩) rfl rfl rfl [(1, .int .u8 1), (2, v_19)] rfl ⟨_, (RepV.mkInt (by decide)), rfl, rfl, ⟨_, R_20, rfl, rfl, rfl⟩⟩ ?_)
 clear S; intro a v_23 R_24 S
 refine w_go S rfl (op_buildSlice (K := K) (e := (.int .u8)) (vs := [.int .u8 1, .int .u8 2, .int .u8 1]) (xs := [1, 2, 1]) S W rfl ty25 rfl rfl (by kernel_rfl) rfl rfl rfl rfl rfl ⟨(RepV.mkInt (by decide)), (RepV.mkInt (by decide)), (RepV.mkInt (by decide)), trivial⟩ ?_)
 clear S; intro a w_28 v_25 hb_27 R_26 S
 replace R_2 := R_2.step hb_27
 replace R_6 := R_6.step hb_27
 replace R_8 := R_8.step hb_27
 replace R_12 := R_12.step hb_27
 replace R_14 := R_14.step hb_27
 replace R_18 := R_18.step hb_27
 replace R_20 := R_20.step hb_27
 replace R_24 := R_24.step hb_27
 replace W := W.step hb_27
 refine w_go S rfl (op_build (K := (Kx K w.heap.size [])) (f := gf2) (z0 := (0, 0, ⟨[], some 0⟩, 0)) (x := (0, 1, (⟨[1, 2, 1], some 3⟩ : Sl (Int)), 0)) (vs := [.int .u8 1, v_25]) S _ rfl ty31 z31 (fun w K => ⟨[.int .i64 0], [.int .u8 0, .slice .none 0 0, .int .u8 0], rfl, ⟨rfl, by decide⟩, ⟨[.int .u8 0], [.slice .none 0 0, .int .u8 0], rfl, ⟨rfl, by decide⟩, ⟨[.slice .none 0 0], [.int .u8 0], rfl, ⟨.none, 0, 0, rfl, rfl, Nat.le_refl _, by decide, fun k h => Option.some.inj h, .inl rfl⟩, ⟨rfl, by decide⟩⟩⟩⟩) rfl rfl rfl [(1, .int .u8 1), (2, v_25)] rfl ⟨_, (RepV.mkInt (by decide)), rfl, rfl, ⟨_, R_26, rfl, rfl, rfl⟩⟩ ?_)
 clear S; intro a v_29 R_30 S
 refine w_go S rfl (op_buildSlice (K := K) (e := (.int .u8)) (vs := [.int .u8 1]) (xs := [1]) S W rfl ty25 rfl rfl (by kernel_rfl) rfl rfl rfl rfl rfl ⟨(RepV.mkInt (by decide)), trivial⟩ ?_)
 clear S; intro a w_34 v_31 hb_33 R_32 S
 replace R_2 := R_2.step hb_33
 replace R_6 := R_6.step hb_33
 replace R_8 := R_8.step hb_33
 replace R_12 := R_12.step hb_33
 replace R_14 := R_14.step hb_33
 replace R_18 := R_18.step hb_33
 replace R_20 := R_20.step hb_33
 replace R_24 := R_24.step hb_33
 replace R_26 := R_26.step hb_33
 replace R_30 := R_30.step hb_33
 replace W := W.step hb_33
 refine w_go S rfl (op_build (K := (Kx K w.heap.size [])) (f := gf2) (z0 := (0, 0, ⟨[], some 0⟩, 0)) (x := (0, 4, (⟨[1], some 1⟩ : Sl (Int)), 0)) (vs := [.int .u8 4, v_31]) S _ rfl ty31 z31 (fun w K => ⟨[.int .i64 0], [.int .u8 0, .slice .none 0 0, .int .u8 0], rfl, ⟨rfl, by decide⟩, ⟨[.int .u8 0], [.slice .none 0 0, .int .u8 0], rfl, ⟨rfl, by decide⟩, ⟨[.slice .none 0 0], [.int .u8 0], rfl, ⟨.none, 0, 0, rfl, rfl, Nat.le_refl _, by decide, fun k h => Option.some.inj h, .inl rfl⟩, ⟨rfl, by decide⟩⟩⟩⟩) rfl rfl rfl [(1, .int .u8 4), (2, v_31)] rfl ⟨_, (RepV.mkInt (by decide)), rfl, rfl, ⟨_, R_32, rfl, rfl, rfl⟩⟩ ?_)
 clear S; intro a v_35 R_36 S
 refine w_go S rfl (op_buildSlice (K := K) (e := (.int .u8)) (vs := [.int .u8 1, .int .u8 2]) (xs := [1, 2]) S W rfl ty25 rfl rfl (by kernel_rfl) rfl rfl rfl rfl rfl ⟨(RepV.mkInt (by decide)), (RepV.mkInt (by decide)), trivial⟩ ?_)
 clear S; intro a w_40 v_37 hb_39 R_38 S
 replace R_2 := R_2.step hb_39
 replace R_6 := R_6.step hb_39
 replace R_8 := R_8.step hb_39
 replace R_12 := R_12.step hb_39
 replace R_14 := R_14.step hb_39
 replace R_18 := R_18.step hb_39
 replace R_20 := R_20.step hb_39
 replace R_24 := R_24.step hb_39
 replace R_26 := R_26.step hb_39
 replace R_30 := R_30.step hb_39
 replace R_32 := R_32.step hb_39
 replace R_36 := R_36.step hb_39
 replace W := W.step hb_39
 refine w_go S rfl (op_build (K := (Kx K w.heap.size [])) (f := gf2) (z0 := (0, 0, ⟨[], some 0⟩, 0)) (x := (0, 3, (⟨[1, 2], some 2⟩ : Sl (Int)), 0)) (vs := [.int .u8 3, v_37]) S _ rfl ty31 z31 (fun w K => ⟨[.int .i64 0], [.int .u8 0, .slice .none 0 0, .int .u8 0], rfl, ⟨rfl, by decide⟩, ⟨[.int .u8 0], [.slice .none 0 0, .int .u8 0], rfl, ⟨rfl, by decide⟩, ⟨[.slice .none 0 0], [.int .u8 0], rfl, ⟨.none, 0, 0, rfl, rfl, Nat.le_refl _, by decide, fun k h => Option.some.inj h, .inl rfl⟩, ⟨rfl, by decide⟩⟩⟩⟩) rfl rfl rfl [(1, .int .u8 3), (2, v_37)] rfl ⟨_, (RepV.mkInt (by decide)), rfl, rfl, ⟨_, R_38, rfl, rfl, rfl⟩⟩ ?_)
 clear S; intro a v_41 R_42 S
 refine w_go S rfl (op_buildSlice (K := K) (e := (.int .u8)) (vs := [.int .u8 1, .int .u8 2]) (xs := [1, 2]) S W rfl ty25 rfl rfl (by kernel_rfl) rfl rfl rfl rfl rfl ⟨(RepV.mkInt (by decide)), (RepV.mkInt (by decide)), trivial⟩ ?_)
 clear S; intro a w_46 v_43 hb_45 R_44 S
 replace R_2 := R_2.step hb_45
 replace R_6 := R_6.step hb_45
 replace R_8 := R_8.step hb_45
 replace R_12 := R_12.step hb_45
 replace R_14 := R_14.step hb_45
 replace R_18 := R_18.step hb_45
 replace R_20 := R_20.step hb_45
 replace R_24 := R_24.step hb_45
 replace R_26 := R_26.step hb_45
 replace R_30 := R_30.step hb_45
 replace R_32 := R_32.step hb_45
 replace R_36 := R_36.step hb_45
 replace R_38 := R_38.step hb_45
 replace R_42 := R_42.step hb_45
 replace W := W.step hb_45
 refine w_go S rfl (op_build (K := (Kx K w.heap.size [])) (f := gf2) (z0 := (0, 0, ⟨[], some 0⟩, 0)) (x := (0, 2, (⟨[1, 2], some 2⟩ : Sl (Int)), 6)) (vs := [.int .u8 2, v_43, .int .u8 6]) S _ rfl ty31 z31 (fun w K => ⟨[.int .i64 0], [.int .u8 0, .slice .none 0 0, .int .u8 0], rfl, ⟨rfl, by decide⟩, ⟨[.int .u8 0], [.slice .none 0 0, .int .u8 0], rfl, ⟨rfl, by decide⟩, ⟨[.slice .none 0 0], [.int .u8 0], rfl, ⟨.none, 0, 0, rfl, rfl, Nat.le_refl _, by decide, fun k h => Option.some.inj h, .inl rfl⟩, ⟨rfl, by decide⟩⟩⟩⟩) rfl rfl rfl [(1, .int .u8 2), (2, v_43), (3, .int .u8 6)] rfl ⟨_, (RepV.mkInt (by decide)), rfl, rfl, ⟨_, R_44, rfl, rfl, ⟨_, (RepV.mkInt (by decide)), rfl, rfl, rfl⟩⟩⟩ ?_)
 clear S; intro a v_47 R_48 S
 refine w_go S rfl (op_buildSlice (K := K) (e := (.int .u8)) (vs := [.int .u8 1, .int .u8 2]) (xs := [1, 2]) S W rfl ty25 rfl rfl (by kernel_rfl) rfl rfl rfl rfl rfl ⟨(RepV.mkInt (by decide)), (RepV.mkInt (by decide)), trivial⟩ ?_)
 clear S; intro a w_52 v_49 hb_51 R_50 S
 replace R_2 := R_2.step hb_51
 replace R_6 := R_6.step hb_51
 replace R_8 := R_8.step hb_51
 replace R_12 := R_12.step hb_51
 replace R_14 := R_14.step hb_51
 replace R_18 := R_18.step hb_51
 replace R_20 := R_20.step hb_51
 replace R_24 := R_24.step hb_51
 replace R_26 := R_26.step hb_51
 replace R_30 := R_30.step hb_51
 replace R_32 := R_32.step hb_51
 replace R_36 := R_36.step hb_51
 replace R_38 := R_38.step hb_51
 replace R_42 := R_42.step hb_51
 replace R_44 := R_44.step hb_51
 replace R_48 := R_48.step hb_51
 replace W := W.step hb_51
 refine w_go S rfl (op_build (K := (Kx K w.heap.size [])) (f := gf2) (z0 := (0, 0, ⟨[], some 0⟩, 0)) (x := (0, 4, (⟨[1, 2], some 2⟩ : Sl (Int)), 0)) (vs := [.int .u8 4, v_49]) S _ rfl ty31 z31 (fun w K => ⟨[.int .i64 0], [.int .u8 0, .slice .none 0 0, .int .u8 0], rfl, ⟨rfl, by decide⟩, ⟨[.int .u8 0], [.slice .none 0 0, .int .u8 0], rfl, ⟨rfl, by decide⟩, ⟨[.slice .none 0 0], [.int .u8 0], rfl, ⟨.none, 0, 0, rfl, rfl, Nat.le_refl _, by decide, fun k h => Option.some.inj h, .inl rfl⟩, ⟨rfl, by decide⟩⟩⟩⟩) rfl rfl rfl [(1, .int .u8 4), (2, v_49)] rfl ⟨_, (RepV.mkInt (by decide)), rfl, rfl, ⟨_, R_50, rfl, rfl, rfl⟩⟩ ?_)
 clear S; intro a v_53 R_54 S
 refine w_go S rfl (op_buildSlice (K := K) (e := (.int .u8)) (vs := [.int .u8 1]) (xs := [1]) S W rfl ty25 rfl rfl (by kernel_rfl) rfl rfl rfl rfl rfl ⟨(RepV.mkInt (by decide)), trivial⟩ ?_)
 clear S; intro a w_58 v_55 hb_57 R_56 S
 replace R_2 := R_2.step hb_57
 replace R_6 := R_6.step hb_57
 replace R_8 := R_8.step hb_57
 replace R_12 := R_12.step hb_57
 replace R_14 := R_14.step hb_57
 replace R_18 := R_18.step hb_57
 replace R_20 := R_20.step hb_57
 replace R_24 := R_24.step hb_57
 replace R_26 := R_26.step hb_57
 replace R_30 := R_30.step hb_57
 replace R_32 := R_32.step hb_57
 replace R_36 := R_36.step hb_57
 replace R_38 := R_38.step hb_57
 replace R_42 := R_42.step hb_57
 replace R_44 := R_44.step hb_57
 replace R_48 := R_48.step hb_57
 replace R_50 := R_50.step hb_57
 replace R_54 := R_54.step hb_57
 replace W := W.step hb_57
 refine w_go S rfl (op_build (K := (Kx K w.heap.size [])) (f := gf2) (z0 := (0, 0, ⟨[], some 0⟩, 0)) (x := (0, 4, (⟨[1], some 1⟩ : Sl (Int)), 0)) (vs := [.int .u8 4, v_55]) S _ rfl ty31 z31 (fun w K => ⟨[.int .i64 0], [.int .u8 0, .slice .none 0 0, .int .u8 0], rfl, ⟨rfl, by decide⟩, ⟨[.int .u8 0], [.slice .none 0 0, .int .u8 0], rfl, ⟨rfl, by decide⟩, ⟨[.slice .none 0 0], [.int .u8 0], rfl, ⟨.none, 0, 0, rfl, rfl, Nat.le_refl _, by decide, fun k h => Option.some.inj h, .inl rfl⟩, ⟨rfl, by decide⟩⟩⟩⟩) rfl rfl rfl [(1, .int .u8 4), (2, v_55)] rfl ⟨_, (RepV.mkInt (by decide)), rfl, rfl, ⟨_, R_56, rfl, rfl, rfl⟩⟩ ?_)
 clear S; intro a v_59 R_60 S
 refine w_go S rfl (op_buildSlice (K := K) (e := gt2) (vs := [v_5, v_11, v_17, v_23, v_29, v_35, v_41, v_47, v_53, v_59]) (xs := [(0, 1, (⟨[1], some 1⟩ : Sl (Int)), 0), (0, 2, (⟨[1], some 1⟩ : Sl (Int)), 5), (0, 1, (⟨[1, 2], some 2⟩ : Sl (Int)), 0), (0, 1, (⟨[1, 2], some 2⟩ : Sl (Int)), 0), (0, 1, (⟨[1, 2, 1], some 3⟩ : Sl (Int)), 0), (0, 4, (⟨[1], some 1⟩ : Sl (Int)), 0), (0, 3, (⟨[1, 2], some 2⟩ : Sl (Int)), 0), (0, 2, (⟨[1, 2], some 2⟩ : Sl (Int)), 6), (0, 4, (⟨[1, 2], some 2⟩ : Sl (Int)), 0), (0, 4, (⟨[1], some 1⟩ : Sl (Int)), 0)]) S W rfl ty48 rfl rfl (by kernel_rfl) rfl rfl rfl rfl rfl ⟨R_6, R_12, R_18, R_24, R_30, R_36, R_42, R_48, R_54, R_60, trivial⟩ ?_)
 clear S; intro a w_64 v_61 hb_63 R_62 S
 replace R_2 := R_2.step hb_63
 replace R_6 := R_6.step hb_63
 replace R_8 := R_8.step hb_63
 replace R_12 := R_12.step hb_63
 replace R_14 := R_14.step hb_63
 replace R_18 := R_18.step hb_63
 replace R_20 := R_20.step hb_63
 replace R_24 := R_24.step hb_63
 replace R_26 := R_26.step hb_63
 replace R_30 := R_30.step hb_63
 replace R_32 := R_32.step hb_63
 replace R_36 := R_36.step hb_63
 replace R_38 := R_38.step hb_63
 replace R_42 := R_42.step hb_63
 replace R_44 := R_44.step hb_63
 replace R_48 := R_48.step hb_63
 replace R_50 := R_50.step hb_63
 replace R_54 := R_54.step hb_63
 replace R_56 := R_56.step hb_63
 replace R_60 := R_60.step hb_63
 replace W := W.step hb_63
 refine wl_pureK (l' := [(1, v_61)]) S tys tys_ok 1 [1] (by kernel_rfl) ?_
 clear S; intro a S
 refine wpList_nil ?_
 refine then_n ?_
 refine wp_seq ?_
 refine wp_region_lit ?_
 refine w_go S rfl (op_buildSlice (K := K) (e := (.int .i64)) (vs := [.int .i64 0, .int .i64 0, .int .i64 0, .int .i64 8, .int .i64 7, .int .i64 6, .int .i64 0, .int .i64 6, .int .i64 0, .int .i64 0]) (xs := [0, 0, 0, 8, 7, 6, 0, 6, 0, 0]) S W rfl ty77 rfl rfl (by kernel_rfl) rfl rfl rfl rfl rfl ⟨(RepV.mkInt (by decide)), (RepV.mkInt (by decide)), (RepV.mkInt (by decide)), (RepV.mkInt (by decide)), (RepV.mkInt (by decide)), (RepV.mkInt (by decide)), (RepV.mkInt (by decide)), (RepV.mkInt (by decide)), (RepV.mkInt (by decide)), (RepV.mkInt (by decide)), trivial⟩ ?_)
 clear S; intro a w_68 v_65 hb_67 R_66 S
 replace R_62 := R_62.step hb_67
 replace W := W.step hb_67
 refine wl_pure (l' := [(2, v_65), (28, v_65), (1, v_61)]) S tys tys_ok 1 (by kernel_rfl) ?_
 clear S; intro a S
 refine wpList_nil ?_
 refine then_n ?_
 replace S := S.sub (l' := [(2, v_65), (1, v_61)]) (by exact ⟨rfl, rfl, trivial⟩)
 refine wp_seq ?_
 refine wp_region_lit ?_
 refine wl_pure (l' := [(3, .slice .none 0 0), (2, v_65), (1, v_61)]) S tys tys_ok 1 (by kernel_rfl) ?_
 clear S; intro a S
 refine wpList_nil ?_
 refine then_n ?_
 refine wp_seq ?_
 refine wp_seq ?_
 refine wp_region_lit ?_
 refine wl_pure (l' := [(4, .int .i64 0), (3, .slice .none 0 0), (2, v_65), (1, v_61)]) S tys tys_ok 1 (by kernel_rfl) ?_
 clear S; intro a S
 refine wpList_nil ?_
 refine then_n ?_
 obtain ⟨y_79, ey_79, h⟩ := bindS h
 refine wp_cut_ (fun a_ w_ => ∃ s_80 : (Sl ((Sl (Int)) × Int × Int)), y_79 = .inl s_80 ∧ (∃ (v_81 : Value), St 56 a_ [(3, v_81)] ∧ Wd w w_ [] ∧ RepV (.sl gt0) w_ (Kx K w.heap.size []) v_81 s_80)) ?_ ?_
 ·refine wp_block ?_
  refine wp_loop_n (fun m_ a_ w_ => ∃ (c_69 : Int) (c_71 : Sl ((Sl (Int)) × Int × Int)) , ∃ (v_72 : Value), St 56 a_ [(4, .int .i64 c_69), (3, v_72), (2, v_65), (1, v_61)] ∧ Wd w w_ [] ∧ InR .i64 c_69 ∧ RepV (.sl gt0) w_ (Kx K w.heap.size []) v_72 c_71 ∧ RepV (.sl (.int .i64)) w_ (Kx K w.heap.size []) v_65 (⟨[0, 0, 0, 8, 7, 6, 0, 6, 0, 0], some 10⟩ : Sl (Int)) ∧ RepV (.sl gt2) w_ (Kx K w.heap.size []) v_61 (⟨[(0, 1, (⟨[1], some 1⟩ : Sl (Int)), 0), (0, 2, (⟨[1], some 1⟩ : Sl (Int)), 5), (0, 1, (⟨[1, 2], some 2⟩ : Sl (Int)), 0), (0, 1, (⟨[1, 2], some 2⟩ : Sl (Int)), 0), (0, 1, (⟨[1, 2, 1], some 3⟩ : Sl (Int)), 0), (0, 4, (⟨[1], some 1⟩ : Sl (Int)), 0), (0, 3, (⟨[1, 2], some 2⟩ : Sl (Int)), 0), (0, 2, (⟨[1, 2], some 2⟩ : Sl (Int)), 6), (0, 4, (⟨[1, 2], some 2⟩ : Sl (Int)), 0), (0, 4, (⟨[1], some 1⟩ : Sl (Int)), 0)], some 10⟩ : Sl (Int × Int × (Sl (Int)) × Int)) ∧ p11_l1 n m_ c_69 c_71 = some y_79) n ?_ ?_
  ·skip
   exact ⟨0, ⟨[], some 0⟩, ⟨.slice .none 0 0, S.sub (by exact ⟨rfl, rfl, rfl, rfl, trivial⟩), W, (show InR .i64 0 by decide), RepV.nil, R_66, R_62, ey_79⟩⟩
  ·clear S W; rintro m_83 a w_85 ⟨c_69, c_71, v_72, S, W, G_70, R_73, R_66, R_62, hl_84⟩
   cases m_83 with
   | zero => exact absurd hl_84 (by simp [p11_l1])
   | succ m_83 =>
    refine ⟨m_83, rfl, ?_⟩
    rw [p11_l1] at hl_84
    refine wp_seq ?_
    refine wp_seq ?_
    refine wp_region_lit ?_
    refine wl_pure (l' := [(30, v_61), (29, .int .i64 c_69), (4, .int .i64 c_69), (3, v_72), (2, v_65), (1, v_61)]) S tys tys_ok 2 (by kernel_rfl) ?_
    clear S; intro a S
    refine w_go S rfl (op_len (K := _) S rfl ty48 rfl rfl rfl R_62 ?_)
    clear S; intro a G_86 S
    refine wl_pureK (l' := [(32, .bool (decide (c_69 < (lenI (⟨[(0, 1, (⟨[1], some 1⟩ : Sl (Int)), 0), (0, 2, (⟨[1], some 1⟩ : Sl (Int)), 5), (0, 1, (⟨[1, 2], some 2⟩ : Sl (Int)), 0), (0, 1, (⟨[1, 2], some 2⟩ : Sl (Int)), 0), (0, 1, (⟨[1, 2, 1], some 3⟩ : Sl (Int)), 0), (0, 4, (⟨[1], some 1⟩ : Sl (Int)), 0), (0, 3, (⟨[1, 2], some 2⟩ : Sl (Int)), 0), (0, 2, (⟨[1, 2], some 2⟩ : Sl (Int)), 6), (0, 4, (⟨[1, 2], some 2⟩ : Sl (Int)), 0), (0, 4, (⟨[1], some 1⟩ : Sl (Int)), 0)], some 10⟩ : Sl (Int × Int × (Sl (Int)) × Int)))))), (4, .int .i64 c_69), (3, v_72), (2, v_65), (1, v_61)]) S tys tys_ok 1 [32, 4, 3, 2, 1] (by kernel_rfl) ?_
    clear S; intro a S
    refine wpList_nil ?_
    refine then_n ?_
    refine wp_cond_split (S.eval (show ev _ _ = some (.bool (decide (c_69 < (lenI (⟨[(0, 1, (⟨[1], some 1⟩ : Sl (Int)), 0), (0, 2, (⟨[1], some 1⟩ : Sl (Int)), 5), (0, 1, (⟨[1, 2], some 2⟩ : Sl (Int)), 0), (0, 1, (⟨[1, 2], some 2⟩ : Sl (Int)), 0), (0, 1, (⟨[1, 2, 1], some 3⟩ : Sl (Int)), 0), (0, 4, (⟨[1], some 1⟩ : Sl (Int)), 0), (0, 3, (⟨[1, 2], some 2⟩ : Sl (Int)), 0), (0, 2, (⟨[1, 2], some 2⟩ : Sl (Int)), 6), (0, 4, (⟨[1, 2], some 2⟩ : Sl (Int)), 0), (0, 4, (⟨[1], some 1⟩ : Sl (Int)), 0)], some 10⟩ : Sl (Int × Int × (Sl (Int)) × Int)))))) from rfl)) ?_ ?_
    ·intro hc
     rw [if_pos hc] at hl_84
     refine wp_skip ?_
     refine then_n ?_
     replace S := S.sub (l' := [(4, .int .i64 c_69), (3, v_72), (2, v_65), (1, v_61)]) (by exact ⟨rfl, rfl, rfl, rfl, trivial⟩)
     refine wp_seq ?_
     refine wp_block ?_
     refine wp_seq ?_
     refine wp_region_lit ?_
     refine wl_pure (l' := [(38, .int .i64 c_69), (37, v_61), (36, v_72), (4, .int .i64 c_69), (3, v_72), (2, v_65), (1, v_61)]) S tys tys_ok 3 (by kernel_rfl) ?_
     clear S; intro a S
     obtain ⟨y_87, ey_87, hl_84⟩ := bindS hl_84
     refine w_go S rfl (op_indexAddr S rfl ty48 rfl rfl rfl R_62 rfl ey_87 ?_)
     clear S; intro a p_88 R_89 H_90 S
     refine w_go S rfl (op_load (t := gt2) (x := y_87) S rfl ty31 rfl rfl rfl R_89 ?_)
     clear S; intro a v_91 R_92 S
     obtain ⟨t_93, et_93, hl_84⟩ := bindS hl_84
     refine w_go S rfl (op_call (vs := [v_72, v_91]) S rfl cb9 rfl rfl rfl (c9 (Kx K w.heap.size []) n w_85 c_71 _ R_73 y_87 _ R_92 et_93) ?_)
     rintro _ w_99 ⟨v_94, v_95, rfl, R_96, R_97, hb_98⟩; refine ⟨_, rfl, ?_⟩
     replace R_96 := RepV.back R_96 W
     replace R_97 := RepV.back R_97 W
     clear S; intro a S
     replace R_73 := R_73.step hb_98
     replace R_66 := R_66.step hb_98
     replace R_62 := R_62.step hb_98
     replace R_92 := R_92.step hb_98
     replace W := W.step hb_98
     obtain ⟨rfl, GR_97⟩ := RepV.int R_97
     refine wl_pureK (l' := [(6, .int .i64 t_93.2), (5, v_94), (4, .int .i64 c_69), (3, v_72), (2, v_65), (1, v_61)]) S tys tys_ok 5 [6, 5, 4, 3, 2, 1] (by kernel_rfl) ?_
     clear S; intro a S
     refine wpList_nil ?_
     refine then_n ?_
     refine wp_seq ?_
     refine wp_seq ?_
     refine wp_region_lit ?_
     refine wl_pure (l' := [(46, .int .i64 c_69), (45, v_65), (44, .int .i64 t_93.2), (6, .int .i64 t_93.2), (5, v_94), (4, .int .i64 c_69), (3, v_72), (2, v_65), (1, v_61)]) S tys tys_ok 3 (by kernel_rfl) ?_
     clear S; intro a S
     obtain ⟨y_100, ey_100, hl_84⟩ := bindS hl_84
     refine w_go S rfl (op_indexAddr S rfl ty77 rfl rfl rfl R_66 rfl ey_100 ?_)
     clear S; intro a p_101 R_102 H_103 S
     refine w_go S rfl (op_load (t := (.int .i64)) (x := y_100) S rfl ty26 rfl rfl rfl R_102 ?_)
     clear S; intro a v_104 R_105 S
     obtain ⟨rfl, GR_105⟩ := RepV.int R_105
     refine wl_pureK (l' := [(49, .bool (t_93.2 != y_100)), (6, .int .i64 t_93.2), (5, v_94), (4, .int .i64 c_69), (3, v_72), (2, v_65), (1, v_61)]) S tys tys_ok 1 [49, 6, 5, 4, 3, 2, 1] (by kernel_rfl) ?_
     clear S; intro a S
     refine wpList_nil ?_
     refine then_n ?_
     refine wp_cond_split (S.eval (show ev _ _ = some (.bool (t_93.2 != y_100)) from rfl)) ?_ ?_
     ·intro hc
      rw [if_pos hc] at hl_84
      refine wp_seq ?_
      refine wp_region_lit ?_
      refine wl_pureK (l' := [(0, .bool false)]) S tys tys_ok 1 [0] (by kernel_rfl) ?_
      clear S; intro a S
      refine wpList_nil ?_
      refine then_n ?_
      refine wp_ret ?_
      refine then_r ?_
      refine blk_r ?_
      refine then_r ?_
      refine then_r ?_
      refine blk_r ?_
      refine then_r ?_
      refine then_r ?_
      obtain rfl := Option.some.inj hl_84
      obtain rfl := lr_inr h
      exact b_ret1 S rfl rfl ⟨_, rfl, RepV.mkBool, W.below⟩
     ·intro hc
      rw [if_neg (Bool.eq_false_iff.1 hc)] at hl_84
      refine wp_skip ?_
      refine then_n ?_
      replace S := S.sub (l' := [(6, .int .i64 t_93.2), (5, v_94), (4, .int .i64 c_69), (3, v_72), (2, v_65), (1, v_61)]) (by exact ⟨rfl, rfl, rfl, rfl, rfl, rfl, trivial⟩)
      refine wp_seq ?_
      refine wp_region_lit ?_
      refine wl_pure (l' := [(51, .bool (t_93.2 == 0)), (50, .int .i64 t_93.2), (6, .int .i64 t_93.2), (5, v_94), (4, .int .i64 c_69), (3, v_72), (2, v_65), (1, v_61)]) S tys tys_ok 2 (by kernel_rfl) ?_
      clear S; intro a S
      refine wpList_nil ?_
      refine then_n ?_
      replace S := S.sub (l' := [(51, .bool (t_93.2 == 0)), (5, v_94), (4, .int .i64 c_69), (3, v_72), (2, v_65), (1, v_61)]) (by exact ⟨rfl, rfl, rfl, rfl, rfl, rfl, trivial⟩)
      obtain ⟨j_106, ej_106, hl_84⟩ := bindS hl_84
      refine wp_cut_ (fun a_ w_ => ∃ (v_107 : Value), St 56 a_ [(4, .int .i64 c_69), (3, v_107), (2, v_65), (1, v_61)] ∧ Wd w w_ [] ∧ RepV (.sl gt0) w_ (Kx K w.heap.size []) v_107 j_106 ∧ RepV (.sl (.int .i64)) w_ (Kx K w.heap.size []) v_65 (⟨[0, 0, 0, 8, 7, 6, 0, 6, 0, 0], some 10⟩ : Sl (Int)) ∧ RepV (.sl gt2) w_ (Kx K w.heap.size []) v_61 (⟨[(0, 1, (⟨[1], some 1⟩ : Sl (Int)), 0), (0, 2, (⟨[1], some 1⟩ : Sl (Int)), 5), (0, 1, (⟨[1, 2], some 2⟩ : Sl (Int)), 0), (0, 1, (⟨[1, 2], some 2⟩ : Sl (Int)), 0), (0, 1, (⟨[1, 2, 1], some 3⟩ : Sl (Int)), 0), (0, 4, (⟨[1], some 1⟩ : Sl (Int)), 0), (0, 3, (⟨[1, 2], some 2⟩ : Sl (Int)), 0), (0, 2, (⟨[1, 2], some 2⟩ : Sl (Int)), 6), (0, 4, (⟨[1, 2], some 2⟩ : Sl (Int)), 0), (0, 4, (⟨[1], some 1⟩ : Sl (Int)), 0)], some 10⟩ : Sl (Int × Int × (Sl (Int)) × Int))) ?_ ?_
      ·refine wp_cond_split (S.eval (show ev _ _ = some (.bool (t_93.2 == 0)) from rfl)) ?_ ?_
       ·intro hc
        rw [if_pos hc] at ej_106
        refine wp_region_lit ?_
        refine wl_pureK (l' := [(3, v_94), (4, .int .i64 c_69), (3, v_72), (2, v_65), (1, v_61)]) S tys tys_ok 2 [3, 4, 2, 1] (by kernel_rfl) ?_
        clear S; intro a S
        refine wpList_nil ?_
        refine then_n ?_
        obtain rfl := Option.some.inj ej_106
        exact ⟨v_94, S.sub (by exact ⟨rfl, rfl, rfl, rfl, trivial⟩), W, R_96, R_66, R_62⟩
       ·intro hc
        rw [if_neg (Bool.eq_false_iff.1 hc)] at ej_106
        refine wp_skip ?_
        refine then_n ?_
        obtain rfl := Option.some.inj ej_106
        exact ⟨v_72, S.sub (by exact ⟨rfl, rfl, rfl, rfl, trivial⟩), W, R_73, R_66, R_62⟩
      clear S W; rintro a w_109 ⟨v_107, S, W, R_108, R_66, R_62⟩
      refine blk_n ?_
      refine then_n ?_
      refine wp_region_lit ?_
      refine wl_pure (l' := [(33, .int .i64 c_69), (4, .int .i64 c_69), (3, v_107), (2, v_65), (1, v_61)]) S tys tys_ok 1 (by kernel_rfl) ?_
      clear S; intro a S
      obtain ⟨x_110, ex_110, hl_84⟩ := bindS hl_84
      refine w_go S rfl (op_arith S .i64 (c_69 + 1) rfl (.inl rfl) rfl rfl rfl rfl ex_110 ?_)
      clear S; intro a S
      refine wl_pure (l' := [(4, .int .i64 x_110), (34, .int .i64 x_110), (33, .int .i64 c_69), (4, .int .i64 c_69), (3, v_107), (2, v_65), (1, v_61)]) S tys tys_ok 1 (by kernel_rfl) ?_
      clear S; intro a S
      refine wpList_nil ?_
      refine then_n ?_
      exact ⟨x_110, j_106, ⟨v_107, S.sub (by exact ⟨rfl, rfl, rfl, rfl, trivial⟩), W, (ckI_some ex_110).2.1, R_108, R_66, R_62, hl_84⟩⟩
    ·intro hc
     rw [if_neg (Bool.eq_false_iff.1 hc)] at hl_84
     refine wp_exit ?_
     refine then_x ?_
     refine then_x ?_
     refine blk_hit ?_
     refine then_n ?_
     obtain rfl := Option.some.inj hl_84
     exact ⟨_, rfl, ⟨v_72, S.sub (by exact ⟨rfl, trivial⟩), W, R_73⟩⟩
 clear S W; rintro a w_111 ⟨s_80, rfl, v_81, S, W, R_82⟩
 replace h := lr_inl h; try dsimp only at h
 refine then_n ?_
 refine wp_seq ?_
 refine wp_region_lit ?_
 refine wl_pure (l' := [(53, v_81), (3, v_81)]) S tys tys_ok 1 (by kernel_rfl) ?_
 clear S; intro a S
 refine w_go S rfl (op_len (K := _) S rfl ty23 rfl rfl rfl R_82 ?_)
 clear S; intro a G_112 S
 refine wl_pureK (l' := [(0, .bool ((lenI s_80) == 0))]) S tys tys_ok 2 [0] (by kernel_rfl) ?_
 clear S; intro a S
 refine wpList_nil ?_
 refine then_n ?_
 refine wp_ret ?_
 obtain rfl := Option.some.inj h
 exact b_ret1 S rfl rfl ⟨_, rfl, RepV.mkBool, W.below⟩
theorem cb11 : callB Try.prog 11 = true := by kernel_rfl
def p37 (n : Nat) (x0 : Int) : Option ((Sl (Int))) :=
 (quoI .u8 x0 3).bind fun x_1 =>
 (remI .u8 x_1 3).bind fun x_2 =>
 (quoI .u8 x0 9).bind fun x_3 =>
 (remI .u8 x_3 3).bind fun x_4 =>
 (quoI .u8 x0 27).bind fun x_5 =>
 (remI .u8 x_5 3).bind fun x_6 =>
 (remI .u8 x0 3).bind fun x_11 =>
 (slI (⟨[IntKind.wrap .u8 (1 + x_2), IntKind.wrap .u8 (1 + x_4), IntKind.wrap .u8 (1 + x_6)], some 3⟩ : Sl (Int)) 0 (IntKind.wrap .u8 (1 + x_11))).bind fun s_14 =>
 some s_14
set_option maxHeartbeats 4000000 in
set_option maxRecDepth 100000 in
/-- plugboard/plugboardlaw31.path -/
theorem c37 (K : Nat → Prop) (n : Nat) (w : World) (x0 : Int) (G0 : InR .u8 x0) {r : (Sl (Int))} (h : p37 n x0 = some r) :
  Calls Try.prog 37 #[.int .u8 x0] w (Ret1 (.sl (.int .u8)) w (Kx K w.heap.size []) r) := by
 refine enter (args := [.int .u8 x0]) Try.func37 rfl 22 rfl rfl fun a S => ?_
 have W := Wd.start w
 unfold p37 at h
 replace S : St 22 a [(0, .int .u8 x0)] := S
 refine wp_seq ?_
 refine wp_region_lit ?_
 refine wl_pure (l' := [(2, .slice .none 0 0), (0, .int .u8 x0)]) S tys tys_ok 1 (by kernel_rfl) ?_
 clear S; intro a S
 refine wpList_nil ?_
 refine then_n ?_
 replace S := S.sub (l' := [(0, .int .u8 x0)]) (by exact ⟨rfl, trivial⟩)
 refine wp_seq ?_
 refine wp_region_lit ?_
 refine wl_pure (l' := [(4, .int .u8 x0), (0, .int .u8 x0)]) S tys tys_ok 1 (by kernel_rfl) ?_
 clear S; intro a S
 obtain ⟨x_1, ex_1, h⟩ := bindS h
 refine w_go S rfl (op_quo S .u8 rfl rfl rfl rfl rfl ex_1 ?_)
 clear S; intro a S
 obtain ⟨x_2, ex_2, h⟩ := bindS h
 refine w_go S rfl (op_rem S .u8 rfl rfl rfl rfl rfl ex_2 ?_)
 clear S; intro a S
 refine wl_pureK (l' := [(8, .int .u8 x0), (7, .int .u8 (IntKind.wrap .u8 (1 + x_2))), (0, .int .u8 x0)]) S tys tys_ok 2 [8, 7, 0] (by kernel_rfl) ?_
 clear S; intro a S
 obtain ⟨x_3, ex_3, h⟩ := bindS h
 refine w_go S rfl (op_quo S .u8 rfl rfl rfl rfl rfl ex_3 ?_)
 clear S; intro a S
 obtain ⟨x_4, ex_4, h⟩ := bindS h
 refine w_go S rfl (op_rem S .u8 rfl rfl rfl rfl rfl ex_4 ?_)
 clear S; intro a S
 refine wl_pureK (l' := [(12, .int .u8 x0), (11, .int .u8 (IntKind.wrap .u8 (1 + x_4))), (7, .int .u8 (IntKind.wrap .u8 (1 + x_2))), (0, .int .u8 x0)]) S tys tys_ok 2 [12, 11, 7, 0] (by kernel_rfl) ?_
 clear S; intro a S
 obtain ⟨x_5, ex_5, h⟩ := bindS h
 refine w_go S rfl (op_quo S .u8 rfl rfl rfl rfl rfl ex_5 ?_)
 clear S; intro a S
 obtain ⟨x_6, ex_6, h⟩ := bindS h
 refine w_go S rfl (op_rem S .u8 rfl rfl rfl rfl rfl ex_6 ?_)
 clear S; intro a S
 refine wl_pureK (l' := [(15, .int .u8 (IntKind.wrap .u8 (1 + x_6))), (11, .int .u8 (IntKind.wrap .u8 (1 + x_4))), (7, .int .u8 (IntKind.wrap .u8 (1 + x_2))), (0, .int .u8 x0)]) S tys tys_ok 1 [15, 11, 7, 0] (by kernel_rfl) ?_
 clear S; intro a S
 refine w_go S rfl (op_buildSlice (K := K) (e := (.int .u8)) (vs := [.int .u8 (IntKind.wrap .u8 (1 + x_2)), .int .u8 (IntKind.wrap .u8 (1 + x_4)), .int .u8 (IntKind.wrap .u8 (1 + x_6))]) (xs := [IntKind.wrap .u8 (1 + x_2), IntKind.wrap .u8 (1 + x_4), IntKind.wrap .u8 (1 + x_6)]) S W rfl ty24 rfl rfl (by kernel_rfl) rfl rfl rfl rfl rfl ⟨(RepV.mkInt (inR_wrap _ _)), (RepV.mkInt (inR_wrap _ _)), (RepV.mkInt (inR_wrap _ _)), trivial⟩ ?_)
 clear S; intro a w_10 v_7 hb_9 R_8 S
 replace W := W.step hb_9
 refine wl_pureK (l' := [(3, v_7), (0, .int .u8 x0)]) S tys tys_ok 1 [3, 0] (by kernel_rfl) ?_
 clear S; intro a S
 refine wpList_nil ?_
 refine then_n ?_
 refine wp_seq ?_
 refine wp_region_lit ?_
 refine wl_pure (l' := [(18, .int .u8 x0), (17, v_7), (3, v_7), (0, .int .u8 x0)]) S tys tys_ok 2 (by kernel_rfl) ?_
 clear S; intro a S
 obtain ⟨x_11, ex_11, h⟩ := bindS h
 refine w_go S rfl (op_rem S .u8 rfl rfl rfl rfl rfl ex_11 ?_)
 clear S; intro a S
 refine wl_pureK (l' := [(20, .int .u8 (IntKind.wrap .u8 (1 + x_11))), (17, v_7)]) S tys tys_ok 1 [20, 17] (by kernel_rfl) ?_
 clear S; intro a S
 obtain ⟨s_14, es_14, h⟩ := bindS h
 refine w_go S rfl (op_slice S rfl ty24 rfl rfl rfl R_8 (.inl ⟨rfl, rfl⟩) (.inr ⟨_, _, rfl, rfl⟩) es_14 ?_)
 clear S; intro a v_12 R_13 S
 refine wl_pureK (l' := [(2, v_12)]) S tys tys_ok 1 [2] (by kernel_rfl) ?_
 clear S; intro a S
 refine wpList_nil ?_
 refine then_n ?_
 refine wp_ret ?_
 obtain rfl := Option.some.inj h
 exact b_ret1 S rfl rfl ⟨_, rfl, R_13.out, W.below⟩
theorem cb37 : callB Try.prog 37 = true := by kernel_rfl
def p13 (n : Nat) (x0 : Int × Int × Int × Int) (x1 : Int) : Option ((Int × Int × (Sl (Int)) × Int)) :=
 (remI .u8 x0.1 4).bind fun x_11 =>
 (p37 n x0.2.1).bind fun t_14 =>
 (if ((IntKind.wrap .u8 (1 + x_11)) == 2) then ((remI .u8 x0.2.2.1 9).bind fun x_91 => some (x1, IntKind.wrap .u8 (1 + x_11), t_14, IntKind.wrap .u8 (1 + x_91))) else some (x1, IntKind.wrap .u8 (1 + x_11), t_14, 0)).bind fun (j_88 : (Int × Int × (Sl (Int)) × Int)) =>
 some j_88
set_option maxHeartbeats 4000000 in
set_option maxRecDepth 100000 in
/-- (plugboard/plugboardlaw31.Act).Of -/
theorem c13 (K : Nat → Prop) (n : Nat) (w : World) (x0 : Int × Int × Int × Int) (v0 : Value) (R0 : RepV gt1 w K v0 x0) (x1 : Int) (G1 : InR .i64 x1) {r : (Int × Int × (Sl (Int)) × Int)} (h : p13 n x0 x1 = some r) :
  Calls Try.prog 13 #[v0, .int .i64 x1] w (Ret1 gt2 w (Kx K w.heap.size []) r) := by
 refine enter (args := [v0, .int .i64 x1]) Try.func13 rfl 24 rfl rfl fun a S => ?_
 have W := Wd.start w
 replace R0 := R0.arg
 unfold p13 at h
 replace S : St 24 a [(0, v0), (1, .int .i64 x1)] := S
 refine wp_seq ?_
 refine wp_region_lit ?_
 refine w_go S rfl (op_box S rfl rfl rfl rfl rfl R0 ?_)
 clear S; intro a w_3 b_1 hb_4 B_2 S
 replace R0 := R0.box hb_4
 replace W := W.box hb_4
 refine w_go S rfl (op_alloc (K := K) (n := w.heap.size) (L := [some b_1]) (t := gt2) (y := (0, 0, ⟨[], some 0⟩, 0)) S rfl rfl rfl _ z31 (fun w K => ⟨[.int .i64 0], [.int .u8 0, .slice .none 0 0, .int .u8 0], rfl, ⟨rfl, by decide⟩, ⟨[.int .u8 0], [.slice .none 0 0, .int .u8 0], rfl, ⟨rfl, by decide⟩, ⟨[.slice .none 0 0], [.int .u8 0], rfl, ⟨.none, 0, 0, rfl, rfl, Nat.le_refl _, by decide, fun k h => Option.some.inj h, .inl rfl⟩, ⟨rfl, by decide⟩⟩⟩⟩) ?_)
 clear S; intro a w_7 b_5 hb_8 B_6 S
 replace R0 := R0.box hb_8
 replace B_2 := B_2.box hb_8
 replace W := W.box hb_8
 refine wpList_nil ?_
 refine then_n ?_
 replace S := S.sub (l' := [(4, pB b_5), (2, pB b_1), (1, .int .i64 x1)]) (by exact ⟨rfl, rfl, rfl, trivial⟩)
 refine wp_seq ?_
 obtain ⟨x_11, ex_11, h⟩ := bindS h
 obtain ⟨t_14, et_14, h⟩ := bindS h
 refine wp_region_lay 10 [10, 10, 10, 10, 10, 10, 10, 10, 10, 10] w [9] [some b_5, some b_1] [isIG .i64 x1, eqvG (.pointer (some ((⟨b_1, 0, .none⟩ : Addr).add (coff gf1 0)))), isIG .u8 x0.1, isIG .u8 x_11, isIG .u8 (IntKind.wrap .u8 (1 + x_11)), eqvG (.pointer (some ((⟨b_1, 0, .none⟩ : Addr).add (coff gf1 1)))), isIG .u8 x0.2.1, isRepG (.sl (.int .u8)) K w.heap.size [9] [some b_5, some b_1] t_14, isRepG gt2 K w.heap.size [9] [some b_5, some b_1] (x1, IntKind.wrap .u8 (1 + x_11), t_14, 0), isBxG gt2 31 K w.heap.size [9] [some b_5, some b_1] 9 (0, 0, ⟨[], some 0⟩, 0)] [[], [], [(1, 7)], [(2, 8)], [(3, 9)], [], [(5, 11)], [(6, 12)], [(0, 6), (4, 10), (7, 13)], []] (by kernel_rfl) (by rw [S.size]; kernel_rfl) (by kernel_rfl) (by kernel_rfl) (by kernel_rfl) rfl ⟨stabG_I, (stabG_eqv _), stabG_I, stabG_I, stabG_I, (stabG_eqv _), stabG_I, stabG_rep, stabG_rep, stabG_bx, trivial⟩ ?_ ?_
 ·
  refine RunAllG.cons (isIG .i64 x1) [] rfl rfl ?_ ?_
  ·intro M_ W_ hW hU_ hV_
   have S1 := S
   exact RPostG.one (v := .int .i64 x1) S1 tys tys_ok rfl (by kernel_rfl) S.defers ⟨rfl, G1⟩ (Below.refl _ _)
  refine RunAllG.cons (eqvG (.pointer (some ((⟨b_1, 0, .none⟩ : Addr).add (coff gf1 0))))) [] rfl rfl ?_ ?_
  ·intro M_ W_ hW hU_ hV_
   have S1 := S
   replace B_2 : Bx gt1 40 W_ (Kx K w.heap.size (lm [9] [some b_5, some b_1] M_)) b_1 x0 := Bx.gr (g := (fun _ => none, w_7)) (Bx.lm0 B_2) hW
   exact RPostG.one (v := .pointer (some ((⟨b_1, 0, .none⟩ : Addr).add (coff gf1 0)))) S1 tys tys_ok rfl (by kernel_rfl) S.defers rfl (Below.refl _ _)
  refine RunAllG.cons (isIG .u8 x0.1) [(eqvG (.pointer (some ((⟨b_1, 0, .none⟩ : Addr).add (coff gf1 0)))), 7)] rfl rfl ?_ ?_
  ·intro M_ W_ hW hU_ hV_
   have S1 := S
   intro v_26 hF_25; obtain rfl : .pointer (some ((⟨b_1, 0, .none⟩ : Addr).add (coff gf1 0))) = v_26 := Eq.symm hF_25
   replace S1 := S1.put (by decide : 7 < 24) (.pointer (some ((⟨b_1, 0, .none⟩ : Addr).add (coff gf1 0))))
   refine fillG_nil S1 ?_; clear S1; intro a_ S1
   replace B_2 : Bx gt1 40 W_ (Kx K w.heap.size (lm [9] [some b_5, some b_1] M_)) b_1 x0 := Bx.gr (g := (fun _ => none, w_7)) (Bx.lm0 B_2) hW
   have S0 := S.defers; replace S := S1; clear S1
   refine w_go S rfl (op_load (t := (.int .u8)) (x := x0.1) S rfl ty5 rfl rfl rfl (RepAt.add 0 (RepAt.st (t := gf1) B_2.at_)) ?_)
   clear S; intro a v_27 R_28 S
   obtain ⟨rfl, GR_28⟩ := RepV.int R_28
   refine wpList_nil ?_
   exact RPostG.mk_ S rfl S0 ⟨rfl, GR_28⟩ (Below.refl _ _)
  refine RunAllG.cons (isIG .u8 x_11) [(isIG .u8 x0.1, 8)] rfl rfl ?_ ?_
  ·intro M_ W_ hW hU_ hV_
   have S1 := S
   rintro _ ⟨rfl, hF_29⟩
   replace S1 := S1.put (by decide : 8 < 24) (.int .u8 x0.1)
   refine fillG_nil S1 ?_; clear S1; intro a_ S1
   have S0 := S.defers; replace S := S1; clear S1
   refine w_go S rfl (op_rem S .u8 rfl rfl rfl rfl rfl ex_11 ?_)
   clear S; intro a S
   refine wpList_nil ?_
   exact RPostG.mk_ S rfl S0 ⟨rfl, (inR_rem ex_11)⟩ (Below.refl _ _)
  refine RunAllG.cons (isIG .u8 (IntKind.wrap .u8 (1 + x_11))) [(isIG .u8 x_11, 9)] rfl rfl ?_ ?_
  ·intro M_ W_ hW hU_ hV_
   have S1 := S
   rintro _ ⟨rfl, hF_31⟩
   replace S1 := S1.put (by decide : 9 < 24) (.int .u8 x_11)
   exact RPostG.one (v := .int .u8 (IntKind.wrap .u8 (1 + x_11))) S1 tys tys_ok rfl (by kernel_rfl) S.defers ⟨rfl, (inR_wrap _ _)⟩ (Below.refl _ _)
  refine RunAllG.cons (eqvG (.pointer (some ((⟨b_1, 0, .none⟩ : Addr).add (coff gf1 1))))) [] rfl rfl ?_ ?_
  ·intro M_ W_ hW hU_ hV_
   have S1 := S
   replace B_2 : Bx gt1 40 W_ (Kx K w.heap.size (lm [9] [some b_5, some b_1] M_)) b_1 x0 := Bx.gr (g := (fun _ => none, w_7)) (Bx.lm0 B_2) hW
   exact RPostG.one (v := .pointer (some ((⟨b_1, 0, .none⟩ : Addr).add (coff gf1 1)))) S1 tys tys_ok rfl (by kernel_rfl) S.defers rfl (Below.refl _ _)
  refine RunAllG.cons (isIG .u8 x0.2.1) [(eqvG (.pointer (some ((⟨b_1, 0, .none⟩ : Addr).add (coff gf1 1)))), 11)] rfl rfl ?_ ?_
  ·intro M_ W_ hW hU_ hV_
   have S1 := S
   intro v_34 hF_33; obtain rfl : .pointer (some ((⟨b_1, 0, .none⟩ : Addr).add (coff gf1 1))) = v_34 := Eq.symm hF_33
   replace S1 := S1.put (by decide : 11 < 24) (.pointer (some ((⟨b_1, 0, .none⟩ : Addr).add (coff gf1 1))))
   refine fillG_nil S1 ?_; clear S1; intro a_ S1
   replace B_2 : Bx gt1 40 W_ (Kx K w.heap.size (lm [9] [some b_5, some b_1] M_)) b_1 x0 := Bx.gr (g := (fun _ => none, w_7)) (Bx.lm0 B_2) hW
   have S0 := S.defers; replace S := S1; clear S1
   refine w_go S rfl (op_load (t := (.int .u8)) (x := x0.2.1) S rfl ty5 rfl rfl rfl (RepAt.add 1 (RepAt.st (t := gf1) B_2.at_)) ?_)
   clear S; intro a v_35 R_36 S
   obtain ⟨rfl, GR_36⟩ := RepV.int R_36
   refine wpList_nil ?_
   exact RPostG.mk_ S rfl S0 ⟨rfl, GR_36⟩ (Below.refl _ _)
  refine RunAllG.cons (isRepG (.sl (.int .u8)) K w.heap.size [9] [some b_5, some b_1] t_14) [(isIG .u8 x0.2.1, 12)] rfl rfl ?_ ?_
  ·intro M_ W_ hW hU_ hV_
   have S1 := S
   rintro _ ⟨rfl, hF_37⟩
   replace S1 := S1.put (by decide : 12 < 24) (.int .u8 x0.2.1)
   refine fillG_nil S1 ?_; clear S1; intro a_ S1
   replace W : Wd w W_ (lm [9] [some b_5, some b_1] M_) := Gr.wd hW (Wd.lm0 _ W)
   have S0 := S.defers; replace S := S1; clear S1
   refine w_go S rfl (op_call (vs := [.int .u8 x0.2.1]) S rfl cb37 rfl rfl rfl (c37 (Kx K w.heap.size (lm [9] [some b_5, some b_1] M_)) n W_ x0.2.1 hF_37 et_14) ?_)
   rintro _ w_42 ⟨v_39, rfl, R_40, hb_41⟩; refine ⟨_, rfl, ?_⟩
   replace R_40 := RepV.back R_40 W
   clear S; intro a S
   refine wpList_nil ?_
   exact RPostG.mk_ S rfl S0 R_40 (hb_41)
  refine RunAllG.cons (isRepG gt2 K w.heap.size [9] [some b_5, some b_1] (x1, IntKind.wrap .u8 (1 + x_11), t_14, 0)) [(isIG .i64 x1, 6), (isIG .u8 (IntKind.wrap .u8 (1 + x_11)), 10), (isRepG (.sl (.int .u8)) K w.heap.size [9] [some b_5, some b_1] t_14, 13)] rfl rfl ?_ ?_
  ·intro M_ W_ hW hU_ hV_
   have S1 := S
   rintro _ ⟨rfl, hF_43⟩
   replace S1 := S1.put (by decide : 6 < 24) (.int .i64 x1)
   rintro _ ⟨rfl, hF_45⟩
   replace S1 := S1.put (by decide : 10 < 24) (.int .u8 (IntKind.wrap .u8 (1 + x_11)))
   intro v_48 hF_47; replace hF_47 : RepV (.sl (.int .u8)) W_ (Kx K w.heap.size (lm [9] [some b_5, some b_1] M_)) v_48 t_14 := hF_47
   replace S1 := S1.put (by decide : 13 < 24) (v_48)
   refine fillG_nil S1 ?_; clear S1; intro a_ S1
   have S0 := S.defers; replace S := S1; clear S1
   refine w_go S rfl (op_build (K := (Kx K w.heap.size (lm [9] [some b_5, some b_1] M_))) (f := gf2) (z0 := (0, 0, ⟨[], some 0⟩, 0)) (x := (x1, IntKind.wrap .u8 (1 + x_11), t_14, 0)) (vs := [.int .i64 x1, .int .u8 (IntKind.wrap .u8 (1 + x_11)), v_48]) S _ rfl ty31 z31 (fun w K => ⟨[.int .i64 0], [.int .u8 0, .slice .none 0 0, .int .u8 0], rfl, ⟨rfl, by decide⟩, ⟨[.int .u8 0], [.slice .none 0 0, .int .u8 0], rfl, ⟨rfl, by decide⟩, ⟨[.slice .none 0 0], [.int .u8 0], rfl, ⟨.none, 0, 0, rfl, rfl, Nat.le_refl _, by decide, fun k h => Option.some.inj h, .inl rfl⟩, ⟨rfl, by decide⟩⟩⟩⟩) rfl rfl rfl [(0, .int .i64 x1), (1, .int .u8 (IntKind.wrap .u8 (1 + x_11))), (2, v_48)] rfl ⟨_, (RepV.mkInt hF_43), rfl, rfl, ⟨_, (RepV.mkInt hF_45), rfl, rfl, ⟨_, hF_47, rfl, rfl, rfl⟩⟩⟩ ?_)
   clear S; intro a v_49 R_50 S
   refine wpList_nil ?_
   exact RPostG.mk_ S rfl S0 R_50 (Below.refl _ _)
  refine RunAllG.cons (isBxG gt2 31 K w.heap.size [9] [some b_5, some b_1] 9 (0, 0, ⟨[], some 0⟩, 0)) [] rfl rfl ?_ ?_
  ·intro M_ W_ hW hU_ hV_
   have S1 := S
   refine fillG_nil S1 ?_; clear S1; intro a_ S1
   replace W : Wd w W_ (lm [9] [some b_5, some b_1] M_) := Gr.wd hW (Wd.lm0 _ W)
   have S0 := S.defers; replace S := S1; clear S1
   refine w_go S rfl (op_alloc (K := K) (n := w.heap.size) (L := (lm [9] [some b_5, some b_1] M_)) (t := gt2) (y := (0, 0, ⟨[], some 0⟩, 0)) S rfl rfl rfl _ z31 (fun w K => ⟨[.int .i64 0], [.int .u8 0, .slice .none 0 0, .int .u8 0], rfl, ⟨rfl, by decide⟩, ⟨[.int .u8 0], [.slice .none 0 0, .int .u8 0], rfl, ⟨rfl, by decide⟩, ⟨[.slice .none 0 0], [.int .u8 0], rfl, ⟨.none, 0, 0, rfl, rfl, Nat.le_refl _, by decide, fun k h => Option.some.inj h, .inl rfl⟩, ⟨rfl, by decide⟩⟩⟩⟩) ?_)
   clear S; intro a w_53 b_51 hb_54 B_52 S
   refine wpList_nil ?_
   exact RPostG.lay S rfl S0 (some b_51) (NewB.newO hb_54) hU_ (by decide) (by decide) ⟨b_51, rfl, gupd_at, Bx.laid B_52 (by decide) (by decide)⟩
  exact trivial
 intro M_ w_55 hb_56
 refine EndEG.some_ rfl ?_
 rintro _ ⟨rfl, hF_57⟩
 replace S := S.put (by decide : 6 < 24) (.int .i64 x1)
 refine EndEG.some_ rfl ?_
 intro v_60 hF_59; obtain rfl : .pointer (some ((⟨b_1, 0, .none⟩ : Addr).add (coff gf1 0))) = v_60 := Eq.symm hF_59
 replace S := S.put (by decide : 7 < 24) (.pointer (some ((⟨b_1, 0, .none⟩ : Addr).add (coff gf1 0))))
 refine EndEG.some_ rfl ?_
 rintro _ ⟨rfl, hF_61⟩
 replace S := S.put (by decide : 8 < 24) (.int .u8 x0.1)
 refine EndEG.some_ rfl ?_
 rintro _ ⟨rfl, hF_63⟩
 replace S := S.put (by decide : 9 < 24) (.int .u8 x_11)
 refine EndEG.some_ rfl ?_
 rintro _ ⟨rfl, hF_65⟩
 replace S := S.put (by decide : 10 < 24) (.int .u8 (IntKind.wrap .u8 (1 + x_11)))
 refine EndEG.some_ rfl ?_
 intro v_68 hF_67; obtain rfl : .pointer (some ((⟨b_1, 0, .none⟩ : Addr).add (coff gf1 1))) = v_68 := Eq.symm hF_67
 replace S := S.put (by decide : 11 < 24) (.pointer (some ((⟨b_1, 0, .none⟩ : Addr).add (coff gf1 1))))
 refine EndEG.some_ rfl ?_
 rintro _ ⟨rfl, hF_69⟩
 replace S := S.put (by decide : 12 < 24) (.int .u8 x0.2.1)
 refine EndEG.some_ rfl ?_
 intro v_72 hF_71; replace hF_71 : RepV (.sl (.int .u8)) w_55 (Kx K w.heap.size (lm [9] [some b_5, some b_1] M_)) v_72 t_14 := hF_71
 replace S := S.put (by decide : 13 < 24) (v_72)
 refine EndEG.some_ rfl ?_
 intro v_74 hF_73; replace hF_73 : RepV gt2 w_55 (Kx K w.heap.size (lm [9] [some b_5, some b_1] M_)) v_74 (x1, IntKind.wrap .u8 (1 + x_11), t_14, 0) := hF_73
 replace S := S.put (by decide : 14 < 24) (v_74)
 refine EndEG.some_ rfl ?_
 rintro _ ⟨b_77, rfl, hF_75, B_78⟩; replace B_78 : Bx gt2 31 w_55 (Kx K w.heap.size (lm [9] [some b_5, some b_1] M_)) b_77 (0, 0, ⟨[], some 0⟩, 0) := B_78
 replace hF_75 : M_ 9 = some (some b_77) := hF_75
 replace S := S.put (by decide : 5 < 24) (.pointer (some (⟨b_77, 0, .none⟩ : Addr)))
 refine endEG_nil S ?_; clear S; intro a S
 replace B_2 : Bx gt1 40 w_55 (Kx K w.heap.size (lm [9] [some b_5, some b_1] M_)) b_1 x0 := Bx.gr (g := (fun _ => none, w_7)) (Bx.lm0 B_2) hb_56
 replace B_6 : Bx gt2 31 w_55 (Kx K w.heap.size (lm [9] [some b_5, some b_1] M_)) b_5 (0, 0, ⟨[], some 0⟩, 0) := Bx.gr (g := (fun _ => none, w_7)) (Bx.lm0 B_6) hb_56
 replace W : Wd w w_55 (lm [9] [some b_5, some b_1] M_) := Gr.wd hb_56 (Wd.lm0 _ W)
 have eL_ : lm [9] [some b_5, some b_1] M_ = [some b_77, some b_5, some b_1] := by simp [lm, hF_75]
 rw [eL_] at W
 rw [eL_] at hF_71
 rw [eL_] at hF_73
 rw [eL_] at B_2
 rw [eL_] at B_6
 rw [eL_] at B_78
 clear eL_
 refine w_go S rfl (op_store (t' := gt2) S rfl rfl ty31 rfl rfl rfl B_78 (by simp) Ln.whole hF_73 ?_)
 intro w_79 hw_80 B_
 replace hF_71 := hF_71.wrote hw_80 (by simp)
 replace hF_73 := hF_73.wrote hw_80 (by simp)
 replace B_2 := B_2.wrote hw_80 (by simp) (W.bne (p := 2) (q := 0) (by decide) rfl rfl)
 replace B_6 := B_6.wrote hw_80 (by simp) (W.bne (p := 1) (q := 0) (by decide) rfl rfl)
 replace W := W.wrote hw_80 (by simp)
 replace B_78 : Bx gt2 31 w_79 (Kx K w.heap.size [some b_77, some b_5, some b_1]) b_77 (x1, IntKind.wrap .u8 (1 + x_11), t_14, 0) := B_; clear B_
 refine wpList_nil ?_
 refine then_n ?_
 replace S := S.sub (l' := [(5, pB b_77), (4, pB b_5), (2, pB b_1)]) (by exact ⟨rfl, rfl, rfl, trivial⟩)
 refine wp_seq ?_
 refine wp_seq ?_
 refine wp_region_lit ?_
 refine wl_pure (l' := [(15, .pointer (some ((⟨b_77, 0, .none⟩ : Addr).add (coff gf2 1)))), (5, pB b_77), (4, pB b_5), (2, pB b_1)]) S tys tys_ok 1 (by kernel_rfl) ?_
 clear S; intro a S
 refine w_go S rfl (op_load (t := (.int .u8)) (x := IntKind.wrap .u8 (1 + x_11)) S rfl ty29 rfl rfl rfl (RepAt.add 1 (RepAt.st (t := gf2) B_78.at_)) ?_)
 clear S; intro a v_81 R_82 S
 obtain ⟨rfl, GR_82⟩ := RepV.int R_82
 refine wl_pure (l' := [(17, .bool ((IntKind.wrap .u8 (1 + x_11)) == 2)), (16, .int .u8 (IntKind.wrap .u8 (1 + x_11))), (15, .pointer (some ((⟨b_77, 0, .none⟩ : Addr).add (coff gf2 1)))), (5, pB b_77), (4, pB b_5), (2, pB b_1)]) S tys tys_ok 1 (by kernel_rfl) ?_
 clear S; intro a S
 refine wpList_nil ?_
 refine then_n ?_
 replace S := S.sub (l' := [(17, .bool ((IntKind.wrap .u8 (1 + x_11)) == 2)), (5, pB b_77), (4, pB b_5), (2, pB b_1)]) (by exact ⟨rfl, rfl, rfl, rfl, trivial⟩)
 obtain ⟨j_88, ej_88, h⟩ := bindS h
 refine wp_cut_ (fun a_ w_ => St 24 a_ [(5, pB b_77), (4, pB b_5)] ∧ Wd w w_ [some b_77, some b_5, some b_1] ∧ Bx gt1 40 w_ (Kx K w.heap.size [some b_77, some b_5, some b_1]) b_1 x0 ∧ Bx gt2 31 w_ (Kx K w.heap.size [some b_77, some b_5, some b_1]) b_5 (0, 0, ⟨[], some 0⟩, 0) ∧ Bx gt2 31 w_ (Kx K w.heap.size [some b_77, some b_5, some b_1]) b_77 j_88) ?_ ?_
 ·refine wp_cond_split (S.eval (show ev _ _ = some (.bool ((IntKind.wrap .u8 (1 + x_11)) == 2)) from rfl)) ?_ ?_
  ·intro hc
   rw [if_pos hc] at ej_88
   refine wp_region_lit ?_
   refine wl_pure (l' := [(18, .pointer (some ((⟨b_1, 0, .none⟩ : Addr).add (coff gf1 2)))), (17, .bool ((IntKind.wrap .u8 (1 + x_11)) == 2)), (5, pB b_77), (4, pB b_5), (2, pB b_1)]) S tys tys_ok 1 (by kernel_rfl) ?_
   clear S; intro a S
   refine w_go S rfl (op_load (t := (.int .u8)) (x := x0.2.2.1) S rfl ty5 rfl rfl rfl (RepAt.add 2 (RepAt.st (t := gf1) B_2.at_)) ?_)
   clear S; intro a v_89 R_90 S
   obtain ⟨rfl, GR_90⟩ := RepV.int R_90
   obtain ⟨x_91, ex_91, ej_88⟩ := bindS ej_88
   refine w_go S rfl (op_rem S .u8 rfl rfl rfl rfl rfl ex_91 ?_)
   clear S; intro a S
   refine wl_pureK (l' := [(22, .pointer (some ((⟨b_77, 0, .none⟩ : Addr).add (coff gf2 3)))), (21, .int .u8 (IntKind.wrap .u8 (1 + x_91))), (5, pB b_77), (4, pB b_5)]) S tys tys_ok 2 [22, 21, 5, 4] (by kernel_rfl) ?_
   clear S; intro a S
   refine w_go S rfl (op_store (t' := (.int .u8)) S rfl rfl ty5 rfl (addr_add1 _ _) rfl B_78 (by simp) (Ln.st (Ln.comp 3)) ((RepV.mkInt (inR_wrap _ _)) : RepV (.int .u8) w_79 (Kx K w.heap.size [some b_77, some b_5, some b_1]) _ (IntKind.wrap .u8 (1 + x_91))) ?_)
   intro w_92 hw_93 B_
   replace B_2 := B_2.wrote hw_93 (by simp) (W.bne (p := 2) (q := 0) (by decide) rfl rfl)
   replace B_6 := B_6.wrote hw_93 (by simp) (W.bne (p := 1) (q := 0) (by decide) rfl rfl)
   replace W := W.wrote hw_93 (by simp)
   replace B_78 : Bx gt2 31 w_92 (Kx K w.heap.size [some b_77, some b_5, some b_1]) b_77 (x1, IntKind.wrap .u8 (1 + x_11), t_14, IntKind.wrap .u8 (1 + x_91)) := B_; clear B_
   refine wpList_nil ?_
   refine then_n ?_
   obtain rfl := Option.some.inj ej_88
   exact ⟨S.sub (by exact ⟨rfl, rfl, trivial⟩), W, B_2, B_6, B_78⟩
  ·intro hc
   rw [if_neg (Bool.eq_false_iff.1 hc)] at ej_88
   refine wp_skip ?_
   refine then_n ?_
   obtain rfl := Option.some.inj ej_88
   exact ⟨S.sub (by exact ⟨rfl, rfl, trivial⟩), W, B_2, B_6, B_78⟩
 clear S W; rintro a w_94 ⟨S, W, B_2, B_6, B_78⟩
 refine then_n ?_
 refine wp_seq ?_
 refine wp_region_lit ?_
 refine w_go S rfl (op_load (t := gt2) (x := j_88) S rfl ty31 rfl rfl rfl B_78.at_ ?_)
 clear S; intro a v_95 R_96 S
 refine w_go S rfl (op_store (t' := gt2) S rfl rfl ty31 rfl rfl rfl B_6 (by simp) Ln.whole R_96 ?_)
 intro w_97 hw_98 B_
 replace R_96 := R_96.wrote hw_98 (by simp)
 replace B_2 := B_2.wrote hw_98 (by simp) (W.bne (p := 2) (q := 1) (by decide) rfl rfl)
 replace B_78 := B_78.wrote hw_98 (by simp) (W.bne (p := 0) (q := 1) (by decide) rfl rfl)
 replace W := W.wrote hw_98 (by simp)
 replace B_6 : Bx gt2 31 w_97 (Kx K w.heap.size [some b_77, some b_5, some b_1]) b_5 j_88 := B_; clear B_
 refine wpList_nil ?_
 refine then_n ?_
 replace S := S.sub (l' := [(4, pB b_5)]) (by exact ⟨rfl, trivial⟩)
 refine wp_ret ?_
 obtain ⟨v_99, hr_100, R_101⟩ := res_cell (P := Try.prog) (T := 31) (t := gt2) (x := j_88) S (s := 4) rfl ty31 B_6.at_
 obtain rfl := Option.some.inj h
 exact b_res1 S rfl hr_100 ⟨_, rfl, R_101.out, W.below⟩
theorem cb13 : callB Try.prog 13 = true := by kernel_rfl
def p28_l1 (n : Nat) (x0 : Sl (Int)) (x1 : Sl (Int)) : Nat → (Int) → Option ((Unit) ⊕ ((Bool)))
 | 0, _ => .none
 | m + 1, c_1 => (if (decide (c_1 < (lenI x0))) = true then some (decide (c_1 < (lenI x1))) else some false).bind fun q_11 => if q_11 then ((idx x0.xs c_1).bind fun y_13 => (idx x1.xs c_1).bind fun y_19 => if (y_13 != y_19) then ((idx x0.xs c_1).bind fun y_83 => (idx x1.xs c_1).bind fun y_89 => some (.inr (decide (y_83 < y_89)))) else (ckI .i64 (c_1 + 1)).bind fun x_157 => p28_l1 n x0 x1 m x_157) else some (.inl ())
def p28 (n : Nat) (x0 : Sl (Int)) (x1 : Sl (Int)) : Option ((Bool)) :=
 (p28_l1 n x0 x1 n 0).bind fun (y_5 : (Unit) ⊕ ((Bool))) =>
 lrK y_5 some fun (s_6 : Unit) =>
 some (decide ((lenI x0) < (lenI x1)))
set_option maxHeartbeats 4000000 in
set_option maxRecDepth 100000 in
/-- plugboard/plugboardlaw31.before -/
theorem c28 (K : Nat → Prop) (n : Nat) (w : World) (x0 : Sl (Int)) (v0 : Value) (R0 : RepV (.sl (.int .u8)) w K v0 x0) (x1 : Sl (Int)) (v1 : Value) (R1 : RepV (.sl (.int .u8)) w K v1 x1) {r : (Bool)} (h : p28 n x0 x1 = some r) :
  Calls Try.prog 28 #[v0, v1] w (Ret1 .bool w (Kx K w.heap.size []) r) := by
 refine enter (args := [v0, v1]) Try.func28 rfl 41 rfl rfl fun a S => ?_
 have W := Wd.start w
 replace R0 := R0.arg
 replace R1 := R1.arg
 unfold p28 at h
 replace S : St 41 a [(0, v0), (1, v1)] := S
 refine wp_seq ?_
 refine wp_region_lit ?_
 refine wl_pure (l' := [(4, .bool false), (0, v0), (1, v1)]) S tys tys_ok 1 (by kernel_rfl) ?_
 clear S; intro a S
 refine wpList_nil ?_
 refine then_n ?_
 replace S := S.sub (l' := [(0, v0), (1, v1)]) (by exact ⟨rfl, rfl, trivial⟩)
 refine wp_seq ?_
 refine wp_seq ?_
 refine wp_region_lit ?_
 refine wl_pure (l' := [(5, .int .i64 0), (0, v0), (1, v1)]) S tys tys_ok 1 (by kernel_rfl) ?_
 clear S; intro a S
 refine wpList_nil ?_
 refine then_n ?_
 obtain ⟨y_5, ey_5, h⟩ := bindS h
 refine wp_cut_ (fun a_ w_ => ∃ s_6 : Unit, y_5 = .inl s_6 ∧ (St 41 a_ [(0, v0), (1, v1)] ∧ Wd w w_ [] ∧ RepV (.sl (.int .u8)) w_ (Kx K w.heap.size []) v0 x0 ∧ RepV (.sl (.int .u8)) w_ (Kx K w.heap.size []) v1 x1)) ?_ ?_
 ·refine wp_block ?_
  refine wp_loop_n (fun m_ a_ w_ => ∃ (c_1 : Int) , St 41 a_ [(5, .int .i64 c_1), (0, v0), (1, v1)] ∧ Wd w w_ [] ∧ InR .i64 c_1 ∧ RepV (.sl (.int .u8)) w_ (Kx K w.heap.size []) v0 x0 ∧ RepV (.sl (.int .u8)) w_ (Kx K w.heap.size []) v1 x1 ∧ p28_l1 n x0 x1 m_ c_1 = some y_5) n ?_ ?_
  ·skip
   exact ⟨0, ⟨S.sub (by exact ⟨rfl, rfl, rfl, trivial⟩), W, (show InR .i64 0 by decide), R0, R1, ey_5⟩⟩
  ·clear S W; rintro m_7 a w_9 ⟨c_1, S, W, G_2, R0, R1, hl_8⟩
   cases m_7 with
   | zero => exact absurd hl_8 (by simp [p28_l1])
   | succ m_7 =>
    refine ⟨m_7, rfl, ?_⟩
    rw [p28_l1] at hl_8
    refine wp_seq ?_
    refine wp_seq ?_
    refine wp_region_lit ?_
    refine wl_pure (l' := [(7, v0), (6, .int .i64 c_1), (5, .int .i64 c_1), (0, v0), (1, v1)]) S tys tys_ok 2 (by kernel_rfl) ?_
    clear S; intro a S
    refine w_go S rfl (op_len (K := _) S rfl ty25 rfl rfl rfl R0 ?_)
    clear S; intro a G_10 S
    refine wl_pureK (l' := [(10, .bool (decide (c_1 < (lenI x0)))), (5, .int .i64 c_1), (0, v0), (1, v1)]) S tys tys_ok 2 [10, 5, 0, 1] (by kernel_rfl) ?_
    clear S; intro a S
    obtain ⟨q_11, eq_11, hl_8⟩ := bindS hl_8
    refine seg 5 (fun a_ w_ => w_9 = w_ ∧ St 41 a_ [(15, .bool q_11), (5, .int .i64 c_1), (0, v0), (1, v1)]) ?_ ?_
    ·by_cases hc : (decide (c_1 < (lenI x0))) = true
     ·rw [if_pos hc] at eq_11; rw [hc] at S
      refine wl_pure (l' := [(12, v1), (11, .int .i64 c_1), (10, .bool true), (5, .int .i64 c_1), (0, v0), (1, v1)]) S tys tys_ok 2 (by kernel_rfl) ?_
      clear S; intro a S
      refine w_go S rfl (op_len (K := _) S rfl ty25 rfl rfl rfl R1 ?_)
      clear S; intro a G_12 S
      refine wl_pure (l' := [(15, .bool (decide (c_1 < (lenI x1)))), (14, .bool (decide (c_1 < (lenI x1)))), (13, .int .i64 (lenI x1)), (12, v1), (11, .int .i64 c_1), (10, .bool true), (5, .int .i64 c_1), (0, v0), (1, v1)]) S tys tys_ok 2 (by kernel_rfl) ?_
      clear S; intro a S
      obtain rfl := Option.some.inj eq_11
      exact ⟨rfl, S.sub (by exact ⟨rfl, rfl, rfl, rfl, trivial⟩)⟩
     ·rw [if_neg hc] at eq_11; rw [show (decide (c_1 < (lenI x0))) = false from Bool.eq_false_iff.2 hc] at S
      refine wl_pure (l' := [(15, .bool false), (14, undef), (13, undef), (12, undef), (11, undef), (10, .bool false), (5, .int .i64 c_1), (0, v0), (1, v1)]) S tys tys_ok 5 (by kernel_rfl) ?_
      clear S; intro a S
      obtain rfl := Option.some.inj eq_11
      exact ⟨rfl, S.sub (by exact ⟨rfl, rfl, rfl, rfl, trivial⟩)⟩
    clear S eq_11; rintro a _ ⟨rfl, S⟩
    refine wpList_nil ?_
    refine then_n ?_
    refine wp_cond_split (S.eval (show ev _ _ = some (.bool q_11) from rfl)) ?_ ?_
    ·intro hc
     rw [if_pos hc] at hl_8
     refine wp_skip ?_
     refine then_n ?_
     replace S := S.sub (l' := [(5, .int .i64 c_1), (0, v0), (1, v1)]) (by exact ⟨rfl, rfl, rfl, trivial⟩)
     refine wp_seq ?_
     refine wp_block ?_
     refine wp_seq ?_
     obtain ⟨y_13, ey_13, hl_8⟩ := bindS hl_8
     obtain ⟨y_19, ey_19, hl_8⟩ := bindS hl_8
     have hR : Rel (Kx K w.heap.size []) Bl := Bl.rel _
     refine wp_region_all hR [isRep (.sl (.int .u8)) (Kx K w.heap.size []) x0, isI .i64 c_1, isEl (.int .u8) (Kx K w.heap.size []) y_13, isI .u8 y_13, isRep (.sl (.int .u8)) (Kx K w.heap.size []) x1, isI .i64 c_1, isEl (.int .u8) (Kx K w.heap.size []) y_19, isI .u8 y_19, eqv (.bool (y_13 != y_19))] [[], [], [(0, 18), (1, 19)], [(2, 20)], [], [], [(4, 22), (5, 23)], [(6, 24)], [(3, 21), (7, 25)]] (by kernel_rfl) (by rw [S.size]; kernel_rfl) (by kernel_rfl) (by kernel_rfl) rfl ⟨(stab_rep hR), stab_I, (stab_el hR), stab_I, (stab_rep hR), stab_I, (stab_el hR), stab_I, (stab_eqv _), trivial⟩ ?_ ?_
     ·
      refine RunAll.cons (isRep (.sl (.int .u8)) (Kx K w.heap.size []) x0) [] rfl rfl ?_ ?_
      ·intro W_ hW
       have S1 := S
       replace R0 := R0.step hW
       exact RPost.one (v := v0) S1 tys tys_ok rfl (by kernel_rfl) S.defers R0 (Below.refl _ _)
      refine RunAll.cons (isI .i64 c_1) [] rfl rfl ?_ ?_
      ·intro W_ hW
       have S1 := S
       exact RPost.one (v := .int .i64 c_1) S1 tys tys_ok rfl (by kernel_rfl) S.defers ⟨rfl, G_2⟩ (Below.refl _ _)
      refine RunAll.cons (isEl (.int .u8) (Kx K w.heap.size []) y_13) [(isRep (.sl (.int .u8)) (Kx K w.heap.size []) x0, 18), (isI .i64 c_1, 19)] rfl rfl ?_ ?_
      ·intro W_ hW
       have S1 := S
       intro v_26 hF_25; replace hF_25 : RepV _ _ _ _ _ := hF_25
       replace S1 := S1.put (by decide : 18 < 41) (v_26)
       rintro _ ⟨rfl, hF_27⟩
       replace S1 := S1.put (by decide : 19 < 41) (.int .i64 c_1)
       refine fill_nil S1 ?_; clear S1; intro a_ S1
       replace W := W.step hW
       have S0 := S.defers; replace S := S1; clear S1
       refine w_go S rfl (op_indexAddr S rfl ty25 rfl rfl rfl hF_25 rfl ey_13 ?_)
       clear S; intro a p_29 R_30 H_31 S
       refine wpList_nil ?_
       exact RPost.mk_ S rfl S0 ⟨_, rfl, R_30, H_31⟩ (Below.refl _ _)
      refine RunAll.cons (isI .u8 y_13) [(isEl (.int .u8) (Kx K w.heap.size []) y_13, 20)] rfl rfl ?_ ?_
      ·intro W_ hW
       have S1 := S
       rintro _ ⟨p_34, rfl, R_35, H_36⟩
       replace S1 := S1.put (by decide : 20 < 41) (.pointer (some p_34))
       refine fill_nil S1 ?_; clear S1; intro a_ S1
       have S0 := S.defers; replace S := S1; clear S1
       refine w_go S rfl (op_load (t := (.int .u8)) (x := y_13) S rfl ty5 rfl rfl rfl R_35 ?_)
       clear S; intro a v_37 R_38 S
       obtain ⟨rfl, GR_38⟩ := RepV.int R_38
       refine wpList_nil ?_
       exact RPost.mk_ S rfl S0 ⟨rfl, GR_38⟩ (Below.refl _ _)
      refine RunAll.cons (isRep (.sl (.int .u8)) (Kx K w.heap.size []) x1) [] rfl rfl ?_ ?_
      ·intro W_ hW
       have S1 := S
       replace R1 := R1.step hW
       exact RPost.one (v := v1) S1 tys tys_ok rfl (by kernel_rfl) S.defers R1 (Below.refl _ _)
      refine RunAll.cons (isI .i64 c_1) [] rfl rfl ?_ ?_
      ·intro W_ hW
       have S1 := S
       exact RPost.one (v := .int .i64 c_1) S1 tys tys_ok rfl (by kernel_rfl) S.defers ⟨rfl, G_2⟩ (Below.refl _ _)
      refine RunAll.cons (isEl (.int .u8) (Kx K w.heap.size []) y_19) [(isRep (.sl (.int .u8)) (Kx K w.heap.size []) x1, 22), (isI .i64 c_1, 23)] rfl rfl ?_ ?_
      ·intro W_ hW
       have S1 := S
       intro v_40 hF_39; replace hF_39 : RepV _ _ _ _ _ := hF_39
       replace S1 := S1.put (by decide : 22 < 41) (v_40)
       rintro _ ⟨rfl, hF_41⟩
       replace S1 := S1.put (by decide : 23 < 41) (.int .i64 c_1)
       refine fill_nil S1 ?_; clear S1; intro a_ S1
       replace W := W.step hW
       have S0 := S.defers; replace S := S1; clear S1
       refine w_go S rfl (op_indexAddr S rfl ty25 rfl rfl rfl hF_39 rfl ey_19 ?_)
       clear S; intro a p_43 R_44 H_45 S
       refine wpList_nil ?_
       exact RPost.mk_ S rfl S0 ⟨_, rfl, R_44, H_45⟩ (Below.refl _ _)
      refine RunAll.cons (isI .u8 y_19) [(isEl (.int .u8) (Kx K w.heap.size []) y_19, 24)] rfl rfl ?_ ?_
      ·intro W_ hW
       have S1 := S
       rintro _ ⟨p_48, rfl, R_49, H_50⟩
       replace S1 := S1.put (by decide : 24 < 41) (.pointer (some p_48))
       refine fill_nil S1 ?_; clear S1; intro a_ S1
       have S0 := S.defers; replace S := S1; clear S1
       refine w_go S rfl (op_load (t := (.int .u8)) (x := y_19) S rfl ty5 rfl rfl rfl R_49 ?_)
       clear S; intro a v_51 R_52 S
       obtain ⟨rfl, GR_52⟩ := RepV.int R_52
       refine wpList_nil ?_
       exact RPost.mk_ S rfl S0 ⟨rfl, GR_52⟩ (Below.refl _ _)
      refine RunAll.cons (eqv (.bool (y_13 != y_19))) [(isI .u8 y_13, 21), (isI .u8 y_19, 25)] rfl rfl ?_ ?_
      ·intro W_ hW
       have S1 := S
       rintro _ ⟨rfl, hF_53⟩
       replace S1 := S1.put (by decide : 21 < 41) (.int .u8 y_13)
       rintro _ ⟨rfl, hF_55⟩
       replace S1 := S1.put (by decide : 25 < 41) (.int .u8 y_19)
       exact RPost.one (v := .bool (y_13 != y_19)) S1 tys tys_ok rfl (by kernel_rfl) S.defers rfl (Below.refl _ _)
      exact trivial
     intro w_57 hb_58
     refine EndE.some_ rfl ?_
     intro v_60 hF_59; replace hF_59 : RepV _ _ _ _ _ := hF_59
     replace S := S.put (by decide : 18 < 41) (v_60)
     refine EndE.some_ rfl ?_
     rintro _ ⟨rfl, hF_61⟩
     replace S := S.put (by decide : 19 < 41) (.int .i64 c_1)
     refine EndE.some_ rfl ?_
     rintro _ ⟨p_65, rfl, R_66, H_67⟩
     replace S := S.put (by decide : 20 < 41) (.pointer (some p_65))
     refine EndE.some_ rfl ?_
     rintro _ ⟨rfl, hF_68⟩
     replace S := S.put (by decide : 21 < 41) (.int .u8 y_13)
     refine EndE.some_ rfl ?_
     intro v_71 hF_70; replace hF_70 : RepV _ _ _ _ _ := hF_70
     replace S := S.put (by decide : 22 < 41) (v_71)
     refine EndE.some_ rfl ?_
     rintro _ ⟨rfl, hF_72⟩
     replace S := S.put (by decide : 23 < 41) (.int .i64 c_1)
     refine EndE.some_ rfl ?_
     rintro _ ⟨p_76, rfl, R_77, H_78⟩
     replace S := S.put (by decide : 24 < 41) (.pointer (some p_76))
     refine EndE.some_ rfl ?_
     rintro _ ⟨rfl, hF_79⟩
     replace S := S.put (by decide : 25 < 41) (.int .u8 y_19)
     refine EndE.some_ rfl ?_
     intro v_82 hF_81; obtain rfl : .bool (y_13 != y_19) = v_82 := Eq.symm hF_81
     replace S := S.put (by decide : 26 < 41) (.bool (y_13 != y_19))
     refine endE_nil S ?_; clear S; intro a S
     replace R0 := R0.step hb_58
     replace R1 := R1.step hb_58
     replace W := W.step hb_58
     refine then_n ?_
     replace S := S.sub (l' := [(26, .bool (y_13 != y_19)), (5, .int .i64 c_1), (0, v0), (1, v1)]) (by exact ⟨rfl, rfl, rfl, rfl, trivial⟩)
     refine wp_cond_split (S.eval (show ev _ _ = some (.bool (y_13 != y_19)) from rfl)) ?_ ?_
     ·intro hc
      rw [if_pos hc] at hl_8
      refine wp_seq ?_
      obtain ⟨y_83, ey_83, hl_8⟩ := bindS hl_8
      obtain ⟨y_89, ey_89, hl_8⟩ := bindS hl_8
      have hR : Rel (Kx K w.heap.size []) Bl := Bl.rel _
      refine wp_region_all hR [isRep (.sl (.int .u8)) (Kx K w.heap.size []) x0, isI .i64 c_1, isEl (.int .u8) (Kx K w.heap.size []) y_83, isI .u8 y_83, isRep (.sl (.int .u8)) (Kx K w.heap.size []) x1, isI .i64 c_1, isEl (.int .u8) (Kx K w.heap.size []) y_89, isI .u8 y_89, eqv (.bool (decide (y_83 < y_89))), eqv (.bool (decide (y_83 < y_89)))] [[], [], [(0, 27), (1, 28)], [(2, 29)], [], [], [(4, 31), (5, 32)], [(6, 33)], [(3, 30), (7, 34)], [(8, 35)]] (by kernel_rfl) (by rw [S.size]; kernel_rfl) (by kernel_rfl) (by kernel_rfl) rfl ⟨(stab_rep hR), stab_I, (stab_el hR), stab_I, (stab_rep hR), stab_I, (stab_el hR), stab_I, (stab_eqv _), (stab_eqv _), trivial⟩ ?_ ?_
      ·
       refine RunAll.cons (isRep (.sl (.int .u8)) (Kx K w.heap.size []) x0) [] rfl rfl ?_ ?_
       ·intro W_ hW
        have S1 := S
        replace R0 := R0.step hW
        exact RPost.one (v := v0) S1 tys tys_ok rfl (by kernel_rfl) S.defers R0 (Below.refl _ _)
       refine RunAll.cons (isI .i64 c_1) [] rfl rfl ?_ ?_
       ·intro W_ hW
        have S1 := S
        exact RPost.one (v := .int .i64 c_1) S1 tys tys_ok rfl (by kernel_rfl) S.defers ⟨rfl, G_2⟩ (Below.refl _ _)
       refine RunAll.cons (isEl (.int .u8) (Kx K w.heap.size []) y_83) [(isRep (.sl (.int .u8)) (Kx K w.heap.size []) x0, 27), (isI .i64 c_1, 28)] rfl rfl ?_ ?_
       ·intro W_ hW
        have S1 := S
        intro v_96 hF_95; replace hF_95 : RepV _ _ _ _ _ := hF_95
        replace S1 := S1.put (by decide : 27 < 41) (v_96)
        rintro _ ⟨rfl, hF_97⟩
        replace S1 := S1.put (by decide : 28 < 41) (.int .i64 c_1)
        refine fill_nil S1 ?_; clear S1; intro a_ S1
        replace W := W.step hW
        have S0 := S.defers; replace S := S1; clear S1
        refine w_go S rfl (op_indexAddr S rfl ty25 rfl rfl rfl hF_95 rfl ey_83 ?_)
        clear S; intro a p_99 R_100 H_101 S
        refine wpList_nil ?_
        exact RPost.mk_ S rfl S0 ⟨_, rfl, R_100, H_101⟩ (Below.refl _ _)
       refine RunAll.cons (isI .u8 y_83) [(isEl (.int .u8) (Kx K w.heap.size []) y_83, 29)] rfl rfl ?_ ?_
       ·intro W_ hW
        have S1 := S
        rintro _ ⟨p_104, rfl, R_105, H_106⟩
        replace S1 := S1.put (by decide : 29 < 41) (.pointer (some p_104))
        refine fill_nil S1 ?_; clear S1; intro a_ S1
        have S0 := S.defers; replace S := S1; clear S1
        refine w_go S rfl (op_load (t := (.int .u8)) (x := y_83) S rfl ty5 rfl rfl rfl R_105 ?_)
        clear S; intro a v_107 R_108 S
        obtain ⟨rfl, GR_108⟩ := RepV.int R_108
        refine wpList_nil ?_
        exact RPost.mk_ S rfl S0 ⟨rfl, GR_108⟩ (Below.refl _ _)
       refine RunAll.cons (isRep (.sl (.int .u8)) (Kx K w.heap.size []) x1) [] rfl rfl ?_ ?_
       ·intro W_ hW
        have S1 := S
        replace R1 := R1.step hW
        exact RPost.one (v := v1) S1 tys tys_ok rfl (by kernel_rfl) S.defers R1 (Below.refl _ _)
       refine RunAll.cons (isI .i64 c_1) [] rfl rfl ?_ ?_
       ·intro W_ hW
        have S1 := S
        exact RPost.one (v := .int .i64 c_1) S1 tys tys_ok rfl (by kernel_rfl) S.defers ⟨rfl, G_2⟩ (Below.refl _ _)
       refine RunAll.cons (isEl (.int .u8) (Kx K w.heap.size []) y_89) [(isRep (.sl (.int .u8)) (Kx K w.heap.size []) x1, 31), (isI .i64 c_1, 32)] rfl rfl ?_ ?_
       ·intro W_ hW
        have S1 := S
        intro v_110 hF_109; replace hF_109 : RepV _ _ _ _ _ := hF_109
        replace S1 := S1.put (by decide : 31 < 41) (v_110)
        rintro _ ⟨rfl, hF_111⟩
        replace S1 := S1.put (by decide : 32 < 41) (.int .i64 c_1)
        refine fill_nil S1 ?_; clear S1; intro a_ S1
        replace W := W.step hW
        have S0 := S.defers; replace S := S1; clear S1
        refine w_go S rfl (op_indexAddr S rfl ty25 rfl rfl rfl hF_109 rfl ey_89 ?_)
        clear S; intro a p_113 R_114 H_115 S
        refine wpList_nil ?_
        exact RPost.mk_ S rfl S0 ⟨_, rfl, R_114, H_115⟩ (Below.refl _ _)
       refine RunAll.cons (isI .u8 y_89) [(isEl (.int .u8) (Kx K w.heap.size []) y_89, 33)] rfl rfl ?_ ?_
       ·intro W_ hW
        have S1 := S
        rintro _ ⟨p_118, rfl, R_119, H_120⟩
        replace S1 := S1.put (by decide : 33 < 41) (.pointer (some p_118))
        refine fill_nil S1 ?_; clear S1; intro a_ S1
        have S0 := S.defers; replace S := S1; clear S1
        refine w_go S rfl (op_load (t := (.int .u8)) (x := y_89) S rfl ty5 rfl rfl rfl R_119 ?_)
        clear S; intro a v_121 R_122 S
        obtain ⟨rfl, GR_122⟩ := RepV.int R_122
        refine wpList_nil ?_
        exact RPost.mk_ S rfl S0 ⟨rfl, GR_122⟩ (Below.refl _ _)
       refine RunAll.cons (eqv (.bool (decide (y_83 < y_89)))) [(isI .u8 y_83, 30), (isI .u8 y_89, 34)] rfl rfl ?_ ?_
       ·intro W_ hW
        have S1 := S
        rintro _ ⟨rfl, hF_123⟩
        replace S1 := S1.put (by decide : 30 < 41) (.int .u8 y_83)
        rintro _ ⟨rfl, hF_125⟩
        replace S1 := S1.put (by decide : 34 < 41) (.int .u8 y_89)
        exact RPost.one (v := .bool (decide (y_83 < y_89))) S1 tys tys_ok rfl (by kernel_rfl) S.defers rfl (Below.refl _ _)
       refine RunAll.cons (eqv (.bool (decide (y_83 < y_89)))) [(eqv (.bool (decide (y_83 < y_89))), 35)] rfl rfl ?_ ?_
       ·intro W_ hW
        have S1 := S
        intro v_128 hF_127; obtain rfl : .bool (decide (y_83 < y_89)) = v_128 := Eq.symm hF_127
        replace S1 := S1.put (by decide : 35 < 41) (.bool (decide (y_83 < y_89)))
        exact RPost.one (v := .bool (decide (y_83 < y_89))) S1 tys tys_ok rfl (by kernel_rfl) S.defers rfl (Below.refl _ _)
       exact trivial
      intro w_129 hb_130
      refine EndE.some_ rfl ?_
      intro v_132 hF_131; replace hF_131 : RepV _ _ _ _ _ := hF_131
      replace S := S.put (by decide : 27 < 41) (v_132)
      refine EndE.some_ rfl ?_
      rintro _ ⟨rfl, hF_133⟩
      replace S := S.put (by decide : 28 < 41) (.int .i64 c_1)
      refine EndE.some_ rfl ?_
      rintro _ ⟨p_137, rfl, R_138, H_139⟩
      replace S := S.put (by decide : 29 < 41) (.pointer (some p_137))
      refine EndE.some_ rfl ?_
      rintro _ ⟨rfl, hF_140⟩
      replace S := S.put (by decide : 30 < 41) (.int .u8 y_83)
      refine EndE.some_ rfl ?_
      intro v_143 hF_142; replace hF_142 : RepV _ _ _ _ _ := hF_142
      replace S := S.put (by decide : 31 < 41) (v_143)
      refine EndE.some_ rfl ?_
      rintro _ ⟨rfl, hF_144⟩
      replace S := S.put (by decide : 32 < 41) (.int .i64 c_1)
      refine EndE.some_ rfl ?_
      rintro _ ⟨p_148, rfl, R_149, H_150⟩
      replace S := S.put (by decide : 33 < 41) (.pointer (some p_148))
      refine EndE.some_ rfl ?_
      rintro _ ⟨rfl, hF_151⟩
      replace S := S.put (by decide : 34 < 41) (.int .u8 y_89)
      refine EndE.some_ rfl ?_
      intro v_154 hF_153; obtain rfl : .bool (decide (y_83 < y_89)) = v_154 := Eq.symm hF_153
      replace S := S.put (by decide : 35 < 41) (.bool (decide (y_83 < y_89)))
      refine EndE.some_ rfl ?_
      intro v_156 hF_155; obtain rfl : .bool (decide (y_83 < y_89)) = v_156 := Eq.symm hF_155
      replace S := S.put (by decide : 4 < 41) (.bool (decide (y_83 < y_89)))
      refine endE_nil S ?_; clear S; intro a S
      replace R0 := R0.step hb_130
      replace R1 := R1.step hb_130
      replace W := W.step hb_130
      refine then_n ?_
      replace S := S.sub (l' := [(4, .bool (decide (y_83 < y_89)))]) (by exact ⟨rfl, trivial⟩)
      refine wp_ret ?_
      refine blk_r ?_
      refine then_r ?_
      refine then_r ?_
      refine blk_r ?_
      refine then_r ?_
      refine then_r ?_
      obtain rfl := Option.some.inj hl_8
      obtain rfl := lr_inr h
      exact b_ret1 S rfl rfl ⟨_, rfl, RepV.mkBool, W.below⟩
     ·intro hc
      rw [if_neg (Bool.eq_false_iff.1 hc)] at hl_8
      refine wp_skip ?_
      refine blk_n ?_
      refine then_n ?_
      replace S := S.sub (l' := [(5, .int .i64 c_1), (0, v0), (1, v1)]) (by exact ⟨rfl, rfl, rfl, trivial⟩)
      refine wp_region_lit ?_
      refine wl_pure (l' := [(16, .int .i64 c_1), (5, .int .i64 c_1), (0, v0), (1, v1)]) S tys tys_ok 1 (by kernel_rfl) ?_
      clear S; intro a S
      obtain ⟨x_157, ex_157, hl_8⟩ := bindS hl_8
      refine w_go S rfl (op_arith S .i64 (c_1 + 1) rfl (.inl rfl) rfl rfl rfl rfl ex_157 ?_)
      clear S; intro a S
      refine wl_pure (l' := [(5, .int .i64 x_157), (17, .int .i64 x_157), (16, .int .i64 c_1), (5, .int .i64 c_1), (0, v0), (1, v1)]) S tys tys_ok 1 (by kernel_rfl) ?_
      clear S; intro a S
      refine wpList_nil ?_
      refine then_n ?_
      exact ⟨x_157, ⟨S.sub (by exact ⟨rfl, rfl, rfl, trivial⟩), W, (ckI_some ex_157).2.1, R0, R1, hl_8⟩⟩
    ·intro hc
     rw [if_neg (Bool.eq_false_iff.1 hc)] at hl_8
     refine wp_exit ?_
     refine then_x ?_
     refine then_x ?_
     refine blk_hit ?_
     refine then_n ?_
     obtain rfl := Option.some.inj hl_8
     exact ⟨_, rfl, ⟨S.sub (by exact ⟨rfl, rfl, trivial⟩), W, R0, R1⟩⟩
 clear S W; rintro a w_158 ⟨s_6, rfl, S, W, R0, R1⟩
 replace h := lr_inl h; try dsimp only at h
 refine then_n ?_
 refine wp_seq ?_
 refine wp_region_lit ?_
 refine wl_pure (l' := [(36, v0), (0, v0), (1, v1)]) S tys tys_ok 1 (by kernel_rfl) ?_
 clear S; intro a S
 refine w_go S rfl (op_len (K := _) S rfl ty25 rfl rfl rfl R0 ?_)
 clear S; intro a G_159 S
 refine wl_pureK (l' := [(38, v1), (37, .int .i64 (lenI x0))]) S tys tys_ok 1 [38, 37] (by kernel_rfl) ?_
 clear S; intro a S
 refine w_go S rfl (op_len (K := _) S rfl ty25 rfl rfl rfl R1 ?_)
 clear S; intro a G_160 S
 refine wl_pureK (l' := [(4, .bool (decide ((lenI x0) < (lenI x1))))]) S tys tys_ok 2 [4] (by kernel_rfl) ?_
 clear S; intro a S
 refine wpList_nil ?_
 refine then_n ?_
 refine wp_ret ?_
 obtain rfl := Option.some.inj h
 exact b_ret1 S rfl rfl ⟨_, rfl, RepV.mkBool, W.below⟩
theorem cb28 : callB Try.prog 28 = true := by kernel_rfl
def p17 (n : Nat) (x0 : Sl (Int)) (x1 : Sl (Int)) : Option ((Bool)) :=
 (p28 n x0 x1).bind fun t_1 =>
 (if (!t_1) = true then (p28 n x1 x0).bind fun t_7 => some (!t_7) else some false).bind fun q_6 =>
 some q_6
set_option maxHeartbeats 4000000 in
set_option maxRecDepth 100000 in
/-- plugboard/plugboardlaw31.equal -/
theorem c17 (K : Nat → Prop) (n : Nat) (w : World) (x0 : Sl (Int)) (v0 : Value) (R0 : RepV (.sl (.int .u8)) w K v0 x0) (x1 : Sl (Int)) (v1 : Value) (R1 : RepV (.sl (.int .u8)) w K v1 x1) {r : (Bool)} (h : p17 n x0 x1 = some r) :
  Calls Try.prog 17 #[v0, v1] w (Ret1 .bool w (Kx K w.heap.size []) r) := by
 refine enter (args := [v0, v1]) Try.func17 rfl 15 rfl rfl fun a S => ?_
 have W := Wd.start w
 replace R0 := R0.arg
 replace R1 := R1.arg
 unfold p17 at h
 replace S : St 15 a [(0, v0), (1, v1)] := S
 refine wp_seq ?_
 refine wp_region_lit ?_
 refine wl_pure (l' := [(4, .bool false), (0, v0), (1, v1)]) S tys tys_ok 1 (by kernel_rfl) ?_
 clear S; intro a S
 refine wpList_nil ?_
 refine then_n ?_
 replace S := S.sub (l' := [(0, v0), (1, v1)]) (by exact ⟨rfl, rfl, trivial⟩)
 refine wp_seq ?_
 refine wp_region_lit ?_
 refine wl_pure (l' := [(6, v1), (5, v0), (0, v0), (1, v1)]) S tys tys_ok 2 (by kernel_rfl) ?_
 clear S; intro a S
 obtain ⟨t_1, et_1, h⟩ := bindS h
 refine w_go S rfl (op_call (vs := [v0, v1]) S rfl cb28 rfl rfl rfl (c28 (Kx K w.heap.size []) n w x0 _ R0 x1 _ R1 et_1) ?_)
 rintro _ w_5 ⟨v_2, rfl, R_3, hb_4⟩; refine ⟨_, rfl, ?_⟩
 replace R_3 := RepV.back R_3 W
 clear S; intro a S
 replace R0 := R0.step hb_4
 replace R1 := R1.step hb_4
 replace W := W.step hb_4
 obtain rfl := RepV.bool R_3
 refine wl_pureK (l' := [(9, .bool (!t_1)), (0, v0), (1, v1)]) S tys tys_ok 2 [9, 0, 1] (by kernel_rfl) ?_
 clear S; intro a S
 obtain ⟨q_6, eq_6, h⟩ := bindS h
 refine seg 5 (fun a_ w_ => St 15 a_ [(14, .bool q_6)] ∧ Wd w w_ []) ?_ ?_
 ·by_cases hc : (!t_1) = true
  ·rw [if_pos hc] at eq_6; rw [hc] at S
   refine wl_pure (l' := [(11, v0), (10, v1), (9, .bool true), (0, v0), (1, v1)]) S tys tys_ok 2 (by kernel_rfl) ?_
   clear S; intro a S
   obtain ⟨t_7, et_7, eq_6⟩ := bindS eq_6
   refine w_go S rfl (op_call (vs := [v1, v0]) S rfl cb28 rfl rfl rfl (c28 (Kx K w.heap.size []) n w_5 x1 _ R1 x0 _ R0 et_7) ?_)
   rintro _ w_11 ⟨v_8, rfl, R_9, hb_10⟩; refine ⟨_, rfl, ?_⟩
   replace R_9 := RepV.back R_9 W
   clear S; intro a S
   replace R0 := R0.step hb_10
   replace R1 := R1.step hb_10
   replace W := W.step hb_10
   obtain rfl := RepV.bool R_9
   refine wl_pureK (l' := [(14, .bool (!t_7))]) S tys tys_ok 2 [14] (by kernel_rfl) ?_
   clear S; intro a S
   obtain rfl := Option.some.inj eq_6
   exact ⟨S.sub (by exact ⟨rfl, trivial⟩), W⟩
  ·rw [if_neg hc] at eq_6; rw [show (!t_1) = false from Bool.eq_false_iff.2 hc] at S
   refine wl_pureK (l' := [(14, .bool false)]) S tys tys_ok 5 [14] (by kernel_rfl) ?_
   clear S; intro a S
   obtain rfl := Option.some.inj eq_6
   exact ⟨S.sub (by exact ⟨rfl, trivial⟩), W⟩
 clear S W eq_6; rintro a w_12 ⟨S, W⟩
 refine wl_pure (l' := [(4, .bool q_6), (14, .bool q_6)]) S tys tys_ok 1 (by kernel_rfl) ?_
 clear S; intro a S
 refine wpList_nil ?_
 refine then_n ?_
 replace S := S.sub (l' := [(4, .bool q_6)]) (by exact ⟨rfl, trivial⟩)
 refine wp_ret ?_
 obtain rfl := Option.some.inj h
 exact b_ret1 S rfl rfl ⟨_, rfl, RepV.mkBool, W.below⟩
theorem cb17 : callB Try.prog 17 = true := by kernel_rfl
def p26_l1 (n : Nat) (x0 : Sl ((Sl (Int)) × Int × Int)) (x1 : Sl (Int)) : Nat → (Int) → Option ((Unit) ⊕ ((Int)))
 | 0, _ => .none
 | m + 1, c_1 => if (decide (c_1 < (lenI x0))) then ((idx x0.xs c_1).bind fun y_11 => (p17 n y_11.1 x1).bind fun t_17 => if t_17 then (some (.inr c_1)) else (ckI .i64 (c_1 + 1)).bind fun x_22 => p26_l1 n x0 x1 m x_22) else some (.inl ())
def p26 (n : Nat) (x0 : Sl ((Sl (Int)) × Int × Int)) (x1 : Sl (Int)) : Option ((Int)) :=
 (p26_l1 n x0 x1 n 0).bind fun (y_5 : (Unit) ⊕ ((Int))) =>
 lrK y_5 some fun (s_6 : Unit) =>
 some (-1)
set_option maxHeartbeats 4000000 in
set_option maxRecDepth 100000 in
/-- plugboard/plugboardlaw31.find -/
theorem c26 (K : Nat → Prop) (n : Nat) (w : World) (x0 : Sl ((Sl (Int)) × Int × Int)) (v0 : Value) (R0 : RepV (.sl gt0) w K v0 x0) (x1 : Sl (Int)) (v1 : Value) (R1 : RepV (.sl (.int .u8)) w K v1 x1) {r : (Int)} (h : p26 n x0 x1 = some r) :
  Calls Try.prog 26 #[v0, v1] w (Ret1 (.int .i64) w (Kx K w.heap.size []) r) := by
 refine enter (args := [v0, v1]) Try.func26 rfl 20 rfl rfl fun a S => ?_
 have W := Wd.start w
 replace R0 := R0.arg
 replace R1 := R1.arg
 unfold p26 at h
 replace S : St 20 a [(0, v0), (1, v1)] := S
 refine wp_seq ?_
 refine wp_region_lit ?_
 refine wl_pure (l' := [(4, .int .i64 0), (0, v0), (1, v1)]) S tys tys_ok 1 (by kernel_rfl) ?_
 clear S; intro a S
 refine wpList_nil ?_
 refine then_n ?_
 replace S := S.sub (l' := [(0, v0), (1, v1)]) (by exact ⟨rfl, rfl, trivial⟩)
 refine wp_seq ?_
 refine wp_seq ?_
 refine wp_region_lit ?_
 refine wl_pure (l' := [(5, .int .i64 0), (0, v0), (1, v1)]) S tys tys_ok 1 (by kernel_rfl) ?_
 clear S; intro a S
 refine wpList_nil ?_
 refine then_n ?_
 obtain ⟨y_5, ey_5, h⟩ := bindS h
 refine wp_cut_ (fun a_ w_ => ∃ s_6 : Unit, y_5 = .inl s_6 ∧ (St 20 a_ [] ∧ Wd w w_ [])) ?_ ?_
 ·refine wp_block ?_
  refine wp_loop_n (fun m_ a_ w_ => ∃ (c_1 : Int) , St 20 a_ [(5, .int .i64 c_1), (0, v0), (1, v1)] ∧ Wd w w_ [] ∧ InR .i64 c_1 ∧ RepV (.sl gt0) w_ (Kx K w.heap.size []) v0 x0 ∧ RepV (.sl (.int .u8)) w_ (Kx K w.heap.size []) v1 x1 ∧ p26_l1 n x0 x1 m_ c_1 = some y_5) n ?_ ?_
  ·skip
   exact ⟨0, ⟨S.sub (by exact ⟨rfl, rfl, rfl, trivial⟩), W, (show InR .i64 0 by decide), R0, R1, ey_5⟩⟩
  ·clear S W; rintro m_7 a w_9 ⟨c_1, S, W, G_2, R0, R1, hl_8⟩
   cases m_7 with
   | zero => exact absurd hl_8 (by simp [p26_l1])
   | succ m_7 =>
    refine ⟨m_7, rfl, ?_⟩
    rw [p26_l1] at hl_8
    refine wp_seq ?_
    refine wp_seq ?_
    refine wp_region_lit ?_
    refine wl_pure (l' := [(7, v0), (6, .int .i64 c_1), (5, .int .i64 c_1), (0, v0), (1, v1)]) S tys tys_ok 2 (by kernel_rfl) ?_
    clear S; intro a S
    refine w_go S rfl (op_len (K := _) S rfl ty23 rfl rfl rfl R0 ?_)
    clear S; intro a G_10 S
    refine wl_pureK (l' := [(9, .bool (decide (c_1 < (lenI x0)))), (5, .int .i64 c_1), (0, v0), (1, v1)]) S tys tys_ok 1 [9, 5, 0, 1] (by kernel_rfl) ?_
    clear S; intro a S
    refine wpList_nil ?_
    refine then_n ?_
    refine wp_cond_split (S.eval (show ev _ _ = some (.bool (decide (c_1 < (lenI x0)))) from rfl)) ?_ ?_
    ·intro hc
     rw [if_pos hc] at hl_8
     refine wp_skip ?_
     refine then_n ?_
     replace S := S.sub (l' := [(5, .int .i64 c_1), (0, v0), (1, v1)]) (by exact ⟨rfl, rfl, rfl, trivial⟩)
     refine wp_seq ?_
     refine wp_block ?_
     refine wp_seq ?_
     refine wp_region_lit ?_
     refine wl_pure (l' := [(13, .int .i64 c_1), (12, v0), (5, .int .i64 c_1), (0, v0), (1, v1)]) S tys tys_ok 2 (by kernel_rfl) ?_
     clear S; intro a S
     obtain ⟨y_11, ey_11, hl_8⟩ := bindS hl_8
     refine w_go S rfl (op_indexAddr S rfl ty23 rfl rfl rfl R0 rfl ey_11 ?_)
     clear S; intro a p_12 R_13 H_14 S
     refine wl_pureK (l' := [(15, .pointer (some (p_12.add (coff gf0 0)))), (5, .int .i64 c_1), (0, v0), (1, v1)]) S tys tys_ok 1 [15, 5, 0, 1] (by kernel_rfl) ?_
     clear S; intro a S
     refine w_go S rfl (op_load (t := (.sl (.int .u8))) (x := y_11.1) S rfl ty25 rfl rfl rfl (RepAt.add 0 (RepAt.st (t := gf0) R_13)) ?_)
     clear S; intro a v_15 R_16 S
     refine wl_pure (l' := [(17, v1), (16, v_15), (15, .pointer (some (p_12.add (coff gf0 0)))), (5, .int .i64 c_1), (0, v0), (1, v1)]) S tys tys_ok 1 (by kernel_rfl) ?_
     clear S; intro a S
     obtain ⟨t_17, et_17, hl_8⟩ := bindS hl_8
     refine w_go S rfl (op_call (vs := [v_15, v1]) S rfl cb17 rfl rfl rfl (c17 (Kx K w.heap.size []) n w_9 y_11.1 _ R_16 x1 _ R1 et_17) ?_)
     rintro _ w_21 ⟨v_18, rfl, R_19, hb_20⟩; refine ⟨_, rfl, ?_⟩
     replace R_19 := RepV.back R_19 W
     clear S; intro a S
     replace R0 := R0.step hb_20
     replace R1 := R1.step hb_20
     replace R_16 := R_16.step hb_20
     replace W := W.step hb_20
     obtain rfl := RepV.bool R_19
     refine wpList_nil ?_
     refine then_n ?_
     replace S := S.sub (l' := [(18, .bool t_17), (5, .int .i64 c_1), (0, v0), (1, v1)]) (by exact ⟨rfl, rfl, rfl, rfl, trivial⟩)
     refine wp_cond_split (S.eval (show ev _ _ = some (.bool t_17) from rfl)) ?_ ?_
     ·intro hc
      rw [if_pos hc] at hl_8
      refine wp_seq ?_
      refine wp_region_lit ?_
      refine wl_pureK (l' := [(4, .int .i64 c_1)]) S tys tys_ok 2 [4] (by kernel_rfl) ?_
      clear S; intro a S
      refine wpList_nil ?_
      refine then_n ?_
      refine wp_ret ?_
      refine blk_r ?_
      refine then_r ?_
      refine then_r ?_
      refine blk_r ?_
      refine then_r ?_
      refine then_r ?_
      obtain rfl := Option.some.inj hl_8
      obtain rfl := lr_inr h
      exact b_ret1 S rfl rfl ⟨_, rfl, (RepV.mkInt G_2), W.below⟩
     ·intro hc
      rw [if_neg (Bool.eq_false_iff.1 hc)] at hl_8
      refine wp_skip ?_
      refine blk_n ?_
      refine then_n ?_
      replace S := S.sub (l' := [(5, .int .i64 c_1), (0, v0), (1, v1)]) (by exact ⟨rfl, rfl, rfl, trivial⟩)
      refine wp_region_lit ?_
      refine wl_pure (l' := [(10, .int .i64 c_1), (5, .int .i64 c_1), (0, v0), (1, v1)]) S tys tys_ok 1 (by kernel_rfl) ?_
      clear S; intro a S
      obtain ⟨x_22, ex_22, hl_8⟩ := bindS hl_8
      refine w_go S rfl (op_arith S .i64 (c_1 + 1) rfl (.inl rfl) rfl rfl rfl rfl ex_22 ?_)
      clear S; intro a S
      refine wl_pure (l' := [(5, .int .i64 x_22), (11, .int .i64 x_22), (10, .int .i64 c_1), (5, .int .i64 c_1), (0, v0), (1, v1)]) S tys tys_ok 1 (by kernel_rfl) ?_
      clear S; intro a S
      refine wpList_nil ?_
      refine then_n ?_
      exact ⟨x_22, ⟨S.sub (by exact ⟨rfl, rfl, rfl, trivial⟩), W, (ckI_some ex_22).2.1, R0, R1, hl_8⟩⟩
    ·intro hc
     rw [if_neg (Bool.eq_false_iff.1 hc)] at hl_8
     refine wp_exit ?_
     refine then_x ?_
     refine then_x ?_
     refine blk_hit ?_
     refine then_n ?_
     obtain rfl := Option.some.inj hl_8
     exact ⟨_, rfl, ⟨S.sub trivial, W⟩⟩
 clear S W; rintro a w_23 ⟨s_6, rfl, S, W⟩
 replace h := lr_inl h; try dsimp only at h
 refine then_n ?_
 refine wp_seq ?_
 refine wp_region_lit ?_
 refine wl_pure (l' := [(4, .int .i64 (-1))]) S tys tys_ok 1 (by kernel_rfl) ?_
 clear S; intro a S
 refine wpList_nil ?_
 refine then_n ?_
 refine wp_ret ?_
 obtain rfl := Option.some.inj h
 exact b_ret1 S rfl rfl ⟨_, rfl, (RepV.mkInt (by decide)), W.below⟩
theorem cb26 : callB Try.prog 26 = true := by kernel_rfl
def p27 (n : Nat) (x0 : Sl (Int)) (x1 : Sl (Int)) : Option ((Bool)) :=
 (if (decide ((lenI x0) > (lenI x1))) = true then (slI x0 0 (lenI x1)).bind fun s_7 => (p17 n s_7 x1).bind fun t_8 => some t_8 else some false).bind fun q_3 =>
 some q_3
set_option maxHeartbeats 4000000 in
set_option maxRecDepth 100000 in
/-- plugboard/plugboardlaw31.under -/
theorem c27 (K : Nat → Prop) (n : Nat) (w : World) (x0 : Sl (Int)) (v0 : Value) (R0 : RepV (.sl (.int .u8)) w K v0 x0) (x1 : Sl (Int)) (v1 : Value) (R1 : RepV (.sl (.int .u8)) w K v1 x1) {r : (Bool)} (h : p27 n x0 x1 = some r) :
  Calls Try.prog 27 #[v0, v1] w (Ret1 .bool w (Kx K w.heap.size []) r) := by
 refine enter (args := [v0, v1]) Try.func27 rfl 18 rfl rfl fun a S => ?_
 have W := Wd.start w
 replace R0 := R0.arg
 replace R1 := R1.arg
 unfold p27 at h
 replace S : St 18 a [(0, v0), (1, v1)] := S
 refine wp_seq ?_
 refine wp_region_lit ?_
 refine wl_pure (l' := [(4, .bool false), (0, v0), (1, v1)]) S tys tys_ok 1 (by kernel_rfl) ?_
 clear S; intro a S
 refine wpList_nil ?_
 refine then_n ?_
 replace S := S.sub (l' := [(0, v0), (1, v1)]) (by exact ⟨rfl, rfl, trivial⟩)
 refine wp_seq ?_
 refine wp_region_lit ?_
 refine wl_pure (l' := [(5, v0), (0, v0), (1, v1)]) S tys tys_ok 1 (by kernel_rfl) ?_
 clear S; intro a S
 refine w_go S rfl (op_len (K := _) S rfl ty25 rfl rfl rfl R0 ?_)
 clear S; intro a G_1 S
 refine wl_pure (l' := [(7, v1), (6, .int .i64 (lenI x0)), (5, v0), (0, v0), (1, v1)]) S tys tys_ok 1 (by kernel_rfl) ?_
 clear S; intro a S
 refine w_go S rfl (op_len (K := _) S rfl ty25 rfl rfl rfl R1 ?_)
 clear S; intro a G_2 S
 refine wl_pureK (l' := [(10, .bool (decide ((lenI x0) > (lenI x1)))), (0, v0), (1, v1)]) S tys tys_ok 2 [10, 0, 1] (by kernel_rfl) ?_
 clear S; intro a S
 obtain ⟨q_3, eq_3, h⟩ := bindS h
 refine seg 7 (fun a_ w_ => St 18 a_ [(17, .bool q_3)] ∧ Wd w w_ []) ?_ ?_
 ·by_cases hc : (decide ((lenI x0) > (lenI x1))) = true
  ·rw [if_pos hc] at eq_3; rw [hc] at S
   refine wl_pure (l' := [(12, v1), (11, v0), (10, .bool true), (0, v0), (1, v1)]) S tys tys_ok 2 (by kernel_rfl) ?_
   clear S; intro a S
   refine w_go S rfl (op_len (K := _) S rfl ty25 rfl rfl rfl R1 ?_)
   clear S; intro a G_4 S
   obtain ⟨s_7, es_7, eq_3⟩ := bindS eq_3
   refine w_go S rfl (op_slice S rfl ty25 rfl rfl rfl R0 (.inl ⟨rfl, rfl⟩) (.inr ⟨_, _, rfl, rfl⟩) es_7 ?_)
   clear S; intro a v_5 R_6 S
   refine wl_pureK (l' := [(15, v1), (14, v_5), (10, .bool true)]) S tys tys_ok 1 [15, 14, 10] (by kernel_rfl) ?_
   clear S; intro a S
   obtain ⟨t_8, et_8, eq_3⟩ := bindS eq_3
   refine w_go S rfl (op_call (vs := [v_5, v1]) S rfl cb17 rfl rfl rfl (c17 (Kx K w.heap.size []) n w s_7 _ R_6 x1 _ R1 et_8) ?_)
   rintro _ w_12 ⟨v_9, rfl, R_10, hb_11⟩; refine ⟨_, rfl, ?_⟩
   replace R_10 := RepV.back R_10 W
   clear S; intro a S
   replace R_6 := R_6.step hb_11
   replace R1 := R1.step hb_11
   replace W := W.step hb_11
   obtain rfl := RepV.bool R_10
   refine wl_pureK (l' := [(17, .bool t_8)]) S tys tys_ok 1 [17] (by kernel_rfl) ?_
   clear S; intro a S
   obtain rfl := Option.some.inj eq_3
   exact ⟨S.sub (by exact ⟨rfl, trivial⟩), W⟩
  ·rw [if_neg hc] at eq_3; rw [show (decide ((lenI x0) > (lenI x1))) = false from Bool.eq_false_iff.2 hc] at S
   refine wl_pureK (l' := [(17, .bool false)]) S tys tys_ok 7 [17] (by kernel_rfl) ?_
   clear S; intro a S
   obtain rfl := Option.some.inj eq_3
   exact ⟨S.sub (by exact ⟨rfl, trivial⟩), W⟩
 clear S W eq_3; rintro a w_13 ⟨S, W⟩
 refine wl_pure (l' := [(4, .bool q_3), (17, .bool q_3)]) S tys tys_ok 1 (by kernel_rfl) ?_
 clear S; intro a S
 refine wpList_nil ?_
 refine then_n ?_
 replace S := S.sub (l' := [(4, .bool q_3)]) (by exact ⟨rfl, trivial⟩)
 refine wp_ret ?_
 obtain rfl := Option.some.inj h
 exact b_ret1 S rfl rfl ⟨_, rfl, RepV.mkBool, W.below⟩
theorem cb27 : callB Try.prog 27 = true := by kernel_rfl

end Go.Proofs.Ytmcpcdmonglkjaa
