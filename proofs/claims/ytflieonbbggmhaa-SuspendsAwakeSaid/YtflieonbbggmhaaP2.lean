/- Functions of the program, as plain data. -/
import Derived.Test.YtflieonbbggmhaaP1
set_option linter.unusedVariables false
set_option linter.unusedSimpArgs false
namespace Go.Proofs.Ytflieonbbggmhaa
open Go.RowKit

def p12_r1 (n : Nat) (x0 : Sl ((Sl (Int)) × Bool × Bool × Bool × Int)) (x1 : Int) (s_ : (List ((Sl (Int)) × Bool × Bool × Bool × Int)) × (List ((Sl (Int)) × Bool))) (x_ : (Int) × ((Sl (Int)) × Bool × Bool × Bool × Int)) : Option (Nat × ((List ((Sl (Int)) × Bool × Bool × Bool × Int)) × (List ((Sl (Int)) × Bool)))) :=
 (if x_.2.2.2.2.1 then (some (s_.1, s_.2)) else (p25 n x0 x_.2).bind fun t_96 => (if t_96 then ((idx s_.1 x_.1).bind fun y_108 => some ((s_.1.set x_.1.toNat (y_108.1, y_108.2.1, y_108.2.2.1, y_108.2.2.2.1, 0)), s_.2)) else (ckI .i64 (x1 - 1)).bind fun x_120 => (if (decide (x_.2.2.2.2.2 ≥ x_120)) then ((idx s_.1 x_.1).bind fun y_130 => (idx (s_.1.set x_.1.toNat (y_130.1, y_130.2.1, y_130.2.2.1, y_130.2.2.2.1, 0)) x_.1).bind fun y_179 => (p26 n x_.2.1).bind fun t_191 => (appI s_.2 ([(t_191, false)])).bind fun l_238 => some (((s_.1.set x_.1.toNat (y_130.1, y_130.2.1, y_130.2.2.1, y_130.2.2.2.1, 0)).set x_.1.toNat (y_179.1, y_179.2.1, y_179.2.2.1, true, y_179.2.2.2.2)), l_238)) else (idx s_.1 x_.1).bind fun y_247 => (ckI .i64 (y_247.2.2.2.2 + 1)).bind fun x_253 => (idx s_.1 x_.1).bind fun y_254 => some ((s_.1.set x_.1.toNat (y_254.1, y_254.2.1, y_254.2.2.1, y_254.2.2.2.1, x_253)), s_.2)).bind fun (j_121 : (List ((Sl (Int)) × Bool × Bool × Bool × Int)) × (List ((Sl (Int)) × Bool))) => some (j_121.1, j_121.2)).bind fun (j_101 : (List ((Sl (Int)) × Bool × Bool × Bool × Int)) × (List ((Sl (Int)) × Bool))) => some (j_101.1, j_101.2)).bind fun (j_87 : (List ((Sl (Int)) × Bool × Bool × Bool × Int)) × (List ((Sl (Int)) × Bool))) => some (0, (j_87.1, j_87.2))
def p12 (n : Nat) (x0 : Sl ((Sl (Int)) × Bool × Bool × Bool × Int)) (x1 : Int) : Option ((Sl ((Sl (Int)) × Bool × Bool × Bool × Int)) × (Sl ((Sl (Int)) × Bool)) × (Int)) :=
 (p19 n x0).bind fun t_11 =>
 if (t_11 != 0) then (some ((⟨([] : List ((Sl (Int)) × Bool × Bool × Bool × Int)), some 0⟩ : Sl ((Sl (Int)) × Bool × Bool × Bool × Int)), (⟨[], some 0⟩ : Sl ((Sl (Int)) × Bool)), t_11)) else if (decide (x1 < 1)) then (some ((⟨([] : List ((Sl (Int)) × Bool × Bool × Bool × Int)), some 0⟩ : Sl ((Sl (Int)) × Bool × Bool × Bool × Int)), (⟨[], some 0⟩ : Sl ((Sl (Int)) × Bool)), 1)) else (p23 n x0).bind fun t_22 => (p24 n x0).bind fun t_39 => (p39 n t_39 (Nat × ((List ((Sl (Int)) × Bool × Bool × Bool × Int)) × (List ((Sl (Int)) × Bool)))) (rnd (p12_r1 n x0 x1)) (0, (t_22.xs, []))).bind fun (y_63 : Nat × ((List ((Sl (Int)) × Bool × Bool × Bool × Int)) × (List ((Sl (Int)) × Bool)))) => (sl3I (⟨y_63.2.2, .none⟩ : Sl ((Sl (Int)) × Bool)) 0 (lenI (⟨y_63.2.2, .none⟩ : Sl ((Sl (Int)) × Bool))) (lenI (⟨y_63.2.2, .none⟩ : Sl ((Sl (Int)) × Bool)))).bind fun s_282 => some ((⟨y_63.2.1, t_22.cap⟩ : Sl ((Sl (Int)) × Bool × Bool × Bool × Int)), s_282, 0)
set_option maxHeartbeats 4000000 in
set_option maxRecDepth 100000 in
/-- plugboard/suspends.Tick -/
theorem c12 (K : Nat → Prop) (n : Nat) (w : World) (x0 : Sl ((Sl (Int)) × Bool × Bool × Bool × Int)) (v0 : Value) (R0 : RepV (.sl gt2) w K v0 x0) (x1 : Int) (G1 : InR .i64 x1) {r : (Sl ((Sl (Int)) × Bool × Bool × Bool × Int)) × (Sl ((Sl (Int)) × Bool)) × (Int)} (h : p12 n x0 x1 = some r) :
  Calls Try.prog 12 #[v0, .int .i64 x1] w (fun e_ w_ => ∃ v0_ v1_ v2_ : Value, e_ = .returned (.tuple #[v0_, v1_, v2_]) ∧ Ow gt2 37 w_ w.heap.size (Kx K w.heap.size [v0_.ownBlock]) v0_ r.1.xs r.1.cap ∧ RepV (.sl gt0) w_ (Kx K w.heap.size [v0_.ownBlock]) v1_ r.2.1 ∧ RepV (.int .i64) w_ (Kx K w.heap.size [v0_.ownBlock]) v2_ r.2.2 ∧ Below w.heap.size w w_) := by
 refine R.enter (args := [v0, .int .i64 x1]) Try.func12 rfl 72 rfl rfl (fun _ h_ => by obtain ⟨_, _, _, q_, _⟩ := h_; cases q_) fun a S => ?_
 have W := Wd.start w
 replace R0 := R0.arg
 unfold p12 at h
 replace S : St 72 a [(0, v0), (1, .int .i64 x1)] := S
 refine R.wp_seq ?_
 refine R.wp_region_lit ?_
 refine R.w_go S rfl (op_box S rfl rfl rfl rfl rfl R0 ?_)
 clear S; intro a w_3 b_1 hb_4 B_2 S
 replace R0 := R0.box hb_4
 replace W := W.box hb_4
 refine R.w_go S rfl (op_box S rfl rfl rfl rfl rfl ((RepV.mkInt G1) : RepV (.int .i64) w_3 (Kx K w.heap.size [some b_1]) _ _) ?_)
 clear S; intro a w_7 b_5 hb_8 B_6 S
 replace R0 := R0.box hb_8
 replace B_2 := B_2.box hb_8
 replace W := W.box hb_8
 refine R.wl_pureK (l' := [(3, pB b_5), (2, pB b_1)]) S tys tys_ok 3 [3, 2] (by kernel_rfl) ?_
 clear S; intro a S
 refine R.wpList_nil ?_
 refine then_n ?_
 refine R.wp_seq ?_
 refine R.wp_seq ?_
 refine R.wp_region_lit ?_
 refine R.w_go S rfl (op_load (t := (.sl gt2)) (x := x0) S rfl ty25 rfl rfl rfl B_2.at_ ?_)
 clear S; intro a v_9 R_10 S
 obtain ⟨t_11, et_11, h⟩ := bindS h
 refine R.w_go S rfl (op_call (vs := [v_9]) S rfl cb19 rfl rfl rfl (c19 (Kx K w.heap.size [some b_5, some b_1]) n w_7 x0 _ R_10 et_11) ?_)
 rintro _ w_15 ⟨v_12, rfl, R_13, hb_14⟩; refine ⟨_, rfl, ?_⟩
 replace R_13 := RepV.back R_13 W
 clear S; intro a S
 replace R_10 := R_10.step hb_14
 replace B_2 := B_2.step hb_14
 replace B_6 := B_6.step hb_14
 replace W := W.step hb_14
 obtain ⟨rfl, GR_13⟩ := RepV.int R_13
 refine R.wl_pure (l' := [(7, .int .i64 t_11), (13, .int .i64 t_11), (12, v_9), (3, pB b_5), (2, pB b_1)]) S tys tys_ok 1 (by kernel_rfl) ?_
 clear S; intro a S
 refine R.wpList_nil ?_
 refine then_n ?_
 replace S := S.sub (l' := [(7, .int .i64 t_11), (3, pB b_5), (2, pB b_1)]) (by exact ⟨rfl, rfl, rfl, trivial⟩)
 refine R.wp_seq ?_
 refine R.wp_region_lit ?_
 refine R.wl_pure (l' := [(15, .bool (t_11 != 0)), (14, .int .i64 t_11), (7, .int .i64 t_11), (3, pB b_5), (2, pB b_1)]) S tys tys_ok 2 (by kernel_rfl) ?_
 clear S; intro a S
 refine R.wpList_nil ?_
 refine then_n ?_
 replace S := S.sub (l' := [(15, .bool (t_11 != 0)), (7, .int .i64 t_11), (3, pB b_5), (2, pB b_1)]) (by exact ⟨rfl, rfl, rfl, rfl, trivial⟩)
 refine R.wp_cond_split (S.eval (show ev _ _ = some (.bool (t_11 != 0)) from rfl)) ?_ ?_
 ·intro hc
  rw [if_pos hc] at h
  refine R.wp_seq ?_
  refine R.wp_region_lit ?_
  refine R.wl_pureK (l' := [(6, .int .i64 t_11), (5, .slice .none 0 0), (4, .slice .none 0 0)]) S tys tys_ok 4 [6, 5, 4] (by kernel_rfl) ?_
  clear S; intro a S
  refine R.wpList_nil ?_
  refine then_n ?_
  refine R.wp_ret ?_
  refine then_r ?_
  refine R.leave0 S ?_ (by simp)
  clear S; intro a S
  replace B_2 := B_2.more
  replace B_6 := B_6.more
  replace W := W.more
  have O_16 : Ow gt2 37 w_15 w.heap.size (Kx K w.heap.size [.none, some b_5, some b_1]) (.slice .none 0 0) ([] : List ((Sl (Int)) × Bool × Bool × Bool × Int)) (some 0) := Ow.nil
  obtain rfl := Option.some.inj h
  exact b_ret3 S rfl rfl rfl rfl ⟨_, _, _, rfl, (O_16.lessO 0 rfl), RepV.nil, (RepV.mkInt GR_13), W.below⟩
 ·intro hc
  rw [if_neg (Bool.eq_false_iff.1 hc)] at h
  refine R.wp_skip ?_
  refine then_n ?_
  replace S := S.sub (l' := [(3, pB b_5), (2, pB b_1)]) (by exact ⟨rfl, rfl, trivial⟩)
  refine R.wp_seq ?_
  refine R.wp_seq ?_
  refine R.wp_region_lit ?_
  refine R.w_go S rfl (op_load (t := (.int .i64)) (x := x1) S rfl ty3 rfl rfl rfl B_6.at_ ?_)
  clear S; intro a v_17 R_18 S
  obtain ⟨rfl, GR_18⟩ := RepV.int R_18
  refine R.wl_pure (l' := [(18, .bool (decide (x1 < 1))), (17, .int .i64 x1), (3, pB b_5), (2, pB b_1)]) S tys tys_ok 1 (by kernel_rfl) ?_
  clear S; intro a S
  refine R.wpList_nil ?_
  refine then_n ?_
  replace S := S.sub (l' := [(18, .bool (decide (x1 < 1))), (3, pB b_5), (2, pB b_1)]) (by exact ⟨rfl, rfl, rfl, trivial⟩)
  refine R.wp_cond_split (S.eval (show ev _ _ = some (.bool (decide (x1 < 1))) from rfl)) ?_ ?_
  ·intro hc
   rw [if_pos hc] at h
   refine R.wp_seq ?_
   refine R.wp_region_lit ?_
   refine R.wl_pureK (l' := [(6, .int .i64 1), (5, .slice .none 0 0), (4, .slice .none 0 0)]) S tys tys_ok 3 [6, 5, 4] (by kernel_rfl) ?_
   clear S; intro a S
   refine R.wpList_nil ?_
   refine then_n ?_
   refine R.wp_ret ?_
   refine then_r ?_
   refine R.leave0 S ?_ (by simp)
   clear S; intro a S
   replace B_2 := B_2.more
   replace B_6 := B_6.more
   replace W := W.more
   have O_19 : Ow gt2 37 w_15 w.heap.size (Kx K w.heap.size [.none, some b_5, some b_1]) (.slice .none 0 0) ([] : List ((Sl (Int)) × Bool × Bool × Bool × Int)) (some 0) := Ow.nil
   obtain rfl := Option.some.inj h
   exact b_ret3 S rfl rfl rfl rfl ⟨_, _, _, rfl, (O_19.lessO 0 rfl), RepV.nil, (RepV.mkInt (by decide)), W.below⟩
  ·intro hc
   rw [if_neg (Bool.eq_false_iff.1 hc)] at h
   refine R.wp_skip ?_
   refine then_n ?_
   replace S := S.sub (l' := [(3, pB b_5), (2, pB b_1)]) (by exact ⟨rfl, rfl, trivial⟩)
   refine R.wp_seq ?_
   refine R.wp_region_lit ?_
   refine R.w_go S rfl (op_load (t := (.sl gt2)) (x := x0) S rfl ty25 rfl rfl rfl B_2.at_ ?_)
   clear S; intro a v_20 R_21 S
   obtain ⟨t_22, et_22, h⟩ := bindS h
   refine R.w_go S rfl (op_call (vs := [v_20]) S rfl cb23 rfl rfl rfl (c23 (Kx K w.heap.size [some b_5, some b_1]) n w_15 x0 _ R_21 et_22) ?_)
   rintro _ w_26 ⟨v_23, rfl, R_24, hb_25⟩; refine ⟨_, rfl, ?_⟩
   have NO_ := newO_of R_24 (Nat.le_refl _) hb_25
   replace R_24 := Ow.backO R_24 W
   clear S; intro a S
   replace R_21 := R_21.newO NO_
   replace B_2 := B_2.newO NO_
   replace B_6 := B_6.newO NO_
   replace W := W.newO NO_
   clear NO_
   refine R.w_go S rfl (op_alloc (K := K) (n := w.heap.size) (L := [v_23.ownBlock, some b_5, some b_1]) (t := .raw) (y := (.slice .none 0 0)) S rfl rfl rfl _ z25 (fun w K => ⟨rfl, _, _, _, rfl⟩) ?_)
   clear S; intro a w_29 b_27 hb_30 B_28 S
   replace R_21 := R_21.box hb_30
   replace B_2 := B_2.box hb_30
   replace B_6 := B_6.box hb_30
   replace R_24 := R_24.box hb_30
   replace W := W.box hb_30
   refine R.w_go S rfl (op_store (t' := .raw) S rfl rfl tyr25 rfl rfl rfl B_28 (by simp) Ln.whole R_24.raw ?_)
   intro w_31 hw_32 B_
   replace R_21 := R_21.wrote hw_32 (by simp)
   replace B_2 := B_2.wrote hw_32 (by simp) (W.bne (p := 3) (q := 0) (by decide) rfl rfl)
   replace B_6 := B_6.wrote hw_32 (by simp) (W.bne (p := 2) (q := 0) (by decide) rfl rfl)
   replace R_24 := R_24.wrote hw_32 (by simp) (W.one (p := 1) (q := 0) (by decide) rfl rfl)
   replace W := W.wrote hw_32 (by simp)
   replace B_28 : Bx .raw 25 w_31 (Kx K w.heap.size [some b_27, v_23.ownBlock, some b_5, some b_1]) b_27 v_23 := B_; clear B_
   refine R.wpList_nil ?_
   refine then_n ?_
   replace S := S.sub (l' := [(8, pB b_27), (3, pB b_5), (2, pB b_1)]) (by exact ⟨rfl, rfl, rfl, trivial⟩)
   refine R.wp_seq ?_
   refine R.wp_region_lit ?_
   refine R.w_go S rfl (op_alloc (K := K) (n := w.heap.size) (L := [some b_27, v_23.ownBlock, some b_5, some b_1]) (t := .raw) (y := (.slice .none 0 0)) S rfl rfl rfl _ z26 (fun w K => ⟨rfl, _, _, _, rfl⟩) ?_)
   clear S; intro a w_35 b_33 hb_36 B_34 S
   replace B_2 := B_2.box hb_36
   replace B_6 := B_6.box hb_36
   replace B_28 := B_28.box hb_36
   replace R_24 := R_24.box hb_36
   replace W := W.box hb_36
   refine R.wpList_nil ?_
   refine then_n ?_
   refine R.wp_seq ?_
   refine R.wp_seq ?_
   refine R.wp_region_lit ?_
   refine R.w_go S rfl (op_load (t := (.sl gt2)) (x := x0) S rfl ty25 rfl rfl rfl B_2.at_ ?_)
   clear S; intro a v_37 R_38 S
   obtain ⟨t_39, et_39, h⟩ := bindS h
   refine R.w_go S rfl (op_call (vs := [v_37]) S rfl cb24 rfl rfl rfl (c24 (Kx K w.heap.size [some b_33, some b_27, v_23.ownBlock, some b_5, some b_1]) n w_35 x0 _ R_38 et_39) ?_)
   rintro _ w_42 ⟨p_44, rfl, Q_45, hb_43⟩; refine ⟨_, rfl, ?_⟩
   replace Q_45 := Pr.back Q_45 W
   clear S; intro a S
   replace R_38 := R_38.step hb_43
   replace B_2 := B_2.step hb_43
   replace B_6 := B_6.step hb_43
   replace B_28 := B_28.step hb_43
   replace B_34 := B_34.step hb_43
   replace R_24 := R_24.step hb_43
   replace W := W.step hb_43
   refine R.wpList_nil ?_
   refine then_n ?_
   replace S := S.sub (l' := [(22, .func (.func 39) #[] #[.pointer (some p_44)]), (9, pB b_33), (8, pB b_27), (3, pB b_5), (2, pB b_1)]) (by exact ⟨rfl, rfl, rfl, rfl, rfl, trivial⟩)
   obtain ⟨y_63, ey_63, h⟩ := bindS h
   refine R.wp_cut_ (fun a_ w_ => ∃ D_46 l_47 : Nat, (∃ (v_66 : Value), StD [markD D_46] 72 a_ [(9, pB b_33), (8, pB b_27)] ∧ Wd w w_ [v_66.ownBlock, some l_47, some D_46, some b_33, some b_27, v_23.ownBlock, some b_5, some b_1] ∧ Bx (.sl gt2) 25 w_ (Kx K w.heap.size [v_66.ownBlock, some l_47, some D_46, some b_33, some b_27, v_23.ownBlock, some b_5, some b_1]) b_1 x0 ∧ Bx (.int .i64) 3 w_ (Kx K w.heap.size [v_66.ownBlock, some l_47, some D_46, some b_33, some b_27, v_23.ownBlock, some b_5, some b_1]) b_5 x1 ∧ Bx .raw 25 w_ (Kx K w.heap.size [v_66.ownBlock, some l_47, some D_46, some b_33, some b_27, v_23.ownBlock, some b_5, some b_1]) b_27 v_23 ∧ Bx .raw 26 w_ (Kx K w.heap.size [v_66.ownBlock, some l_47, some D_46, some b_33, some b_27, v_23.ownBlock, some b_5, some b_1]) b_33 v_66 ∧ Ox (.deferred (some [])) w_ D_46 ∧ Ow gt2 37 w_ w.heap.size (Kx K w.heap.size [v_66.ownBlock, some l_47, some D_46, some b_33, some b_27, v_23.ownBlock, some b_5, some b_1]) v_23 y_63.2.1 t_22.cap ∧ Ow gt0 39 w_ w.heap.size (Kx K w.heap.size [v_66.ownBlock, some l_47, some D_46, some b_33, some b_27, v_23.ownBlock, some b_5, some b_1]) v_66 y_63.2.2 .none)) ?_ ?_
   ·refine R.wp_block ?_
    refine R.range S rfl cb39 ?_
    intro fn_ w_68 w_69 D_46 l_47 rec hrec hbD_46 hbl_47 oD_46 ol_47; have S0 := S
    replace Q_45 := Q_45.box hbD_46
    replace B_2 := B_2.box hbD_46
    replace B_6 := B_6.box hbD_46
    replace B_28 := B_28.box hbD_46
    replace B_34 := B_34.box hbD_46
    replace R_24 := R_24.box hbD_46
    replace W := W.box hbD_46
    replace Q_45 := Q_45.box hbl_47
    replace B_2 := B_2.box hbl_47
    replace B_6 := B_6.box hbl_47
    replace B_28 := B_28.box hbl_47
    replace B_34 := B_34.box hbl_47
    replace oD_46 := oD_46.box hbl_47
    replace R_24 := R_24.box hbl_47
    replace W := W.box hbl_47
    have hz_ : w.heap.size ≤ w_69.heap.size := W.below.size; have ltD_46 := oD_46.lt; have ltl_47 := ol_47.lt
    replace Q_45 := Q_45.more
    replace B_2 := B_2.more
    replace B_6 := B_6.more
    replace B_28 := B_28.more
    replace B_34 := B_34.more
    replace oD_46 := oD_46.more
    replace R_24 := R_24.more
    replace W := W.more
    have O_74 : Ow gt0 39 w_69 w.heap.size (Kx K w.heap.size [.none, some l_47, some D_46, some b_33, some b_27, v_23.ownBlock, some b_5, some b_1]) (.slice .none 0 0) ([] : List ((Sl (Int)) × Bool)) (some 0) := Ow.nil
    refine (c39 K n w w_69 [.none, some l_47, some D_46, some b_33, some b_27, v_23.ownBlock, some b_5, some b_1] p_44 _ Q_45 (Nat × ((List ((Sl (Int)) × Bool × Bool × Bool × Int)) × (List ((Sl (Int)) × Bool)))) (rnd (p12_r1 n x0 x1)) _ l_47 (fun (b_ : Nat × ((List ((Sl (Int)) × Bool × Bool × Bool × Int)) × (List ((Sl (Int)) × Bool)))) (LO_ : List (Option Nat)) (w_ : World) => ∃ (k_ : Nat) (s_ : (List ((Sl (Int)) × Bool × Bool × Bool × Int)) × (List ((Sl (Int)) × Bool))) (v_72 : Value), b_ = (k_, s_) ∧ k_ ≤ 0 ∧ LO_ = [v_72.ownBlock, some l_47, some D_46, some b_33, some b_27, v_23.ownBlock, some b_5, some b_1] ∧ Wd w w_ [v_72.ownBlock, some l_47, some D_46, some b_33, some b_27, v_23.ownBlock, some b_5, some b_1] ∧ Bx (.sl gt2) 25 w_ (Kx K w.heap.size [v_72.ownBlock, some l_47, some D_46, some b_33, some b_27, v_23.ownBlock, some b_5, some b_1]) b_1 x0 ∧ Bx (.int .i64) 3 w_ (Kx K w.heap.size [v_72.ownBlock, some l_47, some D_46, some b_33, some b_27, v_23.ownBlock, some b_5, some b_1]) b_5 x1 ∧ Bx .raw 25 w_ (Kx K w.heap.size [v_72.ownBlock, some l_47, some D_46, some b_33, some b_27, v_23.ownBlock, some b_5, some b_1]) b_27 v_23 ∧ Bx .raw 26 w_ (Kx K w.heap.size [v_72.ownBlock, some l_47, some D_46, some b_33, some b_27, v_23.ownBlock, some b_5, some b_1]) b_33 v_72 ∧ Ox (.deferred (some [])) w_ D_46 ∧ Ow gt2 37 w_ w.heap.size (Kx K w.heap.size [v_72.ownBlock, some l_47, some D_46, some b_33, some b_27, v_23.ownBlock, some b_5, some b_1]) v_23 s_.1 t_22.cap ∧ Ow gt0 39 w_ w.heap.size (Kx K w.heap.size [v_72.ownBlock, some l_47, some D_46, some b_33, some b_27, v_23.ownBlock, some b_5, some b_1]) v_72 s_.2 .none ∧ Ox (rk rec [] k_) w_ l_47) W ⟨?_, ⟨0, (t_22.xs, []), (.slice .none 0 0), rfl, by decide, rfl, W, B_2, B_6, B_28, B_34, oD_46, R_24, O_74.forget, ol_47⟩, Nat.le_refl _⟩ ?_ ey_63).mono ?_
    ·rintro _ LO_ A_ B_ ⟨k_, s_, v_72, rfl, hk_, rfl, W, B_2, B_6, B_28, B_34, oD_46, O_71, O_73, ol_47⟩ hab_; exact ⟨k_, s_, v_72, rfl, hk_, rfl, W.ab hab_ (by simp) hz_, B_2.ab hab_ (by simp) (by simp), B_6.ab hab_ (by simp) (by simp), B_28.ab hab_ (by simp) (by simp), B_34.ab hab_ (by simp) (by simp), oD_46.ab hab_ ltD_46 (by simp), O_71.ab hab_ (by simp) (.inr (by simp)), O_73.ab hab_ (by simp) (.inr (by simp)), ol_47.ab hab_ ltl_47 (by simp)⟩
    ·intro b_ LO_ A_ x_ v_76 WA_ G_75 R_77 r_ hf_ hJ_
     obtain ⟨s0_, r0_, e1_, hb_, rfl⟩ := rnd_some hf_
     obtain ⟨k_, s_, v_72, e2_, hk_, rfl, W, B_2, B_6, B_28, B_34, oD_46, O_71, O_73, ol_47⟩ := hJ_
     obtain ⟨q1_, q2_⟩ := Prod.mk.inj (e2_.symm.trans e1_); subst q1_; subst q2_; clear WA_ hf_
     replace ol_47 : Ox (rec .ready none) A_ l_47 := ol_47
     refine yieldAt_of (ps := [23, 24]) (vs := [.int .i64 x_.1, v_76]) hrec S0 ol_47 rfl (by kernel_rfl) ?_; intro a S
     unfold p12_r1 at hb_; try dsimp only at hb_
     have RR := Rnd.start A_ [v_72.ownBlock, some l_47, some D_46, some b_33, some b_27, v_23.ownBlock, some b_5, some b_1]
     replace S : St 72 a [(24, v_76), (23, .int .i64 x_.1), (9, pB b_33), (8, pB b_27), (3, pB b_5), (2, pB b_1)] := S.sub (by exact ⟨rfl, rfl, rfl, rfl, rfl, rfl, trivial⟩)
     refine R.wp_seq ?_
     refine R.wp_region_lit ?_
     refine R.wl_pure (l' := [(10, .int .i64 x_.1), (24, v_76), (23, .int .i64 x_.1), (9, pB b_33), (8, pB b_27), (3, pB b_5), (2, pB b_1)]) S tys tys_ok 1 (by kernel_rfl) ?_
     clear S; intro a S
     refine R.wpList_nil ?_
     refine then_n ?_
     refine R.wp_region_lit ?_
     refine R.w_go S rfl (op_alloc (K := K) (n := w.heap.size) (L := [v_72.ownBlock, some l_47, some D_46, some b_33, some b_27, v_23.ownBlock, some b_5, some b_1]) (t := gt2) (y := (⟨[], some 0⟩, false, false, false, 0)) S rfl rfl rfl _ z37 (fun w K => ⟨[.slice .none 0 0], [.bool false, .bool false, .bool false, .int .i64 0], rfl, ⟨.none, 0, 0, rfl, rfl, Nat.le_refl _, by decide, fun k h => Option.some.inj h, .inl rfl⟩, ⟨[.bool false], [.bool false, .bool false, .int .i64 0], rfl, rfl, ⟨[.bool false], [.bool false, .int .i64 0], rfl, rfl, ⟨[.bool false], [.int .i64 0], rfl, rfl, ⟨rfl, by decide⟩⟩⟩⟩⟩) ?_)
     clear S; intro a w_80 b_78 hb_81 B_79 S
     replace R_77 := R_77.box hb_81
     replace B_2 := B_2.box hb_81
     replace B_6 := B_6.box hb_81
     replace B_28 := B_28.box hb_81
     replace B_34 := B_34.box hb_81
     replace oD_46 := oD_46.box hb_81
     replace ol_47 := ol_47.box hb_81
     replace O_71 := O_71.box hb_81
     replace O_73 := O_73.box hb_81
     replace RR := RR.box hb_81
     replace W := W.box hb_81
     refine R.w_go S rfl (op_store (t' := gt2) S rfl rfl ty37 rfl rfl rfl B_79 (by simp) Ln.whole R_77 ?_)
     intro w_82 hw_83 B_
     replace R_77 := R_77.wrote hw_83 (by simp)
     replace B_2 := B_2.wrote hw_83 (by simp) (W.bne (p := 8) (q := 0) (by decide) rfl rfl)
     replace B_6 := B_6.wrote hw_83 (by simp) (W.bne (p := 7) (q := 0) (by decide) rfl rfl)
     replace B_28 := B_28.wrote hw_83 (by simp) (W.bne (p := 5) (q := 0) (by decide) rfl rfl)
     replace B_34 := B_34.wrote hw_83 (by simp) (W.bne (p := 4) (q := 0) (by decide) rfl rfl)
     replace oD_46 := oD_46.wrote hw_83 (by simp) (W.bne (p := 3) (q := 0) (by decide) rfl rfl)
     replace ol_47 := ol_47.wrote hw_83 (by simp) (W.bne (p := 2) (q := 0) (by decide) rfl rfl)
     replace O_71 := O_71.wrote hw_83 (by simp) (W.one (p := 6) (q := 0) (by decide) rfl rfl)
     replace O_73 := O_73.wrote hw_83 (by simp) (W.one (p := 1) (q := 0) (by decide) rfl rfl)
     replace RR := RR.wrote hw_83 (by simp)
     replace W := W.wrote hw_83 (by simp)
     replace B_79 : Bx gt2 37 w_82 (Kx K w.heap.size [some b_78, v_72.ownBlock, some l_47, some D_46, some b_33, some b_27, v_23.ownBlock, some b_5, some b_1]) b_78 x_.2 := B_; clear B_
     refine R.wpList_nil ?_
     refine then_n ?_
     refine R.begin hrec ol_47 ?_; intro w_84 hN_ ol_47
     replace R_77 := R_77.nc hN_
     replace B_2 := B_2.nc hN_
     replace B_6 := B_6.nc hN_
     replace B_28 := B_28.nc hN_
     replace B_34 := B_34.nc hN_
     replace oD_46 := oD_46.nc hN_ (W.bne (p := 3) (q := 2) (by decide) rfl rfl)
     replace B_79 := B_79.nc hN_
     replace O_71 := O_71.nc hN_
     replace O_73 := O_73.nc hN_
     replace RR := RR.nc hN_ (by simp)
     replace W := W.nc hN_ (by simp)
     refine R.wp_block ?_
     refine R.wp_block ?_
     refine R.wp_seq ?_
     refine R.wp_region_lit ?_
     refine R.wl_pure (l' := [(34, .pointer (some ((⟨b_78, 0, .none⟩ : Addr).add (coff gf2 3)))), (11, pB b_78), (10, .int .i64 x_.1), (24, v_76), (23, .int .i64 x_.1), (9, pB b_33), (8, pB b_27), (3, pB b_5), (2, pB b_1)]) S tys tys_ok 1 (by kernel_rfl) ?_
     clear S; intro a S
     refine R.w_go S rfl (op_load (t := .bool) (x := x_.2.2.2.2.1) S rfl ty4 rfl rfl rfl (RepAt.add 3 (RepAt.st (t := gf2) B_79.at_)) ?_)
     clear S; intro a v_85 R_86 S
     obtain rfl := RepV.bool R_86
     refine R.wl_pureK (l' := [(33, .bool x_.2.2.2.2.1), (11, pB b_78), (10, .int .i64 x_.1), (9, pB b_33), (8, pB b_27), (3, pB b_5), (2, pB b_1)]) S tys tys_ok 1 [33, 11, 10, 9, 8, 3, 2] (by kernel_rfl) ?_
     clear S; intro a S
     refine R.wpList_nil ?_
     refine then_n ?_
     obtain ⟨j_87, ej_87, hb_⟩ := bindS hb_
     refine R.wp_cut_ (fun a_ w_ => ∃ (v_90 : Value), St 72 a_ [] ∧ Wd w w_ [some b_78, v_90.ownBlock, some l_47, some D_46, some b_33, some b_27, v_23.ownBlock, some b_5, some b_1] ∧ Bx (.sl gt2) 25 w_ (Kx K w.heap.size [some b_78, v_90.ownBlock, some l_47, some D_46, some b_33, some b_27, v_23.ownBlock, some b_5, some b_1]) b_1 x0 ∧ Bx (.int .i64) 3 w_ (Kx K w.heap.size [some b_78, v_90.ownBlock, some l_47, some D_46, some b_33, some b_27, v_23.ownBlock, some b_5, some b_1]) b_5 x1 ∧ Bx .raw 25 w_ (Kx K w.heap.size [some b_78, v_90.ownBlock, some l_47, some D_46, some b_33, some b_27, v_23.ownBlock, some b_5, some b_1]) b_27 v_23 ∧ Bx .raw 26 w_ (Kx K w.heap.size [some b_78, v_90.ownBlock, some l_47, some D_46, some b_33, some b_27, v_23.ownBlock, some b_5, some b_1]) b_33 v_90 ∧ Ox (.deferred (some [])) w_ D_46 ∧ Bx gt2 37 w_ (Kx K w.heap.size [some b_78, v_90.ownBlock, some l_47, some D_46, some b_33, some b_27, v_23.ownBlock, some b_5, some b_1]) b_78 x_.2 ∧ Ox (rec .busy none) w_ l_47 ∧ Ow gt2 37 w_ w.heap.size (Kx K w.heap.size [some b_78, v_90.ownBlock, some l_47, some D_46, some b_33, some b_27, v_23.ownBlock, some b_5, some b_1]) v_23 j_87.1 t_22.cap ∧ Ow gt0 39 w_ w.heap.size (Kx K w.heap.size [some b_78, v_90.ownBlock, some l_47, some D_46, some b_33, some b_27, v_23.ownBlock, some b_5, some b_1]) v_90 j_87.2 .none ∧ Rnd A_ [v_72.ownBlock, some l_47, some D_46, some b_33, some b_27, v_23.ownBlock, some b_5, some b_1] w_ [some b_78, v_90.ownBlock, some l_47, some D_46, some b_33, some b_27, v_23.ownBlock, some b_5, some b_1]) ?_ ?_
     ·refine R.wp_cond_split (S.eval (show ev _ _ = some (.bool x_.2.2.2.2.1) from rfl)) ?_ ?_
      ·intro hc
       rw [if_pos hc] at ej_87
       refine R.wp_skip ?_
       refine then_n ?_
       obtain rfl := Option.some.inj ej_87
       exact ⟨v_72, S.sub trivial, W, B_2, B_6, B_28, B_34, oD_46, B_79, ol_47, O_71, O_73, RR⟩
      ·intro hc
       rw [if_neg (Bool.eq_false_iff.1 hc)] at ej_87
       refine R.wp_seq ?_
       refine R.wp_region_lit ?_
       refine R.w_go S rfl (op_load (t := (.sl gt2)) (x := x0) S rfl ty25 rfl rfl rfl B_2.at_ ?_)
       clear S; intro a v_92 R_93 S
       refine R.w_go S rfl (op_load (t := gt2) (x := x_.2) S rfl ty37 rfl rfl rfl B_79.at_ ?_)
       clear S; intro a v_94 R_95 S
       obtain ⟨t_96, et_96, ej_87⟩ := bindS ej_87
       refine R.w_go S rfl (op_call (vs := [v_92, v_94]) S rfl cb25 rfl rfl rfl (c25 (Kx K w.heap.size [some b_78, v_72.ownBlock, some l_47, some D_46, some b_33, some b_27, v_23.ownBlock, some b_5, some b_1]) n w_84 x0 _ R_93 x_.2 _ R_95 et_96) ?_)
       rintro _ w_100 ⟨v_97, rfl, R_98, hb_99⟩; refine ⟨_, rfl, ?_⟩
       replace R_98 := RepV.back R_98 W
       clear S; intro a S
       replace R_93 := R_93.step hb_99
       replace R_95 := R_95.step hb_99
       replace B_2 := B_2.step hb_99
       replace B_6 := B_6.step hb_99
       replace B_28 := B_28.step hb_99
       replace B_34 := B_34.step hb_99
       replace oD_46 := oD_46.step hb_99
       replace B_79 := B_79.step hb_99
       replace ol_47 := ol_47.step hb_99
       replace O_71 := O_71.step hb_99
       replace O_73 := O_73.step hb_99
       replace RR := RR.step hb_99
       replace W := W.step hb_99
       obtain rfl := RepV.bool R_98
       refine R.wl_pureK (l' := [(36, .bool t_96), (11, pB b_78), (10, .int .i64 x_.1), (9, pB b_33), (8, pB b_27), (3, pB b_5)]) S tys tys_ok 1 [36, 11, 10, 9, 8, 3] (by kernel_rfl) ?_
       clear S; intro a S
       refine R.wpList_nil ?_
       refine then_n ?_
       obtain ⟨j_101, ej_101, ej_87⟩ := bindS ej_87
       refine R.wp_cut_ (fun a_ w_ => ∃ (v_104 : Value), St 72 a_ [] ∧ Wd w w_ [some b_78, v_104.ownBlock, some l_47, some D_46, some b_33, some b_27, v_23.ownBlock, some b_5, some b_1] ∧ Bx (.sl gt2) 25 w_ (Kx K w.heap.size [some b_78, v_104.ownBlock, some l_47, some D_46, some b_33, some b_27, v_23.ownBlock, some b_5, some b_1]) b_1 x0 ∧ Bx (.int .i64) 3 w_ (Kx K w.heap.size [some b_78, v_104.ownBlock, some l_47, some D_46, some b_33, some b_27, v_23.ownBlock, some b_5, some b_1]) b_5 x1 ∧ Bx .raw 25 w_ (Kx K w.heap.size [some b_78, v_104.ownBlock, some l_47, some D_46, some b_33, some b_27, v_23.ownBlock, some b_5, some b_1]) b_27 v_23 ∧ Bx .raw 26 w_ (Kx K w.heap.size [some b_78, v_104.ownBlock, some l_47, some D_46, some b_33, some b_27, v_23.ownBlock, some b_5, some b_1]) b_33 v_104 ∧ Ox (.deferred (some [])) w_ D_46 ∧ Bx gt2 37 w_ (Kx K w.heap.size [some b_78, v_104.ownBlock, some l_47, some D_46, some b_33, some b_27, v_23.ownBlock, some b_5, some b_1]) b_78 x_.2 ∧ Ox (rec .busy none) w_ l_47 ∧ Ow gt2 37 w_ w.heap.size (Kx K w.heap.size [some b_78, v_104.ownBlock, some l_47, some D_46, some b_33, some b_27, v_23.ownBlock, some b_5, some b_1]) v_23 j_101.1 t_22.cap ∧ Ow gt0 39 w_ w.heap.size (Kx K w.heap.size [some b_78, v_104.ownBlock, some l_47, some D_46, some b_33, some b_27, v_23.ownBlock, some b_5, some b_1]) v_104 j_101.2 .none ∧ Rnd A_ [v_72.ownBlock, some l_47, some D_46, some b_33, some b_27, v_23.ownBlock, some b_5, some b_1] w_ [some b_78, v_104.ownBlock, some l_47, some D_46, some b_33, some b_27, v_23.ownBlock, some b_5, some b_1]) ?_ ?_
       ·refine R.wp_cond_split (S.eval (show ev _ _ = some (.bool t_96) from rfl)) ?_ ?_
        ·intro hc
         rw [if_pos hc] at ej_101
         refine R.wp_region_lit ?_
         refine R.w_go S rfl (op_load (t := .raw) (x := v_23) S rfl tyr25 rfl rfl rfl B_28.at_ ?_)
         clear S; intro a v_106 R_107 S
         have q_ := (RepV.rawEq R_107).symm; clear R_107; subst q_
         refine R.wl_pureK (l' := [(41, .int .i64 x_.1), (40, v_23)]) S tys tys_ok 1 [41, 40] (by kernel_rfl) ?_
         clear S; intro a S
         obtain ⟨y_108, ey_108, ej_101⟩ := bindS ej_101
         refine R.w_go S rfl (op_indexAddr_own S rfl ty25 rfl rfl rfl O_71 rfl ey_108 ?_)
         clear S; intro a g_109 H_111 R_110 S
         refine R.wl_pureK (l' := [(43, .pointer (some ((⟨g_109, x_.1.toNat * GT.sz gt2, .none⟩ : Addr).add (coff gf2 4))))]) S tys tys_ok 1 [43] (by kernel_rfl) ?_
         clear S; intro a S
         refine R.w_go S rfl (op_store_own (t' := (.int .i64)) S rfl rfl ty3 rfl (addr_add _ _ _) rfl O_71 H_111 6 rfl (idx_some ey_108).2.1 (Ln.st (Ln.comp 4)) ((RepV.mkInt (by decide)) : RepV (.int .i64) w_100 (Kx K w.heap.size [some b_78, v_72.ownBlock, some l_47, some D_46, some b_33, some b_27, v_23.ownBlock, some b_5, some b_1]) _ 0) ?_)
         intro w_112 hw_113 hm_115 O_114
         replace B_2 := B_2.wrote hw_113 hm_115 (by have h_ := W.one (p := 6) (q := 8) (by decide) rfl rfl; exact fun e_ => h_ (by rw [e_]; exact H_111))
         replace B_6 := B_6.wrote hw_113 hm_115 (by have h_ := W.one (p := 6) (q := 7) (by decide) rfl rfl; exact fun e_ => h_ (by rw [e_]; exact H_111))
         replace B_28 := B_28.wrote hw_113 hm_115 (by have h_ := W.one (p := 6) (q := 5) (by decide) rfl rfl; exact fun e_ => h_ (by rw [e_]; exact H_111))
         replace B_34 := B_34.wrote hw_113 hm_115 (by have h_ := W.one (p := 6) (q := 4) (by decide) rfl rfl; exact fun e_ => h_ (by rw [e_]; exact H_111))
         replace oD_46 := oD_46.wrote hw_113 trivial (by have h_ := W.one (p := 6) (q := 3) (by decide) rfl rfl; exact fun e_ => h_ (by rw [e_]; exact H_111))
         replace B_79 := B_79.wrote hw_113 hm_115 (by have h_ := W.one (p := 6) (q := 0) (by decide) rfl rfl; exact fun e_ => h_ (by rw [e_]; exact H_111))
         replace ol_47 := ol_47.wrote hw_113 trivial (by have h_ := W.one (p := 6) (q := 2) (by decide) rfl rfl; exact fun e_ => h_ (by rw [e_]; exact H_111))
         replace O_73 := O_73.wrote hw_113 hm_115 (fun e_ => (W.neq (p := 6) (q := 1) (by decide) rfl rfl).elim (fun h_ => absurd (Eq.trans (Eq.symm h_) H_111) (fun k_ => nomatch k_)) (fun h_ => h_ (Eq.trans H_111 e_.symm)))
         replace RR := RR.wrote hw_113 hm_115
         replace W := W.wrote hw_113 hm_115
         replace O_114 : Ow gt2 37 w_112 w.heap.size (Kx K w.heap.size [some b_78, v_72.ownBlock, some l_47, some D_46, some b_33, some b_27, v_23.ownBlock, some b_5, some b_1]) v_23 (s_.1.set x_.1.toNat (y_108.1, y_108.2.1, y_108.2.2.1, y_108.2.2.2.1, 0)) t_22.cap := O_114
         refine R.wpList_nil ?_
         refine then_n ?_
         obtain rfl := Option.some.inj ej_101
         exact ⟨v_72, S.sub trivial, W, B_2, B_6, B_28, B_34, oD_46, B_79, ol_47, O_114, O_73, RR⟩
        ·intro hc
         rw [if_neg (Bool.eq_false_iff.1 hc)] at ej_101
         refine R.wp_seq ?_
         refine R.wp_region_lit ?_
         refine R.wl_pure (l' := [(45, .pointer (some ((⟨b_78, 0, .none⟩ : Addr).add (coff gf2 4)))), (36, .bool t_96), (11, pB b_78), (10, .int .i64 x_.1), (9, pB b_33), (8, pB b_27), (3, pB b_5)]) S tys tys_ok 1 (by kernel_rfl) ?_
         clear S; intro a S
         refine R.w_go S rfl (op_load (t := (.int .i64)) (x := x_.2.2.2.2.2) S rfl ty3 rfl rfl rfl (RepAt.add 4 (RepAt.st (t := gf2) B_79.at_)) ?_)
         clear S; intro a v_116 R_117 S
         obtain ⟨rfl, GR_117⟩ := RepV.int R_117
         refine R.w_go S rfl (op_load (t := (.int .i64)) (x := x1) S rfl ty3 rfl rfl rfl B_6.at_ ?_)
         clear S; intro a v_118 R_119 S
         obtain ⟨rfl, GR_119⟩ := RepV.int R_119
         obtain ⟨x_120, ex_120, ej_101⟩ := bindS ej_101
         refine R.w_go S rfl (op_arith S .i64 (x1 - 1) rfl (.inr (.inl rfl)) rfl rfl rfl rfl ex_120 ?_)
         clear S; intro a S
         refine R.wl_pureK (l' := [(44, .bool (decide (x_.2.2.2.2.2 ≥ x_120))), (11, pB b_78), (10, .int .i64 x_.1), (9, pB b_33), (8, pB b_27)]) S tys tys_ok 2 [44, 11, 10, 9, 8] (by kernel_rfl) ?_
         clear S; intro a S
         refine R.wpList_nil ?_
         refine then_n ?_
         obtain ⟨j_121, ej_121, ej_101⟩ := bindS ej_101
         refine R.wp_cut_ (fun a_ w_ => ∃ (v_124 : Value), St 72 a_ [] ∧ Wd w w_ [some b_78, v_124.ownBlock, some l_47, some D_46, some b_33, some b_27, v_23.ownBlock, some b_5, some b_1] ∧ Bx (.sl gt2) 25 w_ (Kx K w.heap.size [some b_78, v_124.ownBlock, some l_47, some D_46, some b_33, some b_27, v_23.ownBlock, some b_5, some b_1]) b_1 x0 ∧ Bx (.int .i64) 3 w_ (Kx K w.heap.size [some b_78, v_124.ownBlock, some l_47, some D_46, some b_33, some b_27, v_23.ownBlock, some b_5, some b_1]) b_5 x1 ∧ Bx .raw 25 w_ (Kx K w.heap.size [some b_78, v_124.ownBlock, some l_47, some D_46, some b_33, some b_27, v_23.ownBlock, some b_5, some b_1]) b_27 v_23 ∧ Bx .raw 26 w_ (Kx K w.heap.size [some b_78, v_124.ownBlock, some l_47, some D_46, some b_33, some b_27, v_23.ownBlock, some b_5, some b_1]) b_33 v_124 ∧ Ox (.deferred (some [])) w_ D_46 ∧ Bx gt2 37 w_ (Kx K w.heap.size [some b_78, v_124.ownBlock, some l_47, some D_46, some b_33, some b_27, v_23.ownBlock, some b_5, some b_1]) b_78 x_.2 ∧ Ox (rec .busy none) w_ l_47 ∧ Ow gt2 37 w_ w.heap.size (Kx K w.heap.size [some b_78, v_124.ownBlock, some l_47, some D_46, some b_33, some b_27, v_23.ownBlock, some b_5, some b_1]) v_23 j_121.1 t_22.cap ∧ Ow gt0 39 w_ w.heap.size (Kx K w.heap.size [some b_78, v_124.ownBlock, some l_47, some D_46, some b_33, some b_27, v_23.ownBlock, some b_5, some b_1]) v_124 j_121.2 .none ∧ Rnd A_ [v_72.ownBlock, some l_47, some D_46, some b_33, some b_27, v_23.ownBlock, some b_5, some b_1] w_ [some b_78, v_124.ownBlock, some l_47, some D_46, some b_33, some b_27, v_23.ownBlock, some b_5, some b_1]) ?_ ?_
         ·refine R.wp_cond_split (S.eval (show ev _ _ = some (.bool (decide (x_.2.2.2.2.2 ≥ x_120))) from rfl)) ?_ ?_
          ·intro hc
           rw [if_pos hc] at ej_121
           refine R.wp_seq ?_
           refine R.drawn (by kernel_rfl) (by kernel_rfl) ?_
           obtain ⟨y_130, ey_130, ej_121⟩ := bindS ej_121
           obtain ⟨gb_134, hgb_135⟩ := Ow.blk O_71 ey_130
           have hbL_ : some gb_134 ∈ [some b_78, v_72.ownBlock, some l_47, some D_46, some b_33, some b_27, v_23.ownBlock, some b_5, some b_1] := by rw [← hgb_135]; exact List.mem_of_getElem? (i := 6) rfl
           skip
           have ne_b_1 : b_1 ≠ gb_134 := (by have h_ := W.one (p := 6) (q := 8) (by decide) rfl rfl; exact fun e_ => h_ (by rw [e_]; exact hgb_135))
           have ne_b_5 : b_5 ≠ gb_134 := (by have h_ := W.one (p := 6) (q := 7) (by decide) rfl rfl; exact fun e_ => h_ (by rw [e_]; exact hgb_135))
           have ne_b_27 : b_27 ≠ gb_134 := (by have h_ := W.one (p := 6) (q := 5) (by decide) rfl rfl; exact fun e_ => h_ (by rw [e_]; exact hgb_135))
           have ne_b_33 : b_33 ≠ gb_134 := (by have h_ := W.one (p := 6) (q := 4) (by decide) rfl rfl; exact fun e_ => h_ (by rw [e_]; exact hgb_135))
           have ne_D_46 : D_46 ≠ gb_134 := (by have h_ := W.one (p := 6) (q := 3) (by decide) rfl rfl; exact fun e_ => h_ (by rw [e_]; exact hgb_135))
           have ne_b_78 : b_78 ≠ gb_134 := (by have h_ := W.one (p := 6) (q := 0) (by decide) rfl rfl; exact fun e_ => h_ (by rw [e_]; exact hgb_135))
           have ne_l_47 : l_47 ≠ gb_134 := (by have h_ := W.one (p := 6) (q := 2) (by decide) rfl rfl; exact fun e_ => h_ (by rw [e_]; exact hgb_135))
           have ne_O_73 : v_72.ownBlock ≠ some gb_134 := fun e_ => (W.neq (p := 1) (q := 6) (by decide) rfl rfl).elim (fun h_ => absurd (Eq.trans (Eq.symm h_) e_) (fun k_ => nomatch k_)) (fun h_ => h_ (Eq.trans e_ hgb_135.symm))
           have hlt_ : gb_134 < w_100.heap.size := (W.own _ hbL_).2
           refine wr_region_sto 7 [7, 7, 7, 7, 7, 7, 7, 8, 9] w [] [some b_78, v_72.ownBlock, some l_47, some D_46, some b_33, some b_27, v_23.ownBlock, some b_5, some b_1] 6 gb_134 (PhO gt2 37 w.heap.size K w.heap.size [] [some b_78, v_72.ownBlock, some l_47, some D_46, some b_33, some b_27, v_23.ownBlock, some b_5, some b_1] v_23 (s_.1.set x_.1.toNat (y_130.1, y_130.2.1, y_130.2.2.1, y_130.2.2.2.1, 0)) t_22.cap) (PhO.stab hbL_) [eqvG (v_23), isIG .i64 x_.1, eqvG (v_23), isIG .i64 x_.1, isOeG v_23 (GT.sz gt2) x_.1, isOfG v_23 (GT.sz gt2) x_.1 (coff gf2 4), isStG 6] [[], [], [], [], [(0, 50), (1, 51)], [(4, 54)], [(5, 55)]] (by kernel_rfl) (by rw [S.size]; kernel_rfl) (by kernel_rfl) (by kernel_rfl) (by kernel_rfl) rfl ⟨(stabGs_eqv _), stabGs_I, (stabGs_eqv _), stabGs_I, stabGs_oe, stabGs_of, stabGs_st, trivial⟩ ?_ ?_
           ·
            refine RunAllG.cons (eqvG (v_23)) [] rfl rfl ?_ ?_
            ·intro M_ W_ hW hU_ hV_
             have S1 := S
             refine fillG_nil S1 ?_; clear S1; intro a_ S1
             replace B_28 : Bx .raw 25 W_ (Kx K w.heap.size (lm [] [some b_78, v_72.ownBlock, some l_47, some D_46, some b_33, some b_27, v_23.ownBlock, some b_5, some b_1] M_)) b_27 v_23 := Bx.gs (g := (fun _ => none, w_100)) (Bx.lm0 B_28) hW hbL_ (fun e_ => absurd e_ ne_b_27)
             replace oD_46 := Ox.gs (g := (fun _ => none, w_100)) oD_46 hW ne_D_46
             replace ol_47 := Ox.gs (g := (fun _ => none, w_100)) ol_47 hW ne_l_47
             have S0 := S.defers; replace S := S1; clear S1
             refine w_go S rfl (op_load (t := .raw) (x := v_23) S rfl tyr25 rfl rfl rfl B_28.at_ ?_)
             clear S; intro a v_136 R_137 S
             have q_ := (RepV.rawEq R_137).symm; clear R_137; subst q_
             refine wpList_nil ?_
             exact RPostS.mk_ S rfl S0 rfl (Below.refl _ _)
            refine RunAllG.cons (isIG .i64 x_.1) [] rfl rfl ?_ ?_
            ·intro M_ W_ hW hU_ hV_
             have S1 := S
             replace oD_46 := Ox.gs (g := (fun _ => none, w_100)) oD_46 hW ne_D_46
             replace ol_47 := Ox.gs (g := (fun _ => none, w_100)) ol_47 hW ne_l_47
             exact RPostS.one (v := .int .i64 x_.1) S1 tys tys_ok rfl (by kernel_rfl) S.defers ⟨rfl, G_75⟩ (Below.refl _ _)
            refine RunAllG.cons (eqvG (v_23)) [] rfl rfl ?_ ?_
            ·intro M_ W_ hW hU_ hV_
             have S1 := S
             refine fillG_nil S1 ?_; clear S1; intro a_ S1
             replace B_28 : Bx .raw 25 W_ (Kx K w.heap.size (lm [] [some b_78, v_72.ownBlock, some l_47, some D_46, some b_33, some b_27, v_23.ownBlock, some b_5, some b_1] M_)) b_27 v_23 := Bx.gs (g := (fun _ => none, w_100)) (Bx.lm0 B_28) hW hbL_ (fun e_ => absurd e_ ne_b_27)
             replace oD_46 := Ox.gs (g := (fun _ => none, w_100)) oD_46 hW ne_D_46
             replace ol_47 := Ox.gs (g := (fun _ => none, w_100)) ol_47 hW ne_l_47
             have S0 := S.defers; replace S := S1; clear S1
             refine w_go S rfl (op_load (t := .raw) (x := v_23) S rfl tyr25 rfl rfl rfl B_28.at_ ?_)
             clear S; intro a v_138 R_139 S
             have q_ := (RepV.rawEq R_139).symm; clear R_139; subst q_
             refine wpList_nil ?_
             exact RPostS.mk_ S rfl S0 rfl (Below.refl _ _)
            refine RunAllG.cons (isIG .i64 x_.1) [] rfl rfl ?_ ?_
            ·intro M_ W_ hW hU_ hV_
             have S1 := S
             replace oD_46 := Ox.gs (g := (fun _ => none, w_100)) oD_46 hW ne_D_46
             replace ol_47 := Ox.gs (g := (fun _ => none, w_100)) ol_47 hW ne_l_47
             exact RPostS.one (v := .int .i64 x_.1) S1 tys tys_ok rfl (by kernel_rfl) S.defers ⟨rfl, G_75⟩ (Below.refl _ _)
            refine RunAllG.cons (isOeG v_23 (GT.sz gt2) x_.1) [(eqvG (v_23), 50), (isIG .i64 x_.1, 51)] rfl rfl ?_ ?_
            ·intro M_ W_ hW hU_ hV_
             have S1 := S
             intro v_142 hF_141; obtain rfl : v_23 = v_142 := Eq.symm hF_141
             replace S1 := S1.put (by decide : 50 < 72) (v_23)
             rintro _ ⟨rfl, hF_144⟩
             replace S1 := S1.put (by decide : 51 < 72) (.int .i64 x_.1)
             refine fillG_nil S1 ?_; clear S1; intro a_ S1
             replace oD_46 := Ox.gs (g := (fun _ => none, w_100)) oD_46 hW ne_D_46
             replace ol_47 := Ox.gs (g := (fun _ => none, w_100)) ol_47 hW ne_l_47
             replace O_71 : Ow gt2 37 W_ w.heap.size (Kx K w.heap.size (lm [] [some b_78, v_72.ownBlock, some l_47, some D_46, some b_33, some b_27, v_23.ownBlock, some b_5, some b_1] M_)) v_23 s_.1 t_22.cap := Ow.gs (g := (fun _ => none, w_100)) (Ow.lm0 O_71) hW hbL_ (fun _ => .inr (hV_ 12 6 (by kernel_rfl)))
             replace W : Wd w W_ (lm [] [some b_78, v_72.ownBlock, some l_47, some D_46, some b_33, some b_27, v_23.ownBlock, some b_5, some b_1] M_) := Gs.wd' hW (Wd.lm0 _ W)
             have S0 := S.defers; replace S := S1; clear S1
             refine w_go S rfl (op_indexAddr_own S rfl ty25 rfl rfl rfl O_71 rfl ey_130 ?_)
             clear S; intro a g_146 H_148 R_147 S
             refine wpList_nil ?_
             exact RPostS.mk_ S rfl S0 ⟨_, H_148, rfl⟩ (Below.refl _ _)
            refine RunAllG.cons (isOfG v_23 (GT.sz gt2) x_.1 (coff gf2 4)) [(isOeG v_23 (GT.sz gt2) x_.1, 54)] rfl rfl ?_ ?_
            ·intro M_ W_ hW hU_ hV_
             have S1 := S
             rintro _ ⟨g_150, H_151, rfl⟩
             replace S1 := S1.put (by decide : 54 < 72) (.pointer (some (⟨g_150, x_.1.toNat * GT.sz gt2, .none⟩ : Addr)))
             replace oD_46 := Ox.gs (g := (fun _ => none, w_100)) oD_46 hW ne_D_46
             replace ol_47 := Ox.gs (g := (fun _ => none, w_100)) ol_47 hW ne_l_47
             exact RPostS.one (v := .pointer (some ((⟨g_150, x_.1.toNat * GT.sz gt2, .none⟩ : Addr).add (coff gf2 4)))) S1 tys tys_ok rfl (by kernel_rfl) S.defers ⟨_, H_151, rfl⟩ (Below.refl _ _)
            refine RunAllG.cons (isStG 6) [(isOfG v_23 (GT.sz gt2) x_.1 (coff gf2 4), 55)] rfl rfl ?_ ?_
            ·intro M_ W_ hW hU_ hV_
             have S1 := S
             rintro _ ⟨g_153, H_154, rfl⟩
             replace S1 := S1.put (by decide : 55 < 72) (.pointer (some ((⟨g_153, x_.1.toNat * GT.sz gt2, .none⟩ : Addr).add (coff gf2 4))))
             refine fillG_nil S1 ?_; clear S1; intro a_ S1
             replace oD_46 := Ox.gs (g := (fun _ => none, w_100)) oD_46 hW ne_D_46
             replace ol_47 := Ox.gs (g := (fun _ => none, w_100)) ol_47 hW ne_l_47
             replace O_71 : Ow gt2 37 W_ w.heap.size (Kx K w.heap.size (lm [] [some b_78, v_72.ownBlock, some l_47, some D_46, some b_33, some b_27, v_23.ownBlock, some b_5, some b_1] M_)) v_23 s_.1 t_22.cap := Ow.gs (g := (fun _ => none, w_100)) (Ow.lm0 O_71) hW hbL_ (fun _ => .inr hU_)
             have RH_154 : RepAt gt2 W_ (Kx K w.heap.size (lm [] [some b_78, v_72.ownBlock, some l_47, some D_46, some b_33, some b_27, v_23.ownBlock, some b_5, some b_1] M_)) (⟨g_153, x_.1.toNat * GT.sz gt2, .none⟩ : Addr) y_130 := Ow.elt O_71 H_154 ey_130
             have S0 := S.defers; replace S := S1; clear S1
             refine w_go S rfl (op_store_own (t' := (.int .i64)) S rfl rfl ty3 rfl (addr_add _ _ _) rfl O_71 H_154 6 rfl (idx_some ey_130).2.1 (Ln.st (Ln.comp 4)) ((RepV.mkInt (by decide)) : RepV (.int .i64) W_ (Kx K w.heap.size (lm [] [some b_78, v_72.ownBlock, some l_47, some D_46, some b_33, some b_27, v_23.ownBlock, some b_5, some b_1] M_)) _ 0) ?_)
             intro w_155 hw_156 hm_158 O_157
             refine wpList_nil ?_
             exact RPostS.sto S S0 (by have e_ := Option.some.inj (Eq.trans (Eq.symm H_154) hgb_135); rw [← e_]; exact hw_156) hU_ (by decide) (lm_right hbL_) (show Ow gt2 37 w_155 w.heap.size (Kx K w.heap.size (lm [] [some b_78, v_72.ownBlock, some l_47, some D_46, some b_33, some b_27, v_23.ownBlock, some b_5, some b_1] (gupd M_ 6 none))) v_23 (s_.1.set x_.1.toNat (y_130.1, y_130.2.1, y_130.2.2.1, y_130.2.2.2.1, 0)) t_22.cap by rw [lm_oth (by decide)]; exact O_157)
            exact trivial
           intro M_ w_159 hb_160
           refine EndEG.some_ rfl ?_
           intro v_163 hF_162; obtain rfl : v_23 = v_163 := Eq.symm hF_162
           replace S := S.put (by decide : 50 < 72) (v_23)
           refine EndEG.some_ rfl ?_
           rintro _ ⟨rfl, hF_165⟩
           replace S := S.put (by decide : 51 < 72) (.int .i64 x_.1)
           refine EndEG.some_ rfl ?_
           intro v_169 hF_168; obtain rfl : v_23 = v_169 := Eq.symm hF_168
           replace S := S.put (by decide : 52 < 72) (v_23)
           refine EndEG.some_ rfl ?_
           rintro _ ⟨rfl, hF_171⟩
           replace S := S.put (by decide : 53 < 72) (.int .i64 x_.1)
           refine EndEG.some_ rfl ?_
           rintro _ ⟨g_174, H_175, rfl⟩
           replace S := S.put (by decide : 54 < 72) (.pointer (some (⟨g_174, x_.1.toNat * GT.sz gt2, .none⟩ : Addr)))
           refine EndEG.some_ rfl ?_
           rintro _ ⟨g_177, H_178, rfl⟩
           replace S := S.put (by decide : 55 < 72) (.pointer (some ((⟨g_177, x_.1.toNat * GT.sz gt2, .none⟩ : Addr).add (coff gf2 4))))
           refine EndEG.none_ rfl ?_; intro hst_
           refine endEG_nil S ?_; clear S; intro a S
           replace hst_ : M_ 6 = some none := hst_
           have hF_ := Gs.sto hb_160 rfl (by show M_ 6 ≠ none; rw [hst_]; simp)
           replace B_2 : Bx (.sl gt2) 25 w_159 (Kx K w.heap.size (lm [] [some b_78, v_72.ownBlock, some l_47, some D_46, some b_33, some b_27, v_23.ownBlock, some b_5, some b_1] M_)) b_1 x0 := Bx.gs (g := (fun _ => none, w_100)) (Bx.lm0 B_2) hb_160 hbL_ (fun e_ => absurd e_ ne_b_1)
           replace B_6 : Bx (.int .i64) 3 w_159 (Kx K w.heap.size (lm [] [some b_78, v_72.ownBlock, some l_47, some D_46, some b_33, some b_27, v_23.ownBlock, some b_5, some b_1] M_)) b_5 x1 := Bx.gs (g := (fun _ => none, w_100)) (Bx.lm0 B_6) hb_160 hbL_ (fun e_ => absurd e_ ne_b_5)
           replace B_28 : Bx .raw 25 w_159 (Kx K w.heap.size (lm [] [some b_78, v_72.ownBlock, some l_47, some D_46, some b_33, some b_27, v_23.ownBlock, some b_5, some b_1] M_)) b_27 v_23 := Bx.gs (g := (fun _ => none, w_100)) (Bx.lm0 B_28) hb_160 hbL_ (fun e_ => absurd e_ ne_b_27)
           replace B_34 : Bx .raw 26 w_159 (Kx K w.heap.size (lm [] [some b_78, v_72.ownBlock, some l_47, some D_46, some b_33, some b_27, v_23.ownBlock, some b_5, some b_1] M_)) b_33 v_72 := Bx.gs (g := (fun _ => none, w_100)) (Bx.lm0 B_34) hb_160 hbL_ (fun e_ => absurd e_ ne_b_33)
           replace oD_46 := Ox.gs (g := (fun _ => none, w_100)) oD_46 hb_160 ne_D_46
           replace B_79 : Bx gt2 37 w_159 (Kx K w.heap.size (lm [] [some b_78, v_72.ownBlock, some l_47, some D_46, some b_33, some b_27, v_23.ownBlock, some b_5, some b_1] M_)) b_78 x_.2 := Bx.gs (g := (fun _ => none, w_100)) (Bx.lm0 B_79) hb_160 hbL_ (fun e_ => absurd e_ ne_b_78)
           replace ol_47 := Ox.gs (g := (fun _ => none, w_100)) ol_47 hb_160 ne_l_47
           replace RR : Rnd A_ [v_72.ownBlock, some l_47, some D_46, some b_33, some b_27, v_23.ownBlock, some b_5, some b_1] w_159 (lm [] [some b_78, v_72.ownBlock, some l_47, some D_46, some b_33, some b_27, v_23.ownBlock, some b_5, some b_1] M_) := Rnd.gs (g := (fun _ => none, w_100)) (Rnd.lm0 RR) hb_160 hbL_
           replace O_71 : Ow gt2 37 w_159 w.heap.size (Kx K w.heap.size (lm [] [some b_78, v_72.ownBlock, some l_47, some D_46, some b_33, some b_27, v_23.ownBlock, some b_5, some b_1] M_)) v_23 (s_.1.set x_.1.toNat (y_130.1, y_130.2.1, y_130.2.2.1, y_130.2.2.2.1, 0)) t_22.cap := hF_
           replace O_73 : Ow gt0 39 w_159 w.heap.size (Kx K w.heap.size (lm [] [some b_78, v_72.ownBlock, some l_47, some D_46, some b_33, some b_27, v_23.ownBlock, some b_5, some b_1] M_)) v_72 s_.2 .none := Ow.gs (g := (fun _ => none, w_100)) (Ow.lm0 O_73) hb_160 hbL_ (fun e_ => absurd e_ ne_O_73)
           replace W : Wd w w_159 (lm [] [some b_78, v_72.ownBlock, some l_47, some D_46, some b_33, some b_27, v_23.ownBlock, some b_5, some b_1] M_) := Gs.wd' hb_160 (Wd.lm0 _ W)
           have eL_ : lm [] [some b_78, v_72.ownBlock, some l_47, some D_46, some b_33, some b_27, v_23.ownBlock, some b_5, some b_1] M_ = [some b_78, v_72.ownBlock, some l_47, some D_46, some b_33, some b_27, v_23.ownBlock, some b_5, some b_1] := by simp [lm, ]
           rw [eL_] at W
           rw [eL_] at RR
           rw [eL_] at B_2
           rw [eL_] at B_6
           rw [eL_] at B_28
           rw [eL_] at B_34
           rw [eL_] at B_79
           rw [eL_] at O_71
           rw [eL_] at O_73
           clear eL_
           replace S := S.sub (l' := [(53, .int .i64 x_.1), (52, v_23), (51, .int .i64 x_.1), (50, v_23), (44, .bool (decide (x_.2.2.2.2.2 ≥ x_120))), (11, pB b_78), (10, .int .i64 x_.1), (9, pB b_33), (8, pB b_27)]) (by exact ⟨rfl, rfl, rfl, rfl, rfl, rfl, rfl, rfl, rfl, trivial⟩)
           obtain ⟨y_179, ey_179, ej_121⟩ := bindS ej_121
           refine w_go S rfl (op_indexAddr_own S rfl ty25 rfl rfl rfl O_71 rfl ey_179 ?_)
           clear S; intro a g_180 H_182 R_181 S
           refine wl_pureK (l' := [(57, .pointer (some ((⟨g_180, x_.1.toNat * GT.sz gt2, .none⟩ : Addr).add (coff gf2 3)))), (11, pB b_78), (9, pB b_33)]) S tys tys_ok 1 [57, 11, 9] (by kernel_rfl) ?_
           clear S; intro a S
           refine w_go S rfl (op_store_own (t' := .bool) S rfl rfl ty4 rfl (addr_add _ _ _) rfl O_71 H_182 6 rfl (idx_some ey_179).2.1 (Ln.st (Ln.comp 3)) (RepV.mkBool : RepV .bool w_159 (Kx K w.heap.size [some b_78, v_72.ownBlock, some l_47, some D_46, some b_33, some b_27, v_23.ownBlock, some b_5, some b_1]) _ true) ?_)
           intro w_183 hw_184 hm_186 O_185
           replace B_2 := B_2.wrote hw_184 hm_186 (by have h_ := W.one (p := 6) (q := 8) (by decide) rfl rfl; exact fun e_ => h_ (by rw [e_]; exact H_182))
           replace B_6 := B_6.wrote hw_184 hm_186 (by have h_ := W.one (p := 6) (q := 7) (by decide) rfl rfl; exact fun e_ => h_ (by rw [e_]; exact H_182))
           replace B_28 := B_28.wrote hw_184 hm_186 (by have h_ := W.one (p := 6) (q := 5) (by decide) rfl rfl; exact fun e_ => h_ (by rw [e_]; exact H_182))
           replace B_34 := B_34.wrote hw_184 hm_186 (by have h_ := W.one (p := 6) (q := 4) (by decide) rfl rfl; exact fun e_ => h_ (by rw [e_]; exact H_182))
           replace oD_46 := oD_46.wrote hw_184 trivial (by have h_ := W.one (p := 6) (q := 3) (by decide) rfl rfl; exact fun e_ => h_ (by rw [e_]; exact H_182))
           replace B_79 := B_79.wrote hw_184 hm_186 (by have h_ := W.one (p := 6) (q := 0) (by decide) rfl rfl; exact fun e_ => h_ (by rw [e_]; exact H_182))
           replace ol_47 := ol_47.wrote hw_184 trivial (by have h_ := W.one (p := 6) (q := 2) (by decide) rfl rfl; exact fun e_ => h_ (by rw [e_]; exact H_182))
           replace O_73 := O_73.wrote hw_184 hm_186 (fun e_ => (W.neq (p := 6) (q := 1) (by decide) rfl rfl).elim (fun h_ => absurd (Eq.trans (Eq.symm h_) H_182) (fun k_ => nomatch k_)) (fun h_ => h_ (Eq.trans H_182 e_.symm)))
           replace RR := RR.wrote hw_184 hm_186
           replace W := W.wrote hw_184 hm_186
           replace O_185 : Ow gt2 37 w_183 w.heap.size (Kx K w.heap.size [some b_78, v_72.ownBlock, some l_47, some D_46, some b_33, some b_27, v_23.ownBlock, some b_5, some b_1]) v_23 ((s_.1.set x_.1.toNat (y_130.1, y_130.2.1, y_130.2.2.1, y_130.2.2.2.1, 0)).set x_.1.toNat (y_179.1, y_179.2.1, y_179.2.2.1, true, y_179.2.2.2.2)) t_22.cap := O_185
           refine wpList_nil ?_
           refine then_n ?_
           refine R.drawn (by kernel_rfl) (by kernel_rfl) ?_
           obtain ⟨t_191, et_191, ej_121⟩ := bindS ej_121
           have hR : Rel (Kx K w.heap.size [some b_78, v_72.ownBlock, some l_47, some D_46, some b_33, some b_27, v_23.ownBlock, some b_5, some b_1]) Bl := Bl.rel _
           refine wr_region_suf 6 [6, 2, 3, 6, 5, 6, 7] hR [eqv (v_72), eqv (.pointer (some ((⟨b_78, 0, .none⟩ : Addr).add (coff gf2 0)))), isRep (.sl (.int .u8)) (Kx K w.heap.size [some b_78, v_72.ownBlock, some l_47, some D_46, some b_33, some b_27, v_23.ownBlock, some b_5, some b_1]) x_.2.1, isRep (.sl (.int .u8)) (Kx K w.heap.size [some b_78, v_72.ownBlock, some l_47, some D_46, some b_33, some b_27, v_23.ownBlock, some b_5, some b_1]) t_191, isRep gt0 (Kx K w.heap.size [some b_78, v_72.ownBlock, some l_47, some D_46, some b_33, some b_27, v_23.ownBlock, some b_5, some b_1]) (t_191, false), isRep (.sl gt0) (Kx K w.heap.size [some b_78, v_72.ownBlock, some l_47, some D_46, some b_33, some b_27, v_23.ownBlock, some b_5, some b_1]) (⟨[(t_191, false)], some 1⟩ : Sl ((Sl (Int)) × Bool))] [[], [], [(1, 59)], [(2, 60)], [(3, 61)], [(4, 62)]] (by kernel_rfl) (by rw [S.size]; kernel_rfl) (by kernel_rfl) (by kernel_rfl) (by kernel_rfl) rfl ⟨(stab_eqv _), (stab_eqv _), (stab_rep hR), (stab_rep hR), (stab_rep hR), (stab_rep hR), trivial⟩ ?_ ?_
           ·
            refine RunAll.cons (eqv (v_72)) [] rfl rfl ?_ ?_
            ·intro W_ hW
             have S1 := S
             refine fill_nil S1 ?_; clear S1; intro a_ S1
             replace B_34 := B_34.step hW
             have S0 := S.defers; replace S := S1; clear S1
             refine w_go S rfl (op_load (t := .raw) (x := v_72) S rfl tyr26 rfl rfl rfl B_34.at_ ?_)
             clear S; intro a v_202 R_203 S
             have q_ := (RepV.rawEq R_203).symm; clear R_203; subst q_
             refine wpList_nil ?_
             exact RPost.mk_ S rfl S0 rfl (Below.refl _ _)
            refine RunAll.cons (eqv (.pointer (some ((⟨b_78, 0, .none⟩ : Addr).add (coff gf2 0))))) [] rfl rfl ?_ ?_
            ·intro W_ hW
             have S1 := S
             replace B_79 := B_79.step hW
             exact RPost.one (v := .pointer (some ((⟨b_78, 0, .none⟩ : Addr).add (coff gf2 0)))) S1 tys tys_ok rfl (by kernel_rfl) S.defers rfl (Below.refl _ _)
            refine RunAll.cons (isRep (.sl (.int .u8)) (Kx K w.heap.size [some b_78, v_72.ownBlock, some l_47, some D_46, some b_33, some b_27, v_23.ownBlock, some b_5, some b_1]) x_.2.1) [(eqv (.pointer (some ((⟨b_78, 0, .none⟩ : Addr).add (coff gf2 0)))), 59)] rfl rfl ?_ ?_
            ·intro W_ hW
             have S1 := S
             intro v_205 hF_204; obtain rfl : .pointer (some ((⟨b_78, 0, .none⟩ : Addr).add (coff gf2 0))) = v_205 := Eq.symm hF_204
             replace S1 := S1.put (by decide : 59 < 72) (.pointer (some ((⟨b_78, 0, .none⟩ : Addr).add (coff gf2 0))))
             refine fill_nil S1 ?_; clear S1; intro a_ S1
             replace B_79 := B_79.step hW
             have S0 := S.defers; replace S := S1; clear S1
             refine w_go S rfl (op_load (t := (.sl (.int .u8))) (x := x_.2.1) S rfl ty35 rfl rfl rfl (RepAt.add 0 (RepAt.st (t := gf2) B_79.at_)) ?_)
             clear S; intro a v_206 R_207 S
             refine wpList_nil ?_
             exact RPost.mk_ S rfl S0 R_207 (Below.refl _ _)
            refine RunAll.cons (isRep (.sl (.int .u8)) (Kx K w.heap.size [some b_78, v_72.ownBlock, some l_47, some D_46, some b_33, some b_27, v_23.ownBlock, some b_5, some b_1]) t_191) [(isRep (.sl (.int .u8)) (Kx K w.heap.size [some b_78, v_72.ownBlock, some l_47, some D_46, some b_33, some b_27, v_23.ownBlock, some b_5, some b_1]) x_.2.1, 60)] rfl rfl ?_ ?_
            ·intro W_ hW
             have S1 := S
             intro v_209 hF_208; replace hF_208 : RepV _ _ _ _ _ := hF_208
             replace S1 := S1.put (by decide : 60 < 72) (v_209)
             refine fill_nil S1 ?_; clear S1; intro a_ S1
             replace W := W.step hW
             have S0 := S.defers; replace S := S1; clear S1
             refine w_go S rfl (op_call (vs := [v_209]) S rfl cb26 rfl rfl rfl (c26 (Kx K w.heap.size [some b_78, v_72.ownBlock, some l_47, some D_46, some b_33, some b_27, v_23.ownBlock, some b_5, some b_1]) n W_ x_.2.1 _ hF_208 et_191) ?_)
             rintro _ w_213 ⟨v_210, rfl, R_211, hb_212⟩; refine ⟨_, rfl, ?_⟩
             replace R_211 := RepV.back R_211 W
             clear S; intro a S
             refine wpList_nil ?_
             exact RPost.mk_ S rfl S0 R_211 (hb_212)
            refine RunAll.cons (isRep gt0 (Kx K w.heap.size [some b_78, v_72.ownBlock, some l_47, some D_46, some b_33, some b_27, v_23.ownBlock, some b_5, some b_1]) (t_191, false)) [(isRep (.sl (.int .u8)) (Kx K w.heap.size [some b_78, v_72.ownBlock, some l_47, some D_46, some b_33, some b_27, v_23.ownBlock, some b_5, some b_1]) t_191, 61)] rfl rfl ?_ ?_
            ·intro W_ hW
             have S1 := S
             intro v_215 hF_214; replace hF_214 : RepV _ _ _ _ _ := hF_214
             replace S1 := S1.put (by decide : 61 < 72) (v_215)
             refine fill_nil S1 ?_; clear S1; intro a_ S1
             have S0 := S.defers; replace S := S1; clear S1
             refine w_go S rfl (op_build (K := (Kx K w.heap.size [some b_78, v_72.ownBlock, some l_47, some D_46, some b_33, some b_27, v_23.ownBlock, some b_5, some b_1])) (f := gf0) (z0 := (⟨[], some 0⟩, false)) (x := (t_191, false)) (vs := [v_215, .bool false]) S _ rfl ty39 z39 (fun w K => ⟨[.slice .none 0 0], [.bool false], rfl, ⟨.none, 0, 0, rfl, rfl, Nat.le_refl _, by decide, fun k h => Option.some.inj h, .inl rfl⟩, rfl⟩) rfl rfl rfl [(0, v_215), (1, .bool false)] rfl ⟨_, hF_214, rfl, rfl, ⟨_, RepV.mkBool, rfl, rfl, rfl⟩⟩ ?_)
             clear S; intro a v_216 R_217 S
             refine wpList_nil ?_
             exact RPost.mk_ S rfl S0 R_217 (Below.refl _ _)
            refine RunAll.cons (isRep (.sl gt0) (Kx K w.heap.size [some b_78, v_72.ownBlock, some l_47, some D_46, some b_33, some b_27, v_23.ownBlock, some b_5, some b_1]) (⟨[(t_191, false)], some 1⟩ : Sl ((Sl (Int)) × Bool))) [(isRep gt0 (Kx K w.heap.size [some b_78, v_72.ownBlock, some l_47, some D_46, some b_33, some b_27, v_23.ownBlock, some b_5, some b_1]) (t_191, false), 62)] rfl rfl ?_ ?_
            ·intro W_ hW
             have S1 := S
             intro v_219 hF_218; replace hF_218 : RepV _ _ _ _ _ := hF_218
             replace S1 := S1.put (by decide : 62 < 72) (v_219)
             refine fill_nil S1 ?_; clear S1; intro a_ S1
             replace W := W.step hW
             have S0 := S.defers; replace S := S1; clear S1
             refine w_go S rfl (op_buildSlice (K := K) (e := gt0) (vs := [v_219]) (xs := [(t_191, false)]) S W rfl ty26 rfl rfl (by kernel_rfl) rfl rfl rfl rfl rfl ⟨hF_218, trivial⟩ ?_)
             clear S; intro a w_223 v_220 hb_222 R_221 S
             refine wpList_nil ?_
             exact RPost.mk_ S rfl S0 R_221 (hb_222)
            exact trivial
           intro w_224 hb_225
           refine EndE.some_ rfl ?_
           intro v_227 hF_226; obtain rfl : v_72 = v_227 := Eq.symm hF_226
           replace S := S.put (by decide : 58 < 72) (v_72)
           refine EndE.some_ rfl ?_
           intro v_229 hF_228; obtain rfl : .pointer (some ((⟨b_78, 0, .none⟩ : Addr).add (coff gf2 0))) = v_229 := Eq.symm hF_228
           replace S := S.put (by decide : 59 < 72) (.pointer (some ((⟨b_78, 0, .none⟩ : Addr).add (coff gf2 0))))
           refine EndE.some_ rfl ?_
           intro v_231 hF_230; replace hF_230 : RepV _ _ _ _ _ := hF_230
           replace S := S.put (by decide : 60 < 72) (v_231)
           refine EndE.some_ rfl ?_
           intro v_233 hF_232; replace hF_232 : RepV _ _ _ _ _ := hF_232
           replace S := S.put (by decide : 61 < 72) (v_233)
           refine EndE.some_ rfl ?_
           intro v_235 hF_234; replace hF_234 : RepV _ _ _ _ _ := hF_234
           replace S := S.put (by decide : 62 < 72) (v_235)
           refine EndE.some_ rfl ?_
           intro v_237 hF_236; replace hF_236 : RepV _ _ _ _ _ := hF_236
           replace S := S.put (by decide : 63 < 72) (v_237)
           refine endE_nil S ?_; clear S; intro a S
           replace B_2 := B_2.step hb_225
           replace B_6 := B_6.step hb_225
           replace B_28 := B_28.step hb_225
           replace B_34 := B_34.step hb_225
           replace oD_46 := oD_46.step hb_225
           replace B_79 := B_79.step hb_225
           replace ol_47 := ol_47.step hb_225
           replace O_185 := O_185.step hb_225
           replace O_73 := O_73.step hb_225
           replace RR := RR.step hb_225
           replace W := W.step hb_225
           obtain ⟨l_238, el_238, ej_121⟩ := bindS ej_121
           refine w_go S rfl (op_append S W (E := 39) 1 rfl ty26 un26 by26 rfl rfl rfl rfl O_73 rfl hF_236 el_238 ?_)
           clear S; intro a w_240 v_239 A_241 O_242 S
           replace hF_230 : RepV (.sl (.int .u8)) w_240 (Kx K w.heap.size [some b_78, v_239.ownBlock, some l_47, some D_46, some b_33, some b_27, v_23.ownBlock, some b_5, some b_1]) v_231 x_.2.1 := hF_230.apd A_241 (i := 1) rfl
           replace hF_232 : RepV (.sl (.int .u8)) w_240 (Kx K w.heap.size [some b_78, v_239.ownBlock, some l_47, some D_46, some b_33, some b_27, v_23.ownBlock, some b_5, some b_1]) v_233 t_191 := hF_232.apd A_241 (i := 1) rfl
           replace hF_234 : RepV gt0 w_240 (Kx K w.heap.size [some b_78, v_239.ownBlock, some l_47, some D_46, some b_33, some b_27, v_23.ownBlock, some b_5, some b_1]) v_235 (t_191, false) := hF_234.apd A_241 (i := 1) rfl
           replace hF_236 : RepV (.sl gt0) w_240 (Kx K w.heap.size [some b_78, v_239.ownBlock, some l_47, some D_46, some b_33, some b_27, v_23.ownBlock, some b_5, some b_1]) v_237 (⟨[(t_191, false)], some 1⟩ : Sl ((Sl (Int)) × Bool)) := hF_236.apd A_241 (i := 1) rfl
           replace B_2 : Bx (.sl gt2) 25 w_240 (Kx K w.heap.size [some b_78, v_239.ownBlock, some l_47, some D_46, some b_33, some b_27, v_23.ownBlock, some b_5, some b_1]) b_1 x0 := B_2.apd W A_241 (i := 1) rfl (j := 8) rfl (by decide)
           replace B_6 : Bx (.int .i64) 3 w_240 (Kx K w.heap.size [some b_78, v_239.ownBlock, some l_47, some D_46, some b_33, some b_27, v_23.ownBlock, some b_5, some b_1]) b_5 x1 := B_6.apd W A_241 (i := 1) rfl (j := 7) rfl (by decide)
           replace B_28 : Bx .raw 25 w_240 (Kx K w.heap.size [some b_78, v_239.ownBlock, some l_47, some D_46, some b_33, some b_27, v_23.ownBlock, some b_5, some b_1]) b_27 v_23 := B_28.apd W A_241 (i := 1) rfl (j := 5) rfl (by decide)
           replace B_34 : Bx .raw 26 w_240 (Kx K w.heap.size [some b_78, v_239.ownBlock, some l_47, some D_46, some b_33, some b_27, v_23.ownBlock, some b_5, some b_1]) b_33 v_72 := B_34.apd W A_241 (i := 1) rfl (j := 4) rfl (by decide)
           replace oD_46 : Ox (.deferred (some [])) w_240 D_46 := oD_46.apd W A_241 (i := 1) rfl (j := 3) rfl (by decide)
           replace B_79 : Bx gt2 37 w_240 (Kx K w.heap.size [some b_78, v_239.ownBlock, some l_47, some D_46, some b_33, some b_27, v_23.ownBlock, some b_5, some b_1]) b_78 x_.2 := B_79.apd W A_241 (i := 1) rfl (j := 0) rfl (by decide)
           replace ol_47 : Ox (rec .busy none) w_240 l_47 := ol_47.apd W A_241 (i := 1) rfl (j := 2) rfl (by decide)
           replace O_185 : Ow gt2 37 w_240 w.heap.size (Kx K w.heap.size [some b_78, v_239.ownBlock, some l_47, some D_46, some b_33, some b_27, v_23.ownBlock, some b_5, some b_1]) v_23 ((s_.1.set x_.1.toNat (y_130.1, y_130.2.1, y_130.2.2.1, y_130.2.2.2.1, 0)).set x_.1.toNat (y_179.1, y_179.2.1, y_179.2.2.1, true, y_179.2.2.2.2)) t_22.cap := O_185.apd W A_241 (i := 1) rfl (j := 6) rfl (by decide)
           replace RR : Rnd A_ [v_72.ownBlock, some l_47, some D_46, some b_33, some b_27, v_23.ownBlock, some b_5, some b_1] w_240 [some b_78, v_239.ownBlock, some l_47, some D_46, some b_33, some b_27, v_23.ownBlock, some b_5, some b_1] := RR.apd A_241 (i := 1) rfl
           replace W : Wd w w_240 [some b_78, v_239.ownBlock, some l_47, some D_46, some b_33, some b_27, v_23.ownBlock, some b_5, some b_1] := W.apd A_241 (i := 1) rfl
           replace O_242 : Ow gt0 39 w_240 w.heap.size (Kx K w.heap.size [some b_78, v_239.ownBlock, some l_47, some D_46, some b_33, some b_27, v_23.ownBlock, some b_5, some b_1]) v_239 l_238 (capA .none l_238.length) := O_242
           refine w_go S rfl (op_store (t' := .raw) S rfl rfl tyr26 rfl rfl rfl B_34 (by simp) Ln.whole O_242.raw ?_)
           intro w_243 hw_244 B_
           replace hF_230 := hF_230.wrote hw_244 (by simp)
           replace hF_232 := hF_232.wrote hw_244 (by simp)
           replace hF_234 := hF_234.wrote hw_244 (by simp)
           replace hF_236 := hF_236.wrote hw_244 (by simp)
           replace B_2 := B_2.wrote hw_244 (by simp) (W.bne (p := 8) (q := 4) (by decide) rfl rfl)
           replace B_6 := B_6.wrote hw_244 (by simp) (W.bne (p := 7) (q := 4) (by decide) rfl rfl)
           replace B_28 := B_28.wrote hw_244 (by simp) (W.bne (p := 5) (q := 4) (by decide) rfl rfl)
           replace oD_46 := oD_46.wrote hw_244 (by simp) (W.bne (p := 3) (q := 4) (by decide) rfl rfl)
           replace B_79 := B_79.wrote hw_244 (by simp) (W.bne (p := 0) (q := 4) (by decide) rfl rfl)
           replace ol_47 := ol_47.wrote hw_244 (by simp) (W.bne (p := 2) (q := 4) (by decide) rfl rfl)
           replace O_185 := O_185.wrote hw_244 (by simp) (W.one (p := 6) (q := 4) (by decide) rfl rfl)
           replace O_242 := O_242.wrote hw_244 (by simp) (W.one (p := 1) (q := 4) (by decide) rfl rfl)
           replace RR := RR.wrote hw_244 (by simp)
           replace W := W.wrote hw_244 (by simp)
           replace B_34 : Bx .raw 26 w_243 (Kx K w.heap.size [some b_78, v_239.ownBlock, some l_47, some D_46, some b_33, some b_27, v_23.ownBlock, some b_5, some b_1]) b_33 v_239 := B_; clear B_
           refine wpList_nil ?_
           refine then_n ?_
           obtain rfl := Option.some.inj ej_121
           exact ⟨v_239, S.sub trivial, W, B_2, B_6, B_28, B_34, oD_46, B_79, ol_47, O_185, O_242.forget, RR⟩
          ·intro hc
           rw [if_neg (Bool.eq_false_iff.1 hc)] at ej_121
           refine R.wp_region_lit ?_
           refine R.w_go S rfl (op_load (t := .raw) (x := v_23) S rfl tyr25 rfl rfl rfl B_28.at_ ?_)
           clear S; intro a v_245 R_246 S
           have q_ := (RepV.rawEq R_246).symm; clear R_246; subst q_
           refine R.wl_pureK (l' := [(26, .int .i64 x_.1), (25, v_23)]) S tys tys_ok 1 [26, 25] (by kernel_rfl) ?_
           clear S; intro a S
           obtain ⟨y_247, ey_247, ej_121⟩ := bindS ej_121
           refine R.w_go S rfl (op_indexAddr_own S rfl ty25 rfl rfl rfl O_71 rfl ey_247 ?_)
           clear S; intro a g_248 H_250 R_249 S
           refine R.wl_pure (l' := [(28, .pointer (some ((⟨g_248, x_.1.toNat * GT.sz gt2, .none⟩ : Addr).add (coff gf2 4)))), (27, .pointer (some (⟨g_248, x_.1.toNat * GT.sz gt2, .none⟩ : Addr))), (26, .int .i64 x_.1), (25, v_23)]) S tys tys_ok 1 (by kernel_rfl) ?_
           clear S; intro a S
           refine R.w_go S rfl (op_load (t := (.int .i64)) (x := y_247.2.2.2.2) S rfl ty3 rfl rfl rfl (RepAt.add 4 (RepAt.st (t := gf2) R_249)) ?_)
           clear S; intro a v_251 R_252 S
           obtain ⟨rfl, GR_252⟩ := RepV.int R_252
           obtain ⟨x_253, ex_253, ej_121⟩ := bindS ej_121
           refine R.w_go S rfl (op_arith S .i64 (y_247.2.2.2.2 + 1) rfl (.inl rfl) rfl rfl rfl rfl ex_253 ?_)
           clear S; intro a S
           obtain ⟨y_254, ey_254, ej_121⟩ := bindS ej_121
           refine R.w_go S rfl (op_indexAddr_own S rfl ty25 rfl rfl rfl O_71 rfl ey_254 ?_)
           clear S; intro a g_255 H_257 R_256 S
           refine R.wl_pureK (l' := [(32, .pointer (some ((⟨g_255, x_.1.toNat * GT.sz gt2, .none⟩ : Addr).add (coff gf2 4)))), (30, .int .i64 x_253)]) S tys tys_ok 1 [32, 30] (by kernel_rfl) ?_
           clear S; intro a S
           refine R.w_go S rfl (op_store_own (t' := (.int .i64)) S rfl rfl ty3 rfl (addr_add _ _ _) rfl O_71 H_257 6 rfl (idx_some ey_254).2.1 (Ln.st (Ln.comp 4)) ((RepV.mkInt (ckI_some ex_253).2.1) : RepV (.int .i64) w_100 (Kx K w.heap.size [some b_78, v_72.ownBlock, some l_47, some D_46, some b_33, some b_27, v_23.ownBlock, some b_5, some b_1]) _ x_253) ?_)
           intro w_258 hw_259 hm_261 O_260
           replace B_2 := B_2.wrote hw_259 hm_261 (by have h_ := W.one (p := 6) (q := 8) (by decide) rfl rfl; exact fun e_ => h_ (by rw [e_]; exact H_257))
           replace B_6 := B_6.wrote hw_259 hm_261 (by have h_ := W.one (p := 6) (q := 7) (by decide) rfl rfl; exact fun e_ => h_ (by rw [e_]; exact H_257))
           replace B_28 := B_28.wrote hw_259 hm_261 (by have h_ := W.one (p := 6) (q := 5) (by decide) rfl rfl; exact fun e_ => h_ (by rw [e_]; exact H_257))
           replace B_34 := B_34.wrote hw_259 hm_261 (by have h_ := W.one (p := 6) (q := 4) (by decide) rfl rfl; exact fun e_ => h_ (by rw [e_]; exact H_257))
           replace oD_46 := oD_46.wrote hw_259 trivial (by have h_ := W.one (p := 6) (q := 3) (by decide) rfl rfl; exact fun e_ => h_ (by rw [e_]; exact H_257))
           replace B_79 := B_79.wrote hw_259 hm_261 (by have h_ := W.one (p := 6) (q := 0) (by decide) rfl rfl; exact fun e_ => h_ (by rw [e_]; exact H_257))
           replace ol_47 := ol_47.wrote hw_259 trivial (by have h_ := W.one (p := 6) (q := 2) (by decide) rfl rfl; exact fun e_ => h_ (by rw [e_]; exact H_257))
           replace O_73 := O_73.wrote hw_259 hm_261 (fun e_ => (W.neq (p := 6) (q := 1) (by decide) rfl rfl).elim (fun h_ => absurd (Eq.trans (Eq.symm h_) H_257) (fun k_ => nomatch k_)) (fun h_ => h_ (Eq.trans H_257 e_.symm)))
           replace RR := RR.wrote hw_259 hm_261
           replace W := W.wrote hw_259 hm_261
           replace O_260 : Ow gt2 37 w_258 w.heap.size (Kx K w.heap.size [some b_78, v_72.ownBlock, some l_47, some D_46, some b_33, some b_27, v_23.ownBlock, some b_5, some b_1]) v_23 (s_.1.set x_.1.toNat (y_254.1, y_254.2.1, y_254.2.2.1, y_254.2.2.2.1, x_253)) t_22.cap := O_260
           refine R.wpList_nil ?_
           refine then_n ?_
           obtain rfl := Option.some.inj ej_121
           exact ⟨v_72, S.sub trivial, W, B_2, B_6, B_28, B_34, oD_46, B_79, ol_47, O_260, O_73, RR⟩
         clear S W; rintro a w_262 ⟨v_124, S, W, B_2, B_6, B_28, B_34, oD_46, B_79, ol_47, O_123, O_125, RR⟩
         refine then_n ?_
         obtain rfl := Option.some.inj ej_101
         exact ⟨v_124, S.sub trivial, W, B_2, B_6, B_28, B_34, oD_46, B_79, ol_47, O_123, O_125, RR⟩
       clear S W; rintro a w_263 ⟨v_104, S, W, B_2, B_6, B_28, B_34, oD_46, B_79, ol_47, O_103, O_105, RR⟩
       refine then_n ?_
       obtain rfl := Option.some.inj ej_87
       exact ⟨v_104, S.sub trivial, W, B_2, B_6, B_28, B_34, oD_46, B_79, ol_47, O_103, O_105, RR⟩
     clear S W; rintro a w_264 ⟨v_90, S, W, B_2, B_6, B_28, B_34, oD_46, B_79, ol_47, O_89, O_91, RR⟩
     refine blk_n ?_
     refine blk_n ?_
     obtain rfl := Option.some.inj hb_
     refine R.end_n hrec ol_47 ?_; intro w_265 hN_ ol_47
     replace B_2 := B_2.nc hN_
     replace B_6 := B_6.nc hN_
     replace B_28 := B_28.nc hN_
     replace B_34 := B_34.nc hN_
     replace oD_46 := oD_46.nc hN_ (W.bne (p := 3) (q := 2) (by decide) rfl rfl)
     replace B_79 := B_79.nc hN_
     replace O_89 := O_89.nc hN_
     replace O_91 := O_91.nc hN_
     replace RR := RR.nc hN_ (by simp)
     replace W := W.nc hN_ (by simp)
     exact ⟨_, rfl, ⟨0, _, v_90, rfl, by decide, rfl, (W.drop 1), (B_2.drop 1), (B_6.drop 1), (B_28.drop 1), (B_34.drop 1), (oD_46.drop 1), (O_89.drop 1), (O_91.drop 1), ol_47⟩, (RR.drop 1).yst (W.drop 1)⟩
    ·rintro _ w_266 ⟨hv_, LO_, hJ_⟩; refine ⟨hv_, ?_⟩; clear S W
     obtain ⟨k_, s_, v_72, e2_, hk_, rfl, W, B_2, B_6, B_28, B_34, oD_46, O_71, O_73, ol_47⟩ := hJ_; subst e2_; have S := S0.mark (D := D_46)
     rcases k_ with _ | k_
     ·
      replace ol_47 : Ox (rec .ready none) w_266 l_47 := ol_47
      refine RP.done hrec ol_47 ?_; intro w_267 hN_
      replace B_2 := B_2.nc hN_
      replace B_6 := B_6.nc hN_
      replace B_28 := B_28.nc hN_
      replace B_34 := B_34.nc hN_
      replace oD_46 := oD_46.nc hN_ (W.bne (p := 2) (q := 1) (by decide) rfl rfl)
      replace O_71 := O_71.nc hN_
      replace O_73 := O_73.nc hN_
      replace W := W.nc hN_ (by simp)
      replace S : StD [markD D_46] 72 _ [(9, pB b_33), (8, pB b_27), (3, pB b_5), (2, pB b_1)] := S.sub (by exact ⟨rfl, rfl, rfl, rfl, trivial⟩)
      refine blk_n ?_
      refine then_n ?_
      exact ⟨D_46, l_47, ⟨v_72, S.sub (by exact ⟨rfl, rfl, trivial⟩), W, B_2, B_6, B_28, B_34, oD_46, O_71, O_73⟩⟩
     ·exact absurd hk_ (by omega)
   clear S W; rintro a w_268 ⟨D_46, l_47, v_66, S, W, B_2, B_6, B_28, B_34, oD_46, O_65, O_67⟩
   refine then_n ?_
   refine R.wp_seq ?_
   refine R.drawn (by kernel_rfl) (by kernel_rfl) ?_
   have R_269 : RepV (.sl gt0) w_268 (Kx K w.heap.size [some l_47, some D_46, some b_33, some b_27, v_23.ownBlock, some b_5, some b_1]) v_66 (⟨y_63.2.2, .none⟩ : Sl ((Sl (Int)) × Bool)) := O_67.pubAt W 0 rfl
   replace B_2 : Bx (.sl gt2) 25 w_268 (Kx K w.heap.size [some l_47, some D_46, some b_33, some b_27, v_23.ownBlock, some b_5, some b_1]) b_1 x0 := B_2.lessAt 0
   replace B_6 : Bx (.int .i64) 3 w_268 (Kx K w.heap.size [some l_47, some D_46, some b_33, some b_27, v_23.ownBlock, some b_5, some b_1]) b_5 x1 := B_6.lessAt 0
   replace B_28 : Bx .raw 25 w_268 (Kx K w.heap.size [some l_47, some D_46, some b_33, some b_27, v_23.ownBlock, some b_5, some b_1]) b_27 v_23 := B_28.lessAt 0
   replace B_34 : Bx .raw 26 w_268 (Kx K w.heap.size [some l_47, some D_46, some b_33, some b_27, v_23.ownBlock, some b_5, some b_1]) b_33 v_66 := B_34.lessAt 0
   replace oD_46 : Ox (.deferred (some [])) w_268 D_46 := oD_46.lessAt 0
   replace O_65 : Ow gt2 37 w_268 w.heap.size (Kx K w.heap.size [some l_47, some D_46, some b_33, some b_27, v_23.ownBlock, some b_5, some b_1]) v_23 y_63.2.1 t_22.cap := O_65.lessAt 0
   replace W : Wd w w_268 [some l_47, some D_46, some b_33, some b_27, v_23.ownBlock, some b_5, some b_1] := W.lessAt 0
   replace B_34 : Bx (.sl gt0) 26 w_268 (Kx K w.heap.size [some l_47, some D_46, some b_33, some b_27, v_23.ownBlock, some b_5, some b_1]) b_33 (⟨y_63.2.2, .none⟩ : Sl ((Sl (Int)) × Bool)) := Bx.unrawX (t' := (.sl gt0)) Lx.here B_34 R_269
   obtain ⟨s_282, es_282, h⟩ := bindS h
   have hR : Rel (Kx K w.heap.size [some l_47, some D_46, some b_33, some b_27, v_23.ownBlock, some b_5, some b_1]) Bl := Bl.rel _
   refine wr_region_all hR [eqv (v_23), isRep (.sl gt0) (Kx K w.heap.size [some l_47, some D_46, some b_33, some b_27, v_23.ownBlock, some b_5, some b_1]) (⟨y_63.2.2, .none⟩ : Sl ((Sl (Int)) × Bool)), isRep (.sl gt0) (Kx K w.heap.size [some l_47, some D_46, some b_33, some b_27, v_23.ownBlock, some b_5, some b_1]) (⟨y_63.2.2, .none⟩ : Sl ((Sl (Int)) × Bool)), isI .i64 (lenI (⟨y_63.2.2, .none⟩ : Sl ((Sl (Int)) × Bool))), isRep (.sl gt0) (Kx K w.heap.size [some l_47, some D_46, some b_33, some b_27, v_23.ownBlock, some b_5, some b_1]) (⟨y_63.2.2, .none⟩ : Sl ((Sl (Int)) × Bool)), isI .i64 (lenI (⟨y_63.2.2, .none⟩ : Sl ((Sl (Int)) × Bool))), isRep (.sl gt0) (Kx K w.heap.size [some l_47, some D_46, some b_33, some b_27, v_23.ownBlock, some b_5, some b_1]) s_282, eqv (v_23), isRep (.sl gt0) (Kx K w.heap.size [some l_47, some D_46, some b_33, some b_27, v_23.ownBlock, some b_5, some b_1]) s_282, eqv (.int .i64 0)] [[], [], [], [(2, 67)], [], [(4, 69)], [(1, 66), (3, 68), (5, 70)], [(0, 65)], [(6, 71)], []] (by kernel_rfl) (by rw [S.size]; kernel_rfl) (by kernel_rfl) (by kernel_rfl) rfl ⟨(stab_eqv _), (stab_rep hR), (stab_rep hR), stab_I, (stab_rep hR), stab_I, (stab_rep hR), (stab_eqv _), (stab_rep hR), (stab_eqv _), trivial⟩ ?_ ?_
   ·
    refine RunAll.cons (eqv (v_23)) [] rfl rfl ?_ ?_
    ·intro W_ hW
     have S1 := S
     refine fill_nil S1 ?_; clear S1; intro a_ S1
     replace B_28 := B_28.step hW
     have S0 := S.defers; replace S := S1; clear S1
     refine w_go S rfl (op_load (t := .raw) (x := v_23) S rfl tyr25 rfl rfl rfl B_28.at_ ?_)
     clear S; intro a v_283 R_284 S
     have q_ := (RepV.rawEq R_284).symm; clear R_284; subst q_
     refine wpList_nil ?_
     exact RPost.mk_ S rfl S0 rfl (Below.refl _ _)
    refine RunAll.cons (isRep (.sl gt0) (Kx K w.heap.size [some l_47, some D_46, some b_33, some b_27, v_23.ownBlock, some b_5, some b_1]) (⟨y_63.2.2, .none⟩ : Sl ((Sl (Int)) × Bool))) [] rfl rfl ?_ ?_
    ·intro W_ hW
     have S1 := S
     refine fill_nil S1 ?_; clear S1; intro a_ S1
     replace B_34 := B_34.step hW
     have S0 := S.defers; replace S := S1; clear S1
     refine w_go S rfl (op_load (t := (.sl gt0)) (x := (⟨y_63.2.2, .none⟩ : Sl ((Sl (Int)) × Bool))) S rfl ty26 rfl rfl rfl B_34.at_ ?_)
     clear S; intro a v_285 R_286 S
     refine wpList_nil ?_
     exact RPost.mk_ S rfl S0 R_286 (Below.refl _ _)
    refine RunAll.cons (isRep (.sl gt0) (Kx K w.heap.size [some l_47, some D_46, some b_33, some b_27, v_23.ownBlock, some b_5, some b_1]) (⟨y_63.2.2, .none⟩ : Sl ((Sl (Int)) × Bool))) [] rfl rfl ?_ ?_
    ·intro W_ hW
     have S1 := S
     refine fill_nil S1 ?_; clear S1; intro a_ S1
     replace B_34 := B_34.step hW
     have S0 := S.defers; replace S := S1; clear S1
     refine w_go S rfl (op_load (t := (.sl gt0)) (x := (⟨y_63.2.2, .none⟩ : Sl ((Sl (Int)) × Bool))) S rfl ty26 rfl rfl rfl B_34.at_ ?_)
     clear S; intro a v_287 R_288 S
     refine wpList_nil ?_
     exact RPost.mk_ S rfl S0 R_288 (Below.refl _ _)
    refine RunAll.cons (isI .i64 (lenI (⟨y_63.2.2, .none⟩ : Sl ((Sl (Int)) × Bool)))) [(isRep (.sl gt0) (Kx K w.heap.size [some l_47, some D_46, some b_33, some b_27, v_23.ownBlock, some b_5, some b_1]) (⟨y_63.2.2, .none⟩ : Sl ((Sl (Int)) × Bool)), 67)] rfl rfl ?_ ?_
    ·intro W_ hW
     have S1 := S
     intro v_290 hF_289; replace hF_289 : RepV _ _ _ _ _ := hF_289
     replace S1 := S1.put (by decide : 67 < 72) (v_290)
     refine fill_nil S1 ?_; clear S1; intro a_ S1
     replace W := W.step hW
     have S0 := S.defers; replace S := S1; clear S1
     refine w_go S rfl (op_len (K := _) S rfl ty26 rfl rfl rfl hF_289 ?_)
     clear S; intro a G_291 S
     refine wpList_nil ?_
     exact RPost.mk_ S rfl S0 ⟨rfl, G_291⟩ (Below.refl _ _)
    refine RunAll.cons (isRep (.sl gt0) (Kx K w.heap.size [some l_47, some D_46, some b_33, some b_27, v_23.ownBlock, some b_5, some b_1]) (⟨y_63.2.2, .none⟩ : Sl ((Sl (Int)) × Bool))) [] rfl rfl ?_ ?_
    ·intro W_ hW
     have S1 := S
     refine fill_nil S1 ?_; clear S1; intro a_ S1
     replace B_34 := B_34.step hW
     have S0 := S.defers; replace S := S1; clear S1
     refine w_go S rfl (op_load (t := (.sl gt0)) (x := (⟨y_63.2.2, .none⟩ : Sl ((Sl (Int)) × Bool))) S rfl ty26 rfl rfl rfl B_34.at_ ?_)
     clear S; intro a v_292 R_293 S
     refine wpList_nil ?_
     exact RPost.mk_ S rfl S0 R_293 (Below.refl _ _)
    refine RunAll.cons (isI .i64 (lenI (⟨y_63.2.2, .none⟩ : Sl ((Sl (Int)) × Bool)))) [(isRep (.sl gt0) (Kx K w.heap.size [some l_47, some D_46, some b_33, some b_27, v_23.ownBlock, some b_5, some b_1]) (⟨y_63.2.2, .none⟩ : Sl ((Sl (Int)) × Bool)), 69)] rfl rfl ?_ ?_
    ·intro W_ hW
     have S1 := S
     intro v_295 hF_294; replace hF_294 : RepV _ _ _ _ _ := hF_294
     replace S1 := S1.put (by decide : 69 < 72) (v_295)
     refine fill_nil S1 ?_; clear S1; intro a_ S1
     replace W := W.step hW
     have S0 := S.defers; replace S := S1; clear S1
     refine w_go S rfl (op_len (K := _) S rfl ty26 rfl rfl rfl hF_294 ?_)
     clear S; intro a G_296 S
     refine wpList_nil ?_
     exact RPost.mk_ S rfl S0 ⟨rfl, G_296⟩ (Below.refl _ _)
    refine RunAll.cons (isRep (.sl gt0) (Kx K w.heap.size [some l_47, some D_46, some b_33, some b_27, v_23.ownBlock, some b_5, some b_1]) s_282) [(isRep (.sl gt0) (Kx K w.heap.size [some l_47, some D_46, some b_33, some b_27, v_23.ownBlock, some b_5, some b_1]) (⟨y_63.2.2, .none⟩ : Sl ((Sl (Int)) × Bool)), 66), (isI .i64 (lenI (⟨y_63.2.2, .none⟩ : Sl ((Sl (Int)) × Bool))), 68), (isI .i64 (lenI (⟨y_63.2.2, .none⟩ : Sl ((Sl (Int)) × Bool))), 70)] rfl rfl ?_ ?_
    ·intro W_ hW
     have S1 := S
     intro v_298 hF_297; replace hF_297 : RepV _ _ _ _ _ := hF_297
     replace S1 := S1.put (by decide : 66 < 72) (v_298)
     rintro _ ⟨rfl, hF_299⟩
     replace S1 := S1.put (by decide : 68 < 72) (.int .i64 (lenI (⟨y_63.2.2, .none⟩ : Sl ((Sl (Int)) × Bool))))
     rintro _ ⟨rfl, hF_301⟩
     replace S1 := S1.put (by decide : 70 < 72) (.int .i64 (lenI (⟨y_63.2.2, .none⟩ : Sl ((Sl (Int)) × Bool))))
     refine fill_nil S1 ?_; clear S1; intro a_ S1
     have S0 := S.defers; replace S := S1; clear S1
     refine w_go S rfl (op_slice3 S rfl ty26 rfl rfl rfl hF_297 (.inl ⟨rfl, rfl⟩) rfl rfl es_282 ?_)
     clear S; intro a v_303 R_304 S
     refine wpList_nil ?_
     exact RPost.mk_ S rfl S0 R_304 (Below.refl _ _)
    refine RunAll.cons (eqv (v_23)) [(eqv (v_23), 65)] rfl rfl ?_ ?_
    ·intro W_ hW
     have S1 := S
     intro v_306 hF_305; obtain rfl : v_23 = v_306 := Eq.symm hF_305
     replace S1 := S1.put (by decide : 65 < 72) (v_23)
     replace O_65 := O_65.step hW
     exact RPost.one (v := v_23) S1 tys tys_ok rfl (by kernel_rfl) S.defers rfl (Below.refl _ _)
    refine RunAll.cons (isRep (.sl gt0) (Kx K w.heap.size [some l_47, some D_46, some b_33, some b_27, v_23.ownBlock, some b_5, some b_1]) s_282) [(isRep (.sl gt0) (Kx K w.heap.size [some l_47, some D_46, some b_33, some b_27, v_23.ownBlock, some b_5, some b_1]) s_282, 71)] rfl rfl ?_ ?_
    ·intro W_ hW
     have S1 := S
     intro v_308 hF_307; replace hF_307 : RepV _ _ _ _ _ := hF_307
     replace S1 := S1.put (by decide : 71 < 72) (v_308)
     exact RPost.one (v := v_308) S1 tys tys_ok rfl (by kernel_rfl) S.defers hF_307 (Below.refl _ _)
    refine RunAll.cons (eqv (.int .i64 0)) [] rfl rfl ?_ ?_
    ·intro W_ hW
     have S1 := S
     exact RPost.one (v := .int .i64 0) S1 tys tys_ok rfl (by kernel_rfl) S.defers rfl (Below.refl _ _)
    exact trivial
   intro w_309 hb_310
   refine EndE.some_ rfl ?_
   intro v_312 hF_311; obtain rfl : v_23 = v_312 := Eq.symm hF_311
   replace S := S.put (by decide : 65 < 72) (v_23)
   refine EndE.some_ rfl ?_
   intro v_314 hF_313; replace hF_313 : RepV _ _ _ _ _ := hF_313
   replace S := S.put (by decide : 66 < 72) (v_314)
   refine EndE.some_ rfl ?_
   intro v_316 hF_315; replace hF_315 : RepV _ _ _ _ _ := hF_315
   replace S := S.put (by decide : 67 < 72) (v_316)
   refine EndE.some_ rfl ?_
   rintro _ ⟨rfl, hF_317⟩
   replace S := S.put (by decide : 68 < 72) (.int .i64 (lenI (⟨y_63.2.2, .none⟩ : Sl ((Sl (Int)) × Bool))))
   refine EndE.some_ rfl ?_
   intro v_320 hF_319; replace hF_319 : RepV _ _ _ _ _ := hF_319
   replace S := S.put (by decide : 69 < 72) (v_320)
   refine EndE.some_ rfl ?_
   rintro _ ⟨rfl, hF_321⟩
   replace S := S.put (by decide : 70 < 72) (.int .i64 (lenI (⟨y_63.2.2, .none⟩ : Sl ((Sl (Int)) × Bool))))
   refine EndE.some_ rfl ?_
   intro v_324 hF_323; replace hF_323 : RepV _ _ _ _ _ := hF_323
   replace S := S.put (by decide : 71 < 72) (v_324)
   refine EndE.some_ rfl ?_
   intro v_326 hF_325; obtain rfl : v_23 = v_326 := Eq.symm hF_325
   replace S := S.put (by decide : 4 < 72) (v_23)
   refine EndE.some_ rfl ?_
   intro v_328 hF_327; replace hF_327 : RepV _ _ _ _ _ := hF_327
   replace S := S.put (by decide : 5 < 72) (v_328)
   refine EndE.some_ rfl ?_
   intro v_330 hF_329; obtain rfl : .int .i64 0 = v_330 := Eq.symm hF_329
   replace S := S.put (by decide : 6 < 72) (.int .i64 0)
   refine endE_nil S ?_; clear S; intro a S
   replace B_2 := B_2.step hb_310
   replace B_6 := B_6.step hb_310
   replace B_28 := B_28.step hb_310
   replace B_34 := B_34.step hb_310
   replace oD_46 := oD_46.step hb_310
   replace O_65 := O_65.step hb_310
   replace W := W.step hb_310
   refine then_n ?_
   replace S := S.sub (l' := [(6, .int .i64 0), (5, v_328), (4, v_23)]) (by exact ⟨rfl, rfl, rfl, trivial⟩)
   refine R.wp_ret ?_
   refine R.leave1 S oD_46 ?_ (by simp)
   clear S; intro a wL hN_ S
   replace hF_327 := hF_327.nc hN_
   replace B_2 := B_2.nc hN_
   replace B_6 := B_6.nc hN_
   replace B_28 := B_28.nc hN_
   replace B_34 := B_34.nc hN_
   replace O_65 := O_65.nc hN_
   replace W := W.nc hN_ (by simp)
   obtain rfl := Option.some.inj h
   exact b_ret3 S rfl rfl rfl rfl ⟨_, _, _, rfl, (O_65.lessO 4 rfl), (hF_327.lessO 4 rfl), (RepV.mkInt (by decide)), W.below⟩
theorem cb12 : callB Try.prog 12 = true := by kernel_rfl
def p14_l1 (n : Nat) (x0 : Sl (Int)) (x1 : Sl (Int)) : Nat → (Int) → Option ((Unit) ⊕ ((Bool)))
 | 0, _ => .none
 | m + 1, c_1 => (if (decide (c_1 < (lenI x0))) = true then some (decide (c_1 < (lenI x1))) else some false).bind fun q_11 => if q_11 then ((idx x0.xs c_1).bind fun y_13 => (idx x1.xs c_1).bind fun y_19 => if (y_13 != y_19) then ((idx x0.xs c_1).bind fun y_83 => (idx x1.xs c_1).bind fun y_89 => some (.inr (decide (y_83 < y_89)))) else (ckI .i64 (c_1 + 1)).bind fun x_157 => p14_l1 n x0 x1 m x_157) else some (.inl ())
def p14 (n : Nat) (x0 : Sl (Int)) (x1 : Sl (Int)) : Option ((Bool)) :=
 (p14_l1 n x0 x1 n 0).bind fun (y_5 : (Unit) ⊕ ((Bool))) =>
 lrK y_5 some fun (s_6 : Unit) =>
 some (decide ((lenI x0) < (lenI x1)))
set_option maxHeartbeats 4000000 in
set_option maxRecDepth 100000 in
/-- plugboard/plugboardlaw32.before -/
theorem c14 (K : Nat → Prop) (n : Nat) (w : World) (x0 : Sl (Int)) (v0 : Value) (R0 : RepV (.sl (.int .u8)) w K v0 x0) (x1 : Sl (Int)) (v1 : Value) (R1 : RepV (.sl (.int .u8)) w K v1 x1) {r : (Bool)} (h : p14 n x0 x1 = some r) :
  Calls Try.prog 14 #[v0, v1] w (Ret1 .bool w (Kx K w.heap.size []) r) := by
 refine enter (args := [v0, v1]) Try.func14 rfl 41 rfl rfl fun a S => ?_
 have W := Wd.start w
 replace R0 := R0.arg
 replace R1 := R1.arg
 unfold p14 at h
 replace S : St 41 a [(0, v0), (1, v1)] := S
 refine wp_seq ?_
 refine wp_region_lit ?_
 refine wl_pure (l' := [(4, .bool false), (0, v0), (1, v1)]) S tys tys_ok 1 (by kernel_rfl) ?_
 clear S; intro a S
 refine wpList_nil ?_
 refine then_n ?_
 replace S := S.sub (l' := [(0, v0), (1, v1)]) (by exact ⟨rfl, rfl, trivial⟩)
 refine wp_seq ?_
 refine wp_seq ?_
 refine wp_region_lit ?_
 refine wl_pure (l' := [(5, .int .i64 0), (0, v0), (1, v1)]) S tys tys_ok 1 (by kernel_rfl) ?_
 clear S; intro a S
 refine wpList_nil ?_
 refine then_n ?_
 obtain ⟨y_5, ey_5, h⟩ := bindS h
 refine wp_cut_ (fun a_ w_ => ∃ s_6 : Unit, y_5 = .inl s_6 ∧ (St 41 a_ [(0, v0), (1, v1)] ∧ Wd w w_ [] ∧ RepV (.sl (.int .u8)) w_ (Kx K w.heap.size []) v0 x0 ∧ RepV (.sl (.int .u8)) w_ (Kx K w.heap.size []) v1 x1)) ?_ ?_
 ·refine wp_block ?_
  refine wp_loop_n (fun m_ a_ w_ => ∃ (c_1 : Int) , St 41 a_ [(5, .int .i64 c_1), (0, v0), (1, v1)] ∧ Wd w w_ [] ∧ InR .i64 c_1 ∧ RepV (.sl (.int .u8)) w_ (Kx K w.heap.size []) v0 x0 ∧ RepV (.sl (.int .u8)) w_ (Kx K w.heap.size []) v1 x1 ∧ p14_l1 n x0 x1 m_ c_1 = some y_5) n ?_ ?_
  ·skip
   exact ⟨0, ⟨S.sub (by exact ⟨rfl, rfl, rfl, trivial⟩), W, (by decide), R0, R1, ey_5⟩⟩
  ·clear S W; rintro m_7 a w_9 ⟨c_1, S, W, G_2, R0, R1, hl_8⟩
   cases m_7 with
   | zero => exact absurd hl_8 (by simp [p14_l1])
   | succ m_7 =>
    refine ⟨m_7, rfl, ?_⟩
    rw [p14_l1] at hl_8
    refine wp_seq ?_
    refine wp_seq ?_
    refine wp_region_lit ?_
    refine wl_pure (l' := [(7, v0), (6, .int .i64 c_1), (5, .int .i64 c_1), (0, v0), (1, v1)]) S tys tys_ok 2 (by kernel_rfl) ?_
    clear S; intro a S
    refine w_go S rfl (op_len (K := _) S rfl ty35 rfl rfl rfl R0 ?_)
    clear S; intro a G_10 S
    refine wl_pureK (l' := [(10, .bool (decide (c_1 < (lenI x0)))), (5, .int .i64 c_1), (0, v0), (1, v1)]) S tys tys_ok 2 [10, 5, 0, 1] (by kernel_rfl) ?_
    clear S; intro a S
    obtain ⟨q_11, eq_11, hl_8⟩ := bindS hl_8
    refine seg 5 (fun a_ w_ => w_9 = w_ ∧ St 41 a_ [(15, .bool q_11), (5, .int .i64 c_1), (0, v0), (1, v1)]) ?_ ?_
    ·by_cases hc : (decide (c_1 < (lenI x0))) = true
     ·rw [if_pos hc] at eq_11; rw [hc] at S
      refine wl_pure (l' := [(12, v1), (11, .int .i64 c_1), (10, .bool true), (5, .int .i64 c_1), (0, v0), (1, v1)]) S tys tys_ok 2 (by kernel_rfl) ?_
      clear S; intro a S
      refine w_go S rfl (op_len (K := _) S rfl ty35 rfl rfl rfl R1 ?_)
      clear S; intro a G_12 S
      refine wl_pure (l' := [(15, .bool (decide (c_1 < (lenI x1)))), (14, .bool (decide (c_1 < (lenI x1)))), (13, .int .i64 (lenI x1)), (12, v1), (11, .int .i64 c_1), (10, .bool true), (5, .int .i64 c_1), (0, v0), (1, v1)]) S tys tys_ok 2 (by kernel_rfl) ?_
      clear S; intro a S
      obtain rfl := Option.some.inj eq_11
      exact ⟨rfl, S.sub (by exact ⟨rfl, rfl, rfl, rfl, trivial⟩)⟩
     ·rw [if_neg hc] at eq_11; rw [show (decide (c_1 < (lenI x0))) = false from Bool.eq_false_iff.2 hc] at S
      refine wl_pure (l' := [(15, .bool false), (14, undef), (13, undef), (12, undef), (11, undef), (10, .bool false), (5, .int .i64 c_1), (0, v0), (1, v1)]) S tys tys_ok 5 (by kernel_rfl) ?_
      clear S; intro a S
      obtain rfl := Option.some.inj eq_11
      exact ⟨rfl, S.sub (by exact ⟨rfl, rfl, rfl, rfl, trivial⟩)⟩
    clear S eq_11; rintro a _ ⟨rfl, S⟩
    refine wpList_nil ?_
    refine then_n ?_
    refine wp_cond_split (S.eval (show ev _ _ = some (.bool q_11) from rfl)) ?_ ?_
    ·intro hc
     rw [if_pos hc] at hl_8
     refine wp_skip ?_
     refine then_n ?_
     replace S := S.sub (l' := [(5, .int .i64 c_1), (0, v0), (1, v1)]) (by exact ⟨rfl, rfl, rfl, trivial⟩)
     refine wp_seq ?_
     refine wp_block ?_
     refine wp_seq ?_
     obtain ⟨y_13, ey_13, hl_8⟩ := bindS hl_8
     obtain ⟨y_19, ey_19, hl_8⟩ := bindS hl_8
     have hR : Rel (Kx K w.heap.size []) Bl := Bl.rel _
     refine wp_region_all hR [isRep (.sl (.int .u8)) (Kx K w.heap.size []) x0, isI .i64 c_1, isEl (.int .u8) (Kx K w.heap.size []) y_13, isI .u8 y_13, isRep (.sl (.int .u8)) (Kx K w.heap.size []) x1, isI .i64 c_1, isEl (.int .u8) (Kx K w.heap.size []) y_19, isI .u8 y_19, eqv (.bool (y_13 != y_19))] [[], [], [(0, 18), (1, 19)], [(2, 20)], [], [], [(4, 22), (5, 23)], [(6, 24)], [(3, 21), (7, 25)]] (by kernel_rfl) (by rw [S.size]; kernel_rfl) (by kernel_rfl) (by kernel_rfl) rfl ⟨(stab_rep hR), stab_I, (stab_el hR), stab_I, (stab_rep hR), stab_I, (stab_el hR), stab_I, (stab_eqv _), trivial⟩ ?_ ?_
     ·
      refine RunAll.cons (isRep (.sl (.int .u8)) (Kx K w.heap.size []) x0) [] rfl rfl ?_ ?_
      ·intro W_ hW
       have S1 := S
       replace R0 := R0.step hW
       exact RPost.one (v := v0) S1 tys tys_ok rfl (by kernel_rfl) S.defers R0 (Below.refl _ _)
      refine RunAll.cons (isI .i64 c_1) [] rfl rfl ?_ ?_
      ·intro W_ hW
       have S1 := S
       exact RPost.one (v := .int .i64 c_1) S1 tys tys_ok rfl (by kernel_rfl) S.defers ⟨rfl, G_2⟩ (Below.refl _ _)
      refine RunAll.cons (isEl (.int .u8) (Kx K w.heap.size []) y_13) [(isRep (.sl (.int .u8)) (Kx K w.heap.size []) x0, 18), (isI .i64 c_1, 19)] rfl rfl ?_ ?_
      ·intro W_ hW
       have S1 := S
       intro v_26 hF_25; replace hF_25 : RepV _ _ _ _ _ := hF_25
       replace S1 := S1.put (by decide : 18 < 41) (v_26)
       rintro _ ⟨rfl, hF_27⟩
       replace S1 := S1.put (by decide : 19 < 41) (.int .i64 c_1)
       refine fill_nil S1 ?_; clear S1; intro a_ S1
       replace W := W.step hW
       have S0 := S.defers; replace S := S1; clear S1
       refine w_go S rfl (op_indexAddr S rfl ty35 rfl rfl rfl hF_25 rfl ey_13 ?_)
       clear S; intro a p_29 R_30 H_31 S
       refine wpList_nil ?_
       exact RPost.mk_ S rfl S0 ⟨_, rfl, R_30, H_31⟩ (Below.refl _ _)
      refine RunAll.cons (isI .u8 y_13) [(isEl (.int .u8) (Kx K w.heap.size []) y_13, 20)] rfl rfl ?_ ?_
      ·intro W_ hW
       have S1 := S
       rintro _ ⟨p_34, rfl, R_35, H_36⟩
       replace S1 := S1.put (by decide : 20 < 41) (.pointer (some p_34))
       refine fill_nil S1 ?_; clear S1; intro a_ S1
       have S0 := S.defers; replace S := S1; clear S1
       refine w_go S rfl (op_load (t := (.int .u8)) (x := y_13) S rfl ty5 rfl rfl rfl R_35 ?_)
       clear S; intro a v_37 R_38 S
       obtain ⟨rfl, GR_38⟩ := RepV.int R_38
       refine wpList_nil ?_
       exact RPost.mk_ S rfl S0 ⟨rfl, GR_38⟩ (Below.refl _ _)
      refine RunAll.cons (isRep (.sl (.int .u8)) (Kx K w.heap.size []) x1) [] rfl rfl ?_ ?_
      ·intro W_ hW
       have S1 := S
       replace R1 := R1.step hW
       exact RPost.one (v := v1) S1 tys tys_ok rfl (by kernel_rfl) S.defers R1 (Below.refl _ _)
      refine RunAll.cons (isI .i64 c_1) [] rfl rfl ?_ ?_
      ·intro W_ hW
       have S1 := S
       exact RPost.one (v := .int .i64 c_1) S1 tys tys_ok rfl (by kernel_rfl) S.defers ⟨rfl, G_2⟩ (Below.refl _ _)
      refine RunAll.cons (isEl (.int .u8) (Kx K w.heap.size []) y_19) [(isRep (.sl (.int .u8)) (Kx K w.heap.size []) x1, 22), (isI .i64 c_1, 23)] rfl rfl ?_ ?_
      ·intro W_ hW
       have S1 := S
       intro v_40 hF_39; replace hF_39 : RepV _ _ _ _ _ := hF_39
       replace S1 := S1.put (by decide : 22 < 41) (v_40)
       rintro _ ⟨rfl, hF_41⟩
       replace S1 := S1.put (by decide : 23 < 41) (.int .i64 c_1)
       refine fill_nil S1 ?_; clear S1; intro a_ S1
       replace W := W.step hW
       have S0 := S.defers; replace S := S1; clear S1
       refine w_go S rfl (op_indexAddr S rfl ty35 rfl rfl rfl hF_39 rfl ey_19 ?_)
       clear S; intro a p_43 R_44 H_45 S
       refine wpList_nil ?_
       exact RPost.mk_ S rfl S0 ⟨_, rfl, R_44, H_45⟩ (Below.refl _ _)
      refine RunAll.cons (isI .u8 y_19) [(isEl (.int .u8) (Kx K w.heap.size []) y_19, 24)] rfl rfl ?_ ?_
      ·intro W_ hW
       have S1 := S
       rintro _ ⟨p_48, rfl, R_49, H_50⟩
       replace S1 := S1.put (by decide : 24 < 41) (.pointer (some p_48))
       refine fill_nil S1 ?_; clear S1; intro a_ S1
       have S0 := S.defers; replace S := S1; clear S1
       refine w_go S rfl (op_load (t := (.int .u8)) (x := y_19) S rfl ty5 rfl rfl rfl R_49 ?_)
       clear S; intro a v_51 R_52 S
       obtain ⟨rfl, GR_52⟩ := RepV.int R_52
       refine wpList_nil ?_
       exact RPost.mk_ S rfl S0 ⟨rfl, GR_52⟩ (Below.refl _ _)
      refine RunAll.cons (eqv (.bool (y_13 != y_19))) [(isI .u8 y_13, 21), (isI .u8 y_19, 25)] rfl rfl ?_ ?_
      ·intro W_ hW
       have S1 := S
       rintro _ ⟨rfl, hF_53⟩
       replace S1 := S1.put (by decide : 21 < 41) (.int .u8 y_13)
       rintro _ ⟨rfl, hF_55⟩
       replace S1 := S1.put (by decide : 25 < 41) (.int .u8 y_19)
       exact RPost.one (v := .bool (y_13 != y_19)) S1 tys tys_ok rfl (by kernel_rfl) S.defers rfl (Below.refl _ _)
      exact trivial
     intro w_57 hb_58
     refine EndE.some_ rfl ?_
     intro v_60 hF_59; replace hF_59 : RepV _ _ _ _ _ := hF_59
     replace S := S.put (by decide : 18 < 41) (v_60)
     refine EndE.some_ rfl ?_
     rintro _ ⟨rfl, hF_61⟩
     replace S := S.put (by decide : 19 < 41) (.int .i64 c_1)
     refine EndE.some_ rfl ?_
     rintro _ ⟨p_65, rfl, R_66, H_67⟩
     replace S := S.put (by decide : 20 < 41) (.pointer (some p_65))
     refine EndE.some_ rfl ?_
     rintro _ ⟨rfl, hF_68⟩
     replace S := S.put (by decide : 21 < 41) (.int .u8 y_13)
     refine EndE.some_ rfl ?_
     intro v_71 hF_70; replace hF_70 : RepV _ _ _ _ _ := hF_70
     replace S := S.put (by decide : 22 < 41) (v_71)
     refine EndE.some_ rfl ?_
     rintro _ ⟨rfl, hF_72⟩
     replace S := S.put (by decide : 23 < 41) (.int .i64 c_1)
     refine EndE.some_ rfl ?_
     rintro _ ⟨p_76, rfl, R_77, H_78⟩
     replace S := S.put (by decide : 24 < 41) (.pointer (some p_76))
     refine EndE.some_ rfl ?_
     rintro _ ⟨rfl, hF_79⟩
     replace S := S.put (by decide : 25 < 41) (.int .u8 y_19)
     refine EndE.some_ rfl ?_
     intro v_82 hF_81; obtain rfl : .bool (y_13 != y_19) = v_82 := Eq.symm hF_81
     replace S := S.put (by decide : 26 < 41) (.bool (y_13 != y_19))
     refine endE_nil S ?_; clear S; intro a S
     replace R0 := R0.step hb_58
     replace R1 := R1.step hb_58
     replace W := W.step hb_58
     refine then_n ?_
     replace S := S.sub (l' := [(26, .bool (y_13 != y_19)), (5, .int .i64 c_1), (0, v0), (1, v1)]) (by exact ⟨rfl, rfl, rfl, rfl, trivial⟩)
     refine wp_cond_split (S.eval (show ev _ _ = some (.bool (y_13 != y_19)) from rfl)) ?_ ?_
     ·intro hc
      rw [if_pos hc] at hl_8
      refine wp_seq ?_
      obtain ⟨y_83, ey_83, hl_8⟩ := bindS hl_8
      obtain ⟨y_89, ey_89, hl_8⟩ := bindS hl_8
      have hR : Rel (Kx K w.heap.size []) Bl := Bl.rel _
      refine wp_region_all hR [isRep (.sl (.int .u8)) (Kx K w.heap.size []) x0, isI .i64 c_1, isEl (.int .u8) (Kx K w.heap.size []) y_83, isI .u8 y_83, isRep (.sl (.int .u8)) (Kx K w.heap.size []) x1, isI .i64 c_1, isEl (.int .u8) (Kx K w.heap.size []) y_89, isI .u8 y_89, eqv (.bool (decide (y_83 < y_89))), eqv (.bool (decide (y_83 < y_89)))] [[], [], [(0, 27), (1, 28)], [(2, 29)], [], [], [(4, 31), (5, 32)], [(6, 33)], [(3, 30), (7, 34)], [(8, 35)]] (by kernel_rfl) (by rw [S.size]; kernel_rfl) (by kernel_rfl) (by kernel_rfl) rfl ⟨(stab_rep hR), stab_I, (stab_el hR), stab_I, (stab_rep hR), stab_I, (stab_el hR), stab_I, (stab_eqv _), (stab_eqv _), trivial⟩ ?_ ?_
      ·
       refine RunAll.cons (isRep (.sl (.int .u8)) (Kx K w.heap.size []) x0) [] rfl rfl ?_ ?_
       ·intro W_ hW
        have S1 := S
        replace R0 := R0.step hW
        exact RPost.one (v := v0) S1 tys tys_ok rfl (by kernel_rfl) S.defers R0 (Below.refl _ _)
       refine RunAll.cons (isI .i64 c_1) [] rfl rfl ?_ ?_
       ·intro W_ hW
        have S1 := S
        exact RPost.one (v := .int .i64 c_1) S1 tys tys_ok rfl (by kernel_rfl) S.defers ⟨rfl, G_2⟩ (Below.refl _ _)
       refine RunAll.cons (isEl (.int .u8) (Kx K w.heap.size []) y_83) [(isRep (.sl (.int .u8)) (Kx K w.heap.size []) x0, 27), (isI .i64 c_1, 28)] rfl rfl ?_ ?_
       ·intro W_ hW
        have S1 := S
        intro v_96 hF_95; replace hF_95 : RepV _ _ _ _ _ := hF_95
        replace S1 := S1.put (by decide : 27 < 41) (v_96)
        rintro _ ⟨rfl, hF_97⟩
        replace S1 := S1.put (by decide : 28 < 41) (.int .i64 c_1)
        refine fill_nil S1 ?_; clear S1; intro a_ S1
        replace W := W.step hW
        have S0 := S.defers; replace S := S1; clear S1
        refine w_go S rfl (op_indexAddr S rfl ty35 rfl rfl rfl hF_95 rfl ey_83 ?_)
        clear S; intro a p_99 R_100 H_101 S
        refine wpList_nil ?_
        exact RPost.mk_ S rfl S0 ⟨_, rfl, R_100, H_101⟩ (Below.refl _ _)
       refine RunAll.cons (isI .u8 y_83) [(isEl (.int .u8) (Kx K w.heap.size []) y_83, 29)] rfl rfl ?_ ?_
       ·intro W_ hW
        have S1 := S
        rintro _ ⟨p_104, rfl, R_105, H_106⟩
        replace S1 := S1.put (by decide : 29 < 41) (.pointer (some p_104))
        refine fill_nil S1 ?_; clear S1; intro a_ S1
        have S0 := S.defers; replace S := S1; clear S1
        refine w_go S rfl (op_load (t := (.int .u8)) (x := y_83) S rfl ty5 rfl rfl rfl R_105 ?_)
        clear S; intro a v_107 R_108 S
        obtain ⟨rfl, GR_108⟩ := RepV.int R_108
        refine wpList_nil ?_
        exact RPost.mk_ S rfl S0 ⟨rfl, GR_108⟩ (Below.refl _ _)
       refine RunAll.cons (isRep (.sl (.int .u8)) (Kx K w.heap.size []) x1) [] rfl rfl ?_ ?_
       ·intro W_ hW
        have S1 := S
        replace R1 := R1.step hW
        exact RPost.one (v := v1) S1 tys tys_ok rfl (by kernel_rfl) S.defers R1 (Below.refl _ _)
       refine RunAll.cons (isI .i64 c_1) [] rfl rfl ?_ ?_
       ·intro W_ hW
        have S1 := S
        exact RPost.one (v := .int .i64 c_1) S1 tys tys_ok rfl (by kernel_rfl) S.defers ⟨rfl, G_2⟩ (Below.refl _ _)
       refine RunAll.cons (isEl (.int .u8) (Kx K w.heap.size []) y_89) [(isRep (.sl (.int .u8)) (Kx K w.heap.size []) x1, 31), (isI .i64 c_1, 32)] rfl rfl ?_ ?_
       ·intro W_ hW
        have S1 := S
        intro v_110 hF_109; replace hF_109 : RepV _ _ _ _ _ := hF_109
        replace S1 := S1.put (by decide : 31 < 41) (v_110)
        rintro _ ⟨rfl, hF_111⟩
        replace S1 := S1.put (by decide : 32 < 41) (.int .i64 c_1)
        refine fill_nil S1 ?_; clear S1; intro a_ S1
        replace W := W.step hW
        have S0 := S.defers; replace S := S1; clear S1
        refine w_go S rfl (op_indexAddr S rfl ty35 rfl rfl rfl hF_109 rfl ey_89 ?_)
        clear S; intro a p_113 R_114 H_115 S
        refine wpList_nil ?_
        exact RPost.mk_ S rfl S0 ⟨_, rfl, R_114, H_115⟩ (Below.refl _ _)
       refine RunAll.cons (isI .u8 y_89) [(isEl (.int .u8) (Kx K w.heap.size []) y_89, 33)] rfl rfl ?_ ?_
       ·intro W_ hW
        have S1 := S
        rintro _ ⟨p_118, rfl, R_119, H_120⟩
        replace S1 := S1.put (by decide : 33 < 41) (.pointer (some p_118))
        refine fill_nil S1 ?_; clear S1; intro a_ S1
        have S0 := S.defers; replace S := S1; clear S1
        refine w_go S rfl (op_load (t := (.int .u8)) (x := y_89) S rfl ty5 rfl rfl rfl R_119 ?_)
        clear S; intro a v_121 R_122 S
        obtain ⟨rfl, GR_122⟩ := RepV.int R_122
        refine wpList_nil ?_
        exact RPost.mk_ S rfl S0 ⟨rfl, GR_122⟩ (Below.refl _ _)
       refine RunAll.cons (eqv (.bool (decide (y_83 < y_89)))) [(isI .u8 y_83, 30), (isI .u8 y_89, 34)] rfl rfl ?_ ?_
       ·intro W_ hW
        have S1 := S
        rintro _ ⟨rfl, hF_123⟩
        replace S1 := S1.put (by decide : 30 < 41) (.int .u8 y_83)
        rintro _ ⟨rfl, hF_125⟩
        replace S1 := S1.put (by decide : 34 < 41) (.int .u8 y_89)
        exact RPost.one (v := .bool (decide (y_83 < y_89))) S1 tys tys_ok rfl (by kernel_rfl) S.defers rfl (Below.refl _ _)
       refine RunAll.cons (eqv (.bool (decide (y_83 < y_89)))) [(eqv (.bool (decide (y_83 < y_89))), 35)] rfl rfl ?_ ?_
       ·intro W_ hW
        have S1 := S
        intro v_128 hF_127; obtain rfl : .bool (decide (y_83 < y_89)) = v_128 := Eq.symm hF_127
        replace S1 := S1.put (by decide : 35 < 41) (.bool (decide (y_83 < y_89)))
        exact RPost.one (v := .bool (decide (y_83 < y_89))) S1 tys tys_ok rfl (by kernel_rfl) S.defers rfl (Below.refl _ _)
       exact trivial
      intro w_129 hb_130
      refine EndE.some_ rfl ?_
      intro v_132 hF_131; replace hF_131 : RepV _ _ _ _ _ := hF_131
      replace S := S.put (by decide : 27 < 41) (v_132)
      refine EndE.some_ rfl ?_
      rintro _ ⟨rfl, hF_133⟩
      replace S := S.put (by decide : 28 < 41) (.int .i64 c_1)
      refine EndE.some_ rfl ?_
      rintro _ ⟨p_137, rfl, R_138, H_139⟩
      replace S := S.put (by decide : 29 < 41) (.pointer (some p_137))
      refine EndE.some_ rfl ?_
      rintro _ ⟨rfl, hF_140⟩
      replace S := S.put (by decide : 30 < 41) (.int .u8 y_83)
      refine EndE.some_ rfl ?_
      intro v_143 hF_142; replace hF_142 : RepV _ _ _ _ _ := hF_142
      replace S := S.put (by decide : 31 < 41) (v_143)
      refine EndE.some_ rfl ?_
      rintro _ ⟨rfl, hF_144⟩
      replace S := S.put (by decide : 32 < 41) (.int .i64 c_1)
      refine EndE.some_ rfl ?_
      rintro _ ⟨p_148, rfl, R_149, H_150⟩
      replace S := S.put (by decide : 33 < 41) (.pointer (some p_148))
      refine EndE.some_ rfl ?_
      rintro _ ⟨rfl, hF_151⟩
      replace S := S.put (by decide : 34 < 41) (.int .u8 y_89)
      refine EndE.some_ rfl ?_
      intro v_154 hF_153; obtain rfl : .bool (decide (y_83 < y_89)) = v_154 := Eq.symm hF_153
      replace S := S.put (by decide : 35 < 41) (.bool (decide (y_83 < y_89)))
      refine EndE.some_ rfl ?_
      intro v_156 hF_155; obtain rfl : .bool (decide (y_83 < y_89)) = v_156 := Eq.symm hF_155
      replace S := S.put (by decide : 4 < 41) (.bool (decide (y_83 < y_89)))
      refine endE_nil S ?_; clear S; intro a S
      replace R0 := R0.step hb_130
      replace R1 := R1.step hb_130
      replace W := W.step hb_130
      refine then_n ?_
      replace S := S.sub (l' := [(4, .bool (decide (y_83 < y_89)))]) (by exact ⟨rfl, trivial⟩)
      refine wp_ret ?_
      refine blk_r ?_
      refine then_r ?_
      refine then_r ?_
      refine blk_r ?_
      refine then_r ?_
      refine then_r ?_
      obtain rfl := Option.some.inj hl_8
      obtain rfl := lr_inr h
      exact b_ret1 S rfl rfl ⟨_, rfl, RepV.mkBool, W.below⟩
     ·intro hc
      rw [if_neg (Bool.eq_false_iff.1 hc)] at hl_8
      refine wp_skip ?_
      refine blk_n ?_
      refine then_n ?_
      replace S := S.sub (l' := [(5, .int .i64 c_1), (0, v0), (1, v1)]) (by exact ⟨rfl, rfl, rfl, trivial⟩)
      refine wp_region_lit ?_
      refine wl_pure (l' := [(16, .int .i64 c_1), (5, .int .i64 c_1), (0, v0), (1, v1)]) S tys tys_ok 1 (by kernel_rfl) ?_
      clear S; intro a S
      obtain ⟨x_157, ex_157, hl_8⟩ := bindS hl_8
      refine w_go S rfl (op_arith S .i64 (c_1 + 1) rfl (.inl rfl) rfl rfl rfl rfl ex_157 ?_)
      clear S; intro a S
      refine wl_pure (l' := [(5, .int .i64 x_157), (17, .int .i64 x_157), (16, .int .i64 c_1), (5, .int .i64 c_1), (0, v0), (1, v1)]) S tys tys_ok 1 (by kernel_rfl) ?_
      clear S; intro a S
      refine wpList_nil ?_
      refine then_n ?_
      exact ⟨x_157, ⟨S.sub (by exact ⟨rfl, rfl, rfl, trivial⟩), W, (ckI_some ex_157).2.1, R0, R1, hl_8⟩⟩
    ·intro hc
     rw [if_neg (Bool.eq_false_iff.1 hc)] at hl_8
     refine wp_exit ?_
     refine then_x ?_
     refine then_x ?_
     refine blk_hit ?_
     refine then_n ?_
     obtain rfl := Option.some.inj hl_8
     exact ⟨_, rfl, ⟨S.sub (by exact ⟨rfl, rfl, trivial⟩), W, R0, R1⟩⟩
 clear S W; rintro a w_158 ⟨s_6, rfl, S, W, R0, R1⟩
 replace h := lr_inl h; try dsimp only at h
 refine then_n ?_
 refine wp_seq ?_
 refine wp_region_lit ?_
 refine wl_pure (l' := [(36, v0), (0, v0), (1, v1)]) S tys tys_ok 1 (by kernel_rfl) ?_
 clear S; intro a S
 refine w_go S rfl (op_len (K := _) S rfl ty35 rfl rfl rfl R0 ?_)
 clear S; intro a G_159 S
 refine wl_pureK (l' := [(38, v1), (37, .int .i64 (lenI x0))]) S tys tys_ok 1 [38, 37] (by kernel_rfl) ?_
 clear S; intro a S
 refine w_go S rfl (op_len (K := _) S rfl ty35 rfl rfl rfl R1 ?_)
 clear S; intro a G_160 S
 refine wl_pureK (l' := [(4, .bool (decide ((lenI x0) < (lenI x1))))]) S tys tys_ok 2 [4] (by kernel_rfl) ?_
 clear S; intro a S
 refine wpList_nil ?_
 refine then_n ?_
 refine wp_ret ?_
 obtain rfl := Option.some.inj h
 exact b_ret1 S rfl rfl ⟨_, rfl, RepV.mkBool, W.below⟩
theorem cb14 : callB Try.prog 14 = true := by kernel_rfl
def p22 (n : Nat) (x0 : Sl (Int)) (x1 : Sl (Int)) : Option ((Bool)) :=
 (p14 n x0 x1).bind fun t_1 =>
 (if (!t_1) = true then (p14 n x1 x0).bind fun t_7 => some (!t_7) else some false).bind fun q_6 =>
 some q_6
set_option maxHeartbeats 4000000 in
set_option maxRecDepth 100000 in
/-- plugboard/plugboardlaw32.equal -/
theorem c22 (K : Nat → Prop) (n : Nat) (w : World) (x0 : Sl (Int)) (v0 : Value) (R0 : RepV (.sl (.int .u8)) w K v0 x0) (x1 : Sl (Int)) (v1 : Value) (R1 : RepV (.sl (.int .u8)) w K v1 x1) {r : (Bool)} (h : p22 n x0 x1 = some r) :
  Calls Try.prog 22 #[v0, v1] w (Ret1 .bool w (Kx K w.heap.size []) r) := by
 refine enter (args := [v0, v1]) Try.func22 rfl 15 rfl rfl fun a S => ?_
 have W := Wd.start w
 replace R0 := R0.arg
 replace R1 := R1.arg
 unfold p22 at h
 replace S : St 15 a [(0, v0), (1, v1)] := S
 refine wp_seq ?_
 refine wp_region_lit ?_
 refine wl_pure (l' := [(4, .bool false), (0, v0), (1, v1)]) S tys tys_ok 1 (by kernel_rfl) ?_
 clear S; intro a S
 refine wpList_nil ?_
 refine then_n ?_
 replace S := S.sub (l' := [(0, v0), (1, v1)]) (by exact ⟨rfl, rfl, trivial⟩)
 refine wp_seq ?_
 refine wp_region_lit ?_
 refine wl_pure (l' := [(6, v1), (5, v0), (0, v0), (1, v1)]) S tys tys_ok 2 (by kernel_rfl) ?_
 clear S; intro a S
 obtain ⟨t_1, et_1, h⟩ := bindS h
 refine w_go S rfl (op_call (vs := [v0, v1]) S rfl cb14 rfl rfl rfl (c14 (Kx K w.heap.size []) n w x0 _ R0 x1 _ R1 et_1) ?_)
 rintro _ w_5 ⟨v_2, rfl, R_3, hb_4⟩; refine ⟨_, rfl, ?_⟩
 replace R_3 := RepV.back R_3 W
 clear S; intro a S
 replace R0 := R0.step hb_4
 replace R1 := R1.step hb_4
 replace W := W.step hb_4
 obtain rfl := RepV.bool R_3
 refine wl_pureK (l' := [(9, .bool (!t_1)), (0, v0), (1, v1)]) S tys tys_ok 2 [9, 0, 1] (by kernel_rfl) ?_
 clear S; intro a S
 obtain ⟨q_6, eq_6, h⟩ := bindS h
 refine seg 5 (fun a_ w_ => St 15 a_ [(14, .bool q_6)] ∧ Wd w w_ []) ?_ ?_
 ·by_cases hc : (!t_1) = true
  ·rw [if_pos hc] at eq_6; rw [hc] at S
   refine wl_pure (l' := [(11, v0), (10, v1), (9, .bool true), (0, v0), (1, v1)]) S tys tys_ok 2 (by kernel_rfl) ?_
   clear S; intro a S
   obtain ⟨t_7, et_7, eq_6⟩ := bindS eq_6
   refine w_go S rfl (op_call (vs := [v1, v0]) S rfl cb14 rfl rfl rfl (c14 (Kx K w.heap.size []) n w_5 x1 _ R1 x0 _ R0 et_7) ?_)
   rintro _ w_11 ⟨v_8, rfl, R_9, hb_10⟩; refine ⟨_, rfl, ?_⟩
   replace R_9 := RepV.back R_9 W
   clear S; intro a S
   replace R0 := R0.step hb_10
   replace R1 := R1.step hb_10
   replace W := W.step hb_10
   obtain rfl := RepV.bool R_9
   refine wl_pureK (l' := [(14, .bool (!t_7))]) S tys tys_ok 2 [14] (by kernel_rfl) ?_
   clear S; intro a S
   obtain rfl := Option.some.inj eq_6
   exact ⟨S.sub (by exact ⟨rfl, trivial⟩), W⟩
  ·rw [if_neg hc] at eq_6; rw [show (!t_1) = false from Bool.eq_false_iff.2 hc] at S
   refine wl_pureK (l' := [(14, .bool false)]) S tys tys_ok 5 [14] (by kernel_rfl) ?_
   clear S; intro a S
   obtain rfl := Option.some.inj eq_6
   exact ⟨S.sub (by exact ⟨rfl, trivial⟩), W⟩
 clear S W eq_6; rintro a w_12 ⟨S, W⟩
 refine wl_pure (l' := [(4, .bool q_6), (14, .bool q_6)]) S tys tys_ok 1 (by kernel_rfl) ?_
 clear S; intro a S
 refine wpList_nil ?_
 refine then_n ?_
 replace S := S.sub (l' := [(4, .bool q_6)]) (by exact ⟨rfl, trivial⟩)
 refine wp_ret ?_
 obtain rfl := Option.some.inj h
 exact b_ret1 S rfl rfl ⟨_, rfl, RepV.mkBool, W.below⟩
theorem cb22 : callB Try.prog 22 = true := by kernel_rfl
def p31_l1 (n : Nat) (x0 : Sl ((Sl (Int)) × Bool × Bool × Bool × Int)) (x1 : Sl (Int)) : Nat → (Int) → (List ((Sl (Int)) × Bool × Bool × Bool × Int)) → (List ((Sl (Int)) × Bool)) → Option ((List ((Sl (Int)) × Bool)) × (List ((Sl (Int)) × Bool × Bool × Bool × Int)))
 | 0, _, _, _ => .none
 | m + 1, c_2, c_4, c_7 => if (decide (c_2 < (lenI (⟨x0.xs, x0.cap⟩ : Sl ((Sl (Int)) × Bool × Bool × Bool × Int))))) then ((idx c_4 c_2).bind fun y_27 => (if y_27.2.2.2.1 = true then (p36 n y_27.1 x1).bind fun t_44 => (if t_44 = false then (p37 n x1 y_27.1).bind fun t_52 => some t_52 else some true).bind fun q_49 => some q_49 else some false).bind fun q_41 => (if q_41 then ((idx c_4 c_2).bind fun y_64 => (p26 n y_27.1).bind fun t_74 => (appI c_7 ([(t_74, true)])).bind fun l_85 => some ((c_4.set c_2.toNat (y_64.1, y_64.2.1, y_64.2.2.1, false, y_64.2.2.2.2)), l_85)) else some (c_4, c_7)).bind fun (j_59 : (List ((Sl (Int)) × Bool × Bool × Bool × Int)) × (List ((Sl (Int)) × Bool))) => (ckI .i64 (c_2 + 1)).bind fun x_91 => p31_l1 n x0 x1 m x_91 j_59.1 j_59.2) else some (c_7, c_4)
def p31 (n : Nat) (x0 : Sl ((Sl (Int)) × Bool × Bool × Bool × Int)) (x1 : Sl (Int)) : Option ((Sl ((Sl (Int)) × Bool)) × (List ((Sl (Int)) × Bool × Bool × Bool × Int))) :=
 (p31_l1 n x0 x1 n 0 x0.xs []).bind fun (y_18 : (List ((Sl (Int)) × Bool)) × (List ((Sl (Int)) × Bool × Bool × Bool × Int))) =>
 (sl3I (⟨y_18.1, .none⟩ : Sl ((Sl (Int)) × Bool)) 0 (lenI (⟨y_18.1, .none⟩ : Sl ((Sl (Int)) × Bool))) (lenI (⟨y_18.1, .none⟩ : Sl ((Sl (Int)) × Bool)))).bind fun s_98 =>
 some (s_98, y_18.2)
set_option maxHeartbeats 4000000 in
set_option maxRecDepth 100000 in
/-- (plugboard/suspends.List).wake -/
theorem c31 (K : Nat → Prop) (n : Nat) (w wA : World) (LO : List (Option Nat)) (x0 : Sl ((Sl (Int)) × Bool × Bool × Bool × Int)) (v0 : Value) (O0 : Ow gt2 37 wA w.heap.size (Kx K w.heap.size (v0.ownBlock :: LO)) v0 x0.xs x0.cap) (x1 : Sl (Int)) (v1 : Value) (R1 : RepV (.sl (.int .u8)) wA (Kx K w.heap.size (v0.ownBlock :: LO)) v1 x1) (W : Wd w wA (v0.ownBlock :: LO)) {r : (Sl ((Sl (Int)) × Bool)) × (List ((Sl (Int)) × Bool × Bool × Bool × Int))} (h : p31 n x0 x1 = some r) :
  Calls Try.prog 31 #[v0, v1] wA (fun e_ w_ => ∃ v0_ : Value, e_ = .returned v0_ ∧ RepV (.sl gt0) w_ (Kx K w.heap.size (v0.ownBlock :: LO)) v0_ r.1 ∧ Ow gt2 37 w_ w.heap.size (Kx K w.heap.size (v0.ownBlock :: LO)) v0 r.2 x0.cap ∧ Yst w.heap.size wA [v0.ownBlock] w_ [v0.ownBlock]) := by
 refine enter (args := [v0, v1]) Try.func31 rfl 47 rfl rfl fun a S => ?_
 have RD := Rnd.start wA [v0.ownBlock]
 unfold p31 at h
 replace S : St 47 a [(0, v0), (1, v1)] := S
 refine wp_seq ?_
 refine wp_region_lit ?_
 refine wl_pure (l' := [(4, .slice .none 0 0), (0, v0), (1, v1)]) S tys tys_ok 1 (by kernel_rfl) ?_
 clear S; intro a S
 refine wpList_nil ?_
 refine then_n ?_
 replace S := S.sub (l' := [(0, v0), (1, v1)]) (by exact ⟨rfl, rfl, trivial⟩)
 refine wp_seq ?_
 refine wp_region_lit ?_
 refine wl_pure (l' := [(5, .slice .none 0 0), (0, v0), (1, v1)]) S tys tys_ok 1 (by kernel_rfl) ?_
 clear S; intro a S
 refine wpList_nil ?_
 refine then_n ?_
 refine wp_seq ?_
 refine wp_seq ?_
 refine wp_region_lit ?_
 refine wl_pure (l' := [(8, v0), (5, .slice .none 0 0), (0, v0), (1, v1)]) S tys tys_ok 1 (by kernel_rfl) ?_
 clear S; intro a S
 refine w_go S rfl (op_len (K := _) S rfl ty25 rfl rfl rfl O0.read ?_)
 clear S; intro a G_1 S
 refine wl_pure (l' := [(10, .int .i64 0), (9, .int .i64 (lenI (⟨x0.xs, x0.cap⟩ : Sl ((Sl (Int)) × Bool × Bool × Bool × Int)))), (8, v0), (5, .slice .none 0 0), (0, v0), (1, v1)]) S tys tys_ok 1 (by kernel_rfl) ?_
 clear S; intro a S
 refine wpList_nil ?_
 refine then_n ?_
 obtain ⟨y_18, ey_18, h⟩ := bindS h
 refine wp_cut_ (fun a_ w_ => ∃ (v_19 : Value), St 47 a_ [(5, v_19)] ∧ Wd w w_ (v_19.ownBlock :: v0.ownBlock :: LO) ∧ Ow gt0 39 w_ w.heap.size (Kx K w.heap.size (v_19.ownBlock :: v0.ownBlock :: LO)) v_19 y_18.1 .none ∧ Ow gt2 37 w_ w.heap.size (Kx K w.heap.size (v_19.ownBlock :: v0.ownBlock :: LO)) v0 y_18.2 x0.cap ∧ Rnd wA [v0.ownBlock] w_ [v_19.ownBlock, v0.ownBlock]) ?_ ?_
 ·refine wp_block ?_
  refine wp_loop_n (fun m_ a_ w_ => ∃ (c_2 : Int) (c_4 : List ((Sl (Int)) × Bool × Bool × Bool × Int)) (c_7 : List ((Sl (Int)) × Bool)) , ∃ (v_8 : Value), St 47 a_ [(10, .int .i64 c_2), (9, .int .i64 (lenI (⟨x0.xs, x0.cap⟩ : Sl ((Sl (Int)) × Bool × Bool × Bool × Int)))), (8, v0), (5, v_8), (0, v0), (1, v1)] ∧ Wd w w_ (v_8.ownBlock :: v0.ownBlock :: LO) ∧ InR .i64 c_2 ∧ RepV (.sl (.int .u8)) w_ (Kx K w.heap.size (v_8.ownBlock :: v0.ownBlock :: LO)) v1 x1 ∧ Ow gt2 37 w_ w.heap.size (Kx K w.heap.size (v_8.ownBlock :: v0.ownBlock :: LO)) v0 c_4 x0.cap ∧ Ow gt0 39 w_ w.heap.size (Kx K w.heap.size (v_8.ownBlock :: v0.ownBlock :: LO)) v_8 c_7 .none ∧ Rnd wA [v0.ownBlock] w_ [v_8.ownBlock, v0.ownBlock] ∧ p31_l1 n x0 x1 m_ c_2 c_4 c_7 = some y_18) n ?_ ?_
  ·skip
   replace R1 := R1.more
   replace O0 := O0.more
   replace RD := RD.more
   replace W := W.more
   have O_25 : Ow gt0 39 wA w.heap.size (Kx K w.heap.size (.none :: v0.ownBlock :: LO)) (.slice .none 0 0) ([] : List ((Sl (Int)) × Bool)) (some 0) := Ow.nil
   exact ⟨0, x0.xs, [], ⟨(.slice .none 0 0), S.sub (by exact ⟨rfl, rfl, rfl, rfl, rfl, rfl, trivial⟩), W, (by decide), R1, O0, O_25.forget, RD, ey_18⟩⟩
  ·clear S W; rintro m_23 a w_26 ⟨c_2, c_4, c_7, v_8, S, W, G_3, R1, O_6, O_9, RD, hl_24⟩
   cases m_23 with
   | zero => exact absurd hl_24 (by simp [p31_l1])
   | succ m_23 =>
    refine ⟨m_23, rfl, ?_⟩
    rw [p31_l1] at hl_24
    refine wp_seq ?_
    refine wp_region_lit ?_
    refine wl_pure (l' := [(11, .bool (decide (c_2 < (lenI (⟨x0.xs, x0.cap⟩ : Sl ((Sl (Int)) × Bool × Bool × Bool × Int)))))), (10, .int .i64 c_2), (9, .int .i64 (lenI (⟨x0.xs, x0.cap⟩ : Sl ((Sl (Int)) × Bool × Bool × Bool × Int)))), (8, v0), (5, v_8), (0, v0), (1, v1)]) S tys tys_ok 1 (by kernel_rfl) ?_
    clear S; intro a S
    refine wpList_nil ?_
    refine then_n ?_
    refine wp_seq ?_
    refine wp_cond_split (S.eval (show ev _ _ = some (.bool (decide (c_2 < (lenI (⟨x0.xs, x0.cap⟩ : Sl ((Sl (Int)) × Bool × Bool × Bool × Int)))))) from rfl)) ?_ ?_
    ·intro hc
     rw [if_pos hc] at hl_24
     refine wp_skip ?_
     refine then_n ?_
     replace S := S.sub (l' := [(10, .int .i64 c_2), (9, .int .i64 (lenI (⟨x0.xs, x0.cap⟩ : Sl ((Sl (Int)) × Bool × Bool × Bool × Int)))), (8, v0), (5, v_8), (0, v0), (1, v1)]) (by exact ⟨rfl, rfl, rfl, rfl, rfl, rfl, trivial⟩)
     refine wp_seq ?_
     refine wp_block ?_
     refine wp_seq ?_
     refine wp_region_lit ?_
     refine wl_pure (l' := [(12, .int .i64 c_2), (10, .int .i64 c_2), (9, .int .i64 (lenI (⟨x0.xs, x0.cap⟩ : Sl ((Sl (Int)) × Bool × Bool × Bool × Int)))), (8, v0), (5, v_8), (0, v0), (1, v1)]) S tys tys_ok 1 (by kernel_rfl) ?_
     clear S; intro a S
     obtain ⟨y_27, ey_27, hl_24⟩ := bindS hl_24
     refine w_go S rfl (op_indexAddr_own S rfl ty25 rfl rfl rfl O_6 rfl ey_27 ?_)
     clear S; intro a g_28 H_30 R_29 S
     refine w_go S rfl (op_load (t := gt2) (x := y_27) S rfl ty37 rfl rfl rfl R_29 ?_)
     clear S; intro a v_31 R_32 S
     refine w_go S rfl (op_alloc (K := K) (n := w.heap.size) (L := (v_8.ownBlock :: v0.ownBlock :: LO)) (t := gt2) (y := (⟨[], some 0⟩, false, false, false, 0)) S rfl rfl rfl _ z37 (fun w K => ⟨[.slice .none 0 0], [.bool false, .bool false, .bool false, .int .i64 0], rfl, ⟨.none, 0, 0, rfl, rfl, Nat.le_refl _, by decide, fun k h => Option.some.inj h, .inl rfl⟩, ⟨[.bool false], [.bool false, .bool false, .int .i64 0], rfl, rfl, ⟨[.bool false], [.bool false, .int .i64 0], rfl, rfl, ⟨[.bool false], [.int .i64 0], rfl, rfl, ⟨rfl, by decide⟩⟩⟩⟩⟩) ?_)
     clear S; intro a w_35 b_33 hb_36 B_34 S
     replace R1 := R1.box hb_36
     replace R_32 := R_32.box hb_36
     replace O_6 := O_6.box hb_36
     replace O_9 := O_9.box hb_36
     replace RD := RD.box hb_36
     replace W := W.box hb_36
     refine wl_pure (l' := [(6, .int .i64 c_2), (7, pB b_33), (14, v_31), (13, .pointer (some (⟨g_28, c_2.toNat * GT.sz gt2, .none⟩ : Addr))), (12, .int .i64 c_2), (10, .int .i64 c_2), (9, .int .i64 (lenI (⟨x0.xs, x0.cap⟩ : Sl ((Sl (Int)) × Bool × Bool × Bool × Int)))), (8, v0), (5, v_8), (0, v0), (1, v1)]) S tys tys_ok 1 (by kernel_rfl) ?_
     clear S; intro a S
     refine w_go S rfl (op_store (t' := gt2) S rfl rfl ty37 rfl rfl rfl B_34 (by simp) Ln.whole R_32 ?_)
     intro w_37 hw_38 B_
     replace R1 := R1.wrote hw_38 (by simp)
     replace R_32 := R_32.wrote hw_38 (by simp)
     replace O_6 := O_6.wrote hw_38 (by simp) (W.one (p := 2) (q := 0) (by decide) rfl rfl)
     replace O_9 := O_9.wrote hw_38 (by simp) (W.one (p := 1) (q := 0) (by decide) rfl rfl)
     replace RD := RD.wrote hw_38 (by simp)
     replace W := W.wrote hw_38 (by simp)
     replace B_34 : Bx gt2 37 w_37 (Kx K w.heap.size (some b_33 :: v_8.ownBlock :: v0.ownBlock :: LO)) b_33 y_27 := B_; clear B_
     refine wpList_nil ?_
     refine then_n ?_
     replace S := S.sub (l' := [(6, .int .i64 c_2), (7, pB b_33), (10, .int .i64 c_2), (9, .int .i64 (lenI (⟨x0.xs, x0.cap⟩ : Sl ((Sl (Int)) × Bool × Bool × Bool × Int)))), (8, v0), (5, v_8), (0, v0), (1, v1)]) (by exact ⟨rfl, rfl, rfl, rfl, rfl, rfl, rfl, rfl, trivial⟩)
     refine wp_seq ?_
     refine wp_region_lit ?_
     refine wl_pure (l' := [(15, .pointer (some ((⟨b_33, 0, .none⟩ : Addr).add (coff gf2 3)))), (6, .int .i64 c_2), (7, pB b_33), (10, .int .i64 c_2), (9, .int .i64 (lenI (⟨x0.xs, x0.cap⟩ : Sl ((Sl (Int)) × Bool × Bool × Bool × Int)))), (8, v0), (5, v_8), (0, v0), (1, v1)]) S tys tys_ok 1 (by kernel_rfl) ?_
     clear S; intro a S
     refine w_go S rfl (op_load (t := .bool) (x := y_27.2.2.2.1) S rfl ty4 rfl rfl rfl (RepAt.add 3 (RepAt.st (t := gf2) B_34.at_)) ?_)
     clear S; intro a v_39 R_40 S
     obtain rfl := RepV.bool R_40
     refine wl_pure (l' := [(17, .bool y_27.2.2.2.1), (16, .bool y_27.2.2.2.1), (15, .pointer (some ((⟨b_33, 0, .none⟩ : Addr).add (coff gf2 3)))), (6, .int .i64 c_2), (7, pB b_33), (10, .int .i64 c_2), (9, .int .i64 (lenI (⟨x0.xs, x0.cap⟩ : Sl ((Sl (Int)) × Bool × Bool × Bool × Int)))), (8, v0), (5, v_8), (0, v0), (1, v1)]) S tys tys_ok 1 (by kernel_rfl) ?_
     clear S; intro a S
     obtain ⟨q_41, eq_41, hl_24⟩ := bindS hl_24
     refine seg 11 (fun a_ w_ => St 47 a_ [(28, .bool q_41), (6, .int .i64 c_2), (7, pB b_33), (10, .int .i64 c_2), (9, .int .i64 (lenI (⟨x0.xs, x0.cap⟩ : Sl ((Sl (Int)) × Bool × Bool × Bool × Int)))), (8, v0), (5, v_8), (0, v0), (1, v1)] ∧ Wd w w_ (some b_33 :: v_8.ownBlock :: v0.ownBlock :: LO) ∧ RepV (.sl (.int .u8)) w_ (Kx K w.heap.size (some b_33 :: v_8.ownBlock :: v0.ownBlock :: LO)) v1 x1 ∧ Bx gt2 37 w_ (Kx K w.heap.size (some b_33 :: v_8.ownBlock :: v0.ownBlock :: LO)) b_33 y_27 ∧ Ow gt2 37 w_ w.heap.size (Kx K w.heap.size (some b_33 :: v_8.ownBlock :: v0.ownBlock :: LO)) v0 c_4 x0.cap ∧ Ow gt0 39 w_ w.heap.size (Kx K w.heap.size (some b_33 :: v_8.ownBlock :: v0.ownBlock :: LO)) v_8 c_7 .none ∧ Rnd wA [v0.ownBlock] w_ [some b_33, v_8.ownBlock, v0.ownBlock]) ?_ ?_
     ·by_cases hc : y_27.2.2.2.1 = true
      ·rw [if_pos hc] at eq_41; rw [hc] at S
       refine wl_pure (l' := [(18, .pointer (some ((⟨b_33, 0, .none⟩ : Addr).add (coff gf2 0)))), (17, .bool true), (16, .bool true), (15, .pointer (some ((⟨b_33, 0, .none⟩ : Addr).add (coff gf2 3)))), (6, .int .i64 c_2), (7, pB b_33), (10, .int .i64 c_2), (9, .int .i64 (lenI (⟨x0.xs, x0.cap⟩ : Sl ((Sl (Int)) × Bool × Bool × Bool × Int)))), (8, v0), (5, v_8), (0, v0), (1, v1)]) S tys tys_ok 1 (by kernel_rfl) ?_
       clear S; intro a S
       refine w_go S rfl (op_load (t := (.sl (.int .u8))) (x := y_27.1) S rfl ty35 rfl rfl rfl (RepAt.add 0 (RepAt.st (t := gf2) B_34.at_)) ?_)
       clear S; intro a v_42 R_43 S
       refine wl_pure (l' := [(20, v1), (19, v_42), (18, .pointer (some ((⟨b_33, 0, .none⟩ : Addr).add (coff gf2 0)))), (17, .bool true), (16, .bool true), (15, .pointer (some ((⟨b_33, 0, .none⟩ : Addr).add (coff gf2 3)))), (6, .int .i64 c_2), (7, pB b_33), (10, .int .i64 c_2), (9, .int .i64 (lenI (⟨x0.xs, x0.cap⟩ : Sl ((Sl (Int)) × Bool × Bool × Bool × Int)))), (8, v0), (5, v_8), (0, v0), (1, v1)]) S tys tys_ok 1 (by kernel_rfl) ?_
       clear S; intro a S
       obtain ⟨t_44, et_44, eq_41⟩ := bindS eq_41
       refine w_go S rfl (op_call (vs := [v_42, v1]) S rfl cb36 rfl rfl rfl (c36 (Kx K w.heap.size (some b_33 :: v_8.ownBlock :: v0.ownBlock :: LO)) n w_37 y_27.1 _ R_43 x1 _ R1 et_44) ?_)
       rintro _ w_48 ⟨v_45, rfl, R_46, hb_47⟩; refine ⟨_, rfl, ?_⟩
       replace R_46 := RepV.back R_46 W
       clear S; intro a S
       replace R1 := R1.step hb_47
       replace R_43 := R_43.step hb_47
       replace B_34 := B_34.step hb_47
       replace O_6 := O_6.step hb_47
       replace O_9 := O_9.step hb_47
       replace RD := RD.step hb_47
       replace W := W.step hb_47
       obtain rfl := RepV.bool R_46
       refine wl_pure (l' := [(22, .bool t_44), (21, .bool t_44), (20, v1), (19, v_42), (18, .pointer (some ((⟨b_33, 0, .none⟩ : Addr).add (coff gf2 0)))), (17, .bool true), (16, .bool true), (15, .pointer (some ((⟨b_33, 0, .none⟩ : Addr).add (coff gf2 3)))), (6, .int .i64 c_2), (7, pB b_33), (10, .int .i64 c_2), (9, .int .i64 (lenI (⟨x0.xs, x0.cap⟩ : Sl ((Sl (Int)) × Bool × Bool × Bool × Int)))), (8, v0), (5, v_8), (0, v0), (1, v1)]) S tys tys_ok 1 (by kernel_rfl) ?_
       clear S; intro a S
       obtain ⟨q_49, eq_49, eq_41⟩ := bindS eq_41
       refine seg 5 (fun a_ w_ => St 47 a_ [(27, .bool q_49), (22, .bool t_44), (21, .bool t_44), (20, v1), (19, v_42), (18, .pointer (some ((⟨b_33, 0, .none⟩ : Addr).add (coff gf2 0)))), (17, .bool true), (6, .int .i64 c_2), (7, pB b_33), (10, .int .i64 c_2), (9, .int .i64 (lenI (⟨x0.xs, x0.cap⟩ : Sl ((Sl (Int)) × Bool × Bool × Bool × Int)))), (8, v0), (5, v_8), (0, v0), (1, v1)] ∧ Wd w w_ (some b_33 :: v_8.ownBlock :: v0.ownBlock :: LO) ∧ RepV (.sl (.int .u8)) w_ (Kx K w.heap.size (some b_33 :: v_8.ownBlock :: v0.ownBlock :: LO)) v1 x1 ∧ RepV (.sl (.int .u8)) w_ (Kx K w.heap.size (some b_33 :: v_8.ownBlock :: v0.ownBlock :: LO)) v_42 y_27.1 ∧ Bx gt2 37 w_ (Kx K w.heap.size (some b_33 :: v_8.ownBlock :: v0.ownBlock :: LO)) b_33 y_27 ∧ Ow gt2 37 w_ w.heap.size (Kx K w.heap.size (some b_33 :: v_8.ownBlock :: v0.ownBlock :: LO)) v0 c_4 x0.cap ∧ Ow gt0 39 w_ w.heap.size (Kx K w.heap.size (some b_33 :: v_8.ownBlock :: v0.ownBlock :: LO)) v_8 c_7 .none ∧ Rnd wA [v0.ownBlock] w_ [some b_33, v_8.ownBlock, v0.ownBlock]) ?_ ?_
       ·by_cases hc : t_44 = false
        ·rw [if_pos hc] at eq_49; rw [hc] at S
         refine wl_pure (l' := [(24, .pointer (some ((⟨b_33, 0, .none⟩ : Addr).add (coff gf2 0)))), (23, v1), (22, .bool false), (21, .bool false), (20, v1), (19, v_42), (18, .pointer (some ((⟨b_33, 0, .none⟩ : Addr).add (coff gf2 0)))), (17, .bool true), (16, .bool true), (15, .pointer (some ((⟨b_33, 0, .none⟩ : Addr).add (coff gf2 3)))), (6, .int .i64 c_2), (7, pB b_33), (10, .int .i64 c_2), (9, .int .i64 (lenI (⟨x0.xs, x0.cap⟩ : Sl ((Sl (Int)) × Bool × Bool × Bool × Int)))), (8, v0), (5, v_8), (0, v0), (1, v1)]) S tys tys_ok 2 (by kernel_rfl) ?_
         clear S; intro a S
         refine w_go S rfl (op_load (t := (.sl (.int .u8))) (x := y_27.1) S rfl ty35 rfl rfl rfl (RepAt.add 0 (RepAt.st (t := gf2) B_34.at_)) ?_)
         clear S; intro a v_50 R_51 S
         obtain ⟨t_52, et_52, eq_49⟩ := bindS eq_49
         refine w_go S rfl (op_call (vs := [v1, v_50]) S rfl cb37 rfl rfl rfl (c37 (Kx K w.heap.size (some b_33 :: v_8.ownBlock :: v0.ownBlock :: LO)) n w_48 x1 _ R1 y_27.1 _ R_51 et_52) ?_)
         rintro _ w_56 ⟨v_53, rfl, R_54, hb_55⟩; refine ⟨_, rfl, ?_⟩
         replace R_54 := RepV.back R_54 W
         clear S; intro a S
         replace R1 := R1.step hb_55
         replace R_43 := R_43.step hb_55
         replace R_51 := R_51.step hb_55
         replace B_34 := B_34.step hb_55
         replace O_6 := O_6.step hb_55
         replace O_9 := O_9.step hb_55
         replace RD := RD.step hb_55
         replace W := W.step hb_55
         obtain rfl := RepV.bool R_54
         refine wl_pure (l' := [(27, .bool t_52), (26, .bool t_52), (25, v_50), (24, .pointer (some ((⟨b_33, 0, .none⟩ : Addr).add (coff gf2 0)))), (23, v1), (22, .bool false), (21, .bool false), (20, v1), (19, v_42), (18, .pointer (some ((⟨b_33, 0, .none⟩ : Addr).add (coff gf2 0)))), (17, .bool true), (16, .bool true), (15, .pointer (some ((⟨b_33, 0, .none⟩ : Addr).add (coff gf2 3)))), (6, .int .i64 c_2), (7, pB b_33), (10, .int .i64 c_2), (9, .int .i64 (lenI (⟨x0.xs, x0.cap⟩ : Sl ((Sl (Int)) × Bool × Bool × Bool × Int)))), (8, v0), (5, v_8), (0, v0), (1, v1)]) S tys tys_ok 1 (by kernel_rfl) ?_
         clear S; intro a S
         obtain rfl := Option.some.inj eq_49
         exact ⟨S.sub (by exact ⟨rfl, (by rw [show t_44 = false from hc]; rfl), (by rw [show t_44 = false from hc]; rfl), rfl, rfl, rfl, rfl, rfl, rfl, rfl, rfl, rfl, rfl, rfl, rfl, trivial⟩), W, R1, R_43, B_34, O_6, O_9, RD⟩
        ·rw [if_neg hc] at eq_49; rw [show t_44 = true from (by simpa using hc)] at S
         refine wl_pure (l' := [(27, .bool true), (26, undef), (25, undef), (24, undef), (23, undef), (22, .bool true), (21, .bool true), (20, v1), (19, v_42), (18, .pointer (some ((⟨b_33, 0, .none⟩ : Addr).add (coff gf2 0)))), (17, .bool true), (16, .bool true), (15, .pointer (some ((⟨b_33, 0, .none⟩ : Addr).add (coff gf2 3)))), (6, .int .i64 c_2), (7, pB b_33), (10, .int .i64 c_2), (9, .int .i64 (lenI (⟨x0.xs, x0.cap⟩ : Sl ((Sl (Int)) × Bool × Bool × Bool × Int)))), (8, v0), (5, v_8), (0, v0), (1, v1)]) S tys tys_ok 5 (by kernel_rfl) ?_
         clear S; intro a S
         obtain rfl := Option.some.inj eq_49
         exact ⟨S.sub (by exact ⟨rfl, (by rw [show t_44 = true from (by simpa using hc)]; rfl), (by rw [show t_44 = true from (by simpa using hc)]; rfl), rfl, rfl, rfl, rfl, rfl, rfl, rfl, rfl, rfl, rfl, rfl, rfl, trivial⟩), W, R1, R_43, B_34, O_6, O_9, RD⟩
       clear S W eq_49; rintro a w_57 ⟨S, W, R1, R_43, B_34, O_6, O_9, RD⟩
       refine wl_pure (l' := [(28, .bool q_49), (27, .bool q_49), (22, .bool t_44), (21, .bool t_44), (20, v1), (19, v_42), (18, .pointer (some ((⟨b_33, 0, .none⟩ : Addr).add (coff gf2 0)))), (17, .bool true), (6, .int .i64 c_2), (7, pB b_33), (10, .int .i64 c_2), (9, .int .i64 (lenI (⟨x0.xs, x0.cap⟩ : Sl ((Sl (Int)) × Bool × Bool × Bool × Int)))), (8, v0), (5, v_8), (0, v0), (1, v1)]) S tys tys_ok 1 (by kernel_rfl) ?_
       clear S; intro a S
       obtain rfl := Option.some.inj eq_41
       exact ⟨S.sub (by exact ⟨rfl, rfl, rfl, rfl, rfl, rfl, rfl, rfl, rfl, trivial⟩), W, R1, B_34, O_6, O_9, RD⟩
      ·rw [if_neg hc] at eq_41; rw [show y_27.2.2.2.1 = false from Bool.eq_false_iff.2 hc] at S
       refine wl_pureK (l' := [(28, .bool false), (27, undef), (26, undef), (25, undef), (24, undef), (23, undef), (22, undef), (21, undef), (20, undef), (19, undef), (18, undef), (6, .int .i64 c_2), (7, pB b_33), (10, .int .i64 c_2), (9, .int .i64 (lenI (⟨x0.xs, x0.cap⟩ : Sl ((Sl (Int)) × Bool × Bool × Bool × Int)))), (8, v0), (5, v_8), (0, v0), (1, v1)]) S tys tys_ok 11 [28, 27, 26, 25, 24, 23, 22, 21, 20, 19, 18, 6, 7, 10, 9, 8, 5, 0, 1] (by kernel_rfl) ?_
       clear S; intro a S
       obtain rfl := Option.some.inj eq_41
       exact ⟨S.sub (by exact ⟨rfl, rfl, rfl, rfl, rfl, rfl, rfl, rfl, rfl, trivial⟩), W, R1, B_34, O_6, O_9, RD⟩
     clear S W eq_41; rintro a w_58 ⟨S, W, R1, B_34, O_6, O_9, RD⟩
     refine wpList_nil ?_
     refine then_n ?_
     obtain ⟨j_59, ej_59, hl_24⟩ := bindS hl_24
     refine wp_cut_ (fun a_ w_ => ∃ (v_62 : Value), St 47 a_ [(10, .int .i64 c_2), (9, .int .i64 (lenI (⟨x0.xs, x0.cap⟩ : Sl ((Sl (Int)) × Bool × Bool × Bool × Int)))), (8, v0), (5, v_62), (0, v0), (1, v1)] ∧ Wd w w_ (some b_33 :: v_62.ownBlock :: v0.ownBlock :: LO) ∧ RepV (.sl (.int .u8)) w_ (Kx K w.heap.size (some b_33 :: v_62.ownBlock :: v0.ownBlock :: LO)) v1 x1 ∧ Bx gt2 37 w_ (Kx K w.heap.size (some b_33 :: v_62.ownBlock :: v0.ownBlock :: LO)) b_33 y_27 ∧ Ow gt2 37 w_ w.heap.size (Kx K w.heap.size (some b_33 :: v_62.ownBlock :: v0.ownBlock :: LO)) v0 j_59.1 x0.cap ∧ Ow gt0 39 w_ w.heap.size (Kx K w.heap.size (some b_33 :: v_62.ownBlock :: v0.ownBlock :: LO)) v_62 j_59.2 .none ∧ Rnd wA [v0.ownBlock] w_ [some b_33, v_62.ownBlock, v0.ownBlock]) ?_ ?_
     ·refine wp_cond_split (S.eval (show ev _ _ = some (.bool q_41) from rfl)) ?_ ?_
      ·intro hc
       rw [if_pos hc] at ej_59
       refine wp_seq ?_
       refine wp_region_lit ?_
       refine wl_pure (l' := [(30, .int .i64 c_2), (29, v0), (28, .bool q_41), (6, .int .i64 c_2), (7, pB b_33), (10, .int .i64 c_2), (9, .int .i64 (lenI (⟨x0.xs, x0.cap⟩ : Sl ((Sl (Int)) × Bool × Bool × Bool × Int)))), (8, v0), (5, v_8), (0, v0), (1, v1)]) S tys tys_ok 2 (by kernel_rfl) ?_
       clear S; intro a S
       obtain ⟨y_64, ey_64, ej_59⟩ := bindS ej_59
       refine w_go S rfl (op_indexAddr_own S rfl ty25 rfl rfl rfl O_6 rfl ey_64 ?_)
       clear S; intro a g_65 H_67 R_66 S
       refine wl_pureK (l' := [(32, .pointer (some ((⟨g_65, c_2.toNat * GT.sz gt2, .none⟩ : Addr).add (coff gf2 3)))), (7, pB b_33), (10, .int .i64 c_2), (9, .int .i64 (lenI (⟨x0.xs, x0.cap⟩ : Sl ((Sl (Int)) × Bool × Bool × Bool × Int)))), (8, v0), (5, v_8), (0, v0), (1, v1)]) S tys tys_ok 1 [32, 7, 10, 9, 8, 5, 0, 1] (by kernel_rfl) ?_
       clear S; intro a S
       refine w_go S rfl (op_store_own (t' := .bool) S rfl rfl ty4 rfl (addr_add _ _ _) rfl O_6 H_67 2 rfl (idx_some ey_64).2.1 (Ln.st (Ln.comp 3)) (RepV.mkBool : RepV .bool w_58 (Kx K w.heap.size (some b_33 :: v_8.ownBlock :: v0.ownBlock :: LO)) _ false) ?_)
       intro w_68 hw_69 hm_71 O_70
       replace R1 := R1.wrote hw_69 hm_71
       replace B_34 := B_34.wrote hw_69 hm_71 (by have h_ := W.one (p := 2) (q := 0) (by decide) rfl rfl; exact fun e_ => h_ (by rw [e_]; exact H_67))
       replace O_9 := O_9.wrote hw_69 hm_71 (fun e_ => (W.neq (p := 2) (q := 1) (by decide) rfl rfl).elim (fun h_ => absurd (Eq.trans (Eq.symm h_) H_67) (fun k_ => nomatch k_)) (fun h_ => h_ (Eq.trans H_67 e_.symm)))
       replace RD := RD.wrote hw_69 (by rw [← H_67]; exact List.mem_of_getElem? (i := 2) rfl)
       replace W := W.wrote hw_69 hm_71
       replace O_70 : Ow gt2 37 w_68 w.heap.size (Kx K w.heap.size (some b_33 :: v_8.ownBlock :: v0.ownBlock :: LO)) v0 (c_4.set c_2.toNat (y_64.1, y_64.2.1, y_64.2.2.1, false, y_64.2.2.2.2)) x0.cap := O_70
       refine wpList_nil ?_
       refine then_n ?_
       refine wp_region_lit ?_
       refine wl_pure (l' := [(34, .pointer (some ((⟨b_33, 0, .none⟩ : Addr).add (coff gf2 0)))), (33, v_8), (32, .pointer (some ((⟨g_65, c_2.toNat * GT.sz gt2, .none⟩ : Addr).add (coff gf2 3)))), (7, pB b_33), (10, .int .i64 c_2), (9, .int .i64 (lenI (⟨x0.xs, x0.cap⟩ : Sl ((Sl (Int)) × Bool × Bool × Bool × Int)))), (8, v0), (5, v_8), (0, v0), (1, v1)]) S tys tys_ok 2 (by kernel_rfl) ?_
       clear S; intro a S
       refine w_go S rfl (op_load (t := (.sl (.int .u8))) (x := y_27.1) S rfl ty35 rfl rfl rfl (RepAt.add 0 (RepAt.st (t := gf2) B_34.at_)) ?_)
       clear S; intro a v_72 R_73 S
       obtain ⟨t_74, et_74, ej_59⟩ := bindS ej_59
       refine w_go S rfl (op_call (vs := [v_72]) S rfl cb26 rfl rfl rfl (c26 (Kx K w.heap.size (some b_33 :: v_8.ownBlock :: v0.ownBlock :: LO)) n w_68 y_27.1 _ R_73 et_74) ?_)
       rintro _ w_78 ⟨v_75, rfl, R_76, hb_77⟩; refine ⟨_, rfl, ?_⟩
       replace R_76 := RepV.back R_76 W
       clear S; intro a S
       replace R1 := R1.step hb_77
       replace R_73 := R_73.step hb_77
       replace B_34 := B_34.step hb_77
       replace O_70 := O_70.step hb_77
       replace O_9 := O_9.step hb_77
       replace RD := RD.step hb_77
       replace W := W.step hb_77
       refine w_go S rfl (op_build (K := (Kx K w.heap.size (some b_33 :: v_8.ownBlock :: v0.ownBlock :: LO))) (f := gf0) (z0 := (⟨[], some 0⟩, false)) (x := (t_74, true)) (vs := [v_75, .bool true]) S _ rfl ty39 z39 (fun w K => ⟨[.slice .none 0 0], [.bool false], rfl, ⟨.none, 0, 0, rfl, rfl, Nat.le_refl _, by decide, fun k h => Option.some.inj h, .inl rfl⟩, rfl⟩) rfl rfl rfl [(0, v_75), (1, .bool true)] rfl ⟨_, R_76, rfl, rfl, ⟨_, RepV.mkBool, rfl, rfl, rfl⟩⟩ ?_)
       clear S; intro a v_79 R_80 S
       refine w_go S rfl (op_buildSlice (K := K) (e := gt0) (vs := [v_79]) (xs := [(t_74, true)]) S W rfl ty26 rfl rfl (by kernel_rfl) rfl rfl rfl rfl rfl ⟨R_80, trivial⟩ ?_)
       clear S; intro a w_84 v_81 hb_83 R_82 S
       replace R1 := R1.step hb_83
       replace R_73 := R_73.step hb_83
       replace R_76 := R_76.step hb_83
       replace R_80 := R_80.step hb_83
       replace B_34 := B_34.step hb_83
       replace O_70 := O_70.step hb_83
       replace O_9 := O_9.step hb_83
       replace RD := RD.step hb_83
       replace W := W.step hb_83
       obtain ⟨l_85, el_85, ej_59⟩ := bindS ej_59
       refine w_go S rfl (op_append S W (E := 39) 1 rfl ty26 un26 by26 rfl rfl rfl rfl O_9 rfl R_82 el_85 ?_)
       clear S; intro a w_87 v_86 A_88 O_89 S
       replace R1 : RepV (.sl (.int .u8)) w_87 (Kx K w.heap.size (some b_33 :: v_86.ownBlock :: v0.ownBlock :: LO)) v1 x1 := R1.apd A_88 (i := 1) rfl
       replace R_73 : RepV (.sl (.int .u8)) w_87 (Kx K w.heap.size (some b_33 :: v_86.ownBlock :: v0.ownBlock :: LO)) v_72 y_27.1 := R_73.apd A_88 (i := 1) rfl
       replace R_76 : RepV (.sl (.int .u8)) w_87 (Kx K w.heap.size (some b_33 :: v_86.ownBlock :: v0.ownBlock :: LO)) v_75 t_74 := R_76.apd A_88 (i := 1) rfl
       replace R_80 : RepV gt0 w_87 (Kx K w.heap.size (some b_33 :: v_86.ownBlock :: v0.ownBlock :: LO)) v_79 (t_74, true) := R_80.apd A_88 (i := 1) rfl
       replace R_82 : RepV (.sl gt0) w_87 (Kx K w.heap.size (some b_33 :: v_86.ownBlock :: v0.ownBlock :: LO)) v_81 (⟨[(t_74, true)], some 1⟩ : Sl ((Sl (Int)) × Bool)) := R_82.apd A_88 (i := 1) rfl
       replace B_34 : Bx gt2 37 w_87 (Kx K w.heap.size (some b_33 :: v_86.ownBlock :: v0.ownBlock :: LO)) b_33 y_27 := B_34.apd W A_88 (i := 1) rfl (j := 0) rfl (by decide)
       replace O_70 : Ow gt2 37 w_87 w.heap.size (Kx K w.heap.size (some b_33 :: v_86.ownBlock :: v0.ownBlock :: LO)) v0 (c_4.set c_2.toNat (y_64.1, y_64.2.1, y_64.2.2.1, false, y_64.2.2.2.2)) x0.cap := O_70.apd W A_88 (i := 1) rfl (j := 2) rfl (by decide)
       replace RD : Rnd wA [v0.ownBlock] w_87 [some b_33, v_86.ownBlock, v0.ownBlock] := RD.apd A_88 (i := 1) rfl
       replace W : Wd w w_87 (some b_33 :: v_86.ownBlock :: v0.ownBlock :: LO) := W.apd A_88 (i := 1) rfl
       replace O_89 : Ow gt0 39 w_87 w.heap.size (Kx K w.heap.size (some b_33 :: v_86.ownBlock :: v0.ownBlock :: LO)) v_86 l_85 (capA .none l_85.length) := O_89
       refine wl_pureK (l' := [(5, v_86), (10, .int .i64 c_2), (9, .int .i64 (lenI (⟨x0.xs, x0.cap⟩ : Sl ((Sl (Int)) × Bool × Bool × Bool × Int)))), (8, v0), (5, v_8), (0, v0), (1, v1)]) S tys tys_ok 1 [5, 10, 9, 8, 0, 1] (by kernel_rfl) ?_
       clear S; intro a S
       refine wpList_nil ?_
       refine then_n ?_
       obtain rfl := Option.some.inj ej_59
       exact ⟨v_86, S.sub (by exact ⟨rfl, rfl, rfl, rfl, rfl, rfl, trivial⟩), W, R1, B_34, O_70, O_89.forget, RD⟩
      ·intro hc
       rw [if_neg (Bool.eq_false_iff.1 hc)] at ej_59
       refine wp_skip ?_
       refine then_n ?_
       obtain rfl := Option.some.inj ej_59
       exact ⟨v_8, S.sub (by exact ⟨rfl, rfl, rfl, rfl, rfl, rfl, trivial⟩), W, R1, B_34, O_6, O_9, RD⟩
     clear S W; rintro a w_90 ⟨v_62, S, W, R1, B_34, O_61, O_63, RD⟩
     refine blk_n ?_
     refine then_n ?_
     refine wp_region_lit ?_
     obtain ⟨x_91, ex_91, hl_24⟩ := bindS hl_24
     refine w_go S rfl (op_arith S .i64 (c_2 + 1) rfl (.inl rfl) rfl rfl rfl rfl ex_91 ?_)
     clear S; intro a S
     refine wl_pure (l' := [(10, .int .i64 x_91), (40, .int .i64 x_91), (10, .int .i64 c_2), (9, .int .i64 (lenI (⟨x0.xs, x0.cap⟩ : Sl ((Sl (Int)) × Bool × Bool × Bool × Int)))), (8, v0), (5, v_62), (0, v0), (1, v1)]) S tys tys_ok 1 (by kernel_rfl) ?_
     clear S; intro a S
     refine wpList_nil ?_
     refine then_n ?_
     exact ⟨x_91, j_59.1, j_59.2, ⟨v_62, S.sub (by exact ⟨rfl, rfl, rfl, rfl, rfl, rfl, trivial⟩), (W.drop 1), (ckI_some ex_91).2.1, (R1.drop 1), (O_61.drop 1), (O_63.drop 1), (RD.drop 1), hl_24⟩⟩
    ·intro hc
     rw [if_neg (Bool.eq_false_iff.1 hc)] at hl_24
     refine wp_exit ?_
     refine then_x ?_
     refine then_x ?_
     refine blk_hit ?_
     refine then_n ?_
     obtain rfl := Option.some.inj hl_24
     exact ⟨v_8, S.sub (by exact ⟨rfl, trivial⟩), W, O_9, O_6, RD⟩
 clear S W; rintro a w_92 ⟨v_19, S, W, O_20, O_22, RD⟩
 refine then_n ?_
 refine wp_seq ?_
 refine wp_region_lit ?_
 refine wl_pure (l' := [(42, v_19), (41, v_19), (5, v_19)]) S tys tys_ok 2 (by kernel_rfl) ?_
 clear S; intro a S
 refine w_go S rfl (op_len (K := _) S rfl ty26 rfl rfl rfl O_20.read ?_)
 clear S; intro a G_93 S
 refine wl_pure (l' := [(44, v_19), (43, .int .i64 (lenI (⟨y_18.1, .none⟩ : Sl ((Sl (Int)) × Bool)))), (42, v_19), (41, v_19), (5, v_19)]) S tys tys_ok 1 (by kernel_rfl) ?_
 clear S; intro a S
 refine w_go S rfl (op_len (K := _) S rfl ty26 rfl rfl rfl O_20.read ?_)
 clear S; intro a G_94 S
 have R_95 : RepV (.sl gt0) w_92 (Kx K w.heap.size (v0.ownBlock :: LO)) v_19 (⟨y_18.1, .none⟩ : Sl ((Sl (Int)) × Bool)) := O_20.pubAt W 0 rfl
 replace O_22 : Ow gt2 37 w_92 w.heap.size (Kx K w.heap.size (v0.ownBlock :: LO)) v0 y_18.2 x0.cap := O_22.lessAt 0
 replace RD : Rnd wA [v0.ownBlock] w_92 [v0.ownBlock] := RD.lessAt 0
 replace W : Wd w w_92 (v0.ownBlock :: LO) := W.lessAt 0
 obtain ⟨s_98, es_98, h⟩ := bindS h
 refine w_go S rfl (op_slice3 S rfl ty26 rfl rfl rfl R_95 (.inl ⟨rfl, rfl⟩) rfl rfl es_98 ?_)
 clear S; intro a v_96 R_97 S
 refine wl_pureK (l' := [(4, v_96)]) S tys tys_ok 1 [4] (by kernel_rfl) ?_
 clear S; intro a S
 refine wpList_nil ?_
 refine then_n ?_
 refine wp_ret ?_
 obtain rfl := Option.some.inj h
 exact b_res1 S rfl (res_tmp S rfl) ⟨_, rfl, R_97, O_22, Rnd.yst RD (Wd.front (P := [v0.ownBlock]) (LO := LO) W)⟩
theorem cb31 : callB Try.prog 31 = true := by kernel_rfl
def p18 (n : Nat) (x0 : Sl ((Sl (Int)) × Bool × Bool × Bool × Int)) (x1 : Sl (Int)) : Option ((Sl ((Sl (Int)) × Bool × Bool × Bool × Int)) × (Sl ((Sl (Int)) × Bool)) × (Int)) :=
 (p19 n x0).bind fun t_1 =>
 if (t_1 != 0) then (some ((⟨([] : List ((Sl (Int)) × Bool × Bool × Bool × Int)), some 0⟩ : Sl ((Sl (Int)) × Bool × Bool × Bool × Int)), (⟨[], some 0⟩ : Sl ((Sl (Int)) × Bool)), t_1)) else (p30 n x0 x1).bind fun t_7 => if (decide (t_7 < 0)) then (some ((⟨([] : List ((Sl (Int)) × Bool × Bool × Bool × Int)), some 0⟩ : Sl ((Sl (Int)) × Bool × Bool × Bool × Int)), (⟨[], some 0⟩ : Sl ((Sl (Int)) × Bool)), 7)) else (idx x0.xs t_7).bind fun y_13 => (if (!y_13.2.2.2.1) = false then (idx x0.xs t_7).bind fun y_20 => some (!y_20.2.2.1) else some true).bind fun q_19 => if q_19 then (some ((⟨([] : List ((Sl (Int)) × Bool × Bool × Bool × Int)), some 0⟩ : Sl ((Sl (Int)) × Bool × Bool × Bool × Int)), (⟨[], some 0⟩ : Sl ((Sl (Int)) × Bool)), 6)) else (p23 n x0).bind fun t_27 => (p31 n (⟨t_27.xs, t_27.cap⟩ : Sl ((Sl (Int)) × Bool × Bool × Bool × Int)) x1).bind fun t_32 => some ((⟨t_32.2, t_27.cap⟩ : Sl ((Sl (Int)) × Bool × Bool × Bool × Int)), t_32.1, 0)
set_option maxHeartbeats 4000000 in
set_option maxRecDepth 100000 in
/-- plugboard/suspends.Remote -/
theorem c18 (K : Nat → Prop) (n : Nat) (w : World) (x0 : Sl ((Sl (Int)) × Bool × Bool × Bool × Int)) (v0 : Value) (R0 : RepV (.sl gt2) w K v0 x0) (x1 : Sl (Int)) (v1 : Value) (R1 : RepV (.sl (.int .u8)) w K v1 x1) {r : (Sl ((Sl (Int)) × Bool × Bool × Bool × Int)) × (Sl ((Sl (Int)) × Bool)) × (Int)} (h : p18 n x0 x1 = some r) :
  Calls Try.prog 18 #[v0, v1] w (fun e_ w_ => ∃ v0_ v1_ v2_ : Value, e_ = .returned (.tuple #[v0_, v1_, v2_]) ∧ Ow gt2 37 w_ w.heap.size (Kx K w.heap.size [v0_.ownBlock]) v0_ r.1.xs r.1.cap ∧ RepV (.sl gt0) w_ (Kx K w.heap.size [v0_.ownBlock]) v1_ r.2.1 ∧ RepV (.int .i64) w_ (Kx K w.heap.size [v0_.ownBlock]) v2_ r.2.2 ∧ Below w.heap.size w w_) := by
 refine enter (args := [v0, v1]) Try.func18 rfl 42 rfl rfl fun a S => ?_
 have W := Wd.start w
 replace R0 := R0.arg
 replace R1 := R1.arg
 unfold p18 at h
 replace S : St 42 a [(0, v0), (1, v1)] := S
 refine wp_seq ?_
 refine wp_region_lit ?_
 refine wl_pureK (l' := [(0, v0), (1, v1)]) S tys tys_ok 3 [0, 1] (by kernel_rfl) ?_
 clear S; intro a S
 refine wpList_nil ?_
 refine then_n ?_
 refine wp_seq ?_
 refine wp_seq ?_
 refine wp_region_lit ?_
 refine wl_pure (l' := [(10, v0), (0, v0), (1, v1)]) S tys tys_ok 1 (by kernel_rfl) ?_
 clear S; intro a S
 obtain ⟨t_1, et_1, h⟩ := bindS h
 refine w_go S rfl (op_call (vs := [v0]) S rfl cb19 rfl rfl rfl (c19 (Kx K w.heap.size []) n w x0 _ R0 et_1) ?_)
 rintro _ w_5 ⟨v_2, rfl, R_3, hb_4⟩; refine ⟨_, rfl, ?_⟩
 replace R_3 := RepV.back R_3 W
 clear S; intro a S
 replace R0 := R0.step hb_4
 replace R1 := R1.step hb_4
 replace W := W.step hb_4
 obtain ⟨rfl, GR_3⟩ := RepV.int R_3
 refine wl_pure (l' := [(7, .int .i64 t_1), (11, .int .i64 t_1), (10, v0), (0, v0), (1, v1)]) S tys tys_ok 1 (by kernel_rfl) ?_
 clear S; intro a S
 refine wpList_nil ?_
 refine then_n ?_
 replace S := S.sub (l' := [(7, .int .i64 t_1), (0, v0), (1, v1)]) (by exact ⟨rfl, rfl, rfl, trivial⟩)
 refine wp_seq ?_
 refine wp_region_lit ?_
 refine wl_pure (l' := [(13, .bool (t_1 != 0)), (12, .int .i64 t_1), (7, .int .i64 t_1), (0, v0), (1, v1)]) S tys tys_ok 2 (by kernel_rfl) ?_
 clear S; intro a S
 refine wpList_nil ?_
 refine then_n ?_
 replace S := S.sub (l' := [(13, .bool (t_1 != 0)), (7, .int .i64 t_1), (0, v0), (1, v1)]) (by exact ⟨rfl, rfl, rfl, rfl, trivial⟩)
 refine wp_cond_split (S.eval (show ev _ _ = some (.bool (t_1 != 0)) from rfl)) ?_ ?_
 ·intro hc
  rw [if_pos hc] at h
  refine wp_seq ?_
  refine wp_region_lit ?_
  refine wl_pureK (l' := [(6, .int .i64 t_1), (5, .slice .none 0 0), (4, .slice .none 0 0)]) S tys tys_ok 4 [6, 5, 4] (by kernel_rfl) ?_
  clear S; intro a S
  refine wpList_nil ?_
  refine then_n ?_
  refine wp_ret ?_
  refine then_r ?_
  replace W := W.more
  have O_6 : Ow gt2 37 w_5 w.heap.size (Kx K w.heap.size [.none]) (.slice .none 0 0) ([] : List ((Sl (Int)) × Bool × Bool × Bool × Int)) (some 0) := Ow.nil
  obtain rfl := Option.some.inj h
  exact b_ret3 S rfl rfl rfl rfl ⟨_, _, _, rfl, (O_6.lessO 0 rfl), RepV.nil, (RepV.mkInt GR_3), W.below⟩
 ·intro hc
  rw [if_neg (Bool.eq_false_iff.1 hc)] at h
  refine wp_skip ?_
  refine then_n ?_
  replace S := S.sub (l' := [(0, v0), (1, v1)]) (by exact ⟨rfl, rfl, trivial⟩)
  refine wp_seq ?_
  refine wp_region_lit ?_
  refine wl_pure (l' := [(16, v1), (15, v0), (0, v0), (1, v1)]) S tys tys_ok 2 (by kernel_rfl) ?_
  clear S; intro a S
  obtain ⟨t_7, et_7, h⟩ := bindS h
  refine w_go S rfl (op_call (vs := [v0, v1]) S rfl cb30 rfl rfl rfl (c30 (Kx K w.heap.size []) n w_5 x0 _ R0 x1 _ R1 et_7) ?_)
  rintro _ w_11 ⟨v_8, rfl, R_9, hb_10⟩; refine ⟨_, rfl, ?_⟩
  replace R_9 := RepV.back R_9 W
  clear S; intro a S
  replace R0 := R0.step hb_10
  replace R1 := R1.step hb_10
  replace W := W.step hb_10
  obtain ⟨rfl, GR_9⟩ := RepV.int R_9
  refine wl_pureK (l' := [(8, .int .i64 t_7), (0, v0), (1, v1)]) S tys tys_ok 1 [8, 0, 1] (by kernel_rfl) ?_
  clear S; intro a S
  refine wpList_nil ?_
  refine then_n ?_
  refine wp_seq ?_
  refine wp_block ?_
  refine wp_seq ?_
  refine wp_region_lit ?_
  refine wl_pure (l' := [(18, .bool (decide (t_7 < 0))), (20, .bool (decide (t_7 < 0))), (19, .int .i64 t_7), (8, .int .i64 t_7), (0, v0), (1, v1)]) S tys tys_ok 3 (by kernel_rfl) ?_
  clear S; intro a S
  refine wpList_nil ?_
  refine then_n ?_
  replace S := S.sub (l' := [(18, .bool (decide (t_7 < 0))), (8, .int .i64 t_7), (0, v0), (1, v1)]) (by exact ⟨rfl, rfl, rfl, rfl, trivial⟩)
  refine wp_cond_split (S.eval (show ev _ _ = some (.bool (decide (t_7 < 0))) from rfl)) ?_ ?_
  ·intro hc
   rw [if_pos hc] at h
   refine wp_seq ?_
   refine wp_region_lit ?_
   refine wl_pureK (l' := [(6, .int .i64 7), (5, .slice .none 0 0), (4, .slice .none 0 0)]) S tys tys_ok 3 [6, 5, 4] (by kernel_rfl) ?_
   clear S; intro a S
   refine wpList_nil ?_
   refine then_n ?_
   refine wp_ret ?_
   refine blk_r ?_
   refine then_r ?_
   replace W := W.more
   have O_12 : Ow gt2 37 w_11 w.heap.size (Kx K w.heap.size [.none]) (.slice .none 0 0) ([] : List ((Sl (Int)) × Bool × Bool × Bool × Int)) (some 0) := Ow.nil
   obtain rfl := Option.some.inj h
   exact b_ret3 S rfl rfl rfl rfl ⟨_, _, _, rfl, (O_12.lessO 0 rfl), RepV.nil, (RepV.mkInt (by decide)), W.below⟩
  ·intro hc
   rw [if_neg (Bool.eq_false_iff.1 hc)] at h
   refine wp_seq ?_
   refine wp_region_lit ?_
   refine wl_pure (l' := [(23, .int .i64 t_7), (22, v0), (18, .bool (decide (t_7 < 0))), (8, .int .i64 t_7), (0, v0), (1, v1)]) S tys tys_ok 2 (by kernel_rfl) ?_
   clear S; intro a S
   obtain ⟨y_13, ey_13, h⟩ := bindS h
   refine w_go S rfl (op_indexAddr S rfl ty25 rfl rfl rfl R0 rfl ey_13 ?_)
   clear S; intro a p_14 R_15 H_16 S
   refine wl_pureK (l' := [(25, .pointer (some (p_14.add (coff gf2 3)))), (8, .int .i64 t_7), (0, v0), (1, v1)]) S tys tys_ok 1 [25, 8, 0, 1] (by kernel_rfl) ?_
   clear S; intro a S
   refine w_go S rfl (op_load (t := .bool) (x := y_13.2.2.2.1) S rfl ty4 rfl rfl rfl (RepAt.add 3 (RepAt.st (t := gf2) R_15)) ?_)
   clear S; intro a v_17 R_18 S
   obtain rfl := RepV.bool R_18
   refine wl_pureK (l' := [(28, .bool (!y_13.2.2.2.1)), (8, .int .i64 t_7), (0, v0), (1, v1)]) S tys tys_ok 2 [28, 8, 0, 1] (by kernel_rfl) ?_
   clear S; intro a S
   obtain ⟨q_19, eq_19, h⟩ := bindS h
   refine seg 7 (fun a_ w_ => w_11 = w_ ∧ St 42 a_ [(35, .bool q_19), (0, v0), (1, v1)]) ?_ ?_
   ·by_cases hc : (!y_13.2.2.2.1) = false
    ·rw [if_pos hc] at eq_19; rw [hc] at S
     refine wl_pure (l' := [(30, .int .i64 t_7), (29, v0), (28, .bool false), (8, .int .i64 t_7), (0, v0), (1, v1)]) S tys tys_ok 2 (by kernel_rfl) ?_
     clear S; intro a S
     obtain ⟨y_20, ey_20, eq_19⟩ := bindS eq_19
     refine w_go S rfl (op_indexAddr S rfl ty25 rfl rfl rfl R0 rfl ey_20 ?_)
     clear S; intro a p_21 R_22 H_23 S
     refine wl_pureK (l' := [(32, .pointer (some (p_21.add (coff gf2 2)))), (28, .bool false), (0, v0), (1, v1)]) S tys tys_ok 1 [32, 28, 0, 1] (by kernel_rfl) ?_
     clear S; intro a S
     refine w_go S rfl (op_load (t := .bool) (x := y_20.2.2.1) S rfl ty4 rfl rfl rfl (RepAt.add 2 (RepAt.st (t := gf2) R_22)) ?_)
     clear S; intro a v_24 R_25 S
     obtain rfl := RepV.bool R_25
     refine wl_pureK (l' := [(35, .bool (!y_20.2.2.1)), (0, v0), (1, v1)]) S tys tys_ok 2 [35, 0, 1] (by kernel_rfl) ?_
     clear S; intro a S
     obtain rfl := Option.some.inj eq_19
     exact ⟨rfl, S.sub (by exact ⟨rfl, rfl, rfl, trivial⟩)⟩
    ·rw [if_neg hc] at eq_19; rw [show (!y_13.2.2.2.1) = true from (by simpa using hc)] at S
     refine wl_pureK (l' := [(35, .bool true), (0, v0), (1, v1)]) S tys tys_ok 7 [35, 0, 1] (by kernel_rfl) ?_
     clear S; intro a S
     obtain rfl := Option.some.inj eq_19
     exact ⟨rfl, S.sub (by exact ⟨rfl, rfl, rfl, trivial⟩)⟩
   clear S eq_19; rintro a _ ⟨rfl, S⟩
   refine wl_pure (l' := [(21, .bool q_19), (35, .bool q_19), (0, v0), (1, v1)]) S tys tys_ok 1 (by kernel_rfl) ?_
   clear S; intro a S
   refine wpList_nil ?_
   refine then_n ?_
   replace S := S.sub (l' := [(21, .bool q_19), (0, v0), (1, v1)]) (by exact ⟨rfl, rfl, rfl, trivial⟩)
   refine wp_cond_split (S.eval (show ev _ _ = some (.bool q_19) from rfl)) ?_ ?_
   ·intro hc
    rw [if_pos hc] at h
    refine wp_seq ?_
    refine wp_region_lit ?_
    refine wl_pureK (l' := [(6, .int .i64 6), (5, .slice .none 0 0), (4, .slice .none 0 0)]) S tys tys_ok 3 [6, 5, 4] (by kernel_rfl) ?_
    clear S; intro a S
    refine wpList_nil ?_
    refine then_n ?_
    refine wp_ret ?_
    refine blk_r ?_
    refine then_r ?_
    replace W := W.more
    have O_26 : Ow gt2 37 w_11 w.heap.size (Kx K w.heap.size [.none]) (.slice .none 0 0) ([] : List ((Sl (Int)) × Bool × Bool × Bool × Int)) (some 0) := Ow.nil
    obtain rfl := Option.some.inj h
    exact b_ret3 S rfl rfl rfl rfl ⟨_, _, _, rfl, (O_26.lessO 0 rfl), RepV.nil, (RepV.mkInt (by decide)), W.below⟩
   ·intro hc
    rw [if_neg (Bool.eq_false_iff.1 hc)] at h
    refine wp_skip ?_
    refine blk_n ?_
    refine then_n ?_
    replace S := S.sub (l' := [(0, v0), (1, v1)]) (by exact ⟨rfl, rfl, trivial⟩)
    refine wp_seq ?_
    refine wp_region_lit ?_
    refine wl_pure (l' := [(36, v0), (0, v0), (1, v1)]) S tys tys_ok 1 (by kernel_rfl) ?_
    clear S; intro a S
    obtain ⟨t_27, et_27, h⟩ := bindS h
    refine w_go S rfl (op_call (vs := [v0]) S rfl cb23 rfl rfl rfl (c23 (Kx K w.heap.size []) n w_11 x0 _ R0 et_27) ?_)
    rintro _ w_31 ⟨v_28, rfl, R_29, hb_30⟩; refine ⟨_, rfl, ?_⟩
    have NO_ := newO_of R_29 (Nat.le_refl _) hb_30
    replace R_29 := Ow.backO R_29 W
    clear S; intro a S
    replace R0 := R0.newO NO_
    replace R1 := R1.newO NO_
    replace W := W.newO NO_
    clear NO_
    refine wl_pureK (l' := [(9, v_28), (1, v1)]) S tys tys_ok 1 [9, 1] (by kernel_rfl) ?_
    clear S; intro a S
    refine wpList_nil ?_
    refine then_n ?_
    refine wp_seq ?_
    refine wp_region_lit ?_
    refine wl_pure (l' := [(40, v1), (39, v_28), (38, v_28), (9, v_28), (1, v1)]) S tys tys_ok 3 (by kernel_rfl) ?_
    clear S; intro a S
    obtain ⟨t_32, et_32, h⟩ := bindS h
    refine w_go S rfl (op_call (vs := [v_28, v1]) S rfl cb31 rfl rfl rfl (c31 K n w w_31 [] (⟨t_27.xs, t_27.cap⟩ : Sl ((Sl (Int)) × Bool × Bool × Bool × Int)) _ R_29 x1 _ R1 W et_32) ?_)
    rintro _ w_33 ⟨v_35, rfl, R_36, O_37, Y_34⟩; refine ⟨_, rfl, ?_⟩
    clear S; intro a S
    replace R1 : RepV (.sl (.int .u8)) w_33 (Kx K w.heap.size [v_28.ownBlock]) v1 x1 := RepV.yfr (P := [v_28.ownBlock]) [] R1 Y_34
    replace W : Wd w w_33 [v_28.ownBlock] := Wd.yfr (P := [v_28.ownBlock]) [] W Y_34
    replace O_37 : Ow gt2 37 w_33 w.heap.size (Kx K w.heap.size [v_28.ownBlock]) v_28 t_32.2 t_27.cap := O_37
    replace R_36 : RepV (.sl gt0) w_33 (Kx K w.heap.size [v_28.ownBlock]) v_35 t_32.1 := R_36
    refine wl_pureK (l' := [(6, .int .i64 0), (5, v_35), (4, v_28)]) S tys tys_ok 3 [6, 5, 4] (by kernel_rfl) ?_
    clear S; intro a S
    refine wpList_nil ?_
    refine then_n ?_
    refine wp_ret ?_
    obtain rfl := Option.some.inj h
    exact b_ret3 S rfl rfl rfl rfl ⟨_, _, _, rfl, (O_37.lessO 0 rfl), (R_36.lessO 0 rfl), (RepV.mkInt (by decide)), W.below⟩
theorem cb18 : callB Try.prog 18 = true := by kernel_rfl
def p17 (n : Nat) (x0 : Sl ((Sl (Int)) × Bool × Bool × Bool × Int)) (x1 : Sl (Int)) (x2 : Bool) : Option ((Sl ((Sl (Int)) × Bool × Bool × Bool × Int)) × (Sl ((Sl (Int)) × Bool)) × (Int)) :=
 (p19 n x0).bind fun t_1 =>
 if (t_1 != 0) then (some ((⟨([] : List ((Sl (Int)) × Bool × Bool × Bool × Int)), some 0⟩ : Sl ((Sl (Int)) × Bool × Bool × Bool × Int)), (⟨[], some 0⟩ : Sl ((Sl (Int)) × Bool)), t_1)) else (p30 n x0 x1).bind fun t_7 => if (decide (t_7 < 0)) then (some ((⟨([] : List ((Sl (Int)) × Bool × Bool × Bool × Int)), some 0⟩ : Sl ((Sl (Int)) × Bool × Bool × Bool × Int)), (⟨[], some 0⟩ : Sl ((Sl (Int)) × Bool)), 7)) else (p23 n x0).bind fun t_13 => (idx t_13.xs t_7).bind fun y_18 => if (!x2) then (some ((⟨(t_13.xs.set t_7.toNat (y_18.1, x2, y_18.2.2.1, y_18.2.2.2.1, y_18.2.2.2.2)), t_13.cap⟩ : Sl ((Sl (Int)) × Bool × Bool × Bool × Int)), (⟨[], some 0⟩ : Sl ((Sl (Int)) × Bool)), 0)) else (idx (t_13.xs.set t_7.toNat (y_18.1, x2, y_18.2.2.1, y_18.2.2.2.1, y_18.2.2.2.2)) t_7).bind fun y_26 => (p31 n (⟨((t_13.xs.set t_7.toNat (y_18.1, x2, y_18.2.2.1, y_18.2.2.2.1, y_18.2.2.2.2)).set t_7.toNat (y_26.1, y_26.2.1, y_26.2.2.1, y_26.2.2.2.1, 0)), t_13.cap⟩ : Sl ((Sl (Int)) × Bool × Bool × Bool × Int)) x1).bind fun t_34 => some ((⟨t_34.2, t_13.cap⟩ : Sl ((Sl (Int)) × Bool × Bool × Bool × Int)), t_34.1, 0)
set_option maxHeartbeats 4000000 in
set_option maxRecDepth 100000 in
/-- plugboard/suspends.Use -/
theorem c17 (K : Nat → Prop) (n : Nat) (w : World) (x0 : Sl ((Sl (Int)) × Bool × Bool × Bool × Int)) (v0 : Value) (R0 : RepV (.sl gt2) w K v0 x0) (x1 : Sl (Int)) (v1 : Value) (R1 : RepV (.sl (.int .u8)) w K v1 x1) (x2 : Bool) {r : (Sl ((Sl (Int)) × Bool × Bool × Bool × Int)) × (Sl ((Sl (Int)) × Bool)) × (Int)} (h : p17 n x0 x1 x2 = some r) :
  Calls Try.prog 17 #[v0, v1, .bool x2] w (fun e_ w_ => ∃ v0_ v1_ v2_ : Value, e_ = .returned (.tuple #[v0_, v1_, v2_]) ∧ Ow gt2 37 w_ w.heap.size (Kx K w.heap.size [v0_.ownBlock]) v0_ r.1.xs r.1.cap ∧ RepV (.sl gt0) w_ (Kx K w.heap.size [v0_.ownBlock]) v1_ r.2.1 ∧ RepV (.int .i64) w_ (Kx K w.heap.size [v0_.ownBlock]) v2_ r.2.2 ∧ Below w.heap.size w w_) := by
 refine enter (args := [v0, v1, .bool x2]) Try.func17 rfl 40 rfl rfl fun a S => ?_
 have W := Wd.start w
 replace R0 := R0.arg
 replace R1 := R1.arg
 unfold p17 at h
 replace S : St 40 a [(0, v0), (1, v1), (2, .bool x2)] := S
 refine wp_seq ?_
 refine wp_region_lit ?_
 refine wl_pureK (l' := [(0, v0), (1, v1), (2, .bool x2)]) S tys tys_ok 3 [0, 1, 2] (by kernel_rfl) ?_
 clear S; intro a S
 refine wpList_nil ?_
 refine then_n ?_
 refine wp_seq ?_
 refine wp_seq ?_
 refine wp_region_lit ?_
 refine wl_pure (l' := [(12, v0), (0, v0), (1, v1), (2, .bool x2)]) S tys tys_ok 1 (by kernel_rfl) ?_
 clear S; intro a S
 obtain ⟨t_1, et_1, h⟩ := bindS h
 refine w_go S rfl (op_call (vs := [v0]) S rfl cb19 rfl rfl rfl (c19 (Kx K w.heap.size []) n w x0 _ R0 et_1) ?_)
 rintro _ w_5 ⟨v_2, rfl, R_3, hb_4⟩; refine ⟨_, rfl, ?_⟩
 replace R_3 := RepV.back R_3 W
 clear S; intro a S
 replace R0 := R0.step hb_4
 replace R1 := R1.step hb_4
 replace W := W.step hb_4
 obtain ⟨rfl, GR_3⟩ := RepV.int R_3
 refine wl_pure (l' := [(9, .int .i64 t_1), (13, .int .i64 t_1), (12, v0), (0, v0), (1, v1), (2, .bool x2)]) S tys tys_ok 1 (by kernel_rfl) ?_
 clear S; intro a S
 refine wpList_nil ?_
 refine then_n ?_
 replace S := S.sub (l' := [(9, .int .i64 t_1), (0, v0), (1, v1), (2, .bool x2)]) (by exact ⟨rfl, rfl, rfl, rfl, trivial⟩)
 refine wp_seq ?_
 refine wp_region_lit ?_
 refine wl_pure (l' := [(15, .bool (t_1 != 0)), (14, .int .i64 t_1), (9, .int .i64 t_1), (0, v0), (1, v1), (2, .bool x2)]) S tys tys_ok 2 (by kernel_rfl) ?_
 clear S; intro a S
 refine wpList_nil ?_
 refine then_n ?_
 replace S := S.sub (l' := [(15, .bool (t_1 != 0)), (9, .int .i64 t_1), (0, v0), (1, v1), (2, .bool x2)]) (by exact ⟨rfl, rfl, rfl, rfl, rfl, trivial⟩)
 refine wp_cond_split (S.eval (show ev _ _ = some (.bool (t_1 != 0)) from rfl)) ?_ ?_
 ·intro hc
  rw [if_pos hc] at h
  refine wp_seq ?_
  refine wp_region_lit ?_
  refine wl_pureK (l' := [(8, .int .i64 t_1), (7, .slice .none 0 0), (6, .slice .none 0 0)]) S tys tys_ok 4 [8, 7, 6] (by kernel_rfl) ?_
  clear S; intro a S
  refine wpList_nil ?_
  refine then_n ?_
  refine wp_ret ?_
  refine then_r ?_
  replace W := W.more
  have O_6 : Ow gt2 37 w_5 w.heap.size (Kx K w.heap.size [.none]) (.slice .none 0 0) ([] : List ((Sl (Int)) × Bool × Bool × Bool × Int)) (some 0) := Ow.nil
  obtain rfl := Option.some.inj h
  exact b_ret3 S rfl rfl rfl rfl ⟨_, _, _, rfl, (O_6.lessO 0 rfl), RepV.nil, (RepV.mkInt GR_3), W.below⟩
 ·intro hc
  rw [if_neg (Bool.eq_false_iff.1 hc)] at h
  refine wp_skip ?_
  refine then_n ?_
  replace S := S.sub (l' := [(0, v0), (1, v1), (2, .bool x2)]) (by exact ⟨rfl, rfl, rfl, trivial⟩)
  refine wp_seq ?_
  refine wp_region_lit ?_
  refine wl_pure (l' := [(18, v1), (17, v0), (0, v0), (1, v1), (2, .bool x2)]) S tys tys_ok 2 (by kernel_rfl) ?_
  clear S; intro a S
  obtain ⟨t_7, et_7, h⟩ := bindS h
  refine w_go S rfl (op_call (vs := [v0, v1]) S rfl cb30 rfl rfl rfl (c30 (Kx K w.heap.size []) n w_5 x0 _ R0 x1 _ R1 et_7) ?_)
  rintro _ w_11 ⟨v_8, rfl, R_9, hb_10⟩; refine ⟨_, rfl, ?_⟩
  replace R_9 := RepV.back R_9 W
  clear S; intro a S
  replace R0 := R0.step hb_10
  replace R1 := R1.step hb_10
  replace W := W.step hb_10
  obtain ⟨rfl, GR_9⟩ := RepV.int R_9
  refine wl_pureK (l' := [(10, .int .i64 t_7), (0, v0), (1, v1), (2, .bool x2)]) S tys tys_ok 1 [10, 0, 1, 2] (by kernel_rfl) ?_
  clear S; intro a S
  refine wpList_nil ?_
  refine then_n ?_
  refine wp_seq ?_
  refine wp_seq ?_
  refine wp_region_lit ?_
  refine wl_pure (l' := [(21, .bool (decide (t_7 < 0))), (20, .int .i64 t_7), (10, .int .i64 t_7), (0, v0), (1, v1), (2, .bool x2)]) S tys tys_ok 2 (by kernel_rfl) ?_
  clear S; intro a S
  refine wpList_nil ?_
  refine then_n ?_
  replace S := S.sub (l' := [(21, .bool (decide (t_7 < 0))), (10, .int .i64 t_7), (0, v0), (1, v1), (2, .bool x2)]) (by exact ⟨rfl, rfl, rfl, rfl, rfl, trivial⟩)
  refine wp_cond_split (S.eval (show ev _ _ = some (.bool (decide (t_7 < 0))) from rfl)) ?_ ?_
  ·intro hc
   rw [if_pos hc] at h
   refine wp_seq ?_
   refine wp_region_lit ?_
   refine wl_pureK (l' := [(8, .int .i64 7), (7, .slice .none 0 0), (6, .slice .none 0 0)]) S tys tys_ok 3 [8, 7, 6] (by kernel_rfl) ?_
   clear S; intro a S
   refine wpList_nil ?_
   refine then_n ?_
   refine wp_ret ?_
   refine then_r ?_
   replace W := W.more
   have O_12 : Ow gt2 37 w_11 w.heap.size (Kx K w.heap.size [.none]) (.slice .none 0 0) ([] : List ((Sl (Int)) × Bool × Bool × Bool × Int)) (some 0) := Ow.nil
   obtain rfl := Option.some.inj h
   exact b_ret3 S rfl rfl rfl rfl ⟨_, _, _, rfl, (O_12.lessO 0 rfl), RepV.nil, (RepV.mkInt (by decide)), W.below⟩
  ·intro hc
   rw [if_neg (Bool.eq_false_iff.1 hc)] at h
   refine wp_skip ?_
   refine then_n ?_
   replace S := S.sub (l' := [(10, .int .i64 t_7), (0, v0), (1, v1), (2, .bool x2)]) (by exact ⟨rfl, rfl, rfl, rfl, trivial⟩)
   refine wp_seq ?_
   refine wp_region_lit ?_
   refine wl_pure (l' := [(22, v0), (10, .int .i64 t_7), (0, v0), (1, v1), (2, .bool x2)]) S tys tys_ok 1 (by kernel_rfl) ?_
   clear S; intro a S
   obtain ⟨t_13, et_13, h⟩ := bindS h
   refine w_go S rfl (op_call (vs := [v0]) S rfl cb23 rfl rfl rfl (c23 (Kx K w.heap.size []) n w_11 x0 _ R0 et_13) ?_)
   rintro _ w_17 ⟨v_14, rfl, R_15, hb_16⟩; refine ⟨_, rfl, ?_⟩
   have NO_ := newO_of R_15 (Nat.le_refl _) hb_16
   replace R_15 := Ow.backO R_15 W
   clear S; intro a S
   replace R0 := R0.newO NO_
   replace R1 := R1.newO NO_
   replace W := W.newO NO_
   clear NO_
   refine wl_pureK (l' := [(11, v_14), (10, .int .i64 t_7), (1, v1), (2, .bool x2)]) S tys tys_ok 1 [11, 10, 1, 2] (by kernel_rfl) ?_
   clear S; intro a S
   refine wpList_nil ?_
   refine then_n ?_
   refine wp_seq ?_
   refine wp_region_lit ?_
   refine wl_pure (l' := [(26, .bool x2), (25, .int .i64 t_7), (24, v_14), (11, v_14), (10, .int .i64 t_7), (1, v1), (2, .bool x2)]) S tys tys_ok 3 (by kernel_rfl) ?_
   clear S; intro a S
   obtain ⟨y_18, ey_18, h⟩ := bindS h
   refine w_go S rfl (op_indexAddr_own S rfl ty25 rfl rfl rfl R_15 rfl ey_18 ?_)
   clear S; intro a g_19 H_21 R_20 S
   refine wl_pureK (l' := [(28, .pointer (some ((⟨g_19, t_7.toNat * GT.sz gt2, .none⟩ : Addr).add (coff gf2 1)))), (26, .bool x2), (11, v_14), (10, .int .i64 t_7), (1, v1), (2, .bool x2)]) S tys tys_ok 1 [28, 26, 11, 10, 1, 2] (by kernel_rfl) ?_
   clear S; intro a S
   refine w_go S rfl (op_store_own (t' := .bool) S rfl rfl ty4 rfl (addr_add _ _ _) rfl R_15 H_21 0 rfl (idx_some ey_18).2.1 (Ln.st (Ln.comp 1)) (RepV.mkBool : RepV .bool w_17 (Kx K w.heap.size [v_14.ownBlock]) _ x2) ?_)
   intro w_22 hw_23 hm_25 O_24
   replace R1 := R1.wrote hw_23 hm_25
   replace W := W.wrote hw_23 hm_25
   replace O_24 : Ow gt2 37 w_22 w.heap.size (Kx K w.heap.size [v_14.ownBlock]) v_14 (t_13.xs.set t_7.toNat (y_18.1, x2, y_18.2.2.1, y_18.2.2.2.1, y_18.2.2.2.2)) t_13.cap := O_24
   refine wpList_nil ?_
   refine then_n ?_
   replace S := S.sub (l' := [(11, v_14), (10, .int .i64 t_7), (1, v1), (2, .bool x2)]) (by exact ⟨rfl, rfl, rfl, rfl, trivial⟩)
   refine wp_seq ?_
   refine wp_seq ?_
   refine wp_region_lit ?_
   refine wl_pure (l' := [(30, .bool (!x2)), (29, .bool x2), (11, v_14), (10, .int .i64 t_7), (1, v1), (2, .bool x2)]) S tys tys_ok 2 (by kernel_rfl) ?_
   clear S; intro a S
   refine wpList_nil ?_
   refine then_n ?_
   replace S := S.sub (l' := [(30, .bool (!x2)), (11, v_14), (10, .int .i64 t_7), (1, v1)]) (by exact ⟨rfl, rfl, rfl, rfl, trivial⟩)
   refine wp_cond_split (S.eval (show ev _ _ = some (.bool (!x2)) from rfl)) ?_ ?_
   ·intro hc
    rw [if_pos hc] at h
    refine wp_seq ?_
    refine wp_region_lit ?_
    refine wl_pureK (l' := [(8, .int .i64 0), (7, .slice .none 0 0), (6, v_14)]) S tys tys_ok 4 [8, 7, 6] (by kernel_rfl) ?_
    clear S; intro a S
    refine wpList_nil ?_
    refine then_n ?_
    refine wp_ret ?_
    refine then_r ?_
    obtain rfl := Option.some.inj h
    exact b_ret3 S rfl rfl rfl rfl ⟨_, _, _, rfl, (O_24.lessO 0 rfl), RepV.nil, (RepV.mkInt (by decide)), W.below⟩
   ·intro hc
    rw [if_neg (Bool.eq_false_iff.1 hc)] at h
    refine wp_skip ?_
    refine then_n ?_
    replace S := S.sub (l' := [(11, v_14), (10, .int .i64 t_7), (1, v1)]) (by exact ⟨rfl, rfl, rfl, trivial⟩)
    refine wp_seq ?_
    refine wp_region_lit ?_
    refine wl_pure (l' := [(33, .int .i64 t_7), (32, v_14), (11, v_14), (10, .int .i64 t_7), (1, v1)]) S tys tys_ok 2 (by kernel_rfl) ?_
    clear S; intro a S
    obtain ⟨y_26, ey_26, h⟩ := bindS h
    refine w_go S rfl (op_indexAddr_own S rfl ty25 rfl rfl rfl O_24 rfl ey_26 ?_)
    clear S; intro a g_27 H_29 R_28 S
    refine wl_pureK (l' := [(35, .pointer (some ((⟨g_27, t_7.toNat * GT.sz gt2, .none⟩ : Addr).add (coff gf2 4)))), (11, v_14), (1, v1)]) S tys tys_ok 1 [35, 11, 1] (by kernel_rfl) ?_
    clear S; intro a S
    refine w_go S rfl (op_store_own (t' := (.int .i64)) S rfl rfl ty3 rfl (addr_add _ _ _) rfl O_24 H_29 0 rfl (idx_some ey_26).2.1 (Ln.st (Ln.comp 4)) ((RepV.mkInt (by decide)) : RepV (.int .i64) w_22 (Kx K w.heap.size [v_14.ownBlock]) _ 0) ?_)
    intro w_30 hw_31 hm_33 O_32
    replace R1 := R1.wrote hw_31 hm_33
    replace W := W.wrote hw_31 hm_33
    replace O_32 : Ow gt2 37 w_30 w.heap.size (Kx K w.heap.size [v_14.ownBlock]) v_14 ((t_13.xs.set t_7.toNat (y_18.1, x2, y_18.2.2.1, y_18.2.2.2.1, y_18.2.2.2.2)).set t_7.toNat (y_26.1, y_26.2.1, y_26.2.2.1, y_26.2.2.2.1, 0)) t_13.cap := O_32
    refine wpList_nil ?_
    refine then_n ?_
    refine wp_seq ?_
    refine wp_region_lit ?_
    refine wl_pureK (l' := [(38, v1), (37, v_14), (36, v_14)]) S tys tys_ok 3 [38, 37, 36] (by kernel_rfl) ?_
    clear S; intro a S
    obtain ⟨t_34, et_34, h⟩ := bindS h
    refine w_go S rfl (op_call (vs := [v_14, v1]) S rfl cb31 rfl rfl rfl (c31 K n w w_30 [] (⟨((t_13.xs.set t_7.toNat (y_18.1, x2, y_18.2.2.1, y_18.2.2.2.1, y_18.2.2.2.2)).set t_7.toNat (y_26.1, y_26.2.1, y_26.2.2.1, y_26.2.2.2.1, 0)), t_13.cap⟩ : Sl ((Sl (Int)) × Bool × Bool × Bool × Int)) _ O_32 x1 _ R1 W et_34) ?_)
    rintro _ w_35 ⟨v_37, rfl, R_38, O_39, Y_36⟩; refine ⟨_, rfl, ?_⟩
    clear S; intro a S
    replace R1 : RepV (.sl (.int .u8)) w_35 (Kx K w.heap.size [v_14.ownBlock]) v1 x1 := RepV.yfr (P := [v_14.ownBlock]) [] R1 Y_36
    replace W : Wd w w_35 [v_14.ownBlock] := Wd.yfr (P := [v_14.ownBlock]) [] W Y_36
    replace O_39 : Ow gt2 37 w_35 w.heap.size (Kx K w.heap.size [v_14.ownBlock]) v_14 t_34.2 t_13.cap := O_39
    replace R_38 : RepV (.sl gt0) w_35 (Kx K w.heap.size [v_14.ownBlock]) v_37 t_34.1 := R_38
    refine wl_pureK (l' := [(8, .int .i64 0), (7, v_37), (6, v_14)]) S tys tys_ok 3 [8, 7, 6] (by kernel_rfl) ?_
    clear S; intro a S
    refine wpList_nil ?_
    refine then_n ?_
    refine wp_ret ?_
    obtain rfl := Option.some.inj h
    exact b_ret3 S rfl rfl rfl rfl ⟨_, _, _, rfl, (O_39.lessO 0 rfl), (R_38.lessO 0 rfl), (RepV.mkInt (by decide)), W.below⟩
theorem cb17 : callB Try.prog 17 = true := by kernel_rfl
def p21_l1 (n : Nat) (x0 : Sl ((Sl (Int)) × Bool)) (x1 : Sl ((Sl (Int)) × Bool)) : Nat → (Int) → Option ((Unit) ⊕ ((Bool)))
 | 0, _ => .none
 | m + 1, c_7 => if (decide (c_7 < (lenI x0))) then ((idx x0.xs c_7).bind fun y_17 => (idx x1.xs c_7).bind fun y_23 => (p22 n y_17.1 y_23.1).bind fun t_29 => (if (!t_29) = false then (idx x0.xs c_7).bind fun y_36 => (idx x1.xs c_7).bind fun y_42 => some (!(y_36.2 == y_42.2)) else some true).bind fun q_34 => if q_34 then (some (.inr false)) else (ckI .i64 (c_7 + 1)).bind fun x_287 => p21_l1 n x0 x1 m x_287) else some (.inl ())
def p21 (n : Nat) (x0 : Sl ((Sl (Int)) × Bool)) (x1 : Sl ((Sl (Int)) × Bool)) : Option ((Bool)) :=
 (if ((lenI x0) != (lenI x1)) = false then (capO x0).bind fun x_5 => some (x_5 != (lenI x0)) else some true).bind fun q_3 =>
 if q_3 then (some false) else (p21_l1 n x0 x1 n 0).bind fun (y_11 : (Unit) ⊕ ((Bool))) => lrK y_11 some fun (s_12 : Unit) => some true
set_option maxHeartbeats 4000000 in
set_option maxRecDepth 100000 in
/-- plugboard/plugboardlaw32.same -/
theorem c21 (K : Nat → Prop) (n : Nat) (w : World) (x0 : Sl ((Sl (Int)) × Bool)) (v0 : Value) (R0 : RepV (.sl gt0) w K v0 x0) (x1 : Sl ((Sl (Int)) × Bool)) (v1 : Value) (R1 : RepV (.sl gt0) w K v1 x1) {r : (Bool)} (h : p21 n x0 x1 = some r) :
  Calls Try.prog 21 #[v0, v1] w (Ret1 .bool w (Kx K w.heap.size []) r) := by
 refine enter (args := [v0, v1]) Try.func21 rfl 49 rfl rfl fun a S => ?_
 have W := Wd.start w
 replace R0 := R0.arg
 replace R1 := R1.arg
 unfold p21 at h
 replace S : St 49 a [(0, v0), (1, v1)] := S
 refine wp_seq ?_
 refine wp_region_lit ?_
 refine wl_pure (l' := [(4, .bool false), (0, v0), (1, v1)]) S tys tys_ok 1 (by kernel_rfl) ?_
 clear S; intro a S
 refine wpList_nil ?_
 refine then_n ?_
 replace S := S.sub (l' := [(0, v0), (1, v1)]) (by exact ⟨rfl, rfl, trivial⟩)
 refine wp_seq ?_
 refine wp_seq ?_
 refine wp_region_lit ?_
 refine wl_pure (l' := [(6, v0), (0, v0), (1, v1)]) S tys tys_ok 1 (by kernel_rfl) ?_
 clear S; intro a S
 refine w_go S rfl (op_len (K := _) S rfl ty26 rfl rfl rfl R0 ?_)
 clear S; intro a G_1 S
 refine wl_pure (l' := [(8, v1), (7, .int .i64 (lenI x0)), (6, v0), (0, v0), (1, v1)]) S tys tys_ok 1 (by kernel_rfl) ?_
 clear S; intro a S
 refine w_go S rfl (op_len (K := _) S rfl ty26 rfl rfl rfl R1 ?_)
 clear S; intro a G_2 S
 refine wl_pureK (l' := [(11, .bool ((lenI x0) != (lenI x1))), (0, v0), (1, v1)]) S tys tys_ok 2 [11, 0, 1] (by kernel_rfl) ?_
 clear S; intro a S
 obtain ⟨q_3, eq_3, h⟩ := bindS h
 refine seg 6 (fun a_ w_ => w = w_ ∧ St 49 a_ [(17, .bool q_3), (0, v0), (1, v1)]) ?_ ?_
 ·by_cases hc : ((lenI x0) != (lenI x1)) = false
  ·rw [if_pos hc] at eq_3; rw [hc] at S
   refine wl_pure (l' := [(12, v0), (11, .bool false), (0, v0), (1, v1)]) S tys tys_ok 1 (by kernel_rfl) ?_
   clear S; intro a S
   obtain ⟨x_5, ex_5, eq_3⟩ := bindS eq_3
   refine w_go S rfl (op_cap (K := _) S rfl ty26 rfl rfl rfl R0 ex_5 ?_)
   clear S; intro a G_4 S
   refine wl_pure (l' := [(14, v0), (13, .int .i64 x_5), (12, v0), (11, .bool false), (0, v0), (1, v1)]) S tys tys_ok 1 (by kernel_rfl) ?_
   clear S; intro a S
   refine w_go S rfl (op_len (K := _) S rfl ty26 rfl rfl rfl R0 ?_)
   clear S; intro a G_6 S
   refine wl_pureK (l' := [(17, .bool (x_5 != (lenI x0))), (0, v0), (1, v1)]) S tys tys_ok 2 [17, 0, 1] (by kernel_rfl) ?_
   clear S; intro a S
   obtain rfl := Option.some.inj eq_3
   exact ⟨rfl, S.sub (by exact ⟨rfl, rfl, rfl, trivial⟩)⟩
  ·rw [if_neg hc] at eq_3; rw [show ((lenI x0) != (lenI x1)) = true from (by simpa using hc)] at S
   refine wl_pureK (l' := [(17, .bool true), (0, v0), (1, v1)]) S tys tys_ok 6 [17, 0, 1] (by kernel_rfl) ?_
   clear S; intro a S
   obtain rfl := Option.some.inj eq_3
   exact ⟨rfl, S.sub (by exact ⟨rfl, rfl, rfl, trivial⟩)⟩
 clear S eq_3; rintro a _ ⟨rfl, S⟩
 refine wpList_nil ?_
 refine then_n ?_
 refine wp_cond_split (S.eval (show ev _ _ = some (.bool q_3) from rfl)) ?_ ?_
 ·intro hc
  rw [if_pos hc] at h
  refine wp_seq ?_
  refine wp_region_lit ?_
  refine wl_pureK (l' := [(4, .bool false)]) S tys tys_ok 1 [4] (by kernel_rfl) ?_
  clear S; intro a S
  refine wpList_nil ?_
  refine then_n ?_
  refine wp_ret ?_
  refine then_r ?_
  obtain rfl := Option.some.inj h
  exact b_ret1 S rfl rfl ⟨_, rfl, RepV.mkBool, W.below⟩
 ·intro hc
  rw [if_neg (Bool.eq_false_iff.1 hc)] at h
  refine wp_skip ?_
  refine then_n ?_
  replace S := S.sub (l' := [(0, v0), (1, v1)]) (by exact ⟨rfl, rfl, trivial⟩)
  refine wp_seq ?_
  refine wp_seq ?_
  refine wp_region_lit ?_
  refine wl_pure (l' := [(5, .int .i64 0), (0, v0), (1, v1)]) S tys tys_ok 1 (by kernel_rfl) ?_
  clear S; intro a S
  refine wpList_nil ?_
  refine then_n ?_
  obtain ⟨y_11, ey_11, h⟩ := bindS h
  refine wp_cut_ (fun a_ w_ => ∃ s_12 : Unit, y_11 = .inl s_12 ∧ (St 49 a_ [] ∧ Wd w w_ [])) ?_ ?_
  ·refine wp_block ?_
   refine wp_loop_n (fun m_ a_ w_ => ∃ (c_7 : Int) , St 49 a_ [(5, .int .i64 c_7), (0, v0), (1, v1)] ∧ Wd w w_ [] ∧ InR .i64 c_7 ∧ RepV (.sl gt0) w_ (Kx K w.heap.size []) v0 x0 ∧ RepV (.sl gt0) w_ (Kx K w.heap.size []) v1 x1 ∧ p21_l1 n x0 x1 m_ c_7 = some y_11) n ?_ ?_
   ·skip
    exact ⟨0, ⟨S.sub (by exact ⟨rfl, rfl, rfl, trivial⟩), W, (by decide), R0, R1, ey_11⟩⟩
   ·clear S W; rintro m_13 a w_15 ⟨c_7, S, W, G_8, R0, R1, hl_14⟩
    cases m_13 with
    | zero => exact absurd hl_14 (by simp [p21_l1])
    | succ m_13 =>
     refine ⟨m_13, rfl, ?_⟩
     rw [p21_l1] at hl_14
     refine wp_seq ?_
     refine wp_seq ?_
     refine wp_region_lit ?_
     refine wl_pure (l' := [(19, v0), (18, .int .i64 c_7), (5, .int .i64 c_7), (0, v0), (1, v1)]) S tys tys_ok 2 (by kernel_rfl) ?_
     clear S; intro a S
     refine w_go S rfl (op_len (K := _) S rfl ty26 rfl rfl rfl R0 ?_)
     clear S; intro a G_16 S
     refine wl_pureK (l' := [(21, .bool (decide (c_7 < (lenI x0)))), (5, .int .i64 c_7), (0, v0), (1, v1)]) S tys tys_ok 1 [21, 5, 0, 1] (by kernel_rfl) ?_
     clear S; intro a S
     refine wpList_nil ?_
     refine then_n ?_
     refine wp_cond_split (S.eval (show ev _ _ = some (.bool (decide (c_7 < (lenI x0)))) from rfl)) ?_ ?_
     ·intro hc
      rw [if_pos hc] at hl_14
      refine wp_skip ?_
      refine then_n ?_
      replace S := S.sub (l' := [(5, .int .i64 c_7), (0, v0), (1, v1)]) (by exact ⟨rfl, rfl, rfl, trivial⟩)
      refine wp_seq ?_
      refine wp_block ?_
      refine wp_seq ?_
      obtain ⟨y_17, ey_17, hl_14⟩ := bindS hl_14
      obtain ⟨y_23, ey_23, hl_14⟩ := bindS hl_14
      obtain ⟨t_29, et_29, hl_14⟩ := bindS hl_14
      obtain ⟨q_34, eq_34, hl_14⟩ := bindS hl_14
      obtain ⟨y_36, y_42, HG_35⟩ : ∃ (y_36 : (Sl (Int)) × Bool) (y_42 : (Sl (Int)) × Bool) , ((!t_29) = false → (idx x0.xs c_7) = some y_36 ∧ (idx x1.xs c_7) = some y_42 ∧ (!(y_36.2 == y_42.2)) = q_34) ∧ (¬ (!t_29) = false → true = q_34) := by
       by_cases hc : (!t_29) = false
       ·rw [if_pos hc] at eq_34
        obtain ⟨y_36, ey_36, eq_34⟩ := bindS eq_34
        obtain ⟨y_42, ey_42, eq_34⟩ := bindS eq_34
        exact ⟨y_36, y_42, ⟨fun _ => ⟨ey_36, ey_42, Option.some.inj eq_34⟩, fun k_ => absurd hc k_⟩⟩
       ·rw [if_neg hc] at eq_34
        exact ⟨default, default, ⟨fun k_ => absurd k_ hc, fun _ => Option.some.inj eq_34⟩⟩
      have hR : Rel (Kx K w.heap.size []) Bl := Bl.rel _
      refine wp_region_all hR [isRep (.sl gt0) (Kx K w.heap.size []) x0, isI .i64 c_7, isEl gt0 (Kx K w.heap.size []) y_17, isEl (.sl (.int .u8)) (Kx K w.heap.size []) y_17.1, isRep (.sl (.int .u8)) (Kx K w.heap.size []) y_17.1, isRep (.sl gt0) (Kx K w.heap.size []) x1, isI .i64 c_7, isEl gt0 (Kx K w.heap.size []) y_23, isEl (.sl (.int .u8)) (Kx K w.heap.size []) y_23.1, isRep (.sl (.int .u8)) (Kx K w.heap.size []) y_23.1, eqv (.bool t_29), eqv (.bool (!t_29)), eqv (.bool (!t_29)), cndF (!t_29) false (isRep (.sl gt0) (Kx K w.heap.size []) x0), cndF (!t_29) false (isI .i64 c_7), cndF (!t_29) false (isEl gt0 (Kx K w.heap.size []) y_36), cndF (!t_29) false (isEl .bool (Kx K w.heap.size []) y_36.2), cndF (!t_29) false (eqv (.bool y_36.2)), cndF (!t_29) false (isRep (.sl gt0) (Kx K w.heap.size []) x1), cndF (!t_29) false (isI .i64 c_7), cndF (!t_29) false (isEl gt0 (Kx K w.heap.size []) y_42), cndF (!t_29) false (isEl .bool (Kx K w.heap.size []) y_42.2), cndF (!t_29) false (eqv (.bool y_42.2)), cndF (!t_29) false (eqv (.bool (!(y_36.2 == y_42.2)))), eqv (.bool q_34)] [[], [], [(0, 24), (1, 25)], [(2, 26)], [(3, 27)], [], [], [(5, 29), (6, 30)], [(7, 31)], [(8, 32)], [(4, 28), (9, 33)], [(10, 34)], [(11, 35)], [(12, 36)], [(12, 36)], [(13, 37), (14, 38), (12, 36)], [(15, 39), (12, 36)], [(16, 40), (12, 36)], [(12, 36)], [(12, 36)], [(18, 42), (19, 43), (12, 36)], [(20, 44), (12, 36)], [(21, 45), (12, 36)], [(17, 41), (22, 46), (12, 36)], [(12, 36), (23, 47)]] (by kernel_rfl) (by rw [S.size]; kernel_rfl) (by kernel_rfl) (by kernel_rfl) rfl ⟨(stab_rep hR), stab_I, (stab_el hR), (stab_el hR), (stab_rep hR), (stab_rep hR), stab_I, (stab_el hR), (stab_el hR), (stab_rep hR), (stab_eqv _), (stab_eqv _), (stab_eqv _), (stab_cnd (stab_rep hR)), (stab_cnd stab_I), (stab_cnd (stab_el hR)), (stab_cnd (stab_el hR)), (stab_cnd (stab_eqv _)), (stab_cnd (stab_rep hR)), (stab_cnd stab_I), (stab_cnd (stab_el hR)), (stab_cnd (stab_el hR)), (stab_cnd (stab_eqv _)), (stab_cnd (stab_eqv _)), (stab_eqv _), trivial⟩ ?_ ?_
      ·
       refine RunAll.cons (isRep (.sl gt0) (Kx K w.heap.size []) x0) [] rfl rfl ?_ ?_
       ·intro W_ hW
        have S1 := S
        replace R0 := R0.step hW
        exact RPost.one (v := v0) S1 tys tys_ok rfl (by kernel_rfl) S.defers R0 (Below.refl _ _)
       refine RunAll.cons (isI .i64 c_7) [] rfl rfl ?_ ?_
       ·intro W_ hW
        have S1 := S
        exact RPost.one (v := .int .i64 c_7) S1 tys tys_ok rfl (by kernel_rfl) S.defers ⟨rfl, G_8⟩ (Below.refl _ _)
       refine RunAll.cons (isEl gt0 (Kx K w.heap.size []) y_17) [(isRep (.sl gt0) (Kx K w.heap.size []) x0, 24), (isI .i64 c_7, 25)] rfl rfl ?_ ?_
       ·intro W_ hW
        have S1 := S
        intro v_49 hF_48; replace hF_48 : RepV _ _ _ _ _ := hF_48
        replace S1 := S1.put (by decide : 24 < 49) (v_49)
        rintro _ ⟨rfl, hF_50⟩
        replace S1 := S1.put (by decide : 25 < 49) (.int .i64 c_7)
        refine fill_nil S1 ?_; clear S1; intro a_ S1
        replace W := W.step hW
        have S0 := S.defers; replace S := S1; clear S1
        refine w_go S rfl (op_indexAddr S rfl ty26 rfl rfl rfl hF_48 rfl ey_17 ?_)
        clear S; intro a p_52 R_53 H_54 S
        refine wpList_nil ?_
        exact RPost.mk_ S rfl S0 ⟨_, rfl, R_53, H_54⟩ (Below.refl _ _)
       refine RunAll.cons (isEl (.sl (.int .u8)) (Kx K w.heap.size []) y_17.1) [(isEl gt0 (Kx K w.heap.size []) y_17, 26)] rfl rfl ?_ ?_
       ·intro W_ hW
        have S1 := S
        rintro _ ⟨p_57, rfl, R_58, H_59⟩
        replace S1 := S1.put (by decide : 26 < 49) (.pointer (some p_57))
        exact RPost.one (v := .pointer (some (p_57.add (coff gf0 0)))) S1 tys tys_ok rfl (by kernel_rfl) S.defers ⟨_, rfl, (RepAt.add 0 (RepAt.st (t := gf0) R_58)), (by simpa [Addr.add] using H_59)⟩ (Below.refl _ _)
       refine RunAll.cons (isRep (.sl (.int .u8)) (Kx K w.heap.size []) y_17.1) [(isEl (.sl (.int .u8)) (Kx K w.heap.size []) y_17.1, 27)] rfl rfl ?_ ?_
       ·intro W_ hW
        have S1 := S
        rintro _ ⟨p_62, rfl, R_63, H_64⟩
        replace S1 := S1.put (by decide : 27 < 49) (.pointer (some p_62))
        refine fill_nil S1 ?_; clear S1; intro a_ S1
        have S0 := S.defers; replace S := S1; clear S1
        refine w_go S rfl (op_load (t := (.sl (.int .u8))) (x := y_17.1) S rfl ty35 rfl rfl rfl R_63 ?_)
        clear S; intro a v_65 R_66 S
        refine wpList_nil ?_
        exact RPost.mk_ S rfl S0 R_66 (Below.refl _ _)
       refine RunAll.cons (isRep (.sl gt0) (Kx K w.heap.size []) x1) [] rfl rfl ?_ ?_
       ·intro W_ hW
        have S1 := S
        replace R1 := R1.step hW
        exact RPost.one (v := v1) S1 tys tys_ok rfl (by kernel_rfl) S.defers R1 (Below.refl _ _)
       refine RunAll.cons (isI .i64 c_7) [] rfl rfl ?_ ?_
       ·intro W_ hW
        have S1 := S
        exact RPost.one (v := .int .i64 c_7) S1 tys tys_ok rfl (by kernel_rfl) S.defers ⟨rfl, G_8⟩ (Below.refl _ _)
       refine RunAll.cons (isEl gt0 (Kx K w.heap.size []) y_23) [(isRep (.sl gt0) (Kx K w.heap.size []) x1, 29), (isI .i64 c_7, 30)] rfl rfl ?_ ?_
       ·intro W_ hW
        have S1 := S
        intro v_68 hF_67; replace hF_67 : RepV _ _ _ _ _ := hF_67
        replace S1 := S1.put (by decide : 29 < 49) (v_68)
        rintro _ ⟨rfl, hF_69⟩
        replace S1 := S1.put (by decide : 30 < 49) (.int .i64 c_7)
        refine fill_nil S1 ?_; clear S1; intro a_ S1
        replace W := W.step hW
        have S0 := S.defers; replace S := S1; clear S1
        refine w_go S rfl (op_indexAddr S rfl ty26 rfl rfl rfl hF_67 rfl ey_23 ?_)
        clear S; intro a p_71 R_72 H_73 S
        refine wpList_nil ?_
        exact RPost.mk_ S rfl S0 ⟨_, rfl, R_72, H_73⟩ (Below.refl _ _)
       refine RunAll.cons (isEl (.sl (.int .u8)) (Kx K w.heap.size []) y_23.1) [(isEl gt0 (Kx K w.heap.size []) y_23, 31)] rfl rfl ?_ ?_
       ·intro W_ hW
        have S1 := S
        rintro _ ⟨p_76, rfl, R_77, H_78⟩
        replace S1 := S1.put (by decide : 31 < 49) (.pointer (some p_76))
        exact RPost.one (v := .pointer (some (p_76.add (coff gf0 0)))) S1 tys tys_ok rfl (by kernel_rfl) S.defers ⟨_, rfl, (RepAt.add 0 (RepAt.st (t := gf0) R_77)), (by simpa [Addr.add] using H_78)⟩ (Below.refl _ _)
       refine RunAll.cons (isRep (.sl (.int .u8)) (Kx K w.heap.size []) y_23.1) [(isEl (.sl (.int .u8)) (Kx K w.heap.size []) y_23.1, 32)] rfl rfl ?_ ?_
       ·intro W_ hW
        have S1 := S
        rintro _ ⟨p_81, rfl, R_82, H_83⟩
        replace S1 := S1.put (by decide : 32 < 49) (.pointer (some p_81))
        refine fill_nil S1 ?_; clear S1; intro a_ S1
        have S0 := S.defers; replace S := S1; clear S1
        refine w_go S rfl (op_load (t := (.sl (.int .u8))) (x := y_23.1) S rfl ty35 rfl rfl rfl R_82 ?_)
        clear S; intro a v_84 R_85 S
        refine wpList_nil ?_
        exact RPost.mk_ S rfl S0 R_85 (Below.refl _ _)
       refine RunAll.cons (eqv (.bool t_29)) [(isRep (.sl (.int .u8)) (Kx K w.heap.size []) y_17.1, 28), (isRep (.sl (.int .u8)) (Kx K w.heap.size []) y_23.1, 33)] rfl rfl ?_ ?_
       ·intro W_ hW
        have S1 := S
        intro v_87 hF_86; replace hF_86 : RepV _ _ _ _ _ := hF_86
        replace S1 := S1.put (by decide : 28 < 49) (v_87)
        intro v_89 hF_88; replace hF_88 : RepV _ _ _ _ _ := hF_88
        replace S1 := S1.put (by decide : 33 < 49) (v_89)
        refine fill_nil S1 ?_; clear S1; intro a_ S1
        replace W := W.step hW
        have S0 := S.defers; replace S := S1; clear S1
        refine w_go S rfl (op_call (vs := [v_87, v_89]) S rfl cb22 rfl rfl rfl (c22 (Kx K w.heap.size []) n W_ y_17.1 _ hF_86 y_23.1 _ hF_88 et_29) ?_)
        rintro _ w_93 ⟨v_90, rfl, R_91, hb_92⟩; refine ⟨_, rfl, ?_⟩
        replace R_91 := RepV.back R_91 W
        clear S; intro a S
        obtain rfl := RepV.bool R_91
        refine wpList_nil ?_
        exact RPost.mk_ S rfl S0 rfl (hb_92)
       refine RunAll.cons (eqv (.bool (!t_29))) [(eqv (.bool t_29), 34)] rfl rfl ?_ ?_
       ·intro W_ hW
        have S1 := S
        intro v_95 hF_94; obtain rfl : .bool t_29 = v_95 := Eq.symm hF_94
        replace S1 := S1.put (by decide : 34 < 49) (.bool t_29)
        exact RPost.one (v := .bool (!t_29)) S1 tys tys_ok rfl (by kernel_rfl) S.defers rfl (Below.refl _ _)
       refine RunAll.cons (eqv (.bool (!t_29))) [(eqv (.bool (!t_29)), 35)] rfl rfl ?_ ?_
       ·intro W_ hW
        have S1 := S
        intro v_97 hF_96; obtain rfl : .bool (!t_29) = v_97 := Eq.symm hF_96
        replace S1 := S1.put (by decide : 35 < 49) (.bool (!t_29))
        exact RPost.one (v := .bool (!t_29)) S1 tys tys_ok rfl (by kernel_rfl) S.defers rfl (Below.refl _ _)
       refine RunAll.cons (cndF (!t_29) false (isRep (.sl gt0) (Kx K w.heap.size []) x0)) [(eqv (.bool (!t_29)), 36)] rfl rfl ?_ ?_
       ·intro W_ hW
        by_cases hc0 : (!t_29) = false
        ·have hl0 : (!t_29) = false := hc0
         have S1 := S
         intro v_99 hF_98; obtain rfl : .bool (!t_29) = v_99 := Eq.symm hF_98
         replace S1 := S1.put (by decide : 36 < 49) (.bool (!t_29))
         refine fill_nil S1 ?_; clear S1; intro a_ S1
         replace R0 := R0.step hW
         rw [show (!t_29) = false from hl0] at S1
         exact RPost.one (v := v0) S1 tys tys_ok rfl (by kernel_rfl) S.defers ⟨fun _ => R0, fun k_ => absurd hc0 k_⟩ (Below.refl _ _)
        ·have hl0 : (!t_29) = true := (by simpa using hc0)
         have S1 := S
         intro v_101 hF_100; obtain rfl : .bool (!t_29) = v_101 := Eq.symm hF_100
         replace S1 := S1.put (by decide : 36 < 49) (.bool (!t_29))
         refine fill_nil S1 ?_; clear S1; intro a_ S1
         rw [show (!t_29) = true from hl0] at S1
         exact RPost.one (v := undef) S1 tys tys_ok rfl (by kernel_rfl) S.defers ⟨fun k_ => absurd k_ hc0, fun _ => rfl⟩ (Below.refl _ _)
       refine RunAll.cons (cndF (!t_29) false (isI .i64 c_7)) [(eqv (.bool (!t_29)), 36)] rfl rfl ?_ ?_
       ·intro W_ hW
        by_cases hc0 : (!t_29) = false
        ·have hl0 : (!t_29) = false := hc0
         have S1 := S
         intro v_103 hF_102; obtain rfl : .bool (!t_29) = v_103 := Eq.symm hF_102
         replace S1 := S1.put (by decide : 36 < 49) (.bool (!t_29))
         refine fill_nil S1 ?_; clear S1; intro a_ S1
         rw [show (!t_29) = false from hl0] at S1
         exact RPost.one (v := .int .i64 c_7) S1 tys tys_ok rfl (by kernel_rfl) S.defers ⟨fun _ => ⟨rfl, G_8⟩, fun k_ => absurd hc0 k_⟩ (Below.refl _ _)
        ·have hl0 : (!t_29) = true := (by simpa using hc0)
         have S1 := S
         intro v_105 hF_104; obtain rfl : .bool (!t_29) = v_105 := Eq.symm hF_104
         replace S1 := S1.put (by decide : 36 < 49) (.bool (!t_29))
         refine fill_nil S1 ?_; clear S1; intro a_ S1
         rw [show (!t_29) = true from hl0] at S1
         exact RPost.one (v := undef) S1 tys tys_ok rfl (by kernel_rfl) S.defers ⟨fun k_ => absurd k_ hc0, fun _ => rfl⟩ (Below.refl _ _)
       refine RunAll.cons (cndF (!t_29) false (isEl gt0 (Kx K w.heap.size []) y_36)) [(cndF (!t_29) false (isRep (.sl gt0) (Kx K w.heap.size []) x0), 37), (cndF (!t_29) false (isI .i64 c_7), 38), (eqv (.bool (!t_29)), 36)] rfl rfl ?_ ?_
       ·intro W_ hW
        by_cases hc0 : (!t_29) = false
        ·have hl0 : (!t_29) = false := hc0
         have S1 := S
         intro v_106 hF_107
         replace hF_107 := cndF.pos hF_107 hc0
         revert hF_107
         revert v_106
         intro v_109 hF_108; replace hF_108 : RepV _ _ _ _ _ := hF_108
         replace S1 := S1.put (by decide : 37 < 49) (v_109)
         intro v_110 hF_111
         replace hF_111 := cndF.pos hF_111 hc0
         revert hF_111
         revert v_110
         rintro _ ⟨rfl, hF_112⟩
         replace S1 := S1.put (by decide : 38 < 49) (.int .i64 c_7)
         intro v_115 hF_114; obtain rfl : .bool (!t_29) = v_115 := Eq.symm hF_114
         replace S1 := S1.put (by decide : 36 < 49) (.bool (!t_29))
         refine fill_nil S1 ?_; clear S1; intro a_ S1
         replace W := W.step hW
         rw [show (!t_29) = false from hl0] at S1
         have S0 := S.defers; replace S := S1; clear S1
         obtain ⟨ey_36, ey_42, _⟩ := (HG_35).1 hc0
         refine w_go S rfl (op_indexAddr S rfl ty26 rfl rfl rfl hF_108 rfl ey_36 ?_)
         clear S; intro a p_116 R_117 H_118 S
         refine wpList_nil ?_
         exact RPost.mk_ S rfl S0 ⟨fun _ => ⟨_, rfl, R_117, H_118⟩, fun k_ => absurd hc0 k_⟩ (Below.refl _ _)
        ·have hl0 : (!t_29) = true := (by simpa using hc0)
         have S1 := S
         intro v_119 hF_120
         obtain rfl := cndF.neg hF_120 hc0
         replace S1 := S1.put (by decide : 37 < 49) (undef)
         intro v_121 hF_122
         obtain rfl := cndF.neg hF_122 hc0
         replace S1 := S1.put (by decide : 38 < 49) (undef)
         intro v_124 hF_123; obtain rfl : .bool (!t_29) = v_124 := Eq.symm hF_123
         replace S1 := S1.put (by decide : 36 < 49) (.bool (!t_29))
         refine fill_nil S1 ?_; clear S1; intro a_ S1
         rw [show (!t_29) = true from hl0] at S1
         exact RPost.one (v := undef) S1 tys tys_ok rfl (by kernel_rfl) S.defers ⟨fun k_ => absurd k_ hc0, fun _ => rfl⟩ (Below.refl _ _)
       refine RunAll.cons (cndF (!t_29) false (isEl .bool (Kx K w.heap.size []) y_36.2)) [(cndF (!t_29) false (isEl gt0 (Kx K w.heap.size []) y_36), 39), (eqv (.bool (!t_29)), 36)] rfl rfl ?_ ?_
       ·intro W_ hW
        by_cases hc0 : (!t_29) = false
        ·have hl0 : (!t_29) = false := hc0
         have S1 := S
         intro v_125 hF_126
         replace hF_126 := cndF.pos hF_126 hc0
         revert hF_126
         revert v_125
         rintro _ ⟨p_129, rfl, R_130, H_131⟩
         replace S1 := S1.put (by decide : 39 < 49) (.pointer (some p_129))
         intro v_133 hF_132; obtain rfl : .bool (!t_29) = v_133 := Eq.symm hF_132
         replace S1 := S1.put (by decide : 36 < 49) (.bool (!t_29))
         refine fill_nil S1 ?_; clear S1; intro a_ S1
         rw [show (!t_29) = false from hl0] at S1
         exact RPost.one (v := .pointer (some (p_129.add (coff gf0 1)))) S1 tys tys_ok rfl (by kernel_rfl) S.defers ⟨fun _ => ⟨_, rfl, (RepAt.add 1 (RepAt.st (t := gf0) R_130)), (by simpa [Addr.add] using H_131)⟩, fun k_ => absurd hc0 k_⟩ (Below.refl _ _)
        ·have hl0 : (!t_29) = true := (by simpa using hc0)
         have S1 := S
         intro v_134 hF_135
         obtain rfl := cndF.neg hF_135 hc0
         replace S1 := S1.put (by decide : 39 < 49) (undef)
         intro v_137 hF_136; obtain rfl : .bool (!t_29) = v_137 := Eq.symm hF_136
         replace S1 := S1.put (by decide : 36 < 49) (.bool (!t_29))
         refine fill_nil S1 ?_; clear S1; intro a_ S1
         rw [show (!t_29) = true from hl0] at S1
         exact RPost.one (v := undef) S1 tys tys_ok rfl (by kernel_rfl) S.defers ⟨fun k_ => absurd k_ hc0, fun _ => rfl⟩ (Below.refl _ _)
       refine RunAll.cons (cndF (!t_29) false (eqv (.bool y_36.2))) [(cndF (!t_29) false (isEl .bool (Kx K w.heap.size []) y_36.2), 40), (eqv (.bool (!t_29)), 36)] rfl rfl ?_ ?_
       ·intro W_ hW
        by_cases hc0 : (!t_29) = false
        ·have hl0 : (!t_29) = false := hc0
         have S1 := S
         intro v_138 hF_139
         replace hF_139 := cndF.pos hF_139 hc0
         revert hF_139
         revert v_138
         rintro _ ⟨p_142, rfl, R_143, H_144⟩
         replace S1 := S1.put (by decide : 40 < 49) (.pointer (some p_142))
         intro v_146 hF_145; obtain rfl : .bool (!t_29) = v_146 := Eq.symm hF_145
         replace S1 := S1.put (by decide : 36 < 49) (.bool (!t_29))
         refine fill_nil S1 ?_; clear S1; intro a_ S1
         rw [show (!t_29) = false from hl0] at S1
         have S0 := S.defers; replace S := S1; clear S1
         obtain ⟨ey_36, ey_42, _⟩ := (HG_35).1 hc0
         refine w_go S rfl (op_load (t := .bool) (x := y_36.2) S rfl ty4 rfl rfl rfl R_143 ?_)
         clear S; intro a v_147 R_148 S
         obtain rfl := RepV.bool R_148
         refine wpList_nil ?_
         exact RPost.mk_ S rfl S0 ⟨fun _ => rfl, fun k_ => absurd hc0 k_⟩ (Below.refl _ _)
        ·have hl0 : (!t_29) = true := (by simpa using hc0)
         have S1 := S
         intro v_149 hF_150
         obtain rfl := cndF.neg hF_150 hc0
         replace S1 := S1.put (by decide : 40 < 49) (undef)
         intro v_152 hF_151; obtain rfl : .bool (!t_29) = v_152 := Eq.symm hF_151
         replace S1 := S1.put (by decide : 36 < 49) (.bool (!t_29))
         refine fill_nil S1 ?_; clear S1; intro a_ S1
         rw [show (!t_29) = true from hl0] at S1
         exact RPost.one (v := undef) S1 tys tys_ok rfl (by kernel_rfl) S.defers ⟨fun k_ => absurd k_ hc0, fun _ => rfl⟩ (Below.refl _ _)
       refine RunAll.cons (cndF (!t_29) false (isRep (.sl gt0) (Kx K w.heap.size []) x1)) [(eqv (.bool (!t_29)), 36)] rfl rfl ?_ ?_
       ·intro W_ hW
        by_cases hc0 : (!t_29) = false
        ·have hl0 : (!t_29) = false := hc0
         have S1 := S
         intro v_154 hF_153; obtain rfl : .bool (!t_29) = v_154 := Eq.symm hF_153
         replace S1 := S1.put (by decide : 36 < 49) (.bool (!t_29))
         refine fill_nil S1 ?_; clear S1; intro a_ S1
         replace R1 := R1.step hW
         rw [show (!t_29) = false from hl0] at S1
         exact RPost.one (v := v1) S1 tys tys_ok rfl (by kernel_rfl) S.defers ⟨fun _ => R1, fun k_ => absurd hc0 k_⟩ (Below.refl _ _)
        ·have hl0 : (!t_29) = true := (by simpa using hc0)
         have S1 := S
         intro v_156 hF_155; obtain rfl : .bool (!t_29) = v_156 := Eq.symm hF_155
         replace S1 := S1.put (by decide : 36 < 49) (.bool (!t_29))
         refine fill_nil S1 ?_; clear S1; intro a_ S1
         rw [show (!t_29) = true from hl0] at S1
         exact RPost.one (v := undef) S1 tys tys_ok rfl (by kernel_rfl) S.defers ⟨fun k_ => absurd k_ hc0, fun _ => rfl⟩ (Below.refl _ _)
       refine RunAll.cons (cndF (!t_29) false (isI .i64 c_7)) [(eqv (.bool (!t_29)), 36)] rfl rfl ?_ ?_
       ·intro W_ hW
        by_cases hc0 : (!t_29) = false
        ·have hl0 : (!t_29) = false := hc0
         have S1 := S
         intro v_158 hF_157; obtain rfl : .bool (!t_29) = v_158 := Eq.symm hF_157
         replace S1 := S1.put (by decide : 36 < 49) (.bool (!t_29))
         refine fill_nil S1 ?_; clear S1; intro a_ S1
         rw [show (!t_29) = false from hl0] at S1
         exact RPost.one (v := .int .i64 c_7) S1 tys tys_ok rfl (by kernel_rfl) S.defers ⟨fun _ => ⟨rfl, G_8⟩, fun k_ => absurd hc0 k_⟩ (Below.refl _ _)
        ·have hl0 : (!t_29) = true := (by simpa using hc0)
         have S1 := S
         intro v_160 hF_159; obtain rfl : .bool (!t_29) = v_160 := Eq.symm hF_159
         replace S1 := S1.put (by decide : 36 < 49) (.bool (!t_29))
         refine fill_nil S1 ?_; clear S1; intro a_ S1
         rw [show (!t_29) = true from hl0] at S1
         exact RPost.one (v := undef) S1 tys tys_ok rfl (by kernel_rfl) S.defers ⟨fun k_ => absurd k_ hc0, fun _ => rfl⟩ (Below.refl _ _)
       refine RunAll.cons (cndF (!t_29) false (isEl gt0 (Kx K w.heap.size []) y_42)) [(cndF (!t_29) false (isRep (.sl gt0) (Kx K w.heap.size []) x1), 42), (cndF (!t_29) false (isI .i64 c_7), 43), (eqv (.bool (!t_29)), 36)] rfl rfl ?_ ?_
       ·intro W_ hW
        by_cases hc0 : (!t_29) = false
        ·have hl0 : (!t_29) = false := hc0
         have S1 := S
         intro v_161 hF_162
         replace hF_162 := cndF.pos hF_162 hc0
         revert hF_162
         revert v_161
         intro v_164 hF_163; replace hF_163 : RepV _ _ _ _ _ := hF_163
         replace S1 := S1.put (by decide : 42 < 49) (v_164)
         intro v_165 hF_166
         replace hF_166 := cndF.pos hF_166 hc0
         revert hF_166
         revert v_165
         rintro _ ⟨rfl, hF_167⟩
         replace S1 := S1.put (by decide : 43 < 49) (.int .i64 c_7)
         intro v_170 hF_169; obtain rfl : .bool (!t_29) = v_170 := Eq.symm hF_169
         replace S1 := S1.put (by decide : 36 < 49) (.bool (!t_29))
         refine fill_nil S1 ?_; clear S1; intro a_ S1
         replace W := W.step hW
         rw [show (!t_29) = false from hl0] at S1
         have S0 := S.defers; replace S := S1; clear S1
         obtain ⟨ey_36, ey_42, _⟩ := (HG_35).1 hc0
         refine w_go S rfl (op_indexAddr S rfl ty26 rfl rfl rfl hF_163 rfl ey_42 ?_)
         clear S; intro a p_171 R_172 H_173 S
         refine wpList_nil ?_
         exact RPost.mk_ S rfl S0 ⟨fun _ => ⟨_, rfl, R_172, H_173⟩, fun k_ => absurd hc0 k_⟩ (Below.refl _ _)
        ·have hl0 : (!t_29) = true := (by simpa using hc0)
         have S1 := S
         intro v_174 hF_175
         obtain rfl := cndF.neg hF_175 hc0
         replace S1 := S1.put (by decide : 42 < 49) (undef)
         intro v_176 hF_177
         obtain rfl := cndF.neg hF_177 hc0
         replace S1 := S1.put (by decide : 43 < 49) (undef)
         intro v_179 hF_178; obtain rfl : .bool (!t_29) = v_179 := Eq.symm hF_178
         replace S1 := S1.put (by decide : 36 < 49) (.bool (!t_29))
         refine fill_nil S1 ?_; clear S1; intro a_ S1
         rw [show (!t_29) = true from hl0] at S1
         exact RPost.one (v := undef) S1 tys tys_ok rfl (by kernel_rfl) S.defers ⟨fun k_ => absurd k_ hc0, fun _ => rfl⟩ (Below.refl _ _)
       refine RunAll.cons (cndF (!t_29) false (isEl .bool (Kx K w.heap.size []) y_42.2)) [(cndF (!t_29) false (isEl gt0 (Kx K w.heap.size []) y_42), 44), (eqv (.bool (!t_29)), 36)] rfl rfl ?_ ?_
       ·intro W_ hW
        by_cases hc0 : (!t_29) = false
        ·have hl0 : (!t_29) = false := hc0
         have S1 := S
         intro v_180 hF_181
         replace hF_181 := cndF.pos hF_181 hc0
         revert hF_181
         revert v_180
         rintro _ ⟨p_184, rfl, R_185, H_186⟩
         replace S1 := S1.put (by decide : 44 < 49) (.pointer (some p_184))
         intro v_188 hF_187; obtain rfl : .bool (!t_29) = v_188 := Eq.symm hF_187
         replace S1 := S1.put (by decide : 36 < 49) (.bool (!t_29))
         refine fill_nil S1 ?_; clear S1; intro a_ S1
         rw [show (!t_29) = false from hl0] at S1
         exact RPost.one (v := .pointer (some (p_184.add (coff gf0 1)))) S1 tys tys_ok rfl (by kernel_rfl) S.defers ⟨fun _ => ⟨_, rfl, (RepAt.add 1 (RepAt.st (t := gf0) R_185)), (by simpa [Addr.add] using H_186)⟩, fun k_ => absurd hc0 k_⟩ (Below.refl _ _)
        ·have hl0 : (!t_29) = true := (by simpa using hc0)
         have S1 := S
         intro v_189 hF_190
         obtain rfl := cndF.neg hF_190 hc0
         replace S1 := S1.put (by decide : 44 < 49) (undef)
         intro v_192 hF_191; obtain rfl : .bool (!t_29) = v_192 := Eq.symm hF_191
         replace S1 := S1.put (by decide : 36 < 49) (.bool (!t_29))
         refine fill_nil S1 ?_; clear S1; intro a_ S1
         rw [show (!t_29) = true from hl0] at S1
         exact RPost.one (v := undef) S1 tys tys_ok rfl (by kernel_rfl) S.defers ⟨fun k_ => absurd k_ hc0, fun _ => rfl⟩ (Below.refl _ _)
       refine RunAll.cons (cndF (!t_29) false (eqv (.bool y_42.2))) [(cndF (!t_29) false (isEl .bool (Kx K w.heap.size []) y_42.2), 45), (eqv (.bool (!t_29)), 36)] rfl rfl ?_ ?_
       ·intro W_ hW
        by_cases hc0 : (!t_29) = false
        ·have hl0 : (!t_29) = false := hc0
         have S1 := S
         intro v_193 hF_194
         replace hF_194 := cndF.pos hF_194 hc0
         revert hF_194
         revert v_193
         rintro _ ⟨p_197, rfl, R_198, H_199⟩
         replace S1 := S1.put (by decide : 45 < 49) (.pointer (some p_197))
         intro v_201 hF_200; obtain rfl : .bool (!t_29) = v_201 := Eq.symm hF_200
         replace S1 := S1.put (by decide : 36 < 49) (.bool (!t_29))
         refine fill_nil S1 ?_; clear S1; intro a_ S1
         rw [show (!t_29) = false from hl0] at S1
         have S0 := S.defers; replace S := S1; clear S1
         obtain ⟨ey_36, ey_42, _⟩ := (HG_35).1 hc0
         refine w_go S rfl (op_load (t := .bool) (x := y_42.2) S rfl ty4 rfl rfl rfl R_198 ?_)
         clear S; intro a v_202 R_203 S
         obtain rfl := RepV.bool R_203
         refine wpList_nil ?_
         exact RPost.mk_ S rfl S0 ⟨fun _ => rfl, fun k_ => absurd hc0 k_⟩ (Below.refl _ _)
        ·have hl0 : (!t_29) = true := (by simpa using hc0)
         have S1 := S
         intro v_204 hF_205
         obtain rfl := cndF.neg hF_205 hc0
         replace S1 := S1.put (by decide : 45 < 49) (undef)
         intro v_207 hF_206; obtain rfl : .bool (!t_29) = v_207 := Eq.symm hF_206
         replace S1 := S1.put (by decide : 36 < 49) (.bool (!t_29))
         refine fill_nil S1 ?_; clear S1; intro a_ S1
         rw [show (!t_29) = true from hl0] at S1
         exact RPost.one (v := undef) S1 tys tys_ok rfl (by kernel_rfl) S.defers ⟨fun k_ => absurd k_ hc0, fun _ => rfl⟩ (Below.refl _ _)
       refine RunAll.cons (cndF (!t_29) false (eqv (.bool (!(y_36.2 == y_42.2))))) [(cndF (!t_29) false (eqv (.bool y_36.2)), 41), (cndF (!t_29) false (eqv (.bool y_42.2)), 46), (eqv (.bool (!t_29)), 36)] rfl rfl ?_ ?_
       ·intro W_ hW
        by_cases hc0 : (!t_29) = false
        ·have hl0 : (!t_29) = false := hc0
         have S1 := S
         intro v_208 hF_209
         replace hF_209 := cndF.pos hF_209 hc0
         revert hF_209
         revert v_208
         intro v_211 hF_210; obtain rfl : .bool y_36.2 = v_211 := Eq.symm hF_210
         replace S1 := S1.put (by decide : 41 < 49) (.bool y_36.2)
         intro v_212 hF_213
         replace hF_213 := cndF.pos hF_213 hc0
         revert hF_213
         revert v_212
         intro v_215 hF_214; obtain rfl : .bool y_42.2 = v_215 := Eq.symm hF_214
         replace S1 := S1.put (by decide : 46 < 49) (.bool y_42.2)
         intro v_217 hF_216; obtain rfl : .bool (!t_29) = v_217 := Eq.symm hF_216
         replace S1 := S1.put (by decide : 36 < 49) (.bool (!t_29))
         refine fill_nil S1 ?_; clear S1; intro a_ S1
         rw [show (!t_29) = false from hl0] at S1
         exact RPost.one (v := .bool (!(y_36.2 == y_42.2))) S1 tys tys_ok rfl (by kernel_rfl) S.defers ⟨fun _ => rfl, fun k_ => absurd hc0 k_⟩ (Below.refl _ _)
        ·have hl0 : (!t_29) = true := (by simpa using hc0)
         have S1 := S
         intro v_218 hF_219
         obtain rfl := cndF.neg hF_219 hc0
         replace S1 := S1.put (by decide : 41 < 49) (undef)
         intro v_220 hF_221
         obtain rfl := cndF.neg hF_221 hc0
         replace S1 := S1.put (by decide : 46 < 49) (undef)
         intro v_223 hF_222; obtain rfl : .bool (!t_29) = v_223 := Eq.symm hF_222
         replace S1 := S1.put (by decide : 36 < 49) (.bool (!t_29))
         refine fill_nil S1 ?_; clear S1; intro a_ S1
         rw [show (!t_29) = true from hl0] at S1
         exact RPost.one (v := undef) S1 tys tys_ok rfl (by kernel_rfl) S.defers ⟨fun k_ => absurd k_ hc0, fun _ => rfl⟩ (Below.refl _ _)
       refine RunAll.cons (eqv (.bool q_34)) [(eqv (.bool (!t_29)), 36), (cndF (!t_29) false (eqv (.bool (!(y_36.2 == y_42.2)))), 47)] rfl rfl ?_ ?_
       ·intro W_ hW
        by_cases hc0 : (!t_29) = false
        ·have hl0 : (!t_29) = false := hc0
         have S1 := S
         intro v_225 hF_224; obtain rfl : .bool (!t_29) = v_225 := Eq.symm hF_224
         replace S1 := S1.put (by decide : 36 < 49) (.bool (!t_29))
         intro v_226 hF_227
         replace hF_227 := cndF.pos hF_227 hc0
         revert hF_227
         revert v_226
         intro v_229 hF_228; obtain rfl : .bool (!(y_36.2 == y_42.2)) = v_229 := Eq.symm hF_228
         replace S1 := S1.put (by decide : 47 < 49) (.bool (!(y_36.2 == y_42.2)))
         refine fill_nil S1 ?_; clear S1; intro a_ S1
         rw [show (!t_29) = false from hl0] at S1
         exact RPost.one (v := .bool (!(y_36.2 == y_42.2))) S1 tys tys_ok rfl (by kernel_rfl) S.defers (congrArg Value.bool ((HG_35).1 hc0).2.2) (Below.refl _ _)
        ·have hl0 : (!t_29) = true := (by simpa using hc0)
         have S1 := S
         intro v_231 hF_230; obtain rfl : .bool (!t_29) = v_231 := Eq.symm hF_230
         replace S1 := S1.put (by decide : 36 < 49) (.bool (!t_29))
         intro v_232 hF_233
         obtain rfl := cndF.neg hF_233 hc0
         replace S1 := S1.put (by decide : 47 < 49) (undef)
         refine fill_nil S1 ?_; clear S1; intro a_ S1
         rw [show (!t_29) = true from hl0] at S1
         exact RPost.one (v := .bool true) S1 tys tys_ok rfl (by kernel_rfl) S.defers (congrArg Value.bool ((HG_35).2 hc0)) (Below.refl _ _)
       exact trivial
      intro w_234 hb_235
      refine EndE.some_ rfl ?_
      intro v_237 hF_236; replace hF_236 : RepV _ _ _ _ _ := hF_236
      replace S := S.put (by decide : 24 < 49) (v_237)
      refine EndE.some_ rfl ?_
      rintro _ ⟨rfl, hF_238⟩
      replace S := S.put (by decide : 25 < 49) (.int .i64 c_7)
      refine EndE.some_ rfl ?_
      rintro _ ⟨p_242, rfl, R_243, H_244⟩
      replace S := S.put (by decide : 26 < 49) (.pointer (some p_242))
      refine EndE.some_ rfl ?_
      rintro _ ⟨p_247, rfl, R_248, H_249⟩
      replace S := S.put (by decide : 27 < 49) (.pointer (some p_247))
      refine EndE.some_ rfl ?_
      intro v_251 hF_250; replace hF_250 : RepV _ _ _ _ _ := hF_250
      replace S := S.put (by decide : 28 < 49) (v_251)
      refine EndE.some_ rfl ?_
      intro v_253 hF_252; replace hF_252 : RepV _ _ _ _ _ := hF_252
      replace S := S.put (by decide : 29 < 49) (v_253)
      refine EndE.some_ rfl ?_
      rintro _ ⟨rfl, hF_254⟩
      replace S := S.put (by decide : 30 < 49) (.int .i64 c_7)
      refine EndE.some_ rfl ?_
      rintro _ ⟨p_258, rfl, R_259, H_260⟩
      replace S := S.put (by decide : 31 < 49) (.pointer (some p_258))
      refine EndE.some_ rfl ?_
      rintro _ ⟨p_263, rfl, R_264, H_265⟩
      replace S := S.put (by decide : 32 < 49) (.pointer (some p_263))
      refine EndE.some_ rfl ?_
      intro v_267 hF_266; replace hF_266 : RepV _ _ _ _ _ := hF_266
      replace S := S.put (by decide : 33 < 49) (v_267)
      refine EndE.some_ rfl ?_
      intro v_269 hF_268; obtain rfl : .bool t_29 = v_269 := Eq.symm hF_268
      replace S := S.put (by decide : 34 < 49) (.bool t_29)
      refine EndE.some_ rfl ?_
      intro v_271 hF_270; obtain rfl : .bool (!t_29) = v_271 := Eq.symm hF_270
      replace S := S.put (by decide : 35 < 49) (.bool (!t_29))
      refine EndE.some_ rfl ?_
      intro v_273 hF_272; obtain rfl : .bool (!t_29) = v_273 := Eq.symm hF_272
      replace S := S.put (by decide : 36 < 49) (.bool (!t_29))
      refine EndE.some_ rfl ?_
      intro v_274 _
      replace S := S.put (by decide : 37 < 49) (v_274)
      refine EndE.some_ rfl ?_
      intro v_275 _
      replace S := S.put (by decide : 38 < 49) (v_275)
      refine EndE.some_ rfl ?_
      intro v_276 _
      replace S := S.put (by decide : 39 < 49) (v_276)
      refine EndE.some_ rfl ?_
      intro v_277 _
      replace S := S.put (by decide : 40 < 49) (v_277)
      refine EndE.some_ rfl ?_
      intro v_278 _
      replace S := S.put (by decide : 41 < 49) (v_278)
      refine EndE.some_ rfl ?_
      intro v_279 _
      replace S := S.put (by decide : 42 < 49) (v_279)
      refine EndE.some_ rfl ?_
      intro v_280 _
      replace S := S.put (by decide : 43 < 49) (v_280)
      refine EndE.some_ rfl ?_
      intro v_281 _
      replace S := S.put (by decide : 44 < 49) (v_281)
      refine EndE.some_ rfl ?_
      intro v_282 _
      replace S := S.put (by decide : 45 < 49) (v_282)
      refine EndE.some_ rfl ?_
      intro v_283 _
      replace S := S.put (by decide : 46 < 49) (v_283)
      refine EndE.some_ rfl ?_
      intro v_284 _
      replace S := S.put (by decide : 47 < 49) (v_284)
      refine EndE.some_ rfl ?_
      intro v_286 hF_285; obtain rfl : .bool q_34 = v_286 := Eq.symm hF_285
      replace S := S.put (by decide : 48 < 49) (.bool q_34)
      refine endE_nil S ?_; clear S; intro a S
      replace R0 := R0.step hb_235
      replace R1 := R1.step hb_235
      replace W := W.step hb_235
      refine then_n ?_
      replace S := S.sub (l' := [(48, .bool q_34), (5, .int .i64 c_7), (0, v0), (1, v1)]) (by exact ⟨rfl, rfl, rfl, rfl, trivial⟩)
      refine wp_cond_split (S.eval (show ev _ _ = some (.bool q_34) from rfl)) ?_ ?_
      ·intro hc
       rw [if_pos hc] at hl_14
       refine wp_seq ?_
       refine wp_region_lit ?_
       refine wl_pureK (l' := [(4, .bool false)]) S tys tys_ok 1 [4] (by kernel_rfl) ?_
       clear S; intro a S
       refine wpList_nil ?_
       refine then_n ?_
       refine wp_ret ?_
       refine blk_r ?_
       refine then_r ?_
       refine then_r ?_
       refine blk_r ?_
       refine then_r ?_
       refine then_r ?_
       obtain rfl := Option.some.inj hl_14
       obtain rfl := lr_inr h
       exact b_ret1 S rfl rfl ⟨_, rfl, RepV.mkBool, W.below⟩
      ·intro hc
       rw [if_neg (Bool.eq_false_iff.1 hc)] at hl_14
       refine wp_skip ?_
       refine blk_n ?_
       refine then_n ?_
       replace S := S.sub (l' := [(5, .int .i64 c_7), (0, v0), (1, v1)]) (by exact ⟨rfl, rfl, rfl, trivial⟩)
       refine wp_region_lit ?_
       refine wl_pure (l' := [(22, .int .i64 c_7), (5, .int .i64 c_7), (0, v0), (1, v1)]) S tys tys_ok 1 (by kernel_rfl) ?_
       clear S; intro a S
       obtain ⟨x_287, ex_287, hl_14⟩ := bindS hl_14
       refine w_go S rfl (op_arith S .i64 (c_7 + 1) rfl (.inl rfl) rfl rfl rfl rfl ex_287 ?_)
       clear S; intro a S
       refine wl_pure (l' := [(5, .int .i64 x_287), (23, .int .i64 x_287), (22, .int .i64 c_7), (5, .int .i64 c_7), (0, v0), (1, v1)]) S tys tys_ok 1 (by kernel_rfl) ?_
       clear S; intro a S
       refine wpList_nil ?_
       refine then_n ?_
       exact ⟨x_287, ⟨S.sub (by exact ⟨rfl, rfl, rfl, trivial⟩), W, (ckI_some ex_287).2.1, R0, R1, hl_14⟩⟩
     ·intro hc
      rw [if_neg (Bool.eq_false_iff.1 hc)] at hl_14
      refine wp_exit ?_
      refine then_x ?_
      refine then_x ?_
      refine blk_hit ?_
      refine then_n ?_
      obtain rfl := Option.some.inj hl_14
      exact ⟨_, rfl, ⟨S.sub trivial, W⟩⟩
  clear S W; rintro a w_288 ⟨s_12, rfl, S, W⟩
  replace h := lr_inl h; try dsimp only at h
  refine then_n ?_
  refine wp_seq ?_
  refine wp_region_lit ?_
  refine wl_pure (l' := [(4, .bool true)]) S tys tys_ok 1 (by kernel_rfl) ?_
  clear S; intro a S
  refine wpList_nil ?_
  refine then_n ?_
  refine wp_ret ?_
  obtain rfl := Option.some.inj h
  exact b_ret1 S rfl rfl ⟨_, rfl, RepV.mkBool, W.below⟩
theorem cb21 : callB Try.prog 21 = true := by kernel_rfl

end Go.Proofs.Ytflieonbbggmhaa
