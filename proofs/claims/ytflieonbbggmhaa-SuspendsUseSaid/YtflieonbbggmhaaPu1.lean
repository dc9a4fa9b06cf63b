/- Functions of the program, as plain data. -/
import Derived.Test.YtflieonbbggmhaaP3
set_option linter.unusedVariables false
set_option linter.unusedSimpArgs false
namespace Go.Proofs.Ytflieonbbggmhaa
open Go.RowKit

def p6_l1 (n : Nat) (x0 : Sl (Int × Int × Bool × Int)) : Nat → (Int) → (Sl ((Sl (Int)) × Bool × Bool × Bool × Int)) → Option ((Sl ((Sl (Int)) × Bool × Bool × Bool × Int)))
  | 0, _, _ => .none
  | m + 1, c_7, c_9 => if (decide (c_7 < (lenI x0))) then ((idx x0.xs c_7).bind fun y_24 => (p9 n c_9 y_24).bind fun t_30 => (if (t_30.2.2 == 0) then (some t_30.1) else some c_9).bind fun (j_39 : (Sl ((Sl (Int)) × Bool × Bool × Bool × Int))) => (ckI .i64 (c_7 + 1)).bind fun x_43 => p6_l1 n x0 m x_43 j_39) else some c_9
def p6_l2 (n : Nat) (y_17 : (Sl ((Sl (Int)) × Bool × Bool × Bool × Int))) (t_45 : (Sl (Int))) (t_50 : (Int)) (t_55 : (Sl ((Sl (Int)) × Bool × Bool × Bool × Int)) × (Sl ((Sl (Int)) × Bool)) × (Int)) : Nat → (Int) → (Int) → Option (((Int)) ⊕ ((Bool)))
  | 0, _, _ => .none
  | m + 1, c_87, c_89 => if (decide (c_87 < (lenI y_17))) then ((if (c_87 == t_50) = false then (idx y_17.xs c_87).bind fun y_103 => (p11 n y_103.1 t_45).bind fun t_109 => some t_109 else some true).bind fun q_102 => (if q_102 then ((idx t_55.1.xs c_87).bind fun y_118 => if y_118.2.2.2.1 then (some (.inr false)) else (idx y_17.xs c_87).bind fun y_124 => (if y_124.2.2.2.1 then ((ckI .i64 (c_89 + 1)).bind fun x_132 => some x_132) else some c_89).bind fun (j_130 : (Int)) => some (.inl j_130)) else (idx t_55.1.xs c_87).bind fun y_134 => (idx y_17.xs c_87).bind fun y_140 => if (!(y_134.2.2.2.1 == y_140.2.2.2.1)) then (some (.inr false)) else some (.inl c_89)).bind fun (j_115 : ((Int)) ⊕ ((Bool))) => lrK j_115 (fun r => some (.inr r)) fun (s_116 : (Int)) => (ckI .i64 (c_87 + 1)).bind fun x_225 => p6_l2 n y_17 t_45 t_50 t_55 m x_225 s_116) else some (.inl c_89)
def p6 (n : Nat) (x0 : Sl (Int × Int × Bool × Int)) (x1 : Int) : Option ((Bool)) :=
  if (decide ((lenI x0) > 40)) then ((p8 n).bind fun t_2 => some t_2) else (p6_l1 n x0 n 0 (⟨[], some 0⟩)).bind fun (y_17 : (Sl ((Sl (Int)) × Bool × Bool × Bool × Int))) => (p20 n x1).bind fun t_45 => (p10 n y_17 t_45).bind fun t_50 => (p17 n y_17 t_45 true).bind fun t_55 => (p18 n y_17 t_45).bind fun t_64 => if (decide (t_50 < 0)) then ((if (t_55.2.2 == 7) = true then some (t_64.2.2 == 7) else some false).bind fun q_73 => (if q_73 = true then (p8 n).bind fun t_75 => some t_75 else some false).bind fun q_74 => some q_74) else (if ((lenI (⟨t_55.1.xs, t_55.1.cap⟩ : Sl ((Sl (Int)) × Bool × Bool × Bool × Int))) != (lenI y_17)) = false then (if (t_64.2.2 == 0) = true then some ((lenI (⟨t_64.1.xs, t_64.1.cap⟩ : Sl ((Sl (Int)) × Bool × Bool × Bool × Int))) != (lenI y_17)) else some false).bind fun q_84 => some q_84 else some true).bind fun q_83 => if q_83 then (some false) else (p6_l2 n y_17 t_45 t_50 t_55 n 0 0).bind fun (y_95 : ((Int)) ⊕ ((Bool))) => lrK y_95 some fun (s_96 : (Int)) => (if (t_55.2.2 != 0) = false then some ((lenI t_55.2.1) != s_96) else some true).bind fun q_227 => (if q_227 = false then (idx t_55.1.xs t_50).bind fun y_230 => some (!y_230.2.1) else some true).bind fun q_229 => (if q_229 = false then (idx y_17.xs t_50).bind fun y_237 => (if y_237.2.2.2.1 = true then (idx y_17.xs t_50).bind fun y_244 => some y_244.2.2.1 else some false).bind fun q_243 => some (!((t_64.2.2 == 0) == q_243)) else some true).bind fun q_236 => if q_236 then (some false) else if (t_64.2.2 != 0) then ((if (t_64.2.2 == 6) = true then (ckI .i64 ((lenI (⟨t_64.1.xs, t_64.1.cap⟩ : Sl ((Sl (Int)) × Bool × Bool × Bool × Int))) + (lenI t_64.2.1))).bind fun x_253 => some (x_253 == 0) else some false).bind fun q_250 => (if q_250 = true then (p8 n).bind fun t_255 => some t_255 else some false).bind fun q_254 => some q_254) else (p21 n t_64.2.1 t_55.2.1).bind fun t_261 => (if t_261 = true then (idx t_64.1.xs t_50).bind fun y_267 => some (!y_267.2.1) else some false).bind fun q_266 => (if q_266 = true then (p8 n).bind fun t_274 => some t_274 else some false).bind fun q_273 => some q_273
set_option maxHeartbeats 4000000 in
set_option maxRecDepth 100000 in
/-- plugboard/plugboardlaw32.SuspendsUse -/
theorem c6 (K : Nat → Prop) (n : Nat) (w : World) (x0 : Sl (Int × Int × Bool × Int)) (v0 : Value) (R0 : RepV (.sl gt1) w K v0 x0) (x1 : Int) (G1 : InR .u8 x1) {r : (Bool)} (h : p6 n x0 x1 = some r) :
    Calls Try.prog 6 #[v0, .int .u8 x1] w (Ret1 .bool w (Kx K w.heap.size []) r) := by
  refine enter (args := [v0, .int .u8 x1]) Try.func6 rfl 192 rfl rfl fun a S => ?_
  have W := Wd.start w
  replace R0 := R0.arg
  unfold p6 at h
  replace S : St 192 a [(0, v0), (1, .int .u8 x1)] := S
  refine wp_seq ?_
  refine wp_region_lit ?_
  refine wl_pure (l' := [(4, .bool false), (0, v0), (1, .int .u8 x1)]) S tys tys_ok 1 (by kernel_rfl) ?_
  clear S; intro a S
  refine wpList_nil ?_
  refine then_n ?_
  replace S := S.sub (l' := [(0, v0), (1, .int .u8 x1)]) (by exact ⟨rfl, rfl, trivial⟩)
  refine wp_seq ?_
  refine wp_seq ?_
  refine wp_region_lit ?_
  refine wl_pure (l' := [(20, v0), (0, v0), (1, .int .u8 x1)]) S tys tys_ok 1 (by kernel_rfl) ?_
  clear S; intro a S
  refine w_go S rfl (op_len (K := _) S rfl ty22 rfl rfl rfl R0 ?_)
  clear S; intro a G_1 S
  refine wl_pure (l' := [(22, .bool (decide ((lenI x0) > 40))), (21, .int .i64 (lenI x0)), (20, v0), (0, v0), (1, .int .u8 x1)]) S tys tys_ok 1 (by kernel_rfl) ?_
  clear S; intro a S
  refine wpList_nil ?_
  refine then_n ?_
  replace S := S.sub (l' := [(22, .bool (decide ((lenI x0) > 40))), (0, v0), (1, .int .u8 x1)]) (by exact ⟨rfl, rfl, rfl, trivial⟩)
  refine wp_cond_split (S.eval (show ev _ _ = some (.bool (decide ((lenI x0) > 40))) from rfl)) ?_ ?_
  · intro hc
    rw [if_pos hc] at h
    refine wp_seq ?_
    refine wp_region_lit ?_
    obtain ⟨t_2, et_2, h⟩ := bindS h
    refine w_go S rfl (op_call (vs := []) S rfl cb8 rfl rfl rfl (c8 (Kx K w.heap.size []) n w  et_2) ?_)
    rintro _ w_6 ⟨v_3, rfl, R_4, hb_5⟩; refine ⟨_, rfl, ?_⟩
    replace R_4 := RepV.back R_4 W
    clear S; intro a S
    replace R0 := R0.step hb_5
    replace W := W.step hb_5
    obtain rfl := RepV.bool R_4
    refine wl_pureK (l' := [(4, .bool t_2)]) S tys tys_ok 1 [4] (by kernel_rfl) ?_
    clear S; intro a S
    refine wpList_nil ?_
    refine then_n ?_
    refine wp_ret ?_
    refine then_r ?_
    obtain rfl := Option.some.inj h
    exact b_ret1 S rfl rfl ⟨_, rfl, RepV.mkBool, W.below⟩
  · intro hc
    rw [if_neg (Bool.eq_false_iff.1 hc)] at h
    refine wp_skip ?_
    refine then_n ?_
    replace S := S.sub (l' := [(0, v0), (1, .int .u8 x1)]) (by exact ⟨rfl, rfl, trivial⟩)
    refine wp_seq ?_
    refine wp_region_lit ?_
    refine wl_pure (l' := [(5, .slice .none 0 0), (0, v0), (1, .int .u8 x1)]) S tys tys_ok 1 (by kernel_rfl) ?_
    clear S; intro a S
    refine wpList_nil ?_
    refine then_n ?_
    refine wp_seq ?_
    refine wp_seq ?_
    refine wp_region_lit ?_
    refine wl_pure (l' := [(6, .int .i64 0), (5, .slice .none 0 0), (0, v0), (1, .int .u8 x1)]) S tys tys_ok 1 (by kernel_rfl) ?_
    clear S; intro a S
    refine wpList_nil ?_
    refine then_n ?_
    obtain ⟨y_17, ey_17, h⟩ := bindS h
    refine wp_cut_ (fun a_ w_ => ∃ (v_18 : Value), St 192 a_ [(1, .int .u8 x1), (5, v_18)] ∧ Wd w w_ [] ∧ RepV (.sl gt2) w_ (Kx K w.heap.size []) v_18 y_17) ?_ ?_
    · refine wp_block ?_
      refine wp_loop_n (fun m_ a_ w_ => ∃ (c_7 : Int) (c_9 : Sl ((Sl (Int)) × Bool × Bool × Bool × Int)) , ∃ (v_10 : Value), St 192 a_ [(6, .int .i64 c_7), (5, v_10), (0, v0), (1, .int .u8 x1)] ∧ Wd w w_ [] ∧ InR .i64 c_7 ∧ RepV (.sl gt2) w_ (Kx K w.heap.size []) v_10 c_9 ∧ RepV (.sl gt1) w_ (Kx K w.heap.size []) v0 x0 ∧ p6_l1 n x0 m_ c_7 c_9 = some y_17) n ?_ ?_
      · skip
        exact ⟨0, ⟨[], some 0⟩, ⟨.slice .none 0 0, S.sub (by exact ⟨rfl, rfl, rfl, rfl, trivial⟩), W, (by decide), RepV.nil, R0, ey_17⟩⟩
      · clear S W; rintro m_20 a w_22 ⟨c_7, c_9, v_10, S, W, G_8, R_11, R0, hl_21⟩
        cases m_20 with
        | zero => exact absurd hl_21 (by simp [p6_l1])
        | succ m_20 =>
          refine ⟨m_20, rfl, ?_⟩
          rw [p6_l1] at hl_21
          refine wp_seq ?_
          refine wp_seq ?_
          refine wp_region_lit ?_
          refine wl_pure (l' := [(25, v0), (24, .int .i64 c_7), (6, .int .i64 c_7), (5, v_10), (0, v0), (1, .int .u8 x1)]) S tys tys_ok 2 (by kernel_rfl) ?_
          clear S; intro a S
          refine w_go S rfl (op_len (K := _) S rfl ty22 rfl rfl rfl R0 ?_)
          clear S; intro a G_23 S
          refine wl_pureK (l' := [(27, .bool (decide (c_7 < (lenI x0)))), (6, .int .i64 c_7), (5, v_10), (0, v0), (1, .int .u8 x1)]) S tys tys_ok 1 [27, 6, 5, 0, 1] (by kernel_rfl) ?_
          clear S; intro a S
          refine wpList_nil ?_
          refine then_n ?_
          refine wp_cond_split (S.eval (show ev _ _ = some (.bool (decide (c_7 < (lenI x0)))) from rfl)) ?_ ?_
          · intro hc
            rw [if_pos hc] at hl_21
            refine wp_skip ?_
            refine then_n ?_
            replace S := S.sub (l' := [(6, .int .i64 c_7), (5, v_10), (0, v0), (1, .int .u8 x1)]) (by exact ⟨rfl, rfl, rfl, rfl, trivial⟩)
            refine wp_seq ?_
            refine wp_block ?_
            refine wp_seq ?_
            refine wp_region_lit ?_
            refine wl_pure (l' := [(33, .int .i64 c_7), (32, v0), (31, v_10), (6, .int .i64 c_7), (5, v_10), (0, v0), (1, .int .u8 x1)]) S tys tys_ok 3 (by kernel_rfl) ?_
            clear S; intro a S
            obtain ⟨y_24, ey_24, hl_21⟩ := bindS hl_21
            refine w_go S rfl (op_indexAddr S rfl ty22 rfl rfl rfl R0 rfl ey_24 ?_)
            clear S; intro a p_25 R_26 H_27 S
            refine w_go S rfl (op_load (t := gt1) (x := y_24) S rfl ty31 rfl rfl rfl R_26 ?_)
            clear S; intro a v_28 R_29 S
            obtain ⟨t_30, et_30, hl_21⟩ := bindS hl_21
            refine w_go S rfl (op_call (vs := [v_10, v_28]) S rfl cb9 rfl rfl rfl (c9 (Kx K w.heap.size []) n w_22 c_9 _ R_11 y_24 _ R_29 et_30) ?_)
            rintro _ w_38 ⟨v_31, v_32, v_33, rfl, R_34, R_35, R_36, hb_37⟩; refine ⟨_, rfl, ?_⟩
            replace R_34 := RepV.back R_34 W
            replace R_35 := RepV.back R_35 W
            replace R_36 := RepV.back R_36 W
            clear S; intro a S
            replace R_11 := R_11.step hb_37
            replace R0 := R0.step hb_37
            replace R_29 := R_29.step hb_37
            replace W := W.step hb_37
            obtain ⟨rfl, GR_36⟩ := RepV.int R_36
            refine wl_pureK (l' := [(9, .int .i64 t_30.2.2), (7, v_31), (6, .int .i64 c_7), (5, v_10), (0, v0), (1, .int .u8 x1)]) S tys tys_ok 7 [9, 7, 6, 5, 0, 1] (by kernel_rfl) ?_
            clear S; intro a S
            refine wpList_nil ?_
            refine then_n ?_
            refine wp_seq ?_
            refine wp_region_lit ?_
            refine wl_pure (l' := [(41, .bool (t_30.2.2 == 0)), (40, .int .i64 t_30.2.2), (9, .int .i64 t_30.2.2), (7, v_31), (6, .int .i64 c_7), (5, v_10), (0, v0), (1, .int .u8 x1)]) S tys tys_ok 2 (by kernel_rfl) ?_
            clear S; intro a S
            refine wpList_nil ?_
            refine then_n ?_
            replace S := S.sub (l' := [(41, .bool (t_30.2.2 == 0)), (7, v_31), (6, .int .i64 c_7), (5, v_10), (0, v0), (1, .int .u8 x1)]) (by exact ⟨rfl, rfl, rfl, rfl, rfl, rfl, trivial⟩)
            obtain ⟨j_39, ej_39, hl_21⟩ := bindS hl_21
            refine wp_cut_ (fun a_ w_ => ∃ (v_40 : Value), St 192 a_ [(6, .int .i64 c_7), (5, v_40), (0, v0), (1, .int .u8 x1)] ∧ Wd w w_ [] ∧ RepV (.sl gt2) w_ (Kx K w.heap.size []) v_40 j_39 ∧ RepV (.sl gt1) w_ (Kx K w.heap.size []) v0 x0) ?_ ?_
            · refine wp_cond_split (S.eval (show ev _ _ = some (.bool (t_30.2.2 == 0)) from rfl)) ?_ ?_
              · intro hc
                rw [if_pos hc] at ej_39
                refine wp_region_lit ?_
                refine wl_pureK (l' := [(5, v_31), (6, .int .i64 c_7), (5, v_10), (0, v0), (1, .int .u8 x1)]) S tys tys_ok 2 [5, 6, 0, 1] (by kernel_rfl) ?_
                clear S; intro a S
                refine wpList_nil ?_
                refine then_n ?_
                obtain rfl := Option.some.inj ej_39
                exact ⟨v_31, S.sub (by exact ⟨rfl, rfl, rfl, rfl, trivial⟩), W, R_34, R0⟩
              · intro hc
                rw [if_neg (Bool.eq_false_iff.1 hc)] at ej_39
                refine wp_skip ?_
                refine then_n ?_
                obtain rfl := Option.some.inj ej_39
                exact ⟨v_10, S.sub (by exact ⟨rfl, rfl, rfl, rfl, trivial⟩), W, R_11, R0⟩
            clear S W; rintro a w_42 ⟨v_40, S, W, R_41, R0⟩
            refine blk_n ?_
            refine then_n ?_
            refine wp_region_lit ?_
            refine wl_pure (l' := [(28, .int .i64 c_7), (6, .int .i64 c_7), (5, v_40), (0, v0), (1, .int .u8 x1)]) S tys tys_ok 1 (by kernel_rfl) ?_
            clear S; intro a S
            obtain ⟨x_43, ex_43, hl_21⟩ := bindS hl_21
            refine w_go S rfl (op_arith S .i64 (c_7 + 1) rfl (.inl rfl) rfl rfl rfl rfl ex_43 ?_)
            clear S; intro a S
            refine wl_pure (l' := [(6, .int .i64 x_43), (29, .int .i64 x_43), (28, .int .i64 c_7), (6, .int .i64 c_7), (5, v_40), (0, v0), (1, .int .u8 x1)]) S tys tys_ok 1 (by kernel_rfl) ?_
            clear S; intro a S
            refine wpList_nil ?_
            refine then_n ?_
            exact ⟨x_43, j_39, ⟨v_40, S.sub (by exact ⟨rfl, rfl, rfl, rfl, trivial⟩), W, (ckI_some ex_43).2.1, R_41, R0, hl_21⟩⟩
          · intro hc
            rw [if_neg (Bool.eq_false_iff.1 hc)] at hl_21
            refine wp_exit ?_
            refine then_x ?_
            refine then_x ?_
            refine blk_hit ?_
            refine then_n ?_
            obtain rfl := Option.some.inj hl_21
            exact ⟨v_10, S.sub (by exact ⟨rfl, rfl, trivial⟩), W, R_11⟩
    clear S W; rintro a w_44 ⟨v_18, S, W, R_19⟩
    refine then_n ?_
    refine wp_seq ?_
    refine wp_region_lit ?_
    refine wl_pure (l' := [(43, .int .u8 x1), (1, .int .u8 x1), (5, v_18)]) S tys tys_ok 1 (by kernel_rfl) ?_
    clear S; intro a S
    obtain ⟨t_45, et_45, h⟩ := bindS h
    refine w_go S rfl (op_call (vs := [.int .u8 x1]) S rfl cb20 rfl rfl rfl (c20 (Kx K w.heap.size []) n w_44 x1 G1 et_45) ?_)
    rintro _ w_49 ⟨v_46, rfl, R_47, hb_48⟩; refine ⟨_, rfl, ?_⟩
    replace R_47 := RepV.back R_47 W
    clear S; intro a S
    replace R_19 := R_19.step hb_48
    replace W := W.step hb_48
    refine wl_pureK (l' := [(10, v_46), (5, v_18)]) S tys tys_ok 1 [10, 5] (by kernel_rfl) ?_
    clear S; intro a S
    refine wpList_nil ?_
    refine then_n ?_
    refine wp_seq ?_
    refine wp_region_lit ?_
    refine wl_pure (l' := [(46, v_46), (45, v_18), (10, v_46), (5, v_18)]) S tys tys_ok 2 (by kernel_rfl) ?_
    clear S; intro a S
    obtain ⟨t_50, et_50, h⟩ := bindS h
    refine w_go S rfl (op_call (vs := [v_18, v_46]) S rfl cb10 rfl rfl rfl (c10 (Kx K w.heap.size []) n w_49 y_17 _ R_19 t_45 _ R_47 et_50) ?_)
    rintro _ w_54 ⟨v_51, rfl, R_52, hb_53⟩; refine ⟨_, rfl, ?_⟩
    replace R_52 := RepV.back R_52 W
    clear S; intro a S
    replace R_19 := R_19.step hb_53
    replace R_47 := R_47.step hb_53
    replace W := W.step hb_53
    obtain ⟨rfl, GR_52⟩ := RepV.int R_52
    refine wl_pureK (l' := [(11, .int .i64 t_50), (10, v_46), (5, v_18)]) S tys tys_ok 1 [11, 10, 5] (by kernel_rfl) ?_
    clear S; intro a S
    refine wpList_nil ?_
    refine then_n ?_
    refine wp_seq ?_
    refine wp_region_lit ?_
    refine wl_pure (l' := [(50, v_46), (49, v_18), (11, .int .i64 t_50), (10, v_46), (5, v_18)]) S tys tys_ok 2 (by kernel_rfl) ?_
    clear S; intro a S
    obtain ⟨t_55, et_55, h⟩ := bindS h
    refine w_go S rfl (op_call (vs := [v_18, v_46, .bool true]) S rfl cb17 rfl rfl rfl (c17 (Kx K w.heap.size []) n w_54 y_17 _ R_19 t_45 _ R_47 true et_55) ?_)
    rintro _ w_63 ⟨v_56, v_57, v_58, rfl, R_59, R_60, R_61, hb_62⟩; refine ⟨_, rfl, ?_⟩
    have NO_ := newO_of R_59 (Nat.le_refl _) hb_62
    replace R_59 := Ow.backO R_59 W
    replace R_60 := RepV.backO R_60 W
    replace R_61 := RepV.backO R_61 W
    clear S; intro a S
    replace R_19 := R_19.newO NO_
    replace R_47 := R_47.newO NO_
    replace W := W.newO NO_
    clear NO_
    obtain ⟨rfl, GR_61⟩ := RepV.int R_61
    refine wl_pureK (l' := [(14, .int .i64 t_55.2.2), (13, v_57), (12, v_56), (11, .int .i64 t_50), (10, v_46), (5, v_18)]) S tys tys_ok 7 [14, 13, 12, 11, 10, 5] (by kernel_rfl) ?_
    clear S; intro a S
    refine wpList_nil ?_
    refine then_n ?_
    refine wp_seq ?_
    refine wp_region_lit ?_
    refine wl_pure (l' := [(57, v_46), (56, v_18), (14, .int .i64 t_55.2.2), (13, v_57), (12, v_56), (11, .int .i64 t_50), (10, v_46), (5, v_18)]) S tys tys_ok 2 (by kernel_rfl) ?_
    clear S; intro a S
    obtain ⟨t_64, et_64, h⟩ := bindS h
    refine w_go S rfl (op_call (vs := [v_18, v_46]) S rfl cb18 rfl rfl rfl (c18 (Kx K w.heap.size [v_56.ownBlock]) n w_63 y_17 _ R_19 t_45 _ R_47 et_64) ?_)
    rintro _ w_72 ⟨v_65, v_66, v_67, rfl, R_68, R_69, R_70, hb_71⟩; refine ⟨_, rfl, ?_⟩
    have NO_ := newO_of R_68 (Nat.le_refl _) hb_71
    replace R_68 := Ow.backO R_68 W
    replace R_69 := RepV.backO R_69 W
    replace R_70 := RepV.backO R_70 W
    clear S; intro a S
    replace R_19 := R_19.newO NO_
    replace R_47 := R_47.newO NO_
    replace R_60 := R_60.newO NO_
    replace R_59 := R_59.newO NO_
    replace W := W.newO NO_
    clear NO_
    obtain ⟨rfl, GR_70⟩ := RepV.int R_70
    refine wl_pureK (l' := [(17, .int .i64 t_64.2.2), (16, v_66), (15, v_65), (14, .int .i64 t_55.2.2), (13, v_57), (12, v_56), (11, .int .i64 t_50), (10, v_46), (5, v_18)]) S tys tys_ok 7 [17, 16, 15, 14, 13, 12, 11, 10, 5] (by kernel_rfl) ?_
    clear S; intro a S
    refine wpList_nil ?_
    refine then_n ?_
    refine wp_seq ?_
    refine wp_seq ?_
    refine wp_region_lit ?_
    refine wl_pure (l' := [(63, .bool (decide (t_50 < 0))), (62, .int .i64 t_50), (17, .int .i64 t_64.2.2), (16, v_66), (15, v_65), (14, .int .i64 t_55.2.2), (13, v_57), (12, v_56), (11, .int .i64 t_50), (10, v_46), (5, v_18)]) S tys tys_ok 2 (by kernel_rfl) ?_
    clear S; intro a S
    refine wpList_nil ?_
    refine then_n ?_
    replace S := S.sub (l' := [(63, .bool (decide (t_50 < 0))), (17, .int .i64 t_64.2.2), (16, v_66), (15, v_65), (14, .int .i64 t_55.2.2), (13, v_57), (12, v_56), (11, .int .i64 t_50), (10, v_46), (5, v_18)]) (by exact ⟨rfl, rfl, rfl, rfl, rfl, rfl, rfl, rfl, rfl, rfl, trivial⟩)
    refine wp_cond_split (S.eval (show ev _ _ = some (.bool (decide (t_50 < 0))) from rfl)) ?_ ?_
    · intro hc
      rw [if_pos hc] at h
      refine wp_seq ?_
      refine wp_region_lit ?_
      refine wl_pureK (l' := [(66, .bool (t_55.2.2 == 7)), (17, .int .i64 t_64.2.2)]) S tys tys_ok 3 [66, 17] (by kernel_rfl) ?_
      clear S; intro a S
      obtain ⟨q_73, eq_73, h⟩ := bindS h
      refine seg 3 (fun a_ w_ => w_72 = w_ ∧ St 192 a_ [(69, .bool q_73)]) ?_ ?_
      · by_cases hc : (t_55.2.2 == 7) = true
        · rw [if_pos hc] at eq_73; rw [hc] at S
          refine wl_pureK (l' := [(69, .bool (t_64.2.2 == 7))]) S tys tys_ok 3 [69] (by kernel_rfl) ?_
          clear S; intro a S
          obtain rfl := Option.some.inj eq_73
          exact ⟨rfl, S.sub (by exact ⟨rfl, trivial⟩)⟩
        · rw [if_neg hc] at eq_73; rw [show (t_55.2.2 == 7) = false from Bool.eq_false_iff.2 hc] at S
          refine wl_pureK (l' := [(69, .bool false)]) S tys tys_ok 3 [69] (by kernel_rfl) ?_
          clear S; intro a S
          obtain rfl := Option.some.inj eq_73
          exact ⟨rfl, S.sub (by exact ⟨rfl, trivial⟩)⟩
      clear S eq_73; rintro a _ ⟨rfl, S⟩
      refine wl_pure (l' := [(70, .bool q_73), (69, .bool q_73)]) S tys tys_ok 1 (by kernel_rfl) ?_
      clear S; intro a S
      obtain ⟨q_74, eq_74, h⟩ := bindS h
      refine seg 2 (fun a_ w_ => St 192 a_ [(72, .bool q_74)] ∧ Wd w w_ [v_65.ownBlock, v_56.ownBlock]) ?_ ?_
      · by_cases hc : q_73 = true
        · rw [if_pos hc] at eq_74; rw [hc] at S
          obtain ⟨t_75, et_75, eq_74⟩ := bindS eq_74
          refine w_go S rfl (op_call (vs := []) S rfl cb8 rfl rfl rfl (c8 (Kx K w.heap.size [v_65.ownBlock, v_56.ownBlock]) n w_72  et_75) ?_)
          rintro _ w_79 ⟨v_76, rfl, R_77, hb_78⟩; refine ⟨_, rfl, ?_⟩
          replace R_77 := RepV.back R_77 W
          clear S; intro a S
          replace W := W.step hb_78
          obtain rfl := RepV.bool R_77
          refine wl_pureK (l' := [(72, .bool t_75)]) S tys tys_ok 1 [72] (by kernel_rfl) ?_
          clear S; intro a S
          obtain rfl := Option.some.inj eq_74
          exact ⟨S.sub (by exact ⟨rfl, trivial⟩), W⟩
        · rw [if_neg hc] at eq_74; rw [show q_73 = false from Bool.eq_false_iff.2 hc] at S
          refine wl_pureK (l' := [(72, .bool false)]) S tys tys_ok 2 [72] (by kernel_rfl) ?_
          clear S; intro a S
          obtain rfl := Option.some.inj eq_74
          exact ⟨S.sub (by exact ⟨rfl, trivial⟩), W⟩
      clear S W eq_74; rintro a w_80 ⟨S, W⟩
      refine wl_pure (l' := [(4, .bool q_74), (72, .bool q_74)]) S tys tys_ok 1 (by kernel_rfl) ?_
      clear S; intro a S
      refine wpList_nil ?_
      refine then_n ?_
      replace S := S.sub (l' := [(4, .bool q_74)]) (by exact ⟨rfl, trivial⟩)
      refine wp_ret ?_
      refine then_r ?_
      obtain rfl := Option.some.inj h
      exact b_ret1 S rfl rfl ⟨_, rfl, RepV.mkBool, W.below⟩
    · intro hc
      rw [if_neg (Bool.eq_false_iff.1 hc)] at h
      refine wp_skip ?_
      refine then_n ?_
      replace S := S.sub (l' := [(17, .int .i64 t_64.2.2), (16, v_66), (15, v_65), (14, .int .i64 t_55.2.2), (13, v_57), (12, v_56), (11, .int .i64 t_50), (10, v_46), (5, v_18)]) (by exact ⟨rfl, rfl, rfl, rfl, rfl, rfl, rfl, rfl, rfl, trivial⟩)
      refine wp_seq ?_
      refine wp_seq ?_
      refine wp_region_lit ?_
      refine wl_pure (l' := [(73, v_56), (17, .int .i64 t_64.2.2), (16, v_66), (15, v_65), (14, .int .i64 t_55.2.2), (13, v_57), (12, v_56), (11, .int .i64 t_50), (10, v_46), (5, v_18)]) S tys tys_ok 1 (by kernel_rfl) ?_
      clear S; intro a S
      refine w_go S rfl (op_len (K := _) S rfl ty25 rfl rfl rfl R_59.read ?_)
      clear S; intro a G_81 S
      refine wl_pure (l' := [(75, v_18), (74, .int .i64 (lenI (⟨t_55.1.xs, t_55.1.cap⟩ : Sl ((Sl (Int)) × Bool × Bool × Bool × Int)))), (73, v_56), (17, .int .i64 t_64.2.2), (16, v_66), (15, v_65), (14, .int .i64 t_55.2.2), (13, v_57), (12, v_56), (11, .int .i64 t_50), (10, v_46), (5, v_18)]) S tys tys_ok 1 (by kernel_rfl) ?_
      clear S; intro a S
      refine w_go S rfl (op_len (K := _) S rfl ty25 rfl rfl rfl R_19 ?_)
      clear S; intro a G_82 S
      refine wl_pureK (l' := [(78, .bool ((lenI (⟨t_55.1.xs, t_55.1.cap⟩ : Sl ((Sl (Int)) × Bool × Bool × Bool × Int))) != (lenI y_17))), (17, .int .i64 t_64.2.2), (16, v_66), (15, v_65), (14, .int .i64 t_55.2.2), (13, v_57), (12, v_56), (11, .int .i64 t_50), (10, v_46), (5, v_18)]) S tys tys_ok 2 [78, 17, 16, 15, 14, 13, 12, 11, 10, 5] (by kernel_rfl) ?_
      clear S; intro a S
      obtain ⟨q_83, eq_83, h⟩ := bindS h
      refine seg 10 (fun a_ w_ => w_72 = w_ ∧ St 192 a_ [(88, .bool q_83), (17, .int .i64 t_64.2.2), (16, v_66), (15, v_65), (14, .int .i64 t_55.2.2), (13, v_57), (12, v_56), (11, .int .i64 t_50), (10, v_46), (5, v_18)]) ?_ ?_
      · by_cases hc : ((lenI (⟨t_55.1.xs, t_55.1.cap⟩ : Sl ((Sl (Int)) × Bool × Bool × Bool × Int))) != (lenI y_17)) = false
        · rw [if_pos hc] at eq_83; rw [hc] at S
          refine wl_pure (l' := [(81, .bool (t_64.2.2 == 0)), (80, .bool (t_64.2.2 == 0)), (79, .int .i64 t_64.2.2), (78, .bool false), (17, .int .i64 t_64.2.2), (16, v_66), (15, v_65), (14, .int .i64 t_55.2.2), (13, v_57), (12, v_56), (11, .int .i64 t_50), (10, v_46), (5, v_18)]) S tys tys_ok 3 (by kernel_rfl) ?_
          clear S; intro a S
          obtain ⟨q_84, eq_84, eq_83⟩ := bindS eq_83
          refine seg 6 (fun a_ w_ => w_72 = w_ ∧ St 192 a_ [(87, .bool q_84), (78, .bool false), (17, .int .i64 t_64.2.2), (16, v_66), (15, v_65), (14, .int .i64 t_55.2.2), (13, v_57), (12, v_56), (11, .int .i64 t_50), (10, v_46), (5, v_18)]) ?_ ?_
          · by_cases hc : (t_64.2.2 == 0) = true
            · rw [if_pos hc] at eq_84; rw [hc] at S
              refine wl_pure (l' := [(82, v_65), (81, .bool true), (80, .bool true), (79, .int .i64 t_64.2.2), (78, .bool false), (17, .int .i64 t_64.2.2), (16, v_66), (15, v_65), (14, .int .i64 t_55.2.2), (13, v_57), (12, v_56), (11, .int .i64 t_50), (10, v_46), (5, v_18)]) S tys tys_ok 1 (by kernel_rfl) ?_
              clear S; intro a S
              refine w_go S rfl (op_len (K := _) S rfl ty25 rfl rfl rfl R_68.read ?_)
              clear S; intro a G_85 S
              refine wl_pureK (l' := [(84, v_18), (83, .int .i64 (lenI (⟨t_64.1.xs, t_64.1.cap⟩ : Sl ((Sl (Int)) × Bool × Bool × Bool × Int)))), (81, .bool true), (78, .bool false), (17, .int .i64 t_64.2.2), (16, v_66), (15, v_65), (14, .int .i64 t_55.2.2), (13, v_57), (12, v_56), (11, .int .i64 t_50), (10, v_46), (5, v_18)]) S tys tys_ok 1 [84, 83, 81, 78, 17, 16, 15, 14, 13, 12, 11, 10, 5] (by kernel_rfl) ?_
              clear S; intro a S
              refine w_go S rfl (op_len (K := _) S rfl ty25 rfl rfl rfl R_19 ?_)
              clear S; intro a G_86 S
              refine wl_pureK (l' := [(87, .bool ((lenI (⟨t_64.1.xs, t_64.1.cap⟩ : Sl ((Sl (Int)) × Bool × Bool × Bool × Int))) != (lenI y_17))), (78, .bool false), (17, .int .i64 t_64.2.2), (16, v_66), (15, v_65), (14, .int .i64 t_55.2.2), (13, v_57), (12, v_56), (11, .int .i64 t_50), (10, v_46), (5, v_18)]) S tys tys_ok 2 [87, 78, 17, 16, 15, 14, 13, 12, 11, 10, 5] (by kernel_rfl) ?_
              clear S; intro a S
              obtain rfl := Option.some.inj eq_84
              exact ⟨rfl, S.sub (by exact ⟨rfl, rfl, rfl, rfl, rfl, rfl, rfl, rfl, rfl, rfl, rfl, trivial⟩)⟩
            · rw [if_neg hc] at eq_84; rw [show (t_64.2.2 == 0) = false from Bool.eq_false_iff.2 hc] at S
              refine wl_pureK (l' := [(87, .bool false), (78, .bool false), (17, .int .i64 t_64.2.2), (16, v_66), (15, v_65), (14, .int .i64 t_55.2.2), (13, v_57), (12, v_56), (11, .int .i64 t_50), (10, v_46), (5, v_18)]) S tys tys_ok 6 [87, 78, 17, 16, 15, 14, 13, 12, 11, 10, 5] (by kernel_rfl) ?_
              clear S; intro a S
              obtain rfl := Option.some.inj eq_84
              exact ⟨rfl, S.sub (by exact ⟨rfl, rfl, rfl, rfl, rfl, rfl, rfl, rfl, rfl, rfl, rfl, trivial⟩)⟩
          clear S eq_84; rintro a _ ⟨rfl, S⟩
          refine wl_pure (l' := [(88, .bool q_84), (87, .bool q_84), (78, .bool false), (17, .int .i64 t_64.2.2), (16, v_66), (15, v_65), (14, .int .i64 t_55.2.2), (13, v_57), (12, v_56), (11, .int .i64 t_50), (10, v_46), (5, v_18)]) S tys tys_ok 1 (by kernel_rfl) ?_
          clear S; intro a S
          obtain rfl := Option.some.inj eq_83
          exact ⟨rfl, S.sub (by exact ⟨rfl, rfl, rfl, rfl, rfl, rfl, rfl, rfl, rfl, rfl, trivial⟩)⟩
        · rw [if_neg hc] at eq_83; rw [show ((lenI (⟨t_55.1.xs, t_55.1.cap⟩ : Sl ((Sl (Int)) × Bool × Bool × Bool × Int))) != (lenI y_17)) = true from (by simpa using hc)] at S
          refine wl_pureK (l' := [(88, .bool true), (17, .int .i64 t_64.2.2), (16, v_66), (15, v_65), (14, .int .i64 t_55.2.2), (13, v_57), (12, v_56), (11, .int .i64 t_50), (10, v_46), (5, v_18)]) S tys tys_ok 10 [88, 17, 16, 15, 14, 13, 12, 11, 10, 5] (by kernel_rfl) ?_
          clear S; intro a S
          obtain rfl := Option.some.inj eq_83
          exact ⟨rfl, S.sub (by exact ⟨rfl, rfl, rfl, rfl, rfl, rfl, rfl, rfl, rfl, rfl, trivial⟩)⟩
      clear S eq_83; rintro a _ ⟨rfl, S⟩
      refine wpList_nil ?_
      refine then_n ?_
      refine wp_cond_split (S.eval (show ev _ _ = some (.bool q_83) from rfl)) ?_ ?_
      · intro hc
        rw [if_pos hc] at h
        refine wp_seq ?_
        refine wp_region_lit ?_
        refine wl_pureK (l' := [(4, .bool false)]) S tys tys_ok 1 [4] (by kernel_rfl) ?_
        clear S; intro a S
        refine wpList_nil ?_
        refine then_n ?_
        refine wp_ret ?_
        refine then_r ?_
        obtain rfl := Option.some.inj h
        exact b_ret1 S rfl rfl ⟨_, rfl, RepV.mkBool, W.below⟩
      · intro hc
        rw [if_neg (Bool.eq_false_iff.1 hc)] at h
        refine wp_skip ?_
        refine then_n ?_
        replace S := S.sub (l' := [(17, .int .i64 t_64.2.2), (16, v_66), (15, v_65), (14, .int .i64 t_55.2.2), (13, v_57), (12, v_56), (11, .int .i64 t_50), (10, v_46), (5, v_18)]) (by exact ⟨rfl, rfl, rfl, rfl, rfl, rfl, rfl, rfl, rfl, trivial⟩)
        refine wp_seq ?_
        refine wp_region_lit ?_
        refine wl_pure (l' := [(18, .int .i64 0), (17, .int .i64 t_64.2.2), (16, v_66), (15, v_65), (14, .int .i64 t_55.2.2), (13, v_57), (12, v_56), (11, .int .i64 t_50), (10, v_46), (5, v_18)]) S tys tys_ok 1 (by kernel_rfl) ?_
        clear S; intro a S
        refine wpList_nil ?_
        refine then_n ?_
        refine wp_seq ?_
        refine wp_seq ?_
        refine wp_region_lit ?_
        refine wl_pure (l' := [(19, .int .i64 0), (18, .int .i64 0), (17, .int .i64 t_64.2.2), (16, v_66), (15, v_65), (14, .int .i64 t_55.2.2), (13, v_57), (12, v_56), (11, .int .i64 t_50), (10, v_46), (5, v_18)]) S tys tys_ok 1 (by kernel_rfl) ?_
        clear S; intro a S
        refine wpList_nil ?_
        refine then_n ?_
        obtain ⟨y_95, ey_95, h⟩ := bindS h
        refine wp_cut_ (fun a_ w_ => ∃ s_96 : (Int), y_95 = .inl s_96 ∧ (St 192 a_ [(5, v_18), (11, .int .i64 t_50), (12, v_56), (13, v_57), (14, .int .i64 t_55.2.2), (15, v_65), (16, v_66), (17, .int .i64 t_64.2.2), (18, .int .i64 s_96)] ∧ Wd w w_ [v_65.ownBlock, v_56.ownBlock] ∧ InR .i64 s_96 ∧ RepV (.sl gt2) w_ (Kx K w.heap.size [v_65.ownBlock, v_56.ownBlock]) v_18 y_17 ∧ RepV (.sl gt0) w_ (Kx K w.heap.size [v_65.ownBlock, v_56.ownBlock]) v_57 t_55.2.1 ∧ RepV (.sl gt0) w_ (Kx K w.heap.size [v_65.ownBlock, v_56.ownBlock]) v_66 t_64.2.1 ∧ Ow gt2 37 w_ w.heap.size (Kx K w.heap.size [v_65.ownBlock, v_56.ownBlock]) v_56 t_55.1.xs t_55.1.cap ∧ Ow gt2 37 w_ w.heap.size (Kx K w.heap.size [v_65.ownBlock, v_56.ownBlock]) v_65 t_64.1.xs t_64.1.cap)) ?_ ?_
        · refine wp_block ?_
          refine wp_loop_n (fun m_ a_ w_ => ∃ (c_87 : Int) (c_89 : Int) , St 192 a_ [(19, .int .i64 c_87), (18, .int .i64 c_89), (17, .int .i64 t_64.2.2), (16, v_66), (15, v_65), (14, .int .i64 t_55.2.2), (13, v_57), (12, v_56), (11, .int .i64 t_50), (10, v_46), (5, v_18)] ∧ Wd w w_ [v_65.ownBlock, v_56.ownBlock] ∧ InR .i64 c_87 ∧ InR .i64 c_89 ∧ RepV (.sl gt0) w_ (Kx K w.heap.size [v_65.ownBlock, v_56.ownBlock]) v_66 t_64.2.1 ∧ RepV (.sl gt0) w_ (Kx K w.heap.size [v_65.ownBlock, v_56.ownBlock]) v_57 t_55.2.1 ∧ RepV (.sl (.int .u8)) w_ (Kx K w.heap.size [v_65.ownBlock, v_56.ownBlock]) v_46 t_45 ∧ RepV (.sl gt2) w_ (Kx K w.heap.size [v_65.ownBlock, v_56.ownBlock]) v_18 y_17 ∧ Ow gt2 37 w_ w.heap.size (Kx K w.heap.size [v_65.ownBlock, v_56.ownBlock]) v_65 t_64.1.xs t_64.1.cap ∧ Ow gt2 37 w_ w.heap.size (Kx K w.heap.size [v_65.ownBlock, v_56.ownBlock]) v_56 t_55.1.xs t_55.1.cap ∧ p6_l2 n y_17 t_45 t_50 t_55 m_ c_87 c_89 = some y_95) n ?_ ?_
          · skip
            exact ⟨0, 0, ⟨S.sub (by exact ⟨rfl, rfl, rfl, rfl, rfl, rfl, rfl, rfl, rfl, rfl, rfl, trivial⟩), W, (by decide), (by decide), R_69, R_60, R_47, R_19, R_68, R_59, ey_95⟩⟩
          · clear S W; rintro m_98 a w_100 ⟨c_87, c_89, S, W, G_88, G_90, R_69, R_60, R_47, R_19, R_68, R_59, hl_99⟩
            cases m_98 with
            | zero => exact absurd hl_99 (by simp [p6_l2])
            | succ m_98 =>
              refine ⟨m_98, rfl, ?_⟩
              rw [p6_l2] at hl_99
              refine wp_seq ?_
              refine wp_seq ?_
              refine wp_region_lit ?_
              refine wl_pure (l' := [(90, v_18), (89, .int .i64 c_87), (19, .int .i64 c_87), (18, .int .i64 c_89), (17, .int .i64 t_64.2.2), (16, v_66), (15, v_65), (14, .int .i64 t_55.2.2), (13, v_57), (12, v_56), (11, .int .i64 t_50), (10, v_46), (5, v_18)]) S tys tys_ok 2 (by kernel_rfl) ?_
              clear S; intro a S
              refine w_go S rfl (op_len (K := _) S rfl ty25 rfl rfl rfl R_19 ?_)
              clear S; intro a G_101 S
              refine wl_pureK (l' := [(92, .bool (decide (c_87 < (lenI y_17)))), (19, .int .i64 c_87), (18, .int .i64 c_89), (17, .int .i64 t_64.2.2), (16, v_66), (15, v_65), (14, .int .i64 t_55.2.2), (13, v_57), (12, v_56), (11, .int .i64 t_50), (10, v_46), (5, v_18)]) S tys tys_ok 1 [92, 19, 18, 17, 16, 15, 14, 13, 12, 11, 10, 5] (by kernel_rfl) ?_
              clear S; intro a S
              refine wpList_nil ?_
              refine then_n ?_
              refine wp_cond_split (S.eval (show ev _ _ = some (.bool (decide (c_87 < (lenI y_17)))) from rfl)) ?_ ?_
              · intro hc
                rw [if_pos hc] at hl_99
                refine wp_skip ?_
                refine then_n ?_
                replace S := S.sub (l' := [(19, .int .i64 c_87), (18, .int .i64 c_89), (17, .int .i64 t_64.2.2), (16, v_66), (15, v_65), (14, .int .i64 t_55.2.2), (13, v_57), (12, v_56), (11, .int .i64 t_50), (10, v_46), (5, v_18)]) (by exact ⟨rfl, rfl, rfl, rfl, rfl, rfl, rfl, rfl, rfl, rfl, rfl, trivial⟩)
                refine wp_seq ?_
                refine wp_block ?_
                refine wp_seq ?_
                refine wp_region_lit ?_
                refine wl_pureK (l' := [(98, .bool (c_87 == t_50)), (19, .int .i64 c_87), (18, .int .i64 c_89), (17, .int .i64 t_64.2.2), (16, v_66), (15, v_65), (14, .int .i64 t_55.2.2), (13, v_57), (12, v_56), (11, .int .i64 t_50), (10, v_46), (5, v_18)]) S tys tys_ok 4 [98, 19, 18, 17, 16, 15, 14, 13, 12, 11, 10, 5] (by kernel_rfl) ?_
                clear S; intro a S
                obtain ⟨q_102, eq_102, hl_99⟩ := bindS hl_99
                refine seg 8 (fun a_ w_ => St 192 a_ [(106, .bool q_102), (19, .int .i64 c_87), (18, .int .i64 c_89), (17, .int .i64 t_64.2.2), (16, v_66), (15, v_65), (14, .int .i64 t_55.2.2), (13, v_57), (12, v_56), (11, .int .i64 t_50), (10, v_46), (5, v_18)] ∧ Wd w w_ [v_65.ownBlock, v_56.ownBlock] ∧ RepV (.sl gt0) w_ (Kx K w.heap.size [v_65.ownBlock, v_56.ownBlock]) v_66 t_64.2.1 ∧ RepV (.sl gt0) w_ (Kx K w.heap.size [v_65.ownBlock, v_56.ownBlock]) v_57 t_55.2.1 ∧ RepV (.sl (.int .u8)) w_ (Kx K w.heap.size [v_65.ownBlock, v_56.ownBlock]) v_46 t_45 ∧ RepV (.sl gt2) w_ (Kx K w.heap.size [v_65.ownBlock, v_56.ownBlock]) v_18 y_17 ∧ Ow gt2 37 w_ w.heap.size (Kx K w.heap.size [v_65.ownBlock, v_56.ownBlock]) v_65 t_64.1.xs t_64.1.cap ∧ Ow gt2 37 w_ w.heap.size (Kx K w.heap.size [v_65.ownBlock, v_56.ownBlock]) v_56 t_55.1.xs t_55.1.cap) ?_ ?_
                · by_cases hc : (c_87 == t_50) = false
                  · rw [if_pos hc] at eq_102; rw [hc] at S
                    refine wl_pure (l' := [(100, .int .i64 c_87), (99, v_18), (98, .bool false), (19, .int .i64 c_87), (18, .int .i64 c_89), (17, .int .i64 t_64.2.2), (16, v_66), (15, v_65), (14, .int .i64 t_55.2.2), (13, v_57), (12, v_56), (11, .int .i64 t_50), (10, v_46), (5, v_18)]) S tys tys_ok 2 (by kernel_rfl) ?_
                    clear S; intro a S
                    obtain ⟨y_103, ey_103, eq_102⟩ := bindS eq_102
                    refine w_go S rfl (op_indexAddr S rfl ty25 rfl rfl rfl R_19 rfl ey_103 ?_)
                    clear S; intro a p_104 R_105 H_106 S
                    refine wl_pure (l' := [(102, .pointer (some (p_104.add (coff gf2 0)))), (101, .pointer (some p_104)), (100, .int .i64 c_87), (99, v_18), (98, .bool false), (19, .int .i64 c_87), (18, .int .i64 c_89), (17, .int .i64 t_64.2.2), (16, v_66), (15, v_65), (14, .int .i64 t_55.2.2), (13, v_57), (12, v_56), (11, .int .i64 t_50), (10, v_46), (5, v_18)]) S tys tys_ok 1 (by kernel_rfl) ?_
                    clear S; intro a S
                    refine w_go S rfl (op_load (t := (.sl (.int .u8))) (x := y_103.1) S rfl ty35 rfl rfl rfl (RepAt.add 0 (RepAt.st (t := gf2) R_105)) ?_)
                    clear S; intro a v_107 R_108 S
                    refine wl_pure (l' := [(104, v_46), (103, v_107), (102, .pointer (some (p_104.add (coff gf2 0)))), (101, .pointer (some p_104)), (100, .int .i64 c_87), (99, v_18), (98, .bool false), (19, .int .i64 c_87), (18, .int .i64 c_89), (17, .int .i64 t_64.2.2), (16, v_66), (15, v_65), (14, .int .i64 t_55.2.2), (13, v_57), (12, v_56), (11, .int .i64 t_50), (10, v_46), (5, v_18)]) S tys tys_ok 1 (by kernel_rfl) ?_
                    clear S; intro a S
                    obtain ⟨t_109, et_109, eq_102⟩ := bindS eq_102
                    refine w_go S rfl (op_call (vs := [v_107, v_46]) S rfl cb11 rfl rfl rfl (c11 (Kx K w.heap.size [v_65.ownBlock, v_56.ownBlock]) n w_100 y_103.1 _ R_108 t_45 _ R_47 et_109) ?_)
                    rintro _ w_113 ⟨v_110, rfl, R_111, hb_112⟩; refine ⟨_, rfl, ?_⟩
                    replace R_111 := RepV.back R_111 W
                    clear S; intro a S
                    replace R_69 := R_69.step hb_112
                    replace R_60 := R_60.step hb_112
                    replace R_47 := R_47.step hb_112
                    replace R_19 := R_19.step hb_112
                    replace R_108 := R_108.step hb_112
                    replace R_68 := R_68.step hb_112
                    replace R_59 := R_59.step hb_112
                    replace W := W.step hb_112
                    obtain rfl := RepV.bool R_111
                    refine wl_pure (l' := [(106, .bool t_109), (105, .bool t_109), (104, v_46), (103, v_107), (102, .pointer (some (p_104.add (coff gf2 0)))), (101, .pointer (some p_104)), (100, .int .i64 c_87), (99, v_18), (98, .bool false), (19, .int .i64 c_87), (18, .int .i64 c_89), (17, .int .i64 t_64.2.2), (16, v_66), (15, v_65), (14, .int .i64 t_55.2.2), (13, v_57), (12, v_56), (11, .int .i64 t_50), (10, v_46), (5, v_18)]) S tys tys_ok 1 (by kernel_rfl) ?_
                    clear S; intro a S
                    obtain rfl := Option.some.inj eq_102
                    exact ⟨S.sub (by exact ⟨rfl, rfl, rfl, rfl, rfl, rfl, rfl, rfl, rfl, rfl, rfl, rfl, trivial⟩), W, R_69, R_60, R_47, R_19, R_68, R_59⟩
                  · rw [if_neg hc] at eq_102; rw [show (c_87 == t_50) = true from (by simpa using hc)] at S
                    refine wl_pure (l' := [(106, .bool true), (105, undef), (104, undef), (103, undef), (102, undef), (101, undef), (100, undef), (99, undef), (98, .bool true), (19, .int .i64 c_87), (18, .int .i64 c_89), (17, .int .i64 t_64.2.2), (16, v_66), (15, v_65), (14, .int .i64 t_55.2.2), (13, v_57), (12, v_56), (11, .int .i64 t_50), (10, v_46), (5, v_18)]) S tys tys_ok 8 (by kernel_rfl) ?_
                    clear S; intro a S
                    obtain rfl := Option.some.inj eq_102
                    exact ⟨S.sub (by exact ⟨rfl, rfl, rfl, rfl, rfl, rfl, rfl, rfl, rfl, rfl, rfl, rfl, trivial⟩), W, R_69, R_60, R_47, R_19, R_68, R_59⟩
                clear S W eq_102; rintro a w_114 ⟨S, W, R_69, R_60, R_47, R_19, R_68, R_59⟩
                refine wpList_nil ?_
                refine then_n ?_
                obtain ⟨j_115, ej_115, hl_99⟩ := bindS hl_99
                refine wp_cut_ (fun a_ w_ => ∃ s_116 : (Int), j_115 = .inl s_116 ∧ (St 192 a_ [(19, .int .i64 c_87), (18, .int .i64 s_116), (17, .int .i64 t_64.2.2), (16, v_66), (15, v_65), (14, .int .i64 t_55.2.2), (13, v_57), (12, v_56), (11, .int .i64 t_50), (10, v_46), (5, v_18)] ∧ Wd w w_ [v_65.ownBlock, v_56.ownBlock] ∧ InR .i64 s_116 ∧ RepV (.sl gt0) w_ (Kx K w.heap.size [v_65.ownBlock, v_56.ownBlock]) v_66 t_64.2.1 ∧ RepV (.sl gt0) w_ (Kx K w.heap.size [v_65.ownBlock, v_56.ownBlock]) v_57 t_55.2.1 ∧ RepV (.sl (.int .u8)) w_ (Kx K w.heap.size [v_65.ownBlock, v_56.ownBlock]) v_46 t_45 ∧ RepV (.sl gt2) w_ (Kx K w.heap.size [v_65.ownBlock, v_56.ownBlock]) v_18 y_17 ∧ Ow gt2 37 w_ w.heap.size (Kx K w.heap.size [v_65.ownBlock, v_56.ownBlock]) v_65 t_64.1.xs t_64.1.cap ∧ Ow gt2 37 w_ w.heap.size (Kx K w.heap.size [v_65.ownBlock, v_56.ownBlock]) v_56 t_55.1.xs t_55.1.cap)) ?_ ?_
                · refine wp_cond_split (S.eval (show ev _ _ = some (.bool q_102) from rfl)) ?_ ?_
                  · intro hc
                    rw [if_pos hc] at ej_115
                    refine wp_seq ?_
                    refine wp_seq ?_
                    refine wp_region_lit ?_
                    refine wl_pure (l' := [(108, .int .i64 c_87), (107, v_56), (106, .bool q_102), (19, .int .i64 c_87), (18, .int .i64 c_89), (17, .int .i64 t_64.2.2), (16, v_66), (15, v_65), (14, .int .i64 t_55.2.2), (13, v_57), (12, v_56), (11, .int .i64 t_50), (10, v_46), (5, v_18)]) S tys tys_ok 2 (by kernel_rfl) ?_
                    clear S; intro a S
                    obtain ⟨y_118, ey_118, ej_115⟩ := bindS ej_115
                    refine w_go S rfl (op_indexAddr_own S rfl ty25 rfl rfl rfl R_59 rfl ey_118 ?_)
                    clear S; intro a g_119 H_121 R_120 S
                    refine wl_pureK (l' := [(110, .pointer (some ((⟨g_119, c_87.toNat * GT.sz gt2, .none⟩ : Addr).add (coff gf2 3)))), (19, .int .i64 c_87), (18, .int .i64 c_89), (17, .int .i64 t_64.2.2), (16, v_66), (15, v_65), (14, .int .i64 t_55.2.2), (13, v_57), (12, v_56), (11, .int .i64 t_50), (10, v_46), (5, v_18)]) S tys tys_ok 1 [110, 19, 18, 17, 16, 15, 14, 13, 12, 11, 10, 5] (by kernel_rfl) ?_
                    clear S; intro a S
                    refine w_go S rfl (op_load (t := .bool) (x := y_118.2.2.2.1) S rfl ty4 rfl rfl rfl (RepAt.add 3 (RepAt.st (t := gf2) R_120)) ?_)
                    clear S; intro a v_122 R_123 S
                    obtain rfl := RepV.bool R_123
                    refine wpList_nil ?_
                    refine then_n ?_
                    replace S := S.sub (l' := [(111, .bool y_118.2.2.2.1), (19, .int .i64 c_87), (18, .int .i64 c_89), (17, .int .i64 t_64.2.2), (16, v_66), (15, v_65), (14, .int .i64 t_55.2.2), (13, v_57), (12, v_56), (11, .int .i64 t_50), (10, v_46), (5, v_18)]) (by exact ⟨rfl, rfl, rfl, rfl, rfl, rfl, rfl, rfl, rfl, rfl, rfl, rfl, trivial⟩)
                    refine wp_cond_split (S.eval (show ev _ _ = some (.bool y_118.2.2.2.1) from rfl)) ?_ ?_
                    · intro hc
                      rw [if_pos hc] at ej_115
                      refine wp_seq ?_
                      refine wp_region_lit ?_
                      refine wl_pureK (l' := [(4, .bool false)]) S tys tys_ok 1 [4] (by kernel_rfl) ?_
                      clear S; intro a S
                      refine wpList_nil ?_
                      refine then_n ?_
                      refine wp_ret ?_
                      refine then_r ?_
                      refine then_r ?_
                      refine blk_r ?_
                      refine then_r ?_
                      refine then_r ?_
                      refine blk_r ?_
                      refine then_r ?_
                      refine then_r ?_
                      obtain rfl := Option.some.inj ej_115
                      have hq_ := lr_inr2 hl_99; subst hq_
                      obtain rfl := lr_inr h
                      exact b_ret1 S rfl rfl ⟨_, rfl, RepV.mkBool, W.below⟩
                    · intro hc
                      rw [if_neg (Bool.eq_false_iff.1 hc)] at ej_115
                      refine wp_skip ?_
                      refine then_n ?_
                      replace S := S.sub (l' := [(19, .int .i64 c_87), (18, .int .i64 c_89), (17, .int .i64 t_64.2.2), (16, v_66), (15, v_65), (14, .int .i64 t_55.2.2), (13, v_57), (12, v_56), (11, .int .i64 t_50), (10, v_46), (5, v_18)]) (by exact ⟨rfl, rfl, rfl, rfl, rfl, rfl, rfl, rfl, rfl, rfl, rfl, trivial⟩)
                      refine wp_seq ?_
                      refine wp_region_lit ?_
                      refine wl_pure (l' := [(113, .int .i64 c_87), (112, v_18), (19, .int .i64 c_87), (18, .int .i64 c_89), (17, .int .i64 t_64.2.2), (16, v_66), (15, v_65), (14, .int .i64 t_55.2.2), (13, v_57), (12, v_56), (11, .int .i64 t_50), (10, v_46), (5, v_18)]) S tys tys_ok 2 (by kernel_rfl) ?_
                      clear S; intro a S
                      obtain ⟨y_124, ey_124, ej_115⟩ := bindS ej_115
                      refine w_go S rfl (op_indexAddr S rfl ty25 rfl rfl rfl R_19 rfl ey_124 ?_)
                      clear S; intro a p_125 R_126 H_127 S
                      refine wl_pureK (l' := [(115, .pointer (some (p_125.add (coff gf2 3)))), (19, .int .i64 c_87), (18, .int .i64 c_89), (17, .int .i64 t_64.2.2), (16, v_66), (15, v_65), (14, .int .i64 t_55.2.2), (13, v_57), (12, v_56), (11, .int .i64 t_50), (10, v_46), (5, v_18)]) S tys tys_ok 1 [115, 19, 18, 17, 16, 15, 14, 13, 12, 11, 10, 5] (by kernel_rfl) ?_
                      clear S; intro a S
                      refine w_go S rfl (op_load (t := .bool) (x := y_124.2.2.2.1) S rfl ty4 rfl rfl rfl (RepAt.add 3 (RepAt.st (t := gf2) R_126)) ?_)
                      clear S; intro a v_128 R_129 S
                      obtain rfl := RepV.bool R_129
                      refine wpList_nil ?_
                      refine then_n ?_
                      replace S := S.sub (l' := [(116, .bool y_124.2.2.2.1), (19, .int .i64 c_87), (18, .int .i64 c_89), (17, .int .i64 t_64.2.2), (16, v_66), (15, v_65), (14, .int .i64 t_55.2.2), (13, v_57), (12, v_56), (11, .int .i64 t_50), (10, v_46), (5, v_18)]) (by exact ⟨rfl, rfl, rfl, rfl, rfl, rfl, rfl, rfl, rfl, rfl, rfl, rfl, trivial⟩)
                      obtain ⟨j_130, ej_130, ej_115⟩ := bindS ej_115
                      refine wp_cut_ (fun a_ w_ => St 192 a_ [(19, .int .i64 c_87), (18, .int .i64 j_130), (17, .int .i64 t_64.2.2), (16, v_66), (15, v_65), (14, .int .i64 t_55.2.2), (13, v_57), (12, v_56), (11, .int .i64 t_50), (10, v_46), (5, v_18)] ∧ Wd w w_ [v_65.ownBlock, v_56.ownBlock] ∧ InR .i64 j_130 ∧ RepV (.sl gt0) w_ (Kx K w.heap.size [v_65.ownBlock, v_56.ownBlock]) v_66 t_64.2.1 ∧ RepV (.sl gt0) w_ (Kx K w.heap.size [v_65.ownBlock, v_56.ownBlock]) v_57 t_55.2.1 ∧ RepV (.sl (.int .u8)) w_ (Kx K w.heap.size [v_65.ownBlock, v_56.ownBlock]) v_46 t_45 ∧ RepV (.sl gt2) w_ (Kx K w.heap.size [v_65.ownBlock, v_56.ownBlock]) v_18 y_17 ∧ Ow gt2 37 w_ w.heap.size (Kx K w.heap.size [v_65.ownBlock, v_56.ownBlock]) v_65 t_64.1.xs t_64.1.cap ∧ Ow gt2 37 w_ w.heap.size (Kx K w.heap.size [v_65.ownBlock, v_56.ownBlock]) v_56 t_55.1.xs t_55.1.cap) ?_ ?_
                      · refine wp_cond_split (S.eval (show ev _ _ = some (.bool y_124.2.2.2.1) from rfl)) ?_ ?_
                        · intro hc
                          rw [if_pos hc] at ej_130
                          refine wp_region_lit ?_
                          refine wl_pure (l' := [(117, .int .i64 c_89), (116, .bool y_124.2.2.2.1), (19, .int .i64 c_87), (18, .int .i64 c_89), (17, .int .i64 t_64.2.2), (16, v_66), (15, v_65), (14, .int .i64 t_55.2.2), (13, v_57), (12, v_56), (11, .int .i64 t_50), (10, v_46), (5, v_18)]) S tys tys_ok 1 (by kernel_rfl) ?_
                          clear S; intro a S
                          obtain ⟨x_132, ex_132, ej_130⟩ := bindS ej_130
                          refine w_go S rfl (op_arith S .i64 (c_89 + 1) rfl (.inl rfl) rfl rfl rfl rfl ex_132 ?_)
                          clear S; intro a S
                          refine wl_pureK (l' := [(18, .int .i64 x_132), (19, .int .i64 c_87), (18, .int .i64 c_89), (17, .int .i64 t_64.2.2), (16, v_66), (15, v_65), (14, .int .i64 t_55.2.2), (13, v_57), (12, v_56), (11, .int .i64 t_50), (10, v_46), (5, v_18)]) S tys tys_ok 1 [18, 19, 17, 16, 15, 14, 13, 12, 11, 10, 5] (by kernel_rfl) ?_
                          clear S; intro a S
                          refine wpList_nil ?_
                          refine then_n ?_
                          obtain rfl := Option.some.inj ej_130
                          exact ⟨S.sub (by exact ⟨rfl, rfl, rfl, rfl, rfl, rfl, rfl, rfl, rfl, rfl, rfl, trivial⟩), W, (ckI_some ex_132).2.1, R_69, R_60, R_47, R_19, R_68, R_59⟩
                        · intro hc
                          rw [if_neg (Bool.eq_false_iff.1 hc)] at ej_130
                          refine wp_skip ?_
                          refine then_n ?_
                          obtain rfl := Option.some.inj ej_130
                          exact ⟨S.sub (by exact ⟨rfl, rfl, rfl, rfl, rfl, rfl, rfl, rfl, rfl, rfl, rfl, trivial⟩), W, G_90, R_69, R_60, R_47, R_19, R_68, R_59⟩
                      clear S W; rintro a w_133 ⟨S, W, G_131, R_69, R_60, R_47, R_19, R_68, R_59⟩
                      refine then_n ?_
                      obtain rfl := Option.some.inj ej_115
                      exact ⟨_, rfl, ⟨S.sub (by exact ⟨rfl, rfl, rfl, rfl, rfl, rfl, rfl, rfl, rfl, rfl, rfl, trivial⟩), W, G_131, R_69, R_60, R_47, R_19, R_68, R_59⟩⟩
                  · intro hc
                    rw [if_neg (Bool.eq_false_iff.1 hc)] at ej_115
                    refine wp_seq ?_
                    obtain ⟨y_134, ey_134, ej_115⟩ := bindS ej_115
                    obtain ⟨y_140, ey_140, ej_115⟩ := bindS ej_115
                    have hR : Rel (Kx K w.heap.size [v_65.ownBlock, v_56.ownBlock]) Bl := Bl.rel _
                    refine wp_region_all hR [eqv (v_56), isI .i64 c_87, isEo gt2 (Kx K w.heap.size [v_65.ownBlock, v_56.ownBlock]) y_134, isEo .bool (Kx K w.heap.size [v_65.ownBlock, v_56.ownBlock]) y_134.2.2.2.1, eqv (.bool y_134.2.2.2.1), isRep (.sl gt2) (Kx K w.heap.size [v_65.ownBlock, v_56.ownBlock]) y_17, isI .i64 c_87, isEl gt2 (Kx K w.heap.size [v_65.ownBlock, v_56.ownBlock]) y_140, isEl .bool (Kx K w.heap.size [v_65.ownBlock, v_56.ownBlock]) y_140.2.2.2.1, eqv (.bool y_140.2.2.2.1), eqv (.bool (!(y_134.2.2.2.1 == y_140.2.2.2.1)))] [[], [], [(0, 119), (1, 120)], [(2, 121)], [(3, 122)], [], [], [(5, 124), (6, 125)], [(7, 126)], [(8, 127)], [(4, 123), (9, 128)]] (by kernel_rfl) (by rw [S.size]; kernel_rfl) (by kernel_rfl) (by kernel_rfl) rfl ⟨(stab_eqv _), stab_I, stab_eo, stab_eo, (stab_eqv _), (stab_rep hR), stab_I, (stab_el hR), (stab_el hR), (stab_eqv _), (stab_eqv _), trivial⟩ ?_ ?_
                    ·
                      refine RunAll.cons (eqv (v_56)) [] rfl rfl ?_ ?_
                      · intro W_ hW
                        have S1 := S
                        refine fill_nil S1 ?_; clear S1; intro a_ S1
                        replace R_59 := R_59.step hW
                        have S0 := S.defers; replace S := S1; clear S1
                        refine wl_pure (l' := [(119, v_56), (106, .bool q_102), (19, .int .i64 c_87), (18, .int .i64 c_89), (17, .int .i64 t_64.2.2), (16, v_66), (15, v_65), (14, .int .i64 t_55.2.2), (13, v_57), (12, v_56), (11, .int .i64 t_50), (10, v_46), (5, v_18)]) S tys tys_ok 1 (by kernel_rfl) ?_; clear S; intro a S
                        refine wpList_nil ?_
                        exact RPost.mk_ S rfl S0 rfl (Below.refl _ _)
                      refine RunAll.cons (isI .i64 c_87) [] rfl rfl ?_ ?_
                      · intro W_ hW
                        have S1 := S
                        refine fill_nil S1 ?_; clear S1; intro a_ S1
                        have S0 := S.defers; replace S := S1; clear S1
                        refine wl_pure (l' := [(120, .int .i64 c_87), (106, .bool q_102), (19, .int .i64 c_87), (18, .int .i64 c_89), (17, .int .i64 t_64.2.2), (16, v_66), (15, v_65), (14, .int .i64 t_55.2.2), (13, v_57), (12, v_56), (11, .int .i64 t_50), (10, v_46), (5, v_18)]) S tys tys_ok 1 (by kernel_rfl) ?_; clear S; intro a S
                        refine wpList_nil ?_
                        exact RPost.mk_ S rfl S0 ⟨rfl, G_88⟩ (Below.refl _ _)
                      refine RunAll.cons (isEo gt2 (Kx K w.heap.size [v_65.ownBlock, v_56.ownBlock]) y_134) [(eqv (v_56), 119), (isI .i64 c_87, 120)] rfl rfl ?_ ?_
                      · intro W_ hW
                        have S1 := S
                        intro v_147 hF_146; obtain rfl : v_56 = v_147 := Eq.symm hF_146
                        replace S1 := S1.put (by decide : 119 < 192) (v_56)
                        rintro _ ⟨rfl, hF_148⟩
                        replace S1 := S1.put (by decide : 120 < 192) (.int .i64 c_87)
                        refine fill_nil S1 ?_; clear S1; intro a_ S1
                        replace R_59 := R_59.step hW
                        replace W := W.step hW
                        have S0 := S.defers; replace S := S1; clear S1
                        refine w_go S rfl (op_indexAddr_own S rfl ty25 rfl rfl rfl R_59 rfl ey_134 ?_)
                        clear S; intro a g_150 H_152 R_151 S
                        refine wpList_nil ?_
                        exact RPost.mk_ S rfl S0 ⟨_, rfl, R_151, W.ownlt (o := v_56.ownBlock) (List.mem_of_getElem? (i := 1) rfl) H_152⟩ (Below.refl _ _)
                      refine RunAll.cons (isEo .bool (Kx K w.heap.size [v_65.ownBlock, v_56.ownBlock]) y_134.2.2.2.1) [(isEo gt2 (Kx K w.heap.size [v_65.ownBlock, v_56.ownBlock]) y_134, 121)] rfl rfl ?_ ?_
                      · intro W_ hW
                        have S1 := S
                        rintro _ ⟨p_155, rfl, R_156, H_157⟩
                        replace S1 := S1.put (by decide : 121 < 192) (.pointer (some p_155))
                        refine fill_nil S1 ?_; clear S1; intro a_ S1
                        have S0 := S.defers; replace S := S1; clear S1
                        refine wl_pure (l' := [(122, .pointer (some (p_155.add (coff gf2 3)))), (121, .pointer (some p_155)), (106, .bool q_102), (19, .int .i64 c_87), (18, .int .i64 c_89), (17, .int .i64 t_64.2.2), (16, v_66), (15, v_65), (14, .int .i64 t_55.2.2), (13, v_57), (12, v_56), (11, .int .i64 t_50), (10, v_46), (5, v_18)]) S tys tys_ok 1 (by kernel_rfl) ?_; clear S; intro a S
                        refine wpList_nil ?_
                        exact RPost.mk_ S rfl S0 ⟨_, rfl, (RepAt.add 3 (RepAt.st (t := gf2) R_156)), (by simpa [Addr.add] using H_157)⟩ (Below.refl _ _)
                      refine RunAll.cons (eqv (.bool y_134.2.2.2.1)) [(isEo .bool (Kx K w.heap.size [v_65.ownBlock, v_56.ownBlock]) y_134.2.2.2.1, 122)] rfl rfl ?_ ?_
                      · intro W_ hW
                        have S1 := S
                        rintro _ ⟨p_160, rfl, R_161, H_162⟩
                        replace S1 := S1.put (by decide : 122 < 192) (.pointer (some p_160))
                        refine fill_nil S1 ?_; clear S1; intro a_ S1
                        have S0 := S.defers; replace S := S1; clear S1
                        refine w_go S rfl (op_load (t := .bool) (x := y_134.2.2.2.1) S rfl ty4 rfl rfl rfl R_161 ?_)
                        clear S; intro a v_163 R_164 S
                        obtain rfl := RepV.bool R_164
                        refine wpList_nil ?_
                        exact RPost.mk_ S rfl S0 rfl (Below.refl _ _)
                      refine RunAll.cons (isRep (.sl gt2) (Kx K w.heap.size [v_65.ownBlock, v_56.ownBlock]) y_17) [] rfl rfl ?_ ?_
                      · intro W_ hW
                        have S1 := S
                        refine fill_nil S1 ?_; clear S1; intro a_ S1
                        replace R_19 := R_19.step hW
                        have S0 := S.defers; replace S := S1; clear S1
                        refine wl_pure (l' := [(124, v_18), (106, .bool q_102), (19, .int .i64 c_87), (18, .int .i64 c_89), (17, .int .i64 t_64.2.2), (16, v_66), (15, v_65), (14, .int .i64 t_55.2.2), (13, v_57), (12, v_56), (11, .int .i64 t_50), (10, v_46), (5, v_18)]) S tys tys_ok 1 (by kernel_rfl) ?_; clear S; intro a S
                        refine wpList_nil ?_
                        exact RPost.mk_ S rfl S0 R_19 (Below.refl _ _)
                      refine RunAll.cons (isI .i64 c_87) [] rfl rfl ?_ ?_
                      · intro W_ hW
                        have S1 := S
                        refine fill_nil S1 ?_; clear S1; intro a_ S1
                        have S0 := S.defers; replace S := S1; clear S1
                        refine wl_pure (l' := [(125, .int .i64 c_87), (106, .bool q_102), (19, .int .i64 c_87), (18, .int .i64 c_89), (17, .int .i64 t_64.2.2), (16, v_66), (15, v_65), (14, .int .i64 t_55.2.2), (13, v_57), (12, v_56), (11, .int .i64 t_50), (10, v_46), (5, v_18)]) S tys tys_ok 1 (by kernel_rfl) ?_; clear S; intro a S
                        refine wpList_nil ?_
                        exact RPost.mk_ S rfl S0 ⟨rfl, G_88⟩ (Below.refl _ _)
                      refine RunAll.cons (isEl gt2 (Kx K w.heap.size [v_65.ownBlock, v_56.ownBlock]) y_140) [(isRep (.sl gt2) (Kx K w.heap.size [v_65.ownBlock, v_56.ownBlock]) y_17, 124), (isI .i64 c_87, 125)] rfl rfl ?_ ?_
                      · intro W_ hW
                        have S1 := S
                        intro v_166 hF_165; replace hF_165 : RepV _ _ _ _ _ := hF_165
                        replace S1 := S1.put (by decide : 124 < 192) (v_166)
                        rintro _ ⟨rfl, hF_167⟩
                        replace S1 := S1.put (by decide : 125 < 192) (.int .i64 c_87)
                        refine fill_nil S1 ?_; clear S1; intro a_ S1
                        replace W := W.step hW
                        have S0 := S.defers; replace S := S1; clear S1
                        refine w_go S rfl (op_indexAddr S rfl ty25 rfl rfl rfl hF_165 rfl ey_140 ?_)
                        clear S; intro a p_169 R_170 H_171 S
                        refine wpList_nil ?_
                        exact RPost.mk_ S rfl S0 ⟨_, rfl, R_170, H_171⟩ (Below.refl _ _)
                      refine RunAll.cons (isEl .bool (Kx K w.heap.size [v_65.ownBlock, v_56.ownBlock]) y_140.2.2.2.1) [(isEl gt2 (Kx K w.heap.size [v_65.ownBlock, v_56.ownBlock]) y_140, 126)] rfl rfl ?_ ?_
                      · intro W_ hW
                        have S1 := S
                        rintro _ ⟨p_174, rfl, R_175, H_176⟩
                        replace S1 := S1.put (by decide : 126 < 192) (.pointer (some p_174))
                        refine fill_nil S1 ?_; clear S1; intro a_ S1
                        have S0 := S.defers; replace S := S1; clear S1
                        refine wl_pure (l' := [(127, .pointer (some (p_174.add (coff gf2 3)))), (126, .pointer (some p_174)), (106, .bool q_102), (19, .int .i64 c_87), (18, .int .i64 c_89), (17, .int .i64 t_64.2.2), (16, v_66), (15, v_65), (14, .int .i64 t_55.2.2), (13, v_57), (12, v_56), (11, .int .i64 t_50), (10, v_46), (5, v_18)]) S tys tys_ok 1 (by kernel_rfl) ?_; clear S; intro a S
                        refine wpList_nil ?_
                        exact RPost.mk_ S rfl S0 ⟨_, rfl, (RepAt.add 3 (RepAt.st (t := gf2) R_175)), (by simpa [Addr.add] using H_176)⟩ (Below.refl _ _)
                      refine RunAll.cons (eqv (.bool y_140.2.2.2.1)) [(isEl .bool (Kx K w.heap.size [v_65.ownBlock, v_56.ownBlock]) y_140.2.2.2.1, 127)] rfl rfl ?_ ?_
                      · intro W_ hW
                        have S1 := S
                        rintro _ ⟨p_179, rfl, R_180, H_181⟩
                        replace S1 := S1.put (by decide : 127 < 192) (.pointer (some p_179))
                        refine fill_nil S1 ?_; clear S1; intro a_ S1
                        have S0 := S.defers; replace S := S1; clear S1
                        refine w_go S rfl (op_load (t := .bool) (x := y_140.2.2.2.1) S rfl ty4 rfl rfl rfl R_180 ?_)
                        clear S; intro a v_182 R_183 S
                        obtain rfl := RepV.bool R_183
                        refine wpList_nil ?_
                        exact RPost.mk_ S rfl S0 rfl (Below.refl _ _)
                      refine RunAll.cons (eqv (.bool (!(y_134.2.2.2.1 == y_140.2.2.2.1)))) [(eqv (.bool y_134.2.2.2.1), 123), (eqv (.bool y_140.2.2.2.1), 128)] rfl rfl ?_ ?_
                      · intro W_ hW
                        have S1 := S
                        intro v_185 hF_184; obtain rfl : .bool y_134.2.2.2.1 = v_185 := Eq.symm hF_184
                        replace S1 := S1.put (by decide : 123 < 192) (.bool y_134.2.2.2.1)
                        intro v_187 hF_186; obtain rfl : .bool y_140.2.2.2.1 = v_187 := Eq.symm hF_186
                        replace S1 := S1.put (by decide : 128 < 192) (.bool y_140.2.2.2.1)
                        refine fill_nil S1 ?_; clear S1; intro a_ S1
                        have S0 := S.defers; replace S := S1; clear S1
                        refine wl_pure (l' := [(129, .bool (!(y_134.2.2.2.1 == y_140.2.2.2.1))), (128, .bool y_140.2.2.2.1), (123, .bool y_134.2.2.2.1), (106, .bool q_102), (19, .int .i64 c_87), (18, .int .i64 c_89), (17, .int .i64 t_64.2.2), (16, v_66), (15, v_65), (14, .int .i64 t_55.2.2), (13, v_57), (12, v_56), (11, .int .i64 t_50), (10, v_46), (5, v_18)]) S tys tys_ok 1 (by kernel_rfl) ?_; clear S; intro a S
                        refine wpList_nil ?_
                        exact RPost.mk_ S rfl S0 rfl (Below.refl _ _)
                      exact trivial
                    intro w_188 hb_189
                    refine EndE.some_ rfl ?_
                    intro v_191 hF_190; obtain rfl : v_56 = v_191 := Eq.symm hF_190
                    replace S := S.put (by decide : 119 < 192) (v_56)
                    refine EndE.some_ rfl ?_
                    rintro _ ⟨rfl, hF_192⟩
                    replace S := S.put (by decide : 120 < 192) (.int .i64 c_87)
                    refine EndE.some_ rfl ?_
                    rintro _ ⟨p_196, rfl, R_197, H_198⟩
                    replace S := S.put (by decide : 121 < 192) (.pointer (some p_196))
                    refine EndE.some_ rfl ?_
                    rintro _ ⟨p_201, rfl, R_202, H_203⟩
                    replace S := S.put (by decide : 122 < 192) (.pointer (some p_201))
                    refine EndE.some_ rfl ?_
                    intro v_205 hF_204; obtain rfl : .bool y_134.2.2.2.1 = v_205 := Eq.symm hF_204
                    replace S := S.put (by decide : 123 < 192) (.bool y_134.2.2.2.1)
                    refine EndE.some_ rfl ?_
                    intro v_207 hF_206; replace hF_206 : RepV _ _ _ _ _ := hF_206
                    replace S := S.put (by decide : 124 < 192) (v_207)
                    refine EndE.some_ rfl ?_
                    rintro _ ⟨rfl, hF_208⟩
                    replace S := S.put (by decide : 125 < 192) (.int .i64 c_87)
                    refine EndE.some_ rfl ?_
                    rintro _ ⟨p_212, rfl, R_213, H_214⟩
                    replace S := S.put (by decide : 126 < 192) (.pointer (some p_212))
                    refine EndE.some_ rfl ?_
                    rintro _ ⟨p_217, rfl, R_218, H_219⟩
                    replace S := S.put (by decide : 127 < 192) (.pointer (some p_217))
                    refine EndE.some_ rfl ?_
                    intro v_221 hF_220; obtain rfl : .bool y_140.2.2.2.1 = v_221 := Eq.symm hF_220
                    replace S := S.put (by decide : 128 < 192) (.bool y_140.2.2.2.1)
                    refine EndE.some_ rfl ?_
                    intro v_223 hF_222; obtain rfl : .bool (!(y_134.2.2.2.1 == y_140.2.2.2.1)) = v_223 := Eq.symm hF_222
                    replace S := S.put (by decide : 129 < 192) (.bool (!(y_134.2.2.2.1 == y_140.2.2.2.1)))
                    refine endE_nil S ?_; clear S; intro a S
                    replace R_69 := R_69.step hb_189
                    replace R_60 := R_60.step hb_189
                    replace R_47 := R_47.step hb_189
                    replace R_19 := R_19.step hb_189
                    replace R_68 := R_68.step hb_189
                    replace R_59 := R_59.step hb_189
                    replace W := W.step hb_189
                    refine then_n ?_
                    replace S := S.sub (l' := [(129, .bool (!(y_134.2.2.2.1 == y_140.2.2.2.1))), (19, .int .i64 c_87), (18, .int .i64 c_89), (17, .int .i64 t_64.2.2), (16, v_66), (15, v_65), (14, .int .i64 t_55.2.2), (13, v_57), (12, v_56), (11, .int .i64 t_50), (10, v_46), (5, v_18)]) (by exact ⟨rfl, rfl, rfl, rfl, rfl, rfl, rfl, rfl, rfl, rfl, rfl, rfl, trivial⟩)
                    refine wp_cond_split (S.eval (show ev _ _ = some (.bool (!(y_134.2.2.2.1 == y_140.2.2.2.1))) from rfl)) ?_ ?_
                    · intro hc
                      rw [if_pos hc] at ej_115
                      refine wp_seq ?_
                      refine wp_region_lit ?_
                      refine wl_pureK (l' := [(4, .bool false)]) S tys tys_ok 1 [4] (by kernel_rfl) ?_
                      clear S; intro a S
                      refine wpList_nil ?_
                      refine then_n ?_
                      refine wp_ret ?_
                      refine then_r ?_
                      refine blk_r ?_
                      refine then_r ?_
                      refine then_r ?_
                      refine blk_r ?_
                      refine then_r ?_
                      refine then_r ?_
                      obtain rfl := Option.some.inj ej_115
                      have hq_ := lr_inr2 hl_99; subst hq_
                      obtain rfl := lr_inr h
                      exact b_ret1 S rfl rfl ⟨_, rfl, RepV.mkBool, W.below⟩
                    · intro hc
                      rw [if_neg (Bool.eq_false_iff.1 hc)] at ej_115
                      refine wp_skip ?_
                      refine then_n ?_
                      obtain rfl := Option.some.inj ej_115
                      exact ⟨_, rfl, ⟨S.sub (by exact ⟨rfl, rfl, rfl, rfl, rfl, rfl, rfl, rfl, rfl, rfl, rfl, trivial⟩), W, G_90, R_69, R_60, R_47, R_19, R_68, R_59⟩⟩
                clear S W; rintro a w_224 ⟨s_116, rfl, S, W, G_117, R_69, R_60, R_47, R_19, R_68, R_59⟩
                replace hl_99 := lr_inl hl_99; try dsimp only at hl_99
                refine blk_n ?_
                refine then_n ?_
                refine wp_region_lit ?_
                refine wl_pure (l' := [(93, .int .i64 c_87), (19, .int .i64 c_87), (18, .int .i64 s_116), (17, .int .i64 t_64.2.2), (16, v_66), (15, v_65), (14, .int .i64 t_55.2.2), (13, v_57), (12, v_56), (11, .int .i64 t_50), (10, v_46), (5, v_18)]) S tys tys_ok 1 (by kernel_rfl) ?_
                clear S; intro a S
                obtain ⟨x_225, ex_225, hl_99⟩ := bindS hl_99
                refine w_go S rfl (op_arith S .i64 (c_87 + 1) rfl (.inl rfl) rfl rfl rfl rfl ex_225 ?_)
                clear S; intro a S
                refine wl_pure (l' := [(19, .int .i64 x_225), (94, .int .i64 x_225), (93, .int .i64 c_87), (19, .int .i64 c_87), (18, .int .i64 s_116), (17, .int .i64 t_64.2.2), (16, v_66), (15, v_65), (14, .int .i64 t_55.2.2), (13, v_57), (12, v_56), (11, .int .i64 t_50), (10, v_46), (5, v_18)]) S tys tys_ok 1 (by kernel_rfl) ?_
                clear S; intro a S
                refine wpList_nil ?_
                refine then_n ?_
                exact ⟨x_225, s_116, ⟨S.sub (by exact ⟨rfl, rfl, rfl, rfl, rfl, rfl, rfl, rfl, rfl, rfl, rfl, trivial⟩), W, (ckI_some ex_225).2.1, G_117, R_69, R_60, R_47, R_19, R_68, R_59, hl_99⟩⟩
              · intro hc
                rw [if_neg (Bool.eq_false_iff.1 hc)] at hl_99
                refine wp_exit ?_
                refine then_x ?_
                refine then_x ?_
                refine blk_hit ?_
                refine then_n ?_
                obtain rfl := Option.some.inj hl_99
                exact ⟨_, rfl, ⟨S.sub (by exact ⟨rfl, rfl, rfl, rfl, rfl, rfl, rfl, rfl, rfl, trivial⟩), W, G_90, R_19, R_60, R_69, R_59, R_68⟩⟩
        clear S W; rintro a w_226 ⟨s_96, rfl, S, W, G_97, R_19, R_60, R_69, R_59, R_68⟩
        replace h := lr_inl h; try dsimp only at h
        refine then_n ?_
        refine wp_seq ?_
        refine wp_seq ?_
        refine wp_region_lit ?_
        refine wl_pureK (l' := [(132, .bool (t_55.2.2 != 0)), (5, v_18), (11, .int .i64 t_50), (12, v_56), (13, v_57), (15, v_65), (16, v_66), (17, .int .i64 t_64.2.2), (18, .int .i64 s_96)]) S tys tys_ok 3 [132, 5, 11, 12, 13, 15, 16, 17, 18] (by kernel_rfl) ?_
        clear S; intro a S
        obtain ⟨q_227, eq_227, h⟩ := bindS h
        refine seg 5 (fun a_ w_ => w_226 = w_ ∧ St 192 a_ [(137, .bool q_227), (5, v_18), (11, .int .i64 t_50), (12, v_56), (13, v_57), (15, v_65), (16, v_66), (17, .int .i64 t_64.2.2)]) ?_ ?_
        · by_cases hc : (t_55.2.2 != 0) = false
          · rw [if_pos hc] at eq_227; rw [hc] at S
            refine wl_pure (l' := [(133, v_57), (132, .bool false), (5, v_18), (11, .int .i64 t_50), (12, v_56), (13, v_57), (15, v_65), (16, v_66), (17, .int .i64 t_64.2.2), (18, .int .i64 s_96)]) S tys tys_ok 1 (by kernel_rfl) ?_
            clear S; intro a S
            refine w_go S rfl (op_len (K := _) S rfl ty26 rfl rfl rfl R_60 ?_)
            clear S; intro a G_228 S
            refine wl_pureK (l' := [(137, .bool ((lenI t_55.2.1) != s_96)), (5, v_18), (11, .int .i64 t_50), (12, v_56), (13, v_57), (15, v_65), (16, v_66), (17, .int .i64 t_64.2.2)]) S tys tys_ok 3 [137, 5, 11, 12, 13, 15, 16, 17] (by kernel_rfl) ?_
            clear S; intro a S
            obtain rfl := Option.some.inj eq_227
            exact ⟨rfl, S.sub (by exact ⟨rfl, rfl, rfl, rfl, rfl, rfl, rfl, rfl, trivial⟩)⟩
          · rw [if_neg hc] at eq_227; rw [show (t_55.2.2 != 0) = true from (by simpa using hc)] at S
            refine wl_pureK (l' := [(137, .bool true), (5, v_18), (11, .int .i64 t_50), (12, v_56), (13, v_57), (15, v_65), (16, v_66), (17, .int .i64 t_64.2.2)]) S tys tys_ok 5 [137, 5, 11, 12, 13, 15, 16, 17] (by kernel_rfl) ?_
            clear S; intro a S
            obtain rfl := Option.some.inj eq_227
            exact ⟨rfl, S.sub (by exact ⟨rfl, rfl, rfl, rfl, rfl, rfl, rfl, rfl, trivial⟩)⟩
        clear S eq_227; rintro a _ ⟨rfl, S⟩
        refine wl_pure (l' := [(138, .bool q_227), (137, .bool q_227), (5, v_18), (11, .int .i64 t_50), (12, v_56), (13, v_57), (15, v_65), (16, v_66), (17, .int .i64 t_64.2.2)]) S tys tys_ok 1 (by kernel_rfl) ?_
        clear S; intro a S
        obtain ⟨q_229, eq_229, h⟩ := bindS h
        refine seg 7 (fun a_ w_ => w_226 = w_ ∧ St 192 a_ [(145, .bool q_229), (5, v_18), (11, .int .i64 t_50), (13, v_57), (15, v_65), (16, v_66), (17, .int .i64 t_64.2.2)]) ?_ ?_
        · by_cases hc : q_227 = false
          · rw [if_pos hc] at eq_229; rw [hc] at S
            refine wl_pure (l' := [(140, .int .i64 t_50), (139, v_56), (138, .bool false), (137, .bool false), (5, v_18), (11, .int .i64 t_50), (12, v_56), (13, v_57), (15, v_65), (16, v_66), (17, .int .i64 t_64.2.2)]) S tys tys_ok 2 (by kernel_rfl) ?_
            clear S; intro a S
            obtain ⟨y_230, ey_230, eq_229⟩ := bindS eq_229
            refine w_go S rfl (op_indexAddr_own S rfl ty25 rfl rfl rfl R_59 rfl ey_230 ?_)
            clear S; intro a g_231 H_233 R_232 S
            refine wl_pureK (l' := [(142, .pointer (some ((⟨g_231, t_50.toNat * GT.sz gt2, .none⟩ : Addr).add (coff gf2 1)))), (138, .bool false), (5, v_18), (11, .int .i64 t_50), (13, v_57), (15, v_65), (16, v_66), (17, .int .i64 t_64.2.2)]) S tys tys_ok 1 [142, 138, 5, 11, 13, 15, 16, 17] (by kernel_rfl) ?_
            clear S; intro a S
            refine w_go S rfl (op_load (t := .bool) (x := y_230.2.1) S rfl ty4 rfl rfl rfl (RepAt.add 1 (RepAt.st (t := gf2) R_232)) ?_)
            clear S; intro a v_234 R_235 S
            obtain rfl := RepV.bool R_235
            refine wl_pureK (l' := [(145, .bool (!y_230.2.1)), (5, v_18), (11, .int .i64 t_50), (13, v_57), (15, v_65), (16, v_66), (17, .int .i64 t_64.2.2)]) S tys tys_ok 2 [145, 5, 11, 13, 15, 16, 17] (by kernel_rfl) ?_
            clear S; intro a S
            obtain rfl := Option.some.inj eq_229
            exact ⟨rfl, S.sub (by exact ⟨rfl, rfl, rfl, rfl, rfl, rfl, rfl, trivial⟩)⟩
          · rw [if_neg hc] at eq_229; rw [show q_227 = true from (by simpa using hc)] at S
            refine wl_pureK (l' := [(145, .bool true), (5, v_18), (11, .int .i64 t_50), (13, v_57), (15, v_65), (16, v_66), (17, .int .i64 t_64.2.2)]) S tys tys_ok 7 [145, 5, 11, 13, 15, 16, 17] (by kernel_rfl) ?_
            clear S; intro a S
            obtain rfl := Option.some.inj eq_229
            exact ⟨rfl, S.sub (by exact ⟨rfl, rfl, rfl, rfl, rfl, rfl, rfl, trivial⟩)⟩
        clear S eq_229; rintro a _ ⟨rfl, S⟩
        refine wl_pure (l' := [(146, .bool q_229), (145, .bool q_229), (5, v_18), (11, .int .i64 t_50), (13, v_57), (15, v_65), (16, v_66), (17, .int .i64 t_64.2.2)]) S tys tys_ok 1 (by kernel_rfl) ?_
        clear S; intro a S
        obtain ⟨q_236, eq_236, h⟩ := bindS h
        refine seg 16 (fun a_ w_ => w_226 = w_ ∧ St 192 a_ [(162, .bool q_236), (11, .int .i64 t_50), (13, v_57), (15, v_65), (16, v_66), (17, .int .i64 t_64.2.2)]) ?_ ?_
        · by_cases hc : q_229 = false
          · rw [if_pos hc] at eq_236; rw [hc] at S
            refine wl_pure (l' := [(150, .int .i64 t_50), (149, v_18), (148, .bool (t_64.2.2 == 0)), (147, .int .i64 t_64.2.2), (146, .bool false), (145, .bool false), (5, v_18), (11, .int .i64 t_50), (13, v_57), (15, v_65), (16, v_66), (17, .int .i64 t_64.2.2)]) S tys tys_ok 4 (by kernel_rfl) ?_
            clear S; intro a S
            obtain ⟨y_237, ey_237, eq_236⟩ := bindS eq_236
            refine w_go S rfl (op_indexAddr S rfl ty25 rfl rfl rfl R_19 rfl ey_237 ?_)
            clear S; intro a p_238 R_239 H_240 S
            refine wl_pureK (l' := [(152, .pointer (some (p_238.add (coff gf2 3)))), (148, .bool (t_64.2.2 == 0)), (146, .bool false), (5, v_18), (11, .int .i64 t_50), (13, v_57), (15, v_65), (16, v_66), (17, .int .i64 t_64.2.2)]) S tys tys_ok 1 [152, 148, 146, 5, 11, 13, 15, 16, 17] (by kernel_rfl) ?_
            clear S; intro a S
            refine w_go S rfl (op_load (t := .bool) (x := y_237.2.2.2.1) S rfl ty4 rfl rfl rfl (RepAt.add 3 (RepAt.st (t := gf2) R_239)) ?_)
            clear S; intro a v_241 R_242 S
            obtain rfl := RepV.bool R_242
            refine wl_pure (l' := [(154, .bool y_237.2.2.2.1), (153, .bool y_237.2.2.2.1), (152, .pointer (some (p_238.add (coff gf2 3)))), (148, .bool (t_64.2.2 == 0)), (146, .bool false), (5, v_18), (11, .int .i64 t_50), (13, v_57), (15, v_65), (16, v_66), (17, .int .i64 t_64.2.2)]) S tys tys_ok 1 (by kernel_rfl) ?_
            clear S; intro a S
            obtain ⟨q_243, eq_243, eq_236⟩ := bindS eq_236
            refine seg 6 (fun a_ w_ => w_226 = w_ ∧ St 192 a_ [(160, .bool q_243), (148, .bool (t_64.2.2 == 0)), (146, .bool false), (11, .int .i64 t_50), (13, v_57), (15, v_65), (16, v_66), (17, .int .i64 t_64.2.2)]) ?_ ?_
            · by_cases hc : y_237.2.2.2.1 = true
              · rw [if_pos hc] at eq_243; rw [hc] at S
                refine wl_pureK (l' := [(156, .int .i64 t_50), (155, v_18), (154, .bool true), (148, .bool (t_64.2.2 == 0)), (146, .bool false), (11, .int .i64 t_50), (13, v_57), (15, v_65), (16, v_66), (17, .int .i64 t_64.2.2)]) S tys tys_ok 2 [156, 155, 154, 148, 146, 11, 13, 15, 16, 17] (by kernel_rfl) ?_
                clear S; intro a S
                obtain ⟨y_244, ey_244, eq_243⟩ := bindS eq_243
                refine w_go S rfl (op_indexAddr S rfl ty25 rfl rfl rfl R_19 rfl ey_244 ?_)
                clear S; intro a p_245 R_246 H_247 S
                refine wl_pureK (l' := [(158, .pointer (some (p_245.add (coff gf2 2)))), (154, .bool true), (148, .bool (t_64.2.2 == 0)), (146, .bool false), (11, .int .i64 t_50), (13, v_57), (15, v_65), (16, v_66), (17, .int .i64 t_64.2.2)]) S tys tys_ok 1 [158, 154, 148, 146, 11, 13, 15, 16, 17] (by kernel_rfl) ?_
                clear S; intro a S
                refine w_go S rfl (op_load (t := .bool) (x := y_244.2.2.1) S rfl ty4 rfl rfl rfl (RepAt.add 2 (RepAt.st (t := gf2) R_246)) ?_)
                clear S; intro a v_248 R_249 S
                obtain rfl := RepV.bool R_249
                refine wl_pureK (l' := [(160, .bool y_244.2.2.1), (148, .bool (t_64.2.2 == 0)), (146, .bool false), (11, .int .i64 t_50), (13, v_57), (15, v_65), (16, v_66), (17, .int .i64 t_64.2.2)]) S tys tys_ok 1 [160, 148, 146, 11, 13, 15, 16, 17] (by kernel_rfl) ?_
                clear S; intro a S
                obtain rfl := Option.some.inj eq_243
                exact ⟨rfl, S.sub (by exact ⟨rfl, rfl, rfl, rfl, rfl, rfl, rfl, rfl, trivial⟩)⟩
              · rw [if_neg hc] at eq_243; rw [show y_237.2.2.2.1 = false from Bool.eq_false_iff.2 hc] at S
                refine wl_pureK (l' := [(160, .bool false), (148, .bool (t_64.2.2 == 0)), (146, .bool false), (11, .int .i64 t_50), (13, v_57), (15, v_65), (16, v_66), (17, .int .i64 t_64.2.2)]) S tys tys_ok 6 [160, 148, 146, 11, 13, 15, 16, 17] (by kernel_rfl) ?_
                clear S; intro a S
                obtain rfl := Option.some.inj eq_243
                exact ⟨rfl, S.sub (by exact ⟨rfl, rfl, rfl, rfl, rfl, rfl, rfl, rfl, trivial⟩)⟩
            clear S eq_243; rintro a _ ⟨rfl, S⟩
            refine wl_pureK (l' := [(162, .bool (!((t_64.2.2 == 0) == q_243))), (11, .int .i64 t_50), (13, v_57), (15, v_65), (16, v_66), (17, .int .i64 t_64.2.2)]) S tys tys_ok 2 [162, 11, 13, 15, 16, 17] (by kernel_rfl) ?_
            clear S; intro a S
            obtain rfl := Option.some.inj eq_236
            exact ⟨rfl, S.sub (by exact ⟨rfl, rfl, rfl, rfl, rfl, rfl, trivial⟩)⟩
          · rw [if_neg hc] at eq_236; rw [show q_229 = true from (by simpa using hc)] at S
            refine wl_pureK (l' := [(162, .bool true), (11, .int .i64 t_50), (13, v_57), (15, v_65), (16, v_66), (17, .int .i64 t_64.2.2)]) S tys tys_ok 16 [162, 11, 13, 15, 16, 17] (by kernel_rfl) ?_
            clear S; intro a S
            obtain rfl := Option.some.inj eq_236
            exact ⟨rfl, S.sub (by exact ⟨rfl, rfl, rfl, rfl, rfl, rfl, trivial⟩)⟩
        clear S eq_236; rintro a _ ⟨rfl, S⟩
        refine wpList_nil ?_
        refine then_n ?_
        refine wp_cond_split (S.eval (show ev _ _ = some (.bool q_236) from rfl)) ?_ ?_
        · intro hc
          rw [if_pos hc] at h
          refine wp_seq ?_
          refine wp_region_lit ?_
          refine wl_pureK (l' := [(4, .bool false)]) S tys tys_ok 1 [4] (by kernel_rfl) ?_
          clear S; intro a S
          refine wpList_nil ?_
          refine then_n ?_
          refine wp_ret ?_
          refine then_r ?_
          obtain rfl := Option.some.inj h
          exact b_ret1 S rfl rfl ⟨_, rfl, RepV.mkBool, W.below⟩
        · intro hc
          rw [if_neg (Bool.eq_false_iff.1 hc)] at h
          refine wp_skip ?_
          refine then_n ?_
          replace S := S.sub (l' := [(11, .int .i64 t_50), (13, v_57), (15, v_65), (16, v_66), (17, .int .i64 t_64.2.2)]) (by exact ⟨rfl, rfl, rfl, rfl, rfl, trivial⟩)
          refine wp_seq ?_
          refine wp_seq ?_
          refine wp_region_lit ?_
          refine wl_pure (l' := [(164, .bool (t_64.2.2 != 0)), (163, .int .i64 t_64.2.2), (11, .int .i64 t_50), (13, v_57), (15, v_65), (16, v_66), (17, .int .i64 t_64.2.2)]) S tys tys_ok 2 (by kernel_rfl) ?_
          clear S; intro a S
          refine wpList_nil ?_
          refine then_n ?_
          replace S := S.sub (l' := [(164, .bool (t_64.2.2 != 0)), (11, .int .i64 t_50), (13, v_57), (15, v_65), (16, v_66), (17, .int .i64 t_64.2.2)]) (by exact ⟨rfl, rfl, rfl, rfl, rfl, rfl, trivial⟩)
          refine wp_cond_split (S.eval (show ev _ _ = some (.bool (t_64.2.2 != 0)) from rfl)) ?_ ?_
          · intro hc
            rw [if_pos hc] at h
            refine wp_seq ?_
            refine wp_region_lit ?_
            refine wl_pureK (l' := [(167, .bool (t_64.2.2 == 6)), (15, v_65), (16, v_66)]) S tys tys_ok 3 [167, 15, 16] (by kernel_rfl) ?_
            clear S; intro a S
            obtain ⟨q_250, eq_250, h⟩ := bindS h
            refine seg 7 (fun a_ w_ => w_226 = w_ ∧ St 192 a_ [(174, .bool q_250)]) ?_ ?_
            · by_cases hc : (t_64.2.2 == 6) = true
              · rw [if_pos hc] at eq_250; rw [hc] at S
                refine wl_pure (l' := [(168, v_65), (167, .bool true), (15, v_65), (16, v_66)]) S tys tys_ok 1 (by kernel_rfl) ?_
                clear S; intro a S
                refine w_go S rfl (op_len (K := _) S rfl ty25 rfl rfl rfl R_68.read ?_)
                clear S; intro a G_251 S
                refine wl_pureK (l' := [(170, v_66), (169, .int .i64 (lenI (⟨t_64.1.xs, t_64.1.cap⟩ : Sl ((Sl (Int)) × Bool × Bool × Bool × Int)))), (167, .bool true)]) S tys tys_ok 1 [170, 169, 167] (by kernel_rfl) ?_
                clear S; intro a S
                refine w_go S rfl (op_len (K := _) S rfl ty26 rfl rfl rfl R_69 ?_)
                clear S; intro a G_252 S
                obtain ⟨x_253, ex_253, eq_250⟩ := bindS eq_250
                refine w_go S rfl (op_arith S .i64 ((lenI (⟨t_64.1.xs, t_64.1.cap⟩ : Sl ((Sl (Int)) × Bool × Bool × Bool × Int))) + (lenI t_64.2.1)) rfl (.inl rfl) rfl rfl rfl rfl ex_253 ?_)
                clear S; intro a S
                refine wl_pureK (l' := [(174, .bool (x_253 == 0))]) S tys tys_ok 2 [174] (by kernel_rfl) ?_
                clear S; intro a S
                obtain rfl := Option.some.inj eq_250
                exact ⟨rfl, S.sub (by exact ⟨rfl, trivial⟩)⟩
              · rw [if_neg hc] at eq_250; rw [show (t_64.2.2 == 6) = false from Bool.eq_false_iff.2 hc] at S
                refine wl_pureK (l' := [(174, .bool false)]) S tys tys_ok 7 [174] (by kernel_rfl) ?_
                clear S; intro a S
                obtain rfl := Option.some.inj eq_250
                exact ⟨rfl, S.sub (by exact ⟨rfl, trivial⟩)⟩
            clear S eq_250; rintro a _ ⟨rfl, S⟩
            refine wl_pure (l' := [(175, .bool q_250), (174, .bool q_250)]) S tys tys_ok 1 (by kernel_rfl) ?_
            clear S; intro a S
            obtain ⟨q_254, eq_254, h⟩ := bindS h
            refine seg 2 (fun a_ w_ => St 192 a_ [(177, .bool q_254)] ∧ Wd w w_ [v_65.ownBlock, v_56.ownBlock]) ?_ ?_
            · by_cases hc : q_250 = true
              · rw [if_pos hc] at eq_254; rw [hc] at S
                obtain ⟨t_255, et_255, eq_254⟩ := bindS eq_254
                refine w_go S rfl (op_call (vs := []) S rfl cb8 rfl rfl rfl (c8 (Kx K w.heap.size [v_65.ownBlock, v_56.ownBlock]) n w_226  et_255) ?_)
                rintro _ w_259 ⟨v_256, rfl, R_257, hb_258⟩; refine ⟨_, rfl, ?_⟩
                replace R_257 := RepV.back R_257 W
                clear S; intro a S
                replace W := W.step hb_258
                obtain rfl := RepV.bool R_257
                refine wl_pureK (l' := [(177, .bool t_255)]) S tys tys_ok 1 [177] (by kernel_rfl) ?_
                clear S; intro a S
                obtain rfl := Option.some.inj eq_254
                exact ⟨S.sub (by exact ⟨rfl, trivial⟩), W⟩
              · rw [if_neg hc] at eq_254; rw [show q_250 = false from Bool.eq_false_iff.2 hc] at S
                refine wl_pureK (l' := [(177, .bool false)]) S tys tys_ok 2 [177] (by kernel_rfl) ?_
                clear S; intro a S
                obtain rfl := Option.some.inj eq_254
                exact ⟨S.sub (by exact ⟨rfl, trivial⟩), W⟩
            clear S W eq_254; rintro a w_260 ⟨S, W⟩
            refine wl_pure (l' := [(4, .bool q_254), (177, .bool q_254)]) S tys tys_ok 1 (by kernel_rfl) ?_
            clear S; intro a S
            refine wpList_nil ?_
            refine then_n ?_
            replace S := S.sub (l' := [(4, .bool q_254)]) (by exact ⟨rfl, trivial⟩)
            refine wp_ret ?_
            refine then_r ?_
            obtain rfl := Option.some.inj h
            exact b_ret1 S rfl rfl ⟨_, rfl, RepV.mkBool, W.below⟩
          · intro hc
            rw [if_neg (Bool.eq_false_iff.1 hc)] at h
            refine wp_skip ?_
            refine then_n ?_
            replace S := S.sub (l' := [(11, .int .i64 t_50), (13, v_57), (15, v_65), (16, v_66)]) (by exact ⟨rfl, rfl, rfl, rfl, trivial⟩)
            refine wp_seq ?_
            refine wp_region_lit ?_
            refine wl_pure (l' := [(179, v_57), (178, v_66), (11, .int .i64 t_50), (13, v_57), (15, v_65), (16, v_66)]) S tys tys_ok 2 (by kernel_rfl) ?_
            clear S; intro a S
            obtain ⟨t_261, et_261, h⟩ := bindS h
            refine w_go S rfl (op_call (vs := [v_66, v_57]) S rfl cb21 rfl rfl rfl (c21 (Kx K w.heap.size [v_65.ownBlock, v_56.ownBlock]) n w_226 t_64.2.1 _ R_69 t_55.2.1 _ R_60 et_261) ?_)
            rintro _ w_265 ⟨v_262, rfl, R_263, hb_264⟩; refine ⟨_, rfl, ?_⟩
            replace R_263 := RepV.back R_263 W
            clear S; intro a S
            replace R_60 := R_60.step hb_264
            replace R_69 := R_69.step hb_264
            replace R_68 := R_68.step hb_264
            replace W := W.step hb_264
            obtain rfl := RepV.bool R_263
            refine wl_pureK (l' := [(181, .bool t_261), (11, .int .i64 t_50), (15, v_65)]) S tys tys_ok 1 [181, 11, 15] (by kernel_rfl) ?_
            clear S; intro a S
            obtain ⟨q_266, eq_266, h⟩ := bindS h
            refine seg 7 (fun a_ w_ => w_265 = w_ ∧ St 192 a_ [(188, .bool q_266)]) ?_ ?_
            · by_cases hc : t_261 = true
              · rw [if_pos hc] at eq_266; rw [hc] at S
                refine wl_pure (l' := [(183, .int .i64 t_50), (182, v_65), (181, .bool true), (11, .int .i64 t_50), (15, v_65)]) S tys tys_ok 2 (by kernel_rfl) ?_
                clear S; intro a S
                obtain ⟨y_267, ey_267, eq_266⟩ := bindS eq_266
                refine w_go S rfl (op_indexAddr_own S rfl ty25 rfl rfl rfl R_68 rfl ey_267 ?_)
                clear S; intro a g_268 H_270 R_269 S
                refine wl_pureK (l' := [(185, .pointer (some ((⟨g_268, t_50.toNat * GT.sz gt2, .none⟩ : Addr).add (coff gf2 1)))), (181, .bool true)]) S tys tys_ok 1 [185, 181] (by kernel_rfl) ?_
                clear S; intro a S
                refine w_go S rfl (op_load (t := .bool) (x := y_267.2.1) S rfl ty4 rfl rfl rfl (RepAt.add 1 (RepAt.st (t := gf2) R_269)) ?_)
                clear S; intro a v_271 R_272 S
                obtain rfl := RepV.bool R_272
                refine wl_pureK (l' := [(188, .bool (!y_267.2.1))]) S tys tys_ok 2 [188] (by kernel_rfl) ?_
                clear S; intro a S
                obtain rfl := Option.some.inj eq_266
                exact ⟨rfl, S.sub (by exact ⟨rfl, trivial⟩)⟩
              · rw [if_neg hc] at eq_266; rw [show t_261 = false from Bool.eq_false_iff.2 hc] at S
                refine wl_pureK (l' := [(188, .bool false)]) S tys tys_ok 7 [188] (by kernel_rfl) ?_
                clear S; intro a S
                obtain rfl := Option.some.inj eq_266
                exact ⟨rfl, S.sub (by exact ⟨rfl, trivial⟩)⟩
            clear S eq_266; rintro a _ ⟨rfl, S⟩
            refine wl_pure (l' := [(189, .bool q_266), (188, .bool q_266)]) S tys tys_ok 1 (by kernel_rfl) ?_
            clear S; intro a S
            obtain ⟨q_273, eq_273, h⟩ := bindS h
            refine seg 2 (fun a_ w_ => St 192 a_ [(191, .bool q_273)] ∧ Wd w w_ [v_65.ownBlock, v_56.ownBlock]) ?_ ?_
            · by_cases hc : q_266 = true
              · rw [if_pos hc] at eq_273; rw [hc] at S
                obtain ⟨t_274, et_274, eq_273⟩ := bindS eq_273
                refine w_go S rfl (op_call (vs := []) S rfl cb8 rfl rfl rfl (c8 (Kx K w.heap.size [v_65.ownBlock, v_56.ownBlock]) n w_265  et_274) ?_)
                rintro _ w_278 ⟨v_275, rfl, R_276, hb_277⟩; refine ⟨_, rfl, ?_⟩
                replace R_276 := RepV.back R_276 W
                clear S; intro a S
                replace W := W.step hb_277
                obtain rfl := RepV.bool R_276
                refine wl_pureK (l' := [(191, .bool t_274)]) S tys tys_ok 1 [191] (by kernel_rfl) ?_
                clear S; intro a S
                obtain rfl := Option.some.inj eq_273
                exact ⟨S.sub (by exact ⟨rfl, trivial⟩), W⟩
              · rw [if_neg hc] at eq_273; rw [show q_266 = false from Bool.eq_false_iff.2 hc] at S
                refine wl_pureK (l' := [(191, .bool false)]) S tys tys_ok 2 [191] (by kernel_rfl) ?_
                clear S; intro a S
                obtain rfl := Option.some.inj eq_273
                exact ⟨S.sub (by exact ⟨rfl, trivial⟩), W⟩
            clear S W eq_273; rintro a w_279 ⟨S, W⟩
            refine wl_pure (l' := [(4, .bool q_273), (191, .bool q_273)]) S tys tys_ok 1 (by kernel_rfl) ?_
            clear S; intro a S
            refine wpList_nil ?_
            refine then_n ?_
            replace S := S.sub (l' := [(4, .bool q_273)]) (by exact ⟨rfl, trivial⟩)
            refine wp_ret ?_
            obtain rfl := Option.some.inj h
            exact b_ret1 S rfl rfl ⟨_, rfl, RepV.mkBool, W.below⟩

end Go.Proofs.Ytflieonbbggmhaa
