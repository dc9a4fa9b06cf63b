/- Functions of the program, as plain data. -/
import Derived.Test.YtflieonbbggmhaaP3
set_option linter.unusedVariables false
set_option linter.unusedSimpArgs false
namespace Go.Proofs.Ytflieonbbggmhaa
open Go.RowKit

def p4_l1 (n : Nat) (x0 : Sl (Int × Int × Bool × Int)) : Nat → (Int) → (Sl ((Sl (Int)) × Bool × Bool × Bool × Int)) → Option ((Sl ((Sl (Int)) × Bool × Bool × Bool × Int)))
  | 0, _, _ => .none
  | m + 1, c_9, c_11 => if (decide (c_9 < (lenI x0))) then ((idx x0.xs c_9).bind fun y_26 => (p9 n c_11 y_26).bind fun t_32 => (if (t_32.2.2 == 0) then (some t_32.1) else some c_11).bind fun (j_41 : (Sl ((Sl (Int)) × Bool × Bool × Bool × Int))) => (ckI .i64 (c_9 + 1)).bind fun x_45 => p4_l1 n x0 m x_45 j_41) else some c_11
def p4_l2 (n : Nat) (x_8 : Int) : Nat → (Int) → (Sl ((Sl (Int)) × Bool × Bool × Bool × Int)) → Option (((Sl ((Sl (Int)) × Bool × Bool × Bool × Int))) ⊕ ((Bool)))
  | 0, _, _ => .none
  | m + 1, c_47, c_49 => (ckI .i64 (3 * x_8)).bind fun x_64 => if (decide (c_47 < x_64)) then ((p12 n c_49 x_8).bind fun t_65 => if (t_65.2.2 != 0) then (some (.inr false)) else (ckI .i64 (c_47 + 1)).bind fun x_74 => p4_l2 n x_8 m x_74 (⟨t_65.1.xs, t_65.1.cap⟩ : Sl ((Sl (Int)) × Bool × Bool × Bool × Int))) else some (.inl c_49)
def p4_l4 (n : Nat) (y_19 : (Sl ((Sl (Int)) × Bool × Bool × Bool × Int))) (c_79 : Int) : Nat → (Int) → (Bool) → Option ((Bool))
  | 0, _, _ => .none
  | m + 1, c_95, c_97 => if (decide (c_95 < (lenI y_19))) then ((if c_97 = false then (idx y_19.xs c_95).bind fun y_108 => (if y_108.2.1 = true then (idx y_19.xs c_79).bind fun y_116 => (idx y_19.xs c_95).bind fun y_122 => (p11 n y_116.1 y_122.1).bind fun t_128 => some t_128 else some false).bind fun q_114 => some q_114 else some true).bind fun q_106 => (ckI .i64 (c_95 + 1)).bind fun x_476 => p4_l4 n y_19 c_79 m x_476 q_106) else some c_97
def p4_l3 (n : Nat) (y_19 : (Sl ((Sl (Int)) × Bool × Bool × Bool × Int))) (s_58 : (Sl ((Sl (Int)) × Bool × Bool × Bool × Int))) : Nat → (Int) → Option ((Unit) ⊕ ((Bool)))
  | 0, _ => .none
  | m + 1, c_79 => if (decide (c_79 < (lenI y_19))) then ((idx y_19.xs c_79).bind fun y_89 => (p4_l4 n y_19 c_79 n 0 y_89.2.1).bind fun (y_101 : (Bool)) => (idx s_58.xs c_79).bind fun y_478 => (if (y_478.2.2.2.1 == y_101) = false then (idx s_58.xs c_79).bind fun y_486 => (idx y_19.xs c_79).bind fun y_492 => some (!(y_486.2.1 == y_492.2.1)) else some true).bind fun q_484 => if q_484 then (some (.inr false)) else (ckI .i64 (c_79 + 1)).bind fun x_696 => p4_l3 n y_19 s_58 m x_696) else some (.inl ())
def p4 (n : Nat) (x0 : Sl (Int × Int × Bool × Int)) (x1 : Int) : Option ((Bool)) :=
  if (decide ((lenI x0) > 30)) then ((p8 n).bind fun t_2 => some t_2) else (remI .u8 x1 4).bind fun x_7 => (ckI .i64 (1 + x_7)).bind fun x_8 => (p4_l1 n x0 n 0 (⟨[], some 0⟩)).bind fun (y_19 : (Sl ((Sl (Int)) × Bool × Bool × Bool × Int))) => (p4_l2 n x_8 n 0 y_19).bind fun (y_57 : ((Sl ((Sl (Int)) × Bool × Bool × Bool × Int))) ⊕ ((Bool))) => lrK y_57 some fun (s_58 : (Sl ((Sl (Int)) × Bool × Bool × Bool × Int))) => if ((lenI s_58) != (lenI y_19)) then (some false) else (p4_l3 n y_19 s_58 n 0).bind fun (y_83 : (Unit) ⊕ ((Bool))) => lrK y_83 some fun (s_84 : Unit) => (p8 n).bind fun t_698 => some t_698
set_option maxHeartbeats 4000000 in
set_option maxRecDepth 100000 in
/-- plugboard/plugboardlaw32.SuspendsQuiet -/
theorem c4 (K : Nat → Prop) (n : Nat) (w : World) (x0 : Sl (Int × Int × Bool × Int)) (v0 : Value) (R0 : RepV (.sl gt1) w K v0 x0) (x1 : Int) (G1 : InR .u8 x1) {r : (Bool)} (h : p4 n x0 x1 = some r) :
    Calls Try.prog 4 #[v0, .int .u8 x1] w (Ret1 .bool w (Kx K w.heap.size []) r) := by
  refine enter (args := [v0, .int .u8 x1]) Try.func4 rfl 127 rfl rfl fun a S => ?_
  have W := Wd.start w
  replace R0 := R0.arg
  unfold p4 at h
  replace S : St 127 a [(0, v0), (1, .int .u8 x1)] := S
  refine wp_seq ?_
  refine wp_region_lit ?_
  refine wl_pure (l' := [(4, .bool false), (0, v0), (1, .int .u8 x1)]) S tys tys_ok 1 (by kernel_rfl) ?_
  clear S; intro a S
  refine wpList_nil ?_
  refine then_n ?_
  replace S := S.sub (l' := [(0, v0), (1, .int .u8 x1)]) (by exact ⟨rfl, rfl, trivial⟩)
  refine wp_seq ?_
  refine wp_seq ?_
  refine wp_region_lit ?_
  refine wl_pure (l' := [(19, v0), (0, v0), (1, .int .u8 x1)]) S tys tys_ok 1 (by kernel_rfl) ?_
  clear S; intro a S
  refine w_go S rfl (op_len (K := _) S rfl ty22 rfl rfl rfl R0 ?_)
  clear S; intro a G_1 S
  refine wl_pure (l' := [(21, .bool (decide ((lenI x0) > 30))), (20, .int .i64 (lenI x0)), (19, v0), (0, v0), (1, .int .u8 x1)]) S tys tys_ok 1 (by kernel_rfl) ?_
  clear S; intro a S
  refine wpList_nil ?_
  refine then_n ?_
  replace S := S.sub (l' := [(21, .bool (decide ((lenI x0) > 30))), (0, v0), (1, .int .u8 x1)]) (by exact ⟨rfl, rfl, rfl, trivial⟩)
  refine wp_cond_split (S.eval (show ev _ _ = some (.bool (decide ((lenI x0) > 30))) from rfl)) ?_ ?_
  · intro hc
    rw [if_pos hc] at h
    refine wp_seq ?_
    refine wp_region_lit ?_
    obtain ⟨t_2, et_2, h⟩ := bindS h
    refine w_go S rfl (op_call (vs := []) S rfl cb8 rfl rfl rfl (c8 (Kx K w.heap.size []) n w  et_2) ?_)
    rintro _ w_6 ⟨v_3, rfl, R_4, hb_5⟩; refine ⟨_, rfl, ?_⟩
    replace R_4 := RepV.back R_4 W
    clear S; intro a S
    replace R0 := R0.step hb_5
    replace W := W.step hb_5
    obtain rfl := RepV.bool R_4
    refine wl_pureK (l' := [(4, .bool t_2)]) S tys tys_ok 1 [4] (by kernel_rfl) ?_
    clear S; intro a S
    refine wpList_nil ?_
    refine then_n ?_
    refine wp_ret ?_
    refine then_r ?_
    obtain rfl := Option.some.inj h
    exact b_ret1 S rfl rfl ⟨_, rfl, RepV.mkBool, W.below⟩
  · intro hc
    rw [if_neg (Bool.eq_false_iff.1 hc)] at h
    refine wp_skip ?_
    refine then_n ?_
    replace S := S.sub (l' := [(0, v0), (1, .int .u8 x1)]) (by exact ⟨rfl, rfl, trivial⟩)
    refine wp_seq ?_
    refine wp_region_lit ?_
    refine wl_pure (l' := [(23, .int .u8 x1), (0, v0), (1, .int .u8 x1)]) S tys tys_ok 1 (by kernel_rfl) ?_
    clear S; intro a S
    obtain ⟨x_7, ex_7, h⟩ := bindS h
    refine w_go S rfl (op_rem S .u8 rfl rfl rfl rfl rfl ex_7 ?_)
    clear S; intro a S
    refine w_go S rfl (op_conv S .i64 .bool .bool rfl ty5 ty3 rfl rfl rfl (widen (inR_rem ex_7) (by decide)).1 ?_)
    clear S; intro a S
    obtain ⟨x_8, ex_8, h⟩ := bindS h
    refine w_go S rfl (op_arith S .i64 (1 + x_7) rfl (.inl rfl) rfl rfl rfl rfl ex_8 ?_)
    clear S; intro a S
    refine wl_pureK (l' := [(5, .int .i64 x_8), (0, v0)]) S tys tys_ok 1 [5, 0] (by kernel_rfl) ?_
    clear S; intro a S
    refine wpList_nil ?_
    refine then_n ?_
    refine wp_seq ?_
    refine wp_region_lit ?_
    refine wl_pure (l' := [(6, .slice .none 0 0), (5, .int .i64 x_8), (0, v0)]) S tys tys_ok 1 (by kernel_rfl) ?_
    clear S; intro a S
    refine wpList_nil ?_
    refine then_n ?_
    refine wp_seq ?_
    refine wp_seq ?_
    refine wp_region_lit ?_
    refine wl_pure (l' := [(7, .int .i64 0), (6, .slice .none 0 0), (5, .int .i64 x_8), (0, v0)]) S tys tys_ok 1 (by kernel_rfl) ?_
    clear S; intro a S
    refine wpList_nil ?_
    refine then_n ?_
    obtain ⟨y_19, ey_19, h⟩ := bindS h
    refine wp_cut_ (fun a_ w_ => ∃ (v_20 : Value), St 127 a_ [(5, .int .i64 x_8), (6, v_20)] ∧ Wd w w_ [] ∧ RepV (.sl gt2) w_ (Kx K w.heap.size []) v_20 y_19) ?_ ?_
    · refine wp_block ?_
      refine wp_loop_n (fun m_ a_ w_ => ∃ (c_9 : Int) (c_11 : Sl ((Sl (Int)) × Bool × Bool × Bool × Int)) , ∃ (v_12 : Value), St 127 a_ [(7, .int .i64 c_9), (6, v_12), (5, .int .i64 x_8), (0, v0)] ∧ Wd w w_ [] ∧ InR .i64 c_9 ∧ RepV (.sl gt2) w_ (Kx K w.heap.size []) v_12 c_11 ∧ RepV (.sl gt1) w_ (Kx K w.heap.size []) v0 x0 ∧ p4_l1 n x0 m_ c_9 c_11 = some y_19) n ?_ ?_
      · skip
        exact ⟨0, ⟨[], some 0⟩, ⟨.slice .none 0 0, S.sub (by exact ⟨rfl, rfl, rfl, rfl, trivial⟩), W, (by decide), RepV.nil, R0, ey_19⟩⟩
      · clear S W; rintro m_22 a w_24 ⟨c_9, c_11, v_12, S, W, G_10, R_13, R0, hl_23⟩
        cases m_22 with
        | zero => exact absurd hl_23 (by simp [p4_l1])
        | succ m_22 =>
          refine ⟨m_22, rfl, ?_⟩
          rw [p4_l1] at hl_23
          refine wp_seq ?_
          refine wp_seq ?_
          refine wp_region_lit ?_
          refine wl_pure (l' := [(28, v0), (27, .int .i64 c_9), (7, .int .i64 c_9), (6, v_12), (5, .int .i64 x_8), (0, v0)]) S tys tys_ok 2 (by kernel_rfl) ?_
          clear S; intro a S
          refine w_go S rfl (op_len (K := _) S rfl ty22 rfl rfl rfl R0 ?_)
          clear S; intro a G_25 S
          refine wl_pureK (l' := [(30, .bool (decide (c_9 < (lenI x0)))), (7, .int .i64 c_9), (6, v_12), (5, .int .i64 x_8), (0, v0)]) S tys tys_ok 1 [30, 7, 6, 5, 0] (by kernel_rfl) ?_
          clear S; intro a S
          refine wpList_nil ?_
          refine then_n ?_
          refine wp_cond_split (S.eval (show ev _ _ = some (.bool (decide (c_9 < (lenI x0)))) from rfl)) ?_ ?_
          · intro hc
            rw [if_pos hc] at hl_23
            refine wp_skip ?_
            refine then_n ?_
            replace S := S.sub (l' := [(7, .int .i64 c_9), (6, v_12), (5, .int .i64 x_8), (0, v0)]) (by exact ⟨rfl, rfl, rfl, rfl, trivial⟩)
            refine wp_seq ?_
            refine wp_block ?_
            refine wp_seq ?_
            refine wp_region_lit ?_
            refine wl_pure (l' := [(36, .int .i64 c_9), (35, v0), (34, v_12), (7, .int .i64 c_9), (6, v_12), (5, .int .i64 x_8), (0, v0)]) S tys tys_ok 3 (by kernel_rfl) ?_
            clear S; intro a S
            obtain ⟨y_26, ey_26, hl_23⟩ := bindS hl_23
            refine w_go S rfl (op_indexAddr S rfl ty22 rfl rfl rfl R0 rfl ey_26 ?_)
            clear S; intro a p_27 R_28 H_29 S
            refine w_go S rfl (op_load (t := gt1) (x := y_26) S rfl ty31 rfl rfl rfl R_28 ?_)
            clear S; intro a v_30 R_31 S
            obtain ⟨t_32, et_32, hl_23⟩ := bindS hl_23
            refine w_go S rfl (op_call (vs := [v_12, v_30]) S rfl cb9 rfl rfl rfl (c9 (Kx K w.heap.size []) n w_24 c_11 _ R_13 y_26 _ R_31 et_32) ?_)
            rintro _ w_40 ⟨v_33, v_34, v_35, rfl, R_36, R_37, R_38, hb_39⟩; refine ⟨_, rfl, ?_⟩
            replace R_36 := RepV.back R_36 W
            replace R_37 := RepV.back R_37 W
            replace R_38 := RepV.back R_38 W
            clear S; intro a S
            replace R_13 := R_13.step hb_39
            replace R0 := R0.step hb_39
            replace R_31 := R_31.step hb_39
            replace W := W.step hb_39
            obtain ⟨rfl, GR_38⟩ := RepV.int R_38
            refine wl_pureK (l' := [(10, .int .i64 t_32.2.2), (8, v_33), (7, .int .i64 c_9), (6, v_12), (5, .int .i64 x_8), (0, v0)]) S tys tys_ok 7 [10, 8, 7, 6, 5, 0] (by kernel_rfl) ?_
            clear S; intro a S
            refine wpList_nil ?_
            refine then_n ?_
            refine wp_seq ?_
            refine wp_region_lit ?_
            refine wl_pure (l' := [(44, .bool (t_32.2.2 == 0)), (43, .int .i64 t_32.2.2), (10, .int .i64 t_32.2.2), (8, v_33), (7, .int .i64 c_9), (6, v_12), (5, .int .i64 x_8), (0, v0)]) S tys tys_ok 2 (by kernel_rfl) ?_
            clear S; intro a S
            refine wpList_nil ?_
            refine then_n ?_
            replace S := S.sub (l' := [(44, .bool (t_32.2.2 == 0)), (8, v_33), (7, .int .i64 c_9), (6, v_12), (5, .int .i64 x_8), (0, v0)]) (by exact ⟨rfl, rfl, rfl, rfl, rfl, rfl, trivial⟩)
            obtain ⟨j_41, ej_41, hl_23⟩ := bindS hl_23
            refine wp_cut_ (fun a_ w_ => ∃ (v_42 : Value), St 127 a_ [(7, .int .i64 c_9), (6, v_42), (5, .int .i64 x_8), (0, v0)] ∧ Wd w w_ [] ∧ RepV (.sl gt2) w_ (Kx K w.heap.size []) v_42 j_41 ∧ RepV (.sl gt1) w_ (Kx K w.heap.size []) v0 x0) ?_ ?_
            · refine wp_cond_split (S.eval (show ev _ _ = some (.bool (t_32.2.2 == 0)) from rfl)) ?_ ?_
              · intro hc
                rw [if_pos hc] at ej_41
                refine wp_region_lit ?_
                refine wl_pureK (l' := [(6, v_33), (7, .int .i64 c_9), (6, v_12), (5, .int .i64 x_8), (0, v0)]) S tys tys_ok 2 [6, 7, 5, 0] (by kernel_rfl) ?_
                clear S; intro a S
                refine wpList_nil ?_
                refine then_n ?_
                obtain rfl := Option.some.inj ej_41
                exact ⟨v_33, S.sub (by exact ⟨rfl, rfl, rfl, rfl, trivial⟩), W, R_36, R0⟩
              · intro hc
                rw [if_neg (Bool.eq_false_iff.1 hc)] at ej_41
                refine wp_skip ?_
                refine then_n ?_
                obtain rfl := Option.some.inj ej_41
                exact ⟨v_12, S.sub (by exact ⟨rfl, rfl, rfl, rfl, trivial⟩), W, R_13, R0⟩
            clear S W; rintro a w_44 ⟨v_42, S, W, R_43, R0⟩
            refine blk_n ?_
            refine then_n ?_
            refine wp_region_lit ?_
            refine wl_pure (l' := [(31, .int .i64 c_9), (7, .int .i64 c_9), (6, v_42), (5, .int .i64 x_8), (0, v0)]) S tys tys_ok 1 (by kernel_rfl) ?_
            clear S; intro a S
            obtain ⟨x_45, ex_45, hl_23⟩ := bindS hl_23
            refine w_go S rfl (op_arith S .i64 (c_9 + 1) rfl (.inl rfl) rfl rfl rfl rfl ex_45 ?_)
            clear S; intro a S
            refine wl_pure (l' := [(7, .int .i64 x_45), (32, .int .i64 x_45), (31, .int .i64 c_9), (7, .int .i64 c_9), (6, v_42), (5, .int .i64 x_8), (0, v0)]) S tys tys_ok 1 (by kernel_rfl) ?_
            clear S; intro a S
            refine wpList_nil ?_
            refine then_n ?_
            exact ⟨x_45, j_41, ⟨v_42, S.sub (by exact ⟨rfl, rfl, rfl, rfl, trivial⟩), W, (ckI_some ex_45).2.1, R_43, R0, hl_23⟩⟩
          · intro hc
            rw [if_neg (Bool.eq_false_iff.1 hc)] at hl_23
            refine wp_exit ?_
            refine then_x ?_
            refine then_x ?_
            refine blk_hit ?_
            refine then_n ?_
            obtain rfl := Option.some.inj hl_23
            exact ⟨v_12, S.sub (by exact ⟨rfl, rfl, trivial⟩), W, R_13⟩
    clear S W; rintro a w_46 ⟨v_20, S, W, R_21⟩
    refine then_n ?_
    refine wp_seq ?_
    refine wp_region_lit ?_
    refine wl_pure (l' := [(11, v_20), (46, v_20), (5, .int .i64 x_8), (6, v_20)]) S tys tys_ok 2 (by kernel_rfl) ?_
    clear S; intro a S
    refine wpList_nil ?_
    refine then_n ?_
    replace S := S.sub (l' := [(11, v_20), (5, .int .i64 x_8), (6, v_20)]) (by exact ⟨rfl, rfl, rfl, trivial⟩)
    refine wp_seq ?_
    refine wp_seq ?_
    refine wp_region_lit ?_
    refine wl_pure (l' := [(12, .int .i64 0), (11, v_20), (5, .int .i64 x_8), (6, v_20)]) S tys tys_ok 1 (by kernel_rfl) ?_
    clear S; intro a S
    refine wpList_nil ?_
    refine then_n ?_
    obtain ⟨y_57, ey_57, h⟩ := bindS h
    refine wp_cut_ (fun a_ w_ => ∃ s_58 : (Sl ((Sl (Int)) × Bool × Bool × Bool × Int)), y_57 = .inl s_58 ∧ (∃ (v_59 : Value), St 127 a_ [(6, v_20), (11, v_59)] ∧ Wd w w_ [] ∧ RepV (.sl gt2) w_ (Kx K w.heap.size []) v_20 y_19 ∧ RepV (.sl gt2) w_ (Kx K w.heap.size []) v_59 s_58)) ?_ ?_
    · refine wp_block ?_
      refine wp_loop_n (fun m_ a_ w_ => ∃ (c_47 : Int) (c_49 : Sl ((Sl (Int)) × Bool × Bool × Bool × Int)) , ∃ (v_50 : Value), St 127 a_ [(12, .int .i64 c_47), (11, v_50), (5, .int .i64 x_8), (6, v_20)] ∧ Wd w w_ [] ∧ InR .i64 c_47 ∧ RepV (.sl gt2) w_ (Kx K w.heap.size []) v_50 c_49 ∧ RepV (.sl gt2) w_ (Kx K w.heap.size []) v_20 y_19 ∧ p4_l2 n x_8 m_ c_47 c_49 = some y_57) n ?_ ?_
      · skip
        exact ⟨0, y_19, ⟨v_20, S.sub (by exact ⟨rfl, rfl, rfl, rfl, trivial⟩), W, (by decide), R_21, R_21, ey_57⟩⟩
      · clear S W; rintro m_61 a w_63 ⟨c_47, c_49, v_50, S, W, G_48, R_51, R_21, hl_62⟩
        cases m_61 with
        | zero => exact absurd hl_62 (by simp [p4_l2])
        | succ m_61 =>
          refine ⟨m_61, rfl, ?_⟩
          rw [p4_l2] at hl_62
          refine wp_seq ?_
          refine wp_seq ?_
          refine wp_region_lit ?_
          refine wl_pure (l' := [(48, .int .i64 x_8), (47, .int .i64 c_47), (12, .int .i64 c_47), (11, v_50), (5, .int .i64 x_8), (6, v_20)]) S tys tys_ok 2 (by kernel_rfl) ?_
          clear S; intro a S
          obtain ⟨x_64, ex_64, hl_62⟩ := bindS hl_62
          refine w_go S rfl (op_arith S .i64 (3 * x_8) rfl (.inr (.inr rfl)) rfl rfl rfl rfl ex_64 ?_)
          clear S; intro a S
          refine wl_pureK (l' := [(50, .bool (decide (c_47 < x_64))), (12, .int .i64 c_47), (11, v_50), (5, .int .i64 x_8), (6, v_20)]) S tys tys_ok 1 [50, 12, 11, 5, 6] (by kernel_rfl) ?_
          clear S; intro a S
          refine wpList_nil ?_
          refine then_n ?_
          refine wp_cond_split (S.eval (show ev _ _ = some (.bool (decide (c_47 < x_64))) from rfl)) ?_ ?_
          · intro hc
            rw [if_pos hc] at hl_62
            refine wp_skip ?_
            refine then_n ?_
            replace S := S.sub (l' := [(12, .int .i64 c_47), (11, v_50), (5, .int .i64 x_8), (6, v_20)]) (by exact ⟨rfl, rfl, rfl, rfl, trivial⟩)
            refine wp_seq ?_
            refine wp_block ?_
            refine wp_seq ?_
            refine wp_region_lit ?_
            refine wl_pure (l' := [(55, .int .i64 x_8), (54, v_50), (12, .int .i64 c_47), (11, v_50), (5, .int .i64 x_8), (6, v_20)]) S tys tys_ok 2 (by kernel_rfl) ?_
            clear S; intro a S
            obtain ⟨t_65, et_65, hl_62⟩ := bindS hl_62
            refine w_go S rfl (op_call (vs := [v_50, .int .i64 x_8]) S rfl cb12 rfl rfl rfl (c12 (Kx K w.heap.size []) n w_63 c_49 _ R_51 x_8 (ckI_some ex_8).2.1 et_65) ?_)
            rintro _ w_73 ⟨v_66, v_67, v_68, rfl, R_69, R_70, R_71, hb_72⟩; refine ⟨_, rfl, ?_⟩
            have NO_ := newO_of R_69 (Nat.le_refl _) hb_72
            replace R_69 := Ow.backO R_69 W
            replace R_70 := RepV.backO R_70 W
            replace R_71 := RepV.backO R_71 W
            clear S; intro a S
            replace R_51 := R_51.newO NO_
            replace R_21 := R_21.newO NO_
            replace W := W.newO NO_
            clear NO_
            obtain ⟨rfl, GR_71⟩ := RepV.int R_71
            refine wl_pureK (l' := [(15, .int .i64 t_65.2.2), (13, v_66), (12, .int .i64 c_47), (5, .int .i64 x_8), (6, v_20)]) S tys tys_ok 7 [15, 13, 12, 5, 6] (by kernel_rfl) ?_
            clear S; intro a S
            refine wpList_nil ?_
            refine then_n ?_
            refine wp_seq ?_
            refine wp_seq ?_
            refine wp_region_lit ?_
            refine wl_pure (l' := [(61, .bool (t_65.2.2 != 0)), (60, .int .i64 t_65.2.2), (15, .int .i64 t_65.2.2), (13, v_66), (12, .int .i64 c_47), (5, .int .i64 x_8), (6, v_20)]) S tys tys_ok 2 (by kernel_rfl) ?_
            clear S; intro a S
            refine wpList_nil ?_
            refine then_n ?_
            replace S := S.sub (l' := [(61, .bool (t_65.2.2 != 0)), (13, v_66), (12, .int .i64 c_47), (5, .int .i64 x_8), (6, v_20)]) (by exact ⟨rfl, rfl, rfl, rfl, rfl, trivial⟩)
            refine wp_cond_split (S.eval (show ev _ _ = some (.bool (t_65.2.2 != 0)) from rfl)) ?_ ?_
            · intro hc
              rw [if_pos hc] at hl_62
              refine wp_seq ?_
              refine wp_region_lit ?_
              refine wl_pureK (l' := [(4, .bool false)]) S tys tys_ok 1 [4] (by kernel_rfl) ?_
              clear S; intro a S
              refine wpList_nil ?_
              refine then_n ?_
              refine wp_ret ?_
              refine then_r ?_
              refine blk_r ?_
              refine then_r ?_
              refine then_r ?_
              refine blk_r ?_
              refine then_r ?_
              refine then_r ?_
              obtain rfl := Option.some.inj hl_62
              obtain rfl := lr_inr h
              exact b_ret1 S rfl rfl ⟨_, rfl, RepV.mkBool, W.below⟩
            · intro hc
              rw [if_neg (Bool.eq_false_iff.1 hc)] at hl_62
              refine wp_skip ?_
              refine then_n ?_
              replace S := S.sub (l' := [(13, v_66), (12, .int .i64 c_47), (5, .int .i64 x_8), (6, v_20)]) (by exact ⟨rfl, rfl, rfl, rfl, trivial⟩)
              refine wp_region_lit ?_
              refine wl_pure (l' := [(11, v_66), (62, v_66), (13, v_66), (12, .int .i64 c_47), (5, .int .i64 x_8), (6, v_20)]) S tys tys_ok 2 (by kernel_rfl) ?_
              clear S; intro a S
              refine wpList_nil ?_
              refine blk_n ?_
              refine then_n ?_
              replace S := S.sub (l' := [(11, v_66), (12, .int .i64 c_47), (5, .int .i64 x_8), (6, v_20)]) (by exact ⟨rfl, rfl, rfl, rfl, trivial⟩)
              refine wp_region_lit ?_
              refine wl_pure (l' := [(51, .int .i64 c_47), (11, v_66), (12, .int .i64 c_47), (5, .int .i64 x_8), (6, v_20)]) S tys tys_ok 1 (by kernel_rfl) ?_
              clear S; intro a S
              obtain ⟨x_74, ex_74, hl_62⟩ := bindS hl_62
              refine w_go S rfl (op_arith S .i64 (c_47 + 1) rfl (.inl rfl) rfl rfl rfl rfl ex_74 ?_)
              clear S; intro a S
              refine wl_pure (l' := [(12, .int .i64 x_74), (52, .int .i64 x_74), (51, .int .i64 c_47), (11, v_66), (12, .int .i64 c_47), (5, .int .i64 x_8), (6, v_20)]) S tys tys_ok 1 (by kernel_rfl) ?_
              clear S; intro a S
              refine wpList_nil ?_
              refine then_n ?_
              have R_75 : RepV (.sl gt2) w_73 (Kx K w.heap.size []) v_66 (⟨t_65.1.xs, t_65.1.cap⟩ : Sl ((Sl (Int)) × Bool × Bool × Bool × Int)) := R_69.pubAt W 0 rfl
              replace R_21 : RepV (.sl gt2) w_73 (Kx K w.heap.size []) v_20 y_19 := R_21.lessAt 0
              replace W : Wd w w_73 [] := W.lessAt 0
              exact ⟨x_74, (⟨t_65.1.xs, t_65.1.cap⟩ : Sl ((Sl (Int)) × Bool × Bool × Bool × Int)), ⟨v_66, S.sub (by exact ⟨rfl, rfl, rfl, rfl, trivial⟩), W, (ckI_some ex_74).2.1, R_75, R_21, hl_62⟩⟩
          · intro hc
            rw [if_neg (Bool.eq_false_iff.1 hc)] at hl_62
            refine wp_exit ?_
            refine then_x ?_
            refine then_x ?_
            refine blk_hit ?_
            refine then_n ?_
            obtain rfl := Option.some.inj hl_62
            exact ⟨_, rfl, ⟨v_50, S.sub (by exact ⟨rfl, rfl, trivial⟩), W, R_21, R_51⟩⟩
    clear S W; rintro a w_76 ⟨s_58, rfl, v_59, S, W, R_21, R_60⟩
    replace h := lr_inl h; try dsimp only at h
    refine then_n ?_
    refine wp_seq ?_
    refine wp_seq ?_
    refine wp_region_lit ?_
    refine wl_pure (l' := [(63, v_59), (6, v_20), (11, v_59)]) S tys tys_ok 1 (by kernel_rfl) ?_
    clear S; intro a S
    refine w_go S rfl (op_len (K := _) S rfl ty25 rfl rfl rfl R_60 ?_)
    clear S; intro a G_77 S
    refine wl_pure (l' := [(65, v_20), (64, .int .i64 (lenI s_58)), (63, v_59), (6, v_20), (11, v_59)]) S tys tys_ok 1 (by kernel_rfl) ?_
    clear S; intro a S
    refine w_go S rfl (op_len (K := _) S rfl ty25 rfl rfl rfl R_21 ?_)
    clear S; intro a G_78 S
    refine wl_pureK (l' := [(67, .bool ((lenI s_58) != (lenI y_19))), (6, v_20), (11, v_59)]) S tys tys_ok 1 [67, 6, 11] (by kernel_rfl) ?_
    clear S; intro a S
    refine wpList_nil ?_
    refine then_n ?_
    refine wp_cond_split (S.eval (show ev _ _ = some (.bool ((lenI s_58) != (lenI y_19))) from rfl)) ?_ ?_
    · intro hc
      rw [if_pos hc] at h
      refine wp_seq ?_
      refine wp_region_lit ?_
      refine wl_pureK (l' := [(4, .bool false)]) S tys tys_ok 1 [4] (by kernel_rfl) ?_
      clear S; intro a S
      refine wpList_nil ?_
      refine then_n ?_
      refine wp_ret ?_
      refine then_r ?_
      obtain rfl := Option.some.inj h
      exact b_ret1 S rfl rfl ⟨_, rfl, RepV.mkBool, W.below⟩
    · intro hc
      rw [if_neg (Bool.eq_false_iff.1 hc)] at h
      refine wp_skip ?_
      refine then_n ?_
      replace S := S.sub (l' := [(6, v_20), (11, v_59)]) (by exact ⟨rfl, rfl, trivial⟩)
      refine wp_seq ?_
      refine wp_seq ?_
      refine wp_region_lit ?_
      refine wl_pure (l' := [(16, .int .i64 0), (6, v_20), (11, v_59)]) S tys tys_ok 1 (by kernel_rfl) ?_
      clear S; intro a S
      refine wpList_nil ?_
      refine then_n ?_
      obtain ⟨y_83, ey_83, h⟩ := bindS h
      refine wp_cut_ (fun a_ w_ => ∃ s_84 : Unit, y_83 = .inl s_84 ∧ (St 127 a_ [] ∧ Wd w w_ [])) ?_ ?_
      · refine wp_block ?_
        refine wp_loop_n (fun m_ a_ w_ => ∃ (c_79 : Int) , St 127 a_ [(16, .int .i64 c_79), (6, v_20), (11, v_59)] ∧ Wd w w_ [] ∧ InR .i64 c_79 ∧ RepV (.sl gt2) w_ (Kx K w.heap.size []) v_20 y_19 ∧ RepV (.sl gt2) w_ (Kx K w.heap.size []) v_59 s_58 ∧ p4_l3 n y_19 s_58 m_ c_79 = some y_83) n ?_ ?_
        · skip
          exact ⟨0, ⟨S.sub (by exact ⟨rfl, rfl, rfl, trivial⟩), W, (by decide), R_21, R_60, ey_83⟩⟩
        · clear S W; rintro m_85 a w_87 ⟨c_79, S, W, G_80, R_21, R_60, hl_86⟩
          cases m_85 with
          | zero => exact absurd hl_86 (by simp [p4_l3])
          | succ m_85 =>
            refine ⟨m_85, rfl, ?_⟩
            rw [p4_l3] at hl_86
            refine wp_seq ?_
            refine wp_seq ?_
            refine wp_region_lit ?_
            refine wl_pure (l' := [(69, v_20), (68, .int .i64 c_79), (16, .int .i64 c_79), (6, v_20), (11, v_59)]) S tys tys_ok 2 (by kernel_rfl) ?_
            clear S; intro a S
            refine w_go S rfl (op_len (K := _) S rfl ty25 rfl rfl rfl R_21 ?_)
            clear S; intro a G_88 S
            refine wl_pureK (l' := [(71, .bool (decide (c_79 < (lenI y_19)))), (16, .int .i64 c_79), (6, v_20), (11, v_59)]) S tys tys_ok 1 [71, 16, 6, 11] (by kernel_rfl) ?_
            clear S; intro a S
            refine wpList_nil ?_
            refine then_n ?_
            refine wp_cond_split (S.eval (show ev _ _ = some (.bool (decide (c_79 < (lenI y_19)))) from rfl)) ?_ ?_
            · intro hc
              rw [if_pos hc] at hl_86
              refine wp_skip ?_
              refine then_n ?_
              replace S := S.sub (l' := [(16, .int .i64 c_79), (6, v_20), (11, v_59)]) (by exact ⟨rfl, rfl, rfl, trivial⟩)
              refine wp_seq ?_
              refine wp_block ?_
              refine wp_seq ?_
              refine wp_region_lit ?_
              refine wl_pure (l' := [(75, .int .i64 c_79), (74, v_20), (16, .int .i64 c_79), (6, v_20), (11, v_59)]) S tys tys_ok 2 (by kernel_rfl) ?_
              clear S; intro a S
              obtain ⟨y_89, ey_89, hl_86⟩ := bindS hl_86
              refine w_go S rfl (op_indexAddr S rfl ty25 rfl rfl rfl R_21 rfl ey_89 ?_)
              clear S; intro a p_90 R_91 H_92 S
              refine wl_pureK (l' := [(77, .pointer (some (p_90.add (coff gf2 1)))), (16, .int .i64 c_79), (6, v_20), (11, v_59)]) S tys tys_ok 1 [77, 16, 6, 11] (by kernel_rfl) ?_
              clear S; intro a S
              refine w_go S rfl (op_load (t := .bool) (x := y_89.2.1) S rfl ty4 rfl rfl rfl (RepAt.add 1 (RepAt.st (t := gf2) R_91)) ?_)
              clear S; intro a v_93 R_94 S
              obtain rfl := RepV.bool R_94
              refine wl_pure (l' := [(17, .bool y_89.2.1), (78, .bool y_89.2.1), (77, .pointer (some (p_90.add (coff gf2 1)))), (16, .int .i64 c_79), (6, v_20), (11, v_59)]) S tys tys_ok 1 (by kernel_rfl) ?_
              clear S; intro a S
              refine wpList_nil ?_
              refine then_n ?_
              replace S := S.sub (l' := [(17, .bool y_89.2.1), (16, .int .i64 c_79), (6, v_20), (11, v_59)]) (by exact ⟨rfl, rfl, rfl, rfl, trivial⟩)
              refine wp_seq ?_
              refine wp_seq ?_
              refine wp_region_lit ?_
              refine wl_pure (l' := [(18, .int .i64 0), (17, .bool y_89.2.1), (16, .int .i64 c_79), (6, v_20), (11, v_59)]) S tys tys_ok 1 (by kernel_rfl) ?_
              clear S; intro a S
              refine wpList_nil ?_
              refine then_n ?_
              obtain ⟨y_101, ey_101, hl_86⟩ := bindS hl_86
              refine wp_cut_ (fun a_ w_ => St 127 a_ [(6, v_20), (11, v_59), (16, .int .i64 c_79), (17, .bool y_101)] ∧ Wd w w_ [] ∧ RepV (.sl gt2) w_ (Kx K w.heap.size []) v_20 y_19 ∧ RepV (.sl gt2) w_ (Kx K w.heap.size []) v_59 s_58) ?_ ?_
              · refine wp_block ?_
                refine wp_loop_n (fun m_ a_ w_ => ∃ (c_95 : Int) (c_97 : Bool) , St 127 a_ [(18, .int .i64 c_95), (17, .bool c_97), (16, .int .i64 c_79), (6, v_20), (11, v_59)] ∧ Wd w w_ [] ∧ InR .i64 c_95 ∧ RepV (.sl gt2) w_ (Kx K w.heap.size []) v_20 y_19 ∧ RepV (.sl gt2) w_ (Kx K w.heap.size []) v_59 s_58 ∧ p4_l4 n y_19 c_79 m_ c_95 c_97 = some y_101) n ?_ ?_
                · skip
                  exact ⟨0, y_89.2.1, ⟨S.sub (by exact ⟨rfl, rfl, rfl, rfl, rfl, trivial⟩), W, (by decide), R_21, R_60, ey_101⟩⟩
                · clear S W; rintro m_102 a w_104 ⟨c_95, c_97, S, W, G_96, R_21, R_60, hl_103⟩
                  cases m_102 with
                  | zero => exact absurd hl_103 (by simp [p4_l4])
                  | succ m_102 =>
                    refine ⟨m_102, rfl, ?_⟩
                    rw [p4_l4] at hl_103
                    refine wp_seq ?_
                    refine wp_seq ?_
                    refine wp_region_lit ?_
                    refine wl_pure (l' := [(80, v_20), (79, .int .i64 c_95), (18, .int .i64 c_95), (17, .bool c_97), (16, .int .i64 c_79), (6, v_20), (11, v_59)]) S tys tys_ok 2 (by kernel_rfl) ?_
                    clear S; intro a S
                    refine w_go S rfl (op_len (K := _) S rfl ty25 rfl rfl rfl R_21 ?_)
                    clear S; intro a G_105 S
                    refine wl_pureK (l' := [(82, .bool (decide (c_95 < (lenI y_19)))), (18, .int .i64 c_95), (17, .bool c_97), (16, .int .i64 c_79), (6, v_20), (11, v_59)]) S tys tys_ok 1 [82, 18, 17, 16, 6, 11] (by kernel_rfl) ?_
                    clear S; intro a S
                    refine wpList_nil ?_
                    refine then_n ?_
                    refine wp_cond_split (S.eval (show ev _ _ = some (.bool (decide (c_95 < (lenI y_19)))) from rfl)) ?_ ?_
                    · intro hc
                      rw [if_pos hc] at hl_103
                      refine wp_skip ?_
                      refine then_n ?_
                      replace S := S.sub (l' := [(18, .int .i64 c_95), (17, .bool c_97), (16, .int .i64 c_79), (6, v_20), (11, v_59)]) (by exact ⟨rfl, rfl, rfl, rfl, rfl, trivial⟩)
                      refine wp_seq ?_
                      refine wp_block ?_
                      obtain ⟨q_106, eq_106, hl_103⟩ := bindS hl_103
                      obtain ⟨y_108, q_114, HG_107⟩ : ∃ (y_108 : (Sl (Int)) × Bool × Bool × Bool × Int) (q_114 : Bool) , (c_97 = false → (idx y_19.xs c_95) = some y_108 ∧ (if y_108.2.1 = true then (idx y_19.xs c_79).bind fun y_116 => (idx y_19.xs c_95).bind fun y_122 => (p11 n y_116.1 y_122.1).bind fun t_128 => some t_128 else some false) = some q_114 ∧ q_114 = q_106) ∧ (¬ c_97 = false → true = q_106) := by
                        by_cases hc : c_97 = false
                        · rw [if_pos hc] at eq_106
                          obtain ⟨y_108, ey_108, eq_106⟩ := bindS eq_106
                          obtain ⟨q_114, eq_114, eq_106⟩ := bindS eq_106
                          exact ⟨y_108, q_114, ⟨fun _ => ⟨ey_108, eq_114, Option.some.inj eq_106⟩, fun k_ => absurd hc k_⟩⟩
                        · rw [if_neg hc] at eq_106
                          exact ⟨default, default, ⟨fun k_ => absurd k_ hc, fun _ => Option.some.inj eq_106⟩⟩
                      obtain ⟨y_116, y_122, t_128, HG_115⟩ : ∃ (y_116 : (Sl (Int)) × Bool × Bool × Bool × Int) (y_122 : (Sl (Int)) × Bool × Bool × Bool × Int) (t_128 : (Bool)) , (c_97 = false → (y_108.2.1 = true → (idx y_19.xs c_79) = some y_116 ∧ (idx y_19.xs c_95) = some y_122 ∧ (p11 n y_116.1 y_122.1) = some t_128 ∧ t_128 = q_114) ∧ (¬ y_108.2.1 = true → false = q_114)) := by
                        by_cases ho0 : c_97 = false
                        · skip
                          have eq_114 := (HG_107.1 ho0).2.1
                          by_cases hc : y_108.2.1 = true
                          · rw [if_pos hc] at eq_114
                            obtain ⟨y_116, ey_116, eq_114⟩ := bindS eq_114
                            obtain ⟨y_122, ey_122, eq_114⟩ := bindS eq_114
                            obtain ⟨t_128, et_128, eq_114⟩ := bindS eq_114
                            exact ⟨y_116, y_122, t_128, fun _ => ⟨fun _ => ⟨ey_116, ey_122, et_128, Option.some.inj eq_114⟩, fun k_ => absurd hc k_⟩⟩
                          · rw [if_neg hc] at eq_114
                            exact ⟨default, default, default, fun _ => ⟨fun k_ => absurd k_ hc, fun _ => Option.some.inj eq_114⟩⟩
                        · exact ⟨default, default, default, fun k_ => absurd k_ ho0⟩
                      have hR : Rel (Kx K w.heap.size []) Bl := Bl.rel _
                      refine wp_region_suf 21 [21, 21, 21, 21, 21, 21, 21, 21, 21, 21, 21, 21, 21, 21, 21, 21, 21, 21, 21, 21, 21] hR [eqv (.bool c_97), eqv (.bool c_97), cndF c_97 false (isRep (.sl gt2) (Kx K w.heap.size []) y_19), cndF c_97 false (isI .i64 c_95), cndF c_97 false (isEl gt2 (Kx K w.heap.size []) y_108), cndF c_97 false (isEl .bool (Kx K w.heap.size []) y_108.2.1), cndF c_97 false (eqv (.bool y_108.2.1)), cndF c_97 false (eqv (.bool y_108.2.1)), cndF c_97 false (cndF y_108.2.1 true (isRep (.sl gt2) (Kx K w.heap.size []) y_19)), cndF c_97 false (cndF y_108.2.1 true (isI .i64 c_79)), cndF c_97 false (cndF y_108.2.1 true (isEl gt2 (Kx K w.heap.size []) y_116)), cndF c_97 false (cndF y_108.2.1 true (isEl (.sl (.int .u8)) (Kx K w.heap.size []) y_116.1)), cndF c_97 false (cndF y_108.2.1 true (isRep (.sl (.int .u8)) (Kx K w.heap.size []) y_116.1)), cndF c_97 false (cndF y_108.2.1 true (isRep (.sl gt2) (Kx K w.heap.size []) y_19)), cndF c_97 false (cndF y_108.2.1 true (isI .i64 c_95)), cndF c_97 false (cndF y_108.2.1 true (isEl gt2 (Kx K w.heap.size []) y_122)), cndF c_97 false (cndF y_108.2.1 true (isEl (.sl (.int .u8)) (Kx K w.heap.size []) y_122.1)), cndF c_97 false (cndF y_108.2.1 true (isRep (.sl (.int .u8)) (Kx K w.heap.size []) y_122.1)), cndF c_97 false (cndF y_108.2.1 true (eqv (.bool t_128))), cndF c_97 false (eqv (.bool q_114)), eqv (.bool q_106)] [[], [(0, 85)], [(1, 86)], [(1, 86)], [(2, 87), (3, 88), (1, 86)], [(4, 89), (1, 86)], [(5, 90), (1, 86)], [(6, 91), (1, 86)], [(7, 92)], [(7, 92)], [(8, 93), (9, 94), (7, 92)], [(10, 95), (7, 92)], [(11, 96), (7, 92)], [(7, 92)], [(7, 92)], [(13, 98), (14, 99), (7, 92)], [(15, 100), (7, 92)], [(16, 101), (7, 92)], [(12, 97), (17, 102), (7, 92)], [(7, 92), (18, 103), (1, 86)], [(1, 86), (19, 104)]] (by kernel_rfl) (by rw [S.size]; kernel_rfl) (by kernel_rfl) (by kernel_rfl) (by kernel_rfl) rfl ⟨(stab_eqv _), (stab_eqv _), (stab_cnd (stab_rep hR)), (stab_cnd stab_I), (stab_cnd (stab_el hR)), (stab_cnd (stab_el hR)), (stab_cnd (stab_eqv _)), (stab_cnd (stab_eqv _)), (stab_cnd (stab_cnd (stab_rep hR))), (stab_cnd (stab_cnd stab_I)), (stab_cnd (stab_cnd (stab_el hR))), (stab_cnd (stab_cnd (stab_el hR))), (stab_cnd (stab_cnd (stab_rep hR))), (stab_cnd (stab_cnd (stab_rep hR))), (stab_cnd (stab_cnd stab_I)), (stab_cnd (stab_cnd (stab_el hR))), (stab_cnd (stab_cnd (stab_el hR))), (stab_cnd (stab_cnd (stab_rep hR))), (stab_cnd (stab_cnd (stab_eqv _))), (stab_cnd (stab_eqv _)), (stab_eqv _), trivial⟩ ?_ ?_
                      ·
                        refine RunAll.cons (eqv (.bool c_97)) [] rfl rfl ?_ ?_
                        · intro W_ hW
                          have S1 := S
                          refine fill_nil S1 ?_; clear S1; intro a_ S1
                          have S0 := S.defers; replace S := S1; clear S1
                          refine wl_pure (l' := [(85, .bool c_97), (18, .int .i64 c_95), (17, .bool c_97), (16, .int .i64 c_79), (6, v_20), (11, v_59)]) S tys tys_ok 1 (by kernel_rfl) ?_; clear S; intro a S
                          refine wpList_nil ?_
                          exact RPost.mk_ S rfl S0 rfl (Below.refl _ _)
                        refine RunAll.cons (eqv (.bool c_97)) [(eqv (.bool c_97), 85)] rfl rfl ?_ ?_
                        · intro W_ hW
                          have S1 := S
                          intro v_134 hF_133; obtain rfl : .bool c_97 = v_134 := Eq.symm hF_133
                          replace S1 := S1.put (by decide : 85 < 127) (.bool c_97)
                          refine fill_nil S1 ?_; clear S1; intro a_ S1
                          have S0 := S.defers; replace S := S1; clear S1
                          refine wl_pure (l' := [(86, .bool c_97), (85, .bool c_97), (18, .int .i64 c_95), (17, .bool c_97), (16, .int .i64 c_79), (6, v_20), (11, v_59)]) S tys tys_ok 1 (by kernel_rfl) ?_; clear S; intro a S
                          refine wpList_nil ?_
                          exact RPost.mk_ S rfl S0 rfl (Below.refl _ _)
                        refine RunAll.cons (cndF c_97 false (isRep (.sl gt2) (Kx K w.heap.size []) y_19)) [(eqv (.bool c_97), 86)] rfl rfl ?_ ?_
                        · intro W_ hW
                          by_cases hc0 : c_97 = false
                          · have hl0 : c_97 = false := hc0
                            have S1 := S
                            intro v_136 hF_135; obtain rfl : .bool c_97 = v_136 := Eq.symm hF_135
                            replace S1 := S1.put (by decide : 86 < 127) (.bool c_97)
                            refine fill_nil S1 ?_; clear S1; intro a_ S1
                            replace R_21 := R_21.step hW
                            rw [show c_97 = false from hl0] at S1
                            have S0 := S.defers; replace S := S1; clear S1
                            refine wl_pure (l' := [(87, v_20), (86, .bool false), (18, .int .i64 c_95), (17, .bool false), (16, .int .i64 c_79), (6, v_20), (11, v_59)]) S tys tys_ok 1 (by kernel_rfl) ?_; clear S; intro a S
                            refine wpList_nil ?_
                            exact RPost.mk_ S rfl S0 ⟨fun _ => R_21, fun k_ => absurd hc0 k_⟩ (Below.refl _ _)
                          · have hl0 : c_97 = true := (by simpa using hc0)
                            have S1 := S
                            intro v_138 hF_137; obtain rfl : .bool c_97 = v_138 := Eq.symm hF_137
                            replace S1 := S1.put (by decide : 86 < 127) (.bool c_97)
                            refine fill_nil S1 ?_; clear S1; intro a_ S1
                            rw [show c_97 = true from hl0] at S1
                            have S0 := S.defers; replace S := S1; clear S1
                            refine wl_pure (l' := [(87, undef), (86, .bool true), (18, .int .i64 c_95), (17, .bool true), (16, .int .i64 c_79), (6, v_20), (11, v_59)]) S tys tys_ok 1 (by kernel_rfl) ?_; clear S; intro a S
                            refine wpList_nil ?_
                            exact RPost.mk_ S rfl S0 ⟨fun k_ => absurd k_ hc0, fun _ => rfl⟩ (Below.refl _ _)
                        refine RunAll.cons (cndF c_97 false (isI .i64 c_95)) [(eqv (.bool c_97), 86)] rfl rfl ?_ ?_
                        · intro W_ hW
                          by_cases hc0 : c_97 = false
                          · have hl0 : c_97 = false := hc0
                            have S1 := S
                            intro v_140 hF_139; obtain rfl : .bool c_97 = v_140 := Eq.symm hF_139
                            replace S1 := S1.put (by decide : 86 < 127) (.bool c_97)
                            refine fill_nil S1 ?_; clear S1; intro a_ S1
                            rw [show c_97 = false from hl0] at S1
                            have S0 := S.defers; replace S := S1; clear S1
                            refine wl_pure (l' := [(88, .int .i64 c_95), (86, .bool false), (18, .int .i64 c_95), (17, .bool false), (16, .int .i64 c_79), (6, v_20), (11, v_59)]) S tys tys_ok 1 (by kernel_rfl) ?_; clear S; intro a S
                            refine wpList_nil ?_
                            exact RPost.mk_ S rfl S0 ⟨fun _ => ⟨rfl, G_96⟩, fun k_ => absurd hc0 k_⟩ (Below.refl _ _)
                          · have hl0 : c_97 = true := (by simpa using hc0)
                            have S1 := S
                            intro v_142 hF_141; obtain rfl : .bool c_97 = v_142 := Eq.symm hF_141
                            replace S1 := S1.put (by decide : 86 < 127) (.bool c_97)
                            refine fill_nil S1 ?_; clear S1; intro a_ S1
                            rw [show c_97 = true from hl0] at S1
                            have S0 := S.defers; replace S := S1; clear S1
                            refine wl_pure (l' := [(88, undef), (86, .bool true), (18, .int .i64 c_95), (17, .bool true), (16, .int .i64 c_79), (6, v_20), (11, v_59)]) S tys tys_ok 1 (by kernel_rfl) ?_; clear S; intro a S
                            refine wpList_nil ?_
                            exact RPost.mk_ S rfl S0 ⟨fun k_ => absurd k_ hc0, fun _ => rfl⟩ (Below.refl _ _)
                        refine RunAll.cons (cndF c_97 false (isEl gt2 (Kx K w.heap.size []) y_108)) [(cndF c_97 false (isRep (.sl gt2) (Kx K w.heap.size []) y_19), 87), (cndF c_97 false (isI .i64 c_95), 88), (eqv (.bool c_97), 86)] rfl rfl ?_ ?_
                        · intro W_ hW
                          by_cases hc0 : c_97 = false
                          · have hl0 : c_97 = false := hc0
                            have S1 := S
                            intro v_143 hF_144
                            replace hF_144 := cndF.pos hF_144 hc0
                            revert hF_144
                            revert v_143
                            intro v_146 hF_145; replace hF_145 : RepV _ _ _ _ _ := hF_145
                            replace S1 := S1.put (by decide : 87 < 127) (v_146)
                            intro v_147 hF_148
                            replace hF_148 := cndF.pos hF_148 hc0
                            revert hF_148
                            revert v_147
                            rintro _ ⟨rfl, hF_149⟩
                            replace S1 := S1.put (by decide : 88 < 127) (.int .i64 c_95)
                            intro v_152 hF_151; obtain rfl : .bool c_97 = v_152 := Eq.symm hF_151
                            replace S1 := S1.put (by decide : 86 < 127) (.bool c_97)
                            refine fill_nil S1 ?_; clear S1; intro a_ S1
                            replace W := W.step hW
                            rw [show c_97 = false from hl0] at S1
                            have S0 := S.defers; replace S := S1; clear S1
                            obtain ⟨ey_108, eq_114, _⟩ := (HG_107).1 hc0
                            refine w_go S rfl (op_indexAddr S rfl ty25 rfl rfl rfl hF_145 rfl ey_108 ?_)
                            clear S; intro a p_153 R_154 H_155 S
                            refine wpList_nil ?_
                            exact RPost.mk_ S rfl S0 ⟨fun _ => ⟨_, rfl, R_154, H_155⟩, fun k_ => absurd hc0 k_⟩ (Below.refl _ _)
                          · have hl0 : c_97 = true := (by simpa using hc0)
                            have S1 := S
                            intro v_156 hF_157
                            obtain rfl := cndF.neg hF_157 hc0
                            replace S1 := S1.put (by decide : 87 < 127) (undef)
                            intro v_158 hF_159
                            obtain rfl := cndF.neg hF_159 hc0
                            replace S1 := S1.put (by decide : 88 < 127) (undef)
                            intro v_161 hF_160; obtain rfl : .bool c_97 = v_161 := Eq.symm hF_160
                            replace S1 := S1.put (by decide : 86 < 127) (.bool c_97)
                            refine fill_nil S1 ?_; clear S1; intro a_ S1
                            rw [show c_97 = true from hl0] at S1
                            have S0 := S.defers; replace S := S1; clear S1
                            refine wl_pure (l' := [(89, undef), (86, .bool true), (88, undef), (87, undef), (18, .int .i64 c_95), (17, .bool true), (16, .int .i64 c_79), (6, v_20), (11, v_59)]) S tys tys_ok 1 (by kernel_rfl) ?_; clear S; intro a S
                            refine wpList_nil ?_
                            exact RPost.mk_ S rfl S0 ⟨fun k_ => absurd k_ hc0, fun _ => rfl⟩ (Below.refl _ _)
                        refine RunAll.cons (cndF c_97 false (isEl .bool (Kx K w.heap.size []) y_108.2.1)) [(cndF c_97 false (isEl gt2 (Kx K w.heap.size []) y_108), 89), (eqv (.bool c_97), 86)] rfl rfl ?_ ?_
                        · intro W_ hW
                          by_cases hc0 : c_97 = false
                          · have hl0 : c_97 = false := hc0
                            have S1 := S
                            intro v_162 hF_163
                            replace hF_163 := cndF.pos hF_163 hc0
                            revert hF_163
                            revert v_162
                            rintro _ ⟨p_166, rfl, R_167, H_168⟩
                            replace S1 := S1.put (by decide : 89 < 127) (.pointer (some p_166))
                            intro v_170 hF_169; obtain rfl : .bool c_97 = v_170 := Eq.symm hF_169
                            replace S1 := S1.put (by decide : 86 < 127) (.bool c_97)
                            refine fill_nil S1 ?_; clear S1; intro a_ S1
                            rw [show c_97 = false from hl0] at S1
                            have S0 := S.defers; replace S := S1; clear S1
                            refine wl_pure (l' := [(90, .pointer (some (p_166.add (coff gf2 1)))), (86, .bool false), (89, .pointer (some p_166)), (18, .int .i64 c_95), (17, .bool false), (16, .int .i64 c_79), (6, v_20), (11, v_59)]) S tys tys_ok 1 (by kernel_rfl) ?_; clear S; intro a S
                            refine wpList_nil ?_
                            exact RPost.mk_ S rfl S0 ⟨fun _ => ⟨_, rfl, (RepAt.add 1 (RepAt.st (t := gf2) R_167)), (by simpa [Addr.add] using H_168)⟩, fun k_ => absurd hc0 k_⟩ (Below.refl _ _)
                          · have hl0 : c_97 = true := (by simpa using hc0)
                            have S1 := S
                            intro v_171 hF_172
                            obtain rfl := cndF.neg hF_172 hc0
                            replace S1 := S1.put (by decide : 89 < 127) (undef)
                            intro v_174 hF_173; obtain rfl : .bool c_97 = v_174 := Eq.symm hF_173
                            replace S1 := S1.put (by decide : 86 < 127) (.bool c_97)
                            refine fill_nil S1 ?_; clear S1; intro a_ S1
                            rw [show c_97 = true from hl0] at S1
                            have S0 := S.defers; replace S := S1; clear S1
                            refine wl_pure (l' := [(90, undef), (86, .bool true), (89, undef), (18, .int .i64 c_95), (17, .bool true), (16, .int .i64 c_79), (6, v_20), (11, v_59)]) S tys tys_ok 1 (by kernel_rfl) ?_; clear S; intro a S
                            refine wpList_nil ?_
                            exact RPost.mk_ S rfl S0 ⟨fun k_ => absurd k_ hc0, fun _ => rfl⟩ (Below.refl _ _)
                        refine RunAll.cons (cndF c_97 false (eqv (.bool y_108.2.1))) [(cndF c_97 false (isEl .bool (Kx K w.heap.size []) y_108.2.1), 90), (eqv (.bool c_97), 86)] rfl rfl ?_ ?_
                        · intro W_ hW
                          by_cases hc0 : c_97 = false
                          · have hl0 : c_97 = false := hc0
                            have S1 := S
                            intro v_175 hF_176
                            replace hF_176 := cndF.pos hF_176 hc0
                            revert hF_176
                            revert v_175
                            rintro _ ⟨p_179, rfl, R_180, H_181⟩
                            replace S1 := S1.put (by decide : 90 < 127) (.pointer (some p_179))
                            intro v_183 hF_182; obtain rfl : .bool c_97 = v_183 := Eq.symm hF_182
                            replace S1 := S1.put (by decide : 86 < 127) (.bool c_97)
                            refine fill_nil S1 ?_; clear S1; intro a_ S1
                            rw [show c_97 = false from hl0] at S1
                            have S0 := S.defers; replace S := S1; clear S1
                            obtain ⟨ey_108, eq_114, _⟩ := (HG_107).1 hc0
                            refine w_go S rfl (op_load (t := .bool) (x := y_108.2.1) S rfl ty4 rfl rfl rfl R_180 ?_)
                            clear S; intro a v_184 R_185 S
                            obtain rfl := RepV.bool R_185
                            refine wpList_nil ?_
                            exact RPost.mk_ S rfl S0 ⟨fun _ => rfl, fun k_ => absurd hc0 k_⟩ (Below.refl _ _)
                          · have hl0 : c_97 = true := (by simpa using hc0)
                            have S1 := S
                            intro v_186 hF_187
                            obtain rfl := cndF.neg hF_187 hc0
                            replace S1 := S1.put (by decide : 90 < 127) (undef)
                            intro v_189 hF_188; obtain rfl : .bool c_97 = v_189 := Eq.symm hF_188
                            replace S1 := S1.put (by decide : 86 < 127) (.bool c_97)
                            refine fill_nil S1 ?_; clear S1; intro a_ S1
                            rw [show c_97 = true from hl0] at S1
                            have S0 := S.defers; replace S := S1; clear S1
                            refine wl_pure (l' := [(91, undef), (86, .bool true), (90, undef), (18, .int .i64 c_95), (17, .bool true), (16, .int .i64 c_79), (6, v_20), (11, v_59)]) S tys tys_ok 1 (by kernel_rfl) ?_; clear S; intro a S
                            refine wpList_nil ?_
                            exact RPost.mk_ S rfl S0 ⟨fun k_ => absurd k_ hc0, fun _ => rfl⟩ (Below.refl _ _)
                        refine RunAll.cons (cndF c_97 false (eqv (.bool y_108.2.1))) [(cndF c_97 false (eqv (.bool y_108.2.1)), 91), (eqv (.bool c_97), 86)] rfl rfl ?_ ?_
                        · intro W_ hW
                          by_cases hc0 : c_97 = false
                          · have hl0 : c_97 = false := hc0
                            have S1 := S
                            intro v_190 hF_191
                            replace hF_191 := cndF.pos hF_191 hc0
                            revert hF_191
                            revert v_190
                            intro v_193 hF_192; obtain rfl : .bool y_108.2.1 = v_193 := Eq.symm hF_192
                            replace S1 := S1.put (by decide : 91 < 127) (.bool y_108.2.1)
                            intro v_195 hF_194; obtain rfl : .bool c_97 = v_195 := Eq.symm hF_194
                            replace S1 := S1.put (by decide : 86 < 127) (.bool c_97)
                            refine fill_nil S1 ?_; clear S1; intro a_ S1
                            rw [show c_97 = false from hl0] at S1
                            have S0 := S.defers; replace S := S1; clear S1
                            refine wl_pure (l' := [(92, .bool y_108.2.1), (86, .bool false), (91, .bool y_108.2.1), (18, .int .i64 c_95), (17, .bool false), (16, .int .i64 c_79), (6, v_20), (11, v_59)]) S tys tys_ok 1 (by kernel_rfl) ?_; clear S; intro a S
                            refine wpList_nil ?_
                            exact RPost.mk_ S rfl S0 ⟨fun _ => rfl, fun k_ => absurd hc0 k_⟩ (Below.refl _ _)
                          · have hl0 : c_97 = true := (by simpa using hc0)
                            have S1 := S
                            intro v_196 hF_197
                            obtain rfl := cndF.neg hF_197 hc0
                            replace S1 := S1.put (by decide : 91 < 127) (undef)
                            intro v_199 hF_198; obtain rfl : .bool c_97 = v_199 := Eq.symm hF_198
                            replace S1 := S1.put (by decide : 86 < 127) (.bool c_97)
                            refine fill_nil S1 ?_; clear S1; intro a_ S1
                            rw [show c_97 = true from hl0] at S1
                            have S0 := S.defers; replace S := S1; clear S1
                            refine wl_pure (l' := [(92, undef), (86, .bool true), (91, undef), (18, .int .i64 c_95), (17, .bool true), (16, .int .i64 c_79), (6, v_20), (11, v_59)]) S tys tys_ok 1 (by kernel_rfl) ?_; clear S; intro a S
                            refine wpList_nil ?_
                            exact RPost.mk_ S rfl S0 ⟨fun k_ => absurd k_ hc0, fun _ => rfl⟩ (Below.refl _ _)
                        refine RunAll.cons (cndF c_97 false (cndF y_108.2.1 true (isRep (.sl gt2) (Kx K w.heap.size []) y_19))) [(cndF c_97 false (eqv (.bool y_108.2.1)), 92)] rfl rfl ?_ ?_
                        · intro W_ hW
                          by_cases hc0 : c_97 = false
                          · have hl0 : c_97 = false := hc0
                            by_cases hc1 : y_108.2.1 = true
                            · have hl1 : y_108.2.1 = true := hc1
                              have S1 := S
                              intro v_200 hF_201
                              replace hF_201 := cndF.pos hF_201 hc0
                              revert hF_201
                              revert v_200
                              intro v_203 hF_202; obtain rfl : .bool y_108.2.1 = v_203 := Eq.symm hF_202
                              replace S1 := S1.put (by decide : 92 < 127) (.bool y_108.2.1)
                              refine fill_nil S1 ?_; clear S1; intro a_ S1
                              replace R_21 := R_21.step hW
                              rw [show y_108.2.1 = true from hl1] at S1
                              have S0 := S.defers; replace S := S1; clear S1
                              refine wl_pure (l' := [(93, v_20), (92, .bool true), (18, .int .i64 c_95), (17, .bool c_97), (16, .int .i64 c_79), (6, v_20), (11, v_59)]) S tys tys_ok 1 (by kernel_rfl) ?_; clear S; intro a S
                              refine wpList_nil ?_
                              exact RPost.mk_ S rfl S0 ⟨fun _ => ⟨fun _ => R_21, fun k_ => absurd hc1 k_⟩, fun k_ => absurd hc0 k_⟩ (Below.refl _ _)
                            · have hl1 : y_108.2.1 = false := Bool.eq_false_iff.2 hc1
                              have S1 := S
                              intro v_204 hF_205
                              replace hF_205 := cndF.pos hF_205 hc0
                              revert hF_205
                              revert v_204
                              intro v_207 hF_206; obtain rfl : .bool y_108.2.1 = v_207 := Eq.symm hF_206
                              replace S1 := S1.put (by decide : 92 < 127) (.bool y_108.2.1)
                              refine fill_nil S1 ?_; clear S1; intro a_ S1
                              rw [show y_108.2.1 = false from hl1] at S1
                              have S0 := S.defers; replace S := S1; clear S1
                              refine wl_pure (l' := [(93, undef), (92, .bool false), (18, .int .i64 c_95), (17, .bool c_97), (16, .int .i64 c_79), (6, v_20), (11, v_59)]) S tys tys_ok 1 (by kernel_rfl) ?_; clear S; intro a S
                              refine wpList_nil ?_
                              exact RPost.mk_ S rfl S0 ⟨fun _ => ⟨fun k_ => absurd k_ hc1, fun _ => rfl⟩, fun k_ => absurd hc0 k_⟩ (Below.refl _ _)
                          · have hl0 : c_97 = true := (by simpa using hc0)
                            have S1 := S
                            intro v_208 hF_209
                            obtain rfl := cndF.neg hF_209 hc0
                            replace S1 := S1.put (by decide : 92 < 127) (undef)
                            refine fill_nil S1 ?_; clear S1; intro a_ S1
                            have S0 := S.defers; replace S := S1; clear S1
                            refine wl_pure (l' := [(93, undef), (92, undef), (18, .int .i64 c_95), (17, .bool c_97), (16, .int .i64 c_79), (6, v_20), (11, v_59)]) S tys tys_ok 1 (by kernel_rfl) ?_; clear S; intro a S
                            refine wpList_nil ?_
                            exact RPost.mk_ S rfl S0 ⟨fun k_ => absurd k_ hc0, fun _ => rfl⟩ (Below.refl _ _)
                        refine RunAll.cons (cndF c_97 false (cndF y_108.2.1 true (isI .i64 c_79))) [(cndF c_97 false (eqv (.bool y_108.2.1)), 92)] rfl rfl ?_ ?_
                        · intro W_ hW
                          by_cases hc0 : c_97 = false
                          · have hl0 : c_97 = false := hc0
                            by_cases hc1 : y_108.2.1 = true
                            · have hl1 : y_108.2.1 = true := hc1
                              have S1 := S
                              intro v_210 hF_211
                              replace hF_211 := cndF.pos hF_211 hc0
                              revert hF_211
                              revert v_210
                              intro v_213 hF_212; obtain rfl : .bool y_108.2.1 = v_213 := Eq.symm hF_212
                              replace S1 := S1.put (by decide : 92 < 127) (.bool y_108.2.1)
                              refine fill_nil S1 ?_; clear S1; intro a_ S1
                              rw [show y_108.2.1 = true from hl1] at S1
                              have S0 := S.defers; replace S := S1; clear S1
                              refine wl_pure (l' := [(94, .int .i64 c_79), (92, .bool true), (18, .int .i64 c_95), (17, .bool c_97), (16, .int .i64 c_79), (6, v_20), (11, v_59)]) S tys tys_ok 1 (by kernel_rfl) ?_; clear S; intro a S
                              refine wpList_nil ?_
                              exact RPost.mk_ S rfl S0 ⟨fun _ => ⟨fun _ => ⟨rfl, G_80⟩, fun k_ => absurd hc1 k_⟩, fun k_ => absurd hc0 k_⟩ (Below.refl _ _)
                            · have hl1 : y_108.2.1 = false := Bool.eq_false_iff.2 hc1
                              have S1 := S
                              intro v_214 hF_215
                              replace hF_215 := cndF.pos hF_215 hc0
                              revert hF_215
                              revert v_214
                              intro v_217 hF_216; obtain rfl : .bool y_108.2.1 = v_217 := Eq.symm hF_216
                              replace S1 := S1.put (by decide : 92 < 127) (.bool y_108.2.1)
                              refine fill_nil S1 ?_; clear S1; intro a_ S1
                              rw [show y_108.2.1 = false from hl1] at S1
                              have S0 := S.defers; replace S := S1; clear S1
                              refine wl_pure (l' := [(94, undef), (92, .bool false), (18, .int .i64 c_95), (17, .bool c_97), (16, .int .i64 c_79), (6, v_20), (11, v_59)]) S tys tys_ok 1 (by kernel_rfl) ?_; clear S; intro a S
                              refine wpList_nil ?_
                              exact RPost.mk_ S rfl S0 ⟨fun _ => ⟨fun k_ => absurd k_ hc1, fun _ => rfl⟩, fun k_ => absurd hc0 k_⟩ (Below.refl _ _)
                          · have hl0 : c_97 = true := (by simpa using hc0)
                            have S1 := S
                            intro v_218 hF_219
                            obtain rfl := cndF.neg hF_219 hc0
                            replace S1 := S1.put (by decide : 92 < 127) (undef)
                            refine fill_nil S1 ?_; clear S1; intro a_ S1
                            have S0 := S.defers; replace S := S1; clear S1
                            refine wl_pure (l' := [(94, undef), (92, undef), (18, .int .i64 c_95), (17, .bool c_97), (16, .int .i64 c_79), (6, v_20), (11, v_59)]) S tys tys_ok 1 (by kernel_rfl) ?_; clear S; intro a S
                            refine wpList_nil ?_
                            exact RPost.mk_ S rfl S0 ⟨fun k_ => absurd k_ hc0, fun _ => rfl⟩ (Below.refl _ _)
                        refine RunAll.cons (cndF c_97 false (cndF y_108.2.1 true (isEl gt2 (Kx K w.heap.size []) y_116))) [(cndF c_97 false (cndF y_108.2.1 true (isRep (.sl gt2) (Kx K w.heap.size []) y_19)), 93), (cndF c_97 false (cndF y_108.2.1 true (isI .i64 c_79)), 94), (cndF c_97 false (eqv (.bool y_108.2.1)), 92)] rfl rfl ?_ ?_
                        · intro W_ hW
                          by_cases hc0 : c_97 = false
                          · have hl0 : c_97 = false := hc0
                            by_cases hc1 : y_108.2.1 = true
                            · have hl1 : y_108.2.1 = true := hc1
                              have S1 := S
                              intro v_220 hF_221
                              replace hF_221 := cndF.pos hF_221 hc0
                              replace hF_221 := cndF.pos hF_221 hc1
                              revert hF_221
                              revert v_220
                              intro v_223 hF_222; replace hF_222 : RepV _ _ _ _ _ := hF_222
                              replace S1 := S1.put (by decide : 93 < 127) (v_223)
                              intro v_224 hF_225
                              replace hF_225 := cndF.pos hF_225 hc0
                              replace hF_225 := cndF.pos hF_225 hc1
                              revert hF_225
                              revert v_224
                              rintro _ ⟨rfl, hF_226⟩
                              replace S1 := S1.put (by decide : 94 < 127) (.int .i64 c_79)
                              intro v_228 hF_229
                              replace hF_229 := cndF.pos hF_229 hc0
                              revert hF_229
                              revert v_228
                              intro v_231 hF_230; obtain rfl : .bool y_108.2.1 = v_231 := Eq.symm hF_230
                              replace S1 := S1.put (by decide : 92 < 127) (.bool y_108.2.1)
                              refine fill_nil S1 ?_; clear S1; intro a_ S1
                              replace W := W.step hW
                              rw [show y_108.2.1 = true from hl1] at S1
                              have S0 := S.defers; replace S := S1; clear S1
                              obtain ⟨ey_108, eq_114, _⟩ := (HG_107).1 hc0
                              obtain ⟨ey_116, ey_122, et_128, _⟩ := (HG_115 hc0).1 hc1
                              refine w_go S rfl (op_indexAddr S rfl ty25 rfl rfl rfl hF_222 rfl ey_116 ?_)
                              clear S; intro a p_232 R_233 H_234 S
                              refine wpList_nil ?_
                              exact RPost.mk_ S rfl S0 ⟨fun _ => ⟨fun _ => ⟨_, rfl, R_233, H_234⟩, fun k_ => absurd hc1 k_⟩, fun k_ => absurd hc0 k_⟩ (Below.refl _ _)
                            · have hl1 : y_108.2.1 = false := Bool.eq_false_iff.2 hc1
                              have S1 := S
                              intro v_235 hF_236
                              replace hF_236 := cndF.pos hF_236 hc0
                              obtain rfl := cndF.neg hF_236 hc1
                              replace S1 := S1.put (by decide : 93 < 127) (undef)
                              intro v_237 hF_238
                              replace hF_238 := cndF.pos hF_238 hc0
                              obtain rfl := cndF.neg hF_238 hc1
                              replace S1 := S1.put (by decide : 94 < 127) (undef)
                              intro v_239 hF_240
                              replace hF_240 := cndF.pos hF_240 hc0
                              revert hF_240
                              revert v_239
                              intro v_242 hF_241; obtain rfl : .bool y_108.2.1 = v_242 := Eq.symm hF_241
                              replace S1 := S1.put (by decide : 92 < 127) (.bool y_108.2.1)
                              refine fill_nil S1 ?_; clear S1; intro a_ S1
                              rw [show y_108.2.1 = false from hl1] at S1
                              have S0 := S.defers; replace S := S1; clear S1
                              refine wl_pure (l' := [(95, undef), (92, .bool false), (94, undef), (93, undef), (18, .int .i64 c_95), (17, .bool c_97), (16, .int .i64 c_79), (6, v_20), (11, v_59)]) S tys tys_ok 1 (by kernel_rfl) ?_; clear S; intro a S
                              refine wpList_nil ?_
                              exact RPost.mk_ S rfl S0 ⟨fun _ => ⟨fun k_ => absurd k_ hc1, fun _ => rfl⟩, fun k_ => absurd hc0 k_⟩ (Below.refl _ _)
                          · have hl0 : c_97 = true := (by simpa using hc0)
                            have S1 := S
                            intro v_243 hF_244
                            obtain rfl := cndF.neg hF_244 hc0
                            replace S1 := S1.put (by decide : 93 < 127) (undef)
                            intro v_245 hF_246
                            obtain rfl := cndF.neg hF_246 hc0
                            replace S1 := S1.put (by decide : 94 < 127) (undef)
                            intro v_247 hF_248
                            obtain rfl := cndF.neg hF_248 hc0
                            replace S1 := S1.put (by decide : 92 < 127) (undef)
                            refine fill_nil S1 ?_; clear S1; intro a_ S1
                            have S0 := S.defers; replace S := S1; clear S1
                            refine wl_pure (l' := [(95, undef), (92, undef), (94, undef), (93, undef), (18, .int .i64 c_95), (17, .bool c_97), (16, .int .i64 c_79), (6, v_20), (11, v_59)]) S tys tys_ok 1 (by kernel_rfl) ?_; clear S; intro a S
                            refine wpList_nil ?_
                            exact RPost.mk_ S rfl S0 ⟨fun k_ => absurd k_ hc0, fun _ => rfl⟩ (Below.refl _ _)
                        refine RunAll.cons (cndF c_97 false (cndF y_108.2.1 true (isEl (.sl (.int .u8)) (Kx K w.heap.size []) y_116.1))) [(cndF c_97 false (cndF y_108.2.1 true (isEl gt2 (Kx K w.heap.size []) y_116)), 95), (cndF c_97 false (eqv (.bool y_108.2.1)), 92)] rfl rfl ?_ ?_
                        · intro W_ hW
                          by_cases hc0 : c_97 = false
                          · have hl0 : c_97 = false := hc0
                            by_cases hc1 : y_108.2.1 = true
                            · have hl1 : y_108.2.1 = true := hc1
                              have S1 := S
                              intro v_249 hF_250
                              replace hF_250 := cndF.pos hF_250 hc0
                              replace hF_250 := cndF.pos hF_250 hc1
                              revert hF_250
                              revert v_249
                              rintro _ ⟨p_253, rfl, R_254, H_255⟩
                              replace S1 := S1.put (by decide : 95 < 127) (.pointer (some p_253))
                              intro v_256 hF_257
                              replace hF_257 := cndF.pos hF_257 hc0
                              revert hF_257
                              revert v_256
                              intro v_259 hF_258; obtain rfl : .bool y_108.2.1 = v_259 := Eq.symm hF_258
                              replace S1 := S1.put (by decide : 92 < 127) (.bool y_108.2.1)
                              refine fill_nil S1 ?_; clear S1; intro a_ S1
                              rw [show y_108.2.1 = true from hl1] at S1
                              have S0 := S.defers; replace S := S1; clear S1
                              refine wl_pure (l' := [(96, .pointer (some (p_253.add (coff gf2 0)))), (92, .bool true), (95, .pointer (some p_253)), (18, .int .i64 c_95), (17, .bool c_97), (16, .int .i64 c_79), (6, v_20), (11, v_59)]) S tys tys_ok 1 (by kernel_rfl) ?_; clear S; intro a S
                              refine wpList_nil ?_
                              exact RPost.mk_ S rfl S0 ⟨fun _ => ⟨fun _ => ⟨_, rfl, (RepAt.add 0 (RepAt.st (t := gf2) R_254)), (by simpa [Addr.add] using H_255)⟩, fun k_ => absurd hc1 k_⟩, fun k_ => absurd hc0 k_⟩ (Below.refl _ _)
                            · have hl1 : y_108.2.1 = false := Bool.eq_false_iff.2 hc1
                              have S1 := S
                              intro v_260 hF_261
                              replace hF_261 := cndF.pos hF_261 hc0
                              obtain rfl := cndF.neg hF_261 hc1
                              replace S1 := S1.put (by decide : 95 < 127) (undef)
                              intro v_262 hF_263
                              replace hF_263 := cndF.pos hF_263 hc0
                              revert hF_263
                              revert v_262
                              intro v_265 hF_264; obtain rfl : .bool y_108.2.1 = v_265 := Eq.symm hF_264
                              replace S1 := S1.put (by decide : 92 < 127) (.bool y_108.2.1)
                              refine fill_nil S1 ?_; clear S1; intro a_ S1
                              rw [show y_108.2.1 = false from hl1] at S1
                              have S0 := S.defers; replace S := S1; clear S1
                              refine wl_pure (l' := [(96, undef), (92, .bool false), (95, undef), (18, .int .i64 c_95), (17, .bool c_97), (16, .int .i64 c_79), (6, v_20), (11, v_59)]) S tys tys_ok 1 (by kernel_rfl) ?_; clear S; intro a S
                              refine wpList_nil ?_
                              exact RPost.mk_ S rfl S0 ⟨fun _ => ⟨fun k_ => absurd k_ hc1, fun _ => rfl⟩, fun k_ => absurd hc0 k_⟩ (Below.refl _ _)
                          · have hl0 : c_97 = true := (by simpa using hc0)
                            have S1 := S
                            intro v_266 hF_267
                            obtain rfl := cndF.neg hF_267 hc0
                            replace S1 := S1.put (by decide : 95 < 127) (undef)
                            intro v_268 hF_269
                            obtain rfl := cndF.neg hF_269 hc0
                            replace S1 := S1.put (by decide : 92 < 127) (undef)
                            refine fill_nil S1 ?_; clear S1; intro a_ S1
                            have S0 := S.defers; replace S := S1; clear S1
                            refine wl_pure (l' := [(96, undef), (92, undef), (95, undef), (18, .int .i64 c_95), (17, .bool c_97), (16, .int .i64 c_79), (6, v_20), (11, v_59)]) S tys tys_ok 1 (by kernel_rfl) ?_; clear S; intro a S
                            refine wpList_nil ?_
                            exact RPost.mk_ S rfl S0 ⟨fun k_ => absurd k_ hc0, fun _ => rfl⟩ (Below.refl _ _)
                        refine RunAll.cons (cndF c_97 false (cndF y_108.2.1 true (isRep (.sl (.int .u8)) (Kx K w.heap.size []) y_116.1))) [(cndF c_97 false (cndF y_108.2.1 true (isEl (.sl (.int .u8)) (Kx K w.heap.size []) y_116.1)), 96), (cndF c_97 false (eqv (.bool y_108.2.1)), 92)] rfl rfl ?_ ?_
                        · intro W_ hW
                          by_cases hc0 : c_97 = false
                          · have hl0 : c_97 = false := hc0
                            by_cases hc1 : y_108.2.1 = true
                            · have hl1 : y_108.2.1 = true := hc1
                              have S1 := S
                              intro v_270 hF_271
                              replace hF_271 := cndF.pos hF_271 hc0
                              replace hF_271 := cndF.pos hF_271 hc1
                              revert hF_271
                              revert v_270
                              rintro _ ⟨p_274, rfl, R_275, H_276⟩
                              replace S1 := S1.put (by decide : 96 < 127) (.pointer (some p_274))
                              intro v_277 hF_278
                              replace hF_278 := cndF.pos hF_278 hc0
                              revert hF_278
                              revert v_277
                              intro v_280 hF_279; obtain rfl : .bool y_108.2.1 = v_280 := Eq.symm hF_279
                              replace S1 := S1.put (by decide : 92 < 127) (.bool y_108.2.1)
                              refine fill_nil S1 ?_; clear S1; intro a_ S1
                              rw [show y_108.2.1 = true from hl1] at S1
                              have S0 := S.defers; replace S := S1; clear S1
                              obtain ⟨ey_108, eq_114, _⟩ := (HG_107).1 hc0
                              obtain ⟨ey_116, ey_122, et_128, _⟩ := (HG_115 hc0).1 hc1
                              refine w_go S rfl (op_load (t := (.sl (.int .u8))) (x := y_116.1) S rfl ty35 rfl rfl rfl R_275 ?_)
                              clear S; intro a v_281 R_282 S
                              refine wpList_nil ?_
                              exact RPost.mk_ S rfl S0 ⟨fun _ => ⟨fun _ => R_282, fun k_ => absurd hc1 k_⟩, fun k_ => absurd hc0 k_⟩ (Below.refl _ _)
                            · have hl1 : y_108.2.1 = false := Bool.eq_false_iff.2 hc1
                              have S1 := S
                              intro v_283 hF_284
                              replace hF_284 := cndF.pos hF_284 hc0
                              obtain rfl := cndF.neg hF_284 hc1
                              replace S1 := S1.put (by decide : 96 < 127) (undef)
                              intro v_285 hF_286
                              replace hF_286 := cndF.pos hF_286 hc0
                              revert hF_286
                              revert v_285
                              intro v_288 hF_287; obtain rfl : .bool y_108.2.1 = v_288 := Eq.symm hF_287
                              replace S1 := S1.put (by decide : 92 < 127) (.bool y_108.2.1)
                              refine fill_nil S1 ?_; clear S1; intro a_ S1
                              rw [show y_108.2.1 = false from hl1] at S1
                              have S0 := S.defers; replace S := S1; clear S1
                              refine wl_pure (l' := [(97, undef), (92, .bool false), (96, undef), (18, .int .i64 c_95), (17, .bool c_97), (16, .int .i64 c_79), (6, v_20), (11, v_59)]) S tys tys_ok 1 (by kernel_rfl) ?_; clear S; intro a S
                              refine wpList_nil ?_
                              exact RPost.mk_ S rfl S0 ⟨fun _ => ⟨fun k_ => absurd k_ hc1, fun _ => rfl⟩, fun k_ => absurd hc0 k_⟩ (Below.refl _ _)
                          · have hl0 : c_97 = true := (by simpa using hc0)
                            have S1 := S
                            intro v_289 hF_290
                            obtain rfl := cndF.neg hF_290 hc0
                            replace S1 := S1.put (by decide : 96 < 127) (undef)
                            intro v_291 hF_292
                            obtain rfl := cndF.neg hF_292 hc0
                            replace S1 := S1.put (by decide : 92 < 127) (undef)
                            refine fill_nil S1 ?_; clear S1; intro a_ S1
                            have S0 := S.defers; replace S := S1; clear S1
                            refine wl_pure (l' := [(97, undef), (92, undef), (96, undef), (18, .int .i64 c_95), (17, .bool c_97), (16, .int .i64 c_79), (6, v_20), (11, v_59)]) S tys tys_ok 1 (by kernel_rfl) ?_; clear S; intro a S
                            refine wpList_nil ?_
                            exact RPost.mk_ S rfl S0 ⟨fun k_ => absurd k_ hc0, fun _ => rfl⟩ (Below.refl _ _)
                        refine RunAll.cons (cndF c_97 false (cndF y_108.2.1 true (isRep (.sl gt2) (Kx K w.heap.size []) y_19))) [(cndF c_97 false (eqv (.bool y_108.2.1)), 92)] rfl rfl ?_ ?_
                        · intro W_ hW
                          by_cases hc0 : c_97 = false
                          · have hl0 : c_97 = false := hc0
                            by_cases hc1 : y_108.2.1 = true
                            · have hl1 : y_108.2.1 = true := hc1
                              have S1 := S
                              intro v_293 hF_294
                              replace hF_294 := cndF.pos hF_294 hc0
                              revert hF_294
                              revert v_293
                              intro v_296 hF_295; obtain rfl : .bool y_108.2.1 = v_296 := Eq.symm hF_295
                              replace S1 := S1.put (by decide : 92 < 127) (.bool y_108.2.1)
                              refine fill_nil S1 ?_; clear S1; intro a_ S1
                              replace R_21 := R_21.step hW
                              rw [show y_108.2.1 = true from hl1] at S1
                              have S0 := S.defers; replace S := S1; clear S1
                              refine wl_pure (l' := [(98, v_20), (92, .bool true), (18, .int .i64 c_95), (17, .bool c_97), (16, .int .i64 c_79), (6, v_20), (11, v_59)]) S tys tys_ok 1 (by kernel_rfl) ?_; clear S; intro a S
                              refine wpList_nil ?_
                              exact RPost.mk_ S rfl S0 ⟨fun _ => ⟨fun _ => R_21, fun k_ => absurd hc1 k_⟩, fun k_ => absurd hc0 k_⟩ (Below.refl _ _)
                            · have hl1 : y_108.2.1 = false := Bool.eq_false_iff.2 hc1
                              have S1 := S
                              intro v_297 hF_298
                              replace hF_298 := cndF.pos hF_298 hc0
                              revert hF_298
                              revert v_297
                              intro v_300 hF_299; obtain rfl : .bool y_108.2.1 = v_300 := Eq.symm hF_299
                              replace S1 := S1.put (by decide : 92 < 127) (.bool y_108.2.1)
                              refine fill_nil S1 ?_; clear S1; intro a_ S1
                              rw [show y_108.2.1 = false from hl1] at S1
                              have S0 := S.defers; replace S := S1; clear S1
                              refine wl_pure (l' := [(98, undef), (92, .bool false), (18, .int .i64 c_95), (17, .bool c_97), (16, .int .i64 c_79), (6, v_20), (11, v_59)]) S tys tys_ok 1 (by kernel_rfl) ?_; clear S; intro a S
                              refine wpList_nil ?_
                              exact RPost.mk_ S rfl S0 ⟨fun _ => ⟨fun k_ => absurd k_ hc1, fun _ => rfl⟩, fun k_ => absurd hc0 k_⟩ (Below.refl _ _)
                          · have hl0 : c_97 = true := (by simpa using hc0)
                            have S1 := S
                            intro v_301 hF_302
                            obtain rfl := cndF.neg hF_302 hc0
                            replace S1 := S1.put (by decide : 92 < 127) (undef)
                            refine fill_nil S1 ?_; clear S1; intro a_ S1
                            have S0 := S.defers; replace S := S1; clear S1
                            refine wl_pure (l' := [(98, undef), (92, undef), (18, .int .i64 c_95), (17, .bool c_97), (16, .int .i64 c_79), (6, v_20), (11, v_59)]) S tys tys_ok 1 (by kernel_rfl) ?_; clear S; intro a S
                            refine wpList_nil ?_
                            exact RPost.mk_ S rfl S0 ⟨fun k_ => absurd k_ hc0, fun _ => rfl⟩ (Below.refl _ _)
                        refine RunAll.cons (cndF c_97 false (cndF y_108.2.1 true (isI .i64 c_95))) [(cndF c_97 false (eqv (.bool y_108.2.1)), 92)] rfl rfl ?_ ?_
                        · intro W_ hW
                          by_cases hc0 : c_97 = false
                          · have hl0 : c_97 = false := hc0
                            by_cases hc1 : y_108.2.1 = true
                            · have hl1 : y_108.2.1 = true := hc1
                              have S1 := S
                              intro v_303 hF_304
                              replace hF_304 := cndF.pos hF_304 hc0
                              revert hF_304
                              revert v_303
                              intro v_306 hF_305; obtain rfl : .bool y_108.2.1 = v_306 := Eq.symm hF_305
                              replace S1 := S1.put (by decide : 92 < 127) (.bool y_108.2.1)
                              refine fill_nil S1 ?_; clear S1; intro a_ S1
                              rw [show y_108.2.1 = true from hl1] at S1
                              have S0 := S.defers; replace S := S1; clear S1
                              refine wl_pure (l' := [(99, .int .i64 c_95), (92, .bool true), (18, .int .i64 c_95), (17, .bool c_97), (16, .int .i64 c_79), (6, v_20), (11, v_59)]) S tys tys_ok 1 (by kernel_rfl) ?_; clear S; intro a S
                              refine wpList_nil ?_
                              exact RPost.mk_ S rfl S0 ⟨fun _ => ⟨fun _ => ⟨rfl, G_96⟩, fun k_ => absurd hc1 k_⟩, fun k_ => absurd hc0 k_⟩ (Below.refl _ _)
                            · have hl1 : y_108.2.1 = false := Bool.eq_false_iff.2 hc1
                              have S1 := S
                              intro v_307 hF_308
                              replace hF_308 := cndF.pos hF_308 hc0
                              revert hF_308
                              revert v_307
                              intro v_310 hF_309; obtain rfl : .bool y_108.2.1 = v_310 := Eq.symm hF_309
                              replace S1 := S1.put (by decide : 92 < 127) (.bool y_108.2.1)
                              refine fill_nil S1 ?_; clear S1; intro a_ S1
                              rw [show y_108.2.1 = false from hl1] at S1
                              have S0 := S.defers; replace S := S1; clear S1
                              refine wl_pure (l' := [(99, undef), (92, .bool false), (18, .int .i64 c_95), (17, .bool c_97), (16, .int .i64 c_79), (6, v_20), (11, v_59)]) S tys tys_ok 1 (by kernel_rfl) ?_; clear S; intro a S
                              refine wpList_nil ?_
                              exact RPost.mk_ S rfl S0 ⟨fun _ => ⟨fun k_ => absurd k_ hc1, fun _ => rfl⟩, fun k_ => absurd hc0 k_⟩ (Below.refl _ _)
                          · have hl0 : c_97 = true := (by simpa using hc0)
                            have S1 := S
                            intro v_311 hF_312
                            obtain rfl := cndF.neg hF_312 hc0
                            replace S1 := S1.put (by decide : 92 < 127) (undef)
                            refine fill_nil S1 ?_; clear S1; intro a_ S1
                            have S0 := S.defers; replace S := S1; clear S1
                            refine wl_pure (l' := [(99, undef), (92, undef), (18, .int .i64 c_95), (17, .bool c_97), (16, .int .i64 c_79), (6, v_20), (11, v_59)]) S tys tys_ok 1 (by kernel_rfl) ?_; clear S; intro a S
                            refine wpList_nil ?_
                            exact RPost.mk_ S rfl S0 ⟨fun k_ => absurd k_ hc0, fun _ => rfl⟩ (Below.refl _ _)
                        refine RunAll.cons (cndF c_97 false (cndF y_108.2.1 true (isEl gt2 (Kx K w.heap.size []) y_122))) [(cndF c_97 false (cndF y_108.2.1 true (isRep (.sl gt2) (Kx K w.heap.size []) y_19)), 98), (cndF c_97 false (cndF y_108.2.1 true (isI .i64 c_95)), 99), (cndF c_97 false (eqv (.bool y_108.2.1)), 92)] rfl rfl ?_ ?_
                        · intro W_ hW
                          by_cases hc0 : c_97 = false
                          · have hl0 : c_97 = false := hc0
                            by_cases hc1 : y_108.2.1 = true
                            · have hl1 : y_108.2.1 = true := hc1
                              have S1 := S
                              intro v_313 hF_314
                              replace hF_314 := cndF.pos hF_314 hc0
                              replace hF_314 := cndF.pos hF_314 hc1
                              revert hF_314
                              revert v_313
                              intro v_316 hF_315; replace hF_315 : RepV _ _ _ _ _ := hF_315
                              replace S1 := S1.put (by decide : 98 < 127) (v_316)
                              intro v_317 hF_318
                              replace hF_318 := cndF.pos hF_318 hc0
                              replace hF_318 := cndF.pos hF_318 hc1
                              revert hF_318
                              revert v_317
                              rintro _ ⟨rfl, hF_319⟩
                              replace S1 := S1.put (by decide : 99 < 127) (.int .i64 c_95)
                              intro v_321 hF_322
                              replace hF_322 := cndF.pos hF_322 hc0
                              revert hF_322
                              revert v_321
                              intro v_324 hF_323; obtain rfl : .bool y_108.2.1 = v_324 := Eq.symm hF_323
                              replace S1 := S1.put (by decide : 92 < 127) (.bool y_108.2.1)
                              refine fill_nil S1 ?_; clear S1; intro a_ S1
                              replace W := W.step hW
                              rw [show y_108.2.1 = true from hl1] at S1
                              have S0 := S.defers; replace S := S1; clear S1
                              obtain ⟨ey_108, eq_114, _⟩ := (HG_107).1 hc0
                              obtain ⟨ey_116, ey_122, et_128, _⟩ := (HG_115 hc0).1 hc1
                              refine w_go S rfl (op_indexAddr S rfl ty25 rfl rfl rfl hF_315 rfl ey_122 ?_)
                              clear S; intro a p_325 R_326 H_327 S
                              refine wpList_nil ?_
                              exact RPost.mk_ S rfl S0 ⟨fun _ => ⟨fun _ => ⟨_, rfl, R_326, H_327⟩, fun k_ => absurd hc1 k_⟩, fun k_ => absurd hc0 k_⟩ (Below.refl _ _)
                            · have hl1 : y_108.2.1 = false := Bool.eq_false_iff.2 hc1
                              have S1 := S
                              intro v_328 hF_329
                              replace hF_329 := cndF.pos hF_329 hc0
                              obtain rfl := cndF.neg hF_329 hc1
                              replace S1 := S1.put (by decide : 98 < 127) (undef)
                              intro v_330 hF_331
                              replace hF_331 := cndF.pos hF_331 hc0
                              obtain rfl := cndF.neg hF_331 hc1
                              replace S1 := S1.put (by decide : 99 < 127) (undef)
                              intro v_332 hF_333
                              replace hF_333 := cndF.pos hF_333 hc0
                              revert hF_333
                              revert v_332
                              intro v_335 hF_334; obtain rfl : .bool y_108.2.1 = v_335 := Eq.symm hF_334
                              replace S1 := S1.put (by decide : 92 < 127) (.bool y_108.2.1)
                              refine fill_nil S1 ?_; clear S1; intro a_ S1
                              rw [show y_108.2.1 = false from hl1] at S1
                              have S0 := S.defers; replace S := S1; clear S1
                              refine wl_pure (l' := [(100, undef), (92, .bool false), (99, undef), (98, undef), (18, .int .i64 c_95), (17, .bool c_97), (16, .int .i64 c_79), (6, v_20), (11, v_59)]) S tys tys_ok 1 (by kernel_rfl) ?_; clear S; intro a S
                              refine wpList_nil ?_
                              exact RPost.mk_ S rfl S0 ⟨fun _ => ⟨fun k_ => absurd k_ hc1, fun _ => rfl⟩, fun k_ => absurd hc0 k_⟩ (Below.refl _ _)
                          · have hl0 : c_97 = true := (by simpa using hc0)
                            have S1 := S
                            intro v_336 hF_337
                            obtain rfl := cndF.neg hF_337 hc0
                            replace S1 := S1.put (by decide : 98 < 127) (undef)
                            intro v_338 hF_339
                            obtain rfl := cndF.neg hF_339 hc0
                            replace S1 := S1.put (by decide : 99 < 127) (undef)
                            intro v_340 hF_341
                            obtain rfl := cndF.neg hF_341 hc0
                            replace S1 := S1.put (by decide : 92 < 127) (undef)
                            refine fill_nil S1 ?_; clear S1; intro a_ S1
                            have S0 := S.defers; replace S := S1; clear S1
                            refine wl_pure (l' := [(100, undef), (92, undef), (99, undef), (98, undef), (18, .int .i64 c_95), (17, .bool c_97), (16, .int .i64 c_79), (6, v_20), (11, v_59)]) S tys tys_ok 1 (by kernel_rfl) ?_; clear S; intro a S
                            refine wpList_nil ?_
                            exact RPost.mk_ S rfl S0 ⟨fun k_ => absurd k_ hc0, fun _ => rfl⟩ (Below.refl _ _)
                        refine RunAll.cons (cndF c_97 false (cndF y_108.2.1 true (isEl (.sl (.int .u8)) (Kx K w.heap.size []) y_122.1))) [(cndF c_97 false (cndF y_108.2.1 true (isEl gt2 (Kx K w.heap.size []) y_122)), 100), (cndF c_97 false (eqv (.bool y_108.2.1)), 92)] rfl rfl ?_ ?_
                        · intro W_ hW
                          by_cases hc0 : c_97 = false
                          · have hl0 : c_97 = false := hc0
                            by_cases hc1 : y_108.2.1 = true
                            · have hl1 : y_108.2.1 = true := hc1
                              have S1 := S
                              intro v_342 hF_343
                              replace hF_343 := cndF.pos hF_343 hc0
                              replace hF_343 := cndF.pos hF_343 hc1
                              revert hF_343
                              revert v_342
                              rintro _ ⟨p_346, rfl, R_347, H_348⟩
                              replace S1 := S1.put (by decide : 100 < 127) (.pointer (some p_346))
                              intro v_349 hF_350
                              replace hF_350 := cndF.pos hF_350 hc0
                              revert hF_350
                              revert v_349
                              intro v_352 hF_351; obtain rfl : .bool y_108.2.1 = v_352 := Eq.symm hF_351
                              replace S1 := S1.put (by decide : 92 < 127) (.bool y_108.2.1)
                              refine fill_nil S1 ?_; clear S1; intro a_ S1
                              rw [show y_108.2.1 = true from hl1] at S1
                              have S0 := S.defers; replace S := S1; clear S1
                              refine wl_pure (l' := [(101, .pointer (some (p_346.add (coff gf2 0)))), (92, .bool true), (100, .pointer (some p_346)), (18, .int .i64 c_95), (17, .bool c_97), (16, .int .i64 c_79), (6, v_20), (11, v_59)]) S tys tys_ok 1 (by kernel_rfl) ?_; clear S; intro a S
                              refine wpList_nil ?_
                              exact RPost.mk_ S rfl S0 ⟨fun _ => ⟨fun _ => ⟨_, rfl, (RepAt.add 0 (RepAt.st (t := gf2) R_347)), (by simpa [Addr.add] using H_348)⟩, fun k_ => absurd hc1 k_⟩, fun k_ => absurd hc0 k_⟩ (Below.refl _ _)
                            · have hl1 : y_108.2.1 = false := Bool.eq_false_iff.2 hc1
                              have S1 := S
                              intro v_353 hF_354
                              replace hF_354 := cndF.pos hF_354 hc0
                              obtain rfl := cndF.neg hF_354 hc1
                              replace S1 := S1.put (by decide : 100 < 127) (undef)
                              intro v_355 hF_356
                              replace hF_356 := cndF.pos hF_356 hc0
                              revert hF_356
                              revert v_355
                              intro v_358 hF_357; obtain rfl : .bool y_108.2.1 = v_358 := Eq.symm hF_357
                              replace S1 := S1.put (by decide : 92 < 127) (.bool y_108.2.1)
                              refine fill_nil S1 ?_; clear S1; intro a_ S1
                              rw [show y_108.2.1 = false from hl1] at S1
                              have S0 := S.defers; replace S := S1; clear S1
                              refine wl_pure (l' := [(101, undef), (92, .bool false), (100, undef), (18, .int .i64 c_95), (17, .bool c_97), (16, .int .i64 c_79), (6, v_20), (11, v_59)]) S tys tys_ok 1 (by kernel_rfl) ?_; clear S; intro a S
                              refine wpList_nil ?_
                              exact RPost.mk_ S rfl S0 ⟨fun _ => ⟨fun k_ => absurd k_ hc1, fun _ => rfl⟩, fun k_ => absurd hc0 k_⟩ (Below.refl _ _)
                          · have hl0 : c_97 = true := (by simpa using hc0)
                            have S1 := S
                            intro v_359 hF_360
                            obtain rfl := cndF.neg hF_360 hc0
                            replace S1 := S1.put (by decide : 100 < 127) (undef)
                            intro v_361 hF_362
                            obtain rfl := cndF.neg hF_362 hc0
                            replace S1 := S1.put (by decide : 92 < 127) (undef)
                            refine fill_nil S1 ?_; clear S1; intro a_ S1
                            have S0 := S.defers; replace S := S1; clear S1
                            refine wl_pure (l' := [(101, undef), (92, undef), (100, undef), (18, .int .i64 c_95), (17, .bool c_97), (16, .int .i64 c_79), (6, v_20), (11, v_59)]) S tys tys_ok 1 (by kernel_rfl) ?_; clear S; intro a S
                            refine wpList_nil ?_
                            exact RPost.mk_ S rfl S0 ⟨fun k_ => absurd k_ hc0, fun _ => rfl⟩ (Below.refl _ _)
                        refine RunAll.cons (cndF c_97 false (cndF y_108.2.1 true (isRep (.sl (.int .u8)) (Kx K w.heap.size []) y_122.1))) [(cndF c_97 false (cndF y_108.2.1 true (isEl (.sl (.int .u8)) (Kx K w.heap.size []) y_122.1)), 101), (cndF c_97 false (eqv (.bool y_108.2.1)), 92)] rfl rfl ?_ ?_
                        · intro W_ hW
                          by_cases hc0 : c_97 = false
                          · have hl0 : c_97 = false := hc0
                            by_cases hc1 : y_108.2.1 = true
                            · have hl1 : y_108.2.1 = true := hc1
                              have S1 := S
                              intro v_363 hF_364
                              replace hF_364 := cndF.pos hF_364 hc0
                              replace hF_364 := cndF.pos hF_364 hc1
                              revert hF_364
                              revert v_363
                              rintro _ ⟨p_367, rfl, R_368, H_369⟩
                              replace S1 := S1.put (by decide : 101 < 127) (.pointer (some p_367))
                              intro v_370 hF_371
                              replace hF_371 := cndF.pos hF_371 hc0
                              revert hF_371
                              revert v_370
                              intro v_373 hF_372; obtain rfl : .bool y_108.2.1 = v_373 := Eq.symm hF_372
                              replace S1 := S1.put (by decide : 92 < 127) (.bool y_108.2.1)
                              refine fill_nil S1 ?_; clear S1; intro a_ S1
                              rw [show y_108.2.1 = true from hl1] at S1
                              have S0 := S.defers; replace S := S1; clear S1
                              obtain ⟨ey_108, eq_114, _⟩ := (HG_107).1 hc0
                              obtain ⟨ey_116, ey_122, et_128, _⟩ := (HG_115 hc0).1 hc1
                              refine w_go S rfl (op_load (t := (.sl (.int .u8))) (x := y_122.1) S rfl ty35 rfl rfl rfl R_368 ?_)
                              clear S; intro a v_374 R_375 S
                              refine wpList_nil ?_
                              exact RPost.mk_ S rfl S0 ⟨fun _ => ⟨fun _ => R_375, fun k_ => absurd hc1 k_⟩, fun k_ => absurd hc0 k_⟩ (Below.refl _ _)
                            · have hl1 : y_108.2.1 = false := Bool.eq_false_iff.2 hc1
                              have S1 := S
                              intro v_376 hF_377
                              replace hF_377 := cndF.pos hF_377 hc0
                              obtain rfl := cndF.neg hF_377 hc1
                              replace S1 := S1.put (by decide : 101 < 127) (undef)
                              intro v_378 hF_379
                              replace hF_379 := cndF.pos hF_379 hc0
                              revert hF_379
                              revert v_378
                              intro v_381 hF_380; obtain rfl : .bool y_108.2.1 = v_381 := Eq.symm hF_380
                              replace S1 := S1.put (by decide : 92 < 127) (.bool y_108.2.1)
                              refine fill_nil S1 ?_; clear S1; intro a_ S1
                              rw [show y_108.2.1 = false from hl1] at S1
                              have S0 := S.defers; replace S := S1; clear S1
                              refine wl_pure (l' := [(102, undef), (92, .bool false), (101, undef), (18, .int .i64 c_95), (17, .bool c_97), (16, .int .i64 c_79), (6, v_20), (11, v_59)]) S tys tys_ok 1 (by kernel_rfl) ?_; clear S; intro a S
                              refine wpList_nil ?_
                              exact RPost.mk_ S rfl S0 ⟨fun _ => ⟨fun k_ => absurd k_ hc1, fun _ => rfl⟩, fun k_ => absurd hc0 k_⟩ (Below.refl _ _)
                          · have hl0 : c_97 = true := (by simpa using hc0)
                            have S1 := S
                            intro v_382 hF_383
                            obtain rfl := cndF.neg hF_383 hc0
                            replace S1 := S1.put (by decide : 101 < 127) (undef)
                            intro v_384 hF_385
                            obtain rfl := cndF.neg hF_385 hc0
                            replace S1 := S1.put (by decide : 92 < 127) (undef)
                            refine fill_nil S1 ?_; clear S1; intro a_ S1
                            have S0 := S.defers; replace S := S1; clear S1
                            refine wl_pure (l' := [(102, undef), (92, undef), (101, undef), (18, .int .i64 c_95), (17, .bool c_97), (16, .int .i64 c_79), (6, v_20), (11, v_59)]) S tys tys_ok 1 (by kernel_rfl) ?_; clear S; intro a S
                            refine wpList_nil ?_
                            exact RPost.mk_ S rfl S0 ⟨fun k_ => absurd k_ hc0, fun _ => rfl⟩ (Below.refl _ _)
                        refine RunAll.cons (cndF c_97 false (cndF y_108.2.1 true (eqv (.bool t_128)))) [(cndF c_97 false (cndF y_108.2.1 true (isRep (.sl (.int .u8)) (Kx K w.heap.size []) y_116.1)), 97), (cndF c_97 false (cndF y_108.2.1 true (isRep (.sl (.int .u8)) (Kx K w.heap.size []) y_122.1)), 102), (cndF c_97 false (eqv (.bool y_108.2.1)), 92)] rfl rfl ?_ ?_
                        · intro W_ hW
                          by_cases hc0 : c_97 = false
                          · have hl0 : c_97 = false := hc0
                            by_cases hc1 : y_108.2.1 = true
                            · have hl1 : y_108.2.1 = true := hc1
                              have S1 := S
                              intro v_386 hF_387
                              replace hF_387 := cndF.pos hF_387 hc0
                              replace hF_387 := cndF.pos hF_387 hc1
                              revert hF_387
                              revert v_386
                              intro v_389 hF_388; replace hF_388 : RepV _ _ _ _ _ := hF_388
                              replace S1 := S1.put (by decide : 97 < 127) (v_389)
                              intro v_390 hF_391
                              replace hF_391 := cndF.pos hF_391 hc0
                              replace hF_391 := cndF.pos hF_391 hc1
                              revert hF_391
                              revert v_390
                              intro v_393 hF_392; replace hF_392 : RepV _ _ _ _ _ := hF_392
                              replace S1 := S1.put (by decide : 102 < 127) (v_393)
                              intro v_394 hF_395
                              replace hF_395 := cndF.pos hF_395 hc0
                              revert hF_395
                              revert v_394
                              intro v_397 hF_396; obtain rfl : .bool y_108.2.1 = v_397 := Eq.symm hF_396
                              replace S1 := S1.put (by decide : 92 < 127) (.bool y_108.2.1)
                              refine fill_nil S1 ?_; clear S1; intro a_ S1
                              replace W := W.step hW
                              rw [show y_108.2.1 = true from hl1] at S1
                              have S0 := S.defers; replace S := S1; clear S1
                              obtain ⟨ey_108, eq_114, _⟩ := (HG_107).1 hc0
                              obtain ⟨ey_116, ey_122, et_128, _⟩ := (HG_115 hc0).1 hc1
                              refine w_go S rfl (op_call (vs := [v_389, v_393]) S rfl cb11 rfl rfl rfl (c11 (Kx K w.heap.size []) n W_ y_116.1 _ hF_388 y_122.1 _ hF_392 et_128) ?_)
                              rintro _ w_401 ⟨v_398, rfl, R_399, hb_400⟩; refine ⟨_, rfl, ?_⟩
                              replace R_399 := RepV.back R_399 W
                              clear S; intro a S
                              obtain rfl := RepV.bool R_399
                              refine wpList_nil ?_
                              exact RPost.mk_ S rfl S0 ⟨fun _ => ⟨fun _ => rfl, fun k_ => absurd hc1 k_⟩, fun k_ => absurd hc0 k_⟩ (hb_400)
                            · have hl1 : y_108.2.1 = false := Bool.eq_false_iff.2 hc1
                              have S1 := S
                              intro v_402 hF_403
                              replace hF_403 := cndF.pos hF_403 hc0
                              obtain rfl := cndF.neg hF_403 hc1
                              replace S1 := S1.put (by decide : 97 < 127) (undef)
                              intro v_404 hF_405
                              replace hF_405 := cndF.pos hF_405 hc0
                              obtain rfl := cndF.neg hF_405 hc1
                              replace S1 := S1.put (by decide : 102 < 127) (undef)
                              intro v_406 hF_407
                              replace hF_407 := cndF.pos hF_407 hc0
                              revert hF_407
                              revert v_406
                              intro v_409 hF_408; obtain rfl : .bool y_108.2.1 = v_409 := Eq.symm hF_408
                              replace S1 := S1.put (by decide : 92 < 127) (.bool y_108.2.1)
                              refine fill_nil S1 ?_; clear S1; intro a_ S1
                              rw [show y_108.2.1 = false from hl1] at S1
                              have S0 := S.defers; replace S := S1; clear S1
                              refine wl_pure (l' := [(103, undef), (92, .bool false), (102, undef), (97, undef), (18, .int .i64 c_95), (17, .bool c_97), (16, .int .i64 c_79), (6, v_20), (11, v_59)]) S tys tys_ok 1 (by kernel_rfl) ?_; clear S; intro a S
                              refine wpList_nil ?_
                              exact RPost.mk_ S rfl S0 ⟨fun _ => ⟨fun k_ => absurd k_ hc1, fun _ => rfl⟩, fun k_ => absurd hc0 k_⟩ (Below.refl _ _)
                          · have hl0 : c_97 = true := (by simpa using hc0)
                            have S1 := S
                            intro v_410 hF_411
                            obtain rfl := cndF.neg hF_411 hc0
                            replace S1 := S1.put (by decide : 97 < 127) (undef)
                            intro v_412 hF_413
                            obtain rfl := cndF.neg hF_413 hc0
                            replace S1 := S1.put (by decide : 102 < 127) (undef)
                            intro v_414 hF_415
                            obtain rfl := cndF.neg hF_415 hc0
                            replace S1 := S1.put (by decide : 92 < 127) (undef)
                            refine fill_nil S1 ?_; clear S1; intro a_ S1
                            have S0 := S.defers; replace S := S1; clear S1
                            refine wl_pure (l' := [(103, undef), (92, undef), (102, undef), (97, undef), (18, .int .i64 c_95), (17, .bool c_97), (16, .int .i64 c_79), (6, v_20), (11, v_59)]) S tys tys_ok 1 (by kernel_rfl) ?_; clear S; intro a S
                            refine wpList_nil ?_
                            exact RPost.mk_ S rfl S0 ⟨fun k_ => absurd k_ hc0, fun _ => rfl⟩ (Below.refl _ _)
                        refine RunAll.cons (cndF c_97 false (eqv (.bool q_114))) [(cndF c_97 false (eqv (.bool y_108.2.1)), 92), (cndF c_97 false (cndF y_108.2.1 true (eqv (.bool t_128))), 103), (eqv (.bool c_97), 86)] rfl rfl ?_ ?_
                        · intro W_ hW
                          by_cases hc0 : c_97 = false
                          · have hl0 : c_97 = false := hc0
                            by_cases hc1 : y_108.2.1 = true
                            · have hl1 : y_108.2.1 = true := hc1
                              have S1 := S
                              intro v_416 hF_417
                              replace hF_417 := cndF.pos hF_417 hc0
                              revert hF_417
                              revert v_416
                              intro v_419 hF_418; obtain rfl : .bool y_108.2.1 = v_419 := Eq.symm hF_418
                              replace S1 := S1.put (by decide : 92 < 127) (.bool y_108.2.1)
                              intro v_420 hF_421
                              replace hF_421 := cndF.pos hF_421 hc0
                              replace hF_421 := cndF.pos hF_421 hc1
                              revert hF_421
                              revert v_420
                              intro v_423 hF_422; obtain rfl : .bool t_128 = v_423 := Eq.symm hF_422
                              replace S1 := S1.put (by decide : 103 < 127) (.bool t_128)
                              intro v_425 hF_424; obtain rfl : .bool c_97 = v_425 := Eq.symm hF_424
                              replace S1 := S1.put (by decide : 86 < 127) (.bool c_97)
                              refine fill_nil S1 ?_; clear S1; intro a_ S1
                              rw [show c_97 = false from hl0] at S1
                              rw [show y_108.2.1 = true from hl1] at S1
                              have S0 := S.defers; replace S := S1; clear S1
                              refine wl_pure (l' := [(104, .bool t_128), (86, .bool false), (103, .bool t_128), (92, .bool true), (18, .int .i64 c_95), (17, .bool false), (16, .int .i64 c_79), (6, v_20), (11, v_59)]) S tys tys_ok 1 (by kernel_rfl) ?_; clear S; intro a S
                              refine wpList_nil ?_
                              exact RPost.mk_ S rfl S0 ⟨fun _ => (congrArg Value.bool ((HG_115 hc0).1 hc1).2.2.2), fun k_ => absurd hc0 k_⟩ (Below.refl _ _)
                            · have hl1 : y_108.2.1 = false := Bool.eq_false_iff.2 hc1
                              have S1 := S
                              intro v_426 hF_427
                              replace hF_427 := cndF.pos hF_427 hc0
                              revert hF_427
                              revert v_426
                              intro v_429 hF_428; obtain rfl : .bool y_108.2.1 = v_429 := Eq.symm hF_428
                              replace S1 := S1.put (by decide : 92 < 127) (.bool y_108.2.1)
                              intro v_430 hF_431
                              replace hF_431 := cndF.pos hF_431 hc0
                              obtain rfl := cndF.neg hF_431 hc1
                              replace S1 := S1.put (by decide : 103 < 127) (undef)
                              intro v_433 hF_432; obtain rfl : .bool c_97 = v_433 := Eq.symm hF_432
                              replace S1 := S1.put (by decide : 86 < 127) (.bool c_97)
                              refine fill_nil S1 ?_; clear S1; intro a_ S1
                              rw [show c_97 = false from hl0] at S1
                              rw [show y_108.2.1 = false from hl1] at S1
                              have S0 := S.defers; replace S := S1; clear S1
                              refine wl_pure (l' := [(104, .bool false), (86, .bool false), (103, undef), (92, .bool false), (18, .int .i64 c_95), (17, .bool false), (16, .int .i64 c_79), (6, v_20), (11, v_59)]) S tys tys_ok 1 (by kernel_rfl) ?_; clear S; intro a S
                              refine wpList_nil ?_
                              exact RPost.mk_ S rfl S0 ⟨fun _ => (congrArg Value.bool ((HG_115 hc0).2 hc1)), fun k_ => absurd hc0 k_⟩ (Below.refl _ _)
                          · have hl0 : c_97 = true := (by simpa using hc0)
                            have S1 := S
                            intro v_434 hF_435
                            obtain rfl := cndF.neg hF_435 hc0
                            replace S1 := S1.put (by decide : 92 < 127) (undef)
                            intro v_436 hF_437
                            obtain rfl := cndF.neg hF_437 hc0
                            replace S1 := S1.put (by decide : 103 < 127) (undef)
                            intro v_439 hF_438; obtain rfl : .bool c_97 = v_439 := Eq.symm hF_438
                            replace S1 := S1.put (by decide : 86 < 127) (.bool c_97)
                            refine fill_nil S1 ?_; clear S1; intro a_ S1
                            rw [show c_97 = true from hl0] at S1
                            have S0 := S.defers; replace S := S1; clear S1
                            refine wl_pure (l' := [(104, undef), (86, .bool true), (103, undef), (92, undef), (18, .int .i64 c_95), (17, .bool true), (16, .int .i64 c_79), (6, v_20), (11, v_59)]) S tys tys_ok 1 (by kernel_rfl) ?_; clear S; intro a S
                            refine wpList_nil ?_
                            exact RPost.mk_ S rfl S0 ⟨fun k_ => absurd k_ hc0, fun _ => rfl⟩ (Below.refl _ _)
                        refine RunAll.cons (eqv (.bool q_106)) [(eqv (.bool c_97), 86), (cndF c_97 false (eqv (.bool q_114)), 104)] rfl rfl ?_ ?_
                        · intro W_ hW
                          by_cases hc0 : c_97 = false
                          · have hl0 : c_97 = false := hc0
                            have S1 := S
                            intro v_441 hF_440; obtain rfl : .bool c_97 = v_441 := Eq.symm hF_440
                            replace S1 := S1.put (by decide : 86 < 127) (.bool c_97)
                            intro v_442 hF_443
                            replace hF_443 := cndF.pos hF_443 hc0
                            revert hF_443
                            revert v_442
                            intro v_445 hF_444; obtain rfl : .bool q_114 = v_445 := Eq.symm hF_444
                            replace S1 := S1.put (by decide : 104 < 127) (.bool q_114)
                            refine fill_nil S1 ?_; clear S1; intro a_ S1
                            rw [show c_97 = false from hl0] at S1
                            have S0 := S.defers; replace S := S1; clear S1
                            refine wl_pure (l' := [(105, .bool q_114), (104, .bool q_114), (86, .bool false), (18, .int .i64 c_95), (17, .bool false), (16, .int .i64 c_79), (6, v_20), (11, v_59)]) S tys tys_ok 1 (by kernel_rfl) ?_; clear S; intro a S
                            refine wpList_nil ?_
                            exact RPost.mk_ S rfl S0 (congrArg Value.bool ((HG_107).1 hc0).2.2) (Below.refl _ _)
                          · have hl0 : c_97 = true := (by simpa using hc0)
                            have S1 := S
                            intro v_447 hF_446; obtain rfl : .bool c_97 = v_447 := Eq.symm hF_446
                            replace S1 := S1.put (by decide : 86 < 127) (.bool c_97)
                            intro v_448 hF_449
                            obtain rfl := cndF.neg hF_449 hc0
                            replace S1 := S1.put (by decide : 104 < 127) (undef)
                            refine fill_nil S1 ?_; clear S1; intro a_ S1
                            rw [show c_97 = true from hl0] at S1
                            have S0 := S.defers; replace S := S1; clear S1
                            refine wl_pure (l' := [(105, .bool true), (104, undef), (86, .bool true), (18, .int .i64 c_95), (17, .bool true), (16, .int .i64 c_79), (6, v_20), (11, v_59)]) S tys tys_ok 1 (by kernel_rfl) ?_; clear S; intro a S
                            refine wpList_nil ?_
                            exact RPost.mk_ S rfl S0 (congrArg Value.bool ((HG_107).2 hc0)) (Below.refl _ _)
                        exact trivial
                      intro w_450 hb_451
                      refine EndE.some_ rfl ?_
                      intro v_453 hF_452; obtain rfl : .bool c_97 = v_453 := Eq.symm hF_452
                      replace S := S.put (by decide : 85 < 127) (.bool c_97)
                      refine EndE.some_ rfl ?_
                      intro v_455 hF_454; obtain rfl : .bool c_97 = v_455 := Eq.symm hF_454
                      replace S := S.put (by decide : 86 < 127) (.bool c_97)
                      refine EndE.some_ rfl ?_
                      intro v_456 _
                      replace S := S.put (by decide : 87 < 127) (v_456)
                      refine EndE.some_ rfl ?_
                      intro v_457 _
                      replace S := S.put (by decide : 88 < 127) (v_457)
                      refine EndE.some_ rfl ?_
                      intro v_458 _
                      replace S := S.put (by decide : 89 < 127) (v_458)
                      refine EndE.some_ rfl ?_
                      intro v_459 _
                      replace S := S.put (by decide : 90 < 127) (v_459)
                      refine EndE.some_ rfl ?_
                      intro v_460 _
                      replace S := S.put (by decide : 91 < 127) (v_460)
                      refine EndE.some_ rfl ?_
                      intro v_461 _
                      replace S := S.put (by decide : 92 < 127) (v_461)
                      refine EndE.some_ rfl ?_
                      intro v_462 _
                      replace S := S.put (by decide : 93 < 127) (v_462)
                      refine EndE.some_ rfl ?_
                      intro v_463 _
                      replace S := S.put (by decide : 94 < 127) (v_463)
                      refine EndE.some_ rfl ?_
                      intro v_464 _
                      replace S := S.put (by decide : 95 < 127) (v_464)
                      refine EndE.some_ rfl ?_
                      intro v_465 _
                      replace S := S.put (by decide : 96 < 127) (v_465)
                      refine EndE.some_ rfl ?_
                      intro v_466 _
                      replace S := S.put (by decide : 97 < 127) (v_466)
                      refine EndE.some_ rfl ?_
                      intro v_467 _
                      replace S := S.put (by decide : 98 < 127) (v_467)
                      refine EndE.some_ rfl ?_
                      intro v_468 _
                      replace S := S.put (by decide : 99 < 127) (v_468)
                      refine EndE.some_ rfl ?_
                      intro v_469 _
                      replace S := S.put (by decide : 100 < 127) (v_469)
                      refine EndE.some_ rfl ?_
                      intro v_470 _
                      replace S := S.put (by decide : 101 < 127) (v_470)
                      refine EndE.some_ rfl ?_
                      intro v_471 _
                      replace S := S.put (by decide : 102 < 127) (v_471)
                      refine EndE.some_ rfl ?_
                      intro v_472 _
                      replace S := S.put (by decide : 103 < 127) (v_472)
                      refine EndE.some_ rfl ?_
                      intro v_473 _
                      replace S := S.put (by decide : 104 < 127) (v_473)
                      refine EndE.some_ rfl ?_
                      intro v_475 hF_474; obtain rfl : .bool q_106 = v_475 := Eq.symm hF_474
                      replace S := S.put (by decide : 105 < 127) (.bool q_106)
                      refine endE_nil S ?_; clear S; intro a S
                      replace R_21 := R_21.step hb_451
                      replace R_60 := R_60.step hb_451
                      replace W := W.step hb_451
                      refine wl_pureK (l' := [(17, .bool q_106), (18, .int .i64 c_95), (17, .bool c_97), (16, .int .i64 c_79), (6, v_20), (11, v_59)]) S tys tys_ok 1 [17, 18, 16, 6, 11] (by kernel_rfl) ?_
                      clear S; intro a S
                      refine wpList_nil ?_
                      refine blk_n ?_
                      refine then_n ?_
                      refine wp_region_lit ?_
                      refine wl_pure (l' := [(83, .int .i64 c_95), (17, .bool q_106), (18, .int .i64 c_95), (17, .bool c_97), (16, .int .i64 c_79), (6, v_20), (11, v_59)]) S tys tys_ok 1 (by kernel_rfl) ?_
                      clear S; intro a S
                      obtain ⟨x_476, ex_476, hl_103⟩ := bindS hl_103
                      refine w_go S rfl (op_arith S .i64 (c_95 + 1) rfl (.inl rfl) rfl rfl rfl rfl ex_476 ?_)
                      clear S; intro a S
                      refine wl_pure (l' := [(18, .int .i64 x_476), (84, .int .i64 x_476), (83, .int .i64 c_95), (17, .bool q_106), (18, .int .i64 c_95), (17, .bool c_97), (16, .int .i64 c_79), (6, v_20), (11, v_59)]) S tys tys_ok 1 (by kernel_rfl) ?_
                      clear S; intro a S
                      refine wpList_nil ?_
                      refine then_n ?_
                      exact ⟨x_476, q_106, ⟨S.sub (by exact ⟨rfl, rfl, rfl, rfl, rfl, trivial⟩), W, (ckI_some ex_476).2.1, R_21, R_60, hl_103⟩⟩
                    · intro hc
                      rw [if_neg (Bool.eq_false_iff.1 hc)] at hl_103
                      refine wp_exit ?_
                      refine then_x ?_
                      refine then_x ?_
                      refine blk_hit ?_
                      refine then_n ?_
                      obtain rfl := Option.some.inj hl_103
                      exact ⟨S.sub (by exact ⟨rfl, rfl, rfl, rfl, trivial⟩), W, R_21, R_60⟩
              clear S W; rintro a w_477 ⟨S, W, R_21, R_60⟩
              refine then_n ?_
              refine wp_seq ?_
              obtain ⟨y_478, ey_478, hl_86⟩ := bindS hl_86
              obtain ⟨q_484, eq_484, hl_86⟩ := bindS hl_86
              obtain ⟨y_486, y_492, HG_485⟩ : ∃ (y_486 : (Sl (Int)) × Bool × Bool × Bool × Int) (y_492 : (Sl (Int)) × Bool × Bool × Bool × Int) , ((y_478.2.2.2.1 == y_101) = false → (idx s_58.xs c_79) = some y_486 ∧ (idx y_19.xs c_79) = some y_492 ∧ (!(y_486.2.1 == y_492.2.1)) = q_484) ∧ (¬ (y_478.2.2.2.1 == y_101) = false → true = q_484) := by
                by_cases hc : (y_478.2.2.2.1 == y_101) = false
                · rw [if_pos hc] at eq_484
                  obtain ⟨y_486, ey_486, eq_484⟩ := bindS eq_484
                  obtain ⟨y_492, ey_492, eq_484⟩ := bindS eq_484
                  exact ⟨y_486, y_492, ⟨fun _ => ⟨ey_486, ey_492, Option.some.inj eq_484⟩, fun k_ => absurd hc k_⟩⟩
                · rw [if_neg hc] at eq_484
                  exact ⟨default, default, ⟨fun k_ => absurd k_ hc, fun _ => Option.some.inj eq_484⟩⟩
              have hR : Rel (Kx K w.heap.size []) Bl := Bl.rel _
              refine wp_region_all hR [isRep (.sl gt2) (Kx K w.heap.size []) s_58, isI .i64 c_79, isEl gt2 (Kx K w.heap.size []) y_478, isEl .bool (Kx K w.heap.size []) y_478.2.2.2.1, eqv (.bool y_478.2.2.2.1), eqv (.bool y_101), eqv (.bool (y_478.2.2.2.1 == y_101)), eqv (.bool (y_478.2.2.2.1 == y_101)), cndF (y_478.2.2.2.1 == y_101) false (isRep (.sl gt2) (Kx K w.heap.size []) s_58), cndF (y_478.2.2.2.1 == y_101) false (isI .i64 c_79), cndF (y_478.2.2.2.1 == y_101) false (isEl gt2 (Kx K w.heap.size []) y_486), cndF (y_478.2.2.2.1 == y_101) false (isEl .bool (Kx K w.heap.size []) y_486.2.1), cndF (y_478.2.2.2.1 == y_101) false (eqv (.bool y_486.2.1)), cndF (y_478.2.2.2.1 == y_101) false (isRep (.sl gt2) (Kx K w.heap.size []) y_19), cndF (y_478.2.2.2.1 == y_101) false (isI .i64 c_79), cndF (y_478.2.2.2.1 == y_101) false (isEl gt2 (Kx K w.heap.size []) y_492), cndF (y_478.2.2.2.1 == y_101) false (isEl .bool (Kx K w.heap.size []) y_492.2.1), cndF (y_478.2.2.2.1 == y_101) false (eqv (.bool y_492.2.1)), cndF (y_478.2.2.2.1 == y_101) false (eqv (.bool (!(y_486.2.1 == y_492.2.1)))), eqv (.bool q_484)] [[], [], [(0, 106), (1, 107)], [(2, 108)], [(3, 109)], [], [(4, 110), (5, 111)], [(6, 112)], [(7, 113)], [(7, 113)], [(8, 114), (9, 115), (7, 113)], [(10, 116), (7, 113)], [(11, 117), (7, 113)], [(7, 113)], [(7, 113)], [(13, 119), (14, 120), (7, 113)], [(15, 121), (7, 113)], [(16, 122), (7, 113)], [(12, 118), (17, 123), (7, 113)], [(7, 113), (18, 124)]] (by kernel_rfl) (by rw [S.size]; kernel_rfl) (by kernel_rfl) (by kernel_rfl) rfl ⟨(stab_rep hR), stab_I, (stab_el hR), (stab_el hR), (stab_eqv _), (stab_eqv _), (stab_eqv _), (stab_eqv _), (stab_cnd (stab_rep hR)), (stab_cnd stab_I), (stab_cnd (stab_el hR)), (stab_cnd (stab_el hR)), (stab_cnd (stab_eqv _)), (stab_cnd (stab_rep hR)), (stab_cnd stab_I), (stab_cnd (stab_el hR)), (stab_cnd (stab_el hR)), (stab_cnd (stab_eqv _)), (stab_cnd (stab_eqv _)), (stab_eqv _), trivial⟩ ?_ ?_
              ·
                refine RunAll.cons (isRep (.sl gt2) (Kx K w.heap.size []) s_58) [] rfl rfl ?_ ?_
                · intro W_ hW
                  have S1 := S
                  refine fill_nil S1 ?_; clear S1; intro a_ S1
                  replace R_60 := R_60.step hW
                  have S0 := S.defers; replace S := S1; clear S1
                  refine wl_pure (l' := [(106, v_59), (6, v_20), (11, v_59), (16, .int .i64 c_79), (17, .bool y_101)]) S tys tys_ok 1 (by kernel_rfl) ?_; clear S; intro a S
                  refine wpList_nil ?_
                  exact RPost.mk_ S rfl S0 R_60 (Below.refl _ _)
                refine RunAll.cons (isI .i64 c_79) [] rfl rfl ?_ ?_
                · intro W_ hW
                  have S1 := S
                  refine fill_nil S1 ?_; clear S1; intro a_ S1
                  have S0 := S.defers; replace S := S1; clear S1
                  refine wl_pure (l' := [(107, .int .i64 c_79), (6, v_20), (11, v_59), (16, .int .i64 c_79), (17, .bool y_101)]) S tys tys_ok 1 (by kernel_rfl) ?_; clear S; intro a S
                  refine wpList_nil ?_
                  exact RPost.mk_ S rfl S0 ⟨rfl, G_80⟩ (Below.refl _ _)
                refine RunAll.cons (isEl gt2 (Kx K w.heap.size []) y_478) [(isRep (.sl gt2) (Kx K w.heap.size []) s_58, 106), (isI .i64 c_79, 107)] rfl rfl ?_ ?_
                · intro W_ hW
                  have S1 := S
                  intro v_499 hF_498; replace hF_498 : RepV _ _ _ _ _ := hF_498
                  replace S1 := S1.put (by decide : 106 < 127) (v_499)
                  rintro _ ⟨rfl, hF_500⟩
                  replace S1 := S1.put (by decide : 107 < 127) (.int .i64 c_79)
                  refine fill_nil S1 ?_; clear S1; intro a_ S1
                  replace W := W.step hW
                  have S0 := S.defers; replace S := S1; clear S1
                  refine w_go S rfl (op_indexAddr S rfl ty25 rfl rfl rfl hF_498 rfl ey_478 ?_)
                  clear S; intro a p_502 R_503 H_504 S
                  refine wpList_nil ?_
                  exact RPost.mk_ S rfl S0 ⟨_, rfl, R_503, H_504⟩ (Below.refl _ _)
                refine RunAll.cons (isEl .bool (Kx K w.heap.size []) y_478.2.2.2.1) [(isEl gt2 (Kx K w.heap.size []) y_478, 108)] rfl rfl ?_ ?_
                · intro W_ hW
                  have S1 := S
                  rintro _ ⟨p_507, rfl, R_508, H_509⟩
                  replace S1 := S1.put (by decide : 108 < 127) (.pointer (some p_507))
                  refine fill_nil S1 ?_; clear S1; intro a_ S1
                  have S0 := S.defers; replace S := S1; clear S1
                  refine wl_pure (l' := [(109, .pointer (some (p_507.add (coff gf2 3)))), (108, .pointer (some p_507)), (6, v_20), (11, v_59), (16, .int .i64 c_79), (17, .bool y_101)]) S tys tys_ok 1 (by kernel_rfl) ?_; clear S; intro a S
                  refine wpList_nil ?_
                  exact RPost.mk_ S rfl S0 ⟨_, rfl, (RepAt.add 3 (RepAt.st (t := gf2) R_508)), (by simpa [Addr.add] using H_509)⟩ (Below.refl _ _)
                refine RunAll.cons (eqv (.bool y_478.2.2.2.1)) [(isEl .bool (Kx K w.heap.size []) y_478.2.2.2.1, 109)] rfl rfl ?_ ?_
                · intro W_ hW
                  have S1 := S
                  rintro _ ⟨p_512, rfl, R_513, H_514⟩
                  replace S1 := S1.put (by decide : 109 < 127) (.pointer (some p_512))
                  refine fill_nil S1 ?_; clear S1; intro a_ S1
                  have S0 := S.defers; replace S := S1; clear S1
                  refine w_go S rfl (op_load (t := .bool) (x := y_478.2.2.2.1) S rfl ty4 rfl rfl rfl R_513 ?_)
                  clear S; intro a v_515 R_516 S
                  obtain rfl := RepV.bool R_516
                  refine wpList_nil ?_
                  exact RPost.mk_ S rfl S0 rfl (Below.refl _ _)
                refine RunAll.cons (eqv (.bool y_101)) [] rfl rfl ?_ ?_
                · intro W_ hW
                  have S1 := S
                  refine fill_nil S1 ?_; clear S1; intro a_ S1
                  have S0 := S.defers; replace S := S1; clear S1
                  refine wl_pure (l' := [(111, .bool y_101), (6, v_20), (11, v_59), (16, .int .i64 c_79), (17, .bool y_101)]) S tys tys_ok 1 (by kernel_rfl) ?_; clear S; intro a S
                  refine wpList_nil ?_
                  exact RPost.mk_ S rfl S0 rfl (Below.refl _ _)
                refine RunAll.cons (eqv (.bool (y_478.2.2.2.1 == y_101))) [(eqv (.bool y_478.2.2.2.1), 110), (eqv (.bool y_101), 111)] rfl rfl ?_ ?_
                · intro W_ hW
                  have S1 := S
                  intro v_518 hF_517; obtain rfl : .bool y_478.2.2.2.1 = v_518 := Eq.symm hF_517
                  replace S1 := S1.put (by decide : 110 < 127) (.bool y_478.2.2.2.1)
                  intro v_520 hF_519; obtain rfl : .bool y_101 = v_520 := Eq.symm hF_519
                  replace S1 := S1.put (by decide : 111 < 127) (.bool y_101)
                  refine fill_nil S1 ?_; clear S1; intro a_ S1
                  have S0 := S.defers; replace S := S1; clear S1
                  refine wl_pure (l' := [(112, .bool (y_478.2.2.2.1 == y_101)), (111, .bool y_101), (110, .bool y_478.2.2.2.1), (6, v_20), (11, v_59), (16, .int .i64 c_79), (17, .bool y_101)]) S tys tys_ok 1 (by kernel_rfl) ?_; clear S; intro a S
                  refine wpList_nil ?_
                  exact RPost.mk_ S rfl S0 rfl (Below.refl _ _)
                refine RunAll.cons (eqv (.bool (y_478.2.2.2.1 == y_101))) [(eqv (.bool (y_478.2.2.2.1 == y_101)), 112)] rfl rfl ?_ ?_
                · intro W_ hW
                  have S1 := S
                  intro v_522 hF_521; obtain rfl : .bool (y_478.2.2.2.1 == y_101) = v_522 := Eq.symm hF_521
                  replace S1 := S1.put (by decide : 112 < 127) (.bool (y_478.2.2.2.1 == y_101))
                  refine fill_nil S1 ?_; clear S1; intro a_ S1
                  have S0 := S.defers; replace S := S1; clear S1
                  refine wl_pure (l' := [(113, .bool (y_478.2.2.2.1 == y_101)), (112, .bool (y_478.2.2.2.1 == y_101)), (6, v_20), (11, v_59), (16, .int .i64 c_79), (17, .bool y_101)]) S tys tys_ok 1 (by kernel_rfl) ?_; clear S; intro a S
                  refine wpList_nil ?_
                  exact RPost.mk_ S rfl S0 rfl (Below.refl _ _)
                refine RunAll.cons (cndF (y_478.2.2.2.1 == y_101) false (isRep (.sl gt2) (Kx K w.heap.size []) s_58)) [(eqv (.bool (y_478.2.2.2.1 == y_101)), 113)] rfl rfl ?_ ?_
                · intro W_ hW
                  by_cases hc0 : (y_478.2.2.2.1 == y_101) = false
                  · have hl0 : (y_478.2.2.2.1 == y_101) = false := hc0
                    have S1 := S
                    intro v_524 hF_523; obtain rfl : .bool (y_478.2.2.2.1 == y_101) = v_524 := Eq.symm hF_523
                    replace S1 := S1.put (by decide : 113 < 127) (.bool (y_478.2.2.2.1 == y_101))
                    refine fill_nil S1 ?_; clear S1; intro a_ S1
                    replace R_60 := R_60.step hW
                    rw [show (y_478.2.2.2.1 == y_101) = false from hl0] at S1
                    have S0 := S.defers; replace S := S1; clear S1
                    refine wl_pure (l' := [(114, v_59), (113, .bool false), (6, v_20), (11, v_59), (16, .int .i64 c_79), (17, .bool y_101)]) S tys tys_ok 1 (by kernel_rfl) ?_; clear S; intro a S
                    refine wpList_nil ?_
                    exact RPost.mk_ S rfl S0 ⟨fun _ => R_60, fun k_ => absurd hc0 k_⟩ (Below.refl _ _)
                  · have hl0 : (y_478.2.2.2.1 == y_101) = true := (by simpa using hc0)
                    have S1 := S
                    intro v_526 hF_525; obtain rfl : .bool (y_478.2.2.2.1 == y_101) = v_526 := Eq.symm hF_525
                    replace S1 := S1.put (by decide : 113 < 127) (.bool (y_478.2.2.2.1 == y_101))
                    refine fill_nil S1 ?_; clear S1; intro a_ S1
                    rw [show (y_478.2.2.2.1 == y_101) = true from hl0] at S1
                    have S0 := S.defers; replace S := S1; clear S1
                    refine wl_pure (l' := [(114, undef), (113, .bool true), (6, v_20), (11, v_59), (16, .int .i64 c_79), (17, .bool y_101)]) S tys tys_ok 1 (by kernel_rfl) ?_; clear S; intro a S
                    refine wpList_nil ?_
                    exact RPost.mk_ S rfl S0 ⟨fun k_ => absurd k_ hc0, fun _ => rfl⟩ (Below.refl _ _)
                refine RunAll.cons (cndF (y_478.2.2.2.1 == y_101) false (isI .i64 c_79)) [(eqv (.bool (y_478.2.2.2.1 == y_101)), 113)] rfl rfl ?_ ?_
                · intro W_ hW
                  by_cases hc0 : (y_478.2.2.2.1 == y_101) = false
                  · have hl0 : (y_478.2.2.2.1 == y_101) = false := hc0
                    have S1 := S
                    intro v_528 hF_527; obtain rfl : .bool (y_478.2.2.2.1 == y_101) = v_528 := Eq.symm hF_527
                    replace S1 := S1.put (by decide : 113 < 127) (.bool (y_478.2.2.2.1 == y_101))
                    refine fill_nil S1 ?_; clear S1; intro a_ S1
                    rw [show (y_478.2.2.2.1 == y_101) = false from hl0] at S1
                    have S0 := S.defers; replace S := S1; clear S1
                    refine wl_pure (l' := [(115, .int .i64 c_79), (113, .bool false), (6, v_20), (11, v_59), (16, .int .i64 c_79), (17, .bool y_101)]) S tys tys_ok 1 (by kernel_rfl) ?_; clear S; intro a S
                    refine wpList_nil ?_
                    exact RPost.mk_ S rfl S0 ⟨fun _ => ⟨rfl, G_80⟩, fun k_ => absurd hc0 k_⟩ (Below.refl _ _)
                  · have hl0 : (y_478.2.2.2.1 == y_101) = true := (by simpa using hc0)
                    have S1 := S
                    intro v_530 hF_529; obtain rfl : .bool (y_478.2.2.2.1 == y_101) = v_530 := Eq.symm hF_529
                    replace S1 := S1.put (by decide : 113 < 127) (.bool (y_478.2.2.2.1 == y_101))
                    refine fill_nil S1 ?_; clear S1; intro a_ S1
                    rw [show (y_478.2.2.2.1 == y_101) = true from hl0] at S1
                    have S0 := S.defers; replace S := S1; clear S1
                    refine wl_pure (l' := [(115, undef), (113, .bool true), (6, v_20), (11, v_59), (16, .int .i64 c_79), (17, .bool y_101)]) S tys tys_ok 1 (by kernel_rfl) ?_; clear S; intro a S
                    refine wpList_nil ?_
                    exact RPost.mk_ S rfl S0 ⟨fun k_ => absurd k_ hc0, fun _ => rfl⟩ (Below.refl _ _)
                refine RunAll.cons (cndF (y_478.2.2.2.1 == y_101) false (isEl gt2 (Kx K w.heap.size []) y_486)) [(cndF (y_478.2.2.2.1 == y_101) false (isRep (.sl gt2) (Kx K w.heap.size []) s_58), 114), (cndF (y_478.2.2.2.1 == y_101) false (isI .i64 c_79), 115), (eqv (.bool (y_478.2.2.2.1 == y_101)), 113)] rfl rfl ?_ ?_
                · intro W_ hW
                  by_cases hc0 : (y_478.2.2.2.1 == y_101) = false
                  · have hl0 : (y_478.2.2.2.1 == y_101) = false := hc0
                    have S1 := S
                    intro v_531 hF_532
                    replace hF_532 := cndF.pos hF_532 hc0
                    revert hF_532
                    revert v_531
                    intro v_534 hF_533; replace hF_533 : RepV _ _ _ _ _ := hF_533
                    replace S1 := S1.put (by decide : 114 < 127) (v_534)
                    intro v_535 hF_536
                    replace hF_536 := cndF.pos hF_536 hc0
                    revert hF_536
                    revert v_535
                    rintro _ ⟨rfl, hF_537⟩
                    replace S1 := S1.put (by decide : 115 < 127) (.int .i64 c_79)
                    intro v_540 hF_539; obtain rfl : .bool (y_478.2.2.2.1 == y_101) = v_540 := Eq.symm hF_539
                    replace S1 := S1.put (by decide : 113 < 127) (.bool (y_478.2.2.2.1 == y_101))
                    refine fill_nil S1 ?_; clear S1; intro a_ S1
                    replace W := W.step hW
                    rw [show (y_478.2.2.2.1 == y_101) = false from hl0] at S1
                    have S0 := S.defers; replace S := S1; clear S1
                    obtain ⟨ey_486, ey_492, _⟩ := (HG_485).1 hc0
                    refine w_go S rfl (op_indexAddr S rfl ty25 rfl rfl rfl hF_533 rfl ey_486 ?_)
                    clear S; intro a p_541 R_542 H_543 S
                    refine wpList_nil ?_
                    exact RPost.mk_ S rfl S0 ⟨fun _ => ⟨_, rfl, R_542, H_543⟩, fun k_ => absurd hc0 k_⟩ (Below.refl _ _)
                  · have hl0 : (y_478.2.2.2.1 == y_101) = true := (by simpa using hc0)
                    have S1 := S
                    intro v_544 hF_545
                    obtain rfl := cndF.neg hF_545 hc0
                    replace S1 := S1.put (by decide : 114 < 127) (undef)
                    intro v_546 hF_547
                    obtain rfl := cndF.neg hF_547 hc0
                    replace S1 := S1.put (by decide : 115 < 127) (undef)
                    intro v_549 hF_548; obtain rfl : .bool (y_478.2.2.2.1 == y_101) = v_549 := Eq.symm hF_548
                    replace S1 := S1.put (by decide : 113 < 127) (.bool (y_478.2.2.2.1 == y_101))
                    refine fill_nil S1 ?_; clear S1; intro a_ S1
                    rw [show (y_478.2.2.2.1 == y_101) = true from hl0] at S1
                    have S0 := S.defers; replace S := S1; clear S1
                    refine wl_pure (l' := [(116, undef), (113, .bool true), (115, undef), (114, undef), (6, v_20), (11, v_59), (16, .int .i64 c_79), (17, .bool y_101)]) S tys tys_ok 1 (by kernel_rfl) ?_; clear S; intro a S
                    refine wpList_nil ?_
                    exact RPost.mk_ S rfl S0 ⟨fun k_ => absurd k_ hc0, fun _ => rfl⟩ (Below.refl _ _)
                refine RunAll.cons (cndF (y_478.2.2.2.1 == y_101) false (isEl .bool (Kx K w.heap.size []) y_486.2.1)) [(cndF (y_478.2.2.2.1 == y_101) false (isEl gt2 (Kx K w.heap.size []) y_486), 116), (eqv (.bool (y_478.2.2.2.1 == y_101)), 113)] rfl rfl ?_ ?_
                · intro W_ hW
                  by_cases hc0 : (y_478.2.2.2.1 == y_101) = false
                  · have hl0 : (y_478.2.2.2.1 == y_101) = false := hc0
                    have S1 := S
                    intro v_550 hF_551
                    replace hF_551 := cndF.pos hF_551 hc0
                    revert hF_551
                    revert v_550
                    rintro _ ⟨p_554, rfl, R_555, H_556⟩
                    replace S1 := S1.put (by decide : 116 < 127) (.pointer (some p_554))
                    intro v_558 hF_557; obtain rfl : .bool (y_478.2.2.2.1 == y_101) = v_558 := Eq.symm hF_557
                    replace S1 := S1.put (by decide : 113 < 127) (.bool (y_478.2.2.2.1 == y_101))
                    refine fill_nil S1 ?_; clear S1; intro a_ S1
                    rw [show (y_478.2.2.2.1 == y_101) = false from hl0] at S1
                    have S0 := S.defers; replace S := S1; clear S1
                    refine wl_pure (l' := [(117, .pointer (some (p_554.add (coff gf2 1)))), (113, .bool false), (116, .pointer (some p_554)), (6, v_20), (11, v_59), (16, .int .i64 c_79), (17, .bool y_101)]) S tys tys_ok 1 (by kernel_rfl) ?_; clear S; intro a S
                    refine wpList_nil ?_
                    exact RPost.mk_ S rfl S0 ⟨fun _ => ⟨_, rfl, (RepAt.add 1 (RepAt.st (t := gf2) R_555)), (by simpa [Addr.add] using H_556)⟩, fun k_ => absurd hc0 k_⟩ (Below.refl _ _)
                  · have hl0 : (y_478.2.2.2.1 == y_101) = true := (by simpa using hc0)
                    have S1 := S
                    intro v_559 hF_560
                    obtain rfl := cndF.neg hF_560 hc0
                    replace S1 := S1.put (by decide : 116 < 127) (undef)
                    intro v_562 hF_561; obtain rfl : .bool (y_478.2.2.2.1 == y_101) = v_562 := Eq.symm hF_561
                    replace S1 := S1.put (by decide : 113 < 127) (.bool (y_478.2.2.2.1 == y_101))
                    refine fill_nil S1 ?_; clear S1; intro a_ S1
                    rw [show (y_478.2.2.2.1 == y_101) = true from hl0] at S1
                    have S0 := S.defers; replace S := S1; clear S1
                    refine wl_pure (l' := [(117, undef), (113, .bool true), (116, undef), (6, v_20), (11, v_59), (16, .int .i64 c_79), (17, .bool y_101)]) S tys tys_ok 1 (by kernel_rfl) ?_; clear S; intro a S
                    refine wpList_nil ?_
                    exact RPost.mk_ S rfl S0 ⟨fun k_ => absurd k_ hc0, fun _ => rfl⟩ (Below.refl _ _)
                refine RunAll.cons (cndF (y_478.2.2.2.1 == y_101) false (eqv (.bool y_486.2.1))) [(cndF (y_478.2.2.2.1 == y_101) false (isEl .bool (Kx K w.heap.size []) y_486.2.1), 117), (eqv (.bool (y_478.2.2.2.1 == y_101)), 113)] rfl rfl ?_ ?_
                · intro W_ hW
                  by_cases hc0 : (y_478.2.2.2.1 == y_101) = false
                  · have hl0 : (y_478.2.2.2.1 == y_101) = false := hc0
                    have S1 := S
                    intro v_563 hF_564
                    replace hF_564 := cndF.pos hF_564 hc0
                    revert hF_564
                    revert v_563
                    rintro _ ⟨p_567, rfl, R_568, H_569⟩
                    replace S1 := S1.put (by decide : 117 < 127) (.pointer (some p_567))
                    intro v_571 hF_570; obtain rfl : .bool (y_478.2.2.2.1 == y_101) = v_571 := Eq.symm hF_570
                    replace S1 := S1.put (by decide : 113 < 127) (.bool (y_478.2.2.2.1 == y_101))
                    refine fill_nil S1 ?_; clear S1; intro a_ S1
                    rw [show (y_478.2.2.2.1 == y_101) = false from hl0] at S1
                    have S0 := S.defers; replace S := S1; clear S1
                    obtain ⟨ey_486, ey_492, _⟩ := (HG_485).1 hc0
                    refine w_go S rfl (op_load (t := .bool) (x := y_486.2.1) S rfl ty4 rfl rfl rfl R_568 ?_)
                    clear S; intro a v_572 R_573 S
                    obtain rfl := RepV.bool R_573
                    refine wpList_nil ?_
                    exact RPost.mk_ S rfl S0 ⟨fun _ => rfl, fun k_ => absurd hc0 k_⟩ (Below.refl _ _)
                  · have hl0 : (y_478.2.2.2.1 == y_101) = true := (by simpa using hc0)
                    have S1 := S
                    intro v_574 hF_575
                    obtain rfl := cndF.neg hF_575 hc0
                    replace S1 := S1.put (by decide : 117 < 127) (undef)
                    intro v_577 hF_576; obtain rfl : .bool (y_478.2.2.2.1 == y_101) = v_577 := Eq.symm hF_576
                    replace S1 := S1.put (by decide : 113 < 127) (.bool (y_478.2.2.2.1 == y_101))
                    refine fill_nil S1 ?_; clear S1; intro a_ S1
                    rw [show (y_478.2.2.2.1 == y_101) = true from hl0] at S1
                    have S0 := S.defers; replace S := S1; clear S1
                    refine wl_pure (l' := [(118, undef), (113, .bool true), (117, undef), (6, v_20), (11, v_59), (16, .int .i64 c_79), (17, .bool y_101)]) S tys tys_ok 1 (by kernel_rfl) ?_; clear S; intro a S
                    refine wpList_nil ?_
                    exact RPost.mk_ S rfl S0 ⟨fun k_ => absurd k_ hc0, fun _ => rfl⟩ (Below.refl _ _)
                refine RunAll.cons (cndF (y_478.2.2.2.1 == y_101) false (isRep (.sl gt2) (Kx K w.heap.size []) y_19)) [(eqv (.bool (y_478.2.2.2.1 == y_101)), 113)] rfl rfl ?_ ?_
                · intro W_ hW
                  by_cases hc0 : (y_478.2.2.2.1 == y_101) = false
                  · have hl0 : (y_478.2.2.2.1 == y_101) = false := hc0
                    have S1 := S
                    intro v_579 hF_578; obtain rfl : .bool (y_478.2.2.2.1 == y_101) = v_579 := Eq.symm hF_578
                    replace S1 := S1.put (by decide : 113 < 127) (.bool (y_478.2.2.2.1 == y_101))
                    refine fill_nil S1 ?_; clear S1; intro a_ S1
                    replace R_21 := R_21.step hW
                    rw [show (y_478.2.2.2.1 == y_101) = false from hl0] at S1
                    have S0 := S.defers; replace S := S1; clear S1
                    refine wl_pure (l' := [(119, v_20), (113, .bool false), (6, v_20), (11, v_59), (16, .int .i64 c_79), (17, .bool y_101)]) S tys tys_ok 1 (by kernel_rfl) ?_; clear S; intro a S
                    refine wpList_nil ?_
                    exact RPost.mk_ S rfl S0 ⟨fun _ => R_21, fun k_ => absurd hc0 k_⟩ (Below.refl _ _)
                  · have hl0 : (y_478.2.2.2.1 == y_101) = true := (by simpa using hc0)
                    have S1 := S
                    intro v_581 hF_580; obtain rfl : .bool (y_478.2.2.2.1 == y_101) = v_581 := Eq.symm hF_580
                    replace S1 := S1.put (by decide : 113 < 127) (.bool (y_478.2.2.2.1 == y_101))
                    refine fill_nil S1 ?_; clear S1; intro a_ S1
                    rw [show (y_478.2.2.2.1 == y_101) = true from hl0] at S1
                    have S0 := S.defers; replace S := S1; clear S1
                    refine wl_pure (l' := [(119, undef), (113, .bool true), (6, v_20), (11, v_59), (16, .int .i64 c_79), (17, .bool y_101)]) S tys tys_ok 1 (by kernel_rfl) ?_; clear S; intro a S
                    refine wpList_nil ?_
                    exact RPost.mk_ S rfl S0 ⟨fun k_ => absurd k_ hc0, fun _ => rfl⟩ (Below.refl _ _)
                refine RunAll.cons (cndF (y_478.2.2.2.1 == y_101) false (isI .i64 c_79)) [(eqv (.bool (y_478.2.2.2.1 == y_101)), 113)] rfl rfl ?_ ?_
                · intro W_ hW
                  by_cases hc0 : (y_478.2.2.2.1 == y_101) = false
                  · have hl0 : (y_478.2.2.2.1 == y_101) = false := hc0
                    have S1 := S
                    intro v_583 hF_582; obtain rfl : .bool (y_478.2.2.2.1 == y_101) = v_583 := Eq.symm hF_582
                    replace S1 := S1.put (by decide : 113 < 127) (.bool (y_478.2.2.2.1 == y_101))
                    refine fill_nil S1 ?_; clear S1; intro a_ S1
                    rw [show (y_478.2.2.2.1 == y_101) = false from hl0] at S1
                    have S0 := S.defers; replace S := S1; clear S1
                    refine wl_pure (l' := [(120, .int .i64 c_79), (113, .bool false), (6, v_20), (11, v_59), (16, .int .i64 c_79), (17, .bool y_101)]) S tys tys_ok 1 (by kernel_rfl) ?_; clear S; intro a S
                    refine wpList_nil ?_
                    exact RPost.mk_ S rfl S0 ⟨fun _ => ⟨rfl, G_80⟩, fun k_ => absurd hc0 k_⟩ (Below.refl _ _)
                  · have hl0 : (y_478.2.2.2.1 == y_101) = true := (by simpa using hc0)
                    have S1 := S
                    intro v_585 hF_584; obtain rfl : .bool (y_478.2.2.2.1 == y_101) = v_585 := Eq.symm hF_584
                    replace S1 := S1.put (by decide : 113 < 127) (.bool (y_478.2.2.2.1 == y_101))
                    refine fill_nil S1 ?_; clear S1; intro a_ S1
                    rw [show (y_478.2.2.2.1 == y_101) = true from hl0] at S1
                    have S0 := S.defers; replace S := S1; clear S1
                    refine wl_pure (l' := [(120, undef), (113, .bool true), (6, v_20), (11, v_59), (16, .int .i64 c_79), (17, .bool y_101)]) S tys tys_ok 1 (by kernel_rfl) ?_; clear S; intro a S
                    refine wpList_nil ?_
                    exact RPost.mk_ S rfl S0 ⟨fun k_ => absurd k_ hc0, fun _ => rfl⟩ (Below.refl _ _)
                refine RunAll.cons (cndF (y_478.2.2.2.1 == y_101) false (isEl gt2 (Kx K w.heap.size []) y_492)) [(cndF (y_478.2.2.2.1 == y_101) false (isRep (.sl gt2) (Kx K w.heap.size []) y_19), 119), (cndF (y_478.2.2.2.1 == y_101) false (isI .i64 c_79), 120), (eqv (.bool (y_478.2.2.2.1 == y_101)), 113)] rfl rfl ?_ ?_
                · intro W_ hW
                  by_cases hc0 : (y_478.2.2.2.1 == y_101) = false
                  · have hl0 : (y_478.2.2.2.1 == y_101) = false := hc0
                    have S1 := S
                    intro v_586 hF_587
                    replace hF_587 := cndF.pos hF_587 hc0
                    revert hF_587
                    revert v_586
                    intro v_589 hF_588; replace hF_588 : RepV _ _ _ _ _ := hF_588
                    replace S1 := S1.put (by decide : 119 < 127) (v_589)
                    intro v_590 hF_591
                    replace hF_591 := cndF.pos hF_591 hc0
                    revert hF_591
                    revert v_590
                    rintro _ ⟨rfl, hF_592⟩
                    replace S1 := S1.put (by decide : 120 < 127) (.int .i64 c_79)
                    intro v_595 hF_594; obtain rfl : .bool (y_478.2.2.2.1 == y_101) = v_595 := Eq.symm hF_594
                    replace S1 := S1.put (by decide : 113 < 127) (.bool (y_478.2.2.2.1 == y_101))
                    refine fill_nil S1 ?_; clear S1; intro a_ S1
                    replace W := W.step hW
                    rw [show (y_478.2.2.2.1 == y_101) = false from hl0] at S1
                    have S0 := S.defers; replace S := S1; clear S1
                    obtain ⟨ey_486, ey_492, _⟩ := (HG_485).1 hc0
                    refine w_go S rfl (op_indexAddr S rfl ty25 rfl rfl rfl hF_588 rfl ey_492 ?_)
                    clear S; intro a p_596 R_597 H_598 S
                    refine wpList_nil ?_
                    exact RPost.mk_ S rfl S0 ⟨fun _ => ⟨_, rfl, R_597, H_598⟩, fun k_ => absurd hc0 k_⟩ (Below.refl _ _)
                  · have hl0 : (y_478.2.2.2.1 == y_101) = true := (by simpa using hc0)
                    have S1 := S
                    intro v_599 hF_600
                    obtain rfl := cndF.neg hF_600 hc0
                    replace S1 := S1.put (by decide : 119 < 127) (undef)
                    intro v_601 hF_602
                    obtain rfl := cndF.neg hF_602 hc0
                    replace S1 := S1.put (by decide : 120 < 127) (undef)
                    intro v_604 hF_603; obtain rfl : .bool (y_478.2.2.2.1 == y_101) = v_604 := Eq.symm hF_603
                    replace S1 := S1.put (by decide : 113 < 127) (.bool (y_478.2.2.2.1 == y_101))
                    refine fill_nil S1 ?_; clear S1; intro a_ S1
                    rw [show (y_478.2.2.2.1 == y_101) = true from hl0] at S1
                    have S0 := S.defers; replace S := S1; clear S1
                    refine wl_pure (l' := [(121, undef), (113, .bool true), (120, undef), (119, undef), (6, v_20), (11, v_59), (16, .int .i64 c_79), (17, .bool y_101)]) S tys tys_ok 1 (by kernel_rfl) ?_; clear S; intro a S
                    refine wpList_nil ?_
                    exact RPost.mk_ S rfl S0 ⟨fun k_ => absurd k_ hc0, fun _ => rfl⟩ (Below.refl _ _)
                refine RunAll.cons (cndF (y_478.2.2.2.1 == y_101) false (isEl .bool (Kx K w.heap.size []) y_492.2.1)) [(cndF (y_478.2.2.2.1 == y_101) false (isEl gt2 (Kx K w.heap.size []) y_492), 121), (eqv (.bool (y_478.2.2.2.1 == y_101)), 113)] rfl rfl ?_ ?_
                · intro W_ hW
                  by_cases hc0 : (y_478.2.2.2.1 == y_101) = false
                  · have hl0 : (y_478.2.2.2.1 == y_101) = false := hc0
                    have S1 := S
                    intro v_605 hF_606
                    replace hF_606 := cndF.pos hF_606 hc0
                    revert hF_606
                    revert v_605
                    rintro _ ⟨p_609, rfl, R_610, H_611⟩
                    replace S1 := S1.put (by decide : 121 < 127) (.pointer (some p_609))
                    intro v_613 hF_612; obtain rfl : .bool (y_478.2.2.2.1 == y_101) = v_613 := Eq.symm hF_612
                    replace S1 := S1.put (by decide : 113 < 127) (.bool (y_478.2.2.2.1 == y_101))
                    refine fill_nil S1 ?_; clear S1; intro a_ S1
                    rw [show (y_478.2.2.2.1 == y_101) = false from hl0] at S1
                    have S0 := S.defers; replace S := S1; clear S1
                    refine wl_pure (l' := [(122, .pointer (some (p_609.add (coff gf2 1)))), (113, .bool false), (121, .pointer (some p_609)), (6, v_20), (11, v_59), (16, .int .i64 c_79), (17, .bool y_101)]) S tys tys_ok 1 (by kernel_rfl) ?_; clear S; intro a S
                    refine wpList_nil ?_
                    exact RPost.mk_ S rfl S0 ⟨fun _ => ⟨_, rfl, (RepAt.add 1 (RepAt.st (t := gf2) R_610)), (by simpa [Addr.add] using H_611)⟩, fun k_ => absurd hc0 k_⟩ (Below.refl _ _)
                  · have hl0 : (y_478.2.2.2.1 == y_101) = true := (by simpa using hc0)
                    have S1 := S
                    intro v_614 hF_615
                    obtain rfl := cndF.neg hF_615 hc0
                    replace S1 := S1.put (by decide : 121 < 127) (undef)
                    intro v_617 hF_616; obtain rfl : .bool (y_478.2.2.2.1 == y_101) = v_617 := Eq.symm hF_616
                    replace S1 := S1.put (by decide : 113 < 127) (.bool (y_478.2.2.2.1 == y_101))
                    refine fill_nil S1 ?_; clear S1; intro a_ S1
                    rw [show (y_478.2.2.2.1 == y_101) = true from hl0] at S1
                    have S0 := S.defers; replace S := S1; clear S1
                    refine wl_pure (l' := [(122, undef), (113, .bool true), (121, undef), (6, v_20), (11, v_59), (16, .int .i64 c_79), (17, .bool y_101)]) S tys tys_ok 1 (by kernel_rfl) ?_; clear S; intro a S
                    refine wpList_nil ?_
                    exact RPost.mk_ S rfl S0 ⟨fun k_ => absurd k_ hc0, fun _ => rfl⟩ (Below.refl _ _)
                refine RunAll.cons (cndF (y_478.2.2.2.1 == y_101) false (eqv (.bool y_492.2.1))) [(cndF (y_478.2.2.2.1 == y_101) false (isEl .bool (Kx K w.heap.size []) y_492.2.1), 122), (eqv (.bool (y_478.2.2.2.1 == y_101)), 113)] rfl rfl ?_ ?_
                · intro W_ hW
                  by_cases hc0 : (y_478.2.2.2.1 == y_101) = false
                  · have hl0 : (y_478.2.2.2.1 == y_101) = false := hc0
                    have S1 := S
                    intro v_618 hF_619
                    replace hF_619 := cndF.pos hF_619 hc0
                    revert hF_619
                    revert v_618
                    rintro _ ⟨p_622, rfl, R_623, H_624⟩
                    replace S1 := S1.put (by decide : 122 < 127) (.pointer (some p_622))
                    intro v_626 hF_625; obtain rfl : .bool (y_478.2.2.2.1 == y_101) = v_626 := Eq.symm hF_625
                    replace S1 := S1.put (by decide : 113 < 127) (.bool (y_478.2.2.2.1 == y_101))
                    refine fill_nil S1 ?_; clear S1; intro a_ S1
                    rw [show (y_478.2.2.2.1 == y_101) = false from hl0] at S1
                    have S0 := S.defers; replace S := S1; clear S1
                    obtain ⟨ey_486, ey_492, _⟩ := (HG_485).1 hc0
                    refine w_go S rfl (op_load (t := .bool) (x := y_492.2.1) S rfl ty4 rfl rfl rfl R_623 ?_)
                    clear S; intro a v_627 R_628 S
                    obtain rfl := RepV.bool R_628
                    refine wpList_nil ?_
                    exact RPost.mk_ S rfl S0 ⟨fun _ => rfl, fun k_ => absurd hc0 k_⟩ (Below.refl _ _)
                  · have hl0 : (y_478.2.2.2.1 == y_101) = true := (by simpa using hc0)
                    have S1 := S
                    intro v_629 hF_630
                    obtain rfl := cndF.neg hF_630 hc0
                    replace S1 := S1.put (by decide : 122 < 127) (undef)
                    intro v_632 hF_631; obtain rfl : .bool (y_478.2.2.2.1 == y_101) = v_632 := Eq.symm hF_631
                    replace S1 := S1.put (by decide : 113 < 127) (.bool (y_478.2.2.2.1 == y_101))
                    refine fill_nil S1 ?_; clear S1; intro a_ S1
                    rw [show (y_478.2.2.2.1 == y_101) = true from hl0] at S1
                    have S0 := S.defers; replace S := S1; clear S1
                    refine wl_pure (l' := [(123, undef), (113, .bool true), (122, undef), (6, v_20), (11, v_59), (16, .int .i64 c_79), (17, .bool y_101)]) S tys tys_ok 1 (by kernel_rfl) ?_; clear S; intro a S
                    refine wpList_nil ?_
                    exact RPost.mk_ S rfl S0 ⟨fun k_ => absurd k_ hc0, fun _ => rfl⟩ (Below.refl _ _)
                refine RunAll.cons (cndF (y_478.2.2.2.1 == y_101) false (eqv (.bool (!(y_486.2.1 == y_492.2.1))))) [(cndF (y_478.2.2.2.1 == y_101) false (eqv (.bool y_486.2.1)), 118), (cndF (y_478.2.2.2.1 == y_101) false (eqv (.bool y_492.2.1)), 123), (eqv (.bool (y_478.2.2.2.1 == y_101)), 113)] rfl rfl ?_ ?_
                · intro W_ hW
                  by_cases hc0 : (y_478.2.2.2.1 == y_101) = false
                  · have hl0 : (y_478.2.2.2.1 == y_101) = false := hc0
                    have S1 := S
                    intro v_633 hF_634
                    replace hF_634 := cndF.pos hF_634 hc0
                    revert hF_634
                    revert v_633
                    intro v_636 hF_635; obtain rfl : .bool y_486.2.1 = v_636 := Eq.symm hF_635
                    replace S1 := S1.put (by decide : 118 < 127) (.bool y_486.2.1)
                    intro v_637 hF_638
                    replace hF_638 := cndF.pos hF_638 hc0
                    revert hF_638
                    revert v_637
                    intro v_640 hF_639; obtain rfl : .bool y_492.2.1 = v_640 := Eq.symm hF_639
                    replace S1 := S1.put (by decide : 123 < 127) (.bool y_492.2.1)
                    intro v_642 hF_641; obtain rfl : .bool (y_478.2.2.2.1 == y_101) = v_642 := Eq.symm hF_641
                    replace S1 := S1.put (by decide : 113 < 127) (.bool (y_478.2.2.2.1 == y_101))
                    refine fill_nil S1 ?_; clear S1; intro a_ S1
                    rw [show (y_478.2.2.2.1 == y_101) = false from hl0] at S1
                    have S0 := S.defers; replace S := S1; clear S1
                    refine wl_pure (l' := [(124, .bool (!(y_486.2.1 == y_492.2.1))), (113, .bool false), (123, .bool y_492.2.1), (118, .bool y_486.2.1), (6, v_20), (11, v_59), (16, .int .i64 c_79), (17, .bool y_101)]) S tys tys_ok 1 (by kernel_rfl) ?_; clear S; intro a S
                    refine wpList_nil ?_
                    exact RPost.mk_ S rfl S0 ⟨fun _ => rfl, fun k_ => absurd hc0 k_⟩ (Below.refl _ _)
                  · have hl0 : (y_478.2.2.2.1 == y_101) = true := (by simpa using hc0)
                    have S1 := S
                    intro v_643 hF_644
                    obtain rfl := cndF.neg hF_644 hc0
                    replace S1 := S1.put (by decide : 118 < 127) (undef)
                    intro v_645 hF_646
                    obtain rfl := cndF.neg hF_646 hc0
                    replace S1 := S1.put (by decide : 123 < 127) (undef)
                    intro v_648 hF_647; obtain rfl : .bool (y_478.2.2.2.1 == y_101) = v_648 := Eq.symm hF_647
                    replace S1 := S1.put (by decide : 113 < 127) (.bool (y_478.2.2.2.1 == y_101))
                    refine fill_nil S1 ?_; clear S1; intro a_ S1
                    rw [show (y_478.2.2.2.1 == y_101) = true from hl0] at S1
                    have S0 := S.defers; replace S := S1; clear S1
                    refine wl_pure (l' := [(124, undef), (113, .bool true), (123, undef), (118, undef), (6, v_20), (11, v_59), (16, .int .i64 c_79), (17, .bool y_101)]) S tys tys_ok 1 (by kernel_rfl) ?_; clear S; intro a S
                    refine wpList_nil ?_
                    exact RPost.mk_ S rfl S0 ⟨fun k_ => absurd k_ hc0, fun _ => rfl⟩ (Below.refl _ _)
                refine RunAll.cons (eqv (.bool q_484)) [(eqv (.bool (y_478.2.2.2.1 == y_101)), 113), (cndF (y_478.2.2.2.1 == y_101) false (eqv (.bool (!(y_486.2.1 == y_492.2.1)))), 124)] rfl rfl ?_ ?_
                · intro W_ hW
                  by_cases hc0 : (y_478.2.2.2.1 == y_101) = false
                  · have hl0 : (y_478.2.2.2.1 == y_101) = false := hc0
                    have S1 := S
                    intro v_650 hF_649; obtain rfl : .bool (y_478.2.2.2.1 == y_101) = v_650 := Eq.symm hF_649
                    replace S1 := S1.put (by decide : 113 < 127) (.bool (y_478.2.2.2.1 == y_101))
                    intro v_651 hF_652
                    replace hF_652 := cndF.pos hF_652 hc0
                    revert hF_652
                    revert v_651
                    intro v_654 hF_653; obtain rfl : .bool (!(y_486.2.1 == y_492.2.1)) = v_654 := Eq.symm hF_653
                    replace S1 := S1.put (by decide : 124 < 127) (.bool (!(y_486.2.1 == y_492.2.1)))
                    refine fill_nil S1 ?_; clear S1; intro a_ S1
                    rw [show (y_478.2.2.2.1 == y_101) = false from hl0] at S1
                    have S0 := S.defers; replace S := S1; clear S1
                    refine wl_pure (l' := [(125, .bool (!(y_486.2.1 == y_492.2.1))), (124, .bool (!(y_486.2.1 == y_492.2.1))), (113, .bool false), (6, v_20), (11, v_59), (16, .int .i64 c_79), (17, .bool y_101)]) S tys tys_ok 1 (by kernel_rfl) ?_; clear S; intro a S
                    refine wpList_nil ?_
                    exact RPost.mk_ S rfl S0 (congrArg Value.bool ((HG_485).1 hc0).2.2) (Below.refl _ _)
                  · have hl0 : (y_478.2.2.2.1 == y_101) = true := (by simpa using hc0)
                    have S1 := S
                    intro v_656 hF_655; obtain rfl : .bool (y_478.2.2.2.1 == y_101) = v_656 := Eq.symm hF_655
                    replace S1 := S1.put (by decide : 113 < 127) (.bool (y_478.2.2.2.1 == y_101))
                    intro v_657 hF_658
                    obtain rfl := cndF.neg hF_658 hc0
                    replace S1 := S1.put (by decide : 124 < 127) (undef)
                    refine fill_nil S1 ?_; clear S1; intro a_ S1
                    rw [show (y_478.2.2.2.1 == y_101) = true from hl0] at S1
                    have S0 := S.defers; replace S := S1; clear S1
                    refine wl_pure (l' := [(125, .bool true), (124, undef), (113, .bool true), (6, v_20), (11, v_59), (16, .int .i64 c_79), (17, .bool y_101)]) S tys tys_ok 1 (by kernel_rfl) ?_; clear S; intro a S
                    refine wpList_nil ?_
                    exact RPost.mk_ S rfl S0 (congrArg Value.bool ((HG_485).2 hc0)) (Below.refl _ _)
                exact trivial
              intro w_659 hb_660
              refine EndE.some_ rfl ?_
              intro v_662 hF_661; replace hF_661 : RepV _ _ _ _ _ := hF_661
              replace S := S.put (by decide : 106 < 127) (v_662)
              refine EndE.some_ rfl ?_
              rintro _ ⟨rfl, hF_663⟩
              replace S := S.put (by decide : 107 < 127) (.int .i64 c_79)
              refine EndE.some_ rfl ?_
              rintro _ ⟨p_667, rfl, R_668, H_669⟩
              replace S := S.put (by decide : 108 < 127) (.pointer (some p_667))
              refine EndE.some_ rfl ?_
              rintro _ ⟨p_672, rfl, R_673, H_674⟩
              replace S := S.put (by decide : 109 < 127) (.pointer (some p_672))
              refine EndE.some_ rfl ?_
              intro v_676 hF_675; obtain rfl : .bool y_478.2.2.2.1 = v_676 := Eq.symm hF_675
              replace S := S.put (by decide : 110 < 127) (.bool y_478.2.2.2.1)
              refine EndE.some_ rfl ?_
              intro v_678 hF_677; obtain rfl : .bool y_101 = v_678 := Eq.symm hF_677
              replace S := S.put (by decide : 111 < 127) (.bool y_101)
              refine EndE.some_ rfl ?_
              intro v_680 hF_679; obtain rfl : .bool (y_478.2.2.2.1 == y_101) = v_680 := Eq.symm hF_679
              replace S := S.put (by decide : 112 < 127) (.bool (y_478.2.2.2.1 == y_101))
              refine EndE.some_ rfl ?_
              intro v_682 hF_681; obtain rfl : .bool (y_478.2.2.2.1 == y_101) = v_682 := Eq.symm hF_681
              replace S := S.put (by decide : 113 < 127) (.bool (y_478.2.2.2.1 == y_101))
              refine EndE.some_ rfl ?_
              intro v_683 _
              replace S := S.put (by decide : 114 < 127) (v_683)
              refine EndE.some_ rfl ?_
              intro v_684 _
              replace S := S.put (by decide : 115 < 127) (v_684)
              refine EndE.some_ rfl ?_
              intro v_685 _
              replace S := S.put (by decide : 116 < 127) (v_685)
              refine EndE.some_ rfl ?_
              intro v_686 _
              replace S := S.put (by decide : 117 < 127) (v_686)
              refine EndE.some_ rfl ?_
              intro v_687 _
              replace S := S.put (by decide : 118 < 127) (v_687)
              refine EndE.some_ rfl ?_
              intro v_688 _
              replace S := S.put (by decide : 119 < 127) (v_688)
              refine EndE.some_ rfl ?_
              intro v_689 _
              replace S := S.put (by decide : 120 < 127) (v_689)
              refine EndE.some_ rfl ?_
              intro v_690 _
              replace S := S.put (by decide : 121 < 127) (v_690)
              refine EndE.some_ rfl ?_
              intro v_691 _
              replace S := S.put (by decide : 122 < 127) (v_691)
              refine EndE.some_ rfl ?_
              intro v_692 _
              replace S := S.put (by decide : 123 < 127) (v_692)
              refine EndE.some_ rfl ?_
              intro v_693 _
              replace S := S.put (by decide : 124 < 127) (v_693)
              refine EndE.some_ rfl ?_
              intro v_695 hF_694; obtain rfl : .bool q_484 = v_695 := Eq.symm hF_694
              replace S := S.put (by decide : 125 < 127) (.bool q_484)
              refine endE_nil S ?_; clear S; intro a S
              replace R_21 := R_21.step hb_660
              replace R_60 := R_60.step hb_660
              replace W := W.step hb_660
              refine then_n ?_
              replace S := S.sub (l' := [(125, .bool q_484), (6, v_20), (11, v_59), (16, .int .i64 c_79)]) (by exact ⟨rfl, rfl, rfl, rfl, trivial⟩)
              refine wp_cond_split (S.eval (show ev _ _ = some (.bool q_484) from rfl)) ?_ ?_
              · intro hc
                rw [if_pos hc] at hl_86
                refine wp_seq ?_
                refine wp_region_lit ?_
                refine wl_pureK (l' := [(4, .bool false)]) S tys tys_ok 1 [4] (by kernel_rfl) ?_
                clear S; intro a S
                refine wpList_nil ?_
                refine then_n ?_
                refine wp_ret ?_
                refine blk_r ?_
                refine then_r ?_
                refine then_r ?_
                refine blk_r ?_
                refine then_r ?_
                refine then_r ?_
                obtain rfl := Option.some.inj hl_86
                obtain rfl := lr_inr h
                exact b_ret1 S rfl rfl ⟨_, rfl, RepV.mkBool, W.below⟩
              · intro hc
                rw [if_neg (Bool.eq_false_iff.1 hc)] at hl_86
                refine wp_skip ?_
                refine blk_n ?_
                refine then_n ?_
                replace S := S.sub (l' := [(6, v_20), (11, v_59), (16, .int .i64 c_79)]) (by exact ⟨rfl, rfl, rfl, trivial⟩)
                refine wp_region_lit ?_
                refine wl_pure (l' := [(72, .int .i64 c_79), (6, v_20), (11, v_59), (16, .int .i64 c_79)]) S tys tys_ok 1 (by kernel_rfl) ?_
                clear S; intro a S
                obtain ⟨x_696, ex_696, hl_86⟩ := bindS hl_86
                refine w_go S rfl (op_arith S .i64 (c_79 + 1) rfl (.inl rfl) rfl rfl rfl rfl ex_696 ?_)
                clear S; intro a S
                refine wl_pure (l' := [(16, .int .i64 x_696), (73, .int .i64 x_696), (72, .int .i64 c_79), (6, v_20), (11, v_59), (16, .int .i64 c_79)]) S tys tys_ok 1 (by kernel_rfl) ?_
                clear S; intro a S
                refine wpList_nil ?_
                refine then_n ?_
                exact ⟨x_696, ⟨S.sub (by exact ⟨rfl, rfl, rfl, trivial⟩), W, (ckI_some ex_696).2.1, R_21, R_60, hl_86⟩⟩
            · intro hc
              rw [if_neg (Bool.eq_false_iff.1 hc)] at hl_86
              refine wp_exit ?_
              refine then_x ?_
              refine then_x ?_
              refine blk_hit ?_
              refine then_n ?_
              obtain rfl := Option.some.inj hl_86
              exact ⟨_, rfl, ⟨S.sub trivial, W⟩⟩
      clear S W; rintro a w_697 ⟨s_84, rfl, S, W⟩
      replace h := lr_inl h; try dsimp only at h
      refine then_n ?_
      refine wp_seq ?_
      refine wp_region_lit ?_
      obtain ⟨t_698, et_698, h⟩ := bindS h
      refine w_go S rfl (op_call (vs := []) S rfl cb8 rfl rfl rfl (c8 (Kx K w.heap.size []) n w_697  et_698) ?_)
      rintro _ w_702 ⟨v_699, rfl, R_700, hb_701⟩; refine ⟨_, rfl, ?_⟩
      replace R_700 := RepV.back R_700 W
      clear S; intro a S
      replace W := W.step hb_701
      obtain rfl := RepV.bool R_700
      refine wl_pure (l' := [(4, .bool t_698), (126, .bool t_698)]) S tys tys_ok 1 (by kernel_rfl) ?_
      clear S; intro a S
      refine wpList_nil ?_
      refine then_n ?_
      replace S := S.sub (l' := [(4, .bool t_698)]) (by exact ⟨rfl, trivial⟩)
      refine wp_ret ?_
      obtain rfl := Option.some.inj h
      exact b_ret1 S rfl rfl ⟨_, rfl, RepV.mkBool, W.below⟩

end Go.Proofs.Ytflieonbbggmhaa
