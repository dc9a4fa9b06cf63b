/- Functions of the program, as plain data. -/
import Derived.Test.YtnelgpgmggcdcaaP3
set_option linter.unusedVariables false
set_option linter.unusedSimpArgs false
namespace Go.Proofs.Ytnelgpgmggcdcaa
open Go.RowKit

theorem cb21 : callB Try.prog 21 = true := by kernel_rfl
def p21_l1 (n : Nat) (x0 : Sl (Int × Int × Bool × Bool × Bool × Bool × Int)) (x1 : Int) (rec_ : (Sl (Int × Int × Bool × Bool × Bool × Bool × Int)) → (Int) → Option ((Int))) : Nat → (Int) → (Int) → Option ((Int))
  | 0, _, _ => .none
  | m + 1, c_18, c_20 => (if (decide (c_18 < (lenI x0))) = true then (idx x0.xs x1).bind fun y_33 => some (!y_33.2.2.2.1) else some false).bind fun q_32 => if q_32 then ((idx x0.xs c_18).bind fun y_39 => (if (y_39.1 == x1) then ((rec_ x0 c_18).bind fun t_47 => (ckI .i64 (c_20 + t_47)).bind fun x_52 => some x_52) else some c_20).bind fun (j_45 : (Int)) => (ckI .i64 (c_18 + 1)).bind fun x_54 => p21_l1 n x0 x1 rec_ m x_54 j_45) else some c_20
def p21_b (n : Nat) (rec_ : (Sl (Int × Int × Bool × Bool × Bool × Bool × Int)) → (Int) → Option ((Int))) (x0 : Sl (Int × Int × Bool × Bool × Bool × Bool × Int)) (x1 : Int) : Option ((Int)) :=
  (p26 n x0 x1).bind fun t_1 =>
  if (t_1 == 0) then (some 0) else (idx x0.xs x1).bind fun y_6 => (p13 n y_6).bind fun t_12 => (ckI .i64 (x1 + 1)).bind fun x_17 => (p21_l1 n x0 x1 rec_ n x_17 t_12).bind fun (y_26 : (Int)) => (p11 n x0 x1).bind fun t_56 => if (decide (y_26 > t_56)) then (some 0) else some y_26
def p21 : Nat → (Sl (Int × Int × Bool × Bool × Bool × Bool × Int)) → (Int) → Option ((Int))
  | 0 => fun _ _ => .none
  | n + 1 => p21_b n (p21 n)
set_option maxHeartbeats 4000000 in
set_option maxRecDepth 100000 in
/-- plugboard/plugboardlaw19.alone -/
theorem c21_all (n : Nat) : ∀ (K : Nat → Prop) (w : World) (x0 : Sl (Int × Int × Bool × Bool × Bool × Bool × Int)) (v0 : Value) (R0 : RepV (.sl gt1) w K v0 x0) (x1 : Int) (G1 : InR .i64 x1) (r : (Int)) (h : p21 n x0 x1 = some r),
    Calls Try.prog 21 #[v0, .int .i64 x1] w (Ret1 (.int .i64) w (Kx K w.heap.size []) r) := by
  induction n with
  | zero => intro K w x0 v0 R0 x1 G1 r h; cases h
  | succ n IH_ =>
  intro K w x0 v0 R0 x1 G1 r h
  refine enter (args := [v0, .int .i64 x1]) Try.func21 rfl 50 rfl rfl fun a S => ?_
  have W := Wd.start w
  replace R0 := R0.arg
  change p21_b n (p21 n) x0 x1 = some r at h; unfold p21_b at h
  replace S : St 50 a [(0, v0), (1, .int .i64 x1)] := S
  refine wp_seq ?_
  refine wp_region_lit ?_
  refine wl_pure (l' := [(4, .int .i64 0), (0, v0), (1, .int .i64 x1)]) S tys tys_ok 1 (by kernel_rfl) ?_
  clear S; intro a S
  refine wpList_nil ?_
  refine then_n ?_
  replace S := S.sub (l' := [(0, v0), (1, .int .i64 x1)]) (by exact ⟨rfl, rfl, trivial⟩)
  refine wp_seq ?_
  refine wp_seq ?_
  refine wp_region_lit ?_
  refine wl_pure (l' := [(8, .int .i64 x1), (7, v0), (0, v0), (1, .int .i64 x1)]) S tys tys_ok 2 (by kernel_rfl) ?_
  clear S; intro a S
  obtain ⟨t_1, et_1, h⟩ := bindS h
  refine w_go S rfl (op_call (vs := [v0, .int .i64 x1]) S rfl cb26 rfl rfl rfl (c26 (Kx K w.heap.size []) n w x0 _ R0 x1 G1 et_1) ?_)
  rintro _ w_5 ⟨v_2, rfl, R_3, hb_4⟩; refine ⟨_, rfl, ?_⟩
  replace R_3 := RepV.back R_3 W
  clear S; intro a S
  replace R0 := R0.step hb_4
  replace W := W.step hb_4
  obtain ⟨rfl, GR_3⟩ := RepV.int R_3
  refine wl_pureK (l' := [(10, .bool (t_1 == 0)), (0, v0), (1, .int .i64 x1)]) S tys tys_ok 1 [10, 0, 1] (by kernel_rfl) ?_
  clear S; intro a S
  refine wpList_nil ?_
  refine then_n ?_
  refine wp_cond_split (S.eval (show ev _ _ = some (.bool (t_1 == 0)) from rfl)) ?_ ?_
  · intro hc
    rw [if_pos hc] at h
    refine wp_seq ?_
    refine wp_region_lit ?_
    refine wl_pureK (l' := [(4, .int .i64 0)]) S tys tys_ok 1 [4] (by kernel_rfl) ?_
    clear S; intro a S
    refine wpList_nil ?_
    refine then_n ?_
    refine wp_ret ?_
    refine then_r ?_
    obtain rfl := Option.some.inj h
    exact b_ret1 S rfl rfl ⟨_, rfl, (RepV.mkInt (by decide)), W.below⟩
  · intro hc
    rw [if_neg (Bool.eq_false_iff.1 hc)] at h
    refine wp_skip ?_
    refine then_n ?_
    replace S := S.sub (l' := [(0, v0), (1, .int .i64 x1)]) (by exact ⟨rfl, rfl, trivial⟩)
    refine wp_seq ?_
    refine wp_region_lit ?_
    refine wl_pure (l' := [(12, .int .i64 x1), (11, v0), (0, v0), (1, .int .i64 x1)]) S tys tys_ok 2 (by kernel_rfl) ?_
    clear S; intro a S
    obtain ⟨y_6, ey_6, h⟩ := bindS h
    refine w_go S rfl (op_indexAddr S rfl ty24 rfl rfl rfl R0 rfl ey_6 ?_)
    clear S; intro a p_7 R_8 H_9 S
    refine w_go S rfl (op_load (t := gt1) (x := y_6) S rfl ty32 rfl rfl rfl R_8 ?_)
    clear S; intro a v_10 R_11 S
    obtain ⟨t_12, et_12, h⟩ := bindS h
    refine w_go S rfl (op_call (vs := [v_10]) S rfl cb13 rfl rfl rfl (c13 (Kx K w.heap.size []) n w_5 y_6 _ R_11 et_12) ?_)
    rintro _ w_16 ⟨v_13, rfl, R_14, hb_15⟩; refine ⟨_, rfl, ?_⟩
    replace R_14 := RepV.back R_14 W
    clear S; intro a S
    replace R0 := R0.step hb_15
    replace R_11 := R_11.step hb_15
    replace W := W.step hb_15
    obtain ⟨rfl, GR_14⟩ := RepV.int R_14
    refine wl_pureK (l' := [(5, .int .i64 t_12), (0, v0), (1, .int .i64 x1)]) S tys tys_ok 1 [5, 0, 1] (by kernel_rfl) ?_
    clear S; intro a S
    refine wpList_nil ?_
    refine then_n ?_
    refine wp_seq ?_
    refine wp_seq ?_
    refine wp_region_lit ?_
    refine wl_pure (l' := [(16, .int .i64 x1), (5, .int .i64 t_12), (0, v0), (1, .int .i64 x1)]) S tys tys_ok 1 (by kernel_rfl) ?_
    clear S; intro a S
    obtain ⟨x_17, ex_17, h⟩ := bindS h
    refine w_go S rfl (op_arith S .i64 (x1 + 1) rfl (.inl rfl) rfl rfl rfl rfl ex_17 ?_)
    clear S; intro a S
    refine wl_pure (l' := [(6, .int .i64 x_17), (17, .int .i64 x_17), (16, .int .i64 x1), (5, .int .i64 t_12), (0, v0), (1, .int .i64 x1)]) S tys tys_ok 1 (by kernel_rfl) ?_
    clear S; intro a S
    refine wpList_nil ?_
    refine then_n ?_
    replace S := S.sub (l' := [(6, .int .i64 x_17), (5, .int .i64 t_12), (0, v0), (1, .int .i64 x1)]) (by exact ⟨rfl, rfl, rfl, rfl, trivial⟩)
    obtain ⟨y_26, ey_26, h⟩ := bindS h
    refine wp_cut_ (fun a_ w_ => St 50 a_ [(0, v0), (1, .int .i64 x1), (5, .int .i64 y_26)] ∧ Wd w w_ [] ∧ InR .i64 y_26 ∧ RepV (.sl gt1) w_ (Kx K w.heap.size []) v0 x0) ?_ ?_
    · refine wp_block ?_
      refine wp_loop_n (fun m_ a_ w_ => ∃ (c_18 : Int) (c_20 : Int) , St 50 a_ [(6, .int .i64 c_18), (5, .int .i64 c_20), (0, v0), (1, .int .i64 x1)] ∧ Wd w w_ [] ∧ InR .i64 c_18 ∧ InR .i64 c_20 ∧ RepV (.sl gt1) w_ (Kx K w.heap.size []) v0 x0 ∧ p21_l1 n x0 x1 (p21 n) m_ c_18 c_20 = some y_26) n ?_ ?_
      · skip
        exact ⟨x_17, t_12, ⟨S.sub (by exact ⟨rfl, rfl, rfl, rfl, trivial⟩), W, (ckI_some ex_17).2.1, GR_14, R0, ey_26⟩⟩
      · clear S W; rintro m_28 a w_30 ⟨c_18, c_20, S, W, G_19, G_21, R0, hl_29⟩
        cases m_28 with
        | zero => exact absurd hl_29 (by simp [p21_l1])
        | succ m_28 =>
          refine ⟨m_28, rfl, ?_⟩
          rw [p21_l1] at hl_29
          refine wp_seq ?_
          refine wp_seq ?_
          refine wp_region_lit ?_
          refine wl_pure (l' := [(19, v0), (18, .int .i64 c_18), (6, .int .i64 c_18), (5, .int .i64 c_20), (0, v0), (1, .int .i64 x1)]) S tys tys_ok 2 (by kernel_rfl) ?_
          clear S; intro a S
          refine w_go S rfl (op_len (K := _) S rfl ty24 rfl rfl rfl R0 ?_)
          clear S; intro a G_31 S
          refine wl_pureK (l' := [(22, .bool (decide (c_18 < (lenI x0)))), (6, .int .i64 c_18), (5, .int .i64 c_20), (0, v0), (1, .int .i64 x1)]) S tys tys_ok 2 [22, 6, 5, 0, 1] (by kernel_rfl) ?_
          clear S; intro a S
          obtain ⟨q_32, eq_32, hl_29⟩ := bindS hl_29
          refine seg 7 (fun a_ w_ => w_30 = w_ ∧ St 50 a_ [(29, .bool q_32), (6, .int .i64 c_18), (5, .int .i64 c_20), (0, v0), (1, .int .i64 x1)]) ?_ ?_
          · by_cases hc : (decide (c_18 < (lenI x0))) = true
            · rw [if_pos hc] at eq_32; rw [hc] at S
              refine wl_pure (l' := [(24, .int .i64 x1), (23, v0), (22, .bool true), (6, .int .i64 c_18), (5, .int .i64 c_20), (0, v0), (1, .int .i64 x1)]) S tys tys_ok 2 (by kernel_rfl) ?_
              clear S; intro a S
              obtain ⟨y_33, ey_33, eq_32⟩ := bindS eq_32
              refine w_go S rfl (op_indexAddr S rfl ty24 rfl rfl rfl R0 rfl ey_33 ?_)
              clear S; intro a p_34 R_35 H_36 S
              refine wl_pure (l' := [(26, .pointer (some (p_34.add (coff gf1 3)))), (25, .pointer (some p_34)), (24, .int .i64 x1), (23, v0), (22, .bool true), (6, .int .i64 c_18), (5, .int .i64 c_20), (0, v0), (1, .int .i64 x1)]) S tys tys_ok 1 (by kernel_rfl) ?_
              clear S; intro a S
              refine w_go S rfl (op_load (t := .bool) (x := y_33.2.2.2.1) S rfl ty4 rfl rfl rfl (RepAt.add 3 (RepAt.st (t := gf1) R_35)) ?_)
              clear S; intro a v_37 R_38 S
              obtain rfl := RepV.bool R_38
              refine wl_pure (l' := [(29, .bool (!y_33.2.2.2.1)), (28, .bool (!y_33.2.2.2.1)), (27, .bool y_33.2.2.2.1), (26, .pointer (some (p_34.add (coff gf1 3)))), (25, .pointer (some p_34)), (24, .int .i64 x1), (23, v0), (22, .bool true), (6, .int .i64 c_18), (5, .int .i64 c_20), (0, v0), (1, .int .i64 x1)]) S tys tys_ok 2 (by kernel_rfl) ?_
              clear S; intro a S
              obtain rfl := Option.some.inj eq_32
              exact ⟨rfl, S.sub (by exact ⟨rfl, rfl, rfl, rfl, rfl, trivial⟩)⟩
            · rw [if_neg hc] at eq_32; rw [show (decide (c_18 < (lenI x0))) = false from Bool.eq_false_iff.2 hc] at S
              refine wl_pure (l' := [(29, .bool false), (28, undef), (27, undef), (26, undef), (25, undef), (24, undef), (23, undef), (22, .bool false), (6, .int .i64 c_18), (5, .int .i64 c_20), (0, v0), (1, .int .i64 x1)]) S tys tys_ok 7 (by kernel_rfl) ?_
              clear S; intro a S
              obtain rfl := Option.some.inj eq_32
              exact ⟨rfl, S.sub (by exact ⟨rfl, rfl, rfl, rfl, rfl, trivial⟩)⟩
          clear S eq_32; rintro a _ ⟨rfl, S⟩
          refine wpList_nil ?_
          refine then_n ?_
          refine wp_cond_split (S.eval (show ev _ _ = some (.bool q_32) from rfl)) ?_ ?_
          · intro hc
            rw [if_pos hc] at hl_29
            refine wp_skip ?_
            refine then_n ?_
            replace S := S.sub (l' := [(6, .int .i64 c_18), (5, .int .i64 c_20), (0, v0), (1, .int .i64 x1)]) (by exact ⟨rfl, rfl, rfl, rfl, trivial⟩)
            refine wp_seq ?_
            refine wp_block ?_
            refine wp_seq ?_
            refine wp_region_lit ?_
            refine wl_pure (l' := [(33, .int .i64 c_18), (32, v0), (6, .int .i64 c_18), (5, .int .i64 c_20), (0, v0), (1, .int .i64 x1)]) S tys tys_ok 2 (by kernel_rfl) ?_
            clear S; intro a S
            obtain ⟨y_39, ey_39, hl_29⟩ := bindS hl_29
            refine w_go S rfl (op_indexAddr S rfl ty24 rfl rfl rfl R0 rfl ey_39 ?_)
            clear S; intro a p_40 R_41 H_42 S
            refine wl_pureK (l' := [(35, .pointer (some (p_40.add (coff gf1 0)))), (6, .int .i64 c_18), (5, .int .i64 c_20), (0, v0), (1, .int .i64 x1)]) S tys tys_ok 1 [35, 6, 5, 0, 1] (by kernel_rfl) ?_
            clear S; intro a S
            refine w_go S rfl (op_load (t := (.int .i64)) (x := y_39.1) S rfl ty3 rfl rfl rfl (RepAt.add 0 (RepAt.st (t := gf1) R_41)) ?_)
            clear S; intro a v_43 R_44 S
            obtain ⟨rfl, GR_44⟩ := RepV.int R_44
            refine wl_pureK (l' := [(38, .bool (y_39.1 == x1)), (6, .int .i64 c_18), (5, .int .i64 c_20), (0, v0), (1, .int .i64 x1)]) S tys tys_ok 2 [38, 6, 5, 0, 1] (by kernel_rfl) ?_
            clear S; intro a S
            refine wpList_nil ?_
            refine then_n ?_
            obtain ⟨j_45, ej_45, hl_29⟩ := bindS hl_29
            refine wp_cut_ (fun a_ w_ => St 50 a_ [(6, .int .i64 c_18), (5, .int .i64 j_45), (0, v0), (1, .int .i64 x1)] ∧ Wd w w_ [] ∧ InR .i64 j_45 ∧ RepV (.sl gt1) w_ (Kx K w.heap.size []) v0 x0) ?_ ?_
            · refine wp_cond_split (S.eval (show ev _ _ = some (.bool (y_39.1 == x1)) from rfl)) ?_ ?_
              · intro hc
                rw [if_pos hc] at ej_45
                refine wp_region_lit ?_
                refine wl_pure (l' := [(41, .int .i64 c_18), (40, v0), (39, .int .i64 c_20), (38, .bool (y_39.1 == x1)), (6, .int .i64 c_18), (5, .int .i64 c_20), (0, v0), (1, .int .i64 x1)]) S tys tys_ok 3 (by kernel_rfl) ?_
                clear S; intro a S
                obtain ⟨t_47, et_47, ej_45⟩ := bindS ej_45
                refine w_go S rfl (op_call (vs := [v0, .int .i64 c_18]) S rfl cb21 rfl rfl rfl (IH_ (Kx K w.heap.size []) w_30 x0 _ R0 c_18 G_19 _ et_47) ?_)
                rintro _ w_51 ⟨v_48, rfl, R_49, hb_50⟩; refine ⟨_, rfl, ?_⟩
                replace R_49 := RepV.back R_49 W
                clear S; intro a S
                replace R0 := R0.step hb_50
                replace W := W.step hb_50
                obtain ⟨rfl, GR_49⟩ := RepV.int R_49
                obtain ⟨x_52, ex_52, ej_45⟩ := bindS ej_45
                refine w_go S rfl (op_arith S .i64 (c_20 + t_47) rfl (.inl rfl) rfl rfl rfl rfl ex_52 ?_)
                clear S; intro a S
                refine wl_pureK (l' := [(5, .int .i64 x_52), (6, .int .i64 c_18), (5, .int .i64 c_20), (0, v0), (1, .int .i64 x1)]) S tys tys_ok 1 [5, 6, 0, 1] (by kernel_rfl) ?_
                clear S; intro a S
                refine wpList_nil ?_
                refine then_n ?_
                obtain rfl := Option.some.inj ej_45
                exact ⟨S.sub (by exact ⟨rfl, rfl, rfl, rfl, trivial⟩), W, (ckI_some ex_52).2.1, R0⟩
              · intro hc
                rw [if_neg (Bool.eq_false_iff.1 hc)] at ej_45
                refine wp_skip ?_
                refine then_n ?_
                obtain rfl := Option.some.inj ej_45
                exact ⟨S.sub (by exact ⟨rfl, rfl, rfl, rfl, trivial⟩), W, G_21, R0⟩
            clear S W; rintro a w_53 ⟨S, W, G_46, R0⟩
            refine blk_n ?_
            refine then_n ?_
            refine wp_region_lit ?_
            refine wl_pure (l' := [(30, .int .i64 c_18), (6, .int .i64 c_18), (5, .int .i64 j_45), (0, v0), (1, .int .i64 x1)]) S tys tys_ok 1 (by kernel_rfl) ?_
            clear S; intro a S
            obtain ⟨x_54, ex_54, hl_29⟩ := bindS hl_29
            refine w_go S rfl (op_arith S .i64 (c_18 + 1) rfl (.inl rfl) rfl rfl rfl rfl ex_54 ?_)
            clear S; intro a S
            refine wl_pure (l' := [(6, .int .i64 x_54), (31, .int .i64 x_54), (30, .int .i64 c_18), (6, .int .i64 c_18), (5, .int .i64 j_45), (0, v0), (1, .int .i64 x1)]) S tys tys_ok 1 (by kernel_rfl) ?_
            clear S; intro a S
            refine wpList_nil ?_
            refine then_n ?_
            exact ⟨x_54, j_45, ⟨S.sub (by exact ⟨rfl, rfl, rfl, rfl, trivial⟩), W, (ckI_some ex_54).2.1, G_46, R0, hl_29⟩⟩
          · intro hc
            rw [if_neg (Bool.eq_false_iff.1 hc)] at hl_29
            refine wp_exit ?_
            refine then_x ?_
            refine then_x ?_
            refine blk_hit ?_
            refine then_n ?_
            obtain rfl := Option.some.inj hl_29
            exact ⟨S.sub (by exact ⟨rfl, rfl, rfl, trivial⟩), W, G_21, R0⟩
    clear S W; rintro a w_55 ⟨S, W, G_27, R0⟩
    refine then_n ?_
    refine wp_seq ?_
    refine wp_seq ?_
    refine wp_region_lit ?_
    refine wl_pure (l' := [(46, .int .i64 x1), (45, v0), (44, .int .i64 y_26), (0, v0), (1, .int .i64 x1), (5, .int .i64 y_26)]) S tys tys_ok 3 (by kernel_rfl) ?_
    clear S; intro a S
    obtain ⟨t_56, et_56, h⟩ := bindS h
    refine w_go S rfl (op_call (vs := [v0, .int .i64 x1]) S rfl cb11 rfl rfl rfl (c11 (Kx K w.heap.size []) n w_55 x0 _ R0 x1 G1 et_56) ?_)
    rintro _ w_60 ⟨v_57, rfl, R_58, hb_59⟩; refine ⟨_, rfl, ?_⟩
    replace R_58 := RepV.back R_58 W
    clear S; intro a S
    replace R0 := R0.step hb_59
    replace W := W.step hb_59
    obtain ⟨rfl, GR_58⟩ := RepV.int R_58
    refine wl_pureK (l' := [(48, .bool (decide (y_26 > t_56))), (5, .int .i64 y_26)]) S tys tys_ok 1 [48, 5] (by kernel_rfl) ?_
    clear S; intro a S
    refine wpList_nil ?_
    refine then_n ?_
    refine wp_cond_split (S.eval (show ev _ _ = some (.bool (decide (y_26 > t_56))) from rfl)) ?_ ?_
    · intro hc
      rw [if_pos hc] at h
      refine wp_seq ?_
      refine wp_region_lit ?_
      refine wl_pure (l' := [(4, .int .i64 0), (48, .bool (decide (y_26 > t_56))), (5, .int .i64 y_26)]) S tys tys_ok 1 (by kernel_rfl) ?_
      clear S; intro a S
      refine wpList_nil ?_
      refine then_n ?_
      replace S := S.sub (l' := [(4, .int .i64 0)]) (by exact ⟨rfl, trivial⟩)
      refine wp_ret ?_
      refine then_r ?_
      obtain rfl := Option.some.inj h
      exact b_ret1 S rfl rfl ⟨_, rfl, (RepV.mkInt (by decide)), W.below⟩
    · intro hc
      rw [if_neg (Bool.eq_false_iff.1 hc)] at h
      refine wp_skip ?_
      refine then_n ?_
      replace S := S.sub (l' := [(5, .int .i64 y_26)]) (by exact ⟨rfl, trivial⟩)
      refine wp_seq ?_
      refine wp_region_lit ?_
      refine wl_pure (l' := [(4, .int .i64 y_26), (49, .int .i64 y_26), (5, .int .i64 y_26)]) S tys tys_ok 2 (by kernel_rfl) ?_
      clear S; intro a S
      refine wpList_nil ?_
      refine then_n ?_
      replace S := S.sub (l' := [(4, .int .i64 y_26)]) (by exact ⟨rfl, trivial⟩)
      refine wp_ret ?_
      obtain rfl := Option.some.inj h
      exact b_ret1 S rfl rfl ⟨_, rfl, (RepV.mkInt G_27), W.below⟩
theorem c21 (K : Nat → Prop) (n : Nat) (w : World) (x0 : Sl (Int × Int × Bool × Bool × Bool × Bool × Int)) (v0 : Value) (R0 : RepV (.sl gt1) w K v0 x0) (x1 : Int) (G1 : InR .i64 x1) {r : (Int)} (h : p21 n x0 x1 = some r) :
    Calls Try.prog 21 #[v0, .int .i64 x1] w (Ret1 (.int .i64) w (Kx K w.heap.size []) r) := c21_all n K w x0 v0 R0 x1 G1 r h
def p4_l1 (n : Nat) (t_1 : (Sl (Int × Int × Bool × Bool × Bool × Bool × Int))) : Nat → (Int) → (List (Int)) → Option ((List (Int)))
  | 0, _, _ => .none
  | m + 1, c_12, c_14 => if (decide (c_12 ≥ 0)) then ((p10 n (⟨t_1.xs, t_1.cap⟩ : Sl (Int × Int × Bool × Bool × Bool × Bool × Int)) c_12 c_14).bind fun t_24 => (p11 n (⟨t_1.xs, t_1.cap⟩ : Sl (Int × Int × Bool × Bool × Bool × Bool × Int)) c_12).bind fun t_29 => (if (decide (t_24 > t_29)) then ((idx c_14 c_12).bind fun y_35 => some (c_14.set c_12.toNat 1)) else some c_14).bind fun (j_34 : (List (Int))) => (ckI .i64 (c_12 - 1)).bind fun x_39 => p4_l1 n t_1 m x_39 j_34) else some c_14
def p4_l2 (n : Nat) (t_1 : (Sl (Int × Int × Bool × Bool × Bool × Bool × Int))) : Nat → (Int) → (List (Int)) → (List (Int)) → Option ((List (Int)) × (List (Int)))
  | 0, _, _, _ => .none
  | m + 1, c_41, c_43, c_46 => if (decide (c_41 < (lenI (⟨t_1.xs, t_1.cap⟩ : Sl (Int × Int × Bool × Bool × Bool × Bool × Int))))) then ((idx t_1.xs c_41).bind fun y_61 => (if (decide (y_61.1 ≥ 0)) = true then (idx t_1.xs c_41).bind fun y_68 => (idx c_46 y_68.1).bind fun y_74 => some (y_74 == 1) else some false).bind fun q_67 => (if q_67 then ((idx c_46 c_41).bind fun y_78 => some (c_46.set c_41.toNat 1)) else some c_46).bind fun (j_77 : (List (Int))) => (idx j_77 c_41).bind fun y_82 => (if (y_82 == 1) then ((appI c_43 ([c_41])).bind fun l_92 => some l_92) else some c_43).bind fun (j_85 : (List (Int))) => (ckI .i64 (c_41 + 1)).bind fun x_98 => p4_l2 n t_1 m x_98 j_85 j_77) else some (c_43, c_46)
def p4_l3 (n : Nat) (t_1 : (Sl (Int × Int × Bool × Bool × Bool × Bool × Int))) (y_53 : (List (Int)) × (List (Int))) : Nat → (Int) → (List (Int × Int × Bool × Bool × Bool × Bool × Int)) → (List (Int)) → Option ((List (Int × Int × Bool × Bool × Bool × Bool × Int)) × (List (Int)))
  | 0, _, _, _ => .none
  | m + 1, c_119, c_121, c_124 => if (decide (c_119 < (lenI (⟨t_1.xs, t_1.cap⟩ : Sl (Int × Int × Bool × Bool × Bool × Bool × Int))))) then ((idx y_53.2 c_119).bind fun y_139 => if (y_139 == 1) then ((ckI .i64 (c_119 + 1)).bind fun x_142 => p4_l3 n t_1 y_53 m x_142 c_121 c_124) else (idx (⟨t_1.xs, t_1.cap⟩ : Sl (Int × Int × Bool × Bool × Bool × Bool × Int)).xs c_119).bind fun y_143 => (if (decide (y_143.1 ≥ 0)) then ((idx c_124 y_143.1).bind fun y_160 => some (y_160, y_143.2.1, y_143.2.2.1, y_143.2.2.2.1, y_143.2.2.2.2.1, y_143.2.2.2.2.2.1, y_143.2.2.2.2.2.2)) else some y_143).bind fun (j_157 : (Int × Int × Bool × Bool × Bool × Bool × Int)) => (idx c_124 c_119).bind fun y_167 => (appI c_121 ([j_157])).bind fun l_176 => (ckI .i64 (c_119 + 1)).bind fun x_181 => p4_l3 n t_1 y_53 m x_181 l_176 (c_124.set c_119.toNat (lenI (⟨c_121, .none⟩ : Sl (Int × Int × Bool × Bool × Bool × Bool × Int))))) else some (c_121, c_124)
def p4_l5 (n : Nat) (t_1 : (Sl (Int × Int × Bool × Bool × Bool × Bool × Int))) (y_205 : Int) : Nat → (Int) → (Int) → Option ((Int))
  | 0, _, _ => .none
  | m + 1, c_243, c_245 => (if (decide (c_243 < (lenI (⟨t_1.xs, t_1.cap⟩ : Sl (Int × Int × Bool × Bool × Bool × Bool × Int))))) = true then (idx (⟨t_1.xs, t_1.cap⟩ : Sl (Int × Int × Bool × Bool × Bool × Bool × Int)).xs y_205).bind fun y_258 => some (!y_258.2.2.2.1) else some false).bind fun q_257 => if q_257 then ((idx (⟨t_1.xs, t_1.cap⟩ : Sl (Int × Int × Bool × Bool × Bool × Bool × Int)).xs c_243).bind fun y_264 => (if (y_264.1 == y_205) then ((p21 n (⟨t_1.xs, t_1.cap⟩ : Sl (Int × Int × Bool × Bool × Bool × Bool × Int)) c_243).bind fun t_272 => (ckI .i64 (c_245 + t_272)).bind fun x_277 => some x_277) else some c_245).bind fun (j_270 : (Int)) => (ckI .i64 (c_243 + 1)).bind fun x_279 => p4_l5 n t_1 y_205 m x_279 j_270) else some c_245
def p4_l4 (n : Nat) (t_1 : (Sl (Int × Int × Bool × Bool × Bool × Bool × Int))) (t_101 : (Sl (Int)) × (Int)) : Nat → (Int) → (List (Int)) → Option (((List (Int))) ⊕ ((Bool)))
  | 0, _, _ => .none
  | m + 1, c_193, c_195 => if (decide (c_193 < (lenI t_101.1))) then ((idx t_101.1.xs c_193).bind fun y_205 => (idx (⟨t_1.xs, t_1.cap⟩ : Sl (Int × Int × Bool × Bool × Bool × Bool × Int)).xs y_205).bind fun y_211 => (if (decide (y_211.1 ≥ 0)) = true then (idx (⟨t_1.xs, t_1.cap⟩ : Sl (Int × Int × Bool × Bool × Bool × Bool × Int)).xs y_205).bind fun y_218 => (idx c_195 y_218.1).bind fun y_224 => some (y_224 == 1) else some false).bind fun q_217 => if q_217 then ((ckI .i64 (c_193 + 1)).bind fun x_227 => p4_l4 n t_1 t_101 m x_227 c_195) else (idx c_195 y_205).bind fun y_228 => (idx (⟨t_1.xs, t_1.cap⟩ : Sl (Int × Int × Bool × Bool × Bool × Bool × Int)).xs y_205).bind fun y_231 => (p13 n y_231).bind fun t_237 => (ckI .i64 (y_205 + 1)).bind fun x_242 => (p4_l5 n t_1 y_205 n x_242 t_237).bind fun (y_251 : (Int)) => (idx (c_195.set y_205.toNat 0) y_205).bind fun y_281 => (p11 n (⟨t_1.xs, t_1.cap⟩ : Sl (Int × Int × Bool × Bool × Bool × Bool × Int)) y_205).bind fun t_284 => if (decide (y_251 ≤ t_284)) then (some (.inr false)) else (ckI .i64 (c_193 + 1)).bind fun x_289 => p4_l4 n t_1 t_101 m x_289 ((c_195.set y_205.toNat 0).set y_205.toNat 1)) else some (.inl c_195)
def p4 (n : Nat) (x0 : Sl (Int × Int × Int × Int)) : Option ((Bool)) :=
  (p9 n x0).bind fun t_1 =>
  (ckI .i64 ((lenI (⟨t_1.xs, t_1.cap⟩ : Sl (Int × Int × Bool × Bool × Bool × Bool × Int))) - 1)).bind fun x_11 =>
  (p4_l1 n t_1 n x_11 (List.replicate 128 (0 : Int))).bind fun (y_18 : (List (Int))) =>
  (p4_l2 n t_1 n 0 [] y_18).bind fun (y_53 : (List (Int)) × (List (Int))) =>
  (p20 n (⟨t_1.xs, t_1.cap⟩ : Sl (Int × Int × Bool × Bool × Bool × Bool × Int))).bind fun t_101 =>
  (if (t_101.2 != 0) = false then (p18 n t_101.1 (⟨y_53.1, .none⟩ : Sl (Int))).bind fun t_109 => some (!t_109) else some true).bind fun q_108 =>
  if q_108 then (some false) else (p4_l3 n t_1 y_53 n 0 [] (List.replicate 128 (0 : Int))).bind fun (y_131 : (List (Int × Int × Bool × Bool × Bool × Bool × Int)) × (List (Int))) => (p16 n (⟨y_131.1, .none⟩ : Sl (Int × Int × Bool × Bool × Bool × Bool × Int))).bind fun t_184 => (if (t_184.2 != 0) = false then some ((lenI t_184.1) != 0) else some true).bind fun q_191 => if q_191 then (some false) else (p4_l4 n t_1 t_101 n 0 y_53.2).bind fun (y_199 : ((List (Int))) ⊕ ((Bool))) => lrK y_199 some fun (s_200 : (List (Int))) => (p19 n).bind fun t_291 => some t_291
set_option maxHeartbeats 4000000 in
set_option maxRecDepth 100000 in
/-- plugboard/plugboardlaw19.PowersCut -/
theorem c4 (K : Nat → Prop) (n : Nat) (w : World) (x0 : Sl (Int × Int × Int × Int)) (v0 : Value) (R0 : RepV (.sl gt0) w K v0 x0) {r : (Bool)} (h : p4 n x0 = some r) :
    Calls Try.prog 4 #[v0] w (Ret1 .bool w (Kx K w.heap.size []) r) := by
  refine enter (args := [v0]) Try.func4 rfl 195 rfl rfl fun a S => ?_
  have W := Wd.start w
  replace R0 := R0.arg
  unfold p4 at h
  replace S : St 195 a [(0, v0)] := S
  refine wp_seq ?_
  refine wp_region_lit ?_
  refine wl_pure (l' := [(2, .bool false), (0, v0)]) S tys tys_ok 1 (by kernel_rfl) ?_
  clear S; intro a S
  refine wpList_nil ?_
  refine then_n ?_
  replace S := S.sub (l' := [(0, v0)]) (by exact ⟨rfl, trivial⟩)
  refine wp_seq ?_
  refine wp_region_lit ?_
  refine wl_pure (l' := [(20, v0), (0, v0)]) S tys tys_ok 1 (by kernel_rfl) ?_
  clear S; intro a S
  obtain ⟨t_1, et_1, h⟩ := bindS h
  refine w_go S rfl (op_call (vs := [v0]) S rfl cb9 rfl rfl rfl (c9 (Kx K w.heap.size []) n w x0 _ R0 et_1) ?_)
  rintro _ w_5 ⟨v_2, rfl, R_3, hb_4⟩; refine ⟨_, rfl, ?_⟩
  have NO_ := newO_of R_3 (Nat.le_refl _) hb_4
  replace R_3 := Ow.backO R_3 W
  clear S; intro a S
  replace R0 := R0.newO NO_
  replace W := W.newO NO_
  clear NO_
  refine wl_pureK (l' := [(3, v_2)]) S tys tys_ok 1 [3] (by kernel_rfl) ?_
  clear S; intro a S
  refine wpList_nil ?_
  refine then_n ?_
  refine wp_seq ?_
  refine wp_region_lit ?_
  refine w_go S rfl (op_alloc (K := K) (n := w.heap.size) (L := [v_2.ownBlock]) (t := (.arr 128 (.int .i64))) (y := (List.replicate 128 (0 : Int))) S rfl rfl rfl _ z26 (fun w K => (rep_replicate (e := (.int .i64)) (z := 0) (cs := [.int .i64 0]) (⟨rfl, by decide⟩) 128)) ?_)
  clear S; intro a w_8 b_6 hb_9 B_7 S
  replace R_3 := R_3.box hb_9
  replace W := W.box hb_9
  refine wpList_nil ?_
  refine then_n ?_
  refine wp_seq ?_
  refine wp_seq ?_
  refine wp_region_lit ?_
  refine wl_pure (l' := [(22, v_2), (4, pB b_6), (3, v_2)]) S tys tys_ok 1 (by kernel_rfl) ?_
  clear S; intro a S
  refine w_go S rfl (op_len (K := _) S rfl ty24 rfl rfl rfl R_3.read ?_)
  clear S; intro a G_10 S
  obtain ⟨x_11, ex_11, h⟩ := bindS h
  refine w_go S rfl (op_arith S .i64 ((lenI (⟨t_1.xs, t_1.cap⟩ : Sl (Int × Int × Bool × Bool × Bool × Bool × Int))) - 1) rfl (.inr (.inl rfl)) rfl rfl rfl rfl ex_11 ?_)
  clear S; intro a S
  refine wl_pureK (l' := [(5, .int .i64 x_11), (4, pB b_6), (3, v_2)]) S tys tys_ok 1 [5, 4, 3] (by kernel_rfl) ?_
  clear S; intro a S
  refine wpList_nil ?_
  refine then_n ?_
  obtain ⟨y_18, ey_18, h⟩ := bindS h
  refine wp_cut_ (fun a_ w_ => St 195 a_ [(3, v_2), (4, pB b_6)] ∧ Wd w w_ [some b_6, v_2.ownBlock] ∧ Bx (.arr 128 (.int .i64)) 26 w_ (Kx K w.heap.size [some b_6, v_2.ownBlock]) b_6 y_18 ∧ Ow gt1 32 w_ w.heap.size (Kx K w.heap.size [some b_6, v_2.ownBlock]) v_2 t_1.xs t_1.cap) ?_ ?_
  · refine wp_block ?_
    refine wp_loop_n (fun m_ a_ w_ => ∃ (c_12 : Int) (c_14 : List (Int)) , St 195 a_ [(5, .int .i64 c_12), (4, pB b_6), (3, v_2)] ∧ Wd w w_ [some b_6, v_2.ownBlock] ∧ InR .i64 c_12 ∧ Bx (.arr 128 (.int .i64)) 26 w_ (Kx K w.heap.size [some b_6, v_2.ownBlock]) b_6 c_14 ∧ Ow gt1 32 w_ w.heap.size (Kx K w.heap.size [some b_6, v_2.ownBlock]) v_2 t_1.xs t_1.cap ∧ p4_l1 n t_1 m_ c_12 c_14 = some y_18) n ?_ ?_
    · skip
      exact ⟨x_11, (List.replicate 128 (0 : Int)), ⟨S.sub (by exact ⟨rfl, rfl, rfl, trivial⟩), W, (ckI_some ex_11).2.1, B_7, R_3, ey_18⟩⟩
    · clear S W; rintro m_19 a w_21 ⟨c_12, c_14, S, W, G_13, B_7, R_3, hl_20⟩
      cases m_19 with
      | zero => exact absurd hl_20 (by simp [p4_l1])
      | succ m_19 =>
        refine ⟨m_19, rfl, ?_⟩
        rw [p4_l1] at hl_20
        refine wp_seq ?_
        refine wp_seq ?_
        refine wp_region_lit ?_
        refine wl_pure (l' := [(26, .bool (decide (c_12 ≥ 0))), (25, .int .i64 c_12), (5, .int .i64 c_12), (4, pB b_6), (3, v_2)]) S tys tys_ok 2 (by kernel_rfl) ?_
        clear S; intro a S
        refine wpList_nil ?_
        refine then_n ?_
        replace S := S.sub (l' := [(26, .bool (decide (c_12 ≥ 0))), (5, .int .i64 c_12), (4, pB b_6), (3, v_2)]) (by exact ⟨rfl, rfl, rfl, rfl, trivial⟩)
        refine wp_cond_split (S.eval (show ev _ _ = some (.bool (decide (c_12 ≥ 0))) from rfl)) ?_ ?_
        · intro hc
          rw [if_pos hc] at hl_20
          refine wp_skip ?_
          refine then_n ?_
          replace S := S.sub (l' := [(5, .int .i64 c_12), (4, pB b_6), (3, v_2)]) (by exact ⟨rfl, rfl, rfl, trivial⟩)
          refine wp_seq ?_
          refine wp_block ?_
          refine wp_seq ?_
          refine wp_region_lit ?_
          refine wl_pure (l' := [(30, .int .i64 c_12), (29, v_2), (5, .int .i64 c_12), (4, pB b_6), (3, v_2)]) S tys tys_ok 2 (by kernel_rfl) ?_
          clear S; intro a S
          refine w_go S rfl (op_load (t := (.arr 128 (.int .i64))) (x := c_14) S rfl ty26 rfl rfl rfl B_7.at_ ?_)
          clear S; intro a v_22 R_23 S
          obtain ⟨t_24, et_24, hl_20⟩ := bindS hl_20
          refine w_go S rfl (op_call (vs := [v_2, .int .i64 c_12, v_22]) S rfl cb10 rfl rfl rfl (c10 (Kx K w.heap.size []) n w_21 (⟨t_1.xs, t_1.cap⟩ : Sl (Int × Int × Bool × Bool × Bool × Bool × Int)) _ (Ow.read R_3) c_12 G_13 c_14 _ R_23.out et_24) ?_)
          rintro _ w_28 ⟨v_25, rfl, R_26, hb_27⟩; refine ⟨_, rfl, ?_⟩
          clear S; intro a S
          replace R_23 := R_23.step hb_27
          replace B_7 := B_7.step hb_27
          replace R_3 := R_3.step hb_27
          replace W := W.step hb_27
          obtain ⟨rfl, GR_26⟩ := RepV.int R_26
          refine wl_pureK (l' := [(34, .int .i64 c_12), (33, v_2), (32, .int .i64 t_24), (5, .int .i64 c_12), (4, pB b_6), (3, v_2)]) S tys tys_ok 2 [34, 33, 32, 5, 4, 3] (by kernel_rfl) ?_
          clear S; intro a S
          obtain ⟨t_29, et_29, hl_20⟩ := bindS hl_20
          refine w_go S rfl (op_call (vs := [v_2, .int .i64 c_12]) S rfl cb11 rfl rfl rfl (c11 (Kx K w.heap.size []) n w_28 (⟨t_1.xs, t_1.cap⟩ : Sl (Int × Int × Bool × Bool × Bool × Bool × Int)) _ (Ow.read R_3) c_12 G_13 et_29) ?_)
          rintro _ w_33 ⟨v_30, rfl, R_31, hb_32⟩; refine ⟨_, rfl, ?_⟩
          clear S; intro a S
          replace B_7 := B_7.step hb_32
          replace R_3 := R_3.step hb_32
          replace W := W.step hb_32
          obtain ⟨rfl, GR_31⟩ := RepV.int R_31
          refine wl_pureK (l' := [(36, .bool (decide (t_24 > t_29))), (5, .int .i64 c_12), (4, pB b_6), (3, v_2)]) S tys tys_ok 1 [36, 5, 4, 3] (by kernel_rfl) ?_
          clear S; intro a S
          refine wpList_nil ?_
          refine then_n ?_
          obtain ⟨j_34, ej_34, hl_20⟩ := bindS hl_20
          refine wp_cut_ (fun a_ w_ => St 195 a_ [(5, .int .i64 c_12), (4, pB b_6), (3, v_2)] ∧ Wd w w_ [some b_6, v_2.ownBlock] ∧ Bx (.arr 128 (.int .i64)) 26 w_ (Kx K w.heap.size [some b_6, v_2.ownBlock]) b_6 j_34 ∧ Ow gt1 32 w_ w.heap.size (Kx K w.heap.size [some b_6, v_2.ownBlock]) v_2 t_1.xs t_1.cap) ?_ ?_
          · refine wp_cond_split (S.eval (show ev _ _ = some (.bool (decide (t_24 > t_29))) from rfl)) ?_ ?_
            · intro hc
              rw [if_pos hc] at ej_34
              refine wp_region_lit ?_
              refine wl_pure (l' := [(37, .int .i64 c_12), (36, .bool (decide (t_24 > t_29))), (5, .int .i64 c_12), (4, pB b_6), (3, v_2)]) S tys tys_ok 1 (by kernel_rfl) ?_
              clear S; intro a S
              obtain ⟨y_35, ey_35, ej_34⟩ := bindS ej_34
              refine w_go S rfl (op_indexAddr_arr S rfl ty26 rfl rfl rfl B_7.at_ rfl ey_35 ?_)
              clear S; intro a S
              refine w_go S rfl (op_store (t' := (.int .i64)) S rfl rfl ty3 rfl (addr_add1 _ _) rfl B_7 (by simp) (Ln.arr (n := 128) (by have h_ := (idx_some ey_35).2.2; have l_ := (B_7.at_).arr_len; omega) 0) ((RepV.mkInt (by decide)) : RepV (.int .i64) w_33 (Kx K w.heap.size [some b_6, v_2.ownBlock]) _ 1) ?_)
              intro w_36 hw_37 B_
              replace R_3 := R_3.wrote hw_37 (by simp) (W.one (p := 1) (q := 0) (by decide) rfl rfl)
              replace W := W.wrote hw_37 (by simp)
              replace B_7 : Bx (.arr 128 (.int .i64)) 26 w_36 (Kx K w.heap.size [some b_6, v_2.ownBlock]) b_6 (c_14.set c_12.toNat 1) := B_; clear B_
              refine wpList_nil ?_
              refine then_n ?_
              obtain rfl := Option.some.inj ej_34
              exact ⟨S.sub (by exact ⟨rfl, rfl, rfl, trivial⟩), W, B_7, R_3⟩
            · intro hc
              rw [if_neg (Bool.eq_false_iff.1 hc)] at ej_34
              refine wp_skip ?_
              refine then_n ?_
              obtain rfl := Option.some.inj ej_34
              exact ⟨S.sub (by exact ⟨rfl, rfl, rfl, trivial⟩), W, B_7, R_3⟩
          clear S W; rintro a w_38 ⟨S, W, B_7, R_3⟩
          refine blk_n ?_
          refine then_n ?_
          refine wp_region_lit ?_
          refine wl_pure (l' := [(27, .int .i64 c_12), (5, .int .i64 c_12), (4, pB b_6), (3, v_2)]) S tys tys_ok 1 (by kernel_rfl) ?_
          clear S; intro a S
          obtain ⟨x_39, ex_39, hl_20⟩ := bindS hl_20
          refine w_go S rfl (op_arith S .i64 (c_12 - 1) rfl (.inr (.inl rfl)) rfl rfl rfl rfl ex_39 ?_)
          clear S; intro a S
          refine wl_pure (l' := [(5, .int .i64 x_39), (28, .int .i64 x_39), (27, .int .i64 c_12), (5, .int .i64 c_12), (4, pB b_6), (3, v_2)]) S tys tys_ok 1 (by kernel_rfl) ?_
          clear S; intro a S
          refine wpList_nil ?_
          refine then_n ?_
          exact ⟨x_39, j_34, ⟨S.sub (by exact ⟨rfl, rfl, rfl, trivial⟩), W, (ckI_some ex_39).2.1, B_7, R_3, hl_20⟩⟩
        · intro hc
          rw [if_neg (Bool.eq_false_iff.1 hc)] at hl_20
          refine wp_exit ?_
          refine then_x ?_
          refine then_x ?_
          refine blk_hit ?_
          refine then_n ?_
          obtain rfl := Option.some.inj hl_20
          exact ⟨S.sub (by exact ⟨rfl, rfl, trivial⟩), W, B_7, R_3⟩
  clear S W; rintro a w_40 ⟨S, W, B_7, R_3⟩
  refine then_n ?_
  refine wp_seq ?_
  refine wp_region_lit ?_
  refine wl_pure (l' := [(6, .slice .none 0 0), (3, v_2), (4, pB b_6)]) S tys tys_ok 1 (by kernel_rfl) ?_
  clear S; intro a S
  refine wpList_nil ?_
  refine then_n ?_
  refine wp_seq ?_
  refine wp_seq ?_
  refine wp_region_lit ?_
  refine wl_pure (l' := [(7, .int .i64 0), (6, .slice .none 0 0), (3, v_2), (4, pB b_6)]) S tys tys_ok 1 (by kernel_rfl) ?_
  clear S; intro a S
  refine wpList_nil ?_
  refine then_n ?_
  obtain ⟨y_53, ey_53, h⟩ := bindS h
  refine wp_cut_ (fun a_ w_ => ∃ (v_54 : Value), St 195 a_ [(3, v_2), (4, pB b_6), (6, v_54)] ∧ Wd w w_ [v_54.ownBlock, some b_6, v_2.ownBlock] ∧ Bx (.arr 128 (.int .i64)) 26 w_ (Kx K w.heap.size [v_54.ownBlock, some b_6, v_2.ownBlock]) b_6 y_53.2 ∧ Ow gt1 32 w_ w.heap.size (Kx K w.heap.size [v_54.ownBlock, some b_6, v_2.ownBlock]) v_2 t_1.xs t_1.cap ∧ Ow (.int .i64) 3 w_ w.heap.size (Kx K w.heap.size [v_54.ownBlock, some b_6, v_2.ownBlock]) v_54 y_53.1 .none) ?_ ?_
  · refine wp_block ?_
    refine wp_loop_n (fun m_ a_ w_ => ∃ (c_41 : Int) (c_43 : List (Int)) (c_46 : List (Int)) , ∃ (v_44 : Value), St 195 a_ [(7, .int .i64 c_41), (6, v_44), (3, v_2), (4, pB b_6)] ∧ Wd w w_ [v_44.ownBlock, some b_6, v_2.ownBlock] ∧ InR .i64 c_41 ∧ Bx (.arr 128 (.int .i64)) 26 w_ (Kx K w.heap.size [v_44.ownBlock, some b_6, v_2.ownBlock]) b_6 c_46 ∧ Ow (.int .i64) 3 w_ w.heap.size (Kx K w.heap.size [v_44.ownBlock, some b_6, v_2.ownBlock]) v_44 c_43 .none ∧ Ow gt1 32 w_ w.heap.size (Kx K w.heap.size [v_44.ownBlock, some b_6, v_2.ownBlock]) v_2 t_1.xs t_1.cap ∧ p4_l2 n t_1 m_ c_41 c_43 c_46 = some y_53) n ?_ ?_
    · skip
      replace B_7 := B_7.more
      replace R_3 := R_3.more
      replace W := W.more
      have O_58 : Ow (.int .i64) 3 w_40 w.heap.size (Kx K w.heap.size [.none, some b_6, v_2.ownBlock]) (.slice .none 0 0) ([] : List (Int)) (some 0) := Ow.nil
      exact ⟨0, [], y_18, ⟨(.slice .none 0 0), S.sub (by exact ⟨rfl, rfl, rfl, rfl, trivial⟩), W, (by decide), B_7, O_58.forget, R_3, ey_53⟩⟩
    · clear S W; rintro m_56 a w_59 ⟨c_41, c_43, c_46, v_44, S, W, G_42, B_7, O_45, R_3, hl_57⟩
      cases m_56 with
      | zero => exact absurd hl_57 (by simp [p4_l2])
      | succ m_56 =>
        refine ⟨m_56, rfl, ?_⟩
        rw [p4_l2] at hl_57
        refine wp_seq ?_
        refine wp_seq ?_
        refine wp_region_lit ?_
        refine wl_pure (l' := [(40, v_2), (39, .int .i64 c_41), (7, .int .i64 c_41), (6, v_44), (3, v_2), (4, pB b_6)]) S tys tys_ok 2 (by kernel_rfl) ?_
        clear S; intro a S
        refine w_go S rfl (op_len (K := _) S rfl ty24 rfl rfl rfl R_3.read ?_)
        clear S; intro a G_60 S
        refine wl_pureK (l' := [(42, .bool (decide (c_41 < (lenI (⟨t_1.xs, t_1.cap⟩ : Sl (Int × Int × Bool × Bool × Bool × Bool × Int)))))), (7, .int .i64 c_41), (6, v_44), (3, v_2), (4, pB b_6)]) S tys tys_ok 1 [42, 7, 6, 3, 4] (by kernel_rfl) ?_
        clear S; intro a S
        refine wpList_nil ?_
        refine then_n ?_
        refine wp_cond_split (S.eval (show ev _ _ = some (.bool (decide (c_41 < (lenI (⟨t_1.xs, t_1.cap⟩ : Sl (Int × Int × Bool × Bool × Bool × Bool × Int)))))) from rfl)) ?_ ?_
        · intro hc
          rw [if_pos hc] at hl_57
          refine wp_skip ?_
          refine then_n ?_
          replace S := S.sub (l' := [(7, .int .i64 c_41), (6, v_44), (3, v_2), (4, pB b_6)]) (by exact ⟨rfl, rfl, rfl, rfl, trivial⟩)
          refine wp_seq ?_
          refine wp_block ?_
          refine wp_seq ?_
          refine wp_seq ?_
          refine wp_region_lit ?_
          refine wl_pure (l' := [(46, .int .i64 c_41), (45, v_2), (7, .int .i64 c_41), (6, v_44), (3, v_2), (4, pB b_6)]) S tys tys_ok 2 (by kernel_rfl) ?_
          clear S; intro a S
          obtain ⟨y_61, ey_61, hl_57⟩ := bindS hl_57
          refine w_go S rfl (op_indexAddr_own S rfl ty24 rfl rfl rfl R_3 rfl ey_61 ?_)
          clear S; intro a g_62 H_64 R_63 S
          refine wl_pureK (l' := [(48, .pointer (some ((⟨g_62, c_41.toNat * GT.sz gt1, .none⟩ : Addr).add (coff gf1 0)))), (7, .int .i64 c_41), (6, v_44), (3, v_2), (4, pB b_6)]) S tys tys_ok 1 [48, 7, 6, 3, 4] (by kernel_rfl) ?_
          clear S; intro a S
          refine w_go S rfl (op_load (t := (.int .i64)) (x := y_61.1) S rfl ty3 rfl rfl rfl (RepAt.add 0 (RepAt.st (t := gf1) R_63)) ?_)
          clear S; intro a v_65 R_66 S
          obtain ⟨rfl, GR_66⟩ := RepV.int R_66
          refine wl_pureK (l' := [(51, .bool (decide (y_61.1 ≥ 0))), (7, .int .i64 c_41), (6, v_44), (3, v_2), (4, pB b_6)]) S tys tys_ok 2 [51, 7, 6, 3, 4] (by kernel_rfl) ?_
          clear S; intro a S
          obtain ⟨q_67, eq_67, hl_57⟩ := bindS hl_57
          refine seg 9 (fun a_ w_ => w_59 = w_ ∧ St 195 a_ [(60, .bool q_67), (7, .int .i64 c_41), (6, v_44), (3, v_2), (4, pB b_6)]) ?_ ?_
          · by_cases hc : (decide (y_61.1 ≥ 0)) = true
            · rw [if_pos hc] at eq_67; rw [hc] at S
              refine wl_pure (l' := [(53, .int .i64 c_41), (52, v_2), (51, .bool true), (7, .int .i64 c_41), (6, v_44), (3, v_2), (4, pB b_6)]) S tys tys_ok 2 (by kernel_rfl) ?_
              clear S; intro a S
              obtain ⟨y_68, ey_68, eq_67⟩ := bindS eq_67
              refine w_go S rfl (op_indexAddr_own S rfl ty24 rfl rfl rfl R_3 rfl ey_68 ?_)
              clear S; intro a g_69 H_71 R_70 S
              refine wl_pure (l' := [(55, .pointer (some ((⟨g_69, c_41.toNat * GT.sz gt1, .none⟩ : Addr).add (coff gf1 0)))), (54, .pointer (some (⟨g_69, c_41.toNat * GT.sz gt1, .none⟩ : Addr))), (53, .int .i64 c_41), (52, v_2), (51, .bool true), (7, .int .i64 c_41), (6, v_44), (3, v_2), (4, pB b_6)]) S tys tys_ok 1 (by kernel_rfl) ?_
              clear S; intro a S
              refine w_go S rfl (op_load (t := (.int .i64)) (x := y_68.1) S rfl ty3 rfl rfl rfl (RepAt.add 0 (RepAt.st (t := gf1) R_70)) ?_)
              clear S; intro a v_72 R_73 S
              obtain ⟨rfl, GR_73⟩ := RepV.int R_73
              obtain ⟨y_74, ey_74, eq_67⟩ := bindS eq_67
              refine w_go S rfl (op_indexAddr_arr S rfl ty26 rfl rfl rfl B_7.at_ rfl ey_74 ?_)
              clear S; intro a S
              refine w_go S rfl (op_load (t := (.int .i64)) (x := y_74) S rfl ty3 rfl rfl rfl (RepAt.ix B_7.at_ ey_74) ?_)
              clear S; intro a v_75 R_76 S
              obtain ⟨rfl, GR_76⟩ := RepV.int R_76
              refine wl_pure (l' := [(60, .bool (y_74 == 1)), (59, .bool (y_74 == 1)), (58, .int .i64 y_74), (57, .pointer (some ((⟨b_6, 0, .none⟩ : Addr).add (y_68.1.toNat * GT.sz (.int .i64))))), (56, .int .i64 y_68.1), (55, .pointer (some ((⟨g_69, c_41.toNat * GT.sz gt1, .none⟩ : Addr).add (coff gf1 0)))), (54, .pointer (some (⟨g_69, c_41.toNat * GT.sz gt1, .none⟩ : Addr))), (53, .int .i64 c_41), (52, v_2), (51, .bool true), (7, .int .i64 c_41), (6, v_44), (3, v_2), (4, pB b_6)]) S tys tys_ok 2 (by kernel_rfl) ?_
              clear S; intro a S
              obtain rfl := Option.some.inj eq_67
              exact ⟨rfl, S.sub (by exact ⟨rfl, rfl, rfl, rfl, rfl, trivial⟩)⟩
            · rw [if_neg hc] at eq_67; rw [show (decide (y_61.1 ≥ 0)) = false from Bool.eq_false_iff.2 hc] at S
              refine wl_pure (l' := [(60, .bool false), (59, undef), (58, undef), (57, undef), (56, undef), (55, undef), (54, undef), (53, undef), (52, undef), (51, .bool false), (7, .int .i64 c_41), (6, v_44), (3, v_2), (4, pB b_6)]) S tys tys_ok 9 (by kernel_rfl) ?_
              clear S; intro a S
              obtain rfl := Option.some.inj eq_67
              exact ⟨rfl, S.sub (by exact ⟨rfl, rfl, rfl, rfl, rfl, trivial⟩)⟩
          clear S eq_67; rintro a _ ⟨rfl, S⟩
          refine wpList_nil ?_
          refine then_n ?_
          obtain ⟨j_77, ej_77, hl_57⟩ := bindS hl_57
          refine wp_cut_ (fun a_ w_ => St 195 a_ [(7, .int .i64 c_41), (6, v_44), (3, v_2), (4, pB b_6)] ∧ Wd w w_ [v_44.ownBlock, some b_6, v_2.ownBlock] ∧ Bx (.arr 128 (.int .i64)) 26 w_ (Kx K w.heap.size [v_44.ownBlock, some b_6, v_2.ownBlock]) b_6 j_77 ∧ Ow (.int .i64) 3 w_ w.heap.size (Kx K w.heap.size [v_44.ownBlock, some b_6, v_2.ownBlock]) v_44 c_43 .none ∧ Ow gt1 32 w_ w.heap.size (Kx K w.heap.size [v_44.ownBlock, some b_6, v_2.ownBlock]) v_2 t_1.xs t_1.cap) ?_ ?_
          · refine wp_cond_split (S.eval (show ev _ _ = some (.bool q_67) from rfl)) ?_ ?_
            · intro hc
              rw [if_pos hc] at ej_77
              refine wp_region_lit ?_
              refine wl_pure (l' := [(61, .int .i64 c_41), (60, .bool q_67), (7, .int .i64 c_41), (6, v_44), (3, v_2), (4, pB b_6)]) S tys tys_ok 1 (by kernel_rfl) ?_
              clear S; intro a S
              obtain ⟨y_78, ey_78, ej_77⟩ := bindS ej_77
              refine w_go S rfl (op_indexAddr_arr S rfl ty26 rfl rfl rfl B_7.at_ rfl ey_78 ?_)
              clear S; intro a S
              refine w_go S rfl (op_store (t' := (.int .i64)) S rfl rfl ty3 rfl (addr_add1 _ _) rfl B_7 (by simp) (Ln.arr (n := 128) (by have h_ := (idx_some ey_78).2.2; have l_ := (B_7.at_).arr_len; omega) 0) ((RepV.mkInt (by decide)) : RepV (.int .i64) w_59 (Kx K w.heap.size [v_44.ownBlock, some b_6, v_2.ownBlock]) _ 1) ?_)
              intro w_79 hw_80 B_
              replace O_45 := O_45.wrote hw_80 (by simp) (W.one (p := 0) (q := 1) (by decide) rfl rfl)
              replace R_3 := R_3.wrote hw_80 (by simp) (W.one (p := 2) (q := 1) (by decide) rfl rfl)
              replace W := W.wrote hw_80 (by simp)
              replace B_7 : Bx (.arr 128 (.int .i64)) 26 w_79 (Kx K w.heap.size [v_44.ownBlock, some b_6, v_2.ownBlock]) b_6 (c_46.set c_41.toNat 1) := B_; clear B_
              refine wpList_nil ?_
              refine then_n ?_
              obtain rfl := Option.some.inj ej_77
              exact ⟨S.sub (by exact ⟨rfl, rfl, rfl, rfl, trivial⟩), W, B_7, O_45, R_3⟩
            · intro hc
              rw [if_neg (Bool.eq_false_iff.1 hc)] at ej_77
              refine wp_skip ?_
              refine then_n ?_
              obtain rfl := Option.some.inj ej_77
              exact ⟨S.sub (by exact ⟨rfl, rfl, rfl, rfl, trivial⟩), W, B_7, O_45, R_3⟩
          clear S W; rintro a w_81 ⟨S, W, B_7, O_45, R_3⟩
          refine then_n ?_
          refine wp_seq ?_
          refine wp_region_lit ?_
          refine wl_pure (l' := [(63, .int .i64 c_41), (7, .int .i64 c_41), (6, v_44), (3, v_2), (4, pB b_6)]) S tys tys_ok 1 (by kernel_rfl) ?_
          clear S; intro a S
          obtain ⟨y_82, ey_82, hl_57⟩ := bindS hl_57
          refine w_go S rfl (op_indexAddr_arr S rfl ty26 rfl rfl rfl B_7.at_ rfl ey_82 ?_)
          clear S; intro a S
          refine w_go S rfl (op_load (t := (.int .i64)) (x := y_82) S rfl ty3 rfl rfl rfl (RepAt.ix B_7.at_ ey_82) ?_)
          clear S; intro a v_83 R_84 S
          obtain ⟨rfl, GR_84⟩ := RepV.int R_84
          refine wl_pureK (l' := [(66, .bool (y_82 == 1)), (7, .int .i64 c_41), (6, v_44), (3, v_2), (4, pB b_6)]) S tys tys_ok 1 [66, 7, 6, 3, 4] (by kernel_rfl) ?_
          clear S; intro a S
          refine wpList_nil ?_
          refine then_n ?_
          obtain ⟨j_85, ej_85, hl_57⟩ := bindS hl_57
          refine wp_cut_ (fun a_ w_ => ∃ (v_86 : Value), St 195 a_ [(7, .int .i64 c_41), (6, v_86), (3, v_2), (4, pB b_6)] ∧ Wd w w_ [v_86.ownBlock, some b_6, v_2.ownBlock] ∧ Bx (.arr 128 (.int .i64)) 26 w_ (Kx K w.heap.size [v_86.ownBlock, some b_6, v_2.ownBlock]) b_6 j_77 ∧ Ow (.int .i64) 3 w_ w.heap.size (Kx K w.heap.size [v_86.ownBlock, some b_6, v_2.ownBlock]) v_86 j_85 .none ∧ Ow gt1 32 w_ w.heap.size (Kx K w.heap.size [v_86.ownBlock, some b_6, v_2.ownBlock]) v_2 t_1.xs t_1.cap) ?_ ?_
          · refine wp_cond_split (S.eval (show ev _ _ = some (.bool (y_82 == 1)) from rfl)) ?_ ?_
            · intro hc
              rw [if_pos hc] at ej_85
              refine wp_region_lit ?_
              refine wl_pure (l' := [(68, .int .i64 c_41), (67, v_44), (66, .bool (y_82 == 1)), (7, .int .i64 c_41), (6, v_44), (3, v_2), (4, pB b_6)]) S tys tys_ok 2 (by kernel_rfl) ?_
              clear S; intro a S
              refine w_go S rfl (op_buildSlice (K := K) (e := (.int .i64)) (vs := [.int .i64 c_41]) (xs := [c_41]) S W rfl ty27 rfl rfl (by kernel_rfl) rfl rfl rfl rfl rfl ⟨(RepV.mkInt G_42), trivial⟩ ?_)
              clear S; intro a w_91 v_88 hb_90 R_89 S
              replace B_7 := B_7.step hb_90
              replace O_45 := O_45.step hb_90
              replace R_3 := R_3.step hb_90
              replace W := W.step hb_90
              obtain ⟨l_92, el_92, ej_85⟩ := bindS ej_85
              refine w_go S rfl (op_append S W (E := 3) 0 rfl ty27 un27 by27 rfl rfl rfl rfl O_45 rfl R_89 el_92 ?_)
              clear S; intro a w_94 v_93 A_95 O_96 S
              replace R_89 : RepV (.sl (.int .i64)) w_94 (Kx K w.heap.size [v_93.ownBlock, some b_6, v_2.ownBlock]) v_88 (⟨[c_41], some 1⟩ : Sl (Int)) := R_89.apd A_95 (i := 0) rfl
              replace B_7 : Bx (.arr 128 (.int .i64)) 26 w_94 (Kx K w.heap.size [v_93.ownBlock, some b_6, v_2.ownBlock]) b_6 j_77 := B_7.apd W A_95 (i := 0) rfl (j := 1) rfl (by decide)
              replace R_3 : Ow gt1 32 w_94 w.heap.size (Kx K w.heap.size [v_93.ownBlock, some b_6, v_2.ownBlock]) v_2 t_1.xs t_1.cap := R_3.apd W A_95 (i := 0) rfl (j := 2) rfl (by decide)
              replace W : Wd w w_94 [v_93.ownBlock, some b_6, v_2.ownBlock] := W.apd A_95 (i := 0) rfl
              replace O_96 : Ow (.int .i64) 3 w_94 w.heap.size (Kx K w.heap.size [v_93.ownBlock, some b_6, v_2.ownBlock]) v_93 l_92 (capA .none l_92.length) := O_96
              refine wl_pureK (l' := [(6, v_93), (7, .int .i64 c_41), (6, v_44), (3, v_2), (4, pB b_6)]) S tys tys_ok 1 [6, 7, 3, 4] (by kernel_rfl) ?_
              clear S; intro a S
              refine wpList_nil ?_
              refine then_n ?_
              obtain rfl := Option.some.inj ej_85
              exact ⟨v_93, S.sub (by exact ⟨rfl, rfl, rfl, rfl, trivial⟩), W, B_7, O_96.forget, R_3⟩
            · intro hc
              rw [if_neg (Bool.eq_false_iff.1 hc)] at ej_85
              refine wp_skip ?_
              refine then_n ?_
              obtain rfl := Option.some.inj ej_85
              exact ⟨v_44, S.sub (by exact ⟨rfl, rfl, rfl, rfl, trivial⟩), W, B_7, O_45, R_3⟩
          clear S W; rintro a w_97 ⟨v_86, S, W, B_7, O_87, R_3⟩
          refine blk_n ?_
          refine then_n ?_
          refine wp_region_lit ?_
          refine wl_pure (l' := [(43, .int .i64 c_41), (7, .int .i64 c_41), (6, v_86), (3, v_2), (4, pB b_6)]) S tys tys_ok 1 (by kernel_rfl) ?_
          clear S; intro a S
          obtain ⟨x_98, ex_98, hl_57⟩ := bindS hl_57
          refine w_go S rfl (op_arith S .i64 (c_41 + 1) rfl (.inl rfl) rfl rfl rfl rfl ex_98 ?_)
          clear S; intro a S
          refine wl_pure (l' := [(7, .int .i64 x_98), (44, .int .i64 x_98), (43, .int .i64 c_41), (7, .int .i64 c_41), (6, v_86), (3, v_2), (4, pB b_6)]) S tys tys_ok 1 (by kernel_rfl) ?_
          clear S; intro a S
          refine wpList_nil ?_
          refine then_n ?_
          exact ⟨x_98, j_85, j_77, ⟨v_86, S.sub (by exact ⟨rfl, rfl, rfl, rfl, trivial⟩), W, (ckI_some ex_98).2.1, B_7, O_87, R_3, hl_57⟩⟩
        · intro hc
          rw [if_neg (Bool.eq_false_iff.1 hc)] at hl_57
          refine wp_exit ?_
          refine then_x ?_
          refine then_x ?_
          refine blk_hit ?_
          refine then_n ?_
          obtain rfl := Option.some.inj hl_57
          exact ⟨v_44, S.sub (by exact ⟨rfl, rfl, rfl, trivial⟩), W, B_7, R_3, O_45⟩
  clear S W; rintro a w_99 ⟨v_54, S, W, B_7, R_3, O_55⟩
  refine then_n ?_
  refine wp_seq ?_
  refine wp_region_lit ?_
  refine wl_pure (l' := [(72, v_2), (3, v_2), (4, pB b_6), (6, v_54)]) S tys tys_ok 1 (by kernel_rfl) ?_
  clear S; intro a S
  have R_100 : RepV (.sl gt1) w_99 (Kx K w.heap.size [v_54.ownBlock, some b_6]) v_2 (⟨t_1.xs, t_1.cap⟩ : Sl (Int × Int × Bool × Bool × Bool × Bool × Int)) := R_3.pubAt W 2 rfl
  replace B_7 : Bx (.arr 128 (.int .i64)) 26 w_99 (Kx K w.heap.size [v_54.ownBlock, some b_6]) b_6 y_53.2 := B_7.lessAt 2
  replace O_55 : Ow (.int .i64) 3 w_99 w.heap.size (Kx K w.heap.size [v_54.ownBlock, some b_6]) v_54 y_53.1 .none := O_55.lessAt 2
  replace W : Wd w w_99 [v_54.ownBlock, some b_6] := W.lessAt 2
  obtain ⟨t_101, et_101, h⟩ := bindS h
  refine w_go S rfl (op_call (vs := [v_2]) S rfl cb20 rfl rfl rfl (c20 (Kx K w.heap.size [v_54.ownBlock, some b_6]) n w_99 (⟨t_1.xs, t_1.cap⟩ : Sl (Int × Int × Bool × Bool × Bool × Bool × Int)) _ R_100 et_101) ?_)
  rintro _ w_107 ⟨v_102, v_103, rfl, R_104, R_105, hb_106⟩; refine ⟨_, rfl, ?_⟩
  replace R_104 := RepV.back R_104 W
  replace R_105 := RepV.back R_105 W
  clear S; intro a S
  replace R_100 := R_100.step hb_106
  replace B_7 := B_7.step hb_106
  replace O_55 := O_55.step hb_106
  replace W := W.step hb_106
  obtain ⟨rfl, GR_105⟩ := RepV.int R_105
  refine wl_pureK (l' := [(9, .int .i64 t_101.2), (8, v_102), (3, v_2), (4, pB b_6), (6, v_54)]) S tys tys_ok 5 [9, 8, 3, 4, 6] (by kernel_rfl) ?_
  clear S; intro a S
  refine wpList_nil ?_
  refine then_n ?_
  refine wp_seq ?_
  refine wp_seq ?_
  refine wp_region_lit ?_
  refine wl_pureK (l' := [(78, .bool (t_101.2 != 0)), (8, v_102), (3, v_2), (4, pB b_6), (6, v_54)]) S tys tys_ok 3 [78, 8, 3, 4, 6] (by kernel_rfl) ?_
  clear S; intro a S
  obtain ⟨q_108, eq_108, h⟩ := bindS h
  refine seg 5 (fun a_ w_ => St 195 a_ [(83, .bool q_108), (8, v_102), (3, v_2), (4, pB b_6)] ∧ Wd w w_ [v_54.ownBlock, some b_6] ∧ RepV (.sl (.int .i64)) w_ (Kx K w.heap.size [v_54.ownBlock, some b_6]) v_102 t_101.1 ∧ RepV (.sl gt1) w_ (Kx K w.heap.size [v_54.ownBlock, some b_6]) v_2 (⟨t_1.xs, t_1.cap⟩ : Sl (Int × Int × Bool × Bool × Bool × Bool × Int)) ∧ Bx (.arr 128 (.int .i64)) 26 w_ (Kx K w.heap.size [v_54.ownBlock, some b_6]) b_6 y_53.2) ?_ ?_
  · by_cases hc : (t_101.2 != 0) = false
    · rw [if_pos hc] at eq_108; rw [hc] at S
      refine wl_pure (l' := [(80, v_54), (79, v_102), (78, .bool false), (8, v_102), (3, v_2), (4, pB b_6), (6, v_54)]) S tys tys_ok 2 (by kernel_rfl) ?_
      clear S; intro a S
      obtain ⟨t_109, et_109, eq_108⟩ := bindS eq_108
      refine w_go S rfl (op_call (vs := [v_102, v_54]) S rfl cb18 rfl rfl rfl (c18 (Kx K w.heap.size []) n w_107 t_101.1 _ R_104.out (⟨y_53.1, .none⟩ : Sl (Int)) _ (Ow.read O_55) et_109) ?_)
      rintro _ w_113 ⟨v_110, rfl, R_111, hb_112⟩; refine ⟨_, rfl, ?_⟩
      clear S; intro a S
      replace R_100 := R_100.step hb_112
      replace R_104 := R_104.step hb_112
      replace B_7 := B_7.step hb_112
      replace O_55 := O_55.step hb_112
      replace W := W.step hb_112
      obtain rfl := RepV.bool R_111
      refine wl_pureK (l' := [(83, .bool (!t_109)), (8, v_102), (3, v_2), (4, pB b_6)]) S tys tys_ok 2 [83, 8, 3, 4] (by kernel_rfl) ?_
      clear S; intro a S
      obtain rfl := Option.some.inj eq_108
      exact ⟨S.sub (by exact ⟨rfl, rfl, rfl, rfl, trivial⟩), W, R_104, R_100, B_7⟩
    · rw [if_neg hc] at eq_108; rw [show (t_101.2 != 0) = true from (by simpa using hc)] at S
      refine wl_pureK (l' := [(83, .bool true), (8, v_102), (3, v_2), (4, pB b_6)]) S tys tys_ok 5 [83, 8, 3, 4] (by kernel_rfl) ?_
      clear S; intro a S
      obtain rfl := Option.some.inj eq_108
      exact ⟨S.sub (by exact ⟨rfl, rfl, rfl, rfl, trivial⟩), W, R_104, R_100, B_7⟩
  clear S W eq_108; rintro a w_114 ⟨S, W, R_104, R_100, B_7⟩
  refine wpList_nil ?_
  refine then_n ?_
  refine wp_cond_split (S.eval (show ev _ _ = some (.bool q_108) from rfl)) ?_ ?_
  · intro hc
    rw [if_pos hc] at h
    refine wp_seq ?_
    refine wp_region_lit ?_
    refine wl_pureK (l' := [(2, .bool false)]) S tys tys_ok 1 [2] (by kernel_rfl) ?_
    clear S; intro a S
    refine wpList_nil ?_
    refine then_n ?_
    refine wp_ret ?_
    refine then_r ?_
    obtain rfl := Option.some.inj h
    exact b_ret1 S rfl rfl ⟨_, rfl, RepV.mkBool, W.below⟩
  · intro hc
    rw [if_neg (Bool.eq_false_iff.1 hc)] at h
    refine wp_skip ?_
    refine then_n ?_
    replace S := S.sub (l' := [(8, v_102), (3, v_2), (4, pB b_6)]) (by exact ⟨rfl, rfl, rfl, trivial⟩)
    refine wp_seq ?_
    refine wp_region_lit ?_
    refine wl_pure (l' := [(10, .slice .none 0 0), (8, v_102), (3, v_2), (4, pB b_6)]) S tys tys_ok 1 (by kernel_rfl) ?_
    clear S; intro a S
    refine wpList_nil ?_
    refine then_n ?_
    refine wp_seq ?_
    refine wp_region_lit ?_
    refine w_go S rfl (op_alloc (K := K) (n := w.heap.size) (L := [v_54.ownBlock, some b_6]) (t := (.arr 128 (.int .i64))) (y := (List.replicate 128 (0 : Int))) S rfl rfl rfl _ z26 (fun w K => (rep_replicate (e := (.int .i64)) (z := 0) (cs := [.int .i64 0]) (⟨rfl, by decide⟩) 128)) ?_)
    clear S; intro a w_117 b_115 hb_118 B_116 S
    replace R_104 := R_104.box hb_118
    replace R_100 := R_100.box hb_118
    replace B_7 := B_7.box hb_118
    replace W := W.box hb_118
    refine wpList_nil ?_
    refine then_n ?_
    refine wp_seq ?_
    refine wp_seq ?_
    refine wp_region_lit ?_
    refine wl_pure (l' := [(12, .int .i64 0), (11, pB b_115), (10, .slice .none 0 0), (8, v_102), (3, v_2), (4, pB b_6)]) S tys tys_ok 1 (by kernel_rfl) ?_
    clear S; intro a S
    refine wpList_nil ?_
    refine then_n ?_
    obtain ⟨y_131, ey_131, h⟩ := bindS h
    refine wp_cut_ (fun a_ w_ => ∃ (v_132 : Value), St 195 a_ [(3, v_2), (4, pB b_6), (8, v_102), (10, v_132)] ∧ Wd w w_ [v_132.ownBlock, some b_115, v_54.ownBlock, some b_6] ∧ RepV (.sl gt1) w_ (Kx K w.heap.size [v_132.ownBlock, some b_115, v_54.ownBlock, some b_6]) v_2 (⟨t_1.xs, t_1.cap⟩ : Sl (Int × Int × Bool × Bool × Bool × Bool × Int)) ∧ RepV (.sl (.int .i64)) w_ (Kx K w.heap.size [v_132.ownBlock, some b_115, v_54.ownBlock, some b_6]) v_102 t_101.1 ∧ Bx (.arr 128 (.int .i64)) 26 w_ (Kx K w.heap.size [v_132.ownBlock, some b_115, v_54.ownBlock, some b_6]) b_6 y_53.2 ∧ Bx (.arr 128 (.int .i64)) 26 w_ (Kx K w.heap.size [v_132.ownBlock, some b_115, v_54.ownBlock, some b_6]) b_115 y_131.2 ∧ Ow gt1 32 w_ w.heap.size (Kx K w.heap.size [v_132.ownBlock, some b_115, v_54.ownBlock, some b_6]) v_132 y_131.1 .none) ?_ ?_
    · refine wp_block ?_
      refine wp_loop_n (fun m_ a_ w_ => ∃ (c_119 : Int) (c_121 : List (Int × Int × Bool × Bool × Bool × Bool × Int)) (c_124 : List (Int)) , ∃ (v_122 : Value), St 195 a_ [(12, .int .i64 c_119), (11, pB b_115), (10, v_122), (8, v_102), (3, v_2), (4, pB b_6)] ∧ Wd w w_ [v_122.ownBlock, some b_115, v_54.ownBlock, some b_6] ∧ InR .i64 c_119 ∧ RepV (.sl (.int .i64)) w_ (Kx K w.heap.size [v_122.ownBlock, some b_115, v_54.ownBlock, some b_6]) v_102 t_101.1 ∧ RepV (.sl gt1) w_ (Kx K w.heap.size [v_122.ownBlock, some b_115, v_54.ownBlock, some b_6]) v_2 (⟨t_1.xs, t_1.cap⟩ : Sl (Int × Int × Bool × Bool × Bool × Bool × Int)) ∧ Bx (.arr 128 (.int .i64)) 26 w_ (Kx K w.heap.size [v_122.ownBlock, some b_115, v_54.ownBlock, some b_6]) b_6 y_53.2 ∧ Bx (.arr 128 (.int .i64)) 26 w_ (Kx K w.heap.size [v_122.ownBlock, some b_115, v_54.ownBlock, some b_6]) b_115 c_124 ∧ Ow gt1 32 w_ w.heap.size (Kx K w.heap.size [v_122.ownBlock, some b_115, v_54.ownBlock, some b_6]) v_122 c_121 .none ∧ p4_l3 n t_1 y_53 m_ c_119 c_121 c_124 = some y_131) n ?_ ?_
      · skip
        replace R_104 := R_104.more
        replace R_100 := R_100.more
        replace B_7 := B_7.more
        replace B_116 := B_116.more
        replace W := W.more
        have O_136 : Ow gt1 32 w_117 w.heap.size (Kx K w.heap.size [.none, some b_115, v_54.ownBlock, some b_6]) (.slice .none 0 0) ([] : List (Int × Int × Bool × Bool × Bool × Bool × Int)) (some 0) := Ow.nil
        exact ⟨0, [], (List.replicate 128 (0 : Int)), ⟨(.slice .none 0 0), S.sub (by exact ⟨rfl, rfl, rfl, rfl, rfl, rfl, trivial⟩), W, (by decide), R_104, R_100, B_7, B_116, O_136.forget, ey_131⟩⟩
      · clear S W; rintro m_134 a w_137 ⟨c_119, c_121, c_124, v_122, S, W, G_120, R_104, R_100, B_7, B_116, O_123, hl_135⟩
        cases m_134 with
        | zero => exact absurd hl_135 (by simp [p4_l3])
        | succ m_134 =>
          refine ⟨m_134, rfl, ?_⟩
          rw [p4_l3] at hl_135
          refine wp_seq ?_
          refine wp_seq ?_
          refine wp_region_lit ?_
          refine wl_pure (l' := [(85, v_2), (84, .int .i64 c_119), (12, .int .i64 c_119), (11, pB b_115), (10, v_122), (8, v_102), (3, v_2), (4, pB b_6)]) S tys tys_ok 2 (by kernel_rfl) ?_
          clear S; intro a S
          refine w_go S rfl (op_len (K := _) S rfl ty24 rfl rfl rfl R_100 ?_)
          clear S; intro a G_138 S
          refine wl_pureK (l' := [(87, .bool (decide (c_119 < (lenI (⟨t_1.xs, t_1.cap⟩ : Sl (Int × Int × Bool × Bool × Bool × Bool × Int)))))), (12, .int .i64 c_119), (11, pB b_115), (10, v_122), (8, v_102), (3, v_2), (4, pB b_6)]) S tys tys_ok 1 [87, 12, 11, 10, 8, 3, 4] (by kernel_rfl) ?_
          clear S; intro a S
          refine wpList_nil ?_
          refine then_n ?_
          refine wp_cond_split (S.eval (show ev _ _ = some (.bool (decide (c_119 < (lenI (⟨t_1.xs, t_1.cap⟩ : Sl (Int × Int × Bool × Bool × Bool × Bool × Int)))))) from rfl)) ?_ ?_
          · intro hc
            rw [if_pos hc] at hl_135
            refine wp_skip ?_
            refine then_n ?_
            replace S := S.sub (l' := [(12, .int .i64 c_119), (11, pB b_115), (10, v_122), (8, v_102), (3, v_2), (4, pB b_6)]) (by exact ⟨rfl, rfl, rfl, rfl, rfl, rfl, trivial⟩)
            refine wp_seq ?_
            refine wp_block ?_
            refine wp_seq ?_
            refine wp_seq ?_
            refine wp_region_lit ?_
            refine wl_pure (l' := [(90, .int .i64 c_119), (12, .int .i64 c_119), (11, pB b_115), (10, v_122), (8, v_102), (3, v_2), (4, pB b_6)]) S tys tys_ok 1 (by kernel_rfl) ?_
            clear S; intro a S
            obtain ⟨y_139, ey_139, hl_135⟩ := bindS hl_135
            refine w_go S rfl (op_indexAddr_arr S rfl ty26 rfl rfl rfl B_7.at_ rfl ey_139 ?_)
            clear S; intro a S
            refine w_go S rfl (op_load (t := (.int .i64)) (x := y_139) S rfl ty3 rfl rfl rfl (RepAt.ix B_7.at_ ey_139) ?_)
            clear S; intro a v_140 R_141 S
            obtain ⟨rfl, GR_141⟩ := RepV.int R_141
            refine wl_pureK (l' := [(93, .bool (y_139 == 1)), (12, .int .i64 c_119), (11, pB b_115), (10, v_122), (8, v_102), (3, v_2), (4, pB b_6)]) S tys tys_ok 1 [93, 12, 11, 10, 8, 3, 4] (by kernel_rfl) ?_
            clear S; intro a S
            refine wpList_nil ?_
            refine then_n ?_
            refine wp_cond_split (S.eval (show ev _ _ = some (.bool (y_139 == 1)) from rfl)) ?_ ?_
            · intro hc
              rw [if_pos hc] at hl_135
              refine wp_exit ?_
              refine then_x ?_
              refine blk_hit ?_
              refine then_n ?_
              replace S := S.sub (l' := [(12, .int .i64 c_119), (11, pB b_115), (10, v_122), (8, v_102), (3, v_2), (4, pB b_6)]) (by exact ⟨rfl, rfl, rfl, rfl, rfl, rfl, trivial⟩)
              refine wp_region_lit ?_
              refine wl_pure (l' := [(88, .int .i64 c_119), (12, .int .i64 c_119), (11, pB b_115), (10, v_122), (8, v_102), (3, v_2), (4, pB b_6)]) S tys tys_ok 1 (by kernel_rfl) ?_
              clear S; intro a S
              obtain ⟨x_142, ex_142, hl_135⟩ := bindS hl_135
              refine w_go S rfl (op_arith S .i64 (c_119 + 1) rfl (.inl rfl) rfl rfl rfl rfl ex_142 ?_)
              clear S; intro a S
              refine wl_pure (l' := [(12, .int .i64 x_142), (89, .int .i64 x_142), (88, .int .i64 c_119), (12, .int .i64 c_119), (11, pB b_115), (10, v_122), (8, v_102), (3, v_2), (4, pB b_6)]) S tys tys_ok 1 (by kernel_rfl) ?_
              clear S; intro a S
              refine wpList_nil ?_
              refine then_n ?_
              exact ⟨x_142, c_121, c_124, ⟨v_122, S.sub (by exact ⟨rfl, rfl, rfl, rfl, rfl, rfl, trivial⟩), W, (ckI_some ex_142).2.1, R_104, R_100, B_7, B_116, O_123, hl_135⟩⟩
            · intro hc
              rw [if_neg (Bool.eq_false_iff.1 hc)] at hl_135
              refine wp_skip ?_
              refine then_n ?_
              replace S := S.sub (l' := [(12, .int .i64 c_119), (11, pB b_115), (10, v_122), (8, v_102), (3, v_2), (4, pB b_6)]) (by exact ⟨rfl, rfl, rfl, rfl, rfl, rfl, trivial⟩)
              refine wp_seq ?_
              refine wp_region_lit ?_
              refine wl_pure (l' := [(95, .int .i64 c_119), (94, v_2), (12, .int .i64 c_119), (11, pB b_115), (10, v_122), (8, v_102), (3, v_2), (4, pB b_6)]) S tys tys_ok 2 (by kernel_rfl) ?_
              clear S; intro a S
              obtain ⟨y_143, ey_143, hl_135⟩ := bindS hl_135
              refine w_go S rfl (op_indexAddr S rfl ty24 rfl rfl rfl R_100 rfl ey_143 ?_)
              clear S; intro a p_144 R_145 H_146 S
              refine w_go S rfl (op_load (t := gt1) (x := y_143) S rfl ty32 rfl rfl rfl R_145 ?_)
              clear S; intro a v_147 R_148 S
              refine w_go S rfl (op_alloc (K := K) (n := w.heap.size) (L := [v_122.ownBlock, some b_115, v_54.ownBlock, some b_6]) (t := gt1) (y := (0, 0, false, false, false, false, 0)) S rfl rfl rfl _ z32 (fun w K => ⟨[.int .i64 0], [.int .u8 0, .bool false, .bool false, .bool false, .bool false, .int .i64 0], rfl, ⟨rfl, by decide⟩, ⟨[.int .u8 0], [.bool false, .bool false, .bool false, .bool false, .int .i64 0], rfl, ⟨rfl, by decide⟩, ⟨[.bool false], [.bool false, .bool false, .bool false, .int .i64 0], rfl, rfl, ⟨[.bool false], [.bool false, .bool false, .int .i64 0], rfl, rfl, ⟨[.bool false], [.bool false, .int .i64 0], rfl, rfl, ⟨[.bool false], [.int .i64 0], rfl, rfl, ⟨rfl, by decide⟩⟩⟩⟩⟩⟩⟩) ?_)
              clear S; intro a w_151 b_149 hb_152 B_150 S
              replace R_104 := R_104.box hb_152
              replace R_100 := R_100.box hb_152
              replace R_148 := R_148.box hb_152
              replace B_7 := B_7.box hb_152
              replace B_116 := B_116.box hb_152
              replace O_123 := O_123.box hb_152
              replace W := W.box hb_152
              refine w_go S rfl (op_store (t' := gt1) S rfl rfl ty32 rfl rfl rfl B_150 (by simp) Ln.whole R_148 ?_)
              intro w_153 hw_154 B_
              replace R_104 := R_104.wrote hw_154 (by simp)
              replace R_100 := R_100.wrote hw_154 (by simp)
              replace R_148 := R_148.wrote hw_154 (by simp)
              replace B_7 := B_7.wrote hw_154 (by simp) (W.bne (p := 4) (q := 0) (by decide) rfl rfl)
              replace B_116 := B_116.wrote hw_154 (by simp) (W.bne (p := 2) (q := 0) (by decide) rfl rfl)
              replace O_123 := O_123.wrote hw_154 (by simp) (W.one (p := 1) (q := 0) (by decide) rfl rfl)
              replace W := W.wrote hw_154 (by simp)
              replace B_150 : Bx gt1 32 w_153 (Kx K w.heap.size [some b_149, v_122.ownBlock, some b_115, v_54.ownBlock, some b_6]) b_149 y_143 := B_; clear B_
              refine wpList_nil ?_
              refine then_n ?_
              replace S := S.sub (l' := [(13, pB b_149), (12, .int .i64 c_119), (11, pB b_115), (10, v_122), (8, v_102), (3, v_2), (4, pB b_6)]) (by exact ⟨rfl, rfl, rfl, rfl, rfl, rfl, rfl, trivial⟩)
              refine wp_seq ?_
              refine wp_seq ?_
              refine wp_region_lit ?_
              refine wl_pure (l' := [(98, .pointer (some ((⟨b_149, 0, .none⟩ : Addr).add (coff gf1 0)))), (13, pB b_149), (12, .int .i64 c_119), (11, pB b_115), (10, v_122), (8, v_102), (3, v_2), (4, pB b_6)]) S tys tys_ok 1 (by kernel_rfl) ?_
              clear S; intro a S
              refine w_go S rfl (op_load (t := (.int .i64)) (x := y_143.1) S rfl ty3 rfl rfl rfl (RepAt.add 0 (RepAt.st (t := gf1) B_150.at_)) ?_)
              clear S; intro a v_155 R_156 S
              obtain ⟨rfl, GR_156⟩ := RepV.int R_156
              refine wl_pure (l' := [(100, .bool (decide (y_143.1 ≥ 0))), (99, .int .i64 y_143.1), (98, .pointer (some ((⟨b_149, 0, .none⟩ : Addr).add (coff gf1 0)))), (13, pB b_149), (12, .int .i64 c_119), (11, pB b_115), (10, v_122), (8, v_102), (3, v_2), (4, pB b_6)]) S tys tys_ok 1 (by kernel_rfl) ?_
              clear S; intro a S
              refine wpList_nil ?_
              refine then_n ?_
              replace S := S.sub (l' := [(100, .bool (decide (y_143.1 ≥ 0))), (13, pB b_149), (12, .int .i64 c_119), (11, pB b_115), (10, v_122), (8, v_102), (3, v_2), (4, pB b_6)]) (by exact ⟨rfl, rfl, rfl, rfl, rfl, rfl, rfl, rfl, trivial⟩)
              obtain ⟨j_157, ej_157, hl_135⟩ := bindS hl_135
              refine wp_cut_ (fun a_ w_ => St 195 a_ [(13, pB b_149), (12, .int .i64 c_119), (11, pB b_115), (10, v_122), (8, v_102), (3, v_2), (4, pB b_6)] ∧ Wd w w_ [some b_149, v_122.ownBlock, some b_115, v_54.ownBlock, some b_6] ∧ RepV (.sl (.int .i64)) w_ (Kx K w.heap.size [some b_149, v_122.ownBlock, some b_115, v_54.ownBlock, some b_6]) v_102 t_101.1 ∧ RepV (.sl gt1) w_ (Kx K w.heap.size [some b_149, v_122.ownBlock, some b_115, v_54.ownBlock, some b_6]) v_2 (⟨t_1.xs, t_1.cap⟩ : Sl (Int × Int × Bool × Bool × Bool × Bool × Int)) ∧ Bx (.arr 128 (.int .i64)) 26 w_ (Kx K w.heap.size [some b_149, v_122.ownBlock, some b_115, v_54.ownBlock, some b_6]) b_6 y_53.2 ∧ Bx (.arr 128 (.int .i64)) 26 w_ (Kx K w.heap.size [some b_149, v_122.ownBlock, some b_115, v_54.ownBlock, some b_6]) b_115 c_124 ∧ Bx gt1 32 w_ (Kx K w.heap.size [some b_149, v_122.ownBlock, some b_115, v_54.ownBlock, some b_6]) b_149 j_157 ∧ Ow gt1 32 w_ w.heap.size (Kx K w.heap.size [some b_149, v_122.ownBlock, some b_115, v_54.ownBlock, some b_6]) v_122 c_121 .none) ?_ ?_
              · refine wp_cond_split (S.eval (show ev _ _ = some (.bool (decide (y_143.1 ≥ 0))) from rfl)) ?_ ?_
                · intro hc
                  rw [if_pos hc] at ej_157
                  refine wp_region_lit ?_
                  refine wl_pure (l' := [(101, .pointer (some ((⟨b_149, 0, .none⟩ : Addr).add (coff gf1 0)))), (100, .bool (decide (y_143.1 ≥ 0))), (13, pB b_149), (12, .int .i64 c_119), (11, pB b_115), (10, v_122), (8, v_102), (3, v_2), (4, pB b_6)]) S tys tys_ok 1 (by kernel_rfl) ?_
                  clear S; intro a S
                  refine w_go S rfl (op_load (t := (.int .i64)) (x := y_143.1) S rfl ty3 rfl rfl rfl (RepAt.add 0 (RepAt.st (t := gf1) B_150.at_)) ?_)
                  clear S; intro a v_158 R_159 S
                  obtain ⟨rfl, GR_159⟩ := RepV.int R_159
                  obtain ⟨y_160, ey_160, ej_157⟩ := bindS ej_157
                  refine w_go S rfl (op_indexAddr_arr S rfl ty26 rfl rfl rfl B_116.at_ rfl ey_160 ?_)
                  clear S; intro a S
                  refine w_go S rfl (op_load (t := (.int .i64)) (x := y_160) S rfl ty3 rfl rfl rfl (RepAt.ix B_116.at_ ey_160) ?_)
                  clear S; intro a v_161 R_162 S
                  obtain ⟨rfl, GR_162⟩ := RepV.int R_162
                  refine wl_pureK (l' := [(105, .pointer (some ((⟨b_149, 0, .none⟩ : Addr).add (coff gf1 0)))), (104, .int .i64 y_160), (13, pB b_149), (12, .int .i64 c_119), (11, pB b_115), (10, v_122), (8, v_102), (3, v_2), (4, pB b_6)]) S tys tys_ok 1 [105, 104, 13, 12, 11, 10, 8, 3, 4] (by kernel_rfl) ?_
                  clear S; intro a S
                  refine w_go S rfl (op_store (t' := (.int .i64)) S rfl rfl ty3 rfl (addr_add1 _ _) rfl B_150 (by simp) (Ln.st (Ln.comp 0)) ((RepV.mkInt GR_162) : RepV (.int .i64) w_153 (Kx K w.heap.size [some b_149, v_122.ownBlock, some b_115, v_54.ownBlock, some b_6]) _ y_160) ?_)
                  intro w_163 hw_164 B_
                  replace R_104 := R_104.wrote hw_164 (by simp)
                  replace R_100 := R_100.wrote hw_164 (by simp)
                  replace B_7 := B_7.wrote hw_164 (by simp) (W.bne (p := 4) (q := 0) (by decide) rfl rfl)
                  replace B_116 := B_116.wrote hw_164 (by simp) (W.bne (p := 2) (q := 0) (by decide) rfl rfl)
                  replace O_123 := O_123.wrote hw_164 (by simp) (W.one (p := 1) (q := 0) (by decide) rfl rfl)
                  replace W := W.wrote hw_164 (by simp)
                  replace B_150 : Bx gt1 32 w_163 (Kx K w.heap.size [some b_149, v_122.ownBlock, some b_115, v_54.ownBlock, some b_6]) b_149 (y_160, y_143.2.1, y_143.2.2.1, y_143.2.2.2.1, y_143.2.2.2.2.1, y_143.2.2.2.2.2.1, y_143.2.2.2.2.2.2) := B_; clear B_
                  refine wpList_nil ?_
                  refine then_n ?_
                  obtain rfl := Option.some.inj ej_157
                  exact ⟨S.sub (by exact ⟨rfl, rfl, rfl, rfl, rfl, rfl, rfl, trivial⟩), W, R_104, R_100, B_7, B_116, B_150, O_123⟩
                · intro hc
                  rw [if_neg (Bool.eq_false_iff.1 hc)] at ej_157
                  refine wp_skip ?_
                  refine then_n ?_
                  obtain rfl := Option.some.inj ej_157
                  exact ⟨S.sub (by exact ⟨rfl, rfl, rfl, rfl, rfl, rfl, rfl, trivial⟩), W, R_104, R_100, B_7, B_116, B_150, O_123⟩
              clear S W; rintro a w_165 ⟨S, W, R_104, R_100, B_7, B_116, B_150, O_123⟩
              refine then_n ?_
              refine wp_seq ?_
              refine wp_region_lit ?_
              refine wl_pure (l' := [(107, v_122), (106, .int .i64 c_119), (13, pB b_149), (12, .int .i64 c_119), (11, pB b_115), (10, v_122), (8, v_102), (3, v_2), (4, pB b_6)]) S tys tys_ok 2 (by kernel_rfl) ?_
              clear S; intro a S
              refine w_go S rfl (op_len (K := _) S rfl ty24 rfl rfl rfl O_123.read ?_)
              clear S; intro a G_166 S
              obtain ⟨y_167, ey_167, hl_135⟩ := bindS hl_135
              refine w_go S rfl (op_indexAddr_arr S rfl ty26 rfl rfl rfl B_116.at_ rfl ey_167 ?_)
              clear S; intro a S
              refine w_go S rfl (op_store (t' := (.int .i64)) S rfl rfl ty3 rfl (addr_add1 _ _) rfl B_116 (by simp) (Ln.arr (n := 128) (by have h_ := (idx_some ey_167).2.2; have l_ := (B_116.at_).arr_len; omega) 0) ((RepV.mkInt G_166) : RepV (.int .i64) w_165 (Kx K w.heap.size [some b_149, v_122.ownBlock, some b_115, v_54.ownBlock, some b_6]) _ (lenI (⟨c_121, .none⟩ : Sl (Int × Int × Bool × Bool × Bool × Bool × Int)))) ?_)
              intro w_168 hw_169 B_
              replace R_104 := R_104.wrote hw_169 (by simp)
              replace R_100 := R_100.wrote hw_169 (by simp)
              replace B_7 := B_7.wrote hw_169 (by simp) (W.bne (p := 4) (q := 2) (by decide) rfl rfl)
              replace B_150 := B_150.wrote hw_169 (by simp) (W.bne (p := 0) (q := 2) (by decide) rfl rfl)
              replace O_123 := O_123.wrote hw_169 (by simp) (W.one (p := 1) (q := 2) (by decide) rfl rfl)
              replace W := W.wrote hw_169 (by simp)
              replace B_116 : Bx (.arr 128 (.int .i64)) 26 w_168 (Kx K w.heap.size [some b_149, v_122.ownBlock, some b_115, v_54.ownBlock, some b_6]) b_115 (c_124.set c_119.toNat (lenI (⟨c_121, .none⟩ : Sl (Int × Int × Bool × Bool × Bool × Bool × Int)))) := B_; clear B_
              refine wpList_nil ?_
              refine then_n ?_
              replace S := S.sub (l' := [(13, pB b_149), (12, .int .i64 c_119), (11, pB b_115), (10, v_122), (8, v_102), (3, v_2), (4, pB b_6)]) (by exact ⟨rfl, rfl, rfl, rfl, rfl, rfl, rfl, trivial⟩)
              refine wp_region_lit ?_
              refine wl_pure (l' := [(110, v_122), (13, pB b_149), (12, .int .i64 c_119), (11, pB b_115), (10, v_122), (8, v_102), (3, v_2), (4, pB b_6)]) S tys tys_ok 1 (by kernel_rfl) ?_
              clear S; intro a S
              refine w_go S rfl (op_load (t := gt1) (x := j_157) S rfl ty32 rfl rfl rfl B_150.at_ ?_)
              clear S; intro a v_170 R_171 S
              refine w_go S rfl (op_buildSlice (K := K) (e := gt1) (vs := [v_170]) (xs := [j_157]) S W rfl ty24 rfl rfl (by kernel_rfl) rfl rfl rfl rfl rfl ⟨R_171, trivial⟩ ?_)
              clear S; intro a w_175 v_172 hb_174 R_173 S
              replace R_104 := R_104.step hb_174
              replace R_100 := R_100.step hb_174
              replace R_171 := R_171.step hb_174
              replace B_7 := B_7.step hb_174
              replace B_116 := B_116.step hb_174
              replace B_150 := B_150.step hb_174
              replace O_123 := O_123.step hb_174
              replace W := W.step hb_174
              obtain ⟨l_176, el_176, hl_135⟩ := bindS hl_135
              refine w_go S rfl (op_append S W (E := 32) 1 rfl ty24 un24 by24 rfl rfl rfl rfl O_123 rfl R_173 el_176 ?_)
              clear S; intro a w_178 v_177 A_179 O_180 S
              replace R_104 : RepV (.sl (.int .i64)) w_178 (Kx K w.heap.size [some b_149, v_177.ownBlock, some b_115, v_54.ownBlock, some b_6]) v_102 t_101.1 := R_104.apd A_179 (i := 1) rfl
              replace R_100 : RepV (.sl gt1) w_178 (Kx K w.heap.size [some b_149, v_177.ownBlock, some b_115, v_54.ownBlock, some b_6]) v_2 (⟨t_1.xs, t_1.cap⟩ : Sl (Int × Int × Bool × Bool × Bool × Bool × Int)) := R_100.apd A_179 (i := 1) rfl
              replace R_171 : RepV gt1 w_178 (Kx K w.heap.size [some b_149, v_177.ownBlock, some b_115, v_54.ownBlock, some b_6]) v_170 j_157 := R_171.apd A_179 (i := 1) rfl
              replace R_173 : RepV (.sl gt1) w_178 (Kx K w.heap.size [some b_149, v_177.ownBlock, some b_115, v_54.ownBlock, some b_6]) v_172 (⟨[j_157], some 1⟩ : Sl (Int × Int × Bool × Bool × Bool × Bool × Int)) := R_173.apd A_179 (i := 1) rfl
              replace B_7 : Bx (.arr 128 (.int .i64)) 26 w_178 (Kx K w.heap.size [some b_149, v_177.ownBlock, some b_115, v_54.ownBlock, some b_6]) b_6 y_53.2 := B_7.apd W A_179 (i := 1) rfl (j := 4) rfl (by decide)
              replace B_116 : Bx (.arr 128 (.int .i64)) 26 w_178 (Kx K w.heap.size [some b_149, v_177.ownBlock, some b_115, v_54.ownBlock, some b_6]) b_115 (c_124.set c_119.toNat (lenI (⟨c_121, .none⟩ : Sl (Int × Int × Bool × Bool × Bool × Bool × Int)))) := B_116.apd W A_179 (i := 1) rfl (j := 2) rfl (by decide)
              replace B_150 : Bx gt1 32 w_178 (Kx K w.heap.size [some b_149, v_177.ownBlock, some b_115, v_54.ownBlock, some b_6]) b_149 j_157 := B_150.apd W A_179 (i := 1) rfl (j := 0) rfl (by decide)
              replace W : Wd w w_178 [some b_149, v_177.ownBlock, some b_115, v_54.ownBlock, some b_6] := W.apd A_179 (i := 1) rfl
              replace O_180 : Ow gt1 32 w_178 w.heap.size (Kx K w.heap.size [some b_149, v_177.ownBlock, some b_115, v_54.ownBlock, some b_6]) v_177 l_176 (capA .none l_176.length) := O_180
              refine wl_pureK (l' := [(10, v_177), (12, .int .i64 c_119), (11, pB b_115), (10, v_122), (8, v_102), (3, v_2), (4, pB b_6)]) S tys tys_ok 1 [10, 12, 11, 8, 3, 4] (by kernel_rfl) ?_
              clear S; intro a S
              refine wpList_nil ?_
              refine blk_n ?_
              refine then_n ?_
              refine wp_region_lit ?_
              refine wl_pure (l' := [(88, .int .i64 c_119), (10, v_177), (12, .int .i64 c_119), (11, pB b_115), (10, v_122), (8, v_102), (3, v_2), (4, pB b_6)]) S tys tys_ok 1 (by kernel_rfl) ?_
              clear S; intro a S
              obtain ⟨x_181, ex_181, hl_135⟩ := bindS hl_135
              refine w_go S rfl (op_arith S .i64 (c_119 + 1) rfl (.inl rfl) rfl rfl rfl rfl ex_181 ?_)
              clear S; intro a S
              refine wl_pure (l' := [(12, .int .i64 x_181), (89, .int .i64 x_181), (88, .int .i64 c_119), (10, v_177), (12, .int .i64 c_119), (11, pB b_115), (10, v_122), (8, v_102), (3, v_2), (4, pB b_6)]) S tys tys_ok 1 (by kernel_rfl) ?_
              clear S; intro a S
              refine wpList_nil ?_
              refine then_n ?_
              exact ⟨x_181, l_176, (c_124.set c_119.toNat (lenI (⟨c_121, .none⟩ : Sl (Int × Int × Bool × Bool × Bool × Bool × Int)))), ⟨v_177, S.sub (by exact ⟨rfl, rfl, rfl, rfl, rfl, rfl, trivial⟩), (W.drop 1), (ckI_some ex_181).2.1, (R_104.drop 1), (R_100.drop 1), (B_7.drop 1), (B_116.drop 1), (O_180.drop 1).forget, hl_135⟩⟩
          · intro hc
            rw [if_neg (Bool.eq_false_iff.1 hc)] at hl_135
            refine wp_exit ?_
            refine then_x ?_
            refine then_x ?_
            refine blk_hit ?_
            refine then_n ?_
            obtain rfl := Option.some.inj hl_135
            exact ⟨v_122, S.sub (by exact ⟨rfl, rfl, rfl, rfl, trivial⟩), W, R_100, R_104, B_7, B_116, O_123⟩
    clear S W; rintro a w_182 ⟨v_132, S, W, R_100, R_104, B_7, B_116, O_133⟩
    refine then_n ?_
    refine wp_seq ?_
    refine wp_region_lit ?_
    refine wl_pure (l' := [(115, v_132), (3, v_2), (4, pB b_6), (8, v_102), (10, v_132)]) S tys tys_ok 1 (by kernel_rfl) ?_
    clear S; intro a S
    have R_183 : RepV (.sl gt1) w_182 (Kx K w.heap.size [some b_115, v_54.ownBlock, some b_6]) v_132 (⟨y_131.1, .none⟩ : Sl (Int × Int × Bool × Bool × Bool × Bool × Int)) := O_133.pubAt W 0 rfl
    replace R_100 : RepV (.sl gt1) w_182 (Kx K w.heap.size [some b_115, v_54.ownBlock, some b_6]) v_2 (⟨t_1.xs, t_1.cap⟩ : Sl (Int × Int × Bool × Bool × Bool × Bool × Int)) := R_100.lessAt 0
    replace R_104 : RepV (.sl (.int .i64)) w_182 (Kx K w.heap.size [some b_115, v_54.ownBlock, some b_6]) v_102 t_101.1 := R_104.lessAt 0
    replace B_7 : Bx (.arr 128 (.int .i64)) 26 w_182 (Kx K w.heap.size [some b_115, v_54.ownBlock, some b_6]) b_6 y_53.2 := B_7.lessAt 0
    replace B_116 : Bx (.arr 128 (.int .i64)) 26 w_182 (Kx K w.heap.size [some b_115, v_54.ownBlock, some b_6]) b_115 y_131.2 := B_116.lessAt 0
    replace W : Wd w w_182 [some b_115, v_54.ownBlock, some b_6] := W.lessAt 0
    obtain ⟨t_184, et_184, h⟩ := bindS h
    refine w_go S rfl (op_call (vs := [v_132]) S rfl cb16 rfl rfl rfl (c16 (Kx K w.heap.size [some b_115, v_54.ownBlock, some b_6]) n w_182 (⟨y_131.1, .none⟩ : Sl (Int × Int × Bool × Bool × Bool × Bool × Int)) _ R_183 et_184) ?_)
    rintro _ w_190 ⟨v_185, v_186, rfl, R_187, R_188, hb_189⟩; refine ⟨_, rfl, ?_⟩
    replace R_187 := RepV.back R_187 W
    replace R_188 := RepV.back R_188 W
    clear S; intro a S
    replace R_100 := R_100.step hb_189
    replace R_104 := R_104.step hb_189
    replace R_183 := R_183.step hb_189
    replace B_7 := B_7.step hb_189
    replace B_116 := B_116.step hb_189
    replace W := W.step hb_189
    obtain ⟨rfl, GR_188⟩ := RepV.int R_188
    refine wl_pureK (l' := [(15, .int .i64 t_184.2), (14, v_185), (3, v_2), (4, pB b_6), (8, v_102)]) S tys tys_ok 5 [15, 14, 3, 4, 8] (by kernel_rfl) ?_
    clear S; intro a S
    refine wpList_nil ?_
    refine then_n ?_
    refine wp_seq ?_
    refine wp_seq ?_
    refine wp_region_lit ?_
    refine wl_pureK (l' := [(121, .bool (t_184.2 != 0)), (14, v_185), (3, v_2), (4, pB b_6), (8, v_102)]) S tys tys_ok 3 [121, 14, 3, 4, 8] (by kernel_rfl) ?_
    clear S; intro a S
    obtain ⟨q_191, eq_191, h⟩ := bindS h
    refine seg 4 (fun a_ w_ => w_190 = w_ ∧ St 195 a_ [(125, .bool q_191), (3, v_2), (4, pB b_6), (8, v_102)]) ?_ ?_
    · by_cases hc : (t_184.2 != 0) = false
      · rw [if_pos hc] at eq_191; rw [hc] at S
        refine wl_pure (l' := [(122, v_185), (121, .bool false), (14, v_185), (3, v_2), (4, pB b_6), (8, v_102)]) S tys tys_ok 1 (by kernel_rfl) ?_
        clear S; intro a S
        refine w_go S rfl (op_len (K := _) S rfl ty27 rfl rfl rfl R_187 ?_)
        clear S; intro a G_192 S
        refine wl_pureK (l' := [(125, .bool ((lenI t_184.1) != 0)), (3, v_2), (4, pB b_6), (8, v_102)]) S tys tys_ok 2 [125, 3, 4, 8] (by kernel_rfl) ?_
        clear S; intro a S
        obtain rfl := Option.some.inj eq_191
        exact ⟨rfl, S.sub (by exact ⟨rfl, rfl, rfl, rfl, trivial⟩)⟩
      · rw [if_neg hc] at eq_191; rw [show (t_184.2 != 0) = true from (by simpa using hc)] at S
        refine wl_pureK (l' := [(125, .bool true), (3, v_2), (4, pB b_6), (8, v_102)]) S tys tys_ok 4 [125, 3, 4, 8] (by kernel_rfl) ?_
        clear S; intro a S
        obtain rfl := Option.some.inj eq_191
        exact ⟨rfl, S.sub (by exact ⟨rfl, rfl, rfl, rfl, trivial⟩)⟩
    clear S eq_191; rintro a _ ⟨rfl, S⟩
    refine wpList_nil ?_
    refine then_n ?_
    refine wp_cond_split (S.eval (show ev _ _ = some (.bool q_191) from rfl)) ?_ ?_
    · intro hc
      rw [if_pos hc] at h
      refine wp_seq ?_
      refine wp_region_lit ?_
      refine wl_pureK (l' := [(2, .bool false)]) S tys tys_ok 1 [2] (by kernel_rfl) ?_
      clear S; intro a S
      refine wpList_nil ?_
      refine then_n ?_
      refine wp_ret ?_
      refine then_r ?_
      obtain rfl := Option.some.inj h
      exact b_ret1 S rfl rfl ⟨_, rfl, RepV.mkBool, W.below⟩
    · intro hc
      rw [if_neg (Bool.eq_false_iff.1 hc)] at h
      refine wp_skip ?_
      refine then_n ?_
      replace S := S.sub (l' := [(3, v_2), (4, pB b_6), (8, v_102)]) (by exact ⟨rfl, rfl, rfl, trivial⟩)
      refine wp_seq ?_
      refine wp_seq ?_
      refine wp_region_lit ?_
      refine wl_pure (l' := [(16, .int .i64 0), (3, v_2), (4, pB b_6), (8, v_102)]) S tys tys_ok 1 (by kernel_rfl) ?_
      clear S; intro a S
      refine wpList_nil ?_
      refine then_n ?_
      obtain ⟨y_199, ey_199, h⟩ := bindS h
      refine wp_cut_ (fun a_ w_ => ∃ s_200 : (List (Int)), y_199 = .inl s_200 ∧ (St 195 a_ [] ∧ Wd w w_ [some b_115, v_54.ownBlock, some b_6] ∧ Bx (.arr 128 (.int .i64)) 26 w_ (Kx K w.heap.size [some b_115, v_54.ownBlock, some b_6]) b_6 s_200 ∧ Bx (.arr 128 (.int .i64)) 26 w_ (Kx K w.heap.size [some b_115, v_54.ownBlock, some b_6]) b_115 y_131.2)) ?_ ?_
      · refine wp_block ?_
        refine wp_loop_n (fun m_ a_ w_ => ∃ (c_193 : Int) (c_195 : List (Int)) , St 195 a_ [(16, .int .i64 c_193), (3, v_2), (4, pB b_6), (8, v_102)] ∧ Wd w w_ [some b_115, v_54.ownBlock, some b_6] ∧ InR .i64 c_193 ∧ RepV (.sl gt1) w_ (Kx K w.heap.size [some b_115, v_54.ownBlock, some b_6]) v_2 (⟨t_1.xs, t_1.cap⟩ : Sl (Int × Int × Bool × Bool × Bool × Bool × Int)) ∧ RepV (.sl (.int .i64)) w_ (Kx K w.heap.size [some b_115, v_54.ownBlock, some b_6]) v_102 t_101.1 ∧ Bx (.arr 128 (.int .i64)) 26 w_ (Kx K w.heap.size [some b_115, v_54.ownBlock, some b_6]) b_6 c_195 ∧ Bx (.arr 128 (.int .i64)) 26 w_ (Kx K w.heap.size [some b_115, v_54.ownBlock, some b_6]) b_115 y_131.2 ∧ p4_l4 n t_1 t_101 m_ c_193 c_195 = some y_199) n ?_ ?_
        · skip
          exact ⟨0, y_53.2, ⟨S.sub (by exact ⟨rfl, rfl, rfl, rfl, trivial⟩), W, (by decide), R_100, R_104, B_7, B_116, ey_199⟩⟩
        · clear S W; rintro m_201 a w_203 ⟨c_193, c_195, S, W, G_194, R_100, R_104, B_7, B_116, hl_202⟩
          cases m_201 with
          | zero => exact absurd hl_202 (by simp [p4_l4])
          | succ m_201 =>
            refine ⟨m_201, rfl, ?_⟩
            rw [p4_l4] at hl_202
            refine wp_seq ?_
            refine wp_seq ?_
            refine wp_region_lit ?_
            refine wl_pure (l' := [(127, v_102), (126, .int .i64 c_193), (16, .int .i64 c_193), (3, v_2), (4, pB b_6), (8, v_102)]) S tys tys_ok 2 (by kernel_rfl) ?_
            clear S; intro a S
            refine w_go S rfl (op_len (K := _) S rfl ty27 rfl rfl rfl R_104 ?_)
            clear S; intro a G_204 S
            refine wl_pureK (l' := [(129, .bool (decide (c_193 < (lenI t_101.1)))), (16, .int .i64 c_193), (3, v_2), (4, pB b_6), (8, v_102)]) S tys tys_ok 1 [129, 16, 3, 4, 8] (by kernel_rfl) ?_
            clear S; intro a S
            refine wpList_nil ?_
            refine then_n ?_
            refine wp_cond_split (S.eval (show ev _ _ = some (.bool (decide (c_193 < (lenI t_101.1)))) from rfl)) ?_ ?_
            · intro hc
              rw [if_pos hc] at hl_202
              refine wp_skip ?_
              refine then_n ?_
              replace S := S.sub (l' := [(16, .int .i64 c_193), (3, v_2), (4, pB b_6), (8, v_102)]) (by exact ⟨rfl, rfl, rfl, rfl, trivial⟩)
              refine wp_seq ?_
              refine wp_block ?_
              refine wp_seq ?_
              refine wp_region_lit ?_
              refine wl_pure (l' := [(133, .int .i64 c_193), (132, v_102), (16, .int .i64 c_193), (3, v_2), (4, pB b_6), (8, v_102)]) S tys tys_ok 2 (by kernel_rfl) ?_
              clear S; intro a S
              obtain ⟨y_205, ey_205, hl_202⟩ := bindS hl_202
              refine w_go S rfl (op_indexAddr S rfl ty27 rfl rfl rfl R_104 rfl ey_205 ?_)
              clear S; intro a p_206 R_207 H_208 S
              refine w_go S rfl (op_load (t := (.int .i64)) (x := y_205) S rfl ty3 rfl rfl rfl R_207 ?_)
              clear S; intro a v_209 R_210 S
              obtain ⟨rfl, GR_210⟩ := RepV.int R_210
              refine wl_pureK (l' := [(17, .int .i64 y_205), (16, .int .i64 c_193), (3, v_2), (4, pB b_6), (8, v_102)]) S tys tys_ok 1 [17, 16, 3, 4, 8] (by kernel_rfl) ?_
              clear S; intro a S
              refine wpList_nil ?_
              refine then_n ?_
              refine wp_seq ?_
              refine wp_seq ?_
              refine wp_region_lit ?_
              refine wl_pure (l' := [(137, .int .i64 y_205), (136, v_2), (17, .int .i64 y_205), (16, .int .i64 c_193), (3, v_2), (4, pB b_6), (8, v_102)]) S tys tys_ok 2 (by kernel_rfl) ?_
              clear S; intro a S
              obtain ⟨y_211, ey_211, hl_202⟩ := bindS hl_202
              refine w_go S rfl (op_indexAddr S rfl ty24 rfl rfl rfl R_100 rfl ey_211 ?_)
              clear S; intro a p_212 R_213 H_214 S
              refine wl_pureK (l' := [(139, .pointer (some (p_212.add (coff gf1 0)))), (17, .int .i64 y_205), (16, .int .i64 c_193), (3, v_2), (4, pB b_6), (8, v_102)]) S tys tys_ok 1 [139, 17, 16, 3, 4, 8] (by kernel_rfl) ?_
              clear S; intro a S
              refine w_go S rfl (op_load (t := (.int .i64)) (x := y_211.1) S rfl ty3 rfl rfl rfl (RepAt.add 0 (RepAt.st (t := gf1) R_213)) ?_)
              clear S; intro a v_215 R_216 S
              obtain ⟨rfl, GR_216⟩ := RepV.int R_216
              refine wl_pureK (l' := [(142, .bool (decide (y_211.1 ≥ 0))), (17, .int .i64 y_205), (16, .int .i64 c_193), (3, v_2), (4, pB b_6), (8, v_102)]) S tys tys_ok 2 [142, 17, 16, 3, 4, 8] (by kernel_rfl) ?_
              clear S; intro a S
              obtain ⟨q_217, eq_217, hl_202⟩ := bindS hl_202
              refine seg 9 (fun a_ w_ => w_203 = w_ ∧ St 195 a_ [(151, .bool q_217), (17, .int .i64 y_205), (16, .int .i64 c_193), (3, v_2), (4, pB b_6), (8, v_102)]) ?_ ?_
              · by_cases hc : (decide (y_211.1 ≥ 0)) = true
                · rw [if_pos hc] at eq_217; rw [hc] at S
                  refine wl_pure (l' := [(144, .int .i64 y_205), (143, v_2), (142, .bool true), (17, .int .i64 y_205), (16, .int .i64 c_193), (3, v_2), (4, pB b_6), (8, v_102)]) S tys tys_ok 2 (by kernel_rfl) ?_
                  clear S; intro a S
                  obtain ⟨y_218, ey_218, eq_217⟩ := bindS eq_217
                  refine w_go S rfl (op_indexAddr S rfl ty24 rfl rfl rfl R_100 rfl ey_218 ?_)
                  clear S; intro a p_219 R_220 H_221 S
                  refine wl_pure (l' := [(146, .pointer (some (p_219.add (coff gf1 0)))), (145, .pointer (some p_219)), (144, .int .i64 y_205), (143, v_2), (142, .bool true), (17, .int .i64 y_205), (16, .int .i64 c_193), (3, v_2), (4, pB b_6), (8, v_102)]) S tys tys_ok 1 (by kernel_rfl) ?_
                  clear S; intro a S
                  refine w_go S rfl (op_load (t := (.int .i64)) (x := y_218.1) S rfl ty3 rfl rfl rfl (RepAt.add 0 (RepAt.st (t := gf1) R_220)) ?_)
                  clear S; intro a v_222 R_223 S
                  obtain ⟨rfl, GR_223⟩ := RepV.int R_223
                  obtain ⟨y_224, ey_224, eq_217⟩ := bindS eq_217
                  refine w_go S rfl (op_indexAddr_arr S rfl ty26 rfl rfl rfl B_7.at_ rfl ey_224 ?_)
                  clear S; intro a S
                  refine w_go S rfl (op_load (t := (.int .i64)) (x := y_224) S rfl ty3 rfl rfl rfl (RepAt.ix B_7.at_ ey_224) ?_)
                  clear S; intro a v_225 R_226 S
                  obtain ⟨rfl, GR_226⟩ := RepV.int R_226
                  refine wl_pure (l' := [(151, .bool (y_224 == 1)), (150, .bool (y_224 == 1)), (149, .int .i64 y_224), (148, .pointer (some ((⟨b_6, 0, .none⟩ : Addr).add (y_218.1.toNat * GT.sz (.int .i64))))), (147, .int .i64 y_218.1), (146, .pointer (some (p_219.add (coff gf1 0)))), (145, .pointer (some p_219)), (144, .int .i64 y_205), (143, v_2), (142, .bool true), (17, .int .i64 y_205), (16, .int .i64 c_193), (3, v_2), (4, pB b_6), (8, v_102)]) S tys tys_ok 2 (by kernel_rfl) ?_
                  clear S; intro a S
                  obtain rfl := Option.some.inj eq_217
                  exact ⟨rfl, S.sub (by exact ⟨rfl, rfl, rfl, rfl, rfl, rfl, trivial⟩)⟩
                · rw [if_neg hc] at eq_217; rw [show (decide (y_211.1 ≥ 0)) = false from Bool.eq_false_iff.2 hc] at S
                  refine wl_pure (l' := [(151, .bool false), (150, undef), (149, undef), (148, undef), (147, undef), (146, undef), (145, undef), (144, undef), (143, undef), (142, .bool false), (17, .int .i64 y_205), (16, .int .i64 c_193), (3, v_2), (4, pB b_6), (8, v_102)]) S tys tys_ok 9 (by kernel_rfl) ?_
                  clear S; intro a S
                  obtain rfl := Option.some.inj eq_217
                  exact ⟨rfl, S.sub (by exact ⟨rfl, rfl, rfl, rfl, rfl, rfl, trivial⟩)⟩
              clear S eq_217; rintro a _ ⟨rfl, S⟩
              refine wpList_nil ?_
              refine then_n ?_
              refine wp_cond_split (S.eval (show ev _ _ = some (.bool q_217) from rfl)) ?_ ?_
              · intro hc
                rw [if_pos hc] at hl_202
                refine wp_exit ?_
                refine then_x ?_
                refine blk_hit ?_
                refine then_n ?_
                replace S := S.sub (l' := [(16, .int .i64 c_193), (3, v_2), (4, pB b_6), (8, v_102)]) (by exact ⟨rfl, rfl, rfl, rfl, trivial⟩)
                refine wp_region_lit ?_
                refine wl_pure (l' := [(130, .int .i64 c_193), (16, .int .i64 c_193), (3, v_2), (4, pB b_6), (8, v_102)]) S tys tys_ok 1 (by kernel_rfl) ?_
                clear S; intro a S
                obtain ⟨x_227, ex_227, hl_202⟩ := bindS hl_202
                refine w_go S rfl (op_arith S .i64 (c_193 + 1) rfl (.inl rfl) rfl rfl rfl rfl ex_227 ?_)
                clear S; intro a S
                refine wl_pure (l' := [(16, .int .i64 x_227), (131, .int .i64 x_227), (130, .int .i64 c_193), (16, .int .i64 c_193), (3, v_2), (4, pB b_6), (8, v_102)]) S tys tys_ok 1 (by kernel_rfl) ?_
                clear S; intro a S
                refine wpList_nil ?_
                refine then_n ?_
                exact ⟨x_227, c_195, ⟨S.sub (by exact ⟨rfl, rfl, rfl, rfl, trivial⟩), W, (ckI_some ex_227).2.1, R_100, R_104, B_7, B_116, hl_202⟩⟩
              · intro hc
                rw [if_neg (Bool.eq_false_iff.1 hc)] at hl_202
                refine wp_skip ?_
                refine then_n ?_
                replace S := S.sub (l' := [(17, .int .i64 y_205), (16, .int .i64 c_193), (3, v_2), (4, pB b_6), (8, v_102)]) (by exact ⟨rfl, rfl, rfl, rfl, rfl, trivial⟩)
                refine wp_seq ?_
                refine wp_region_lit ?_
                refine wl_pure (l' := [(152, .int .i64 y_205), (17, .int .i64 y_205), (16, .int .i64 c_193), (3, v_2), (4, pB b_6), (8, v_102)]) S tys tys_ok 1 (by kernel_rfl) ?_
                clear S; intro a S
                obtain ⟨y_228, ey_228, hl_202⟩ := bindS hl_202
                refine w_go S rfl (op_indexAddr_arr S rfl ty26 rfl rfl rfl B_7.at_ rfl ey_228 ?_)
                clear S; intro a S
                refine w_go S rfl (op_store (t' := (.int .i64)) S rfl rfl ty3 rfl (addr_add1 _ _) rfl B_7 (by simp) (Ln.arr (n := 128) (by have h_ := (idx_some ey_228).2.2; have l_ := (B_7.at_).arr_len; omega) 0) ((RepV.mkInt (by decide)) : RepV (.int .i64) w_203 (Kx K w.heap.size [some b_115, v_54.ownBlock, some b_6]) _ 0) ?_)
                intro w_229 hw_230 B_
                replace R_100 := R_100.wrote hw_230 (by simp)
                replace R_104 := R_104.wrote hw_230 (by simp)
                replace B_116 := B_116.wrote hw_230 (by simp) (W.bne (p := 0) (q := 2) (by decide) rfl rfl)
                replace W := W.wrote hw_230 (by simp)
                replace B_7 : Bx (.arr 128 (.int .i64)) 26 w_229 (Kx K w.heap.size [some b_115, v_54.ownBlock, some b_6]) b_6 (c_195.set y_205.toNat 0) := B_; clear B_
                refine wpList_nil ?_
                refine then_n ?_
                replace S := S.sub (l' := [(17, .int .i64 y_205), (16, .int .i64 c_193), (3, v_2), (4, pB b_6), (8, v_102)]) (by exact ⟨rfl, rfl, rfl, rfl, rfl, trivial⟩)
                refine wp_seq ?_
                refine wp_region_lit ?_
                refine wl_pure (l' := [(155, .int .i64 y_205), (154, v_2), (17, .int .i64 y_205), (16, .int .i64 c_193), (3, v_2), (4, pB b_6), (8, v_102)]) S tys tys_ok 2 (by kernel_rfl) ?_
                clear S; intro a S
                obtain ⟨y_231, ey_231, hl_202⟩ := bindS hl_202
                refine w_go S rfl (op_indexAddr S rfl ty24 rfl rfl rfl R_100 rfl ey_231 ?_)
                clear S; intro a p_232 R_233 H_234 S
                refine w_go S rfl (op_load (t := gt1) (x := y_231) S rfl ty32 rfl rfl rfl R_233 ?_)
                clear S; intro a v_235 R_236 S
                obtain ⟨t_237, et_237, hl_202⟩ := bindS hl_202
                refine w_go S rfl (op_call (vs := [v_235]) S rfl cb13 rfl rfl rfl (c13 (Kx K w.heap.size [some b_115, v_54.ownBlock, some b_6]) n w_229 y_231 _ R_236 et_237) ?_)
                rintro _ w_241 ⟨v_238, rfl, R_239, hb_240⟩; refine ⟨_, rfl, ?_⟩
                replace R_239 := RepV.back R_239 W
                clear S; intro a S
                replace R_100 := R_100.step hb_240
                replace R_104 := R_104.step hb_240
                replace R_236 := R_236.step hb_240
                replace B_7 := B_7.step hb_240
                replace B_116 := B_116.step hb_240
                replace W := W.step hb_240
                obtain ⟨rfl, GR_239⟩ := RepV.int R_239
                refine wl_pureK (l' := [(18, .int .i64 t_237), (17, .int .i64 y_205), (16, .int .i64 c_193), (3, v_2), (4, pB b_6), (8, v_102)]) S tys tys_ok 1 [18, 17, 16, 3, 4, 8] (by kernel_rfl) ?_
                clear S; intro a S
                refine wpList_nil ?_
                refine then_n ?_
                refine wp_seq ?_
                refine wp_seq ?_
                refine wp_region_lit ?_
                refine wl_pure (l' := [(159, .int .i64 y_205), (18, .int .i64 t_237), (17, .int .i64 y_205), (16, .int .i64 c_193), (3, v_2), (4, pB b_6), (8, v_102)]) S tys tys_ok 1 (by kernel_rfl) ?_
                clear S; intro a S
                obtain ⟨x_242, ex_242, hl_202⟩ := bindS hl_202
                refine w_go S rfl (op_arith S .i64 (y_205 + 1) rfl (.inl rfl) rfl rfl rfl rfl ex_242 ?_)
                clear S; intro a S
                refine wl_pure (l' := [(19, .int .i64 x_242), (160, .int .i64 x_242), (159, .int .i64 y_205), (18, .int .i64 t_237), (17, .int .i64 y_205), (16, .int .i64 c_193), (3, v_2), (4, pB b_6), (8, v_102)]) S tys tys_ok 1 (by kernel_rfl) ?_
                clear S; intro a S
                refine wpList_nil ?_
                refine then_n ?_
                replace S := S.sub (l' := [(19, .int .i64 x_242), (18, .int .i64 t_237), (17, .int .i64 y_205), (16, .int .i64 c_193), (3, v_2), (4, pB b_6), (8, v_102)]) (by exact ⟨rfl, rfl, rfl, rfl, rfl, rfl, rfl, trivial⟩)
                obtain ⟨y_251, ey_251, hl_202⟩ := bindS hl_202
                refine wp_cut_ (fun a_ w_ => St 195 a_ [(3, v_2), (4, pB b_6), (8, v_102), (16, .int .i64 c_193), (17, .int .i64 y_205), (18, .int .i64 y_251)] ∧ Wd w w_ [some b_115, v_54.ownBlock, some b_6] ∧ InR .i64 y_251 ∧ RepV (.sl gt1) w_ (Kx K w.heap.size [some b_115, v_54.ownBlock, some b_6]) v_2 (⟨t_1.xs, t_1.cap⟩ : Sl (Int × Int × Bool × Bool × Bool × Bool × Int)) ∧ RepV (.sl (.int .i64)) w_ (Kx K w.heap.size [some b_115, v_54.ownBlock, some b_6]) v_102 t_101.1 ∧ Bx (.arr 128 (.int .i64)) 26 w_ (Kx K w.heap.size [some b_115, v_54.ownBlock, some b_6]) b_6 (c_195.set y_205.toNat 0) ∧ Bx (.arr 128 (.int .i64)) 26 w_ (Kx K w.heap.size [some b_115, v_54.ownBlock, some b_6]) b_115 y_131.2) ?_ ?_
                · refine wp_block ?_
                  refine wp_loop_n (fun m_ a_ w_ => ∃ (c_243 : Int) (c_245 : Int) , St 195 a_ [(19, .int .i64 c_243), (18, .int .i64 c_245), (17, .int .i64 y_205), (16, .int .i64 c_193), (3, v_2), (4, pB b_6), (8, v_102)] ∧ Wd w w_ [some b_115, v_54.ownBlock, some b_6] ∧ InR .i64 c_243 ∧ InR .i64 c_245 ∧ RepV (.sl gt1) w_ (Kx K w.heap.size [some b_115, v_54.ownBlock, some b_6]) v_2 (⟨t_1.xs, t_1.cap⟩ : Sl (Int × Int × Bool × Bool × Bool × Bool × Int)) ∧ RepV (.sl (.int .i64)) w_ (Kx K w.heap.size [some b_115, v_54.ownBlock, some b_6]) v_102 t_101.1 ∧ Bx (.arr 128 (.int .i64)) 26 w_ (Kx K w.heap.size [some b_115, v_54.ownBlock, some b_6]) b_6 (c_195.set y_205.toNat 0) ∧ Bx (.arr 128 (.int .i64)) 26 w_ (Kx K w.heap.size [some b_115, v_54.ownBlock, some b_6]) b_115 y_131.2 ∧ p4_l5 n t_1 y_205 m_ c_243 c_245 = some y_251) n ?_ ?_
                  · skip
                    exact ⟨x_242, t_237, ⟨S.sub (by exact ⟨rfl, rfl, rfl, rfl, rfl, rfl, rfl, trivial⟩), W, (ckI_some ex_242).2.1, GR_239, R_100, R_104, B_7, B_116, ey_251⟩⟩
                  · clear S W; rintro m_253 a w_255 ⟨c_243, c_245, S, W, G_244, G_246, R_100, R_104, B_7, B_116, hl_254⟩
                    cases m_253 with
                    | zero => exact absurd hl_254 (by simp [p4_l5])
                    | succ m_253 =>
                      refine ⟨m_253, rfl, ?_⟩
                      rw [p4_l5] at hl_254
                      refine wp_seq ?_
                      refine wp_seq ?_
                      refine wp_region_lit ?_
                      refine wl_pure (l' := [(162, v_2), (161, .int .i64 c_243), (19, .int .i64 c_243), (18, .int .i64 c_245), (17, .int .i64 y_205), (16, .int .i64 c_193), (3, v_2), (4, pB b_6), (8, v_102)]) S tys tys_ok 2 (by kernel_rfl) ?_
                      clear S; intro a S
                      refine w_go S rfl (op_len (K := _) S rfl ty24 rfl rfl rfl R_100 ?_)
                      clear S; intro a G_256 S
                      refine wl_pureK (l' := [(165, .bool (decide (c_243 < (lenI (⟨t_1.xs, t_1.cap⟩ : Sl (Int × Int × Bool × Bool × Bool × Bool × Int)))))), (19, .int .i64 c_243), (18, .int .i64 c_245), (17, .int .i64 y_205), (16, .int .i64 c_193), (3, v_2), (4, pB b_6), (8, v_102)]) S tys tys_ok 2 [165, 19, 18, 17, 16, 3, 4, 8] (by kernel_rfl) ?_
                      clear S; intro a S
                      obtain ⟨q_257, eq_257, hl_254⟩ := bindS hl_254
                      refine seg 7 (fun a_ w_ => w_255 = w_ ∧ St 195 a_ [(172, .bool q_257), (19, .int .i64 c_243), (18, .int .i64 c_245), (17, .int .i64 y_205), (16, .int .i64 c_193), (3, v_2), (4, pB b_6), (8, v_102)]) ?_ ?_
                      · by_cases hc : (decide (c_243 < (lenI (⟨t_1.xs, t_1.cap⟩ : Sl (Int × Int × Bool × Bool × Bool × Bool × Int))))) = true
                        · rw [if_pos hc] at eq_257; rw [hc] at S
                          refine wl_pure (l' := [(167, .int .i64 y_205), (166, v_2), (165, .bool true), (19, .int .i64 c_243), (18, .int .i64 c_245), (17, .int .i64 y_205), (16, .int .i64 c_193), (3, v_2), (4, pB b_6), (8, v_102)]) S tys tys_ok 2 (by kernel_rfl) ?_
                          clear S; intro a S
                          obtain ⟨y_258, ey_258, eq_257⟩ := bindS eq_257
                          refine w_go S rfl (op_indexAddr S rfl ty24 rfl rfl rfl R_100 rfl ey_258 ?_)
                          clear S; intro a p_259 R_260 H_261 S
                          refine wl_pure (l' := [(169, .pointer (some (p_259.add (coff gf1 3)))), (168, .pointer (some p_259)), (167, .int .i64 y_205), (166, v_2), (165, .bool true), (19, .int .i64 c_243), (18, .int .i64 c_245), (17, .int .i64 y_205), (16, .int .i64 c_193), (3, v_2), (4, pB b_6), (8, v_102)]) S tys tys_ok 1 (by kernel_rfl) ?_
                          clear S; intro a S
                          refine w_go S rfl (op_load (t := .bool) (x := y_258.2.2.2.1) S rfl ty4 rfl rfl rfl (RepAt.add 3 (RepAt.st (t := gf1) R_260)) ?_)
                          clear S; intro a v_262 R_263 S
                          obtain rfl := RepV.bool R_263
                          refine wl_pure (l' := [(172, .bool (!y_258.2.2.2.1)), (171, .bool (!y_258.2.2.2.1)), (170, .bool y_258.2.2.2.1), (169, .pointer (some (p_259.add (coff gf1 3)))), (168, .pointer (some p_259)), (167, .int .i64 y_205), (166, v_2), (165, .bool true), (19, .int .i64 c_243), (18, .int .i64 c_245), (17, .int .i64 y_205), (16, .int .i64 c_193), (3, v_2), (4, pB b_6), (8, v_102)]) S tys tys_ok 2 (by kernel_rfl) ?_
                          clear S; intro a S
                          obtain rfl := Option.some.inj eq_257
                          exact ⟨rfl, S.sub (by exact ⟨rfl, rfl, rfl, rfl, rfl, rfl, rfl, rfl, trivial⟩)⟩
                        · rw [if_neg hc] at eq_257; rw [show (decide (c_243 < (lenI (⟨t_1.xs, t_1.cap⟩ : Sl (Int × Int × Bool × Bool × Bool × Bool × Int))))) = false from Bool.eq_false_iff.2 hc] at S
                          refine wl_pure (l' := [(172, .bool false), (171, undef), (170, undef), (169, undef), (168, undef), (167, undef), (166, undef), (165, .bool false), (19, .int .i64 c_243), (18, .int .i64 c_245), (17, .int .i64 y_205), (16, .int .i64 c_193), (3, v_2), (4, pB b_6), (8, v_102)]) S tys tys_ok 7 (by kernel_rfl) ?_
                          clear S; intro a S
                          obtain rfl := Option.some.inj eq_257
                          exact ⟨rfl, S.sub (by exact ⟨rfl, rfl, rfl, rfl, rfl, rfl, rfl, rfl, trivial⟩)⟩
                      clear S eq_257; rintro a _ ⟨rfl, S⟩
                      refine wpList_nil ?_
                      refine then_n ?_
                      refine wp_cond_split (S.eval (show ev _ _ = some (.bool q_257) from rfl)) ?_ ?_
                      · intro hc
                        rw [if_pos hc] at hl_254
                        refine wp_skip ?_
                        refine then_n ?_
                        replace S := S.sub (l' := [(19, .int .i64 c_243), (18, .int .i64 c_245), (17, .int .i64 y_205), (16, .int .i64 c_193), (3, v_2), (4, pB b_6), (8, v_102)]) (by exact ⟨rfl, rfl, rfl, rfl, rfl, rfl, rfl, trivial⟩)
                        refine wp_seq ?_
                        refine wp_block ?_
                        refine wp_seq ?_
                        refine wp_region_lit ?_
                        refine wl_pure (l' := [(176, .int .i64 c_243), (175, v_2), (19, .int .i64 c_243), (18, .int .i64 c_245), (17, .int .i64 y_205), (16, .int .i64 c_193), (3, v_2), (4, pB b_6), (8, v_102)]) S tys tys_ok 2 (by kernel_rfl) ?_
                        clear S; intro a S
                        obtain ⟨y_264, ey_264, hl_254⟩ := bindS hl_254
                        refine w_go S rfl (op_indexAddr S rfl ty24 rfl rfl rfl R_100 rfl ey_264 ?_)
                        clear S; intro a p_265 R_266 H_267 S
                        refine wl_pureK (l' := [(178, .pointer (some (p_265.add (coff gf1 0)))), (19, .int .i64 c_243), (18, .int .i64 c_245), (17, .int .i64 y_205), (16, .int .i64 c_193), (3, v_2), (4, pB b_6), (8, v_102)]) S tys tys_ok 1 [178, 19, 18, 17, 16, 3, 4, 8] (by kernel_rfl) ?_
                        clear S; intro a S
                        refine w_go S rfl (op_load (t := (.int .i64)) (x := y_264.1) S rfl ty3 rfl rfl rfl (RepAt.add 0 (RepAt.st (t := gf1) R_266)) ?_)
                        clear S; intro a v_268 R_269 S
                        obtain ⟨rfl, GR_269⟩ := RepV.int R_269
                        refine wl_pureK (l' := [(181, .bool (y_264.1 == y_205)), (19, .int .i64 c_243), (18, .int .i64 c_245), (17, .int .i64 y_205), (16, .int .i64 c_193), (3, v_2), (4, pB b_6), (8, v_102)]) S tys tys_ok 2 [181, 19, 18, 17, 16, 3, 4, 8] (by kernel_rfl) ?_
                        clear S; intro a S
                        refine wpList_nil ?_
                        refine then_n ?_
                        obtain ⟨j_270, ej_270, hl_254⟩ := bindS hl_254
                        refine wp_cut_ (fun a_ w_ => St 195 a_ [(19, .int .i64 c_243), (18, .int .i64 j_270), (17, .int .i64 y_205), (16, .int .i64 c_193), (3, v_2), (4, pB b_6), (8, v_102)] ∧ Wd w w_ [some b_115, v_54.ownBlock, some b_6] ∧ InR .i64 j_270 ∧ RepV (.sl gt1) w_ (Kx K w.heap.size [some b_115, v_54.ownBlock, some b_6]) v_2 (⟨t_1.xs, t_1.cap⟩ : Sl (Int × Int × Bool × Bool × Bool × Bool × Int)) ∧ RepV (.sl (.int .i64)) w_ (Kx K w.heap.size [some b_115, v_54.ownBlock, some b_6]) v_102 t_101.1 ∧ Bx (.arr 128 (.int .i64)) 26 w_ (Kx K w.heap.size [some b_115, v_54.ownBlock, some b_6]) b_6 (c_195.set y_205.toNat 0) ∧ Bx (.arr 128 (.int .i64)) 26 w_ (Kx K w.heap.size [some b_115, v_54.ownBlock, some b_6]) b_115 y_131.2) ?_ ?_
                        · refine wp_cond_split (S.eval (show ev _ _ = some (.bool (y_264.1 == y_205)) from rfl)) ?_ ?_
                          · intro hc
                            rw [if_pos hc] at ej_270
                            refine wp_region_lit ?_
                            refine wl_pure (l' := [(184, .int .i64 c_243), (183, v_2), (182, .int .i64 c_245), (181, .bool (y_264.1 == y_205)), (19, .int .i64 c_243), (18, .int .i64 c_245), (17, .int .i64 y_205), (16, .int .i64 c_193), (3, v_2), (4, pB b_6), (8, v_102)]) S tys tys_ok 3 (by kernel_rfl) ?_
                            clear S; intro a S
                            obtain ⟨t_272, et_272, ej_270⟩ := bindS ej_270
                            refine w_go S rfl (op_call (vs := [v_2, .int .i64 c_243]) S rfl cb21 rfl rfl rfl (c21 (Kx K w.heap.size [some b_115, v_54.ownBlock, some b_6]) n w_255 (⟨t_1.xs, t_1.cap⟩ : Sl (Int × Int × Bool × Bool × Bool × Bool × Int)) _ R_100 c_243 G_244 et_272) ?_)
                            rintro _ w_276 ⟨v_273, rfl, R_274, hb_275⟩; refine ⟨_, rfl, ?_⟩
                            replace R_274 := RepV.back R_274 W
                            clear S; intro a S
                            replace R_100 := R_100.step hb_275
                            replace R_104 := R_104.step hb_275
                            replace B_7 := B_7.step hb_275
                            replace B_116 := B_116.step hb_275
                            replace W := W.step hb_275
                            obtain ⟨rfl, GR_274⟩ := RepV.int R_274
                            obtain ⟨x_277, ex_277, ej_270⟩ := bindS ej_270
                            refine w_go S rfl (op_arith S .i64 (c_245 + t_272) rfl (.inl rfl) rfl rfl rfl rfl ex_277 ?_)
                            clear S; intro a S
                            refine wl_pureK (l' := [(18, .int .i64 x_277), (19, .int .i64 c_243), (18, .int .i64 c_245), (17, .int .i64 y_205), (16, .int .i64 c_193), (3, v_2), (4, pB b_6), (8, v_102)]) S tys tys_ok 1 [18, 19, 17, 16, 3, 4, 8] (by kernel_rfl) ?_
                            clear S; intro a S
                            refine wpList_nil ?_
                            refine then_n ?_
                            obtain rfl := Option.some.inj ej_270
                            exact ⟨S.sub (by exact ⟨rfl, rfl, rfl, rfl, rfl, rfl, rfl, trivial⟩), W, (ckI_some ex_277).2.1, R_100, R_104, B_7, B_116⟩
                          · intro hc
                            rw [if_neg (Bool.eq_false_iff.1 hc)] at ej_270
                            refine wp_skip ?_
                            refine then_n ?_
                            obtain rfl := Option.some.inj ej_270
                            exact ⟨S.sub (by exact ⟨rfl, rfl, rfl, rfl, rfl, rfl, rfl, trivial⟩), W, G_246, R_100, R_104, B_7, B_116⟩
                        clear S W; rintro a w_278 ⟨S, W, G_271, R_100, R_104, B_7, B_116⟩
                        refine blk_n ?_
                        refine then_n ?_
                        refine wp_region_lit ?_
                        refine wl_pure (l' := [(173, .int .i64 c_243), (19, .int .i64 c_243), (18, .int .i64 j_270), (17, .int .i64 y_205), (16, .int .i64 c_193), (3, v_2), (4, pB b_6), (8, v_102)]) S tys tys_ok 1 (by kernel_rfl) ?_
                        clear S; intro a S
                        obtain ⟨x_279, ex_279, hl_254⟩ := bindS hl_254
                        refine w_go S rfl (op_arith S .i64 (c_243 + 1) rfl (.inl rfl) rfl rfl rfl rfl ex_279 ?_)
                        clear S; intro a S
                        refine wl_pure (l' := [(19, .int .i64 x_279), (174, .int .i64 x_279), (173, .int .i64 c_243), (19, .int .i64 c_243), (18, .int .i64 j_270), (17, .int .i64 y_205), (16, .int .i64 c_193), (3, v_2), (4, pB b_6), (8, v_102)]) S tys tys_ok 1 (by kernel_rfl) ?_
                        clear S; intro a S
                        refine wpList_nil ?_
                        refine then_n ?_
                        exact ⟨x_279, j_270, ⟨S.sub (by exact ⟨rfl, rfl, rfl, rfl, rfl, rfl, rfl, trivial⟩), W, (ckI_some ex_279).2.1, G_271, R_100, R_104, B_7, B_116, hl_254⟩⟩
                      · intro hc
                        rw [if_neg (Bool.eq_false_iff.1 hc)] at hl_254
                        refine wp_exit ?_
                        refine then_x ?_
                        refine then_x ?_
                        refine blk_hit ?_
                        refine then_n ?_
                        obtain rfl := Option.some.inj hl_254
                        exact ⟨S.sub (by exact ⟨rfl, rfl, rfl, rfl, rfl, rfl, trivial⟩), W, G_246, R_100, R_104, B_7, B_116⟩
                clear S W; rintro a w_280 ⟨S, W, G_252, R_100, R_104, B_7, B_116⟩
                refine then_n ?_
                refine wp_seq ?_
                refine wp_region_lit ?_
                refine wl_pure (l' := [(187, .int .i64 y_205), (3, v_2), (4, pB b_6), (8, v_102), (16, .int .i64 c_193), (17, .int .i64 y_205), (18, .int .i64 y_251)]) S tys tys_ok 1 (by kernel_rfl) ?_
                clear S; intro a S
                obtain ⟨y_281, ey_281, hl_202⟩ := bindS hl_202
                refine w_go S rfl (op_indexAddr_arr S rfl ty26 rfl rfl rfl B_7.at_ rfl ey_281 ?_)
                clear S; intro a S
                refine w_go S rfl (op_store (t' := (.int .i64)) S rfl rfl ty3 rfl (addr_add1 _ _) rfl B_7 (by simp) (Ln.arr (n := 128) (by have h_ := (idx_some ey_281).2.2; have l_ := (B_7.at_).arr_len; omega) 0) ((RepV.mkInt (by decide)) : RepV (.int .i64) w_280 (Kx K w.heap.size [some b_115, v_54.ownBlock, some b_6]) _ 1) ?_)
                intro w_282 hw_283 B_
                replace R_100 := R_100.wrote hw_283 (by simp)
                replace R_104 := R_104.wrote hw_283 (by simp)
                replace B_116 := B_116.wrote hw_283 (by simp) (W.bne (p := 0) (q := 2) (by decide) rfl rfl)
                replace W := W.wrote hw_283 (by simp)
                replace B_7 : Bx (.arr 128 (.int .i64)) 26 w_282 (Kx K w.heap.size [some b_115, v_54.ownBlock, some b_6]) b_6 ((c_195.set y_205.toNat 0).set y_205.toNat 1) := B_; clear B_
                refine wpList_nil ?_
                refine then_n ?_
                replace S := S.sub (l' := [(3, v_2), (4, pB b_6), (8, v_102), (16, .int .i64 c_193), (17, .int .i64 y_205), (18, .int .i64 y_251)]) (by exact ⟨rfl, rfl, rfl, rfl, rfl, rfl, trivial⟩)
                refine wp_seq ?_
                refine wp_region_lit ?_
                refine wl_pure (l' := [(191, .int .i64 y_205), (190, v_2), (189, .int .i64 y_251), (3, v_2), (4, pB b_6), (8, v_102), (16, .int .i64 c_193), (17, .int .i64 y_205), (18, .int .i64 y_251)]) S tys tys_ok 3 (by kernel_rfl) ?_
                clear S; intro a S
                obtain ⟨t_284, et_284, hl_202⟩ := bindS hl_202
                refine w_go S rfl (op_call (vs := [v_2, .int .i64 y_205]) S rfl cb11 rfl rfl rfl (c11 (Kx K w.heap.size [some b_115, v_54.ownBlock, some b_6]) n w_282 (⟨t_1.xs, t_1.cap⟩ : Sl (Int × Int × Bool × Bool × Bool × Bool × Int)) _ R_100 y_205 GR_210 et_284) ?_)
                rintro _ w_288 ⟨v_285, rfl, R_286, hb_287⟩; refine ⟨_, rfl, ?_⟩
                replace R_286 := RepV.back R_286 W
                clear S; intro a S
                replace R_100 := R_100.step hb_287
                replace R_104 := R_104.step hb_287
                replace B_7 := B_7.step hb_287
                replace B_116 := B_116.step hb_287
                replace W := W.step hb_287
                obtain ⟨rfl, GR_286⟩ := RepV.int R_286
                refine wl_pureK (l' := [(193, .bool (decide (y_251 ≤ t_284))), (3, v_2), (4, pB b_6), (8, v_102), (16, .int .i64 c_193)]) S tys tys_ok 1 [193, 3, 4, 8, 16] (by kernel_rfl) ?_
                clear S; intro a S
                refine wpList_nil ?_
                refine then_n ?_
                refine wp_cond_split (S.eval (show ev _ _ = some (.bool (decide (y_251 ≤ t_284))) from rfl)) ?_ ?_
                · intro hc
                  rw [if_pos hc] at hl_202
                  refine wp_seq ?_
                  refine wp_region_lit ?_
                  refine wl_pureK (l' := [(2, .bool false)]) S tys tys_ok 1 [2] (by kernel_rfl) ?_
                  clear S; intro a S
                  refine wpList_nil ?_
                  refine then_n ?_
                  refine wp_ret ?_
                  refine blk_r ?_
                  refine then_r ?_
                  refine then_r ?_
                  refine blk_r ?_
                  refine then_r ?_
                  refine then_r ?_
                  obtain rfl := Option.some.inj hl_202
                  obtain rfl := lr_inr h
                  exact b_ret1 S rfl rfl ⟨_, rfl, RepV.mkBool, W.below⟩
                · intro hc
                  rw [if_neg (Bool.eq_false_iff.1 hc)] at hl_202
                  refine wp_skip ?_
                  refine blk_n ?_
                  refine then_n ?_
                  replace S := S.sub (l' := [(3, v_2), (4, pB b_6), (8, v_102), (16, .int .i64 c_193)]) (by exact ⟨rfl, rfl, rfl, rfl, trivial⟩)
                  refine wp_region_lit ?_
                  refine wl_pure (l' := [(130, .int .i64 c_193), (3, v_2), (4, pB b_6), (8, v_102), (16, .int .i64 c_193)]) S tys tys_ok 1 (by kernel_rfl) ?_
                  clear S; intro a S
                  obtain ⟨x_289, ex_289, hl_202⟩ := bindS hl_202
                  refine w_go S rfl (op_arith S .i64 (c_193 + 1) rfl (.inl rfl) rfl rfl rfl rfl ex_289 ?_)
                  clear S; intro a S
                  refine wl_pure (l' := [(16, .int .i64 x_289), (131, .int .i64 x_289), (130, .int .i64 c_193), (3, v_2), (4, pB b_6), (8, v_102), (16, .int .i64 c_193)]) S tys tys_ok 1 (by kernel_rfl) ?_
                  clear S; intro a S
                  refine wpList_nil ?_
                  refine then_n ?_
                  exact ⟨x_289, ((c_195.set y_205.toNat 0).set y_205.toNat 1), ⟨S.sub (by exact ⟨rfl, rfl, rfl, rfl, trivial⟩), W, (ckI_some ex_289).2.1, R_100, R_104, B_7, B_116, hl_202⟩⟩
            · intro hc
              rw [if_neg (Bool.eq_false_iff.1 hc)] at hl_202
              refine wp_exit ?_
              refine then_x ?_
              refine then_x ?_
              refine blk_hit ?_
              refine then_n ?_
              obtain rfl := Option.some.inj hl_202
              exact ⟨_, rfl, ⟨S.sub trivial, W, B_7, B_116⟩⟩
      clear S W; rintro a w_290 ⟨s_200, rfl, S, W, B_7, B_116⟩
      replace h := lr_inl h; try dsimp only at h
      refine then_n ?_
      refine wp_seq ?_
      refine wp_region_lit ?_
      obtain ⟨t_291, et_291, h⟩ := bindS h
      refine w_go S rfl (op_call (vs := []) S rfl cb19 rfl rfl rfl (c19 (Kx K w.heap.size [some b_115, v_54.ownBlock, some b_6]) n w_290  et_291) ?_)
      rintro _ w_295 ⟨v_292, rfl, R_293, hb_294⟩; refine ⟨_, rfl, ?_⟩
      replace R_293 := RepV.back R_293 W
      clear S; intro a S
      replace B_7 := B_7.step hb_294
      replace B_116 := B_116.step hb_294
      replace W := W.step hb_294
      obtain rfl := RepV.bool R_293
      refine wl_pure (l' := [(2, .bool t_291), (194, .bool t_291)]) S tys tys_ok 1 (by kernel_rfl) ?_
      clear S; intro a S
      refine wpList_nil ?_
      refine then_n ?_
      replace S := S.sub (l' := [(2, .bool t_291)]) (by exact ⟨rfl, trivial⟩)
      refine wp_ret ?_
      obtain rfl := Option.some.inj h
      exact b_ret1 S rfl rfl ⟨_, rfl, RepV.mkBool, W.below⟩

end Go.Proofs.Ytnelgpgmggcdcaa
