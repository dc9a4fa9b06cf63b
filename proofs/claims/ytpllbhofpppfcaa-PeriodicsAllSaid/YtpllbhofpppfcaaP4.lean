/- Functions of the program, as plain data. -/
import Derived.Test.YtpllbhofpppfcaaP3
set_option linter.unusedVariables false
set_option linter.unusedSimpArgs false
namespace Go.Proofs.Ytpllbhofpppfcaa
open Go.RowKit

def p14_l1 (n : Nat) (x0 : Int) (x1 : Int) (x3 : Int) : Nat → (Int) → (Int) → Option ((Int))
  | 0, _, _ => .none
  | m + 1, c_6, c_8 => if (decide (c_6 < x3)) then ((if (decide (c_6 ≥ 0)) = true then (remI .i64 c_6 x0).bind fun x_20 => some (x_20 == x1) else some false).bind fun q_19 => (if q_19 then ((ckI .i64 (c_8 + 1)).bind fun x_23 => some x_23) else some c_8).bind fun (j_21 : (Int)) => (ckI .i64 (c_6 + 1)).bind fun x_25 => p14_l1 n x0 x1 x3 m x_25 j_21) else some c_8
def p14 (n : Nat) (x0 : Int) (x1 : Int) (x2 : Int) (x3 : Int) : Option ((Int)) :=
  (p11 n x0 x1).bind fun t_1 =>
  if (!t_1) then (some 0) else (p14_l1 n x0 x1 x3 n x2 0).bind fun (y_14 : (Int)) => some y_14
set_option maxHeartbeats 4000000 in
set_option maxRecDepth 100000 in
/-- plugboard/plugboardref10.Count -/
theorem c14 (K : Nat → Prop) (n : Nat) (w : World) (x0 : Int) (G0 : InR .i64 x0) (x1 : Int) (G1 : InR .i64 x1) (x2 : Int) (G2 : InR .i64 x2) (x3 : Int) (G3 : InR .i64 x3) {r : (Int)} (h : p14 n x0 x1 x2 x3 = some r) :
    Calls Try.prog 14 #[.int .i64 x0, .int .i64 x1, .int .i64 x2, .int .i64 x3] w (Ret1 (.int .i64) w (Kx K w.heap.size []) r) := by
  refine enter (args := [.int .i64 x0, .int .i64 x1, .int .i64 x2, .int .i64 x3]) Try.func14 rfl 33 rfl rfl fun a S => ?_
  have W := Wd.start w
  unfold p14 at h
  replace S : St 33 a [(0, .int .i64 x0), (1, .int .i64 x1), (2, .int .i64 x2), (3, .int .i64 x3)] := S
  refine wp_seq ?_
  refine wp_region_lit ?_
  refine wl_pure (l' := [(8, .int .i64 0), (0, .int .i64 x0), (1, .int .i64 x1), (2, .int .i64 x2), (3, .int .i64 x3)]) S tys tys_ok 1 (by kernel_rfl) ?_
  clear S; intro a S
  refine wpList_nil ?_
  refine then_n ?_
  replace S := S.sub (l' := [(0, .int .i64 x0), (1, .int .i64 x1), (2, .int .i64 x2), (3, .int .i64 x3)]) (by exact ⟨rfl, rfl, rfl, rfl, trivial⟩)
  refine wp_seq ?_
  refine wp_seq ?_
  refine wp_region_lit ?_
  refine wl_pure (l' := [(12, .int .i64 x1), (11, .int .i64 x0), (0, .int .i64 x0), (1, .int .i64 x1), (2, .int .i64 x2), (3, .int .i64 x3)]) S tys tys_ok 2 (by kernel_rfl) ?_
  clear S; intro a S
  obtain ⟨t_1, et_1, h⟩ := bindS h
  refine w_go S rfl (op_call (vs := [.int .i64 x0, .int .i64 x1]) S rfl cb11 rfl rfl rfl (c11 (Kx K w.heap.size []) n w x0 G0 x1 G1 et_1) ?_)
  rintro _ w_5 ⟨v_2, rfl, R_3, hb_4⟩; refine ⟨_, rfl, ?_⟩
  replace R_3 := RepV.back R_3 W
  clear S; intro a S
  replace W := W.step hb_4
  obtain rfl := RepV.bool R_3
  refine wl_pure (l' := [(14, .bool (!t_1)), (13, .bool t_1), (12, .int .i64 x1), (11, .int .i64 x0), (0, .int .i64 x0), (1, .int .i64 x1), (2, .int .i64 x2), (3, .int .i64 x3)]) S tys tys_ok 1 (by kernel_rfl) ?_
  clear S; intro a S
  refine wpList_nil ?_
  refine then_n ?_
  replace S := S.sub (l' := [(14, .bool (!t_1)), (0, .int .i64 x0), (1, .int .i64 x1), (2, .int .i64 x2), (3, .int .i64 x3)]) (by exact ⟨rfl, rfl, rfl, rfl, rfl, trivial⟩)
  refine wp_cond_split (S.eval (show ev _ _ = some (.bool (!t_1)) from rfl)) ?_ ?_
  · intro hc
    rw [if_pos hc] at h
    refine wp_seq ?_
    refine wp_region_lit ?_
    refine wl_pure (l' := [(8, .int .i64 0), (14, .bool (!t_1)), (0, .int .i64 x0), (1, .int .i64 x1), (2, .int .i64 x2), (3, .int .i64 x3)]) S tys tys_ok 1 (by kernel_rfl) ?_
    clear S; intro a S
    refine wpList_nil ?_
    refine then_n ?_
    replace S := S.sub (l' := [(8, .int .i64 0)]) (by exact ⟨rfl, trivial⟩)
    refine wp_ret ?_
    refine then_r ?_
    obtain rfl := Option.some.inj h
    exact b_ret1 S rfl rfl ⟨_, rfl, (RepV.mkInt (by decide)), W.below⟩
  · intro hc
    rw [if_neg (Bool.eq_false_iff.1 hc)] at h
    refine wp_skip ?_
    refine then_n ?_
    replace S := S.sub (l' := [(0, .int .i64 x0), (1, .int .i64 x1), (2, .int .i64 x2), (3, .int .i64 x3)]) (by exact ⟨rfl, rfl, rfl, rfl, trivial⟩)
    refine wp_seq ?_
    refine wp_region_lit ?_
    refine wl_pure (l' := [(9, .int .i64 0), (0, .int .i64 x0), (1, .int .i64 x1), (2, .int .i64 x2), (3, .int .i64 x3)]) S tys tys_ok 1 (by kernel_rfl) ?_
    clear S; intro a S
    refine wpList_nil ?_
    refine then_n ?_
    refine wp_seq ?_
    refine wp_seq ?_
    refine wp_region_lit ?_
    refine wl_pure (l' := [(10, .int .i64 x2), (15, .int .i64 x2), (9, .int .i64 0), (0, .int .i64 x0), (1, .int .i64 x1), (2, .int .i64 x2), (3, .int .i64 x3)]) S tys tys_ok 2 (by kernel_rfl) ?_
    clear S; intro a S
    refine wpList_nil ?_
    refine then_n ?_
    replace S := S.sub (l' := [(10, .int .i64 x2), (9, .int .i64 0), (0, .int .i64 x0), (1, .int .i64 x1), (3, .int .i64 x3)]) (by exact ⟨rfl, rfl, rfl, rfl, rfl, trivial⟩)
    obtain ⟨y_14, ey_14, h⟩ := bindS h
    refine wp_cut_ (fun a_ w_ => St 33 a_ [(9, .int .i64 y_14)] ∧ Wd w w_ [] ∧ InR .i64 y_14) ?_ ?_
    · refine wp_block ?_
      refine wp_loop_n (fun m_ a_ w_ => ∃ (c_6 : Int) (c_8 : Int) , St 33 a_ [(10, .int .i64 c_6), (9, .int .i64 c_8), (0, .int .i64 x0), (1, .int .i64 x1), (3, .int .i64 x3)] ∧ Wd w w_ [] ∧ InR .i64 c_6 ∧ InR .i64 c_8 ∧ p14_l1 n x0 x1 x3 m_ c_6 c_8 = some y_14) n ?_ ?_
      · skip
        exact ⟨x2, 0, ⟨S.sub (by exact ⟨rfl, rfl, rfl, rfl, rfl, trivial⟩), W, G2, (by decide), ey_14⟩⟩
      · clear S W; rintro m_16 a w_18 ⟨c_6, c_8, S, W, G_7, G_9, hl_17⟩
        cases m_16 with
        | zero => exact absurd hl_17 (by simp [p14_l1])
        | succ m_16 =>
          refine ⟨m_16, rfl, ?_⟩
          rw [p14_l1] at hl_17
          refine wp_seq ?_
          refine wp_seq ?_
          refine wp_region_lit ?_
          refine wl_pure (l' := [(18, .bool (decide (c_6 < x3))), (17, .int .i64 x3), (16, .int .i64 c_6), (10, .int .i64 c_6), (9, .int .i64 c_8), (0, .int .i64 x0), (1, .int .i64 x1), (3, .int .i64 x3)]) S tys tys_ok 3 (by kernel_rfl) ?_
          clear S; intro a S
          refine wpList_nil ?_
          refine then_n ?_
          replace S := S.sub (l' := [(18, .bool (decide (c_6 < x3))), (10, .int .i64 c_6), (9, .int .i64 c_8), (0, .int .i64 x0), (1, .int .i64 x1), (3, .int .i64 x3)]) (by exact ⟨rfl, rfl, rfl, rfl, rfl, rfl, trivial⟩)
          refine wp_cond_split (S.eval (show ev _ _ = some (.bool (decide (c_6 < x3))) from rfl)) ?_ ?_
          · intro hc
            rw [if_pos hc] at hl_17
            refine wp_skip ?_
            refine then_n ?_
            replace S := S.sub (l' := [(10, .int .i64 c_6), (9, .int .i64 c_8), (0, .int .i64 x0), (1, .int .i64 x1), (3, .int .i64 x3)]) (by exact ⟨rfl, rfl, rfl, rfl, rfl, trivial⟩)
            refine wp_seq ?_
            refine wp_block ?_
            refine wp_seq ?_
            refine wp_region_lit ?_
            refine wl_pure (l' := [(23, .bool (decide (c_6 ≥ 0))), (22, .bool (decide (c_6 ≥ 0))), (21, .int .i64 c_6), (10, .int .i64 c_6), (9, .int .i64 c_8), (0, .int .i64 x0), (1, .int .i64 x1), (3, .int .i64 x3)]) S tys tys_ok 3 (by kernel_rfl) ?_
            clear S; intro a S
            obtain ⟨q_19, eq_19, hl_17⟩ := bindS hl_17
            refine seg 6 (fun a_ w_ => w_18 = w_ ∧ St 33 a_ [(29, .bool q_19), (10, .int .i64 c_6), (9, .int .i64 c_8), (0, .int .i64 x0), (1, .int .i64 x1), (3, .int .i64 x3)]) ?_ ?_
            · by_cases hc : (decide (c_6 ≥ 0)) = true
              · rw [if_pos hc] at eq_19; rw [hc] at S
                refine wl_pure (l' := [(25, .int .i64 x0), (24, .int .i64 c_6), (23, .bool true), (22, .bool true), (21, .int .i64 c_6), (10, .int .i64 c_6), (9, .int .i64 c_8), (0, .int .i64 x0), (1, .int .i64 x1), (3, .int .i64 x3)]) S tys tys_ok 2 (by kernel_rfl) ?_
                clear S; intro a S
                obtain ⟨x_20, ex_20, eq_19⟩ := bindS eq_19
                refine w_go S rfl (op_rem S .i64 rfl rfl rfl rfl rfl ex_20 ?_)
                clear S; intro a S
                refine wl_pure (l' := [(29, .bool (x_20 == x1)), (28, .bool (x_20 == x1)), (27, .int .i64 x1), (26, .int .i64 x_20), (25, .int .i64 x0), (24, .int .i64 c_6), (23, .bool true), (22, .bool true), (21, .int .i64 c_6), (10, .int .i64 c_6), (9, .int .i64 c_8), (0, .int .i64 x0), (1, .int .i64 x1), (3, .int .i64 x3)]) S tys tys_ok 3 (by kernel_rfl) ?_
                clear S; intro a S
                obtain rfl := Option.some.inj eq_19
                exact ⟨rfl, S.sub (by exact ⟨rfl, rfl, rfl, rfl, rfl, rfl, trivial⟩)⟩
              · rw [if_neg hc] at eq_19; rw [show (decide (c_6 ≥ 0)) = false from Bool.eq_false_iff.2 hc] at S
                refine wl_pure (l' := [(29, .bool false), (28, undef), (27, undef), (26, undef), (25, undef), (24, undef), (23, .bool false), (22, .bool false), (21, .int .i64 c_6), (10, .int .i64 c_6), (9, .int .i64 c_8), (0, .int .i64 x0), (1, .int .i64 x1), (3, .int .i64 x3)]) S tys tys_ok 6 (by kernel_rfl) ?_
                clear S; intro a S
                obtain rfl := Option.some.inj eq_19
                exact ⟨rfl, S.sub (by exact ⟨rfl, rfl, rfl, rfl, rfl, rfl, trivial⟩)⟩
            clear S eq_19; rintro a _ ⟨rfl, S⟩
            refine wpList_nil ?_
            refine then_n ?_
            obtain ⟨j_21, ej_21, hl_17⟩ := bindS hl_17
            refine wp_cut_ (fun a_ w_ => St 33 a_ [(10, .int .i64 c_6), (9, .int .i64 j_21), (0, .int .i64 x0), (1, .int .i64 x1), (3, .int .i64 x3)] ∧ Wd w w_ [] ∧ InR .i64 j_21) ?_ ?_
            · refine wp_cond_split (S.eval (show ev _ _ = some (.bool q_19) from rfl)) ?_ ?_
              · intro hc
                rw [if_pos hc] at ej_21
                refine wp_region_lit ?_
                refine wl_pure (l' := [(30, .int .i64 c_8), (29, .bool q_19), (10, .int .i64 c_6), (9, .int .i64 c_8), (0, .int .i64 x0), (1, .int .i64 x1), (3, .int .i64 x3)]) S tys tys_ok 1 (by kernel_rfl) ?_
                clear S; intro a S
                obtain ⟨x_23, ex_23, ej_21⟩ := bindS ej_21
                refine w_go S rfl (op_arith S .i64 (c_8 + 1) rfl (.inl rfl) rfl rfl rfl rfl ex_23 ?_)
                clear S; intro a S
                refine wl_pure (l' := [(9, .int .i64 x_23), (31, .int .i64 x_23), (30, .int .i64 c_8), (29, .bool q_19), (10, .int .i64 c_6), (9, .int .i64 c_8), (0, .int .i64 x0), (1, .int .i64 x1), (3, .int .i64 x3)]) S tys tys_ok 1 (by kernel_rfl) ?_
                clear S; intro a S
                refine wpList_nil ?_
                refine then_n ?_
                obtain rfl := Option.some.inj ej_21
                exact ⟨S.sub (by exact ⟨rfl, rfl, rfl, rfl, rfl, trivial⟩), W, (ckI_some ex_23).2.1⟩
              · intro hc
                rw [if_neg (Bool.eq_false_iff.1 hc)] at ej_21
                refine wp_skip ?_
                refine then_n ?_
                obtain rfl := Option.some.inj ej_21
                exact ⟨S.sub (by exact ⟨rfl, rfl, rfl, rfl, rfl, trivial⟩), W, G_9⟩
            clear S W; rintro a w_24 ⟨S, W, G_22⟩
            refine blk_n ?_
            refine then_n ?_
            refine wp_region_lit ?_
            refine wl_pure (l' := [(19, .int .i64 c_6), (10, .int .i64 c_6), (9, .int .i64 j_21), (0, .int .i64 x0), (1, .int .i64 x1), (3, .int .i64 x3)]) S tys tys_ok 1 (by kernel_rfl) ?_
            clear S; intro a S
            obtain ⟨x_25, ex_25, hl_17⟩ := bindS hl_17
            refine w_go S rfl (op_arith S .i64 (c_6 + 1) rfl (.inl rfl) rfl rfl rfl rfl ex_25 ?_)
            clear S; intro a S
            refine wl_pure (l' := [(10, .int .i64 x_25), (20, .int .i64 x_25), (19, .int .i64 c_6), (10, .int .i64 c_6), (9, .int .i64 j_21), (0, .int .i64 x0), (1, .int .i64 x1), (3, .int .i64 x3)]) S tys tys_ok 1 (by kernel_rfl) ?_
            clear S; intro a S
            refine wpList_nil ?_
            refine then_n ?_
            exact ⟨x_25, j_21, ⟨S.sub (by exact ⟨rfl, rfl, rfl, rfl, rfl, trivial⟩), W, (ckI_some ex_25).2.1, G_22, hl_17⟩⟩
          · intro hc
            rw [if_neg (Bool.eq_false_iff.1 hc)] at hl_17
            refine wp_exit ?_
            refine then_x ?_
            refine then_x ?_
            refine blk_hit ?_
            refine then_n ?_
            obtain rfl := Option.some.inj hl_17
            exact ⟨S.sub (by exact ⟨rfl, trivial⟩), W, G_9⟩
    clear S W; rintro a w_26 ⟨S, W, G_15⟩
    refine then_n ?_
    refine wp_seq ?_
    refine wp_region_lit ?_
    refine wl_pure (l' := [(8, .int .i64 y_14), (32, .int .i64 y_14), (9, .int .i64 y_14)]) S tys tys_ok 2 (by kernel_rfl) ?_
    clear S; intro a S
    refine wpList_nil ?_
    refine then_n ?_
    replace S := S.sub (l' := [(8, .int .i64 y_14)]) (by exact ⟨rfl, trivial⟩)
    refine wp_ret ?_
    obtain rfl := Option.some.inj h
    exact b_ret1 S rfl rfl ⟨_, rfl, (RepV.mkInt G_15), W.below⟩
theorem cb14 : callB Try.prog 14 = true := by kernel_rfl
def p5 (n : Nat) (x0 : Int) (x1 : Int) (x2 : List (Int)) : Option ((Bool)) :=
  (idx x2 0).bind fun y_5 =>
  (idx x2 1).bind fun y_8 =>
  (remI .i64 y_8 2000).bind fun x_11 =>
  (idx x2 2).bind fun y_12 =>
  (if (decide (y_5 < (-1099511627776))) = false then some (decide (y_5 > 1099511627776)) else some true).bind fun q_57 =>
  (if q_57 = false then some (decide (y_12 < (-1099511627776))) else some true).bind fun q_58 =>
  (if q_58 = false then some (decide (y_12 > 1099511627776)) else some true).bind fun q_59 =>
  if q_59 then (some true) else (ckI .i64 (y_5 + x_11)).bind fun x_60 => (p13 n x0 x1 y_5 x_60).bind fun t_61 => (ckI .i64 (y_5 + x_11)).bind fun x_66 => (p14 n x0 x1 y_5 x_66).bind fun t_67 => (if (t_61 != t_67) = false then some (decide (t_61 < 0)) else some true).bind fun q_72 => if q_72 then (some false) else (if (decide (x_11 < 0)) = false then some (decide (y_12 < 0)) else some true).bind fun q_73 => if q_73 then ((ckI .i64 (y_5 - 1)).bind fun x_74 => (p13 n x0 x1 y_5 x_74).bind fun t_75 => (if (t_75 == 0) = true then (p10 n).bind fun t_81 => some t_81 else some false).bind fun q_80 => some q_80) else (ckI .i64 (y_5 + x_11)).bind fun x_87 => (ckI .i64 (x_87 + y_12)).bind fun x_88 => (p13 n x0 x1 y_5 x_88).bind fun t_89 => (ckI .i64 (y_5 + x_11)).bind fun x_94 => (ckI .i64 (y_5 + x_11)).bind fun x_95 => (ckI .i64 (x_95 + y_12)).bind fun x_96 => (p13 n x0 x1 x_94 x_96).bind fun t_97 => (ckI .i64 (t_61 + t_97)).bind fun x_102 => (if (t_89 == x_102) = true then (p10 n).bind fun t_104 => some t_104 else some false).bind fun q_103 => some q_103
set_option maxHeartbeats 4000000 in
set_option maxRecDepth 100000 in
/-- plugboard/plugboardlaw10.PeriodicsCount -/
theorem c5 (K : Nat → Prop) (n : Nat) (w : World) (x0 : Int) (G0 : InR .i64 x0) (x1 : Int) (G1 : InR .i64 x1) (x2 : List (Int)) (v2 : Value) (R2 : RepV (.arr 3 (.int .i64)) w K v2 x2) {r : (Bool)} (h : p5 n x0 x1 x2 = some r) :
    Calls Try.prog 5 #[.int .i64 x0, .int .i64 x1, v2] w (Ret1 .bool w (Kx K w.heap.size []) r) := by
  refine enter (args := [.int .i64 x0, .int .i64 x1, v2]) Try.func5 rfl 94 rfl rfl fun a S => ?_
  have W := Wd.start w
  replace R2 := R2.arg
  unfold p5 at h
  replace S : St 94 a [(0, .int .i64 x0), (1, .int .i64 x1), (2, v2)] := S
  refine wp_seq ?_
  refine wp_region_lit ?_
  refine w_go S rfl (op_box S rfl rfl rfl rfl rfl R2 ?_)
  clear S; intro a w_3 b_1 hb_4 B_2 S
  replace R2 := R2.box hb_4
  replace W := W.box hb_4
  refine wl_pure (l' := [(6, .bool false), (5, .pointer (some (⟨b_1, 0, .none⟩ : Addr))), (0, .int .i64 x0), (1, .int .i64 x1), (2, v2)]) S tys tys_ok 1 (by kernel_rfl) ?_
  clear S; intro a S
  refine wpList_nil ?_
  refine then_n ?_
  replace S := S.sub (l' := [(5, .pointer (some (⟨b_1, 0, .none⟩ : Addr))), (0, .int .i64 x0), (1, .int .i64 x1)]) (by exact ⟨rfl, rfl, rfl, trivial⟩)
  refine wp_seq ?_
  obtain ⟨y_5, ey_5, h⟩ := bindS h
  obtain ⟨y_8, ey_8, h⟩ := bindS h
  obtain ⟨x_11, ex_11, h⟩ := bindS h
  obtain ⟨y_12, ey_12, h⟩ := bindS h
  have hR : Rel (Kx K w.heap.size [some b_1]) Bl := Bl.rel _
  refine wp_region_all hR [eqv (.pointer (some ((⟨b_1, 0, .none⟩ : Addr).add ((0 : Int).toNat * GT.sz (.int .i64))))), isI .i64 y_5, eqv (.pointer (some ((⟨b_1, 0, .none⟩ : Addr).add ((1 : Int).toNat * GT.sz (.int .i64))))), isI .i64 y_8, isI .i64 x_11, eqv (.pointer (some ((⟨b_1, 0, .none⟩ : Addr).add ((2 : Int).toNat * GT.sz (.int .i64))))), isI .i64 y_12, isI .i64 y_5, isI .i64 x_11, isI .i64 y_12] [[], [(0, 11)], [], [(2, 13)], [(3, 14)], [], [(5, 16)], [(1, 12)], [(4, 15)], [(6, 17)]] (by kernel_rfl) (by rw [S.size]; kernel_rfl) (by kernel_rfl) (by kernel_rfl) rfl ⟨(stab_eqv _), stab_I, (stab_eqv _), stab_I, stab_I, (stab_eqv _), stab_I, stab_I, stab_I, stab_I, trivial⟩ ?_ ?_
  ·
    refine RunAll.cons (eqv (.pointer (some ((⟨b_1, 0, .none⟩ : Addr).add ((0 : Int).toNat * GT.sz (.int .i64)))))) [] rfl rfl ?_ ?_
    · intro W_ hW
      have S1 := S
      refine fill_nil S1 ?_; clear S1; intro a_ S1
      replace B_2 := B_2.step hW
      replace W := W.step hW
      have S0 := S.defers; replace S := S1; clear S1
      refine w_go S rfl (op_indexAddr_arr S rfl ty35 rfl rfl rfl B_2.at_ rfl ey_5 ?_)
      clear S; intro a S
      refine wpList_nil ?_
      exact RPost.mk_ S rfl S0 rfl (Below.refl _ _)
    refine RunAll.cons (isI .i64 y_5) [(eqv (.pointer (some ((⟨b_1, 0, .none⟩ : Addr).add ((0 : Int).toNat * GT.sz (.int .i64))))), 11)] rfl rfl ?_ ?_
    · intro W_ hW
      have S1 := S
      intro v_16 hF_15; obtain rfl : .pointer (some ((⟨b_1, 0, .none⟩ : Addr).add ((0 : Int).toNat * GT.sz (.int .i64)))) = v_16 := Eq.symm hF_15
      replace S1 := S1.put (by decide : 11 < 94) (.pointer (some ((⟨b_1, 0, .none⟩ : Addr).add ((0 : Int).toNat * GT.sz (.int .i64)))))
      refine fill_nil S1 ?_; clear S1; intro a_ S1
      replace B_2 := B_2.step hW
      have S0 := S.defers; replace S := S1; clear S1
      refine w_go S rfl (op_load (t := (.int .i64)) (x := y_5) S rfl ty3 rfl rfl rfl (RepAt.ix B_2.at_ ey_5) ?_)
      clear S; intro a v_17 R_18 S
      obtain ⟨rfl, GR_18⟩ := RepV.int R_18
      refine wpList_nil ?_
      exact RPost.mk_ S rfl S0 ⟨rfl, GR_18⟩ (Below.refl _ _)
    refine RunAll.cons (eqv (.pointer (some ((⟨b_1, 0, .none⟩ : Addr).add ((1 : Int).toNat * GT.sz (.int .i64)))))) [] rfl rfl ?_ ?_
    · intro W_ hW
      have S1 := S
      refine fill_nil S1 ?_; clear S1; intro a_ S1
      replace B_2 := B_2.step hW
      replace W := W.step hW
      have S0 := S.defers; replace S := S1; clear S1
      refine w_go S rfl (op_indexAddr_arr S rfl ty35 rfl rfl rfl B_2.at_ rfl ey_8 ?_)
      clear S; intro a S
      refine wpList_nil ?_
      exact RPost.mk_ S rfl S0 rfl (Below.refl _ _)
    refine RunAll.cons (isI .i64 y_8) [(eqv (.pointer (some ((⟨b_1, 0, .none⟩ : Addr).add ((1 : Int).toNat * GT.sz (.int .i64))))), 13)] rfl rfl ?_ ?_
    · intro W_ hW
      have S1 := S
      intro v_20 hF_19; obtain rfl : .pointer (some ((⟨b_1, 0, .none⟩ : Addr).add ((1 : Int).toNat * GT.sz (.int .i64)))) = v_20 := Eq.symm hF_19
      replace S1 := S1.put (by decide : 13 < 94) (.pointer (some ((⟨b_1, 0, .none⟩ : Addr).add ((1 : Int).toNat * GT.sz (.int .i64)))))
      refine fill_nil S1 ?_; clear S1; intro a_ S1
      replace B_2 := B_2.step hW
      have S0 := S.defers; replace S := S1; clear S1
      refine w_go S rfl (op_load (t := (.int .i64)) (x := y_8) S rfl ty3 rfl rfl rfl (RepAt.ix B_2.at_ ey_8) ?_)
      clear S; intro a v_21 R_22 S
      obtain ⟨rfl, GR_22⟩ := RepV.int R_22
      refine wpList_nil ?_
      exact RPost.mk_ S rfl S0 ⟨rfl, GR_22⟩ (Below.refl _ _)
    refine RunAll.cons (isI .i64 x_11) [(isI .i64 y_8, 14)] rfl rfl ?_ ?_
    · intro W_ hW
      have S1 := S
      rintro _ ⟨rfl, hF_23⟩
      replace S1 := S1.put (by decide : 14 < 94) (.int .i64 y_8)
      refine fill_nil S1 ?_; clear S1; intro a_ S1
      have S0 := S.defers; replace S := S1; clear S1
      refine w_go S rfl (op_rem S .i64 rfl rfl rfl rfl rfl ex_11 ?_)
      clear S; intro a S
      refine wpList_nil ?_
      exact RPost.mk_ S rfl S0 ⟨rfl, (inR_rem ex_11)⟩ (Below.refl _ _)
    refine RunAll.cons (eqv (.pointer (some ((⟨b_1, 0, .none⟩ : Addr).add ((2 : Int).toNat * GT.sz (.int .i64)))))) [] rfl rfl ?_ ?_
    · intro W_ hW
      have S1 := S
      refine fill_nil S1 ?_; clear S1; intro a_ S1
      replace B_2 := B_2.step hW
      replace W := W.step hW
      have S0 := S.defers; replace S := S1; clear S1
      refine w_go S rfl (op_indexAddr_arr S rfl ty35 rfl rfl rfl B_2.at_ rfl ey_12 ?_)
      clear S; intro a S
      refine wpList_nil ?_
      exact RPost.mk_ S rfl S0 rfl (Below.refl _ _)
    refine RunAll.cons (isI .i64 y_12) [(eqv (.pointer (some ((⟨b_1, 0, .none⟩ : Addr).add ((2 : Int).toNat * GT.sz (.int .i64))))), 16)] rfl rfl ?_ ?_
    · intro W_ hW
      have S1 := S
      intro v_26 hF_25; obtain rfl : .pointer (some ((⟨b_1, 0, .none⟩ : Addr).add ((2 : Int).toNat * GT.sz (.int .i64)))) = v_26 := Eq.symm hF_25
      replace S1 := S1.put (by decide : 16 < 94) (.pointer (some ((⟨b_1, 0, .none⟩ : Addr).add ((2 : Int).toNat * GT.sz (.int .i64)))))
      refine fill_nil S1 ?_; clear S1; intro a_ S1
      replace B_2 := B_2.step hW
      have S0 := S.defers; replace S := S1; clear S1
      refine w_go S rfl (op_load (t := (.int .i64)) (x := y_12) S rfl ty3 rfl rfl rfl (RepAt.ix B_2.at_ ey_12) ?_)
      clear S; intro a v_27 R_28 S
      obtain ⟨rfl, GR_28⟩ := RepV.int R_28
      refine wpList_nil ?_
      exact RPost.mk_ S rfl S0 ⟨rfl, GR_28⟩ (Below.refl _ _)
    refine RunAll.cons (isI .i64 y_5) [(isI .i64 y_5, 12)] rfl rfl ?_ ?_
    · intro W_ hW
      have S1 := S
      rintro _ ⟨rfl, hF_29⟩
      replace S1 := S1.put (by decide : 12 < 94) (.int .i64 y_5)
      refine fill_nil S1 ?_; clear S1; intro a_ S1
      have S0 := S.defers; replace S := S1; clear S1
      refine wl_pure (l' := [(7, .int .i64 y_5), (12, .int .i64 y_5), (5, .pointer (some (⟨b_1, 0, .none⟩ : Addr))), (0, .int .i64 x0), (1, .int .i64 x1)]) S tys tys_ok 1 (by kernel_rfl) ?_; clear S; intro a S
      refine wpList_nil ?_
      exact RPost.mk_ S rfl S0 ⟨rfl, hF_29⟩ (Below.refl _ _)
    refine RunAll.cons (isI .i64 x_11) [(isI .i64 x_11, 15)] rfl rfl ?_ ?_
    · intro W_ hW
      have S1 := S
      rintro _ ⟨rfl, hF_31⟩
      replace S1 := S1.put (by decide : 15 < 94) (.int .i64 x_11)
      refine fill_nil S1 ?_; clear S1; intro a_ S1
      have S0 := S.defers; replace S := S1; clear S1
      refine wl_pure (l' := [(8, .int .i64 x_11), (15, .int .i64 x_11), (5, .pointer (some (⟨b_1, 0, .none⟩ : Addr))), (0, .int .i64 x0), (1, .int .i64 x1)]) S tys tys_ok 1 (by kernel_rfl) ?_; clear S; intro a S
      refine wpList_nil ?_
      exact RPost.mk_ S rfl S0 ⟨rfl, hF_31⟩ (Below.refl _ _)
    refine RunAll.cons (isI .i64 y_12) [(isI .i64 y_12, 17)] rfl rfl ?_ ?_
    · intro W_ hW
      have S1 := S
      rintro _ ⟨rfl, hF_33⟩
      replace S1 := S1.put (by decide : 17 < 94) (.int .i64 y_12)
      refine fill_nil S1 ?_; clear S1; intro a_ S1
      have S0 := S.defers; replace S := S1; clear S1
      refine wl_pure (l' := [(9, .int .i64 y_12), (17, .int .i64 y_12), (5, .pointer (some (⟨b_1, 0, .none⟩ : Addr))), (0, .int .i64 x0), (1, .int .i64 x1)]) S tys tys_ok 1 (by kernel_rfl) ?_; clear S; intro a S
      refine wpList_nil ?_
      exact RPost.mk_ S rfl S0 ⟨rfl, hF_33⟩ (Below.refl _ _)
    exact trivial
  intro w_35 hb_36
  refine EndE.some_ rfl ?_
  intro v_38 hF_37; obtain rfl : .pointer (some ((⟨b_1, 0, .none⟩ : Addr).add ((0 : Int).toNat * GT.sz (.int .i64)))) = v_38 := Eq.symm hF_37
  replace S := S.put (by decide : 11 < 94) (.pointer (some ((⟨b_1, 0, .none⟩ : Addr).add ((0 : Int).toNat * GT.sz (.int .i64)))))
  refine EndE.some_ rfl ?_
  rintro _ ⟨rfl, hF_39⟩
  replace S := S.put (by decide : 12 < 94) (.int .i64 y_5)
  refine EndE.some_ rfl ?_
  intro v_42 hF_41; obtain rfl : .pointer (some ((⟨b_1, 0, .none⟩ : Addr).add ((1 : Int).toNat * GT.sz (.int .i64)))) = v_42 := Eq.symm hF_41
  replace S := S.put (by decide : 13 < 94) (.pointer (some ((⟨b_1, 0, .none⟩ : Addr).add ((1 : Int).toNat * GT.sz (.int .i64)))))
  refine EndE.some_ rfl ?_
  rintro _ ⟨rfl, hF_43⟩
  replace S := S.put (by decide : 14 < 94) (.int .i64 y_8)
  refine EndE.some_ rfl ?_
  rintro _ ⟨rfl, hF_45⟩
  replace S := S.put (by decide : 15 < 94) (.int .i64 x_11)
  refine EndE.some_ rfl ?_
  intro v_48 hF_47; obtain rfl : .pointer (some ((⟨b_1, 0, .none⟩ : Addr).add ((2 : Int).toNat * GT.sz (.int .i64)))) = v_48 := Eq.symm hF_47
  replace S := S.put (by decide : 16 < 94) (.pointer (some ((⟨b_1, 0, .none⟩ : Addr).add ((2 : Int).toNat * GT.sz (.int .i64)))))
  refine EndE.some_ rfl ?_
  rintro _ ⟨rfl, hF_49⟩
  replace S := S.put (by decide : 17 < 94) (.int .i64 y_12)
  refine EndE.some_ rfl ?_
  rintro _ ⟨rfl, hF_51⟩
  replace S := S.put (by decide : 7 < 94) (.int .i64 y_5)
  refine EndE.some_ rfl ?_
  rintro _ ⟨rfl, hF_53⟩
  replace S := S.put (by decide : 8 < 94) (.int .i64 x_11)
  refine EndE.some_ rfl ?_
  rintro _ ⟨rfl, hF_55⟩
  replace S := S.put (by decide : 9 < 94) (.int .i64 y_12)
  refine endE_nil S ?_; clear S; intro a S
  replace B_2 := B_2.step hb_36
  replace W := W.step hb_36
  refine then_n ?_
  replace S := S.sub (l' := [(9, .int .i64 y_12), (8, .int .i64 x_11), (7, .int .i64 y_5), (0, .int .i64 x0), (1, .int .i64 x1)]) (by exact ⟨rfl, rfl, rfl, rfl, rfl, trivial⟩)
  refine wp_seq ?_
  refine wp_seq ?_
  refine wp_region_lit ?_
  refine wl_pure (l' := [(20, .bool (decide (y_5 < (-1099511627776)))), (19, .bool (decide (y_5 < (-1099511627776)))), (18, .int .i64 y_5), (9, .int .i64 y_12), (8, .int .i64 x_11), (7, .int .i64 y_5), (0, .int .i64 x0), (1, .int .i64 x1)]) S tys tys_ok 3 (by kernel_rfl) ?_
  clear S; intro a S
  obtain ⟨q_57, eq_57, h⟩ := bindS h
  refine seg 3 (fun a_ w_ => w_35 = w_ ∧ St 94 a_ [(23, .bool q_57), (9, .int .i64 y_12), (8, .int .i64 x_11), (7, .int .i64 y_5), (0, .int .i64 x0), (1, .int .i64 x1)]) ?_ ?_
  · by_cases hc : (decide (y_5 < (-1099511627776))) = false
    · rw [if_pos hc] at eq_57; rw [hc] at S
      refine wl_pure (l' := [(23, .bool (decide (y_5 > 1099511627776))), (22, .bool (decide (y_5 > 1099511627776))), (21, .int .i64 y_5), (20, .bool false), (19, .bool false), (18, .int .i64 y_5), (9, .int .i64 y_12), (8, .int .i64 x_11), (7, .int .i64 y_5), (0, .int .i64 x0), (1, .int .i64 x1)]) S tys tys_ok 3 (by kernel_rfl) ?_
      clear S; intro a S
      obtain rfl := Option.some.inj eq_57
      exact ⟨rfl, S.sub (by exact ⟨rfl, rfl, rfl, rfl, rfl, rfl, trivial⟩)⟩
    · rw [if_neg hc] at eq_57; rw [show (decide (y_5 < (-1099511627776))) = true from (by simpa using hc)] at S
      refine wl_pure (l' := [(23, .bool true), (22, undef), (21, undef), (20, .bool true), (19, .bool true), (18, .int .i64 y_5), (9, .int .i64 y_12), (8, .int .i64 x_11), (7, .int .i64 y_5), (0, .int .i64 x0), (1, .int .i64 x1)]) S tys tys_ok 3 (by kernel_rfl) ?_
      clear S; intro a S
      obtain rfl := Option.some.inj eq_57
      exact ⟨rfl, S.sub (by exact ⟨rfl, rfl, rfl, rfl, rfl, rfl, trivial⟩)⟩
  clear S eq_57; rintro a _ ⟨rfl, S⟩
  refine wl_pure (l' := [(24, .bool q_57), (23, .bool q_57), (9, .int .i64 y_12), (8, .int .i64 x_11), (7, .int .i64 y_5), (0, .int .i64 x0), (1, .int .i64 x1)]) S tys tys_ok 1 (by kernel_rfl) ?_
  clear S; intro a S
  obtain ⟨q_58, eq_58, h⟩ := bindS h
  refine seg 3 (fun a_ w_ => w_35 = w_ ∧ St 94 a_ [(27, .bool q_58), (9, .int .i64 y_12), (8, .int .i64 x_11), (7, .int .i64 y_5), (0, .int .i64 x0), (1, .int .i64 x1)]) ?_ ?_
  · by_cases hc : q_57 = false
    · rw [if_pos hc] at eq_58; rw [hc] at S
      refine wl_pure (l' := [(27, .bool (decide (y_12 < (-1099511627776)))), (26, .bool (decide (y_12 < (-1099511627776)))), (25, .int .i64 y_12), (24, .bool false), (23, .bool false), (9, .int .i64 y_12), (8, .int .i64 x_11), (7, .int .i64 y_5), (0, .int .i64 x0), (1, .int .i64 x1)]) S tys tys_ok 3 (by kernel_rfl) ?_
      clear S; intro a S
      obtain rfl := Option.some.inj eq_58
      exact ⟨rfl, S.sub (by exact ⟨rfl, rfl, rfl, rfl, rfl, rfl, trivial⟩)⟩
    · rw [if_neg hc] at eq_58; rw [show q_57 = true from (by simpa using hc)] at S
      refine wl_pure (l' := [(27, .bool true), (26, undef), (25, undef), (24, .bool true), (23, .bool true), (9, .int .i64 y_12), (8, .int .i64 x_11), (7, .int .i64 y_5), (0, .int .i64 x0), (1, .int .i64 x1)]) S tys tys_ok 3 (by kernel_rfl) ?_
      clear S; intro a S
      obtain rfl := Option.some.inj eq_58
      exact ⟨rfl, S.sub (by exact ⟨rfl, rfl, rfl, rfl, rfl, rfl, trivial⟩)⟩
  clear S eq_58; rintro a _ ⟨rfl, S⟩
  refine wl_pure (l' := [(28, .bool q_58), (27, .bool q_58), (9, .int .i64 y_12), (8, .int .i64 x_11), (7, .int .i64 y_5), (0, .int .i64 x0), (1, .int .i64 x1)]) S tys tys_ok 1 (by kernel_rfl) ?_
  clear S; intro a S
  obtain ⟨q_59, eq_59, h⟩ := bindS h
  refine seg 3 (fun a_ w_ => w_35 = w_ ∧ St 94 a_ [(31, .bool q_59), (9, .int .i64 y_12), (8, .int .i64 x_11), (7, .int .i64 y_5), (0, .int .i64 x0), (1, .int .i64 x1)]) ?_ ?_
  · by_cases hc : q_58 = false
    · rw [if_pos hc] at eq_59; rw [hc] at S
      refine wl_pure (l' := [(31, .bool (decide (y_12 > 1099511627776))), (30, .bool (decide (y_12 > 1099511627776))), (29, .int .i64 y_12), (28, .bool false), (27, .bool false), (9, .int .i64 y_12), (8, .int .i64 x_11), (7, .int .i64 y_5), (0, .int .i64 x0), (1, .int .i64 x1)]) S tys tys_ok 3 (by kernel_rfl) ?_
      clear S; intro a S
      obtain rfl := Option.some.inj eq_59
      exact ⟨rfl, S.sub (by exact ⟨rfl, rfl, rfl, rfl, rfl, rfl, trivial⟩)⟩
    · rw [if_neg hc] at eq_59; rw [show q_58 = true from (by simpa using hc)] at S
      refine wl_pure (l' := [(31, .bool true), (30, undef), (29, undef), (28, .bool true), (27, .bool true), (9, .int .i64 y_12), (8, .int .i64 x_11), (7, .int .i64 y_5), (0, .int .i64 x0), (1, .int .i64 x1)]) S tys tys_ok 3 (by kernel_rfl) ?_
      clear S; intro a S
      obtain rfl := Option.some.inj eq_59
      exact ⟨rfl, S.sub (by exact ⟨rfl, rfl, rfl, rfl, rfl, rfl, trivial⟩)⟩
  clear S eq_59; rintro a _ ⟨rfl, S⟩
  refine wpList_nil ?_
  refine then_n ?_
  refine wp_cond_split (S.eval (show ev _ _ = some (.bool q_59) from rfl)) ?_ ?_
  · intro hc
    rw [if_pos hc] at h
    refine wp_seq ?_
    refine wp_region_lit ?_
    refine wl_pure (l' := [(6, .bool true), (31, .bool q_59), (9, .int .i64 y_12), (8, .int .i64 x_11), (7, .int .i64 y_5), (0, .int .i64 x0), (1, .int .i64 x1)]) S tys tys_ok 1 (by kernel_rfl) ?_
    clear S; intro a S
    refine wpList_nil ?_
    refine then_n ?_
    replace S := S.sub (l' := [(6, .bool true)]) (by exact ⟨rfl, trivial⟩)
    refine wp_ret ?_
    refine then_r ?_
    obtain rfl := Option.some.inj h
    exact b_ret1 S rfl rfl ⟨_, rfl, RepV.mkBool, W.below⟩
  · intro hc
    rw [if_neg (Bool.eq_false_iff.1 hc)] at h
    refine wp_skip ?_
    refine then_n ?_
    replace S := S.sub (l' := [(9, .int .i64 y_12), (8, .int .i64 x_11), (7, .int .i64 y_5), (0, .int .i64 x0), (1, .int .i64 x1)]) (by exact ⟨rfl, rfl, rfl, rfl, rfl, trivial⟩)
    refine wp_seq ?_
    refine wp_region_lit ?_
    refine wl_pure (l' := [(36, .int .i64 x_11), (35, .int .i64 y_5), (34, .int .i64 y_5), (33, .int .i64 x1), (32, .int .i64 x0), (9, .int .i64 y_12), (8, .int .i64 x_11), (7, .int .i64 y_5), (0, .int .i64 x0), (1, .int .i64 x1)]) S tys tys_ok 5 (by kernel_rfl) ?_
    clear S; intro a S
    obtain ⟨x_60, ex_60, h⟩ := bindS h
    refine w_go S rfl (op_arith S .i64 (y_5 + x_11) rfl (.inl rfl) rfl rfl rfl rfl ex_60 ?_)
    clear S; intro a S
    obtain ⟨t_61, et_61, h⟩ := bindS h
    refine w_go S rfl (op_call (vs := [.int .i64 x0, .int .i64 x1, .int .i64 y_5, .int .i64 x_60]) S rfl cb13 rfl rfl rfl (c13 (Kx K w.heap.size [some b_1]) n w_35 x0 G0 x1 G1 y_5 hF_51 x_60 (ckI_some ex_60).2.1 et_61) ?_)
    rintro _ w_65 ⟨v_62, rfl, R_63, hb_64⟩; refine ⟨_, rfl, ?_⟩
    replace R_63 := RepV.back R_63 W
    clear S; intro a S
    replace B_2 := B_2.step hb_64
    replace W := W.step hb_64
    obtain ⟨rfl, GR_63⟩ := RepV.int R_63
    refine wl_pure (l' := [(10, .int .i64 t_61), (38, .int .i64 t_61), (37, .int .i64 x_60), (36, .int .i64 x_11), (35, .int .i64 y_5), (34, .int .i64 y_5), (33, .int .i64 x1), (32, .int .i64 x0), (9, .int .i64 y_12), (8, .int .i64 x_11), (7, .int .i64 y_5), (0, .int .i64 x0), (1, .int .i64 x1)]) S tys tys_ok 1 (by kernel_rfl) ?_
    clear S; intro a S
    refine wpList_nil ?_
    refine then_n ?_
    replace S := S.sub (l' := [(10, .int .i64 t_61), (9, .int .i64 y_12), (8, .int .i64 x_11), (7, .int .i64 y_5), (0, .int .i64 x0), (1, .int .i64 x1)]) (by exact ⟨rfl, rfl, rfl, rfl, rfl, rfl, trivial⟩)
    refine wp_seq ?_
    refine wp_seq ?_
    refine wp_region_lit ?_
    refine wl_pure (l' := [(44, .int .i64 x_11), (43, .int .i64 y_5), (42, .int .i64 y_5), (41, .int .i64 x1), (40, .int .i64 x0), (39, .int .i64 t_61), (10, .int .i64 t_61), (9, .int .i64 y_12), (8, .int .i64 x_11), (7, .int .i64 y_5), (0, .int .i64 x0), (1, .int .i64 x1)]) S tys tys_ok 6 (by kernel_rfl) ?_
    clear S; intro a S
    obtain ⟨x_66, ex_66, h⟩ := bindS h
    refine w_go S rfl (op_arith S .i64 (y_5 + x_11) rfl (.inl rfl) rfl rfl rfl rfl ex_66 ?_)
    clear S; intro a S
    obtain ⟨t_67, et_67, h⟩ := bindS h
    refine w_go S rfl (op_call (vs := [.int .i64 x0, .int .i64 x1, .int .i64 y_5, .int .i64 x_66]) S rfl cb14 rfl rfl rfl (c14 (Kx K w.heap.size [some b_1]) n w_65 x0 G0 x1 G1 y_5 hF_51 x_66 (ckI_some ex_66).2.1 et_67) ?_)
    rintro _ w_71 ⟨v_68, rfl, R_69, hb_70⟩; refine ⟨_, rfl, ?_⟩
    replace R_69 := RepV.back R_69 W
    clear S; intro a S
    replace B_2 := B_2.step hb_70
    replace W := W.step hb_70
    obtain ⟨rfl, GR_69⟩ := RepV.int R_69
    refine wl_pure (l' := [(48, .bool (t_61 != t_67)), (47, .bool (t_61 != t_67)), (46, .int .i64 t_67), (45, .int .i64 x_66), (44, .int .i64 x_11), (43, .int .i64 y_5), (42, .int .i64 y_5), (41, .int .i64 x1), (40, .int .i64 x0), (39, .int .i64 t_61), (10, .int .i64 t_61), (9, .int .i64 y_12), (8, .int .i64 x_11), (7, .int .i64 y_5), (0, .int .i64 x0), (1, .int .i64 x1)]) S tys tys_ok 2 (by kernel_rfl) ?_
    clear S; intro a S
    obtain ⟨q_72, eq_72, h⟩ := bindS h
    refine seg 3 (fun a_ w_ => w_71 = w_ ∧ St 94 a_ [(51, .bool q_72), (10, .int .i64 t_61), (9, .int .i64 y_12), (8, .int .i64 x_11), (7, .int .i64 y_5), (0, .int .i64 x0), (1, .int .i64 x1)]) ?_ ?_
    · by_cases hc : (t_61 != t_67) = false
      · rw [if_pos hc] at eq_72; rw [hc] at S
        refine wl_pure (l' := [(51, .bool (decide (t_61 < 0))), (50, .bool (decide (t_61 < 0))), (49, .int .i64 t_61), (48, .bool false), (47, .bool false), (46, .int .i64 t_67), (45, .int .i64 x_66), (44, .int .i64 x_11), (43, .int .i64 y_5), (42, .int .i64 y_5), (41, .int .i64 x1), (40, .int .i64 x0), (39, .int .i64 t_61), (10, .int .i64 t_61), (9, .int .i64 y_12), (8, .int .i64 x_11), (7, .int .i64 y_5), (0, .int .i64 x0), (1, .int .i64 x1)]) S tys tys_ok 3 (by kernel_rfl) ?_
        clear S; intro a S
        obtain rfl := Option.some.inj eq_72
        exact ⟨rfl, S.sub (by exact ⟨rfl, rfl, rfl, rfl, rfl, rfl, rfl, trivial⟩)⟩
      · rw [if_neg hc] at eq_72; rw [show (t_61 != t_67) = true from (by simpa using hc)] at S
        refine wl_pure (l' := [(51, .bool true), (50, undef), (49, undef), (48, .bool true), (47, .bool true), (46, .int .i64 t_67), (45, .int .i64 x_66), (44, .int .i64 x_11), (43, .int .i64 y_5), (42, .int .i64 y_5), (41, .int .i64 x1), (40, .int .i64 x0), (39, .int .i64 t_61), (10, .int .i64 t_61), (9, .int .i64 y_12), (8, .int .i64 x_11), (7, .int .i64 y_5), (0, .int .i64 x0), (1, .int .i64 x1)]) S tys tys_ok 3 (by kernel_rfl) ?_
        clear S; intro a S
        obtain rfl := Option.some.inj eq_72
        exact ⟨rfl, S.sub (by exact ⟨rfl, rfl, rfl, rfl, rfl, rfl, rfl, trivial⟩)⟩
    clear S eq_72; rintro a _ ⟨rfl, S⟩
    refine wpList_nil ?_
    refine then_n ?_
    refine wp_cond_split (S.eval (show ev _ _ = some (.bool q_72) from rfl)) ?_ ?_
    · intro hc
      rw [if_pos hc] at h
      refine wp_seq ?_
      refine wp_region_lit ?_
      refine wl_pure (l' := [(6, .bool false), (51, .bool q_72), (10, .int .i64 t_61), (9, .int .i64 y_12), (8, .int .i64 x_11), (7, .int .i64 y_5), (0, .int .i64 x0), (1, .int .i64 x1)]) S tys tys_ok 1 (by kernel_rfl) ?_
      clear S; intro a S
      refine wpList_nil ?_
      refine then_n ?_
      replace S := S.sub (l' := [(6, .bool false)]) (by exact ⟨rfl, trivial⟩)
      refine wp_ret ?_
      refine then_r ?_
      obtain rfl := Option.some.inj h
      exact b_ret1 S rfl rfl ⟨_, rfl, RepV.mkBool, W.below⟩
    · intro hc
      rw [if_neg (Bool.eq_false_iff.1 hc)] at h
      refine wp_skip ?_
      refine then_n ?_
      replace S := S.sub (l' := [(10, .int .i64 t_61), (9, .int .i64 y_12), (8, .int .i64 x_11), (7, .int .i64 y_5), (0, .int .i64 x0), (1, .int .i64 x1)]) (by exact ⟨rfl, rfl, rfl, rfl, rfl, rfl, trivial⟩)
      refine wp_seq ?_
      refine wp_seq ?_
      refine wp_region_lit ?_
      refine wl_pure (l' := [(54, .bool (decide (x_11 < 0))), (53, .bool (decide (x_11 < 0))), (52, .int .i64 x_11), (10, .int .i64 t_61), (9, .int .i64 y_12), (8, .int .i64 x_11), (7, .int .i64 y_5), (0, .int .i64 x0), (1, .int .i64 x1)]) S tys tys_ok 3 (by kernel_rfl) ?_
      clear S; intro a S
      obtain ⟨q_73, eq_73, h⟩ := bindS h
      refine seg 3 (fun a_ w_ => w_71 = w_ ∧ St 94 a_ [(57, .bool q_73), (10, .int .i64 t_61), (9, .int .i64 y_12), (8, .int .i64 x_11), (7, .int .i64 y_5), (0, .int .i64 x0), (1, .int .i64 x1)]) ?_ ?_
      · by_cases hc : (decide (x_11 < 0)) = false
        · rw [if_pos hc] at eq_73; rw [hc] at S
          refine wl_pure (l' := [(57, .bool (decide (y_12 < 0))), (56, .bool (decide (y_12 < 0))), (55, .int .i64 y_12), (54, .bool false), (53, .bool false), (52, .int .i64 x_11), (10, .int .i64 t_61), (9, .int .i64 y_12), (8, .int .i64 x_11), (7, .int .i64 y_5), (0, .int .i64 x0), (1, .int .i64 x1)]) S tys tys_ok 3 (by kernel_rfl) ?_
          clear S; intro a S
          obtain rfl := Option.some.inj eq_73
          exact ⟨rfl, S.sub (by exact ⟨rfl, rfl, rfl, rfl, rfl, rfl, rfl, trivial⟩)⟩
        · rw [if_neg hc] at eq_73; rw [show (decide (x_11 < 0)) = true from (by simpa using hc)] at S
          refine wl_pure (l' := [(57, .bool true), (56, undef), (55, undef), (54, .bool true), (53, .bool true), (52, .int .i64 x_11), (10, .int .i64 t_61), (9, .int .i64 y_12), (8, .int .i64 x_11), (7, .int .i64 y_5), (0, .int .i64 x0), (1, .int .i64 x1)]) S tys tys_ok 3 (by kernel_rfl) ?_
          clear S; intro a S
          obtain rfl := Option.some.inj eq_73
          exact ⟨rfl, S.sub (by exact ⟨rfl, rfl, rfl, rfl, rfl, rfl, rfl, trivial⟩)⟩
      clear S eq_73; rintro a _ ⟨rfl, S⟩
      refine wpList_nil ?_
      refine then_n ?_
      refine wp_cond_split (S.eval (show ev _ _ = some (.bool q_73) from rfl)) ?_ ?_
      · intro hc
        rw [if_pos hc] at h
        refine wp_seq ?_
        refine wp_region_lit ?_
        refine wl_pure (l' := [(61, .int .i64 y_5), (60, .int .i64 y_5), (59, .int .i64 x1), (58, .int .i64 x0), (57, .bool q_73), (10, .int .i64 t_61), (9, .int .i64 y_12), (8, .int .i64 x_11), (7, .int .i64 y_5), (0, .int .i64 x0), (1, .int .i64 x1)]) S tys tys_ok 4 (by kernel_rfl) ?_
        clear S; intro a S
        obtain ⟨x_74, ex_74, h⟩ := bindS h
        refine w_go S rfl (op_arith S .i64 (y_5 - 1) rfl (.inr (.inl rfl)) rfl rfl rfl rfl ex_74 ?_)
        clear S; intro a S
        obtain ⟨t_75, et_75, h⟩ := bindS h
        refine w_go S rfl (op_call (vs := [.int .i64 x0, .int .i64 x1, .int .i64 y_5, .int .i64 x_74]) S rfl cb13 rfl rfl rfl (c13 (Kx K w.heap.size [some b_1]) n w_71 x0 G0 x1 G1 y_5 hF_51 x_74 (ckI_some ex_74).2.1 et_75) ?_)
        rintro _ w_79 ⟨v_76, rfl, R_77, hb_78⟩; refine ⟨_, rfl, ?_⟩
        replace R_77 := RepV.back R_77 W
        clear S; intro a S
        replace B_2 := B_2.step hb_78
        replace W := W.step hb_78
        obtain ⟨rfl, GR_77⟩ := RepV.int R_77
        refine wl_pure (l' := [(65, .bool (t_75 == 0)), (64, .bool (t_75 == 0)), (63, .int .i64 t_75), (62, .int .i64 x_74), (61, .int .i64 y_5), (60, .int .i64 y_5), (59, .int .i64 x1), (58, .int .i64 x0), (57, .bool q_73), (10, .int .i64 t_61), (9, .int .i64 y_12), (8, .int .i64 x_11), (7, .int .i64 y_5), (0, .int .i64 x0), (1, .int .i64 x1)]) S tys tys_ok 2 (by kernel_rfl) ?_
        clear S; intro a S
        obtain ⟨q_80, eq_80, h⟩ := bindS h
        refine seg 2 (fun a_ w_ => St 94 a_ [(67, .bool q_80)] ∧ Wd w w_ [some b_1] ∧ Bx (.arr 3 (.int .i64)) 35 w_ (Kx K w.heap.size [some b_1]) b_1 x2) ?_ ?_
        · by_cases hc : (t_75 == 0) = true
          · rw [if_pos hc] at eq_80; rw [hc] at S
            obtain ⟨t_81, et_81, eq_80⟩ := bindS eq_80
            refine w_go S rfl (op_call (vs := []) S rfl cb10 rfl rfl rfl (c10 (Kx K w.heap.size [some b_1]) n w_79  et_81) ?_)
            rintro _ w_85 ⟨v_82, rfl, R_83, hb_84⟩; refine ⟨_, rfl, ?_⟩
            replace R_83 := RepV.back R_83 W
            clear S; intro a S
            replace B_2 := B_2.step hb_84
            replace W := W.step hb_84
            obtain rfl := RepV.bool R_83
            refine wl_pure (l' := [(67, .bool t_81), (66, .bool t_81), (65, .bool true), (64, .bool true), (63, .int .i64 t_75), (62, .int .i64 x_74), (61, .int .i64 y_5), (60, .int .i64 y_5), (59, .int .i64 x1), (58, .int .i64 x0), (57, .bool q_73), (10, .int .i64 t_61), (9, .int .i64 y_12), (8, .int .i64 x_11), (7, .int .i64 y_5), (0, .int .i64 x0), (1, .int .i64 x1)]) S tys tys_ok 1 (by kernel_rfl) ?_
            clear S; intro a S
            obtain rfl := Option.some.inj eq_80
            exact ⟨S.sub (by exact ⟨rfl, trivial⟩), W, B_2⟩
          · rw [if_neg hc] at eq_80; rw [show (t_75 == 0) = false from Bool.eq_false_iff.2 hc] at S
            refine wl_pure (l' := [(67, .bool false), (66, undef), (65, .bool false), (64, .bool false), (63, .int .i64 t_75), (62, .int .i64 x_74), (61, .int .i64 y_5), (60, .int .i64 y_5), (59, .int .i64 x1), (58, .int .i64 x0), (57, .bool q_73), (10, .int .i64 t_61), (9, .int .i64 y_12), (8, .int .i64 x_11), (7, .int .i64 y_5), (0, .int .i64 x0), (1, .int .i64 x1)]) S tys tys_ok 2 (by kernel_rfl) ?_
            clear S; intro a S
            obtain rfl := Option.some.inj eq_80
            exact ⟨S.sub (by exact ⟨rfl, trivial⟩), W, B_2⟩
        clear S W eq_80; rintro a w_86 ⟨S, W, B_2⟩
        refine wl_pure (l' := [(6, .bool q_80), (67, .bool q_80)]) S tys tys_ok 1 (by kernel_rfl) ?_
        clear S; intro a S
        refine wpList_nil ?_
        refine then_n ?_
        replace S := S.sub (l' := [(6, .bool q_80)]) (by exact ⟨rfl, trivial⟩)
        refine wp_ret ?_
        refine then_r ?_
        obtain rfl := Option.some.inj h
        exact b_ret1 S rfl rfl ⟨_, rfl, RepV.mkBool, W.below⟩
      · intro hc
        rw [if_neg (Bool.eq_false_iff.1 hc)] at h
        refine wp_skip ?_
        refine then_n ?_
        replace S := S.sub (l' := [(10, .int .i64 t_61), (9, .int .i64 y_12), (8, .int .i64 x_11), (7, .int .i64 y_5), (0, .int .i64 x0), (1, .int .i64 x1)]) (by exact ⟨rfl, rfl, rfl, rfl, rfl, rfl, trivial⟩)
        refine wp_seq ?_
        refine wp_region_lit ?_
        refine wl_pure (l' := [(72, .int .i64 x_11), (71, .int .i64 y_5), (70, .int .i64 y_5), (69, .int .i64 x1), (68, .int .i64 x0), (10, .int .i64 t_61), (9, .int .i64 y_12), (8, .int .i64 x_11), (7, .int .i64 y_5), (0, .int .i64 x0), (1, .int .i64 x1)]) S tys tys_ok 5 (by kernel_rfl) ?_
        clear S; intro a S
        obtain ⟨x_87, ex_87, h⟩ := bindS h
        refine w_go S rfl (op_arith S .i64 (y_5 + x_11) rfl (.inl rfl) rfl rfl rfl rfl ex_87 ?_)
        clear S; intro a S
        refine wl_pure (l' := [(74, .int .i64 y_12), (73, .int .i64 x_87), (72, .int .i64 x_11), (71, .int .i64 y_5), (70, .int .i64 y_5), (69, .int .i64 x1), (68, .int .i64 x0), (10, .int .i64 t_61), (9, .int .i64 y_12), (8, .int .i64 x_11), (7, .int .i64 y_5), (0, .int .i64 x0), (1, .int .i64 x1)]) S tys tys_ok 1 (by kernel_rfl) ?_
        clear S; intro a S
        obtain ⟨x_88, ex_88, h⟩ := bindS h
        refine w_go S rfl (op_arith S .i64 (x_87 + y_12) rfl (.inl rfl) rfl rfl rfl rfl ex_88 ?_)
        clear S; intro a S
        obtain ⟨t_89, et_89, h⟩ := bindS h
        refine w_go S rfl (op_call (vs := [.int .i64 x0, .int .i64 x1, .int .i64 y_5, .int .i64 x_88]) S rfl cb13 rfl rfl rfl (c13 (Kx K w.heap.size [some b_1]) n w_71 x0 G0 x1 G1 y_5 hF_51 x_88 (ckI_some ex_88).2.1 et_89) ?_)
        rintro _ w_93 ⟨v_90, rfl, R_91, hb_92⟩; refine ⟨_, rfl, ?_⟩
        replace R_91 := RepV.back R_91 W
        clear S; intro a S
        replace B_2 := B_2.step hb_92
        replace W := W.step hb_92
        obtain ⟨rfl, GR_91⟩ := RepV.int R_91
        refine wl_pure (l' := [(81, .int .i64 x_11), (80, .int .i64 y_5), (79, .int .i64 x1), (78, .int .i64 x0), (77, .int .i64 t_61), (76, .int .i64 t_89), (75, .int .i64 x_88), (74, .int .i64 y_12), (73, .int .i64 x_87), (72, .int .i64 x_11), (71, .int .i64 y_5), (70, .int .i64 y_5), (69, .int .i64 x1), (68, .int .i64 x0), (10, .int .i64 t_61), (9, .int .i64 y_12), (8, .int .i64 x_11), (7, .int .i64 y_5), (0, .int .i64 x0), (1, .int .i64 x1)]) S tys tys_ok 5 (by kernel_rfl) ?_
        clear S; intro a S
        obtain ⟨x_94, ex_94, h⟩ := bindS h
        refine w_go S rfl (op_arith S .i64 (y_5 + x_11) rfl (.inl rfl) rfl rfl rfl rfl ex_94 ?_)
        clear S; intro a S
        refine wl_pure (l' := [(84, .int .i64 x_11), (83, .int .i64 y_5), (82, .int .i64 x_94), (81, .int .i64 x_11), (80, .int .i64 y_5), (79, .int .i64 x1), (78, .int .i64 x0), (77, .int .i64 t_61), (76, .int .i64 t_89), (75, .int .i64 x_88), (74, .int .i64 y_12), (73, .int .i64 x_87), (72, .int .i64 x_11), (71, .int .i64 y_5), (70, .int .i64 y_5), (69, .int .i64 x1), (68, .int .i64 x0), (10, .int .i64 t_61), (9, .int .i64 y_12), (8, .int .i64 x_11), (7, .int .i64 y_5), (0, .int .i64 x0), (1, .int .i64 x1)]) S tys tys_ok 2 (by kernel_rfl) ?_
        clear S; intro a S
        obtain ⟨x_95, ex_95, h⟩ := bindS h
        refine w_go S rfl (op_arith S .i64 (y_5 + x_11) rfl (.inl rfl) rfl rfl rfl rfl ex_95 ?_)
        clear S; intro a S
        refine wl_pure (l' := [(86, .int .i64 y_12), (85, .int .i64 x_95), (84, .int .i64 x_11), (83, .int .i64 y_5), (82, .int .i64 x_94), (81, .int .i64 x_11), (80, .int .i64 y_5), (79, .int .i64 x1), (78, .int .i64 x0), (77, .int .i64 t_61), (76, .int .i64 t_89), (75, .int .i64 x_88), (74, .int .i64 y_12), (73, .int .i64 x_87), (72, .int .i64 x_11), (71, .int .i64 y_5), (70, .int .i64 y_5), (69, .int .i64 x1), (68, .int .i64 x0), (10, .int .i64 t_61), (9, .int .i64 y_12), (8, .int .i64 x_11), (7, .int .i64 y_5), (0, .int .i64 x0), (1, .int .i64 x1)]) S tys tys_ok 1 (by kernel_rfl) ?_
        clear S; intro a S
        obtain ⟨x_96, ex_96, h⟩ := bindS h
        refine w_go S rfl (op_arith S .i64 (x_95 + y_12) rfl (.inl rfl) rfl rfl rfl rfl ex_96 ?_)
        clear S; intro a S
        obtain ⟨t_97, et_97, h⟩ := bindS h
        refine w_go S rfl (op_call (vs := [.int .i64 x0, .int .i64 x1, .int .i64 x_94, .int .i64 x_96]) S rfl cb13 rfl rfl rfl (c13 (Kx K w.heap.size [some b_1]) n w_93 x0 G0 x1 G1 x_94 (ckI_some ex_94).2.1 x_96 (ckI_some ex_96).2.1 et_97) ?_)
        rintro _ w_101 ⟨v_98, rfl, R_99, hb_100⟩; refine ⟨_, rfl, ?_⟩
        replace R_99 := RepV.back R_99 W
        clear S; intro a S
        replace B_2 := B_2.step hb_100
        replace W := W.step hb_100
        obtain ⟨rfl, GR_99⟩ := RepV.int R_99
        obtain ⟨x_102, ex_102, h⟩ := bindS h
        refine w_go S rfl (op_arith S .i64 (t_61 + t_97) rfl (.inl rfl) rfl rfl rfl rfl ex_102 ?_)
        clear S; intro a S
        refine wl_pure (l' := [(91, .bool (t_89 == x_102)), (90, .bool (t_89 == x_102)), (89, .int .i64 x_102), (88, .int .i64 t_97), (87, .int .i64 x_96), (86, .int .i64 y_12), (85, .int .i64 x_95), (84, .int .i64 x_11), (83, .int .i64 y_5), (82, .int .i64 x_94), (81, .int .i64 x_11), (80, .int .i64 y_5), (79, .int .i64 x1), (78, .int .i64 x0), (77, .int .i64 t_61), (76, .int .i64 t_89), (75, .int .i64 x_88), (74, .int .i64 y_12), (73, .int .i64 x_87), (72, .int .i64 x_11), (71, .int .i64 y_5), (70, .int .i64 y_5), (69, .int .i64 x1), (68, .int .i64 x0), (10, .int .i64 t_61), (9, .int .i64 y_12), (8, .int .i64 x_11), (7, .int .i64 y_5), (0, .int .i64 x0), (1, .int .i64 x1)]) S tys tys_ok 2 (by kernel_rfl) ?_
        clear S; intro a S
        obtain ⟨q_103, eq_103, h⟩ := bindS h
        refine seg 2 (fun a_ w_ => St 94 a_ [(93, .bool q_103)] ∧ Wd w w_ [some b_1] ∧ Bx (.arr 3 (.int .i64)) 35 w_ (Kx K w.heap.size [some b_1]) b_1 x2) ?_ ?_
        · by_cases hc : (t_89 == x_102) = true
          · rw [if_pos hc] at eq_103; rw [hc] at S
            obtain ⟨t_104, et_104, eq_103⟩ := bindS eq_103
            refine w_go S rfl (op_call (vs := []) S rfl cb10 rfl rfl rfl (c10 (Kx K w.heap.size [some b_1]) n w_101  et_104) ?_)
            rintro _ w_108 ⟨v_105, rfl, R_106, hb_107⟩; refine ⟨_, rfl, ?_⟩
            replace R_106 := RepV.back R_106 W
            clear S; intro a S
            replace B_2 := B_2.step hb_107
            replace W := W.step hb_107
            obtain rfl := RepV.bool R_106
            refine wl_pure (l' := [(93, .bool t_104), (92, .bool t_104), (91, .bool true), (90, .bool true), (89, .int .i64 x_102), (88, .int .i64 t_97), (87, .int .i64 x_96), (86, .int .i64 y_12), (85, .int .i64 x_95), (84, .int .i64 x_11), (83, .int .i64 y_5), (82, .int .i64 x_94), (81, .int .i64 x_11), (80, .int .i64 y_5), (79, .int .i64 x1), (78, .int .i64 x0), (77, .int .i64 t_61), (76, .int .i64 t_89), (75, .int .i64 x_88), (74, .int .i64 y_12), (73, .int .i64 x_87), (72, .int .i64 x_11), (71, .int .i64 y_5), (70, .int .i64 y_5), (69, .int .i64 x1), (68, .int .i64 x0), (10, .int .i64 t_61), (9, .int .i64 y_12), (8, .int .i64 x_11), (7, .int .i64 y_5), (0, .int .i64 x0), (1, .int .i64 x1)]) S tys tys_ok 1 (by kernel_rfl) ?_
            clear S; intro a S
            obtain rfl := Option.some.inj eq_103
            exact ⟨S.sub (by exact ⟨rfl, trivial⟩), W, B_2⟩
          · rw [if_neg hc] at eq_103; rw [show (t_89 == x_102) = false from Bool.eq_false_iff.2 hc] at S
            refine wl_pure (l' := [(93, .bool false), (92, undef), (91, .bool false), (90, .bool false), (89, .int .i64 x_102), (88, .int .i64 t_97), (87, .int .i64 x_96), (86, .int .i64 y_12), (85, .int .i64 x_95), (84, .int .i64 x_11), (83, .int .i64 y_5), (82, .int .i64 x_94), (81, .int .i64 x_11), (80, .int .i64 y_5), (79, .int .i64 x1), (78, .int .i64 x0), (77, .int .i64 t_61), (76, .int .i64 t_89), (75, .int .i64 x_88), (74, .int .i64 y_12), (73, .int .i64 x_87), (72, .int .i64 x_11), (71, .int .i64 y_5), (70, .int .i64 y_5), (69, .int .i64 x1), (68, .int .i64 x0), (10, .int .i64 t_61), (9, .int .i64 y_12), (8, .int .i64 x_11), (7, .int .i64 y_5), (0, .int .i64 x0), (1, .int .i64 x1)]) S tys tys_ok 2 (by kernel_rfl) ?_
            clear S; intro a S
            obtain rfl := Option.some.inj eq_103
            exact ⟨S.sub (by exact ⟨rfl, trivial⟩), W, B_2⟩
        clear S W eq_103; rintro a w_109 ⟨S, W, B_2⟩
        refine wl_pure (l' := [(6, .bool q_103), (93, .bool q_103)]) S tys tys_ok 1 (by kernel_rfl) ?_
        clear S; intro a S
        refine wpList_nil ?_
        refine then_n ?_
        replace S := S.sub (l' := [(6, .bool q_103)]) (by exact ⟨rfl, trivial⟩)
        refine wp_ret ?_
        obtain rfl := Option.some.inj h
        exact b_ret1 S rfl rfl ⟨_, rfl, RepV.mkBool, W.below⟩
def p6_l1 (n : Nat) (x0 : Int) (x1 : Int) (j_9 : (Int)) (t_16 : (Sl (Int))) : Nat → (Int) → (Int) → Option (((Int)) ⊕ ((Bool)))
  | 0, _, _ => .none
  | m + 1, c_35, c_37 => (if (decide (c_35 < 1048576)) = true then some (decide (c_37 < j_9)) else some false).bind fun q_49 => if q_49 then ((remI .i64 c_35 x0).bind fun x_50 => (if (x_50 == x1) then ((if (decide (c_37 ≥ (lenI (⟨t_16.xs, t_16.cap⟩ : Sl (Int))))) = false then (idx t_16.xs c_37).bind fun y_56 => some (y_56 != c_35) else some true).bind fun q_55 => if q_55 then (some (.inr false)) else (ckI .i64 (c_37 + 1)).bind fun x_62 => some (.inl x_62)) else some (.inl c_37)).bind fun (j_51 : ((Int)) ⊕ ((Bool))) => lrK j_51 (fun r => some (.inr r)) fun (s_52 : (Int)) => (ckI .i64 (c_35 + 1)).bind fun x_64 => p6_l1 n x0 x1 j_9 t_16 m x_64 s_52) else some (.inl c_37)
def p6_l2 (n : Nat) (t_16 : (Sl (Int))) (s_33 : (Int)) (t_70 : (Sl (Int))) : Nat → (Int) → Option ((Unit) ⊕ ((Bool)))
  | 0, _ => .none
  | m + 1, c_78 => if (decide (c_78 < s_33)) then ((idx t_70.xs c_78).bind fun y_87 => (idx t_16.xs c_78).bind fun y_93 => if (y_87 != y_93) then (some (.inr false)) else (ckI .i64 (c_78 + 1)).bind fun x_157 => p6_l2 n t_16 s_33 t_70 m x_157) else some (.inl ())
def p6 (n : Nat) (x0 : Int) (x1 : Int) (x2 : List (Int)) : Option ((Bool)) :=
  (idx x2 1).bind fun y_5 =>
  (remI .i64 y_5 20).bind fun x_8 =>
  (if (decide (x_8 < 0)) then ((ckI .i64 (0 - x_8)).bind fun x_11 => some x_11) else some x_8).bind fun (j_9 : (Int)) =>
  (idx x2 0).bind fun y_13 =>
  (p15 n x0 x1 y_13 j_9).bind fun t_16 =>
  (idx x2 0).bind fun y_21 =>
  (if (decide (y_21 < 0)) then (some 0) else some y_21).bind fun (j_24 : (Int)) =>
  (p11 n x0 x1).bind fun t_27 =>
  (if t_27 then ((p6_l1 n x0 x1 j_9 t_16 n j_24 0).bind fun (y_43 : ((Int)) ⊕ ((Bool))) => lrK y_43 (fun r => some (.inr r)) fun (s_44 : (Int)) => some (.inl s_44)) else some (.inl 0)).bind fun (j_32 : ((Int)) ⊕ ((Bool))) =>
  lrK j_32 some fun (s_33 : (Int)) =>
  (idx x2 0).bind fun y_67 =>
  (p15 n x0 x1 y_67 j_9).bind fun t_70 =>
  (if ((lenI (⟨t_16.xs, t_16.cap⟩ : Sl (Int))) != s_33) = false then some ((lenI (⟨t_70.xs, t_70.cap⟩ : Sl (Int))) != s_33) else some true).bind fun q_76 =>
  if q_76 then (some false) else (p6_l2 n t_16 s_33 t_70 n 0).bind fun (y_82 : (Unit) ⊕ ((Bool))) => lrK y_82 some fun (s_83 : Unit) => (p10 n).bind fun t_159 => some t_159
set_option maxHeartbeats 4000000 in
set_option maxRecDepth 100000 in
/-- plugboard/plugboardlaw10.PeriodicsAll -/
theorem c6 (K : Nat → Prop) (n : Nat) (w : World) (x0 : Int) (G0 : InR .i64 x0) (x1 : Int) (G1 : InR .i64 x1) (x2 : List (Int)) (v2 : Value) (R2 : RepV (.arr 2 (.int .i64)) w K v2 x2) {r : (Bool)} (h : p6 n x0 x1 x2 = some r) :
    Calls Try.prog 6 #[.int .i64 x0, .int .i64 x1, v2] w (Ret1 .bool w (Kx K w.heap.size []) r) := by
  refine enter (args := [.int .i64 x0, .int .i64 x1, v2]) Try.func6 rfl 94 rfl rfl fun a S => ?_
  have W := Wd.start w
  replace R2 := R2.arg
  unfold p6 at h
  replace S : St 94 a [(0, .int .i64 x0), (1, .int .i64 x1), (2, v2)] := S
  refine wp_seq ?_
  refine wp_region_lit ?_
  refine w_go S rfl (op_box S rfl rfl rfl rfl rfl R2 ?_)
  clear S; intro a w_3 b_1 hb_4 B_2 S
  replace R2 := R2.box hb_4
  replace W := W.box hb_4
  refine wl_pure (l' := [(6, .bool false), (5, .pointer (some (⟨b_1, 0, .none⟩ : Addr))), (0, .int .i64 x0), (1, .int .i64 x1), (2, v2)]) S tys tys_ok 1 (by kernel_rfl) ?_
  clear S; intro a S
  refine wpList_nil ?_
  refine then_n ?_
  replace S := S.sub (l' := [(5, .pointer (some (⟨b_1, 0, .none⟩ : Addr))), (0, .int .i64 x0), (1, .int .i64 x1)]) (by exact ⟨rfl, rfl, rfl, trivial⟩)
  refine wp_seq ?_
  refine wp_region_lit ?_
  obtain ⟨y_5, ey_5, h⟩ := bindS h
  refine w_go S rfl (op_indexAddr_arr S rfl ty22 rfl rfl rfl B_2.at_ rfl ey_5 ?_)
  clear S; intro a S
  refine w_go S rfl (op_load (t := (.int .i64)) (x := y_5) S rfl ty3 rfl rfl rfl (RepAt.ix B_2.at_ ey_5) ?_)
  clear S; intro a v_6 R_7 S
  obtain ⟨rfl, GR_7⟩ := RepV.int R_7
  obtain ⟨x_8, ex_8, h⟩ := bindS h
  refine w_go S rfl (op_rem S .i64 rfl rfl rfl rfl rfl ex_8 ?_)
  clear S; intro a S
  refine wl_pure (l' := [(7, .int .i64 x_8), (16, .int .i64 x_8), (15, .int .i64 y_5), (14, .pointer (some ((⟨b_1, 0, .none⟩ : Addr).add ((1 : Int).toNat * GT.sz (.int .i64))))), (5, .pointer (some (⟨b_1, 0, .none⟩ : Addr))), (0, .int .i64 x0), (1, .int .i64 x1)]) S tys tys_ok 1 (by kernel_rfl) ?_
  clear S; intro a S
  refine wpList_nil ?_
  refine then_n ?_
  replace S := S.sub (l' := [(7, .int .i64 x_8), (5, .pointer (some (⟨b_1, 0, .none⟩ : Addr))), (0, .int .i64 x0), (1, .int .i64 x1)]) (by exact ⟨rfl, rfl, rfl, rfl, trivial⟩)
  refine wp_seq ?_
  refine wp_seq ?_
  refine wp_region_lit ?_
  refine wl_pure (l' := [(18, .bool (decide (x_8 < 0))), (17, .int .i64 x_8), (7, .int .i64 x_8), (5, .pointer (some (⟨b_1, 0, .none⟩ : Addr))), (0, .int .i64 x0), (1, .int .i64 x1)]) S tys tys_ok 2 (by kernel_rfl) ?_
  clear S; intro a S
  refine wpList_nil ?_
  refine then_n ?_
  replace S := S.sub (l' := [(18, .bool (decide (x_8 < 0))), (7, .int .i64 x_8), (5, .pointer (some (⟨b_1, 0, .none⟩ : Addr))), (0, .int .i64 x0), (1, .int .i64 x1)]) (by exact ⟨rfl, rfl, rfl, rfl, rfl, trivial⟩)
  obtain ⟨j_9, ej_9, h⟩ := bindS h
  refine wp_cut_ (fun a_ w_ => St 94 a_ [(7, .int .i64 j_9), (5, .pointer (some (⟨b_1, 0, .none⟩ : Addr))), (0, .int .i64 x0), (1, .int .i64 x1)] ∧ Wd w w_ [some b_1] ∧ InR .i64 j_9 ∧ Bx (.arr 2 (.int .i64)) 22 w_ (Kx K w.heap.size [some b_1]) b_1 x2) ?_ ?_
  · refine wp_cond_split (S.eval (show ev _ _ = some (.bool (decide (x_8 < 0))) from rfl)) ?_ ?_
    · intro hc
      rw [if_pos hc] at ej_9
      refine wp_region_lit ?_
      refine wl_pure (l' := [(19, .int .i64 x_8), (18, .bool (decide (x_8 < 0))), (7, .int .i64 x_8), (5, .pointer (some (⟨b_1, 0, .none⟩ : Addr))), (0, .int .i64 x0), (1, .int .i64 x1)]) S tys tys_ok 1 (by kernel_rfl) ?_
      clear S; intro a S
      obtain ⟨x_11, ex_11, ej_9⟩ := bindS ej_9
      refine w_go S rfl (op_neg S .i64 rfl rfl rfl rfl ex_11 ?_)
      clear S; intro a S
      refine wl_pure (l' := [(7, .int .i64 x_11), (20, .int .i64 x_11), (19, .int .i64 x_8), (18, .bool (decide (x_8 < 0))), (7, .int .i64 x_8), (5, .pointer (some (⟨b_1, 0, .none⟩ : Addr))), (0, .int .i64 x0), (1, .int .i64 x1)]) S tys tys_ok 1 (by kernel_rfl) ?_
      clear S; intro a S
      refine wpList_nil ?_
      refine then_n ?_
      obtain rfl := Option.some.inj ej_9
      exact ⟨S.sub (by exact ⟨rfl, rfl, rfl, rfl, trivial⟩), W, (ckI_some ex_11).2.1, B_2⟩
    · intro hc
      rw [if_neg (Bool.eq_false_iff.1 hc)] at ej_9
      refine wp_skip ?_
      refine then_n ?_
      obtain rfl := Option.some.inj ej_9
      exact ⟨S.sub (by exact ⟨rfl, rfl, rfl, rfl, trivial⟩), W, (inR_rem ex_8), B_2⟩
  clear S W; rintro a w_12 ⟨S, W, G_10, B_2⟩
  refine then_n ?_
  refine wp_seq ?_
  refine wp_region_lit ?_
  refine wl_pure (l' := [(22, .int .i64 x1), (21, .int .i64 x0), (7, .int .i64 j_9), (5, .pointer (some (⟨b_1, 0, .none⟩ : Addr))), (0, .int .i64 x0), (1, .int .i64 x1)]) S tys tys_ok 2 (by kernel_rfl) ?_
  clear S; intro a S
  obtain ⟨y_13, ey_13, h⟩ := bindS h
  refine w_go S rfl (op_indexAddr_arr S rfl ty22 rfl rfl rfl B_2.at_ rfl ey_13 ?_)
  clear S; intro a S
  refine w_go S rfl (op_load (t := (.int .i64)) (x := y_13) S rfl ty3 rfl rfl rfl (RepAt.ix B_2.at_ ey_13) ?_)
  clear S; intro a v_14 R_15 S
  obtain ⟨rfl, GR_15⟩ := RepV.int R_15
  refine wl_pure (l' := [(25, .int .i64 j_9), (24, .int .i64 y_13), (23, .pointer (some ((⟨b_1, 0, .none⟩ : Addr).add ((0 : Int).toNat * GT.sz (.int .i64))))), (22, .int .i64 x1), (21, .int .i64 x0), (7, .int .i64 j_9), (5, .pointer (some (⟨b_1, 0, .none⟩ : Addr))), (0, .int .i64 x0), (1, .int .i64 x1)]) S tys tys_ok 1 (by kernel_rfl) ?_
  clear S; intro a S
  obtain ⟨t_16, et_16, h⟩ := bindS h
  refine w_go S rfl (op_call (vs := [.int .i64 x0, .int .i64 x1, .int .i64 y_13, .int .i64 j_9]) S rfl cb15 rfl rfl rfl (c15 (Kx K w.heap.size [some b_1]) n w_12 x0 G0 x1 G1 y_13 GR_15 j_9 G_10 et_16) ?_)
  rintro _ w_20 ⟨v_17, rfl, R_18, hb_19⟩; refine ⟨_, rfl, ?_⟩
  have NO_ := newO_of R_18 (Nat.le_refl _) hb_19
  replace R_18 := Ow.backO R_18 W
  clear S; intro a S
  replace B_2 := B_2.newO NO_
  replace W := W.newO NO_
  clear NO_
  refine wl_pure (l' := [(8, v_17), (26, v_17), (25, .int .i64 j_9), (24, .int .i64 y_13), (23, .pointer (some ((⟨b_1, 0, .none⟩ : Addr).add ((0 : Int).toNat * GT.sz (.int .i64))))), (22, .int .i64 x1), (21, .int .i64 x0), (7, .int .i64 j_9), (5, .pointer (some (⟨b_1, 0, .none⟩ : Addr))), (0, .int .i64 x0), (1, .int .i64 x1)]) S tys tys_ok 1 (by kernel_rfl) ?_
  clear S; intro a S
  refine wpList_nil ?_
  refine then_n ?_
  replace S := S.sub (l' := [(8, v_17), (7, .int .i64 j_9), (5, .pointer (some (⟨b_1, 0, .none⟩ : Addr))), (0, .int .i64 x0), (1, .int .i64 x1)]) (by exact ⟨rfl, rfl, rfl, rfl, rfl, trivial⟩)
  refine wp_seq ?_
  refine wp_region_lit ?_
  obtain ⟨y_21, ey_21, h⟩ := bindS h
  refine w_go S rfl (op_indexAddr_arr S rfl ty22 rfl rfl rfl B_2.at_ rfl ey_21 ?_)
  clear S; intro a S
  refine w_go S rfl (op_load (t := (.int .i64)) (x := y_21) S rfl ty3 rfl rfl rfl (RepAt.ix B_2.at_ ey_21) ?_)
  clear S; intro a v_22 R_23 S
  obtain ⟨rfl, GR_23⟩ := RepV.int R_23
  refine wl_pure (l' := [(9, .int .i64 y_21), (28, .int .i64 y_21), (27, .pointer (some ((⟨b_1, 0, .none⟩ : Addr).add ((0 : Int).toNat * GT.sz (.int .i64))))), (8, v_17), (7, .int .i64 j_9), (5, .pointer (some (⟨b_1, 0, .none⟩ : Addr))), (0, .int .i64 x0), (1, .int .i64 x1)]) S tys tys_ok 1 (by kernel_rfl) ?_
  clear S; intro a S
  refine wpList_nil ?_
  refine then_n ?_
  replace S := S.sub (l' := [(9, .int .i64 y_21), (8, v_17), (7, .int .i64 j_9), (5, .pointer (some (⟨b_1, 0, .none⟩ : Addr))), (0, .int .i64 x0), (1, .int .i64 x1)]) (by exact ⟨rfl, rfl, rfl, rfl, rfl, rfl, trivial⟩)
  refine wp_seq ?_
  refine wp_seq ?_
  refine wp_region_lit ?_
  refine wl_pure (l' := [(30, .bool (decide (y_21 < 0))), (29, .int .i64 y_21), (9, .int .i64 y_21), (8, v_17), (7, .int .i64 j_9), (5, .pointer (some (⟨b_1, 0, .none⟩ : Addr))), (0, .int .i64 x0), (1, .int .i64 x1)]) S tys tys_ok 2 (by kernel_rfl) ?_
  clear S; intro a S
  refine wpList_nil ?_
  refine then_n ?_
  replace S := S.sub (l' := [(30, .bool (decide (y_21 < 0))), (9, .int .i64 y_21), (8, v_17), (7, .int .i64 j_9), (5, .pointer (some (⟨b_1, 0, .none⟩ : Addr))), (0, .int .i64 x0), (1, .int .i64 x1)]) (by exact ⟨rfl, rfl, rfl, rfl, rfl, rfl, rfl, trivial⟩)
  obtain ⟨j_24, ej_24, h⟩ := bindS h
  refine wp_cut_ (fun a_ w_ => St 94 a_ [(9, .int .i64 j_24), (8, v_17), (7, .int .i64 j_9), (5, .pointer (some (⟨b_1, 0, .none⟩ : Addr))), (0, .int .i64 x0), (1, .int .i64 x1)] ∧ Wd w w_ [v_17.ownBlock, some b_1] ∧ InR .i64 j_24 ∧ Bx (.arr 2 (.int .i64)) 22 w_ (Kx K w.heap.size [v_17.ownBlock, some b_1]) b_1 x2 ∧ Ow (.int .i64) 3 w_ w.heap.size (Kx K w.heap.size [v_17.ownBlock, some b_1]) v_17 t_16.xs t_16.cap) ?_ ?_
  · refine wp_cond_split (S.eval (show ev _ _ = some (.bool (decide (y_21 < 0))) from rfl)) ?_ ?_
    · intro hc
      rw [if_pos hc] at ej_24
      refine wp_region_lit ?_
      refine wl_pure (l' := [(9, .int .i64 0), (30, .bool (decide (y_21 < 0))), (9, .int .i64 y_21), (8, v_17), (7, .int .i64 j_9), (5, .pointer (some (⟨b_1, 0, .none⟩ : Addr))), (0, .int .i64 x0), (1, .int .i64 x1)]) S tys tys_ok 1 (by kernel_rfl) ?_
      clear S; intro a S
      refine wpList_nil ?_
      refine then_n ?_
      obtain rfl := Option.some.inj ej_24
      exact ⟨S.sub (by exact ⟨rfl, rfl, rfl, rfl, rfl, rfl, trivial⟩), W, (by decide), B_2, R_18⟩
    · intro hc
      rw [if_neg (Bool.eq_false_iff.1 hc)] at ej_24
      refine wp_skip ?_
      refine then_n ?_
      obtain rfl := Option.some.inj ej_24
      exact ⟨S.sub (by exact ⟨rfl, rfl, rfl, rfl, rfl, rfl, trivial⟩), W, GR_23, B_2, R_18⟩
  clear S W; rintro a w_26 ⟨S, W, G_25, B_2, R_18⟩
  refine then_n ?_
  refine wp_seq ?_
  refine wp_region_lit ?_
  refine wl_pure (l' := [(10, .int .i64 0), (9, .int .i64 j_24), (8, v_17), (7, .int .i64 j_9), (5, .pointer (some (⟨b_1, 0, .none⟩ : Addr))), (0, .int .i64 x0), (1, .int .i64 x1)]) S tys tys_ok 1 (by kernel_rfl) ?_
  clear S; intro a S
  refine wpList_nil ?_
  refine then_n ?_
  refine wp_seq ?_
  refine wp_seq ?_
  refine wp_region_lit ?_
  refine wl_pure (l' := [(32, .int .i64 x1), (31, .int .i64 x0), (10, .int .i64 0), (9, .int .i64 j_24), (8, v_17), (7, .int .i64 j_9), (5, .pointer (some (⟨b_1, 0, .none⟩ : Addr))), (0, .int .i64 x0), (1, .int .i64 x1)]) S tys tys_ok 2 (by kernel_rfl) ?_
  clear S; intro a S
  obtain ⟨t_27, et_27, h⟩ := bindS h
  refine w_go S rfl (op_call (vs := [.int .i64 x0, .int .i64 x1]) S rfl cb11 rfl rfl rfl (c11 (Kx K w.heap.size [v_17.ownBlock, some b_1]) n w_26 x0 G0 x1 G1 et_27) ?_)
  rintro _ w_31 ⟨v_28, rfl, R_29, hb_30⟩; refine ⟨_, rfl, ?_⟩
  replace R_29 := RepV.back R_29 W
  clear S; intro a S
  replace B_2 := B_2.step hb_30
  replace R_18 := R_18.step hb_30
  replace W := W.step hb_30
  obtain rfl := RepV.bool R_29
  refine wpList_nil ?_
  refine then_n ?_
  replace S := S.sub (l' := [(33, .bool t_27), (10, .int .i64 0), (9, .int .i64 j_24), (8, v_17), (7, .int .i64 j_9), (5, .pointer (some (⟨b_1, 0, .none⟩ : Addr))), (0, .int .i64 x0), (1, .int .i64 x1)]) (by exact ⟨rfl, rfl, rfl, rfl, rfl, rfl, rfl, rfl, trivial⟩)
  obtain ⟨j_32, ej_32, h⟩ := bindS h
  refine wp_cut_ (fun a_ w_ => ∃ s_33 : (Int), j_32 = .inl s_33 ∧ (St 94 a_ [(10, .int .i64 s_33), (8, v_17), (7, .int .i64 j_9), (5, .pointer (some (⟨b_1, 0, .none⟩ : Addr))), (0, .int .i64 x0), (1, .int .i64 x1)] ∧ Wd w w_ [v_17.ownBlock, some b_1] ∧ InR .i64 s_33 ∧ Bx (.arr 2 (.int .i64)) 22 w_ (Kx K w.heap.size [v_17.ownBlock, some b_1]) b_1 x2 ∧ Ow (.int .i64) 3 w_ w.heap.size (Kx K w.heap.size [v_17.ownBlock, some b_1]) v_17 t_16.xs t_16.cap)) ?_ ?_
  · refine wp_cond_split (S.eval (show ev _ _ = some (.bool t_27) from rfl)) ?_ ?_
    · intro hc
      rw [if_pos hc] at ej_32
      refine wp_seq ?_
      refine wp_region_lit ?_
      refine wl_pure (l' := [(11, .int .i64 j_24), (34, .int .i64 j_24), (33, .bool t_27), (10, .int .i64 0), (9, .int .i64 j_24), (8, v_17), (7, .int .i64 j_9), (5, .pointer (some (⟨b_1, 0, .none⟩ : Addr))), (0, .int .i64 x0), (1, .int .i64 x1)]) S tys tys_ok 2 (by kernel_rfl) ?_
      clear S; intro a S
      refine wpList_nil ?_
      refine then_n ?_
      replace S := S.sub (l' := [(11, .int .i64 j_24), (10, .int .i64 0), (8, v_17), (7, .int .i64 j_9), (5, .pointer (some (⟨b_1, 0, .none⟩ : Addr))), (0, .int .i64 x0), (1, .int .i64 x1)]) (by exact ⟨rfl, rfl, rfl, rfl, rfl, rfl, rfl, trivial⟩)
      obtain ⟨y_43, ey_43, ej_32⟩ := bindS ej_32
      refine wp_cut_ (fun a_ w_ => ∃ s_44 : (Int), y_43 = .inl s_44 ∧ (St 94 a_ [(0, .int .i64 x0), (1, .int .i64 x1), (5, .pointer (some (⟨b_1, 0, .none⟩ : Addr))), (7, .int .i64 j_9), (8, v_17), (10, .int .i64 s_44)] ∧ Wd w w_ [v_17.ownBlock, some b_1] ∧ InR .i64 s_44 ∧ Bx (.arr 2 (.int .i64)) 22 w_ (Kx K w.heap.size [v_17.ownBlock, some b_1]) b_1 x2 ∧ Ow (.int .i64) 3 w_ w.heap.size (Kx K w.heap.size [v_17.ownBlock, some b_1]) v_17 t_16.xs t_16.cap)) ?_ ?_
      · refine wp_block ?_
        refine wp_loop_n (fun m_ a_ w_ => ∃ (c_35 : Int) (c_37 : Int) , St 94 a_ [(11, .int .i64 c_35), (10, .int .i64 c_37), (8, v_17), (7, .int .i64 j_9), (5, .pointer (some (⟨b_1, 0, .none⟩ : Addr))), (0, .int .i64 x0), (1, .int .i64 x1)] ∧ Wd w w_ [v_17.ownBlock, some b_1] ∧ InR .i64 c_35 ∧ InR .i64 c_37 ∧ Bx (.arr 2 (.int .i64)) 22 w_ (Kx K w.heap.size [v_17.ownBlock, some b_1]) b_1 x2 ∧ Ow (.int .i64) 3 w_ w.heap.size (Kx K w.heap.size [v_17.ownBlock, some b_1]) v_17 t_16.xs t_16.cap ∧ p6_l1 n x0 x1 j_9 t_16 m_ c_35 c_37 = some y_43) n ?_ ?_
        · skip
          exact ⟨j_24, 0, ⟨S.sub (by exact ⟨rfl, rfl, rfl, rfl, rfl, rfl, rfl, trivial⟩), W, G_25, (by decide), B_2, R_18, ey_43⟩⟩
        · clear S W; rintro m_46 a w_48 ⟨c_35, c_37, S, W, G_36, G_38, B_2, R_18, hl_47⟩
          cases m_46 with
          | zero => exact absurd hl_47 (by simp [p6_l1])
          | succ m_46 =>
            refine ⟨m_46, rfl, ?_⟩
            rw [p6_l1] at hl_47
            refine wp_seq ?_
            refine wp_seq ?_
            refine wp_region_lit ?_
            refine wl_pure (l' := [(37, .bool (decide (c_35 < 1048576))), (36, .bool (decide (c_35 < 1048576))), (35, .int .i64 c_35), (11, .int .i64 c_35), (10, .int .i64 c_37), (8, v_17), (7, .int .i64 j_9), (5, .pointer (some (⟨b_1, 0, .none⟩ : Addr))), (0, .int .i64 x0), (1, .int .i64 x1)]) S tys tys_ok 3 (by kernel_rfl) ?_
            clear S; intro a S
            obtain ⟨q_49, eq_49, hl_47⟩ := bindS hl_47
            refine seg 4 (fun a_ w_ => w_48 = w_ ∧ St 94 a_ [(41, .bool q_49), (11, .int .i64 c_35), (10, .int .i64 c_37), (8, v_17), (7, .int .i64 j_9), (5, .pointer (some (⟨b_1, 0, .none⟩ : Addr))), (0, .int .i64 x0), (1, .int .i64 x1)]) ?_ ?_
            · by_cases hc : (decide (c_35 < 1048576)) = true
              · rw [if_pos hc] at eq_49; rw [hc] at S
                refine wl_pure (l' := [(41, .bool (decide (c_37 < j_9))), (40, .bool (decide (c_37 < j_9))), (39, .int .i64 j_9), (38, .int .i64 c_37), (37, .bool true), (36, .bool true), (35, .int .i64 c_35), (11, .int .i64 c_35), (10, .int .i64 c_37), (8, v_17), (7, .int .i64 j_9), (5, .pointer (some (⟨b_1, 0, .none⟩ : Addr))), (0, .int .i64 x0), (1, .int .i64 x1)]) S tys tys_ok 4 (by kernel_rfl) ?_
                clear S; intro a S
                obtain rfl := Option.some.inj eq_49
                exact ⟨rfl, S.sub (by exact ⟨rfl, rfl, rfl, rfl, rfl, rfl, rfl, rfl, trivial⟩)⟩
              · rw [if_neg hc] at eq_49; rw [show (decide (c_35 < 1048576)) = false from Bool.eq_false_iff.2 hc] at S
                refine wl_pure (l' := [(41, .bool false), (40, undef), (39, undef), (38, undef), (37, .bool false), (36, .bool false), (35, .int .i64 c_35), (11, .int .i64 c_35), (10, .int .i64 c_37), (8, v_17), (7, .int .i64 j_9), (5, .pointer (some (⟨b_1, 0, .none⟩ : Addr))), (0, .int .i64 x0), (1, .int .i64 x1)]) S tys tys_ok 4 (by kernel_rfl) ?_
                clear S; intro a S
                obtain rfl := Option.some.inj eq_49
                exact ⟨rfl, S.sub (by exact ⟨rfl, rfl, rfl, rfl, rfl, rfl, rfl, rfl, trivial⟩)⟩
            clear S eq_49; rintro a _ ⟨rfl, S⟩
            refine wpList_nil ?_
            refine then_n ?_
            refine wp_cond_split (S.eval (show ev _ _ = some (.bool q_49) from rfl)) ?_ ?_
            · intro hc
              rw [if_pos hc] at hl_47
              refine wp_skip ?_
              refine then_n ?_
              replace S := S.sub (l' := [(11, .int .i64 c_35), (10, .int .i64 c_37), (8, v_17), (7, .int .i64 j_9), (5, .pointer (some (⟨b_1, 0, .none⟩ : Addr))), (0, .int .i64 x0), (1, .int .i64 x1)]) (by exact ⟨rfl, rfl, rfl, rfl, rfl, rfl, rfl, trivial⟩)
              refine wp_seq ?_
              refine wp_block ?_
              refine wp_seq ?_
              refine wp_region_lit ?_
              refine wl_pure (l' := [(45, .int .i64 x0), (44, .int .i64 c_35), (11, .int .i64 c_35), (10, .int .i64 c_37), (8, v_17), (7, .int .i64 j_9), (5, .pointer (some (⟨b_1, 0, .none⟩ : Addr))), (0, .int .i64 x0), (1, .int .i64 x1)]) S tys tys_ok 2 (by kernel_rfl) ?_
              clear S; intro a S
              obtain ⟨x_50, ex_50, hl_47⟩ := bindS hl_47
              refine w_go S rfl (op_rem S .i64 rfl rfl rfl rfl rfl ex_50 ?_)
              clear S; intro a S
              refine wl_pure (l' := [(48, .bool (x_50 == x1)), (47, .int .i64 x1), (46, .int .i64 x_50), (45, .int .i64 x0), (44, .int .i64 c_35), (11, .int .i64 c_35), (10, .int .i64 c_37), (8, v_17), (7, .int .i64 j_9), (5, .pointer (some (⟨b_1, 0, .none⟩ : Addr))), (0, .int .i64 x0), (1, .int .i64 x1)]) S tys tys_ok 2 (by kernel_rfl) ?_
              clear S; intro a S
              refine wpList_nil ?_
              refine then_n ?_
              replace S := S.sub (l' := [(48, .bool (x_50 == x1)), (11, .int .i64 c_35), (10, .int .i64 c_37), (8, v_17), (7, .int .i64 j_9), (5, .pointer (some (⟨b_1, 0, .none⟩ : Addr))), (0, .int .i64 x0), (1, .int .i64 x1)]) (by exact ⟨rfl, rfl, rfl, rfl, rfl, rfl, rfl, rfl, trivial⟩)
              obtain ⟨j_51, ej_51, hl_47⟩ := bindS hl_47
              refine wp_cut_ (fun a_ w_ => ∃ s_52 : (Int), j_51 = .inl s_52 ∧ (St 94 a_ [(11, .int .i64 c_35), (10, .int .i64 s_52), (8, v_17), (7, .int .i64 j_9), (5, .pointer (some (⟨b_1, 0, .none⟩ : Addr))), (0, .int .i64 x0), (1, .int .i64 x1)] ∧ Wd w w_ [v_17.ownBlock, some b_1] ∧ InR .i64 s_52 ∧ Bx (.arr 2 (.int .i64)) 22 w_ (Kx K w.heap.size [v_17.ownBlock, some b_1]) b_1 x2 ∧ Ow (.int .i64) 3 w_ w.heap.size (Kx K w.heap.size [v_17.ownBlock, some b_1]) v_17 t_16.xs t_16.cap)) ?_ ?_
              · refine wp_cond_split (S.eval (show ev _ _ = some (.bool (x_50 == x1)) from rfl)) ?_ ?_
                · intro hc
                  rw [if_pos hc] at ej_51
                  refine wp_seq ?_
                  refine wp_seq ?_
                  refine wp_region_lit ?_
                  refine wl_pure (l' := [(50, v_17), (49, .int .i64 c_37), (48, .bool (x_50 == x1)), (11, .int .i64 c_35), (10, .int .i64 c_37), (8, v_17), (7, .int .i64 j_9), (5, .pointer (some (⟨b_1, 0, .none⟩ : Addr))), (0, .int .i64 x0), (1, .int .i64 x1)]) S tys tys_ok 2 (by kernel_rfl) ?_
                  clear S; intro a S
                  refine w_go S rfl (op_len (K := _) S rfl ty37 rfl rfl rfl R_18.read ?_)
                  clear S; intro a G_54 S
                  refine wl_pure (l' := [(53, .bool (decide (c_37 ≥ (lenI (⟨t_16.xs, t_16.cap⟩ : Sl (Int)))))), (52, .bool (decide (c_37 ≥ (lenI (⟨t_16.xs, t_16.cap⟩ : Sl (Int)))))), (51, .int .i64 (lenI (⟨t_16.xs, t_16.cap⟩ : Sl (Int)))), (50, v_17), (49, .int .i64 c_37), (48, .bool (x_50 == x1)), (11, .int .i64 c_35), (10, .int .i64 c_37), (8, v_17), (7, .int .i64 j_9), (5, .pointer (some (⟨b_1, 0, .none⟩ : Addr))), (0, .int .i64 x0), (1, .int .i64 x1)]) S tys tys_ok 2 (by kernel_rfl) ?_
                  clear S; intro a S
                  obtain ⟨q_55, eq_55, ej_51⟩ := bindS ej_51
                  refine seg 7 (fun a_ w_ => w_48 = w_ ∧ St 94 a_ [(60, .bool q_55), (11, .int .i64 c_35), (10, .int .i64 c_37), (8, v_17), (7, .int .i64 j_9), (5, .pointer (some (⟨b_1, 0, .none⟩ : Addr))), (0, .int .i64 x0), (1, .int .i64 x1)]) ?_ ?_
                  · by_cases hc : (decide (c_37 ≥ (lenI (⟨t_16.xs, t_16.cap⟩ : Sl (Int))))) = false
                    · rw [if_pos hc] at eq_55; rw [hc] at S
                      refine wl_pure (l' := [(55, .int .i64 c_37), (54, v_17), (53, .bool false), (52, .bool false), (51, .int .i64 (lenI (⟨t_16.xs, t_16.cap⟩ : Sl (Int)))), (50, v_17), (49, .int .i64 c_37), (48, .bool (x_50 == x1)), (11, .int .i64 c_35), (10, .int .i64 c_37), (8, v_17), (7, .int .i64 j_9), (5, .pointer (some (⟨b_1, 0, .none⟩ : Addr))), (0, .int .i64 x0), (1, .int .i64 x1)]) S tys tys_ok 2 (by kernel_rfl) ?_
                      clear S; intro a S
                      obtain ⟨y_56, ey_56, eq_55⟩ := bindS eq_55
                      refine w_go S rfl (op_indexAddr_own S rfl ty37 rfl rfl rfl R_18 rfl ey_56 ?_)
                      clear S; intro a g_57 H_59 R_58 S
                      refine w_go S rfl (op_load (t := (.int .i64)) (x := y_56) S rfl ty3 rfl rfl rfl R_58 ?_)
                      clear S; intro a v_60 R_61 S
                      obtain ⟨rfl, GR_61⟩ := RepV.int R_61
                      refine wl_pure (l' := [(60, .bool (y_56 != c_35)), (59, .bool (y_56 != c_35)), (58, .int .i64 c_35), (57, .int .i64 y_56), (56, .pointer (some (⟨g_57, c_37.toNat * GT.sz (.int .i64), .none⟩ : Addr))), (55, .int .i64 c_37), (54, v_17), (53, .bool false), (52, .bool false), (51, .int .i64 (lenI (⟨t_16.xs, t_16.cap⟩ : Sl (Int)))), (50, v_17), (49, .int .i64 c_37), (48, .bool (x_50 == x1)), (11, .int .i64 c_35), (10, .int .i64 c_37), (8, v_17), (7, .int .i64 j_9), (5, .pointer (some (⟨b_1, 0, .none⟩ : Addr))), (0, .int .i64 x0), (1, .int .i64 x1)]) S tys tys_ok 3 (by kernel_rfl) ?_
                      clear S; intro a S
                      obtain rfl := Option.some.inj eq_55
                      exact ⟨rfl, S.sub (by exact ⟨rfl, rfl, rfl, rfl, rfl, rfl, rfl, rfl, trivial⟩)⟩
                    · rw [if_neg hc] at eq_55; rw [show (decide (c_37 ≥ (lenI (⟨t_16.xs, t_16.cap⟩ : Sl (Int))))) = true from (by simpa using hc)] at S
                      refine wl_pure (l' := [(60, .bool true), (59, undef), (58, undef), (57, undef), (56, undef), (55, undef), (54, undef), (53, .bool true), (52, .bool true), (51, .int .i64 (lenI (⟨t_16.xs, t_16.cap⟩ : Sl (Int)))), (50, v_17), (49, .int .i64 c_37), (48, .bool (x_50 == x1)), (11, .int .i64 c_35), (10, .int .i64 c_37), (8, v_17), (7, .int .i64 j_9), (5, .pointer (some (⟨b_1, 0, .none⟩ : Addr))), (0, .int .i64 x0), (1, .int .i64 x1)]) S tys tys_ok 7 (by kernel_rfl) ?_
                      clear S; intro a S
                      obtain rfl := Option.some.inj eq_55
                      exact ⟨rfl, S.sub (by exact ⟨rfl, rfl, rfl, rfl, rfl, rfl, rfl, rfl, trivial⟩)⟩
                  clear S eq_55; rintro a _ ⟨rfl, S⟩
                  refine wpList_nil ?_
                  refine then_n ?_
                  refine wp_cond_split (S.eval (show ev _ _ = some (.bool q_55) from rfl)) ?_ ?_
                  · intro hc
                    rw [if_pos hc] at ej_51
                    refine wp_seq ?_
                    refine wp_region_lit ?_
                    refine wl_pure (l' := [(6, .bool false), (60, .bool q_55), (11, .int .i64 c_35), (10, .int .i64 c_37), (8, v_17), (7, .int .i64 j_9), (5, .pointer (some (⟨b_1, 0, .none⟩ : Addr))), (0, .int .i64 x0), (1, .int .i64 x1)]) S tys tys_ok 1 (by kernel_rfl) ?_
                    clear S; intro a S
                    refine wpList_nil ?_
                    refine then_n ?_
                    replace S := S.sub (l' := [(6, .bool false)]) (by exact ⟨rfl, trivial⟩)
                    refine wp_ret ?_
                    refine then_r ?_
                    refine then_r ?_
                    refine blk_r ?_
                    refine then_r ?_
                    refine then_r ?_
                    refine blk_r ?_
                    refine then_r ?_
                    refine then_r ?_
                    refine then_r ?_
                    obtain rfl := Option.some.inj ej_51
                    have hq_ := lr_inr2 hl_47; subst hq_
                    have hq_ := lr_inr2 ej_32; subst hq_
                    obtain rfl := lr_inr h
                    exact b_ret1 S rfl rfl ⟨_, rfl, RepV.mkBool, W.below⟩
                  · intro hc
                    rw [if_neg (Bool.eq_false_iff.1 hc)] at ej_51
                    refine wp_skip ?_
                    refine then_n ?_
                    replace S := S.sub (l' := [(11, .int .i64 c_35), (10, .int .i64 c_37), (8, v_17), (7, .int .i64 j_9), (5, .pointer (some (⟨b_1, 0, .none⟩ : Addr))), (0, .int .i64 x0), (1, .int .i64 x1)]) (by exact ⟨rfl, rfl, rfl, rfl, rfl, rfl, rfl, trivial⟩)
                    refine wp_region_lit ?_
                    refine wl_pure (l' := [(61, .int .i64 c_37), (11, .int .i64 c_35), (10, .int .i64 c_37), (8, v_17), (7, .int .i64 j_9), (5, .pointer (some (⟨b_1, 0, .none⟩ : Addr))), (0, .int .i64 x0), (1, .int .i64 x1)]) S tys tys_ok 1 (by kernel_rfl) ?_
                    clear S; intro a S
                    obtain ⟨x_62, ex_62, ej_51⟩ := bindS ej_51
                    refine w_go S rfl (op_arith S .i64 (c_37 + 1) rfl (.inl rfl) rfl rfl rfl rfl ex_62 ?_)
                    clear S; intro a S
                    refine wl_pure (l' := [(10, .int .i64 x_62), (62, .int .i64 x_62), (61, .int .i64 c_37), (11, .int .i64 c_35), (10, .int .i64 c_37), (8, v_17), (7, .int .i64 j_9), (5, .pointer (some (⟨b_1, 0, .none⟩ : Addr))), (0, .int .i64 x0), (1, .int .i64 x1)]) S tys tys_ok 1 (by kernel_rfl) ?_
                    clear S; intro a S
                    refine wpList_nil ?_
                    refine then_n ?_
                    obtain rfl := Option.some.inj ej_51
                    exact ⟨_, rfl, ⟨S.sub (by exact ⟨rfl, rfl, rfl, rfl, rfl, rfl, rfl, trivial⟩), W, (ckI_some ex_62).2.1, B_2, R_18⟩⟩
                · intro hc
                  rw [if_neg (Bool.eq_false_iff.1 hc)] at ej_51
                  refine wp_skip ?_
                  refine then_n ?_
                  obtain rfl := Option.some.inj ej_51
                  exact ⟨_, rfl, ⟨S.sub (by exact ⟨rfl, rfl, rfl, rfl, rfl, rfl, rfl, trivial⟩), W, G_38, B_2, R_18⟩⟩
              clear S W; rintro a w_63 ⟨s_52, rfl, S, W, G_53, B_2, R_18⟩
              replace hl_47 := lr_inl hl_47; try dsimp only at hl_47
              refine blk_n ?_
              refine then_n ?_
              refine wp_region_lit ?_
              refine wl_pure (l' := [(42, .int .i64 c_35), (11, .int .i64 c_35), (10, .int .i64 s_52), (8, v_17), (7, .int .i64 j_9), (5, .pointer (some (⟨b_1, 0, .none⟩ : Addr))), (0, .int .i64 x0), (1, .int .i64 x1)]) S tys tys_ok 1 (by kernel_rfl) ?_
              clear S; intro a S
              obtain ⟨x_64, ex_64, hl_47⟩ := bindS hl_47
              refine w_go S rfl (op_arith S .i64 (c_35 + 1) rfl (.inl rfl) rfl rfl rfl rfl ex_64 ?_)
              clear S; intro a S
              refine wl_pure (l' := [(11, .int .i64 x_64), (43, .int .i64 x_64), (42, .int .i64 c_35), (11, .int .i64 c_35), (10, .int .i64 s_52), (8, v_17), (7, .int .i64 j_9), (5, .pointer (some (⟨b_1, 0, .none⟩ : Addr))), (0, .int .i64 x0), (1, .int .i64 x1)]) S tys tys_ok 1 (by kernel_rfl) ?_
              clear S; intro a S
              refine wpList_nil ?_
              refine then_n ?_
              exact ⟨x_64, s_52, ⟨S.sub (by exact ⟨rfl, rfl, rfl, rfl, rfl, rfl, rfl, trivial⟩), W, (ckI_some ex_64).2.1, G_53, B_2, R_18, hl_47⟩⟩
            · intro hc
              rw [if_neg (Bool.eq_false_iff.1 hc)] at hl_47
              refine wp_exit ?_
              refine then_x ?_
              refine then_x ?_
              refine blk_hit ?_
              refine then_n ?_
              obtain rfl := Option.some.inj hl_47
              exact ⟨_, rfl, ⟨S.sub (by exact ⟨rfl, rfl, rfl, rfl, rfl, rfl, trivial⟩), W, G_38, B_2, R_18⟩⟩
      clear S W; rintro a w_65 ⟨s_44, rfl, S, W, G_45, B_2, R_18⟩
      replace ej_32 := lr_inl ej_32; try dsimp only at ej_32
      refine then_n ?_
      obtain rfl := Option.some.inj ej_32
      exact ⟨_, rfl, ⟨S.sub (by exact ⟨rfl, rfl, rfl, rfl, rfl, rfl, trivial⟩), W, G_45, B_2, R_18⟩⟩
    · intro hc
      rw [if_neg (Bool.eq_false_iff.1 hc)] at ej_32
      refine wp_skip ?_
      refine then_n ?_
      obtain rfl := Option.some.inj ej_32
      exact ⟨_, rfl, ⟨S.sub (by exact ⟨rfl, rfl, rfl, rfl, rfl, rfl, trivial⟩), W, (by decide), B_2, R_18⟩⟩
  clear S W; rintro a w_66 ⟨s_33, rfl, S, W, G_34, B_2, R_18⟩
  replace h := lr_inl h; try dsimp only at h
  refine then_n ?_
  refine wp_seq ?_
  refine wp_region_lit ?_
  refine wl_pure (l' := [(64, .int .i64 x1), (63, .int .i64 x0), (10, .int .i64 s_33), (8, v_17), (7, .int .i64 j_9), (5, .pointer (some (⟨b_1, 0, .none⟩ : Addr))), (0, .int .i64 x0), (1, .int .i64 x1)]) S tys tys_ok 2 (by kernel_rfl) ?_
  clear S; intro a S
  obtain ⟨y_67, ey_67, h⟩ := bindS h
  refine w_go S rfl (op_indexAddr_arr S rfl ty22 rfl rfl rfl B_2.at_ rfl ey_67 ?_)
  clear S; intro a S
  refine w_go S rfl (op_load (t := (.int .i64)) (x := y_67) S rfl ty3 rfl rfl rfl (RepAt.ix B_2.at_ ey_67) ?_)
  clear S; intro a v_68 R_69 S
  obtain ⟨rfl, GR_69⟩ := RepV.int R_69
  refine wl_pure (l' := [(67, .int .i64 j_9), (66, .int .i64 y_67), (65, .pointer (some ((⟨b_1, 0, .none⟩ : Addr).add ((0 : Int).toNat * GT.sz (.int .i64))))), (64, .int .i64 x1), (63, .int .i64 x0), (10, .int .i64 s_33), (8, v_17), (7, .int .i64 j_9), (5, .pointer (some (⟨b_1, 0, .none⟩ : Addr))), (0, .int .i64 x0), (1, .int .i64 x1)]) S tys tys_ok 1 (by kernel_rfl) ?_
  clear S; intro a S
  obtain ⟨t_70, et_70, h⟩ := bindS h
  refine w_go S rfl (op_call (vs := [.int .i64 x0, .int .i64 x1, .int .i64 y_67, .int .i64 j_9]) S rfl cb15 rfl rfl rfl (c15 (Kx K w.heap.size [v_17.ownBlock, some b_1]) n w_66 x0 G0 x1 G1 y_67 GR_69 j_9 G_10 et_70) ?_)
  rintro _ w_74 ⟨v_71, rfl, R_72, hb_73⟩; refine ⟨_, rfl, ?_⟩
  have NO_ := newO_of R_72 (Nat.le_refl _) hb_73
  replace R_72 := Ow.backO R_72 W
  clear S; intro a S
  replace B_2 := B_2.newO NO_
  replace R_18 := R_18.newO NO_
  replace W := W.newO NO_
  clear NO_
  refine wl_pure (l' := [(12, v_71), (68, v_71), (67, .int .i64 j_9), (66, .int .i64 y_67), (65, .pointer (some ((⟨b_1, 0, .none⟩ : Addr).add ((0 : Int).toNat * GT.sz (.int .i64))))), (64, .int .i64 x1), (63, .int .i64 x0), (10, .int .i64 s_33), (8, v_17), (7, .int .i64 j_9), (5, .pointer (some (⟨b_1, 0, .none⟩ : Addr))), (0, .int .i64 x0), (1, .int .i64 x1)]) S tys tys_ok 1 (by kernel_rfl) ?_
  clear S; intro a S
  refine wpList_nil ?_
  refine then_n ?_
  replace S := S.sub (l' := [(12, v_71), (10, .int .i64 s_33), (8, v_17)]) (by exact ⟨rfl, rfl, rfl, trivial⟩)
  refine wp_seq ?_
  refine wp_seq ?_
  refine wp_region_lit ?_
  refine wl_pure (l' := [(69, v_17), (12, v_71), (10, .int .i64 s_33), (8, v_17)]) S tys tys_ok 1 (by kernel_rfl) ?_
  clear S; intro a S
  refine w_go S rfl (op_len (K := _) S rfl ty37 rfl rfl rfl R_18.read ?_)
  clear S; intro a G_75 S
  refine wl_pure (l' := [(73, .bool ((lenI (⟨t_16.xs, t_16.cap⟩ : Sl (Int))) != s_33)), (72, .bool ((lenI (⟨t_16.xs, t_16.cap⟩ : Sl (Int))) != s_33)), (71, .int .i64 s_33), (70, .int .i64 (lenI (⟨t_16.xs, t_16.cap⟩ : Sl (Int)))), (69, v_17), (12, v_71), (10, .int .i64 s_33), (8, v_17)]) S tys tys_ok 3 (by kernel_rfl) ?_
  clear S; intro a S
  obtain ⟨q_76, eq_76, h⟩ := bindS h
  refine seg 5 (fun a_ w_ => w_74 = w_ ∧ St 94 a_ [(78, .bool q_76), (12, v_71), (10, .int .i64 s_33), (8, v_17)]) ?_ ?_
  · by_cases hc : ((lenI (⟨t_16.xs, t_16.cap⟩ : Sl (Int))) != s_33) = false
    · rw [if_pos hc] at eq_76; rw [hc] at S
      refine wl_pure (l' := [(74, v_71), (73, .bool false), (72, .bool false), (71, .int .i64 s_33), (70, .int .i64 (lenI (⟨t_16.xs, t_16.cap⟩ : Sl (Int)))), (69, v_17), (12, v_71), (10, .int .i64 s_33), (8, v_17)]) S tys tys_ok 1 (by kernel_rfl) ?_
      clear S; intro a S
      refine w_go S rfl (op_len (K := _) S rfl ty37 rfl rfl rfl R_72.read ?_)
      clear S; intro a G_77 S
      refine wl_pure (l' := [(78, .bool ((lenI (⟨t_70.xs, t_70.cap⟩ : Sl (Int))) != s_33)), (77, .bool ((lenI (⟨t_70.xs, t_70.cap⟩ : Sl (Int))) != s_33)), (76, .int .i64 s_33), (75, .int .i64 (lenI (⟨t_70.xs, t_70.cap⟩ : Sl (Int)))), (74, v_71), (73, .bool false), (72, .bool false), (71, .int .i64 s_33), (70, .int .i64 (lenI (⟨t_16.xs, t_16.cap⟩ : Sl (Int)))), (69, v_17), (12, v_71), (10, .int .i64 s_33), (8, v_17)]) S tys tys_ok 3 (by kernel_rfl) ?_
      clear S; intro a S
      obtain rfl := Option.some.inj eq_76
      exact ⟨rfl, S.sub (by exact ⟨rfl, rfl, rfl, rfl, trivial⟩)⟩
    · rw [if_neg hc] at eq_76; rw [show ((lenI (⟨t_16.xs, t_16.cap⟩ : Sl (Int))) != s_33) = true from (by simpa using hc)] at S
      refine wl_pure (l' := [(78, .bool true), (77, undef), (76, undef), (75, undef), (74, undef), (73, .bool true), (72, .bool true), (71, .int .i64 s_33), (70, .int .i64 (lenI (⟨t_16.xs, t_16.cap⟩ : Sl (Int)))), (69, v_17), (12, v_71), (10, .int .i64 s_33), (8, v_17)]) S tys tys_ok 5 (by kernel_rfl) ?_
      clear S; intro a S
      obtain rfl := Option.some.inj eq_76
      exact ⟨rfl, S.sub (by exact ⟨rfl, rfl, rfl, rfl, trivial⟩)⟩
  clear S eq_76; rintro a _ ⟨rfl, S⟩
  refine wpList_nil ?_
  refine then_n ?_
  refine wp_cond_split (S.eval (show ev _ _ = some (.bool q_76) from rfl)) ?_ ?_
  · intro hc
    rw [if_pos hc] at h
    refine wp_seq ?_
    refine wp_region_lit ?_
    refine wl_pure (l' := [(6, .bool false), (78, .bool q_76), (12, v_71), (10, .int .i64 s_33), (8, v_17)]) S tys tys_ok 1 (by kernel_rfl) ?_
    clear S; intro a S
    refine wpList_nil ?_
    refine then_n ?_
    replace S := S.sub (l' := [(6, .bool false)]) (by exact ⟨rfl, trivial⟩)
    refine wp_ret ?_
    refine then_r ?_
    obtain rfl := Option.some.inj h
    exact b_ret1 S rfl rfl ⟨_, rfl, RepV.mkBool, W.below⟩
  · intro hc
    rw [if_neg (Bool.eq_false_iff.1 hc)] at h
    refine wp_skip ?_
    refine then_n ?_
    replace S := S.sub (l' := [(12, v_71), (10, .int .i64 s_33), (8, v_17)]) (by exact ⟨rfl, rfl, rfl, trivial⟩)
    refine wp_seq ?_
    refine wp_seq ?_
    refine wp_region_lit ?_
    refine wl_pure (l' := [(13, .int .i64 0), (12, v_71), (10, .int .i64 s_33), (8, v_17)]) S tys tys_ok 1 (by kernel_rfl) ?_
    clear S; intro a S
    refine wpList_nil ?_
    refine then_n ?_
    obtain ⟨y_82, ey_82, h⟩ := bindS h
    refine wp_cut_ (fun a_ w_ => ∃ s_83 : Unit, y_82 = .inl s_83 ∧ (St 94 a_ [] ∧ Wd w w_ [v_71.ownBlock, v_17.ownBlock, some b_1] ∧ Bx (.arr 2 (.int .i64)) 22 w_ (Kx K w.heap.size [v_71.ownBlock, v_17.ownBlock, some b_1]) b_1 x2)) ?_ ?_
    · refine wp_block ?_
      refine wp_loop_n (fun m_ a_ w_ => ∃ (c_78 : Int) , St 94 a_ [(13, .int .i64 c_78), (12, v_71), (10, .int .i64 s_33), (8, v_17)] ∧ Wd w w_ [v_71.ownBlock, v_17.ownBlock, some b_1] ∧ InR .i64 c_78 ∧ Bx (.arr 2 (.int .i64)) 22 w_ (Kx K w.heap.size [v_71.ownBlock, v_17.ownBlock, some b_1]) b_1 x2 ∧ Ow (.int .i64) 3 w_ w.heap.size (Kx K w.heap.size [v_71.ownBlock, v_17.ownBlock, some b_1]) v_71 t_70.xs t_70.cap ∧ Ow (.int .i64) 3 w_ w.heap.size (Kx K w.heap.size [v_71.ownBlock, v_17.ownBlock, some b_1]) v_17 t_16.xs t_16.cap ∧ p6_l2 n t_16 s_33 t_70 m_ c_78 = some y_82) n ?_ ?_
      · skip
        exact ⟨0, ⟨S.sub (by exact ⟨rfl, rfl, rfl, rfl, trivial⟩), W, (by decide), B_2, R_72, R_18, ey_82⟩⟩
      · clear S W; rintro m_84 a w_86 ⟨c_78, S, W, G_79, B_2, R_72, R_18, hl_85⟩
        cases m_84 with
        | zero => exact absurd hl_85 (by simp [p6_l2])
        | succ m_84 =>
          refine ⟨m_84, rfl, ?_⟩
          rw [p6_l2] at hl_85
          refine wp_seq ?_
          refine wp_seq ?_
          refine wp_region_lit ?_
          refine wl_pure (l' := [(81, .bool (decide (c_78 < s_33))), (80, .int .i64 s_33), (79, .int .i64 c_78), (13, .int .i64 c_78), (12, v_71), (10, .int .i64 s_33), (8, v_17)]) S tys tys_ok 3 (by kernel_rfl) ?_
          clear S; intro a S
          refine wpList_nil ?_
          refine then_n ?_
          replace S := S.sub (l' := [(81, .bool (decide (c_78 < s_33))), (13, .int .i64 c_78), (12, v_71), (10, .int .i64 s_33), (8, v_17)]) (by exact ⟨rfl, rfl, rfl, rfl, rfl, trivial⟩)
          refine wp_cond_split (S.eval (show ev _ _ = some (.bool (decide (c_78 < s_33))) from rfl)) ?_ ?_
          · intro hc
            rw [if_pos hc] at hl_85
            refine wp_skip ?_
            refine then_n ?_
            replace S := S.sub (l' := [(13, .int .i64 c_78), (12, v_71), (10, .int .i64 s_33), (8, v_17)]) (by exact ⟨rfl, rfl, rfl, rfl, trivial⟩)
            refine wp_seq ?_
            refine wp_block ?_
            refine wp_seq ?_
            obtain ⟨y_87, ey_87, hl_85⟩ := bindS hl_85
            obtain ⟨y_93, ey_93, hl_85⟩ := bindS hl_85
            have hR : Rel (Kx K w.heap.size [v_71.ownBlock, v_17.ownBlock, some b_1]) Bl := Bl.rel _
            refine wp_region_all hR [eqv (v_71), isI .i64 c_78, isEo (.int .i64) (Kx K w.heap.size [v_71.ownBlock, v_17.ownBlock, some b_1]) y_87, isI .i64 y_87, eqv (v_17), isI .i64 c_78, isEo (.int .i64) (Kx K w.heap.size [v_71.ownBlock, v_17.ownBlock, some b_1]) y_93, isI .i64 y_93, eqv (.bool (y_87 != y_93))] [[], [], [(0, 84), (1, 85)], [(2, 86)], [], [], [(4, 88), (5, 89)], [(6, 90)], [(3, 87), (7, 91)]] (by kernel_rfl) (by rw [S.size]; kernel_rfl) (by kernel_rfl) (by kernel_rfl) rfl ⟨(stab_eqv _), stab_I, stab_eo, stab_I, (stab_eqv _), stab_I, stab_eo, stab_I, (stab_eqv _), trivial⟩ ?_ ?_
            ·
              refine RunAll.cons (eqv (v_71)) [] rfl rfl ?_ ?_
              · intro W_ hW
                have S1 := S
                refine fill_nil S1 ?_; clear S1; intro a_ S1
                replace R_72 := R_72.step hW
                have S0 := S.defers; replace S := S1; clear S1
                refine wl_pure (l' := [(84, v_71), (13, .int .i64 c_78), (12, v_71), (10, .int .i64 s_33), (8, v_17)]) S tys tys_ok 1 (by kernel_rfl) ?_; clear S; intro a S
                refine wpList_nil ?_
                exact RPost.mk_ S rfl S0 rfl (Below.refl _ _)
              refine RunAll.cons (isI .i64 c_78) [] rfl rfl ?_ ?_
              · intro W_ hW
                have S1 := S
                refine fill_nil S1 ?_; clear S1; intro a_ S1
                have S0 := S.defers; replace S := S1; clear S1
                refine wl_pure (l' := [(85, .int .i64 c_78), (13, .int .i64 c_78), (12, v_71), (10, .int .i64 s_33), (8, v_17)]) S tys tys_ok 1 (by kernel_rfl) ?_; clear S; intro a S
                refine wpList_nil ?_
                exact RPost.mk_ S rfl S0 ⟨rfl, G_79⟩ (Below.refl _ _)
              refine RunAll.cons (isEo (.int .i64) (Kx K w.heap.size [v_71.ownBlock, v_17.ownBlock, some b_1]) y_87) [(eqv (v_71), 84), (isI .i64 c_78, 85)] rfl rfl ?_ ?_
              · intro W_ hW
                have S1 := S
                intro v_100 hF_99; obtain rfl : v_71 = v_100 := Eq.symm hF_99
                replace S1 := S1.put (by decide : 84 < 94) (v_71)
                rintro _ ⟨rfl, hF_101⟩
                replace S1 := S1.put (by decide : 85 < 94) (.int .i64 c_78)
                refine fill_nil S1 ?_; clear S1; intro a_ S1
                replace R_72 := R_72.step hW
                replace W := W.step hW
                have S0 := S.defers; replace S := S1; clear S1
                refine w_go S rfl (op_indexAddr_own S rfl ty37 rfl rfl rfl R_72 rfl ey_87 ?_)
                clear S; intro a g_103 H_105 R_104 S
                refine wpList_nil ?_
                exact RPost.mk_ S rfl S0 ⟨_, rfl, R_104, W.ownlt (o := v_71.ownBlock) (List.mem_of_getElem? (i := 0) rfl) H_105⟩ (Below.refl _ _)
              refine RunAll.cons (isI .i64 y_87) [(isEo (.int .i64) (Kx K w.heap.size [v_71.ownBlock, v_17.ownBlock, some b_1]) y_87, 86)] rfl rfl ?_ ?_
              · intro W_ hW
                have S1 := S
                rintro _ ⟨p_108, rfl, R_109, H_110⟩
                replace S1 := S1.put (by decide : 86 < 94) (.pointer (some p_108))
                refine fill_nil S1 ?_; clear S1; intro a_ S1
                have S0 := S.defers; replace S := S1; clear S1
                refine w_go S rfl (op_load (t := (.int .i64)) (x := y_87) S rfl ty3 rfl rfl rfl R_109 ?_)
                clear S; intro a v_111 R_112 S
                obtain ⟨rfl, GR_112⟩ := RepV.int R_112
                refine wpList_nil ?_
                exact RPost.mk_ S rfl S0 ⟨rfl, GR_112⟩ (Below.refl _ _)
              refine RunAll.cons (eqv (v_17)) [] rfl rfl ?_ ?_
              · intro W_ hW
                have S1 := S
                refine fill_nil S1 ?_; clear S1; intro a_ S1
                replace R_18 := R_18.step hW
                have S0 := S.defers; replace S := S1; clear S1
                refine wl_pure (l' := [(88, v_17), (13, .int .i64 c_78), (12, v_71), (10, .int .i64 s_33), (8, v_17)]) S tys tys_ok 1 (by kernel_rfl) ?_; clear S; intro a S
                refine wpList_nil ?_
                exact RPost.mk_ S rfl S0 rfl (Below.refl _ _)
              refine RunAll.cons (isI .i64 c_78) [] rfl rfl ?_ ?_
              · intro W_ hW
                have S1 := S
                refine fill_nil S1 ?_; clear S1; intro a_ S1
                have S0 := S.defers; replace S := S1; clear S1
                refine wl_pure (l' := [(89, .int .i64 c_78), (13, .int .i64 c_78), (12, v_71), (10, .int .i64 s_33), (8, v_17)]) S tys tys_ok 1 (by kernel_rfl) ?_; clear S; intro a S
                refine wpList_nil ?_
                exact RPost.mk_ S rfl S0 ⟨rfl, G_79⟩ (Below.refl _ _)
              refine RunAll.cons (isEo (.int .i64) (Kx K w.heap.size [v_71.ownBlock, v_17.ownBlock, some b_1]) y_93) [(eqv (v_17), 88), (isI .i64 c_78, 89)] rfl rfl ?_ ?_
              · intro W_ hW
                have S1 := S
                intro v_114 hF_113; obtain rfl : v_17 = v_114 := Eq.symm hF_113
                replace S1 := S1.put (by decide : 88 < 94) (v_17)
                rintro _ ⟨rfl, hF_115⟩
                replace S1 := S1.put (by decide : 89 < 94) (.int .i64 c_78)
                refine fill_nil S1 ?_; clear S1; intro a_ S1
                replace R_18 := R_18.step hW
                replace W := W.step hW
                have S0 := S.defers; replace S := S1; clear S1
                refine w_go S rfl (op_indexAddr_own S rfl ty37 rfl rfl rfl R_18 rfl ey_93 ?_)
                clear S; intro a g_117 H_119 R_118 S
                refine wpList_nil ?_
                exact RPost.mk_ S rfl S0 ⟨_, rfl, R_118, W.ownlt (o := v_17.ownBlock) (List.mem_of_getElem? (i := 1) rfl) H_119⟩ (Below.refl _ _)
              refine RunAll.cons (isI .i64 y_93) [(isEo (.int .i64) (Kx K w.heap.size [v_71.ownBlock, v_17.ownBlock, some b_1]) y_93, 90)] rfl rfl ?_ ?_
              · intro W_ hW
                have S1 := S
                rintro _ ⟨p_122, rfl, R_123, H_124⟩
                replace S1 := S1.put (by decide : 90 < 94) (.pointer (some p_122))
                refine fill_nil S1 ?_; clear S1; intro a_ S1
                have S0 := S.defers; replace S := S1; clear S1
                refine w_go S rfl (op_load (t := (.int .i64)) (x := y_93) S rfl ty3 rfl rfl rfl R_123 ?_)
                clear S; intro a v_125 R_126 S
                obtain ⟨rfl, GR_126⟩ := RepV.int R_126
                refine wpList_nil ?_
                exact RPost.mk_ S rfl S0 ⟨rfl, GR_126⟩ (Below.refl _ _)
              refine RunAll.cons (eqv (.bool (y_87 != y_93))) [(isI .i64 y_87, 87), (isI .i64 y_93, 91)] rfl rfl ?_ ?_
              · intro W_ hW
                have S1 := S
                rintro _ ⟨rfl, hF_127⟩
                replace S1 := S1.put (by decide : 87 < 94) (.int .i64 y_87)
                rintro _ ⟨rfl, hF_129⟩
                replace S1 := S1.put (by decide : 91 < 94) (.int .i64 y_93)
                refine fill_nil S1 ?_; clear S1; intro a_ S1
                have S0 := S.defers; replace S := S1; clear S1
                refine wl_pure (l' := [(92, .bool (y_87 != y_93)), (91, .int .i64 y_93), (87, .int .i64 y_87), (13, .int .i64 c_78), (12, v_71), (10, .int .i64 s_33), (8, v_17)]) S tys tys_ok 1 (by kernel_rfl) ?_; clear S; intro a S
                refine wpList_nil ?_
                exact RPost.mk_ S rfl S0 rfl (Below.refl _ _)
              exact trivial
            intro w_131 hb_132
            refine EndE.some_ rfl ?_
            intro v_134 hF_133; obtain rfl : v_71 = v_134 := Eq.symm hF_133
            replace S := S.put (by decide : 84 < 94) (v_71)
            refine EndE.some_ rfl ?_
            rintro _ ⟨rfl, hF_135⟩
            replace S := S.put (by decide : 85 < 94) (.int .i64 c_78)
            refine EndE.some_ rfl ?_
            rintro _ ⟨p_139, rfl, R_140, H_141⟩
            replace S := S.put (by decide : 86 < 94) (.pointer (some p_139))
            refine EndE.some_ rfl ?_
            rintro _ ⟨rfl, hF_142⟩
            replace S := S.put (by decide : 87 < 94) (.int .i64 y_87)
            refine EndE.some_ rfl ?_
            intro v_145 hF_144; obtain rfl : v_17 = v_145 := Eq.symm hF_144
            replace S := S.put (by decide : 88 < 94) (v_17)
            refine EndE.some_ rfl ?_
            rintro _ ⟨rfl, hF_146⟩
            replace S := S.put (by decide : 89 < 94) (.int .i64 c_78)
            refine EndE.some_ rfl ?_
            rintro _ ⟨p_150, rfl, R_151, H_152⟩
            replace S := S.put (by decide : 90 < 94) (.pointer (some p_150))
            refine EndE.some_ rfl ?_
            rintro _ ⟨rfl, hF_153⟩
            replace S := S.put (by decide : 91 < 94) (.int .i64 y_93)
            refine EndE.some_ rfl ?_
            intro v_156 hF_155; obtain rfl : .bool (y_87 != y_93) = v_156 := Eq.symm hF_155
            replace S := S.put (by decide : 92 < 94) (.bool (y_87 != y_93))
            refine endE_nil S ?_; clear S; intro a S
            replace B_2 := B_2.step hb_132
            replace R_72 := R_72.step hb_132
            replace R_18 := R_18.step hb_132
            replace W := W.step hb_132
            refine then_n ?_
            replace S := S.sub (l' := [(92, .bool (y_87 != y_93)), (13, .int .i64 c_78), (12, v_71), (10, .int .i64 s_33), (8, v_17)]) (by exact ⟨rfl, rfl, rfl, rfl, rfl, trivial⟩)
            refine wp_cond_split (S.eval (show ev _ _ = some (.bool (y_87 != y_93)) from rfl)) ?_ ?_
            · intro hc
              rw [if_pos hc] at hl_85
              refine wp_seq ?_
              refine wp_region_lit ?_
              refine wl_pure (l' := [(6, .bool false), (92, .bool (y_87 != y_93)), (13, .int .i64 c_78), (12, v_71), (10, .int .i64 s_33), (8, v_17)]) S tys tys_ok 1 (by kernel_rfl) ?_
              clear S; intro a S
              refine wpList_nil ?_
              refine then_n ?_
              replace S := S.sub (l' := [(6, .bool false)]) (by exact ⟨rfl, trivial⟩)
              refine wp_ret ?_
              refine blk_r ?_
              refine then_r ?_
              refine then_r ?_
              refine blk_r ?_
              refine then_r ?_
              refine then_r ?_
              obtain rfl := Option.some.inj hl_85
              obtain rfl := lr_inr h
              exact b_ret1 S rfl rfl ⟨_, rfl, RepV.mkBool, W.below⟩
            · intro hc
              rw [if_neg (Bool.eq_false_iff.1 hc)] at hl_85
              refine wp_skip ?_
              refine blk_n ?_
              refine then_n ?_
              replace S := S.sub (l' := [(13, .int .i64 c_78), (12, v_71), (10, .int .i64 s_33), (8, v_17)]) (by exact ⟨rfl, rfl, rfl, rfl, trivial⟩)
              refine wp_region_lit ?_
              refine wl_pure (l' := [(82, .int .i64 c_78), (13, .int .i64 c_78), (12, v_71), (10, .int .i64 s_33), (8, v_17)]) S tys tys_ok 1 (by kernel_rfl) ?_
              clear S; intro a S
              obtain ⟨x_157, ex_157, hl_85⟩ := bindS hl_85
              refine w_go S rfl (op_arith S .i64 (c_78 + 1) rfl (.inl rfl) rfl rfl rfl rfl ex_157 ?_)
              clear S; intro a S
              refine wl_pure (l' := [(13, .int .i64 x_157), (83, .int .i64 x_157), (82, .int .i64 c_78), (13, .int .i64 c_78), (12, v_71), (10, .int .i64 s_33), (8, v_17)]) S tys tys_ok 1 (by kernel_rfl) ?_
              clear S; intro a S
              refine wpList_nil ?_
              refine then_n ?_
              exact ⟨x_157, ⟨S.sub (by exact ⟨rfl, rfl, rfl, rfl, trivial⟩), W, (ckI_some ex_157).2.1, B_2, R_72, R_18, hl_85⟩⟩
          · intro hc
            rw [if_neg (Bool.eq_false_iff.1 hc)] at hl_85
            refine wp_exit ?_
            refine then_x ?_
            refine then_x ?_
            refine blk_hit ?_
            refine then_n ?_
            obtain rfl := Option.some.inj hl_85
            exact ⟨_, rfl, ⟨S.sub trivial, W, B_2⟩⟩
    clear S W; rintro a w_158 ⟨s_83, rfl, S, W, B_2⟩
    replace h := lr_inl h; try dsimp only at h
    refine then_n ?_
    refine wp_seq ?_
    refine wp_region_lit ?_
    obtain ⟨t_159, et_159, h⟩ := bindS h
    refine w_go S rfl (op_call (vs := []) S rfl cb10 rfl rfl rfl (c10 (Kx K w.heap.size [v_71.ownBlock, v_17.ownBlock, some b_1]) n w_158  et_159) ?_)
    rintro _ w_163 ⟨v_160, rfl, R_161, hb_162⟩; refine ⟨_, rfl, ?_⟩
    replace R_161 := RepV.back R_161 W
    clear S; intro a S
    replace B_2 := B_2.step hb_162
    replace W := W.step hb_162
    obtain rfl := RepV.bool R_161
    refine wl_pure (l' := [(6, .bool t_159), (93, .bool t_159)]) S tys tys_ok 1 (by kernel_rfl) ?_
    clear S; intro a S
    refine wpList_nil ?_
    refine then_n ?_
    replace S := S.sub (l' := [(6, .bool t_159)]) (by exact ⟨rfl, trivial⟩)
    refine wp_ret ?_
    obtain rfl := Option.some.inj h
    exact b_ret1 S rfl rfl ⟨_, rfl, RepV.mkBool, W.below⟩
def p16_l1 (n : Nat) (x0 : Bool × Int × Int × (Sl (Sl (Int))) × Int) : Nat → (Int) → Option ((Unit) ⊕ ((Bool)))
  | 0, _ => .none
  | m + 1, c_8 => if (decide (c_8 < (lenI x0.2.2.2.1))) then ((idx x0.2.2.2.1.xs c_8).bind fun y_22 => if (decide ((lenI y_22) > 100)) then (some (.inr false)) else (ckI .i64 (c_8 + 1)).bind fun x_29 => p16_l1 n x0 m x_29) else some (.inl ())
def p16 (n : Nat) (x0 : Bool × Int × Int × (Sl (Sl (Int))) × Int) : Option ((Bool)) :=
  if (decide ((lenI x0.2.2.2.1) > 300)) then (some false) else (p16_l1 n x0 n 0).bind fun (y_12 : (Unit) ⊕ ((Bool))) => lrK y_12 some fun (s_13 : Unit) => some true
set_option maxHeartbeats 4000000 in
set_option maxRecDepth 100000 in
/-- plugboard/plugboardlaw10.small -/
theorem c16 (K : Nat → Prop) (n : Nat) (w : World) (x0 : Bool × Int × Int × (Sl (Sl (Int))) × Int) (v0 : Value) (R0 : RepV (.st (.pair .bool (.pair (.int .u8) (.pair (.int .i64) (.pair (.sl (.sl (.int .u8))) (.int .i64)))))) w K v0 x0) {r : (Bool)} (h : p16 n x0 = some r) :
    Calls Try.prog 16 #[v0] w (Ret1 .bool w (Kx K w.heap.size []) r) := by
  refine enter (args := [v0]) Try.func16 rfl 22 rfl rfl fun a S => ?_
  have W := Wd.start w
  replace R0 := R0.arg
  unfold p16 at h
  replace S : St 22 a [(0, v0)] := S
  refine wp_seq ?_
  refine wp_region_lit ?_
  refine w_go S rfl (op_box S rfl rfl rfl rfl rfl R0 ?_)
  clear S; intro a w_3 b_1 hb_4 B_2 S
  replace R0 := R0.box hb_4
  replace W := W.box hb_4
  refine wl_pure (l' := [(2, .bool false), (1, .pointer (some (⟨b_1, 0, .none⟩ : Addr))), (0, v0)]) S tys tys_ok 1 (by kernel_rfl) ?_
  clear S; intro a S
  refine wpList_nil ?_
  refine then_n ?_
  replace S := S.sub (l' := [(1, .pointer (some (⟨b_1, 0, .none⟩ : Addr)))]) (by exact ⟨rfl, trivial⟩)
  refine wp_seq ?_
  refine wp_seq ?_
  refine wp_region_lit ?_
  refine wl_pure (l' := [(4, .pointer (some ((⟨b_1, 0, .none⟩ : Addr).add (coff (.pair .bool (.pair (.int .u8) (.pair (.int .i64) (.pair (.sl (.sl (.int .u8))) (.int .i64))))) 3)))), (1, .pointer (some (⟨b_1, 0, .none⟩ : Addr)))]) S tys tys_ok 1 (by kernel_rfl) ?_
  clear S; intro a S
  refine w_go S rfl (op_load (t := (.sl (.sl (.int .u8)))) (x := x0.2.2.2.1) S rfl ty40 rfl rfl rfl (RepAt.add 3 (RepAt.st (t := (.pair .bool (.pair (.int .u8) (.pair (.int .i64) (.pair (.sl (.sl (.int .u8))) (.int .i64)))))) B_2.at_)) ?_)
  clear S; intro a v_5 R_6 S
  refine w_go S rfl (op_len (K := _) S rfl ty40 rfl rfl rfl R_6 ?_)
  clear S; intro a G_7 S
  refine wl_pure (l' := [(7, .bool (decide ((lenI x0.2.2.2.1) > 300))), (6, .int .i64 (lenI x0.2.2.2.1)), (5, v_5), (4, .pointer (some ((⟨b_1, 0, .none⟩ : Addr).add (coff (.pair .bool (.pair (.int .u8) (.pair (.int .i64) (.pair (.sl (.sl (.int .u8))) (.int .i64))))) 3)))), (1, .pointer (some (⟨b_1, 0, .none⟩ : Addr)))]) S tys tys_ok 1 (by kernel_rfl) ?_
  clear S; intro a S
  refine wpList_nil ?_
  refine then_n ?_
  replace S := S.sub (l' := [(7, .bool (decide ((lenI x0.2.2.2.1) > 300))), (1, .pointer (some (⟨b_1, 0, .none⟩ : Addr)))]) (by exact ⟨rfl, rfl, trivial⟩)
  refine wp_cond_split (S.eval (show ev _ _ = some (.bool (decide ((lenI x0.2.2.2.1) > 300))) from rfl)) ?_ ?_
  · intro hc
    rw [if_pos hc] at h
    refine wp_seq ?_
    refine wp_region_lit ?_
    refine wl_pure (l' := [(2, .bool false), (7, .bool (decide ((lenI x0.2.2.2.1) > 300))), (1, .pointer (some (⟨b_1, 0, .none⟩ : Addr)))]) S tys tys_ok 1 (by kernel_rfl) ?_
    clear S; intro a S
    refine wpList_nil ?_
    refine then_n ?_
    replace S := S.sub (l' := [(2, .bool false)]) (by exact ⟨rfl, trivial⟩)
    refine wp_ret ?_
    refine then_r ?_
    obtain rfl := Option.some.inj h
    exact b_ret1 S rfl rfl ⟨_, rfl, RepV.mkBool, W.below⟩
  · intro hc
    rw [if_neg (Bool.eq_false_iff.1 hc)] at h
    refine wp_skip ?_
    refine then_n ?_
    replace S := S.sub (l' := [(1, .pointer (some (⟨b_1, 0, .none⟩ : Addr)))]) (by exact ⟨rfl, trivial⟩)
    refine wp_seq ?_
    refine wp_seq ?_
    refine wp_region_lit ?_
    refine wl_pure (l' := [(3, .int .i64 0), (1, .pointer (some (⟨b_1, 0, .none⟩ : Addr)))]) S tys tys_ok 1 (by kernel_rfl) ?_
    clear S; intro a S
    refine wpList_nil ?_
    refine then_n ?_
    obtain ⟨y_12, ey_12, h⟩ := bindS h
    refine wp_cut_ (fun a_ w_ => ∃ s_13 : Unit, y_12 = .inl s_13 ∧ (St 22 a_ [] ∧ Wd w w_ [some b_1] ∧ Bx (.st (.pair .bool (.pair (.int .u8) (.pair (.int .i64) (.pair (.sl (.sl (.int .u8))) (.int .i64)))))) 42 w_ (Kx K w.heap.size [some b_1]) b_1 x0)) ?_ ?_
    · refine wp_block ?_
      refine wp_loop_n (fun m_ a_ w_ => ∃ (c_8 : Int) , St 22 a_ [(3, .int .i64 c_8), (1, .pointer (some (⟨b_1, 0, .none⟩ : Addr)))] ∧ Wd w w_ [some b_1] ∧ InR .i64 c_8 ∧ Bx (.st (.pair .bool (.pair (.int .u8) (.pair (.int .i64) (.pair (.sl (.sl (.int .u8))) (.int .i64)))))) 42 w_ (Kx K w.heap.size [some b_1]) b_1 x0 ∧ p16_l1 n x0 m_ c_8 = some y_12) n ?_ ?_
      · skip
        exact ⟨0, ⟨S.sub (by exact ⟨rfl, rfl, trivial⟩), W, (by decide), B_2, ey_12⟩⟩
      · clear S W; rintro m_14 a w_16 ⟨c_8, S, W, G_9, B_2, hl_15⟩
        cases m_14 with
        | zero => exact absurd hl_15 (by simp [p16_l1])
        | succ m_14 =>
          refine ⟨m_14, rfl, ?_⟩
          rw [p16_l1] at hl_15
          refine wp_seq ?_
          refine wp_seq ?_
          refine wp_region_lit ?_
          refine wl_pure (l' := [(9, .pointer (some ((⟨b_1, 0, .none⟩ : Addr).add (coff (.pair .bool (.pair (.int .u8) (.pair (.int .i64) (.pair (.sl (.sl (.int .u8))) (.int .i64))))) 3)))), (8, .int .i64 c_8), (3, .int .i64 c_8), (1, .pointer (some (⟨b_1, 0, .none⟩ : Addr)))]) S tys tys_ok 2 (by kernel_rfl) ?_
          clear S; intro a S
          refine w_go S rfl (op_load (t := (.sl (.sl (.int .u8)))) (x := x0.2.2.2.1) S rfl ty40 rfl rfl rfl (RepAt.add 3 (RepAt.st (t := (.pair .bool (.pair (.int .u8) (.pair (.int .i64) (.pair (.sl (.sl (.int .u8))) (.int .i64)))))) B_2.at_)) ?_)
          clear S; intro a v_17 R_18 S
          refine w_go S rfl (op_len (K := _) S rfl ty40 rfl rfl rfl R_18 ?_)
          clear S; intro a G_19 S
          refine wl_pure (l' := [(12, .bool (decide (c_8 < (lenI x0.2.2.2.1)))), (11, .int .i64 (lenI x0.2.2.2.1)), (10, v_17), (9, .pointer (some ((⟨b_1, 0, .none⟩ : Addr).add (coff (.pair .bool (.pair (.int .u8) (.pair (.int .i64) (.pair (.sl (.sl (.int .u8))) (.int .i64))))) 3)))), (8, .int .i64 c_8), (3, .int .i64 c_8), (1, .pointer (some (⟨b_1, 0, .none⟩ : Addr)))]) S tys tys_ok 1 (by kernel_rfl) ?_
          clear S; intro a S
          refine wpList_nil ?_
          refine then_n ?_
          replace S := S.sub (l' := [(12, .bool (decide (c_8 < (lenI x0.2.2.2.1)))), (3, .int .i64 c_8), (1, .pointer (some (⟨b_1, 0, .none⟩ : Addr)))]) (by exact ⟨rfl, rfl, rfl, trivial⟩)
          refine wp_cond_split (S.eval (show ev _ _ = some (.bool (decide (c_8 < (lenI x0.2.2.2.1)))) from rfl)) ?_ ?_
          · intro hc
            rw [if_pos hc] at hl_15
            refine wp_skip ?_
            refine then_n ?_
            replace S := S.sub (l' := [(3, .int .i64 c_8), (1, .pointer (some (⟨b_1, 0, .none⟩ : Addr)))]) (by exact ⟨rfl, rfl, trivial⟩)
            refine wp_seq ?_
            refine wp_block ?_
            refine wp_seq ?_
            refine wp_region_lit ?_
            refine wl_pure (l' := [(15, .pointer (some ((⟨b_1, 0, .none⟩ : Addr).add (coff (.pair .bool (.pair (.int .u8) (.pair (.int .i64) (.pair (.sl (.sl (.int .u8))) (.int .i64))))) 3)))), (3, .int .i64 c_8), (1, .pointer (some (⟨b_1, 0, .none⟩ : Addr)))]) S tys tys_ok 1 (by kernel_rfl) ?_
            clear S; intro a S
            refine w_go S rfl (op_load (t := (.sl (.sl (.int .u8)))) (x := x0.2.2.2.1) S rfl ty40 rfl rfl rfl (RepAt.add 3 (RepAt.st (t := (.pair .bool (.pair (.int .u8) (.pair (.int .i64) (.pair (.sl (.sl (.int .u8))) (.int .i64)))))) B_2.at_)) ?_)
            clear S; intro a v_20 R_21 S
            refine wl_pure (l' := [(17, .int .i64 c_8), (16, v_20), (15, .pointer (some ((⟨b_1, 0, .none⟩ : Addr).add (coff (.pair .bool (.pair (.int .u8) (.pair (.int .i64) (.pair (.sl (.sl (.int .u8))) (.int .i64))))) 3)))), (3, .int .i64 c_8), (1, .pointer (some (⟨b_1, 0, .none⟩ : Addr)))]) S tys tys_ok 1 (by kernel_rfl) ?_
            clear S; intro a S
            obtain ⟨y_22, ey_22, hl_15⟩ := bindS hl_15
            refine w_go S rfl (op_indexAddr S rfl ty40 rfl rfl rfl R_21 rfl ey_22 ?_)
            clear S; intro a p_23 R_24 H_25 S
            refine w_go S rfl (op_load (t := (.sl (.int .u8))) (x := y_22) S rfl ty51 rfl rfl rfl R_24 ?_)
            clear S; intro a v_26 R_27 S
            refine w_go S rfl (op_len (K := _) S rfl ty51 rfl rfl rfl R_27 ?_)
            clear S; intro a G_28 S
            refine wl_pure (l' := [(21, .bool (decide ((lenI y_22) > 100))), (20, .int .i64 (lenI y_22)), (19, v_26), (18, .pointer (some p_23)), (17, .int .i64 c_8), (16, v_20), (15, .pointer (some ((⟨b_1, 0, .none⟩ : Addr).add (coff (.pair .bool (.pair (.int .u8) (.pair (.int .i64) (.pair (.sl (.sl (.int .u8))) (.int .i64))))) 3)))), (3, .int .i64 c_8), (1, .pointer (some (⟨b_1, 0, .none⟩ : Addr)))]) S tys tys_ok 1 (by kernel_rfl) ?_
            clear S; intro a S
            refine wpList_nil ?_
            refine then_n ?_
            replace S := S.sub (l' := [(21, .bool (decide ((lenI y_22) > 100))), (3, .int .i64 c_8), (1, .pointer (some (⟨b_1, 0, .none⟩ : Addr)))]) (by exact ⟨rfl, rfl, rfl, trivial⟩)
            refine wp_cond_split (S.eval (show ev _ _ = some (.bool (decide ((lenI y_22) > 100))) from rfl)) ?_ ?_
            · intro hc
              rw [if_pos hc] at hl_15
              refine wp_seq ?_
              refine wp_region_lit ?_
              refine wl_pure (l' := [(2, .bool false), (21, .bool (decide ((lenI y_22) > 100))), (3, .int .i64 c_8), (1, .pointer (some (⟨b_1, 0, .none⟩ : Addr)))]) S tys tys_ok 1 (by kernel_rfl) ?_
              clear S; intro a S
              refine wpList_nil ?_
              refine then_n ?_
              replace S := S.sub (l' := [(2, .bool false)]) (by exact ⟨rfl, trivial⟩)
              refine wp_ret ?_
              refine blk_r ?_
              refine then_r ?_
              refine then_r ?_
              refine blk_r ?_
              refine then_r ?_
              refine then_r ?_
              obtain rfl := Option.some.inj hl_15
              obtain rfl := lr_inr h
              exact b_ret1 S rfl rfl ⟨_, rfl, RepV.mkBool, W.below⟩
            · intro hc
              rw [if_neg (Bool.eq_false_iff.1 hc)] at hl_15
              refine wp_skip ?_
              refine blk_n ?_
              refine then_n ?_
              replace S := S.sub (l' := [(3, .int .i64 c_8), (1, .pointer (some (⟨b_1, 0, .none⟩ : Addr)))]) (by exact ⟨rfl, rfl, trivial⟩)
              refine wp_region_lit ?_
              refine wl_pure (l' := [(13, .int .i64 c_8), (3, .int .i64 c_8), (1, .pointer (some (⟨b_1, 0, .none⟩ : Addr)))]) S tys tys_ok 1 (by kernel_rfl) ?_
              clear S; intro a S
              obtain ⟨x_29, ex_29, hl_15⟩ := bindS hl_15
              refine w_go S rfl (op_arith S .i64 (c_8 + 1) rfl (.inl rfl) rfl rfl rfl rfl ex_29 ?_)
              clear S; intro a S
              refine wl_pure (l' := [(3, .int .i64 x_29), (14, .int .i64 x_29), (13, .int .i64 c_8), (3, .int .i64 c_8), (1, .pointer (some (⟨b_1, 0, .none⟩ : Addr)))]) S tys tys_ok 1 (by kernel_rfl) ?_
              clear S; intro a S
              refine wpList_nil ?_
              refine then_n ?_
              exact ⟨x_29, ⟨S.sub (by exact ⟨rfl, rfl, trivial⟩), W, (ckI_some ex_29).2.1, B_2, hl_15⟩⟩
          · intro hc
            rw [if_neg (Bool.eq_false_iff.1 hc)] at hl_15
            refine wp_exit ?_
            refine then_x ?_
            refine then_x ?_
            refine blk_hit ?_
            refine then_n ?_
            obtain rfl := Option.some.inj hl_15
            exact ⟨_, rfl, ⟨S.sub trivial, W, B_2⟩⟩
    clear S W; rintro a w_30 ⟨s_13, rfl, S, W, B_2⟩
    replace h := lr_inl h; try dsimp only at h
    refine then_n ?_
    refine wp_seq ?_
    refine wp_region_lit ?_
    refine wl_pure (l' := [(2, .bool true)]) S tys tys_ok 1 (by kernel_rfl) ?_
    clear S; intro a S
    refine wpList_nil ?_
    refine then_n ?_
    refine wp_ret ?_
    obtain rfl := Option.some.inj h
    exact b_ret1 S rfl rfl ⟨_, rfl, RepV.mkBool, W.below⟩
theorem cb16 : callB Try.prog 16 = true := by kernel_rfl
def p17_l1 (n : Nat) (x0 : Bool × Int × Int × (Sl (Sl (Int))) × Int) : Nat → (Int) → Option ((Unit) ⊕ ((Int)))
  | 0, _ => .none
  | m + 1, c_41 => if (decide (c_41 < (lenI x0.2.2.2.1))) then ((idx x0.2.2.2.1.xs c_41).bind fun y_55 => if (decide ((lenI y_55) > x0.2.2.1)) then (some (.inr 3)) else (ckI .i64 (c_41 + 1)).bind fun x_116 => p17_l1 n x0 m x_116) else some (.inl ())
def p17 (n : Nat) (x0 : Bool × Int × Int × (Sl (Sl (Int))) × Int) : Option ((Int)) :=
  (if (x0.2.1 == 0) = false then some (decide (x0.2.1 > 15)) else some true).bind fun q_7 =>
  (if q_7 = false then some (decide (x0.2.2.1 < 1)) else some true).bind fun q_10 =>
  (if q_10 = false then some (decide (x0.2.2.1 > 1024)) else some true).bind fun q_13 =>
  if q_13 then (some 1) else (if x0.1 = true then (if ((lenI x0.2.2.2.1) != 0) = false then some (decide (x0.2.2.2.2 < 1)) else some true).bind fun q_22 => some q_22 else some false).bind fun q_18 => (if q_18 = false then (if (!x0.1) = true then (if ((lenI x0.2.2.2.1) == 0) = false then some (x0.2.2.2.2 != 0) else some true).bind fun q_32 => some q_32 else some false).bind fun q_28 => some q_28 else some true).bind fun q_25 => if q_25 then (some 1) else (if (decide (x0.2.2.2.2 > 256)) = false then some (decide ((lenI x0.2.2.2.1) > 256)) else some true).bind fun q_37 => if q_37 then (some 3) else (p17_l1 n x0 n 0).bind fun (y_45 : (Unit) ⊕ ((Int))) => lrK y_45 some fun (s_46 : Unit) => some 0
set_option maxHeartbeats 4000000 in
set_option maxRecDepth 100000 in
/-- plugboard/plugboardref10.Error -/
theorem c17 (K : Nat → Prop) (n : Nat) (w : World) (x0 : Bool × Int × Int × (Sl (Sl (Int))) × Int) (v0 : Value) (R0 : RepV (.st (.pair .bool (.pair (.int .u8) (.pair (.int .i64) (.pair (.sl (.sl (.int .u8))) (.int .i64)))))) w K v0 x0) {r : (Int)} (h : p17 n x0 = some r) :
    Calls Try.prog 17 #[v0] w (Ret1 (.int .i64) w (Kx K w.heap.size []) r) := by
  refine enter (args := [v0]) Try.func17 rfl 76 rfl rfl fun a S => ?_
  have W := Wd.start w
  replace R0 := R0.arg
  unfold p17 at h
  replace S : St 76 a [(0, v0)] := S
  refine wp_seq ?_
  refine wp_region_lit ?_
  refine w_go S rfl (op_box S rfl rfl rfl rfl rfl R0 ?_)
  clear S; intro a w_3 b_1 hb_4 B_2 S
  replace R0 := R0.box hb_4
  replace W := W.box hb_4
  refine wl_pure (l' := [(2, .int .i64 0), (1, .pointer (some (⟨b_1, 0, .none⟩ : Addr))), (0, v0)]) S tys tys_ok 1 (by kernel_rfl) ?_
  clear S; intro a S
  refine wpList_nil ?_
  refine then_n ?_
  replace S := S.sub (l' := [(1, .pointer (some (⟨b_1, 0, .none⟩ : Addr)))]) (by exact ⟨rfl, trivial⟩)
  refine wp_seq ?_
  refine wp_seq ?_
  refine wp_region_lit ?_
  refine wl_pure (l' := [(4, .pointer (some ((⟨b_1, 0, .none⟩ : Addr).add (coff (.pair .bool (.pair (.int .u8) (.pair (.int .i64) (.pair (.sl (.sl (.int .u8))) (.int .i64))))) 1)))), (1, .pointer (some (⟨b_1, 0, .none⟩ : Addr)))]) S tys tys_ok 1 (by kernel_rfl) ?_
  clear S; intro a S
  refine w_go S rfl (op_load (t := (.int .u8)) (x := x0.2.1) S rfl ty5 rfl rfl rfl (RepAt.add 1 (RepAt.st (t := (.pair .bool (.pair (.int .u8) (.pair (.int .i64) (.pair (.sl (.sl (.int .u8))) (.int .i64)))))) B_2.at_)) ?_)
  clear S; intro a v_5 R_6 S
  obtain ⟨rfl, GR_6⟩ := RepV.int R_6
  refine wl_pure (l' := [(7, .bool (x0.2.1 == 0)), (6, .bool (x0.2.1 == 0)), (5, .int .u8 x0.2.1), (4, .pointer (some ((⟨b_1, 0, .none⟩ : Addr).add (coff (.pair .bool (.pair (.int .u8) (.pair (.int .i64) (.pair (.sl (.sl (.int .u8))) (.int .i64))))) 1)))), (1, .pointer (some (⟨b_1, 0, .none⟩ : Addr)))]) S tys tys_ok 2 (by kernel_rfl) ?_
  clear S; intro a S
  obtain ⟨q_7, eq_7, h⟩ := bindS h
  refine seg 4 (fun a_ w_ => w_3 = w_ ∧ St 76 a_ [(11, .bool q_7), (1, .pointer (some (⟨b_1, 0, .none⟩ : Addr)))]) ?_ ?_
  · by_cases hc : (x0.2.1 == 0) = false
    · rw [if_pos hc] at eq_7; rw [hc] at S
      refine wl_pure (l' := [(8, .pointer (some ((⟨b_1, 0, .none⟩ : Addr).add (coff (.pair .bool (.pair (.int .u8) (.pair (.int .i64) (.pair (.sl (.sl (.int .u8))) (.int .i64))))) 1)))), (7, .bool false), (6, .bool false), (5, .int .u8 x0.2.1), (4, .pointer (some ((⟨b_1, 0, .none⟩ : Addr).add (coff (.pair .bool (.pair (.int .u8) (.pair (.int .i64) (.pair (.sl (.sl (.int .u8))) (.int .i64))))) 1)))), (1, .pointer (some (⟨b_1, 0, .none⟩ : Addr)))]) S tys tys_ok 1 (by kernel_rfl) ?_
      clear S; intro a S
      refine w_go S rfl (op_load (t := (.int .u8)) (x := x0.2.1) S rfl ty5 rfl rfl rfl (RepAt.add 1 (RepAt.st (t := (.pair .bool (.pair (.int .u8) (.pair (.int .i64) (.pair (.sl (.sl (.int .u8))) (.int .i64)))))) B_2.at_)) ?_)
      clear S; intro a v_8 R_9 S
      obtain ⟨rfl, GR_9⟩ := RepV.int R_9
      refine wl_pure (l' := [(11, .bool (decide (x0.2.1 > 15))), (10, .bool (decide (x0.2.1 > 15))), (9, .int .u8 x0.2.1), (8, .pointer (some ((⟨b_1, 0, .none⟩ : Addr).add (coff (.pair .bool (.pair (.int .u8) (.pair (.int .i64) (.pair (.sl (.sl (.int .u8))) (.int .i64))))) 1)))), (7, .bool false), (6, .bool false), (5, .int .u8 x0.2.1), (4, .pointer (some ((⟨b_1, 0, .none⟩ : Addr).add (coff (.pair .bool (.pair (.int .u8) (.pair (.int .i64) (.pair (.sl (.sl (.int .u8))) (.int .i64))))) 1)))), (1, .pointer (some (⟨b_1, 0, .none⟩ : Addr)))]) S tys tys_ok 2 (by kernel_rfl) ?_
      clear S; intro a S
      obtain rfl := Option.some.inj eq_7
      exact ⟨rfl, S.sub (by exact ⟨rfl, rfl, trivial⟩)⟩
    · rw [if_neg hc] at eq_7; rw [show (x0.2.1 == 0) = true from (by simpa using hc)] at S
      refine wl_pure (l' := [(11, .bool true), (10, undef), (9, undef), (8, undef), (7, .bool true), (6, .bool true), (5, .int .u8 x0.2.1), (4, .pointer (some ((⟨b_1, 0, .none⟩ : Addr).add (coff (.pair .bool (.pair (.int .u8) (.pair (.int .i64) (.pair (.sl (.sl (.int .u8))) (.int .i64))))) 1)))), (1, .pointer (some (⟨b_1, 0, .none⟩ : Addr)))]) S tys tys_ok 4 (by kernel_rfl) ?_
      clear S; intro a S
      obtain rfl := Option.some.inj eq_7
      exact ⟨rfl, S.sub (by exact ⟨rfl, rfl, trivial⟩)⟩
  clear S eq_7; rintro a _ ⟨rfl, S⟩
  refine wl_pure (l' := [(12, .bool q_7), (11, .bool q_7), (1, .pointer (some (⟨b_1, 0, .none⟩ : Addr)))]) S tys tys_ok 1 (by kernel_rfl) ?_
  clear S; intro a S
  obtain ⟨q_10, eq_10, h⟩ := bindS h
  refine seg 4 (fun a_ w_ => w_3 = w_ ∧ St 76 a_ [(16, .bool q_10), (1, .pointer (some (⟨b_1, 0, .none⟩ : Addr)))]) ?_ ?_
  · by_cases hc : q_7 = false
    · rw [if_pos hc] at eq_10; rw [hc] at S
      refine wl_pure (l' := [(13, .pointer (some ((⟨b_1, 0, .none⟩ : Addr).add (coff (.pair .bool (.pair (.int .u8) (.pair (.int .i64) (.pair (.sl (.sl (.int .u8))) (.int .i64))))) 2)))), (12, .bool false), (11, .bool false), (1, .pointer (some (⟨b_1, 0, .none⟩ : Addr)))]) S tys tys_ok 1 (by kernel_rfl) ?_
      clear S; intro a S
      refine w_go S rfl (op_load (t := (.int .i64)) (x := x0.2.2.1) S rfl ty3 rfl rfl rfl (RepAt.add 2 (RepAt.st (t := (.pair .bool (.pair (.int .u8) (.pair (.int .i64) (.pair (.sl (.sl (.int .u8))) (.int .i64)))))) B_2.at_)) ?_)
      clear S; intro a v_11 R_12 S
      obtain ⟨rfl, GR_12⟩ := RepV.int R_12
      refine wl_pure (l' := [(16, .bool (decide (x0.2.2.1 < 1))), (15, .bool (decide (x0.2.2.1 < 1))), (14, .int .i64 x0.2.2.1), (13, .pointer (some ((⟨b_1, 0, .none⟩ : Addr).add (coff (.pair .bool (.pair (.int .u8) (.pair (.int .i64) (.pair (.sl (.sl (.int .u8))) (.int .i64))))) 2)))), (12, .bool false), (11, .bool false), (1, .pointer (some (⟨b_1, 0, .none⟩ : Addr)))]) S tys tys_ok 2 (by kernel_rfl) ?_
      clear S; intro a S
      obtain rfl := Option.some.inj eq_10
      exact ⟨rfl, S.sub (by exact ⟨rfl, rfl, trivial⟩)⟩
    · rw [if_neg hc] at eq_10; rw [show q_7 = true from (by simpa using hc)] at S
      refine wl_pure (l' := [(16, .bool true), (15, undef), (14, undef), (13, undef), (12, .bool true), (11, .bool true), (1, .pointer (some (⟨b_1, 0, .none⟩ : Addr)))]) S tys tys_ok 4 (by kernel_rfl) ?_
      clear S; intro a S
      obtain rfl := Option.some.inj eq_10
      exact ⟨rfl, S.sub (by exact ⟨rfl, rfl, trivial⟩)⟩
  clear S eq_10; rintro a _ ⟨rfl, S⟩
  refine wl_pure (l' := [(17, .bool q_10), (16, .bool q_10), (1, .pointer (some (⟨b_1, 0, .none⟩ : Addr)))]) S tys tys_ok 1 (by kernel_rfl) ?_
  clear S; intro a S
  obtain ⟨q_13, eq_13, h⟩ := bindS h
  refine seg 4 (fun a_ w_ => w_3 = w_ ∧ St 76 a_ [(21, .bool q_13), (1, .pointer (some (⟨b_1, 0, .none⟩ : Addr)))]) ?_ ?_
  · by_cases hc : q_10 = false
    · rw [if_pos hc] at eq_13; rw [hc] at S
      refine wl_pure (l' := [(18, .pointer (some ((⟨b_1, 0, .none⟩ : Addr).add (coff (.pair .bool (.pair (.int .u8) (.pair (.int .i64) (.pair (.sl (.sl (.int .u8))) (.int .i64))))) 2)))), (17, .bool false), (16, .bool false), (1, .pointer (some (⟨b_1, 0, .none⟩ : Addr)))]) S tys tys_ok 1 (by kernel_rfl) ?_
      clear S; intro a S
      refine w_go S rfl (op_load (t := (.int .i64)) (x := x0.2.2.1) S rfl ty3 rfl rfl rfl (RepAt.add 2 (RepAt.st (t := (.pair .bool (.pair (.int .u8) (.pair (.int .i64) (.pair (.sl (.sl (.int .u8))) (.int .i64)))))) B_2.at_)) ?_)
      clear S; intro a v_14 R_15 S
      obtain ⟨rfl, GR_15⟩ := RepV.int R_15
      refine wl_pure (l' := [(21, .bool (decide (x0.2.2.1 > 1024))), (20, .bool (decide (x0.2.2.1 > 1024))), (19, .int .i64 x0.2.2.1), (18, .pointer (some ((⟨b_1, 0, .none⟩ : Addr).add (coff (.pair .bool (.pair (.int .u8) (.pair (.int .i64) (.pair (.sl (.sl (.int .u8))) (.int .i64))))) 2)))), (17, .bool false), (16, .bool false), (1, .pointer (some (⟨b_1, 0, .none⟩ : Addr)))]) S tys tys_ok 2 (by kernel_rfl) ?_
      clear S; intro a S
      obtain rfl := Option.some.inj eq_13
      exact ⟨rfl, S.sub (by exact ⟨rfl, rfl, trivial⟩)⟩
    · rw [if_neg hc] at eq_13; rw [show q_10 = true from (by simpa using hc)] at S
      refine wl_pure (l' := [(21, .bool true), (20, undef), (19, undef), (18, undef), (17, .bool true), (16, .bool true), (1, .pointer (some (⟨b_1, 0, .none⟩ : Addr)))]) S tys tys_ok 4 (by kernel_rfl) ?_
      clear S; intro a S
      obtain rfl := Option.some.inj eq_13
      exact ⟨rfl, S.sub (by exact ⟨rfl, rfl, trivial⟩)⟩
  clear S eq_13; rintro a _ ⟨rfl, S⟩
  refine wpList_nil ?_
  refine then_n ?_
  refine wp_cond_split (S.eval (show ev _ _ = some (.bool q_13) from rfl)) ?_ ?_
  · intro hc
    rw [if_pos hc] at h
    refine wp_seq ?_
    refine wp_region_lit ?_
    refine wl_pure (l' := [(2, .int .i64 1), (21, .bool q_13), (1, .pointer (some (⟨b_1, 0, .none⟩ : Addr)))]) S tys tys_ok 1 (by kernel_rfl) ?_
    clear S; intro a S
    refine wpList_nil ?_
    refine then_n ?_
    replace S := S.sub (l' := [(2, .int .i64 1)]) (by exact ⟨rfl, trivial⟩)
    refine wp_ret ?_
    refine then_r ?_
    obtain rfl := Option.some.inj h
    exact b_ret1 S rfl rfl ⟨_, rfl, (RepV.mkInt (by decide)), W.below⟩
  · intro hc
    rw [if_neg (Bool.eq_false_iff.1 hc)] at h
    refine wp_skip ?_
    refine then_n ?_
    replace S := S.sub (l' := [(1, .pointer (some (⟨b_1, 0, .none⟩ : Addr)))]) (by exact ⟨rfl, trivial⟩)
    refine wp_seq ?_
    refine wp_seq ?_
    refine wp_region_lit ?_
    refine wl_pure (l' := [(22, .pointer (some ((⟨b_1, 0, .none⟩ : Addr).add (coff (.pair .bool (.pair (.int .u8) (.pair (.int .i64) (.pair (.sl (.sl (.int .u8))) (.int .i64))))) 0)))), (1, .pointer (some (⟨b_1, 0, .none⟩ : Addr)))]) S tys tys_ok 1 (by kernel_rfl) ?_
    clear S; intro a S
    refine w_go S rfl (op_load (t := .bool) (x := x0.1) S rfl ty4 rfl rfl rfl (RepAt.add 0 (RepAt.st (t := (.pair .bool (.pair (.int .u8) (.pair (.int .i64) (.pair (.sl (.sl (.int .u8))) (.int .i64)))))) B_2.at_)) ?_)
    clear S; intro a v_16 R_17 S
    obtain rfl := RepV.bool R_17
    refine wl_pure (l' := [(24, .bool x0.1), (23, .bool x0.1), (22, .pointer (some ((⟨b_1, 0, .none⟩ : Addr).add (coff (.pair .bool (.pair (.int .u8) (.pair (.int .i64) (.pair (.sl (.sl (.int .u8))) (.int .i64))))) 0)))), (1, .pointer (some (⟨b_1, 0, .none⟩ : Addr)))]) S tys tys_ok 1 (by kernel_rfl) ?_
    clear S; intro a S
    obtain ⟨q_18, eq_18, h⟩ := bindS h
    refine seg 10 (fun a_ w_ => w_3 = w_ ∧ St 76 a_ [(34, .bool q_18), (1, .pointer (some (⟨b_1, 0, .none⟩ : Addr)))]) ?_ ?_
    · by_cases hc : x0.1 = true
      · rw [if_pos hc] at eq_18; rw [hc] at S
        refine wl_pure (l' := [(25, .pointer (some ((⟨b_1, 0, .none⟩ : Addr).add (coff (.pair .bool (.pair (.int .u8) (.pair (.int .i64) (.pair (.sl (.sl (.int .u8))) (.int .i64))))) 3)))), (24, .bool true), (23, .bool true), (22, .pointer (some ((⟨b_1, 0, .none⟩ : Addr).add (coff (.pair .bool (.pair (.int .u8) (.pair (.int .i64) (.pair (.sl (.sl (.int .u8))) (.int .i64))))) 0)))), (1, .pointer (some (⟨b_1, 0, .none⟩ : Addr)))]) S tys tys_ok 1 (by kernel_rfl) ?_
        clear S; intro a S
        refine w_go S rfl (op_load (t := (.sl (.sl (.int .u8)))) (x := x0.2.2.2.1) S rfl ty40 rfl rfl rfl (RepAt.add 3 (RepAt.st (t := (.pair .bool (.pair (.int .u8) (.pair (.int .i64) (.pair (.sl (.sl (.int .u8))) (.int .i64)))))) B_2.at_)) ?_)
        clear S; intro a v_19 R_20 S
        refine w_go S rfl (op_len (K := _) S rfl ty40 rfl rfl rfl R_20 ?_)
        clear S; intro a G_21 S
        refine wl_pure (l' := [(29, .bool ((lenI x0.2.2.2.1) != 0)), (28, .bool ((lenI x0.2.2.2.1) != 0)), (27, .int .i64 (lenI x0.2.2.2.1)), (26, v_19), (25, .pointer (some ((⟨b_1, 0, .none⟩ : Addr).add (coff (.pair .bool (.pair (.int .u8) (.pair (.int .i64) (.pair (.sl (.sl (.int .u8))) (.int .i64))))) 3)))), (24, .bool true), (23, .bool true), (22, .pointer (some ((⟨b_1, 0, .none⟩ : Addr).add (coff (.pair .bool (.pair (.int .u8) (.pair (.int .i64) (.pair (.sl (.sl (.int .u8))) (.int .i64))))) 0)))), (1, .pointer (some (⟨b_1, 0, .none⟩ : Addr)))]) S tys tys_ok 2 (by kernel_rfl) ?_
        clear S; intro a S
        obtain ⟨q_22, eq_22, eq_18⟩ := bindS eq_18
        refine seg 4 (fun a_ w_ => w_3 = w_ ∧ St 76 a_ [(33, .bool q_22), (24, .bool true), (1, .pointer (some (⟨b_1, 0, .none⟩ : Addr)))]) ?_ ?_
        · by_cases hc : ((lenI x0.2.2.2.1) != 0) = false
          · rw [if_pos hc] at eq_22; rw [hc] at S
            refine wl_pure (l' := [(30, .pointer (some ((⟨b_1, 0, .none⟩ : Addr).add (coff (.pair .bool (.pair (.int .u8) (.pair (.int .i64) (.pair (.sl (.sl (.int .u8))) (.int .i64))))) 4)))), (29, .bool false), (28, .bool false), (27, .int .i64 (lenI x0.2.2.2.1)), (26, v_19), (25, .pointer (some ((⟨b_1, 0, .none⟩ : Addr).add (coff (.pair .bool (.pair (.int .u8) (.pair (.int .i64) (.pair (.sl (.sl (.int .u8))) (.int .i64))))) 3)))), (24, .bool true), (23, .bool true), (22, .pointer (some ((⟨b_1, 0, .none⟩ : Addr).add (coff (.pair .bool (.pair (.int .u8) (.pair (.int .i64) (.pair (.sl (.sl (.int .u8))) (.int .i64))))) 0)))), (1, .pointer (some (⟨b_1, 0, .none⟩ : Addr)))]) S tys tys_ok 1 (by kernel_rfl) ?_
            clear S; intro a S
            refine w_go S rfl (op_load (t := (.int .i64)) (x := x0.2.2.2.2) S rfl ty3 rfl rfl rfl (RepAt.add 4 (RepAt.st (t := (.pair .bool (.pair (.int .u8) (.pair (.int .i64) (.pair (.sl (.sl (.int .u8))) (.int .i64)))))) B_2.at_)) ?_)
            clear S; intro a v_23 R_24 S
            obtain ⟨rfl, GR_24⟩ := RepV.int R_24
            refine wl_pure (l' := [(33, .bool (decide (x0.2.2.2.2 < 1))), (32, .bool (decide (x0.2.2.2.2 < 1))), (31, .int .i64 x0.2.2.2.2), (30, .pointer (some ((⟨b_1, 0, .none⟩ : Addr).add (coff (.pair .bool (.pair (.int .u8) (.pair (.int .i64) (.pair (.sl (.sl (.int .u8))) (.int .i64))))) 4)))), (29, .bool false), (28, .bool false), (27, .int .i64 (lenI x0.2.2.2.1)), (26, v_19), (25, .pointer (some ((⟨b_1, 0, .none⟩ : Addr).add (coff (.pair .bool (.pair (.int .u8) (.pair (.int .i64) (.pair (.sl (.sl (.int .u8))) (.int .i64))))) 3)))), (24, .bool true), (23, .bool true), (22, .pointer (some ((⟨b_1, 0, .none⟩ : Addr).add (coff (.pair .bool (.pair (.int .u8) (.pair (.int .i64) (.pair (.sl (.sl (.int .u8))) (.int .i64))))) 0)))), (1, .pointer (some (⟨b_1, 0, .none⟩ : Addr)))]) S tys tys_ok 2 (by kernel_rfl) ?_
            clear S; intro a S
            obtain rfl := Option.some.inj eq_22
            exact ⟨rfl, S.sub (by exact ⟨rfl, rfl, rfl, trivial⟩)⟩
          · rw [if_neg hc] at eq_22; rw [show ((lenI x0.2.2.2.1) != 0) = true from (by simpa using hc)] at S
            refine wl_pure (l' := [(33, .bool true), (32, undef), (31, undef), (30, undef), (29, .bool true), (28, .bool true), (27, .int .i64 (lenI x0.2.2.2.1)), (26, v_19), (25, .pointer (some ((⟨b_1, 0, .none⟩ : Addr).add (coff (.pair .bool (.pair (.int .u8) (.pair (.int .i64) (.pair (.sl (.sl (.int .u8))) (.int .i64))))) 3)))), (24, .bool true), (23, .bool true), (22, .pointer (some ((⟨b_1, 0, .none⟩ : Addr).add (coff (.pair .bool (.pair (.int .u8) (.pair (.int .i64) (.pair (.sl (.sl (.int .u8))) (.int .i64))))) 0)))), (1, .pointer (some (⟨b_1, 0, .none⟩ : Addr)))]) S tys tys_ok 4 (by kernel_rfl) ?_
            clear S; intro a S
            obtain rfl := Option.some.inj eq_22
            exact ⟨rfl, S.sub (by exact ⟨rfl, rfl, rfl, trivial⟩)⟩
        clear S eq_22; rintro a _ ⟨rfl, S⟩
        refine wl_pure (l' := [(34, .bool q_22), (33, .bool q_22), (24, .bool true), (1, .pointer (some (⟨b_1, 0, .none⟩ : Addr)))]) S tys tys_ok 1 (by kernel_rfl) ?_
        clear S; intro a S
        obtain rfl := Option.some.inj eq_18
        exact ⟨rfl, S.sub (by exact ⟨rfl, rfl, trivial⟩)⟩
      · rw [if_neg hc] at eq_18; rw [show x0.1 = false from Bool.eq_false_iff.2 hc] at S
        refine wl_pure (l' := [(34, .bool false), (33, undef), (32, undef), (31, undef), (30, undef), (29, undef), (28, undef), (27, undef), (26, undef), (25, undef), (24, .bool false), (23, .bool false), (22, .pointer (some ((⟨b_1, 0, .none⟩ : Addr).add (coff (.pair .bool (.pair (.int .u8) (.pair (.int .i64) (.pair (.sl (.sl (.int .u8))) (.int .i64))))) 0)))), (1, .pointer (some (⟨b_1, 0, .none⟩ : Addr)))]) S tys tys_ok 10 (by kernel_rfl) ?_
        clear S; intro a S
        obtain rfl := Option.some.inj eq_18
        exact ⟨rfl, S.sub (by exact ⟨rfl, rfl, trivial⟩)⟩
    clear S eq_18; rintro a _ ⟨rfl, S⟩
    refine wl_pure (l' := [(35, .bool q_18), (34, .bool q_18), (1, .pointer (some (⟨b_1, 0, .none⟩ : Addr)))]) S tys tys_ok 1 (by kernel_rfl) ?_
    clear S; intro a S
    obtain ⟨q_25, eq_25, h⟩ := bindS h
    refine seg 15 (fun a_ w_ => w_3 = w_ ∧ St 76 a_ [(50, .bool q_25), (1, .pointer (some (⟨b_1, 0, .none⟩ : Addr)))]) ?_ ?_
    · by_cases hc : q_18 = false
      · rw [if_pos hc] at eq_25; rw [hc] at S
        refine wl_pure (l' := [(36, .pointer (some ((⟨b_1, 0, .none⟩ : Addr).add (coff (.pair .bool (.pair (.int .u8) (.pair (.int .i64) (.pair (.sl (.sl (.int .u8))) (.int .i64))))) 0)))), (35, .bool false), (34, .bool false), (1, .pointer (some (⟨b_1, 0, .none⟩ : Addr)))]) S tys tys_ok 1 (by kernel_rfl) ?_
        clear S; intro a S
        refine w_go S rfl (op_load (t := .bool) (x := x0.1) S rfl ty4 rfl rfl rfl (RepAt.add 0 (RepAt.st (t := (.pair .bool (.pair (.int .u8) (.pair (.int .i64) (.pair (.sl (.sl (.int .u8))) (.int .i64)))))) B_2.at_)) ?_)
        clear S; intro a v_26 R_27 S
        obtain rfl := RepV.bool R_27
        refine wl_pure (l' := [(39, .bool (!x0.1)), (38, .bool (!x0.1)), (37, .bool x0.1), (36, .pointer (some ((⟨b_1, 0, .none⟩ : Addr).add (coff (.pair .bool (.pair (.int .u8) (.pair (.int .i64) (.pair (.sl (.sl (.int .u8))) (.int .i64))))) 0)))), (35, .bool false), (34, .bool false), (1, .pointer (some (⟨b_1, 0, .none⟩ : Addr)))]) S tys tys_ok 2 (by kernel_rfl) ?_
        clear S; intro a S
        obtain ⟨q_28, eq_28, eq_25⟩ := bindS eq_25
        refine seg 10 (fun a_ w_ => w_3 = w_ ∧ St 76 a_ [(49, .bool q_28), (35, .bool false), (1, .pointer (some (⟨b_1, 0, .none⟩ : Addr)))]) ?_ ?_
        · by_cases hc : (!x0.1) = true
          · rw [if_pos hc] at eq_28; rw [hc] at S
            refine wl_pure (l' := [(40, .pointer (some ((⟨b_1, 0, .none⟩ : Addr).add (coff (.pair .bool (.pair (.int .u8) (.pair (.int .i64) (.pair (.sl (.sl (.int .u8))) (.int .i64))))) 3)))), (39, .bool true), (38, .bool true), (37, .bool x0.1), (36, .pointer (some ((⟨b_1, 0, .none⟩ : Addr).add (coff (.pair .bool (.pair (.int .u8) (.pair (.int .i64) (.pair (.sl (.sl (.int .u8))) (.int .i64))))) 0)))), (35, .bool false), (34, .bool false), (1, .pointer (some (⟨b_1, 0, .none⟩ : Addr)))]) S tys tys_ok 1 (by kernel_rfl) ?_
            clear S; intro a S
            refine w_go S rfl (op_load (t := (.sl (.sl (.int .u8)))) (x := x0.2.2.2.1) S rfl ty40 rfl rfl rfl (RepAt.add 3 (RepAt.st (t := (.pair .bool (.pair (.int .u8) (.pair (.int .i64) (.pair (.sl (.sl (.int .u8))) (.int .i64)))))) B_2.at_)) ?_)
            clear S; intro a v_29 R_30 S
            refine w_go S rfl (op_len (K := _) S rfl ty40 rfl rfl rfl R_30 ?_)
            clear S; intro a G_31 S
            refine wl_pure (l' := [(44, .bool ((lenI x0.2.2.2.1) == 0)), (43, .bool ((lenI x0.2.2.2.1) == 0)), (42, .int .i64 (lenI x0.2.2.2.1)), (41, v_29), (40, .pointer (some ((⟨b_1, 0, .none⟩ : Addr).add (coff (.pair .bool (.pair (.int .u8) (.pair (.int .i64) (.pair (.sl (.sl (.int .u8))) (.int .i64))))) 3)))), (39, .bool true), (38, .bool true), (37, .bool x0.1), (36, .pointer (some ((⟨b_1, 0, .none⟩ : Addr).add (coff (.pair .bool (.pair (.int .u8) (.pair (.int .i64) (.pair (.sl (.sl (.int .u8))) (.int .i64))))) 0)))), (35, .bool false), (34, .bool false), (1, .pointer (some (⟨b_1, 0, .none⟩ : Addr)))]) S tys tys_ok 2 (by kernel_rfl) ?_
            clear S; intro a S
            obtain ⟨q_32, eq_32, eq_28⟩ := bindS eq_28
            refine seg 4 (fun a_ w_ => w_3 = w_ ∧ St 76 a_ [(48, .bool q_32), (39, .bool true), (35, .bool false), (1, .pointer (some (⟨b_1, 0, .none⟩ : Addr)))]) ?_ ?_
            · by_cases hc : ((lenI x0.2.2.2.1) == 0) = false
              · rw [if_pos hc] at eq_32; rw [hc] at S
                refine wl_pure (l' := [(45, .pointer (some ((⟨b_1, 0, .none⟩ : Addr).add (coff (.pair .bool (.pair (.int .u8) (.pair (.int .i64) (.pair (.sl (.sl (.int .u8))) (.int .i64))))) 4)))), (44, .bool false), (43, .bool false), (42, .int .i64 (lenI x0.2.2.2.1)), (41, v_29), (40, .pointer (some ((⟨b_1, 0, .none⟩ : Addr).add (coff (.pair .bool (.pair (.int .u8) (.pair (.int .i64) (.pair (.sl (.sl (.int .u8))) (.int .i64))))) 3)))), (39, .bool true), (38, .bool true), (37, .bool x0.1), (36, .pointer (some ((⟨b_1, 0, .none⟩ : Addr).add (coff (.pair .bool (.pair (.int .u8) (.pair (.int .i64) (.pair (.sl (.sl (.int .u8))) (.int .i64))))) 0)))), (35, .bool false), (34, .bool false), (1, .pointer (some (⟨b_1, 0, .none⟩ : Addr)))]) S tys tys_ok 1 (by kernel_rfl) ?_
                clear S; intro a S
                refine w_go S rfl (op_load (t := (.int .i64)) (x := x0.2.2.2.2) S rfl ty3 rfl rfl rfl (RepAt.add 4 (RepAt.st (t := (.pair .bool (.pair (.int .u8) (.pair (.int .i64) (.pair (.sl (.sl (.int .u8))) (.int .i64)))))) B_2.at_)) ?_)
                clear S; intro a v_33 R_34 S
                obtain ⟨rfl, GR_34⟩ := RepV.int R_34
                refine wl_pure (l' := [(48, .bool (x0.2.2.2.2 != 0)), (47, .bool (x0.2.2.2.2 != 0)), (46, .int .i64 x0.2.2.2.2), (45, .pointer (some ((⟨b_1, 0, .none⟩ : Addr).add (coff (.pair .bool (.pair (.int .u8) (.pair (.int .i64) (.pair (.sl (.sl (.int .u8))) (.int .i64))))) 4)))), (44, .bool false), (43, .bool false), (42, .int .i64 (lenI x0.2.2.2.1)), (41, v_29), (40, .pointer (some ((⟨b_1, 0, .none⟩ : Addr).add (coff (.pair .bool (.pair (.int .u8) (.pair (.int .i64) (.pair (.sl (.sl (.int .u8))) (.int .i64))))) 3)))), (39, .bool true), (38, .bool true), (37, .bool x0.1), (36, .pointer (some ((⟨b_1, 0, .none⟩ : Addr).add (coff (.pair .bool (.pair (.int .u8) (.pair (.int .i64) (.pair (.sl (.sl (.int .u8))) (.int .i64))))) 0)))), (35, .bool false), (34, .bool false), (1, .pointer (some (⟨b_1, 0, .none⟩ : Addr)))]) S tys tys_ok 2 (by kernel_rfl) ?_
                clear S; intro a S
                obtain rfl := Option.some.inj eq_32
                exact ⟨rfl, S.sub (by exact ⟨rfl, rfl, rfl, rfl, trivial⟩)⟩
              · rw [if_neg hc] at eq_32; rw [show ((lenI x0.2.2.2.1) == 0) = true from (by simpa using hc)] at S
                refine wl_pure (l' := [(48, .bool true), (47, undef), (46, undef), (45, undef), (44, .bool true), (43, .bool true), (42, .int .i64 (lenI x0.2.2.2.1)), (41, v_29), (40, .pointer (some ((⟨b_1, 0, .none⟩ : Addr).add (coff (.pair .bool (.pair (.int .u8) (.pair (.int .i64) (.pair (.sl (.sl (.int .u8))) (.int .i64))))) 3)))), (39, .bool true), (38, .bool true), (37, .bool x0.1), (36, .pointer (some ((⟨b_1, 0, .none⟩ : Addr).add (coff (.pair .bool (.pair (.int .u8) (.pair (.int .i64) (.pair (.sl (.sl (.int .u8))) (.int .i64))))) 0)))), (35, .bool false), (34, .bool false), (1, .pointer (some (⟨b_1, 0, .none⟩ : Addr)))]) S tys tys_ok 4 (by kernel_rfl) ?_
                clear S; intro a S
                obtain rfl := Option.some.inj eq_32
                exact ⟨rfl, S.sub (by exact ⟨rfl, rfl, rfl, rfl, trivial⟩)⟩
            clear S eq_32; rintro a _ ⟨rfl, S⟩
            refine wl_pure (l' := [(49, .bool q_32), (48, .bool q_32), (39, .bool true), (35, .bool false), (1, .pointer (some (⟨b_1, 0, .none⟩ : Addr)))]) S tys tys_ok 1 (by kernel_rfl) ?_
            clear S; intro a S
            obtain rfl := Option.some.inj eq_28
            exact ⟨rfl, S.sub (by exact ⟨rfl, rfl, rfl, trivial⟩)⟩
          · rw [if_neg hc] at eq_28; rw [show (!x0.1) = false from Bool.eq_false_iff.2 hc] at S
            refine wl_pure (l' := [(49, .bool false), (48, undef), (47, undef), (46, undef), (45, undef), (44, undef), (43, undef), (42, undef), (41, undef), (40, undef), (39, .bool false), (38, .bool false), (37, .bool x0.1), (36, .pointer (some ((⟨b_1, 0, .none⟩ : Addr).add (coff (.pair .bool (.pair (.int .u8) (.pair (.int .i64) (.pair (.sl (.sl (.int .u8))) (.int .i64))))) 0)))), (35, .bool false), (34, .bool false), (1, .pointer (some (⟨b_1, 0, .none⟩ : Addr)))]) S tys tys_ok 10 (by kernel_rfl) ?_
            clear S; intro a S
            obtain rfl := Option.some.inj eq_28
            exact ⟨rfl, S.sub (by exact ⟨rfl, rfl, rfl, trivial⟩)⟩
        clear S eq_28; rintro a _ ⟨rfl, S⟩
        refine wl_pure (l' := [(50, .bool q_28), (49, .bool q_28), (35, .bool false), (1, .pointer (some (⟨b_1, 0, .none⟩ : Addr)))]) S tys tys_ok 1 (by kernel_rfl) ?_
        clear S; intro a S
        obtain rfl := Option.some.inj eq_25
        exact ⟨rfl, S.sub (by exact ⟨rfl, rfl, trivial⟩)⟩
      · rw [if_neg hc] at eq_25; rw [show q_18 = true from (by simpa using hc)] at S
        refine wl_pure (l' := [(50, .bool true), (49, undef), (48, undef), (47, undef), (46, undef), (45, undef), (44, undef), (43, undef), (42, undef), (41, undef), (40, undef), (39, undef), (38, undef), (37, undef), (36, undef), (35, .bool true), (34, .bool true), (1, .pointer (some (⟨b_1, 0, .none⟩ : Addr)))]) S tys tys_ok 15 (by kernel_rfl) ?_
        clear S; intro a S
        obtain rfl := Option.some.inj eq_25
        exact ⟨rfl, S.sub (by exact ⟨rfl, rfl, trivial⟩)⟩
    clear S eq_25; rintro a _ ⟨rfl, S⟩
    refine wpList_nil ?_
    refine then_n ?_
    refine wp_cond_split (S.eval (show ev _ _ = some (.bool q_25) from rfl)) ?_ ?_
    · intro hc
      rw [if_pos hc] at h
      refine wp_seq ?_
      refine wp_region_lit ?_
      refine wl_pure (l' := [(2, .int .i64 1), (50, .bool q_25), (1, .pointer (some (⟨b_1, 0, .none⟩ : Addr)))]) S tys tys_ok 1 (by kernel_rfl) ?_
      clear S; intro a S
      refine wpList_nil ?_
      refine then_n ?_
      replace S := S.sub (l' := [(2, .int .i64 1)]) (by exact ⟨rfl, trivial⟩)
      refine wp_ret ?_
      refine then_r ?_
      obtain rfl := Option.some.inj h
      exact b_ret1 S rfl rfl ⟨_, rfl, (RepV.mkInt (by decide)), W.below⟩
    · intro hc
      rw [if_neg (Bool.eq_false_iff.1 hc)] at h
      refine wp_skip ?_
      refine then_n ?_
      replace S := S.sub (l' := [(1, .pointer (some (⟨b_1, 0, .none⟩ : Addr)))]) (by exact ⟨rfl, trivial⟩)
      refine wp_seq ?_
      refine wp_seq ?_
      refine wp_region_lit ?_
      refine wl_pure (l' := [(51, .pointer (some ((⟨b_1, 0, .none⟩ : Addr).add (coff (.pair .bool (.pair (.int .u8) (.pair (.int .i64) (.pair (.sl (.sl (.int .u8))) (.int .i64))))) 4)))), (1, .pointer (some (⟨b_1, 0, .none⟩ : Addr)))]) S tys tys_ok 1 (by kernel_rfl) ?_
      clear S; intro a S
      refine w_go S rfl (op_load (t := (.int .i64)) (x := x0.2.2.2.2) S rfl ty3 rfl rfl rfl (RepAt.add 4 (RepAt.st (t := (.pair .bool (.pair (.int .u8) (.pair (.int .i64) (.pair (.sl (.sl (.int .u8))) (.int .i64)))))) B_2.at_)) ?_)
      clear S; intro a v_35 R_36 S
      obtain ⟨rfl, GR_36⟩ := RepV.int R_36
      refine wl_pure (l' := [(54, .bool (decide (x0.2.2.2.2 > 256))), (53, .bool (decide (x0.2.2.2.2 > 256))), (52, .int .i64 x0.2.2.2.2), (51, .pointer (some ((⟨b_1, 0, .none⟩ : Addr).add (coff (.pair .bool (.pair (.int .u8) (.pair (.int .i64) (.pair (.sl (.sl (.int .u8))) (.int .i64))))) 4)))), (1, .pointer (some (⟨b_1, 0, .none⟩ : Addr)))]) S tys tys_ok 2 (by kernel_rfl) ?_
      clear S; intro a S
      obtain ⟨q_37, eq_37, h⟩ := bindS h
      refine seg 5 (fun a_ w_ => w_3 = w_ ∧ St 76 a_ [(59, .bool q_37), (1, .pointer (some (⟨b_1, 0, .none⟩ : Addr)))]) ?_ ?_
      · by_cases hc : (decide (x0.2.2.2.2 > 256)) = false
        · rw [if_pos hc] at eq_37; rw [hc] at S
          refine wl_pure (l' := [(55, .pointer (some ((⟨b_1, 0, .none⟩ : Addr).add (coff (.pair .bool (.pair (.int .u8) (.pair (.int .i64) (.pair (.sl (.sl (.int .u8))) (.int .i64))))) 3)))), (54, .bool false), (53, .bool false), (52, .int .i64 x0.2.2.2.2), (51, .pointer (some ((⟨b_1, 0, .none⟩ : Addr).add (coff (.pair .bool (.pair (.int .u8) (.pair (.int .i64) (.pair (.sl (.sl (.int .u8))) (.int .i64))))) 4)))), (1, .pointer (some (⟨b_1, 0, .none⟩ : Addr)))]) S tys tys_ok 1 (by kernel_rfl) ?_
          clear S; intro a S
          refine w_go S rfl (op_load (t := (.sl (.sl (.int .u8)))) (x := x0.2.2.2.1) S rfl ty40 rfl rfl rfl (RepAt.add 3 (RepAt.st (t := (.pair .bool (.pair (.int .u8) (.pair (.int .i64) (.pair (.sl (.sl (.int .u8))) (.int .i64)))))) B_2.at_)) ?_)
          clear S; intro a v_38 R_39 S
          refine w_go S rfl (op_len (K := _) S rfl ty40 rfl rfl rfl R_39 ?_)
          clear S; intro a G_40 S
          refine wl_pure (l' := [(59, .bool (decide ((lenI x0.2.2.2.1) > 256))), (58, .bool (decide ((lenI x0.2.2.2.1) > 256))), (57, .int .i64 (lenI x0.2.2.2.1)), (56, v_38), (55, .pointer (some ((⟨b_1, 0, .none⟩ : Addr).add (coff (.pair .bool (.pair (.int .u8) (.pair (.int .i64) (.pair (.sl (.sl (.int .u8))) (.int .i64))))) 3)))), (54, .bool false), (53, .bool false), (52, .int .i64 x0.2.2.2.2), (51, .pointer (some ((⟨b_1, 0, .none⟩ : Addr).add (coff (.pair .bool (.pair (.int .u8) (.pair (.int .i64) (.pair (.sl (.sl (.int .u8))) (.int .i64))))) 4)))), (1, .pointer (some (⟨b_1, 0, .none⟩ : Addr)))]) S tys tys_ok 2 (by kernel_rfl) ?_
          clear S; intro a S
          obtain rfl := Option.some.inj eq_37
          exact ⟨rfl, S.sub (by exact ⟨rfl, rfl, trivial⟩)⟩
        · rw [if_neg hc] at eq_37; rw [show (decide (x0.2.2.2.2 > 256)) = true from (by simpa using hc)] at S
          refine wl_pure (l' := [(59, .bool true), (58, undef), (57, undef), (56, undef), (55, undef), (54, .bool true), (53, .bool true), (52, .int .i64 x0.2.2.2.2), (51, .pointer (some ((⟨b_1, 0, .none⟩ : Addr).add (coff (.pair .bool (.pair (.int .u8) (.pair (.int .i64) (.pair (.sl (.sl (.int .u8))) (.int .i64))))) 4)))), (1, .pointer (some (⟨b_1, 0, .none⟩ : Addr)))]) S tys tys_ok 5 (by kernel_rfl) ?_
          clear S; intro a S
          obtain rfl := Option.some.inj eq_37
          exact ⟨rfl, S.sub (by exact ⟨rfl, rfl, trivial⟩)⟩
      clear S eq_37; rintro a _ ⟨rfl, S⟩
      refine wpList_nil ?_
      refine then_n ?_
      refine wp_cond_split (S.eval (show ev _ _ = some (.bool q_37) from rfl)) ?_ ?_
      · intro hc
        rw [if_pos hc] at h
        refine wp_seq ?_
        refine wp_region_lit ?_
        refine wl_pure (l' := [(2, .int .i64 3), (59, .bool q_37), (1, .pointer (some (⟨b_1, 0, .none⟩ : Addr)))]) S tys tys_ok 1 (by kernel_rfl) ?_
        clear S; intro a S
        refine wpList_nil ?_
        refine then_n ?_
        replace S := S.sub (l' := [(2, .int .i64 3)]) (by exact ⟨rfl, trivial⟩)
        refine wp_ret ?_
        refine then_r ?_
        obtain rfl := Option.some.inj h
        exact b_ret1 S rfl rfl ⟨_, rfl, (RepV.mkInt (by decide)), W.below⟩
      · intro hc
        rw [if_neg (Bool.eq_false_iff.1 hc)] at h
        refine wp_skip ?_
        refine then_n ?_
        replace S := S.sub (l' := [(1, .pointer (some (⟨b_1, 0, .none⟩ : Addr)))]) (by exact ⟨rfl, trivial⟩)
        refine wp_seq ?_
        refine wp_seq ?_
        refine wp_region_lit ?_
        refine wl_pure (l' := [(3, .int .i64 0), (1, .pointer (some (⟨b_1, 0, .none⟩ : Addr)))]) S tys tys_ok 1 (by kernel_rfl) ?_
        clear S; intro a S
        refine wpList_nil ?_
        refine then_n ?_
        obtain ⟨y_45, ey_45, h⟩ := bindS h
        refine wp_cut_ (fun a_ w_ => ∃ s_46 : Unit, y_45 = .inl s_46 ∧ (St 76 a_ [] ∧ Wd w w_ [some b_1] ∧ Bx (.st (.pair .bool (.pair (.int .u8) (.pair (.int .i64) (.pair (.sl (.sl (.int .u8))) (.int .i64)))))) 42 w_ (Kx K w.heap.size [some b_1]) b_1 x0)) ?_ ?_
        · refine wp_block ?_
          refine wp_loop_n (fun m_ a_ w_ => ∃ (c_41 : Int) , St 76 a_ [(3, .int .i64 c_41), (1, .pointer (some (⟨b_1, 0, .none⟩ : Addr)))] ∧ Wd w w_ [some b_1] ∧ InR .i64 c_41 ∧ Bx (.st (.pair .bool (.pair (.int .u8) (.pair (.int .i64) (.pair (.sl (.sl (.int .u8))) (.int .i64)))))) 42 w_ (Kx K w.heap.size [some b_1]) b_1 x0 ∧ p17_l1 n x0 m_ c_41 = some y_45) n ?_ ?_
          · skip
            exact ⟨0, ⟨S.sub (by exact ⟨rfl, rfl, trivial⟩), W, (by decide), B_2, ey_45⟩⟩
          · clear S W; rintro m_47 a w_49 ⟨c_41, S, W, G_42, B_2, hl_48⟩
            cases m_47 with
            | zero => exact absurd hl_48 (by simp [p17_l1])
            | succ m_47 =>
              refine ⟨m_47, rfl, ?_⟩
              rw [p17_l1] at hl_48
              refine wp_seq ?_
              refine wp_seq ?_
              refine wp_region_lit ?_
              refine wl_pure (l' := [(61, .pointer (some ((⟨b_1, 0, .none⟩ : Addr).add (coff (.pair .bool (.pair (.int .u8) (.pair (.int .i64) (.pair (.sl (.sl (.int .u8))) (.int .i64))))) 3)))), (60, .int .i64 c_41), (3, .int .i64 c_41), (1, .pointer (some (⟨b_1, 0, .none⟩ : Addr)))]) S tys tys_ok 2 (by kernel_rfl) ?_
              clear S; intro a S
              refine w_go S rfl (op_load (t := (.sl (.sl (.int .u8)))) (x := x0.2.2.2.1) S rfl ty40 rfl rfl rfl (RepAt.add 3 (RepAt.st (t := (.pair .bool (.pair (.int .u8) (.pair (.int .i64) (.pair (.sl (.sl (.int .u8))) (.int .i64)))))) B_2.at_)) ?_)
              clear S; intro a v_50 R_51 S
              refine w_go S rfl (op_len (K := _) S rfl ty40 rfl rfl rfl R_51 ?_)
              clear S; intro a G_52 S
              refine wl_pure (l' := [(64, .bool (decide (c_41 < (lenI x0.2.2.2.1)))), (63, .int .i64 (lenI x0.2.2.2.1)), (62, v_50), (61, .pointer (some ((⟨b_1, 0, .none⟩ : Addr).add (coff (.pair .bool (.pair (.int .u8) (.pair (.int .i64) (.pair (.sl (.sl (.int .u8))) (.int .i64))))) 3)))), (60, .int .i64 c_41), (3, .int .i64 c_41), (1, .pointer (some (⟨b_1, 0, .none⟩ : Addr)))]) S tys tys_ok 1 (by kernel_rfl) ?_
              clear S; intro a S
              refine wpList_nil ?_
              refine then_n ?_
              replace S := S.sub (l' := [(64, .bool (decide (c_41 < (lenI x0.2.2.2.1)))), (3, .int .i64 c_41), (1, .pointer (some (⟨b_1, 0, .none⟩ : Addr)))]) (by exact ⟨rfl, rfl, rfl, trivial⟩)
              refine wp_cond_split (S.eval (show ev _ _ = some (.bool (decide (c_41 < (lenI x0.2.2.2.1)))) from rfl)) ?_ ?_
              · intro hc
                rw [if_pos hc] at hl_48
                refine wp_skip ?_
                refine then_n ?_
                replace S := S.sub (l' := [(3, .int .i64 c_41), (1, .pointer (some (⟨b_1, 0, .none⟩ : Addr)))]) (by exact ⟨rfl, rfl, trivial⟩)
                refine wp_seq ?_
                refine wp_block ?_
                refine wp_seq ?_
                obtain ⟨y_55, ey_55, hl_48⟩ := bindS hl_48
                have hR : Rel (Kx K w.heap.size [some b_1]) Bl := Bl.rel _
                refine wp_region_all hR [eqv (.pointer (some ((⟨b_1, 0, .none⟩ : Addr).add (coff (.pair .bool (.pair (.int .u8) (.pair (.int .i64) (.pair (.sl (.sl (.int .u8))) (.int .i64))))) 3)))), isRep (.sl (.sl (.int .u8))) (Kx K w.heap.size [some b_1]) x0.2.2.2.1, isI .i64 c_41, isEl (.sl (.int .u8)) (Kx K w.heap.size [some b_1]) y_55, isRep (.sl (.int .u8)) (Kx K w.heap.size [some b_1]) y_55, isI .i64 (lenI y_55), eqv (.pointer (some ((⟨b_1, 0, .none⟩ : Addr).add (coff (.pair .bool (.pair (.int .u8) (.pair (.int .i64) (.pair (.sl (.sl (.int .u8))) (.int .i64))))) 2)))), isI .i64 x0.2.2.1, eqv (.bool (decide ((lenI y_55) > x0.2.2.1)))] [[], [(0, 67)], [], [(1, 68), (2, 69)], [(3, 70)], [(4, 71)], [], [(6, 73)], [(5, 72), (7, 74)]] (by kernel_rfl) (by rw [S.size]; kernel_rfl) (by kernel_rfl) (by kernel_rfl) rfl ⟨(stab_eqv _), (stab_rep hR), stab_I, (stab_el hR), (stab_rep hR), stab_I, (stab_eqv _), stab_I, (stab_eqv _), trivial⟩ ?_ ?_
                ·
                  refine RunAll.cons (eqv (.pointer (some ((⟨b_1, 0, .none⟩ : Addr).add (coff (.pair .bool (.pair (.int .u8) (.pair (.int .i64) (.pair (.sl (.sl (.int .u8))) (.int .i64))))) 3))))) [] rfl rfl ?_ ?_
                  · intro W_ hW
                    have S1 := S
                    refine fill_nil S1 ?_; clear S1; intro a_ S1
                    replace B_2 := B_2.step hW
                    have S0 := S.defers; replace S := S1; clear S1
                    refine wl_pure (l' := [(67, .pointer (some ((⟨b_1, 0, .none⟩ : Addr).add (coff (.pair .bool (.pair (.int .u8) (.pair (.int .i64) (.pair (.sl (.sl (.int .u8))) (.int .i64))))) 3)))), (3, .int .i64 c_41), (1, .pointer (some (⟨b_1, 0, .none⟩ : Addr)))]) S tys tys_ok 1 (by kernel_rfl) ?_; clear S; intro a S
                    refine wpList_nil ?_
                    exact RPost.mk_ S rfl S0 rfl (Below.refl _ _)
                  refine RunAll.cons (isRep (.sl (.sl (.int .u8))) (Kx K w.heap.size [some b_1]) x0.2.2.2.1) [(eqv (.pointer (some ((⟨b_1, 0, .none⟩ : Addr).add (coff (.pair .bool (.pair (.int .u8) (.pair (.int .i64) (.pair (.sl (.sl (.int .u8))) (.int .i64))))) 3)))), 67)] rfl rfl ?_ ?_
                  · intro W_ hW
                    have S1 := S
                    intro v_65 hF_64; obtain rfl : .pointer (some ((⟨b_1, 0, .none⟩ : Addr).add (coff (.pair .bool (.pair (.int .u8) (.pair (.int .i64) (.pair (.sl (.sl (.int .u8))) (.int .i64))))) 3))) = v_65 := Eq.symm hF_64
                    replace S1 := S1.put (by decide : 67 < 76) (.pointer (some ((⟨b_1, 0, .none⟩ : Addr).add (coff (.pair .bool (.pair (.int .u8) (.pair (.int .i64) (.pair (.sl (.sl (.int .u8))) (.int .i64))))) 3))))
                    refine fill_nil S1 ?_; clear S1; intro a_ S1
                    replace B_2 := B_2.step hW
                    have S0 := S.defers; replace S := S1; clear S1
                    refine w_go S rfl (op_load (t := (.sl (.sl (.int .u8)))) (x := x0.2.2.2.1) S rfl ty40 rfl rfl rfl (RepAt.add 3 (RepAt.st (t := (.pair .bool (.pair (.int .u8) (.pair (.int .i64) (.pair (.sl (.sl (.int .u8))) (.int .i64)))))) B_2.at_)) ?_)
                    clear S; intro a v_66 R_67 S
                    refine wpList_nil ?_
                    exact RPost.mk_ S rfl S0 R_67 (Below.refl _ _)
                  refine RunAll.cons (isI .i64 c_41) [] rfl rfl ?_ ?_
                  · intro W_ hW
                    have S1 := S
                    refine fill_nil S1 ?_; clear S1; intro a_ S1
                    have S0 := S.defers; replace S := S1; clear S1
                    refine wl_pure (l' := [(69, .int .i64 c_41), (3, .int .i64 c_41), (1, .pointer (some (⟨b_1, 0, .none⟩ : Addr)))]) S tys tys_ok 1 (by kernel_rfl) ?_; clear S; intro a S
                    refine wpList_nil ?_
                    exact RPost.mk_ S rfl S0 ⟨rfl, G_42⟩ (Below.refl _ _)
                  refine RunAll.cons (isEl (.sl (.int .u8)) (Kx K w.heap.size [some b_1]) y_55) [(isRep (.sl (.sl (.int .u8))) (Kx K w.heap.size [some b_1]) x0.2.2.2.1, 68), (isI .i64 c_41, 69)] rfl rfl ?_ ?_
                  · intro W_ hW
                    have S1 := S
                    intro v_69 hF_68; replace hF_68 : RepV _ _ _ _ _ := hF_68
                    replace S1 := S1.put (by decide : 68 < 76) (v_69)
                    rintro _ ⟨rfl, hF_70⟩
                    replace S1 := S1.put (by decide : 69 < 76) (.int .i64 c_41)
                    refine fill_nil S1 ?_; clear S1; intro a_ S1
                    replace W := W.step hW
                    have S0 := S.defers; replace S := S1; clear S1
                    refine w_go S rfl (op_indexAddr S rfl ty40 rfl rfl rfl hF_68 rfl ey_55 ?_)
                    clear S; intro a p_72 R_73 H_74 S
                    refine wpList_nil ?_
                    exact RPost.mk_ S rfl S0 ⟨_, rfl, R_73, H_74⟩ (Below.refl _ _)
                  refine RunAll.cons (isRep (.sl (.int .u8)) (Kx K w.heap.size [some b_1]) y_55) [(isEl (.sl (.int .u8)) (Kx K w.heap.size [some b_1]) y_55, 70)] rfl rfl ?_ ?_
                  · intro W_ hW
                    have S1 := S
                    rintro _ ⟨p_77, rfl, R_78, H_79⟩
                    replace S1 := S1.put (by decide : 70 < 76) (.pointer (some p_77))
                    refine fill_nil S1 ?_; clear S1; intro a_ S1
                    have S0 := S.defers; replace S := S1; clear S1
                    refine w_go S rfl (op_load (t := (.sl (.int .u8))) (x := y_55) S rfl ty51 rfl rfl rfl R_78 ?_)
                    clear S; intro a v_80 R_81 S
                    refine wpList_nil ?_
                    exact RPost.mk_ S rfl S0 R_81 (Below.refl _ _)
                  refine RunAll.cons (isI .i64 (lenI y_55)) [(isRep (.sl (.int .u8)) (Kx K w.heap.size [some b_1]) y_55, 71)] rfl rfl ?_ ?_
                  · intro W_ hW
                    have S1 := S
                    intro v_83 hF_82; replace hF_82 : RepV _ _ _ _ _ := hF_82
                    replace S1 := S1.put (by decide : 71 < 76) (v_83)
                    refine fill_nil S1 ?_; clear S1; intro a_ S1
                    replace W := W.step hW
                    have S0 := S.defers; replace S := S1; clear S1
                    refine w_go S rfl (op_len (K := _) S rfl ty51 rfl rfl rfl hF_82 ?_)
                    clear S; intro a G_84 S
                    refine wpList_nil ?_
                    exact RPost.mk_ S rfl S0 ⟨rfl, G_84⟩ (Below.refl _ _)
                  refine RunAll.cons (eqv (.pointer (some ((⟨b_1, 0, .none⟩ : Addr).add (coff (.pair .bool (.pair (.int .u8) (.pair (.int .i64) (.pair (.sl (.sl (.int .u8))) (.int .i64))))) 2))))) [] rfl rfl ?_ ?_
                  · intro W_ hW
                    have S1 := S
                    refine fill_nil S1 ?_; clear S1; intro a_ S1
                    replace B_2 := B_2.step hW
                    have S0 := S.defers; replace S := S1; clear S1
                    refine wl_pure (l' := [(73, .pointer (some ((⟨b_1, 0, .none⟩ : Addr).add (coff (.pair .bool (.pair (.int .u8) (.pair (.int .i64) (.pair (.sl (.sl (.int .u8))) (.int .i64))))) 2)))), (3, .int .i64 c_41), (1, .pointer (some (⟨b_1, 0, .none⟩ : Addr)))]) S tys tys_ok 1 (by kernel_rfl) ?_; clear S; intro a S
                    refine wpList_nil ?_
                    exact RPost.mk_ S rfl S0 rfl (Below.refl _ _)
                  refine RunAll.cons (isI .i64 x0.2.2.1) [(eqv (.pointer (some ((⟨b_1, 0, .none⟩ : Addr).add (coff (.pair .bool (.pair (.int .u8) (.pair (.int .i64) (.pair (.sl (.sl (.int .u8))) (.int .i64))))) 2)))), 73)] rfl rfl ?_ ?_
                  · intro W_ hW
                    have S1 := S
                    intro v_86 hF_85; obtain rfl : .pointer (some ((⟨b_1, 0, .none⟩ : Addr).add (coff (.pair .bool (.pair (.int .u8) (.pair (.int .i64) (.pair (.sl (.sl (.int .u8))) (.int .i64))))) 2))) = v_86 := Eq.symm hF_85
                    replace S1 := S1.put (by decide : 73 < 76) (.pointer (some ((⟨b_1, 0, .none⟩ : Addr).add (coff (.pair .bool (.pair (.int .u8) (.pair (.int .i64) (.pair (.sl (.sl (.int .u8))) (.int .i64))))) 2))))
                    refine fill_nil S1 ?_; clear S1; intro a_ S1
                    replace B_2 := B_2.step hW
                    have S0 := S.defers; replace S := S1; clear S1
                    refine w_go S rfl (op_load (t := (.int .i64)) (x := x0.2.2.1) S rfl ty3 rfl rfl rfl (RepAt.add 2 (RepAt.st (t := (.pair .bool (.pair (.int .u8) (.pair (.int .i64) (.pair (.sl (.sl (.int .u8))) (.int .i64)))))) B_2.at_)) ?_)
                    clear S; intro a v_87 R_88 S
                    obtain ⟨rfl, GR_88⟩ := RepV.int R_88
                    refine wpList_nil ?_
                    exact RPost.mk_ S rfl S0 ⟨rfl, GR_88⟩ (Below.refl _ _)
                  refine RunAll.cons (eqv (.bool (decide ((lenI y_55) > x0.2.2.1)))) [(isI .i64 (lenI y_55), 72), (isI .i64 x0.2.2.1, 74)] rfl rfl ?_ ?_
                  · intro W_ hW
                    have S1 := S
                    rintro _ ⟨rfl, hF_89⟩
                    replace S1 := S1.put (by decide : 72 < 76) (.int .i64 (lenI y_55))
                    rintro _ ⟨rfl, hF_91⟩
                    replace S1 := S1.put (by decide : 74 < 76) (.int .i64 x0.2.2.1)
                    refine fill_nil S1 ?_; clear S1; intro a_ S1
                    have S0 := S.defers; replace S := S1; clear S1
                    refine wl_pure (l' := [(75, .bool (decide ((lenI y_55) > x0.2.2.1))), (74, .int .i64 x0.2.2.1), (72, .int .i64 (lenI y_55)), (3, .int .i64 c_41), (1, .pointer (some (⟨b_1, 0, .none⟩ : Addr)))]) S tys tys_ok 1 (by kernel_rfl) ?_; clear S; intro a S
                    refine wpList_nil ?_
                    exact RPost.mk_ S rfl S0 rfl (Below.refl _ _)
                  exact trivial
                intro w_93 hb_94
                refine EndE.some_ rfl ?_
                intro v_96 hF_95; obtain rfl : .pointer (some ((⟨b_1, 0, .none⟩ : Addr).add (coff (.pair .bool (.pair (.int .u8) (.pair (.int .i64) (.pair (.sl (.sl (.int .u8))) (.int .i64))))) 3))) = v_96 := Eq.symm hF_95
                replace S := S.put (by decide : 67 < 76) (.pointer (some ((⟨b_1, 0, .none⟩ : Addr).add (coff (.pair .bool (.pair (.int .u8) (.pair (.int .i64) (.pair (.sl (.sl (.int .u8))) (.int .i64))))) 3))))
                refine EndE.some_ rfl ?_
                intro v_98 hF_97; replace hF_97 : RepV _ _ _ _ _ := hF_97
                replace S := S.put (by decide : 68 < 76) (v_98)
                refine EndE.some_ rfl ?_
                rintro _ ⟨rfl, hF_99⟩
                replace S := S.put (by decide : 69 < 76) (.int .i64 c_41)
                refine EndE.some_ rfl ?_
                rintro _ ⟨p_103, rfl, R_104, H_105⟩
                replace S := S.put (by decide : 70 < 76) (.pointer (some p_103))
                refine EndE.some_ rfl ?_
                intro v_107 hF_106; replace hF_106 : RepV _ _ _ _ _ := hF_106
                replace S := S.put (by decide : 71 < 76) (v_107)
                refine EndE.some_ rfl ?_
                rintro _ ⟨rfl, hF_108⟩
                replace S := S.put (by decide : 72 < 76) (.int .i64 (lenI y_55))
                refine EndE.some_ rfl ?_
                intro v_111 hF_110; obtain rfl : .pointer (some ((⟨b_1, 0, .none⟩ : Addr).add (coff (.pair .bool (.pair (.int .u8) (.pair (.int .i64) (.pair (.sl (.sl (.int .u8))) (.int .i64))))) 2))) = v_111 := Eq.symm hF_110
                replace S := S.put (by decide : 73 < 76) (.pointer (some ((⟨b_1, 0, .none⟩ : Addr).add (coff (.pair .bool (.pair (.int .u8) (.pair (.int .i64) (.pair (.sl (.sl (.int .u8))) (.int .i64))))) 2))))
                refine EndE.some_ rfl ?_
                rintro _ ⟨rfl, hF_112⟩
                replace S := S.put (by decide : 74 < 76) (.int .i64 x0.2.2.1)
                refine EndE.some_ rfl ?_
                intro v_115 hF_114; obtain rfl : .bool (decide ((lenI y_55) > x0.2.2.1)) = v_115 := Eq.symm hF_114
                replace S := S.put (by decide : 75 < 76) (.bool (decide ((lenI y_55) > x0.2.2.1)))
                refine endE_nil S ?_; clear S; intro a S
                replace B_2 := B_2.step hb_94
                replace W := W.step hb_94
                refine then_n ?_
                replace S := S.sub (l' := [(75, .bool (decide ((lenI y_55) > x0.2.2.1))), (3, .int .i64 c_41), (1, .pointer (some (⟨b_1, 0, .none⟩ : Addr)))]) (by exact ⟨rfl, rfl, rfl, trivial⟩)
                refine wp_cond_split (S.eval (show ev _ _ = some (.bool (decide ((lenI y_55) > x0.2.2.1))) from rfl)) ?_ ?_
                · intro hc
                  rw [if_pos hc] at hl_48
                  refine wp_seq ?_
                  refine wp_region_lit ?_
                  refine wl_pure (l' := [(2, .int .i64 3), (75, .bool (decide ((lenI y_55) > x0.2.2.1))), (3, .int .i64 c_41), (1, .pointer (some (⟨b_1, 0, .none⟩ : Addr)))]) S tys tys_ok 1 (by kernel_rfl) ?_
                  clear S; intro a S
                  refine wpList_nil ?_
                  refine then_n ?_
                  replace S := S.sub (l' := [(2, .int .i64 3)]) (by exact ⟨rfl, trivial⟩)
                  refine wp_ret ?_
                  refine blk_r ?_
                  refine then_r ?_
                  refine then_r ?_
                  refine blk_r ?_
                  refine then_r ?_
                  refine then_r ?_
                  obtain rfl := Option.some.inj hl_48
                  obtain rfl := lr_inr h
                  exact b_ret1 S rfl rfl ⟨_, rfl, (RepV.mkInt (by decide)), W.below⟩
                · intro hc
                  rw [if_neg (Bool.eq_false_iff.1 hc)] at hl_48
                  refine wp_skip ?_
                  refine blk_n ?_
                  refine then_n ?_
                  replace S := S.sub (l' := [(3, .int .i64 c_41), (1, .pointer (some (⟨b_1, 0, .none⟩ : Addr)))]) (by exact ⟨rfl, rfl, trivial⟩)
                  refine wp_region_lit ?_
                  refine wl_pure (l' := [(65, .int .i64 c_41), (3, .int .i64 c_41), (1, .pointer (some (⟨b_1, 0, .none⟩ : Addr)))]) S tys tys_ok 1 (by kernel_rfl) ?_
                  clear S; intro a S
                  obtain ⟨x_116, ex_116, hl_48⟩ := bindS hl_48
                  refine w_go S rfl (op_arith S .i64 (c_41 + 1) rfl (.inl rfl) rfl rfl rfl rfl ex_116 ?_)
                  clear S; intro a S
                  refine wl_pure (l' := [(3, .int .i64 x_116), (66, .int .i64 x_116), (65, .int .i64 c_41), (3, .int .i64 c_41), (1, .pointer (some (⟨b_1, 0, .none⟩ : Addr)))]) S tys tys_ok 1 (by kernel_rfl) ?_
                  clear S; intro a S
                  refine wpList_nil ?_
                  refine then_n ?_
                  exact ⟨x_116, ⟨S.sub (by exact ⟨rfl, rfl, trivial⟩), W, (ckI_some ex_116).2.1, B_2, hl_48⟩⟩
              · intro hc
                rw [if_neg (Bool.eq_false_iff.1 hc)] at hl_48
                refine wp_exit ?_
                refine then_x ?_
                refine then_x ?_
                refine blk_hit ?_
                refine then_n ?_
                obtain rfl := Option.some.inj hl_48
                exact ⟨_, rfl, ⟨S.sub trivial, W, B_2⟩⟩
        clear S W; rintro a w_117 ⟨s_46, rfl, S, W, B_2⟩
        replace h := lr_inl h; try dsimp only at h
        refine then_n ?_
        refine wp_seq ?_
        refine wp_region_lit ?_
        refine wl_pure (l' := [(2, .int .i64 0)]) S tys tys_ok 1 (by kernel_rfl) ?_
        clear S; intro a S
        refine wpList_nil ?_
        refine then_n ?_
        refine wp_ret ?_
        obtain rfl := Option.some.inj h
        exact b_ret1 S rfl rfl ⟨_, rfl, (RepV.mkInt (by decide)), W.below⟩
theorem cb17 : callB Try.prog 17 = true := by kernel_rfl
def p19 (n : Nat) (x0 : (Bool × Int × Int × (Sl (Sl (Int))) × Int) × Int × (Sl (Int × (Sl (Int))))) : Option ((Int × Int × Int × Bool × Bool × Int × (Sl (Int))) × (Bool)) :=
  if ((lenI x0.2.2) == x0.2.1) then (some ((0, 0, 0, false, false, 0, ⟨[], some 0⟩), false)) else if x0.1.1 then (some ((0, x0.1.2.1, 9, false, true, x0.1.2.2.1, ⟨[], some 0⟩), true)) else (idx x0.1.2.2.2.1.xs (lenI x0.2.2)).bind fun y_38 => (p25 n y_38).bind fun t_44 => some ((0, x0.1.2.1, 1, false, true, 0, t_44), true)
set_option maxHeartbeats 4000000 in
set_option maxRecDepth 100000 in
/-- plugboard/periodics.Next -/
theorem c19 (K : Nat → Prop) (n : Nat) (w : World) (x0 : (Bool × Int × Int × (Sl (Sl (Int))) × Int) × Int × (Sl (Int × (Sl (Int))))) (v0 : Value) (R0 : RepV (.st (.pair (.st (.pair .bool (.pair (.int .u8) (.pair (.int .i64) (.pair (.sl (.sl (.int .u8))) (.int .i64)))))) (.pair (.int .i64) (.sl (.st (.pair (.int .i64) (.sl (.int .u8)))))))) w K v0 x0) {r : (Int × Int × Int × Bool × Bool × Int × (Sl (Int))) × (Bool)} (h : p19 n x0 = some r) :
    Calls Try.prog 19 #[v0] w (Ret2 (.st (.pair (.int .u8) (.pair (.int .u8) (.pair (.int .u8) (.pair .bool (.pair .bool (.pair (.int .i64) (.sl (.int .u8))))))))) .bool w (Kx K w.heap.size []) r) := by
  refine enter (args := [v0]) Try.func19 rfl 34 rfl rfl fun a S => ?_
  have W := Wd.start w
  replace R0 := R0.arg
  unfold p19 at h
  replace S : St 34 a [(0, v0)] := S
  refine wp_seq ?_
  refine wp_region_lit ?_
  refine w_go S rfl (op_box S rfl rfl rfl rfl rfl R0 ?_)
  clear S; intro a w_3 b_1 hb_4 B_2 S
  replace R0 := R0.box hb_4
  replace W := W.box hb_4
  refine w_go S rfl (op_alloc (K := K) (n := w.heap.size) (L := [some b_1]) (t := (.st (.pair (.int .u8) (.pair (.int .u8) (.pair (.int .u8) (.pair .bool (.pair .bool (.pair (.int .i64) (.sl (.int .u8)))))))))) (y := (0, 0, 0, false, false, 0, ⟨[], some 0⟩)) S rfl rfl rfl _ z53 (fun w K => ⟨[.int .u8 0], [.int .u8 0, .int .u8 0, .bool false, .bool false, .int .i64 0, .slice .none 0 0], rfl, ⟨rfl, by decide⟩, ⟨[.int .u8 0], [.int .u8 0, .bool false, .bool false, .int .i64 0, .slice .none 0 0], rfl, ⟨rfl, by decide⟩, ⟨[.int .u8 0], [.bool false, .bool false, .int .i64 0, .slice .none 0 0], rfl, ⟨rfl, by decide⟩, ⟨[.bool false], [.bool false, .int .i64 0, .slice .none 0 0], rfl, rfl, ⟨[.bool false], [.int .i64 0, .slice .none 0 0], rfl, rfl, ⟨[.int .i64 0], [.slice .none 0 0], rfl, ⟨rfl, by decide⟩, ⟨.none, 0, 0, rfl, rfl, Nat.le_refl _, by decide, fun k h => Option.some.inj h, .inl rfl⟩⟩⟩⟩⟩⟩⟩) ?_)
  clear S; intro a w_7 b_5 hb_8 B_6 S
  replace R0 := R0.box hb_8
  replace B_2 := B_2.box hb_8
  replace W := W.box hb_8
  refine wl_pure (l' := [(3, .bool false), (2, .pointer (some (⟨b_5, 0, .none⟩ : Addr))), (1, .pointer (some (⟨b_1, 0, .none⟩ : Addr))), (0, v0)]) S tys tys_ok 1 (by kernel_rfl) ?_
  clear S; intro a S
  refine wpList_nil ?_
  refine then_n ?_
  replace S := S.sub (l' := [(2, .pointer (some (⟨b_5, 0, .none⟩ : Addr))), (1, .pointer (some (⟨b_1, 0, .none⟩ : Addr)))]) (by exact ⟨rfl, rfl, trivial⟩)
  refine wp_seq ?_
  refine wp_region_lit ?_
  refine wl_pure (l' := [(5, .pointer (some ((⟨b_1, 0, .none⟩ : Addr).add (coff (.pair (.st (.pair .bool (.pair (.int .u8) (.pair (.int .i64) (.pair (.sl (.sl (.int .u8))) (.int .i64)))))) (.pair (.int .i64) (.sl (.st (.pair (.int .i64) (.sl (.int .u8))))))) 2)))), (2, .pointer (some (⟨b_5, 0, .none⟩ : Addr))), (1, .pointer (some (⟨b_1, 0, .none⟩ : Addr)))]) S tys tys_ok 1 (by kernel_rfl) ?_
  clear S; intro a S
  refine w_go S rfl (op_load (t := (.sl (.st (.pair (.int .i64) (.sl (.int .u8)))))) (x := x0.2.2) S rfl ty45 rfl rfl rfl (RepAt.add 2 (RepAt.st (t := (.pair (.st (.pair .bool (.pair (.int .u8) (.pair (.int .i64) (.pair (.sl (.sl (.int .u8))) (.int .i64)))))) (.pair (.int .i64) (.sl (.st (.pair (.int .i64) (.sl (.int .u8)))))))) B_2.at_)) ?_)
  clear S; intro a v_9 R_10 S
  refine w_go S rfl (op_len (K := _) S rfl ty45 rfl rfl rfl R_10 ?_)
  clear S; intro a G_11 S
  refine wl_pure (l' := [(4, .int .i64 (lenI x0.2.2)), (7, .int .i64 (lenI x0.2.2)), (6, v_9), (5, .pointer (some ((⟨b_1, 0, .none⟩ : Addr).add (coff (.pair (.st (.pair .bool (.pair (.int .u8) (.pair (.int .i64) (.pair (.sl (.sl (.int .u8))) (.int .i64)))))) (.pair (.int .i64) (.sl (.st (.pair (.int .i64) (.sl (.int .u8))))))) 2)))), (2, .pointer (some (⟨b_5, 0, .none⟩ : Addr))), (1, .pointer (some (⟨b_1, 0, .none⟩ : Addr)))]) S tys tys_ok 1 (by kernel_rfl) ?_
  clear S; intro a S
  refine wpList_nil ?_
  refine then_n ?_
  replace S := S.sub (l' := [(4, .int .i64 (lenI x0.2.2)), (2, .pointer (some (⟨b_5, 0, .none⟩ : Addr))), (1, .pointer (some (⟨b_1, 0, .none⟩ : Addr)))]) (by exact ⟨rfl, rfl, rfl, trivial⟩)
  refine wp_seq ?_
  refine wp_seq ?_
  refine wp_region_lit ?_
  refine wl_pure (l' := [(9, .pointer (some ((⟨b_1, 0, .none⟩ : Addr).add (coff (.pair (.st (.pair .bool (.pair (.int .u8) (.pair (.int .i64) (.pair (.sl (.sl (.int .u8))) (.int .i64)))))) (.pair (.int .i64) (.sl (.st (.pair (.int .i64) (.sl (.int .u8))))))) 1)))), (8, .int .i64 (lenI x0.2.2)), (4, .int .i64 (lenI x0.2.2)), (2, .pointer (some (⟨b_5, 0, .none⟩ : Addr))), (1, .pointer (some (⟨b_1, 0, .none⟩ : Addr)))]) S tys tys_ok 2 (by kernel_rfl) ?_
  clear S; intro a S
  refine w_go S rfl (op_load (t := (.int .i64)) (x := x0.2.1) S rfl ty3 rfl rfl rfl (RepAt.add 1 (RepAt.st (t := (.pair (.st (.pair .bool (.pair (.int .u8) (.pair (.int .i64) (.pair (.sl (.sl (.int .u8))) (.int .i64)))))) (.pair (.int .i64) (.sl (.st (.pair (.int .i64) (.sl (.int .u8)))))))) B_2.at_)) ?_)
  clear S; intro a v_12 R_13 S
  obtain ⟨rfl, GR_13⟩ := RepV.int R_13
  refine wl_pure (l' := [(11, .bool ((lenI x0.2.2) == x0.2.1)), (10, .int .i64 x0.2.1), (9, .pointer (some ((⟨b_1, 0, .none⟩ : Addr).add (coff (.pair (.st (.pair .bool (.pair (.int .u8) (.pair (.int .i64) (.pair (.sl (.sl (.int .u8))) (.int .i64)))))) (.pair (.int .i64) (.sl (.st (.pair (.int .i64) (.sl (.int .u8))))))) 1)))), (8, .int .i64 (lenI x0.2.2)), (4, .int .i64 (lenI x0.2.2)), (2, .pointer (some (⟨b_5, 0, .none⟩ : Addr))), (1, .pointer (some (⟨b_1, 0, .none⟩ : Addr)))]) S tys tys_ok 1 (by kernel_rfl) ?_
  clear S; intro a S
  refine wpList_nil ?_
  refine then_n ?_
  replace S := S.sub (l' := [(11, .bool ((lenI x0.2.2) == x0.2.1)), (4, .int .i64 (lenI x0.2.2)), (2, .pointer (some (⟨b_5, 0, .none⟩ : Addr))), (1, .pointer (some (⟨b_1, 0, .none⟩ : Addr)))]) (by exact ⟨rfl, rfl, rfl, rfl, trivial⟩)
  refine wp_cond_split (S.eval (show ev _ _ = some (.bool ((lenI x0.2.2) == x0.2.1)) from rfl)) ?_ ?_
  · intro hc
    rw [if_pos hc] at h
    refine wp_seq ?_
    refine wp_region_lit ?_
    refine w_go S rfl (op_build (K := (Kx K w.heap.size [some b_5, some b_1])) (f := (.pair (.int .u8) (.pair (.int .u8) (.pair (.int .u8) (.pair .bool (.pair .bool (.pair (.int .i64) (.sl (.int .u8))))))))) (z0 := (0, 0, 0, false, false, 0, ⟨[], some 0⟩)) (x := (0, 0, 0, false, false, 0, ⟨[], some 0⟩)) (vs := []) S _ rfl ty53 z53 (fun w K => ⟨[.int .u8 0], [.int .u8 0, .int .u8 0, .bool false, .bool false, .int .i64 0, .slice .none 0 0], rfl, ⟨rfl, by decide⟩, ⟨[.int .u8 0], [.int .u8 0, .bool false, .bool false, .int .i64 0, .slice .none 0 0], rfl, ⟨rfl, by decide⟩, ⟨[.int .u8 0], [.bool false, .bool false, .int .i64 0, .slice .none 0 0], rfl, ⟨rfl, by decide⟩, ⟨[.bool false], [.bool false, .int .i64 0, .slice .none 0 0], rfl, rfl, ⟨[.bool false], [.int .i64 0, .slice .none 0 0], rfl, rfl, ⟨[.int .i64 0], [.slice .none 0 0], rfl, ⟨rfl, by decide⟩, ⟨.none, 0, 0, rfl, rfl, Nat.le_refl _, by decide, fun k h => Option.some.inj h, .inl rfl⟩⟩⟩⟩⟩⟩⟩) rfl rfl rfl [] rfl rfl ?_)
    clear S; intro a v_14 R_15 S
    refine w_go S rfl (op_store (t' := (.st (.pair (.int .u8) (.pair (.int .u8) (.pair (.int .u8) (.pair .bool (.pair .bool (.pair (.int .i64) (.sl (.int .u8)))))))))) S rfl rfl ty53 rfl rfl rfl B_6 (by simp) Ln.whole R_15 ?_)
    intro w_16 hw_17 B_
    replace R_15 := R_15.wrote hw_17 (by simp)
    replace B_2 := B_2.wrote hw_17 (by simp) (W.bne (p := 1) (q := 0) (by decide) rfl rfl)
    replace W := W.wrote hw_17 (by simp)
    replace B_6 : Bx (.st (.pair (.int .u8) (.pair (.int .u8) (.pair (.int .u8) (.pair .bool (.pair .bool (.pair (.int .i64) (.sl (.int .u8))))))))) 53 w_16 (Kx K w.heap.size [some b_5, some b_1]) b_5 (0, 0, 0, false, false, 0, ⟨[], some 0⟩) := B_; clear B_
    refine wl_pure (l' := [(3, .bool false), (12, v_14), (11, .bool ((lenI x0.2.2) == x0.2.1)), (4, .int .i64 (lenI x0.2.2)), (2, .pointer (some (⟨b_5, 0, .none⟩ : Addr))), (1, .pointer (some (⟨b_1, 0, .none⟩ : Addr)))]) S tys tys_ok 1 (by kernel_rfl) ?_
    clear S; intro a S
    refine wpList_nil ?_
    refine then_n ?_
    replace S := S.sub (l' := [(3, .bool false), (2, .pointer (some (⟨b_5, 0, .none⟩ : Addr)))]) (by exact ⟨rfl, rfl, trivial⟩)
    refine wp_ret ?_
    refine then_r ?_
    obtain ⟨v_18, hr_19, R_20⟩ := res_cell (P := Try.prog) (T := 53) (t := (.st (.pair (.int .u8) (.pair (.int .u8) (.pair (.int .u8) (.pair .bool (.pair .bool (.pair (.int .i64) (.sl (.int .u8)))))))))) (x := (0, 0, 0, false, false, 0, ⟨[], some 0⟩)) S (s := 2) rfl ty53 B_6.at_
    obtain rfl := Option.some.inj h
    exact b_res2 S rfl hr_19 (res_tmp S rfl) ⟨_, _, rfl, R_20.out, RepV.mkBool, W.below⟩
  · intro hc
    rw [if_neg (Bool.eq_false_iff.1 hc)] at h
    refine wp_skip ?_
    refine then_n ?_
    replace S := S.sub (l' := [(4, .int .i64 (lenI x0.2.2)), (2, .pointer (some (⟨b_5, 0, .none⟩ : Addr))), (1, .pointer (some (⟨b_1, 0, .none⟩ : Addr)))]) (by exact ⟨rfl, rfl, rfl, trivial⟩)
    refine wp_seq ?_
    refine wp_seq ?_
    refine wp_region_lit ?_
    refine wl_pure (l' := [(14, .pointer (some (((⟨b_1, 0, .none⟩ : Addr).add (coff (.pair (.st (.pair .bool (.pair (.int .u8) (.pair (.int .i64) (.pair (.sl (.sl (.int .u8))) (.int .i64)))))) (.pair (.int .i64) (.sl (.st (.pair (.int .i64) (.sl (.int .u8))))))) 0)).add (coff (.pair .bool (.pair (.int .u8) (.pair (.int .i64) (.pair (.sl (.sl (.int .u8))) (.int .i64))))) 0)))), (13, .pointer (some ((⟨b_1, 0, .none⟩ : Addr).add (coff (.pair (.st (.pair .bool (.pair (.int .u8) (.pair (.int .i64) (.pair (.sl (.sl (.int .u8))) (.int .i64)))))) (.pair (.int .i64) (.sl (.st (.pair (.int .i64) (.sl (.int .u8))))))) 0)))), (4, .int .i64 (lenI x0.2.2)), (2, .pointer (some (⟨b_5, 0, .none⟩ : Addr))), (1, .pointer (some (⟨b_1, 0, .none⟩ : Addr)))]) S tys tys_ok 2 (by kernel_rfl) ?_
    clear S; intro a S
    refine w_go S rfl (op_load (t := .bool) (x := x0.1.1) S rfl ty4 rfl rfl rfl (RepAt.add 0 (RepAt.st (t := (.pair .bool (.pair (.int .u8) (.pair (.int .i64) (.pair (.sl (.sl (.int .u8))) (.int .i64)))))) (RepAt.add 0 (RepAt.st (t := (.pair (.st (.pair .bool (.pair (.int .u8) (.pair (.int .i64) (.pair (.sl (.sl (.int .u8))) (.int .i64)))))) (.pair (.int .i64) (.sl (.st (.pair (.int .i64) (.sl (.int .u8)))))))) B_2.at_)))) ?_)
    clear S; intro a v_21 R_22 S
    obtain rfl := RepV.bool R_22
    refine wpList_nil ?_
    refine then_n ?_
    replace S := S.sub (l' := [(15, .bool x0.1.1), (4, .int .i64 (lenI x0.2.2)), (2, .pointer (some (⟨b_5, 0, .none⟩ : Addr))), (1, .pointer (some (⟨b_1, 0, .none⟩ : Addr)))]) (by exact ⟨rfl, rfl, rfl, rfl, trivial⟩)
    refine wp_cond_split (S.eval (show ev _ _ = some (.bool x0.1.1) from rfl)) ?_ ?_
    · intro hc
      rw [if_pos hc] at h
      refine wp_seq ?_
      refine wp_region_lit ?_
      refine wl_pure (l' := [(17, .pointer (some (((⟨b_1, 0, .none⟩ : Addr).add (coff (.pair (.st (.pair .bool (.pair (.int .u8) (.pair (.int .i64) (.pair (.sl (.sl (.int .u8))) (.int .i64)))))) (.pair (.int .i64) (.sl (.st (.pair (.int .i64) (.sl (.int .u8))))))) 0)).add (coff (.pair .bool (.pair (.int .u8) (.pair (.int .i64) (.pair (.sl (.sl (.int .u8))) (.int .i64))))) 1)))), (16, .pointer (some ((⟨b_1, 0, .none⟩ : Addr).add (coff (.pair (.st (.pair .bool (.pair (.int .u8) (.pair (.int .i64) (.pair (.sl (.sl (.int .u8))) (.int .i64)))))) (.pair (.int .i64) (.sl (.st (.pair (.int .i64) (.sl (.int .u8))))))) 0)))), (15, .bool x0.1.1), (4, .int .i64 (lenI x0.2.2)), (2, .pointer (some (⟨b_5, 0, .none⟩ : Addr))), (1, .pointer (some (⟨b_1, 0, .none⟩ : Addr)))]) S tys tys_ok 2 (by kernel_rfl) ?_
      clear S; intro a S
      refine w_go S rfl (op_load (t := (.int .u8)) (x := x0.1.2.1) S rfl ty5 rfl rfl rfl (RepAt.add 1 (RepAt.st (t := (.pair .bool (.pair (.int .u8) (.pair (.int .i64) (.pair (.sl (.sl (.int .u8))) (.int .i64)))))) (RepAt.add 0 (RepAt.st (t := (.pair (.st (.pair .bool (.pair (.int .u8) (.pair (.int .i64) (.pair (.sl (.sl (.int .u8))) (.int .i64)))))) (.pair (.int .i64) (.sl (.st (.pair (.int .i64) (.sl (.int .u8)))))))) B_2.at_)))) ?_)
      clear S; intro a v_23 R_24 S
      obtain ⟨rfl, GR_24⟩ := RepV.int R_24
      refine wl_pure (l' := [(20, .pointer (some (((⟨b_1, 0, .none⟩ : Addr).add (coff (.pair (.st (.pair .bool (.pair (.int .u8) (.pair (.int .i64) (.pair (.sl (.sl (.int .u8))) (.int .i64)))))) (.pair (.int .i64) (.sl (.st (.pair (.int .i64) (.sl (.int .u8))))))) 0)).add (coff (.pair .bool (.pair (.int .u8) (.pair (.int .i64) (.pair (.sl (.sl (.int .u8))) (.int .i64))))) 2)))), (19, .pointer (some ((⟨b_1, 0, .none⟩ : Addr).add (coff (.pair (.st (.pair .bool (.pair (.int .u8) (.pair (.int .i64) (.pair (.sl (.sl (.int .u8))) (.int .i64)))))) (.pair (.int .i64) (.sl (.st (.pair (.int .i64) (.sl (.int .u8))))))) 0)))), (18, .int .u8 x0.1.2.1), (17, .pointer (some (((⟨b_1, 0, .none⟩ : Addr).add (coff (.pair (.st (.pair .bool (.pair (.int .u8) (.pair (.int .i64) (.pair (.sl (.sl (.int .u8))) (.int .i64)))))) (.pair (.int .i64) (.sl (.st (.pair (.int .i64) (.sl (.int .u8))))))) 0)).add (coff (.pair .bool (.pair (.int .u8) (.pair (.int .i64) (.pair (.sl (.sl (.int .u8))) (.int .i64))))) 1)))), (16, .pointer (some ((⟨b_1, 0, .none⟩ : Addr).add (coff (.pair (.st (.pair .bool (.pair (.int .u8) (.pair (.int .i64) (.pair (.sl (.sl (.int .u8))) (.int .i64)))))) (.pair (.int .i64) (.sl (.st (.pair (.int .i64) (.sl (.int .u8))))))) 0)))), (15, .bool x0.1.1), (4, .int .i64 (lenI x0.2.2)), (2, .pointer (some (⟨b_5, 0, .none⟩ : Addr))), (1, .pointer (some (⟨b_1, 0, .none⟩ : Addr)))]) S tys tys_ok 2 (by kernel_rfl) ?_
      clear S; intro a S
      refine w_go S rfl (op_load (t := (.int .i64)) (x := x0.1.2.2.1) S rfl ty3 rfl rfl rfl (RepAt.add 2 (RepAt.st (t := (.pair .bool (.pair (.int .u8) (.pair (.int .i64) (.pair (.sl (.sl (.int .u8))) (.int .i64)))))) (RepAt.add 0 (RepAt.st (t := (.pair (.st (.pair .bool (.pair (.int .u8) (.pair (.int .i64) (.pair (.sl (.sl (.int .u8))) (.int .i64)))))) (.pair (.int .i64) (.sl (.st (.pair (.int .i64) (.sl (.int .u8)))))))) B_2.at_)))) ?_)
      clear S; intro a v_25 R_26 S
      obtain ⟨rfl, GR_26⟩ := RepV.int R_26
      refine w_go S rfl (op_build (K := (Kx K w.heap.size [some b_5, some b_1])) (f := (.pair (.int .u8) (.pair (.int .u8) (.pair (.int .u8) (.pair .bool (.pair .bool (.pair (.int .i64) (.sl (.int .u8))))))))) (z0 := (0, 0, 0, false, false, 0, ⟨[], some 0⟩)) (x := (0, x0.1.2.1, 9, false, true, x0.1.2.2.1, ⟨[], some 0⟩)) (vs := [.int .u8 x0.1.2.1, .int .u8 9, .bool true, .int .i64 x0.1.2.2.1]) S _ rfl ty53 z53 (fun w K => ⟨[.int .u8 0], [.int .u8 0, .int .u8 0, .bool false, .bool false, .int .i64 0, .slice .none 0 0], rfl, ⟨rfl, by decide⟩, ⟨[.int .u8 0], [.int .u8 0, .bool false, .bool false, .int .i64 0, .slice .none 0 0], rfl, ⟨rfl, by decide⟩, ⟨[.int .u8 0], [.bool false, .bool false, .int .i64 0, .slice .none 0 0], rfl, ⟨rfl, by decide⟩, ⟨[.bool false], [.bool false, .int .i64 0, .slice .none 0 0], rfl, rfl, ⟨[.bool false], [.int .i64 0, .slice .none 0 0], rfl, rfl, ⟨[.int .i64 0], [.slice .none 0 0], rfl, ⟨rfl, by decide⟩, ⟨.none, 0, 0, rfl, rfl, Nat.le_refl _, by decide, fun k h => Option.some.inj h, .inl rfl⟩⟩⟩⟩⟩⟩⟩) rfl rfl rfl [(1, .int .u8 x0.1.2.1), (2, .int .u8 9), (4, .bool true), (5, .int .i64 x0.1.2.2.1)] rfl ⟨_, (RepV.mkInt GR_24), rfl, rfl, ⟨_, (RepV.mkInt (by decide)), rfl, rfl, ⟨_, RepV.mkBool, rfl, rfl, ⟨_, (RepV.mkInt GR_26), rfl, rfl, rfl⟩⟩⟩⟩ ?_)
      clear S; intro a v_27 R_28 S
      refine w_go S rfl (op_store (t' := (.st (.pair (.int .u8) (.pair (.int .u8) (.pair (.int .u8) (.pair .bool (.pair .bool (.pair (.int .i64) (.sl (.int .u8)))))))))) S rfl rfl ty53 rfl rfl rfl B_6 (by simp) Ln.whole R_28 ?_)
      intro w_29 hw_30 B_
      replace R_28 := R_28.wrote hw_30 (by simp)
      replace B_2 := B_2.wrote hw_30 (by simp) (W.bne (p := 1) (q := 0) (by decide) rfl rfl)
      replace W := W.wrote hw_30 (by simp)
      replace B_6 : Bx (.st (.pair (.int .u8) (.pair (.int .u8) (.pair (.int .u8) (.pair .bool (.pair .bool (.pair (.int .i64) (.sl (.int .u8))))))))) 53 w_29 (Kx K w.heap.size [some b_5, some b_1]) b_5 (0, x0.1.2.1, 9, false, true, x0.1.2.2.1, ⟨[], some 0⟩) := B_; clear B_
      refine wl_pure (l' := [(3, .bool true), (22, v_27), (21, .int .i64 x0.1.2.2.1), (20, .pointer (some (((⟨b_1, 0, .none⟩ : Addr).add (coff (.pair (.st (.pair .bool (.pair (.int .u8) (.pair (.int .i64) (.pair (.sl (.sl (.int .u8))) (.int .i64)))))) (.pair (.int .i64) (.sl (.st (.pair (.int .i64) (.sl (.int .u8))))))) 0)).add (coff (.pair .bool (.pair (.int .u8) (.pair (.int .i64) (.pair (.sl (.sl (.int .u8))) (.int .i64))))) 2)))), (19, .pointer (some ((⟨b_1, 0, .none⟩ : Addr).add (coff (.pair (.st (.pair .bool (.pair (.int .u8) (.pair (.int .i64) (.pair (.sl (.sl (.int .u8))) (.int .i64)))))) (.pair (.int .i64) (.sl (.st (.pair (.int .i64) (.sl (.int .u8))))))) 0)))), (18, .int .u8 x0.1.2.1), (17, .pointer (some (((⟨b_1, 0, .none⟩ : Addr).add (coff (.pair (.st (.pair .bool (.pair (.int .u8) (.pair (.int .i64) (.pair (.sl (.sl (.int .u8))) (.int .i64)))))) (.pair (.int .i64) (.sl (.st (.pair (.int .i64) (.sl (.int .u8))))))) 0)).add (coff (.pair .bool (.pair (.int .u8) (.pair (.int .i64) (.pair (.sl (.sl (.int .u8))) (.int .i64))))) 1)))), (16, .pointer (some ((⟨b_1, 0, .none⟩ : Addr).add (coff (.pair (.st (.pair .bool (.pair (.int .u8) (.pair (.int .i64) (.pair (.sl (.sl (.int .u8))) (.int .i64)))))) (.pair (.int .i64) (.sl (.st (.pair (.int .i64) (.sl (.int .u8))))))) 0)))), (15, .bool x0.1.1), (4, .int .i64 (lenI x0.2.2)), (2, .pointer (some (⟨b_5, 0, .none⟩ : Addr))), (1, .pointer (some (⟨b_1, 0, .none⟩ : Addr)))]) S tys tys_ok 1 (by kernel_rfl) ?_
      clear S; intro a S
      refine wpList_nil ?_
      refine then_n ?_
      replace S := S.sub (l' := [(3, .bool true), (2, .pointer (some (⟨b_5, 0, .none⟩ : Addr)))]) (by exact ⟨rfl, rfl, trivial⟩)
      refine wp_ret ?_
      refine then_r ?_
      obtain ⟨v_31, hr_32, R_33⟩ := res_cell (P := Try.prog) (T := 53) (t := (.st (.pair (.int .u8) (.pair (.int .u8) (.pair (.int .u8) (.pair .bool (.pair .bool (.pair (.int .i64) (.sl (.int .u8)))))))))) (x := (0, x0.1.2.1, 9, false, true, x0.1.2.2.1, ⟨[], some 0⟩)) S (s := 2) rfl ty53 B_6.at_
      obtain rfl := Option.some.inj h
      exact b_res2 S rfl hr_32 (res_tmp S rfl) ⟨_, _, rfl, R_33.out, RepV.mkBool, W.below⟩
    · intro hc
      rw [if_neg (Bool.eq_false_iff.1 hc)] at h
      refine wp_skip ?_
      refine then_n ?_
      replace S := S.sub (l' := [(4, .int .i64 (lenI x0.2.2)), (2, .pointer (some (⟨b_5, 0, .none⟩ : Addr))), (1, .pointer (some (⟨b_1, 0, .none⟩ : Addr)))]) (by exact ⟨rfl, rfl, rfl, trivial⟩)
      refine wp_seq ?_
      obtain ⟨y_38, ey_38, h⟩ := bindS h
      obtain ⟨t_44, et_44, h⟩ := bindS h
      have hR : Rel (Kx K w.heap.size [some b_5, some b_1]) Bl := Bl.rel _
      refine wp_region_suf 10 [1, 2, 10, 4, 5, 7, 7, 8, 9, 10, 11, 12] hR [eqv (.pointer (some ((⟨b_1, 0, .none⟩ : Addr).add (coff (.pair (.st (.pair .bool (.pair (.int .u8) (.pair (.int .i64) (.pair (.sl (.sl (.int .u8))) (.int .i64)))))) (.pair (.int .i64) (.sl (.st (.pair (.int .i64) (.sl (.int .u8))))))) 0)))), eqv (.pointer (some (((⟨b_1, 0, .none⟩ : Addr).add (coff (.pair (.st (.pair .bool (.pair (.int .u8) (.pair (.int .i64) (.pair (.sl (.sl (.int .u8))) (.int .i64)))))) (.pair (.int .i64) (.sl (.st (.pair (.int .i64) (.sl (.int .u8))))))) 0)).add (coff (.pair .bool (.pair (.int .u8) (.pair (.int .i64) (.pair (.sl (.sl (.int .u8))) (.int .i64))))) 1)))), isI .u8 x0.1.2.1, eqv (.pointer (some ((⟨b_1, 0, .none⟩ : Addr).add (coff (.pair (.st (.pair .bool (.pair (.int .u8) (.pair (.int .i64) (.pair (.sl (.sl (.int .u8))) (.int .i64)))))) (.pair (.int .i64) (.sl (.st (.pair (.int .i64) (.sl (.int .u8))))))) 0)))), eqv (.pointer (some (((⟨b_1, 0, .none⟩ : Addr).add (coff (.pair (.st (.pair .bool (.pair (.int .u8) (.pair (.int .i64) (.pair (.sl (.sl (.int .u8))) (.int .i64)))))) (.pair (.int .i64) (.sl (.st (.pair (.int .i64) (.sl (.int .u8))))))) 0)).add (coff (.pair .bool (.pair (.int .u8) (.pair (.int .i64) (.pair (.sl (.sl (.int .u8))) (.int .i64))))) 3)))), isRep (.sl (.sl (.int .u8))) (Kx K w.heap.size [some b_5, some b_1]) x0.1.2.2.2.1, isI .i64 (lenI x0.2.2), isEl (.sl (.int .u8)) (Kx K w.heap.size [some b_5, some b_1]) y_38, isRep (.sl (.int .u8)) (Kx K w.heap.size [some b_5, some b_1]) y_38, isRep (.sl (.int .u8)) (Kx K w.heap.size [some b_5, some b_1]) t_44] [[], [(0, 23)], [(1, 24)], [], [(3, 26)], [(4, 27)], [], [(5, 28), (6, 29)], [(7, 30)], [(8, 31)]] (by kernel_rfl) (by rw [S.size]; kernel_rfl) (by kernel_rfl) (by kernel_rfl) (by kernel_rfl) rfl ⟨(stab_eqv _), (stab_eqv _), stab_I, (stab_eqv _), (stab_eqv _), (stab_rep hR), stab_I, (stab_el hR), (stab_rep hR), (stab_rep hR), trivial⟩ ?_ ?_
      ·
        refine RunAll.cons (eqv (.pointer (some ((⟨b_1, 0, .none⟩ : Addr).add (coff (.pair (.st (.pair .bool (.pair (.int .u8) (.pair (.int .i64) (.pair (.sl (.sl (.int .u8))) (.int .i64)))))) (.pair (.int .i64) (.sl (.st (.pair (.int .i64) (.sl (.int .u8))))))) 0))))) [] rfl rfl ?_ ?_
        · intro W_ hW
          have S1 := S
          refine fill_nil S1 ?_; clear S1; intro a_ S1
          replace B_2 := B_2.step hW
          have S0 := S.defers; replace S := S1; clear S1
          refine wl_pure (l' := [(23, .pointer (some ((⟨b_1, 0, .none⟩ : Addr).add (coff (.pair (.st (.pair .bool (.pair (.int .u8) (.pair (.int .i64) (.pair (.sl (.sl (.int .u8))) (.int .i64)))))) (.pair (.int .i64) (.sl (.st (.pair (.int .i64) (.sl (.int .u8))))))) 0)))), (4, .int .i64 (lenI x0.2.2)), (2, .pointer (some (⟨b_5, 0, .none⟩ : Addr))), (1, .pointer (some (⟨b_1, 0, .none⟩ : Addr)))]) S tys tys_ok 1 (by kernel_rfl) ?_; clear S; intro a S
          refine wpList_nil ?_
          exact RPost.mk_ S rfl S0 rfl (Below.refl _ _)
        refine RunAll.cons (eqv (.pointer (some (((⟨b_1, 0, .none⟩ : Addr).add (coff (.pair (.st (.pair .bool (.pair (.int .u8) (.pair (.int .i64) (.pair (.sl (.sl (.int .u8))) (.int .i64)))))) (.pair (.int .i64) (.sl (.st (.pair (.int .i64) (.sl (.int .u8))))))) 0)).add (coff (.pair .bool (.pair (.int .u8) (.pair (.int .i64) (.pair (.sl (.sl (.int .u8))) (.int .i64))))) 1))))) [(eqv (.pointer (some ((⟨b_1, 0, .none⟩ : Addr).add (coff (.pair (.st (.pair .bool (.pair (.int .u8) (.pair (.int .i64) (.pair (.sl (.sl (.int .u8))) (.int .i64)))))) (.pair (.int .i64) (.sl (.st (.pair (.int .i64) (.sl (.int .u8))))))) 0)))), 23)] rfl rfl ?_ ?_
        · intro W_ hW
          have S1 := S
          intro v_50 hF_49; obtain rfl : .pointer (some ((⟨b_1, 0, .none⟩ : Addr).add (coff (.pair (.st (.pair .bool (.pair (.int .u8) (.pair (.int .i64) (.pair (.sl (.sl (.int .u8))) (.int .i64)))))) (.pair (.int .i64) (.sl (.st (.pair (.int .i64) (.sl (.int .u8))))))) 0))) = v_50 := Eq.symm hF_49
          replace S1 := S1.put (by decide : 23 < 34) (.pointer (some ((⟨b_1, 0, .none⟩ : Addr).add (coff (.pair (.st (.pair .bool (.pair (.int .u8) (.pair (.int .i64) (.pair (.sl (.sl (.int .u8))) (.int .i64)))))) (.pair (.int .i64) (.sl (.st (.pair (.int .i64) (.sl (.int .u8))))))) 0))))
          refine fill_nil S1 ?_; clear S1; intro a_ S1
          replace B_2 := B_2.step hW
          have S0 := S.defers; replace S := S1; clear S1
          refine wl_pure (l' := [(24, .pointer (some (((⟨b_1, 0, .none⟩ : Addr).add (coff (.pair (.st (.pair .bool (.pair (.int .u8) (.pair (.int .i64) (.pair (.sl (.sl (.int .u8))) (.int .i64)))))) (.pair (.int .i64) (.sl (.st (.pair (.int .i64) (.sl (.int .u8))))))) 0)).add (coff (.pair .bool (.pair (.int .u8) (.pair (.int .i64) (.pair (.sl (.sl (.int .u8))) (.int .i64))))) 1)))), (23, .pointer (some ((⟨b_1, 0, .none⟩ : Addr).add (coff (.pair (.st (.pair .bool (.pair (.int .u8) (.pair (.int .i64) (.pair (.sl (.sl (.int .u8))) (.int .i64)))))) (.pair (.int .i64) (.sl (.st (.pair (.int .i64) (.sl (.int .u8))))))) 0)))), (4, .int .i64 (lenI x0.2.2)), (2, .pointer (some (⟨b_5, 0, .none⟩ : Addr))), (1, .pointer (some (⟨b_1, 0, .none⟩ : Addr)))]) S tys tys_ok 1 (by kernel_rfl) ?_; clear S; intro a S
          refine wpList_nil ?_
          exact RPost.mk_ S rfl S0 rfl (Below.refl _ _)
        refine RunAll.cons (isI .u8 x0.1.2.1) [(eqv (.pointer (some (((⟨b_1, 0, .none⟩ : Addr).add (coff (.pair (.st (.pair .bool (.pair (.int .u8) (.pair (.int .i64) (.pair (.sl (.sl (.int .u8))) (.int .i64)))))) (.pair (.int .i64) (.sl (.st (.pair (.int .i64) (.sl (.int .u8))))))) 0)).add (coff (.pair .bool (.pair (.int .u8) (.pair (.int .i64) (.pair (.sl (.sl (.int .u8))) (.int .i64))))) 1)))), 24)] rfl rfl ?_ ?_
        · intro W_ hW
          have S1 := S
          intro v_52 hF_51; obtain rfl : .pointer (some (((⟨b_1, 0, .none⟩ : Addr).add (coff (.pair (.st (.pair .bool (.pair (.int .u8) (.pair (.int .i64) (.pair (.sl (.sl (.int .u8))) (.int .i64)))))) (.pair (.int .i64) (.sl (.st (.pair (.int .i64) (.sl (.int .u8))))))) 0)).add (coff (.pair .bool (.pair (.int .u8) (.pair (.int .i64) (.pair (.sl (.sl (.int .u8))) (.int .i64))))) 1))) = v_52 := Eq.symm hF_51
          replace S1 := S1.put (by decide : 24 < 34) (.pointer (some (((⟨b_1, 0, .none⟩ : Addr).add (coff (.pair (.st (.pair .bool (.pair (.int .u8) (.pair (.int .i64) (.pair (.sl (.sl (.int .u8))) (.int .i64)))))) (.pair (.int .i64) (.sl (.st (.pair (.int .i64) (.sl (.int .u8))))))) 0)).add (coff (.pair .bool (.pair (.int .u8) (.pair (.int .i64) (.pair (.sl (.sl (.int .u8))) (.int .i64))))) 1))))
          refine fill_nil S1 ?_; clear S1; intro a_ S1
          replace B_2 := B_2.step hW
          have S0 := S.defers; replace S := S1; clear S1
          refine w_go S rfl (op_load (t := (.int .u8)) (x := x0.1.2.1) S rfl ty5 rfl rfl rfl (RepAt.add 1 (RepAt.st (t := (.pair .bool (.pair (.int .u8) (.pair (.int .i64) (.pair (.sl (.sl (.int .u8))) (.int .i64)))))) (RepAt.add 0 (RepAt.st (t := (.pair (.st (.pair .bool (.pair (.int .u8) (.pair (.int .i64) (.pair (.sl (.sl (.int .u8))) (.int .i64)))))) (.pair (.int .i64) (.sl (.st (.pair (.int .i64) (.sl (.int .u8)))))))) B_2.at_)))) ?_)
          clear S; intro a v_53 R_54 S
          obtain ⟨rfl, GR_54⟩ := RepV.int R_54
          refine wpList_nil ?_
          exact RPost.mk_ S rfl S0 ⟨rfl, GR_54⟩ (Below.refl _ _)
        refine RunAll.cons (eqv (.pointer (some ((⟨b_1, 0, .none⟩ : Addr).add (coff (.pair (.st (.pair .bool (.pair (.int .u8) (.pair (.int .i64) (.pair (.sl (.sl (.int .u8))) (.int .i64)))))) (.pair (.int .i64) (.sl (.st (.pair (.int .i64) (.sl (.int .u8))))))) 0))))) [] rfl rfl ?_ ?_
        · intro W_ hW
          have S1 := S
          refine fill_nil S1 ?_; clear S1; intro a_ S1
          replace B_2 := B_2.step hW
          have S0 := S.defers; replace S := S1; clear S1
          refine wl_pure (l' := [(26, .pointer (some ((⟨b_1, 0, .none⟩ : Addr).add (coff (.pair (.st (.pair .bool (.pair (.int .u8) (.pair (.int .i64) (.pair (.sl (.sl (.int .u8))) (.int .i64)))))) (.pair (.int .i64) (.sl (.st (.pair (.int .i64) (.sl (.int .u8))))))) 0)))), (4, .int .i64 (lenI x0.2.2)), (2, .pointer (some (⟨b_5, 0, .none⟩ : Addr))), (1, .pointer (some (⟨b_1, 0, .none⟩ : Addr)))]) S tys tys_ok 1 (by kernel_rfl) ?_; clear S; intro a S
          refine wpList_nil ?_
          exact RPost.mk_ S rfl S0 rfl (Below.refl _ _)
        refine RunAll.cons (eqv (.pointer (some (((⟨b_1, 0, .none⟩ : Addr).add (coff (.pair (.st (.pair .bool (.pair (.int .u8) (.pair (.int .i64) (.pair (.sl (.sl (.int .u8))) (.int .i64)))))) (.pair (.int .i64) (.sl (.st (.pair (.int .i64) (.sl (.int .u8))))))) 0)).add (coff (.pair .bool (.pair (.int .u8) (.pair (.int .i64) (.pair (.sl (.sl (.int .u8))) (.int .i64))))) 3))))) [(eqv (.pointer (some ((⟨b_1, 0, .none⟩ : Addr).add (coff (.pair (.st (.pair .bool (.pair (.int .u8) (.pair (.int .i64) (.pair (.sl (.sl (.int .u8))) (.int .i64)))))) (.pair (.int .i64) (.sl (.st (.pair (.int .i64) (.sl (.int .u8))))))) 0)))), 26)] rfl rfl ?_ ?_
        · intro W_ hW
          have S1 := S
          intro v_56 hF_55; obtain rfl : .pointer (some ((⟨b_1, 0, .none⟩ : Addr).add (coff (.pair (.st (.pair .bool (.pair (.int .u8) (.pair (.int .i64) (.pair (.sl (.sl (.int .u8))) (.int .i64)))))) (.pair (.int .i64) (.sl (.st (.pair (.int .i64) (.sl (.int .u8))))))) 0))) = v_56 := Eq.symm hF_55
          replace S1 := S1.put (by decide : 26 < 34) (.pointer (some ((⟨b_1, 0, .none⟩ : Addr).add (coff (.pair (.st (.pair .bool (.pair (.int .u8) (.pair (.int .i64) (.pair (.sl (.sl (.int .u8))) (.int .i64)))))) (.pair (.int .i64) (.sl (.st (.pair (.int .i64) (.sl (.int .u8))))))) 0))))
          refine fill_nil S1 ?_; clear S1; intro a_ S1
          replace B_2 := B_2.step hW
          have S0 := S.defers; replace S := S1; clear S1
          refine wl_pure (l' := [(27, .pointer (some (((⟨b_1, 0, .none⟩ : Addr).add (coff (.pair (.st (.pair .bool (.pair (.int .u8) (.pair (.int .i64) (.pair (.sl (.sl (.int .u8))) (.int .i64)))))) (.pair (.int .i64) (.sl (.st (.pair (.int .i64) (.sl (.int .u8))))))) 0)).add (coff (.pair .bool (.pair (.int .u8) (.pair (.int .i64) (.pair (.sl (.sl (.int .u8))) (.int .i64))))) 3)))), (26, .pointer (some ((⟨b_1, 0, .none⟩ : Addr).add (coff (.pair (.st (.pair .bool (.pair (.int .u8) (.pair (.int .i64) (.pair (.sl (.sl (.int .u8))) (.int .i64)))))) (.pair (.int .i64) (.sl (.st (.pair (.int .i64) (.sl (.int .u8))))))) 0)))), (4, .int .i64 (lenI x0.2.2)), (2, .pointer (some (⟨b_5, 0, .none⟩ : Addr))), (1, .pointer (some (⟨b_1, 0, .none⟩ : Addr)))]) S tys tys_ok 1 (by kernel_rfl) ?_; clear S; intro a S
          refine wpList_nil ?_
          exact RPost.mk_ S rfl S0 rfl (Below.refl _ _)
        refine RunAll.cons (isRep (.sl (.sl (.int .u8))) (Kx K w.heap.size [some b_5, some b_1]) x0.1.2.2.2.1) [(eqv (.pointer (some (((⟨b_1, 0, .none⟩ : Addr).add (coff (.pair (.st (.pair .bool (.pair (.int .u8) (.pair (.int .i64) (.pair (.sl (.sl (.int .u8))) (.int .i64)))))) (.pair (.int .i64) (.sl (.st (.pair (.int .i64) (.sl (.int .u8))))))) 0)).add (coff (.pair .bool (.pair (.int .u8) (.pair (.int .i64) (.pair (.sl (.sl (.int .u8))) (.int .i64))))) 3)))), 27)] rfl rfl ?_ ?_
        · intro W_ hW
          have S1 := S
          intro v_58 hF_57; obtain rfl : .pointer (some (((⟨b_1, 0, .none⟩ : Addr).add (coff (.pair (.st (.pair .bool (.pair (.int .u8) (.pair (.int .i64) (.pair (.sl (.sl (.int .u8))) (.int .i64)))))) (.pair (.int .i64) (.sl (.st (.pair (.int .i64) (.sl (.int .u8))))))) 0)).add (coff (.pair .bool (.pair (.int .u8) (.pair (.int .i64) (.pair (.sl (.sl (.int .u8))) (.int .i64))))) 3))) = v_58 := Eq.symm hF_57
          replace S1 := S1.put (by decide : 27 < 34) (.pointer (some (((⟨b_1, 0, .none⟩ : Addr).add (coff (.pair (.st (.pair .bool (.pair (.int .u8) (.pair (.int .i64) (.pair (.sl (.sl (.int .u8))) (.int .i64)))))) (.pair (.int .i64) (.sl (.st (.pair (.int .i64) (.sl (.int .u8))))))) 0)).add (coff (.pair .bool (.pair (.int .u8) (.pair (.int .i64) (.pair (.sl (.sl (.int .u8))) (.int .i64))))) 3))))
          refine fill_nil S1 ?_; clear S1; intro a_ S1
          replace B_2 := B_2.step hW
          have S0 := S.defers; replace S := S1; clear S1
          refine w_go S rfl (op_load (t := (.sl (.sl (.int .u8)))) (x := x0.1.2.2.2.1) S rfl ty40 rfl rfl rfl (RepAt.add 3 (RepAt.st (t := (.pair .bool (.pair (.int .u8) (.pair (.int .i64) (.pair (.sl (.sl (.int .u8))) (.int .i64)))))) (RepAt.add 0 (RepAt.st (t := (.pair (.st (.pair .bool (.pair (.int .u8) (.pair (.int .i64) (.pair (.sl (.sl (.int .u8))) (.int .i64)))))) (.pair (.int .i64) (.sl (.st (.pair (.int .i64) (.sl (.int .u8)))))))) B_2.at_)))) ?_)
          clear S; intro a v_59 R_60 S
          refine wpList_nil ?_
          exact RPost.mk_ S rfl S0 R_60 (Below.refl _ _)
        refine RunAll.cons (isI .i64 (lenI x0.2.2)) [] rfl rfl ?_ ?_
        · intro W_ hW
          have S1 := S
          refine fill_nil S1 ?_; clear S1; intro a_ S1
          have S0 := S.defers; replace S := S1; clear S1
          refine wl_pure (l' := [(29, .int .i64 (lenI x0.2.2)), (4, .int .i64 (lenI x0.2.2)), (2, .pointer (some (⟨b_5, 0, .none⟩ : Addr))), (1, .pointer (some (⟨b_1, 0, .none⟩ : Addr)))]) S tys tys_ok 1 (by kernel_rfl) ?_; clear S; intro a S
          refine wpList_nil ?_
          exact RPost.mk_ S rfl S0 ⟨rfl, G_11⟩ (Below.refl _ _)
        refine RunAll.cons (isEl (.sl (.int .u8)) (Kx K w.heap.size [some b_5, some b_1]) y_38) [(isRep (.sl (.sl (.int .u8))) (Kx K w.heap.size [some b_5, some b_1]) x0.1.2.2.2.1, 28), (isI .i64 (lenI x0.2.2), 29)] rfl rfl ?_ ?_
        · intro W_ hW
          have S1 := S
          intro v_62 hF_61; replace hF_61 : RepV _ _ _ _ _ := hF_61
          replace S1 := S1.put (by decide : 28 < 34) (v_62)
          rintro _ ⟨rfl, hF_63⟩
          replace S1 := S1.put (by decide : 29 < 34) (.int .i64 (lenI x0.2.2))
          refine fill_nil S1 ?_; clear S1; intro a_ S1
          replace W := W.step hW
          have S0 := S.defers; replace S := S1; clear S1
          refine w_go S rfl (op_indexAddr S rfl ty40 rfl rfl rfl hF_61 rfl ey_38 ?_)
          clear S; intro a p_65 R_66 H_67 S
          refine wpList_nil ?_
          exact RPost.mk_ S rfl S0 ⟨_, rfl, R_66, H_67⟩ (Below.refl _ _)
        refine RunAll.cons (isRep (.sl (.int .u8)) (Kx K w.heap.size [some b_5, some b_1]) y_38) [(isEl (.sl (.int .u8)) (Kx K w.heap.size [some b_5, some b_1]) y_38, 30)] rfl rfl ?_ ?_
        · intro W_ hW
          have S1 := S
          rintro _ ⟨p_70, rfl, R_71, H_72⟩
          replace S1 := S1.put (by decide : 30 < 34) (.pointer (some p_70))
          refine fill_nil S1 ?_; clear S1; intro a_ S1
          have S0 := S.defers; replace S := S1; clear S1
          refine w_go S rfl (op_load (t := (.sl (.int .u8))) (x := y_38) S rfl ty51 rfl rfl rfl R_71 ?_)
          clear S; intro a v_73 R_74 S
          refine wpList_nil ?_
          exact RPost.mk_ S rfl S0 R_74 (Below.refl _ _)
        refine RunAll.cons (isRep (.sl (.int .u8)) (Kx K w.heap.size [some b_5, some b_1]) t_44) [(isRep (.sl (.int .u8)) (Kx K w.heap.size [some b_5, some b_1]) y_38, 31)] rfl rfl ?_ ?_
        · intro W_ hW
          have S1 := S
          intro v_76 hF_75; replace hF_75 : RepV _ _ _ _ _ := hF_75
          replace S1 := S1.put (by decide : 31 < 34) (v_76)
          refine fill_nil S1 ?_; clear S1; intro a_ S1
          replace W := W.step hW
          have S0 := S.defers; replace S := S1; clear S1
          refine w_go S rfl (op_call (vs := [v_76]) S rfl cb25 rfl rfl rfl (c25 (Kx K w.heap.size [some b_5, some b_1]) n W_ y_38 _ hF_75 et_44) ?_)
          rintro _ w_80 ⟨v_77, rfl, R_78, hb_79⟩; refine ⟨_, rfl, ?_⟩
          replace R_78 := Ow.pub0 R_78
          replace R_78 := RepV.back R_78 W
          clear S; intro a S
          refine wpList_nil ?_
          exact RPost.mk_ S rfl S0 R_78 (hb_79)
        exact trivial
      intro w_81 hb_82
      refine EndE.some_ rfl ?_
      intro v_84 hF_83; obtain rfl : .pointer (some ((⟨b_1, 0, .none⟩ : Addr).add (coff (.pair (.st (.pair .bool (.pair (.int .u8) (.pair (.int .i64) (.pair (.sl (.sl (.int .u8))) (.int .i64)))))) (.pair (.int .i64) (.sl (.st (.pair (.int .i64) (.sl (.int .u8))))))) 0))) = v_84 := Eq.symm hF_83
      replace S := S.put (by decide : 23 < 34) (.pointer (some ((⟨b_1, 0, .none⟩ : Addr).add (coff (.pair (.st (.pair .bool (.pair (.int .u8) (.pair (.int .i64) (.pair (.sl (.sl (.int .u8))) (.int .i64)))))) (.pair (.int .i64) (.sl (.st (.pair (.int .i64) (.sl (.int .u8))))))) 0))))
      refine EndE.some_ rfl ?_
      intro v_86 hF_85; obtain rfl : .pointer (some (((⟨b_1, 0, .none⟩ : Addr).add (coff (.pair (.st (.pair .bool (.pair (.int .u8) (.pair (.int .i64) (.pair (.sl (.sl (.int .u8))) (.int .i64)))))) (.pair (.int .i64) (.sl (.st (.pair (.int .i64) (.sl (.int .u8))))))) 0)).add (coff (.pair .bool (.pair (.int .u8) (.pair (.int .i64) (.pair (.sl (.sl (.int .u8))) (.int .i64))))) 1))) = v_86 := Eq.symm hF_85
      replace S := S.put (by decide : 24 < 34) (.pointer (some (((⟨b_1, 0, .none⟩ : Addr).add (coff (.pair (.st (.pair .bool (.pair (.int .u8) (.pair (.int .i64) (.pair (.sl (.sl (.int .u8))) (.int .i64)))))) (.pair (.int .i64) (.sl (.st (.pair (.int .i64) (.sl (.int .u8))))))) 0)).add (coff (.pair .bool (.pair (.int .u8) (.pair (.int .i64) (.pair (.sl (.sl (.int .u8))) (.int .i64))))) 1))))
      refine EndE.some_ rfl ?_
      rintro _ ⟨rfl, hF_87⟩
      replace S := S.put (by decide : 25 < 34) (.int .u8 x0.1.2.1)
      refine EndE.some_ rfl ?_
      intro v_90 hF_89; obtain rfl : .pointer (some ((⟨b_1, 0, .none⟩ : Addr).add (coff (.pair (.st (.pair .bool (.pair (.int .u8) (.pair (.int .i64) (.pair (.sl (.sl (.int .u8))) (.int .i64)))))) (.pair (.int .i64) (.sl (.st (.pair (.int .i64) (.sl (.int .u8))))))) 0))) = v_90 := Eq.symm hF_89
      replace S := S.put (by decide : 26 < 34) (.pointer (some ((⟨b_1, 0, .none⟩ : Addr).add (coff (.pair (.st (.pair .bool (.pair (.int .u8) (.pair (.int .i64) (.pair (.sl (.sl (.int .u8))) (.int .i64)))))) (.pair (.int .i64) (.sl (.st (.pair (.int .i64) (.sl (.int .u8))))))) 0))))
      refine EndE.some_ rfl ?_
      intro v_92 hF_91; obtain rfl : .pointer (some (((⟨b_1, 0, .none⟩ : Addr).add (coff (.pair (.st (.pair .bool (.pair (.int .u8) (.pair (.int .i64) (.pair (.sl (.sl (.int .u8))) (.int .i64)))))) (.pair (.int .i64) (.sl (.st (.pair (.int .i64) (.sl (.int .u8))))))) 0)).add (coff (.pair .bool (.pair (.int .u8) (.pair (.int .i64) (.pair (.sl (.sl (.int .u8))) (.int .i64))))) 3))) = v_92 := Eq.symm hF_91
      replace S := S.put (by decide : 27 < 34) (.pointer (some (((⟨b_1, 0, .none⟩ : Addr).add (coff (.pair (.st (.pair .bool (.pair (.int .u8) (.pair (.int .i64) (.pair (.sl (.sl (.int .u8))) (.int .i64)))))) (.pair (.int .i64) (.sl (.st (.pair (.int .i64) (.sl (.int .u8))))))) 0)).add (coff (.pair .bool (.pair (.int .u8) (.pair (.int .i64) (.pair (.sl (.sl (.int .u8))) (.int .i64))))) 3))))
      refine EndE.some_ rfl ?_
      intro v_94 hF_93; replace hF_93 : RepV _ _ _ _ _ := hF_93
      replace S := S.put (by decide : 28 < 34) (v_94)
      refine EndE.some_ rfl ?_
      rintro _ ⟨rfl, hF_95⟩
      replace S := S.put (by decide : 29 < 34) (.int .i64 (lenI x0.2.2))
      refine EndE.some_ rfl ?_
      rintro _ ⟨p_99, rfl, R_100, H_101⟩
      replace S := S.put (by decide : 30 < 34) (.pointer (some p_99))
      refine EndE.some_ rfl ?_
      intro v_103 hF_102; replace hF_102 : RepV _ _ _ _ _ := hF_102
      replace S := S.put (by decide : 31 < 34) (v_103)
      refine EndE.some_ rfl ?_
      intro v_105 hF_104; replace hF_104 : RepV _ _ _ _ _ := hF_104
      replace S := S.put (by decide : 32 < 34) (v_105)
      refine endE_nil S ?_; clear S; intro a S
      replace B_2 := B_2.step hb_82
      replace B_6 := B_6.step hb_82
      replace W := W.step hb_82
      refine w_go S rfl (op_build (K := (Kx K w.heap.size [some b_5, some b_1])) (f := (.pair (.int .u8) (.pair (.int .u8) (.pair (.int .u8) (.pair .bool (.pair .bool (.pair (.int .i64) (.sl (.int .u8))))))))) (z0 := (0, 0, 0, false, false, 0, ⟨[], some 0⟩)) (x := (0, x0.1.2.1, 1, false, true, 0, t_44)) (vs := [.int .u8 x0.1.2.1, .int .u8 1, .bool true, v_105]) S _ rfl ty53 z53 (fun w K => ⟨[.int .u8 0], [.int .u8 0, .int .u8 0, .bool false, .bool false, .int .i64 0, .slice .none 0 0], rfl, ⟨rfl, by decide⟩, ⟨[.int .u8 0], [.int .u8 0, .bool false, .bool false, .int .i64 0, .slice .none 0 0], rfl, ⟨rfl, by decide⟩, ⟨[.int .u8 0], [.bool false, .bool false, .int .i64 0, .slice .none 0 0], rfl, ⟨rfl, by decide⟩, ⟨[.bool false], [.bool false, .int .i64 0, .slice .none 0 0], rfl, rfl, ⟨[.bool false], [.int .i64 0, .slice .none 0 0], rfl, rfl, ⟨[.int .i64 0], [.slice .none 0 0], rfl, ⟨rfl, by decide⟩, ⟨.none, 0, 0, rfl, rfl, Nat.le_refl _, by decide, fun k h => Option.some.inj h, .inl rfl⟩⟩⟩⟩⟩⟩⟩) rfl rfl rfl [(1, .int .u8 x0.1.2.1), (2, .int .u8 1), (4, .bool true), (6, v_105)] rfl ⟨_, (RepV.mkInt hF_87), rfl, rfl, ⟨_, (RepV.mkInt (by decide)), rfl, rfl, ⟨_, RepV.mkBool, rfl, rfl, ⟨_, hF_104, rfl, rfl, rfl⟩⟩⟩⟩ ?_)
      clear S; intro a v_106 R_107 S
      refine w_go S rfl (op_store (t' := (.st (.pair (.int .u8) (.pair (.int .u8) (.pair (.int .u8) (.pair .bool (.pair .bool (.pair (.int .i64) (.sl (.int .u8)))))))))) S rfl rfl ty53 rfl rfl rfl B_6 (by simp) Ln.whole R_107 ?_)
      intro w_108 hw_109 B_
      replace hF_93 := hF_93.wrote hw_109 (by simp)
      replace hF_102 := hF_102.wrote hw_109 (by simp)
      replace hF_104 := hF_104.wrote hw_109 (by simp)
      replace R_107 := R_107.wrote hw_109 (by simp)
      replace B_2 := B_2.wrote hw_109 (by simp) (W.bne (p := 1) (q := 0) (by decide) rfl rfl)
      replace W := W.wrote hw_109 (by simp)
      replace B_6 : Bx (.st (.pair (.int .u8) (.pair (.int .u8) (.pair (.int .u8) (.pair .bool (.pair .bool (.pair (.int .i64) (.sl (.int .u8))))))))) 53 w_108 (Kx K w.heap.size [some b_5, some b_1]) b_5 (0, x0.1.2.1, 1, false, true, 0, t_44) := B_; clear B_
      refine wl_pure (l' := [(3, .bool true), (33, v_106), (32, v_105), (31, v_103), (30, .pointer (some p_99)), (29, .int .i64 (lenI x0.2.2)), (28, v_94), (27, .pointer (some (((⟨b_1, 0, .none⟩ : Addr).add (coff (.pair (.st (.pair .bool (.pair (.int .u8) (.pair (.int .i64) (.pair (.sl (.sl (.int .u8))) (.int .i64)))))) (.pair (.int .i64) (.sl (.st (.pair (.int .i64) (.sl (.int .u8))))))) 0)).add (coff (.pair .bool (.pair (.int .u8) (.pair (.int .i64) (.pair (.sl (.sl (.int .u8))) (.int .i64))))) 3)))), (26, .pointer (some ((⟨b_1, 0, .none⟩ : Addr).add (coff (.pair (.st (.pair .bool (.pair (.int .u8) (.pair (.int .i64) (.pair (.sl (.sl (.int .u8))) (.int .i64)))))) (.pair (.int .i64) (.sl (.st (.pair (.int .i64) (.sl (.int .u8))))))) 0)))), (25, .int .u8 x0.1.2.1), (24, .pointer (some (((⟨b_1, 0, .none⟩ : Addr).add (coff (.pair (.st (.pair .bool (.pair (.int .u8) (.pair (.int .i64) (.pair (.sl (.sl (.int .u8))) (.int .i64)))))) (.pair (.int .i64) (.sl (.st (.pair (.int .i64) (.sl (.int .u8))))))) 0)).add (coff (.pair .bool (.pair (.int .u8) (.pair (.int .i64) (.pair (.sl (.sl (.int .u8))) (.int .i64))))) 1)))), (23, .pointer (some ((⟨b_1, 0, .none⟩ : Addr).add (coff (.pair (.st (.pair .bool (.pair (.int .u8) (.pair (.int .i64) (.pair (.sl (.sl (.int .u8))) (.int .i64)))))) (.pair (.int .i64) (.sl (.st (.pair (.int .i64) (.sl (.int .u8))))))) 0)))), (4, .int .i64 (lenI x0.2.2)), (2, .pointer (some (⟨b_5, 0, .none⟩ : Addr))), (1, .pointer (some (⟨b_1, 0, .none⟩ : Addr)))]) S tys tys_ok 1 (by kernel_rfl) ?_
      clear S; intro a S
      refine wpList_nil ?_
      refine then_n ?_
      replace S := S.sub (l' := [(3, .bool true), (2, .pointer (some (⟨b_5, 0, .none⟩ : Addr)))]) (by exact ⟨rfl, rfl, trivial⟩)
      refine wp_ret ?_
      obtain ⟨v_110, hr_111, R_112⟩ := res_cell (P := Try.prog) (T := 53) (t := (.st (.pair (.int .u8) (.pair (.int .u8) (.pair (.int .u8) (.pair .bool (.pair .bool (.pair (.int .i64) (.sl (.int .u8)))))))))) (x := (0, x0.1.2.1, 1, false, true, 0, t_44)) S (s := 2) rfl ty53 B_6.at_
      obtain rfl := Option.some.inj h
      exact b_res2 S rfl hr_111 (res_tmp S rfl) ⟨_, _, rfl, R_112.out, RepV.mkBool, W.below⟩
theorem cb19 : callB Try.prog 19 = true := by kernel_rfl

end Go.Proofs.Ytpllbhofpppfcaa
