/- Functions of the program, as plain data. -/
import Derived.Test.YtpllbhofpppfcaaP0
set_option linter.unusedVariables false
set_option linter.unusedSimpArgs false
namespace Go.Proofs.Ytpllbhofpppfcaa
open Go.RowKit

def p22_l1 (n : Nat) (x0 : Int) (x1 : Int) : Nat → (Int) → Option ((Int))
  | 0, _ => .none
  | m + 1, c_1 => (ckI .i64 (2 * c_1)).bind fun x_10 => (if (decide (x_10 > x0)) = false then (ckI .i64 (2 * c_1)).bind fun x_12 => some (decide (x_12 > x1)) else some true).bind fun q_11 => if q_11 then (some c_1) else (ckI .i64 (c_1 * 2)).bind fun x_13 => p22_l1 n x0 x1 m x_13
def p22 (n : Nat) (x0 : Int) (x1 : Int) : Option ((Int)) :=
  (p22_l1 n x0 x1 n 1).bind fun (y_5 : (Int)) =>
  some y_5
set_option maxHeartbeats 4000000 in
set_option maxRecDepth 100000 in
/-- plugboard/periodics.below -/
theorem c22 (K : Nat → Prop) (n : Nat) (w : World) (x0 : Int) (G0 : InR .i64 x0) (x1 : Int) (G1 : InR .i64 x1) {r : (Int)} (h : p22 n x0 x1 = some r) :
    Calls Try.prog 22 #[.int .i64 x0, .int .i64 x1] w (Ret1 (.int .i64) w (Kx K w.heap.size []) r) := by
  refine enter (args := [.int .i64 x0, .int .i64 x1]) Try.func22 rfl 19 rfl rfl fun a S => ?_
  have W := Wd.start w
  unfold p22 at h
  replace S : St 19 a [(0, .int .i64 x0), (1, .int .i64 x1)] := S
  refine wp_seq ?_
  refine wp_region_lit ?_
  refine wl_pure (l' := [(4, .int .i64 0), (0, .int .i64 x0), (1, .int .i64 x1)]) S tys tys_ok 1 (by kernel_rfl) ?_
  clear S; intro a S
  refine wpList_nil ?_
  refine then_n ?_
  replace S := S.sub (l' := [(0, .int .i64 x0), (1, .int .i64 x1)]) (by exact ⟨rfl, rfl, trivial⟩)
  refine wp_scope_straight ?_
  refine wp_seq ?_
  refine wp_region_lit ?_
  refine wl_pure (l' := [(5, .int .i64 1), (0, .int .i64 x0), (1, .int .i64 x1)]) S tys tys_ok 1 (by kernel_rfl) ?_
  clear S; intro a S
  refine wpList_nil ?_
  refine then_n ?_
  refine wp_seq ?_
  refine wp_label ?_
  refine then_n ?_
  refine wp_seq ?_
  obtain ⟨y_5, ey_5, h⟩ := bindS h
  refine wp_cut_ (fun a_ w_ => St 19 a_ [(5, .int .i64 y_5)] ∧ Wd w w_ [] ∧ InR .i64 y_5) ?_ ?_
  · refine wp_block ?_
    refine wp_loop_n (fun m_ a_ w_ => ∃ (c_1 : Int) , St 19 a_ [(5, .int .i64 c_1), (0, .int .i64 x0), (1, .int .i64 x1)] ∧ Wd w w_ [] ∧ InR .i64 c_1 ∧ p22_l1 n x0 x1 m_ c_1 = some y_5) n ?_ ?_
    · skip
      exact ⟨1, ⟨S.sub (by exact ⟨rfl, rfl, rfl, trivial⟩), W, (by decide), ey_5⟩⟩
    · clear S W; rintro m_7 a w_9 ⟨c_1, S, W, G_2, hl_8⟩
      cases m_7 with
      | zero => exact absurd hl_8 (by simp [p22_l1])
      | succ m_7 =>
        refine ⟨m_7, rfl, ?_⟩
        rw [p22_l1] at hl_8
        refine wp_block ?_
        refine wp_seq ?_
        refine wp_seq ?_
        refine wp_region_lit ?_
        refine wl_pure (l' := [(6, .int .i64 c_1), (5, .int .i64 c_1), (0, .int .i64 x0), (1, .int .i64 x1)]) S tys tys_ok 1 (by kernel_rfl) ?_
        clear S; intro a S
        obtain ⟨x_10, ex_10, hl_8⟩ := bindS hl_8
        refine w_go S rfl (op_arith S .i64 (2 * c_1) rfl (.inr (.inr rfl)) rfl rfl rfl rfl ex_10 ?_)
        clear S; intro a S
        refine wl_pure (l' := [(10, .bool (decide (x_10 > x0))), (9, .bool (decide (x_10 > x0))), (8, .int .i64 x0), (7, .int .i64 x_10), (6, .int .i64 c_1), (5, .int .i64 c_1), (0, .int .i64 x0), (1, .int .i64 x1)]) S tys tys_ok 3 (by kernel_rfl) ?_
        clear S; intro a S
        obtain ⟨q_11, eq_11, hl_8⟩ := bindS hl_8
        refine seg 5 (fun a_ w_ => w_9 = w_ ∧ St 19 a_ [(15, .bool q_11), (5, .int .i64 c_1), (0, .int .i64 x0), (1, .int .i64 x1)]) ?_ ?_
        · by_cases hc : (decide (x_10 > x0)) = false
          · rw [if_pos hc] at eq_11; rw [hc] at S
            refine wl_pure (l' := [(11, .int .i64 c_1), (10, .bool false), (9, .bool false), (8, .int .i64 x0), (7, .int .i64 x_10), (6, .int .i64 c_1), (5, .int .i64 c_1), (0, .int .i64 x0), (1, .int .i64 x1)]) S tys tys_ok 1 (by kernel_rfl) ?_
            clear S; intro a S
            obtain ⟨x_12, ex_12, eq_11⟩ := bindS eq_11
            refine w_go S rfl (op_arith S .i64 (2 * c_1) rfl (.inr (.inr rfl)) rfl rfl rfl rfl ex_12 ?_)
            clear S; intro a S
            refine wl_pure (l' := [(15, .bool (decide (x_12 > x1))), (14, .bool (decide (x_12 > x1))), (13, .int .i64 x1), (12, .int .i64 x_12), (11, .int .i64 c_1), (10, .bool false), (9, .bool false), (8, .int .i64 x0), (7, .int .i64 x_10), (6, .int .i64 c_1), (5, .int .i64 c_1), (0, .int .i64 x0), (1, .int .i64 x1)]) S tys tys_ok 3 (by kernel_rfl) ?_
            clear S; intro a S
            obtain rfl := Option.some.inj eq_11
            exact ⟨rfl, S.sub (by exact ⟨rfl, rfl, rfl, rfl, trivial⟩)⟩
          · rw [if_neg hc] at eq_11; rw [show (decide (x_10 > x0)) = true from (by simpa using hc)] at S
            refine wl_pure (l' := [(15, .bool true), (14, undef), (13, undef), (12, undef), (11, undef), (10, .bool true), (9, .bool true), (8, .int .i64 x0), (7, .int .i64 x_10), (6, .int .i64 c_1), (5, .int .i64 c_1), (0, .int .i64 x0), (1, .int .i64 x1)]) S tys tys_ok 5 (by kernel_rfl) ?_
            clear S; intro a S
            obtain rfl := Option.some.inj eq_11
            exact ⟨rfl, S.sub (by exact ⟨rfl, rfl, rfl, rfl, trivial⟩)⟩
        clear S eq_11; rintro a _ ⟨rfl, S⟩
        refine wpList_nil ?_
        refine then_n ?_
        refine wp_cond_split (S.eval (show ev _ _ = some (.bool q_11) from rfl)) ?_ ?_
        · intro hc
          rw [if_pos hc] at hl_8
          refine wp_exit ?_
          refine then_x ?_
          refine blk_miss rfl ?_
          refine then_x ?_
          refine blk_hit ?_
          refine then_n ?_
          obtain rfl := Option.some.inj hl_8
          exact ⟨S.sub (by exact ⟨rfl, trivial⟩), W, G_2⟩
        · intro hc
          rw [if_neg (Bool.eq_false_iff.1 hc)] at hl_8
          refine wp_skip ?_
          refine then_n ?_
          replace S := S.sub (l' := [(5, .int .i64 c_1), (0, .int .i64 x0), (1, .int .i64 x1)]) (by exact ⟨rfl, rfl, rfl, trivial⟩)
          refine wp_region_lit ?_
          refine wl_pure (l' := [(16, .int .i64 c_1), (5, .int .i64 c_1), (0, .int .i64 x0), (1, .int .i64 x1)]) S tys tys_ok 1 (by kernel_rfl) ?_
          clear S; intro a S
          obtain ⟨x_13, ex_13, hl_8⟩ := bindS hl_8
          refine w_go S rfl (op_arith S .i64 (c_1 * 2) rfl (.inr (.inr rfl)) rfl rfl rfl rfl ex_13 ?_)
          clear S; intro a S
          refine wl_pure (l' := [(5, .int .i64 x_13), (17, .int .i64 x_13), (16, .int .i64 c_1), (5, .int .i64 c_1), (0, .int .i64 x0), (1, .int .i64 x1)]) S tys tys_ok 1 (by kernel_rfl) ?_
          clear S; intro a S
          refine wpList_nil ?_
          refine blk_n ?_
          refine then_n ?_
          exact ⟨x_13, ⟨S.sub (by exact ⟨rfl, rfl, rfl, trivial⟩), W, (ckI_some ex_13).2.1, hl_8⟩⟩
  clear S W; rintro a w_14 ⟨S, W, G_6⟩
  refine then_n ?_
  refine wp_seq ?_
  refine wp_region_lit ?_
  refine wl_pure (l' := [(4, .int .i64 y_5), (18, .int .i64 y_5), (5, .int .i64 y_5)]) S tys tys_ok 2 (by kernel_rfl) ?_
  clear S; intro a S
  refine wpList_nil ?_
  refine then_n ?_
  replace S := S.sub (l' := [(4, .int .i64 y_5)]) (by exact ⟨rfl, trivial⟩)
  refine wp_ret ?_
  refine ng_r ?_
  obtain rfl := Option.some.inj h
  exact b_ret1 S rfl rfl ⟨_, rfl, (RepV.mkInt G_6), W.below⟩
theorem cb22 : callB Try.prog 22 = true := by kernel_rfl
def p8 (n : Nat) (x0 : Int) (x1 : Int) (x2 : Int) : Option ((Int) × (Int)) :=
  (if (x0 != 2) = true then some (x1 == 3) else some false).bind fun q_1 =>
  (if q_1 then (some 255) else some 16).bind fun (j_2 : (Int)) =>
  (if (decide (x0 > 2)) = false then (if (x1 != 3) = true then some (x1 != 1) else some false).bind fun q_6 => some q_6 else some true).bind fun q_5 =>
  (if q_5 = false then (if (x0 == 0) = true then some (x1 == 1) else some false).bind fun q_8 => some q_8 else some true).bind fun q_7 =>
  (if q_7 = false then some (decide (x2 < 1)) else some true).bind fun q_9 =>
  (if q_9 = false then some (decide (x2 > j_2)) else some true).bind fun q_10 =>
  if q_10 then (some (0, 1)) else if (x0 == 2) then ((ckI .i64 (x2 - 1)).bind fun x_11 => (shlI .i64 1 x_11).bind fun x_12 => some ((if 256 < x_12 then 256 else x_12), 0)) else if (x1 == 1) then ((ckI .i64 (x2 - 1)).bind fun x_13 => (shlI .i64 1 x_13).bind fun x_14 => (ckI .i64 ((if 32 < x_14 then 32 else x_14) * 8)).bind fun x_15 => some (x_15, 0)) else (p22 n x2 32).bind fun t_16 => (ckI .i64 (t_16 * 8)).bind fun x_21 => some (x_21, 0)
set_option maxHeartbeats 4000000 in
set_option maxRecDepth 100000 in
/-- plugboard/periodics.Period -/
theorem c8 (K : Nat → Prop) (n : Nat) (w : World) (x0 : Int) (G0 : InR .u8 x0) (x1 : Int) (G1 : InR .u8 x1) (x2 : Int) (G2 : InR .i64 x2) {r : (Int) × (Int)} (h : p8 n x0 x1 x2 = some r) :
    Calls Try.prog 8 #[.int .u8 x0, .int .u8 x1, .int .i64 x2] w (Ret2 (.int .i64) (.int .i64) w (Kx K w.heap.size []) r) := by
  refine enter (args := [.int .u8 x0, .int .u8 x1, .int .i64 x2]) Try.func8 rfl 60 rfl rfl fun a S => ?_
  have W := Wd.start w
  unfold p8 at h
  replace S : St 60 a [(0, .int .u8 x0), (1, .int .u8 x1), (2, .int .i64 x2)] := S
  refine wp_seq ?_
  refine wp_region_lit ?_
  refine wl_pure (l' := [(7, .int .i64 0), (6, .int .i64 0), (0, .int .u8 x0), (1, .int .u8 x1), (2, .int .i64 x2)]) S tys tys_ok 2 (by kernel_rfl) ?_
  clear S; intro a S
  refine wpList_nil ?_
  refine then_n ?_
  replace S := S.sub (l' := [(0, .int .u8 x0), (1, .int .u8 x1), (2, .int .i64 x2)]) (by exact ⟨rfl, rfl, rfl, trivial⟩)
  refine wp_seq ?_
  refine wp_region_lit ?_
  refine wl_pure (l' := [(8, .int .i64 16), (0, .int .u8 x0), (1, .int .u8 x1), (2, .int .i64 x2)]) S tys tys_ok 1 (by kernel_rfl) ?_
  clear S; intro a S
  refine wpList_nil ?_
  refine then_n ?_
  refine wp_seq ?_
  refine wp_seq ?_
  refine wp_region_lit ?_
  refine wl_pure (l' := [(11, .bool (x0 != 2)), (10, .bool (x0 != 2)), (9, .int .u8 x0), (8, .int .i64 16), (0, .int .u8 x0), (1, .int .u8 x1), (2, .int .i64 x2)]) S tys tys_ok 3 (by kernel_rfl) ?_
  clear S; intro a S
  obtain ⟨q_1, eq_1, h⟩ := bindS h
  refine seg 3 (fun a_ w_ => w = w_ ∧ St 60 a_ [(14, .bool q_1), (8, .int .i64 16), (0, .int .u8 x0), (1, .int .u8 x1), (2, .int .i64 x2)]) ?_ ?_
  · by_cases hc : (x0 != 2) = true
    · rw [if_pos hc] at eq_1; rw [hc] at S
      refine wl_pure (l' := [(14, .bool (x1 == 3)), (13, .bool (x1 == 3)), (12, .int .u8 x1), (11, .bool true), (10, .bool true), (9, .int .u8 x0), (8, .int .i64 16), (0, .int .u8 x0), (1, .int .u8 x1), (2, .int .i64 x2)]) S tys tys_ok 3 (by kernel_rfl) ?_
      clear S; intro a S
      obtain rfl := Option.some.inj eq_1
      exact ⟨rfl, S.sub (by exact ⟨rfl, rfl, rfl, rfl, rfl, trivial⟩)⟩
    · rw [if_neg hc] at eq_1; rw [show (x0 != 2) = false from Bool.eq_false_iff.2 hc] at S
      refine wl_pure (l' := [(14, .bool false), (13, undef), (12, undef), (11, .bool false), (10, .bool false), (9, .int .u8 x0), (8, .int .i64 16), (0, .int .u8 x0), (1, .int .u8 x1), (2, .int .i64 x2)]) S tys tys_ok 3 (by kernel_rfl) ?_
      clear S; intro a S
      obtain rfl := Option.some.inj eq_1
      exact ⟨rfl, S.sub (by exact ⟨rfl, rfl, rfl, rfl, rfl, trivial⟩)⟩
  clear S eq_1; rintro a _ ⟨rfl, S⟩
  refine wpList_nil ?_
  refine then_n ?_
  obtain ⟨j_2, ej_2, h⟩ := bindS h
  refine wp_cut_ (fun a_ w_ => St 60 a_ [(8, .int .i64 j_2), (0, .int .u8 x0), (1, .int .u8 x1), (2, .int .i64 x2)] ∧ Wd w w_ [] ∧ InR .i64 j_2) ?_ ?_
  · refine wp_cond_split (S.eval (show ev _ _ = some (.bool q_1) from rfl)) ?_ ?_
    · intro hc
      rw [if_pos hc] at ej_2
      refine wp_region_lit ?_
      refine wl_pure (l' := [(8, .int .i64 255), (14, .bool q_1), (8, .int .i64 16), (0, .int .u8 x0), (1, .int .u8 x1), (2, .int .i64 x2)]) S tys tys_ok 1 (by kernel_rfl) ?_
      clear S; intro a S
      refine wpList_nil ?_
      refine then_n ?_
      obtain rfl := Option.some.inj ej_2
      exact ⟨S.sub (by exact ⟨rfl, rfl, rfl, rfl, trivial⟩), W, (by decide)⟩
    · intro hc
      rw [if_neg (Bool.eq_false_iff.1 hc)] at ej_2
      refine wp_skip ?_
      refine then_n ?_
      obtain rfl := Option.some.inj ej_2
      exact ⟨S.sub (by exact ⟨rfl, rfl, rfl, rfl, trivial⟩), W, (by decide)⟩
  clear S W; rintro a w_4 ⟨S, W, G_3⟩
  refine then_n ?_
  refine wp_seq ?_
  refine wp_seq ?_
  refine wp_region_lit ?_
  refine wl_pure (l' := [(17, .bool (decide (x0 > 2))), (16, .bool (decide (x0 > 2))), (15, .int .u8 x0), (8, .int .i64 j_2), (0, .int .u8 x0), (1, .int .u8 x1), (2, .int .i64 x2)]) S tys tys_ok 3 (by kernel_rfl) ?_
  clear S; intro a S
  obtain ⟨q_5, eq_5, h⟩ := bindS h
  refine seg 7 (fun a_ w_ => w_4 = w_ ∧ St 60 a_ [(24, .bool q_5), (8, .int .i64 j_2), (0, .int .u8 x0), (1, .int .u8 x1), (2, .int .i64 x2)]) ?_ ?_
  · by_cases hc : (decide (x0 > 2)) = false
    · rw [if_pos hc] at eq_5; rw [hc] at S
      refine wl_pure (l' := [(20, .bool (x1 != 3)), (19, .bool (x1 != 3)), (18, .int .u8 x1), (17, .bool false), (16, .bool false), (15, .int .u8 x0), (8, .int .i64 j_2), (0, .int .u8 x0), (1, .int .u8 x1), (2, .int .i64 x2)]) S tys tys_ok 3 (by kernel_rfl) ?_
      clear S; intro a S
      obtain ⟨q_6, eq_6, eq_5⟩ := bindS eq_5
      refine seg 3 (fun a_ w_ => w_4 = w_ ∧ St 60 a_ [(23, .bool q_6), (17, .bool false), (8, .int .i64 j_2), (0, .int .u8 x0), (1, .int .u8 x1), (2, .int .i64 x2)]) ?_ ?_
      · by_cases hc : (x1 != 3) = true
        · rw [if_pos hc] at eq_6; rw [hc] at S
          refine wl_pure (l' := [(23, .bool (x1 != 1)), (22, .bool (x1 != 1)), (21, .int .u8 x1), (20, .bool true), (19, .bool true), (18, .int .u8 x1), (17, .bool false), (16, .bool false), (15, .int .u8 x0), (8, .int .i64 j_2), (0, .int .u8 x0), (1, .int .u8 x1), (2, .int .i64 x2)]) S tys tys_ok 3 (by kernel_rfl) ?_
          clear S; intro a S
          obtain rfl := Option.some.inj eq_6
          exact ⟨rfl, S.sub (by exact ⟨rfl, rfl, rfl, rfl, rfl, rfl, trivial⟩)⟩
        · rw [if_neg hc] at eq_6; rw [show (x1 != 3) = false from Bool.eq_false_iff.2 hc] at S
          refine wl_pure (l' := [(23, .bool false), (22, undef), (21, undef), (20, .bool false), (19, .bool false), (18, .int .u8 x1), (17, .bool false), (16, .bool false), (15, .int .u8 x0), (8, .int .i64 j_2), (0, .int .u8 x0), (1, .int .u8 x1), (2, .int .i64 x2)]) S tys tys_ok 3 (by kernel_rfl) ?_
          clear S; intro a S
          obtain rfl := Option.some.inj eq_6
          exact ⟨rfl, S.sub (by exact ⟨rfl, rfl, rfl, rfl, rfl, rfl, trivial⟩)⟩
      clear S eq_6; rintro a _ ⟨rfl, S⟩
      refine wl_pure (l' := [(24, .bool q_6), (23, .bool q_6), (17, .bool false), (8, .int .i64 j_2), (0, .int .u8 x0), (1, .int .u8 x1), (2, .int .i64 x2)]) S tys tys_ok 1 (by kernel_rfl) ?_
      clear S; intro a S
      obtain rfl := Option.some.inj eq_5
      exact ⟨rfl, S.sub (by exact ⟨rfl, rfl, rfl, rfl, rfl, trivial⟩)⟩
    · rw [if_neg hc] at eq_5; rw [show (decide (x0 > 2)) = true from (by simpa using hc)] at S
      refine wl_pure (l' := [(24, .bool true), (23, undef), (22, undef), (21, undef), (20, undef), (19, undef), (18, undef), (17, .bool true), (16, .bool true), (15, .int .u8 x0), (8, .int .i64 j_2), (0, .int .u8 x0), (1, .int .u8 x1), (2, .int .i64 x2)]) S tys tys_ok 7 (by kernel_rfl) ?_
      clear S; intro a S
      obtain rfl := Option.some.inj eq_5
      exact ⟨rfl, S.sub (by exact ⟨rfl, rfl, rfl, rfl, rfl, trivial⟩)⟩
  clear S eq_5; rintro a _ ⟨rfl, S⟩
  refine wl_pure (l' := [(25, .bool q_5), (24, .bool q_5), (8, .int .i64 j_2), (0, .int .u8 x0), (1, .int .u8 x1), (2, .int .i64 x2)]) S tys tys_ok 1 (by kernel_rfl) ?_
  clear S; intro a S
  obtain ⟨q_7, eq_7, h⟩ := bindS h
  refine seg 7 (fun a_ w_ => w_4 = w_ ∧ St 60 a_ [(32, .bool q_7), (8, .int .i64 j_2), (0, .int .u8 x0), (1, .int .u8 x1), (2, .int .i64 x2)]) ?_ ?_
  · by_cases hc : q_5 = false
    · rw [if_pos hc] at eq_7; rw [hc] at S
      refine wl_pure (l' := [(28, .bool (x0 == 0)), (27, .bool (x0 == 0)), (26, .int .u8 x0), (25, .bool false), (24, .bool false), (8, .int .i64 j_2), (0, .int .u8 x0), (1, .int .u8 x1), (2, .int .i64 x2)]) S tys tys_ok 3 (by kernel_rfl) ?_
      clear S; intro a S
      obtain ⟨q_8, eq_8, eq_7⟩ := bindS eq_7
      refine seg 3 (fun a_ w_ => w_4 = w_ ∧ St 60 a_ [(31, .bool q_8), (25, .bool false), (8, .int .i64 j_2), (0, .int .u8 x0), (1, .int .u8 x1), (2, .int .i64 x2)]) ?_ ?_
      · by_cases hc : (x0 == 0) = true
        · rw [if_pos hc] at eq_8; rw [hc] at S
          refine wl_pure (l' := [(31, .bool (x1 == 1)), (30, .bool (x1 == 1)), (29, .int .u8 x1), (28, .bool true), (27, .bool true), (26, .int .u8 x0), (25, .bool false), (24, .bool false), (8, .int .i64 j_2), (0, .int .u8 x0), (1, .int .u8 x1), (2, .int .i64 x2)]) S tys tys_ok 3 (by kernel_rfl) ?_
          clear S; intro a S
          obtain rfl := Option.some.inj eq_8
          exact ⟨rfl, S.sub (by exact ⟨rfl, rfl, rfl, rfl, rfl, rfl, trivial⟩)⟩
        · rw [if_neg hc] at eq_8; rw [show (x0 == 0) = false from Bool.eq_false_iff.2 hc] at S
          refine wl_pure (l' := [(31, .bool false), (30, undef), (29, undef), (28, .bool false), (27, .bool false), (26, .int .u8 x0), (25, .bool false), (24, .bool false), (8, .int .i64 j_2), (0, .int .u8 x0), (1, .int .u8 x1), (2, .int .i64 x2)]) S tys tys_ok 3 (by kernel_rfl) ?_
          clear S; intro a S
          obtain rfl := Option.some.inj eq_8
          exact ⟨rfl, S.sub (by exact ⟨rfl, rfl, rfl, rfl, rfl, rfl, trivial⟩)⟩
      clear S eq_8; rintro a _ ⟨rfl, S⟩
      refine wl_pure (l' := [(32, .bool q_8), (31, .bool q_8), (25, .bool false), (8, .int .i64 j_2), (0, .int .u8 x0), (1, .int .u8 x1), (2, .int .i64 x2)]) S tys tys_ok 1 (by kernel_rfl) ?_
      clear S; intro a S
      obtain rfl := Option.some.inj eq_7
      exact ⟨rfl, S.sub (by exact ⟨rfl, rfl, rfl, rfl, rfl, trivial⟩)⟩
    · rw [if_neg hc] at eq_7; rw [show q_5 = true from (by simpa using hc)] at S
      refine wl_pure (l' := [(32, .bool true), (31, undef), (30, undef), (29, undef), (28, undef), (27, undef), (26, undef), (25, .bool true), (24, .bool true), (8, .int .i64 j_2), (0, .int .u8 x0), (1, .int .u8 x1), (2, .int .i64 x2)]) S tys tys_ok 7 (by kernel_rfl) ?_
      clear S; intro a S
      obtain rfl := Option.some.inj eq_7
      exact ⟨rfl, S.sub (by exact ⟨rfl, rfl, rfl, rfl, rfl, trivial⟩)⟩
  clear S eq_7; rintro a _ ⟨rfl, S⟩
  refine wl_pure (l' := [(33, .bool q_7), (32, .bool q_7), (8, .int .i64 j_2), (0, .int .u8 x0), (1, .int .u8 x1), (2, .int .i64 x2)]) S tys tys_ok 1 (by kernel_rfl) ?_
  clear S; intro a S
  obtain ⟨q_9, eq_9, h⟩ := bindS h
  refine seg 3 (fun a_ w_ => w_4 = w_ ∧ St 60 a_ [(36, .bool q_9), (8, .int .i64 j_2), (0, .int .u8 x0), (1, .int .u8 x1), (2, .int .i64 x2)]) ?_ ?_
  · by_cases hc : q_7 = false
    · rw [if_pos hc] at eq_9; rw [hc] at S
      refine wl_pure (l' := [(36, .bool (decide (x2 < 1))), (35, .bool (decide (x2 < 1))), (34, .int .i64 x2), (33, .bool false), (32, .bool false), (8, .int .i64 j_2), (0, .int .u8 x0), (1, .int .u8 x1), (2, .int .i64 x2)]) S tys tys_ok 3 (by kernel_rfl) ?_
      clear S; intro a S
      obtain rfl := Option.some.inj eq_9
      exact ⟨rfl, S.sub (by exact ⟨rfl, rfl, rfl, rfl, rfl, trivial⟩)⟩
    · rw [if_neg hc] at eq_9; rw [show q_7 = true from (by simpa using hc)] at S
      refine wl_pure (l' := [(36, .bool true), (35, undef), (34, undef), (33, .bool true), (32, .bool true), (8, .int .i64 j_2), (0, .int .u8 x0), (1, .int .u8 x1), (2, .int .i64 x2)]) S tys tys_ok 3 (by kernel_rfl) ?_
      clear S; intro a S
      obtain rfl := Option.some.inj eq_9
      exact ⟨rfl, S.sub (by exact ⟨rfl, rfl, rfl, rfl, rfl, trivial⟩)⟩
  clear S eq_9; rintro a _ ⟨rfl, S⟩
  refine wl_pure (l' := [(37, .bool q_9), (36, .bool q_9), (8, .int .i64 j_2), (0, .int .u8 x0), (1, .int .u8 x1), (2, .int .i64 x2)]) S tys tys_ok 1 (by kernel_rfl) ?_
  clear S; intro a S
  obtain ⟨q_10, eq_10, h⟩ := bindS h
  refine seg 4 (fun a_ w_ => w_4 = w_ ∧ St 60 a_ [(41, .bool q_10), (0, .int .u8 x0), (1, .int .u8 x1), (2, .int .i64 x2)]) ?_ ?_
  · by_cases hc : q_9 = false
    · rw [if_pos hc] at eq_10; rw [hc] at S
      refine wl_pure (l' := [(41, .bool (decide (x2 > j_2))), (40, .bool (decide (x2 > j_2))), (39, .int .i64 j_2), (38, .int .i64 x2), (37, .bool false), (36, .bool false), (8, .int .i64 j_2), (0, .int .u8 x0), (1, .int .u8 x1), (2, .int .i64 x2)]) S tys tys_ok 4 (by kernel_rfl) ?_
      clear S; intro a S
      obtain rfl := Option.some.inj eq_10
      exact ⟨rfl, S.sub (by exact ⟨rfl, rfl, rfl, rfl, trivial⟩)⟩
    · rw [if_neg hc] at eq_10; rw [show q_9 = true from (by simpa using hc)] at S
      refine wl_pure (l' := [(41, .bool true), (40, undef), (39, undef), (38, undef), (37, .bool true), (36, .bool true), (8, .int .i64 j_2), (0, .int .u8 x0), (1, .int .u8 x1), (2, .int .i64 x2)]) S tys tys_ok 4 (by kernel_rfl) ?_
      clear S; intro a S
      obtain rfl := Option.some.inj eq_10
      exact ⟨rfl, S.sub (by exact ⟨rfl, rfl, rfl, rfl, trivial⟩)⟩
  clear S eq_10; rintro a _ ⟨rfl, S⟩
  refine wpList_nil ?_
  refine then_n ?_
  refine wp_cond_split (S.eval (show ev _ _ = some (.bool q_10) from rfl)) ?_ ?_
  · intro hc
    rw [if_pos hc] at h
    refine wp_seq ?_
    refine wp_region_lit ?_
    refine wl_pure (l' := [(7, .int .i64 1), (6, .int .i64 0), (41, .bool q_10), (0, .int .u8 x0), (1, .int .u8 x1), (2, .int .i64 x2)]) S tys tys_ok 2 (by kernel_rfl) ?_
    clear S; intro a S
    refine wpList_nil ?_
    refine then_n ?_
    replace S := S.sub (l' := [(7, .int .i64 1), (6, .int .i64 0)]) (by exact ⟨rfl, rfl, trivial⟩)
    refine wp_ret ?_
    refine then_r ?_
    obtain rfl := Option.some.inj h
    exact b_ret2 S rfl rfl rfl ⟨_, _, rfl, (RepV.mkInt (by decide)), (RepV.mkInt (by decide)), W.below⟩
  · intro hc
    rw [if_neg (Bool.eq_false_iff.1 hc)] at h
    refine wp_skip ?_
    refine then_n ?_
    replace S := S.sub (l' := [(0, .int .u8 x0), (1, .int .u8 x1), (2, .int .i64 x2)]) (by exact ⟨rfl, rfl, rfl, trivial⟩)
    refine wp_seq ?_
    refine wp_block ?_
    refine wp_seq ?_
    refine wp_region_lit ?_
    refine wl_pure (l' := [(42, .bool (x0 == 2)), (44, .bool (x0 == 2)), (43, .int .u8 x0), (0, .int .u8 x0), (1, .int .u8 x1), (2, .int .i64 x2)]) S tys tys_ok 3 (by kernel_rfl) ?_
    clear S; intro a S
    refine wpList_nil ?_
    refine then_n ?_
    replace S := S.sub (l' := [(42, .bool (x0 == 2)), (1, .int .u8 x1), (2, .int .i64 x2)]) (by exact ⟨rfl, rfl, rfl, trivial⟩)
    refine wp_cond_split (S.eval (show ev _ _ = some (.bool (x0 == 2)) from rfl)) ?_ ?_
    · intro hc
      rw [if_pos hc] at h
      refine wp_seq ?_
      refine wp_region_lit ?_
      refine wl_pure (l' := [(45, .int .i64 x2), (42, .bool (x0 == 2)), (1, .int .u8 x1), (2, .int .i64 x2)]) S tys tys_ok 1 (by kernel_rfl) ?_
      clear S; intro a S
      obtain ⟨x_11, ex_11, h⟩ := bindS h
      refine w_go S rfl (op_arith S .i64 (x2 - 1) rfl (.inr (.inl rfl)) rfl rfl rfl rfl ex_11 ?_)
      clear S; intro a S
      obtain ⟨x_12, ex_12, h⟩ := bindS h
      refine w_go S rfl (op_shl S .i64 .i64 rfl rfl rfl rfl rfl ex_12 ?_)
      clear S; intro a S
      refine w_go S rfl (op_min S rfl rfl rfl rfl rfl ?_)
      clear S; intro a S
      refine wl_pure (l' := [(7, .int .i64 0), (6, .int .i64 (if 256 < x_12 then 256 else x_12)), (48, .int .i64 (if 256 < x_12 then 256 else x_12)), (47, .int .i64 x_12), (46, .int .i64 x_11), (45, .int .i64 x2), (42, .bool (x0 == 2)), (1, .int .u8 x1), (2, .int .i64 x2)]) S tys tys_ok 2 (by kernel_rfl) ?_
      clear S; intro a S
      refine wpList_nil ?_
      refine then_n ?_
      replace S := S.sub (l' := [(7, .int .i64 0), (6, .int .i64 (if 256 < x_12 then 256 else x_12))]) (by exact ⟨rfl, rfl, trivial⟩)
      refine wp_ret ?_
      refine blk_r ?_
      refine then_r ?_
      obtain rfl := Option.some.inj h
      exact b_ret2 S rfl rfl rfl ⟨_, _, rfl, (RepV.mkInt (inR_ite (by decide) (inR_shl ex_12))), (RepV.mkInt (by decide)), W.below⟩
    · intro hc
      rw [if_neg (Bool.eq_false_iff.1 hc)] at h
      refine wp_seq ?_
      refine wp_region_lit ?_
      refine wl_pure (l' := [(49, .bool (x1 == 1)), (51, .bool (x1 == 1)), (50, .int .u8 x1), (42, .bool (x0 == 2)), (1, .int .u8 x1), (2, .int .i64 x2)]) S tys tys_ok 3 (by kernel_rfl) ?_
      clear S; intro a S
      refine wpList_nil ?_
      refine then_n ?_
      replace S := S.sub (l' := [(49, .bool (x1 == 1)), (2, .int .i64 x2)]) (by exact ⟨rfl, rfl, trivial⟩)
      refine wp_cond_split (S.eval (show ev _ _ = some (.bool (x1 == 1)) from rfl)) ?_ ?_
      · intro hc
        rw [if_pos hc] at h
        refine wp_seq ?_
        refine wp_region_lit ?_
        refine wl_pure (l' := [(52, .int .i64 x2), (49, .bool (x1 == 1)), (2, .int .i64 x2)]) S tys tys_ok 1 (by kernel_rfl) ?_
        clear S; intro a S
        obtain ⟨x_13, ex_13, h⟩ := bindS h
        refine w_go S rfl (op_arith S .i64 (x2 - 1) rfl (.inr (.inl rfl)) rfl rfl rfl rfl ex_13 ?_)
        clear S; intro a S
        obtain ⟨x_14, ex_14, h⟩ := bindS h
        refine w_go S rfl (op_shl S .i64 .i64 rfl rfl rfl rfl rfl ex_14 ?_)
        clear S; intro a S
        refine w_go S rfl (op_min S rfl rfl rfl rfl rfl ?_)
        clear S; intro a S
        obtain ⟨x_15, ex_15, h⟩ := bindS h
        refine w_go S rfl (op_arith S .i64 ((if 32 < x_14 then 32 else x_14) * 8) rfl (.inr (.inr rfl)) rfl rfl rfl rfl ex_15 ?_)
        clear S; intro a S
        refine wl_pure (l' := [(7, .int .i64 0), (6, .int .i64 x_15), (56, .int .i64 x_15), (55, .int .i64 (if 32 < x_14 then 32 else x_14)), (54, .int .i64 x_14), (53, .int .i64 x_13), (52, .int .i64 x2), (49, .bool (x1 == 1)), (2, .int .i64 x2)]) S tys tys_ok 2 (by kernel_rfl) ?_
        clear S; intro a S
        refine wpList_nil ?_
        refine then_n ?_
        replace S := S.sub (l' := [(7, .int .i64 0), (6, .int .i64 x_15)]) (by exact ⟨rfl, rfl, trivial⟩)
        refine wp_ret ?_
        refine blk_r ?_
        refine then_r ?_
        obtain rfl := Option.some.inj h
        exact b_ret2 S rfl rfl rfl ⟨_, _, rfl, (RepV.mkInt (ckI_some ex_15).2.1), (RepV.mkInt (by decide)), W.below⟩
      · intro hc
        rw [if_neg (Bool.eq_false_iff.1 hc)] at h
        refine wp_skip ?_
        refine blk_n ?_
        refine then_n ?_
        replace S := S.sub (l' := [(2, .int .i64 x2)]) (by exact ⟨rfl, trivial⟩)
        refine wp_seq ?_
        refine wp_region_lit ?_
        refine wl_pure (l' := [(57, .int .i64 x2), (2, .int .i64 x2)]) S tys tys_ok 1 (by kernel_rfl) ?_
        clear S; intro a S
        obtain ⟨t_16, et_16, h⟩ := bindS h
        refine w_go S rfl (op_call (vs := [.int .i64 x2, .int .i64 32]) S rfl cb22 rfl rfl rfl (c22 (Kx K w.heap.size []) n w_4 x2 G2 32 (by decide) et_16) ?_)
        rintro _ w_20 ⟨v_17, rfl, R_18, hb_19⟩; refine ⟨_, rfl, ?_⟩
        replace R_18 := RepV.back R_18 W
        clear S; intro a S
        replace W := W.step hb_19
        obtain ⟨rfl, GR_18⟩ := RepV.int R_18
        obtain ⟨x_21, ex_21, h⟩ := bindS h
        refine w_go S rfl (op_arith S .i64 (t_16 * 8) rfl (.inr (.inr rfl)) rfl rfl rfl rfl ex_21 ?_)
        clear S; intro a S
        refine wl_pure (l' := [(7, .int .i64 0), (6, .int .i64 x_21), (59, .int .i64 x_21), (58, .int .i64 t_16), (57, .int .i64 x2), (2, .int .i64 x2)]) S tys tys_ok 2 (by kernel_rfl) ?_
        clear S; intro a S
        refine wpList_nil ?_
        refine then_n ?_
        replace S := S.sub (l' := [(7, .int .i64 0), (6, .int .i64 x_21)]) (by exact ⟨rfl, rfl, trivial⟩)
        refine wp_ret ?_
        obtain rfl := Option.some.inj h
        exact b_ret2 S rfl rfl rfl ⟨_, _, rfl, (RepV.mkInt (ckI_some ex_21).2.1), (RepV.mkInt (by decide)), W.below⟩
theorem cb8 : callB Try.prog 8 = true := by kernel_rfl
def p9_l1 (n : Nat) (x2 : Int) : Nat → (Int) → (Int) → Option ((Int))
  | 0, _, _ => .none
  | m + 1, c_7, c_9 => if (decide (c_7 < x2)) then ((ckI .i64 (c_9 * 2)).bind fun x_20 => (ckI .i64 (c_7 + 1)).bind fun x_21 => p9_l1 n x2 m x_21 x_20) else some c_9
def p9_l2 (n : Nat) (x2 : Int) : Nat → (Int) → Option ((Int))
  | 0, _ => .none
  | m + 1, c_27 => if (decide (c_27 > x2)) then ((quoI .i64 c_27 2).bind fun x_36 => p9_l2 n x2 m x_36) else some c_27
def p9 (n : Nat) (x0 : Int) (x1 : Int) (x2 : Int) : Option ((Int)) :=
  (if (decide (x0 > 2)) = false then (if (x1 != 1) = true then some (x1 != 3) else some false).bind fun q_2 => some q_2 else some true).bind fun q_1 =>
  (if q_1 = false then (if (x0 == 0) = true then some (x1 == 1) else some false).bind fun q_4 => some q_4 else some true).bind fun q_3 =>
  (if q_3 = false then some (decide (x2 < 1)) else some true).bind fun q_5 =>
  if q_5 then (some 0) else (if (x0 == 2) = false then some (x1 == 1) else some true).bind fun q_6 => if q_6 then (if (decide (x2 > 16)) then (some 0) else (p9_l1 n x2 n 1 1).bind fun (y_15 : (Int)) => (if (x0 == 2) = true then some (decide (y_15 > 256)) else some false).bind fun q_23 => (if q_23 = false then (if (x0 == 1) = true then some (decide (y_15 > 32)) else some false).bind fun q_25 => some q_25 else some true).bind fun q_24 => if q_24 then (some 256) else if (x0 == 2) then (some y_15) else (ckI .i64 (8 * y_15)).bind fun x_26 => some x_26) else if (decide (x2 > 255)) then (some 0) else (p9_l2 n x2 n 32).bind fun (y_31 : (Int)) => (ckI .i64 (8 * y_31)).bind fun x_38 => some x_38
set_option maxHeartbeats 4000000 in
set_option maxRecDepth 100000 in
/-- plugboard/plugboardref10.Period -/
theorem c9 (K : Nat → Prop) (n : Nat) (w : World) (x0 : Int) (G0 : InR .u8 x0) (x1 : Int) (G1 : InR .u8 x1) (x2 : Int) (G2 : InR .i64 x2) {r : (Int)} (h : p9 n x0 x1 x2 = some r) :
    Calls Try.prog 9 #[.int .u8 x0, .int .u8 x1, .int .i64 x2] w (Ret1 (.int .i64) w (Kx K w.heap.size []) r) := by
  refine enter (args := [.int .u8 x0, .int .u8 x1, .int .i64 x2]) Try.func9 rfl 75 rfl rfl fun a S => ?_
  have W := Wd.start w
  unfold p9 at h
  replace S : St 75 a [(0, .int .u8 x0), (1, .int .u8 x1), (2, .int .i64 x2)] := S
  refine wp_seq ?_
  refine wp_region_lit ?_
  refine wl_pure (l' := [(6, .int .i64 0), (0, .int .u8 x0), (1, .int .u8 x1), (2, .int .i64 x2)]) S tys tys_ok 1 (by kernel_rfl) ?_
  clear S; intro a S
  refine wpList_nil ?_
  refine then_n ?_
  replace S := S.sub (l' := [(0, .int .u8 x0), (1, .int .u8 x1), (2, .int .i64 x2)]) (by exact ⟨rfl, rfl, rfl, trivial⟩)
  refine wp_seq ?_
  refine wp_seq ?_
  refine wp_region_lit ?_
  refine wl_pure (l' := [(12, .bool (decide (x0 > 2))), (11, .bool (decide (x0 > 2))), (10, .int .u8 x0), (0, .int .u8 x0), (1, .int .u8 x1), (2, .int .i64 x2)]) S tys tys_ok 3 (by kernel_rfl) ?_
  clear S; intro a S
  obtain ⟨q_1, eq_1, h⟩ := bindS h
  refine seg 7 (fun a_ w_ => w = w_ ∧ St 75 a_ [(19, .bool q_1), (0, .int .u8 x0), (1, .int .u8 x1), (2, .int .i64 x2)]) ?_ ?_
  · by_cases hc : (decide (x0 > 2)) = false
    · rw [if_pos hc] at eq_1; rw [hc] at S
      refine wl_pure (l' := [(15, .bool (x1 != 1)), (14, .bool (x1 != 1)), (13, .int .u8 x1), (12, .bool false), (11, .bool false), (10, .int .u8 x0), (0, .int .u8 x0), (1, .int .u8 x1), (2, .int .i64 x2)]) S tys tys_ok 3 (by kernel_rfl) ?_
      clear S; intro a S
      obtain ⟨q_2, eq_2, eq_1⟩ := bindS eq_1
      refine seg 3 (fun a_ w_ => w = w_ ∧ St 75 a_ [(18, .bool q_2), (12, .bool false), (0, .int .u8 x0), (1, .int .u8 x1), (2, .int .i64 x2)]) ?_ ?_
      · by_cases hc : (x1 != 1) = true
        · rw [if_pos hc] at eq_2; rw [hc] at S
          refine wl_pure (l' := [(18, .bool (x1 != 3)), (17, .bool (x1 != 3)), (16, .int .u8 x1), (15, .bool true), (14, .bool true), (13, .int .u8 x1), (12, .bool false), (11, .bool false), (10, .int .u8 x0), (0, .int .u8 x0), (1, .int .u8 x1), (2, .int .i64 x2)]) S tys tys_ok 3 (by kernel_rfl) ?_
          clear S; intro a S
          obtain rfl := Option.some.inj eq_2
          exact ⟨rfl, S.sub (by exact ⟨rfl, rfl, rfl, rfl, rfl, trivial⟩)⟩
        · rw [if_neg hc] at eq_2; rw [show (x1 != 1) = false from Bool.eq_false_iff.2 hc] at S
          refine wl_pure (l' := [(18, .bool false), (17, undef), (16, undef), (15, .bool false), (14, .bool false), (13, .int .u8 x1), (12, .bool false), (11, .bool false), (10, .int .u8 x0), (0, .int .u8 x0), (1, .int .u8 x1), (2, .int .i64 x2)]) S tys tys_ok 3 (by kernel_rfl) ?_
          clear S; intro a S
          obtain rfl := Option.some.inj eq_2
          exact ⟨rfl, S.sub (by exact ⟨rfl, rfl, rfl, rfl, rfl, trivial⟩)⟩
      clear S eq_2; rintro a _ ⟨rfl, S⟩
      refine wl_pure (l' := [(19, .bool q_2), (18, .bool q_2), (12, .bool false), (0, .int .u8 x0), (1, .int .u8 x1), (2, .int .i64 x2)]) S tys tys_ok 1 (by kernel_rfl) ?_
      clear S; intro a S
      obtain rfl := Option.some.inj eq_1
      exact ⟨rfl, S.sub (by exact ⟨rfl, rfl, rfl, rfl, trivial⟩)⟩
    · rw [if_neg hc] at eq_1; rw [show (decide (x0 > 2)) = true from (by simpa using hc)] at S
      refine wl_pure (l' := [(19, .bool true), (18, undef), (17, undef), (16, undef), (15, undef), (14, undef), (13, undef), (12, .bool true), (11, .bool true), (10, .int .u8 x0), (0, .int .u8 x0), (1, .int .u8 x1), (2, .int .i64 x2)]) S tys tys_ok 7 (by kernel_rfl) ?_
      clear S; intro a S
      obtain rfl := Option.some.inj eq_1
      exact ⟨rfl, S.sub (by exact ⟨rfl, rfl, rfl, rfl, trivial⟩)⟩
  clear S eq_1; rintro a _ ⟨rfl, S⟩
  refine wl_pure (l' := [(20, .bool q_1), (19, .bool q_1), (0, .int .u8 x0), (1, .int .u8 x1), (2, .int .i64 x2)]) S tys tys_ok 1 (by kernel_rfl) ?_
  clear S; intro a S
  obtain ⟨q_3, eq_3, h⟩ := bindS h
  refine seg 7 (fun a_ w_ => w = w_ ∧ St 75 a_ [(27, .bool q_3), (0, .int .u8 x0), (1, .int .u8 x1), (2, .int .i64 x2)]) ?_ ?_
  · by_cases hc : q_1 = false
    · rw [if_pos hc] at eq_3; rw [hc] at S
      refine wl_pure (l' := [(23, .bool (x0 == 0)), (22, .bool (x0 == 0)), (21, .int .u8 x0), (20, .bool false), (19, .bool false), (0, .int .u8 x0), (1, .int .u8 x1), (2, .int .i64 x2)]) S tys tys_ok 3 (by kernel_rfl) ?_
      clear S; intro a S
      obtain ⟨q_4, eq_4, eq_3⟩ := bindS eq_3
      refine seg 3 (fun a_ w_ => w = w_ ∧ St 75 a_ [(26, .bool q_4), (20, .bool false), (0, .int .u8 x0), (1, .int .u8 x1), (2, .int .i64 x2)]) ?_ ?_
      · by_cases hc : (x0 == 0) = true
        · rw [if_pos hc] at eq_4; rw [hc] at S
          refine wl_pure (l' := [(26, .bool (x1 == 1)), (25, .bool (x1 == 1)), (24, .int .u8 x1), (23, .bool true), (22, .bool true), (21, .int .u8 x0), (20, .bool false), (19, .bool false), (0, .int .u8 x0), (1, .int .u8 x1), (2, .int .i64 x2)]) S tys tys_ok 3 (by kernel_rfl) ?_
          clear S; intro a S
          obtain rfl := Option.some.inj eq_4
          exact ⟨rfl, S.sub (by exact ⟨rfl, rfl, rfl, rfl, rfl, trivial⟩)⟩
        · rw [if_neg hc] at eq_4; rw [show (x0 == 0) = false from Bool.eq_false_iff.2 hc] at S
          refine wl_pure (l' := [(26, .bool false), (25, undef), (24, undef), (23, .bool false), (22, .bool false), (21, .int .u8 x0), (20, .bool false), (19, .bool false), (0, .int .u8 x0), (1, .int .u8 x1), (2, .int .i64 x2)]) S tys tys_ok 3 (by kernel_rfl) ?_
          clear S; intro a S
          obtain rfl := Option.some.inj eq_4
          exact ⟨rfl, S.sub (by exact ⟨rfl, rfl, rfl, rfl, rfl, trivial⟩)⟩
      clear S eq_4; rintro a _ ⟨rfl, S⟩
      refine wl_pure (l' := [(27, .bool q_4), (26, .bool q_4), (20, .bool false), (0, .int .u8 x0), (1, .int .u8 x1), (2, .int .i64 x2)]) S tys tys_ok 1 (by kernel_rfl) ?_
      clear S; intro a S
      obtain rfl := Option.some.inj eq_3
      exact ⟨rfl, S.sub (by exact ⟨rfl, rfl, rfl, rfl, trivial⟩)⟩
    · rw [if_neg hc] at eq_3; rw [show q_1 = true from (by simpa using hc)] at S
      refine wl_pure (l' := [(27, .bool true), (26, undef), (25, undef), (24, undef), (23, undef), (22, undef), (21, undef), (20, .bool true), (19, .bool true), (0, .int .u8 x0), (1, .int .u8 x1), (2, .int .i64 x2)]) S tys tys_ok 7 (by kernel_rfl) ?_
      clear S; intro a S
      obtain rfl := Option.some.inj eq_3
      exact ⟨rfl, S.sub (by exact ⟨rfl, rfl, rfl, rfl, trivial⟩)⟩
  clear S eq_3; rintro a _ ⟨rfl, S⟩
  refine wl_pure (l' := [(28, .bool q_3), (27, .bool q_3), (0, .int .u8 x0), (1, .int .u8 x1), (2, .int .i64 x2)]) S tys tys_ok 1 (by kernel_rfl) ?_
  clear S; intro a S
  obtain ⟨q_5, eq_5, h⟩ := bindS h
  refine seg 3 (fun a_ w_ => w = w_ ∧ St 75 a_ [(31, .bool q_5), (0, .int .u8 x0), (1, .int .u8 x1), (2, .int .i64 x2)]) ?_ ?_
  · by_cases hc : q_3 = false
    · rw [if_pos hc] at eq_5; rw [hc] at S
      refine wl_pure (l' := [(31, .bool (decide (x2 < 1))), (30, .bool (decide (x2 < 1))), (29, .int .i64 x2), (28, .bool false), (27, .bool false), (0, .int .u8 x0), (1, .int .u8 x1), (2, .int .i64 x2)]) S tys tys_ok 3 (by kernel_rfl) ?_
      clear S; intro a S
      obtain rfl := Option.some.inj eq_5
      exact ⟨rfl, S.sub (by exact ⟨rfl, rfl, rfl, rfl, trivial⟩)⟩
    · rw [if_neg hc] at eq_5; rw [show q_3 = true from (by simpa using hc)] at S
      refine wl_pure (l' := [(31, .bool true), (30, undef), (29, undef), (28, .bool true), (27, .bool true), (0, .int .u8 x0), (1, .int .u8 x1), (2, .int .i64 x2)]) S tys tys_ok 3 (by kernel_rfl) ?_
      clear S; intro a S
      obtain rfl := Option.some.inj eq_5
      exact ⟨rfl, S.sub (by exact ⟨rfl, rfl, rfl, rfl, trivial⟩)⟩
  clear S eq_5; rintro a _ ⟨rfl, S⟩
  refine wpList_nil ?_
  refine then_n ?_
  refine wp_cond_split (S.eval (show ev _ _ = some (.bool q_5) from rfl)) ?_ ?_
  · intro hc
    rw [if_pos hc] at h
    refine wp_seq ?_
    refine wp_region_lit ?_
    refine wl_pure (l' := [(6, .int .i64 0), (31, .bool q_5), (0, .int .u8 x0), (1, .int .u8 x1), (2, .int .i64 x2)]) S tys tys_ok 1 (by kernel_rfl) ?_
    clear S; intro a S
    refine wpList_nil ?_
    refine then_n ?_
    replace S := S.sub (l' := [(6, .int .i64 0)]) (by exact ⟨rfl, trivial⟩)
    refine wp_ret ?_
    refine then_r ?_
    obtain rfl := Option.some.inj h
    exact b_ret1 S rfl rfl ⟨_, rfl, (RepV.mkInt (by decide)), W.below⟩
  · intro hc
    rw [if_neg (Bool.eq_false_iff.1 hc)] at h
    refine wp_skip ?_
    refine then_n ?_
    replace S := S.sub (l' := [(0, .int .u8 x0), (1, .int .u8 x1), (2, .int .i64 x2)]) (by exact ⟨rfl, rfl, rfl, trivial⟩)
    refine wp_seq ?_
    refine wp_seq ?_
    refine wp_region_lit ?_
    refine wl_pure (l' := [(34, .bool (x0 == 2)), (33, .bool (x0 == 2)), (32, .int .u8 x0), (0, .int .u8 x0), (1, .int .u8 x1), (2, .int .i64 x2)]) S tys tys_ok 3 (by kernel_rfl) ?_
    clear S; intro a S
    obtain ⟨q_6, eq_6, h⟩ := bindS h
    refine seg 3 (fun a_ w_ => w = w_ ∧ St 75 a_ [(37, .bool q_6), (0, .int .u8 x0), (2, .int .i64 x2)]) ?_ ?_
    · by_cases hc : (x0 == 2) = false
      · rw [if_pos hc] at eq_6; rw [hc] at S
        refine wl_pure (l' := [(37, .bool (x1 == 1)), (36, .bool (x1 == 1)), (35, .int .u8 x1), (34, .bool false), (33, .bool false), (32, .int .u8 x0), (0, .int .u8 x0), (1, .int .u8 x1), (2, .int .i64 x2)]) S tys tys_ok 3 (by kernel_rfl) ?_
        clear S; intro a S
        obtain rfl := Option.some.inj eq_6
        exact ⟨rfl, S.sub (by exact ⟨rfl, rfl, rfl, trivial⟩)⟩
      · rw [if_neg hc] at eq_6; rw [show (x0 == 2) = true from (by simpa using hc)] at S
        refine wl_pure (l' := [(37, .bool true), (36, undef), (35, undef), (34, .bool true), (33, .bool true), (32, .int .u8 x0), (0, .int .u8 x0), (1, .int .u8 x1), (2, .int .i64 x2)]) S tys tys_ok 3 (by kernel_rfl) ?_
        clear S; intro a S
        obtain rfl := Option.some.inj eq_6
        exact ⟨rfl, S.sub (by exact ⟨rfl, rfl, rfl, trivial⟩)⟩
    clear S eq_6; rintro a _ ⟨rfl, S⟩
    refine wpList_nil ?_
    refine then_n ?_
    refine wp_cond_split (S.eval (show ev _ _ = some (.bool q_6) from rfl)) ?_ ?_
    · intro hc
      rw [if_pos hc] at h
      refine wp_seq ?_
      refine wp_seq ?_
      refine wp_region_lit ?_
      refine wl_pure (l' := [(39, .bool (decide (x2 > 16))), (38, .int .i64 x2), (37, .bool q_6), (0, .int .u8 x0), (2, .int .i64 x2)]) S tys tys_ok 2 (by kernel_rfl) ?_
      clear S; intro a S
      refine wpList_nil ?_
      refine then_n ?_
      replace S := S.sub (l' := [(39, .bool (decide (x2 > 16))), (0, .int .u8 x0), (2, .int .i64 x2)]) (by exact ⟨rfl, rfl, rfl, trivial⟩)
      refine wp_cond_split (S.eval (show ev _ _ = some (.bool (decide (x2 > 16))) from rfl)) ?_ ?_
      · intro hc
        rw [if_pos hc] at h
        refine wp_seq ?_
        refine wp_region_lit ?_
        refine wl_pure (l' := [(6, .int .i64 0), (39, .bool (decide (x2 > 16))), (0, .int .u8 x0), (2, .int .i64 x2)]) S tys tys_ok 1 (by kernel_rfl) ?_
        clear S; intro a S
        refine wpList_nil ?_
        refine then_n ?_
        replace S := S.sub (l' := [(6, .int .i64 0)]) (by exact ⟨rfl, trivial⟩)
        refine wp_ret ?_
        refine then_r ?_
        refine then_r ?_
        obtain rfl := Option.some.inj h
        exact b_ret1 S rfl rfl ⟨_, rfl, (RepV.mkInt (by decide)), W.below⟩
      · intro hc
        rw [if_neg (Bool.eq_false_iff.1 hc)] at h
        refine wp_skip ?_
        refine then_n ?_
        replace S := S.sub (l' := [(0, .int .u8 x0), (2, .int .i64 x2)]) (by exact ⟨rfl, rfl, trivial⟩)
        refine wp_seq ?_
        refine wp_region_lit ?_
        refine wl_pure (l' := [(7, .int .i64 1), (0, .int .u8 x0), (2, .int .i64 x2)]) S tys tys_ok 1 (by kernel_rfl) ?_
        clear S; intro a S
        refine wpList_nil ?_
        refine then_n ?_
        refine wp_seq ?_
        refine wp_seq ?_
        refine wp_region_lit ?_
        refine wl_pure (l' := [(8, .int .i64 1), (7, .int .i64 1), (0, .int .u8 x0), (2, .int .i64 x2)]) S tys tys_ok 1 (by kernel_rfl) ?_
        clear S; intro a S
        refine wpList_nil ?_
        refine then_n ?_
        obtain ⟨y_15, ey_15, h⟩ := bindS h
        refine wp_cut_ (fun a_ w_ => St 75 a_ [(0, .int .u8 x0), (7, .int .i64 y_15)] ∧ Wd w w_ [] ∧ InR .i64 y_15) ?_ ?_
        · refine wp_block ?_
          refine wp_loop_n (fun m_ a_ w_ => ∃ (c_7 : Int) (c_9 : Int) , St 75 a_ [(8, .int .i64 c_7), (7, .int .i64 c_9), (0, .int .u8 x0), (2, .int .i64 x2)] ∧ Wd w w_ [] ∧ InR .i64 c_7 ∧ InR .i64 c_9 ∧ p9_l1 n x2 m_ c_7 c_9 = some y_15) n ?_ ?_
          · skip
            exact ⟨1, 1, ⟨S.sub (by exact ⟨rfl, rfl, rfl, rfl, trivial⟩), W, (by decide), (by decide), ey_15⟩⟩
          · clear S W; rintro m_17 a w_19 ⟨c_7, c_9, S, W, G_8, G_10, hl_18⟩
            cases m_17 with
            | zero => exact absurd hl_18 (by simp [p9_l1])
            | succ m_17 =>
              refine ⟨m_17, rfl, ?_⟩
              rw [p9_l1] at hl_18
              refine wp_seq ?_
              refine wp_seq ?_
              refine wp_region_lit ?_
              refine wl_pure (l' := [(42, .bool (decide (c_7 < x2))), (41, .int .i64 x2), (40, .int .i64 c_7), (8, .int .i64 c_7), (7, .int .i64 c_9), (0, .int .u8 x0), (2, .int .i64 x2)]) S tys tys_ok 3 (by kernel_rfl) ?_
              clear S; intro a S
              refine wpList_nil ?_
              refine then_n ?_
              replace S := S.sub (l' := [(42, .bool (decide (c_7 < x2))), (8, .int .i64 c_7), (7, .int .i64 c_9), (0, .int .u8 x0), (2, .int .i64 x2)]) (by exact ⟨rfl, rfl, rfl, rfl, rfl, trivial⟩)
              refine wp_cond_split (S.eval (show ev _ _ = some (.bool (decide (c_7 < x2))) from rfl)) ?_ ?_
              · intro hc
                rw [if_pos hc] at hl_18
                refine wp_skip ?_
                refine then_n ?_
                replace S := S.sub (l' := [(8, .int .i64 c_7), (7, .int .i64 c_9), (0, .int .u8 x0), (2, .int .i64 x2)]) (by exact ⟨rfl, rfl, rfl, rfl, trivial⟩)
                refine wp_seq ?_
                refine wp_block ?_
                refine wp_region_lit ?_
                refine wl_pure (l' := [(45, .int .i64 c_9), (8, .int .i64 c_7), (7, .int .i64 c_9), (0, .int .u8 x0), (2, .int .i64 x2)]) S tys tys_ok 1 (by kernel_rfl) ?_
                clear S; intro a S
                obtain ⟨x_20, ex_20, hl_18⟩ := bindS hl_18
                refine w_go S rfl (op_arith S .i64 (c_9 * 2) rfl (.inr (.inr rfl)) rfl rfl rfl rfl ex_20 ?_)
                clear S; intro a S
                refine wl_pure (l' := [(7, .int .i64 x_20), (46, .int .i64 x_20), (45, .int .i64 c_9), (8, .int .i64 c_7), (7, .int .i64 c_9), (0, .int .u8 x0), (2, .int .i64 x2)]) S tys tys_ok 1 (by kernel_rfl) ?_
                clear S; intro a S
                refine wpList_nil ?_
                refine blk_n ?_
                refine then_n ?_
                replace S := S.sub (l' := [(7, .int .i64 x_20), (8, .int .i64 c_7), (0, .int .u8 x0), (2, .int .i64 x2)]) (by exact ⟨rfl, rfl, rfl, rfl, trivial⟩)
                refine wp_region_lit ?_
                refine wl_pure (l' := [(43, .int .i64 c_7), (7, .int .i64 x_20), (8, .int .i64 c_7), (0, .int .u8 x0), (2, .int .i64 x2)]) S tys tys_ok 1 (by kernel_rfl) ?_
                clear S; intro a S
                obtain ⟨x_21, ex_21, hl_18⟩ := bindS hl_18
                refine w_go S rfl (op_arith S .i64 (c_7 + 1) rfl (.inl rfl) rfl rfl rfl rfl ex_21 ?_)
                clear S; intro a S
                refine wl_pure (l' := [(8, .int .i64 x_21), (44, .int .i64 x_21), (43, .int .i64 c_7), (7, .int .i64 x_20), (8, .int .i64 c_7), (0, .int .u8 x0), (2, .int .i64 x2)]) S tys tys_ok 1 (by kernel_rfl) ?_
                clear S; intro a S
                refine wpList_nil ?_
                refine then_n ?_
                exact ⟨x_21, x_20, ⟨S.sub (by exact ⟨rfl, rfl, rfl, rfl, trivial⟩), W, (ckI_some ex_21).2.1, (ckI_some ex_20).2.1, hl_18⟩⟩
              · intro hc
                rw [if_neg (Bool.eq_false_iff.1 hc)] at hl_18
                refine wp_exit ?_
                refine then_x ?_
                refine then_x ?_
                refine blk_hit ?_
                refine then_n ?_
                obtain rfl := Option.some.inj hl_18
                exact ⟨S.sub (by exact ⟨rfl, rfl, trivial⟩), W, G_10⟩
        clear S W; rintro a w_22 ⟨S, W, G_16⟩
        refine then_n ?_
        refine wp_seq ?_
        refine wp_seq ?_
        refine wp_region_lit ?_
        refine wl_pure (l' := [(49, .bool (x0 == 2)), (48, .bool (x0 == 2)), (47, .int .u8 x0), (0, .int .u8 x0), (7, .int .i64 y_15)]) S tys tys_ok 3 (by kernel_rfl) ?_
        clear S; intro a S
        obtain ⟨q_23, eq_23, h⟩ := bindS h
        refine seg 3 (fun a_ w_ => w_22 = w_ ∧ St 75 a_ [(52, .bool q_23), (0, .int .u8 x0), (7, .int .i64 y_15)]) ?_ ?_
        · by_cases hc : (x0 == 2) = true
          · rw [if_pos hc] at eq_23; rw [hc] at S
            refine wl_pure (l' := [(52, .bool (decide (y_15 > 256))), (51, .bool (decide (y_15 > 256))), (50, .int .i64 y_15), (49, .bool true), (48, .bool true), (47, .int .u8 x0), (0, .int .u8 x0), (7, .int .i64 y_15)]) S tys tys_ok 3 (by kernel_rfl) ?_
            clear S; intro a S
            obtain rfl := Option.some.inj eq_23
            exact ⟨rfl, S.sub (by exact ⟨rfl, rfl, rfl, trivial⟩)⟩
          · rw [if_neg hc] at eq_23; rw [show (x0 == 2) = false from Bool.eq_false_iff.2 hc] at S
            refine wl_pure (l' := [(52, .bool false), (51, undef), (50, undef), (49, .bool false), (48, .bool false), (47, .int .u8 x0), (0, .int .u8 x0), (7, .int .i64 y_15)]) S tys tys_ok 3 (by kernel_rfl) ?_
            clear S; intro a S
            obtain rfl := Option.some.inj eq_23
            exact ⟨rfl, S.sub (by exact ⟨rfl, rfl, rfl, trivial⟩)⟩
        clear S eq_23; rintro a _ ⟨rfl, S⟩
        refine wl_pure (l' := [(53, .bool q_23), (52, .bool q_23), (0, .int .u8 x0), (7, .int .i64 y_15)]) S tys tys_ok 1 (by kernel_rfl) ?_
        clear S; intro a S
        obtain ⟨q_24, eq_24, h⟩ := bindS h
        refine seg 7 (fun a_ w_ => w_22 = w_ ∧ St 75 a_ [(60, .bool q_24), (0, .int .u8 x0), (7, .int .i64 y_15)]) ?_ ?_
        · by_cases hc : q_23 = false
          · rw [if_pos hc] at eq_24; rw [hc] at S
            refine wl_pure (l' := [(56, .bool (x0 == 1)), (55, .bool (x0 == 1)), (54, .int .u8 x0), (53, .bool false), (52, .bool false), (0, .int .u8 x0), (7, .int .i64 y_15)]) S tys tys_ok 3 (by kernel_rfl) ?_
            clear S; intro a S
            obtain ⟨q_25, eq_25, eq_24⟩ := bindS eq_24
            refine seg 3 (fun a_ w_ => w_22 = w_ ∧ St 75 a_ [(59, .bool q_25), (53, .bool false), (0, .int .u8 x0), (7, .int .i64 y_15)]) ?_ ?_
            · by_cases hc : (x0 == 1) = true
              · rw [if_pos hc] at eq_25; rw [hc] at S
                refine wl_pure (l' := [(59, .bool (decide (y_15 > 32))), (58, .bool (decide (y_15 > 32))), (57, .int .i64 y_15), (56, .bool true), (55, .bool true), (54, .int .u8 x0), (53, .bool false), (52, .bool false), (0, .int .u8 x0), (7, .int .i64 y_15)]) S tys tys_ok 3 (by kernel_rfl) ?_
                clear S; intro a S
                obtain rfl := Option.some.inj eq_25
                exact ⟨rfl, S.sub (by exact ⟨rfl, rfl, rfl, rfl, trivial⟩)⟩
              · rw [if_neg hc] at eq_25; rw [show (x0 == 1) = false from Bool.eq_false_iff.2 hc] at S
                refine wl_pure (l' := [(59, .bool false), (58, undef), (57, undef), (56, .bool false), (55, .bool false), (54, .int .u8 x0), (53, .bool false), (52, .bool false), (0, .int .u8 x0), (7, .int .i64 y_15)]) S tys tys_ok 3 (by kernel_rfl) ?_
                clear S; intro a S
                obtain rfl := Option.some.inj eq_25
                exact ⟨rfl, S.sub (by exact ⟨rfl, rfl, rfl, rfl, trivial⟩)⟩
            clear S eq_25; rintro a _ ⟨rfl, S⟩
            refine wl_pure (l' := [(60, .bool q_25), (59, .bool q_25), (53, .bool false), (0, .int .u8 x0), (7, .int .i64 y_15)]) S tys tys_ok 1 (by kernel_rfl) ?_
            clear S; intro a S
            obtain rfl := Option.some.inj eq_24
            exact ⟨rfl, S.sub (by exact ⟨rfl, rfl, rfl, trivial⟩)⟩
          · rw [if_neg hc] at eq_24; rw [show q_23 = true from (by simpa using hc)] at S
            refine wl_pure (l' := [(60, .bool true), (59, undef), (58, undef), (57, undef), (56, undef), (55, undef), (54, undef), (53, .bool true), (52, .bool true), (0, .int .u8 x0), (7, .int .i64 y_15)]) S tys tys_ok 7 (by kernel_rfl) ?_
            clear S; intro a S
            obtain rfl := Option.some.inj eq_24
            exact ⟨rfl, S.sub (by exact ⟨rfl, rfl, rfl, trivial⟩)⟩
        clear S eq_24; rintro a _ ⟨rfl, S⟩
        refine wpList_nil ?_
        refine then_n ?_
        refine wp_cond_split (S.eval (show ev _ _ = some (.bool q_24) from rfl)) ?_ ?_
        · intro hc
          rw [if_pos hc] at h
          refine wp_seq ?_
          refine wp_region_lit ?_
          refine wl_pure (l' := [(6, .int .i64 256), (60, .bool q_24), (0, .int .u8 x0), (7, .int .i64 y_15)]) S tys tys_ok 1 (by kernel_rfl) ?_
          clear S; intro a S
          refine wpList_nil ?_
          refine then_n ?_
          replace S := S.sub (l' := [(6, .int .i64 256)]) (by exact ⟨rfl, trivial⟩)
          refine wp_ret ?_
          refine then_r ?_
          refine then_r ?_
          obtain rfl := Option.some.inj h
          exact b_ret1 S rfl rfl ⟨_, rfl, (RepV.mkInt (by decide)), W.below⟩
        · intro hc
          rw [if_neg (Bool.eq_false_iff.1 hc)] at h
          refine wp_skip ?_
          refine then_n ?_
          replace S := S.sub (l' := [(0, .int .u8 x0), (7, .int .i64 y_15)]) (by exact ⟨rfl, rfl, trivial⟩)
          refine wp_seq ?_
          refine wp_seq ?_
          refine wp_region_lit ?_
          refine wl_pure (l' := [(62, .bool (x0 == 2)), (61, .int .u8 x0), (0, .int .u8 x0), (7, .int .i64 y_15)]) S tys tys_ok 2 (by kernel_rfl) ?_
          clear S; intro a S
          refine wpList_nil ?_
          refine then_n ?_
          replace S := S.sub (l' := [(62, .bool (x0 == 2)), (7, .int .i64 y_15)]) (by exact ⟨rfl, rfl, trivial⟩)
          refine wp_cond_split (S.eval (show ev _ _ = some (.bool (x0 == 2)) from rfl)) ?_ ?_
          · intro hc
            rw [if_pos hc] at h
            refine wp_seq ?_
            refine wp_region_lit ?_
            refine wl_pure (l' := [(6, .int .i64 y_15), (63, .int .i64 y_15), (62, .bool (x0 == 2)), (7, .int .i64 y_15)]) S tys tys_ok 2 (by kernel_rfl) ?_
            clear S; intro a S
            refine wpList_nil ?_
            refine then_n ?_
            replace S := S.sub (l' := [(6, .int .i64 y_15)]) (by exact ⟨rfl, trivial⟩)
            refine wp_ret ?_
            refine then_r ?_
            refine then_r ?_
            obtain rfl := Option.some.inj h
            exact b_ret1 S rfl rfl ⟨_, rfl, (RepV.mkInt G_16), W.below⟩
          · intro hc
            rw [if_neg (Bool.eq_false_iff.1 hc)] at h
            refine wp_skip ?_
            refine then_n ?_
            replace S := S.sub (l' := [(7, .int .i64 y_15)]) (by exact ⟨rfl, trivial⟩)
            refine wp_seq ?_
            refine wp_region_lit ?_
            refine wl_pure (l' := [(64, .int .i64 y_15), (7, .int .i64 y_15)]) S tys tys_ok 1 (by kernel_rfl) ?_
            clear S; intro a S
            obtain ⟨x_26, ex_26, h⟩ := bindS h
            refine w_go S rfl (op_arith S .i64 (8 * y_15) rfl (.inr (.inr rfl)) rfl rfl rfl rfl ex_26 ?_)
            clear S; intro a S
            refine wl_pure (l' := [(6, .int .i64 x_26), (65, .int .i64 x_26), (64, .int .i64 y_15), (7, .int .i64 y_15)]) S tys tys_ok 1 (by kernel_rfl) ?_
            clear S; intro a S
            refine wpList_nil ?_
            refine then_n ?_
            replace S := S.sub (l' := [(6, .int .i64 x_26)]) (by exact ⟨rfl, trivial⟩)
            refine wp_ret ?_
            refine then_r ?_
            obtain rfl := Option.some.inj h
            exact b_ret1 S rfl rfl ⟨_, rfl, (RepV.mkInt (ckI_some ex_26).2.1), W.below⟩
    · intro hc
      rw [if_neg (Bool.eq_false_iff.1 hc)] at h
      refine wp_skip ?_
      refine then_n ?_
      replace S := S.sub (l' := [(2, .int .i64 x2)]) (by exact ⟨rfl, trivial⟩)
      refine wp_seq ?_
      refine wp_seq ?_
      refine wp_region_lit ?_
      refine wl_pure (l' := [(67, .bool (decide (x2 > 255))), (66, .int .i64 x2), (2, .int .i64 x2)]) S tys tys_ok 2 (by kernel_rfl) ?_
      clear S; intro a S
      refine wpList_nil ?_
      refine then_n ?_
      replace S := S.sub (l' := [(67, .bool (decide (x2 > 255))), (2, .int .i64 x2)]) (by exact ⟨rfl, rfl, trivial⟩)
      refine wp_cond_split (S.eval (show ev _ _ = some (.bool (decide (x2 > 255))) from rfl)) ?_ ?_
      · intro hc
        rw [if_pos hc] at h
        refine wp_seq ?_
        refine wp_region_lit ?_
        refine wl_pure (l' := [(6, .int .i64 0), (67, .bool (decide (x2 > 255))), (2, .int .i64 x2)]) S tys tys_ok 1 (by kernel_rfl) ?_
        clear S; intro a S
        refine wpList_nil ?_
        refine then_n ?_
        replace S := S.sub (l' := [(6, .int .i64 0)]) (by exact ⟨rfl, trivial⟩)
        refine wp_ret ?_
        refine then_r ?_
        obtain rfl := Option.some.inj h
        exact b_ret1 S rfl rfl ⟨_, rfl, (RepV.mkInt (by decide)), W.below⟩
      · intro hc
        rw [if_neg (Bool.eq_false_iff.1 hc)] at h
        refine wp_skip ?_
        refine then_n ?_
        replace S := S.sub (l' := [(2, .int .i64 x2)]) (by exact ⟨rfl, trivial⟩)
        refine wp_seq ?_
        refine wp_region_lit ?_
        refine wl_pure (l' := [(9, .int .i64 32), (2, .int .i64 x2)]) S tys tys_ok 1 (by kernel_rfl) ?_
        clear S; intro a S
        refine wpList_nil ?_
        refine then_n ?_
        refine wp_seq ?_
        obtain ⟨y_31, ey_31, h⟩ := bindS h
        refine wp_cut_ (fun a_ w_ => St 75 a_ [(9, .int .i64 y_31)] ∧ Wd w w_ [] ∧ InR .i64 y_31) ?_ ?_
        · refine wp_block ?_
          refine wp_loop_n (fun m_ a_ w_ => ∃ (c_27 : Int) , St 75 a_ [(9, .int .i64 c_27), (2, .int .i64 x2)] ∧ Wd w w_ [] ∧ InR .i64 c_27 ∧ p9_l2 n x2 m_ c_27 = some y_31) n ?_ ?_
          · skip
            exact ⟨32, ⟨S.sub (by exact ⟨rfl, rfl, trivial⟩), W, (by decide), ey_31⟩⟩
          · clear S W; rintro m_33 a w_35 ⟨c_27, S, W, G_28, hl_34⟩
            cases m_33 with
            | zero => exact absurd hl_34 (by simp [p9_l2])
            | succ m_33 =>
              refine ⟨m_33, rfl, ?_⟩
              rw [p9_l2] at hl_34
              refine wp_seq ?_
              refine wp_seq ?_
              refine wp_region_lit ?_
              refine wl_pure (l' := [(70, .bool (decide (c_27 > x2))), (69, .int .i64 x2), (68, .int .i64 c_27), (9, .int .i64 c_27), (2, .int .i64 x2)]) S tys tys_ok 3 (by kernel_rfl) ?_
              clear S; intro a S
              refine wpList_nil ?_
              refine then_n ?_
              replace S := S.sub (l' := [(70, .bool (decide (c_27 > x2))), (9, .int .i64 c_27), (2, .int .i64 x2)]) (by exact ⟨rfl, rfl, rfl, trivial⟩)
              refine wp_cond_split (S.eval (show ev _ _ = some (.bool (decide (c_27 > x2))) from rfl)) ?_ ?_
              · intro hc
                rw [if_pos hc] at hl_34
                refine wp_skip ?_
                refine then_n ?_
                replace S := S.sub (l' := [(9, .int .i64 c_27), (2, .int .i64 x2)]) (by exact ⟨rfl, rfl, trivial⟩)
                refine wp_block ?_
                refine wp_region_lit ?_
                refine wl_pure (l' := [(71, .int .i64 c_27), (9, .int .i64 c_27), (2, .int .i64 x2)]) S tys tys_ok 1 (by kernel_rfl) ?_
                clear S; intro a S
                obtain ⟨x_36, ex_36, hl_34⟩ := bindS hl_34
                refine w_go S rfl (op_quo S .i64 rfl rfl rfl rfl rfl ex_36 ?_)
                clear S; intro a S
                refine wl_pure (l' := [(9, .int .i64 x_36), (72, .int .i64 x_36), (71, .int .i64 c_27), (9, .int .i64 c_27), (2, .int .i64 x2)]) S tys tys_ok 1 (by kernel_rfl) ?_
                clear S; intro a S
                refine wpList_nil ?_
                refine blk_n ?_
                refine then_n ?_
                exact ⟨x_36, ⟨S.sub (by exact ⟨rfl, rfl, trivial⟩), W, (inR_quo ex_36), hl_34⟩⟩
              · intro hc
                rw [if_neg (Bool.eq_false_iff.1 hc)] at hl_34
                refine wp_exit ?_
                refine then_x ?_
                refine then_x ?_
                refine blk_hit ?_
                refine then_n ?_
                obtain rfl := Option.some.inj hl_34
                exact ⟨S.sub (by exact ⟨rfl, trivial⟩), W, G_28⟩
        clear S W; rintro a w_37 ⟨S, W, G_32⟩
        refine then_n ?_
        refine wp_seq ?_
        refine wp_region_lit ?_
        refine wl_pure (l' := [(73, .int .i64 y_31), (9, .int .i64 y_31)]) S tys tys_ok 1 (by kernel_rfl) ?_
        clear S; intro a S
        obtain ⟨x_38, ex_38, h⟩ := bindS h
        refine w_go S rfl (op_arith S .i64 (8 * y_31) rfl (.inr (.inr rfl)) rfl rfl rfl rfl ex_38 ?_)
        clear S; intro a S
        refine wl_pure (l' := [(6, .int .i64 x_38), (74, .int .i64 x_38), (73, .int .i64 y_31), (9, .int .i64 y_31)]) S tys tys_ok 1 (by kernel_rfl) ?_
        clear S; intro a S
        refine wpList_nil ?_
        refine then_n ?_
        replace S := S.sub (l' := [(6, .int .i64 x_38)]) (by exact ⟨rfl, trivial⟩)
        refine wp_ret ?_
        obtain rfl := Option.some.inj h
        exact b_ret1 S rfl rfl ⟨_, rfl, (RepV.mkInt (ckI_some ex_38).2.1), W.below⟩
theorem cb9 : callB Try.prog 9 = true := by kernel_rfl
def p23 (n : Nat) (x0 : Int) (x1 : Int) : Option ((Bool)) :=
  (if (decide (x0 ≥ 1)) = true then some (decide (x0 ≤ 256)) else some false).bind fun q_1 =>
  (if q_1 = true then (ckI .i64 (x0 - 1)).bind fun x_3 => some ((bitsI .and .i64 x0 x_3) == 0) else some false).bind fun q_2 =>
  (if q_2 = true then some (decide (x1 ≥ 0)) else some false).bind fun q_4 =>
  (if q_4 = true then some (decide (x1 < x0)) else some false).bind fun q_5 =>
  some q_5
set_option maxHeartbeats 4000000 in
set_option maxRecDepth 100000 in
/-- plugboard/periodics.possible -/
theorem c23 (K : Nat → Prop) (n : Nat) (w : World) (x0 : Int) (G0 : InR .i64 x0) (x1 : Int) (G1 : InR .i64 x1) {r : (Bool)} (h : p23 n x0 x1 = some r) :
    Calls Try.prog 23 #[.int .i64 x0, .int .i64 x1] w (Ret1 .bool w (Kx K w.heap.size []) r) := by
  refine enter (args := [.int .i64 x0, .int .i64 x1]) Try.func23 rfl 27 rfl rfl fun a S => ?_
  have W := Wd.start w
  unfold p23 at h
  replace S : St 27 a [(0, .int .i64 x0), (1, .int .i64 x1)] := S
  refine wp_seq ?_
  refine wp_region_lit ?_
  refine wl_pure (l' := [(4, .bool false), (0, .int .i64 x0), (1, .int .i64 x1)]) S tys tys_ok 1 (by kernel_rfl) ?_
  clear S; intro a S
  refine wpList_nil ?_
  refine then_n ?_
  replace S := S.sub (l' := [(0, .int .i64 x0), (1, .int .i64 x1)]) (by exact ⟨rfl, rfl, trivial⟩)
  refine wp_seq ?_
  refine wp_region_lit ?_
  refine wl_pure (l' := [(7, .bool (decide (x0 ≥ 1))), (6, .bool (decide (x0 ≥ 1))), (5, .int .i64 x0), (0, .int .i64 x0), (1, .int .i64 x1)]) S tys tys_ok 3 (by kernel_rfl) ?_
  clear S; intro a S
  obtain ⟨q_1, eq_1, h⟩ := bindS h
  refine seg 3 (fun a_ w_ => w = w_ ∧ St 27 a_ [(10, .bool q_1), (0, .int .i64 x0), (1, .int .i64 x1)]) ?_ ?_
  · by_cases hc : (decide (x0 ≥ 1)) = true
    · rw [if_pos hc] at eq_1; rw [hc] at S
      refine wl_pure (l' := [(10, .bool (decide (x0 ≤ 256))), (9, .bool (decide (x0 ≤ 256))), (8, .int .i64 x0), (7, .bool true), (6, .bool true), (5, .int .i64 x0), (0, .int .i64 x0), (1, .int .i64 x1)]) S tys tys_ok 3 (by kernel_rfl) ?_
      clear S; intro a S
      obtain rfl := Option.some.inj eq_1
      exact ⟨rfl, S.sub (by exact ⟨rfl, rfl, rfl, trivial⟩)⟩
    · rw [if_neg hc] at eq_1; rw [show (decide (x0 ≥ 1)) = false from Bool.eq_false_iff.2 hc] at S
      refine wl_pure (l' := [(10, .bool false), (9, undef), (8, undef), (7, .bool false), (6, .bool false), (5, .int .i64 x0), (0, .int .i64 x0), (1, .int .i64 x1)]) S tys tys_ok 3 (by kernel_rfl) ?_
      clear S; intro a S
      obtain rfl := Option.some.inj eq_1
      exact ⟨rfl, S.sub (by exact ⟨rfl, rfl, rfl, trivial⟩)⟩
  clear S eq_1; rintro a _ ⟨rfl, S⟩
  refine wl_pure (l' := [(11, .bool q_1), (10, .bool q_1), (0, .int .i64 x0), (1, .int .i64 x1)]) S tys tys_ok 1 (by kernel_rfl) ?_
  clear S; intro a S
  obtain ⟨q_2, eq_2, h⟩ := bindS h
  refine seg 6 (fun a_ w_ => w = w_ ∧ St 27 a_ [(17, .bool q_2), (0, .int .i64 x0), (1, .int .i64 x1)]) ?_ ?_
  · by_cases hc : q_1 = true
    · rw [if_pos hc] at eq_2; rw [hc] at S
      refine wl_pure (l' := [(13, .int .i64 x0), (12, .int .i64 x0), (11, .bool true), (10, .bool true), (0, .int .i64 x0), (1, .int .i64 x1)]) S tys tys_ok 2 (by kernel_rfl) ?_
      clear S; intro a S
      obtain ⟨x_3, ex_3, eq_2⟩ := bindS eq_2
      refine w_go S rfl (op_arith S .i64 (x0 - 1) rfl (.inr (.inl rfl)) rfl rfl rfl rfl ex_3 ?_)
      clear S; intro a S
      refine wl_pure (l' := [(17, .bool ((bitsI .and .i64 x0 x_3) == 0)), (16, .bool ((bitsI .and .i64 x0 x_3) == 0)), (15, .int .i64 (bitsI .and .i64 x0 x_3)), (14, .int .i64 x_3), (13, .int .i64 x0), (12, .int .i64 x0), (11, .bool true), (10, .bool true), (0, .int .i64 x0), (1, .int .i64 x1)]) S tys tys_ok 3 (by kernel_rfl) ?_
      clear S; intro a S
      obtain rfl := Option.some.inj eq_2
      exact ⟨rfl, S.sub (by exact ⟨rfl, rfl, rfl, trivial⟩)⟩
    · rw [if_neg hc] at eq_2; rw [show q_1 = false from Bool.eq_false_iff.2 hc] at S
      refine wl_pure (l' := [(17, .bool false), (16, undef), (15, undef), (14, undef), (13, undef), (12, undef), (11, .bool false), (10, .bool false), (0, .int .i64 x0), (1, .int .i64 x1)]) S tys tys_ok 6 (by kernel_rfl) ?_
      clear S; intro a S
      obtain rfl := Option.some.inj eq_2
      exact ⟨rfl, S.sub (by exact ⟨rfl, rfl, rfl, trivial⟩)⟩
  clear S eq_2; rintro a _ ⟨rfl, S⟩
  refine wl_pure (l' := [(18, .bool q_2), (17, .bool q_2), (0, .int .i64 x0), (1, .int .i64 x1)]) S tys tys_ok 1 (by kernel_rfl) ?_
  clear S; intro a S
  obtain ⟨q_4, eq_4, h⟩ := bindS h
  refine seg 3 (fun a_ w_ => w = w_ ∧ St 27 a_ [(21, .bool q_4), (0, .int .i64 x0), (1, .int .i64 x1)]) ?_ ?_
  · by_cases hc : q_2 = true
    · rw [if_pos hc] at eq_4; rw [hc] at S
      refine wl_pure (l' := [(21, .bool (decide (x1 ≥ 0))), (20, .bool (decide (x1 ≥ 0))), (19, .int .i64 x1), (18, .bool true), (17, .bool true), (0, .int .i64 x0), (1, .int .i64 x1)]) S tys tys_ok 3 (by kernel_rfl) ?_
      clear S; intro a S
      obtain rfl := Option.some.inj eq_4
      exact ⟨rfl, S.sub (by exact ⟨rfl, rfl, rfl, trivial⟩)⟩
    · rw [if_neg hc] at eq_4; rw [show q_2 = false from Bool.eq_false_iff.2 hc] at S
      refine wl_pure (l' := [(21, .bool false), (20, undef), (19, undef), (18, .bool false), (17, .bool false), (0, .int .i64 x0), (1, .int .i64 x1)]) S tys tys_ok 3 (by kernel_rfl) ?_
      clear S; intro a S
      obtain rfl := Option.some.inj eq_4
      exact ⟨rfl, S.sub (by exact ⟨rfl, rfl, rfl, trivial⟩)⟩
  clear S eq_4; rintro a _ ⟨rfl, S⟩
  refine wl_pure (l' := [(22, .bool q_4), (21, .bool q_4), (0, .int .i64 x0), (1, .int .i64 x1)]) S tys tys_ok 1 (by kernel_rfl) ?_
  clear S; intro a S
  obtain ⟨q_5, eq_5, h⟩ := bindS h
  refine seg 4 (fun a_ w_ => w = w_ ∧ St 27 a_ [(26, .bool q_5)]) ?_ ?_
  · by_cases hc : q_4 = true
    · rw [if_pos hc] at eq_5; rw [hc] at S
      refine wl_pure (l' := [(26, .bool (decide (x1 < x0))), (25, .bool (decide (x1 < x0))), (24, .int .i64 x0), (23, .int .i64 x1), (22, .bool true), (21, .bool true), (0, .int .i64 x0), (1, .int .i64 x1)]) S tys tys_ok 4 (by kernel_rfl) ?_
      clear S; intro a S
      obtain rfl := Option.some.inj eq_5
      exact ⟨rfl, S.sub (by exact ⟨rfl, trivial⟩)⟩
    · rw [if_neg hc] at eq_5; rw [show q_4 = false from Bool.eq_false_iff.2 hc] at S
      refine wl_pure (l' := [(26, .bool false), (25, undef), (24, undef), (23, undef), (22, .bool false), (21, .bool false), (0, .int .i64 x0), (1, .int .i64 x1)]) S tys tys_ok 4 (by kernel_rfl) ?_
      clear S; intro a S
      obtain rfl := Option.some.inj eq_5
      exact ⟨rfl, S.sub (by exact ⟨rfl, trivial⟩)⟩
  clear S eq_5; rintro a _ ⟨rfl, S⟩
  refine wl_pure (l' := [(4, .bool q_5), (26, .bool q_5)]) S tys tys_ok 1 (by kernel_rfl) ?_
  clear S; intro a S
  refine wpList_nil ?_
  refine then_n ?_
  replace S := S.sub (l' := [(4, .bool q_5)]) (by exact ⟨rfl, trivial⟩)
  refine wp_ret ?_
  obtain rfl := Option.some.inj h
  exact b_ret1 S rfl rfl ⟨_, rfl, RepV.mkBool, W.below⟩
theorem cb23 : callB Try.prog 23 = true := by kernel_rfl
def p12 (n : Nat) (x0 : Int) (x1 : Int) (x2 : Int) : Option ((Bool)) :=
  (p23 n x0 x1).bind fun t_1 =>
  (if t_1 = true then some (decide (x2 ≥ 0)) else some false).bind fun q_6 =>
  (if q_6 = true then (remI .i64 x2 x0).bind fun x_8 => some (x_8 == x1) else some false).bind fun q_7 =>
  some q_7
set_option maxHeartbeats 4000000 in
set_option maxRecDepth 100000 in
/-- plugboard/periodics.Due -/
theorem c12 (K : Nat → Prop) (n : Nat) (w : World) (x0 : Int) (G0 : InR .i64 x0) (x1 : Int) (G1 : InR .i64 x1) (x2 : Int) (G2 : InR .i64 x2) {r : (Bool)} (h : p12 n x0 x1 x2 = some r) :
    Calls Try.prog 12 #[.int .i64 x0, .int .i64 x1, .int .i64 x2] w (Ret1 .bool w (Kx K w.heap.size []) r) := by
  refine enter (args := [.int .i64 x0, .int .i64 x1, .int .i64 x2]) Try.func12 rfl 21 rfl rfl fun a S => ?_
  have W := Wd.start w
  unfold p12 at h
  replace S : St 21 a [(0, .int .i64 x0), (1, .int .i64 x1), (2, .int .i64 x2)] := S
  refine wp_seq ?_
  refine wp_region_lit ?_
  refine wl_pure (l' := [(6, .bool false), (0, .int .i64 x0), (1, .int .i64 x1), (2, .int .i64 x2)]) S tys tys_ok 1 (by kernel_rfl) ?_
  clear S; intro a S
  refine wpList_nil ?_
  refine then_n ?_
  replace S := S.sub (l' := [(0, .int .i64 x0), (1, .int .i64 x1), (2, .int .i64 x2)]) (by exact ⟨rfl, rfl, rfl, trivial⟩)
  refine wp_seq ?_
  refine wp_region_lit ?_
  refine wl_pure (l' := [(8, .int .i64 x1), (7, .int .i64 x0), (0, .int .i64 x0), (1, .int .i64 x1), (2, .int .i64 x2)]) S tys tys_ok 2 (by kernel_rfl) ?_
  clear S; intro a S
  obtain ⟨t_1, et_1, h⟩ := bindS h
  refine w_go S rfl (op_call (vs := [.int .i64 x0, .int .i64 x1]) S rfl cb23 rfl rfl rfl (c23 (Kx K w.heap.size []) n w x0 G0 x1 G1 et_1) ?_)
  rintro _ w_5 ⟨v_2, rfl, R_3, hb_4⟩; refine ⟨_, rfl, ?_⟩
  replace R_3 := RepV.back R_3 W
  clear S; intro a S
  replace W := W.step hb_4
  obtain rfl := RepV.bool R_3
  refine wl_pure (l' := [(10, .bool t_1), (9, .bool t_1), (8, .int .i64 x1), (7, .int .i64 x0), (0, .int .i64 x0), (1, .int .i64 x1), (2, .int .i64 x2)]) S tys tys_ok 1 (by kernel_rfl) ?_
  clear S; intro a S
  obtain ⟨q_6, eq_6, h⟩ := bindS h
  refine seg 3 (fun a_ w_ => w_5 = w_ ∧ St 21 a_ [(13, .bool q_6), (0, .int .i64 x0), (1, .int .i64 x1), (2, .int .i64 x2)]) ?_ ?_
  · by_cases hc : t_1 = true
    · rw [if_pos hc] at eq_6; rw [hc] at S
      refine wl_pure (l' := [(13, .bool (decide (x2 ≥ 0))), (12, .bool (decide (x2 ≥ 0))), (11, .int .i64 x2), (10, .bool true), (9, .bool true), (8, .int .i64 x1), (7, .int .i64 x0), (0, .int .i64 x0), (1, .int .i64 x1), (2, .int .i64 x2)]) S tys tys_ok 3 (by kernel_rfl) ?_
      clear S; intro a S
      obtain rfl := Option.some.inj eq_6
      exact ⟨rfl, S.sub (by exact ⟨rfl, rfl, rfl, rfl, trivial⟩)⟩
    · rw [if_neg hc] at eq_6; rw [show t_1 = false from Bool.eq_false_iff.2 hc] at S
      refine wl_pure (l' := [(13, .bool false), (12, undef), (11, undef), (10, .bool false), (9, .bool false), (8, .int .i64 x1), (7, .int .i64 x0), (0, .int .i64 x0), (1, .int .i64 x1), (2, .int .i64 x2)]) S tys tys_ok 3 (by kernel_rfl) ?_
      clear S; intro a S
      obtain rfl := Option.some.inj eq_6
      exact ⟨rfl, S.sub (by exact ⟨rfl, rfl, rfl, rfl, trivial⟩)⟩
  clear S eq_6; rintro a _ ⟨rfl, S⟩
  refine wl_pure (l' := [(14, .bool q_6), (13, .bool q_6), (0, .int .i64 x0), (1, .int .i64 x1), (2, .int .i64 x2)]) S tys tys_ok 1 (by kernel_rfl) ?_
  clear S; intro a S
  obtain ⟨q_7, eq_7, h⟩ := bindS h
  refine seg 6 (fun a_ w_ => w_5 = w_ ∧ St 21 a_ [(20, .bool q_7)]) ?_ ?_
  · by_cases hc : q_6 = true
    · rw [if_pos hc] at eq_7; rw [hc] at S
      refine wl_pure (l' := [(16, .int .i64 x0), (15, .int .i64 x2), (14, .bool true), (13, .bool true), (0, .int .i64 x0), (1, .int .i64 x1), (2, .int .i64 x2)]) S tys tys_ok 2 (by kernel_rfl) ?_
      clear S; intro a S
      obtain ⟨x_8, ex_8, eq_7⟩ := bindS eq_7
      refine w_go S rfl (op_rem S .i64 rfl rfl rfl rfl rfl ex_8 ?_)
      clear S; intro a S
      refine wl_pure (l' := [(20, .bool (x_8 == x1)), (19, .bool (x_8 == x1)), (18, .int .i64 x1), (17, .int .i64 x_8), (16, .int .i64 x0), (15, .int .i64 x2), (14, .bool true), (13, .bool true), (0, .int .i64 x0), (1, .int .i64 x1), (2, .int .i64 x2)]) S tys tys_ok 3 (by kernel_rfl) ?_
      clear S; intro a S
      obtain rfl := Option.some.inj eq_7
      exact ⟨rfl, S.sub (by exact ⟨rfl, trivial⟩)⟩
    · rw [if_neg hc] at eq_7; rw [show q_6 = false from Bool.eq_false_iff.2 hc] at S
      refine wl_pure (l' := [(20, .bool false), (19, undef), (18, undef), (17, undef), (16, undef), (15, undef), (14, .bool false), (13, .bool false), (0, .int .i64 x0), (1, .int .i64 x1), (2, .int .i64 x2)]) S tys tys_ok 6 (by kernel_rfl) ?_
      clear S; intro a S
      obtain rfl := Option.some.inj eq_7
      exact ⟨rfl, S.sub (by exact ⟨rfl, trivial⟩)⟩
  clear S eq_7; rintro a _ ⟨rfl, S⟩
  refine wl_pure (l' := [(6, .bool q_7), (20, .bool q_7)]) S tys tys_ok 1 (by kernel_rfl) ?_
  clear S; intro a S
  refine wpList_nil ?_
  refine then_n ?_
  replace S := S.sub (l' := [(6, .bool q_7)]) (by exact ⟨rfl, trivial⟩)
  refine wp_ret ?_
  obtain rfl := Option.some.inj h
  exact b_ret1 S rfl rfl ⟨_, rfl, RepV.mkBool, W.below⟩
theorem cb12 : callB Try.prog 12 = true := by kernel_rfl
def p13 (n : Nat) (x0 : Int) (x1 : Int) (x2 : Int) (x3 : Int) : Option ((Int)) :=
  (p23 n x0 x1).bind fun t_1 =>
  (if (!t_1) = false then some (decide (x3 ≤ (if 0 > x2 then 0 else x2))) else some true).bind fun q_6 =>
  if q_6 then (some 0) else (ckI .i64 (x3 - (if 0 > x2 then 0 else x2))).bind fun x_7 => (remI .i64 x_7 x0).bind fun x_8 => (quoI .i64 x_7 x0).bind fun x_9 => (remI .i64 (if 0 > x2 then 0 else x2) x0).bind fun x_10 => (ckI .i64 (x1 - x_10)).bind fun x_11 => (ckI .i64 (x_11 + x0)).bind fun x_12 => (remI .i64 x_12 x0).bind fun x_13 => (if (decide (x_13 < x_8)) then ((ckI .i64 (x_9 + 1)).bind fun x_16 => some x_16) else some x_9).bind fun (j_14 : (Int)) => some j_14
set_option maxHeartbeats 4000000 in
set_option maxRecDepth 100000 in
/-- plugboard/periodics.Count -/
theorem c13 (K : Nat → Prop) (n : Nat) (w : World) (x0 : Int) (G0 : InR .i64 x0) (x1 : Int) (G1 : InR .i64 x1) (x2 : Int) (G2 : InR .i64 x2) (x3 : Int) (G3 : InR .i64 x3) {r : (Int)} (h : p13 n x0 x1 x2 x3 = some r) :
    Calls Try.prog 13 #[.int .i64 x0, .int .i64 x1, .int .i64 x2, .int .i64 x3] w (Ret1 (.int .i64) w (Kx K w.heap.size []) r) := by
  refine enter (args := [.int .i64 x0, .int .i64 x1, .int .i64 x2, .int .i64 x3]) Try.func13 rfl 46 rfl rfl fun a S => ?_
  have W := Wd.start w
  unfold p13 at h
  replace S : St 46 a [(0, .int .i64 x0), (1, .int .i64 x1), (2, .int .i64 x2), (3, .int .i64 x3)] := S
  refine wp_seq ?_
  refine wp_region_lit ?_
  refine wl_pure (l' := [(8, .int .i64 0), (0, .int .i64 x0), (1, .int .i64 x1), (2, .int .i64 x2), (3, .int .i64 x3)]) S tys tys_ok 1 (by kernel_rfl) ?_
  clear S; intro a S
  refine wpList_nil ?_
  refine then_n ?_
  replace S := S.sub (l' := [(0, .int .i64 x0), (1, .int .i64 x1), (2, .int .i64 x2), (3, .int .i64 x3)]) (by exact ⟨rfl, rfl, rfl, rfl, trivial⟩)
  refine wp_seq ?_
  refine wp_region_lit ?_
  refine wl_pure (l' := [(12, .int .i64 x2), (0, .int .i64 x0), (1, .int .i64 x1), (2, .int .i64 x2), (3, .int .i64 x3)]) S tys tys_ok 1 (by kernel_rfl) ?_
  clear S; intro a S
  refine w_go S rfl (op_max S rfl rfl rfl rfl rfl ?_)
  clear S; intro a S
  refine wl_pure (l' := [(2, .int .i64 (if 0 > x2 then 0 else x2)), (13, .int .i64 (if 0 > x2 then 0 else x2)), (12, .int .i64 x2), (0, .int .i64 x0), (1, .int .i64 x1), (2, .int .i64 x2), (3, .int .i64 x3)]) S tys tys_ok 1 (by kernel_rfl) ?_
  clear S; intro a S
  refine wpList_nil ?_
  refine then_n ?_
  replace S := S.sub (l' := [(2, .int .i64 (if 0 > x2 then 0 else x2)), (0, .int .i64 x0), (1, .int .i64 x1), (3, .int .i64 x3)]) (by exact ⟨rfl, rfl, rfl, rfl, trivial⟩)
  refine wp_seq ?_
  refine wp_seq ?_
  refine wp_region_lit ?_
  refine wl_pure (l' := [(15, .int .i64 x1), (14, .int .i64 x0), (2, .int .i64 (if 0 > x2 then 0 else x2)), (0, .int .i64 x0), (1, .int .i64 x1), (3, .int .i64 x3)]) S tys tys_ok 2 (by kernel_rfl) ?_
  clear S; intro a S
  obtain ⟨t_1, et_1, h⟩ := bindS h
  refine w_go S rfl (op_call (vs := [.int .i64 x0, .int .i64 x1]) S rfl cb23 rfl rfl rfl (c23 (Kx K w.heap.size []) n w x0 G0 x1 G1 et_1) ?_)
  rintro _ w_5 ⟨v_2, rfl, R_3, hb_4⟩; refine ⟨_, rfl, ?_⟩
  replace R_3 := RepV.back R_3 W
  clear S; intro a S
  replace W := W.step hb_4
  obtain rfl := RepV.bool R_3
  refine wl_pure (l' := [(18, .bool (!t_1)), (17, .bool (!t_1)), (16, .bool t_1), (15, .int .i64 x1), (14, .int .i64 x0), (2, .int .i64 (if 0 > x2 then 0 else x2)), (0, .int .i64 x0), (1, .int .i64 x1), (3, .int .i64 x3)]) S tys tys_ok 2 (by kernel_rfl) ?_
  clear S; intro a S
  obtain ⟨q_6, eq_6, h⟩ := bindS h
  refine seg 4 (fun a_ w_ => w_5 = w_ ∧ St 46 a_ [(22, .bool q_6), (2, .int .i64 (if 0 > x2 then 0 else x2)), (0, .int .i64 x0), (1, .int .i64 x1), (3, .int .i64 x3)]) ?_ ?_
  · by_cases hc : (!t_1) = false
    · rw [if_pos hc] at eq_6; rw [hc] at S
      refine wl_pure (l' := [(22, .bool (decide (x3 ≤ (if 0 > x2 then 0 else x2)))), (21, .bool (decide (x3 ≤ (if 0 > x2 then 0 else x2)))), (20, .int .i64 (if 0 > x2 then 0 else x2)), (19, .int .i64 x3), (18, .bool false), (17, .bool false), (16, .bool t_1), (15, .int .i64 x1), (14, .int .i64 x0), (2, .int .i64 (if 0 > x2 then 0 else x2)), (0, .int .i64 x0), (1, .int .i64 x1), (3, .int .i64 x3)]) S tys tys_ok 4 (by kernel_rfl) ?_
      clear S; intro a S
      obtain rfl := Option.some.inj eq_6
      exact ⟨rfl, S.sub (by exact ⟨rfl, rfl, rfl, rfl, rfl, trivial⟩)⟩
    · rw [if_neg hc] at eq_6; rw [show (!t_1) = true from (by simpa using hc)] at S
      refine wl_pure (l' := [(22, .bool true), (21, undef), (20, undef), (19, undef), (18, .bool true), (17, .bool true), (16, .bool t_1), (15, .int .i64 x1), (14, .int .i64 x0), (2, .int .i64 (if 0 > x2 then 0 else x2)), (0, .int .i64 x0), (1, .int .i64 x1), (3, .int .i64 x3)]) S tys tys_ok 4 (by kernel_rfl) ?_
      clear S; intro a S
      obtain rfl := Option.some.inj eq_6
      exact ⟨rfl, S.sub (by exact ⟨rfl, rfl, rfl, rfl, rfl, trivial⟩)⟩
  clear S eq_6; rintro a _ ⟨rfl, S⟩
  refine wpList_nil ?_
  refine then_n ?_
  refine wp_cond_split (S.eval (show ev _ _ = some (.bool q_6) from rfl)) ?_ ?_
  · intro hc
    rw [if_pos hc] at h
    refine wp_seq ?_
    refine wp_region_lit ?_
    refine wl_pure (l' := [(8, .int .i64 0), (22, .bool q_6), (2, .int .i64 (if 0 > x2 then 0 else x2)), (0, .int .i64 x0), (1, .int .i64 x1), (3, .int .i64 x3)]) S tys tys_ok 1 (by kernel_rfl) ?_
    clear S; intro a S
    refine wpList_nil ?_
    refine then_n ?_
    replace S := S.sub (l' := [(8, .int .i64 0)]) (by exact ⟨rfl, trivial⟩)
    refine wp_ret ?_
    refine then_r ?_
    obtain rfl := Option.some.inj h
    exact b_ret1 S rfl rfl ⟨_, rfl, (RepV.mkInt (by decide)), W.below⟩
  · intro hc
    rw [if_neg (Bool.eq_false_iff.1 hc)] at h
    refine wp_skip ?_
    refine then_n ?_
    replace S := S.sub (l' := [(2, .int .i64 (if 0 > x2 then 0 else x2)), (0, .int .i64 x0), (1, .int .i64 x1), (3, .int .i64 x3)]) (by exact ⟨rfl, rfl, rfl, rfl, trivial⟩)
    refine wp_seq ?_
    refine wp_region_lit ?_
    refine wl_pure (l' := [(24, .int .i64 (if 0 > x2 then 0 else x2)), (23, .int .i64 x3), (2, .int .i64 (if 0 > x2 then 0 else x2)), (0, .int .i64 x0), (1, .int .i64 x1), (3, .int .i64 x3)]) S tys tys_ok 2 (by kernel_rfl) ?_
    clear S; intro a S
    obtain ⟨x_7, ex_7, h⟩ := bindS h
    refine w_go S rfl (op_arith S .i64 (x3 - (if 0 > x2 then 0 else x2)) rfl (.inr (.inl rfl)) rfl rfl rfl rfl ex_7 ?_)
    clear S; intro a S
    refine wl_pure (l' := [(9, .int .i64 x_7), (25, .int .i64 x_7), (24, .int .i64 (if 0 > x2 then 0 else x2)), (23, .int .i64 x3), (2, .int .i64 (if 0 > x2 then 0 else x2)), (0, .int .i64 x0), (1, .int .i64 x1), (3, .int .i64 x3)]) S tys tys_ok 1 (by kernel_rfl) ?_
    clear S; intro a S
    refine wpList_nil ?_
    refine then_n ?_
    replace S := S.sub (l' := [(9, .int .i64 x_7), (2, .int .i64 (if 0 > x2 then 0 else x2)), (0, .int .i64 x0), (1, .int .i64 x1)]) (by exact ⟨rfl, rfl, rfl, rfl, trivial⟩)
    refine wp_seq ?_
    refine wp_region_lit ?_
    refine wl_pure (l' := [(27, .int .i64 x0), (26, .int .i64 x_7), (9, .int .i64 x_7), (2, .int .i64 (if 0 > x2 then 0 else x2)), (0, .int .i64 x0), (1, .int .i64 x1)]) S tys tys_ok 2 (by kernel_rfl) ?_
    clear S; intro a S
    obtain ⟨x_8, ex_8, h⟩ := bindS h
    refine w_go S rfl (op_rem S .i64 rfl rfl rfl rfl rfl ex_8 ?_)
    clear S; intro a S
    refine wl_pure (l' := [(10, .int .i64 x_8), (28, .int .i64 x_8), (27, .int .i64 x0), (26, .int .i64 x_7), (9, .int .i64 x_7), (2, .int .i64 (if 0 > x2 then 0 else x2)), (0, .int .i64 x0), (1, .int .i64 x1)]) S tys tys_ok 1 (by kernel_rfl) ?_
    clear S; intro a S
    refine wpList_nil ?_
    refine then_n ?_
    replace S := S.sub (l' := [(10, .int .i64 x_8), (9, .int .i64 x_7), (2, .int .i64 (if 0 > x2 then 0 else x2)), (0, .int .i64 x0), (1, .int .i64 x1)]) (by exact ⟨rfl, rfl, rfl, rfl, rfl, trivial⟩)
    refine wp_seq ?_
    refine wp_region_lit ?_
    refine wl_pure (l' := [(30, .int .i64 x0), (29, .int .i64 x_7), (10, .int .i64 x_8), (9, .int .i64 x_7), (2, .int .i64 (if 0 > x2 then 0 else x2)), (0, .int .i64 x0), (1, .int .i64 x1)]) S tys tys_ok 2 (by kernel_rfl) ?_
    clear S; intro a S
    obtain ⟨x_9, ex_9, h⟩ := bindS h
    refine w_go S rfl (op_quo S .i64 rfl rfl rfl rfl rfl ex_9 ?_)
    clear S; intro a S
    refine wl_pure (l' := [(11, .int .i64 x_9), (31, .int .i64 x_9), (30, .int .i64 x0), (29, .int .i64 x_7), (10, .int .i64 x_8), (9, .int .i64 x_7), (2, .int .i64 (if 0 > x2 then 0 else x2)), (0, .int .i64 x0), (1, .int .i64 x1)]) S tys tys_ok 1 (by kernel_rfl) ?_
    clear S; intro a S
    refine wpList_nil ?_
    refine then_n ?_
    replace S := S.sub (l' := [(11, .int .i64 x_9), (10, .int .i64 x_8), (2, .int .i64 (if 0 > x2 then 0 else x2)), (0, .int .i64 x0), (1, .int .i64 x1)]) (by exact ⟨rfl, rfl, rfl, rfl, rfl, trivial⟩)
    refine wp_seq ?_
    refine wp_seq ?_
    refine wp_region_lit ?_
    refine wl_pure (l' := [(34, .int .i64 x0), (33, .int .i64 (if 0 > x2 then 0 else x2)), (32, .int .i64 x1), (11, .int .i64 x_9), (10, .int .i64 x_8), (2, .int .i64 (if 0 > x2 then 0 else x2)), (0, .int .i64 x0), (1, .int .i64 x1)]) S tys tys_ok 3 (by kernel_rfl) ?_
    clear S; intro a S
    obtain ⟨x_10, ex_10, h⟩ := bindS h
    refine w_go S rfl (op_rem S .i64 rfl rfl rfl rfl rfl ex_10 ?_)
    clear S; intro a S
    obtain ⟨x_11, ex_11, h⟩ := bindS h
    refine w_go S rfl (op_arith S .i64 (x1 - x_10) rfl (.inr (.inl rfl)) rfl rfl rfl rfl ex_11 ?_)
    clear S; intro a S
    refine wl_pure (l' := [(37, .int .i64 x0), (36, .int .i64 x_11), (35, .int .i64 x_10), (34, .int .i64 x0), (33, .int .i64 (if 0 > x2 then 0 else x2)), (32, .int .i64 x1), (11, .int .i64 x_9), (10, .int .i64 x_8), (2, .int .i64 (if 0 > x2 then 0 else x2)), (0, .int .i64 x0), (1, .int .i64 x1)]) S tys tys_ok 1 (by kernel_rfl) ?_
    clear S; intro a S
    obtain ⟨x_12, ex_12, h⟩ := bindS h
    refine w_go S rfl (op_arith S .i64 (x_11 + x0) rfl (.inl rfl) rfl rfl rfl rfl ex_12 ?_)
    clear S; intro a S
    refine wl_pure (l' := [(39, .int .i64 x0), (38, .int .i64 x_12), (37, .int .i64 x0), (36, .int .i64 x_11), (35, .int .i64 x_10), (34, .int .i64 x0), (33, .int .i64 (if 0 > x2 then 0 else x2)), (32, .int .i64 x1), (11, .int .i64 x_9), (10, .int .i64 x_8), (2, .int .i64 (if 0 > x2 then 0 else x2)), (0, .int .i64 x0), (1, .int .i64 x1)]) S tys tys_ok 1 (by kernel_rfl) ?_
    clear S; intro a S
    obtain ⟨x_13, ex_13, h⟩ := bindS h
    refine w_go S rfl (op_rem S .i64 rfl rfl rfl rfl rfl ex_13 ?_)
    clear S; intro a S
    refine wl_pure (l' := [(42, .bool (decide (x_13 < x_8))), (41, .int .i64 x_8), (40, .int .i64 x_13), (39, .int .i64 x0), (38, .int .i64 x_12), (37, .int .i64 x0), (36, .int .i64 x_11), (35, .int .i64 x_10), (34, .int .i64 x0), (33, .int .i64 (if 0 > x2 then 0 else x2)), (32, .int .i64 x1), (11, .int .i64 x_9), (10, .int .i64 x_8), (2, .int .i64 (if 0 > x2 then 0 else x2)), (0, .int .i64 x0), (1, .int .i64 x1)]) S tys tys_ok 2 (by kernel_rfl) ?_
    clear S; intro a S
    refine wpList_nil ?_
    refine then_n ?_
    replace S := S.sub (l' := [(42, .bool (decide (x_13 < x_8))), (11, .int .i64 x_9)]) (by exact ⟨rfl, rfl, trivial⟩)
    obtain ⟨j_14, ej_14, h⟩ := bindS h
    refine wp_cut_ (fun a_ w_ => St 46 a_ [(11, .int .i64 j_14)] ∧ Wd w w_ [] ∧ InR .i64 j_14) ?_ ?_
    · refine wp_cond_split (S.eval (show ev _ _ = some (.bool (decide (x_13 < x_8))) from rfl)) ?_ ?_
      · intro hc
        rw [if_pos hc] at ej_14
        refine wp_region_lit ?_
        refine wl_pure (l' := [(43, .int .i64 x_9), (42, .bool (decide (x_13 < x_8))), (11, .int .i64 x_9)]) S tys tys_ok 1 (by kernel_rfl) ?_
        clear S; intro a S
        obtain ⟨x_16, ex_16, ej_14⟩ := bindS ej_14
        refine w_go S rfl (op_arith S .i64 (x_9 + 1) rfl (.inl rfl) rfl rfl rfl rfl ex_16 ?_)
        clear S; intro a S
        refine wl_pure (l' := [(11, .int .i64 x_16), (44, .int .i64 x_16), (43, .int .i64 x_9), (42, .bool (decide (x_13 < x_8))), (11, .int .i64 x_9)]) S tys tys_ok 1 (by kernel_rfl) ?_
        clear S; intro a S
        refine wpList_nil ?_
        refine then_n ?_
        obtain rfl := Option.some.inj ej_14
        exact ⟨S.sub (by exact ⟨rfl, trivial⟩), W, (ckI_some ex_16).2.1⟩
      · intro hc
        rw [if_neg (Bool.eq_false_iff.1 hc)] at ej_14
        refine wp_skip ?_
        refine then_n ?_
        obtain rfl := Option.some.inj ej_14
        exact ⟨S.sub (by exact ⟨rfl, trivial⟩), W, (inR_quo ex_9)⟩
    clear S W; rintro a w_17 ⟨S, W, G_15⟩
    refine then_n ?_
    refine wp_seq ?_
    refine wp_region_lit ?_
    refine wl_pure (l' := [(8, .int .i64 j_14), (45, .int .i64 j_14), (11, .int .i64 j_14)]) S tys tys_ok 2 (by kernel_rfl) ?_
    clear S; intro a S
    refine wpList_nil ?_
    refine then_n ?_
    replace S := S.sub (l' := [(8, .int .i64 j_14)]) (by exact ⟨rfl, trivial⟩)
    refine wp_ret ?_
    obtain rfl := Option.some.inj h
    exact b_ret1 S rfl rfl ⟨_, rfl, (RepV.mkInt G_15), W.below⟩
theorem cb13 : callB Try.prog 13 = true := by kernel_rfl
def p28 (n : Nat) (x0 : Int) (x1 : Int) (x2 : Int) : Option ((Int)) :=
  (remI .i64 (if 0 > x2 then 0 else x2) x0).bind fun x_1 =>
  (ckI .i64 (x1 - x_1)).bind fun x_2 =>
  (ckI .i64 (x_2 + x0)).bind fun x_3 =>
  (remI .i64 x_3 x0).bind fun x_4 =>
  (ckI .i64 ((if 0 > x2 then 0 else x2) + x_4)).bind fun x_5 =>
  some x_5
set_option maxHeartbeats 4000000 in
set_option maxRecDepth 100000 in
/-- plugboard/periodics.first -/
theorem c28 (K : Nat → Prop) (n : Nat) (w : World) (x0 : Int) (G0 : InR .i64 x0) (x1 : Int) (G1 : InR .i64 x1) (x2 : Int) (G2 : InR .i64 x2) {r : (Int)} (h : p28 n x0 x1 x2 = some r) :
    Calls Try.prog 28 #[.int .i64 x0, .int .i64 x1, .int .i64 x2] w (Ret1 (.int .i64) w (Kx K w.heap.size []) r) := by
  refine enter (args := [.int .i64 x0, .int .i64 x1, .int .i64 x2]) Try.func28 rfl 20 rfl rfl fun a S => ?_
  have W := Wd.start w
  unfold p28 at h
  replace S : St 20 a [(0, .int .i64 x0), (1, .int .i64 x1), (2, .int .i64 x2)] := S
  refine wp_seq ?_
  refine wp_region_lit ?_
  refine wl_pure (l' := [(6, .int .i64 0), (0, .int .i64 x0), (1, .int .i64 x1), (2, .int .i64 x2)]) S tys tys_ok 1 (by kernel_rfl) ?_
  clear S; intro a S
  refine wpList_nil ?_
  refine then_n ?_
  replace S := S.sub (l' := [(0, .int .i64 x0), (1, .int .i64 x1), (2, .int .i64 x2)]) (by exact ⟨rfl, rfl, rfl, trivial⟩)
  refine wp_seq ?_
  refine wp_region_lit ?_
  refine wl_pure (l' := [(7, .int .i64 x2), (0, .int .i64 x0), (1, .int .i64 x1), (2, .int .i64 x2)]) S tys tys_ok 1 (by kernel_rfl) ?_
  clear S; intro a S
  refine w_go S rfl (op_max S rfl rfl rfl rfl rfl ?_)
  clear S; intro a S
  refine wl_pure (l' := [(2, .int .i64 (if 0 > x2 then 0 else x2)), (8, .int .i64 (if 0 > x2 then 0 else x2)), (7, .int .i64 x2), (0, .int .i64 x0), (1, .int .i64 x1), (2, .int .i64 x2)]) S tys tys_ok 1 (by kernel_rfl) ?_
  clear S; intro a S
  refine wpList_nil ?_
  refine then_n ?_
  replace S := S.sub (l' := [(2, .int .i64 (if 0 > x2 then 0 else x2)), (0, .int .i64 x0), (1, .int .i64 x1)]) (by exact ⟨rfl, rfl, rfl, trivial⟩)
  refine wp_seq ?_
  refine wp_region_lit ?_
  refine wl_pure (l' := [(12, .int .i64 x0), (11, .int .i64 (if 0 > x2 then 0 else x2)), (10, .int .i64 x1), (9, .int .i64 (if 0 > x2 then 0 else x2)), (2, .int .i64 (if 0 > x2 then 0 else x2)), (0, .int .i64 x0), (1, .int .i64 x1)]) S tys tys_ok 4 (by kernel_rfl) ?_
  clear S; intro a S
  obtain ⟨x_1, ex_1, h⟩ := bindS h
  refine w_go S rfl (op_rem S .i64 rfl rfl rfl rfl rfl ex_1 ?_)
  clear S; intro a S
  obtain ⟨x_2, ex_2, h⟩ := bindS h
  refine w_go S rfl (op_arith S .i64 (x1 - x_1) rfl (.inr (.inl rfl)) rfl rfl rfl rfl ex_2 ?_)
  clear S; intro a S
  refine wl_pure (l' := [(15, .int .i64 x0), (14, .int .i64 x_2), (13, .int .i64 x_1), (12, .int .i64 x0), (11, .int .i64 (if 0 > x2 then 0 else x2)), (10, .int .i64 x1), (9, .int .i64 (if 0 > x2 then 0 else x2)), (2, .int .i64 (if 0 > x2 then 0 else x2)), (0, .int .i64 x0), (1, .int .i64 x1)]) S tys tys_ok 1 (by kernel_rfl) ?_
  clear S; intro a S
  obtain ⟨x_3, ex_3, h⟩ := bindS h
  refine w_go S rfl (op_arith S .i64 (x_2 + x0) rfl (.inl rfl) rfl rfl rfl rfl ex_3 ?_)
  clear S; intro a S
  refine wl_pure (l' := [(17, .int .i64 x0), (16, .int .i64 x_3), (15, .int .i64 x0), (14, .int .i64 x_2), (13, .int .i64 x_1), (12, .int .i64 x0), (11, .int .i64 (if 0 > x2 then 0 else x2)), (10, .int .i64 x1), (9, .int .i64 (if 0 > x2 then 0 else x2)), (2, .int .i64 (if 0 > x2 then 0 else x2)), (0, .int .i64 x0), (1, .int .i64 x1)]) S tys tys_ok 1 (by kernel_rfl) ?_
  clear S; intro a S
  obtain ⟨x_4, ex_4, h⟩ := bindS h
  refine w_go S rfl (op_rem S .i64 rfl rfl rfl rfl rfl ex_4 ?_)
  clear S; intro a S
  obtain ⟨x_5, ex_5, h⟩ := bindS h
  refine w_go S rfl (op_arith S .i64 ((if 0 > x2 then 0 else x2) + x_4) rfl (.inl rfl) rfl rfl rfl rfl ex_5 ?_)
  clear S; intro a S
  refine wl_pure (l' := [(6, .int .i64 x_5), (19, .int .i64 x_5), (18, .int .i64 x_4), (17, .int .i64 x0), (16, .int .i64 x_3), (15, .int .i64 x0), (14, .int .i64 x_2), (13, .int .i64 x_1), (12, .int .i64 x0), (11, .int .i64 (if 0 > x2 then 0 else x2)), (10, .int .i64 x1), (9, .int .i64 (if 0 > x2 then 0 else x2)), (2, .int .i64 (if 0 > x2 then 0 else x2)), (0, .int .i64 x0), (1, .int .i64 x1)]) S tys tys_ok 1 (by kernel_rfl) ?_
  clear S; intro a S
  refine wpList_nil ?_
  refine then_n ?_
  replace S := S.sub (l' := [(6, .int .i64 x_5)]) (by exact ⟨rfl, trivial⟩)
  refine wp_ret ?_
  obtain rfl := Option.some.inj h
  exact b_ret1 S rfl rfl ⟨_, rfl, (RepV.mkInt (ckI_some ex_5).2.1), W.below⟩
theorem cb28 : callB Try.prog 28 = true := by kernel_rfl
def p29_l1 (n : Nat) (Be : Type) (y1 : Int) (f : Be → ((Int)) → Option (Bool × Be)) : Nat → (Int) → (Be) → Option ((Be))
  | 0, _, _ => .none
  | m + 1, c_5, c_7 => (f c_7 c_5).bind fun t_17 => if t_17.1 then ((ckI .i64 (c_5 + y1)).bind fun x_24 => p29_l1 n Be y1 f m x_24 t_17.2) else some t_17.2
def p29 (n : Nat) (y0 : Int) (y1 : Int) (Be : Type) (f : Be → ((Int)) → Option (Bool × Be)) (s0 : Be) : Option Be :=
  (p29_l1 n Be y1 f n y0 s0).bind fun (y_13 : (Be)) =>
  some y_13
set_option maxHeartbeats 4000000 in
set_option maxRecDepth 100000 in
/-- plugboard/periodics.steps$1 -/
theorem c29 (K : Nat → Prop) (n : Nat) (w wA : World) (LO : List (Option Nat)) (p0 : Addr) (y0 : Int) (Q0 : Pr (.int .i64) wA (Kx K w.heap.size LO) p0 y0) (p1 : Addr) (y1 : Int) (Q1 : Pr (.int .i64) wA (Kx K w.heap.size LO) p1 y1) (Be : Type) (f : Be → ((Int)) → Option (Bool × Be)) (s0 : Be) (l : Nat) (Inv : Be → List (Option Nat) → World → Prop) (W : Wd w wA LO) (J_ : JI Inv [] wA.heap.size LO wA s0)
    (hY : ∀ (b_ : Be) (LO_ : List (Option Nat)) (A_ : World) (x_ : (Int)), Wd w A_ LO_ → InR .i64 x_ → ∀ r_, f b_ x_ = some r_ → Inv b_ LO_ A_ → YieldAt Fence.wide 0 Try.prog l [.int .i64 x_].toArray A_ fun e_ B_ => ∃ LO2_, e_ = .returned (.bool r_.1) ∧ Inv r_.2 LO2_ B_ ∧ Yst w.heap.size A_ LO_ B_ LO2_)
    {r : Be} (h : p29 n y0 y1 Be f s0 = some r) :
    Calls Try.prog 29 #[.func (.yield l) #[] #[], .pointer (some p0), .pointer (some p1)] wA (fun e_ w_ => (∃ v_, e_ = .returned v_) ∧ ∃ LO_, Inv r LO_ w_) := by
  refine R.enter (args := [.func (.yield l) #[] #[], .pointer (some p0), .pointer (some p1)]) Try.func29 rfl 12 rfl rfl (fun _ h_ => by obtain ⟨⟨_, q_⟩, _⟩ := h_; cases q_) fun a S => ?_
  unfold p29 at h
  replace S : St 12 a [(0, .func (.yield l) #[] #[]), (1, .pointer (some p0)), (2, .pointer (some p1))] := S
  refine R.wp_seq ?_
  refine R.wp_region_lit ?_
  refine R.w_go S rfl (op_load (t := (.int .i64)) (x := y0) S rfl ty3 rfl rfl rfl Q0.1 ?_)
  clear S; intro a v_1 R_2 S
  obtain ⟨rfl, GR_2⟩ := RepV.int R_2
  refine R.wl_pure (l' := [(4, .int .i64 y0), (5, .int .i64 y0), (0, .func (.yield l) #[] #[]), (1, .pointer (some p0)), (2, .pointer (some p1))]) S tys tys_ok 1 (by kernel_rfl) ?_
  clear S; intro a S
  refine R.wpList_nil ?_
  refine then_n ?_
  replace S := S.sub (l' := [(4, .int .i64 y0), (0, .func (.yield l) #[] #[]), (2, .pointer (some p1))]) (by exact ⟨rfl, rfl, rfl, trivial⟩)
  obtain ⟨y_13, ey_13, h⟩ := bindS h
  refine R.wp_cut_ (fun a_ w_ => ∃ (LO_12 : List (Option Nat)), St 12 a_ [] ∧ Wd w w_ LO_12 ∧ JI Inv [] wA.heap.size LO_12 w_ y_13) ?_ ?_
  · refine R.wp_block ?_
    refine R.wp_loop_n (fun m_ a_ w_ => ∃ (c_5 : Int) (c_7 : Be) , ∃ (LO_4 : List (Option Nat)), St 12 a_ [(4, .int .i64 c_5), (0, .func (.yield l) #[] #[]), (2, .pointer (some p1))] ∧ Wd w w_ LO_4 ∧ InR .i64 c_5 ∧ Pr (.int .i64) w_ (Kx K w.heap.size LO_4) p1 y1 ∧ JI Inv [] wA.heap.size LO_4 w_ c_7 ∧ p29_l1 n Be y1 f m_ c_5 c_7 = some y_13) n ?_ ?_
    · skip
      exact ⟨y0, s0, ⟨LO, S.sub (by exact ⟨rfl, rfl, rfl, trivial⟩), W, GR_2, Q1, J_, ey_13⟩⟩
    · clear S W; rintro m_14 a w_16 ⟨c_5, c_7, LO_4, S, W, G_6, Q1, J_, hl_15⟩
      cases m_14 with
      | zero => exact absurd hl_15 (by simp [p29_l1])
      | succ m_14 =>
        refine ⟨m_14, rfl, ?_⟩
        rw [p29_l1] at hl_15
        refine R.wp_seq ?_
        refine R.wp_seq ?_
        refine R.wp_region_lit ?_
        refine R.wl_pure (l' := [(7, .int .i64 c_5), (6, .func (.yield l) #[] #[]), (4, .int .i64 c_5), (0, .func (.yield l) #[] #[]), (2, .pointer (some p1))]) S tys tys_ok 2 (by kernel_rfl) ?_
        clear S; intro a S
        obtain ⟨t_17, et_17, hl_15⟩ := bindS hl_15
        refine R.w_yield (vs := [.int .i64 c_5]) S rfl rfl rfl rfl rfl rfl (hY _ LO_4 w_16 c_5 W G_6 _ et_17 J_.inv) ?_
        rintro _ w_18 ⟨LO_19, rfl, hJ_20, Y_21⟩; refine ⟨_, rfl, ?_⟩; clear S; intro a S
        replace Q1 : Pr (.int .i64) w_18 (Kx K w.heap.size LO_19) p1 y1 := Pr.yst [] Q1 Y_21
        replace J_ : JI Inv [] wA.heap.size LO_19 w_18 t_17.2 := ⟨J_.ab, hJ_20, Nat.le_trans J_.hn Y_21.size⟩
        replace W : Wd w w_18 LO_19 := Wd.yst [] W Y_21
        refine R.wpList_nil ?_
        refine then_n ?_
        replace S := S.sub (l' := [(8, .bool t_17.1), (4, .int .i64 c_5), (0, .func (.yield l) #[] #[]), (2, .pointer (some p1))]) (by exact ⟨rfl, rfl, rfl, rfl, trivial⟩)
        refine R.wp_cond_split (S.eval (show ev _ _ = some (.bool t_17.1) from rfl)) ?_ ?_
        · intro hc
          rw [if_pos hc] at hl_15
          refine R.wp_skip ?_
          refine then_n ?_
          replace S := S.sub (l' := [(4, .int .i64 c_5), (0, .func (.yield l) #[] #[]), (2, .pointer (some p1))]) (by exact ⟨rfl, rfl, rfl, trivial⟩)
          refine R.wp_seq ?_
          refine R.wp_block ?_
          refine R.wp_skip ?_
          refine blk_n ?_
          refine then_n ?_
          refine R.wp_region_lit ?_
          refine R.wl_pure (l' := [(9, .int .i64 c_5), (4, .int .i64 c_5), (0, .func (.yield l) #[] #[]), (2, .pointer (some p1))]) S tys tys_ok 1 (by kernel_rfl) ?_
          clear S; intro a S
          refine R.w_go S rfl (op_load (t := (.int .i64)) (x := y1) S rfl ty3 rfl rfl rfl Q1.1 ?_)
          clear S; intro a v_22 R_23 S
          obtain ⟨rfl, GR_23⟩ := RepV.int R_23
          obtain ⟨x_24, ex_24, hl_15⟩ := bindS hl_15
          refine R.w_go S rfl (op_arith S .i64 (c_5 + y1) rfl (.inl rfl) rfl rfl rfl rfl ex_24 ?_)
          clear S; intro a S
          refine R.wl_pure (l' := [(4, .int .i64 x_24), (11, .int .i64 x_24), (10, .int .i64 y1), (9, .int .i64 c_5), (4, .int .i64 c_5), (0, .func (.yield l) #[] #[]), (2, .pointer (some p1))]) S tys tys_ok 1 (by kernel_rfl) ?_
          clear S; intro a S
          refine R.wpList_nil ?_
          refine then_n ?_
          exact ⟨x_24, t_17.2, ⟨LO_19, S.sub (by exact ⟨rfl, rfl, rfl, trivial⟩), W, (ckI_some ex_24).2.1, Q1, J_, hl_15⟩⟩
        · intro hc
          rw [if_neg (Bool.eq_false_iff.1 hc)] at hl_15
          refine R.wp_exit ?_
          refine then_x ?_
          refine then_x ?_
          refine blk_hit ?_
          refine then_n ?_
          obtain rfl := Option.some.inj hl_15
          exact ⟨LO_19, S.sub trivial, W, J_⟩
  clear S W; rintro a w_25 ⟨LO_12, S, W, J_⟩
  refine R.leave0 S ?_ (by simp)
  clear S; intro a S
  obtain rfl := Option.some.inj h
  exact b_ret0 S rfl fun _ => ⟨⟨_, rfl⟩, _, J_.inv⟩
theorem cb29 : callB Try.prog 29 = true := by kernel_rfl
def p27 (n : Nat) (x0 : Int) (x1 : Int) : Option ((Int) × (Int)) :=
  some (x0, x1)
set_option maxHeartbeats 4000000 in
set_option maxRecDepth 100000 in
/-- plugboard/periodics.steps -/
theorem c27 (K : Nat → Prop) (n : Nat) (w : World) (x0 : Int) (G0 : InR .i64 x0) (x1 : Int) (G1 : InR .i64 x1) {r : (Int) × (Int)} (h : p27 n x0 x1 = some r) :
    Calls Try.prog 27 #[.int .i64 x0, .int .i64 x1] w (fun e_ w_ => ∃ (p0_ : Addr) (p1_ : Addr), e_ = .returned (.func (.func 29) #[] #[.pointer (some p0_), .pointer (some p1_)]) ∧ Pr (.int .i64) w_ (Kx K w.heap.size []) p0_ r.1 ∧ Pr (.int .i64) w_ (Kx K w.heap.size []) p1_ r.2 ∧ Below w.heap.size w w_) := by
  refine enter (args := [.int .i64 x0, .int .i64 x1]) Try.func27 rfl 6 rfl rfl fun a S => ?_
  have W := Wd.start w
  unfold p27 at h
  replace S : St 6 a [(0, .int .i64 x0), (1, .int .i64 x1)] := S
  refine wp_seq ?_
  refine wp_region_lit ?_
  refine w_go S rfl (op_box S rfl rfl rfl rfl rfl ((RepV.mkInt G0) : RepV (.int .i64) w (Kx K w.heap.size []) _ _) ?_)
  clear S; intro a w_3 b_1 hb_4 B_2 S
  replace W := W.box hb_4
  refine w_go S rfl (op_box S rfl rfl rfl rfl rfl ((RepV.mkInt G1) : RepV (.int .i64) w_3 (Kx K w.heap.size [some b_1]) _ _) ?_)
  clear S; intro a w_7 b_5 hb_8 B_6 S
  replace B_2 := B_2.box hb_8
  replace W := W.box hb_8
  refine wl_pure (l' := [(4, .nilFunc), (3, .pointer (some (⟨b_5, 0, .none⟩ : Addr))), (2, .pointer (some (⟨b_1, 0, .none⟩ : Addr))), (0, .int .i64 x0), (1, .int .i64 x1)]) S tys tys_ok 1 (by kernel_rfl) ?_
  clear S; intro a S
  refine wpList_nil ?_
  refine then_n ?_
  replace S := S.sub (l' := [(3, .pointer (some (⟨b_5, 0, .none⟩ : Addr))), (2, .pointer (some (⟨b_1, 0, .none⟩ : Addr)))]) (by exact ⟨rfl, rfl, trivial⟩)
  refine wp_seq ?_
  refine wp_region_lit ?_
  refine w_go S rfl (op_mkfn (vs := []) (us := [.pointer (some (⟨b_1, 0, .none⟩ : Addr)), .pointer (some (⟨b_5, 0, .none⟩ : Addr))]) S rfl rfl rfl rfl rfl ?_)
  clear S; intro a S
  refine wl_pure (l' := [(4, .func (.func 29) #[] #[.pointer (some (⟨b_1, 0, .none⟩ : Addr)), .pointer (some (⟨b_5, 0, .none⟩ : Addr))]), (5, .func (.func 29) #[] #[.pointer (some (⟨b_1, 0, .none⟩ : Addr)), .pointer (some (⟨b_5, 0, .none⟩ : Addr))]), (3, .pointer (some (⟨b_5, 0, .none⟩ : Addr))), (2, .pointer (some (⟨b_1, 0, .none⟩ : Addr)))]) S tys tys_ok 1 (by kernel_rfl) ?_
  clear S; intro a S
  refine wpList_nil ?_
  refine then_n ?_
  replace S := S.sub (l' := [(4, .func (.func 29) #[] #[.pointer (some (⟨b_1, 0, .none⟩ : Addr)), .pointer (some (⟨b_5, 0, .none⟩ : Addr))])]) (by exact ⟨rfl, trivial⟩)
  refine wp_ret ?_
  have Q_9 : Pr (.int .i64) w_7 (Kx K w.heap.size [some b_5]) (⟨b_1, 0, .none⟩ : Addr) x0 := Bx.pr B_2 W rfl 1 rfl
  replace B_6 : Bx (.int .i64) 3 w_7 (Kx K w.heap.size [some b_5]) b_5 x1 := B_6.lessAt 1
  replace W : Wd w w_7 [some b_5] := W.lessAt 1
  have Q_10 : Pr (.int .i64) w_7 (Kx K w.heap.size []) (⟨b_5, 0, .none⟩ : Addr) x1 := Bx.pr B_6 W rfl 0 rfl
  replace Q_9 : Pr (.int .i64) w_7 (Kx K w.heap.size []) (⟨b_1, 0, .none⟩ : Addr) x0 := Q_9.lessAt 0
  replace W : Wd w w_7 [] := W.lessAt 0
  obtain rfl := Option.some.inj h
  exact b_ret1 S rfl rfl ⟨(⟨b_1, 0, .none⟩ : Addr), (⟨b_5, 0, .none⟩ : Addr), rfl, Q_9.out, Q_10.out, W.below⟩
theorem cb27 : callB Try.prog 27 = true := by kernel_rfl
def p26_r1 (n : Nat) (Be : Type) (f : Be → ((Int)) → Option (Bool × Be)) (s_ : (Be)) (x_ : (Int)) : Option (Nat × ((Be))) :=
  (if (decide (x_ ≥ 1048576)) = false then (f s_ x_).bind fun t_86 => some ((!t_86.1), t_86.2) else some (true, s_)).bind fun q_84 => if q_84.1 then (some (1, q_84.2)) else some (0, q_84.2)
def p26 (n : Nat) (y0 : Int) (y1 : Int) (y2 : Int) (Be : Type) (f : Be → ((Int)) → Option (Bool × Be)) (s0 : Be) : Option Be :=
  (p23 n y0 y1).bind fun t_9 =>
  (if (!t_9) = false then some (decide (y2 ≥ 1048576)) else some true).bind fun q_14 =>
  if q_14 then (some s0) else (p28 n y0 y1 y2).bind fun t_23 => (p27 n t_23 y0).bind fun t_60 => (p29 n t_60.1 t_60.2 (Nat × ((Be))) (rnd (p26_r1 n Be f)) (0, s0)).bind fun (y_77 : Nat × ((Be))) => if y_77.1 = 1 then (some y_77.2) else some y_77.2
set_option maxHeartbeats 4000000 in
set_option maxRecDepth 100000 in
/-- plugboard/periodics.All$1 -/
theorem c26 (K : Nat → Prop) (n : Nat) (w wA : World) (LO : List (Option Nat)) (p0 : Addr) (y0 : Int) (Q0 : Pr (.int .i64) wA (Kx K w.heap.size LO) p0 y0) (p1 : Addr) (y1 : Int) (Q1 : Pr (.int .i64) wA (Kx K w.heap.size LO) p1 y1) (p2 : Addr) (y2 : Int) (Q2 : Pr (.int .i64) wA (Kx K w.heap.size LO) p2 y2) (Be : Type) (f : Be → ((Int)) → Option (Bool × Be)) (s0 : Be) (l : Nat) (Inv : Be → List (Option Nat) → World → Prop) (W : Wd w wA LO) (J_ : JI Inv [] wA.heap.size LO wA s0)
    (hY : ∀ (b_ : Be) (LO_ : List (Option Nat)) (A_ : World) (x_ : (Int)), Wd w A_ LO_ → InR .i64 x_ → ∀ r_, f b_ x_ = some r_ → Inv b_ LO_ A_ → YieldAt Fence.wide 0 Try.prog l [.int .i64 x_].toArray A_ fun e_ B_ => ∃ LO2_, e_ = .returned (.bool r_.1) ∧ Inv r_.2 LO2_ B_ ∧ Yst w.heap.size A_ LO_ B_ LO2_)
    {r : Be} (h : p26 n y0 y1 y2 Be f s0 = some r) :
    Calls Try.prog 26 #[.func (.yield l) #[] #[], .pointer (some p0), .pointer (some p1), .pointer (some p2)] wA (fun e_ w_ => (∃ v_, e_ = .returned v_) ∧ ∃ LO_, Inv r LO_ w_) := by
  refine R.enter (args := [.func (.yield l) #[] #[], .pointer (some p0), .pointer (some p1), .pointer (some p2)]) Try.func26 rfl 29 rfl rfl (fun _ h_ => by obtain ⟨⟨_, q_⟩, _⟩ := h_; cases q_) fun a S => ?_
  unfold p26 at h
  replace S : St 29 a [(0, .func (.yield l) #[] #[]), (1, .pointer (some p0)), (2, .pointer (some p1)), (3, .pointer (some p2))] := S
  refine R.wp_seq ?_
  refine R.wp_region_lit ?_
  refine R.w_go S rfl (op_boxf S rfl rfl rfl rfl ?_)
  clear S; intro a w_3 b_1 hb_4 B_2 S
  replace Q0 := Q0.box hb_4
  replace Q1 := Q1.box hb_4
  replace Q2 := Q2.box hb_4
  replace J_ := J_.box hb_4
  replace W := W.box hb_4
  refine R.wpList_nil ?_
  refine then_n ?_
  replace S := S.sub (l' := [(4, .pointer (some (⟨b_1, 0, .none⟩ : Addr))), (1, .pointer (some p0)), (2, .pointer (some p1)), (3, .pointer (some p2))]) (by exact ⟨rfl, rfl, rfl, rfl, trivial⟩)
  refine R.wp_seq ?_
  refine R.wp_seq ?_
  refine R.wp_region_lit ?_
  refine R.w_go S rfl (op_load (t := (.int .i64)) (x := y0) S rfl ty3 rfl rfl rfl Q0.1 ?_)
  clear S; intro a v_5 R_6 S
  obtain ⟨rfl, GR_6⟩ := RepV.int R_6
  refine R.w_go S rfl (op_load (t := (.int .i64)) (x := y1) S rfl ty3 rfl rfl rfl Q1.1 ?_)
  clear S; intro a v_7 R_8 S
  obtain ⟨rfl, GR_8⟩ := RepV.int R_8
  obtain ⟨t_9, et_9, h⟩ := bindS h
  refine R.w_go S rfl (op_call (vs := [.int .i64 y0, .int .i64 y1]) S rfl cb23 rfl rfl rfl (c23 (Kx K w.heap.size (some b_1 :: LO)) n w_3 y0 GR_6 y1 GR_8 et_9) ?_)
  rintro _ w_13 ⟨v_10, rfl, R_11, hb_12⟩; refine ⟨_, rfl, ?_⟩
  replace R_11 := RepV.back R_11 W
  clear S; intro a S
  replace Q0 := Q0.step hb_12
  replace Q1 := Q1.step hb_12
  replace Q2 := Q2.step hb_12
  replace J_ := J_.step hb_12
  replace B_2 := B_2.step hb_12
  replace W := W.step hb_12
  obtain rfl := RepV.bool R_11
  refine R.wl_pure (l' := [(10, .bool (!t_9)), (9, .bool (!t_9)), (8, .bool t_9), (7, .int .i64 y1), (6, .int .i64 y0), (4, .pointer (some (⟨b_1, 0, .none⟩ : Addr))), (1, .pointer (some p0)), (2, .pointer (some p1)), (3, .pointer (some p2))]) S tys tys_ok 2 (by kernel_rfl) ?_
  clear S; intro a S
  obtain ⟨q_14, eq_14, h⟩ := bindS h
  refine R.seg 3 (fun a_ w_ => w_13 = w_ ∧ St 29 a_ [(13, .bool q_14), (4, .pointer (some (⟨b_1, 0, .none⟩ : Addr))), (1, .pointer (some p0)), (2, .pointer (some p1)), (3, .pointer (some p2))]) ?_ ?_
  · by_cases hc : (!t_9) = false
    · rw [if_pos hc] at eq_14; rw [hc] at S
      refine R.w_go S rfl (op_load (t := (.int .i64)) (x := y2) S rfl ty3 rfl rfl rfl Q2.1 ?_)
      clear S; intro a v_15 R_16 S
      obtain ⟨rfl, GR_16⟩ := RepV.int R_16
      refine R.wl_pure (l' := [(13, .bool (decide (y2 ≥ 1048576))), (12, .bool (decide (y2 ≥ 1048576))), (11, .int .i64 y2), (10, .bool false), (9, .bool false), (8, .bool t_9), (7, .int .i64 y1), (6, .int .i64 y0), (4, .pointer (some (⟨b_1, 0, .none⟩ : Addr))), (1, .pointer (some p0)), (2, .pointer (some p1)), (3, .pointer (some p2))]) S tys tys_ok 2 (by kernel_rfl) ?_
      clear S; intro a S
      obtain rfl := Option.some.inj eq_14
      refine R.wpList_nil ?_
      exact ⟨rfl, S.sub (by exact ⟨rfl, rfl, rfl, rfl, rfl, trivial⟩)⟩
    · rw [if_neg hc] at eq_14; rw [show (!t_9) = true from (by simpa using hc)] at S
      refine R.wl_pure (l' := [(13, .bool true), (12, undef), (11, undef), (10, .bool true), (9, .bool true), (8, .bool t_9), (7, .int .i64 y1), (6, .int .i64 y0), (4, .pointer (some (⟨b_1, 0, .none⟩ : Addr))), (1, .pointer (some p0)), (2, .pointer (some p1)), (3, .pointer (some p2))]) S tys tys_ok 3 (by kernel_rfl) ?_
      clear S; intro a S
      obtain rfl := Option.some.inj eq_14
      refine R.wpList_nil ?_
      exact ⟨rfl, S.sub (by exact ⟨rfl, rfl, rfl, rfl, rfl, trivial⟩)⟩
  clear S eq_14; rintro a _ ⟨rfl, S⟩
  refine R.wpList_nil ?_
  refine then_n ?_
  refine R.wp_cond_split (S.eval (show ev _ _ = some (.bool q_14) from rfl)) ?_ ?_
  · intro hc
    rw [if_pos hc] at h
    refine R.wp_ret ?_
    refine then_r ?_
    refine R.leave0 S ?_ (by simp)
    clear S; intro a S
    obtain rfl := Option.some.inj h
    exact b_ret0 S rfl fun _ => ⟨⟨_, rfl⟩, _, J_.inv⟩
  · intro hc
    rw [if_neg (Bool.eq_false_iff.1 hc)] at h
    refine R.wp_skip ?_
    refine then_n ?_
    replace S := S.sub (l' := [(4, .pointer (some (⟨b_1, 0, .none⟩ : Addr))), (1, .pointer (some p0)), (2, .pointer (some p1)), (3, .pointer (some p2))]) (by exact ⟨rfl, rfl, rfl, rfl, trivial⟩)
    refine R.wp_seq ?_
    refine R.drawn (by kernel_rfl) (by kernel_rfl) ?_
    obtain ⟨t_23, et_23, h⟩ := bindS h
    have hR : Rel (Kx K w.heap.size (some b_1 :: LO)) Bl := Bl.rel _
    refine wr_region_suf 5 [3, 3, 3, 5, 5] hR [isI .i64 y0, isI .i64 y1, isI .i64 y2, isI .i64 t_23, isI .i64 y0] [[], [], [], [(0, 14), (1, 15), (2, 16)], []] (by kernel_rfl) (by rw [S.size]; kernel_rfl) (by kernel_rfl) (by kernel_rfl) (by kernel_rfl) rfl ⟨stab_I, stab_I, stab_I, stab_I, stab_I, trivial⟩ ?_ ?_
    ·
      refine RunAll.cons (isI .i64 y0) [] rfl rfl ?_ ?_
      · intro W_ hW
        have S1 := S
        refine fill_nil S1 ?_; clear S1; intro a_ S1
        replace Q0 := Q0.step hW
        have S0 := S.defers; replace S := S1; clear S1
        refine w_go S rfl (op_load (t := (.int .i64)) (x := y0) S rfl ty3 rfl rfl rfl Q0.1 ?_)
        clear S; intro a v_30 R_31 S
        obtain ⟨rfl, GR_31⟩ := RepV.int R_31
        refine wpList_nil ?_
        exact RPost.mk_ S rfl S0 ⟨rfl, GR_31⟩ (Below.refl _ _)
      refine RunAll.cons (isI .i64 y1) [] rfl rfl ?_ ?_
      · intro W_ hW
        have S1 := S
        refine fill_nil S1 ?_; clear S1; intro a_ S1
        replace Q1 := Q1.step hW
        have S0 := S.defers; replace S := S1; clear S1
        refine w_go S rfl (op_load (t := (.int .i64)) (x := y1) S rfl ty3 rfl rfl rfl Q1.1 ?_)
        clear S; intro a v_32 R_33 S
        obtain ⟨rfl, GR_33⟩ := RepV.int R_33
        refine wpList_nil ?_
        exact RPost.mk_ S rfl S0 ⟨rfl, GR_33⟩ (Below.refl _ _)
      refine RunAll.cons (isI .i64 y2) [] rfl rfl ?_ ?_
      · intro W_ hW
        have S1 := S
        refine fill_nil S1 ?_; clear S1; intro a_ S1
        replace Q2 := Q2.step hW
        have S0 := S.defers; replace S := S1; clear S1
        refine w_go S rfl (op_load (t := (.int .i64)) (x := y2) S rfl ty3 rfl rfl rfl Q2.1 ?_)
        clear S; intro a v_34 R_35 S
        obtain ⟨rfl, GR_35⟩ := RepV.int R_35
        refine wpList_nil ?_
        exact RPost.mk_ S rfl S0 ⟨rfl, GR_35⟩ (Below.refl _ _)
      refine RunAll.cons (isI .i64 t_23) [(isI .i64 y0, 14), (isI .i64 y1, 15), (isI .i64 y2, 16)] rfl rfl ?_ ?_
      · intro W_ hW
        have S1 := S
        rintro _ ⟨rfl, hF_36⟩
        replace S1 := S1.put (by decide : 14 < 29) (.int .i64 y0)
        rintro _ ⟨rfl, hF_38⟩
        replace S1 := S1.put (by decide : 15 < 29) (.int .i64 y1)
        rintro _ ⟨rfl, hF_40⟩
        replace S1 := S1.put (by decide : 16 < 29) (.int .i64 y2)
        refine fill_nil S1 ?_; clear S1; intro a_ S1
        replace W := W.step hW
        have S0 := S.defers; replace S := S1; clear S1
        refine w_go S rfl (op_call (vs := [.int .i64 y0, .int .i64 y1, .int .i64 y2]) S rfl cb28 rfl rfl rfl (c28 (Kx K w.heap.size (some b_1 :: LO)) n W_ y0 hF_36 y1 hF_38 y2 hF_40 et_23) ?_)
        rintro _ w_45 ⟨v_42, rfl, R_43, hb_44⟩; refine ⟨_, rfl, ?_⟩
        replace R_43 := RepV.back R_43 W
        clear S; intro a S
        obtain ⟨rfl, GR_43⟩ := RepV.int R_43
        refine wpList_nil ?_
        exact RPost.mk_ S rfl S0 ⟨rfl, GR_43⟩ (hb_44)
      refine RunAll.cons (isI .i64 y0) [] rfl rfl ?_ ?_
      · intro W_ hW
        have S1 := S
        refine fill_nil S1 ?_; clear S1; intro a_ S1
        replace Q0 := Q0.step hW
        have S0 := S.defers; replace S := S1; clear S1
        refine w_go S rfl (op_load (t := (.int .i64)) (x := y0) S rfl ty3 rfl rfl rfl Q0.1 ?_)
        clear S; intro a v_46 R_47 S
        obtain ⟨rfl, GR_47⟩ := RepV.int R_47
        refine wpList_nil ?_
        exact RPost.mk_ S rfl S0 ⟨rfl, GR_47⟩ (Below.refl _ _)
      exact trivial
    intro w_48 hb_49
    refine EndE.some_ rfl ?_
    rintro _ ⟨rfl, hF_50⟩
    replace S := S.put (by decide : 14 < 29) (.int .i64 y0)
    refine EndE.some_ rfl ?_
    rintro _ ⟨rfl, hF_52⟩
    replace S := S.put (by decide : 15 < 29) (.int .i64 y1)
    refine EndE.some_ rfl ?_
    rintro _ ⟨rfl, hF_54⟩
    replace S := S.put (by decide : 16 < 29) (.int .i64 y2)
    refine EndE.some_ rfl ?_
    rintro _ ⟨rfl, hF_56⟩
    replace S := S.put (by decide : 17 < 29) (.int .i64 t_23)
    refine EndE.some_ rfl ?_
    rintro _ ⟨rfl, hF_58⟩
    replace S := S.put (by decide : 18 < 29) (.int .i64 y0)
    refine endE_nil S ?_; clear S; intro a S
    replace Q0 := Q0.step hb_49
    replace Q1 := Q1.step hb_49
    replace Q2 := Q2.step hb_49
    replace J_ := J_.step hb_49
    replace B_2 := B_2.step hb_49
    replace W := W.step hb_49
    obtain ⟨t_60, et_60, h⟩ := bindS h
    refine w_go S rfl (op_call (vs := [.int .i64 t_23, .int .i64 y0]) S rfl cb27 rfl rfl rfl (c27 (Kx K w.heap.size (some b_1 :: LO)) n w_48 t_23 hF_56 y0 hF_58 et_60) ?_)
    rintro _ w_63 ⟨p_65, p_67, rfl, Q_66, Q_68, hb_64⟩; refine ⟨_, rfl, ?_⟩
    replace Q_66 := Pr.back Q_66 W
    replace Q_68 := Pr.back Q_68 W
    clear S; intro a S
    replace Q0 := Q0.step hb_64
    replace Q1 := Q1.step hb_64
    replace Q2 := Q2.step hb_64
    replace J_ := J_.step hb_64
    replace B_2 := B_2.step hb_64
    replace W := W.step hb_64
    refine wpList_nil ?_
    refine then_n ?_
    replace S := S.sub (l' := [(19, .func (.func 29) #[] #[.pointer (some p_65), .pointer (some p_67)]), (4, .pointer (some (⟨b_1, 0, .none⟩ : Addr)))]) (by exact ⟨rfl, rfl, trivial⟩)
    obtain ⟨y_77, ey_77, h⟩ := bindS h
    refine R.wp_cut_ (fun a_ w_ => ∃ D_69 l_70 : Nat, y_77.1 ≠ 1 ∧ (∃ (LO_78 : List (Option Nat)), StD [markD D_69] 29 a_ [] ∧ Wd w w_ (some l_70 :: some D_69 :: some b_1 :: LO_78) ∧ JI Inv [] wA.heap.size LO_78 w_ y_77.2 ∧ Ox (.cells #[.func (.yield l) #[] #[]] 70 (0, 0)) w_ b_1 ∧ Ox (.deferred (some [])) w_ D_69 ∧ wA.heap.size ≤ D_69)) ?_ ?_
    · refine R.wp_block ?_
      refine R.range S rfl cb29 ?_
      intro fn_ w_79 w_80 D_69 l_70 rec hrec hbD_69 hbl_70 oD_69 ol_70; have S0 := S
      have hnD_69 : wA.heap.size ≤ D_69 := Nat.le_trans J_.hn hbD_69.ge
      replace Q_66 := Q_66.box hbD_69
      replace Q_68 := Q_68.box hbD_69
      replace J_ := J_.box hbD_69
      replace B_2 := B_2.box hbD_69
      replace W := W.box hbD_69
      have hnl_70 : wA.heap.size ≤ l_70 := Nat.le_trans J_.hn hbl_70.ge
      replace Q_66 := Q_66.box hbl_70
      replace Q_68 := Q_68.box hbl_70
      replace J_ := J_.box hbl_70
      replace B_2 := B_2.box hbl_70
      replace oD_69 := oD_69.box hbl_70
      replace W := W.box hbl_70
      have hz_ : w.heap.size ≤ w_80.heap.size := W.below.size; have ltD_69 := oD_69.lt; have ltl_70 := ol_70.lt
      have ltb_1 := B_2.lt
      have hj_ : wA.heap.size ≤ w_80.heap.size := J_.hn
      refine (c29 K n w w_80 (some l_70 :: some D_69 :: some b_1 :: LO) p_65 _ Q_66 p_67 _ Q_68 (Nat × ((Be))) (rnd (p26_r1 n Be f)) _ l_70 (fun (b_ : Nat × ((Be))) (LO_ : List (Option Nat)) (w_ : World) => ∃ (k_ : Nat) (s_ : (Be)) (LO_81 : List (Option Nat)) , b_ = (k_, s_) ∧ k_ ≤ 1 ∧ LO_ = (some l_70 :: some D_69 :: some b_1 :: LO_81) ∧ Wd w w_ (some l_70 :: some D_69 :: some b_1 :: LO_81) ∧ JI Inv [] wA.heap.size LO_81 w_ s_ ∧ Ox (.cells #[.func (.yield l) #[] #[]] 70 (0, 0)) w_ b_1 ∧ Ox (.deferred (some [])) w_ D_69 ∧ Ox (rk rec [.ret] k_) w_ l_70) W ⟨?_, ⟨0, s0, LO, rfl, by decide, rfl, W, J_, B_2, oD_69, ol_70⟩, Nat.le_refl _⟩ ?_ ey_77).mono ?_
      · rintro _ LO_ A_ B_ ⟨k_, s_, LO_81, rfl, hk_, rfl, W, J_, B_2, oD_69, ol_70⟩ hab_; exact ⟨k_, s_, LO_81, rfl, hk_, rfl, W.ab hab_ (by simp) hz_, J_.abx (Ab.anyBs (hab_.mono hj_)), B_2.ab hab_ ltb_1 (by simp), oD_69.ab hab_ ltD_69 (by simp), ol_70.ab hab_ ltl_70 (by simp)⟩
      · intro b_ LO_ A_ x_ WA_ G_82 r_ hf_ hJ_
        obtain ⟨s0_, r0_, e1_, hb_, rfl⟩ := rnd_some hf_
        obtain ⟨k_, s_, LO_81, e2_, hk_, rfl, W, J_, B_2, oD_69, ol_70⟩ := hJ_
        obtain ⟨q1_, q2_⟩ := Prod.mk.inj (e2_.symm.trans e1_); subst q1_; subst q2_; clear WA_ hf_
        replace ol_70 : Ox (rec .ready none) A_ l_70 := ol_70
        refine yieldAt_of (ps := [20]) (vs := [.int .i64 x_]) hrec S0 ol_70 rfl (by kernel_rfl) ?_; intro a S
        unfold p26_r1 at hb_; try dsimp only at hb_
        have RD := Rnd.start A_ (some l_70 :: some D_69 :: some b_1 :: LO_81)
        replace S : St 29 a [(20, .int .i64 x_), (4, .pointer (some (⟨b_1, 0, .none⟩ : Addr)))] := S.sub (by exact ⟨rfl, rfl, trivial⟩)
        refine R.wp_region_lit ?_
        refine R.wl_pure (l' := [(5, .int .i64 x_), (20, .int .i64 x_), (4, .pointer (some (⟨b_1, 0, .none⟩ : Addr)))]) S tys tys_ok 1 (by kernel_rfl) ?_
        clear S; intro a S
        refine R.wpList_nil ?_
        refine then_n ?_
        refine R.begin hrec ol_70 ?_; intro w_83 hN_ ol_70
        replace J_ := J_.nc hN_ hnl_70
        replace B_2 := B_2.nc hN_ (W.bne (p := 2) (q := 0) (by decide) rfl rfl)
        replace oD_69 := oD_69.nc hN_ (W.bne (p := 1) (q := 0) (by decide) rfl rfl)
        replace RD := RD.nc hN_ (by simp)
        replace W := W.nc hN_ (by simp)
        refine R.wp_block ?_
        refine R.wp_seq ?_
        refine R.wp_region_lit ?_
        refine R.wl_pure (l' := [(23, .bool (decide (x_ ≥ 1048576))), (22, .bool (decide (x_ ≥ 1048576))), (21, .int .i64 x_), (5, .int .i64 x_), (20, .int .i64 x_), (4, .pointer (some (⟨b_1, 0, .none⟩ : Addr)))]) S tys tys_ok 3 (by kernel_rfl) ?_
        clear S; intro a S
        obtain ⟨q_84, eq_84, hb_⟩ := bindS hb_
        refine R.seg 5 (fun a_ w_ => ∃ (LO_85 : List (Option Nat)), St 29 a_ [(28, .bool q_84.1)] ∧ Wd w w_ (some l_70 :: some D_69 :: some b_1 :: LO_85) ∧ JI Inv [] wA.heap.size LO_85 w_ q_84.2 ∧ Ox (.cells #[.func (.yield l) #[] #[]] 70 (0, 0)) w_ b_1 ∧ Ox (.deferred (some [])) w_ D_69 ∧ Ox (rec .busy none) w_ l_70 ∧ Rnd A_ (some l_70 :: some D_69 :: some b_1 :: LO_81) w_ (some l_70 :: some D_69 :: some b_1 :: LO_85)) ?_ ?_
        · by_cases hc : (decide (x_ ≥ 1048576)) = false
          · rw [if_pos hc] at eq_84; rw [hc] at S
            refine R.w_go S rfl (op_loadf S rfl fn70 rfl rfl rfl B_2 ?_)
            clear S; intro a S
            refine R.wl_pure (l' := [(25, .int .i64 x_), (24, .func (.yield l) #[] #[]), (23, .bool false), (22, .bool false), (21, .int .i64 x_), (5, .int .i64 x_), (20, .int .i64 x_), (4, .pointer (some (⟨b_1, 0, .none⟩ : Addr)))]) S tys tys_ok 1 (by kernel_rfl) ?_
            clear S; intro a S
            obtain ⟨t_86, et_86, eq_84⟩ := bindS eq_84
            refine R.w_yield (vs := [.int .i64 x_]) S rfl rfl rfl rfl rfl rfl (hY _ LO_81 w_83 x_ (W.drop 3) G_82 _ et_86 J_.inv) ?_
            rintro _ w_87 ⟨LO_88, rfl, hJ_89, Y_90⟩; refine ⟨_, rfl, ?_⟩; clear S; intro a S
            replace B_2 : Ox (.cells #[.func (.yield l) #[] #[]] 70 (0, 0)) w_87 b_1 := Ox.yst [some l_70, some D_69, some b_1] B_2 Y_90 W (by simp)
            replace oD_69 : Ox (.deferred (some [])) w_87 D_69 := Ox.yst [some l_70, some D_69, some b_1] oD_69 Y_90 W (by simp)
            replace ol_70 : Ox (rec .busy none) w_87 l_70 := Ox.yst [some l_70, some D_69, some b_1] ol_70 Y_90 W (by simp)
            replace RD : Rnd A_ (some l_70 :: some D_69 :: some b_1 :: LO_81) w_87 (some l_70 :: some D_69 :: some b_1 :: LO_88) := Rnd.ystep [some l_70, some D_69, some b_1] RD Y_90
            replace J_ : JI Inv [] wA.heap.size LO_88 w_87 t_86.2 := ⟨J_.ab, hJ_89, Nat.le_trans J_.hn Y_90.size⟩
            replace W : Wd w w_87 (some l_70 :: some D_69 :: some b_1 :: LO_88) := Wd.yst [some l_70, some D_69, some b_1] W Y_90
            refine R.wl_pure (l' := [(28, .bool (!t_86.1)), (27, .bool (!t_86.1)), (26, .bool t_86.1), (25, .int .i64 x_), (24, .func (.yield l) #[] #[]), (23, .bool false), (22, .bool false), (21, .int .i64 x_), (5, .int .i64 x_), (20, .int .i64 x_), (4, .pointer (some (⟨b_1, 0, .none⟩ : Addr)))]) S tys tys_ok 2 (by kernel_rfl) ?_
            clear S; intro a S
            obtain rfl := Option.some.inj eq_84
            refine R.wpList_nil ?_
            exact ⟨LO_88, S.sub (by exact ⟨rfl, trivial⟩), W, J_, B_2, oD_69, ol_70, RD⟩
          · rw [if_neg hc] at eq_84; rw [show (decide (x_ ≥ 1048576)) = true from (by simpa using hc)] at S
            refine R.wl_pure (l' := [(28, .bool true), (27, undef), (26, undef), (25, undef), (24, undef), (23, .bool true), (22, .bool true), (21, .int .i64 x_), (5, .int .i64 x_), (20, .int .i64 x_), (4, .pointer (some (⟨b_1, 0, .none⟩ : Addr)))]) S tys tys_ok 5 (by kernel_rfl) ?_
            clear S; intro a S
            obtain rfl := Option.some.inj eq_84
            refine R.wpList_nil ?_
            exact ⟨LO_81, S.sub (by exact ⟨rfl, trivial⟩), W, J_, B_2, oD_69, ol_70, RD⟩
        clear S W eq_84; rintro a w_91 ⟨LO_85, S, W, J_, B_2, oD_69, ol_70, RD⟩
        refine R.wpList_nil ?_
        refine then_n ?_
        refine R.wp_cond_split (S.eval (show ev _ _ = some (.bool q_84.1) from rfl)) ?_ ?_
        · intro hc
          rw [if_pos hc] at hb_
          refine R.wp_ret ?_
          refine blk_r ?_
          obtain rfl := Option.some.inj hb_
          refine R.end_r hrec ol_70 ?_; intro w_92 hN_ ol_70
          replace J_ := J_.nc hN_ hnl_70
          replace B_2 := B_2.nc hN_ (W.bne (p := 2) (q := 0) (by decide) rfl rfl)
          replace oD_69 := oD_69.nc hN_ (W.bne (p := 1) (q := 0) (by decide) rfl rfl)
          replace RD := RD.nc hN_ (by simp)
          replace W := W.nc hN_ (by simp)
          exact ⟨_, rfl, ⟨1, _, LO_85, rfl, by decide, rfl, W, J_, B_2, oD_69, ol_70⟩, RD.yst W⟩
        · intro hc
          rw [if_neg (Bool.eq_false_iff.1 hc)] at hb_
          refine R.wp_skip ?_
          refine blk_n ?_
          obtain rfl := Option.some.inj hb_
          refine R.end_n hrec ol_70 ?_; intro w_93 hN_ ol_70
          replace J_ := J_.nc hN_ hnl_70
          replace B_2 := B_2.nc hN_ (W.bne (p := 2) (q := 0) (by decide) rfl rfl)
          replace oD_69 := oD_69.nc hN_ (W.bne (p := 1) (q := 0) (by decide) rfl rfl)
          replace RD := RD.nc hN_ (by simp)
          replace W := W.nc hN_ (by simp)
          exact ⟨_, rfl, ⟨0, _, LO_85, rfl, by decide, rfl, W, J_, B_2, oD_69, ol_70⟩, RD.yst W⟩
      · rintro _ w_94 ⟨hv_, LO_, hJ_⟩; refine ⟨hv_, ?_⟩; clear S W
        obtain ⟨k_, s_, LO_81, e2_, hk_, rfl, W, J_, B_2, oD_69, ol_70⟩ := hJ_; subst e2_; have S := S0.mark (D := D_69)
        rcases k_ with _ | _ | k_
        ·
          replace ol_70 : Ox (rec .ready none) w_94 l_70 := ol_70
          refine RP.done hrec ol_70 ?_; intro w_95 hN_
          replace J_ := J_.nc hN_ hnl_70
          replace B_2 := B_2.nc hN_ (W.bne (p := 2) (q := 0) (by decide) rfl rfl)
          replace oD_69 := oD_69.nc hN_ (W.bne (p := 1) (q := 0) (by decide) rfl rfl)
          replace W := W.nc hN_ (by simp)
          replace S : StD [markD D_69] 29 _ [(4, .pointer (some (⟨b_1, 0, .none⟩ : Addr)))] := S.sub (by exact ⟨rfl, trivial⟩)
          refine blk_n ?_
          refine then_n ?_
          exact ⟨D_69, l_70, by simp, ⟨LO_81, S.sub trivial, W, J_, B_2, oD_69, hnD_69⟩⟩
        ·
          replace ol_70 : Ox (rec .done (some .ret)) w_94 l_70 := ol_70
          refine RP.jump hrec ol_70 ?_; intro w_96 hN_
          replace J_ := J_.nc hN_ hnl_70
          replace B_2 := B_2.nc hN_ (W.bne (p := 2) (q := 0) (by decide) rfl rfl)
          replace oD_69 := oD_69.nc hN_ (W.bne (p := 1) (q := 0) (by decide) rfl rfl)
          replace W := W.nc hN_ (by simp)
          replace S : StD [markD D_69] 29 _ [(4, .pointer (some (⟨b_1, 0, .none⟩ : Addr)))] := S.sub (by exact ⟨rfl, trivial⟩)
          rw [if_pos rfl] at h; try dsimp only at h
          refine R.wp_ret ?_
          refine blk_r ?_
          refine then_r ?_
          refine R.leave1 S oD_69 ?_ (by simp)
          clear S; intro a wL hN_ S
          replace J_ := J_.nc hN_ hnD_69
          replace B_2 := B_2.nc hN_ (W.bne (p := 2) (q := 1) (by decide) rfl rfl)
          replace W := W.nc hN_ (by simp)
          obtain rfl := Option.some.inj h
          exact b_ret0 S rfl fun _ => ⟨⟨_, rfl⟩, _, J_.inv⟩
        · exact absurd hk_ (by omega)
    clear S W; rintro a w_98 ⟨D_69, l_70, hc_, LO_78, S, W, J_, B_2, oD_69, hnD_69⟩
    rw [if_neg hc_] at h
    refine R.leave1 S oD_69 ?_ (by simp)
    clear S; intro a wL hN_ S
    replace J_ := J_.nc hN_ hnD_69
    replace B_2 := B_2.nc hN_ (W.bne (p := 2) (q := 1) (by decide) rfl rfl)
    replace W := W.nc hN_ (by simp)
    obtain rfl := Option.some.inj h
    exact b_ret0 S rfl fun _ => ⟨⟨_, rfl⟩, _, J_.inv⟩
theorem cb26 : callB Try.prog 26 = true := by kernel_rfl
def p24 (n : Nat) (x0 : Int) (x1 : Int) (x2 : Int) : Option ((Int) × (Int) × (Int)) :=
  some (x0, x1, x2)
set_option maxHeartbeats 4000000 in
set_option maxRecDepth 100000 in
/-- plugboard/periodics.All -/
theorem c24 (K : Nat → Prop) (n : Nat) (w : World) (x0 : Int) (G0 : InR .i64 x0) (x1 : Int) (G1 : InR .i64 x1) (x2 : Int) (G2 : InR .i64 x2) {r : (Int) × (Int) × (Int)} (h : p24 n x0 x1 x2 = some r) :
    Calls Try.prog 24 #[.int .i64 x0, .int .i64 x1, .int .i64 x2] w (fun e_ w_ => ∃ (p0_ : Addr) (p1_ : Addr) (p2_ : Addr), e_ = .returned (.func (.func 26) #[] #[.pointer (some p0_), .pointer (some p1_), .pointer (some p2_)]) ∧ Pr (.int .i64) w_ (Kx K w.heap.size []) p0_ r.1 ∧ Pr (.int .i64) w_ (Kx K w.heap.size []) p1_ r.2.1 ∧ Pr (.int .i64) w_ (Kx K w.heap.size []) p2_ r.2.2 ∧ Below w.heap.size w w_) := by
  refine enter (args := [.int .i64 x0, .int .i64 x1, .int .i64 x2]) Try.func24 rfl 8 rfl rfl fun a S => ?_
  have W := Wd.start w
  unfold p24 at h
  replace S : St 8 a [(0, .int .i64 x0), (1, .int .i64 x1), (2, .int .i64 x2)] := S
  refine wp_seq ?_
  refine wp_region_lit ?_
  refine w_go S rfl (op_box S rfl rfl rfl rfl rfl ((RepV.mkInt G0) : RepV (.int .i64) w (Kx K w.heap.size []) _ _) ?_)
  clear S; intro a w_3 b_1 hb_4 B_2 S
  replace W := W.box hb_4
  refine w_go S rfl (op_box S rfl rfl rfl rfl rfl ((RepV.mkInt G1) : RepV (.int .i64) w_3 (Kx K w.heap.size [some b_1]) _ _) ?_)
  clear S; intro a w_7 b_5 hb_8 B_6 S
  replace B_2 := B_2.box hb_8
  replace W := W.box hb_8
  refine w_go S rfl (op_box S rfl rfl rfl rfl rfl ((RepV.mkInt G2) : RepV (.int .i64) w_7 (Kx K w.heap.size [some b_5, some b_1]) _ _) ?_)
  clear S; intro a w_11 b_9 hb_12 B_10 S
  replace B_2 := B_2.box hb_12
  replace B_6 := B_6.box hb_12
  replace W := W.box hb_12
  refine wl_pure (l' := [(6, .nilFunc), (5, .pointer (some (⟨b_9, 0, .none⟩ : Addr))), (4, .pointer (some (⟨b_5, 0, .none⟩ : Addr))), (3, .pointer (some (⟨b_1, 0, .none⟩ : Addr))), (0, .int .i64 x0), (1, .int .i64 x1), (2, .int .i64 x2)]) S tys tys_ok 1 (by kernel_rfl) ?_
  clear S; intro a S
  refine wpList_nil ?_
  refine then_n ?_
  replace S := S.sub (l' := [(5, .pointer (some (⟨b_9, 0, .none⟩ : Addr))), (4, .pointer (some (⟨b_5, 0, .none⟩ : Addr))), (3, .pointer (some (⟨b_1, 0, .none⟩ : Addr)))]) (by exact ⟨rfl, rfl, rfl, trivial⟩)
  refine wp_seq ?_
  refine wp_region_lit ?_
  refine w_go S rfl (op_mkfn (vs := []) (us := [.pointer (some (⟨b_1, 0, .none⟩ : Addr)), .pointer (some (⟨b_5, 0, .none⟩ : Addr)), .pointer (some (⟨b_9, 0, .none⟩ : Addr))]) S rfl rfl rfl rfl rfl ?_)
  clear S; intro a S
  refine wl_pure (l' := [(6, .func (.func 26) #[] #[.pointer (some (⟨b_1, 0, .none⟩ : Addr)), .pointer (some (⟨b_5, 0, .none⟩ : Addr)), .pointer (some (⟨b_9, 0, .none⟩ : Addr))]), (7, .func (.func 26) #[] #[.pointer (some (⟨b_1, 0, .none⟩ : Addr)), .pointer (some (⟨b_5, 0, .none⟩ : Addr)), .pointer (some (⟨b_9, 0, .none⟩ : Addr))]), (5, .pointer (some (⟨b_9, 0, .none⟩ : Addr))), (4, .pointer (some (⟨b_5, 0, .none⟩ : Addr))), (3, .pointer (some (⟨b_1, 0, .none⟩ : Addr)))]) S tys tys_ok 1 (by kernel_rfl) ?_
  clear S; intro a S
  refine wpList_nil ?_
  refine then_n ?_
  replace S := S.sub (l' := [(6, .func (.func 26) #[] #[.pointer (some (⟨b_1, 0, .none⟩ : Addr)), .pointer (some (⟨b_5, 0, .none⟩ : Addr)), .pointer (some (⟨b_9, 0, .none⟩ : Addr))])]) (by exact ⟨rfl, trivial⟩)
  refine wp_ret ?_
  have Q_13 : Pr (.int .i64) w_11 (Kx K w.heap.size [some b_9, some b_5]) (⟨b_1, 0, .none⟩ : Addr) x0 := Bx.pr B_2 W rfl 2 rfl
  replace B_6 : Bx (.int .i64) 3 w_11 (Kx K w.heap.size [some b_9, some b_5]) b_5 x1 := B_6.lessAt 2
  replace B_10 : Bx (.int .i64) 3 w_11 (Kx K w.heap.size [some b_9, some b_5]) b_9 x2 := B_10.lessAt 2
  replace W : Wd w w_11 [some b_9, some b_5] := W.lessAt 2
  have Q_14 : Pr (.int .i64) w_11 (Kx K w.heap.size [some b_9]) (⟨b_5, 0, .none⟩ : Addr) x1 := Bx.pr B_6 W rfl 1 rfl
  replace Q_13 : Pr (.int .i64) w_11 (Kx K w.heap.size [some b_9]) (⟨b_1, 0, .none⟩ : Addr) x0 := Q_13.lessAt 1
  replace B_10 : Bx (.int .i64) 3 w_11 (Kx K w.heap.size [some b_9]) b_9 x2 := B_10.lessAt 1
  replace W : Wd w w_11 [some b_9] := W.lessAt 1
  have Q_15 : Pr (.int .i64) w_11 (Kx K w.heap.size []) (⟨b_9, 0, .none⟩ : Addr) x2 := Bx.pr B_10 W rfl 0 rfl
  replace Q_13 : Pr (.int .i64) w_11 (Kx K w.heap.size []) (⟨b_1, 0, .none⟩ : Addr) x0 := Q_13.lessAt 0
  replace Q_14 : Pr (.int .i64) w_11 (Kx K w.heap.size []) (⟨b_5, 0, .none⟩ : Addr) x1 := Q_14.lessAt 0
  replace W : Wd w w_11 [] := W.lessAt 0
  obtain rfl := Option.some.inj h
  exact b_ret1 S rfl rfl ⟨(⟨b_1, 0, .none⟩ : Addr), (⟨b_5, 0, .none⟩ : Addr), (⟨b_9, 0, .none⟩ : Addr), rfl, Q_13.out, Q_14.out, Q_15.out, W.below⟩
theorem cb24 : callB Try.prog 24 = true := by kernel_rfl
def p15_r1 (n : Nat) (x3 : Int) (s_ : (List (Int))) (x_ : (Int)) : Option (Nat × ((List (Int)))) :=
  (appI s_ ([x_])).bind fun l_48 => if ((lenI (⟨l_48, capA .none l_48.length⟩ : Sl (Int))) == x3) then (some (1, l_48)) else some (0, l_48)
def p15 (n : Nat) (x0 : Int) (x1 : Int) (x2 : Int) (x3 : Int) : Option ((Sl (Int))) :=
  if (x3 == 0) then (some (⟨([] : List (Int)), some 0⟩ : Sl (Int))) else (p24 n x0 x1 x2).bind fun t_12 => (p26 n t_12.1 t_12.2.1 t_12.2.2 (Nat × ((List (Int)))) (rnd (p15_r1 n x3)) (0, [])).bind fun (y_32 : Nat × ((List (Int)))) => some (⟨y_32.2, .none⟩ : Sl (Int))
set_option maxHeartbeats 4000000 in
set_option maxRecDepth 100000 in
/-- plugboard/plugboardlaw10.first -/
theorem c15 (K : Nat → Prop) (n : Nat) (w : World) (x0 : Int) (G0 : InR .i64 x0) (x1 : Int) (G1 : InR .i64 x1) (x2 : Int) (G2 : InR .i64 x2) (x3 : Int) (G3 : InR .i64 x3) {r : (Sl (Int))} (h : p15 n x0 x1 x2 x3 = some r) :
    Calls Try.prog 15 #[.int .i64 x0, .int .i64 x1, .int .i64 x2, .int .i64 x3] w (fun e_ w_ => ∃ v0_ : Value, e_ = .returned v0_ ∧ Ow (.int .i64) 3 w_ w.heap.size (Kx K w.heap.size [v0_.ownBlock]) v0_ r.xs r.cap ∧ Below w.heap.size w w_) := by
  refine R.enter (args := [.int .i64 x0, .int .i64 x1, .int .i64 x2, .int .i64 x3]) Try.func15 rfl 31 rfl rfl (fun _ h_ => by obtain ⟨_, q_, _⟩ := h_; cases q_) fun a S => ?_
  have W := Wd.start w
  unfold p15 at h
  replace S : St 31 a [(0, .int .i64 x0), (1, .int .i64 x1), (2, .int .i64 x2), (3, .int .i64 x3)] := S
  refine R.wp_seq ?_
  refine R.wp_region_lit ?_
  refine R.w_go S rfl (op_box S rfl rfl rfl rfl rfl ((RepV.mkInt G3) : RepV (.int .i64) w (Kx K w.heap.size []) _ _) ?_)
  clear S; intro a w_3 b_1 hb_4 B_2 S
  replace W := W.box hb_4
  refine R.wl_pure (l' := [(8, .slice .none 0 0), (7, .pointer (some (⟨b_1, 0, .none⟩ : Addr))), (0, .int .i64 x0), (1, .int .i64 x1), (2, .int .i64 x2), (3, .int .i64 x3)]) S tys tys_ok 1 (by kernel_rfl) ?_
  clear S; intro a S
  refine R.wpList_nil ?_
  refine then_n ?_
  replace S := S.sub (l' := [(7, .pointer (some (⟨b_1, 0, .none⟩ : Addr))), (0, .int .i64 x0), (1, .int .i64 x1), (2, .int .i64 x2)]) (by exact ⟨rfl, rfl, rfl, rfl, trivial⟩)
  refine R.wp_seq ?_
  refine R.wp_region_lit ?_
  refine R.w_go S rfl (op_alloc (K := K) (n := w.heap.size) (L := [some b_1]) (t := .raw) (y := (.slice .none 0 0)) S rfl rfl rfl _ z37 (fun w K => ⟨rfl, _, _, _, rfl⟩) ?_)
  clear S; intro a w_7 b_5 hb_8 B_6 S
  replace B_2 := B_2.box hb_8
  replace W := W.box hb_8
  refine R.wpList_nil ?_
  refine then_n ?_
  refine R.wp_seq ?_
  refine R.wp_seq ?_
  refine R.wp_region_lit ?_
  refine R.w_go S rfl (op_load (t := (.int .i64)) (x := x3) S rfl ty3 rfl rfl rfl B_2.at_ ?_)
  clear S; intro a v_9 R_10 S
  obtain ⟨rfl, GR_10⟩ := RepV.int R_10
  refine R.wl_pure (l' := [(13, .bool (x3 == 0)), (12, .int .i64 x3), (9, .pointer (some (⟨b_5, 0, .none⟩ : Addr))), (7, .pointer (some (⟨b_1, 0, .none⟩ : Addr))), (0, .int .i64 x0), (1, .int .i64 x1), (2, .int .i64 x2)]) S tys tys_ok 1 (by kernel_rfl) ?_
  clear S; intro a S
  refine R.wpList_nil ?_
  refine then_n ?_
  replace S := S.sub (l' := [(13, .bool (x3 == 0)), (9, .pointer (some (⟨b_5, 0, .none⟩ : Addr))), (7, .pointer (some (⟨b_1, 0, .none⟩ : Addr))), (0, .int .i64 x0), (1, .int .i64 x1), (2, .int .i64 x2)]) (by exact ⟨rfl, rfl, rfl, rfl, rfl, rfl, trivial⟩)
  refine R.wp_cond_split (S.eval (show ev _ _ = some (.bool (x3 == 0)) from rfl)) ?_ ?_
  · intro hc
    rw [if_pos hc] at h
    refine R.wp_seq ?_
    refine R.wp_region_lit ?_
    refine R.wl_pure (l' := [(8, .slice .none 0 0), (13, .bool (x3 == 0)), (9, .pointer (some (⟨b_5, 0, .none⟩ : Addr))), (7, .pointer (some (⟨b_1, 0, .none⟩ : Addr))), (0, .int .i64 x0), (1, .int .i64 x1), (2, .int .i64 x2)]) S tys tys_ok 1 (by kernel_rfl) ?_
    clear S; intro a S
    refine R.wpList_nil ?_
    refine then_n ?_
    replace S := S.sub (l' := [(8, .slice .none 0 0)]) (by exact ⟨rfl, trivial⟩)
    refine R.wp_ret ?_
    refine then_r ?_
    refine R.leave0 S ?_ (by simp)
    clear S; intro a S
    replace B_2 := B_2.more
    replace B_6 := B_6.more
    replace W := W.more
    have O_11 : Ow (.int .i64) 3 w_7 w.heap.size (Kx K w.heap.size [.none, some b_5, some b_1]) (.slice .none 0 0) ([] : List (Int)) (some 0) := Ow.nil
    obtain rfl := Option.some.inj h
    exact b_ret1 S rfl rfl ⟨_, rfl, (O_11.lessO 0 rfl), W.below⟩
  · intro hc
    rw [if_neg (Bool.eq_false_iff.1 hc)] at h
    refine R.wp_skip ?_
    refine then_n ?_
    replace S := S.sub (l' := [(9, .pointer (some (⟨b_5, 0, .none⟩ : Addr))), (7, .pointer (some (⟨b_1, 0, .none⟩ : Addr))), (0, .int .i64 x0), (1, .int .i64 x1), (2, .int .i64 x2)]) (by exact ⟨rfl, rfl, rfl, rfl, rfl, trivial⟩)
    refine R.wp_seq ?_
    refine R.wp_region_lit ?_
    refine R.wl_pure (l' := [(16, .int .i64 x2), (15, .int .i64 x1), (14, .int .i64 x0), (9, .pointer (some (⟨b_5, 0, .none⟩ : Addr))), (7, .pointer (some (⟨b_1, 0, .none⟩ : Addr))), (0, .int .i64 x0), (1, .int .i64 x1), (2, .int .i64 x2)]) S tys tys_ok 3 (by kernel_rfl) ?_
    clear S; intro a S
    obtain ⟨t_12, et_12, h⟩ := bindS h
    refine R.w_go S rfl (op_call (vs := [.int .i64 x0, .int .i64 x1, .int .i64 x2]) S rfl cb24 rfl rfl rfl (c24 (Kx K w.heap.size [some b_5, some b_1]) n w_7 x0 G0 x1 G1 x2 G2 et_12) ?_)
    rintro _ w_15 ⟨p_17, p_19, p_21, rfl, Q_18, Q_20, Q_22, hb_16⟩; refine ⟨_, rfl, ?_⟩
    replace Q_18 := Pr.back Q_18 W
    replace Q_20 := Pr.back Q_20 W
    replace Q_22 := Pr.back Q_22 W
    clear S; intro a S
    replace B_2 := B_2.step hb_16
    replace B_6 := B_6.step hb_16
    replace W := W.step hb_16
    refine R.wl_pure (l' := [(10, .func (.func 26) #[] #[.pointer (some p_17), .pointer (some p_19), .pointer (some p_21)]), (17, .func (.func 26) #[] #[.pointer (some p_17), .pointer (some p_19), .pointer (some p_21)]), (16, .int .i64 x2), (15, .int .i64 x1), (14, .int .i64 x0), (9, .pointer (some (⟨b_5, 0, .none⟩ : Addr))), (7, .pointer (some (⟨b_1, 0, .none⟩ : Addr))), (0, .int .i64 x0), (1, .int .i64 x1), (2, .int .i64 x2)]) S tys tys_ok 1 (by kernel_rfl) ?_
    clear S; intro a S
    refine R.wpList_nil ?_
    refine then_n ?_
    replace S := S.sub (l' := [(10, .func (.func 26) #[] #[.pointer (some p_17), .pointer (some p_19), .pointer (some p_21)]), (9, .pointer (some (⟨b_5, 0, .none⟩ : Addr))), (7, .pointer (some (⟨b_1, 0, .none⟩ : Addr)))]) (by exact ⟨rfl, rfl, rfl, trivial⟩)
    refine R.wp_seq ?_
    refine R.wp_seq ?_
    refine R.wp_region_lit ?_
    refine R.wl_pure (l' := [(18, .func (.func 26) #[] #[.pointer (some p_17), .pointer (some p_19), .pointer (some p_21)]), (10, .func (.func 26) #[] #[.pointer (some p_17), .pointer (some p_19), .pointer (some p_21)]), (9, .pointer (some (⟨b_5, 0, .none⟩ : Addr))), (7, .pointer (some (⟨b_1, 0, .none⟩ : Addr)))]) S tys tys_ok 1 (by kernel_rfl) ?_
    clear S; intro a S
    refine R.w_go S rfl (op_fnil S rfl fn66 rfl rfl rfl rfl ?_)
    clear S; intro a S
    refine R.wpList_nil ?_
    refine then_n ?_
    replace S := S.sub (l' := [(19, .bool false), (10, .func (.func 26) #[] #[.pointer (some p_17), .pointer (some p_19), .pointer (some p_21)]), (9, .pointer (some (⟨b_5, 0, .none⟩ : Addr))), (7, .pointer (some (⟨b_1, 0, .none⟩ : Addr)))]) (by exact ⟨rfl, rfl, rfl, rfl, trivial⟩)
    refine R.wp_cond_split (S.eval (show ev _ _ = some (.bool false) from rfl)) (fun h_ => (by cases h_)) (fun _ => ?_)
    refine R.wp_skip ?_
    refine then_n ?_
    replace S := S.sub (l' := [(10, .func (.func 26) #[] #[.pointer (some p_17), .pointer (some p_19), .pointer (some p_21)]), (9, .pointer (some (⟨b_5, 0, .none⟩ : Addr))), (7, .pointer (some (⟨b_1, 0, .none⟩ : Addr)))]) (by exact ⟨rfl, rfl, rfl, trivial⟩)
    refine R.wp_seq ?_
    refine R.wp_seq ?_
    refine R.wp_region_lit ?_
    refine R.wl_pure (l' := [(20, .func (.func 26) #[] #[.pointer (some p_17), .pointer (some p_19), .pointer (some p_21)]), (10, .func (.func 26) #[] #[.pointer (some p_17), .pointer (some p_19), .pointer (some p_21)]), (9, .pointer (some (⟨b_5, 0, .none⟩ : Addr))), (7, .pointer (some (⟨b_1, 0, .none⟩ : Addr)))]) S tys tys_ok 1 (by kernel_rfl) ?_
    clear S; intro a S
    refine R.wpList_nil ?_
    refine then_n ?_
    replace S := S.sub (l' := [(20, .func (.func 26) #[] #[.pointer (some p_17), .pointer (some p_19), .pointer (some p_21)]), (9, .pointer (some (⟨b_5, 0, .none⟩ : Addr))), (7, .pointer (some (⟨b_1, 0, .none⟩ : Addr)))]) (by exact ⟨rfl, rfl, rfl, trivial⟩)
    obtain ⟨y_32, ey_32, h⟩ := bindS h
    refine R.wp_cut_ (fun a_ w_ => ∃ D_23 l_24 : Nat, (∃ (v_33 : Value), StD [markD D_23] 31 a_ [(9, .pointer (some (⟨b_5, 0, .none⟩ : Addr)))] ∧ Wd w w_ [v_33.ownBlock, some l_24, some D_23, some b_5, some b_1] ∧ Bx (.int .i64) 3 w_ (Kx K w.heap.size [v_33.ownBlock, some l_24, some D_23, some b_5, some b_1]) b_1 x3 ∧ Bx .raw 37 w_ (Kx K w.heap.size [v_33.ownBlock, some l_24, some D_23, some b_5, some b_1]) b_5 v_33 ∧ Ox (.deferred (some [])) w_ D_23 ∧ Ow (.int .i64) 3 w_ w.heap.size (Kx K w.heap.size [v_33.ownBlock, some l_24, some D_23, some b_5, some b_1]) v_33 y_32.2 .none)) ?_ ?_
    · refine R.wp_block ?_
      refine R.range S rfl cb26 ?_
      intro fn_ w_35 w_36 D_23 l_24 rec hrec hbD_23 hbl_24 oD_23 ol_24; have S0 := S
      replace Q_18 := Q_18.box hbD_23
      replace Q_20 := Q_20.box hbD_23
      replace Q_22 := Q_22.box hbD_23
      replace B_2 := B_2.box hbD_23
      replace B_6 := B_6.box hbD_23
      replace W := W.box hbD_23
      replace Q_18 := Q_18.box hbl_24
      replace Q_20 := Q_20.box hbl_24
      replace Q_22 := Q_22.box hbl_24
      replace B_2 := B_2.box hbl_24
      replace B_6 := B_6.box hbl_24
      replace oD_23 := oD_23.box hbl_24
      replace W := W.box hbl_24
      have hz_ : w.heap.size ≤ w_36.heap.size := W.below.size; have ltD_23 := oD_23.lt; have ltl_24 := ol_24.lt
      replace Q_18 := Q_18.more
      replace Q_20 := Q_20.more
      replace Q_22 := Q_22.more
      replace B_2 := B_2.more
      replace B_6 := B_6.more
      replace oD_23 := oD_23.more
      replace W := W.more
      have O_39 : Ow (.int .i64) 3 w_36 w.heap.size (Kx K w.heap.size [.none, some l_24, some D_23, some b_5, some b_1]) (.slice .none 0 0) ([] : List (Int)) (some 0) := Ow.nil
      refine (c26 K n w w_36 [.none, some l_24, some D_23, some b_5, some b_1] p_17 _ Q_18 p_19 _ Q_20 p_21 _ Q_22 (Nat × ((List (Int)))) (rnd (p15_r1 n x3)) _ l_24 (fun (b_ : Nat × ((List (Int)))) (LO_ : List (Option Nat)) (w_ : World) => ∃ (k_ : Nat) (s_ : (List (Int))) (v_37 : Value), b_ = (k_, s_) ∧ k_ ≤ 1 ∧ LO_ = [v_37.ownBlock, some l_24, some D_23, some b_5, some b_1] ∧ Wd w w_ [v_37.ownBlock, some l_24, some D_23, some b_5, some b_1] ∧ Bx (.int .i64) 3 w_ (Kx K w.heap.size [v_37.ownBlock, some l_24, some D_23, some b_5, some b_1]) b_1 x3 ∧ Bx .raw 37 w_ (Kx K w.heap.size [v_37.ownBlock, some l_24, some D_23, some b_5, some b_1]) b_5 v_37 ∧ Ox (.deferred (some [])) w_ D_23 ∧ Ow (.int .i64) 3 w_ w.heap.size (Kx K w.heap.size [v_37.ownBlock, some l_24, some D_23, some b_5, some b_1]) v_37 s_ .none ∧ Ox (rk rec [.exit 0] k_) w_ l_24) W ⟨?_, ⟨0, [], (.slice .none 0 0), rfl, by decide, rfl, W, B_2, B_6, oD_23, O_39.forget, ol_24⟩, Nat.le_refl _⟩ ?_ ey_32).mono ?_
      · rintro _ LO_ A_ B_ ⟨k_, s_, v_37, rfl, hk_, rfl, W, B_2, B_6, oD_23, O_38, ol_24⟩ hab_; exact ⟨k_, s_, v_37, rfl, hk_, rfl, W.ab hab_ (by simp) hz_, B_2.ab hab_ (by simp) (by simp), B_6.ab hab_ (by simp) (by simp), oD_23.ab hab_ ltD_23 (by simp), O_38.ab hab_ (by simp) (.inr (by simp)), ol_24.ab hab_ ltl_24 (by simp)⟩
      · intro b_ LO_ A_ x_ WA_ G_40 r_ hf_ hJ_
        obtain ⟨s0_, r0_, e1_, hb_, rfl⟩ := rnd_some hf_
        obtain ⟨k_, s_, v_37, e2_, hk_, rfl, W, B_2, B_6, oD_23, O_38, ol_24⟩ := hJ_
        obtain ⟨q1_, q2_⟩ := Prod.mk.inj (e2_.symm.trans e1_); subst q1_; subst q2_; clear WA_ hf_
        replace ol_24 : Ox (rec .ready none) A_ l_24 := ol_24
        refine yieldAt_of (ps := [21]) (vs := [.int .i64 x_]) hrec S0 ol_24 rfl (by kernel_rfl) ?_; intro a S
        unfold p15_r1 at hb_; try dsimp only at hb_
        have RD := Rnd.start A_ [v_37.ownBlock, some l_24, some D_23, some b_5, some b_1]
        replace S : St 31 a [(21, .int .i64 x_), (9, .pointer (some (⟨b_5, 0, .none⟩ : Addr))), (7, .pointer (some (⟨b_1, 0, .none⟩ : Addr)))] := S.sub (by exact ⟨rfl, rfl, rfl, trivial⟩)
        refine R.wp_region_lit ?_
        refine R.wl_pure (l' := [(11, .int .i64 x_), (21, .int .i64 x_), (9, .pointer (some (⟨b_5, 0, .none⟩ : Addr))), (7, .pointer (some (⟨b_1, 0, .none⟩ : Addr)))]) S tys tys_ok 1 (by kernel_rfl) ?_
        clear S; intro a S
        refine R.wpList_nil ?_
        refine then_n ?_
        refine R.begin hrec ol_24 ?_; intro w_41 hN_ ol_24
        replace B_2 := B_2.nc hN_
        replace B_6 := B_6.nc hN_
        replace oD_23 := oD_23.nc hN_ (W.bne (p := 2) (q := 1) (by decide) rfl rfl)
        replace O_38 := O_38.nc hN_
        replace RD := RD.nc hN_ (by simp)
        replace W := W.nc hN_ (by simp)
        refine R.wp_block ?_
        refine R.wp_seq ?_
        refine R.wp_region_lit ?_
        refine R.w_go S rfl (op_load (t := .raw) (x := v_37) S rfl tyr37 rfl rfl rfl B_6.at_ ?_)
        clear S; intro a v_42 R_43 S
        have q_ := (RepV.rawEq R_43).symm; clear R_43; subst q_
        refine R.wl_pure (l' := [(23, .int .i64 x_), (22, v_37), (11, .int .i64 x_), (21, .int .i64 x_), (9, .pointer (some (⟨b_5, 0, .none⟩ : Addr))), (7, .pointer (some (⟨b_1, 0, .none⟩ : Addr)))]) S tys tys_ok 1 (by kernel_rfl) ?_
        clear S; intro a S
        refine R.w_go S rfl (op_buildSlice (K := K) (e := (.int .i64)) (vs := [.int .i64 x_]) (xs := [x_]) S W rfl ty37 rfl rfl (by kernel_rfl) rfl rfl rfl rfl rfl ⟨(RepV.mkInt G_40), trivial⟩ ?_)
        clear S; intro a w_47 v_44 hb_46 R_45 S
        replace B_2 := B_2.step hb_46
        replace B_6 := B_6.step hb_46
        replace oD_23 := oD_23.step hb_46
        replace ol_24 := ol_24.step hb_46
        replace O_38 := O_38.step hb_46
        replace RD := RD.step hb_46
        replace W := W.step hb_46
        obtain ⟨l_48, el_48, hb_⟩ := bindS hb_
        refine R.w_go S rfl (op_append S W (E := 3) 0 rfl ty37 un37 by37 rfl rfl rfl rfl O_38 rfl R_45 el_48 ?_)
        clear S; intro a w_50 v_49 A_51 O_52 S
        replace R_45 : RepV (.sl (.int .i64)) w_50 (Kx K w.heap.size [v_49.ownBlock, some l_24, some D_23, some b_5, some b_1]) v_44 (⟨[x_], some 1⟩ : Sl (Int)) := R_45.apd A_51 (i := 0) rfl
        replace B_2 : Bx (.int .i64) 3 w_50 (Kx K w.heap.size [v_49.ownBlock, some l_24, some D_23, some b_5, some b_1]) b_1 x3 := B_2.apd W A_51 (i := 0) rfl (j := 4) rfl (by decide)
        replace B_6 : Bx .raw 37 w_50 (Kx K w.heap.size [v_49.ownBlock, some l_24, some D_23, some b_5, some b_1]) b_5 v_37 := B_6.apd W A_51 (i := 0) rfl (j := 3) rfl (by decide)
        replace oD_23 : Ox (.deferred (some [])) w_50 D_23 := oD_23.apd W A_51 (i := 0) rfl (j := 2) rfl (by decide)
        replace ol_24 : Ox (rec .busy none) w_50 l_24 := ol_24.apd W A_51 (i := 0) rfl (j := 1) rfl (by decide)
        replace RD : Rnd A_ [v_37.ownBlock, some l_24, some D_23, some b_5, some b_1] w_50 [v_49.ownBlock, some l_24, some D_23, some b_5, some b_1] := RD.apd A_51 (i := 0) rfl
        replace W : Wd w w_50 [v_49.ownBlock, some l_24, some D_23, some b_5, some b_1] := W.apd A_51 (i := 0) rfl
        replace O_52 : Ow (.int .i64) 3 w_50 w.heap.size (Kx K w.heap.size [v_49.ownBlock, some l_24, some D_23, some b_5, some b_1]) v_49 l_48 (capA .none l_48.length) := O_52
        refine R.w_go S rfl (op_store (t' := .raw) S rfl rfl tyr37 rfl rfl rfl B_6 (by simp) Ln.whole O_52.raw ?_)
        intro w_53 hw_54 B_
        replace R_45 := R_45.wrote hw_54 (by simp)
        replace B_2 := B_2.wrote hw_54 (by simp) (W.bne (p := 4) (q := 3) (by decide) rfl rfl)
        replace oD_23 := oD_23.wrote hw_54 (by simp) (W.bne (p := 2) (q := 3) (by decide) rfl rfl)
        replace ol_24 := ol_24.wrote hw_54 (by simp) (W.bne (p := 1) (q := 3) (by decide) rfl rfl)
        replace O_52 := O_52.wrote hw_54 (by simp) (W.one (p := 0) (q := 3) (by decide) rfl rfl)
        replace RD := RD.wrote hw_54 (by simp)
        replace W := W.wrote hw_54 (by simp)
        replace B_6 : Bx .raw 37 w_53 (Kx K w.heap.size [v_49.ownBlock, some l_24, some D_23, some b_5, some b_1]) b_5 v_49 := B_; clear B_
        refine R.wpList_nil ?_
        refine then_n ?_
        replace S := S.sub (l' := [(9, .pointer (some (⟨b_5, 0, .none⟩ : Addr))), (7, .pointer (some (⟨b_1, 0, .none⟩ : Addr)))]) (by exact ⟨rfl, rfl, trivial⟩)
        refine R.wp_seq ?_
        refine R.wp_region_lit ?_
        refine R.w_go S rfl (op_load (t := .raw) (x := v_49) S rfl tyr37 rfl rfl rfl B_6.at_ ?_)
        clear S; intro a v_55 R_56 S
        have q_ := (RepV.rawEq R_56).symm; clear R_56; subst q_
        refine R.w_go S rfl (op_len (K := _) S rfl ty37 rfl rfl rfl O_52.read ?_)
        clear S; intro a G_57 S
        refine R.w_go S rfl (op_load (t := (.int .i64)) (x := x3) S rfl ty3 rfl rfl rfl B_2.at_ ?_)
        clear S; intro a v_58 R_59 S
        obtain ⟨rfl, GR_59⟩ := RepV.int R_59
        refine R.wl_pure (l' := [(29, .bool ((lenI (⟨l_48, capA .none l_48.length⟩ : Sl (Int))) == x3)), (28, .int .i64 x3), (27, .int .i64 (lenI (⟨l_48, capA .none l_48.length⟩ : Sl (Int)))), (26, v_49), (9, .pointer (some (⟨b_5, 0, .none⟩ : Addr))), (7, .pointer (some (⟨b_1, 0, .none⟩ : Addr)))]) S tys tys_ok 1 (by kernel_rfl) ?_
        clear S; intro a S
        refine R.wpList_nil ?_
        refine then_n ?_
        replace S := S.sub (l' := [(29, .bool ((lenI (⟨l_48, capA .none l_48.length⟩ : Sl (Int))) == x3))]) (by exact ⟨rfl, trivial⟩)
        refine R.wp_cond_split (S.eval (show ev _ _ = some (.bool ((lenI (⟨l_48, capA .none l_48.length⟩ : Sl (Int))) == x3)) from rfl)) ?_ ?_
        · intro hc
          rw [if_pos hc] at hb_
          refine R.wp_exit ?_
          refine blk_miss rfl ?_
          obtain rfl := Option.some.inj hb_
          refine R.end_x hrec ol_24 ?_; intro w_60 hN_ ol_24
          replace B_2 := B_2.nc hN_
          replace B_6 := B_6.nc hN_
          replace oD_23 := oD_23.nc hN_ (W.bne (p := 2) (q := 1) (by decide) rfl rfl)
          replace O_52 := O_52.nc hN_
          replace RD := RD.nc hN_ (by simp)
          replace W := W.nc hN_ (by simp)
          exact ⟨_, rfl, ⟨1, _, v_49, rfl, by decide, rfl, W, B_2, B_6, oD_23, O_52.forget, ol_24⟩, RD.yst W⟩
        · intro hc
          rw [if_neg (Bool.eq_false_iff.1 hc)] at hb_
          refine R.wp_skip ?_
          refine blk_n ?_
          obtain rfl := Option.some.inj hb_
          refine R.end_n hrec ol_24 ?_; intro w_61 hN_ ol_24
          replace B_2 := B_2.nc hN_
          replace B_6 := B_6.nc hN_
          replace oD_23 := oD_23.nc hN_ (W.bne (p := 2) (q := 1) (by decide) rfl rfl)
          replace O_52 := O_52.nc hN_
          replace RD := RD.nc hN_ (by simp)
          replace W := W.nc hN_ (by simp)
          exact ⟨_, rfl, ⟨0, _, v_49, rfl, by decide, rfl, W, B_2, B_6, oD_23, O_52.forget, ol_24⟩, RD.yst W⟩
      · rintro _ w_62 ⟨hv_, LO_, hJ_⟩; refine ⟨hv_, ?_⟩; clear S W
        obtain ⟨k_, s_, v_37, e2_, hk_, rfl, W, B_2, B_6, oD_23, O_38, ol_24⟩ := hJ_; subst e2_; have S := S0.mark (D := D_23)
        rcases k_ with _ | _ | k_
        ·
          replace ol_24 : Ox (rec .ready none) w_62 l_24 := ol_24
          refine RP.done hrec ol_24 ?_; intro w_63 hN_
          replace B_2 := B_2.nc hN_
          replace B_6 := B_6.nc hN_
          replace oD_23 := oD_23.nc hN_ (W.bne (p := 2) (q := 1) (by decide) rfl rfl)
          replace O_38 := O_38.nc hN_
          replace W := W.nc hN_ (by simp)
          replace S : StD [markD D_23] 31 _ [(9, .pointer (some (⟨b_5, 0, .none⟩ : Addr))), (7, .pointer (some (⟨b_1, 0, .none⟩ : Addr)))] := S.sub (by exact ⟨rfl, rfl, trivial⟩)
          refine blk_n ?_
          refine then_n ?_
          exact ⟨D_23, l_24, ⟨v_37, S.sub (by exact ⟨rfl, trivial⟩), W, B_2, B_6, oD_23, O_38⟩⟩
        ·
          replace ol_24 : Ox (rec .done (some (.exit 0))) w_62 l_24 := ol_24
          refine RP.jump hrec ol_24 ?_; intro w_64 hN_
          replace B_2 := B_2.nc hN_
          replace B_6 := B_6.nc hN_
          replace oD_23 := oD_23.nc hN_ (W.bne (p := 2) (q := 1) (by decide) rfl rfl)
          replace O_38 := O_38.nc hN_
          replace W := W.nc hN_ (by simp)
          replace S : StD [markD D_23] 31 _ [(9, .pointer (some (⟨b_5, 0, .none⟩ : Addr))), (7, .pointer (some (⟨b_1, 0, .none⟩ : Addr)))] := S.sub (by exact ⟨rfl, rfl, trivial⟩)
          refine R.wp_exit ?_
          refine blk_hit ?_
          refine then_n ?_
          exact ⟨D_23, l_24, ⟨v_37, S.sub (by exact ⟨rfl, trivial⟩), W, B_2, B_6, oD_23, O_38⟩⟩
        · exact absurd hk_ (by omega)
    clear S W; rintro a w_65 ⟨D_23, l_24, v_33, S, W, B_2, B_6, oD_23, O_34⟩
    refine then_n ?_
    refine R.wp_seq ?_
    refine R.wp_region_lit ?_
    refine R.w_go S rfl (op_load (t := .raw) (x := v_33) S rfl tyr37 rfl rfl rfl B_6.at_ ?_)
    clear S; intro a v_66 R_67 S
    have q_ := (RepV.rawEq R_67).symm; clear R_67; subst q_
    refine R.wl_pure (l' := [(8, v_33), (30, v_33), (9, .pointer (some (⟨b_5, 0, .none⟩ : Addr)))]) S tys tys_ok 1 (by kernel_rfl) ?_
    clear S; intro a S
    refine R.wpList_nil ?_
    refine then_n ?_
    replace S := S.sub (l' := [(8, v_33)]) (by exact ⟨rfl, trivial⟩)
    refine R.wp_ret ?_
    refine R.leave1 S oD_23 ?_ (by simp)
    clear S; intro a wL hN_ S
    replace B_2 := B_2.nc hN_
    replace B_6 := B_6.nc hN_
    replace O_34 := O_34.nc hN_
    replace W := W.nc hN_ (by simp)
    obtain rfl := Option.some.inj h
    exact b_ret1 S rfl rfl ⟨_, rfl, (O_34.lessO 0 rfl), W.below⟩
theorem cb15 : callB Try.prog 15 = true := by kernel_rfl
def p25 (n : Nat) (x0 : Sl (Int)) : Option ((Sl (Int))) :=
  (mkI 0 (lenI x0)).bind fun m_2 =>
  (appI (List.replicate m_2.1 (0 : Int)) x0.xs).bind fun l_7 =>
  some (⟨l_7, capA (some m_2.2) l_7.length⟩ : Sl (Int))
set_option maxHeartbeats 4000000 in
set_option maxRecDepth 100000 in
/-- plugboard/periodics.clone -/
theorem c25 (K : Nat → Prop) (n : Nat) (w : World) (x0 : Sl (Int)) (v0 : Value) (R0 : RepV (.sl (.int .u8)) w K v0 x0) {r : (Sl (Int))} (h : p25 n x0 = some r) :
    Calls Try.prog 25 #[v0] w (fun e_ w_ => ∃ v0_ : Value, e_ = .returned v0_ ∧ Ow (.int .u8) 5 w_ w.heap.size (Kx K w.heap.size [v0_.ownBlock]) v0_ r.xs r.cap ∧ Below w.heap.size w w_) := by
  refine enter (args := [v0]) Try.func25 rfl 8 rfl rfl fun a S => ?_
  have W := Wd.start w
  replace R0 := R0.arg
  unfold p25 at h
  replace S : St 8 a [(0, v0)] := S
  refine wp_seq ?_
  refine wp_region_lit ?_
  refine wl_pure (l' := [(2, .slice .none 0 0), (0, v0)]) S tys tys_ok 1 (by kernel_rfl) ?_
  clear S; intro a S
  refine wpList_nil ?_
  refine then_n ?_
  replace S := S.sub (l' := [(0, v0)]) (by exact ⟨rfl, trivial⟩)
  refine wp_seq ?_
  refine wp_region_lit ?_
  refine wl_pure (l' := [(3, v0), (0, v0)]) S tys tys_ok 1 (by kernel_rfl) ?_
  clear S; intro a S
  refine w_go S rfl (op_len (K := _) S rfl ty51 rfl rfl rfl R0 ?_)
  clear S; intro a G_1 S
  obtain ⟨m_2, em_2, h⟩ := bindS h
  refine w_go S rfl (op_make (K := K) (e := (.int .u8)) (z0 := 0) S W _ rfl ty51 un51 by51 z5 (fun w K => ⟨rfl, by decide⟩) rfl rfl rfl rfl em_2 ?_)
  clear S; intro a w_4 b_3 hb_5 O_6 S
  replace R0 := R0.box hb_5
  replace W := W.box hb_5
  replace O_6 : Ow (.int .u8) 5 w_4 w.heap.size (Kx K w.heap.size [some b_3]) (.slice (some ⟨b_3, 0, .none⟩) m_2.1 m_2.2) (List.replicate m_2.1 (0 : Int)) (some m_2.2) := O_6
  refine wl_pure (l' := [(6, v0), (5, (.slice (some ⟨b_3, 0, .none⟩) m_2.1 m_2.2)), (4, .int .i64 (lenI x0)), (3, v0), (0, v0)]) S tys tys_ok 1 (by kernel_rfl) ?_
  clear S; intro a S
  obtain ⟨l_7, el_7, h⟩ := bindS h
  refine w_go S rfl (op_append S W (E := 5) 0 rfl ty51 un51 by51 rfl rfl rfl rfl O_6 rfl R0 el_7 ?_)
  clear S; intro a w_9 v_8 A_10 O_11 S
  replace R0 : RepV (.sl (.int .u8)) w_9 (Kx K w.heap.size [v_8.ownBlock]) v0 x0 := R0.apd A_10 (i := 0) rfl
  replace W : Wd w w_9 [v_8.ownBlock] := W.apd A_10 (i := 0) rfl
  replace O_11 : Ow (.int .u8) 5 w_9 w.heap.size (Kx K w.heap.size [v_8.ownBlock]) v_8 l_7 (capA (some m_2.2) l_7.length) := O_11
  refine wl_pure (l' := [(2, v_8), (7, v_8), (6, v0), (5, (.slice (some ⟨b_3, 0, .none⟩) m_2.1 m_2.2)), (4, .int .i64 (lenI x0)), (3, v0), (0, v0)]) S tys tys_ok 1 (by kernel_rfl) ?_
  clear S; intro a S
  refine wpList_nil ?_
  refine then_n ?_
  replace S := S.sub (l' := [(2, v_8)]) (by exact ⟨rfl, trivial⟩)
  refine wp_ret ?_
  obtain rfl := Option.some.inj h
  exact b_ret1 S rfl rfl ⟨_, rfl, (O_11.lessO 0 rfl), W.below⟩
theorem cb25 : callB Try.prog 25 = true := by kernel_rfl

end Go.Proofs.Ytpllbhofpppfcaa
