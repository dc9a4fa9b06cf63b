/- Functions of the program, as plain data. -/
import Derived.Test.YtflieonbbggmhaaP0
set_option linter.unusedVariables false
set_option linter.unusedSimpArgs false
namespace Go.Proofs.Ytflieonbbggmhaa
open Go.RowKit

def p28 (n : Nat) (x0 : Int) : Option ((Bool)) :=
 (if (decide (x0 < 1)) = false then some (decide (x0 > 7)) else some true).bind fun q_1 =>
 some q_1
set_option maxHeartbeats 4000000 in
set_option maxRecDepth 100000 in
/-- plugboard/topologies.Check$1 -/
theorem c28 (K : Nat → Prop) (n : Nat) (w : World) (x0 : Int) (G0 : InR .u8 x0) {r : (Bool)} (h : p28 n x0 = some r) :
  Calls Try.prog 28 #[.int .u8 x0] w (Ret1 .bool w (Kx K w.heap.size []) r) := by
 refine enter (args := [.int .u8 x0]) Try.func28 rfl 9 rfl rfl fun a S => ?_
 have W := Wd.start w
 unfold p28 at h
 replace S : St 9 a [(0, .int .u8 x0)] := S
 refine wp_seq ?_
 refine wp_region_lit ?_
 refine wl_pure (l' := [(2, .bool false), (0, .int .u8 x0)]) S tys tys_ok 1 (by kernel_rfl) ?_
 clear S; intro a S
 refine wpList_nil ?_
 refine then_n ?_
 replace S := S.sub (l' := [(0, .int .u8 x0)]) (by exact ⟨rfl, trivial⟩)
 refine wp_seq ?_
 refine wp_region_lit ?_
 refine wl_pure (l' := [(5, .bool (decide (x0 < 1))), (4, .bool (decide (x0 < 1))), (3, .int .u8 x0), (0, .int .u8 x0)]) S tys tys_ok 3 (by kernel_rfl) ?_
 clear S; intro a S
 obtain ⟨q_1, eq_1, h⟩ := bindS h
 refine seg 3 (fun a_ w_ => w = w_ ∧ St 9 a_ [(8, .bool q_1)]) ?_ ?_
 ·by_cases hc : (decide (x0 < 1)) = false
  ·rw [if_pos hc] at eq_1; rw [hc] at S
   refine wl_pureK (l' := [(8, .bool (decide (x0 > 7)))]) S tys tys_ok 3 [8] (by kernel_rfl) ?_
   clear S; intro a S
   obtain rfl := Option.some.inj eq_1
   exact ⟨rfl, S.sub (by exact ⟨rfl, trivial⟩)⟩
  ·rw [if_neg hc] at eq_1; rw [show (decide (x0 < 1)) = true from (by simpa using hc)] at S
   refine wl_pureK (l' := [(8, .bool true)]) S tys tys_ok 3 [8] (by kernel_rfl) ?_
   clear S; intro a S
   obtain rfl := Option.some.inj eq_1
   exact ⟨rfl, S.sub (by exact ⟨rfl, trivial⟩)⟩
 clear S eq_1; rintro a _ ⟨rfl, S⟩
 refine wl_pure (l' := [(2, .bool q_1), (8, .bool q_1)]) S tys tys_ok 1 (by kernel_rfl) ?_
 clear S; intro a S
 refine wpList_nil ?_
 refine then_n ?_
 replace S := S.sub (l' := [(2, .bool q_1)]) (by exact ⟨rfl, trivial⟩)
 refine wp_ret ?_
 obtain rfl := Option.some.inj h
 exact b_ret1 S rfl rfl ⟨_, rfl, RepV.mkBool, W.below⟩
theorem cb28 : callB Try.prog 28 = true := by kernel_rfl
def p43_28_l1 (n : Nat) (x0 : Sl (Int)) : Nat → (Int) → Option ((Unit) ⊕ ((Int)))
 | 0, _ => .none
 | m + 1, c_2 => if (decide (c_2 < (lenI x0))) then ((idx x0.xs c_2).bind fun y_11 => (p28 n y_11).bind fun t_17 => if t_17 then (some (.inr c_2)) else (ckI .i64 (c_2 + 1)).bind fun x_22 => p43_28_l1 n x0 m x_22) else some (.inl ())
def p43_28 (n : Nat) (x0 : Sl (Int)) : Option ((Int)) :=
 (p43_28_l1 n x0 n 0).bind fun (y_6 : (Unit) ⊕ ((Int))) =>
 lrK y_6 some fun (s_7 : Unit) =>
 some (-1)
set_option maxHeartbeats 4000000 in
set_option maxRecDepth 100000 in
/-- slices.IndexFunc[plugboard/topologies.Path,uint8] -/
theorem c43_28 (K : Nat → Prop) (n : Nat) (w : World) (x0 : Sl (Int)) (v0 : Value) (R0 : RepV (.sl (.int .u8)) w K v0 x0) {r : (Int)} (h : p43_28 n x0 = some r) :
  Calls Try.prog 43 #[v0, .func (.func 28) #[] #[]] w (Ret1 (.int .i64) w (Kx K w.heap.size []) r) := by
 refine enter (args := [v0, .func (.func 28) #[] #[]]) Try.func43 rfl 19 rfl rfl fun a S => ?_
 have W := Wd.start w
 replace R0 := R0.arg
 unfold p43_28 at h
 replace S : St 19 a [(0, v0), (1, .func (.func 28) #[] #[])] := S
 refine wp_seq ?_
 refine wp_region_lit ?_
 refine wl_pure (l' := [(4, .int .i64 0), (0, v0), (1, .func (.func 28) #[] #[])]) S tys tys_ok 1 (by kernel_rfl) ?_
 clear S; intro a S
 refine wpList_nil ?_
 refine then_n ?_
 replace S := S.sub (l' := [(0, v0), (1, .func (.func 28) #[] #[])]) (by exact ⟨rfl, rfl, trivial⟩)
 refine wp_seq ?_
 refine wp_seq ?_
 refine wp_region_lit ?_
 refine wl_pure (l' := [(6, v0), (0, v0), (1, .func (.func 28) #[] #[])]) S tys tys_ok 1 (by kernel_rfl) ?_
 clear S; intro a S
 refine w_go S rfl (op_len (K := _) S rfl ty35 rfl rfl rfl R0 ?_)
 clear S; intro a G_1 S
 refine wl_pure (l' := [(8, .int .i64 0), (7, .int .i64 (lenI x0)), (6, v0), (0, v0), (1, .func (.func 28) #[] #[])]) S tys tys_ok 1 (by kernel_rfl) ?_
 clear S; intro a S
 refine wpList_nil ?_
 refine then_n ?_
 replace S := S.sub (l' := [(8, .int .i64 0), (7, .int .i64 (lenI x0)), (0, v0), (1, .func (.func 28) #[] #[])]) (by exact ⟨rfl, rfl, rfl, rfl, trivial⟩)
 obtain ⟨y_6, ey_6, h⟩ := bindS h
 refine wp_cut_ (fun a_ w_ => ∃ s_7 : Unit, y_6 = .inl s_7 ∧ (St 19 a_ [] ∧ Wd w w_ [])) ?_ ?_
 ·refine wp_block ?_
  refine wp_loop_n (fun m_ a_ w_ => ∃ (c_2 : Int) , St 19 a_ [(8, .int .i64 c_2), (7, .int .i64 (lenI x0)), (0, v0), (1, .func (.func 28) #[] #[])] ∧ Wd w w_ [] ∧ InR .i64 c_2 ∧ RepV (.sl (.int .u8)) w_ (Kx K w.heap.size []) v0 x0 ∧ p43_28_l1 n x0 m_ c_2 = some y_6) n ?_ ?_
  ·skip
   exact ⟨0, ⟨S.sub (by exact ⟨rfl, rfl, rfl, rfl, trivial⟩), W, (by decide), R0, ey_6⟩⟩
  ·clear S W; rintro m_8 a w_10 ⟨c_2, S, W, G_3, R0, hl_9⟩
   cases m_8 with
   | zero => exact absurd hl_9 (by simp [p43_28_l1])
   | succ m_8 =>
    refine ⟨m_8, rfl, ?_⟩
    rw [p43_28_l1] at hl_9
    refine wp_seq ?_
    refine wp_region_lit ?_
    refine wl_pure (l' := [(9, .bool (decide (c_2 < (lenI x0)))), (8, .int .i64 c_2), (7, .int .i64 (lenI x0)), (0, v0), (1, .func (.func 28) #[] #[])]) S tys tys_ok 1 (by kernel_rfl) ?_
    clear S; intro a S
    refine wpList_nil ?_
    refine then_n ?_
    refine wp_seq ?_
    refine wp_cond_split (S.eval (show ev _ _ = some (.bool (decide (c_2 < (lenI x0)))) from rfl)) ?_ ?_
    ·intro hc
     rw [if_pos hc] at hl_9
     refine wp_skip ?_
     refine then_n ?_
     replace S := S.sub (l' := [(8, .int .i64 c_2), (7, .int .i64 (lenI x0)), (0, v0), (1, .func (.func 28) #[] #[])]) (by exact ⟨rfl, rfl, rfl, rfl, trivial⟩)
     refine wp_seq ?_
     refine wp_block ?_
     refine wp_seq ?_
     refine wp_region_lit ?_
     refine wl_pure (l' := [(5, .int .i64 c_2), (10, .int .i64 c_2), (8, .int .i64 c_2), (7, .int .i64 (lenI x0)), (0, v0), (1, .func (.func 28) #[] #[])]) S tys tys_ok 2 (by kernel_rfl) ?_
     clear S; intro a S
     refine wpList_nil ?_
     refine then_n ?_
     replace S := S.sub (l' := [(5, .int .i64 c_2), (8, .int .i64 c_2), (7, .int .i64 (lenI x0)), (0, v0), (1, .func (.func 28) #[] #[])]) (by exact ⟨rfl, rfl, rfl, rfl, rfl, trivial⟩)
     refine wp_seq ?_
     refine wp_region_lit ?_
     refine wl_pure (l' := [(13, .int .i64 c_2), (12, v0), (11, .func (.func 28) #[] #[]), (5, .int .i64 c_2), (8, .int .i64 c_2), (7, .int .i64 (lenI x0)), (0, v0), (1, .func (.func 28) #[] #[])]) S tys tys_ok 3 (by kernel_rfl) ?_
     clear S; intro a S
     obtain ⟨y_11, ey_11, hl_9⟩ := bindS hl_9
     refine w_go S rfl (op_indexAddr S rfl ty35 rfl rfl rfl R0 rfl ey_11 ?_)
     clear S; intro a p_12 R_13 H_14 S
     refine w_go S rfl (op_load (t := (.int .u8)) (x := y_11) S rfl ty5 rfl rfl rfl R_13 ?_)
     clear S; intro a v_15 R_16 S
     obtain ⟨rfl, GR_16⟩ := RepV.int R_16
     obtain ⟨t_17, et_17, hl_9⟩ := bindS hl_9
     refine w_go S rfl (op_calld (vs := [.int .u8 y_11]) S rfl rfl cb28 rfl rfl rfl (c28 (Kx K w.heap.size []) n w_10 y_11 GR_16 et_17) ?_)
     rintro _ w_21 ⟨v_18, rfl, R_19, hb_20⟩; refine ⟨_, rfl, ?_⟩
     replace R_19 := RepV.back R_19 W
     clear S; intro a S
     replace R0 := R0.step hb_20
     replace W := W.step hb_20
     obtain rfl := RepV.bool R_19
     refine wpList_nil ?_
     refine then_n ?_
     replace S := S.sub (l' := [(16, .bool t_17), (5, .int .i64 c_2), (8, .int .i64 c_2), (7, .int .i64 (lenI x0)), (0, v0), (1, .func (.func 28) #[] #[])]) (by exact ⟨rfl, rfl, rfl, rfl, rfl, rfl, trivial⟩)
     refine wp_cond_split (S.eval (show ev _ _ = some (.bool t_17) from rfl)) ?_ ?_
     ·intro hc
      rw [if_pos hc] at hl_9
      refine wp_seq ?_
      refine wp_region_lit ?_
      refine wl_pureK (l' := [(4, .int .i64 c_2)]) S tys tys_ok 2 [4] (by kernel_rfl) ?_
      clear S; intro a S
      refine wpList_nil ?_
      refine then_n ?_
      refine wp_ret ?_
      refine blk_r ?_
      refine then_r ?_
      refine then_r ?_
      refine blk_r ?_
      refine then_r ?_
      refine then_r ?_
      obtain rfl := Option.some.inj hl_9
      obtain rfl := lr_inr h
      exact b_ret1 S rfl rfl ⟨_, rfl, (RepV.mkInt G_3), W.below⟩
     ·intro hc
      rw [if_neg (Bool.eq_false_iff.1 hc)] at hl_9
      refine wp_skip ?_
      refine blk_n ?_
      refine then_n ?_
      replace S := S.sub (l' := [(8, .int .i64 c_2), (7, .int .i64 (lenI x0)), (0, v0), (1, .func (.func 28) #[] #[])]) (by exact ⟨rfl, rfl, rfl, rfl, trivial⟩)
      refine wp_region_lit ?_
      obtain ⟨x_22, ex_22, hl_9⟩ := bindS hl_9
      refine w_go S rfl (op_arith S .i64 (c_2 + 1) rfl (.inl rfl) rfl rfl rfl rfl ex_22 ?_)
      clear S; intro a S
      refine wl_pure (l' := [(8, .int .i64 x_22), (18, .int .i64 x_22), (8, .int .i64 c_2), (7, .int .i64 (lenI x0)), (0, v0), (1, .func (.func 28) #[] #[])]) S tys tys_ok 1 (by kernel_rfl) ?_
      clear S; intro a S
      refine wpList_nil ?_
      refine then_n ?_
      exact ⟨x_22, ⟨S.sub (by exact ⟨rfl, rfl, rfl, rfl, trivial⟩), W, (ckI_some ex_22).2.1, R0, hl_9⟩⟩
    ·intro hc
     rw [if_neg (Bool.eq_false_iff.1 hc)] at hl_9
     refine wp_exit ?_
     refine then_x ?_
     refine then_x ?_
     refine blk_hit ?_
     refine then_n ?_
     obtain rfl := Option.some.inj hl_9
     exact ⟨_, rfl, ⟨S.sub trivial, W⟩⟩
 clear S W; rintro a w_23 ⟨s_7, rfl, S, W⟩
 replace h := lr_inl h; try dsimp only at h
 refine then_n ?_
 refine wp_seq ?_
 refine wp_region_lit ?_
 refine wl_pure (l' := [(4, .int .i64 (-1))]) S tys tys_ok 1 (by kernel_rfl) ?_
 clear S; intro a S
 refine wpList_nil ?_
 refine then_n ?_
 refine wp_ret ?_
 obtain rfl := Option.some.inj h
 exact b_ret1 S rfl rfl ⟨_, rfl, (RepV.mkInt (by decide)), W.below⟩
def p27_28 (n : Nat) (x0 : Sl (Int)) : Option ((Bool)) :=
 (p43_28 n x0).bind fun t_1 =>
 some (decide (t_1 ≥ 0))
set_option maxHeartbeats 4000000 in
set_option maxRecDepth 100000 in
/-- slices.ContainsFunc[plugboard/topologies.Path,uint8] -/
theorem c27_28 (K : Nat → Prop) (n : Nat) (w : World) (x0 : Sl (Int)) (v0 : Value) (R0 : RepV (.sl (.int .u8)) w K v0 x0) {r : (Bool)} (h : p27_28 n x0 = some r) :
  Calls Try.prog 27 #[v0, .func (.func 28) #[] #[]] w (Ret1 .bool w (Kx K w.heap.size []) r) := by
 refine enter (args := [v0, .func (.func 28) #[] #[]]) Try.func27 rfl 9 rfl rfl fun a S => ?_
 have W := Wd.start w
 replace R0 := R0.arg
 unfold p27_28 at h
 replace S : St 9 a [(0, v0), (1, .func (.func 28) #[] #[])] := S
 refine wp_seq ?_
 refine wp_region_lit ?_
 refine wl_pure (l' := [(4, .bool false), (0, v0), (1, .func (.func 28) #[] #[])]) S tys tys_ok 1 (by kernel_rfl) ?_
 clear S; intro a S
 refine wpList_nil ?_
 refine then_n ?_
 replace S := S.sub (l' := [(0, v0), (1, .func (.func 28) #[] #[])]) (by exact ⟨rfl, rfl, trivial⟩)
 refine wp_seq ?_
 refine wp_region_lit ?_
 refine wl_pure (l' := [(6, .func (.func 28) #[] #[]), (5, v0), (0, v0), (1, .func (.func 28) #[] #[])]) S tys tys_ok 2 (by kernel_rfl) ?_
 clear S; intro a S
 obtain ⟨t_1, et_1, h⟩ := bindS h
 refine w_go S rfl (op_call (vs := [v0, .func (.func 28) #[] #[]]) S rfl cb43 rfl rfl rfl (c43_28 (Kx K w.heap.size []) n w x0 _ R0 et_1) ?_)
 rintro _ w_5 ⟨v_2, rfl, R_3, hb_4⟩; refine ⟨_, rfl, ?_⟩
 replace R_3 := RepV.back R_3 W
 clear S; intro a S
 replace R0 := R0.step hb_4
 replace W := W.step hb_4
 obtain ⟨rfl, GR_3⟩ := RepV.int R_3
 refine wl_pureK (l' := [(4, .bool (decide (t_1 ≥ 0)))]) S tys tys_ok 2 [4] (by kernel_rfl) ?_
 clear S; intro a S
 refine wpList_nil ?_
 refine then_n ?_
 refine wp_ret ?_
 obtain rfl := Option.some.inj h
 exact b_ret1 S rfl rfl ⟨_, rfl, RepV.mkBool, W.below⟩
def p13 (n : Nat) (x0 : Sl (Int)) : Option ((Int)) :=
 (if (decide ((lenI x0) < 1)) = false then some (decide ((lenI x0) > 6)) else some true).bind fun q_2 =>
 (if q_2 = false then (p27_28 n x0).bind fun t_5 => some t_5 else some true).bind fun q_4 =>
 if q_4 then (some 1) else some 0
set_option maxHeartbeats 4000000 in
set_option maxRecDepth 100000 in
/-- plugboard/topologies.Check -/
theorem c13 (K : Nat → Prop) (n : Nat) (w : World) (x0 : Sl (Int)) (v0 : Value) (R0 : RepV (.sl (.int .u8)) w K v0 x0) {r : (Int)} (h : p13 n x0 = some r) :
  Calls Try.prog 13 #[v0] w (Ret1 (.int .i64) w (Kx K w.heap.size []) r) := by
 refine enter (args := [v0]) Try.func13 rfl 15 rfl rfl fun a S => ?_
 have W := Wd.start w
 replace R0 := R0.arg
 unfold p13 at h
 replace S : St 15 a [(0, v0)] := S
 refine wp_seq ?_
 refine wp_region_lit ?_
 refine wl_pure (l' := [(2, .int .i64 0), (0, v0)]) S tys tys_ok 1 (by kernel_rfl) ?_
 clear S; intro a S
 refine wpList_nil ?_
 refine then_n ?_
 replace S := S.sub (l' := [(0, v0)]) (by exact ⟨rfl, trivial⟩)
 refine wp_seq ?_
 refine wp_seq ?_
 refine wp_region_lit ?_
 refine wl_pure (l' := [(3, v0), (0, v0)]) S tys tys_ok 1 (by kernel_rfl) ?_
 clear S; intro a S
 refine w_go S rfl (op_len (K := _) S rfl ty35 rfl rfl rfl R0 ?_)
 clear S; intro a G_1 S
 refine wl_pureK (l' := [(6, .bool (decide ((lenI x0) < 1))), (0, v0)]) S tys tys_ok 2 [6, 0] (by kernel_rfl) ?_
 clear S; intro a S
 obtain ⟨q_2, eq_2, h⟩ := bindS h
 refine seg 4 (fun a_ w_ => w = w_ ∧ St 15 a_ [(10, .bool q_2), (0, v0)]) ?_ ?_
 ·by_cases hc : (decide ((lenI x0) < 1)) = false
  ·rw [if_pos hc] at eq_2; rw [hc] at S
   refine wl_pure (l' := [(7, v0), (6, .bool false), (0, v0)]) S tys tys_ok 1 (by kernel_rfl) ?_
   clear S; intro a S
   refine w_go S rfl (op_len (K := _) S rfl ty35 rfl rfl rfl R0 ?_)
   clear S; intro a G_3 S
   refine wl_pureK (l' := [(10, .bool (decide ((lenI x0) > 6))), (0, v0)]) S tys tys_ok 2 [10, 0] (by kernel_rfl) ?_
   clear S; intro a S
   obtain rfl := Option.some.inj eq_2
   exact ⟨rfl, S.sub (by exact ⟨rfl, rfl, trivial⟩)⟩
  ·rw [if_neg hc] at eq_2; rw [show (decide ((lenI x0) < 1)) = true from (by simpa using hc)] at S
   refine wl_pureK (l' := [(10, .bool true), (0, v0)]) S tys tys_ok 4 [10, 0] (by kernel_rfl) ?_
   clear S; intro a S
   obtain rfl := Option.some.inj eq_2
   exact ⟨rfl, S.sub (by exact ⟨rfl, rfl, trivial⟩)⟩
 clear S eq_2; rintro a _ ⟨rfl, S⟩
 refine wl_pure (l' := [(11, .bool q_2), (10, .bool q_2), (0, v0)]) S tys tys_ok 1 (by kernel_rfl) ?_
 clear S; intro a S
 obtain ⟨q_4, eq_4, h⟩ := bindS h
 refine seg 3 (fun a_ w_ => St 15 a_ [(14, .bool q_4)] ∧ Wd w w_ []) ?_ ?_
 ·by_cases hc : q_2 = false
  ·rw [if_pos hc] at eq_4; rw [hc] at S
   refine wl_pure (l' := [(12, v0), (11, .bool false), (10, .bool false), (0, v0)]) S tys tys_ok 1 (by kernel_rfl) ?_
   clear S; intro a S
   obtain ⟨t_5, et_5, eq_4⟩ := bindS eq_4
   refine w_go S rfl (op_call (vs := [v0, .func (.func 28) #[] #[]]) S rfl cb27 rfl rfl rfl (c27_28 (Kx K w.heap.size []) n w x0 _ R0 et_5) ?_)
   rintro _ w_9 ⟨v_6, rfl, R_7, hb_8⟩; refine ⟨_, rfl, ?_⟩
   replace R_7 := RepV.back R_7 W
   clear S; intro a S
   replace R0 := R0.step hb_8
   replace W := W.step hb_8
   obtain rfl := RepV.bool R_7
   refine wl_pureK (l' := [(14, .bool t_5)]) S tys tys_ok 1 [14] (by kernel_rfl) ?_
   clear S; intro a S
   obtain rfl := Option.some.inj eq_4
   exact ⟨S.sub (by exact ⟨rfl, trivial⟩), W⟩
  ·rw [if_neg hc] at eq_4; rw [show q_2 = true from (by simpa using hc)] at S
   refine wl_pureK (l' := [(14, .bool true)]) S tys tys_ok 3 [14] (by kernel_rfl) ?_
   clear S; intro a S
   obtain rfl := Option.some.inj eq_4
   exact ⟨S.sub (by exact ⟨rfl, trivial⟩), W⟩
 clear S W eq_4; rintro a w_10 ⟨S, W⟩
 refine wpList_nil ?_
 refine then_n ?_
 refine wp_cond_split (S.eval (show ev _ _ = some (.bool q_4) from rfl)) ?_ ?_
 ·intro hc
  rw [if_pos hc] at h
  refine wp_seq ?_
  refine wp_region_lit ?_
  refine wl_pure (l' := [(2, .int .i64 1), (14, .bool q_4)]) S tys tys_ok 1 (by kernel_rfl) ?_
  clear S; intro a S
  refine wpList_nil ?_
  refine then_n ?_
  replace S := S.sub (l' := [(2, .int .i64 1)]) (by exact ⟨rfl, trivial⟩)
  refine wp_ret ?_
  refine then_r ?_
  obtain rfl := Option.some.inj h
  exact b_ret1 S rfl rfl ⟨_, rfl, (RepV.mkInt (by decide)), W.below⟩
 ·intro hc
  rw [if_neg (Bool.eq_false_iff.1 hc)] at h
  refine wp_skip ?_
  refine then_n ?_
  replace S := S.sub (l' := []) trivial
  refine wp_seq ?_
  refine wp_region_lit ?_
  refine wl_pure (l' := [(2, .int .i64 0)]) S tys tys_ok 1 (by kernel_rfl) ?_
  clear S; intro a S
  refine wpList_nil ?_
  refine then_n ?_
  refine wp_ret ?_
  obtain rfl := Option.some.inj h
  exact b_ret1 S rfl rfl ⟨_, rfl, (RepV.mkInt (by decide)), W.below⟩
theorem cb13 : callB Try.prog 13 = true := by kernel_rfl
def p50 (n : Nat) (x0 : Int) : Option ((Bool)) :=
 some (x0 != x0)
set_option maxHeartbeats 4000000 in
set_option maxRecDepth 100000 in
/-- cmp.isNaN[uint8] -/
theorem c50 (K : Nat → Prop) (n : Nat) (w : World) (x0 : Int) (G0 : InR .u8 x0) {r : (Bool)} (h : p50 n x0 = some r) :
  Calls Try.prog 50 #[.int .u8 x0] w (Ret1 .bool w (Kx K w.heap.size []) r) := by
 refine enter (args := [.int .u8 x0]) Try.func50 rfl 6 rfl rfl fun a S => ?_
 have W := Wd.start w
 unfold p50 at h
 replace S : St 6 a [(0, .int .u8 x0)] := S
 refine wp_seq ?_
 refine wp_region_lit ?_
 refine wl_pure (l' := [(2, .bool false), (0, .int .u8 x0)]) S tys tys_ok 1 (by kernel_rfl) ?_
 clear S; intro a S
 refine wpList_nil ?_
 refine then_n ?_
 replace S := S.sub (l' := [(0, .int .u8 x0)]) (by exact ⟨rfl, trivial⟩)
 refine wp_seq ?_
 refine wp_region_lit ?_
 refine wl_pureK (l' := [(2, .bool (x0 != x0))]) S tys tys_ok 4 [2] (by kernel_rfl) ?_
 clear S; intro a S
 refine wpList_nil ?_
 refine then_n ?_
 refine wp_ret ?_
 obtain rfl := Option.some.inj h
 exact b_ret1 S rfl rfl ⟨_, rfl, RepV.mkBool, W.below⟩
theorem cb50 : callB Try.prog 50 = true := by kernel_rfl
def p49 (n : Nat) (x0 : Int) (x1 : Int) : Option ((Int)) :=
 (p50 n x0).bind fun t_1 =>
 (p50 n x1).bind fun t_6 =>
 if t_1 then (if t_6 then (some 0) else some (-1)) else if t_6 then (some 1) else if (decide (x0 < x1)) then (some (-1)) else if (decide (x0 > x1)) then (some 1) else some 0
set_option maxHeartbeats 4000000 in
set_option maxRecDepth 100000 in
/-- cmp.Compare[uint8] -/
theorem c49 (K : Nat → Prop) (n : Nat) (w : World) (x0 : Int) (G0 : InR .u8 x0) (x1 : Int) (G1 : InR .u8 x1) {r : (Int)} (h : p49 n x0 x1 = some r) :
  Calls Try.prog 49 #[.int .u8 x0, .int .u8 x1] w (Ret1 (.int .i64) w (Kx K w.heap.size []) r) := by
 refine enter (args := [.int .u8 x0, .int .u8 x1]) Try.func49 rfl 20 rfl rfl fun a S => ?_
 have W := Wd.start w
 unfold p49 at h
 replace S : St 20 a [(0, .int .u8 x0), (1, .int .u8 x1)] := S
 refine wp_seq ?_
 refine wp_region_lit ?_
 refine wl_pure (l' := [(4, .int .i64 0), (0, .int .u8 x0), (1, .int .u8 x1)]) S tys tys_ok 1 (by kernel_rfl) ?_
 clear S; intro a S
 refine wpList_nil ?_
 refine then_n ?_
 replace S := S.sub (l' := [(0, .int .u8 x0), (1, .int .u8 x1)]) (by exact ⟨rfl, rfl, trivial⟩)
 refine wp_seq ?_
 refine wp_region_lit ?_
 refine wl_pure (l' := [(7, .int .u8 x0), (0, .int .u8 x0), (1, .int .u8 x1)]) S tys tys_ok 1 (by kernel_rfl) ?_
 clear S; intro a S
 obtain ⟨t_1, et_1, h⟩ := bindS h
 refine w_go S rfl (op_call (vs := [.int .u8 x0]) S rfl cb50 rfl rfl rfl (c50 (Kx K w.heap.size []) n w x0 G0 et_1) ?_)
 rintro _ w_5 ⟨v_2, rfl, R_3, hb_4⟩; refine ⟨_, rfl, ?_⟩
 replace R_3 := RepV.back R_3 W
 clear S; intro a S
 replace W := W.step hb_4
 obtain rfl := RepV.bool R_3
 refine wl_pure (l' := [(5, .bool t_1), (8, .bool t_1), (7, .int .u8 x0), (0, .int .u8 x0), (1, .int .u8 x1)]) S tys tys_ok 1 (by kernel_rfl) ?_
 clear S; intro a S
 refine wpList_nil ?_
 refine then_n ?_
 replace S := S.sub (l' := [(5, .bool t_1), (0, .int .u8 x0), (1, .int .u8 x1)]) (by exact ⟨rfl, rfl, rfl, trivial⟩)
 refine wp_seq ?_
 refine wp_region_lit ?_
 refine wl_pure (l' := [(9, .int .u8 x1), (5, .bool t_1), (0, .int .u8 x0), (1, .int .u8 x1)]) S tys tys_ok 1 (by kernel_rfl) ?_
 clear S; intro a S
 obtain ⟨t_6, et_6, h⟩ := bindS h
 refine w_go S rfl (op_call (vs := [.int .u8 x1]) S rfl cb50 rfl rfl rfl (c50 (Kx K w.heap.size []) n w_5 x1 G1 et_6) ?_)
 rintro _ w_10 ⟨v_7, rfl, R_8, hb_9⟩; refine ⟨_, rfl, ?_⟩
 replace R_8 := RepV.back R_8 W
 clear S; intro a S
 replace W := W.step hb_9
 obtain rfl := RepV.bool R_8
 refine wl_pure (l' := [(6, .bool t_6), (10, .bool t_6), (9, .int .u8 x1), (5, .bool t_1), (0, .int .u8 x0), (1, .int .u8 x1)]) S tys tys_ok 1 (by kernel_rfl) ?_
 clear S; intro a S
 refine wpList_nil ?_
 refine then_n ?_
 replace S := S.sub (l' := [(6, .bool t_6), (5, .bool t_1), (0, .int .u8 x0), (1, .int .u8 x1)]) (by exact ⟨rfl, rfl, rfl, rfl, trivial⟩)
 refine wp_seq ?_
 refine wp_seq ?_
 refine wp_region_lit ?_
 refine wl_pure (l' := [(11, .bool t_1), (6, .bool t_6), (5, .bool t_1), (0, .int .u8 x0), (1, .int .u8 x1)]) S tys tys_ok 1 (by kernel_rfl) ?_
 clear S; intro a S
 refine wpList_nil ?_
 refine then_n ?_
 replace S := S.sub (l' := [(11, .bool t_1), (6, .bool t_6), (0, .int .u8 x0), (1, .int .u8 x1)]) (by exact ⟨rfl, rfl, rfl, rfl, trivial⟩)
 refine wp_cond_split (S.eval (show ev _ _ = some (.bool t_1) from rfl)) ?_ ?_
 ·intro hc
  rw [if_pos hc] at h
  refine wp_seq ?_
  refine wp_seq ?_
  refine wp_region_lit ?_
  refine wl_pureK (l' := [(12, .bool t_6)]) S tys tys_ok 1 [12] (by kernel_rfl) ?_
  clear S; intro a S
  refine wpList_nil ?_
  refine then_n ?_
  refine wp_cond_split (S.eval (show ev _ _ = some (.bool t_6) from rfl)) ?_ ?_
  ·intro hc
   rw [if_pos hc] at h
   refine wp_seq ?_
   refine wp_region_lit ?_
   refine wl_pure (l' := [(4, .int .i64 0), (12, .bool t_6)]) S tys tys_ok 1 (by kernel_rfl) ?_
   clear S; intro a S
   refine wpList_nil ?_
   refine then_n ?_
   replace S := S.sub (l' := [(4, .int .i64 0)]) (by exact ⟨rfl, trivial⟩)
   refine wp_ret ?_
   refine then_r ?_
   refine then_r ?_
   obtain rfl := Option.some.inj h
   exact b_ret1 S rfl rfl ⟨_, rfl, (RepV.mkInt (by decide)), W.below⟩
  ·intro hc
   rw [if_neg (Bool.eq_false_iff.1 hc)] at h
   refine wp_skip ?_
   refine then_n ?_
   replace S := S.sub (l' := []) trivial
   refine wp_seq ?_
   refine wp_region_lit ?_
   refine wl_pure (l' := [(4, .int .i64 (-1))]) S tys tys_ok 1 (by kernel_rfl) ?_
   clear S; intro a S
   refine wpList_nil ?_
   refine then_n ?_
   refine wp_ret ?_
   refine then_r ?_
   obtain rfl := Option.some.inj h
   exact b_ret1 S rfl rfl ⟨_, rfl, (RepV.mkInt (by decide)), W.below⟩
 ·intro hc
  rw [if_neg (Bool.eq_false_iff.1 hc)] at h
  refine wp_skip ?_
  refine then_n ?_
  replace S := S.sub (l' := [(6, .bool t_6), (0, .int .u8 x0), (1, .int .u8 x1)]) (by exact ⟨rfl, rfl, rfl, trivial⟩)
  refine wp_seq ?_
  refine wp_seq ?_
  refine wp_region_lit ?_
  refine wl_pure (l' := [(13, .bool t_6), (6, .bool t_6), (0, .int .u8 x0), (1, .int .u8 x1)]) S tys tys_ok 1 (by kernel_rfl) ?_
  clear S; intro a S
  refine wpList_nil ?_
  refine then_n ?_
  replace S := S.sub (l' := [(13, .bool t_6), (0, .int .u8 x0), (1, .int .u8 x1)]) (by exact ⟨rfl, rfl, rfl, trivial⟩)
  refine wp_cond_split (S.eval (show ev _ _ = some (.bool t_6) from rfl)) ?_ ?_
  ·intro hc
   rw [if_pos hc] at h
   refine wp_seq ?_
   refine wp_region_lit ?_
   refine wl_pureK (l' := [(4, .int .i64 1)]) S tys tys_ok 1 [4] (by kernel_rfl) ?_
   clear S; intro a S
   refine wpList_nil ?_
   refine then_n ?_
   refine wp_ret ?_
   refine then_r ?_
   obtain rfl := Option.some.inj h
   exact b_ret1 S rfl rfl ⟨_, rfl, (RepV.mkInt (by decide)), W.below⟩
  ·intro hc
   rw [if_neg (Bool.eq_false_iff.1 hc)] at h
   refine wp_skip ?_
   refine then_n ?_
   replace S := S.sub (l' := [(0, .int .u8 x0), (1, .int .u8 x1)]) (by exact ⟨rfl, rfl, trivial⟩)
   refine wp_seq ?_
   refine wp_seq ?_
   refine wp_region_lit ?_
   refine wl_pure (l' := [(16, .bool (decide (x0 < x1))), (15, .int .u8 x1), (14, .int .u8 x0), (0, .int .u8 x0), (1, .int .u8 x1)]) S tys tys_ok 3 (by kernel_rfl) ?_
   clear S; intro a S
   refine wpList_nil ?_
   refine then_n ?_
   replace S := S.sub (l' := [(16, .bool (decide (x0 < x1))), (0, .int .u8 x0), (1, .int .u8 x1)]) (by exact ⟨rfl, rfl, rfl, trivial⟩)
   refine wp_cond_split (S.eval (show ev _ _ = some (.bool (decide (x0 < x1))) from rfl)) ?_ ?_
   ·intro hc
    rw [if_pos hc] at h
    refine wp_seq ?_
    refine wp_region_lit ?_
    refine wl_pureK (l' := [(4, .int .i64 (-1))]) S tys tys_ok 1 [4] (by kernel_rfl) ?_
    clear S; intro a S
    refine wpList_nil ?_
    refine then_n ?_
    refine wp_ret ?_
    refine then_r ?_
    obtain rfl := Option.some.inj h
    exact b_ret1 S rfl rfl ⟨_, rfl, (RepV.mkInt (by decide)), W.below⟩
   ·intro hc
    rw [if_neg (Bool.eq_false_iff.1 hc)] at h
    refine wp_skip ?_
    refine then_n ?_
    replace S := S.sub (l' := [(0, .int .u8 x0), (1, .int .u8 x1)]) (by exact ⟨rfl, rfl, trivial⟩)
    refine wp_seq ?_
    refine wp_seq ?_
    refine wp_region_lit ?_
    refine wl_pureK (l' := [(19, .bool (decide (x0 > x1)))]) S tys tys_ok 3 [19] (by kernel_rfl) ?_
    clear S; intro a S
    refine wpList_nil ?_
    refine then_n ?_
    refine wp_cond_split (S.eval (show ev _ _ = some (.bool (decide (x0 > x1))) from rfl)) ?_ ?_
    ·intro hc
     rw [if_pos hc] at h
     refine wp_seq ?_
     refine wp_region_lit ?_
     refine wl_pure (l' := [(4, .int .i64 1), (19, .bool (decide (x0 > x1)))]) S tys tys_ok 1 (by kernel_rfl) ?_
     clear S; intro a S
     refine wpList_nil ?_
     refine then_n ?_
     replace S := S.sub (l' := [(4, .int .i64 1)]) (by exact ⟨rfl, trivial⟩)
     refine wp_ret ?_
     refine then_r ?_
     obtain rfl := Option.some.inj h
     exact b_ret1 S rfl rfl ⟨_, rfl, (RepV.mkInt (by decide)), W.below⟩
    ·intro hc
     rw [if_neg (Bool.eq_false_iff.1 hc)] at h
     refine wp_skip ?_
     refine then_n ?_
     replace S := S.sub (l' := []) trivial
     refine wp_seq ?_
     refine wp_region_lit ?_
     refine wl_pure (l' := [(4, .int .i64 0)]) S tys tys_ok 1 (by kernel_rfl) ?_
     clear S; intro a S
     refine wpList_nil ?_
     refine then_n ?_
     refine wp_ret ?_
     obtain rfl := Option.some.inj h
     exact b_ret1 S rfl rfl ⟨_, rfl, (RepV.mkInt (by decide)), W.below⟩
theorem cb49 : callB Try.prog 49 = true := by kernel_rfl
def p47_l1 (n : Nat) (x0 : Sl (Int)) (x1 : Sl (Int)) : Nat → (Int) → Option ((Unit) ⊕ ((Int)))
 | 0, _ => .none
 | m + 1, c_2 => if (decide (c_2 < (lenI x0))) then ((idx x0.xs c_2).bind fun y_11 => if (decide (c_2 ≥ (lenI x1))) then (some (.inr 1)) else (idx x1.xs c_2).bind fun y_18 => (p49 n y_11 y_18).bind fun t_24 => if (t_24 != 0) then (some (.inr t_24)) else (ckI .i64 (c_2 + 1)).bind fun x_29 => p47_l1 n x0 x1 m x_29) else some (.inl ())
def p47 (n : Nat) (x0 : Sl (Int)) (x1 : Sl (Int)) : Option ((Int)) :=
 (p47_l1 n x0 x1 n 0).bind fun (y_6 : (Unit) ⊕ ((Int))) =>
 lrK y_6 some fun (s_7 : Unit) =>
 if (decide ((lenI x0) < (lenI x1))) then (some (-1)) else some 0
set_option maxHeartbeats 4000000 in
set_option maxRecDepth 100000 in
/-- slices.Compare[plugboard/topologies.Path,uint8] -/
theorem c47 (K : Nat → Prop) (n : Nat) (w : World) (x0 : Sl (Int)) (v0 : Value) (R0 : RepV (.sl (.int .u8)) w K v0 x0) (x1 : Sl (Int)) (v1 : Value) (R1 : RepV (.sl (.int .u8)) w K v1 x1) {r : (Int)} (h : p47 n x0 x1 = some r) :
  Calls Try.prog 47 #[v0, v1] w (Ret1 (.int .i64) w (Kx K w.heap.size []) r) := by
 refine enter (args := [v0, v1]) Try.func47 rfl 36 rfl rfl fun a S => ?_
 have W := Wd.start w
 replace R0 := R0.arg
 replace R1 := R1.arg
 unfold p47 at h
 replace S : St 36 a [(0, v0), (1, v1)] := S
 refine wp_seq ?_
 refine wp_region_lit ?_
 refine wl_pure (l' := [(4, .int .i64 0), (0, v0), (1, v1)]) S tys tys_ok 1 (by kernel_rfl) ?_
 clear S; intro a S
 refine wpList_nil ?_
 refine then_n ?_
 replace S := S.sub (l' := [(0, v0), (1, v1)]) (by exact ⟨rfl, rfl, trivial⟩)
 refine wp_seq ?_
 refine wp_seq ?_
 refine wp_region_lit ?_
 refine wl_pure (l' := [(9, v0), (0, v0), (1, v1)]) S tys tys_ok 1 (by kernel_rfl) ?_
 clear S; intro a S
 refine w_go S rfl (op_len (K := _) S rfl ty35 rfl rfl rfl R0 ?_)
 clear S; intro a G_1 S
 refine wl_pure (l' := [(11, .int .i64 0), (10, .int .i64 (lenI x0)), (9, v0), (0, v0), (1, v1)]) S tys tys_ok 1 (by kernel_rfl) ?_
 clear S; intro a S
 refine wpList_nil ?_
 refine then_n ?_
 obtain ⟨y_6, ey_6, h⟩ := bindS h
 refine wp_cut_ (fun a_ w_ => ∃ s_7 : Unit, y_6 = .inl s_7 ∧ (St 36 a_ [(0, v0), (1, v1)] ∧ Wd w w_ [] ∧ RepV (.sl (.int .u8)) w_ (Kx K w.heap.size []) v0 x0 ∧ RepV (.sl (.int .u8)) w_ (Kx K w.heap.size []) v1 x1)) ?_ ?_
 ·refine wp_block ?_
  refine wp_loop_n (fun m_ a_ w_ => ∃ (c_2 : Int) , St 36 a_ [(11, .int .i64 c_2), (10, .int .i64 (lenI x0)), (9, v0), (0, v0), (1, v1)] ∧ Wd w w_ [] ∧ InR .i64 c_2 ∧ RepV (.sl (.int .u8)) w_ (Kx K w.heap.size []) v0 x0 ∧ RepV (.sl (.int .u8)) w_ (Kx K w.heap.size []) v1 x1 ∧ p47_l1 n x0 x1 m_ c_2 = some y_6) n ?_ ?_
  ·skip
   exact ⟨0, ⟨S.sub (by exact ⟨rfl, rfl, rfl, rfl, rfl, trivial⟩), W, (by decide), R0, R1, ey_6⟩⟩
  ·clear S W; rintro m_8 a w_10 ⟨c_2, S, W, G_3, R0, R1, hl_9⟩
   cases m_8 with
   | zero => exact absurd hl_9 (by simp [p47_l1])
   | succ m_8 =>
    refine ⟨m_8, rfl, ?_⟩
    rw [p47_l1] at hl_9
    refine wp_seq ?_
    refine wp_region_lit ?_
    refine wl_pure (l' := [(12, .bool (decide (c_2 < (lenI x0)))), (11, .int .i64 c_2), (10, .int .i64 (lenI x0)), (9, v0), (0, v0), (1, v1)]) S tys tys_ok 1 (by kernel_rfl) ?_
    clear S; intro a S
    refine wpList_nil ?_
    refine then_n ?_
    refine wp_seq ?_
    refine wp_cond_split (S.eval (show ev _ _ = some (.bool (decide (c_2 < (lenI x0)))) from rfl)) ?_ ?_
    ·intro hc
     rw [if_pos hc] at hl_9
     refine wp_skip ?_
     refine then_n ?_
     replace S := S.sub (l' := [(11, .int .i64 c_2), (10, .int .i64 (lenI x0)), (9, v0), (0, v0), (1, v1)]) (by exact ⟨rfl, rfl, rfl, rfl, rfl, trivial⟩)
     refine wp_seq ?_
     refine wp_block ?_
     refine wp_seq ?_
     refine wp_region_lit ?_
     refine wl_pure (l' := [(13, .int .i64 c_2), (11, .int .i64 c_2), (10, .int .i64 (lenI x0)), (9, v0), (0, v0), (1, v1)]) S tys tys_ok 1 (by kernel_rfl) ?_
     clear S; intro a S
     obtain ⟨y_11, ey_11, hl_9⟩ := bindS hl_9
     refine w_go S rfl (op_indexAddr S rfl ty35 rfl rfl rfl R0 rfl ey_11 ?_)
     clear S; intro a p_12 R_13 H_14 S
     refine w_go S rfl (op_load (t := (.int .u8)) (x := y_11) S rfl ty5 rfl rfl rfl R_13 ?_)
     clear S; intro a v_15 R_16 S
     obtain ⟨rfl, GR_16⟩ := RepV.int R_16
     refine wl_pureK (l' := [(6, .int .u8 y_11), (5, .int .i64 c_2), (11, .int .i64 c_2), (10, .int .i64 (lenI x0)), (9, v0), (0, v0), (1, v1)]) S tys tys_ok 2 [6, 5, 11, 10, 9, 0, 1] (by kernel_rfl) ?_
     clear S; intro a S
     refine wpList_nil ?_
     refine then_n ?_
     refine wp_seq ?_
     refine wp_seq ?_
     refine wp_region_lit ?_
     refine wl_pure (l' := [(17, v1), (16, .int .i64 c_2), (6, .int .u8 y_11), (5, .int .i64 c_2), (11, .int .i64 c_2), (10, .int .i64 (lenI x0)), (9, v0), (0, v0), (1, v1)]) S tys tys_ok 2 (by kernel_rfl) ?_
     clear S; intro a S
     refine w_go S rfl (op_len (K := _) S rfl ty35 rfl rfl rfl R1 ?_)
     clear S; intro a G_17 S
     refine wl_pureK (l' := [(19, .bool (decide (c_2 ≥ (lenI x1)))), (6, .int .u8 y_11), (5, .int .i64 c_2), (11, .int .i64 c_2), (10, .int .i64 (lenI x0)), (9, v0), (0, v0), (1, v1)]) S tys tys_ok 1 [19, 6, 5, 11, 10, 9, 0, 1] (by kernel_rfl) ?_
     clear S; intro a S
     refine wpList_nil ?_
     refine then_n ?_
     refine wp_cond_split (S.eval (show ev _ _ = some (.bool (decide (c_2 ≥ (lenI x1)))) from rfl)) ?_ ?_
     ·intro hc
      rw [if_pos hc] at hl_9
      refine wp_seq ?_
      refine wp_region_lit ?_
      refine wl_pureK (l' := [(4, .int .i64 1)]) S tys tys_ok 1 [4] (by kernel_rfl) ?_
      clear S; intro a S
      refine wpList_nil ?_
      refine then_n ?_
      refine wp_ret ?_
      refine then_r ?_
      refine blk_r ?_
      refine then_r ?_
      refine then_r ?_
      refine blk_r ?_
      refine then_r ?_
      refine then_r ?_
      obtain rfl := Option.some.inj hl_9
      obtain rfl := lr_inr h
      exact b_ret1 S rfl rfl ⟨_, rfl, (RepV.mkInt (by decide)), W.below⟩
     ·intro hc
      rw [if_neg (Bool.eq_false_iff.1 hc)] at hl_9
      refine wp_skip ?_
      refine then_n ?_
      replace S := S.sub (l' := [(6, .int .u8 y_11), (5, .int .i64 c_2), (11, .int .i64 c_2), (10, .int .i64 (lenI x0)), (9, v0), (0, v0), (1, v1)]) (by exact ⟨rfl, rfl, rfl, rfl, rfl, rfl, rfl, trivial⟩)
      refine wp_seq ?_
      refine wp_region_lit ?_
      refine wl_pure (l' := [(21, .int .i64 c_2), (20, v1), (6, .int .u8 y_11), (5, .int .i64 c_2), (11, .int .i64 c_2), (10, .int .i64 (lenI x0)), (9, v0), (0, v0), (1, v1)]) S tys tys_ok 2 (by kernel_rfl) ?_
      clear S; intro a S
      obtain ⟨y_18, ey_18, hl_9⟩ := bindS hl_9
      refine w_go S rfl (op_indexAddr S rfl ty35 rfl rfl rfl R1 rfl ey_18 ?_)
      clear S; intro a p_19 R_20 H_21 S
      refine w_go S rfl (op_load (t := (.int .u8)) (x := y_18) S rfl ty5 rfl rfl rfl R_20 ?_)
      clear S; intro a v_22 R_23 S
      obtain ⟨rfl, GR_23⟩ := RepV.int R_23
      refine wl_pureK (l' := [(7, .int .u8 y_18), (6, .int .u8 y_11), (11, .int .i64 c_2), (10, .int .i64 (lenI x0)), (9, v0), (0, v0), (1, v1)]) S tys tys_ok 1 [7, 6, 11, 10, 9, 0, 1] (by kernel_rfl) ?_
      clear S; intro a S
      refine wpList_nil ?_
      refine then_n ?_
      refine wp_seq ?_
      refine wp_region_lit ?_
      refine wl_pure (l' := [(25, .int .u8 y_18), (24, .int .u8 y_11), (7, .int .u8 y_18), (6, .int .u8 y_11), (11, .int .i64 c_2), (10, .int .i64 (lenI x0)), (9, v0), (0, v0), (1, v1)]) S tys tys_ok 2 (by kernel_rfl) ?_
      clear S; intro a S
      obtain ⟨t_24, et_24, hl_9⟩ := bindS hl_9
      refine w_go S rfl (op_call (vs := [.int .u8 y_11, .int .u8 y_18]) S rfl cb49 rfl rfl rfl (c49 (Kx K w.heap.size []) n w_10 y_11 GR_16 y_18 GR_23 et_24) ?_)
      rintro _ w_28 ⟨v_25, rfl, R_26, hb_27⟩; refine ⟨_, rfl, ?_⟩
      replace R_26 := RepV.back R_26 W
      clear S; intro a S
      replace R0 := R0.step hb_27
      replace R1 := R1.step hb_27
      replace W := W.step hb_27
      obtain ⟨rfl, GR_26⟩ := RepV.int R_26
      refine wl_pureK (l' := [(8, .int .i64 t_24), (11, .int .i64 c_2), (10, .int .i64 (lenI x0)), (9, v0), (0, v0), (1, v1)]) S tys tys_ok 1 [8, 11, 10, 9, 0, 1] (by kernel_rfl) ?_
      clear S; intro a S
      refine wpList_nil ?_
      refine then_n ?_
      refine wp_seq ?_
      refine wp_region_lit ?_
      refine wl_pure (l' := [(28, .bool (t_24 != 0)), (27, .int .i64 t_24), (8, .int .i64 t_24), (11, .int .i64 c_2), (10, .int .i64 (lenI x0)), (9, v0), (0, v0), (1, v1)]) S tys tys_ok 2 (by kernel_rfl) ?_
      clear S; intro a S
      refine wpList_nil ?_
      refine then_n ?_
      replace S := S.sub (l' := [(28, .bool (t_24 != 0)), (8, .int .i64 t_24), (11, .int .i64 c_2), (10, .int .i64 (lenI x0)), (9, v0), (0, v0), (1, v1)]) (by exact ⟨rfl, rfl, rfl, rfl, rfl, rfl, rfl, trivial⟩)
      refine wp_cond_split (S.eval (show ev _ _ = some (.bool (t_24 != 0)) from rfl)) ?_ ?_
      ·intro hc
       rw [if_pos hc] at hl_9
       refine wp_seq ?_
       refine wp_region_lit ?_
       refine wl_pureK (l' := [(4, .int .i64 t_24)]) S tys tys_ok 2 [4] (by kernel_rfl) ?_
       clear S; intro a S
       refine wpList_nil ?_
       refine then_n ?_
       refine wp_ret ?_
       refine blk_r ?_
       refine then_r ?_
       refine then_r ?_
       refine blk_r ?_
       refine then_r ?_
       refine then_r ?_
       obtain rfl := Option.some.inj hl_9
       obtain rfl := lr_inr h
       exact b_ret1 S rfl rfl ⟨_, rfl, (RepV.mkInt GR_26), W.below⟩
      ·intro hc
       rw [if_neg (Bool.eq_false_iff.1 hc)] at hl_9
       refine wp_skip ?_
       refine blk_n ?_
       refine then_n ?_
       replace S := S.sub (l' := [(11, .int .i64 c_2), (10, .int .i64 (lenI x0)), (9, v0), (0, v0), (1, v1)]) (by exact ⟨rfl, rfl, rfl, rfl, rfl, trivial⟩)
       refine wp_region_lit ?_
       obtain ⟨x_29, ex_29, hl_9⟩ := bindS hl_9
       refine w_go S rfl (op_arith S .i64 (c_2 + 1) rfl (.inl rfl) rfl rfl rfl rfl ex_29 ?_)
       clear S; intro a S
       refine wl_pure (l' := [(11, .int .i64 x_29), (30, .int .i64 x_29), (11, .int .i64 c_2), (10, .int .i64 (lenI x0)), (9, v0), (0, v0), (1, v1)]) S tys tys_ok 1 (by kernel_rfl) ?_
       clear S; intro a S
       refine wpList_nil ?_
       refine then_n ?_
       exact ⟨x_29, ⟨S.sub (by exact ⟨rfl, rfl, rfl, rfl, rfl, trivial⟩), W, (ckI_some ex_29).2.1, R0, R1, hl_9⟩⟩
    ·intro hc
     rw [if_neg (Bool.eq_false_iff.1 hc)] at hl_9
     refine wp_exit ?_
     refine then_x ?_
     refine then_x ?_
     refine blk_hit ?_
     refine then_n ?_
     obtain rfl := Option.some.inj hl_9
     exact ⟨_, rfl, ⟨S.sub (by exact ⟨rfl, rfl, trivial⟩), W, R0, R1⟩⟩
 clear S W; rintro a w_30 ⟨s_7, rfl, S, W, R0, R1⟩
 replace h := lr_inl h; try dsimp only at h
 refine then_n ?_
 refine wp_seq ?_
 refine wp_seq ?_
 refine wp_region_lit ?_
 refine wl_pure (l' := [(31, v0), (0, v0), (1, v1)]) S tys tys_ok 1 (by kernel_rfl) ?_
 clear S; intro a S
 refine w_go S rfl (op_len (K := _) S rfl ty35 rfl rfl rfl R0 ?_)
 clear S; intro a G_31 S
 refine wl_pureK (l' := [(33, v1), (32, .int .i64 (lenI x0))]) S tys tys_ok 1 [33, 32] (by kernel_rfl) ?_
 clear S; intro a S
 refine w_go S rfl (op_len (K := _) S rfl ty35 rfl rfl rfl R1 ?_)
 clear S; intro a G_32 S
 refine wl_pureK (l' := [(35, .bool (decide ((lenI x0) < (lenI x1))))]) S tys tys_ok 1 [35] (by kernel_rfl) ?_
 clear S; intro a S
 refine wpList_nil ?_
 refine then_n ?_
 refine wp_cond_split (S.eval (show ev _ _ = some (.bool (decide ((lenI x0) < (lenI x1)))) from rfl)) ?_ ?_
 ·intro hc
  rw [if_pos hc] at h
  refine wp_seq ?_
  refine wp_region_lit ?_
  refine wl_pure (l' := [(4, .int .i64 (-1)), (35, .bool (decide ((lenI x0) < (lenI x1))))]) S tys tys_ok 1 (by kernel_rfl) ?_
  clear S; intro a S
  refine wpList_nil ?_
  refine then_n ?_
  replace S := S.sub (l' := [(4, .int .i64 (-1))]) (by exact ⟨rfl, trivial⟩)
  refine wp_ret ?_
  refine then_r ?_
  obtain rfl := Option.some.inj h
  exact b_ret1 S rfl rfl ⟨_, rfl, (RepV.mkInt (by decide)), W.below⟩
 ·intro hc
  rw [if_neg (Bool.eq_false_iff.1 hc)] at h
  refine wp_skip ?_
  refine then_n ?_
  replace S := S.sub (l' := []) trivial
  refine wp_seq ?_
  refine wp_region_lit ?_
  refine wl_pure (l' := [(4, .int .i64 0)]) S tys tys_ok 1 (by kernel_rfl) ?_
  clear S; intro a S
  refine wpList_nil ?_
  refine then_n ?_
  refine wp_ret ?_
  obtain rfl := Option.some.inj h
  exact b_ret1 S rfl rfl ⟨_, rfl, (RepV.mkInt (by decide)), W.below⟩
theorem cb47 : callB Try.prog 47 = true := by kernel_rfl
def p32 (n : Nat) (x0 : Sl (Int)) (x1 : Sl (Int)) : Option ((Int)) :=
 (p47 n x0 x1).bind fun t_1 =>
 some t_1
set_option maxHeartbeats 4000000 in
set_option maxRecDepth 100000 in
/-- plugboard/topologies.Compare -/
theorem c32 (K : Nat → Prop) (n : Nat) (w : World) (x0 : Sl (Int)) (v0 : Value) (R0 : RepV (.sl (.int .u8)) w K v0 x0) (x1 : Sl (Int)) (v1 : Value) (R1 : RepV (.sl (.int .u8)) w K v1 x1) {r : (Int)} (h : p32 n x0 x1 = some r) :
  Calls Try.prog 32 #[v0, v1] w (Ret1 (.int .i64) w (Kx K w.heap.size []) r) := by
 refine enter (args := [v0, v1]) Try.func32 rfl 8 rfl rfl fun a S => ?_
 have W := Wd.start w
 replace R0 := R0.arg
 replace R1 := R1.arg
 unfold p32 at h
 replace S : St 8 a [(0, v0), (1, v1)] := S
 refine wp_seq ?_
 refine wp_region_lit ?_
 refine wl_pure (l' := [(4, .int .i64 0), (0, v0), (1, v1)]) S tys tys_ok 1 (by kernel_rfl) ?_
 clear S; intro a S
 refine wpList_nil ?_
 refine then_n ?_
 replace S := S.sub (l' := [(0, v0), (1, v1)]) (by exact ⟨rfl, rfl, trivial⟩)
 refine wp_seq ?_
 refine wp_region_lit ?_
 refine wl_pure (l' := [(6, v1), (5, v0), (0, v0), (1, v1)]) S tys tys_ok 2 (by kernel_rfl) ?_
 clear S; intro a S
 obtain ⟨t_1, et_1, h⟩ := bindS h
 refine w_go S rfl (op_call (vs := [v0, v1]) S rfl cb47 rfl rfl rfl (c47 (Kx K w.heap.size []) n w x0 _ R0 x1 _ R1 et_1) ?_)
 rintro _ w_5 ⟨v_2, rfl, R_3, hb_4⟩; refine ⟨_, rfl, ?_⟩
 replace R_3 := RepV.back R_3 W
 clear S; intro a S
 replace R0 := R0.step hb_4
 replace R1 := R1.step hb_4
 replace W := W.step hb_4
 obtain ⟨rfl, GR_3⟩ := RepV.int R_3
 refine wl_pureK (l' := [(4, .int .i64 t_1)]) S tys tys_ok 1 [4] (by kernel_rfl) ?_
 clear S; intro a S
 refine wpList_nil ?_
 refine then_n ?_
 refine wp_ret ?_
 obtain rfl := Option.some.inj h
 exact b_ret1 S rfl rfl ⟨_, rfl, (RepV.mkInt GR_3), W.below⟩
theorem cb32 : callB Try.prog 32 = true := by kernel_rfl
def p42 (n : Nat) (x0 : Sl (Int)) : Option ((Sl (Int))) :=
 (appI ([] : List (Int)) x0.xs).bind fun l_8 =>
 some (⟨l_8, capA (some 0) l_8.length⟩ : Sl (Int))
set_option maxHeartbeats 4000000 in
set_option maxRecDepth 100000 in
/-- slices.Clone[plugboard/topologies.Path,uint8] -/
theorem c42 (K : Nat → Prop) (n : Nat) (w : World) (x0 : Sl (Int)) (v0 : Value) (R0 : RepV (.sl (.int .u8)) w K v0 x0) {r : (Sl (Int))} (h : p42 n x0 = some r) :
  Calls Try.prog 42 #[v0] w (fun e_ w_ => ∃ v0_ : Value, e_ = .returned v0_ ∧ Ow (.int .u8) 5 w_ w.heap.size (Kx K w.heap.size [v0_.ownBlock]) v0_ r.xs r.cap ∧ Below w.heap.size w w_) := by
 refine enter (args := [v0]) Try.func42 rfl 8 rfl rfl fun a S => ?_
 have W := Wd.start w
 replace R0 := R0.arg
 unfold p42 at h
 replace S : St 8 a [(0, v0)] := S
 refine wp_seq ?_
 refine wp_region_lit ?_
 refine wl_pure (l' := [(2, .slice .none 0 0), (0, v0)]) S tys tys_ok 1 (by kernel_rfl) ?_
 clear S; intro a S
 refine wpList_nil ?_
 refine then_n ?_
 replace S := S.sub (l' := [(0, v0)]) (by exact ⟨rfl, trivial⟩)
 refine wp_seq ?_
 refine wp_seq ?_
 refine wp_region_lit ?_
 refine wl_pure (l' := [(3, v0), (0, v0)]) S tys tys_ok 1 (by kernel_rfl) ?_
 clear S; intro a S
 refine w_go S rfl (op_eqnil S rfl ty35 rfl rfl rfl R0 ?_)
 clear S; intro a b_1 hb_2 S
 refine wpList_nil ?_
 refine then_n ?_
 replace S := S.sub (l' := [(4, .bool b_1), (0, v0)]) (by exact ⟨rfl, rfl, trivial⟩)
 refine wp_cond_split (S.eval (show ev _ _ = some (.bool b_1) from rfl)) ?_ ?_
 ·intro hc
  have hx_ := hb_2 hc
  refine wp_seq ?_
  refine wp_region_lit ?_
  refine wl_pure (l' := [(2, .slice .none 0 0), (4, .bool b_1), (0, v0)]) S tys tys_ok 1 (by kernel_rfl) ?_
  clear S; intro a S
  refine wpList_nil ?_
  refine then_n ?_
  replace S := S.sub (l' := [(2, .slice .none 0 0)]) (by exact ⟨rfl, trivial⟩)
  refine wp_ret ?_
  refine then_r ?_
  replace W := W.more
  have O_3 : Ow (.int .u8) 5 w w.heap.size (Kx K w.heap.size [.none]) (.slice .none 0 0) ([] : List (Int)) (some 0) := Ow.nil
  obtain rfl : (⟨([] : List (Int)), some 0⟩ : Sl (Int)) = _ := by simpa [hx_, appI, capA] using h
  exact b_ret1 S rfl rfl ⟨_, rfl, (O_3.lessO 0 rfl), W.below⟩
 ·intro hc
  refine wp_skip ?_
  refine then_n ?_
  replace S := S.sub (l' := [(0, v0)]) (by exact ⟨rfl, trivial⟩)
  refine wp_seq ?_
  refine wp_region_lit ?_
  refine w_go S rfl (op_row0 (K := K) (e := (.int .u8)) (E := 5) S W rfl ty35 un35 rfl rfl ?_)
  clear S; intro a w_5 b_4 hb_6 O_7 S
  replace R0 := R0.box hb_6
  replace W := W.box hb_6
  replace O_7 : Ow (.int .u8) 5 w_5 w.heap.size (Kx K w.heap.size [some b_4]) (.slice (some ⟨b_4, 0, .none⟩) 0 0) ([] : List (Int)) (some 0) := O_7
  refine wl_pure (l' := [(6, v0), (5, (.slice (some ⟨b_4, 0, .none⟩) 0 0)), (0, v0)]) S tys tys_ok 1 (by kernel_rfl) ?_
  clear S; intro a S
  obtain ⟨l_8, el_8, h⟩ := bindS h
  refine w_go S rfl (op_append S W (E := 5) 0 rfl ty35 un35 by35 rfl rfl rfl rfl O_7 rfl R0 el_8 ?_)
  clear S; intro a w_10 v_9 A_11 O_12 S
  replace R0 : RepV (.sl (.int .u8)) w_10 (Kx K w.heap.size [v_9.ownBlock]) v0 x0 := R0.apd A_11 (i := 0) rfl
  replace W : Wd w w_10 [v_9.ownBlock] := W.apd A_11 (i := 0) rfl
  replace O_12 : Ow (.int .u8) 5 w_10 w.heap.size (Kx K w.heap.size [v_9.ownBlock]) v_9 l_8 (capA (some 0) l_8.length) := O_12
  refine wl_pureK (l' := [(2, v_9)]) S tys tys_ok 1 [2] (by kernel_rfl) ?_
  clear S; intro a S
  refine wpList_nil ?_
  refine then_n ?_
  refine wp_ret ?_
  obtain rfl := Option.some.inj h
  exact b_ret1 S rfl rfl ⟨_, rfl, (O_12.lessO 0 rfl), W.below⟩
theorem cb42 : callB Try.prog 42 = true := by kernel_rfl
def p44 (n : Nat) (x0 : Sl (Int)) : Option ((Sl (Int))) :=
 (sl3I x0 0 (lenI x0) (lenI x0)).bind fun s_5 =>
 some s_5
set_option maxHeartbeats 4000000 in
set_option maxRecDepth 100000 in
/-- slices.Clip[plugboard/topologies.Path,uint8] -/
theorem c44 (K : Nat → Prop) (n : Nat) (w : World) (x0 : Sl (Int)) (v0 : Value) (R0 : RepV (.sl (.int .u8)) w K v0 x0) {r : (Sl (Int))} (h : p44 n x0 = some r) :
  Calls Try.prog 44 #[v0] w (Ret1 (.sl (.int .u8)) w (Kx K w.heap.size []) r) := by
 refine enter (args := [v0]) Try.func44 rfl 9 rfl rfl fun a S => ?_
 have W := Wd.start w
 replace R0 := R0.arg
 unfold p44 at h
 replace S : St 9 a [(0, v0)] := S
 refine wp_seq ?_
 refine wp_region_lit ?_
 refine wl_pure (l' := [(2, .slice .none 0 0), (0, v0)]) S tys tys_ok 1 (by kernel_rfl) ?_
 clear S; intro a S
 refine wpList_nil ?_
 refine then_n ?_
 replace S := S.sub (l' := [(0, v0)]) (by exact ⟨rfl, trivial⟩)
 refine wp_seq ?_
 refine wp_region_lit ?_
 refine wl_pure (l' := [(4, v0), (3, v0), (0, v0)]) S tys tys_ok 2 (by kernel_rfl) ?_
 clear S; intro a S
 refine w_go S rfl (op_len (K := _) S rfl ty35 rfl rfl rfl R0 ?_)
 clear S; intro a G_1 S
 refine wl_pure (l' := [(6, v0), (5, .int .i64 (lenI x0)), (4, v0), (3, v0), (0, v0)]) S tys tys_ok 1 (by kernel_rfl) ?_
 clear S; intro a S
 refine w_go S rfl (op_len (K := _) S rfl ty35 rfl rfl rfl R0 ?_)
 clear S; intro a G_2 S
 obtain ⟨s_5, es_5, h⟩ := bindS h
 refine w_go S rfl (op_slice3 S rfl ty35 rfl rfl rfl R0 (.inl ⟨rfl, rfl⟩) rfl rfl es_5 ?_)
 clear S; intro a v_3 R_4 S
 refine wl_pureK (l' := [(2, v_3)]) S tys tys_ok 1 [2] (by kernel_rfl) ?_
 clear S; intro a S
 refine wpList_nil ?_
 refine then_n ?_
 refine wp_ret ?_
 obtain rfl := Option.some.inj h
 exact b_ret1 S rfl rfl ⟨_, rfl, R_4.out, W.below⟩
theorem cb44 : callB Try.prog 44 = true := by kernel_rfl
def p29 (n : Nat) (x0 : Sl (Int)) : Option ((Sl (Int)) × (Int)) :=
 if ((lenI x0) == 0) then (some ((⟨[], some 0⟩ : Sl (Int)), 0)) else (ckI .i64 ((lenI x0) - 1)).bind fun x_3 => (slI x0 0 x_3).bind fun s_6 => (p42 n s_6).bind fun t_7 => (p44 n t_7).bind fun t_12 => (idx x0.xs x_3).bind fun y_17 => some (t_12, y_17)
set_option maxHeartbeats 4000000 in
set_option maxRecDepth 100000 in
/-- plugboard/topologies.Up -/
theorem c29 (K : Nat → Prop) (n : Nat) (w : World) (x0 : Sl (Int)) (v0 : Value) (R0 : RepV (.sl (.int .u8)) w K v0 x0) {r : (Sl (Int)) × (Int)} (h : p29 n x0 = some r) :
  Calls Try.prog 29 #[v0] w (Ret2 (.sl (.int .u8)) (.int .u8) w (Kx K w.heap.size []) r) := by
 refine enter (args := [v0]) Try.func29 rfl 20 rfl rfl fun a S => ?_
 have W := Wd.start w
 replace R0 := R0.arg
 unfold p29 at h
 replace S : St 20 a [(0, v0)] := S
 refine wp_seq ?_
 refine wp_region_lit ?_
 refine wl_pure (l' := [(3, .int .u8 0), (2, .slice .none 0 0), (0, v0)]) S tys tys_ok 2 (by kernel_rfl) ?_
 clear S; intro a S
 refine wpList_nil ?_
 refine then_n ?_
 replace S := S.sub (l' := [(0, v0)]) (by exact ⟨rfl, trivial⟩)
 refine wp_seq ?_
 refine wp_seq ?_
 refine wp_region_lit ?_
 refine wl_pure (l' := [(5, v0), (0, v0)]) S tys tys_ok 1 (by kernel_rfl) ?_
 clear S; intro a S
 refine w_go S rfl (op_len (K := _) S rfl ty35 rfl rfl rfl R0 ?_)
 clear S; intro a G_1 S
 refine wl_pure (l' := [(7, .bool ((lenI x0) == 0)), (6, .int .i64 (lenI x0)), (5, v0), (0, v0)]) S tys tys_ok 1 (by kernel_rfl) ?_
 clear S; intro a S
 refine wpList_nil ?_
 refine then_n ?_
 replace S := S.sub (l' := [(7, .bool ((lenI x0) == 0)), (0, v0)]) (by exact ⟨rfl, rfl, trivial⟩)
 refine wp_cond_split (S.eval (show ev _ _ = some (.bool ((lenI x0) == 0)) from rfl)) ?_ ?_
 ·intro hc
  rw [if_pos hc] at h
  refine wp_seq ?_
  refine wp_region_lit ?_
  refine wl_pure (l' := [(3, .int .u8 0), (2, .slice .none 0 0), (7, .bool ((lenI x0) == 0)), (0, v0)]) S tys tys_ok 2 (by kernel_rfl) ?_
  clear S; intro a S
  refine wpList_nil ?_
  refine then_n ?_
  replace S := S.sub (l' := [(3, .int .u8 0), (2, .slice .none 0 0)]) (by exact ⟨rfl, rfl, trivial⟩)
  refine wp_ret ?_
  refine then_r ?_
  obtain rfl := Option.some.inj h
  exact b_ret2 S rfl rfl rfl ⟨_, _, rfl, RepV.nil, (RepV.mkInt (by decide)), W.below⟩
 ·intro hc
  rw [if_neg (Bool.eq_false_iff.1 hc)] at h
  refine wp_skip ?_
  refine then_n ?_
  replace S := S.sub (l' := [(0, v0)]) (by exact ⟨rfl, trivial⟩)
  refine wp_seq ?_
  refine wp_region_lit ?_
  refine wl_pure (l' := [(8, v0), (0, v0)]) S tys tys_ok 1 (by kernel_rfl) ?_
  clear S; intro a S
  refine w_go S rfl (op_len (K := _) S rfl ty35 rfl rfl rfl R0 ?_)
  clear S; intro a G_2 S
  obtain ⟨x_3, ex_3, h⟩ := bindS h
  refine w_go S rfl (op_arith S .i64 ((lenI x0) - 1) rfl (.inr (.inl rfl)) rfl rfl rfl rfl ex_3 ?_)
  clear S; intro a S
  refine wl_pureK (l' := [(4, .int .i64 x_3), (0, v0)]) S tys tys_ok 1 [4, 0] (by kernel_rfl) ?_
  clear S; intro a S
  refine wpList_nil ?_
  refine then_n ?_
  refine wp_seq ?_
  obtain ⟨s_6, es_6, h⟩ := bindS h
  obtain ⟨t_7, et_7, h⟩ := bindS h
  obtain ⟨t_12, et_12, h⟩ := bindS h
  obtain ⟨y_17, ey_17, h⟩ := bindS h
  have hR : Rel (Kx K w.heap.size []) Bl := Bl.rel _
  refine wp_region_all hR [isRep (.sl (.int .u8)) (Kx K w.heap.size []) x0, isI .i64 x_3, isRep (.sl (.int .u8)) (Kx K w.heap.size []) s_6, isRep (.sl (.int .u8)) (Kx K w.heap.size []) t_7, isRep (.sl (.int .u8)) (Kx K w.heap.size []) t_12, isRep (.sl (.int .u8)) (Kx K w.heap.size []) x0, isI .i64 x_3, isEl (.int .u8) (Kx K w.heap.size []) y_17, isI .u8 y_17, isRep (.sl (.int .u8)) (Kx K w.heap.size []) t_12, isI .u8 y_17] [[], [], [(0, 11), (1, 12)], [(2, 13)], [(3, 14)], [], [], [(5, 16), (6, 17)], [(7, 18)], [(4, 15)], [(8, 19)]] (by kernel_rfl) (by rw [S.size]; kernel_rfl) (by kernel_rfl) (by kernel_rfl) rfl ⟨(stab_rep hR), stab_I, (stab_rep hR), (stab_rep hR), (stab_rep hR), (stab_rep hR), stab_I, (stab_el hR), stab_I, (stab_rep hR), stab_I, trivial⟩ ?_ ?_
  ·
   refine RunAll.cons (isRep (.sl (.int .u8)) (Kx K w.heap.size []) x0) [] rfl rfl ?_ ?_
   ·intro W_ hW
    have S1 := S
    replace R0 := R0.step hW
    exact RPost.one (v := v0) S1 tys tys_ok rfl (by kernel_rfl) S.defers R0 (Below.refl _ _)
   refine RunAll.cons (isI .i64 x_3) [] rfl rfl ?_ ?_
   ·intro W_ hW
    have S1 := S
    exact RPost.one (v := .int .i64 x_3) S1 tys tys_ok rfl (by kernel_rfl) S.defers ⟨rfl, (ckI_some ex_3).2.1⟩ (Below.refl _ _)
   refine RunAll.cons (isRep (.sl (.int .u8)) (Kx K w.heap.size []) s_6) [(isRep (.sl (.int .u8)) (Kx K w.heap.size []) x0, 11), (isI .i64 x_3, 12)] rfl rfl ?_ ?_
   ·intro W_ hW
    have S1 := S
    intro v_24 hF_23; replace hF_23 : RepV _ _ _ _ _ := hF_23
    replace S1 := S1.put (by decide : 11 < 20) (v_24)
    rintro _ ⟨rfl, hF_25⟩
    replace S1 := S1.put (by decide : 12 < 20) (.int .i64 x_3)
    refine fill_nil S1 ?_; clear S1; intro a_ S1
    have S0 := S.defers; replace S := S1; clear S1
    refine w_go S rfl (op_slice S rfl ty35 rfl rfl rfl hF_23 (.inl ⟨rfl, rfl⟩) (.inr ⟨_, _, rfl, rfl⟩) es_6 ?_)
    clear S; intro a v_27 R_28 S
    refine wpList_nil ?_
    exact RPost.mk_ S rfl S0 R_28 (Below.refl _ _)
   refine RunAll.cons (isRep (.sl (.int .u8)) (Kx K w.heap.size []) t_7) [(isRep (.sl (.int .u8)) (Kx K w.heap.size []) s_6, 13)] rfl rfl ?_ ?_
   ·intro W_ hW
    have S1 := S
    intro v_30 hF_29; replace hF_29 : RepV _ _ _ _ _ := hF_29
    replace S1 := S1.put (by decide : 13 < 20) (v_30)
    refine fill_nil S1 ?_; clear S1; intro a_ S1
    replace W := W.step hW
    have S0 := S.defers; replace S := S1; clear S1
    refine w_go S rfl (op_call (vs := [v_30]) S rfl cb42 rfl rfl rfl (c42 (Kx K w.heap.size []) n W_ s_6 _ hF_29 et_7) ?_)
    rintro _ w_34 ⟨v_31, rfl, R_32, hb_33⟩; refine ⟨_, rfl, ?_⟩
    replace R_32 := Ow.pub0 R_32
    replace R_32 := RepV.back R_32 W
    clear S; intro a S
    refine wpList_nil ?_
    exact RPost.mk_ S rfl S0 R_32 (hb_33)
   refine RunAll.cons (isRep (.sl (.int .u8)) (Kx K w.heap.size []) t_12) [(isRep (.sl (.int .u8)) (Kx K w.heap.size []) t_7, 14)] rfl rfl ?_ ?_
   ·intro W_ hW
    have S1 := S
    intro v_36 hF_35; replace hF_35 : RepV _ _ _ _ _ := hF_35
    replace S1 := S1.put (by decide : 14 < 20) (v_36)
    refine fill_nil S1 ?_; clear S1; intro a_ S1
    replace W := W.step hW
    have S0 := S.defers; replace S := S1; clear S1
    refine w_go S rfl (op_call (vs := [v_36]) S rfl cb44 rfl rfl rfl (c44 (Kx K w.heap.size []) n W_ t_7 _ hF_35 et_12) ?_)
    rintro _ w_40 ⟨v_37, rfl, R_38, hb_39⟩; refine ⟨_, rfl, ?_⟩
    replace R_38 := RepV.back R_38 W
    clear S; intro a S
    refine wpList_nil ?_
    exact RPost.mk_ S rfl S0 R_38 (hb_39)
   refine RunAll.cons (isRep (.sl (.int .u8)) (Kx K w.heap.size []) x0) [] rfl rfl ?_ ?_
   ·intro W_ hW
    have S1 := S
    replace R0 := R0.step hW
    exact RPost.one (v := v0) S1 tys tys_ok rfl (by kernel_rfl) S.defers R0 (Below.refl _ _)
   refine RunAll.cons (isI .i64 x_3) [] rfl rfl ?_ ?_
   ·intro W_ hW
    have S1 := S
    exact RPost.one (v := .int .i64 x_3) S1 tys tys_ok rfl (by kernel_rfl) S.defers ⟨rfl, (ckI_some ex_3).2.1⟩ (Below.refl _ _)
   refine RunAll.cons (isEl (.int .u8) (Kx K w.heap.size []) y_17) [(isRep (.sl (.int .u8)) (Kx K w.heap.size []) x0, 16), (isI .i64 x_3, 17)] rfl rfl ?_ ?_
   ·intro W_ hW
    have S1 := S
    intro v_42 hF_41; replace hF_41 : RepV _ _ _ _ _ := hF_41
    replace S1 := S1.put (by decide : 16 < 20) (v_42)
    rintro _ ⟨rfl, hF_43⟩
    replace S1 := S1.put (by decide : 17 < 20) (.int .i64 x_3)
    refine fill_nil S1 ?_; clear S1; intro a_ S1
    replace W := W.step hW
    have S0 := S.defers; replace S := S1; clear S1
    refine w_go S rfl (op_indexAddr S rfl ty35 rfl rfl rfl hF_41 rfl ey_17 ?_)
    clear S; intro a p_45 R_46 H_47 S
    refine wpList_nil ?_
    exact RPost.mk_ S rfl S0 ⟨_, rfl, R_46, H_47⟩ (Below.refl _ _)
   refine RunAll.cons (isI .u8 y_17) [(isEl (.int .u8) (Kx K w.heap.size []) y_17, 18)] rfl rfl ?_ ?_
   ·intro W_ hW
    have S1 := S
    rintro _ ⟨p_50, rfl, R_51, H_52⟩
    replace S1 := S1.put (by decide : 18 < 20) (.pointer (some p_50))
    refine fill_nil S1 ?_; clear S1; intro a_ S1
    have S0 := S.defers; replace S := S1; clear S1
    refine w_go S rfl (op_load (t := (.int .u8)) (x := y_17) S rfl ty5 rfl rfl rfl R_51 ?_)
    clear S; intro a v_53 R_54 S
    obtain ⟨rfl, GR_54⟩ := RepV.int R_54
    refine wpList_nil ?_
    exact RPost.mk_ S rfl S0 ⟨rfl, GR_54⟩ (Below.refl _ _)
   refine RunAll.cons (isRep (.sl (.int .u8)) (Kx K w.heap.size []) t_12) [(isRep (.sl (.int .u8)) (Kx K w.heap.size []) t_12, 15)] rfl rfl ?_ ?_
   ·intro W_ hW
    have S1 := S
    intro v_56 hF_55; replace hF_55 : RepV _ _ _ _ _ := hF_55
    replace S1 := S1.put (by decide : 15 < 20) (v_56)
    exact RPost.one (v := v_56) S1 tys tys_ok rfl (by kernel_rfl) S.defers hF_55 (Below.refl _ _)
   refine RunAll.cons (isI .u8 y_17) [(isI .u8 y_17, 19)] rfl rfl ?_ ?_
   ·intro W_ hW
    have S1 := S
    rintro _ ⟨rfl, hF_57⟩
    replace S1 := S1.put (by decide : 19 < 20) (.int .u8 y_17)
    exact RPost.one (v := .int .u8 y_17) S1 tys tys_ok rfl (by kernel_rfl) S.defers ⟨rfl, hF_57⟩ (Below.refl _ _)
   exact trivial
  intro w_59 hb_60
  refine EndE.some_ rfl ?_
  intro v_62 hF_61; replace hF_61 : RepV _ _ _ _ _ := hF_61
  replace S := S.put (by decide : 11 < 20) (v_62)
  refine EndE.some_ rfl ?_
  rintro _ ⟨rfl, hF_63⟩
  replace S := S.put (by decide : 12 < 20) (.int .i64 x_3)
  refine EndE.some_ rfl ?_
  intro v_66 hF_65; replace hF_65 : RepV _ _ _ _ _ := hF_65
  replace S := S.put (by decide : 13 < 20) (v_66)
  refine EndE.some_ rfl ?_
  intro v_68 hF_67; replace hF_67 : RepV _ _ _ _ _ := hF_67
  replace S := S.put (by decide : 14 < 20) (v_68)
  refine EndE.some_ rfl ?_
  intro v_70 hF_69; replace hF_69 : RepV _ _ _ _ _ := hF_69
  replace S := S.put (by decide : 15 < 20) (v_70)
  refine EndE.some_ rfl ?_
  intro v_72 hF_71; replace hF_71 : RepV _ _ _ _ _ := hF_71
  replace S := S.put (by decide : 16 < 20) (v_72)
  refine EndE.some_ rfl ?_
  rintro _ ⟨rfl, hF_73⟩
  replace S := S.put (by decide : 17 < 20) (.int .i64 x_3)
  refine EndE.some_ rfl ?_
  rintro _ ⟨p_77, rfl, R_78, H_79⟩
  replace S := S.put (by decide : 18 < 20) (.pointer (some p_77))
  refine EndE.some_ rfl ?_
  rintro _ ⟨rfl, hF_80⟩
  replace S := S.put (by decide : 19 < 20) (.int .u8 y_17)
  refine EndE.some_ rfl ?_
  intro v_83 hF_82; replace hF_82 : RepV _ _ _ _ _ := hF_82
  replace S := S.put (by decide : 2 < 20) (v_83)
  refine EndE.some_ rfl ?_
  rintro _ ⟨rfl, hF_84⟩
  replace S := S.put (by decide : 3 < 20) (.int .u8 y_17)
  refine endE_nil S ?_; clear S; intro a S
  replace R0 := R0.step hb_60
  replace W := W.step hb_60
  refine then_n ?_
  replace S := S.sub (l' := [(3, .int .u8 y_17), (2, v_83)]) (by exact ⟨rfl, rfl, trivial⟩)
  refine wp_ret ?_
  obtain rfl := Option.some.inj h
  exact b_ret2 S rfl rfl rfl ⟨_, _, rfl, hF_82.out, (RepV.mkInt hF_84), W.below⟩
theorem cb29 : callB Try.prog 29 = true := by kernel_rfl
def p36_l1 (n : Nat) (x0 : Sl (Int)) (x1 : Sl (Int)) : Nat → (Int) → Option ((Unit) ⊕ ((Bool)))
 | 0, _ => .none
 | m + 1, c_4 => if (decide (c_4 < (lenI x0))) then ((idx x0.xs c_4).bind fun y_13 => (idx x1.xs c_4).bind fun y_19 => if (y_13 != y_19) then (some (.inr false)) else (ckI .i64 (c_4 + 1)).bind fun x_83 => p36_l1 n x0 x1 m x_83) else some (.inl ())
def p36 (n : Nat) (x0 : Sl (Int)) (x1 : Sl (Int)) : Option ((Bool)) :=
 if ((lenI x0) != (lenI x1)) then (some false) else (p36_l1 n x0 x1 n 0).bind fun (y_8 : (Unit) ⊕ ((Bool))) => lrK y_8 some fun (s_9 : Unit) => some true
set_option maxHeartbeats 4000000 in
set_option maxRecDepth 100000 in
/-- slices.Equal[plugboard/topologies.Path,uint8] -/
theorem c36 (K : Nat → Prop) (n : Nat) (w : World) (x0 : Sl (Int)) (v0 : Value) (R0 : RepV (.sl (.int .u8)) w K v0 x0) (x1 : Sl (Int)) (v1 : Value) (R1 : RepV (.sl (.int .u8)) w K v1 x1) {r : (Bool)} (h : p36 n x0 x1 = some r) :
  Calls Try.prog 36 #[v0, v1] w (Ret1 .bool w (Kx K w.heap.size []) r) := by
 refine enter (args := [v0, v1]) Try.func36 rfl 26 rfl rfl fun a S => ?_
 have W := Wd.start w
 replace R0 := R0.arg
 replace R1 := R1.arg
 unfold p36 at h
 replace S : St 26 a [(0, v0), (1, v1)] := S
 refine wp_seq ?_
 refine wp_region_lit ?_
 refine wl_pure (l' := [(4, .bool false), (0, v0), (1, v1)]) S tys tys_ok 1 (by kernel_rfl) ?_
 clear S; intro a S
 refine wpList_nil ?_
 refine then_n ?_
 replace S := S.sub (l' := [(0, v0), (1, v1)]) (by exact ⟨rfl, rfl, trivial⟩)
 refine wp_seq ?_
 refine wp_seq ?_
 refine wp_region_lit ?_
 refine wl_pure (l' := [(6, v0), (0, v0), (1, v1)]) S tys tys_ok 1 (by kernel_rfl) ?_
 clear S; intro a S
 refine w_go S rfl (op_len (K := _) S rfl ty35 rfl rfl rfl R0 ?_)
 clear S; intro a G_1 S
 refine wl_pure (l' := [(8, v1), (7, .int .i64 (lenI x0)), (6, v0), (0, v0), (1, v1)]) S tys tys_ok 1 (by kernel_rfl) ?_
 clear S; intro a S
 refine w_go S rfl (op_len (K := _) S rfl ty35 rfl rfl rfl R1 ?_)
 clear S; intro a G_2 S
 refine wl_pureK (l' := [(10, .bool ((lenI x0) != (lenI x1))), (0, v0), (1, v1)]) S tys tys_ok 1 [10, 0, 1] (by kernel_rfl) ?_
 clear S; intro a S
 refine wpList_nil ?_
 refine then_n ?_
 refine wp_cond_split (S.eval (show ev _ _ = some (.bool ((lenI x0) != (lenI x1))) from rfl)) ?_ ?_
 ·intro hc
  rw [if_pos hc] at h
  refine wp_seq ?_
  refine wp_region_lit ?_
  refine wl_pureK (l' := [(4, .bool false)]) S tys tys_ok 1 [4] (by kernel_rfl) ?_
  clear S; intro a S
  refine wpList_nil ?_
  refine then_n ?_
  refine wp_ret ?_
  refine then_r ?_
  obtain rfl := Option.some.inj h
  exact b_ret1 S rfl rfl ⟨_, rfl, RepV.mkBool, W.below⟩
 ·intro hc
  rw [if_neg (Bool.eq_false_iff.1 hc)] at h
  refine wp_skip ?_
  refine then_n ?_
  replace S := S.sub (l' := [(0, v0), (1, v1)]) (by exact ⟨rfl, rfl, trivial⟩)
  refine wp_seq ?_
  refine wp_seq ?_
  refine wp_region_lit ?_
  refine wl_pure (l' := [(11, v0), (0, v0), (1, v1)]) S tys tys_ok 1 (by kernel_rfl) ?_
  clear S; intro a S
  refine w_go S rfl (op_len (K := _) S rfl ty35 rfl rfl rfl R0 ?_)
  clear S; intro a G_3 S
  refine wl_pure (l' := [(13, .int .i64 0), (12, .int .i64 (lenI x0)), (11, v0), (0, v0), (1, v1)]) S tys tys_ok 1 (by kernel_rfl) ?_
  clear S; intro a S
  refine wpList_nil ?_
  refine then_n ?_
  replace S := S.sub (l' := [(13, .int .i64 0), (12, .int .i64 (lenI x0)), (0, v0), (1, v1)]) (by exact ⟨rfl, rfl, rfl, rfl, trivial⟩)
  obtain ⟨y_8, ey_8, h⟩ := bindS h
  refine wp_cut_ (fun a_ w_ => ∃ s_9 : Unit, y_8 = .inl s_9 ∧ (St 26 a_ [] ∧ Wd w w_ [])) ?_ ?_
  ·refine wp_block ?_
   refine wp_loop_n (fun m_ a_ w_ => ∃ (c_4 : Int) , St 26 a_ [(13, .int .i64 c_4), (12, .int .i64 (lenI x0)), (0, v0), (1, v1)] ∧ Wd w w_ [] ∧ InR .i64 c_4 ∧ RepV (.sl (.int .u8)) w_ (Kx K w.heap.size []) v0 x0 ∧ RepV (.sl (.int .u8)) w_ (Kx K w.heap.size []) v1 x1 ∧ p36_l1 n x0 x1 m_ c_4 = some y_8) n ?_ ?_
   ·skip
    exact ⟨0, ⟨S.sub (by exact ⟨rfl, rfl, rfl, rfl, trivial⟩), W, (by decide), R0, R1, ey_8⟩⟩
   ·clear S W; rintro m_10 a w_12 ⟨c_4, S, W, G_5, R0, R1, hl_11⟩
    cases m_10 with
    | zero => exact absurd hl_11 (by simp [p36_l1])
    | succ m_10 =>
     refine ⟨m_10, rfl, ?_⟩
     rw [p36_l1] at hl_11
     refine wp_seq ?_
     refine wp_region_lit ?_
     refine wl_pure (l' := [(14, .bool (decide (c_4 < (lenI x0)))), (13, .int .i64 c_4), (12, .int .i64 (lenI x0)), (0, v0), (1, v1)]) S tys tys_ok 1 (by kernel_rfl) ?_
     clear S; intro a S
     refine wpList_nil ?_
     refine then_n ?_
     refine wp_seq ?_
     refine wp_cond_split (S.eval (show ev _ _ = some (.bool (decide (c_4 < (lenI x0)))) from rfl)) ?_ ?_
     ·intro hc
      rw [if_pos hc] at hl_11
      refine wp_skip ?_
      refine then_n ?_
      replace S := S.sub (l' := [(13, .int .i64 c_4), (12, .int .i64 (lenI x0)), (0, v0), (1, v1)]) (by exact ⟨rfl, rfl, rfl, rfl, trivial⟩)
      refine wp_seq ?_
      refine wp_block ?_
      refine wp_seq ?_
      refine wp_region_lit ?_
      refine wl_pure (l' := [(5, .int .i64 c_4), (15, .int .i64 c_4), (13, .int .i64 c_4), (12, .int .i64 (lenI x0)), (0, v0), (1, v1)]) S tys tys_ok 2 (by kernel_rfl) ?_
      clear S; intro a S
      refine wpList_nil ?_
      refine then_n ?_
      replace S := S.sub (l' := [(5, .int .i64 c_4), (13, .int .i64 c_4), (12, .int .i64 (lenI x0)), (0, v0), (1, v1)]) (by exact ⟨rfl, rfl, rfl, rfl, rfl, trivial⟩)
      refine wp_seq ?_
      obtain ⟨y_13, ey_13, hl_11⟩ := bindS hl_11
      obtain ⟨y_19, ey_19, hl_11⟩ := bindS hl_11
      have hR : Rel (Kx K w.heap.size []) Bl := Bl.rel _
      refine wp_region_all hR [isRep (.sl (.int .u8)) (Kx K w.heap.size []) x0, isI .i64 c_4, isEl (.int .u8) (Kx K w.heap.size []) y_13, isI .u8 y_13, isRep (.sl (.int .u8)) (Kx K w.heap.size []) x1, isI .i64 c_4, isEl (.int .u8) (Kx K w.heap.size []) y_19, isI .u8 y_19, eqv (.bool (y_13 != y_19))] [[], [], [(0, 16), (1, 17)], [(2, 18)], [], [], [(4, 20), (5, 21)], [(6, 22)], [(3, 19), (7, 23)]] (by kernel_rfl) (by rw [S.size]; kernel_rfl) (by kernel_rfl) (by kernel_rfl) rfl ⟨(stab_rep hR), stab_I, (stab_el hR), stab_I, (stab_rep hR), stab_I, (stab_el hR), stab_I, (stab_eqv _), trivial⟩ ?_ ?_
      ·
       refine RunAll.cons (isRep (.sl (.int .u8)) (Kx K w.heap.size []) x0) [] rfl rfl ?_ ?_
       ·intro W_ hW
        have S1 := S
        replace R0 := R0.step hW
        exact RPost.one (v := v0) S1 tys tys_ok rfl (by kernel_rfl) S.defers R0 (Below.refl _ _)
       refine RunAll.cons (isI .i64 c_4) [] rfl rfl ?_ ?_
       ·intro W_ hW
        have S1 := S
        exact RPost.one (v := .int .i64 c_4) S1 tys tys_ok rfl (by kernel_rfl) S.defers ⟨rfl, G_5⟩ (Below.refl _ _)
       refine RunAll.cons (isEl (.int .u8) (Kx K w.heap.size []) y_13) [(isRep (.sl (.int .u8)) (Kx K w.heap.size []) x0, 16), (isI .i64 c_4, 17)] rfl rfl ?_ ?_
       ·intro W_ hW
        have S1 := S
        intro v_26 hF_25; replace hF_25 : RepV _ _ _ _ _ := hF_25
        replace S1 := S1.put (by decide : 16 < 26) (v_26)
        rintro _ ⟨rfl, hF_27⟩
        replace S1 := S1.put (by decide : 17 < 26) (.int .i64 c_4)
        refine fill_nil S1 ?_; clear S1; intro a_ S1
        replace W := W.step hW
        have S0 := S.defers; replace S := S1; clear S1
        refine w_go S rfl (op_indexAddr S rfl ty35 rfl rfl rfl hF_25 rfl ey_13 ?_)
        clear S; intro a p_29 R_30 H_31 S
        refine wpList_nil ?_
        exact RPost.mk_ S rfl S0 ⟨_, rfl, R_30, H_31⟩ (Below.refl _ _)
       refine RunAll.cons (isI .u8 y_13) [(isEl (.int .u8) (Kx K w.heap.size []) y_13, 18)] rfl rfl ?_ ?_
       ·intro W_ hW
        have S1 := S
        rintro _ ⟨p_34, rfl, R_35, H_36⟩
        replace S1 := S1.put (by decide : 18 < 26) (.pointer (some p_34))
        refine fill_nil S1 ?_; clear S1; intro a_ S1
        have S0 := S.defers; replace S := S1; clear S1
        refine w_go S rfl (op_load (t := (.int .u8)) (x := y_13) S rfl ty5 rfl rfl rfl R_35 ?_)
        clear S; intro a v_37 R_38 S
        obtain ⟨rfl, GR_38⟩ := RepV.int R_38
        refine wpList_nil ?_
        exact RPost.mk_ S rfl S0 ⟨rfl, GR_38⟩ (Below.refl _ _)
       refine RunAll.cons (isRep (.sl (.int .u8)) (Kx K w.heap.size []) x1) [] rfl rfl ?_ ?_
       ·intro W_ hW
        have S1 := S
        replace R1 := R1.step hW
        exact RPost.one (v := v1) S1 tys tys_ok rfl (by kernel_rfl) S.defers R1 (Below.refl _ _)
       refine RunAll.cons (isI .i64 c_4) [] rfl rfl ?_ ?_
       ·intro W_ hW
        have S1 := S
        exact RPost.one (v := .int .i64 c_4) S1 tys tys_ok rfl (by kernel_rfl) S.defers ⟨rfl, G_5⟩ (Below.refl _ _)
       refine RunAll.cons (isEl (.int .u8) (Kx K w.heap.size []) y_19) [(isRep (.sl (.int .u8)) (Kx K w.heap.size []) x1, 20), (isI .i64 c_4, 21)] rfl rfl ?_ ?_
       ·intro W_ hW
        have S1 := S
        intro v_40 hF_39; replace hF_39 : RepV _ _ _ _ _ := hF_39
        replace S1 := S1.put (by decide : 20 < 26) (v_40)
        rintro _ ⟨rfl, hF_41⟩
        replace S1 := S1.put (by decide : 21 < 26) (.int .i64 c_4)
        refine fill_nil S1 ?_; clear S1; intro a_ S1
        replace W := W.step hW
        have S0 := S.defers; replace S := S1; clear S1
        refine w_go S rfl (op_indexAddr S rfl ty35 rfl rfl rfl hF_39 rfl ey_19 ?_)
        clear S; intro a p_43 R_44 H_45 S
        refine wpList_nil ?_
        exact RPost.mk_ S rfl S0 ⟨_, rfl, R_44, H_45⟩ (Below.refl _ _)
       refine RunAll.cons (isI .u8 y_19) [(isEl (.int .u8) (Kx K w.heap.size []) y_19, 22)] rfl rfl ?_ ?_
       ·intro W_ hW
        have S1 := S
        rintro _ ⟨p_48, rfl, R_49, H_50⟩
        replace S1 := S1.put (by decide : 22 < 26) (.pointer (some p_48))
        refine fill_nil S1 ?_; clear S1; intro a_ S1
        have S0 := S.defers; replace S := S1; clear S1
        refine w_go S rfl (op_load (t := (.int .u8)) (x := y_19) S rfl ty5 rfl rfl rfl R_49 ?_)
        clear S; intro a v_51 R_52 S
        obtain ⟨rfl, GR_52⟩ := RepV.int R_52
        refine wpList_nil ?_
        exact RPost.mk_ S rfl S0 ⟨rfl, GR_52⟩ (Below.refl _ _)
       refine RunAll.cons (eqv (.bool (y_13 != y_19))) [(isI .u8 y_13, 19), (isI .u8 y_19, 23)] rfl rfl ?_ ?_
       ·intro W_ hW
        have S1 := S
        rintro _ ⟨rfl, hF_53⟩
        replace S1 := S1.put (by decide : 19 < 26) (.int .u8 y_13)
        rintro _ ⟨rfl, hF_55⟩
        replace S1 := S1.put (by decide : 23 < 26) (.int .u8 y_19)
        exact RPost.one (v := .bool (y_13 != y_19)) S1 tys tys_ok rfl (by kernel_rfl) S.defers rfl (Below.refl _ _)
       exact trivial
      intro w_57 hb_58
      refine EndE.some_ rfl ?_
      intro v_60 hF_59; replace hF_59 : RepV _ _ _ _ _ := hF_59
      replace S := S.put (by decide : 16 < 26) (v_60)
      refine EndE.some_ rfl ?_
      rintro _ ⟨rfl, hF_61⟩
      replace S := S.put (by decide : 17 < 26) (.int .i64 c_4)
      refine EndE.some_ rfl ?_
      rintro _ ⟨p_65, rfl, R_66, H_67⟩
      replace S := S.put (by decide : 18 < 26) (.pointer (some p_65))
      refine EndE.some_ rfl ?_
      rintro _ ⟨rfl, hF_68⟩
      replace S := S.put (by decide : 19 < 26) (.int .u8 y_13)
      refine EndE.some_ rfl ?_
      intro v_71 hF_70; replace hF_70 : RepV _ _ _ _ _ := hF_70
      replace S := S.put (by decide : 20 < 26) (v_71)
      refine EndE.some_ rfl ?_
      rintro _ ⟨rfl, hF_72⟩
      replace S := S.put (by decide : 21 < 26) (.int .i64 c_4)
      refine EndE.some_ rfl ?_
      rintro _ ⟨p_76, rfl, R_77, H_78⟩
      replace S := S.put (by decide : 22 < 26) (.pointer (some p_76))
      refine EndE.some_ rfl ?_
      rintro _ ⟨rfl, hF_79⟩
      replace S := S.put (by decide : 23 < 26) (.int .u8 y_19)
      refine EndE.some_ rfl ?_
      intro v_82 hF_81; obtain rfl : .bool (y_13 != y_19) = v_82 := Eq.symm hF_81
      replace S := S.put (by decide : 24 < 26) (.bool (y_13 != y_19))
      refine endE_nil S ?_; clear S; intro a S
      replace R0 := R0.step hb_58
      replace R1 := R1.step hb_58
      replace W := W.step hb_58
      refine then_n ?_
      replace S := S.sub (l' := [(24, .bool (y_13 != y_19)), (13, .int .i64 c_4), (12, .int .i64 (lenI x0)), (0, v0), (1, v1)]) (by exact ⟨rfl, rfl, rfl, rfl, rfl, trivial⟩)
      refine wp_cond_split (S.eval (show ev _ _ = some (.bool (y_13 != y_19)) from rfl)) ?_ ?_
      ·intro hc
       rw [if_pos hc] at hl_11
       refine wp_seq ?_
       refine wp_region_lit ?_
       refine wl_pureK (l' := [(4, .bool false)]) S tys tys_ok 1 [4] (by kernel_rfl) ?_
       clear S; intro a S
       refine wpList_nil ?_
       refine then_n ?_
       refine wp_ret ?_
       refine blk_r ?_
       refine then_r ?_
       refine then_r ?_
       refine blk_r ?_
       refine then_r ?_
       refine then_r ?_
       obtain rfl := Option.some.inj hl_11
       obtain rfl := lr_inr h
       exact b_ret1 S rfl rfl ⟨_, rfl, RepV.mkBool, W.below⟩
      ·intro hc
       rw [if_neg (Bool.eq_false_iff.1 hc)] at hl_11
       refine wp_skip ?_
       refine blk_n ?_
       refine then_n ?_
       replace S := S.sub (l' := [(13, .int .i64 c_4), (12, .int .i64 (lenI x0)), (0, v0), (1, v1)]) (by exact ⟨rfl, rfl, rfl, rfl, trivial⟩)
       refine wp_region_lit ?_
       obtain ⟨x_83, ex_83, hl_11⟩ := bindS hl_11
       refine w_go S rfl (op_arith S .i64 (c_4 + 1) rfl (.inl rfl) rfl rfl rfl rfl ex_83 ?_)
       clear S; intro a S
       refine wl_pure (l' := [(13, .int .i64 x_83), (25, .int .i64 x_83), (13, .int .i64 c_4), (12, .int .i64 (lenI x0)), (0, v0), (1, v1)]) S tys tys_ok 1 (by kernel_rfl) ?_
       clear S; intro a S
       refine wpList_nil ?_
       refine then_n ?_
       exact ⟨x_83, ⟨S.sub (by exact ⟨rfl, rfl, rfl, rfl, trivial⟩), W, (ckI_some ex_83).2.1, R0, R1, hl_11⟩⟩
     ·intro hc
      rw [if_neg (Bool.eq_false_iff.1 hc)] at hl_11
      refine wp_exit ?_
      refine then_x ?_
      refine then_x ?_
      refine blk_hit ?_
      refine then_n ?_
      obtain rfl := Option.some.inj hl_11
      exact ⟨_, rfl, ⟨S.sub trivial, W⟩⟩
  clear S W; rintro a w_84 ⟨s_9, rfl, S, W⟩
  replace h := lr_inl h; try dsimp only at h
  refine then_n ?_
  refine wp_seq ?_
  refine wp_region_lit ?_
  refine wl_pure (l' := [(4, .bool true)]) S tys tys_ok 1 (by kernel_rfl) ?_
  clear S; intro a S
  refine wpList_nil ?_
  refine then_n ?_
  refine wp_ret ?_
  obtain rfl := Option.some.inj h
  exact b_ret1 S rfl rfl ⟨_, rfl, RepV.mkBool, W.below⟩
theorem cb36 : callB Try.prog 36 = true := by kernel_rfl
def p46 (n : Nat) (x0 : (Sl (Int)) × Bool × Bool × Bool × Int) (y0 : Sl (Int)) : Option ((Bool)) :=
 (p36 n x0.1 y0).bind fun t_9 =>
 some t_9
set_option maxHeartbeats 4000000 in
set_option maxRecDepth 100000 in
/-- (plugboard/suspends.List).at$1 -/
theorem c46 (K : Nat → Prop) (n : Nat) (w : World) (x0 : (Sl (Int)) × Bool × Bool × Bool × Int) (v0 : Value) (R0 : RepV gt2 w K v0 x0) (q0 : Addr) (y0 : Sl (Int)) (Q0 : Br (.sl (.int .u8)) w K q0 y0) {r : (Bool)} (h : p46 n x0 y0 = some r) :
  Calls Try.prog 46 #[v0, .pointer (some q0)] w (Ret1 .bool w (Kx K w.heap.size []) r) := by
 refine enter (args := [v0, .pointer (some q0)]) Try.func46 rfl 8 rfl rfl fun a S => ?_
 have W := Wd.start w
 replace R0 := R0.arg
 unfold p46 at h
 replace S : St 8 a [(0, v0), (1, .pointer (some q0))] := S
 refine wp_seq ?_
 refine wp_region_lit ?_
 refine w_go S rfl (op_box S rfl rfl rfl rfl rfl R0 ?_)
 clear S; intro a w_3 b_1 hb_4 B_2 S
 replace R0 := R0.box hb_4
 replace W := W.box hb_4
 refine wl_pure (l' := [(3, .bool false), (2, pB b_1), (0, v0), (1, .pointer (some q0))]) S tys tys_ok 1 (by kernel_rfl) ?_
 clear S; intro a S
 refine wpList_nil ?_
 refine then_n ?_
 replace S := S.sub (l' := [(2, pB b_1), (1, .pointer (some q0))]) (by exact ⟨rfl, rfl, trivial⟩)
 refine wp_seq ?_
 refine wp_region_lit ?_
 refine wl_pure (l' := [(4, .pointer (some ((⟨b_1, 0, .none⟩ : Addr).add (coff gf2 0)))), (2, pB b_1), (1, .pointer (some q0))]) S tys tys_ok 1 (by kernel_rfl) ?_
 clear S; intro a S
 refine w_go S rfl (op_load (t := (.sl (.int .u8))) (x := x0.1) S rfl ty35 rfl rfl rfl (RepAt.add 0 (RepAt.st (t := gf2) B_2.at_)) ?_)
 clear S; intro a v_5 R_6 S
 refine w_go S rfl (op_load (t := (.sl (.int .u8))) (x := y0) S rfl ty35 rfl rfl rfl (Br.now Q0 W) ?_)
 clear S; intro a v_7 R_8 S
 obtain ⟨t_9, et_9, h⟩ := bindS h
 refine w_go S rfl (op_call (vs := [v_5, v_7]) S rfl cb36 rfl rfl rfl (c36 (Kx K w.heap.size [some b_1]) n w_3 x0.1 _ R_6 y0 _ R_8 et_9) ?_)
 rintro _ w_13 ⟨v_10, rfl, R_11, hb_12⟩; refine ⟨_, rfl, ?_⟩
 replace R_11 := RepV.back R_11 W
 clear S; intro a S
 replace R_6 := R_6.step hb_12
 replace R_8 := R_8.step hb_12
 replace B_2 := B_2.step hb_12
 replace W := W.step hb_12
 obtain rfl := RepV.bool R_11
 refine wl_pureK (l' := [(3, .bool t_9)]) S tys tys_ok 1 [3] (by kernel_rfl) ?_
 clear S; intro a S
 refine wpList_nil ?_
 refine then_n ?_
 refine wp_ret ?_
 obtain rfl := Option.some.inj h
 exact b_ret1 S rfl rfl ⟨_, rfl, RepV.mkBool, W.below⟩
theorem cb46 : callB Try.prog 46 = true := by kernel_rfl
def p45_46_l1 (n : Nat) (x0 : Sl ((Sl (Int)) × Bool × Bool × Bool × Int)) (y1_0 : Sl (Int)) : Nat → (Int) → Option ((Unit) ⊕ ((Int)))
 | 0, _ => .none
 | m + 1, c_2 => if (decide (c_2 < (lenI x0))) then ((idx x0.xs c_2).bind fun y_11 => (p46 n y_11 y1_0).bind fun t_17 => if t_17 then (some (.inr c_2)) else (ckI .i64 (c_2 + 1)).bind fun x_22 => p45_46_l1 n x0 y1_0 m x_22) else some (.inl ())
def p45_46 (n : Nat) (x0 : Sl ((Sl (Int)) × Bool × Bool × Bool × Int)) (y1_0 : Sl (Int)) : Option ((Int)) :=
 (p45_46_l1 n x0 y1_0 n 0).bind fun (y_6 : (Unit) ⊕ ((Int))) =>
 lrK y_6 some fun (s_7 : Unit) =>
 some (-1)
set_option maxHeartbeats 4000000 in
set_option maxRecDepth 100000 in
/-- slices.IndexFunc[plugboard/suspends.List,plugboard/suspends.Node] -/
theorem c45_46 (K : Nat → Prop) (n : Nat) (w : World) (x0 : Sl ((Sl (Int)) × Bool × Bool × Bool × Int)) (v0 : Value) (R0 : RepV (.sl gt2) w K v0 x0) (q1_0 : Addr) (y1_0 : Sl (Int)) (Q1_0 : Br (.sl (.int .u8)) w K q1_0 y1_0) {r : (Int)} (h : p45_46 n x0 y1_0 = some r) :
  Calls Try.prog 45 #[v0, .func (.func 46) #[] #[.pointer (some q1_0)]] w (Ret1 (.int .i64) w (Kx K w.heap.size []) r) := by
 refine enter (args := [v0, .func (.func 46) #[] #[.pointer (some q1_0)]]) Try.func45 rfl 19 rfl rfl fun a S => ?_
 have W := Wd.start w
 replace R0 := R0.arg
 unfold p45_46 at h
 replace S : St 19 a [(0, v0), (1, .func (.func 46) #[] #[.pointer (some q1_0)])] := S
 refine wp_seq ?_
 refine wp_region_lit ?_
 refine wl_pure (l' := [(4, .int .i64 0), (0, v0), (1, .func (.func 46) #[] #[.pointer (some q1_0)])]) S tys tys_ok 1 (by kernel_rfl) ?_
 clear S; intro a S
 refine wpList_nil ?_
 refine then_n ?_
 replace S := S.sub (l' := [(0, v0), (1, .func (.func 46) #[] #[.pointer (some q1_0)])]) (by exact ⟨rfl, rfl, trivial⟩)
 refine wp_seq ?_
 refine wp_seq ?_
 refine wp_region_lit ?_
 refine wl_pure (l' := [(6, v0), (0, v0), (1, .func (.func 46) #[] #[.pointer (some q1_0)])]) S tys tys_ok 1 (by kernel_rfl) ?_
 clear S; intro a S
 refine w_go S rfl (op_len (K := _) S rfl ty25 rfl rfl rfl R0 ?_)
 clear S; intro a G_1 S
 refine wl_pure (l' := [(8, .int .i64 0), (7, .int .i64 (lenI x0)), (6, v0), (0, v0), (1, .func (.func 46) #[] #[.pointer (some q1_0)])]) S tys tys_ok 1 (by kernel_rfl) ?_
 clear S; intro a S
 refine wpList_nil ?_
 refine then_n ?_
 replace S := S.sub (l' := [(8, .int .i64 0), (7, .int .i64 (lenI x0)), (0, v0), (1, .func (.func 46) #[] #[.pointer (some q1_0)])]) (by exact ⟨rfl, rfl, rfl, rfl, trivial⟩)
 obtain ⟨y_6, ey_6, h⟩ := bindS h
 refine wp_cut_ (fun a_ w_ => ∃ s_7 : Unit, y_6 = .inl s_7 ∧ (St 19 a_ [] ∧ Wd w w_ [])) ?_ ?_
 ·refine wp_block ?_
  refine wp_loop_n (fun m_ a_ w_ => ∃ (c_2 : Int) , St 19 a_ [(8, .int .i64 c_2), (7, .int .i64 (lenI x0)), (0, v0), (1, .func (.func 46) #[] #[.pointer (some q1_0)])] ∧ Wd w w_ [] ∧ InR .i64 c_2 ∧ RepV (.sl gt2) w_ (Kx K w.heap.size []) v0 x0 ∧ p45_46_l1 n x0 y1_0 m_ c_2 = some y_6) n ?_ ?_
  ·skip
   exact ⟨0, ⟨S.sub (by exact ⟨rfl, rfl, rfl, rfl, trivial⟩), W, (by decide), R0, ey_6⟩⟩
  ·clear S W; rintro m_8 a w_10 ⟨c_2, S, W, G_3, R0, hl_9⟩
   cases m_8 with
   | zero => exact absurd hl_9 (by simp [p45_46_l1])
   | succ m_8 =>
    refine ⟨m_8, rfl, ?_⟩
    rw [p45_46_l1] at hl_9
    refine wp_seq ?_
    refine wp_region_lit ?_
    refine wl_pure (l' := [(9, .bool (decide (c_2 < (lenI x0)))), (8, .int .i64 c_2), (7, .int .i64 (lenI x0)), (0, v0), (1, .func (.func 46) #[] #[.pointer (some q1_0)])]) S tys tys_ok 1 (by kernel_rfl) ?_
    clear S; intro a S
    refine wpList_nil ?_
    refine then_n ?_
    refine wp_seq ?_
    refine wp_cond_split (S.eval (show ev _ _ = some (.bool (decide (c_2 < (lenI x0)))) from rfl)) ?_ ?_
    ·intro hc
     rw [if_pos hc] at hl_9
     refine wp_skip ?_
     refine then_n ?_
     replace S := S.sub (l' := [(8, .int .i64 c_2), (7, .int .i64 (lenI x0)), (0, v0), (1, .func (.func 46) #[] #[.pointer (some q1_0)])]) (by exact ⟨rfl, rfl, rfl, rfl, trivial⟩)
     refine wp_seq ?_
     refine wp_block ?_
     refine wp_seq ?_
     refine wp_region_lit ?_
     refine wl_pure (l' := [(5, .int .i64 c_2), (10, .int .i64 c_2), (8, .int .i64 c_2), (7, .int .i64 (lenI x0)), (0, v0), (1, .func (.func 46) #[] #[.pointer (some q1_0)])]) S tys tys_ok 2 (by kernel_rfl) ?_
     clear S; intro a S
     refine wpList_nil ?_
     refine then_n ?_
     replace S := S.sub (l' := [(5, .int .i64 c_2), (8, .int .i64 c_2), (7, .int .i64 (lenI x0)), (0, v0), (1, .func (.func 46) #[] #[.pointer (some q1_0)])]) (by exact ⟨rfl, rfl, rfl, rfl, rfl, trivial⟩)
     refine wp_seq ?_
     refine wp_region_lit ?_
     refine wl_pure (l' := [(13, .int .i64 c_2), (12, v0), (11, .func (.func 46) #[] #[.pointer (some q1_0)]), (5, .int .i64 c_2), (8, .int .i64 c_2), (7, .int .i64 (lenI x0)), (0, v0), (1, .func (.func 46) #[] #[.pointer (some q1_0)])]) S tys tys_ok 3 (by kernel_rfl) ?_
     clear S; intro a S
     obtain ⟨y_11, ey_11, hl_9⟩ := bindS hl_9
     refine w_go S rfl (op_indexAddr S rfl ty25 rfl rfl rfl R0 rfl ey_11 ?_)
     clear S; intro a p_12 R_13 H_14 S
     refine w_go S rfl (op_load (t := gt2) (x := y_11) S rfl ty37 rfl rfl rfl R_13 ?_)
     clear S; intro a v_15 R_16 S
     obtain ⟨t_17, et_17, hl_9⟩ := bindS hl_9
     refine w_go S rfl (op_calld (vs := [v_15]) S rfl rfl cb46 rfl rfl rfl (c46 (Kx K w.heap.size []) n w_10 y_11 _ R_16 _ y1_0 (Br.again Q1_0 W) et_17) ?_)
     rintro _ w_21 ⟨v_18, rfl, R_19, hb_20⟩; refine ⟨_, rfl, ?_⟩
     replace R_19 := RepV.back R_19 W
     clear S; intro a S
     replace R0 := R0.step hb_20
     replace R_16 := R_16.step hb_20
     replace W := W.step hb_20
     obtain rfl := RepV.bool R_19
     refine wpList_nil ?_
     refine then_n ?_
     replace S := S.sub (l' := [(16, .bool t_17), (5, .int .i64 c_2), (8, .int .i64 c_2), (7, .int .i64 (lenI x0)), (0, v0), (1, .func (.func 46) #[] #[.pointer (some q1_0)])]) (by exact ⟨rfl, rfl, rfl, rfl, rfl, rfl, trivial⟩)
     refine wp_cond_split (S.eval (show ev _ _ = some (.bool t_17) from rfl)) ?_ ?_
     ·intro hc
      rw [if_pos hc] at hl_9
      refine wp_seq ?_
      refine wp_region_lit ?_
      refine wl_pureK (l' := [(4, .int .i64 c_2)]) S tys tys_ok 2 [4] (by kernel_rfl) ?_
      clear S; intro a S
      refine wpList_nil ?_
      refine then_n ?_
      refine wp_ret ?_
      refine blk_r ?_
      refine then_r ?_
      refine then_r ?_
      refine blk_r ?_
      refine then_r ?_
      refine then_r ?_
      obtain rfl := Option.some.inj hl_9
      obtain rfl := lr_inr h
      exact b_ret1 S rfl rfl ⟨_, rfl, (RepV.mkInt G_3), W.below⟩
     ·intro hc
      rw [if_neg (Bool.eq_false_iff.1 hc)] at hl_9
      refine wp_skip ?_
      refine blk_n ?_
      refine then_n ?_
      replace S := S.sub (l' := [(8, .int .i64 c_2), (7, .int .i64 (lenI x0)), (0, v0), (1, .func (.func 46) #[] #[.pointer (some q1_0)])]) (by exact ⟨rfl, rfl, rfl, rfl, trivial⟩)
      refine wp_region_lit ?_
      obtain ⟨x_22, ex_22, hl_9⟩ := bindS hl_9
      refine w_go S rfl (op_arith S .i64 (c_2 + 1) rfl (.inl rfl) rfl rfl rfl rfl ex_22 ?_)
      clear S; intro a S
      refine wl_pure (l' := [(8, .int .i64 x_22), (18, .int .i64 x_22), (8, .int .i64 c_2), (7, .int .i64 (lenI x0)), (0, v0), (1, .func (.func 46) #[] #[.pointer (some q1_0)])]) S tys tys_ok 1 (by kernel_rfl) ?_
      clear S; intro a S
      refine wpList_nil ?_
      refine then_n ?_
      exact ⟨x_22, ⟨S.sub (by exact ⟨rfl, rfl, rfl, rfl, trivial⟩), W, (ckI_some ex_22).2.1, R0, hl_9⟩⟩
    ·intro hc
     rw [if_neg (Bool.eq_false_iff.1 hc)] at hl_9
     refine wp_exit ?_
     refine then_x ?_
     refine then_x ?_
     refine blk_hit ?_
     refine then_n ?_
     obtain rfl := Option.some.inj hl_9
     exact ⟨_, rfl, ⟨S.sub trivial, W⟩⟩
 clear S W; rintro a w_23 ⟨s_7, rfl, S, W⟩
 replace h := lr_inl h; try dsimp only at h
 refine then_n ?_
 refine wp_seq ?_
 refine wp_region_lit ?_
 refine wl_pure (l' := [(4, .int .i64 (-1))]) S tys tys_ok 1 (by kernel_rfl) ?_
 clear S; intro a S
 refine wpList_nil ?_
 refine then_n ?_
 refine wp_ret ?_
 obtain rfl := Option.some.inj h
 exact b_ret1 S rfl rfl ⟨_, rfl, (RepV.mkInt (by decide)), W.below⟩
def p30 (n : Nat) (x0 : Sl ((Sl (Int)) × Bool × Bool × Bool × Int)) (x1 : Sl (Int)) : Option ((Int)) :=
 (p45_46 n x0 x1).bind fun t_5 =>
 some t_5
set_option maxHeartbeats 4000000 in
set_option maxRecDepth 100000 in
/-- (plugboard/suspends.List).at -/
theorem c30 (K : Nat → Prop) (n : Nat) (w : World) (x0 : Sl ((Sl (Int)) × Bool × Bool × Bool × Int)) (v0 : Value) (R0 : RepV (.sl gt2) w K v0 x0) (x1 : Sl (Int)) (v1 : Value) (R1 : RepV (.sl (.int .u8)) w K v1 x1) {r : (Int)} (h : p30 n x0 x1 = some r) :
  Calls Try.prog 30 #[v0, v1] w (Ret1 (.int .i64) w (Kx K w.heap.size []) r) := by
 refine enter (args := [v0, v1]) Try.func30 rfl 8 rfl rfl fun a S => ?_
 have W := Wd.start w
 replace R0 := R0.arg
 replace R1 := R1.arg
 unfold p30 at h
 replace S : St 8 a [(0, v0), (1, v1)] := S
 refine wp_seq ?_
 refine wp_region_lit ?_
 refine w_go S rfl (op_box S rfl rfl rfl rfl rfl R1 ?_)
 clear S; intro a w_3 b_1 hb_4 B_2 S
 replace R0 := R0.box hb_4
 replace R1 := R1.box hb_4
 replace W := W.box hb_4
 refine wl_pure (l' := [(4, .int .i64 0), (3, pB b_1), (0, v0), (1, v1)]) S tys tys_ok 1 (by kernel_rfl) ?_
 clear S; intro a S
 refine wpList_nil ?_
 refine then_n ?_
 replace S := S.sub (l' := [(3, pB b_1), (0, v0)]) (by exact ⟨rfl, rfl, trivial⟩)
 refine wp_seq ?_
 refine wp_region_lit ?_
 refine wl_pure (l' := [(5, v0), (3, pB b_1), (0, v0)]) S tys tys_ok 1 (by kernel_rfl) ?_
 clear S; intro a S
 refine w_go S rfl (op_mkfn (vs := []) (us := [pB b_1]) S rfl rfl rfl rfl rfl ?_)
 clear S; intro a S
 obtain ⟨t_5, et_5, h⟩ := bindS h
 refine w_go S rfl (op_call (vs := [v0, .func (.func 46) #[] #[pB b_1]]) S rfl cb45 rfl rfl rfl (c45_46 (Kx K w.heap.size [some b_1]) n w_3 x0 _ R0 _ x1 (Bx.br B_2) et_5) ?_)
 rintro _ w_9 ⟨v_6, rfl, R_7, hb_8⟩; refine ⟨_, rfl, ?_⟩
 replace R_7 := RepV.back R_7 W
 clear S; intro a S
 replace R0 := R0.step hb_8
 replace B_2 := B_2.step hb_8
 replace W := W.step hb_8
 obtain ⟨rfl, GR_7⟩ := RepV.int R_7
 refine wl_pureK (l' := [(4, .int .i64 t_5)]) S tys tys_ok 1 [4] (by kernel_rfl) ?_
 clear S; intro a S
 refine wpList_nil ?_
 refine then_n ?_
 refine wp_ret ?_
 obtain rfl := Option.some.inj h
 exact b_ret1 S rfl rfl ⟨_, rfl, (RepV.mkInt GR_7), W.below⟩
theorem cb30 : callB Try.prog 30 = true := by kernel_rfl
def p38 (n : Nat) (x0 : Sl ((Sl (Int)) × Bool × Bool × Bool × Int)) (x1 : (Sl (Int)) × Bool × Bool × Bool × Int) : Option ((Bool)) :=
 (if ((lenI x1.1) == 0) = false then (p13 n x1.1).bind fun t_11 => some (t_11 != 0) else some true).bind fun q_8 =>
 (if q_8 = false then some (decide (x1.2.2.2.2 < 0)) else some true).bind fun q_17 =>
 (if q_17 = false then (if x1.2.1 = true then some x1.2.2.2.1 else some false).bind fun q_23 => some q_23 else some true).bind fun q_20 =>
 (if q_20 = false then (if (decide (x1.2.2.2.2 > 0)) = true then (if x1.2.1 = false then some x1.2.2.2.1 else some true).bind fun q_32 => some q_32 else some false).bind fun q_29 => some q_29 else some true).bind fun q_26 =>
 if q_26 then (some false) else (if (decide ((lenI x0) > 0)) = true then (ckI .i64 ((lenI x0) - 1)).bind fun x_39 => (idx x0.xs x_39).bind fun y_40 => (p32 n y_40.1 x1.1).bind fun t_48 => some (decide (t_48 ≥ 0)) else some false).bind fun q_36 => if q_36 then (some false) else if ((lenI x1.1) == 1) then (some true) else (p29 n x1.1).bind fun t_220 => (p30 n x0 t_220.1).bind fun t_227 => (if (decide (t_227 ≥ 0)) = true then (if x1.2.2.2.1 = false then (idx x0.xs t_227).bind fun y_236 => some (!y_236.2.2.2.1) else some true).bind fun q_235 => some q_235 else some false).bind fun q_232 => some q_232
set_option maxHeartbeats 4000000 in
set_option maxRecDepth 100000 in
/-- (plugboard/suspends.List).valid -/
theorem c38 (K : Nat → Prop) (n : Nat) (w : World) (x0 : Sl ((Sl (Int)) × Bool × Bool × Bool × Int)) (v0 : Value) (R0 : RepV (.sl gt2) w K v0 x0) (x1 : (Sl (Int)) × Bool × Bool × Bool × Int) (v1 : Value) (R1 : RepV gt2 w K v1 x1) {r : (Bool)} (h : p38 n x0 x1 = some r) :
  Calls Try.prog 38 #[v0, v1] w (Ret1 .bool w (Kx K w.heap.size []) r) := by
 refine enter (args := [v0, v1]) Try.func38 rfl 87 rfl rfl fun a S => ?_
 have W := Wd.start w
 replace R0 := R0.arg
 replace R1 := R1.arg
 unfold p38 at h
 replace S : St 87 a [(0, v0), (1, v1)] := S
 refine wp_seq ?_
 refine wp_region_lit ?_
 refine w_go S rfl (op_box S rfl rfl rfl rfl rfl R1 ?_)
 clear S; intro a w_3 b_1 hb_4 B_2 S
 replace R0 := R0.box hb_4
 replace R1 := R1.box hb_4
 replace W := W.box hb_4
 refine wl_pure (l' := [(4, .bool false), (3, pB b_1), (0, v0), (1, v1)]) S tys tys_ok 1 (by kernel_rfl) ?_
 clear S; intro a S
 refine wpList_nil ?_
 refine then_n ?_
 replace S := S.sub (l' := [(3, pB b_1), (0, v0)]) (by exact ⟨rfl, rfl, trivial⟩)
 refine wp_seq ?_
 refine wp_seq ?_
 refine wp_region_lit ?_
 refine wl_pure (l' := [(8, .pointer (some ((⟨b_1, 0, .none⟩ : Addr).add (coff gf2 0)))), (3, pB b_1), (0, v0)]) S tys tys_ok 1 (by kernel_rfl) ?_
 clear S; intro a S
 refine w_go S rfl (op_load (t := (.sl (.int .u8))) (x := x1.1) S rfl ty35 rfl rfl rfl (RepAt.add 0 (RepAt.st (t := gf2) B_2.at_)) ?_)
 clear S; intro a v_5 R_6 S
 refine w_go S rfl (op_len (K := _) S rfl ty35 rfl rfl rfl R_6 ?_)
 clear S; intro a G_7 S
 refine wl_pureK (l' := [(12, .bool ((lenI x1.1) == 0)), (3, pB b_1), (0, v0)]) S tys tys_ok 2 [12, 3, 0] (by kernel_rfl) ?_
 clear S; intro a S
 obtain ⟨q_8, eq_8, h⟩ := bindS h
 refine seg 5 (fun a_ w_ => St 87 a_ [(17, .bool q_8), (3, pB b_1), (0, v0)] ∧ Wd w w_ [some b_1] ∧ RepV (.sl gt2) w_ (Kx K w.heap.size [some b_1]) v0 x0 ∧ Bx gt2 37 w_ (Kx K w.heap.size [some b_1]) b_1 x1) ?_ ?_
 ·by_cases hc : ((lenI x1.1) == 0) = false
  ·rw [if_pos hc] at eq_8; rw [hc] at S
   refine wl_pure (l' := [(13, .pointer (some ((⟨b_1, 0, .none⟩ : Addr).add (coff gf2 0)))), (12, .bool false), (3, pB b_1), (0, v0)]) S tys tys_ok 1 (by kernel_rfl) ?_
   clear S; intro a S
   refine w_go S rfl (op_load (t := (.sl (.int .u8))) (x := x1.1) S rfl ty35 rfl rfl rfl (RepAt.add 0 (RepAt.st (t := gf2) B_2.at_)) ?_)
   clear S; intro a v_9 R_10 S
   obtain ⟨t_11, et_11, eq_8⟩ := bindS eq_8
   refine w_go S rfl (op_call (vs := [v_9]) S rfl cb13 rfl rfl rfl (c13 (Kx K w.heap.size [some b_1]) n w_3 x1.1 _ R_10 et_11) ?_)
   rintro _ w_15 ⟨v_12, rfl, R_13, hb_14⟩; refine ⟨_, rfl, ?_⟩
   replace R_13 := RepV.back R_13 W
   clear S; intro a S
   replace R0 := R0.step hb_14
   replace R_10 := R_10.step hb_14
   replace B_2 := B_2.step hb_14
   replace W := W.step hb_14
   obtain ⟨rfl, GR_13⟩ := RepV.int R_13
   refine wl_pureK (l' := [(17, .bool (t_11 != 0)), (3, pB b_1), (0, v0)]) S tys tys_ok 2 [17, 3, 0] (by kernel_rfl) ?_
   clear S; intro a S
   obtain rfl := Option.some.inj eq_8
   exact ⟨S.sub (by exact ⟨rfl, rfl, rfl, trivial⟩), W, R0, B_2⟩
  ·rw [if_neg hc] at eq_8; rw [show ((lenI x1.1) == 0) = true from (by simpa using hc)] at S
   refine wl_pureK (l' := [(17, .bool true), (3, pB b_1), (0, v0)]) S tys tys_ok 5 [17, 3, 0] (by kernel_rfl) ?_
   clear S; intro a S
   obtain rfl := Option.some.inj eq_8
   exact ⟨S.sub (by exact ⟨rfl, rfl, rfl, trivial⟩), W, R0, B_2⟩
 clear S W eq_8; rintro a w_16 ⟨S, W, R0, B_2⟩
 refine wl_pure (l' := [(18, .bool q_8), (17, .bool q_8), (3, pB b_1), (0, v0)]) S tys tys_ok 1 (by kernel_rfl) ?_
 clear S; intro a S
 obtain ⟨q_17, eq_17, h⟩ := bindS h
 refine seg 4 (fun a_ w_ => w_16 = w_ ∧ St 87 a_ [(22, .bool q_17), (3, pB b_1), (0, v0)]) ?_ ?_
 ·by_cases hc : q_8 = false
  ·rw [if_pos hc] at eq_17; rw [hc] at S
   refine wl_pure (l' := [(19, .pointer (some ((⟨b_1, 0, .none⟩ : Addr).add (coff gf2 4)))), (18, .bool false), (17, .bool false), (3, pB b_1), (0, v0)]) S tys tys_ok 1 (by kernel_rfl) ?_
   clear S; intro a S
   refine w_go S rfl (op_load (t := (.int .i64)) (x := x1.2.2.2.2) S rfl ty3 rfl rfl rfl (RepAt.add 4 (RepAt.st (t := gf2) B_2.at_)) ?_)
   clear S; intro a v_18 R_19 S
   obtain ⟨rfl, GR_19⟩ := RepV.int R_19
   refine wl_pureK (l' := [(22, .bool (decide (x1.2.2.2.2 < 0))), (3, pB b_1), (0, v0)]) S tys tys_ok 2 [22, 3, 0] (by kernel_rfl) ?_
   clear S; intro a S
   obtain rfl := Option.some.inj eq_17
   exact ⟨rfl, S.sub (by exact ⟨rfl, rfl, rfl, trivial⟩)⟩
  ·rw [if_neg hc] at eq_17; rw [show q_8 = true from (by simpa using hc)] at S
   refine wl_pureK (l' := [(22, .bool true), (3, pB b_1), (0, v0)]) S tys tys_ok 4 [22, 3, 0] (by kernel_rfl) ?_
   clear S; intro a S
   obtain rfl := Option.some.inj eq_17
   exact ⟨rfl, S.sub (by exact ⟨rfl, rfl, rfl, trivial⟩)⟩
 clear S eq_17; rintro a _ ⟨rfl, S⟩
 refine wl_pure (l' := [(23, .bool q_17), (22, .bool q_17), (3, pB b_1), (0, v0)]) S tys tys_ok 1 (by kernel_rfl) ?_
 clear S; intro a S
 obtain ⟨q_20, eq_20, h⟩ := bindS h
 refine seg 7 (fun a_ w_ => w_16 = w_ ∧ St 87 a_ [(30, .bool q_20), (3, pB b_1), (0, v0)]) ?_ ?_
 ·by_cases hc : q_17 = false
  ·rw [if_pos hc] at eq_20; rw [hc] at S
   refine wl_pure (l' := [(24, .pointer (some ((⟨b_1, 0, .none⟩ : Addr).add (coff gf2 1)))), (23, .bool false), (22, .bool false), (3, pB b_1), (0, v0)]) S tys tys_ok 1 (by kernel_rfl) ?_
   clear S; intro a S
   refine w_go S rfl (op_load (t := .bool) (x := x1.2.1) S rfl ty4 rfl rfl rfl (RepAt.add 1 (RepAt.st (t := gf2) B_2.at_)) ?_)
   clear S; intro a v_21 R_22 S
   obtain rfl := RepV.bool R_22
   refine wl_pureK (l' := [(26, .bool x1.2.1), (23, .bool false), (3, pB b_1), (0, v0)]) S tys tys_ok 1 [26, 23, 3, 0] (by kernel_rfl) ?_
   clear S; intro a S
   obtain ⟨q_23, eq_23, eq_20⟩ := bindS eq_20
   refine seg 3 (fun a_ w_ => w_16 = w_ ∧ St 87 a_ [(29, .bool q_23), (23, .bool false), (3, pB b_1), (0, v0)]) ?_ ?_
   ·by_cases hc : x1.2.1 = true
    ·rw [if_pos hc] at eq_23; rw [hc] at S
     refine wl_pure (l' := [(27, .pointer (some ((⟨b_1, 0, .none⟩ : Addr).add (coff gf2 3)))), (26, .bool true), (23, .bool false), (3, pB b_1), (0, v0)]) S tys tys_ok 1 (by kernel_rfl) ?_
     clear S; intro a S
     refine w_go S rfl (op_load (t := .bool) (x := x1.2.2.2.1) S rfl ty4 rfl rfl rfl (RepAt.add 3 (RepAt.st (t := gf2) B_2.at_)) ?_)
     clear S; intro a v_24 R_25 S
     obtain rfl := RepV.bool R_25
     refine wl_pureK (l' := [(29, .bool x1.2.2.2.1), (23, .bool false), (3, pB b_1), (0, v0)]) S tys tys_ok 1 [29, 23, 3, 0] (by kernel_rfl) ?_
     clear S; intro a S
     obtain rfl := Option.some.inj eq_23
     exact ⟨rfl, S.sub (by exact ⟨rfl, rfl, rfl, rfl, trivial⟩)⟩
    ·rw [if_neg hc] at eq_23; rw [show x1.2.1 = false from Bool.eq_false_iff.2 hc] at S
     refine wl_pureK (l' := [(29, .bool false), (23, .bool false), (3, pB b_1), (0, v0)]) S tys tys_ok 3 [29, 23, 3, 0] (by kernel_rfl) ?_
     clear S; intro a S
     obtain rfl := Option.some.inj eq_23
     exact ⟨rfl, S.sub (by exact ⟨rfl, rfl, rfl, rfl, trivial⟩)⟩
   clear S eq_23; rintro a _ ⟨rfl, S⟩
   refine wl_pure (l' := [(30, .bool q_23), (29, .bool q_23), (23, .bool false), (3, pB b_1), (0, v0)]) S tys tys_ok 1 (by kernel_rfl) ?_
   clear S; intro a S
   obtain rfl := Option.some.inj eq_20
   exact ⟨rfl, S.sub (by exact ⟨rfl, rfl, rfl, trivial⟩)⟩
  ·rw [if_neg hc] at eq_20; rw [show q_17 = true from (by simpa using hc)] at S
   refine wl_pureK (l' := [(30, .bool true), (3, pB b_1), (0, v0)]) S tys tys_ok 7 [30, 3, 0] (by kernel_rfl) ?_
   clear S; intro a S
   obtain rfl := Option.some.inj eq_20
   exact ⟨rfl, S.sub (by exact ⟨rfl, rfl, rfl, trivial⟩)⟩
 clear S eq_20; rintro a _ ⟨rfl, S⟩
 refine wl_pure (l' := [(31, .bool q_20), (30, .bool q_20), (3, pB b_1), (0, v0)]) S tys tys_ok 1 (by kernel_rfl) ?_
 clear S; intro a S
 obtain ⟨q_26, eq_26, h⟩ := bindS h
 refine seg 12 (fun a_ w_ => w_16 = w_ ∧ St 87 a_ [(43, .bool q_26), (3, pB b_1), (0, v0)]) ?_ ?_
 ·by_cases hc : q_20 = false
  ·rw [if_pos hc] at eq_26; rw [hc] at S
   refine wl_pure (l' := [(32, .pointer (some ((⟨b_1, 0, .none⟩ : Addr).add (coff gf2 4)))), (31, .bool false), (30, .bool false), (3, pB b_1), (0, v0)]) S tys tys_ok 1 (by kernel_rfl) ?_
   clear S; intro a S
   refine w_go S rfl (op_load (t := (.int .i64)) (x := x1.2.2.2.2) S rfl ty3 rfl rfl rfl (RepAt.add 4 (RepAt.st (t := gf2) B_2.at_)) ?_)
   clear S; intro a v_27 R_28 S
   obtain ⟨rfl, GR_28⟩ := RepV.int R_28
   refine wl_pureK (l' := [(35, .bool (decide (x1.2.2.2.2 > 0))), (31, .bool false), (3, pB b_1), (0, v0)]) S tys tys_ok 2 [35, 31, 3, 0] (by kernel_rfl) ?_
   clear S; intro a S
   obtain ⟨q_29, eq_29, eq_26⟩ := bindS eq_26
   refine seg 7 (fun a_ w_ => w_16 = w_ ∧ St 87 a_ [(42, .bool q_29), (31, .bool false), (3, pB b_1), (0, v0)]) ?_ ?_
   ·by_cases hc : (decide (x1.2.2.2.2 > 0)) = true
    ·rw [if_pos hc] at eq_29; rw [hc] at S
     refine wl_pure (l' := [(36, .pointer (some ((⟨b_1, 0, .none⟩ : Addr).add (coff gf2 1)))), (35, .bool true), (31, .bool false), (3, pB b_1), (0, v0)]) S tys tys_ok 1 (by kernel_rfl) ?_
     clear S; intro a S
     refine w_go S rfl (op_load (t := .bool) (x := x1.2.1) S rfl ty4 rfl rfl rfl (RepAt.add 1 (RepAt.st (t := gf2) B_2.at_)) ?_)
     clear S; intro a v_30 R_31 S
     obtain rfl := RepV.bool R_31
     refine wl_pure (l' := [(38, .bool x1.2.1), (37, .bool x1.2.1), (36, .pointer (some ((⟨b_1, 0, .none⟩ : Addr).add (coff gf2 1)))), (35, .bool true), (31, .bool false), (3, pB b_1), (0, v0)]) S tys tys_ok 1 (by kernel_rfl) ?_
     clear S; intro a S
     obtain ⟨q_32, eq_32, eq_29⟩ := bindS eq_29
     refine seg 3 (fun a_ w_ => w_16 = w_ ∧ St 87 a_ [(41, .bool q_32), (35, .bool true), (31, .bool false), (3, pB b_1), (0, v0)]) ?_ ?_
     ·by_cases hc : x1.2.1 = false
      ·rw [if_pos hc] at eq_32; rw [hc] at S
       refine wl_pure (l' := [(39, .pointer (some ((⟨b_1, 0, .none⟩ : Addr).add (coff gf2 3)))), (38, .bool false), (37, .bool false), (36, .pointer (some ((⟨b_1, 0, .none⟩ : Addr).add (coff gf2 1)))), (35, .bool true), (31, .bool false), (3, pB b_1), (0, v0)]) S tys tys_ok 1 (by kernel_rfl) ?_
       clear S; intro a S
       refine w_go S rfl (op_load (t := .bool) (x := x1.2.2.2.1) S rfl ty4 rfl rfl rfl (RepAt.add 3 (RepAt.st (t := gf2) B_2.at_)) ?_)
       clear S; intro a v_33 R_34 S
       obtain rfl := RepV.bool R_34
       refine wl_pureK (l' := [(41, .bool x1.2.2.2.1), (35, .bool true), (31, .bool false), (3, pB b_1), (0, v0)]) S tys tys_ok 1 [41, 35, 31, 3, 0] (by kernel_rfl) ?_
       clear S; intro a S
       obtain rfl := Option.some.inj eq_32
       exact ⟨rfl, S.sub (by exact ⟨rfl, rfl, rfl, rfl, rfl, trivial⟩)⟩
      ·rw [if_neg hc] at eq_32; rw [show x1.2.1 = true from (by simpa using hc)] at S
       refine wl_pureK (l' := [(41, .bool true), (35, .bool true), (31, .bool false), (3, pB b_1), (0, v0)]) S tys tys_ok 3 [41, 35, 31, 3, 0] (by kernel_rfl) ?_
       clear S; intro a S
       obtain rfl := Option.some.inj eq_32
       exact ⟨rfl, S.sub (by exact ⟨rfl, rfl, rfl, rfl, rfl, trivial⟩)⟩
     clear S eq_32; rintro a _ ⟨rfl, S⟩
     refine wl_pure (l' := [(42, .bool q_32), (41, .bool q_32), (35, .bool true), (31, .bool false), (3, pB b_1), (0, v0)]) S tys tys_ok 1 (by kernel_rfl) ?_
     clear S; intro a S
     obtain rfl := Option.some.inj eq_29
     exact ⟨rfl, S.sub (by exact ⟨rfl, rfl, rfl, rfl, trivial⟩)⟩
    ·rw [if_neg hc] at eq_29; rw [show (decide (x1.2.2.2.2 > 0)) = false from Bool.eq_false_iff.2 hc] at S
     refine wl_pureK (l' := [(42, .bool false), (31, .bool false), (3, pB b_1), (0, v0)]) S tys tys_ok 7 [42, 31, 3, 0] (by kernel_rfl) ?_
     clear S; intro a S
     obtain rfl := Option.some.inj eq_29
     exact ⟨rfl, S.sub (by exact ⟨rfl, rfl, rfl, rfl, trivial⟩)⟩
   clear S eq_29; rintro a _ ⟨rfl, S⟩
   refine wl_pure (l' := [(43, .bool q_29), (42, .bool q_29), (31, .bool false), (3, pB b_1), (0, v0)]) S tys tys_ok 1 (by kernel_rfl) ?_
   clear S; intro a S
   obtain rfl := Option.some.inj eq_26
   exact ⟨rfl, S.sub (by exact ⟨rfl, rfl, rfl, trivial⟩)⟩
  ·rw [if_neg hc] at eq_26; rw [show q_20 = true from (by simpa using hc)] at S
   refine wl_pureK (l' := [(43, .bool true), (3, pB b_1), (0, v0)]) S tys tys_ok 12 [43, 3, 0] (by kernel_rfl) ?_
   clear S; intro a S
   obtain rfl := Option.some.inj eq_26
   exact ⟨rfl, S.sub (by exact ⟨rfl, rfl, rfl, trivial⟩)⟩
 clear S eq_26; rintro a _ ⟨rfl, S⟩
 refine wpList_nil ?_
 refine then_n ?_
 refine wp_cond_split (S.eval (show ev _ _ = some (.bool q_26) from rfl)) ?_ ?_
 ·intro hc
  rw [if_pos hc] at h
  refine wp_seq ?_
  refine wp_region_lit ?_
  refine wl_pureK (l' := [(4, .bool false)]) S tys tys_ok 1 [4] (by kernel_rfl) ?_
  clear S; intro a S
  refine wpList_nil ?_
  refine then_n ?_
  refine wp_ret ?_
  refine then_r ?_
  obtain rfl := Option.some.inj h
  exact b_ret1 S rfl rfl ⟨_, rfl, RepV.mkBool, W.below⟩
 ·intro hc
  rw [if_neg (Bool.eq_false_iff.1 hc)] at h
  refine wp_skip ?_
  refine then_n ?_
  replace S := S.sub (l' := [(3, pB b_1), (0, v0)]) (by exact ⟨rfl, rfl, trivial⟩)
  refine wp_seq ?_
  refine wp_seq ?_
  obtain ⟨q_36, eq_36, h⟩ := bindS h
  obtain ⟨x_39, y_40, t_48, HG_37⟩ : ∃ (x_39 : Int) (y_40 : (Sl (Int)) × Bool × Bool × Bool × Int) (t_48 : (Int)) , ((decide ((lenI x0) > 0)) = true → (ckI .i64 ((lenI x0) - 1)) = some x_39 ∧ (idx x0.xs x_39) = some y_40 ∧ (p32 n y_40.1 x1.1) = some t_48 ∧ (decide (t_48 ≥ 0)) = q_36) ∧ (¬ (decide ((lenI x0) > 0)) = true → false = q_36) := by
   by_cases hc : (decide ((lenI x0) > 0)) = true
   ·rw [if_pos hc] at eq_36
    obtain ⟨x_39, ex_39, eq_36⟩ := bindS eq_36
    obtain ⟨y_40, ey_40, eq_36⟩ := bindS eq_36
    obtain ⟨t_48, et_48, eq_36⟩ := bindS eq_36
    exact ⟨x_39, y_40, t_48, ⟨fun _ => ⟨ex_39, ey_40, et_48, Option.some.inj eq_36⟩, fun k_ => absurd hc k_⟩⟩
   ·rw [if_neg hc] at eq_36
    exact ⟨default, default, default, ⟨fun k_ => absurd k_ hc, fun _ => Option.some.inj eq_36⟩⟩
  have hR : Rel (Kx K w.heap.size [some b_1]) Bl := Bl.rel _
  refine wp_region_all hR [isRep (.sl gt2) (Kx K w.heap.size [some b_1]) x0, isI .i64 (lenI x0), eqv (.bool (decide ((lenI x0) > 0))), eqv (.bool (decide ((lenI x0) > 0))), cndF (decide ((lenI x0) > 0)) true (isRep (.sl gt2) (Kx K w.heap.size [some b_1]) x0), cndF (decide ((lenI x0) > 0)) true (isRep (.sl gt2) (Kx K w.heap.size [some b_1]) x0), cndF (decide ((lenI x0) > 0)) true (isI .i64 (lenI x0)), cndF (decide ((lenI x0) > 0)) true (isI .i64 x_39), cndF (decide ((lenI x0) > 0)) true (isEl gt2 (Kx K w.heap.size [some b_1]) y_40), cndF (decide ((lenI x0) > 0)) true (isEl (.sl (.int .u8)) (Kx K w.heap.size [some b_1]) y_40.1), cndF (decide ((lenI x0) > 0)) true (isRep (.sl (.int .u8)) (Kx K w.heap.size [some b_1]) y_40.1), cndF (decide ((lenI x0) > 0)) true (eqv (.pointer (some ((⟨b_1, 0, .none⟩ : Addr).add (coff gf2 0))))), cndF (decide ((lenI x0) > 0)) true (isRep (.sl (.int .u8)) (Kx K w.heap.size [some b_1]) x1.1), cndF (decide ((lenI x0) > 0)) true (isI .i64 t_48), cndF (decide ((lenI x0) > 0)) true (eqv (.bool (decide (t_48 ≥ 0)))), eqv (.bool q_36)] [[], [(0, 44)], [(1, 45)], [(2, 46)], [(3, 47)], [(3, 47)], [(5, 49), (3, 47)], [(6, 50), (3, 47)], [(4, 48), (7, 51), (3, 47)], [(8, 52), (3, 47)], [(9, 53), (3, 47)], [(3, 47)], [(11, 55), (3, 47)], [(10, 54), (12, 56), (3, 47)], [(13, 57), (3, 47)], [(3, 47), (14, 58)]] (by kernel_rfl) (by rw [S.size]; kernel_rfl) (by kernel_rfl) (by kernel_rfl) rfl ⟨(stab_rep hR), stab_I, (stab_eqv _), (stab_eqv _), (stab_cnd (stab_rep hR)), (stab_cnd (stab_rep hR)), (stab_cnd stab_I), (stab_cnd stab_I), (stab_cnd (stab_el hR)), (stab_cnd (stab_el hR)), (stab_cnd (stab_rep hR)), (stab_cnd (stab_eqv _)), (stab_cnd (stab_rep hR)), (stab_cnd stab_I), (stab_cnd (stab_eqv _)), (stab_eqv _), trivial⟩ ?_ ?_
  ·
   refine RunAll.cons (isRep (.sl gt2) (Kx K w.heap.size [some b_1]) x0) [] rfl rfl ?_ ?_
   ·intro W_ hW
    have S1 := S
    replace R0 := R0.step hW
    exact RPost.one (v := v0) S1 tys tys_ok rfl (by kernel_rfl) S.defers R0 (Below.refl _ _)
   refine RunAll.cons (isI .i64 (lenI x0)) [(isRep (.sl gt2) (Kx K w.heap.size [some b_1]) x0, 44)] rfl rfl ?_ ?_
   ·intro W_ hW
    have S1 := S
    intro v_54 hF_53; replace hF_53 : RepV _ _ _ _ _ := hF_53
    replace S1 := S1.put (by decide : 44 < 87) (v_54)
    refine fill_nil S1 ?_; clear S1; intro a_ S1
    replace W := W.step hW
    have S0 := S.defers; replace S := S1; clear S1
    refine w_go S rfl (op_len (K := _) S rfl ty25 rfl rfl rfl hF_53 ?_)
    clear S; intro a G_55 S
    refine wpList_nil ?_
    exact RPost.mk_ S rfl S0 ⟨rfl, G_55⟩ (Below.refl _ _)
   refine RunAll.cons (eqv (.bool (decide ((lenI x0) > 0)))) [(isI .i64 (lenI x0), 45)] rfl rfl ?_ ?_
   ·intro W_ hW
    have S1 := S
    rintro _ ⟨rfl, hF_56⟩
    replace S1 := S1.put (by decide : 45 < 87) (.int .i64 (lenI x0))
    exact RPost.one (v := .bool (decide ((lenI x0) > 0))) S1 tys tys_ok rfl (by kernel_rfl) S.defers rfl (Below.refl _ _)
   refine RunAll.cons (eqv (.bool (decide ((lenI x0) > 0)))) [(eqv (.bool (decide ((lenI x0) > 0))), 46)] rfl rfl ?_ ?_
   ·intro W_ hW
    have S1 := S
    intro v_59 hF_58; obtain rfl : .bool (decide ((lenI x0) > 0)) = v_59 := Eq.symm hF_58
    replace S1 := S1.put (by decide : 46 < 87) (.bool (decide ((lenI x0) > 0)))
    exact RPost.one (v := .bool (decide ((lenI x0) > 0))) S1 tys tys_ok rfl (by kernel_rfl) S.defers rfl (Below.refl _ _)
   refine RunAll.cons (cndF (decide ((lenI x0) > 0)) true (isRep (.sl gt2) (Kx K w.heap.size [some b_1]) x0)) [(eqv (.bool (decide ((lenI x0) > 0))), 47)] rfl rfl ?_ ?_
   ·intro W_ hW
    by_cases hc0 : (decide ((lenI x0) > 0)) = true
    ·have hl0 : (decide ((lenI x0) > 0)) = true := hc0
     have S1 := S
     intro v_61 hF_60; obtain rfl : .bool (decide ((lenI x0) > 0)) = v_61 := Eq.symm hF_60
     replace S1 := S1.put (by decide : 47 < 87) (.bool (decide ((lenI x0) > 0)))
     refine fill_nil S1 ?_; clear S1; intro a_ S1
     replace R0 := R0.step hW
     rw [show (decide ((lenI x0) > 0)) = true from hl0] at S1
     exact RPost.one (v := v0) S1 tys tys_ok rfl (by kernel_rfl) S.defers ⟨fun _ => R0, fun k_ => absurd hc0 k_⟩ (Below.refl _ _)
    ·have hl0 : (decide ((lenI x0) > 0)) = false := Bool.eq_false_iff.2 hc0
     have S1 := S
     intro v_63 hF_62; obtain rfl : .bool (decide ((lenI x0) > 0)) = v_63 := Eq.symm hF_62
     replace S1 := S1.put (by decide : 47 < 87) (.bool (decide ((lenI x0) > 0)))
     refine fill_nil S1 ?_; clear S1; intro a_ S1
     rw [show (decide ((lenI x0) > 0)) = false from hl0] at S1
     exact RPost.one (v := undef) S1 tys tys_ok rfl (by kernel_rfl) S.defers ⟨fun k_ => absurd k_ hc0, fun _ => rfl⟩ (Below.refl _ _)
   refine RunAll.cons (cndF (decide ((lenI x0) > 0)) true (isRep (.sl gt2) (Kx K w.heap.size [some b_1]) x0)) [(eqv (.bool (decide ((lenI x0) > 0))), 47)] rfl rfl ?_ ?_
   ·intro W_ hW
    by_cases hc0 : (decide ((lenI x0) > 0)) = true
    ·have hl0 : (decide ((lenI x0) > 0)) = true := hc0
     have S1 := S
     intro v_65 hF_64; obtain rfl : .bool (decide ((lenI x0) > 0)) = v_65 := Eq.symm hF_64
     replace S1 := S1.put (by decide : 47 < 87) (.bool (decide ((lenI x0) > 0)))
     refine fill_nil S1 ?_; clear S1; intro a_ S1
     replace R0 := R0.step hW
     rw [show (decide ((lenI x0) > 0)) = true from hl0] at S1
     exact RPost.one (v := v0) S1 tys tys_ok rfl (by kernel_rfl) S.defers ⟨fun _ => R0, fun k_ => absurd hc0 k_⟩ (Below.refl _ _)
    ·have hl0 : (decide ((lenI x0) > 0)) = false := Bool.eq_false_iff.2 hc0
     have S1 := S
     intro v_67 hF_66; obtain rfl : .bool (decide ((lenI x0) > 0)) = v_67 := Eq.symm hF_66
     replace S1 := S1.put (by decide : 47 < 87) (.bool (decide ((lenI x0) > 0)))
     refine fill_nil S1 ?_; clear S1; intro a_ S1
     rw [show (decide ((lenI x0) > 0)) = false from hl0] at S1
     exact RPost.one (v := undef) S1 tys tys_ok rfl (by kernel_rfl) S.defers ⟨fun k_ => absurd k_ hc0, fun _ => rfl⟩ (Below.refl _ _)
   refine RunAll.cons (cndF (decide ((lenI x0) > 0)) true (isI .i64 (lenI x0))) [(cndF (decide ((lenI x0) > 0)) true (isRep (.sl gt2) (Kx K w.heap.size [some b_1]) x0), 49), (eqv (.bool (decide ((lenI x0) > 0))), 47)] rfl rfl ?_ ?_
   ·intro W_ hW
    by_cases hc0 : (decide ((lenI x0) > 0)) = true
    ·have hl0 : (decide ((lenI x0) > 0)) = true := hc0
     have S1 := S
     intro v_68 hF_69
     replace hF_69 := cndF.pos hF_69 hc0
     revert hF_69
     revert v_68
     intro v_71 hF_70; replace hF_70 : RepV _ _ _ _ _ := hF_70
     replace S1 := S1.put (by decide : 49 < 87) (v_71)
     intro v_73 hF_72; obtain rfl : .bool (decide ((lenI x0) > 0)) = v_73 := Eq.symm hF_72
     replace S1 := S1.put (by decide : 47 < 87) (.bool (decide ((lenI x0) > 0)))
     refine fill_nil S1 ?_; clear S1; intro a_ S1
     replace W := W.step hW
     rw [show (decide ((lenI x0) > 0)) = true from hl0] at S1
     have S0 := S.defers; replace S := S1; clear S1
     obtain ⟨ex_39, ey_40, et_48, _⟩ := (HG_37).1 hc0
     refine w_go S rfl (op_len (K := _) S rfl ty25 rfl rfl rfl hF_70 ?_)
     clear S; intro a G_74 S
     refine wpList_nil ?_
     exact RPost.mk_ S rfl S0 ⟨fun _ => ⟨rfl, G_74⟩, fun k_ => absurd hc0 k_⟩ (Below.refl _ _)
    ·have hl0 : (decide ((lenI x0) > 0)) = false := Bool.eq_false_iff.2 hc0
     have S1 := S
     intro v_75 hF_76
     obtain rfl := cndF.neg hF_76 hc0
     replace S1 := S1.put (by decide : 49 < 87) (undef)
     intro v_78 hF_77; obtain rfl : .bool (decide ((lenI x0) > 0)) = v_78 := Eq.symm hF_77
     replace S1 := S1.put (by decide : 47 < 87) (.bool (decide ((lenI x0) > 0)))
     refine fill_nil S1 ?_; clear S1; intro a_ S1
     rw [show (decide ((lenI x0) > 0)) = false from hl0] at S1
     exact RPost.one (v := undef) S1 tys tys_ok rfl (by kernel_rfl) S.defers ⟨fun k_ => absurd k_ hc0, fun _ => rfl⟩ (Below.refl _ _)
   refine RunAll.cons (cndF (decide ((lenI x0) > 0)) true (isI .i64 x_39)) [(cndF (decide ((lenI x0) > 0)) true (isI .i64 (lenI x0)), 50), (eqv (.bool (decide ((lenI x0) > 0))), 47)] rfl rfl ?_ ?_
   ·intro W_ hW
    by_cases hc0 : (decide ((lenI x0) > 0)) = true
    ·have hl0 : (decide ((lenI x0) > 0)) = true := hc0
     have S1 := S
     intro v_79 hF_80
     replace hF_80 := cndF.pos hF_80 hc0
     revert hF_80
     revert v_79
     rintro _ ⟨rfl, hF_81⟩
     replace S1 := S1.put (by decide : 50 < 87) (.int .i64 (lenI x0))
     intro v_84 hF_83; obtain rfl : .bool (decide ((lenI x0) > 0)) = v_84 := Eq.symm hF_83
     replace S1 := S1.put (by decide : 47 < 87) (.bool (decide ((lenI x0) > 0)))
     refine fill_nil S1 ?_; clear S1; intro a_ S1
     rw [show (decide ((lenI x0) > 0)) = true from hl0] at S1
     have S0 := S.defers; replace S := S1; clear S1
     obtain ⟨ex_39, ey_40, et_48, _⟩ := (HG_37).1 hc0
     refine w_go S rfl (op_arith S .i64 ((lenI x0) - 1) rfl (.inr (.inl rfl)) rfl rfl rfl rfl ex_39 ?_)
     clear S; intro a S
     refine wpList_nil ?_
     exact RPost.mk_ S rfl S0 ⟨fun _ => ⟨rfl, (ckI_some ex_39).2.1⟩, fun k_ => absurd hc0 k_⟩ (Below.refl _ _)
    ·have hl0 : (decide ((lenI x0) > 0)) = false := Bool.eq_false_iff.2 hc0
     have S1 := S
     intro v_85 hF_86
     obtain rfl := cndF.neg hF_86 hc0
     replace S1 := S1.put (by decide : 50 < 87) (undef)
     intro v_88 hF_87; obtain rfl : .bool (decide ((lenI x0) > 0)) = v_88 := Eq.symm hF_87
     replace S1 := S1.put (by decide : 47 < 87) (.bool (decide ((lenI x0) > 0)))
     refine fill_nil S1 ?_; clear S1; intro a_ S1
     rw [show (decide ((lenI x0) > 0)) = false from hl0] at S1
     exact RPost.one (v := undef) S1 tys tys_ok rfl (by kernel_rfl) S.defers ⟨fun k_ => absurd k_ hc0, fun _ => rfl⟩ (Below.refl _ _)
   refine RunAll.cons (cndF (decide ((lenI x0) > 0)) true (isEl gt2 (Kx K w.heap.size [some b_1]) y_40)) [(cndF (decide ((lenI x0) > 0)) true (isRep (.sl gt2) (Kx K w.heap.size [some b_1]) x0), 48), (cndF (decide ((lenI x0) > 0)) true (isI .i64 x_39), 51), (eqv (.bool (decide ((lenI x0) > 0))), 47)] rfl rfl ?_ ?_
   ·intro W_ hW
    by_cases hc0 : (decide ((lenI x0) > 0)) = true
    ·have hl0 : (decide ((lenI x0) > 0)) = true := hc0
     have S1 := S
     intro v_89 hF_90
     replace hF_90 := cndF.pos hF_90 hc0
     revert hF_90
     revert v_89
     intro v_92 hF_91; replace hF_91 : RepV _ _ _ _ _ := hF_91
     replace S1 := S1.put (by decide : 48 < 87) (v_92)
     intro v_93 hF_94
     replace hF_94 := cndF.pos hF_94 hc0
     revert hF_94
     revert v_93
     rintro _ ⟨rfl, hF_95⟩
     replace S1 := S1.put (by decide : 51 < 87) (.int .i64 x_39)
     intro v_98 hF_97; obtain rfl : .bool (decide ((lenI x0) > 0)) = v_98 := Eq.symm hF_97
     replace S1 := S1.put (by decide : 47 < 87) (.bool (decide ((lenI x0) > 0)))
     refine fill_nil S1 ?_; clear S1; intro a_ S1
     replace W := W.step hW
     rw [show (decide ((lenI x0) > 0)) = true from hl0] at S1
     have S0 := S.defers; replace S := S1; clear S1
     obtain ⟨ex_39, ey_40, et_48, _⟩ := (HG_37).1 hc0
     refine w_go S rfl (op_indexAddr S rfl ty25 rfl rfl rfl hF_91 rfl ey_40 ?_)
     clear S; intro a p_99 R_100 H_101 S
     refine wpList_nil ?_
     exact RPost.mk_ S rfl S0 ⟨fun _ => ⟨_, rfl, R_100, H_101⟩, fun k_ => absurd hc0 k_⟩ (Below.refl _ _)
    ·have hl0 : (decide ((lenI x0) > 0)) = false := Bool.eq_false_iff.2 hc0
     have S1 := S
     intro v_102 hF_103
     obtain rfl := cndF.neg hF_103 hc0
     replace S1 := S1.put (by decide : 48 < 87) (undef)
     intro v_104 hF_105
     obtain rfl := cndF.neg hF_105 hc0
     replace S1 := S1.put (by decide : 51 < 87) (undef)
     intro v_107 hF_106; obtain rfl : .bool (decide ((lenI x0) > 0)) = v_107 := Eq.symm hF_106
     replace S1 := S1.put (by decide : 47 < 87) (.bool (decide ((lenI x0) > 0)))
     refine fill_nil S1 ?_; clear S1; intro a_ S1
     rw [show (decide ((lenI x0) > 0)) = false from hl0] at S1
     exact RPost.one (v := undef) S1 tys tys_ok rfl (by kernel_rfl) S.defers ⟨fun k_ => absurd k_ hc0, fun _ => rfl⟩ (Below.refl _ _)
   refine RunAll.cons (cndF (decide ((lenI x0) > 0)) true (isEl (.sl (.int .u8)) (Kx K w.heap.size [some b_1]) y_40.1)) [(cndF (decide ((lenI x0) > 0)) true (isEl gt2 (Kx K w.heap.size [some b_1]) y_40), 52), (eqv (.bool (decide ((lenI x0) > 0))), 47)] rfl rfl ?_ ?_
   ·intro W_ hW
    by_cases hc0 : (decide ((lenI x0) > 0)) = true
    ·have hl0 : (decide ((lenI x0) > 0)) = true := hc0
     have S1 := S
     intro v_108 hF_109
     replace hF_109 := cndF.pos hF_109 hc0
     revert hF_109
     revert v_108
     rintro _ ⟨p_112, rfl, R_113, H_114⟩
     replace S1 := S1.put (by decide : 52 < 87) (.pointer (some p_112))
     intro v_116 hF_115; obtain rfl : .bool (decide ((lenI x0) > 0)) = v_116 := Eq.symm hF_115
     replace S1 := S1.put (by decide : 47 < 87) (.bool (decide ((lenI x0) > 0)))
     refine fill_nil S1 ?_; clear S1; intro a_ S1
     rw [show (decide ((lenI x0) > 0)) = true from hl0] at S1
     exact RPost.one (v := .pointer (some (p_112.add (coff gf2 0)))) S1 tys tys_ok rfl (by kernel_rfl) S.defers ⟨fun _ => ⟨_, rfl, (RepAt.add 0 (RepAt.st (t := gf2) R_113)), (by simpa [Addr.add] using H_114)⟩, fun k_ => absurd hc0 k_⟩ (Below.refl _ _)
    ·have hl0 : (decide ((lenI x0) > 0)) = false := Bool.eq_false_iff.2 hc0
     have S1 := S
     intro v_117 hF_118
     obtain rfl := cndF.neg hF_118 hc0
     replace S1 := S1.put (by decide : 52 < 87) (undef)
     intro v_120 hF_119; obtain rfl : .bool (decide ((lenI x0) > 0)) = v_120 := Eq.symm hF_119
     replace S1 := S1.put (by decide : 47 < 87) (.bool (decide ((lenI x0) > 0)))
     refine fill_nil S1 ?_; clear S1; intro a_ S1
     rw [show (decide ((lenI x0) > 0)) = false from hl0] at S1
     exact RPost.one (v := undef) S1 tys tys_ok rfl (by kernel_rfl) S.defers ⟨fun k_ => absurd k_ hc0, fun _ => rfl⟩ (Below.refl _ _)
   refine RunAll.cons (cndF (decide ((lenI x0) > 0)) true (isRep (.sl (.int .u8)) (Kx K w.heap.size [some b_1]) y_40.1)) [(cndF (decide ((lenI x0) > 0)) true (isEl (.sl (.int .u8)) (Kx K w.heap.size [some b_1]) y_40.1), 53), (eqv (.bool (decide ((lenI x0) > 0))), 47)] rfl rfl ?_ ?_
   ·intro W_ hW
    by_cases hc0 : (decide ((lenI x0) > 0)) = true
    ·have hl0 : (decide ((lenI x0) > 0)) = true := hc0
     have S1 := S
     intro v_121 hF_122
     replace hF_122 := cndF.pos hF_122 hc0
     revert hF_122
     revert v_121
     rintro _ ⟨p_125, rfl, R_126, H_127⟩
     replace S1 := S1.put (by decide : 53 < 87) (.pointer (some p_125))
     intro v_129 hF_128; obtain rfl : .bool (decide ((lenI x0) > 0)) = v_129 := Eq.symm hF_128
     replace S1 := S1.put (by decide : 47 < 87) (.bool (decide ((lenI x0) > 0)))
     refine fill_nil S1 ?_; clear S1; intro a_ S1
     rw [show (decide ((lenI x0) > 0)) = true from hl0] at S1
     have S0 := S.defers; replace S := S1; clear S1
     obtain ⟨ex_39, ey_40, et_48, _⟩ := (HG_37).1 hc0
     refine w_go S rfl (op_load (t := (.sl (.int .u8))) (x := y_40.1) S rfl ty35 rfl rfl rfl R_126 ?_)
     clear S; intro a v_130 R_131 S
     refine wpList_nil ?_
     exact RPost.mk_ S rfl S0 ⟨fun _ => R_131, fun k_ => absurd hc0 k_⟩ (Below.refl _ _)
    ·have hl0 : (decide ((lenI x0) > 0)) = false := Bool.eq_false_iff.2 hc0
     have S1 := S
     intro v_132 hF_133
     obtain rfl := cndF.neg hF_133 hc0
     replace S1 := S1.put (by decide : 53 < 87) (undef)
     intro v_135 hF_134; obtain rfl : .bool (decide ((lenI x0) > 0)) = v_135 := Eq.symm hF_134
     replace S1 := S1.put (by decide : 47 < 87) (.bool (decide ((lenI x0) > 0)))
     refine fill_nil S1 ?_; clear S1; intro a_ S1
     rw [show (decide ((lenI x0) > 0)) = false from hl0] at S1
     exact RPost.one (v := undef) S1 tys tys_ok rfl (by kernel_rfl) S.defers ⟨fun k_ => absurd k_ hc0, fun _ => rfl⟩ (Below.refl _ _)
   refine RunAll.cons (cndF (decide ((lenI x0) > 0)) true (eqv (.pointer (some ((⟨b_1, 0, .none⟩ : Addr).add (coff gf2 0)))))) [(eqv (.bool (decide ((lenI x0) > 0))), 47)] rfl rfl ?_ ?_
   ·intro W_ hW
    by_cases hc0 : (decide ((lenI x0) > 0)) = true
    ·have hl0 : (decide ((lenI x0) > 0)) = true := hc0
     have S1 := S
     intro v_137 hF_136; obtain rfl : .bool (decide ((lenI x0) > 0)) = v_137 := Eq.symm hF_136
     replace S1 := S1.put (by decide : 47 < 87) (.bool (decide ((lenI x0) > 0)))
     refine fill_nil S1 ?_; clear S1; intro a_ S1
     replace B_2 := B_2.step hW
     rw [show (decide ((lenI x0) > 0)) = true from hl0] at S1
     exact RPost.one (v := .pointer (some ((⟨b_1, 0, .none⟩ : Addr).add (coff gf2 0)))) S1 tys tys_ok rfl (by kernel_rfl) S.defers ⟨fun _ => rfl, fun k_ => absurd hc0 k_⟩ (Below.refl _ _)
    ·have hl0 : (decide ((lenI x0) > 0)) = false := Bool.eq_false_iff.2 hc0
     have S1 := S
     intro v_139 hF_138; obtain rfl : .bool (decide ((lenI x0) > 0)) = v_139 := Eq.symm hF_138
     replace S1 := S1.put (by decide : 47 < 87) (.bool (decide ((lenI x0) > 0)))
     refine fill_nil S1 ?_; clear S1; intro a_ S1
     rw [show (decide ((lenI x0) > 0)) = false from hl0] at S1
     exact RPost.one (v := undef) S1 tys tys_ok rfl (by kernel_rfl) S.defers ⟨fun k_ => absurd k_ hc0, fun _ => rfl⟩ (Below.refl _ _)
   refine RunAll.cons (cndF (decide ((lenI x0) > 0)) true (isRep (.sl (.int .u8)) (Kx K w.heap.size [some b_1]) x1.1)) [(cndF (decide ((lenI x0) > 0)) true (eqv (.pointer (some ((⟨b_1, 0, .none⟩ : Addr).add (coff gf2 0))))), 55), (eqv (.bool (decide ((lenI x0) > 0))), 47)] rfl rfl ?_ ?_
   ·intro W_ hW
    by_cases hc0 : (decide ((lenI x0) > 0)) = true
    ·have hl0 : (decide ((lenI x0) > 0)) = true := hc0
     have S1 := S
     intro v_140 hF_141
     replace hF_141 := cndF.pos hF_141 hc0
     revert hF_141
     revert v_140
     intro v_143 hF_142; obtain rfl : .pointer (some ((⟨b_1, 0, .none⟩ : Addr).add (coff gf2 0))) = v_143 := Eq.symm hF_142
     replace S1 := S1.put (by decide : 55 < 87) (.pointer (some ((⟨b_1, 0, .none⟩ : Addr).add (coff gf2 0))))
     intro v_145 hF_144; obtain rfl : .bool (decide ((lenI x0) > 0)) = v_145 := Eq.symm hF_144
     replace S1 := S1.put (by decide : 47 < 87) (.bool (decide ((lenI x0) > 0)))
     refine fill_nil S1 ?_; clear S1; intro a_ S1
     replace B_2 := B_2.step hW
     rw [show (decide ((lenI x0) > 0)) = true from hl0] at S1
     have S0 := S.defers; replace S := S1; clear S1
     obtain ⟨ex_39, ey_40, et_48, _⟩ := (HG_37).1 hc0
     refine w_go S rfl (op_load (t := (.sl (.int .u8))) (x := x1.1) S rfl ty35 rfl rfl rfl (RepAt.add 0 (RepAt.st (t := gf2) B_2.at_)) ?_)
     clear S; intro a v_146 R_147 S
     refine wpList_nil ?_
     exact RPost.mk_ S rfl S0 ⟨fun _ => R_147, fun k_ => absurd hc0 k_⟩ (Below.refl _ _)
    ·have hl0 : (decide ((lenI x0) > 0)) = false := Bool.eq_false_iff.2 hc0
     have S1 := S
     intro v_148 hF_149
     obtain rfl := cndF.neg hF_149 hc0
     replace S1 := S1.put (by decide : 55 < 87) (undef)
     intro v_151 hF_150; obtain rfl : .bool (decide ((lenI x0) > 0)) = v_151 := Eq.symm hF_150
     replace S1 := S1.put (by decide : 47 < 87) (.bool (decide ((lenI x0) > 0)))
     refine fill_nil S1 ?_; clear S1; intro a_ S1
     rw [show (decide ((lenI x0) > 0)) = false from hl0] at S1
     exact RPost.one (v := undef) S1 tys tys_ok rfl (by kernel_rfl) S.defers ⟨fun k_ => absurd k_ hc0, fun _ => rfl⟩ (Below.refl _ _)
   refine RunAll.cons (cndF (decide ((lenI x0) > 0)) true (isI .i64 t_48)) [(cndF (decide ((lenI x0) > 0)) true (isRep (.sl (.int .u8)) (Kx K w.heap.size [some b_1]) y_40.1), 54), (cndF (decide ((lenI x0) > 0)) true (isRep (.sl (.int .u8)) (Kx K w.heap.size [some b_1]) x1.1), 56), (eqv (.bool (decide ((lenI x0) > 0))), 47)] rfl rfl ?_ ?_
   ·intro W_ hW
    by_cases hc0 : (decide ((lenI x0) > 0)) = true
    ·have hl0 : (decide ((lenI x0) > 0)) = true := hc0
     have S1 := S
     intro v_152 hF_153
     replace hF_153 := cndF.pos hF_153 hc0
     revert hF_153
     revert v_152
     intro v_155 hF_154; replace hF_154 : RepV _ _ _ _ _ := hF_154
     replace S1 := S1.put (by decide : 54 < 87) (v_155)
     intro v_156 hF_157
     replace hF_157 := cndF.pos hF_157 hc0
     revert hF_157
     revert v_156
     intro v_159 hF_158; replace hF_158 : RepV _ _ _ _ _ := hF_158
     replace S1 := S1.put (by decide : 56 < 87) (v_159)
     intro v_161 hF_160; obtain rfl : .bool (decide ((lenI x0) > 0)) = v_161 := Eq.symm hF_160
     replace S1 := S1.put (by decide : 47 < 87) (.bool (decide ((lenI x0) > 0)))
     refine fill_nil S1 ?_; clear S1; intro a_ S1
     replace W := W.step hW
     rw [show (decide ((lenI x0) > 0)) = true from hl0] at S1
     have S0 := S.defers; replace S := S1; clear S1
     obtain ⟨ex_39, ey_40, et_48, _⟩ := (HG_37).1 hc0
     refine w_go S rfl (op_call (vs := [v_155, v_159]) S rfl cb32 rfl rfl rfl (c32 (Kx K w.heap.size [some b_1]) n W_ y_40.1 _ hF_154 x1.1 _ hF_158 et_48) ?_)
     rintro _ w_165 ⟨v_162, rfl, R_163, hb_164⟩; refine ⟨_, rfl, ?_⟩
     replace R_163 := RepV.back R_163 W
     clear S; intro a S
     obtain ⟨rfl, GR_163⟩ := RepV.int R_163
     refine wpList_nil ?_
     exact RPost.mk_ S rfl S0 ⟨fun _ => ⟨rfl, GR_163⟩, fun k_ => absurd hc0 k_⟩ (hb_164)
    ·have hl0 : (decide ((lenI x0) > 0)) = false := Bool.eq_false_iff.2 hc0
     have S1 := S
     intro v_166 hF_167
     obtain rfl := cndF.neg hF_167 hc0
     replace S1 := S1.put (by decide : 54 < 87) (undef)
     intro v_168 hF_169
     obtain rfl := cndF.neg hF_169 hc0
     replace S1 := S1.put (by decide : 56 < 87) (undef)
     intro v_171 hF_170; obtain rfl : .bool (decide ((lenI x0) > 0)) = v_171 := Eq.symm hF_170
     replace S1 := S1.put (by decide : 47 < 87) (.bool (decide ((lenI x0) > 0)))
     refine fill_nil S1 ?_; clear S1; intro a_ S1
     rw [show (decide ((lenI x0) > 0)) = false from hl0] at S1
     exact RPost.one (v := undef) S1 tys tys_ok rfl (by kernel_rfl) S.defers ⟨fun k_ => absurd k_ hc0, fun _ => rfl⟩ (Below.refl _ _)
   refine RunAll.cons (cndF (decide ((lenI x0) > 0)) true (eqv (.bool (decide (t_48 ≥ 0))))) [(cndF (decide ((lenI x0) > 0)) true (isI .i64 t_48), 57), (eqv (.bool (decide ((lenI x0) > 0))), 47)] rfl rfl ?_ ?_
   ·intro W_ hW
    by_cases hc0 : (decide ((lenI x0) > 0)) = true
    ·have hl0 : (decide ((lenI x0) > 0)) = true := hc0
     have S1 := S
     intro v_172 hF_173
     replace hF_173 := cndF.pos hF_173 hc0
     revert hF_173
     revert v_172
     rintro _ ⟨rfl, hF_174⟩
     replace S1 := S1.put (by decide : 57 < 87) (.int .i64 t_48)
     intro v_177 hF_176; obtain rfl : .bool (decide ((lenI x0) > 0)) = v_177 := Eq.symm hF_176
     replace S1 := S1.put (by decide : 47 < 87) (.bool (decide ((lenI x0) > 0)))
     refine fill_nil S1 ?_; clear S1; intro a_ S1
     rw [show (decide ((lenI x0) > 0)) = true from hl0] at S1
     exact RPost.one (v := .bool (decide (t_48 ≥ 0))) S1 tys tys_ok rfl (by kernel_rfl) S.defers ⟨fun _ => rfl, fun k_ => absurd hc0 k_⟩ (Below.refl _ _)
    ·have hl0 : (decide ((lenI x0) > 0)) = false := Bool.eq_false_iff.2 hc0
     have S1 := S
     intro v_178 hF_179
     obtain rfl := cndF.neg hF_179 hc0
     replace S1 := S1.put (by decide : 57 < 87) (undef)
     intro v_181 hF_180; obtain rfl : .bool (decide ((lenI x0) > 0)) = v_181 := Eq.symm hF_180
     replace S1 := S1.put (by decide : 47 < 87) (.bool (decide ((lenI x0) > 0)))
     refine fill_nil S1 ?_; clear S1; intro a_ S1
     rw [show (decide ((lenI x0) > 0)) = false from hl0] at S1
     exact RPost.one (v := undef) S1 tys tys_ok rfl (by kernel_rfl) S.defers ⟨fun k_ => absurd k_ hc0, fun _ => rfl⟩ (Below.refl _ _)
   refine RunAll.cons (eqv (.bool q_36)) [(eqv (.bool (decide ((lenI x0) > 0))), 47), (cndF (decide ((lenI x0) > 0)) true (eqv (.bool (decide (t_48 ≥ 0)))), 58)] rfl rfl ?_ ?_
   ·intro W_ hW
    by_cases hc0 : (decide ((lenI x0) > 0)) = true
    ·have hl0 : (decide ((lenI x0) > 0)) = true := hc0
     have S1 := S
     intro v_183 hF_182; obtain rfl : .bool (decide ((lenI x0) > 0)) = v_183 := Eq.symm hF_182
     replace S1 := S1.put (by decide : 47 < 87) (.bool (decide ((lenI x0) > 0)))
     intro v_184 hF_185
     replace hF_185 := cndF.pos hF_185 hc0
     revert hF_185
     revert v_184
     intro v_187 hF_186; obtain rfl : .bool (decide (t_48 ≥ 0)) = v_187 := Eq.symm hF_186
     replace S1 := S1.put (by decide : 58 < 87) (.bool (decide (t_48 ≥ 0)))
     refine fill_nil S1 ?_; clear S1; intro a_ S1
     rw [show (decide ((lenI x0) > 0)) = true from hl0] at S1
     exact RPost.one (v := .bool (decide (t_48 ≥ 0))) S1 tys tys_ok rfl (by kernel_rfl) S.defers (congrArg Value.bool ((HG_37).1 hc0).2.2.2) (Below.refl _ _)
    ·have hl0 : (decide ((lenI x0) > 0)) = false := Bool.eq_false_iff.2 hc0
     have S1 := S
     intro v_189 hF_188; obtain rfl : .bool (decide ((lenI x0) > 0)) = v_189 := Eq.symm hF_188
     replace S1 := S1.put (by decide : 47 < 87) (.bool (decide ((lenI x0) > 0)))
     intro v_190 hF_191
     obtain rfl := cndF.neg hF_191 hc0
     replace S1 := S1.put (by decide : 58 < 87) (undef)
     refine fill_nil S1 ?_; clear S1; intro a_ S1
     rw [show (decide ((lenI x0) > 0)) = false from hl0] at S1
     exact RPost.one (v := .bool false) S1 tys tys_ok rfl (by kernel_rfl) S.defers (congrArg Value.bool ((HG_37).2 hc0)) (Below.refl _ _)
   exact trivial
  intro w_192 hb_193
  refine EndE.some_ rfl ?_
  intro v_195 hF_194; replace hF_194 : RepV _ _ _ _ _ := hF_194
  replace S := S.put (by decide : 44 < 87) (v_195)
  refine EndE.some_ rfl ?_
  rintro _ ⟨rfl, hF_196⟩
  replace S := S.put (by decide : 45 < 87) (.int .i64 (lenI x0))
  refine EndE.some_ rfl ?_
  intro v_199 hF_198; obtain rfl : .bool (decide ((lenI x0) > 0)) = v_199 := Eq.symm hF_198
  replace S := S.put (by decide : 46 < 87) (.bool (decide ((lenI x0) > 0)))
  refine EndE.some_ rfl ?_
  intro v_201 hF_200; obtain rfl : .bool (decide ((lenI x0) > 0)) = v_201 := Eq.symm hF_200
  replace S := S.put (by decide : 47 < 87) (.bool (decide ((lenI x0) > 0)))
  refine EndE.some_ rfl ?_
  intro v_202 _
  replace S := S.put (by decide : 48 < 87) (v_202)
  refine EndE.some_ rfl ?_
  intro v_203 _
  replace S := S.put (by decide : 49 < 87) (v_203)
  refine EndE.some_ rfl ?_
  intro v_204 _
  replace S := S.put (by decide : 50 < 87) (v_204)
  refine EndE.some_ rfl ?_
  intro v_205 _
  replace S := S.put (by decide : 51 < 87) (v_205)
  refine EndE.some_ rfl ?_
  intro v_206 _
  replace S := S.put (by decide : 52 < 87) (v_206)
  refine EndE.some_ rfl ?_
  intro v_207 _
  replace S := S.put (by decide : 53 < 87) (v_207)
  refine EndE.some_ rfl ?_
  intro v_208 _
  replace S := S.put (by decide : 54 < 87) (v_208)
  refine EndE.some_ rfl ?_
  intro v_209 _
  replace S := S.put (by decide : 55 < 87) (v_209)
  refine EndE.some_ rfl ?_
  intro v_210 _
  replace S := S.put (by decide : 56 < 87) (v_210)
  refine EndE.some_ rfl ?_
  intro v_211 _
  replace S := S.put (by decide : 57 < 87) (v_211)
  refine EndE.some_ rfl ?_
  intro v_212 _
  replace S := S.put (by decide : 58 < 87) (v_212)
  refine EndE.some_ rfl ?_
  intro v_214 hF_213; obtain rfl : .bool q_36 = v_214 := Eq.symm hF_213
  replace S := S.put (by decide : 59 < 87) (.bool q_36)
  refine endE_nil S ?_; clear S; intro a S
  replace R0 := R0.step hb_193
  replace B_2 := B_2.step hb_193
  replace W := W.step hb_193
  refine then_n ?_
  replace S := S.sub (l' := [(59, .bool q_36), (3, pB b_1), (0, v0)]) (by exact ⟨rfl, rfl, rfl, trivial⟩)
  refine wp_cond_split (S.eval (show ev _ _ = some (.bool q_36) from rfl)) ?_ ?_
  ·intro hc
   rw [if_pos hc] at h
   refine wp_seq ?_
   refine wp_region_lit ?_
   refine wl_pureK (l' := [(4, .bool false)]) S tys tys_ok 1 [4] (by kernel_rfl) ?_
   clear S; intro a S
   refine wpList_nil ?_
   refine then_n ?_
   refine wp_ret ?_
   refine then_r ?_
   obtain rfl := Option.some.inj h
   exact b_ret1 S rfl rfl ⟨_, rfl, RepV.mkBool, W.below⟩
  ·intro hc
   rw [if_neg (Bool.eq_false_iff.1 hc)] at h
   refine wp_skip ?_
   refine then_n ?_
   replace S := S.sub (l' := [(3, pB b_1), (0, v0)]) (by exact ⟨rfl, rfl, trivial⟩)
   refine wp_seq ?_
   refine wp_seq ?_
   refine wp_region_lit ?_
   refine wl_pure (l' := [(60, .pointer (some ((⟨b_1, 0, .none⟩ : Addr).add (coff gf2 0)))), (3, pB b_1), (0, v0)]) S tys tys_ok 1 (by kernel_rfl) ?_
   clear S; intro a S
   refine w_go S rfl (op_load (t := (.sl (.int .u8))) (x := x1.1) S rfl ty35 rfl rfl rfl (RepAt.add 0 (RepAt.st (t := gf2) B_2.at_)) ?_)
   clear S; intro a v_215 R_216 S
   refine w_go S rfl (op_len (K := _) S rfl ty35 rfl rfl rfl R_216 ?_)
   clear S; intro a G_217 S
   refine wl_pureK (l' := [(63, .bool ((lenI x1.1) == 1)), (3, pB b_1), (0, v0)]) S tys tys_ok 1 [63, 3, 0] (by kernel_rfl) ?_
   clear S; intro a S
   refine wpList_nil ?_
   refine then_n ?_
   refine wp_cond_split (S.eval (show ev _ _ = some (.bool ((lenI x1.1) == 1)) from rfl)) ?_ ?_
   ·intro hc
    rw [if_pos hc] at h
    refine wp_seq ?_
    refine wp_region_lit ?_
    refine wl_pureK (l' := [(4, .bool true)]) S tys tys_ok 1 [4] (by kernel_rfl) ?_
    clear S; intro a S
    refine wpList_nil ?_
    refine then_n ?_
    refine wp_ret ?_
    refine then_r ?_
    obtain rfl := Option.some.inj h
    exact b_ret1 S rfl rfl ⟨_, rfl, RepV.mkBool, W.below⟩
   ·intro hc
    rw [if_neg (Bool.eq_false_iff.1 hc)] at h
    refine wp_skip ?_
    refine then_n ?_
    replace S := S.sub (l' := [(3, pB b_1), (0, v0)]) (by exact ⟨rfl, rfl, trivial⟩)
    refine wp_seq ?_
    refine wp_region_lit ?_
    refine wl_pure (l' := [(65, .pointer (some ((⟨b_1, 0, .none⟩ : Addr).add (coff gf2 0)))), (3, pB b_1), (0, v0)]) S tys tys_ok 1 (by kernel_rfl) ?_
    clear S; intro a S
    refine w_go S rfl (op_load (t := (.sl (.int .u8))) (x := x1.1) S rfl ty35 rfl rfl rfl (RepAt.add 0 (RepAt.st (t := gf2) B_2.at_)) ?_)
    clear S; intro a v_218 R_219 S
    obtain ⟨t_220, et_220, h⟩ := bindS h
    refine w_go S rfl (op_call (vs := [v_218]) S rfl cb29 rfl rfl rfl (c29 (Kx K w.heap.size [some b_1]) n w_192 x1.1 _ R_219 et_220) ?_)
    rintro _ w_226 ⟨v_221, v_222, rfl, R_223, R_224, hb_225⟩; refine ⟨_, rfl, ?_⟩
    replace R_223 := RepV.back R_223 W
    replace R_224 := RepV.back R_224 W
    clear S; intro a S
    replace R0 := R0.step hb_225
    replace R_219 := R_219.step hb_225
    replace B_2 := B_2.step hb_225
    replace W := W.step hb_225
    obtain ⟨rfl, GR_224⟩ := RepV.int R_224
    refine wl_pureK (l' := [(5, v_221), (3, pB b_1), (0, v0)]) S tys tys_ok 5 [5, 3, 0] (by kernel_rfl) ?_
    clear S; intro a S
    refine wpList_nil ?_
    refine then_n ?_
    refine wp_seq ?_
    refine wp_region_lit ?_
    refine wl_pure (l' := [(71, v_221), (70, v0), (5, v_221), (3, pB b_1), (0, v0)]) S tys tys_ok 2 (by kernel_rfl) ?_
    clear S; intro a S
    obtain ⟨t_227, et_227, h⟩ := bindS h
    refine w_go S rfl (op_call (vs := [v0, v_221]) S rfl cb30 rfl rfl rfl (c30 (Kx K w.heap.size [some b_1]) n w_226 x0 _ R0 t_220.1 _ R_223 et_227) ?_)
    rintro _ w_231 ⟨v_228, rfl, R_229, hb_230⟩; refine ⟨_, rfl, ?_⟩
    replace R_229 := RepV.back R_229 W
    clear S; intro a S
    replace R0 := R0.step hb_230
    replace R_223 := R_223.step hb_230
    replace B_2 := B_2.step hb_230
    replace W := W.step hb_230
    obtain ⟨rfl, GR_229⟩ := RepV.int R_229
    refine wl_pureK (l' := [(7, .int .i64 t_227), (3, pB b_1), (0, v0)]) S tys tys_ok 1 [7, 3, 0] (by kernel_rfl) ?_
    clear S; intro a S
    refine wpList_nil ?_
    refine then_n ?_
    refine wp_seq ?_
    refine wp_region_lit ?_
    refine wl_pure (l' := [(75, .bool (decide (t_227 ≥ 0))), (74, .bool (decide (t_227 ≥ 0))), (73, .int .i64 t_227), (7, .int .i64 t_227), (3, pB b_1), (0, v0)]) S tys tys_ok 3 (by kernel_rfl) ?_
    clear S; intro a S
    obtain ⟨q_232, eq_232, h⟩ := bindS h
    refine seg 11 (fun a_ w_ => w_231 = w_ ∧ St 87 a_ [(86, .bool q_232)]) ?_ ?_
    ·by_cases hc : (decide (t_227 ≥ 0)) = true
     ·rw [if_pos hc] at eq_232; rw [hc] at S
      refine wl_pureK (l' := [(76, .pointer (some ((⟨b_1, 0, .none⟩ : Addr).add (coff gf2 3)))), (75, .bool true), (7, .int .i64 t_227), (0, v0)]) S tys tys_ok 1 [76, 75, 7, 0] (by kernel_rfl) ?_
      clear S; intro a S
      refine w_go S rfl (op_load (t := .bool) (x := x1.2.2.2.1) S rfl ty4 rfl rfl rfl (RepAt.add 3 (RepAt.st (t := gf2) B_2.at_)) ?_)
      clear S; intro a v_233 R_234 S
      obtain rfl := RepV.bool R_234
      refine wl_pure (l' := [(78, .bool x1.2.2.2.1), (77, .bool x1.2.2.2.1), (76, .pointer (some ((⟨b_1, 0, .none⟩ : Addr).add (coff gf2 3)))), (75, .bool true), (7, .int .i64 t_227), (0, v0)]) S tys tys_ok 1 (by kernel_rfl) ?_
      clear S; intro a S
      obtain ⟨q_235, eq_235, eq_232⟩ := bindS eq_232
      refine seg 7 (fun a_ w_ => w_231 = w_ ∧ St 87 a_ [(85, .bool q_235), (75, .bool true)]) ?_ ?_
      ·by_cases hc : x1.2.2.2.1 = false
       ·rw [if_pos hc] at eq_235; rw [hc] at S
        refine wl_pureK (l' := [(80, .int .i64 t_227), (79, v0), (78, .bool false), (75, .bool true)]) S tys tys_ok 2 [80, 79, 78, 75] (by kernel_rfl) ?_
        clear S; intro a S
        obtain ⟨y_236, ey_236, eq_235⟩ := bindS eq_235
        refine w_go S rfl (op_indexAddr S rfl ty25 rfl rfl rfl R0 rfl ey_236 ?_)
        clear S; intro a p_237 R_238 H_239 S
        refine wl_pureK (l' := [(82, .pointer (some (p_237.add (coff gf2 3)))), (78, .bool false), (75, .bool true)]) S tys tys_ok 1 [82, 78, 75] (by kernel_rfl) ?_
        clear S; intro a S
        refine w_go S rfl (op_load (t := .bool) (x := y_236.2.2.2.1) S rfl ty4 rfl rfl rfl (RepAt.add 3 (RepAt.st (t := gf2) R_238)) ?_)
        clear S; intro a v_240 R_241 S
        obtain rfl := RepV.bool R_241
        refine wl_pureK (l' := [(85, .bool (!y_236.2.2.2.1)), (75, .bool true)]) S tys tys_ok 2 [85, 75] (by kernel_rfl) ?_
        clear S; intro a S
        obtain rfl := Option.some.inj eq_235
        exact ⟨rfl, S.sub (by exact ⟨rfl, rfl, trivial⟩)⟩
       ·rw [if_neg hc] at eq_235; rw [show x1.2.2.2.1 = true from (by simpa using hc)] at S
        refine wl_pureK (l' := [(85, .bool true), (75, .bool true)]) S tys tys_ok 7 [85, 75] (by kernel_rfl) ?_
        clear S; intro a S
        obtain rfl := Option.some.inj eq_235
        exact ⟨rfl, S.sub (by exact ⟨rfl, rfl, trivial⟩)⟩
      clear S eq_235; rintro a _ ⟨rfl, S⟩
      refine wl_pure (l' := [(86, .bool q_235), (85, .bool q_235), (75, .bool true)]) S tys tys_ok 1 (by kernel_rfl) ?_
      clear S; intro a S
      obtain rfl := Option.some.inj eq_232
      exact ⟨rfl, S.sub (by exact ⟨rfl, trivial⟩)⟩
     ·rw [if_neg hc] at eq_232; rw [show (decide (t_227 ≥ 0)) = false from Bool.eq_false_iff.2 hc] at S
      refine wl_pureK (l' := [(86, .bool false)]) S tys tys_ok 11 [86] (by kernel_rfl) ?_
      clear S; intro a S
      obtain rfl := Option.some.inj eq_232
      exact ⟨rfl, S.sub (by exact ⟨rfl, trivial⟩)⟩
    clear S eq_232; rintro a _ ⟨rfl, S⟩
    refine wl_pure (l' := [(4, .bool q_232), (86, .bool q_232)]) S tys tys_ok 1 (by kernel_rfl) ?_
    clear S; intro a S
    refine wpList_nil ?_
    refine then_n ?_
    replace S := S.sub (l' := [(4, .bool q_232)]) (by exact ⟨rfl, trivial⟩)
    refine wp_ret ?_
    obtain rfl := Option.some.inj h
    exact b_ret1 S rfl rfl ⟨_, rfl, RepV.mkBool, W.below⟩
theorem cb38 : callB Try.prog 38 = true := by kernel_rfl
def p19_l1 (n : Nat) (x0 : Sl ((Sl (Int)) × Bool × Bool × Bool × Int)) : Nat → (Int) → Option ((Unit) ⊕ ((Int)))
 | 0, _ => .none
 | m + 1, c_3 => if (decide (c_3 < (lenI x0))) then ((idx x0.xs c_3).bind fun y_12 => (slI x0 0 c_3).bind fun s_26 => (p38 n s_26 y_12).bind fun t_29 => if (!t_29) then (some (.inr 1)) else (ckI .i64 (c_3 + 1)).bind fun x_66 => p19_l1 n x0 m x_66) else some (.inl ())
def p19 (n : Nat) (x0 : Sl ((Sl (Int)) × Bool × Bool × Bool × Int)) : Option ((Int)) :=
 if (decide ((lenI x0) > 127)) then (some 3) else (p19_l1 n x0 n 0).bind fun (y_7 : (Unit) ⊕ ((Int))) => lrK y_7 some fun (s_8 : Unit) => some 0
set_option maxHeartbeats 4000000 in
set_option maxRecDepth 100000 in
/-- plugboard/suspends.Check -/
theorem c19 (K : Nat → Prop) (n : Nat) (w : World) (x0 : Sl ((Sl (Int)) × Bool × Bool × Bool × Int)) (v0 : Value) (R0 : RepV (.sl gt2) w K v0 x0) {r : (Int)} (h : p19 n x0 = some r) :
  Calls Try.prog 19 #[v0] w (Ret1 (.int .i64) w (Kx K w.heap.size []) r) := by
 refine enter (args := [v0]) Try.func19 rfl 22 rfl rfl fun a S => ?_
 have W := Wd.start w
 replace R0 := R0.arg
 unfold p19 at h
 replace S : St 22 a [(0, v0)] := S
 refine wp_seq ?_
 refine wp_region_lit ?_
 refine wl_pure (l' := [(2, .int .i64 0), (0, v0)]) S tys tys_ok 1 (by kernel_rfl) ?_
 clear S; intro a S
 refine wpList_nil ?_
 refine then_n ?_
 replace S := S.sub (l' := [(0, v0)]) (by exact ⟨rfl, trivial⟩)
 refine wp_seq ?_
 refine wp_seq ?_
 refine wp_region_lit ?_
 refine wl_pure (l' := [(5, v0), (0, v0)]) S tys tys_ok 1 (by kernel_rfl) ?_
 clear S; intro a S
 refine w_go S rfl (op_len (K := _) S rfl ty25 rfl rfl rfl R0 ?_)
 clear S; intro a G_1 S
 refine wl_pure (l' := [(7, .bool (decide ((lenI x0) > 127))), (6, .int .i64 (lenI x0)), (5, v0), (0, v0)]) S tys tys_ok 1 (by kernel_rfl) ?_
 clear S; intro a S
 refine wpList_nil ?_
 refine then_n ?_
 replace S := S.sub (l' := [(7, .bool (decide ((lenI x0) > 127))), (0, v0)]) (by exact ⟨rfl, rfl, trivial⟩)
 refine wp_cond_split (S.eval (show ev _ _ = some (.bool (decide ((lenI x0) > 127))) from rfl)) ?_ ?_
 ·intro hc
  rw [if_pos hc] at h
  refine wp_seq ?_
  refine wp_region_lit ?_
  refine wl_pure (l' := [(2, .int .i64 3), (7, .bool (decide ((lenI x0) > 127))), (0, v0)]) S tys tys_ok 1 (by kernel_rfl) ?_
  clear S; intro a S
  refine wpList_nil ?_
  refine then_n ?_
  replace S := S.sub (l' := [(2, .int .i64 3)]) (by exact ⟨rfl, trivial⟩)
  refine wp_ret ?_
  refine then_r ?_
  obtain rfl := Option.some.inj h
  exact b_ret1 S rfl rfl ⟨_, rfl, (RepV.mkInt (by decide)), W.below⟩
 ·intro hc
  rw [if_neg (Bool.eq_false_iff.1 hc)] at h
  refine wp_skip ?_
  refine then_n ?_
  replace S := S.sub (l' := [(0, v0)]) (by exact ⟨rfl, trivial⟩)
  refine wp_seq ?_
  refine wp_seq ?_
  refine wp_region_lit ?_
  refine wl_pure (l' := [(8, v0), (0, v0)]) S tys tys_ok 1 (by kernel_rfl) ?_
  clear S; intro a S
  refine w_go S rfl (op_len (K := _) S rfl ty25 rfl rfl rfl R0 ?_)
  clear S; intro a G_2 S
  refine wl_pure (l' := [(10, .int .i64 0), (9, .int .i64 (lenI x0)), (8, v0), (0, v0)]) S tys tys_ok 1 (by kernel_rfl) ?_
  clear S; intro a S
  refine wpList_nil ?_
  refine then_n ?_
  obtain ⟨y_7, ey_7, h⟩ := bindS h
  refine wp_cut_ (fun a_ w_ => ∃ s_8 : Unit, y_7 = .inl s_8 ∧ (St 22 a_ [] ∧ Wd w w_ [])) ?_ ?_
  ·refine wp_block ?_
   refine wp_loop_n (fun m_ a_ w_ => ∃ (c_3 : Int) , St 22 a_ [(10, .int .i64 c_3), (9, .int .i64 (lenI x0)), (8, v0), (0, v0)] ∧ Wd w w_ [] ∧ InR .i64 c_3 ∧ RepV (.sl gt2) w_ (Kx K w.heap.size []) v0 x0 ∧ p19_l1 n x0 m_ c_3 = some y_7) n ?_ ?_
   ·skip
    exact ⟨0, ⟨S.sub (by exact ⟨rfl, rfl, rfl, rfl, trivial⟩), W, (by decide), R0, ey_7⟩⟩
   ·clear S W; rintro m_9 a w_11 ⟨c_3, S, W, G_4, R0, hl_10⟩
    cases m_9 with
    | zero => exact absurd hl_10 (by simp [p19_l1])
    | succ m_9 =>
     refine ⟨m_9, rfl, ?_⟩
     rw [p19_l1] at hl_10
     refine wp_seq ?_
     refine wp_region_lit ?_
     refine wl_pure (l' := [(11, .bool (decide (c_3 < (lenI x0)))), (10, .int .i64 c_3), (9, .int .i64 (lenI x0)), (8, v0), (0, v0)]) S tys tys_ok 1 (by kernel_rfl) ?_
     clear S; intro a S
     refine wpList_nil ?_
     refine then_n ?_
     refine wp_seq ?_
     refine wp_cond_split (S.eval (show ev _ _ = some (.bool (decide (c_3 < (lenI x0)))) from rfl)) ?_ ?_
     ·intro hc
      rw [if_pos hc] at hl_10
      refine wp_skip ?_
      refine then_n ?_
      replace S := S.sub (l' := [(10, .int .i64 c_3), (9, .int .i64 (lenI x0)), (8, v0), (0, v0)]) (by exact ⟨rfl, rfl, rfl, rfl, trivial⟩)
      refine wp_seq ?_
      refine wp_block ?_
      refine wp_seq ?_
      refine wp_region_lit ?_
      refine wl_pure (l' := [(12, .int .i64 c_3), (10, .int .i64 c_3), (9, .int .i64 (lenI x0)), (8, v0), (0, v0)]) S tys tys_ok 1 (by kernel_rfl) ?_
      clear S; intro a S
      obtain ⟨y_12, ey_12, hl_10⟩ := bindS hl_10
      refine w_go S rfl (op_indexAddr S rfl ty25 rfl rfl rfl R0 rfl ey_12 ?_)
      clear S; intro a p_13 R_14 H_15 S
      refine w_go S rfl (op_load (t := gt2) (x := y_12) S rfl ty37 rfl rfl rfl R_14 ?_)
      clear S; intro a v_16 R_17 S
      refine w_go S rfl (op_alloc (K := K) (n := w.heap.size) (L := []) (t := gt2) (y := (⟨[], some 0⟩, false, false, false, 0)) S rfl rfl rfl _ z37 (fun w K => ⟨[.slice .none 0 0], [.bool false, .bool false, .bool false, .int .i64 0], rfl, ⟨.none, 0, 0, rfl, rfl, Nat.le_refl _, by decide, fun k h => Option.some.inj h, .inl rfl⟩, ⟨[.bool false], [.bool false, .bool false, .int .i64 0], rfl, rfl, ⟨[.bool false], [.bool false, .int .i64 0], rfl, rfl, ⟨[.bool false], [.int .i64 0], rfl, rfl, ⟨rfl, by decide⟩⟩⟩⟩⟩) ?_)
      clear S; intro a w_20 b_18 hb_21 B_19 S
      replace R0 := R0.box hb_21
      replace R_17 := R_17.box hb_21
      replace W := W.box hb_21
      refine wl_pure (l' := [(3, .int .i64 c_3), (4, pB b_18), (14, v_16), (13, .pointer (some p_13)), (12, .int .i64 c_3), (10, .int .i64 c_3), (9, .int .i64 (lenI x0)), (8, v0), (0, v0)]) S tys tys_ok 1 (by kernel_rfl) ?_
      clear S; intro a S
      refine w_go S rfl (op_store (t' := gt2) S rfl rfl ty37 rfl rfl rfl B_19 (by simp) Ln.whole R_17 ?_)
      intro w_22 hw_23 B_
      replace R0 := R0.wrote hw_23 (by simp)
      replace R_17 := R_17.wrote hw_23 (by simp)
      replace W := W.wrote hw_23 (by simp)
      replace B_19 : Bx gt2 37 w_22 (Kx K w.heap.size [some b_18]) b_18 y_12 := B_; clear B_
      refine wpList_nil ?_
      refine then_n ?_
      replace S := S.sub (l' := [(3, .int .i64 c_3), (4, pB b_18), (10, .int .i64 c_3), (9, .int .i64 (lenI x0)), (8, v0), (0, v0)]) (by exact ⟨rfl, rfl, rfl, rfl, rfl, rfl, trivial⟩)
      refine wp_seq ?_
      obtain ⟨s_26, es_26, hl_10⟩ := bindS hl_10
      obtain ⟨t_29, et_29, hl_10⟩ := bindS hl_10
      have hR : Rel (Kx K w.heap.size [some b_18]) Bl := Bl.rel _
      refine wp_region_all hR [isRep (.sl gt2) (Kx K w.heap.size [some b_18]) x0, isI .i64 c_3, isRep (.sl gt2) (Kx K w.heap.size [some b_18]) s_26, isRep gt2 (Kx K w.heap.size [some b_18]) y_12, eqv (.bool t_29), eqv (.bool (!t_29))] [[], [], [(0, 15), (1, 16)], [], [(2, 17), (3, 18)], [(4, 19)]] (by kernel_rfl) (by rw [S.size]; kernel_rfl) (by kernel_rfl) (by kernel_rfl) rfl ⟨(stab_rep hR), stab_I, (stab_rep hR), (stab_rep hR), (stab_eqv _), (stab_eqv _), trivial⟩ ?_ ?_
      ·
       refine RunAll.cons (isRep (.sl gt2) (Kx K w.heap.size [some b_18]) x0) [] rfl rfl ?_ ?_
       ·intro W_ hW
        have S1 := S
        replace R0 := R0.step hW
        exact RPost.one (v := v0) S1 tys tys_ok rfl (by kernel_rfl) S.defers R0 (Below.refl _ _)
       refine RunAll.cons (isI .i64 c_3) [] rfl rfl ?_ ?_
       ·intro W_ hW
        have S1 := S
        exact RPost.one (v := .int .i64 c_3) S1 tys tys_ok rfl (by kernel_rfl) S.defers ⟨rfl, G_4⟩ (Below.refl _ _)
       refine RunAll.cons (isRep (.sl gt2) (Kx K w.heap.size [some b_18]) s_26) [(isRep (.sl gt2) (Kx K w.heap.size [some b_18]) x0, 15), (isI .i64 c_3, 16)] rfl rfl ?_ ?_
       ·intro W_ hW
        have S1 := S
        intro v_35 hF_34; replace hF_34 : RepV _ _ _ _ _ := hF_34
        replace S1 := S1.put (by decide : 15 < 22) (v_35)
        rintro _ ⟨rfl, hF_36⟩
        replace S1 := S1.put (by decide : 16 < 22) (.int .i64 c_3)
        refine fill_nil S1 ?_; clear S1; intro a_ S1
        have S0 := S.defers; replace S := S1; clear S1
        refine w_go S rfl (op_slice S rfl ty25 rfl rfl rfl hF_34 (.inl ⟨rfl, rfl⟩) (.inr ⟨_, _, rfl, rfl⟩) es_26 ?_)
        clear S; intro a v_38 R_39 S
        refine wpList_nil ?_
        exact RPost.mk_ S rfl S0 R_39 (Below.refl _ _)
       refine RunAll.cons (isRep gt2 (Kx K w.heap.size [some b_18]) y_12) [] rfl rfl ?_ ?_
       ·intro W_ hW
        have S1 := S
        refine fill_nil S1 ?_; clear S1; intro a_ S1
        replace B_19 := B_19.step hW
        have S0 := S.defers; replace S := S1; clear S1
        refine w_go S rfl (op_load (t := gt2) (x := y_12) S rfl ty37 rfl rfl rfl B_19.at_ ?_)
        clear S; intro a v_40 R_41 S
        refine wpList_nil ?_
        exact RPost.mk_ S rfl S0 R_41 (Below.refl _ _)
       refine RunAll.cons (eqv (.bool t_29)) [(isRep (.sl gt2) (Kx K w.heap.size [some b_18]) s_26, 17), (isRep gt2 (Kx K w.heap.size [some b_18]) y_12, 18)] rfl rfl ?_ ?_
       ·intro W_ hW
        have S1 := S
        intro v_43 hF_42; replace hF_42 : RepV _ _ _ _ _ := hF_42
        replace S1 := S1.put (by decide : 17 < 22) (v_43)
        intro v_45 hF_44; replace hF_44 : RepV _ _ _ _ _ := hF_44
        replace S1 := S1.put (by decide : 18 < 22) (v_45)
        refine fill_nil S1 ?_; clear S1; intro a_ S1
        replace W := W.step hW
        have S0 := S.defers; replace S := S1; clear S1
        refine w_go S rfl (op_call (vs := [v_43, v_45]) S rfl cb38 rfl rfl rfl (c38 (Kx K w.heap.size [some b_18]) n W_ s_26 _ hF_42 y_12 _ hF_44 et_29) ?_)
        rintro _ w_49 ⟨v_46, rfl, R_47, hb_48⟩; refine ⟨_, rfl, ?_⟩
        replace R_47 := RepV.back R_47 W
        clear S; intro a S
        obtain rfl := RepV.bool R_47
        refine wpList_nil ?_
        exact RPost.mk_ S rfl S0 rfl (hb_48)
       refine RunAll.cons (eqv (.bool (!t_29))) [(eqv (.bool t_29), 19)] rfl rfl ?_ ?_
       ·intro W_ hW
        have S1 := S
        intro v_51 hF_50; obtain rfl : .bool t_29 = v_51 := Eq.symm hF_50
        replace S1 := S1.put (by decide : 19 < 22) (.bool t_29)
        exact RPost.one (v := .bool (!t_29)) S1 tys tys_ok rfl (by kernel_rfl) S.defers rfl (Below.refl _ _)
       exact trivial
      intro w_52 hb_53
      refine EndE.some_ rfl ?_
      intro v_55 hF_54; replace hF_54 : RepV _ _ _ _ _ := hF_54
      replace S := S.put (by decide : 15 < 22) (v_55)
      refine EndE.some_ rfl ?_
      rintro _ ⟨rfl, hF_56⟩
      replace S := S.put (by decide : 16 < 22) (.int .i64 c_3)
      refine EndE.some_ rfl ?_
      intro v_59 hF_58; replace hF_58 : RepV _ _ _ _ _ := hF_58
      replace S := S.put (by decide : 17 < 22) (v_59)
      refine EndE.some_ rfl ?_
      intro v_61 hF_60; replace hF_60 : RepV _ _ _ _ _ := hF_60
      replace S := S.put (by decide : 18 < 22) (v_61)
      refine EndE.some_ rfl ?_
      intro v_63 hF_62; obtain rfl : .bool t_29 = v_63 := Eq.symm hF_62
      replace S := S.put (by decide : 19 < 22) (.bool t_29)
      refine EndE.some_ rfl ?_
      intro v_65 hF_64; obtain rfl : .bool (!t_29) = v_65 := Eq.symm hF_64
      replace S := S.put (by decide : 20 < 22) (.bool (!t_29))
      refine endE_nil S ?_; clear S; intro a S
      replace R0 := R0.step hb_53
      replace B_19 := B_19.step hb_53
      replace W := W.step hb_53
      refine then_n ?_
      replace S := S.sub (l' := [(20, .bool (!t_29)), (10, .int .i64 c_3), (9, .int .i64 (lenI x0)), (8, v0), (0, v0)]) (by exact ⟨rfl, rfl, rfl, rfl, rfl, trivial⟩)
      refine wp_cond_split (S.eval (show ev _ _ = some (.bool (!t_29)) from rfl)) ?_ ?_
      ·intro hc
       rw [if_pos hc] at hl_10
       refine wp_seq ?_
       refine wp_region_lit ?_
       refine wl_pureK (l' := [(2, .int .i64 1)]) S tys tys_ok 1 [2] (by kernel_rfl) ?_
       clear S; intro a S
       refine wpList_nil ?_
       refine then_n ?_
       refine wp_ret ?_
       refine blk_r ?_
       refine then_r ?_
       refine then_r ?_
       refine blk_r ?_
       refine then_r ?_
       refine then_r ?_
       obtain rfl := Option.some.inj hl_10
       obtain rfl := lr_inr h
       exact b_ret1 S rfl rfl ⟨_, rfl, (RepV.mkInt (by decide)), W.below⟩
      ·intro hc
       rw [if_neg (Bool.eq_false_iff.1 hc)] at hl_10
       refine wp_skip ?_
       refine blk_n ?_
       refine then_n ?_
       replace S := S.sub (l' := [(10, .int .i64 c_3), (9, .int .i64 (lenI x0)), (8, v0), (0, v0)]) (by exact ⟨rfl, rfl, rfl, rfl, trivial⟩)
       refine wp_region_lit ?_
       obtain ⟨x_66, ex_66, hl_10⟩ := bindS hl_10
       refine w_go S rfl (op_arith S .i64 (c_3 + 1) rfl (.inl rfl) rfl rfl rfl rfl ex_66 ?_)
       clear S; intro a S
       refine wl_pure (l' := [(10, .int .i64 x_66), (21, .int .i64 x_66), (10, .int .i64 c_3), (9, .int .i64 (lenI x0)), (8, v0), (0, v0)]) S tys tys_ok 1 (by kernel_rfl) ?_
       clear S; intro a S
       refine wpList_nil ?_
       refine then_n ?_
       exact ⟨x_66, ⟨S.sub (by exact ⟨rfl, rfl, rfl, rfl, trivial⟩), (W.drop 1), (ckI_some ex_66).2.1, (R0.drop 1), hl_10⟩⟩
     ·intro hc
      rw [if_neg (Bool.eq_false_iff.1 hc)] at hl_10
      refine wp_exit ?_
      refine then_x ?_
      refine then_x ?_
      refine blk_hit ?_
      refine then_n ?_
      obtain rfl := Option.some.inj hl_10
      exact ⟨_, rfl, ⟨S.sub trivial, W⟩⟩
  clear S W; rintro a w_67 ⟨s_8, rfl, S, W⟩
  replace h := lr_inl h; try dsimp only at h
  refine then_n ?_
  refine wp_seq ?_
  refine wp_region_lit ?_
  refine wl_pure (l' := [(2, .int .i64 0)]) S tys tys_ok 1 (by kernel_rfl) ?_
  clear S; intro a S
  refine wpList_nil ?_
  refine then_n ?_
  refine wp_ret ?_
  obtain rfl := Option.some.inj h
  exact b_ret1 S rfl rfl ⟨_, rfl, (RepV.mkInt (by decide)), W.below⟩
theorem cb19 : callB Try.prog 19 = true := by kernel_rfl
def p26 (n : Nat) (x0 : Sl (Int)) : Option ((Sl (Int))) :=
 (p42 n x0).bind fun t_1 =>
 (sl3I (⟨t_1.xs, t_1.cap⟩ : Sl (Int)) 0 (lenI (⟨t_1.xs, t_1.cap⟩ : Sl (Int))) (lenI (⟨t_1.xs, t_1.cap⟩ : Sl (Int)))).bind fun s_11 =>
 some s_11
set_option maxHeartbeats 4000000 in
set_option maxRecDepth 100000 in
/-- plugboard/suspends.clip -/
theorem c26 (K : Nat → Prop) (n : Nat) (w : World) (x0 : Sl (Int)) (v0 : Value) (R0 : RepV (.sl (.int .u8)) w K v0 x0) {r : (Sl (Int))} (h : p26 n x0 = some r) :
  Calls Try.prog 26 #[v0] w (Ret1 (.sl (.int .u8)) w (Kx K w.heap.size []) r) := by
 refine enter (args := [v0]) Try.func26 rfl 12 rfl rfl fun a S => ?_
 have W := Wd.start w
 replace R0 := R0.arg
 unfold p26 at h
 replace S : St 12 a [(0, v0)] := S
 refine wp_seq ?_
 refine wp_region_lit ?_
 refine wl_pure (l' := [(2, .slice .none 0 0), (0, v0)]) S tys tys_ok 1 (by kernel_rfl) ?_
 clear S; intro a S
 refine wpList_nil ?_
 refine then_n ?_
 replace S := S.sub (l' := [(0, v0)]) (by exact ⟨rfl, trivial⟩)
 refine wp_seq ?_
 refine wp_region_lit ?_
 refine wl_pure (l' := [(4, v0), (0, v0)]) S tys tys_ok 1 (by kernel_rfl) ?_
 clear S; intro a S
 obtain ⟨t_1, et_1, h⟩ := bindS h
 refine w_go S rfl (op_call (vs := [v0]) S rfl cb42 rfl rfl rfl (c42 (Kx K w.heap.size []) n w x0 _ R0 et_1) ?_)
 rintro _ w_5 ⟨v_2, rfl, R_3, hb_4⟩; refine ⟨_, rfl, ?_⟩
 have NO_ := newO_of R_3 (Nat.le_refl _) hb_4
 replace R_3 := Ow.backO R_3 W
 clear S; intro a S
 replace R0 := R0.newO NO_
 replace W := W.newO NO_
 clear NO_
 refine wl_pureK (l' := [(3, v_2)]) S tys tys_ok 1 [3] (by kernel_rfl) ?_
 clear S; intro a S
 refine wpList_nil ?_
 refine then_n ?_
 refine wp_seq ?_
 refine wp_region_lit ?_
 refine wl_pure (l' := [(7, v_2), (6, v_2), (3, v_2)]) S tys tys_ok 2 (by kernel_rfl) ?_
 clear S; intro a S
 refine w_go S rfl (op_len (K := _) S rfl ty35 rfl rfl rfl R_3.read ?_)
 clear S; intro a G_6 S
 refine wl_pure (l' := [(9, v_2), (8, .int .i64 (lenI (⟨t_1.xs, t_1.cap⟩ : Sl (Int)))), (7, v_2), (6, v_2), (3, v_2)]) S tys tys_ok 1 (by kernel_rfl) ?_
 clear S; intro a S
 refine w_go S rfl (op_len (K := _) S rfl ty35 rfl rfl rfl R_3.read ?_)
 clear S; intro a G_7 S
 have R_8 : RepV (.sl (.int .u8)) w_5 (Kx K w.heap.size []) v_2 (⟨t_1.xs, t_1.cap⟩ : Sl (Int)) := R_3.pubAt W 0 rfl
 replace W : Wd w w_5 [] := W.lessAt 0
 obtain ⟨s_11, es_11, h⟩ := bindS h
 refine w_go S rfl (op_slice3 S rfl ty35 rfl rfl rfl R_8 (.inl ⟨rfl, rfl⟩) rfl rfl es_11 ?_)
 clear S; intro a v_9 R_10 S
 refine wl_pureK (l' := [(2, v_9)]) S tys tys_ok 1 [2] (by kernel_rfl) ?_
 clear S; intro a S
 refine wpList_nil ?_
 refine then_n ?_
 refine wp_ret ?_
 obtain rfl := Option.some.inj h
 exact b_ret1 S rfl rfl ⟨_, rfl, R_10.out, W.below⟩
theorem cb26 : callB Try.prog 26 = true := by kernel_rfl
def p23_l1 (n : Nat) (x0 : Sl ((Sl (Int)) × Bool × Bool × Bool × Int)) : Nat → (Int) → (List ((Sl (Int)) × Bool × Bool × Bool × Int)) → Option ((List ((Sl (Int)) × Bool × Bool × Bool × Int)))
 | 0, _, _ => .none
 | m + 1, c_8, c_10 => if (decide (c_8 < (lenI x0))) then ((idx x0.xs c_8).bind fun y_24 => (idx c_10 c_8).bind fun y_38 => (p26 n y_24.1).bind fun t_48 => (idx (c_10.set c_8.toNat y_24) c_8).bind fun y_53 => (ckI .i64 (c_8 + 1)).bind fun x_61 => p23_l1 n x0 m x_61 ((c_10.set c_8.toNat y_24).set c_8.toNat (t_48, y_53.2.1, y_53.2.2.1, y_53.2.2.2.1, y_53.2.2.2.2))) else some c_10
def p23 (n : Nat) (x0 : Sl ((Sl (Int)) × Bool × Bool × Bool × Int)) : Option ((Sl ((Sl (Int)) × Bool × Bool × Bool × Int))) :=
 (mkI (lenI x0) (lenI x0)).bind fun m_2 =>
 (p23_l1 n x0 n 0 (List.replicate m_2.1 ((⟨[], some 0⟩, false, false, false, 0) : (Sl (Int)) × Bool × Bool × Bool × Int))).bind fun (y_18 : (List ((Sl (Int)) × Bool × Bool × Bool × Int))) =>
 some (⟨y_18, some m_2.2⟩ : Sl ((Sl (Int)) × Bool × Bool × Bool × Int))
set_option maxHeartbeats 4000000 in
set_option maxRecDepth 100000 in
/-- (plugboard/suspends.List).own -/
theorem c23 (K : Nat → Prop) (n : Nat) (w : World) (x0 : Sl ((Sl (Int)) × Bool × Bool × Bool × Int)) (v0 : Value) (R0 : RepV (.sl gt2) w K v0 x0) {r : (Sl ((Sl (Int)) × Bool × Bool × Bool × Int))} (h : p23 n x0 = some r) :
  Calls Try.prog 23 #[v0] w (fun e_ w_ => ∃ v0_ : Value, e_ = .returned v0_ ∧ Ow gt2 37 w_ w.heap.size (Kx K w.heap.size [v0_.ownBlock]) v0_ r.xs r.cap ∧ Below w.heap.size w w_) := by
 refine enter (args := [v0]) Try.func23 rfl 29 rfl rfl fun a S => ?_
 have W := Wd.start w
 replace R0 := R0.arg
 unfold p23 at h
 replace S : St 29 a [(0, v0)] := S
 refine wp_seq ?_
 refine wp_region_lit ?_
 refine wl_pure (l' := [(2, .slice .none 0 0), (0, v0)]) S tys tys_ok 1 (by kernel_rfl) ?_
 clear S; intro a S
 refine wpList_nil ?_
 refine then_n ?_
 replace S := S.sub (l' := [(0, v0)]) (by exact ⟨rfl, trivial⟩)
 refine wp_seq ?_
 refine wp_region_lit ?_
 refine wl_pure (l' := [(6, v0), (0, v0)]) S tys tys_ok 1 (by kernel_rfl) ?_
 clear S; intro a S
 refine w_go S rfl (op_len (K := _) S rfl ty25 rfl rfl rfl R0 ?_)
 clear S; intro a G_1 S
 obtain ⟨m_2, em_2, h⟩ := bindS h
 refine w_go S rfl (op_make (K := K) (e := gt2) (z0 := (⟨[], some 0⟩, false, false, false, 0)) S W _ rfl ty25 un25 by25 z37 (fun w K => ⟨[.slice .none 0 0], [.bool false, .bool false, .bool false, .int .i64 0], rfl, ⟨.none, 0, 0, rfl, rfl, Nat.le_refl _, by decide, fun k h => Option.some.inj h, .inl rfl⟩, ⟨[.bool false], [.bool false, .bool false, .int .i64 0], rfl, rfl, ⟨[.bool false], [.bool false, .int .i64 0], rfl, rfl, ⟨[.bool false], [.int .i64 0], rfl, rfl, ⟨rfl, by decide⟩⟩⟩⟩⟩) rfl rfl rfl rfl em_2 ?_)
 clear S; intro a w_4 b_3 hb_5 O_6 S
 replace R0 := R0.box hb_5
 replace W := W.box hb_5
 replace O_6 : Ow gt2 37 w_4 w.heap.size (Kx K w.heap.size [some b_3]) (.slice (some ⟨b_3, 0, .none⟩) m_2.1 m_2.2) (List.replicate m_2.1 ((⟨[], some 0⟩, false, false, false, 0) : (Sl (Int)) × Bool × Bool × Bool × Int)) (some m_2.2) := O_6
 refine wl_pureK (l' := [(3, (.slice (some ⟨b_3, 0, .none⟩) m_2.1 m_2.2)), (0, v0)]) S tys tys_ok 1 [3, 0] (by kernel_rfl) ?_
 clear S; intro a S
 refine wpList_nil ?_
 refine then_n ?_
 refine wp_seq ?_
 refine wp_seq ?_
 refine wp_region_lit ?_
 refine wl_pure (l' := [(9, v0), (3, (.slice (some ⟨b_3, 0, .none⟩) m_2.1 m_2.2)), (0, v0)]) S tys tys_ok 1 (by kernel_rfl) ?_
 clear S; intro a S
 refine w_go S rfl (op_len (K := _) S rfl ty25 rfl rfl rfl R0 ?_)
 clear S; intro a G_7 S
 refine wl_pure (l' := [(11, .int .i64 0), (10, .int .i64 (lenI x0)), (9, v0), (3, (.slice (some ⟨b_3, 0, .none⟩) m_2.1 m_2.2)), (0, v0)]) S tys tys_ok 1 (by kernel_rfl) ?_
 clear S; intro a S
 refine wpList_nil ?_
 refine then_n ?_
 replace S := S.sub (l' := [(11, .int .i64 0), (10, .int .i64 (lenI x0)), (9, v0), (3, (.slice (some ⟨b_3, 0, .none⟩) m_2.1 m_2.2))]) (by exact ⟨rfl, rfl, rfl, rfl, trivial⟩)
 obtain ⟨y_18, ey_18, h⟩ := bindS h
 refine wp_cut_ (fun a_ w_ => St 29 a_ [(3, (.slice (some ⟨b_3, 0, .none⟩) m_2.1 m_2.2))] ∧ Wd w w_ [some b_3] ∧ Ow gt2 37 w_ w.heap.size (Kx K w.heap.size [some b_3]) (.slice (some ⟨b_3, 0, .none⟩) m_2.1 m_2.2) y_18 (some m_2.2)) ?_ ?_
 ·refine wp_block ?_
  refine wp_loop_n (fun m_ a_ w_ => ∃ (c_8 : Int) (c_10 : List ((Sl (Int)) × Bool × Bool × Bool × Int)) , St 29 a_ [(11, .int .i64 c_8), (10, .int .i64 (lenI x0)), (9, v0), (3, (.slice (some ⟨b_3, 0, .none⟩) m_2.1 m_2.2))] ∧ Wd w w_ [some b_3] ∧ InR .i64 c_8 ∧ RepV (.sl gt2) w_ (Kx K w.heap.size [some b_3]) v0 x0 ∧ Ow gt2 37 w_ w.heap.size (Kx K w.heap.size [some b_3]) (.slice (some ⟨b_3, 0, .none⟩) m_2.1 m_2.2) c_10 (some m_2.2) ∧ p23_l1 n x0 m_ c_8 c_10 = some y_18) n ?_ ?_
  ·skip
   exact ⟨0, (List.replicate m_2.1 ((⟨[], some 0⟩, false, false, false, 0) : (Sl (Int)) × Bool × Bool × Bool × Int)), ⟨S.sub (by exact ⟨rfl, rfl, rfl, rfl, trivial⟩), W, (by decide), R0, O_6, ey_18⟩⟩
  ·clear S W; rintro m_21 a w_23 ⟨c_8, c_10, S, W, G_9, R0, O_12, hl_22⟩
   cases m_21 with
   | zero => exact absurd hl_22 (by simp [p23_l1])
   | succ m_21 =>
    refine ⟨m_21, rfl, ?_⟩
    rw [p23_l1] at hl_22
    refine wp_seq ?_
    refine wp_region_lit ?_
    refine wl_pure (l' := [(12, .bool (decide (c_8 < (lenI x0)))), (11, .int .i64 c_8), (10, .int .i64 (lenI x0)), (9, v0), (3, (.slice (some ⟨b_3, 0, .none⟩) m_2.1 m_2.2))]) S tys tys_ok 1 (by kernel_rfl) ?_
    clear S; intro a S
    refine wpList_nil ?_
    refine then_n ?_
    refine wp_seq ?_
    refine wp_cond_split (S.eval (show ev _ _ = some (.bool (decide (c_8 < (lenI x0)))) from rfl)) ?_ ?_
    ·intro hc
     rw [if_pos hc] at hl_22
     refine wp_skip ?_
     refine then_n ?_
     replace S := S.sub (l' := [(11, .int .i64 c_8), (10, .int .i64 (lenI x0)), (9, v0), (3, (.slice (some ⟨b_3, 0, .none⟩) m_2.1 m_2.2))]) (by exact ⟨rfl, rfl, rfl, rfl, trivial⟩)
     refine wp_seq ?_
     refine wp_block ?_
     refine wp_seq ?_
     refine wp_region_lit ?_
     refine wl_pure (l' := [(13, .int .i64 c_8), (11, .int .i64 c_8), (10, .int .i64 (lenI x0)), (9, v0), (3, (.slice (some ⟨b_3, 0, .none⟩) m_2.1 m_2.2))]) S tys tys_ok 1 (by kernel_rfl) ?_
     clear S; intro a S
     obtain ⟨y_24, ey_24, hl_22⟩ := bindS hl_22
     refine w_go S rfl (op_indexAddr S rfl ty25 rfl rfl rfl R0 rfl ey_24 ?_)
     clear S; intro a p_25 R_26 H_27 S
     refine w_go S rfl (op_load (t := gt2) (x := y_24) S rfl ty37 rfl rfl rfl R_26 ?_)
     clear S; intro a v_28 R_29 S
     refine w_go S rfl (op_alloc (K := K) (n := w.heap.size) (L := [some b_3]) (t := (.st (.pair .raw (.pair .bool (.pair .bool (.pair .bool (.int .i64))))))) (y := ((.slice .none 0 0), false, false, false, 0)) S rfl rfl rfl _ z37 (fun w K => ⟨[.slice .none 0 0], [.bool false, .bool false, .bool false, .int .i64 0], rfl, ⟨rfl, _, _, _, rfl⟩, ⟨[.bool false], [.bool false, .bool false, .int .i64 0], rfl, rfl, ⟨[.bool false], [.bool false, .int .i64 0], rfl, rfl, ⟨[.bool false], [.int .i64 0], rfl, rfl, ⟨rfl, by decide⟩⟩⟩⟩⟩) ?_)
     clear S; intro a w_32 b_30 hb_33 B_31 S
     replace R0 := R0.box hb_33
     replace R_29 := R_29.box hb_33
     replace O_12 := O_12.box hb_33
     replace W := W.box hb_33
     refine wl_pure (l' := [(4, .int .i64 c_8), (5, pB b_30), (15, v_28), (14, .pointer (some p_25)), (13, .int .i64 c_8), (11, .int .i64 c_8), (10, .int .i64 (lenI x0)), (9, v0), (3, (.slice (some ⟨b_3, 0, .none⟩) m_2.1 m_2.2))]) S tys tys_ok 1 (by kernel_rfl) ?_
     clear S; intro a S
     replace B_31 : Bx gt2 37 w_32 (Kx K w.heap.size [some b_30, some b_3]) b_30 ((⟨[], some 0⟩ : Sl (Int)), false, false, false, 0) := Bx.unrawX (t' := gt2) (Lx.st (Lx.left Lx.here)) B_31 RepV.nil
     refine w_go S rfl (op_store (t' := gt2) S rfl rfl ty37 rfl rfl rfl B_31 (by simp) Ln.whole R_29 ?_)
     intro w_34 hw_35 B_
     replace R0 := R0.wrote hw_35 (by simp)
     replace R_29 := R_29.wrote hw_35 (by simp)
     replace O_12 := O_12.wrote hw_35 (by simp) (W.one (p := 1) (q := 0) (by decide) rfl rfl)
     replace W := W.wrote hw_35 (by simp)
     replace B_31 : Bx gt2 37 w_34 (Kx K w.heap.size [some b_30, some b_3]) b_30 y_24 := B_; clear B_
     refine wpList_nil ?_
     refine then_n ?_
     replace S := S.sub (l' := [(4, .int .i64 c_8), (5, pB b_30), (11, .int .i64 c_8), (10, .int .i64 (lenI x0)), (9, v0), (3, (.slice (some ⟨b_3, 0, .none⟩) m_2.1 m_2.2))]) (by exact ⟨rfl, rfl, rfl, rfl, rfl, rfl, trivial⟩)
     refine wp_seq ?_
     refine wp_region_lit ?_
     refine wl_pure (l' := [(17, .int .i64 c_8), (16, (.slice (some ⟨b_3, 0, .none⟩) m_2.1 m_2.2)), (4, .int .i64 c_8), (5, pB b_30), (11, .int .i64 c_8), (10, .int .i64 (lenI x0)), (9, v0), (3, (.slice (some ⟨b_3, 0, .none⟩) m_2.1 m_2.2))]) S tys tys_ok 2 (by kernel_rfl) ?_
     clear S; intro a S
     refine w_go S rfl (op_load (t := gt2) (x := y_24) S rfl ty37 rfl rfl rfl B_31.at_ ?_)
     clear S; intro a v_36 R_37 S
     obtain ⟨y_38, ey_38, hl_22⟩ := bindS hl_22
     refine w_go S rfl (op_indexAddr_own S rfl ty25 rfl rfl rfl O_12 rfl ey_38 ?_)
     clear S; intro a g_39 H_41 R_40 S
     refine w_go S rfl (op_store_own (t' := gt2) S rfl rfl ty37 rfl rfl rfl O_12 H_41 1 rfl (idx_some ey_38).2.1 Ln.whole R_37 ?_)
     intro w_42 hw_43 hm_45 O_44
     replace R0 := R0.wrote hw_43 hm_45
     replace R_37 := R_37.wrote hw_43 hm_45
     replace B_31 := B_31.wrote hw_43 hm_45 (by have h_ := W.one (p := 1) (q := 0) (by decide) rfl rfl; exact fun e_ => h_ (by rw [e_]; exact H_41))
     replace W := W.wrote hw_43 hm_45
     replace O_44 : Ow gt2 37 w_42 w.heap.size (Kx K w.heap.size [some b_30, some b_3]) (.slice (some ⟨b_3, 0, .none⟩) m_2.1 m_2.2) (c_10.set c_8.toNat y_24) (some m_2.2) := O_44
     refine wpList_nil ?_
     refine then_n ?_
     replace S := S.sub (l' := [(4, .int .i64 c_8), (5, pB b_30), (11, .int .i64 c_8), (10, .int .i64 (lenI x0)), (9, v0), (3, (.slice (some ⟨b_3, 0, .none⟩) m_2.1 m_2.2))]) (by exact ⟨rfl, rfl, rfl, rfl, rfl, rfl, trivial⟩)
     refine wp_region_lit ?_
     refine wl_pure (l' := [(22, .pointer (some ((⟨b_30, 0, .none⟩ : Addr).add (coff gf2 0)))), (21, .int .i64 c_8), (20, (.slice (some ⟨b_3, 0, .none⟩) m_2.1 m_2.2)), (4, .int .i64 c_8), (5, pB b_30), (11, .int .i64 c_8), (10, .int .i64 (lenI x0)), (9, v0), (3, (.slice (some ⟨b_3, 0, .none⟩) m_2.1 m_2.2))]) S tys tys_ok 3 (by kernel_rfl) ?_
     clear S; intro a S
     refine w_go S rfl (op_load (t := (.sl (.int .u8))) (x := y_24.1) S rfl ty35 rfl rfl rfl (RepAt.add 0 (RepAt.st (t := gf2) B_31.at_)) ?_)
     clear S; intro a v_46 R_47 S
     obtain ⟨t_48, et_48, hl_22⟩ := bindS hl_22
     refine w_go S rfl (op_call (vs := [v_46]) S rfl cb26 rfl rfl rfl (c26 (Kx K w.heap.size [some b_30, some b_3]) n w_42 y_24.1 _ R_47 et_48) ?_)
     rintro _ w_52 ⟨v_49, rfl, R_50, hb_51⟩; refine ⟨_, rfl, ?_⟩
     replace R_50 := RepV.back R_50 W
     clear S; intro a S
     replace R0 := R0.step hb_51
     replace R_47 := R_47.step hb_51
     replace B_31 := B_31.step hb_51
     replace O_44 := O_44.step hb_51
     replace W := W.step hb_51
     obtain ⟨y_53, ey_53, hl_22⟩ := bindS hl_22
     refine w_go S rfl (op_indexAddr_own S rfl ty25 rfl rfl rfl O_44 rfl ey_53 ?_)
     clear S; intro a g_54 H_56 R_55 S
     refine wl_pureK (l' := [(26, .pointer (some ((⟨g_54, c_8.toNat * GT.sz gt2, .none⟩ : Addr).add (coff gf2 0)))), (24, v_49), (11, .int .i64 c_8), (10, .int .i64 (lenI x0)), (9, v0), (3, (.slice (some ⟨b_3, 0, .none⟩) m_2.1 m_2.2))]) S tys tys_ok 1 [26, 24, 11, 10, 9, 3] (by kernel_rfl) ?_
     clear S; intro a S
     refine w_go S rfl (op_store_own (t' := (.sl (.int .u8))) S rfl rfl ty35 rfl (addr_add _ _ _) rfl O_44 H_56 1 rfl (idx_some ey_53).2.1 (Ln.st (Ln.comp 0)) R_50 ?_)
     intro w_57 hw_58 hm_60 O_59
     replace R0 := R0.wrote hw_58 hm_60
     replace R_50 := R_50.wrote hw_58 hm_60
     replace B_31 := B_31.wrote hw_58 hm_60 (by have h_ := W.one (p := 1) (q := 0) (by decide) rfl rfl; exact fun e_ => h_ (by rw [e_]; exact H_56))
     replace W := W.wrote hw_58 hm_60
     replace O_59 : Ow gt2 37 w_57 w.heap.size (Kx K w.heap.size [some b_30, some b_3]) (.slice (some ⟨b_3, 0, .none⟩) m_2.1 m_2.2) ((c_10.set c_8.toNat y_24).set c_8.toNat (t_48, y_53.2.1, y_53.2.2.1, y_53.2.2.2.1, y_53.2.2.2.2)) (some m_2.2) := O_59
     refine wpList_nil ?_
     refine blk_n ?_
     refine then_n ?_
     replace S := S.sub (l' := [(11, .int .i64 c_8), (10, .int .i64 (lenI x0)), (9, v0), (3, (.slice (some ⟨b_3, 0, .none⟩) m_2.1 m_2.2))]) (by exact ⟨rfl, rfl, rfl, rfl, trivial⟩)
     refine wp_region_lit ?_
     obtain ⟨x_61, ex_61, hl_22⟩ := bindS hl_22
     refine w_go S rfl (op_arith S .i64 (c_8 + 1) rfl (.inl rfl) rfl rfl rfl rfl ex_61 ?_)
     clear S; intro a S
     refine wl_pure (l' := [(11, .int .i64 x_61), (27, .int .i64 x_61), (11, .int .i64 c_8), (10, .int .i64 (lenI x0)), (9, v0), (3, (.slice (some ⟨b_3, 0, .none⟩) m_2.1 m_2.2))]) S tys tys_ok 1 (by kernel_rfl) ?_
     clear S; intro a S
     refine wpList_nil ?_
     refine then_n ?_
     exact ⟨x_61, ((c_10.set c_8.toNat y_24).set c_8.toNat (t_48, y_53.2.1, y_53.2.2.1, y_53.2.2.2.1, y_53.2.2.2.2)), ⟨S.sub (by exact ⟨rfl, rfl, rfl, rfl, trivial⟩), (W.drop 1), (ckI_some ex_61).2.1, (R0.drop 1), (O_59.drop 1), hl_22⟩⟩
    ·intro hc
     rw [if_neg (Bool.eq_false_iff.1 hc)] at hl_22
     refine wp_exit ?_
     refine then_x ?_
     refine then_x ?_
     refine blk_hit ?_
     refine then_n ?_
     obtain rfl := Option.some.inj hl_22
     exact ⟨S.sub (by exact ⟨rfl, trivial⟩), W, O_12⟩
 clear S W; rintro a w_62 ⟨S, W, O_20⟩
 refine then_n ?_
 refine wp_seq ?_
 refine wp_region_lit ?_
 refine wl_pure (l' := [(2, (.slice (some ⟨b_3, 0, .none⟩) m_2.1 m_2.2)), (28, (.slice (some ⟨b_3, 0, .none⟩) m_2.1 m_2.2)), (3, (.slice (some ⟨b_3, 0, .none⟩) m_2.1 m_2.2))]) S tys tys_ok 2 (by kernel_rfl) ?_
 clear S; intro a S
 refine wpList_nil ?_
 refine then_n ?_
 replace S := S.sub (l' := [(2, (.slice (some ⟨b_3, 0, .none⟩) m_2.1 m_2.2))]) (by exact ⟨rfl, trivial⟩)
 refine wp_ret ?_
 obtain rfl := Option.some.inj h
 exact b_ret1 S rfl rfl ⟨_, rfl, (O_20.lessO 0 rfl), W.below⟩
theorem cb23 : callB Try.prog 23 = true := by kernel_rfl
def p39_l1 (n : Nat) (Be : Type) (y0 : Sl ((Sl (Int)) × Bool × Bool × Bool × Int)) (f : Be → ((Int) × ((Sl (Int)) × Bool × Bool × Bool × Int)) → Option (Bool × Be)) : Nat → (Int) → (Be) → Option (((Be)) ⊕ (Be))
 | 0, _, _ => .none
 | m + 1, c_7, c_9 => if (decide (c_7 ≥ 0)) then ((idx y0.xs c_7).bind fun y_22 => (f c_9 (c_7, y_22)).bind fun t_28 => if (!t_28.1) then (some (.inr t_28.2)) else (ckI .i64 (c_7 - 1)).bind fun x_33 => p39_l1 n Be y0 f m x_33 t_28.2) else some (.inl c_9)
def p39 (n : Nat) (y0 : Sl ((Sl (Int)) × Bool × Bool × Bool × Int)) (Be : Type) (f : Be → ((Int) × ((Sl (Int)) × Bool × Bool × Bool × Int)) → Option (Bool × Be)) (s0 : Be) : Option Be :=
 (ckI .i64 ((lenI y0) - 1)).bind fun x_4 =>
 (p39_l1 n Be y0 f n x_4 s0).bind fun (y_15 : ((Be)) ⊕ (Be)) =>
 lrK y_15 some fun (s_16 : (Be)) =>
 some s_16
set_option maxHeartbeats 4000000 in
set_option maxRecDepth 100000 in
/-- slices.Backward[plugboard/suspends.List,plugboard/suspends.Node]$1 -/
theorem c39 (K : Nat → Prop) (n : Nat) (w wA : World) (LO : List (Option Nat)) (p0 : Addr) (y0 : Sl ((Sl (Int)) × Bool × Bool × Bool × Int)) (Q0 : Pr (.sl gt2) wA (Kx K w.heap.size LO) p0 y0) (Be : Type) (f : Be → ((Int) × ((Sl (Int)) × Bool × Bool × Bool × Int)) → Option (Bool × Be)) (s0 : Be) (l : Nat) (Inv : Be → List (Option Nat) → World → Prop) (W : Wd w wA LO) (J_ : JI Inv [] wA.heap.size LO wA s0)
  (hY : ∀ (b_ : Be) (LO_ : List (Option Nat)) (A_ : World) (x_ : (Int) × ((Sl (Int)) × Bool × Bool × Bool × Int)) (v1_ : Value), Wd w A_ LO_ → InR .i64 x_.1 → RepV gt2 A_ (Kx K w.heap.size LO_) v1_ x_.2 → ∀ r_, f b_ x_ = some r_ → Inv b_ LO_ A_ → YieldAt Fence.wide 0 Try.prog l [.int .i64 x_.1, v1_].toArray A_ fun e_ B_ => ∃ LO2_, e_ = .returned (.bool r_.1) ∧ Inv r_.2 LO2_ B_ ∧ Yst w.heap.size A_ LO_ B_ LO2_)
  {r : Be} (h : p39 n y0 Be f s0 = some r) :
  Calls Try.prog 39 #[.func (.yield l) #[] #[], .pointer (some p0)] wA (fun e_ w_ => (∃ v_, e_ = .returned v_) ∧ ∃ LO_, Inv r LO_ w_) := by
 refine R.enter (args := [.func (.yield l) #[] #[], .pointer (some p0)]) Try.func39 rfl 19 rfl rfl (fun _ h_ => by obtain ⟨⟨_, q_⟩, _⟩ := h_; cases q_) fun a S => ?_
 unfold p39 at h
 replace S : St 19 a [(0, .func (.yield l) #[] #[]), (1, .pointer (some p0))] := S
 refine R.wp_seq ?_
 refine R.wp_region_lit ?_
 refine R.w_go S rfl (op_load (t := (.sl gt2)) (x := y0) S rfl ty25 rfl rfl rfl Q0.1 ?_)
 clear S; intro a v_1 R_2 S
 refine R.w_go S rfl (op_len (K := _) S rfl ty25 rfl rfl rfl R_2 ?_)
 clear S; intro a G_3 S
 obtain ⟨x_4, ex_4, h⟩ := bindS h
 refine R.w_go S rfl (op_arith S .i64 ((lenI y0) - 1) rfl (.inr (.inl rfl)) rfl rfl rfl rfl ex_4 ?_)
 clear S; intro a S
 refine R.wl_pureK (l' := [(3, .int .i64 x_4), (0, .func (.yield l) #[] #[]), (1, .pointer (some p0))]) S tys tys_ok 1 [3, 0, 1] (by kernel_rfl) ?_
 clear S; intro a S
 refine R.wpList_nil ?_
 refine then_n ?_
 obtain ⟨y_15, ey_15, h⟩ := bindS h
 refine R.wp_cut_ (fun a_ w_ => ∃ s_16 : (Be), y_15 = .inl s_16 ∧ (∃ (LO_14 : List (Option Nat)), St 19 a_ [] ∧ Wd w w_ LO_14 ∧ JI Inv [] wA.heap.size LO_14 w_ s_16)) ?_ ?_
 ·refine R.wp_block ?_
  refine R.wp_loop_n (fun m_ a_ w_ => ∃ (c_7 : Int) (c_9 : Be) , ∃ (LO_6 : List (Option Nat)), St 19 a_ [(3, .int .i64 c_7), (0, .func (.yield l) #[] #[]), (1, .pointer (some p0))] ∧ Wd w w_ LO_6 ∧ InR .i64 c_7 ∧ Pr (.sl gt2) w_ (Kx K w.heap.size LO_6) p0 y0 ∧ JI Inv [] wA.heap.size LO_6 w_ c_9 ∧ p39_l1 n Be y0 f m_ c_7 c_9 = some y_15) n ?_ ?_
  ·skip
   exact ⟨x_4, s0, ⟨LO, S.sub (by exact ⟨rfl, rfl, rfl, trivial⟩), W, (ckI_some ex_4).2.1, Q0, J_, ey_15⟩⟩
  ·clear S W; rintro m_17 a w_19 ⟨c_7, c_9, LO_6, S, W, G_8, Q0, J_, hl_18⟩
   cases m_17 with
   | zero => exact absurd hl_18 (by simp [p39_l1])
   | succ m_17 =>
    refine ⟨m_17, rfl, ?_⟩
    rw [p39_l1] at hl_18
    refine R.wp_seq ?_
    refine R.wp_seq ?_
    refine R.wp_region_lit ?_
    refine R.wl_pure (l' := [(8, .bool (decide (c_7 ≥ 0))), (7, .int .i64 c_7), (3, .int .i64 c_7), (0, .func (.yield l) #[] #[]), (1, .pointer (some p0))]) S tys tys_ok 2 (by kernel_rfl) ?_
    clear S; intro a S
    refine R.wpList_nil ?_
    refine then_n ?_
    replace S := S.sub (l' := [(8, .bool (decide (c_7 ≥ 0))), (3, .int .i64 c_7), (0, .func (.yield l) #[] #[]), (1, .pointer (some p0))]) (by exact ⟨rfl, rfl, rfl, rfl, trivial⟩)
    refine R.wp_cond_split (S.eval (show ev _ _ = some (.bool (decide (c_7 ≥ 0))) from rfl)) ?_ ?_
    ·intro hc
     rw [if_pos hc] at hl_18
     refine R.wp_skip ?_
     refine then_n ?_
     replace S := S.sub (l' := [(3, .int .i64 c_7), (0, .func (.yield l) #[] #[]), (1, .pointer (some p0))]) (by exact ⟨rfl, rfl, rfl, trivial⟩)
     refine R.wp_seq ?_
     refine R.wp_block ?_
     refine R.wp_seq ?_
     refine R.wp_region_lit ?_
     refine R.wl_pure (l' := [(12, .int .i64 c_7), (11, .func (.yield l) #[] #[]), (3, .int .i64 c_7), (0, .func (.yield l) #[] #[]), (1, .pointer (some p0))]) S tys tys_ok 2 (by kernel_rfl) ?_
     clear S; intro a S
     refine R.w_go S rfl (op_load (t := (.sl gt2)) (x := y0) S rfl ty25 rfl rfl rfl Q0.1 ?_)
     clear S; intro a v_20 R_21 S
     refine R.wl_pure (l' := [(14, .int .i64 c_7), (13, v_20), (12, .int .i64 c_7), (11, .func (.yield l) #[] #[]), (3, .int .i64 c_7), (0, .func (.yield l) #[] #[]), (1, .pointer (some p0))]) S tys tys_ok 1 (by kernel_rfl) ?_
     clear S; intro a S
     obtain ⟨y_22, ey_22, hl_18⟩ := bindS hl_18
     refine R.w_go S rfl (op_indexAddr S rfl ty25 rfl rfl rfl R_21 rfl ey_22 ?_)
     clear S; intro a p_23 R_24 H_25 S
     refine R.w_go S rfl (op_load (t := gt2) (x := y_22) S rfl ty37 rfl rfl rfl R_24 ?_)
     clear S; intro a v_26 R_27 S
     obtain ⟨t_28, et_28, hl_18⟩ := bindS hl_18
     refine R.w_yield (vs := [.int .i64 c_7, v_26]) S rfl rfl rfl rfl rfl rfl (hY _ LO_6 w_19 (c_7, y_22) v_26 W G_8 R_27 _ et_28 J_.inv) ?_
     rintro _ w_29 ⟨LO_30, rfl, hJ_31, Y_32⟩; refine ⟨_, rfl, ?_⟩; clear S; intro a S
     replace Q0 : Pr (.sl gt2) w_29 (Kx K w.heap.size LO_30) p0 y0 := Pr.yst [] Q0 Y_32
     replace R_21 : RepV (.sl gt2) w_29 (Kx K w.heap.size LO_30) v_20 y0 := RepV.yst [] R_21 Y_32
     replace R_27 : RepV gt2 w_29 (Kx K w.heap.size LO_30) v_26 y_22 := RepV.yst [] R_27 Y_32
     replace J_ : JI Inv [] wA.heap.size LO_30 w_29 t_28.2 := ⟨J_.ab, hJ_31, Nat.le_trans J_.hn Y_32.size⟩
     replace W : Wd w w_29 LO_30 := Wd.yst [] W Y_32
     refine R.wl_pureK (l' := [(18, .bool (!t_28.1)), (3, .int .i64 c_7), (0, .func (.yield l) #[] #[]), (1, .pointer (some p0))]) S tys tys_ok 1 [18, 3, 0, 1] (by kernel_rfl) ?_
     clear S; intro a S
     refine R.wpList_nil ?_
     refine then_n ?_
     refine R.wp_cond_split (S.eval (show ev _ _ = some (.bool (!t_28.1)) from rfl)) ?_ ?_
     ·intro hc
      rw [if_pos hc] at hl_18
      refine R.wp_ret ?_
      refine blk_r ?_
      refine then_r ?_
      refine then_r ?_
      refine blk_r ?_
      refine then_r ?_
      refine R.leave0 S ?_ (by simp)
      clear S; intro a S
      obtain rfl := Option.some.inj hl_18
      obtain rfl := lr_inr h
      exact b_ret0 S rfl fun _ => ⟨⟨_, rfl⟩, _, J_.inv⟩
     ·intro hc
      rw [if_neg (Bool.eq_false_iff.1 hc)] at hl_18
      refine R.wp_skip ?_
      refine blk_n ?_
      refine then_n ?_
      replace S := S.sub (l' := [(3, .int .i64 c_7), (0, .func (.yield l) #[] #[]), (1, .pointer (some p0))]) (by exact ⟨rfl, rfl, rfl, trivial⟩)
      refine R.wp_region_lit ?_
      refine R.wl_pure (l' := [(9, .int .i64 c_7), (3, .int .i64 c_7), (0, .func (.yield l) #[] #[]), (1, .pointer (some p0))]) S tys tys_ok 1 (by kernel_rfl) ?_
      clear S; intro a S
      obtain ⟨x_33, ex_33, hl_18⟩ := bindS hl_18
      refine R.w_go S rfl (op_arith S .i64 (c_7 - 1) rfl (.inr (.inl rfl)) rfl rfl rfl rfl ex_33 ?_)
      clear S; intro a S
      refine R.wl_pure (l' := [(3, .int .i64 x_33), (10, .int .i64 x_33), (9, .int .i64 c_7), (3, .int .i64 c_7), (0, .func (.yield l) #[] #[]), (1, .pointer (some p0))]) S tys tys_ok 1 (by kernel_rfl) ?_
      clear S; intro a S
      refine R.wpList_nil ?_
      refine then_n ?_
      exact ⟨x_33, t_28.2, ⟨LO_30, S.sub (by exact ⟨rfl, rfl, rfl, trivial⟩), W, (ckI_some ex_33).2.1, Q0, J_, hl_18⟩⟩
    ·intro hc
     rw [if_neg (Bool.eq_false_iff.1 hc)] at hl_18
     refine R.wp_exit ?_
     refine then_x ?_
     refine then_x ?_
     refine blk_hit ?_
     refine then_n ?_
     obtain rfl := Option.some.inj hl_18
     exact ⟨_, rfl, ⟨LO_6, S.sub trivial, W, J_⟩⟩
 clear S W; rintro a w_34 ⟨s_16, rfl, LO_14, S, W, J_⟩
 replace h := lr_inl h; try dsimp only at h
 refine R.leave0 S ?_ (by simp)
 clear S; intro a S
 obtain rfl := Option.some.inj h
 exact b_ret0 S rfl fun _ => ⟨⟨_, rfl⟩, _, J_.inv⟩
theorem cb39 : callB Try.prog 39 = true := by kernel_rfl
def p24 (n : Nat) (x0 : Sl ((Sl (Int)) × Bool × Bool × Bool × Int)) : Option ((Sl ((Sl (Int)) × Bool × Bool × Bool × Int))) :=
 some x0
set_option maxHeartbeats 4000000 in
set_option maxRecDepth 100000 in
/-- slices.Backward[plugboard/suspends.List,plugboard/suspends.Node] -/
theorem c24 (K : Nat → Prop) (n : Nat) (w : World) (x0 : Sl ((Sl (Int)) × Bool × Bool × Bool × Int)) (v0 : Value) (R0 : RepV (.sl gt2) w K v0 x0) {r : (Sl ((Sl (Int)) × Bool × Bool × Bool × Int))} (h : p24 n x0 = some r) :
  Calls Try.prog 24 #[v0] w (fun e_ w_ => ∃ (p0_ : Addr), e_ = .returned (.func (.func 39) #[] #[.pointer (some p0_)]) ∧ Pr (.sl gt2) w_ (Kx K w.heap.size []) p0_ r ∧ Below w.heap.size w w_) := by
 refine enter (args := [v0]) Try.func24 rfl 4 rfl rfl fun a S => ?_
 have W := Wd.start w
 replace R0 := R0.arg
 unfold p24 at h
 replace S : St 4 a [(0, v0)] := S
 refine wp_seq ?_
 refine wp_region_lit ?_
 refine w_go S rfl (op_box S rfl rfl rfl rfl rfl R0 ?_)
 clear S; intro a w_3 b_1 hb_4 B_2 S
 replace R0 := R0.box hb_4
 replace W := W.box hb_4
 refine wl_pure (l' := [(2, .nilFunc), (1, pB b_1), (0, v0)]) S tys tys_ok 1 (by kernel_rfl) ?_
 clear S; intro a S
 refine wpList_nil ?_
 refine then_n ?_
 replace S := S.sub (l' := [(1, pB b_1)]) (by exact ⟨rfl, trivial⟩)
 refine wp_seq ?_
 refine wp_region_lit ?_
 refine w_go S rfl (op_mkfn (vs := []) (us := [pB b_1]) S rfl rfl rfl rfl rfl ?_)
 clear S; intro a S
 refine wl_pure (l' := [(2, .func (.func 39) #[] #[pB b_1]), (3, .func (.func 39) #[] #[pB b_1]), (1, pB b_1)]) S tys tys_ok 1 (by kernel_rfl) ?_
 clear S; intro a S
 refine wpList_nil ?_
 refine then_n ?_
 replace S := S.sub (l' := [(2, .func (.func 39) #[] #[pB b_1])]) (by exact ⟨rfl, trivial⟩)
 refine wp_ret ?_
 have Q_5 : Pr (.sl gt2) w_3 (Kx K w.heap.size []) (⟨b_1, 0, .none⟩ : Addr) x0 := Bx.pr B_2 W rfl 0 rfl
 replace W : Wd w w_3 [] := W.lessAt 0
 obtain rfl := Option.some.inj h
 exact b_ret1 S rfl rfl ⟨(⟨b_1, 0, .none⟩ : Addr), rfl, Q_5.out, W.below⟩
theorem cb24 : callB Try.prog 24 = true := by kernel_rfl
def p37 (n : Nat) (x0 : Sl (Int)) (x1 : Sl (Int)) : Option ((Bool)) :=
 (if (decide ((lenI x0) > (lenI x1))) = true then (slI x0 0 (lenI x1)).bind fun s_7 => (p36 n s_7 x1).bind fun t_8 => some t_8 else some false).bind fun q_3 =>
 some q_3
set_option maxHeartbeats 4000000 in
set_option maxRecDepth 100000 in
/-- plugboard/suspends.under -/
theorem c37 (K : Nat → Prop) (n : Nat) (w : World) (x0 : Sl (Int)) (v0 : Value) (R0 : RepV (.sl (.int .u8)) w K v0 x0) (x1 : Sl (Int)) (v1 : Value) (R1 : RepV (.sl (.int .u8)) w K v1 x1) {r : (Bool)} (h : p37 n x0 x1 = some r) :
  Calls Try.prog 37 #[v0, v1] w (Ret1 .bool w (Kx K w.heap.size []) r) := by
 refine enter (args := [v0, v1]) Try.func37 rfl 18 rfl rfl fun a S => ?_
 have W := Wd.start w
 replace R0 := R0.arg
 replace R1 := R1.arg
 unfold p37 at h
 replace S : St 18 a [(0, v0), (1, v1)] := S
 refine wp_seq ?_
 refine wp_region_lit ?_
 refine wl_pure (l' := [(4, .bool false), (0, v0), (1, v1)]) S tys tys_ok 1 (by kernel_rfl) ?_
 clear S; intro a S
 refine wpList_nil ?_
 refine then_n ?_
 replace S := S.sub (l' := [(0, v0), (1, v1)]) (by exact ⟨rfl, rfl, trivial⟩)
 refine wp_seq ?_
 refine wp_region_lit ?_
 refine wl_pure (l' := [(5, v0), (0, v0), (1, v1)]) S tys tys_ok 1 (by kernel_rfl) ?_
 clear S; intro a S
 refine w_go S rfl (op_len (K := _) S rfl ty35 rfl rfl rfl R0 ?_)
 clear S; intro a G_1 S
 refine wl_pure (l' := [(7, v1), (6, .int .i64 (lenI x0)), (5, v0), (0, v0), (1, v1)]) S tys tys_ok 1 (by kernel_rfl) ?_
 clear S; intro a S
 refine w_go S rfl (op_len (K := _) S rfl ty35 rfl rfl rfl R1 ?_)
 clear S; intro a G_2 S
 refine wl_pureK (l' := [(10, .bool (decide ((lenI x0) > (lenI x1)))), (0, v0), (1, v1)]) S tys tys_ok 2 [10, 0, 1] (by kernel_rfl) ?_
 clear S; intro a S
 obtain ⟨q_3, eq_3, h⟩ := bindS h
 refine seg 7 (fun a_ w_ => St 18 a_ [(17, .bool q_3)] ∧ Wd w w_ []) ?_ ?_
 ·by_cases hc : (decide ((lenI x0) > (lenI x1))) = true
  ·rw [if_pos hc] at eq_3; rw [hc] at S
   refine wl_pure (l' := [(12, v1), (11, v0), (10, .bool true), (0, v0), (1, v1)]) S tys tys_ok 2 (by kernel_rfl) ?_
   clear S; intro a S
   refine w_go S rfl (op_len (K := _) S rfl ty35 rfl rfl rfl R1 ?_)
   clear S; intro a G_4 S
   obtain ⟨s_7, es_7, eq_3⟩ := bindS eq_3
   refine w_go S rfl (op_slice S rfl ty35 rfl rfl rfl R0 (.inl ⟨rfl, rfl⟩) (.inr ⟨_, _, rfl, rfl⟩) es_7 ?_)
   clear S; intro a v_5 R_6 S
   refine wl_pureK (l' := [(15, v1), (14, v_5), (10, .bool true)]) S tys tys_ok 1 [15, 14, 10] (by kernel_rfl) ?_
   clear S; intro a S
   obtain ⟨t_8, et_8, eq_3⟩ := bindS eq_3
   refine w_go S rfl (op_call (vs := [v_5, v1]) S rfl cb36 rfl rfl rfl (c36 (Kx K w.heap.size []) n w s_7 _ R_6 x1 _ R1 et_8) ?_)
   rintro _ w_12 ⟨v_9, rfl, R_10, hb_11⟩; refine ⟨_, rfl, ?_⟩
   replace R_10 := RepV.back R_10 W
   clear S; intro a S
   replace R_6 := R_6.step hb_11
   replace R1 := R1.step hb_11
   replace W := W.step hb_11
   obtain rfl := RepV.bool R_10
   refine wl_pureK (l' := [(17, .bool t_8)]) S tys tys_ok 1 [17] (by kernel_rfl) ?_
   clear S; intro a S
   obtain rfl := Option.some.inj eq_3
   exact ⟨S.sub (by exact ⟨rfl, trivial⟩), W⟩
  ·rw [if_neg hc] at eq_3; rw [show (decide ((lenI x0) > (lenI x1))) = false from Bool.eq_false_iff.2 hc] at S
   refine wl_pureK (l' := [(17, .bool false)]) S tys tys_ok 7 [17] (by kernel_rfl) ?_
   clear S; intro a S
   obtain rfl := Option.some.inj eq_3
   exact ⟨S.sub (by exact ⟨rfl, trivial⟩), W⟩
 clear S W eq_3; rintro a w_13 ⟨S, W⟩
 refine wl_pure (l' := [(4, .bool q_3), (17, .bool q_3)]) S tys tys_ok 1 (by kernel_rfl) ?_
 clear S; intro a S
 refine wpList_nil ?_
 refine then_n ?_
 replace S := S.sub (l' := [(4, .bool q_3)]) (by exact ⟨rfl, trivial⟩)
 refine wp_ret ?_
 obtain rfl := Option.some.inj h
 exact b_ret1 S rfl rfl ⟨_, rfl, RepV.mkBool, W.below⟩
theorem cb37 : callB Try.prog 37 = true := by kernel_rfl
def p41 (n : Nat) (x0 : (Sl (Int)) × Bool × Bool × Bool × Int) (y0 : (Sl (Int)) × Bool × Bool × Bool × Int) : Option ((Bool)) :=
 (if (!x0.2.2.2.1) = true then (p37 n x0.1 y0.1).bind fun t_12 => some t_12 else some false).bind fun q_7 =>
 some q_7
set_option maxHeartbeats 4000000 in
set_option maxRecDepth 100000 in
/-- (plugboard/suspends.List).needed$1 -/
theorem c41 (K : Nat → Prop) (n : Nat) (w : World) (x0 : (Sl (Int)) × Bool × Bool × Bool × Int) (v0 : Value) (R0 : RepV gt2 w K v0 x0) (q0 : Addr) (y0 : (Sl (Int)) × Bool × Bool × Bool × Int) (Q0 : Br gt2 w K q0 y0) {r : (Bool)} (h : p41 n x0 y0 = some r) :
  Calls Try.prog 41 #[v0, .pointer (some q0)] w (Ret1 .bool w (Kx K w.heap.size []) r) := by
 refine enter (args := [v0, .pointer (some q0)]) Try.func41 rfl 14 rfl rfl fun a S => ?_
 have W := Wd.start w
 replace R0 := R0.arg
 unfold p41 at h
 replace S : St 14 a [(0, v0), (1, .pointer (some q0))] := S
 refine wp_seq ?_
 refine wp_region_lit ?_
 refine w_go S rfl (op_box S rfl rfl rfl rfl rfl R0 ?_)
 clear S; intro a w_3 b_1 hb_4 B_2 S
 replace R0 := R0.box hb_4
 replace W := W.box hb_4
 refine wl_pure (l' := [(3, .bool false), (2, pB b_1), (0, v0), (1, .pointer (some q0))]) S tys tys_ok 1 (by kernel_rfl) ?_
 clear S; intro a S
 refine wpList_nil ?_
 refine then_n ?_
 replace S := S.sub (l' := [(2, pB b_1), (1, .pointer (some q0))]) (by exact ⟨rfl, rfl, trivial⟩)
 refine wp_seq ?_
 refine wp_region_lit ?_
 refine wl_pure (l' := [(4, .pointer (some ((⟨b_1, 0, .none⟩ : Addr).add (coff gf2 3)))), (2, pB b_1), (1, .pointer (some q0))]) S tys tys_ok 1 (by kernel_rfl) ?_
 clear S; intro a S
 refine w_go S rfl (op_load (t := .bool) (x := x0.2.2.2.1) S rfl ty4 rfl rfl rfl (RepAt.add 3 (RepAt.st (t := gf2) B_2.at_)) ?_)
 clear S; intro a v_5 R_6 S
 obtain rfl := RepV.bool R_6
 refine wl_pureK (l' := [(7, .bool (!x0.2.2.2.1)), (2, pB b_1), (1, .pointer (some q0))]) S tys tys_ok 2 [7, 2, 1] (by kernel_rfl) ?_
 clear S; intro a S
 obtain ⟨q_7, eq_7, h⟩ := bindS h
 refine seg 6 (fun a_ w_ => St 14 a_ [(13, .bool q_7)] ∧ Wd w w_ [some b_1] ∧ Bx gt2 37 w_ (Kx K w.heap.size [some b_1]) b_1 x0) ?_ ?_
 ·by_cases hc : (!x0.2.2.2.1) = true
  ·rw [if_pos hc] at eq_7; rw [hc] at S
   refine wl_pure (l' := [(8, .pointer (some ((⟨b_1, 0, .none⟩ : Addr).add (coff gf2 0)))), (7, .bool true), (2, pB b_1), (1, .pointer (some q0))]) S tys tys_ok 1 (by kernel_rfl) ?_
   clear S; intro a S
   refine w_go S rfl (op_load (t := (.sl (.int .u8))) (x := x0.1) S rfl ty35 rfl rfl rfl (RepAt.add 0 (RepAt.st (t := gf2) B_2.at_)) ?_)
   clear S; intro a v_8 R_9 S
   refine wl_pureK (l' := [(10, .pointer (some (q0.add (coff gf2 0)))), (9, v_8), (7, .bool true)]) S tys tys_ok 1 [10, 9, 7] (by kernel_rfl) ?_
   clear S; intro a S
   refine w_go S rfl (op_load (t := (.sl (.int .u8))) (x := y0.1) S rfl ty35 rfl rfl rfl (RepAt.add 0 (RepAt.st (t := gf2) (Br.now Q0 W))) ?_)
   clear S; intro a v_10 R_11 S
   obtain ⟨t_12, et_12, eq_7⟩ := bindS eq_7
   refine w_go S rfl (op_call (vs := [v_8, v_10]) S rfl cb37 rfl rfl rfl (c37 (Kx K w.heap.size [some b_1]) n w_3 x0.1 _ R_9 y0.1 _ R_11 et_12) ?_)
   rintro _ w_16 ⟨v_13, rfl, R_14, hb_15⟩; refine ⟨_, rfl, ?_⟩
   replace R_14 := RepV.back R_14 W
   clear S; intro a S
   replace R_9 := R_9.step hb_15
   replace R_11 := R_11.step hb_15
   replace B_2 := B_2.step hb_15
   replace W := W.step hb_15
   obtain rfl := RepV.bool R_14
   refine wl_pureK (l' := [(13, .bool t_12)]) S tys tys_ok 1 [13] (by kernel_rfl) ?_
   clear S; intro a S
   obtain rfl := Option.some.inj eq_7
   exact ⟨S.sub (by exact ⟨rfl, trivial⟩), W, B_2⟩
  ·rw [if_neg hc] at eq_7; rw [show (!x0.2.2.2.1) = false from Bool.eq_false_iff.2 hc] at S
   refine wl_pureK (l' := [(13, .bool false)]) S tys tys_ok 6 [13] (by kernel_rfl) ?_
   clear S; intro a S
   obtain rfl := Option.some.inj eq_7
   exact ⟨S.sub (by exact ⟨rfl, trivial⟩), W, B_2⟩
 clear S W eq_7; rintro a w_17 ⟨S, W, B_2⟩
 refine wl_pure (l' := [(3, .bool q_7), (13, .bool q_7)]) S tys tys_ok 1 (by kernel_rfl) ?_
 clear S; intro a S
 refine wpList_nil ?_
 refine then_n ?_
 replace S := S.sub (l' := [(3, .bool q_7)]) (by exact ⟨rfl, trivial⟩)
 refine wp_ret ?_
 obtain rfl := Option.some.inj h
 exact b_ret1 S rfl rfl ⟨_, rfl, RepV.mkBool, W.below⟩
theorem cb41 : callB Try.prog 41 = true := by kernel_rfl
def p45_41_l1 (n : Nat) (x0 : Sl ((Sl (Int)) × Bool × Bool × Bool × Int)) (y1_0 : (Sl (Int)) × Bool × Bool × Bool × Int) : Nat → (Int) → Option ((Unit) ⊕ ((Int)))
 | 0, _ => .none
 | m + 1, c_2 => if (decide (c_2 < (lenI x0))) then ((idx x0.xs c_2).bind fun y_11 => (p41 n y_11 y1_0).bind fun t_17 => if t_17 then (some (.inr c_2)) else (ckI .i64 (c_2 + 1)).bind fun x_22 => p45_41_l1 n x0 y1_0 m x_22) else some (.inl ())
def p45_41 (n : Nat) (x0 : Sl ((Sl (Int)) × Bool × Bool × Bool × Int)) (y1_0 : (Sl (Int)) × Bool × Bool × Bool × Int) : Option ((Int)) :=
 (p45_41_l1 n x0 y1_0 n 0).bind fun (y_6 : (Unit) ⊕ ((Int))) =>
 lrK y_6 some fun (s_7 : Unit) =>
 some (-1)
set_option maxHeartbeats 4000000 in
set_option maxRecDepth 100000 in
/-- slices.IndexFunc[plugboard/suspends.List,plugboard/suspends.Node] -/
theorem c45_41 (K : Nat → Prop) (n : Nat) (w : World) (x0 : Sl ((Sl (Int)) × Bool × Bool × Bool × Int)) (v0 : Value) (R0 : RepV (.sl gt2) w K v0 x0) (q1_0 : Addr) (y1_0 : (Sl (Int)) × Bool × Bool × Bool × Int) (Q1_0 : Br gt2 w K q1_0 y1_0) {r : (Int)} (h : p45_41 n x0 y1_0 = some r) :
  Calls Try.prog 45 #[v0, .func (.func 41) #[] #[.pointer (some q1_0)]] w (Ret1 (.int .i64) w (Kx K w.heap.size []) r) := by
 refine enter (args := [v0, .func (.func 41) #[] #[.pointer (some q1_0)]]) Try.func45 rfl 19 rfl rfl fun a S => ?_
 have W := Wd.start w
 replace R0 := R0.arg
 unfold p45_41 at h
 replace S : St 19 a [(0, v0), (1, .func (.func 41) #[] #[.pointer (some q1_0)])] := S
 refine wp_seq ?_
 refine wp_region_lit ?_
 refine wl_pure (l' := [(4, .int .i64 0), (0, v0), (1, .func (.func 41) #[] #[.pointer (some q1_0)])]) S tys tys_ok 1 (by kernel_rfl) ?_
 clear S; intro a S
 refine wpList_nil ?_
 refine then_n ?_
 replace S := S.sub (l' := [(0, v0), (1, .func (.func 41) #[] #[.pointer (some q1_0)])]) (by exact ⟨rfl, rfl, trivial⟩)
 refine wp_seq ?_
 refine wp_seq ?_
 refine wp_region_lit ?_
 refine wl_pure (l' := [(6, v0), (0, v0), (1, .func (.func 41) #[] #[.pointer (some q1_0)])]) S tys tys_ok 1 (by kernel_rfl) ?_
 clear S; intro a S
 refine w_go S rfl (op_len (K := _) S rfl ty25 rfl rfl rfl R0 ?_)
 clear S; intro a G_1 S
 refine wl_pure (l' := [(8, .int .i64 0), (7, .int .i64 (lenI x0)), (6, v0), (0, v0), (1, .func (.func 41) #[] #[.pointer (some q1_0)])]) S tys tys_ok 1 (by kernel_rfl) ?_
 clear S; intro a S
 refine wpList_nil ?_
 refine then_n ?_
 replace S := S.sub (l' := [(8, .int .i64 0), (7, .int .i64 (lenI x0)), (0, v0), (1, .func (.func 41) #[] #[.pointer (some q1_0)])]) (by exact ⟨rfl, rfl, rfl, rfl, trivial⟩)
 obtain ⟨y_6, ey_6, h⟩ := bindS h
 refine wp_cut_ (fun a_ w_ => ∃ s_7 : Unit, y_6 = .inl s_7 ∧ (St 19 a_ [] ∧ Wd w w_ [])) ?_ ?_
 ·refine wp_block ?_
  refine wp_loop_n (fun m_ a_ w_ => ∃ (c_2 : Int) , St 19 a_ [(8, .int .i64 c_2), (7, .int .i64 (lenI x0)), (0, v0), (1, .func (.func 41) #[] #[.pointer (some q1_0)])] ∧ Wd w w_ [] ∧ InR .i64 c_2 ∧ RepV (.sl gt2) w_ (Kx K w.heap.size []) v0 x0 ∧ p45_41_l1 n x0 y1_0 m_ c_2 = some y_6) n ?_ ?_
  ·skip
   exact ⟨0, ⟨S.sub (by exact ⟨rfl, rfl, rfl, rfl, trivial⟩), W, (by decide), R0, ey_6⟩⟩
  ·clear S W; rintro m_8 a w_10 ⟨c_2, S, W, G_3, R0, hl_9⟩
   cases m_8 with
   | zero => exact absurd hl_9 (by simp [p45_41_l1])
   | succ m_8 =>
    refine ⟨m_8, rfl, ?_⟩
    rw [p45_41_l1] at hl_9
    refine wp_seq ?_
    refine wp_region_lit ?_
    refine wl_pure (l' := [(9, .bool (decide (c_2 < (lenI x0)))), (8, .int .i64 c_2), (7, .int .i64 (lenI x0)), (0, v0), (1, .func (.func 41) #[] #[.pointer (some q1_0)])]) S tys tys_ok 1 (by kernel_rfl) ?_
    clear S; intro a S
    refine wpList_nil ?_
    refine then_n ?_
    refine wp_seq ?_
    refine wp_cond_split (S.eval (show ev _ _ = some (.bool (decide (c_2 < (lenI x0)))) from rfl)) ?_ ?_
    ·intro hc
     rw [if_pos hc] at hl_9
     refine wp_skip ?_
     refine then_n ?_
     replace S := S.sub (l' := [(8, .int .i64 c_2), (7, .int .i64 (lenI x0)), (0, v0), (1, .func (.func 41) #[] #[.pointer (some q1_0)])]) (by exact ⟨rfl, rfl, rfl, rfl, trivial⟩)
     refine wp_seq ?_
     refine wp_block ?_
     refine wp_seq ?_
     refine wp_region_lit ?_
     refine wl_pure (l' := [(5, .int .i64 c_2), (10, .int .i64 c_2), (8, .int .i64 c_2), (7, .int .i64 (lenI x0)), (0, v0), (1, .func (.func 41) #[] #[.pointer (some q1_0)])]) S tys tys_ok 2 (by kernel_rfl) ?_
     clear S; intro a S
     refine wpList_nil ?_
     refine then_n ?_
     replace S := S.sub (l' := [(5, .int .i64 c_2), (8, .int .i64 c_2), (7, .int .i64 (lenI x0)), (0, v0), (1, .func (.func 41) #[] #[.pointer (some q1_0)])]) (by exact ⟨rfl, rfl, rfl, rfl, rfl, trivial⟩)
     refine wp_seq ?_
     refine wp_region_lit ?_
     refine wl_pure (l' := [(13, .int .i64 c_2), (12, v0), (11, .func (.func 41) #[] #[.pointer (some q1_0)]), (5, .int .i64 c_2), (8, .int .i64 c_2), (7, .int .i64 (lenI x0)), (0, v0), (1, .func (.func 41) #[] #[.pointer (some q1_0)])]) S tys tys_ok 3 (by kernel_rfl) ?_
     clear S; intro a S
     obtain ⟨y_11, ey_11, hl_9⟩ := bindS hl_9
     refine w_go S rfl (op_indexAddr S rfl ty25 rfl rfl rfl R0 rfl ey_11 ?_)
     clear S; intro a p_12 R_13 H_14 S
     refine w_go S rfl (op_load (t := gt2) (x := y_11) S rfl ty37 rfl rfl rfl R_13 ?_)
     clear S; intro a v_15 R_16 S
     obtain ⟨t_17, et_17, hl_9⟩ := bindS hl_9
     refine w_go S rfl (op_calld (vs := [v_15]) S rfl rfl cb41 rfl rfl rfl (c41 (Kx K w.heap.size []) n w_10 y_11 _ R_16 _ y1_0 (Br.again Q1_0 W) et_17) ?_)
     rintro _ w_21 ⟨v_18, rfl, R_19, hb_20⟩; refine ⟨_, rfl, ?_⟩
     replace R_19 := RepV.back R_19 W
     clear S; intro a S
     replace R0 := R0.step hb_20
     replace R_16 := R_16.step hb_20
     replace W := W.step hb_20
     obtain rfl := RepV.bool R_19
     refine wpList_nil ?_
     refine then_n ?_
     replace S := S.sub (l' := [(16, .bool t_17), (5, .int .i64 c_2), (8, .int .i64 c_2), (7, .int .i64 (lenI x0)), (0, v0), (1, .func (.func 41) #[] #[.pointer (some q1_0)])]) (by exact ⟨rfl, rfl, rfl, rfl, rfl, rfl, trivial⟩)
     refine wp_cond_split (S.eval (show ev _ _ = some (.bool t_17) from rfl)) ?_ ?_
     ·intro hc
      rw [if_pos hc] at hl_9
      refine wp_seq ?_
      refine wp_region_lit ?_
      refine wl_pureK (l' := [(4, .int .i64 c_2)]) S tys tys_ok 2 [4] (by kernel_rfl) ?_
      clear S; intro a S
      refine wpList_nil ?_
      refine then_n ?_
      refine wp_ret ?_
      refine blk_r ?_
      refine then_r ?_
      refine then_r ?_
      refine blk_r ?_
      refine then_r ?_
      refine then_r ?_
      obtain rfl := Option.some.inj hl_9
      obtain rfl := lr_inr h
      exact b_ret1 S rfl rfl ⟨_, rfl, (RepV.mkInt G_3), W.below⟩
     ·intro hc
      rw [if_neg (Bool.eq_false_iff.1 hc)] at hl_9
      refine wp_skip ?_
      refine blk_n ?_
      refine then_n ?_
      replace S := S.sub (l' := [(8, .int .i64 c_2), (7, .int .i64 (lenI x0)), (0, v0), (1, .func (.func 41) #[] #[.pointer (some q1_0)])]) (by exact ⟨rfl, rfl, rfl, rfl, trivial⟩)
      refine wp_region_lit ?_
      obtain ⟨x_22, ex_22, hl_9⟩ := bindS hl_9
      refine w_go S rfl (op_arith S .i64 (c_2 + 1) rfl (.inl rfl) rfl rfl rfl rfl ex_22 ?_)
      clear S; intro a S
      refine wl_pure (l' := [(8, .int .i64 x_22), (18, .int .i64 x_22), (8, .int .i64 c_2), (7, .int .i64 (lenI x0)), (0, v0), (1, .func (.func 41) #[] #[.pointer (some q1_0)])]) S tys tys_ok 1 (by kernel_rfl) ?_
      clear S; intro a S
      refine wpList_nil ?_
      refine then_n ?_
      exact ⟨x_22, ⟨S.sub (by exact ⟨rfl, rfl, rfl, rfl, trivial⟩), W, (ckI_some ex_22).2.1, R0, hl_9⟩⟩
    ·intro hc
     rw [if_neg (Bool.eq_false_iff.1 hc)] at hl_9
     refine wp_exit ?_
     refine then_x ?_
     refine then_x ?_
     refine blk_hit ?_
     refine then_n ?_
     obtain rfl := Option.some.inj hl_9
     exact ⟨_, rfl, ⟨S.sub trivial, W⟩⟩
 clear S W; rintro a w_23 ⟨s_7, rfl, S, W⟩
 replace h := lr_inl h; try dsimp only at h
 refine then_n ?_
 refine wp_seq ?_
 refine wp_region_lit ?_
 refine wl_pure (l' := [(4, .int .i64 (-1))]) S tys tys_ok 1 (by kernel_rfl) ?_
 clear S; intro a S
 refine wpList_nil ?_
 refine then_n ?_
 refine wp_ret ?_
 obtain rfl := Option.some.inj h
 exact b_ret1 S rfl rfl ⟨_, rfl, (RepV.mkInt (by decide)), W.below⟩
def p40_41 (n : Nat) (x0 : Sl ((Sl (Int)) × Bool × Bool × Bool × Int)) (y1_0 : (Sl (Int)) × Bool × Bool × Bool × Int) : Option ((Bool)) :=
 (p45_41 n x0 y1_0).bind fun t_1 =>
 some (decide (t_1 ≥ 0))
set_option maxHeartbeats 4000000 in
set_option maxRecDepth 100000 in
/-- slices.ContainsFunc[plugboard/suspends.List,plugboard/suspends.Node] -/
theorem c40_41 (K : Nat → Prop) (n : Nat) (w : World) (x0 : Sl ((Sl (Int)) × Bool × Bool × Bool × Int)) (v0 : Value) (R0 : RepV (.sl gt2) w K v0 x0) (q1_0 : Addr) (y1_0 : (Sl (Int)) × Bool × Bool × Bool × Int) (Q1_0 : Br gt2 w K q1_0 y1_0) {r : (Bool)} (h : p40_41 n x0 y1_0 = some r) :
  Calls Try.prog 40 #[v0, .func (.func 41) #[] #[.pointer (some q1_0)]] w (Ret1 .bool w (Kx K w.heap.size []) r) := by
 refine enter (args := [v0, .func (.func 41) #[] #[.pointer (some q1_0)]]) Try.func40 rfl 9 rfl rfl fun a S => ?_
 have W := Wd.start w
 replace R0 := R0.arg
 unfold p40_41 at h
 replace S : St 9 a [(0, v0), (1, .func (.func 41) #[] #[.pointer (some q1_0)])] := S
 refine wp_seq ?_
 refine wp_region_lit ?_
 refine wl_pure (l' := [(4, .bool false), (0, v0), (1, .func (.func 41) #[] #[.pointer (some q1_0)])]) S tys tys_ok 1 (by kernel_rfl) ?_
 clear S; intro a S
 refine wpList_nil ?_
 refine then_n ?_
 replace S := S.sub (l' := [(0, v0), (1, .func (.func 41) #[] #[.pointer (some q1_0)])]) (by exact ⟨rfl, rfl, trivial⟩)
 refine wp_seq ?_
 refine wp_region_lit ?_
 refine wl_pure (l' := [(6, .func (.func 41) #[] #[.pointer (some q1_0)]), (5, v0), (0, v0), (1, .func (.func 41) #[] #[.pointer (some q1_0)])]) S tys tys_ok 2 (by kernel_rfl) ?_
 clear S; intro a S
 obtain ⟨t_1, et_1, h⟩ := bindS h
 refine w_go S rfl (op_call (vs := [v0, .func (.func 41) #[] #[.pointer (some q1_0)]]) S rfl cb45 rfl rfl rfl (c45_41 (Kx K w.heap.size []) n w x0 _ R0 _ y1_0 (Br.again Q1_0 W) et_1) ?_)
 rintro _ w_5 ⟨v_2, rfl, R_3, hb_4⟩; refine ⟨_, rfl, ?_⟩
 replace R_3 := RepV.back R_3 W
 clear S; intro a S
 replace R0 := R0.step hb_4
 replace W := W.step hb_4
 obtain ⟨rfl, GR_3⟩ := RepV.int R_3
 refine wl_pureK (l' := [(4, .bool (decide (t_1 ≥ 0)))]) S tys tys_ok 2 [4] (by kernel_rfl) ?_
 clear S; intro a S
 refine wpList_nil ?_
 refine then_n ?_
 refine wp_ret ?_
 obtain rfl := Option.some.inj h
 exact b_ret1 S rfl rfl ⟨_, rfl, RepV.mkBool, W.below⟩
def p25 (n : Nat) (x0 : Sl ((Sl (Int)) × Bool × Bool × Bool × Int)) (x1 : (Sl (Int)) × Bool × Bool × Bool × Int) : Option ((Bool)) :=
 (if x1.2.1 = false then (p40_41 n x0 x1).bind fun t_8 => some t_8 else some true).bind fun q_7 =>
 some q_7
set_option maxHeartbeats 4000000 in
set_option maxRecDepth 100000 in
/-- (plugboard/suspends.List).needed -/
theorem c25 (K : Nat → Prop) (n : Nat) (w : World) (x0 : Sl ((Sl (Int)) × Bool × Bool × Bool × Int)) (v0 : Value) (R0 : RepV (.sl gt2) w K v0 x0) (x1 : (Sl (Int)) × Bool × Bool × Bool × Int) (v1 : Value) (R1 : RepV gt2 w K v1 x1) {r : (Bool)} (h : p25 n x0 x1 = some r) :
  Calls Try.prog 25 #[v0, v1] w (Ret1 .bool w (Kx K w.heap.size []) r) := by
 refine enter (args := [v0, v1]) Try.func25 rfl 12 rfl rfl fun a S => ?_
 have W := Wd.start w
 replace R0 := R0.arg
 replace R1 := R1.arg
 unfold p25 at h
 replace S : St 12 a [(0, v0), (1, v1)] := S
 refine wp_seq ?_
 refine wp_region_lit ?_
 refine w_go S rfl (op_box S rfl rfl rfl rfl rfl R1 ?_)
 clear S; intro a w_3 b_1 hb_4 B_2 S
 replace R0 := R0.box hb_4
 replace R1 := R1.box hb_4
 replace W := W.box hb_4
 refine wl_pure (l' := [(4, .bool false), (3, pB b_1), (0, v0), (1, v1)]) S tys tys_ok 1 (by kernel_rfl) ?_
 clear S; intro a S
 refine wpList_nil ?_
 refine then_n ?_
 replace S := S.sub (l' := [(3, pB b_1), (0, v0)]) (by exact ⟨rfl, rfl, trivial⟩)
 refine wp_seq ?_
 refine wp_region_lit ?_
 refine wl_pure (l' := [(5, .pointer (some ((⟨b_1, 0, .none⟩ : Addr).add (coff gf2 1)))), (3, pB b_1), (0, v0)]) S tys tys_ok 1 (by kernel_rfl) ?_
 clear S; intro a S
 refine w_go S rfl (op_load (t := .bool) (x := x1.2.1) S rfl ty4 rfl rfl rfl (RepAt.add 1 (RepAt.st (t := gf2) B_2.at_)) ?_)
 clear S; intro a v_5 R_6 S
 obtain rfl := RepV.bool R_6
 refine wl_pure (l' := [(7, .bool x1.2.1), (6, .bool x1.2.1), (5, .pointer (some ((⟨b_1, 0, .none⟩ : Addr).add (coff gf2 1)))), (3, pB b_1), (0, v0)]) S tys tys_ok 1 (by kernel_rfl) ?_
 clear S; intro a S
 obtain ⟨q_7, eq_7, h⟩ := bindS h
 refine seg 4 (fun a_ w_ => St 12 a_ [(11, .bool q_7)] ∧ Wd w w_ [some b_1] ∧ Bx gt2 37 w_ (Kx K w.heap.size [some b_1]) b_1 x1) ?_ ?_
 ·by_cases hc : x1.2.1 = false
  ·rw [if_pos hc] at eq_7; rw [hc] at S
   refine wl_pureK (l' := [(8, v0), (7, .bool false), (3, pB b_1)]) S tys tys_ok 1 [8, 7, 3] (by kernel_rfl) ?_
   clear S; intro a S
   refine w_go S rfl (op_mkfn (vs := []) (us := [pB b_1]) S rfl rfl rfl rfl rfl ?_)
   clear S; intro a S
   obtain ⟨t_8, et_8, eq_7⟩ := bindS eq_7
   refine w_go S rfl (op_call (vs := [v0, .func (.func 41) #[] #[pB b_1]]) S rfl cb40 rfl rfl rfl (c40_41 (Kx K w.heap.size [some b_1]) n w_3 x0 _ R0 _ x1 (Bx.br B_2) et_8) ?_)
   rintro _ w_12 ⟨v_9, rfl, R_10, hb_11⟩; refine ⟨_, rfl, ?_⟩
   replace R_10 := RepV.back R_10 W
   clear S; intro a S
   replace R0 := R0.step hb_11
   replace B_2 := B_2.step hb_11
   replace W := W.step hb_11
   obtain rfl := RepV.bool R_10
   refine wl_pureK (l' := [(11, .bool t_8)]) S tys tys_ok 1 [11] (by kernel_rfl) ?_
   clear S; intro a S
   obtain rfl := Option.some.inj eq_7
   exact ⟨S.sub (by exact ⟨rfl, trivial⟩), W, B_2⟩
  ·rw [if_neg hc] at eq_7; rw [show x1.2.1 = true from (by simpa using hc)] at S
   refine wl_pureK (l' := [(11, .bool true)]) S tys tys_ok 4 [11] (by kernel_rfl) ?_
   clear S; intro a S
   obtain rfl := Option.some.inj eq_7
   exact ⟨S.sub (by exact ⟨rfl, trivial⟩), W, B_2⟩
 clear S W eq_7; rintro a w_13 ⟨S, W, B_2⟩
 refine wl_pure (l' := [(4, .bool q_7), (11, .bool q_7)]) S tys tys_ok 1 (by kernel_rfl) ?_
 clear S; intro a S
 refine wpList_nil ?_
 refine then_n ?_
 replace S := S.sub (l' := [(4, .bool q_7)]) (by exact ⟨rfl, trivial⟩)
 refine wp_ret ?_
 obtain rfl := Option.some.inj h
 exact b_ret1 S rfl rfl ⟨_, rfl, RepV.mkBool, W.below⟩
theorem cb25 : callB Try.prog 25 = true := by kernel_rfl

end Go.Proofs.Ytflieonbbggmhaa
