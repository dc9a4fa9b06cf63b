/- Functions of the program, as plain data. -/
import Derived.Test.YtmcpcdmonglkjaaP0
set_option linter.unusedVariables false
set_option linter.unusedSimpArgs false
namespace Go.Proofs.Ytmcpcdmonglkjaa
open Go.RowKit

def p31 (n : Nat)  : Option ((List Int)) :=
 some ([] : List Int)
set_option maxHeartbeats 4000000 in
set_option maxRecDepth 100000 in
/-- plugboard/events.newSet[uint8] -/
theorem c31 (K : Nat → Prop) (n : Nat) (w : World)  {r : (List Int)} (h : p31 n  = some r) :
  Calls Try.prog 31 #[] w (fun e_ w_ => ∃ b_ : Nat, e_ = .returned (.agg #[.map (some b_)]) ∧ Mp .u8 w_ b_ r ∧ Wd w w_ [some b_]) := by
 refine enter (args := []) Try.func31 rfl 3 rfl rfl fun a S => ?_
 have W := Wd.start w
 unfold p31 at h
 replace S : St 3 a [] := S
 refine wp_seq ?_
 refine wp_region_lit ?_
 refine w_go S rfl (op_alloc_set S st72 rfl rfl rfl ?_)
 clear S; intro a w_3 b_1 hb_4 B_2 S
 replace W := W.box hb_4
 refine wpList_nil ?_
 refine then_n ?_
 refine wp_seq ?_
 refine wp_region_lit ?_
 refine w_go S rfl (op_makeMap (kd := .u8) S rfl rfl rfl ?_)
 clear S; intro a w_7 b_5 hb_8 B_6 S
 replace B_2 := B_2.box hb_8
 replace W := W.box hb_8
 refine w_go S rfl (op_build_set S st72 rfl rfl rfl rfl ?_)
 clear S; intro a S
 refine w_go S rfl (op_store_set S st72 rfl rfl rfl rfl B_2 ?_)
 intro w_9 hw_10 B_
 replace B_6 := B_6.wrote hw_10 (by simp) (W.bne (p := 0) (q := 1) (by decide) rfl rfl)
 replace W := W.wrote hw_10 (by simp)
 replace B_2 : Ox (.cells #[.map (some b_5)] 72 (0, 0)) w_9 b_1 := B_; clear B_
 refine wpList_nil ?_
 refine then_n ?_
 replace S := S.sub (l' := [(0, pB b_1)]) (by exact ⟨rfl, trivial⟩)
 refine wp_ret ?_
 obtain rfl := Option.some.inj h
 exact b_res1 S rfl (res_cell_set S st72 rfl B_2) ⟨b_5, rfl, B_6, Wd.front (P := [some b_5]) (LO := [some b_1]) W⟩
theorem cb31 : callB Try.prog 31 = true := by kernel_rfl
def p53 (n : Nat) (x0 : Int) : Option ((Bool)) :=
 (if (decide (x0 < 1)) = false then some (decide (x0 > 7)) else some true).bind fun q_1 =>
 some q_1
set_option maxHeartbeats 4000000 in
set_option maxRecDepth 100000 in
/-- plugboard/topologies.Check$1 -/
theorem c53 (K : Nat → Prop) (n : Nat) (w : World) (x0 : Int) (G0 : InR .u8 x0) {r : (Bool)} (h : p53 n x0 = some r) :
  Calls Try.prog 53 #[.int .u8 x0] w (Ret1 .bool w (Kx K w.heap.size []) r) := by
 refine enter (args := [.int .u8 x0]) Try.func53 rfl 9 rfl rfl fun a S => ?_
 have W := Wd.start w
 unfold p53 at h
 replace S : St 9 a [(0, .int .u8 x0)] := S
 refine wp_seq ?_
 refine wp_region_lit ?_
 refine wl_pure (l' := [(2, .bool false), (0, .int .u8 x0)]) S tys tys_ok 1 (by kernel_rfl) ?_
 clear S; intro a S
 refine wpList_nil ?_
 refine then_n ?_
 replace S := S.sub (l' := [(0, .int .u8 x0)]) (by exact ⟨rfl, trivial⟩)
 refine wp_seq ?_
 refine wp_region_lit ?_
 refine wl_pure (l' := [(5, .bool (decide (x0 < 1))), (4, .bool (decide (x0 < 1))), (3, .int .u8 x0), (0, .int .u8 x0)]) S tys tys_ok 3 (by kernel_rfl) ?_
 clear S; intro a S
 obtain ⟨q_1, eq_1, h⟩ := bindS h
 refine seg 3 (fun a_ w_ => w = w_ ∧ St 9 a_ [(8, .bool q_1)]) ?_ ?_
 ·by_cases hc : (decide (x0 < 1)) = false
  ·rw [if_pos hc] at eq_1; rw [hc] at S
   refine wl_pureK (l' := [(8, .bool (decide (x0 > 7)))]) S tys tys_ok 3 [8] (by kernel_rfl) ?_
   clear S; intro a S
   obtain rfl := Option.some.inj eq_1
   exact ⟨rfl, S.sub (by exact ⟨rfl, trivial⟩)⟩
  ·rw [if_neg hc] at eq_1; rw [show (decide (x0 < 1)) = true from (by simpa using hc)] at S
   refine wl_pureK (l' := [(8, .bool true)]) S tys tys_ok 3 [8] (by kernel_rfl) ?_
   clear S; intro a S
   obtain rfl := Option.some.inj eq_1
   exact ⟨rfl, S.sub (by exact ⟨rfl, trivial⟩)⟩
 clear S eq_1; rintro a _ ⟨rfl, S⟩
 refine wl_pure (l' := [(2, .bool q_1), (8, .bool q_1)]) S tys tys_ok 1 (by kernel_rfl) ?_
 clear S; intro a S
 refine wpList_nil ?_
 refine then_n ?_
 replace S := S.sub (l' := [(2, .bool q_1)]) (by exact ⟨rfl, trivial⟩)
 refine wp_ret ?_
 obtain rfl := Option.some.inj h
 exact b_ret1 S rfl rfl ⟨_, rfl, RepV.mkBool, W.below⟩
theorem cb53 : callB Try.prog 53 = true := by kernel_rfl
def p63_53_l1 (n : Nat) (x0 : Sl (Int)) : Nat → (Int) → Option ((Unit) ⊕ ((Int)))
 | 0, _ => .none
 | m + 1, c_2 => if (decide (c_2 < (lenI x0))) then ((idx x0.xs c_2).bind fun y_11 => (p53 n y_11).bind fun t_17 => if t_17 then (some (.inr c_2)) else (ckI .i64 (c_2 + 1)).bind fun x_22 => p63_53_l1 n x0 m x_22) else some (.inl ())
def p63_53 (n : Nat) (x0 : Sl (Int)) : Option ((Int)) :=
 (p63_53_l1 n x0 n 0).bind fun (y_6 : (Unit) ⊕ ((Int))) =>
 lrK y_6 some fun (s_7 : Unit) =>
 some (-1)
set_option maxHeartbeats 4000000 in
set_option maxRecDepth 100000 in
/-- slices.IndexFunc[plugboard/topologies.Path,uint8] -/
theorem c63_53 (K : Nat → Prop) (n : Nat) (w : World) (x0 : Sl (Int)) (v0 : Value) (R0 : RepV (.sl (.int .u8)) w K v0 x0) {r : (Int)} (h : p63_53 n x0 = some r) :
  Calls Try.prog 63 #[v0, .func (.func 53) #[] #[]] w (Ret1 (.int .i64) w (Kx K w.heap.size []) r) := by
 refine enter (args := [v0, .func (.func 53) #[] #[]]) Try.func63 rfl 19 rfl rfl fun a S => ?_
 have W := Wd.start w
 replace R0 := R0.arg
 unfold p63_53 at h
 replace S : St 19 a [(0, v0), (1, .func (.func 53) #[] #[])] := S
 refine wp_seq ?_
 refine wp_region_lit ?_
 refine wl_pure (l' := [(4, .int .i64 0), (0, v0), (1, .func (.func 53) #[] #[])]) S tys tys_ok 1 (by kernel_rfl) ?_
 clear S; intro a S
 refine wpList_nil ?_
 refine then_n ?_
 replace S := S.sub (l' := [(0, v0), (1, .func (.func 53) #[] #[])]) (by exact ⟨rfl, rfl, trivial⟩)
 refine wp_seq ?_
 refine wp_seq ?_
 refine wp_region_lit ?_
 refine wl_pure (l' := [(6, v0), (0, v0), (1, .func (.func 53) #[] #[])]) S tys tys_ok 1 (by kernel_rfl) ?_
 clear S; intro a S
 refine w_go S rfl (op_len (K := _) S rfl ty25 rfl rfl rfl R0 ?_)
 clear S; intro a G_1 S
 refine wl_pure (l' := [(8, .int .i64 0), (7, .int .i64 (lenI x0)), (6, v0), (0, v0), (1, .func (.func 53) #[] #[])]) S tys tys_ok 1 (by kernel_rfl) ?_
 clear S; intro a S
 refine wpList_nil ?_
 refine then_n ?_
 replace S := S.sub (l' := [(8, .int .i64 0), (7, .int .i64 (lenI x0)), (0, v0), (1, .func (.func 53) #[] #[])]) (by exact ⟨rfl, rfl, rfl, rfl, trivial⟩)
 obtain ⟨y_6, ey_6, h⟩ := bindS h
 refine wp_cut_ (fun a_ w_ => ∃ s_7 : Unit, y_6 = .inl s_7 ∧ (St 19 a_ [] ∧ Wd w w_ [])) ?_ ?_
 ·refine wp_block ?_
  refine wp_loop_n (fun m_ a_ w_ => ∃ (c_2 : Int) , St 19 a_ [(8, .int .i64 c_2), (7, .int .i64 (lenI x0)), (0, v0), (1, .func (.func 53) #[] #[])] ∧ Wd w w_ [] ∧ InR .i64 c_2 ∧ RepV (.sl (.int .u8)) w_ (Kx K w.heap.size []) v0 x0 ∧ p63_53_l1 n x0 m_ c_2 = some y_6) n ?_ ?_
  ·skip
   exact ⟨0, ⟨S.sub (by exact ⟨rfl, rfl, rfl, rfl, trivial⟩), W, (show InR .i64 0 by decide), R0, ey_6⟩⟩
  ·clear S W; rintro m_8 a w_10 ⟨c_2, S, W, G_3, R0, hl_9⟩
   cases m_8 with
   | zero => exact absurd hl_9 (by simp [p63_53_l1])
   | succ m_8 =>
    refine ⟨m_8, rfl, ?_⟩
    rw [p63_53_l1] at hl_9
    refine wp_seq ?_
    refine wp_region_lit ?_
    refine wl_pure (l' := [(9, .bool (decide (c_2 < (lenI x0)))), (8, .int .i64 c_2), (7, .int .i64 (lenI x0)), (0, v0), (1, .func (.func 53) #[] #[])]) S tys tys_ok 1 (by kernel_rfl) ?_
    clear S; intro a S
    refine wpList_nil ?_
    refine then_n ?_
    refine wp_seq ?_
    refine wp_cond_split (S.eval (show ev _ _ = some (.bool (decide (c_2 < (lenI x0)))) from rfl)) ?_ ?_
    ·intro hc
     rw [if_pos hc] at hl_9
     refine wp_skip ?_
     refine then_n ?_
     replace S := S.sub (l' := [(8, .int .i64 c_2), (7, .int .i64 (lenI x0)), (0, v0), (1, .func (.func 53) #[] #[])]) (by exact ⟨rfl, rfl, rfl, rfl, trivial⟩)
     refine wp_seq ?_
     refine wp_block ?_
     refine wp_seq ?_
     refine wp_region_lit ?_
     refine wl_pure (l' := [(5, .int .i64 c_2), (10, .int .i64 c_2), (8, .int .i64 c_2), (7, .int .i64 (lenI x0)), (0, v0), (1, .func (.func 53) #[] #[])]) S tys tys_ok 2 (by kernel_rfl) ?_
     clear S; intro a S
     refine wpList_nil ?_
     refine then_n ?_
     replace S := S.sub (l' := [(5, .int .i64 c_2), (8, .int .i64 c_2), (7, .int .i64 (lenI x0)), (0, v0), (1, .func (.func 53) #[] #[])]) (by exact ⟨rfl, rfl, rfl, rfl, rfl, trivial⟩)
     refine wp_seq ?_
     refine wp_region_lit ?_
     refine wl_pure (l' := [(13, .int .i64 c_2), (12, v0), (11, .func (.func 53) #[] #[]), (5, .int .i64 c_2), (8, .int .i64 c_2), (7, .int .i64 (lenI x0)), (0, v0), (1, .func (.func 53) #[] #[])]) S tys tys_ok 3 (by kernel_rfl) ?_
     clear S; intro a S
     obtain ⟨y_11, ey_11, hl_9⟩ := bindS hl_9
     refine w_go S rfl (op_indexAddr S rfl ty25 rfl rfl rfl R0 rfl ey_11 ?_)
     clear S; intro a p_12 R_13 H_14 S
     refine w_go S rfl (op_load (t := (.int .u8)) (x := y_11) S rfl ty5 rfl rfl rfl R_13 ?_)
     clear S; intro a v_15 R_16 S
     obtain ⟨rfl, GR_16⟩ := RepV.int R_16
     obtain ⟨t_17, et_17, hl_9⟩ := bindS hl_9
     refine w_go S rfl (op_calld (vs := [.int .u8 y_11]) S rfl rfl cb53 rfl rfl rfl (c53 (Kx K w.heap.size []) n w_10 y_11 GR_16 et_17) ?_)
     rintro _ w_21 ⟨v_18, rfl, R_19, hb_20⟩; refine ⟨_, rfl, ?_⟩
     replace R_19 := RepV.back R_19 W
     clear S; intro a S
     replace R0 := R0.step hb_20
     replace W := W.step hb_20
     obtain rfl := RepV.bool R_19
     refine wpList_nil ?_
     refine then_n ?_
     replace S := S.sub (l' := [(16, .bool t_17), (5, .int .i64 c_2), (8, .int .i64 c_2), (7, .int .i64 (lenI x0)), (0, v0), (1, .func (.func 53) #[] #[])]) (by exact ⟨rfl, rfl, rfl, rfl, rfl, rfl, trivial⟩)
     refine wp_cond_split (S.eval (show ev _ _ = some (.bool t_17) from rfl)) ?_ ?_
     ·intro hc
      rw [if_pos hc] at hl_9
      refine wp_seq ?_
      refine wp_region_lit ?_
      refine wl_pureK (l' := [(4, .int .i64 c_2)]) S tys tys_ok 2 [4] (by kernel_rfl) ?_
      clear S; intro a S
      refine wpList_nil ?_
      refine then_n ?_
      refine wp_ret ?_
      refine blk_r ?_
      refine then_r ?_
      refine then_r ?_
      refine blk_r ?_
      refine then_r ?_
      refine then_r ?_
      obtain rfl := Option.some.inj hl_9
      obtain rfl := lr_inr h
      exact b_ret1 S rfl rfl ⟨_, rfl, (RepV.mkInt G_3), W.below⟩
     ·intro hc
      rw [if_neg (Bool.eq_false_iff.1 hc)] at hl_9
      refine wp_skip ?_
      refine blk_n ?_
      refine then_n ?_
      replace S := S.sub (l' := [(8, .int .i64 c_2), (7, .int .i64 (lenI x0)), (0, v0), (1, .func (.func 53) #[] #[])]) (by exact ⟨rfl, rfl, rfl, rfl, trivial⟩)
      refine wp_region_lit ?_
      obtain ⟨x_22, ex_22, hl_9⟩ := bindS hl_9
      refine w_go S rfl (op_arith S .i64 (c_2 + 1) rfl (.inl rfl) rfl rfl rfl rfl ex_22 ?_)
      clear S; intro a S
      refine wl_pure (l' := [(8, .int .i64 x_22), (18, .int .i64 x_22), (8, .int .i64 c_2), (7, .int .i64 (lenI x0)), (0, v0), (1, .func (.func 53) #[] #[])]) S tys tys_ok 1 (by kernel_rfl) ?_
      clear S; intro a S
      refine wpList_nil ?_
      refine then_n ?_
      exact ⟨x_22, ⟨S.sub (by exact ⟨rfl, rfl, rfl, rfl, trivial⟩), W, (ckI_some ex_22).2.1, R0, hl_9⟩⟩
    ·intro hc
     rw [if_neg (Bool.eq_false_iff.1 hc)] at hl_9
     refine wp_exit ?_
     refine then_x ?_
     refine then_x ?_
     refine blk_hit ?_
     refine then_n ?_
     obtain rfl := Option.some.inj hl_9
     exact ⟨_, rfl, ⟨S.sub trivial, W⟩⟩
 clear S W; rintro a w_23 ⟨s_7, rfl, S, W⟩
 replace h := lr_inl h; try dsimp only at h
 refine then_n ?_
 refine wp_seq ?_
 refine wp_region_lit ?_
 refine wl_pure (l' := [(4, .int .i64 (-1))]) S tys tys_ok 1 (by kernel_rfl) ?_
 clear S; intro a S
 refine wpList_nil ?_
 refine then_n ?_
 refine wp_ret ?_
 obtain rfl := Option.some.inj h
 exact b_ret1 S rfl rfl ⟨_, rfl, (RepV.mkInt (by decide)), W.below⟩
def p52_53 (n : Nat) (x0 : Sl (Int)) : Option ((Bool)) :=
 (p63_53 n x0).bind fun t_1 =>
 some (decide (t_1 ≥ 0))
set_option maxHeartbeats 4000000 in
set_option maxRecDepth 100000 in
/-- slices.ContainsFunc[plugboard/topologies.Path,uint8] -/
theorem c52_53 (K : Nat → Prop) (n : Nat) (w : World) (x0 : Sl (Int)) (v0 : Value) (R0 : RepV (.sl (.int .u8)) w K v0 x0) {r : (Bool)} (h : p52_53 n x0 = some r) :
  Calls Try.prog 52 #[v0, .func (.func 53) #[] #[]] w (Ret1 .bool w (Kx K w.heap.size []) r) := by
 refine enter (args := [v0, .func (.func 53) #[] #[]]) Try.func52 rfl 9 rfl rfl fun a S => ?_
 have W := Wd.start w
 replace R0 := R0.arg
 unfold p52_53 at h
 replace S : St 9 a [(0, v0), (1, .func (.func 53) #[] #[])] := S
 refine wp_seq ?_
 refine wp_region_lit ?_
 refine wl_pure (l' := [(4, .bool false), (0, v0), (1, .func (.func 53) #[] #[])]) S tys tys_ok 1 (by kernel_rfl) ?_
 clear S; intro a S
 refine wpList_nil ?_
 refine then_n ?_
 replace S := S.sub (l' := [(0, v0), (1, .func (.func 53) #[] #[])]) (by exact ⟨rfl, rfl, trivial⟩)
 refine wp_seq ?_
 refine wp_region_lit ?_
 refine wl_pure (l' := [(6, .func (.func 53) #[] #[]), (5, v0), (0, v0), (1, .func (.func 53) #[] #[])]) S tys tys_ok 2 (by kernel_rfl) ?_
 clear S; intro a S
 obtain ⟨t_1, et_1, h⟩ := bindS h
 refine w_go S rfl (op_call (vs := [v0, .func (.func 53) #[] #[]]) S rfl cb63 rfl rfl rfl (c63_53 (Kx K w.heap.size []) n w x0 _ R0 et_1) ?_)
 rintro _ w_5 ⟨v_2, rfl, R_3, hb_4⟩; refine ⟨_, rfl, ?_⟩
 replace R_3 := RepV.back R_3 W
 clear S; intro a S
 replace R0 := R0.step hb_4
 replace W := W.step hb_4
 obtain ⟨rfl, GR_3⟩ := RepV.int R_3
 refine wl_pureK (l' := [(4, .bool (decide (t_1 ≥ 0)))]) S tys tys_ok 2 [4] (by kernel_rfl) ?_
 clear S; intro a S
 refine wpList_nil ?_
 refine then_n ?_
 refine wp_ret ?_
 obtain rfl := Option.some.inj h
 exact b_ret1 S rfl rfl ⟨_, rfl, RepV.mkBool, W.below⟩
def p29 (n : Nat) (x0 : Sl (Int)) : Option ((Int)) :=
 (if (decide ((lenI x0) < 1)) = false then some (decide ((lenI x0) > 6)) else some true).bind fun q_2 =>
 (if q_2 = false then (p52_53 n x0).bind fun t_5 => some t_5 else some true).bind fun q_4 =>
 if q_4 then (some 1) else some 0
set_option maxHeartbeats 4000000 in
set_option maxRecDepth 100000 in
/-- plugboard/topologies.Check -/
theorem c29 (K : Nat → Prop) (n : Nat) (w : World) (x0 : Sl (Int)) (v0 : Value) (R0 : RepV (.sl (.int .u8)) w K v0 x0) {r : (Int)} (h : p29 n x0 = some r) :
  Calls Try.prog 29 #[v0] w (Ret1 (.int .i64) w (Kx K w.heap.size []) r) := by
 refine enter (args := [v0]) Try.func29 rfl 15 rfl rfl fun a S => ?_
 have W := Wd.start w
 replace R0 := R0.arg
 unfold p29 at h
 replace S : St 15 a [(0, v0)] := S
 refine wp_seq ?_
 refine wp_region_lit ?_
 refine wl_pure (l' := [(2, .int .i64 0), (0, v0)]) S tys tys_ok 1 (by kernel_rfl) ?_
 clear S; intro a S
 refine wpList_nil ?_
 refine then_n ?_
 replace S := S.sub (l' := [(0, v0)]) (by exact ⟨rfl, trivial⟩)
 refine wp_seq ?_
 refine wp_seq ?_
 refine wp_region_lit ?_
 refine wl_pure (l' := [(3, v0), (0, v0)]) S tys tys_ok 1 (by kernel_rfl) ?_
 clear S; intro a S
 refine w_go S rfl (op_len (K := _) S rfl ty25 rfl rfl rfl R0 ?_)
 clear S; intro a G_1 S
 refine wl_pureK (l' := [(6, .bool (decide ((lenI x0) < 1))), (0, v0)]) S tys tys_ok 2 [6, 0] (by kernel_rfl) ?_
 clear S; intro a S
 obtain ⟨q_2, eq_2, h⟩ := bindS h
 refine seg 4 (fun a_ w_ => w = w_ ∧ St 15 a_ [(10, .bool q_2), (0, v0)]) ?_ ?_
 ·by_cases hc : (decide ((lenI x0) < 1)) = false
  ·rw [if_pos hc] at eq_2; rw [hc] at S
   refine wl_pure (l' := [(7, v0), (6, .bool false), (0, v0)]) S tys tys_ok 1 (by kernel_rfl) ?_
   clear S; intro a S
   refine w_go S rfl (op_len (K := _) S rfl ty25 rfl rfl rfl R0 ?_)
   clear S; intro a G_3 S
   refine wl_pureK (l' := [(10, .bool (decide ((lenI x0) > 6))), (0, v0)]) S tys tys_ok 2 [10, 0] (by kernel_rfl) ?_
   clear S; intro a S
   obtain rfl := Option.some.inj eq_2
   exact ⟨rfl, S.sub (by exact ⟨rfl, rfl, trivial⟩)⟩
  ·rw [if_neg hc] at eq_2; rw [show (decide ((lenI x0) < 1)) = true from (by simpa using hc)] at S
   refine wl_pureK (l' := [(10, .bool true), (0, v0)]) S tys tys_ok 4 [10, 0] (by kernel_rfl) ?_
   clear S; intro a S
   obtain rfl := Option.some.inj eq_2
   exact ⟨rfl, S.sub (by exact ⟨rfl, rfl, trivial⟩)⟩
 clear S eq_2; rintro a _ ⟨rfl, S⟩
 refine wl_pure (l' := [(11, .bool q_2), (10, .bool q_2), (0, v0)]) S tys tys_ok 1 (by kernel_rfl) ?_
 clear S; intro a S
 obtain ⟨q_4, eq_4, h⟩ := bindS h
 refine seg 3 (fun a_ w_ => St 15 a_ [(14, .bool q_4)] ∧ Wd w w_ []) ?_ ?_
 ·by_cases hc : q_2 = false
  ·rw [if_pos hc] at eq_4; rw [hc] at S
   refine wl_pure (l' := [(12, v0), (11, .bool false), (10, .bool false), (0, v0)]) S tys tys_ok 1 (by kernel_rfl) ?_
   clear S; intro a S
   obtain ⟨t_5, et_5, eq_4⟩ := bindS eq_4
   refine w_go S rfl (op_call (vs := [v0, .func (.func 53) #[] #[]]) S rfl cb52 rfl rfl rfl (c52_53 (Kx K w.heap.size []) n w x0 _ R0 et_5) ?_)
   rintro _ w_9 ⟨v_6, rfl, R_7, hb_8⟩; refine ⟨_, rfl, ?_⟩
   replace R_7 := RepV.back R_7 W
   clear S; intro a S
   replace R0 := R0.step hb_8
   replace W := W.step hb_8
   obtain rfl := RepV.bool R_7
   refine wl_pureK (l' := [(14, .bool t_5)]) S tys tys_ok 1 [14] (by kernel_rfl) ?_
   clear S; intro a S
   obtain rfl := Option.some.inj eq_4
   exact ⟨S.sub (by exact ⟨rfl, trivial⟩), W⟩
  ·rw [if_neg hc] at eq_4; rw [show q_2 = true from (by simpa using hc)] at S
   refine wl_pureK (l' := [(14, .bool true)]) S tys tys_ok 3 [14] (by kernel_rfl) ?_
   clear S; intro a S
   obtain rfl := Option.some.inj eq_4
   exact ⟨S.sub (by exact ⟨rfl, trivial⟩), W⟩
 clear S W eq_4; rintro a w_10 ⟨S, W⟩
 refine wpList_nil ?_
 refine then_n ?_
 refine wp_cond_split (S.eval (show ev _ _ = some (.bool q_4) from rfl)) ?_ ?_
 ·intro hc
  rw [if_pos hc] at h
  refine wp_seq ?_
  refine wp_region_lit ?_
  refine wl_pure (l' := [(2, .int .i64 1), (14, .bool q_4)]) S tys tys_ok 1 (by kernel_rfl) ?_
  clear S; intro a S
  refine wpList_nil ?_
  refine then_n ?_
  replace S := S.sub (l' := [(2, .int .i64 1)]) (by exact ⟨rfl, trivial⟩)
  refine wp_ret ?_
  refine then_r ?_
  obtain rfl := Option.some.inj h
  exact b_ret1 S rfl rfl ⟨_, rfl, (RepV.mkInt (by decide)), W.below⟩
 ·intro hc
  rw [if_neg (Bool.eq_false_iff.1 hc)] at h
  refine wp_skip ?_
  refine then_n ?_
  replace S := S.sub (l' := []) trivial
  refine wp_seq ?_
  refine wp_region_lit ?_
  refine wl_pure (l' := [(2, .int .i64 0)]) S tys tys_ok 1 (by kernel_rfl) ?_
  clear S; intro a S
  refine wpList_nil ?_
  refine then_n ?_
  refine wp_ret ?_
  obtain rfl := Option.some.inj h
  exact b_ret1 S rfl rfl ⟨_, rfl, (RepV.mkInt (by decide)), W.below⟩
theorem cb29 : callB Try.prog 29 = true := by kernel_rfl
def p32 (n : Nat) (x0 : Sl (Int)) : Option ((Bool)) :=
 (if (decide ((lenI x0) > 0)) = true then (p29 n x0).bind fun t_3 => some (t_3 == 0) else some false).bind fun q_2 =>
 some q_2
set_option maxHeartbeats 4000000 in
set_option maxRecDepth 100000 in
/-- plugboard/events.placed -/
theorem c32 (K : Nat → Prop) (n : Nat) (w : World) (x0 : Sl (Int)) (v0 : Value) (R0 : RepV (.sl (.int .u8)) w K v0 x0) {r : (Bool)} (h : p32 n x0 = some r) :
  Calls Try.prog 32 #[v0] w (Ret1 .bool w (Kx K w.heap.size []) r) := by
 refine enter (args := [v0]) Try.func32 rfl 11 rfl rfl fun a S => ?_
 have W := Wd.start w
 replace R0 := R0.arg
 unfold p32 at h
 replace S : St 11 a [(0, v0)] := S
 refine wp_seq ?_
 refine wp_region_lit ?_
 refine wl_pure (l' := [(2, .bool false), (0, v0)]) S tys tys_ok 1 (by kernel_rfl) ?_
 clear S; intro a S
 refine wpList_nil ?_
 refine then_n ?_
 replace S := S.sub (l' := [(0, v0)]) (by exact ⟨rfl, trivial⟩)
 refine wp_seq ?_
 refine wp_region_lit ?_
 refine wl_pure (l' := [(3, v0), (0, v0)]) S tys tys_ok 1 (by kernel_rfl) ?_
 clear S; intro a S
 refine w_go S rfl (op_len (K := _) S rfl ty25 rfl rfl rfl R0 ?_)
 clear S; intro a G_1 S
 refine wl_pureK (l' := [(6, .bool (decide ((lenI x0) > 0))), (0, v0)]) S tys tys_ok 2 [6, 0] (by kernel_rfl) ?_
 clear S; intro a S
 obtain ⟨q_2, eq_2, h⟩ := bindS h
 refine seg 4 (fun a_ w_ => St 11 a_ [(10, .bool q_2)] ∧ Wd w w_ []) ?_ ?_
 ·by_cases hc : (decide ((lenI x0) > 0)) = true
  ·rw [if_pos hc] at eq_2; rw [hc] at S
   refine wl_pure (l' := [(7, v0), (6, .bool true), (0, v0)]) S tys tys_ok 1 (by kernel_rfl) ?_
   clear S; intro a S
   obtain ⟨t_3, et_3, eq_2⟩ := bindS eq_2
   refine w_go S rfl (op_call (vs := [v0]) S rfl cb29 rfl rfl rfl (c29 (Kx K w.heap.size []) n w x0 _ R0 et_3) ?_)
   rintro _ w_7 ⟨v_4, rfl, R_5, hb_6⟩; refine ⟨_, rfl, ?_⟩
   replace R_5 := RepV.back R_5 W
   clear S; intro a S
   replace R0 := R0.step hb_6
   replace W := W.step hb_6
   obtain ⟨rfl, GR_5⟩ := RepV.int R_5
   refine wl_pureK (l' := [(10, .bool (t_3 == 0))]) S tys tys_ok 2 [10] (by kernel_rfl) ?_
   clear S; intro a S
   obtain rfl := Option.some.inj eq_2
   exact ⟨S.sub (by exact ⟨rfl, trivial⟩), W⟩
  ·rw [if_neg hc] at eq_2; rw [show (decide ((lenI x0) > 0)) = false from Bool.eq_false_iff.2 hc] at S
   refine wl_pureK (l' := [(10, .bool false)]) S tys tys_ok 4 [10] (by kernel_rfl) ?_
   clear S; intro a S
   obtain rfl := Option.some.inj eq_2
   exact ⟨S.sub (by exact ⟨rfl, trivial⟩), W⟩
 clear S W eq_2; rintro a w_8 ⟨S, W⟩
 refine wl_pure (l' := [(2, .bool q_2), (10, .bool q_2)]) S tys tys_ok 1 (by kernel_rfl) ?_
 clear S; intro a S
 refine wpList_nil ?_
 refine then_n ?_
 replace S := S.sub (l' := [(2, .bool q_2)]) (by exact ⟨rfl, trivial⟩)
 refine wp_ret ?_
 obtain rfl := Option.some.inj h
 exact b_ret1 S rfl rfl ⟨_, rfl, RepV.mkBool, W.below⟩
theorem cb32 : callB Try.prog 32 = true := by kernel_rfl
def p33 (n : Nat) (x0 : Int) (x1 : Int) : Option ((Bool)) :=
 if (x0 == 2) then ((if (decide (x1 ≥ 1)) = true then some (decide (x1 ≤ 127)) else some false).bind fun q_1 => some q_1) else some (x1 == 0)
set_option maxHeartbeats 4000000 in
set_option maxRecDepth 100000 in
/-- plugboard/events.addressed -/
theorem c33 (K : Nat → Prop) (n : Nat) (w : World) (x0 : Int) (G0 : InR .u8 x0) (x1 : Int) (G1 : InR .u8 x1) {r : (Bool)} (h : p33 n x0 x1 = some r) :
  Calls Try.prog 33 #[.int .u8 x0, .int .u8 x1] w (Ret1 .bool w (Kx K w.heap.size []) r) := by
 refine enter (args := [.int .u8 x0, .int .u8 x1]) Try.func33 rfl 15 rfl rfl fun a S => ?_
 have W := Wd.start w
 unfold p33 at h
 replace S : St 15 a [(0, .int .u8 x0), (1, .int .u8 x1)] := S
 refine wp_seq ?_
 refine wp_region_lit ?_
 refine wl_pure (l' := [(4, .bool false), (0, .int .u8 x0), (1, .int .u8 x1)]) S tys tys_ok 1 (by kernel_rfl) ?_
 clear S; intro a S
 refine wpList_nil ?_
 refine then_n ?_
 replace S := S.sub (l' := [(0, .int .u8 x0), (1, .int .u8 x1)]) (by exact ⟨rfl, rfl, trivial⟩)
 refine wp_seq ?_
 refine wp_seq ?_
 refine wp_region_lit ?_
 refine wl_pure (l' := [(6, .bool (x0 == 2)), (5, .int .u8 x0), (0, .int .u8 x0), (1, .int .u8 x1)]) S tys tys_ok 2 (by kernel_rfl) ?_
 clear S; intro a S
 refine wpList_nil ?_
 refine then_n ?_
 replace S := S.sub (l' := [(6, .bool (x0 == 2)), (1, .int .u8 x1)]) (by exact ⟨rfl, rfl, trivial⟩)
 refine wp_cond_split (S.eval (show ev _ _ = some (.bool (x0 == 2)) from rfl)) ?_ ?_
 ·intro hc
  rw [if_pos hc] at h
  refine wp_seq ?_
  refine wp_region_lit ?_
  refine wl_pureK (l' := [(9, .bool (decide (x1 ≥ 1))), (1, .int .u8 x1)]) S tys tys_ok 3 [9, 1] (by kernel_rfl) ?_
  clear S; intro a S
  obtain ⟨q_1, eq_1, h⟩ := bindS h
  refine seg 3 (fun a_ w_ => w = w_ ∧ St 15 a_ [(12, .bool q_1)]) ?_ ?_
  ·by_cases hc : (decide (x1 ≥ 1)) = true
   ·rw [if_pos hc] at eq_1; rw [hc] at S
    refine wl_pureK (l' := [(12, .bool (decide (x1 ≤ 127)))]) S tys tys_ok 3 [12] (by kernel_rfl) ?_
    clear S; intro a S
    obtain rfl := Option.some.inj eq_1
    exact ⟨rfl, S.sub (by exact ⟨rfl, trivial⟩)⟩
   ·rw [if_neg hc] at eq_1; rw [show (decide (x1 ≥ 1)) = false from Bool.eq_false_iff.2 hc] at S
    refine wl_pureK (l' := [(12, .bool false)]) S tys tys_ok 3 [12] (by kernel_rfl) ?_
    clear S; intro a S
    obtain rfl := Option.some.inj eq_1
    exact ⟨rfl, S.sub (by exact ⟨rfl, trivial⟩)⟩
  clear S eq_1; rintro a _ ⟨rfl, S⟩
  refine wl_pure (l' := [(4, .bool q_1), (12, .bool q_1)]) S tys tys_ok 1 (by kernel_rfl) ?_
  clear S; intro a S
  refine wpList_nil ?_
  refine then_n ?_
  replace S := S.sub (l' := [(4, .bool q_1)]) (by exact ⟨rfl, trivial⟩)
  refine wp_ret ?_
  refine then_r ?_
  obtain rfl := Option.some.inj h
  exact b_ret1 S rfl rfl ⟨_, rfl, RepV.mkBool, W.below⟩
 ·intro hc
  rw [if_neg (Bool.eq_false_iff.1 hc)] at h
  refine wp_skip ?_
  refine then_n ?_
  replace S := S.sub (l' := [(1, .int .u8 x1)]) (by exact ⟨rfl, trivial⟩)
  refine wp_seq ?_
  refine wp_region_lit ?_
  refine wl_pureK (l' := [(4, .bool (x1 == 0))]) S tys tys_ok 3 [4] (by kernel_rfl) ?_
  clear S; intro a S
  refine wpList_nil ?_
  refine then_n ?_
  refine wp_ret ?_
  obtain rfl := Option.some.inj h
  exact b_ret1 S rfl rfl ⟨_, rfl, RepV.mkBool, W.below⟩
theorem cb33 : callB Try.prog 33 = true := by kernel_rfl
def p41 (n : Nat) (x0 : Sl (Int)) : Option ((Sl (Int))) :=
 (appI ([] : List (Int)) x0.xs).bind fun l_8 =>
 some (⟨l_8, capA (some 0) l_8.length⟩ : Sl (Int))
set_option maxHeartbeats 4000000 in
set_option maxRecDepth 100000 in
/-- slices.Clone[plugboard/topologies.Path,uint8] -/
theorem c41 (K : Nat → Prop) (n : Nat) (w : World) (x0 : Sl (Int)) (v0 : Value) (R0 : RepV (.sl (.int .u8)) w K v0 x0) {r : (Sl (Int))} (h : p41 n x0 = some r) :
  Calls Try.prog 41 #[v0] w (fun e_ w_ => ∃ v0_ : Value, e_ = .returned v0_ ∧ Ow (.int .u8) 5 w_ w.heap.size (Kx K w.heap.size [v0_.ownBlock]) v0_ r.xs r.cap ∧ Below w.heap.size w w_) := by
 refine enter (args := [v0]) Try.func41 rfl 8 rfl rfl fun a S => ?_
 have W := Wd.start w
 replace R0 := R0.arg
 unfold p41 at h
 replace S : St 8 a [(0, v0)] := S
 refine wp_seq ?_
 refine wp_region_lit ?_
 refine wl_pure (l' := [(2, .slice .none 0 0), (0, v0)]) S tys tys_ok 1 (by kernel_rfl) ?_
 clear S; intro a S
 refine wpList_nil ?_
 refine then_n ?_
 replace S := S.sub (l' := [(0, v0)]) (by exact ⟨rfl, trivial⟩)
 refine wp_seq ?_
 refine wp_seq ?_
 refine wp_region_lit ?_
 refine wl_pure (l' := [(3, v0), (0, v0)]) S tys tys_ok 1 (by kernel_rfl) ?_
 clear S; intro a S
 refine w_go S rfl (op_eqnil S rfl ty25 rfl rfl rfl R0 ?_)
 clear S; intro a b_1 hb_2 S
 refine wpList_nil ?_
 refine then_n ?_
 replace S := S.sub (l' := [(4, .bool b_1), (0, v0)]) (by exact ⟨rfl, rfl, trivial⟩)
 refine wp_cond_split (S.eval (show ev _ _ = some (.bool b_1) from rfl)) ?_ ?_
 ·intro hc
  have hx_ := hb_2 hc
  refine wp_seq ?_
  refine wp_region_lit ?_
  refine wl_pure (l' := [(2, .slice .none 0 0), (4, .bool b_1), (0, v0)]) S tys tys_ok 1 (by kernel_rfl) ?_
  clear S; intro a S
  refine wpList_nil ?_
  refine then_n ?_
  replace S := S.sub (l' := [(2, .slice .none 0 0)]) (by exact ⟨rfl, trivial⟩)
  refine wp_ret ?_
  refine then_r ?_
  replace W := W.more
  have O_3 : Ow (.int .u8) 5 w w.heap.size (Kx K w.heap.size [.none]) (.slice .none 0 0) ([] : List (Int)) (some 0) := Ow.nil
  obtain rfl : (⟨([] : List (Int)), some 0⟩ : Sl (Int)) = _ := by simpa [hx_, appI, capA] using h
  exact b_ret1 S rfl rfl ⟨_, rfl, (O_3.lessO 0 rfl), W.below⟩
 ·intro hc
  refine wp_skip ?_
  refine then_n ?_
  replace S := S.sub (l' := [(0, v0)]) (by exact ⟨rfl, trivial⟩)
  refine wp_seq ?_
  refine wp_region_lit ?_
  refine w_go S rfl (op_row0 (K := K) (e := (.int .u8)) (E := 5) S W rfl ty25 un25 rfl rfl ?_)
  clear S; intro a w_5 b_4 hb_6 O_7 S
  replace R0 := R0.box hb_6
  replace W := W.box hb_6
  replace O_7 : Ow (.int .u8) 5 w_5 w.heap.size (Kx K w.heap.size [some b_4]) (.slice (some ⟨b_4, 0, .none⟩) 0 0) ([] : List (Int)) (some 0) := O_7
  refine wl_pure (l' := [(6, v0), (5, (.slice (some ⟨b_4, 0, .none⟩) 0 0)), (0, v0)]) S tys tys_ok 1 (by kernel_rfl) ?_
  clear S; intro a S
  obtain ⟨l_8, el_8, h⟩ := bindS h
  refine w_go S rfl (op_append S W (E := 5) 0 rfl ty25 un25 by25 rfl rfl rfl rfl O_7 rfl R0 el_8 ?_)
  clear S; intro a w_10 v_9 A_11 O_12 S
  replace R0 : RepV (.sl (.int .u8)) w_10 (Kx K w.heap.size [v_9.ownBlock]) v0 x0 := R0.apd A_11 (i := 0) rfl
  replace W : Wd w w_10 [v_9.ownBlock] := W.apd A_11 (i := 0) rfl
  replace O_12 : Ow (.int .u8) 5 w_10 w.heap.size (Kx K w.heap.size [v_9.ownBlock]) v_9 l_8 (capA (some 0) l_8.length) := O_12
  refine wl_pureK (l' := [(2, v_9)]) S tys tys_ok 1 [2] (by kernel_rfl) ?_
  clear S; intro a S
  refine wpList_nil ?_
  refine then_n ?_
  refine wp_ret ?_
  obtain rfl := Option.some.inj h
  exact b_ret1 S rfl rfl ⟨_, rfl, (O_12.lessO 0 rfl), W.below⟩
theorem cb41 : callB Try.prog 41 = true := by kernel_rfl
def p44 (n : Nat) (x0 : Sl (Int)) : Option ((Sl (Int))) :=
 (sl3I x0 0 (lenI x0) (lenI x0)).bind fun s_5 =>
 some s_5
set_option maxHeartbeats 4000000 in
set_option maxRecDepth 100000 in
/-- slices.Clip[plugboard/topologies.Path,uint8] -/
theorem c44 (K : Nat → Prop) (n : Nat) (w : World) (x0 : Sl (Int)) (v0 : Value) (R0 : RepV (.sl (.int .u8)) w K v0 x0) {r : (Sl (Int))} (h : p44 n x0 = some r) :
  Calls Try.prog 44 #[v0] w (Ret1 (.sl (.int .u8)) w (Kx K w.heap.size []) r) := by
 refine enter (args := [v0]) Try.func44 rfl 9 rfl rfl fun a S => ?_
 have W := Wd.start w
 replace R0 := R0.arg
 unfold p44 at h
 replace S : St 9 a [(0, v0)] := S
 refine wp_seq ?_
 refine wp_region_lit ?_
 refine wl_pure (l' := [(2, .slice .none 0 0), (0, v0)]) S tys tys_ok 1 (by kernel_rfl) ?_
 clear S; intro a S
 refine wpList_nil ?_
 refine then_n ?_
 replace S := S.sub (l' := [(0, v0)]) (by exact ⟨rfl, trivial⟩)
 refine wp_seq ?_
 refine wp_region_lit ?_
 refine wl_pure (l' := [(4, v0), (3, v0), (0, v0)]) S tys tys_ok 2 (by kernel_rfl) ?_
 clear S; intro a S
 refine w_go S rfl (op_len (K := _) S rfl ty25 rfl rfl rfl R0 ?_)
 clear S; intro a G_1 S
 refine wl_pure (l' := [(6, v0), (5, .int .i64 (lenI x0)), (4, v0), (3, v0), (0, v0)]) S tys tys_ok 1 (by kernel_rfl) ?_
 clear S; intro a S
 refine w_go S rfl (op_len (K := _) S rfl ty25 rfl rfl rfl R0 ?_)
 clear S; intro a G_2 S
 obtain ⟨s_5, es_5, h⟩ := bindS h
 refine w_go S rfl (op_slice3 S rfl ty25 rfl rfl rfl R0 (.inl ⟨rfl, rfl⟩) rfl rfl es_5 ?_)
 clear S; intro a v_3 R_4 S
 refine wl_pureK (l' := [(2, v_3)]) S tys tys_ok 1 [2] (by kernel_rfl) ?_
 clear S; intro a S
 refine wpList_nil ?_
 refine then_n ?_
 refine wp_ret ?_
 obtain rfl := Option.some.inj h
 exact b_ret1 S rfl rfl ⟨_, rfl, R_4.out, W.below⟩
theorem cb44 : callB Try.prog 44 = true := by kernel_rfl
def p57 (n : Nat) (x0 : Sl (Int)) : Option ((Sl (Int)) × (Int)) :=
 if ((lenI x0) == 0) then (some ((⟨[], some 0⟩ : Sl (Int)), 0)) else (ckI .i64 ((lenI x0) - 1)).bind fun x_3 => (slI x0 0 x_3).bind fun s_6 => (p41 n s_6).bind fun t_7 => (p44 n t_7).bind fun t_12 => (idx x0.xs x_3).bind fun y_17 => some (t_12, y_17)
set_option maxHeartbeats 4000000 in
set_option maxRecDepth 100000 in
/-- plugboard/topologies.Up -/
theorem c57 (K : Nat → Prop) (n : Nat) (w : World) (x0 : Sl (Int)) (v0 : Value) (R0 : RepV (.sl (.int .u8)) w K v0 x0) {r : (Sl (Int)) × (Int)} (h : p57 n x0 = some r) :
  Calls Try.prog 57 #[v0] w (Ret2 (.sl (.int .u8)) (.int .u8) w (Kx K w.heap.size []) r) := by
 refine enter (args := [v0]) Try.func57 rfl 20 rfl rfl fun a S => ?_
 have W := Wd.start w
 replace R0 := R0.arg
 unfold p57 at h
 replace S : St 20 a [(0, v0)] := S
 refine wp_seq ?_
 refine wp_region_lit ?_
 refine wl_pure (l' := [(3, .int .u8 0), (2, .slice .none 0 0), (0, v0)]) S tys tys_ok 2 (by kernel_rfl) ?_
 clear S; intro a S
 refine wpList_nil ?_
 refine then_n ?_
 replace S := S.sub (l' := [(0, v0)]) (by exact ⟨rfl, trivial⟩)
 refine wp_seq ?_
 refine wp_seq ?_
 refine wp_region_lit ?_
 refine wl_pure (l' := [(5, v0), (0, v0)]) S tys tys_ok 1 (by kernel_rfl) ?_
 clear S; intro a S
 refine w_go S rfl (op_len (K := _) S rfl ty25 rfl rfl rfl R0 ?_)
 clear S; intro a G_1 S
 refine wl_pure (l' := [(7, .bool ((lenI x0) == 0)), (6, .int .i64 (lenI x0)), (5, v0), (0, v0)]) S tys tys_ok 1 (by kernel_rfl) ?_
 clear S; intro a S
 refine wpList_nil ?_
 refine then_n ?_
 replace S := S.sub (l' := [(7, .bool ((lenI x0) == 0)), (0, v0)]) (by exact ⟨rfl, rfl, trivial⟩)
 refine wp_cond_split (S.eval (show ev _ _ = some (.bool ((lenI x0) == 0)) from rfl)) ?_ ?_
 ·intro hc
  rw [if_pos hc] at h
  refine wp_seq ?_
  refine wp_region_lit ?_
  refine wl_pure (l' := [(3, .int .u8 0), (2, .slice .none 0 0), (7, .bool ((lenI x0) == 0)), (0, v0)]) S tys tys_ok 2 (by kernel_rfl) ?_
  clear S; intro a S
  refine wpList_nil ?_
  refine then_n ?_
  replace S := S.sub (l' := [(3, .int .u8 0), (2, .slice .none 0 0)]) (by exact ⟨rfl, rfl, trivial⟩)
  refine wp_ret ?_
  refine then_r ?_
  obtain rfl := Option.some.inj h
  exact b_ret2 S rfl rfl rfl ⟨_, _, rfl, RepV.nil, (RepV.mkInt (by decide)), W.below⟩
 ·intro hc
  rw [if_neg (Bool.eq_false_iff.1 hc)] at h
  refine wp_skip ?_
  refine then_n ?_
  replace S := S.sub (l' := [(0, v0)]) (by exact ⟨rfl, trivial⟩)
  refine wp_seq ?_
  refine wp_region_lit ?_
  refine wl_pure (l' := [(8, v0), (0, v0)]) S tys tys_ok 1 (by kernel_rfl) ?_
  clear S; intro a S
  refine w_go S rfl (op_len (K := _) S rfl ty25 rfl rfl rfl R0 ?_)
  clear S; intro a G_2 S
  obtain ⟨x_3, ex_3, h⟩ := bindS h
  refine w_go S rfl (op_arith S .i64 ((lenI x0) - 1) rfl (.inr (.inl rfl)) rfl rfl rfl rfl ex_3 ?_)
  clear S; intro a S
  refine wl_pureK (l' := [(4, .int .i64 x_3), (0, v0)]) S tys tys_ok 1 [4, 0] (by kernel_rfl) ?_
  clear S; intro a S
  refine wpList_nil ?_
  refine then_n ?_
  refine wp_seq ?_
  obtain ⟨s_6, es_6, h⟩ := bindS h
  obtain ⟨t_7, et_7, h⟩ := bindS h
  obtain ⟨t_12, et_12, h⟩ := bindS h
  obtain ⟨y_17, ey_17, h⟩ := bindS h
  have hR : Rel (Kx K w.heap.size []) Bl := Bl.rel _
  refine wp_region_all hR [isRep (.sl (.int .u8)) (Kx K w.heap.size []) x0, isI .i64 x_3, isRep (.sl (.int .u8)) (Kx K w.heap.size []) s_6, isRep (.sl (.int .u8)) (Kx K w.heap.size []) t_7, isRep (.sl (.int .u8)) (Kx K w.heap.size []) t_12, isRep (.sl (.int .u8)) (Kx K w.heap.size []) x0, isI .i64 x_3, isEl (.int .u8) (Kx K w.heap.size []) y_17, isI .u8 y_17, isRep (.sl (.int .u8)) (Kx K w.heap.size []) t_12, isI .u8 y_17] [[], [], [(0, 11), (1, 12)], [(2, 13)], [(3, 14)], [], [], [(5, 16), (6, 17)], [(7, 18)], [(4, 15)], [(8, 19)]] (by kernel_rfl) (by rw [S.size]; kernel_rfl) (by kernel_rfl) (by kernel_rfl) rfl ⟨(stab_rep hR), stab_I, (stab_rep hR), (stab_rep hR), (stab_rep hR), (stab_rep hR), stab_I, (stab_el hR), stab_I, (stab_rep hR), stab_I, trivial⟩ ?_ ?_
  ·
   refine RunAll.cons (isRep (.sl (.int .u8)) (Kx K w.heap.size []) x0) [] rfl rfl ?_ ?_
   ·intro W_ hW
    have S1 := S
    replace R0 := R0.step hW
    exact RPost.one (v := v0) S1 tys tys_ok rfl (by kernel_rfl) S.defers R0 (Below.refl _ _)
   refine RunAll.cons (isI .i64 x_3) [] rfl rfl ?_ ?_
   ·intro W_ hW
    have S1 := S
    exact RPost.one (v := .int .i64 x_3) S1 tys tys_ok rfl (by kernel_rfl) S.defers ⟨rfl, (ckI_some ex_3).2.1⟩ (Below.refl _ _)
   refine RunAll.cons (isRep (.sl (.int .u8)) (Kx K w.heap.size []) s_6) [(isRep (.sl (.int .u8)) (Kx K w.heap.size []) x0, 11), (isI .i64 x_3, 12)] rfl rfl ?_ ?_
   ·intro W_ hW
    have S1 := S
    intro v_24 hF_23; replace hF_23 : RepV _ _ _ _ _ := hF_23
    replace S1 := S1.put (by decide : 11 < 20) (v_24)
    rintro _ ⟨rfl, hF_25⟩
    replace S1 := S1.put (by decide : 12 < 20) (.int .i64 x_3)
    refine fill_nil S1 ?_; clear S1; intro a_ S1
    have S0 := S.defers; replace S := S1; clear S1
    refine w_go S rfl (op_slice S rfl ty25 rfl rfl rfl hF_23 (.inl ⟨rfl, rfl⟩) (.inr ⟨_, _, rfl, rfl⟩) es_6 ?_)
    clear S; intro a v_27 R_28 S
    refine wpList_nil ?_
    exact RPost.mk_ S rfl S0 R_28 (Below.refl _ _)
   refine RunAll.cons (isRep (.sl (.int .u8)) (Kx K w.heap.size []) t_7) [(isRep (.sl (.int .u8)) (Kx K w.heap.size []) s_6, 13)] rfl rfl ?_ ?_
   ·intro W_ hW
    have S1 := S
    intro v_30 hF_29; replace hF_29 : RepV _ _ _ _ _ := hF_29
    replace S1 := S1.put (by decide : 13 < 20) (v_30)
    refine fill_nil S1 ?_; clear S1; intro a_ S1
    replace W := W.step hW
    have S0 := S.defers; replace S := S1; clear S1
    refine w_go S rfl (op_call (vs := [v_30]) S rfl cb41 rfl rfl rfl (c41 (Kx K w.heap.size []) n W_ s_6 _ hF_29 et_7) ?_)
    rintro _ w_34 ⟨v_31, rfl, R_32, hb_33⟩; refine ⟨_, rfl, ?_⟩
    replace R_32 := Ow.pub0 R_32
    replace R_32 := RepV.back R_32 W
    clear S; intro a S
    refine wpList_nil ?_
    exact RPost.mk_ S rfl S0 R_32 (hb_33)
   refine RunAll.cons (isRep (.sl (.int .u8)) (Kx K w.heap.size []) t_12) [(isRep (.sl (.int .u8)) (Kx K w.heap.size []) t_7, 14)] rfl rfl ?_ ?_
   ·intro W_ hW
    have S1 := S
    intro v_36 hF_35; replace hF_35 : RepV _ _ _ _ _ := hF_35
    replace S1 := S1.put (by decide : 14 < 20) (v_36)
    refine fill_nil S1 ?_; clear S1; intro a_ S1
    replace W := W.step hW
    have S0 := S.defers; replace S := S1; clear S1
    refine w_go S rfl (op_call (vs := [v_36]) S rfl cb44 rfl rfl rfl (c44 (Kx K w.heap.size []) n W_ t_7 _ hF_35 et_12) ?_)
    rintro _ w_40 ⟨v_37, rfl, R_38, hb_39⟩; refine ⟨_, rfl, ?_⟩
    replace R_38 := RepV.back R_38 W
    clear S; intro a S
    refine wpList_nil ?_
    exact RPost.mk_ S rfl S0 R_38 (hb_39)
   refine RunAll.cons (isRep (.sl (.int .u8)) (Kx K w.heap.size []) x0) [] rfl rfl ?_ ?_
   ·intro W_ hW
    have S1 := S
    replace R0 := R0.step hW
    exact RPost.one (v := v0) S1 tys tys_ok rfl (by kernel_rfl) S.defers R0 (Below.refl _ _)
   refine RunAll.cons (isI .i64 x_3) [] rfl rfl ?_ ?_
   ·intro W_ hW
    have S1 := S
    exact RPost.one (v := .int .i64 x_3) S1 tys tys_ok rfl (by kernel_rfl) S.defers ⟨rfl, (ckI_some ex_3).2.1⟩ (Below.refl _ _)
   refine RunAll.cons (isEl (.int .u8) (Kx K w.heap.size []) y_17) [(isRep (.sl (.int .u8)) (Kx K w.heap.size []) x0, 16), (isI .i64 x_3, 17)] rfl rfl ?_ ?_
   ·intro W_ hW
    have S1 := S
    intro v_42 hF_41; replace hF_41 : RepV _ _ _ _ _ := hF_41
    replace S1 := S1.put (by decide : 16 < 20) (v_42)
    rintro _ ⟨rfl, hF_43⟩
    replace S1 := S1.put (by decide : 17 < 20) (.int .i64 x_3)
    refine fill_nil S1 ?_; clear S1; intro a_ S1
    replace W := W.step hW
    have S0 := S.defers; replace S := S1; clear S1
    refine w_go S rfl (op_indexAddr S rfl ty25 rfl rfl rfl hF_41 rfl ey_17 ?_)
    clear S; intro a p_45 R_46 H_47 S
    refine wpList_nil ?_
    exact RPost.mk_ S rfl S0 ⟨_, rfl, R_46, H_47⟩ (Below.refl _ _)
   refine RunAll.cons (isI .u8 y_17) [(isEl (.int .u8) (Kx K w.heap.size []) y_17, 18)] rfl rfl ?_ ?_
   ·intro W_ hW
    have S1 := S
    rintro _ ⟨p_50, rfl, R_51, H_52⟩
    replace S1 := S1.put (by decide : 18 < 20) (.pointer (some p_50))
    refine fill_nil S1 ?_; clear S1; intro a_ S1
    have S0 := S.defers; replace S := S1; clear S1
    refine w_go S rfl (op_load (t := (.int .u8)) (x := y_17) S rfl ty5 rfl rfl rfl R_51 ?_)
    clear S; intro a v_53 R_54 S
    obtain ⟨rfl, GR_54⟩ := RepV.int R_54
    refine wpList_nil ?_
    exact RPost.mk_ S rfl S0 ⟨rfl, GR_54⟩ (Below.refl _ _)
   refine RunAll.cons (isRep (.sl (.int .u8)) (Kx K w.heap.size []) t_12) [(isRep (.sl (.int .u8)) (Kx K w.heap.size []) t_12, 15)] rfl rfl ?_ ?_
   ·intro W_ hW
    have S1 := S
    intro v_56 hF_55; replace hF_55 : RepV _ _ _ _ _ := hF_55
    replace S1 := S1.put (by decide : 15 < 20) (v_56)
    exact RPost.one (v := v_56) S1 tys tys_ok rfl (by kernel_rfl) S.defers hF_55 (Below.refl _ _)
   refine RunAll.cons (isI .u8 y_17) [(isI .u8 y_17, 19)] rfl rfl ?_ ?_
   ·intro W_ hW
    have S1 := S
    rintro _ ⟨rfl, hF_57⟩
    replace S1 := S1.put (by decide : 19 < 20) (.int .u8 y_17)
    exact RPost.one (v := .int .u8 y_17) S1 tys tys_ok rfl (by kernel_rfl) S.defers ⟨rfl, hF_57⟩ (Below.refl _ _)
   exact trivial
  intro w_59 hb_60
  refine EndE.some_ rfl ?_
  intro v_62 hF_61; replace hF_61 : RepV _ _ _ _ _ := hF_61
  replace S := S.put (by decide : 11 < 20) (v_62)
  refine EndE.some_ rfl ?_
  rintro _ ⟨rfl, hF_63⟩
  replace S := S.put (by decide : 12 < 20) (.int .i64 x_3)
  refine EndE.some_ rfl ?_
  intro v_66 hF_65; replace hF_65 : RepV _ _ _ _ _ := hF_65
  replace S := S.put (by decide : 13 < 20) (v_66)
  refine EndE.some_ rfl ?_
  intro v_68 hF_67; replace hF_67 : RepV _ _ _ _ _ := hF_67
  replace S := S.put (by decide : 14 < 20) (v_68)
  refine EndE.some_ rfl ?_
  intro v_70 hF_69; replace hF_69 : RepV _ _ _ _ _ := hF_69
  replace S := S.put (by decide : 15 < 20) (v_70)
  refine EndE.some_ rfl ?_
  intro v_72 hF_71; replace hF_71 : RepV _ _ _ _ _ := hF_71
  replace S := S.put (by decide : 16 < 20) (v_72)
  refine EndE.some_ rfl ?_
  rintro _ ⟨rfl, hF_73⟩
  replace S := S.put (by decide : 17 < 20) (.int .i64 x_3)
  refine EndE.some_ rfl ?_
  rintro _ ⟨p_77, rfl, R_78, H_79⟩
  replace S := S.put (by decide : 18 < 20) (.pointer (some p_77))
  refine EndE.some_ rfl ?_
  rintro _ ⟨rfl, hF_80⟩
  replace S := S.put (by decide : 19 < 20) (.int .u8 y_17)
  refine EndE.some_ rfl ?_
  intro v_83 hF_82; replace hF_82 : RepV _ _ _ _ _ := hF_82
  replace S := S.put (by decide : 2 < 20) (v_83)
  refine EndE.some_ rfl ?_
  rintro _ ⟨rfl, hF_84⟩
  replace S := S.put (by decide : 3 < 20) (.int .u8 y_17)
  refine endE_nil S ?_; clear S; intro a S
  replace R0 := R0.step hb_60
  replace W := W.step hb_60
  refine then_n ?_
  replace S := S.sub (l' := [(3, .int .u8 y_17), (2, v_83)]) (by exact ⟨rfl, rfl, trivial⟩)
  refine wp_ret ?_
  obtain rfl := Option.some.inj h
  exact b_ret2 S rfl rfl rfl ⟨_, _, rfl, hF_82.out, (RepV.mkInt hF_84), W.below⟩
theorem cb57 : callB Try.prog 57 = true := by kernel_rfl
def p61_l1 (n : Nat) (x0 : Sl (Int)) (x1 : Sl (Int)) : Nat → (Int) → Option ((Unit) ⊕ ((Bool)))
 | 0, _ => .none
 | m + 1, c_4 => if (decide (c_4 < (lenI x0))) then ((idx x0.xs c_4).bind fun y_13 => (idx x1.xs c_4).bind fun y_19 => if (y_13 != y_19) then (some (.inr false)) else (ckI .i64 (c_4 + 1)).bind fun x_83 => p61_l1 n x0 x1 m x_83) else some (.inl ())
def p61 (n : Nat) (x0 : Sl (Int)) (x1 : Sl (Int)) : Option ((Bool)) :=
 if ((lenI x0) != (lenI x1)) then (some false) else (p61_l1 n x0 x1 n 0).bind fun (y_8 : (Unit) ⊕ ((Bool))) => lrK y_8 some fun (s_9 : Unit) => some true
set_option maxHeartbeats 4000000 in
set_option maxRecDepth 100000 in
/-- slices.Equal[plugboard/topologies.Path,uint8] -/
theorem c61 (K : Nat → Prop) (n : Nat) (w : World) (x0 : Sl (Int)) (v0 : Value) (R0 : RepV (.sl (.int .u8)) w K v0 x0) (x1 : Sl (Int)) (v1 : Value) (R1 : RepV (.sl (.int .u8)) w K v1 x1) {r : (Bool)} (h : p61 n x0 x1 = some r) :
  Calls Try.prog 61 #[v0, v1] w (Ret1 .bool w (Kx K w.heap.size []) r) := by
 refine enter (args := [v0, v1]) Try.func61 rfl 26 rfl rfl fun a S => ?_
 have W := Wd.start w
 replace R0 := R0.arg
 replace R1 := R1.arg
 unfold p61 at h
 replace S : St 26 a [(0, v0), (1, v1)] := S
 refine wp_seq ?_
 refine wp_region_lit ?_
 refine wl_pure (l' := [(4, .bool false), (0, v0), (1, v1)]) S tys tys_ok 1 (by kernel_rfl) ?_
 clear S; intro a S
 refine wpList_nil ?_
 refine then_n ?_
 replace S := S.sub (l' := [(0, v0), (1, v1)]) (by exact ⟨rfl, rfl, trivial⟩)
 refine wp_seq ?_
 refine wp_seq ?_
 refine wp_region_lit ?_
 refine wl_pure (l' := [(6, v0), (0, v0), (1, v1)]) S tys tys_ok 1 (by kernel_rfl) ?_
 clear S; intro a S
 refine w_go S rfl (op_len (K := _) S rfl ty25 rfl rfl rfl R0 ?_)
 clear S; intro a G_1 S
 refine wl_pure (l' := [(8, v1), (7, .int .i64 (lenI x0)), (6, v0), (0, v0), (1, v1)]) S tys tys_ok 1 (by kernel_rfl) ?_
 clear S; intro a S
 refine w_go S rfl (op_len (K := _) S rfl ty25 rfl rfl rfl R1 ?_)
 clear S; intro a G_2 S
 refine wl_pureK (l' := [(10, .bool ((lenI x0) != (lenI x1))), (0, v0), (1, v1)]) S tys tys_ok 1 [10, 0, 1] (by kernel_rfl) ?_
 clear S; intro a S
 refine wpList_nil ?_
 refine then_n ?_
 refine wp_cond_split (S.eval (show ev _ _ = some (.bool ((lenI x0) != (lenI x1))) from rfl)) ?_ ?_
 ·intro hc
  rw [if_pos hc] at h
  refine wp_seq ?_
  refine wp_region_lit ?_
  refine wl_pureK (l' := [(4, .bool false)]) S tys tys_ok 1 [4] (by kernel_rfl) ?_
  clear S; intro a S
  refine wpList_nil ?_
  refine then_n ?_
  refine wp_ret ?_
  refine then_r ?_
  obtain rfl := Option.some.inj h
  exact b_ret1 S rfl rfl ⟨_, rfl, RepV.mkBool, W.below⟩
 ·intro hc
  rw [if_neg (Bool.eq_false_iff.1 hc)] at h
  refine wp_skip ?_
  refine then_n ?_
  replace S := S.sub (l' := [(0, v0), (1, v1)]) (by exact ⟨rfl, rfl, trivial⟩)
  refine wp_seq ?_
  refine wp_seq ?_
  refine wp_region_lit ?_
  refine wl_pure (l' := [(11, v0), (0, v0), (1, v1)]) S tys tys_ok 1 (by kernel_rfl) ?_
  clear S; intro a S
  refine w_go S rfl (op_len (K := _) S rfl ty25 rfl rfl rfl R0 ?_)
  clear S; intro a G_3 S
  refine wl_pure (l' := [(13, .int .i64 0), (12, .int .i64 (lenI x0)), (11, v0), (0, v0), (1, v1)]) S tys tys_ok 1 (by kernel_rfl) ?_
  clear S; intro a S
  refine wpList_nil ?_
  refine then_n ?_
  replace S := S.sub (l' := [(13, .int .i64 0), (12, .int .i64 (lenI x0)), (0, v0), (1, v1)]) (by exact ⟨rfl, rfl, rfl, rfl, trivial⟩)
  obtain ⟨y_8, ey_8, h⟩ := bindS h
  refine wp_cut_ (fun a_ w_ => ∃ s_9 : Unit, y_8 = .inl s_9 ∧ (St 26 a_ [] ∧ Wd w w_ [])) ?_ ?_
  ·refine wp_block ?_
   refine wp_loop_n (fun m_ a_ w_ => ∃ (c_4 : Int) , St 26 a_ [(13, .int .i64 c_4), (12, .int .i64 (lenI x0)), (0, v0), (1, v1)] ∧ Wd w w_ [] ∧ InR .i64 c_4 ∧ RepV (.sl (.int .u8)) w_ (Kx K w.heap.size []) v0 x0 ∧ RepV (.sl (.int .u8)) w_ (Kx K w.heap.size []) v1 x1 ∧ p61_l1 n x0 x1 m_ c_4 = some y_8) n ?_ ?_
   ·skip
    exact ⟨0, ⟨S.sub (by exact ⟨rfl, rfl, rfl, rfl, trivial⟩), W, (show InR .i64 0 by decide), R0, R1, ey_8⟩⟩
   ·clear S W; rintro m_10 a w_12 ⟨c_4, S, W, G_5, R0, R1, hl_11⟩
    cases m_10 with
    | zero => exact absurd hl_11 (by simp [p61_l1])
    | succ m_10 =>
     refine ⟨m_10, rfl, ?_⟩
     rw [p61_l1] at hl_11
     refine wp_seq ?_
     refine wp_region_lit ?_
     refine wl_pure (l' := [(14, .bool (decide (c_4 < (lenI x0)))), (13, .int .i64 c_4), (12, .int .i64 (lenI x0)), (0, v0), (1, v1)]) S tys tys_ok 1 (by kernel_rfl) ?_
     clear S; intro a S
     refine wpList_nil ?_
     refine then_n ?_
     refine wp_seq ?_
     refine wp_cond_split (S.eval (show ev _ _ = some (.bool (decide (c_4 < (lenI x0)))) from rfl)) ?_ ?_
     ·intro hc
      rw [if_pos hc] at hl_11
      refine wp_skip ?_
      refine then_n ?_
      replace S := S.sub (l' := [(13, .int .i64 c_4), (12, .int .i64 (lenI x0)), (0, v0), (1, v1)]) (by exact ⟨rfl, rfl, rfl, rfl, trivial⟩)
      refine wp_seq ?_
      refine wp_block ?_
      refine wp_seq ?_
      refine wp_region_lit ?_
      refine wl_pure (l' := [(5, .int .i64 c_4), (15, .int .i64 c_4), (13, .int .i64 c_4), (12, .int .i64 (lenI x0)), (0, v0), (1, v1)]) S tys tys_ok 2 (by kernel_rfl) ?_
      clear S; intro a S
      refine wpList_nil ?_
      refine then_n ?_
      replace S := S.sub (l' := [(5, .int .i64 c_4), (13, .int .i64 c_4), (12, .int .i64 (lenI x0)), (0, v0), (1, v1)]) (by exact ⟨rfl, rfl, rfl, rfl, rfl, trivial⟩)
      refine wp_seq ?_
      obtain ⟨y_13, ey_13, hl_11⟩ := bindS hl_11
      obtain ⟨y_19, ey_19, hl_11⟩ := bindS hl_11
      have hR : Rel (Kx K w.heap.size []) Bl := Bl.rel _
      refine wp_region_all hR [isRep (.sl (.int .u8)) (Kx K w.heap.size []) x0, isI .i64 c_4, isEl (.int .u8) (Kx K w.heap.size []) y_13, isI .u8 y_13, isRep (.sl (.int .u8)) (Kx K w.heap.size []) x1, isI .i64 c_4, isEl (.int .u8) (Kx K w.heap.size []) y_19, isI .u8 y_19, eqv (.bool (y_13 != y_19))] [[], [], [(0, 16), (1, 17)], [(2, 18)], [], [], [(4, 20), (5, 21)], [(6, 22)], [(3, 19), (7, 23)]] (by kernel_rfl) (by rw [S.size]; kernel_rfl) (by kernel_rfl) (by kernel_rfl) rfl ⟨(stab_rep hR), stab_I, (stab_el hR), stab_I, (stab_rep hR), stab_I, (stab_el hR), stab_I, (stab_eqv _), trivial⟩ ?_ ?_
      ·
       refine RunAll.cons (isRep (.sl (.int .u8)) (Kx K w.heap.size []) x0) [] rfl rfl ?_ ?_
       ·intro W_ hW
        have S1 := S
        replace R0 := R0.step hW
        exact RPost.one (v := v0) S1 tys tys_ok rfl (by kernel_rfl) S.defers R0 (Below.refl _ _)
       refine RunAll.cons (isI .i64 c_4) [] rfl rfl ?_ ?_
       ·intro W_ hW
        have S1 := S
        exact RPost.one (v := .int .i64 c_4) S1 tys tys_ok rfl (by kernel_rfl) S.defers ⟨rfl, G_5⟩ (Below.refl _ _)
       refine RunAll.cons (isEl (.int .u8) (Kx K w.heap.size []) y_13) [(isRep (.sl (.int .u8)) (Kx K w.heap.size []) x0, 16), (isI .i64 c_4, 17)] rfl rfl ?_ ?_
       ·intro W_ hW
        have S1 := S
        intro v_26 hF_25; replace hF_25 : RepV _ _ _ _ _ := hF_25
        replace S1 := S1.put (by decide : 16 < 26) (v_26)
        rintro _ ⟨rfl, hF_27⟩
        replace S1 := S1.put (by decide : 17 < 26) (.int .i64 c_4)
        refine fill_nil S1 ?_; clear S1; intro a_ S1
        replace W := W.step hW
        have S0 := S.defers; replace S := S1; clear S1
        refine w_go S rfl (op_indexAddr S rfl ty25 rfl rfl rfl hF_25 rfl ey_13 ?_)
        clear S; intro a p_29 R_30 H_31 S
        refine wpList_nil ?_
        exact RPost.mk_ S rfl S0 ⟨_, rfl, R_30, H_31⟩ (Below.refl _ _)
       refine RunAll.cons (isI .u8 y_13) [(isEl (.int .u8) (Kx K w.heap.size []) y_13, 18)] rfl rfl ?_ ?_
       ·intro W_ hW
        have S1 := S
        rintro _ ⟨p_34, rfl, R_35, H_36⟩
        replace S1 := S1.put (by decide : 18 < 26) (.pointer (some p_34))
        refine fill_nil S1 ?_; clear S1; intro a_ S1
        have S0 := S.defers; replace S := S1; clear S1
        refine w_go S rfl (op_load (t := (.int .u8)) (x := y_13) S rfl ty5 rfl rfl rfl R_35 ?_)
        clear S; intro a v_37 R_38 S
        obtain ⟨rfl, GR_38⟩ := RepV.int R_38
        refine wpList_nil ?_
        exact RPost.mk_ S rfl S0 ⟨rfl, GR_38⟩ (Below.refl _ _)
       refine RunAll.cons (isRep (.sl (.int .u8)) (Kx K w.heap.size []) x1) [] rfl rfl ?_ ?_
       ·intro W_ hW
        have S1 := S
        replace R1 := R1.step hW
        exact RPost.one (v := v1) S1 tys tys_ok rfl (by kernel_rfl) S.defers R1 (Below.refl _ _)
       refine RunAll.cons (isI .i64 c_4) [] rfl rfl ?_ ?_
       ·intro W_ hW
        have S1 := S
        exact RPost.one (v := .int .i64 c_4) S1 tys tys_ok rfl (by kernel_rfl) S.defers ⟨rfl, G_5⟩ (Below.refl _ _)
       refine RunAll.cons (isEl (.int .u8) (Kx K w.heap.size []) y_19) [(isRep (.sl (.int .u8)) (Kx K w.heap.size []) x1, 20), (isI .i64 c_4, 21)] rfl rfl ?_ ?_
       ·intro W_ hW
        have S1 := S
        intro v_40 hF_39; replace hF_39 : RepV _ _ _ _ _ := hF_39
        replace S1 := S1.put (by decide : 20 < 26) (v_40)
        rintro _ ⟨rfl, hF_41⟩
        replace S1 := S1.put (by decide : 21 < 26) (.int .i64 c_4)
        refine fill_nil S1 ?_; clear S1; intro a_ S1
        replace W := W.step hW
        have S0 := S.defers; replace S := S1; clear S1
        refine w_go S rfl (op_indexAddr S rfl ty25 rfl rfl rfl hF_39 rfl ey_19 ?_)
        clear S; intro a p_43 R_44 H_45 S
        refine wpList_nil ?_
        exact RPost.mk_ S rfl S0 ⟨_, rfl, R_44, H_45⟩ (Below.refl _ _)
       refine RunAll.cons (isI .u8 y_19) [(isEl (.int .u8) (Kx K w.heap.size []) y_19, 22)] rfl rfl ?_ ?_
       ·intro W_ hW
        have S1 := S
        rintro _ ⟨p_48, rfl, R_49, H_50⟩
        replace S1 := S1.put (by decide : 22 < 26) (.pointer (some p_48))
        refine fill_nil S1 ?_; clear S1; intro a_ S1
        have S0 := S.defers; replace S := S1; clear S1
        refine w_go S rfl (op_load (t := (.int .u8)) (x := y_19) S rfl ty5 rfl rfl rfl R_49 ?_)
        clear S; intro a v_51 R_52 S
        obtain ⟨rfl, GR_52⟩ := RepV.int R_52
        refine wpList_nil ?_
        exact RPost.mk_ S rfl S0 ⟨rfl, GR_52⟩ (Below.refl _ _)
       refine RunAll.cons (eqv (.bool (y_13 != y_19))) [(isI .u8 y_13, 19), (isI .u8 y_19, 23)] rfl rfl ?_ ?_
       ·intro W_ hW
        have S1 := S
        rintro _ ⟨rfl, hF_53⟩
        replace S1 := S1.put (by decide : 19 < 26) (.int .u8 y_13)
        rintro _ ⟨rfl, hF_55⟩
        replace S1 := S1.put (by decide : 23 < 26) (.int .u8 y_19)
        exact RPost.one (v := .bool (y_13 != y_19)) S1 tys tys_ok rfl (by kernel_rfl) S.defers rfl (Below.refl _ _)
       exact trivial
      intro w_57 hb_58
      refine EndE.some_ rfl ?_
      intro v_60 hF_59; replace hF_59 : RepV _ _ _ _ _ := hF_59
      replace S := S.put (by decide : 16 < 26) (v_60)
      refine EndE.some_ rfl ?_
      rintro _ ⟨rfl, hF_61⟩
      replace S := S.put (by decide : 17 < 26) (.int .i64 c_4)
      refine EndE.some_ rfl ?_
      rintro _ ⟨p_65, rfl, R_66, H_67⟩
      replace S := S.put (by decide : 18 < 26) (.pointer (some p_65))
      refine EndE.some_ rfl ?_
      rintro _ ⟨rfl, hF_68⟩
      replace S := S.put (by decide : 19 < 26) (.int .u8 y_13)
      refine EndE.some_ rfl ?_
      intro v_71 hF_70; replace hF_70 : RepV _ _ _ _ _ := hF_70
      replace S := S.put (by decide : 20 < 26) (v_71)
      refine EndE.some_ rfl ?_
      rintro _ ⟨rfl, hF_72⟩
      replace S := S.put (by decide : 21 < 26) (.int .i64 c_4)
      refine EndE.some_ rfl ?_
      rintro _ ⟨p_76, rfl, R_77, H_78⟩
      replace S := S.put (by decide : 22 < 26) (.pointer (some p_76))
      refine EndE.some_ rfl ?_
      rintro _ ⟨rfl, hF_79⟩
      replace S := S.put (by decide : 23 < 26) (.int .u8 y_19)
      refine EndE.some_ rfl ?_
      intro v_82 hF_81; obtain rfl : .bool (y_13 != y_19) = v_82 := Eq.symm hF_81
      replace S := S.put (by decide : 24 < 26) (.bool (y_13 != y_19))
      refine endE_nil S ?_; clear S; intro a S
      replace R0 := R0.step hb_58
      replace R1 := R1.step hb_58
      replace W := W.step hb_58
      refine then_n ?_
      replace S := S.sub (l' := [(24, .bool (y_13 != y_19)), (13, .int .i64 c_4), (12, .int .i64 (lenI x0)), (0, v0), (1, v1)]) (by exact ⟨rfl, rfl, rfl, rfl, rfl, trivial⟩)
      refine wp_cond_split (S.eval (show ev _ _ = some (.bool (y_13 != y_19)) from rfl)) ?_ ?_
      ·intro hc
       rw [if_pos hc] at hl_11
       refine wp_seq ?_
       refine wp_region_lit ?_
       refine wl_pureK (l' := [(4, .bool false)]) S tys tys_ok 1 [4] (by kernel_rfl) ?_
       clear S; intro a S
       refine wpList_nil ?_
       refine then_n ?_
       refine wp_ret ?_
       refine blk_r ?_
       refine then_r ?_
       refine then_r ?_
       refine blk_r ?_
       refine then_r ?_
       refine then_r ?_
       obtain rfl := Option.some.inj hl_11
       obtain rfl := lr_inr h
       exact b_ret1 S rfl rfl ⟨_, rfl, RepV.mkBool, W.below⟩
      ·intro hc
       rw [if_neg (Bool.eq_false_iff.1 hc)] at hl_11
       refine wp_skip ?_
       refine blk_n ?_
       refine then_n ?_
       replace S := S.sub (l' := [(13, .int .i64 c_4), (12, .int .i64 (lenI x0)), (0, v0), (1, v1)]) (by exact ⟨rfl, rfl, rfl, rfl, trivial⟩)
       refine wp_region_lit ?_
       obtain ⟨x_83, ex_83, hl_11⟩ := bindS hl_11
       refine w_go S rfl (op_arith S .i64 (c_4 + 1) rfl (.inl rfl) rfl rfl rfl rfl ex_83 ?_)
       clear S; intro a S
       refine wl_pure (l' := [(13, .int .i64 x_83), (25, .int .i64 x_83), (13, .int .i64 c_4), (12, .int .i64 (lenI x0)), (0, v0), (1, v1)]) S tys tys_ok 1 (by kernel_rfl) ?_
       clear S; intro a S
       refine wpList_nil ?_
       refine then_n ?_
       exact ⟨x_83, ⟨S.sub (by exact ⟨rfl, rfl, rfl, rfl, trivial⟩), W, (ckI_some ex_83).2.1, R0, R1, hl_11⟩⟩
     ·intro hc
      rw [if_neg (Bool.eq_false_iff.1 hc)] at hl_11
      refine wp_exit ?_
      refine then_x ?_
      refine then_x ?_
      refine blk_hit ?_
      refine then_n ?_
      obtain rfl := Option.some.inj hl_11
      exact ⟨_, rfl, ⟨S.sub trivial, W⟩⟩
  clear S W; rintro a w_84 ⟨s_9, rfl, S, W⟩
  replace h := lr_inl h; try dsimp only at h
  refine then_n ?_
  refine wp_seq ?_
  refine wp_region_lit ?_
  refine wl_pure (l' := [(4, .bool true)]) S tys tys_ok 1 (by kernel_rfl) ?_
  clear S; intro a S
  refine wpList_nil ?_
  refine then_n ?_
  refine wp_ret ?_
  obtain rfl := Option.some.inj h
  exact b_ret1 S rfl rfl ⟨_, rfl, RepV.mkBool, W.below⟩
theorem cb61 : callB Try.prog 61 = true := by kernel_rfl
def p60 (n : Nat) (x0 : (Sl (Int)) × Int × Int) (y0 : Sl (Int)) : Option ((Bool)) :=
 (p61 n x0.1 y0).bind fun t_9 =>
 some t_9
set_option maxHeartbeats 4000000 in
set_option maxRecDepth 100000 in
/-- (plugboard/events.Tree).at$1 -/
theorem c60 (K : Nat → Prop) (n : Nat) (w : World) (x0 : (Sl (Int)) × Int × Int) (v0 : Value) (R0 : RepV gt0 w K v0 x0) (q0 : Addr) (y0 : Sl (Int)) (Q0 : Br (.sl (.int .u8)) w K q0 y0) {r : (Bool)} (h : p60 n x0 y0 = some r) :
  Calls Try.prog 60 #[v0, .pointer (some q0)] w (Ret1 .bool w (Kx K w.heap.size []) r) := by
 refine enter (args := [v0, .pointer (some q0)]) Try.func60 rfl 8 rfl rfl fun a S => ?_
 have W := Wd.start w
 replace R0 := R0.arg
 unfold p60 at h
 replace S : St 8 a [(0, v0), (1, .pointer (some q0))] := S
 refine wp_seq ?_
 refine wp_region_lit ?_
 refine w_go S rfl (op_box S rfl rfl rfl rfl rfl R0 ?_)
 clear S; intro a w_3 b_1 hb_4 B_2 S
 replace R0 := R0.box hb_4
 replace W := W.box hb_4
 refine wl_pure (l' := [(3, .bool false), (2, pB b_1), (0, v0), (1, .pointer (some q0))]) S tys tys_ok 1 (by kernel_rfl) ?_
 clear S; intro a S
 refine wpList_nil ?_
 refine then_n ?_
 replace S := S.sub (l' := [(2, pB b_1), (1, .pointer (some q0))]) (by exact ⟨rfl, rfl, trivial⟩)
 refine wp_seq ?_
 refine wp_region_lit ?_
 refine wl_pure (l' := [(4, .pointer (some ((⟨b_1, 0, .none⟩ : Addr).add (coff gf0 0)))), (2, pB b_1), (1, .pointer (some q0))]) S tys tys_ok 1 (by kernel_rfl) ?_
 clear S; intro a S
 refine w_go S rfl (op_load (t := (.sl (.int .u8))) (x := x0.1) S rfl ty25 rfl rfl rfl (RepAt.add 0 (RepAt.st (t := gf0) B_2.at_)) ?_)
 clear S; intro a v_5 R_6 S
 refine w_go S rfl (op_load (t := (.sl (.int .u8))) (x := y0) S rfl ty25 rfl rfl rfl (Br.now Q0 W) ?_)
 clear S; intro a v_7 R_8 S
 obtain ⟨t_9, et_9, h⟩ := bindS h
 refine w_go S rfl (op_call (vs := [v_5, v_7]) S rfl cb61 rfl rfl rfl (c61 (Kx K w.heap.size [some b_1]) n w_3 x0.1 _ R_6 y0 _ R_8 et_9) ?_)
 rintro _ w_13 ⟨v_10, rfl, R_11, hb_12⟩; refine ⟨_, rfl, ?_⟩
 replace R_11 := RepV.back R_11 W
 clear S; intro a S
 replace R_6 := R_6.step hb_12
 replace R_8 := R_8.step hb_12
 replace B_2 := B_2.step hb_12
 replace W := W.step hb_12
 obtain rfl := RepV.bool R_11
 refine wl_pureK (l' := [(3, .bool t_9)]) S tys tys_ok 1 [3] (by kernel_rfl) ?_
 clear S; intro a S
 refine wpList_nil ?_
 refine then_n ?_
 refine wp_ret ?_
 obtain rfl := Option.some.inj h
 exact b_ret1 S rfl rfl ⟨_, rfl, RepV.mkBool, W.below⟩
theorem cb60 : callB Try.prog 60 = true := by kernel_rfl
def p59_60_l1 (n : Nat) (x0 : Sl ((Sl (Int)) × Int × Int)) (y1_0 : Sl (Int)) : Nat → (Int) → Option ((Unit) ⊕ ((Int)))
 | 0, _ => .none
 | m + 1, c_2 => if (decide (c_2 < (lenI x0))) then ((idx x0.xs c_2).bind fun y_11 => (p60 n y_11 y1_0).bind fun t_17 => if t_17 then (some (.inr c_2)) else (ckI .i64 (c_2 + 1)).bind fun x_22 => p59_60_l1 n x0 y1_0 m x_22) else some (.inl ())
def p59_60 (n : Nat) (x0 : Sl ((Sl (Int)) × Int × Int)) (y1_0 : Sl (Int)) : Option ((Int)) :=
 (p59_60_l1 n x0 y1_0 n 0).bind fun (y_6 : (Unit) ⊕ ((Int))) =>
 lrK y_6 some fun (s_7 : Unit) =>
 some (-1)
set_option maxHeartbeats 4000000 in
set_option maxRecDepth 100000 in
/-- slices.IndexFunc[plugboard/events.Tree,plugboard/events.Node] -/
theorem c59_60 (K : Nat → Prop) (n : Nat) (w : World) (x0 : Sl ((Sl (Int)) × Int × Int)) (v0 : Value) (R0 : RepV (.sl gt0) w K v0 x0) (q1_0 : Addr) (y1_0 : Sl (Int)) (Q1_0 : Br (.sl (.int .u8)) w K q1_0 y1_0) {r : (Int)} (h : p59_60 n x0 y1_0 = some r) :
  Calls Try.prog 59 #[v0, .func (.func 60) #[] #[.pointer (some q1_0)]] w (Ret1 (.int .i64) w (Kx K w.heap.size []) r) := by
 refine enter (args := [v0, .func (.func 60) #[] #[.pointer (some q1_0)]]) Try.func59 rfl 19 rfl rfl fun a S => ?_
 have W := Wd.start w
 replace R0 := R0.arg
 unfold p59_60 at h
 replace S : St 19 a [(0, v0), (1, .func (.func 60) #[] #[.pointer (some q1_0)])] := S
 refine wp_seq ?_
 refine wp_region_lit ?_
 refine wl_pure (l' := [(4, .int .i64 0), (0, v0), (1, .func (.func 60) #[] #[.pointer (some q1_0)])]) S tys tys_ok 1 (by kernel_rfl) ?_
 clear S; intro a S
 refine wpList_nil ?_
 refine then_n ?_
 replace S := S.sub (l' := [(0, v0), (1, .func (.func 60) #[] #[.pointer (some q1_0)])]) (by exact ⟨rfl, rfl, trivial⟩)
 refine wp_seq ?_
 refine wp_seq ?_
 refine wp_region_lit ?_
 refine wl_pure (l' := [(6, v0), (0, v0), (1, .func (.func 60) #[] #[.pointer (some q1_0)])]) S tys tys_ok 1 (by kernel_rfl) ?_
 clear S; intro a S
 refine w_go S rfl (op_len (K := _) S rfl ty23 rfl rfl rfl R0 ?_)
 clear S; intro a G_1 S
 refine wl_pure (l' := [(8, .int .i64 0), (7, .int .i64 (lenI x0)), (6, v0), (0, v0), (1, .func (.func 60) #[] #[.pointer (some q1_0)])]) S tys tys_ok 1 (by kernel_rfl) ?_
 clear S; intro a S
 refine wpList_nil ?_
 refine then_n ?_
 replace S := S.sub (l' := [(8, .int .i64 0), (7, .int .i64 (lenI x0)), (0, v0), (1, .func (.func 60) #[] #[.pointer (some q1_0)])]) (by exact ⟨rfl, rfl, rfl, rfl, trivial⟩)
 obtain ⟨y_6, ey_6, h⟩ := bindS h
 refine wp_cut_ (fun a_ w_ => ∃ s_7 : Unit, y_6 = .inl s_7 ∧ (St 19 a_ [] ∧ Wd w w_ [])) ?_ ?_
 ·refine wp_block ?_
  refine wp_loop_n (fun m_ a_ w_ => ∃ (c_2 : Int) , St 19 a_ [(8, .int .i64 c_2), (7, .int .i64 (lenI x0)), (0, v0), (1, .func (.func 60) #[] #[.pointer (some q1_0)])] ∧ Wd w w_ [] ∧ InR .i64 c_2 ∧ RepV (.sl gt0) w_ (Kx K w.heap.size []) v0 x0 ∧ p59_60_l1 n x0 y1_0 m_ c_2 = some y_6) n ?_ ?_
  ·skip
   exact ⟨0, ⟨S.sub (by exact ⟨rfl, rfl, rfl, rfl, trivial⟩), W, (show InR .i64 0 by decide), R0, ey_6⟩⟩
  ·clear S W; rintro m_8 a w_10 ⟨c_2, S, W, G_3, R0, hl_9⟩
   cases m_8 with
   | zero => exact absurd hl_9 (by simp [p59_60_l1])
   | succ m_8 =>
    refine ⟨m_8, rfl, ?_⟩
    rw [p59_60_l1] at hl_9
    refine wp_seq ?_
    refine wp_region_lit ?_
    refine wl_pure (l' := [(9, .bool (decide (c_2 < (lenI x0)))), (8, .int .i64 c_2), (7, .int .i64 (lenI x0)), (0, v0), (1, .func (.func 60) #[] #[.pointer (some q1_0)])]) S tys tys_ok 1 (by kernel_rfl) ?_
    clear S; intro a S
    refine wpList_nil ?_
    refine then_n ?_
    refine wp_seq ?_
    refine wp_cond_split (S.eval (show ev _ _ = some (.bool (decide (c_2 < (lenI x0)))) from rfl)) ?_ ?_
    ·intro hc
     rw [if_pos hc] at hl_9
     refine wp_skip ?_
     refine then_n ?_
     replace S := S.sub (l' := [(8, .int .i64 c_2), (7, .int .i64 (lenI x0)), (0, v0), (1, .func (.func 60) #[] #[.pointer (some q1_0)])]) (by exact ⟨rfl, rfl, rfl, rfl, trivial⟩)
     refine wp_seq ?_
     refine wp_block ?_
     refine wp_seq ?_
     refine wp_region_lit ?_
     refine wl_pure (l' := [(5, .int .i64 c_2), (10, .int .i64 c_2), (8, .int .i64 c_2), (7, .int .i64 (lenI x0)), (0, v0), (1, .func (.func 60) #[] #[.pointer (some q1_0)])]) S tys tys_ok 2 (by kernel_rfl) ?_
     clear S; intro a S
     refine wpList_nil ?_
     refine then_n ?_
     replace S := S.sub (l' := [(5, .int .i64 c_2), (8, .int .i64 c_2), (7, .int .i64 (lenI x0)), (0, v0), (1, .func (.func 60) #[] #[.pointer (some q1_0)])]) (by exact ⟨rfl, rfl, rfl, rfl, rfl, trivial⟩)
     refine wp_seq ?_
     refine wp_region_lit ?_
     refine wl_pure (l' := [(13, .int .i64 c_2), (12, v0), (11, .func (.func 60) #[] #[.pointer (some q1_0)]), (5, .int .i64 c_2), (8, .int .i64 c_2), (7, .int .i64 (lenI x0)), (0, v0), (1, .func (.func 60) #[] #[.pointer (some q1_0)])]) S tys tys_ok 3 (by kernel_rfl) ?_
     clear S; intro a S
     obtain ⟨y_11, ey_11, hl_9⟩ := bindS hl_9
     refine w_go S rfl (op_indexAddr S rfl ty23 rfl rfl rfl R0 rfl ey_11 ?_)
     clear S; intro a p_12 R_13 H_14 S
     refine w_go S rfl (op_load (t := gt0) (x := y_11) S rfl ty33 rfl rfl rfl R_13 ?_)
     clear S; intro a v_15 R_16 S
     obtain ⟨t_17, et_17, hl_9⟩ := bindS hl_9
     refine w_go S rfl (op_calld (vs := [v_15]) S rfl rfl cb60 rfl rfl rfl (c60 (Kx K w.heap.size []) n w_10 y_11 _ R_16 _ y1_0 (Br.again Q1_0 W) et_17) ?_)
     rintro _ w_21 ⟨v_18, rfl, R_19, hb_20⟩; refine ⟨_, rfl, ?_⟩
     replace R_19 := RepV.back R_19 W
     clear S; intro a S
     replace R0 := R0.step hb_20
     replace R_16 := R_16.step hb_20
     replace W := W.step hb_20
     obtain rfl := RepV.bool R_19
     refine wpList_nil ?_
     refine then_n ?_
     replace S := S.sub (l' := [(16, .bool t_17), (5, .int .i64 c_2), (8, .int .i64 c_2), (7, .int .i64 (lenI x0)), (0, v0), (1, .func (.func 60) #[] #[.pointer (some q1_0)])]) (by exact ⟨rfl, rfl, rfl, rfl, rfl, rfl, trivial⟩)
     refine wp_cond_split (S.eval (show ev _ _ = some (.bool t_17) from rfl)) ?_ ?_
     ·intro hc
      rw [if_pos hc] at hl_9
      refine wp_seq ?_
      refine wp_region_lit ?_
      refine wl_pureK (l' := [(4, .int .i64 c_2)]) S tys tys_ok 2 [4] (by kernel_rfl) ?_
      clear S; intro a S
      refine wpList_nil ?_
      refine then_n ?_
      refine wp_ret ?_
      refine blk_r ?_
      refine then_r ?_
      refine then_r ?_
      refine blk_r ?_
      refine then_r ?_
      refine then_r ?_
      obtain rfl := Option.some.inj hl_9
      obtain rfl := lr_inr h
      exact b_ret1 S rfl rfl ⟨_, rfl, (RepV.mkInt G_3), W.below⟩
     ·intro hc
      rw [if_neg (Bool.eq_false_iff.1 hc)] at hl_9
      refine wp_skip ?_
      refine blk_n ?_
      refine then_n ?_
      replace S := S.sub (l' := [(8, .int .i64 c_2), (7, .int .i64 (lenI x0)), (0, v0), (1, .func (.func 60) #[] #[.pointer (some q1_0)])]) (by exact ⟨rfl, rfl, rfl, rfl, trivial⟩)
      refine wp_region_lit ?_
      obtain ⟨x_22, ex_22, hl_9⟩ := bindS hl_9
      refine w_go S rfl (op_arith S .i64 (c_2 + 1) rfl (.inl rfl) rfl rfl rfl rfl ex_22 ?_)
      clear S; intro a S
      refine wl_pure (l' := [(8, .int .i64 x_22), (18, .int .i64 x_22), (8, .int .i64 c_2), (7, .int .i64 (lenI x0)), (0, v0), (1, .func (.func 60) #[] #[.pointer (some q1_0)])]) S tys tys_ok 1 (by kernel_rfl) ?_
      clear S; intro a S
      refine wpList_nil ?_
      refine then_n ?_
      exact ⟨x_22, ⟨S.sub (by exact ⟨rfl, rfl, rfl, rfl, trivial⟩), W, (ckI_some ex_22).2.1, R0, hl_9⟩⟩
    ·intro hc
     rw [if_neg (Bool.eq_false_iff.1 hc)] at hl_9
     refine wp_exit ?_
     refine then_x ?_
     refine then_x ?_
     refine blk_hit ?_
     refine then_n ?_
     obtain rfl := Option.some.inj hl_9
     exact ⟨_, rfl, ⟨S.sub trivial, W⟩⟩
 clear S W; rintro a w_23 ⟨s_7, rfl, S, W⟩
 replace h := lr_inl h; try dsimp only at h
 refine then_n ?_
 refine wp_seq ?_
 refine wp_region_lit ?_
 refine wl_pure (l' := [(4, .int .i64 (-1))]) S tys tys_ok 1 (by kernel_rfl) ?_
 clear S; intro a S
 refine wpList_nil ?_
 refine then_n ?_
 refine wp_ret ?_
 obtain rfl := Option.some.inj h
 exact b_ret1 S rfl rfl ⟨_, rfl, (RepV.mkInt (by decide)), W.below⟩
def p38 (n : Nat) (x0 : Sl ((Sl (Int)) × Int × Int)) (x1 : Sl (Int)) : Option ((Int)) :=
 (p59_60 n x0 x1).bind fun t_5 =>
 some t_5
set_option maxHeartbeats 4000000 in
set_option maxRecDepth 100000 in
/-- (plugboard/events.Tree).at -/
theorem c38 (K : Nat → Prop) (n : Nat) (w : World) (x0 : Sl ((Sl (Int)) × Int × Int)) (v0 : Value) (R0 : RepV (.sl gt0) w K v0 x0) (x1 : Sl (Int)) (v1 : Value) (R1 : RepV (.sl (.int .u8)) w K v1 x1) {r : (Int)} (h : p38 n x0 x1 = some r) :
  Calls Try.prog 38 #[v0, v1] w (Ret1 (.int .i64) w (Kx K w.heap.size []) r) := by
 refine enter (args := [v0, v1]) Try.func38 rfl 8 rfl rfl fun a S => ?_
 have W := Wd.start w
 replace R0 := R0.arg
 replace R1 := R1.arg
 unfold p38 at h
 replace S : St 8 a [(0, v0), (1, v1)] := S
 refine wp_seq ?_
 refine wp_region_lit ?_
 refine w_go S rfl (op_box S rfl rfl rfl rfl rfl R1 ?_)
 clear S; intro a w_3 b_1 hb_4 B_2 S
 replace R0 := R0.box hb_4
 replace R1 := R1.box hb_4
 replace W := W.box hb_4
 refine wl_pure (l' := [(4, .int .i64 0), (3, pB b_1), (0, v0), (1, v1)]) S tys tys_ok 1 (by kernel_rfl) ?_
 clear S; intro a S
 refine wpList_nil ?_
 refine then_n ?_
 replace S := S.sub (l' := [(3, pB b_1), (0, v0)]) (by exact ⟨rfl, rfl, trivial⟩)
 refine wp_seq ?_
 refine wp_region_lit ?_
 refine wl_pure (l' := [(5, v0), (3, pB b_1), (0, v0)]) S tys tys_ok 1 (by kernel_rfl) ?_
 clear S; intro a S
 refine w_go S rfl (op_mkfn (vs := []) (us := [pB b_1]) S rfl rfl rfl rfl rfl ?_)
 clear S; intro a S
 obtain ⟨t_5, et_5, h⟩ := bindS h
 refine w_go S rfl (op_call (vs := [v0, .func (.func 60) #[] #[pB b_1]]) S rfl cb59 rfl rfl rfl (c59_60 (Kx K w.heap.size [some b_1]) n w_3 x0 _ R0 _ x1 (Bx.br B_2) et_5) ?_)
 rintro _ w_9 ⟨v_6, rfl, R_7, hb_8⟩; refine ⟨_, rfl, ?_⟩
 replace R_7 := RepV.back R_7 W
 clear S; intro a S
 replace R0 := R0.step hb_8
 replace B_2 := B_2.step hb_8
 replace W := W.step hb_8
 obtain ⟨rfl, GR_7⟩ := RepV.int R_7
 refine wl_pureK (l' := [(4, .int .i64 t_5)]) S tys tys_ok 1 [4] (by kernel_rfl) ?_
 clear S; intro a S
 refine wpList_nil ?_
 refine then_n ?_
 refine wp_ret ?_
 obtain rfl := Option.some.inj h
 exact b_ret1 S rfl rfl ⟨_, rfl, (RepV.mkInt GR_7), W.below⟩
theorem cb38 : callB Try.prog 38 = true := by kernel_rfl
def p34 (n : Nat) (x0 : Sl ((Sl (Int)) × Int × Int)) (x1 : Sl (Int)) : Option ((Bool)) :=
 if ((lenI x1) == 1) then (some true) else (p57 n x1).bind fun t_2 => (p38 n x0 t_2.1).bind fun t_9 => (if (decide (t_9 ≥ 0)) = true then (idx x0.xs t_9).bind fun y_15 => some (y_15.2.1 == 2) else some false).bind fun q_14 => some q_14
set_option maxHeartbeats 4000000 in
set_option maxRecDepth 100000 in
/-- (plugboard/events.Tree).held -/
theorem c34 (K : Nat → Prop) (n : Nat) (w : World) (x0 : Sl ((Sl (Int)) × Int × Int)) (v0 : Value) (R0 : RepV (.sl gt0) w K v0 x0) (x1 : Sl (Int)) (v1 : Value) (R1 : RepV (.sl (.int .u8)) w K v1 x1) {r : (Bool)} (h : p34 n x0 x1 = some r) :
  Calls Try.prog 34 #[v0, v1] w (Ret1 .bool w (Kx K w.heap.size []) r) := by
 refine enter (args := [v0, v1]) Try.func34 rfl 29 rfl rfl fun a S => ?_
 have W := Wd.start w
 replace R0 := R0.arg
 replace R1 := R1.arg
 unfold p34 at h
 replace S : St 29 a [(0, v0), (1, v1)] := S
 refine wp_seq ?_
 refine wp_region_lit ?_
 refine wl_pure (l' := [(4, .bool false), (0, v0), (1, v1)]) S tys tys_ok 1 (by kernel_rfl) ?_
 clear S; intro a S
 refine wpList_nil ?_
 refine then_n ?_
 replace S := S.sub (l' := [(0, v0), (1, v1)]) (by exact ⟨rfl, rfl, trivial⟩)
 refine wp_seq ?_
 refine wp_seq ?_
 refine wp_region_lit ?_
 refine wl_pure (l' := [(8, v1), (0, v0), (1, v1)]) S tys tys_ok 1 (by kernel_rfl) ?_
 clear S; intro a S
 refine w_go S rfl (op_len (K := _) S rfl ty25 rfl rfl rfl R1 ?_)
 clear S; intro a G_1 S
 refine wl_pure (l' := [(10, .bool ((lenI x1) == 1)), (9, .int .i64 (lenI x1)), (8, v1), (0, v0), (1, v1)]) S tys tys_ok 1 (by kernel_rfl) ?_
 clear S; intro a S
 refine wpList_nil ?_
 refine then_n ?_
 replace S := S.sub (l' := [(10, .bool ((lenI x1) == 1)), (0, v0), (1, v1)]) (by exact ⟨rfl, rfl, rfl, trivial⟩)
 refine wp_cond_split (S.eval (show ev _ _ = some (.bool ((lenI x1) == 1)) from rfl)) ?_ ?_
 ·intro hc
  rw [if_pos hc] at h
  refine wp_seq ?_
  refine wp_region_lit ?_
  refine wl_pureK (l' := [(4, .bool true)]) S tys tys_ok 1 [4] (by kernel_rfl) ?_
  clear S; intro a S
  refine wpList_nil ?_
  refine then_n ?_
  refine wp_ret ?_
  refine then_r ?_
  obtain rfl := Option.some.inj h
  exact b_ret1 S rfl rfl ⟨_, rfl, RepV.mkBool, W.below⟩
 ·intro hc
  rw [if_neg (Bool.eq_false_iff.1 hc)] at h
  refine wp_skip ?_
  refine then_n ?_
  replace S := S.sub (l' := [(0, v0), (1, v1)]) (by exact ⟨rfl, rfl, trivial⟩)
  refine wp_seq ?_
  refine wp_region_lit ?_
  refine wl_pure (l' := [(12, v1), (0, v0), (1, v1)]) S tys tys_ok 1 (by kernel_rfl) ?_
  clear S; intro a S
  obtain ⟨t_2, et_2, h⟩ := bindS h
  refine w_go S rfl (op_call (vs := [v1]) S rfl cb57 rfl rfl rfl (c57 (Kx K w.heap.size []) n w x1 _ R1 et_2) ?_)
  rintro _ w_8 ⟨v_3, v_4, rfl, R_5, R_6, hb_7⟩; refine ⟨_, rfl, ?_⟩
  replace R_5 := RepV.back R_5 W
  replace R_6 := RepV.back R_6 W
  clear S; intro a S
  replace R0 := R0.step hb_7
  replace R1 := R1.step hb_7
  replace W := W.step hb_7
  obtain ⟨rfl, GR_6⟩ := RepV.int R_6
  refine wl_pureK (l' := [(5, v_3), (0, v0)]) S tys tys_ok 5 [5, 0] (by kernel_rfl) ?_
  clear S; intro a S
  refine wpList_nil ?_
  refine then_n ?_
  refine wp_seq ?_
  refine wp_region_lit ?_
  refine wl_pure (l' := [(17, v_3), (16, v0), (5, v_3), (0, v0)]) S tys tys_ok 2 (by kernel_rfl) ?_
  clear S; intro a S
  obtain ⟨t_9, et_9, h⟩ := bindS h
  refine w_go S rfl (op_call (vs := [v0, v_3]) S rfl cb38 rfl rfl rfl (c38 (Kx K w.heap.size []) n w_8 x0 _ R0 t_2.1 _ R_5 et_9) ?_)
  rintro _ w_13 ⟨v_10, rfl, R_11, hb_12⟩; refine ⟨_, rfl, ?_⟩
  replace R_11 := RepV.back R_11 W
  clear S; intro a S
  replace R0 := R0.step hb_12
  replace R_5 := R_5.step hb_12
  replace W := W.step hb_12
  obtain ⟨rfl, GR_11⟩ := RepV.int R_11
  refine wl_pureK (l' := [(7, .int .i64 t_9), (0, v0)]) S tys tys_ok 1 [7, 0] (by kernel_rfl) ?_
  clear S; intro a S
  refine wpList_nil ?_
  refine then_n ?_
  refine wp_seq ?_
  refine wp_region_lit ?_
  refine wl_pure (l' := [(21, .bool (decide (t_9 ≥ 0))), (20, .bool (decide (t_9 ≥ 0))), (19, .int .i64 t_9), (7, .int .i64 t_9), (0, v0)]) S tys tys_ok 3 (by kernel_rfl) ?_
  clear S; intro a S
  obtain ⟨q_14, eq_14, h⟩ := bindS h
  refine seg 7 (fun a_ w_ => w_13 = w_ ∧ St 29 a_ [(28, .bool q_14)]) ?_ ?_
  ·by_cases hc : (decide (t_9 ≥ 0)) = true
   ·rw [if_pos hc] at eq_14; rw [hc] at S
    refine wl_pureK (l' := [(23, .int .i64 t_9), (22, v0), (21, .bool true)]) S tys tys_ok 2 [23, 22, 21] (by kernel_rfl) ?_
    clear S; intro a S
    obtain ⟨y_15, ey_15, eq_14⟩ := bindS eq_14
    refine w_go S rfl (op_indexAddr S rfl ty23 rfl rfl rfl R0 rfl ey_15 ?_)
    clear S; intro a p_16 R_17 H_18 S
    refine wl_pureK (l' := [(25, .pointer (some (p_16.add (coff gf0 1)))), (21, .bool true)]) S tys tys_ok 1 [25, 21] (by kernel_rfl) ?_
    clear S; intro a S
    refine w_go S rfl (op_load (t := (.int .u8)) (x := y_15.2.1) S rfl ty29 rfl rfl rfl (RepAt.add 1 (RepAt.st (t := gf0) R_17)) ?_)
    clear S; intro a v_19 R_20 S
    obtain ⟨rfl, GR_20⟩ := RepV.int R_20
    refine wl_pureK (l' := [(28, .bool (y_15.2.1 == 2))]) S tys tys_ok 2 [28] (by kernel_rfl) ?_
    clear S; intro a S
    obtain rfl := Option.some.inj eq_14
    exact ⟨rfl, S.sub (by exact ⟨rfl, trivial⟩)⟩
   ·rw [if_neg hc] at eq_14; rw [show (decide (t_9 ≥ 0)) = false from Bool.eq_false_iff.2 hc] at S
    refine wl_pureK (l' := [(28, .bool false)]) S tys tys_ok 7 [28] (by kernel_rfl) ?_
    clear S; intro a S
    obtain rfl := Option.some.inj eq_14
    exact ⟨rfl, S.sub (by exact ⟨rfl, trivial⟩)⟩
  clear S eq_14; rintro a _ ⟨rfl, S⟩
  refine wl_pure (l' := [(4, .bool q_14), (28, .bool q_14)]) S tys tys_ok 1 (by kernel_rfl) ?_
  clear S; intro a S
  refine wpList_nil ?_
  refine then_n ?_
  replace S := S.sub (l' := [(4, .bool q_14)]) (by exact ⟨rfl, trivial⟩)
  refine wp_ret ?_
  obtain rfl := Option.some.inj h
  exact b_ret1 S rfl rfl ⟨_, rfl, RepV.mkBool, W.below⟩
theorem cb34 : callB Try.prog 34 = true := by kernel_rfl
def p69 (n : Nat) (x0 : Int) : Option ((Bool)) :=
 some (x0 != x0)
set_option maxHeartbeats 4000000 in
set_option maxRecDepth 100000 in
/-- cmp.isNaN[uint8] -/
theorem c69 (K : Nat → Prop) (n : Nat) (w : World) (x0 : Int) (G0 : InR .u8 x0) {r : (Bool)} (h : p69 n x0 = some r) :
  Calls Try.prog 69 #[.int .u8 x0] w (Ret1 .bool w (Kx K w.heap.size []) r) := by
 refine enter (args := [.int .u8 x0]) Try.func69 rfl 6 rfl rfl fun a S => ?_
 have W := Wd.start w
 unfold p69 at h
 replace S : St 6 a [(0, .int .u8 x0)] := S
 refine wp_seq ?_
 refine wp_region_lit ?_
 refine wl_pure (l' := [(2, .bool false), (0, .int .u8 x0)]) S tys tys_ok 1 (by kernel_rfl) ?_
 clear S; intro a S
 refine wpList_nil ?_
 refine then_n ?_
 replace S := S.sub (l' := [(0, .int .u8 x0)]) (by exact ⟨rfl, trivial⟩)
 refine wp_seq ?_
 refine wp_region_lit ?_
 refine wl_pureK (l' := [(2, .bool (x0 != x0))]) S tys tys_ok 4 [2] (by kernel_rfl) ?_
 clear S; intro a S
 refine wpList_nil ?_
 refine then_n ?_
 refine wp_ret ?_
 obtain rfl := Option.some.inj h
 exact b_ret1 S rfl rfl ⟨_, rfl, RepV.mkBool, W.below⟩
theorem cb69 : callB Try.prog 69 = true := by kernel_rfl
def p67 (n : Nat) (x0 : Int) (x1 : Int) : Option ((Int)) :=
 (p69 n x0).bind fun t_1 =>
 (p69 n x1).bind fun t_6 =>
 if t_1 then (if t_6 then (some 0) else some (-1)) else if t_6 then (some 1) else if (decide (x0 < x1)) then (some (-1)) else if (decide (x0 > x1)) then (some 1) else some 0
set_option maxHeartbeats 4000000 in
set_option maxRecDepth 100000 in
/-- cmp.Compare[uint8] -/
theorem c67 (K : Nat → Prop) (n : Nat) (w : World) (x0 : Int) (G0 : InR .u8 x0) (x1 : Int) (G1 : InR .u8 x1) {r : (Int)} (h : p67 n x0 x1 = some r) :
  Calls Try.prog 67 #[.int .u8 x0, .int .u8 x1] w (Ret1 (.int .i64) w (Kx K w.heap.size []) r) := by
 refine enter (args := [.int .u8 x0, .int .u8 x1]) Try.func67 rfl 20 rfl rfl fun a S => ?_
 have W := Wd.start w
 unfold p67 at h
 replace S : St 20 a [(0, .int .u8 x0), (1, .int .u8 x1)] := S
 refine wp_seq ?_
 refine wp_region_lit ?_
 refine wl_pure (l' := [(4, .int .i64 0), (0, .int .u8 x0), (1, .int .u8 x1)]) S tys tys_ok 1 (by kernel_rfl) ?_
 clear S; intro a S
 refine wpList_nil ?_
 refine then_n ?_
 replace S := S.sub (l' := [(0, .int .u8 x0), (1, .int .u8 x1)]) (by exact ⟨rfl, rfl, trivial⟩)
 refine wp_seq ?_
 refine wp_region_lit ?_
 refine wl_pure (l' := [(7, .int .u8 x0), (0, .int .u8 x0), (1, .int .u8 x1)]) S tys tys_ok 1 (by kernel_rfl) ?_
 clear S; intro a S
 obtain ⟨t_1, et_1, h⟩ := bindS h
 refine w_go S rfl (op_call (vs := [.int .u8 x0]) S rfl cb69 rfl rfl rfl (c69 (Kx K w.heap.size []) n w x0 G0 et_1) ?_)
 rintro _ w_5 ⟨v_2, rfl, R_3, hb_4⟩; refine ⟨_, rfl, ?_⟩
 replace R_3 := RepV.back R_3 W
 clear S; intro a S
 replace W := W.step hb_4
 obtain rfl := RepV.bool R_3
 refine wl_pure (l' := [(5, .bool t_1), (8, .bool t_1), (7, .int .u8 x0), (0, .int .u8 x0), (1, .int .u8 x1)]) S tys tys_ok 1 (by kernel_rfl) ?_
 clear S; intro a S
 refine wpList_nil ?_
 refine then_n ?_
 replace S := S.sub (l' := [(5, .bool t_1), (0, .int .u8 x0), (1, .int .u8 x1)]) (by exact ⟨rfl, rfl, rfl, trivial⟩)
 refine wp_seq ?_
 refine wp_region_lit ?_
 refine wl_pure (l' := [(9, .int .u8 x1), (5, .bool t_1), (0, .int .u8 x0), (1, .int .u8 x1)]) S tys tys_ok 1 (by kernel_rfl) ?_
 clear S; intro a S
 obtain ⟨t_6, et_6, h⟩ := bindS h
 refine w_go S rfl (op_call (vs := [.int .u8 x1]) S rfl cb69 rfl rfl rfl (c69 (Kx K w.heap.size []) n w_5 x1 G1 et_6) ?_)
 rintro _ w_10 ⟨v_7, rfl, R_8, hb_9⟩; refine ⟨_, rfl, ?_⟩
 replace R_8 := RepV.back R_8 W
 clear S; intro a S
 replace W := W.step hb_9
 obtain rfl := RepV.bool R_8
 refine wl_pure (l' := [(6, .bool t_6), (10, .bool t_6), (9, .int .u8 x1), (5, .bool t_1), (0, .int .u8 x0), (1, .int .u8 x1)]) S tys tys_ok 1 (by kernel_rfl) ?_
 clear S; intro a S
 refine wpList_nil ?_
 refine then_n ?_
 replace S := S.sub (l' := [(6, .bool t_6), (5, .bool t_1), (0, .int .u8 x0), (1, .int .u8 x1)]) (by exact ⟨rfl, rfl, rfl, rfl, trivial⟩)
 refine wp_seq ?_
 refine wp_seq ?_
 refine wp_region_lit ?_
 refine wl_pure (l' := [(11, .bool t_1), (6, .bool t_6), (5, .bool t_1), (0, .int .u8 x0), (1, .int .u8 x1)]) S tys tys_ok 1 (by kernel_rfl) ?_
 clear S; intro a S
 refine wpList_nil ?_
 refine then_n ?_
 replace S := S.sub (l' := [(11, .bool t_1), (6, .bool t_6), (0, .int .u8 x0), (1, .int .u8 x1)]) (by exact ⟨rfl, rfl, rfl, rfl, trivial⟩)
 refine wp_cond_split (S.eval (show ev _ _ = some (.bool t_1) from rfl)) ?_ ?_
 ·intro hc
  rw [if_pos hc] at h
  refine wp_seq ?_
  refine wp_seq ?_
  refine wp_region_lit ?_
  refine wl_pureK (l' := [(12, .bool t_6)]) S tys tys_ok 1 [12] (by kernel_rfl) ?_
  clear S; intro a S
  refine wpList_nil ?_
  refine then_n ?_
  refine wp_cond_split (S.eval (show ev _ _ = some (.bool t_6) from rfl)) ?_ ?_
  ·intro hc
   rw [if_pos hc] at h
   refine wp_seq ?_
   refine wp_region_lit ?_
   refine wl_pure (l' := [(4, .int .i64 0), (12, .bool t_6)]) S tys tys_ok 1 (by kernel_rfl) ?_
   clear S; intro a S
   refine wpList_nil ?_
   refine then_n ?_
   replace S := S.sub (l' := [(4, .int .i64 0)]) (by exact ⟨rfl, trivial⟩)
   refine wp_ret ?_
   refine then_r ?_
   refine then_r ?_
   obtain rfl := Option.some.inj h
   exact b_ret1 S rfl rfl ⟨_, rfl, (RepV.mkInt (by decide)), W.below⟩
  ·intro hc
   rw [if_neg (Bool.eq_false_iff.1 hc)] at h
   refine wp_skip ?_
   refine then_n ?_
   replace S := S.sub (l' := []) trivial
   refine wp_seq ?_
   refine wp_region_lit ?_
   refine wl_pure (l' := [(4, .int .i64 (-1))]) S tys tys_ok 1 (by kernel_rfl) ?_
   clear S; intro a S
   refine wpList_nil ?_
   refine then_n ?_
   refine wp_ret ?_
   refine then_r ?_
   obtain rfl := Option.some.inj h
   exact b_ret1 S rfl rfl ⟨_, rfl, (RepV.mkInt (by decide)), W.below⟩
 ·intro hc
  rw [if_neg (Bool.eq_false_iff.1 hc)] at h
  refine wp_skip ?_
  refine then_n ?_
  replace S := S.sub (l' := [(6, .bool t_6), (0, .int .u8 x0), (1, .int .u8 x1)]) (by exact ⟨rfl, rfl, rfl, trivial⟩)
  refine wp_seq ?_
  refine wp_seq ?_
  refine wp_region_lit ?_
  refine wl_pure (l' := [(13, .bool t_6), (6, .bool t_6), (0, .int .u8 x0), (1, .int .u8 x1)]) S tys tys_ok 1 (by kernel_rfl) ?_
  clear S; intro a S
  refine wpList_nil ?_
  refine then_n ?_
  replace S := S.sub (l' := [(13, .bool t_6), (0, .int .u8 x0), (1, .int .u8 x1)]) (by exact ⟨rfl, rfl, rfl, trivial⟩)
  refine wp_cond_split (S.eval (show ev _ _ = some (.bool t_6) from rfl)) ?_ ?_
  ·intro hc
   rw [if_pos hc] at h
   refine wp_seq ?_
   refine wp_region_lit ?_
   refine wl_pureK (l' := [(4, .int .i64 1)]) S tys tys_ok 1 [4] (by kernel_rfl) ?_
   clear S; intro a S
   refine wpList_nil ?_
   refine then_n ?_
   refine wp_ret ?_
   refine then_r ?_
   obtain rfl := Option.some.inj h
   exact b_ret1 S rfl rfl ⟨_, rfl, (RepV.mkInt (by decide)), W.below⟩
  ·intro hc
   rw [if_neg (Bool.eq_false_iff.1 hc)] at h
   refine wp_skip ?_
   refine then_n ?_
   replace S := S.sub (l' := [(0, .int .u8 x0), (1, .int .u8 x1)]) (by exact ⟨rfl, rfl, trivial⟩)
   refine wp_seq ?_
   refine wp_seq ?_
   refine wp_region_lit ?_
   refine wl_pure (l' := [(16, .bool (decide (x0 < x1))), (15, .int .u8 x1), (14, .int .u8 x0), (0, .int .u8 x0), (1, .int .u8 x1)]) S tys tys_ok 3 (by kernel_rfl) ?_
   clear S; intro a S
   refine wpList_nil ?_
   refine then_n ?_
   replace S := S.sub (l' := [(16, .bool (decide (x0 < x1))), (0, .int .u8 x0), (1, .int .u8 x1)]) (by exact ⟨rfl, rfl, rfl, trivial⟩)
   refine wp_cond_split (S.eval (show ev _ _ = some (.bool (decide (x0 < x1))) from rfl)) ?_ ?_
   ·intro hc
    rw [if_pos hc] at h
    refine wp_seq ?_
    refine wp_region_lit ?_
    refine wl_pureK (l' := [(4, .int .i64 (-1))]) S tys tys_ok 1 [4] (by kernel_rfl) ?_
    clear S; intro a S
    refine wpList_nil ?_
    refine then_n ?_
    refine wp_ret ?_
    refine then_r ?_
    obtain rfl := Option.some.inj h
    exact b_ret1 S rfl rfl ⟨_, rfl, (RepV.mkInt (by decide)), W.below⟩
   ·intro hc
    rw [if_neg (Bool.eq_false_iff.1 hc)] at h
    refine wp_skip ?_
    refine then_n ?_
    replace S := S.sub (l' := [(0, .int .u8 x0), (1, .int .u8 x1)]) (by exact ⟨rfl, rfl, trivial⟩)
    refine wp_seq ?_
    refine wp_seq ?_
    refine wp_region_lit ?_
    refine wl_pureK (l' := [(19, .bool (decide (x0 > x1)))]) S tys tys_ok 3 [19] (by kernel_rfl) ?_
    clear S; intro a S
    refine wpList_nil ?_
    refine then_n ?_
    refine wp_cond_split (S.eval (show ev _ _ = some (.bool (decide (x0 > x1))) from rfl)) ?_ ?_
    ·intro hc
     rw [if_pos hc] at h
     refine wp_seq ?_
     refine wp_region_lit ?_
     refine wl_pure (l' := [(4, .int .i64 1), (19, .bool (decide (x0 > x1)))]) S tys tys_ok 1 (by kernel_rfl) ?_
     clear S; intro a S
     refine wpList_nil ?_
     refine then_n ?_
     replace S := S.sub (l' := [(4, .int .i64 1)]) (by exact ⟨rfl, trivial⟩)
     refine wp_ret ?_
     refine then_r ?_
     obtain rfl := Option.some.inj h
     exact b_ret1 S rfl rfl ⟨_, rfl, (RepV.mkInt (by decide)), W.below⟩
    ·intro hc
     rw [if_neg (Bool.eq_false_iff.1 hc)] at h
     refine wp_skip ?_
     refine then_n ?_
     replace S := S.sub (l' := []) trivial
     refine wp_seq ?_
     refine wp_region_lit ?_
     refine wl_pure (l' := [(4, .int .i64 0)]) S tys tys_ok 1 (by kernel_rfl) ?_
     clear S; intro a S
     refine wpList_nil ?_
     refine then_n ?_
     refine wp_ret ?_
     obtain rfl := Option.some.inj h
     exact b_ret1 S rfl rfl ⟨_, rfl, (RepV.mkInt (by decide)), W.below⟩
theorem cb67 : callB Try.prog 67 = true := by kernel_rfl
def p58_l1 (n : Nat) (x0 : Sl (Int)) (x1 : Sl (Int)) : Nat → (Int) → Option ((Unit) ⊕ ((Int)))
 | 0, _ => .none
 | m + 1, c_2 => if (decide (c_2 < (lenI x0))) then ((idx x0.xs c_2).bind fun y_11 => if (decide (c_2 ≥ (lenI x1))) then (some (.inr 1)) else (idx x1.xs c_2).bind fun y_18 => (p67 n y_11 y_18).bind fun t_24 => if (t_24 != 0) then (some (.inr t_24)) else (ckI .i64 (c_2 + 1)).bind fun x_29 => p58_l1 n x0 x1 m x_29) else some (.inl ())
def p58 (n : Nat) (x0 : Sl (Int)) (x1 : Sl (Int)) : Option ((Int)) :=
 (p58_l1 n x0 x1 n 0).bind fun (y_6 : (Unit) ⊕ ((Int))) =>
 lrK y_6 some fun (s_7 : Unit) =>
 if (decide ((lenI x0) < (lenI x1))) then (some (-1)) else some 0
set_option maxHeartbeats 4000000 in
set_option maxRecDepth 100000 in
/-- slices.Compare[plugboard/topologies.Path,uint8] -/
theorem c58 (K : Nat → Prop) (n : Nat) (w : World) (x0 : Sl (Int)) (v0 : Value) (R0 : RepV (.sl (.int .u8)) w K v0 x0) (x1 : Sl (Int)) (v1 : Value) (R1 : RepV (.sl (.int .u8)) w K v1 x1) {r : (Int)} (h : p58 n x0 x1 = some r) :
  Calls Try.prog 58 #[v0, v1] w (Ret1 (.int .i64) w (Kx K w.heap.size []) r) := by
 refine enter (args := [v0, v1]) Try.func58 rfl 36 rfl rfl fun a S => ?_
 have W := Wd.start w
 replace R0 := R0.arg
 replace R1 := R1.arg
 unfold p58 at h
 replace S : St 36 a [(0, v0), (1, v1)] := S
 refine wp_seq ?_
 refine wp_region_lit ?_
 refine wl_pure (l' := [(4, .int .i64 0), (0, v0), (1, v1)]) S tys tys_ok 1 (by kernel_rfl) ?_
 clear S; intro a S
 refine wpList_nil ?_
 refine then_n ?_
 replace S := S.sub (l' := [(0, v0), (1, v1)]) (by exact ⟨rfl, rfl, trivial⟩)
 refine wp_seq ?_
 refine wp_seq ?_
 refine wp_region_lit ?_
 refine wl_pure (l' := [(9, v0), (0, v0), (1, v1)]) S tys tys_ok 1 (by kernel_rfl) ?_
 clear S; intro a S
 refine w_go S rfl (op_len (K := _) S rfl ty25 rfl rfl rfl R0 ?_)
 clear S; intro a G_1 S
 refine wl_pure (l' := [(11, .int .i64 0), (10, .int .i64 (lenI x0)), (9, v0), (0, v0), (1, v1)]) S tys tys_ok 1 (by kernel_rfl) ?_
 clear S; intro a S
 refine wpList_nil ?_
 refine then_n ?_
 obtain ⟨y_6, ey_6, h⟩ := bindS h
 refine wp_cut_ (fun a_ w_ => ∃ s_7 : Unit, y_6 = .inl s_7 ∧ (St 36 a_ [(0, v0), (1, v1)] ∧ Wd w w_ [] ∧ RepV (.sl (.int .u8)) w_ (Kx K w.heap.size []) v0 x0 ∧ RepV (.sl (.int .u8)) w_ (Kx K w.heap.size []) v1 x1)) ?_ ?_
 ·refine wp_block ?_
  refine wp_loop_n (fun m_ a_ w_ => ∃ (c_2 : Int) , St 36 a_ [(11, .int .i64 c_2), (10, .int .i64 (lenI x0)), (9, v0), (0, v0), (1, v1)] ∧ Wd w w_ [] ∧ InR .i64 c_2 ∧ RepV (.sl (.int .u8)) w_ (Kx K w.heap.size []) v0 x0 ∧ RepV (.sl (.int .u8)) w_ (Kx K w.heap.size []) v1 x1 ∧ p58_l1 n x0 x1 m_ c_2 = some y_6) n ?_ ?_
  ·skip
   exact ⟨0, ⟨S.sub (by exact ⟨rfl, rfl, rfl, rfl, rfl, trivial⟩), W, (show InR .i64 0 by decide), R0, R1, ey_6⟩⟩
  ·clear S W; rintro m_8 a w_10 ⟨c_2, S, W, G_3, R0, R1, hl_9⟩
   cases m_8 with
   | zero => exact absurd hl_9 (by simp [p58_l1])
   | succ m_8 =>
    refine ⟨m_8, rfl, ?_⟩
    rw [p58_l1] at hl_9
    refine wp_seq ?_
    refine wp_region_lit ?_
    refine wl_pure (l' := [(12, .bool (decide (c_2 < (lenI x0)))), (11, .int .i64 c_2), (10, .int .i64 (lenI x0)), (9, v0), (0, v0), (1, v1)]) S tys tys_ok 1 (by kernel_rfl) ?_
    clear S; intro a S
    refine wpList_nil ?_
    refine then_n ?_
    refine wp_seq ?_
    refine wp_cond_split (S.eval (show ev _ _ = some (.bool (decide (c_2 < (lenI x0)))) from rfl)) ?_ ?_
    ·intro hc
     rw [if_pos hc] at hl_9
     refine wp_skip ?_
     refine then_n ?_
     replace S := S.sub (l' := [(11, .int .i64 c_2), (10, .int .i64 (lenI x0)), (9, v0), (0, v0), (1, v1)]) (by exact ⟨rfl, rfl, rfl, rfl, rfl, trivial⟩)
     refine wp_seq ?_
     refine wp_block ?_
     refine wp_seq ?_
     refine wp_region_lit ?_
     refine wl_pure (l' := [(13, .int .i64 c_2), (11, .int .i64 c_2), (10, .int .i64 (lenI x0)), (9, v0), (0, v0), (1, v1)]) S tys tys_ok 1 (by kernel_rfl) ?_
     clear S; intro a S
     obtain ⟨y_11, ey_11, hl_9⟩ := bindS hl_9
     refine w_go S rfl (op_indexAddr S rfl ty25 rfl rfl rfl R0 rfl ey_11 ?_)
     clear S; intro a p_12 R_13 H_14 S
     refine w_go S rfl (op_load (t := (.int .u8)) (x := y_11) S rfl ty5 rfl rfl rfl R_13 ?_)
     clear S; intro a v_15 R_16 S
     obtain ⟨rfl, GR_16⟩ := RepV.int R_16
     refine wl_pureK (l' := [(6, .int .u8 y_11), (5, .int .i64 c_2), (11, .int .i64 c_2), (10, .int .i64 (lenI x0)), (9, v0), (0, v0), (1, v1)]) S tys tys_ok 2 [6, 5, 11, 10, 9, 0, 1] (by kernel_rfl) ?_
     clear S; intro a S
     refine wpList_nil ?_
     refine then_n ?_
     refine wp_seq ?_
     refine wp_seq ?_
     refine wp_region_lit ?_
     refine wl_pure (l' := [(17, v1), (16, .int .i64 c_2), (6, .int .u8 y_11), (5, .int .i64 c_2), (11, .int .i64 c_2), (10, .int .i64 (lenI x0)), (9, v0), (0, v0), (1, v1)]) S tys tys_ok 2 (by kernel_rfl) ?_
     clear S; intro a S
     refine w_go S rfl (op_len (K := _) S rfl ty25 rfl rfl rfl R1 ?_)
     clear S; intro a G_17 S
     refine wl_pureK (l' := [(19, .bool (decide (c_2 ≥ (lenI x1)))), (6, .int .u8 y_11), (5, .int .i64 c_2), (11, .int .i64 c_2), (10, .int .i64 (lenI x0)), (9, v0), (0, v0), (1, v1)]) S tys tys_ok 1 [19, 6, 5, 11, 10, 9, 0, 1] (by kernel_rfl) ?_
     clear S; intro a S
     refine wpList_nil ?_
     refine then_n ?_
     refine wp_cond_split (S.eval (show ev _ _ = some (.bool (decide (c_2 ≥ (lenI x1)))) from rfl)) ?_ ?_
     ·intro hc
      rw [if_pos hc] at hl_9
      refine wp_seq ?_
      refine wp_region_lit ?_
      refine wl_pureK (l' := [(4, .int .i64 1)]) S tys tys_ok 1 [4] (by kernel_rfl) ?_
      clear S; intro a S
      refine wpList_nil ?_
      refine then_n ?_
      refine wp_ret ?_
      refine then_r ?_
      refine blk_r ?_
      refine then_r ?_
      refine then_r ?_
      refine blk_r ?_
      refine then_r ?_
      refine then_r ?_
      obtain rfl := Option.some.inj hl_9
      obtain rfl := lr_inr h
      exact b_ret1 S rfl rfl ⟨_, rfl, (RepV.mkInt (by decide)), W.below⟩
     ·intro hc
      rw [if_neg (Bool.eq_false_iff.1 hc)] at hl_9
      refine wp_skip ?_
      refine then_n ?_
      replace S := S.sub (l' := [(6, .int .u8 y_11), (5, .int .i64 c_2), (11, .int .i64 c_2), (10, .int .i64 (lenI x0)), (9, v0), (0, v0), (1, v1)]) (by exact ⟨rfl, rfl, rfl, rfl, rfl, rfl, rfl, trivial⟩)
      refine wp_seq ?_
      refine wp_region_lit ?_
      refine wl_pure (l' := [(21, .int .i64 c_2), (20, v1), (6, .int .u8 y_11), (5, .int .i64 c_2), (11, .int .i64 c_2), (10, .int .i64 (lenI x0)), (9, v0), (0, v0), (1, v1)]) S tys tys_ok 2 (by kernel_rfl) ?_
      clear S; intro a S
      obtain ⟨y_18, ey_18, hl_9⟩ := bindS hl_9
      refine w_go S rfl (op_indexAddr S rfl ty25 rfl rfl rfl R1 rfl ey_18 ?_)
      clear S; intro a p_19 R_20 H_21 S
      refine w_go S rfl (op_load (t := (.int .u8)) (x := y_18) S rfl ty5 rfl rfl rfl R_20 ?_)
      clear S; intro a v_22 R_23 S
      obtain ⟨rfl, GR_23⟩ := RepV.int R_23
      refine wl_pureK (l' := [(7, .int .u8 y_18), (6, .int .u8 y_11), (11, .int .i64 c_2), (10, .int .i64 (lenI x0)), (9, v0), (0, v0), (1, v1)]) S tys tys_ok 1 [7, 6, 11, 10, 9, 0, 1] (by kernel_rfl) ?_
      clear S; intro a S
      refine wpList_nil ?_
      refine then_n ?_
      refine wp_seq ?_
      refine wp_region_lit ?_
      refine wl_pure (l' := [(25, .int .u8 y_18), (24, .int .u8 y_11), (7, .int .u8 y_18), (6, .int .u8 y_11), (11, .int .i64 c_2), (10, .int .i64 (lenI x0)), (9, v0), (0, v0), (1, v1)]) S tys tys_ok 2 (by kernel_rfl) ?_
      clear S; intro a S
      obtain ⟨t_24, et_24, hl_9⟩ := bindS hl_9
      refine w_go S rfl (op_call (vs := [.int .u8 y_11, .int .u8 y_18]) S rfl cb67 rfl rfl rfl (c67 (Kx K w.heap.size []) n w_10 y_11 GR_16 y_18 GR_23 et_24) ?_)
      rintro _ w_28 ⟨v_25, rfl, R_26, hb_27⟩; refine ⟨_, rfl, ?_⟩
      replace R_26 := RepV.back R_26 W
      clear S; intro a S
      replace R0 := R0.step hb_27
      replace R1 := R1.step hb_27
      replace W := W.step hb_27
      obtain ⟨rfl, GR_26⟩ := RepV.int R_26
      refine wl_pureK (l' := [(8, .int .i64 t_24), (11, .int .i64 c_2), (10, .int .i64 (lenI x0)), (9, v0), (0, v0), (1, v1)]) S tys tys_ok 1 [8, 11, 10, 9, 0, 1] (by kernel_rfl) ?_
      clear S; intro a S
      refine wpList_nil ?_
      refine then_n ?_
      refine wp_seq ?_
      refine wp_region_lit ?_
      refine wl_pure (l' := [(28, .bool (t_24 != 0)), (27, .int .i64 t_24), (8, .int .i64 t_24), (11, .int .i64 c_2), (10, .int .i64 (lenI x0)), (9, v0), (0, v0), (1, v1)]) S tys tys_ok 2 (by kernel_rfl) ?_
      clear S; intro a S
      refine wpList_nil ?_
      refine then_n ?_
      replace S := S.sub (l' := [(28, .bool (t_24 != 0)), (8, .int .i64 t_24), (11, .int .i64 c_2), (10, .int .i64 (lenI x0)), (9, v0), (0, v0), (1, v1)]) (by exact ⟨rfl, rfl, rfl, rfl, rfl, rfl, rfl, trivial⟩)
      refine wp_cond_split (S.eval (show ev _ _ = some (.bool (t_24 != 0)) from rfl)) ?_ ?_
      ·intro hc
       rw [if_pos hc] at hl_9
       refine wp_seq ?_
       refine wp_region_lit ?_
       refine wl_pureK (l' := [(4, .int .i64 t_24)]) S tys tys_ok 2 [4] (by kernel_rfl) ?_
       clear S; intro a S
       refine wpList_nil ?_
       refine then_n ?_
       refine wp_ret ?_
       refine blk_r ?_
       refine then_r ?_
       refine then_r ?_
       refine blk_r ?_
       refine then_r ?_
       refine then_r ?_
       obtain rfl := Option.some.inj hl_9
       obtain rfl := lr_inr h
       exact b_ret1 S rfl rfl ⟨_, rfl, (RepV.mkInt GR_26), W.below⟩
      ·intro hc
       rw [if_neg (Bool.eq_false_iff.1 hc)] at hl_9
       refine wp_skip ?_
       refine blk_n ?_
       refine then_n ?_
       replace S := S.sub (l' := [(11, .int .i64 c_2), (10, .int .i64 (lenI x0)), (9, v0), (0, v0), (1, v1)]) (by exact ⟨rfl, rfl, rfl, rfl, rfl, trivial⟩)
       refine wp_region_lit ?_
       obtain ⟨x_29, ex_29, hl_9⟩ := bindS hl_9
       refine w_go S rfl (op_arith S .i64 (c_2 + 1) rfl (.inl rfl) rfl rfl rfl rfl ex_29 ?_)
       clear S; intro a S
       refine wl_pure (l' := [(11, .int .i64 x_29), (30, .int .i64 x_29), (11, .int .i64 c_2), (10, .int .i64 (lenI x0)), (9, v0), (0, v0), (1, v1)]) S tys tys_ok 1 (by kernel_rfl) ?_
       clear S; intro a S
       refine wpList_nil ?_
       refine then_n ?_
       exact ⟨x_29, ⟨S.sub (by exact ⟨rfl, rfl, rfl, rfl, rfl, trivial⟩), W, (ckI_some ex_29).2.1, R0, R1, hl_9⟩⟩
    ·intro hc
     rw [if_neg (Bool.eq_false_iff.1 hc)] at hl_9
     refine wp_exit ?_
     refine then_x ?_
     refine then_x ?_
     refine blk_hit ?_
     refine then_n ?_
     obtain rfl := Option.some.inj hl_9
     exact ⟨_, rfl, ⟨S.sub (by exact ⟨rfl, rfl, trivial⟩), W, R0, R1⟩⟩
 clear S W; rintro a w_30 ⟨s_7, rfl, S, W, R0, R1⟩
 replace h := lr_inl h; try dsimp only at h
 refine then_n ?_
 refine wp_seq ?_
 refine wp_seq ?_
 refine wp_region_lit ?_
 refine wl_pure (l' := [(31, v0), (0, v0), (1, v1)]) S tys tys_ok 1 (by kernel_rfl) ?_
 clear S; intro a S
 refine w_go S rfl (op_len (K := _) S rfl ty25 rfl rfl rfl R0 ?_)
 clear S; intro a G_31 S
 refine wl_pureK (l' := [(33, v1), (32, .int .i64 (lenI x0))]) S tys tys_ok 1 [33, 32] (by kernel_rfl) ?_
 clear S; intro a S
 refine w_go S rfl (op_len (K := _) S rfl ty25 rfl rfl rfl R1 ?_)
 clear S; intro a G_32 S
 refine wl_pureK (l' := [(35, .bool (decide ((lenI x0) < (lenI x1))))]) S tys tys_ok 1 [35] (by kernel_rfl) ?_
 clear S; intro a S
 refine wpList_nil ?_
 refine then_n ?_
 refine wp_cond_split (S.eval (show ev _ _ = some (.bool (decide ((lenI x0) < (lenI x1)))) from rfl)) ?_ ?_
 ·intro hc
  rw [if_pos hc] at h
  refine wp_seq ?_
  refine wp_region_lit ?_
  refine wl_pure (l' := [(4, .int .i64 (-1)), (35, .bool (decide ((lenI x0) < (lenI x1))))]) S tys tys_ok 1 (by kernel_rfl) ?_
  clear S; intro a S
  refine wpList_nil ?_
  refine then_n ?_
  replace S := S.sub (l' := [(4, .int .i64 (-1))]) (by exact ⟨rfl, trivial⟩)
  refine wp_ret ?_
  refine then_r ?_
  obtain rfl := Option.some.inj h
  exact b_ret1 S rfl rfl ⟨_, rfl, (RepV.mkInt (by decide)), W.below⟩
 ·intro hc
  rw [if_neg (Bool.eq_false_iff.1 hc)] at h
  refine wp_skip ?_
  refine then_n ?_
  replace S := S.sub (l' := []) trivial
  refine wp_seq ?_
  refine wp_region_lit ?_
  refine wl_pure (l' := [(4, .int .i64 0)]) S tys tys_ok 1 (by kernel_rfl) ?_
  clear S; intro a S
  refine wpList_nil ?_
  refine then_n ?_
  refine wp_ret ?_
  obtain rfl := Option.some.inj h
  exact b_ret1 S rfl rfl ⟨_, rfl, (RepV.mkInt (by decide)), W.below⟩
theorem cb58 : callB Try.prog 58 = true := by kernel_rfl
def p35 (n : Nat) (x0 : Sl (Int)) (x1 : Sl (Int)) : Option ((Int)) :=
 (p58 n x0 x1).bind fun t_1 =>
 some t_1
set_option maxHeartbeats 4000000 in
set_option maxRecDepth 100000 in
/-- plugboard/topologies.Compare -/
theorem c35 (K : Nat → Prop) (n : Nat) (w : World) (x0 : Sl (Int)) (v0 : Value) (R0 : RepV (.sl (.int .u8)) w K v0 x0) (x1 : Sl (Int)) (v1 : Value) (R1 : RepV (.sl (.int .u8)) w K v1 x1) {r : (Int)} (h : p35 n x0 x1 = some r) :
  Calls Try.prog 35 #[v0, v1] w (Ret1 (.int .i64) w (Kx K w.heap.size []) r) := by
 refine enter (args := [v0, v1]) Try.func35 rfl 8 rfl rfl fun a S => ?_
 have W := Wd.start w
 replace R0 := R0.arg
 replace R1 := R1.arg
 unfold p35 at h
 replace S : St 8 a [(0, v0), (1, v1)] := S
 refine wp_seq ?_
 refine wp_region_lit ?_
 refine wl_pure (l' := [(4, .int .i64 0), (0, v0), (1, v1)]) S tys tys_ok 1 (by kernel_rfl) ?_
 clear S; intro a S
 refine wpList_nil ?_
 refine then_n ?_
 replace S := S.sub (l' := [(0, v0), (1, v1)]) (by exact ⟨rfl, rfl, trivial⟩)
 refine wp_seq ?_
 refine wp_region_lit ?_
 refine wl_pure (l' := [(6, v1), (5, v0), (0, v0), (1, v1)]) S tys tys_ok 2 (by kernel_rfl) ?_
 clear S; intro a S
 obtain ⟨t_1, et_1, h⟩ := bindS h
 refine w_go S rfl (op_call (vs := [v0, v1]) S rfl cb58 rfl rfl rfl (c58 (Kx K w.heap.size []) n w x0 _ R0 x1 _ R1 et_1) ?_)
 rintro _ w_5 ⟨v_2, rfl, R_3, hb_4⟩; refine ⟨_, rfl, ?_⟩
 replace R_3 := RepV.back R_3 W
 clear S; intro a S
 replace R0 := R0.step hb_4
 replace R1 := R1.step hb_4
 replace W := W.step hb_4
 obtain ⟨rfl, GR_3⟩ := RepV.int R_3
 refine wl_pureK (l' := [(4, .int .i64 t_1)]) S tys tys_ok 1 [4] (by kernel_rfl) ?_
 clear S; intro a S
 refine wpList_nil ?_
 refine then_n ?_
 refine wp_ret ?_
 obtain rfl := Option.some.inj h
 exact b_ret1 S rfl rfl ⟨_, rfl, (RepV.mkInt GR_3), W.below⟩
theorem cb35 : callB Try.prog 35 = true := by kernel_rfl
def p36 (n : Nat) (y0 : List Int) (x1 : Int) : Option ((Bool) × (List Int)) :=
 some ((!(decide (x1 ∈ y0))), (insK x1 y0))
set_option maxHeartbeats 4000000 in
set_option maxRecDepth 100000 in
/-- (plugboard/events.set[uint8]).add -/
theorem c36 (K : Nat → Prop) (n : Nat) (w wA : World) (LO : List (Option Nat)) (b0 : Nat) (y0 : List Int) (M0 : Mp .u8 wA b0 y0) (x1 : Int) (G1 : InR .u8 x1) (W : Wd w wA (some b0 :: LO)) {r : (Bool) × (List Int)} (h : p36 n y0 x1 = some r) :
  Calls Try.prog 36 #[.agg #[.map (some b0)], .int .u8 x1] wA (fun e_ w_ => ∃ v0_ : Value, e_ = .returned v0_ ∧ RepV .bool w_ (Kx K w.heap.size (some b0 :: LO)) v0_ r.1 ∧ Mp .u8 w_ b0 r.2 ∧ Yst w.heap.size wA [some b0] w_ [some b0]) := by
 refine enter (args := [.agg #[.map (some b0)], .int .u8 x1]) Try.func36 rfl 15 rfl rfl fun a S => ?_
 have RD := Rnd.start wA [some b0]
 unfold p36 at h
 replace S : St 15 a [(0, .agg #[.map (some b0)]), (1, .int .u8 x1)] := S
 refine wp_seq ?_
 refine wp_region_lit ?_
 refine w_go S rfl (op_box_set S rfl rfl rfl rfl ?_)
 clear S; intro a w_3 b_1 hb_4 B_2 S
 replace M0 := M0.box hb_4
 replace RD := RD.box hb_4
 replace W := W.box hb_4
 refine wl_pure (l' := [(4, .bool false), (2, pB b_1), (0, .agg #[.map (some b0)]), (1, .int .u8 x1)]) S tys tys_ok 1 (by kernel_rfl) ?_
 clear S; intro a S
 refine wpList_nil ?_
 refine then_n ?_
 replace S := S.sub (l' := [(2, pB b_1), (1, .int .u8 x1)]) (by exact ⟨rfl, rfl, trivial⟩)
 refine wp_seq ?_
 refine wp_region_lit ?_
 refine w_go S rfl (op_fa_set S st72 rfl rfl rfl rfl ?_)
 clear S; intro a S
 refine w_go S rfl (op_loadm_set S st72 rfl rfl rfl rfl B_2 ?_)
 clear S; intro a S
 refine wl_pure (l' := [(8, .int .u8 x1), (7, .map (some b0)), (6, pB b_1), (2, pB b_1), (1, .int .u8 x1)]) S tys tys_ok 1 (by kernel_rfl) ?_
 clear S; intro a S
 refine w_go S rfl (op_lookup_set S st72 rfl rfl rfl rfl rfl M0 ?_)
 clear S; intro a S
 refine wl_pureK (l' := [(5, .bool (decide (x1 ∈ y0))), (2, pB b_1), (1, .int .u8 x1)]) S tys tys_ok 1 [5, 2, 1] (by kernel_rfl) ?_
 clear S; intro a S
 refine wpList_nil ?_
 refine then_n ?_
 refine wp_seq ?_
 refine wp_region_lit ?_
 refine w_go S rfl (op_fa_set S st72 rfl rfl rfl rfl ?_)
 clear S; intro a S
 refine w_go S rfl (op_loadm_set S st72 rfl rfl rfl rfl B_2 ?_)
 clear S; intro a S
 refine wl_pureK (l' := [(12, .int .u8 x1), (11, .map (some b0)), (5, .bool (decide (x1 ∈ y0)))]) S tys tys_ok 1 [12, 11, 5] (by kernel_rfl) ?_
 clear S; intro a S
 refine w_go S rfl (op_mapUpdate_set S st72 rfl rfl rfl rfl rfl M0 ?_)
 intro w_5 hw_6 B_
 replace B_2 := B_2.wrote hw_6 (by simp) (W.bne (p := 0) (q := 1) (by decide) rfl rfl)
 replace RD := RD.wrote hw_6 (by simp)
 replace W := W.wrote hw_6 (by simp)
 replace M0 : Mp .u8 w_5 b0 (insK x1 y0) := B_; clear B_
 refine wpList_nil ?_
 refine then_n ?_
 replace S := S.sub (l' := [(5, .bool (decide (x1 ∈ y0)))]) (by exact ⟨rfl, trivial⟩)
 refine wp_seq ?_
 refine wp_region_lit ?_
 refine wl_pureK (l' := [(4, .bool (!(decide (x1 ∈ y0))))]) S tys tys_ok 3 [4] (by kernel_rfl) ?_
 clear S; intro a S
 refine wpList_nil ?_
 refine then_n ?_
 refine wp_ret ?_
 obtain rfl := Option.some.inj h
 exact b_res1 S rfl (res_tmp S rfl) ⟨_, rfl, RepV.mkBool, (M0.lessAt 0), Rnd.yst (RD.lessAt 0) (Wd.front (P := [some b0]) (LO := LO) (W.lessAt 0))⟩
theorem cb36 : callB Try.prog 36 = true := by kernel_rfl

end Go.Proofs.Ytmcpcdmonglkjaa
